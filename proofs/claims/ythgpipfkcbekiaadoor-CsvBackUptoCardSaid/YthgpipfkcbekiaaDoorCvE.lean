
/- Chapter 6: rows of fields: all rows of a text. -/
import Derived.Test.YthgpipfkcbekiaaDoorCvD
set_option linter.all false
namespace Go.Proofs.YthgpipfkcbekiaaDoor.Cv
open Go Go.Ab Go.RowKit
variable {Γ : Nat → AV}
attribute [local irreducible] APure Sto.set Sto.grow
set_option maxRecDepth 10000
set_option maxHeartbeats 1000000

abbrev Rows := List (List (List UInt8))
/-- All rows of a text, behind r rows, and what is wrong. -/
def allF : Nat → Int → List UInt8 → Rows × Int × Int × Int
  | 0, _, _ => ([], 0, 0, 0)
  | k + 1, r, l => if l = [] then ([], 0, 0, 0) else match row l with
    | .error (x, c) => ([], x, r + 1, c)
    | .ok (m, z) => (m :: (allF k (r + 1) (l.drop z)).1, (allF k (r + 1) (l.drop z)).2)
def all (l : List UInt8) : Rows × Int × Int × Int := allF (l.length + 1) 0 l
def pre (o : Rows) (y : Rows × Int × Int × Int) : Rows × Int × Int × Int := (o ++ y.1, y.2)
theorem pre_pre (o p : Rows) (y : Rows × Int × Int × Int) : pre o (pre p y) = pre (o ++ p) y := by simp [pre]
theorem pre_nil (y : Rows × Int × Int × Int) : pre [] y = y := by simp [pre]
theorem allF_end (k : Nat) (r : Int) : allF (k + 1) r [] = ([], 0, 0, 0) := by rw [allF, if_pos rfl]
theorem allF_bad {k : Nat} {r x c : Int} {l : List UInt8} (h : l ≠ []) (hx : row l = .error (x, c)) : allF (k + 1) r l = ([], x, r + 1, c) := by rw [allF, if_neg h, hx]
theorem allF_ok {k : Nat} {r : Int} {l : List UInt8} {m : List (List UInt8)} {z : Nat} (h : l ≠ []) (hx : row l = .ok (m, z)) : allF (k + 1) r l = pre [m] (allF k (r + 1) (l.drop z)) := by
  rw [allF, if_neg h, hx]; rfl
theorem allF_fuel : ∀ (k j : Nat) (r : Int) (l : List UInt8), l.length < k → l.length < j → allF k r l = allF j r l
  | 0, _, r, l => fun h => by omega
  | _, 0, r, l => fun _ h => by omega
  | k + 1, j + 1, r, l => fun h h' => by
    by_cases hl : l = []
    · rw [hl, allF_end, allF_end]
    · rcases hx : row l with ⟨x, c⟩ | ⟨m, z⟩
      · rw [allF_bad hl hx, allF_bad hl hx]
      · have := (rowF_ok_bound _ _ _ _ hx).2.1 hl
        have hp := List.length_pos_iff.2 hl
        rw [allF_ok hl hx, allF_ok hl hx, allF_fuel k j _ _ (by rw [List.length_drop]; omega) (by rw [List.length_drop]; omega)]
def rowsA (l : Rows) : List (List AV) := l.map fun r => [.slice 0 (strsA r)]
theorem rowsA_len (l : Rows) : (rowsA l).length = l.length := List.length_map ..
theorem fgE_rows (l : Rows) : fgE (rowsA l) = rowsA l := fgE_map (A := fun r => [AV.slice 0 (strsA r)]) (fun r => by unfold fgL fgL fg; rw [fgE_strs]) l
def allA (x : Rows × Int × Int × Int) : AV := .tuple [.slice 0 (rowsA x.1), .agg [.int .i64 x.2.1, .int .i64 x.2.2.1, .int .i64 x.2.2.2]]
theorem Rd.grow {s : Sto} {br bp : Nat} {S : List UInt8} {a : Nat} {r : Int} {e : Int × Int × Int} (h : Rd s br bp S a r e) (t t' : Nat) (T : TypeId) (k : Nat) : Rd (s.grow t t' T k) br bp S a r e :=
  ⟨grow_bx.trans h.rd, grow_bx.trans h.pl, h.ne⟩
/-- What Next tells, whatever it is. -/
theorem next_any (hE : AsF.ErrT Γ) {s : Sto} {br bp : Nat} {S : List UInt8} {a : Nat} {r : Int} (hR : Rd s br bp S a r (0, 0, 0)) (ha : a ≤ S.length) (hS : S.length ≤ 4194304) (hr : 0 ≤ r ∧ r ≤ 100000000) :
    ACalls Tryd.prog Γ 16 [.ptr (some ⟨br, 0, none⟩)] s fun v s' => Stays (B2 br bp) s s' ∧
      ((v = .tuple [.slice 1 [], .bool false] ∧ ∃ e, Rd s' br bp S a r e ∧ ∀ k, S.length - a < k → allF k r (S.drop a) = ([], e)) ∨
       (∃ m z, v = .tuple [.slice 0 (strsA m), .bool true] ∧ 1 ≤ z ∧ a + z ≤ S.length ∧ Rd s' br bp S (a + z) (r + 1) (0, 0, 0) ∧ ∀ k, S.length - a < k → allF k r (S.drop a) = pre [m] (allF k (r + 1) (S.drop (a + z))))) := by
  by_cases he : a = S.length
  · refine (nextDone_ok hR ha hS (.inr he)).mono ?_
    rintro v s' ⟨rfl, rfl⟩
    refine ⟨Stays.refl _ _, .inl ⟨rfl, _, hR, fun k hk => ?_⟩⟩
    obtain ⟨j, rfl⟩ : ∃ j, k = j + 1 := ⟨k - 1, by omega⟩
    rw [he, List.drop_length, allF_end]
  · have hlt : a < S.length := by omega
    have hne : S.drop a ≠ [] := by rw [Ne, ← List.length_eq_zero_iff, List.length_drop]; omega
    rcases hx : row (S.drop a) with ⟨x, c⟩ | ⟨m, z⟩
    · refine (nextBad_ok hE hR hlt hS hr hx).mono ?_
      rintro v s' ⟨rfl, h1, h2⟩
      refine ⟨h2, .inl ⟨rfl, _, h1, fun k hk => ?_⟩⟩
      obtain ⟨j, rfl⟩ : ∃ j, k = j + 1 := ⟨k - 1, by omega⟩
      rw [allF_bad hne hx]
    · have hb := rowF_ok_bound _ _ _ _ hx
      rw [List.length_drop] at hb
      have hz := hb.2.1 hne
      refine (nextRow_ok hR hlt hS hr hx).mono ?_
      rintro v s' ⟨rfl, h1, h2⟩
      refine ⟨h2, .inr ⟨m, z, rfl, hz, by omega, h1, fun k hk => ?_⟩⟩
      obtain ⟨j, rfl⟩ : ∃ j, k = j + 1 := ⟨k - 1, by omega⟩
      rw [allF_ok hne hx, List.drop_drop, allF_fuel j (j + 1) _ _ (by rw [List.length_drop]; omega) (by rw [List.length_drop]; omega)]
structure AllI (s s' : Sto) (br bp b3 : Nat) (S : List UInt8) (o : Rows) (t a : Nat) (f : Option (List (List UInt8))) : Prop where
  le : a ≤ S.length ∧ o.length + (if f.isSome = true then 1 else 0) ≤ a
  own : Own s s' o.isEmpty t 24 1
  res : s'.bx b3 = some (30, [.int .i64 0, .int .i64 0, .int .i64 0])
  is : match f with
    | some m => Rd s' br bp S a (o.length + 1) (0, 0, 0) ∧ all S = pre (o ++ [m]) (allF (S.length + 1) (o.length + 1) (S.drop a))
    | none => ∃ e, Rd s' br bp S a o.length e ∧ all S = (o, e)
def fA : Option (List (List UInt8)) → AV
  | some m => .slice 0 (strsA m)
  | none => .slice 1 []
theorem progAll_ok (hE : AsF.ErrT Γ) (S : List UInt8) (hS : S.length ≤ 4194304) : APure Tryd.prog Γ 9 [.str S] fun v => v = allA (all S) := by
  refine APure.fgt fun s => ?_
  refine ACalls.of_awp Tryd.func9 rfl (Nat.le_of_ble_eq_true (by kernel_rfl)) (awp_ok _ (by kernel_rfl) ?_)
  conv => whnf
  intro b3 hb3
  conv => whnf
  repeat' (first
    | (refine ⟨Sub.refl _, ?_⟩)
    | (refine brA_split (fun h => ?_) (fun h => ?_) <;> (try rw [h]) <;> (try simp only [Bool.false_eq_true, Bool.true_eq_false, ↓reduceIte, decide_eq_true_eq, decide_eq_false_iff_not, Bool.not_eq_true', Bool.not_eq_false'] at h) <;> (conv => whnf))
    | (refine getB_same ?_; conv => whnf)
    | (refine AWp.any (by kernel_rfl) (by kernel_rfl) (by kernel_rfl) ?_; conv => whnf)
    | (apply And.intro; (focus (first | omega | rfl | decide | exact Nat.le_of_ble_eq_true rfl | ((repeat' (first | exact all_nil | refine all_cons ?_ ?_ | rfl | fail)); done) | (simp [-List.length_flatMap]; done) | (simp [-List.length_flatMap]; omega) | fail)); conv => whnf)
    | fail)
  refine ACalls.by (new_ok S _) ?_
  rintro _ s1 ⟨br, bp, rfl, g1, g2, hR, hs1⟩
  have f1 := (none_set g1).2
  have f2 := (none_set g2).2
  have h3 : s1.bx b3 = _ := hs1.bx _ _ set_bx_same
  have n1 : b3 ≠ br := ne_of_none set_bx_same g1
  have n2 : b3 ≠ bp := ne_of_none set_bx_same g2
  have hs2 : Ab.Sub s s1 := ((Sub.refl _).set hb3 _ _).trans hs1
  have hB := B2.none f1 f2
  have hnB : ¬ B2 br bp b3 := fun h => h.elim n1 n2
  conv => whnf
  repeat' (first
    | (refine ⟨Sub.refl _, ?_⟩)
    | (refine brA_split (fun h => ?_) (fun h => ?_) <;> (try rw [h]) <;> (try simp only [Bool.false_eq_true, Bool.true_eq_false, ↓reduceIte, decide_eq_true_eq, decide_eq_false_iff_not, Bool.not_eq_true', Bool.not_eq_false'] at h) <;> (conv => whnf))
    | (refine getB_same ?_; conv => whnf)
    | (refine AWp.any (by kernel_rfl) (by kernel_rfl) (by kernel_rfl) ?_; conv => whnf)
    | (apply And.intro; (focus (first | omega | rfl | decide | exact Nat.le_of_ble_eq_true rfl | ((repeat' (first | exact all_nil | refine all_cons ?_ ?_ | rfl | fail)); done) | (simp [-List.length_flatMap]; done) | (simp [-List.length_flatMap]; omega) | fail)); conv => whnf)
    | fail)
  refine ACalls.by (next_any hE hR (Nat.zero_le _) hS ⟨by omega, by omega⟩) ?_
  rintro v s2 ⟨hst, hv⟩
  have k5 := hst.bx b3 _ hnB h3
  have hown := hst.own (Own.start hs2 24 1) hB
  rcases hv with ⟨rfl, e, j1, j2⟩ | ⟨m', z, rfl, j0, j1, j2, j3⟩
  · conv => whnf
    repeat' (first
      | (refine ⟨Sub.refl _, ?_⟩)
      | (refine brA_split (fun h => ?_) (fun h => ?_) <;> (try rw [h]) <;> (try simp only [Bool.false_eq_true, Bool.true_eq_false, ↓reduceIte, decide_eq_true_eq, decide_eq_false_iff_not, Bool.not_eq_true', Bool.not_eq_false'] at h) <;> (conv => whnf))
      | (refine getB_same ?_; conv => whnf)
      | (refine AWp.any (by kernel_rfl) (by kernel_rfl) (by kernel_rfl) ?_; conv => whnf)
      | (apply And.intro; (focus (first | omega | rfl | decide | exact Nat.le_of_ble_eq_true rfl | ((repeat' (first | exact all_nil | refine all_cons ?_ ?_ | rfl | fail)); done) | (simp [-List.length_flatMap]; done) | (simp [-List.length_flatMap]; omega) | fail)); conv => whnf)
      | fail)
    refine AWp.loopA [5, 6, 7] [15, 21, 22, 23, 24, 17, 18, 16, 19, 20] (fun x : Rows × Nat × Nat × Option (List (List UInt8)) => [.slice x.2.1 (rowsA x.1), fA x.2.2.2, .bool x.2.2.2.isSome]) (fun x s' => AllI s s' br bp b3 S x.1 x.2.1 x.2.2.1 x.2.2.2) (fun x => 2 * (S.length - x.2.2.1) + (if x.2.2.2.isSome = true then 1 else 0)) (([], 1, 0, none)) (by kernel_rfl) (by (repeat' (first | refine cons_eq ?_ ?_ | refine int64_of ?_ ?_ ?_ | rfl | omega))) ?_ ?_
    · exact ⟨⟨Nat.zero_le _, by simp⟩, hown, k5, e, j1, by rw [all]; exact j2 _ (by omega)⟩
    · rintro y ⟨o, t, a, f⟩ s3 ⟨⟨i1, i2⟩, i3, i4, i5⟩
      simp only at i1 i2 i3 i4 i5
      have hol := rowsA_len o
      rcases f with _ | m
      · obtain ⟨e, i5, i6⟩ := i5
        show awp _ _ _ _ _ (updL _ _ [.slice t (rowsA o), .slice 1 [], .bool false]) _
        conv => whnf
        repeat' (first
          | (refine ⟨Sub.refl _, ?_⟩)
          | (refine brA_split (fun h => ?_) (fun h => ?_) <;> (try rw [h]) <;> (try simp only [Bool.false_eq_true, Bool.true_eq_false, ↓reduceIte, decide_eq_true_eq, decide_eq_false_iff_not, Bool.not_eq_true', Bool.not_eq_false'] at h) <;> (conv => whnf))
          | (refine getB_of (by ((repeat (first | exact set_bx_same | assumption | refine (set_bx_other (by assumption)).trans ?_ | refine grow_bx.trans ?_)); done)) ?_; conv => whnf)
          | (refine ACalls.by (fail_ok i5.rd) ?_; rintro _ _ ⟨rfl, rfl⟩; conv => whnf)
          | (refine getB_same ?_; conv => whnf)
          | (refine AWp.any (by kernel_rfl) (by kernel_rfl) (by kernel_rfl) ?_; conv => whnf)
          | (apply And.intro; (focus (first | omega | rfl | decide | exact Nat.le_of_ble_eq_true rfl | ((repeat' (first | exact all_nil | refine all_cons ?_ ?_ | rfl | fail)); done) | (simp [-List.length_flatMap]; done) | (simp [-List.length_flatMap]; omega) | fail)); conv => whnf)
          | fail)
        refine ⟨_, Sub.refl _, ?_, i3.sub.set hb3 _ _⟩
        rw [i6]
        simp only [tupA, fg, fgL, fgE_rows, allA]
      · obtain ⟨i5, i6⟩ := i5
        simp only [Option.isSome_some, if_true] at i2
        show awp _ _ _ _ _ (updL _ _ [.slice t (rowsA o), .slice 0 (strsA m), .bool true]) _
        conv => whnf
        repeat' (first
          | (refine ⟨Sub.refl _, ?_⟩)
          | (refine brA_split (fun h => ?_) (fun h => ?_) <;> (try rw [h]) <;> (try simp only [Bool.false_eq_true, Bool.true_eq_false, ↓reduceIte, decide_eq_true_eq, decide_eq_false_iff_not, Bool.not_eq_true', Bool.not_eq_false'] at h) <;> (conv => whnf))
          | (refine getB_same ?_; conv => whnf)
          | (refine AWp.any (by kernel_rfl) (by kernel_rfl) (by kernel_rfl) ?_; conv => whnf)
          | (apply And.intro; (focus (first | omega | rfl | decide | exact Nat.le_of_ble_eq_true rfl | ((repeat' (first | exact all_nil | refine all_cons ?_ ?_ | rfl | fail)); done) | (simp [-List.length_flatMap]; done) | (simp [-List.length_flatMap]; omega) | fail)); conv => whnf)
          | fail)
        refine ⟨i3.may, fun c hc => ?_, all_cons ⟨rfl, rfl⟩ all_nil, ?_, ?_⟩
        · obtain ⟨z, _, rfl⟩ := List.mem_map.1 hc; rfl
        · show ((rowsA o).length + 1) * (24 + 1) ≤ _
          rw [hol]; omega
        intro t' k1 k2
        have k3 := i3.grow k1 k2
        conv => whnf
        repeat' (first
          | (refine ⟨Sub.refl _, ?_⟩)
          | (refine brA_split (fun h => ?_) (fun h => ?_) <;> (try rw [h]) <;> (try simp only [Bool.false_eq_true, Bool.true_eq_false, ↓reduceIte, decide_eq_true_eq, decide_eq_false_iff_not, Bool.not_eq_true', Bool.not_eq_false'] at h) <;> (conv => whnf))
          | (refine getB_same ?_; conv => whnf)
          | (refine AWp.any (by kernel_rfl) (by kernel_rfl) (by kernel_rfl) ?_; conv => whnf)
          | (apply And.intro; (focus (first | omega | rfl | decide | exact Nat.le_of_ble_eq_true rfl | ((repeat' (first | exact all_nil | refine all_cons ?_ ?_ | rfl | fail)); done) | (simp [-List.length_flatMap]; done) | (simp [-List.length_flatMap]; omega) | fail)); conv => whnf)
          | fail)
        refine ACalls.by (next_any hE (i5.grow _ _ _ _) i1 hS ⟨by omega, by omega⟩) ?_
        rintro v s4 ⟨hst, hv⟩
        have k4 := hst.own k3 hB
        have k5 := hst.bx b3 _ hnB (grow_bx.trans i4)
        have hem : (o ++ [m]).isEmpty = (o.isEmpty && [[AV.slice 0 (strsA m)]].isEmpty) := by cases o <;> rfl
        have hap : rowsA o ++ [[AV.slice 0 (strsA m)]] = rowsA (o ++ [m]) := by simp [rowsA]
        have hl1 : (((o ++ [m]).length : Nat) : Int) = (o.length : Int) + 1 := by simp
        rcases hv with ⟨rfl, e, j1, j2⟩ | ⟨m', z, rfl, j0, j1, j2, j3⟩
        · conv => whnf
          repeat' (first
            | (refine ⟨Sub.refl _, ?_⟩)
            | (refine brA_split (fun h => ?_) (fun h => ?_) <;> (try rw [h]) <;> (try simp only [Bool.false_eq_true, Bool.true_eq_false, ↓reduceIte, decide_eq_true_eq, decide_eq_false_iff_not, Bool.not_eq_true', Bool.not_eq_false'] at h) <;> (conv => whnf))
            | (refine getB_same ?_; conv => whnf)
            | (refine AWp.any (by kernel_rfl) (by kernel_rfl) (by kernel_rfl) ?_; conv => whnf)
            | (apply And.intro; (focus (first | omega | rfl | decide | exact Nat.le_of_ble_eq_true rfl | ((repeat' (first | exact all_nil | refine all_cons ?_ ?_ | rfl | fail)); done) | (simp [-List.length_flatMap]; done) | (simp [-List.length_flatMap]; omega) | fail)); conv => whnf)
            | fail)
          refine ⟨(o ++ [m], t', a, none), ?_, by (repeat (first | exact Same.refl _ _ | refine Same.upd rfl ?_ | refine Same.updL rfl ?_ | refine Same.havoc rfl ?_)), ⟨⟨i1, by simp; omega⟩, ?_, k5, e, ?_, ?_⟩, by simp⟩
          · exact cons_eq (congrArg (AV.slice t') hap) rfl
          · rw [hem]; exact k4
          · rw [hl1]; exact j1
          · rw [i6, j2 _ (by omega)]; simp [pre]
        · conv => whnf
          repeat' (first
            | (refine ⟨Sub.refl _, ?_⟩)
            | (refine brA_split (fun h => ?_) (fun h => ?_) <;> (try rw [h]) <;> (try simp only [Bool.false_eq_true, Bool.true_eq_false, ↓reduceIte, decide_eq_true_eq, decide_eq_false_iff_not, Bool.not_eq_true', Bool.not_eq_false'] at h) <;> (conv => whnf))
            | (refine getB_same ?_; conv => whnf)
            | (refine AWp.any (by kernel_rfl) (by kernel_rfl) (by kernel_rfl) ?_; conv => whnf)
            | (apply And.intro; (focus (first | omega | rfl | decide | exact Nat.le_of_ble_eq_true rfl | ((repeat' (first | exact all_nil | refine all_cons ?_ ?_ | rfl | fail)); done) | (simp [-List.length_flatMap]; done) | (simp [-List.length_flatMap]; omega) | fail)); conv => whnf)
            | fail)
          refine ⟨(o ++ [m], t', a + z, some m'), ?_, by (repeat (first | exact Same.refl _ _ | refine Same.upd rfl ?_ | refine Same.updL rfl ?_ | refine Same.havoc rfl ?_)), ⟨⟨j1, by simp; omega⟩, ?_, k5, ?_, ?_⟩, by simp; omega⟩
          · exact cons_eq (congrArg (AV.slice t') hap) rfl
          · rw [hem]; exact k4
          · rw [hl1]; exact j2
          · rw [i6, j3 _ (by omega), pre_pre, hl1]
  · conv => whnf
    repeat' (first
      | (refine ⟨Sub.refl _, ?_⟩)
      | (refine brA_split (fun h => ?_) (fun h => ?_) <;> (try rw [h]) <;> (try simp only [Bool.false_eq_true, Bool.true_eq_false, ↓reduceIte, decide_eq_true_eq, decide_eq_false_iff_not, Bool.not_eq_true', Bool.not_eq_false'] at h) <;> (conv => whnf))
      | (refine getB_same ?_; conv => whnf)
      | (refine AWp.any (by kernel_rfl) (by kernel_rfl) (by kernel_rfl) ?_; conv => whnf)
      | (apply And.intro; (focus (first | omega | rfl | decide | exact Nat.le_of_ble_eq_true rfl | ((repeat' (first | exact all_nil | refine all_cons ?_ ?_ | rfl | fail)); done) | (simp [-List.length_flatMap]; done) | (simp [-List.length_flatMap]; omega) | fail)); conv => whnf)
      | fail)
    refine AWp.loopA [5, 6, 7] [15, 21, 22, 23, 24, 17, 18, 16, 19, 20] (fun x : Rows × Nat × Nat × Option (List (List UInt8)) => [.slice x.2.1 (rowsA x.1), fA x.2.2.2, .bool x.2.2.2.isSome]) (fun x s' => AllI s s' br bp b3 S x.1 x.2.1 x.2.2.1 x.2.2.2) (fun x => 2 * (S.length - x.2.2.1) + (if x.2.2.2.isSome = true then 1 else 0)) (([], 1, 0 + z, some m')) (by kernel_rfl) (by (repeat' (first | refine cons_eq ?_ ?_ | refine int64_of ?_ ?_ ?_ | rfl | omega))) ?_ ?_
    · exact ⟨⟨j1, by simp; omega⟩, hown, k5, j2, by rw [all]; exact j3 _ (by omega)⟩
    · rintro y ⟨o, t, a, f⟩ s3 ⟨⟨i1, i2⟩, i3, i4, i5⟩
      simp only at i1 i2 i3 i4 i5
      have hol := rowsA_len o
      rcases f with _ | m
      · obtain ⟨e, i5, i6⟩ := i5
        show awp _ _ _ _ _ (updL _ _ [.slice t (rowsA o), .slice 1 [], .bool false]) _
        conv => whnf
        repeat' (first
          | (refine ⟨Sub.refl _, ?_⟩)
          | (refine brA_split (fun h => ?_) (fun h => ?_) <;> (try rw [h]) <;> (try simp only [Bool.false_eq_true, Bool.true_eq_false, ↓reduceIte, decide_eq_true_eq, decide_eq_false_iff_not, Bool.not_eq_true', Bool.not_eq_false'] at h) <;> (conv => whnf))
          | (refine getB_of (by ((repeat (first | exact set_bx_same | assumption | refine (set_bx_other (by assumption)).trans ?_ | refine grow_bx.trans ?_)); done)) ?_; conv => whnf)
          | (refine ACalls.by (fail_ok i5.rd) ?_; rintro _ _ ⟨rfl, rfl⟩; conv => whnf)
          | (refine getB_same ?_; conv => whnf)
          | (refine AWp.any (by kernel_rfl) (by kernel_rfl) (by kernel_rfl) ?_; conv => whnf)
          | (apply And.intro; (focus (first | omega | rfl | decide | exact Nat.le_of_ble_eq_true rfl | ((repeat' (first | exact all_nil | refine all_cons ?_ ?_ | rfl | fail)); done) | (simp [-List.length_flatMap]; done) | (simp [-List.length_flatMap]; omega) | fail)); conv => whnf)
          | fail)
        refine ⟨_, Sub.refl _, ?_, i3.sub.set hb3 _ _⟩
        rw [i6]
        simp only [tupA, fg, fgL, fgE_rows, allA]
      · obtain ⟨i5, i6⟩ := i5
        simp only [Option.isSome_some, if_true] at i2
        show awp _ _ _ _ _ (updL _ _ [.slice t (rowsA o), .slice 0 (strsA m), .bool true]) _
        conv => whnf
        repeat' (first
          | (refine ⟨Sub.refl _, ?_⟩)
          | (refine brA_split (fun h => ?_) (fun h => ?_) <;> (try rw [h]) <;> (try simp only [Bool.false_eq_true, Bool.true_eq_false, ↓reduceIte, decide_eq_true_eq, decide_eq_false_iff_not, Bool.not_eq_true', Bool.not_eq_false'] at h) <;> (conv => whnf))
          | (refine getB_same ?_; conv => whnf)
          | (refine AWp.any (by kernel_rfl) (by kernel_rfl) (by kernel_rfl) ?_; conv => whnf)
          | (apply And.intro; (focus (first | omega | rfl | decide | exact Nat.le_of_ble_eq_true rfl | ((repeat' (first | exact all_nil | refine all_cons ?_ ?_ | rfl | fail)); done) | (simp [-List.length_flatMap]; done) | (simp [-List.length_flatMap]; omega) | fail)); conv => whnf)
          | fail)
        refine ⟨i3.may, fun c hc => ?_, all_cons ⟨rfl, rfl⟩ all_nil, ?_, ?_⟩
        · obtain ⟨z, _, rfl⟩ := List.mem_map.1 hc; rfl
        · show ((rowsA o).length + 1) * (24 + 1) ≤ _
          rw [hol]; omega
        intro t' k1 k2
        have k3 := i3.grow k1 k2
        conv => whnf
        repeat' (first
          | (refine ⟨Sub.refl _, ?_⟩)
          | (refine brA_split (fun h => ?_) (fun h => ?_) <;> (try rw [h]) <;> (try simp only [Bool.false_eq_true, Bool.true_eq_false, ↓reduceIte, decide_eq_true_eq, decide_eq_false_iff_not, Bool.not_eq_true', Bool.not_eq_false'] at h) <;> (conv => whnf))
          | (refine getB_same ?_; conv => whnf)
          | (refine AWp.any (by kernel_rfl) (by kernel_rfl) (by kernel_rfl) ?_; conv => whnf)
          | (apply And.intro; (focus (first | omega | rfl | decide | exact Nat.le_of_ble_eq_true rfl | ((repeat' (first | exact all_nil | refine all_cons ?_ ?_ | rfl | fail)); done) | (simp [-List.length_flatMap]; done) | (simp [-List.length_flatMap]; omega) | fail)); conv => whnf)
          | fail)
        refine ACalls.by (next_any hE (i5.grow _ _ _ _) i1 hS ⟨by omega, by omega⟩) ?_
        rintro v s4 ⟨hst, hv⟩
        have k4 := hst.own k3 hB
        have k5 := hst.bx b3 _ hnB (grow_bx.trans i4)
        have hem : (o ++ [m]).isEmpty = (o.isEmpty && [[AV.slice 0 (strsA m)]].isEmpty) := by cases o <;> rfl
        have hap : rowsA o ++ [[AV.slice 0 (strsA m)]] = rowsA (o ++ [m]) := by simp [rowsA]
        have hl1 : (((o ++ [m]).length : Nat) : Int) = (o.length : Int) + 1 := by simp
        rcases hv with ⟨rfl, e, j1, j2⟩ | ⟨m', z, rfl, j0, j1, j2, j3⟩
        · conv => whnf
          repeat' (first
            | (refine ⟨Sub.refl _, ?_⟩)
            | (refine brA_split (fun h => ?_) (fun h => ?_) <;> (try rw [h]) <;> (try simp only [Bool.false_eq_true, Bool.true_eq_false, ↓reduceIte, decide_eq_true_eq, decide_eq_false_iff_not, Bool.not_eq_true', Bool.not_eq_false'] at h) <;> (conv => whnf))
            | (refine getB_same ?_; conv => whnf)
            | (refine AWp.any (by kernel_rfl) (by kernel_rfl) (by kernel_rfl) ?_; conv => whnf)
            | (apply And.intro; (focus (first | omega | rfl | decide | exact Nat.le_of_ble_eq_true rfl | ((repeat' (first | exact all_nil | refine all_cons ?_ ?_ | rfl | fail)); done) | (simp [-List.length_flatMap]; done) | (simp [-List.length_flatMap]; omega) | fail)); conv => whnf)
            | fail)
          refine ⟨(o ++ [m], t', a, none), ?_, by (repeat (first | exact Same.refl _ _ | refine Same.upd rfl ?_ | refine Same.updL rfl ?_ | refine Same.havoc rfl ?_)), ⟨⟨i1, by simp; omega⟩, ?_, k5, e, ?_, ?_⟩, by simp⟩
          · exact cons_eq (congrArg (AV.slice t') hap) rfl
          · rw [hem]; exact k4
          · rw [hl1]; exact j1
          · rw [i6, j2 _ (by omega)]; simp [pre]
        · conv => whnf
          repeat' (first
            | (refine ⟨Sub.refl _, ?_⟩)
            | (refine brA_split (fun h => ?_) (fun h => ?_) <;> (try rw [h]) <;> (try simp only [Bool.false_eq_true, Bool.true_eq_false, ↓reduceIte, decide_eq_true_eq, decide_eq_false_iff_not, Bool.not_eq_true', Bool.not_eq_false'] at h) <;> (conv => whnf))
            | (refine getB_same ?_; conv => whnf)
            | (refine AWp.any (by kernel_rfl) (by kernel_rfl) (by kernel_rfl) ?_; conv => whnf)
            | (apply And.intro; (focus (first | omega | rfl | decide | exact Nat.le_of_ble_eq_true rfl | ((repeat' (first | exact all_nil | refine all_cons ?_ ?_ | rfl | fail)); done) | (simp [-List.length_flatMap]; done) | (simp [-List.length_flatMap]; omega) | fail)); conv => whnf)
            | fail)
          refine ⟨(o ++ [m], t', a + z, some m'), ?_, by (repeat (first | exact Same.refl _ _ | refine Same.upd rfl ?_ | refine Same.updL rfl ?_ | refine Same.havoc rfl ?_)), ⟨⟨j1, by simp; omega⟩, ?_, k5, ?_, ?_⟩, by simp; omega⟩
          · exact cons_eq (congrArg (AV.slice t') hap) rfl
          · rw [hem]; exact k4
          · rw [hl1]; exact j2
          · rw [i6, j3 _ (by omega), pre_pre, hl1]
end Go.Proofs.YthgpipfkcbekiaaDoor.Cv
