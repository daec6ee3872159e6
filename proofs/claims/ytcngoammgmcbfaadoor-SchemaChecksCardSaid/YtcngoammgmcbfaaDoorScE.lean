/- Chapter 7: the reference's declarations. -/
import Derived.Test.YtcngoammgmcbfaaDoorScD
namespace Go.Proofs.YtcngoammgmcbfaaDoor.Sc
open Go Go.Ab Go.RowKit
variable {Γ : Nat → AV}
attribute [local irreducible] APure Sto.set Sto.grow
set_option maxRecDepth 10000

theorem refFind_ok (t : Nat) (l : List D) (name : List UInt8) (hl : l.length ≤ 140737488355328) :
    APure Tryd.prog Γ 29 [.slice t (declsA l), .str name] fun v => v = .int .i64 (findIdx l name) := by
  have hbl := declsA_len l
  refine APure.of_awp Tryd.func29 rfl (Nat.le_of_ble_eq_true (by kernel_rfl)) (by kernel_rfl) ?_
  intro s
  conv => whnf
  refine AWp.loopA [5] [6, 7, 8, 9, 12, 13, 14, 15, 16, 17, 18, 19, 4, 10, 11] (fun i : Nat => [.int .i64 i]) (fun i s' => i ≤ l.length ∧ s' = s ∧ findIdx l name = addIdx i (findIdx (l.drop i) name)) (fun i => l.length - i) (0) (by kernel_rfl) (by (repeat' (first | refine cons_eq ?_ ?_ | refine int64_of ?_ ?_ ?_ | rfl | omega))) ?_ ?_
  · exact ⟨by omega, rfl, by simp [addIdx]⟩
  · rintro y i _ ⟨hi, rfl, hp⟩
    conv => whnf
    repeat' (first
      | (refine ⟨Sub.refl _, ?_⟩)
      | (refine brA_split (fun h => ?_) (fun h => ?_) <;> (try rw [h]) <;> (try simp only [Bool.false_eq_true, Bool.true_eq_false, ↓reduceIte, decide_eq_true_eq, decide_eq_false_iff_not, Bool.not_eq_true', Bool.not_eq_false'] at h) <;> (conv => whnf))
      | (rw [declsA_get (by omega)]; conv => whnf)
      | (refine getB_same ?_; conv => whnf)
      | (refine AWp.any (by kernel_rfl) (by kernel_rfl) (by kernel_rfl) ?_; conv => whnf)
      | (apply And.intro; (focus (first | omega | rfl | decide | exact Nat.le_of_ble_eq_true rfl | ((repeat' (first | exact all_nil | refine all_cons ?_ ?_ | rfl | fail)); done) | (simp [-List.length_flatMap]; done) | (simp [-List.length_flatMap]; omega) | fail)); conv => whnf)
      | fail)
    · simp only [Int.toNat_natCast] at h
      rw [hp, drop_decl (by omega), findIdx, idxBy, if_pos (by simpa using h)]
      simp [tupA, addIdx]
    · simp only [Int.toNat_natCast] at h
      refine ⟨i + 1, by (repeat' (first | refine cons_eq ?_ ?_ | refine int64_of ?_ ?_ ?_ | rfl | omega)), by (repeat (first | exact Same.refl _ _ | refine Same.upd rfl ?_ | refine Same.updL rfl ?_ | refine Same.havoc rfl ?_)), ⟨by omega, rfl, ?_⟩, by omega⟩
      rw [hp, drop_decl (i := i) (by omega), findIdx, idxBy, if_neg (by simpa using h)]
      have := idxBy_ge (fun d : D => decide (d.1 = name)) (l.drop (i + 1))
      unfold findIdx
      grind [addIdx]
    · rw [hp, drop_end (by omega)]
      simp [tupA, addIdx, idxBy, findIdx]

def fewB (l : List D) : Bool := decide ((l.length : Int) ≤ 40) && l.all fun d => decide ((d.1.length : Int) ≤ 100) && decide ((d.2.2.length : Int) ≤ 20)
theorem few_ok (t : Nat) (l : List D) : APure Tryd.prog Γ 23 [.slice t (declsA l)] fun v => v = .bool (fewB l) := by
  have hbl := declsA_len l
  refine APure.of_awp Tryd.func23 rfl (Nat.le_of_ble_eq_true (by kernel_rfl)) (by kernel_rfl) ?_
  intro s
  conv => whnf
  repeat' (first
    | (refine ⟨Sub.refl _, ?_⟩)
    | (refine brA_split (fun h => ?_) (fun h => ?_) <;> (try rw [h]) <;> (try simp only [Bool.false_eq_true, Bool.true_eq_false, ↓reduceIte, decide_eq_true_eq, decide_eq_false_iff_not, Bool.not_eq_true', Bool.not_eq_false'] at h) <;> (conv => whnf))
    | (refine getB_same ?_; conv => whnf)
    | (refine AWp.any (by kernel_rfl) (by kernel_rfl) (by kernel_rfl) ?_; conv => whnf)
    | (apply And.intro; (focus (first | omega | rfl | decide | exact Nat.le_of_ble_eq_true rfl | ((repeat' (first | exact all_nil | refine all_cons ?_ ?_ | rfl | fail)); done) | (simp [-List.length_flatMap]; done) | (simp [-List.length_flatMap]; omega) | fail)); conv => whnf)
    | fail)
  · refine bool_eq ?_
    unfold fewB
    rw [decide_eq_false (by omega)]
    rfl
  refine AWp.loopA [3] [7, 8, 9, 10, 13, 14, 15, 16, 17, 18, 19, 20, 21, 22, 23, 24, 25, 26, 27, 28, 2, 11, 12] (fun i : Nat => [.int .i64 i]) (fun i s' => i ≤ l.length ∧ s' = s ∧ fewB l = (l.drop i).all fun d => decide ((d.1.length : Int) ≤ 100) && decide ((d.2.2.length : Int) ≤ 20)) (fun i => l.length - i) (0) (by kernel_rfl) (by (repeat' (first | refine cons_eq ?_ ?_ | refine int64_of ?_ ?_ ?_ | rfl | omega))) ?_ ?_
  · refine ⟨by omega, rfl, ?_⟩
    unfold fewB
    rw [decide_eq_true (by omega), List.drop_zero, Bool.true_and]
  · rintro y i _ ⟨hi, rfl, hp⟩
    have hil := intsA_len .i64 (l.getD i noD).2.2
    conv => whnf
    repeat' (first
      | (refine ⟨Sub.refl _, ?_⟩)
      | (refine brA_split (fun h => ?_) (fun h => ?_) <;> (try rw [h]) <;> (try simp only [Bool.false_eq_true, Bool.true_eq_false, ↓reduceIte, decide_eq_true_eq, decide_eq_false_iff_not, Bool.not_eq_true', Bool.not_eq_false'] at h) <;> (conv => whnf))
      | (rw [declsA_get (by omega)]; conv => whnf)
      | (refine getB_same ?_; conv => whnf)
      | (refine AWp.any (by kernel_rfl) (by kernel_rfl) (by kernel_rfl) ?_; conv => whnf)
      | (apply And.intro; (focus (first | omega | rfl | decide | exact Nat.le_of_ble_eq_true rfl | ((repeat' (first | exact all_nil | refine all_cons ?_ ?_ | rfl | fail)); done) | (simp [-List.length_flatMap]; done) | (simp [-List.length_flatMap]; omega) | fail)); conv => whnf)
      | fail)
    all_goals try simp only [Int.toNat_natCast] at *
    · refine bool_eq ?_
      rw [hp, drop_decl (by omega), List.all_cons, decide_eq_false (p := ((l.getD i noD).1.length : Int) ≤ 100) (by omega)]
      rfl
    · refine bool_eq ?_
      rw [hp, drop_decl (by omega), List.all_cons, decide_eq_false (p := ((l.getD i noD).2.2.length : Int) ≤ 20) (by omega), Bool.and_false]
      rfl
    · refine ⟨i + 1, by (repeat' (first | refine cons_eq ?_ ?_ | refine int64_of ?_ ?_ ?_ | rfl | omega)), by (repeat (first | exact Same.refl _ _ | refine Same.upd rfl ?_ | refine Same.updL rfl ?_ | refine Same.havoc rfl ?_)), ⟨by omega, (by first | rfl | trivial), ?_⟩, by omega⟩
      rw [hp, drop_decl (i := i) (by omega), List.all_cons, decide_eq_true (p := ((l.getD i noD).1.length : Int) ≤ 100) (by omega), decide_eq_true (p := ((l.getD i noD).2.2.length : Int) ≤ 20) (by omega)]
      rfl
    · refine bool_eq ?_
      rw [hp, drop_end (by omega)]
      rfl
theorem few_mem {l : List D} (h : fewB l = true) : l.length ≤ 40 ∧ ∀ d ∈ l, d.1.length ≤ 100 ∧ d.2.2.length ≤ 20 := by
  unfold fewB at h
  rw [Bool.and_eq_true, decide_eq_true_iff, List.all_eq_true] at h
  refine ⟨by omega, fun d hd => ?_⟩
  have := h.2 d hd
  rw [Bool.and_eq_true, decide_eq_true_iff, decide_eq_true_iff] at this
  omega
theorem few_small {l : List D} (h : fewB l = true) : Small l := by
  obtain ⟨h1, h2⟩ := few_mem h
  exact ⟨by omega, fun d hd => by have := h2 d hd; omega⟩

theorem join_snoc (sep x : List UInt8) : ∀ l : List (List UInt8), l ≠ [] → Lib.join (l ++ [x]) sep = Lib.join l sep ++ sep ++ x
  | [], h => absurd rfl h
  | [y], _ => by simp [Lib.join, List.intercalate, List.intersperse]
  | y :: z :: l, _ => by
    have ih := join_snoc sep x (z :: l) (by simp)
    simp only [List.cons_append] at ih ⊢
    rw [join_two, join_two, ih]
    simp
/-- What stands before the i-th kind. -/
def preT (nm : List UInt8) (ks : List Int) (i : Nat) : List UInt8 := nm ++ [40] ++ Lib.join ((ks.take i).map kname) [44, 32]
theorem preT_step {nm : List UInt8} {ks : List Int} {i : Nat} (h : i < ks.length) : preT nm ks (i + 1) = (if 0 < i then preT nm ks i ++ [44, 32] else preT nm ks i) ++ kname (ks.getD i 0) := by
  have e : ks.take (i + 1) = ks.take i ++ [ks.getD i 0] := by rw [List.take_add_one]; simp [List.getD, h]
  unfold preT
  rw [e, List.map_append]
  split
  · rename_i h0
    have hne : (ks.take i).map kname ≠ [] := by
      intro hn
      have := congrArg List.length hn
      rw [List.length_map, List.length_take, List.length_nil] at this
      omega
    rw [List.map_cons, List.map_nil, join_snoc _ _ _ hne]
    simp
  · rename_i h0
    have : i = 0 := by omega
    subst this
    simp [Lib.join, List.intercalate]
theorem preT_len (nm : List UInt8) (ks : List Int) (i : Nat) : (preT nm ks i).length ≤ nm.length + 1 + 8 * ks.length := by
  have := join_len [44, 32] (ks.take i)
  simp only [List.length_cons, List.length_nil, List.length_take] at this
  simp only [preT, List.length_append, List.length_cons, List.length_nil]
  omega
theorem refText_ok (nm : List UInt8) (tk : Nat) (ks : List Int) (h1 : nm.length ≤ 1048576) (h2 : ks.length ≤ 1048576) :
    APure Tryd.prog Γ 27 [.agg [.str nm, .slice tk (intsA .i64 ks)]] fun v => v = .str (txtD nm ks) := by
  have hbl := intsA_len .i64 ks
  refine APure.of_awp Tryd.func27 rfl (Nat.le_of_ble_eq_true (by kernel_rfl)) (by kernel_rfl) ?_
  intro s
  conv => whnf
  intro b hb
  conv => whnf
  repeat' (first
    | (refine ⟨Sub.refl _, ?_⟩)
    | (refine brA_split (fun h => ?_) (fun h => ?_) <;> (try rw [h]) <;> (try simp only [Bool.false_eq_true, Bool.true_eq_false, ↓reduceIte, decide_eq_true_eq, decide_eq_false_iff_not, Bool.not_eq_true', Bool.not_eq_false'] at h) <;> (conv => whnf))
    | (refine getB_same ?_; conv => whnf)
    | (refine AWp.any (by kernel_rfl) (by kernel_rfl) (by kernel_rfl) ?_; conv => whnf)
    | (apply And.intro; (focus (first | omega | rfl | decide | exact Nat.le_of_ble_eq_true rfl | ((repeat' (first | exact all_nil | refine all_cons ?_ ?_ | rfl | fail)); done) | (simp [-List.length_flatMap]; done) | (simp [-List.length_flatMap]; omega) | fail)); conv => whnf)
    | fail)
  rw [show nm ++ [40] = preT nm ks 0 by simp [preT, Lib.join, List.intercalate]]
  refine AWp.loopA [3, 4] [8, 9, 10, 11, 12, 15, 16, 17, 18, 19, 20, 21, 22, 23, 24, 25, 26, 27, 28, 29, 30, 31, 32, 33, 34, 35, 36, 37, 38, 39, 40, 41, 42, 13, 14] (fun i : Nat => [.str (preT nm ks i), .int .i64 i]) (fun i s' => i ≤ ks.length ∧ s' = s.set b 48 [.str nm, .slice tk (intsA .i64 ks)]) (fun i => ks.length - i) (0) (by kernel_rfl) (by (repeat' (first | refine cons_eq ?_ ?_ | refine int64_of ?_ ?_ ?_ | rfl | omega))) ?_ ?_
  · exact ⟨by omega, rfl⟩
  · rintro y i _ ⟨hi, rfl⟩
    have hpl := preT_len nm ks i
    conv => whnf
    repeat' (first
      | (refine ⟨Sub.refl _, ?_⟩)
      | (refine brA_split (fun h => ?_) (fun h => ?_) <;> (try rw [h]) <;> (try simp only [Bool.false_eq_true, Bool.true_eq_false, ↓reduceIte, decide_eq_true_eq, decide_eq_false_iff_not, Bool.not_eq_true', Bool.not_eq_false'] at h) <;> (conv => whnf))
      | (rw [intsA_get (by omega)]; conv => whnf)
      | (refine getB_same ?_; conv => whnf)
      | (refine AWp.any (by kernel_rfl) (by kernel_rfl) (by kernel_rfl) ?_; conv => whnf)
      | (apply And.intro; (focus (first | omega | rfl | decide | exact Nat.le_of_ble_eq_true rfl | ((repeat' (first | exact all_nil | refine all_cons ?_ ?_ | rfl | fail)); done) | (simp [-List.length_flatMap]; done) | (simp [-List.length_flatMap]; omega) | fail)); conv => whnf)
      | fail)
    all_goals try simp only [Int.toNat_natCast] at *
    all_goals first
      | (refine ⟨i + 1, ?_, by (repeat (first | exact Same.refl _ _ | refine Same.upd rfl ?_ | refine Same.updL rfl ?_ | refine Same.havoc rfl ?_)), ⟨by omega, (by first | rfl | trivial)⟩, by omega⟩
         refine cons_eq ?_ (by (repeat' (first | refine cons_eq ?_ ?_ | refine int64_of ?_ ?_ ?_ | rfl | omega)))
         refine congrArg AV.str ?_
         rw [preT_step (by omega)]
         grind [kname])
      | skip
    have ht : ks.take i = ks := List.take_of_length_le (by omega)
    refine ⟨(Sub.refl _).set hb _ _, congrArg AV.str ?_⟩
    unfold preT txtD
    rw [ht]

theorem noKind_bad (k : Int) : noKind k = decide (k < 1 ∨ 3 < k) := by
  unfold noKind kname
  grind
theorem idx_any {α : Type} (p : α → Bool) : ∀ l : List α, decide (0 ≤ idxBy p l) = l.any p
  | [] => by simp [idxBy]
  | x :: l => by
    have ih := idx_any p l
    have := idxBy_ge p l
    rw [List.any_cons, ← ih]
    simp only [idxBy]
    grind
theorem idx_self {l : List D} {i : Nat} (h : i < l.length) : firstOf l (l.getD i noD).1 = findIdx l (l.getD i noD).1 := by
  have h1 : decide (0 ≤ findIdx l (l.getD i noD).1) = true := by
    rw [show findIdx l (l.getD i noD).1 = idxBy (fun d : D => decide (d.1 = (l.getD i noD).1)) l from rfl, idx_any, List.any_eq_true]
    exact ⟨_, getD_decl h, by simp⟩
  have h1 := of_decide_eq_true h1
  unfold firstOf
  exact if_neg (by omega)
theorem chk_bad {l : List D} {i : Nat} (h : i < l.length) (he : oneE l i ≠ 0) : chkFrom l (l.length - i) i = ((i : Int), oneE l i) := by
  obtain ⟨f, hf⟩ : ∃ f, l.length - i = f + 1 := ⟨l.length - i - 1, by omega⟩
  rw [hf, chkFrom, if_pos he]
theorem chk_good {l : List D} {i : Nat} (h : i < l.length) (he : oneE l i = 0) : chkFrom l (l.length - i) i = chkFrom l (l.length - (i + 1)) (i + 1) := by
  obtain ⟨f, hf⟩ : ∃ f, l.length - i = f + 1 := ⟨l.length - i - 1, by omega⟩
  rw [hf, chkFrom, if_neg (by simpa using he), show l.length - (i + 1) = f by omega]
theorem refCheck_ok (t : Nat) (l : List D) (hl : Small l) : APure Tryd.prog Γ 25 [.slice t (declsA l)] fun v => v = .tuple [.int .i64 (chkD l).2, .int .i64 (chkD l).1] := by
  have hbl := declsA_len l
  have h3 := hl.1
  refine APure.of_awp Tryd.func25 rfl (Nat.le_of_ble_eq_true (by kernel_rfl)) (by kernel_rfl) ?_
  intro s
  conv => whnf
  repeat' (first
    | (refine ⟨Sub.refl _, ?_⟩)
    | (refine brA_split (fun h => ?_) (fun h => ?_) <;> (try rw [h]) <;> (try simp only [Bool.false_eq_true, Bool.true_eq_false, ↓reduceIte, decide_eq_true_eq, decide_eq_false_iff_not, Bool.not_eq_true', Bool.not_eq_false'] at h) <;> (conv => whnf))
    | (refine getB_same ?_; conv => whnf)
    | (refine AWp.any (by kernel_rfl) (by kernel_rfl) (by kernel_rfl) ?_; conv => whnf)
    | (apply And.intro; (focus (first | omega | rfl | decide | exact Nat.le_of_ble_eq_true rfl | ((repeat' (first | exact all_nil | refine all_cons ?_ ?_ | rfl | fail)); done) | (simp [-List.length_flatMap]; done) | (simp [-List.length_flatMap]; omega) | fail)); conv => whnf)
    | fail)
  · have : chkD l = (32, 14) := if_pos (by omega)
    rw [this]; rfl
  have hc : chkD l = chkFrom l l.length 0 := if_neg (by omega)
  rw [hc]
  refine AWp.loopA [4] [9, 10, 11, 12, 15, 16, 17, 18, 19, 20, 21, 22, 2, 3, 23, 24, 25, 26, 27, 28, 29, 30, 31, 32, 33, 34, 35, 36, 37, 38, 39, 40, 5, 41, 42, 43, 44, 45, 46, 47, 48, 51, 52, 53, 54, 55, 56, 57, 58, 59, 60, 61, 62, 63, 64, 65, 66, 67, 68, 69, 70, 71, 49, 50, 13, 14] (fun i : Nat => [.int .i64 i]) (fun i s' => i ≤ l.length ∧ s' = s ∧ chkFrom l l.length 0 = chkFrom l (l.length - i) i) (fun i => l.length - i) (0) (by kernel_rfl) (by (repeat' (first | refine cons_eq ?_ ?_ | refine int64_of ?_ ?_ ?_ | rfl | omega))) ?_ ?_
  · exact ⟨by omega, rfl, by simp⟩
  · rintro y i s1 ⟨hi, rfl, hp⟩
    conv => whnf
    have hg := fun h : i < l.length => declsA_get h
    have he : oneE l i = oneE l i := rfl
    conv at he => rhs; unfold oneE
    have hs := fun h : i < l.length => idx_self h
    generalize hd : l.getD i noD = d at *
    have hil := intsA_len .i64 d.2.2
    repeat' (first
      | (refine ⟨Sub.refl _, ?_⟩)
      | (refine brA_split (fun h => ?_) (fun h => ?_) <;> (try rw [h]) <;> (try simp only [Bool.false_eq_true, Bool.true_eq_false, ↓reduceIte, decide_eq_true_eq, decide_eq_false_iff_not, Bool.not_eq_true', Bool.not_eq_false'] at h) <;> (conv => whnf))
      | (rw [show (declsA l).getD ((i : Int)).toNat [] = _ from hg (by omega)]; conv => whnf)
      | (refine ACalls.pure' ?_ (refName_ok _); rintro _ rfl; conv => whnf)
      | (refine DCall.pure ?_ (refName_ok _); conv => whnf)
      | (refine ACalls.pure' ?_ (refFind_ok _ _ _ h3); rintro _ rfl; conv => whnf)
      | (refine DCall.pure ?_ (refFind_ok _ _ _ h3); conv => whnf)
      | (refine getB_same ?_; conv => whnf)
      | (refine AWp.any (by kernel_rfl) (by kernel_rfl) (by kernel_rfl) ?_; conv => whnf)
      | (apply And.intro; (focus (first | omega | rfl | decide | exact Nat.le_of_ble_eq_true rfl | ((repeat' (first | exact all_nil | refine all_cons ?_ ?_ | rfl | fail)); done) | (simp [-List.length_flatMap]; done) | (simp [-List.length_flatMap]; omega) | fail)); conv => whnf)
      | fail)
    all_goals try simp only [Int.toNat_natCast] at *
    · rw [if_pos h] at he
      rw [hp, chk_bad (by omega) (by rw [he]; decide), he]
      rfl
    · rw [hs (by omega)] at he
      rw [if_neg (by simp [*]), if_pos h] at he
      rw [hp, chk_bad (by omega) (by rw [he]; decide), he]
      rfl
    · rw [hs (by omega)] at he
      rw [if_neg (by simp [*]), if_neg (by assumption), if_pos (by omega)] at he
      rw [hp, chk_bad (by omega) (by rw [he]; decide), he]
      rfl
    · refine AWp.loopA [5] [41, 42, 43, 44, 45, 46, 47, 48, 51, 52, 53, 54, 55, 56, 57, 58, 59, 60, 61, 62, 63, 64, 65, 66, 67, 68, 69, 70, 71, 2, 3, 49, 50] (fun k : Nat => [.int .i64 k]) (fun k s' => k ≤ d.2.2.length ∧ s' = s1 ∧ d.2.2.any noKind = (d.2.2.drop k).any noKind) (fun k => d.2.2.length - k) (0) (by kernel_rfl) (by (repeat' (first | refine cons_eq ?_ ?_ | refine int64_of ?_ ?_ ?_ | rfl | omega))) ?_ ?_
      · exact ⟨by omega, rfl, by simp⟩
      · rintro y k _ ⟨hk, rfl, hq⟩
        conv => whnf
        repeat' (first
          | (refine ⟨Sub.refl _, ?_⟩)
          | (refine brA_split (fun h => ?_) (fun h => ?_) <;> (try rw [h]) <;> (try simp only [Bool.false_eq_true, Bool.true_eq_false, ↓reduceIte, decide_eq_true_eq, decide_eq_false_iff_not, Bool.not_eq_true', Bool.not_eq_false'] at h) <;> (conv => whnf))
          | (rw [show (declsA l).getD ((i : Int)).toNat [] = _ from hg (by omega)]; conv => whnf)
          | (rw [intsA_get (by omega)]; conv => whnf)
          | (refine getB_same ?_; conv => whnf)
          | (refine AWp.any (by kernel_rfl) (by kernel_rfl) (by kernel_rfl) ?_; conv => whnf)
          | (apply And.intro; (focus (first | omega | rfl | decide | exact Nat.le_of_ble_eq_true rfl | ((repeat' (first | exact all_nil | refine all_cons ?_ ?_ | rfl | fail)); done) | (simp [-List.length_flatMap]; done) | (simp [-List.length_flatMap]; omega) | fail)); conv => whnf)
          | fail)
        all_goals try simp only [Int.toNat_natCast] at *
        · have hn : d.2.2.any noKind = true := by
            rw [hq, drop_int (by omega), List.any_cons, noKind_bad, decide_eq_true (p := d.2.2.getD k 0 < 1 ∨ 3 < d.2.2.getD k 0) (by omega)]
            rfl
          have hn := of_decide_eq_true ((idx_any noKind d.2.2).trans hn)
          rw [hs (by omega)] at he
          rw [if_neg (by simp [*]), if_neg (by assumption), if_neg (by omega), if_pos hn] at he
          rw [hp, chk_bad (by omega) (by rw [he]; decide), he]
          rfl
        · have hn : d.2.2.any noKind = true := by
            rw [hq, drop_int (by omega), List.any_cons, noKind_bad, decide_eq_true (p := d.2.2.getD k 0 < 1 ∨ 3 < d.2.2.getD k 0) (by omega)]
            rfl
          have hn := of_decide_eq_true ((idx_any noKind d.2.2).trans hn)
          rw [hs (by omega)] at he
          rw [if_neg (by simp [*]), if_neg (by assumption), if_neg (by omega), if_pos hn] at he
          rw [hp, chk_bad (by omega) (by rw [he]; decide), he]
          rfl
        · refine ⟨k + 1, by (repeat' (first | refine cons_eq ?_ ?_ | refine int64_of ?_ ?_ ?_ | rfl | omega)), by (repeat (first | exact Same.refl _ _ | refine Same.upd rfl ?_ | refine Same.updL rfl ?_ | refine Same.havoc rfl ?_)), ⟨by omega, (by first | rfl | trivial), ?_⟩, by omega⟩
          rw [hq, drop_int (i := k) (by omega), List.any_cons, noKind_bad, decide_eq_false (p := d.2.2.getD k 0 < 1 ∨ 3 < d.2.2.getD k 0) (by omega)]
          rfl
        · have hn : d.2.2.any noKind = false := by
            rw [hq, drop_end (by omega)]
            rfl
          have hn := of_decide_eq_false ((idx_any noKind d.2.2).trans hn)
          rw [hs (by omega)] at he
          rw [if_neg (by simp [*]), if_neg (by assumption), if_neg (by omega), if_neg hn] at he
          refine ⟨i + 1, by (repeat' (first | refine cons_eq ?_ ?_ | refine int64_of ?_ ?_ ?_ | rfl | omega)), by (repeat (first | exact Same.refl _ _ | refine Same.upd rfl ?_ | refine Same.updL rfl ?_ | refine Same.havoc rfl ?_)), ⟨by omega, (by first | rfl | trivial), ?_⟩, by omega⟩
          rw [hp, chk_good (by omega) he]
    · rw [hp, show l.length - i = 0 by omega, chkFrom]
      rfl
end Go.Proofs.YtcngoammgmcbfaaDoor.Sc
