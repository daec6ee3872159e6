
/- Chapter 6: how fields and rows are written: the program. -/
import Derived.Test.YthgpipfkcbekiaaDoorCvI
import Derived.Test.YthgpipfkcbekiaaDoorJo1
set_option linter.all false
namespace Go.Proofs.YthgpipfkcbekiaaDoor.Cv
open Go Go.Ab Go.RowKit
variable {Γ : Nat → AV}
set_option maxRecDepth 10000
set_option maxHeartbeats 1000000

/-- What is known of bytealg.MaxLen: it holds a number. -/
def MaxN (Γ : Nat → AV) : Prop := ∃ m, Γ 1 = .cptr [.int .i64 m]
theorem maxN_cell (hM : MaxN Γ) {G : Gh} {s : Sto} {w : World} (hm : Mod Γ G s w) : ∃ m, w.cell? ⟨1, 0, none⟩ = some (.int .i64 m) := by
  obtain ⟨m, hM⟩ := hM
  have h := hm.glob 1
  rw [hM] at h
  obtain ⟨b, o, hb, hc⟩ := R_cptr.1 h.2.2
  cases hb
  unfold RCells at hc
  obtain ⟨_, ⟨u, hu, hr⟩, _⟩ := hc
  rw [R_int] at hr
  subst hr
  exact ⟨m, hu⟩
theorem replK_dbl : ∀ (l : List UInt8) (k : Nat), l.count 34 ≤ k → Lib.replaceK [34] [34, 34] k l = dbl l
  | [], 0, _ => rfl
  | [], k + 1, _ => by rw [Lib.replaceK, Lib.index_one, if_pos (by rfl)]; rfl
  | b :: l, k, h => by
    by_cases hb : b = 34
    · subst hb
      obtain ⟨k, rfl⟩ : ∃ j, k = j + 1 := ⟨k - 1, by rw [List.count_cons_self] at h; omega⟩
      have hi : Lib.index (34 :: l) [34] = ((0 : Nat) : Int) := by rw [Lib.index_one]; unfold Lib.indexByte; simp
      rw [Lib.replaceK_hit [34] [34, 34] k (34 :: l) 0 hi, dbl, if_pos rfl]
      show [34, 34] ++ Lib.replaceK [34] [34, 34] k l = _
      rw [replK_dbl l k (by rw [List.count_cons_self] at h; omega)]
      rfl
    · have hc : l.count 34 ≤ k := by rw [List.count_cons_of_ne hb] at h; exact h
      have ih := replK_dbl l k hc
      rw [dbl, if_neg hb, ← ih]
      cases k with
      | zero => rfl
      | succ k =>
        have hix : Lib.index (b :: l) [34] = if Lib.index l [34] = -1 then -1 else Lib.index l [34] + 1 := by
          rw [Lib.index_one, Lib.index_one]
          conv => lhs; unfold Lib.indexByte
          simp [hb]
        by_cases hm : Lib.index l [34] = -1
        · rw [if_pos hm] at hix
          rw [Lib.replaceK, if_pos (by rw [hix]; rfl), Lib.replaceK, if_pos (by rw [hm]; rfl)]
        · rw [if_neg hm] at hix
          obtain ⟨i, hi⟩ : ∃ i : Nat, Lib.index l [34] = i := by
            have := Lib.index_ge l [34]
            exact ⟨(Lib.index l [34]).toNat, by omega⟩
          rw [hi] at hix
          rw [Lib.replaceK_hit [34] [34, 34] k (b :: l) (i + 1) (by rw [hix]; rfl), Lib.replaceK_hit [34] [34, 34] k l i hi]
          rfl
theorem all_dbl (l : List UInt8) : Lib.replaceAll l [34] [34, 34] = dbl l := by
  unfold Lib.replaceAll Lib.replace Lib.replaceNum
  rw [if_neg (by decide), if_pos (.inl (by decide)), Lib.count_one]
  exact replK_dbl l _ (Nat.le_refl _)
theorem replaceAll_ok (hM : MaxN Γ) (l : List UInt8) (hl : l.length ≤ 1048576) : APure Tryd.prog Γ 13 [.str l, .str [34], .str [34, 34]] fun v => v = .str (dbl l) := by
  refine fun s => ACalls.of_below fun G w vs hm hr => ?_
  obtain ⟨u, us, rfl, hu, hus⟩ := RList_cons.1 hr
  obtain ⟨u1, us1, rfl, hu1, hus1⟩ := RList_cons.1 hus
  obtain ⟨u2, us2, rfl, hu2, hus2⟩ := RList_cons.1 hus1
  rw [RList_nil] at hus2; subst hus2
  rw [R_str] at hu hu1 hu2; subst hu; subst hu1; subst hu2
  obtain ⟨m, hc⟩ := maxN_cell hM hm
  have hcount : Lib.countB (⟨l.toArray⟩ : ByteArray) ⟨#[34]⟩ = l.count 34 := Lib.count_one 34 l
  have hcl : l.count 34 ≤ l.length := List.count_le_length
  refine ⟨_, fun G' w' => R_str.2 rfl, (Tryd.strings_ReplaceAll ⟨l.toArray⟩ ⟨#[34]⟩ ⟨#[34, 34]⟩ m w ?_ hc (by decide) ?_).mono ?_⟩
  · show l.length < 4294967281; omega
  · rw [hcount]; show l.length + l.count 34 * 2 ≤ _; omega
  · rintro e w' ⟨rfl, hb⟩
    exact ⟨by rw [show Lib.replaceAll (⟨l.toArray⟩ : ByteArray).data.toList (⟨#[34]⟩ : ByteArray).data.toList (⟨#[34, 34]⟩ : ByteArray).data.toList = dbl l from all_dbl l], hb⟩
attribute [local irreducible] APure Sto.set Sto.grow
theorem field_ok (hM : MaxN Γ) (l : List UInt8) (hl : l.length ≤ 1048576) : APure Tryd.prog Γ 7 [.str l] fun v => v = .str (fldT l) := by
  have hdl := dbl_len l
  refine APure.of_awp Tryd.func7 rfl (Nat.le_of_ble_eq_true (by kernel_rfl)) (by kernel_rfl) ?_
  intro s
  conv => whnf
  repeat' (first
    | (refine ⟨Sub.refl _, ?_⟩)
    | (refine brA_split (fun h => ?_) (fun h => ?_) <;> (try rw [h]) <;> (try simp only [Bool.false_eq_true, Bool.true_eq_false, ↓reduceIte, decide_eq_true_eq, decide_eq_false_iff_not, Bool.not_eq_true', Bool.not_eq_false'] at h) <;> (conv => whnf))
    | (refine getB_same ?_; conv => whnf)
    | (refine AWp.any (by kernel_rfl) (by kernel_rfl) (by kernel_rfl) ?_; conv => whnf)
    | (apply And.intro; (focus (first | omega | rfl | decide | exact Nat.le_of_ble_eq_true rfl | ((repeat' (first | exact all_nil | refine all_cons ?_ ?_ | rfl | fail)); done) | (simp [-List.length_flatMap]; done) | (simp [-List.length_flatMap]; omega) | fail)); conv => whnf)
    | fail)
  refine AWp.loopA [6] [7, 8, 3, 9, 10, 11, 12, 13, 14, 15, 16, 17, 2, 18] (fun i : Nat => [.int .i64 i]) (fun i s' => i ≤ l.length ∧ s' = s ∧ (l.take i).all bareB = true) (fun i => l.length - i) (0) (by kernel_rfl) (by (repeat' (first | refine cons_eq ?_ ?_ | refine int64_of ?_ ?_ ?_ | rfl | omega))) ?_ ?_
  · exact ⟨Nat.zero_le _, rfl, by simp⟩
  · rintro x i s1 ⟨h1, rfl, h2⟩
    show awp _ _ _ _ _ (updL _ _ [.int .i64 (i : Int)]) _
    conv => whnf
    by_cases hlt : i < l.length
    · have hall : (l.take (i + 1)).all bareB = ((l.take i).all bareB && bareB (byteAt l i)) := by rw [take_byte hlt]; simp
      have hz : byteAt l ((i : Int)).toNat = byteAt l i := rfl
      repeat' (first
        | (exfalso; first | omega | exact (by assumption : ¬ True) trivial | fail)
        | (refine ⟨Sub.refl _, ?_⟩)
        | (refine brA_split (fun h => ?_) (fun h => ?_) <;> (try rw [h]) <;> (try simp only [Bool.false_eq_true, Bool.true_eq_false, ↓reduceIte, decide_eq_true_eq, decide_eq_false_iff_not, Bool.not_eq_true', Bool.not_eq_false'] at h) <;> (conv => whnf))
        | (rw [hz]; conv => whnf)
        | (refine ACalls.pure' ?_ (progBare_ok (byteAt l i)); rintro _ rfl; conv => whnf)
        | (refine DCall.pure ?_ (progBare_ok (byteAt l i)); conv => whnf)
        | (refine ACalls.pure' ?_ (replaceAll_ok hM l hl); rintro _ rfl; conv => whnf)
        | (refine DCall.pure ?_ (replaceAll_ok hM l hl); conv => whnf)
        | (refine getB_same ?_; conv => whnf)
        | (refine AWp.any (by kernel_rfl) (by kernel_rfl) (by kernel_rfl) ?_; conv => whnf)
        | (apply And.intro; (focus (first | omega | rfl | decide | exact Nat.le_of_ble_eq_true rfl | ((repeat' (first | exact all_nil | refine all_cons ?_ ?_ | rfl | fail)); done) | (simp [-List.length_flatMap]; done) | (simp [-List.length_flatMap]; omega) | fail)); conv => whnf)
        | fail)
      · have hx : ¬ (l.all bareB = true) := by
          intro ha
          have := List.all_eq_true.1 ha (byteAt l i) (by simp [byteAt, List.getD, hlt])
          rw [this] at h
          exact absurd h (by decide)
        rw [fldT, if_neg hx]
        show AV.str (([34] ++ dbl l) ++ [34]) = _
        simp
      · refine ⟨i + 1, by (repeat' (first | refine cons_eq ?_ ?_ | refine int64_of ?_ ?_ ?_ | rfl | omega)), by (repeat (first | exact Same.refl _ _ | refine Same.upd rfl ?_ | refine Same.updL rfl ?_ | refine Same.havoc rfl ?_)), ⟨by omega, by first | rfl | trivial, ?_⟩, by omega⟩
        rw [hall, h2, h]; rfl
    · obtain rfl : i = l.length := by omega
      rw [List.take_length] at h2
      repeat' (first
        | (exfalso; first | omega | exact (by assumption : ¬ True) trivial | fail)
        | (refine ⟨Sub.refl _, ?_⟩)
        | (refine brA_split (fun h => ?_) (fun h => ?_) <;> (try rw [h]) <;> (try simp only [Bool.false_eq_true, Bool.true_eq_false, ↓reduceIte, decide_eq_true_eq, decide_eq_false_iff_not, Bool.not_eq_true', Bool.not_eq_false'] at h) <;> (conv => whnf))
        | (refine getB_same ?_; conv => whnf)
        | (refine AWp.any (by kernel_rfl) (by kernel_rfl) (by kernel_rfl) ?_; conv => whnf)
        | (apply And.intro; (focus (first | omega | rfl | decide | exact Nat.le_of_ble_eq_true rfl | ((repeat' (first | exact all_nil | refine all_cons ?_ ?_ | rfl | fail)); done) | (simp [-List.length_flatMap]; done) | (simp [-List.length_flatMap]; omega) | fail)); conv => whnf)
        | fail)
      first | rfl | (rw [fldT, if_pos h2]; rfl)
def flds (m : List (List UInt8)) : List (List UInt8) := m.map fldT
theorem join_flds : ∀ m : List (List UInt8), Lib.join (flds m) [44] = joinT m
  | [] => rfl
  | [x] => Lib.join_one _ _
  | x :: y :: r => by
    have h := join_flds (y :: r)
    simp only [flds, List.map_cons, Lib.join_cons, Lib.joinTail, List.flatten_cons] at h ⊢
    rw [joinT, ← h]
    simp
theorem flds_add {m : List (List UInt8)} {i : Nat} (h : i < m.length) : strsA (flds (m.take i)) ++ [[.str (fldT (m.getD i []))]] = strsA (flds (m.take (i + 1))) := by
  rw [take_str h]; simp [flds, strsA]
theorem line_ok (hM : MaxN Γ) (t : Nat) (m : List (List UInt8)) (hm : m.length ≤ 12) (hs : ∀ x ∈ m, x.length ≤ 1048576) : APure Tryd.prog Γ 6 [.slice t (strsA m)] fun v => v = .str (if m = [] then [] else lineT m) := by
  have hll := strsA_len m
  have hjl := joinT_len m hs
  have hjo := Jo.join_ok (Γ := Γ)
  by_cases h0 : m = []
  · rw [if_pos h0]
    subst h0
    refine APure.of_awp Tryd.func6 rfl (Nat.le_of_ble_eq_true (by kernel_rfl)) (by kernel_rfl) ?_
    intro s
    conv => whnf
    repeat' (first
      | (exfalso; first | omega | exact (by assumption : ¬ True) trivial | fail)
      | (refine ⟨Sub.refl _, ?_⟩)
      | (refine brA_split (fun h => ?_) (fun h => ?_) <;> (try rw [h]) <;> (try simp only [Bool.false_eq_true, Bool.true_eq_false, ↓reduceIte, decide_eq_true_eq, decide_eq_false_iff_not, Bool.not_eq_true', Bool.not_eq_false'] at h) <;> (conv => whnf))
      | (refine getB_same ?_; conv => whnf)
      | (refine AWp.any (by kernel_rfl) (by kernel_rfl) (by kernel_rfl) ?_; conv => whnf)
      | (apply And.intro; (focus (first | omega | rfl | decide | exact Nat.le_of_ble_eq_true rfl | ((repeat' (first | exact all_nil | refine all_cons ?_ ?_ | rfl | fail)); done) | (simp [-List.length_flatMap]; done) | (simp [-List.length_flatMap]; omega) | fail)); conv => whnf)
      | fail)
    all_goals first | rfl | skip
  · rw [if_neg h0]
    have hpos : 0 < m.length := List.length_pos_iff.2 h0
    refine APure.of_awp Tryd.func6 rfl (Nat.le_of_ble_eq_true (by kernel_rfl)) (by kernel_rfl) ?_
    intro s
    conv => whnf
    repeat' (first
      | (exfalso; first | omega | exact (by assumption : ¬ True) trivial | fail)
      | (refine ⟨Sub.refl _, ?_⟩)
      | (refine brA_split (fun h => ?_) (fun h => ?_) <;> (try rw [h]) <;> (try simp only [Bool.false_eq_true, Bool.true_eq_false, ↓reduceIte, decide_eq_true_eq, decide_eq_false_iff_not, Bool.not_eq_true', Bool.not_eq_false'] at h) <;> (conv => whnf))
      | (refine getB_same ?_; conv => whnf)
      | (refine AWp.any (by kernel_rfl) (by kernel_rfl) (by kernel_rfl) ?_; conv => whnf)
      | (apply And.intro; (focus (first | omega | rfl | decide | exact Nat.le_of_ble_eq_true rfl | ((repeat' (first | exact all_nil | refine all_cons ?_ ?_ | rfl | fail)); done) | (simp [-List.length_flatMap]; done) | (simp [-List.length_flatMap]; omega) | fail)); conv => whnf)
      | fail)
    refine AWp.loopA [3, 11] [12, 13, 14, 5, 15, 16, 17, 18, 19, 20] (fun x : Nat × Nat => [.slice x.2 (strsA (flds (m.take x.1))), .int .i64 x.1]) (fun x s' => x.1 ≤ m.length ∧ Own s s' (m.take x.1).isEmpty x.2 9 1) (fun x => m.length - x.1) ((0, 1)) (by kernel_rfl) (by (repeat' (first | refine cons_eq ?_ ?_ | refine int64_of ?_ ?_ ?_ | rfl | omega))) ?_ ?_
    · exact ⟨Nat.zero_le _, Own.nil _ _ _⟩
    · rintro x ⟨i, t1⟩ s1 ⟨hi, ho⟩
      simp only at hi ho
      show awp _ _ _ _ _ (updL _ _ [.slice t1 (strsA (flds (m.take i))), .int .i64 (i : Int)]) _
      conv => whnf
      by_cases hlt : i < m.length
      · have hg := strsA_get hlt
        have hsa := flds_add hlt
        have hsl : (strsA (flds (m.take i))).length = i := by rw [strsA_len, flds, List.length_map, List.length_take]; omega
        have htk : (m.take (i + 1)).isEmpty = false := by rw [take_str hlt]; simp
        have hmem : m.getD i [] ∈ m := by simp [List.getD, hlt]
        have hz := hs _ hmem
        generalize m.getD i [] = z at *
        repeat' (first
          | (exfalso; first | omega | exact (by assumption : ¬ True) trivial | fail)
          | (refine ⟨Sub.refl _, ?_⟩)
          | (refine brA_split (fun h => ?_) (fun h => ?_) <;> (try rw [h]) <;> (try simp only [Bool.false_eq_true, Bool.true_eq_false, ↓reduceIte, decide_eq_true_eq, decide_eq_false_iff_not, Bool.not_eq_true', Bool.not_eq_false'] at h) <;> (conv => whnf))
          | (rw [show (strsA m).getD ((i : Int)).toNat [] = _ from hg]; conv => whnf)
          | (refine ACalls.pure' ?_ (field_ok hM z hz); rintro _ rfl; conv => whnf)
          | (refine DCall.pure ?_ (field_ok hM z hz); conv => whnf)
          | (refine getB_same ?_; conv => whnf)
          | (refine AWp.any (by kernel_rfl) (by kernel_rfl) (by kernel_rfl) ?_; conv => whnf)
          | (apply And.intro; (focus (first | omega | rfl | decide | exact Nat.le_of_ble_eq_true rfl | ((repeat' (first | exact all_nil | refine all_cons ?_ ?_ | rfl | fail)); done) | (simp [-List.length_flatMap]; done) | (simp [-List.length_flatMap]; omega) | fail)); conv => whnf)
          | fail)
        refine ⟨ho.may, fun c hc => ?_, all_cons ⟨rfl, rfl⟩ all_nil, ?_, ?_⟩
        · obtain ⟨w, _, rfl⟩ := List.mem_map.1 hc; rfl
        · show ((strsA (flds (m.take i))).length + 1) * (16 + 1) ≤ _
          rw [hsl]; omega
        intro t2 k1 k2
        have k3 := ho.grow k1 k2
        conv => whnf
        repeat' (first
          | (exfalso; first | omega | exact (by assumption : ¬ True) trivial | fail)
          | (refine ⟨Sub.refl _, ?_⟩)
          | (refine brA_split (fun h => ?_) (fun h => ?_) <;> (try rw [h]) <;> (try simp only [Bool.false_eq_true, Bool.true_eq_false, ↓reduceIte, decide_eq_true_eq, decide_eq_false_iff_not, Bool.not_eq_true', Bool.not_eq_false'] at h) <;> (conv => whnf))
          | (refine getB_same ?_; conv => whnf)
          | (refine AWp.any (by kernel_rfl) (by kernel_rfl) (by kernel_rfl) ?_; conv => whnf)
          | (apply And.intro; (focus (first | omega | rfl | decide | exact Nat.le_of_ble_eq_true rfl | ((repeat' (first | exact all_nil | refine all_cons ?_ ?_ | rfl | fail)); done) | (simp [-List.length_flatMap]; done) | (simp [-List.length_flatMap]; omega) | fail)); conv => whnf)
          | fail)
        refine ⟨(i + 1, t2), ?_, by (repeat (first | exact Same.refl _ _ | refine Same.upd rfl ?_ | refine Same.updL rfl ?_ | refine Same.havoc rfl ?_)), ⟨by simp only; omega, ?_⟩, by simp only; omega⟩
        · exact cons_eq (congrArg (AV.slice t2) hsa) (cons_eq (congrArg (AV.int .i64) (i64_of (by omega) (by omega) (by omega))) rfl)
        · simp only
          rw [htk, show false = ((m.take i).isEmpty && false) by cases m.take i <;> rfl]
          exact k3
      · obtain rfl : i = m.length := by omega
        rw [List.take_length] at *
        have hjj := hjo t1 (flds m) [44] (by unfold flds; rw [List.length_map]; omega) (by rw [join_flds]; omega)
        rw [join_flds] at hjj
        repeat' (first
          | (exfalso; first | omega | exact (by assumption : ¬ True) trivial | fail)
          | (refine ⟨Sub.refl _, ?_⟩)
          | (refine brA_split (fun h => ?_) (fun h => ?_) <;> (try rw [h]) <;> (try simp only [Bool.false_eq_true, Bool.true_eq_false, ↓reduceIte, decide_eq_true_eq, decide_eq_false_iff_not, Bool.not_eq_true', Bool.not_eq_false'] at h) <;> (conv => whnf))
          | (refine ACalls.pure' ?_ (hjj); rintro _ rfl; conv => whnf)
          | (refine DCall.pure ?_ (hjj); conv => whnf)
          | (refine getB_same ?_; conv => whnf)
          | (refine AWp.any (by kernel_rfl) (by kernel_rfl) (by kernel_rfl) ?_; conv => whnf)
          | (apply And.intro; (focus (first | omega | rfl | decide | exact Nat.le_of_ble_eq_true rfl | ((repeat' (first | exact all_nil | refine all_cons ?_ ?_ | rfl | fail)); done) | (simp [-List.length_flatMap]; done) | (simp [-List.length_flatMap]; omega) | fail)); conv => whnf)
          | fail)
        first | exact ⟨ho.sub, rfl⟩ | exact ⟨_, ho.sub, rfl⟩ | rfl
end Go.Proofs.YthgpipfkcbekiaaDoor.Cv
