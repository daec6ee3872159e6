
/- Chapter 1: the reference's numbers; quotients. -/
import Derived.Test.YtcgobgnbpeageaaDoorNuA
set_option linter.all false
namespace Go.Proofs.YtcgobgnbpeageaaDoor.Nu
open Go Go.Ab Go.RowKit
variable {Γ : Nat → AV}
attribute [local irreducible] APure Sto.set Sto.grow
set_option maxRecDepth 10000

theorem bool_eq {a b : Bool} (h : a = b) : AV.bool a = .bool b := by rw [h]
theorem refSub_ok (a b : Int) (ha : Fits a) (hb : Fits b) : APure Tryd.prog Γ 18 [.int .i64 a, .int .i64 b] fun v => v = .tuple [.int .i64 (val (a - b)), .bool (fine (a - b))] := by
  unfold Fits at ha hb
  refine APure.of_awp Tryd.func18 rfl (Nat.le_of_ble_eq_true (by kernel_rfl)) (by kernel_rfl) ?_
  intro s
  conv => whnf
  repeat' (first
    | (refine ⟨Sub.refl _, ?_⟩)
    | (refine brA_split (fun h => ?_) (fun h => ?_) <;> (try rw [h]) <;> (try simp only [Bool.false_eq_true, Bool.true_eq_false, ↓reduceIte, decide_eq_true_eq, decide_eq_false_iff_not, Bool.not_eq_true', Bool.not_eq_false'] at h) <;> (conv => whnf))
    | (refine getB_same ?_; conv => whnf)
    | (refine AWp.any (by kernel_rfl) (by kernel_rfl) (by kernel_rfl) ?_; conv => whnf)
    | (apply And.intro; (focus (first | omega | rfl | decide | exact Nat.le_of_ble_eq_true rfl | ((repeat' (first | exact all_nil | refine all_cons ?_ ?_ | rfl | fail)); done) | (simp [-List.length_flatMap]; done) | (simp [-List.length_flatMap]; omega) | fail)); conv => whnf)
    | fail)
  all_goals
    simp only [IntKind.wrap_i64] at *
    simp only [tupA, val, fine, AV.tuple.injEq, List.cons.injEq, AV.int.injEq, AV.bool.injEq, true_and, and_true, IntKind.wrap_i64]
    (split <;> first | (refine ⟨?_, ?_⟩ <;> first | omega | (simp; omega)) | omega)

theorem quo_pos {m a b : Int} (hm : 0 ≤ m) (hb : 0 < b) : m.tdiv b < a ↔ m < a * b := by
  rw [Int.tdiv_eq_ediv_of_nonneg hm]
  exact Int.ediv_lt_iff_lt_mul hb
theorem quo_in {m b : Int} (hm : -9223372036854775808 ≤ m ∧ m ≤ 9223372036854775807) (hb : b ≠ 0) (hb1 : b ≠ -1) : IntKind.i64.wrap (m.tdiv b) = m.tdiv b := by
  refine IntWalk.i64_in _ ?_
  by_cases h1 : b = 1
  · subst h1; simpa using hm
  · have h := Int.natAbs_tdiv m b
    have h2 : (m.tdiv b).natAbs ≤ m.natAbs / 2 := by rw [h]; exact Nat.div_le_div_left (by omega) (by decide)
    omega

theorem mul_facts (a b : Int) (ha : Fits a) (hb : Fits b) :
    (0 < a → 0 < b → (IntKind.i64.wrap ((9223372036854775807 : Int).tdiv b) < a ↔ 9223372036854775807 < a * b)) ∧
    (0 < a → b < 0 → (b < IntKind.i64.wrap ((-9223372036854775808 : Int).tdiv a) ↔ a * b < -9223372036854775808)) ∧
    (a < 0 → 0 < b → (a < IntKind.i64.wrap ((-9223372036854775808 : Int).tdiv b) ↔ a * b < -9223372036854775808)) ∧
    (a < 0 → b < -1 → (a < IntKind.i64.wrap ((9223372036854775807 : Int).tdiv b) ↔ 9223372036854775807 < a * b)) ∧
    (0 < a → 0 < b → 0 < a * b) ∧ (0 < a → b < 0 → a * b < 0) ∧ (a < 0 → 0 < b → a * b < 0) ∧ (a < 0 → b < 0 → 0 < a * b) := by
  unfold Fits at ha hb
  have f1 : 0 < a → 0 < b → (IntKind.i64.wrap ((9223372036854775807 : Int).tdiv b) < a ↔ 9223372036854775807 < a * b) := fun h1 h2 => by
    rw [quo_in (by omega) (by omega) (by omega), quo_pos (by omega) h2]
  have f2 : 0 < a → b < 0 → (b < IntKind.i64.wrap ((-9223372036854775808 : Int).tdiv a) ↔ a * b < -9223372036854775808) := fun h1 h2 => by
    rw [quo_in (by omega) (by omega) (by omega), show (-9223372036854775808 : Int) = -(9223372036854775808) from rfl, Int.neg_tdiv]
    have := quo_pos (m := 9223372036854775808) (a := -b) (b := a) (by omega) h1
    rw [Int.neg_mul, Int.mul_comm b a] at this
    omega
  have f3 : a < 0 → 0 < b → (a < IntKind.i64.wrap ((-9223372036854775808 : Int).tdiv b) ↔ a * b < -9223372036854775808) := fun h1 h2 => by
    rw [quo_in (by omega) (by omega) (by omega), show (-9223372036854775808 : Int) = -(9223372036854775808) from rfl, Int.neg_tdiv]
    have := quo_pos (m := 9223372036854775808) (a := -a) (b := b) (by omega) h2
    rw [Int.neg_mul] at this
    omega
  have f4 : a < 0 → b < -1 → (a < IntKind.i64.wrap ((9223372036854775807 : Int).tdiv b) ↔ 9223372036854775807 < a * b) := fun h1 h2 => by
    rw [quo_in (by omega) (by omega) (by omega)]
    have := quo_pos (m := 9223372036854775807) (a := -a) (b := -b) (by omega) (by omega)
    rw [Int.neg_mul_neg, Int.tdiv_neg] at this
    omega
  have s1 : 0 < a → 0 < b → 0 < a * b := Int.mul_pos
  have s2 : 0 < a → b < 0 → a * b < 0 := Int.mul_neg_of_pos_of_neg
  have s3 : a < 0 → 0 < b → a * b < 0 := Int.mul_neg_of_neg_of_pos
  have s4 : a < 0 → b < 0 → 0 < a * b := Int.mul_pos_of_neg_of_neg
  exact ⟨f1, f2, f3, f4, s1, s2, s3, s4⟩
theorem refMul_ok (a b : Int) (ha : Fits a) (hb : Fits b) : APure Tryd.prog Γ 17 [.int .i64 a, .int .i64 b] fun v => v = .tuple [.int .i64 (val (a * b)), .bool (fine (a * b))] := by
  obtain ⟨f1, f2, f3, f4, s1, s2, s3, s4⟩ := mul_facts a b ha hb
  have hb' := hb
  have ha' := ha
  unfold Fits at ha hb
  by_cases h1 : a = 0
  · clear f1 f2 f3 f4 s1 s2 s3 s4
    refine APure.of_awp Tryd.func17 rfl (Nat.le_of_ble_eq_true (by kernel_rfl)) (by kernel_rfl) ?_
    intro s
    conv => whnf
    repeat' (first
      | (exfalso; omega)
      | (refine ⟨Sub.refl _, ?_⟩)
      | (refine brA_split (fun h => ?_) (fun h => ?_) <;> (try rw [h]) <;> (try simp only [Bool.false_eq_true, Bool.true_eq_false, ↓reduceIte, decide_eq_true_eq, decide_eq_false_iff_not, Bool.not_eq_true', Bool.not_eq_false'] at h) <;> (conv => whnf))
      | (refine getB_same ?_; conv => whnf)
      | (refine AWp.any (by kernel_rfl) (by kernel_rfl) (by kernel_rfl) ?_; conv => whnf)
      | (apply And.intro; (focus (first | omega | rfl | decide | exact Nat.le_of_ble_eq_true rfl | ((repeat' (first | exact all_nil | refine all_cons ?_ ?_ | rfl | fail)); done) | (simp [-List.length_flatMap]; done) | (simp [-List.length_flatMap]; omega) | fail)); conv => whnf)
      | fail)
    all_goals (rw [h1, Int.zero_mul]; rfl)
  by_cases h2 : b = 0
  · clear f1 f2 f3 f4 s1 s2 s3 s4
    refine APure.of_awp Tryd.func17 rfl (Nat.le_of_ble_eq_true (by kernel_rfl)) (by kernel_rfl) ?_
    intro s
    conv => whnf
    repeat' (first
      | (exfalso; omega)
      | (refine ⟨Sub.refl _, ?_⟩)
      | (refine brA_split (fun h => ?_) (fun h => ?_) <;> (try rw [h]) <;> (try simp only [Bool.false_eq_true, Bool.true_eq_false, ↓reduceIte, decide_eq_true_eq, decide_eq_false_iff_not, Bool.not_eq_true', Bool.not_eq_false'] at h) <;> (conv => whnf))
      | (refine getB_same ?_; conv => whnf)
      | (refine AWp.any (by kernel_rfl) (by kernel_rfl) (by kernel_rfl) ?_; conv => whnf)
      | (apply And.intro; (focus (first | omega | rfl | decide | exact Nat.le_of_ble_eq_true rfl | ((repeat' (first | exact all_nil | refine all_cons ?_ ?_ | rfl | fail)); done) | (simp [-List.length_flatMap]; done) | (simp [-List.length_flatMap]; omega) | fail)); conv => whnf)
      | fail)
    all_goals (rw [h2, Int.mul_zero]; rfl)
  by_cases h3 : a = -1
  · clear f1 f2 f3 f4 s1 s2 s3 s4
    refine APure.of_awp Tryd.func17 rfl (Nat.le_of_ble_eq_true (by kernel_rfl)) (by kernel_rfl) ?_
    intro s
    conv => whnf
    repeat' (first
      | (exfalso; omega)
      | (refine ⟨Sub.refl _, ?_⟩)
      | (refine brA_split (fun h => ?_) (fun h => ?_) <;> (try rw [h]) <;> (try simp only [Bool.false_eq_true, Bool.true_eq_false, ↓reduceIte, decide_eq_true_eq, decide_eq_false_iff_not, Bool.not_eq_true', Bool.not_eq_false'] at h) <;> (conv => whnf))
      | (refine ACalls.pure' ?_ (refSub_ok _ _ fits0 hb'); rintro _ rfl; conv => whnf)
      | (refine DCall.pure ?_ (refSub_ok _ _ fits0 hb'); conv => whnf)
      | (refine getB_same ?_; conv => whnf)
      | (refine AWp.any (by kernel_rfl) (by kernel_rfl) (by kernel_rfl) ?_; conv => whnf)
      | (apply And.intro; (focus (first | omega | rfl | decide | exact Nat.le_of_ble_eq_true rfl | ((repeat' (first | exact all_nil | refine all_cons ?_ ?_ | rfl | fail)); done) | (simp [-List.length_flatMap]; done) | (simp [-List.length_flatMap]; omega) | fail)); conv => whnf)
      | fail)
    all_goals (rw [h3, show -1 * b = 0 - b by omega]; rfl)
  by_cases h4 : b = -1
  · clear f1 f2 f3 f4 s1 s2 s3 s4
    refine APure.of_awp Tryd.func17 rfl (Nat.le_of_ble_eq_true (by kernel_rfl)) (by kernel_rfl) ?_
    intro s
    conv => whnf
    repeat' (first
      | (exfalso; omega)
      | (refine ⟨Sub.refl _, ?_⟩)
      | (refine brA_split (fun h => ?_) (fun h => ?_) <;> (try rw [h]) <;> (try simp only [Bool.false_eq_true, Bool.true_eq_false, ↓reduceIte, decide_eq_true_eq, decide_eq_false_iff_not, Bool.not_eq_true', Bool.not_eq_false'] at h) <;> (conv => whnf))
      | (refine ACalls.pure' ?_ (refSub_ok _ _ fits0 ha'); rintro _ rfl; conv => whnf)
      | (refine DCall.pure ?_ (refSub_ok _ _ fits0 ha'); conv => whnf)
      | (refine getB_same ?_; conv => whnf)
      | (refine AWp.any (by kernel_rfl) (by kernel_rfl) (by kernel_rfl) ?_; conv => whnf)
      | (apply And.intro; (focus (first | omega | rfl | decide | exact Nat.le_of_ble_eq_true rfl | ((repeat' (first | exact all_nil | refine all_cons ?_ ?_ | rfl | fail)); done) | (simp [-List.length_flatMap]; done) | (simp [-List.length_flatMap]; omega) | fail)); conv => whnf)
      | fail)
    all_goals (rw [h4, show a * -1 = 0 - a by omega]; rfl)
  by_cases k : 0 < a ∧ 0 < b
  · have f := f1 k.1 k.2
    have g := s1 k.1 k.2
    clear f1 f2 f3 f4 s1 s2 s3 s4
    refine APure.of_awp Tryd.func17 rfl (Nat.le_of_ble_eq_true (by kernel_rfl)) (by kernel_rfl) ?_
    intro s
    conv => whnf
    repeat' (first
      | (exfalso; omega)
      | (refine ⟨Sub.refl _, ?_⟩)
      | (refine brA_split (fun h => ?_) (fun h => ?_) <;> (try rw [h]) <;> (try simp only [Bool.false_eq_true, Bool.true_eq_false, ↓reduceIte, decide_eq_true_eq, decide_eq_false_iff_not, Bool.not_eq_true', Bool.not_eq_false'] at h) <;> (conv => whnf))
      | (refine getB_same ?_; conv => whnf)
      | (refine AWp.any (by kernel_rfl) (by kernel_rfl) (by kernel_rfl) ?_; conv => whnf)
      | (apply And.intro; (focus (first | omega | rfl | decide | exact Nat.le_of_ble_eq_true rfl | ((repeat' (first | exact all_nil | refine all_cons ?_ ?_ | rfl | fail)); done) | (simp [-List.length_flatMap]; done) | (simp [-List.length_flatMap]; omega) | fail)); conv => whnf)
      | fail)
    all_goals
      simp only [tupA, val, fine, AV.tuple.injEq, List.cons.injEq, AV.int.injEq, AV.bool.injEq, true_and, and_true, IntKind.wrap_i64 (a * b)]
      (split <;> first | omega | (refine ⟨?_, ?_⟩ <;> first | omega | (simp; omega)) | (simp; omega))
  by_cases k : 0 < a ∧ b < 0
  · have f := f2 k.1 k.2
    have g := s2 k.1 k.2
    clear f1 f2 f3 f4 s1 s2 s3 s4
    refine APure.of_awp Tryd.func17 rfl (Nat.le_of_ble_eq_true (by kernel_rfl)) (by kernel_rfl) ?_
    intro s
    conv => whnf
    repeat' (first
      | (exfalso; omega)
      | (refine ⟨Sub.refl _, ?_⟩)
      | (refine brA_split (fun h => ?_) (fun h => ?_) <;> (try rw [h]) <;> (try simp only [Bool.false_eq_true, Bool.true_eq_false, ↓reduceIte, decide_eq_true_eq, decide_eq_false_iff_not, Bool.not_eq_true', Bool.not_eq_false'] at h) <;> (conv => whnf))
      | (refine getB_same ?_; conv => whnf)
      | (refine AWp.any (by kernel_rfl) (by kernel_rfl) (by kernel_rfl) ?_; conv => whnf)
      | (apply And.intro; (focus (first | omega | rfl | decide | exact Nat.le_of_ble_eq_true rfl | ((repeat' (first | exact all_nil | refine all_cons ?_ ?_ | rfl | fail)); done) | (simp [-List.length_flatMap]; done) | (simp [-List.length_flatMap]; omega) | fail)); conv => whnf)
      | fail)
    all_goals
      simp only [tupA, val, fine, AV.tuple.injEq, List.cons.injEq, AV.int.injEq, AV.bool.injEq, true_and, and_true, IntKind.wrap_i64 (a * b)]
      (split <;> first | omega | (refine ⟨?_, ?_⟩ <;> first | omega | (simp; omega)) | (simp; omega))
  by_cases k : a < 0 ∧ 0 < b
  · have f := f3 k.1 k.2
    have g := s3 k.1 k.2
    clear f1 f2 f3 f4 s1 s2 s3 s4
    refine APure.of_awp Tryd.func17 rfl (Nat.le_of_ble_eq_true (by kernel_rfl)) (by kernel_rfl) ?_
    intro s
    conv => whnf
    repeat' (first
      | (exfalso; omega)
      | (refine ⟨Sub.refl _, ?_⟩)
      | (refine brA_split (fun h => ?_) (fun h => ?_) <;> (try rw [h]) <;> (try simp only [Bool.false_eq_true, Bool.true_eq_false, ↓reduceIte, decide_eq_true_eq, decide_eq_false_iff_not, Bool.not_eq_true', Bool.not_eq_false'] at h) <;> (conv => whnf))
      | (refine getB_same ?_; conv => whnf)
      | (refine AWp.any (by kernel_rfl) (by kernel_rfl) (by kernel_rfl) ?_; conv => whnf)
      | (apply And.intro; (focus (first | omega | rfl | decide | exact Nat.le_of_ble_eq_true rfl | ((repeat' (first | exact all_nil | refine all_cons ?_ ?_ | rfl | fail)); done) | (simp [-List.length_flatMap]; done) | (simp [-List.length_flatMap]; omega) | fail)); conv => whnf)
      | fail)
    all_goals
      simp only [tupA, val, fine, AV.tuple.injEq, List.cons.injEq, AV.int.injEq, AV.bool.injEq, true_and, and_true, IntKind.wrap_i64 (a * b)]
      (split <;> first | omega | (refine ⟨?_, ?_⟩ <;> first | omega | (simp; omega)) | (simp; omega))
  · have f := f4 (by omega) (by omega)
    have g := s4 (by omega) (by omega)
    clear f1 f2 f3 f4 s1 s2 s3 s4
    refine APure.of_awp Tryd.func17 rfl (Nat.le_of_ble_eq_true (by kernel_rfl)) (by kernel_rfl) ?_
    intro s
    conv => whnf
    repeat' (first
      | (exfalso; omega)
      | (refine ⟨Sub.refl _, ?_⟩)
      | (refine brA_split (fun h => ?_) (fun h => ?_) <;> (try rw [h]) <;> (try simp only [Bool.false_eq_true, Bool.true_eq_false, ↓reduceIte, decide_eq_true_eq, decide_eq_false_iff_not, Bool.not_eq_true', Bool.not_eq_false'] at h) <;> (conv => whnf))
      | (refine getB_same ?_; conv => whnf)
      | (refine AWp.any (by kernel_rfl) (by kernel_rfl) (by kernel_rfl) ?_; conv => whnf)
      | (apply And.intro; (focus (first | omega | rfl | decide | exact Nat.le_of_ble_eq_true rfl | ((repeat' (first | exact all_nil | refine all_cons ?_ ?_ | rfl | fail)); done) | (simp [-List.length_flatMap]; done) | (simp [-List.length_flatMap]; omega) | fail)); conv => whnf)
      | fail)
    all_goals
      simp only [tupA, val, fine, AV.tuple.injEq, List.cons.injEq, AV.int.injEq, AV.bool.injEq, true_and, and_true, IntKind.wrap_i64 (a * b)]
      (split <;> first | omega | (refine ⟨?_, ?_⟩ <;> first | omega | (simp; omega)) | (simp; omega))

end Go.Proofs.YtcgobgnbpeageaaDoor.Nu
