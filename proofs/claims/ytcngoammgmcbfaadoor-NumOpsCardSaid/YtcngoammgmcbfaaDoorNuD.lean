/- Chapter 1: the laws NumAdds, NumDivides, NumOps, NumSums, of the code. -/
import Derived.Test.YtcngoammgmcbfaaDoorNuC
namespace Go.Proofs.YtcngoammgmcbfaaDoor.Nu
open Go Go.Ab Go.RowKit
variable {Γ : Nat → AV}
attribute [local irreducible] APure Sto.set Sto.grow
set_option maxRecDepth 10000

theorem tell_ok (x : Int) : APure Tryd.prog Γ 38 [.int .i64 (val x), .int .i64 (err x), .int .i64 (val x), .bool (fine x)] fun v => v = .bool true := tells_ok _ _ x _ ⟨rfl, rfl, rfl⟩ _ rfl

theorem adds_ok (hT : Tens Γ) (a b : Int) (ha : Fits a) (hb : Fits b) : APure Tryd.prog Γ 10 [.int .i64 a, .int .i64 b] fun v => v = .bool true := by
  refine APure.of_awp Tryd.func10 rfl (Nat.le_of_ble_eq_true (by kernel_rfl)) (by kernel_rfl) ?_
  intro s
  conv => whnf
  repeat' (first
    | (refine ⟨Sub.refl _, ?_⟩)
    | (refine brA_split (fun h => ?_) (fun h => ?_) <;> (try rw [h]) <;> (try simp only [Bool.false_eq_true, Bool.true_eq_false, ↓reduceIte, decide_eq_true_eq, decide_eq_false_iff_not, Bool.not_eq_true', Bool.not_eq_false'] at h) <;> (conv => whnf))
    | (refine ACalls.pure' ?_ (add_ok _ _ ha hb); rintro _ rfl; conv => whnf)
    | (refine DCall.pure ?_ (add_ok _ _ ha hb); conv => whnf)
    | (refine ACalls.pure' ?_ (refAdd_ok _ _ ha hb); rintro _ rfl; conv => whnf)
    | (refine DCall.pure ?_ (refAdd_ok _ _ ha hb); conv => whnf)
    | (refine ACalls.pure' ?_ (sub_ok _ _ ha hb); rintro _ rfl; conv => whnf)
    | (refine DCall.pure ?_ (sub_ok _ _ ha hb); conv => whnf)
    | (refine ACalls.pure' ?_ (refSub_ok _ _ ha hb); rintro _ rfl; conv => whnf)
    | (refine DCall.pure ?_ (refSub_ok _ _ ha hb); conv => whnf)
    | (refine ACalls.pure' ?_ (mul_ok _ _ ha hb); rintro _ rfl; conv => whnf)
    | (refine DCall.pure ?_ (mul_ok _ _ ha hb); conv => whnf)
    | (refine ACalls.pure' ?_ (refMul_ok _ _ ha hb); rintro _ rfl; conv => whnf)
    | (refine DCall.pure ?_ (refMul_ok _ _ ha hb); conv => whnf)
    | (refine ACalls.pure' ?_ (neg_ok _ ha); rintro _ rfl; conv => whnf)
    | (refine DCall.pure ?_ (neg_ok _ ha); conv => whnf)
    | (refine ACalls.pure' ?_ (refSub_ok _ _ fits0 ha); rintro _ rfl; conv => whnf)
    | (refine DCall.pure ?_ (refSub_ok _ _ fits0 ha); conv => whnf)
    | (refine ACalls.pure' ?_ (tell_ok _); rintro _ rfl; conv => whnf)
    | (refine DCall.pure ?_ (tell_ok _); conv => whnf)
    | (refine ACalls.pure' ?_ (awake_ok hT); rintro _ rfl; conv => whnf)
    | (refine DCall.pure ?_ (awake_ok hT); conv => whnf)
    | (refine getB_same ?_; conv => whnf)
    | (refine AWp.any (by kernel_rfl) (by kernel_rfl) (by kernel_rfl) ?_; conv => whnf)
    | (apply And.intro; (focus (first | omega | rfl | decide | exact Nat.le_of_ble_eq_true rfl | ((repeat' (first | exact all_nil | refine all_cons ?_ ?_ | rfl | fail)); done) | (simp [-List.length_flatMap]; done) | (simp [-List.length_flatMap]; omega) | fail)); conv => whnf)
    | fail)
  rfl

theorem divides_ok (hT : Tens Γ) (a b : Int) (ha : Fits a) : APure Tryd.prog Γ 7 [.int .i64 a, .int .i64 b] fun v => v = .bool true := by
  have hz : b = 0 → quo a b = 0 ∧ lft a b = 0 ∧ quoErr a b = 7 ∧ lftErr b = 7 := fun h => by simp [quo, lft, quoErr, lftErr, h]
  have hn : b ≠ 0 → quoErr a b ≠ 7 ∧ lftErr b = 0 := fun h => by
    simp only [quoErr, lftErr, if_neg h, err, ne_eq]
    refine ⟨?_, trivial⟩
    split
    · split <;> decide
    · decide
  have hw : IntKind.i64.wrap (quoErr a b) = quoErr a b := by
    refine IntWalk.i64_in _ ?_
    unfold quoErr err
    split <;> (try split) <;> (try split) <;> omega
  by_cases hb : b = 0
  · obtain ⟨z1, z2, z3, z4⟩ := hz hb
    clear hz hn
    refine APure.of_awp Tryd.func7 rfl (Nat.le_of_ble_eq_true (by kernel_rfl)) (by kernel_rfl) ?_
    intro s
    conv => whnf
    repeat' (first
      | (exfalso; omega)
      | (refine ⟨Sub.refl _, ?_⟩)
      | (refine brA_split (fun h => ?_) (fun h => ?_) <;> (try rw [h]) <;> (try simp only [Bool.false_eq_true, Bool.true_eq_false, ↓reduceIte, decide_eq_true_eq, decide_eq_false_iff_not, Bool.not_eq_true', Bool.not_eq_false'] at h) <;> (conv => whnf))
      | (refine ACalls.pure' ?_ (refDiv_ok _ _ ha); rintro _ rfl; conv => whnf)
      | (refine DCall.pure ?_ (refDiv_ok _ _ ha); conv => whnf)
      | (refine ACalls.pure' ?_ (div_ok _ _ ha); rintro _ rfl; conv => whnf)
      | (refine DCall.pure ?_ (div_ok _ _ ha); conv => whnf)
      | (refine ACalls.pure' ?_ (mod_ok _ _); rintro _ rfl; conv => whnf)
      | (refine DCall.pure ?_ (mod_ok _ _); conv => whnf)
      | (refine ACalls.pure' ?_ (awake_ok hT); rintro _ rfl; conv => whnf)
      | (refine DCall.pure ?_ (awake_ok hT); conv => whnf)
      | (refine getB_same ?_; conv => whnf)
      | (refine AWp.any (by kernel_rfl) (by kernel_rfl) (by kernel_rfl) ?_; conv => whnf)
      | (apply And.intro; (focus (first | omega | rfl | decide | exact Nat.le_of_ble_eq_true rfl | ((repeat' (first | exact all_nil | refine all_cons ?_ ?_ | rfl | fail)); done) | (simp [-List.length_flatMap]; done) | (simp [-List.length_flatMap]; omega) | fail)); conv => whnf)
      | fail)
    all_goals first | rfl | exact absurd trivial h | exact absurd hw h
  · obtain ⟨n1, n2⟩ := hn hb
    clear hz hn
    refine APure.of_awp Tryd.func7 rfl (Nat.le_of_ble_eq_true (by kernel_rfl)) (by kernel_rfl) ?_
    intro s
    conv => whnf
    repeat' (first
      | (exfalso; omega)
      | (refine ⟨Sub.refl _, ?_⟩)
      | (refine brA_split (fun h => ?_) (fun h => ?_) <;> (try rw [h]) <;> (try simp only [Bool.false_eq_true, Bool.true_eq_false, ↓reduceIte, decide_eq_true_eq, decide_eq_false_iff_not, Bool.not_eq_true', Bool.not_eq_false'] at h) <;> (conv => whnf))
      | (refine ACalls.pure' ?_ (refDiv_ok _ _ ha); rintro _ rfl; conv => whnf)
      | (refine DCall.pure ?_ (refDiv_ok _ _ ha); conv => whnf)
      | (refine ACalls.pure' ?_ (div_ok _ _ ha); rintro _ rfl; conv => whnf)
      | (refine DCall.pure ?_ (div_ok _ _ ha); conv => whnf)
      | (refine ACalls.pure' ?_ (mod_ok _ _); rintro _ rfl; conv => whnf)
      | (refine DCall.pure ?_ (mod_ok _ _); conv => whnf)
      | (refine ACalls.pure' ?_ (awake_ok hT); rintro _ rfl; conv => whnf)
      | (refine DCall.pure ?_ (awake_ok hT); conv => whnf)
      | (refine getB_same ?_; conv => whnf)
      | (refine AWp.any (by kernel_rfl) (by kernel_rfl) (by kernel_rfl) ?_; conv => whnf)
      | (apply And.intro; (focus (first | omega | rfl | decide | exact Nat.le_of_ble_eq_true rfl | ((repeat' (first | exact all_nil | refine all_cons ?_ ?_ | rfl | fail)); done) | (simp [-List.length_flatMap]; done) | (simp [-List.length_flatMap]; omega) | fail)); conv => whnf)
      | fail)
    all_goals first | rfl | exact absurd trivial h | exact absurd hw h

theorem op_add (a b : Int) (ha : Fits a) (hb : Fits b) : APure Tryd.prog Γ 53 [.int .i64 8, .int .i64 a, .int .i64 b] fun v => v = .tuple [.int .i64 (val (a + b)), .int .i64 (err (a + b))] := by
  refine APure.of_awp Tryd.func53 rfl (Nat.le_of_ble_eq_true (by kernel_rfl)) (by kernel_rfl) ?_
  intro s
  conv => whnf
  repeat' (first
    | (refine ⟨Sub.refl _, ?_⟩)
    | (refine brA_split (fun h => ?_) (fun h => ?_) <;> (try rw [h]) <;> (try simp only [Bool.false_eq_true, Bool.true_eq_false, ↓reduceIte, decide_eq_true_eq, decide_eq_false_iff_not, Bool.not_eq_true', Bool.not_eq_false'] at h) <;> (conv => whnf))
    | (refine ACalls.pure' ?_ (add_ok _ _ ha hb); rintro _ rfl; conv => whnf)
    | (refine DCall.pure ?_ (add_ok _ _ ha hb); conv => whnf)
    | (refine getB_same ?_; conv => whnf)
    | (refine AWp.any (by kernel_rfl) (by kernel_rfl) (by kernel_rfl) ?_; conv => whnf)
    | (apply And.intro; (focus (first | omega | rfl | decide | exact Nat.le_of_ble_eq_true rfl | ((repeat' (first | exact all_nil | refine all_cons ?_ ?_ | rfl | fail)); done) | (simp [-List.length_flatMap]; done) | (simp [-List.length_flatMap]; omega) | fail)); conv => whnf)
    | fail)
  rfl
theorem op_sub (a b : Int) (ha : Fits a) (hb : Fits b) : APure Tryd.prog Γ 53 [.int .i64 9, .int .i64 a, .int .i64 b] fun v => v = .tuple [.int .i64 (val (a - b)), .int .i64 (err (a - b))] := by
  refine APure.of_awp Tryd.func53 rfl (Nat.le_of_ble_eq_true (by kernel_rfl)) (by kernel_rfl) ?_
  intro s
  conv => whnf
  repeat' (first
    | (refine ⟨Sub.refl _, ?_⟩)
    | (refine brA_split (fun h => ?_) (fun h => ?_) <;> (try rw [h]) <;> (try simp only [Bool.false_eq_true, Bool.true_eq_false, ↓reduceIte, decide_eq_true_eq, decide_eq_false_iff_not, Bool.not_eq_true', Bool.not_eq_false'] at h) <;> (conv => whnf))
    | (refine ACalls.pure' ?_ (sub_ok _ _ ha hb); rintro _ rfl; conv => whnf)
    | (refine DCall.pure ?_ (sub_ok _ _ ha hb); conv => whnf)
    | (refine getB_same ?_; conv => whnf)
    | (refine AWp.any (by kernel_rfl) (by kernel_rfl) (by kernel_rfl) ?_; conv => whnf)
    | (apply And.intro; (focus (first | omega | rfl | decide | exact Nat.le_of_ble_eq_true rfl | ((repeat' (first | exact all_nil | refine all_cons ?_ ?_ | rfl | fail)); done) | (simp [-List.length_flatMap]; done) | (simp [-List.length_flatMap]; omega) | fail)); conv => whnf)
    | fail)
  rfl
theorem op_mul (a b : Int) (ha : Fits a) (hb : Fits b) : APure Tryd.prog Γ 53 [.int .i64 10, .int .i64 a, .int .i64 b] fun v => v = .tuple [.int .i64 (val (a * b)), .int .i64 (err (a * b))] := by
  refine APure.of_awp Tryd.func53 rfl (Nat.le_of_ble_eq_true (by kernel_rfl)) (by kernel_rfl) ?_
  intro s
  conv => whnf
  repeat' (first
    | (refine ⟨Sub.refl _, ?_⟩)
    | (refine brA_split (fun h => ?_) (fun h => ?_) <;> (try rw [h]) <;> (try simp only [Bool.false_eq_true, Bool.true_eq_false, ↓reduceIte, decide_eq_true_eq, decide_eq_false_iff_not, Bool.not_eq_true', Bool.not_eq_false'] at h) <;> (conv => whnf))
    | (refine ACalls.pure' ?_ (mul_ok _ _ ha hb); rintro _ rfl; conv => whnf)
    | (refine DCall.pure ?_ (mul_ok _ _ ha hb); conv => whnf)
    | (refine getB_same ?_; conv => whnf)
    | (refine AWp.any (by kernel_rfl) (by kernel_rfl) (by kernel_rfl) ?_; conv => whnf)
    | (apply And.intro; (focus (first | omega | rfl | decide | exact Nat.le_of_ble_eq_true rfl | ((repeat' (first | exact all_nil | refine all_cons ?_ ?_ | rfl | fail)); done) | (simp [-List.length_flatMap]; done) | (simp [-List.length_flatMap]; omega) | fail)); conv => whnf)
    | fail)
  rfl
theorem op_div (a b : Int) (ha : Fits a) : APure Tryd.prog Γ 53 [.int .i64 11, .int .i64 a, .int .i64 b] fun v => v = .tuple [.int .i64 (quo a b), .int .i64 (quoErr a b)] := by
  refine APure.of_awp Tryd.func53 rfl (Nat.le_of_ble_eq_true (by kernel_rfl)) (by kernel_rfl) ?_
  intro s
  conv => whnf
  repeat' (first
    | (refine ⟨Sub.refl _, ?_⟩)
    | (refine brA_split (fun h => ?_) (fun h => ?_) <;> (try rw [h]) <;> (try simp only [Bool.false_eq_true, Bool.true_eq_false, ↓reduceIte, decide_eq_true_eq, decide_eq_false_iff_not, Bool.not_eq_true', Bool.not_eq_false'] at h) <;> (conv => whnf))
    | (refine ACalls.pure' ?_ (div_ok _ _ ha); rintro _ rfl; conv => whnf)
    | (refine DCall.pure ?_ (div_ok _ _ ha); conv => whnf)
    | (refine getB_same ?_; conv => whnf)
    | (refine AWp.any (by kernel_rfl) (by kernel_rfl) (by kernel_rfl) ?_; conv => whnf)
    | (apply And.intro; (focus (first | omega | rfl | decide | exact Nat.le_of_ble_eq_true rfl | ((repeat' (first | exact all_nil | refine all_cons ?_ ?_ | rfl | fail)); done) | (simp [-List.length_flatMap]; done) | (simp [-List.length_flatMap]; omega) | fail)); conv => whnf)
    | fail)
  rfl
theorem op_mod (a b : Int) : APure Tryd.prog Γ 53 [.int .i64 12, .int .i64 a, .int .i64 b] fun v => v = .tuple [.int .i64 (lft a b), .int .i64 (lftErr b)] := by
  refine APure.of_awp Tryd.func53 rfl (Nat.le_of_ble_eq_true (by kernel_rfl)) (by kernel_rfl) ?_
  intro s
  conv => whnf
  repeat' (first
    | (refine ⟨Sub.refl _, ?_⟩)
    | (refine brA_split (fun h => ?_) (fun h => ?_) <;> (try rw [h]) <;> (try simp only [Bool.false_eq_true, Bool.true_eq_false, ↓reduceIte, decide_eq_true_eq, decide_eq_false_iff_not, Bool.not_eq_true', Bool.not_eq_false'] at h) <;> (conv => whnf))
    | (refine ACalls.pure' ?_ (mod_ok _ _); rintro _ rfl; conv => whnf)
    | (refine DCall.pure ?_ (mod_ok _ _); conv => whnf)
    | (refine getB_same ?_; conv => whnf)
    | (refine AWp.any (by kernel_rfl) (by kernel_rfl) (by kernel_rfl) ?_; conv => whnf)
    | (apply And.intro; (focus (first | omega | rfl | decide | exact Nat.le_of_ble_eq_true rfl | ((repeat' (first | exact all_nil | refine all_cons ?_ ?_ | rfl | fail)); done) | (simp [-List.length_flatMap]; done) | (simp [-List.length_flatMap]; omega) | fail)); conv => whnf)
    | fail)
  rfl
theorem op_neg (a b : Int) (ha : Fits a) : APure Tryd.prog Γ 53 [.int .i64 5, .int .i64 a, .int .i64 b] fun v => v = .tuple [.int .i64 (val (0 - a)), .int .i64 (err (0 - a))] := by
  refine APure.of_awp Tryd.func53 rfl (Nat.le_of_ble_eq_true (by kernel_rfl)) (by kernel_rfl) ?_
  intro s
  conv => whnf
  repeat' (first
    | (refine ⟨Sub.refl _, ?_⟩)
    | (refine brA_split (fun h => ?_) (fun h => ?_) <;> (try rw [h]) <;> (try simp only [Bool.false_eq_true, Bool.true_eq_false, ↓reduceIte, decide_eq_true_eq, decide_eq_false_iff_not, Bool.not_eq_true', Bool.not_eq_false'] at h) <;> (conv => whnf))
    | (refine ACalls.pure' ?_ (sub_ok _ _ fits0 ha); rintro _ rfl; conv => whnf)
    | (refine DCall.pure ?_ (sub_ok _ _ fits0 ha); conv => whnf)
    | (refine getB_same ?_; conv => whnf)
    | (refine AWp.any (by kernel_rfl) (by kernel_rfl) (by kernel_rfl) ?_; conv => whnf)
    | (apply And.intro; (focus (first | omega | rfl | decide | exact Nat.le_of_ble_eq_true rfl | ((repeat' (first | exact all_nil | refine all_cons ?_ ?_ | rfl | fail)); done) | (simp [-List.length_flatMap]; done) | (simp [-List.length_flatMap]; omega) | fail)); conv => whnf)
    | fail)
  rfl
theorem op_none (op a b : Int) (h : op ≠ 5 ∧ op ≠ 8 ∧ op ≠ 9 ∧ op ≠ 10 ∧ op ≠ 11 ∧ op ≠ 12) : APure Tryd.prog Γ 53 [.int .i64 op, .int .i64 a, .int .i64 b] fun v => v = .tuple [.int .i64 0, .int .i64 1] := by
  obtain ⟨h5, h8, h9, h10, h11, h12⟩ := h
  refine APure.of_awp Tryd.func53 rfl (Nat.le_of_ble_eq_true (by kernel_rfl)) (by kernel_rfl) ?_
  intro s
  conv => whnf
  repeat' (first
    | (exfalso; omega)
    | (refine ⟨Sub.refl _, ?_⟩)
    | (refine brA_split (fun h => ?_) (fun h => ?_) <;> (try rw [h]) <;> (try simp only [Bool.false_eq_true, Bool.true_eq_false, ↓reduceIte, decide_eq_true_eq, decide_eq_false_iff_not, Bool.not_eq_true', Bool.not_eq_false'] at h) <;> (conv => whnf))
    | (refine getB_same ?_; conv => whnf)
    | (refine AWp.any (by kernel_rfl) (by kernel_rfl) (by kernel_rfl) ?_; conv => whnf)
    | (apply And.intro; (focus (first | omega | rfl | decide | exact Nat.le_of_ble_eq_true rfl | ((repeat' (first | exact all_nil | refine all_cons ?_ ?_ | rfl | fail)); done) | (simp [-List.length_flatMap]; done) | (simp [-List.length_flatMap]; omega) | fail)); conv => whnf)
    | fail)
  all_goals rfl

theorem ops_ok (hT : Tens Γ) (op a b : Int) (ha : Fits a) (hb : Fits b) : APure Tryd.prog Γ 11 [.int .i64 op, .int .i64 a, .int .i64 b] fun v => v = .bool true := by
  by_cases h : op ≠ 5 ∧ op ≠ 8 ∧ op ≠ 9 ∧ op ≠ 10 ∧ op ≠ 11 ∧ op ≠ 12
  · have hs := op_none (Γ := Γ) op a b h
    obtain ⟨h5, h8, h9, h10, h11, h12⟩ := h
    refine APure.of_awp Tryd.func11 rfl (Nat.le_of_ble_eq_true (by kernel_rfl)) (by kernel_rfl) ?_
    intro s
    conv => whnf
    repeat' (first
      | (exfalso; omega)
      | (refine ⟨Sub.refl _, ?_⟩)
      | (refine brA_split (fun h => ?_) (fun h => ?_) <;> (try rw [h]) <;> (try simp only [Bool.false_eq_true, Bool.true_eq_false, ↓reduceIte, decide_eq_true_eq, decide_eq_false_iff_not, Bool.not_eq_true', Bool.not_eq_false'] at h) <;> (conv => whnf))
      | (refine ACalls.pure' ?_ (hs); rintro _ rfl; conv => whnf)
      | (refine DCall.pure ?_ (hs); conv => whnf)
      | (refine ACalls.pure' ?_ (awake_ok hT); rintro _ rfl; conv => whnf)
      | (refine DCall.pure ?_ (awake_ok hT); conv => whnf)
      | (refine getB_same ?_; conv => whnf)
      | (refine AWp.any (by kernel_rfl) (by kernel_rfl) (by kernel_rfl) ?_; conv => whnf)
      | (apply And.intro; (focus (first | omega | rfl | decide | exact Nat.le_of_ble_eq_true rfl | ((repeat' (first | exact all_nil | refine all_cons ?_ ?_ | rfl | fail)); done) | (simp [-List.length_flatMap]; done) | (simp [-List.length_flatMap]; omega) | fail)); conv => whnf)
      | fail)
    all_goals rfl
  have h : op = 5 ∨ op = 8 ∨ op = 9 ∨ op = 10 ∨ op = 11 ∨ op = 12 := by omega
  rcases h with rfl | rfl | rfl | rfl | rfl | rfl
  all_goals
    refine APure.of_awp Tryd.func11 rfl (Nat.le_of_ble_eq_true (by kernel_rfl)) (by kernel_rfl) ?_
    intro s
    conv => whnf
    repeat' (first
      | (refine ⟨Sub.refl _, ?_⟩)
      | (refine brA_split (fun h => ?_) (fun h => ?_) <;> (try rw [h]) <;> (try simp only [Bool.false_eq_true, Bool.true_eq_false, ↓reduceIte, decide_eq_true_eq, decide_eq_false_iff_not, Bool.not_eq_true', Bool.not_eq_false'] at h) <;> (conv => whnf))
      | (refine ACalls.pure' ?_ (op_add _ _ ha hb); rintro _ rfl; conv => whnf)
      | (refine DCall.pure ?_ (op_add _ _ ha hb); conv => whnf)
      | (refine ACalls.pure' ?_ (op_sub _ _ ha hb); rintro _ rfl; conv => whnf)
      | (refine DCall.pure ?_ (op_sub _ _ ha hb); conv => whnf)
      | (refine ACalls.pure' ?_ (op_mul _ _ ha hb); rintro _ rfl; conv => whnf)
      | (refine DCall.pure ?_ (op_mul _ _ ha hb); conv => whnf)
      | (refine ACalls.pure' ?_ (op_div _ _ ha); rintro _ rfl; conv => whnf)
      | (refine DCall.pure ?_ (op_div _ _ ha); conv => whnf)
      | (refine ACalls.pure' ?_ (op_mod _ _); rintro _ rfl; conv => whnf)
      | (refine DCall.pure ?_ (op_mod _ _); conv => whnf)
      | (refine ACalls.pure' ?_ (op_neg _ _ ha); rintro _ rfl; conv => whnf)
      | (refine DCall.pure ?_ (op_neg _ _ ha); conv => whnf)
      | (refine ACalls.pure' ?_ (add_ok _ _ ha hb); rintro _ rfl; conv => whnf)
      | (refine DCall.pure ?_ (add_ok _ _ ha hb); conv => whnf)
      | (refine ACalls.pure' ?_ (sub_ok _ _ ha hb); rintro _ rfl; conv => whnf)
      | (refine DCall.pure ?_ (sub_ok _ _ ha hb); conv => whnf)
      | (refine ACalls.pure' ?_ (mul_ok _ _ ha hb); rintro _ rfl; conv => whnf)
      | (refine DCall.pure ?_ (mul_ok _ _ ha hb); conv => whnf)
      | (refine ACalls.pure' ?_ (div_ok _ _ ha); rintro _ rfl; conv => whnf)
      | (refine DCall.pure ?_ (div_ok _ _ ha); conv => whnf)
      | (refine ACalls.pure' ?_ (mod_ok _ _); rintro _ rfl; conv => whnf)
      | (refine DCall.pure ?_ (mod_ok _ _); conv => whnf)
      | (refine ACalls.pure' ?_ (neg_ok _ ha); rintro _ rfl; conv => whnf)
      | (refine DCall.pure ?_ (neg_ok _ ha); conv => whnf)
      | (refine ACalls.pure' ?_ (awake_ok hT); rintro _ rfl; conv => whnf)
      | (refine DCall.pure ?_ (awake_ok hT); conv => whnf)
      | (refine getB_same ?_; conv => whnf)
      | (refine AWp.any (by kernel_rfl) (by kernel_rfl) (by kernel_rfl) ?_; conv => whnf)
      | (apply And.intro; (focus (first | omega | rfl | decide | exact Nat.le_of_ble_eq_true rfl | ((repeat' (first | exact all_nil | refine all_cons ?_ ?_ | rfl | fail)); done) | (simp [-List.length_flatMap]; done) | (simp [-List.length_flatMap]; omega) | fail)); conv => whnf)
      | fail)
    all_goals first | rfl | exact absurd trivial h | trace_state
end Go.Proofs.YtcngoammgmcbfaaDoor.Nu
