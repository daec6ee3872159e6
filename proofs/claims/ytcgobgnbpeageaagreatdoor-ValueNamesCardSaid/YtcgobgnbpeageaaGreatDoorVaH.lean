/- Chapter 3: the law of the names. -/
import Derived.Test.YtcgobgnbpeageaaGreatDoorVaF
set_option linter.all false
namespace Go.Proofs.YtcgobgnbpeageaaGreatDoor.Va
open Go Go.Ab Go.RowKit
variable {Γ : Nat → AV}
attribute [local irreducible] APure Sto.set Sto.grow
set_option maxRecDepth 10000
set_option maxHeartbeats 2000000

theorem kindOf_of (l : List UInt8) : (l = [105, 110, 116] ∧ kindOf l = 1) ∨ (l = [115, 116, 114, 105, 110, 103] ∧ kindOf l = 2) ∨ (l = [98, 111, 111, 108] ∧ kindOf l = 3) ∨ (l ≠ [105, 110, 116] ∧ l ≠ [115, 116, 114, 105, 110, 103] ∧ l ≠ [98, 111, 111, 108] ∧ kindOf l = 0) := by
  unfold kindOf; grind
/-- What is told of the kind of an operator's answer. -/
theorem names_fact (op k b : Int) (hk : 1 ≤ k ∧ k ≤ 3) (ho : 4 ≤ op ∧ op ≤ 16) :
    (¬ (1 ≤ b ∧ b ≤ 3) → ((typeOf op k b = 0 ↔ (op ≠ 4 ∨ k ≠ 3)) ∨ (op = 5 ∧ typeOf op k b = 1 ∧ k = 1))) ∧
    ((1 ≤ b ∧ b ≤ 3) → ((opV op (k, 0, [], false) (b, 0, [], false)).2 = 8 ↔ typeOf op k b = 0) ∧ ((opV op (k, 0, [], false) (b, 0, [], false)).2 = 0 → (opV op (k, 0, [], false) (b, 0, [], false)).1.1 = typeOf op k b)) := by
  constructor
  · intro hb
    unfold typeOf
    grind
  · intro hb
    have hf := ops_fact op (k, 0, [], false) (b, 0, [], false) hk
    generalize hr : opV op (k, 0, [], false) (b, 0, [], false) = r at *
    dsimp only at hf
    refine ⟨⟨fun h => hf.1 (.inr h), fun h => ?_⟩, fun h => ?_⟩
    · rw [← hr, opV_none (a := (k, 0, [], false)) (b := (b, 0, [], false)) (by omega) h]
    · rcases hf.2 (by omega) with h1 | h1
      · exact h1.symm
      · exact absurd h h1.1
theorem fits00 : Nu.Fits 0 := Nu.fits0

theorem names1 (hT : Qu.Tabs Γ) (hN : Nu.Tens Γ) (l : List UInt8) (op b : Int) : APure Tryz.prog Γ 7 [.int .i64 1, .str l, .int .i64 op, .int .i64 b] fun v => v = .bool true := by
  have hko := kindOf_of l
  rcases hko with ⟨rfl, hko⟩ | ⟨rfl, hko⟩ | ⟨rfl, hko⟩ | ⟨e1, e2, e3, hko⟩
  all_goals
    refine APure.of_awp Tryz.func7 rfl (Nat.le_of_ble_eq_true (by kernel_rfl)) (by kernel_rfl) ?_
    intro s
    conv => whnf
    repeat' (first
      | (exfalso; omega)
      | (refine ⟨Sub.refl _, ?_⟩)
      | (refine brA_split (fun h => ?_) (fun h => ?_) <;> (try rw [h]) <;> (try simp only [Bool.false_eq_true, Bool.true_eq_false, ↓reduceIte, decide_eq_true_eq, decide_eq_false_iff_not, Bool.not_eq_true', Bool.not_eq_false'] at h) <;> (conv => whnf))
      | ((exfalso; contradiction); conv => whnf)
      | (refine ACalls.pure' ?_ (name_ok _); rintro _ rfl; conv => whnf)
      | (refine DCall.pure ?_ (name_ok _); conv => whnf)
      | (refine ACalls.pure' ?_ (kind_ok _); rintro _ rfl; conv => whnf)
      | (refine DCall.pure ?_ (kind_ok _); conv => whnf)
      | (refine ACalls.pure' ?_ (bool_ok _); rintro _ rfl; conv => whnf)
      | (refine DCall.pure ?_ (bool_ok _); conv => whnf)
      | (refine ACalls.pure' ?_ (type_ok _ _ _); rintro _ rfl; conv => whnf)
      | (refine DCall.pure ?_ (type_ok _ _ _); conv => whnf)
      | (refine EqAgg.of grdVl planVl ?_; conv => whnf)
      | (refine ACalls.pure' ?_ (awake_ok hT hN); rintro _ rfl; conv => whnf)
      | (refine DCall.pure ?_ (awake_ok hT hN); conv => whnf)
      | (refine getB_same ?_; conv => whnf)
      | (refine AWp.any (by kernel_rfl) (by kernel_rfl) (by kernel_rfl) ?_; conv => whnf)
      | (apply And.intro; (focus (first | omega | rfl | decide | exact Nat.le_of_ble_eq_true rfl | ((repeat' (first | exact all_nil | refine all_cons ?_ ?_ | rfl | fail)); done) | (simp [-List.length_flatMap]; done) | (simp [-List.length_flatMap]; omega) | fail)); conv => whnf)
      | fail)
    all_goals try first
      | rfl
      | (exfalso; simp_all [nameOf]; done)
      | (exfalso; simp at *; unfold typeOf at *; grind)
    have h4 : ¬ op < 4 := by
      have h9 := ‹(if _ = _ then true else decide (op < 4)) = false›
      simpa using h9
    have hf := names_fact op 1 b (by omega) (by omega)
    intro c1 h1
    conv => whnf
    refine getB_of set_bx_same ?_
    repeat' (first
      | (exfalso; omega)
      | (refine ⟨Sub.refl _, ?_⟩)
      | (refine brA_split (fun h => ?_) (fun h => ?_) <;> (try rw [h]) <;> (try simp only [Bool.false_eq_true, Bool.true_eq_false, ↓reduceIte, decide_eq_true_eq, decide_eq_false_iff_not, Bool.not_eq_true', Bool.not_eq_false'] at h) <;> (conv => whnf))
      | (refine getB_same ?_; conv => whnf)
      | (refine AWp.any (by kernel_rfl) (by kernel_rfl) (by kernel_rfl) ?_; conv => whnf)
      | (apply And.intro; (focus (first | omega | rfl | decide | exact Nat.le_of_ble_eq_true rfl | ((repeat' (first | exact all_nil | refine all_cons ?_ ?_ | rfl | fail)); done) | (simp [-List.length_flatMap]; done) | (simp [-List.length_flatMap]; omega) | fail)); conv => whnf)
      | fail)
    intro c2 h2
    conv => whnf
    have n12 := ne_of_none set_bx_same h2
    refine getB_of set_bx_same ?_
    repeat' (first
      | (exfalso; omega)
      | (refine ⟨Sub.refl _, ?_⟩)
      | (refine brA_split (fun h => ?_) (fun h => ?_) <;> (try rw [h]) <;> (try simp only [Bool.false_eq_true, Bool.true_eq_false, ↓reduceIte, decide_eq_true_eq, decide_eq_false_iff_not, Bool.not_eq_true', Bool.not_eq_false'] at h) <;> (conv => whnf))
      | (refine getB_of set_bx_same ?_; conv => whnf)
      | (refine getB_of ((set_bx_other n12).trans ((set_bx_other n12).trans set_bx_same)) ?_; conv => whnf)
      | (refine ACalls.pure' ?_ (awake_ok hT hN); rintro _ rfl; conv => whnf)
      | (refine DCall.pure ?_ (awake_ok hT hN); conv => whnf)
      | (refine getB_same ?_; conv => whnf)
      | (refine AWp.any (by kernel_rfl) (by kernel_rfl) (by kernel_rfl) ?_; conv => whnf)
      | (apply And.intro; (focus (first | omega | rfl | decide | exact Nat.le_of_ble_eq_true rfl | ((repeat' (first | exact all_nil | refine all_cons ?_ ?_ | rfl | fail)); done) | (simp [-List.length_flatMap]; done) | (simp [-List.length_flatMap]; omega) | fail)); conv => whnf)
      | fail)
    all_goals try (refine ⟨((((Sub.refl _).set h1 _ _).set h1 _ _).set (none_set (none_set h2).2).2 _ _).set (none_set (none_set h2).2).2 _ _, ?_⟩; first | rfl | (exfalso; have h9 := hf.1 (by omega); grind) | (refine bool_eq ?_; have h9 := hf.1 (by omega); grind))
    have o2 := refOp_ok (Γ := Γ) op (1, 0, [], false) (b, 0, [], false) fits00 fits00 (by simp) (by simp) ⟨by simp, by simp⟩ ⟨by dsimp only; omega, by dsimp only; omega⟩
    have hg := hf.2 (by omega)
    clear hf
    generalize opV op (1, 0, [], false) (b, 0, [], false) = r at *
    refine ACalls.pure' ?_ o2
    rintro _ rfl
    conv => whnf
    repeat' (first
      | (refine ⟨Sub.refl _, ?_⟩)
      | (refine brA_split (fun h => ?_) (fun h => ?_) <;> (try rw [h]) <;> (try simp only [Bool.false_eq_true, Bool.true_eq_false, ↓reduceIte, decide_eq_true_eq, decide_eq_false_iff_not, Bool.not_eq_true', Bool.not_eq_false'] at h) <;> (conv => whnf))
      | (refine getB_same ?_; conv => whnf)
      | (refine AWp.any (by kernel_rfl) (by kernel_rfl) (by kernel_rfl) ?_; conv => whnf)
      | (apply And.intro; (focus (first | omega | rfl | decide | exact Nat.le_of_ble_eq_true rfl | ((repeat' (first | exact all_nil | refine all_cons ?_ ?_ | rfl | fail)); done) | (simp [-List.length_flatMap]; done) | (simp [-List.length_flatMap]; omega) | fail)); conv => whnf)
      | fail)
    intro c3 h3
    conv => whnf
    refine getB_of set_bx_same ?_
    repeat' (first
      | (refine ⟨Sub.refl _, ?_⟩)
      | (refine brA_split (fun h => ?_) (fun h => ?_) <;> (try rw [h]) <;> (try simp only [Bool.false_eq_true, Bool.true_eq_false, ↓reduceIte, decide_eq_true_eq, decide_eq_false_iff_not, Bool.not_eq_true', Bool.not_eq_false'] at h) <;> (conv => whnf))
      | (refine getB_of set_bx_same ?_; conv => whnf)
      | (refine ACalls.pure' ?_ (awake_ok hT hN); rintro _ rfl; conv => whnf)
      | (refine DCall.pure ?_ (awake_ok hT hN); conv => whnf)
      | (refine getB_same ?_; conv => whnf)
      | (refine AWp.any (by kernel_rfl) (by kernel_rfl) (by kernel_rfl) ?_; conv => whnf)
      | (apply And.intro; (focus (first | omega | rfl | decide | exact Nat.le_of_ble_eq_true rfl | ((repeat' (first | exact all_nil | refine all_cons ?_ ?_ | rfl | fail)); done) | (simp [-List.length_flatMap]; done) | (simp [-List.length_flatMap]; omega) | fail)); conv => whnf)
      | fail)
    all_goals have g2 := (none_set (none_set h2).2).2
    all_goals have g3 := (none_set (none_set (none_set (none_set h3).2).2).2).2
    all_goals try refine ⟨((((((Sub.refl _).set h1 _ _).set h1 _ _).set g2 _ _).set g2 _ _).set g3 _ _).set g3 _ _, ?_⟩
    all_goals first | rfl | (exfalso; grind) | (refine bool_eq ?_; grind)

theorem names2 (hT : Qu.Tabs Γ) (hN : Nu.Tens Γ) (l : List UInt8) (op b : Int) : APure Tryz.prog Γ 7 [.int .i64 2, .str l, .int .i64 op, .int .i64 b] fun v => v = .bool true := by
  have hko := kindOf_of l
  rcases hko with ⟨rfl, hko⟩ | ⟨rfl, hko⟩ | ⟨rfl, hko⟩ | ⟨e1, e2, e3, hko⟩
  all_goals
    refine APure.of_awp Tryz.func7 rfl (Nat.le_of_ble_eq_true (by kernel_rfl)) (by kernel_rfl) ?_
    intro s
    conv => whnf
    repeat' (first
      | (exfalso; omega)
      | (refine ⟨Sub.refl _, ?_⟩)
      | (refine brA_split (fun h => ?_) (fun h => ?_) <;> (try rw [h]) <;> (try simp only [Bool.false_eq_true, Bool.true_eq_false, ↓reduceIte, decide_eq_true_eq, decide_eq_false_iff_not, Bool.not_eq_true', Bool.not_eq_false'] at h) <;> (conv => whnf))
      | ((exfalso; contradiction); conv => whnf)
      | (refine ACalls.pure' ?_ (name_ok _); rintro _ rfl; conv => whnf)
      | (refine DCall.pure ?_ (name_ok _); conv => whnf)
      | (refine ACalls.pure' ?_ (kind_ok _); rintro _ rfl; conv => whnf)
      | (refine DCall.pure ?_ (kind_ok _); conv => whnf)
      | (refine ACalls.pure' ?_ (bool_ok _); rintro _ rfl; conv => whnf)
      | (refine DCall.pure ?_ (bool_ok _); conv => whnf)
      | (refine ACalls.pure' ?_ (type_ok _ _ _); rintro _ rfl; conv => whnf)
      | (refine DCall.pure ?_ (type_ok _ _ _); conv => whnf)
      | (refine EqAgg.of grdVl planVl ?_; conv => whnf)
      | (refine ACalls.pure' ?_ (awake_ok hT hN); rintro _ rfl; conv => whnf)
      | (refine DCall.pure ?_ (awake_ok hT hN); conv => whnf)
      | (refine getB_same ?_; conv => whnf)
      | (refine AWp.any (by kernel_rfl) (by kernel_rfl) (by kernel_rfl) ?_; conv => whnf)
      | (apply And.intro; (focus (first | omega | rfl | decide | exact Nat.le_of_ble_eq_true rfl | ((repeat' (first | exact all_nil | refine all_cons ?_ ?_ | rfl | fail)); done) | (simp [-List.length_flatMap]; done) | (simp [-List.length_flatMap]; omega) | fail)); conv => whnf)
      | fail)
    all_goals try first
      | rfl
      | (exfalso; simp_all [nameOf]; done)
      | (exfalso; simp at *; unfold typeOf at *; grind)
    have h4 : ¬ op < 4 := by
      have h9 := ‹(if _ = _ then true else decide (op < 4)) = false›
      simpa using h9
    have hf := names_fact op 2 b (by omega) (by omega)
    intro c1 h1
    conv => whnf
    refine getB_of set_bx_same ?_
    repeat' (first
      | (exfalso; omega)
      | (refine ⟨Sub.refl _, ?_⟩)
      | (refine brA_split (fun h => ?_) (fun h => ?_) <;> (try rw [h]) <;> (try simp only [Bool.false_eq_true, Bool.true_eq_false, ↓reduceIte, decide_eq_true_eq, decide_eq_false_iff_not, Bool.not_eq_true', Bool.not_eq_false'] at h) <;> (conv => whnf))
      | (refine getB_same ?_; conv => whnf)
      | (refine AWp.any (by kernel_rfl) (by kernel_rfl) (by kernel_rfl) ?_; conv => whnf)
      | (apply And.intro; (focus (first | omega | rfl | decide | exact Nat.le_of_ble_eq_true rfl | ((repeat' (first | exact all_nil | refine all_cons ?_ ?_ | rfl | fail)); done) | (simp [-List.length_flatMap]; done) | (simp [-List.length_flatMap]; omega) | fail)); conv => whnf)
      | fail)
    intro c2 h2
    conv => whnf
    have n12 := ne_of_none set_bx_same h2
    refine getB_of set_bx_same ?_
    repeat' (first
      | (exfalso; omega)
      | (refine ⟨Sub.refl _, ?_⟩)
      | (refine brA_split (fun h => ?_) (fun h => ?_) <;> (try rw [h]) <;> (try simp only [Bool.false_eq_true, Bool.true_eq_false, ↓reduceIte, decide_eq_true_eq, decide_eq_false_iff_not, Bool.not_eq_true', Bool.not_eq_false'] at h) <;> (conv => whnf))
      | (refine getB_of set_bx_same ?_; conv => whnf)
      | (refine getB_of ((set_bx_other n12).trans ((set_bx_other n12).trans set_bx_same)) ?_; conv => whnf)
      | (refine ACalls.pure' ?_ (awake_ok hT hN); rintro _ rfl; conv => whnf)
      | (refine DCall.pure ?_ (awake_ok hT hN); conv => whnf)
      | (refine getB_same ?_; conv => whnf)
      | (refine AWp.any (by kernel_rfl) (by kernel_rfl) (by kernel_rfl) ?_; conv => whnf)
      | (apply And.intro; (focus (first | omega | rfl | decide | exact Nat.le_of_ble_eq_true rfl | ((repeat' (first | exact all_nil | refine all_cons ?_ ?_ | rfl | fail)); done) | (simp [-List.length_flatMap]; done) | (simp [-List.length_flatMap]; omega) | fail)); conv => whnf)
      | fail)
    all_goals try (refine ⟨((((Sub.refl _).set h1 _ _).set h1 _ _).set (none_set (none_set h2).2).2 _ _).set (none_set (none_set h2).2).2 _ _, ?_⟩; first | rfl | (exfalso; have h9 := hf.1 (by omega); grind) | (refine bool_eq ?_; have h9 := hf.1 (by omega); grind))
    have o2 := refOp_ok (Γ := Γ) op (2, 0, [], false) (b, 0, [], false) fits00 fits00 (by simp) (by simp) ⟨by simp, by simp⟩ ⟨by dsimp only; omega, by dsimp only; omega⟩
    have hg := hf.2 (by omega)
    clear hf
    generalize opV op (2, 0, [], false) (b, 0, [], false) = r at *
    refine ACalls.pure' ?_ o2
    rintro _ rfl
    conv => whnf
    repeat' (first
      | (refine ⟨Sub.refl _, ?_⟩)
      | (refine brA_split (fun h => ?_) (fun h => ?_) <;> (try rw [h]) <;> (try simp only [Bool.false_eq_true, Bool.true_eq_false, ↓reduceIte, decide_eq_true_eq, decide_eq_false_iff_not, Bool.not_eq_true', Bool.not_eq_false'] at h) <;> (conv => whnf))
      | (refine getB_same ?_; conv => whnf)
      | (refine AWp.any (by kernel_rfl) (by kernel_rfl) (by kernel_rfl) ?_; conv => whnf)
      | (apply And.intro; (focus (first | omega | rfl | decide | exact Nat.le_of_ble_eq_true rfl | ((repeat' (first | exact all_nil | refine all_cons ?_ ?_ | rfl | fail)); done) | (simp [-List.length_flatMap]; done) | (simp [-List.length_flatMap]; omega) | fail)); conv => whnf)
      | fail)
    intro c3 h3
    conv => whnf
    refine getB_of set_bx_same ?_
    repeat' (first
      | (refine ⟨Sub.refl _, ?_⟩)
      | (refine brA_split (fun h => ?_) (fun h => ?_) <;> (try rw [h]) <;> (try simp only [Bool.false_eq_true, Bool.true_eq_false, ↓reduceIte, decide_eq_true_eq, decide_eq_false_iff_not, Bool.not_eq_true', Bool.not_eq_false'] at h) <;> (conv => whnf))
      | (refine getB_of set_bx_same ?_; conv => whnf)
      | (refine ACalls.pure' ?_ (awake_ok hT hN); rintro _ rfl; conv => whnf)
      | (refine DCall.pure ?_ (awake_ok hT hN); conv => whnf)
      | (refine getB_same ?_; conv => whnf)
      | (refine AWp.any (by kernel_rfl) (by kernel_rfl) (by kernel_rfl) ?_; conv => whnf)
      | (apply And.intro; (focus (first | omega | rfl | decide | exact Nat.le_of_ble_eq_true rfl | ((repeat' (first | exact all_nil | refine all_cons ?_ ?_ | rfl | fail)); done) | (simp [-List.length_flatMap]; done) | (simp [-List.length_flatMap]; omega) | fail)); conv => whnf)
      | fail)
    all_goals have g2 := (none_set (none_set h2).2).2
    all_goals have g3 := (none_set (none_set (none_set (none_set h3).2).2).2).2
    all_goals try refine ⟨((((((Sub.refl _).set h1 _ _).set h1 _ _).set g2 _ _).set g2 _ _).set g3 _ _).set g3 _ _, ?_⟩
    all_goals first | rfl | (exfalso; grind) | (refine bool_eq ?_; grind)

theorem names3 (hT : Qu.Tabs Γ) (hN : Nu.Tens Γ) (l : List UInt8) (op b : Int) : APure Tryz.prog Γ 7 [.int .i64 3, .str l, .int .i64 op, .int .i64 b] fun v => v = .bool true := by
  have hko := kindOf_of l
  rcases hko with ⟨rfl, hko⟩ | ⟨rfl, hko⟩ | ⟨rfl, hko⟩ | ⟨e1, e2, e3, hko⟩
  all_goals
    refine APure.of_awp Tryz.func7 rfl (Nat.le_of_ble_eq_true (by kernel_rfl)) (by kernel_rfl) ?_
    intro s
    conv => whnf
    repeat' (first
      | (exfalso; omega)
      | (refine ⟨Sub.refl _, ?_⟩)
      | (refine brA_split (fun h => ?_) (fun h => ?_) <;> (try rw [h]) <;> (try simp only [Bool.false_eq_true, Bool.true_eq_false, ↓reduceIte, decide_eq_true_eq, decide_eq_false_iff_not, Bool.not_eq_true', Bool.not_eq_false'] at h) <;> (conv => whnf))
      | ((exfalso; contradiction); conv => whnf)
      | (refine ACalls.pure' ?_ (name_ok _); rintro _ rfl; conv => whnf)
      | (refine DCall.pure ?_ (name_ok _); conv => whnf)
      | (refine ACalls.pure' ?_ (kind_ok _); rintro _ rfl; conv => whnf)
      | (refine DCall.pure ?_ (kind_ok _); conv => whnf)
      | (refine ACalls.pure' ?_ (bool_ok _); rintro _ rfl; conv => whnf)
      | (refine DCall.pure ?_ (bool_ok _); conv => whnf)
      | (refine ACalls.pure' ?_ (type_ok _ _ _); rintro _ rfl; conv => whnf)
      | (refine DCall.pure ?_ (type_ok _ _ _); conv => whnf)
      | (refine EqAgg.of grdVl planVl ?_; conv => whnf)
      | (refine ACalls.pure' ?_ (awake_ok hT hN); rintro _ rfl; conv => whnf)
      | (refine DCall.pure ?_ (awake_ok hT hN); conv => whnf)
      | (refine getB_same ?_; conv => whnf)
      | (refine AWp.any (by kernel_rfl) (by kernel_rfl) (by kernel_rfl) ?_; conv => whnf)
      | (apply And.intro; (focus (first | omega | rfl | decide | exact Nat.le_of_ble_eq_true rfl | ((repeat' (first | exact all_nil | refine all_cons ?_ ?_ | rfl | fail)); done) | (simp [-List.length_flatMap]; done) | (simp [-List.length_flatMap]; omega) | fail)); conv => whnf)
      | fail)
    all_goals try first
      | rfl
      | (exfalso; simp_all [nameOf]; done)
      | (exfalso; simp at *; unfold typeOf at *; grind)
    have h4 : ¬ op < 4 := by
      have h9 := ‹(if _ = _ then true else decide (op < 4)) = false›
      simpa using h9
    have hf := names_fact op 3 b (by omega) (by omega)
    intro c1 h1
    conv => whnf
    refine getB_of set_bx_same ?_
    repeat' (first
      | (exfalso; omega)
      | (refine ⟨Sub.refl _, ?_⟩)
      | (refine brA_split (fun h => ?_) (fun h => ?_) <;> (try rw [h]) <;> (try simp only [Bool.false_eq_true, Bool.true_eq_false, ↓reduceIte, decide_eq_true_eq, decide_eq_false_iff_not, Bool.not_eq_true', Bool.not_eq_false'] at h) <;> (conv => whnf))
      | (refine getB_same ?_; conv => whnf)
      | (refine AWp.any (by kernel_rfl) (by kernel_rfl) (by kernel_rfl) ?_; conv => whnf)
      | (apply And.intro; (focus (first | omega | rfl | decide | exact Nat.le_of_ble_eq_true rfl | ((repeat' (first | exact all_nil | refine all_cons ?_ ?_ | rfl | fail)); done) | (simp [-List.length_flatMap]; done) | (simp [-List.length_flatMap]; omega) | fail)); conv => whnf)
      | fail)
    intro c2 h2
    conv => whnf
    have n12 := ne_of_none set_bx_same h2
    refine getB_of set_bx_same ?_
    repeat' (first
      | (exfalso; omega)
      | (refine ⟨Sub.refl _, ?_⟩)
      | (refine brA_split (fun h => ?_) (fun h => ?_) <;> (try rw [h]) <;> (try simp only [Bool.false_eq_true, Bool.true_eq_false, ↓reduceIte, decide_eq_true_eq, decide_eq_false_iff_not, Bool.not_eq_true', Bool.not_eq_false'] at h) <;> (conv => whnf))
      | (refine getB_of set_bx_same ?_; conv => whnf)
      | (refine getB_of ((set_bx_other n12).trans ((set_bx_other n12).trans set_bx_same)) ?_; conv => whnf)
      | (refine ACalls.pure' ?_ (awake_ok hT hN); rintro _ rfl; conv => whnf)
      | (refine DCall.pure ?_ (awake_ok hT hN); conv => whnf)
      | (refine getB_same ?_; conv => whnf)
      | (refine AWp.any (by kernel_rfl) (by kernel_rfl) (by kernel_rfl) ?_; conv => whnf)
      | (apply And.intro; (focus (first | omega | rfl | decide | exact Nat.le_of_ble_eq_true rfl | ((repeat' (first | exact all_nil | refine all_cons ?_ ?_ | rfl | fail)); done) | (simp [-List.length_flatMap]; done) | (simp [-List.length_flatMap]; omega) | fail)); conv => whnf)
      | fail)
    all_goals try (refine ⟨((((Sub.refl _).set h1 _ _).set h1 _ _).set (none_set (none_set h2).2).2 _ _).set (none_set (none_set h2).2).2 _ _, ?_⟩; first | rfl | (exfalso; have h9 := hf.1 (by omega); grind) | (refine bool_eq ?_; have h9 := hf.1 (by omega); grind))
    have o2 := refOp_ok (Γ := Γ) op (3, 0, [], false) (b, 0, [], false) fits00 fits00 (by simp) (by simp) ⟨by simp, by simp⟩ ⟨by dsimp only; omega, by dsimp only; omega⟩
    have hg := hf.2 (by omega)
    clear hf
    generalize opV op (3, 0, [], false) (b, 0, [], false) = r at *
    refine ACalls.pure' ?_ o2
    rintro _ rfl
    conv => whnf
    repeat' (first
      | (refine ⟨Sub.refl _, ?_⟩)
      | (refine brA_split (fun h => ?_) (fun h => ?_) <;> (try rw [h]) <;> (try simp only [Bool.false_eq_true, Bool.true_eq_false, ↓reduceIte, decide_eq_true_eq, decide_eq_false_iff_not, Bool.not_eq_true', Bool.not_eq_false'] at h) <;> (conv => whnf))
      | (refine getB_same ?_; conv => whnf)
      | (refine AWp.any (by kernel_rfl) (by kernel_rfl) (by kernel_rfl) ?_; conv => whnf)
      | (apply And.intro; (focus (first | omega | rfl | decide | exact Nat.le_of_ble_eq_true rfl | ((repeat' (first | exact all_nil | refine all_cons ?_ ?_ | rfl | fail)); done) | (simp [-List.length_flatMap]; done) | (simp [-List.length_flatMap]; omega) | fail)); conv => whnf)
      | fail)
    intro c3 h3
    conv => whnf
    refine getB_of set_bx_same ?_
    repeat' (first
      | (refine ⟨Sub.refl _, ?_⟩)
      | (refine brA_split (fun h => ?_) (fun h => ?_) <;> (try rw [h]) <;> (try simp only [Bool.false_eq_true, Bool.true_eq_false, ↓reduceIte, decide_eq_true_eq, decide_eq_false_iff_not, Bool.not_eq_true', Bool.not_eq_false'] at h) <;> (conv => whnf))
      | (refine getB_of set_bx_same ?_; conv => whnf)
      | (refine ACalls.pure' ?_ (awake_ok hT hN); rintro _ rfl; conv => whnf)
      | (refine DCall.pure ?_ (awake_ok hT hN); conv => whnf)
      | (refine getB_same ?_; conv => whnf)
      | (refine AWp.any (by kernel_rfl) (by kernel_rfl) (by kernel_rfl) ?_; conv => whnf)
      | (apply And.intro; (focus (first | omega | rfl | decide | exact Nat.le_of_ble_eq_true rfl | ((repeat' (first | exact all_nil | refine all_cons ?_ ?_ | rfl | fail)); done) | (simp [-List.length_flatMap]; done) | (simp [-List.length_flatMap]; omega) | fail)); conv => whnf)
      | fail)
    all_goals have g2 := (none_set (none_set h2).2).2
    all_goals have g3 := (none_set (none_set (none_set (none_set h3).2).2).2).2
    all_goals try refine ⟨((((((Sub.refl _).set h1 _ _).set h1 _ _).set g2 _ _).set g2 _ _).set g3 _ _).set g3 _ _, ?_⟩
    all_goals first | rfl | (exfalso; grind) | (refine bool_eq ?_; grind)

theorem names0 (hT : Qu.Tabs Γ) (hN : Nu.Tens Γ) (k : Int) (l : List UInt8) (op b : Int) (hk : ¬ (1 ≤ k ∧ k ≤ 3)) : APure Tryz.prog Γ 7 [.int .i64 k, .str l, .int .i64 op, .int .i64 b] fun v => v = .bool true := by
  have hko := kindOf_of l
  have hn : nameOf k = [] := (nameOf_none k).2 hk
  rcases hko with ⟨rfl, hko⟩ | ⟨rfl, hko⟩ | ⟨rfl, hko⟩ | ⟨e1, e2, e3, hko⟩
  all_goals
    refine APure.of_awp Tryz.func7 rfl (Nat.le_of_ble_eq_true (by kernel_rfl)) (by kernel_rfl) ?_
    intro s
    conv => whnf
    repeat' (first
      | (exfalso; omega)
      | (refine ⟨Sub.refl _, ?_⟩)
      | (refine brA_split (fun h => ?_) (fun h => ?_) <;> (try rw [h]) <;> (try simp only [Bool.false_eq_true, Bool.true_eq_false, ↓reduceIte, decide_eq_true_eq, decide_eq_false_iff_not, Bool.not_eq_true', Bool.not_eq_false'] at h) <;> (conv => whnf))
      | ((exfalso; contradiction); conv => whnf)
      | (refine ACalls.pure' ?_ (name_ok _); rintro _ rfl; conv => whnf)
      | (refine DCall.pure ?_ (name_ok _); conv => whnf)
      | (refine ACalls.pure' ?_ (kind_ok _); rintro _ rfl; conv => whnf)
      | (refine DCall.pure ?_ (kind_ok _); conv => whnf)
      | (refine ACalls.pure' ?_ (bool_ok _); rintro _ rfl; conv => whnf)
      | (refine DCall.pure ?_ (bool_ok _); conv => whnf)
      | (refine ACalls.pure' ?_ (type_ok _ _ _); rintro _ rfl; conv => whnf)
      | (refine DCall.pure ?_ (type_ok _ _ _); conv => whnf)
      | (refine EqAgg.of grdVl planVl ?_; conv => whnf)
      | (refine ACalls.pure' ?_ (awake_ok hT hN); rintro _ rfl; conv => whnf)
      | (refine DCall.pure ?_ (awake_ok hT hN); conv => whnf)
      | (refine getB_same ?_; conv => whnf)
      | (refine AWp.any (by kernel_rfl) (by kernel_rfl) (by kernel_rfl) ?_; conv => whnf)
      | (apply And.intro; (focus (first | omega | rfl | decide | exact Nat.le_of_ble_eq_true rfl | ((repeat' (first | exact all_nil | refine all_cons ?_ ?_ | rfl | fail)); done) | (simp [-List.length_flatMap]; done) | (simp [-List.length_flatMap]; omega) | fail)); conv => whnf)
      | fail)
    all_goals try first
      | rfl
      | (exfalso; simp_all [nameOf]; done)
      | (exfalso; simp at *; unfold typeOf at *; grind)
    all_goals trace_state

theorem names_law (hT : Qu.Tabs Γ) (hN : Nu.Tens Γ) (k : Int) (l : List UInt8) (op b : Int) : APure Tryz.prog Γ 7 [.int .i64 k, .str l, .int .i64 op, .int .i64 b] fun v => v = .bool true := by
  by_cases h1 : k = 1
  · subst h1; exact names1 hT hN l op b
  by_cases h2 : k = 2
  · subst h2; exact names2 hT hN l op b
  by_cases h3 : k = 3
  · subst h3; exact names3 hT hN l op b
  · exact names0 hT hN k l op b (by omega)
end Go.Proofs.YtcgobgnbpeageaaGreatDoor.Va
