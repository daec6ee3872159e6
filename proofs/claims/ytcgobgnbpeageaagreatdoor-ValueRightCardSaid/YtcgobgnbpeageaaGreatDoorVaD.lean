/- Chapter 3: operators, by the document. -/
import Derived.Test.YtcgobgnbpeageaaGreatDoorVaC
set_option linter.all false
namespace Go.Proofs.YtcgobgnbpeageaaGreatDoor.Va
open Go Go.Ab Go.RowKit
variable {Γ : Nat → AV}
attribute [local irreducible] APure Sto.set Sto.grow
set_option maxRecDepth 10000
set_option maxHeartbeats 1000000

theorem none_of {op : Int} {a b : Vl} (ho : ¬ (op < 4 ∨ 16 < op)) (h : typeOf op a.1 b.1 = 0) : resA (opV op a b) = .tuple [.agg [.int .i64 0, .int .i64 0, .str [], .bool false], .int .i64 8] := by
  rw [opV_none ho h]; rfl
theorem refOp_ok (op : Int) (a b : Vl) (ha : Nu.Fits a.2.1) (hb : Nu.Fits b.2.1) (hla : a.2.2.1.length ≤ 1048576) (hlb : b.2.2.1.length ≤ 1048576) (ka : Kinds a) (kb : Kinds b) : APure Tryz.prog Γ 25 [.int .i64 op, .agg (vlA a), .agg (vlA b)] fun v => v = resA (opV op a b) := by
  obtain ⟨k, n, s1, t⟩ := a
  obtain ⟨k2, n2, s2, t2⟩ := b
  dsimp only at ha hb hla hlb
  unfold Kinds at ka kb
  dsimp only at ka kb
  by_cases ho : op < 4 ∨ 16 < op
  · refine APure.of_awp Tryz.func25 rfl (Nat.le_of_ble_eq_true (by kernel_rfl)) (by kernel_rfl) ?_
    intro s
    conv => whnf
    intro c1 h1
    conv => whnf
    intro c2 h2
    conv => whnf
    intro c3 h3
    conv => whnf
    repeat' (first
      | (exfalso; omega)
      | (refine ⟨Sub.refl _, ?_⟩)
      | (refine brA_split (fun h => ?_) (fun h => ?_) <;> (try rw [h]) <;> (try simp only [Bool.false_eq_true, Bool.true_eq_false, ↓reduceIte, decide_eq_true_eq, decide_eq_false_iff_not, Bool.not_eq_true', Bool.not_eq_false'] at h) <;> (conv => whnf))
      | (refine getB_of set_bx_same ?_; conv => whnf)
      | (refine getB_same ?_; conv => whnf)
      | (refine AWp.any (by kernel_rfl) (by kernel_rfl) (by kernel_rfl) ?_; conv => whnf)
      | (apply And.intro; (focus (first | omega | rfl | decide | exact Nat.le_of_ble_eq_true rfl | ((repeat' (first | exact all_nil | refine all_cons ?_ ?_ | rfl | fail)); done) | (simp [-List.length_flatMap]; done) | (simp [-List.length_flatMap]; omega) | fail)); conv => whnf)
      | fail)
    all_goals refine ⟨((((Sub.refl _).set h1 _ _).set (none_set h2).2 _ _).set (none_set (none_set h3).2).2 _ _).set (none_set (none_set h3).2).2 _ _, ?_⟩
    all_goals (unfold opV; rw [if_pos ho]; rfl)
  have hc : op = 4 ∨ op = 5 ∨ op = 6 ∨ op = 7 ∨ op = 8 ∨ op = 9 ∨ op = 10 ∨ op = 11 ∨ op = 12 ∨ op = 13 ∨ op = 14 ∨ op = 15 ∨ op = 16 := by omega
  clear ho
  rcases hc with rfl | rfl | rfl | rfl | rfl | rfl | rfl | rfl | rfl | rfl | rfl | rfl | rfl
  · refine APure.of_awp Tryz.func25 rfl (Nat.le_of_ble_eq_true (by kernel_rfl)) (by kernel_rfl) ?_
    intro s
    conv => whnf
    intro c1 h1
    conv => whnf
    intro c2 h2
    conv => whnf
    intro c3 h3
    conv => whnf
    have n12 := ne_of_none set_bx_same h2
    have n23 := ne_of_none set_bx_same h3
    have n13 := ne_of_none ((set_bx_other n12).trans set_bx_same) h3
    repeat' (first
      | (refine ⟨Sub.refl _, ?_⟩)
      | (refine brA_split (fun h => ?_) (fun h => ?_) <;> (try rw [h]) <;> (try simp only [Bool.false_eq_true, Bool.true_eq_false, ↓reduceIte, decide_eq_true_eq, decide_eq_false_iff_not, Bool.not_eq_true', Bool.not_eq_false'] at h) <;> (conv => whnf))
      | (refine getB_of set_bx_same ?_; conv => whnf)
      | (refine getB_of ((set_bx_other n13).trans ((set_bx_other n12).trans set_bx_same)) ?_; conv => whnf)
      | (refine getB_of ((set_bx_other n23).trans set_bx_same) ?_; conv => whnf)
      | (refine EqAgg.of grdVl planVl ?_; conv => whnf)
      | (refine ACalls.pure' ?_ (refTruth_ok _); rintro _ rfl; conv => whnf)
      | (refine DCall.pure ?_ (refTruth_ok _); conv => whnf)
      | (refine ACalls.pure' ?_ (refLess_ok (k, n, s1, t) (k2, n2, s2, t2) (by dsimp only; omega)); rintro _ rfl; conv => whnf)
      | (refine DCall.pure ?_ (refLess_ok (k, n, s1, t) (k2, n2, s2, t2) (by dsimp only; omega)); conv => whnf)
      | (refine ACalls.pure' ?_ (refLess_ok (k2, n2, s2, t2) (k, n, s1, t) (by dsimp only; omega)); rintro _ rfl; conv => whnf)
      | (refine DCall.pure ?_ (refLess_ok (k2, n2, s2, t2) (k, n, s1, t) (by dsimp only; omega)); conv => whnf)
      | (refine ACalls.pure' ?_ (refArith_ok _ _ _ ha hb (by omega)); rintro _ rfl; conv => whnf)
      | (refine DCall.pure ?_ (refArith_ok _ _ _ ha hb (by omega)); conv => whnf)
      | (refine getB_same ?_; conv => whnf)
      | (refine AWp.any (by kernel_rfl) (by kernel_rfl) (by kernel_rfl) ?_; conv => whnf)
      | (apply And.intro; (focus (first | omega | rfl | decide | exact Nat.le_of_ble_eq_true rfl | ((repeat' (first | exact all_nil | refine all_cons ?_ ?_ | rfl | fail)); done) | (simp [-List.length_flatMap]; done) | (simp [-List.length_flatMap]; omega) | fail)); conv => whnf)
      | fail)
    all_goals (try refine ⟨((((Sub.refl _).set h1 _ _).set (none_set h2).2 _ _).set (none_set (none_set h3).2).2 _ _).set (none_set (none_set h3).2).2 _ _, ?_⟩)
    all_goals first
      | (have e0 : typeOf 4 k k2 = 0 := (by unfold typeOf; grind); exact (none_of (a := (k, n, s1, t)) (b := (k2, n2, s2, t2)) (by decide) e0).symm)
      | (have e1 : ¬typeOf 4 k k2 = 0 := (by unfold typeOf; grind); exact (congrArg resA (opV_not (a := (k, n, s1, t)) (b := (k2, n2, s2, t2)) e1)).symm)
  · refine APure.of_awp Tryz.func25 rfl (Nat.le_of_ble_eq_true (by kernel_rfl)) (by kernel_rfl) ?_
    intro s
    conv => whnf
    intro c1 h1
    conv => whnf
    intro c2 h2
    conv => whnf
    intro c3 h3
    conv => whnf
    have n12 := ne_of_none set_bx_same h2
    have n23 := ne_of_none set_bx_same h3
    have n13 := ne_of_none ((set_bx_other n12).trans set_bx_same) h3
    repeat' (first
      | (refine ⟨Sub.refl _, ?_⟩)
      | (refine brA_split (fun h => ?_) (fun h => ?_) <;> (try rw [h]) <;> (try simp only [Bool.false_eq_true, Bool.true_eq_false, ↓reduceIte, decide_eq_true_eq, decide_eq_false_iff_not, Bool.not_eq_true', Bool.not_eq_false'] at h) <;> (conv => whnf))
      | (refine getB_of set_bx_same ?_; conv => whnf)
      | (refine getB_of ((set_bx_other n13).trans ((set_bx_other n12).trans set_bx_same)) ?_; conv => whnf)
      | (refine getB_of ((set_bx_other n23).trans set_bx_same) ?_; conv => whnf)
      | (refine EqAgg.of grdVl planVl ?_; conv => whnf)
      | (refine ACalls.pure' ?_ (refTruth_ok _); rintro _ rfl; conv => whnf)
      | (refine DCall.pure ?_ (refTruth_ok _); conv => whnf)
      | (refine ACalls.pure' ?_ (refLess_ok (k, n, s1, t) (k2, n2, s2, t2) (by dsimp only; omega)); rintro _ rfl; conv => whnf)
      | (refine DCall.pure ?_ (refLess_ok (k, n, s1, t) (k2, n2, s2, t2) (by dsimp only; omega)); conv => whnf)
      | (refine ACalls.pure' ?_ (refLess_ok (k2, n2, s2, t2) (k, n, s1, t) (by dsimp only; omega)); rintro _ rfl; conv => whnf)
      | (refine DCall.pure ?_ (refLess_ok (k2, n2, s2, t2) (k, n, s1, t) (by dsimp only; omega)); conv => whnf)
      | (refine ACalls.pure' ?_ (refArith_ok 9 0 _ Nu.fits0 ha (by omega)); rintro _ rfl; conv => whnf)
      | (refine DCall.pure ?_ (refArith_ok 9 0 _ Nu.fits0 ha (by omega)); conv => whnf)
      | (refine getB_same ?_; conv => whnf)
      | (refine AWp.any (by kernel_rfl) (by kernel_rfl) (by kernel_rfl) ?_; conv => whnf)
      | (apply And.intro; (focus (first | omega | rfl | decide | exact Nat.le_of_ble_eq_true rfl | ((repeat' (first | exact all_nil | refine all_cons ?_ ?_ | rfl | fail)); done) | (simp [-List.length_flatMap]; done) | (simp [-List.length_flatMap]; omega) | fail)); conv => whnf)
      | fail)
    all_goals (try refine ⟨((((Sub.refl _).set h1 _ _).set (none_set h2).2 _ _).set (none_set (none_set h3).2).2 _ _).set (none_set (none_set h3).2).2 _ _, ?_⟩)
    all_goals first
      | (have e0 : typeOf 5 k k2 = 0 := (by unfold typeOf; grind); exact (none_of (a := (k, n, s1, t)) (b := (k2, n2, s2, t2)) (by decide) e0).symm)
      | (have e1 : ¬typeOf 5 k k2 = 0 := (by unfold typeOf; grind); exact (congrArg resA (opV_num (a := (k, n, s1, t)) (b := (k2, n2, s2, t2)) (by decide) e1 (by dsimp only; omega))).symm)
  · refine APure.of_awp Tryz.func25 rfl (Nat.le_of_ble_eq_true (by kernel_rfl)) (by kernel_rfl) ?_
    intro s
    conv => whnf
    intro c1 h1
    conv => whnf
    intro c2 h2
    conv => whnf
    intro c3 h3
    conv => whnf
    have n12 := ne_of_none set_bx_same h2
    have n23 := ne_of_none set_bx_same h3
    have n13 := ne_of_none ((set_bx_other n12).trans set_bx_same) h3
    repeat' (first
      | (refine ⟨Sub.refl _, ?_⟩)
      | (refine brA_split (fun h => ?_) (fun h => ?_) <;> (try rw [h]) <;> (try simp only [Bool.false_eq_true, Bool.true_eq_false, ↓reduceIte, decide_eq_true_eq, decide_eq_false_iff_not, Bool.not_eq_true', Bool.not_eq_false'] at h) <;> (conv => whnf))
      | (refine getB_of set_bx_same ?_; conv => whnf)
      | (refine getB_of ((set_bx_other n13).trans ((set_bx_other n12).trans set_bx_same)) ?_; conv => whnf)
      | (refine getB_of ((set_bx_other n23).trans set_bx_same) ?_; conv => whnf)
      | (refine EqAgg.of grdVl planVl ?_; conv => whnf)
      | (refine ACalls.pure' ?_ (refTruth_ok _); rintro _ rfl; conv => whnf)
      | (refine DCall.pure ?_ (refTruth_ok _); conv => whnf)
      | (refine ACalls.pure' ?_ (refLess_ok (k, n, s1, t) (k2, n2, s2, t2) (by dsimp only; omega)); rintro _ rfl; conv => whnf)
      | (refine DCall.pure ?_ (refLess_ok (k, n, s1, t) (k2, n2, s2, t2) (by dsimp only; omega)); conv => whnf)
      | (refine ACalls.pure' ?_ (refLess_ok (k2, n2, s2, t2) (k, n, s1, t) (by dsimp only; omega)); rintro _ rfl; conv => whnf)
      | (refine DCall.pure ?_ (refLess_ok (k2, n2, s2, t2) (k, n, s1, t) (by dsimp only; omega)); conv => whnf)
      | (refine ACalls.pure' ?_ (refArith_ok _ _ _ ha hb (by omega)); rintro _ rfl; conv => whnf)
      | (refine DCall.pure ?_ (refArith_ok _ _ _ ha hb (by omega)); conv => whnf)
      | (refine getB_same ?_; conv => whnf)
      | (refine AWp.any (by kernel_rfl) (by kernel_rfl) (by kernel_rfl) ?_; conv => whnf)
      | (apply And.intro; (focus (first | omega | rfl | decide | exact Nat.le_of_ble_eq_true rfl | ((repeat' (first | exact all_nil | refine all_cons ?_ ?_ | rfl | fail)); done) | (simp [-List.length_flatMap]; done) | (simp [-List.length_flatMap]; omega) | fail)); conv => whnf)
      | fail)
    all_goals (try refine ⟨((((Sub.refl _).set h1 _ _).set (none_set h2).2 _ _).set (none_set (none_set h3).2).2 _ _).set (none_set (none_set h3).2).2 _ _, ?_⟩)
    all_goals first
      | (have e0 : typeOf 6 k k2 = 0 := (by unfold typeOf; grind); exact (none_of (a := (k, n, s1, t)) (b := (k2, n2, s2, t2)) (by decide) e0).symm)
      | (have e1 : ¬typeOf 6 k k2 = 0 := (by unfold typeOf; grind); refine Eq.trans ?_ (congrArg resA (opV_and (a := (k, n, s1, t)) (b := (k2, n2, s2, t2)) e1)).symm; cases t <;> first | rfl | simp_all)
  · refine APure.of_awp Tryz.func25 rfl (Nat.le_of_ble_eq_true (by kernel_rfl)) (by kernel_rfl) ?_
    intro s
    conv => whnf
    intro c1 h1
    conv => whnf
    intro c2 h2
    conv => whnf
    intro c3 h3
    conv => whnf
    have n12 := ne_of_none set_bx_same h2
    have n23 := ne_of_none set_bx_same h3
    have n13 := ne_of_none ((set_bx_other n12).trans set_bx_same) h3
    repeat' (first
      | (refine ⟨Sub.refl _, ?_⟩)
      | (refine brA_split (fun h => ?_) (fun h => ?_) <;> (try rw [h]) <;> (try simp only [Bool.false_eq_true, Bool.true_eq_false, ↓reduceIte, decide_eq_true_eq, decide_eq_false_iff_not, Bool.not_eq_true', Bool.not_eq_false'] at h) <;> (conv => whnf))
      | (refine getB_of set_bx_same ?_; conv => whnf)
      | (refine getB_of ((set_bx_other n13).trans ((set_bx_other n12).trans set_bx_same)) ?_; conv => whnf)
      | (refine getB_of ((set_bx_other n23).trans set_bx_same) ?_; conv => whnf)
      | (refine EqAgg.of grdVl planVl ?_; conv => whnf)
      | (refine ACalls.pure' ?_ (refTruth_ok _); rintro _ rfl; conv => whnf)
      | (refine DCall.pure ?_ (refTruth_ok _); conv => whnf)
      | (refine ACalls.pure' ?_ (refLess_ok (k, n, s1, t) (k2, n2, s2, t2) (by dsimp only; omega)); rintro _ rfl; conv => whnf)
      | (refine DCall.pure ?_ (refLess_ok (k, n, s1, t) (k2, n2, s2, t2) (by dsimp only; omega)); conv => whnf)
      | (refine ACalls.pure' ?_ (refLess_ok (k2, n2, s2, t2) (k, n, s1, t) (by dsimp only; omega)); rintro _ rfl; conv => whnf)
      | (refine DCall.pure ?_ (refLess_ok (k2, n2, s2, t2) (k, n, s1, t) (by dsimp only; omega)); conv => whnf)
      | (refine ACalls.pure' ?_ (refArith_ok _ _ _ ha hb (by omega)); rintro _ rfl; conv => whnf)
      | (refine DCall.pure ?_ (refArith_ok _ _ _ ha hb (by omega)); conv => whnf)
      | (refine getB_same ?_; conv => whnf)
      | (refine AWp.any (by kernel_rfl) (by kernel_rfl) (by kernel_rfl) ?_; conv => whnf)
      | (apply And.intro; (focus (first | omega | rfl | decide | exact Nat.le_of_ble_eq_true rfl | ((repeat' (first | exact all_nil | refine all_cons ?_ ?_ | rfl | fail)); done) | (simp [-List.length_flatMap]; done) | (simp [-List.length_flatMap]; omega) | fail)); conv => whnf)
      | fail)
    all_goals (try refine ⟨((((Sub.refl _).set h1 _ _).set (none_set h2).2 _ _).set (none_set (none_set h3).2).2 _ _).set (none_set (none_set h3).2).2 _ _, ?_⟩)
    all_goals first
      | (have e0 : typeOf 7 k k2 = 0 := (by unfold typeOf; grind); exact (none_of (a := (k, n, s1, t)) (b := (k2, n2, s2, t2)) (by decide) e0).symm)
      | (have e1 : ¬typeOf 7 k k2 = 0 := (by unfold typeOf; grind); refine Eq.trans ?_ (congrArg resA (opV_or (a := (k, n, s1, t)) (b := (k2, n2, s2, t2)) e1)).symm; cases t <;> first | rfl | simp_all)
  · refine APure.of_awp Tryz.func25 rfl (Nat.le_of_ble_eq_true (by kernel_rfl)) (by kernel_rfl) ?_
    intro s
    conv => whnf
    intro c1 h1
    conv => whnf
    intro c2 h2
    conv => whnf
    intro c3 h3
    conv => whnf
    have n12 := ne_of_none set_bx_same h2
    have n23 := ne_of_none set_bx_same h3
    have n13 := ne_of_none ((set_bx_other n12).trans set_bx_same) h3
    repeat' (first
      | (refine ⟨Sub.refl _, ?_⟩)
      | (refine brA_split (fun h => ?_) (fun h => ?_) <;> (try rw [h]) <;> (try simp only [Bool.false_eq_true, Bool.true_eq_false, ↓reduceIte, decide_eq_true_eq, decide_eq_false_iff_not, Bool.not_eq_true', Bool.not_eq_false'] at h) <;> (conv => whnf))
      | (refine getB_of set_bx_same ?_; conv => whnf)
      | (refine getB_of ((set_bx_other n13).trans ((set_bx_other n12).trans set_bx_same)) ?_; conv => whnf)
      | (refine getB_of ((set_bx_other n23).trans set_bx_same) ?_; conv => whnf)
      | (refine EqAgg.of grdVl planVl ?_; conv => whnf)
      | (refine ACalls.pure' ?_ (refTruth_ok _); rintro _ rfl; conv => whnf)
      | (refine DCall.pure ?_ (refTruth_ok _); conv => whnf)
      | (refine ACalls.pure' ?_ (refLess_ok (k, n, s1, t) (k2, n2, s2, t2) (by dsimp only; omega)); rintro _ rfl; conv => whnf)
      | (refine DCall.pure ?_ (refLess_ok (k, n, s1, t) (k2, n2, s2, t2) (by dsimp only; omega)); conv => whnf)
      | (refine ACalls.pure' ?_ (refLess_ok (k2, n2, s2, t2) (k, n, s1, t) (by dsimp only; omega)); rintro _ rfl; conv => whnf)
      | (refine DCall.pure ?_ (refLess_ok (k2, n2, s2, t2) (k, n, s1, t) (by dsimp only; omega)); conv => whnf)
      | (refine ACalls.pure' ?_ (refArith_ok _ _ _ ha hb (by omega)); rintro _ rfl; conv => whnf)
      | (refine DCall.pure ?_ (refArith_ok _ _ _ ha hb (by omega)); conv => whnf)
      | (refine getB_same ?_; conv => whnf)
      | (refine AWp.any (by kernel_rfl) (by kernel_rfl) (by kernel_rfl) ?_; conv => whnf)
      | (apply And.intro; (focus (first | omega | rfl | decide | exact Nat.le_of_ble_eq_true rfl | ((repeat' (first | exact all_nil | refine all_cons ?_ ?_ | rfl | fail)); done) | (simp [-List.length_flatMap]; done) | (simp [-List.length_flatMap]; omega) | fail)); conv => whnf)
      | fail)
    all_goals (try refine ⟨((((Sub.refl _).set h1 _ _).set (none_set h2).2 _ _).set (none_set (none_set h3).2).2 _ _).set (none_set (none_set h3).2).2 _ _, ?_⟩)
    all_goals first
      | (have e0 : typeOf 8 k k2 = 0 := (by unfold typeOf; grind); exact (none_of (a := (k, n, s1, t)) (b := (k2, n2, s2, t2)) (by decide) e0).symm)
      | (have e2 := ‹k = 2›; have e1 : ¬typeOf 8 k k2 = 0 := (by unfold typeOf; grind); have hw : IntKind.i64.wrap ((s1.length : Int) + s2.length) = s1.length + s2.length := i64_of rfl (by omega) (by omega); refine Eq.trans ?_ (congrArg resA (opV_text (a := (k, n, s1, t)) (b := (k2, n2, s2, t2)) rfl e1 e2)).symm; unfold textV; dsimp only; rw [List.length_append]; first | (rw [if_neg (by rw [hw] at h; omega)]; rfl) | (rw [if_pos (by rw [hw] at h; omega)]; rfl))
      | (have e1 : ¬typeOf 8 k k2 = 0 := (by unfold typeOf; grind); exact (congrArg resA (opV_num (a := (k, n, s1, t)) (b := (k2, n2, s2, t2)) (by decide) e1 (by dsimp only; omega))).symm)
  · refine APure.of_awp Tryz.func25 rfl (Nat.le_of_ble_eq_true (by kernel_rfl)) (by kernel_rfl) ?_
    intro s
    conv => whnf
    intro c1 h1
    conv => whnf
    intro c2 h2
    conv => whnf
    intro c3 h3
    conv => whnf
    have n12 := ne_of_none set_bx_same h2
    have n23 := ne_of_none set_bx_same h3
    have n13 := ne_of_none ((set_bx_other n12).trans set_bx_same) h3
    repeat' (first
      | (refine ⟨Sub.refl _, ?_⟩)
      | (refine brA_split (fun h => ?_) (fun h => ?_) <;> (try rw [h]) <;> (try simp only [Bool.false_eq_true, Bool.true_eq_false, ↓reduceIte, decide_eq_true_eq, decide_eq_false_iff_not, Bool.not_eq_true', Bool.not_eq_false'] at h) <;> (conv => whnf))
      | (refine getB_of set_bx_same ?_; conv => whnf)
      | (refine getB_of ((set_bx_other n13).trans ((set_bx_other n12).trans set_bx_same)) ?_; conv => whnf)
      | (refine getB_of ((set_bx_other n23).trans set_bx_same) ?_; conv => whnf)
      | (refine EqAgg.of grdVl planVl ?_; conv => whnf)
      | (refine ACalls.pure' ?_ (refTruth_ok _); rintro _ rfl; conv => whnf)
      | (refine DCall.pure ?_ (refTruth_ok _); conv => whnf)
      | (refine ACalls.pure' ?_ (refLess_ok (k, n, s1, t) (k2, n2, s2, t2) (by dsimp only; omega)); rintro _ rfl; conv => whnf)
      | (refine DCall.pure ?_ (refLess_ok (k, n, s1, t) (k2, n2, s2, t2) (by dsimp only; omega)); conv => whnf)
      | (refine ACalls.pure' ?_ (refLess_ok (k2, n2, s2, t2) (k, n, s1, t) (by dsimp only; omega)); rintro _ rfl; conv => whnf)
      | (refine DCall.pure ?_ (refLess_ok (k2, n2, s2, t2) (k, n, s1, t) (by dsimp only; omega)); conv => whnf)
      | (refine ACalls.pure' ?_ (refArith_ok _ _ _ ha hb (by omega)); rintro _ rfl; conv => whnf)
      | (refine DCall.pure ?_ (refArith_ok _ _ _ ha hb (by omega)); conv => whnf)
      | (refine getB_same ?_; conv => whnf)
      | (refine AWp.any (by kernel_rfl) (by kernel_rfl) (by kernel_rfl) ?_; conv => whnf)
      | (apply And.intro; (focus (first | omega | rfl | decide | exact Nat.le_of_ble_eq_true rfl | ((repeat' (first | exact all_nil | refine all_cons ?_ ?_ | rfl | fail)); done) | (simp [-List.length_flatMap]; done) | (simp [-List.length_flatMap]; omega) | fail)); conv => whnf)
      | fail)
    all_goals (try refine ⟨((((Sub.refl _).set h1 _ _).set (none_set h2).2 _ _).set (none_set (none_set h3).2).2 _ _).set (none_set (none_set h3).2).2 _ _, ?_⟩)
    all_goals first
      | (have e0 : typeOf 9 k k2 = 0 := (by unfold typeOf; grind); exact (none_of (a := (k, n, s1, t)) (b := (k2, n2, s2, t2)) (by decide) e0).symm)
      | (have e1 : ¬typeOf 9 k k2 = 0 := (by unfold typeOf; grind); exact (congrArg resA (opV_num (a := (k, n, s1, t)) (b := (k2, n2, s2, t2)) (by decide) e1 (by dsimp only; omega))).symm)
  · refine APure.of_awp Tryz.func25 rfl (Nat.le_of_ble_eq_true (by kernel_rfl)) (by kernel_rfl) ?_
    intro s
    conv => whnf
    intro c1 h1
    conv => whnf
    intro c2 h2
    conv => whnf
    intro c3 h3
    conv => whnf
    have n12 := ne_of_none set_bx_same h2
    have n23 := ne_of_none set_bx_same h3
    have n13 := ne_of_none ((set_bx_other n12).trans set_bx_same) h3
    repeat' (first
      | (refine ⟨Sub.refl _, ?_⟩)
      | (refine brA_split (fun h => ?_) (fun h => ?_) <;> (try rw [h]) <;> (try simp only [Bool.false_eq_true, Bool.true_eq_false, ↓reduceIte, decide_eq_true_eq, decide_eq_false_iff_not, Bool.not_eq_true', Bool.not_eq_false'] at h) <;> (conv => whnf))
      | (refine getB_of set_bx_same ?_; conv => whnf)
      | (refine getB_of ((set_bx_other n13).trans ((set_bx_other n12).trans set_bx_same)) ?_; conv => whnf)
      | (refine getB_of ((set_bx_other n23).trans set_bx_same) ?_; conv => whnf)
      | (refine EqAgg.of grdVl planVl ?_; conv => whnf)
      | (refine ACalls.pure' ?_ (refTruth_ok _); rintro _ rfl; conv => whnf)
      | (refine DCall.pure ?_ (refTruth_ok _); conv => whnf)
      | (refine ACalls.pure' ?_ (refLess_ok (k, n, s1, t) (k2, n2, s2, t2) (by dsimp only; omega)); rintro _ rfl; conv => whnf)
      | (refine DCall.pure ?_ (refLess_ok (k, n, s1, t) (k2, n2, s2, t2) (by dsimp only; omega)); conv => whnf)
      | (refine ACalls.pure' ?_ (refLess_ok (k2, n2, s2, t2) (k, n, s1, t) (by dsimp only; omega)); rintro _ rfl; conv => whnf)
      | (refine DCall.pure ?_ (refLess_ok (k2, n2, s2, t2) (k, n, s1, t) (by dsimp only; omega)); conv => whnf)
      | (refine ACalls.pure' ?_ (refArith_ok _ _ _ ha hb (by omega)); rintro _ rfl; conv => whnf)
      | (refine DCall.pure ?_ (refArith_ok _ _ _ ha hb (by omega)); conv => whnf)
      | (refine getB_same ?_; conv => whnf)
      | (refine AWp.any (by kernel_rfl) (by kernel_rfl) (by kernel_rfl) ?_; conv => whnf)
      | (apply And.intro; (focus (first | omega | rfl | decide | exact Nat.le_of_ble_eq_true rfl | ((repeat' (first | exact all_nil | refine all_cons ?_ ?_ | rfl | fail)); done) | (simp [-List.length_flatMap]; done) | (simp [-List.length_flatMap]; omega) | fail)); conv => whnf)
      | fail)
    all_goals (try refine ⟨((((Sub.refl _).set h1 _ _).set (none_set h2).2 _ _).set (none_set (none_set h3).2).2 _ _).set (none_set (none_set h3).2).2 _ _, ?_⟩)
    all_goals first
      | (have e0 : typeOf 10 k k2 = 0 := (by unfold typeOf; grind); exact (none_of (a := (k, n, s1, t)) (b := (k2, n2, s2, t2)) (by decide) e0).symm)
      | (have e1 : ¬typeOf 10 k k2 = 0 := (by unfold typeOf; grind); exact (congrArg resA (opV_num (a := (k, n, s1, t)) (b := (k2, n2, s2, t2)) (by decide) e1 (by dsimp only; omega))).symm)
  · refine APure.of_awp Tryz.func25 rfl (Nat.le_of_ble_eq_true (by kernel_rfl)) (by kernel_rfl) ?_
    intro s
    conv => whnf
    intro c1 h1
    conv => whnf
    intro c2 h2
    conv => whnf
    intro c3 h3
    conv => whnf
    have n12 := ne_of_none set_bx_same h2
    have n23 := ne_of_none set_bx_same h3
    have n13 := ne_of_none ((set_bx_other n12).trans set_bx_same) h3
    repeat' (first
      | (refine ⟨Sub.refl _, ?_⟩)
      | (refine brA_split (fun h => ?_) (fun h => ?_) <;> (try rw [h]) <;> (try simp only [Bool.false_eq_true, Bool.true_eq_false, ↓reduceIte, decide_eq_true_eq, decide_eq_false_iff_not, Bool.not_eq_true', Bool.not_eq_false'] at h) <;> (conv => whnf))
      | (refine getB_of set_bx_same ?_; conv => whnf)
      | (refine getB_of ((set_bx_other n13).trans ((set_bx_other n12).trans set_bx_same)) ?_; conv => whnf)
      | (refine getB_of ((set_bx_other n23).trans set_bx_same) ?_; conv => whnf)
      | (refine EqAgg.of grdVl planVl ?_; conv => whnf)
      | (refine ACalls.pure' ?_ (refTruth_ok _); rintro _ rfl; conv => whnf)
      | (refine DCall.pure ?_ (refTruth_ok _); conv => whnf)
      | (refine ACalls.pure' ?_ (refLess_ok (k, n, s1, t) (k2, n2, s2, t2) (by dsimp only; omega)); rintro _ rfl; conv => whnf)
      | (refine DCall.pure ?_ (refLess_ok (k, n, s1, t) (k2, n2, s2, t2) (by dsimp only; omega)); conv => whnf)
      | (refine ACalls.pure' ?_ (refLess_ok (k2, n2, s2, t2) (k, n, s1, t) (by dsimp only; omega)); rintro _ rfl; conv => whnf)
      | (refine DCall.pure ?_ (refLess_ok (k2, n2, s2, t2) (k, n, s1, t) (by dsimp only; omega)); conv => whnf)
      | (refine ACalls.pure' ?_ (refArith_ok _ _ _ ha hb (by omega)); rintro _ rfl; conv => whnf)
      | (refine DCall.pure ?_ (refArith_ok _ _ _ ha hb (by omega)); conv => whnf)
      | (refine getB_same ?_; conv => whnf)
      | (refine AWp.any (by kernel_rfl) (by kernel_rfl) (by kernel_rfl) ?_; conv => whnf)
      | (apply And.intro; (focus (first | omega | rfl | decide | exact Nat.le_of_ble_eq_true rfl | ((repeat' (first | exact all_nil | refine all_cons ?_ ?_ | rfl | fail)); done) | (simp [-List.length_flatMap]; done) | (simp [-List.length_flatMap]; omega) | fail)); conv => whnf)
      | fail)
    all_goals (try refine ⟨((((Sub.refl _).set h1 _ _).set (none_set h2).2 _ _).set (none_set (none_set h3).2).2 _ _).set (none_set (none_set h3).2).2 _ _, ?_⟩)
    all_goals first
      | (have e0 : typeOf 11 k k2 = 0 := (by unfold typeOf; grind); exact (none_of (a := (k, n, s1, t)) (b := (k2, n2, s2, t2)) (by decide) e0).symm)
      | (have e1 : ¬typeOf 11 k k2 = 0 := (by unfold typeOf; grind); exact (congrArg resA (opV_num (a := (k, n, s1, t)) (b := (k2, n2, s2, t2)) (by decide) e1 (by dsimp only; omega))).symm)
  · refine APure.of_awp Tryz.func25 rfl (Nat.le_of_ble_eq_true (by kernel_rfl)) (by kernel_rfl) ?_
    intro s
    conv => whnf
    intro c1 h1
    conv => whnf
    intro c2 h2
    conv => whnf
    intro c3 h3
    conv => whnf
    have n12 := ne_of_none set_bx_same h2
    have n23 := ne_of_none set_bx_same h3
    have n13 := ne_of_none ((set_bx_other n12).trans set_bx_same) h3
    repeat' (first
      | (refine ⟨Sub.refl _, ?_⟩)
      | (refine brA_split (fun h => ?_) (fun h => ?_) <;> (try rw [h]) <;> (try simp only [Bool.false_eq_true, Bool.true_eq_false, ↓reduceIte, decide_eq_true_eq, decide_eq_false_iff_not, Bool.not_eq_true', Bool.not_eq_false'] at h) <;> (conv => whnf))
      | (refine getB_of set_bx_same ?_; conv => whnf)
      | (refine getB_of ((set_bx_other n13).trans ((set_bx_other n12).trans set_bx_same)) ?_; conv => whnf)
      | (refine getB_of ((set_bx_other n23).trans set_bx_same) ?_; conv => whnf)
      | (refine EqAgg.of grdVl planVl ?_; conv => whnf)
      | (refine ACalls.pure' ?_ (refTruth_ok _); rintro _ rfl; conv => whnf)
      | (refine DCall.pure ?_ (refTruth_ok _); conv => whnf)
      | (refine ACalls.pure' ?_ (refLess_ok (k, n, s1, t) (k2, n2, s2, t2) (by dsimp only; omega)); rintro _ rfl; conv => whnf)
      | (refine DCall.pure ?_ (refLess_ok (k, n, s1, t) (k2, n2, s2, t2) (by dsimp only; omega)); conv => whnf)
      | (refine ACalls.pure' ?_ (refLess_ok (k2, n2, s2, t2) (k, n, s1, t) (by dsimp only; omega)); rintro _ rfl; conv => whnf)
      | (refine DCall.pure ?_ (refLess_ok (k2, n2, s2, t2) (k, n, s1, t) (by dsimp only; omega)); conv => whnf)
      | (refine ACalls.pure' ?_ (refArith_ok _ _ _ ha hb (by omega)); rintro _ rfl; conv => whnf)
      | (refine DCall.pure ?_ (refArith_ok _ _ _ ha hb (by omega)); conv => whnf)
      | (refine getB_same ?_; conv => whnf)
      | (refine AWp.any (by kernel_rfl) (by kernel_rfl) (by kernel_rfl) ?_; conv => whnf)
      | (apply And.intro; (focus (first | omega | rfl | decide | exact Nat.le_of_ble_eq_true rfl | ((repeat' (first | exact all_nil | refine all_cons ?_ ?_ | rfl | fail)); done) | (simp [-List.length_flatMap]; done) | (simp [-List.length_flatMap]; omega) | fail)); conv => whnf)
      | fail)
    all_goals (try refine ⟨((((Sub.refl _).set h1 _ _).set (none_set h2).2 _ _).set (none_set (none_set h3).2).2 _ _).set (none_set (none_set h3).2).2 _ _, ?_⟩)
    all_goals first
      | (have e0 : typeOf 12 k k2 = 0 := (by unfold typeOf; grind); exact (none_of (a := (k, n, s1, t)) (b := (k2, n2, s2, t2)) (by decide) e0).symm)
      | (have e1 : ¬typeOf 12 k k2 = 0 := (by unfold typeOf; grind); exact (congrArg resA (opV_num (a := (k, n, s1, t)) (b := (k2, n2, s2, t2)) (by decide) e1 (by dsimp only; omega))).symm)
  · refine APure.of_awp Tryz.func25 rfl (Nat.le_of_ble_eq_true (by kernel_rfl)) (by kernel_rfl) ?_
    intro s
    conv => whnf
    intro c1 h1
    conv => whnf
    intro c2 h2
    conv => whnf
    intro c3 h3
    conv => whnf
    have n12 := ne_of_none set_bx_same h2
    have n23 := ne_of_none set_bx_same h3
    have n13 := ne_of_none ((set_bx_other n12).trans set_bx_same) h3
    repeat' (first
      | (refine ⟨Sub.refl _, ?_⟩)
      | (refine brA_split (fun h => ?_) (fun h => ?_) <;> (try rw [h]) <;> (try simp only [Bool.false_eq_true, Bool.true_eq_false, ↓reduceIte, decide_eq_true_eq, decide_eq_false_iff_not, Bool.not_eq_true', Bool.not_eq_false'] at h) <;> (conv => whnf))
      | (refine getB_of set_bx_same ?_; conv => whnf)
      | (refine getB_of ((set_bx_other n13).trans ((set_bx_other n12).trans set_bx_same)) ?_; conv => whnf)
      | (refine getB_of ((set_bx_other n23).trans set_bx_same) ?_; conv => whnf)
      | (refine EqAgg.of grdVl planVl ?_; conv => whnf)
      | (refine ACalls.pure' ?_ (refTruth_ok _); rintro _ rfl; conv => whnf)
      | (refine DCall.pure ?_ (refTruth_ok _); conv => whnf)
      | (refine ACalls.pure' ?_ (refLess_ok (k, n, s1, t) (k2, n2, s2, t2) (by dsimp only; omega)); rintro _ rfl; conv => whnf)
      | (refine DCall.pure ?_ (refLess_ok (k, n, s1, t) (k2, n2, s2, t2) (by dsimp only; omega)); conv => whnf)
      | (refine ACalls.pure' ?_ (refLess_ok (k2, n2, s2, t2) (k, n, s1, t) (by dsimp only; omega)); rintro _ rfl; conv => whnf)
      | (refine DCall.pure ?_ (refLess_ok (k2, n2, s2, t2) (k, n, s1, t) (by dsimp only; omega)); conv => whnf)
      | (refine ACalls.pure' ?_ (refArith_ok _ _ _ ha hb (by omega)); rintro _ rfl; conv => whnf)
      | (refine DCall.pure ?_ (refArith_ok _ _ _ ha hb (by omega)); conv => whnf)
      | (refine getB_same ?_; conv => whnf)
      | (refine AWp.any (by kernel_rfl) (by kernel_rfl) (by kernel_rfl) ?_; conv => whnf)
      | (apply And.intro; (focus (first | omega | rfl | decide | exact Nat.le_of_ble_eq_true rfl | ((repeat' (first | exact all_nil | refine all_cons ?_ ?_ | rfl | fail)); done) | (simp [-List.length_flatMap]; done) | (simp [-List.length_flatMap]; omega) | fail)); conv => whnf)
      | fail)
    all_goals (try refine ⟨((((Sub.refl _).set h1 _ _).set (none_set h2).2 _ _).set (none_set (none_set h3).2).2 _ _).set (none_set (none_set h3).2).2 _ _, ?_⟩)
    all_goals first
      | (have e0 : typeOf 13 k k2 = 0 := (by unfold typeOf; grind); exact (none_of (a := (k, n, s1, t)) (b := (k2, n2, s2, t2)) (by decide) e0).symm)
      | (have e1 : ¬typeOf 13 k k2 = 0 := (by unfold typeOf; grind); refine Eq.trans ?_ (congrArg resA (opV_eq (a := (k, n, s1, t)) (b := (k2, n2, s2, t2)) e1)).symm; rw [← eq_vl]; rfl)
  · refine APure.of_awp Tryz.func25 rfl (Nat.le_of_ble_eq_true (by kernel_rfl)) (by kernel_rfl) ?_
    intro s
    conv => whnf
    intro c1 h1
    conv => whnf
    intro c2 h2
    conv => whnf
    intro c3 h3
    conv => whnf
    have n12 := ne_of_none set_bx_same h2
    have n23 := ne_of_none set_bx_same h3
    have n13 := ne_of_none ((set_bx_other n12).trans set_bx_same) h3
    repeat' (first
      | (refine ⟨Sub.refl _, ?_⟩)
      | (refine brA_split (fun h => ?_) (fun h => ?_) <;> (try rw [h]) <;> (try simp only [Bool.false_eq_true, Bool.true_eq_false, ↓reduceIte, decide_eq_true_eq, decide_eq_false_iff_not, Bool.not_eq_true', Bool.not_eq_false'] at h) <;> (conv => whnf))
      | (refine getB_of set_bx_same ?_; conv => whnf)
      | (refine getB_of ((set_bx_other n13).trans ((set_bx_other n12).trans set_bx_same)) ?_; conv => whnf)
      | (refine getB_of ((set_bx_other n23).trans set_bx_same) ?_; conv => whnf)
      | (refine EqAgg.of grdVl planVl ?_; conv => whnf)
      | (refine ACalls.pure' ?_ (refTruth_ok _); rintro _ rfl; conv => whnf)
      | (refine DCall.pure ?_ (refTruth_ok _); conv => whnf)
      | (refine ACalls.pure' ?_ (refLess_ok (k, n, s1, t) (k2, n2, s2, t2) (by dsimp only; omega)); rintro _ rfl; conv => whnf)
      | (refine DCall.pure ?_ (refLess_ok (k, n, s1, t) (k2, n2, s2, t2) (by dsimp only; omega)); conv => whnf)
      | (refine ACalls.pure' ?_ (refLess_ok (k2, n2, s2, t2) (k, n, s1, t) (by dsimp only; omega)); rintro _ rfl; conv => whnf)
      | (refine DCall.pure ?_ (refLess_ok (k2, n2, s2, t2) (k, n, s1, t) (by dsimp only; omega)); conv => whnf)
      | (refine ACalls.pure' ?_ (refArith_ok _ _ _ ha hb (by omega)); rintro _ rfl; conv => whnf)
      | (refine DCall.pure ?_ (refArith_ok _ _ _ ha hb (by omega)); conv => whnf)
      | (refine getB_same ?_; conv => whnf)
      | (refine AWp.any (by kernel_rfl) (by kernel_rfl) (by kernel_rfl) ?_; conv => whnf)
      | (apply And.intro; (focus (first | omega | rfl | decide | exact Nat.le_of_ble_eq_true rfl | ((repeat' (first | exact all_nil | refine all_cons ?_ ?_ | rfl | fail)); done) | (simp [-List.length_flatMap]; done) | (simp [-List.length_flatMap]; omega) | fail)); conv => whnf)
      | fail)
    all_goals (try refine ⟨((((Sub.refl _).set h1 _ _).set (none_set h2).2 _ _).set (none_set (none_set h3).2).2 _ _).set (none_set (none_set h3).2).2 _ _, ?_⟩)
    all_goals first
      | (have e0 : typeOf 14 k k2 = 0 := (by unfold typeOf; grind); exact (none_of (a := (k, n, s1, t)) (b := (k2, n2, s2, t2)) (by decide) e0).symm)
      | (have e1 : ¬typeOf 14 k k2 = 0 := (by unfold typeOf; grind); refine Eq.trans ?_ (congrArg resA (opV_ne (a := (k, n, s1, t)) (b := (k2, n2, s2, t2)) e1)).symm; rw [← eq_vl]; rfl)
  · refine APure.of_awp Tryz.func25 rfl (Nat.le_of_ble_eq_true (by kernel_rfl)) (by kernel_rfl) ?_
    intro s
    conv => whnf
    intro c1 h1
    conv => whnf
    intro c2 h2
    conv => whnf
    intro c3 h3
    conv => whnf
    have n12 := ne_of_none set_bx_same h2
    have n23 := ne_of_none set_bx_same h3
    have n13 := ne_of_none ((set_bx_other n12).trans set_bx_same) h3
    repeat' (first
      | (refine ⟨Sub.refl _, ?_⟩)
      | (refine brA_split (fun h => ?_) (fun h => ?_) <;> (try rw [h]) <;> (try simp only [Bool.false_eq_true, Bool.true_eq_false, ↓reduceIte, decide_eq_true_eq, decide_eq_false_iff_not, Bool.not_eq_true', Bool.not_eq_false'] at h) <;> (conv => whnf))
      | (refine getB_of set_bx_same ?_; conv => whnf)
      | (refine getB_of ((set_bx_other n13).trans ((set_bx_other n12).trans set_bx_same)) ?_; conv => whnf)
      | (refine getB_of ((set_bx_other n23).trans set_bx_same) ?_; conv => whnf)
      | (refine EqAgg.of grdVl planVl ?_; conv => whnf)
      | (refine ACalls.pure' ?_ (refTruth_ok _); rintro _ rfl; conv => whnf)
      | (refine DCall.pure ?_ (refTruth_ok _); conv => whnf)
      | (refine ACalls.pure' ?_ (refLess_ok (k, n, s1, t) (k2, n2, s2, t2) (by dsimp only; omega)); rintro _ rfl; conv => whnf)
      | (refine DCall.pure ?_ (refLess_ok (k, n, s1, t) (k2, n2, s2, t2) (by dsimp only; omega)); conv => whnf)
      | (refine ACalls.pure' ?_ (refLess_ok (k2, n2, s2, t2) (k, n, s1, t) (by dsimp only; omega)); rintro _ rfl; conv => whnf)
      | (refine DCall.pure ?_ (refLess_ok (k2, n2, s2, t2) (k, n, s1, t) (by dsimp only; omega)); conv => whnf)
      | (refine ACalls.pure' ?_ (refArith_ok _ _ _ ha hb (by omega)); rintro _ rfl; conv => whnf)
      | (refine DCall.pure ?_ (refArith_ok _ _ _ ha hb (by omega)); conv => whnf)
      | (refine getB_same ?_; conv => whnf)
      | (refine AWp.any (by kernel_rfl) (by kernel_rfl) (by kernel_rfl) ?_; conv => whnf)
      | (apply And.intro; (focus (first | omega | rfl | decide | exact Nat.le_of_ble_eq_true rfl | ((repeat' (first | exact all_nil | refine all_cons ?_ ?_ | rfl | fail)); done) | (simp [-List.length_flatMap]; done) | (simp [-List.length_flatMap]; omega) | fail)); conv => whnf)
      | fail)
    all_goals (try refine ⟨((((Sub.refl _).set h1 _ _).set (none_set h2).2 _ _).set (none_set (none_set h3).2).2 _ _).set (none_set (none_set h3).2).2 _ _, ?_⟩)
    all_goals first
      | (have e0 : typeOf 15 k k2 = 0 := (by unfold typeOf; grind); exact (none_of (a := (k, n, s1, t)) (b := (k2, n2, s2, t2)) (by decide) e0).symm)
      | (have e1 : ¬typeOf 15 k k2 = 0 := (by unfold typeOf; grind); exact (congrArg resA (opV_lt (a := (k, n, s1, t)) (b := (k2, n2, s2, t2)) e1)).symm)
  · refine APure.of_awp Tryz.func25 rfl (Nat.le_of_ble_eq_true (by kernel_rfl)) (by kernel_rfl) ?_
    intro s
    conv => whnf
    intro c1 h1
    conv => whnf
    intro c2 h2
    conv => whnf
    intro c3 h3
    conv => whnf
    have n12 := ne_of_none set_bx_same h2
    have n23 := ne_of_none set_bx_same h3
    have n13 := ne_of_none ((set_bx_other n12).trans set_bx_same) h3
    repeat' (first
      | (refine ⟨Sub.refl _, ?_⟩)
      | (refine brA_split (fun h => ?_) (fun h => ?_) <;> (try rw [h]) <;> (try simp only [Bool.false_eq_true, Bool.true_eq_false, ↓reduceIte, decide_eq_true_eq, decide_eq_false_iff_not, Bool.not_eq_true', Bool.not_eq_false'] at h) <;> (conv => whnf))
      | (refine getB_of set_bx_same ?_; conv => whnf)
      | (refine getB_of ((set_bx_other n13).trans ((set_bx_other n12).trans set_bx_same)) ?_; conv => whnf)
      | (refine getB_of ((set_bx_other n23).trans set_bx_same) ?_; conv => whnf)
      | (refine EqAgg.of grdVl planVl ?_; conv => whnf)
      | (refine ACalls.pure' ?_ (refTruth_ok _); rintro _ rfl; conv => whnf)
      | (refine DCall.pure ?_ (refTruth_ok _); conv => whnf)
      | (refine ACalls.pure' ?_ (refLess_ok (k, n, s1, t) (k2, n2, s2, t2) (by dsimp only; omega)); rintro _ rfl; conv => whnf)
      | (refine DCall.pure ?_ (refLess_ok (k, n, s1, t) (k2, n2, s2, t2) (by dsimp only; omega)); conv => whnf)
      | (refine ACalls.pure' ?_ (refLess_ok (k2, n2, s2, t2) (k, n, s1, t) (by dsimp only; omega)); rintro _ rfl; conv => whnf)
      | (refine DCall.pure ?_ (refLess_ok (k2, n2, s2, t2) (k, n, s1, t) (by dsimp only; omega)); conv => whnf)
      | (refine ACalls.pure' ?_ (refArith_ok _ _ _ ha hb (by omega)); rintro _ rfl; conv => whnf)
      | (refine DCall.pure ?_ (refArith_ok _ _ _ ha hb (by omega)); conv => whnf)
      | (refine getB_same ?_; conv => whnf)
      | (refine AWp.any (by kernel_rfl) (by kernel_rfl) (by kernel_rfl) ?_; conv => whnf)
      | (apply And.intro; (focus (first | omega | rfl | decide | exact Nat.le_of_ble_eq_true rfl | ((repeat' (first | exact all_nil | refine all_cons ?_ ?_ | rfl | fail)); done) | (simp [-List.length_flatMap]; done) | (simp [-List.length_flatMap]; omega) | fail)); conv => whnf)
      | fail)
    all_goals (try refine ⟨((((Sub.refl _).set h1 _ _).set (none_set h2).2 _ _).set (none_set (none_set h3).2).2 _ _).set (none_set (none_set h3).2).2 _ _, ?_⟩)
    all_goals first
      | (have e0 : typeOf 16 k k2 = 0 := (by unfold typeOf; grind); exact (none_of (a := (k, n, s1, t)) (b := (k2, n2, s2, t2)) (by decide) e0).symm)
      | (have e1 : ¬typeOf 16 k k2 = 0 := (by unfold typeOf; grind); exact (congrArg resA (opV_le (a := (k, n, s1, t)) (b := (k2, n2, s2, t2)) e1)).symm)
end Go.Proofs.YtcgobgnbpeageaaGreatDoor.Va
