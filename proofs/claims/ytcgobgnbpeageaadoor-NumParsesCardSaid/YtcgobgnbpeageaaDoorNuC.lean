
/- Chapter 1: quotients; the example. -/
import Derived.Test.YtcgobgnbpeageaaDoorNuB
set_option linter.all false
namespace Go.Proofs.YtcgobgnbpeageaaDoor.Nu
open Go Go.Ab Go.RowKit
variable {Γ : Nat → AV}
attribute [local irreducible] APure Sto.set Sto.grow
set_option maxRecDepth 10000

/-- A quotient, toward nought. -/
def quo (a b : Int) : Int := if b = 0 then 0 else if b = -1 then val (0 - a) else IntKind.i64.wrap (a.tdiv b)
def quoErr (a b : Int) : Int := if b = 0 then 7 else if b = -1 then err (0 - a) else 0
def lft (a b : Int) : Int := if b = 0 then 0 else if b = -1 then 0 else a.tmod b
def lftErr (b : Int) : Int := if b = 0 then 7 else 0
theorem div_ok (a b : Int) (ha : Fits a) : APure Tryd.prog Γ 14 [.int .i64 a, .int .i64 b] fun v => v = .tuple [.int .i64 (quo a b), .int .i64 (quoErr a b)] := by
  refine APure.of_awp Tryd.func14 rfl (Nat.le_of_ble_eq_true (by kernel_rfl)) (by kernel_rfl) ?_
  intro s
  conv => whnf
  repeat' (first
    | (refine ⟨Sub.refl _, ?_⟩)
    | (refine brA_split (fun h => ?_) (fun h => ?_) <;> (try rw [h]) <;> (try simp only [Bool.false_eq_true, Bool.true_eq_false, ↓reduceIte, decide_eq_true_eq, decide_eq_false_iff_not, Bool.not_eq_true', Bool.not_eq_false'] at h) <;> (conv => whnf))
    | (refine ACalls.pure' ?_ (neg_ok _ ha); rintro _ rfl; conv => whnf)
    | (refine DCall.pure ?_ (neg_ok _ ha); conv => whnf)
    | (refine getB_same ?_; conv => whnf)
    | (refine AWp.any (by kernel_rfl) (by kernel_rfl) (by kernel_rfl) ?_; conv => whnf)
    | (apply And.intro; (focus (first | omega | rfl | decide | exact Nat.le_of_ble_eq_true rfl | ((repeat' (first | exact all_nil | refine all_cons ?_ ?_ | rfl | fail)); done) | (simp [-List.length_flatMap]; done) | (simp [-List.length_flatMap]; omega) | fail)); conv => whnf)
    | fail)
  all_goals simp [tupA, quo, quoErr, *]
theorem mod_ok (a b : Int) : APure Tryd.prog Γ 15 [.int .i64 a, .int .i64 b] fun v => v = .tuple [.int .i64 (lft a b), .int .i64 (lftErr b)] := by
  refine APure.of_awp Tryd.func15 rfl (Nat.le_of_ble_eq_true (by kernel_rfl)) (by kernel_rfl) ?_
  intro s
  conv => whnf
  repeat' (first
    | (refine ⟨Sub.refl _, ?_⟩)
    | (refine brA_split (fun h => ?_) (fun h => ?_) <;> (try rw [h]) <;> (try simp only [Bool.false_eq_true, Bool.true_eq_false, ↓reduceIte, decide_eq_true_eq, decide_eq_false_iff_not, Bool.not_eq_true', Bool.not_eq_false'] at h) <;> (conv => whnf))
    | (refine getB_same ?_; conv => whnf)
    | (refine AWp.any (by kernel_rfl) (by kernel_rfl) (by kernel_rfl) ?_; conv => whnf)
    | (apply And.intro; (focus (first | omega | rfl | decide | exact Nat.le_of_ble_eq_true rfl | ((repeat' (first | exact all_nil | refine all_cons ?_ ?_ | rfl | fail)); done) | (simp [-List.length_flatMap]; done) | (simp [-List.length_flatMap]; omega) | fail)); conv => whnf)
    | fail)
  all_goals simp [tupA, lft, lftErr, *]
theorem awake_ok (hT : Tens Γ) : APure Tryd.prog Γ 8 [] fun v => v = .bool true := by
  refine APure.of_awp Tryd.func8 rfl (Nat.le_of_ble_eq_true (by kernel_rfl)) (by kernel_rfl) ?_
  intro s
  conv => whnf
  repeat' (first
    | (refine ⟨Sub.refl _, ?_⟩)
    | (refine brA_split (fun h => ?_) (fun h => ?_) <;> (try rw [h]) <;> (try simp only [Bool.false_eq_true, Bool.true_eq_false, ↓reduceIte, decide_eq_true_eq, decide_eq_false_iff_not, Bool.not_eq_true', Bool.not_eq_false'] at h) <;> (conv => whnf))
    | (refine ACalls.pure' ?_ (div_ok _ _ (by unfold Fits; omega)); rintro _ rfl; conv => whnf)
    | (refine DCall.pure ?_ (div_ok _ _ (by unfold Fits; omega)); conv => whnf)
    | (refine ACalls.pure' ?_ (mod_ok _ _); rintro _ rfl; conv => whnf)
    | (refine DCall.pure ?_ (mod_ok _ _); conv => whnf)
    | (refine ACalls.pure' ?_ (text_ok hT (-3) (by unfold Fits; omega)); rintro _ rfl; conv => whnf)
    | (refine DCall.pure ?_ (text_ok hT (-3) (by unfold Fits; omega)); conv => whnf)
    | (rw [show quo (-7) 2 = -3 from by decide]; conv => whnf)
    | (refine getB_same ?_; conv => whnf)
    | (refine AWp.any (by kernel_rfl) (by kernel_rfl) (by kernel_rfl) ?_; conv => whnf)
    | (apply And.intro; (focus (first | omega | rfl | decide | exact Nat.le_of_ble_eq_true rfl | ((repeat' (first | exact all_nil | refine all_cons ?_ ?_ | rfl | fail)); done) | (simp [-List.length_flatMap]; done) | (simp [-List.length_flatMap]; omega) | fail)); conv => whnf)
    | fail)
  exact bool_eq (by decide +kernel)
end Go.Proofs.YtcgobgnbpeageaaDoor.Nu
