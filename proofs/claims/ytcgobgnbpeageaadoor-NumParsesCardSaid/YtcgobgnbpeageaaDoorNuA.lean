
/- Chapter 1: what the functions on numbers hand back. -/
import Derived.Test.YtcgobgnbpeageaaDoorAb22
import Derived.Test.YtcgobgnbpeageaaDoorShelf
import Derived.Test.YtcgobgnbpeageaaDoorChecked
import Derived.Lib.AppendIntMem
set_option linter.all false
namespace Go.Proofs.YtcgobgnbpeageaaDoor.Nu
open Go Go.Ab Go.RowKit
variable {Γ : Nat → AV}

/-- What the library's table of tens holds. -/
def Tens (Γ : Nat → AV) : Prop := Γ 1 = .cptr (Lib.pow10Tab.map (.int .u64))
def Fits (n : Int) : Prop := -9223372036854775808 ≤ n ∧ n ≤ 9223372036854775807

theorem fits_of {n : Int} (h : (Lit.int .i64 n).wf = true) : Fits n := wf_i64 h
theorem format_ok (hT : Tens Γ) (n : Int) (hn : Fits n) : APure Tryd.prog Γ 19 [.int .i64 n, .int .i64 10] fun v => v = .str (Lib.itoa n) := by
  intro s
  refine ACalls.of_below fun G w vs hm hr => ?_
  obtain ⟨u, us, rfl, hu, hus⟩ := RList_cons.1 hr
  obtain ⟨u1, us1, rfl, hu1, hus1⟩ := RList_cons.1 hus
  rw [RList_nil] at hus1; subst hus1
  rw [R_int] at hu hu1; subst hu hu1
  refine ⟨_, fun G' w' => R_str.2 rfl, (Tryd.internal_strconv_FormatInt_10 n hn.1 hn.2 w (tab_of hm (by kernel_rfl) hT)).mono ?_⟩
  rintro e w' ⟨rfl, k, os, rfl⟩
  exact ⟨rfl, Lib.below_grow _ _ (Nat.le_refl _) _ _⟩
attribute [local irreducible] APure Sto.set Sto.grow
set_option maxRecDepth 10000

theorem strconv_ok (hT : Tens Γ) (n : Int) (hn : Fits n) : APure Tryd.prog Γ 10 [.int .i64 n, .int .i64 10] fun v => v = .str (Lib.itoa n) := by
  refine APure.of_awp Tryd.func10 rfl (Nat.le_of_ble_eq_true (by kernel_rfl)) (by kernel_rfl) ?_
  intro s
  conv => whnf
  repeat' (first
    | (refine ⟨Sub.refl _, ?_⟩)
    | (refine brA_split (fun h => ?_) (fun h => ?_) <;> (try rw [h]) <;> (try simp only [Bool.false_eq_true, Bool.true_eq_false, ↓reduceIte, decide_eq_true_eq, decide_eq_false_iff_not, Bool.not_eq_true', Bool.not_eq_false'] at h) <;> (conv => whnf))
    | (refine ACalls.pure' ?_ (format_ok hT _ hn); rintro _ rfl; conv => whnf)
    | (refine DCall.pure ?_ (format_ok hT _ hn); conv => whnf)
    | (refine getB_same ?_; conv => whnf)
    | (refine AWp.any (by kernel_rfl) (by kernel_rfl) (by kernel_rfl) ?_; conv => whnf)
    | (apply And.intro; (focus (first | omega | rfl | decide | exact Nat.le_of_ble_eq_true rfl | ((repeat' (first | exact all_nil | refine all_cons ?_ ?_ | rfl | fail)); done) | (simp [-List.length_flatMap]; done) | (simp [-List.length_flatMap]; omega) | fail)); conv => whnf)
    | fail)
  rfl
theorem text_ok (hT : Tens Γ) (n : Int) (hn : Fits n) : APure Tryd.prog Γ 5 [.int .i64 n] fun v => v = .str (Lib.itoa n) := by
  refine APure.of_awp Tryd.func5 rfl (Nat.le_of_ble_eq_true (by kernel_rfl)) (by kernel_rfl) ?_
  intro s
  conv => whnf
  repeat' (first
    | (refine ⟨Sub.refl _, ?_⟩)
    | (refine brA_split (fun h => ?_) (fun h => ?_) <;> (try rw [h]) <;> (try simp only [Bool.false_eq_true, Bool.true_eq_false, ↓reduceIte, decide_eq_true_eq, decide_eq_false_iff_not, Bool.not_eq_true', Bool.not_eq_false'] at h) <;> (conv => whnf))
    | (refine ACalls.pure' ?_ (strconv_ok hT _ hn); rintro _ rfl; conv => whnf)
    | (refine DCall.pure ?_ (strconv_ok hT _ hn); conv => whnf)
    | (refine getB_same ?_; conv => whnf)
    | (refine AWp.any (by kernel_rfl) (by kernel_rfl) (by kernel_rfl) ?_; conv => whnf)
    | (apply And.intro; (focus (first | omega | rfl | decide | exact Nat.le_of_ble_eq_true rfl | ((repeat' (first | exact all_nil | refine all_cons ?_ ?_ | rfl | fail)); done) | (simp [-List.length_flatMap]; done) | (simp [-List.length_flatMap]; omega) | fail)); conv => whnf)
    | fail)
  rfl

def val (x : Int) : Int := if -9223372036854775808 ≤ x ∧ x ≤ 9223372036854775807 then x else 0
def err (x : Int) : Int := if -9223372036854775808 ≤ x ∧ x ≤ 9223372036854775807 then 0 else 6
def fine (x : Int) : Bool := decide (-9223372036854775808 ≤ x ∧ x ≤ 9223372036854775807)
theorem fits_val (x : Int) : Fits (val x) := by unfold Fits val; split <;> omega

theorem sub_ok (a b : Int) (ha : Fits a) (hb : Fits b) : APure Tryd.prog Γ 44 [.int .i64 a, .int .i64 b] fun v => v = .tuple [.int .i64 (val (a - b)), .int .i64 (err (a - b))] := by
  unfold Fits at ha hb
  refine APure.of_awp Tryd.func44 rfl (Nat.le_of_ble_eq_true (by kernel_rfl)) (by kernel_rfl) ?_
  intro s
  conv => whnf
  repeat' (first
    | (refine ⟨Sub.refl _, ?_⟩)
    | (refine brA_split (fun h => ?_) (fun h => ?_) <;> (try rw [h]) <;> (try simp only [Bool.false_eq_true, Bool.true_eq_false, ↓reduceIte, decide_eq_true_eq, decide_eq_false_iff_not, Bool.not_eq_true', Bool.not_eq_false'] at h) <;> (conv => whnf))
    | (refine getB_same ?_; conv => whnf)
    | (refine AWp.any (by kernel_rfl) (by kernel_rfl) (by kernel_rfl) ?_; conv => whnf)
    | (apply And.intro; (focus (first | omega | rfl | decide | exact Nat.le_of_ble_eq_true rfl | ((repeat' (first | exact all_nil | refine all_cons ?_ ?_ | rfl | fail)); done) | (simp [-List.length_flatMap]; done) | (simp [-List.length_flatMap]; omega) | fail)); conv => whnf)
    | fail)
  all_goals
    simp only [IntKind.wrap_i64, beq_iff_eq, beq_eq_false_iff_ne, ne_eq, decide_eq_decide] at h
    simp only [tupA, val, err, AV.tuple.injEq, List.cons.injEq, AV.int.injEq, true_and, and_true, IntKind.wrap_i64]
    (split <;> omega)
theorem fits0 : Fits 0 := by unfold Fits; omega
theorem neg_ok (a : Int) (ha : Fits a) : APure Tryd.prog Γ 26 [.int .i64 a] fun v => v = .tuple [.int .i64 (val (0 - a)), .int .i64 (err (0 - a))] := by
  refine APure.of_awp Tryd.func26 rfl (Nat.le_of_ble_eq_true (by kernel_rfl)) (by kernel_rfl) ?_
  intro s
  conv => whnf
  repeat' (first
    | (refine ⟨Sub.refl _, ?_⟩)
    | (refine brA_split (fun h => ?_) (fun h => ?_) <;> (try rw [h]) <;> (try simp only [Bool.false_eq_true, Bool.true_eq_false, ↓reduceIte, decide_eq_true_eq, decide_eq_false_iff_not, Bool.not_eq_true', Bool.not_eq_false'] at h) <;> (conv => whnf))
    | (refine ACalls.pure' ?_ (sub_ok _ _ fits0 ha); rintro _ rfl; conv => whnf)
    | (refine DCall.pure ?_ (sub_ok _ _ fits0 ha); conv => whnf)
    | (refine getB_same ?_; conv => whnf)
    | (refine AWp.any (by kernel_rfl) (by kernel_rfl) (by kernel_rfl) ?_; conv => whnf)
    | (apply And.intro; (focus (first | omega | rfl | decide | exact Nat.le_of_ble_eq_true rfl | ((repeat' (first | exact all_nil | refine all_cons ?_ ?_ | rfl | fail)); done) | (simp [-List.length_flatMap]; done) | (simp [-List.length_flatMap]; omega) | fail)); conv => whnf)
    | fail)
  rfl
end Go.Proofs.YtcgobgnbpeageaaDoor.Nu
