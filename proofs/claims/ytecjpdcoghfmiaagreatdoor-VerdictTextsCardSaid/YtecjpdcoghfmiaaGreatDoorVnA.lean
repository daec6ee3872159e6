
/- Chapter 32: the verdicts' names. -/
import Derived.Test.YtecjpdcoghfmiaaGreatDoorAb23
import Derived.Test.YtecjpdcoghfmiaaGreatDoorShelf
import Derived.Test.YtecjpdcoghfmiaaGreatDoorChecked
set_option linter.all false
namespace Go.Proofs.YtecjpdcoghfmiaaGreatDoor.Vn
open Go Go.Ab Go.RowKit
variable {Γ : Nat → AV}
attribute [local irreducible] APure Sto.set Sto.grow
set_option maxRecDepth 10000

theorem bool_eq {a b : Bool} (h : a = b) : AV.bool a = .bool b := by rw [h]
def n1 : List UInt8 := [115, 117, 114, 101, 45, 116, 114, 117, 101]
def n2 : List UInt8 := [110, 111, 119, 45, 116, 114, 117, 101]
def n3 : List UInt8 := [110, 111, 119, 45, 102, 97, 108, 115, 101]
def n4 : List UInt8 := [115, 117, 114, 101, 45, 102, 97, 108, 115, 101]
/-- What the package's table of names holds. -/
def Nms (Γ : Nat → AV) : Prop := Γ 0 = .cptr [.str n1, .str n2, .str n3, .str n4]
def vname (v : Int) : List UInt8 := if v = 1 then n1 else if v = 2 then n2 else if v = 3 then n3 else if v = 4 then n4 else []
theorem vname_no {v : Int} (h : v < 1 ∨ 4 < v) : vname v = [] := by
  unfold vname
  rw [if_neg (by omega), if_neg (by omega), if_neg (by omega), if_neg (by omega)]

theorem name_ok (hN : Nms Γ) (v : Int) : APure Tryz.prog Γ 15 [.int .i64 v] fun a => a = .str (vname v) := by
  by_cases hv : v < 1 ∨ 4 < v
  · rw [vname_no hv]
    refine APure.of_awp Tryz.func15 rfl (Nat.le_of_ble_eq_true (by kernel_rfl)) (by kernel_rfl) ?_
    intro s
    conv => whnf
    repeat' (first
      | (refine ⟨Sub.refl _, ?_⟩)
      | (refine brA_split (fun h => ?_) (fun h => ?_) <;> (try rw [h]) <;> (try simp only [Bool.false_eq_true, Bool.true_eq_false, ↓reduceIte, decide_eq_true_eq, decide_eq_false_iff_not, Bool.not_eq_true', Bool.not_eq_false'] at h) <;> (conv => whnf))
      | (refine getB_same ?_; conv => whnf)
      | (refine AWp.any (by kernel_rfl) (by kernel_rfl) (by kernel_rfl) ?_; conv => whnf)
      | (apply And.intro; (focus (first | omega | rfl | decide | exact Nat.le_of_ble_eq_true rfl | ((repeat' (first | exact all_nil | refine all_cons ?_ ?_ | rfl | fail)); done) | (simp [-List.length_flatMap]; done) | (simp [-List.length_flatMap]; omega) | fail)); conv => whnf)
      | fail)
    all_goals first | rfl | omega
  · obtain rfl | rfl | rfl | rfl : v = 1 ∨ v = 2 ∨ v = 3 ∨ v = 4 := by omega
    all_goals
      refine APure.of_awp Tryz.func15 rfl (Nat.le_of_ble_eq_true (by kernel_rfl)) (by kernel_rfl) ?_
      intro s
      conv => whnf
      repeat' (first
        | (refine ⟨Sub.refl _, ?_⟩)
        | (refine brA_split (fun h => ?_) (fun h => ?_) <;> (try rw [h]) <;> (try simp only [Bool.false_eq_true, Bool.true_eq_false, ↓reduceIte, decide_eq_true_eq, decide_eq_false_iff_not, Bool.not_eq_true', Bool.not_eq_false'] at h) <;> (conv => whnf))
        | (rw [evA_glob, hN]; conv => whnf)
        | (refine getB_same ?_; conv => whnf)
        | (refine AWp.any (by kernel_rfl) (by kernel_rfl) (by kernel_rfl) ?_; conv => whnf)
        | (apply And.intro; (focus (first | omega | rfl | decide | exact Nat.le_of_ble_eq_true rfl | ((repeat' (first | exact all_nil | refine all_cons ?_ ?_ | rfl | fail)); done) | (simp [-List.length_flatMap]; done) | (simp [-List.length_flatMap]; omega) | fail)); conv => whnf)
        | fail)
      all_goals first | rfl | omega
theorem refName_ok (v : Int) : APure Tryz.prog Γ 23 [.int .i64 v] fun a => a = .str (vname v) := by
  by_cases hv : v < 1 ∨ 4 < v
  · rw [vname_no hv]
    refine APure.of_awp Tryz.func23 rfl (Nat.le_of_ble_eq_true (by kernel_rfl)) (by kernel_rfl) ?_
    intro s
    conv => whnf
    repeat' (first
      | (refine ⟨Sub.refl _, ?_⟩)
      | (refine brA_split (fun h => ?_) (fun h => ?_) <;> (try rw [h]) <;> (try simp only [Bool.false_eq_true, Bool.true_eq_false, ↓reduceIte, decide_eq_true_eq, decide_eq_false_iff_not, Bool.not_eq_true', Bool.not_eq_false'] at h) <;> (conv => whnf))
      | (refine getB_same ?_; conv => whnf)
      | (refine AWp.any (by kernel_rfl) (by kernel_rfl) (by kernel_rfl) ?_; conv => whnf)
      | (apply And.intro; (focus (first | omega | rfl | decide | exact Nat.le_of_ble_eq_true rfl | ((repeat' (first | exact all_nil | refine all_cons ?_ ?_ | rfl | fail)); done) | (simp [-List.length_flatMap]; done) | (simp [-List.length_flatMap]; omega) | fail)); conv => whnf)
      | fail)
    all_goals first | rfl | omega
  · obtain rfl | rfl | rfl | rfl : v = 1 ∨ v = 2 ∨ v = 3 ∨ v = 4 := by omega
    all_goals
      refine APure.of_awp Tryz.func23 rfl (Nat.le_of_ble_eq_true (by kernel_rfl)) (by kernel_rfl) ?_
      intro s
      conv => whnf
      repeat' (first
        | (refine ⟨Sub.refl _, ?_⟩)
        | (refine brA_split (fun h => ?_) (fun h => ?_) <;> (try rw [h]) <;> (try simp only [Bool.false_eq_true, Bool.true_eq_false, ↓reduceIte, decide_eq_true_eq, decide_eq_false_iff_not, Bool.not_eq_true', Bool.not_eq_false'] at h) <;> (conv => whnf))
        | (refine getB_same ?_; conv => whnf)
        | (refine AWp.any (by kernel_rfl) (by kernel_rfl) (by kernel_rfl) ?_; conv => whnf)
        | (apply And.intro; (focus (first | omega | rfl | decide | exact Nat.le_of_ble_eq_true rfl | ((repeat' (first | exact all_nil | refine all_cons ?_ ?_ | rfl | fail)); done) | (simp [-List.length_flatMap]; done) | (simp [-List.length_flatMap]; omega) | fail)); conv => whnf)
        | fail)
      all_goals first | rfl | omega
theorem isSure_ok (v : Int) : APure Tryz.prog Γ 14 [.int .i64 v] fun a => a = .bool (decide (v = 1 ∨ v = 4)) := by
  refine APure.of_awp Tryz.func14 rfl (Nat.le_of_ble_eq_true (by kernel_rfl)) (by kernel_rfl) ?_
  intro s
  conv => whnf
  repeat' (first
    | (refine ⟨Sub.refl _, ?_⟩)
    | (refine brA_split (fun h => ?_) (fun h => ?_) <;> (try rw [h]) <;> (try simp only [Bool.false_eq_true, Bool.true_eq_false, ↓reduceIte, decide_eq_true_eq, decide_eq_false_iff_not, Bool.not_eq_true', Bool.not_eq_false'] at h) <;> (conv => whnf))
    | (refine getB_same ?_; conv => whnf)
    | (refine AWp.any (by kernel_rfl) (by kernel_rfl) (by kernel_rfl) ?_; conv => whnf)
    | (apply And.intro; (focus (first | omega | rfl | decide | exact Nat.le_of_ble_eq_true rfl | ((repeat' (first | exact all_nil | refine all_cons ?_ ?_ | rfl | fail)); done) | (simp [-List.length_flatMap]; done) | (simp [-List.length_flatMap]; omega) | fail)); conv => whnf)
    | fail)
  all_goals simp [tupA, *]
def mayB (a b : Int) : Bool := decide (1 ≤ a ∧ a ≤ 4) && decide (1 ≤ b ∧ b ≤ 4) && (!decide (a = 1 ∨ a = 4) || decide ((a = 1 ∨ a = 2) ↔ (b = 1 ∨ b = 2)))
theorem vname_nil (v : Int) : decide (vname v = []) = !decide (1 ≤ v ∧ v ≤ 4) := by
  by_cases hv : v < 1 ∨ 4 < v
  · rw [vname_no hv, decide_eq_false (p := 1 ≤ v ∧ v ≤ 4) (by omega)]
    rfl
  · obtain rfl | rfl | rfl | rfl : v = 1 ∨ v = 2 ∨ v = 3 ∨ v = 4 := by omega
    all_goals rfl
theorem four {v : Int} (h : 1 ≤ v ∧ v ≤ 4) : v = 1 ∨ v = 2 ∨ v = 3 ∨ v = 4 := by omega
def vof (l : List UInt8) : Int := if l = n1 then 1 else if l = n2 then 2 else if l = n3 then 3 else if l = n4 then 4 else 0
theorem vof_name {v : Int} (h : 1 ≤ v ∧ v ≤ 4) : vof (vname v) = v := by
  rcases four h with rfl | rfl | rfl | rfl <;> rfl
theorem vof_none {l : List UInt8} (h : ∀ u, 1 ≤ u → u < 5 → vname u ≠ l) : vof l = 0 := by
  have h1 := h 1 (by omega) (by omega)
  have h2 := h 2 (by omega) (by omega)
  have h3 := h 3 (by omega) (by omega)
  have h4 := h 4 (by omega) (by omega)
  unfold vof
  rw [if_neg (fun e => h1 e.symm), if_neg (fun e => h2 e.symm), if_neg (fun e => h3 e.symm), if_neg (fun e => h4 e.symm)]
theorem parse_ok (hN : Nms Γ) (l : List UInt8) : APure Tryz.prog Γ 39 [.str l] fun a => a = .tuple [.int .i64 (vof l), .bool (decide (0 < vof l))] := by
  refine APure.of_awp Tryz.func39 rfl (Nat.le_of_ble_eq_true (by kernel_rfl)) (by kernel_rfl) ?_
  intro s
  conv => whnf
  refine AWp.loopA [4] [5, 6, 9, 10, 11, 12, 13, 2, 3, 7, 8] (fun v : Int => [.int .i64 v]) (fun v s' => 1 ≤ v ∧ v ≤ 5 ∧ s' = s ∧ ∀ u, 1 ≤ u → u < v → vname u ≠ l) (fun v => (5 - v).toNat) (1) (by kernel_rfl) (by (repeat' (first | refine cons_eq ?_ ?_ | refine int64_of ?_ ?_ ?_ | rfl | omega))) ?_ ?_
  · exact ⟨by omega, by omega, rfl, fun u h1 h2 => by omega⟩
  · rintro y v _ ⟨hv1, hv2, rfl, hp⟩
    conv => whnf
    repeat' (first
      | (refine ⟨Sub.refl _, ?_⟩)
      | (refine brA_split (fun h => ?_) (fun h => ?_) <;> (try rw [h]) <;> (try simp only [Bool.false_eq_true, Bool.true_eq_false, ↓reduceIte, decide_eq_true_eq, decide_eq_false_iff_not, Bool.not_eq_true', Bool.not_eq_false'] at h) <;> (conv => whnf))
      | (refine ACalls.pure' ?_ (name_ok hN _); rintro _ rfl; conv => whnf)
      | (refine DCall.pure ?_ (name_ok hN _); conv => whnf)
      | (refine getB_same ?_; conv => whnf)
      | (refine AWp.any (by kernel_rfl) (by kernel_rfl) (by kernel_rfl) ?_; conv => whnf)
      | (apply And.intro; (focus (first | omega | rfl | decide | exact Nat.le_of_ble_eq_true rfl | ((repeat' (first | exact all_nil | refine all_cons ?_ ?_ | rfl | fail)); done) | (simp [-List.length_flatMap]; done) | (simp [-List.length_flatMap]; omega) | fail)); conv => whnf)
      | fail)
    · rw [← h, vof_name (by omega), decide_eq_true (by omega)]
      rfl
    · refine ⟨v + 1, by (repeat' (first | refine cons_eq ?_ ?_ | refine int64_of ?_ ?_ ?_ | rfl | omega)), by (repeat (first | exact Same.refl _ _ | refine Same.upd rfl ?_ | refine Same.updL rfl ?_ | refine Same.havoc rfl ?_)), ⟨by omega, by omega, rfl, fun u h1 h2 => ?_⟩, by omega⟩
      by_cases hu : u = v
      · rw [hu]; exact h
      · exact hp u h1 (by omega)
    · rw [vof_none (fun u h1 h2 => hp u h1 (by omega))]
      rfl
end Go.Proofs.YtecjpdcoghfmiaaGreatDoor.Vn
