/- Chapter 10: of how many nodes each node's expression is, and how deep: for any list. (Groundwork for TreeRight.) -/
import Derived.Test.YtbhemiimdfhjbaaGreatDoorTrJ
namespace Go.Proofs.YtbhemiimdfhjbaaGreatDoor.Tr
open Go Go.Ab Go.RowKit
variable {Γ : Nat → AV}
attribute [local irreducible] APure Sto.set Sto.grow
set_option maxRecDepth 10000
set_option maxHeartbeats 1000000

def rightV (v : Vl) : Bool :=
  if v.1 = 1 then decide (v.2.2.1 = []) && !v.2.2.2
  else if v.1 = 2 then decide (v.2.1 = 0) && !v.2.2.2 && decide (v.2.2.1.length ≤ 4096)
  else decide (v.1 = 3) && decide (v.2.1 = 0) && decide (v.2.2.1 = [])
theorem valStr_ok (s : List UInt8) : APure Tryz.prog Γ 85 [.str s] fun v => v = .agg (vlA (2, 0, s, false)) := by
  refine APure.of_awp Tryz.func85 rfl (Nat.le_of_ble_eq_true (by kernel_rfl)) (by kernel_rfl) ?_
  intro s
  conv => whnf
  intro b hb
  conv => whnf
  repeat' (first
    | (refine ⟨Sub.refl _, ?_⟩)
    | (refine brA_split (fun h => ?_) (fun h => ?_) <;> (try rw [h]) <;> (try simp only [Bool.false_eq_true, Bool.true_eq_false, ↓reduceIte, decide_eq_true_eq, decide_eq_false_iff_not, Bool.not_eq_true', Bool.not_eq_false'] at h) <;> (conv => whnf))
    | (refine getB_of set_bx_same ?_; conv => whnf)
    | (refine getB_same ?_; conv => whnf)
    | (refine AWp.any (by kernel_rfl) (by kernel_rfl) (by kernel_rfl) ?_; conv => whnf)
    | (apply And.intro; (focus (first | omega | rfl | decide | exact Nat.le_of_ble_eq_true rfl | ((repeat' (first | exact all_nil | refine all_cons ?_ ?_ | rfl | fail)); done) | (simp [-List.length_flatMap]; done) | (simp [-List.length_flatMap]; omega) | fail)); conv => whnf)
    | fail)
  exact ⟨((Sub.refl _).set hb _ _).set hb _ _, rfl⟩
theorem valBool_ok (t : Bool) : APure Tryz.prog Γ 86 [.bool t] fun v => v = .agg (vlA (3, 0, [], t)) := by
  refine APure.of_awp Tryz.func86 rfl (Nat.le_of_ble_eq_true (by kernel_rfl)) (by kernel_rfl) ?_
  intro s
  conv => whnf
  intro b hb
  conv => whnf
  repeat' (first
    | (refine ⟨Sub.refl _, ?_⟩)
    | (refine brA_split (fun h => ?_) (fun h => ?_) <;> (try rw [h]) <;> (try simp only [Bool.false_eq_true, Bool.true_eq_false, ↓reduceIte, decide_eq_true_eq, decide_eq_false_iff_not, Bool.not_eq_true', Bool.not_eq_false'] at h) <;> (conv => whnf))
    | (refine getB_of set_bx_same ?_; conv => whnf)
    | (refine getB_same ?_; conv => whnf)
    | (refine AWp.any (by kernel_rfl) (by kernel_rfl) (by kernel_rfl) ?_; conv => whnf)
    | (apply And.intro; (focus (first | omega | rfl | decide | exact Nat.le_of_ble_eq_true rfl | ((repeat' (first | exact all_nil | refine all_cons ?_ ?_ | rfl | fail)); done) | (simp [-List.length_flatMap]; done) | (simp [-List.length_flatMap]; omega) | fail)); conv => whnf)
    | fail)
  exact ⟨((Sub.refl _).set hb _ _).set hb _ _, rfl⟩
theorem rightV_ok (v : Vl) : APure Tryz.prog Γ 42 [.agg (vlA v)] fun x => x = .bool (rightV v) := by
  obtain ⟨k, n, s, t⟩ := v
  refine APure.of_awp Tryz.func42 rfl (Nat.le_of_ble_eq_true (by kernel_rfl)) (by kernel_rfl) ?_
  intro s
  conv => whnf
  intro b hb
  conv => whnf
  repeat' (first
    | (refine ⟨Sub.refl _, ?_⟩)
    | (refine brA_split (fun h => ?_) (fun h => ?_) <;> (try rw [h]) <;> (try simp only [Bool.false_eq_true, Bool.true_eq_false, ↓reduceIte, decide_eq_true_eq, decide_eq_false_iff_not, Bool.not_eq_true', Bool.not_eq_false'] at h) <;> (conv => whnf))
    | (refine ACalls.pure' ?_ (valInt_ok _); rintro _ rfl; conv => whnf)
    | (refine DCall.pure ?_ (valInt_ok _); conv => whnf)
    | (refine ACalls.pure' ?_ (valStr_ok _); rintro _ rfl; conv => whnf)
    | (refine DCall.pure ?_ (valStr_ok _); conv => whnf)
    | (refine ACalls.pure' ?_ (valBool_ok _); rintro _ rfl; conv => whnf)
    | (refine DCall.pure ?_ (valBool_ok _); conv => whnf)
    | (refine EqAgg.of grdVl planVl ?_; conv => whnf)
    | (refine getB_same ?_; conv => whnf)
    | (refine AWp.any (by kernel_rfl) (by kernel_rfl) (by kernel_rfl) ?_; conv => whnf)
    | (apply And.intro; (focus (first | omega | rfl | decide | exact Nat.le_of_ble_eq_true rfl | ((repeat' (first | exact all_nil | refine all_cons ?_ ?_ | rfl | fail)); done) | (simp [-List.length_flatMap]; done) | (simp [-List.length_flatMap]; omega) | fail)); conv => whnf)
    | fail)
  all_goals refine ⟨(Sub.refl _).set hb _ _, bool_eq ?_⟩
  all_goals (try simp only [] at *)
  all_goals grind [rightV]
/-- A node that has no expressions, and may be; nm: which texts are names. -/
def loneB (nm : List UInt8 → Bool) (x : Ex) : Bool :=
  if x.2.1 ≠ 0 ∨ x.2.2.1 ≠ 0 then false
  else if x.1 = 1 then decide (x.2.2.2.1 = []) && rightV x.2.2.2.2.1
  else decide (x.1 = 17) && (decide (x.2.2.2.2.1 = noVl) && nm x.2.2.2.1)
theorem lone_ok (nm : List UInt8 → Bool) (x : Ex) (hn : APure Tryz.prog Γ 74 [.str x.2.2.2.1] fun v => v = .bool (nm x.2.2.2.1)) : APure Tryz.prog Γ 101 [.agg (exA x)] fun v => v = .bool (loneB nm x) := by
  have hev := eq_vl x.2.2.2.2.1 noVl
  refine APure.of_awp Tryz.func101 rfl (Nat.le_of_ble_eq_true (by kernel_rfl)) (by kernel_rfl) ?_
  intro s
  conv => whnf
  intro b hb
  conv => whnf
  repeat' (first
    | (exfalso; omega)
    | (refine ⟨Sub.refl _, ?_⟩)
    | (refine brA_split (fun h => ?_) (fun h => ?_) <;> (try rw [h]) <;> (try simp only [Bool.false_eq_true, Bool.true_eq_false, ↓reduceIte, decide_eq_true_eq, decide_eq_false_iff_not, Bool.not_eq_true', Bool.not_eq_false'] at h) <;> (conv => whnf))
    | (refine ACalls.pure' ?_ (rightV_ok x.2.2.2.2.1); rintro _ rfl; conv => whnf)
    | (refine DCall.pure ?_ (rightV_ok x.2.2.2.2.1); conv => whnf)
    | (refine EqAgg.of grdVl planVl ?_; conv => whnf)
    | (refine ACalls.pure' ?_ (hn); rintro _ rfl; conv => whnf)
    | (refine DCall.pure ?_ (hn); conv => whnf)
    | (refine getB_same ?_; conv => whnf)
    | (refine AWp.any (by kernel_rfl) (by kernel_rfl) (by kernel_rfl) ?_; conv => whnf)
    | (apply And.intro; (focus (first | omega | rfl | decide | exact Nat.le_of_ble_eq_true rfl | ((repeat' (first | exact all_nil | refine all_cons ?_ ?_ | rfl | fail)); done) | (simp [-List.length_flatMap]; done) | (simp [-List.length_flatMap]; omega) | fail)); conv => whnf)
    | fail)
  all_goals refine ⟨(Sub.refl _).set hb _ _, bool_eq ?_⟩
  all_goals (unfold loneB; rw [← hev])
  all_goals grind [noVl]
end Go.Proofs.YtbhemiimdfhjbaaGreatDoor.Tr
