/- Chapter 1: the law of parsing. -/
import Derived.Test.YtcgobgnbpeageaaDoorNuV
import Derived.Test.YtcgobgnbpeageaaDoorNuC
set_option linter.all false
namespace Go.Proofs.YtcgobgnbpeageaaDoor.Nu
open Go Go.Ab Go.RowKit
variable {Γ : Nat → AV}
attribute [local irreducible] APure Sto.set Sto.grow
set_option maxRecDepth 10000
set_option maxHeartbeats 1000000

theorem numN_fits (l : List UInt8) : Fits (numN l) := by
  unfold Fits
  by_cases hf : formB l = true
  · obtain ⟨e1, _⟩ := num_form hf
    rw [e1]
    split
    · split <;> omega
    · split <;> omega
  · have : numN l = 0 := by unfold numN; rw [if_neg hf]
    omega
theorem numE_form {l : List UInt8} (h : numE l = 0) : formB l = true := by
  unfold numE at h
  cases hf : formB l
  · rw [hf] at h; cases h
  · rfl
theorem parses_law (hT : Tens Γ) (hE : ErrR Γ) (l : List UInt8) : APure Tryd.prog Γ 4 [.str l] fun v => v = .bool true := by
  have hx := fun h : numE l = 0 => itoa_parse (numE_form h) h
  refine APure.of_awp Tryd.func4 rfl (Nat.le_of_ble_eq_true (by kernel_rfl)) (by kernel_rfl) ?_
  intro s
  conv => whnf
  repeat' (first
    | (refine ⟨Sub.refl _, ?_⟩)
    | (refine brA_split (fun h => ?_) (fun h => ?_) <;> (try rw [h]) <;> (try simp only [Bool.false_eq_true, Bool.true_eq_false, ↓reduceIte, decide_eq_true_eq, decide_eq_false_iff_not, Bool.not_eq_true', Bool.not_eq_false'] at h) <;> (conv => whnf))
    | (refine ACalls.pure' ?_ (awake_ok hT); rintro _ rfl; conv => whnf)
    | (refine DCall.pure ?_ (awake_ok hT); conv => whnf)
    | (refine ACalls.pure' ?_ (parse_run l (by omega) hE (fun h => no_syntax h)); rintro _ rfl; conv => whnf)
    | (refine DCall.pure ?_ (parse_run l (by omega) hE (fun h => no_syntax h)); conv => whnf)
    | (refine ACalls.pure' ?_ (refNumber_ok l (by omega)); rintro _ rfl; conv => whnf)
    | (refine DCall.pure ?_ (refNumber_ok l (by omega)); conv => whnf)
    | (refine ACalls.pure' ?_ (text_ok hT _ (numN_fits l)); rintro _ rfl; conv => whnf)
    | (refine DCall.pure ?_ (text_ok hT _ (numN_fits l)); conv => whnf)
    | (refine getB_same ?_; conv => whnf)
    | (refine AWp.any (by kernel_rfl) (by kernel_rfl) (by kernel_rfl) ?_; conv => whnf)
    | (apply And.intro; (focus (first | omega | rfl | decide | exact Nat.le_of_ble_eq_true rfl | ((repeat' (first | exact all_nil | refine all_cons ?_ ?_ | rfl | fail)); done) | (simp [-List.length_flatMap]; done) | (simp [-List.length_flatMap]; omega) | fail)); conv => whnf)
    | fail)
  all_goals first | rfl | (exfalso; simp_all; done) | (simp [tupA]; done) | trace_state
end Go.Proofs.YtcgobgnbpeageaaDoor.Nu
