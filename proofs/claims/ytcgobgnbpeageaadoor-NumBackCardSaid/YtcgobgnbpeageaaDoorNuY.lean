/- Chapter 1: the law of what is parsed back. -/
import Derived.Test.YtcgobgnbpeageaaDoorNuW
import Derived.Test.YtcgobgnbpeageaaDoorNuX
set_option linter.all false
namespace Go.Proofs.YtcgobgnbpeageaaDoor.Nu
open Go Go.Ab Go.RowKit
variable {Γ : Nat → AV}
attribute [local irreducible] APure Sto.set Sto.grow
set_option maxRecDepth 10000
set_option maxHeartbeats 1000000

theorem back_law (hT : Tens Γ) (hE : ErrR Γ) (n : Int) (hn : Fits n) : APure Tryd.prog Γ 3 [.int .i64 n] fun v => v = .bool true := by
  obtain ⟨hf, h1, h2⟩ := parse_itoa n hn
  have hl : (Lib.itoa n).length ≤ 1048576 := by
    have := Lib.itoa_length_le n hn.1 hn.2
    omega
  have p1 := fun Γ hE => parse_run (Γ := Γ) (Lib.itoa n) hl hE (fun h => no_syntax h)
  rw [h1, h2] at p1
  refine APure.of_awp Tryd.func3 rfl (Nat.le_of_ble_eq_true (by kernel_rfl)) (by kernel_rfl) ?_
  intro s
  conv => whnf
  repeat' (first
    | (refine ⟨Sub.refl _, ?_⟩)
    | (refine brA_split (fun h => ?_) (fun h => ?_) <;> (try rw [h]) <;> (try simp only [Bool.false_eq_true, Bool.true_eq_false, ↓reduceIte, decide_eq_true_eq, decide_eq_false_iff_not, Bool.not_eq_true', Bool.not_eq_false'] at h) <;> (conv => whnf))
    | (refine ACalls.pure' ?_ (awake_ok hT); rintro _ rfl; conv => whnf)
    | (refine DCall.pure ?_ (awake_ok hT); conv => whnf)
    | (refine ACalls.pure' ?_ (text_ok hT n hn); rintro _ rfl; conv => whnf)
    | (refine DCall.pure ?_ (text_ok hT n hn); conv => whnf)
    | (refine ACalls.pure' ?_ (p1 _ hE); rintro _ rfl; conv => whnf)
    | (refine DCall.pure ?_ (p1 _ hE); conv => whnf)
    | (refine ACalls.pure' ?_ (refText_ok (n.natAbs + 1) n (by omega) hn _); rintro _ rfl; conv => whnf)
    | (refine DCall.pure ?_ (refText_ok (n.natAbs + 1) n (by omega) hn _); conv => whnf)
    | (refine getB_same ?_; conv => whnf)
    | (refine AWp.any (by kernel_rfl) (by kernel_rfl) (by kernel_rfl) ?_; conv => whnf)
    | (apply And.intro; (focus (first | omega | rfl | decide | exact Nat.le_of_ble_eq_true rfl | ((repeat' (first | exact all_nil | refine all_cons ?_ ?_ | rfl | fail)); done) | (simp [-List.length_flatMap]; done) | (simp [-List.length_flatMap]; omega) | fail)); conv => whnf)
    | fail)
  all_goals first | rfl | (exfalso; simp_all; done) | (simp [tupA]; done) | trace_state
end Go.Proofs.YtcgobgnbpeageaaDoor.Nu
