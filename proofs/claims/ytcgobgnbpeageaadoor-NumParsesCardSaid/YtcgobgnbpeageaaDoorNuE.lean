
/- Chapter 1: sums. -/
import Derived.Test.YtcgobgnbpeageaaDoorNuC
import Derived.Test.YtcgobgnbpeageaaDoorAb23
set_option linter.all false
namespace Go.Proofs.YtcgobgnbpeageaaDoor.Nu
open Go Go.Ab Go.RowKit
variable {Γ : Nat → AV}
attribute [local irreducible] APure Sto.set Sto.grow
set_option maxRecDepth 10000

def sumF : List Int → Int → Option Int
  | [], n => some n
  | x :: l, n => if fine (n + x) = true then sumF l (n + x) else none
theorem fine_val {x : Int} (h : fine x = true) : val x = x ∧ err x = 0 ∧ Fits x := by
  simp only [fine, decide_eq_true_eq] at h
  exact ⟨if_pos h, if_pos h, h⟩
theorem not_fine {x : Int} (h : ¬ fine x = true) : val x = 0 ∧ err x = 6 := by
  simp only [fine, decide_eq_true_eq] at h
  exact ⟨if_neg h, if_neg h⟩
theorem sumF_fine : ∀ (l : List Int) (n m : Int), fine n = true → sumF l n = some m → fine m = true
  | [], n, m, hn, h => by simp only [sumF, Option.some.injEq] at h; subst h; exact hn
  | x :: l, n, m, hn, h => by
    simp only [sumF] at h
    split at h
    · rename_i hf; exact sumF_fine l _ _ hf h
    · cases h
def sumA (l : List Int) : List AV :=
  match sumF l 0 with
  | some m => [.int .i64 m, .int .i64 0]
  | none => [.int .i64 0, .int .i64 6]

/-- Where the reference's loop stands. -/
def LoopI (l : List Int) (n : Int) (ok : Bool) (i : Nat) : Prop :=
  i ≤ l.length ∧ Fits n ∧ ((ok = true ∧ sumF l 0 = sumF (l.drop i) n) ∨ (ok = false ∧ n = 0 ∧ sumF l 0 = none))

end Go.Proofs.YtcgobgnbpeageaaDoor.Nu
