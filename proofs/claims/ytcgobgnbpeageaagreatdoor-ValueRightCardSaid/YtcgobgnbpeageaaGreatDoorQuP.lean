
/- QuotePlain: plain texts, and no others, stand as they are between quotes. -/
import Derived.Test.YtcgobgnbpeageaaGreatDoorQuB
set_option linter.all false
namespace Go.Proofs.YtcgobgnbpeageaaGreatDoor.Qu
open Go Go.Ab Go.Proofs.YtcgobgnbpeageaaGreatDoor.Bd
attribute [local irreducible] APure Sto.set Sto.grow
set_option maxRecDepth 10000
variable {Γ : Nat → AV}

theorem one_long (c : UInt8) : shown c.toNat = false → 2 ≤ (one c.toNat).length := by
  intro h
  grind [one, shown]
theorem flat_len : ∀ l : List UInt8, l.length ≤ (l.flatMap fun c => one c.toNat).length
  | [] => by simp
  | c :: l => by
    have := one_pos c
    have := flat_len l
    simp only [List.flatMap_cons, List.length_append, List.length_cons]
    omega
theorem flat_plain : ∀ l : List UInt8, plain l = decide ((l.flatMap fun c => one c.toNat) = l)
  | [] => by simp [plain]
  | c :: l => by
    have ih := flat_plain l
    have e : plain (c :: l) = (shown c.toNat && plain l) := rfl
    rw [e, ih, List.flatMap_cons]
    cases h : shown c.toNat with
    | true => rw [one_plain c h]; simp
    | false =>
      have h1 := one_long c h
      have h2 := flat_len l
      have : ¬ (one c.toNat ++ l.flatMap fun c => one c.toNat) = c :: l := fun he => by
        have := congrArg List.length he
        simp only [List.length_append, List.length_cons] at this
        omega
      simp [this]
theorem quote_plain (l : List UInt8) : plain l = decide (quote l = 34 :: l ++ [34]) := by
  rw [flat_plain]
  simp [quote]

end Go.Proofs.YtcgobgnbpeageaaGreatDoor.Qu
