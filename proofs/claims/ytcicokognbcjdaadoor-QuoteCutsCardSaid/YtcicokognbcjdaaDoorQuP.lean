/- QuotePlain: plain texts, and no others, stand as they are between quotes. -/
import Derived.Test.YtcicokognbcjdaaDoorQuB
namespace Go.Proofs.YtcicokognbcjdaaDoor.Qu
open Go Go.Ab Go.Proofs.YtcicokognbcjdaaDoor.Bd
attribute [local irreducible] APure Sto.set Sto.grow
set_option maxRecDepth 10000
variable {Γ : Nat → AV}

theorem awake_ok (hT : Tabs Γ) : APure Tryd.prog Γ 6 [] fun v => v = .bool true := by
  refine APure.of_awp Tryd.func6 rfl (Nat.le_of_ble_eq_true (by kernel_rfl)) (by kernel_rfl) ?_
  intro s
  conv => whnf
  repeat' (first
    | (refine ⟨Sub.refl _, ?_⟩)
    | (refine brA_split (fun h => ?_) (fun h => ?_) <;> (try rw [h]) <;> (try simp only [Bool.false_eq_true, Bool.true_eq_false, ↓reduceIte, decide_eq_true_eq, decide_eq_false_iff_not, Bool.not_eq_true', Bool.not_eq_false'] at h) <;> (conv => whnf))
    | (refine ACalls.pure' ?_ (progQuote_ok hT _ (by decide)); rintro _ rfl; conv => whnf)
    | (refine DCall.pure ?_ (progQuote_ok hT _ (by decide)); conv => whnf)
    | (refine ACalls.pure' ?_ (plain_ok _ (by decide)); rintro _ rfl; conv => whnf)
    | (refine DCall.pure ?_ (plain_ok _ (by decide)); conv => whnf)
    | (refine getB_same ?_; conv => whnf)
    | (refine AWp.any (by kernel_rfl) (by kernel_rfl) (by kernel_rfl) ?_; conv => whnf)
    | (apply And.intro; (focus (first | omega | rfl | decide | exact Nat.le_of_ble_eq_true rfl | ((repeat' (first | exact all_nil | refine all_cons ?_ ?_ | rfl | fail)); done) | (simp [-List.length_flatMap]; done) | (simp [-List.length_flatMap]; omega) | fail)); conv => whnf)
    | fail)
  rfl

theorem one_long (c : UInt8) : shown c.toNat = false → 2 ≤ (one c.toNat).length := by
  intro h
  grind [one, shown]
theorem flat_len : ∀ l : List UInt8, l.length ≤ (l.flatMap fun c => one c.toNat).length
  | [] => by simp
  | c :: l => by
    have := one_pos c
    have := flat_len l
    simp only [List.flatMap_cons, List.length_append, List.length_cons]
    omega
theorem flat_plain : ∀ l : List UInt8, plain l = decide ((l.flatMap fun c => one c.toNat) = l)
  | [] => by simp [plain]
  | c :: l => by
    have ih := flat_plain l
    have e : plain (c :: l) = (shown c.toNat && plain l) := rfl
    rw [e, ih, List.flatMap_cons]
    cases h : shown c.toNat with
    | true => rw [one_plain c h]; simp
    | false =>
      have h1 := one_long c h
      have h2 := flat_len l
      have : ¬ (one c.toNat ++ l.flatMap fun c => one c.toNat) = c :: l := fun he => by
        have := congrArg List.length he
        simp only [List.length_append, List.length_cons] at this
        omega
      simp [this]
theorem quote_plain (l : List UInt8) : plain l = decide (quote l = 34 :: l ++ [34]) := by
  rw [flat_plain]
  simp [quote]

theorem law_ok (hT : Tabs Γ) (l : List UInt8) : APure Tryd.prog Γ 3 [.str l] fun v => v = .bool true := by
  refine APure.of_awp Tryd.func3 rfl (Nat.le_of_ble_eq_true (by kernel_rfl)) (by kernel_rfl) ?_
  intro s
  conv => whnf
  repeat' (first
    | (refine ⟨Sub.refl _, ?_⟩)
    | (refine brA_split (fun h => ?_) (fun h => ?_) <;> (try rw [h]) <;> (try simp only [Bool.false_eq_true, Bool.true_eq_false, ↓reduceIte, decide_eq_true_eq, decide_eq_false_iff_not, Bool.not_eq_true', Bool.not_eq_false'] at h) <;> (conv => whnf))
    | (refine ACalls.pure' ?_ (awake_ok hT); rintro _ rfl; conv => whnf)
    | (refine DCall.pure ?_ (awake_ok hT); conv => whnf)
    | (refine ACalls.pure' ?_ (plain_ok _ (by omega)); rintro _ rfl; conv => whnf)
    | (refine DCall.pure ?_ (plain_ok _ (by omega)); conv => whnf)
    | (refine ACalls.pure' ?_ (refQuote_ok _ (by omega)); rintro _ rfl; conv => whnf)
    | (refine DCall.pure ?_ (refQuote_ok _ (by omega)); conv => whnf)
    | (refine getB_same ?_; conv => whnf)
    | (refine AWp.any (by kernel_rfl) (by kernel_rfl) (by kernel_rfl) ?_; conv => whnf)
    | (apply And.intro; (focus (first | omega | rfl | decide | exact Nat.le_of_ble_eq_true rfl | ((repeat' (first | exact all_nil | refine all_cons ?_ ?_ | rfl | fail)); done) | (simp [-List.length_flatMap]; done) | (simp [-List.length_flatMap]; omega) | fail)); conv => whnf)
    | fail)
  · rfl
  · rfl
  · rw [quote_plain] at h
    simp at h
end Go.Proofs.YtcicokognbcjdaaDoor.Qu
