
/- Chapter 2: what is cut is what was quoted. -/
import Derived.Test.YtcgobgnbpeageaaGreatDoorQuC
set_option linter.all false
namespace Go.Proofs.YtcgobgnbpeageaaGreatDoor.Qu
open Go Go.Ab Go.Proofs.YtcgobgnbpeageaaGreatDoor.Bd Go.Proofs.YtcgobgnbpeageaaGreatDoor.Ix
attribute [local irreducible] APure Sto.set Sto.grow
set_option maxRecDepth 10000
variable {Γ : Nat → AV}

def fine (m : Nat) : Bool :=
  (shown m && decide (one m = [UInt8.ofNat m])) ||
  (match one m with
  | [a, x] => decide (a = 92) && decide (x ≠ 120) && decide (0 ≤ idxOf letters x.toNat) && decide (((byteAt marks (idxOf letters x.toNat).toNat).toNat : Int) = m)
  | [a, b, x, y] => decide (a = 92) && decide (b = 120) && decide (0 ≤ worth x) && decide (0 ≤ worth y) && decide (worth x * 16 + worth y = m) && !shown m && decide (idxOf marks m < 0)
  | _ => false)
theorem fine_all : ∀ m : Nat, m < 256 → fine m = true := by decide +kernel

theorem tk_of (m : Nat) (hm : m < 256) (r : List UInt8) : tk (one m ++ r) = ((m : Int), ((one m).length : Int)) := by
  have h := fine_all m hm
  unfold fine at h
  rw [Bool.or_eq_true] at h
  rcases h with h | h
  · simp only [Bool.and_eq_true, decide_eq_true_eq] at h
    rw [h.2]
    have e : ((UInt8.ofNat m).toNat : Int) = m := by simp [Nat.mod_eq_of_lt hm]
    unfold tk
    have e1 : byteAt ([UInt8.ofNat m] ++ r) 0 = UInt8.ofNat m := rfl
    rw [e1, e, if_pos h.1]
    rfl
  · split at h
    · rename_i a x hx
      simp only [Bool.and_eq_true, decide_eq_true_eq] at h
      obtain ⟨⟨⟨rfl, h2⟩, h3⟩, h4⟩ := h
      rw [hx]
      unfold tk
      have e0 : byteAt ([92, x] ++ r) 0 = 92 := rfl
      have e1 : byteAt ([92, x] ++ r) 1 = x := rfl
      have e2 : ¬ (x.toNat : Int) = 120 := fun hh => h2 (UInt8.toNat_inj.1 (by simpa using Int.ofNat.inj hh))
      rw [e0, e1, if_neg (by decide), if_neg (by simp), if_pos e2, if_neg (by omega), h4]
      rfl
    · rename_i a b x y hx
      simp only [Bool.and_eq_true, decide_eq_true_eq, Bool.not_eq_true'] at h
      obtain ⟨⟨⟨⟨⟨⟨rfl, rfl⟩, h3⟩, h4⟩, h5⟩, h6⟩, h7⟩ := h
      rw [hx]
      unfold tk
      have e0 : byteAt ([92, 120, x, y] ++ r) 0 = 92 := rfl
      have e1 : byteAt ([92, 120, x, y] ++ r) 1 = 120 := rfl
      have e2 : byteAt ([92, 120, x, y] ++ r) 2 = x := rfl
      have e3 : byteAt ([92, 120, x, y] ++ r) 3 = y := rfl
      rw [e0, e1, e2, e3, if_neg (by decide), if_neg (by simp), if_neg (by decide), if_neg (by simp; omega), h5, if_neg (by simp [h6]; omega)]
      rfl
    · cases h

theorem worth_back (b : UInt8) (h : 0 ≤ worth b) : byteAt digits (worth b).toNat = b := by
  have key : ∀ n : Nat, n < 256 → 0 ≤ worth (UInt8.ofNat n) → byteAt digits (worth (UInt8.ofNat n)).toNat = UInt8.ofNat n := by decide +kernel
  simpa using key b.toNat (u8_lt b) (by simpa using h)
theorem letters_back (b : UInt8) (h : 0 ≤ idxOf letters b.toNat) : one (byteAt marks (idxOf letters b.toNat).toNat).toNat = [92, b] := by
  have key : ∀ n : Nat, n < 256 → 0 ≤ idxOf letters (UInt8.ofNat n).toNat → one (byteAt marks (idxOf letters (UInt8.ofNat n).toNat).toNat).toNat = [92, UInt8.ofNat n] := by decide +kernel
  simpa using key b.toNat (u8_lt b) (by simpa using h)

/-- None, or a byte's form that stands there. -/
theorem tk_cases : ∀ l : List UInt8, l ≠ [] → tk l = (0, 0) ∨ ∃ m : Nat, m < 256 ∧ ∃ r, l = one m ++ r
  | [], h => absurd rfl h
  | a :: l, _ => by
    by_cases h1 : shown (byteAt (a :: l) 0).toNat = true
    · have e : byteAt (a :: l) 0 = a := rfl
      rw [e] at h1
      exact .inr ⟨a.toNat, u8_lt a, l, by rw [one_plain a h1]; rfl⟩
    · by_cases h2 : ¬ ((byteAt (a :: l) 0).toNat : Int) = 92 ∨ (a :: l).length < 2
      · left; unfold tk; rw [if_neg h1, if_pos h2]
      · simp only [not_or, Decidable.not_not] at h2
        have ea : a = 92 := UInt8.toNat_inj.1 (show a.toNat = 92 from Int.ofNat.inj h2.1)
        subst ea
        match l, h2 with
        | [], h2 => simp at h2
        | b :: l, _ =>
          have e1 : byteAt (92 :: b :: l) 1 = b := rfl
          by_cases h3 : ¬ ((byteAt (92 :: b :: l) 1).toNat : Int) = 120
          · by_cases h4 : idxOf letters (byteAt (92 :: b :: l) 1).toNat < 0
            · left; unfold tk; rw [if_neg h1, if_neg (by simp [byteAt]), if_pos h3, if_pos h4]
            · rw [e1] at h4
              exact .inr ⟨(byteAt marks (idxOf letters b.toNat).toNat).toNat, u8_lt _, l, by rw [letters_back b (by omega)]; rfl⟩
          · have eb : b = 120 := UInt8.toNat_inj.1 (show b.toNat = 120 from Int.ofNat.inj (Decidable.not_not.1 h3))
            subst eb
            match l with
            | [] => left; unfold tk; rw [if_neg h1, if_neg (by simp [byteAt]), if_neg h3, if_pos (by simp)]
            | [c] => left; unfold tk; rw [if_neg h1, if_neg (by simp [byteAt]), if_neg h3, if_pos (by simp)]
            | c :: d :: l =>
              have e2 : byteAt (92 :: 120 :: c :: d :: l) 2 = c := rfl
              have e3 : byteAt (92 :: 120 :: c :: d :: l) 3 = d := rfl
              by_cases h4 : worth c < 0 ∨ worth d < 0
              · left; unfold tk; rw [e2, e3, if_neg h1, if_neg (by simp [byteAt]), if_neg h3, if_pos (.inr h4)]
              · by_cases h5 : shown (worth c * 16 + worth d) = true ∨ 0 ≤ idxOf marks (worth c * 16 + worth d)
                · left; unfold tk; rw [e2, e3, if_neg h1, if_neg (by simp [byteAt]), if_neg h3, if_neg (by simp; omega), if_pos h5]
                · have b1 := worth_lt c
                  have b2 := worth_lt d
                  have hm : (((worth c).toNat * 16 + (worth d).toNat : Nat) : Int) = worth c * 16 + worth d := by omega
                  refine .inr ⟨(worth c).toNat * 16 + (worth d).toNat, by omega, l, ?_⟩
                  rw [one_else _ (by omega) (by rw [hm]; simpa using (not_or.1 h5).1) (by rw [hm]; exact (not_or.1 h5).2)]
                  rw [show ((worth c).toNat * 16 + (worth d).toNat) / 16 = (worth c).toNat by omega, show ((worth c).toNat * 16 + (worth d).toNat) % 16 = (worth d).toNat by omega, worth_back c (by omega), worth_back d (by omega)]
                  rfl

theorem u8_small : ∀ m : Nat, m < 256 → IntKind.u8.wrap (m : Int) = m := by decide +kernel
theorem byteOf_ok (l : List UInt8) (h0 : l ≠ []) (hl : l.length ≤ 140737488355328) :
    APure Tryz.prog Γ 56 [.str l] fun v => v = .tuple [.int .u8 (tk l).1, .int .i64 (tk l).2] := by
  refine APure.of_awp Tryz.func56 rfl (Nat.le_of_ble_eq_true (by kernel_rfl)) (by kernel_rfl) ?_
  intro s
  conv => whnf
  refine AWp.loopA [4] [6, 7, 10, 11, 12, 5, 13, 14, 15, 16, 17, 18, 19, 20, 21, 22, 23, 24, 25, 26, 27, 28, 29, 2, 3, 8, 9] (fun i : Nat => [.int .i64 i]) (fun i s' => i ≤ 256 ∧ s' = s ∧ ∀ m, m < i → ¬ ∃ r, l = one m ++ r) (fun i => 256 - i) (0) (by kernel_rfl) (by (repeat' (first | refine cons_eq ?_ ?_ | refine int64_of ?_ ?_ ?_ | rfl | omega))) ?_ ?_
  · exact ⟨by omega, rfl, fun m hm => by omega⟩
  · rintro x i _ ⟨hi, rfl, hno⟩
    conv => whnf
    repeat' (first
      | (refine ⟨Sub.refl _, ?_⟩)
      | (refine brA_split (fun h => ?_) (fun h => ?_) <;> (try rw [h]) <;> (try simp only [Bool.false_eq_true, Bool.true_eq_false, ↓reduceIte, decide_eq_true_eq, decide_eq_false_iff_not, Bool.not_eq_true', Bool.not_eq_false'] at h) <;> (conv => whnf))
      | (refine ACalls.pure' ?_ (one_ok _ ?_ ?_); rintro _ rfl; conv => whnf)
      | (refine DCall.pure ?_ (one_ok _ ?_ ?_); conv => whnf)
      | (refine getB_same ?_; conv => whnf)
      | (refine AWp.any (by kernel_rfl) (by kernel_rfl) (by kernel_rfl) ?_; conv => whnf)
      | (apply And.intro; (focus (first | omega | rfl | decide | exact Nat.le_of_ble_eq_true rfl | ((repeat' (first | exact all_nil | refine all_cons ?_ ?_ | rfl | fail)); done) | (simp [-List.length_flatMap]; done) | (simp [-List.length_flatMap]; omega) | fail)); conv => whnf)
      | fail)
    · rename_i h1 h2
      rw [u8_small i (by omega)] at h ⊢
      have he : l = one i ++ l.drop (one i).length := by
        have := (List.take_append_drop (one i).length l).symm
        simp only [Int.toNat_natCast, List.drop_zero] at h
        rw [h] at this
        exact this
      rw [he, tk_of i (by omega)]
      rfl
    · rename_i h1 h2
      rw [u8_small i (by omega)] at h
      refine ⟨i + 1, by (repeat' (first | refine cons_eq ?_ ?_ | refine int64_of ?_ ?_ ?_ | rfl | omega)), by (repeat (first | exact Same.refl _ _ | refine Same.upd rfl ?_ | refine Same.updL rfl ?_ | refine Same.havoc rfl ?_)), ⟨by omega, rfl, ?_⟩, by omega⟩
      intro m hm
      by_cases hmi : m = i
      · subst hmi
        rintro ⟨r, hr⟩
        apply h
        rw [hr]
        simp
      · exact hno m (by omega)
    · rename_i h1
      rw [u8_small i (by omega)] at h
      refine ⟨i + 1, by (repeat' (first | refine cons_eq ?_ ?_ | refine int64_of ?_ ?_ ?_ | rfl | omega)), by (repeat (first | exact Same.refl _ _ | refine Same.upd rfl ?_ | refine Same.updL rfl ?_ | refine Same.havoc rfl ?_)), ⟨by omega, rfl, ?_⟩, by omega⟩
      intro m hm
      by_cases hmi : m = i
      · subst hmi
        rintro ⟨r, hr⟩
        apply h
        rw [hr]
        simp
        omega
      · exact hno m (by omega)
    · rw [u8_small i (by omega)]; omega
    · rw [u8_small i (by omega)]; omega
    · rcases tk_cases l h0 with ht | ⟨m, hm, r, hr⟩
      · rw [ht]; rfl
      · exact absurd ⟨r, hr⟩ (hno m (by omega))
end Go.Proofs.YtcgobgnbpeageaaGreatDoor.Qu
