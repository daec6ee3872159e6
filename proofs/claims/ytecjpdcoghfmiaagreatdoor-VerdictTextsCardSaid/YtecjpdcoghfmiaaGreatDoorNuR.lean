
/- Chapter 1: the number of a text: what it is. -/
import Derived.Test.YtecjpdcoghfmiaaGreatDoorNuQ
set_option linter.all false
namespace Go.Proofs.YtecjpdcoghfmiaaGreatDoor.Nu
open Go Go.Ab Go.RowKit

def isD (c : UInt8) : Bool := decide (48 ≤ c.toNat) && decide (c.toNat ≤ 57)
theorem digs_contains : ∀ c : UInt8, digs.contains c = isD c := by
  intro c
  have : ∀ n : Nat, n < 256 → digs.contains (UInt8.ofNat n) = isD (UInt8.ofNat n) := by decide +kernel
  have h := this c.toNat c.toNat_lt
  rwa [UInt8.ofNat_toNat] at h
theorem dw_nil {p : UInt8 → Bool} : ∀ l : List UInt8, l.dropWhile p = [] ↔ ∀ x ∈ l, p x = true
  | [] => by simp
  | c :: r => by
    have ih := dw_nil (p := p) r
    rw [List.dropWhile_cons]
    cases h : p c
    · simp [h]
    · rw [if_pos rfl, ih]
      simp [h]
theorem trimS_nil (l : List UInt8) : (Lib.trimS l digs = []) ↔ l.all isD = true := by
  have hc : (fun c => digs.contains c) = isD := funext digs_contains
  unfold Lib.trimS Lib.trimLeftS Lib.trimRightS
  rw [hc]
  constructor
  · intro h
    rw [dw_nil] at h
    by_cases hn : l.reverse.dropWhile isD = []
    · rw [dw_nil] at hn
      exact List.all_eq_true.2 fun x hx => hn x (List.mem_reverse.2 hx)
    · have h1 := List.head_dropWhile_not isD hn
      have h2 := h _ (List.mem_reverse.2 (List.head_mem hn))
      rw [h1] at h2
      cases h2
  · intro h
    have : l.reverse.dropWhile isD = [] := (dw_nil _).2 fun x hx => List.all_eq_true.1 h x (List.mem_reverse.1 hx)
    rw [this]
    rfl
/-- Where the digits begin. -/
def from_ (l : List UInt8) : Nat := if byteAt l 0 = 45 then 1 else 0
theorem trimPrefix_drop (l : List UInt8) : Lib.trimPrefix l [45] = l.drop (from_ l) := by
  unfold Lib.trimPrefix Lib.hasPrefix from_
  cases l with
  | nil => rfl
  | cons c r =>
    by_cases h : c = 45
    · subst h; rfl
    · have h1 : ([45] : List UInt8).isPrefixOf (c :: r) = false := by
        simp [List.isPrefixOf, h]
        exact fun e => h e.symm
      rw [h1]
      simp [byteAt, h]
theorem form_eq (l : List UInt8) : formB l = (!decide (l.length ≤ from_ l) && !(decide ((byteAt l (from_ l)).toNat = 48) && decide (1 < l.length)) && (l.drop (from_ l)).all isD) := by
  unfold formB
  simp only [trimPrefix_drop]
  have h1 : decide (l.drop (from_ l) = []) = decide (l.length ≤ from_ l) := decide_eq_decide.2 List.drop_eq_nil_iff
  have h2 : byteAt (l.drop (from_ l)) 0 = byteAt l (from_ l) := by simp [byteAt, List.getD]
  have h3 : decide (Lib.trimS (l.drop (from_ l)) digs = []) = (l.drop (from_ l)).all isD := by
    rw [Bool.eq_iff_iff, decide_eq_true_iff]; exact trimS_nil _
  rw [h1, h2, h3]

def nv : List UInt8 → Nat → Nat
  | [], a => a
  | c :: r, a => nv r (a * 10 + (c.toNat - 48))
theorem nv_ge : ∀ (l : List UInt8) (a : Nat), a ≤ nv l a
  | [], a => Nat.le_refl _
  | c :: r, a => by
    have := nv_ge r (a * 10 + (c.toNat - 48))
    show a ≤ nv r _
    omega
theorem pu_digits : ∀ (d : List UInt8) (a : Nat), d.all isD = true → a ≤ 18446744073709551615 → Lib.parseUintM 18446744073709551615 a d = if nv d a ≤ 18446744073709551615 then .ok (nv d a) else .range
  | [], a => fun _ h => by unfold Lib.parseUintM nv; rw [if_pos h]
  | c :: r, a => fun h ha => by
    rw [List.all_cons, Bool.and_eq_true] at h
    have hd : 48 ≤ c.toNat ∧ c.toNat ≤ 57 := by simpa [isD] using h.1
    have hg := nv_ge r (a * 10 + (c.toNat - 48))
    unfold Lib.parseUintM nv
    rw [if_pos hd]
    split
    · rw [if_neg (by omega)]
    · split
      · rw [if_neg (by omega)]
      · exact pu_digits r _ h.2 (by omega)
/-- A text of a number's form: its digits' worth. -/
def worthN (l : List UInt8) : Nat := nv (l.drop (from_ l)) 0
theorem parse_form {l : List UInt8} (h : formB l = true) : Lib.parseIntB 64 l = if from_ l = 1 then (if worthN l ≤ 9223372036854775808 then .ok (-(worthN l : Int)) else .range) else (if worthN l < 9223372036854775808 then .ok (worthN l : Int) else .range) := by
  rw [form_eq, Bool.and_eq_true, Bool.and_eq_true] at h
  obtain ⟨⟨h1, h2⟩, h3⟩ := h
  have h1 : ¬ l.length ≤ from_ l := by simpa using h1
  have hne : l.drop (from_ l) ≠ [] := fun e => h1 (List.drop_eq_nil_iff.1 e)
  cases l with
  | nil => simp at h1
  | cons c r =>
    have hp := pu_digits ((c :: r).drop (from_ (c :: r))) 0 h3 (by omega)
    unfold Lib.parseIntB worthN
    by_cases hc : c = 45
    · subst hc
      have hf : from_ ((45 : UInt8) :: r) = 1 := rfl
      rw [hf] at hp hne ⊢
      simp only [List.drop_succ_cons, List.drop_zero] at hp hne ⊢
      have e1 : (if (45 : UInt8).toNat = 43 ∨ (45 : UInt8).toNat = 45 then r else (45 : UInt8) :: r) = r := rfl
      simp only [e1]
      unfold Lib.parseUintB
      rw [if_neg hne]
      rw [show 2 ^ 64 - 1 = 18446744073709551615 from rfl, hp]
      by_cases hv : nv r 0 ≤ 18446744073709551615
      · rw [if_pos hv]
        dsimp only
        have e2 : ¬ (¬ (45 : UInt8).toNat = 45 ∧ 2 ^ (64 - 1) ≤ nv r 0) := fun h => h.1 rfl
        rw [if_neg e2]
        by_cases h9 : nv r 0 ≤ 9223372036854775808
        · have e3 : ¬ ((45 : UInt8).toNat = 45 ∧ 2 ^ (64 - 1) < nv r 0) := fun h => by
            have h2 : 9223372036854775808 < nv r 0 := h.2
            omega
          rw [if_neg e3]
          simp only [if_true, h9]
          rfl
        · have e3 : (45 : UInt8).toNat = 45 ∧ 2 ^ (64 - 1) < nv r 0 := ⟨rfl, by show 9223372036854775808 < nv r 0; omega⟩
          rw [if_pos e3]
          simp only [if_true, h9, if_false]
      · have h9 : ¬ nv r 0 ≤ 9223372036854775808 := by omega
        rw [if_neg hv]
        simp only [if_true, h9, if_false]
    · have hf : from_ (c :: r) = 0 := by simp [from_, byteAt, hc]
      rw [hf] at hp hne h3 ⊢
      simp only [List.drop_zero] at hp hne h3 ⊢
      have hd : 48 ≤ c.toNat ∧ c.toNat ≤ 57 := by
        rw [List.all_cons, Bool.and_eq_true] at h3
        simpa [isD] using h3.1
      have e1 : (if c.toNat = 43 ∨ c.toNat = 45 then r else c :: r) = c :: r := if_neg (by omega)
      simp only [e1]
      unfold Lib.parseUintB
      rw [if_neg (by simp)]
      rw [show 2 ^ 64 - 1 = 18446744073709551615 from rfl, hp]
      have hn : ¬ c.toNat = 45 := by omega
      by_cases hv : nv (c :: r) 0 ≤ 18446744073709551615
      · rw [if_pos hv]
        dsimp only
        rw [if_neg (show ¬ (0 : Nat) = 1 by omega)]
        by_cases h9 : nv (c :: r) 0 < 9223372036854775808
        · rw [if_neg (by simp; omega), if_neg (by simp [hn]), if_neg hn, if_pos h9]
        · rw [if_pos (by simp [hn]; omega), if_neg h9]
      · rw [if_neg hv, if_neg (show ¬ (0 : Nat) = 1 by omega), if_neg (by omega)]
theorem no_syntax {l : List UInt8} (h : formB l = true) : Lib.parseIntB 64 l ≠ Lib.NumEnd.syntax := by
  rw [parse_form h]
  split <;> split <;> simp
end Go.Proofs.YtecjpdcoghfmiaaGreatDoor.Nu
