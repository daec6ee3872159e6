
/- Chapter 1: a number's text is parsed as that, and what is parsed is its number's text. -/
import Derived.Test.YtcgobgnbpeageaaDoorNuT
import Derived.Lib.ItoaMem
set_option linter.all false
namespace Go.Proofs.YtcgobgnbpeageaaDoor.Nu
open Go Go.Ab Go.RowKit

theorem nv_append : ∀ (x y : List UInt8) (a : Nat), nv (x ++ y) a = nv y (nv x a)
  | [], y, a => rfl
  | c :: r, y, a => nv_append r y _
theorem byte48 {u : Nat} (h : u < 10) : (UInt8.ofNat (48 + u)).toNat = 48 + u := by
  rw [UInt8.toNat_ofNat']; omega
theorem dec_facts : ∀ (k u : Nat), u < k → Lib.decDigits u ≠ [] ∧ (Lib.decDigits u).all isD = true ∧ nv (Lib.decDigits u) 0 = u ∧ ((byteAt (Lib.decDigits u) 0).toNat = 48 → u = 0)
  | 0, u => fun h => by omega
  | k + 1, u => fun h => by
    by_cases hu : u < 10
    · have e : Lib.decDigits u = [UInt8.ofNat (48 + u)] := by rw [Lib.decDigits, dif_pos hu]
      rw [e]
      refine ⟨by simp, ?_, ?_, ?_⟩
      · simp [isD, byte48 hu]; omega
      · show 0 * 10 + ((UInt8.ofNat (48 + u)).toNat - 48) = u
        rw [byte48 hu]; omega
      · show (UInt8.ofNat (48 + u)).toNat = 48 → u = 0
        rw [byte48 hu]; omega
    · obtain ⟨h1, h2, h3, h4⟩ := dec_facts k (u / 10) (by omega)
      have e : Lib.decDigits u = Lib.decDigits (u / 10) ++ [UInt8.ofNat (48 + u % 10)] := by rw [Lib.decDigits, dif_neg hu]
      have h10 : u % 10 < 10 := Nat.mod_lt _ (by omega)
      rw [e]
      refine ⟨by simp, ?_, ?_, ?_⟩
      · rw [List.all_append, h2]
        simp [isD, byte48 h10]; omega
      · rw [nv_append, h3]
        show u / 10 * 10 + ((UInt8.ofNat (48 + u % 10)).toNat - 48) = u
        rw [byte48 h10]; omega
      · have : byteAt (Lib.decDigits (u / 10) ++ [UInt8.ofNat (48 + u % 10)]) 0 = byteAt (Lib.decDigits (u / 10)) 0 := by
          unfold byteAt List.getD
          rw [List.getElem?_append_left (List.length_pos_iff.2 h1)]
        rw [this]
        intro h5
        have := h4 h5
        omega
theorem dec_unique : ∀ (k : Nat) (d : List UInt8), d.length ≤ k → d ≠ [] → d.all isD = true → ((byteAt d 0).toNat = 48 → d.length = 1) → Lib.decDigits (nv d 0) = d ∧ ((byteAt d 0).toNat ≠ 48 → 1 ≤ nv d 0)
  | 0, d => fun h h1 => absurd (List.eq_nil_of_length_eq_zero (by omega)) h1
  | k + 1, d => fun h h1 h2 h3 => by
    have hl : d.dropLast ++ [d.getLast h1] = d := List.dropLast_concat_getLast h1
    generalize d.getLast h1 = c at hl
    generalize d.dropLast = r at hl
    subst hl
    rw [List.all_append, Bool.and_eq_true] at h2
    have hc : 48 ≤ c.toNat ∧ c.toNat ≤ 57 := by simpa [isD] using h2.2
    have hcc : UInt8.ofNat c.toNat = c := UInt8.ofNat_toNat
    rw [nv_append]
    have hn : nv [c] (nv r 0) = nv r 0 * 10 + (c.toNat - 48) := rfl
    rw [hn]
    by_cases hr : r = []
    · subst hr
      have e0 : nv [] 0 = 0 := rfl
      rw [e0]
      have e1 : Lib.decDigits (0 * 10 + (c.toNat - 48)) = [UInt8.ofNat (48 + (0 * 10 + (c.toNat - 48)))] := by rw [Lib.decDigits, dif_pos (by omega)]
      rw [e1, show 48 + (0 * 10 + (c.toNat - 48)) = c.toNat by omega, hcc]
      refine ⟨rfl, fun h9 => ?_⟩
      have : c.toNat ≠ 48 := h9
      omega
    · have hb : byteAt (r ++ [c]) 0 = byteAt r 0 := by
        unfold byteAt List.getD
        rw [List.getElem?_append_left (List.length_pos_iff.2 hr)]
      rw [hb] at h3 ⊢
      have hrl := List.length_pos_iff.2 hr
      have hne : (byteAt r 0).toNat ≠ 48 := fun h9 => by
        have := h3 h9
        rw [List.length_append, List.length_singleton] at this
        omega
      rw [List.length_append, List.length_singleton] at h
      obtain ⟨i1, i2⟩ := dec_unique k r (by omega) hr h2.1 (fun h9 => absurd h9 hne)
      have i2 := i2 hne
      have e1 : Lib.decDigits (nv r 0 * 10 + (c.toNat - 48)) = Lib.decDigits ((nv r 0 * 10 + (c.toNat - 48)) / 10) ++ [UInt8.ofNat (48 + (nv r 0 * 10 + (c.toNat - 48)) % 10)] := by rw [Lib.decDigits, dif_neg (by omega)]
      rw [e1, show (nv r 0 * 10 + (c.toNat - 48)) / 10 = nv r 0 by omega, show 48 + (nv r 0 * 10 + (c.toNat - 48)) % 10 = c.toNat by omega, hcc, i1]
      exact ⟨rfl, fun _ => by omega⟩
/-- What is parsed is its number's text. -/
theorem itoa_parse {l : List UInt8} (h : formB l = true) (he : numE l = 0) : Lib.itoa (numN l) = l := by
  have hf := h
  rw [form_eq, Bool.and_eq_true, Bool.and_eq_true] at hf
  obtain ⟨⟨h1, h2⟩, h3⟩ := hf
  have hlong := form_long h
  obtain ⟨e1, e2⟩ := num_form h
  have hb : byteAt (l.drop (from_ l)) 0 = byteAt l (from_ l) := by simp [byteAt, List.getD]
  have h48 : (byteAt (l.drop (from_ l)) 0).toNat = 48 → l.length ≤ 1 := fun h9 => by
    rw [hb] at h9
    refine Classical.byContradiction fun h8 => ?_
    rw [decide_eq_true h9, decide_eq_true (by omega : 1 < l.length)] at h2
    cases h2
  obtain ⟨u1, u2⟩ := dec_unique l.length (l.drop (from_ l)) (by rw [List.length_drop]; omega) (fun e => by have := List.drop_eq_nil_iff.1 e; omega) h3 (fun h9 => by have := h48 h9; rw [List.length_drop]; omega)
  by_cases hm : from_ l = 1
  · rw [if_pos hm] at e1 e2
    by_cases hw : worthN l ≤ 9223372036854775808
    · rw [if_pos hw] at e1
      rw [e1]
      have h9 : 1 ≤ worthN l := u2 (fun h9 => by have := h48 h9; omega)
      rw [Lib.itoa_neg _ h9]
      have e45 : byteAt l 0 = 45 := by
        unfold from_ at hm
        refine Classical.byContradiction fun h8 => ?_
        rw [if_neg h8] at hm
        cases hm
      have hl0 : l = 45 :: l.drop 1 := by
        cases l with
        | nil => simp at hlong
        | cons c r =>
          have : c = 45 := e45
          rw [this]; rfl
      unfold worthN
      rw [u1, hm]
      exact hl0.symm
    · rw [if_neg hw] at e2
      rw [e2] at he
      cases he
  · rw [if_neg hm] at e1 e2
    by_cases hw : worthN l < 9223372036854775808
    · rw [if_pos hw] at e1
      rw [e1, Lib.itoa_nonneg]
      unfold worthN
      rw [u1]
      have : from_ l = 0 := by unfold from_ at hm ⊢; split <;> simp_all
      rw [this]; rfl
    · rw [if_neg hw] at e2
      rw [e2] at he
      cases he
/-- A number's text is parsed as that. -/
theorem parse_itoa (n : Int) (hn : Fits n) : formB (Lib.itoa n) = true ∧ numN (Lib.itoa n) = n ∧ numE (Lib.itoa n) = 0 := by
  unfold Fits at hn
  by_cases hneg : n < 0
  · have hu : n = -(n.natAbs : Int) := by omega
    generalize hua : n.natAbs = u at hu
    subst hu
    rw [Lib.itoa_neg u (by omega)]
    obtain ⟨d1, d2, d3, d4⟩ := dec_facts (u + 1) u (by omega)
    generalize Lib.decDigits u = d at *
    have hfr : from_ ((45 : UInt8) :: d) = 1 := rfl
    have hd : ((45 : UInt8) :: d).drop 1 = d := rfl
    have hform : formB (45 :: d) = true := by
      rw [form_eq, hfr, hd, d2]
      have hb : byteAt ((45 : UInt8) :: d) 1 = byteAt d 0 := rfl
      rw [hb]
      have h48 : ¬ (byteAt d 0).toNat = 48 := fun h => by have := d4 h; omega
      have := List.length_pos_iff.2 d1
      simp [h48]
      omega
    obtain ⟨e1, e2⟩ := num_form hform
    have hw : worthN (45 :: d) = u := by unfold worthN; rw [hfr, hd, d3]
    rw [hw, hfr, if_pos rfl, if_pos (by omega)] at e1 e2
    exact ⟨hform, e1, e2⟩
  · have hu : n = (n.toNat : Int) := by omega
    generalize hua : n.toNat = u at hu
    subst hu
    rw [Lib.itoa_nonneg]
    obtain ⟨d1, d2, d3, d4⟩ := dec_facts (u + 1) u (by omega)
    have huq := (dec_unique (Lib.decDigits u).length (Lib.decDigits u) (Nat.le_refl _) d1 d2)
    have hlen : u = 0 → (Lib.decDigits u).length = 1 := fun h => by subst h; rw [Lib.decDigits, dif_pos (by omega)]; rfl
    generalize Lib.decDigits u = d at *
    have hl1 := List.length_pos_iff.2 d1
    have hfr : from_ d = 0 := by
      have h9 : isD (byteAt d 0) = true := List.all_eq_true.1 d2 _ (by simp [byteAt, List.getD, hl1])
      unfold from_
      rw [if_neg]
      intro e
      rw [e] at h9
      cases h9
    have hd : d.drop 0 = d := rfl
    have hform : formB d = true := by
      rw [form_eq, hfr, hd, d2]
      by_cases h48 : (byteAt d 0).toNat = 48
      · have := hlen (d4 h48)
        simp [this]
      · simp [h48]
        omega
    obtain ⟨e1, e2⟩ := num_form hform
    have hw : worthN d = u := by unfold worthN; rw [hfr, hd, d3]
    rw [hw, hfr, if_neg (by omega), if_pos (by omega)] at e1 e2
    exact ⟨hform, e1, e2⟩
end Go.Proofs.YtcgobgnbpeageaaDoor.Nu
