/- Chapter 3: values as data, and their order. -/
import Derived.Test.YtcgobgnbpeageaaGreatDoorAb25
import Derived.Test.YtcgobgnbpeageaaGreatDoorChecked
set_option linter.all false
namespace Go.Proofs.YtcgobgnbpeageaaGreatDoor.Va
open Go Go.Ab Go.RowKit

abbrev Vl := Int × Int × List UInt8 × Bool
def vlA (v : Vl) : List AV := [.int .i64 v.1, .int .i64 v.2.1, .str v.2.2.1, .bool v.2.2.2]
def noVl : Vl := (0, 0, [], false)
def right (v : Vl) : Bool :=
  if v.1 = 1 then decide (v.2.2.1 = []) && !v.2.2.2
  else if v.1 = 2 then decide (v.2.1 = 0) && !v.2.2.2 && decide (v.2.2.1.length ≤ 4096)
  else decide (v.1 = 3) && decide (v.2.1 = 0) && decide (v.2.2.1 = [])
def less (a b : Vl) : Bool :=
  if a.1 ≠ b.1 then decide (a.1 < b.1)
  else if a.1 = 1 then decide (a.2.1 < b.2.1)
  else if a.1 = 2 then Op.bytesLess a.2.2.1 b.2.2.1
  else !a.2.2.2 && b.2.2.2

theorem bl_asymm : ∀ a b : List UInt8, Op.bytesLess a b = true → Op.bytesLess b a = false
  | _, [] => fun h => by simp [Op.bytesLess] at h
  | [], _ :: _ => fun _ => by simp [Op.bytesLess]
  | a :: x, b :: y => fun h => by
    simp only [Op.bytesLess, Bool.or_eq_true, decide_eq_true_eq, Bool.and_eq_true, beq_iff_eq, Bool.or_eq_false_iff, decide_eq_false_iff_not, Bool.and_eq_false_iff] at h ⊢
    rw [UInt8.lt_iff_toNat_lt] at h ⊢
    rcases h with h | ⟨rfl, h⟩
    · refine ⟨by omega, .inl ?_⟩
      rw [beq_eq_false_iff_ne]
      rintro rfl
      omega
    · exact ⟨by omega, .inr (bl_asymm x y h)⟩
theorem bl_total : ∀ a b : List UInt8, Op.bytesLess a b = false → Op.bytesLess b a = false → a = b
  | [], [] => fun _ _ => rfl
  | a :: x, [] => fun _ h => by simp [Op.bytesLess] at h
  | [], b :: y => fun h _ => by simp [Op.bytesLess] at h
  | a :: x, b :: y => fun h k => by
    simp only [Op.bytesLess, Bool.or_eq_false_iff, decide_eq_false_iff_not, Bool.and_eq_false_iff, beq_eq_false_iff_ne] at h k
    rw [UInt8.lt_iff_toNat_lt] at h k
    have e : a = b := UInt8.toNat_inj.1 (by omega)
    subst e
    rw [bl_total x y (h.2.resolve_left (fun g => g rfl)) (k.2.resolve_left (fun g => g rfl))]
theorem bl_trans : ∀ a b c : List UInt8, Op.bytesLess a b = true → Op.bytesLess b c = true → Op.bytesLess a c = true
  | _, _, [] => fun _ h => by simp [Op.bytesLess] at h
  | _, [], _ :: _ => fun h _ => by simp [Op.bytesLess] at h
  | [], _ :: _, _ :: _ => fun _ _ => by simp [Op.bytesLess]
  | a :: x, b :: y, c :: z => fun h k => by
    simp only [Op.bytesLess, Bool.or_eq_true, decide_eq_true_eq, Bool.and_eq_true, beq_iff_eq] at h k ⊢
    rw [UInt8.lt_iff_toNat_lt] at h k ⊢
    rcases h with h | ⟨rfl, h⟩
    · rcases k with k | ⟨rfl, k⟩
      · exact .inl (by omega)
      · exact .inl h
    · rcases k with k | ⟨rfl, k⟩
      · exact .inl k
      · exact .inr ⟨rfl, bl_trans x y z h k⟩

theorem less_asymm {a b : Vl} (h : less a b = true) : less b a = false := by
  unfold less at h ⊢
  by_cases e : a.1 = b.1
  · rw [if_neg (by simp [e])] at h ⊢
    rw [e] at h
    by_cases e1 : b.1 = 1
    · rw [if_pos e1] at h ⊢
      simp at h ⊢; omega
    · rw [if_neg e1] at h ⊢
      by_cases e2 : b.1 = 2
      · rw [if_pos e2] at h ⊢
        exact bl_asymm _ _ h
      · rw [if_neg e2] at h ⊢
        simp at h ⊢; simp [h]
  · rw [if_pos (by simpa using e)] at h
    rw [if_pos (by simpa using fun g => e g.symm)]
    simp at h ⊢; omega
theorem less_total {a b : Vl} (ha : right a = true) (hb : right b = true) (h : less a b = false) (k : less b a = false) : a = b := by
  obtain ⟨k1, n1, s1, b1⟩ := a
  obtain ⟨k2, n2, s2, b2⟩ := b
  unfold less at h k
  unfold right at ha hb
  simp only at ha hb h k
  by_cases e : k1 = k2
  · subst e
    rw [if_neg (by simp)] at h k
    by_cases e1 : k1 = 1
    · subst e1
      simp at h k ha hb
      obtain ⟨rfl, rfl⟩ := ha
      obtain ⟨rfl, rfl⟩ := hb
      obtain rfl : n1 = n2 := by omega
      rfl
    · rw [if_neg e1] at h k ha hb
      by_cases e2 : k1 = 2
      · subst e2
        rw [if_pos rfl] at h k ha hb
        have := bl_total _ _ h k
        simp at ha hb
        simp [this, ha, hb]
      · rw [if_neg e2] at h k ha hb
        simp at h k ha hb
        simp only [ha, hb, Prod.mk.injEq, true_and]
        cases b1 <;> cases b2 <;> simp_all
  · rw [if_pos (by simpa using e)] at h
    rw [if_pos (by simpa using fun g => e g.symm)] at k
    simp at h k; omega
theorem less_trans {a b c : Vl} (h : less a b = true) (k : less b c = true) : less a c = true := by
  unfold less at h k ⊢
  by_cases e : a.1 = b.1
  · rw [if_neg (by simp [e])] at h
    rw [e] at h ⊢
    by_cases e' : b.1 = c.1
    · rw [if_neg (by simp [e'])] at k ⊢
      by_cases e1 : b.1 = 1
      · rw [if_pos e1] at h k ⊢
        simp at h k ⊢; omega
      · rw [if_neg e1] at h k ⊢
        by_cases e2 : b.1 = 2
        · rw [if_pos e2] at h k ⊢
          exact bl_trans _ _ _ h k
        · rw [if_neg e2] at h k ⊢
          simp at h k ⊢; simp [h, k]
    · rw [if_pos (by simpa using e')] at k ⊢
      exact k
  · rw [if_pos (by simpa using e)] at h
    simp at h
    by_cases e' : b.1 = c.1
    · rw [if_pos (by simpa [← e'] using e)]
      rw [← e']
      simpa using h
    · rw [if_pos (by simpa using e')] at k
      simp at k
      rw [if_pos (by simp; omega)]
      simp; omega
theorem less_self (a : Vl) : less a a = false := by
  cases h : less a a
  · rfl
  · have := less_asymm h
    rw [h] at this
    cases this

theorem bl_step {a b : List UInt8} {i : Nat} (ha : i < a.length) (hb : i < b.length) :
    Op.bytesLess (a.drop i) (b.drop i) = (decide ((byteAt a i).toNat < (byteAt b i).toNat) || (decide ((byteAt a i).toNat = (byteAt b i).toNat) && Op.bytesLess (a.drop (i + 1)) (b.drop (i + 1)))) := by
  rw [List.drop_eq_getElem_cons ha, List.drop_eq_getElem_cons hb]
  simp only [Op.bytesLess, byteAt, List.getD, List.getElem?_eq_getElem ha, List.getElem?_eq_getElem hb, Option.getD_some]
  rw [Bool.eq_iff_iff]
  simp only [Bool.or_eq_true, decide_eq_true_eq, Bool.and_eq_true, beq_iff_eq, UInt8.lt_iff_toNat_lt, UInt8.toNat_inj]
theorem bl_end {a b : List UInt8} {i : Nat} (h : ¬ (i < a.length ∧ i < b.length)) (ha : i ≤ a.length) (hb : i ≤ b.length) : Op.bytesLess (a.drop i) (b.drop i) = decide (a.length < b.length) := by
  by_cases e : i < b.length
  · have : i = a.length := by omega
    rw [List.drop_of_length_le (by omega : a.length ≤ i), List.drop_eq_getElem_cons e]
    simp [Op.bytesLess]; omega
  · rw [List.drop_of_length_le (by omega : b.length ≤ i)]
    have : Op.bytesLess (a.drop i) [] = false := by cases a.drop i <;> rfl
    rw [this]
    exact (decide_eq_false (by omega)).symm

theorem bool_eq {a b : Bool} (h : a = b) : AV.bool a = .bool b := by rw [h]
theorem map_get {α : Type} {f : α → List AV} {l : List α} (d : α) {i : Nat} (h : i < l.length) : (l.map f).getD i [] = f (l.getD i d) := by
  simp [List.getD, h]
theorem getD_mem {α : Type} {l : List α} (d : α) {i : Nat} (h : i < l.length) : l.getD i d ∈ l := by
  simp [List.getD, h]
theorem eq_vl (x y : Vl) : (decide (x.1 = y.1) && (decide (x.2.1 = y.2.1) && (decide (x.2.2.1 = y.2.2.1) && ((x.2.2.2 == y.2.2.2) && true)))) = decide (x = y) := by
  rw [Bool.eq_iff_iff]; simp [Prod.ext_iff]
end Go.Proofs.YtcgobgnbpeageaaGreatDoor.Va
