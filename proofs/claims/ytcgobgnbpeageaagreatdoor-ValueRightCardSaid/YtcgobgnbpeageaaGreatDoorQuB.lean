
/- Chapter 2: the program's Quote. -/
import Derived.Test.YtcgobgnbpeageaaGreatDoorQuA
import Derived.Test.YtcgobgnbpeageaaGreatDoorBd1
set_option linter.all false
namespace Go.Proofs.YtcgobgnbpeageaaGreatDoor.Qu
open Go Go.Ab Go.Proofs.YtcgobgnbpeageaaGreatDoor.Bd
attribute [local irreducible] APure Sto.set Sto.grow
set_option maxRecDepth 10000
variable {Γ : Nat → AV}

/-- The first place of a byte, or -1. -/
def idxOf : List UInt8 → Int → Int
  | [], _ => -1
  | b :: l, n => if n = b.toNat then 0 else if idxOf l n = -1 then -1 else idxOf l n + 1
theorem idxOf_ge : ∀ (l : List UInt8) (n : Int), -1 ≤ idxOf l n ∧ idxOf l n < l.length
  | [], n => by simp [idxOf]
  | b :: l, n => by have := idxOf_ge l n; simp only [idxOf, List.length_cons]; split <;> (try split) <;> omega
def addIdx (i : Nat) (k : Int) : Int := if k = -1 then -1 else i + k

theorem index_ok (t : Nat) (l : List UInt8) (n : Int) (hl : l.length ≤ 140737488355328) : APure Tryz.prog Γ 71 [.slice t (bytesA l), .int .u8 n] fun v => v = .int .i64 (idxOf l n) := by
  have hbl : (bytesA l).length = l.length := bytesA_len l
  refine APure.of_awp Tryz.func71 rfl (Nat.le_of_ble_eq_true (by kernel_rfl)) (by kernel_rfl) ?_
  intro s
  conv => whnf
  refine AWp.loopA [8] [9, 10, 5, 11, 12, 13, 14, 15, 16, 17, 4, 18] (fun i : Nat => [.int .i64 i]) (fun i s' => i ≤ l.length ∧ s' = s ∧ idxOf l n = addIdx i (idxOf (l.drop i) n)) (fun i => l.length - i) (0) (by kernel_rfl) (by (repeat' (first | refine cons_eq ?_ ?_ | refine int64_of ?_ ?_ ?_ | rfl | omega))) ?_ ?_
  · exact ⟨by omega, rfl, by simp [addIdx]⟩
  · rintro x i _ ⟨hi, rfl, hp⟩
    conv => whnf
    repeat' (first
      | (refine ⟨Sub.refl _, ?_⟩)
      | (refine brA_split (fun h => ?_) (fun h => ?_) <;> (try rw [h]) <;> (try simp only [Bool.false_eq_true, Bool.true_eq_false, ↓reduceIte, decide_eq_true_eq, decide_eq_false_iff_not, Bool.not_eq_true', Bool.not_eq_false'] at h) <;> (conv => whnf))
      | (rw [bytesA_get (by omega)]; conv => whnf)
      | (refine getB_same ?_; conv => whnf)
      | (refine AWp.any (by kernel_rfl) (by kernel_rfl) (by kernel_rfl) ?_; conv => whnf)
      | (apply And.intro; (focus (first | omega | rfl | decide | exact Nat.le_of_ble_eq_true rfl | ((repeat' (first | exact all_nil | refine all_cons ?_ ?_ | rfl | fail)); done) | (simp [-List.length_flatMap]; done) | (simp [-List.length_flatMap]; omega) | fail)); conv => whnf)
      | fail)
    · rw [hp, drop_byte (by omega), idxOf, if_pos (by simp at h; exact h)]
      simp [tupA, addIdx]
    · refine ⟨i + 1, by (repeat' (first | refine cons_eq ?_ ?_ | refine int64_of ?_ ?_ ?_ | rfl | omega)), by (repeat (first | exact Same.refl _ _ | refine Same.upd rfl ?_ | refine Same.updL rfl ?_ | refine Same.havoc rfl ?_)), ⟨by omega, rfl, ?_⟩, by omega⟩
      rw [hp, drop_byte (i := i) (by omega), idxOf, if_neg (by simp at h; exact h)]
      have := idxOf_ge (l.drop (i + 1)) n
      grind [addIdx]
    · rw [hp, drop_end (by omega)]
      simp [tupA, addIdx, idxOf]

def marks : List UInt8 := [34, 92, 10, 13, 9]
def letters : List UInt8 := [34, 92, 110, 114, 116]
/-- What the package's two tables hold. -/
structure Tabs (Γ : Nat → AV) : Prop where
  marks : Γ 1 = .cptr [.int .u8 34, .int .u8 92, .int .u8 10, .int .u8 13, .int .u8 9]
  letters : Γ 2 = .cptr [.int .u8 34, .int .u8 92, .int .u8 110, .int .u8 114, .int .u8 116]

theorem hi_of : ∀ m : Nat, m < 256 → (m : Int).fdiv (2 ^ min (Int.toNat 4) IntKind.u8.bits) = ((m / 16 : Nat) : Int) := by decide +kernel
theorem lo_of : ∀ m : Nat, m < 256 → IntKind.u8.wrap ((BitVec.ofInt IntKind.u8.bits (m : Int) &&& BitVec.ofInt IntKind.u8.bits 15).toNat : Nat) = ((m % 16 : Nat) : Int) := by decide +kernel
theorem digit_back : ∀ m : Nat, m < 16 → UInt8.ofNat (Int.toNat ((byteAt digits m).toNat : Nat)) = byteAt digits m := by decide +kernel
theorem one_else : ∀ m : Nat, m < 256 → shown (m : Int) = false → ¬ 0 ≤ idxOf marks (m : Int) → one (m : Int) = [92, 120, byteAt digits (m / 16), byteAt digits (m % 16)] := by decide +kernel
theorem progOne_ok (hT : Tabs Γ) (n : Int) (h0 : 0 ≤ n) (h1 : n < 256) : APure Tryz.prog Γ 48 [.int .u8 n] fun v => v = .str (one n) := by
  obtain ⟨m, rfl⟩ : ∃ m : Nat, n = m := ⟨n.toNat, by omega⟩
  have hm : m < 256 := by omega
  refine APure.of_awp Tryz.func48 rfl (Nat.le_of_ble_eq_true (by kernel_rfl)) (by kernel_rfl) ?_
  intro s
  conv => whnf
  repeat' (first
    | (refine ⟨Sub.refl _, ?_⟩)
    | (refine brA_split (fun h => ?_) (fun h => ?_) <;> (try rw [h]) <;> (try simp only [Bool.false_eq_true, Bool.true_eq_false, ↓reduceIte, decide_eq_true_eq, decide_eq_false_iff_not, Bool.not_eq_true', Bool.not_eq_false'] at h) <;> (conv => whnf))
    | (refine ACalls.pure' ?_ (shown_ok _); rintro _ rfl; conv => whnf)
    | (refine DCall.pure ?_ (shown_ok _); conv => whnf)
    | (refine ACalls.pure' ?_ (index_ok 0 marks _ (by decide)); rintro _ rfl; conv => whnf)
    | (refine DCall.pure ?_ (index_ok 0 marks _ (by decide)); conv => whnf)
    | (rw [evA_glob, hT.marks]; conv => whnf)
    | (rw [evA_glob, hT.letters]; conv => whnf)
    | (refine getB_same ?_; conv => whnf)
    | (refine AWp.any (by kernel_rfl) (by kernel_rfl) (by kernel_rfl) ?_; conv => whnf)
    | (apply And.intro; (focus (first | omega | rfl | decide | exact Nat.le_of_ble_eq_true rfl | ((repeat' (first | exact all_nil | refine all_cons ?_ ?_ | rfl | fail)); done) | (simp [-List.length_flatMap]; done) | (simp [-List.length_flatMap]; omega) | fail)); conv => whnf)
    | fail)
  · grind [tupA, one, shown]
  · have hm5 : m = 34 ∨ m = 92 ∨ m = 10 ∨ m = 13 ∨ m = 9 := by grind [idxOf, marks]
    rcases hm5 with rfl | rfl | rfl | rfl | rfl
    all_goals repeat' (first
      | (refine ⟨Sub.refl _, ?_⟩)
      | (refine brA_split (fun h => ?_) (fun h => ?_) <;> (try rw [h]) <;> (try simp only [Bool.false_eq_true, Bool.true_eq_false, ↓reduceIte, decide_eq_true_eq, decide_eq_false_iff_not, Bool.not_eq_true', Bool.not_eq_false'] at h) <;> (conv => whnf))
      | (refine getB_same ?_; conv => whnf)
      | (refine AWp.any (by kernel_rfl) (by kernel_rfl) (by kernel_rfl) ?_; conv => whnf)
      | (apply And.intro; (focus (first | omega | rfl | decide | exact Nat.le_of_ble_eq_true rfl | ((repeat' (first | exact all_nil | refine all_cons ?_ ?_ | rfl | fail)); done) | (simp [-List.length_flatMap]; done) | (simp [-List.length_flatMap]; omega) | fail)); conv => whnf)
      | fail)
    all_goals rfl
  rw [hi_of m hm]
  repeat' (first
    | (refine ⟨Sub.refl _, ?_⟩)
    | (refine brA_split (fun h => ?_) (fun h => ?_) <;> (try rw [h]) <;> (try simp only [Bool.false_eq_true, Bool.true_eq_false, ↓reduceIte, decide_eq_true_eq, decide_eq_false_iff_not, Bool.not_eq_true', Bool.not_eq_false'] at h) <;> (conv => whnf))
    | (rw [lo_of m hm]; conv => whnf)
    | (refine getB_same ?_; conv => whnf)
    | (refine AWp.any (by kernel_rfl) (by kernel_rfl) (by kernel_rfl) ?_; conv => whnf)
    | (apply And.intro; (focus (first | omega | rfl | decide | exact Nat.le_of_ble_eq_true rfl | ((repeat' (first | exact all_nil | refine all_cons ?_ ?_ | rfl | fail)); done) | (simp [-List.length_flatMap]; done) | (simp [-List.length_flatMap]; omega) | fail)); conv => whnf)
    | fail)
  intro b hb
  conv => whnf
  repeat' (first
    | (refine ⟨Sub.refl _, ?_⟩)
    | (refine brA_split (fun h => ?_) (fun h => ?_) <;> (try rw [h]) <;> (try simp only [Bool.false_eq_true, Bool.true_eq_false, ↓reduceIte, decide_eq_true_eq, decide_eq_false_iff_not, Bool.not_eq_true', Bool.not_eq_false'] at h) <;> (conv => whnf))
    | (refine getB_same ?_; conv => whnf)
    | (refine AWp.any (by kernel_rfl) (by kernel_rfl) (by kernel_rfl) ?_; conv => whnf)
    | (apply And.intro; (focus (first | omega | rfl | decide | exact Nat.le_of_ble_eq_true rfl | ((repeat' (first | exact all_nil | refine all_cons ?_ ?_ | rfl | fail)); done) | (simp [-List.length_flatMap]; done) | (simp [-List.length_flatMap]; omega) | fail)); conv => whnf)
    | fail)
  refine ⟨((Sub.refl _).set hb _ _).set hb _ _, ?_⟩
  rename_i hs
  rw [one_else m hm hs h, ← digit_back (m / 16) (by omega), ← digit_back (m % 16) (by omega)]
  rfl

/-- The program's Quote. -/
theorem progQuote_ok (hT : Tabs Γ) (l : List UInt8) (hl : l.length ≤ 4398046511104) : APure Tryz.prog Γ 30 [.str l] fun v => v = .str (quote l) := by
  have hlen : ∀ i, ((l.take i).flatMap fun c => one c.toNat).length ≤ 4 * l.length := fun i => by
    have := flatMap_len (fun c : UInt8 => one c.toNat) 4 (fun c => one_len _) (l.take i)
    simp only [List.length_take] at this
    omega
  refine APure.of_awp Tryz.func30 rfl (Nat.le_of_ble_eq_true (by kernel_rfl)) (by kernel_rfl) ?_
  intro s
  conv => whnf
  intro b hb
  conv => whnf
  refine ACalls.by (WriteByte_ok 34 34 rfl (Bld.start hb) (by simp)) ?_
  rintro _ s1 ⟨rfl, hB⟩
  conv => whnf
  refine AWp.loopA [8] [9, 10, 4, 11, 12, 13, 14, 15, 16] (fun i : Nat => [.int .i64 i]) (fun i s' => i ≤ l.length ∧ Bld s s' b (34 :: (l.take i).flatMap fun c => one c.toNat)) (fun i => l.length - i) (0) (by kernel_rfl) (by (repeat' (first | refine cons_eq ?_ ?_ | refine int64_of ?_ ?_ ?_ | rfl | omega))) ?_ ?_
  · exact ⟨by omega, hB⟩
  · rintro x i s' ⟨hi, hB'⟩
    have h1 := hlen i
    have h2 := one_len (byteAt l i).toNat
    have h3 := u8_lt (byteAt l i)
    conv => whnf
    repeat' (first
      | (refine ⟨Sub.refl _, ?_⟩)
      | (refine brA_split (fun h => ?_) (fun h => ?_) <;> (try rw [h]) <;> (try simp only [Bool.false_eq_true, Bool.true_eq_false, ↓reduceIte, decide_eq_true_eq, decide_eq_false_iff_not, Bool.not_eq_true', Bool.not_eq_false'] at h) <;> (conv => whnf))
      | (refine ACalls.pure' ?_ (progOne_ok hT _ ?_ ?_); rintro _ rfl; conv => whnf)
      | (refine DCall.pure ?_ (progOne_ok hT _ ?_ ?_); conv => whnf)
      | (refine getB_same ?_; conv => whnf)
      | (refine AWp.any (by kernel_rfl) (by kernel_rfl) (by kernel_rfl) ?_; conv => whnf)
      | (apply And.intro; (focus (first | omega | rfl | decide | exact Nat.le_of_ble_eq_true rfl | ((repeat' (first | exact all_nil | refine all_cons ?_ ?_ | rfl | fail)); done) | (simp [-List.length_flatMap]; done) | (simp [-List.length_flatMap]; omega) | fail)); conv => whnf)
      | fail)
    · refine ACalls.by (WriteString_ok _ hB' (by simp [-List.length_flatMap]; omega)) ?_
      rintro _ s2 ⟨rfl, hB2⟩
      conv => whnf
      refine ⟨i + 1, by (repeat' (first | refine cons_eq ?_ ?_ | refine int64_of ?_ ?_ ?_ | rfl | omega)), by (repeat (first | exact Same.refl _ _ | refine Same.upd rfl ?_ | refine Same.updL rfl ?_ | refine Same.havoc rfl ?_)), ⟨by omega, ?_⟩, by omega⟩
      rw [take_byte (by omega)]
      simpa using hB2
    · omega
    · simp; omega
    · have ht : l.take i = l := List.take_of_length_le (by omega)
      rw [ht] at hB' h1
      refine ACalls.by (WriteByte_ok 34 34 rfl hB' (by simp [-List.length_flatMap]; omega)) ?_
      rintro _ s2 ⟨rfl, hB2⟩
      conv => whnf
      refine ACalls.by (String_ok hB2 (by simp) (by simp [-List.length_flatMap]; omega)) ?_
      rintro _ s3 ⟨rfl, hs⟩
      conv => whnf
      exact ⟨hs, rfl⟩
end Go.Proofs.YtcgobgnbpeageaaGreatDoor.Qu
