
/- Chapter 2: the program's Quote. -/
import Derived.Test.YtnelknhacamboaaDoorQuA
import Derived.Test.YtnelknhacamboaaDoorBd1
set_option linter.all false
namespace Go.Proofs.YtnelknhacamboaaDoor.Qu
open Go Go.Ab Go.Proofs.YtnelknhacamboaaDoor.Bd
attribute [local irreducible] APure Sto.set Sto.grow
set_option maxRecDepth 10000
variable {Γ : Nat → AV}

/-- The first place of a byte, or -1. -/
def idxOf : List UInt8 → Int → Int
  | [], _ => -1
  | b :: l, n => if n = b.toNat then 0 else if idxOf l n = -1 then -1 else idxOf l n + 1
theorem idxOf_ge : ∀ (l : List UInt8) (n : Int), -1 ≤ idxOf l n ∧ idxOf l n < l.length
  | [], n => by simp [idxOf]
  | b :: l, n => by have := idxOf_ge l n; simp only [idxOf, List.length_cons]; split <;> (try split) <;> omega
def addIdx (i : Nat) (k : Int) : Int := if k = -1 then -1 else i + k

theorem index_ok (t : Nat) (l : List UInt8) (n : Int) (hl : l.length ≤ 140737488355328) : APure Tryd.prog Γ 61 [.slice t (bytesA l), .int .u8 n] fun v => v = .int .i64 (idxOf l n) := by
  have hbl : (bytesA l).length = l.length := bytesA_len l
  refine APure.of_awp Tryd.func61 rfl (Nat.le_of_ble_eq_true (by kernel_rfl)) (by kernel_rfl) ?_
  intro s
  conv => whnf
  refine AWp.loopA [8] [9, 10, 5, 11, 12, 13, 14, 15, 16, 17, 4, 18] (fun i : Nat => [.int .i64 i]) (fun i s' => i ≤ l.length ∧ s' = s ∧ idxOf l n = addIdx i (idxOf (l.drop i) n)) (fun i => l.length - i) (0) (by kernel_rfl) (by (repeat' (first | refine cons_eq ?_ ?_ | refine int64_of ?_ ?_ ?_ | rfl | omega))) ?_ ?_
  · exact ⟨by omega, rfl, by simp [addIdx]⟩
  · rintro x i _ ⟨hi, rfl, hp⟩
    conv => whnf
    repeat' (first
      | (refine ⟨Sub.refl _, ?_⟩)
      | (refine brA_split (fun h => ?_) (fun h => ?_) <;> (try rw [h]) <;> (try simp only [Bool.false_eq_true, Bool.true_eq_false, ↓reduceIte, decide_eq_true_eq, decide_eq_false_iff_not, Bool.not_eq_true', Bool.not_eq_false'] at h) <;> (conv => whnf))
      | (rw [bytesA_get (by omega)]; conv => whnf)
      | (refine getB_same ?_; conv => whnf)
      | (refine AWp.any (by kernel_rfl) (by kernel_rfl) (by kernel_rfl) ?_; conv => whnf)
      | (apply And.intro; (focus (first | omega | rfl | decide | exact Nat.le_of_ble_eq_true rfl | ((repeat' (first | exact all_nil | refine all_cons ?_ ?_ | rfl | fail)); done) | (simp [-List.length_flatMap]; done) | (simp [-List.length_flatMap]; omega) | fail)); conv => whnf)
      | fail)
    · rw [hp, drop_byte (by omega), idxOf, if_pos (by simp at h; exact h)]
      simp [tupA, addIdx]
    · refine ⟨i + 1, by (repeat' (first | refine cons_eq ?_ ?_ | refine int64_of ?_ ?_ ?_ | rfl | omega)), by (repeat (first | exact Same.refl _ _ | refine Same.upd rfl ?_ | refine Same.updL rfl ?_ | refine Same.havoc rfl ?_)), ⟨by omega, rfl, ?_⟩, by omega⟩
      rw [hp, drop_byte (i := i) (by omega), idxOf, if_neg (by simp at h; exact h)]
      have := idxOf_ge (l.drop (i + 1)) n
      grind [addIdx]
    · rw [hp, drop_end (by omega)]
      simp [tupA, addIdx, idxOf]

def marks : List UInt8 := [34, 92, 10, 13, 9]
def letters : List UInt8 := [34, 92, 110, 114, 116]
/-- What the package's two tables hold. -/
structure Tabs (Γ : Nat → AV) : Prop where
  marks : Γ 4 = .cptr [.int .u8 34, .int .u8 92, .int .u8 10, .int .u8 13, .int .u8 9]
  letters : Γ 3 = .cptr [.int .u8 34, .int .u8 92, .int .u8 110, .int .u8 114, .int .u8 116]

theorem hi_of : ∀ m : Nat, m < 256 → (m : Int).fdiv (2 ^ min (Int.toNat 4) IntKind.u8.bits) = ((m / 16 : Nat) : Int) := by decide +kernel
theorem lo_of : ∀ m : Nat, m < 256 → IntKind.u8.wrap ((BitVec.ofInt IntKind.u8.bits (m : Int) &&& BitVec.ofInt IntKind.u8.bits 15).toNat : Nat) = ((m % 16 : Nat) : Int) := by decide +kernel
theorem digit_back : ∀ m : Nat, m < 16 → UInt8.ofNat (Int.toNat ((byteAt digits m).toNat : Nat)) = byteAt digits m := by decide +kernel
theorem one_else : ∀ m : Nat, m < 256 → shown (m : Int) = false → ¬ 0 ≤ idxOf marks (m : Int) → one (m : Int) = [92, 120, byteAt digits (m / 16), byteAt digits (m % 16)] := by decide +kernel
end Go.Proofs.YtnelknhacamboaaDoor.Qu
