
/- Chapter 2: what the functions without memory of their own hand back. -/
import Derived.Test.YtnelknhacamboaaDoorAb21
import Derived.Test.YtnelknhacamboaaDoorChecked
set_option linter.all false
namespace Go.Proofs.YtnelknhacamboaaDoor.Qu
open Go Go.Ab
attribute [local irreducible] APure Sto.set Sto.grow
set_option maxRecDepth 10000
variable {Γ : Nat → AV}

def shown (n : Int) : Bool := decide (32 ≤ n) && decide (n ≤ 126) && !decide (n = 34) && !decide (n = 92)
theorem shown_ok (n : Int) : APure Tryd.prog Γ 59 [.int .u8 n] fun v => v = .bool (shown n) := by
  refine APure.of_awp Tryd.func59 rfl (Nat.le_of_ble_eq_true (by kernel_rfl)) (by kernel_rfl) ?_
  intro s
  conv => whnf
  repeat' (first
    | (refine ⟨Sub.refl _, ?_⟩)
    | (refine brA_split (fun h => ?_) (fun h => ?_) <;> (try rw [h]) <;> (try simp only [Bool.false_eq_true, Bool.true_eq_false, ↓reduceIte, decide_eq_true_eq, decide_eq_false_iff_not, Bool.not_eq_true', Bool.not_eq_false'] at h) <;> (conv => whnf))
    | (refine getB_same ?_; conv => whnf)
    | (refine AWp.any (by kernel_rfl) (by kernel_rfl) (by kernel_rfl) ?_; conv => whnf)
    | (apply And.intro; (focus (first | omega | rfl | decide | exact Nat.le_of_ble_eq_true rfl | ((repeat' (first | exact all_nil | refine all_cons ?_ ?_ | rfl | fail)); done) | (simp [-List.length_flatMap]; done) | (simp [-List.length_flatMap]; omega) | fail)); conv => whnf)
    | fail)
  all_goals grind [shown, tupA]

def plain (l : List UInt8) : Bool := l.all fun c => shown c.toNat
def digits : List UInt8 := [48, 49, 50, 51, 52, 53, 54, 55, 56, 57, 97, 98, 99, 100, 101, 102]
def digit (n : Int) : UInt8 := byteAt digits n.toNat
theorem digit_cut : ∀ n : Nat, n < 16 → (digits.take (n + 1)).drop n = [byteAt digits n] := by decide
theorem hex_ok (n : Int) (h0 : 0 ≤ n) (h1 : n < 16) : APure Tryd.prog Γ 74 [.int .i64 n] fun v => v = .str [digit n] := by
  refine APure.of_awp Tryd.func74 rfl (Nat.le_of_ble_eq_true (by kernel_rfl)) (by kernel_rfl) ?_
  intro s
  conv => whnf
  rw [i64_of (a := n + 1) rfl (by omega) (by omega)]
  repeat' (first
    | (refine ⟨Sub.refl _, ?_⟩)
    | (refine brA_split (fun h => ?_) (fun h => ?_) <;> (try rw [h]) <;> (try simp only [Bool.false_eq_true, Bool.true_eq_false, ↓reduceIte, decide_eq_true_eq, decide_eq_false_iff_not, Bool.not_eq_true', Bool.not_eq_false'] at h) <;> (conv => whnf))
    | (refine getB_same ?_; conv => whnf)
    | (refine AWp.any (by kernel_rfl) (by kernel_rfl) (by kernel_rfl) ?_; conv => whnf)
    | (apply And.intro; (focus (first | omega | rfl | decide | exact Nat.le_of_ble_eq_true rfl | ((repeat' (first | exact all_nil | refine all_cons ?_ ?_ | rfl | fail)); done) | (simp [-List.length_flatMap]; done) | (simp [-List.length_flatMap]; omega) | fail)); conv => whnf)
    | fail)
  show AV.str ((digits.take (n + 1).toNat).drop n.toNat) = _
  rw [show (n + 1).toNat = n.toNat + 1 by omega, digit_cut _ (by omega)]
  rfl

def one (n : Int) : List UInt8 :=
  if n = 34 then [92, 34] else if n = 92 then [92, 92] else if n = 10 then [92, 110] else if n = 13 then [92, 114] else if n = 9 then [92, 116]
  else if n < 32 ∨ 126 < n then [92, 120, digit (n / 16), digit (n % 16)] else [UInt8.ofNat n.toNat]
theorem one_ok (n : Int) (h0 : 0 ≤ n) (h1 : n < 256) : APure Tryd.prog Γ 55 [.int .u8 n] fun v => v = .str (one n) := by
  have e0 : IntKind.i64.wrap n = n := i64_of rfl (by omega) (by omega)
  have e1 : IntKind.i64.wrap ((IntKind.i64.wrap n).tdiv 16) = n / 16 := by
    rw [e0, Int.tdiv_eq_ediv_of_nonneg h0]; exact i64_of rfl (by omega) (by omega)
  have e2 : (IntKind.i64.wrap n).tmod 16 = n % 16 := by
    rw [e0, Int.tmod_eq_emod_of_nonneg h0]
  refine APure.of_awp Tryd.func55 rfl (Nat.le_of_ble_eq_true (by kernel_rfl)) (by kernel_rfl) ?_
  intro s
  conv => whnf
  repeat' (first
    | (refine ⟨Sub.refl _, ?_⟩)
    | (refine brA_split (fun h => ?_) (fun h => ?_) <;> (try rw [h]) <;> (try simp only [Bool.false_eq_true, Bool.true_eq_false, ↓reduceIte, decide_eq_true_eq, decide_eq_false_iff_not, Bool.not_eq_true', Bool.not_eq_false'] at h) <;> (conv => whnf))
    | (refine ACalls.pure' ?_ (hex_ok _ ?_ ?_); rintro _ rfl; conv => whnf)
    | (refine DCall.pure ?_ (hex_ok _ ?_ ?_); conv => whnf)
    | (refine getB_same ?_; conv => whnf)
    | (refine AWp.any (by kernel_rfl) (by kernel_rfl) (by kernel_rfl) ?_; conv => whnf)
    | (apply And.intro; (focus (first | omega | rfl | decide | exact Nat.le_of_ble_eq_true rfl | ((repeat' (first | exact all_nil | refine all_cons ?_ ?_ | rfl | fail)); done) | (simp [-List.length_flatMap]; done) | (simp [-List.length_flatMap]; omega) | fail)); conv => whnf)
    | fail)
  all_goals first | (rw [e1]; omega) | (rw [e2]; omega) | skip
  all_goals (simp only [e1, e2, tupA]; grind [one])
theorem one_plain (c : UInt8) : shown c.toNat = true → one c.toNat = [c] := by
  intro h
  have : UInt8.ofNat ((c.toNat : Int).toNat) = c := by simp
  grind [one, shown]
theorem one_pos (c : UInt8) : 1 ≤ (one c.toNat).length := by grind [one]
theorem one_len (n : Int) : (one n).length ≤ 4 := by grind [one]
def quote (l : List UInt8) : List UInt8 := 34 :: l.flatMap (fun c => one c.toNat) ++ [34]
end Go.Proofs.YtnelknhacamboaaDoor.Qu
