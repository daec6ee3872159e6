
/- Chapter 2: what the functions without memory of their own hand back. -/
import Derived.Test.YtcgobgnbpeageaaGreatDoorAb21
import Derived.Test.YtcgobgnbpeageaaGreatDoorChecked
set_option linter.all false
namespace Go.Proofs.YtcgobgnbpeageaaGreatDoor.Qu
open Go Go.Ab
attribute [local irreducible] APure Sto.set Sto.grow
set_option maxRecDepth 10000
variable {Γ : Nat → AV}

def shown (n : Int) : Bool := decide (32 ≤ n) && decide (n ≤ 126) && !decide (n = 34) && !decide (n = 92)
theorem shown_ok (n : Int) : APure Tryz.prog Γ 70 [.int .u8 n] fun v => v = .bool (shown n) := by
  refine APure.of_awp Tryz.func70 rfl (Nat.le_of_ble_eq_true (by kernel_rfl)) (by kernel_rfl) ?_
  intro s
  conv => whnf
  repeat' (first
    | (refine ⟨Sub.refl _, ?_⟩)
    | (refine brA_split (fun h => ?_) (fun h => ?_) <;> (try rw [h]) <;> (try simp only [Bool.false_eq_true, Bool.true_eq_false, ↓reduceIte, decide_eq_true_eq, decide_eq_false_iff_not, Bool.not_eq_true', Bool.not_eq_false'] at h) <;> (conv => whnf))
    | (refine getB_same ?_; conv => whnf)
    | (refine AWp.any (by kernel_rfl) (by kernel_rfl) (by kernel_rfl) ?_; conv => whnf)
    | (apply And.intro; (focus (first | omega | rfl | decide | exact Nat.le_of_ble_eq_true rfl | ((repeat' (first | exact all_nil | refine all_cons ?_ ?_ | rfl | fail)); done) | (simp [-List.length_flatMap]; done) | (simp [-List.length_flatMap]; omega) | fail)); conv => whnf)
    | fail)
  all_goals grind [shown, tupA]

def plain (l : List UInt8) : Bool := l.all fun c => shown c.toNat
def digits : List UInt8 := [48, 49, 50, 51, 52, 53, 54, 55, 56, 57, 97, 98, 99, 100, 101, 102]
def digit (n : Int) : UInt8 := byteAt digits n.toNat
theorem digit_cut : ∀ n : Nat, n < 16 → (digits.take (n + 1)).drop n = [byteAt digits n] := by decide
theorem hex_ok (n : Int) (h0 : 0 ≤ n) (h1 : n < 16) : APure Tryz.prog Γ 79 [.int .i64 n] fun v => v = .str [digit n] := by
  refine APure.of_awp Tryz.func79 rfl (Nat.le_of_ble_eq_true (by kernel_rfl)) (by kernel_rfl) ?_
  intro s
  conv => whnf
  rw [i64_of (a := n + 1) rfl (by omega) (by omega)]
  repeat' (first
    | (refine ⟨Sub.refl _, ?_⟩)
    | (refine brA_split (fun h => ?_) (fun h => ?_) <;> (try rw [h]) <;> (try simp only [Bool.false_eq_true, Bool.true_eq_false, ↓reduceIte, decide_eq_true_eq, decide_eq_false_iff_not, Bool.not_eq_true', Bool.not_eq_false'] at h) <;> (conv => whnf))
    | (refine getB_same ?_; conv => whnf)
    | (refine AWp.any (by kernel_rfl) (by kernel_rfl) (by kernel_rfl) ?_; conv => whnf)
    | (apply And.intro; (focus (first | omega | rfl | decide | exact Nat.le_of_ble_eq_true rfl | ((repeat' (first | exact all_nil | refine all_cons ?_ ?_ | rfl | fail)); done) | (simp [-List.length_flatMap]; done) | (simp [-List.length_flatMap]; omega) | fail)); conv => whnf)
    | fail)
  show AV.str ((digits.take (n + 1).toNat).drop n.toNat) = _
  rw [show (n + 1).toNat = n.toNat + 1 by omega, digit_cut _ (by omega)]
  rfl

def one (n : Int) : List UInt8 :=
  if n = 34 then [92, 34] else if n = 92 then [92, 92] else if n = 10 then [92, 110] else if n = 13 then [92, 114] else if n = 9 then [92, 116]
  else if n < 32 ∨ 126 < n then [92, 120, digit (n / 16), digit (n % 16)] else [UInt8.ofNat n.toNat]
theorem one_ok (n : Int) (h0 : 0 ≤ n) (h1 : n < 256) : APure Tryz.prog Γ 55 [.int .u8 n] fun v => v = .str (one n) := by
  have e0 : IntKind.i64.wrap n = n := i64_of rfl (by omega) (by omega)
  have e1 : IntKind.i64.wrap ((IntKind.i64.wrap n).tdiv 16) = n / 16 := by
    rw [e0, Int.tdiv_eq_ediv_of_nonneg h0]; exact i64_of rfl (by omega) (by omega)
  have e2 : (IntKind.i64.wrap n).tmod 16 = n % 16 := by
    rw [e0, Int.tmod_eq_emod_of_nonneg h0]
  refine APure.of_awp Tryz.func55 rfl (Nat.le_of_ble_eq_true (by kernel_rfl)) (by kernel_rfl) ?_
  intro s
  conv => whnf
  repeat' (first
    | (refine ⟨Sub.refl _, ?_⟩)
    | (refine brA_split (fun h => ?_) (fun h => ?_) <;> (try rw [h]) <;> (try simp only [Bool.false_eq_true, Bool.true_eq_false, ↓reduceIte, decide_eq_true_eq, decide_eq_false_iff_not, Bool.not_eq_true', Bool.not_eq_false'] at h) <;> (conv => whnf))
    | (refine ACalls.pure' ?_ (hex_ok _ ?_ ?_); rintro _ rfl; conv => whnf)
    | (refine DCall.pure ?_ (hex_ok _ ?_ ?_); conv => whnf)
    | (refine getB_same ?_; conv => whnf)
    | (refine AWp.any (by kernel_rfl) (by kernel_rfl) (by kernel_rfl) ?_; conv => whnf)
    | (apply And.intro; (focus (first | omega | rfl | decide | exact Nat.le_of_ble_eq_true rfl | ((repeat' (first | exact all_nil | refine all_cons ?_ ?_ | rfl | fail)); done) | (simp [-List.length_flatMap]; done) | (simp [-List.length_flatMap]; omega) | fail)); conv => whnf)
    | fail)
  all_goals first | (rw [e1]; omega) | (rw [e2]; omega) | skip
  all_goals (simp only [e1, e2, tupA]; grind [one])
theorem one_plain (c : UInt8) : shown c.toNat = true → one c.toNat = [c] := by
  intro h
  have : UInt8.ofNat ((c.toNat : Int).toNat) = c := by simp
  grind [one, shown]
theorem one_pos (c : UInt8) : 1 ≤ (one c.toNat).length := by grind [one]
theorem one_len (n : Int) : (one n).length ≤ 4 := by grind [one]
def quote (l : List UInt8) : List UInt8 := 34 :: l.flatMap (fun c => one c.toNat) ++ [34]
theorem refQuote_ok (l : List UInt8) (hl : l.length ≤ 140737488355328) : APure Tryz.prog Γ 36 [.str l] fun v => v = .str (quote l) := by
  have hlen : ∀ i, ((l.take i).flatMap fun c => one c.toNat).length ≤ 4 * l.length := fun i => by
    have := flatMap_len (fun c : UInt8 => one c.toNat) 4 (fun c => one_len _) (l.take i)
    simp only [List.length_take] at this
    omega
  refine APure.of_awp Tryz.func36 rfl (Nat.le_of_ble_eq_true (by kernel_rfl)) (by kernel_rfl) ?_
  intro s
  conv => whnf
  refine AWp.loopA [3, 4] [5, 6, 7, 8, 11, 12, 13, 14, 15, 16, 9, 10] (fun i : Nat => [.str (34 :: (l.take i).flatMap fun c => one c.toNat), .int .i64 i]) (fun i s' => i ≤ l.length ∧ s' = s) (fun i => l.length - i) (0) (by kernel_rfl) (by (repeat' (first | refine cons_eq ?_ ?_ | refine int64_of ?_ ?_ ?_ | rfl | omega))) ?_ ?_
  · exact ⟨by omega, rfl⟩
  · rintro x i _ ⟨hi, rfl⟩
    have h1 := hlen i
    have h2 := one_len (byteAt l i).toNat
    have h3 := u8_lt (byteAt l i)
    conv => whnf
    repeat' (first
      | (refine ⟨Sub.refl _, ?_⟩)
      | (refine brA_split (fun h => ?_) (fun h => ?_) <;> (try rw [h]) <;> (try simp only [Bool.false_eq_true, Bool.true_eq_false, ↓reduceIte, decide_eq_true_eq, decide_eq_false_iff_not, Bool.not_eq_true', Bool.not_eq_false'] at h) <;> (conv => whnf))
      | (refine ACalls.pure' ?_ (one_ok _ ?_ ?_); rintro _ rfl; conv => whnf)
      | (refine DCall.pure ?_ (one_ok _ ?_ ?_); conv => whnf)
      | (refine getB_same ?_; conv => whnf)
      | (refine AWp.any (by kernel_rfl) (by kernel_rfl) (by kernel_rfl) ?_; conv => whnf)
      | (apply And.intro; (focus (first | omega | rfl | decide | exact Nat.le_of_ble_eq_true rfl | ((repeat' (first | exact all_nil | refine all_cons ?_ ?_ | rfl | fail)); done) | (simp [-List.length_flatMap]; done) | (simp [-List.length_flatMap]; omega) | fail)); conv => whnf)
      | fail)
    · refine ⟨i + 1, ?_, by (repeat (first | exact Same.refl _ _ | refine Same.upd rfl ?_ | refine Same.updL rfl ?_ | refine Same.havoc rfl ?_)), ⟨by omega, rfl⟩, by omega⟩
      refine cons_eq ?_ ?_
      · show AV.str _ = _
        rw [take_byte (by omega)]
        simp
      · exact by (repeat' (first | refine cons_eq ?_ ?_ | refine int64_of ?_ ?_ ?_ | rfl | omega))
    · omega
    · simp; omega
    · have : l.take i = l := List.take_of_length_le (by omega)
      simp only [tupA, this]
      rfl

end Go.Proofs.YtcgobgnbpeageaaGreatDoor.Qu
