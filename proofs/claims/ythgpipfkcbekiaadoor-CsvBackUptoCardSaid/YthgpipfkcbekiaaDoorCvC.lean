
/- Chapter 6: rows of fields, by the document. -/
import Derived.Test.YthgpipfkcbekiaaDoorCvB
set_option linter.all false
namespace Go.Proofs.YthgpipfkcbekiaaDoor.Cv
open Go Go.Ab Go.RowKit
variable {Γ : Nat → AV}
attribute [local irreducible] APure Sto.set Sto.grow
set_option maxRecDepth 10000
set_option maxHeartbeats 1000000

theorem refPlain_ok (c : UInt8) : APure Tryd.prog Γ 14 [.int .u8 c.toNat] fun v => v = .bool (bareB c) := by
  refine APure.of_awp Tryd.func14 rfl (Nat.le_of_ble_eq_true (by kernel_rfl)) (by kernel_rfl) ?_
  intro s
  conv => whnf
  repeat' (first
    | (refine ⟨Sub.refl _, ?_⟩)
    | (refine brA_split (fun h => ?_) (fun h => ?_) <;> (try rw [h]) <;> (try simp only [Bool.false_eq_true, Bool.true_eq_false, ↓reduceIte, decide_eq_true_eq, decide_eq_false_iff_not, Bool.not_eq_true', Bool.not_eq_false'] at h) <;> (conv => whnf))
    | (refine getB_same ?_; conv => whnf)
    | (refine AWp.any (by kernel_rfl) (by kernel_rfl) (by kernel_rfl) ?_; conv => whnf)
    | (apply And.intro; (focus (first | omega | rfl | decide | exact Nat.le_of_ble_eq_true rfl | ((repeat' (first | exact all_nil | refine all_cons ?_ ?_ | rfl | fail)); done) | (simp [-List.length_flatMap]; done) | (simp [-List.length_flatMap]; omega) | fail)); conv => whnf)
    | fail)
  all_goals refine bool_eq ?_
  all_goals unfold bareB
  all_goals simp [*]
def crlf (l : List UInt8) : Bool := decide ([13, 10].length ≤ l.length) && decide (l.take [13, 10].length = [13, 10])
theorem crlf_iff {l : List UInt8} : crlf l = true ↔ 2 ≤ l.length ∧ byteAt l 0 = 13 ∧ byteAt l 1 = 10 := by
  unfold crlf
  rcases l with _ | ⟨a, _ | ⟨b, r⟩⟩ <;> simp [byteAt]
def endsF (l : List UInt8) : Int := if l = [] then 2 else if crlf l = true then 1 else 0
theorem b13 {b : UInt8} : (b.toNat : Int) = 13 ↔ b = 13 := byteAt_lit (n := 13) (by decide)
theorem b10 {b : UInt8} : (b.toNat : Int) = 10 ↔ b = 10 := byteAt_lit (n := 10) (by decide)
def refFieldA (x : Option (List UInt8 × Nat)) : AV :=
  match x with
  | some (f, n) => .tuple [.str f, .int .i64 n, .int .i64 0]
  | none => .tuple [.str [], .int .i64 0, .int .i64 17]
theorem chk_long {f r : List UInt8} {q : Bool} (h : (4096 : Int) < f.length) : chkF f r q = 3 := by unfold chkF; rw [if_pos h]
theorem chk_fine {f r : List UInt8} {q : Bool} (h : ¬ (4096 : Int) < f.length) (h2 : r = [] ∨ byteAt r 0 = 44 ∨ crlf r = true) : chkF f r q = 0 := by
  unfold chkF
  rw [if_neg h, if_pos]
  rcases h2 with h2 | h2 | h2
  · exact .inl h2
  · exact .inr (.inl (b44.2 h2))
  · exact .inr (.inr h2)
theorem chk_bad {f r : List UInt8} {q : Bool} (h : ¬ (4096 : Int) < f.length) (h1 : r ≠ []) (h2 : byteAt r 0 ≠ 44) (h3 : crlf r = false) : chkF f r q = if q = true then 17 else 15 := by
  unfold chkF
  rw [if_neg h, if_neg]
  rintro (hh | hh | hh)
  · exact h1 hh
  · exact h2 (b44.1 hh)
  · exact absurd (show crlf r = true from hh) (by rw [h3]; decide)
def firstA : Except (Int × Int) (List (List UInt8) × Nat) → List AV
  | .error (e, c) => [.slice 0 [], .int .i64 e, .int .i64 c, .int .i64 0]
  | .ok (m, z) => [.slice 0 (strsA m), .int .i64 0, .int .i64 0, .int .i64 z]
end Go.Proofs.YthgpipfkcbekiaaDoor.Cv
