
/- Chapter 1: what the functions on numbers hand back. -/
import Derived.Test.YtcgobgnbpeageaaGreatDoorAb22
import Derived.Test.YtcgobgnbpeageaaGreatDoorShelf
import Derived.Test.YtcgobgnbpeageaaGreatDoorChecked
import Derived.Lib.AppendIntMem
set_option linter.all false
namespace Go.Proofs.YtcgobgnbpeageaaGreatDoor.Nu
open Go Go.Ab Go.RowKit
variable {Γ : Nat → AV}

/-- What the library's table of tens holds. -/
def Tens (Γ : Nat → AV) : Prop := Γ 3 = .cptr (Lib.pow10Tab.map (.int .u64))
def Fits (n : Int) : Prop := -9223372036854775808 ≤ n ∧ n ≤ 9223372036854775807

theorem fits_of {n : Int} (h : (Lit.int .i64 n).wf = true) : Fits n := wf_i64 h
theorem format_ok (hT : Tens Γ) (n : Int) (hn : Fits n) : APure Tryz.prog Γ 68 [.int .i64 n, .int .i64 10] fun v => v = .str (Lib.itoa n) := by
  intro s
  refine ACalls.of_below fun G w vs hm hr => ?_
  obtain ⟨u, us, rfl, hu, hus⟩ := RList_cons.1 hr
  obtain ⟨u1, us1, rfl, hu1, hus1⟩ := RList_cons.1 hus
  rw [RList_nil] at hus1; subst hus1
  rw [R_int] at hu hu1; subst hu hu1
  refine ⟨_, fun G' w' => R_str.2 rfl, (Tryz.internal_strconv_FormatInt_10 n hn.1 hn.2 w (tab_of hm (by kernel_rfl) hT)).mono ?_⟩
  rintro e w' ⟨rfl, k, os, rfl⟩
  exact ⟨rfl, Lib.below_grow _ _ (Nat.le_refl _) _ _⟩
theorem mul64_ok (x y : Nat) (hx : x < 18446744073709551616) (hy : y < 18446744073709551616) : APure Tryz.prog Γ 80 [.int .u64 x, .int .u64 y] fun v => v = .tuple [.int .u64 ((x * y / 18446744073709551616 : Nat) : Int), .int .u64 ((x * y % 18446744073709551616 : Nat) : Int)] := by
  intro s
  refine ACalls.of_below fun G w vs hm hr => ?_
  obtain ⟨u, us, rfl, hu, hus⟩ := RList_cons.1 hr
  obtain ⟨u1, us1, rfl, hu1, hus1⟩ := RList_cons.1 hus
  rw [RList_nil] at hus1; subst hus1
  rw [R_int] at hu hu1; subst hu hu1
  refine ⟨_, fun G' w' => R_tuple.2 ⟨_, rfl, RList_cons.2 ⟨_, _, rfl, R_int.2 rfl, RList_cons.2 ⟨_, _, rfl, R_int.2 rfl, RList_nil.2 rfl⟩⟩⟩, (Tryz.bits_Mul64 x y hx hy w).mono ?_⟩
  rintro e w' ⟨rfl, rfl⟩
  exact ⟨rfl, Below.refl _ _⟩

attribute [local irreducible] APure Sto.set Sto.grow
set_option maxRecDepth 10000

theorem strconv_ok (hT : Tens Γ) (n : Int) (hn : Fits n) : APure Tryz.prog Γ 45 [.int .i64 n, .int .i64 10] fun v => v = .str (Lib.itoa n) := by
  refine APure.of_awp Tryz.func45 rfl (Nat.le_of_ble_eq_true (by kernel_rfl)) (by kernel_rfl) ?_
  intro s
  conv => whnf
  repeat' (first
    | (refine ⟨Sub.refl _, ?_⟩)
    | (refine brA_split (fun h => ?_) (fun h => ?_) <;> (try rw [h]) <;> (try simp only [Bool.false_eq_true, Bool.true_eq_false, ↓reduceIte, decide_eq_true_eq, decide_eq_false_iff_not, Bool.not_eq_true', Bool.not_eq_false'] at h) <;> (conv => whnf))
    | (refine ACalls.pure' ?_ (format_ok hT _ hn); rintro _ rfl; conv => whnf)
    | (refine DCall.pure ?_ (format_ok hT _ hn); conv => whnf)
    | (refine getB_same ?_; conv => whnf)
    | (refine AWp.any (by kernel_rfl) (by kernel_rfl) (by kernel_rfl) ?_; conv => whnf)
    | (apply And.intro; (focus (first | omega | rfl | decide | exact Nat.le_of_ble_eq_true rfl | ((repeat' (first | exact all_nil | refine all_cons ?_ ?_ | rfl | fail)); done) | (simp [-List.length_flatMap]; done) | (simp [-List.length_flatMap]; omega) | fail)); conv => whnf)
    | fail)
  rfl
theorem text_ok (hT : Tens Γ) (n : Int) (hn : Fits n) : APure Tryz.prog Γ 29 [.int .i64 n] fun v => v = .str (Lib.itoa n) := by
  refine APure.of_awp Tryz.func29 rfl (Nat.le_of_ble_eq_true (by kernel_rfl)) (by kernel_rfl) ?_
  intro s
  conv => whnf
  repeat' (first
    | (refine ⟨Sub.refl _, ?_⟩)
    | (refine brA_split (fun h => ?_) (fun h => ?_) <;> (try rw [h]) <;> (try simp only [Bool.false_eq_true, Bool.true_eq_false, ↓reduceIte, decide_eq_true_eq, decide_eq_false_iff_not, Bool.not_eq_true', Bool.not_eq_false'] at h) <;> (conv => whnf))
    | (refine ACalls.pure' ?_ (strconv_ok hT _ hn); rintro _ rfl; conv => whnf)
    | (refine DCall.pure ?_ (strconv_ok hT _ hn); conv => whnf)
    | (refine getB_same ?_; conv => whnf)
    | (refine AWp.any (by kernel_rfl) (by kernel_rfl) (by kernel_rfl) ?_; conv => whnf)
    | (apply And.intro; (focus (first | omega | rfl | decide | exact Nat.le_of_ble_eq_true rfl | ((repeat' (first | exact all_nil | refine all_cons ?_ ?_ | rfl | fail)); done) | (simp [-List.length_flatMap]; done) | (simp [-List.length_flatMap]; omega) | fail)); conv => whnf)
    | fail)
  rfl

def val (x : Int) : Int := if -9223372036854775808 ≤ x ∧ x ≤ 9223372036854775807 then x else 0
def err (x : Int) : Int := if -9223372036854775808 ≤ x ∧ x ≤ 9223372036854775807 then 0 else 6
def fine (x : Int) : Bool := decide (-9223372036854775808 ≤ x ∧ x ≤ 9223372036854775807)
theorem fits_val (x : Int) : Fits (val x) := by unfold Fits val; split <;> omega

theorem add_ok (a b : Int) (ha : Fits a) (hb : Fits b) : APure Tryz.prog Γ 64 [.int .i64 a, .int .i64 b] fun v => v = .tuple [.int .i64 (val (a + b)), .int .i64 (err (a + b))] := by
  unfold Fits at ha hb
  refine APure.of_awp Tryz.func64 rfl (Nat.le_of_ble_eq_true (by kernel_rfl)) (by kernel_rfl) ?_
  intro s
  conv => whnf
  repeat' (first
    | (refine ⟨Sub.refl _, ?_⟩)
    | (refine brA_split (fun h => ?_) (fun h => ?_) <;> (try rw [h]) <;> (try simp only [Bool.false_eq_true, Bool.true_eq_false, ↓reduceIte, decide_eq_true_eq, decide_eq_false_iff_not, Bool.not_eq_true', Bool.not_eq_false'] at h) <;> (conv => whnf))
    | (refine getB_same ?_; conv => whnf)
    | (refine AWp.any (by kernel_rfl) (by kernel_rfl) (by kernel_rfl) ?_; conv => whnf)
    | (apply And.intro; (focus (first | omega | rfl | decide | exact Nat.le_of_ble_eq_true rfl | ((repeat' (first | exact all_nil | refine all_cons ?_ ?_ | rfl | fail)); done) | (simp [-List.length_flatMap]; done) | (simp [-List.length_flatMap]; omega) | fail)); conv => whnf)
    | fail)
  all_goals
    simp only [IntKind.wrap_i64, beq_iff_eq, beq_eq_false_iff_ne, ne_eq, decide_eq_decide] at h
    simp only [tupA, val, err, AV.tuple.injEq, List.cons.injEq, AV.int.injEq, true_and, and_true, IntKind.wrap_i64]
    (split <;> omega)
theorem sub_ok (a b : Int) (ha : Fits a) (hb : Fits b) : APure Tryz.prog Γ 63 [.int .i64 a, .int .i64 b] fun v => v = .tuple [.int .i64 (val (a - b)), .int .i64 (err (a - b))] := by
  unfold Fits at ha hb
  refine APure.of_awp Tryz.func63 rfl (Nat.le_of_ble_eq_true (by kernel_rfl)) (by kernel_rfl) ?_
  intro s
  conv => whnf
  repeat' (first
    | (refine ⟨Sub.refl _, ?_⟩)
    | (refine brA_split (fun h => ?_) (fun h => ?_) <;> (try rw [h]) <;> (try simp only [Bool.false_eq_true, Bool.true_eq_false, ↓reduceIte, decide_eq_true_eq, decide_eq_false_iff_not, Bool.not_eq_true', Bool.not_eq_false'] at h) <;> (conv => whnf))
    | (refine getB_same ?_; conv => whnf)
    | (refine AWp.any (by kernel_rfl) (by kernel_rfl) (by kernel_rfl) ?_; conv => whnf)
    | (apply And.intro; (focus (first | omega | rfl | decide | exact Nat.le_of_ble_eq_true rfl | ((repeat' (first | exact all_nil | refine all_cons ?_ ?_ | rfl | fail)); done) | (simp [-List.length_flatMap]; done) | (simp [-List.length_flatMap]; omega) | fail)); conv => whnf)
    | fail)
  all_goals
    simp only [IntKind.wrap_i64, beq_iff_eq, beq_eq_false_iff_ne, ne_eq, decide_eq_decide] at h
    simp only [tupA, val, err, AV.tuple.injEq, List.cons.injEq, AV.int.injEq, true_and, and_true, IntKind.wrap_i64]
    (split <;> omega)
theorem fits0 : Fits 0 := by unfold Fits; omega
theorem neg_ok (a : Int) (ha : Fits a) : APure Tryz.prog Γ 82 [.int .i64 a] fun v => v = .tuple [.int .i64 (val (0 - a)), .int .i64 (err (0 - a))] := by
  refine APure.of_awp Tryz.func82 rfl (Nat.le_of_ble_eq_true (by kernel_rfl)) (by kernel_rfl) ?_
  intro s
  conv => whnf
  repeat' (first
    | (refine ⟨Sub.refl _, ?_⟩)
    | (refine brA_split (fun h => ?_) (fun h => ?_) <;> (try rw [h]) <;> (try simp only [Bool.false_eq_true, Bool.true_eq_false, ↓reduceIte, decide_eq_true_eq, decide_eq_false_iff_not, Bool.not_eq_true', Bool.not_eq_false'] at h) <;> (conv => whnf))
    | (refine ACalls.pure' ?_ (sub_ok _ _ fits0 ha); rintro _ rfl; conv => whnf)
    | (refine DCall.pure ?_ (sub_ok _ _ fits0 ha); conv => whnf)
    | (refine getB_same ?_; conv => whnf)
    | (refine AWp.any (by kernel_rfl) (by kernel_rfl) (by kernel_rfl) ?_; conv => whnf)
    | (apply And.intro; (focus (first | omega | rfl | decide | exact Nat.le_of_ble_eq_true rfl | ((repeat' (first | exact all_nil | refine all_cons ?_ ?_ | rfl | fail)); done) | (simp [-List.length_flatMap]; done) | (simp [-List.length_flatMap]; omega) | fail)); conv => whnf)
    | fail)
  rfl
theorem size_ok (a : Int) (ha : Fits a) : APure Tryz.prog Γ 81 [.int .i64 a] fun v => v = .int .u64 (a.natAbs : Nat) := by
  unfold Fits at ha
  refine APure.of_awp Tryz.func81 rfl (Nat.le_of_ble_eq_true (by kernel_rfl)) (by kernel_rfl) ?_
  intro s
  conv => whnf
  repeat' (first
    | (refine ⟨Sub.refl _, ?_⟩)
    | (refine brA_split (fun h => ?_) (fun h => ?_) <;> (try rw [h]) <;> (try simp only [Bool.false_eq_true, Bool.true_eq_false, ↓reduceIte, decide_eq_true_eq, decide_eq_false_iff_not, Bool.not_eq_true', Bool.not_eq_false'] at h) <;> (conv => whnf))
    | (refine getB_same ?_; conv => whnf)
    | (refine AWp.any (by kernel_rfl) (by kernel_rfl) (by kernel_rfl) ?_; conv => whnf)
    | (apply And.intro; (focus (first | omega | rfl | decide | exact Nat.le_of_ble_eq_true rfl | ((repeat' (first | exact all_nil | refine all_cons ?_ ?_ | rfl | fail)); done) | (simp [-List.length_flatMap]; done) | (simp [-List.length_flatMap]; omega) | fail)); conv => whnf)
    | fail)
  all_goals
    simp only [tupA, AV.int.injEq, true_and, IntKind.wrap_u64]
    omega
theorem mul_ok (a b : Int) (ha : Fits a) (hb : Fits b) : APure Tryz.prog Γ 65 [.int .i64 a, .int .i64 b] fun v => v = .tuple [.int .i64 (val (a * b)), .int .i64 (err (a * b))] := by
  have h1 : a.natAbs < 18446744073709551616 := by unfold Fits at ha; omega
  have h2 : b.natAbs < 18446744073709551616 := by unfold Fits at hb; omega
  have hp : a * b = if (!(decide (a < 0) == decide (b < 0))) = true then -((a.natAbs * b.natAbs : Nat) : Int) else ((a.natAbs * b.natAbs : Nat) : Int) := by
    have e1 : (a.natAbs : Int) = if a < 0 then -a else a := by split <;> omega
    have e2 : (b.natAbs : Int) = if b < 0 then -b else b := by split <;> omega
    rw [Int.natCast_mul, e1, e2]
    by_cases ha : a < 0 <;> by_cases hb : b < 0 <;> simp [ha, hb, Int.neg_mul, Int.mul_neg]
  generalize hq : a.natAbs * b.natAbs = q at hp
  refine APure.of_awp Tryz.func65 rfl (Nat.le_of_ble_eq_true (by kernel_rfl)) (by kernel_rfl) ?_
  intro s
  conv => whnf
  repeat' (first
    | (refine ⟨Sub.refl _, ?_⟩)
    | (refine brA_split (fun h => ?_) (fun h => ?_) <;> (try rw [h]) <;> (try simp only [Bool.false_eq_true, Bool.true_eq_false, ↓reduceIte, decide_eq_true_eq, decide_eq_false_iff_not, Bool.not_eq_true', Bool.not_eq_false'] at h) <;> (conv => whnf))
    | (refine ACalls.pure' ?_ (size_ok _ ha); rintro _ rfl; conv => whnf)
    | (refine DCall.pure ?_ (size_ok _ ha); conv => whnf)
    | (refine ACalls.pure' ?_ (size_ok _ hb); rintro _ rfl; conv => whnf)
    | (refine DCall.pure ?_ (size_ok _ hb); conv => whnf)
    | (refine ACalls.pure' ?_ (mul64_ok _ _ h1 h2); rintro _ rfl; conv => whnf)
    | (refine DCall.pure ?_ (mul64_ok _ _ h1 h2); conv => whnf)
    | (refine getB_same ?_; conv => whnf)
    | (refine AWp.any (by kernel_rfl) (by kernel_rfl) (by kernel_rfl) ?_; conv => whnf)
    | (apply And.intro; (focus (first | omega | rfl | decide | exact Nat.le_of_ble_eq_true rfl | ((repeat' (first | exact all_nil | refine all_cons ?_ ?_ | rfl | fail)); done) | (simp [-List.length_flatMap]; done) | (simp [-List.length_flatMap]; omega) | fail)); conv => whnf)
    | fail)
  · rw [hq] at h
    simp only [tupA, val, err, AV.tuple.injEq, List.cons.injEq, AV.int.injEq, true_and, and_true]
    (split <;> split at hp <;> omega)
  · rename_i hB hz
    rw [hq] at h hB
    try rw [hq]
    rw [if_pos (by rw [hz]; rfl)] at hp
    simp only [tupA, val, err, AV.tuple.injEq, List.cons.injEq, AV.int.injEq, true_and, and_true, IntKind.wrap_i64]
    (split <;> omega)
  · rename_i hB hz
    rw [hq] at h hB
    try rw [hq]
    rw [if_pos (by rw [hz]; rfl)] at hp
    simp only [tupA, val, err, AV.tuple.injEq, List.cons.injEq, AV.int.injEq, true_and, and_true, IntKind.wrap_i64]
    (split <;> omega)
  · rename_i hB hz
    rw [hq] at h hB
    rw [if_neg (by rw [hz]; decide)] at hp
    simp only [tupA, val, err, AV.tuple.injEq, List.cons.injEq, AV.int.injEq, true_and, and_true, IntKind.wrap_i64]
    (split <;> omega)
  · rename_i hB hz
    rw [hq] at h hB
    try rw [hq]
    rw [if_neg (by rw [hz]; decide)] at hp
    simp only [tupA, val, err, AV.tuple.injEq, List.cons.injEq, AV.int.injEq, true_and, and_true, IntKind.wrap_i64]
    (split <;> omega)
end Go.Proofs.YtcgobgnbpeageaaGreatDoor.Nu
