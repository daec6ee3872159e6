/- Chapter 3: operators. -/
import Derived.Test.YtcgobgnbpeageaaGreatDoorVaB
import Derived.Test.YtcgobgnbpeageaaGreatDoorNuD
set_option linter.all false
namespace Go.Proofs.YtcgobgnbpeageaaGreatDoor.Va
open Go Go.Ab Go.RowKit
variable {Γ : Nat → AV}
attribute [local irreducible] APure Sto.set Sto.grow
set_option maxRecDepth 10000
set_option maxHeartbeats 1000000

def opVal (op a b : Int) : Int :=
  if op = 5 then Nu.val (0 - a) else if op = 8 then Nu.val (a + b) else if op = 9 then Nu.val (a - b) else if op = 10 then Nu.val (a * b)
  else if op = 11 then Nu.quo a b else if op = 12 then Nu.lft a b else 0
def opErr (op a b : Int) : Int :=
  if op = 5 then Nu.err (0 - a) else if op = 8 then Nu.err (a + b) else if op = 9 then Nu.err (a - b) else if op = 10 then Nu.err (a * b)
  else if op = 11 then Nu.quoErr a b else if op = 12 then Nu.lftErr b else 1
theorem numOp_ok (op a b : Int) (ha : Nu.Fits a) (hb : Nu.Fits b) : APure Tryz.prog Γ 44 [.int .i64 op, .int .i64 a, .int .i64 b] fun v => v = .tuple [.int .i64 (opVal op a b), .int .i64 (opErr op a b)] := by
  by_cases h5 : op = 5
  · subst h5; exact Nu.op_neg a b ha
  by_cases h8 : op = 8
  · subst h8; exact Nu.op_add a b ha hb
  by_cases h9 : op = 9
  · subst h9; exact Nu.op_sub a b ha hb
  by_cases h10 : op = 10
  · subst h10; exact Nu.op_mul a b ha hb
  by_cases h11 : op = 11
  · subst h11; exact Nu.op_div a b ha
  by_cases h12 : op = 12
  · subst h12; exact Nu.op_mod a b
  refine (Nu.op_none op a b ⟨h5, h8, h9, h10, h11, h12⟩).mono ?_
  rintro v rfl
  simp only [opVal, opErr, h5, h8, h9, h10, h11, h12, if_false]

abbrev Rs := Vl × Int
def resA (x : Rs) : AV := .tuple [.agg (vlA x.1), .int .i64 x.2]
def numV (n e : Int) : Rs := if e = 0 then ((1, n, [], false), 0) else (noVl, e)
def textV (s : List UInt8) : Rs := if s.length ≤ 4096 then ((2, 0, s, false), 0) else (noVl, 3)
def truthV (t : Bool) : Rs := ((3, 0, [], t), 0)
def opV (op : Int) (a b : Vl) : Rs :=
  if op < 4 ∨ 16 < op then (noVl, 1)
  else if typeOf op a.1 b.1 = 0 then (noVl, 8)
  else if op = 4 then truthV (!a.2.2.2)
  else if op = 6 then truthV (a.2.2.2 && b.2.2.2)
  else if op = 7 then truthV (a.2.2.2 || b.2.2.2)
  else if op = 13 then truthV (decide (a = b))
  else if op = 14 then truthV (!decide (a = b))
  else if op = 15 then truthV (less a b)
  else if op = 16 then truthV (!less b a)
  else if a.1 = 2 then textV (a.2.2.1 ++ b.2.2.1)
  else numV (opVal op a.2.1 b.2.1) (opErr op a.2.1 b.2.1)

theorem text_ok (s : List UInt8) : APure Tryz.prog Γ 33 [.str s] fun v => v = resA (textV s) := by
  refine APure.of_awp Tryz.func33 rfl (Nat.le_of_ble_eq_true (by kernel_rfl)) (by kernel_rfl) ?_
  intro s
  conv => whnf
  intro b hb
  conv => whnf
  repeat' (first
    | (refine ⟨Sub.refl _, ?_⟩)
    | (refine brA_split (fun h => ?_) (fun h => ?_) <;> (try rw [h]) <;> (try simp only [Bool.false_eq_true, Bool.true_eq_false, ↓reduceIte, decide_eq_true_eq, decide_eq_false_iff_not, Bool.not_eq_true', Bool.not_eq_false'] at h) <;> (conv => whnf))
    | (refine getB_of set_bx_same ?_; conv => whnf)
    | (refine ACalls.pure' ?_ (str_ok _); rintro _ rfl; conv => whnf)
    | (refine DCall.pure ?_ (str_ok _); conv => whnf)
    | (refine getB_same ?_; conv => whnf)
    | (refine AWp.any (by kernel_rfl) (by kernel_rfl) (by kernel_rfl) ?_; conv => whnf)
    | (apply And.intro; (focus (first | omega | rfl | decide | exact Nat.le_of_ble_eq_true rfl | ((repeat' (first | exact all_nil | refine all_cons ?_ ?_ | rfl | fail)); done) | (simp [-List.length_flatMap]; done) | (simp [-List.length_flatMap]; omega) | fail)); conv => whnf)
    | fail)
  · refine ⟨((Sub.refl _).set hb _ _).set hb _ _, ?_⟩
    unfold textV
    rw [if_neg (by omega)]
    rfl
  · refine ⟨((Sub.refl _).set hb _ _).set hb _ _, ?_⟩
    unfold textV
    rw [if_pos (by omega)]
    rfl
theorem truth_ok (t : Bool) : APure Tryz.prog Γ 43 [.bool t] fun v => v = resA (truthV t) := by
  refine APure.of_awp Tryz.func43 rfl (Nat.le_of_ble_eq_true (by kernel_rfl)) (by kernel_rfl) ?_
  intro s
  conv => whnf
  intro b hb
  conv => whnf
  repeat' (first
    | (refine ⟨Sub.refl _, ?_⟩)
    | (refine brA_split (fun h => ?_) (fun h => ?_) <;> (try rw [h]) <;> (try simp only [Bool.false_eq_true, Bool.true_eq_false, ↓reduceIte, decide_eq_true_eq, decide_eq_false_iff_not, Bool.not_eq_true', Bool.not_eq_false'] at h) <;> (conv => whnf))
    | (refine getB_of set_bx_same ?_; conv => whnf)
    | (refine ACalls.pure' ?_ (bool_ok _); rintro _ rfl; conv => whnf)
    | (refine DCall.pure ?_ (bool_ok _); conv => whnf)
    | (refine getB_same ?_; conv => whnf)
    | (refine AWp.any (by kernel_rfl) (by kernel_rfl) (by kernel_rfl) ?_; conv => whnf)
    | (apply And.intro; (focus (first | omega | rfl | decide | exact Nat.le_of_ble_eq_true rfl | ((repeat' (first | exact all_nil | refine all_cons ?_ ?_ | rfl | fail)); done) | (simp [-List.length_flatMap]; done) | (simp [-List.length_flatMap]; omega) | fail)); conv => whnf)
    | fail)
  exact ⟨((Sub.refl _).set hb _ _).set hb _ _, rfl⟩
theorem refTruth_ok (t : Bool) : APure Tryz.prog Γ 41 [.bool t] fun v => v = resA (truthV t) := by
  refine APure.of_awp Tryz.func41 rfl (Nat.le_of_ble_eq_true (by kernel_rfl)) (by kernel_rfl) ?_
  intro s
  conv => whnf
  intro b hb
  conv => whnf
  repeat' (first
    | (refine ⟨Sub.refl _, ?_⟩)
    | (refine brA_split (fun h => ?_) (fun h => ?_) <;> (try rw [h]) <;> (try simp only [Bool.false_eq_true, Bool.true_eq_false, ↓reduceIte, decide_eq_true_eq, decide_eq_false_iff_not, Bool.not_eq_true', Bool.not_eq_false'] at h) <;> (conv => whnf))
    | (refine getB_of set_bx_same ?_; conv => whnf)
    | (refine getB_same ?_; conv => whnf)
    | (refine AWp.any (by kernel_rfl) (by kernel_rfl) (by kernel_rfl) ?_; conv => whnf)
    | (apply And.intro; (focus (first | omega | rfl | decide | exact Nat.le_of_ble_eq_true rfl | ((repeat' (first | exact all_nil | refine all_cons ?_ ?_ | rfl | fail)); done) | (simp [-List.length_flatMap]; done) | (simp [-List.length_flatMap]; omega) | fail)); conv => whnf)
    | fail)
  exact ⟨((Sub.refl _).set hb _ _).set hb _ _, rfl⟩
theorem refNumber_ok (n : Int) (t : Bool) : APure Tryz.prog Γ 61 [.int .i64 n, .bool t] fun v => v = resA (numV n (if t = true then 0 else 6)) := by
  refine APure.of_awp Tryz.func61 rfl (Nat.le_of_ble_eq_true (by kernel_rfl)) (by kernel_rfl) ?_
  intro s
  conv => whnf
  intro b hb
  conv => whnf
  repeat' (first
    | (refine ⟨Sub.refl _, ?_⟩)
    | (refine brA_split (fun h => ?_) (fun h => ?_) <;> (try rw [h]) <;> (try simp only [Bool.false_eq_true, Bool.true_eq_false, ↓reduceIte, decide_eq_true_eq, decide_eq_false_iff_not, Bool.not_eq_true', Bool.not_eq_false'] at h) <;> (conv => whnf))
    | (refine getB_of set_bx_same ?_; conv => whnf)
    | (refine getB_same ?_; conv => whnf)
    | (refine AWp.any (by kernel_rfl) (by kernel_rfl) (by kernel_rfl) ?_; conv => whnf)
    | (apply And.intro; (focus (first | omega | rfl | decide | exact Nat.le_of_ble_eq_true rfl | ((repeat' (first | exact all_nil | refine all_cons ?_ ?_ | rfl | fail)); done) | (simp [-List.length_flatMap]; done) | (simp [-List.length_flatMap]; omega) | fail)); conv => whnf)
    | fail)
  all_goals refine ⟨((Sub.refl _).set hb _ _).set hb _ _, ?_⟩
  all_goals (subst t; rfl)
theorem fine_err (x : Int) : (if Nu.fine x = true then (0 : Int) else 6) = Nu.err x := by
  unfold Nu.fine Nu.err
  simp only [decide_eq_true_eq]
theorem quoErr_cases (a b : Int) : Nu.quoErr a b = 0 ∨ Nu.quoErr a b = 6 ∨ (Nu.quoErr a b = 7 ∧ b = 0) := by
  unfold Nu.quoErr Nu.err
  grind
theorem quoErr_zero (a : Int) : Nu.quoErr a 0 = 7 := by simp [Nu.quoErr]
theorem refArith_ok (op a b : Int) (ha : Nu.Fits a) (hb : Nu.Fits b) (ho : 8 ≤ op ∧ op ≤ 12) : APure Tryz.prog Γ 42 [.int .i64 op, .int .i64 a, .int .i64 b] fun v => v = resA (numV (opVal op a b) (opErr op a b)) := by
  have hc : op = 8 ∨ op = 9 ∨ op = 10 ∨ op = 11 ∨ op = 12 := by omega
  have hq := quoErr_cases a b
  rcases hc with rfl | rfl | rfl | rfl | rfl
  all_goals
    refine APure.of_awp Tryz.func42 rfl (Nat.le_of_ble_eq_true (by kernel_rfl)) (by kernel_rfl) ?_
    intro s
    conv => whnf
    intro c hc
    conv => whnf
    repeat' (first
      | (refine ⟨Sub.refl _, ?_⟩)
      | (refine brA_split (fun h => ?_) (fun h => ?_) <;> (try rw [h]) <;> (try simp only [Bool.false_eq_true, Bool.true_eq_false, ↓reduceIte, decide_eq_true_eq, decide_eq_false_iff_not, Bool.not_eq_true', Bool.not_eq_false'] at h) <;> (conv => whnf))
      | (refine getB_of set_bx_same ?_; conv => whnf)
      | (refine ACalls.pure' ?_ (Nu.refAdd_ok _ _ ha hb); rintro _ rfl; conv => whnf)
      | (refine DCall.pure ?_ (Nu.refAdd_ok _ _ ha hb); conv => whnf)
      | (refine ACalls.pure' ?_ (Nu.refSub_ok _ _ ha hb); rintro _ rfl; conv => whnf)
      | (refine DCall.pure ?_ (Nu.refSub_ok _ _ ha hb); conv => whnf)
      | (refine ACalls.pure' ?_ (Nu.refMul_ok _ _ ha hb); rintro _ rfl; conv => whnf)
      | (refine DCall.pure ?_ (Nu.refMul_ok _ _ ha hb); conv => whnf)
      | (refine ACalls.pure' ?_ (Nu.refDiv_ok _ _ ha); rintro _ rfl; conv => whnf)
      | (refine DCall.pure ?_ (Nu.refDiv_ok _ _ ha); conv => whnf)
      | (refine ACalls.pure' ?_ (refNumber_ok _ _); rintro _ rfl; conv => whnf)
      | (refine DCall.pure ?_ (refNumber_ok _ _); conv => whnf)
      | (refine getB_same ?_; conv => whnf)
      | (refine AWp.any (by kernel_rfl) (by kernel_rfl) (by kernel_rfl) ?_; conv => whnf)
      | (apply And.intro; (focus (first | omega | rfl | decide | exact Nat.le_of_ble_eq_true rfl | ((repeat' (first | exact all_nil | refine all_cons ?_ ?_ | rfl | fail)); done) | (simp [-List.length_flatMap]; done) | (simp [-List.length_flatMap]; omega) | fail)); conv => whnf)
      | fail)
    all_goals refine ⟨((Sub.refl _).set hc _ _).set hc _ _, ?_⟩
  · exact congrArg (fun e => resA (numV _ e)) (fine_err _)
  · exact congrArg (fun e => resA (numV _ e)) (fine_err _)
  · exact congrArg (fun e => resA (numV _ e)) (fine_err _)
  · show resA (noVl, 7) = resA (numV (Nu.quo a b) (Nu.quoErr a b))
    rw [h]; rfl
  · show resA (numV (Nu.quo a b) (if decide (Nu.quoErr a b = 0) = true then 0 else 6)) = resA (numV (Nu.quo a b) (Nu.quoErr a b))
    rcases hq with h0 | h0 | h0
    · rw [h0]; rfl
    · rw [h0]; rfl
    · exact absurd h0.1 h
  · have hb0 : b = 0 := by rcases hq with h0 | h0 | h0 <;> omega
    subst hb0
    rfl
  · have hb0 : ¬ b = 0 := fun e => by subst e; exact h (quoErr_zero a)
    show resA ((1, Nu.lft a b, [], false), 0) = resA (numV (Nu.lft a b) (Nu.lftErr b))
    rw [show Nu.lftErr b = 0 from if_neg hb0]
    rfl

theorem res_tuple (x : Rs) : resA x = .tuple [.agg [.int .i64 x.1.1, .int .i64 x.1.2.1, .str x.1.2.2.1, .bool x.1.2.2.2], .int .i64 x.2] := rfl
theorem opV_none {op : Int} {a b : Vl} (ho : ¬ (op < 4 ∨ 16 < op)) (h : typeOf op a.1 b.1 = 0) : opV op a b = (noVl, 8) := by
  unfold opV; rw [if_neg ho, if_pos h]
theorem opV_text {op : Int} {a b : Vl} (ho : op = 8) (h : ¬ typeOf op a.1 b.1 = 0) (hk : a.1 = 2) : opV op a b = textV (a.2.2.1 ++ b.2.2.1) := by
  subst ho
  unfold opV; rw [if_neg (by omega), if_neg h]
  simp [hk]
theorem opV_num {op : Int} {a b : Vl} (ho : op = 5 ∨ 8 ≤ op ∧ op ≤ 12) (h : ¬ typeOf op a.1 b.1 = 0) (hk : ¬ a.1 = 2) : opV op a b = numV (opVal op a.2.1 b.2.1) (opErr op a.2.1 b.2.1) := by
  unfold opV; rw [if_neg (by omega), if_neg h, if_neg (by omega), if_neg (by omega), if_neg (by omega), if_neg (by omega), if_neg (by omega), if_neg (by omega), if_neg (by omega), if_neg hk]
theorem numV_fine {op : Int} {a b : Vl} (ho : op = 5 ∨ 8 ≤ op ∧ op ≤ 12) (h : ¬ typeOf op a.1 b.1 = 0) (hk : ¬ a.1 = 2) (he : opErr op a.2.1 b.2.1 = 0) : opV op a b = ((1, opVal op a.2.1 b.2.1, [], false), 0) := by
  rw [opV_num ho h hk]; unfold numV; rw [if_pos he]
theorem numV_err {op : Int} {a b : Vl} (ho : op = 5 ∨ 8 ≤ op ∧ op ≤ 12) (h : ¬ typeOf op a.1 b.1 = 0) (hk : ¬ a.1 = 2) (he : ¬ opErr op a.2.1 b.2.1 = 0) : opV op a b = (noVl, opErr op a.2.1 b.2.1) := by
  rw [opV_num ho h hk]; unfold numV; rw [if_neg he]
theorem opV_eq {a b : Vl} (h : ¬ typeOf 13 a.1 b.1 = 0) : opV 13 a b = truthV (decide (a = b)) := by
  unfold opV; rw [if_neg (by omega), if_neg h]; rfl
theorem opV_ne {a b : Vl} (h : ¬ typeOf 14 a.1 b.1 = 0) : opV 14 a b = truthV (!decide (a = b)) := by
  unfold opV; rw [if_neg (by omega), if_neg h]; rfl
theorem opV_not {a b : Vl} (h : ¬ typeOf 4 a.1 b.1 = 0) : opV 4 a b = truthV (!a.2.2.2) := by
  unfold opV; rw [if_neg (by omega), if_neg h]; rfl
theorem opV_and {a b : Vl} (h : ¬ typeOf 6 a.1 b.1 = 0) : opV 6 a b = truthV (a.2.2.2 && b.2.2.2) := by
  unfold opV; rw [if_neg (by omega), if_neg h]; rfl
theorem opV_or {a b : Vl} (h : ¬ typeOf 7 a.1 b.1 = 0) : opV 7 a b = truthV (a.2.2.2 || b.2.2.2) := by
  unfold opV; rw [if_neg (by omega), if_neg h]; rfl
theorem opV_lt {a b : Vl} (h : ¬ typeOf 15 a.1 b.1 = 0) : opV 15 a b = truthV (less a b) := by
  unfold opV; rw [if_neg (by omega), if_neg h]; rfl
theorem opV_le {a b : Vl} (h : ¬ typeOf 16 a.1 b.1 = 0) : opV 16 a b = truthV (!less b a) := by
  unfold opV; rw [if_neg (by omega), if_neg h]; rfl
theorem opV_rest {op : Int} {a b : Vl} (ho : ¬ (op < 4 ∨ 16 < op)) (h : ¬ typeOf op a.1 b.1 = 0) : opV op a b =
    if op = 4 then truthV (!a.2.2.2) else if op = 6 then truthV (a.2.2.2 && b.2.2.2) else if op = 7 then truthV (a.2.2.2 || b.2.2.2)
    else if op = 13 then truthV (decide (a = b)) else if op = 14 then truthV (!decide (a = b)) else if op = 15 then truthV (less a b) else if op = 16 then truthV (!less b a)
    else if a.1 = 2 then textV (a.2.2.1 ++ b.2.2.1) else numV (opVal op a.2.1 b.2.1) (opErr op a.2.1 b.2.1) := by
  unfold opV; rw [if_neg ho, if_neg h]
theorem type_two {op k k2 : Int} (h : ¬ typeOf op k k2 = 0) (ho : 5 ≤ op ∧ op ≤ 12) (h8 : ¬ op = 8) : ¬ k = 2 := by
  intro hk; subst hk; apply h; unfold typeOf; grind
def Kinds (a : Vl) : Prop := 1 ≤ a.1 ∧ a.1 ≤ 3
theorem op_ok (op : Int) (a b : Vl) (ha : Nu.Fits a.2.1) (hb : Nu.Fits b.2.1) (hla : a.2.2.1.length ≤ 1048576) (hlb : b.2.2.1.length ≤ 1048576) (ka : Kinds a) : APure Tryz.prog Γ 26 [.int .i64 op, .agg (vlA a), .agg (vlA b)] fun v => v = resA (opV op a b) := by
  obtain ⟨k, n, s1, t⟩ := a
  obtain ⟨k2, n2, s2, t2⟩ := b
  dsimp only at ha hb hla hlb
  unfold Kinds at ka
  dsimp only at ka
  by_cases ho : op < 4 ∨ 16 < op
  · refine APure.of_awp Tryz.func26 rfl (Nat.le_of_ble_eq_true (by kernel_rfl)) (by kernel_rfl) ?_
    intro s
    conv => whnf
    intro c1 h1
    conv => whnf
    intro c2 h2
    conv => whnf
    intro c3 h3
    conv => whnf
    repeat' (first
      | (exfalso; omega)
      | (refine ⟨Sub.refl _, ?_⟩)
      | (refine brA_split (fun h => ?_) (fun h => ?_) <;> (try rw [h]) <;> (try simp only [Bool.false_eq_true, Bool.true_eq_false, ↓reduceIte, decide_eq_true_eq, decide_eq_false_iff_not, Bool.not_eq_true', Bool.not_eq_false'] at h) <;> (conv => whnf))
      | (refine getB_of set_bx_same ?_; conv => whnf)
      | (refine getB_same ?_; conv => whnf)
      | (refine AWp.any (by kernel_rfl) (by kernel_rfl) (by kernel_rfl) ?_; conv => whnf)
      | (apply And.intro; (focus (first | omega | rfl | decide | exact Nat.le_of_ble_eq_true rfl | ((repeat' (first | exact all_nil | refine all_cons ?_ ?_ | rfl | fail)); done) | (simp [-List.length_flatMap]; done) | (simp [-List.length_flatMap]; omega) | fail)); conv => whnf)
      | fail)
    all_goals refine ⟨((((Sub.refl _).set h1 _ _).set (none_set h2).2 _ _).set (none_set (none_set h3).2).2 _ _).set (none_set (none_set h3).2).2 _ _, ?_⟩
    all_goals (unfold opV; rw [if_pos ho]; rfl)
  have hc : op = 4 ∨ op = 5 ∨ op = 6 ∨ op = 7 ∨ op = 8 ∨ op = 9 ∨ op = 10 ∨ op = 11 ∨ op = 12 ∨ op = 13 ∨ op = 14 ∨ op = 15 ∨ op = 16 := by omega
  clear ho
  rcases hc with rfl | rfl | rfl | rfl | rfl | rfl | rfl | rfl | rfl | rfl | rfl | rfl | rfl
  all_goals
    refine APure.of_awp Tryz.func26 rfl (Nat.le_of_ble_eq_true (by kernel_rfl)) (by kernel_rfl) ?_
    intro s
    conv => whnf
    intro c1 h1
    conv => whnf
    intro c2 h2
    conv => whnf
    intro c3 h3
    conv => whnf
    have n12 := ne_of_none set_bx_same h2
    have n23 := ne_of_none set_bx_same h3
    have n13 := ne_of_none ((set_bx_other n12).trans set_bx_same) h3
    repeat' (first
      | (refine ⟨Sub.refl _, ?_⟩)
      | (refine brA_split (fun h => ?_) (fun h => ?_) <;> (try rw [h]) <;> (try simp only [Bool.false_eq_true, Bool.true_eq_false, ↓reduceIte, decide_eq_true_eq, decide_eq_false_iff_not, Bool.not_eq_true', Bool.not_eq_false'] at h) <;> (conv => whnf))
      | (refine getB_of set_bx_same ?_; conv => whnf)
      | (refine getB_of ((set_bx_other n13).trans ((set_bx_other n12).trans set_bx_same)) ?_; conv => whnf)
      | (refine getB_of ((set_bx_other n23).trans set_bx_same) ?_; conv => whnf)
      | (refine EqAgg.of grdVl planVl ?_; conv => whnf)
      | (refine ACalls.pure' ?_ (type_ok _ _ _); rintro _ rfl; conv => whnf)
      | (refine DCall.pure ?_ (type_ok _ _ _); conv => whnf)
      | (refine ACalls.pure' ?_ (truth_ok _); rintro _ rfl; conv => whnf)
      | (refine DCall.pure ?_ (truth_ok _); conv => whnf)
      | (refine ACalls.pure' ?_ (less_ok (k, n, s1, t) (k2, n2, s2, t2)); rintro _ rfl; conv => whnf)
      | (refine DCall.pure ?_ (less_ok (k, n, s1, t) (k2, n2, s2, t2)); conv => whnf)
      | (refine ACalls.pure' ?_ (less_ok (k2, n2, s2, t2) (k, n, s1, t)); rintro _ rfl; conv => whnf)
      | (refine DCall.pure ?_ (less_ok (k2, n2, s2, t2) (k, n, s1, t)); conv => whnf)
      | (refine ACalls.pure' ?_ (text_ok _); rintro _ rfl; conv => whnf)
      | (refine DCall.pure ?_ (text_ok _); conv => whnf)
      | (refine ACalls.pure' ?_ (numOp_ok _ _ _ ha hb); rintro _ rfl; conv => whnf)
      | (refine DCall.pure ?_ (numOp_ok _ _ _ ha hb); conv => whnf)
      | (refine ACalls.pure' ?_ (int_ok _); rintro _ rfl; conv => whnf)
      | (refine DCall.pure ?_ (int_ok _); conv => whnf)
      | (refine getB_same ?_; conv => whnf)
      | (refine AWp.any (by kernel_rfl) (by kernel_rfl) (by kernel_rfl) ?_; conv => whnf)
      | (apply And.intro; (focus (first | omega | rfl | decide | exact Nat.le_of_ble_eq_true rfl | ((repeat' (first | exact all_nil | refine all_cons ?_ ?_ | rfl | fail)); done) | (simp [-List.length_flatMap]; done) | (simp [-List.length_flatMap]; omega) | fail)); conv => whnf)
      | fail)
    all_goals refine ⟨((((Sub.refl _).set h1 _ _).set (none_set h2).2 _ _).set (none_set (none_set h3).2).2 _ _).set (none_set (none_set h3).2).2 _ _, ?_⟩
    all_goals first
      | (have e0 := ‹typeOf _ k k2 = 0›; exact (congrArg resA (opV_none (a := (k, n, s1, t)) (b := (k2, n2, s2, t2)) (by omega) e0)).symm)
      | (have e1 := ‹¬typeOf _ k k2 = 0›; have e2 := ‹k = 2›; exact absurd e2 (type_two e1 (by omega) (by omega)))
      | (have e1 := ‹¬typeOf 8 k k2 = 0›; have e2 := ‹k = 2›; exact (congrArg resA (opV_text (a := (k, n, s1, t)) (b := (k2, n2, s2, t2)) rfl e1 e2)).symm)
      | (have e1 := ‹¬typeOf _ k k2 = 0›; have e2 := ‹¬k = 2›; have e3 := ‹opErr _ n n2 = 0›; exact (congrArg resA (numV_fine (a := (k, n, s1, t)) (b := (k2, n2, s2, t2)) (by omega) e1 e2 e3)).symm)
      | (have e1 := ‹¬typeOf _ k k2 = 0›; have e2 := ‹¬k = 2›; have e3 := ‹¬opErr _ n n2 = 0›; exact (congrArg resA (numV_err (a := (k, n, s1, t)) (b := (k2, n2, s2, t2)) (by omega) e1 e2 e3)).symm)
      | (have e1 := ‹¬typeOf 4 k k2 = 0›; exact (congrArg resA (opV_not (a := (k, n, s1, t)) (b := (k2, n2, s2, t2)) e1)).symm)
      | (have e1 := ‹¬typeOf 6 k k2 = 0›; refine Eq.trans ?_ (congrArg resA (opV_and (a := (k, n, s1, t)) (b := (k2, n2, s2, t2)) e1)).symm; cases t <;> first | rfl | simp_all)
      | (have e1 := ‹¬typeOf 7 k k2 = 0›; refine Eq.trans ?_ (congrArg resA (opV_or (a := (k, n, s1, t)) (b := (k2, n2, s2, t2)) e1)).symm; cases t <;> first | rfl | simp_all)
      | (have e1 := ‹¬typeOf 13 k k2 = 0›; refine Eq.trans ?_ (congrArg resA (opV_eq (a := (k, n, s1, t)) (b := (k2, n2, s2, t2)) e1)).symm; rw [← eq_vl]; rfl)
      | (have e1 := ‹¬typeOf 14 k k2 = 0›; refine Eq.trans ?_ (congrArg resA (opV_ne (a := (k, n, s1, t)) (b := (k2, n2, s2, t2)) e1)).symm; rw [← eq_vl]; rfl)
      | (have e1 := ‹¬typeOf 15 k k2 = 0›; exact (congrArg resA (opV_lt (a := (k, n, s1, t)) (b := (k2, n2, s2, t2)) e1)).symm)
      | (have e1 := ‹¬typeOf 16 k k2 = 0›; exact (congrArg resA (opV_le (a := (k, n, s1, t)) (b := (k2, n2, s2, t2)) e1)).symm)
end Go.Proofs.YtcgobgnbpeageaaGreatDoor.Va
