/- Chapter 3: what may be, what is ahead, kinds and names. -/
import Derived.Test.YtcgobgnbpeageaaGreatDoorVaA
set_option linter.all false
namespace Go.Proofs.YtcgobgnbpeageaaGreatDoor.Va
open Go Go.Ab Go.RowKit
variable {Γ : Nat → AV}
attribute [local irreducible] APure Sto.set Sto.grow
set_option maxRecDepth 10000

theorem grdVl : (!Tryz.prog.eqGuardType Tryz.prog.depth 23) = true := by kernel_rfl
theorem planVl : planT Tryz.prog 9999 23 = some [(0, 0), (1, 0), (2, 1), (3, 2)] := by kernel_rfl
theorem int_ok (n : Int) : APure Tryz.prog Γ 27 [.int .i64 n] fun v => v = .agg (vlA (1, n, [], false)) := by
  refine APure.of_awp Tryz.func27 rfl (Nat.le_of_ble_eq_true (by kernel_rfl)) (by kernel_rfl) ?_
  intro s
  conv => whnf
  intro b hb
  conv => whnf
  repeat' (first
    | (refine ⟨Sub.refl _, ?_⟩)
    | (refine brA_split (fun h => ?_) (fun h => ?_) <;> (try rw [h]) <;> (try simp only [Bool.false_eq_true, Bool.true_eq_false, ↓reduceIte, decide_eq_true_eq, decide_eq_false_iff_not, Bool.not_eq_true', Bool.not_eq_false'] at h) <;> (conv => whnf))
    | (refine getB_of set_bx_same ?_; conv => whnf)
    | (refine getB_same ?_; conv => whnf)
    | (refine AWp.any (by kernel_rfl) (by kernel_rfl) (by kernel_rfl) ?_; conv => whnf)
    | (apply And.intro; (focus (first | omega | rfl | decide | exact Nat.le_of_ble_eq_true rfl | ((repeat' (first | exact all_nil | refine all_cons ?_ ?_ | rfl | fail)); done) | (simp [-List.length_flatMap]; done) | (simp [-List.length_flatMap]; omega) | fail)); conv => whnf)
    | fail)
  exact ⟨((Sub.refl _).set hb _ _).set hb _ _, rfl⟩
theorem str_ok (s : List UInt8) : APure Tryz.prog Γ 28 [.str s] fun v => v = .agg (vlA (2, 0, s, false)) := by
  refine APure.of_awp Tryz.func28 rfl (Nat.le_of_ble_eq_true (by kernel_rfl)) (by kernel_rfl) ?_
  intro s
  conv => whnf
  intro b hb
  conv => whnf
  repeat' (first
    | (refine ⟨Sub.refl _, ?_⟩)
    | (refine brA_split (fun h => ?_) (fun h => ?_) <;> (try rw [h]) <;> (try simp only [Bool.false_eq_true, Bool.true_eq_false, ↓reduceIte, decide_eq_true_eq, decide_eq_false_iff_not, Bool.not_eq_true', Bool.not_eq_false'] at h) <;> (conv => whnf))
    | (refine getB_of set_bx_same ?_; conv => whnf)
    | (refine getB_same ?_; conv => whnf)
    | (refine AWp.any (by kernel_rfl) (by kernel_rfl) (by kernel_rfl) ?_; conv => whnf)
    | (apply And.intro; (focus (first | omega | rfl | decide | exact Nat.le_of_ble_eq_true rfl | ((repeat' (first | exact all_nil | refine all_cons ?_ ?_ | rfl | fail)); done) | (simp [-List.length_flatMap]; done) | (simp [-List.length_flatMap]; omega) | fail)); conv => whnf)
    | fail)
  exact ⟨((Sub.refl _).set hb _ _).set hb _ _, rfl⟩
theorem bool_ok (t : Bool) : APure Tryz.prog Γ 23 [.bool t] fun v => v = .agg (vlA (3, 0, [], t)) := by
  refine APure.of_awp Tryz.func23 rfl (Nat.le_of_ble_eq_true (by kernel_rfl)) (by kernel_rfl) ?_
  intro s
  conv => whnf
  intro b hb
  conv => whnf
  repeat' (first
    | (refine ⟨Sub.refl _, ?_⟩)
    | (refine brA_split (fun h => ?_) (fun h => ?_) <;> (try rw [h]) <;> (try simp only [Bool.false_eq_true, Bool.true_eq_false, ↓reduceIte, decide_eq_true_eq, decide_eq_false_iff_not, Bool.not_eq_true', Bool.not_eq_false'] at h) <;> (conv => whnf))
    | (refine getB_of set_bx_same ?_; conv => whnf)
    | (refine getB_same ?_; conv => whnf)
    | (refine AWp.any (by kernel_rfl) (by kernel_rfl) (by kernel_rfl) ?_; conv => whnf)
    | (apply And.intro; (focus (first | omega | rfl | decide | exact Nat.le_of_ble_eq_true rfl | ((repeat' (first | exact all_nil | refine all_cons ?_ ?_ | rfl | fail)); done) | (simp [-List.length_flatMap]; done) | (simp [-List.length_flatMap]; omega) | fail)); conv => whnf)
    | fail)
  exact ⟨((Sub.refl _).set hb _ _).set hb _ _, rfl⟩
theorem right_ok (v : Vl) : APure Tryz.prog Γ 12 [.agg (vlA v)] fun x => x = .bool (right v) := by
  obtain ⟨k, n, s, t⟩ := v
  refine APure.of_awp Tryz.func12 rfl (Nat.le_of_ble_eq_true (by kernel_rfl)) (by kernel_rfl) ?_
  intro s
  conv => whnf
  intro b hb
  conv => whnf
  repeat' (first
    | (refine ⟨Sub.refl _, ?_⟩)
    | (refine brA_split (fun h => ?_) (fun h => ?_) <;> (try rw [h]) <;> (try simp only [Bool.false_eq_true, Bool.true_eq_false, ↓reduceIte, decide_eq_true_eq, decide_eq_false_iff_not, Bool.not_eq_true', Bool.not_eq_false'] at h) <;> (conv => whnf))
    | (refine ACalls.pure' ?_ (int_ok _); rintro _ rfl; conv => whnf)
    | (refine DCall.pure ?_ (int_ok _); conv => whnf)
    | (refine ACalls.pure' ?_ (str_ok _); rintro _ rfl; conv => whnf)
    | (refine DCall.pure ?_ (str_ok _); conv => whnf)
    | (refine ACalls.pure' ?_ (bool_ok _); rintro _ rfl; conv => whnf)
    | (refine DCall.pure ?_ (bool_ok _); conv => whnf)
    | (refine EqAgg.of grdVl planVl ?_; conv => whnf)
    | (refine getB_same ?_; conv => whnf)
    | (refine AWp.any (by kernel_rfl) (by kernel_rfl) (by kernel_rfl) ?_; conv => whnf)
    | (apply And.intro; (focus (first | omega | rfl | decide | exact Nat.le_of_ble_eq_true rfl | ((repeat' (first | exact all_nil | refine all_cons ?_ ?_ | rfl | fail)); done) | (simp [-List.length_flatMap]; done) | (simp [-List.length_flatMap]; omega) | fail)); conv => whnf)
    | fail)
  all_goals refine ⟨(Sub.refl _).set hb _ _, bool_eq ?_⟩
  all_goals (try simp only [] at *)
  all_goals grind [right]
theorem refRight_ok (v : Vl) : APure Tryz.prog Γ 11 [.agg (vlA v)] fun x => x = .bool (right v) := by
  obtain ⟨k, n, s, t⟩ := v
  refine APure.of_awp Tryz.func11 rfl (Nat.le_of_ble_eq_true (by kernel_rfl)) (by kernel_rfl) ?_
  intro s
  conv => whnf
  intro b hb
  conv => whnf
  repeat' (first
    | (refine ⟨Sub.refl _, ?_⟩)
    | (refine brA_split (fun h => ?_) (fun h => ?_) <;> (try rw [h]) <;> (try simp only [Bool.false_eq_true, Bool.true_eq_false, ↓reduceIte, decide_eq_true_eq, decide_eq_false_iff_not, Bool.not_eq_true', Bool.not_eq_false'] at h) <;> (conv => whnf))
    | (refine getB_same ?_; conv => whnf)
    | (refine AWp.any (by kernel_rfl) (by kernel_rfl) (by kernel_rfl) ?_; conv => whnf)
    | (apply And.intro; (focus (first | omega | rfl | decide | exact Nat.le_of_ble_eq_true rfl | ((repeat' (first | exact all_nil | refine all_cons ?_ ?_ | rfl | fail)); done) | (simp [-List.length_flatMap]; done) | (simp [-List.length_flatMap]; omega) | fail)); conv => whnf)
    | fail)
  all_goals refine ⟨(Sub.refl _).set hb _ _, bool_eq ?_⟩
  all_goals (try simp only [] at *)
  all_goals grind [right]

theorem below_ok (a b : List UInt8) (hl : a.length ≤ 140737488355328) : APure Tryz.prog Γ 39 [.str a, .str b] fun v => v = .bool (Op.bytesLess a b) := by
  refine APure.of_awp Tryz.func39 rfl (Nat.le_of_ble_eq_true (by kernel_rfl)) (by kernel_rfl) ?_
  intro s
  conv => whnf
  repeat' (first
    | (refine ⟨Sub.refl _, ?_⟩)
    | (refine brA_split (fun h => ?_) (fun h => ?_) <;> (try rw [h]) <;> (try simp only [Bool.false_eq_true, Bool.true_eq_false, ↓reduceIte, decide_eq_true_eq, decide_eq_false_iff_not, Bool.not_eq_true', Bool.not_eq_false'] at h) <;> (conv => whnf))
    | (refine getB_same ?_; conv => whnf)
    | (refine AWp.any (by kernel_rfl) (by kernel_rfl) (by kernel_rfl) ?_; conv => whnf)
    | (apply And.intro; (focus (first | omega | rfl | decide | exact Nat.le_of_ble_eq_true rfl | ((repeat' (first | exact all_nil | refine all_cons ?_ ?_ | rfl | fail)); done) | (simp [-List.length_flatMap]; done) | (simp [-List.length_flatMap]; omega) | fail)); conv => whnf)
    | fail)
  refine AWp.loopA [5] [6, 7, 8, 9, 10, 11, 12, 13, 14, 15, 18, 19, 20, 21, 22, 23, 24, 25, 26, 27, 28, 29, 30, 31, 4, 16, 17] (fun i : Nat => [.int .i64 i]) (fun i s' => i ≤ a.length ∧ i ≤ b.length ∧ s' = s ∧ Op.bytesLess a b = Op.bytesLess (a.drop i) (b.drop i)) (fun i => a.length - i) (0) (by kernel_rfl) (by (repeat' (first | refine cons_eq ?_ ?_ | refine int64_of ?_ ?_ ?_ | rfl | omega))) ?_ ?_
  · exact ⟨by omega, by omega, rfl, by simp⟩
  · rintro y i s1 ⟨hi, hj, rfl, hp⟩
    conv => whnf
    repeat' (first
      | (refine ⟨Sub.refl _, ?_⟩)
      | (refine brA_split (fun h => ?_) (fun h => ?_) <;> (try rw [h]) <;> (try simp only [Bool.false_eq_true, Bool.true_eq_false, ↓reduceIte, decide_eq_true_eq, decide_eq_false_iff_not, Bool.not_eq_true', Bool.not_eq_false'] at h) <;> (conv => whnf))
      | (refine getB_same ?_; conv => whnf)
      | (refine AWp.any (by kernel_rfl) (by kernel_rfl) (by kernel_rfl) ?_; conv => whnf)
      | (apply And.intro; (focus (first | omega | rfl | decide | exact Nat.le_of_ble_eq_true rfl | ((repeat' (first | exact all_nil | refine all_cons ?_ ?_ | rfl | fail)); done) | (simp [-List.length_flatMap]; done) | (simp [-List.length_flatMap]; omega) | fail)); conv => whnf)
      | fail)
    all_goals try simp only [Int.toNat_natCast] at *
    all_goals first
      | (refine bool_eq ?_
         rw [hp, bl_step (by omega) (by omega), decide_eq_false (p := (byteAt a i).toNat = (byteAt b i).toNat) (by omega), Bool.false_and, Bool.or_false]
         exact decide_eq_decide.2 (by omega))
      | (refine ⟨i + 1, by (repeat' (first | refine cons_eq ?_ ?_ | refine int64_of ?_ ?_ ?_ | rfl | omega)), by (repeat (first | exact Same.refl _ _ | refine Same.upd rfl ?_ | refine Same.updL rfl ?_ | refine Same.havoc rfl ?_)), ⟨by omega, by omega, (by first | rfl | trivial), ?_⟩, by omega⟩
         rw [hp, bl_step (by omega) (by omega), decide_eq_true (p := (byteAt a i).toNat = (byteAt b i).toNat) (by omega), decide_eq_false (p := (byteAt a i).toNat < (byteAt b i).toNat) (by omega), Bool.true_and, Bool.false_or])
      | (refine bool_eq ?_
         rw [hp, bl_end (by omega) (by omega) (by omega)]
         exact decide_eq_decide.2 (by omega))
theorem less_ok (a b : Vl) : APure Tryz.prog Γ 17 [.agg (vlA a), .agg (vlA b)] fun x => x = .bool (less a b) := by
  obtain ⟨k, n, s, t⟩ := a
  obtain ⟨k2, n2, s2, t2⟩ := b
  refine APure.of_awp Tryz.func17 rfl (Nat.le_of_ble_eq_true (by kernel_rfl)) (by kernel_rfl) ?_
  intro s
  conv => whnf
  intro b hb
  conv => whnf
  intro b2 hb2
  conv => whnf
  repeat' (first
    | (refine ⟨Sub.refl _, ?_⟩)
    | (refine brA_split (fun h => ?_) (fun h => ?_) <;> (try rw [h]) <;> (try simp only [Bool.false_eq_true, Bool.true_eq_false, ↓reduceIte, decide_eq_true_eq, decide_eq_false_iff_not, Bool.not_eq_true', Bool.not_eq_false'] at h) <;> (conv => whnf))
    | (refine getB_other (ne_of_none set_bx_same hb2) (getB_of set_bx_same ?_); conv => whnf)
    | (refine getB_same ?_; conv => whnf)
    | (refine AWp.any (by kernel_rfl) (by kernel_rfl) (by kernel_rfl) ?_; conv => whnf)
    | (apply And.intro; (focus (first | omega | rfl | decide | exact Nat.le_of_ble_eq_true rfl | ((repeat' (first | exact all_nil | refine all_cons ?_ ?_ | rfl | fail)); done) | (simp [-List.length_flatMap]; done) | (simp [-List.length_flatMap]; omega) | fail)); conv => whnf)
    | fail)
  all_goals refine ⟨((Sub.refl _).set hb _ _).set (none_set hb2).2 _ _, bool_eq ?_⟩
  all_goals (try simp only [] at *)
  all_goals grind [less]
theorem refLess_ok (a b : Vl) (hl : a.2.2.1.length ≤ 140737488355328) : APure Tryz.prog Γ 18 [.agg (vlA a), .agg (vlA b)] fun x => x = .bool (less a b) := by
  obtain ⟨k, n, s, t⟩ := a
  obtain ⟨k2, n2, s2, t2⟩ := b
  refine APure.of_awp Tryz.func18 rfl (Nat.le_of_ble_eq_true (by kernel_rfl)) (by kernel_rfl) ?_
  intro s
  conv => whnf
  intro b hb
  conv => whnf
  intro b2 hb2
  conv => whnf
  repeat' (first
    | (refine ⟨Sub.refl _, ?_⟩)
    | (refine brA_split (fun h => ?_) (fun h => ?_) <;> (try rw [h]) <;> (try simp only [Bool.false_eq_true, Bool.true_eq_false, ↓reduceIte, decide_eq_true_eq, decide_eq_false_iff_not, Bool.not_eq_true', Bool.not_eq_false'] at h) <;> (conv => whnf))
    | (refine getB_other (ne_of_none set_bx_same hb2) (getB_of set_bx_same ?_); conv => whnf)
    | (refine ACalls.pure' ?_ (below_ok _ _ hl); rintro _ rfl; conv => whnf)
    | (refine DCall.pure ?_ (below_ok _ _ hl); conv => whnf)
    | (refine getB_same ?_; conv => whnf)
    | (refine AWp.any (by kernel_rfl) (by kernel_rfl) (by kernel_rfl) ?_; conv => whnf)
    | (apply And.intro; (focus (first | omega | rfl | decide | exact Nat.le_of_ble_eq_true rfl | ((repeat' (first | exact all_nil | refine all_cons ?_ ?_ | rfl | fail)); done) | (simp [-List.length_flatMap]; done) | (simp [-List.length_flatMap]; omega) | fail)); conv => whnf)
    | fail)
  all_goals refine ⟨((Sub.refl _).set hb _ _).set (none_set hb2).2 _ _, bool_eq ?_⟩
  all_goals (try simp only [] at *)
  all_goals grind [less]

def nameOf (k : Int) : List UInt8 := if k = 1 then [105, 110, 116] else if k = 2 then [115, 116, 114, 105, 110, 103] else if k = 3 then [98, 111, 111, 108] else []
def kindOf (s : List UInt8) : Int := if s = [105, 110, 116] then 1 else if s = [115, 116, 114, 105, 110, 103] then 2 else if s = [98, 111, 111, 108] then 3 else 0
theorem name_ok (k : Int) : APure Tryz.prog Γ 21 [.int .i64 k] fun v => v = .str (nameOf k) := by
  refine APure.of_awp Tryz.func21 rfl (Nat.le_of_ble_eq_true (by kernel_rfl)) (by kernel_rfl) ?_
  intro s
  conv => whnf
  repeat' (first
    | (refine ⟨Sub.refl _, ?_⟩)
    | (refine brA_split (fun h => ?_) (fun h => ?_) <;> (try rw [h]) <;> (try simp only [Bool.false_eq_true, Bool.true_eq_false, ↓reduceIte, decide_eq_true_eq, decide_eq_false_iff_not, Bool.not_eq_true', Bool.not_eq_false'] at h) <;> (conv => whnf))
    | (refine getB_same ?_; conv => whnf)
    | (refine AWp.any (by kernel_rfl) (by kernel_rfl) (by kernel_rfl) ?_; conv => whnf)
    | (apply And.intro; (focus (first | omega | rfl | decide | exact Nat.le_of_ble_eq_true rfl | ((repeat' (first | exact all_nil | refine all_cons ?_ ?_ | rfl | fail)); done) | (simp [-List.length_flatMap]; done) | (simp [-List.length_flatMap]; omega) | fail)); conv => whnf)
    | fail)
  all_goals refine congrArg AV.str ?_
  all_goals grind [nameOf]
theorem kind_ok (l : List UInt8) : APure Tryz.prog Γ 22 [.str l] fun v => v = .int .i64 (kindOf l) := by
  refine APure.of_awp Tryz.func22 rfl (Nat.le_of_ble_eq_true (by kernel_rfl)) (by kernel_rfl) ?_
  intro s
  conv => whnf
  repeat' (first
    | (refine ⟨Sub.refl _, ?_⟩)
    | (refine brA_split (fun h => ?_) (fun h => ?_) <;> (try rw [h]) <;> (try simp only [Bool.false_eq_true, Bool.true_eq_false, ↓reduceIte, decide_eq_true_eq, decide_eq_false_iff_not, Bool.not_eq_true', Bool.not_eq_false'] at h) <;> (conv => whnf))
    | (refine getB_same ?_; conv => whnf)
    | (refine AWp.any (by kernel_rfl) (by kernel_rfl) (by kernel_rfl) ?_; conv => whnf)
    | (apply And.intro; (focus (first | omega | rfl | decide | exact Nat.le_of_ble_eq_true rfl | ((repeat' (first | exact all_nil | refine all_cons ?_ ?_ | rfl | fail)); done) | (simp [-List.length_flatMap]; done) | (simp [-List.length_flatMap]; omega) | fail)); conv => whnf)
    | fail)
  refine AWp.loopA [3] [4, 5, 8, 9, 10, 11, 12, 2, 6, 7] (fun k : Nat => [.int .i64 k]) (fun k s' => 1 ≤ k ∧ k ≤ 4 ∧ s' = s ∧ ∀ j : Nat, 1 ≤ j → j < k → nameOf j ≠ l) (fun k => 4 - k) (1) (by kernel_rfl) (by (repeat' (first | refine cons_eq ?_ ?_ | refine int64_of ?_ ?_ ?_ | rfl | omega))) ?_ ?_
  · exact ⟨by omega, by omega, rfl, fun j h1 h2 => by omega⟩
  · rintro y k s1 ⟨h1, h2, rfl, hp⟩
    conv => whnf
    repeat' (first
      | (refine ⟨Sub.refl _, ?_⟩)
      | (refine brA_split (fun h => ?_) (fun h => ?_) <;> (try rw [h]) <;> (try simp only [Bool.false_eq_true, Bool.true_eq_false, ↓reduceIte, decide_eq_true_eq, decide_eq_false_iff_not, Bool.not_eq_true', Bool.not_eq_false'] at h) <;> (conv => whnf))
      | (refine ACalls.pure' ?_ (name_ok _); rintro _ rfl; conv => whnf)
      | (refine DCall.pure ?_ (name_ok _); conv => whnf)
      | (refine getB_same ?_; conv => whnf)
      | (refine AWp.any (by kernel_rfl) (by kernel_rfl) (by kernel_rfl) ?_; conv => whnf)
      | (apply And.intro; (focus (first | omega | rfl | decide | exact Nat.le_of_ble_eq_true rfl | ((repeat' (first | exact all_nil | refine all_cons ?_ ?_ | rfl | fail)); done) | (simp [-List.length_flatMap]; done) | (simp [-List.length_flatMap]; omega) | fail)); conv => whnf)
      | fail)
    all_goals first
      | (refine congrArg (AV.int .i64) ?_
         have : k = 1 ∨ k = 2 ∨ k = 3 := by omega
         rcases this with rfl | rfl | rfl <;> (subst l; rfl))
      | (refine ⟨k + 1, by (repeat' (first | refine cons_eq ?_ ?_ | refine int64_of ?_ ?_ ?_ | rfl | omega)), by (repeat (first | exact Same.refl _ _ | refine Same.upd rfl ?_ | refine Same.updL rfl ?_ | refine Same.havoc rfl ?_)), ⟨by omega, by omega, (by first | rfl | trivial), fun j hj1 hj2 => ?_⟩, by omega⟩
         rcases Nat.lt_or_ge j k with h | h
         · exact hp j hj1 h
         · have : j = k := by omega
           subst this
           assumption)
      | (refine congrArg (AV.int .i64) ?_
         have e : k = 4 := by omega
         subst e
         have := hp 1 (by omega) (by omega)
         have := hp 2 (by omega) (by omega)
         have := hp 3 (by omega) (by omega)
         grind [nameOf, kindOf])

def typeOf (op a b : Int) : Int :=
  if op = 4 then (if a = 3 then 3 else 0)
  else if op = 6 ∨ op = 7 then (if a = 3 ∧ b = a then 3 else 0)
  else if op = 5 then (if a = 1 then a else 0)
  else if op = 9 ∨ op = 10 ∨ op = 11 ∨ op = 12 then (if a = 1 ∧ b = a then a else 0)
  else if op = 8 then (if (a = 1 ∨ a = 2) ∧ b = a then a else 0)
  else if op = 13 ∨ op = 14 then (if (1 ≤ a ∧ a ≤ 3) ∧ b = a then 3 else 0)
  else if op = 15 ∨ op = 16 then (if (a = 1 ∨ a = 2) ∧ b = a then 3 else 0)
  else 0
theorem when_ok (t : Bool) (k : Int) : APure Tryz.prog Γ 40 [.bool t, .int .i64 k] fun v => v = .int .i64 (if t then k else 0) := by
  refine APure.of_awp Tryz.func40 rfl (Nat.le_of_ble_eq_true (by kernel_rfl)) (by kernel_rfl) ?_
  intro s
  conv => whnf
  repeat' (first
    | (refine ⟨Sub.refl _, ?_⟩)
    | (refine brA_split (fun h => ?_) (fun h => ?_) <;> (try rw [h]) <;> (try simp only [Bool.false_eq_true, Bool.true_eq_false, ↓reduceIte, decide_eq_true_eq, decide_eq_false_iff_not, Bool.not_eq_true', Bool.not_eq_false'] at h) <;> (conv => whnf))
    | (refine getB_same ?_; conv => whnf)
    | (refine AWp.any (by kernel_rfl) (by kernel_rfl) (by kernel_rfl) ?_; conv => whnf)
    | (apply And.intro; (focus (first | omega | rfl | decide | exact Nat.le_of_ble_eq_true rfl | ((repeat' (first | exact all_nil | refine all_cons ?_ ?_ | rfl | fail)); done) | (simp [-List.length_flatMap]; done) | (simp [-List.length_flatMap]; omega) | fail)); conv => whnf)
    | fail)
  all_goals (rw [h]; rfl)
theorem nameOf_none (k : Int) : nameOf k = [] ↔ ¬ (1 ≤ k ∧ k ≤ 3) := by
  grind [nameOf]
theorem type_ok (op a b : Int) : APure Tryz.prog Γ 24 [.int .i64 op, .int .i64 a, .int .i64 b] fun v => v = .int .i64 (typeOf op a b) := by
  have hn := nameOf_none a
  refine APure.of_awp Tryz.func24 rfl (Nat.le_of_ble_eq_true (by kernel_rfl)) (by kernel_rfl) ?_
  intro s
  conv => whnf
  repeat' (first
    | (exfalso; omega)
    | (refine ⟨Sub.refl _, ?_⟩)
    | (refine brA_split (fun h => ?_) (fun h => ?_) <;> (try rw [h]) <;> (try simp only [Bool.false_eq_true, Bool.true_eq_false, ↓reduceIte, decide_eq_true_eq, decide_eq_false_iff_not, Bool.not_eq_true', Bool.not_eq_false'] at h) <;> (conv => whnf))
    | (refine ACalls.pure' ?_ (when_ok _ _); rintro _ rfl; conv => whnf)
    | (refine DCall.pure ?_ (when_ok _ _); conv => whnf)
    | (refine ACalls.pure' ?_ (name_ok _); rintro _ rfl; conv => whnf)
    | (refine DCall.pure ?_ (name_ok _); conv => whnf)
    | (refine getB_same ?_; conv => whnf)
    | (refine AWp.any (by kernel_rfl) (by kernel_rfl) (by kernel_rfl) ?_; conv => whnf)
    | (apply And.intro; (focus (first | omega | rfl | decide | exact Nat.le_of_ble_eq_true rfl | ((repeat' (first | exact all_nil | refine all_cons ?_ ?_ | rfl | fail)); done) | (simp [-List.length_flatMap]; done) | (simp [-List.length_flatMap]; omega) | fail)); conv => whnf)
    | fail)
  all_goals refine congrArg (AV.int .i64) ?_
  all_goals grind [typeOf]
end Go.Proofs.YtcgobgnbpeageaaGreatDoor.Va
