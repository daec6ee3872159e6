
/- Chapter 10: lists are compared, element by element. -/
import Derived.Test.YtbhemiimdfhjbaaGreatDoorTrA
namespace Go.Proofs.YtbhemiimdfhjbaaGreatDoor.Tr
open Go Go.Ab Go.RowKit
variable {Γ : Nat → AV}
attribute [local irreducible] APure Sto.set Sto.grow
set_option maxRecDepth 10000

theorem equalInts_ok (ta tb : Nat) (a b : List Int) (hl : a.length ≤ 140737488355328) : APure Tryz.prog Γ 56 [.slice ta (intsA .i64 a), .slice tb (intsA .i64 b)] fun v => v = .bool (decide (a = b)) := by
  have hla := intsA_len .i64 a
  have hlb := intsA_len .i64 b
  refine APure.of_awp Tryz.func56 rfl (Nat.le_of_ble_eq_true (by kernel_rfl)) (by kernel_rfl) ?_
  intro s
  conv => whnf
  repeat' (first
    | (refine ⟨Sub.refl _, ?_⟩)
    | (refine brA_split (fun h => ?_) (fun h => ?_) <;> (try rw [h]) <;> (try simp only [Bool.false_eq_true, Bool.true_eq_false, ↓reduceIte, decide_eq_true_eq, decide_eq_false_iff_not, Bool.not_eq_true', Bool.not_eq_false'] at h) <;> (conv => whnf))
    | (refine getB_same ?_; conv => whnf)
    | (refine AWp.any (by kernel_rfl) (by kernel_rfl) (by kernel_rfl) ?_; conv => whnf)
    | (apply And.intro; (focus (first | omega | rfl | decide | exact Nat.le_of_ble_eq_true rfl | ((repeat' (first | exact all_nil | refine all_cons ?_ ?_ | rfl | fail)); done) | (simp [-List.length_flatMap]; done) | (simp [-List.length_flatMap]; omega) | fail)); conv => whnf)
    | fail)
  · refine bool_eq (decide_eq_false ?_).symm
    rintro rfl
    omega
  refine AWp.loopA [13] [14, 15, 5, 16, 17, 18, 19, 20, 21, 22, 23, 24, 4, 25] (fun i : Nat => [.int .i64 i]) (fun i s' => i ≤ a.length ∧ s' = s ∧ decide (a = b) = decide (a.drop i = b.drop i)) (fun i => a.length - i) (0) (by kernel_rfl) (by (repeat' (first | refine cons_eq ?_ ?_ | refine int64_of ?_ ?_ ?_ | rfl | omega))) ?_ ?_
  · exact ⟨by omega, rfl, by simp⟩
  · rintro y i s1 ⟨hi, rfl, hp⟩
    conv => whnf
    repeat' (first
      | (refine ⟨Sub.refl _, ?_⟩)
      | (refine brA_split (fun h => ?_) (fun h => ?_) <;> (try rw [h]) <;> (try simp only [Bool.false_eq_true, Bool.true_eq_false, ↓reduceIte, decide_eq_true_eq, decide_eq_false_iff_not, Bool.not_eq_true', Bool.not_eq_false'] at h) <;> (conv => whnf))
      | (rw [intsA_get (by omega)]; conv => whnf)
      | (rw [intsA_get (by omega)]; conv => whnf)
      | (refine getB_same ?_; conv => whnf)
      | (refine AWp.any (by kernel_rfl) (by kernel_rfl) (by kernel_rfl) ?_; conv => whnf)
      | (apply And.intro; (focus (first | omega | rfl | decide | exact Nat.le_of_ble_eq_true rfl | ((repeat' (first | exact all_nil | refine all_cons ?_ ?_ | rfl | fail)); done) | (simp [-List.length_flatMap]; done) | (simp [-List.length_flatMap]; omega) | fail)); conv => whnf)
      | fail)
    all_goals try simp only [Int.toNat_natCast] at *
    · refine bool_eq ?_
      rw [hp, drop_eq_iff (d := 0) (by omega) (by omega), decide_eq_false h]
      rfl
    · refine ⟨i + 1, by (repeat' (first | refine cons_eq ?_ ?_ | refine int64_of ?_ ?_ ?_ | rfl | omega)), by (repeat (first | exact Same.refl _ _ | refine Same.upd rfl ?_ | refine Same.updL rfl ?_ | refine Same.havoc rfl ?_)), ⟨by omega, (by first | rfl | trivial), ?_⟩, by omega⟩
      rw [hp, drop_eq_iff (d := 0) (by omega) (by omega), decide_eq_true h, Bool.true_and]
    · rw [hp, drop_end (by omega), drop_end (by omega)]
      rfl

theorem grdIdn : (!Tryz.prog.eqGuardType Tryz.prog.depth 23) = true := by kernel_rfl
theorem planIdn : planT Tryz.prog 9999 23 = some [(0, 1), (1, 0), (2, 0)] := by kernel_rfl
theorem grdVl : (!Tryz.prog.eqGuardType Tryz.prog.depth 41) = true := by kernel_rfl
theorem planVl : planT Tryz.prog 9999 41 = some [(0, 0), (1, 0), (2, 1), (3, 2)] := by kernel_rfl
theorem grdQu : (!Tryz.prog.eqGuardType Tryz.prog.depth 57) = true := by kernel_rfl
theorem planQu : planT Tryz.prog 9999 57 = some [(0, 2), (1, 1), (2, 0), (3, 0), (4, 0)] := by kernel_rfl
theorem grdFr : (!Tryz.prog.eqGuardType Tryz.prog.depth 43) = true := by kernel_rfl
theorem planFr : planT Tryz.prog 9999 43 = some [(0, 1), (1, 0), (2, 0), (3, 0), (4, 0), (5, 1), (6, 2)] := by kernel_rfl
theorem grdSt : (!Tryz.prog.eqGuardType Tryz.prog.depth 60) = true := by kernel_rfl
theorem planSt : planT Tryz.prog 9999 60 = some [(0, 1), (1, 0), (2, 0), (3, 2), (4, 2)] := by kernel_rfl
theorem grdAr : (!Tryz.prog.eqGuardType Tryz.prog.depth 102) = true := by kernel_rfl
theorem planAr : planT Tryz.prog 9999 102 = some [(0, 0), (1, 1), (2, 0), (3, 0), (4, 1), (5, 2), (6, 0), (7, 0)] := by kernel_rfl
theorem grdEx : (!Tryz.prog.eqGuardType Tryz.prog.depth 53) = true := by kernel_rfl
theorem planEx : planT Tryz.prog 9999 53 = some [(0, 0), (1, 0), (2, 0), (3, 1), (4, 0), (5, 0), (6, 1), (7, 2), (8, 0), (9, 0)] := by kernel_rfl
theorem grdSe : (!Tryz.prog.eqGuardType Tryz.prog.depth 92) = true := by kernel_rfl
theorem planSe : planT Tryz.prog 9999 92 = some [(0, 1), (1, 0), (2, 0), (3, 0)] := by kernel_rfl

theorem equalQu_ok (ta tb : Nat) (a b : List Qu) (hl : a.length ≤ 140737488355328) : APure Tryz.prog Γ 57 [.slice ta (a.map quA), .slice tb (b.map quA)] fun v => v = .bool (decide (a = b)) := by
  have hla : (a.map quA).length = a.length := List.length_map ..
  have hlb : (b.map quA).length = b.length := List.length_map ..
  refine APure.of_awp Tryz.func57 rfl (Nat.le_of_ble_eq_true (by kernel_rfl)) (by kernel_rfl) ?_
  intro s
  conv => whnf
  repeat' (first
    | (refine ⟨Sub.refl _, ?_⟩)
    | (refine brA_split (fun h => ?_) (fun h => ?_) <;> (try rw [h]) <;> (try simp only [Bool.false_eq_true, Bool.true_eq_false, ↓reduceIte, decide_eq_true_eq, decide_eq_false_iff_not, Bool.not_eq_true', Bool.not_eq_false'] at h) <;> (conv => whnf))
    | (refine getB_same ?_; conv => whnf)
    | (refine AWp.any (by kernel_rfl) (by kernel_rfl) (by kernel_rfl) ?_; conv => whnf)
    | (apply And.intro; (focus (first | omega | rfl | decide | exact Nat.le_of_ble_eq_true rfl | ((repeat' (first | exact all_nil | refine all_cons ?_ ?_ | rfl | fail)); done) | (simp [-List.length_flatMap]; done) | (simp [-List.length_flatMap]; omega) | fail)); conv => whnf)
    | fail)
  · refine bool_eq (decide_eq_false ?_).symm
    rintro rfl
    omega
  refine AWp.loopA [13] [14, 15, 5, 16, 17, 18, 19, 20, 21, 22, 23, 24, 4, 25] (fun i : Nat => [.int .i64 i]) (fun i s' => i ≤ a.length ∧ s' = s ∧ decide (a = b) = decide (a.drop i = b.drop i)) (fun i => a.length - i) (0) (by kernel_rfl) (by (repeat' (first | refine cons_eq ?_ ?_ | refine int64_of ?_ ?_ ?_ | rfl | omega))) ?_ ?_
  · exact ⟨by omega, rfl, by simp⟩
  · rintro y i s1 ⟨hi, rfl, hp⟩
    conv => whnf
    have hga := fun h : i < a.length => map_get (f := quA) (l := a) noQu h
    have hgb := fun h : i < b.length => map_get (f := quA) (l := b) noQu h
    have he := eq_qu (a.getD i noQu) (b.getD i noQu)
    have hd := fun (h : i < a.length) (h' : i < b.length) => drop_eq_iff (d := noQu) h h'
    generalize a.getD i noQu = x at *
    generalize b.getD i noQu = z at *
    repeat' (first
      | (refine ⟨Sub.refl _, ?_⟩)
      | (refine brA_split (fun h => ?_) (fun h => ?_) <;> (try rw [h]) <;> (try simp only [Bool.false_eq_true, Bool.true_eq_false, ↓reduceIte, decide_eq_true_eq, decide_eq_false_iff_not, Bool.not_eq_true', Bool.not_eq_false'] at h) <;> (conv => whnf))
      | (rw [show (a.map quA).getD ((i : Int)).toNat [] = _ from hga (by omega)]; conv => whnf)
      | (rw [show (b.map quA).getD ((i : Int)).toNat [] = _ from hgb (by omega)]; conv => whnf)
      | (refine EqAgg.of grdQu planQu ?_; conv => whnf)
      | (refine getB_same ?_; conv => whnf)
      | (refine AWp.any (by kernel_rfl) (by kernel_rfl) (by kernel_rfl) ?_; conv => whnf)
      | (apply And.intro; (focus (first | omega | rfl | decide | exact Nat.le_of_ble_eq_true rfl | ((repeat' (first | exact all_nil | refine all_cons ?_ ?_ | rfl | fail)); done) | (simp [-List.length_flatMap]; done) | (simp [-List.length_flatMap]; omega) | fail)); conv => whnf)
      | fail)
    · refine bool_eq ?_
      rw [hp, hd (by omega) (by omega), ← he, h]
      rfl
    · refine ⟨i + 1, by (repeat' (first | refine cons_eq ?_ ?_ | refine int64_of ?_ ?_ ?_ | rfl | omega)), by (repeat (first | exact Same.refl _ _ | refine Same.upd rfl ?_ | refine Same.updL rfl ?_ | refine Same.havoc rfl ?_)), ⟨by omega, (by first | rfl | trivial), ?_⟩, by omega⟩
      rw [hp, hd (by omega) (by omega), ← he, h, Bool.true_and]
    · rw [hp, drop_end (by omega), drop_end (by omega)]
      rfl

theorem equalFr_ok (ta tb : Nat) (a b : List Fr) (hl : a.length ≤ 140737488355328) : APure Tryz.prog Γ 58 [.slice ta (a.map frA), .slice tb (b.map frA)] fun v => v = .bool (decide (a = b)) := by
  have hla : (a.map frA).length = a.length := List.length_map ..
  have hlb : (b.map frA).length = b.length := List.length_map ..
  refine APure.of_awp Tryz.func58 rfl (Nat.le_of_ble_eq_true (by kernel_rfl)) (by kernel_rfl) ?_
  intro s
  conv => whnf
  repeat' (first
    | (refine ⟨Sub.refl _, ?_⟩)
    | (refine brA_split (fun h => ?_) (fun h => ?_) <;> (try rw [h]) <;> (try simp only [Bool.false_eq_true, Bool.true_eq_false, ↓reduceIte, decide_eq_true_eq, decide_eq_false_iff_not, Bool.not_eq_true', Bool.not_eq_false'] at h) <;> (conv => whnf))
    | (refine getB_same ?_; conv => whnf)
    | (refine AWp.any (by kernel_rfl) (by kernel_rfl) (by kernel_rfl) ?_; conv => whnf)
    | (apply And.intro; (focus (first | omega | rfl | decide | exact Nat.le_of_ble_eq_true rfl | ((repeat' (first | exact all_nil | refine all_cons ?_ ?_ | rfl | fail)); done) | (simp [-List.length_flatMap]; done) | (simp [-List.length_flatMap]; omega) | fail)); conv => whnf)
    | fail)
  · refine bool_eq (decide_eq_false ?_).symm
    rintro rfl
    omega
  refine AWp.loopA [13] [14, 15, 5, 16, 17, 18, 19, 20, 21, 22, 23, 24, 4, 25] (fun i : Nat => [.int .i64 i]) (fun i s' => i ≤ a.length ∧ s' = s ∧ decide (a = b) = decide (a.drop i = b.drop i)) (fun i => a.length - i) (0) (by kernel_rfl) (by (repeat' (first | refine cons_eq ?_ ?_ | refine int64_of ?_ ?_ ?_ | rfl | omega))) ?_ ?_
  · exact ⟨by omega, rfl, by simp⟩
  · rintro y i s1 ⟨hi, rfl, hp⟩
    conv => whnf
    have hga := fun h : i < a.length => map_get (f := frA) (l := a) noFr h
    have hgb := fun h : i < b.length => map_get (f := frA) (l := b) noFr h
    have he := eq_fr (a.getD i noFr) (b.getD i noFr)
    have hd := fun (h : i < a.length) (h' : i < b.length) => drop_eq_iff (d := noFr) h h'
    generalize a.getD i noFr = x at *
    generalize b.getD i noFr = z at *
    repeat' (first
      | (refine ⟨Sub.refl _, ?_⟩)
      | (refine brA_split (fun h => ?_) (fun h => ?_) <;> (try rw [h]) <;> (try simp only [Bool.false_eq_true, Bool.true_eq_false, ↓reduceIte, decide_eq_true_eq, decide_eq_false_iff_not, Bool.not_eq_true', Bool.not_eq_false'] at h) <;> (conv => whnf))
      | (rw [show (a.map frA).getD ((i : Int)).toNat [] = _ from hga (by omega)]; conv => whnf)
      | (rw [show (b.map frA).getD ((i : Int)).toNat [] = _ from hgb (by omega)]; conv => whnf)
      | (refine EqAgg.of grdFr planFr ?_; conv => whnf)
      | (refine getB_same ?_; conv => whnf)
      | (refine AWp.any (by kernel_rfl) (by kernel_rfl) (by kernel_rfl) ?_; conv => whnf)
      | (apply And.intro; (focus (first | omega | rfl | decide | exact Nat.le_of_ble_eq_true rfl | ((repeat' (first | exact all_nil | refine all_cons ?_ ?_ | rfl | fail)); done) | (simp [-List.length_flatMap]; done) | (simp [-List.length_flatMap]; omega) | fail)); conv => whnf)
      | fail)
    · refine bool_eq ?_
      rw [hp, hd (by omega) (by omega), ← he, h]
      rfl
    · refine ⟨i + 1, by (repeat' (first | refine cons_eq ?_ ?_ | refine int64_of ?_ ?_ ?_ | rfl | omega)), by (repeat (first | exact Same.refl _ _ | refine Same.upd rfl ?_ | refine Same.updL rfl ?_ | refine Same.havoc rfl ?_)), ⟨by omega, (by first | rfl | trivial), ?_⟩, by omega⟩
      rw [hp, hd (by omega) (by omega), ← he, h, Bool.true_and]
    · rw [hp, drop_end (by omega), drop_end (by omega)]
      rfl

theorem equalSt_ok (ta tb : Nat) (a b : List St) (hl : a.length ≤ 140737488355328) : APure Tryz.prog Γ 59 [.slice ta (a.map stA), .slice tb (b.map stA)] fun v => v = .bool (decide (a = b)) := by
  have hla : (a.map stA).length = a.length := List.length_map ..
  have hlb : (b.map stA).length = b.length := List.length_map ..
  refine APure.of_awp Tryz.func59 rfl (Nat.le_of_ble_eq_true (by kernel_rfl)) (by kernel_rfl) ?_
  intro s
  conv => whnf
  repeat' (first
    | (refine ⟨Sub.refl _, ?_⟩)
    | (refine brA_split (fun h => ?_) (fun h => ?_) <;> (try rw [h]) <;> (try simp only [Bool.false_eq_true, Bool.true_eq_false, ↓reduceIte, decide_eq_true_eq, decide_eq_false_iff_not, Bool.not_eq_true', Bool.not_eq_false'] at h) <;> (conv => whnf))
    | (refine getB_same ?_; conv => whnf)
    | (refine AWp.any (by kernel_rfl) (by kernel_rfl) (by kernel_rfl) ?_; conv => whnf)
    | (apply And.intro; (focus (first | omega | rfl | decide | exact Nat.le_of_ble_eq_true rfl | ((repeat' (first | exact all_nil | refine all_cons ?_ ?_ | rfl | fail)); done) | (simp [-List.length_flatMap]; done) | (simp [-List.length_flatMap]; omega) | fail)); conv => whnf)
    | fail)
  · refine bool_eq (decide_eq_false ?_).symm
    rintro rfl
    omega
  refine AWp.loopA [13] [14, 15, 5, 16, 17, 18, 19, 20, 21, 22, 23, 24, 4, 25] (fun i : Nat => [.int .i64 i]) (fun i s' => i ≤ a.length ∧ s' = s ∧ decide (a = b) = decide (a.drop i = b.drop i)) (fun i => a.length - i) (0) (by kernel_rfl) (by (repeat' (first | refine cons_eq ?_ ?_ | refine int64_of ?_ ?_ ?_ | rfl | omega))) ?_ ?_
  · exact ⟨by omega, rfl, by simp⟩
  · rintro y i s1 ⟨hi, rfl, hp⟩
    conv => whnf
    have hga := fun h : i < a.length => map_get (f := stA) (l := a) noSt h
    have hgb := fun h : i < b.length => map_get (f := stA) (l := b) noSt h
    have he := eq_st (a.getD i noSt) (b.getD i noSt)
    have hd := fun (h : i < a.length) (h' : i < b.length) => drop_eq_iff (d := noSt) h h'
    generalize a.getD i noSt = x at *
    generalize b.getD i noSt = z at *
    repeat' (first
      | (refine ⟨Sub.refl _, ?_⟩)
      | (refine brA_split (fun h => ?_) (fun h => ?_) <;> (try rw [h]) <;> (try simp only [Bool.false_eq_true, Bool.true_eq_false, ↓reduceIte, decide_eq_true_eq, decide_eq_false_iff_not, Bool.not_eq_true', Bool.not_eq_false'] at h) <;> (conv => whnf))
      | (rw [show (a.map stA).getD ((i : Int)).toNat [] = _ from hga (by omega)]; conv => whnf)
      | (rw [show (b.map stA).getD ((i : Int)).toNat [] = _ from hgb (by omega)]; conv => whnf)
      | (refine EqAgg.of grdSt planSt ?_; conv => whnf)
      | (refine getB_same ?_; conv => whnf)
      | (refine AWp.any (by kernel_rfl) (by kernel_rfl) (by kernel_rfl) ?_; conv => whnf)
      | (apply And.intro; (focus (first | omega | rfl | decide | exact Nat.le_of_ble_eq_true rfl | ((repeat' (first | exact all_nil | refine all_cons ?_ ?_ | rfl | fail)); done) | (simp [-List.length_flatMap]; done) | (simp [-List.length_flatMap]; omega) | fail)); conv => whnf)
      | fail)
    · refine bool_eq ?_
      rw [hp, hd (by omega) (by omega), ← he, h]
      rfl
    · refine ⟨i + 1, by (repeat' (first | refine cons_eq ?_ ?_ | refine int64_of ?_ ?_ ?_ | rfl | omega)), by (repeat (first | exact Same.refl _ _ | refine Same.upd rfl ?_ | refine Same.updL rfl ?_ | refine Same.havoc rfl ?_)), ⟨by omega, (by first | rfl | trivial), ?_⟩, by omega⟩
      rw [hp, hd (by omega) (by omega), ← he, h, Bool.true_and]
    · rw [hp, drop_end (by omega), drop_end (by omega)]
      rfl

theorem equalAr_ok (ta tb : Nat) (a b : List Ar) (hl : a.length ≤ 140737488355328) : APure Tryz.prog Γ 98 [.slice ta (a.map arA), .slice tb (b.map arA)] fun v => v = .bool (decide (a = b)) := by
  have hla : (a.map arA).length = a.length := List.length_map ..
  have hlb : (b.map arA).length = b.length := List.length_map ..
  refine APure.of_awp Tryz.func98 rfl (Nat.le_of_ble_eq_true (by kernel_rfl)) (by kernel_rfl) ?_
  intro s
  conv => whnf
  repeat' (first
    | (refine ⟨Sub.refl _, ?_⟩)
    | (refine brA_split (fun h => ?_) (fun h => ?_) <;> (try rw [h]) <;> (try simp only [Bool.false_eq_true, Bool.true_eq_false, ↓reduceIte, decide_eq_true_eq, decide_eq_false_iff_not, Bool.not_eq_true', Bool.not_eq_false'] at h) <;> (conv => whnf))
    | (refine getB_same ?_; conv => whnf)
    | (refine AWp.any (by kernel_rfl) (by kernel_rfl) (by kernel_rfl) ?_; conv => whnf)
    | (apply And.intro; (focus (first | omega | rfl | decide | exact Nat.le_of_ble_eq_true rfl | ((repeat' (first | exact all_nil | refine all_cons ?_ ?_ | rfl | fail)); done) | (simp [-List.length_flatMap]; done) | (simp [-List.length_flatMap]; omega) | fail)); conv => whnf)
    | fail)
  · refine bool_eq (decide_eq_false ?_).symm
    rintro rfl
    omega
  refine AWp.loopA [13] [14, 15, 5, 16, 17, 18, 19, 20, 21, 22, 23, 24, 4, 25] (fun i : Nat => [.int .i64 i]) (fun i s' => i ≤ a.length ∧ s' = s ∧ decide (a = b) = decide (a.drop i = b.drop i)) (fun i => a.length - i) (0) (by kernel_rfl) (by (repeat' (first | refine cons_eq ?_ ?_ | refine int64_of ?_ ?_ ?_ | rfl | omega))) ?_ ?_
  · exact ⟨by omega, rfl, by simp⟩
  · rintro y i s1 ⟨hi, rfl, hp⟩
    conv => whnf
    have hga := fun h : i < a.length => map_get (f := arA) (l := a) noAr h
    have hgb := fun h : i < b.length => map_get (f := arA) (l := b) noAr h
    have he := eq_ar (a.getD i noAr) (b.getD i noAr)
    have hd := fun (h : i < a.length) (h' : i < b.length) => drop_eq_iff (d := noAr) h h'
    generalize a.getD i noAr = x at *
    generalize b.getD i noAr = z at *
    repeat' (first
      | (refine ⟨Sub.refl _, ?_⟩)
      | (refine brA_split (fun h => ?_) (fun h => ?_) <;> (try rw [h]) <;> (try simp only [Bool.false_eq_true, Bool.true_eq_false, ↓reduceIte, decide_eq_true_eq, decide_eq_false_iff_not, Bool.not_eq_true', Bool.not_eq_false'] at h) <;> (conv => whnf))
      | (rw [show (a.map arA).getD ((i : Int)).toNat [] = _ from hga (by omega)]; conv => whnf)
      | (rw [show (b.map arA).getD ((i : Int)).toNat [] = _ from hgb (by omega)]; conv => whnf)
      | (refine EqAgg.of grdAr planAr ?_; conv => whnf)
      | (refine getB_same ?_; conv => whnf)
      | (refine AWp.any (by kernel_rfl) (by kernel_rfl) (by kernel_rfl) ?_; conv => whnf)
      | (apply And.intro; (focus (first | omega | rfl | decide | exact Nat.le_of_ble_eq_true rfl | ((repeat' (first | exact all_nil | refine all_cons ?_ ?_ | rfl | fail)); done) | (simp [-List.length_flatMap]; done) | (simp [-List.length_flatMap]; omega) | fail)); conv => whnf)
      | fail)
    · refine bool_eq ?_
      rw [hp, hd (by omega) (by omega), ← he, h]
      rfl
    · refine ⟨i + 1, by (repeat' (first | refine cons_eq ?_ ?_ | refine int64_of ?_ ?_ ?_ | rfl | omega)), by (repeat (first | exact Same.refl _ _ | refine Same.upd rfl ?_ | refine Same.updL rfl ?_ | refine Same.havoc rfl ?_)), ⟨by omega, (by first | rfl | trivial), ?_⟩, by omega⟩
      rw [hp, hd (by omega) (by omega), ← he, h, Bool.true_and]
    · rw [hp, drop_end (by omega), drop_end (by omega)]
      rfl

theorem equalEx_ok (ta tb : Nat) (a b : List Ex) (hl : a.length ≤ 140737488355328) : APure Tryz.prog Γ 99 [.slice ta (a.map exA), .slice tb (b.map exA)] fun v => v = .bool (decide (a = b)) := by
  have hla : (a.map exA).length = a.length := List.length_map ..
  have hlb : (b.map exA).length = b.length := List.length_map ..
  refine APure.of_awp Tryz.func99 rfl (Nat.le_of_ble_eq_true (by kernel_rfl)) (by kernel_rfl) ?_
  intro s
  conv => whnf
  repeat' (first
    | (refine ⟨Sub.refl _, ?_⟩)
    | (refine brA_split (fun h => ?_) (fun h => ?_) <;> (try rw [h]) <;> (try simp only [Bool.false_eq_true, Bool.true_eq_false, ↓reduceIte, decide_eq_true_eq, decide_eq_false_iff_not, Bool.not_eq_true', Bool.not_eq_false'] at h) <;> (conv => whnf))
    | (refine getB_same ?_; conv => whnf)
    | (refine AWp.any (by kernel_rfl) (by kernel_rfl) (by kernel_rfl) ?_; conv => whnf)
    | (apply And.intro; (focus (first | omega | rfl | decide | exact Nat.le_of_ble_eq_true rfl | ((repeat' (first | exact all_nil | refine all_cons ?_ ?_ | rfl | fail)); done) | (simp [-List.length_flatMap]; done) | (simp [-List.length_flatMap]; omega) | fail)); conv => whnf)
    | fail)
  · refine bool_eq (decide_eq_false ?_).symm
    rintro rfl
    omega
  refine AWp.loopA [13] [14, 15, 5, 16, 17, 18, 19, 20, 21, 22, 23, 24, 4, 25] (fun i : Nat => [.int .i64 i]) (fun i s' => i ≤ a.length ∧ s' = s ∧ decide (a = b) = decide (a.drop i = b.drop i)) (fun i => a.length - i) (0) (by kernel_rfl) (by (repeat' (first | refine cons_eq ?_ ?_ | refine int64_of ?_ ?_ ?_ | rfl | omega))) ?_ ?_
  · exact ⟨by omega, rfl, by simp⟩
  · rintro y i s1 ⟨hi, rfl, hp⟩
    conv => whnf
    have hga := fun h : i < a.length => map_get (f := exA) (l := a) noEx h
    have hgb := fun h : i < b.length => map_get (f := exA) (l := b) noEx h
    have he := eq_ex (a.getD i noEx) (b.getD i noEx)
    have hd := fun (h : i < a.length) (h' : i < b.length) => drop_eq_iff (d := noEx) h h'
    generalize a.getD i noEx = x at *
    generalize b.getD i noEx = z at *
    repeat' (first
      | (refine ⟨Sub.refl _, ?_⟩)
      | (refine brA_split (fun h => ?_) (fun h => ?_) <;> (try rw [h]) <;> (try simp only [Bool.false_eq_true, Bool.true_eq_false, ↓reduceIte, decide_eq_true_eq, decide_eq_false_iff_not, Bool.not_eq_true', Bool.not_eq_false'] at h) <;> (conv => whnf))
      | (rw [show (a.map exA).getD ((i : Int)).toNat [] = _ from hga (by omega)]; conv => whnf)
      | (rw [show (b.map exA).getD ((i : Int)).toNat [] = _ from hgb (by omega)]; conv => whnf)
      | (refine EqAgg.of grdEx planEx ?_; conv => whnf)
      | (refine getB_same ?_; conv => whnf)
      | (refine AWp.any (by kernel_rfl) (by kernel_rfl) (by kernel_rfl) ?_; conv => whnf)
      | (apply And.intro; (focus (first | omega | rfl | decide | exact Nat.le_of_ble_eq_true rfl | ((repeat' (first | exact all_nil | refine all_cons ?_ ?_ | rfl | fail)); done) | (simp [-List.length_flatMap]; done) | (simp [-List.length_flatMap]; omega) | fail)); conv => whnf)
      | fail)
    · refine bool_eq ?_
      rw [hp, hd (by omega) (by omega), ← he, h]
      rfl
    · refine ⟨i + 1, by (repeat' (first | refine cons_eq ?_ ?_ | refine int64_of ?_ ?_ ?_ | rfl | omega)), by (repeat (first | exact Same.refl _ _ | refine Same.upd rfl ?_ | refine Same.updL rfl ?_ | refine Same.havoc rfl ?_)), ⟨by omega, (by first | rfl | trivial), ?_⟩, by omega⟩
      rw [hp, hd (by omega) (by omega), ← he, h, Bool.true_and]
    · rw [hp, drop_end (by omega), drop_end (by omega)]
      rfl

theorem equalSe_ok (ta tb : Nat) (a b : List Se) (hl : a.length ≤ 140737488355328) : APure Tryz.prog Γ 100 [.slice ta (a.map seA), .slice tb (b.map seA)] fun v => v = .bool (decide (a = b)) := by
  have hla : (a.map seA).length = a.length := List.length_map ..
  have hlb : (b.map seA).length = b.length := List.length_map ..
  refine APure.of_awp Tryz.func100 rfl (Nat.le_of_ble_eq_true (by kernel_rfl)) (by kernel_rfl) ?_
  intro s
  conv => whnf
  repeat' (first
    | (refine ⟨Sub.refl _, ?_⟩)
    | (refine brA_split (fun h => ?_) (fun h => ?_) <;> (try rw [h]) <;> (try simp only [Bool.false_eq_true, Bool.true_eq_false, ↓reduceIte, decide_eq_true_eq, decide_eq_false_iff_not, Bool.not_eq_true', Bool.not_eq_false'] at h) <;> (conv => whnf))
    | (refine getB_same ?_; conv => whnf)
    | (refine AWp.any (by kernel_rfl) (by kernel_rfl) (by kernel_rfl) ?_; conv => whnf)
    | (apply And.intro; (focus (first | omega | rfl | decide | exact Nat.le_of_ble_eq_true rfl | ((repeat' (first | exact all_nil | refine all_cons ?_ ?_ | rfl | fail)); done) | (simp [-List.length_flatMap]; done) | (simp [-List.length_flatMap]; omega) | fail)); conv => whnf)
    | fail)
  · refine bool_eq (decide_eq_false ?_).symm
    rintro rfl
    omega
  refine AWp.loopA [13] [14, 15, 5, 16, 17, 18, 19, 20, 21, 22, 23, 24, 4, 25] (fun i : Nat => [.int .i64 i]) (fun i s' => i ≤ a.length ∧ s' = s ∧ decide (a = b) = decide (a.drop i = b.drop i)) (fun i => a.length - i) (0) (by kernel_rfl) (by (repeat' (first | refine cons_eq ?_ ?_ | refine int64_of ?_ ?_ ?_ | rfl | omega))) ?_ ?_
  · exact ⟨by omega, rfl, by simp⟩
  · rintro y i s1 ⟨hi, rfl, hp⟩
    conv => whnf
    have hga := fun h : i < a.length => map_get (f := seA) (l := a) noSe h
    have hgb := fun h : i < b.length => map_get (f := seA) (l := b) noSe h
    have he := eq_se (a.getD i noSe) (b.getD i noSe)
    have hd := fun (h : i < a.length) (h' : i < b.length) => drop_eq_iff (d := noSe) h h'
    generalize a.getD i noSe = x at *
    generalize b.getD i noSe = z at *
    repeat' (first
      | (refine ⟨Sub.refl _, ?_⟩)
      | (refine brA_split (fun h => ?_) (fun h => ?_) <;> (try rw [h]) <;> (try simp only [Bool.false_eq_true, Bool.true_eq_false, ↓reduceIte, decide_eq_true_eq, decide_eq_false_iff_not, Bool.not_eq_true', Bool.not_eq_false'] at h) <;> (conv => whnf))
      | (rw [show (a.map seA).getD ((i : Int)).toNat [] = _ from hga (by omega)]; conv => whnf)
      | (rw [show (b.map seA).getD ((i : Int)).toNat [] = _ from hgb (by omega)]; conv => whnf)
      | (refine EqAgg.of grdSe planSe ?_; conv => whnf)
      | (refine getB_same ?_; conv => whnf)
      | (refine AWp.any (by kernel_rfl) (by kernel_rfl) (by kernel_rfl) ?_; conv => whnf)
      | (apply And.intro; (focus (first | omega | rfl | decide | exact Nat.le_of_ble_eq_true rfl | ((repeat' (first | exact all_nil | refine all_cons ?_ ?_ | rfl | fail)); done) | (simp [-List.length_flatMap]; done) | (simp [-List.length_flatMap]; omega) | fail)); conv => whnf)
      | fail)
    · refine bool_eq ?_
      rw [hp, hd (by omega) (by omega), ← he, h]
      rfl
    · refine ⟨i + 1, by (repeat' (first | refine cons_eq ?_ ?_ | refine int64_of ?_ ?_ ?_ | rfl | omega)), by (repeat (first | exact Same.refl _ _ | refine Same.upd rfl ?_ | refine Same.updL rfl ?_ | refine Same.havoc rfl ?_)), ⟨by omega, (by first | rfl | trivial), ?_⟩, by omega⟩
      rw [hp, hd (by omega) (by omega), ← he, h, Bool.true_and]
    · rw [hp, drop_end (by omega), drop_end (by omega)]
      rfl

end Go.Proofs.YtbhemiimdfhjbaaGreatDoor.Tr
