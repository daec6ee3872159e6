
/- Chapter 1: the number of a text, by the document. -/
import Derived.Test.YtcgobgnbpeageaaDoorNuR
import Derived.Test.YtcgobgnbpeageaaDoorNuB
set_option linter.all false
namespace Go.Proofs.YtcgobgnbpeageaaDoor.Nu
open Go Go.Ab Go.RowKit
variable {Γ : Nat → AV}
attribute [local irreducible] APure Sto.set Sto.grow
set_option maxRecDepth 10000
set_option maxHeartbeats 1000000

theorem byte_eq45 (b : UInt8) : b = 45 ↔ (b.toNat : Int) = 45 := by
  constructor
  · rintro rfl; rfl
  · intro h
    exact UInt8.toNat_inj.1 (by have : b.toNat = 45 := by omega
                                exact this)
theorem drop_isD {l : List UInt8} {i : Nat} (h : i < l.length) : (l.drop i).all isD = (isD (byteAt l i) && (l.drop (i + 1)).all isD) := by
  rw [List.drop_eq_getElem_cons h, List.all_cons]
  simp [byteAt, List.getD, h]
theorem refForm_ok (l : List UInt8) (hl : l.length ≤ 1048576) : APure Tryd.prog Γ 16 [.str l] fun v => v = .bool (formB l) := by
  have hf := form_eq l
  have h45 := byte_eq45 (byteAt l 0)
  have hfr : from_ l = (if byteAt l 0 = 45 then 1 else 0) := rfl
  by_cases hb : byteAt l 0 = 45
  · have hbi := h45.1 hb
    rw [if_pos hb] at hfr
    rw [hfr] at hf
    clear h45 hb
    refine APure.of_awp Tryd.func16 rfl (Nat.le_of_ble_eq_true (by kernel_rfl)) (by kernel_rfl) ?_
    intro s
    conv => whnf
    repeat' (first
      | (exfalso; omega)
      | (refine ⟨Sub.refl _, ?_⟩)
      | (refine brA_split (fun h => ?_) (fun h => ?_) <;> (try rw [h]) <;> (try simp only [Bool.false_eq_true, Bool.true_eq_false, ↓reduceIte, decide_eq_true_eq, decide_eq_false_iff_not, Bool.not_eq_true', Bool.not_eq_false'] at h) <;> (conv => whnf))
      | (refine getB_same ?_; conv => whnf)
      | (refine AWp.any (by kernel_rfl) (by kernel_rfl) (by kernel_rfl) ?_; conv => whnf)
      | (apply And.intro; (focus (first | omega | rfl | decide | exact Nat.le_of_ble_eq_true rfl | ((repeat' (first | exact all_nil | refine all_cons ?_ ?_ | rfl | fail)); done) | (simp [-List.length_flatMap]; done) | (simp [-List.length_flatMap]; omega) | fail)); conv => whnf)
      | fail)
    all_goals try simp only [show Int.toNat 0 = 0 from rfl, show Int.toNat 1 = 1 from rfl] at *
    all_goals try (refine bool_eq' ?_; rw [hf]; first | (rw [decide_eq_true (p := l.length ≤ 1) (by omega)]; rfl) | (rw [decide_eq_true (p := (byteAt l 1).toNat = 48) (by omega), decide_eq_true (p := 1 < l.length) (by omega)]; simp))
    all_goals
      have hfd : formB l = (l.drop 1).all isD := by
        rw [hf, decide_eq_false (p := l.length ≤ 1) (by omega)]
        first
          | (rw [decide_eq_false (p := (byteAt l 1).toNat = 48) (by omega)]; simp)
          | (rw [decide_eq_false (p := 1 < l.length) (by omega)]; simp)
      refine AWp.loopA [4] [29, 30, 31, 32, 35, 36, 37, 38, 39, 40, 41, 42, 43, 44, 2, 33, 34] (fun i : Nat => [.int .i64 i]) (fun i s' => i ≤ l.length ∧ s' = s ∧ formB l = (l.drop i).all isD) (fun i => l.length - i) (1) (by kernel_rfl) (by (repeat' (first | refine cons_eq ?_ ?_ | refine int64_of ?_ ?_ ?_ | rfl | omega))) ?_ ?_
      · exact ⟨by omega, rfl, hfd⟩
      · rintro y i s1 ⟨hi, rfl, hp⟩
        conv => whnf
        repeat' (first
          | (exfalso; omega)
          | (refine ⟨Sub.refl _, ?_⟩)
          | (refine brA_split (fun h => ?_) (fun h => ?_) <;> (try rw [h]) <;> (try simp only [Bool.false_eq_true, Bool.true_eq_false, ↓reduceIte, decide_eq_true_eq, decide_eq_false_iff_not, Bool.not_eq_true', Bool.not_eq_false'] at h) <;> (conv => whnf))
          | (refine getB_same ?_; conv => whnf)
          | (refine AWp.any (by kernel_rfl) (by kernel_rfl) (by kernel_rfl) ?_; conv => whnf)
          | (apply And.intro; (focus (first | omega | rfl | decide | exact Nat.le_of_ble_eq_true rfl | ((repeat' (first | exact all_nil | refine all_cons ?_ ?_ | rfl | fail)); done) | (simp [-List.length_flatMap]; done) | (simp [-List.length_flatMap]; omega) | fail)); conv => whnf)
          | fail)
        all_goals try simp only [Int.toNat_natCast] at *
        all_goals first
          | (refine bool_eq' ?_
             rw [hp, drop_isD (by omega), show isD (byteAt l i) = false from by (unfold isD; simp; omega)]
             rfl)
          | (refine ⟨i + 1, by (repeat' (first | refine cons_eq ?_ ?_ | refine int64_of ?_ ?_ ?_ | rfl | omega)), by (repeat (first | exact Same.refl _ _ | refine Same.upd rfl ?_ | refine Same.updL rfl ?_ | refine Same.havoc rfl ?_)), ⟨by omega, (by first | rfl | trivial), ?_⟩, by omega⟩
             rw [hp, drop_isD (by omega), show isD (byteAt l i) = true from by (unfold isD; simp; omega), Bool.true_and])
          | (refine bool_eq' ?_
             rw [hp, drop_end (by omega)]
             rfl)
  · have hbi : ¬ ((byteAt l 0).toNat : Int) = 45 := fun h => hb (h45.2 h)
    rw [if_neg hb] at hfr
    rw [hfr] at hf
    clear h45 hb
    refine APure.of_awp Tryd.func16 rfl (Nat.le_of_ble_eq_true (by kernel_rfl)) (by kernel_rfl) ?_
    intro s
    conv => whnf
    repeat' (first
      | (exfalso; omega)
      | (refine ⟨Sub.refl _, ?_⟩)
      | (refine brA_split (fun h => ?_) (fun h => ?_) <;> (try rw [h]) <;> (try simp only [Bool.false_eq_true, Bool.true_eq_false, ↓reduceIte, decide_eq_true_eq, decide_eq_false_iff_not, Bool.not_eq_true', Bool.not_eq_false'] at h) <;> (conv => whnf))
      | (refine getB_same ?_; conv => whnf)
      | (refine AWp.any (by kernel_rfl) (by kernel_rfl) (by kernel_rfl) ?_; conv => whnf)
      | (apply And.intro; (focus (first | omega | rfl | decide | exact Nat.le_of_ble_eq_true rfl | ((repeat' (first | exact all_nil | refine all_cons ?_ ?_ | rfl | fail)); done) | (simp [-List.length_flatMap]; done) | (simp [-List.length_flatMap]; omega) | fail)); conv => whnf)
      | fail)
    all_goals try simp only [show Int.toNat 0 = 0 from rfl, show Int.toNat 1 = 1 from rfl] at *
    all_goals try (refine bool_eq' ?_; rw [hf]; first | (rw [decide_eq_true (p := l.length ≤ 0) (by omega)]; rfl) | (rw [decide_eq_true (p := (byteAt l 0).toNat = 48) (by omega), decide_eq_true (p := 1 < l.length) (by omega)]; simp))
    all_goals
      have hfd : formB l = (l.drop 0).all isD := by
        rw [hf, decide_eq_false (p := l.length ≤ 0) (by omega)]
        first
          | (rw [decide_eq_false (p := (byteAt l 0).toNat = 48) (by omega)]; simp)
          | (rw [decide_eq_false (p := 1 < l.length) (by omega)]; simp)
      refine AWp.loopA [4] [29, 30, 31, 32, 35, 36, 37, 38, 39, 40, 41, 42, 43, 44, 2, 33, 34] (fun i : Nat => [.int .i64 i]) (fun i s' => i ≤ l.length ∧ s' = s ∧ formB l = (l.drop i).all isD) (fun i => l.length - i) (0) (by kernel_rfl) (by (repeat' (first | refine cons_eq ?_ ?_ | refine int64_of ?_ ?_ ?_ | rfl | omega))) ?_ ?_
      · exact ⟨by omega, rfl, hfd⟩
      · rintro y i s1 ⟨hi, rfl, hp⟩
        conv => whnf
        repeat' (first
          | (exfalso; omega)
          | (refine ⟨Sub.refl _, ?_⟩)
          | (refine brA_split (fun h => ?_) (fun h => ?_) <;> (try rw [h]) <;> (try simp only [Bool.false_eq_true, Bool.true_eq_false, ↓reduceIte, decide_eq_true_eq, decide_eq_false_iff_not, Bool.not_eq_true', Bool.not_eq_false'] at h) <;> (conv => whnf))
          | (refine getB_same ?_; conv => whnf)
          | (refine AWp.any (by kernel_rfl) (by kernel_rfl) (by kernel_rfl) ?_; conv => whnf)
          | (apply And.intro; (focus (first | omega | rfl | decide | exact Nat.le_of_ble_eq_true rfl | ((repeat' (first | exact all_nil | refine all_cons ?_ ?_ | rfl | fail)); done) | (simp [-List.length_flatMap]; done) | (simp [-List.length_flatMap]; omega) | fail)); conv => whnf)
          | fail)
        all_goals try simp only [Int.toNat_natCast] at *
        all_goals first
          | (refine bool_eq' ?_
             rw [hp, drop_isD (by omega), show isD (byteAt l i) = false from by (unfold isD; simp; omega)]
             rfl)
          | (refine ⟨i + 1, by (repeat' (first | refine cons_eq ?_ ?_ | refine int64_of ?_ ?_ ?_ | rfl | omega)), by (repeat (first | exact Same.refl _ _ | refine Same.upd rfl ?_ | refine Same.updL rfl ?_ | refine Same.havoc rfl ?_)), ⟨by omega, (by first | rfl | trivial), ?_⟩, by omega⟩
             rw [hp, drop_isD (by omega), show isD (byteAt l i) = true from by (unfold isD; simp; omega), Bool.true_and])
          | (refine bool_eq' ?_
             rw [hp, drop_end (by omega)]
             rfl)
end Go.Proofs.YtcgobgnbpeageaaDoor.Nu
