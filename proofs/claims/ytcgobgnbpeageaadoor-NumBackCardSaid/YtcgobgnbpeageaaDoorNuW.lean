/- Chapter 1: a number's text, by the document. -/
import Derived.Test.YtcgobgnbpeageaaDoorNuV
import Derived.Lib.ItoaLen
set_option linter.all false
namespace Go.Proofs.YtcgobgnbpeageaaDoor.Nu
open Go Go.Ab Go.RowKit
attribute [local irreducible] APure Sto.set Sto.grow
set_option maxRecDepth 10000
set_option maxHeartbeats 1000000

theorem digs_cut : ∀ i : Nat, i < 10 → (digs.take (i + 1)).drop i = [UInt8.ofNat (48 + i)] := by decide
theorem dec_one {u : Nat} (h : u < 10) : Lib.decDigits u = [UInt8.ofNat (48 + u)] := by rw [Lib.decDigits, dif_pos h]
theorem dec_step {u : Nat} (h : ¬ u < 10) : Lib.decDigits u = Lib.decDigits (u / 10) ++ [UInt8.ofNat (48 + u % 10)] := by rw [Lib.decDigits, dif_neg h]
theorem dec_len : ∀ (k u : Nat), u < k → (Lib.decDigits u).length ≤ u + 1
  | 0, u => fun h => by omega
  | k + 1, u => fun h => by
    by_cases hu : u < 10
    · rw [dec_one hu]; simp
    · have := dec_len k (u / 10) (by omega)
      rw [dec_step hu, List.length_append, List.length_singleton]
      omega
theorem refText_ok : ∀ (k : Nat) (n : Int), n.natAbs < k → Fits n → ∀ Γ : Nat → AV, APure Tryd.prog Γ 7 [.int .i64 n] fun v => v = .str (Lib.itoa n)
  | 0, n => fun h => by omega
  | k + 1, n => fun h hn Γ => by
    have ih := fun (m : Int) (hm : m.natAbs < n.natAbs) (hf : Fits m) => refText_ok k m (by omega) hf
    unfold Fits at hn
    by_cases hneg : n < 0
    · have hu : n = -(n.natAbs : Int) := by omega
      generalize n.natAbs = u at *
      subst hu
      have h10 : u % 10 < 10 := Nat.mod_lt _ (by omega)
      have eq1 : (-(u : Int)).tdiv 10 = -((u / 10 : Nat) : Int) := by
        rw [Int.neg_tdiv, Int.tdiv_eq_ediv_of_nonneg (by omega)]; omega
      have er1 : (-(u : Int)).tmod 10 = -((u % 10 : Nat) : Int) := by
        rw [Int.neg_tmod, Int.tmod_eq_emod_of_nonneg (by omega)]; omega
      have wq : IntKind.i64.wrap ((-(u : Int)).tdiv 10) = -((u / 10 : Nat) : Int) := i64_of eq1 (by omega) (by omega)
      have wr : IntKind.i64.wrap (0 - (-(u : Int)).tmod 10) = ((u % 10 : Nat) : Int) := by
        rw [er1]; exact i64_of (by omega) (by omega) (by omega)
      have wr1 : IntKind.i64.wrap (((u % 10 : Nat) : Int) + 1) = ((u % 10 : Nat) : Int) + 1 := i64_of rfl (by omega) (by omega)
      by_cases hu : u < 10
      · have wn : IntKind.i64.wrap (0 - -(u : Int)) = (u : Int) := i64_of (by omega) (by omega) (by omega)
        have wn1 : IntKind.i64.wrap ((u : Int) + 1) = (u : Int) + 1 := i64_of rfl (by omega) (by omega)
        refine APure.of_awp Tryd.func7 rfl (Nat.le_of_ble_eq_true (by kernel_rfl)) (by kernel_rfl) ?_
        intro s
        conv => whnf
        repeat' (first
          | (exfalso; omega)
          | (refine ⟨Sub.refl _, ?_⟩)
          | (refine brA_split (fun h => ?_) (fun h => ?_) <;> (try rw [h]) <;> (try simp only [Bool.false_eq_true, Bool.true_eq_false, ↓reduceIte, decide_eq_true_eq, decide_eq_false_iff_not, Bool.not_eq_true', Bool.not_eq_false'] at h) <;> (conv => whnf))
          | (rw [wn]; conv => whnf)
          | (rw [wn1]; conv => whnf)
          | (refine getB_same ?_; conv => whnf)
          | (refine AWp.any (by kernel_rfl) (by kernel_rfl) (by kernel_rfl) ?_; conv => whnf)
          | (apply And.intro; (focus (first | omega | rfl | decide | exact Nat.le_of_ble_eq_true rfl | ((repeat' (first | exact all_nil | refine all_cons ?_ ?_ | rfl | fail)); done) | (simp [-List.length_flatMap]; done) | (simp [-List.length_flatMap]; omega) | fail)); conv => whnf)
          | fail)
        · refine congrArg AV.str ?_
          show [45] ++ (digs.take ((u : Int) + 1).toNat).drop (u : Int).toNat = _
          rw [show ((u : Int) + 1).toNat = u + 1 by omega, show ((u : Int)).toNat = u by omega, digs_cut u hu, Lib.itoa_neg u (by omega), dec_one hu]
          rfl
      · have ih2 := ih (-((u / 10 : Nat) : Int)) (by omega) (by unfold Fits; omega)
        refine APure.of_awp Tryd.func7 rfl (Nat.le_of_ble_eq_true (by kernel_rfl)) (by kernel_rfl) ?_
        intro s
        conv => whnf
        repeat' (first
          | (exfalso; omega)
          | (refine ⟨Sub.refl _, ?_⟩)
          | (refine brA_split (fun h => ?_) (fun h => ?_) <;> (try rw [h]) <;> (try simp only [Bool.false_eq_true, Bool.true_eq_false, ↓reduceIte, decide_eq_true_eq, decide_eq_false_iff_not, Bool.not_eq_true', Bool.not_eq_false'] at h) <;> (conv => whnf))
          | (rw [wq]; conv => whnf)
          | (rw [wr]; conv => whnf)
          | (rw [wr1]; conv => whnf)
          | (refine ACalls.pure' ?_ (ih2 _); rintro _ rfl; conv => whnf)
          | (refine DCall.pure ?_ (ih2 _); conv => whnf)
          | (refine getB_same ?_; conv => whnf)
          | (refine AWp.any (by kernel_rfl) (by kernel_rfl) (by kernel_rfl) ?_; conv => whnf)
          | (apply And.intro; (focus (first | omega | rfl | decide | exact Nat.le_of_ble_eq_true rfl | ((repeat' (first | exact all_nil | refine all_cons ?_ ?_ | rfl | fail)); done) | (simp [-List.length_flatMap]; done) | (simp [-List.length_flatMap]; omega) | fail)); conv => whnf)
          | fail)
        refine ⟨?_, ?_⟩
        · show (Lib.itoa _).length + (List.drop _ (List.take _ digs)).length ≤ 9223372036854775807
          have := Lib.itoa_length_le (-((u / 10 : Nat) : Int)) (by omega) (by omega)
          have h2 : (List.drop ((u % 10 : Nat) : Int).toNat (List.take (((u % 10 : Nat) : Int) + 1).toNat digs)).length ≤ 10 := by
            rw [List.length_drop, List.length_take]; show _ - _ ≤ 10; have : digs.length = 10 := rfl; omega
          omega
        conv => whnf
        repeat' (first
          | (refine ⟨Sub.refl _, ?_⟩)
          | (refine brA_split (fun h => ?_) (fun h => ?_) <;> (try rw [h]) <;> (try simp only [Bool.false_eq_true, Bool.true_eq_false, ↓reduceIte, decide_eq_true_eq, decide_eq_false_iff_not, Bool.not_eq_true', Bool.not_eq_false'] at h) <;> (conv => whnf))
          | (refine getB_same ?_; conv => whnf)
          | (refine AWp.any (by kernel_rfl) (by kernel_rfl) (by kernel_rfl) ?_; conv => whnf)
          | (apply And.intro; (focus (first | omega | rfl | decide | exact Nat.le_of_ble_eq_true rfl | ((repeat' (first | exact all_nil | refine all_cons ?_ ?_ | rfl | fail)); done) | (simp [-List.length_flatMap]; done) | (simp [-List.length_flatMap]; omega) | fail)); conv => whnf)
          | fail)
        refine congrArg AV.str ?_
        show Lib.itoa _ ++ (digs.take (((u % 10 : Nat) : Int) + 1).toNat).drop ((u % 10 : Nat) : Int).toNat = _
        rw [show (((u % 10 : Nat) : Int) + 1).toNat = u % 10 + 1 by omega, show (((u % 10 : Nat) : Int)).toNat = u % 10 by omega, digs_cut _ h10, Lib.itoa_neg u (by omega), Lib.itoa_neg (u / 10) (by omega), dec_step hu]
        rfl
    · have hu : n = (n.natAbs : Int) := by omega
      generalize n.natAbs = u at *
      subst hu
      have h10 : u % 10 < 10 := Nat.mod_lt _ (by omega)
      have wq : IntKind.i64.wrap ((u : Int).tdiv 10) = ((u / 10 : Nat) : Int) := i64_of (by rw [Int.tdiv_eq_ediv_of_nonneg (by omega)]; omega) (by omega) (by omega)
      have wr : (u : Int).tmod 10 = ((u % 10 : Nat) : Int) := by rw [Int.tmod_eq_emod_of_nonneg (by omega)]; omega
      have wr1 : IntKind.i64.wrap (((u % 10 : Nat) : Int) + 1) = ((u % 10 : Nat) : Int) + 1 := i64_of rfl (by omega) (by omega)
      by_cases hu : u < 10
      · have wn1 : IntKind.i64.wrap ((u : Int) + 1) = (u : Int) + 1 := i64_of rfl (by omega) (by omega)
        refine APure.of_awp Tryd.func7 rfl (Nat.le_of_ble_eq_true (by kernel_rfl)) (by kernel_rfl) ?_
        intro s
        conv => whnf
        repeat' (first
          | (exfalso; omega)
          | (refine ⟨Sub.refl _, ?_⟩)
          | (refine brA_split (fun h => ?_) (fun h => ?_) <;> (try rw [h]) <;> (try simp only [Bool.false_eq_true, Bool.true_eq_false, ↓reduceIte, decide_eq_true_eq, decide_eq_false_iff_not, Bool.not_eq_true', Bool.not_eq_false'] at h) <;> (conv => whnf))
          | (rw [wn1]; conv => whnf)
          | (refine getB_same ?_; conv => whnf)
          | (refine AWp.any (by kernel_rfl) (by kernel_rfl) (by kernel_rfl) ?_; conv => whnf)
          | (apply And.intro; (focus (first | omega | rfl | decide | exact Nat.le_of_ble_eq_true rfl | ((repeat' (first | exact all_nil | refine all_cons ?_ ?_ | rfl | fail)); done) | (simp [-List.length_flatMap]; done) | (simp [-List.length_flatMap]; omega) | fail)); conv => whnf)
          | fail)
        · refine congrArg AV.str ?_
          show (digs.take ((u : Int) + 1).toNat).drop (u : Int).toNat = _
          rw [show ((u : Int) + 1).toNat = u + 1 by omega, show ((u : Int)).toNat = u by omega, digs_cut u hu, Lib.itoa_nonneg u, dec_one hu]
        · exfalso
          have h9 := ‹(if _ then _ else false) = false›
          rw [if_pos (by omega)] at h9
          have := of_decide_eq_false h9
          omega
      · have ih2 := ih ((u / 10 : Nat) : Int) (by omega) (by unfold Fits; omega)
        refine APure.of_awp Tryd.func7 rfl (Nat.le_of_ble_eq_true (by kernel_rfl)) (by kernel_rfl) ?_
        intro s
        conv => whnf
        repeat' (first
          | (exfalso; omega)
          | (refine ⟨Sub.refl _, ?_⟩)
          | (refine brA_split (fun h => ?_) (fun h => ?_) <;> (try rw [h]) <;> (try simp only [Bool.false_eq_true, Bool.true_eq_false, ↓reduceIte, decide_eq_true_eq, decide_eq_false_iff_not, Bool.not_eq_true', Bool.not_eq_false'] at h) <;> (conv => whnf))
          | (rw [wq]; conv => whnf)
          | (rw [wr]; conv => whnf)
          | (rw [wr1]; conv => whnf)
          | (refine ACalls.pure' ?_ (ih2 _); rintro _ rfl; conv => whnf)
          | (refine DCall.pure ?_ (ih2 _); conv => whnf)
          | (refine getB_same ?_; conv => whnf)
          | (refine AWp.any (by kernel_rfl) (by kernel_rfl) (by kernel_rfl) ?_; conv => whnf)
          | (apply And.intro; (focus (first | omega | rfl | decide | exact Nat.le_of_ble_eq_true rfl | ((repeat' (first | exact all_nil | refine all_cons ?_ ?_ | rfl | fail)); done) | (simp [-List.length_flatMap]; done) | (simp [-List.length_flatMap]; omega) | fail)); conv => whnf)
          | fail)
        · exfalso
          have h9 := ‹(if _ then _ else false) = true›
          rw [if_pos (by omega)] at h9
          have := of_decide_eq_true h9
          omega
        refine ⟨?_, ?_⟩
        · show (Lib.itoa _).length + (List.drop _ (List.take _ digs)).length ≤ 9223372036854775807
          have := Lib.itoa_length_le ((u / 10 : Nat) : Int) (by omega) (by omega)
          have h2 : (List.drop ((u % 10 : Nat) : Int).toNat (List.take (((u % 10 : Nat) : Int) + 1).toNat digs)).length ≤ 10 := by
            rw [List.length_drop, List.length_take]; show _ - _ ≤ 10; have : digs.length = 10 := rfl; omega
          omega
        conv => whnf
        repeat' (first
          | (refine ⟨Sub.refl _, ?_⟩)
          | (refine brA_split (fun h => ?_) (fun h => ?_) <;> (try rw [h]) <;> (try simp only [Bool.false_eq_true, Bool.true_eq_false, ↓reduceIte, decide_eq_true_eq, decide_eq_false_iff_not, Bool.not_eq_true', Bool.not_eq_false'] at h) <;> (conv => whnf))
          | (refine getB_same ?_; conv => whnf)
          | (refine AWp.any (by kernel_rfl) (by kernel_rfl) (by kernel_rfl) ?_; conv => whnf)
          | (apply And.intro; (focus (first | omega | rfl | decide | exact Nat.le_of_ble_eq_true rfl | ((repeat' (first | exact all_nil | refine all_cons ?_ ?_ | rfl | fail)); done) | (simp [-List.length_flatMap]; done) | (simp [-List.length_flatMap]; omega) | fail)); conv => whnf)
          | fail)
        refine congrArg AV.str ?_
        show Lib.itoa _ ++ (digs.take (((u % 10 : Nat) : Int) + 1).toNat).drop ((u % 10 : Nat) : Int).toNat = _
        rw [show (((u % 10 : Nat) : Int) + 1).toNat = u % 10 + 1 by omega, show (((u % 10 : Nat) : Int)).toNat = u % 10 by omega, digs_cut _ h10, Lib.itoa_nonneg u, Lib.itoa_nonneg (u / 10), dec_step hu]
end Go.Proofs.YtcgobgnbpeageaaDoor.Nu
