
/- Chapter 6: rows of fields: all rows of a text by the document; the laws of what is read. -/
import Derived.Test.YthgpipfkcbekiaaDoorCvE
set_option linter.all false
namespace Go.Proofs.YthgpipfkcbekiaaDoor.Cv
open Go Go.Ab Go.RowKit
variable {Γ : Nat → AV}
attribute [local irreducible] APure Sto.set Sto.grow
set_option maxRecDepth 10000
set_option maxHeartbeats 1000000

theorem same_refl (t t' : Nat) (l : List (List UInt8)) (hl : l.length ≤ 10000000) : APure Tryd.prog Γ 10 [.slice t (strsA l), .slice t' (strsA l)] fun v => v = .bool true := by
  have hll := strsA_len l
  refine APure.of_awp Tryd.func10 rfl (Nat.le_of_ble_eq_true (by kernel_rfl)) (by kernel_rfl) ?_
  intro s
  conv => whnf
  repeat' (first
    | (exfalso; first | omega | exact (by assumption : ¬ True) trivial | fail)
    | (refine ⟨Sub.refl _, ?_⟩)
    | (refine brA_split (fun h => ?_) (fun h => ?_) <;> (try rw [h]) <;> (try simp only [Bool.false_eq_true, Bool.true_eq_false, ↓reduceIte, decide_eq_true_eq, decide_eq_false_iff_not, Bool.not_eq_true', Bool.not_eq_false'] at h) <;> (conv => whnf))
    | (refine getB_same ?_; conv => whnf)
    | (refine AWp.any (by kernel_rfl) (by kernel_rfl) (by kernel_rfl) ?_; conv => whnf)
    | (apply And.intro; (focus (first | omega | rfl | decide | exact Nat.le_of_ble_eq_true rfl | ((repeat' (first | exact all_nil | refine all_cons ?_ ?_ | rfl | fail)); done) | (simp [-List.length_flatMap]; done) | (simp [-List.length_flatMap]; omega) | fail)); conv => whnf)
    | fail)
  refine AWp.loopA [5] [11, 12, 13, 14, 17, 18, 19, 20, 21, 22, 23, 24, 25, 4, 15, 16] (fun i : Nat => [.int .i64 i]) (fun i s' => i ≤ l.length ∧ s' = s) (fun i => l.length - i) (0) (by kernel_rfl) (by (repeat' (first | refine cons_eq ?_ ?_ | refine int64_of ?_ ?_ ?_ | rfl | omega))) ?_ ?_
  · exact ⟨by omega, rfl⟩
  · rintro y i _ ⟨hi, rfl⟩
    show awp _ _ _ _ _ (updL _ _ [.int .i64 (i : Int)]) _
    conv => whnf
    have hg := fun h : i < l.length => strsA_get h
    by_cases hlt : i < l.length
    · have hg := hg hlt
      repeat' (first
        | (exfalso; first | omega | exact (by assumption : ¬ True) trivial | fail)
        | (refine ⟨Sub.refl _, ?_⟩)
        | (refine brA_split (fun h => ?_) (fun h => ?_) <;> (try rw [h]) <;> (try simp only [Bool.false_eq_true, Bool.true_eq_false, ↓reduceIte, decide_eq_true_eq, decide_eq_false_iff_not, Bool.not_eq_true', Bool.not_eq_false'] at h) <;> (conv => whnf))
        | (rw [show (strsA l).getD ((i : Int)).toNat [] = _ from hg]; conv => whnf)
        | (refine getB_same ?_; conv => whnf)
        | (refine AWp.any (by kernel_rfl) (by kernel_rfl) (by kernel_rfl) ?_; conv => whnf)
        | (apply And.intro; (focus (first | omega | rfl | decide | exact Nat.le_of_ble_eq_true rfl | ((repeat' (first | exact all_nil | refine all_cons ?_ ?_ | rfl | fail)); done) | (simp [-List.length_flatMap]; done) | (simp [-List.length_flatMap]; omega) | fail)); conv => whnf)
        | fail)
      exact ⟨i + 1, by (repeat' (first | refine cons_eq ?_ ?_ | refine int64_of ?_ ?_ ?_ | rfl | omega)), by (repeat (first | exact Same.refl _ _ | refine Same.upd rfl ?_ | refine Same.updL rfl ?_ | refine Same.havoc rfl ?_)), ⟨by omega, rfl⟩, by omega⟩
    · repeat' (first
        | (exfalso; first | omega | exact (by assumption : ¬ True) trivial | fail)
        | (refine ⟨Sub.refl _, ?_⟩)
        | (refine brA_split (fun h => ?_) (fun h => ?_) <;> (try rw [h]) <;> (try simp only [Bool.false_eq_true, Bool.true_eq_false, ↓reduceIte, decide_eq_true_eq, decide_eq_false_iff_not, Bool.not_eq_true', Bool.not_eq_false'] at h) <;> (conv => whnf))
        | (refine getB_same ?_; conv => whnf)
        | (refine AWp.any (by kernel_rfl) (by kernel_rfl) (by kernel_rfl) ?_; conv => whnf)
        | (apply And.intro; (focus (first | omega | rfl | decide | exact Nat.le_of_ble_eq_true rfl | ((repeat' (first | exact all_nil | refine all_cons ?_ ?_ | rfl | fail)); done) | (simp [-List.length_flatMap]; done) | (simp [-List.length_flatMap]; omega) | fail)); conv => whnf)
        | fail)
      rfl
def refAllA (x : Rows × Int × Int × Int) : AV := .tuple [.slice 0 (rowsA x.1), .int .i64 x.2.2.1, .int .i64 x.2.2.2, .int .i64 x.2.1]
theorem rowsA_app (o : Rows) (m : List (List UInt8)) : rowsA o ++ [[AV.slice 0 (strsA m)]] = rowsA (o ++ [m]) := by simp [rowsA]
theorem all_ex : all [97, 44, 34, 98, 34, 34, 99, 34] = ([[[97], [98, 34, 99]]], 0, 0, 0) := by kernel_rfl
theorem awake_ok (hE : AsF.ErrT Γ) : APure Tryd.prog Γ 4 [] fun v => v = .bool true := by
  have h1 := progAll_ok hE [97, 44, 34, 98, 34, 34, 99, 34] (by simp)
  rw [all_ex] at h1
  refine APure.of_awp Tryd.func4 rfl (Nat.le_of_ble_eq_true (by kernel_rfl)) (by kernel_rfl) ?_
  intro s
  conv => whnf
  repeat' (first
    | (refine ⟨Sub.refl _, ?_⟩)
    | (refine brA_split (fun h => ?_) (fun h => ?_) <;> (try rw [h]) <;> (try simp only [Bool.false_eq_true, Bool.true_eq_false, ↓reduceIte, decide_eq_true_eq, decide_eq_false_iff_not, Bool.not_eq_true', Bool.not_eq_false'] at h) <;> (conv => whnf))
    | (refine ACalls.pure' ?_ (h1); rintro _ rfl; conv => whnf)
    | (refine DCall.pure ?_ (h1); conv => whnf)
    | (refine getB_same ?_; conv => whnf)
    | (refine AWp.any (by kernel_rfl) (by kernel_rfl) (by kernel_rfl) ?_; conv => whnf)
    | (apply And.intro; (focus (first | omega | rfl | decide | exact Nat.le_of_ble_eq_true rfl | ((repeat' (first | exact all_nil | refine all_cons ?_ ?_ | rfl | fail)); done) | (simp [-List.length_flatMap]; done) | (simp [-List.length_flatMap]; omega) | fail)); conv => whnf)
    | fail)
  intro b hb
  conv => whnf
  repeat' (first
    | (refine ⟨Sub.refl _, ?_⟩)
    | (refine brA_split (fun h => ?_) (fun h => ?_) <;> (try rw [h]) <;> (try simp only [Bool.false_eq_true, Bool.true_eq_false, ↓reduceIte, decide_eq_true_eq, decide_eq_false_iff_not, Bool.not_eq_true', Bool.not_eq_false'] at h) <;> (conv => whnf))
    | (refine getB_of (by ((repeat (first | exact set_bx_same | assumption | refine (set_bx_other (by assumption)).trans ?_ | refine grow_bx.trans ?_)); done)) ?_; conv => whnf)
    | (refine EqAgg.of grdFail planFail ?_; conv => whnf)
    | (refine getB_same ?_; conv => whnf)
    | (refine AWp.any (by kernel_rfl) (by kernel_rfl) (by kernel_rfl) ?_; conv => whnf)
    | (apply And.intro; (focus (first | omega | rfl | decide | exact Nat.le_of_ble_eq_true rfl | ((repeat' (first | exact all_nil | refine all_cons ?_ ?_ | rfl | fail)); done) | (simp [-List.length_flatMap]; done) | (simp [-List.length_flatMap]; omega) | fail)); conv => whnf)
    | fail)
  exact ⟨((Sub.refl _).set hb _ _).set hb _ _, rfl⟩
theorem allF_len : ∀ (k : Nat) (r : Int) (l : List UInt8), (allF k r l).1.length ≤ l.length ∧ ∀ m ∈ (allF k r l).1, m.length ≤ l.length + 1
  | 0, r, l => ⟨Nat.zero_le _, fun m h => by cases h⟩
  | k + 1, r, l => by
    by_cases hl : l = []
    · rw [hl, allF_end]
      exact ⟨Nat.zero_le _, fun m h => by cases h⟩
    · rcases hx : row l with ⟨x, c⟩ | ⟨m, z⟩
      · rw [allF_bad hl hx]
        exact ⟨Nat.zero_le _, fun m h => by cases h⟩
      · have hb := rowF_ok_bound _ _ _ _ hx
        have hz := hb.2.1 hl
        have ih := allF_len k (r + 1) (l.drop z)
        rw [List.length_drop] at ih
        rw [allF_ok hl hx]
        refine ⟨by simp only [pre, List.length_append, List.length_cons, List.length_nil]; omega, fun q hq => ?_⟩
        rcases List.mem_append.1 hq with hq | hq
        · obtain rfl := List.mem_singleton.1 hq
          omega
        · have := ih.2 q hq
          omega
end Go.Proofs.YthgpipfkcbekiaaDoor.Cv
