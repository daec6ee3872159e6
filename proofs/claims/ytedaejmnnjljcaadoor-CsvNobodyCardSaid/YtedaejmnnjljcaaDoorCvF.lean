/- Chapter 6: rows of fields: all rows of a text by the document; the laws of what is read. -/
import Derived.Test.YtedaejmnnjljcaaDoorCvE
namespace Go.Proofs.YtedaejmnnjljcaaDoor.Cv
open Go Go.Ab Go.RowKit
variable {Γ : Nat → AV}
attribute [local irreducible] APure Sto.set Sto.grow
set_option maxRecDepth 10000
set_option maxHeartbeats 1000000

theorem same_refl (t t' : Nat) (l : List (List UInt8)) (hl : l.length ≤ 10000000) : APure Tryd.prog Γ 12 [.slice t (strsA l), .slice t' (strsA l)] fun v => v = .bool true := by
  have hll := strsA_len l
  refine APure.of_awp Tryd.func12 rfl (Nat.le_of_ble_eq_true (by kernel_rfl)) (by kernel_rfl) ?_
  intro s
  conv => whnf
  repeat' (first
    | (exfalso; first | omega | exact (by assumption : ¬ True) trivial | fail)
    | (refine ⟨Sub.refl _, ?_⟩)
    | (refine brA_split (fun h => ?_) (fun h => ?_) <;> (try rw [h]) <;> (try simp only [Bool.false_eq_true, Bool.true_eq_false, ↓reduceIte, decide_eq_true_eq, decide_eq_false_iff_not, Bool.not_eq_true', Bool.not_eq_false'] at h) <;> (conv => whnf))
    | (refine getB_same ?_; conv => whnf)
    | (refine AWp.any (by kernel_rfl) (by kernel_rfl) (by kernel_rfl) ?_; conv => whnf)
    | (apply And.intro; (focus (first | omega | rfl | decide | exact Nat.le_of_ble_eq_true rfl | ((repeat' (first | exact all_nil | refine all_cons ?_ ?_ | rfl | fail)); done) | (simp [-List.length_flatMap]; done) | (simp [-List.length_flatMap]; omega) | fail)); conv => whnf)
    | fail)
  refine AWp.loopA [5] [11, 12, 13, 14, 17, 18, 19, 20, 21, 22, 23, 24, 25, 4, 15, 16] (fun i : Nat => [.int .i64 i]) (fun i s' => i ≤ l.length ∧ s' = s) (fun i => l.length - i) (0) (by kernel_rfl) (by (repeat' (first | refine cons_eq ?_ ?_ | refine int64_of ?_ ?_ ?_ | rfl | omega))) ?_ ?_
  · exact ⟨by omega, rfl⟩
  · rintro y i _ ⟨hi, rfl⟩
    show awp _ _ _ _ _ (updL _ _ [.int .i64 (i : Int)]) _
    conv => whnf
    have hg := fun h : i < l.length => strsA_get h
    by_cases hlt : i < l.length
    · have hg := hg hlt
      repeat' (first
        | (exfalso; first | omega | exact (by assumption : ¬ True) trivial | fail)
        | (refine ⟨Sub.refl _, ?_⟩)
        | (refine brA_split (fun h => ?_) (fun h => ?_) <;> (try rw [h]) <;> (try simp only [Bool.false_eq_true, Bool.true_eq_false, ↓reduceIte, decide_eq_true_eq, decide_eq_false_iff_not, Bool.not_eq_true', Bool.not_eq_false'] at h) <;> (conv => whnf))
        | (rw [show (strsA l).getD ((i : Int)).toNat [] = _ from hg]; conv => whnf)
        | (refine getB_same ?_; conv => whnf)
        | (refine AWp.any (by kernel_rfl) (by kernel_rfl) (by kernel_rfl) ?_; conv => whnf)
        | (apply And.intro; (focus (first | omega | rfl | decide | exact Nat.le_of_ble_eq_true rfl | ((repeat' (first | exact all_nil | refine all_cons ?_ ?_ | rfl | fail)); done) | (simp [-List.length_flatMap]; done) | (simp [-List.length_flatMap]; omega) | fail)); conv => whnf)
        | fail)
      exact ⟨i + 1, by (repeat' (first | refine cons_eq ?_ ?_ | refine int64_of ?_ ?_ ?_ | rfl | omega)), by (repeat (first | exact Same.refl _ _ | refine Same.upd rfl ?_ | refine Same.updL rfl ?_ | refine Same.havoc rfl ?_)), ⟨by omega, rfl⟩, by omega⟩
    · repeat' (first
        | (exfalso; first | omega | exact (by assumption : ¬ True) trivial | fail)
        | (refine ⟨Sub.refl _, ?_⟩)
        | (refine brA_split (fun h => ?_) (fun h => ?_) <;> (try rw [h]) <;> (try simp only [Bool.false_eq_true, Bool.true_eq_false, ↓reduceIte, decide_eq_true_eq, decide_eq_false_iff_not, Bool.not_eq_true', Bool.not_eq_false'] at h) <;> (conv => whnf))
        | (refine getB_same ?_; conv => whnf)
        | (refine AWp.any (by kernel_rfl) (by kernel_rfl) (by kernel_rfl) ?_; conv => whnf)
        | (apply And.intro; (focus (first | omega | rfl | decide | exact Nat.le_of_ble_eq_true rfl | ((repeat' (first | exact all_nil | refine all_cons ?_ ?_ | rfl | fail)); done) | (simp [-List.length_flatMap]; done) | (simp [-List.length_flatMap]; omega) | fail)); conv => whnf)
        | fail)
      rfl
def refAllA (x : Rows × Int × Int × Int) : AV := .tuple [.slice 0 (rowsA x.1), .int .i64 x.2.2.1, .int .i64 x.2.2.2, .int .i64 x.2.1]
theorem rowsA_app (o : Rows) (m : List (List UInt8)) : rowsA o ++ [[AV.slice 0 (strsA m)]] = rowsA (o ++ [m]) := by simp [rowsA]
theorem refAll_ok (S : List UInt8) (hS : S.length ≤ 1048576) : APure Tryd.prog Γ 11 [.str S] fun v => v = refAllA (all S) := by
  refine APure.fgt fun s => ?_
  refine ACalls.of_awp Tryd.func11 rfl (Nat.le_of_ble_eq_true (by kernel_rfl)) (awp_ok _ (by kernel_rfl) ?_)
  conv => whnf
  repeat' (first
    | (refine ⟨Sub.refl _, ?_⟩)
    | (refine brA_split (fun h => ?_) (fun h => ?_) <;> (try rw [h]) <;> (try simp only [Bool.false_eq_true, Bool.true_eq_false, ↓reduceIte, decide_eq_true_eq, decide_eq_false_iff_not, Bool.not_eq_true', Bool.not_eq_false'] at h) <;> (conv => whnf))
    | (refine getB_same ?_; conv => whnf)
    | (refine AWp.any (by kernel_rfl) (by kernel_rfl) (by kernel_rfl) ?_; conv => whnf)
    | (apply And.intro; (focus (first | omega | rfl | decide | exact Nat.le_of_ble_eq_true rfl | ((repeat' (first | exact all_nil | refine all_cons ?_ ?_ | rfl | fail)); done) | (simp [-List.length_flatMap]; done) | (simp [-List.length_flatMap]; omega) | fail)); conv => whnf)
    | fail)
  refine AWp.loopA [6, 7] [9, 10, 11, 12, 13, 14, 15, 16, 8, 17, 18, 19, 20, 21, 22, 23, 24, 25, 26, 27, 2, 3, 4, 5, 28, 29, 30, 31, 32, 33, 34, 35, 36] (fun x : Rows × Nat × Nat => [.slice x.2.1 (rowsA x.1), .int .i64 x.2.2]) (fun x s' => (x.2.2 ≤ S.length ∧ x.1.length ≤ x.2.2) ∧ Own s s' x.1.isEmpty x.2.1 32 1 ∧ all S = pre x.1 (allF (S.length + 1) x.1.length (S.drop x.2.2))) (fun x => S.length - x.2.2) (([], 1, 0)) (by kernel_rfl) (by (repeat' (first | refine cons_eq ?_ ?_ | refine int64_of ?_ ?_ ?_ | rfl | omega))) ?_ ?_
  · exact ⟨⟨by simp, by simp⟩, Own.nil _ _ _, by rw [List.drop_zero, pre_nil]; rfl⟩
  · rintro y ⟨o, t, a⟩ s1 ⟨⟨i1, i2⟩, i3, i4⟩
    simp only at i1 i2 i3 i4
    have hol := rowsA_len o
    show awp _ _ _ _ _ (updL _ _ [.slice t (rowsA o), .int .i64 (a : Int)]) _
    conv => whnf
    have hA : List.drop ((a : Int)).toNat (List.take S.length S) = S.drop a := by rw [Int.toNat_natCast, drop_take_all]
    have hfi := refFirst_ok (Γ := Γ) (S.drop a) (by rw [List.length_drop]; omega)
    by_cases he : a = S.length
    · repeat' (first
        | (exfalso; first | omega | exact (by assumption : ¬ True) trivial | fail)
        | (refine ⟨Sub.refl _, ?_⟩)
        | (refine brA_split (fun h => ?_) (fun h => ?_) <;> (try rw [h]) <;> (try simp only [Bool.false_eq_true, Bool.true_eq_false, ↓reduceIte, decide_eq_true_eq, decide_eq_false_iff_not, Bool.not_eq_true', Bool.not_eq_false'] at h) <;> (conv => whnf))
        | (refine getB_same ?_; conv => whnf)
        | (refine AWp.any (by kernel_rfl) (by kernel_rfl) (by kernel_rfl) ?_; conv => whnf)
        | (apply And.intro; (focus (first | omega | rfl | decide | exact Nat.le_of_ble_eq_true rfl | ((repeat' (first | exact all_nil | refine all_cons ?_ ?_ | rfl | fail)); done) | (simp [-List.length_flatMap]; done) | (simp [-List.length_flatMap]; omega) | fail)); conv => whnf)
        | fail)
      refine ⟨_, Sub.refl _, ?_, i3.sub⟩
      rw [i4, he, List.drop_length, allF_end]
      simp only [tupA, fg, fgL, fgE_rows, refAllA, pre, List.append_nil]
    · have hlt : a < S.length := by omega
      have hne : S.drop a ≠ [] := by rw [Ne, ← List.length_eq_zero_iff, List.length_drop]; omega
      rcases hx : row (S.drop a) with ⟨x, c⟩ | ⟨m, z⟩
      · rw [hx] at hfi
        have hxe := rowF_err _ _ _ _ (Nat.lt_succ_self _) hx
        repeat' (first
          | (exfalso; first | omega | exact (by assumption : ¬ True) trivial | fail)
          | (refine ⟨Sub.refl _, ?_⟩)
          | (refine brA_split (fun h => ?_) (fun h => ?_) <;> (try rw [h]) <;> (try simp only [Bool.false_eq_true, Bool.true_eq_false, ↓reduceIte, decide_eq_true_eq, decide_eq_false_iff_not, Bool.not_eq_true', Bool.not_eq_false'] at h) <;> (conv => whnf))
          | (rw [hA]; conv => whnf)
          | (refine ACalls.pure' ?_ (hfi); rintro _ rfl; conv => whnf)
          | (refine DCall.pure ?_ (hfi); conv => whnf)
          | (refine getB_same ?_; conv => whnf)
          | (refine AWp.any (by kernel_rfl) (by kernel_rfl) (by kernel_rfl) ?_; conv => whnf)
          | (apply And.intro; (focus (first | omega | rfl | decide | exact Nat.le_of_ble_eq_true rfl | ((repeat' (first | exact all_nil | refine all_cons ?_ ?_ | rfl | fail)); done) | (simp [-List.length_flatMap]; done) | (simp [-List.length_flatMap]; omega) | fail)); conv => whnf)
          | fail)
        intro b hb
        conv => whnf
        repeat' (first
          | (exfalso; first | omega | exact (by assumption : ¬ True) trivial | fail)
          | (refine ⟨Sub.refl _, ?_⟩)
          | (refine brA_split (fun h => ?_) (fun h => ?_) <;> (try rw [h]) <;> (try simp only [Bool.false_eq_true, Bool.true_eq_false, ↓reduceIte, decide_eq_true_eq, decide_eq_false_iff_not, Bool.not_eq_true', Bool.not_eq_false'] at h) <;> (conv => whnf))
          | (refine getB_of (by ((repeat (first | exact set_bx_same | assumption | refine (set_bx_other (by assumption)).trans ?_ | refine grow_bx.trans ?_)); done)) ?_; conv => whnf)
          | (refine getB_same ?_; conv => whnf)
          | (refine AWp.any (by kernel_rfl) (by kernel_rfl) (by kernel_rfl) ?_; conv => whnf)
          | (apply And.intro; (focus (first | omega | rfl | decide | exact Nat.le_of_ble_eq_true rfl | ((repeat' (first | exact all_nil | refine all_cons ?_ ?_ | rfl | fail)); done) | (simp [-List.length_flatMap]; done) | (simp [-List.length_flatMap]; omega) | fail)); conv => whnf)
          | fail)
        refine ⟨_, Sub.refl _, ?_, (i3.sub.set (i3.sub.none hb) _ _).set (i3.sub.none hb) _ _⟩
        rw [i4, allF_bad hne hx]
        show fg (.tuple [.slice t (rowsA o), .int .i64 (IntKind.i64.wrap (((rowsA o).length : Int) + 1)), .int .i64 c, .int .i64 x]) = _
        rw [i64_of (b := (o.length : Int) + 1) (by omega) (by omega) (by omega)]
        simp only [fg, fgL, fgE_rows, refAllA, pre, List.append_nil]
      · rw [hx] at hfi
        have hb := rowF_ok_bound _ _ _ _ hx
        rw [List.length_drop] at hb
        have hz := hb.2.1 hne
        repeat' (first
          | (exfalso; first | omega | exact (by assumption : ¬ True) trivial | fail)
          | (refine ⟨Sub.refl _, ?_⟩)
          | (refine brA_split (fun h => ?_) (fun h => ?_) <;> (try rw [h]) <;> (try simp only [Bool.false_eq_true, Bool.true_eq_false, ↓reduceIte, decide_eq_true_eq, decide_eq_false_iff_not, Bool.not_eq_true', Bool.not_eq_false'] at h) <;> (conv => whnf))
          | (rw [hA]; conv => whnf)
          | (refine ACalls.pure' ?_ (hfi); rintro _ rfl; conv => whnf)
          | (refine DCall.pure ?_ (hfi); conv => whnf)
          | (refine getB_same ?_; conv => whnf)
          | (refine AWp.any (by kernel_rfl) (by kernel_rfl) (by kernel_rfl) ?_; conv => whnf)
          | (apply And.intro; (focus (first | omega | rfl | decide | exact Nat.le_of_ble_eq_true rfl | ((repeat' (first | exact all_nil | refine all_cons ?_ ?_ | rfl | fail)); done) | (simp [-List.length_flatMap]; done) | (simp [-List.length_flatMap]; omega) | fail)); conv => whnf)
          | fail)
        intro b hbn
        conv => whnf
        have gb := i3.sub.none hbn
        have i5 := fun (T : TypeId) (x y : List AV) => (i3.set (T := T) (cs := x) gb).set (T := T) (cs := y) gb
        repeat' (first
          | (exfalso; first | omega | exact (by assumption : ¬ True) trivial | fail)
          | (refine ⟨Sub.refl _, ?_⟩)
          | (refine brA_split (fun h => ?_) (fun h => ?_) <;> (try rw [h]) <;> (try simp only [Bool.false_eq_true, Bool.true_eq_false, ↓reduceIte, decide_eq_true_eq, decide_eq_false_iff_not, Bool.not_eq_true', Bool.not_eq_false'] at h) <;> (conv => whnf))
          | (refine getB_of (by ((repeat (first | exact set_bx_same | assumption | refine (set_bx_other (by assumption)).trans ?_ | refine grow_bx.trans ?_)); done)) ?_; conv => whnf)
          | (refine getB_same ?_; conv => whnf)
          | (refine AWp.any (by kernel_rfl) (by kernel_rfl) (by kernel_rfl) ?_; conv => whnf)
          | (apply And.intro; (focus (first | omega | rfl | decide | exact Nat.le_of_ble_eq_true rfl | ((repeat' (first | exact all_nil | refine all_cons ?_ ?_ | rfl | fail)); done) | (simp [-List.length_flatMap]; done) | (simp [-List.length_flatMap]; omega) | fail)); conv => whnf)
          | fail)
        refine ⟨(i5 _ _ _).may, fun c hc => ?_, all_cons ⟨rfl, rfl⟩ all_nil, ?_, ?_⟩
        · obtain ⟨z, _, rfl⟩ := List.mem_map.1 hc; rfl
        · show ((rowsA o).length + 1) * (24 + 1) ≤ _
          rw [hol]; omega
        intro t' k1 k2
        have k3 := (i5 _ _ _).grow k1 k2
        conv => whnf
        repeat' (first
          | (refine ⟨Sub.refl _, ?_⟩)
          | (refine brA_split (fun h => ?_) (fun h => ?_) <;> (try rw [h]) <;> (try simp only [Bool.false_eq_true, Bool.true_eq_false, ↓reduceIte, decide_eq_true_eq, decide_eq_false_iff_not, Bool.not_eq_true', Bool.not_eq_false'] at h) <;> (conv => whnf))
          | (refine getB_of (by ((repeat (first | exact set_bx_same | assumption | refine (set_bx_other (by assumption)).trans ?_ | refine grow_bx.trans ?_)); done)) ?_; conv => whnf)
          | (refine getB_same ?_; conv => whnf)
          | (refine AWp.any (by kernel_rfl) (by kernel_rfl) (by kernel_rfl) ?_; conv => whnf)
          | (apply And.intro; (focus (first | omega | rfl | decide | exact Nat.le_of_ble_eq_true rfl | ((repeat' (first | exact all_nil | refine all_cons ?_ ?_ | rfl | fail)); done) | (simp [-List.length_flatMap]; done) | (simp [-List.length_flatMap]; omega) | fail)); conv => whnf)
          | fail)
        refine ⟨(o ++ [m], t', a + z), ?_, by (repeat (first | exact Same.refl _ _ | refine Same.upd rfl ?_ | refine Same.updL rfl ?_ | refine Same.havoc rfl ?_)), ⟨⟨by simp only; omega, by simp; omega⟩, ?_, ?_⟩, by simp only; omega⟩
        · exact cons_eq (congrArg (AV.slice t') (rowsA_app o m)) (cons_eq (by show AV.int .i64 (IntKind.i64.wrap ((a : Int) + z)) = .int .i64 ((a + z : Nat) : Int); rw [i64_of (b := ((a + z : Nat) : Int)) (by omega) (by omega) (by omega)]) rfl)
        · rw [show (o ++ [m]).isEmpty = (o.isEmpty && [[AV.slice 0 (strsA m)]].isEmpty) by cases o <;> rfl]
          exact k3
        · rw [i4, allF_ok hne hx, pre_pre, List.drop_drop, allF_fuel S.length (S.length + 1) _ _ (by rw [List.length_drop]; omega) (by rw [List.length_drop]; omega)]
          simp
theorem all_ex : all [97, 44, 34, 98, 34, 34, 99, 34] = ([[[97], [98, 34, 99]]], 0, 0, 0) := by kernel_rfl
theorem awake_ok (hE : AsF.ErrT Γ) : APure Tryd.prog Γ 9 [] fun v => v = .bool true := by
  have h1 := progAll_ok hE [97, 44, 34, 98, 34, 34, 99, 34] (by simp)
  rw [all_ex] at h1
  refine APure.of_awp Tryd.func9 rfl (Nat.le_of_ble_eq_true (by kernel_rfl)) (by kernel_rfl) ?_
  intro s
  conv => whnf
  repeat' (first
    | (refine ⟨Sub.refl _, ?_⟩)
    | (refine brA_split (fun h => ?_) (fun h => ?_) <;> (try rw [h]) <;> (try simp only [Bool.false_eq_true, Bool.true_eq_false, ↓reduceIte, decide_eq_true_eq, decide_eq_false_iff_not, Bool.not_eq_true', Bool.not_eq_false'] at h) <;> (conv => whnf))
    | (refine ACalls.pure' ?_ (h1); rintro _ rfl; conv => whnf)
    | (refine DCall.pure ?_ (h1); conv => whnf)
    | (refine getB_same ?_; conv => whnf)
    | (refine AWp.any (by kernel_rfl) (by kernel_rfl) (by kernel_rfl) ?_; conv => whnf)
    | (apply And.intro; (focus (first | omega | rfl | decide | exact Nat.le_of_ble_eq_true rfl | ((repeat' (first | exact all_nil | refine all_cons ?_ ?_ | rfl | fail)); done) | (simp [-List.length_flatMap]; done) | (simp [-List.length_flatMap]; omega) | fail)); conv => whnf)
    | fail)
  intro b hb
  conv => whnf
  repeat' (first
    | (refine ⟨Sub.refl _, ?_⟩)
    | (refine brA_split (fun h => ?_) (fun h => ?_) <;> (try rw [h]) <;> (try simp only [Bool.false_eq_true, Bool.true_eq_false, ↓reduceIte, decide_eq_true_eq, decide_eq_false_iff_not, Bool.not_eq_true', Bool.not_eq_false'] at h) <;> (conv => whnf))
    | (refine getB_of (by ((repeat (first | exact set_bx_same | assumption | refine (set_bx_other (by assumption)).trans ?_ | refine grow_bx.trans ?_)); done)) ?_; conv => whnf)
    | (refine EqAgg.of grdFail planFail ?_; conv => whnf)
    | (refine getB_same ?_; conv => whnf)
    | (refine AWp.any (by kernel_rfl) (by kernel_rfl) (by kernel_rfl) ?_; conv => whnf)
    | (apply And.intro; (focus (first | omega | rfl | decide | exact Nat.le_of_ble_eq_true rfl | ((repeat' (first | exact all_nil | refine all_cons ?_ ?_ | rfl | fail)); done) | (simp [-List.length_flatMap]; done) | (simp [-List.length_flatMap]; omega) | fail)); conv => whnf)
    | fail)
  exact ⟨((Sub.refl _).set hb _ _).set hb _ _, rfl⟩
theorem allF_len : ∀ (k : Nat) (r : Int) (l : List UInt8), (allF k r l).1.length ≤ l.length ∧ ∀ m ∈ (allF k r l).1, m.length ≤ l.length + 1
  | 0, r, l => ⟨Nat.zero_le _, fun m h => by cases h⟩
  | k + 1, r, l => by
    by_cases hl : l = []
    · rw [hl, allF_end]
      exact ⟨Nat.zero_le _, fun m h => by cases h⟩
    · rcases hx : row l with ⟨x, c⟩ | ⟨m, z⟩
      · rw [allF_bad hl hx]
        exact ⟨Nat.zero_le _, fun m h => by cases h⟩
      · have hb := rowF_ok_bound _ _ _ _ hx
        have hz := hb.2.1 hl
        have ih := allF_len k (r + 1) (l.drop z)
        rw [List.length_drop] at ih
        rw [allF_ok hl hx]
        refine ⟨by simp only [pre, List.length_append, List.length_cons, List.length_nil]; omega, fun q hq => ?_⟩
        rcases List.mem_append.1 hq with hq | hq
        · obtain rfl := List.mem_singleton.1 hq
          omega
        · have := ih.2 q hq
          omega
theorem csvAll_law (hE : AsF.ErrT Γ) (S : List UInt8) (hl : S.length ≤ 9223372036854775807) : APure Tryd.prog Γ 3 [.str S] fun v => v = .bool true := by
  by_cases hS : (20000 : Int) < S.length
  · refine APure.of_awp Tryd.func3 rfl (Nat.le_of_ble_eq_true (by kernel_rfl)) (by kernel_rfl) ?_
    intro s
    conv => whnf
    repeat' (first
      | (exfalso; first | omega | exact (by assumption : ¬ True) trivial | fail)
      | (refine ⟨Sub.refl _, ?_⟩)
      | (refine brA_split (fun h => ?_) (fun h => ?_) <;> (try rw [h]) <;> (try simp only [Bool.false_eq_true, Bool.true_eq_false, ↓reduceIte, decide_eq_true_eq, decide_eq_false_iff_not, Bool.not_eq_true', Bool.not_eq_false'] at h) <;> (conv => whnf))
      | (refine ACalls.pure' ?_ (awake_ok hE); rintro _ rfl; conv => whnf)
      | (refine DCall.pure ?_ (awake_ok hE); conv => whnf)
      | (refine getB_same ?_; conv => whnf)
      | (refine AWp.any (by kernel_rfl) (by kernel_rfl) (by kernel_rfl) ?_; conv => whnf)
      | (apply And.intro; (focus (first | omega | rfl | decide | exact Nat.le_of_ble_eq_true rfl | ((repeat' (first | exact all_nil | refine all_cons ?_ ?_ | rfl | fail)); done) | (simp [-List.length_flatMap]; done) | (simp [-List.length_flatMap]; omega) | fail)); conv => whnf)
      | fail)
    rfl
  · have h1 := progAll_ok hE S (by omega)
    have h2 := refAll_ok (Γ := Γ) S (by omega)
    have h3 := allF_len (S.length + 1) 0 S
    rw [show allF (S.length + 1) 0 S = all S from rfl] at h3
    generalize hy : all S = y at h1 h2 h3
    obtain ⟨o, e, li, co⟩ := y
    simp only at h3
    have hol := rowsA_len o
    refine APure.of_awp Tryd.func3 rfl (Nat.le_of_ble_eq_true (by kernel_rfl)) (by kernel_rfl) ?_
    intro s
    conv => whnf
    repeat' (first
      | (exfalso; first | omega | exact (by assumption : ¬ True) trivial | fail)
      | (refine ⟨Sub.refl _, ?_⟩)
      | (refine brA_split (fun h => ?_) (fun h => ?_) <;> (try rw [h]) <;> (try simp only [Bool.false_eq_true, Bool.true_eq_false, ↓reduceIte, decide_eq_true_eq, decide_eq_false_iff_not, Bool.not_eq_true', Bool.not_eq_false'] at h) <;> (conv => whnf))
      | (refine ACalls.pure' ?_ (h1); rintro _ rfl; conv => whnf)
      | (refine DCall.pure ?_ (h1); conv => whnf)
      | (refine getB_same ?_; conv => whnf)
      | (refine AWp.any (by kernel_rfl) (by kernel_rfl) (by kernel_rfl) ?_; conv => whnf)
      | (apply And.intro; (focus (first | omega | rfl | decide | exact Nat.le_of_ble_eq_true rfl | ((repeat' (first | exact all_nil | refine all_cons ?_ ?_ | rfl | fail)); done) | (simp [-List.length_flatMap]; done) | (simp [-List.length_flatMap]; omega) | fail)); conv => whnf)
      | fail)
    intro b hb
    conv => whnf
    repeat' (first
      | (exfalso; first | omega | exact (by assumption : ¬ True) trivial | fail)
      | (refine ⟨Sub.refl _, ?_⟩)
      | (refine brA_split (fun h => ?_) (fun h => ?_) <;> (try rw [h]) <;> (try simp only [Bool.false_eq_true, Bool.true_eq_false, ↓reduceIte, decide_eq_true_eq, decide_eq_false_iff_not, Bool.not_eq_true', Bool.not_eq_false'] at h) <;> (conv => whnf))
      | (refine getB_of (by ((repeat (first | exact set_bx_same | assumption | refine (set_bx_other (by assumption)).trans ?_ | refine grow_bx.trans ?_)); done)) ?_; conv => whnf)
      | (refine ACalls.pure' ?_ (h2); rintro _ rfl; conv => whnf)
      | (refine DCall.pure ?_ (h2); conv => whnf)
      | (refine getB_same ?_; conv => whnf)
      | (refine AWp.any (by kernel_rfl) (by kernel_rfl) (by kernel_rfl) ?_; conv => whnf)
      | (apply And.intro; (focus (first | omega | rfl | decide | exact Nat.le_of_ble_eq_true rfl | ((repeat' (first | exact all_nil | refine all_cons ?_ ?_ | rfl | fail)); done) | (simp [-List.length_flatMap]; done) | (simp [-List.length_flatMap]; omega) | fail)); conv => whnf)
      | fail)
    refine AWp.loopA [9] [49, 50, 51, 52, 55, 56, 57, 58, 59, 60, 61, 62, 63, 64, 2, 53, 54] (fun i : Nat => [.int .i64 i]) (fun i s' => i ≤ o.length ∧ Sub s s') (fun i => o.length - i) (0) (by kernel_rfl) (by (repeat' (first | refine cons_eq ?_ ?_ | refine int64_of ?_ ?_ ?_ | rfl | omega))) ?_ ?_
    · exact ⟨by omega, ((Sub.refl _).set hb _ _).set hb _ _⟩
    · rintro y i s1 ⟨hi, hs1⟩
      show awp _ _ _ _ _ (updL _ _ [.int .i64 (i : Int)]) _
      conv => whnf
      by_cases hlt : i < o.length
      · have hg : (rowsA o).getD i [] = [.slice 0 (strsA (o.getD i []))] := by unfold rowsA; exact (by simp [List.getD, hlt] : (o.map fun r => [AV.slice 0 (strsA r)]).getD i [] = [.slice 0 (strsA (o.getD i []))])
        have hlen : (o.getD i []).length ≤ 10000000 := by
          have := h3.2 (o.getD i []) (by simp [List.getD, hlt])
          omega
        generalize o.getD i [] = z at *
        repeat' (first
          | (exfalso; first | omega | exact (by assumption : ¬ True) trivial | fail)
          | (refine ⟨Sub.refl _, ?_⟩)
          | (refine brA_split (fun h => ?_) (fun h => ?_) <;> (try rw [h]) <;> (try simp only [Bool.false_eq_true, Bool.true_eq_false, ↓reduceIte, decide_eq_true_eq, decide_eq_false_iff_not, Bool.not_eq_true', Bool.not_eq_false'] at h) <;> (conv => whnf))
          | (rw [show (rowsA o).getD ((i : Int)).toNat [] = _ from hg]; conv => whnf)
          | (refine ACalls.pure' ?_ (same_refl 0 0 z hlen); rintro _ rfl; conv => whnf)
          | (refine DCall.pure ?_ (same_refl 0 0 z hlen); conv => whnf)
          | (refine getB_same ?_; conv => whnf)
          | (refine AWp.any (by kernel_rfl) (by kernel_rfl) (by kernel_rfl) ?_; conv => whnf)
          | (apply And.intro; (focus (first | omega | rfl | decide | exact Nat.le_of_ble_eq_true rfl | ((repeat' (first | exact all_nil | refine all_cons ?_ ?_ | rfl | fail)); done) | (simp [-List.length_flatMap]; done) | (simp [-List.length_flatMap]; omega) | fail)); conv => whnf)
          | fail)
        exact ⟨i + 1, by (repeat' (first | refine cons_eq ?_ ?_ | refine int64_of ?_ ?_ ?_ | rfl | omega)), by (repeat (first | exact Same.refl _ _ | refine Same.upd rfl ?_ | refine Same.updL rfl ?_ | refine Same.havoc rfl ?_)), ⟨by omega, hs1⟩, by omega⟩
      · repeat' (first
          | (exfalso; first | omega | exact (by assumption : ¬ True) trivial | fail)
          | (refine ⟨Sub.refl _, ?_⟩)
          | (refine brA_split (fun h => ?_) (fun h => ?_) <;> (try rw [h]) <;> (try simp only [Bool.false_eq_true, Bool.true_eq_false, ↓reduceIte, decide_eq_true_eq, decide_eq_false_iff_not, Bool.not_eq_true', Bool.not_eq_false'] at h) <;> (conv => whnf))
          | (refine ACalls.pure' ?_ (awake_ok hE); rintro _ rfl; conv => whnf)
          | (refine DCall.pure ?_ (awake_ok hE); conv => whnf)
          | (refine getB_same ?_; conv => whnf)
          | (refine AWp.any (by kernel_rfl) (by kernel_rfl) (by kernel_rfl) ?_; conv => whnf)
          | (apply And.intro; (focus (first | omega | rfl | decide | exact Nat.le_of_ble_eq_true rfl | ((repeat' (first | exact all_nil | refine all_cons ?_ ?_ | rfl | fail)); done) | (simp [-List.length_flatMap]; done) | (simp [-List.length_flatMap]; omega) | fail)); conv => whnf)
          | fail)
        first | exact ⟨hs1, rfl⟩ | rfl
end Go.Proofs.YtedaejmnnjljcaaDoor.Cv
