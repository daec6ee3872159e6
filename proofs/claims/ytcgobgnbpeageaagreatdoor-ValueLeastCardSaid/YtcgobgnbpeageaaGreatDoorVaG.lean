/- Chapter 3: the law of the least. -/
import Derived.Test.YtcgobgnbpeageaaGreatDoorVaF
set_option linter.all false
namespace Go.Proofs.YtcgobgnbpeageaaGreatDoor.Va
open Go Go.Ab Go.RowKit
variable {Γ : Nat → AV}
attribute [local irreducible] APure Sto.set Sto.grow
set_option maxRecDepth 10000
set_option maxHeartbeats 1000000

/-- The place of the first least of the first i values. -/
def lst (l : List Vl) : Nat → Int
  | 0 => -1
  | i + 1 => if lst l i < 0 ∨ less (l.getD i noVl) (l.getD (lst l i).toNat noVl) = true then i else lst l i
theorem lst_bounds (l : List Vl) : ∀ i, -1 ≤ lst l i ∧ lst l i < i ∧ (0 < i → 0 ≤ lst l i)
  | 0 => by simp [lst]
  | i + 1 => by
    have := lst_bounds l i
    unfold lst
    split
    · omega
    · rename_i h
      omega
theorem same_ok (v : Vl) : APure Tryz.prog Γ 20 [.agg (vlA v)] fun x => x = .agg (vlA v) := by
  refine APure.of_awp Tryz.func20 rfl (Nat.le_of_ble_eq_true (by kernel_rfl)) (by kernel_rfl) ?_
  intro s
  conv => whnf
  intro b hb
  conv => whnf
  intro b2 hb2
  conv => whnf
  repeat' (first
    | (refine ⟨Sub.refl _, ?_⟩)
    | (refine brA_split (fun h => ?_) (fun h => ?_) <;> (try rw [h]) <;> (try simp only [Bool.false_eq_true, Bool.true_eq_false, ↓reduceIte, decide_eq_true_eq, decide_eq_false_iff_not, Bool.not_eq_true', Bool.not_eq_false'] at h) <;> (conv => whnf))
    | (refine getB_of set_bx_same ?_; conv => whnf)
    | (refine getB_other (ne_of_none set_bx_same hb2) (getB_of set_bx_same ?_); conv => whnf)
    | (refine getB_same ?_; conv => whnf)
    | (refine AWp.any (by kernel_rfl) (by kernel_rfl) (by kernel_rfl) ?_; conv => whnf)
    | (apply And.intro; (focus (first | omega | rfl | decide | exact Nat.le_of_ble_eq_true rfl | ((repeat' (first | exact all_nil | refine all_cons ?_ ?_ | rfl | fail)); done) | (simp [-List.length_flatMap]; done) | (simp [-List.length_flatMap]; omega) | fail)); conv => whnf)
    | fail)
  exact ⟨(((Sub.refl _).set hb _ _).set (none_set hb2).2 _ _).set (none_set hb2).2 _ _, rfl⟩
theorem least_ok (t : Nat) (l : List Vl) (hl : l.length ≤ 1048576) : APure Tryz.prog Γ 19 [.slice t (l.map vlA), .func (.func 20) [] []] fun v => v = .int .i64 (lst l l.length) := by
  have hlen : (l.map vlA).length = l.length := List.length_map ..
  refine APure.of_awp Tryz.func19 rfl (Nat.le_of_ble_eq_true (by kernel_rfl)) (by kernel_rfl) ?_
  intro s
  conv => whnf
  repeat' (first
    | (refine ⟨Sub.refl _, ?_⟩)
    | (refine brA_split (fun h => ?_) (fun h => ?_) <;> (try rw [h]) <;> (try simp only [Bool.false_eq_true, Bool.true_eq_false, ↓reduceIte, decide_eq_true_eq, decide_eq_false_iff_not, Bool.not_eq_true', Bool.not_eq_false'] at h) <;> (conv => whnf))
    | (refine getB_same ?_; conv => whnf)
    | (refine AWp.any (by kernel_rfl) (by kernel_rfl) (by kernel_rfl) ?_; conv => whnf)
    | (apply And.intro; (focus (first | omega | rfl | decide | exact Nat.le_of_ble_eq_true rfl | ((repeat' (first | exact all_nil | refine all_cons ?_ ?_ | rfl | fail)); done) | (simp [-List.length_flatMap]; done) | (simp [-List.length_flatMap]; omega) | fail)); conv => whnf)
    | fail)
  refine AWp.loopA [10, 5] [11, 12, 13, 14, 7, 6, 15, 16, 17, 18, 19, 20, 21, 22, 23, 24, 25, 26, 27, 28, 29, 30] (fun i : Nat => [.int .i64 i, .int .i64 (lst l i)]) (fun i s' => i ≤ l.length ∧ Sub s s') (fun i => l.length - i) (0) (by kernel_rfl) (by (repeat' (first | refine cons_eq ?_ ?_ | refine int64_of ?_ ?_ ?_ | rfl | omega))) ?_ ?_
  · exact ⟨by omega, Sub.refl _⟩
  · rintro y i s1 ⟨hi, hs1⟩
    conv => whnf
    have hg := fun h : i < l.length => map_get (f := vlA) (l := l) noVl h
    have hb := lst_bounds l i
    have hg2 := fun h : (lst l i).toNat < l.length => map_get (f := vlA) (l := l) noVl h
    have hstep : lst l (i + 1) = if lst l i < 0 ∨ less (l.getD i noVl) (l.getD (lst l i).toNat noVl) = true then (i : Int) else lst l i := rfl
    repeat' (first
      | (refine ⟨Sub.refl _, ?_⟩)
      | (refine brA_split (fun h => ?_) (fun h => ?_) <;> (try rw [h]) <;> (try simp only [Bool.false_eq_true, Bool.true_eq_false, ↓reduceIte, decide_eq_true_eq, decide_eq_false_iff_not, Bool.not_eq_true', Bool.not_eq_false'] at h) <;> (conv => whnf))
      | (rw [show (l.map vlA).getD ((i : Int)).toNat [] = _ from hg (by omega)]; conv => whnf)
      | (refine getB_same ?_; conv => whnf)
      | (refine AWp.any (by kernel_rfl) (by kernel_rfl) (by kernel_rfl) ?_; conv => whnf)
      | (apply And.intro; (focus (first | omega | rfl | decide | exact Nat.le_of_ble_eq_true rfl | ((repeat' (first | exact all_nil | refine all_cons ?_ ?_ | rfl | fail)); done) | (simp [-List.length_flatMap]; done) | (simp [-List.length_flatMap]; omega) | fail)); conv => whnf)
      | fail)
    · intro c hc
      conv => whnf
      have h5 := hs1.none hc
      refine getB_of set_bx_same ?_
      repeat' (first
        | (exfalso; omega)
        | (refine ⟨Sub.refl _, ?_⟩)
        | (refine brA_split (fun h => ?_) (fun h => ?_) <;> (try rw [h]) <;> (try simp only [Bool.false_eq_true, Bool.true_eq_false, ↓reduceIte, decide_eq_true_eq, decide_eq_false_iff_not, Bool.not_eq_true', Bool.not_eq_false'] at h) <;> (conv => whnf))
        | (refine getB_of set_bx_same ?_; conv => whnf)
        | (refine ACalls.pure' ?_ (same_ok (l.getD i noVl)); rintro _ rfl; conv => whnf)
        | (refine DCall.pure ?_ (same_ok (l.getD i noVl)); conv => whnf)
        | (refine ACalls.pure' ?_ (same_ok (l.getD (lst l i).toNat noVl)); rintro _ rfl; conv => whnf)
        | (refine DCall.pure ?_ (same_ok (l.getD (lst l i).toNat noVl)); conv => whnf)
        | (rw [show (l.map vlA).getD (lst l i).toNat [] = _ from hg2 (by omega)]; conv => whnf)
        | (refine ACalls.pure' ?_ (less_ok (l.getD i noVl) (l.getD (lst l i).toNat noVl)); rintro _ rfl; conv => whnf)
        | (refine DCall.pure ?_ (less_ok (l.getD i noVl) (l.getD (lst l i).toNat noVl)); conv => whnf)
        | (refine getB_same ?_; conv => whnf)
        | (refine AWp.any (by kernel_rfl) (by kernel_rfl) (by kernel_rfl) ?_; conv => whnf)
        | (apply And.intro; (focus (first | omega | rfl | decide | exact Nat.le_of_ble_eq_true rfl | ((repeat' (first | exact all_nil | refine all_cons ?_ ?_ | rfl | fail)); done) | (simp [-List.length_flatMap]; done) | (simp [-List.length_flatMap]; omega) | fail)); conv => whnf)
        | fail)
      · have e : lst l (i + 1) = i := by rw [hstep, if_pos (.inl h)]
        refine ⟨i + 1, (by refine cons_eq ?_ (cons_eq (congrArg (AV.int .i64) e.symm) rfl); refine int64_of ?_ ?_ ?_ <;> omega), by (repeat (first | exact Same.refl _ _ | refine Same.upd rfl ?_ | refine Same.updL rfl ?_ | refine Same.havoc rfl ?_)), ⟨by omega, (hs1.set h5 _ _).set h5 _ _⟩, by omega⟩
      · have e : lst l (i + 1) = i := by rw [hstep, if_pos (.inr h)]
        refine ⟨i + 1, (by refine cons_eq ?_ (cons_eq (congrArg (AV.int .i64) e.symm) rfl); refine int64_of ?_ ?_ ?_ <;> omega), by (repeat (first | exact Same.refl _ _ | refine Same.upd rfl ?_ | refine Same.updL rfl ?_ | refine Same.havoc rfl ?_)), ⟨by omega, (hs1.set h5 _ _).set h5 _ _⟩, by omega⟩
      · rename_i hn
        have e : lst l (i + 1) = lst l i := by rw [hstep, if_neg (by rw [h]; simp; omega)]
        refine ⟨i + 1, (by refine cons_eq ?_ (cons_eq (congrArg (AV.int .i64) e.symm) rfl); refine int64_of ?_ ?_ ?_ <;> omega), by (repeat (first | exact Same.refl _ _ | refine Same.upd rfl ?_ | refine Same.updL rfl ?_ | refine Same.havoc rfl ?_)), ⟨by omega, (hs1.set h5 _ _).set h5 _ _⟩, by omega⟩
    · have e : i = l.length := by omega
      subst e
      first | exact ⟨hs1, rfl⟩ | rfl
theorem least_law (hT : Qu.Tabs Γ) (hN : Nu.Tens Γ) (t : Nat) (l : List Vl) : APure Tryz.prog Γ 6 [.slice t (l.map vlA)] fun v => v = .bool true := by
  have hlen : (l.map vlA).length = l.length := List.length_map ..
  refine APure.of_awp Tryz.func6 rfl (Nat.le_of_ble_eq_true (by kernel_rfl)) (by kernel_rfl) ?_
  intro s
  conv => whnf
  repeat' (first
    | (refine ⟨Sub.refl _, ?_⟩)
    | (refine brA_split (fun h => ?_) (fun h => ?_) <;> (try rw [h]) <;> (try simp only [Bool.false_eq_true, Bool.true_eq_false, ↓reduceIte, decide_eq_true_eq, decide_eq_false_iff_not, Bool.not_eq_true', Bool.not_eq_false'] at h) <;> (conv => whnf))
    | (refine ACalls.pure' ?_ (awake_ok hT hN); rintro _ rfl; conv => whnf)
    | (refine DCall.pure ?_ (awake_ok hT hN); conv => whnf)
    | (refine getB_same ?_; conv => whnf)
    | (refine AWp.any (by kernel_rfl) (by kernel_rfl) (by kernel_rfl) ?_; conv => whnf)
    | (apply And.intro; (focus (first | omega | rfl | decide | exact Nat.le_of_ble_eq_true rfl | ((repeat' (first | exact all_nil | refine all_cons ?_ ?_ | rfl | fail)); done) | (simp [-List.length_flatMap]; done) | (simp [-List.length_flatMap]; omega) | fail)); conv => whnf)
    | fail)
  · rfl
  refine AWp.loopA [3] [10, 11, 12, 13, 16, 17, 18, 19, 20, 21, 22, 23, 24, 25, 26, 27, 28, 29, 30, 2, 14, 15] (fun i : Nat => [.int .i64 i]) (fun i s' => i ≤ l.length ∧ s' = s ∧ ∀ v ∈ l.take i, v.2.2.1.length ≤ 5000) (fun i => l.length - i) (0) (by kernel_rfl) (by (repeat' (first | refine cons_eq ?_ ?_ | refine int64_of ?_ ?_ ?_ | rfl | omega))) ?_ ?_
  · exact ⟨by omega, rfl, by simp⟩
  · rintro y i s1 ⟨hi, rfl, hp⟩
    conv => whnf
    have hg := fun h : i < l.length => map_get (f := vlA) (l := l) noVl h
    repeat' (first
      | (refine ⟨Sub.refl _, ?_⟩)
      | (refine brA_split (fun h => ?_) (fun h => ?_) <;> (try rw [h]) <;> (try simp only [Bool.false_eq_true, Bool.true_eq_false, ↓reduceIte, decide_eq_true_eq, decide_eq_false_iff_not, Bool.not_eq_true', Bool.not_eq_false'] at h) <;> (conv => whnf))
      | (rw [show (l.map vlA).getD ((i : Int)).toNat [] = _ from hg (by omega)]; conv => whnf)
      | (refine ACalls.pure' ?_ (few_ok (l.getD i noVl)); rintro _ rfl; conv => whnf)
      | (refine DCall.pure ?_ (few_ok (l.getD i noVl)); conv => whnf)
      | (refine ACalls.pure' ?_ (refRight_ok (l.getD i noVl)); rintro _ rfl; conv => whnf)
      | (refine DCall.pure ?_ (refRight_ok (l.getD i noVl)); conv => whnf)
      | (refine ACalls.pure' ?_ (awake_ok hT hN); rintro _ rfl; conv => whnf)
      | (refine DCall.pure ?_ (awake_ok hT hN); conv => whnf)
      | (refine getB_same ?_; conv => whnf)
      | (refine AWp.any (by kernel_rfl) (by kernel_rfl) (by kernel_rfl) ?_; conv => whnf)
      | (apply And.intro; (focus (first | omega | rfl | decide | exact Nat.le_of_ble_eq_true rfl | ((repeat' (first | exact all_nil | refine all_cons ?_ ?_ | rfl | fail)); done) | (simp [-List.length_flatMap]; done) | (simp [-List.length_flatMap]; omega) | fail)); conv => whnf)
      | fail)
    · rfl
    · rfl
    · refine ⟨i + 1, by (repeat' (first | refine cons_eq ?_ ?_ | refine int64_of ?_ ?_ ?_ | rfl | omega)), by (repeat (first | exact Same.refl _ _ | refine Same.upd rfl ?_ | refine Same.updL rfl ?_ | refine Same.havoc rfl ?_)), ⟨by omega, (by first | rfl | trivial), fun v hv => ?_⟩, by omega⟩
      rw [List.take_succ_eq_append_getElem (by omega)] at hv
      rcases List.mem_append.1 hv with hv | hv
      · exact hp v hv
      · obtain rfl := List.mem_singleton.1 hv
        have h9 : ((l.getD i noVl).2.2.1.length : Int) ≤ 5000 := by assumption
        have e9 : l.getD i noVl = l[i]'(by omega) := by simp [List.getD, show i < l.length by omega]
        rw [e9] at h9
        omega
    · have ei : i = l.length := by omega
      subst ei
      have hall : ∀ v ∈ l, v.2.2.1.length ≤ 5000 := fun v hv => hp v (by rw [List.take_length]; exact hv)
      refine AWp.loopA [5, 4] [31, 32, 33, 34, 37, 38, 39, 40, 41, 42, 43, 44, 45, 46, 47, 48, 49, 50, 35, 36] (fun i : Nat => [.int .i64 i, .int .i64 (lst l i)]) (fun i s' => i ≤ l.length ∧ s' = s1) (fun i => l.length - i) (0) (by kernel_rfl) (by (repeat' (first | refine cons_eq ?_ ?_ | refine int64_of ?_ ?_ ?_ | rfl | omega))) ?_ ?_
      · exact ⟨by omega, rfl⟩
      · rintro y2 i s2 ⟨hi2, rfl⟩
        conv => whnf
        have hg := fun h : i < l.length => map_get (f := vlA) (l := l) noVl h
        have hb := lst_bounds l i
        have hg2 := fun h : (lst l i).toNat < l.length => map_get (f := vlA) (l := l) noVl h
        have hm := fun h : i < l.length => hall _ (getD_mem noVl h)
        have hstep : lst l (i + 1) = if lst l i < 0 ∨ less (l.getD i noVl) (l.getD (lst l i).toNat noVl) = true then (i : Int) else lst l i := rfl
        repeat' (first
          | (exfalso; omega)
          | (refine ⟨Sub.refl _, ?_⟩)
          | (refine brA_split (fun h => ?_) (fun h => ?_) <;> (try rw [h]) <;> (try simp only [Bool.false_eq_true, Bool.true_eq_false, ↓reduceIte, decide_eq_true_eq, decide_eq_false_iff_not, Bool.not_eq_true', Bool.not_eq_false'] at h) <;> (conv => whnf))
          | (rw [show (l.map vlA).getD ((i : Int)).toNat [] = _ from hg (by omega)]; conv => whnf)
          | (rw [show (l.map vlA).getD (lst l i).toNat [] = _ from hg2 (by omega)]; conv => whnf)
          | (refine ACalls.pure' ?_ (refLess_ok (l.getD i noVl) (l.getD (lst l i).toNat noVl) (by have := hm (by omega); omega)); rintro _ rfl; conv => whnf)
          | (refine DCall.pure ?_ (refLess_ok (l.getD i noVl) (l.getD (lst l i).toNat noVl) (by have := hm (by omega); omega)); conv => whnf)
          | (refine ACalls.pure' ?_ (least_ok _ l (by omega)); rintro _ rfl; conv => whnf)
          | (refine DCall.pure ?_ (least_ok _ l (by omega)); conv => whnf)
          | (refine ACalls.pure' ?_ (awake_ok hT hN); rintro _ rfl; conv => whnf)
          | (refine DCall.pure ?_ (awake_ok hT hN); conv => whnf)
          | (refine getB_same ?_; conv => whnf)
          | (refine AWp.any (by kernel_rfl) (by kernel_rfl) (by kernel_rfl) ?_; conv => whnf)
          | (apply And.intro; (focus (first | omega | rfl | decide | exact Nat.le_of_ble_eq_true rfl | ((repeat' (first | exact all_nil | refine all_cons ?_ ?_ | rfl | fail)); done) | (simp [-List.length_flatMap]; done) | (simp [-List.length_flatMap]; omega) | fail)); conv => whnf)
          | fail)
        · have e : lst l (i + 1) = i := by rw [hstep, if_pos (.inl h)]
          refine ⟨i + 1, (by refine cons_eq ?_ (cons_eq (congrArg (AV.int .i64) e.symm) rfl); refine int64_of ?_ ?_ ?_ <;> omega), by (repeat (first | exact Same.refl _ _ | refine Same.upd rfl ?_ | refine Same.updL rfl ?_ | refine Same.havoc rfl ?_)), ⟨by omega, (by first | rfl | trivial)⟩, by omega⟩
        · have e : lst l (i + 1) = i := by rw [hstep, if_pos (.inr h)]
          refine ⟨i + 1, (by refine cons_eq ?_ (cons_eq (congrArg (AV.int .i64) e.symm) rfl); refine int64_of ?_ ?_ ?_ <;> omega), by (repeat (first | exact Same.refl _ _ | refine Same.upd rfl ?_ | refine Same.updL rfl ?_ | refine Same.havoc rfl ?_)), ⟨by omega, (by first | rfl | trivial)⟩, by omega⟩
        · have e : lst l (i + 1) = lst l i := by rw [hstep, if_neg (by rw [h]; simp; omega)]
          refine ⟨i + 1, (by refine cons_eq ?_ (cons_eq (congrArg (AV.int .i64) e.symm) rfl); refine int64_of ?_ ?_ ?_ <;> omega), by (repeat (first | exact Same.refl _ _ | refine Same.upd rfl ?_ | refine Same.updL rfl ?_ | refine Same.havoc rfl ?_)), ⟨by omega, (by first | rfl | trivial)⟩, by omega⟩
        · rfl
        · have e : l.length = i := by omega
          exact absurd (by rw [← e]) h
end Go.Proofs.YtcgobgnbpeageaaGreatDoor.Va
