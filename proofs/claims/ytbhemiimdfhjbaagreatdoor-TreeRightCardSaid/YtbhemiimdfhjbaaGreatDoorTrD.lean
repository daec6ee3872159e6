/- Chapter 10: trees are compared by the document. -/
import Derived.Test.YtbhemiimdfhjbaaGreatDoorTrC
namespace Go.Proofs.YtbhemiimdfhjbaaGreatDoor.Tr
open Go Go.Ab Go.RowKit
variable {Γ : Nat → AV}
attribute [local irreducible] APure Sto.set Sto.grow
set_option maxRecDepth 10000

/-- A tree; beside some of its lists' elements stand tokens. -/
abbrev Tr0 := Idn × List (Nat × De) × List Qu × List Fr × List St × Idn × List (Nat × Sy) × List ((Nat × Nat × Nat) × Tn)
def trA (k : Nat → Nat) (x : Tr0) : List AV := [.str x.1.1, .int .i64 x.1.2.1, .int .i64 x.1.2.2, .slice (k 0) (x.2.1.map deA), .slice (k 1) (x.2.2.1.map quA), .slice (k 2) (x.2.2.2.1.map frA), .slice (k 3) (x.2.2.2.2.1.map stA),
  .str x.2.2.2.2.2.1.1, .int .i64 x.2.2.2.2.2.1.2.1, .int .i64 x.2.2.2.2.2.1.2.2, .slice (k 4) (x.2.2.2.2.2.2.1.map syA), .slice (k 5) (x.2.2.2.2.2.2.2.map tnA)]
/-- What is compared of it, but for symbols and transitions. -/
def keyH (x : Tr0) : Idn × Idn × List De × List Qu × List Fr × List St := (x.1, x.2.2.2.2.2.1, x.2.1.map Prod.snd, x.2.2.1, x.2.2.2.1, x.2.2.2.2.1)
def Small (x : Tr0) : Prop := (x.2.1.length ≤ 12 ∧ x.2.2.1.length ≤ 12 ∧ x.2.2.2.1.length ≤ 12 ∧ x.2.2.2.2.1.length ≤ 12 ∧ x.2.2.2.2.2.2.1.length ≤ 12 ∧ x.2.2.2.2.2.2.2.length ≤ 12) ∧
  (∀ d ∈ x.2.1, d.2.2.length ≤ 12) ∧ (∀ s ∈ x.2.2.2.2.2.2.1, s.2.2.1.length ≤ 12) ∧ ∀ t ∈ x.2.2.2.2.2.2.2, t.2.2.2.1.2.1.length ≤ 12 ∧ t.2.2.2.2.1.length ≤ 40 ∧ t.2.2.2.2.2.2.length ≤ 12
theorem eq_head (x y : Tr0) : decide (keyH x = keyH y) = (decide (x.1 = y.1) && (decide (x.2.2.2.2.2.1 = y.2.2.2.2.2.1) && (decide (x.2.1.map Prod.snd = y.2.1.map Prod.snd) && (decide (x.2.2.1 = y.2.2.1) && (decide (x.2.2.2.1 = y.2.2.2.1) && decide (x.2.2.2.2.1 = y.2.2.2.2.1)))))) := by
  rw [Bool.eq_iff_iff]; unfold keyH; simp only [Bool.and_eq_true, decide_eq_true_eq, Prod.mk.injEq]
theorem keyH_len {x y : Tr0} (h : keyH x = keyH y) : x.1 = y.1 ∧ x.2.2.2.2.2.1 = y.2.2.2.2.2.1 ∧ x.2.1.length = y.2.1.length ∧ x.2.2.1.length = y.2.2.1.length ∧ x.2.2.2.1.length = y.2.2.2.1.length ∧ x.2.2.2.2.1.length = y.2.2.2.2.1.length := by
  unfold keyH at h
  simp only [Prod.mk.injEq] at h
  obtain ⟨h1, h2, h3, h4, h5, h6⟩ := h
  exact ⟨h1, h2, keys_len h3, by rw [h4], by rw [h5], by rw [h6]⟩

theorem sy_len {x y : Sy} (h : x = y) : x.1 = y.1 ∧ x.2.1.length = y.2.1.length ∧ x.2.2.1 = y.2.2.1 ∧ x.2.2.2 = y.2.2.2 := by
  subst h; exact ⟨rfl, rfl, rfl, rfl⟩
theorem tn_len {x y : Tn} (h : x = y) : x.1 = y.1 ∧ x.2.1 = y.2.1 ∧ x.2.2.1 = y.2.2.1 ∧ x.2.2.2.1.length = y.2.2.2.1.length ∧ x.2.2.2.2.1 = y.2.2.2.2.1 ∧ x.2.2.2.2.2.length = y.2.2.2.2.2.length := by
  subst h; exact ⟨rfl, rfl, rfl, rfl, rfl, rfl⟩
theorem refSy_ok (x y : Nat × Sy) (hl : x.2.2.1.length ≤ 140737488355328) : APure Tryz.prog Γ 50 [.agg (syA x), .agg (syA y)] fun v => v = .bool (decide (x.2 = y.2)) := by
  have hlx : (x.2.2.1.map arA).length = x.2.2.1.length := List.length_map ..
  have hly : (y.2.2.1.map arA).length = y.2.2.1.length := List.length_map ..
  refine APure.of_awp Tryz.func50 rfl (Nat.le_of_ble_eq_true (by kernel_rfl)) (by kernel_rfl) ?_
  intro s
  conv => whnf
  intro b hb
  conv => whnf
  intro b2 hb2
  conv => whnf
  repeat' (first
    | (refine ⟨Sub.refl _, ?_⟩)
    | (refine brA_split (fun h => ?_) (fun h => ?_) <;> (try rw [h]) <;> (try simp only [Bool.false_eq_true, Bool.true_eq_false, ↓reduceIte, decide_eq_true_eq, decide_eq_false_iff_not, Bool.not_eq_true', Bool.not_eq_false'] at h) <;> (conv => whnf))
    | (refine getB_other (ne_of_none set_bx_same hb2) (getB_of set_bx_same ?_); conv => whnf)
    | (refine getB_same ?_; conv => whnf)
    | (refine AWp.any (by kernel_rfl) (by kernel_rfl) (by kernel_rfl) ?_; conv => whnf)
    | (apply And.intro; (focus (first | omega | rfl | decide | exact Nat.le_of_ble_eq_true rfl | ((repeat' (first | exact all_nil | refine all_cons ?_ ?_ | rfl | fail)); done) | (simp [-List.length_flatMap]; done) | (simp [-List.length_flatMap]; omega) | fail)); conv => whnf)
    | fail)
  all_goals try (refine ⟨((Sub.refl _).set hb _ _).set (none_set hb2).2 _ _, bool_eq (decide_eq_false (fun he => ?_)).symm⟩; obtain ⟨e1, e2, e3, e4⟩ := sy_len he; first | omega | contradiction)
  refine AWp.loopA [5] [34, 35, 36, 37, 38, 41, 42, 43, 44, 45, 46, 47, 48, 49, 50, 51, 4, 39, 40] (fun i : Nat => [.int .i64 i]) (fun i s' => i ≤ x.2.2.1.length ∧ s'.bx b = some (47, syA x) ∧ s'.bx b2 = some (47, syA y) ∧ Sub s s' ∧ decide (x.2 = y.2) = decide (x.2.2.1.drop i = y.2.2.1.drop i)) (fun i => x.2.2.1.length - i) (0) (by kernel_rfl) (by (repeat' (first | refine cons_eq ?_ ?_ | refine int64_of ?_ ?_ ?_ | rfl | omega))) ?_ ?_
  · refine ⟨by omega, (set_bx_other (ne_of_none set_bx_same hb2)).trans set_bx_same, set_bx_same, ((Sub.refl _).set hb _ _).set (none_set hb2).2 _ _, ?_⟩
    simp [eq_sy, *]
    try grind
  · rintro q i s1 ⟨hi, h1, h2, hs1, hp⟩
    conv => whnf
    have hga := fun h : i < x.2.2.1.length => map_get (f := arA) (l := x.2.2.1) noAr h
    have hgb := fun h : i < y.2.2.1.length => map_get (f := arA) (l := y.2.2.1) noAr h
    have he := eq_ar (x.2.2.1.getD i noAr) (y.2.2.1.getD i noAr)
    have hd := fun (h : i < x.2.2.1.length) (h' : i < y.2.2.1.length) => drop_eq_iff (d := noAr) h h'
    generalize x.2.2.1.getD i noAr = u at *
    generalize y.2.2.1.getD i noAr = z at *
    repeat' (first
      | (refine ⟨Sub.refl _, ?_⟩)
      | (refine brA_split (fun h => ?_) (fun h => ?_) <;> (try rw [h]) <;> (try simp only [Bool.false_eq_true, Bool.true_eq_false, ↓reduceIte, decide_eq_true_eq, decide_eq_false_iff_not, Bool.not_eq_true', Bool.not_eq_false'] at h) <;> (conv => whnf))
      | (refine getB_of h1 ?_; conv => whnf)
      | (refine getB_of h2 ?_; conv => whnf)
      | (rw [show (x.2.2.1.map arA).getD ((i : Int)).toNat [] = _ from hga (by omega)]; conv => whnf)
      | (rw [show (y.2.2.1.map arA).getD ((i : Int)).toNat [] = _ from hgb (by omega)]; conv => whnf)
      | (refine EqAgg.of grdAr planAr ?_; conv => whnf)
      | (refine getB_same ?_; conv => whnf)
      | (refine AWp.any (by kernel_rfl) (by kernel_rfl) (by kernel_rfl) ?_; conv => whnf)
      | (apply And.intro; (focus (first | omega | rfl | decide | exact Nat.le_of_ble_eq_true rfl | ((repeat' (first | exact all_nil | refine all_cons ?_ ?_ | rfl | fail)); done) | (simp [-List.length_flatMap]; done) | (simp [-List.length_flatMap]; omega) | fail)); conv => whnf)
      | fail)
    · first | refine ⟨hs1, bool_eq ?_⟩ | refine bool_eq ?_
      rename_i h
      rw [hp, hd (by omega) (by omega), ← he, h]
      rfl
    · rename_i h
      refine ⟨i + 1, by (repeat' (first | refine cons_eq ?_ ?_ | refine int64_of ?_ ?_ ?_ | rfl | omega)), by (repeat (first | exact Same.refl _ _ | refine Same.upd rfl ?_ | refine Same.updL rfl ?_ | refine Same.havoc rfl ?_)), ⟨by omega, h1, h2, hs1, ?_⟩, by omega⟩
      rw [hp, hd (by omega) (by omega), ← he, h, Bool.true_and]
    · first | refine ⟨hs1, bool_eq ?_⟩ | refine bool_eq ?_
      rw [hp, drop_end (by omega), drop_end (by omega)]
      rfl

theorem refTn_ok (x y : (Nat × Nat × Nat) × Tn) (hl : x.2.2.2.1.2.1.length ≤ 140737488355328) (hn : x.2.2.2.2.1.length ≤ 140737488355328) (hs : x.2.2.2.2.2.2.length ≤ 140737488355328) : APure Tryz.prog Γ 51 [.agg (tnA x), .agg (tnA y)] fun v => v = .bool (decide (x.2 = y.2)) := by
  have l1 : (x.2.2.2.2.1.map exA).length = x.2.2.2.2.1.length := List.length_map ..
  have l2 : (y.2.2.2.2.1.map exA).length = y.2.2.2.2.1.length := List.length_map ..
  have l3 : (x.2.2.2.2.2.2.map seA).length = x.2.2.2.2.2.2.length := List.length_map ..
  have l4 : (y.2.2.2.2.2.2.map seA).length = y.2.2.2.2.2.2.length := List.length_map ..
  refine APure.of_awp Tryz.func51 rfl (Nat.le_of_ble_eq_true (by kernel_rfl)) (by kernel_rfl) ?_
  intro s
  conv => whnf
  intro b hb
  conv => whnf
  intro b2 hb2
  conv => whnf
  repeat' (first
    | (refine ⟨Sub.refl _, ?_⟩)
    | (refine brA_split (fun h => ?_) (fun h => ?_) <;> (try rw [h]) <;> (try simp only [Bool.false_eq_true, Bool.true_eq_false, ↓reduceIte, decide_eq_true_eq, decide_eq_false_iff_not, Bool.not_eq_true', Bool.not_eq_false'] at h) <;> (conv => whnf))
    | (refine getB_other (ne_of_none set_bx_same hb2) (getB_of set_bx_same ?_); conv => whnf)
    | (refine EqAgg.of grdIdn planIdn ?_; conv => whnf)
    | (refine ACalls.pure' ?_ (refSy_ok (x.1.1, x.2.2.2.1) (y.1.1, y.2.2.2.1) hl); rintro _ rfl; conv => whnf)
    | (refine DCall.pure ?_ (refSy_ok (x.1.1, x.2.2.2.1) (y.1.1, y.2.2.2.1) hl); conv => whnf)
    | (refine getB_same ?_; conv => whnf)
    | (refine AWp.any (by kernel_rfl) (by kernel_rfl) (by kernel_rfl) ?_; conv => whnf)
    | (apply And.intro; (focus (first | omega | rfl | decide | exact Nat.le_of_ble_eq_true rfl | ((repeat' (first | exact all_nil | refine all_cons ?_ ?_ | rfl | fail)); done) | (simp [-List.length_flatMap]; done) | (simp [-List.length_flatMap]; omega) | fail)); conv => whnf)
    | fail)
  all_goals simp only [eq_idn, decide_eq_true_eq, decide_eq_false_iff_not] at *
  all_goals try (refine ⟨((Sub.refl _).set hb _ _).set (none_set hb2).2 _ _, bool_eq (decide_eq_false (fun he => ?_)).symm⟩; obtain ⟨e1, e2, e3, e4, e5, e6⟩ := tn_len he; first | omega | contradiction)
  have hp0 : decide (x.2 = y.2) = (decide (x.2.2.2.2.1 = y.2.2.2.2.1) && (decide (x.2.2.2.2.2.2 = y.2.2.2.2.2.2))) := by
    simp [eq_tn, *]
    try grind
  refine AWp.loopA [5] [52, 53, 54, 55, 56, 59, 60, 61, 62, 63, 64, 65, 66, 67, 68, 69, 4, 57, 58] (fun i : Nat => [.int .i64 i]) (fun i s' => i ≤ x.2.2.2.2.1.length ∧ s'.bx b = some (51, tnA x) ∧ s'.bx b2 = some (51, tnA y) ∧ Sub s s' ∧ decide (x.2 = y.2) = (decide (x.2.2.2.2.1.drop i = y.2.2.2.2.1.drop i) && (decide (x.2.2.2.2.2.2 = y.2.2.2.2.2.2)))) (fun i => x.2.2.2.2.1.length - i) (0) (by kernel_rfl) (by (repeat' (first | refine cons_eq ?_ ?_ | refine int64_of ?_ ?_ ?_ | rfl | omega))) ?_ ?_
  · exact ⟨by omega, (set_bx_other (ne_of_none set_bx_same hb2)).trans set_bx_same, set_bx_same, ((Sub.refl _).set hb _ _).set (none_set hb2).2 _ _, by simpa using hp0⟩
  · rintro q i1 s1 ⟨hi1, h1, h2, hs1, hp⟩
    conv => whnf
    have hga := fun h : i1 < x.2.2.2.2.1.length => map_get (f := exA) (l := x.2.2.2.2.1) noEx h
    have hgb := fun h : i1 < y.2.2.2.2.1.length => map_get (f := exA) (l := y.2.2.2.2.1) noEx h
    have he := eq_ex (x.2.2.2.2.1.getD i1 noEx) (y.2.2.2.2.1.getD i1 noEx)
    have hd := fun (h : i1 < x.2.2.2.2.1.length) (h' : i1 < y.2.2.2.2.1.length) => drop_eq_iff (d := noEx) h h'
    generalize x.2.2.2.2.1.getD i1 noEx = u at *
    generalize y.2.2.2.2.1.getD i1 noEx = z at *
    repeat' (first
      | (refine ⟨Sub.refl _, ?_⟩)
      | (refine brA_split (fun h => ?_) (fun h => ?_) <;> (try rw [h]) <;> (try simp only [Bool.false_eq_true, Bool.true_eq_false, ↓reduceIte, decide_eq_true_eq, decide_eq_false_iff_not, Bool.not_eq_true', Bool.not_eq_false'] at h) <;> (conv => whnf))
      | (refine getB_of h1 ?_; conv => whnf)
      | (refine getB_of h2 ?_; conv => whnf)
      | (rw [show (x.2.2.2.2.1.map exA).getD ((i1 : Int)).toNat [] = _ from hga (by omega)]; conv => whnf)
      | (rw [show (y.2.2.2.2.1.map exA).getD ((i1 : Int)).toNat [] = _ from hgb (by omega)]; conv => whnf)
      | (refine EqAgg.of grdEx planEx ?_; conv => whnf)
      | (refine getB_same ?_; conv => whnf)
      | (refine AWp.any (by kernel_rfl) (by kernel_rfl) (by kernel_rfl) ?_; conv => whnf)
      | (apply And.intro; (focus (first | omega | rfl | decide | exact Nat.le_of_ble_eq_true rfl | ((repeat' (first | exact all_nil | refine all_cons ?_ ?_ | rfl | fail)); done) | (simp [-List.length_flatMap]; done) | (simp [-List.length_flatMap]; omega) | fail)); conv => whnf)
      | fail)
    · first | refine ⟨hs1, bool_eq ?_⟩ | refine bool_eq ?_
      rename_i h
      rw [hp, hd (by omega) (by omega), ← he, h]
      rfl
    · rename_i h
      refine ⟨i1 + 1, by (repeat' (first | refine cons_eq ?_ ?_ | refine int64_of ?_ ?_ ?_ | rfl | omega)), by (repeat (first | exact Same.refl _ _ | refine Same.upd rfl ?_ | refine Same.updL rfl ?_ | refine Same.havoc rfl ?_)), ⟨by omega, h1, h2, hs1, ?_⟩, by omega⟩
      rw [hp, hd (by omega) (by omega), ← he, h, Bool.true_and]
    · rw [drop_end (by omega), drop_end (by omega)] at hp
      simp only [decide_true, Bool.true_and] at hp
      refine AWp.loopA [6] [70, 71, 72, 73, 74, 77, 78, 79, 80, 81, 82, 83, 84, 85, 86, 87, 4, 75, 76] (fun i : Nat => [.int .i64 i]) (fun i s' => i ≤ x.2.2.2.2.2.2.length ∧ s'.bx b = some (51, tnA x) ∧ s'.bx b2 = some (51, tnA y) ∧ Sub s s' ∧ decide (x.2 = y.2) = (decide (x.2.2.2.2.2.2.drop i = y.2.2.2.2.2.2.drop i))) (fun i => x.2.2.2.2.2.2.length - i) (0) (by kernel_rfl) (by (repeat' (first | refine cons_eq ?_ ?_ | refine int64_of ?_ ?_ ?_ | rfl | omega))) ?_ ?_
      · exact ⟨by omega, h1, h2, hs1, by simpa using hp⟩
      · rintro q i2 s2 ⟨hi2, h1, h2, hs1, hp⟩
        conv => whnf
        have hga := fun h : i2 < x.2.2.2.2.2.2.length => map_get (f := seA) (l := x.2.2.2.2.2.2) noSe h
        have hgb := fun h : i2 < y.2.2.2.2.2.2.length => map_get (f := seA) (l := y.2.2.2.2.2.2) noSe h
        have he := eq_se (x.2.2.2.2.2.2.getD i2 noSe) (y.2.2.2.2.2.2.getD i2 noSe)
        have hd := fun (h : i2 < x.2.2.2.2.2.2.length) (h' : i2 < y.2.2.2.2.2.2.length) => drop_eq_iff (d := noSe) h h'
        generalize x.2.2.2.2.2.2.getD i2 noSe = u at *
        generalize y.2.2.2.2.2.2.getD i2 noSe = z at *
        repeat' (first
          | (refine ⟨Sub.refl _, ?_⟩)
          | (refine brA_split (fun h => ?_) (fun h => ?_) <;> (try rw [h]) <;> (try simp only [Bool.false_eq_true, Bool.true_eq_false, ↓reduceIte, decide_eq_true_eq, decide_eq_false_iff_not, Bool.not_eq_true', Bool.not_eq_false'] at h) <;> (conv => whnf))
          | (refine getB_of h1 ?_; conv => whnf)
          | (refine getB_of h2 ?_; conv => whnf)
          | (rw [show (x.2.2.2.2.2.2.map seA).getD ((i2 : Int)).toNat [] = _ from hga (by omega)]; conv => whnf)
          | (rw [show (y.2.2.2.2.2.2.map seA).getD ((i2 : Int)).toNat [] = _ from hgb (by omega)]; conv => whnf)
          | (refine EqAgg.of grdSe planSe ?_; conv => whnf)
          | (refine getB_same ?_; conv => whnf)
          | (refine AWp.any (by kernel_rfl) (by kernel_rfl) (by kernel_rfl) ?_; conv => whnf)
          | (apply And.intro; (focus (first | omega | rfl | decide | exact Nat.le_of_ble_eq_true rfl | ((repeat' (first | exact all_nil | refine all_cons ?_ ?_ | rfl | fail)); done) | (simp [-List.length_flatMap]; done) | (simp [-List.length_flatMap]; omega) | fail)); conv => whnf)
          | fail)
        · first | refine ⟨hs1, bool_eq ?_⟩ | refine bool_eq ?_
          rename_i h
          rw [hp, hd (by omega) (by omega), ← he, h]
          rfl
        · rename_i h
          refine ⟨i2 + 1, by (repeat' (first | refine cons_eq ?_ ?_ | refine int64_of ?_ ?_ ?_ | rfl | omega)), by (repeat (first | exact Same.refl _ _ | refine Same.upd rfl ?_ | refine Same.updL rfl ?_ | refine Same.havoc rfl ?_)), ⟨by omega, h1, h2, hs1, ?_⟩, by omega⟩
          rw [hp, hd (by omega) (by omega), ← he, h, Bool.true_and]
        · rw [drop_end (by omega), drop_end (by omega)] at hp
          simp only [decide_true, Bool.and_true, Bool.true_and] at hp
          first | refine ⟨hs1, bool_eq ?_⟩ | refine bool_eq ?_
          rw [hp]
          try rfl
end Go.Proofs.YtbhemiimdfhjbaaGreatDoor.Tr
