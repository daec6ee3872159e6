
/- Chapter 10: whole trees are compared. -/
import Derived.Test.YtbhemiimdfhjbaaGreatDoorTrE
namespace Go.Proofs.YtbhemiimdfhjbaaGreatDoor.Tr
open Go Go.Ab Go.RowKit
variable {Γ : Nat → AV}
attribute [local irreducible] APure Sto.set Sto.grow
set_option maxRecDepth 10000
set_option maxHeartbeats 1000000

theorem refHead_ok (tk k' : Nat → Nat) (x y : Tr0) (hx : Small x) : APure Tryz.prog Γ 49 [.agg (trA tk x), .agg (trA k' y)] fun v => v = .bool (decide (keyH x = keyH y)) := by
  obtain ⟨⟨m1, m2, m3, m4, m5, m6⟩, m7, _⟩ := hx
  have l1 : (x.2.1.map deA).length = x.2.1.length := List.length_map ..
  have l2 : (y.2.1.map deA).length = y.2.1.length := List.length_map ..
  have l3 : (x.2.2.1.map quA).length = x.2.2.1.length := List.length_map ..
  have l4 : (y.2.2.1.map quA).length = y.2.2.1.length := List.length_map ..
  have l5 : (x.2.2.2.1.map frA).length = x.2.2.2.1.length := List.length_map ..
  have l6 : (y.2.2.2.1.map frA).length = y.2.2.2.1.length := List.length_map ..
  have l7 : (x.2.2.2.2.1.map stA).length = x.2.2.2.2.1.length := List.length_map ..
  have l8 : (y.2.2.2.2.1.map stA).length = y.2.2.2.2.1.length := List.length_map ..
  have l9 : (x.2.2.2.2.2.2.1.map syA).length = x.2.2.2.2.2.2.1.length := List.length_map ..
  have l10 : (y.2.2.2.2.2.2.1.map syA).length = y.2.2.2.2.2.2.1.length := List.length_map ..
  have l11 : (x.2.2.2.2.2.2.2.map tnA).length = x.2.2.2.2.2.2.2.length := List.length_map ..
  have l12 : (y.2.2.2.2.2.2.2.map tnA).length = y.2.2.2.2.2.2.2.length := List.length_map ..
  refine APure.of_awp Tryz.func49 rfl (Nat.le_of_ble_eq_true (by kernel_rfl)) (by kernel_rfl) ?_
  intro s
  conv => whnf
  intro b hb
  conv => whnf
  intro b2 hb2
  conv => whnf
  repeat' (first
    | (refine ⟨Sub.refl _, ?_⟩)
    | (refine brA_split (fun h => ?_) (fun h => ?_) <;> (try rw [h]) <;> (try simp only [Bool.false_eq_true, Bool.true_eq_false, ↓reduceIte, decide_eq_true_eq, decide_eq_false_iff_not, Bool.not_eq_true', Bool.not_eq_false'] at h) <;> (conv => whnf))
    | (refine getB_other (ne_of_none set_bx_same hb2) (getB_of set_bx_same ?_); conv => whnf)
    | (refine EqAgg.of grdIdn planIdn ?_; conv => whnf)
    | (refine getB_same ?_; conv => whnf)
    | (refine AWp.any (by kernel_rfl) (by kernel_rfl) (by kernel_rfl) ?_; conv => whnf)
    | (apply And.intro; (focus (first | omega | rfl | decide | exact Nat.le_of_ble_eq_true rfl | ((repeat' (first | exact all_nil | refine all_cons ?_ ?_ | rfl | fail)); done) | (simp [-List.length_flatMap]; done) | (simp [-List.length_flatMap]; omega) | fail)); conv => whnf)
    | fail)
  all_goals simp only [eq_idn, decide_eq_true_eq, decide_eq_false_iff_not] at *
  all_goals try (refine ⟨((Sub.refl _).set hb _ _).set (none_set hb2).2 _ _, bool_eq (decide_eq_false (fun he => ?_)).symm⟩; obtain ⟨e1, e2, e3, e4, e5, e6⟩ := keyH_len he; first | omega | contradiction)
  have hp0 : decide (keyH x = keyH y) = (decide (x.2.1.map Prod.snd = y.2.1.map Prod.snd) && (decide (x.2.2.1 = y.2.2.1) && (decide (x.2.2.2.1 = y.2.2.2.1) && (decide (x.2.2.2.2.1 = y.2.2.2.2.1))))) := by
    simp [eq_head, *]
    try grind
  refine AWp.loopA [5] [60, 61, 62, 63, 64, 67, 68, 69, 70, 71, 6, 72, 73, 74, 75, 76, 7, 77, 78, 79, 80, 81, 82, 83, 84, 85, 86, 87, 88, 89, 90, 4, 8, 91, 92, 93, 94, 95, 98, 99, 100, 101, 102, 103, 104, 105, 106, 107, 108, 96, 97, 65, 66] (fun i : Nat => [.int .i64 i]) (fun i s' => i ≤ x.2.1.length ∧ s'.bx b = some (31, trA tk x) ∧ s'.bx b2 = some (31, trA k' y) ∧ Sub s s' ∧ decide (keyH x = keyH y) = (decide ((x.2.1.map Prod.snd).drop i = (y.2.1.map Prod.snd).drop i) && (decide (x.2.2.1 = y.2.2.1) && (decide (x.2.2.2.1 = y.2.2.2.1) && (decide (x.2.2.2.2.1 = y.2.2.2.2.1)))))) (fun i => x.2.1.length - i) (0) (by kernel_rfl) (by (repeat' (first | refine cons_eq ?_ ?_ | refine int64_of ?_ ?_ ?_ | rfl | omega))) ?_ ?_
  · exact ⟨by omega, (set_bx_other (ne_of_none set_bx_same hb2)).trans set_bx_same, set_bx_same, ((Sub.refl _).set hb _ _).set (none_set hb2).2 _ _, by simpa using hp0⟩
  · rintro q i s1 ⟨hi1, h1, h2, hs1, hp⟩
    conv => whnf
    have hga := fun h : i < x.2.1.length => map_get (f := deA) (l := x.2.1) noDe h
    have hgb := fun h : i < y.2.1.length => map_get (f := deA) (l := y.2.1) noDe h
    have hd := fun (h : i < x.2.1.length) (h' : i < y.2.1.length) => drop_keys (k := Prod.snd) (d := noDe) h h'
    have hmm := fun h : i < x.2.1.length => m7 _ (getD_mem noDe h)
    generalize x.2.1.getD i noDe = u at *
    generalize y.2.1.getD i noDe = z at *
    have hu := intsA_len .i64 u.2.2
    have hz := intsA_len .i64 z.2.2
    repeat' (first
      | (refine ⟨Sub.refl _, ?_⟩)
      | (refine brA_split (fun h => ?_) (fun h => ?_) <;> (try rw [h]) <;> (try simp only [Bool.false_eq_true, Bool.true_eq_false, ↓reduceIte, decide_eq_true_eq, decide_eq_false_iff_not, Bool.not_eq_true', Bool.not_eq_false'] at h) <;> (conv => whnf))
      | (refine getB_of h1 ?_; conv => whnf)
      | (rw [show (x.2.1.map deA).getD ((i : Int)).toNat [] = _ from hga (by omega)]; conv => whnf)
      | (refine getB_same ?_; conv => whnf)
      | (refine AWp.any (by kernel_rfl) (by kernel_rfl) (by kernel_rfl) ?_; conv => whnf)
      | (apply And.intro; (focus (first | omega | rfl | decide | exact Nat.le_of_ble_eq_true rfl | ((repeat' (first | exact all_nil | refine all_cons ?_ ?_ | rfl | fail)); done) | (simp [-List.length_flatMap]; done) | (simp [-List.length_flatMap]; omega) | fail)); conv => whnf)
      | fail)
    · intro c hc
      conv => whnf
      refine getB_of set_bx_same ?_
      repeat' (first
        | (refine ⟨Sub.refl _, ?_⟩)
        | (refine brA_split (fun h => ?_) (fun h => ?_) <;> (try rw [h]) <;> (try simp only [Bool.false_eq_true, Bool.true_eq_false, ↓reduceIte, decide_eq_true_eq, decide_eq_false_iff_not, Bool.not_eq_true', Bool.not_eq_false'] at h) <;> (conv => whnf))
        | (refine getB_of ((set_bx_other (ne_of_none h2 (none_set hc).2)).trans ((set_bx_other (ne_of_none h2 hc)).trans h2)) ?_; conv => whnf)
        | (refine getB_of ((set_bx_other (ne_of_none h2 hc)).trans ((set_bx_other (ne_of_none h2 hc)).trans h2)) ?_; conv => whnf)
        | (rw [show (y.2.1.map deA).getD ((i : Int)).toNat [] = _ from hgb (by omega)]; conv => whnf)
        | (refine getB_same ?_; conv => whnf)
        | (refine AWp.any (by kernel_rfl) (by kernel_rfl) (by kernel_rfl) ?_; conv => whnf)
        | (apply And.intro; (focus (first | omega | rfl | decide | exact Nat.le_of_ble_eq_true rfl | ((repeat' (first | exact all_nil | refine all_cons ?_ ?_ | rfl | fail)); done) | (simp [-List.length_flatMap]; done) | (simp [-List.length_flatMap]; omega) | fail)); conv => whnf)
        | fail)
      intro c2 hc2
      conv => whnf
      refine getB_of set_bx_same ?_
      have h5 := hs1.none hc
      have h6 := hs1.none (none_set (none_set hc2).2).2
      repeat' (first
        | (refine ⟨Sub.refl _, ?_⟩)
        | (refine brA_split (fun h => ?_) (fun h => ?_) <;> (try rw [h]) <;> (try simp only [Bool.false_eq_true, Bool.true_eq_false, ↓reduceIte, decide_eq_true_eq, decide_eq_false_iff_not, Bool.not_eq_true', Bool.not_eq_false'] at h) <;> (conv => whnf))
        | (refine getB_of ((set_bx_other (ne_of_none set_bx_same hc2)).trans ((set_bx_other (ne_of_none set_bx_same hc2)).trans set_bx_same)) ?_; conv => whnf)
        | (refine getB_of set_bx_same ?_; conv => whnf)
        | (refine EqAgg.of grdIdn planIdn ?_; conv => whnf)
        | (refine getB_same ?_; conv => whnf)
        | (refine AWp.any (by kernel_rfl) (by kernel_rfl) (by kernel_rfl) ?_; conv => whnf)
        | (apply And.intro; (focus (first | omega | rfl | decide | exact Nat.le_of_ble_eq_true rfl | ((repeat' (first | exact all_nil | refine all_cons ?_ ?_ | rfl | fail)); done) | (simp [-List.length_flatMap]; done) | (simp [-List.length_flatMap]; omega) | fail)); conv => whnf)
        | fail)
      all_goals simp only [eq_idn, decide_eq_true_eq, decide_eq_false_iff_not] at *
      · refine ⟨(((hs1.set h5 _ _).set h5 _ _).set h6 _ _).set h6 _ _, bool_eq ?_⟩
        have hne : ¬ u.2 = z.2 := fun he => by
          have e1 : u.2.1 = z.2.1 := congrArg Prod.fst he
          contradiction
        rw [hp, hd (by omega) (by omega), decide_eq_false hne]
        rfl
      · refine ⟨(((hs1.set h5 _ _).set h5 _ _).set h6 _ _).set h6 _ _, bool_eq ?_⟩
        have hne : ¬ u.2 = z.2 := fun he => by
          have e1 : u.2.2.length = z.2.2.length := congrArg (fun t : De => t.2.length) he
          omega
        rw [hp, hd (by omega) (by omega), decide_eq_false hne]
        rfl
      · have hm7 := hmm (by omega)
        refine AWp.loopA [8] [91, 92, 93, 94, 95, 98, 99, 100, 101, 102, 103, 104, 105, 106, 107, 108, 4, 96, 97] (fun k : Nat => [.int .i64 k]) (fun k s' => k ≤ u.2.2.length ∧ s'.bx c = some (39, deA u) ∧ s'.bx c2 = some (39, deA z) ∧ s'.bx b = some (31, trA tk x) ∧ s'.bx b2 = some (31, trA k' y) ∧ Sub s s' ∧ decide (u.2 = z.2) = decide (u.2.2.drop k = z.2.2.drop k)) (fun k => u.2.2.length - k) (0) (by kernel_rfl) (by (repeat' (first | refine cons_eq ?_ ?_ | refine int64_of ?_ ?_ ?_ | rfl | omega))) ?_ ?_
        · have e1 := ne_of_none h1 hc
          have e2 := ne_of_none h2 hc
          have f1 := ne_of_none h1 (none_set (none_set hc2).2).2
          have f2 := ne_of_none h2 (none_set (none_set hc2).2).2
          refine ⟨by omega, (set_bx_other (ne_of_none set_bx_same hc2)).trans ((set_bx_other (ne_of_none set_bx_same hc2)).trans set_bx_same), set_bx_same, ?_, ?_, (((hs1.set h5 _ _).set h5 _ _).set h6 _ _).set h6 _ _, ?_⟩
          · rw [set_bx_other f1, set_bx_other f1, set_bx_other e1, set_bx_other e1]; exact h1
          · rw [set_bx_other f2, set_bx_other f2, set_bx_other e2, set_bx_other e2]; exact h2
          · simp [eq_de, *]
        · rintro q2 k2 s2 ⟨hi2, g1, g2, g3, g4, hs2, hq⟩
          conv => whnf
          repeat' (first
            | (refine ⟨Sub.refl _, ?_⟩)
            | (refine brA_split (fun h => ?_) (fun h => ?_) <;> (try rw [h]) <;> (try simp only [Bool.false_eq_true, Bool.true_eq_false, ↓reduceIte, decide_eq_true_eq, decide_eq_false_iff_not, Bool.not_eq_true', Bool.not_eq_false'] at h) <;> (conv => whnf))
            | (refine getB_of g1 ?_; conv => whnf)
            | (refine getB_of g2 ?_; conv => whnf)
            | (rw [intsA_get (by omega)]; conv => whnf)
            | (rw [intsA_get (by omega)]; conv => whnf)
            | (refine getB_same ?_; conv => whnf)
            | (refine AWp.any (by kernel_rfl) (by kernel_rfl) (by kernel_rfl) ?_; conv => whnf)
            | (apply And.intro; (focus (first | omega | rfl | decide | exact Nat.le_of_ble_eq_true rfl | ((repeat' (first | exact all_nil | refine all_cons ?_ ?_ | rfl | fail)); done) | (simp [-List.length_flatMap]; done) | (simp [-List.length_flatMap]; omega) | fail)); conv => whnf)
            | fail)
          all_goals try simp only [Int.toNat_natCast] at *
          · first | refine ⟨hs2, bool_eq ?_⟩ | refine bool_eq ?_
            rename_i h
            rw [drop_eq_iff (d := 0) (by omega) (by omega), decide_eq_false h, Bool.false_and] at hq
            rw [hp, hd (by omega) (by omega), hq]
            rfl
          · rename_i h
            refine ⟨k2 + 1, by (repeat' (first | refine cons_eq ?_ ?_ | refine int64_of ?_ ?_ ?_ | rfl | omega)), by (repeat (first | exact Same.refl _ _ | refine Same.upd rfl ?_ | refine Same.updL rfl ?_ | refine Same.havoc rfl ?_)), ⟨by omega, g1, g2, g3, g4, hs2, ?_⟩, by omega⟩
            rw [hq, drop_eq_iff (d := 0) (by omega) (by omega), decide_eq_true h, Bool.true_and]
          · rw [drop_end (by omega), drop_end (by omega)] at hq
            refine ⟨i + 1, by (repeat' (first | refine cons_eq ?_ ?_ | refine int64_of ?_ ?_ ?_ | rfl | omega)), by (repeat (first | exact Same.refl _ _ | refine Same.upd rfl ?_ | refine Same.updL rfl ?_ | refine Same.havoc rfl ?_)), ⟨by omega, g3, g4, hs2, ?_⟩, by omega⟩
            rw [hp, hd (by omega) (by omega), hq]
            simp
    · rw [drop_end (by rw [List.length_map]; omega), drop_end (by rw [List.length_map]; omega)] at hp
      simp only [decide_true, Bool.true_and] at hp
      refine AWp.loopA [9] [109, 110, 111, 112, 113, 116, 117, 118, 119, 120, 121, 122, 123, 124, 125, 126, 4, 114, 115] (fun i : Nat => [.int .i64 i]) (fun i s' => i ≤ x.2.2.1.length ∧ s'.bx b = some (31, trA tk x) ∧ s'.bx b2 = some (31, trA k' y) ∧ Sub s s' ∧ decide (keyH x = keyH y) = (decide (x.2.2.1.drop i = y.2.2.1.drop i) && (decide (x.2.2.2.1 = y.2.2.2.1) && (decide (x.2.2.2.2.1 = y.2.2.2.2.1))))) (fun i => x.2.2.1.length - i) (0) (by kernel_rfl) (by (repeat' (first | refine cons_eq ?_ ?_ | refine int64_of ?_ ?_ ?_ | rfl | omega))) ?_ ?_
      · exact ⟨by omega, h1, h2, hs1, by simpa using hp⟩
      · rintro q i3 s3 ⟨hi3, h1, h2, hs1, hp⟩
        conv => whnf
        have hga := fun h : i3 < x.2.2.1.length => map_get (f := quA) (l := x.2.2.1) noQu h
        have hgb := fun h : i3 < y.2.2.1.length => map_get (f := quA) (l := y.2.2.1) noQu h
        have he := eq_qu (x.2.2.1.getD i3 noQu) (y.2.2.1.getD i3 noQu)
        have hd := fun (h : i3 < x.2.2.1.length) (h' : i3 < y.2.2.1.length) => drop_eq_iff (d := noQu) h h'
        generalize x.2.2.1.getD i3 noQu = u at *
        generalize y.2.2.1.getD i3 noQu = z at *
        repeat' (first
          | (refine ⟨Sub.refl _, ?_⟩)
          | (refine brA_split (fun h => ?_) (fun h => ?_) <;> (try rw [h]) <;> (try simp only [Bool.false_eq_true, Bool.true_eq_false, ↓reduceIte, decide_eq_true_eq, decide_eq_false_iff_not, Bool.not_eq_true', Bool.not_eq_false'] at h) <;> (conv => whnf))
          | (refine getB_of h1 ?_; conv => whnf)
          | (refine getB_of h2 ?_; conv => whnf)
          | (rw [show (x.2.2.1.map quA).getD ((i3 : Int)).toNat [] = _ from hga (by omega)]; conv => whnf)
          | (rw [show (y.2.2.1.map quA).getD ((i3 : Int)).toNat [] = _ from hgb (by omega)]; conv => whnf)
          | (refine EqAgg.of grdQu planQu ?_; conv => whnf)
          | (refine getB_same ?_; conv => whnf)
          | (refine AWp.any (by kernel_rfl) (by kernel_rfl) (by kernel_rfl) ?_; conv => whnf)
          | (apply And.intro; (focus (first | omega | rfl | decide | exact Nat.le_of_ble_eq_true rfl | ((repeat' (first | exact all_nil | refine all_cons ?_ ?_ | rfl | fail)); done) | (simp [-List.length_flatMap]; done) | (simp [-List.length_flatMap]; omega) | fail)); conv => whnf)
          | fail)
        · first | refine ⟨hs1, bool_eq ?_⟩ | refine bool_eq ?_
          rename_i h
          rw [hp, hd (by omega) (by omega), ← he, h]
          rfl
        · rename_i h
          refine ⟨i3 + 1, by (repeat' (first | refine cons_eq ?_ ?_ | refine int64_of ?_ ?_ ?_ | rfl | omega)), by (repeat (first | exact Same.refl _ _ | refine Same.upd rfl ?_ | refine Same.updL rfl ?_ | refine Same.havoc rfl ?_)), ⟨by omega, h1, h2, hs1, ?_⟩, by omega⟩
          rw [hp, hd (by omega) (by omega), ← he, h, Bool.true_and]
        · rw [drop_end (by omega), drop_end (by omega)] at hp
          simp only [decide_true, Bool.true_and] at hp
          refine AWp.loopA [10] [127, 128, 129, 130, 131, 134, 135, 136, 137, 138, 139, 140, 141, 142, 143, 144, 4, 132, 133] (fun i : Nat => [.int .i64 i]) (fun i s' => i ≤ x.2.2.2.1.length ∧ s'.bx b = some (31, trA tk x) ∧ s'.bx b2 = some (31, trA k' y) ∧ Sub s s' ∧ decide (keyH x = keyH y) = (decide (x.2.2.2.1.drop i = y.2.2.2.1.drop i) && (decide (x.2.2.2.2.1 = y.2.2.2.2.1)))) (fun i => x.2.2.2.1.length - i) (0) (by kernel_rfl) (by (repeat' (first | refine cons_eq ?_ ?_ | refine int64_of ?_ ?_ ?_ | rfl | omega))) ?_ ?_
          · exact ⟨by omega, h1, h2, hs1, by simpa using hp⟩
          · rintro q i4 s4 ⟨hi4, h1, h2, hs1, hp⟩
            conv => whnf
            have hga := fun h : i4 < x.2.2.2.1.length => map_get (f := frA) (l := x.2.2.2.1) noFr h
            have hgb := fun h : i4 < y.2.2.2.1.length => map_get (f := frA) (l := y.2.2.2.1) noFr h
            have he := eq_fr (x.2.2.2.1.getD i4 noFr) (y.2.2.2.1.getD i4 noFr)
            have hd := fun (h : i4 < x.2.2.2.1.length) (h' : i4 < y.2.2.2.1.length) => drop_eq_iff (d := noFr) h h'
            generalize x.2.2.2.1.getD i4 noFr = u at *
            generalize y.2.2.2.1.getD i4 noFr = z at *
            repeat' (first
              | (refine ⟨Sub.refl _, ?_⟩)
              | (refine brA_split (fun h => ?_) (fun h => ?_) <;> (try rw [h]) <;> (try simp only [Bool.false_eq_true, Bool.true_eq_false, ↓reduceIte, decide_eq_true_eq, decide_eq_false_iff_not, Bool.not_eq_true', Bool.not_eq_false'] at h) <;> (conv => whnf))
              | (refine getB_of h1 ?_; conv => whnf)
              | (refine getB_of h2 ?_; conv => whnf)
              | (rw [show (x.2.2.2.1.map frA).getD ((i4 : Int)).toNat [] = _ from hga (by omega)]; conv => whnf)
              | (rw [show (y.2.2.2.1.map frA).getD ((i4 : Int)).toNat [] = _ from hgb (by omega)]; conv => whnf)
              | (refine EqAgg.of grdFr planFr ?_; conv => whnf)
              | (refine getB_same ?_; conv => whnf)
              | (refine AWp.any (by kernel_rfl) (by kernel_rfl) (by kernel_rfl) ?_; conv => whnf)
              | (apply And.intro; (focus (first | omega | rfl | decide | exact Nat.le_of_ble_eq_true rfl | ((repeat' (first | exact all_nil | refine all_cons ?_ ?_ | rfl | fail)); done) | (simp [-List.length_flatMap]; done) | (simp [-List.length_flatMap]; omega) | fail)); conv => whnf)
              | fail)
            · first | refine ⟨hs1, bool_eq ?_⟩ | refine bool_eq ?_
              rename_i h
              rw [hp, hd (by omega) (by omega), ← he, h]
              rfl
            · rename_i h
              refine ⟨i4 + 1, by (repeat' (first | refine cons_eq ?_ ?_ | refine int64_of ?_ ?_ ?_ | rfl | omega)), by (repeat (first | exact Same.refl _ _ | refine Same.upd rfl ?_ | refine Same.updL rfl ?_ | refine Same.havoc rfl ?_)), ⟨by omega, h1, h2, hs1, ?_⟩, by omega⟩
              rw [hp, hd (by omega) (by omega), ← he, h, Bool.true_and]
            · rw [drop_end (by omega), drop_end (by omega)] at hp
              simp only [decide_true, Bool.true_and] at hp
              refine AWp.loopA [11] [145, 146, 147, 148, 149, 152, 153, 154, 155, 156, 157, 158, 159, 160, 161, 162, 4, 150, 151] (fun i : Nat => [.int .i64 i]) (fun i s' => i ≤ x.2.2.2.2.1.length ∧ s'.bx b = some (31, trA tk x) ∧ s'.bx b2 = some (31, trA k' y) ∧ Sub s s' ∧ decide (keyH x = keyH y) = (decide (x.2.2.2.2.1.drop i = y.2.2.2.2.1.drop i))) (fun i => x.2.2.2.2.1.length - i) (0) (by kernel_rfl) (by (repeat' (first | refine cons_eq ?_ ?_ | refine int64_of ?_ ?_ ?_ | rfl | omega))) ?_ ?_
              · exact ⟨by omega, h1, h2, hs1, by simpa using hp⟩
              · rintro q i5 s5 ⟨hi5, h1, h2, hs1, hp⟩
                conv => whnf
                have hga := fun h : i5 < x.2.2.2.2.1.length => map_get (f := stA) (l := x.2.2.2.2.1) noSt h
                have hgb := fun h : i5 < y.2.2.2.2.1.length => map_get (f := stA) (l := y.2.2.2.2.1) noSt h
                have he := eq_st (x.2.2.2.2.1.getD i5 noSt) (y.2.2.2.2.1.getD i5 noSt)
                have hd := fun (h : i5 < x.2.2.2.2.1.length) (h' : i5 < y.2.2.2.2.1.length) => drop_eq_iff (d := noSt) h h'
                generalize x.2.2.2.2.1.getD i5 noSt = u at *
                generalize y.2.2.2.2.1.getD i5 noSt = z at *
                repeat' (first
                  | (refine ⟨Sub.refl _, ?_⟩)
                  | (refine brA_split (fun h => ?_) (fun h => ?_) <;> (try rw [h]) <;> (try simp only [Bool.false_eq_true, Bool.true_eq_false, ↓reduceIte, decide_eq_true_eq, decide_eq_false_iff_not, Bool.not_eq_true', Bool.not_eq_false'] at h) <;> (conv => whnf))
                  | (refine getB_of h1 ?_; conv => whnf)
                  | (refine getB_of h2 ?_; conv => whnf)
                  | (rw [show (x.2.2.2.2.1.map stA).getD ((i5 : Int)).toNat [] = _ from hga (by omega)]; conv => whnf)
                  | (rw [show (y.2.2.2.2.1.map stA).getD ((i5 : Int)).toNat [] = _ from hgb (by omega)]; conv => whnf)
                  | (refine EqAgg.of grdSt planSt ?_; conv => whnf)
                  | (refine getB_same ?_; conv => whnf)
                  | (refine AWp.any (by kernel_rfl) (by kernel_rfl) (by kernel_rfl) ?_; conv => whnf)
                  | (apply And.intro; (focus (first | omega | rfl | decide | exact Nat.le_of_ble_eq_true rfl | ((repeat' (first | exact all_nil | refine all_cons ?_ ?_ | rfl | fail)); done) | (simp [-List.length_flatMap]; done) | (simp [-List.length_flatMap]; omega) | fail)); conv => whnf)
                  | fail)
                · first | refine ⟨hs1, bool_eq ?_⟩ | refine bool_eq ?_
                  rename_i h
                  rw [hp, hd (by omega) (by omega), ← he, h]
                  rfl
                · rename_i h
                  refine ⟨i5 + 1, by (repeat' (first | refine cons_eq ?_ ?_ | refine int64_of ?_ ?_ ?_ | rfl | omega)), by (repeat (first | exact Same.refl _ _ | refine Same.upd rfl ?_ | refine Same.updL rfl ?_ | refine Same.havoc rfl ?_)), ⟨by omega, h1, h2, hs1, ?_⟩, by omega⟩
                  rw [hp, hd (by omega) (by omega), ← he, h, Bool.true_and]
                · rw [drop_end (by omega), drop_end (by omega)] at hp
                  simp only [decide_true, Bool.and_true, Bool.true_and] at hp
                  first | refine ⟨hs1, bool_eq ?_⟩ | refine bool_eq ?_
                  rw [hp]
                  try rfl
end Go.Proofs.YtbhemiimdfhjbaaGreatDoor.Tr
