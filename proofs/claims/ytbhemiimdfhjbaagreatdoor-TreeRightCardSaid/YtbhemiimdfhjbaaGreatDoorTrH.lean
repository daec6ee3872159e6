/- Chapter 10: whole trees are compared. -/
import Derived.Test.YtbhemiimdfhjbaaGreatDoorTrG
namespace Go.Proofs.YtbhemiimdfhjbaaGreatDoor.Tr
open Go Go.Ab Go.RowKit
variable {Γ : Nat → AV}
attribute [local irreducible] APure Sto.set Sto.grow
set_option maxRecDepth 10000
set_option maxHeartbeats 1000000

abbrev KeyH := Idn × Idn × List De × List Qu × List Fr × List St
instance decKeyH : DecidableEq KeyH := decH1
instance decK2 : DecidableEq (List Sy × List Tn) := instDecidableEqProd
instance decK1 : DecidableEq (KeyH × List Sy × List Tn) := instDecidableEqProd
def keyT (x : Tr0) : KeyH × List Sy × List Tn := (keyH x, x.2.2.2.2.2.2.1.map Prod.snd, x.2.2.2.2.2.2.2.map Prod.snd)
theorem eq_tree (x y : Tr0) : decide (keyT x = keyT y) = (decide (keyH x = keyH y) && (decide (x.2.2.2.2.2.2.1.map Prod.snd = y.2.2.2.2.2.2.1.map Prod.snd) && decide (x.2.2.2.2.2.2.2.map Prod.snd = y.2.2.2.2.2.2.2.map Prod.snd))) := by
  rw [Bool.eq_iff_iff]; unfold keyT; simp only [Bool.and_eq_true, decide_eq_true_eq, Prod.mk.injEq]
theorem keyT_len {x y : Tr0} (h : keyT x = keyT y) : keyH x = keyH y ∧ x.2.2.2.2.2.2.1.length = y.2.2.2.2.2.2.1.length ∧ x.2.2.2.2.2.2.2.length = y.2.2.2.2.2.2.2.length := by
  unfold keyT at h
  simp only [Prod.mk.injEq] at h
  exact ⟨h.1, keys_len h.2.1, keys_len h.2.2⟩

theorem refSame_ok (tk k' : Nat → Nat) (x y : Tr0) (hx : Small x) : APure Tryz.prog Γ 9 [.agg (trA tk x), .agg (trA k' y)] fun v => v = .bool (decide (keyT x = keyT y)) := by
  have hx' := hx
  obtain ⟨⟨_, _, _, _, m5, m6⟩, _, m8, m9⟩ := hx
  have l9 : (x.2.2.2.2.2.2.1.map syA).length = x.2.2.2.2.2.2.1.length := List.length_map ..
  have l10 : (y.2.2.2.2.2.2.1.map syA).length = y.2.2.2.2.2.2.1.length := List.length_map ..
  have l11 : (x.2.2.2.2.2.2.2.map tnA).length = x.2.2.2.2.2.2.2.length := List.length_map ..
  have l12 : (y.2.2.2.2.2.2.2.map tnA).length = y.2.2.2.2.2.2.2.length := List.length_map ..
  refine APure.of_awp Tryz.func9 rfl (Nat.le_of_ble_eq_true (by kernel_rfl)) (by kernel_rfl) ?_
  intro s
  conv => whnf
  intro b hb
  conv => whnf
  intro b2 hb2
  conv => whnf
  repeat' (first
    | (refine ⟨Sub.refl _, ?_⟩)
    | (refine brA_split (fun h => ?_) (fun h => ?_) <;> (try rw [h]) <;> (try simp only [Bool.false_eq_true, Bool.true_eq_false, ↓reduceIte, decide_eq_true_eq, decide_eq_false_iff_not, Bool.not_eq_true', Bool.not_eq_false'] at h) <;> (conv => whnf))
    | (refine getB_other (ne_of_none set_bx_same hb2) (getB_of set_bx_same ?_); conv => whnf)
    | (refine ACalls.pure' ?_ (refHead_ok tk k' x y hx'); rintro _ rfl; conv => whnf)
    | (refine DCall.pure ?_ (refHead_ok tk k' x y hx'); conv => whnf)
    | (refine getB_same ?_; conv => whnf)
    | (refine AWp.any (by kernel_rfl) (by kernel_rfl) (by kernel_rfl) ?_; conv => whnf)
    | (apply And.intro; (focus (first | omega | rfl | decide | exact Nat.le_of_ble_eq_true rfl | ((repeat' (first | exact all_nil | refine all_cons ?_ ?_ | rfl | fail)); done) | (simp [-List.length_flatMap]; done) | (simp [-List.length_flatMap]; omega) | fail)); conv => whnf)
    | fail)
  all_goals try (refine ⟨((Sub.refl _).set hb _ _).set (none_set hb2).2 _ _, bool_eq (decide_eq_false (fun he => ?_)).symm⟩; obtain ⟨e1, e2, e3⟩ := keyT_len he; first | omega | contradiction)
  have hp0 : decide (keyT x = keyT y) = (decide (x.2.2.2.2.2.2.1.map Prod.snd = y.2.2.2.2.2.2.1.map Prod.snd) && decide (x.2.2.2.2.2.2.2.map Prod.snd = y.2.2.2.2.2.2.2.map Prod.snd)) := by
    simp [eq_tree, *]
    try grind
  refine AWp.loopA [5] [29, 30, 31, 32, 33, 36, 37, 38, 39, 40, 41, 42, 43, 44, 45, 46, 47, 4, 34, 35] (fun i : Nat => [.int .i64 i]) (fun i s' => i ≤ x.2.2.2.2.2.2.1.length ∧ s'.bx b = some (31, trA tk x) ∧ s'.bx b2 = some (31, trA k' y) ∧ Sub s s' ∧ decide (keyT x = keyT y) = (decide ((x.2.2.2.2.2.2.1.map Prod.snd).drop i = (y.2.2.2.2.2.2.1.map Prod.snd).drop i) && decide (x.2.2.2.2.2.2.2.map Prod.snd = y.2.2.2.2.2.2.2.map Prod.snd))) (fun i => x.2.2.2.2.2.2.1.length - i) (0) (by kernel_rfl) (by (repeat' (first | refine cons_eq ?_ ?_ | refine int64_of ?_ ?_ ?_ | rfl | omega))) ?_ ?_
  · exact ⟨by omega, (set_bx_other (ne_of_none set_bx_same hb2)).trans set_bx_same, set_bx_same, ((Sub.refl _).set hb _ _).set (none_set hb2).2 _ _, by simpa using hp0⟩
  · rintro q i s1 ⟨hi1, h1, h2, hs1, hp⟩
    conv => whnf
    have hga := fun h : i < x.2.2.2.2.2.2.1.length => map_get (f := syA) (l := x.2.2.2.2.2.2.1) noSy h
    have hgb := fun h : i < y.2.2.2.2.2.2.1.length => map_get (f := syA) (l := y.2.2.2.2.2.2.1) noSy h
    have hd := fun (h : i < x.2.2.2.2.2.2.1.length) (h' : i < y.2.2.2.2.2.2.1.length) => drop_keys (k := Prod.snd) (d := noSy) h h'
    have hmm := fun h : i < x.2.2.2.2.2.2.1.length => m8 _ (getD_mem noSy h)
    generalize x.2.2.2.2.2.2.1.getD i noSy = u at *
    generalize y.2.2.2.2.2.2.1.getD i noSy = z at *
    repeat' (first
      | (refine ⟨Sub.refl _, ?_⟩)
      | (refine brA_split (fun h => ?_) (fun h => ?_) <;> (try rw [h]) <;> (try simp only [Bool.false_eq_true, Bool.true_eq_false, ↓reduceIte, decide_eq_true_eq, decide_eq_false_iff_not, Bool.not_eq_true', Bool.not_eq_false'] at h) <;> (conv => whnf))
      | (refine getB_of h1 ?_; conv => whnf)
      | (refine getB_of h2 ?_; conv => whnf)
      | (rw [show (x.2.2.2.2.2.2.1.map syA).getD ((i : Int)).toNat [] = _ from hga (by omega)]; conv => whnf)
      | (rw [show (y.2.2.2.2.2.2.1.map syA).getD ((i : Int)).toNat [] = _ from hgb (by omega)]; conv => whnf)
      | (refine ACalls.pure' ?_ (refSy_ok u z (by have := hmm (by omega); omega)); rintro _ rfl; conv => whnf)
      | (refine DCall.pure ?_ (refSy_ok u z (by have := hmm (by omega); omega)); conv => whnf)
      | (refine getB_same ?_; conv => whnf)
      | (refine AWp.any (by kernel_rfl) (by kernel_rfl) (by kernel_rfl) ?_; conv => whnf)
      | (apply And.intro; (focus (first | omega | rfl | decide | exact Nat.le_of_ble_eq_true rfl | ((repeat' (first | exact all_nil | refine all_cons ?_ ?_ | rfl | fail)); done) | (simp [-List.length_flatMap]; done) | (simp [-List.length_flatMap]; omega) | fail)); conv => whnf)
      | fail)
    · first | refine ⟨hs1, bool_eq ?_⟩ | refine bool_eq ?_
      rw [hp, hd (by omega) (by omega), decide_eq_false (by assumption)]
      rfl
    · refine ⟨i + 1, by (repeat' (first | refine cons_eq ?_ ?_ | refine int64_of ?_ ?_ ?_ | rfl | omega)), by (repeat (first | exact Same.refl _ _ | refine Same.upd rfl ?_ | refine Same.updL rfl ?_ | refine Same.havoc rfl ?_)), ⟨by omega, h1, h2, hs1, ?_⟩, by omega⟩
      rw [hp, hd (by omega) (by omega), decide_eq_true (by assumption), Bool.true_and]
    · rw [drop_end (by rw [List.length_map]; omega), drop_end (by rw [List.length_map]; omega)] at hp
      simp only [decide_true, Bool.true_and] at hp
      refine AWp.loopA [6] [48, 49, 50, 51, 52, 55, 56, 57, 58, 59, 60, 61, 62, 63, 64, 65, 66, 4, 53, 54] (fun i : Nat => [.int .i64 i]) (fun i s' => i ≤ x.2.2.2.2.2.2.2.length ∧ s'.bx b = some (31, trA tk x) ∧ s'.bx b2 = some (31, trA k' y) ∧ Sub s s' ∧ decide (keyT x = keyT y) = decide ((x.2.2.2.2.2.2.2.map Prod.snd).drop i = (y.2.2.2.2.2.2.2.map Prod.snd).drop i)) (fun i => x.2.2.2.2.2.2.2.length - i) (0) (by kernel_rfl) (by (repeat' (first | refine cons_eq ?_ ?_ | refine int64_of ?_ ?_ ?_ | rfl | omega))) ?_ ?_
      · exact ⟨by omega, h1, h2, hs1, by simpa using hp⟩
      · rintro q i s1 ⟨hi1, h1, h2, hs1, hp⟩
        conv => whnf
        have hga := fun h : i < x.2.2.2.2.2.2.2.length => map_get (f := tnA) (l := x.2.2.2.2.2.2.2) noTn h
        have hgb := fun h : i < y.2.2.2.2.2.2.2.length => map_get (f := tnA) (l := y.2.2.2.2.2.2.2) noTn h
        have hd := fun (h : i < x.2.2.2.2.2.2.2.length) (h' : i < y.2.2.2.2.2.2.2.length) => drop_keys (k := Prod.snd) (d := noTn) h h'
        have hmm := fun h : i < x.2.2.2.2.2.2.2.length => m9 _ (getD_mem noTn h)
        generalize x.2.2.2.2.2.2.2.getD i noTn = u at *
        generalize y.2.2.2.2.2.2.2.getD i noTn = z at *
        repeat' (first
          | (refine ⟨Sub.refl _, ?_⟩)
          | (refine brA_split (fun h => ?_) (fun h => ?_) <;> (try rw [h]) <;> (try simp only [Bool.false_eq_true, Bool.true_eq_false, ↓reduceIte, decide_eq_true_eq, decide_eq_false_iff_not, Bool.not_eq_true', Bool.not_eq_false'] at h) <;> (conv => whnf))
          | (refine getB_of h1 ?_; conv => whnf)
          | (refine getB_of h2 ?_; conv => whnf)
          | (rw [show (x.2.2.2.2.2.2.2.map tnA).getD ((i : Int)).toNat [] = _ from hga (by omega)]; conv => whnf)
          | (rw [show (y.2.2.2.2.2.2.2.map tnA).getD ((i : Int)).toNat [] = _ from hgb (by omega)]; conv => whnf)
          | (refine ACalls.pure' ?_ (refTn_ok u z (by have := hmm (by omega); omega) (by have := hmm (by omega); omega) (by have := hmm (by omega); omega)); rintro _ rfl; conv => whnf)
          | (refine DCall.pure ?_ (refTn_ok u z (by have := hmm (by omega); omega) (by have := hmm (by omega); omega) (by have := hmm (by omega); omega)); conv => whnf)
          | (refine getB_same ?_; conv => whnf)
          | (refine AWp.any (by kernel_rfl) (by kernel_rfl) (by kernel_rfl) ?_; conv => whnf)
          | (apply And.intro; (focus (first | omega | rfl | decide | exact Nat.le_of_ble_eq_true rfl | ((repeat' (first | exact all_nil | refine all_cons ?_ ?_ | rfl | fail)); done) | (simp [-List.length_flatMap]; done) | (simp [-List.length_flatMap]; omega) | fail)); conv => whnf)
          | fail)
        · first | refine ⟨hs1, bool_eq ?_⟩ | refine bool_eq ?_
          rw [hp, hd (by omega) (by omega), decide_eq_false (by assumption)]
          rfl
        · refine ⟨i + 1, by (repeat' (first | refine cons_eq ?_ ?_ | refine int64_of ?_ ?_ ?_ | rfl | omega)), by (repeat (first | exact Same.refl _ _ | refine Same.upd rfl ?_ | refine Same.updL rfl ?_ | refine Same.havoc rfl ?_)), ⟨by omega, h1, h2, hs1, ?_⟩, by omega⟩
          rw [hp, hd (by omega) (by omega), decide_eq_true (by assumption), Bool.true_and]
        · rw [drop_end (by rw [List.length_map]; omega), drop_end (by rw [List.length_map]; omega)] at hp
          first | refine ⟨hs1, bool_eq ?_⟩ | refine bool_eq ?_
          rw [hp]
          rfl

theorem sameProg_ok (tk k' : Nat → Nat) (x y : Tr0) (hx : Small x) : APure Tryz.prog Γ 11 [.agg (trA tk x), .agg (trA k' y)] fun v => v = .bool (decide (keyT x = keyT y)) := by
  obtain ⟨⟨m1, m2, m3, m4, m5, m6⟩, m7, m8, m9⟩ := hx
  refine APure.of_awp Tryz.func11 rfl (Nat.le_of_ble_eq_true (by kernel_rfl)) (by kernel_rfl) ?_
  intro s
  conv => whnf
  intro b hb
  conv => whnf
  intro b2 hb2
  conv => whnf
  repeat' (first
    | (refine ⟨Sub.refl _, ?_⟩)
    | (refine brA_split (fun h => ?_) (fun h => ?_) <;> (try rw [h]) <;> (try simp only [Bool.false_eq_true, Bool.true_eq_false, ↓reduceIte, decide_eq_true_eq, decide_eq_false_iff_not, Bool.not_eq_true', Bool.not_eq_false'] at h) <;> (conv => whnf))
    | (refine getB_other (ne_of_none set_bx_same hb2) (getB_of set_bx_same ?_); conv => whnf)
    | (refine EqAgg.of grdIdn planIdn ?_; conv => whnf)
    | (refine ACalls.pure' ?_ (equalDes_ok _ _ _ _ (fun d h => by have := m7 d h; omega) (by omega)); rintro _ rfl; conv => whnf)
    | (refine DCall.pure ?_ (equalDes_ok _ _ _ _ (fun d h => by have := m7 d h; omega) (by omega)); conv => whnf)
    | (refine ACalls.pure' ?_ (equalQu_ok _ _ _ _ (by omega)); rintro _ rfl; conv => whnf)
    | (refine DCall.pure ?_ (equalQu_ok _ _ _ _ (by omega)); conv => whnf)
    | (refine ACalls.pure' ?_ (equalFr_ok _ _ _ _ (by omega)); rintro _ rfl; conv => whnf)
    | (refine DCall.pure ?_ (equalFr_ok _ _ _ _ (by omega)); conv => whnf)
    | (refine ACalls.pure' ?_ (equalSt_ok _ _ _ _ (by omega)); rintro _ rfl; conv => whnf)
    | (refine DCall.pure ?_ (equalSt_ok _ _ _ _ (by omega)); conv => whnf)
    | (refine ACalls.pure' ?_ (equalSys_ok _ _ _ _ (fun d h => by have := m8 d h; omega) (by omega)); rintro _ rfl; conv => whnf)
    | (refine DCall.pure ?_ (equalSys_ok _ _ _ _ (fun d h => by have := m8 d h; omega) (by omega)); conv => whnf)
    | (refine ACalls.pure' ?_ (equalTns_ok _ _ _ _ (fun d h => by have := m9 d h; omega) (by omega)); rintro _ rfl; conv => whnf)
    | (refine DCall.pure ?_ (equalTns_ok _ _ _ _ (fun d h => by have := m9 d h; omega) (by omega)); conv => whnf)
    | (refine getB_same ?_; conv => whnf)
    | (refine AWp.any (by kernel_rfl) (by kernel_rfl) (by kernel_rfl) ?_; conv => whnf)
    | (apply And.intro; (focus (first | omega | rfl | decide | exact Nat.le_of_ble_eq_true rfl | ((repeat' (first | exact all_nil | refine all_cons ?_ ?_ | rfl | fail)); done) | (simp [-List.length_flatMap]; done) | (simp [-List.length_flatMap]; omega) | fail)); conv => whnf)
    | fail)
  all_goals refine ⟨((Sub.refl _).set hb _ _).set (none_set hb2).2 _ _, ?_⟩
  all_goals refine bool_eq ?_
  all_goals simp only [eq_idn] at *
  all_goals simp [eq_tree, eq_head, *]
end Go.Proofs.YtbhemiimdfhjbaaGreatDoor.Tr
