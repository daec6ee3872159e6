/- Chapter 10: which trees may be: by the program, and by the document. (Printed by genV.py.) -/
import Derived.Test.YtbhemiimdfhjbaaGreatDoorTrU
namespace Go.Proofs.YtbhemiimdfhjbaaGreatDoor.Tr
open Go Go.Ab Go.RowKit
variable {Γ : Nat → AV}
attribute [local irreducible] APure Sto.set Sto.grow
set_option maxRecDepth 10000
set_option maxHeartbeats 1000000

theorem fnTrans_ok (hT : Sc.Wds Γ) {s : Sto} {b : Nat} {T0 : TypeId} (u : (Nat × Nat × Nat) × Tn) (hu : (u.2.2.2.1.2.1.length ≤ 100000 ∧ u.2.2.2.2.1.length ≤ 100000 ∧ u.2.2.2.2.2.2.length ≤ 100000)) (hb : s.bx b = some (T0, [.func (.func 48) [] []])) : ACalls Tryz.prog Γ 94 [.agg (tnA u), .ptr (some ⟨b, 0, none⟩)] s fun v s' => v = .bool (!trB u) ∧ s' = s := by
  refine ACalls.of_awp Tryz.func94 rfl (Nat.le_of_ble_eq_true (by kernel_rfl)) (awp_ok _ (by kernel_rfl) ?_)
  conv => whnf
  intro c hc
  conv => whnf
  have hn := ne_of_none hb hc
  repeat' (first
    | (refine ⟨Sub.refl _, ?_⟩)
    | (refine brA_split (fun h => ?_) (fun h => ?_) <;> (try rw [h]) <;> (try simp only [Bool.false_eq_true, Bool.true_eq_false, ↓reduceIte, decide_eq_true_eq, decide_eq_false_iff_not, Bool.not_eq_true', Bool.not_eq_false'] at h) <;> (conv => whnf))
    | (refine getB_other hn (getB_of hb ?_); conv => whnf)
    | (refine getB_of set_bx_same ?_; conv => whnf)
    | (refine ACalls.pure' ?_ (progTrans_ok hT u hu); rintro _ rfl; conv => whnf)
    | (refine DCall.pure ?_ (progTrans_ok hT u hu); conv => whnf)
    | (refine getB_same ?_; conv => whnf)
    | (refine AWp.any (by kernel_rfl) (by kernel_rfl) (by kernel_rfl) ?_; conv => whnf)
    | (apply And.intro; (focus (first | omega | rfl | decide | exact Nat.le_of_ble_eq_true rfl | ((repeat' (first | exact all_nil | refine all_cons ?_ ?_ | rfl | fail)); done) | (simp [-List.length_flatMap]; done) | (simp [-List.length_flatMap]; omega) | fail)); conv => whnf)
    | fail)
  exact ⟨_, (Sub.refl _).set hc _ _, rfl, rfl⟩
theorem indexTrans_ok (hT : Sc.Wds Γ) {s : Sto} {b : Nat} {T0 : TypeId} (t : Nat) (l : List ((Nat × Nat × Nat) × Tn)) (hl : l.length ≤ 100000) (hm : ∀ x ∈ l, (x.2.2.2.1.2.1.length ≤ 100000 ∧ x.2.2.2.2.1.length ≤ 100000 ∧ x.2.2.2.2.2.2.length ≤ 100000)) (hb : s.bx b = some (T0, [.func (.func 48) [] []])) :
    ACalls Tryz.prog Γ 114 [.slice t (l.map tnA), .func (.func 94) [] [.ptr (some ⟨b, 0, none⟩)]] s fun v s' => ∃ r : Int, v = .int .i64 r ∧ decide (r ≥ 0) = !l.all trB ∧ s' = s := by
  have hml : (l.map tnA).length = l.length := List.length_map ..
  refine ACalls.of_awp Tryz.func114 rfl (Nat.le_of_ble_eq_true (by kernel_rfl)) (awp_ok _ (by kernel_rfl) ?_)
  conv => whnf
  refine AWp.loopA [8] [9, 10, 5, 11, 12, 13, 14, 15, 16, 17, 4, 18] (fun i : Nat => [.int .i64 i]) (fun i s' => i ≤ l.length ∧ s' = s ∧ l.all trB = (l.drop i).all trB) (fun i => l.length - i) (0) (by kernel_rfl) (by (repeat' (first | refine cons_eq ?_ ?_ | refine int64_of ?_ ?_ ?_ | rfl | omega))) ?_ ?_
  · exact ⟨by omega, rfl, by simp⟩
  · rintro y i _ ⟨hi, rfl, hp⟩
    conv => whnf
    have hga := fun h : i < l.length => map_get (f := tnA) (l := l) noTn h
    have hd := fun h : i < l.length => drop_all (p := trB) noTn h
    have hmx := fun h : i < l.length => hm _ (getD_mem noTn h)
    generalize l.getD i noTn = u at *
    repeat' (first
      | (refine ⟨Sub.refl _, ?_⟩)
      | (refine brA_split (fun h => ?_) (fun h => ?_) <;> (try rw [h]) <;> (try simp only [Bool.false_eq_true, Bool.true_eq_false, ↓reduceIte, decide_eq_true_eq, decide_eq_false_iff_not, Bool.not_eq_true', Bool.not_eq_false'] at h) <;> (conv => whnf))
      | (rw [show (l.map tnA).getD ((i : Int)).toNat [] = _ from hga (by omega)]; conv => whnf)
      | (refine ACalls.by (fnTrans_ok hT u (hmx (by omega)) hb) ?_; rintro _ _ ⟨rfl, rfl⟩; conv => whnf)
      | (refine getB_same ?_; conv => whnf)
      | (refine AWp.any (by kernel_rfl) (by kernel_rfl) (by kernel_rfl) ?_; conv => whnf)
      | (apply And.intro; (focus (first | omega | rfl | decide | exact Nat.le_of_ble_eq_true rfl | ((repeat' (first | exact all_nil | refine all_cons ?_ ?_ | rfl | fail)); done) | (simp [-List.length_flatMap]; done) | (simp [-List.length_flatMap]; omega) | fail)); conv => whnf)
      | fail)
    · refine ⟨_, Sub.refl _, i, rfl, ?_, rfl⟩
      rw [hp, hd (by omega), h, decide_eq_true (by omega)]; rfl
    · refine ⟨i + 1, by (repeat' (first | refine cons_eq ?_ ?_ | refine int64_of ?_ ?_ ?_ | rfl | omega)), by (repeat (first | exact Same.refl _ _ | refine Same.upd rfl ?_ | refine Same.updL rfl ?_ | refine Same.havoc rfl ?_)), ⟨by omega, rfl, ?_⟩, by omega⟩
      rw [hp, hd (by omega), h, Bool.true_and]
    · refine ⟨_, Sub.refl _, -1, rfl, ?_, rfl⟩
      rw [hp, drop_end (by omega)]; rfl
theorem containsTrans_ok (hT : Sc.Wds Γ) {s : Sto} {b : Nat} {T0 : TypeId} (t : Nat) (l : List ((Nat × Nat × Nat) × Tn)) (hl : l.length ≤ 100000) (hm : ∀ x ∈ l, (x.2.2.2.1.2.1.length ≤ 100000 ∧ x.2.2.2.2.1.length ≤ 100000 ∧ x.2.2.2.2.2.2.length ≤ 100000)) (hb : s.bx b = some (T0, [.func (.func 48) [] []])) :
    ACalls Tryz.prog Γ 93 [.slice t (l.map tnA), .func (.func 94) [] [.ptr (some ⟨b, 0, none⟩)]] s fun v s' => v = .bool (!l.all trB) ∧ s' = s := by
  refine ACalls.of_awp Tryz.func93 rfl (Nat.le_of_ble_eq_true (by kernel_rfl)) (awp_ok _ (by kernel_rfl) ?_)
  conv => whnf
  repeat' (first
    | (refine ⟨Sub.refl _, ?_⟩)
    | (refine brA_split (fun h => ?_) (fun h => ?_) <;> (try rw [h]) <;> (try simp only [Bool.false_eq_true, Bool.true_eq_false, ↓reduceIte, decide_eq_true_eq, decide_eq_false_iff_not, Bool.not_eq_true', Bool.not_eq_false'] at h) <;> (conv => whnf))
    | (refine ACalls.by (indexTrans_ok hT t l hl hm hb) ?_; rintro _ _ ⟨r, rfl, hr, rfl⟩; conv => whnf)
    | (refine getB_same ?_; conv => whnf)
    | (refine AWp.any (by kernel_rfl) (by kernel_rfl) (by kernel_rfl) ?_; conv => whnf)
    | (apply And.intro; (focus (first | omega | rfl | decide | exact Nat.le_of_ble_eq_true rfl | ((repeat' (first | exact all_nil | refine all_cons ?_ ?_ | rfl | fail)); done) | (simp [-List.length_flatMap]; done) | (simp [-List.length_flatMap]; omega) | fail)); conv => whnf)
    | fail)
  exact ⟨_, Sub.refl _, bool_eq hr, rfl⟩
theorem allTrans_ok (hT : Sc.Wds Γ) (t : Nat) (l : List ((Nat × Nat × Nat) × Tn)) (hl : l.length ≤ 100000) (hm : ∀ x ∈ l, (x.2.2.2.1.2.1.length ≤ 100000 ∧ x.2.2.2.2.1.length ≤ 100000 ∧ x.2.2.2.2.2.2.length ≤ 100000)) : APure Tryz.prog Γ 47 [.slice t (l.map tnA), .func (.func 48) [] []] fun v => v = .bool (l.all trB) := by
  refine APure.of_awp Tryz.func47 rfl (Nat.le_of_ble_eq_true (by kernel_rfl)) (by kernel_rfl) ?_
  intro s
  conv => whnf
  intro b hb
  conv => whnf
  repeat' (first
    | (refine ⟨Sub.refl _, ?_⟩)
    | (refine brA_split (fun h => ?_) (fun h => ?_) <;> (try rw [h]) <;> (try simp only [Bool.false_eq_true, Bool.true_eq_false, ↓reduceIte, decide_eq_true_eq, decide_eq_false_iff_not, Bool.not_eq_true', Bool.not_eq_false'] at h) <;> (conv => whnf))
    | (refine ACalls.by (containsTrans_ok hT t l hl hm set_bx_same) ?_; rintro _ _ ⟨rfl, rfl⟩; conv => whnf)
    | (refine getB_same ?_; conv => whnf)
    | (refine AWp.any (by kernel_rfl) (by kernel_rfl) (by kernel_rfl) ?_; conv => whnf)
    | (apply And.intro; (focus (first | omega | rfl | decide | exact Nat.le_of_ble_eq_true rfl | ((repeat' (first | exact all_nil | refine all_cons ?_ ?_ | rfl | fail)); done) | (simp [-List.length_flatMap]; done) | (simp [-List.length_flatMap]; omega) | fail)); conv => whnf)
    | fail)
  exact ⟨(Sub.refl _).set hb _ _, bool_eq (by simp)⟩

theorem rightB_eq (x : Tr0) : rightB x = (nameB x.1 && (nameB x.2.2.2.2.2.1 && (x.2.1.all declB && (x.2.2.1.all quantB && (x.2.2.2.1.all freeB && (x.2.2.2.2.1.all stateB && (x.2.2.2.2.2.2.1.all symB && x.2.2.2.2.2.2.2.all trB))))))) := rfl
theorem progRight_ok (hT : Sc.Wds Γ) (tk : Nat → Nat) (x : Tr0) (hx : Small x) : APure Tryz.prog Γ 8 [.agg (trA tk x)] fun v => v = .bool (rightB x) := by
  obtain ⟨⟨m1, m2, m3, m4, m5, m6⟩, m7, m8, m9⟩ := hx
  rw [rightB_eq]
  refine APure.of_awp Tryz.func8 rfl (Nat.le_of_ble_eq_true (by kernel_rfl)) (by kernel_rfl) ?_
  intro s
  conv => whnf
  intro b hb
  conv => whnf
  repeat' (first
    | (refine ⟨Sub.refl _, ?_⟩)
    | (refine brA_split (fun h => ?_) (fun h => ?_) <;> (try rw [h]) <;> (try simp only [Bool.false_eq_true, Bool.true_eq_false, ↓reduceIte, decide_eq_true_eq, decide_eq_false_iff_not, Bool.not_eq_true', Bool.not_eq_false'] at h) <;> (conv => whnf))
    | (refine getB_of (by ((repeat (first | exact set_bx_same | assumption | refine (set_bx_other (by assumption)).trans ?_)); done)) ?_; conv => whnf)
    | (refine ACalls.pure' ?_ (progName_ok hT x.1); rintro _ rfl; conv => whnf)
    | (refine DCall.pure ?_ (progName_ok hT x.1); conv => whnf)
    | (refine ACalls.pure' ?_ (progName_ok hT x.2.2.2.2.2.1); rintro _ rfl; conv => whnf)
    | (refine DCall.pure ?_ (progName_ok hT x.2.2.2.2.2.1); conv => whnf)
    | (refine ACalls.pure' ?_ (allDecl_ok hT _ x.2.1 (by omega) (fun d h => by have := m7 d h; omega)); rintro _ rfl; conv => whnf)
    | (refine DCall.pure ?_ (allDecl_ok hT _ x.2.1 (by omega) (fun d h => by have := m7 d h; omega)); conv => whnf)
    | (refine ACalls.pure' ?_ (allQuant_ok hT _ x.2.2.1 (by omega)); rintro _ rfl; conv => whnf)
    | (refine DCall.pure ?_ (allQuant_ok hT _ x.2.2.1 (by omega)); conv => whnf)
    | (refine ACalls.pure' ?_ (allFree_ok hT _ x.2.2.2.1 (by omega)); rintro _ rfl; conv => whnf)
    | (refine DCall.pure ?_ (allFree_ok hT _ x.2.2.2.1 (by omega)); conv => whnf)
    | (refine ACalls.pure' ?_ (allState_ok hT _ x.2.2.2.2.1 (by omega)); rintro _ rfl; conv => whnf)
    | (refine DCall.pure ?_ (allState_ok hT _ x.2.2.2.2.1 (by omega)); conv => whnf)
    | (refine ACalls.pure' ?_ (allSym_ok hT _ x.2.2.2.2.2.2.1 (by omega) (fun d h => by have := m8 d h; omega)); rintro _ rfl; conv => whnf)
    | (refine DCall.pure ?_ (allSym_ok hT _ x.2.2.2.2.2.2.1 (by omega) (fun d h => by have := m8 d h; omega)); conv => whnf)
    | (refine ACalls.pure' ?_ (allTrans_ok hT _ x.2.2.2.2.2.2.2 (by omega) (fun d h => by have := m9 d h; omega)); rintro _ rfl; conv => whnf)
    | (refine DCall.pure ?_ (allTrans_ok hT _ x.2.2.2.2.2.2.2 (by omega) (fun d h => by have := m9 d h; omega)); conv => whnf)
    | (refine getB_same ?_; conv => whnf)
    | (refine AWp.any (by kernel_rfl) (by kernel_rfl) (by kernel_rfl) ?_; conv => whnf)
    | (apply And.intro; (focus (first | omega | rfl | decide | exact Nat.le_of_ble_eq_true rfl | ((repeat' (first | exact all_nil | refine all_cons ?_ ?_ | rfl | fail)); done) | (simp [-List.length_flatMap]; done) | (simp [-List.length_flatMap]; omega) | fail)); conv => whnf)
    | fail)
  all_goals refine ⟨(Sub.refl _).set hb _ _, bool_eq ?_⟩
  all_goals simp [*]

theorem refRightT_ok (tk : Nat → Nat) (x : Tr0) (hx : Small x) : APure Tryz.prog Γ 6 [.agg (trA tk x)] fun v => v = .bool (rightB x) := by
  obtain ⟨⟨m1, m2, m3, m4, m5, m6⟩, m7, m8, m9⟩ := hx
  have l_declB : (x.2.1.map deA).length = x.2.1.length := List.length_map ..
  have l_quantB : (x.2.2.1.map quA).length = x.2.2.1.length := List.length_map ..
  have l_freeB : (x.2.2.2.1.map frA).length = x.2.2.2.1.length := List.length_map ..
  have l_stateB : (x.2.2.2.2.1.map stA).length = x.2.2.2.2.1.length := List.length_map ..
  have l_symB : (x.2.2.2.2.2.2.1.map syA).length = x.2.2.2.2.2.2.1.length := List.length_map ..
  have l_trB : (x.2.2.2.2.2.2.2.map tnA).length = x.2.2.2.2.2.2.2.length := List.length_map ..
  refine APure.of_awp Tryz.func6 rfl (Nat.le_of_ble_eq_true (by kernel_rfl)) (by kernel_rfl) ?_
  intro s
  conv => whnf
  intro b hb
  conv => whnf
  repeat' (first
    | (refine ⟨Sub.refl _, ?_⟩)
    | (refine brA_split (fun h => ?_) (fun h => ?_) <;> (try rw [h]) <;> (try simp only [Bool.false_eq_true, Bool.true_eq_false, ↓reduceIte, decide_eq_true_eq, decide_eq_false_iff_not, Bool.not_eq_true', Bool.not_eq_false'] at h) <;> (conv => whnf))
    | (refine getB_of set_bx_same ?_; conv => whnf)
    | (refine ACalls.pure' ?_ (Sc.refName_ok _); rintro _ rfl; conv => whnf)
    | (refine DCall.pure ?_ (Sc.refName_ok _); conv => whnf)
    | (refine getB_same ?_; conv => whnf)
    | (refine AWp.any (by kernel_rfl) (by kernel_rfl) (by kernel_rfl) ?_; conv => whnf)
    | (apply And.intro; (focus (first | omega | rfl | decide | exact Nat.le_of_ble_eq_true rfl | ((repeat' (first | exact all_nil | refine all_cons ?_ ?_ | rfl | fail)); done) | (simp [-List.length_flatMap]; done) | (simp [-List.length_flatMap]; omega) | fail)); conv => whnf)
    | fail)
  all_goals (
    refine AWp.loopA [3, 4] [21, 22, 23, 24, 25, 28, 29, 30, 31, 32, 33, 34, 35, 36, 37, 38, 5, 39, 40, 41, 42, 43, 44, 45, 46, 47, 50, 51, 52, 53, 54, 55, 56, 57, 58, 59, 60, 61, 62, 63, 64, 65, 66, 67, 68, 69, 70, 71, 72, 73, 74, 48, 49, 26, 27] (fun a : Nat × Bool => [.bool a.2, .int .i64 a.1]) (fun a s' => a.1 ≤ x.2.1.length ∧ s'.bx b = some (31, trA tk x) ∧ Ab.Sub s s' ∧ rightB x = (a.2 && ((x.2.1.drop a.1).all declB && ((x.2.2.1).all quantB && ((x.2.2.2.1).all freeB && ((x.2.2.2.2.1).all stateB && ((x.2.2.2.2.2.2.1).all symB && ((x.2.2.2.2.2.2.2).all trB)))))))) (fun a => x.2.1.length - a.1) ((0, _)) (by kernel_rfl) (by ((try dsimp only); (repeat' (first | refine cons_eq ?_ ?_ | refine int64_of ?_ ?_ ?_ | rfl | omega)))) ?_ ?_
    · exact ⟨by simp, set_bx_same, (Sub.refl _).set hb _ _, by rw [rightB_eq]; simp [nameB, *]⟩
    · rintro q ⟨i, ok⟩ s1 ⟨hi, h1, hs1, hp⟩
      simp only at hi hp
      conv => whnf
      have hga := fun h : i < x.2.1.length => map_get (f := deA) (l := x.2.1) noDe h
      have hd := fun h : i < x.2.1.length => drop_all (p := declB) noDe h
      have hmm := fun h : i < x.2.1.length => m7 _ (getD_mem noDe h)
      generalize x.2.1.getD i noDe = u at *
      repeat' (first
        | (refine ⟨Sub.refl _, ?_⟩)
        | (refine brA_split (fun h => ?_) (fun h => ?_) <;> (try rw [h]) <;> (try simp only [Bool.false_eq_true, Bool.true_eq_false, ↓reduceIte, decide_eq_true_eq, decide_eq_false_iff_not, Bool.not_eq_true', Bool.not_eq_false'] at h) <;> (conv => whnf))
        | (refine getB_of h1 ?_; conv => whnf)
        | (rw [show (x.2.1.map deA).getD ((i : Int)).toNat [] = _ from hga (by omega)]; conv => whnf)
        | (refine ACalls.pure' ?_ (Sc.refName_ok _); rintro _ rfl; conv => whnf)
        | (refine DCall.pure ?_ (Sc.refName_ok _); conv => whnf)
        | (refine getB_same ?_; conv => whnf)
        | (refine AWp.any (by kernel_rfl) (by kernel_rfl) (by kernel_rfl) ?_; conv => whnf)
        | (apply And.intro; (focus (first | omega | rfl | decide | exact Nat.le_of_ble_eq_true rfl | ((repeat' (first | exact all_nil | refine all_cons ?_ ?_ | rfl | fail)); done) | (simp [-List.length_flatMap]; done) | (simp [-List.length_flatMap]; omega) | fail)); conv => whnf)
        | fail)
      rotate_right 1
      · rw [drop_end (by omega), List.all_nil, Bool.true_and] at hp
        refine AWp.loopA [3, 6] [75, 76, 77, 78, 79, 82, 83, 84, 85, 86, 87, 88, 89, 90, 91, 92, 93, 94, 95, 96, 97, 98, 99, 100, 101, 102, 103, 104, 105, 106, 107, 108, 109, 110, 80, 81] (fun a : Nat × Bool => [.bool a.2, .int .i64 a.1]) (fun a s' => a.1 ≤ x.2.2.1.length ∧ s'.bx b = some (31, trA tk x) ∧ Ab.Sub s s' ∧ rightB x = (a.2 && ((x.2.2.1.drop a.1).all quantB && ((x.2.2.2.1).all freeB && ((x.2.2.2.2.1).all stateB && ((x.2.2.2.2.2.2.1).all symB && ((x.2.2.2.2.2.2.2).all trB))))))) (fun a => x.2.2.1.length - a.1) ((0, _)) (by kernel_rfl) (by ((try dsimp only); (repeat' (first | refine cons_eq ?_ ?_ | refine int64_of ?_ ?_ ?_ | rfl | omega)))) ?_ ?_
        · exact ⟨by simp, h1, hs1, by rw [List.drop_zero]; simpa using hp⟩
        · clear hga hd
          rintro q ⟨i, ok⟩ s1 ⟨hi, h1, hs1, hp⟩
          simp only at hi hp
          conv => whnf
          have hga := fun h : i < x.2.2.1.length => map_get (f := quA) (l := x.2.2.1) noQu h
          have hd := fun h : i < x.2.2.1.length => drop_all (p := quantB) noQu h
          generalize x.2.2.1.getD i noQu = u at *
          repeat' (first
            | (refine ⟨Sub.refl _, ?_⟩)
            | (refine brA_split (fun h => ?_) (fun h => ?_) <;> (try rw [h]) <;> (try simp only [Bool.false_eq_true, Bool.true_eq_false, ↓reduceIte, decide_eq_true_eq, decide_eq_false_iff_not, Bool.not_eq_true', Bool.not_eq_false'] at h) <;> (conv => whnf))
            | (refine getB_of h1 ?_; conv => whnf)
            | (rw [show (x.2.2.1.map quA).getD ((i : Int)).toNat [] = _ from hga (by omega)]; conv => whnf)
            | (refine ACalls.pure' ?_ (Sc.refName_ok _); rintro _ rfl; conv => whnf)
            | (refine DCall.pure ?_ (Sc.refName_ok _); conv => whnf)
            | (refine getB_same ?_; conv => whnf)
            | (refine AWp.any (by kernel_rfl) (by kernel_rfl) (by kernel_rfl) ?_; conv => whnf)
            | (apply And.intro; (focus (first | omega | rfl | decide | exact Nat.le_of_ble_eq_true rfl | ((repeat' (first | exact all_nil | refine all_cons ?_ ?_ | rfl | fail)); done) | (simp [-List.length_flatMap]; done) | (simp [-List.length_flatMap]; omega) | fail)); conv => whnf)
            | fail)
          rotate_right 1
          · rw [drop_end (by omega), List.all_nil, Bool.true_and] at hp
            refine AWp.loopA [3, 7] [111, 112, 113, 114, 115, 118, 119, 120, 121, 122, 123, 124, 125, 126, 127, 128, 129, 130, 131, 132, 133, 134, 135, 136, 137, 116, 117] (fun a : Nat × Bool => [.bool a.2, .int .i64 a.1]) (fun a s' => a.1 ≤ x.2.2.2.1.length ∧ s'.bx b = some (31, trA tk x) ∧ Ab.Sub s s' ∧ rightB x = (a.2 && ((x.2.2.2.1.drop a.1).all freeB && ((x.2.2.2.2.1).all stateB && ((x.2.2.2.2.2.2.1).all symB && ((x.2.2.2.2.2.2.2).all trB)))))) (fun a => x.2.2.2.1.length - a.1) ((0, _)) (by kernel_rfl) (by ((try dsimp only); (repeat' (first | refine cons_eq ?_ ?_ | refine int64_of ?_ ?_ ?_ | rfl | omega)))) ?_ ?_
            · exact ⟨by simp, h1, hs1, by rw [List.drop_zero]; simpa using hp⟩
            · clear hga hd
              rintro q ⟨i, ok⟩ s1 ⟨hi, h1, hs1, hp⟩
              simp only at hi hp
              conv => whnf
              have hga := fun h : i < x.2.2.2.1.length => map_get (f := frA) (l := x.2.2.2.1) noFr h
              have hd := fun h : i < x.2.2.2.1.length => drop_all (p := freeB) noFr h
              generalize x.2.2.2.1.getD i noFr = u at *
              repeat' (first
                | (refine ⟨Sub.refl _, ?_⟩)
                | (refine brA_split (fun h => ?_) (fun h => ?_) <;> (try rw [h]) <;> (try simp only [Bool.false_eq_true, Bool.true_eq_false, ↓reduceIte, decide_eq_true_eq, decide_eq_false_iff_not, Bool.not_eq_true', Bool.not_eq_false'] at h) <;> (conv => whnf))
                | (refine getB_of h1 ?_; conv => whnf)
                | (rw [show (x.2.2.2.1.map frA).getD ((i : Int)).toNat [] = _ from hga (by omega)]; conv => whnf)
                | (refine ACalls.pure' ?_ (Sc.refName_ok _); rintro _ rfl; conv => whnf)
                | (refine DCall.pure ?_ (Sc.refName_ok _); conv => whnf)
                | (refine ACalls.pure' ?_ (refRight_ok u.2); rintro _ rfl; conv => whnf)
                | (refine DCall.pure ?_ (refRight_ok u.2); conv => whnf)
                | (refine getB_same ?_; conv => whnf)
                | (refine AWp.any (by kernel_rfl) (by kernel_rfl) (by kernel_rfl) ?_; conv => whnf)
                | (apply And.intro; (focus (first | omega | rfl | decide | exact Nat.le_of_ble_eq_true rfl | ((repeat' (first | exact all_nil | refine all_cons ?_ ?_ | rfl | fail)); done) | (simp [-List.length_flatMap]; done) | (simp [-List.length_flatMap]; omega) | fail)); conv => whnf)
                | fail)
              rotate_right 1
              · rw [drop_end (by omega), List.all_nil, Bool.true_and] at hp
                refine AWp.loopA [3, 8] [138, 139, 140, 141, 142, 145, 146, 147, 148, 149, 150, 151, 152, 153, 154, 155, 143, 144] (fun a : Nat × Bool => [.bool a.2, .int .i64 a.1]) (fun a s' => a.1 ≤ x.2.2.2.2.1.length ∧ s'.bx b = some (31, trA tk x) ∧ Ab.Sub s s' ∧ rightB x = (a.2 && ((x.2.2.2.2.1.drop a.1).all stateB && ((x.2.2.2.2.2.2.1).all symB && ((x.2.2.2.2.2.2.2).all trB))))) (fun a => x.2.2.2.2.1.length - a.1) ((0, _)) (by kernel_rfl) (by ((try dsimp only); (repeat' (first | refine cons_eq ?_ ?_ | refine int64_of ?_ ?_ ?_ | rfl | omega)))) ?_ ?_
                · exact ⟨by simp, h1, hs1, by rw [List.drop_zero]; simpa using hp⟩
                · clear hga hd
                  rintro q ⟨i, ok⟩ s1 ⟨hi, h1, hs1, hp⟩
                  simp only at hi hp
                  conv => whnf
                  have hga := fun h : i < x.2.2.2.2.1.length => map_get (f := stA) (l := x.2.2.2.2.1) noSt h
                  have hd := fun h : i < x.2.2.2.2.1.length => drop_all (p := stateB) noSt h
                  generalize x.2.2.2.2.1.getD i noSt = u at *
                  repeat' (first
                    | (refine ⟨Sub.refl _, ?_⟩)
                    | (refine brA_split (fun h => ?_) (fun h => ?_) <;> (try rw [h]) <;> (try simp only [Bool.false_eq_true, Bool.true_eq_false, ↓reduceIte, decide_eq_true_eq, decide_eq_false_iff_not, Bool.not_eq_true', Bool.not_eq_false'] at h) <;> (conv => whnf))
                    | (refine getB_of h1 ?_; conv => whnf)
                    | (rw [show (x.2.2.2.2.1.map stA).getD ((i : Int)).toNat [] = _ from hga (by omega)]; conv => whnf)
                    | (refine ACalls.pure' ?_ (Sc.refName_ok _); rintro _ rfl; conv => whnf)
                    | (refine DCall.pure ?_ (Sc.refName_ok _); conv => whnf)
                    | (refine getB_same ?_; conv => whnf)
                    | (refine AWp.any (by kernel_rfl) (by kernel_rfl) (by kernel_rfl) ?_; conv => whnf)
                    | (apply And.intro; (focus (first | omega | rfl | decide | exact Nat.le_of_ble_eq_true rfl | ((repeat' (first | exact all_nil | refine all_cons ?_ ?_ | rfl | fail)); done) | (simp [-List.length_flatMap]; done) | (simp [-List.length_flatMap]; omega) | fail)); conv => whnf)
                    | fail)
                  rotate_right 1
                  · rw [drop_end (by omega), List.all_nil, Bool.true_and] at hp
                    refine AWp.loopA [3, 9] [156, 157, 158, 159, 160, 163, 164, 165, 166, 167, 168, 169, 170, 171, 161, 162] (fun a : Nat × Bool => [.bool a.2, .int .i64 a.1]) (fun a s' => a.1 ≤ x.2.2.2.2.2.2.1.length ∧ s'.bx b = some (31, trA tk x) ∧ Ab.Sub s s' ∧ rightB x = (a.2 && ((x.2.2.2.2.2.2.1.drop a.1).all symB && ((x.2.2.2.2.2.2.2).all trB)))) (fun a => x.2.2.2.2.2.2.1.length - a.1) ((0, _)) (by kernel_rfl) (by ((try dsimp only); (repeat' (first | refine cons_eq ?_ ?_ | refine int64_of ?_ ?_ ?_ | rfl | omega)))) ?_ ?_
                    · exact ⟨by simp, h1, hs1, by rw [List.drop_zero]; simpa using hp⟩
                    · clear hga hd
                      rintro q ⟨i, ok⟩ s1 ⟨hi, h1, hs1, hp⟩
                      simp only at hi hp
                      conv => whnf
                      have hga := fun h : i < x.2.2.2.2.2.2.1.length => map_get (f := syA) (l := x.2.2.2.2.2.2.1) noSy h
                      have hd := fun h : i < x.2.2.2.2.2.2.1.length => drop_all (p := symB) noSy h
                      have hmm := fun h : i < x.2.2.2.2.2.2.1.length => (by have := m8 _ (getD_mem noSy h); omega : (x.2.2.2.2.2.2.1.getD i noSy).2.2.1.length ≤ 100000)
                      generalize x.2.2.2.2.2.2.1.getD i noSy = u at *
                      repeat' (first
                        | (refine ⟨Sub.refl _, ?_⟩)
                        | (refine brA_split (fun h => ?_) (fun h => ?_) <;> (try rw [h]) <;> (try simp only [Bool.false_eq_true, Bool.true_eq_false, ↓reduceIte, decide_eq_true_eq, decide_eq_false_iff_not, Bool.not_eq_true', Bool.not_eq_false'] at h) <;> (conv => whnf))
                        | (refine getB_of h1 ?_; conv => whnf)
                        | (rw [show (x.2.2.2.2.2.2.1.map syA).getD ((i : Int)).toNat [] = _ from hga (by omega)]; conv => whnf)
                        | (refine ACalls.pure' ?_ (refSym_ok u (hmm (by omega))); rintro _ rfl; conv => whnf)
                        | (refine DCall.pure ?_ (refSym_ok u (hmm (by omega))); conv => whnf)
                        | (refine getB_same ?_; conv => whnf)
                        | (refine AWp.any (by kernel_rfl) (by kernel_rfl) (by kernel_rfl) ?_; conv => whnf)
                        | (apply And.intro; (focus (first | omega | rfl | decide | exact Nat.le_of_ble_eq_true rfl | ((repeat' (first | exact all_nil | refine all_cons ?_ ?_ | rfl | fail)); done) | (simp [-List.length_flatMap]; done) | (simp [-List.length_flatMap]; omega) | fail)); conv => whnf)
                        | fail)
                      rotate_right 1
                      · rw [drop_end (by omega), List.all_nil, Bool.true_and] at hp
                        refine AWp.loopA [3, 10] [172, 173, 174, 175, 176, 179, 180, 181, 182, 183, 184, 185, 186, 187, 177, 178] (fun a : Nat × Bool => [.bool a.2, .int .i64 a.1]) (fun a s' => a.1 ≤ x.2.2.2.2.2.2.2.length ∧ s'.bx b = some (31, trA tk x) ∧ Ab.Sub s s' ∧ rightB x = (a.2 && ((x.2.2.2.2.2.2.2.drop a.1).all trB && (true)))) (fun a => x.2.2.2.2.2.2.2.length - a.1) ((0, _)) (by kernel_rfl) (by ((try dsimp only); (repeat' (first | refine cons_eq ?_ ?_ | refine int64_of ?_ ?_ ?_ | rfl | omega)))) ?_ ?_
                        · exact ⟨by simp, h1, hs1, by rw [List.drop_zero]; simpa using hp⟩
                        · clear hga hd
                          rintro q ⟨i, ok⟩ s1 ⟨hi, h1, hs1, hp⟩
                          simp only at hi hp
                          conv => whnf
                          have hga := fun h : i < x.2.2.2.2.2.2.2.length => map_get (f := tnA) (l := x.2.2.2.2.2.2.2) noTn h
                          have hd := fun h : i < x.2.2.2.2.2.2.2.length => drop_all (p := trB) noTn h
                          have hmm := fun h : i < x.2.2.2.2.2.2.2.length => (by have := m9 _ (getD_mem noTn h); exact ⟨by omega, by omega, by omega⟩ : (x.2.2.2.2.2.2.2.getD i noTn).2.2.2.1.2.1.length ≤ 100000 ∧ (x.2.2.2.2.2.2.2.getD i noTn).2.2.2.2.1.length ≤ 100000 ∧ (x.2.2.2.2.2.2.2.getD i noTn).2.2.2.2.2.2.length ≤ 100000)
                          generalize x.2.2.2.2.2.2.2.getD i noTn = u at *
                          repeat' (first
                            | (refine ⟨Sub.refl _, ?_⟩)
                            | (refine brA_split (fun h => ?_) (fun h => ?_) <;> (try rw [h]) <;> (try simp only [Bool.false_eq_true, Bool.true_eq_false, ↓reduceIte, decide_eq_true_eq, decide_eq_false_iff_not, Bool.not_eq_true', Bool.not_eq_false'] at h) <;> (conv => whnf))
                            | (refine getB_of h1 ?_; conv => whnf)
                            | (rw [show (x.2.2.2.2.2.2.2.map tnA).getD ((i : Int)).toNat [] = _ from hga (by omega)]; conv => whnf)
                            | (refine ACalls.pure' ?_ (refTrans_ok u (hmm (by omega))); rintro _ rfl; conv => whnf)
                            | (refine DCall.pure ?_ (refTrans_ok u (hmm (by omega))); conv => whnf)
                            | (refine getB_same ?_; conv => whnf)
                            | (refine AWp.any (by kernel_rfl) (by kernel_rfl) (by kernel_rfl) ?_; conv => whnf)
                            | (apply And.intro; (focus (first | omega | rfl | decide | exact Nat.le_of_ble_eq_true rfl | ((repeat' (first | exact all_nil | refine all_cons ?_ ?_ | rfl | fail)); done) | (simp [-List.length_flatMap]; done) | (simp [-List.length_flatMap]; omega) | fail)); conv => whnf)
                            | fail)
                          rotate_right 1
                          · rw [drop_end (by omega), List.all_nil, Bool.true_and] at hp
                            first | refine ⟨hs1, bool_eq ?_⟩ | refine bool_eq ?_
                            rw [hp]; simp
                          all_goals (refine ⟨(i + 1, _), by ((try dsimp only); (repeat' (first | refine cons_eq ?_ ?_ | refine int64_of ?_ ?_ ?_ | rfl | omega))), by (repeat (first | exact Same.refl _ _ | refine Same.upd rfl ?_ | refine Same.updL rfl ?_ | refine Same.havoc rfl ?_)), ⟨by simp only; omega, h1, hs1, ?_⟩, by simp only; omega⟩; rw [hp, hd (by omega)]; simp [Bool.and_assoc, *])
                      all_goals (refine ⟨(i + 1, _), by ((try dsimp only); (repeat' (first | refine cons_eq ?_ ?_ | refine int64_of ?_ ?_ ?_ | rfl | omega))), by (repeat (first | exact Same.refl _ _ | refine Same.upd rfl ?_ | refine Same.updL rfl ?_ | refine Same.havoc rfl ?_)), ⟨by simp only; omega, h1, hs1, ?_⟩, by simp only; omega⟩; rw [hp, hd (by omega)]; simp [Bool.and_assoc, *])
                  all_goals (refine ⟨(i + 1, _), by ((try dsimp only); (repeat' (first | refine cons_eq ?_ ?_ | refine int64_of ?_ ?_ ?_ | rfl | omega))), by (repeat (first | exact Same.refl _ _ | refine Same.upd rfl ?_ | refine Same.updL rfl ?_ | refine Same.havoc rfl ?_)), ⟨by simp only; omega, h1, hs1, ?_⟩, by simp only; omega⟩; rw [hp, hd (by omega)]; simp [Bool.and_assoc, stateB, nameB, *])
              all_goals (refine ⟨(i + 1, _), by ((try dsimp only); (repeat' (first | refine cons_eq ?_ ?_ | refine int64_of ?_ ?_ ?_ | rfl | omega))), by (repeat (first | exact Same.refl _ _ | refine Same.upd rfl ?_ | refine Same.updL rfl ?_ | refine Same.havoc rfl ?_)), ⟨by simp only; omega, h1, hs1, ?_⟩, by simp only; omega⟩; rw [hp, hd (by omega)]; simp [Bool.and_assoc, freeB, nameB, *])
          all_goals (refine ⟨(i + 1, _), by ((try dsimp only); (repeat' (first | refine cons_eq ?_ ?_ | refine int64_of ?_ ?_ ?_ | rfl | omega))), by (repeat (first | exact Same.refl _ _ | refine Same.upd rfl ?_ | refine Same.updL rfl ?_ | refine Same.havoc rfl ?_)), ⟨by simp only; omega, h1, hs1, ?_⟩, by simp only; omega⟩; rw [hp, hd (by omega)]; simp [Bool.and_assoc, quantB, nameB, kindB, *])
      all_goals (
        have hlt : i < x.2.1.length := by omega
        have hty : (intsA .i64 u.2.2).length = u.2.2.length := intsA_len _ _
        refine AWp.loopA [3, 5] [39, 40, 41, 42, 43, 44, 45, 46, 47, 50, 51, 52, 53, 54, 55, 56, 57, 58, 59, 60, 61, 62, 63, 64, 65, 66, 67, 68, 69, 70, 71, 72, 73, 74, 48, 49] (fun a : Nat × Bool => [.bool a.2, .int .i64 a.1]) (fun a s' => a.1 ≤ u.2.2.length ∧ s'.bx b = some (31, trA tk x) ∧ Ab.Sub s s' ∧ rightB x = (a.2 && ((u.2.2.drop a.1).all kindB && ((x.2.1.drop (i + 1)).all declB && ((x.2.2.1).all quantB && ((x.2.2.2.1).all freeB && ((x.2.2.2.2.1).all stateB && ((x.2.2.2.2.2.2.1).all symB && ((x.2.2.2.2.2.2.2).all trB))))))))) (fun a => u.2.2.length - a.1) ((0, _)) (by kernel_rfl) (by ((try dsimp only); (repeat' (first | refine cons_eq ?_ ?_ | refine int64_of ?_ ?_ ?_ | rfl | omega)))) ?_ ?_
        · exact ⟨by simp, h1, hs1, by rw [hp, hd (by omega)]; simp [Bool.and_assoc, declB, nameB, *]⟩
        · rintro q2 ⟨k, ok2⟩ s2 ⟨hk, h2, hs2, hp2⟩
          simp only at hk hp2
          conv => whnf
          have hgk := fun h : k < u.2.2.length => intsA_get (k := .i64) (l := u.2.2) h
          have hdk := fun h : k < u.2.2.length => drop_all (p := kindB) (l := u.2.2) 0 h
          generalize u.2.2.getD k 0 = z at *
          repeat' (first
            | (exfalso; omega)
            | (refine ⟨Sub.refl _, ?_⟩)
            | (refine brA_split (fun h => ?_) (fun h => ?_) <;> (try rw [h]) <;> (try simp only [Bool.false_eq_true, Bool.true_eq_false, ↓reduceIte, decide_eq_true_eq, decide_eq_false_iff_not, Bool.not_eq_true', Bool.not_eq_false'] at h) <;> (conv => whnf))
            | (refine getB_of h2 ?_; conv => whnf)
            | (rw [show (x.2.1.map deA).getD ((i : Int)).toNat [] = _ from hga (by omega)]; conv => whnf)
            | (rw [show (intsA .i64 u.2.2).getD ((k : Int)).toNat [] = _ from hgk (by omega)]; conv => whnf)
            | (refine getB_same ?_; conv => whnf)
            | (refine AWp.any (by kernel_rfl) (by kernel_rfl) (by kernel_rfl) ?_; conv => whnf)
            | (apply And.intro; (focus (first | omega | rfl | decide | exact Nat.le_of_ble_eq_true rfl | ((repeat' (first | exact all_nil | refine all_cons ?_ ?_ | rfl | fail)); done) | (simp [-List.length_flatMap]; done) | (simp [-List.length_flatMap]; omega) | fail)); conv => whnf)
            | fail)
          all_goals first
            | (refine ⟨(k + 1, _), by ((try dsimp only); (repeat' (first | refine cons_eq ?_ ?_ | refine int64_of ?_ ?_ ?_ | rfl | omega))), by (repeat (first | exact Same.refl _ _ | refine Same.upd rfl ?_ | refine Same.updL rfl ?_ | refine Same.havoc rfl ?_)), ⟨by simp only; omega, h2, hs2, ?_⟩, by simp only; omega⟩
               rw [hp2, hdk (by omega)]; simp [Bool.and_assoc, kindB, *])
            | (refine ⟨(i + 1, _), by ((try dsimp only); (repeat' (first | refine cons_eq ?_ ?_ | refine int64_of ?_ ?_ ?_ | rfl | omega))), by (repeat (first | exact Same.refl _ _ | refine Same.upd rfl ?_ | refine Same.updL rfl ?_ | refine Same.havoc rfl ?_)), ⟨by simp only; omega, h2, hs2, ?_⟩, by simp only; omega⟩
               rw [hp2, drop_end (by omega)]; simp [Bool.and_assoc])))
end Go.Proofs.YtbhemiimdfhjbaaGreatDoor.Tr
