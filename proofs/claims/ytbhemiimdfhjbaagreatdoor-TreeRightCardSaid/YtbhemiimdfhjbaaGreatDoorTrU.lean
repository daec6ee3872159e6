/- Chapter 10: which symbols and transitions may be: by the document. (Printed by genU.py.) -/
import Derived.Test.YtbhemiimdfhjbaaGreatDoorTrT
namespace Go.Proofs.YtbhemiimdfhjbaaGreatDoor.Tr
open Go Go.Ab Go.RowKit
variable {Γ : Nat → AV}
attribute [local irreducible] APure Sto.set Sto.grow
set_option maxRecDepth 10000
set_option maxHeartbeats 1000000

theorem refSym_ok (x : Nat × Sy) (hl : x.2.2.1.length ≤ 100000) : APure Tryz.prog Γ 17 [.agg (syA x)] fun v => v = .bool (symB x) := by
  have hlx : (x.2.2.1.map arA).length = x.2.2.1.length := List.length_map ..
  refine APure.of_awp Tryz.func17 rfl (Nat.le_of_ble_eq_true (by kernel_rfl)) (by kernel_rfl) ?_
  intro s
  conv => whnf
  intro b hb
  conv => whnf
  repeat' (first
    | (refine ⟨Sub.refl _, ?_⟩)
    | (refine brA_split (fun h => ?_) (fun h => ?_) <;> (try rw [h]) <;> (try simp only [Bool.false_eq_true, Bool.true_eq_false, ↓reduceIte, decide_eq_true_eq, decide_eq_false_iff_not, Bool.not_eq_true', Bool.not_eq_false'] at h) <;> (conv => whnf))
    | (refine getB_same ?_; conv => whnf)
    | (refine AWp.any (by kernel_rfl) (by kernel_rfl) (by kernel_rfl) ?_; conv => whnf)
    | (apply And.intro; (focus (first | omega | rfl | decide | exact Nat.le_of_ble_eq_true rfl | ((repeat' (first | exact all_nil | refine all_cons ?_ ?_ | rfl | fail)); done) | (simp [-List.length_flatMap]; done) | (simp [-List.length_flatMap]; omega) | fail)); conv => whnf)
    | fail)
  refine AWp.loopA [3] [6, 7, 8, 9, 10, 13, 14, 15, 16, 17, 4, 18, 5, 19, 20, 21, 22, 23, 24, 25, 26, 27, 28, 29, 30, 31, 32, 33, 34, 35, 36, 37, 38, 39, 40, 41, 42, 43, 44, 45, 46, 47, 48, 49, 50, 51, 52, 53, 54, 55, 56, 57, 58, 59, 60, 61, 62, 63, 64, 65, 66, 67, 68, 69, 70, 71, 72, 73, 74, 75, 2, 11, 12] (fun i : Nat => [.int .i64 i]) (fun i s' => i ≤ x.2.2.1.length ∧ s'.bx b = some (47, syA x) ∧ Sub s s' ∧ x.2.2.1.all argB = (x.2.2.1.drop i).all argB) (fun i => x.2.2.1.length - i) (0) (by kernel_rfl) (by (repeat' (first | refine cons_eq ?_ ?_ | refine int64_of ?_ ?_ ?_ | rfl | omega))) ?_ ?_
  · exact ⟨by omega, set_bx_same, (Sub.refl _).set hb _ _, by rw [List.drop_zero]⟩
  · rintro q i s1 ⟨hi, h1, hs1, hp⟩
    conv => whnf
    have hga := fun h : i < x.2.2.1.length => map_get (f := arA) (l := x.2.2.1) noAr h
    have hd := fun h : i < x.2.2.1.length => drop_all (p := argB) noAr h
    by_cases hlt : i < x.2.2.1.length
    · have hga := hga hlt
      have hd := hd hlt
      generalize x.2.2.1.getD i noAr = u at *
      have hev := eq_vl u.2.2.1 noVl
      simp only [noVl] at hev
      repeat' (first
        | (exfalso; omega)
        | (refine ⟨Sub.refl _, ?_⟩)
        | (refine brA_split (fun h => ?_) (fun h => ?_) <;> (try rw [h]) <;> (try simp only [Bool.false_eq_true, Bool.true_eq_false, ↓reduceIte, decide_eq_true_eq, decide_eq_false_iff_not, Bool.not_eq_true', Bool.not_eq_false'] at h) <;> (conv => whnf))
        | (refine getB_of h1 ?_; conv => whnf)
        | (rw [show (x.2.2.1.map arA).getD ((i : Int)).toNat [] = _ from hga]; conv => whnf)
        | (refine getB_same ?_; conv => whnf)
        | (refine AWp.any (by kernel_rfl) (by kernel_rfl) (by kernel_rfl) ?_; conv => whnf)
        | (apply And.intro; (focus (first | omega | rfl | decide | exact Nat.le_of_ble_eq_true rfl | ((repeat' (first | exact all_nil | refine all_cons ?_ ?_ | rfl | fail)); done) | (simp [-List.length_flatMap]; done) | (simp [-List.length_flatMap]; omega) | fail)); conv => whnf)
        | fail)
      intro c hc
      conv => whnf
      refine getB_of set_bx_same ?_
      repeat' (first
        | (refine ⟨Sub.refl _, ?_⟩)
        | (refine brA_split (fun h => ?_) (fun h => ?_) <;> (try rw [h]) <;> (try simp only [Bool.false_eq_true, Bool.true_eq_false, ↓reduceIte, decide_eq_true_eq, decide_eq_false_iff_not, Bool.not_eq_true', Bool.not_eq_false'] at h) <;> (conv => whnf))
        | (refine getB_same ?_; conv => whnf)
        | (refine AWp.any (by kernel_rfl) (by kernel_rfl) (by kernel_rfl) ?_; conv => whnf)
        | (apply And.intro; (focus (first | omega | rfl | decide | exact Nat.le_of_ble_eq_true rfl | ((repeat' (first | exact all_nil | refine all_cons ?_ ?_ | rfl | fail)); done) | (simp [-List.length_flatMap]; done) | (simp [-List.length_flatMap]; omega) | fail)); conv => whnf)
        | fail)
      intro d hd2
      conv => whnf
      refine getB_of set_bx_same ?_
      have ncd := ne_of_none set_bx_same hd2
      have hd3 := (none_set (none_set hd2).2).2
      have n1 := ne_of_none h1 hc
      have n2 := ne_of_none h1 hd3
      have hcs := hs1.none hc
      have hds := hs1.none hd3
      have keep := fun (T1 T2 T3 T4 : TypeId) (y1 y2 y3 y4 : List AV) => (set_bx_other (s := ((s1.set c T1 y1).set c T2 y2).set d T3 y3) (T := T4) (cs := y4) n2).trans ((set_bx_other n2).trans ((set_bx_other n1).trans ((set_bx_other n1).trans h1)))
      have sub := fun (T1 T2 T3 T4 : TypeId) (y1 y2 y3 y4 : List AV) => (((hs1.set hcs T1 y1).set hcs T2 y2).set hds T3 y3).set hds T4 y4
      repeat' (first
        | (exfalso; omega)
        | (refine ⟨Sub.refl _, ?_⟩)
        | (refine brA_split (fun h => ?_) (fun h => ?_) <;> (try rw [h]) <;> (try simp only [Bool.false_eq_true, Bool.true_eq_false, ↓reduceIte, decide_eq_true_eq, decide_eq_false_iff_not, Bool.not_eq_true', Bool.not_eq_false'] at h) <;> (conv => whnf))
        | (refine getB_of set_bx_same ?_; conv => whnf)
        | (refine getB_of ((set_bx_other ncd).trans ((set_bx_other ncd).trans set_bx_same)) ?_; conv => whnf)
        | (refine ACalls.pure' ?_ (refRight_ok u.2.2.1); rintro _ rfl; conv => whnf)
        | (refine DCall.pure ?_ (refRight_ok u.2.2.1); conv => whnf)
        | (refine ACalls.pure' ?_ (Sc.refName_ok _); rintro _ rfl; conv => whnf)
        | (refine DCall.pure ?_ (Sc.refName_ok _); conv => whnf)
        | (refine EqAgg.of grdVl planVl ?_; conv => whnf)
        | (refine getB_same ?_; conv => whnf)
        | (refine AWp.any (by kernel_rfl) (by kernel_rfl) (by kernel_rfl) ?_; conv => whnf)
        | (apply And.intro; (focus (first | omega | rfl | decide | exact Nat.le_of_ble_eq_true rfl | ((repeat' (first | exact all_nil | refine all_cons ?_ ?_ | rfl | fail)); done) | (simp [-List.length_flatMap]; done) | (simp [-List.length_flatMap]; omega) | fail)); conv => whnf)
        | fail)
      all_goals first
        | (refine ⟨sub _ _ _ _ _ _ _ _, bool_eq ?_⟩
           unfold symB
           rw [hp, hd, show argB u = false from by clear keep sub hc hd2 hd3 hcs hds hp hd hga; unfold argB; grind [noVl]]
           simp)
        | (refine ⟨i + 1, by (repeat' (first | refine cons_eq ?_ ?_ | refine int64_of ?_ ?_ ?_ | rfl | omega)), by (repeat (first | exact Same.refl _ _ | refine Same.upd rfl ?_ | refine Same.updL rfl ?_ | refine Same.havoc rfl ?_)), ⟨by omega, keep _ _ _ _ _ _ _ _, sub _ _ _ _ _ _ _ _, ?_⟩, by omega⟩
           rw [hp, hd, show argB u = true from by clear keep sub hc hd2 hd3 hcs hds hp hd hga; unfold argB; grind [noVl]]
           simp)
    · repeat' (first
        | (exfalso; omega)
        | (refine ⟨Sub.refl _, ?_⟩)
        | (refine brA_split (fun h => ?_) (fun h => ?_) <;> (try rw [h]) <;> (try simp only [Bool.false_eq_true, Bool.true_eq_false, ↓reduceIte, decide_eq_true_eq, decide_eq_false_iff_not, Bool.not_eq_true', Bool.not_eq_false'] at h) <;> (conv => whnf))
        | (refine getB_of h1 ?_; conv => whnf)
        | (refine ACalls.pure' ?_ (Sc.refName_ok _); rintro _ rfl; conv => whnf)
        | (refine DCall.pure ?_ (Sc.refName_ok _); conv => whnf)
        | (refine getB_same ?_; conv => whnf)
        | (refine AWp.any (by kernel_rfl) (by kernel_rfl) (by kernel_rfl) ?_; conv => whnf)
        | (apply And.intro; (focus (first | omega | rfl | decide | exact Nat.le_of_ble_eq_true rfl | ((repeat' (first | exact all_nil | refine all_cons ?_ ?_ | rfl | fail)); done) | (simp [-List.length_flatMap]; done) | (simp [-List.length_flatMap]; omega) | fail)); conv => whnf)
        | fail)
      all_goals first | refine ⟨hs1, bool_eq ?_⟩ | refine bool_eq ?_
      all_goals unfold symB
      all_goals rw [hp, drop_end (by omega)]
      all_goals simp
theorem refWhole_ok (t : Nat) (l : List Ex) (hl : l.length ≤ 100000) (f root : Int) (hf : 0 ≤ f ∧ f ≤ l.length) : APure Tryz.prog Γ 67 [.slice t (l.map exA), .int .i64 f, .int .i64 root] fun v => v = .bool (whB l f root) := by
  by_cases hr : 0 ≤ root ∧ root < l.length
  · have hsz := refSize_ok t l (by omega) (root.toNat + 1) root.toNat (by omega) (by omega) Γ
    have hdp := fun h => refDepth_ok t l (by omega) (root.toNat + 1) root.toNat (by omega) (by omega) h Γ
    simp only [show ((root.toNat : Nat) : Int) = root by omega] at hsz hdp
    have hbd := nd_bound Sc.isName l (i := root.toNat) (by omega)
    have hwh : whB l f root = (decide (f ≤ root) && (decide (root < l.length) && (decide ((nd Sc.isName l root.toNat).1 = root - f + 1) && decide ((nd Sc.isName l root.toNat).2 ≤ 64)))) := rfl
    generalize whB l f root = B at *
    generalize nd Sc.isName l root.toNat = p at *
    have hw : IntKind.i64.wrap (IntKind.i64.wrap (root - p.1) + 1) = root - p.1 + 1 := by rw [i64_of (b := root - p.1) rfl (by omega) (by omega)]; exact i64_of rfl (by omega) (by omega)
    refine APure.of_awp Tryz.func67 rfl (Nat.le_of_ble_eq_true (by kernel_rfl)) (by kernel_rfl) ?_
    intro s
    conv => whnf
    repeat' (first
      | (exfalso; omega)
      | (refine ⟨Sub.refl _, ?_⟩)
      | (refine brA_split (fun h => ?_) (fun h => ?_) <;> (try rw [h]) <;> (try simp only [Bool.false_eq_true, Bool.true_eq_false, ↓reduceIte, decide_eq_true_eq, decide_eq_false_iff_not, Bool.not_eq_true', Bool.not_eq_false'] at h) <;> (conv => whnf))
      | (refine ACalls.pure' ?_ (hsz); rintro _ rfl; conv => whnf)
      | (refine DCall.pure ?_ (hsz); conv => whnf)
      | (refine ACalls.pure' ?_ (hdp (by omega)); rintro _ rfl; conv => whnf)
      | (refine DCall.pure ?_ (hdp (by omega)); conv => whnf)
      | (rw [hw]; conv => whnf)
      | (refine getB_same ?_; conv => whnf)
      | (refine AWp.any (by kernel_rfl) (by kernel_rfl) (by kernel_rfl) ?_; conv => whnf)
      | (apply And.intro; (focus (first | omega | rfl | decide | exact Nat.le_of_ble_eq_true rfl | ((repeat' (first | exact all_nil | refine all_cons ?_ ?_ | rfl | fail)); done) | (simp [-List.length_flatMap]; done) | (simp [-List.length_flatMap]; omega) | fail)); conv => whnf)
      | fail)
    all_goals refine bool_eq ?_
    all_goals (rw [hwh]; clear hsz hdp hwh; grind)
  · have hsz := refSize_out (Γ := Γ) t l (i := root) (by omega)
    have hwh : whB l f root = false := by
      cases hB : whB l f root with
      | false => rfl
      | true =>
        unfold whB at hB
        simp only [Bool.and_eq_true, decide_eq_true_eq] at hB
        omega
    rw [hwh]
    refine APure.of_awp Tryz.func67 rfl (Nat.le_of_ble_eq_true (by kernel_rfl)) (by kernel_rfl) ?_
    intro s
    conv => whnf
    repeat' (first
      | (exfalso; omega)
      | (refine ⟨Sub.refl _, ?_⟩)
      | (refine brA_split (fun h => ?_) (fun h => ?_) <;> (try rw [h]) <;> (try simp only [Bool.false_eq_true, Bool.true_eq_false, ↓reduceIte, decide_eq_true_eq, decide_eq_false_iff_not, Bool.not_eq_true', Bool.not_eq_false'] at h) <;> (conv => whnf))
      | (refine ACalls.pure' ?_ (hsz); rintro _ rfl; conv => whnf)
      | (refine DCall.pure ?_ (hsz); conv => whnf)
      | (refine getB_same ?_; conv => whnf)
      | (refine AWp.any (by kernel_rfl) (by kernel_rfl) (by kernel_rfl) ?_; conv => whnf)
      | (apply And.intro; (focus (first | omega | rfl | decide | exact Nat.le_of_ble_eq_true rfl | ((repeat' (first | exact all_nil | refine all_cons ?_ ?_ | rfl | fail)); done) | (simp [-List.length_flatMap]; done) | (simp [-List.length_flatMap]; omega) | fail)); conv => whnf)
      | fail)
    all_goals rfl
theorem refTrans_ok (x : (Nat × Nat × Nat) × Tn) (hx : x.2.2.2.1.2.1.length ≤ 100000 ∧ x.2.2.2.2.1.length ≤ 100000 ∧ x.2.2.2.2.2.2.length ≤ 100000) : APure Tryz.prog Γ 18 [.agg (tnA x)] fun v => v = .bool (trB x) := by
  obtain ⟨hx1, hx2, hx3⟩ := hx
  have hle : (x.2.2.2.2.1.map exA).length = x.2.2.2.2.1.length := List.length_map ..
  have hls : (x.2.2.2.2.2.2.map seA).length = x.2.2.2.2.2.2.length := List.length_map ..
  have htr : trB x = (nameB x.2.1 && (nameB x.2.2.1 && (symB (x.1.1, x.2.2.2.1) && decide ((guardO x.2.2.2.2.1 x.2.2.2.2.2.1).bind (setsO x.2.2.2.2.1 x.2.2.2.2.2.2) = some (x.2.2.2.2.1.length : Int))))) := rfl
  have hgo : guardO x.2.2.2.2.1 x.2.2.2.2.2.1 = if x.2.2.2.2.2.1 = -1 then some 0 else if whB x.2.2.2.2.1 0 x.2.2.2.2.2.1 = true then some (x.2.2.2.2.2.1 + 1) else none := rfl
  have hle0 := whB_le (l := x.2.2.2.2.1) (f := 0) (g := x.2.2.2.2.2.1)
  have n1 : nameB x.2.1 = Sc.isName x.2.1.1 := rfl
  have n2 : nameB x.2.2.1 = Sc.isName x.2.2.1.1 := rfl
  generalize hB0 : whB x.2.2.2.2.1 0 x.2.2.2.2.2.1 = B0 at *
  have hwg : IntKind.i64.wrap (x.2.2.2.2.2.1 + 1) = x.2.2.2.2.2.1 + 1 ∨ B0 = false := by
    cases hB1 : B0 with
    | false => exact .inr rfl
    | true => have := hle0 hB1; exact .inl (i64_of rfl (by omega) (by omega))
  refine APure.of_awp Tryz.func18 rfl (Nat.le_of_ble_eq_true (by kernel_rfl)) (by kernel_rfl) ?_
  intro s
  conv => whnf
  intro b hb
  conv => whnf
  repeat' (first
    | (refine ⟨Sub.refl _, ?_⟩)
    | (refine brA_split (fun h => ?_) (fun h => ?_) <;> (try rw [h]) <;> (try simp only [Bool.false_eq_true, Bool.true_eq_false, ↓reduceIte, decide_eq_true_eq, decide_eq_false_iff_not, Bool.not_eq_true', Bool.not_eq_false'] at h) <;> (conv => whnf))
    | (refine getB_of set_bx_same ?_; conv => whnf)
    | (refine ACalls.pure' ?_ (Sc.refName_ok _); rintro _ rfl; conv => whnf)
    | (refine DCall.pure ?_ (Sc.refName_ok _); conv => whnf)
    | (refine ACalls.pure' ?_ (refSym_ok (x.1.1, x.2.2.2.1) hx1); rintro _ rfl; conv => whnf)
    | (refine DCall.pure ?_ (refSym_ok (x.1.1, x.2.2.2.1) hx1); conv => whnf)
    | (refine ACalls.pure' ?_ (hB0 ▸ refWhole_ok _ x.2.2.2.2.1 hx2 0 x.2.2.2.2.2.1 (by omega)); rintro _ rfl; conv => whnf)
    | (refine DCall.pure ?_ (hB0 ▸ refWhole_ok _ x.2.2.2.2.1 hx2 0 x.2.2.2.2.2.1 (by omega)); conv => whnf)
    | (refine getB_same ?_; conv => whnf)
    | (refine AWp.any (by kernel_rfl) (by kernel_rfl) (by kernel_rfl) ?_; conv => whnf)
    | (apply And.intro; (focus (first | omega | rfl | decide | exact Nat.le_of_ble_eq_true rfl | ((repeat' (first | exact all_nil | refine all_cons ?_ ?_ | rfl | fail)); done) | (simp [-List.length_flatMap]; done) | (simp [-List.length_flatMap]; omega) | fail)); conv => whnf)
    | fail)
  all_goals try (refine ⟨(Sub.refl _).set hb _ _, bool_eq ?_⟩; rw [htr, hgo]; simp [*]; done)
  · have hle1 := hle0 (by assumption)
    have e0 : trB x = decide (setsO x.2.2.2.2.1 x.2.2.2.2.2.2 (x.2.2.2.2.2.1 + 1) = some (x.2.2.2.2.1.length : Int)) := by
      rw [htr, hgo]
      simp only [*, Bool.true_and, if_true, if_false, Option.bind_some]
    refine AWp.loopA [3, 4] [35, 36, 37, 38, 39, 42, 43, 44, 45, 46, 47, 48, 49, 50, 51, 52, 53, 54, 55, 56, 57, 58, 59, 60, 61, 62, 63, 2, 64, 65, 66, 67, 68, 69, 70, 40, 41] (fun a : Nat × Int => [.int .i64 a.2, .int .i64 a.1]) (fun a s' => a.1 ≤ x.2.2.2.2.2.2.length ∧ (0 ≤ a.2 ∧ a.2 ≤ x.2.2.2.2.1.length) ∧ s'.bx b = some (51, tnA x) ∧ Ab.Sub s s' ∧ trB x = decide (setsO x.2.2.2.2.1 (x.2.2.2.2.2.2.drop a.1) a.2 = some (x.2.2.2.2.1.length : Int))) (fun a => x.2.2.2.2.2.2.length - a.1) ((0, x.2.2.2.2.2.1 + 1)) (by kernel_rfl) (by (repeat' (first | refine cons_eq ?_ ?_ | refine int64_of ?_ ?_ ?_ | rfl | omega))) ?_ ?_
    · exact ⟨by simp, ⟨by simp only; omega, by simp only; omega⟩, set_bx_same, (Sub.refl _).set hb _ _, by rw [e0]; rfl⟩
    · rintro y ⟨i, f⟩ s1 ⟨hi, hf, h1, hs1, hp⟩
      simp only at hi hf h1 hp
      conv => whnf
      have hga := fun h : i < x.2.2.2.2.2.2.length => map_get (f := seA) (l := x.2.2.2.2.2.2) noSe h
      have hd : i < x.2.2.2.2.2.2.length → x.2.2.2.2.2.2.drop i = x.2.2.2.2.2.2.getD i noSe :: x.2.2.2.2.2.2.drop (i + 1) := fun h => by rw [List.drop_eq_getElem_cons h]; simp [List.getD, h]
      generalize x.2.2.2.2.2.2.getD i noSe = u at *
      have hu : nameB u.1 = Sc.isName u.1.1 := rfl
      have hle1 := whB_le (l := x.2.2.2.2.1) (f := f) (g := u.2)
      repeat' (first
        | (exfalso; omega)
        | (refine ⟨Sub.refl _, ?_⟩)
        | (refine brA_split (fun h => ?_) (fun h => ?_) <;> (try rw [h]) <;> (try simp only [Bool.false_eq_true, Bool.true_eq_false, ↓reduceIte, decide_eq_true_eq, decide_eq_false_iff_not, Bool.not_eq_true', Bool.not_eq_false'] at h) <;> (conv => whnf))
        | (refine getB_of h1 ?_; conv => whnf)
        | (rw [show (x.2.2.2.2.2.2.map seA).getD ((i : Int)).toNat [] = _ from hga (by omega)]; conv => whnf)
        | (refine ACalls.pure' ?_ (Sc.refName_ok _); rintro _ rfl; conv => whnf)
        | (refine DCall.pure ?_ (Sc.refName_ok _); conv => whnf)
        | (refine ACalls.pure' ?_ (refWhole_ok _ x.2.2.2.2.1 hx2 f u.2 hf); rintro _ rfl; conv => whnf)
        | (refine DCall.pure ?_ (refWhole_ok _ x.2.2.2.2.1 hx2 f u.2 hf); conv => whnf)
        | (refine getB_same ?_; conv => whnf)
        | (refine AWp.any (by kernel_rfl) (by kernel_rfl) (by kernel_rfl) ?_; conv => whnf)
        | (apply And.intro; (focus (first | omega | rfl | decide | exact Nat.le_of_ble_eq_true rfl | ((repeat' (first | exact all_nil | refine all_cons ?_ ?_ | rfl | fail)); done) | (simp [-List.length_flatMap]; done) | (simp [-List.length_flatMap]; omega) | fail)); conv => whnf)
        | fail)
      · refine bool_eq ?_
        rw [hp, hd (by omega), setsO, hu, if_neg (by simp [*])]
        rfl
      · refine bool_eq ?_
        rw [hp, hd (by omega), setsO, hu, if_neg (by simp [*])]
        rfl
      · have hle2 := hle1 (by assumption)
        refine ⟨(i + 1, u.2 + 1), by (repeat' (first | refine cons_eq ?_ ?_ | refine int64_of ?_ ?_ ?_ | rfl | omega)), by (repeat (first | exact Same.refl _ _ | refine Same.upd rfl ?_ | refine Same.updL rfl ?_ | refine Same.havoc rfl ?_)), ⟨by simp only; omega, ⟨by simp only; omega, by simp only; omega⟩, h1, hs1, ?_⟩, by simp only; omega⟩
        rw [hp, hd (by omega), setsO, hu, if_pos (by simp [*])]
      · refine bool_eq ?_
        rw [hp, drop_end (by omega), setsO]
        simp [hle]
  · have e0 : trB x = decide (setsO x.2.2.2.2.1 x.2.2.2.2.2.2 0 = some (x.2.2.2.2.1.length : Int)) := by
      rw [htr, hgo]
      simp only [*, Bool.true_and, if_true, if_false, Option.bind_some]
    refine AWp.loopA [3, 4] [35, 36, 37, 38, 39, 42, 43, 44, 45, 46, 47, 48, 49, 50, 51, 52, 53, 54, 55, 56, 57, 58, 59, 60, 61, 62, 63, 2, 64, 65, 66, 67, 68, 69, 70, 40, 41] (fun a : Nat × Int => [.int .i64 a.2, .int .i64 a.1]) (fun a s' => a.1 ≤ x.2.2.2.2.2.2.length ∧ (0 ≤ a.2 ∧ a.2 ≤ x.2.2.2.2.1.length) ∧ s'.bx b = some (51, tnA x) ∧ Ab.Sub s s' ∧ trB x = decide (setsO x.2.2.2.2.1 (x.2.2.2.2.2.2.drop a.1) a.2 = some (x.2.2.2.2.1.length : Int))) (fun a => x.2.2.2.2.2.2.length - a.1) ((0, 0)) (by kernel_rfl) (by (repeat' (first | refine cons_eq ?_ ?_ | refine int64_of ?_ ?_ ?_ | rfl | omega))) ?_ ?_
    · exact ⟨by simp, ⟨by simp only; omega, by simp only; omega⟩, set_bx_same, (Sub.refl _).set hb _ _, by rw [e0]; rfl⟩
    · rintro y ⟨i, f⟩ s1 ⟨hi, hf, h1, hs1, hp⟩
      simp only at hi hf h1 hp
      conv => whnf
      have hga := fun h : i < x.2.2.2.2.2.2.length => map_get (f := seA) (l := x.2.2.2.2.2.2) noSe h
      have hd : i < x.2.2.2.2.2.2.length → x.2.2.2.2.2.2.drop i = x.2.2.2.2.2.2.getD i noSe :: x.2.2.2.2.2.2.drop (i + 1) := fun h => by rw [List.drop_eq_getElem_cons h]; simp [List.getD, h]
      generalize x.2.2.2.2.2.2.getD i noSe = u at *
      have hu : nameB u.1 = Sc.isName u.1.1 := rfl
      have hle1 := whB_le (l := x.2.2.2.2.1) (f := f) (g := u.2)
      repeat' (first
        | (exfalso; omega)
        | (refine ⟨Sub.refl _, ?_⟩)
        | (refine brA_split (fun h => ?_) (fun h => ?_) <;> (try rw [h]) <;> (try simp only [Bool.false_eq_true, Bool.true_eq_false, ↓reduceIte, decide_eq_true_eq, decide_eq_false_iff_not, Bool.not_eq_true', Bool.not_eq_false'] at h) <;> (conv => whnf))
        | (refine getB_of h1 ?_; conv => whnf)
        | (rw [show (x.2.2.2.2.2.2.map seA).getD ((i : Int)).toNat [] = _ from hga (by omega)]; conv => whnf)
        | (refine ACalls.pure' ?_ (Sc.refName_ok _); rintro _ rfl; conv => whnf)
        | (refine DCall.pure ?_ (Sc.refName_ok _); conv => whnf)
        | (refine ACalls.pure' ?_ (refWhole_ok _ x.2.2.2.2.1 hx2 f u.2 hf); rintro _ rfl; conv => whnf)
        | (refine DCall.pure ?_ (refWhole_ok _ x.2.2.2.2.1 hx2 f u.2 hf); conv => whnf)
        | (refine getB_same ?_; conv => whnf)
        | (refine AWp.any (by kernel_rfl) (by kernel_rfl) (by kernel_rfl) ?_; conv => whnf)
        | (apply And.intro; (focus (first | omega | rfl | decide | exact Nat.le_of_ble_eq_true rfl | ((repeat' (first | exact all_nil | refine all_cons ?_ ?_ | rfl | fail)); done) | (simp [-List.length_flatMap]; done) | (simp [-List.length_flatMap]; omega) | fail)); conv => whnf)
        | fail)
      · refine bool_eq ?_
        rw [hp, hd (by omega), setsO, hu, if_neg (by simp [*])]
        rfl
      · refine bool_eq ?_
        rw [hp, hd (by omega), setsO, hu, if_neg (by simp [*])]
        rfl
      · have hle2 := hle1 (by assumption)
        refine ⟨(i + 1, u.2 + 1), by (repeat' (first | refine cons_eq ?_ ?_ | refine int64_of ?_ ?_ ?_ | rfl | omega)), by (repeat (first | exact Same.refl _ _ | refine Same.upd rfl ?_ | refine Same.updL rfl ?_ | refine Same.havoc rfl ?_)), ⟨by simp only; omega, ⟨by simp only; omega, by simp only; omega⟩, h1, hs1, ?_⟩, by simp only; omega⟩
        rw [hp, hd (by omega), setsO, hu, if_pos (by simp [*])]
      · refine bool_eq ?_
        rw [hp, drop_end (by omega), setsO]
        simp [hle]
end Go.Proofs.YtbhemiimdfhjbaaGreatDoor.Tr
