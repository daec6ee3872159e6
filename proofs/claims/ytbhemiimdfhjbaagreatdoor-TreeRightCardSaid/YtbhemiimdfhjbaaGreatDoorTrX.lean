/- Chapter 10: trees without their places: by the document. (Printed by genX.py.) -/
import Derived.Test.YtbhemiimdfhjbaaGreatDoorTrV
import Derived.Test.YtbhemiimdfhjbaaGreatDoorFg4
namespace Go.Proofs.YtbhemiimdfhjbaaGreatDoor.Tr
open Go Go.Ab Go.RowKit
variable {Γ : Nat → AV}
attribute [local irreducible] APure Sto.set Sto.grow
set_option maxRecDepth 10000
set_option maxHeartbeats 1000000

theorem fgE_map2 {α β : Type} {A : β → List AV} {f : α → β} (h : ∀ x, fgL (A (f x)) = A (f x)) : ∀ l : List α, fgE ((l.map f).map A) = (l.map f).map A
  | [] => by rw [List.map_nil, List.map_nil, fgE_nil]
  | x :: l => by rw [List.map_cons, List.map_cons, fgE, h, fgE_map2 h l]
theorem own_other {s s' : Sto} {z : Bool} {t : Nat} {e : TypeId} {k : Nat} (h : Own s s' z t e k) (t1 : Nat) (e1 : TypeId) (k1 : Nat) : Own s (s'.grow 1 t1 e1 k1) z t e k :=
  ⟨h.sub.grow (.inl rfl) t1 e1 k1, h.own.imp id fun x => ⟨x.1, by unfold Sto.grow; exact .inr ⟨x.2.1, .inr rfl⟩, x.2.2⟩⟩
theorem own_beside {s s' : Sto} {z1 : Bool} {t1 t2 t' : Nat} {e1 e2 : TypeId} {k1 k2 : Nat} (h1 : Own s s' z1 t1 e1 k1) (hne : t1 = 1 ∨ t1 ≠ t2) (h2 : t2 = 1 ∨ ∀ e k, ¬ s.lv t2 e k) (hf : t' ≠ t2 → ∀ e' k', ¬ s'.lv t' e' k') :
    Own s (s'.grow t2 t' e2 k2) z1 t1 e1 k1 ∧ (t1 = 1 ∨ t1 ≠ t') := by
  refine ⟨⟨h1.sub.grow h2 t' e2 k2, ?_⟩, ?_⟩
  · rcases h1.own with h | ⟨ha, hb, hc⟩
    · exact .inl h
    · refine .inr ⟨ha, ?_, hc⟩
      unfold Sto.grow
      exact .inr ⟨hb, .inl (hne.resolve_left ha)⟩
  · rcases h1.own with h | ⟨ha, hb, hc⟩
    · exact .inl h.1
    · refine .inr fun he => ?_
      by_cases ht : t' = t2
      · exact hne.resolve_left ha (he.trans ht)
      · exact hf ht _ _ (he ▸ hb)
theorem own_spent {s s' : Sto} {z : Bool} {t : Nat} {e : TypeId} {k : Nat} (h : Own s s' z t e k) : t = 1 ∨ ∀ e k, ¬ s.lv t e k := h.own.imp (·.1) (·.2.2)
theorem fgE_append (a b : List (List AV)) : fgE (a ++ b) = fgE a ++ fgE b := by
  induction a with
  | nil => rw [fgE_nil, List.nil_append, List.nil_append]
  | cons x a ih => rw [List.cons_append, fgE, fgE, ih, List.cons_append]
theorem fgE_one (e : List AV) : fgE [e] = [fgL e] := by unfold fgE; rw [fgE_nil]
theorem fgE_ints (l : List Int) : fgE (intsA .i64 l) = intsA .i64 l := fgE_map (A := fun n => [AV.int .i64 n]) (fun _ => rfl) l
theorem fg_de (t : Nat) (x : Nat × De) : fgL (deA (t, plIdn x.2.1, x.2.2)) = deA (plDe x) := by
  show fgL [_, _, _, .slice t (intsA .i64 x.2.2)] = _
  simp only [fgL, fg, fgE_ints]
  rfl
theorem fg_sy (x : Nat × Sy) : fgL (syA (plSy x)) = syA (plSy x) := by
  show fgL [_, .slice 0 ((x.2.2.1.map plAr).map arA), _, _] = _
  simp only [fgL, fg]
  rw [fgE_map2 (A := arA) (f := plAr) (fun _ => rfl)]
  rfl
theorem fg_tn (t2 t3 : Nat) (x : (Nat × Nat × Nat) × Tn) : fgL (tnA ((0, t2, t3), (plTn x).2)) = tnA (plTn x) := by
  show fgL [_, _, _, _, _, _, _, .slice 0 ((x.2.2.2.1.2.1.map plAr).map arA), _, _, .slice t2 ((x.2.2.2.2.1.map plEx).map exA), _, .slice t3 ((x.2.2.2.2.2.2.map plSe).map seA)] = _
  simp only [fgL, fg]
  rw [fgE_map2 (A := arA) (f := plAr) (fun _ => rfl), fgE_map2 (A := exA) (f := plEx) (fun _ => rfl), fgE_map2 (A := seA) (f := plSe) (fun _ => rfl)]
  rfl
theorem ez (z : Bool) (y : List AV) : (z && [y].isEmpty) = false := by cases z <;> rfl
theorem own_next {s s' : Sto} {z : Bool} {t : Nat} {e : TypeId} {k i : Nat} {y : List AV} (h : Own s s' (z && [y].isEmpty) t e k) : Own s s' (i + 1 == 0) t e k := by
  rw [ez] at h
  rwa [show (i + 1 == 0) = false by simp]
theorem refIdent_ok (x : Idn) : APure Tryz.prog Γ 52 [.agg (idnA x)] fun v => v = .agg (idnA (plIdn x)) := by
  refine APure.of_awp Tryz.func52 rfl (Nat.le_of_ble_eq_true (by kernel_rfl)) (by kernel_rfl) ?_
  intro s
  conv => whnf
  intro b hb
  conv => whnf
  repeat' (first
    | (refine ⟨Sub.refl _, ?_⟩)
    | (refine brA_split (fun h => ?_) (fun h => ?_) <;> (try rw [h]) <;> (try simp only [Bool.false_eq_true, Bool.true_eq_false, ↓reduceIte, decide_eq_true_eq, decide_eq_false_iff_not, Bool.not_eq_true', Bool.not_eq_false'] at h) <;> (conv => whnf))
    | (refine getB_same ?_; conv => whnf)
    | (refine AWp.any (by kernel_rfl) (by kernel_rfl) (by kernel_rfl) ?_; conv => whnf)
    | (apply And.intro; (focus (first | omega | rfl | decide | exact Nat.le_of_ble_eq_true rfl | ((repeat' (first | exact all_nil | refine all_cons ?_ ?_ | rfl | fail)); done) | (simp [-List.length_flatMap]; done) | (simp [-List.length_flatMap]; omega) | fail)); conv => whnf)
    | fail)
  intro c hc
  conv => whnf
  have n_b_c : b ≠ c := ne_of_none (by ((repeat (first | exact set_bx_same | assumption | refine (set_bx_other (by assumption)).trans ?_ | refine grow_bx.trans ?_)); done)) hc
  have n_c_b : c ≠ b := fun h => n_b_c h.symm
  have hc' := (none_set hc).2
  repeat' (first
    | (refine ⟨Sub.refl _, ?_⟩)
    | (refine brA_split (fun h => ?_) (fun h => ?_) <;> (try rw [h]) <;> (try simp only [Bool.false_eq_true, Bool.true_eq_false, ↓reduceIte, decide_eq_true_eq, decide_eq_false_iff_not, Bool.not_eq_true', Bool.not_eq_false'] at h) <;> (conv => whnf))
    | (refine getB_of (by ((repeat (first | exact set_bx_same | assumption | refine (set_bx_other (by assumption)).trans ?_ | refine grow_bx.trans ?_)); done)) ?_; conv => whnf)
    | (refine getB_same ?_; conv => whnf)
    | (refine AWp.any (by kernel_rfl) (by kernel_rfl) (by kernel_rfl) ?_; conv => whnf)
    | (apply And.intro; (focus (first | omega | rfl | decide | exact Nat.le_of_ble_eq_true rfl | ((repeat' (first | exact all_nil | refine all_cons ?_ ?_ | rfl | fail)); done) | (simp [-List.length_flatMap]; done) | (simp [-List.length_flatMap]; omega) | fail)); conv => whnf)
    | fail)
  refine ⟨by (repeat (first | exact Sub.refl _ | refine Sub.set ?_ hb _ _ | refine Sub.set ?_ hc' _ _)), rfl⟩
theorem refBare_ok (x : Nat × Sy) (hx : x.2.2.1.length ≤ 100000) : APure Tryz.prog Γ 53 [.agg (syA x)] fun v => v = .agg (syA (plSy x)) := by
  have hlx : (x.2.2.1.map arA).length = x.2.2.1.length := List.length_map ..
  refine APure.fgt fun s => ?_
  refine ACalls.of_awp Tryz.func53 rfl (Nat.le_of_ble_eq_true (by kernel_rfl)) (awp_ok _ (by kernel_rfl) ?_)
  conv => whnf
  intro b hb
  conv => whnf
  intro b2 hb2
  have n_b_b2 : b ≠ b2 := ne_of_none (by ((repeat (first | exact set_bx_same | assumption | refine (set_bx_other (by assumption)).trans ?_ | refine grow_bx.trans ?_)); done)) hb2
  have n_b2_b : b2 ≠ b := fun h => n_b_b2 h.symm
  conv => whnf
  repeat' (first
    | (refine ⟨Sub.refl _, ?_⟩)
    | (refine brA_split (fun h => ?_) (fun h => ?_) <;> (try rw [h]) <;> (try simp only [Bool.false_eq_true, Bool.true_eq_false, ↓reduceIte, decide_eq_true_eq, decide_eq_false_iff_not, Bool.not_eq_true', Bool.not_eq_false'] at h) <;> (conv => whnf))
    | (refine getB_of (by ((repeat (first | exact set_bx_same | assumption | refine (set_bx_other (by assumption)).trans ?_ | refine grow_bx.trans ?_)); done)) ?_; conv => whnf)
    | (refine getB_same ?_; conv => whnf)
    | (refine AWp.any (by kernel_rfl) (by kernel_rfl) (by kernel_rfl) ?_; conv => whnf)
    | (apply And.intro; (focus (first | omega | rfl | decide | exact Nat.le_of_ble_eq_true rfl | ((repeat' (first | exact all_nil | refine all_cons ?_ ?_ | rfl | fail)); done) | (simp [-List.length_flatMap]; done) | (simp [-List.length_flatMap]; omega) | fail)); conv => whnf)
    | fail)
  intro bo hbo
  have n_b_bo : b ≠ bo := ne_of_none (by ((repeat (first | exact set_bx_same | assumption | refine (set_bx_other (by assumption)).trans ?_ | refine grow_bx.trans ?_)); done)) hbo
  have n_bo_b : bo ≠ b := fun h => n_b_bo h.symm
  have n_b2_bo : b2 ≠ bo := ne_of_none (by ((repeat (first | exact set_bx_same | assumption | refine (set_bx_other (by assumption)).trans ?_ | refine grow_bx.trans ?_)); done)) hbo
  have n_bo_b2 : bo ≠ b2 := fun h => n_b2_bo h.symm
  conv => whnf
  repeat' (first
    | (refine ⟨Sub.refl _, ?_⟩)
    | (refine brA_split (fun h => ?_) (fun h => ?_) <;> (try rw [h]) <;> (try simp only [Bool.false_eq_true, Bool.true_eq_false, ↓reduceIte, decide_eq_true_eq, decide_eq_false_iff_not, Bool.not_eq_true', Bool.not_eq_false'] at h) <;> (conv => whnf))
    | (refine getB_of (by ((repeat (first | exact set_bx_same | assumption | refine (set_bx_other (by assumption)).trans ?_ | refine grow_bx.trans ?_)); done)) ?_; conv => whnf)
    | (refine getB_same ?_; conv => whnf)
    | (refine AWp.any (by kernel_rfl) (by kernel_rfl) (by kernel_rfl) ?_; conv => whnf)
    | (apply And.intro; (focus (first | omega | rfl | decide | exact Nat.le_of_ble_eq_true rfl | ((repeat' (first | exact all_nil | refine all_cons ?_ ?_ | rfl | fail)); done) | (simp [-List.length_flatMap]; done) | (simp [-List.length_flatMap]; omega) | fail)); conv => whnf)
    | fail)
  have g2 := (none_set hb2).2
  have g3 : s.bx bo = none := by (have g := hbo; (repeat (replace g := (none_set g).2)); exact g)
  refine AWp.loopA [4] [8, 9, 10, 11, 12, 15, 16, 17, 18, 19, 20, 21, 22, 23, 24, 25, 26, 27, 28, 29, 30, 31, 32, 33, 34, 35, 36, 37, 38, 13, 14] (fun a : Nat × Nat => [.int .i64 a.1]) (fun a s' => a.1 ≤ x.2.2.1.length ∧ s'.bx b = some (47, syA x) ∧ s'.bx b2 = some (47, syA (1, [], [], 0, 0)) ∧ s'.bx bo = some (47, [.str x.2.1, .slice a.2 (((x.2.2.1.take a.1).map plAr).map arA), .int .i64 0, .int .i64 0]) ∧ Own s s' (a.1 == 0) a.2 102 8) (fun a => x.2.2.1.length - a.1) ((0, 1)) (by kernel_rfl) (by (repeat' (first | refine cons_eq ?_ ?_ | refine int64_of ?_ ?_ ?_ | rfl | omega))) ?_ ?_
  · exact ⟨by simp, (by ((repeat (first | exact set_bx_same | assumption | refine (set_bx_other (by assumption)).trans ?_ | refine grow_bx.trans ?_)); done)), (by ((repeat (first | exact set_bx_same | assumption | refine (set_bx_other (by assumption)).trans ?_ | refine grow_bx.trans ?_)); done)), (by ((repeat (first | exact set_bx_same | assumption | refine (set_bx_other (by assumption)).trans ?_ | refine grow_bx.trans ?_)); done)), Own.start (by (repeat (first | exact Sub.refl _ | refine Sub.set ?_ (by assumption) _ _))) _ _⟩
  · rintro y ⟨i, t1⟩ s1 ⟨hi, h1, h2, h3, ho⟩
    simp only at hi h3 ho
    conv => whnf
    have hga := fun h : i < x.2.2.1.length => map_get (f := arA) (l := x.2.2.1) noAr h
    have htk := fun h : i < x.2.2.1.length => take_map (f := plAr) (A := arA) noAr h
    generalize x.2.2.1.getD i noAr = u at *
    repeat' (first
      | (refine ⟨Sub.refl _, ?_⟩)
      | (refine brA_split (fun h => ?_) (fun h => ?_) <;> (try rw [h]) <;> (try simp only [Bool.false_eq_true, Bool.true_eq_false, ↓reduceIte, decide_eq_true_eq, decide_eq_false_iff_not, Bool.not_eq_true', Bool.not_eq_false'] at h) <;> (conv => whnf))
      | (refine getB_of (by ((repeat (first | exact set_bx_same | assumption | refine (set_bx_other (by assumption)).trans ?_ | refine grow_bx.trans ?_)); done)) ?_; conv => whnf)
      | (rw [show (x.2.2.1.map arA).getD ((i : Int)).toNat [] = _ from hga (by omega)]; conv => whnf)
      | (refine getB_same ?_; conv => whnf)
      | (refine AWp.any (by kernel_rfl) (by kernel_rfl) (by kernel_rfl) ?_; conv => whnf)
      | (apply And.intro; (focus (first | omega | rfl | decide | exact Nat.le_of_ble_eq_true rfl | ((repeat' (first | exact all_nil | refine all_cons ?_ ?_ | rfl | fail)); done) | (simp [-List.length_flatMap]; done) | (simp [-List.length_flatMap]; omega) | fail)); conv => whnf)
      | fail)
    · have hlt : i < x.2.2.1.length := by omega
      refine ⟨ho.may, fun c hc => ?_, all_cons ⟨rfl, rfl⟩ all_nil, ?_, ?_⟩
      · obtain ⟨z, _, rfl⟩ := List.mem_map.1 hc; rfl
      · show ((((x.2.2.1.take i).map plAr).map arA).length + 1) * (_ + 1) ≤ _
        rw [List.length_map, List.length_map, List.length_take, Nat.min_eq_left (by omega)]
        exact Nat.le_trans (Nat.mul_le_mul_right _ (show i + 1 ≤ 100001 by omega)) (Nat.le_of_ble_eq_true (by kernel_rfl))
      intro t' k1 k2
      have k3 := ho.grow k1 k2
      have f1 := (grow_bx (s := s1) (t := t1) (t' := t') (e := 102) (k := 8) (b := b)).trans h1
      have f2 := (grow_bx (s := s1) (t := t1) (t' := t') (e := 102) (k := 8) (b := b2)).trans h2
      have f3 := (grow_bx (s := s1) (t := t1) (t' := t') (e := 102) (k := 8) (b := bo)).trans h3
      repeat' (first
        | (refine ⟨Sub.refl _, ?_⟩)
        | (refine brA_split (fun h => ?_) (fun h => ?_) <;> (try rw [h]) <;> (try simp only [Bool.false_eq_true, Bool.true_eq_false, ↓reduceIte, decide_eq_true_eq, decide_eq_false_iff_not, Bool.not_eq_true', Bool.not_eq_false'] at h) <;> (conv => whnf))
        | (refine getB_of (by ((repeat (first | exact set_bx_same | assumption | refine (set_bx_other (by assumption)).trans ?_ | refine grow_bx.trans ?_)); done)) ?_; conv => whnf)
        | (refine getB_same ?_; conv => whnf)
        | (refine AWp.any (by kernel_rfl) (by kernel_rfl) (by kernel_rfl) ?_; conv => whnf)
        | (apply And.intro; (focus (first | omega | rfl | decide | exact Nat.le_of_ble_eq_true rfl | ((repeat' (first | exact all_nil | refine all_cons ?_ ?_ | rfl | fail)); done) | (simp [-List.length_flatMap]; done) | (simp [-List.length_flatMap]; omega) | fail)); conv => whnf)
        | fail)
      refine ⟨(i + 1, t'), by (repeat' (first | refine cons_eq ?_ ?_ | refine int64_of ?_ ?_ ?_ | rfl | omega)), by (repeat (first | exact Same.refl _ _ | refine Same.upd rfl ?_ | refine Same.updL rfl ?_ | refine Same.havoc rfl ?_)), ⟨by simp only; omega, (by ((repeat (first | exact set_bx_same | assumption | refine (set_bx_other (by assumption)).trans ?_ | refine grow_bx.trans ?_)); done)), (by ((repeat (first | exact set_bx_same | assumption | refine (set_bx_other (by assumption)).trans ?_ | refine grow_bx.trans ?_)); done)), ?_, own_next (k3.set g3)⟩, by simp only; omega⟩
      rw [set_bx_same]
      show some (_, ([.str x.2.1, .slice t' _, .int .i64 0, .int .i64 0] : List AV)) = _
      rw [show (i + 1, t').1 = i + 1 from rfl, htk hlt]
      rfl
    · have ht : x.2.2.1.take i = x.2.2.1 := List.take_of_length_le (by omega)
      repeat' (first
        | (refine ⟨Sub.refl _, ?_⟩)
        | (refine brA_split (fun h => ?_) (fun h => ?_) <;> (try rw [h]) <;> (try simp only [Bool.false_eq_true, Bool.true_eq_false, ↓reduceIte, decide_eq_true_eq, decide_eq_false_iff_not, Bool.not_eq_true', Bool.not_eq_false'] at h) <;> (conv => whnf))
        | (refine getB_of (by ((repeat (first | exact set_bx_same | assumption | refine (set_bx_other (by assumption)).trans ?_ | refine grow_bx.trans ?_)); done)) ?_; conv => whnf)
        | (refine getB_same ?_; conv => whnf)
        | (refine AWp.any (by kernel_rfl) (by kernel_rfl) (by kernel_rfl) ?_; conv => whnf)
        | (apply And.intro; (focus (first | omega | rfl | decide | exact Nat.le_of_ble_eq_true rfl | ((repeat' (first | exact all_nil | refine all_cons ?_ ?_ | rfl | fail)); done) | (simp [-List.length_flatMap]; done) | (simp [-List.length_flatMap]; omega) | fail)); conv => whnf)
        | fail)
      refine ⟨_, Sub.refl _, ?_, ho.sub.set g2 _ _⟩
      rw [ht]
      show fg (.agg [_, _, _, _]) = .agg [_, .slice 0 ((x.2.2.1.map plAr).map arA), _, _]
      simp only [fg, fgL]
      rw [fgE_map2 (A := arA) (f := plAr) (fun _ => rfl)]
      rfl

set_option maxHeartbeats 16000000 in
theorem refPlain_ok (tk : Nat → Nat) (x : Tr0) (hx : Small x) : APure Tryz.prog Γ 10 [.agg (trA tk x)] fun v => v = .agg (trA (fun _ => 0) (plTr x)) := by
  obtain ⟨⟨m1, m2, m3, m4, m5, m6⟩, m7, m8, m9⟩ := hx
  have l_deA : (x.2.1.map deA).length = x.2.1.length := List.length_map ..
  have l_quA : (x.2.2.1.map quA).length = x.2.2.1.length := List.length_map ..
  have l_frA : (x.2.2.2.1.map frA).length = x.2.2.2.1.length := List.length_map ..
  have l_stA : (x.2.2.2.2.1.map stA).length = x.2.2.2.2.1.length := List.length_map ..
  have l_syA : (x.2.2.2.2.2.2.1.map syA).length = x.2.2.2.2.2.2.1.length := List.length_map ..
  have l_tnA : (x.2.2.2.2.2.2.2.map tnA).length = x.2.2.2.2.2.2.2.length := List.length_map ..
  refine APure.fgt fun s => ?_
  refine ACalls.of_awp Tryz.func10 rfl (Nat.le_of_ble_eq_true (by kernel_rfl)) (awp_ok _ (by kernel_rfl) ?_)
  conv => whnf
  intro b hb
  conv => whnf
  intro b2 hb2
  have n_b_b2 : b ≠ b2 := ne_of_none (by ((repeat (first | exact set_bx_same | assumption | refine (set_bx_other (by assumption)).trans ?_ | refine grow_bx.trans ?_)); done)) hb2
  have n_b2_b : b2 ≠ b := fun h => n_b_b2 h.symm
  conv => whnf
  repeat' (first
    | (refine ⟨Sub.refl _, ?_⟩)
    | (refine brA_split (fun h => ?_) (fun h => ?_) <;> (try rw [h]) <;> (try simp only [Bool.false_eq_true, Bool.true_eq_false, ↓reduceIte, decide_eq_true_eq, decide_eq_false_iff_not, Bool.not_eq_true', Bool.not_eq_false'] at h) <;> (conv => whnf))
    | (refine getB_of (by ((repeat (first | exact set_bx_same | assumption | refine (set_bx_other (by assumption)).trans ?_ | refine grow_bx.trans ?_)); done)) ?_; conv => whnf)
    | (refine ACalls.pure' ?_ (refIdent_ok x.1); rintro _ rfl; conv => whnf)
    | (refine DCall.pure ?_ (refIdent_ok x.1); conv => whnf)
    | (refine ACalls.pure' ?_ (refIdent_ok x.2.2.2.2.2.1); rintro _ rfl; conv => whnf)
    | (refine DCall.pure ?_ (refIdent_ok x.2.2.2.2.2.1); conv => whnf)
    | (refine getB_same ?_; conv => whnf)
    | (refine AWp.any (by kernel_rfl) (by kernel_rfl) (by kernel_rfl) ?_; conv => whnf)
    | (apply And.intro; (focus (first | omega | rfl | decide | exact Nat.le_of_ble_eq_true rfl | ((repeat' (first | exact all_nil | refine all_cons ?_ ?_ | rfl | fail)); done) | (simp [-List.length_flatMap]; done) | (simp [-List.length_flatMap]; omega) | fail)); conv => whnf)
    | fail)
  intro bo hbo
  have n_b_bo : b ≠ bo := ne_of_none (by ((repeat (first | exact set_bx_same | assumption | refine (set_bx_other (by assumption)).trans ?_ | refine grow_bx.trans ?_)); done)) hbo
  have n_bo_b : bo ≠ b := fun h => n_b_bo h.symm
  have n_b2_bo : b2 ≠ bo := ne_of_none (by ((repeat (first | exact set_bx_same | assumption | refine (set_bx_other (by assumption)).trans ?_ | refine grow_bx.trans ?_)); done)) hbo
  have n_bo_b2 : bo ≠ b2 := fun h => n_b2_bo h.symm
  conv => whnf
  repeat' (first
    | (refine ⟨Sub.refl _, ?_⟩)
    | (refine brA_split (fun h => ?_) (fun h => ?_) <;> (try rw [h]) <;> (try simp only [Bool.false_eq_true, Bool.true_eq_false, ↓reduceIte, decide_eq_true_eq, decide_eq_false_iff_not, Bool.not_eq_true', Bool.not_eq_false'] at h) <;> (conv => whnf))
    | (refine getB_of (by ((repeat (first | exact set_bx_same | assumption | refine (set_bx_other (by assumption)).trans ?_ | refine grow_bx.trans ?_)); done)) ?_; conv => whnf)
    | (refine getB_same ?_; conv => whnf)
    | (refine AWp.any (by kernel_rfl) (by kernel_rfl) (by kernel_rfl) ?_; conv => whnf)
    | (apply And.intro; (focus (first | omega | rfl | decide | exact Nat.le_of_ble_eq_true rfl | ((repeat' (first | exact all_nil | refine all_cons ?_ ?_ | rfl | fail)); done) | (simp [-List.length_flatMap]; done) | (simp [-List.length_flatMap]; omega) | fail)); conv => whnf)
    | fail)
  have g2 := (none_set hb2).2
  have g3 : s.bx bo = none := by (have g := hbo; (repeat (replace g := (none_set g).2)); exact g)
  refine AWp.loopW [4] [24, 25, 26, 27, 28, 31, 32, 33, 34, 35, 36, 37, 38, 39, 40, 41, 42, 43, 44, 45, 46, 47, 48, 49, 50, 51, 29, 30] (fun a : Nat × Nat => [.int .i64 a.1]) (fun a s' => a.1 ≤ x.2.1.length ∧ s'.bx b = some (31, trA tk x) ∧ s'.bx b2 = some (31, trA (fun _ => 1) (noIdn, [], [], [], [], noIdn, [], [])) ∧ s'.bx bo = some (31, [.str x.1.1, .int .i64 0, .int .i64 0, .slice a.2 (((x.2.1.take a.1).map plDe).map deA), .slice 1 [], .slice 1 [], .slice 1 [], .str x.2.2.2.2.2.1.1, .int .i64 0, .int .i64 0, .slice 1 [], .slice 1 []]) ∧ Own s s' (a.1 == 0) a.2 39 4) (fun a => x.2.1.length - a.1) ((0, 1)) _ (by kernel_rfl) (by decide) (by (repeat' (first | exact LeS.nil | refine LeS.cons ?_ ?_ | exact Le.refl _ | (refine Le.of_eq ?_; first | exact rfl | (refine int64_of ?_ ?_ ?_ <;> omega) | fail) | fail))) (Weak.refl _) ?_ ?_
  · exact ⟨by simp, (by ((repeat (first | exact set_bx_same | assumption | refine (set_bx_other (by assumption)).trans ?_ | refine grow_bx.trans ?_)); done)), (by ((repeat (first | exact set_bx_same | assumption | refine (set_bx_other (by assumption)).trans ?_ | refine grow_bx.trans ?_)); done)), (by ((repeat (first | exact set_bx_same | assumption | refine (set_bx_other (by assumption)).trans ?_ | refine grow_bx.trans ?_)); done)), Own.start (by (repeat (first | exact Sub.refl _ | assumption | refine Sub.set ?_ (by assumption) _ _))) _ _⟩
  · rintro y ⟨i, t1⟩ s1 ⟨hi, h1, h2, h3, ho⟩
    simp only at hi h3 ho
    conv => whnf
    have hga := fun h : i < x.2.1.length => map_get (f := deA) (l := x.2.1) noDe h
    have htk := fun h : i < x.2.1.length => take_map (f := plDe) (A := deA) noDe h
    have hmm := fun h : i < x.2.1.length => m7 _ (getD_mem noDe h)
    generalize x.2.1.getD i noDe = u at *
    by_cases hlt : i < x.2.1.length
    · repeat' (first
        | (exfalso; omega)
        | (refine ⟨Sub.refl _, ?_⟩)
        | (refine brA_split (fun h => ?_) (fun h => ?_) <;> (try rw [h]) <;> (try simp only [Bool.false_eq_true, Bool.true_eq_false, ↓reduceIte, decide_eq_true_eq, decide_eq_false_iff_not, Bool.not_eq_true', Bool.not_eq_false'] at h) <;> (conv => whnf))
        | (refine getB_of (by ((repeat (first | exact set_bx_same | assumption | refine (set_bx_other (by assumption)).trans ?_ | refine grow_bx.trans ?_)); done)) ?_; conv => whnf)
        | (rw [show (x.2.1.map deA).getD ((i : Int)).toNat [] = _ from hga (by omega)]; conv => whnf)
        | (refine ACalls.pure' ?_ (refIdent_ok u.2.1); rintro _ rfl; conv => whnf)
        | (refine DCall.pure ?_ (refIdent_ok u.2.1); conv => whnf)
        | (refine getB_same ?_; conv => whnf)
        | (refine AWp.any (by kernel_rfl) (by kernel_rfl) (by kernel_rfl) ?_; conv => whnf)
        | (apply And.intro; (focus (first | omega | rfl | decide | exact Nat.le_of_ble_eq_true rfl | ((repeat' (first | exact all_nil | refine all_cons ?_ ?_ | rfl | fail)); done) | (simp [-List.length_flatMap]; done) | (simp [-List.length_flatMap]; omega) | fail)); conv => whnf)
        | fail)
      refine ⟨fun c hc => ?_, ?_, ?_⟩
      · obtain ⟨z, _, rfl⟩ := List.mem_map.1 hc; exact ⟨rfl, rfl⟩
      · have := hmm hlt
        show (0 + (u.2.2.map fun n => [AV.int .i64 n]).length) * (_ + 1) ≤ _
        rw [List.length_map]
        exact Nat.le_trans (Nat.mul_le_mul_right _ (show 0 + u.2.2.length ≤ 100001 by omega)) (Nat.le_of_ble_eq_true (by kernel_rfl))
      intro t2 j1 j2
      have ho := own_other ho t2 3 1
      have h1 := (grow_bx (s := s1) (t := 1) (t' := t2) (e := 3) (k := 1) (b := b)).trans h1
      have h2 := (grow_bx (s := s1) (t := 1) (t' := t2) (e := 3) (k := 1) (b := b2)).trans h2
      have h3 := (grow_bx (s := s1) (t := 1) (t' := t2) (e := 3) (k := 1) (b := bo)).trans h3
      repeat' (first
        | (refine ⟨Sub.refl _, ?_⟩)
        | (refine brA_split (fun h => ?_) (fun h => ?_) <;> (try rw [h]) <;> (try simp only [Bool.false_eq_true, Bool.true_eq_false, ↓reduceIte, decide_eq_true_eq, decide_eq_false_iff_not, Bool.not_eq_true', Bool.not_eq_false'] at h) <;> (conv => whnf))
        | (refine getB_of (by ((repeat (first | exact set_bx_same | assumption | refine (set_bx_other (by assumption)).trans ?_ | refine grow_bx.trans ?_)); done)) ?_; conv => whnf)
        | (refine getB_same ?_; conv => whnf)
        | (refine AWp.any (by kernel_rfl) (by kernel_rfl) (by kernel_rfl) ?_; conv => whnf)
        | (apply And.intro; (focus (first | omega | rfl | decide | exact Nat.le_of_ble_eq_true rfl | ((repeat' (first | exact all_nil | refine all_cons ?_ ?_ | rfl | fail)); done) | (simp [-List.length_flatMap]; done) | (simp [-List.length_flatMap]; omega) | fail)); conv => whnf)
        | fail)
      refine ⟨(ho).may, fun c hc => ?_, all_cons ⟨rfl, rfl⟩ all_nil, ?_, ?_⟩
      · obtain ⟨z, _, rfl⟩ := List.mem_map.1 hc; rfl
      · show (((((x.2.1.take i).map plDe).map deA).length) + 1) * (_ + 1) ≤ _
        rw [List.length_map, List.length_map, List.length_take, Nat.min_eq_left (by omega)]
        exact Nat.le_trans (Nat.mul_le_mul_right _ (show i + 1 ≤ 100001 by omega)) (Nat.le_of_ble_eq_true (by kernel_rfl))
      intro t' k1 k2
      have k3 := (ho).grow k1 k2
      conv => whnf
      repeat' (first
        | (refine ⟨Sub.refl _, ?_⟩)
        | (refine brA_split (fun h => ?_) (fun h => ?_) <;> (try rw [h]) <;> (try simp only [Bool.false_eq_true, Bool.true_eq_false, ↓reduceIte, decide_eq_true_eq, decide_eq_false_iff_not, Bool.not_eq_true', Bool.not_eq_false'] at h) <;> (conv => whnf))
        | (refine getB_grow ?_; conv => whnf)
        | (refine getB_of (by ((repeat (first | exact set_bx_same | assumption | refine (set_bx_other (by assumption)).trans ?_ | refine grow_bx.trans ?_)); done)) ?_; conv => whnf)
        | (refine getB_same ?_; conv => whnf)
        | (refine AWp.any (by kernel_rfl) (by kernel_rfl) (by kernel_rfl) ?_; conv => whnf)
        | (apply And.intro; (focus (first | omega | rfl | decide | exact Nat.le_of_ble_eq_true rfl | ((repeat' (first | exact all_nil | refine all_cons ?_ ?_ | rfl | fail)); done) | (simp [-List.length_flatMap]; done) | (simp [-List.length_flatMap]; omega) | fail)); conv => whnf)
        | fail)
      refine ⟨(i + 1, t'), (Sto.set _ bo 31 [.str x.1.1, .int .i64 0, .int .i64 0, .slice t' (((x.2.1.take (i + 1)).map plDe).map deA), .slice 1 [], .slice 1 [], .slice 1 [], .str x.2.2.2.2.2.1.1, .int .i64 0, .int .i64 0, .slice 1 [], .slice 1 []]), by (repeat' (first | exact LeS.nil | refine LeS.cons ?_ ?_ | exact Le.refl _ | (refine Le.of_eq ?_; first | exact rfl | (refine int64_of ?_ ?_ ?_ <;> omega) | fail) | fail)), by (repeat (first | exact Same.refl _ _ | refine Same.upd rfl ?_ | refine Same.updL rfl ?_ | refine Same.havoc rfl ?_)), Weak.box set_bx_same ?_, ⟨by simp only; omega, (by ((repeat (first | exact set_bx_same | assumption | refine (set_bx_other (by assumption)).trans ?_ | refine grow_bx.trans ?_)); done)), (by ((repeat (first | exact set_bx_same | assumption | refine (set_bx_other (by assumption)).trans ?_ | refine grow_bx.trans ?_)); done)), set_bx_same, own_next (Own.set (k3.set g3) g3)⟩, by simp only; omega⟩
      refine LeL.cons (Le.refl _) (LeL.cons (Le.refl _) (LeL.cons (Le.refl _) (LeL.cons (Le.inner' ?_) (LeL.refl _))))
      rw [htk hlt]
      show fgE ((((x.2.1.take i).map plDe).map deA) ++ [deA (t2, plIdn u.2.1, u.2.2)]) = _
      rw [fgE_append, fgE_one, fg_de, fgE_map2 (A := deA) (f := plDe) (fun z => fg_de 0 z)]
    · have ht : x.2.1.take i = x.2.1 := List.take_of_length_le (by omega)
      repeat' (first
        | (exfalso; omega)
        | (refine ⟨Sub.refl _, ?_⟩)
        | (refine brA_split (fun h => ?_) (fun h => ?_) <;> (try rw [h]) <;> (try simp only [Bool.false_eq_true, Bool.true_eq_false, ↓reduceIte, decide_eq_true_eq, decide_eq_false_iff_not, Bool.not_eq_true', Bool.not_eq_false'] at h) <;> (conv => whnf))
        | (refine getB_of (by ((repeat (first | exact set_bx_same | assumption | refine (set_bx_other (by assumption)).trans ?_ | refine grow_bx.trans ?_)); done)) ?_; conv => whnf)
        | (refine getB_same ?_; conv => whnf)
        | (refine AWp.any (by kernel_rfl) (by kernel_rfl) (by kernel_rfl) ?_; conv => whnf)
        | (apply And.intro; (focus (first | omega | rfl | decide | exact Nat.le_of_ble_eq_true rfl | ((repeat' (first | exact all_nil | refine all_cons ?_ ?_ | rfl | fail)); done) | (simp [-List.length_flatMap]; done) | (simp [-List.length_flatMap]; omega) | fail)); conv => whnf)
        | fail)
      rw [ht] at h3
      refine AWp.weak (Weak.box (cs' := [.str x.1.1, .int .i64 0, .int .i64 0, .slice 0 ((x.2.1.map plDe).map deA), .slice 1 [], .slice 1 [], .slice 1 [], .str x.2.2.2.2.2.1.1, .int .i64 0, .int .i64 0, .slice 1 [], .slice 1 []]) h3 (by (repeat' (first | exact LeL.nil | refine LeL.cons ?_ ?_ | exact Le.refl _ | exact Le.slice0 _ _ | fail)))) ?_
      have hs2 := (ho.sub.set g3 31 ([.str x.1.1, .int .i64 0, .int .i64 0, .slice 0 ((x.2.1.map plDe).map deA), .slice 1 [], .slice 1 [], .slice 1 [], .str x.2.2.2.2.2.1.1, .int .i64 0, .int .i64 0, .slice 1 [], .slice 1 []]))
      refine AWp.loopA [5] [52, 53, 54, 55, 56, 59, 60, 61, 62, 63, 6, 64, 65, 66, 67, 68, 69, 70, 71, 72, 73, 74, 75, 76, 57, 58] (fun a : Nat × Nat => [.int .i64 a.1]) (fun a s' => a.1 ≤ x.2.2.1.length ∧ s'.bx b = some (31, trA tk x) ∧ s'.bx b2 = some (31, trA (fun _ => 1) (noIdn, [], [], [], [], noIdn, [], [])) ∧ s'.bx bo = some (31, [.str x.1.1, .int .i64 0, .int .i64 0, .slice 0 ((x.2.1.map plDe).map deA), .slice a.2 (((x.2.2.1.take a.1).map plQu).map quA), .slice 1 [], .slice 1 [], .str x.2.2.2.2.2.1.1, .int .i64 0, .int .i64 0, .slice 1 [], .slice 1 []]) ∧ Own s s' (a.1 == 0) a.2 57 5) (fun a => x.2.2.1.length - a.1) ((0, 1)) (by kernel_rfl) (by (repeat' (first | refine cons_eq ?_ ?_ | refine int64_of ?_ ?_ ?_ | rfl | omega))) ?_ ?_
      · exact ⟨by simp, (by ((repeat (first | exact set_bx_same | assumption | refine (set_bx_other (by assumption)).trans ?_ | refine grow_bx.trans ?_)); done)), (by ((repeat (first | exact set_bx_same | assumption | refine (set_bx_other (by assumption)).trans ?_ | refine grow_bx.trans ?_)); done)), (by ((repeat (first | exact set_bx_same | assumption | refine (set_bx_other (by assumption)).trans ?_ | refine grow_bx.trans ?_)); done)), Own.start (by (repeat (first | exact Sub.refl _ | assumption | refine Sub.set ?_ (by assumption) _ _))) _ _⟩
      · clear hga htk
        rintro y ⟨i, t1⟩ s1 ⟨hi, h1, h2, h3, ho⟩
        simp only at hi h3 ho
        conv => whnf
        have hga := fun h : i < x.2.2.1.length => map_get (f := quA) (l := x.2.2.1) noQu h
        have htk := fun h : i < x.2.2.1.length => take_map (f := plQu) (A := quA) noQu h
        generalize x.2.2.1.getD i noQu = u at *
        by_cases hlt : i < x.2.2.1.length
        · repeat' (first
            | (exfalso; omega)
            | (refine ⟨Sub.refl _, ?_⟩)
            | (refine brA_split (fun h => ?_) (fun h => ?_) <;> (try rw [h]) <;> (try simp only [Bool.false_eq_true, Bool.true_eq_false, ↓reduceIte, decide_eq_true_eq, decide_eq_false_iff_not, Bool.not_eq_true', Bool.not_eq_false'] at h) <;> (conv => whnf))
            | (refine getB_of (by ((repeat (first | exact set_bx_same | assumption | refine (set_bx_other (by assumption)).trans ?_ | refine grow_bx.trans ?_)); done)) ?_; conv => whnf)
            | (rw [show (x.2.2.1.map quA).getD ((i : Int)).toNat [] = _ from hga (by omega)]; conv => whnf)
            | (refine ACalls.pure' ?_ (refIdent_ok u.2.1); rintro _ rfl; conv => whnf)
            | (refine DCall.pure ?_ (refIdent_ok u.2.1); conv => whnf)
            | (refine getB_same ?_; conv => whnf)
            | (refine AWp.any (by kernel_rfl) (by kernel_rfl) (by kernel_rfl) ?_; conv => whnf)
            | (apply And.intro; (focus (first | omega | rfl | decide | exact Nat.le_of_ble_eq_true rfl | ((repeat' (first | exact all_nil | refine all_cons ?_ ?_ | rfl | fail)); done) | (simp [-List.length_flatMap]; done) | (simp [-List.length_flatMap]; omega) | fail)); conv => whnf)
            | fail)
          intro c hc
          have n_b_c : b ≠ c := ne_of_none (by ((repeat (first | exact set_bx_same | assumption | refine (set_bx_other (by assumption)).trans ?_ | refine grow_bx.trans ?_)); done)) hc
          have n_c_b : c ≠ b := fun h => n_b_c h.symm
          have n_b2_c : b2 ≠ c := ne_of_none (by ((repeat (first | exact set_bx_same | assumption | refine (set_bx_other (by assumption)).trans ?_ | refine grow_bx.trans ?_)); done)) hc
          have n_c_b2 : c ≠ b2 := fun h => n_b2_c h.symm
          have n_bo_c : bo ≠ c := ne_of_none (by ((repeat (first | exact set_bx_same | assumption | refine (set_bx_other (by assumption)).trans ?_ | refine grow_bx.trans ?_)); done)) hc
          have n_c_bo : c ≠ bo := fun h => n_bo_c h.symm
          conv => whnf
          have gc := ho.sub.none hc
          repeat' (first
            | (refine ⟨Sub.refl _, ?_⟩)
            | (refine brA_split (fun h => ?_) (fun h => ?_) <;> (try rw [h]) <;> (try simp only [Bool.false_eq_true, Bool.true_eq_false, ↓reduceIte, decide_eq_true_eq, decide_eq_false_iff_not, Bool.not_eq_true', Bool.not_eq_false'] at h) <;> (conv => whnf))
            | (refine getB_of (by ((repeat (first | exact set_bx_same | assumption | refine (set_bx_other (by assumption)).trans ?_ | refine grow_bx.trans ?_)); done)) ?_; conv => whnf)
            | (refine ACalls.pure' ?_ (refIdent_ok u.2.1); rintro _ rfl; conv => whnf)
            | (refine DCall.pure ?_ (refIdent_ok u.2.1); conv => whnf)
            | (refine getB_same ?_; conv => whnf)
            | (refine AWp.any (by kernel_rfl) (by kernel_rfl) (by kernel_rfl) ?_; conv => whnf)
            | (apply And.intro; (focus (first | omega | rfl | decide | exact Nat.le_of_ble_eq_true rfl | ((repeat' (first | exact all_nil | refine all_cons ?_ ?_ | rfl | fail)); done) | (simp [-List.length_flatMap]; done) | (simp [-List.length_flatMap]; omega) | fail)); conv => whnf)
            | fail)
          refine ⟨((ho.set gc).set gc).may, fun c hc => ?_, all_cons ⟨rfl, rfl⟩ all_nil, ?_, ?_⟩
          · obtain ⟨z, _, rfl⟩ := List.mem_map.1 hc; rfl
          · show (((((x.2.2.1.take i).map plQu).map quA).length) + 1) * (_ + 1) ≤ _
            rw [List.length_map, List.length_map, List.length_take, Nat.min_eq_left (by omega)]
            exact Nat.le_trans (Nat.mul_le_mul_right _ (show i + 1 ≤ 100001 by omega)) (Nat.le_of_ble_eq_true (by kernel_rfl))
          intro t' k1 k2
          have k3 := ((ho.set gc).set gc).grow k1 k2
          conv => whnf
          repeat' (first
            | (refine ⟨Sub.refl _, ?_⟩)
            | (refine brA_split (fun h => ?_) (fun h => ?_) <;> (try rw [h]) <;> (try simp only [Bool.false_eq_true, Bool.true_eq_false, ↓reduceIte, decide_eq_true_eq, decide_eq_false_iff_not, Bool.not_eq_true', Bool.not_eq_false'] at h) <;> (conv => whnf))
            | (refine getB_grow ?_; conv => whnf)
            | (refine getB_of (by ((repeat (first | exact set_bx_same | assumption | refine (set_bx_other (by assumption)).trans ?_ | refine grow_bx.trans ?_)); done)) ?_; conv => whnf)
            | (refine getB_same ?_; conv => whnf)
            | (refine AWp.any (by kernel_rfl) (by kernel_rfl) (by kernel_rfl) ?_; conv => whnf)
            | (apply And.intro; (focus (first | omega | rfl | decide | exact Nat.le_of_ble_eq_true rfl | ((repeat' (first | exact all_nil | refine all_cons ?_ ?_ | rfl | fail)); done) | (simp [-List.length_flatMap]; done) | (simp [-List.length_flatMap]; omega) | fail)); conv => whnf)
            | fail)
          refine ⟨(i + 1, t'), by (repeat' (first | refine cons_eq ?_ ?_ | refine int64_of ?_ ?_ ?_ | rfl | omega)), by (repeat (first | exact Same.refl _ _ | refine Same.upd rfl ?_ | refine Same.updL rfl ?_ | refine Same.havoc rfl ?_)), ⟨by simp only; omega, (by ((repeat (first | exact set_bx_same | assumption | refine (set_bx_other (by assumption)).trans ?_ | refine grow_bx.trans ?_)); done)), (by ((repeat (first | exact set_bx_same | assumption | refine (set_bx_other (by assumption)).trans ?_ | refine grow_bx.trans ?_)); done)), set_bx_same.trans ?_, own_next (k3.set g3)⟩, by simp only; omega⟩
          show _ = some (_, ([.str x.1.1, .int .i64 0, .int .i64 0, .slice 0 ((x.2.1.map plDe).map deA), .slice t' (((x.2.2.1.take (i + 1)).map plQu).map quA), .slice 1 [], .slice 1 [], .str x.2.2.2.2.2.1.1, .int .i64 0, .int .i64 0, .slice 1 [], .slice 1 []] : List AV))
          rw [htk hlt]
          rfl
        · have ht : x.2.2.1.take i = x.2.2.1 := List.take_of_length_le (by omega)
          repeat' (first
            | (exfalso; omega)
            | (refine ⟨Sub.refl _, ?_⟩)
            | (refine brA_split (fun h => ?_) (fun h => ?_) <;> (try rw [h]) <;> (try simp only [Bool.false_eq_true, Bool.true_eq_false, ↓reduceIte, decide_eq_true_eq, decide_eq_false_iff_not, Bool.not_eq_true', Bool.not_eq_false'] at h) <;> (conv => whnf))
            | (refine getB_of (by ((repeat (first | exact set_bx_same | assumption | refine (set_bx_other (by assumption)).trans ?_ | refine grow_bx.trans ?_)); done)) ?_; conv => whnf)
            | (refine getB_same ?_; conv => whnf)
            | (refine AWp.any (by kernel_rfl) (by kernel_rfl) (by kernel_rfl) ?_; conv => whnf)
            | (apply And.intro; (focus (first | omega | rfl | decide | exact Nat.le_of_ble_eq_true rfl | ((repeat' (first | exact all_nil | refine all_cons ?_ ?_ | rfl | fail)); done) | (simp [-List.length_flatMap]; done) | (simp [-List.length_flatMap]; omega) | fail)); conv => whnf)
            | fail)
          rw [ht] at h3
          refine AWp.weak (Weak.box (cs' := [.str x.1.1, .int .i64 0, .int .i64 0, .slice 0 ((x.2.1.map plDe).map deA), .slice 0 ((x.2.2.1.map plQu).map quA), .slice 1 [], .slice 1 [], .str x.2.2.2.2.2.1.1, .int .i64 0, .int .i64 0, .slice 1 [], .slice 1 []]) h3 (by (repeat' (first | exact LeL.nil | refine LeL.cons ?_ ?_ | exact Le.refl _ | exact Le.slice0 _ _ | fail)))) ?_
          have hs2 := (ho.sub.set g3 31 ([.str x.1.1, .int .i64 0, .int .i64 0, .slice 0 ((x.2.1.map plDe).map deA), .slice 0 ((x.2.2.1.map plQu).map quA), .slice 1 [], .slice 1 [], .str x.2.2.2.2.2.1.1, .int .i64 0, .int .i64 0, .slice 1 [], .slice 1 []]))
          refine AWp.loopA [7] [77, 78, 79, 80, 81, 84, 85, 86, 87, 88, 89, 90, 91, 92, 93, 94, 95, 96, 97, 98, 99, 100, 101, 102, 82, 83] (fun a : Nat × Nat => [.int .i64 a.1]) (fun a s' => a.1 ≤ x.2.2.2.1.length ∧ s'.bx b = some (31, trA tk x) ∧ s'.bx b2 = some (31, trA (fun _ => 1) (noIdn, [], [], [], [], noIdn, [], [])) ∧ s'.bx bo = some (31, [.str x.1.1, .int .i64 0, .int .i64 0, .slice 0 ((x.2.1.map plDe).map deA), .slice 0 ((x.2.2.1.map plQu).map quA), .slice a.2 (((x.2.2.2.1.take a.1).map plFr).map frA), .slice 1 [], .str x.2.2.2.2.2.1.1, .int .i64 0, .int .i64 0, .slice 1 [], .slice 1 []]) ∧ Own s s' (a.1 == 0) a.2 43 7) (fun a => x.2.2.2.1.length - a.1) ((0, 1)) (by kernel_rfl) (by (repeat' (first | refine cons_eq ?_ ?_ | refine int64_of ?_ ?_ ?_ | rfl | omega))) ?_ ?_
          · exact ⟨by simp, (by ((repeat (first | exact set_bx_same | assumption | refine (set_bx_other (by assumption)).trans ?_ | refine grow_bx.trans ?_)); done)), (by ((repeat (first | exact set_bx_same | assumption | refine (set_bx_other (by assumption)).trans ?_ | refine grow_bx.trans ?_)); done)), (by ((repeat (first | exact set_bx_same | assumption | refine (set_bx_other (by assumption)).trans ?_ | refine grow_bx.trans ?_)); done)), Own.start (by (repeat (first | exact Sub.refl _ | assumption | refine Sub.set ?_ (by assumption) _ _))) _ _⟩
          · clear hga htk
            rintro y ⟨i, t1⟩ s1 ⟨hi, h1, h2, h3, ho⟩
            simp only at hi h3 ho
            conv => whnf
            have hga := fun h : i < x.2.2.2.1.length => map_get (f := frA) (l := x.2.2.2.1) noFr h
            have htk := fun h : i < x.2.2.2.1.length => take_map (f := plFr) (A := frA) noFr h
            generalize x.2.2.2.1.getD i noFr = u at *
            by_cases hlt : i < x.2.2.2.1.length
            · repeat' (first
                | (exfalso; omega)
                | (refine ⟨Sub.refl _, ?_⟩)
                | (refine brA_split (fun h => ?_) (fun h => ?_) <;> (try rw [h]) <;> (try simp only [Bool.false_eq_true, Bool.true_eq_false, ↓reduceIte, decide_eq_true_eq, decide_eq_false_iff_not, Bool.not_eq_true', Bool.not_eq_false'] at h) <;> (conv => whnf))
                | (refine getB_of (by ((repeat (first | exact set_bx_same | assumption | refine (set_bx_other (by assumption)).trans ?_ | refine grow_bx.trans ?_)); done)) ?_; conv => whnf)
                | (rw [show (x.2.2.2.1.map frA).getD ((i : Int)).toNat [] = _ from hga (by omega)]; conv => whnf)
                | (refine ACalls.pure' ?_ (refIdent_ok u.1); rintro _ rfl; conv => whnf)
                | (refine DCall.pure ?_ (refIdent_ok u.1); conv => whnf)
                | (refine getB_same ?_; conv => whnf)
                | (refine AWp.any (by kernel_rfl) (by kernel_rfl) (by kernel_rfl) ?_; conv => whnf)
                | (apply And.intro; (focus (first | omega | rfl | decide | exact Nat.le_of_ble_eq_true rfl | ((repeat' (first | exact all_nil | refine all_cons ?_ ?_ | rfl | fail)); done) | (simp [-List.length_flatMap]; done) | (simp [-List.length_flatMap]; omega) | fail)); conv => whnf)
                | fail)
              refine ⟨(ho).may, fun c hc => ?_, all_cons ⟨rfl, rfl⟩ all_nil, ?_, ?_⟩
              · obtain ⟨z, _, rfl⟩ := List.mem_map.1 hc; rfl
              · show (((((x.2.2.2.1.take i).map plFr).map frA).length) + 1) * (_ + 1) ≤ _
                rw [List.length_map, List.length_map, List.length_take, Nat.min_eq_left (by omega)]
                exact Nat.le_trans (Nat.mul_le_mul_right _ (show i + 1 ≤ 100001 by omega)) (Nat.le_of_ble_eq_true (by kernel_rfl))
              intro t' k1 k2
              have k3 := (ho).grow k1 k2
              conv => whnf
              repeat' (first
                | (refine ⟨Sub.refl _, ?_⟩)
                | (refine brA_split (fun h => ?_) (fun h => ?_) <;> (try rw [h]) <;> (try simp only [Bool.false_eq_true, Bool.true_eq_false, ↓reduceIte, decide_eq_true_eq, decide_eq_false_iff_not, Bool.not_eq_true', Bool.not_eq_false'] at h) <;> (conv => whnf))
                | (refine getB_grow ?_; conv => whnf)
                | (refine getB_of (by ((repeat (first | exact set_bx_same | assumption | refine (set_bx_other (by assumption)).trans ?_ | refine grow_bx.trans ?_)); done)) ?_; conv => whnf)
                | (refine getB_same ?_; conv => whnf)
                | (refine AWp.any (by kernel_rfl) (by kernel_rfl) (by kernel_rfl) ?_; conv => whnf)
                | (apply And.intro; (focus (first | omega | rfl | decide | exact Nat.le_of_ble_eq_true rfl | ((repeat' (first | exact all_nil | refine all_cons ?_ ?_ | rfl | fail)); done) | (simp [-List.length_flatMap]; done) | (simp [-List.length_flatMap]; omega) | fail)); conv => whnf)
                | fail)
              refine ⟨(i + 1, t'), by (repeat' (first | refine cons_eq ?_ ?_ | refine int64_of ?_ ?_ ?_ | rfl | omega)), by (repeat (first | exact Same.refl _ _ | refine Same.upd rfl ?_ | refine Same.updL rfl ?_ | refine Same.havoc rfl ?_)), ⟨by simp only; omega, (by ((repeat (first | exact set_bx_same | assumption | refine (set_bx_other (by assumption)).trans ?_ | refine grow_bx.trans ?_)); done)), (by ((repeat (first | exact set_bx_same | assumption | refine (set_bx_other (by assumption)).trans ?_ | refine grow_bx.trans ?_)); done)), set_bx_same.trans ?_, own_next (k3.set g3)⟩, by simp only; omega⟩
              show _ = some (_, ([.str x.1.1, .int .i64 0, .int .i64 0, .slice 0 ((x.2.1.map plDe).map deA), .slice 0 ((x.2.2.1.map plQu).map quA), .slice t' (((x.2.2.2.1.take (i + 1)).map plFr).map frA), .slice 1 [], .str x.2.2.2.2.2.1.1, .int .i64 0, .int .i64 0, .slice 1 [], .slice 1 []] : List AV))
              rw [htk hlt]
              rfl
            · have ht : x.2.2.2.1.take i = x.2.2.2.1 := List.take_of_length_le (by omega)
              repeat' (first
                | (exfalso; omega)
                | (refine ⟨Sub.refl _, ?_⟩)
                | (refine brA_split (fun h => ?_) (fun h => ?_) <;> (try rw [h]) <;> (try simp only [Bool.false_eq_true, Bool.true_eq_false, ↓reduceIte, decide_eq_true_eq, decide_eq_false_iff_not, Bool.not_eq_true', Bool.not_eq_false'] at h) <;> (conv => whnf))
                | (refine getB_of (by ((repeat (first | exact set_bx_same | assumption | refine (set_bx_other (by assumption)).trans ?_ | refine grow_bx.trans ?_)); done)) ?_; conv => whnf)
                | (refine getB_same ?_; conv => whnf)
                | (refine AWp.any (by kernel_rfl) (by kernel_rfl) (by kernel_rfl) ?_; conv => whnf)
                | (apply And.intro; (focus (first | omega | rfl | decide | exact Nat.le_of_ble_eq_true rfl | ((repeat' (first | exact all_nil | refine all_cons ?_ ?_ | rfl | fail)); done) | (simp [-List.length_flatMap]; done) | (simp [-List.length_flatMap]; omega) | fail)); conv => whnf)
                | fail)
              rw [ht] at h3
              refine AWp.weak (Weak.box (cs' := [.str x.1.1, .int .i64 0, .int .i64 0, .slice 0 ((x.2.1.map plDe).map deA), .slice 0 ((x.2.2.1.map plQu).map quA), .slice 0 ((x.2.2.2.1.map plFr).map frA), .slice 1 [], .str x.2.2.2.2.2.1.1, .int .i64 0, .int .i64 0, .slice 1 [], .slice 1 []]) h3 (by (repeat' (first | exact LeL.nil | refine LeL.cons ?_ ?_ | exact Le.refl _ | exact Le.slice0 _ _ | fail)))) ?_
              have hs2 := (ho.sub.set g3 31 ([.str x.1.1, .int .i64 0, .int .i64 0, .slice 0 ((x.2.1.map plDe).map deA), .slice 0 ((x.2.2.1.map plQu).map quA), .slice 0 ((x.2.2.2.1.map plFr).map frA), .slice 1 [], .str x.2.2.2.2.2.1.1, .int .i64 0, .int .i64 0, .slice 1 [], .slice 1 []]))
              refine AWp.loopA [8] [103, 104, 105, 106, 107, 110, 111, 112, 113, 114, 9, 115, 116, 117, 118, 119, 120, 121, 122, 123, 124, 125, 126, 127, 108, 109] (fun a : Nat × Nat => [.int .i64 a.1]) (fun a s' => a.1 ≤ x.2.2.2.2.1.length ∧ s'.bx b = some (31, trA tk x) ∧ s'.bx b2 = some (31, trA (fun _ => 1) (noIdn, [], [], [], [], noIdn, [], [])) ∧ s'.bx bo = some (31, [.str x.1.1, .int .i64 0, .int .i64 0, .slice 0 ((x.2.1.map plDe).map deA), .slice 0 ((x.2.2.1.map plQu).map quA), .slice 0 ((x.2.2.2.1.map plFr).map frA), .slice a.2 (((x.2.2.2.2.1.take a.1).map plSt).map stA), .str x.2.2.2.2.2.1.1, .int .i64 0, .int .i64 0, .slice 1 [], .slice 1 []]) ∧ Own s s' (a.1 == 0) a.2 60 5) (fun a => x.2.2.2.2.1.length - a.1) ((0, 1)) (by kernel_rfl) (by (repeat' (first | refine cons_eq ?_ ?_ | refine int64_of ?_ ?_ ?_ | rfl | omega))) ?_ ?_
              · exact ⟨by simp, (by ((repeat (first | exact set_bx_same | assumption | refine (set_bx_other (by assumption)).trans ?_ | refine grow_bx.trans ?_)); done)), (by ((repeat (first | exact set_bx_same | assumption | refine (set_bx_other (by assumption)).trans ?_ | refine grow_bx.trans ?_)); done)), (by ((repeat (first | exact set_bx_same | assumption | refine (set_bx_other (by assumption)).trans ?_ | refine grow_bx.trans ?_)); done)), Own.start (by (repeat (first | exact Sub.refl _ | assumption | refine Sub.set ?_ (by assumption) _ _))) _ _⟩
              · clear hga htk
                rintro y ⟨i, t1⟩ s1 ⟨hi, h1, h2, h3, ho⟩
                simp only at hi h3 ho
                conv => whnf
                have hga := fun h : i < x.2.2.2.2.1.length => map_get (f := stA) (l := x.2.2.2.2.1) noSt h
                have htk := fun h : i < x.2.2.2.2.1.length => take_map (f := plSt) (A := stA) noSt h
                generalize x.2.2.2.2.1.getD i noSt = u at *
                by_cases hlt : i < x.2.2.2.2.1.length
                · repeat' (first
                    | (exfalso; omega)
                    | (refine ⟨Sub.refl _, ?_⟩)
                    | (refine brA_split (fun h => ?_) (fun h => ?_) <;> (try rw [h]) <;> (try simp only [Bool.false_eq_true, Bool.true_eq_false, ↓reduceIte, decide_eq_true_eq, decide_eq_false_iff_not, Bool.not_eq_true', Bool.not_eq_false'] at h) <;> (conv => whnf))
                    | (refine getB_of (by ((repeat (first | exact set_bx_same | assumption | refine (set_bx_other (by assumption)).trans ?_ | refine grow_bx.trans ?_)); done)) ?_; conv => whnf)
                    | (rw [show (x.2.2.2.2.1.map stA).getD ((i : Int)).toNat [] = _ from hga (by omega)]; conv => whnf)
                    | (refine ACalls.pure' ?_ (refIdent_ok u.1); rintro _ rfl; conv => whnf)
                    | (refine DCall.pure ?_ (refIdent_ok u.1); conv => whnf)
                    | (refine getB_same ?_; conv => whnf)
                    | (refine AWp.any (by kernel_rfl) (by kernel_rfl) (by kernel_rfl) ?_; conv => whnf)
                    | (apply And.intro; (focus (first | omega | rfl | decide | exact Nat.le_of_ble_eq_true rfl | ((repeat' (first | exact all_nil | refine all_cons ?_ ?_ | rfl | fail)); done) | (simp [-List.length_flatMap]; done) | (simp [-List.length_flatMap]; omega) | fail)); conv => whnf)
                    | fail)
                  intro c hc
                  have n_b_c : b ≠ c := ne_of_none (by ((repeat (first | exact set_bx_same | assumption | refine (set_bx_other (by assumption)).trans ?_ | refine grow_bx.trans ?_)); done)) hc
                  have n_c_b : c ≠ b := fun h => n_b_c h.symm
                  have n_b2_c : b2 ≠ c := ne_of_none (by ((repeat (first | exact set_bx_same | assumption | refine (set_bx_other (by assumption)).trans ?_ | refine grow_bx.trans ?_)); done)) hc
                  have n_c_b2 : c ≠ b2 := fun h => n_b2_c h.symm
                  have n_bo_c : bo ≠ c := ne_of_none (by ((repeat (first | exact set_bx_same | assumption | refine (set_bx_other (by assumption)).trans ?_ | refine grow_bx.trans ?_)); done)) hc
                  have n_c_bo : c ≠ bo := fun h => n_bo_c h.symm
                  conv => whnf
                  have gc := ho.sub.none hc
                  repeat' (first
                    | (refine ⟨Sub.refl _, ?_⟩)
                    | (refine brA_split (fun h => ?_) (fun h => ?_) <;> (try rw [h]) <;> (try simp only [Bool.false_eq_true, Bool.true_eq_false, ↓reduceIte, decide_eq_true_eq, decide_eq_false_iff_not, Bool.not_eq_true', Bool.not_eq_false'] at h) <;> (conv => whnf))
                    | (refine getB_of (by ((repeat (first | exact set_bx_same | assumption | refine (set_bx_other (by assumption)).trans ?_ | refine grow_bx.trans ?_)); done)) ?_; conv => whnf)
                    | (refine ACalls.pure' ?_ (refIdent_ok u.1); rintro _ rfl; conv => whnf)
                    | (refine DCall.pure ?_ (refIdent_ok u.1); conv => whnf)
                    | (refine getB_same ?_; conv => whnf)
                    | (refine AWp.any (by kernel_rfl) (by kernel_rfl) (by kernel_rfl) ?_; conv => whnf)
                    | (apply And.intro; (focus (first | omega | rfl | decide | exact Nat.le_of_ble_eq_true rfl | ((repeat' (first | exact all_nil | refine all_cons ?_ ?_ | rfl | fail)); done) | (simp [-List.length_flatMap]; done) | (simp [-List.length_flatMap]; omega) | fail)); conv => whnf)
                    | fail)
                  refine ⟨((ho.set gc).set gc).may, fun c hc => ?_, all_cons ⟨rfl, rfl⟩ all_nil, ?_, ?_⟩
                  · obtain ⟨z, _, rfl⟩ := List.mem_map.1 hc; rfl
                  · show (((((x.2.2.2.2.1.take i).map plSt).map stA).length) + 1) * (_ + 1) ≤ _
                    rw [List.length_map, List.length_map, List.length_take, Nat.min_eq_left (by omega)]
                    exact Nat.le_trans (Nat.mul_le_mul_right _ (show i + 1 ≤ 100001 by omega)) (Nat.le_of_ble_eq_true (by kernel_rfl))
                  intro t' k1 k2
                  have k3 := ((ho.set gc).set gc).grow k1 k2
                  conv => whnf
                  repeat' (first
                    | (refine ⟨Sub.refl _, ?_⟩)
                    | (refine brA_split (fun h => ?_) (fun h => ?_) <;> (try rw [h]) <;> (try simp only [Bool.false_eq_true, Bool.true_eq_false, ↓reduceIte, decide_eq_true_eq, decide_eq_false_iff_not, Bool.not_eq_true', Bool.not_eq_false'] at h) <;> (conv => whnf))
                    | (refine getB_grow ?_; conv => whnf)
                    | (refine getB_of (by ((repeat (first | exact set_bx_same | assumption | refine (set_bx_other (by assumption)).trans ?_ | refine grow_bx.trans ?_)); done)) ?_; conv => whnf)
                    | (refine getB_same ?_; conv => whnf)
                    | (refine AWp.any (by kernel_rfl) (by kernel_rfl) (by kernel_rfl) ?_; conv => whnf)
                    | (apply And.intro; (focus (first | omega | rfl | decide | exact Nat.le_of_ble_eq_true rfl | ((repeat' (first | exact all_nil | refine all_cons ?_ ?_ | rfl | fail)); done) | (simp [-List.length_flatMap]; done) | (simp [-List.length_flatMap]; omega) | fail)); conv => whnf)
                    | fail)
                  refine ⟨(i + 1, t'), by (repeat' (first | refine cons_eq ?_ ?_ | refine int64_of ?_ ?_ ?_ | rfl | omega)), by (repeat (first | exact Same.refl _ _ | refine Same.upd rfl ?_ | refine Same.updL rfl ?_ | refine Same.havoc rfl ?_)), ⟨by simp only; omega, (by ((repeat (first | exact set_bx_same | assumption | refine (set_bx_other (by assumption)).trans ?_ | refine grow_bx.trans ?_)); done)), (by ((repeat (first | exact set_bx_same | assumption | refine (set_bx_other (by assumption)).trans ?_ | refine grow_bx.trans ?_)); done)), set_bx_same.trans ?_, own_next (k3.set g3)⟩, by simp only; omega⟩
                  show _ = some (_, ([.str x.1.1, .int .i64 0, .int .i64 0, .slice 0 ((x.2.1.map plDe).map deA), .slice 0 ((x.2.2.1.map plQu).map quA), .slice 0 ((x.2.2.2.1.map plFr).map frA), .slice t' (((x.2.2.2.2.1.take (i + 1)).map plSt).map stA), .str x.2.2.2.2.2.1.1, .int .i64 0, .int .i64 0, .slice 1 [], .slice 1 []] : List AV))
                  rw [htk hlt]
                  rfl
                · have ht : x.2.2.2.2.1.take i = x.2.2.2.2.1 := List.take_of_length_le (by omega)
                  repeat' (first
                    | (exfalso; omega)
                    | (refine ⟨Sub.refl _, ?_⟩)
                    | (refine brA_split (fun h => ?_) (fun h => ?_) <;> (try rw [h]) <;> (try simp only [Bool.false_eq_true, Bool.true_eq_false, ↓reduceIte, decide_eq_true_eq, decide_eq_false_iff_not, Bool.not_eq_true', Bool.not_eq_false'] at h) <;> (conv => whnf))
                    | (refine getB_of (by ((repeat (first | exact set_bx_same | assumption | refine (set_bx_other (by assumption)).trans ?_ | refine grow_bx.trans ?_)); done)) ?_; conv => whnf)
                    | (refine getB_same ?_; conv => whnf)
                    | (refine AWp.any (by kernel_rfl) (by kernel_rfl) (by kernel_rfl) ?_; conv => whnf)
                    | (apply And.intro; (focus (first | omega | rfl | decide | exact Nat.le_of_ble_eq_true rfl | ((repeat' (first | exact all_nil | refine all_cons ?_ ?_ | rfl | fail)); done) | (simp [-List.length_flatMap]; done) | (simp [-List.length_flatMap]; omega) | fail)); conv => whnf)
                    | fail)
                  rw [ht] at h3
                  refine AWp.weak (Weak.box (cs' := [.str x.1.1, .int .i64 0, .int .i64 0, .slice 0 ((x.2.1.map plDe).map deA), .slice 0 ((x.2.2.1.map plQu).map quA), .slice 0 ((x.2.2.2.1.map plFr).map frA), .slice 0 ((x.2.2.2.2.1.map plSt).map stA), .str x.2.2.2.2.2.1.1, .int .i64 0, .int .i64 0, .slice 1 [], .slice 1 []]) h3 (by (repeat' (first | exact LeL.nil | refine LeL.cons ?_ ?_ | exact Le.refl _ | exact Le.slice0 _ _ | fail)))) ?_
                  have hs2 := (ho.sub.set g3 31 ([.str x.1.1, .int .i64 0, .int .i64 0, .slice 0 ((x.2.1.map plDe).map deA), .slice 0 ((x.2.2.1.map plQu).map quA), .slice 0 ((x.2.2.2.1.map plFr).map frA), .slice 0 ((x.2.2.2.2.1.map plSt).map stA), .str x.2.2.2.2.2.1.1, .int .i64 0, .int .i64 0, .slice 1 [], .slice 1 []]))
                  refine AWp.loopA [10] [128, 129, 130, 131, 132, 135, 136, 137, 138, 139, 140, 141, 142, 143, 144, 145, 133, 134] (fun a : Nat × Nat => [.int .i64 a.1]) (fun a s' => a.1 ≤ x.2.2.2.2.2.2.1.length ∧ s'.bx b = some (31, trA tk x) ∧ s'.bx b2 = some (31, trA (fun _ => 1) (noIdn, [], [], [], [], noIdn, [], [])) ∧ s'.bx bo = some (31, [.str x.1.1, .int .i64 0, .int .i64 0, .slice 0 ((x.2.1.map plDe).map deA), .slice 0 ((x.2.2.1.map plQu).map quA), .slice 0 ((x.2.2.2.1.map plFr).map frA), .slice 0 ((x.2.2.2.2.1.map plSt).map stA), .str x.2.2.2.2.2.1.1, .int .i64 0, .int .i64 0, .slice a.2 (((x.2.2.2.2.2.2.1.take a.1).map plSy).map syA), .slice 1 []]) ∧ Own s s' (a.1 == 0) a.2 47 4) (fun a => x.2.2.2.2.2.2.1.length - a.1) ((0, 1)) (by kernel_rfl) (by (repeat' (first | refine cons_eq ?_ ?_ | refine int64_of ?_ ?_ ?_ | rfl | omega))) ?_ ?_
                  · exact ⟨by simp, (by ((repeat (first | exact set_bx_same | assumption | refine (set_bx_other (by assumption)).trans ?_ | refine grow_bx.trans ?_)); done)), (by ((repeat (first | exact set_bx_same | assumption | refine (set_bx_other (by assumption)).trans ?_ | refine grow_bx.trans ?_)); done)), (by ((repeat (first | exact set_bx_same | assumption | refine (set_bx_other (by assumption)).trans ?_ | refine grow_bx.trans ?_)); done)), Own.start (by (repeat (first | exact Sub.refl _ | assumption | refine Sub.set ?_ (by assumption) _ _))) _ _⟩
                  · clear hga htk
                    rintro y ⟨i, t1⟩ s1 ⟨hi, h1, h2, h3, ho⟩
                    simp only at hi h3 ho
                    conv => whnf
                    have hga := fun h : i < x.2.2.2.2.2.2.1.length => map_get (f := syA) (l := x.2.2.2.2.2.2.1) noSy h
                    have htk := fun h : i < x.2.2.2.2.2.2.1.length => take_map (f := plSy) (A := syA) noSy h
                    have hmm := fun h : i < x.2.2.2.2.2.2.1.length => (by have := m8 _ (getD_mem noSy h); omega : (x.2.2.2.2.2.2.1.getD i noSy).2.2.1.length ≤ 100000)
                    generalize x.2.2.2.2.2.2.1.getD i noSy = u at *
                    by_cases hlt : i < x.2.2.2.2.2.2.1.length
                    · repeat' (first
                        | (exfalso; omega)
                        | (refine ⟨Sub.refl _, ?_⟩)
                        | (refine brA_split (fun h => ?_) (fun h => ?_) <;> (try rw [h]) <;> (try simp only [Bool.false_eq_true, Bool.true_eq_false, ↓reduceIte, decide_eq_true_eq, decide_eq_false_iff_not, Bool.not_eq_true', Bool.not_eq_false'] at h) <;> (conv => whnf))
                        | (refine getB_of (by ((repeat (first | exact set_bx_same | assumption | refine (set_bx_other (by assumption)).trans ?_ | refine grow_bx.trans ?_)); done)) ?_; conv => whnf)
                        | (rw [show (x.2.2.2.2.2.2.1.map syA).getD ((i : Int)).toNat [] = _ from hga (by omega)]; conv => whnf)
                        | (refine ACalls.pure' ?_ (refBare_ok u (hmm hlt)); rintro _ rfl; conv => whnf)
                        | (refine DCall.pure ?_ (refBare_ok u (hmm hlt)); conv => whnf)
                        | (refine getB_same ?_; conv => whnf)
                        | (refine AWp.any (by kernel_rfl) (by kernel_rfl) (by kernel_rfl) ?_; conv => whnf)
                        | (apply And.intro; (focus (first | omega | rfl | decide | exact Nat.le_of_ble_eq_true rfl | ((repeat' (first | exact all_nil | refine all_cons ?_ ?_ | rfl | fail)); done) | (simp [-List.length_flatMap]; done) | (simp [-List.length_flatMap]; omega) | fail)); conv => whnf)
                        | fail)
                      refine ⟨(ho).may, fun c hc => ?_, all_cons ⟨rfl, rfl⟩ all_nil, ?_, ?_⟩
                      · obtain ⟨z, _, rfl⟩ := List.mem_map.1 hc; rfl
                      · show (((((x.2.2.2.2.2.2.1.take i).map plSy).map syA).length) + 1) * (_ + 1) ≤ _
                        rw [List.length_map, List.length_map, List.length_take, Nat.min_eq_left (by omega)]
                        exact Nat.le_trans (Nat.mul_le_mul_right _ (show i + 1 ≤ 100001 by omega)) (Nat.le_of_ble_eq_true (by kernel_rfl))
                      intro t' k1 k2
                      have k3 := (ho).grow k1 k2
                      conv => whnf
                      repeat' (first
                        | (refine ⟨Sub.refl _, ?_⟩)
                        | (refine brA_split (fun h => ?_) (fun h => ?_) <;> (try rw [h]) <;> (try simp only [Bool.false_eq_true, Bool.true_eq_false, ↓reduceIte, decide_eq_true_eq, decide_eq_false_iff_not, Bool.not_eq_true', Bool.not_eq_false'] at h) <;> (conv => whnf))
                        | (refine getB_grow ?_; conv => whnf)
                        | (refine getB_of (by ((repeat (first | exact set_bx_same | assumption | refine (set_bx_other (by assumption)).trans ?_ | refine grow_bx.trans ?_)); done)) ?_; conv => whnf)
                        | (refine getB_same ?_; conv => whnf)
                        | (refine AWp.any (by kernel_rfl) (by kernel_rfl) (by kernel_rfl) ?_; conv => whnf)
                        | (apply And.intro; (focus (first | omega | rfl | decide | exact Nat.le_of_ble_eq_true rfl | ((repeat' (first | exact all_nil | refine all_cons ?_ ?_ | rfl | fail)); done) | (simp [-List.length_flatMap]; done) | (simp [-List.length_flatMap]; omega) | fail)); conv => whnf)
                        | fail)
                      refine ⟨(i + 1, t'), by (repeat' (first | refine cons_eq ?_ ?_ | refine int64_of ?_ ?_ ?_ | rfl | omega)), by (repeat (first | exact Same.refl _ _ | refine Same.upd rfl ?_ | refine Same.updL rfl ?_ | refine Same.havoc rfl ?_)), ⟨by simp only; omega, (by ((repeat (first | exact set_bx_same | assumption | refine (set_bx_other (by assumption)).trans ?_ | refine grow_bx.trans ?_)); done)), (by ((repeat (first | exact set_bx_same | assumption | refine (set_bx_other (by assumption)).trans ?_ | refine grow_bx.trans ?_)); done)), set_bx_same.trans ?_, own_next (k3.set g3)⟩, by simp only; omega⟩
                      show _ = some (_, ([.str x.1.1, .int .i64 0, .int .i64 0, .slice 0 ((x.2.1.map plDe).map deA), .slice 0 ((x.2.2.1.map plQu).map quA), .slice 0 ((x.2.2.2.1.map plFr).map frA), .slice 0 ((x.2.2.2.2.1.map plSt).map stA), .str x.2.2.2.2.2.1.1, .int .i64 0, .int .i64 0, .slice t' (((x.2.2.2.2.2.2.1.take (i + 1)).map plSy).map syA), .slice 1 []] : List AV))
                      rw [htk hlt]
                      rfl
                    · have ht : x.2.2.2.2.2.2.1.take i = x.2.2.2.2.2.2.1 := List.take_of_length_le (by omega)
                      repeat' (first
                        | (exfalso; omega)
                        | (refine ⟨Sub.refl _, ?_⟩)
                        | (refine brA_split (fun h => ?_) (fun h => ?_) <;> (try rw [h]) <;> (try simp only [Bool.false_eq_true, Bool.true_eq_false, ↓reduceIte, decide_eq_true_eq, decide_eq_false_iff_not, Bool.not_eq_true', Bool.not_eq_false'] at h) <;> (conv => whnf))
                        | (refine getB_of (by ((repeat (first | exact set_bx_same | assumption | refine (set_bx_other (by assumption)).trans ?_ | refine grow_bx.trans ?_)); done)) ?_; conv => whnf)
                        | (refine getB_same ?_; conv => whnf)
                        | (refine AWp.any (by kernel_rfl) (by kernel_rfl) (by kernel_rfl) ?_; conv => whnf)
                        | (apply And.intro; (focus (first | omega | rfl | decide | exact Nat.le_of_ble_eq_true rfl | ((repeat' (first | exact all_nil | refine all_cons ?_ ?_ | rfl | fail)); done) | (simp [-List.length_flatMap]; done) | (simp [-List.length_flatMap]; omega) | fail)); conv => whnf)
                        | fail)
                      rw [ht] at h3
                      refine AWp.weak (Weak.box (cs' := [.str x.1.1, .int .i64 0, .int .i64 0, .slice 0 ((x.2.1.map plDe).map deA), .slice 0 ((x.2.2.1.map plQu).map quA), .slice 0 ((x.2.2.2.1.map plFr).map frA), .slice 0 ((x.2.2.2.2.1.map plSt).map stA), .str x.2.2.2.2.2.1.1, .int .i64 0, .int .i64 0, .slice 0 ((x.2.2.2.2.2.2.1.map plSy).map syA), .slice 1 []]) h3 (by (repeat' (first | exact LeL.nil | refine LeL.cons ?_ ?_ | exact Le.refl _ | exact Le.slice0 _ _ | fail)))) ?_
                      have hs2 := (ho.sub.set g3 31 ([.str x.1.1, .int .i64 0, .int .i64 0, .slice 0 ((x.2.1.map plDe).map deA), .slice 0 ((x.2.2.1.map plQu).map quA), .slice 0 ((x.2.2.2.1.map plFr).map frA), .slice 0 ((x.2.2.2.2.1.map plSt).map stA), .str x.2.2.2.2.2.1.1, .int .i64 0, .int .i64 0, .slice 0 ((x.2.2.2.2.2.2.1.map plSy).map syA), .slice 1 []]))
                      refine AWp.loopW [11] [146, 147, 148, 149, 150, 153, 154, 155, 156, 157, 12, 158, 159, 160, 161, 162, 163, 164, 165, 166, 167, 168, 169, 13, 14, 170, 171, 172, 173, 174, 177, 178, 179, 180, 181, 15, 182, 183, 184, 185, 186, 187, 188, 189, 190, 191, 192, 193, 194, 195, 196, 197, 175, 176, 16, 198, 199, 200, 201, 202, 205, 206, 207, 208, 209, 210, 211, 212, 213, 214, 215, 216, 217, 218, 219, 220, 221, 222, 223, 203, 204, 224, 225, 226, 227, 228, 229, 151, 152] (fun a : Nat × Nat => [.int .i64 a.1]) (fun a s' => a.1 ≤ x.2.2.2.2.2.2.2.length ∧ s'.bx b = some (31, trA tk x) ∧ s'.bx b2 = some (31, trA (fun _ => 1) (noIdn, [], [], [], [], noIdn, [], [])) ∧ s'.bx bo = some (31, [.str x.1.1, .int .i64 0, .int .i64 0, .slice 0 ((x.2.1.map plDe).map deA), .slice 0 ((x.2.2.1.map plQu).map quA), .slice 0 ((x.2.2.2.1.map plFr).map frA), .slice 0 ((x.2.2.2.2.1.map plSt).map stA), .str x.2.2.2.2.2.1.1, .int .i64 0, .int .i64 0, .slice 0 ((x.2.2.2.2.2.2.1.map plSy).map syA), .slice a.2 (((x.2.2.2.2.2.2.2.take a.1).map plTn).map tnA)]) ∧ Own s s' (a.1 == 0) a.2 51 13) (fun a => x.2.2.2.2.2.2.2.length - a.1) ((0, 1)) _ (by kernel_rfl) (by decide) (by (repeat' (first | exact LeS.nil | refine LeS.cons ?_ ?_ | exact Le.refl _ | (refine Le.of_eq ?_; first | exact rfl | (refine int64_of ?_ ?_ ?_ <;> omega) | fail) | fail))) (Weak.refl _) ?_ ?_
                      · exact ⟨by simp, (by ((repeat (first | exact set_bx_same | assumption | refine (set_bx_other (by assumption)).trans ?_ | refine grow_bx.trans ?_)); done)), (by ((repeat (first | exact set_bx_same | assumption | refine (set_bx_other (by assumption)).trans ?_ | refine grow_bx.trans ?_)); done)), (by ((repeat (first | exact set_bx_same | assumption | refine (set_bx_other (by assumption)).trans ?_ | refine grow_bx.trans ?_)); done)), Own.start (by (repeat (first | exact Sub.refl _ | assumption | refine Sub.set ?_ (by assumption) _ _))) _ _⟩
                      · clear hga htk
                        rintro y ⟨i, t1⟩ s1 ⟨hi, h1, h2, h3, ho⟩
                        simp only at hi h3 ho
                        conv => whnf
                        have hga := fun h : i < x.2.2.2.2.2.2.2.length => map_get (f := tnA) (l := x.2.2.2.2.2.2.2) noTn h
                        have htk := fun h : i < x.2.2.2.2.2.2.2.length => take_map (f := plTn) (A := tnA) noTn h
                        have hmm := fun h : i < x.2.2.2.2.2.2.2.length => m9 _ (getD_mem noTn h)
                        generalize x.2.2.2.2.2.2.2.getD i noTn = u at *
                        by_cases hlt : i < x.2.2.2.2.2.2.2.length
                        · repeat' (first
                            | (exfalso; omega)
                            | (refine ⟨Sub.refl _, ?_⟩)
                            | (refine brA_split (fun h => ?_) (fun h => ?_) <;> (try rw [h]) <;> (try simp only [Bool.false_eq_true, Bool.true_eq_false, ↓reduceIte, decide_eq_true_eq, decide_eq_false_iff_not, Bool.not_eq_true', Bool.not_eq_false'] at h) <;> (conv => whnf))
                            | (refine getB_of (by ((repeat (first | exact set_bx_same | assumption | refine (set_bx_other (by assumption)).trans ?_ | refine grow_bx.trans ?_)); done)) ?_; conv => whnf)
                            | (rw [show (x.2.2.2.2.2.2.2.map tnA).getD ((i : Int)).toNat [] = _ from hga (by omega)]; conv => whnf)
                            | (refine getB_same ?_; conv => whnf)
                            | (refine AWp.any (by kernel_rfl) (by kernel_rfl) (by kernel_rfl) ?_; conv => whnf)
                            | (apply And.intro; (focus (first | omega | rfl | decide | exact Nat.le_of_ble_eq_true rfl | ((repeat' (first | exact all_nil | refine all_cons ?_ ?_ | rfl | fail)); done) | (simp [-List.length_flatMap]; done) | (simp [-List.length_flatMap]; omega) | fail)); conv => whnf)
                            | fail)
                          intro c hc
                          have n_b_c : b ≠ c := ne_of_none (by ((repeat (first | exact set_bx_same | assumption | refine (set_bx_other (by assumption)).trans ?_ | refine grow_bx.trans ?_)); done)) hc
                          have n_c_b : c ≠ b := fun h => n_b_c h.symm
                          have n_b2_c : b2 ≠ c := ne_of_none (by ((repeat (first | exact set_bx_same | assumption | refine (set_bx_other (by assumption)).trans ?_ | refine grow_bx.trans ?_)); done)) hc
                          have n_c_b2 : c ≠ b2 := fun h => n_b2_c h.symm
                          have n_bo_c : bo ≠ c := ne_of_none (by ((repeat (first | exact set_bx_same | assumption | refine (set_bx_other (by assumption)).trans ?_ | refine grow_bx.trans ?_)); done)) hc
                          have n_c_bo : c ≠ bo := fun h => n_bo_c h.symm
                          conv => whnf
                          have gc := ho.sub.none hc
                          repeat' (first
                            | (refine ⟨Sub.refl _, ?_⟩)
                            | (refine brA_split (fun h => ?_) (fun h => ?_) <;> (try rw [h]) <;> (try simp only [Bool.false_eq_true, Bool.true_eq_false, ↓reduceIte, decide_eq_true_eq, decide_eq_false_iff_not, Bool.not_eq_true', Bool.not_eq_false'] at h) <;> (conv => whnf))
                            | (refine getB_of (by ((repeat (first | exact set_bx_same | assumption | refine (set_bx_other (by assumption)).trans ?_ | refine grow_bx.trans ?_)); done)) ?_; conv => whnf)
                            | (refine getB_same ?_; conv => whnf)
                            | (refine AWp.any (by kernel_rfl) (by kernel_rfl) (by kernel_rfl) ?_; conv => whnf)
                            | (apply And.intro; (focus (first | omega | rfl | decide | exact Nat.le_of_ble_eq_true rfl | ((repeat' (first | exact all_nil | refine all_cons ?_ ?_ | rfl | fail)); done) | (simp [-List.length_flatMap]; done) | (simp [-List.length_flatMap]; omega) | fail)); conv => whnf)
                            | fail)
                          have hub : u.2.2.2.1.2.1.length ≤ 100000 := by have := hmm hlt; omega
                          repeat' (first
                            | (refine ⟨Sub.refl _, ?_⟩)
                            | (refine brA_split (fun h => ?_) (fun h => ?_) <;> (try rw [h]) <;> (try simp only [Bool.false_eq_true, Bool.true_eq_false, ↓reduceIte, decide_eq_true_eq, decide_eq_false_iff_not, Bool.not_eq_true', Bool.not_eq_false'] at h) <;> (conv => whnf))
                            | (refine getB_of (by ((repeat (first | exact set_bx_same | assumption | refine (set_bx_other (by assumption)).trans ?_ | refine grow_bx.trans ?_)); done)) ?_; conv => whnf)
                            | (refine ACalls.pure' ?_ (refIdent_ok u.2.1); rintro _ rfl; conv => whnf)
                            | (refine DCall.pure ?_ (refIdent_ok u.2.1); conv => whnf)
                            | (refine ACalls.pure' ?_ (refIdent_ok u.2.2.1); rintro _ rfl; conv => whnf)
                            | (refine DCall.pure ?_ (refIdent_ok u.2.2.1); conv => whnf)
                            | (refine ACalls.pure' ?_ (refBare_ok (u.1.1, u.2.2.2.1) hub); rintro _ rfl; conv => whnf)
                            | (refine DCall.pure ?_ (refBare_ok (u.1.1, u.2.2.2.1) hub); conv => whnf)
                            | (refine getB_same ?_; conv => whnf)
                            | (refine AWp.any (by kernel_rfl) (by kernel_rfl) (by kernel_rfl) ?_; conv => whnf)
                            | (apply And.intro; (focus (first | omega | rfl | decide | exact Nat.le_of_ble_eq_true rfl | ((repeat' (first | exact all_nil | refine all_cons ?_ ?_ | rfl | fail)); done) | (simp [-List.length_flatMap]; done) | (simp [-List.length_flatMap]; omega) | fail)); conv => whnf)
                            | fail)
                          intro d hd
                          have n_c_d : c ≠ d := ne_of_none (by ((repeat (first | exact set_bx_same | assumption | refine (set_bx_other (by assumption)).trans ?_ | refine grow_bx.trans ?_)); done)) hd
                          have n_d_c : d ≠ c := fun h => n_c_d h.symm
                          have n_b_d : b ≠ d := ne_of_none (by ((repeat (first | exact set_bx_same | assumption | refine (set_bx_other (by assumption)).trans ?_ | refine grow_bx.trans ?_)); done)) hd
                          have n_d_b : d ≠ b := fun h => n_b_d h.symm
                          have n_b2_d : b2 ≠ d := ne_of_none (by ((repeat (first | exact set_bx_same | assumption | refine (set_bx_other (by assumption)).trans ?_ | refine grow_bx.trans ?_)); done)) hd
                          have n_d_b2 : d ≠ b2 := fun h => n_b2_d h.symm
                          have n_bo_d : bo ≠ d := ne_of_none (by ((repeat (first | exact set_bx_same | assumption | refine (set_bx_other (by assumption)).trans ?_ | refine grow_bx.trans ?_)); done)) hd
                          have n_d_bo : d ≠ bo := fun h => n_bo_d h.symm
                          conv => whnf
                          have gd : s.bx d = none := by (have g := hd; (repeat (replace g := (none_set g).2)); exact ho.sub.none g)
                          repeat' (first
                            | (refine ⟨Sub.refl _, ?_⟩)
                            | (refine brA_split (fun h => ?_) (fun h => ?_) <;> (try rw [h]) <;> (try simp only [Bool.false_eq_true, Bool.true_eq_false, ↓reduceIte, decide_eq_true_eq, decide_eq_false_iff_not, Bool.not_eq_true', Bool.not_eq_false'] at h) <;> (conv => whnf))
                            | (refine getB_of (by ((repeat (first | exact set_bx_same | assumption | refine (set_bx_other (by assumption)).trans ?_ | refine grow_bx.trans ?_)); done)) ?_; conv => whnf)
                            | (refine getB_same ?_; conv => whnf)
                            | (refine AWp.any (by kernel_rfl) (by kernel_rfl) (by kernel_rfl) ?_; conv => whnf)
                            | (apply And.intro; (focus (first | omega | rfl | decide | exact Nat.le_of_ble_eq_true rfl | ((repeat' (first | exact all_nil | refine all_cons ?_ ?_ | rfl | fail)); done) | (simp [-List.length_flatMap]; done) | (simp [-List.length_flatMap]; omega) | fail)); conv => whnf)
                            | fail)
                          have hmu := hmm hlt
                          have l_ex : (u.2.2.2.2.1.map exA).length = u.2.2.2.2.1.length := List.length_map ..
                          have l_se : (u.2.2.2.2.2.2.map seA).length = u.2.2.2.2.2.2.length := List.length_map ..
                          refine AWp.loopA [14] [170, 171, 172, 173, 174, 177, 178, 179, 180, 181, 15, 182, 183, 184, 185, 186, 187, 188, 189, 190, 191, 192, 193, 194, 195, 196, 197, 175, 176] (fun a : Nat × Nat => [.int .i64 a.1]) (fun a s' => a.1 ≤ u.2.2.2.2.1.length ∧ s'.bx b = some (31, trA tk x) ∧ s'.bx b2 = some (31, trA (fun _ => 1) (noIdn, [], [], [], [], noIdn, [], [])) ∧ s'.bx bo = some (31, [.str x.1.1, .int .i64 0, .int .i64 0, .slice 0 ((x.2.1.map plDe).map deA), .slice 0 ((x.2.2.1.map plQu).map quA), .slice 0 ((x.2.2.2.1.map plFr).map frA), .slice 0 ((x.2.2.2.2.1.map plSt).map stA), .str x.2.2.2.2.2.1.1, .int .i64 0, .int .i64 0, .slice 0 ((x.2.2.2.2.2.2.1.map plSy).map syA), .slice t1 (((x.2.2.2.2.2.2.2.take i).map plTn).map tnA)]) ∧ s'.bx c = some (51, tnA u) ∧ s'.bx d = some (51, [.str u.2.1.1, .int .i64 0, .int .i64 0, .str u.2.2.1.1, .int .i64 0, .int .i64 0, .str u.2.2.2.1.1, .slice 0 ((u.2.2.2.1.2.1.map plAr).map arA), .int .i64 0, .int .i64 0, .slice a.2 (((u.2.2.2.2.1.take a.1).map plEx).map exA), .int .i64 u.2.2.2.2.2.1, .slice 1 []]) ∧ Own s s' (i == 0) t1 51 13 ∧ (t1 = 1 ∨ t1 ≠ a.2) ∧ Own s s' (a.1 == 0) a.2 53 10) (fun a => u.2.2.2.2.1.length - a.1) ((0, 1)) (by kernel_rfl) (by (repeat' (first | refine cons_eq ?_ ?_ | refine int64_of ?_ ?_ ?_ | rfl | omega))) ?_ ?_
                          · exact ⟨by simp, (by ((repeat (first | exact set_bx_same | assumption | refine (set_bx_other (by assumption)).trans ?_ | refine grow_bx.trans ?_)); done)), (by ((repeat (first | exact set_bx_same | assumption | refine (set_bx_other (by assumption)).trans ?_ | refine grow_bx.trans ?_)); done)), (by ((repeat (first | exact set_bx_same | assumption | refine (set_bx_other (by assumption)).trans ?_ | refine grow_bx.trans ?_)); done)), (by ((repeat (first | exact set_bx_same | assumption | refine (set_bx_other (by assumption)).trans ?_ | refine grow_bx.trans ?_)); done)), (by ((repeat (first | exact set_bx_same | assumption | refine (set_bx_other (by assumption)).trans ?_ | refine grow_bx.trans ?_)); done)), (((ho.set gc).set gc).set gd).set gd, Decidable.em _, Own.start (by (repeat (first | exact ho.sub | refine Sub.set ?_ (by assumption) _ _))) _ _⟩
                          · clear hga
                            rintro y ⟨j, t2⟩ s2 ⟨hj, q1, q2, q3, q4, q5, qo, qn, ro⟩
                            simp only at hj q5 qn ro
                            conv => whnf
                            have hga := fun h : j < u.2.2.2.2.1.length => map_get (f := exA) (l := u.2.2.2.2.1) noEx h
                            have htk2 := fun h : j < u.2.2.2.2.1.length => take_map (f := plEx) (A := exA) noEx h
                            generalize hz : u.2.2.2.2.1.getD j noEx = z at *
                            by_cases hlt2 : j < u.2.2.2.2.1.length
                            · repeat' (first
                                | (exfalso; omega)
                                | (refine ⟨Sub.refl _, ?_⟩)
                                | (refine brA_split (fun h => ?_) (fun h => ?_) <;> (try rw [h]) <;> (try simp only [Bool.false_eq_true, Bool.true_eq_false, ↓reduceIte, decide_eq_true_eq, decide_eq_false_iff_not, Bool.not_eq_true', Bool.not_eq_false'] at h) <;> (conv => whnf))
                                | (refine getB_of (by ((repeat (first | exact set_bx_same | assumption | refine (set_bx_other (by assumption)).trans ?_ | refine grow_bx.trans ?_)); done)) ?_; conv => whnf)
                                | (rw [show (u.2.2.2.2.1.map exA).getD ((j : Int)).toNat [] = _ from hga (by omega)]; conv => whnf)
                                | (refine getB_same ?_; conv => whnf)
                                | (refine AWp.any (by kernel_rfl) (by kernel_rfl) (by kernel_rfl) ?_; conv => whnf)
                                | (apply And.intro; (focus (first | omega | rfl | decide | exact Nat.le_of_ble_eq_true rfl | ((repeat' (first | exact all_nil | refine all_cons ?_ ?_ | rfl | fail)); done) | (simp [-List.length_flatMap]; done) | (simp [-List.length_flatMap]; omega) | fail)); conv => whnf)
                                | fail)
                              intro c2 hc2
                              have n_d_c2 : d ≠ c2 := ne_of_none (by ((repeat (first | exact set_bx_same | assumption | refine (set_bx_other (by assumption)).trans ?_ | refine grow_bx.trans ?_)); done)) hc2
                              have n_c2_d : c2 ≠ d := fun h => n_d_c2 h.symm
                              have n_c_c2 : c ≠ c2 := ne_of_none (by ((repeat (first | exact set_bx_same | assumption | refine (set_bx_other (by assumption)).trans ?_ | refine grow_bx.trans ?_)); done)) hc2
                              have n_c2_c : c2 ≠ c := fun h => n_c_c2 h.symm
                              have n_b_c2 : b ≠ c2 := ne_of_none (by ((repeat (first | exact set_bx_same | assumption | refine (set_bx_other (by assumption)).trans ?_ | refine grow_bx.trans ?_)); done)) hc2
                              have n_c2_b : c2 ≠ b := fun h => n_b_c2 h.symm
                              have n_b2_c2 : b2 ≠ c2 := ne_of_none (by ((repeat (first | exact set_bx_same | assumption | refine (set_bx_other (by assumption)).trans ?_ | refine grow_bx.trans ?_)); done)) hc2
                              have n_c2_b2 : c2 ≠ b2 := fun h => n_b2_c2 h.symm
                              have n_bo_c2 : bo ≠ c2 := ne_of_none (by ((repeat (first | exact set_bx_same | assumption | refine (set_bx_other (by assumption)).trans ?_ | refine grow_bx.trans ?_)); done)) hc2
                              have n_c2_bo : c2 ≠ bo := fun h => n_bo_c2 h.symm
                              conv => whnf
                              have gc2 := qo.sub.none hc2
                              repeat' (first
                                | (refine ⟨Sub.refl _, ?_⟩)
                                | (refine brA_split (fun h => ?_) (fun h => ?_) <;> (try rw [h]) <;> (try simp only [Bool.false_eq_true, Bool.true_eq_false, ↓reduceIte, decide_eq_true_eq, decide_eq_false_iff_not, Bool.not_eq_true', Bool.not_eq_false'] at h) <;> (conv => whnf))
                                | (refine getB_of (by ((repeat (first | exact set_bx_same | assumption | refine (set_bx_other (by assumption)).trans ?_ | refine grow_bx.trans ?_)); done)) ?_; conv => whnf)
                                | (refine getB_same ?_; conv => whnf)
                                | (refine AWp.any (by kernel_rfl) (by kernel_rfl) (by kernel_rfl) ?_; conv => whnf)
                                | (apply And.intro; (focus (first | omega | rfl | decide | exact Nat.le_of_ble_eq_true rfl | ((repeat' (first | exact all_nil | refine all_cons ?_ ?_ | rfl | fail)); done) | (simp [-List.length_flatMap]; done) | (simp [-List.length_flatMap]; omega) | fail)); conv => whnf)
                                | fail)
                              refine ⟨((ro.set gc2).set gc2).may, fun c hc => ?_, all_cons ⟨rfl, rfl⟩ all_nil, ?_, ?_⟩
                              · obtain ⟨z, _, rfl⟩ := List.mem_map.1 hc; rfl
                              · show (((((u.2.2.2.2.1.take j).map plEx).map exA).length) + 1) * (_ + 1) ≤ _
                                rw [List.length_map, List.length_map, List.length_take, Nat.min_eq_left (by omega)]
                                exact Nat.le_trans (Nat.mul_le_mul_right _ (show j + 1 ≤ 100001 by omega)) (Nat.le_of_ble_eq_true (by kernel_rfl))
                              intro t' k1 k2
                              have k3 := ((ro.set gc2).set gc2).grow k1 k2
                              obtain ⟨k4, k5⟩ := own_beside (t' := t') (e2 := 53) (k2 := 10) ((qo.set gc2).set gc2) qn (own_spent (ro)) k2
                              conv => whnf
                              repeat' (first
                                | (refine ⟨Sub.refl _, ?_⟩)
                                | (refine brA_split (fun h => ?_) (fun h => ?_) <;> (try rw [h]) <;> (try simp only [Bool.false_eq_true, Bool.true_eq_false, ↓reduceIte, decide_eq_true_eq, decide_eq_false_iff_not, Bool.not_eq_true', Bool.not_eq_false'] at h) <;> (conv => whnf))
                                | (refine getB_grow ?_; conv => whnf)
                                | (refine getB_of (by ((repeat (first | exact set_bx_same | assumption | refine (set_bx_other (by assumption)).trans ?_ | refine grow_bx.trans ?_)); done)) ?_; conv => whnf)
                                | (refine getB_same ?_; conv => whnf)
                                | (refine AWp.any (by kernel_rfl) (by kernel_rfl) (by kernel_rfl) ?_; conv => whnf)
                                | (apply And.intro; (focus (first | omega | rfl | decide | exact Nat.le_of_ble_eq_true rfl | ((repeat' (first | exact all_nil | refine all_cons ?_ ?_ | rfl | fail)); done) | (simp [-List.length_flatMap]; done) | (simp [-List.length_flatMap]; omega) | fail)); conv => whnf)
                                | fail)
                              refine ⟨(j + 1, t'), by (repeat' (first | refine cons_eq ?_ ?_ | refine int64_of ?_ ?_ ?_ | rfl | omega)), by (repeat (first | exact Same.refl _ _ | refine Same.upd rfl ?_ | refine Same.updL rfl ?_ | refine Same.havoc rfl ?_)), ⟨by simp only; omega, (by ((repeat (first | exact set_bx_same | assumption | refine (set_bx_other (by assumption)).trans ?_ | refine grow_bx.trans ?_)); done)), (by ((repeat (first | exact set_bx_same | assumption | refine (set_bx_other (by assumption)).trans ?_ | refine grow_bx.trans ?_)); done)), (by ((repeat (first | exact set_bx_same | assumption | refine (set_bx_other (by assumption)).trans ?_ | refine grow_bx.trans ?_)); done)), (by ((repeat (first | exact set_bx_same | assumption | refine (set_bx_other (by assumption)).trans ?_ | refine grow_bx.trans ?_)); done)), set_bx_same.trans ?_, k4.set gd, k5, own_next (k3.set gd)⟩, by simp only; omega⟩
                              show _ = some (_, ([.str u.2.1.1, .int .i64 0, .int .i64 0, .str u.2.2.1.1, .int .i64 0, .int .i64 0, .str u.2.2.2.1.1, .slice 0 ((u.2.2.2.1.2.1.map plAr).map arA), .int .i64 0, .int .i64 0, .slice t' (((u.2.2.2.2.1.take (j + 1)).map plEx).map exA), .int .i64 u.2.2.2.2.2.1, .slice 1 []] : List AV))
                              rw [htk2 hlt2]
                              rfl
                            · have ht2 : u.2.2.2.2.1.take j = u.2.2.2.2.1 := List.take_of_length_le (by omega)
                              rw [ht2] at q5
                              repeat' (first
                                | (exfalso; omega)
                                | (refine ⟨Sub.refl _, ?_⟩)
                                | (refine brA_split (fun h => ?_) (fun h => ?_) <;> (try rw [h]) <;> (try simp only [Bool.false_eq_true, Bool.true_eq_false, ↓reduceIte, decide_eq_true_eq, decide_eq_false_iff_not, Bool.not_eq_true', Bool.not_eq_false'] at h) <;> (conv => whnf))
                                | (refine getB_of (by ((repeat (first | exact set_bx_same | assumption | refine (set_bx_other (by assumption)).trans ?_ | refine grow_bx.trans ?_)); done)) ?_; conv => whnf)
                                | (refine getB_same ?_; conv => whnf)
                                | (refine AWp.any (by kernel_rfl) (by kernel_rfl) (by kernel_rfl) ?_; conv => whnf)
                                | (apply And.intro; (focus (first | omega | rfl | decide | exact Nat.le_of_ble_eq_true rfl | ((repeat' (first | exact all_nil | refine all_cons ?_ ?_ | rfl | fail)); done) | (simp [-List.length_flatMap]; done) | (simp [-List.length_flatMap]; omega) | fail)); conv => whnf)
                                | fail)
                              have q5 := q5
                              refine AWp.weak (Weak.box (cs' := [.str u.2.1.1, .int .i64 0, .int .i64 0, .str u.2.2.1.1, .int .i64 0, .int .i64 0, .str u.2.2.2.1.1, .slice 0 ((u.2.2.2.1.2.1.map plAr).map arA), .int .i64 0, .int .i64 0, .slice 0 ((u.2.2.2.2.1.map plEx).map exA), .int .i64 u.2.2.2.2.2.1, .slice 1 []]) q5 (by (repeat' (first | exact LeL.nil | refine LeL.cons ?_ ?_ | exact Le.refl _ | exact Le.slice0 _ _ | fail)))) ?_
                              refine AWp.loopA [16] [198, 199, 200, 201, 202, 205, 206, 207, 208, 209, 210, 211, 212, 213, 214, 215, 216, 217, 218, 219, 220, 221, 222, 223, 203, 204] (fun a : Nat × Nat => [.int .i64 a.1]) (fun a s' => a.1 ≤ u.2.2.2.2.2.2.length ∧ s'.bx b = some (31, trA tk x) ∧ s'.bx b2 = some (31, trA (fun _ => 1) (noIdn, [], [], [], [], noIdn, [], [])) ∧ s'.bx bo = some (31, [.str x.1.1, .int .i64 0, .int .i64 0, .slice 0 ((x.2.1.map plDe).map deA), .slice 0 ((x.2.2.1.map plQu).map quA), .slice 0 ((x.2.2.2.1.map plFr).map frA), .slice 0 ((x.2.2.2.2.1.map plSt).map stA), .str x.2.2.2.2.2.1.1, .int .i64 0, .int .i64 0, .slice 0 ((x.2.2.2.2.2.2.1.map plSy).map syA), .slice t1 (((x.2.2.2.2.2.2.2.take i).map plTn).map tnA)]) ∧ s'.bx c = some (51, tnA u) ∧ s'.bx d = some (51, [.str u.2.1.1, .int .i64 0, .int .i64 0, .str u.2.2.1.1, .int .i64 0, .int .i64 0, .str u.2.2.2.1.1, .slice 0 ((u.2.2.2.1.2.1.map plAr).map arA), .int .i64 0, .int .i64 0, .slice 0 ((u.2.2.2.2.1.map plEx).map exA), .int .i64 u.2.2.2.2.2.1, .slice a.2 (((u.2.2.2.2.2.2.take a.1).map plSe).map seA)]) ∧ Own s s' (i == 0) t1 51 13 ∧ (t1 = 1 ∨ t1 ≠ a.2) ∧ Own s s' (a.1 == 0) a.2 92 4) (fun a => u.2.2.2.2.2.2.length - a.1) ((0, 1)) (by kernel_rfl) (by (repeat' (first | refine cons_eq ?_ ?_ | refine int64_of ?_ ?_ ?_ | rfl | omega))) ?_ ?_
                              · exact ⟨by simp, (by ((repeat (first | exact set_bx_same | assumption | refine (set_bx_other (by assumption)).trans ?_ | refine grow_bx.trans ?_)); done)), (by ((repeat (first | exact set_bx_same | assumption | refine (set_bx_other (by assumption)).trans ?_ | refine grow_bx.trans ?_)); done)), (by ((repeat (first | exact set_bx_same | assumption | refine (set_bx_other (by assumption)).trans ?_ | refine grow_bx.trans ?_)); done)), (by ((repeat (first | exact set_bx_same | assumption | refine (set_bx_other (by assumption)).trans ?_ | refine grow_bx.trans ?_)); done)), (by ((repeat (first | exact set_bx_same | assumption | refine (set_bx_other (by assumption)).trans ?_ | refine grow_bx.trans ?_)); done)), qo.set gd, Decidable.em _, Own.start (qo.sub.set gd _ _) _ _⟩
                              · clear hga
                                rintro y ⟨j, t2⟩ s2 ⟨hj, q1, q2, q3, q4, q5, qo, qn, ro⟩
                                simp only at hj q5 qn ro
                                conv => whnf
                                have hga := fun h : j < u.2.2.2.2.2.2.length => map_get (f := seA) (l := u.2.2.2.2.2.2) noSe h
                                have htk2 := fun h : j < u.2.2.2.2.2.2.length => take_map (f := plSe) (A := seA) noSe h
                                generalize hz : u.2.2.2.2.2.2.getD j noSe = z at *
                                by_cases hlt2 : j < u.2.2.2.2.2.2.length
                                · repeat' (first
                                    | (exfalso; omega)
                                    | (refine ⟨Sub.refl _, ?_⟩)
                                    | (refine brA_split (fun h => ?_) (fun h => ?_) <;> (try rw [h]) <;> (try simp only [Bool.false_eq_true, Bool.true_eq_false, ↓reduceIte, decide_eq_true_eq, decide_eq_false_iff_not, Bool.not_eq_true', Bool.not_eq_false'] at h) <;> (conv => whnf))
                                    | (refine getB_of (by ((repeat (first | exact set_bx_same | assumption | refine (set_bx_other (by assumption)).trans ?_ | refine grow_bx.trans ?_)); done)) ?_; conv => whnf)
                                    | (rw [show (u.2.2.2.2.2.2.map seA).getD ((j : Int)).toNat [] = _ from hga (by omega)]; conv => whnf)
                                    | (refine ACalls.pure' ?_ (refIdent_ok z.1); rintro _ rfl; conv => whnf)
                                    | (refine DCall.pure ?_ (refIdent_ok z.1); conv => whnf)
                                    | (refine getB_same ?_; conv => whnf)
                                    | (refine AWp.any (by kernel_rfl) (by kernel_rfl) (by kernel_rfl) ?_; conv => whnf)
                                    | (apply And.intro; (focus (first | omega | rfl | decide | exact Nat.le_of_ble_eq_true rfl | ((repeat' (first | exact all_nil | refine all_cons ?_ ?_ | rfl | fail)); done) | (simp [-List.length_flatMap]; done) | (simp [-List.length_flatMap]; omega) | fail)); conv => whnf)
                                    | fail)
                                  refine ⟨(ro).may, fun c hc => ?_, all_cons ⟨rfl, rfl⟩ all_nil, ?_, ?_⟩
                                  · obtain ⟨z, _, rfl⟩ := List.mem_map.1 hc; rfl
                                  · show (((((u.2.2.2.2.2.2.take j).map plSe).map seA).length) + 1) * (_ + 1) ≤ _
                                    rw [List.length_map, List.length_map, List.length_take, Nat.min_eq_left (by omega)]
                                    exact Nat.le_trans (Nat.mul_le_mul_right _ (show j + 1 ≤ 100001 by omega)) (Nat.le_of_ble_eq_true (by kernel_rfl))
                                  intro t' k1 k2
                                  have k3 := (ro).grow k1 k2
                                  obtain ⟨k4, k5⟩ := own_beside (t' := t') (e2 := 92) (k2 := 4) (qo) qn (own_spent (ro)) k2
                                  conv => whnf
                                  repeat' (first
                                    | (refine ⟨Sub.refl _, ?_⟩)
                                    | (refine brA_split (fun h => ?_) (fun h => ?_) <;> (try rw [h]) <;> (try simp only [Bool.false_eq_true, Bool.true_eq_false, ↓reduceIte, decide_eq_true_eq, decide_eq_false_iff_not, Bool.not_eq_true', Bool.not_eq_false'] at h) <;> (conv => whnf))
                                    | (refine getB_grow ?_; conv => whnf)
                                    | (refine getB_of (by ((repeat (first | exact set_bx_same | assumption | refine (set_bx_other (by assumption)).trans ?_ | refine grow_bx.trans ?_)); done)) ?_; conv => whnf)
                                    | (refine getB_same ?_; conv => whnf)
                                    | (refine AWp.any (by kernel_rfl) (by kernel_rfl) (by kernel_rfl) ?_; conv => whnf)
                                    | (apply And.intro; (focus (first | omega | rfl | decide | exact Nat.le_of_ble_eq_true rfl | ((repeat' (first | exact all_nil | refine all_cons ?_ ?_ | rfl | fail)); done) | (simp [-List.length_flatMap]; done) | (simp [-List.length_flatMap]; omega) | fail)); conv => whnf)
                                    | fail)
                                  refine ⟨(j + 1, t'), by (repeat' (first | refine cons_eq ?_ ?_ | refine int64_of ?_ ?_ ?_ | rfl | omega)), by (repeat (first | exact Same.refl _ _ | refine Same.upd rfl ?_ | refine Same.updL rfl ?_ | refine Same.havoc rfl ?_)), ⟨by simp only; omega, (by ((repeat (first | exact set_bx_same | assumption | refine (set_bx_other (by assumption)).trans ?_ | refine grow_bx.trans ?_)); done)), (by ((repeat (first | exact set_bx_same | assumption | refine (set_bx_other (by assumption)).trans ?_ | refine grow_bx.trans ?_)); done)), (by ((repeat (first | exact set_bx_same | assumption | refine (set_bx_other (by assumption)).trans ?_ | refine grow_bx.trans ?_)); done)), (by ((repeat (first | exact set_bx_same | assumption | refine (set_bx_other (by assumption)).trans ?_ | refine grow_bx.trans ?_)); done)), set_bx_same.trans ?_, k4.set gd, k5, own_next (k3.set gd)⟩, by simp only; omega⟩
                                  show _ = some (_, ([.str u.2.1.1, .int .i64 0, .int .i64 0, .str u.2.2.1.1, .int .i64 0, .int .i64 0, .str u.2.2.2.1.1, .slice 0 ((u.2.2.2.1.2.1.map plAr).map arA), .int .i64 0, .int .i64 0, .slice 0 ((u.2.2.2.2.1.map plEx).map exA), .int .i64 u.2.2.2.2.2.1, .slice t' (((u.2.2.2.2.2.2.take (j + 1)).map plSe).map seA)] : List AV))
                                  rw [htk2 hlt2]
                                  rfl
                                · have ht2 : u.2.2.2.2.2.2.take j = u.2.2.2.2.2.2 := List.take_of_length_le (by omega)
                                  rw [ht2] at q5
                                  repeat' (first
                                    | (exfalso; omega)
                                    | (refine ⟨Sub.refl _, ?_⟩)
                                    | (refine brA_split (fun h => ?_) (fun h => ?_) <;> (try rw [h]) <;> (try simp only [Bool.false_eq_true, Bool.true_eq_false, ↓reduceIte, decide_eq_true_eq, decide_eq_false_iff_not, Bool.not_eq_true', Bool.not_eq_false'] at h) <;> (conv => whnf))
                                    | (refine getB_of (by ((repeat (first | exact set_bx_same | assumption | refine (set_bx_other (by assumption)).trans ?_ | refine grow_bx.trans ?_)); done)) ?_; conv => whnf)
                                    | (refine getB_same ?_; conv => whnf)
                                    | (refine AWp.any (by kernel_rfl) (by kernel_rfl) (by kernel_rfl) ?_; conv => whnf)
                                    | (apply And.intro; (focus (first | omega | rfl | decide | exact Nat.le_of_ble_eq_true rfl | ((repeat' (first | exact all_nil | refine all_cons ?_ ?_ | rfl | fail)); done) | (simp [-List.length_flatMap]; done) | (simp [-List.length_flatMap]; omega) | fail)); conv => whnf)
                                    | fail)
                                  refine ⟨qo.may, fun c hc => ?_, all_cons ⟨rfl, rfl⟩ all_nil, ?_, ?_⟩
                                  · obtain ⟨z, _, rfl⟩ := List.mem_map.1 hc; rfl
                                  · show (((((x.2.2.2.2.2.2.2.take i).map plTn).map tnA).length) + 1) * (_ + 1) ≤ _
                                    rw [List.length_map, List.length_map, List.length_take, Nat.min_eq_left (by omega)]
                                    exact Nat.le_trans (Nat.mul_le_mul_right _ (show i + 1 ≤ 100001 by omega)) (Nat.le_of_ble_eq_true (by kernel_rfl))
                                  intro t' k1 k2
                                  have k3 := qo.grow k1 k2
                                  conv => whnf
                                  repeat' (first
                                    | (refine ⟨Sub.refl _, ?_⟩)
                                    | (refine brA_split (fun h => ?_) (fun h => ?_) <;> (try rw [h]) <;> (try simp only [Bool.false_eq_true, Bool.true_eq_false, ↓reduceIte, decide_eq_true_eq, decide_eq_false_iff_not, Bool.not_eq_true', Bool.not_eq_false'] at h) <;> (conv => whnf))
                                    | (refine getB_grow ?_; conv => whnf)
                                    | (refine getB_of (by ((repeat (first | exact set_bx_same | assumption | refine (set_bx_other (by assumption)).trans ?_ | refine grow_bx.trans ?_)); done)) ?_; conv => whnf)
                                    | (refine getB_same ?_; conv => whnf)
                                    | (refine AWp.any (by kernel_rfl) (by kernel_rfl) (by kernel_rfl) ?_; conv => whnf)
                                    | (apply And.intro; (focus (first | omega | rfl | decide | exact Nat.le_of_ble_eq_true rfl | ((repeat' (first | exact all_nil | refine all_cons ?_ ?_ | rfl | fail)); done) | (simp [-List.length_flatMap]; done) | (simp [-List.length_flatMap]; omega) | fail)); conv => whnf)
                                    | fail)
                                  refine ⟨(i + 1, t'), (Sto.set _ bo 31 [.str x.1.1, .int .i64 0, .int .i64 0, .slice 0 ((x.2.1.map plDe).map deA), .slice 0 ((x.2.2.1.map plQu).map quA), .slice 0 ((x.2.2.2.1.map plFr).map frA), .slice 0 ((x.2.2.2.2.1.map plSt).map stA), .str x.2.2.2.2.2.1.1, .int .i64 0, .int .i64 0, .slice 0 ((x.2.2.2.2.2.2.1.map plSy).map syA), .slice t' (((x.2.2.2.2.2.2.2.take (i + 1)).map plTn).map tnA)]), by (repeat' (first | exact LeS.nil | refine LeS.cons ?_ ?_ | exact Le.refl _ | (refine Le.of_eq ?_; first | exact rfl | (refine int64_of ?_ ?_ ?_ <;> omega) | fail) | fail)), by (repeat (first | exact Same.refl _ _ | refine Same.upd rfl ?_ | refine Same.updL rfl ?_ | refine Same.havoc rfl ?_)), Weak.box set_bx_same ?_, ⟨by simp only; omega, (by ((repeat (first | exact set_bx_same | assumption | refine (set_bx_other (by assumption)).trans ?_ | refine grow_bx.trans ?_)); done)), (by ((repeat (first | exact set_bx_same | assumption | refine (set_bx_other (by assumption)).trans ?_ | refine grow_bx.trans ?_)); done)), set_bx_same, own_next (Own.set (k3.set g3) g3)⟩, by simp only; omega⟩
                                  refine LeL.cons (Le.refl _) (LeL.cons (Le.refl _) (LeL.cons (Le.refl _) (LeL.cons (Le.refl _) (LeL.cons (Le.refl _) (LeL.cons (Le.refl _) (LeL.cons (Le.refl _) (LeL.cons (Le.refl _) (LeL.cons (Le.refl _) (LeL.cons (Le.refl _) (LeL.cons (Le.refl _) (LeL.cons (Le.inner' ?_) LeL.nil)))))))))))
                                  rw [htk hlt]
                                  show fgE ((((x.2.2.2.2.2.2.2.take i).map plTn).map tnA) ++ [tnA ((0, 0, t2), (plTn u).2)]) = _
                                  rw [fgE_append, fgE_one, fg_tn, fgE_map2 (A := tnA) (f := plTn) (fun z => fg_tn 0 0 z)]
                        · have ht : x.2.2.2.2.2.2.2.take i = x.2.2.2.2.2.2.2 := List.take_of_length_le (by omega)
                          repeat' (first
                            | (exfalso; omega)
                            | (refine ⟨Sub.refl _, ?_⟩)
                            | (refine brA_split (fun h => ?_) (fun h => ?_) <;> (try rw [h]) <;> (try simp only [Bool.false_eq_true, Bool.true_eq_false, ↓reduceIte, decide_eq_true_eq, decide_eq_false_iff_not, Bool.not_eq_true', Bool.not_eq_false'] at h) <;> (conv => whnf))
                            | (refine getB_of (by ((repeat (first | exact set_bx_same | assumption | refine (set_bx_other (by assumption)).trans ?_ | refine grow_bx.trans ?_)); done)) ?_; conv => whnf)
                            | (refine getB_same ?_; conv => whnf)
                            | (refine AWp.any (by kernel_rfl) (by kernel_rfl) (by kernel_rfl) ?_; conv => whnf)
                            | (apply And.intro; (focus (first | omega | rfl | decide | exact Nat.le_of_ble_eq_true rfl | ((repeat' (first | exact all_nil | refine all_cons ?_ ?_ | rfl | fail)); done) | (simp [-List.length_flatMap]; done) | (simp [-List.length_flatMap]; omega) | fail)); conv => whnf)
                            | fail)
                          refine ⟨_, Sub.refl _, ?_, ho.sub.set g2 _ _⟩
                          rw [ht]
                          show fg (.agg [_, _, _, .slice 0 ((x.2.1.map plDe).map deA), .slice 0 ((x.2.2.1.map plQu).map quA), .slice 0 ((x.2.2.2.1.map plFr).map frA), .slice 0 ((x.2.2.2.2.1.map plSt).map stA), _, _, _, .slice 0 ((x.2.2.2.2.2.2.1.map plSy).map syA), .slice t1 ((x.2.2.2.2.2.2.2.map plTn).map tnA)]) = _
                          simp only [fg, fgL]
                          rw [fgE_map2 (A := deA) (f := plDe) (fun z => fg_de 0 z), fgE_map2 (A := quA) (f := plQu) (fun _ => rfl), fgE_map2 (A := frA) (f := plFr) (fun _ => rfl), fgE_map2 (A := stA) (f := plSt) (fun _ => rfl), fgE_map2 (A := syA) (f := plSy) fg_sy, fgE_map2 (A := tnA) (f := plTn) (fun z => fg_tn 0 0 z)]
                          rfl
end Go.Proofs.YtbhemiimdfhjbaaGreatDoor.Tr
