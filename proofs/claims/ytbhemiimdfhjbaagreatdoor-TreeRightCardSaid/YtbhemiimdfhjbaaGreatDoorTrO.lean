/- Chapter 10: without places: what is made of each of a list. (Printed by genN.py.) -/
import Derived.Test.YtbhemiimdfhjbaaGreatDoorTrN
namespace Go.Proofs.YtbhemiimdfhjbaaGreatDoor.Tr
open Go Go.Ab Go.RowKit
variable {Γ : Nat → AV}
attribute [local irreducible] APure Sto.set Sto.grow
set_option maxRecDepth 10000
set_option maxHeartbeats 1000000

def plIdn (x : Idn) : Idn := (x.1, 0, 0)
def plAr (x : Ar) : Ar := (x.1, x.2.1, x.2.2.1, 0, 0)
def plEx (x : Ex) : Ex := (x.1, x.2.1, x.2.2.1, x.2.2.2.1, x.2.2.2.2.1, 0, 0)
def plSe (x : Se) : Se := (plIdn x.1, x.2)
def plQu (x : Qu) : Qu := (x.1, plIdn x.2.1, x.2.2)
def plFr (x : Fr) : Fr := (plIdn x.1, x.2)
def plSt (x : St) : St := (plIdn x.1, x.2.1, x.2.2)
def plDe (x : Nat × De) : Nat × De := (0, plIdn x.2.1, x.2.2)
def plSy (x : Nat × Sy) : Nat × Sy := (0, x.2.1, x.2.2.1.map plAr, 0, 0)
def plTn (x : (Nat × Nat × Nat) × Tn) : (Nat × Nat × Nat) × Tn := ((0, 0, 0), plIdn x.2.1, plIdn x.2.2.1, (plSy (0, x.2.2.2.1)).2, x.2.2.2.2.1.map plEx, x.2.2.2.2.2.1, x.2.2.2.2.2.2.map plSe)
theorem take_map {α : Type} {f : α → α} {A : α → List AV} (d : α) {l : List α} {i : Nat} (h : i < l.length) : ((l.take (i + 1)).map f).map A = ((l.take i).map f).map A ++ [A (f (l.getD i d))] := by
  have e : l.take (i + 1) = l.take i ++ [l.getD i d] := by rw [List.take_add_one, List.getElem?_eq_getElem h, show l.getD i d = l[i] from by simp [List.getD, h]]; rfl
  rw [e, List.map_append, List.map_append]; rfl

theorem plainName_ok (x : Idn) : APure Tryz.prog Γ 19 [.agg (idnA x)] fun v => v = .agg (idnA (plIdn x)) := by
  refine APure.of_awp Tryz.func19 rfl (Nat.le_of_ble_eq_true (by kernel_rfl)) (by kernel_rfl) ?_
  intro s
  conv => whnf
  intro b hb
  conv => whnf
  repeat' (first
    | (refine ⟨Sub.refl _, ?_⟩)
    | (refine brA_split (fun h => ?_) (fun h => ?_) <;> (try rw [h]) <;> (try simp only [Bool.false_eq_true, Bool.true_eq_false, ↓reduceIte, decide_eq_true_eq, decide_eq_false_iff_not, Bool.not_eq_true', Bool.not_eq_false'] at h) <;> (conv => whnf))
    | (refine getB_same ?_; conv => whnf)
    | (refine AWp.any (by kernel_rfl) (by kernel_rfl) (by kernel_rfl) ?_; conv => whnf)
    | (apply And.intro; (focus (first | omega | rfl | decide | exact Nat.le_of_ble_eq_true rfl | ((repeat' (first | exact all_nil | refine all_cons ?_ ?_ | rfl | fail)); done) | (simp [-List.length_flatMap]; done) | (simp [-List.length_flatMap]; omega) | fail)); conv => whnf)
    | fail)
  intro c hc
  conv => whnf
  have hbc := ne_of_none set_bx_same hc
  have hcb : c ≠ b := fun h => hbc h.symm
  have hc' := (none_set hc).2
  repeat' (first
    | (refine ⟨Sub.refl _, ?_⟩)
    | (refine brA_split (fun h => ?_) (fun h => ?_) <;> (try rw [h]) <;> (try simp only [Bool.false_eq_true, Bool.true_eq_false, ↓reduceIte, decide_eq_true_eq, decide_eq_false_iff_not, Bool.not_eq_true', Bool.not_eq_false'] at h) <;> (conv => whnf))
    | (refine getB_of (by ((repeat (first | exact set_bx_same | assumption | refine (set_bx_other (by assumption)).trans ?_)); done)) ?_; conv => whnf)
    | (refine getB_same ?_; conv => whnf)
    | (refine AWp.any (by kernel_rfl) (by kernel_rfl) (by kernel_rfl) ?_; conv => whnf)
    | (apply And.intro; (focus (first | omega | rfl | decide | exact Nat.le_of_ble_eq_true rfl | ((repeat' (first | exact all_nil | refine all_cons ?_ ?_ | rfl | fail)); done) | (simp [-List.length_flatMap]; done) | (simp [-List.length_flatMap]; omega) | fail)); conv => whnf)
    | fail)
  refine ⟨by (repeat (first | exact Sub.refl _ | refine Sub.set ?_ hb _ _ | refine Sub.set ?_ hc' _ _)), rfl⟩

theorem plainQu_ok (x : Qu) : APure Tryz.prog Γ 24 [.agg (quA x)] fun v => v = .agg (quA (plQu x)) := by
  refine APure.of_awp Tryz.func24 rfl (Nat.le_of_ble_eq_true (by kernel_rfl)) (by kernel_rfl) ?_
  intro s
  conv => whnf
  intro b hb
  conv => whnf
  repeat' (first
    | (refine ⟨Sub.refl _, ?_⟩)
    | (refine brA_split (fun h => ?_) (fun h => ?_) <;> (try rw [h]) <;> (try simp only [Bool.false_eq_true, Bool.true_eq_false, ↓reduceIte, decide_eq_true_eq, decide_eq_false_iff_not, Bool.not_eq_true', Bool.not_eq_false'] at h) <;> (conv => whnf))
    | (refine getB_same ?_; conv => whnf)
    | (refine AWp.any (by kernel_rfl) (by kernel_rfl) (by kernel_rfl) ?_; conv => whnf)
    | (apply And.intro; (focus (first | omega | rfl | decide | exact Nat.le_of_ble_eq_true rfl | ((repeat' (first | exact all_nil | refine all_cons ?_ ?_ | rfl | fail)); done) | (simp [-List.length_flatMap]; done) | (simp [-List.length_flatMap]; omega) | fail)); conv => whnf)
    | fail)
  intro c hc
  conv => whnf
  have hbc := ne_of_none set_bx_same hc
  have hcb : c ≠ b := fun h => hbc h.symm
  have hc' := (none_set hc).2
  repeat' (first
    | (refine ⟨Sub.refl _, ?_⟩)
    | (refine brA_split (fun h => ?_) (fun h => ?_) <;> (try rw [h]) <;> (try simp only [Bool.false_eq_true, Bool.true_eq_false, ↓reduceIte, decide_eq_true_eq, decide_eq_false_iff_not, Bool.not_eq_true', Bool.not_eq_false'] at h) <;> (conv => whnf))
    | (refine getB_of (by ((repeat (first | exact set_bx_same | assumption | refine (set_bx_other (by assumption)).trans ?_)); done)) ?_; conv => whnf)
    | (refine ACalls.pure' ?_ (plainName_ok _); rintro _ rfl; conv => whnf)
    | (refine DCall.pure ?_ (plainName_ok _); conv => whnf)
    | (refine getB_same ?_; conv => whnf)
    | (refine AWp.any (by kernel_rfl) (by kernel_rfl) (by kernel_rfl) ?_; conv => whnf)
    | (apply And.intro; (focus (first | omega | rfl | decide | exact Nat.le_of_ble_eq_true rfl | ((repeat' (first | exact all_nil | refine all_cons ?_ ?_ | rfl | fail)); done) | (simp [-List.length_flatMap]; done) | (simp [-List.length_flatMap]; omega) | fail)); conv => whnf)
    | fail)
  refine ⟨by (repeat (first | exact Sub.refl _ | refine Sub.set ?_ hb _ _ | refine Sub.set ?_ hc' _ _)), rfl⟩

theorem plainFr_ok (x : Fr) : APure Tryz.prog Γ 26 [.agg (frA x)] fun v => v = .agg (frA (plFr x)) := by
  refine APure.of_awp Tryz.func26 rfl (Nat.le_of_ble_eq_true (by kernel_rfl)) (by kernel_rfl) ?_
  intro s
  conv => whnf
  intro b hb
  conv => whnf
  repeat' (first
    | (refine ⟨Sub.refl _, ?_⟩)
    | (refine brA_split (fun h => ?_) (fun h => ?_) <;> (try rw [h]) <;> (try simp only [Bool.false_eq_true, Bool.true_eq_false, ↓reduceIte, decide_eq_true_eq, decide_eq_false_iff_not, Bool.not_eq_true', Bool.not_eq_false'] at h) <;> (conv => whnf))
    | (refine getB_same ?_; conv => whnf)
    | (refine AWp.any (by kernel_rfl) (by kernel_rfl) (by kernel_rfl) ?_; conv => whnf)
    | (apply And.intro; (focus (first | omega | rfl | decide | exact Nat.le_of_ble_eq_true rfl | ((repeat' (first | exact all_nil | refine all_cons ?_ ?_ | rfl | fail)); done) | (simp [-List.length_flatMap]; done) | (simp [-List.length_flatMap]; omega) | fail)); conv => whnf)
    | fail)
  intro c hc
  conv => whnf
  have hbc := ne_of_none set_bx_same hc
  have hcb : c ≠ b := fun h => hbc h.symm
  have hc' := (none_set hc).2
  repeat' (first
    | (refine ⟨Sub.refl _, ?_⟩)
    | (refine brA_split (fun h => ?_) (fun h => ?_) <;> (try rw [h]) <;> (try simp only [Bool.false_eq_true, Bool.true_eq_false, ↓reduceIte, decide_eq_true_eq, decide_eq_false_iff_not, Bool.not_eq_true', Bool.not_eq_false'] at h) <;> (conv => whnf))
    | (refine getB_of (by ((repeat (first | exact set_bx_same | assumption | refine (set_bx_other (by assumption)).trans ?_)); done)) ?_; conv => whnf)
    | (refine ACalls.pure' ?_ (plainName_ok _); rintro _ rfl; conv => whnf)
    | (refine DCall.pure ?_ (plainName_ok _); conv => whnf)
    | (refine getB_same ?_; conv => whnf)
    | (refine AWp.any (by kernel_rfl) (by kernel_rfl) (by kernel_rfl) ?_; conv => whnf)
    | (apply And.intro; (focus (first | omega | rfl | decide | exact Nat.le_of_ble_eq_true rfl | ((repeat' (first | exact all_nil | refine all_cons ?_ ?_ | rfl | fail)); done) | (simp [-List.length_flatMap]; done) | (simp [-List.length_flatMap]; omega) | fail)); conv => whnf)
    | fail)
  refine ⟨by (repeat (first | exact Sub.refl _ | refine Sub.set ?_ hb _ _ | refine Sub.set ?_ hc' _ _)), rfl⟩

theorem plainSt_ok (x : St) : APure Tryz.prog Γ 28 [.agg (stA x)] fun v => v = .agg (stA (plSt x)) := by
  refine APure.of_awp Tryz.func28 rfl (Nat.le_of_ble_eq_true (by kernel_rfl)) (by kernel_rfl) ?_
  intro s
  conv => whnf
  intro b hb
  conv => whnf
  repeat' (first
    | (refine ⟨Sub.refl _, ?_⟩)
    | (refine brA_split (fun h => ?_) (fun h => ?_) <;> (try rw [h]) <;> (try simp only [Bool.false_eq_true, Bool.true_eq_false, ↓reduceIte, decide_eq_true_eq, decide_eq_false_iff_not, Bool.not_eq_true', Bool.not_eq_false'] at h) <;> (conv => whnf))
    | (refine getB_same ?_; conv => whnf)
    | (refine AWp.any (by kernel_rfl) (by kernel_rfl) (by kernel_rfl) ?_; conv => whnf)
    | (apply And.intro; (focus (first | omega | rfl | decide | exact Nat.le_of_ble_eq_true rfl | ((repeat' (first | exact all_nil | refine all_cons ?_ ?_ | rfl | fail)); done) | (simp [-List.length_flatMap]; done) | (simp [-List.length_flatMap]; omega) | fail)); conv => whnf)
    | fail)
  intro c hc
  conv => whnf
  have hbc := ne_of_none set_bx_same hc
  have hcb : c ≠ b := fun h => hbc h.symm
  have hc' := (none_set hc).2
  repeat' (first
    | (refine ⟨Sub.refl _, ?_⟩)
    | (refine brA_split (fun h => ?_) (fun h => ?_) <;> (try rw [h]) <;> (try simp only [Bool.false_eq_true, Bool.true_eq_false, ↓reduceIte, decide_eq_true_eq, decide_eq_false_iff_not, Bool.not_eq_true', Bool.not_eq_false'] at h) <;> (conv => whnf))
    | (refine getB_of (by ((repeat (first | exact set_bx_same | assumption | refine (set_bx_other (by assumption)).trans ?_)); done)) ?_; conv => whnf)
    | (refine ACalls.pure' ?_ (plainName_ok _); rintro _ rfl; conv => whnf)
    | (refine DCall.pure ?_ (plainName_ok _); conv => whnf)
    | (refine getB_same ?_; conv => whnf)
    | (refine AWp.any (by kernel_rfl) (by kernel_rfl) (by kernel_rfl) ?_; conv => whnf)
    | (apply And.intro; (focus (first | omega | rfl | decide | exact Nat.le_of_ble_eq_true rfl | ((repeat' (first | exact all_nil | refine all_cons ?_ ?_ | rfl | fail)); done) | (simp [-List.length_flatMap]; done) | (simp [-List.length_flatMap]; omega) | fail)); conv => whnf)
    | fail)
  refine ⟨by (repeat (first | exact Sub.refl _ | refine Sub.set ?_ hb _ _ | refine Sub.set ?_ hc' _ _)), rfl⟩

theorem plainSe_ok (x : Se) : APure Tryz.prog Γ 73 [.agg (seA x)] fun v => v = .agg (seA (plSe x)) := by
  refine APure.of_awp Tryz.func73 rfl (Nat.le_of_ble_eq_true (by kernel_rfl)) (by kernel_rfl) ?_
  intro s
  conv => whnf
  intro b hb
  conv => whnf
  repeat' (first
    | (refine ⟨Sub.refl _, ?_⟩)
    | (refine brA_split (fun h => ?_) (fun h => ?_) <;> (try rw [h]) <;> (try simp only [Bool.false_eq_true, Bool.true_eq_false, ↓reduceIte, decide_eq_true_eq, decide_eq_false_iff_not, Bool.not_eq_true', Bool.not_eq_false'] at h) <;> (conv => whnf))
    | (refine getB_same ?_; conv => whnf)
    | (refine AWp.any (by kernel_rfl) (by kernel_rfl) (by kernel_rfl) ?_; conv => whnf)
    | (apply And.intro; (focus (first | omega | rfl | decide | exact Nat.le_of_ble_eq_true rfl | ((repeat' (first | exact all_nil | refine all_cons ?_ ?_ | rfl | fail)); done) | (simp [-List.length_flatMap]; done) | (simp [-List.length_flatMap]; omega) | fail)); conv => whnf)
    | fail)
  intro c hc
  conv => whnf
  have hbc := ne_of_none set_bx_same hc
  have hcb : c ≠ b := fun h => hbc h.symm
  have hc' := (none_set hc).2
  repeat' (first
    | (refine ⟨Sub.refl _, ?_⟩)
    | (refine brA_split (fun h => ?_) (fun h => ?_) <;> (try rw [h]) <;> (try simp only [Bool.false_eq_true, Bool.true_eq_false, ↓reduceIte, decide_eq_true_eq, decide_eq_false_iff_not, Bool.not_eq_true', Bool.not_eq_false'] at h) <;> (conv => whnf))
    | (refine getB_of (by ((repeat (first | exact set_bx_same | assumption | refine (set_bx_other (by assumption)).trans ?_)); done)) ?_; conv => whnf)
    | (refine ACalls.pure' ?_ (plainName_ok _); rintro _ rfl; conv => whnf)
    | (refine DCall.pure ?_ (plainName_ok _); conv => whnf)
    | (refine getB_same ?_; conv => whnf)
    | (refine AWp.any (by kernel_rfl) (by kernel_rfl) (by kernel_rfl) ?_; conv => whnf)
    | (apply And.intro; (focus (first | omega | rfl | decide | exact Nat.le_of_ble_eq_true rfl | ((repeat' (first | exact all_nil | refine all_cons ?_ ?_ | rfl | fail)); done) | (simp [-List.length_flatMap]; done) | (simp [-List.length_flatMap]; omega) | fail)); conv => whnf)
    | fail)
  refine ⟨by (repeat (first | exact Sub.refl _ | refine Sub.set ?_ hb _ _ | refine Sub.set ?_ hc' _ _)), rfl⟩

theorem plainEx_ok (x : Ex) : APure Tryz.prog Γ 71 [.agg (exA x)] fun v => v = .agg (exA (plEx x)) := by
  refine APure.of_awp Tryz.func71 rfl (Nat.le_of_ble_eq_true (by kernel_rfl)) (by kernel_rfl) ?_
  intro s
  conv => whnf
  intro b hb
  conv => whnf
  repeat' (first
    | (refine ⟨Sub.refl _, ?_⟩)
    | (refine brA_split (fun h => ?_) (fun h => ?_) <;> (try rw [h]) <;> (try simp only [Bool.false_eq_true, Bool.true_eq_false, ↓reduceIte, decide_eq_true_eq, decide_eq_false_iff_not, Bool.not_eq_true', Bool.not_eq_false'] at h) <;> (conv => whnf))
    | (refine getB_same ?_; conv => whnf)
    | (refine AWp.any (by kernel_rfl) (by kernel_rfl) (by kernel_rfl) ?_; conv => whnf)
    | (apply And.intro; (focus (first | omega | rfl | decide | exact Nat.le_of_ble_eq_true rfl | ((repeat' (first | exact all_nil | refine all_cons ?_ ?_ | rfl | fail)); done) | (simp [-List.length_flatMap]; done) | (simp [-List.length_flatMap]; omega) | fail)); conv => whnf)
    | fail)
  intro c hc
  conv => whnf
  have hbc := ne_of_none set_bx_same hc
  have hcb : c ≠ b := fun h => hbc h.symm
  have hc' := (none_set hc).2
  repeat' (first
    | (refine ⟨Sub.refl _, ?_⟩)
    | (refine brA_split (fun h => ?_) (fun h => ?_) <;> (try rw [h]) <;> (try simp only [Bool.false_eq_true, Bool.true_eq_false, ↓reduceIte, decide_eq_true_eq, decide_eq_false_iff_not, Bool.not_eq_true', Bool.not_eq_false'] at h) <;> (conv => whnf))
    | (refine getB_of (by ((repeat (first | exact set_bx_same | assumption | refine (set_bx_other (by assumption)).trans ?_)); done)) ?_; conv => whnf)
    | (refine getB_same ?_; conv => whnf)
    | (refine AWp.any (by kernel_rfl) (by kernel_rfl) (by kernel_rfl) ?_; conv => whnf)
    | (apply And.intro; (focus (first | omega | rfl | decide | exact Nat.le_of_ble_eq_true rfl | ((repeat' (first | exact all_nil | refine all_cons ?_ ?_ | rfl | fail)); done) | (simp [-List.length_flatMap]; done) | (simp [-List.length_flatMap]; omega) | fail)); conv => whnf)
    | fail)
  refine ⟨by (repeat (first | exact Sub.refl _ | refine Sub.set ?_ hb _ _ | refine Sub.set ?_ hc' _ _)), rfl⟩

theorem plainAr_ok (x : Ar) : APure Tryz.prog Γ 69 [.agg (arA x)] fun v => v = .agg (arA (plAr x)) := by
  refine APure.of_awp Tryz.func69 rfl (Nat.le_of_ble_eq_true (by kernel_rfl)) (by kernel_rfl) ?_
  intro s
  conv => whnf
  intro b hb
  conv => whnf
  repeat' (first
    | (refine ⟨Sub.refl _, ?_⟩)
    | (refine brA_split (fun h => ?_) (fun h => ?_) <;> (try rw [h]) <;> (try simp only [Bool.false_eq_true, Bool.true_eq_false, ↓reduceIte, decide_eq_true_eq, decide_eq_false_iff_not, Bool.not_eq_true', Bool.not_eq_false'] at h) <;> (conv => whnf))
    | (refine getB_same ?_; conv => whnf)
    | (refine AWp.any (by kernel_rfl) (by kernel_rfl) (by kernel_rfl) ?_; conv => whnf)
    | (apply And.intro; (focus (first | omega | rfl | decide | exact Nat.le_of_ble_eq_true rfl | ((repeat' (first | exact all_nil | refine all_cons ?_ ?_ | rfl | fail)); done) | (simp [-List.length_flatMap]; done) | (simp [-List.length_flatMap]; omega) | fail)); conv => whnf)
    | fail)
  intro c hc
  conv => whnf
  have hbc := ne_of_none set_bx_same hc
  have hcb : c ≠ b := fun h => hbc h.symm
  have hc' := (none_set hc).2
  repeat' (first
    | (refine ⟨Sub.refl _, ?_⟩)
    | (refine brA_split (fun h => ?_) (fun h => ?_) <;> (try rw [h]) <;> (try simp only [Bool.false_eq_true, Bool.true_eq_false, ↓reduceIte, decide_eq_true_eq, decide_eq_false_iff_not, Bool.not_eq_true', Bool.not_eq_false'] at h) <;> (conv => whnf))
    | (refine getB_of (by ((repeat (first | exact set_bx_same | assumption | refine (set_bx_other (by assumption)).trans ?_)); done)) ?_; conv => whnf)
    | (refine getB_same ?_; conv => whnf)
    | (refine AWp.any (by kernel_rfl) (by kernel_rfl) (by kernel_rfl) ?_; conv => whnf)
    | (apply And.intro; (focus (first | omega | rfl | decide | exact Nat.le_of_ble_eq_true rfl | ((repeat' (first | exact all_nil | refine all_cons ?_ ?_ | rfl | fail)); done) | (simp [-List.length_flatMap]; done) | (simp [-List.length_flatMap]; omega) | fail)); conv => whnf)
    | fail)
  refine ⟨by (repeat (first | exact Sub.refl _ | refine Sub.set ?_ hb _ _ | refine Sub.set ?_ hc' _ _)), rfl⟩

theorem plainDe_ok (x : Nat × De) (hx : x.2.2.length * 8 ≤ 140737488355328) : APure Tryz.prog Γ 21 [.agg (deA x)] fun v => v = .agg (deA (plDe x)) := by
  refine APure.of_awp Tryz.func21 rfl (Nat.le_of_ble_eq_true (by kernel_rfl)) (by kernel_rfl) ?_
  intro s
  conv => whnf
  intro b hb
  conv => whnf
  repeat' (first
    | (refine ⟨Sub.refl _, ?_⟩)
    | (refine brA_split (fun h => ?_) (fun h => ?_) <;> (try rw [h]) <;> (try simp only [Bool.false_eq_true, Bool.true_eq_false, ↓reduceIte, decide_eq_true_eq, decide_eq_false_iff_not, Bool.not_eq_true', Bool.not_eq_false'] at h) <;> (conv => whnf))
    | (refine getB_same ?_; conv => whnf)
    | (refine AWp.any (by kernel_rfl) (by kernel_rfl) (by kernel_rfl) ?_; conv => whnf)
    | (apply And.intro; (focus (first | omega | rfl | decide | exact Nat.le_of_ble_eq_true rfl | ((repeat' (first | exact all_nil | refine all_cons ?_ ?_ | rfl | fail)); done) | (simp [-List.length_flatMap]; done) | (simp [-List.length_flatMap]; omega) | fail)); conv => whnf)
    | fail)
  intro c hc
  conv => whnf
  have hbc := ne_of_none set_bx_same hc
  have hcb : c ≠ b := fun h => hbc h.symm
  have hc' := (none_set hc).2
  repeat' (first
    | (refine ⟨Sub.refl _, ?_⟩)
    | (refine brA_split (fun h => ?_) (fun h => ?_) <;> (try rw [h]) <;> (try simp only [Bool.false_eq_true, Bool.true_eq_false, ↓reduceIte, decide_eq_true_eq, decide_eq_false_iff_not, Bool.not_eq_true', Bool.not_eq_false'] at h) <;> (conv => whnf))
    | (refine getB_of (by ((repeat (first | exact set_bx_same | assumption | refine (set_bx_other (by assumption)).trans ?_)); done)) ?_; conv => whnf)
    | (refine ACalls.pure' ?_ (plainName_ok _); rintro _ rfl; conv => whnf)
    | (refine DCall.pure ?_ (plainName_ok _); conv => whnf)
    | (refine ACalls.pure' ?_ (clone_ok _ _ hx); rintro _ rfl; conv => whnf)
    | (refine DCall.pure ?_ (clone_ok _ _ hx); conv => whnf)
    | (refine getB_same ?_; conv => whnf)
    | (refine AWp.any (by kernel_rfl) (by kernel_rfl) (by kernel_rfl) ?_; conv => whnf)
    | (apply And.intro; (focus (first | omega | rfl | decide | exact Nat.le_of_ble_eq_true rfl | ((repeat' (first | exact all_nil | refine all_cons ?_ ?_ | rfl | fail)); done) | (simp [-List.length_flatMap]; done) | (simp [-List.length_flatMap]; omega) | fail)); conv => whnf)
    | fail)
  refine ⟨by (repeat (first | exact Sub.refl _ | refine Sub.set ?_ hb _ _ | refine Sub.set ?_ hc' _ _)), rfl⟩

theorem eachQu_ok (t : Nat) (l : List (Qu)) (hl : l.length ≤ 100000) : APure Tryz.prog Γ 23 [.slice t (l.map quA), .func (.func 24) [] []] fun v => v = .slice 0 ((l.map plQu).map quA) := by
  refine APure.forget fun s => ?_
  have hml : (l.map quA).length = l.length := List.length_map ..
  refine ACalls.of_awp Tryz.func23 rfl (Nat.le_of_ble_eq_true (by kernel_rfl)) (awp_ok _ (by kernel_rfl) ?_)
  conv => whnf
  repeat' (first
    | (refine ⟨Sub.refl _, ?_⟩)
    | (refine brA_split (fun h => ?_) (fun h => ?_) <;> (try rw [h]) <;> (try simp only [Bool.false_eq_true, Bool.true_eq_false, ↓reduceIte, decide_eq_true_eq, decide_eq_false_iff_not, Bool.not_eq_true', Bool.not_eq_false'] at h) <;> (conv => whnf))
    | (refine getB_same ?_; conv => whnf)
    | (refine AWp.any (by kernel_rfl) (by kernel_rfl) (by kernel_rfl) ?_; conv => whnf)
    | (apply And.intro; (focus (first | omega | rfl | decide | exact Nat.le_of_ble_eq_true rfl | ((repeat' (first | exact all_nil | refine all_cons ?_ ?_ | rfl | fail)); done) | (simp [-List.length_flatMap]; done) | (simp [-List.length_flatMap]; omega) | fail)); conv => whnf)
    | fail)
  refine AWp.loopA [5, 10] [11, 12, 13, 7, 14, 15, 16, 17, 18, 19, 20] (fun x : Nat × Nat => [.slice x.2 (((l.take x.1).map plQu).map quA), .int .i64 x.1]) (fun x s' => x.1 ≤ l.length ∧ Own s s' (x.1 == 0) x.2 57 5) (fun x => l.length - x.1) ((0, 1)) (by kernel_rfl) (by (repeat' (first | refine cons_eq ?_ ?_ | refine int64_of ?_ ?_ ?_ | rfl | omega))) ?_ ?_
  · exact ⟨by simp, Own.nil _ _ _⟩
  · rintro y ⟨i, t1⟩ s1 ⟨hi, ho⟩
    simp only at hi ho
    conv => whnf
    have hga := fun h : i < l.length => map_get (f := quA) (l := l) noQu h
    have htk := fun h : i < l.length => take_map (f := plQu) (A := quA) noQu h
    generalize l.getD i noQu = u at *
    repeat' (first
      | (refine ⟨Sub.refl _, ?_⟩)
      | (refine brA_split (fun h => ?_) (fun h => ?_) <;> (try rw [h]) <;> (try simp only [Bool.false_eq_true, Bool.true_eq_false, ↓reduceIte, decide_eq_true_eq, decide_eq_false_iff_not, Bool.not_eq_true', Bool.not_eq_false'] at h) <;> (conv => whnf))
      | (rw [show (l.map quA).getD ((i : Int)).toNat [] = _ from hga (by omega)]; conv => whnf)
      | (refine getB_same ?_; conv => whnf)
      | (refine AWp.any (by kernel_rfl) (by kernel_rfl) (by kernel_rfl) ?_; conv => whnf)
      | (apply And.intro; (focus (first | omega | rfl | decide | exact Nat.le_of_ble_eq_true rfl | ((repeat' (first | exact all_nil | refine all_cons ?_ ?_ | rfl | fail)); done) | (simp [-List.length_flatMap]; done) | (simp [-List.length_flatMap]; omega) | fail)); conv => whnf)
      | fail)
    · have hlt : i < l.length := by omega
      intro c hc
      conv => whnf
      have hc' := ho.sub.none hc
      refine getB_of set_bx_same ?_
      repeat' (first
        | (refine ⟨Sub.refl _, ?_⟩)
        | (refine brA_split (fun h => ?_) (fun h => ?_) <;> (try rw [h]) <;> (try simp only [Bool.false_eq_true, Bool.true_eq_false, ↓reduceIte, decide_eq_true_eq, decide_eq_false_iff_not, Bool.not_eq_true', Bool.not_eq_false'] at h) <;> (conv => whnf))
        | (refine getB_of set_bx_same ?_; conv => whnf)
        | (refine ACalls.pure' ?_ (plainQu_ok u); rintro _ rfl; conv => whnf)
        | (refine DCall.pure ?_ (plainQu_ok u); conv => whnf)
        | (refine getB_same ?_; conv => whnf)
        | (refine AWp.any (by kernel_rfl) (by kernel_rfl) (by kernel_rfl) ?_; conv => whnf)
        | (apply And.intro; (focus (first | omega | rfl | decide | exact Nat.le_of_ble_eq_true rfl | ((repeat' (first | exact all_nil | refine all_cons ?_ ?_ | rfl | fail)); done) | (simp [-List.length_flatMap]; done) | (simp [-List.length_flatMap]; omega) | fail)); conv => whnf)
        | fail)
      have ho2 := fun (T : TypeId) (a b : List AV) => (ho.set (T := T) (cs := a) hc').set (T := T) (cs := b) hc'
      refine ⟨(ho2 _ _ _).may, fun c hc => ?_, all_cons ⟨rfl, rfl⟩ all_nil, ?_, ?_⟩
      · obtain ⟨z, _, rfl⟩ := List.mem_map.1 hc; rfl
      · show ((((l.take i).map plQu).map quA).length + 1) * (_ + 1) ≤ _
        rw [List.length_map, List.length_map, List.length_take, Nat.min_eq_left (by omega)]
        exact Nat.le_trans (Nat.mul_le_mul_right _ (show i + 1 ≤ 100001 by omega)) (Nat.le_of_ble_eq_true (by kernel_rfl))
      intro t' k1 k2
      have k3 := (ho2 _ _ _).grow k1 k2
      repeat' (first
        | (refine ⟨Sub.refl _, ?_⟩)
        | (refine brA_split (fun h => ?_) (fun h => ?_) <;> (try rw [h]) <;> (try simp only [Bool.false_eq_true, Bool.true_eq_false, ↓reduceIte, decide_eq_true_eq, decide_eq_false_iff_not, Bool.not_eq_true', Bool.not_eq_false'] at h) <;> (conv => whnf))
        | (refine getB_same ?_; conv => whnf)
        | (refine AWp.any (by kernel_rfl) (by kernel_rfl) (by kernel_rfl) ?_; conv => whnf)
        | (apply And.intro; (focus (first | omega | rfl | decide | exact Nat.le_of_ble_eq_true rfl | ((repeat' (first | exact all_nil | refine all_cons ?_ ?_ | rfl | fail)); done) | (simp [-List.length_flatMap]; done) | (simp [-List.length_flatMap]; omega) | fail)); conv => whnf)
        | fail)
      refine ⟨(i + 1, t'), ?_, by (repeat (first | exact Same.refl _ _ | refine Same.upd rfl ?_ | refine Same.updL rfl ?_ | refine Same.havoc rfl ?_)), ⟨by simp only; omega, ?_⟩, by simp only; omega⟩
      · refine cons_eq ?_ (cons_eq (show AV.int .i64 (IntKind.i64.wrap ((i : Int) + 1)) = .int .i64 ((i + 1 : Nat) : Int) from int64_of (by omega) (by omega) (by omega)) rfl)
        show AV.slice _ _ = .slice _ (((l.take (i + 1)).map plQu).map quA)
        rw [htk hlt]; rfl
      · have ez : ∀ (z : Bool) (y : List AV), (z && [y].isEmpty) = false := by intro z y; cases z <;> rfl
        have e2 : (i + 1 == 0) = false := by simp
        show Own _ _ (i + 1 == 0) t' _ _
        rw [ez] at k3
        rw [e2]
        exact k3
    · have ht : l.take i = l := List.take_of_length_le (by omega)
      refine ⟨s1, Sub.refl _, ⟨t1, ?_⟩, ho.sub⟩
      rw [ht]
      rfl

theorem eachFr_ok (t : Nat) (l : List (Fr)) (hl : l.length ≤ 100000) : APure Tryz.prog Γ 25 [.slice t (l.map frA), .func (.func 26) [] []] fun v => v = .slice 0 ((l.map plFr).map frA) := by
  refine APure.forget fun s => ?_
  have hml : (l.map frA).length = l.length := List.length_map ..
  refine ACalls.of_awp Tryz.func25 rfl (Nat.le_of_ble_eq_true (by kernel_rfl)) (awp_ok _ (by kernel_rfl) ?_)
  conv => whnf
  repeat' (first
    | (refine ⟨Sub.refl _, ?_⟩)
    | (refine brA_split (fun h => ?_) (fun h => ?_) <;> (try rw [h]) <;> (try simp only [Bool.false_eq_true, Bool.true_eq_false, ↓reduceIte, decide_eq_true_eq, decide_eq_false_iff_not, Bool.not_eq_true', Bool.not_eq_false'] at h) <;> (conv => whnf))
    | (refine getB_same ?_; conv => whnf)
    | (refine AWp.any (by kernel_rfl) (by kernel_rfl) (by kernel_rfl) ?_; conv => whnf)
    | (apply And.intro; (focus (first | omega | rfl | decide | exact Nat.le_of_ble_eq_true rfl | ((repeat' (first | exact all_nil | refine all_cons ?_ ?_ | rfl | fail)); done) | (simp [-List.length_flatMap]; done) | (simp [-List.length_flatMap]; omega) | fail)); conv => whnf)
    | fail)
  refine AWp.loopA [5, 10] [11, 12, 13, 7, 14, 15, 16, 17, 18, 19, 20] (fun x : Nat × Nat => [.slice x.2 (((l.take x.1).map plFr).map frA), .int .i64 x.1]) (fun x s' => x.1 ≤ l.length ∧ Own s s' (x.1 == 0) x.2 43 7) (fun x => l.length - x.1) ((0, 1)) (by kernel_rfl) (by (repeat' (first | refine cons_eq ?_ ?_ | refine int64_of ?_ ?_ ?_ | rfl | omega))) ?_ ?_
  · exact ⟨by simp, Own.nil _ _ _⟩
  · rintro y ⟨i, t1⟩ s1 ⟨hi, ho⟩
    simp only at hi ho
    conv => whnf
    have hga := fun h : i < l.length => map_get (f := frA) (l := l) noFr h
    have htk := fun h : i < l.length => take_map (f := plFr) (A := frA) noFr h
    generalize l.getD i noFr = u at *
    repeat' (first
      | (refine ⟨Sub.refl _, ?_⟩)
      | (refine brA_split (fun h => ?_) (fun h => ?_) <;> (try rw [h]) <;> (try simp only [Bool.false_eq_true, Bool.true_eq_false, ↓reduceIte, decide_eq_true_eq, decide_eq_false_iff_not, Bool.not_eq_true', Bool.not_eq_false'] at h) <;> (conv => whnf))
      | (rw [show (l.map frA).getD ((i : Int)).toNat [] = _ from hga (by omega)]; conv => whnf)
      | (refine getB_same ?_; conv => whnf)
      | (refine AWp.any (by kernel_rfl) (by kernel_rfl) (by kernel_rfl) ?_; conv => whnf)
      | (apply And.intro; (focus (first | omega | rfl | decide | exact Nat.le_of_ble_eq_true rfl | ((repeat' (first | exact all_nil | refine all_cons ?_ ?_ | rfl | fail)); done) | (simp [-List.length_flatMap]; done) | (simp [-List.length_flatMap]; omega) | fail)); conv => whnf)
      | fail)
    · have hlt : i < l.length := by omega
      intro c hc
      conv => whnf
      have hc' := ho.sub.none hc
      refine getB_of set_bx_same ?_
      repeat' (first
        | (refine ⟨Sub.refl _, ?_⟩)
        | (refine brA_split (fun h => ?_) (fun h => ?_) <;> (try rw [h]) <;> (try simp only [Bool.false_eq_true, Bool.true_eq_false, ↓reduceIte, decide_eq_true_eq, decide_eq_false_iff_not, Bool.not_eq_true', Bool.not_eq_false'] at h) <;> (conv => whnf))
        | (refine getB_of set_bx_same ?_; conv => whnf)
        | (refine ACalls.pure' ?_ (plainFr_ok u); rintro _ rfl; conv => whnf)
        | (refine DCall.pure ?_ (plainFr_ok u); conv => whnf)
        | (refine getB_same ?_; conv => whnf)
        | (refine AWp.any (by kernel_rfl) (by kernel_rfl) (by kernel_rfl) ?_; conv => whnf)
        | (apply And.intro; (focus (first | omega | rfl | decide | exact Nat.le_of_ble_eq_true rfl | ((repeat' (first | exact all_nil | refine all_cons ?_ ?_ | rfl | fail)); done) | (simp [-List.length_flatMap]; done) | (simp [-List.length_flatMap]; omega) | fail)); conv => whnf)
        | fail)
      have ho2 := fun (T : TypeId) (a b : List AV) => (ho.set (T := T) (cs := a) hc').set (T := T) (cs := b) hc'
      refine ⟨(ho2 _ _ _).may, fun c hc => ?_, all_cons ⟨rfl, rfl⟩ all_nil, ?_, ?_⟩
      · obtain ⟨z, _, rfl⟩ := List.mem_map.1 hc; rfl
      · show ((((l.take i).map plFr).map frA).length + 1) * (_ + 1) ≤ _
        rw [List.length_map, List.length_map, List.length_take, Nat.min_eq_left (by omega)]
        exact Nat.le_trans (Nat.mul_le_mul_right _ (show i + 1 ≤ 100001 by omega)) (Nat.le_of_ble_eq_true (by kernel_rfl))
      intro t' k1 k2
      have k3 := (ho2 _ _ _).grow k1 k2
      repeat' (first
        | (refine ⟨Sub.refl _, ?_⟩)
        | (refine brA_split (fun h => ?_) (fun h => ?_) <;> (try rw [h]) <;> (try simp only [Bool.false_eq_true, Bool.true_eq_false, ↓reduceIte, decide_eq_true_eq, decide_eq_false_iff_not, Bool.not_eq_true', Bool.not_eq_false'] at h) <;> (conv => whnf))
        | (refine getB_same ?_; conv => whnf)
        | (refine AWp.any (by kernel_rfl) (by kernel_rfl) (by kernel_rfl) ?_; conv => whnf)
        | (apply And.intro; (focus (first | omega | rfl | decide | exact Nat.le_of_ble_eq_true rfl | ((repeat' (first | exact all_nil | refine all_cons ?_ ?_ | rfl | fail)); done) | (simp [-List.length_flatMap]; done) | (simp [-List.length_flatMap]; omega) | fail)); conv => whnf)
        | fail)
      refine ⟨(i + 1, t'), ?_, by (repeat (first | exact Same.refl _ _ | refine Same.upd rfl ?_ | refine Same.updL rfl ?_ | refine Same.havoc rfl ?_)), ⟨by simp only; omega, ?_⟩, by simp only; omega⟩
      · refine cons_eq ?_ (cons_eq (show AV.int .i64 (IntKind.i64.wrap ((i : Int) + 1)) = .int .i64 ((i + 1 : Nat) : Int) from int64_of (by omega) (by omega) (by omega)) rfl)
        show AV.slice _ _ = .slice _ (((l.take (i + 1)).map plFr).map frA)
        rw [htk hlt]; rfl
      · have ez : ∀ (z : Bool) (y : List AV), (z && [y].isEmpty) = false := by intro z y; cases z <;> rfl
        have e2 : (i + 1 == 0) = false := by simp
        show Own _ _ (i + 1 == 0) t' _ _
        rw [ez] at k3
        rw [e2]
        exact k3
    · have ht : l.take i = l := List.take_of_length_le (by omega)
      refine ⟨s1, Sub.refl _, ⟨t1, ?_⟩, ho.sub⟩
      rw [ht]
      rfl

theorem eachSt_ok (t : Nat) (l : List (St)) (hl : l.length ≤ 100000) : APure Tryz.prog Γ 27 [.slice t (l.map stA), .func (.func 28) [] []] fun v => v = .slice 0 ((l.map plSt).map stA) := by
  refine APure.forget fun s => ?_
  have hml : (l.map stA).length = l.length := List.length_map ..
  refine ACalls.of_awp Tryz.func27 rfl (Nat.le_of_ble_eq_true (by kernel_rfl)) (awp_ok _ (by kernel_rfl) ?_)
  conv => whnf
  repeat' (first
    | (refine ⟨Sub.refl _, ?_⟩)
    | (refine brA_split (fun h => ?_) (fun h => ?_) <;> (try rw [h]) <;> (try simp only [Bool.false_eq_true, Bool.true_eq_false, ↓reduceIte, decide_eq_true_eq, decide_eq_false_iff_not, Bool.not_eq_true', Bool.not_eq_false'] at h) <;> (conv => whnf))
    | (refine getB_same ?_; conv => whnf)
    | (refine AWp.any (by kernel_rfl) (by kernel_rfl) (by kernel_rfl) ?_; conv => whnf)
    | (apply And.intro; (focus (first | omega | rfl | decide | exact Nat.le_of_ble_eq_true rfl | ((repeat' (first | exact all_nil | refine all_cons ?_ ?_ | rfl | fail)); done) | (simp [-List.length_flatMap]; done) | (simp [-List.length_flatMap]; omega) | fail)); conv => whnf)
    | fail)
  refine AWp.loopA [5, 10] [11, 12, 13, 7, 14, 15, 16, 17, 18, 19, 20] (fun x : Nat × Nat => [.slice x.2 (((l.take x.1).map plSt).map stA), .int .i64 x.1]) (fun x s' => x.1 ≤ l.length ∧ Own s s' (x.1 == 0) x.2 60 5) (fun x => l.length - x.1) ((0, 1)) (by kernel_rfl) (by (repeat' (first | refine cons_eq ?_ ?_ | refine int64_of ?_ ?_ ?_ | rfl | omega))) ?_ ?_
  · exact ⟨by simp, Own.nil _ _ _⟩
  · rintro y ⟨i, t1⟩ s1 ⟨hi, ho⟩
    simp only at hi ho
    conv => whnf
    have hga := fun h : i < l.length => map_get (f := stA) (l := l) noSt h
    have htk := fun h : i < l.length => take_map (f := plSt) (A := stA) noSt h
    generalize l.getD i noSt = u at *
    repeat' (first
      | (refine ⟨Sub.refl _, ?_⟩)
      | (refine brA_split (fun h => ?_) (fun h => ?_) <;> (try rw [h]) <;> (try simp only [Bool.false_eq_true, Bool.true_eq_false, ↓reduceIte, decide_eq_true_eq, decide_eq_false_iff_not, Bool.not_eq_true', Bool.not_eq_false'] at h) <;> (conv => whnf))
      | (rw [show (l.map stA).getD ((i : Int)).toNat [] = _ from hga (by omega)]; conv => whnf)
      | (refine getB_same ?_; conv => whnf)
      | (refine AWp.any (by kernel_rfl) (by kernel_rfl) (by kernel_rfl) ?_; conv => whnf)
      | (apply And.intro; (focus (first | omega | rfl | decide | exact Nat.le_of_ble_eq_true rfl | ((repeat' (first | exact all_nil | refine all_cons ?_ ?_ | rfl | fail)); done) | (simp [-List.length_flatMap]; done) | (simp [-List.length_flatMap]; omega) | fail)); conv => whnf)
      | fail)
    · have hlt : i < l.length := by omega
      intro c hc
      conv => whnf
      have hc' := ho.sub.none hc
      refine getB_of set_bx_same ?_
      repeat' (first
        | (refine ⟨Sub.refl _, ?_⟩)
        | (refine brA_split (fun h => ?_) (fun h => ?_) <;> (try rw [h]) <;> (try simp only [Bool.false_eq_true, Bool.true_eq_false, ↓reduceIte, decide_eq_true_eq, decide_eq_false_iff_not, Bool.not_eq_true', Bool.not_eq_false'] at h) <;> (conv => whnf))
        | (refine getB_of set_bx_same ?_; conv => whnf)
        | (refine ACalls.pure' ?_ (plainSt_ok u); rintro _ rfl; conv => whnf)
        | (refine DCall.pure ?_ (plainSt_ok u); conv => whnf)
        | (refine getB_same ?_; conv => whnf)
        | (refine AWp.any (by kernel_rfl) (by kernel_rfl) (by kernel_rfl) ?_; conv => whnf)
        | (apply And.intro; (focus (first | omega | rfl | decide | exact Nat.le_of_ble_eq_true rfl | ((repeat' (first | exact all_nil | refine all_cons ?_ ?_ | rfl | fail)); done) | (simp [-List.length_flatMap]; done) | (simp [-List.length_flatMap]; omega) | fail)); conv => whnf)
        | fail)
      have ho2 := fun (T : TypeId) (a b : List AV) => (ho.set (T := T) (cs := a) hc').set (T := T) (cs := b) hc'
      refine ⟨(ho2 _ _ _).may, fun c hc => ?_, all_cons ⟨rfl, rfl⟩ all_nil, ?_, ?_⟩
      · obtain ⟨z, _, rfl⟩ := List.mem_map.1 hc; rfl
      · show ((((l.take i).map plSt).map stA).length + 1) * (_ + 1) ≤ _
        rw [List.length_map, List.length_map, List.length_take, Nat.min_eq_left (by omega)]
        exact Nat.le_trans (Nat.mul_le_mul_right _ (show i + 1 ≤ 100001 by omega)) (Nat.le_of_ble_eq_true (by kernel_rfl))
      intro t' k1 k2
      have k3 := (ho2 _ _ _).grow k1 k2
      repeat' (first
        | (refine ⟨Sub.refl _, ?_⟩)
        | (refine brA_split (fun h => ?_) (fun h => ?_) <;> (try rw [h]) <;> (try simp only [Bool.false_eq_true, Bool.true_eq_false, ↓reduceIte, decide_eq_true_eq, decide_eq_false_iff_not, Bool.not_eq_true', Bool.not_eq_false'] at h) <;> (conv => whnf))
        | (refine getB_same ?_; conv => whnf)
        | (refine AWp.any (by kernel_rfl) (by kernel_rfl) (by kernel_rfl) ?_; conv => whnf)
        | (apply And.intro; (focus (first | omega | rfl | decide | exact Nat.le_of_ble_eq_true rfl | ((repeat' (first | exact all_nil | refine all_cons ?_ ?_ | rfl | fail)); done) | (simp [-List.length_flatMap]; done) | (simp [-List.length_flatMap]; omega) | fail)); conv => whnf)
        | fail)
      refine ⟨(i + 1, t'), ?_, by (repeat (first | exact Same.refl _ _ | refine Same.upd rfl ?_ | refine Same.updL rfl ?_ | refine Same.havoc rfl ?_)), ⟨by simp only; omega, ?_⟩, by simp only; omega⟩
      · refine cons_eq ?_ (cons_eq (show AV.int .i64 (IntKind.i64.wrap ((i : Int) + 1)) = .int .i64 ((i + 1 : Nat) : Int) from int64_of (by omega) (by omega) (by omega)) rfl)
        show AV.slice _ _ = .slice _ (((l.take (i + 1)).map plSt).map stA)
        rw [htk hlt]; rfl
      · have ez : ∀ (z : Bool) (y : List AV), (z && [y].isEmpty) = false := by intro z y; cases z <;> rfl
        have e2 : (i + 1 == 0) = false := by simp
        show Own _ _ (i + 1 == 0) t' _ _
        rw [ez] at k3
        rw [e2]
        exact k3
    · have ht : l.take i = l := List.take_of_length_le (by omega)
      refine ⟨s1, Sub.refl _, ⟨t1, ?_⟩, ho.sub⟩
      rw [ht]
      rfl

theorem eachSe_ok (t : Nat) (l : List (Se)) (hl : l.length ≤ 100000) : APure Tryz.prog Γ 72 [.slice t (l.map seA), .func (.func 73) [] []] fun v => v = .slice 0 ((l.map plSe).map seA) := by
  refine APure.forget fun s => ?_
  have hml : (l.map seA).length = l.length := List.length_map ..
  refine ACalls.of_awp Tryz.func72 rfl (Nat.le_of_ble_eq_true (by kernel_rfl)) (awp_ok _ (by kernel_rfl) ?_)
  conv => whnf
  repeat' (first
    | (refine ⟨Sub.refl _, ?_⟩)
    | (refine brA_split (fun h => ?_) (fun h => ?_) <;> (try rw [h]) <;> (try simp only [Bool.false_eq_true, Bool.true_eq_false, ↓reduceIte, decide_eq_true_eq, decide_eq_false_iff_not, Bool.not_eq_true', Bool.not_eq_false'] at h) <;> (conv => whnf))
    | (refine getB_same ?_; conv => whnf)
    | (refine AWp.any (by kernel_rfl) (by kernel_rfl) (by kernel_rfl) ?_; conv => whnf)
    | (apply And.intro; (focus (first | omega | rfl | decide | exact Nat.le_of_ble_eq_true rfl | ((repeat' (first | exact all_nil | refine all_cons ?_ ?_ | rfl | fail)); done) | (simp [-List.length_flatMap]; done) | (simp [-List.length_flatMap]; omega) | fail)); conv => whnf)
    | fail)
  refine AWp.loopA [5, 10] [11, 12, 13, 7, 14, 15, 16, 17, 18, 19, 20] (fun x : Nat × Nat => [.slice x.2 (((l.take x.1).map plSe).map seA), .int .i64 x.1]) (fun x s' => x.1 ≤ l.length ∧ Own s s' (x.1 == 0) x.2 92 4) (fun x => l.length - x.1) ((0, 1)) (by kernel_rfl) (by (repeat' (first | refine cons_eq ?_ ?_ | refine int64_of ?_ ?_ ?_ | rfl | omega))) ?_ ?_
  · exact ⟨by simp, Own.nil _ _ _⟩
  · rintro y ⟨i, t1⟩ s1 ⟨hi, ho⟩
    simp only at hi ho
    conv => whnf
    have hga := fun h : i < l.length => map_get (f := seA) (l := l) noSe h
    have htk := fun h : i < l.length => take_map (f := plSe) (A := seA) noSe h
    generalize l.getD i noSe = u at *
    repeat' (first
      | (refine ⟨Sub.refl _, ?_⟩)
      | (refine brA_split (fun h => ?_) (fun h => ?_) <;> (try rw [h]) <;> (try simp only [Bool.false_eq_true, Bool.true_eq_false, ↓reduceIte, decide_eq_true_eq, decide_eq_false_iff_not, Bool.not_eq_true', Bool.not_eq_false'] at h) <;> (conv => whnf))
      | (rw [show (l.map seA).getD ((i : Int)).toNat [] = _ from hga (by omega)]; conv => whnf)
      | (refine getB_same ?_; conv => whnf)
      | (refine AWp.any (by kernel_rfl) (by kernel_rfl) (by kernel_rfl) ?_; conv => whnf)
      | (apply And.intro; (focus (first | omega | rfl | decide | exact Nat.le_of_ble_eq_true rfl | ((repeat' (first | exact all_nil | refine all_cons ?_ ?_ | rfl | fail)); done) | (simp [-List.length_flatMap]; done) | (simp [-List.length_flatMap]; omega) | fail)); conv => whnf)
      | fail)
    · have hlt : i < l.length := by omega
      intro c hc
      conv => whnf
      have hc' := ho.sub.none hc
      refine getB_of set_bx_same ?_
      repeat' (first
        | (refine ⟨Sub.refl _, ?_⟩)
        | (refine brA_split (fun h => ?_) (fun h => ?_) <;> (try rw [h]) <;> (try simp only [Bool.false_eq_true, Bool.true_eq_false, ↓reduceIte, decide_eq_true_eq, decide_eq_false_iff_not, Bool.not_eq_true', Bool.not_eq_false'] at h) <;> (conv => whnf))
        | (refine getB_of set_bx_same ?_; conv => whnf)
        | (refine ACalls.pure' ?_ (plainSe_ok u); rintro _ rfl; conv => whnf)
        | (refine DCall.pure ?_ (plainSe_ok u); conv => whnf)
        | (refine getB_same ?_; conv => whnf)
        | (refine AWp.any (by kernel_rfl) (by kernel_rfl) (by kernel_rfl) ?_; conv => whnf)
        | (apply And.intro; (focus (first | omega | rfl | decide | exact Nat.le_of_ble_eq_true rfl | ((repeat' (first | exact all_nil | refine all_cons ?_ ?_ | rfl | fail)); done) | (simp [-List.length_flatMap]; done) | (simp [-List.length_flatMap]; omega) | fail)); conv => whnf)
        | fail)
      have ho2 := fun (T : TypeId) (a b : List AV) => (ho.set (T := T) (cs := a) hc').set (T := T) (cs := b) hc'
      refine ⟨(ho2 _ _ _).may, fun c hc => ?_, all_cons ⟨rfl, rfl⟩ all_nil, ?_, ?_⟩
      · obtain ⟨z, _, rfl⟩ := List.mem_map.1 hc; rfl
      · show ((((l.take i).map plSe).map seA).length + 1) * (_ + 1) ≤ _
        rw [List.length_map, List.length_map, List.length_take, Nat.min_eq_left (by omega)]
        exact Nat.le_trans (Nat.mul_le_mul_right _ (show i + 1 ≤ 100001 by omega)) (Nat.le_of_ble_eq_true (by kernel_rfl))
      intro t' k1 k2
      have k3 := (ho2 _ _ _).grow k1 k2
      repeat' (first
        | (refine ⟨Sub.refl _, ?_⟩)
        | (refine brA_split (fun h => ?_) (fun h => ?_) <;> (try rw [h]) <;> (try simp only [Bool.false_eq_true, Bool.true_eq_false, ↓reduceIte, decide_eq_true_eq, decide_eq_false_iff_not, Bool.not_eq_true', Bool.not_eq_false'] at h) <;> (conv => whnf))
        | (refine getB_same ?_; conv => whnf)
        | (refine AWp.any (by kernel_rfl) (by kernel_rfl) (by kernel_rfl) ?_; conv => whnf)
        | (apply And.intro; (focus (first | omega | rfl | decide | exact Nat.le_of_ble_eq_true rfl | ((repeat' (first | exact all_nil | refine all_cons ?_ ?_ | rfl | fail)); done) | (simp [-List.length_flatMap]; done) | (simp [-List.length_flatMap]; omega) | fail)); conv => whnf)
        | fail)
      refine ⟨(i + 1, t'), ?_, by (repeat (first | exact Same.refl _ _ | refine Same.upd rfl ?_ | refine Same.updL rfl ?_ | refine Same.havoc rfl ?_)), ⟨by simp only; omega, ?_⟩, by simp only; omega⟩
      · refine cons_eq ?_ (cons_eq (show AV.int .i64 (IntKind.i64.wrap ((i : Int) + 1)) = .int .i64 ((i + 1 : Nat) : Int) from int64_of (by omega) (by omega) (by omega)) rfl)
        show AV.slice _ _ = .slice _ (((l.take (i + 1)).map plSe).map seA)
        rw [htk hlt]; rfl
      · have ez : ∀ (z : Bool) (y : List AV), (z && [y].isEmpty) = false := by intro z y; cases z <;> rfl
        have e2 : (i + 1 == 0) = false := by simp
        show Own _ _ (i + 1 == 0) t' _ _
        rw [ez] at k3
        rw [e2]
        exact k3
    · have ht : l.take i = l := List.take_of_length_le (by omega)
      refine ⟨s1, Sub.refl _, ⟨t1, ?_⟩, ho.sub⟩
      rw [ht]
      rfl

theorem eachEx_ok (t : Nat) (l : List (Ex)) (hl : l.length ≤ 100000) : APure Tryz.prog Γ 70 [.slice t (l.map exA), .func (.func 71) [] []] fun v => v = .slice 0 ((l.map plEx).map exA) := by
  refine APure.forget fun s => ?_
  have hml : (l.map exA).length = l.length := List.length_map ..
  refine ACalls.of_awp Tryz.func70 rfl (Nat.le_of_ble_eq_true (by kernel_rfl)) (awp_ok _ (by kernel_rfl) ?_)
  conv => whnf
  repeat' (first
    | (refine ⟨Sub.refl _, ?_⟩)
    | (refine brA_split (fun h => ?_) (fun h => ?_) <;> (try rw [h]) <;> (try simp only [Bool.false_eq_true, Bool.true_eq_false, ↓reduceIte, decide_eq_true_eq, decide_eq_false_iff_not, Bool.not_eq_true', Bool.not_eq_false'] at h) <;> (conv => whnf))
    | (refine getB_same ?_; conv => whnf)
    | (refine AWp.any (by kernel_rfl) (by kernel_rfl) (by kernel_rfl) ?_; conv => whnf)
    | (apply And.intro; (focus (first | omega | rfl | decide | exact Nat.le_of_ble_eq_true rfl | ((repeat' (first | exact all_nil | refine all_cons ?_ ?_ | rfl | fail)); done) | (simp [-List.length_flatMap]; done) | (simp [-List.length_flatMap]; omega) | fail)); conv => whnf)
    | fail)
  refine AWp.loopA [5, 10] [11, 12, 13, 7, 14, 15, 16, 17, 18, 19, 20] (fun x : Nat × Nat => [.slice x.2 (((l.take x.1).map plEx).map exA), .int .i64 x.1]) (fun x s' => x.1 ≤ l.length ∧ Own s s' (x.1 == 0) x.2 53 10) (fun x => l.length - x.1) ((0, 1)) (by kernel_rfl) (by (repeat' (first | refine cons_eq ?_ ?_ | refine int64_of ?_ ?_ ?_ | rfl | omega))) ?_ ?_
  · exact ⟨by simp, Own.nil _ _ _⟩
  · rintro y ⟨i, t1⟩ s1 ⟨hi, ho⟩
    simp only at hi ho
    conv => whnf
    have hga := fun h : i < l.length => map_get (f := exA) (l := l) noEx h
    have htk := fun h : i < l.length => take_map (f := plEx) (A := exA) noEx h
    generalize l.getD i noEx = u at *
    repeat' (first
      | (refine ⟨Sub.refl _, ?_⟩)
      | (refine brA_split (fun h => ?_) (fun h => ?_) <;> (try rw [h]) <;> (try simp only [Bool.false_eq_true, Bool.true_eq_false, ↓reduceIte, decide_eq_true_eq, decide_eq_false_iff_not, Bool.not_eq_true', Bool.not_eq_false'] at h) <;> (conv => whnf))
      | (rw [show (l.map exA).getD ((i : Int)).toNat [] = _ from hga (by omega)]; conv => whnf)
      | (refine getB_same ?_; conv => whnf)
      | (refine AWp.any (by kernel_rfl) (by kernel_rfl) (by kernel_rfl) ?_; conv => whnf)
      | (apply And.intro; (focus (first | omega | rfl | decide | exact Nat.le_of_ble_eq_true rfl | ((repeat' (first | exact all_nil | refine all_cons ?_ ?_ | rfl | fail)); done) | (simp [-List.length_flatMap]; done) | (simp [-List.length_flatMap]; omega) | fail)); conv => whnf)
      | fail)
    · have hlt : i < l.length := by omega
      intro c hc
      conv => whnf
      have hc' := ho.sub.none hc
      refine getB_of set_bx_same ?_
      repeat' (first
        | (refine ⟨Sub.refl _, ?_⟩)
        | (refine brA_split (fun h => ?_) (fun h => ?_) <;> (try rw [h]) <;> (try simp only [Bool.false_eq_true, Bool.true_eq_false, ↓reduceIte, decide_eq_true_eq, decide_eq_false_iff_not, Bool.not_eq_true', Bool.not_eq_false'] at h) <;> (conv => whnf))
        | (refine getB_of set_bx_same ?_; conv => whnf)
        | (refine ACalls.pure' ?_ (plainEx_ok u); rintro _ rfl; conv => whnf)
        | (refine DCall.pure ?_ (plainEx_ok u); conv => whnf)
        | (refine getB_same ?_; conv => whnf)
        | (refine AWp.any (by kernel_rfl) (by kernel_rfl) (by kernel_rfl) ?_; conv => whnf)
        | (apply And.intro; (focus (first | omega | rfl | decide | exact Nat.le_of_ble_eq_true rfl | ((repeat' (first | exact all_nil | refine all_cons ?_ ?_ | rfl | fail)); done) | (simp [-List.length_flatMap]; done) | (simp [-List.length_flatMap]; omega) | fail)); conv => whnf)
        | fail)
      have ho2 := fun (T : TypeId) (a b : List AV) => (ho.set (T := T) (cs := a) hc').set (T := T) (cs := b) hc'
      refine ⟨(ho2 _ _ _).may, fun c hc => ?_, all_cons ⟨rfl, rfl⟩ all_nil, ?_, ?_⟩
      · obtain ⟨z, _, rfl⟩ := List.mem_map.1 hc; rfl
      · show ((((l.take i).map plEx).map exA).length + 1) * (_ + 1) ≤ _
        rw [List.length_map, List.length_map, List.length_take, Nat.min_eq_left (by omega)]
        exact Nat.le_trans (Nat.mul_le_mul_right _ (show i + 1 ≤ 100001 by omega)) (Nat.le_of_ble_eq_true (by kernel_rfl))
      intro t' k1 k2
      have k3 := (ho2 _ _ _).grow k1 k2
      repeat' (first
        | (refine ⟨Sub.refl _, ?_⟩)
        | (refine brA_split (fun h => ?_) (fun h => ?_) <;> (try rw [h]) <;> (try simp only [Bool.false_eq_true, Bool.true_eq_false, ↓reduceIte, decide_eq_true_eq, decide_eq_false_iff_not, Bool.not_eq_true', Bool.not_eq_false'] at h) <;> (conv => whnf))
        | (refine getB_same ?_; conv => whnf)
        | (refine AWp.any (by kernel_rfl) (by kernel_rfl) (by kernel_rfl) ?_; conv => whnf)
        | (apply And.intro; (focus (first | omega | rfl | decide | exact Nat.le_of_ble_eq_true rfl | ((repeat' (first | exact all_nil | refine all_cons ?_ ?_ | rfl | fail)); done) | (simp [-List.length_flatMap]; done) | (simp [-List.length_flatMap]; omega) | fail)); conv => whnf)
        | fail)
      refine ⟨(i + 1, t'), ?_, by (repeat (first | exact Same.refl _ _ | refine Same.upd rfl ?_ | refine Same.updL rfl ?_ | refine Same.havoc rfl ?_)), ⟨by simp only; omega, ?_⟩, by simp only; omega⟩
      · refine cons_eq ?_ (cons_eq (show AV.int .i64 (IntKind.i64.wrap ((i : Int) + 1)) = .int .i64 ((i + 1 : Nat) : Int) from int64_of (by omega) (by omega) (by omega)) rfl)
        show AV.slice _ _ = .slice _ (((l.take (i + 1)).map plEx).map exA)
        rw [htk hlt]; rfl
      · have ez : ∀ (z : Bool) (y : List AV), (z && [y].isEmpty) = false := by intro z y; cases z <;> rfl
        have e2 : (i + 1 == 0) = false := by simp
        show Own _ _ (i + 1 == 0) t' _ _
        rw [ez] at k3
        rw [e2]
        exact k3
    · have ht : l.take i = l := List.take_of_length_le (by omega)
      refine ⟨s1, Sub.refl _, ⟨t1, ?_⟩, ho.sub⟩
      rw [ht]
      rfl

theorem eachAr_ok (t : Nat) (l : List (Ar)) (hl : l.length ≤ 100000) : APure Tryz.prog Γ 68 [.slice t (l.map arA), .func (.func 69) [] []] fun v => v = .slice 0 ((l.map plAr).map arA) := by
  refine APure.forget fun s => ?_
  have hml : (l.map arA).length = l.length := List.length_map ..
  refine ACalls.of_awp Tryz.func68 rfl (Nat.le_of_ble_eq_true (by kernel_rfl)) (awp_ok _ (by kernel_rfl) ?_)
  conv => whnf
  repeat' (first
    | (refine ⟨Sub.refl _, ?_⟩)
    | (refine brA_split (fun h => ?_) (fun h => ?_) <;> (try rw [h]) <;> (try simp only [Bool.false_eq_true, Bool.true_eq_false, ↓reduceIte, decide_eq_true_eq, decide_eq_false_iff_not, Bool.not_eq_true', Bool.not_eq_false'] at h) <;> (conv => whnf))
    | (refine getB_same ?_; conv => whnf)
    | (refine AWp.any (by kernel_rfl) (by kernel_rfl) (by kernel_rfl) ?_; conv => whnf)
    | (apply And.intro; (focus (first | omega | rfl | decide | exact Nat.le_of_ble_eq_true rfl | ((repeat' (first | exact all_nil | refine all_cons ?_ ?_ | rfl | fail)); done) | (simp [-List.length_flatMap]; done) | (simp [-List.length_flatMap]; omega) | fail)); conv => whnf)
    | fail)
  refine AWp.loopA [5, 10] [11, 12, 13, 7, 14, 15, 16, 17, 18, 19, 20] (fun x : Nat × Nat => [.slice x.2 (((l.take x.1).map plAr).map arA), .int .i64 x.1]) (fun x s' => x.1 ≤ l.length ∧ Own s s' (x.1 == 0) x.2 102 8) (fun x => l.length - x.1) ((0, 1)) (by kernel_rfl) (by (repeat' (first | refine cons_eq ?_ ?_ | refine int64_of ?_ ?_ ?_ | rfl | omega))) ?_ ?_
  · exact ⟨by simp, Own.nil _ _ _⟩
  · rintro y ⟨i, t1⟩ s1 ⟨hi, ho⟩
    simp only at hi ho
    conv => whnf
    have hga := fun h : i < l.length => map_get (f := arA) (l := l) noAr h
    have htk := fun h : i < l.length => take_map (f := plAr) (A := arA) noAr h
    generalize l.getD i noAr = u at *
    repeat' (first
      | (refine ⟨Sub.refl _, ?_⟩)
      | (refine brA_split (fun h => ?_) (fun h => ?_) <;> (try rw [h]) <;> (try simp only [Bool.false_eq_true, Bool.true_eq_false, ↓reduceIte, decide_eq_true_eq, decide_eq_false_iff_not, Bool.not_eq_true', Bool.not_eq_false'] at h) <;> (conv => whnf))
      | (rw [show (l.map arA).getD ((i : Int)).toNat [] = _ from hga (by omega)]; conv => whnf)
      | (refine getB_same ?_; conv => whnf)
      | (refine AWp.any (by kernel_rfl) (by kernel_rfl) (by kernel_rfl) ?_; conv => whnf)
      | (apply And.intro; (focus (first | omega | rfl | decide | exact Nat.le_of_ble_eq_true rfl | ((repeat' (first | exact all_nil | refine all_cons ?_ ?_ | rfl | fail)); done) | (simp [-List.length_flatMap]; done) | (simp [-List.length_flatMap]; omega) | fail)); conv => whnf)
      | fail)
    · have hlt : i < l.length := by omega
      intro c hc
      conv => whnf
      have hc' := ho.sub.none hc
      refine getB_of set_bx_same ?_
      repeat' (first
        | (refine ⟨Sub.refl _, ?_⟩)
        | (refine brA_split (fun h => ?_) (fun h => ?_) <;> (try rw [h]) <;> (try simp only [Bool.false_eq_true, Bool.true_eq_false, ↓reduceIte, decide_eq_true_eq, decide_eq_false_iff_not, Bool.not_eq_true', Bool.not_eq_false'] at h) <;> (conv => whnf))
        | (refine getB_of set_bx_same ?_; conv => whnf)
        | (refine ACalls.pure' ?_ (plainAr_ok u); rintro _ rfl; conv => whnf)
        | (refine DCall.pure ?_ (plainAr_ok u); conv => whnf)
        | (refine getB_same ?_; conv => whnf)
        | (refine AWp.any (by kernel_rfl) (by kernel_rfl) (by kernel_rfl) ?_; conv => whnf)
        | (apply And.intro; (focus (first | omega | rfl | decide | exact Nat.le_of_ble_eq_true rfl | ((repeat' (first | exact all_nil | refine all_cons ?_ ?_ | rfl | fail)); done) | (simp [-List.length_flatMap]; done) | (simp [-List.length_flatMap]; omega) | fail)); conv => whnf)
        | fail)
      have ho2 := fun (T : TypeId) (a b : List AV) => (ho.set (T := T) (cs := a) hc').set (T := T) (cs := b) hc'
      refine ⟨(ho2 _ _ _).may, fun c hc => ?_, all_cons ⟨rfl, rfl⟩ all_nil, ?_, ?_⟩
      · obtain ⟨z, _, rfl⟩ := List.mem_map.1 hc; rfl
      · show ((((l.take i).map plAr).map arA).length + 1) * (_ + 1) ≤ _
        rw [List.length_map, List.length_map, List.length_take, Nat.min_eq_left (by omega)]
        exact Nat.le_trans (Nat.mul_le_mul_right _ (show i + 1 ≤ 100001 by omega)) (Nat.le_of_ble_eq_true (by kernel_rfl))
      intro t' k1 k2
      have k3 := (ho2 _ _ _).grow k1 k2
      repeat' (first
        | (refine ⟨Sub.refl _, ?_⟩)
        | (refine brA_split (fun h => ?_) (fun h => ?_) <;> (try rw [h]) <;> (try simp only [Bool.false_eq_true, Bool.true_eq_false, ↓reduceIte, decide_eq_true_eq, decide_eq_false_iff_not, Bool.not_eq_true', Bool.not_eq_false'] at h) <;> (conv => whnf))
        | (refine getB_same ?_; conv => whnf)
        | (refine AWp.any (by kernel_rfl) (by kernel_rfl) (by kernel_rfl) ?_; conv => whnf)
        | (apply And.intro; (focus (first | omega | rfl | decide | exact Nat.le_of_ble_eq_true rfl | ((repeat' (first | exact all_nil | refine all_cons ?_ ?_ | rfl | fail)); done) | (simp [-List.length_flatMap]; done) | (simp [-List.length_flatMap]; omega) | fail)); conv => whnf)
        | fail)
      refine ⟨(i + 1, t'), ?_, by (repeat (first | exact Same.refl _ _ | refine Same.upd rfl ?_ | refine Same.updL rfl ?_ | refine Same.havoc rfl ?_)), ⟨by simp only; omega, ?_⟩, by simp only; omega⟩
      · refine cons_eq ?_ (cons_eq (show AV.int .i64 (IntKind.i64.wrap ((i : Int) + 1)) = .int .i64 ((i + 1 : Nat) : Int) from int64_of (by omega) (by omega) (by omega)) rfl)
        show AV.slice _ _ = .slice _ (((l.take (i + 1)).map plAr).map arA)
        rw [htk hlt]; rfl
      · have ez : ∀ (z : Bool) (y : List AV), (z && [y].isEmpty) = false := by intro z y; cases z <;> rfl
        have e2 : (i + 1 == 0) = false := by simp
        show Own _ _ (i + 1 == 0) t' _ _
        rw [ez] at k3
        rw [e2]
        exact k3
    · have ht : l.take i = l := List.take_of_length_le (by omega)
      refine ⟨s1, Sub.refl _, ⟨t1, ?_⟩, ho.sub⟩
      rw [ht]
      rfl

theorem eachDe_ok (t : Nat) (l : List (Nat × De)) (hl : l.length ≤ 100000) (hm : ∀ x ∈ l, x.2.2.length * 8 ≤ 140737488355328) : APure Tryz.prog Γ 20 [.slice t (l.map deA), .func (.func 21) [] []] fun v => v = .slice 0 ((l.map plDe).map deA) := by
  refine APure.forget fun s => ?_
  have hml : (l.map deA).length = l.length := List.length_map ..
  refine ACalls.of_awp Tryz.func20 rfl (Nat.le_of_ble_eq_true (by kernel_rfl)) (awp_ok _ (by kernel_rfl) ?_)
  conv => whnf
  repeat' (first
    | (refine ⟨Sub.refl _, ?_⟩)
    | (refine brA_split (fun h => ?_) (fun h => ?_) <;> (try rw [h]) <;> (try simp only [Bool.false_eq_true, Bool.true_eq_false, ↓reduceIte, decide_eq_true_eq, decide_eq_false_iff_not, Bool.not_eq_true', Bool.not_eq_false'] at h) <;> (conv => whnf))
    | (refine getB_same ?_; conv => whnf)
    | (refine AWp.any (by kernel_rfl) (by kernel_rfl) (by kernel_rfl) ?_; conv => whnf)
    | (apply And.intro; (focus (first | omega | rfl | decide | exact Nat.le_of_ble_eq_true rfl | ((repeat' (first | exact all_nil | refine all_cons ?_ ?_ | rfl | fail)); done) | (simp [-List.length_flatMap]; done) | (simp [-List.length_flatMap]; omega) | fail)); conv => whnf)
    | fail)
  refine AWp.loopA [5, 10] [11, 12, 13, 7, 14, 15, 16, 17, 18, 19, 20] (fun x : Nat × Nat => [.slice x.2 (((l.take x.1).map plDe).map deA), .int .i64 x.1]) (fun x s' => x.1 ≤ l.length ∧ Own s s' (x.1 == 0) x.2 39 4) (fun x => l.length - x.1) ((0, 1)) (by kernel_rfl) (by (repeat' (first | refine cons_eq ?_ ?_ | refine int64_of ?_ ?_ ?_ | rfl | omega))) ?_ ?_
  · exact ⟨by simp, Own.nil _ _ _⟩
  · rintro y ⟨i, t1⟩ s1 ⟨hi, ho⟩
    simp only at hi ho
    conv => whnf
    have hga := fun h : i < l.length => map_get (f := deA) (l := l) noDe h
    have htk := fun h : i < l.length => take_map (f := plDe) (A := deA) noDe h
    have hmx := fun h : i < l.length => hm _ (getD_mem noDe h)
    generalize l.getD i noDe = u at *
    repeat' (first
      | (refine ⟨Sub.refl _, ?_⟩)
      | (refine brA_split (fun h => ?_) (fun h => ?_) <;> (try rw [h]) <;> (try simp only [Bool.false_eq_true, Bool.true_eq_false, ↓reduceIte, decide_eq_true_eq, decide_eq_false_iff_not, Bool.not_eq_true', Bool.not_eq_false'] at h) <;> (conv => whnf))
      | (rw [show (l.map deA).getD ((i : Int)).toNat [] = _ from hga (by omega)]; conv => whnf)
      | (refine getB_same ?_; conv => whnf)
      | (refine AWp.any (by kernel_rfl) (by kernel_rfl) (by kernel_rfl) ?_; conv => whnf)
      | (apply And.intro; (focus (first | omega | rfl | decide | exact Nat.le_of_ble_eq_true rfl | ((repeat' (first | exact all_nil | refine all_cons ?_ ?_ | rfl | fail)); done) | (simp [-List.length_flatMap]; done) | (simp [-List.length_flatMap]; omega) | fail)); conv => whnf)
      | fail)
    · have hlt : i < l.length := by omega
      intro c hc
      conv => whnf
      have hc' := ho.sub.none hc
      refine getB_of set_bx_same ?_
      repeat' (first
        | (refine ⟨Sub.refl _, ?_⟩)
        | (refine brA_split (fun h => ?_) (fun h => ?_) <;> (try rw [h]) <;> (try simp only [Bool.false_eq_true, Bool.true_eq_false, ↓reduceIte, decide_eq_true_eq, decide_eq_false_iff_not, Bool.not_eq_true', Bool.not_eq_false'] at h) <;> (conv => whnf))
        | (refine getB_of set_bx_same ?_; conv => whnf)
        | (refine ACalls.pure' ?_ (plainDe_ok u (hmx hlt)); rintro _ rfl; conv => whnf)
        | (refine DCall.pure ?_ (plainDe_ok u (hmx hlt)); conv => whnf)
        | (refine getB_same ?_; conv => whnf)
        | (refine AWp.any (by kernel_rfl) (by kernel_rfl) (by kernel_rfl) ?_; conv => whnf)
        | (apply And.intro; (focus (first | omega | rfl | decide | exact Nat.le_of_ble_eq_true rfl | ((repeat' (first | exact all_nil | refine all_cons ?_ ?_ | rfl | fail)); done) | (simp [-List.length_flatMap]; done) | (simp [-List.length_flatMap]; omega) | fail)); conv => whnf)
        | fail)
      have ho2 := fun (T : TypeId) (a b : List AV) => (ho.set (T := T) (cs := a) hc').set (T := T) (cs := b) hc'
      refine ⟨(ho2 _ _ _).may, fun c hc => ?_, all_cons ⟨rfl, rfl⟩ all_nil, ?_, ?_⟩
      · obtain ⟨z, _, rfl⟩ := List.mem_map.1 hc; rfl
      · show ((((l.take i).map plDe).map deA).length + 1) * (_ + 1) ≤ _
        rw [List.length_map, List.length_map, List.length_take, Nat.min_eq_left (by omega)]
        exact Nat.le_trans (Nat.mul_le_mul_right _ (show i + 1 ≤ 100001 by omega)) (Nat.le_of_ble_eq_true (by kernel_rfl))
      intro t' k1 k2
      have k3 := (ho2 _ _ _).grow k1 k2
      repeat' (first
        | (refine ⟨Sub.refl _, ?_⟩)
        | (refine brA_split (fun h => ?_) (fun h => ?_) <;> (try rw [h]) <;> (try simp only [Bool.false_eq_true, Bool.true_eq_false, ↓reduceIte, decide_eq_true_eq, decide_eq_false_iff_not, Bool.not_eq_true', Bool.not_eq_false'] at h) <;> (conv => whnf))
        | (refine getB_same ?_; conv => whnf)
        | (refine AWp.any (by kernel_rfl) (by kernel_rfl) (by kernel_rfl) ?_; conv => whnf)
        | (apply And.intro; (focus (first | omega | rfl | decide | exact Nat.le_of_ble_eq_true rfl | ((repeat' (first | exact all_nil | refine all_cons ?_ ?_ | rfl | fail)); done) | (simp [-List.length_flatMap]; done) | (simp [-List.length_flatMap]; omega) | fail)); conv => whnf)
        | fail)
      refine ⟨(i + 1, t'), ?_, by (repeat (first | exact Same.refl _ _ | refine Same.upd rfl ?_ | refine Same.updL rfl ?_ | refine Same.havoc rfl ?_)), ⟨by simp only; omega, ?_⟩, by simp only; omega⟩
      · refine cons_eq ?_ (cons_eq (show AV.int .i64 (IntKind.i64.wrap ((i : Int) + 1)) = .int .i64 ((i + 1 : Nat) : Int) from int64_of (by omega) (by omega) (by omega)) rfl)
        show AV.slice _ _ = .slice _ (((l.take (i + 1)).map plDe).map deA)
        rw [htk hlt]; rfl
      · have ez : ∀ (z : Bool) (y : List AV), (z && [y].isEmpty) = false := by intro z y; cases z <;> rfl
        have e2 : (i + 1 == 0) = false := by simp
        show Own _ _ (i + 1 == 0) t' _ _
        rw [ez] at k3
        rw [e2]
        exact k3
    · have ht : l.take i = l := List.take_of_length_le (by omega)
      refine ⟨s1, Sub.refl _, ⟨t1, ?_⟩, ho.sub⟩
      rw [ht]
      rfl

theorem plainSy_ok (x : Nat × Sy) (hx : x.2.2.1.length ≤ 100000) : APure Tryz.prog Γ 30 [.agg (syA x)] fun v => v = .agg (syA (plSy x)) := by
  refine APure.of_awp Tryz.func30 rfl (Nat.le_of_ble_eq_true (by kernel_rfl)) (by kernel_rfl) ?_
  intro s
  conv => whnf
  intro b hb
  conv => whnf
  repeat' (first
    | (refine ⟨Sub.refl _, ?_⟩)
    | (refine brA_split (fun h => ?_) (fun h => ?_) <;> (try rw [h]) <;> (try simp only [Bool.false_eq_true, Bool.true_eq_false, ↓reduceIte, decide_eq_true_eq, decide_eq_false_iff_not, Bool.not_eq_true', Bool.not_eq_false'] at h) <;> (conv => whnf))
    | (refine getB_same ?_; conv => whnf)
    | (refine AWp.any (by kernel_rfl) (by kernel_rfl) (by kernel_rfl) ?_; conv => whnf)
    | (apply And.intro; (focus (first | omega | rfl | decide | exact Nat.le_of_ble_eq_true rfl | ((repeat' (first | exact all_nil | refine all_cons ?_ ?_ | rfl | fail)); done) | (simp [-List.length_flatMap]; done) | (simp [-List.length_flatMap]; omega) | fail)); conv => whnf)
    | fail)
  intro c hc
  conv => whnf
  have hbc := ne_of_none set_bx_same hc
  have hcb : c ≠ b := fun h => hbc h.symm
  have hc' := (none_set hc).2
  repeat' (first
    | (refine ⟨Sub.refl _, ?_⟩)
    | (refine brA_split (fun h => ?_) (fun h => ?_) <;> (try rw [h]) <;> (try simp only [Bool.false_eq_true, Bool.true_eq_false, ↓reduceIte, decide_eq_true_eq, decide_eq_false_iff_not, Bool.not_eq_true', Bool.not_eq_false'] at h) <;> (conv => whnf))
    | (refine getB_of (by ((repeat (first | exact set_bx_same | assumption | refine (set_bx_other (by assumption)).trans ?_)); done)) ?_; conv => whnf)
    | (refine ACalls.pure' ?_ (eachAr_ok _ _ hx); rintro _ rfl; conv => whnf)
    | (refine DCall.pure ?_ (eachAr_ok _ _ hx); conv => whnf)
    | (refine getB_same ?_; conv => whnf)
    | (refine AWp.any (by kernel_rfl) (by kernel_rfl) (by kernel_rfl) ?_; conv => whnf)
    | (apply And.intro; (focus (first | omega | rfl | decide | exact Nat.le_of_ble_eq_true rfl | ((repeat' (first | exact all_nil | refine all_cons ?_ ?_ | rfl | fail)); done) | (simp [-List.length_flatMap]; done) | (simp [-List.length_flatMap]; omega) | fail)); conv => whnf)
    | fail)
  refine ⟨by (repeat (first | exact Sub.refl _ | refine Sub.set ?_ hb _ _ | refine Sub.set ?_ hc' _ _)), rfl⟩

theorem plainTn_ok (x : (Nat × Nat × Nat) × Tn) (hx : x.2.2.2.1.2.1.length ≤ 100000 ∧ x.2.2.2.2.1.length ≤ 100000 ∧ x.2.2.2.2.2.2.length ≤ 100000) : APure Tryz.prog Γ 32 [.agg (tnA x)] fun v => v = .agg (tnA (plTn x)) := by
  refine APure.of_awp Tryz.func32 rfl (Nat.le_of_ble_eq_true (by kernel_rfl)) (by kernel_rfl) ?_
  intro s
  conv => whnf
  intro b hb
  conv => whnf
  repeat' (first
    | (refine ⟨Sub.refl _, ?_⟩)
    | (refine brA_split (fun h => ?_) (fun h => ?_) <;> (try rw [h]) <;> (try simp only [Bool.false_eq_true, Bool.true_eq_false, ↓reduceIte, decide_eq_true_eq, decide_eq_false_iff_not, Bool.not_eq_true', Bool.not_eq_false'] at h) <;> (conv => whnf))
    | (refine getB_same ?_; conv => whnf)
    | (refine AWp.any (by kernel_rfl) (by kernel_rfl) (by kernel_rfl) ?_; conv => whnf)
    | (apply And.intro; (focus (first | omega | rfl | decide | exact Nat.le_of_ble_eq_true rfl | ((repeat' (first | exact all_nil | refine all_cons ?_ ?_ | rfl | fail)); done) | (simp [-List.length_flatMap]; done) | (simp [-List.length_flatMap]; omega) | fail)); conv => whnf)
    | fail)
  intro c hc
  conv => whnf
  have hbc := ne_of_none set_bx_same hc
  have hcb : c ≠ b := fun h => hbc h.symm
  have hc' := (none_set hc).2
  repeat' (first
    | (refine ⟨Sub.refl _, ?_⟩)
    | (refine brA_split (fun h => ?_) (fun h => ?_) <;> (try rw [h]) <;> (try simp only [Bool.false_eq_true, Bool.true_eq_false, ↓reduceIte, decide_eq_true_eq, decide_eq_false_iff_not, Bool.not_eq_true', Bool.not_eq_false'] at h) <;> (conv => whnf))
    | (refine getB_of (by ((repeat (first | exact set_bx_same | assumption | refine (set_bx_other (by assumption)).trans ?_)); done)) ?_; conv => whnf)
    | (refine ACalls.pure' ?_ (plainName_ok _); rintro _ rfl; conv => whnf)
    | (refine DCall.pure ?_ (plainName_ok _); conv => whnf)
    | (refine ACalls.pure' ?_ (plainSy_ok (x.1.1, x.2.2.2.1) hx.1); rintro _ rfl; conv => whnf)
    | (refine DCall.pure ?_ (plainSy_ok (x.1.1, x.2.2.2.1) hx.1); conv => whnf)
    | (refine ACalls.pure' ?_ (eachEx_ok _ _ hx.2.1); rintro _ rfl; conv => whnf)
    | (refine DCall.pure ?_ (eachEx_ok _ _ hx.2.1); conv => whnf)
    | (refine ACalls.pure' ?_ (eachSe_ok _ _ hx.2.2); rintro _ rfl; conv => whnf)
    | (refine DCall.pure ?_ (eachSe_ok _ _ hx.2.2); conv => whnf)
    | (refine getB_same ?_; conv => whnf)
    | (refine AWp.any (by kernel_rfl) (by kernel_rfl) (by kernel_rfl) ?_; conv => whnf)
    | (apply And.intro; (focus (first | omega | rfl | decide | exact Nat.le_of_ble_eq_true rfl | ((repeat' (first | exact all_nil | refine all_cons ?_ ?_ | rfl | fail)); done) | (simp [-List.length_flatMap]; done) | (simp [-List.length_flatMap]; omega) | fail)); conv => whnf)
    | fail)
  refine ⟨by (repeat (first | exact Sub.refl _ | refine Sub.set ?_ hb _ _ | refine Sub.set ?_ hc' _ _)), rfl⟩

theorem eachSy_ok (t : Nat) (l : List (Nat × Sy)) (hl : l.length ≤ 100000) (hm : ∀ x ∈ l, x.2.2.1.length ≤ 100000) : APure Tryz.prog Γ 29 [.slice t (l.map syA), .func (.func 30) [] []] fun v => v = .slice 0 ((l.map plSy).map syA) := by
  refine APure.forget fun s => ?_
  have hml : (l.map syA).length = l.length := List.length_map ..
  refine ACalls.of_awp Tryz.func29 rfl (Nat.le_of_ble_eq_true (by kernel_rfl)) (awp_ok _ (by kernel_rfl) ?_)
  conv => whnf
  repeat' (first
    | (refine ⟨Sub.refl _, ?_⟩)
    | (refine brA_split (fun h => ?_) (fun h => ?_) <;> (try rw [h]) <;> (try simp only [Bool.false_eq_true, Bool.true_eq_false, ↓reduceIte, decide_eq_true_eq, decide_eq_false_iff_not, Bool.not_eq_true', Bool.not_eq_false'] at h) <;> (conv => whnf))
    | (refine getB_same ?_; conv => whnf)
    | (refine AWp.any (by kernel_rfl) (by kernel_rfl) (by kernel_rfl) ?_; conv => whnf)
    | (apply And.intro; (focus (first | omega | rfl | decide | exact Nat.le_of_ble_eq_true rfl | ((repeat' (first | exact all_nil | refine all_cons ?_ ?_ | rfl | fail)); done) | (simp [-List.length_flatMap]; done) | (simp [-List.length_flatMap]; omega) | fail)); conv => whnf)
    | fail)
  refine AWp.loopA [5, 10] [11, 12, 13, 7, 14, 15, 16, 17, 18, 19, 20] (fun x : Nat × Nat => [.slice x.2 (((l.take x.1).map plSy).map syA), .int .i64 x.1]) (fun x s' => x.1 ≤ l.length ∧ Own s s' (x.1 == 0) x.2 47 4) (fun x => l.length - x.1) ((0, 1)) (by kernel_rfl) (by (repeat' (first | refine cons_eq ?_ ?_ | refine int64_of ?_ ?_ ?_ | rfl | omega))) ?_ ?_
  · exact ⟨by simp, Own.nil _ _ _⟩
  · rintro y ⟨i, t1⟩ s1 ⟨hi, ho⟩
    simp only at hi ho
    conv => whnf
    have hga := fun h : i < l.length => map_get (f := syA) (l := l) noSy h
    have htk := fun h : i < l.length => take_map (f := plSy) (A := syA) noSy h
    have hmx := fun h : i < l.length => hm _ (getD_mem noSy h)
    generalize l.getD i noSy = u at *
    repeat' (first
      | (refine ⟨Sub.refl _, ?_⟩)
      | (refine brA_split (fun h => ?_) (fun h => ?_) <;> (try rw [h]) <;> (try simp only [Bool.false_eq_true, Bool.true_eq_false, ↓reduceIte, decide_eq_true_eq, decide_eq_false_iff_not, Bool.not_eq_true', Bool.not_eq_false'] at h) <;> (conv => whnf))
      | (rw [show (l.map syA).getD ((i : Int)).toNat [] = _ from hga (by omega)]; conv => whnf)
      | (refine getB_same ?_; conv => whnf)
      | (refine AWp.any (by kernel_rfl) (by kernel_rfl) (by kernel_rfl) ?_; conv => whnf)
      | (apply And.intro; (focus (first | omega | rfl | decide | exact Nat.le_of_ble_eq_true rfl | ((repeat' (first | exact all_nil | refine all_cons ?_ ?_ | rfl | fail)); done) | (simp [-List.length_flatMap]; done) | (simp [-List.length_flatMap]; omega) | fail)); conv => whnf)
      | fail)
    · have hlt : i < l.length := by omega
      intro c hc
      conv => whnf
      have hc' := ho.sub.none hc
      refine getB_of set_bx_same ?_
      repeat' (first
        | (refine ⟨Sub.refl _, ?_⟩)
        | (refine brA_split (fun h => ?_) (fun h => ?_) <;> (try rw [h]) <;> (try simp only [Bool.false_eq_true, Bool.true_eq_false, ↓reduceIte, decide_eq_true_eq, decide_eq_false_iff_not, Bool.not_eq_true', Bool.not_eq_false'] at h) <;> (conv => whnf))
        | (refine getB_of set_bx_same ?_; conv => whnf)
        | (refine ACalls.pure' ?_ (plainSy_ok u (hmx hlt)); rintro _ rfl; conv => whnf)
        | (refine DCall.pure ?_ (plainSy_ok u (hmx hlt)); conv => whnf)
        | (refine getB_same ?_; conv => whnf)
        | (refine AWp.any (by kernel_rfl) (by kernel_rfl) (by kernel_rfl) ?_; conv => whnf)
        | (apply And.intro; (focus (first | omega | rfl | decide | exact Nat.le_of_ble_eq_true rfl | ((repeat' (first | exact all_nil | refine all_cons ?_ ?_ | rfl | fail)); done) | (simp [-List.length_flatMap]; done) | (simp [-List.length_flatMap]; omega) | fail)); conv => whnf)
        | fail)
      have ho2 := fun (T : TypeId) (a b : List AV) => (ho.set (T := T) (cs := a) hc').set (T := T) (cs := b) hc'
      refine ⟨(ho2 _ _ _).may, fun c hc => ?_, all_cons ⟨rfl, rfl⟩ all_nil, ?_, ?_⟩
      · obtain ⟨z, _, rfl⟩ := List.mem_map.1 hc; rfl
      · show ((((l.take i).map plSy).map syA).length + 1) * (_ + 1) ≤ _
        rw [List.length_map, List.length_map, List.length_take, Nat.min_eq_left (by omega)]
        exact Nat.le_trans (Nat.mul_le_mul_right _ (show i + 1 ≤ 100001 by omega)) (Nat.le_of_ble_eq_true (by kernel_rfl))
      intro t' k1 k2
      have k3 := (ho2 _ _ _).grow k1 k2
      repeat' (first
        | (refine ⟨Sub.refl _, ?_⟩)
        | (refine brA_split (fun h => ?_) (fun h => ?_) <;> (try rw [h]) <;> (try simp only [Bool.false_eq_true, Bool.true_eq_false, ↓reduceIte, decide_eq_true_eq, decide_eq_false_iff_not, Bool.not_eq_true', Bool.not_eq_false'] at h) <;> (conv => whnf))
        | (refine getB_same ?_; conv => whnf)
        | (refine AWp.any (by kernel_rfl) (by kernel_rfl) (by kernel_rfl) ?_; conv => whnf)
        | (apply And.intro; (focus (first | omega | rfl | decide | exact Nat.le_of_ble_eq_true rfl | ((repeat' (first | exact all_nil | refine all_cons ?_ ?_ | rfl | fail)); done) | (simp [-List.length_flatMap]; done) | (simp [-List.length_flatMap]; omega) | fail)); conv => whnf)
        | fail)
      refine ⟨(i + 1, t'), ?_, by (repeat (first | exact Same.refl _ _ | refine Same.upd rfl ?_ | refine Same.updL rfl ?_ | refine Same.havoc rfl ?_)), ⟨by simp only; omega, ?_⟩, by simp only; omega⟩
      · refine cons_eq ?_ (cons_eq (show AV.int .i64 (IntKind.i64.wrap ((i : Int) + 1)) = .int .i64 ((i + 1 : Nat) : Int) from int64_of (by omega) (by omega) (by omega)) rfl)
        show AV.slice _ _ = .slice _ (((l.take (i + 1)).map plSy).map syA)
        rw [htk hlt]; rfl
      · have ez : ∀ (z : Bool) (y : List AV), (z && [y].isEmpty) = false := by intro z y; cases z <;> rfl
        have e2 : (i + 1 == 0) = false := by simp
        show Own _ _ (i + 1 == 0) t' _ _
        rw [ez] at k3
        rw [e2]
        exact k3
    · have ht : l.take i = l := List.take_of_length_le (by omega)
      refine ⟨s1, Sub.refl _, ⟨t1, ?_⟩, ho.sub⟩
      rw [ht]
      rfl

theorem eachTn_ok (t : Nat) (l : List ((Nat × Nat × Nat) × Tn)) (hl : l.length ≤ 100000) (hm : ∀ x ∈ l, x.2.2.2.1.2.1.length ≤ 100000 ∧ x.2.2.2.2.1.length ≤ 100000 ∧ x.2.2.2.2.2.2.length ≤ 100000) : APure Tryz.prog Γ 31 [.slice t (l.map tnA), .func (.func 32) [] []] fun v => v = .slice 0 ((l.map plTn).map tnA) := by
  refine APure.forget fun s => ?_
  have hml : (l.map tnA).length = l.length := List.length_map ..
  refine ACalls.of_awp Tryz.func31 rfl (Nat.le_of_ble_eq_true (by kernel_rfl)) (awp_ok _ (by kernel_rfl) ?_)
  conv => whnf
  repeat' (first
    | (refine ⟨Sub.refl _, ?_⟩)
    | (refine brA_split (fun h => ?_) (fun h => ?_) <;> (try rw [h]) <;> (try simp only [Bool.false_eq_true, Bool.true_eq_false, ↓reduceIte, decide_eq_true_eq, decide_eq_false_iff_not, Bool.not_eq_true', Bool.not_eq_false'] at h) <;> (conv => whnf))
    | (refine getB_same ?_; conv => whnf)
    | (refine AWp.any (by kernel_rfl) (by kernel_rfl) (by kernel_rfl) ?_; conv => whnf)
    | (apply And.intro; (focus (first | omega | rfl | decide | exact Nat.le_of_ble_eq_true rfl | ((repeat' (first | exact all_nil | refine all_cons ?_ ?_ | rfl | fail)); done) | (simp [-List.length_flatMap]; done) | (simp [-List.length_flatMap]; omega) | fail)); conv => whnf)
    | fail)
  refine AWp.loopA [5, 10] [11, 12, 13, 7, 14, 15, 16, 17, 18, 19, 20] (fun x : Nat × Nat => [.slice x.2 (((l.take x.1).map plTn).map tnA), .int .i64 x.1]) (fun x s' => x.1 ≤ l.length ∧ Own s s' (x.1 == 0) x.2 51 13) (fun x => l.length - x.1) ((0, 1)) (by kernel_rfl) (by (repeat' (first | refine cons_eq ?_ ?_ | refine int64_of ?_ ?_ ?_ | rfl | omega))) ?_ ?_
  · exact ⟨by simp, Own.nil _ _ _⟩
  · rintro y ⟨i, t1⟩ s1 ⟨hi, ho⟩
    simp only at hi ho
    conv => whnf
    have hga := fun h : i < l.length => map_get (f := tnA) (l := l) noTn h
    have htk := fun h : i < l.length => take_map (f := plTn) (A := tnA) noTn h
    have hmx := fun h : i < l.length => hm _ (getD_mem noTn h)
    generalize l.getD i noTn = u at *
    repeat' (first
      | (refine ⟨Sub.refl _, ?_⟩)
      | (refine brA_split (fun h => ?_) (fun h => ?_) <;> (try rw [h]) <;> (try simp only [Bool.false_eq_true, Bool.true_eq_false, ↓reduceIte, decide_eq_true_eq, decide_eq_false_iff_not, Bool.not_eq_true', Bool.not_eq_false'] at h) <;> (conv => whnf))
      | (rw [show (l.map tnA).getD ((i : Int)).toNat [] = _ from hga (by omega)]; conv => whnf)
      | (refine getB_same ?_; conv => whnf)
      | (refine AWp.any (by kernel_rfl) (by kernel_rfl) (by kernel_rfl) ?_; conv => whnf)
      | (apply And.intro; (focus (first | omega | rfl | decide | exact Nat.le_of_ble_eq_true rfl | ((repeat' (first | exact all_nil | refine all_cons ?_ ?_ | rfl | fail)); done) | (simp [-List.length_flatMap]; done) | (simp [-List.length_flatMap]; omega) | fail)); conv => whnf)
      | fail)
    · have hlt : i < l.length := by omega
      intro c hc
      conv => whnf
      have hc' := ho.sub.none hc
      refine getB_of set_bx_same ?_
      repeat' (first
        | (refine ⟨Sub.refl _, ?_⟩)
        | (refine brA_split (fun h => ?_) (fun h => ?_) <;> (try rw [h]) <;> (try simp only [Bool.false_eq_true, Bool.true_eq_false, ↓reduceIte, decide_eq_true_eq, decide_eq_false_iff_not, Bool.not_eq_true', Bool.not_eq_false'] at h) <;> (conv => whnf))
        | (refine getB_of set_bx_same ?_; conv => whnf)
        | (refine ACalls.pure' ?_ (plainTn_ok u (hmx hlt)); rintro _ rfl; conv => whnf)
        | (refine DCall.pure ?_ (plainTn_ok u (hmx hlt)); conv => whnf)
        | (refine getB_same ?_; conv => whnf)
        | (refine AWp.any (by kernel_rfl) (by kernel_rfl) (by kernel_rfl) ?_; conv => whnf)
        | (apply And.intro; (focus (first | omega | rfl | decide | exact Nat.le_of_ble_eq_true rfl | ((repeat' (first | exact all_nil | refine all_cons ?_ ?_ | rfl | fail)); done) | (simp [-List.length_flatMap]; done) | (simp [-List.length_flatMap]; omega) | fail)); conv => whnf)
        | fail)
      have ho2 := fun (T : TypeId) (a b : List AV) => (ho.set (T := T) (cs := a) hc').set (T := T) (cs := b) hc'
      refine ⟨(ho2 _ _ _).may, fun c hc => ?_, all_cons ⟨rfl, rfl⟩ all_nil, ?_, ?_⟩
      · obtain ⟨z, _, rfl⟩ := List.mem_map.1 hc; rfl
      · show ((((l.take i).map plTn).map tnA).length + 1) * (_ + 1) ≤ _
        rw [List.length_map, List.length_map, List.length_take, Nat.min_eq_left (by omega)]
        exact Nat.le_trans (Nat.mul_le_mul_right _ (show i + 1 ≤ 100001 by omega)) (Nat.le_of_ble_eq_true (by kernel_rfl))
      intro t' k1 k2
      have k3 := (ho2 _ _ _).grow k1 k2
      repeat' (first
        | (refine ⟨Sub.refl _, ?_⟩)
        | (refine brA_split (fun h => ?_) (fun h => ?_) <;> (try rw [h]) <;> (try simp only [Bool.false_eq_true, Bool.true_eq_false, ↓reduceIte, decide_eq_true_eq, decide_eq_false_iff_not, Bool.not_eq_true', Bool.not_eq_false'] at h) <;> (conv => whnf))
        | (refine getB_same ?_; conv => whnf)
        | (refine AWp.any (by kernel_rfl) (by kernel_rfl) (by kernel_rfl) ?_; conv => whnf)
        | (apply And.intro; (focus (first | omega | rfl | decide | exact Nat.le_of_ble_eq_true rfl | ((repeat' (first | exact all_nil | refine all_cons ?_ ?_ | rfl | fail)); done) | (simp [-List.length_flatMap]; done) | (simp [-List.length_flatMap]; omega) | fail)); conv => whnf)
        | fail)
      refine ⟨(i + 1, t'), ?_, by (repeat (first | exact Same.refl _ _ | refine Same.upd rfl ?_ | refine Same.updL rfl ?_ | refine Same.havoc rfl ?_)), ⟨by simp only; omega, ?_⟩, by simp only; omega⟩
      · refine cons_eq ?_ (cons_eq (show AV.int .i64 (IntKind.i64.wrap ((i : Int) + 1)) = .int .i64 ((i + 1 : Nat) : Int) from int64_of (by omega) (by omega) (by omega)) rfl)
        show AV.slice _ _ = .slice _ (((l.take (i + 1)).map plTn).map tnA)
        rw [htk hlt]; rfl
      · have ez : ∀ (z : Bool) (y : List AV), (z && [y].isEmpty) = false := by intro z y; cases z <;> rfl
        have e2 : (i + 1 == 0) = false := by simp
        show Own _ _ (i + 1 == 0) t' _ _
        rw [ez] at k3
        rw [e2]
        exact k3
    · have ht : l.take i = l := List.take_of_length_le (by omega)
      refine ⟨s1, Sub.refl _, ⟨t1, ?_⟩, ho.sub⟩
      rw [ht]
      rfl

end Go.Proofs.YtbhemiimdfhjbaaGreatDoor.Tr
