
/- Chapter 10: which trees are small. -/
import Derived.Test.YtbhemiimdfhjbaaGreatDoorTrD
namespace Go.Proofs.YtbhemiimdfhjbaaGreatDoor.Tr
open Go Go.Ab Go.RowKit
variable {Γ : Nat → AV}
attribute [local irreducible] APure Sto.set Sto.grow
set_option maxRecDepth 10000

theorem drop_all {α : Type} {l : List α} {p : α → Bool} (d : α) {i : Nat} (h : i < l.length) : (l.drop i).all p = (p (l.getD i d) && (l.drop (i + 1)).all p) := by
  rw [List.drop_eq_getElem_cons h, List.all_cons]
  simp [List.getD, h]
def arB (a : Ar) : Bool := decide ((a.2.2.1.2.2.1.length : Int) ≤ 100)
def exB (a : Ex) : Bool := decide ((a.2.2.2.2.1.2.2.1.length : Int) ≤ 100)
def frB (a : Fr) : Bool := decide ((a.2.2.2.1.length : Int) ≤ 100)
def deB (a : Nat × De) : Bool := decide ((a.2.2.length : Int) ≤ 12)
def syB (s : Nat × Sy) : Bool := decide ((s.2.2.1.length : Int) ≤ 12) && s.2.2.1.all arB
def tnB (t : (Nat × Nat × Nat) × Tn) : Bool := syB (t.1.1, t.2.2.2.1) && (decide ((t.2.2.2.2.1.length : Int) ≤ 40) && (decide ((t.2.2.2.2.2.2.length : Int) ≤ 12) && t.2.2.2.2.1.all exB))
def lensB (x : Tr0) : Bool := decide ((x.2.1.length : Int) ≤ 12) && (decide ((x.2.2.1.length : Int) ≤ 12) && (decide ((x.2.2.2.1.length : Int) ≤ 12) && (decide ((x.2.2.2.2.1.length : Int) ≤ 12) && (decide ((x.2.2.2.2.2.2.1.length : Int) ≤ 12) && decide ((x.2.2.2.2.2.2.2.length : Int) ≤ 12)))))
def fewB (x : Tr0) : Bool := lensB x && (x.2.1.all deB && (x.2.2.2.1.all frB && (x.2.2.2.2.2.2.1.all syB && x.2.2.2.2.2.2.2.all tnB)))
theorem few_small {x : Tr0} (h : fewB x = true) : Small x := by
  simp only [fewB, lensB, Bool.and_eq_true, decide_eq_true_eq, List.all_eq_true] at h
  obtain ⟨⟨h1, h2, h3, h4, h5, h6⟩, h7, h8, h9, h10⟩ := h
  refine ⟨⟨by omega, by omega, by omega, by omega, by omega, by omega⟩, fun d hd => ?_, fun s hs => ?_, fun t ht => ?_⟩
  · have := of_decide_eq_true (h7 d hd); omega
  · have := h9 s hs
    simp only [syB, Bool.and_eq_true, decide_eq_true_eq] at this
    omega
  · have := h10 t ht
    simp only [tnB, syB, Bool.and_eq_true, decide_eq_true_eq] at this
    exact ⟨by omega, by omega, by omega⟩

theorem short_ok (x : Nat × Sy) : APure Tryz.prog Γ 12 [.agg (syA x)] fun v => v = .bool (syB x) := by
  have hlx : (x.2.2.1.map arA).length = x.2.2.1.length := List.length_map ..
  refine APure.of_awp Tryz.func12 rfl (Nat.le_of_ble_eq_true (by kernel_rfl)) (by kernel_rfl) ?_
  intro s
  conv => whnf
  intro b hb
  conv => whnf
  repeat' (first
    | (refine ⟨Sub.refl _, ?_⟩)
    | (refine brA_split (fun h => ?_) (fun h => ?_) <;> (try rw [h]) <;> (try simp only [Bool.false_eq_true, Bool.true_eq_false, ↓reduceIte, decide_eq_true_eq, decide_eq_false_iff_not, Bool.not_eq_true', Bool.not_eq_false'] at h) <;> (conv => whnf))
    | (refine getB_same ?_; conv => whnf)
    | (refine AWp.any (by kernel_rfl) (by kernel_rfl) (by kernel_rfl) ?_; conv => whnf)
    | (apply And.intro; (focus (first | omega | rfl | decide | exact Nat.le_of_ble_eq_true rfl | ((repeat' (first | exact all_nil | refine all_cons ?_ ?_ | rfl | fail)); done) | (simp [-List.length_flatMap]; done) | (simp [-List.length_flatMap]; omega) | fail)); conv => whnf)
    | fail)
  · refine ⟨(Sub.refl _).set hb _ _, bool_eq ?_⟩
    unfold syB
    rw [decide_eq_false (by omega)]
    rfl
  refine AWp.loopA [3] [8, 9, 10, 11, 12, 15, 16, 17, 18, 19, 20, 21, 22, 23, 2, 13, 14] (fun i : Nat => [.int .i64 i]) (fun i s' => i ≤ x.2.2.1.length ∧ s'.bx b = some (47, syA x) ∧ Sub s s' ∧ syB x = (x.2.2.1.drop i).all arB) (fun i => x.2.2.1.length - i) (0) (by kernel_rfl) (by (repeat' (first | refine cons_eq ?_ ?_ | refine int64_of ?_ ?_ ?_ | rfl | omega))) ?_ ?_
  · refine ⟨by omega, set_bx_same, (Sub.refl _).set hb _ _, ?_⟩
    unfold syB
    rw [decide_eq_true (by omega), List.drop_zero, Bool.true_and]
  · rintro q i s1 ⟨hi, h1, hs1, hp⟩
    conv => whnf
    have hga := fun h : i < x.2.2.1.length => map_get (f := arA) (l := x.2.2.1) noAr h
    have hd := fun h : i < x.2.2.1.length => drop_all (p := arB) noAr h
    generalize x.2.2.1.getD i noAr = u at *
    repeat' (first
      | (refine ⟨Sub.refl _, ?_⟩)
      | (refine brA_split (fun h => ?_) (fun h => ?_) <;> (try rw [h]) <;> (try simp only [Bool.false_eq_true, Bool.true_eq_false, ↓reduceIte, decide_eq_true_eq, decide_eq_false_iff_not, Bool.not_eq_true', Bool.not_eq_false'] at h) <;> (conv => whnf))
      | (refine getB_of h1 ?_; conv => whnf)
      | (rw [show (x.2.2.1.map arA).getD ((i : Int)).toNat [] = _ from hga (by omega)]; conv => whnf)
      | (refine getB_same ?_; conv => whnf)
      | (refine AWp.any (by kernel_rfl) (by kernel_rfl) (by kernel_rfl) ?_; conv => whnf)
      | (apply And.intro; (focus (first | omega | rfl | decide | exact Nat.le_of_ble_eq_true rfl | ((repeat' (first | exact all_nil | refine all_cons ?_ ?_ | rfl | fail)); done) | (simp [-List.length_flatMap]; done) | (simp [-List.length_flatMap]; omega) | fail)); conv => whnf)
      | fail)
    · rename_i h
      first | refine ⟨hs1, bool_eq ?_⟩ | refine bool_eq ?_
      rw [hp, hd (by omega), show arB u = false from decide_eq_false (by omega)]
      rfl
    · rename_i h
      refine ⟨i + 1, by (repeat' (first | refine cons_eq ?_ ?_ | refine int64_of ?_ ?_ ?_ | rfl | omega)), by (repeat (first | exact Same.refl _ _ | refine Same.upd rfl ?_ | refine Same.updL rfl ?_ | refine Same.havoc rfl ?_)), ⟨by omega, h1, hs1, ?_⟩, by omega⟩
      rw [hp, hd (by omega), show arB u = true from decide_eq_true (by omega), Bool.true_and]
    · first | refine ⟨hs1, bool_eq ?_⟩ | refine bool_eq ?_
      rw [hp, drop_end (by omega)]
      rfl
end Go.Proofs.YtbhemiimdfhjbaaGreatDoor.Tr
