/- Chapter 10: what is so of all of a list, and which trees may be: by the program. (Printed by genR.py.) -/
import Derived.Test.YtbhemiimdfhjbaaGreatDoorTrR
namespace Go.Proofs.YtbhemiimdfhjbaaGreatDoor.Tr
open Go Go.Ab Go.RowKit
variable {Γ : Nat → AV}
attribute [local irreducible] APure Sto.set Sto.grow
set_option maxRecDepth 10000
set_option maxHeartbeats 1000000

theorem progKname_ok (k : Int) : APure Tryz.prog Γ 79 [.int .i64 k] fun v => v = .str (if k = 1 then [105, 110, 116] else if k = 2 then [115, 116, 114, 105, 110, 103] else if k = 3 then [98, 111, 111, 108] else []) := by
  refine APure.of_awp Tryz.func79 rfl (Nat.le_of_ble_eq_true (by kernel_rfl)) (by kernel_rfl) ?_
  intro s
  conv => whnf
  repeat' (first
    | (refine ⟨Sub.refl _, ?_⟩)
    | (refine brA_split (fun h => ?_) (fun h => ?_) <;> (try rw [h]) <;> (try simp only [Bool.false_eq_true, Bool.true_eq_false, ↓reduceIte, decide_eq_true_eq, decide_eq_false_iff_not, Bool.not_eq_true', Bool.not_eq_false'] at h) <;> (conv => whnf))
    | (refine getB_same ?_; conv => whnf)
    | (refine AWp.any (by kernel_rfl) (by kernel_rfl) (by kernel_rfl) ?_; conv => whnf)
    | (apply And.intro; (focus (first | omega | rfl | decide | exact Nat.le_of_ble_eq_true rfl | ((repeat' (first | exact all_nil | refine all_cons ?_ ?_ | rfl | fail)); done) | (simp [-List.length_flatMap]; done) | (simp [-List.length_flatMap]; omega) | fail)); conv => whnf)
    | fail)
  all_goals simp [tupA, *]
theorem progKind_ok (k : Int) : APure Tryz.prog Γ 37 [.int .i64 k] fun v => v = .bool (kindB k) := by
  refine APure.of_awp Tryz.func37 rfl (Nat.le_of_ble_eq_true (by kernel_rfl)) (by kernel_rfl) ?_
  intro s
  conv => whnf
  repeat' (first
    | (refine ⟨Sub.refl _, ?_⟩)
    | (refine brA_split (fun h => ?_) (fun h => ?_) <;> (try rw [h]) <;> (try simp only [Bool.false_eq_true, Bool.true_eq_false, ↓reduceIte, decide_eq_true_eq, decide_eq_false_iff_not, Bool.not_eq_true', Bool.not_eq_false'] at h) <;> (conv => whnf))
    | (refine ACalls.pure' ?_ (progKname_ok _); rintro _ rfl; conv => whnf)
    | (refine DCall.pure ?_ (progKname_ok _); conv => whnf)
    | (refine getB_same ?_; conv => whnf)
    | (refine AWp.any (by kernel_rfl) (by kernel_rfl) (by kernel_rfl) ?_; conv => whnf)
    | (apply And.intro; (focus (first | omega | rfl | decide | exact Nat.le_of_ble_eq_true rfl | ((repeat' (first | exact all_nil | refine all_cons ?_ ?_ | rfl | fail)); done) | (simp [-List.length_flatMap]; done) | (simp [-List.length_flatMap]; omega) | fail)); conv => whnf)
    | fail)
  all_goals refine bool_eq ?_
  all_goals grind [kindB]
theorem progName_ok (hT : Sc.Wds Γ) (x : Idn) : APure Tryz.prog Γ 33 [.agg (idnA x)] fun v => v = .bool (nameB x) := by
  refine APure.of_awp Tryz.func33 rfl (Nat.le_of_ble_eq_true (by kernel_rfl)) (by kernel_rfl) ?_
  intro s
  conv => whnf
  intro b hb
  conv => whnf
  repeat' (first
    | (refine ⟨Sub.refl _, ?_⟩)
    | (refine brA_split (fun h => ?_) (fun h => ?_) <;> (try rw [h]) <;> (try simp only [Bool.false_eq_true, Bool.true_eq_false, ↓reduceIte, decide_eq_true_eq, decide_eq_false_iff_not, Bool.not_eq_true', Bool.not_eq_false'] at h) <;> (conv => whnf))
    | (refine getB_of set_bx_same ?_; conv => whnf)
    | (refine ACalls.pure' ?_ (Sc.progName_any hT _); rintro _ rfl; conv => whnf)
    | (refine DCall.pure ?_ (Sc.progName_any hT _); conv => whnf)
    | (refine getB_same ?_; conv => whnf)
    | (refine AWp.any (by kernel_rfl) (by kernel_rfl) (by kernel_rfl) ?_; conv => whnf)
    | (apply And.intro; (focus (first | omega | rfl | decide | exact Nat.le_of_ble_eq_true rfl | ((repeat' (first | exact all_nil | refine all_cons ?_ ?_ | rfl | fail)); done) | (simp [-List.length_flatMap]; done) | (simp [-List.length_flatMap]; omega) | fail)); conv => whnf)
    | fail)
  exact ⟨(Sub.refl _).set hb _ _, rfl⟩

def kA (k : Int) : List AV := [.int .i64 k]
theorem kA_map (l : List Int) : intsA .i64 l = l.map kA := rfl
def declB (d : Nat × De) : Bool := nameB d.2.1 && d.2.2.all kindB
def quantB (q : Qu) : Bool := nameB q.2.1 && kindB q.2.2
def freeB (f : Fr) : Bool := nameB f.1 && rightV f.2
def stateB (s : St) : Bool := nameB s.1
theorem progArg_ok (hT : Sc.Wds Γ) (x : Ar) : APure Tryz.prog Γ 92 [.agg (arA x)] fun v => v = .bool (argB x) := by
  have hev := eq_vl x.2.2.1 noVl
  refine APure.of_awp Tryz.func92 rfl (Nat.le_of_ble_eq_true (by kernel_rfl)) (by kernel_rfl) ?_
  intro s
  conv => whnf
  intro b hb
  conv => whnf
  repeat' (first
    | (exfalso; omega)
    | (refine ⟨Sub.refl _, ?_⟩)
    | (refine brA_split (fun h => ?_) (fun h => ?_) <;> (try rw [h]) <;> (try simp only [Bool.false_eq_true, Bool.true_eq_false, ↓reduceIte, decide_eq_true_eq, decide_eq_false_iff_not, Bool.not_eq_true', Bool.not_eq_false'] at h) <;> (conv => whnf))
    | (refine getB_of set_bx_same ?_; conv => whnf)
    | (refine ACalls.pure' ?_ (rightV_ok x.2.2.1); rintro _ rfl; conv => whnf)
    | (refine DCall.pure ?_ (rightV_ok x.2.2.1); conv => whnf)
    | (refine EqAgg.of grdVl planVl ?_; conv => whnf)
    | (refine ACalls.pure' ?_ (Sc.progName_any hT _); rintro _ rfl; conv => whnf)
    | (refine DCall.pure ?_ (Sc.progName_any hT _); conv => whnf)
    | (refine getB_same ?_; conv => whnf)
    | (refine AWp.any (by kernel_rfl) (by kernel_rfl) (by kernel_rfl) ?_; conv => whnf)
    | (apply And.intro; (focus (first | omega | rfl | decide | exact Nat.le_of_ble_eq_true rfl | ((repeat' (first | exact all_nil | refine all_cons ?_ ?_ | rfl | fail)); done) | (simp [-List.length_flatMap]; done) | (simp [-List.length_flatMap]; omega) | fail)); conv => whnf)
    | fail)
  all_goals refine ⟨(Sub.refl _).set hb _ _, bool_eq ?_⟩
  all_goals (unfold argB; rw [← hev])
  all_goals grind [noVl]

theorem fnKind_ok {s : Sto} {b : Nat} {T0 : TypeId} (u : Int) (hb : s.bx b = some (T0, [.func (.func 37) [] []])) : ACalls Tryz.prog Γ 78 [.int .i64 u, .ptr (some ⟨b, 0, none⟩)] s fun v s' => v = .bool (!kindB u) ∧ s' = s := by
  refine ACalls.of_awp Tryz.func78 rfl (Nat.le_of_ble_eq_true (by kernel_rfl)) (awp_ok _ (by kernel_rfl) ?_)
  conv => whnf
  repeat' (first
    | (refine ⟨Sub.refl _, ?_⟩)
    | (refine brA_split (fun h => ?_) (fun h => ?_) <;> (try rw [h]) <;> (try simp only [Bool.false_eq_true, Bool.true_eq_false, ↓reduceIte, decide_eq_true_eq, decide_eq_false_iff_not, Bool.not_eq_true', Bool.not_eq_false'] at h) <;> (conv => whnf))
    | (refine getB_of hb ?_; conv => whnf)
    | (refine ACalls.pure' ?_ (progKind_ok u); rintro _ rfl; conv => whnf)
    | (refine DCall.pure ?_ (progKind_ok u); conv => whnf)
    | (refine getB_same ?_; conv => whnf)
    | (refine AWp.any (by kernel_rfl) (by kernel_rfl) (by kernel_rfl) ?_; conv => whnf)
    | (apply And.intro; (focus (first | omega | rfl | decide | exact Nat.le_of_ble_eq_true rfl | ((repeat' (first | exact all_nil | refine all_cons ?_ ?_ | rfl | fail)); done) | (simp [-List.length_flatMap]; done) | (simp [-List.length_flatMap]; omega) | fail)); conv => whnf)
    | fail)
  exact ⟨_, Sub.refl _, rfl, rfl⟩
theorem indexKind_ok {s : Sto} {b : Nat} {T0 : TypeId} (t : Nat) (l : List (Int)) (hl : l.length ≤ 100000) (hb : s.bx b = some (T0, [.func (.func 37) [] []])) :
    ACalls Tryz.prog Γ 107 [.slice t (l.map kA), .func (.func 78) [] [.ptr (some ⟨b, 0, none⟩)]] s fun v s' => ∃ r : Int, v = .int .i64 r ∧ decide (r ≥ 0) = !l.all kindB ∧ s' = s := by
  have hml : (l.map kA).length = l.length := List.length_map ..
  refine ACalls.of_awp Tryz.func107 rfl (Nat.le_of_ble_eq_true (by kernel_rfl)) (awp_ok _ (by kernel_rfl) ?_)
  conv => whnf
  refine AWp.loopA [8] [9, 10, 5, 11, 12, 13, 14, 15, 16, 17, 4, 18] (fun i : Nat => [.int .i64 i]) (fun i s' => i ≤ l.length ∧ s' = s ∧ l.all kindB = (l.drop i).all kindB) (fun i => l.length - i) (0) (by kernel_rfl) (by (repeat' (first | refine cons_eq ?_ ?_ | refine int64_of ?_ ?_ ?_ | rfl | omega))) ?_ ?_
  · exact ⟨by omega, rfl, by simp⟩
  · rintro y i _ ⟨hi, rfl, hp⟩
    conv => whnf
    have hga := fun h : i < l.length => map_get (f := kA) (l := l) 0 h
    have hd := fun h : i < l.length => drop_all (p := kindB) 0 h
    generalize l.getD i 0 = u at *
    repeat' (first
      | (refine ⟨Sub.refl _, ?_⟩)
      | (refine brA_split (fun h => ?_) (fun h => ?_) <;> (try rw [h]) <;> (try simp only [Bool.false_eq_true, Bool.true_eq_false, ↓reduceIte, decide_eq_true_eq, decide_eq_false_iff_not, Bool.not_eq_true', Bool.not_eq_false'] at h) <;> (conv => whnf))
      | (rw [show (l.map kA).getD ((i : Int)).toNat [] = _ from hga (by omega)]; conv => whnf)
      | (refine ACalls.by (fnKind_ok u hb) ?_; rintro _ _ ⟨rfl, rfl⟩; conv => whnf)
      | (refine getB_same ?_; conv => whnf)
      | (refine AWp.any (by kernel_rfl) (by kernel_rfl) (by kernel_rfl) ?_; conv => whnf)
      | (apply And.intro; (focus (first | omega | rfl | decide | exact Nat.le_of_ble_eq_true rfl | ((repeat' (first | exact all_nil | refine all_cons ?_ ?_ | rfl | fail)); done) | (simp [-List.length_flatMap]; done) | (simp [-List.length_flatMap]; omega) | fail)); conv => whnf)
      | fail)
    · refine ⟨_, Sub.refl _, i, rfl, ?_, rfl⟩
      rw [hp, hd (by omega), h, decide_eq_true (by omega)]; rfl
    · refine ⟨i + 1, by (repeat' (first | refine cons_eq ?_ ?_ | refine int64_of ?_ ?_ ?_ | rfl | omega)), by (repeat (first | exact Same.refl _ _ | refine Same.upd rfl ?_ | refine Same.updL rfl ?_ | refine Same.havoc rfl ?_)), ⟨by omega, rfl, ?_⟩, by omega⟩
      rw [hp, hd (by omega), h, Bool.true_and]
    · refine ⟨_, Sub.refl _, -1, rfl, ?_, rfl⟩
      rw [hp, drop_end (by omega)]; rfl
theorem containsKind_ok {s : Sto} {b : Nat} {T0 : TypeId} (t : Nat) (l : List (Int)) (hl : l.length ≤ 100000) (hb : s.bx b = some (T0, [.func (.func 37) [] []])) :
    ACalls Tryz.prog Γ 77 [.slice t (l.map kA), .func (.func 78) [] [.ptr (some ⟨b, 0, none⟩)]] s fun v s' => v = .bool (!l.all kindB) ∧ s' = s := by
  refine ACalls.of_awp Tryz.func77 rfl (Nat.le_of_ble_eq_true (by kernel_rfl)) (awp_ok _ (by kernel_rfl) ?_)
  conv => whnf
  repeat' (first
    | (refine ⟨Sub.refl _, ?_⟩)
    | (refine brA_split (fun h => ?_) (fun h => ?_) <;> (try rw [h]) <;> (try simp only [Bool.false_eq_true, Bool.true_eq_false, ↓reduceIte, decide_eq_true_eq, decide_eq_false_iff_not, Bool.not_eq_true', Bool.not_eq_false'] at h) <;> (conv => whnf))
    | (refine ACalls.by (indexKind_ok t l hl hb) ?_; rintro _ _ ⟨r, rfl, hr, rfl⟩; conv => whnf)
    | (refine getB_same ?_; conv => whnf)
    | (refine AWp.any (by kernel_rfl) (by kernel_rfl) (by kernel_rfl) ?_; conv => whnf)
    | (apply And.intro; (focus (first | omega | rfl | decide | exact Nat.le_of_ble_eq_true rfl | ((repeat' (first | exact all_nil | refine all_cons ?_ ?_ | rfl | fail)); done) | (simp [-List.length_flatMap]; done) | (simp [-List.length_flatMap]; omega) | fail)); conv => whnf)
    | fail)
  exact ⟨_, Sub.refl _, bool_eq hr, rfl⟩
theorem allKind_ok (t : Nat) (l : List (Int)) (hl : l.length ≤ 100000) : APure Tryz.prog Γ 36 [.slice t (l.map kA), .func (.func 37) [] []] fun v => v = .bool (l.all kindB) := by
  refine APure.of_awp Tryz.func36 rfl (Nat.le_of_ble_eq_true (by kernel_rfl)) (by kernel_rfl) ?_
  intro s
  conv => whnf
  intro b hb
  conv => whnf
  repeat' (first
    | (refine ⟨Sub.refl _, ?_⟩)
    | (refine brA_split (fun h => ?_) (fun h => ?_) <;> (try rw [h]) <;> (try simp only [Bool.false_eq_true, Bool.true_eq_false, ↓reduceIte, decide_eq_true_eq, decide_eq_false_iff_not, Bool.not_eq_true', Bool.not_eq_false'] at h) <;> (conv => whnf))
    | (refine ACalls.by (containsKind_ok t l hl set_bx_same) ?_; rintro _ _ ⟨rfl, rfl⟩; conv => whnf)
    | (refine getB_same ?_; conv => whnf)
    | (refine AWp.any (by kernel_rfl) (by kernel_rfl) (by kernel_rfl) ?_; conv => whnf)
    | (apply And.intro; (focus (first | omega | rfl | decide | exact Nat.le_of_ble_eq_true rfl | ((repeat' (first | exact all_nil | refine all_cons ?_ ?_ | rfl | fail)); done) | (simp [-List.length_flatMap]; done) | (simp [-List.length_flatMap]; omega) | fail)); conv => whnf)
    | fail)
  exact ⟨(Sub.refl _).set hb _ _, bool_eq (by simp)⟩

theorem fnArg_ok (hT : Sc.Wds Γ) {s : Sto} {b : Nat} {T0 : TypeId} (u : Ar) (hb : s.bx b = some (T0, [.func (.func 92) [] []])) : ACalls Tryz.prog Γ 113 [.agg (arA u), .ptr (some ⟨b, 0, none⟩)] s fun v s' => v = .bool (!argB u) ∧ s' = s := by
  refine ACalls.of_awp Tryz.func113 rfl (Nat.le_of_ble_eq_true (by kernel_rfl)) (awp_ok _ (by kernel_rfl) ?_)
  conv => whnf
  intro c hc
  conv => whnf
  have hn := ne_of_none hb hc
  repeat' (first
    | (refine ⟨Sub.refl _, ?_⟩)
    | (refine brA_split (fun h => ?_) (fun h => ?_) <;> (try rw [h]) <;> (try simp only [Bool.false_eq_true, Bool.true_eq_false, ↓reduceIte, decide_eq_true_eq, decide_eq_false_iff_not, Bool.not_eq_true', Bool.not_eq_false'] at h) <;> (conv => whnf))
    | (refine getB_other hn (getB_of hb ?_); conv => whnf)
    | (refine getB_of set_bx_same ?_; conv => whnf)
    | (refine ACalls.pure' ?_ (progArg_ok hT u); rintro _ rfl; conv => whnf)
    | (refine DCall.pure ?_ (progArg_ok hT u); conv => whnf)
    | (refine getB_same ?_; conv => whnf)
    | (refine AWp.any (by kernel_rfl) (by kernel_rfl) (by kernel_rfl) ?_; conv => whnf)
    | (apply And.intro; (focus (first | omega | rfl | decide | exact Nat.le_of_ble_eq_true rfl | ((repeat' (first | exact all_nil | refine all_cons ?_ ?_ | rfl | fail)); done) | (simp [-List.length_flatMap]; done) | (simp [-List.length_flatMap]; omega) | fail)); conv => whnf)
    | fail)
  exact ⟨_, (Sub.refl _).set hc _ _, rfl, rfl⟩
theorem indexArg_ok (hT : Sc.Wds Γ) {s : Sto} {b : Nat} {T0 : TypeId} (t : Nat) (l : List (Ar)) (hl : l.length ≤ 100000) (hb : s.bx b = some (T0, [.func (.func 92) [] []])) :
    ACalls Tryz.prog Γ 120 [.slice t (l.map arA), .func (.func 113) [] [.ptr (some ⟨b, 0, none⟩)]] s fun v s' => ∃ r : Int, v = .int .i64 r ∧ decide (r ≥ 0) = !l.all argB ∧ s' = s := by
  have hml : (l.map arA).length = l.length := List.length_map ..
  refine ACalls.of_awp Tryz.func120 rfl (Nat.le_of_ble_eq_true (by kernel_rfl)) (awp_ok _ (by kernel_rfl) ?_)
  conv => whnf
  refine AWp.loopA [8] [9, 10, 5, 11, 12, 13, 14, 15, 16, 17, 4, 18] (fun i : Nat => [.int .i64 i]) (fun i s' => i ≤ l.length ∧ s' = s ∧ l.all argB = (l.drop i).all argB) (fun i => l.length - i) (0) (by kernel_rfl) (by (repeat' (first | refine cons_eq ?_ ?_ | refine int64_of ?_ ?_ ?_ | rfl | omega))) ?_ ?_
  · exact ⟨by omega, rfl, by simp⟩
  · rintro y i _ ⟨hi, rfl, hp⟩
    conv => whnf
    have hga := fun h : i < l.length => map_get (f := arA) (l := l) noAr h
    have hd := fun h : i < l.length => drop_all (p := argB) noAr h
    generalize l.getD i noAr = u at *
    repeat' (first
      | (refine ⟨Sub.refl _, ?_⟩)
      | (refine brA_split (fun h => ?_) (fun h => ?_) <;> (try rw [h]) <;> (try simp only [Bool.false_eq_true, Bool.true_eq_false, ↓reduceIte, decide_eq_true_eq, decide_eq_false_iff_not, Bool.not_eq_true', Bool.not_eq_false'] at h) <;> (conv => whnf))
      | (rw [show (l.map arA).getD ((i : Int)).toNat [] = _ from hga (by omega)]; conv => whnf)
      | (refine ACalls.by (fnArg_ok hT u hb) ?_; rintro _ _ ⟨rfl, rfl⟩; conv => whnf)
      | (refine getB_same ?_; conv => whnf)
      | (refine AWp.any (by kernel_rfl) (by kernel_rfl) (by kernel_rfl) ?_; conv => whnf)
      | (apply And.intro; (focus (first | omega | rfl | decide | exact Nat.le_of_ble_eq_true rfl | ((repeat' (first | exact all_nil | refine all_cons ?_ ?_ | rfl | fail)); done) | (simp [-List.length_flatMap]; done) | (simp [-List.length_flatMap]; omega) | fail)); conv => whnf)
      | fail)
    · refine ⟨_, Sub.refl _, i, rfl, ?_, rfl⟩
      rw [hp, hd (by omega), h, decide_eq_true (by omega)]; rfl
    · refine ⟨i + 1, by (repeat' (first | refine cons_eq ?_ ?_ | refine int64_of ?_ ?_ ?_ | rfl | omega)), by (repeat (first | exact Same.refl _ _ | refine Same.upd rfl ?_ | refine Same.updL rfl ?_ | refine Same.havoc rfl ?_)), ⟨by omega, rfl, ?_⟩, by omega⟩
      rw [hp, hd (by omega), h, Bool.true_and]
    · refine ⟨_, Sub.refl _, -1, rfl, ?_, rfl⟩
      rw [hp, drop_end (by omega)]; rfl
theorem containsArg_ok (hT : Sc.Wds Γ) {s : Sto} {b : Nat} {T0 : TypeId} (t : Nat) (l : List (Ar)) (hl : l.length ≤ 100000) (hb : s.bx b = some (T0, [.func (.func 92) [] []])) :
    ACalls Tryz.prog Γ 112 [.slice t (l.map arA), .func (.func 113) [] [.ptr (some ⟨b, 0, none⟩)]] s fun v s' => v = .bool (!l.all argB) ∧ s' = s := by
  refine ACalls.of_awp Tryz.func112 rfl (Nat.le_of_ble_eq_true (by kernel_rfl)) (awp_ok _ (by kernel_rfl) ?_)
  conv => whnf
  repeat' (first
    | (refine ⟨Sub.refl _, ?_⟩)
    | (refine brA_split (fun h => ?_) (fun h => ?_) <;> (try rw [h]) <;> (try simp only [Bool.false_eq_true, Bool.true_eq_false, ↓reduceIte, decide_eq_true_eq, decide_eq_false_iff_not, Bool.not_eq_true', Bool.not_eq_false'] at h) <;> (conv => whnf))
    | (refine ACalls.by (indexArg_ok hT t l hl hb) ?_; rintro _ _ ⟨r, rfl, hr, rfl⟩; conv => whnf)
    | (refine getB_same ?_; conv => whnf)
    | (refine AWp.any (by kernel_rfl) (by kernel_rfl) (by kernel_rfl) ?_; conv => whnf)
    | (apply And.intro; (focus (first | omega | rfl | decide | exact Nat.le_of_ble_eq_true rfl | ((repeat' (first | exact all_nil | refine all_cons ?_ ?_ | rfl | fail)); done) | (simp [-List.length_flatMap]; done) | (simp [-List.length_flatMap]; omega) | fail)); conv => whnf)
    | fail)
  exact ⟨_, Sub.refl _, bool_eq hr, rfl⟩
theorem allArg_ok (hT : Sc.Wds Γ) (t : Nat) (l : List (Ar)) (hl : l.length ≤ 100000) : APure Tryz.prog Γ 91 [.slice t (l.map arA), .func (.func 92) [] []] fun v => v = .bool (l.all argB) := by
  refine APure.of_awp Tryz.func91 rfl (Nat.le_of_ble_eq_true (by kernel_rfl)) (by kernel_rfl) ?_
  intro s
  conv => whnf
  intro b hb
  conv => whnf
  repeat' (first
    | (refine ⟨Sub.refl _, ?_⟩)
    | (refine brA_split (fun h => ?_) (fun h => ?_) <;> (try rw [h]) <;> (try simp only [Bool.false_eq_true, Bool.true_eq_false, ↓reduceIte, decide_eq_true_eq, decide_eq_false_iff_not, Bool.not_eq_true', Bool.not_eq_false'] at h) <;> (conv => whnf))
    | (refine ACalls.by (containsArg_ok hT t l hl set_bx_same) ?_; rintro _ _ ⟨rfl, rfl⟩; conv => whnf)
    | (refine getB_same ?_; conv => whnf)
    | (refine AWp.any (by kernel_rfl) (by kernel_rfl) (by kernel_rfl) ?_; conv => whnf)
    | (apply And.intro; (focus (first | omega | rfl | decide | exact Nat.le_of_ble_eq_true rfl | ((repeat' (first | exact all_nil | refine all_cons ?_ ?_ | rfl | fail)); done) | (simp [-List.length_flatMap]; done) | (simp [-List.length_flatMap]; omega) | fail)); conv => whnf)
    | fail)
  exact ⟨(Sub.refl _).set hb _ _, bool_eq (by simp)⟩

theorem progSym_ok (hT : Sc.Wds Γ) (u : Nat × Sy) (hu : u.2.2.1.length ≤ 100000) : APure Tryz.prog Γ 46 [.agg (syA u)] fun v => v = .bool (symB u) := by
  refine APure.of_awp Tryz.func46 rfl (Nat.le_of_ble_eq_true (by kernel_rfl)) (by kernel_rfl) ?_
  intro s
  conv => whnf
  intro b hb
  conv => whnf
  repeat' (first
    | (refine ⟨Sub.refl _, ?_⟩)
    | (refine brA_split (fun h => ?_) (fun h => ?_) <;> (try rw [h]) <;> (try simp only [Bool.false_eq_true, Bool.true_eq_false, ↓reduceIte, decide_eq_true_eq, decide_eq_false_iff_not, Bool.not_eq_true', Bool.not_eq_false'] at h) <;> (conv => whnf))
    | (refine getB_of set_bx_same ?_; conv => whnf)
    | (refine ACalls.pure' ?_ (Sc.progName_any hT _); rintro _ rfl; conv => whnf)
    | (refine DCall.pure ?_ (Sc.progName_any hT _); conv => whnf)
    | (refine ACalls.pure' ?_ (allArg_ok hT _ _ hu); rintro _ rfl; conv => whnf)
    | (refine DCall.pure ?_ (allArg_ok hT _ _ hu); conv => whnf)
    | (refine getB_same ?_; conv => whnf)
    | (refine AWp.any (by kernel_rfl) (by kernel_rfl) (by kernel_rfl) ?_; conv => whnf)
    | (apply And.intro; (focus (first | omega | rfl | decide | exact Nat.le_of_ble_eq_true rfl | ((repeat' (first | exact all_nil | refine all_cons ?_ ?_ | rfl | fail)); done) | (simp [-List.length_flatMap]; done) | (simp [-List.length_flatMap]; omega) | fail)); conv => whnf)
    | fail)
  all_goals refine ⟨(Sub.refl _).set hb _ _, bool_eq ?_⟩
  all_goals simp [symB, *]

theorem fnSym_ok (hT : Sc.Wds Γ) {s : Sto} {b : Nat} {T0 : TypeId} (u : Nat × Sy) (hu : u.2.2.1.length ≤ 100000) (hb : s.bx b = some (T0, [.func (.func 46) [] []])) : ACalls Tryz.prog Γ 90 [.agg (syA u), .ptr (some ⟨b, 0, none⟩)] s fun v s' => v = .bool (!symB u) ∧ s' = s := by
  refine ACalls.of_awp Tryz.func90 rfl (Nat.le_of_ble_eq_true (by kernel_rfl)) (awp_ok _ (by kernel_rfl) ?_)
  conv => whnf
  intro c hc
  conv => whnf
  have hn := ne_of_none hb hc
  repeat' (first
    | (refine ⟨Sub.refl _, ?_⟩)
    | (refine brA_split (fun h => ?_) (fun h => ?_) <;> (try rw [h]) <;> (try simp only [Bool.false_eq_true, Bool.true_eq_false, ↓reduceIte, decide_eq_true_eq, decide_eq_false_iff_not, Bool.not_eq_true', Bool.not_eq_false'] at h) <;> (conv => whnf))
    | (refine getB_other hn (getB_of hb ?_); conv => whnf)
    | (refine getB_of set_bx_same ?_; conv => whnf)
    | (refine ACalls.pure' ?_ (progSym_ok hT u hu); rintro _ rfl; conv => whnf)
    | (refine DCall.pure ?_ (progSym_ok hT u hu); conv => whnf)
    | (refine getB_same ?_; conv => whnf)
    | (refine AWp.any (by kernel_rfl) (by kernel_rfl) (by kernel_rfl) ?_; conv => whnf)
    | (apply And.intro; (focus (first | omega | rfl | decide | exact Nat.le_of_ble_eq_true rfl | ((repeat' (first | exact all_nil | refine all_cons ?_ ?_ | rfl | fail)); done) | (simp [-List.length_flatMap]; done) | (simp [-List.length_flatMap]; omega) | fail)); conv => whnf)
    | fail)
  exact ⟨_, (Sub.refl _).set hc _ _, rfl, rfl⟩
theorem indexSym_ok (hT : Sc.Wds Γ) {s : Sto} {b : Nat} {T0 : TypeId} (t : Nat) (l : List (Nat × Sy)) (hl : l.length ≤ 100000) (hm : ∀ x ∈ l, x.2.2.1.length ≤ 100000) (hb : s.bx b = some (T0, [.func (.func 46) [] []])) :
    ACalls Tryz.prog Γ 111 [.slice t (l.map syA), .func (.func 90) [] [.ptr (some ⟨b, 0, none⟩)]] s fun v s' => ∃ r : Int, v = .int .i64 r ∧ decide (r ≥ 0) = !l.all symB ∧ s' = s := by
  have hml : (l.map syA).length = l.length := List.length_map ..
  refine ACalls.of_awp Tryz.func111 rfl (Nat.le_of_ble_eq_true (by kernel_rfl)) (awp_ok _ (by kernel_rfl) ?_)
  conv => whnf
  refine AWp.loopA [8] [9, 10, 5, 11, 12, 13, 14, 15, 16, 17, 4, 18] (fun i : Nat => [.int .i64 i]) (fun i s' => i ≤ l.length ∧ s' = s ∧ l.all symB = (l.drop i).all symB) (fun i => l.length - i) (0) (by kernel_rfl) (by (repeat' (first | refine cons_eq ?_ ?_ | refine int64_of ?_ ?_ ?_ | rfl | omega))) ?_ ?_
  · exact ⟨by omega, rfl, by simp⟩
  · rintro y i _ ⟨hi, rfl, hp⟩
    conv => whnf
    have hga := fun h : i < l.length => map_get (f := syA) (l := l) noSy h
    have hd := fun h : i < l.length => drop_all (p := symB) noSy h
    have hmx := fun h : i < l.length => hm _ (getD_mem noSy h)
    generalize l.getD i noSy = u at *
    repeat' (first
      | (refine ⟨Sub.refl _, ?_⟩)
      | (refine brA_split (fun h => ?_) (fun h => ?_) <;> (try rw [h]) <;> (try simp only [Bool.false_eq_true, Bool.true_eq_false, ↓reduceIte, decide_eq_true_eq, decide_eq_false_iff_not, Bool.not_eq_true', Bool.not_eq_false'] at h) <;> (conv => whnf))
      | (rw [show (l.map syA).getD ((i : Int)).toNat [] = _ from hga (by omega)]; conv => whnf)
      | (refine ACalls.by (fnSym_ok hT u (hmx (by omega)) hb) ?_; rintro _ _ ⟨rfl, rfl⟩; conv => whnf)
      | (refine getB_same ?_; conv => whnf)
      | (refine AWp.any (by kernel_rfl) (by kernel_rfl) (by kernel_rfl) ?_; conv => whnf)
      | (apply And.intro; (focus (first | omega | rfl | decide | exact Nat.le_of_ble_eq_true rfl | ((repeat' (first | exact all_nil | refine all_cons ?_ ?_ | rfl | fail)); done) | (simp [-List.length_flatMap]; done) | (simp [-List.length_flatMap]; omega) | fail)); conv => whnf)
      | fail)
    · refine ⟨_, Sub.refl _, i, rfl, ?_, rfl⟩
      rw [hp, hd (by omega), h, decide_eq_true (by omega)]; rfl
    · refine ⟨i + 1, by (repeat' (first | refine cons_eq ?_ ?_ | refine int64_of ?_ ?_ ?_ | rfl | omega)), by (repeat (first | exact Same.refl _ _ | refine Same.upd rfl ?_ | refine Same.updL rfl ?_ | refine Same.havoc rfl ?_)), ⟨by omega, rfl, ?_⟩, by omega⟩
      rw [hp, hd (by omega), h, Bool.true_and]
    · refine ⟨_, Sub.refl _, -1, rfl, ?_, rfl⟩
      rw [hp, drop_end (by omega)]; rfl
theorem containsSym_ok (hT : Sc.Wds Γ) {s : Sto} {b : Nat} {T0 : TypeId} (t : Nat) (l : List (Nat × Sy)) (hl : l.length ≤ 100000) (hm : ∀ x ∈ l, x.2.2.1.length ≤ 100000) (hb : s.bx b = some (T0, [.func (.func 46) [] []])) :
    ACalls Tryz.prog Γ 89 [.slice t (l.map syA), .func (.func 90) [] [.ptr (some ⟨b, 0, none⟩)]] s fun v s' => v = .bool (!l.all symB) ∧ s' = s := by
  refine ACalls.of_awp Tryz.func89 rfl (Nat.le_of_ble_eq_true (by kernel_rfl)) (awp_ok _ (by kernel_rfl) ?_)
  conv => whnf
  repeat' (first
    | (refine ⟨Sub.refl _, ?_⟩)
    | (refine brA_split (fun h => ?_) (fun h => ?_) <;> (try rw [h]) <;> (try simp only [Bool.false_eq_true, Bool.true_eq_false, ↓reduceIte, decide_eq_true_eq, decide_eq_false_iff_not, Bool.not_eq_true', Bool.not_eq_false'] at h) <;> (conv => whnf))
    | (refine ACalls.by (indexSym_ok hT t l hl hm hb) ?_; rintro _ _ ⟨r, rfl, hr, rfl⟩; conv => whnf)
    | (refine getB_same ?_; conv => whnf)
    | (refine AWp.any (by kernel_rfl) (by kernel_rfl) (by kernel_rfl) ?_; conv => whnf)
    | (apply And.intro; (focus (first | omega | rfl | decide | exact Nat.le_of_ble_eq_true rfl | ((repeat' (first | exact all_nil | refine all_cons ?_ ?_ | rfl | fail)); done) | (simp [-List.length_flatMap]; done) | (simp [-List.length_flatMap]; omega) | fail)); conv => whnf)
    | fail)
  exact ⟨_, Sub.refl _, bool_eq hr, rfl⟩
theorem allSym_ok (hT : Sc.Wds Γ) (t : Nat) (l : List (Nat × Sy)) (hl : l.length ≤ 100000) (hm : ∀ x ∈ l, x.2.2.1.length ≤ 100000) : APure Tryz.prog Γ 45 [.slice t (l.map syA), .func (.func 46) [] []] fun v => v = .bool (l.all symB) := by
  refine APure.of_awp Tryz.func45 rfl (Nat.le_of_ble_eq_true (by kernel_rfl)) (by kernel_rfl) ?_
  intro s
  conv => whnf
  intro b hb
  conv => whnf
  repeat' (first
    | (refine ⟨Sub.refl _, ?_⟩)
    | (refine brA_split (fun h => ?_) (fun h => ?_) <;> (try rw [h]) <;> (try simp only [Bool.false_eq_true, Bool.true_eq_false, ↓reduceIte, decide_eq_true_eq, decide_eq_false_iff_not, Bool.not_eq_true', Bool.not_eq_false'] at h) <;> (conv => whnf))
    | (refine ACalls.by (containsSym_ok hT t l hl hm set_bx_same) ?_; rintro _ _ ⟨rfl, rfl⟩; conv => whnf)
    | (refine getB_same ?_; conv => whnf)
    | (refine AWp.any (by kernel_rfl) (by kernel_rfl) (by kernel_rfl) ?_; conv => whnf)
    | (apply And.intro; (focus (first | omega | rfl | decide | exact Nat.le_of_ble_eq_true rfl | ((repeat' (first | exact all_nil | refine all_cons ?_ ?_ | rfl | fail)); done) | (simp [-List.length_flatMap]; done) | (simp [-List.length_flatMap]; omega) | fail)); conv => whnf)
    | fail)
  exact ⟨(Sub.refl _).set hb _ _, bool_eq (by simp)⟩

theorem progDecl_ok (hT : Sc.Wds Γ) (u : Nat × De) (hu : u.2.2.length ≤ 100000) : APure Tryz.prog Γ 35 [.agg (deA u)] fun v => v = .bool (declB u) := by
  refine APure.of_awp Tryz.func35 rfl (Nat.le_of_ble_eq_true (by kernel_rfl)) (by kernel_rfl) ?_
  intro s
  conv => whnf
  intro b hb
  conv => whnf
  repeat' (first
    | (refine ⟨Sub.refl _, ?_⟩)
    | (refine brA_split (fun h => ?_) (fun h => ?_) <;> (try rw [h]) <;> (try simp only [Bool.false_eq_true, Bool.true_eq_false, ↓reduceIte, decide_eq_true_eq, decide_eq_false_iff_not, Bool.not_eq_true', Bool.not_eq_false'] at h) <;> (conv => whnf))
    | (refine getB_of set_bx_same ?_; conv => whnf)
    | (refine ACalls.pure' ?_ (progName_ok hT u.2.1); rintro _ rfl; conv => whnf)
    | (refine DCall.pure ?_ (progName_ok hT u.2.1); conv => whnf)
    | (refine ACalls.pure' ?_ (allKind_ok _ _ hu); rintro _ rfl; conv => whnf)
    | (refine DCall.pure ?_ (allKind_ok _ _ hu); conv => whnf)
    | (refine getB_same ?_; conv => whnf)
    | (refine AWp.any (by kernel_rfl) (by kernel_rfl) (by kernel_rfl) ?_; conv => whnf)
    | (apply And.intro; (focus (first | omega | rfl | decide | exact Nat.le_of_ble_eq_true rfl | ((repeat' (first | exact all_nil | refine all_cons ?_ ?_ | rfl | fail)); done) | (simp [-List.length_flatMap]; done) | (simp [-List.length_flatMap]; omega) | fail)); conv => whnf)
    | fail)
  all_goals refine ⟨(Sub.refl _).set hb _ _, bool_eq ?_⟩
  all_goals simp [declB, *]

theorem fnDecl_ok (hT : Sc.Wds Γ) {s : Sto} {b : Nat} {T0 : TypeId} (u : Nat × De) (hu : u.2.2.length ≤ 100000) (hb : s.bx b = some (T0, [.func (.func 35) [] []])) : ACalls Tryz.prog Γ 76 [.agg (deA u), .ptr (some ⟨b, 0, none⟩)] s fun v s' => v = .bool (!declB u) ∧ s' = s := by
  refine ACalls.of_awp Tryz.func76 rfl (Nat.le_of_ble_eq_true (by kernel_rfl)) (awp_ok _ (by kernel_rfl) ?_)
  conv => whnf
  intro c hc
  conv => whnf
  have hn := ne_of_none hb hc
  repeat' (first
    | (refine ⟨Sub.refl _, ?_⟩)
    | (refine brA_split (fun h => ?_) (fun h => ?_) <;> (try rw [h]) <;> (try simp only [Bool.false_eq_true, Bool.true_eq_false, ↓reduceIte, decide_eq_true_eq, decide_eq_false_iff_not, Bool.not_eq_true', Bool.not_eq_false'] at h) <;> (conv => whnf))
    | (refine getB_other hn (getB_of hb ?_); conv => whnf)
    | (refine getB_of set_bx_same ?_; conv => whnf)
    | (refine ACalls.pure' ?_ (progDecl_ok hT u hu); rintro _ rfl; conv => whnf)
    | (refine DCall.pure ?_ (progDecl_ok hT u hu); conv => whnf)
    | (refine getB_same ?_; conv => whnf)
    | (refine AWp.any (by kernel_rfl) (by kernel_rfl) (by kernel_rfl) ?_; conv => whnf)
    | (apply And.intro; (focus (first | omega | rfl | decide | exact Nat.le_of_ble_eq_true rfl | ((repeat' (first | exact all_nil | refine all_cons ?_ ?_ | rfl | fail)); done) | (simp [-List.length_flatMap]; done) | (simp [-List.length_flatMap]; omega) | fail)); conv => whnf)
    | fail)
  exact ⟨_, (Sub.refl _).set hc _ _, rfl, rfl⟩
theorem indexDecl_ok (hT : Sc.Wds Γ) {s : Sto} {b : Nat} {T0 : TypeId} (t : Nat) (l : List (Nat × De)) (hl : l.length ≤ 100000) (hm : ∀ x ∈ l, x.2.2.length ≤ 100000) (hb : s.bx b = some (T0, [.func (.func 35) [] []])) :
    ACalls Tryz.prog Γ 106 [.slice t (l.map deA), .func (.func 76) [] [.ptr (some ⟨b, 0, none⟩)]] s fun v s' => ∃ r : Int, v = .int .i64 r ∧ decide (r ≥ 0) = !l.all declB ∧ s' = s := by
  have hml : (l.map deA).length = l.length := List.length_map ..
  refine ACalls.of_awp Tryz.func106 rfl (Nat.le_of_ble_eq_true (by kernel_rfl)) (awp_ok _ (by kernel_rfl) ?_)
  conv => whnf
  refine AWp.loopA [8] [9, 10, 5, 11, 12, 13, 14, 15, 16, 17, 4, 18] (fun i : Nat => [.int .i64 i]) (fun i s' => i ≤ l.length ∧ s' = s ∧ l.all declB = (l.drop i).all declB) (fun i => l.length - i) (0) (by kernel_rfl) (by (repeat' (first | refine cons_eq ?_ ?_ | refine int64_of ?_ ?_ ?_ | rfl | omega))) ?_ ?_
  · exact ⟨by omega, rfl, by simp⟩
  · rintro y i _ ⟨hi, rfl, hp⟩
    conv => whnf
    have hga := fun h : i < l.length => map_get (f := deA) (l := l) noDe h
    have hd := fun h : i < l.length => drop_all (p := declB) noDe h
    have hmx := fun h : i < l.length => hm _ (getD_mem noDe h)
    generalize l.getD i noDe = u at *
    repeat' (first
      | (refine ⟨Sub.refl _, ?_⟩)
      | (refine brA_split (fun h => ?_) (fun h => ?_) <;> (try rw [h]) <;> (try simp only [Bool.false_eq_true, Bool.true_eq_false, ↓reduceIte, decide_eq_true_eq, decide_eq_false_iff_not, Bool.not_eq_true', Bool.not_eq_false'] at h) <;> (conv => whnf))
      | (rw [show (l.map deA).getD ((i : Int)).toNat [] = _ from hga (by omega)]; conv => whnf)
      | (refine ACalls.by (fnDecl_ok hT u (hmx (by omega)) hb) ?_; rintro _ _ ⟨rfl, rfl⟩; conv => whnf)
      | (refine getB_same ?_; conv => whnf)
      | (refine AWp.any (by kernel_rfl) (by kernel_rfl) (by kernel_rfl) ?_; conv => whnf)
      | (apply And.intro; (focus (first | omega | rfl | decide | exact Nat.le_of_ble_eq_true rfl | ((repeat' (first | exact all_nil | refine all_cons ?_ ?_ | rfl | fail)); done) | (simp [-List.length_flatMap]; done) | (simp [-List.length_flatMap]; omega) | fail)); conv => whnf)
      | fail)
    · refine ⟨_, Sub.refl _, i, rfl, ?_, rfl⟩
      rw [hp, hd (by omega), h, decide_eq_true (by omega)]; rfl
    · refine ⟨i + 1, by (repeat' (first | refine cons_eq ?_ ?_ | refine int64_of ?_ ?_ ?_ | rfl | omega)), by (repeat (first | exact Same.refl _ _ | refine Same.upd rfl ?_ | refine Same.updL rfl ?_ | refine Same.havoc rfl ?_)), ⟨by omega, rfl, ?_⟩, by omega⟩
      rw [hp, hd (by omega), h, Bool.true_and]
    · refine ⟨_, Sub.refl _, -1, rfl, ?_, rfl⟩
      rw [hp, drop_end (by omega)]; rfl
theorem containsDecl_ok (hT : Sc.Wds Γ) {s : Sto} {b : Nat} {T0 : TypeId} (t : Nat) (l : List (Nat × De)) (hl : l.length ≤ 100000) (hm : ∀ x ∈ l, x.2.2.length ≤ 100000) (hb : s.bx b = some (T0, [.func (.func 35) [] []])) :
    ACalls Tryz.prog Γ 75 [.slice t (l.map deA), .func (.func 76) [] [.ptr (some ⟨b, 0, none⟩)]] s fun v s' => v = .bool (!l.all declB) ∧ s' = s := by
  refine ACalls.of_awp Tryz.func75 rfl (Nat.le_of_ble_eq_true (by kernel_rfl)) (awp_ok _ (by kernel_rfl) ?_)
  conv => whnf
  repeat' (first
    | (refine ⟨Sub.refl _, ?_⟩)
    | (refine brA_split (fun h => ?_) (fun h => ?_) <;> (try rw [h]) <;> (try simp only [Bool.false_eq_true, Bool.true_eq_false, ↓reduceIte, decide_eq_true_eq, decide_eq_false_iff_not, Bool.not_eq_true', Bool.not_eq_false'] at h) <;> (conv => whnf))
    | (refine ACalls.by (indexDecl_ok hT t l hl hm hb) ?_; rintro _ _ ⟨r, rfl, hr, rfl⟩; conv => whnf)
    | (refine getB_same ?_; conv => whnf)
    | (refine AWp.any (by kernel_rfl) (by kernel_rfl) (by kernel_rfl) ?_; conv => whnf)
    | (apply And.intro; (focus (first | omega | rfl | decide | exact Nat.le_of_ble_eq_true rfl | ((repeat' (first | exact all_nil | refine all_cons ?_ ?_ | rfl | fail)); done) | (simp [-List.length_flatMap]; done) | (simp [-List.length_flatMap]; omega) | fail)); conv => whnf)
    | fail)
  exact ⟨_, Sub.refl _, bool_eq hr, rfl⟩
theorem allDecl_ok (hT : Sc.Wds Γ) (t : Nat) (l : List (Nat × De)) (hl : l.length ≤ 100000) (hm : ∀ x ∈ l, x.2.2.length ≤ 100000) : APure Tryz.prog Γ 34 [.slice t (l.map deA), .func (.func 35) [] []] fun v => v = .bool (l.all declB) := by
  refine APure.of_awp Tryz.func34 rfl (Nat.le_of_ble_eq_true (by kernel_rfl)) (by kernel_rfl) ?_
  intro s
  conv => whnf
  intro b hb
  conv => whnf
  repeat' (first
    | (refine ⟨Sub.refl _, ?_⟩)
    | (refine brA_split (fun h => ?_) (fun h => ?_) <;> (try rw [h]) <;> (try simp only [Bool.false_eq_true, Bool.true_eq_false, ↓reduceIte, decide_eq_true_eq, decide_eq_false_iff_not, Bool.not_eq_true', Bool.not_eq_false'] at h) <;> (conv => whnf))
    | (refine ACalls.by (containsDecl_ok hT t l hl hm set_bx_same) ?_; rintro _ _ ⟨rfl, rfl⟩; conv => whnf)
    | (refine getB_same ?_; conv => whnf)
    | (refine AWp.any (by kernel_rfl) (by kernel_rfl) (by kernel_rfl) ?_; conv => whnf)
    | (apply And.intro; (focus (first | omega | rfl | decide | exact Nat.le_of_ble_eq_true rfl | ((repeat' (first | exact all_nil | refine all_cons ?_ ?_ | rfl | fail)); done) | (simp [-List.length_flatMap]; done) | (simp [-List.length_flatMap]; omega) | fail)); conv => whnf)
    | fail)
  exact ⟨(Sub.refl _).set hb _ _, bool_eq (by simp)⟩

theorem progQuant_ok (hT : Sc.Wds Γ) (u : Qu) : APure Tryz.prog Γ 39 [.agg (quA u)] fun v => v = .bool (quantB u) := by
  refine APure.of_awp Tryz.func39 rfl (Nat.le_of_ble_eq_true (by kernel_rfl)) (by kernel_rfl) ?_
  intro s
  conv => whnf
  intro b hb
  conv => whnf
  repeat' (first
    | (refine ⟨Sub.refl _, ?_⟩)
    | (refine brA_split (fun h => ?_) (fun h => ?_) <;> (try rw [h]) <;> (try simp only [Bool.false_eq_true, Bool.true_eq_false, ↓reduceIte, decide_eq_true_eq, decide_eq_false_iff_not, Bool.not_eq_true', Bool.not_eq_false'] at h) <;> (conv => whnf))
    | (refine getB_of set_bx_same ?_; conv => whnf)
    | (refine ACalls.pure' ?_ (progName_ok hT u.2.1); rintro _ rfl; conv => whnf)
    | (refine DCall.pure ?_ (progName_ok hT u.2.1); conv => whnf)
    | (refine ACalls.pure' ?_ (progKind_ok _); rintro _ rfl; conv => whnf)
    | (refine DCall.pure ?_ (progKind_ok _); conv => whnf)
    | (refine getB_same ?_; conv => whnf)
    | (refine AWp.any (by kernel_rfl) (by kernel_rfl) (by kernel_rfl) ?_; conv => whnf)
    | (apply And.intro; (focus (first | omega | rfl | decide | exact Nat.le_of_ble_eq_true rfl | ((repeat' (first | exact all_nil | refine all_cons ?_ ?_ | rfl | fail)); done) | (simp [-List.length_flatMap]; done) | (simp [-List.length_flatMap]; omega) | fail)); conv => whnf)
    | fail)
  all_goals refine ⟨(Sub.refl _).set hb _ _, bool_eq ?_⟩
  all_goals simp [quantB, *]

theorem fnQuant_ok (hT : Sc.Wds Γ) {s : Sto} {b : Nat} {T0 : TypeId} (u : Qu) (hb : s.bx b = some (T0, [.func (.func 39) [] []])) : ACalls Tryz.prog Γ 81 [.agg (quA u), .ptr (some ⟨b, 0, none⟩)] s fun v s' => v = .bool (!quantB u) ∧ s' = s := by
  refine ACalls.of_awp Tryz.func81 rfl (Nat.le_of_ble_eq_true (by kernel_rfl)) (awp_ok _ (by kernel_rfl) ?_)
  conv => whnf
  intro c hc
  conv => whnf
  have hn := ne_of_none hb hc
  repeat' (first
    | (refine ⟨Sub.refl _, ?_⟩)
    | (refine brA_split (fun h => ?_) (fun h => ?_) <;> (try rw [h]) <;> (try simp only [Bool.false_eq_true, Bool.true_eq_false, ↓reduceIte, decide_eq_true_eq, decide_eq_false_iff_not, Bool.not_eq_true', Bool.not_eq_false'] at h) <;> (conv => whnf))
    | (refine getB_other hn (getB_of hb ?_); conv => whnf)
    | (refine getB_of set_bx_same ?_; conv => whnf)
    | (refine ACalls.pure' ?_ (progQuant_ok hT u); rintro _ rfl; conv => whnf)
    | (refine DCall.pure ?_ (progQuant_ok hT u); conv => whnf)
    | (refine getB_same ?_; conv => whnf)
    | (refine AWp.any (by kernel_rfl) (by kernel_rfl) (by kernel_rfl) ?_; conv => whnf)
    | (apply And.intro; (focus (first | omega | rfl | decide | exact Nat.le_of_ble_eq_true rfl | ((repeat' (first | exact all_nil | refine all_cons ?_ ?_ | rfl | fail)); done) | (simp [-List.length_flatMap]; done) | (simp [-List.length_flatMap]; omega) | fail)); conv => whnf)
    | fail)
  exact ⟨_, (Sub.refl _).set hc _ _, rfl, rfl⟩
theorem indexQuant_ok (hT : Sc.Wds Γ) {s : Sto} {b : Nat} {T0 : TypeId} (t : Nat) (l : List (Qu)) (hl : l.length ≤ 100000) (hb : s.bx b = some (T0, [.func (.func 39) [] []])) :
    ACalls Tryz.prog Γ 108 [.slice t (l.map quA), .func (.func 81) [] [.ptr (some ⟨b, 0, none⟩)]] s fun v s' => ∃ r : Int, v = .int .i64 r ∧ decide (r ≥ 0) = !l.all quantB ∧ s' = s := by
  have hml : (l.map quA).length = l.length := List.length_map ..
  refine ACalls.of_awp Tryz.func108 rfl (Nat.le_of_ble_eq_true (by kernel_rfl)) (awp_ok _ (by kernel_rfl) ?_)
  conv => whnf
  refine AWp.loopA [8] [9, 10, 5, 11, 12, 13, 14, 15, 16, 17, 4, 18] (fun i : Nat => [.int .i64 i]) (fun i s' => i ≤ l.length ∧ s' = s ∧ l.all quantB = (l.drop i).all quantB) (fun i => l.length - i) (0) (by kernel_rfl) (by (repeat' (first | refine cons_eq ?_ ?_ | refine int64_of ?_ ?_ ?_ | rfl | omega))) ?_ ?_
  · exact ⟨by omega, rfl, by simp⟩
  · rintro y i _ ⟨hi, rfl, hp⟩
    conv => whnf
    have hga := fun h : i < l.length => map_get (f := quA) (l := l) noQu h
    have hd := fun h : i < l.length => drop_all (p := quantB) noQu h
    generalize l.getD i noQu = u at *
    repeat' (first
      | (refine ⟨Sub.refl _, ?_⟩)
      | (refine brA_split (fun h => ?_) (fun h => ?_) <;> (try rw [h]) <;> (try simp only [Bool.false_eq_true, Bool.true_eq_false, ↓reduceIte, decide_eq_true_eq, decide_eq_false_iff_not, Bool.not_eq_true', Bool.not_eq_false'] at h) <;> (conv => whnf))
      | (rw [show (l.map quA).getD ((i : Int)).toNat [] = _ from hga (by omega)]; conv => whnf)
      | (refine ACalls.by (fnQuant_ok hT u hb) ?_; rintro _ _ ⟨rfl, rfl⟩; conv => whnf)
      | (refine getB_same ?_; conv => whnf)
      | (refine AWp.any (by kernel_rfl) (by kernel_rfl) (by kernel_rfl) ?_; conv => whnf)
      | (apply And.intro; (focus (first | omega | rfl | decide | exact Nat.le_of_ble_eq_true rfl | ((repeat' (first | exact all_nil | refine all_cons ?_ ?_ | rfl | fail)); done) | (simp [-List.length_flatMap]; done) | (simp [-List.length_flatMap]; omega) | fail)); conv => whnf)
      | fail)
    · refine ⟨_, Sub.refl _, i, rfl, ?_, rfl⟩
      rw [hp, hd (by omega), h, decide_eq_true (by omega)]; rfl
    · refine ⟨i + 1, by (repeat' (first | refine cons_eq ?_ ?_ | refine int64_of ?_ ?_ ?_ | rfl | omega)), by (repeat (first | exact Same.refl _ _ | refine Same.upd rfl ?_ | refine Same.updL rfl ?_ | refine Same.havoc rfl ?_)), ⟨by omega, rfl, ?_⟩, by omega⟩
      rw [hp, hd (by omega), h, Bool.true_and]
    · refine ⟨_, Sub.refl _, -1, rfl, ?_, rfl⟩
      rw [hp, drop_end (by omega)]; rfl
theorem containsQuant_ok (hT : Sc.Wds Γ) {s : Sto} {b : Nat} {T0 : TypeId} (t : Nat) (l : List (Qu)) (hl : l.length ≤ 100000) (hb : s.bx b = some (T0, [.func (.func 39) [] []])) :
    ACalls Tryz.prog Γ 80 [.slice t (l.map quA), .func (.func 81) [] [.ptr (some ⟨b, 0, none⟩)]] s fun v s' => v = .bool (!l.all quantB) ∧ s' = s := by
  refine ACalls.of_awp Tryz.func80 rfl (Nat.le_of_ble_eq_true (by kernel_rfl)) (awp_ok _ (by kernel_rfl) ?_)
  conv => whnf
  repeat' (first
    | (refine ⟨Sub.refl _, ?_⟩)
    | (refine brA_split (fun h => ?_) (fun h => ?_) <;> (try rw [h]) <;> (try simp only [Bool.false_eq_true, Bool.true_eq_false, ↓reduceIte, decide_eq_true_eq, decide_eq_false_iff_not, Bool.not_eq_true', Bool.not_eq_false'] at h) <;> (conv => whnf))
    | (refine ACalls.by (indexQuant_ok hT t l hl hb) ?_; rintro _ _ ⟨r, rfl, hr, rfl⟩; conv => whnf)
    | (refine getB_same ?_; conv => whnf)
    | (refine AWp.any (by kernel_rfl) (by kernel_rfl) (by kernel_rfl) ?_; conv => whnf)
    | (apply And.intro; (focus (first | omega | rfl | decide | exact Nat.le_of_ble_eq_true rfl | ((repeat' (first | exact all_nil | refine all_cons ?_ ?_ | rfl | fail)); done) | (simp [-List.length_flatMap]; done) | (simp [-List.length_flatMap]; omega) | fail)); conv => whnf)
    | fail)
  exact ⟨_, Sub.refl _, bool_eq hr, rfl⟩
theorem allQuant_ok (hT : Sc.Wds Γ) (t : Nat) (l : List (Qu)) (hl : l.length ≤ 100000) : APure Tryz.prog Γ 38 [.slice t (l.map quA), .func (.func 39) [] []] fun v => v = .bool (l.all quantB) := by
  refine APure.of_awp Tryz.func38 rfl (Nat.le_of_ble_eq_true (by kernel_rfl)) (by kernel_rfl) ?_
  intro s
  conv => whnf
  intro b hb
  conv => whnf
  repeat' (first
    | (refine ⟨Sub.refl _, ?_⟩)
    | (refine brA_split (fun h => ?_) (fun h => ?_) <;> (try rw [h]) <;> (try simp only [Bool.false_eq_true, Bool.true_eq_false, ↓reduceIte, decide_eq_true_eq, decide_eq_false_iff_not, Bool.not_eq_true', Bool.not_eq_false'] at h) <;> (conv => whnf))
    | (refine ACalls.by (containsQuant_ok hT t l hl set_bx_same) ?_; rintro _ _ ⟨rfl, rfl⟩; conv => whnf)
    | (refine getB_same ?_; conv => whnf)
    | (refine AWp.any (by kernel_rfl) (by kernel_rfl) (by kernel_rfl) ?_; conv => whnf)
    | (apply And.intro; (focus (first | omega | rfl | decide | exact Nat.le_of_ble_eq_true rfl | ((repeat' (first | exact all_nil | refine all_cons ?_ ?_ | rfl | fail)); done) | (simp [-List.length_flatMap]; done) | (simp [-List.length_flatMap]; omega) | fail)); conv => whnf)
    | fail)
  exact ⟨(Sub.refl _).set hb _ _, bool_eq (by simp)⟩

theorem progFree_ok (hT : Sc.Wds Γ) (u : Fr) : APure Tryz.prog Γ 41 [.agg (frA u)] fun v => v = .bool (freeB u) := by
  refine APure.of_awp Tryz.func41 rfl (Nat.le_of_ble_eq_true (by kernel_rfl)) (by kernel_rfl) ?_
  intro s
  conv => whnf
  intro b hb
  conv => whnf
  repeat' (first
    | (refine ⟨Sub.refl _, ?_⟩)
    | (refine brA_split (fun h => ?_) (fun h => ?_) <;> (try rw [h]) <;> (try simp only [Bool.false_eq_true, Bool.true_eq_false, ↓reduceIte, decide_eq_true_eq, decide_eq_false_iff_not, Bool.not_eq_true', Bool.not_eq_false'] at h) <;> (conv => whnf))
    | (refine getB_of set_bx_same ?_; conv => whnf)
    | (refine ACalls.pure' ?_ (progName_ok hT u.1); rintro _ rfl; conv => whnf)
    | (refine DCall.pure ?_ (progName_ok hT u.1); conv => whnf)
    | (refine ACalls.pure' ?_ (rightV_ok u.2); rintro _ rfl; conv => whnf)
    | (refine DCall.pure ?_ (rightV_ok u.2); conv => whnf)
    | (refine getB_same ?_; conv => whnf)
    | (refine AWp.any (by kernel_rfl) (by kernel_rfl) (by kernel_rfl) ?_; conv => whnf)
    | (apply And.intro; (focus (first | omega | rfl | decide | exact Nat.le_of_ble_eq_true rfl | ((repeat' (first | exact all_nil | refine all_cons ?_ ?_ | rfl | fail)); done) | (simp [-List.length_flatMap]; done) | (simp [-List.length_flatMap]; omega) | fail)); conv => whnf)
    | fail)
  all_goals refine ⟨(Sub.refl _).set hb _ _, bool_eq ?_⟩
  all_goals simp [freeB, *]

theorem fnFree_ok (hT : Sc.Wds Γ) {s : Sto} {b : Nat} {T0 : TypeId} (u : Fr) (hb : s.bx b = some (T0, [.func (.func 41) [] []])) : ACalls Tryz.prog Γ 83 [.agg (frA u), .ptr (some ⟨b, 0, none⟩)] s fun v s' => v = .bool (!freeB u) ∧ s' = s := by
  refine ACalls.of_awp Tryz.func83 rfl (Nat.le_of_ble_eq_true (by kernel_rfl)) (awp_ok _ (by kernel_rfl) ?_)
  conv => whnf
  intro c hc
  conv => whnf
  have hn := ne_of_none hb hc
  repeat' (first
    | (refine ⟨Sub.refl _, ?_⟩)
    | (refine brA_split (fun h => ?_) (fun h => ?_) <;> (try rw [h]) <;> (try simp only [Bool.false_eq_true, Bool.true_eq_false, ↓reduceIte, decide_eq_true_eq, decide_eq_false_iff_not, Bool.not_eq_true', Bool.not_eq_false'] at h) <;> (conv => whnf))
    | (refine getB_other hn (getB_of hb ?_); conv => whnf)
    | (refine getB_of set_bx_same ?_; conv => whnf)
    | (refine ACalls.pure' ?_ (progFree_ok hT u); rintro _ rfl; conv => whnf)
    | (refine DCall.pure ?_ (progFree_ok hT u); conv => whnf)
    | (refine getB_same ?_; conv => whnf)
    | (refine AWp.any (by kernel_rfl) (by kernel_rfl) (by kernel_rfl) ?_; conv => whnf)
    | (apply And.intro; (focus (first | omega | rfl | decide | exact Nat.le_of_ble_eq_true rfl | ((repeat' (first | exact all_nil | refine all_cons ?_ ?_ | rfl | fail)); done) | (simp [-List.length_flatMap]; done) | (simp [-List.length_flatMap]; omega) | fail)); conv => whnf)
    | fail)
  exact ⟨_, (Sub.refl _).set hc _ _, rfl, rfl⟩
theorem indexFree_ok (hT : Sc.Wds Γ) {s : Sto} {b : Nat} {T0 : TypeId} (t : Nat) (l : List (Fr)) (hl : l.length ≤ 100000) (hb : s.bx b = some (T0, [.func (.func 41) [] []])) :
    ACalls Tryz.prog Γ 109 [.slice t (l.map frA), .func (.func 83) [] [.ptr (some ⟨b, 0, none⟩)]] s fun v s' => ∃ r : Int, v = .int .i64 r ∧ decide (r ≥ 0) = !l.all freeB ∧ s' = s := by
  have hml : (l.map frA).length = l.length := List.length_map ..
  refine ACalls.of_awp Tryz.func109 rfl (Nat.le_of_ble_eq_true (by kernel_rfl)) (awp_ok _ (by kernel_rfl) ?_)
  conv => whnf
  refine AWp.loopA [8] [9, 10, 5, 11, 12, 13, 14, 15, 16, 17, 4, 18] (fun i : Nat => [.int .i64 i]) (fun i s' => i ≤ l.length ∧ s' = s ∧ l.all freeB = (l.drop i).all freeB) (fun i => l.length - i) (0) (by kernel_rfl) (by (repeat' (first | refine cons_eq ?_ ?_ | refine int64_of ?_ ?_ ?_ | rfl | omega))) ?_ ?_
  · exact ⟨by omega, rfl, by simp⟩
  · rintro y i _ ⟨hi, rfl, hp⟩
    conv => whnf
    have hga := fun h : i < l.length => map_get (f := frA) (l := l) noFr h
    have hd := fun h : i < l.length => drop_all (p := freeB) noFr h
    generalize l.getD i noFr = u at *
    repeat' (first
      | (refine ⟨Sub.refl _, ?_⟩)
      | (refine brA_split (fun h => ?_) (fun h => ?_) <;> (try rw [h]) <;> (try simp only [Bool.false_eq_true, Bool.true_eq_false, ↓reduceIte, decide_eq_true_eq, decide_eq_false_iff_not, Bool.not_eq_true', Bool.not_eq_false'] at h) <;> (conv => whnf))
      | (rw [show (l.map frA).getD ((i : Int)).toNat [] = _ from hga (by omega)]; conv => whnf)
      | (refine ACalls.by (fnFree_ok hT u hb) ?_; rintro _ _ ⟨rfl, rfl⟩; conv => whnf)
      | (refine getB_same ?_; conv => whnf)
      | (refine AWp.any (by kernel_rfl) (by kernel_rfl) (by kernel_rfl) ?_; conv => whnf)
      | (apply And.intro; (focus (first | omega | rfl | decide | exact Nat.le_of_ble_eq_true rfl | ((repeat' (first | exact all_nil | refine all_cons ?_ ?_ | rfl | fail)); done) | (simp [-List.length_flatMap]; done) | (simp [-List.length_flatMap]; omega) | fail)); conv => whnf)
      | fail)
    · refine ⟨_, Sub.refl _, i, rfl, ?_, rfl⟩
      rw [hp, hd (by omega), h, decide_eq_true (by omega)]; rfl
    · refine ⟨i + 1, by (repeat' (first | refine cons_eq ?_ ?_ | refine int64_of ?_ ?_ ?_ | rfl | omega)), by (repeat (first | exact Same.refl _ _ | refine Same.upd rfl ?_ | refine Same.updL rfl ?_ | refine Same.havoc rfl ?_)), ⟨by omega, rfl, ?_⟩, by omega⟩
      rw [hp, hd (by omega), h, Bool.true_and]
    · refine ⟨_, Sub.refl _, -1, rfl, ?_, rfl⟩
      rw [hp, drop_end (by omega)]; rfl
theorem containsFree_ok (hT : Sc.Wds Γ) {s : Sto} {b : Nat} {T0 : TypeId} (t : Nat) (l : List (Fr)) (hl : l.length ≤ 100000) (hb : s.bx b = some (T0, [.func (.func 41) [] []])) :
    ACalls Tryz.prog Γ 82 [.slice t (l.map frA), .func (.func 83) [] [.ptr (some ⟨b, 0, none⟩)]] s fun v s' => v = .bool (!l.all freeB) ∧ s' = s := by
  refine ACalls.of_awp Tryz.func82 rfl (Nat.le_of_ble_eq_true (by kernel_rfl)) (awp_ok _ (by kernel_rfl) ?_)
  conv => whnf
  repeat' (first
    | (refine ⟨Sub.refl _, ?_⟩)
    | (refine brA_split (fun h => ?_) (fun h => ?_) <;> (try rw [h]) <;> (try simp only [Bool.false_eq_true, Bool.true_eq_false, ↓reduceIte, decide_eq_true_eq, decide_eq_false_iff_not, Bool.not_eq_true', Bool.not_eq_false'] at h) <;> (conv => whnf))
    | (refine ACalls.by (indexFree_ok hT t l hl hb) ?_; rintro _ _ ⟨r, rfl, hr, rfl⟩; conv => whnf)
    | (refine getB_same ?_; conv => whnf)
    | (refine AWp.any (by kernel_rfl) (by kernel_rfl) (by kernel_rfl) ?_; conv => whnf)
    | (apply And.intro; (focus (first | omega | rfl | decide | exact Nat.le_of_ble_eq_true rfl | ((repeat' (first | exact all_nil | refine all_cons ?_ ?_ | rfl | fail)); done) | (simp [-List.length_flatMap]; done) | (simp [-List.length_flatMap]; omega) | fail)); conv => whnf)
    | fail)
  exact ⟨_, Sub.refl _, bool_eq hr, rfl⟩
theorem allFree_ok (hT : Sc.Wds Γ) (t : Nat) (l : List (Fr)) (hl : l.length ≤ 100000) : APure Tryz.prog Γ 40 [.slice t (l.map frA), .func (.func 41) [] []] fun v => v = .bool (l.all freeB) := by
  refine APure.of_awp Tryz.func40 rfl (Nat.le_of_ble_eq_true (by kernel_rfl)) (by kernel_rfl) ?_
  intro s
  conv => whnf
  intro b hb
  conv => whnf
  repeat' (first
    | (refine ⟨Sub.refl _, ?_⟩)
    | (refine brA_split (fun h => ?_) (fun h => ?_) <;> (try rw [h]) <;> (try simp only [Bool.false_eq_true, Bool.true_eq_false, ↓reduceIte, decide_eq_true_eq, decide_eq_false_iff_not, Bool.not_eq_true', Bool.not_eq_false'] at h) <;> (conv => whnf))
    | (refine ACalls.by (containsFree_ok hT t l hl set_bx_same) ?_; rintro _ _ ⟨rfl, rfl⟩; conv => whnf)
    | (refine getB_same ?_; conv => whnf)
    | (refine AWp.any (by kernel_rfl) (by kernel_rfl) (by kernel_rfl) ?_; conv => whnf)
    | (apply And.intro; (focus (first | omega | rfl | decide | exact Nat.le_of_ble_eq_true rfl | ((repeat' (first | exact all_nil | refine all_cons ?_ ?_ | rfl | fail)); done) | (simp [-List.length_flatMap]; done) | (simp [-List.length_flatMap]; omega) | fail)); conv => whnf)
    | fail)
  exact ⟨(Sub.refl _).set hb _ _, bool_eq (by simp)⟩

theorem progState_ok (hT : Sc.Wds Γ) (u : St) : APure Tryz.prog Γ 44 [.agg (stA u)] fun v => v = .bool (stateB u) := by
  refine APure.of_awp Tryz.func44 rfl (Nat.le_of_ble_eq_true (by kernel_rfl)) (by kernel_rfl) ?_
  intro s
  conv => whnf
  intro b hb
  conv => whnf
  repeat' (first
    | (refine ⟨Sub.refl _, ?_⟩)
    | (refine brA_split (fun h => ?_) (fun h => ?_) <;> (try rw [h]) <;> (try simp only [Bool.false_eq_true, Bool.true_eq_false, ↓reduceIte, decide_eq_true_eq, decide_eq_false_iff_not, Bool.not_eq_true', Bool.not_eq_false'] at h) <;> (conv => whnf))
    | (refine getB_of set_bx_same ?_; conv => whnf)
    | (refine ACalls.pure' ?_ (progName_ok hT u.1); rintro _ rfl; conv => whnf)
    | (refine DCall.pure ?_ (progName_ok hT u.1); conv => whnf)
    | (refine getB_same ?_; conv => whnf)
    | (refine AWp.any (by kernel_rfl) (by kernel_rfl) (by kernel_rfl) ?_; conv => whnf)
    | (apply And.intro; (focus (first | omega | rfl | decide | exact Nat.le_of_ble_eq_true rfl | ((repeat' (first | exact all_nil | refine all_cons ?_ ?_ | rfl | fail)); done) | (simp [-List.length_flatMap]; done) | (simp [-List.length_flatMap]; omega) | fail)); conv => whnf)
    | fail)
  all_goals refine ⟨(Sub.refl _).set hb _ _, bool_eq ?_⟩
  all_goals simp [stateB, *]

theorem fnState_ok (hT : Sc.Wds Γ) {s : Sto} {b : Nat} {T0 : TypeId} (u : St) (hb : s.bx b = some (T0, [.func (.func 44) [] []])) : ACalls Tryz.prog Γ 88 [.agg (stA u), .ptr (some ⟨b, 0, none⟩)] s fun v s' => v = .bool (!stateB u) ∧ s' = s := by
  refine ACalls.of_awp Tryz.func88 rfl (Nat.le_of_ble_eq_true (by kernel_rfl)) (awp_ok _ (by kernel_rfl) ?_)
  conv => whnf
  intro c hc
  conv => whnf
  have hn := ne_of_none hb hc
  repeat' (first
    | (refine ⟨Sub.refl _, ?_⟩)
    | (refine brA_split (fun h => ?_) (fun h => ?_) <;> (try rw [h]) <;> (try simp only [Bool.false_eq_true, Bool.true_eq_false, ↓reduceIte, decide_eq_true_eq, decide_eq_false_iff_not, Bool.not_eq_true', Bool.not_eq_false'] at h) <;> (conv => whnf))
    | (refine getB_other hn (getB_of hb ?_); conv => whnf)
    | (refine getB_of set_bx_same ?_; conv => whnf)
    | (refine ACalls.pure' ?_ (progState_ok hT u); rintro _ rfl; conv => whnf)
    | (refine DCall.pure ?_ (progState_ok hT u); conv => whnf)
    | (refine getB_same ?_; conv => whnf)
    | (refine AWp.any (by kernel_rfl) (by kernel_rfl) (by kernel_rfl) ?_; conv => whnf)
    | (apply And.intro; (focus (first | omega | rfl | decide | exact Nat.le_of_ble_eq_true rfl | ((repeat' (first | exact all_nil | refine all_cons ?_ ?_ | rfl | fail)); done) | (simp [-List.length_flatMap]; done) | (simp [-List.length_flatMap]; omega) | fail)); conv => whnf)
    | fail)
  exact ⟨_, (Sub.refl _).set hc _ _, rfl, rfl⟩
theorem indexState_ok (hT : Sc.Wds Γ) {s : Sto} {b : Nat} {T0 : TypeId} (t : Nat) (l : List (St)) (hl : l.length ≤ 100000) (hb : s.bx b = some (T0, [.func (.func 44) [] []])) :
    ACalls Tryz.prog Γ 110 [.slice t (l.map stA), .func (.func 88) [] [.ptr (some ⟨b, 0, none⟩)]] s fun v s' => ∃ r : Int, v = .int .i64 r ∧ decide (r ≥ 0) = !l.all stateB ∧ s' = s := by
  have hml : (l.map stA).length = l.length := List.length_map ..
  refine ACalls.of_awp Tryz.func110 rfl (Nat.le_of_ble_eq_true (by kernel_rfl)) (awp_ok _ (by kernel_rfl) ?_)
  conv => whnf
  refine AWp.loopA [8] [9, 10, 5, 11, 12, 13, 14, 15, 16, 17, 4, 18] (fun i : Nat => [.int .i64 i]) (fun i s' => i ≤ l.length ∧ s' = s ∧ l.all stateB = (l.drop i).all stateB) (fun i => l.length - i) (0) (by kernel_rfl) (by (repeat' (first | refine cons_eq ?_ ?_ | refine int64_of ?_ ?_ ?_ | rfl | omega))) ?_ ?_
  · exact ⟨by omega, rfl, by simp⟩
  · rintro y i _ ⟨hi, rfl, hp⟩
    conv => whnf
    have hga := fun h : i < l.length => map_get (f := stA) (l := l) noSt h
    have hd := fun h : i < l.length => drop_all (p := stateB) noSt h
    generalize l.getD i noSt = u at *
    repeat' (first
      | (refine ⟨Sub.refl _, ?_⟩)
      | (refine brA_split (fun h => ?_) (fun h => ?_) <;> (try rw [h]) <;> (try simp only [Bool.false_eq_true, Bool.true_eq_false, ↓reduceIte, decide_eq_true_eq, decide_eq_false_iff_not, Bool.not_eq_true', Bool.not_eq_false'] at h) <;> (conv => whnf))
      | (rw [show (l.map stA).getD ((i : Int)).toNat [] = _ from hga (by omega)]; conv => whnf)
      | (refine ACalls.by (fnState_ok hT u hb) ?_; rintro _ _ ⟨rfl, rfl⟩; conv => whnf)
      | (refine getB_same ?_; conv => whnf)
      | (refine AWp.any (by kernel_rfl) (by kernel_rfl) (by kernel_rfl) ?_; conv => whnf)
      | (apply And.intro; (focus (first | omega | rfl | decide | exact Nat.le_of_ble_eq_true rfl | ((repeat' (first | exact all_nil | refine all_cons ?_ ?_ | rfl | fail)); done) | (simp [-List.length_flatMap]; done) | (simp [-List.length_flatMap]; omega) | fail)); conv => whnf)
      | fail)
    · refine ⟨_, Sub.refl _, i, rfl, ?_, rfl⟩
      rw [hp, hd (by omega), h, decide_eq_true (by omega)]; rfl
    · refine ⟨i + 1, by (repeat' (first | refine cons_eq ?_ ?_ | refine int64_of ?_ ?_ ?_ | rfl | omega)), by (repeat (first | exact Same.refl _ _ | refine Same.upd rfl ?_ | refine Same.updL rfl ?_ | refine Same.havoc rfl ?_)), ⟨by omega, rfl, ?_⟩, by omega⟩
      rw [hp, hd (by omega), h, Bool.true_and]
    · refine ⟨_, Sub.refl _, -1, rfl, ?_, rfl⟩
      rw [hp, drop_end (by omega)]; rfl
theorem containsState_ok (hT : Sc.Wds Γ) {s : Sto} {b : Nat} {T0 : TypeId} (t : Nat) (l : List (St)) (hl : l.length ≤ 100000) (hb : s.bx b = some (T0, [.func (.func 44) [] []])) :
    ACalls Tryz.prog Γ 87 [.slice t (l.map stA), .func (.func 88) [] [.ptr (some ⟨b, 0, none⟩)]] s fun v s' => v = .bool (!l.all stateB) ∧ s' = s := by
  refine ACalls.of_awp Tryz.func87 rfl (Nat.le_of_ble_eq_true (by kernel_rfl)) (awp_ok _ (by kernel_rfl) ?_)
  conv => whnf
  repeat' (first
    | (refine ⟨Sub.refl _, ?_⟩)
    | (refine brA_split (fun h => ?_) (fun h => ?_) <;> (try rw [h]) <;> (try simp only [Bool.false_eq_true, Bool.true_eq_false, ↓reduceIte, decide_eq_true_eq, decide_eq_false_iff_not, Bool.not_eq_true', Bool.not_eq_false'] at h) <;> (conv => whnf))
    | (refine ACalls.by (indexState_ok hT t l hl hb) ?_; rintro _ _ ⟨r, rfl, hr, rfl⟩; conv => whnf)
    | (refine getB_same ?_; conv => whnf)
    | (refine AWp.any (by kernel_rfl) (by kernel_rfl) (by kernel_rfl) ?_; conv => whnf)
    | (apply And.intro; (focus (first | omega | rfl | decide | exact Nat.le_of_ble_eq_true rfl | ((repeat' (first | exact all_nil | refine all_cons ?_ ?_ | rfl | fail)); done) | (simp [-List.length_flatMap]; done) | (simp [-List.length_flatMap]; omega) | fail)); conv => whnf)
    | fail)
  exact ⟨_, Sub.refl _, bool_eq hr, rfl⟩
theorem allState_ok (hT : Sc.Wds Γ) (t : Nat) (l : List (St)) (hl : l.length ≤ 100000) : APure Tryz.prog Γ 43 [.slice t (l.map stA), .func (.func 44) [] []] fun v => v = .bool (l.all stateB) := by
  refine APure.of_awp Tryz.func43 rfl (Nat.le_of_ble_eq_true (by kernel_rfl)) (by kernel_rfl) ?_
  intro s
  conv => whnf
  intro b hb
  conv => whnf
  repeat' (first
    | (refine ⟨Sub.refl _, ?_⟩)
    | (refine brA_split (fun h => ?_) (fun h => ?_) <;> (try rw [h]) <;> (try simp only [Bool.false_eq_true, Bool.true_eq_false, ↓reduceIte, decide_eq_true_eq, decide_eq_false_iff_not, Bool.not_eq_true', Bool.not_eq_false'] at h) <;> (conv => whnf))
    | (refine ACalls.by (containsState_ok hT t l hl set_bx_same) ?_; rintro _ _ ⟨rfl, rfl⟩; conv => whnf)
    | (refine getB_same ?_; conv => whnf)
    | (refine AWp.any (by kernel_rfl) (by kernel_rfl) (by kernel_rfl) ?_; conv => whnf)
    | (apply And.intro; (focus (first | omega | rfl | decide | exact Nat.le_of_ble_eq_true rfl | ((repeat' (first | exact all_nil | refine all_cons ?_ ?_ | rfl | fail)); done) | (simp [-List.length_flatMap]; done) | (simp [-List.length_flatMap]; omega) | fail)); conv => whnf)
    | fail)
  exact ⟨(Sub.refl _).set hb _ _, bool_eq (by simp)⟩

end Go.Proofs.YtbhemiimdfhjbaaGreatDoor.Tr
