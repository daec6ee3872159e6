/- Chapter 10: how trees are read. -/
import Derived.Test.YtbhemiimdfhjbaaGreatDoorTrE
import Derived.Test.YtbhemiimdfhjbaaGreatDoorTrX
import Derived.Test.YtbhemiimdfhjbaaGreatDoorTrJ
import Derived.Test.YtbhemiimdfhjbaaGreatDoorCards
import Derived.Test.YtbhemiimdfhjbaaGreatDoorTie
import Derived.WalkKit
import Derived.ProofKit
import Derived.OpenShut
import Derived.LaidMore
import Derived.Deep.DeepHandedRow
import Derived.Lib.LaidTab
namespace Go.Proofs.YtbhemiimdfhjbaaGreatDoor.Tr
open Go Go.Ab Go.RowKit
variable {bulk : ∀ H : Type, DataW H → Nat}

theorem opens_ints : Opens Tryz.prog bulk 37 (fun l : List Int => [.slice 0 (intsA .i64 l)]) (fun _ _ => True) :=
  (opens_slice (bulk := bulk) Tryz.underlying37 (k := 1) (by kernel_rfl) (by decide) (opens_int (bulk := bulk) Tryz.underlying3) (fun _ => rfl)).map (fun l => l) (fun _ => rfl) (fun _ _ _ => trivial)
theorem opens_idn : Opens Tryz.prog bulk 23 idnA (fun _ _ => True) :=
  (opens_struct (bulk := bulk) Tryz.underlying23 (by kernel_rfl)
    (OpensF.cons (bulk := bulk) (k := 1) rfl (by kernel_rfl) (opens_str (bulk := bulk) Tryz.underlying9) (OpensF.cons (bulk := bulk) (k := 1) rfl (by kernel_rfl) (opens_int (bulk := bulk) Tryz.underlying3) (OpensF.cons (bulk := bulk) (k := 1) rfl (by kernel_rfl) (opens_int (bulk := bulk) Tryz.underlying3) (OpensF.nil _))))).map (fun x => (x.1, x.2.1, x.2.2.1)) (fun _ => rfl) (fun _ _ _ => trivial)
theorem opens_vl : Opens Tryz.prog bulk 41 vlA (fun _ _ => True) :=
  (opens_struct (bulk := bulk) Tryz.underlying41 (by kernel_rfl)
    (OpensF.cons (bulk := bulk) (k := 1) rfl (by kernel_rfl) (opens_int (bulk := bulk) Tryz.underlying3) (OpensF.cons (bulk := bulk) (k := 1) rfl (by kernel_rfl) (opens_int (bulk := bulk) Tryz.underlying2) (OpensF.cons (bulk := bulk) (k := 1) rfl (by kernel_rfl) (opens_str (bulk := bulk) Tryz.underlying9) (OpensF.cons (bulk := bulk) (k := 1) rfl (by kernel_rfl) (opens_bool (bulk := bulk) Tryz.underlying4) (OpensF.nil _)))))).map (fun x => (x.1, x.2.1, x.2.2.1, x.2.2.2.1)) (fun _ => rfl) (fun _ _ _ => trivial)
theorem opens_ex : Opens Tryz.prog bulk 53 exA (fun _ _ => True) :=
  (opens_struct (bulk := bulk) Tryz.underlying53 (by kernel_rfl)
    (OpensF.cons (bulk := bulk) (k := 1) rfl (by kernel_rfl) (opens_int (bulk := bulk) Tryz.underlying3) (OpensF.cons (bulk := bulk) (k := 1) rfl (by kernel_rfl) (opens_int (bulk := bulk) Tryz.underlying3) (OpensF.cons (bulk := bulk) (k := 1) rfl (by kernel_rfl) (opens_int (bulk := bulk) Tryz.underlying3) (OpensF.cons (bulk := bulk) (k := 1) rfl (by kernel_rfl) (opens_str (bulk := bulk) Tryz.underlying9) (OpensF.cons (bulk := bulk) (k := 4) rfl (by kernel_rfl) (opens_vl) (OpensF.cons (bulk := bulk) (k := 1) rfl (by kernel_rfl) (opens_int (bulk := bulk) Tryz.underlying3) (OpensF.cons (bulk := bulk) (k := 1) rfl (by kernel_rfl) (opens_int (bulk := bulk) Tryz.underlying3) (OpensF.nil _))))))))).map (fun x => (x.1, x.2.1, x.2.2.1, x.2.2.2.1, x.2.2.2.2.1, x.2.2.2.2.2.1, x.2.2.2.2.2.2.1)) (fun _ => rfl) (fun _ _ _ => trivial)
theorem opens_ar : Opens Tryz.prog bulk 102 arA (fun _ _ => True) :=
  (opens_struct (bulk := bulk) Tryz.underlying102 (by kernel_rfl)
    (OpensF.cons (bulk := bulk) (k := 1) rfl (by kernel_rfl) (opens_int (bulk := bulk) Tryz.underlying3) (OpensF.cons (bulk := bulk) (k := 1) rfl (by kernel_rfl) (opens_str (bulk := bulk) Tryz.underlying9) (OpensF.cons (bulk := bulk) (k := 4) rfl (by kernel_rfl) (opens_vl) (OpensF.cons (bulk := bulk) (k := 1) rfl (by kernel_rfl) (opens_int (bulk := bulk) Tryz.underlying3) (OpensF.cons (bulk := bulk) (k := 1) rfl (by kernel_rfl) (opens_int (bulk := bulk) Tryz.underlying3) (OpensF.nil _))))))).map (fun x => (x.1, x.2.1, x.2.2.1, x.2.2.2.1, x.2.2.2.2.1)) (fun _ => rfl) (fun _ _ _ => trivial)
theorem opens_ars : Opens Tryz.prog bulk 45 (fun l : List Ar => [.slice 0 (l.map arA)]) (fun _ _ => True) :=
  (opens_slice (bulk := bulk) Tryz.underlying45 (k := 8) (by kernel_rfl) (by decide) opens_ar (fun _ => rfl)).map (fun l => l) (fun _ => rfl) (fun _ _ _ => trivial)
theorem opens_sy : Opens Tryz.prog bulk 47 syA (fun _ _ => True) :=
  (opens_struct (bulk := bulk) Tryz.underlying47 (by kernel_rfl)
    (OpensF.cons (bulk := bulk) (k := 1) rfl (by kernel_rfl) (opens_str (bulk := bulk) Tryz.underlying9) (OpensF.cons (bulk := bulk) (k := 1) rfl (by kernel_rfl) (opens_ars) (OpensF.cons (bulk := bulk) (k := 1) rfl (by kernel_rfl) (opens_int (bulk := bulk) Tryz.underlying3) (OpensF.cons (bulk := bulk) (k := 1) rfl (by kernel_rfl) (opens_int (bulk := bulk) Tryz.underlying3) (OpensF.nil _)))))).map (fun x => (0, x.1, x.2.1, x.2.2.1, x.2.2.2.1)) (fun _ => rfl) (fun _ _ _ => trivial)
theorem opens_de : Opens Tryz.prog bulk 39 deA (fun _ _ => True) :=
  (opens_struct (bulk := bulk) Tryz.underlying39 (by kernel_rfl)
    (OpensF.cons (bulk := bulk) (k := 3) rfl (by kernel_rfl) (opens_idn) (OpensF.cons (bulk := bulk) (k := 1) rfl (by kernel_rfl) (opens_ints) (OpensF.nil _)))).map (fun x => (0, x.1, x.2.1)) (fun _ => rfl) (fun _ _ _ => trivial)
theorem opens_qu : Opens Tryz.prog bulk 57 quA (fun _ _ => True) :=
  (opens_struct (bulk := bulk) Tryz.underlying57 (by kernel_rfl)
    (OpensF.cons (bulk := bulk) (k := 1) rfl (by kernel_rfl) (opens_bool (bulk := bulk) Tryz.underlying4) (OpensF.cons (bulk := bulk) (k := 3) rfl (by kernel_rfl) (opens_idn) (OpensF.cons (bulk := bulk) (k := 1) rfl (by kernel_rfl) (opens_int (bulk := bulk) Tryz.underlying3) (OpensF.nil _))))).map (fun x => (x.1, x.2.1, x.2.2.1)) (fun _ => rfl) (fun _ _ _ => trivial)
theorem opens_fr : Opens Tryz.prog bulk 43 frA (fun _ _ => True) :=
  (opens_struct (bulk := bulk) Tryz.underlying43 (by kernel_rfl)
    (OpensF.cons (bulk := bulk) (k := 3) rfl (by kernel_rfl) (opens_idn) (OpensF.cons (bulk := bulk) (k := 4) rfl (by kernel_rfl) (opens_vl) (OpensF.nil _)))).map (fun x => (x.1, x.2.1)) (fun _ => rfl) (fun _ _ _ => trivial)
theorem opens_st : Opens Tryz.prog bulk 60 stA (fun _ _ => True) :=
  (opens_struct (bulk := bulk) Tryz.underlying60 (by kernel_rfl)
    (OpensF.cons (bulk := bulk) (k := 3) rfl (by kernel_rfl) (opens_idn) (OpensF.cons (bulk := bulk) (k := 1) rfl (by kernel_rfl) (opens_bool (bulk := bulk) Tryz.underlying4) (OpensF.cons (bulk := bulk) (k := 1) rfl (by kernel_rfl) (opens_bool (bulk := bulk) Tryz.underlying4) (OpensF.nil _))))).map (fun x => (x.1, x.2.1, x.2.2.1)) (fun _ => rfl) (fun _ _ _ => trivial)
theorem opens_se : Opens Tryz.prog bulk 92 seA (fun _ _ => True) :=
  (opens_struct (bulk := bulk) Tryz.underlying92 (by kernel_rfl)
    (OpensF.cons (bulk := bulk) (k := 3) rfl (by kernel_rfl) (opens_idn) (OpensF.cons (bulk := bulk) (k := 1) rfl (by kernel_rfl) (opens_int (bulk := bulk) Tryz.underlying3) (OpensF.nil _)))).map (fun x => (x.1, x.2.1)) (fun _ => rfl) (fun _ _ _ => trivial)
theorem opens_exs : Opens Tryz.prog bulk 48 (fun l : List Ex => [.slice 0 (l.map exA)]) (fun _ _ => True) :=
  (opens_slice (bulk := bulk) Tryz.underlying48 (k := 10) (by kernel_rfl) (by decide) opens_ex (fun _ => rfl)).map (fun l => l) (fun _ => rfl) (fun _ _ _ => trivial)
theorem opens_ses : Opens Tryz.prog bulk 49 (fun l : List Se => [.slice 0 (l.map seA)]) (fun _ _ => True) :=
  (opens_slice (bulk := bulk) Tryz.underlying49 (k := 4) (by kernel_rfl) (by decide) opens_se (fun _ => rfl)).map (fun l => l) (fun _ => rfl) (fun _ _ _ => trivial)
theorem opens_tn : Opens Tryz.prog bulk 51 tnA (fun _ _ => True) :=
  (opens_struct (bulk := bulk) Tryz.underlying51 (by kernel_rfl)
    (OpensF.cons (bulk := bulk) (k := 3) rfl (by kernel_rfl) (opens_idn) (OpensF.cons (bulk := bulk) (k := 3) rfl (by kernel_rfl) (opens_idn) (OpensF.cons (bulk := bulk) (k := 4) rfl (by kernel_rfl) (opens_sy) (OpensF.cons (bulk := bulk) (k := 1) rfl (by kernel_rfl) (opens_exs) (OpensF.cons (bulk := bulk) (k := 1) rfl (by kernel_rfl) (opens_int (bulk := bulk) Tryz.underlying3) (OpensF.cons (bulk := bulk) (k := 1) rfl (by kernel_rfl) (opens_ses) (OpensF.nil _)))))))).map (fun x => ((x.2.2.1.1, 0, 0), x.1, x.2.1, x.2.2.1.2, x.2.2.2.1, x.2.2.2.2.1, x.2.2.2.2.2.1)) (fun _ => rfl) (fun _ _ _ => trivial)
theorem opens_des : Opens Tryz.prog bulk 24 (fun l : List (Nat × De) => [.slice 0 (l.map deA)]) (fun _ _ => True) :=
  (opens_slice (bulk := bulk) Tryz.underlying24 (k := 4) (by kernel_rfl) (by decide) opens_de (fun _ => rfl)).map (fun l => l) (fun _ => rfl) (fun _ _ _ => trivial)
theorem opens_qus : Opens Tryz.prog bulk 25 (fun l : List Qu => [.slice 0 (l.map quA)]) (fun _ _ => True) :=
  (opens_slice (bulk := bulk) Tryz.underlying25 (k := 5) (by kernel_rfl) (by decide) opens_qu (fun _ => rfl)).map (fun l => l) (fun _ => rfl) (fun _ _ _ => trivial)
theorem opens_frs : Opens Tryz.prog bulk 26 (fun l : List Fr => [.slice 0 (l.map frA)]) (fun _ _ => True) :=
  (opens_slice (bulk := bulk) Tryz.underlying26 (k := 7) (by kernel_rfl) (by decide) opens_fr (fun _ => rfl)).map (fun l => l) (fun _ => rfl) (fun _ _ _ => trivial)
theorem opens_sts : Opens Tryz.prog bulk 27 (fun l : List St => [.slice 0 (l.map stA)]) (fun _ _ => True) :=
  (opens_slice (bulk := bulk) Tryz.underlying27 (k := 5) (by kernel_rfl) (by decide) opens_st (fun _ => rfl)).map (fun l => l) (fun _ => rfl) (fun _ _ _ => trivial)
theorem opens_sys : Opens Tryz.prog bulk 28 (fun l : List (Nat × Sy) => [.slice 0 (l.map syA)]) (fun _ _ => True) :=
  (opens_slice (bulk := bulk) Tryz.underlying28 (k := 4) (by kernel_rfl) (by decide) opens_sy (fun _ => rfl)).map (fun l => l) (fun _ => rfl) (fun _ _ _ => trivial)
theorem opens_tns : Opens Tryz.prog bulk 29 (fun l : List ((Nat × Nat × Nat) × Tn) => [.slice 0 (l.map tnA)]) (fun _ _ => True) :=
  (opens_slice (bulk := bulk) Tryz.underlying29 (k := 13) (by kernel_rfl) (by decide) opens_tn (fun _ => rfl)).map (fun l => l) (fun _ => rfl) (fun _ _ _ => trivial)
theorem opens_tr : Opens Tryz.prog bulk 31 (trA fun _ => 0) (fun _ _ => True) :=
  (opens_struct (bulk := bulk) Tryz.underlying31 (by kernel_rfl)
    (OpensF.cons (bulk := bulk) (k := 3) rfl (by kernel_rfl) (opens_idn) (OpensF.cons (bulk := bulk) (k := 1) rfl (by kernel_rfl) (opens_des) (OpensF.cons (bulk := bulk) (k := 1) rfl (by kernel_rfl) (opens_qus) (OpensF.cons (bulk := bulk) (k := 1) rfl (by kernel_rfl) (opens_frs) (OpensF.cons (bulk := bulk) (k := 1) rfl (by kernel_rfl) (opens_sts) (OpensF.cons (bulk := bulk) (k := 3) rfl (by kernel_rfl) (opens_idn) (OpensF.cons (bulk := bulk) (k := 1) rfl (by kernel_rfl) (opens_sys) (OpensF.cons (bulk := bulk) (k := 1) rfl (by kernel_rfl) (opens_tns) (OpensF.nil _)))))))))).map (fun x => (x.1, x.2.1, x.2.2.1, x.2.2.2.1, x.2.2.2.2.1, x.2.2.2.2.2.1, x.2.2.2.2.2.2.1, x.2.2.2.2.2.2.2.1)) (fun _ => rfl) (fun _ _ _ => trivial)
end Go.Proofs.YtbhemiimdfhjbaaGreatDoor.Tr
/- Chapter 10: trees without their places, by the program; the law of the trees that may be. -/
namespace Go.Proofs.YtbhemiimdfhjbaaGreatDoor.Tr
open Go Go.Ab Go.RowKit
variable {Γ : Nat → AV}
attribute [local irreducible] APure Sto.set Sto.grow
set_option maxRecDepth 10000
set_option maxHeartbeats 1000000

set_option maxHeartbeats 8000000 in
theorem progPlain_ok (tk : Nat → Nat) (x : Tr0) (hx : Small x) : APure Tryz.prog Γ 7 [.agg (trA tk x)] fun v => v = .agg (trA (fun _ => 0) (plTr x)) := by
  obtain ⟨⟨m1, m2, m3, m4, m5, m6⟩, m7, m8, m9⟩ := hx
  refine APure.of_awp Tryz.func7 rfl (Nat.le_of_ble_eq_true (by kernel_rfl)) (by kernel_rfl) ?_
  intro s
  conv => whnf
  intro b hb
  conv => whnf
  intro b2 hb2
  have n_b_b2 : b ≠ b2 := ne_of_none (by ((repeat (first | exact set_bx_same | assumption | refine (set_bx_other (by assumption)).trans ?_ | refine grow_bx.trans ?_)); done)) hb2
  have n_b2_b : b2 ≠ b := fun h => n_b_b2 h.symm
  conv => whnf
  have g2 := (none_set hb2).2
  repeat' (first
    | (refine ⟨Sub.refl _, ?_⟩)
    | (refine brA_split (fun h => ?_) (fun h => ?_) <;> (try rw [h]) <;> (try simp only [Bool.false_eq_true, Bool.true_eq_false, ↓reduceIte, decide_eq_true_eq, decide_eq_false_iff_not, Bool.not_eq_true', Bool.not_eq_false'] at h) <;> (conv => whnf))
    | (refine getB_of (by ((repeat (first | exact set_bx_same | assumption | refine (set_bx_other (by assumption)).trans ?_ | refine grow_bx.trans ?_)); done)) ?_; conv => whnf)
    | (refine ACalls.pure' ?_ (plainName_ok x.1); rintro _ rfl; conv => whnf)
    | (refine DCall.pure ?_ (plainName_ok x.1); conv => whnf)
    | (refine ACalls.pure' ?_ (plainName_ok x.2.2.2.2.2.1); rintro _ rfl; conv => whnf)
    | (refine DCall.pure ?_ (plainName_ok x.2.2.2.2.2.1); conv => whnf)
    | (refine ACalls.pure' ?_ (eachDe_ok _ x.2.1 (by omega) (fun d h => by have := m7 d h; omega)); rintro _ rfl; conv => whnf)
    | (refine DCall.pure ?_ (eachDe_ok _ x.2.1 (by omega) (fun d h => by have := m7 d h; omega)); conv => whnf)
    | (refine ACalls.pure' ?_ (eachQu_ok _ x.2.2.1 (by omega)); rintro _ rfl; conv => whnf)
    | (refine DCall.pure ?_ (eachQu_ok _ x.2.2.1 (by omega)); conv => whnf)
    | (refine ACalls.pure' ?_ (eachFr_ok _ x.2.2.2.1 (by omega)); rintro _ rfl; conv => whnf)
    | (refine DCall.pure ?_ (eachFr_ok _ x.2.2.2.1 (by omega)); conv => whnf)
    | (refine ACalls.pure' ?_ (eachSt_ok _ x.2.2.2.2.1 (by omega)); rintro _ rfl; conv => whnf)
    | (refine DCall.pure ?_ (eachSt_ok _ x.2.2.2.2.1 (by omega)); conv => whnf)
    | (refine ACalls.pure' ?_ (eachSy_ok _ x.2.2.2.2.2.2.1 (by omega) (fun d h => by have := m8 d h; omega)); rintro _ rfl; conv => whnf)
    | (refine DCall.pure ?_ (eachSy_ok _ x.2.2.2.2.2.2.1 (by omega) (fun d h => by have := m8 d h; omega)); conv => whnf)
    | (refine ACalls.pure' ?_ (eachTn_ok _ x.2.2.2.2.2.2.2 (by omega) (fun d h => by have := m9 d h; exact ⟨by omega, by omega, by omega⟩)); rintro _ rfl; conv => whnf)
    | (refine DCall.pure ?_ (eachTn_ok _ x.2.2.2.2.2.2.2 (by omega) (fun d h => by have := m9 d h; exact ⟨by omega, by omega, by omega⟩)); conv => whnf)
    | (refine getB_same ?_; conv => whnf)
    | (refine AWp.any (by kernel_rfl) (by kernel_rfl) (by kernel_rfl) ?_; conv => whnf)
    | (apply And.intro; (focus (first | omega | rfl | decide | exact Nat.le_of_ble_eq_true rfl | ((repeat' (first | exact all_nil | refine all_cons ?_ ?_ | rfl | fail)); done) | (simp [-List.length_flatMap]; done) | (simp [-List.length_flatMap]; omega) | fail)); conv => whnf)
    | fail)
  refine ⟨by (repeat (first | exact Sub.refl _ | refine Sub.set ?_ (by assumption) _ _)), rfl⟩
theorem right_law (hT : Sc.Wds Γ) (x : Tr0) : APure Tryz.prog Γ 3 [.agg (trA (fun _ => 0) x)] fun v => v = .bool true := by
  have one : ∀ z : Tr0, ¬ ((if fewB z = true then (1 : Int) else 0) = 0) → Small z := fun z h => few_small (by
    cases hf : fewB z
    · rw [hf] at h; exact absurd rfl h
    · rfl)
  refine APure.of_awp Tryz.func3 rfl (Nat.le_of_ble_eq_true (by kernel_rfl)) (by kernel_rfl) ?_
  intro s
  conv => whnf
  intro b hb
  conv => whnf
  repeat' (first
    | (refine ⟨Sub.refl _, ?_⟩)
    | (refine brA_split (fun h => ?_) (fun h => ?_) <;> (try rw [h]) <;> (try simp only [Bool.false_eq_true, Bool.true_eq_false, ↓reduceIte, decide_eq_true_eq, decide_eq_false_iff_not, Bool.not_eq_true', Bool.not_eq_false'] at h) <;> (conv => whnf))
    | (refine getB_of set_bx_same ?_; conv => whnf)
    | (refine ACalls.pure' ?_ (fewRef_ok (fun _ => 0) x); rintro _ rfl; conv => whnf)
    | (refine DCall.pure ?_ (fewRef_ok (fun _ => 0) x); conv => whnf)
    | (refine ACalls.pure' ?_ (awake_ok); rintro _ rfl; conv => whnf)
    | (refine DCall.pure ?_ (awake_ok); conv => whnf)
    | (refine getB_same ?_; conv => whnf)
    | (refine AWp.any (by kernel_rfl) (by kernel_rfl) (by kernel_rfl) ?_; conv => whnf)
    | (apply And.intro; (focus (first | omega | rfl | decide | exact Nat.le_of_ble_eq_true rfl | ((repeat' (first | exact all_nil | refine all_cons ?_ ?_ | rfl | fail)); done) | (simp [-List.length_flatMap]; done) | (simp [-List.length_flatMap]; omega) | fail)); conv => whnf)
    | fail)
  · exact ⟨(Sub.refl _).set hb _ _, rfl⟩
  have hx := one x (by assumption)
  have hp := pl_small hx
  have hr := pl_right x
  have ha := pl_again x
  have pp : APure Tryz.prog Γ 7 [.agg (trA (fun _ => 0) (plTr x))] fun v => v = .agg (trA (fun _ => 0) (plTr x)) := by
    have := progPlain_ok (Γ := Γ) (fun _ => 0) (plTr x) hp
    rwa [ha] at this
  have pr := progRight_ok hT (fun _ => 0) (plTr x) hp
  rw [hr] at pr
  repeat' (first
    | (refine ⟨Sub.refl _, ?_⟩)
    | (refine brA_split (fun h => ?_) (fun h => ?_) <;> (try rw [h]) <;> (try simp only [Bool.false_eq_true, Bool.true_eq_false, ↓reduceIte, decide_eq_true_eq, decide_eq_false_iff_not, Bool.not_eq_true', Bool.not_eq_false'] at h) <;> (conv => whnf))
    | (refine getB_of (by ((repeat (first | exact set_bx_same | assumption | refine (set_bx_other (by assumption)).trans ?_ | refine grow_bx.trans ?_)); done)) ?_; conv => whnf)
    | (refine ACalls.pure' ?_ (refRightT_ok (fun _ => 0) x hx); rintro _ rfl; conv => whnf)
    | (refine DCall.pure ?_ (refRightT_ok (fun _ => 0) x hx); conv => whnf)
    | (refine ACalls.pure' ?_ (progPlain_ok (fun _ => 0) x hx); rintro _ rfl; conv => whnf)
    | (refine DCall.pure ?_ (progPlain_ok (fun _ => 0) x hx); conv => whnf)
    | (refine getB_same ?_; conv => whnf)
    | (refine AWp.any (by kernel_rfl) (by kernel_rfl) (by kernel_rfl) ?_; conv => whnf)
    | (apply And.intro; (focus (first | omega | rfl | decide | exact Nat.le_of_ble_eq_true rfl | ((repeat' (first | exact all_nil | refine all_cons ?_ ?_ | rfl | fail)); done) | (simp [-List.length_flatMap]; done) | (simp [-List.length_flatMap]; omega) | fail)); conv => whnf)
    | fail)
  intro c hc
  have n_b_c : b ≠ c := ne_of_none (by ((repeat (first | exact set_bx_same | assumption | refine (set_bx_other (by assumption)).trans ?_ | refine grow_bx.trans ?_)); done)) hc
  have n_c_b : c ≠ b := fun h => n_b_c h.symm
  conv => whnf
  have gc := (none_set hc).2
  repeat' (first
    | (refine ⟨Sub.refl _, ?_⟩)
    | (refine brA_split (fun h => ?_) (fun h => ?_) <;> (try rw [h]) <;> (try simp only [Bool.false_eq_true, Bool.true_eq_false, ↓reduceIte, decide_eq_true_eq, decide_eq_false_iff_not, Bool.not_eq_true', Bool.not_eq_false'] at h) <;> (conv => whnf))
    | (refine getB_of (by ((repeat (first | exact set_bx_same | assumption | refine (set_bx_other (by assumption)).trans ?_ | refine grow_bx.trans ?_)); done)) ?_; conv => whnf)
    | (refine ACalls.pure' ?_ (progRight_ok hT (fun _ => 0) x hx); rintro _ rfl; conv => whnf)
    | (refine DCall.pure ?_ (progRight_ok hT (fun _ => 0) x hx); conv => whnf)
    | (refine ACalls.pure' ?_ (pr); rintro _ rfl; conv => whnf)
    | (refine DCall.pure ?_ (pr); conv => whnf)
    | (refine ACalls.pure' ?_ (refPlain_ok (fun _ => 0) x hx); rintro _ rfl; conv => whnf)
    | (refine DCall.pure ?_ (refPlain_ok (fun _ => 0) x hx); conv => whnf)
    | (refine ACalls.pure' ?_ (pp); rintro _ rfl; conv => whnf)
    | (refine DCall.pure ?_ (pp); conv => whnf)
    | (refine ACalls.pure' ?_ (refSame_ok (fun _ => 0) (fun _ => 0) (plTr x) (plTr x) hp); rintro _ rfl; conv => whnf)
    | (refine DCall.pure ?_ (refSame_ok (fun _ => 0) (fun _ => 0) (plTr x) (plTr x) hp); conv => whnf)
    | (refine ACalls.pure' ?_ (sameProg_ok (fun _ => 0) (fun _ => 0) (plTr x) (plTr x) hp); rintro _ rfl; conv => whnf)
    | (refine DCall.pure ?_ (sameProg_ok (fun _ => 0) (fun _ => 0) (plTr x) (plTr x) hp); conv => whnf)
    | (refine ACalls.pure' ?_ (awake_ok); rintro _ rfl; conv => whnf)
    | (refine DCall.pure ?_ (awake_ok); conv => whnf)
    | (refine getB_same ?_; conv => whnf)
    | (refine AWp.any (by kernel_rfl) (by kernel_rfl) (by kernel_rfl) ?_; conv => whnf)
    | (apply And.intro; (focus (first | omega | rfl | decide | exact Nat.le_of_ble_eq_true rfl | ((repeat' (first | exact all_nil | refine all_cons ?_ ?_ | rfl | fail)); done) | (simp [-List.length_flatMap]; done) | (simp [-List.length_flatMap]; omega) | fail)); conv => whnf)
    | fail)
  all_goals first
    | (refine ⟨by (repeat (first | exact Sub.refl _ | refine Sub.set ?_ (by assumption) _ _)), ?_⟩; rfl)
    | (exfalso; revert ‹_ = false›; simp)
    | exact absurd trivial (by assumption)
end Go.Proofs.YtbhemiimdfhjbaaGreatDoor.Tr
/- TreeRight is so for any tree: the row and its card. No condition beyond the row's own. -/
namespace Go.Proofs.YtbhemiimdfhjbaaGreatDoor.Tr.Right
open Go Go.ChangeShapes Go.WideShapes Go.ChangeAt Go.RowKit Go.Ab Go.Proofs.YtbhemiimdfhjbaaGreatDoor.Tr
/-- What the walks know of the variables. -/
def glob : Nat → AV := fun g => if g = 0 then .cptr (Sc.words.map .str) else .ptr (some ⟨g, 0, none⟩)
theorem glob_wds : Sc.Wds glob := rfl
theorem glob_ok {W : World} (h : laidMetH Tryz.prog Rows.treeRightRow.laid W) : ∀ g, GlobR (startG W) W g (glob g) := by
  obtain ⟨ps, h⟩ := laid_vars (by kernel_rfl) h
  obtain ⟨h0, qs, h⟩ := laid_cons 3 h (g := 0) (t := 136) (by kernel_rfl) (by kernel_rfl) (avs := Sc.words.map .str) (by kernel_rfl)
  intro g
  unfold glob
  split
  · rename_i hg; subst hg; exact h0
  · exact glob_none
theorem own : ownKnob Tryz.prog.godebug = none := by kernel_rfl
def noBulk (H : Type) (_ : DataW H) : Nat := 0
set_option maxRecDepth 100000 in
theorem contract (H : Type) (enc : TypeId × Value → H) (W : World) (base : Nat) (args : Array Value) (ds gs : List (DataW H)) (before : List MemPlace)
    (hval : ∀ (j : Nat) t v, Tryz.f3.params[j]? = some t → args[j]? = some v → Value.okWide Tryz.prog W .any base t v)
    (hW : DataW.Whole enc Tryz.prog Tryz.f3.params.toList Rows.treeRightSpec.vars false W args.toList ds gs before) (hL : laidMetH Tryz.prog Rows.treeRightRow.laid W) :
    Calls Tryz.prog 3 args W fun e W' => ∃ v, e = .returned v ∧ Rows.treeRightSpec.post enc Tryz.prog Tryz.f3 false true false false W args v W' := by
  have hW' := hW
  obtain ⟨p, q, hA0, hV, rfl, hfz, hnd⟩ := hW
  have hA : DataW.TrodAll enc Tryz.prog W 0 (fun _ => true) true Tryz.f3.params.toList args.toList ds p := hA0
  rw [Tryz.params3] at hA hval
  obtain ⟨v0, vs0, d0, ds0, p0, q0, hargs, rfl, rfl, h0, r0⟩ := trodAll_cons hA
  obtain ⟨rfl, rfl, rfl⟩ := trodAll_nil r0
  obtain rfl : args = #[v0] := by cases args; simp_all
  obtain ⟨rfl, rfl⟩ := trodVars_none hV
  obtain ⟨x0, ok0, R0, K0⟩ := (opens_tr (bulk := noBulk)).arg h0
  refine (calls_of_abs ((right_law glob_wds x0 s0).mono fun v s' h => h.1) (glob_ok hL) (args := #[v0]) ?_).mono fun e W' ⟨he, K⟩ => ?_
  · exact (args_cons (arg_struct Tryz.underlying31 (hval 0 _ v0 rfl rfl) R0) args_nil)
  · subst he
    refine ⟨_, rfl, post_true rfl rfl hW' (tb := 4) (by kernel_rfl) Tryz.underlying4 (fun p hp => trodAll_keep K ?_ hp) K⟩
    rw [Tryz.params3]
    exact (all_cons (opens_tr (bulk := noBulk)).keeps all_nil)

theorem door_met (os : Os) (args : Array Value) : laidMet Tryz.prog Rows.treeRightRow.laid ((World.doorLaid Tryz.prog 400 os).forCall (fun _ _ => 0) ⟨#[], args, []⟩).memory :=
  laidMet_of_run' 8 (by kernel_rfl) (by kernel_rfl)
def wargs : Array Value := #[.agg #[.string ⟨#[]⟩, .int .i64 0, .int .i64 0, .slice none 0 0, .slice none 0 0, .slice none 0 0, .slice none 0 0, .string ⟨#[]⟩, .int .i64 0, .int .i64 0, .slice none 0 0, .slice none 0 0]]
theorem reads (os : Os) {H : Type} (enc : TypeId × Value → H) : ∃ places, DataW.whole enc Tryz.prog ((World.doorLaid Tryz.prog 400 os).forCall (fun _ _ => 0) ⟨#[], wargs, []⟩).memory Tryz.f3.params.toList Rows.treeRightSpec.vars false wargs.toList 8 = some ([.agg [.agg [.lit (.string []), .lit (.int .i64 0), .lit (.int .i64 0)], .nil, .nil, .nil, .nil, .agg [.lit (.string []), .lit (.int .i64 0), .lit (.int .i64 0)], .nil, .nil]], [], places) :=
  ⟨[], by kernel_rfl⟩
set_option maxRecDepth 100000 in
theorem lifted (os : Os) (started : os.Started) (H : Type) (enc : TypeId × Value → H) (F : Stop.Interp) :
    ReturnsInHanded {} Tryz.checked os 3 .any ((OpenSpec.ofChange Rows.treeRightSpec).preRow enc Tryz.prog Tryz.f3 Rows.treeRightRow.domain false Rows.treeRightRow.laid) (((OpenSpec.ofChange Rows.treeRightSpec).at F).post enc Tryz.prog Tryz.f3 false true false false) := by
  obtain ⟨places, hx⟩ := reads os enc
  refine returnsInHanded_of_row (C := Tryz.checked) (s := (OpenSpec.ofChange Rows.treeRightSpec)) own started (by kernel_rfl) Tryz.func3
    (witness_row_at (enc := enc) (C := Tryz.checked) false (World.doorLaid Tryz.prog 400 os) wargs rfl (by kernel_rfl) (by kernel_rfl) (by kernel_rfl)
      (OpenSpec.preRow_of_cond 8 hx (by kernel_rfl) (fun k hk => by cases hk) (by kernel_rfl) (door_met os _))) ?_
  intro W base args ds gs before hval hW _ hcond _ hL _ _
  exact contract H enc W base args ds gs before hval hW hL
theorem said : Rows.TreeRightSaid :=
  OpenClaim.holds_of_cond 3 Tryz.f3 rfl rfl rfl rfl rfl rfl rfl ⟨rfl, rfl, rfl, rfl, rfl⟩ rfl rfl rfl rfl rfl (by kernel_rfl) Tryz.func3 (by kernel_rfl)
    (of_decide_eq_true (by kernel_rfl)) (by unfold Func.isWrapper; first | (rw [if_pos (by decide +kernel)]; kernel_rfl) | (rw [if_neg (by decide +kernel)]; exact ⟨rfl, rfl⟩))
    (fun os started H enc _ F => by rw [OpenClaim.pre_eq_preRow]; exact lifted os started H enc F)
theorem plainArgs (f : FuncId) (fn : Func) (hf : Tryz.pinned.checked.prog.funcNamed "proctor/proctorlaw10.TreeRight" = some f) (hfn : Tryz.pinned.checked.prog.funcs[f]? = some fn) :
    false = Tryz.pinned.checked.prog.looks [] ∧ ∀ (j : Nat) t, fn.params[j]? = some t → Tryz.pinned.checked.prog.wantsStandIn t = false := by
  obtain rfl : f = 3 := Option.some.inj ((show Tryz.prog.funcNamed "proctor/proctorlaw10.TreeRight" = some 3 by kernel_rfl).symm.trans hf) |>.symm
  obtain rfl : fn = Tryz.f3 := (Option.some.inj (Tryz.func3.symm.trans hfn)).symm
  refine ⟨by kernel_rfl, fun j t ht => ?_⟩
  have hall : (Tryz.f3.params.toList.all fun u => !Tryz.prog.wantsStandIn u) = true := by kernel_rfl
  exact (show Tryz.prog.wantsStandIn t = false by simpa using List.all_eq_true.1 hall t (by simpa using Array.mem_of_getElem? ht))
theorem card : Rows.TreeRightCardSaid :=
  Claim7.holds_tied_plain_at .later [] _ _ _ _ said (fun _ h => by cases h) (by kernel_rfl) (fun _ h => by cases h) treeRight_row_tie rfl ⟨rfl, rfl⟩ (by kernel_rfl) rfl plainArgs (by kernel_rfl)
#print axioms card
end Go.Proofs.YtbhemiimdfhjbaaGreatDoor.Tr.Right
