/- Chapter 10: of how many nodes each node's expression is, and how deep: by the document. -/
import Derived.Test.YtbhemiimdfhjbaaGreatDoorTrL
import Derived.Test.YtbhemiimdfhjbaaGreatDoorScB
namespace Go.Proofs.YtbhemiimdfhjbaaGreatDoor.Tr
open Go Go.Ab Go.RowKit
variable {Γ : Nat → AV}
attribute [local irreducible] APure Sto.set Sto.grow
set_option maxRecDepth 10000
set_option maxHeartbeats 1000000

theorem refRight_ok (v : Vl) : APure Tryz.prog Γ 16 [.agg (vlA v)] fun x => x = .bool (rightV v) := by
  obtain ⟨k, n, s, t⟩ := v
  refine APure.of_awp Tryz.func16 rfl (Nat.le_of_ble_eq_true (by kernel_rfl)) (by kernel_rfl) ?_
  intro s
  conv => whnf
  intro b hb
  conv => whnf
  repeat' (first
    | (refine ⟨Sub.refl _, ?_⟩)
    | (refine brA_split (fun h => ?_) (fun h => ?_) <;> (try rw [h]) <;> (try simp only [Bool.false_eq_true, Bool.true_eq_false, ↓reduceIte, decide_eq_true_eq, decide_eq_false_iff_not, Bool.not_eq_true', Bool.not_eq_false'] at h) <;> (conv => whnf))
    | (refine getB_same ?_; conv => whnf)
    | (refine AWp.any (by kernel_rfl) (by kernel_rfl) (by kernel_rfl) ?_; conv => whnf)
    | (apply And.intro; (focus (first | omega | rfl | decide | exact Nat.le_of_ble_eq_true rfl | ((repeat' (first | exact all_nil | refine all_cons ?_ ?_ | rfl | fail)); done) | (simp [-List.length_flatMap]; done) | (simp [-List.length_flatMap]; omega) | fail)); conv => whnf)
    | fail)
  all_goals refine ⟨(Sub.refl _).set hb _ _, bool_eq ?_⟩
  all_goals (try simp only [] at *)
  all_goals grind [rightV]

theorem getD_pre {α : Type} {r q : List α} {d : α} {j : Nat} (h : j < r.length) : (r ++ q).getD j d = r.getD j d := by
  simp [List.getD, List.getElem?_append_left h]
theorem tab_get (nm : List UInt8 → Bool) (l : List Ex) {j m : Nat} : ∀ n : Nat, j < m → m ≤ n → (tab nm l n).getD j (0, 0) = (tab nm l m).getD j (0, 0)
  | 0 => fun h k => by omega
  | n + 1 => fun h k => by
    by_cases he : m = n + 1
    · rw [he]
    · rw [tab, getD_pre (by rw [tab_len]; omega)]
      exact tab_get nm l n h (by omega)
/-- Of how many nodes the expression of node i is, and how deep. -/
def nd (nm : List UInt8 → Bool) (l : List Ex) (i : Nat) : Int × Int := (tab nm l l.length).getD i (0, 0)
theorem nd_bound (nm : List UInt8 → Bool) (l : List Ex) {i : Nat} (h : i < l.length) : 0 ≤ (nd nm l i).1 ∧ (nd nm l i).1 ≤ i + 1 ∧ 0 ≤ (nd nm l i).2 ∧ (nd nm l i).2 ≤ i + 1 := tab_bound nm l l.length i h
theorem nd_eq {nm : List UInt8 → Bool} {l : List Ex} {i : Nat} {x : Ex} {p q : Int × Int} {a : Int} (hi : i < l.length) (hx : l.getD i noEx = x) (hp : nd nm l (i - 1) = p) (ha : a = (i : Int) - 1 - p.1) (hq : nd nm l a.toNat = q) :
    nd nm l i = if loneB nm x = true then (1, 1) else if x.1 < 4 ∨ 16 < x.1 ∨ x.2.2.2.1 ≠ [] ∨ x.2.2.2.2.1 ≠ noVl ∨ i = 0 ∨ p.1 = 0 then (0, 0) else if x.1 ≤ 5 then (if x.2.1 = (i : Int) - 1 ∧ x.2.2.1 = 0 then (p.1 + 1, p.2 + 1) else (0, 0)) else if x.2.2.1 = (i : Int) - 1 ∧ x.2.1 = a ∧ 0 ≤ a ∧ 0 < q.1 then (q.1 + p.1 + 1, max q.2 p.2 + 1) else (0, 0) := by
  have h1 : nd nm l i = nodeOf nm x i (tab nm l i) := by
    unfold nd
    rw [tab_get nm l (m := i + 1) l.length (by omega) (by omega), tab]
    have : i = (tab nm l i).length := (tab_len nm l i).symm
    rw [← hx]
    conv => lhs; arg 2; rw [this]
    rw [getD_last]
  rw [h1]
  unfold nodeOf
  by_cases h0 : i = 0
  · subst h0
    by_cases hlo : loneB nm x = true
    · rw [if_pos hlo, if_pos hlo]
    · rw [if_neg hlo, if_neg hlo, if_pos (by simp), if_pos (by simp)]
  have hp' : (tab nm l i).getD (i - 1) (0, 0) = p := by rw [← hp]; exact (tab_get nm l l.length (by omega) (by omega)).symm
  rw [hp', ← ha]
  have hb := nd_bound nm l (i := i - 1) (by omega)
  rw [hp] at hb
  have hq' : (tab nm l i).getD a.toNat (0, 0) = q := by rw [← hq]; exact (tab_get nm l l.length (by omega) (by omega)).symm
  rw [hq']

theorem refSize_out (t : Nat) (l : List Ex) {i : Int} (h : i < 0 ∨ (l.length : Int) ≤ i) : APure Tryz.prog Γ 102 [.slice t (l.map exA), .int .i64 i] fun v => v = .int .i64 0 := by
  have hml : (l.map exA).length = l.length := List.length_map ..
  refine APure.of_awp Tryz.func102 rfl (Nat.le_of_ble_eq_true (by kernel_rfl)) (by kernel_rfl) ?_
  intro s
  conv => whnf
  repeat' (first
    | (exfalso; omega)
    | (refine ⟨Sub.refl _, ?_⟩)
    | (refine brA_split (fun h => ?_) (fun h => ?_) <;> (try rw [h]) <;> (try simp only [Bool.false_eq_true, Bool.true_eq_false, ↓reduceIte, decide_eq_true_eq, decide_eq_false_iff_not, Bool.not_eq_true', Bool.not_eq_false'] at h) <;> (conv => whnf))
    | (refine getB_same ?_; conv => whnf)
    | (refine AWp.any (by kernel_rfl) (by kernel_rfl) (by kernel_rfl) ?_; conv => whnf)
    | (apply And.intro; (focus (first | omega | rfl | decide | exact Nat.le_of_ble_eq_true rfl | ((repeat' (first | exact all_nil | refine all_cons ?_ ?_ | rfl | fail)); done) | (simp [-List.length_flatMap]; done) | (simp [-List.length_flatMap]; omega) | fail)); conv => whnf)
    | fail)
  all_goals rfl
def szI (nm : List UInt8 → Bool) (l : List Ex) (i : Int) : Int := if 0 ≤ i ∧ i < l.length then (nd nm l i.toNat).1 else 0
theorem refSize_ok (t : Nat) (l : List Ex) (hl : l.length ≤ 1000000) : ∀ (k i : Nat), i < k → i < l.length → ∀ Γ : Nat → AV, APure Tryz.prog Γ 102 [.slice t (l.map exA), .int .i64 i] fun v => v = .int .i64 (nd Sc.isName l i).1
  | 0, i => fun h => by omega
  | k + 1, i => fun h hi Γ => by
    have hml : (l.map exA).length = l.length := List.length_map ..
    have ih : ∀ j : Int, j < i → APure Tryz.prog Γ 102 [.slice t (l.map exA), .int .i64 j] fun v => v = .int .i64 (szI Sc.isName l j) := fun j hj => by
      by_cases h0 : 0 ≤ j
      · have := refSize_ok t l hl k j.toNat (by omega) (by omega) Γ
        rw [show ((j.toNat : Nat) : Int) = j by omega] at this
        unfold szI
        rw [if_pos ⟨h0, by omega⟩]
        exact this
      · unfold szI
        rw [if_neg (fun h => h0 h.1)]
        exact refSize_out t l (.inl (by omega))
    have hga := map_get (f := exA) (l := l) noEx hi
    obtain ⟨x, hx⟩ : ∃ x, l.getD i noEx = x := ⟨_, rfl⟩
    rw [hx] at hga
    obtain ⟨p, hp⟩ : ∃ p, nd Sc.isName l (i - 1) = p := ⟨_, rfl⟩
    obtain ⟨a, ha⟩ : ∃ a : Int, a = (i : Int) - 1 - p.1 := ⟨_, rfl⟩
    obtain ⟨q, hq⟩ : ∃ q, nd Sc.isName l a.toNat = q := ⟨_, rfl⟩
    have hnode := nd_eq (nm := Sc.isName) hi hx hp ha hq
    have hpb := nd_bound Sc.isName l (i := i - 1) (by omega)
    rw [hp] at hpb
    have hqb := fun h : 0 ≤ a => nd_bound Sc.isName l (i := a.toNat) (by omega)
    rw [hq] at hqb
    obtain ⟨P, hP⟩ : ∃ P, szI Sc.isName l ((i : Int) - 1) = P := ⟨_, rfl⟩
    have hP' : (i = 0 ∧ P = 0) ∨ (i ≠ 0 ∧ P = p.1) := by
      rw [← hP]; unfold szI
      by_cases h0 : i = 0
      · exact .inl ⟨h0, if_neg (by omega)⟩
      · refine .inr ⟨h0, ?_⟩
        rw [if_pos ⟨by omega, by omega⟩, show ((i : Int) - 1).toNat = i - 1 by omega, hp]
    have hPb : 0 ≤ P ∧ P ≤ i := by omega
    obtain ⟨Q, hQ⟩ : ∃ Q, szI Sc.isName l ((i : Int) - 1 - P) = Q := ⟨_, rfl⟩
    have hQ' : i ≠ 0 → (a < 0 ∧ Q = 0) ∨ (0 ≤ a ∧ Q = q.1) := fun h0 => by
      rcases hP' with hh | ⟨_, hh⟩
      · exact absurd hh.1 h0
      rw [← hQ, hh, ← ha]; unfold szI
      by_cases h1 : 0 ≤ a
      · exact .inr ⟨h1, by rw [if_pos ⟨h1, by omega⟩, hq]⟩
      · exact .inl ⟨by omega, if_neg (by omega)⟩
    have hw1 : IntKind.i64.wrap ((i : Int) - 1) = (i : Int) - 1 := i64_of rfl (by omega) (by omega)
    have hw2 : IntKind.i64.wrap (IntKind.i64.wrap ((i : Int) - 1) - P) = (i : Int) - 1 - P := by rw [hw1]; exact i64_of rfl (by omega) (by omega)
    have hQb : 0 ≤ Q ∧ Q ≤ i + 1 := by
      rw [← hQ]; unfold szI
      split
      · rename_i h0
        have := nd_bound Sc.isName l (i := ((i : Int) - 1 - P).toNat) (by omega)
        omega
      · omega
    have hw3 : IntKind.i64.wrap (P + 1) = P + 1 := i64_of rfl (by omega) (by omega)
    have hw4 : IntKind.i64.wrap (IntKind.i64.wrap (Q + P) + 1) = Q + P + 1 := by rw [i64_of (b := Q + P) rfl (by omega) (by omega)]; exact i64_of rfl (by omega) (by omega)
    have s1 : APure Tryz.prog Γ 102 [.slice t (l.map exA), .int .i64 (IntKind.i64.wrap ((i : Int) - 1))] fun v => v = .int .i64 P := by rw [hw1, ← hP]; exact ih _ (by omega)
    have s2 : APure Tryz.prog Γ 102 [.slice t (l.map exA), .int .i64 (IntKind.i64.wrap (IntKind.i64.wrap ((i : Int) - 1) - P))] fun v => v = .int .i64 Q := by rw [hw2, ← hQ]; exact ih _ (by omega)
    have hev := eq_vl x.2.2.2.2.1 noVl
    simp only [noVl] at hev
    refine APure.of_awp Tryz.func102 rfl (Nat.le_of_ble_eq_true (by kernel_rfl)) (by kernel_rfl) ?_
    intro s
    conv => whnf
    repeat' (first
      | (exfalso; omega)
      | (refine ⟨Sub.refl _, ?_⟩)
      | (refine brA_split (fun h => ?_) (fun h => ?_) <;> (try rw [h]) <;> (try simp only [Bool.false_eq_true, Bool.true_eq_false, ↓reduceIte, decide_eq_true_eq, decide_eq_false_iff_not, Bool.not_eq_true', Bool.not_eq_false'] at h) <;> (conv => whnf))
      | (rw [show (l.map exA).getD ((i : Int)).toNat [] = _ from hga]; conv => whnf)
      | (refine getB_same ?_; conv => whnf)
      | (refine AWp.any (by kernel_rfl) (by kernel_rfl) (by kernel_rfl) ?_; conv => whnf)
      | (apply And.intro; (focus (first | omega | rfl | decide | exact Nat.le_of_ble_eq_true rfl | ((repeat' (first | exact all_nil | refine all_cons ?_ ?_ | rfl | fail)); done) | (simp [-List.length_flatMap]; done) | (simp [-List.length_flatMap]; omega) | fail)); conv => whnf)
      | fail)
    · exfalso
      rw [if_neg (by omega)] at h
      have := of_decide_eq_true h
      omega
    intro b hb
    conv => whnf
    refine getB_of set_bx_same ?_
    repeat' (first
      | (refine ⟨Sub.refl _, ?_⟩)
      | (refine brA_split (fun h => ?_) (fun h => ?_) <;> (try rw [h]) <;> (try simp only [Bool.false_eq_true, Bool.true_eq_false, ↓reduceIte, decide_eq_true_eq, decide_eq_false_iff_not, Bool.not_eq_true', Bool.not_eq_false'] at h) <;> (conv => whnf))
      | (refine getB_same ?_; conv => whnf)
      | (refine AWp.any (by kernel_rfl) (by kernel_rfl) (by kernel_rfl) ?_; conv => whnf)
      | (apply And.intro; (focus (first | omega | rfl | decide | exact Nat.le_of_ble_eq_true rfl | ((repeat' (first | exact all_nil | refine all_cons ?_ ?_ | rfl | fail)); done) | (simp [-List.length_flatMap]; done) | (simp [-List.length_flatMap]; omega) | fail)); conv => whnf)
      | fail)
    intro b2 hb2
    conv => whnf
    refine getB_of set_bx_same ?_
    have n2 := ne_of_none set_bx_same hb2
    have h2 := (none_set (none_set hb2).2).2
    repeat' (first
      | (exfalso; omega)
      | (refine ⟨Sub.refl _, ?_⟩)
      | (refine brA_split (fun h => ?_) (fun h => ?_) <;> (try rw [h]) <;> (try simp only [Bool.false_eq_true, Bool.true_eq_false, ↓reduceIte, decide_eq_true_eq, decide_eq_false_iff_not, Bool.not_eq_true', Bool.not_eq_false'] at h) <;> (conv => whnf))
      | (refine getB_of set_bx_same ?_; conv => whnf)
      | (refine getB_of ((set_bx_other n2).trans ((set_bx_other n2).trans set_bx_same)) ?_; conv => whnf)
      | (refine ACalls.pure' ?_ (refRight_ok _); rintro _ rfl; conv => whnf)
      | (refine DCall.pure ?_ (refRight_ok _); conv => whnf)
      | (refine ACalls.pure' ?_ (Sc.refName_ok _); rintro _ rfl; conv => whnf)
      | (refine DCall.pure ?_ (Sc.refName_ok _); conv => whnf)
      | (refine EqAgg.of grdVl planVl ?_; conv => whnf)
      | (refine ACalls.pure' ?_ (s1); rintro _ rfl; conv => whnf)
      | (refine DCall.pure ?_ (s1); conv => whnf)
      | (refine ACalls.pure' ?_ (s2); rintro _ rfl; conv => whnf)
      | (refine DCall.pure ?_ (s2); conv => whnf)
      | (refine getB_same ?_; conv => whnf)
      | (refine AWp.any (by kernel_rfl) (by kernel_rfl) (by kernel_rfl) ?_; conv => whnf)
      | (apply And.intro; (focus (first | omega | rfl | decide | exact Nat.le_of_ble_eq_true rfl | ((repeat' (first | exact all_nil | refine all_cons ?_ ?_ | rfl | fail)); done) | (simp [-List.length_flatMap]; done) | (simp [-List.length_flatMap]; omega) | fail)); conv => whnf)
      | fail)
    all_goals refine ⟨((((Sub.refl _).set hb _ _).set hb _ _).set h2 _ _).set h2 _ _, int_eq ?_⟩
    all_goals (rw [hnode]; clear hga ih s1 s2 hnode hb hb2 n2 h2)
    all_goals (unfold loneB; grind [noVl])
theorem refDepth_ok (t : Nat) (l : List Ex) (hl : l.length ≤ 1000000) : ∀ (k i : Nat), i < k → i < l.length → 0 < (nd Sc.isName l i).1 → ∀ Γ : Nat → AV, APure Tryz.prog Γ 103 [.slice t (l.map exA), .int .i64 i] fun v => v = .int .i64 (nd Sc.isName l i).2
  | 0, i => fun h => by omega
  | k + 1, i => fun h hi hpos Γ => by
    have hml : (l.map exA).length = l.length := List.length_map ..
    have ih := fun (j : Nat) (hj : j < i) (hp : 0 < (nd Sc.isName l j).1) => refDepth_ok t l hl k j (by omega) (by omega) hp Γ
    have hga := map_get (f := exA) (l := l) noEx hi
    obtain ⟨x, hx⟩ : ∃ x, l.getD i noEx = x := ⟨_, rfl⟩
    rw [hx] at hga
    obtain ⟨p, hp⟩ : ∃ p, nd Sc.isName l (i - 1) = p := ⟨_, rfl⟩
    obtain ⟨a, ha⟩ : ∃ a : Int, a = (i : Int) - 1 - p.1 := ⟨_, rfl⟩
    obtain ⟨q, hq⟩ : ∃ q, nd Sc.isName l a.toNat = q := ⟨_, rfl⟩
    have hnode := nd_eq (nm := Sc.isName) hi hx hp ha hq
    have hpb := nd_bound Sc.isName l (i := i - 1) (by omega)
    rw [hp] at hpb
    have hqb := fun h : 0 ≤ a => nd_bound Sc.isName l (i := a.toNat) (by omega)
    rw [hq] at hqb
    rw [hnode] at hpos ⊢
    have lo : loneB Sc.isName x = true → x.1 = 1 ∨ x.1 = 17 := fun h => by
      unfold loneB at h
      grind
    by_cases h1 : loneB Sc.isName x = true
    · have hx1 := lo h1
      rw [if_pos h1]
      refine APure.of_awp Tryz.func103 rfl (Nat.le_of_ble_eq_true (by kernel_rfl)) (by kernel_rfl) ?_
      intro s
      conv => whnf
      repeat' (first
        | (exfalso; omega)
        | (refine ⟨Sub.refl _, ?_⟩)
        | (refine brA_split (fun h => ?_) (fun h => ?_) <;> (try rw [h]) <;> (try simp only [Bool.false_eq_true, Bool.true_eq_false, ↓reduceIte, decide_eq_true_eq, decide_eq_false_iff_not, Bool.not_eq_true', Bool.not_eq_false'] at h) <;> (conv => whnf))
        | (rw [show (l.map exA).getD ((i : Int)).toNat [] = _ from hga]; conv => whnf)
        | (refine getB_same ?_; conv => whnf)
        | (refine AWp.any (by kernel_rfl) (by kernel_rfl) (by kernel_rfl) ?_; conv => whnf)
        | (apply And.intro; (focus (first | omega | rfl | decide | exact Nat.le_of_ble_eq_true rfl | ((repeat' (first | exact all_nil | refine all_cons ?_ ?_ | rfl | fail)); done) | (simp [-List.length_flatMap]; done) | (simp [-List.length_flatMap]; omega) | fail)); conv => whnf)
        | fail)
      intro b hb
      conv => whnf
      refine getB_of set_bx_same ?_
      repeat' (first
        | (exfalso; omega)
        | (refine ⟨Sub.refl _, ?_⟩)
        | (refine brA_split (fun h => ?_) (fun h => ?_) <;> (try rw [h]) <;> (try simp only [Bool.false_eq_true, Bool.true_eq_false, ↓reduceIte, decide_eq_true_eq, decide_eq_false_iff_not, Bool.not_eq_true', Bool.not_eq_false'] at h) <;> (conv => whnf))
        | (refine getB_of set_bx_same ?_; conv => whnf)
        | (refine getB_same ?_; conv => whnf)
        | (refine AWp.any (by kernel_rfl) (by kernel_rfl) (by kernel_rfl) ?_; conv => whnf)
        | (apply And.intro; (focus (first | omega | rfl | decide | exact Nat.le_of_ble_eq_true rfl | ((repeat' (first | exact all_nil | refine all_cons ?_ ?_ | rfl | fail)); done) | (simp [-List.length_flatMap]; done) | (simp [-List.length_flatMap]; omega) | fail)); conv => whnf)
        | fail)
      all_goals exact ⟨((Sub.refl _).set hb _ _).set hb _ _, rfl⟩
    rw [if_neg h1] at hpos ⊢
    by_cases h2 : x.1 < 4 ∨ 16 < x.1 ∨ x.2.2.2.1 ≠ [] ∨ x.2.2.2.2.1 ≠ noVl ∨ i = 0 ∨ p.1 = 0
    · rw [if_pos h2] at hpos; exact absurd hpos (by decide)
    rw [if_neg h2] at hpos ⊢
    have hp1 : 0 < p.1 := by omega
    have sp := ih (i - 1) (by omega) (by rw [hp]; exact hp1)
    rw [hp] at sp
    by_cases h3 : x.1 ≤ 5
    · rw [if_pos h3] at hpos ⊢
      by_cases h4 : x.2.1 = (i : Int) - 1 ∧ x.2.2.1 = 0
      · rw [if_pos h4] at hpos ⊢
        have sA : APure Tryz.prog Γ 103 [.slice t (l.map exA), .int .i64 x.2.1] fun v => v = .int .i64 p.2 := by rw [h4.1, show (i : Int) - 1 = ((i - 1 : Nat) : Int) by omega]; exact sp
        have hw : IntKind.i64.wrap (p.2 + 1) = p.2 + 1 := i64_of rfl (by omega) (by omega)
        refine APure.of_awp Tryz.func103 rfl (Nat.le_of_ble_eq_true (by kernel_rfl)) (by kernel_rfl) ?_
        intro s
        conv => whnf
        repeat' (first
          | (exfalso; omega)
          | (refine ⟨Sub.refl _, ?_⟩)
          | (refine brA_split (fun h => ?_) (fun h => ?_) <;> (try rw [h]) <;> (try simp only [Bool.false_eq_true, Bool.true_eq_false, ↓reduceIte, decide_eq_true_eq, decide_eq_false_iff_not, Bool.not_eq_true', Bool.not_eq_false'] at h) <;> (conv => whnf))
          | (rw [show (l.map exA).getD ((i : Int)).toNat [] = _ from hga]; conv => whnf)
          | (refine getB_same ?_; conv => whnf)
          | (refine AWp.any (by kernel_rfl) (by kernel_rfl) (by kernel_rfl) ?_; conv => whnf)
          | (apply And.intro; (focus (first | omega | rfl | decide | exact Nat.le_of_ble_eq_true rfl | ((repeat' (first | exact all_nil | refine all_cons ?_ ?_ | rfl | fail)); done) | (simp [-List.length_flatMap]; done) | (simp [-List.length_flatMap]; omega) | fail)); conv => whnf)
          | fail)
        intro b hb
        conv => whnf
        refine getB_of set_bx_same ?_
        repeat' (first
          | (exfalso; omega)
          | (refine ⟨Sub.refl _, ?_⟩)
          | (refine brA_split (fun h => ?_) (fun h => ?_) <;> (try rw [h]) <;> (try simp only [Bool.false_eq_true, Bool.true_eq_false, ↓reduceIte, decide_eq_true_eq, decide_eq_false_iff_not, Bool.not_eq_true', Bool.not_eq_false'] at h) <;> (conv => whnf))
          | (refine getB_of set_bx_same ?_; conv => whnf)
          | (refine ACalls.pure' ?_ (sA); rintro _ rfl; conv => whnf)
          | (refine DCall.pure ?_ (sA); conv => whnf)
          | (refine getB_same ?_; conv => whnf)
          | (refine AWp.any (by kernel_rfl) (by kernel_rfl) (by kernel_rfl) ?_; conv => whnf)
          | (apply And.intro; (focus (first | omega | rfl | decide | exact Nat.le_of_ble_eq_true rfl | ((repeat' (first | exact all_nil | refine all_cons ?_ ?_ | rfl | fail)); done) | (simp [-List.length_flatMap]; done) | (simp [-List.length_flatMap]; omega) | fail)); conv => whnf)
          | fail)
        all_goals try (exfalso; rename_i h5; split at h5 <;> first | omega | (have := of_decide_eq_true h5; omega))
        all_goals exact ⟨((Sub.refl _).set hb _ _).set hb _ _, int_eq hw⟩
      · rw [if_neg h4] at hpos; exact absurd hpos (by decide)
    · rw [if_neg h3] at hpos ⊢
      by_cases h4 : x.2.2.1 = (i : Int) - 1 ∧ x.2.1 = a ∧ 0 ≤ a ∧ 0 < q.1
      · rw [if_pos h4] at hpos ⊢
        have sq := ih a.toNat (by omega) (by rw [hq]; exact h4.2.2.2)
        rw [hq, show ((a.toNat : Nat) : Int) = a by omega] at sq
        have sA : APure Tryz.prog Γ 103 [.slice t (l.map exA), .int .i64 x.2.1] fun v => v = .int .i64 q.2 := by rw [h4.2.1]; exact sq
        have sB : APure Tryz.prog Γ 103 [.slice t (l.map exA), .int .i64 x.2.2.1] fun v => v = .int .i64 p.2 := by rw [h4.1, show (i : Int) - 1 = ((i - 1 : Nat) : Int) by omega]; exact sp
        have hqb' := hqb h4.2.2.1
        have hw : IntKind.i64.wrap ((if p.2 > q.2 then p.2 else q.2) + 1) = max q.2 p.2 + 1 := i64_of (by split <;> omega) (by omega) (by omega)
        refine APure.of_awp Tryz.func103 rfl (Nat.le_of_ble_eq_true (by kernel_rfl)) (by kernel_rfl) ?_
        intro s
        conv => whnf
        repeat' (first
          | (exfalso; omega)
          | (refine ⟨Sub.refl _, ?_⟩)
          | (refine brA_split (fun h => ?_) (fun h => ?_) <;> (try rw [h]) <;> (try simp only [Bool.false_eq_true, Bool.true_eq_false, ↓reduceIte, decide_eq_true_eq, decide_eq_false_iff_not, Bool.not_eq_true', Bool.not_eq_false'] at h) <;> (conv => whnf))
          | (rw [show (l.map exA).getD ((i : Int)).toNat [] = _ from hga]; conv => whnf)
          | (refine getB_same ?_; conv => whnf)
          | (refine AWp.any (by kernel_rfl) (by kernel_rfl) (by kernel_rfl) ?_; conv => whnf)
          | (apply And.intro; (focus (first | omega | rfl | decide | exact Nat.le_of_ble_eq_true rfl | ((repeat' (first | exact all_nil | refine all_cons ?_ ?_ | rfl | fail)); done) | (simp [-List.length_flatMap]; done) | (simp [-List.length_flatMap]; omega) | fail)); conv => whnf)
          | fail)
        intro b hb
        conv => whnf
        refine getB_of set_bx_same ?_
        repeat' (first
          | (exfalso; omega)
          | (refine ⟨Sub.refl _, ?_⟩)
          | (refine brA_split (fun h => ?_) (fun h => ?_) <;> (try rw [h]) <;> (try simp only [Bool.false_eq_true, Bool.true_eq_false, ↓reduceIte, decide_eq_true_eq, decide_eq_false_iff_not, Bool.not_eq_true', Bool.not_eq_false'] at h) <;> (conv => whnf))
          | (refine getB_of set_bx_same ?_; conv => whnf)
          | (refine ACalls.pure' ?_ (sA); rintro _ rfl; conv => whnf)
          | (refine DCall.pure ?_ (sA); conv => whnf)
          | (refine ACalls.pure' ?_ (sB); rintro _ rfl; conv => whnf)
          | (refine DCall.pure ?_ (sB); conv => whnf)
          | (refine getB_same ?_; conv => whnf)
          | (refine AWp.any (by kernel_rfl) (by kernel_rfl) (by kernel_rfl) ?_; conv => whnf)
          | (apply And.intro; (focus (first | omega | rfl | decide | exact Nat.le_of_ble_eq_true rfl | ((repeat' (first | exact all_nil | refine all_cons ?_ ?_ | rfl | fail)); done) | (simp [-List.length_flatMap]; done) | (simp [-List.length_flatMap]; omega) | fail)); conv => whnf)
          | fail)
        all_goals try (exfalso; rename_i h5; split at h5 <;> first | omega | (have := of_decide_eq_true h5; omega))
        all_goals exact ⟨((Sub.refl _).set hb _ _).set hb _ _, int_eq hw⟩
      · rw [if_neg h4] at hpos; exact absurd hpos (by decide)
end Go.Proofs.YtbhemiimdfhjbaaGreatDoor.Tr
