/- Chapter 3: the law of the values that may be. -/
import Derived.Test.YtcgobgnbpeageaaGreatDoorVaI
import Derived.Test.YtcgobgnbpeageaaGreatDoorNuW
set_option linter.all false
namespace Go.Proofs.YtcgobgnbpeageaaGreatDoor.Va
open Go Go.Ab Go.RowKit
variable {Γ : Nat → AV}
attribute [local irreducible] APure Sto.set Sto.grow
set_option maxRecDepth 10000
set_option maxHeartbeats 1000000

theorem refTextV_ok (v : Vl) (hv : Nu.Fits v.2.1) (hl : v.2.2.1.length ≤ 1048576) (hr : right v = true) : APure Tryz.prog Γ 15 [.agg (vlA v)] fun x => x = .str (textOf v) := by
  have ht : textOf v = (if v.1 = 1 then Lib.itoa v.2.1 else if v.1 = 2 then Qu.quote v.2.2.1 else if v.2.2.2 = true then tT else tF) := by
    unfold textOf; rw [if_pos hr]
  refine APure.of_awp Tryz.func15 rfl (Nat.le_of_ble_eq_true (by kernel_rfl)) (by kernel_rfl) ?_
  intro s
  conv => whnf
  intro b hb
  conv => whnf
  repeat' (first
    | (refine ⟨Sub.refl _, ?_⟩)
    | (refine brA_split (fun h => ?_) (fun h => ?_) <;> (try rw [h]) <;> (try simp only [Bool.false_eq_true, Bool.true_eq_false, ↓reduceIte, decide_eq_true_eq, decide_eq_false_iff_not, Bool.not_eq_true', Bool.not_eq_false'] at h) <;> (conv => whnf))
    | (refine ACalls.pure' ?_ (Nu.refText_ok (v.2.1.natAbs + 1) v.2.1 (by omega) hv _); rintro _ rfl; conv => whnf)
    | (refine DCall.pure ?_ (Nu.refText_ok (v.2.1.natAbs + 1) v.2.1 (by omega) hv _); conv => whnf)
    | (refine ACalls.pure' ?_ (Qu.refQuote_ok v.2.2.1 (by omega)); rintro _ rfl; conv => whnf)
    | (refine DCall.pure ?_ (Qu.refQuote_ok v.2.2.1 (by omega)); conv => whnf)
    | (refine getB_same ?_; conv => whnf)
    | (refine AWp.any (by kernel_rfl) (by kernel_rfl) (by kernel_rfl) ?_; conv => whnf)
    | (apply And.intro; (focus (first | omega | rfl | decide | exact Nat.le_of_ble_eq_true rfl | ((repeat' (first | exact all_nil | refine all_cons ?_ ?_ | rfl | fail)); done) | (simp [-List.length_flatMap]; done) | (simp [-List.length_flatMap]; omega) | fail)); conv => whnf)
    | fail)
  all_goals refine ⟨(Sub.refl _).set hb _ _, congrArg AV.str ?_⟩
  all_goals rw [ht]
  all_goals simp [*]
  all_goals rfl
theorem head_quote (s : List UInt8) : 0 < (Qu.quote s).length ∧ byteAt (Qu.quote s) 0 = 34 := by
  unfold Qu.quote
  exact ⟨by simp, rfl⟩
/-- A value's text is parsed as that. -/
theorem parse_textOf {v : Vl} (hr : right v = true) (hv : Nu.Fits v.2.1) : parseV (textOf v) = (v, 0) := by
  obtain ⟨k, n, s, t⟩ := v
  have hk := right_kinds hr
  unfold Kinds at hk
  dsimp only at hk hv
  have hc : k = 1 ∨ k = 2 ∨ k = 3 := by omega
  rcases hc with rfl | rfl | rfl
  · have ht : textOf (1, n, s, t) = Lib.itoa n := by unfold textOf; rw [if_pos hr]; rfl
    have hst : s = [] ∧ t = false := by unfold right at hr; simpa using hr
    obtain ⟨rfl, rfl⟩ := hst
    rw [ht]
    obtain ⟨hf, h1, h2⟩ := Nu.parse_itoa n hv
    have hdig := fun i h1 h2 => Nu.form_digit (i := i) hf h1 h2
    have hlong := Nu.form_long hf
    have hfr : Nu.from_ (Lib.itoa n) = (if byteAt (Lib.itoa n) 0 = 45 then 1 else 0) := rfl
    have h0 : byteAt (Lib.itoa n) 0 = 45 ∨ (48 ≤ (byteAt (Lib.itoa n) 0).toNat ∧ (byteAt (Lib.itoa n) 0).toNat ≤ 57) := by
      by_cases hb : byteAt (Lib.itoa n) 0 = 45
      · exact .inl hb
      · rw [if_neg hb] at hfr
        exact .inr (hdig 0 (by omega) (by omega))
    unfold parseV
    rw [if_neg, if_neg, if_pos h2, h1]
    · rintro ⟨_, e⟩
      rw [e] at h0
      rcases h0 with h0 | h0
      · cases h0
      · have : (34 : UInt8).toNat = 34 := rfl
        omega
    · rintro (e | e)
      · rw [e] at h0
        rcases h0 with h0 | h0
        · cases h0
        · have : (byteAt tT 0).toNat = 116 := rfl
          omega
      · rw [e] at h0
        rcases h0 with h0 | h0
        · cases h0
        · have : (byteAt tF 0).toNat = 102 := rfl
          omega
  · have ht : textOf (2, n, s, t) = Qu.quote s := by unfold textOf; rw [if_pos hr]; rfl
    have hst : (n = 0 ∧ t = false) ∧ s.length ≤ 4096 := by unfold right at hr; simpa using hr
    obtain ⟨⟨rfl, rfl⟩, hl⟩ := hst
    rw [ht]
    have hq := head_quote s
    unfold parseV
    rw [if_neg, if_pos hq]
    · have hcut := Qu.cut_quote s []
      rw [List.append_nil] at hcut
      unfold cutV
      rw [hcut]
      dsimp only
      rw [if_pos rfl]
      unfold textV
      rw [if_pos hl]
    · rintro (e | e)
      · have h2 := hq.2
        rw [e] at h2
        cases h2
      · have h2 := hq.2
        rw [e] at h2
        cases h2
  · have hst : n = 0 ∧ s = [] := by unfold right at hr; simpa using hr
    obtain ⟨rfl, rfl⟩ := hst
    cases t
    · rfl
    · rfl
theorem textOf_len {v : Vl} (hv : Nu.Fits v.2.1) (hl : v.2.2.1.length ≤ 5000) : (textOf v).length ≤ 1048576 := by
  unfold textOf
  split
  · split
    · have := Lib.itoa_length_le v.2.1 hv.1 hv.2
      omega
    · split
      · have := Qu.quote_len v.2.2.1
        omega
      · split
        · show 4 ≤ 1048576; omega
        · show 5 ≤ 1048576; omega
  · simp
theorem right_law (hT : Qu.Tabs Γ) (hN : Nu.Tens Γ) (hE : Nu.ErrR Γ) (v : Vl) (hv : Nu.Fits v.2.1) : APure Tryz.prog Γ 3 [.agg (vlA v)] fun x => x = .bool true := by
  by_cases hl : v.2.2.1.length ≤ 5000
  case neg =>
    refine APure.of_awp Tryz.func3 rfl (Nat.le_of_ble_eq_true (by kernel_rfl)) (by kernel_rfl) ?_
    intro s
    conv => whnf
    intro c1 h1
    conv => whnf
    repeat' (first
      | (exfalso; omega)
      | (refine ⟨Sub.refl _, ?_⟩)
      | (refine brA_split (fun h => ?_) (fun h => ?_) <;> (try rw [h]) <;> (try simp only [Bool.false_eq_true, Bool.true_eq_false, ↓reduceIte, decide_eq_true_eq, decide_eq_false_iff_not, Bool.not_eq_true', Bool.not_eq_false'] at h) <;> (conv => whnf))
      | (refine getB_of set_bx_same ?_; conv => whnf)
      | (refine ACalls.pure' ?_ (few_ok v); rintro _ rfl; conv => whnf)
      | (refine DCall.pure ?_ (few_ok v); conv => whnf)
      | (refine ACalls.pure' ?_ (awake_ok hT hN); rintro _ rfl; conv => whnf)
      | (refine DCall.pure ?_ (awake_ok hT hN); conv => whnf)
      | (refine getB_same ?_; conv => whnf)
      | (refine AWp.any (by kernel_rfl) (by kernel_rfl) (by kernel_rfl) ?_; conv => whnf)
      | (apply And.intro; (focus (first | omega | rfl | decide | exact Nat.le_of_ble_eq_true rfl | ((repeat' (first | exact all_nil | refine all_cons ?_ ?_ | rfl | fail)); done) | (simp [-List.length_flatMap]; done) | (simp [-List.length_flatMap]; omega) | fail)); conv => whnf)
      | fail)
    all_goals exact ⟨(Sub.refl _).set h1 _ _, rfl⟩
  have htl := textOf_len hv hl
  have tx := fun Γ hT hN => text_full (Γ := Γ) hT hN v hv (by omega)
  have p1 := fun Γ hT hE => parse_ok (Γ := Γ) hT hE (textOf v) htl
  cases hr : right v
  · have h0 : textOf v = [] := by unfold textOf; rw [hr]; rfl
    rw [h0] at tx
    clear p1
    have r1 := fun Γ => right_ok (Γ := Γ) v
    have r2 := fun Γ => refRight_ok (Γ := Γ) v
    rw [hr] at r1 r2
    refine APure.of_awp Tryz.func3 rfl (Nat.le_of_ble_eq_true (by kernel_rfl)) (by kernel_rfl) ?_
    intro s
    conv => whnf
    intro c1 h1
    conv => whnf
    repeat' (first
      | (exfalso; omega)
      | (refine ⟨Sub.refl _, ?_⟩)
      | (refine brA_split (fun h => ?_) (fun h => ?_) <;> (try rw [h]) <;> (try simp only [Bool.false_eq_true, Bool.true_eq_false, ↓reduceIte, decide_eq_true_eq, decide_eq_false_iff_not, Bool.not_eq_true', Bool.not_eq_false'] at h) <;> (conv => whnf))
      | (refine getB_of set_bx_same ?_; conv => whnf)
      | (refine ACalls.pure' ?_ (few_ok v); rintro _ rfl; conv => whnf)
      | (refine DCall.pure ?_ (few_ok v); conv => whnf)
      | (refine ACalls.pure' ?_ (r2 _); rintro _ rfl; conv => whnf)
      | (refine DCall.pure ?_ (r2 _); conv => whnf)
      | (refine ACalls.pure' ?_ (r1 _); rintro _ rfl; conv => whnf)
      | (refine DCall.pure ?_ (r1 _); conv => whnf)
      | (refine ACalls.pure' ?_ (tx _ hT hN); rintro _ rfl; conv => whnf)
      | (refine DCall.pure ?_ (tx _ hT hN); conv => whnf)
      | (refine ACalls.pure' ?_ (awake_ok hT hN); rintro _ rfl; conv => whnf)
      | (refine DCall.pure ?_ (awake_ok hT hN); conv => whnf)
      | (refine getB_same ?_; conv => whnf)
      | (refine AWp.any (by kernel_rfl) (by kernel_rfl) (by kernel_rfl) ?_; conv => whnf)
      | (apply And.intro; (focus (first | omega | rfl | decide | exact Nat.le_of_ble_eq_true rfl | ((repeat' (first | exact all_nil | refine all_cons ?_ ?_ | rfl | fail)); done) | (simp [-List.length_flatMap]; done) | (simp [-List.length_flatMap]; omega) | fail)); conv => whnf)
      | fail)
    all_goals try refine ⟨(Sub.refl _).set h1 _ _, ?_⟩
    all_goals first | rfl | trace_state
  · have rt := fun Γ => refTextV_ok (Γ := Γ) v hv (by omega) hr
    rw [parse_textOf hr hv] at p1
    have r1 := fun Γ => right_ok (Γ := Γ) v
    have r2 := fun Γ => refRight_ok (Γ := Γ) v
    rw [hr] at r1 r2
    refine APure.of_awp Tryz.func3 rfl (Nat.le_of_ble_eq_true (by kernel_rfl)) (by kernel_rfl) ?_
    intro s
    conv => whnf
    intro c1 h1
    conv => whnf
    repeat' (first
      | (exfalso; omega)
      | (refine ⟨Sub.refl _, ?_⟩)
      | (refine brA_split (fun h => ?_) (fun h => ?_) <;> (try rw [h]) <;> (try simp only [Bool.false_eq_true, Bool.true_eq_false, ↓reduceIte, decide_eq_true_eq, decide_eq_false_iff_not, Bool.not_eq_true', Bool.not_eq_false'] at h) <;> (conv => whnf))
      | (refine getB_of set_bx_same ?_; conv => whnf)
      | (refine ACalls.pure' ?_ (few_ok v); rintro _ rfl; conv => whnf)
      | (refine DCall.pure ?_ (few_ok v); conv => whnf)
      | (refine ACalls.pure' ?_ (r2 _); rintro _ rfl; conv => whnf)
      | (refine DCall.pure ?_ (r2 _); conv => whnf)
      | (refine ACalls.pure' ?_ (r1 _); rintro _ rfl; conv => whnf)
      | (refine DCall.pure ?_ (r1 _); conv => whnf)
      | (refine ACalls.pure' ?_ (tx _ hT hN); rintro _ rfl; conv => whnf)
      | (refine DCall.pure ?_ (tx _ hT hN); conv => whnf)
      | (refine ACalls.pure' ?_ (p1 _ hT hE); rintro _ rfl; conv => whnf)
      | (refine DCall.pure ?_ (p1 _ hT hE); conv => whnf)
      | (refine ACalls.pure' ?_ (awake_ok hT hN); rintro _ rfl; conv => whnf)
      | (refine DCall.pure ?_ (awake_ok hT hN); conv => whnf)
      | (refine getB_same ?_; conv => whnf)
      | (refine AWp.any (by kernel_rfl) (by kernel_rfl) (by kernel_rfl) ?_; conv => whnf)
      | (apply And.intro; (focus (first | omega | rfl | decide | exact Nat.le_of_ble_eq_true rfl | ((repeat' (first | exact all_nil | refine all_cons ?_ ?_ | rfl | fail)); done) | (simp [-List.length_flatMap]; done) | (simp [-List.length_flatMap]; omega) | fail)); conv => whnf)
      | fail)
    intro c2 h2
    conv => whnf
    have n12 := ne_of_none set_bx_same h2
    refine getB_of set_bx_same ?_
    repeat' (first
      | (refine ⟨Sub.refl _, ?_⟩)
      | (refine brA_split (fun h => ?_) (fun h => ?_) <;> (try rw [h]) <;> (try simp only [Bool.false_eq_true, Bool.true_eq_false, ↓reduceIte, decide_eq_true_eq, decide_eq_false_iff_not, Bool.not_eq_true', Bool.not_eq_false'] at h) <;> (conv => whnf))
      | (refine getB_of set_bx_same ?_; conv => whnf)
      | (refine getB_of ((set_bx_other n12).trans ((set_bx_other n12).trans set_bx_same)) ?_; conv => whnf)
      | (refine getB_of ((set_bx_other n12).trans set_bx_same) ?_; conv => whnf)
      | (refine EqAgg.of grdVl planVl ?_; conv => whnf)
      | (refine ACalls.pure' ?_ (rt _); rintro _ rfl; conv => whnf)
      | (refine DCall.pure ?_ (rt _); conv => whnf)
      | (refine ACalls.pure' ?_ (awake_ok hT hN); rintro _ rfl; conv => whnf)
      | (refine DCall.pure ?_ (awake_ok hT hN); conv => whnf)
      | (refine getB_same ?_; conv => whnf)
      | (refine AWp.any (by kernel_rfl) (by kernel_rfl) (by kernel_rfl) ?_; conv => whnf)
      | (apply And.intro; (focus (first | omega | rfl | decide | exact Nat.le_of_ble_eq_true rfl | ((repeat' (first | exact all_nil | refine all_cons ?_ ?_ | rfl | fail)); done) | (simp [-List.length_flatMap]; done) | (simp [-List.length_flatMap]; omega) | fail)); conv => whnf)
      | fail)
    all_goals have g2 := (none_set h2).2
    all_goals try refine ⟨(((Sub.refl _).set h1 _ _).set g2 _ _).set g2 _ _, ?_⟩
    all_goals try simp only [eq_vl] at *
    all_goals first | rfl | (refine bool_eq ?_; grind) | (simp [tupA]; done) | trace_state
end Go.Proofs.YtcgobgnbpeageaaGreatDoor.Va
