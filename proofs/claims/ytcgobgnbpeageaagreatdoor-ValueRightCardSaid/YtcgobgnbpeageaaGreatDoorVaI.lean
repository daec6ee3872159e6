/- Chapter 3: values are parsed, and shown. -/
import Derived.Test.YtcgobgnbpeageaaGreatDoorVaF
import Derived.Test.YtcgobgnbpeageaaGreatDoorNuV
set_option linter.all false
namespace Go.Proofs.YtcgobgnbpeageaaGreatDoor.Va
open Go Go.Ab Go.RowKit
variable {Γ : Nat → AV}
attribute [local irreducible] APure Sto.set Sto.grow
set_option maxRecDepth 10000
set_option maxHeartbeats 1000000

def tT : List UInt8 := [116, 114, 117, 101]
def tF : List UInt8 := [102, 97, 108, 115, 101]
def cutV (l : List UInt8) : Rs := match Qu.cut l with
  | some (t, k) => if k = l.length then textV t else (noVl, 4)
  | none => (noVl, 4)
def parseV (l : List UInt8) : Rs :=
  if l = tT ∨ l = tF then ((3, 0, [], decide (l = tT)), 0)
  else if 0 < l.length ∧ byteAt l 0 = 34 then cutV l
  else if Nu.numE l = 0 then ((1, Nu.numN l, [], false), 0) else (noVl, Nu.numE l)
theorem take1 (l : List UInt8) : (decide (([34] : List UInt8).length ≤ l.length) && decide (l.take ([34] : List UInt8).length = [34])) = decide (0 < l.length ∧ byteAt l 0 = 34) := by
  cases l with
  | nil => rfl
  | cons c r => simp [byteAt]
theorem numParse_ok (hE : Nu.ErrR Γ) (l : List UInt8) (hl : l.length ≤ 1048576) : APure Tryz.prog Γ 34 [.str l] fun v => v = .tuple [.int .i64 (Nu.numN l), .int .i64 (Nu.numE l)] :=
  Nu.parse_run l hl hE fun h => Nu.no_syntax h
theorem unq_ok (hT : Qu.Tabs Γ) (l : List UInt8) (hl : l.length ≤ 1048576) : ∃ x ok, APure Tryz.prog Γ 32 [.str l] (fun v => v = .tuple [.str x, .bool ok]) ∧ cutV l = if ok = true then textV x else (noVl, 4) := by
  cases hc : Qu.cut l with
  | none => exact ⟨[], false, Qu.unquote_none hT l hl hc, by unfold cutV; rw [hc]; rfl⟩
  | some p =>
    obtain ⟨t, k⟩ := p
    by_cases hk : k = l.length
    · subst hk
      exact ⟨t, true, Qu.unquote_whole hT l hl hc, by unfold cutV; rw [hc]; simp⟩
    · exact ⟨[], false, Qu.unquote_part hT l hl hc hk, by unfold cutV; rw [hc]; simp [hk]⟩
theorem parse_ok (hT : Qu.Tabs Γ) (hE : Nu.ErrR Γ) (l : List UInt8) (hl : l.length ≤ 1048576) : APure Tryz.prog Γ 14 [.str l] fun v => v = resA (parseV l) := by
  obtain ⟨x, ok, hu, hcv⟩ := unq_ok hT l hl
  have ht := take1 l
  have hp : parseV l = if l = tT ∨ l = tF then ((3, 0, [], decide (l = tT)), 0)
    else if 0 < l.length ∧ byteAt l 0 = 34 then cutV l
    else if Nu.numE l = 0 then ((1, Nu.numN l, [], false), 0) else (noVl, Nu.numE l) := rfl
  refine APure.of_awp Tryz.func14 rfl (Nat.le_of_ble_eq_true (by kernel_rfl)) (by kernel_rfl) ?_
  intro s
  conv => whnf
  intro b hb
  conv => whnf
  repeat' (first
    | (refine ⟨Sub.refl _, ?_⟩)
    | (refine brA_split (fun h => ?_) (fun h => ?_) <;> (try rw [h]) <;> (try simp only [Bool.false_eq_true, Bool.true_eq_false, ↓reduceIte, decide_eq_true_eq, decide_eq_false_iff_not, Bool.not_eq_true', Bool.not_eq_false'] at h) <;> (conv => whnf))
    | (refine getB_of set_bx_same ?_; conv => whnf)
    | (refine ACalls.pure' ?_ (bool_ok _); rintro _ rfl; conv => whnf)
    | (refine DCall.pure ?_ (bool_ok _); conv => whnf)
    | (refine ACalls.pure' ?_ (hasPrefix_ok l [34] (by decide)); rintro _ rfl; conv => whnf)
    | (refine DCall.pure ?_ (hasPrefix_ok l [34] (by decide)); conv => whnf)
    | (refine ACalls.pure' ?_ (hu); rintro _ rfl; conv => whnf)
    | (refine DCall.pure ?_ (hu); conv => whnf)
    | (refine ACalls.pure' ?_ (text_ok _); rintro _ rfl; conv => whnf)
    | (refine DCall.pure ?_ (text_ok _); conv => whnf)
    | (refine ACalls.pure' ?_ (numParse_ok hE l hl); rintro _ rfl; conv => whnf)
    | (refine DCall.pure ?_ (numParse_ok hE l hl); conv => whnf)
    | (refine ACalls.pure' ?_ (int_ok _); rintro _ rfl; conv => whnf)
    | (refine DCall.pure ?_ (int_ok _); conv => whnf)
    | (refine getB_same ?_; conv => whnf)
    | (refine AWp.any (by kernel_rfl) (by kernel_rfl) (by kernel_rfl) ?_; conv => whnf)
    | (apply And.intro; (focus (first | omega | rfl | decide | exact Nat.le_of_ble_eq_true rfl | ((repeat' (first | exact all_nil | refine all_cons ?_ ?_ | rfl | fail)); done) | (simp [-List.length_flatMap]; done) | (simp [-List.length_flatMap]; omega) | fail)); conv => whnf)
    | fail)
  all_goals refine ⟨((Sub.refl _).set hb _ _).set hb _ _, ?_⟩
  · rw [hp, if_pos (.inl h)]; rfl
  · rw [hp, if_pos (.inr h)]; rfl
  all_goals
    have n1 : ¬ l = tT := (by assumption : ¬ l = [116, 114, 117, 101])
    have n2 : ¬ l = tF := (by assumption : ¬ l = [102, 97, 108, 115, 101])
    have n3 : ¬ (l = tT ∨ l = tF) := fun e => e.elim n1 n2
  · have hq : 0 < l.length ∧ byteAt l 0 = 34 := of_decide_eq_true (ht.symm.trans (by assumption))
    rw [hp, if_neg n3, if_pos hq, hcv, h]; rfl
  · have hq : 0 < l.length ∧ byteAt l 0 = 34 := of_decide_eq_true (ht.symm.trans (by assumption))
    rw [hp, if_neg n3, if_pos hq, hcv, h]; rfl
  · have hq : ¬ (0 < l.length ∧ byteAt l 0 = 34) := of_decide_eq_false (ht.symm.trans (by assumption))
    rw [hp, if_neg n3, if_neg hq, if_neg h]; rfl
  · have hq : ¬ (0 < l.length ∧ byteAt l 0 = 34) := of_decide_eq_false (ht.symm.trans (by assumption))
    rw [hp, if_neg n3, if_neg hq, if_pos h]; rfl

theorem refCutV (l : List UInt8) (hl : l.length ≤ 1048576) : ∃ x n, (APure Tryz.prog Γ 37 [.str l] fun v => v = .tuple [.str x, .int .i64 n]) ∧ ((n = 0 ∨ n ≠ l.length) → cutV l = (noVl, 4)) ∧ (¬ (n = 0 ∨ n ≠ l.length) → cutV l = textV x) := by
  cases hc : Qu.cut l with
  | none => exact ⟨[], 0, Qu.refCut_none l hl hc, fun _ => by unfold cutV; rw [hc], fun h => absurd (.inl rfl) h⟩
  | some p =>
    obtain ⟨t, k⟩ := p
    have hk0 := (Qu.cut_back hc).1
    refine ⟨t, k, Qu.refCut_some l hl hc, fun h => ?_, fun h => ?_⟩
    · unfold cutV
      rw [hc]
      exact if_neg (by omega)
    · unfold cutV
      rw [hc]
      exact if_pos (by omega)
theorem refParse_ok (l : List UInt8) (hl : l.length ≤ 1048576) : APure Tryz.prog Γ 16 [.str l] fun v => v = resA (parseV l) := by
  obtain ⟨x, n, hu, hc1, hc2⟩ := refCutV (Γ := Γ) l hl
  have hp : parseV l = if l = tT ∨ l = tF then ((3, 0, [], decide (l = tT)), 0)
    else if 0 < l.length ∧ byteAt l 0 = 34 then cutV l
    else if Nu.numE l = 0 then ((1, Nu.numN l, [], false), 0) else (noVl, Nu.numE l) := rfl
  have h34 : byteAt l 0 = 34 ↔ ((byteAt l 0).toNat : Int) = 34 := by
    constructor
    · intro e; rw [e]; rfl
    · intro e
      have e2 : (byteAt l 0).toNat = 34 := by omega
      exact UInt8.toNat_inj.1 e2
  refine APure.of_awp Tryz.func16 rfl (Nat.le_of_ble_eq_true (by kernel_rfl)) (by kernel_rfl) ?_
  intro s
  conv => whnf
  intro b hb
  conv => whnf
  repeat' (first
    | (exfalso; omega)
    | (refine ⟨Sub.refl _, ?_⟩)
    | (refine brA_split (fun h => ?_) (fun h => ?_) <;> (try rw [h]) <;> (try simp only [Bool.false_eq_true, Bool.true_eq_false, ↓reduceIte, decide_eq_true_eq, decide_eq_false_iff_not, Bool.not_eq_true', Bool.not_eq_false'] at h) <;> (conv => whnf))
    | (refine getB_of set_bx_same ?_; conv => whnf)
    | (refine ACalls.pure' ?_ (hu); rintro _ rfl; conv => whnf)
    | (refine DCall.pure ?_ (hu); conv => whnf)
    | (refine ACalls.pure' ?_ (Nu.refNumber_ok l hl); rintro _ rfl; conv => whnf)
    | (refine DCall.pure ?_ (Nu.refNumber_ok l hl); conv => whnf)
    | (refine getB_same ?_; conv => whnf)
    | (refine AWp.any (by kernel_rfl) (by kernel_rfl) (by kernel_rfl) ?_; conv => whnf)
    | (apply And.intro; (focus (first | omega | rfl | decide | exact Nat.le_of_ble_eq_true rfl | ((repeat' (first | exact all_nil | refine all_cons ?_ ?_ | rfl | fail)); done) | (simp [-List.length_flatMap]; done) | (simp [-List.length_flatMap]; omega) | fail)); conv => whnf)
    | fail)
  all_goals refine ⟨((Sub.refl _).set hb _ _).set hb _ _, ?_⟩
  all_goals try simp only [show Int.toNat 0 = 0 from rfl] at *
  · rw [hp, if_pos (.inl h)]; rfl
  · rw [hp, if_pos (.inr h)]; rfl
  all_goals
    have n1 : ¬ l = tT := (by assumption : ¬ l = [116, 114, 117, 101])
    have n2 : ¬ l = tF := (by assumption : ¬ l = [102, 97, 108, 115, 101])
    have n3 : ¬ (l = tT ∨ l = tF) := fun e => e.elim n1 n2
    first
      | (have hq : 0 < l.length ∧ byteAt l 0 = 34 := ⟨by omega, h34.2 (by omega)⟩
         rw [hp, if_neg n3, if_pos hq]
         first
           | (rw [hc1 (by omega)]; rfl)
           | (rw [hc2 (by omega)]; unfold textV; first | (rw [if_neg (by omega)]; rfl) | (rw [if_pos (by omega)]; rfl)))
      | (have hq : ¬ (0 < l.length ∧ byteAt l 0 = 34) := fun e => by
           have h1 := h34.1 e.2
           have h2 := e.1
           omega
         rw [hp, if_neg n3, if_neg hq]
         first
           | (rw [if_pos (by assumption)]; rfl)
           | (rw [if_neg (by assumption)]; rfl))

def textOf (v : Vl) : List UInt8 := if right v = true then (if v.1 = 1 then Lib.itoa v.2.1 else if v.1 = 2 then Qu.quote v.2.2.1 else if v.2.2.2 = true then tT else tF) else []
theorem text_full (hT : Qu.Tabs Γ) (hN : Nu.Tens Γ) (v : Vl) (hv : Nu.Fits v.2.1) (hl : v.2.2.1.length ≤ 1048576) : APure Tryz.prog Γ 13 [.agg (vlA v)] fun x => x = .str (textOf v) := by
  refine APure.of_awp Tryz.func13 rfl (Nat.le_of_ble_eq_true (by kernel_rfl)) (by kernel_rfl) ?_
  intro s
  conv => whnf
  intro b hb
  conv => whnf
  repeat' (first
    | (refine ⟨Sub.refl _, ?_⟩)
    | (refine brA_split (fun h => ?_) (fun h => ?_) <;> (try rw [h]) <;> (try simp only [Bool.false_eq_true, Bool.true_eq_false, ↓reduceIte, decide_eq_true_eq, decide_eq_false_iff_not, Bool.not_eq_true', Bool.not_eq_false'] at h) <;> (conv => whnf))
    | (refine ACalls.pure' ?_ (right_ok v); rintro _ rfl; conv => whnf)
    | (refine DCall.pure ?_ (right_ok v); conv => whnf)
    | (refine ACalls.pure' ?_ (Nu.text_ok hN _ hv); rintro _ rfl; conv => whnf)
    | (refine DCall.pure ?_ (Nu.text_ok hN _ hv); conv => whnf)
    | (refine ACalls.pure' ?_ (Qu.progQuote_ok hT _ (by omega)); rintro _ rfl; conv => whnf)
    | (refine DCall.pure ?_ (Qu.progQuote_ok hT _ (by omega)); conv => whnf)
    | (refine getB_same ?_; conv => whnf)
    | (refine AWp.any (by kernel_rfl) (by kernel_rfl) (by kernel_rfl) ?_; conv => whnf)
    | (apply And.intro; (focus (first | omega | rfl | decide | exact Nat.le_of_ble_eq_true rfl | ((repeat' (first | exact all_nil | refine all_cons ?_ ?_ | rfl | fail)); done) | (simp [-List.length_flatMap]; done) | (simp [-List.length_flatMap]; omega) | fail)); conv => whnf)
    | fail)
  all_goals refine ⟨(Sub.refl _).set hb _ _, congrArg AV.str ?_⟩
  all_goals simp [textOf, *]
  all_goals rfl
/-- What is parsed is its value's text. -/
theorem textOf_parse {l : List UInt8} (h : (parseV l).2 = 0) : textOf (parseV l).1 = l := by
  unfold parseV at h ⊢
  split at h
  · rename_i hw
    rw [if_pos hw]
    rcases hw with rfl | rfl
    · rfl
    · rfl
  · rename_i hw
    rw [if_neg hw]
    split at h
    · rename_i hq
      rw [if_pos hq]
      unfold cutV at h ⊢
      cases hc : Qu.cut l with
      | none => rw [hc] at h; cases h
      | some p =>
        obtain ⟨t, k⟩ := p
        rw [hc] at h
        dsimp only at h ⊢
        by_cases hk : k = l.length
        · rw [if_pos hk] at h ⊢
          unfold textV at h ⊢
          split at h
          · rename_i h4
            rw [if_pos h4]
            have hb := (Qu.cut_back hc).2.2
            rw [hk, List.take_length] at hb
            simp [textOf, right, h4, hb]
          · cases h
        · rw [if_neg hk] at h; cases h
    · rename_i hq
      rw [if_neg hq]
      split at h
      · rename_i he
        rw [if_pos he]
        have hf : Nu.formB l = true := by
          unfold Nu.numE at he
          cases hf : Nu.formB l
          · rw [hf] at he; cases he
          · rfl
        have := Nu.itoa_parse hf he
        simp [textOf, right, this]
      · rename_i he
        exact absurd h he
theorem parse_fits (l : List UInt8) : Nu.Fits (parseV l).1.2.1 ∧ ((parseV l).1.2.2.1.length ≤ 4096) := by
  have h0 : Nu.Fits 0 := Nu.fits0
  unfold parseV
  split
  · exact ⟨h0, by simp⟩
  · split
    · unfold cutV
      cases hc : Qu.cut l with
      | none => exact ⟨h0, by simp [noVl]⟩
      | some p =>
        obtain ⟨t, k⟩ := p
        dsimp only
        split
        · unfold textV
          split
          · rename_i h4
            exact ⟨h0, h4⟩
          · exact ⟨h0, by simp [noVl]⟩
        · exact ⟨h0, by simp [noVl]⟩
    · split
      · refine ⟨?_, by simp⟩
        unfold Nu.Fits
        dsimp only
        by_cases hf : Nu.formB l = true
        · obtain ⟨e1, _⟩ := Nu.num_form hf
          rw [e1]
          split
          · split <;> omega
          · split <;> omega
        · have : Nu.numN l = 0 := by unfold Nu.numN; rw [if_neg hf]
          omega
      · exact ⟨h0, by simp [noVl]⟩
theorem parses_law (hT : Qu.Tabs Γ) (hN : Nu.Tens Γ) (hE : Nu.ErrR Γ) (l : List UInt8) : APure Tryz.prog Γ 4 [.str l] fun v => v = .bool true := by
  have hx := textOf_parse (l := l)
  have hf := parse_fits l
  have p1 := fun Γ hT hE hl => parse_ok (Γ := Γ) hT hE l hl
  have p2 := fun Γ hl => refParse_ok (Γ := Γ) l hl
  generalize parseV l = r at *
  refine APure.of_awp Tryz.func4 rfl (Nat.le_of_ble_eq_true (by kernel_rfl)) (by kernel_rfl) ?_
  intro s
  conv => whnf
  repeat' (first
    | (refine ⟨Sub.refl _, ?_⟩)
    | (refine brA_split (fun h => ?_) (fun h => ?_) <;> (try rw [h]) <;> (try simp only [Bool.false_eq_true, Bool.true_eq_false, ↓reduceIte, decide_eq_true_eq, decide_eq_false_iff_not, Bool.not_eq_true', Bool.not_eq_false'] at h) <;> (conv => whnf))
    | (refine ACalls.pure' ?_ (awake_ok hT hN); rintro _ rfl; conv => whnf)
    | (refine DCall.pure ?_ (awake_ok hT hN); conv => whnf)
    | (refine ACalls.pure' ?_ (p1 _ hT hE (by omega)); rintro _ rfl; conv => whnf)
    | (refine DCall.pure ?_ (p1 _ hT hE (by omega)); conv => whnf)
    | (refine getB_same ?_; conv => whnf)
    | (refine AWp.any (by kernel_rfl) (by kernel_rfl) (by kernel_rfl) ?_; conv => whnf)
    | (apply And.intro; (focus (first | omega | rfl | decide | exact Nat.le_of_ble_eq_true rfl | ((repeat' (first | exact all_nil | refine all_cons ?_ ?_ | rfl | fail)); done) | (simp [-List.length_flatMap]; done) | (simp [-List.length_flatMap]; omega) | fail)); conv => whnf)
    | fail)
  · rfl
  intro c1 h1
  conv => whnf
  refine getB_of set_bx_same ?_
  repeat' (first
    | (refine ⟨Sub.refl _, ?_⟩)
    | (refine brA_split (fun h => ?_) (fun h => ?_) <;> (try rw [h]) <;> (try simp only [Bool.false_eq_true, Bool.true_eq_false, ↓reduceIte, decide_eq_true_eq, decide_eq_false_iff_not, Bool.not_eq_true', Bool.not_eq_false'] at h) <;> (conv => whnf))
    | (refine ACalls.pure' ?_ (p2 _ (by omega)); rintro _ rfl; conv => whnf)
    | (refine DCall.pure ?_ (p2 _ (by omega)); conv => whnf)
    | (refine getB_same ?_; conv => whnf)
    | (refine AWp.any (by kernel_rfl) (by kernel_rfl) (by kernel_rfl) ?_; conv => whnf)
    | (apply And.intro; (focus (first | omega | rfl | decide | exact Nat.le_of_ble_eq_true rfl | ((repeat' (first | exact all_nil | refine all_cons ?_ ?_ | rfl | fail)); done) | (simp [-List.length_flatMap]; done) | (simp [-List.length_flatMap]; omega) | fail)); conv => whnf)
    | fail)
  intro c2 h2
  conv => whnf
  have n12 := ne_of_none set_bx_same h2
  refine getB_of set_bx_same ?_
  repeat' (first
    | (refine ⟨Sub.refl _, ?_⟩)
    | (refine brA_split (fun h => ?_) (fun h => ?_) <;> (try rw [h]) <;> (try simp only [Bool.false_eq_true, Bool.true_eq_false, ↓reduceIte, decide_eq_true_eq, decide_eq_false_iff_not, Bool.not_eq_true', Bool.not_eq_false'] at h) <;> (conv => whnf))
    | (refine getB_of set_bx_same ?_; conv => whnf)
    | (refine getB_of ((set_bx_other n12).trans ((set_bx_other n12).trans set_bx_same)) ?_; conv => whnf)
    | (refine EqAgg.of grdVl planVl ?_; conv => whnf)
    | (refine ACalls.pure' ?_ (text_full hT hN r.1 hf.1 (by omega)); rintro _ rfl; conv => whnf)
    | (refine DCall.pure ?_ (text_full hT hN r.1 hf.1 (by omega)); conv => whnf)
    | (refine ACalls.pure' ?_ (awake_ok hT hN); rintro _ rfl; conv => whnf)
    | (refine DCall.pure ?_ (awake_ok hT hN); conv => whnf)
    | (refine getB_same ?_; conv => whnf)
    | (refine AWp.any (by kernel_rfl) (by kernel_rfl) (by kernel_rfl) ?_; conv => whnf)
    | (apply And.intro; (focus (first | omega | rfl | decide | exact Nat.le_of_ble_eq_true rfl | ((repeat' (first | exact all_nil | refine all_cons ?_ ?_ | rfl | fail)); done) | (simp [-List.length_flatMap]; done) | (simp [-List.length_flatMap]; omega) | fail)); conv => whnf)
    | fail)
  all_goals have g2 := (none_set (none_set h2).2).2
  all_goals try refine ⟨((((Sub.refl _).set h1 _ _).set h1 _ _).set g2 _ _).set g2 _ _, ?_⟩
  all_goals try simp only [eq_vl] at *
  all_goals first | rfl | (refine bool_eq ?_; grind) | (simp [tupA]; done) | trace_state
end Go.Proofs.YtcgobgnbpeageaaGreatDoor.Va
