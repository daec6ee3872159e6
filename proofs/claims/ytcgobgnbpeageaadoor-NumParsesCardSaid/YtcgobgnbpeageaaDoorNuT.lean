
/- Chapter 1: the number of a text, by the document. -/
import Derived.Test.YtcgobgnbpeageaaDoorNuS
import Derived.Test.YtcgobgnbpeageaaDoorNuE
set_option linter.all false
namespace Go.Proofs.YtcgobgnbpeageaaDoor.Nu
open Go Go.Ab Go.RowKit
variable {Γ : Nat → AV}
attribute [local irreducible] APure Sto.set Sto.grow
set_option maxRecDepth 10000
set_option maxHeartbeats 1000000

theorem num_form {l : List UInt8} (h : formB l = true) :
    numN l = (if from_ l = 1 then (if worthN l ≤ 9223372036854775808 then -(worthN l : Int) else 0) else (if worthN l < 9223372036854775808 then (worthN l : Int) else 0)) ∧
    numE l = (if from_ l = 1 then (if worthN l ≤ 9223372036854775808 then 0 else 5) else (if worthN l < 9223372036854775808 then 0 else 5)) := by
  unfold numN numE
  rw [if_pos h, if_pos h, parse_form h]
  by_cases h1 : from_ l = 1 <;> by_cases h2 : worthN l ≤ 9223372036854775808 <;> by_cases h3 : worthN l < 9223372036854775808 <;> simp [h1, h2, h3]
theorem num_over {l : List UInt8} (h : formB l = true) (hw : 9223372036854775808 < worthN l) : numN l = 0 ∧ numE l = 5 := by
  obtain ⟨h1, h2⟩ := num_form h
  rw [h1, h2]
  constructor
  · split
    · rw [if_neg (by omega)]
    · rw [if_neg (by omega)]
  · split
    · rw [if_neg (by omega)]
    · rw [if_neg (by omega)]
theorem form_digit {l : List UInt8} (h : formB l = true) {i : Nat} (h1 : from_ l ≤ i) (h2 : i < l.length) : 48 ≤ (byteAt l i).toNat ∧ (byteAt l i).toNat ≤ 57 := by
  rw [form_eq, Bool.and_eq_true] at h
  have := List.all_eq_true.1 h.2 (byteAt l i) (by
    rw [List.mem_iff_getElem]
    refine ⟨i - from_ l, by rw [List.length_drop]; omega, ?_⟩
    rw [List.getElem_drop]
    simp [byteAt, List.getD, show from_ l + (i - from_ l) = i by omega, h2])
  simpa [isD] using this
theorem form_long {l : List UInt8} (h : formB l = true) : from_ l < l.length := by
  rw [form_eq, Bool.and_eq_true, Bool.and_eq_true] at h
  have := h.1.1
  simp at this
  omega
theorem nv_drop {l : List UInt8} {i a : Nat} (h : i < l.length) : nv (l.drop i) a = nv (l.drop (i + 1)) (a * 10 + ((byteAt l i).toNat - 48)) := by
  rw [List.drop_eq_getElem_cons h]
  simp [nv, byteAt, List.getD, h]
theorem tup2 {a b c d : Int} (h : a = c ∧ b = d) : AV.tuple [.int .i64 a, .int .i64 b] = .tuple [.int .i64 c, .int .i64 d] := by rw [h.1, h.2]
theorem fine_false {x : Int} (h : fine x = false) : x < -9223372036854775808 ∨ 9223372036854775807 < x := by
  unfold fine at h; simp at h; omega
theorem refNumber_ok (l : List UInt8) (hl : l.length ≤ 1048576) : APure Tryd.prog Γ 9 [.str l] fun v => v = .tuple [.int .i64 (numN l), .int .i64 (numE l)] := by
  have f10 : Fits 10 := by unfold Fits; omega
  refine APure.of_awp Tryd.func9 rfl (Nat.le_of_ble_eq_true (by kernel_rfl)) (by kernel_rfl) ?_
  intro s
  conv => whnf
  repeat' (first
    | (refine ⟨Sub.refl _, ?_⟩)
    | (refine brA_split (fun h => ?_) (fun h => ?_) <;> (try rw [h]) <;> (try simp only [Bool.false_eq_true, Bool.true_eq_false, ↓reduceIte, decide_eq_true_eq, decide_eq_false_iff_not, Bool.not_eq_true', Bool.not_eq_false'] at h) <;> (conv => whnf))
    | (refine ACalls.pure' ?_ (refForm_ok l hl); rintro _ rfl; conv => whnf)
    | (refine DCall.pure ?_ (refForm_ok l hl); conv => whnf)
    | (refine getB_same ?_; conv => whnf)
    | (refine AWp.any (by kernel_rfl) (by kernel_rfl) (by kernel_rfl) ?_; conv => whnf)
    | (apply And.intro; (focus (first | omega | rfl | decide | exact Nat.le_of_ble_eq_true rfl | ((repeat' (first | exact all_nil | refine all_cons ?_ ?_ | rfl | fail)); done) | (simp [-List.length_flatMap]; done) | (simp [-List.length_flatMap]; omega) | fail)); conv => whnf)
    | fail)
  · refine tup2 ?_
    unfold numN numE
    rw [h]
    exact ⟨rfl, rfl⟩
  have hform : formB l = true := by assumption
  have hlong := form_long hform
  have hfr : from_ l = (if byteAt l 0 = 45 then 1 else 0) := rfl
  have h45 := byte_eq45 (byteAt l 0)
  have hfr1 : from_ l ≤ 1 := by rw [hfr]; split <;> omega
  have hfrm : from_ l = 1 ↔ ((byteAt l 0).toNat : Int) = 45 := by
    rw [← h45, hfr]
    split <;> simp_all
  clear h45 hfr
  refine AWp.loopA [5, 4] [15, 16, 17, 18, 21, 22, 23, 24, 26, 27, 25, 28, 29, 6, 7, 31, 32, 33, 34, 35, 36, 37, 30, 38, 39, 8, 9, 40, 41, 42, 43, 44, 45, 2, 3, 46, 19, 20] (fun p : Nat × Nat => [.int .i64 p.1, .int .i64 (-(p.2 : Int))]) (fun p s' => p.1 ≤ l.length ∧ s' = s ∧ p.2 ≤ 9223372036854775808 ∧ (p.1 < from_ l → p.2 = 0) ∧ nv (l.drop (max p.1 (from_ l))) p.2 = worthN l) (fun p => l.length - p.1) ((0, 0)) (by kernel_rfl) (by (repeat' (first | refine cons_eq ?_ ?_ | refine int64_of ?_ ?_ ?_ | rfl | omega))) ?_ ?_
  · exact ⟨by omega, rfl, by omega, fun _ => rfl, by unfold worthN; rw [Nat.max_eq_right (by omega)]⟩
  · rintro y ⟨i, a⟩ s1 ⟨hi, rfl, ha, hz, hv⟩
    dsimp only at hi ha hz hv
    have hfa : Fits (-(a : Int)) := by unfold Fits; omega
    have hdig := fun (h1 : from_ l ≤ i) (h2 : i < l.length) => form_digit hform h1 h2
    have hfd : Fits (IntKind.i64.wrap (IntKind.i64.wrap ((byteAt l i).toNat : Int) - 48)) := by
      have := u8_lt (byteAt l i)
      rw [show IntKind.i64.wrap ((byteAt l i).toNat : Int) = ((byteAt l i).toNat : Int) from i64_of rfl (by omega) (by omega), show IntKind.i64.wrap (((byteAt l i).toNat : Int) - 48) = ((byteAt l i).toNat : Int) - 48 from i64_of rfl (by omega) (by omega)]
      unfold Fits; omega
    have hwd : from_ l ≤ i → i < l.length → IntKind.i64.wrap (IntKind.i64.wrap ((byteAt l i).toNat : Int) - 48) = (((byteAt l i).toNat - 48 : Nat) : Int) := fun h1 h2 => by
      have := hdig h1 h2
      rw [show IntKind.i64.wrap ((byteAt l i).toNat : Int) = ((byteAt l i).toNat : Int) from i64_of rfl (by omega) (by omega), show IntKind.i64.wrap (((byteAt l i).toNat : Int) - 48) = ((byteAt l i).toNat : Int) - 48 from i64_of rfl (by omega) (by omega)]
      omega
    have hge : i < l.length → ¬ ((byteAt l i).toNat : Int) = 45 → from_ l ≤ i := fun h2 h3 => by
      refine Classical.byContradiction fun h4 => ?_
      have e : i = 0 := by omega
      subst e
      exact h3 (hfrm.1 (by omega))
    have hstep : from_ l ≤ i → i < l.length → nv (l.drop (i + 1)) (a * 10 + ((byteAt l i).toNat - 48)) = worthN l := fun h1 h2 => by
      rw [← nv_drop h2, ← hv, Nat.max_eq_left h1]
    have hend : ¬ i < l.length → a = worthN l := fun h2 => by
      rw [← hv, drop_end (by omega)]
      rfl
    conv => whnf
    repeat' (first
      | (exfalso; omega)
      | (refine ⟨Sub.refl _, ?_⟩)
      | (refine brA_split (fun h => ?_) (fun h => ?_) <;> (try rw [h]) <;> (try simp only [Bool.false_eq_true, Bool.true_eq_false, ↓reduceIte, decide_eq_true_eq, decide_eq_false_iff_not, Bool.not_eq_true', Bool.not_eq_false'] at h) <;> (conv => whnf))
      | (refine ACalls.pure' ?_ (refMul_ok _ _ hfa f10); rintro _ rfl; conv => whnf)
      | (refine DCall.pure ?_ (refMul_ok _ _ hfa f10); conv => whnf)
      | (refine ACalls.pure' ?_ (refSub_ok _ _ (fits_val _) hfd); rintro _ rfl; conv => whnf)
      | (refine DCall.pure ?_ (refSub_ok _ _ (fits_val _) hfd); conv => whnf)
      | (refine ACalls.pure' ?_ (refSub_ok _ _ fits0 hfa); rintro _ rfl; conv => whnf)
      | (refine DCall.pure ?_ (refSub_ok _ _ fits0 hfa); conv => whnf)
      | (refine getB_same ?_; conv => whnf)
      | (refine AWp.any (by kernel_rfl) (by kernel_rfl) (by kernel_rfl) ?_; conv => whnf)
      | (apply And.intro; (focus (first | omega | rfl | decide | exact Nat.le_of_ble_eq_true rfl | ((repeat' (first | exact all_nil | refine all_cons ?_ ?_ | rfl | fail)); done) | (simp [-List.length_flatMap]; done) | (simp [-List.length_flatMap]; omega) | fail)); conv => whnf)
      | fail)
    all_goals try simp only [Int.toNat_natCast] at *
    · have h9 : i < from_ l := Classical.byContradiction fun h4 => by
        have := hdig (by omega) (by omega)
        omega
      refine ⟨(i + 1, a), by (repeat' (first | refine cons_eq ?_ ?_ | refine int64_of ?_ ?_ ?_ | rfl | omega)), by (repeat (first | exact Same.refl _ _ | refine Same.upd rfl ?_ | refine Same.updL rfl ?_ | refine Same.havoc rfl ?_)), ⟨by dsimp only; omega, (by first | rfl | trivial), ha, fun _ => hz h9, ?_⟩, by dsimp only; omega⟩
      dsimp only
      rw [show max (i + 1) (from_ l) = max i (from_ l) by omega]
      exact hv
    · have h1 := hge (by omega) (by assumption)
      have h2 := nv_ge (l.drop (i + 1)) (a * 10 + ((byteAt l i).toNat - 48))
      rw [hstep h1 (by omega)] at h2
      have h3 := fine_false h
      obtain ⟨e1, e2⟩ := num_over hform (by omega)
      rw [e1, e2]
      rfl
    · have h1 := hge (by omega) (by assumption)
      have h2 := nv_ge (l.drop (i + 1)) (a * 10 + ((byteAt l i).toNat - 48))
      rw [hstep h1 (by omega)] at h2
      rw [hwd h1 (by omega)] at h
      rw [(fine_val (x := -(a : Int) * 10) (by assumption)).1] at h
      have h3 := fine_false h
      obtain ⟨e1, e2⟩ := num_over hform (by omega)
      rw [e1, e2]
      rfl
    · have h1 := hge (by omega) (by assumption)
      have hw := hwd h1 (by omega)
      rw [hw, (fine_val (x := -(a : Int) * 10) (by assumption)).1] at h
      obtain ⟨v1, v2, v3⟩ := fine_val h
      unfold Fits at v3
      refine ⟨(i + 1, a * 10 + ((byteAt l i).toNat - 48)), (by
        refine cons_eq (int64_of ?_ ?_ ?_) (cons_eq ?_ rfl)
        · dsimp only; omega
        · dsimp only; omega
        · dsimp only; omega
        · refine congrArg (AV.int .i64) ?_
          rw [hw, (fine_val (x := -(a : Int) * 10) (by assumption)).1, v1]
          dsimp only
          omega), by (repeat (first | exact Same.refl _ _ | refine Same.upd rfl ?_ | refine Same.updL rfl ?_ | refine Same.havoc rfl ?_)), ⟨by dsimp only; omega, (by first | rfl | trivial), by dsimp only; omega, fun h5 => by dsimp only at h5; omega, ?_⟩, by dsimp only; omega⟩
      dsimp only
      rw [Nat.max_eq_left (by omega)]
      exact hstep h1 (by omega)
    · have h0 : ((byteAt l 0).toNat : Int) = 45 := h
      have e := hend (by omega)
      obtain ⟨e1, e2⟩ := num_form hform
      rw [if_pos (hfrm.2 h0), if_pos (by omega)] at e1 e2
      rw [e1, e2, e]
      rfl
    · have h0 : ¬ ((byteAt l 0).toNat : Int) = 45 := by assumption
      have e := hend (by omega)
      have h3 := fine_false h
      obtain ⟨e1, e2⟩ := num_form hform
      rw [if_neg (fun h => h0 (hfrm.1 h)), if_neg (by omega)] at e1 e2
      rw [e1, e2]
      rfl
    · have h0 : ¬ ((byteAt l 0).toNat : Int) = 45 := by assumption
      have e := hend (by omega)
      obtain ⟨v1, v2, v3⟩ := fine_val h
      unfold Fits at v3
      obtain ⟨e1, e2⟩ := num_form hform
      rw [if_neg (fun h => h0 (hfrm.1 h)), if_pos (by omega)] at e1 e2
      rw [e1, e2, v1, ← e]
      refine congrArg (fun x => AV.tuple [.int .i64 x, .int .i64 0]) ?_
      omega
end Go.Proofs.YtcgobgnbpeageaaDoor.Nu
