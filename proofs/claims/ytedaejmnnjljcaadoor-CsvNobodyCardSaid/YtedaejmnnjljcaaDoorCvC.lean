/- Chapter 6: rows of fields, by the document. -/
import Derived.Test.YtedaejmnnjljcaaDoorCvB
namespace Go.Proofs.YtedaejmnnjljcaaDoor.Cv
open Go Go.Ab Go.RowKit
variable {Γ : Nat → AV}
attribute [local irreducible] APure Sto.set Sto.grow
set_option maxRecDepth 10000
set_option maxHeartbeats 1000000

theorem refPlain_ok (c : UInt8) : APure Tryd.prog Γ 34 [.int .u8 c.toNat] fun v => v = .bool (bareB c) := by
  refine APure.of_awp Tryd.func34 rfl (Nat.le_of_ble_eq_true (by kernel_rfl)) (by kernel_rfl) ?_
  intro s
  conv => whnf
  repeat' (first
    | (refine ⟨Sub.refl _, ?_⟩)
    | (refine brA_split (fun h => ?_) (fun h => ?_) <;> (try rw [h]) <;> (try simp only [Bool.false_eq_true, Bool.true_eq_false, ↓reduceIte, decide_eq_true_eq, decide_eq_false_iff_not, Bool.not_eq_true', Bool.not_eq_false'] at h) <;> (conv => whnf))
    | (refine getB_same ?_; conv => whnf)
    | (refine AWp.any (by kernel_rfl) (by kernel_rfl) (by kernel_rfl) ?_; conv => whnf)
    | (apply And.intro; (focus (first | omega | rfl | decide | exact Nat.le_of_ble_eq_true rfl | ((repeat' (first | exact all_nil | refine all_cons ?_ ?_ | rfl | fail)); done) | (simp [-List.length_flatMap]; done) | (simp [-List.length_flatMap]; omega) | fail)); conv => whnf)
    | fail)
  all_goals refine bool_eq ?_
  all_goals unfold bareB
  all_goals simp [*]
def crlf (l : List UInt8) : Bool := decide ([13, 10].length ≤ l.length) && decide (l.take [13, 10].length = [13, 10])
theorem crlf_iff {l : List UInt8} : crlf l = true ↔ 2 ≤ l.length ∧ byteAt l 0 = 13 ∧ byteAt l 1 = 10 := by
  unfold crlf
  rcases l with _ | ⟨a, _ | ⟨b, r⟩⟩ <;> simp [byteAt]
def endsF (l : List UInt8) : Int := if l = [] then 2 else if crlf l = true then 1 else 0
theorem b13 {b : UInt8} : (b.toNat : Int) = 13 ↔ b = 13 := byteAt_lit (n := 13) (by decide)
theorem b10 {b : UInt8} : (b.toNat : Int) = 10 ↔ b = 10 := byteAt_lit (n := 10) (by decide)
theorem refEnds_ok (l : List UInt8) (hl : l.length ≤ 1048576) : APure Tryd.prog Γ 27 [.str l] fun v => v = .int .i64 (endsF l) := by
  have h1 := crlf_iff (l := l)
  have h2 := b13 (b := byteAt l 0)
  have h3 := b10 (b := byteAt l 1)
  have h0 : l = [] ↔ l.length = 0 := List.length_eq_zero_iff.symm
  refine APure.of_awp Tryd.func27 rfl (Nat.le_of_ble_eq_true (by kernel_rfl)) (by kernel_rfl) ?_
  intro s
  conv => whnf
  repeat' (first
    | (exfalso; omega)
    | (refine ⟨Sub.refl _, ?_⟩)
    | (refine brA_split (fun h => ?_) (fun h => ?_) <;> (try rw [h]) <;> (try simp only [Bool.false_eq_true, Bool.true_eq_false, ↓reduceIte, decide_eq_true_eq, decide_eq_false_iff_not, Bool.not_eq_true', Bool.not_eq_false'] at h) <;> (conv => whnf))
    | (refine getB_same ?_; conv => whnf)
    | (refine AWp.any (by kernel_rfl) (by kernel_rfl) (by kernel_rfl) ?_; conv => whnf)
    | (apply And.intro; (focus (first | omega | rfl | decide | exact Nat.le_of_ble_eq_true rfl | ((repeat' (first | exact all_nil | refine all_cons ?_ ?_ | rfl | fail)); done) | (simp [-List.length_flatMap]; done) | (simp [-List.length_flatMap]; omega) | fail)); conv => whnf)
    | fail)
  all_goals (try simp only [Int.toNat_ofNat, Int.toNat_zero, Int.reduceToNat] at *)
  all_goals refine congrArg (AV.int IntKind.i64) ?_
  all_goals (unfold endsF; grind)
def refFieldA (x : Option (List UInt8 × Nat)) : AV :=
  match x with
  | some (f, n) => .tuple [.str f, .int .i64 n, .int .i64 0]
  | none => .tuple [.str [], .int .i64 0, .int .i64 17]
theorem refField_ok (l : List UInt8) (hl : l.length ≤ 1048576) : APure Tryd.prog Γ 26 [.str l] fun v => v = refFieldA (fieldF l) := by
  have hb0 := b34 (b := byteAt l 0)
  have h0 : l = [] ↔ l.length = 0 := List.length_eq_zero_iff.symm
  by_cases hs : startsQ l = true
  · obtain ⟨r, rfl⟩ := startsQ_iff.1 hs
    rw [field_quote]
    generalize hlr : (34 :: r : List UInt8) = l at *
    have hr : r = l.drop 1 := by rw [← hlr]; rfl
    have hne : l ≠ [] := by rw [← hlr]; simp
    have h34 : byteAt l 0 = 34 := by rw [← hlr]; rfl
    have hpos : 0 < l.length := List.length_pos_iff.2 hne
    rw [hr]
    have h34' := hb0.2 h34
    refine APure.of_awp Tryd.func26 rfl (Nat.le_of_ble_eq_true (by kernel_rfl)) (by kernel_rfl) ?_
    intro s
    conv => whnf
    repeat' (first
      | (exfalso; omega)
      | (refine ⟨Sub.refl _, ?_⟩)
      | (refine brA_split (fun h => ?_) (fun h => ?_) <;> (try rw [h]) <;> (try simp only [Bool.false_eq_true, Bool.true_eq_false, ↓reduceIte, decide_eq_true_eq, decide_eq_false_iff_not, Bool.not_eq_true', Bool.not_eq_false'] at h) <;> (conv => whnf))
      | (refine getB_same ?_; conv => whnf)
      | (refine AWp.any (by kernel_rfl) (by kernel_rfl) (by kernel_rfl) ?_; conv => whnf)
      | (apply And.intro; (focus (first | omega | rfl | decide | exact Nat.le_of_ble_eq_true rfl | ((repeat' (first | exact all_nil | refine all_cons ?_ ?_ | rfl | fail)); done) | (simp [-List.length_flatMap]; done) | (simp [-List.length_flatMap]; omega) | fail)); conv => whnf)
      | fail)
    all_goals (try (exfalso; first | omega | (simp only [Int.toNat_zero] at *; omega) | (simp at h; omega)))
    refine AWp.loopA [5, 7] [47, 48, 49, 50, 51, 52, 53, 54, 55, 56, 57, 58, 59, 60, 61, 62, 63, 64, 65, 66, 67, 68, 69, 70, 71, 72, 73, 74, 75, 76, 77, 78, 79, 80, 81, 82, 83, 2, 3, 4] (fun x : List UInt8 × Nat × Nat => [.slice x.2.2 (bytesA x.1), .int .i64 x.2.1]) (fun x s' => (1 ≤ x.2.1 ∧ x.2.1 ≤ l.length) ∧ x.1.length ≤ x.2.1 ∧ Own s s' x.1.isEmpty x.2.2 5 1 ∧ qtF (l.drop 1) = (qtF (l.drop x.2.1)).map fun y => (x.1 ++ y.1, x.2.1 - 1 + y.2)) (fun x => l.length - x.2.1) (([], 1, 1)) (by kernel_rfl) (by (repeat' (first | refine cons_eq ?_ ?_ | refine int64_of ?_ ?_ ?_ | rfl | omega))) ?_ ?_
    · exact ⟨⟨by simp, by simp only; omega⟩, by simp, Own.nil _ _ _, by simp⟩
    · rintro x ⟨o, i, t⟩ s' ⟨⟨h1, h2⟩, h3, h4, h5⟩
      simp only at h1 h2 h3 h4 h5
      have hd := fun h : i < l.length => drop_byte h
      have hd2 := fun h : i + 1 < l.length => drop_byte h
      have hb := b34 (b := byteAt l i)
      have hb2 := b34 (b := byteAt l (i + 1))
      have hw : IntKind.i64.wrap ((i : Int) + 1) = ((i + 1 : Nat) : Int) := i64_of (by omega) (by omega) (by omega)
      have hw2 : IntKind.i64.wrap ((i : Int) + 2) = ((i + 2 : Nat) : Int) := i64_of (by omega) (by omega) (by omega)
      show awp _ _ _ _ _ (updL _ _ [.slice t (bytesA o), .int .i64 (i : Int)]) _
      conv => whnf
      by_cases hlt : i < l.length
      · have hd := hd hlt
        repeat' (first
          | (exfalso; omega)
          | (refine ⟨Sub.refl _, ?_⟩)
          | (refine brA_split (fun h => ?_) (fun h => ?_) <;> (try rw [h]) <;> (try simp only [Bool.false_eq_true, Bool.true_eq_false, ↓reduceIte, decide_eq_true_eq, decide_eq_false_iff_not, Bool.not_eq_true', Bool.not_eq_false'] at h) <;> (conv => whnf))
          | (rw [hw]; conv => whnf)
          | (refine getB_same ?_; conv => whnf)
          | (refine AWp.any (by kernel_rfl) (by kernel_rfl) (by kernel_rfl) ?_; conv => whnf)
          | (apply And.intro; (focus (first | omega | rfl | decide | exact Nat.le_of_ble_eq_true rfl | ((repeat' (first | exact all_nil | refine all_cons ?_ ?_ | rfl | fail)); done) | (simp [-List.length_flatMap]; done) | (simp [-List.length_flatMap]; omega) | fail)); conv => whnf)
          | fail)
        all_goals (try simp only [Int.toNat_natCast] at *)
        · refine ⟨h4.may, bytesA_all o, all_cons ⟨rfl, rfl⟩ all_nil, ?_, ?_⟩
          · show ((bytesA o).length + 1) * (1 + 1) ≤ _
            rw [bytesA_len]; omega
          intro t' k1 k2
          have k3 := h4.grow k1 k2
          conv => whnf
          repeat' (first
            | (refine ⟨Sub.refl _, ?_⟩)
            | (refine brA_split (fun h => ?_) (fun h => ?_) <;> (try rw [h]) <;> (try simp only [Bool.false_eq_true, Bool.true_eq_false, ↓reduceIte, decide_eq_true_eq, decide_eq_false_iff_not, Bool.not_eq_true', Bool.not_eq_false'] at h) <;> (conv => whnf))
            | (refine getB_same ?_; conv => whnf)
            | (refine AWp.any (by kernel_rfl) (by kernel_rfl) (by kernel_rfl) ?_; conv => whnf)
            | (apply And.intro; (focus (first | omega | rfl | decide | exact Nat.le_of_ble_eq_true rfl | ((repeat' (first | exact all_nil | refine all_cons ?_ ?_ | rfl | fail)); done) | (simp [-List.length_flatMap]; done) | (simp [-List.length_flatMap]; omega) | fail)); conv => whnf)
            | fail)
          refine ⟨(o ++ [byteAt l i], i + 1, t'), ?_, by (repeat (first | exact Same.refl _ _ | refine Same.upd rfl ?_ | refine Same.updL rfl ?_ | refine Same.havoc rfl ?_)), ⟨⟨by simp only; omega, by simp only; omega⟩, by simp; omega, ?_, ?_⟩, by simp only; omega⟩
          · exact cons_eq (by rw [bytesA_append]; rfl) (cons_eq (by show AV.int .i64 (IntKind.i64.wrap ((i : Int) + 1)) = .int .i64 ((i + 1 : Nat) : Int); rw [hw]) rfl)
          · show Own _ _ (o ++ [byteAt l i]).isEmpty _ _ _
            rw [show (o ++ [byteAt l i]).isEmpty = (o.isEmpty && [[AV.int IntKind.u8 ((byteAt l i).toNat : Int)]].isEmpty) by cases o <;> rfl]
            exact k3
          · rw [h5, hd, qt_other (fun hc => h (hb.2 hc)), Option.map_map]
            congr 1
            funext y
            simp
            omega
        · have h7 := hb.1 (by assumption)
          have h8 := hb2.1 h
          have hlt2 : i + 1 < l.length := by omega
          refine ⟨h4.may, bytesA_all o, all_cons ⟨rfl, rfl⟩ all_nil, ?_, ?_⟩
          · show ((bytesA o).length + 1) * (1 + 1) ≤ _
            rw [bytesA_len]; omega
          intro t' k1 k2
          have k3 := h4.grow k1 k2
          conv => whnf
          repeat' (first
            | (refine ⟨Sub.refl _, ?_⟩)
            | (refine brA_split (fun h => ?_) (fun h => ?_) <;> (try rw [h]) <;> (try simp only [Bool.false_eq_true, Bool.true_eq_false, ↓reduceIte, decide_eq_true_eq, decide_eq_false_iff_not, Bool.not_eq_true', Bool.not_eq_false'] at h) <;> (conv => whnf))
            | (refine getB_same ?_; conv => whnf)
            | (refine AWp.any (by kernel_rfl) (by kernel_rfl) (by kernel_rfl) ?_; conv => whnf)
            | (apply And.intro; (focus (first | omega | rfl | decide | exact Nat.le_of_ble_eq_true rfl | ((repeat' (first | exact all_nil | refine all_cons ?_ ?_ | rfl | fail)); done) | (simp [-List.length_flatMap]; done) | (simp [-List.length_flatMap]; omega) | fail)); conv => whnf)
            | fail)
          refine ⟨(o ++ [34], i + 2, t'), ?_, by (repeat (first | exact Same.refl _ _ | refine Same.upd rfl ?_ | refine Same.updL rfl ?_ | refine Same.havoc rfl ?_)), ⟨⟨by simp only; omega, by simp only; omega⟩, by simp; omega, ?_, ?_⟩, by simp only; omega⟩
          · exact cons_eq (by rw [bytesA_append]; rfl) (cons_eq (by show AV.int .i64 (IntKind.i64.wrap ((i : Int) + 2)) = .int .i64 ((i + 2 : Nat) : Int); rw [hw2]) rfl)
          · show Own _ _ (o ++ [34]).isEmpty _ _ _
            rw [show (o ++ [(34 : UInt8)]).isEmpty = (o.isEmpty && [[AV.int IntKind.u8 34]].isEmpty) by cases o <;> rfl]
            exact k3
          · rw [h5, hd, h7, hd2 hlt2, h8, qt_two, Option.map_map]
            congr 1
            funext y
            simp
            omega
        all_goals (
          have h7 := hb.1 (by assumption)
          have h9 : qtF (l.drop i) = some ([], 1) := by
            rw [hd, h7, qt_end]
            intro r hr
            by_cases hlt2 : i + 1 < l.length
            · rw [hd2 hlt2] at hr
              injection hr with hr _
              have := hb2.2 hr
              omega
            · rw [drop_end hlt2] at hr
              cases hr
          rw [h9] at h5
          rw [unB_bytesA]
          conv => whnf
          repeat' (first
            | (refine ⟨Sub.refl _, ?_⟩)
            | (refine brA_split (fun h => ?_) (fun h => ?_) <;> (try rw [h]) <;> (try simp only [Bool.false_eq_true, Bool.true_eq_false, ↓reduceIte, decide_eq_true_eq, decide_eq_false_iff_not, Bool.not_eq_true', Bool.not_eq_false'] at h) <;> (conv => whnf))
            | (rw [hw]; conv => whnf)
            | (refine getB_same ?_; conv => whnf)
            | (refine AWp.any (by kernel_rfl) (by kernel_rfl) (by kernel_rfl) ?_; conv => whnf)
            | (apply And.intro; (focus (first | omega | rfl | decide | exact Nat.le_of_ble_eq_true rfl | ((repeat' (first | exact all_nil | refine all_cons ?_ ?_ | rfl | fail)); done) | (simp [-List.length_flatMap]; done) | (simp [-List.length_flatMap]; omega) | fail)); conv => whnf)
            | fail)
          refine ⟨h4.sub, ?_⟩
          rw [h5]
          simp only [Option.map_some, refFieldA, List.append_nil]
          exact congrArg (fun x => AV.tuple [.str o, .int .i64 x, .int .i64 0]) (by omega))
      · repeat' (first
          | (exfalso; omega)
          | (refine ⟨Sub.refl _, ?_⟩)
          | (refine brA_split (fun h => ?_) (fun h => ?_) <;> (try rw [h]) <;> (try simp only [Bool.false_eq_true, Bool.true_eq_false, ↓reduceIte, decide_eq_true_eq, decide_eq_false_iff_not, Bool.not_eq_true', Bool.not_eq_false'] at h) <;> (conv => whnf))
          | (refine getB_same ?_; conv => whnf)
          | (refine AWp.any (by kernel_rfl) (by kernel_rfl) (by kernel_rfl) ?_; conv => whnf)
          | (apply And.intro; (focus (first | omega | rfl | decide | exact Nat.le_of_ble_eq_true rfl | ((repeat' (first | exact all_nil | refine all_cons ?_ ?_ | rfl | fail)); done) | (simp [-List.length_flatMap]; done) | (simp [-List.length_flatMap]; omega) | fail)); conv => whnf)
          | fail)
        refine ⟨h4.sub, ?_⟩
        rw [h5, drop_end hlt]
        rfl
  · have hs' : startsQ l = false := by simpa using hs
    have hq := not_startsQ hs'
    have h34 : l = [] ∨ byteAt l 0 ≠ 34 := by
      cases l with
      | nil => exact .inl rfl
      | cons c r => exact .inr fun hc => hq r (congrArg (· :: r) hc)
    refine APure.of_awp Tryd.func26 rfl (Nat.le_of_ble_eq_true (by kernel_rfl)) (by kernel_rfl) ?_
    intro s
    conv => whnf
    repeat' (first
      | (exfalso; omega)
      | (refine ⟨Sub.refl _, ?_⟩)
      | (refine brA_split (fun h => ?_) (fun h => ?_) <;> (try rw [h]) <;> (try simp only [Bool.false_eq_true, Bool.true_eq_false, ↓reduceIte, decide_eq_true_eq, decide_eq_false_iff_not, Bool.not_eq_true', Bool.not_eq_false'] at h) <;> (conv => whnf))
      | (refine getB_same ?_; conv => whnf)
      | (refine AWp.any (by kernel_rfl) (by kernel_rfl) (by kernel_rfl) ?_; conv => whnf)
      | (apply And.intro; (focus (first | omega | rfl | decide | exact Nat.le_of_ble_eq_true rfl | ((repeat' (first | exact all_nil | refine all_cons ?_ ?_ | rfl | fail)); done) | (simp [-List.length_flatMap]; done) | (simp [-List.length_flatMap]; omega) | fail)); conv => whnf)
      | fail)
    rotate_right 1
    · exfalso
      rw [Int.toNat_zero] at h
      rcases h34 with h34 | h34
      · exact absurd (h0.1 h34) (by omega)
      · exact h34 (hb0.1 h)
    all_goals (
      clear h
      refine AWp.loopA [5, 6] [16, 17, 18, 19, 20, 21, 22, 23, 24, 25, 26, 27, 28, 29, 30, 31, 32, 33] (fun x : Nat × Nat => [.slice x.2 (bytesA (l.take x.1)), .int .i64 x.1]) (fun x s' => x.1 ≤ l.length ∧ Own s s' (l.take x.1).isEmpty x.2 5 1 ∧ bareN l = x.1 + bareN (l.drop x.1)) (fun x => l.length - x.1) ((0, 1)) (by kernel_rfl) (by (repeat' (first | refine cons_eq ?_ ?_ | refine int64_of ?_ ?_ ?_ | rfl | omega))) ?_ ?_
      · exact ⟨by simp, Own.nil _ _ _, by simp⟩
      · rintro x ⟨i, t⟩ s' ⟨h1, h4, h2⟩
        simp only at h1 h2 h4
        show awp _ _ _ _ _ (updL _ _ [.slice t (bytesA (l.take i)), .int .i64 (i : Int)]) _
        conv => whnf
        have hb := b34 (b := byteAt l i)
        have hw : IntKind.i64.wrap ((i : Int) + 1) = ((i + 1 : Nat) : Int) := i64_of (by omega) (by omega) (by omega)
        by_cases hlt : i < l.length
        · repeat' (first
            | (exfalso; omega)
            | (refine ⟨Sub.refl _, ?_⟩)
            | (refine brA_split (fun h => ?_) (fun h => ?_) <;> (try rw [h]) <;> (try simp only [Bool.false_eq_true, Bool.true_eq_false, ↓reduceIte, decide_eq_true_eq, decide_eq_false_iff_not, Bool.not_eq_true', Bool.not_eq_false'] at h) <;> (conv => whnf))
            | (refine ACalls.pure' ?_ (refPlain_ok _); rintro _ rfl; conv => whnf)
            | (refine DCall.pure ?_ (refPlain_ok _); conv => whnf)
            | (refine getB_same ?_; conv => whnf)
            | (refine AWp.any (by kernel_rfl) (by kernel_rfl) (by kernel_rfl) ?_; conv => whnf)
            | (apply And.intro; (focus (first | omega | rfl | decide | exact Nat.le_of_ble_eq_true rfl | ((repeat' (first | exact all_nil | refine all_cons ?_ ?_ | rfl | fail)); done) | (simp [-List.length_flatMap]; done) | (simp [-List.length_flatMap]; omega) | fail)); conv => whnf)
            | fail)
          all_goals (try simp only [Int.toNat_natCast] at *)
          · refine ⟨h4.may, bytesA_all _, all_cons ⟨rfl, rfl⟩ all_nil, ?_, ?_⟩
            · show ((bytesA (l.take i)).length + 1) * (1 + 1) ≤ _
              rw [bytesA_len, List.length_take]; omega
            intro t' k1 k2
            have k3 := h4.grow k1 k2
            conv => whnf
            repeat' (first
              | (refine ⟨Sub.refl _, ?_⟩)
              | (refine brA_split (fun h => ?_) (fun h => ?_) <;> (try rw [h]) <;> (try simp only [Bool.false_eq_true, Bool.true_eq_false, ↓reduceIte, decide_eq_true_eq, decide_eq_false_iff_not, Bool.not_eq_true', Bool.not_eq_false'] at h) <;> (conv => whnf))
              | (refine getB_same ?_; conv => whnf)
              | (refine AWp.any (by kernel_rfl) (by kernel_rfl) (by kernel_rfl) ?_; conv => whnf)
              | (apply And.intro; (focus (first | omega | rfl | decide | exact Nat.le_of_ble_eq_true rfl | ((repeat' (first | exact all_nil | refine all_cons ?_ ?_ | rfl | fail)); done) | (simp [-List.length_flatMap]; done) | (simp [-List.length_flatMap]; omega) | fail)); conv => whnf)
              | fail)
            refine ⟨(i + 1, t'), ?_, by (repeat (first | exact Same.refl _ _ | refine Same.upd rfl ?_ | refine Same.updL rfl ?_ | refine Same.havoc rfl ?_)), ⟨by simp only; omega, ?_, ?_⟩, by simp only; omega⟩
            · exact cons_eq (by show AV.slice t' _ = .slice t' (bytesA (l.take (i + 1))); rw [take_byte hlt, bytesA_append]; rfl) (cons_eq (by show AV.int .i64 (IntKind.i64.wrap ((i : Int) + 1)) = .int .i64 ((i + 1 : Nat) : Int); rw [hw]) rfl)
            · show Own _ _ (l.take (i + 1)).isEmpty _ _ _
              rw [take_byte hlt, show (l.take i ++ [byteAt l i]).isEmpty = ((l.take i).isEmpty && [[AV.int IntKind.u8 ((byteAt l i).toNat : Int)]].isEmpty) by cases l.take i <;> rfl]
              exact k3
            · show bareN l = (i + 1) + bareN (l.drop (i + 1))
              rw [h2, bareN_at hlt h]
              omega
          · rw [bareN_stop hlt (by assumption)] at h2
            refine ⟨h4.sub, ?_⟩
            rw [field_else hq, h2, Nat.add_zero, if_pos ⟨by rw [drop_byte hlt]; simp, hb.1 h⟩]
            rfl
          · rw [bareN_stop hlt (by assumption)] at h2
            rw [unB_bytesA]
            conv => whnf
            repeat' (first
              | (refine ⟨Sub.refl _, ?_⟩)
              | (refine brA_split (fun h => ?_) (fun h => ?_) <;> (try rw [h]) <;> (try simp only [Bool.false_eq_true, Bool.true_eq_false, ↓reduceIte, decide_eq_true_eq, decide_eq_false_iff_not, Bool.not_eq_true', Bool.not_eq_false'] at h) <;> (conv => whnf))
              | (refine getB_same ?_; conv => whnf)
              | (refine AWp.any (by kernel_rfl) (by kernel_rfl) (by kernel_rfl) ?_; conv => whnf)
              | (apply And.intro; (focus (first | omega | rfl | decide | exact Nat.le_of_ble_eq_true rfl | ((repeat' (first | exact all_nil | refine all_cons ?_ ?_ | rfl | fail)); done) | (simp [-List.length_flatMap]; done) | (simp [-List.length_flatMap]; omega) | fail)); conv => whnf)
              | fail)
            refine ⟨h4.sub, ?_⟩
            rw [field_else hq, h2, Nat.add_zero, if_neg (fun hh => h (hb.2 hh.2))]
            rfl
        · repeat' (first
            | (exfalso; omega)
            | (refine ⟨Sub.refl _, ?_⟩)
            | (refine brA_split (fun h => ?_) (fun h => ?_) <;> (try rw [h]) <;> (try simp only [Bool.false_eq_true, Bool.true_eq_false, ↓reduceIte, decide_eq_true_eq, decide_eq_false_iff_not, Bool.not_eq_true', Bool.not_eq_false'] at h) <;> (conv => whnf))
            | (refine getB_same ?_; conv => whnf)
            | (refine AWp.any (by kernel_rfl) (by kernel_rfl) (by kernel_rfl) ?_; conv => whnf)
            | (apply And.intro; (focus (first | omega | rfl | decide | exact Nat.le_of_ble_eq_true rfl | ((repeat' (first | exact all_nil | refine all_cons ?_ ?_ | rfl | fail)); done) | (simp [-List.length_flatMap]; done) | (simp [-List.length_flatMap]; omega) | fail)); conv => whnf)
            | fail)
          rw [drop_end hlt] at h2
          rw [unB_bytesA]
          conv => whnf
          repeat' (first
            | (refine ⟨Sub.refl _, ?_⟩)
            | (refine brA_split (fun h => ?_) (fun h => ?_) <;> (try rw [h]) <;> (try simp only [Bool.false_eq_true, Bool.true_eq_false, ↓reduceIte, decide_eq_true_eq, decide_eq_false_iff_not, Bool.not_eq_true', Bool.not_eq_false'] at h) <;> (conv => whnf))
            | (refine getB_same ?_; conv => whnf)
            | (refine AWp.any (by kernel_rfl) (by kernel_rfl) (by kernel_rfl) ?_; conv => whnf)
            | (apply And.intro; (focus (first | omega | rfl | decide | exact Nat.le_of_ble_eq_true rfl | ((repeat' (first | exact all_nil | refine all_cons ?_ ?_ | rfl | fail)); done) | (simp [-List.length_flatMap]; done) | (simp [-List.length_flatMap]; omega) | fail)); conv => whnf)
            | fail)
          refine ⟨h4.sub, ?_⟩
          rw [field_else hq, h2, if_neg (by rw [show bareN [] = 0 from rfl, Nat.add_zero, drop_end hlt]; simp)]
          rfl)
theorem chk_long {f r : List UInt8} {q : Bool} (h : (4096 : Int) < f.length) : chkF f r q = 3 := by unfold chkF; rw [if_pos h]
theorem chk_fine {f r : List UInt8} {q : Bool} (h : ¬ (4096 : Int) < f.length) (h2 : r = [] ∨ byteAt r 0 = 44 ∨ crlf r = true) : chkF f r q = 0 := by
  unfold chkF
  rw [if_neg h, if_pos]
  rcases h2 with h2 | h2 | h2
  · exact .inl h2
  · exact .inr (.inl (b44.2 h2))
  · exact .inr (.inr h2)
theorem chk_bad {f r : List UInt8} {q : Bool} (h : ¬ (4096 : Int) < f.length) (h1 : r ≠ []) (h2 : byteAt r 0 ≠ 44) (h3 : crlf r = false) : chkF f r q = if q = true then 17 else 15 := by
  unfold chkF
  rw [if_neg h, if_neg]
  rintro (hh | hh | hh)
  · exact h1 hh
  · exact h2 (b44.1 hh)
  · exact absurd (show crlf r = true from hh) (by rw [h3]; decide)
def firstA : Except (Int × Int) (List (List UInt8) × Nat) → List AV
  | .error (e, c) => [.slice 0 [], .int .i64 e, .int .i64 c, .int .i64 0]
  | .ok (m, z) => [.slice 0 (strsA m), .int .i64 0, .int .i64 0, .int .i64 z]
theorem refFirst_ok (l : List UInt8) (hl : l.length ≤ 1048576) : APure Tryd.prog Γ 14 [.str l] fun v => v = .agg (firstA (row l)) := by
  refine APure.fgt fun s => ?_
  refine ACalls.of_awp Tryd.func14 rfl (Nat.le_of_ble_eq_true (by kernel_rfl)) (awp_ok _ (by kernel_rfl) ?_)
  conv => whnf
  intro b2 hb2
  conv => whnf
  intro b3 hb3
  have n_b2_b3 : b2 ≠ b3 := ne_of_none (by ((repeat (first | exact set_bx_same | assumption | refine (set_bx_other (by assumption)).trans ?_ | refine grow_bx.trans ?_)); done)) hb3
  have n_b3_b2 : b3 ≠ b2 := fun h => n_b2_b3 h.symm
  conv => whnf
  repeat' (first
    | (refine ⟨Sub.refl _, ?_⟩)
    | (refine brA_split (fun h => ?_) (fun h => ?_) <;> (try rw [h]) <;> (try simp only [Bool.false_eq_true, Bool.true_eq_false, ↓reduceIte, decide_eq_true_eq, decide_eq_false_iff_not, Bool.not_eq_true', Bool.not_eq_false'] at h) <;> (conv => whnf))
    | (refine getB_same ?_; conv => whnf)
    | (refine AWp.any (by kernel_rfl) (by kernel_rfl) (by kernel_rfl) ?_; conv => whnf)
    | (apply And.intro; (focus (first | omega | rfl | decide | exact Nat.le_of_ble_eq_true rfl | ((repeat' (first | exact all_nil | refine all_cons ?_ ?_ | rfl | fail)); done) | (simp [-List.length_flatMap]; done) | (simp [-List.length_flatMap]; omega) | fail)); conv => whnf)
    | fail)
  have g3 := (none_set hb3).2
  refine AWp.loopA [4] [11, 12, 13, 14, 5, 16, 17, 18, 19, 15, 20, 21, 22, 6, 7, 8, 23, 24, 25, 26, 27, 28, 29, 30, 31, 32, 33, 34, 35, 36, 37, 38, 39, 9, 40, 41, 42, 43, 44, 45, 46, 47, 48, 49, 50, 51, 52, 53, 54, 55, 56, 57, 58, 59, 60, 61, 62, 63, 64, 65, 66, 67, 68, 69, 70, 71, 72, 73, 74, 75, 76, 77, 78, 79, 80, 81, 82, 83, 84, 85, 10, 86, 87, 88, 89, 90, 91, 92, 93, 94, 95, 96, 97] (fun x : List (List UInt8) × Nat × Nat => [.int .i64 x.2.1]) (fun x s' => (x.2.1 ≤ l.length ∧ x.1.length ≤ x.2.1) ∧ s'.bx b2 = some (37, [.slice 1 [], .int .i64 0, .int .i64 0, .int .i64 0]) ∧ s'.bx b3 = some (37, [.slice x.2.2 (strsA x.1), .int .i64 0, .int .i64 0, .int .i64 0]) ∧ Own s s' x.1.isEmpty x.2.2 9 1 ∧ row l = addR x.1 x.2.1 (row (l.drop x.2.1))) (fun x => l.length - x.2.1) (([], 0, 1)) (by kernel_rfl) (by (repeat' (first | refine cons_eq ?_ ?_ | refine int64_of ?_ ?_ ?_ | rfl | omega))) ?_ ?_
  · exact ⟨⟨by simp, by simp⟩, (by ((repeat (first | exact set_bx_same | assumption | refine (set_bx_other (by assumption)).trans ?_ | refine grow_bx.trans ?_)); done)), (by ((repeat (first | exact set_bx_same | assumption | refine (set_bx_other (by assumption)).trans ?_ | refine grow_bx.trans ?_)); done)), Own.start (by (repeat (first | exact Sub.refl _ | refine Sub.set ?_ (by assumption) _ _))) _ _, by rw [List.drop_zero, addR_nil]⟩
  · rintro x ⟨o, i, t⟩ s' ⟨⟨h1, h2⟩, q2, q3, h3, h4⟩
    simp only at h1 h2 q3 h3 h4
    show awp _ _ _ _ _ (updL _ _ [.int .i64 (i : Int)]) _
    conv => whnf
    have hfi := refField_ok (Γ := Γ) (l.drop i) (by rw [List.length_drop]; omega)
    have hst := strsA_len o
    have hA : List.drop ((i : Int)).toNat (List.take l.length l) = l.drop i := by rw [Int.toNat_natCast, drop_take_all]
    rcases hff : fieldF (l.drop i) with _ | ⟨f, n⟩
    · rw [hff] at hfi
      repeat' (first
        | (exfalso; omega)
        | (refine ⟨Sub.refl _, ?_⟩)
        | (refine brA_split (fun h => ?_) (fun h => ?_) <;> (try rw [h]) <;> (try simp only [Bool.false_eq_true, Bool.true_eq_false, ↓reduceIte, decide_eq_true_eq, decide_eq_false_iff_not, Bool.not_eq_true', Bool.not_eq_false'] at h) <;> (conv => whnf))
        | (refine getB_of (by ((repeat (first | exact set_bx_same | assumption | refine (set_bx_other (by assumption)).trans ?_ | refine grow_bx.trans ?_)); done)) ?_; conv => whnf)
        | (rw [hA]; conv => whnf)
        | (refine ACalls.pure' ?_ (hfi); rintro _ rfl; conv => whnf)
        | (refine DCall.pure ?_ (hfi); conv => whnf)
        | (refine getB_same ?_; conv => whnf)
        | (refine AWp.any (by kernel_rfl) (by kernel_rfl) (by kernel_rfl) ?_; conv => whnf)
        | (apply And.intro; (focus (first | omega | rfl | decide | exact Nat.le_of_ble_eq_true rfl | ((repeat' (first | exact all_nil | refine all_cons ?_ ?_ | rfl | fail)); done) | (simp [-List.length_flatMap]; done) | (simp [-List.length_flatMap]; omega) | fail)); conv => whnf)
        | fail)
      all_goals (
        refine ⟨_, Sub.refl _, ?_, h3.sub.set hb2 _ _⟩
        show fg (.agg [.slice 1 [], .int .i64 17, .int .i64 (IntKind.i64.wrap (((strsA o).length : Int) + 1)), .int .i64 0]) = _
        rw [i64_of (b := (1 : Int) + o.length) (by omega) (by omega) (by omega), h4, row, rowF_none hff]
        simp only [fg, fgL, fgE, addR, firstA])
    · rw [hff] at hfi
      have hfb := field_bound hff
      rw [List.length_drop] at hfb
      have hw : IntKind.i64.wrap ((i : Int) + n) = ((i + n : Nat) : Int) := i64_of (by omega) (by omega) (by omega)
      have hw1 : IntKind.i64.wrap (((i + n : Nat) : Int) + 1) = ((i + n + 1 : Nat) : Int) := i64_of (by omega) (by omega) (by omega)
      have hw2 : IntKind.i64.wrap (((i + n : Nat) : Int) + 2) = ((i + n + 2 : Nat) : Int) := i64_of (by omega) (by omega) (by omega)
      have hB : List.drop (((i + n : Nat) : Int)).toNat (List.take l.length l) = (l.drop i).drop n := by rw [Int.toNat_natCast, drop_take_all, List.drop_drop]
      have hen := refEnds_ok (Γ := Γ) ((l.drop i).drop n) (by simp only [List.length_drop]; omega)
      have hq := b34 (b := byteAt l i)
      have hsq : startsQ (l.drop i) = true ↔ i < l.length ∧ byteAt l i = 34 := by
        rw [startsQ_iff]
        constructor
        · rintro ⟨r, hr⟩
          by_cases hlt : i < l.length
          · rw [drop_byte hlt] at hr
            injection hr with h1 h2
            exact ⟨hlt, h1⟩
          · rw [drop_end hlt] at hr; cases hr
        · rintro ⟨h1, h2⟩
          exact ⟨_, by rw [drop_byte h1, h2]⟩
      have hb := b44 (b := byteAt l (i + n))
      have hbd : byteAt ((l.drop i).drop n) 0 = byteAt l (i + n) := by rw [List.drop_drop, byteAt_drop, Nat.add_zero]
      have hr0 : (l.drop i).drop n = [] ↔ i + n = l.length := by rw [← List.length_eq_zero_iff]; simp only [List.length_drop]; omega
      by_cases hlong : (4096 : Int) < f.length
      · have hce : chkF f ((l.drop i).drop n) (startsQ (l.drop i)) = 3 := chk_long hlong
        repeat' (first
          | (exfalso; omega)
          | (refine ⟨Sub.refl _, ?_⟩)
          | (refine brA_split (fun h => ?_) (fun h => ?_) <;> (try rw [h]) <;> (try simp only [Bool.false_eq_true, Bool.true_eq_false, ↓reduceIte, decide_eq_true_eq, decide_eq_false_iff_not, Bool.not_eq_true', Bool.not_eq_false'] at h) <;> (conv => whnf))
          | (refine getB_of (by ((repeat (first | exact set_bx_same | assumption | refine (set_bx_other (by assumption)).trans ?_ | refine grow_bx.trans ?_)); done)) ?_; conv => whnf)
          | (rw [hA]; conv => whnf)
          | (refine ACalls.pure' ?_ (hfi); rintro _ rfl; conv => whnf)
          | (refine DCall.pure ?_ (hfi); conv => whnf)
          | (rw [hw]; conv => whnf)
          | (refine getB_same ?_; conv => whnf)
          | (refine AWp.any (by kernel_rfl) (by kernel_rfl) (by kernel_rfl) ?_; conv => whnf)
          | (apply And.intro; (focus (first | omega | rfl | decide | exact Nat.le_of_ble_eq_true rfl | ((repeat' (first | exact all_nil | refine all_cons ?_ ?_ | rfl | fail)); done) | (simp [-List.length_flatMap]; done) | (simp [-List.length_flatMap]; omega) | fail)); conv => whnf)
          | fail)
        all_goals (
          refine ⟨_, Sub.refl _, ?_, h3.sub.set hb2 _ _⟩
          show fg (.agg [.slice 1 [], .int .i64 3, .int .i64 (IntKind.i64.wrap (((strsA o).length : Int) + 1)), .int .i64 0]) = _
          rw [i64_of (b := (1 : Int) + o.length) (by omega) (by omega) (by omega), h4, row, rowF_bad hff (by rw [hce]; decide), hce]
          simp only [fg, fgL, fgE, addR, firstA])
      · by_cases hbad : (l.drop i).drop n ≠ [] ∧ byteAt l (i + n) ≠ 44 ∧ crlf ((l.drop i).drop n) = false
        · have hce := chk_bad (q := startsQ (l.drop i)) hlong hbad.1 (by rw [hbd]; exact hbad.2.1) hbad.2.2
          have he0 : endsF ((l.drop i).drop n) = 0 := by unfold endsF; rw [if_neg hbad.1, if_neg (by rw [hbad.2.2]; decide)]
          rw [he0] at hen
          have hne : i + n ≠ l.length := fun hh => hbad.1 (hr0.2 hh)
          have hnb : ¬ ((byteAt l (i + n)).toNat : Int) = 44 := fun hh => hbad.2.1 (hb.1 hh)
          have hnb' : ¬ ((byteAt l (((i + n : Nat) : Int)).toNat).toNat : Int) = 44 := by rw [Int.toNat_natCast]; exact hnb
          repeat' (first
            | (exfalso; omega)
            | (refine ⟨Sub.refl _, ?_⟩)
            | (refine brA_split (fun h => ?_) (fun h => ?_) <;> (try rw [h]) <;> (try simp only [Bool.false_eq_true, Bool.true_eq_false, ↓reduceIte, decide_eq_true_eq, decide_eq_false_iff_not, Bool.not_eq_true', Bool.not_eq_false'] at h) <;> (conv => whnf))
            | (refine getB_of (by ((repeat (first | exact set_bx_same | assumption | refine (set_bx_other (by assumption)).trans ?_ | refine grow_bx.trans ?_)); done)) ?_; conv => whnf)
            | (rw [hA]; conv => whnf)
            | (rw [hB]; conv => whnf)
            | (refine ACalls.pure' ?_ (hfi); rintro _ rfl; conv => whnf)
            | (refine DCall.pure ?_ (hfi); conv => whnf)
            | (rw [hw]; conv => whnf)
            | (refine ACalls.pure' ?_ (hen); rintro _ rfl; conv => whnf)
            | (refine DCall.pure ?_ (hen); conv => whnf)
            | (refine getB_same ?_; conv => whnf)
            | (refine AWp.any (by kernel_rfl) (by kernel_rfl) (by kernel_rfl) ?_; conv => whnf)
            | (apply And.intro; (focus (first | omega | rfl | decide | exact Nat.le_of_ble_eq_true rfl | ((repeat' (first | exact all_nil | refine all_cons ?_ ?_ | rfl | fail)); done) | (simp [-List.length_flatMap]; done) | (simp [-List.length_flatMap]; omega) | fail)); conv => whnf)
            | fail)
          · have hsv : startsQ (l.drop i) = true := hsq.2 ⟨by omega, hq.1 (by rw [Int.toNat_natCast] at h; exact h)⟩
            rw [hsv] at hce
            refine ⟨_, Sub.refl _, ?_, h3.sub.set hb2 _ _⟩
            show fg (.agg [.slice 1 [], .int .i64 17, .int .i64 (IntKind.i64.wrap (((strsA o).length : Int) + 1)), .int .i64 0]) = _
            rw [i64_of (b := (1 : Int) + o.length) (by omega) (by omega) (by omega), h4, row, rowF_bad hff (by rw [hsv, hce]; decide), hsv, hce]
            simp [fg, fgL, fgE, addR, firstA]
          · have hsv : startsQ (l.drop i) = false := by rw [Bool.eq_false_iff]; exact fun hh => h (by rw [Int.toNat_natCast]; exact hq.2 (hsq.1 hh).2)
            rw [hsv] at hce
            refine ⟨_, Sub.refl _, ?_, h3.sub.set hb2 _ _⟩
            show fg (.agg [.slice 1 [], .int .i64 15, .int .i64 (IntKind.i64.wrap (((strsA o).length : Int) + 1)), .int .i64 0]) = _
            rw [i64_of (b := (1 : Int) + o.length) (by omega) (by omega) (by omega), h4, row, rowF_bad hff (by rw [hsv, hce]; decide), hsv, hce]
            simp [fg, fgL, fgE, addR, firstA]
        · have hce : chkF f ((l.drop i).drop n) (startsQ (l.drop i)) = 0 := chk_fine hlong (by
            rw [hbd]
            by_cases h1 : (l.drop i).drop n = []
            · exact .inl h1
            · by_cases h2 : byteAt l (i + n) = 44
              · exact .inr (.inl h2)
              · by_cases h3 : crlf ((l.drop i).drop n) = true
                · exact .inr (.inr h3)
                · exact absurd ⟨h1, h2, by simpa using h3⟩ hbad)
          have hlw : (l.drop i).length = l.length - i := List.length_drop ..
          by_cases hend : i + n = l.length
          · have he0 : endsF ((l.drop i).drop n) = 2 := by unfold endsF; rw [if_pos (hr0.2 hend)]
            rw [he0] at hen
            repeat' (first
              | (exfalso; omega)
              | (refine ⟨Sub.refl _, ?_⟩)
              | (refine brA_split (fun h => ?_) (fun h => ?_) <;> (try rw [h]) <;> (try simp only [Bool.false_eq_true, Bool.true_eq_false, ↓reduceIte, decide_eq_true_eq, decide_eq_false_iff_not, Bool.not_eq_true', Bool.not_eq_false'] at h) <;> (conv => whnf))
              | (refine getB_of (by ((repeat (first | exact set_bx_same | assumption | refine (set_bx_other (by assumption)).trans ?_ | refine grow_bx.trans ?_)); done)) ?_; conv => whnf)
              | (rw [hA]; conv => whnf)
              | (rw [hB]; conv => whnf)
              | (refine ACalls.pure' ?_ (hfi); rintro _ rfl; conv => whnf)
              | (refine DCall.pure ?_ (hfi); conv => whnf)
              | (rw [hw]; conv => whnf)
              | (refine ACalls.pure' ?_ (hen); rintro _ rfl; conv => whnf)
              | (refine DCall.pure ?_ (hen); conv => whnf)
              | (refine getB_same ?_; conv => whnf)
              | (refine AWp.any (by kernel_rfl) (by kernel_rfl) (by kernel_rfl) ?_; conv => whnf)
              | (apply And.intro; (focus (first | omega | rfl | decide | exact Nat.le_of_ble_eq_true rfl | ((repeat' (first | exact all_nil | refine all_cons ?_ ?_ | rfl | fail)); done) | (simp [-List.length_flatMap]; done) | (simp [-List.length_flatMap]; omega) | fail)); conv => whnf)
              | fail)
            all_goals (
              refine ⟨h3.may, fun c hc => ?_, all_cons ⟨rfl, rfl⟩ all_nil, ?_, ?_⟩
              · obtain ⟨z, _, rfl⟩ := List.mem_map.1 hc; rfl
              · show ((strsA o).length + 1) * (16 + 1) ≤ _
                rw [hst]; omega
              intro t' k1 k2
              have k3 := h3.grow k1 k2
              conv => whnf
              repeat' (first
                | (exfalso; omega)
                | (refine ⟨Sub.refl _, ?_⟩)
                | (refine brA_split (fun h => ?_) (fun h => ?_) <;> (try rw [h]) <;> (try simp only [Bool.false_eq_true, Bool.true_eq_false, ↓reduceIte, decide_eq_true_eq, decide_eq_false_iff_not, Bool.not_eq_true', Bool.not_eq_false'] at h) <;> (conv => whnf))
                | (refine getB_of (by ((repeat (first | exact set_bx_same | assumption | refine (set_bx_other (by assumption)).trans ?_ | refine grow_bx.trans ?_)); done)) ?_; conv => whnf)
                | (rw [hA]; conv => whnf)
                | (rw [hB]; conv => whnf)
                | (rw [hw]; conv => whnf)
                | (refine ACalls.pure' ?_ (hen); rintro _ rfl; conv => whnf)
                | (refine DCall.pure ?_ (hen); conv => whnf)
                | (refine getB_same ?_; conv => whnf)
                | (refine AWp.any (by kernel_rfl) (by kernel_rfl) (by kernel_rfl) ?_; conv => whnf)
                | (apply And.intro; (focus (first | omega | rfl | decide | exact Nat.le_of_ble_eq_true rfl | ((repeat' (first | exact all_nil | refine all_cons ?_ ?_ | rfl | fail)); done) | (simp [-List.length_flatMap]; done) | (simp [-List.length_flatMap]; omega) | fail)); conv => whnf)
                | fail)
              refine ⟨_, Sub.refl _, ?_, (by (repeat (first | exact k3.sub | refine Sub.set ?_ (by assumption) _ _)))⟩
              show fg (.agg [.slice t' (strsA o ++ [[AV.str f]]), .int .i64 0, .int .i64 0, .int .i64 ((i + n : Nat) : Int)]) = _
              rw [show strsA o ++ [[AV.str f]] = strsA (o ++ [f]) from by simp [strsA], h4, row, rowF_end hff hce (by rw [hlw]; omega)]
              simp only [fg, fgL, fgE_strs, addR, firstA])
          · have hne : (l.drop i).drop n ≠ [] := fun hh => hend (hr0.1 hh)
            by_cases hcr : crlf ((l.drop i).drop n) = true
            · have he0 : endsF ((l.drop i).drop n) = 1 := by unfold endsF; rw [if_neg hne, if_pos hcr]
              rw [he0] at hen
              have hnb : byteAt (l.drop i) n ≠ 44 := by
                rw [byteAt_drop, ← hbd, (crlf_iff.1 hcr).2.1]
                decide
              repeat' (first
                | (exfalso; omega)
                | (refine ⟨Sub.refl _, ?_⟩)
                | (refine brA_split (fun h => ?_) (fun h => ?_) <;> (try rw [h]) <;> (try simp only [Bool.false_eq_true, Bool.true_eq_false, ↓reduceIte, decide_eq_true_eq, decide_eq_false_iff_not, Bool.not_eq_true', Bool.not_eq_false'] at h) <;> (conv => whnf))
                | (refine getB_of (by ((repeat (first | exact set_bx_same | assumption | refine (set_bx_other (by assumption)).trans ?_ | refine grow_bx.trans ?_)); done)) ?_; conv => whnf)
                | (rw [hA]; conv => whnf)
                | (rw [hB]; conv => whnf)
                | (refine ACalls.pure' ?_ (hfi); rintro _ rfl; conv => whnf)
                | (refine DCall.pure ?_ (hfi); conv => whnf)
                | (rw [hw]; conv => whnf)
                | (refine ACalls.pure' ?_ (hen); rintro _ rfl; conv => whnf)
                | (refine DCall.pure ?_ (hen); conv => whnf)
                | (refine getB_same ?_; conv => whnf)
                | (refine AWp.any (by kernel_rfl) (by kernel_rfl) (by kernel_rfl) ?_; conv => whnf)
                | (apply And.intro; (focus (first | omega | rfl | decide | exact Nat.le_of_ble_eq_true rfl | ((repeat' (first | exact all_nil | refine all_cons ?_ ?_ | rfl | fail)); done) | (simp [-List.length_flatMap]; done) | (simp [-List.length_flatMap]; omega) | fail)); conv => whnf)
                | fail)
              all_goals (
                refine ⟨h3.may, fun c hc => ?_, all_cons ⟨rfl, rfl⟩ all_nil, ?_, ?_⟩
                · obtain ⟨z, _, rfl⟩ := List.mem_map.1 hc; rfl
                · show ((strsA o).length + 1) * (16 + 1) ≤ _
                  rw [hst]; omega
                intro t' k1 k2
                have k3 := h3.grow k1 k2
                conv => whnf
                repeat' (first
                  | (exfalso; omega)
                  | (refine ⟨Sub.refl _, ?_⟩)
                  | (refine brA_split (fun h => ?_) (fun h => ?_) <;> (try rw [h]) <;> (try simp only [Bool.false_eq_true, Bool.true_eq_false, ↓reduceIte, decide_eq_true_eq, decide_eq_false_iff_not, Bool.not_eq_true', Bool.not_eq_false'] at h) <;> (conv => whnf))
                  | (refine getB_of (by ((repeat (first | exact set_bx_same | assumption | refine (set_bx_other (by assumption)).trans ?_ | refine grow_bx.trans ?_)); done)) ?_; conv => whnf)
                  | (rw [hA]; conv => whnf)
                  | (rw [hB]; conv => whnf)
                  | (rw [hw]; conv => whnf)
                  | (refine ACalls.pure' ?_ (hen); rintro _ rfl; conv => whnf)
                  | (refine DCall.pure ?_ (hen); conv => whnf)
                  | (refine getB_same ?_; conv => whnf)
                  | (refine AWp.any (by kernel_rfl) (by kernel_rfl) (by kernel_rfl) ?_; conv => whnf)
                  | (apply And.intro; (focus (first | omega | rfl | decide | exact Nat.le_of_ble_eq_true rfl | ((repeat' (first | exact all_nil | refine all_cons ?_ ?_ | rfl | fail)); done) | (simp [-List.length_flatMap]; done) | (simp [-List.length_flatMap]; omega) | fail)); conv => whnf)
                  | fail)
                refine ⟨_, Sub.refl _, ?_, (by (repeat (first | exact k3.sub | refine Sub.set ?_ (by assumption) _ _)))⟩
                show fg (.agg [.slice t' (strsA o ++ [[AV.str f]]), .int .i64 0, .int .i64 0, .int .i64 (IntKind.i64.wrap (((i + n : Nat) : Int) + 2))]) = _
                rw [show strsA o ++ [[AV.str f]] = strsA (o ++ [f]) from by simp [strsA], h4, row, rowF_line hff hce (by rw [hlw]; omega) hnb]
                simp only [fg, fgL, fgE_strs, addR, firstA]
                rw [hw2, Nat.add_assoc])
            · have hcf : crlf ((l.drop i).drop n) = false := by simpa using hcr
              have he0 : endsF ((l.drop i).drop n) = 0 := by unfold endsF; rw [if_neg hne, if_neg hcr]
              rw [he0] at hen
              have h44 : byteAt l (i + n) = 44 := by
                by_cases h2 : byteAt l (i + n) = 44
                · exact h2
                · exact absurd ⟨hne, h2, hcf⟩ hbad
              have hnb : byteAt (l.drop i) n = 44 := by rw [byteAt_drop]; exact h44
              have hbi := hb.2 h44
              have hbi' : ((byteAt l (((i + n : Nat) : Int)).toNat).toNat : Int) = 44 := by rw [Int.toNat_natCast]; exact hbi
              have hlt : i + n < l.length := by omega
              repeat' (first
                | (exfalso; omega)
                | (refine ⟨Sub.refl _, ?_⟩)
                | (refine brA_split (fun h => ?_) (fun h => ?_) <;> (try rw [h]) <;> (try simp only [Bool.false_eq_true, Bool.true_eq_false, ↓reduceIte, decide_eq_true_eq, decide_eq_false_iff_not, Bool.not_eq_true', Bool.not_eq_false'] at h) <;> (conv => whnf))
                | (refine getB_of (by ((repeat (first | exact set_bx_same | assumption | refine (set_bx_other (by assumption)).trans ?_ | refine grow_bx.trans ?_)); done)) ?_; conv => whnf)
                | (rw [hA]; conv => whnf)
                | (rw [hB]; conv => whnf)
                | (refine ACalls.pure' ?_ (hfi); rintro _ rfl; conv => whnf)
                | (refine DCall.pure ?_ (hfi); conv => whnf)
                | (rw [hw]; conv => whnf)
                | (refine ACalls.pure' ?_ (hen); rintro _ rfl; conv => whnf)
                | (refine DCall.pure ?_ (hen); conv => whnf)
                | (refine getB_same ?_; conv => whnf)
                | (refine AWp.any (by kernel_rfl) (by kernel_rfl) (by kernel_rfl) ?_; conv => whnf)
                | (apply And.intro; (focus (first | omega | rfl | decide | exact Nat.le_of_ble_eq_true rfl | ((repeat' (first | exact all_nil | refine all_cons ?_ ?_ | rfl | fail)); done) | (simp [-List.length_flatMap]; done) | (simp [-List.length_flatMap]; omega) | fail)); conv => whnf)
                | fail)
              all_goals (
                refine ⟨h3.may, fun c hc => ?_, all_cons ⟨rfl, rfl⟩ all_nil, ?_, ?_⟩
                · obtain ⟨z, _, rfl⟩ := List.mem_map.1 hc; rfl
                · show ((strsA o).length + 1) * (16 + 1) ≤ _
                  rw [hst]; omega
                intro t' k1 k2
                have k3 := h3.grow k1 k2
                conv => whnf
                repeat' (first
                  | (exfalso; omega)
                  | (refine ⟨Sub.refl _, ?_⟩)
                  | (refine brA_split (fun h => ?_) (fun h => ?_) <;> (try rw [h]) <;> (try simp only [Bool.false_eq_true, Bool.true_eq_false, ↓reduceIte, decide_eq_true_eq, decide_eq_false_iff_not, Bool.not_eq_true', Bool.not_eq_false'] at h) <;> (conv => whnf))
                  | (refine getB_of (by ((repeat (first | exact set_bx_same | assumption | refine (set_bx_other (by assumption)).trans ?_ | refine grow_bx.trans ?_)); done)) ?_; conv => whnf)
                  | (rw [hA]; conv => whnf)
                  | (rw [hB]; conv => whnf)
                  | (rw [hw]; conv => whnf)
                  | (refine ACalls.pure' ?_ (hen); rintro _ rfl; conv => whnf)
                  | (refine DCall.pure ?_ (hen); conv => whnf)
                  | (refine getB_same ?_; conv => whnf)
                  | (refine AWp.any (by kernel_rfl) (by kernel_rfl) (by kernel_rfl) ?_; conv => whnf)
                  | (apply And.intro; (focus (first | omega | rfl | decide | exact Nat.le_of_ble_eq_true rfl | ((repeat' (first | exact all_nil | refine all_cons ?_ ?_ | rfl | fail)); done) | (simp [-List.length_flatMap]; done) | (simp [-List.length_flatMap]; omega) | fail)); conv => whnf)
                  | fail)
                refine ⟨(o ++ [f], i + n + 1, t'), ?_, by (repeat (first | exact Same.refl _ _ | refine Same.upd rfl ?_ | refine Same.updL rfl ?_ | refine Same.havoc rfl ?_)), ⟨⟨by simp only; omega, by simp; omega⟩, (by ((repeat (first | exact set_bx_same | assumption | refine (set_bx_other (by assumption)).trans ?_ | refine grow_bx.trans ?_)); done)), ?_, ?_, ?_⟩, by simp only; omega⟩
                · exact cons_eq (by show AV.int .i64 (IntKind.i64.wrap (((i + n : Nat) : Int) + 1)) = .int .i64 ((i + n + 1 : Nat) : Int); rw [hw1]) rfl
                · refine set_bx_same.trans ?_
                  show some (_, ([.slice t' (strsA o ++ [[AV.str f]]), .int .i64 0, .int .i64 0, .int .i64 0] : List AV)) = some (_, ([.slice t' (strsA (o ++ [f])), .int .i64 0, .int .i64 0, .int .i64 0] : List AV))
                  rw [show strsA o ++ [[AV.str f]] = strsA (o ++ [f]) from by simp [strsA]]
                · show Own _ _ (o ++ [f]).isEmpty _ _ _
                  rw [show (o ++ [f]).isEmpty = (o.isEmpty && [[AV.str f]].isEmpty) by cases o <;> rfl]
                  exact k3.set g3
                · rw [h4, row, rowF_more hff hce (by rw [hlw]; omega) hnb, addR_add, List.drop_drop, rowF_fuel _ _ _ (by simp only [List.length_drop]; omega) (Nat.lt_succ_self _)]
                  rfl)
end Go.Proofs.YtedaejmnnjljcaaDoor.Cv
