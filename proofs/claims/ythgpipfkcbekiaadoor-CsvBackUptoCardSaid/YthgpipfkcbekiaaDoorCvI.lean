
/- Chapter 6: how fields and rows are written. -/
import Derived.Test.YthgpipfkcbekiaaDoorCvH
import Derived.Test.YthgpipfkcbekiaaDoorShelf
set_option linter.all false
namespace Go.Proofs.YthgpipfkcbekiaaDoor.Cv
open Go Go.Ab Go.RowKit
variable {Γ : Nat → AV}
attribute [local irreducible] APure Sto.set Sto.grow
set_option maxRecDepth 10000
set_option maxHeartbeats 1000000

theorem dbl_app : ∀ a b : List UInt8, dbl (a ++ b) = dbl a ++ dbl b
  | [], b => rfl
  | c :: a, b => by
    rw [List.cons_append, dbl, dbl, dbl_app a b]
    split <;> rfl
theorem dbl_len : ∀ a : List UInt8, (dbl a).length ≤ 2 * a.length
  | [] => Nat.le_refl _
  | c :: a => by
    have := dbl_len a
    unfold dbl
    split <;> simp only [List.length_cons] <;> omega
theorem fldT_len (l : List UInt8) : (fldT l).length ≤ 2 * l.length + 2 := by
  have := dbl_len l
  unfold fldT
  split
  · omega
  · simp only [List.length_cons, List.length_append, List.length_nil]; omega
theorem refQuoted_ok (l : List UInt8) (hl : l.length ≤ 1048576) : APure Tryd.prog Γ 8 [.str l] fun v => v = .str (fldT l) := by
  refine APure.of_awp Tryd.func8 rfl (Nat.le_of_ble_eq_true (by kernel_rfl)) (by kernel_rfl) ?_
  intro s
  conv => whnf
  repeat' (first
    | (refine ⟨Sub.refl _, ?_⟩)
    | (refine brA_split (fun h => ?_) (fun h => ?_) <;> (try rw [h]) <;> (try simp only [Bool.false_eq_true, Bool.true_eq_false, ↓reduceIte, decide_eq_true_eq, decide_eq_false_iff_not, Bool.not_eq_true', Bool.not_eq_false'] at h) <;> (conv => whnf))
    | (refine getB_same ?_; conv => whnf)
    | (refine AWp.any (by kernel_rfl) (by kernel_rfl) (by kernel_rfl) ?_; conv => whnf)
    | (apply And.intro; (focus (first | omega | rfl | decide | exact Nat.le_of_ble_eq_true rfl | ((repeat' (first | exact all_nil | refine all_cons ?_ ?_ | rfl | fail)); done) | (simp [-List.length_flatMap]; done) | (simp [-List.length_flatMap]; omega) | fail)); conv => whnf)
    | fail)
  refine AWp.loopA [3, 4, 5] [6, 7, 8, 9, 12, 13, 14, 15, 16, 17, 18, 19, 20, 21, 22, 23, 24, 25, 26, 27, 28, 29, 10, 11] (fun i : Nat => [.bool ((l.take i).all bareB), .str (34 :: dbl (l.take i)), .int .i64 i]) (fun i s' => i ≤ l.length ∧ s' = s) (fun i => l.length - i) (0) (by kernel_rfl) (by (repeat' (first | refine cons_eq ?_ ?_ | refine int64_of ?_ ?_ ?_ | rfl | omega))) ?_ ?_
  · exact ⟨Nat.zero_le _, rfl⟩
  · rintro x i s1 ⟨h1, rfl⟩
    show awp _ _ _ _ _ (updL _ _ [.bool ((l.take i).all bareB), .str (34 :: dbl (l.take i)), .int .i64 (i : Int)]) _
    conv => whnf
    by_cases hlt : i < l.length
    · have ht := take_byte hlt
      have hdl := dbl_len (l.take i)
      rw [List.length_take] at hdl
      have hall : (l.take (i + 1)).all bareB = ((l.take i).all bareB && bareB (byteAt l i)) := by rw [ht]; simp
      have hdb : dbl (l.take (i + 1)) = dbl (l.take i) ++ dbl [byteAt l i] := by rw [ht, dbl_app]
      have hb := b34 (b := byteAt l i)
      have hz : byteAt l ((i : Int)).toNat = byteAt l i := rfl
      have hw : IntKind.i64.wrap ((i : Int) + 1) = ((i + 1 : Nat) : Int) := i64_of (by omega) (by omega) (by omega)
      have hsl : List.drop ((i : Int)).toNat (List.take (((i + 1 : Nat) : Int)).toNat l) = [byteAt l i] := by
        rw [Int.toNat_natCast, Int.toNat_natCast, ht, List.drop_left' (by rw [List.length_take]; omega)]
      have hp := refPlain_ok (Γ := Γ) (byteAt l i)
      repeat' (first
        | (exfalso; first | omega | exact (by assumption : ¬ True) trivial | fail)
        | (refine ⟨Sub.refl _, ?_⟩)
        | (refine brA_split (fun h => ?_) (fun h => ?_) <;> (try rw [h]) <;> (try simp only [Bool.false_eq_true, Bool.true_eq_false, ↓reduceIte, decide_eq_true_eq, decide_eq_false_iff_not, Bool.not_eq_true', Bool.not_eq_false'] at h) <;> (conv => whnf))
        | (rw [hz]; conv => whnf)
        | (refine ACalls.pure' ?_ (hp); rintro _ rfl; conv => whnf)
        | (refine DCall.pure ?_ (hp); conv => whnf)
        | (rw [hw]; conv => whnf)
        | (rw [hsl]; conv => whnf)
        | (refine getB_same ?_; conv => whnf)
        | (refine AWp.any (by kernel_rfl) (by kernel_rfl) (by kernel_rfl) ?_; conv => whnf)
        | (apply And.intro; (focus (first | omega | rfl | decide | exact Nat.le_of_ble_eq_true rfl | ((repeat' (first | exact all_nil | refine all_cons ?_ ?_ | rfl | fail)); done) | (simp [-List.length_flatMap]; done) | (simp [-List.length_flatMap]; omega) | fail)); conv => whnf)
        | fail)
      all_goals refine ⟨i + 1, ?_, by (repeat (first | exact Same.refl _ _ | refine Same.upd rfl ?_ | refine Same.updL rfl ?_ | refine Same.havoc rfl ?_)), ⟨by omega, by first | rfl | trivial⟩, by omega⟩
      all_goals rw [hall, hdb]
      · exact cons_eq (congrArg AV.bool (by simp_all)) (cons_eq (by rw [hb.1 (by assumption)]; show AV.str ((34 :: dbl (l.take i) ++ [34]) ++ [34]) = _; simp [dbl]) (cons_eq rfl rfl))
      · exact cons_eq (congrArg AV.bool (by simp_all)) (cons_eq (by rw [dbl, if_neg (fun hh => by have := hb.2 hh; omega)]; rfl) (cons_eq rfl rfl))
      · exact absurd (hb.1 (by assumption)) (bare_not (by assumption))
      · exact cons_eq (congrArg AV.bool (by simp_all)) (cons_eq (by rw [dbl, if_neg (fun hh => by have := hb.2 hh; omega)]; rfl) (cons_eq rfl rfl))
    · obtain rfl : i = l.length := by omega
      rw [List.take_length]
      repeat' (first
        | (exfalso; first | omega | exact (by assumption : ¬ True) trivial | fail)
        | (refine ⟨Sub.refl _, ?_⟩)
        | (refine brA_split (fun h => ?_) (fun h => ?_) <;> (try rw [h]) <;> (try simp only [Bool.false_eq_true, Bool.true_eq_false, ↓reduceIte, decide_eq_true_eq, decide_eq_false_iff_not, Bool.not_eq_true', Bool.not_eq_false'] at h) <;> (conv => whnf))
        | (refine getB_same ?_; conv => whnf)
        | (refine AWp.any (by kernel_rfl) (by kernel_rfl) (by kernel_rfl) ?_; conv => whnf)
        | (apply And.intro; (focus (first | omega | rfl | decide | exact Nat.le_of_ble_eq_true rfl | ((repeat' (first | exact all_nil | refine all_cons ?_ ?_ | rfl | fail)); done) | (simp [-List.length_flatMap]; done) | (simp [-List.length_flatMap]; omega) | fail)); conv => whnf)
        | fail)
      · rw [fldT, if_pos h]; rfl
      · have hdl := dbl_len l
        refine ⟨by simp; omega, ?_⟩
        conv => whnf
        rw [fldT, if_neg (by rw [h]; decide)]
        exact ⟨Sub.refl _, rfl⟩
theorem joinT_add : ∀ (m : List (List UInt8)) (x : List UInt8), joinT (m ++ [x]) = if m = [] then fldT x else joinT m ++ 44 :: fldT x
  | [], x => rfl
  | [y], x => rfl
  | y :: z :: m, x => by
    rw [List.cons_append, List.cons_append, joinT, ← List.cons_append, joinT_add (z :: m) x, if_neg (by simp), if_neg (by simp), joinT]
    simp
theorem joinT_len : ∀ (m : List (List UInt8)), (∀ x ∈ m, x.length ≤ 1048576) → (joinT m).length ≤ m.length * 2097155
  | [], _ => Nat.zero_le _
  | [x], h => by
    have := fldT_len x
    have := h x (by simp)
    simp only [joinT, List.length_cons, List.length_nil]
    omega
  | x :: y :: m, h => by
    have h1 := fldT_len x
    have h2 := h x (by simp)
    have ih := joinT_len (y :: m) (fun z hz => h z (by simp [hz]))
    simp only [joinT, List.length_append, List.length_cons] at *
    omega
theorem take_str {m : List (List UInt8)} {i : Nat} (h : i < m.length) : m.take (i + 1) = m.take i ++ [m.getD i []] := by
  rw [List.take_succ]
  simp [List.getD, h]
theorem refLine_ok (t : Nat) (m : List (List UInt8)) (hm : m.length ≤ 12) (hs : ∀ x ∈ m, x.length ≤ 1048576) : APure Tryd.prog Γ 5 [.slice t (strsA m)] fun v => v = .str (lineT m) := by
  have hll := strsA_len m
  have hjl := fun i => joinT_len (m.take i) (fun x hx => hs x (List.mem_of_mem_take hx))
  refine APure.of_awp Tryd.func5 rfl (Nat.le_of_ble_eq_true (by kernel_rfl)) (by kernel_rfl) ?_
  intro s
  conv => whnf
  repeat' (first
    | (refine ⟨Sub.refl _, ?_⟩)
    | (refine brA_split (fun h => ?_) (fun h => ?_) <;> (try rw [h]) <;> (try simp only [Bool.false_eq_true, Bool.true_eq_false, ↓reduceIte, decide_eq_true_eq, decide_eq_false_iff_not, Bool.not_eq_true', Bool.not_eq_false'] at h) <;> (conv => whnf))
    | (refine getB_same ?_; conv => whnf)
    | (refine AWp.any (by kernel_rfl) (by kernel_rfl) (by kernel_rfl) ?_; conv => whnf)
    | (apply And.intro; (focus (first | omega | rfl | decide | exact Nat.le_of_ble_eq_true rfl | ((repeat' (first | exact all_nil | refine all_cons ?_ ?_ | rfl | fail)); done) | (simp [-List.length_flatMap]; done) | (simp [-List.length_flatMap]; omega) | fail)); conv => whnf)
    | fail)
  refine AWp.loopA [3, 4] [5, 6, 7, 8, 11, 12, 13, 14, 15, 16, 17, 18, 19, 20, 21, 9, 10] (fun i : Nat => [.str (joinT (m.take i)), .int .i64 i]) (fun i s' => i ≤ m.length ∧ s' = s) (fun i => m.length - i) (0) (by kernel_rfl) (by (repeat' (first | refine cons_eq ?_ ?_ | refine int64_of ?_ ?_ ?_ | rfl | omega))) ?_ ?_
  · exact ⟨Nat.zero_le _, rfl⟩
  · rintro x i s1 ⟨h1, rfl⟩
    show awp _ _ _ _ _ (updL _ _ [.str (joinT (m.take i)), .int .i64 (i : Int)]) _
    conv => whnf
    by_cases hlt : i < m.length
    · have hg := strsA_get hlt
      have ht := take_str hlt
      have hji := hjl i
      rw [List.length_take] at hji
      have hmem : m.getD i [] ∈ m := by simp [List.getD, hlt]
      have hx := hs _ hmem
      generalize m.getD i [] = z at *
      have hq := refQuoted_ok (Γ := Γ) z hx
      have hfl := fldT_len z
      have hja := joinT_add (m.take i) z
      rw [← ht] at hja
      have h0 : m.take i = [] ↔ i = 0 := by
        rw [← List.length_eq_zero_iff, List.length_take]; omega
      have hw : IntKind.i64.wrap ((i : Int) + 1) = ((i + 1 : Nat) : Int) := i64_of (by omega) (by omega) (by omega)
      repeat' (first
        | (exfalso; first | omega | exact (by assumption : ¬ True) trivial | fail)
        | (refine ⟨Sub.refl _, ?_⟩)
        | (refine brA_split (fun h => ?_) (fun h => ?_) <;> (try rw [h]) <;> (try simp only [Bool.false_eq_true, Bool.true_eq_false, ↓reduceIte, decide_eq_true_eq, decide_eq_false_iff_not, Bool.not_eq_true', Bool.not_eq_false'] at h) <;> (conv => whnf))
        | (rw [show (strsA m).getD ((i : Int)).toNat [] = _ from hg]; conv => whnf)
        | (refine ACalls.pure' ?_ (hq); rintro _ rfl; conv => whnf)
        | (refine DCall.pure ?_ (hq); conv => whnf)
        | (refine getB_same ?_; conv => whnf)
        | (refine AWp.any (by kernel_rfl) (by kernel_rfl) (by kernel_rfl) ?_; conv => whnf)
        | (apply And.intro; (focus (first | omega | rfl | decide | exact Nat.le_of_ble_eq_true rfl | ((repeat' (first | exact all_nil | refine all_cons ?_ ?_ | rfl | fail)); done) | (simp [-List.length_flatMap]; done) | (simp [-List.length_flatMap]; omega) | fail)); conv => whnf)
        | fail)
      · refine ⟨i + 1, ?_, by (repeat (first | exact Same.refl _ _ | refine Same.upd rfl ?_ | refine Same.updL rfl ?_ | refine Same.havoc rfl ?_)), ⟨by omega, by first | rfl | trivial⟩, by omega⟩
        rw [hja, if_neg (fun hh => by have := h0.1 hh; omega)]
        exact cons_eq (by show AV.str ((joinT (m.take i) ++ [44]) ++ fldT z) = _; simp) (cons_eq (congrArg (AV.int .i64) hw) rfl)
      · have hi0 : i = 0 := by omega
        refine ⟨i + 1, ?_, by (repeat (first | exact Same.refl _ _ | refine Same.upd rfl ?_ | refine Same.updL rfl ?_ | refine Same.havoc rfl ?_)), ⟨by omega, by first | rfl | trivial⟩, by omega⟩
        rw [hja, if_pos (h0.2 hi0)]
        subst hi0
        exact cons_eq rfl (cons_eq (congrArg (AV.int .i64) hw) rfl)
    · obtain rfl : i = m.length := by omega
      rw [List.take_length]
      have hjm := hjl m.length
      rw [List.take_length] at hjm
      repeat' (first
        | (exfalso; first | omega | exact (by assumption : ¬ True) trivial | fail)
        | (refine ⟨Sub.refl _, ?_⟩)
        | (refine brA_split (fun h => ?_) (fun h => ?_) <;> (try rw [h]) <;> (try simp only [Bool.false_eq_true, Bool.true_eq_false, ↓reduceIte, decide_eq_true_eq, decide_eq_false_iff_not, Bool.not_eq_true', Bool.not_eq_false'] at h) <;> (conv => whnf))
        | (refine getB_same ?_; conv => whnf)
        | (refine AWp.any (by kernel_rfl) (by kernel_rfl) (by kernel_rfl) ?_; conv => whnf)
        | (apply And.intro; (focus (first | omega | rfl | decide | exact Nat.le_of_ble_eq_true rfl | ((repeat' (first | exact all_nil | refine all_cons ?_ ?_ | rfl | fail)); done) | (simp [-List.length_flatMap]; done) | (simp [-List.length_flatMap]; omega) | fail)); conv => whnf)
        | fail)
      rfl
end Go.Proofs.YthgpipfkcbekiaaDoor.Cv
