
/- Chapter 6: how rows are written, and that they are read as they were: the plain law. -/
import Derived.Test.YthgpipfkcbekiaaDoorCvG
set_option linter.all false
namespace Go.Proofs.YthgpipfkcbekiaaDoor.Cv
open Go Go.Ab Go.RowKit
set_option maxRecDepth 10000
set_option maxHeartbeats 1000000

/-- Quotes are doubled. -/
def dbl : List UInt8 → List UInt8
  | [] => []
  | c :: r => if c = 34 then 34 :: 34 :: dbl r else c :: dbl r
/-- A field as it is written. -/
def fldT (x : List UInt8) : List UInt8 := if x.all bareB = true then x else 34 :: (dbl x ++ [34])
/-- Fields with commas between. -/
def joinT : List (List UInt8) → List UInt8
  | [] => []
  | [x] => fldT x
  | x :: y :: r => fldT x ++ 44 :: joinT (y :: r)
def lineT (m : List (List UInt8)) : List UInt8 := joinT m ++ [13, 10]
/-- What may stand behind a field. -/
def Stop (r : List UInt8) : Prop := r = [] ∨ (∃ q, r = 44 :: q) ∨ ∃ q, r = 13 :: 10 :: q
theorem bare_not {c : UInt8} (h : bareB c = true) : c ≠ 34 := by rintro rfl; revert h; decide
theorem Stop.bareN {r : List UInt8} (h : Stop r) : bareN r = 0 := by
  rcases h with rfl | ⟨q, rfl⟩ | ⟨q, rfl⟩
  · rfl
  · unfold Cv.bareN; rw [if_neg (by decide)]
  · unfold Cv.bareN; rw [if_neg (by decide)]
theorem Stop.no34 {r : List UInt8} (h : Stop r) : ∀ q, r ≠ 34 :: q := by
  rintro q rfl
  rcases h with h | ⟨p, h⟩ | ⟨p, h⟩ <;> cases h
theorem bareN_app : ∀ (x r : List UInt8), x.all bareB = true → bareN r = 0 → bareN (x ++ r) = x.length
  | [], r, _, h => h
  | c :: x, r, hx, h => by
    simp only [List.all_cons, Bool.and_eq_true] at hx
    rw [List.cons_append, bareN, if_pos hx.1, bareN_app x r hx.2 h]; rfl
theorem qt_dbl : ∀ (x r : List UInt8), (∀ q, r ≠ 34 :: q) → qtF (dbl x ++ 34 :: r) = some (x, (dbl x).length + 1)
  | [], r, h => qt_end h
  | c :: x, r, h => by
    by_cases hc : c = 34
    · subst hc
      rw [dbl, if_pos rfl, List.cons_append, List.cons_append, qt_two, qt_dbl x r h]
      rfl
    · rw [dbl, if_neg hc, List.cons_append, qt_other hc, qt_dbl x r h]
      rfl
theorem field_back (x r : List UInt8) (h : Stop r) : fieldF (fldT x ++ r) = some (x, (fldT x).length) := by
  unfold fldT
  split
  · rename_i hx
    have hb := bareN_app x r hx h.bareN
    rw [field_else, hb, List.drop_left, List.take_left, if_neg]
    · rintro ⟨_, h2⟩
      have hz : byteAt (x ++ r) x.length = byteAt r 0 := by
        have := byteAt_drop (x ++ r) x.length 0
        rw [List.drop_left, Nat.add_zero] at this
        exact this.symm
      rw [hz] at h2
      rcases h with rfl | ⟨q, rfl⟩ | ⟨q, rfl⟩ <;> revert h2
      · simp at *
      · simp [byteAt]
      · simp [byteAt]
    · rintro q hq
      cases x with
      | nil => exact h.no34 q hq
      | cons c x =>
        injection hq with h1 _
        simp only [List.all_cons, Bool.and_eq_true] at hx
        exact bare_not hx.1 h1
  · rw [List.cons_append, field_quote, List.append_assoc, List.singleton_append, qt_dbl x r h.no34]
    simp
theorem chk_stop {x r : List UInt8} {q : Bool} (h : Stop r) (hx : x.length ≤ 4096) : chkF x r q = 0 := by
  unfold chkF
  rw [if_neg (by omega), if_pos]
  rcases h with rfl | ⟨p, rfl⟩ | ⟨p, rfl⟩
  · exact .inl rfl
  · exact .inr (.inl rfl)
  · exact .inr (.inr (by simp))
theorem chk_over {x r : List UInt8} {q : Bool} (hx : 4096 < x.length) : chkF x r q = 3 := by
  unfold chkF
  rw [if_pos (by omega)]
/-- The place of the first field that is too long, from 1 on; 0: none. -/
def colOf : List (List UInt8) → Nat
  | [] => 0
  | x :: r => if 4096 < x.length then 1 else if colOf r = 0 then 0 else colOf r + 1
theorem colOf_le : ∀ m : List (List UInt8), colOf m ≤ m.length
  | [] => Nat.le_refl _
  | x :: r => by
    have := colOf_le r
    unfold colOf
    split
    · simp
    · split
      · simp
      · simp only [List.length_cons]; omega
theorem joinT_stop (x : List UInt8) (m : List (List UInt8)) (r : List UInt8) : ∃ p, Stop p ∧ lineT (x :: m) ++ r = fldT x ++ p ∧ (m = [] → p = 13 :: 10 :: r) ∧ (m ≠ [] → p = 44 :: (lineT m ++ r)) := by
  cases m with
  | nil => exact ⟨13 :: 10 :: r, .inr (.inr ⟨r, rfl⟩), by simp [lineT, joinT], fun _ => rfl, fun h => absurd rfl h⟩
  | cons y m => exact ⟨44 :: (lineT (y :: m) ++ r), .inr (.inl ⟨_, rfl⟩), by simp [lineT, joinT], fun h => (by cases h), fun _ => rfl⟩
theorem lineT_len (m : List (List UInt8)) : 2 ≤ (lineT m).length := by simp [lineT]
theorem byteAt_app (a b : List UInt8) : byteAt (a ++ b) a.length = byteAt b 0 := by
  have := byteAt_drop (a ++ b) a.length 0
  rw [List.drop_left, Nat.add_zero] at this
  exact this.symm
theorem row_back : ∀ (m : List (List UInt8)) (r : List UInt8) (k : Nat), m ≠ [] → (lineT m ++ r).length < k → rowF k (lineT m ++ r) = if colOf m = 0 then .ok (m, (lineT m).length) else .error (3, colOf m)
  | [], _, _ => fun h => absurd rfl h
  | x :: m, r, 0 => fun _ h => by omega
  | x :: m, r, k + 1 => fun _ hk => by
    obtain ⟨p, hp, he, h1, h2⟩ := joinT_stop x m r
    have hf := field_back x p hp
    rw [← he] at hf
    have hd : (lineT (x :: m) ++ r).drop (fldT x).length = p := by rw [he, List.drop_left]
    by_cases hx : 4096 < x.length
    · have hc := chk_over (r := p) (q := startsQ (lineT (x :: m) ++ r)) hx
      rw [rowF_bad hf (by rw [hd, hc]; decide), hd, hc, colOf, if_pos hx, if_neg (by decide)]
      rfl
    · have hc := chk_stop (x := x) (q := startsQ (lineT (x :: m) ++ r)) hp (by omega)
      rw [← hd] at hc
      have hlen : (lineT (x :: m) ++ r).length = (fldT x).length + p.length := by rw [he, List.length_append]
      have hby : byteAt (lineT (x :: m) ++ r) (fldT x).length = byteAt p 0 := by rw [he, byteAt_app]
      have hcol : colOf (x :: m) = if colOf m = 0 then 0 else colOf m + 1 := by rw [colOf, if_neg hx]
      cases m with
      | nil =>
        have hpe := h1 rfl
        rw [rowF_line hf hc (by rw [hlen, hpe]; simp) (by rw [hby, hpe]; simp [byteAt]), hcol]
        simp [colOf, lineT, joinT]
      | cons y m =>
        have hpe := h2 (by simp)
        rw [rowF_more hf hc (by rw [hlen, hpe]; simp) (by rw [hby, hpe]; simp [byteAt])]
        have hd2 : (lineT (x :: y :: m) ++ r).drop ((fldT x).length + 1) = lineT (y :: m) ++ r := by
          rw [← List.drop_drop, hd, hpe]; rfl
        rw [hd2, row_back (y :: m) r k (by simp) (by rw [hlen, hpe] at hk; simp only [List.length_cons] at hk; omega), hcol]
        by_cases hc0 : colOf (y :: m) = 0
        · rw [if_pos hc0, if_pos (by rw [if_pos hc0])]
          simp only [addR, lineT, joinT, List.length_append, List.length_cons, List.length_nil]
          congr 2
          omega
        · rw [if_neg hc0, if_neg hc0, if_neg (by omega)]
          simp only [addR, List.length_cons, List.length_nil]
          congr 2
/-- The row and the place of the first field that is too long, from 1 on; zeros: none. -/
def longOf : Rows → Nat × Nat
  | [] => (0, 0)
  | m :: l => if colOf m ≠ 0 then (1, colOf m) else if (longOf l).1 = 0 then (0, 0) else ((longOf l).1 + 1, (longOf l).2)
def textT (l : Rows) : List UInt8 := (l.map lineT).flatten
theorem all_back : ∀ (l : Rows) (k : Nat) (r : Int), (∀ m ∈ l, m ≠ []) → (textT l).length < k →
    allF k r (textT l) = if (longOf l).1 = 0 then ((l, 0, 0, 0) : Rows × Int × Int × Int) else (l.take ((longOf l).1 - 1), 3, r + ((longOf l).1 : Int), ((longOf l).2 : Int))
  | [], 0, r => fun _ h => by omega
  | [], k + 1, r => fun _ _ => by
    show allF (k + 1) r [] = _
    rw [allF_end]; rfl
  | m :: l, 0, r => fun _ h => by omega
  | m :: l, k + 1, r => fun hm hk => by
    have hm1 := hm m (by simp)
    have he : textT (m :: l) = lineT m ++ textT l := by simp [textT]
    have hne : textT (m :: l) ≠ [] := by
      rw [he]
      intro h
      have := lineT_len m
      rw [List.append_eq_nil_iff.1 h |>.1] at this
      simp at this
    have hrow : row (textT (m :: l)) = if colOf m = 0 then .ok (m, (lineT m).length) else .error (3, colOf m) := by
      rw [row, he]
      exact row_back m (textT l) _ hm1 (Nat.lt_succ_self _)
    by_cases hc : colOf m = 0
    · rw [if_pos hc] at hrow
      rw [allF_ok hne hrow, he, List.drop_left, all_back l k (r + 1) (fun m' h => hm m' (by simp [h])) (by rw [he, List.length_append] at hk; have := lineT_len m; omega)]
      by_cases h0 : (longOf l).1 = 0
      · have hz : longOf (m :: l) = (0, 0) := by rw [longOf, if_neg (fun h => h hc), if_pos h0]
        rw [hz, if_pos h0, if_pos rfl]; rfl
      · have hz : longOf (m :: l) = ((longOf l).1 + 1, (longOf l).2) := by rw [longOf, if_neg (fun h => h hc), if_neg h0]
        rw [hz, if_neg h0, if_neg (by simp)]
        simp only [pre]
        refine Prod.ext ?_ ?_
        · show [m] ++ _ = _
          rw [show (longOf l).1 + 1 - 1 = ((longOf l).1 - 1) + 1 by omega]
          rfl
        · refine Prod.ext rfl (Prod.ext ?_ rfl)
          show r + 1 + ((longOf l).1 : Int) = r + (((longOf l).1 + 1 : Nat) : Int)
          omega
    · rw [if_neg hc] at hrow
      rw [allF_bad hne hrow, longOf, if_pos hc, if_neg (by simp)]
      rfl
/-- A field more. -/
theorem colOf_add : ∀ (m : List (List UInt8)) (x : List UInt8), colOf (m ++ [x]) = if colOf m ≠ 0 then colOf m else if 4096 < x.length then m.length + 1 else 0
  | [], x => by
    show (if 4096 < x.length then 1 else if (0 : Nat) = 0 then 0 else 0 + 1) = _
    simp [colOf]
  | y :: m, x => by
    rw [List.cons_append, colOf, colOf_add m x]
    show _ = if (if 4096 < y.length then 1 else if colOf m = 0 then 0 else colOf m + 1) ≠ 0 then (if 4096 < y.length then 1 else if colOf m = 0 then 0 else colOf m + 1) else _
    by_cases hy : 4096 < y.length
    · simp [hy]
    · by_cases hm : colOf m = 0
      · by_cases hx : 4096 < x.length <;> simp [hy, hm, hx]
      · simp [hy, hm]
/-- A row more. -/
theorem longOf_add : ∀ (l : Rows) (m : List (List UInt8)), longOf (l ++ [m]) = if (longOf l).1 ≠ 0 then longOf l else if colOf m ≠ 0 then (l.length + 1, colOf m) else (0, 0)
  | [], m => by
    by_cases h : colOf m = 0 <;> simp [longOf, h]
  | n :: l, m => by
    rw [List.cons_append, longOf, longOf_add l m, longOf]
    by_cases hn : colOf n = 0
    · by_cases hl : (longOf l).1 = 0
      · by_cases hm : colOf m = 0 <;> simp [hn, hl, hm]
      · simp [hn, hl]
    · simp [hn]
end Go.Proofs.YthgpipfkcbekiaaDoor.Cv
