/- Chapter 6: the law of what is written. -/
import Derived.Test.YthgpipfkcbekiaaDoorCvJ
set_option linter.all false
namespace Go.Proofs.YthgpipfkcbekiaaDoor.Cv
open Go Go.Ab Go.RowKit
variable {Γ : Nat → AV}
set_option maxRecDepth 10000
set_option maxHeartbeats 1000000

/-- The rows that are written: those with fields. -/
def full (l : Rows) : Rows := l.filter fun m => !m.isEmpty
theorem take_row {l : Rows} {i : Nat} (h : i < l.length) : l.take (i + 1) = l.take i ++ [l.getD i []] := by
  rw [List.take_succ]
  simp [List.getD, h]
theorem full_add (l : Rows) (m : List (List UInt8)) : full (l ++ [m]) = if m = [] then full l else full l ++ [m] := by
  unfold full
  rw [List.filter_append]
  cases m with
  | nil => simp
  | cons x m => simp
theorem full_ne (l : Rows) : ∀ m ∈ full l, m ≠ [] := by
  intro m hm
  have := (List.mem_filter.1 hm).2
  rintro rfl
  simp at this
theorem textT_add (l : Rows) (m : List (List UInt8)) : textT (l ++ [m]) = textT l ++ lineT m := by simp [textT]
theorem longOf_zero : ∀ l : Rows, (longOf l).1 = 0 → longOf l = (0, 0)
  | [] => fun _ => rfl
  | m :: l => fun h => by
    unfold longOf at *
    split at h
    · cases h
    · rename_i hc
      rw [if_neg hc]
      split at h
      · rename_i h0; rw [if_pos h0]
      · cases h
theorem longOf_le : ∀ l : Rows, (longOf l).1 ≤ l.length
  | [] => Nat.le_refl _
  | m :: l => by
    have := longOf_le l
    unfold longOf
    split
    · simp
    · split
      · simp
      · simp only [List.length_cons]; omega
theorem long_nil (l : Rows) : longOf (l ++ [[]]) = longOf l := by
  rw [longOf_add]
  by_cases h : (longOf l).1 = 0
  · rw [if_neg (by simpa using h), if_neg (by simp [colOf]), longOf_zero l h]
  · rw [if_pos h]
theorem long_step (l : Rows) {m : List (List UInt8)} {k : Nat} (h : k < m.length) : longOf (l ++ [m.take (k + 1)]) = if 4096 < (m.getD k []).length ∧ (longOf (l ++ [m.take k])).1 = 0 then (l.length + 1, k + 1) else longOf (l ++ [m.take k]) := by
  rw [take_str h, longOf_add, longOf_add, colOf_add, List.length_take, Nat.min_eq_left (by omega)]
  generalize m.getD k [] = z
  by_cases hl : (longOf l).1 = 0
  · by_cases hc : colOf (m.take k) = 0
    · by_cases hx : 4096 < z.length
      · simp [hl, hc, hx]
      · simp [hl, hc, hx]
    · simp [hl, hc]
  · simp [hl]
theorem line_small {m : List (List UInt8)} (hm : m.length ≤ 12) (hs : ∀ x ∈ m, x.length ≤ 5000) : (lineT m).length ≤ 120038 := by
  have key : ∀ m : List (List UInt8), (∀ x ∈ m, x.length ≤ 5000) → (joinT m).length ≤ m.length * 10003 := by
    intro m
    induction m with
    | nil => intro _; exact Nat.zero_le _
    | cons x m ih =>
      intro h
      have h1 := fldT_len x
      have h2 := h x (by simp)
      have h3 := ih (fun z hz => h z (by simp [hz]))
      cases m with
      | nil => simp only [joinT, List.length_cons, List.length_nil]; omega
      | cons y m =>
        simp only [joinT, List.length_append, List.length_cons] at *
        omega
  have := key m hs
  unfold lineT
  rw [List.length_append]
  simp only [List.length_cons, List.length_nil]
  omega
theorem text_small : ∀ l : Rows, (∀ m ∈ l, m.length ≤ 12 ∧ ∀ x ∈ m, x.length ≤ 5000) → (textT l).length ≤ l.length * 120038
  | [], _ => Nat.zero_le _
  | m :: l, h => by
    have h1 := line_small (h m (by simp)).1 (h m (by simp)).2
    have h2 := text_small l (fun z hz => h z (by simp [hz]))
    have : textT (m :: l) = lineT m ++ textT l := by simp [textT]
    rw [this, List.length_append, List.length_cons]
    omega
theorem full_len (l : Rows) : (full l).length ≤ l.length := List.length_filter_le ..
theorem full_mem {l : Rows} {m : List (List UInt8)} (h : m ∈ full l) : m ∈ l := (List.mem_filter.1 h).1
theorem rowsA_get {o : Rows} {i : Nat} (h : i < o.length) : (rowsA o).getD i [] = [.slice 0 (strsA (o.getD i []))] := by
  unfold rowsA; exact (by simp [List.getD, h] : (o.map fun r => [AV.slice 0 (strsA r)]).getD i [] = [.slice 0 (strsA (o.getD i []))])
attribute [local irreducible] APure Sto.set Sto.grow
theorem csvBack_law (hE : AsF.ErrT Γ) (hM : MaxN Γ) (l : Rows) (hs : ∀ m ∈ l, ∀ x ∈ m, x.length ≤ 1048576) (hl : l.length ≤ 9223372036854775807) (hml : ∀ m ∈ l, m.length ≤ 9223372036854775807) : APure Tryd.prog Γ 3 [.slice 0 (rowsA l)] fun v => v = .bool true := by
  have hrl := rowsA_len l
  by_cases h12 : 12 < l.length
  · refine APure.of_awp Tryd.func3 rfl (Nat.le_of_ble_eq_true (by kernel_rfl)) (by kernel_rfl) ?_
    intro s
    conv => whnf
    repeat' (first
      | (exfalso; first | omega | exact (by assumption : ¬ True) trivial | fail)
      | (refine ⟨Sub.refl _, ?_⟩)
      | (refine brA_split (fun h => ?_) (fun h => ?_) <;> (try rw [h]) <;> (try simp only [Bool.false_eq_true, Bool.true_eq_false, ↓reduceIte, decide_eq_true_eq, decide_eq_false_iff_not, Bool.not_eq_true', Bool.not_eq_false'] at h) <;> (conv => whnf))
      | (refine ACalls.pure' ?_ (awake_ok hE); rintro _ rfl; conv => whnf)
      | (refine DCall.pure ?_ (awake_ok hE); conv => whnf)
      | (refine getB_same ?_; conv => whnf)
      | (refine AWp.any (by kernel_rfl) (by kernel_rfl) (by kernel_rfl) ?_; conv => whnf)
      | (apply And.intro; (focus (first | omega | rfl | decide | exact Nat.le_of_ble_eq_true rfl | ((repeat' (first | exact all_nil | refine all_cons ?_ ?_ | rfl | fail)); done) | (simp [-List.length_flatMap]; done) | (simp [-List.length_flatMap]; omega) | fail)); conv => whnf)
      | fail)
    rfl
  · refine APure.of_awp Tryd.func3 rfl (Nat.le_of_ble_eq_true (by kernel_rfl)) (by kernel_rfl) ?_
    intro s
    conv => whnf
    repeat' (first
      | (exfalso; first | omega | exact (by assumption : ¬ True) trivial | fail)
      | (refine ⟨Sub.refl _, ?_⟩)
      | (refine brA_split (fun h => ?_) (fun h => ?_) <;> (try rw [h]) <;> (try simp only [Bool.false_eq_true, Bool.true_eq_false, ↓reduceIte, decide_eq_true_eq, decide_eq_false_iff_not, Bool.not_eq_true', Bool.not_eq_false'] at h) <;> (conv => whnf))
      | (refine getB_same ?_; conv => whnf)
      | (refine AWp.any (by kernel_rfl) (by kernel_rfl) (by kernel_rfl) ?_; conv => whnf)
      | (apply And.intro; (focus (first | omega | rfl | decide | exact Nat.le_of_ble_eq_true rfl | ((repeat' (first | exact all_nil | refine all_cons ?_ ?_ | rfl | fail)); done) | (simp [-List.length_flatMap]; done) | (simp [-List.length_flatMap]; omega) | fail)); conv => whnf)
      | fail)
    refine AWp.loopA [3, 4, 5, 6, 7] [17, 18, 19, 20, 23, 24, 25, 26, 27, 28, 29, 2, 8, 30, 31, 32, 33, 34, 35, 36, 37, 38, 39, 40, 41, 42, 43, 44, 45, 46, 47, 48, 49, 50, 51, 52, 53, 54, 55, 56, 57, 9, 58, 59, 60, 61, 62, 63, 64, 67, 68, 69, 70, 71, 72, 73, 74, 75, 76, 77, 78, 79, 80, 81, 82, 83, 84, 85, 86, 87, 88, 89, 90, 91, 92, 93, 94, 95, 96, 97, 98, 99, 100, 101, 102, 103, 104, 105, 106, 107, 108, 109, 110, 65, 66, 21, 22] (fun x : Nat × Nat => [.str (textT (full (l.take x.1))), .int .i64 ((longOf (full (l.take x.1))).1 : Nat), .int .i64 ((longOf (full (l.take x.1))).2 : Nat), .slice x.2 (rowsA (full (l.take x.1))), .int .i64 x.1]) (fun x s' => x.1 ≤ l.length ∧ Own s s' (full (l.take x.1)).isEmpty x.2 24 1 ∧ ∀ m ∈ l.take x.1, m.length ≤ 12 ∧ ∀ y ∈ m, y.length ≤ 5000) (fun x => l.length - x.1) ((0, 1)) (by kernel_rfl) (by (repeat' (first | refine cons_eq ?_ ?_ | refine int64_of ?_ ?_ ?_ | rfl | omega))) ?_ ?_
    · exact ⟨Nat.zero_le _, Own.nil _ _ _, fun m hm => (by cases hm)⟩
    · rintro x ⟨i, t⟩ s1 ⟨hi, ho, hok⟩
      simp only at hi ho hok
      show awp _ _ _ _ _ (updL _ _ [.str (textT (full (l.take i))), .int .i64 ((longOf (full (l.take i))).1 : Nat), .int .i64 ((longOf (full (l.take i))).2 : Nat), .slice t (rowsA (full (l.take i))), .int .i64 (i : Int)]) _
      conv => whnf
      by_cases hlt : i < l.length
      · have hg := rowsA_get hlt
        have hmm : l.getD i [] ∈ l := by simp [List.getD, hlt]
        have hsm := hs _ hmm
        have htk := take_row hlt
        have hfa := full_add (l.take i) (l.getD i [])
        rw [← htk] at hfa
        have htl := text_small (full (l.take i)) (fun m hm => hok m (full_mem hm))
        have hfl := full_len (l.take i)
        rw [List.length_take] at hfl
        generalize l.getD i [] = m at *
        have hll := strsA_len m
        have hjn := joinT_len m hsm
        have hln : (lineT m).length = (joinT m).length + 2 := by simp [lineT]
        have hrow : m.length ≤ 12 → (∀ x ∈ m, x.length ≤ 5000) → ∀ z ∈ l.take (i + 1), z.length ≤ 12 ∧ ∀ y ∈ z, y.length ≤ 5000 := by
          intro h1 h2 z hz
          rw [htk] at hz
          rcases List.mem_append.1 hz with hz | hz
          · exact hok z hz
          · obtain rfl := List.mem_singleton.1 hz
            exact ⟨h1, h2⟩
        have hwi : IntKind.i64.wrap ((i : Int) + 1) = ((i + 1 : Nat) : Int) := i64_of (by omega) (by omega) (by omega)
        by_cases hm12 : 12 < m.length
        · repeat' (first
            | (exfalso; first | omega | exact (by assumption : ¬ True) trivial | fail)
            | (refine ⟨Sub.refl _, ?_⟩)
            | (refine brA_split (fun h => ?_) (fun h => ?_) <;> (try rw [h]) <;> (try simp only [Bool.false_eq_true, Bool.true_eq_false, ↓reduceIte, decide_eq_true_eq, decide_eq_false_iff_not, Bool.not_eq_true', Bool.not_eq_false'] at h) <;> (conv => whnf))
            | (rw [show (rowsA l).getD ((i : Int)).toNat [] = _ from hg]; conv => whnf)
            | (refine ACalls.pure' ?_ (awake_ok hE); rintro _ rfl; conv => whnf)
            | (refine DCall.pure ?_ (awake_ok hE); conv => whnf)
            | (refine getB_same ?_; conv => whnf)
            | (refine AWp.any (by kernel_rfl) (by kernel_rfl) (by kernel_rfl) ?_; conv => whnf)
            | (apply And.intro; (focus (first | omega | rfl | decide | exact Nat.le_of_ble_eq_true rfl | ((repeat' (first | exact all_nil | refine all_cons ?_ ?_ | rfl | fail)); done) | (simp [-List.length_flatMap]; done) | (simp [-List.length_flatMap]; omega) | fail)); conv => whnf)
            | fail)
          first | exact ⟨ho.sub, rfl⟩ | rfl
        · have hline := line_ok hM 0 m (by omega) hsm
          by_cases hm0 : m = []
          · rw [if_pos hm0] at hline hfa
            have hlen0 : m.length = 0 := by rw [hm0]; rfl
            repeat' (first
              | (exfalso; first | omega | exact (by assumption : ¬ True) trivial | fail)
              | (refine ⟨Sub.refl _, ?_⟩)
              | (refine brA_split (fun h => ?_) (fun h => ?_) <;> (try rw [h]) <;> (try simp only [Bool.false_eq_true, Bool.true_eq_false, ↓reduceIte, decide_eq_true_eq, decide_eq_false_iff_not, Bool.not_eq_true', Bool.not_eq_false'] at h) <;> (conv => whnf))
              | (rw [show (rowsA l).getD ((i : Int)).toNat [] = _ from hg]; conv => whnf)
              | (refine ACalls.pure' ?_ (hline); rintro _ rfl; conv => whnf)
              | (refine DCall.pure ?_ (hline); conv => whnf)
              | (refine getB_same ?_; conv => whnf)
              | (refine AWp.any (by kernel_rfl) (by kernel_rfl) (by kernel_rfl) ?_; conv => whnf)
              | (apply And.intro; (focus (first | omega | rfl | decide | exact Nat.le_of_ble_eq_true rfl | ((repeat' (first | exact all_nil | refine all_cons ?_ ?_ | rfl | fail)); done) | (simp [-List.length_flatMap]; done) | (simp [-List.length_flatMap]; omega) | fail)); conv => whnf)
              | fail)
            refine AWp.loopA [4, 5, 9] [58, 59, 60, 61, 62, 63, 64, 67, 68, 69, 70, 71, 72, 73, 74, 75, 76, 2, 77, 78, 79, 80, 81, 82, 83, 84, 85, 86, 87, 88, 89, 90, 91, 92, 93, 94, 95, 96, 97, 98, 99, 100, 101, 102, 103, 104, 105, 106, 107, 108, 109, 110, 65, 66] (fun k : Nat => [.int .i64 ((longOf (full (l.take i) ++ [m.take k])).1 : Nat), .int .i64 ((longOf (full (l.take i) ++ [m.take k])).2 : Nat), .int .i64 k]) (fun k s' => k ≤ m.length ∧ s' = s1 ∧ (∀ x ∈ m.take k, x.length ≤ 5000)) (fun k => m.length - k) (0) (by kernel_rfl) (cons_eq (show AV.int .i64 ((longOf (full (l.take i))).1 : Nat) = AV.int .i64 ((longOf (full (l.take i) ++ [m.take 0])).1 : Nat) by rw [List.take_zero, long_nil]) (cons_eq (show AV.int .i64 ((longOf (full (l.take i))).2 : Nat) = AV.int .i64 ((longOf (full (l.take i) ++ [m.take 0])).2 : Nat) by rw [List.take_zero, long_nil]) (cons_eq rfl rfl))) ?_ ?_
            · exact ⟨Nat.zero_le _, rfl, fun x hx => (by cases hx)⟩
            · rintro x k _ ⟨hk, rfl, h5⟩
              show awp _ _ _ _ _ (updL _ _ [.int .i64 ((longOf (full (l.take i) ++ [m.take k])).1 : Nat), .int .i64 ((longOf (full (l.take i) ++ [m.take k])).2 : Nat), .int .i64 (k : Int)]) _
              conv => whnf
              by_cases hkl : k < m.length
              · omega
              · obtain rfl : k = m.length := by omega
                rw [List.take_length] at *
                repeat' (first
                  | (exfalso; first | omega | exact (by assumption : ¬ True) trivial | fail)
                  | (refine ⟨Sub.refl _, ?_⟩)
                  | (refine brA_split (fun h => ?_) (fun h => ?_) <;> (try rw [h]) <;> (try simp only [Bool.false_eq_true, Bool.true_eq_false, ↓reduceIte, decide_eq_true_eq, decide_eq_false_iff_not, Bool.not_eq_true', Bool.not_eq_false'] at h) <;> (conv => whnf))
                  | (rw [show (rowsA l).getD ((i : Int)).toNat [] = _ from hg]; conv => whnf)
                  | (refine getB_same ?_; conv => whnf)
                  | (refine AWp.any (by kernel_rfl) (by kernel_rfl) (by kernel_rfl) ?_; conv => whnf)
                  | (apply And.intro; (focus (first | omega | rfl | decide | exact Nat.le_of_ble_eq_true rfl | ((repeat' (first | exact all_nil | refine all_cons ?_ ?_ | rfl | fail)); done) | (simp [-List.length_flatMap]; done) | (simp [-List.length_flatMap]; omega) | fail)); conv => whnf)
                  | fail)
                exact ⟨(i + 1, t), by (simp only; rw [hfa]; exact cons_eq (congrArg AV.str (List.append_nil _)) (cons_eq (show AV.int .i64 ((longOf (full (l.take i) ++ [m])).1 : Nat) = AV.int .i64 ((longOf (full (l.take i))).1 : Nat) by rw [hm0, long_nil]) (cons_eq (show AV.int .i64 ((longOf (full (l.take i) ++ [m])).2 : Nat) = AV.int .i64 ((longOf (full (l.take i))).2 : Nat) by rw [hm0, long_nil]) (cons_eq rfl (cons_eq (congrArg (AV.int .i64) hwi) rfl))))), by (repeat (first | exact Same.refl _ _ | refine Same.upd rfl ?_ | refine Same.updL rfl ?_ | refine Same.havoc rfl ?_)), ⟨by simp only; omega, by (simp only; rw [hfa]; exact ho), hrow (by omega) h5⟩, by simp only; omega⟩
          · rw [if_neg hm0] at hline hfa
            have hpos : 0 < m.length := List.length_pos_iff.2 hm0
            have hrf := refLine_ok (Γ := Γ) 0 m (by omega) hsm
            repeat' (first
              | (exfalso; first | omega | exact (by assumption : ¬ True) trivial | fail)
              | (refine ⟨Sub.refl _, ?_⟩)
              | (refine brA_split (fun h => ?_) (fun h => ?_) <;> (try rw [h]) <;> (try simp only [Bool.false_eq_true, Bool.true_eq_false, ↓reduceIte, decide_eq_true_eq, decide_eq_false_iff_not, Bool.not_eq_true', Bool.not_eq_false'] at h) <;> (conv => whnf))
              | (rw [show (rowsA l).getD ((i : Int)).toNat [] = _ from hg]; conv => whnf)
              | (refine ACalls.pure' ?_ (hline); rintro _ rfl; conv => whnf)
              | (refine DCall.pure ?_ (hline); conv => whnf)
              | (refine ACalls.pure' ?_ (hrf); rintro _ rfl; conv => whnf)
              | (refine DCall.pure ?_ (hrf); conv => whnf)
              | (refine getB_same ?_; conv => whnf)
              | (refine AWp.any (by kernel_rfl) (by kernel_rfl) (by kernel_rfl) ?_; conv => whnf)
              | (apply And.intro; (focus (first | omega | rfl | decide | exact Nat.le_of_ble_eq_true rfl | ((repeat' (first | exact all_nil | refine all_cons ?_ ?_ | rfl | fail)); done) | (simp [-List.length_flatMap]; done) | (simp [-List.length_flatMap]; omega) | fail)); conv => whnf)
              | fail)
            have hrf2 := rowsA_len (full (l.take i))
            refine ⟨ho.may, fun c hc => ?_, all_cons ⟨rfl, rfl⟩ all_nil, ?_, ?_⟩
            · obtain ⟨w, _, rfl⟩ := List.mem_map.1 hc; rfl
            · show ((rowsA (full (l.take i))).length + 1) * (24 + 1) ≤ _
              rw [hrf2]; omega
            intro t2 k1 k2
            have k3 := ho.grow k1 k2
            have htk2 : (full (l.take i) ++ [m]).isEmpty = ((full (l.take i)).isEmpty && false) := by cases full (l.take i) <;> rfl
            conv => whnf
            repeat' (first
              | (exfalso; first | omega | exact (by assumption : ¬ True) trivial | fail)
              | (refine ⟨Sub.refl _, ?_⟩)
              | (refine brA_split (fun h => ?_) (fun h => ?_) <;> (try rw [h]) <;> (try simp only [Bool.false_eq_true, Bool.true_eq_false, ↓reduceIte, decide_eq_true_eq, decide_eq_false_iff_not, Bool.not_eq_true', Bool.not_eq_false'] at h) <;> (conv => whnf))
              | (rw [show (rowsA l).getD ((i : Int)).toNat [] = _ from hg]; conv => whnf)
              | (refine ACalls.pure' ?_ (hline); rintro _ rfl; conv => whnf)
              | (refine DCall.pure ?_ (hline); conv => whnf)
              | (refine ACalls.pure' ?_ (hrf); rintro _ rfl; conv => whnf)
              | (refine DCall.pure ?_ (hrf); conv => whnf)
              | (refine getB_same ?_; conv => whnf)
              | (refine AWp.any (by kernel_rfl) (by kernel_rfl) (by kernel_rfl) ?_; conv => whnf)
              | (apply And.intro; (focus (first | omega | rfl | decide | exact Nat.le_of_ble_eq_true rfl | ((repeat' (first | exact all_nil | refine all_cons ?_ ?_ | rfl | fail)); done) | (simp [-List.length_flatMap]; done) | (simp [-List.length_flatMap]; omega) | fail)); conv => whnf)
              | fail)
            refine AWp.loopA [4, 5, 9] [58, 59, 60, 61, 62, 63, 64, 67, 68, 69, 70, 71, 72, 73, 74, 75, 76, 2, 77, 78, 79, 80, 81, 82, 83, 84, 85, 86, 87, 88, 89, 90, 91, 92, 93, 94, 95, 96, 97, 98, 99, 100, 101, 102, 103, 104, 105, 106, 107, 108, 109, 110, 65, 66] (fun k : Nat => [.int .i64 ((longOf (full (l.take i) ++ [m.take k])).1 : Nat), .int .i64 ((longOf (full (l.take i) ++ [m.take k])).2 : Nat), .int .i64 k]) (fun k s' => k ≤ m.length ∧ s' = (s1.grow t t2 24 1) ∧ (∀ x ∈ m.take k, x.length ≤ 5000)) (fun k => m.length - k) (0) (by kernel_rfl) (cons_eq (show AV.int .i64 ((longOf (full (l.take i))).1 : Nat) = AV.int .i64 ((longOf (full (l.take i) ++ [m.take 0])).1 : Nat) by rw [List.take_zero, long_nil]) (cons_eq (show AV.int .i64 ((longOf (full (l.take i))).2 : Nat) = AV.int .i64 ((longOf (full (l.take i) ++ [m.take 0])).2 : Nat) by rw [List.take_zero, long_nil]) (cons_eq rfl rfl))) ?_ ?_
            · exact ⟨Nat.zero_le _, rfl, fun x hx => (by cases hx)⟩
            · rintro x k _ ⟨hk, rfl, h5⟩
              show awp _ _ _ _ _ (updL _ _ [.int .i64 ((longOf (full (l.take i) ++ [m.take k])).1 : Nat), .int .i64 ((longOf (full (l.take i) ++ [m.take k])).2 : Nat), .int .i64 (k : Int)]) _
              conv => whnf
              by_cases hkl : k < m.length
              · have hgz := strsA_get hkl
                have hzm : m.getD k [] ∈ m := by simp [List.getD, hkl]
                have hz := hsm _ hzm
                have hst := long_step (full (l.take i)) hkl
                have htz := take_str hkl
                generalize m.getD k [] = z at *
                have hw : IntKind.i64.wrap ((k : Int) + 1) = ((k + 1 : Nat) : Int) := i64_of (by omega) (by omega) (by omega)
                repeat' (first
                  | (exfalso; first | omega | exact (by assumption : ¬ True) trivial | fail)
                  | (refine ⟨Sub.refl _, ?_⟩)
                  | (refine brA_split (fun h => ?_) (fun h => ?_) <;> (try rw [h]) <;> (try simp only [Bool.false_eq_true, Bool.true_eq_false, ↓reduceIte, decide_eq_true_eq, decide_eq_false_iff_not, Bool.not_eq_true', Bool.not_eq_false'] at h) <;> (conv => whnf))
                  | (rw [show (rowsA l).getD ((i : Int)).toNat [] = _ from hg]; conv => whnf)
                  | (rw [show (strsA m).getD ((k : Int)).toNat [] = _ from hgz]; conv => whnf)
                  | (refine ACalls.pure' ?_ (field_ok hM z hz); rintro _ rfl; conv => whnf)
                  | (refine DCall.pure ?_ (field_ok hM z hz); conv => whnf)
                  | (refine ACalls.pure' ?_ (refQuoted_ok z hz); rintro _ rfl; conv => whnf)
                  | (refine DCall.pure ?_ (refQuoted_ok z hz); conv => whnf)
                  | (refine ACalls.pure' ?_ (awake_ok hE); rintro _ rfl; conv => whnf)
                  | (refine DCall.pure ?_ (awake_ok hE); conv => whnf)
                  | (refine getB_same ?_; conv => whnf)
                  | (refine AWp.any (by kernel_rfl) (by kernel_rfl) (by kernel_rfl) ?_; conv => whnf)
                  | (apply And.intro; (focus (first | omega | rfl | decide | exact Nat.le_of_ble_eq_true rfl | ((repeat' (first | exact all_nil | refine all_cons ?_ ?_ | rfl | fail)); done) | (simp [-List.length_flatMap]; done) | (simp [-List.length_flatMap]; omega) | fail)); conv => whnf)
                  | fail)
                all_goals first | (exfalso; revert h; simp; done) | exact ⟨k3.sub, rfl⟩ | skip
                all_goals have h5' : ∀ x ∈ m.take (k + 1), x.length ≤ 5000 := (by
                  intro x hx
                  rw [htz] at hx
                  rcases List.mem_append.1 hx with hx | hx
                  · exact h5 x hx
                  · obtain rfl := List.mem_singleton.1 hx
                    omega)
                all_goals refine ⟨k + 1, ?_, by (repeat (first | exact Same.refl _ _ | refine Same.upd rfl ?_ | refine Same.updL rfl ?_ | refine Same.havoc rfl ?_)), ⟨by omega, by first | rfl | trivial, h5'⟩, by omega⟩
                · rw [hst, if_pos ⟨by omega, by omega⟩]
                  exact cons_eq (congrArg (fun n : Nat => AV.int .i64 (n : Int)) (by rw [List.length_append, rowsA_len]; rfl)) (cons_eq (congrArg (AV.int .i64) hw) (cons_eq (congrArg (AV.int .i64) hw) rfl))
                all_goals rw [hst, if_neg (by omega)]
                all_goals exact cons_eq rfl (cons_eq rfl (cons_eq (congrArg (AV.int .i64) hw) rfl))
              · obtain rfl : k = m.length := by omega
                rw [List.take_length] at *
                repeat' (first
                  | (exfalso; first | omega | exact (by assumption : ¬ True) trivial | fail)
                  | (refine ⟨Sub.refl _, ?_⟩)
                  | (refine brA_split (fun h => ?_) (fun h => ?_) <;> (try rw [h]) <;> (try simp only [Bool.false_eq_true, Bool.true_eq_false, ↓reduceIte, decide_eq_true_eq, decide_eq_false_iff_not, Bool.not_eq_true', Bool.not_eq_false'] at h) <;> (conv => whnf))
                  | (rw [show (rowsA l).getD ((i : Int)).toNat [] = _ from hg]; conv => whnf)
                  | (refine getB_same ?_; conv => whnf)
                  | (refine AWp.any (by kernel_rfl) (by kernel_rfl) (by kernel_rfl) ?_; conv => whnf)
                  | (apply And.intro; (focus (first | omega | rfl | decide | exact Nat.le_of_ble_eq_true rfl | ((repeat' (first | exact all_nil | refine all_cons ?_ ?_ | rfl | fail)); done) | (simp [-List.length_flatMap]; done) | (simp [-List.length_flatMap]; omega) | fail)); conv => whnf)
                  | fail)
                exact ⟨(i + 1, t2), by (simp only; rw [hfa, textT_add]; exact cons_eq rfl (cons_eq rfl (cons_eq rfl (cons_eq (congrArg (AV.slice t2) (rowsA_app _ _)) (cons_eq (congrArg (AV.int .i64) hwi) rfl))))), by (repeat (first | exact Same.refl _ _ | refine Same.upd rfl ?_ | refine Same.updL rfl ?_ | refine Same.havoc rfl ?_)), ⟨by simp only; omega, by (simp only; rw [hfa, htk2]; exact k3), hrow (by omega) h5⟩, by simp only; omega⟩
      · obtain rfl : i = l.length := by omega
        rw [List.take_length] at *
        have htl := text_small (full l) (fun m hm => hok m (full_mem hm))
        have hfl := full_len l
        have h1 := progAll_ok hE (textT (full l)) (by omega)
        have hab := all_back (full l) ((textT (full l)).length + 1) 0 (full_ne l) (Nat.lt_succ_self _)
        rw [show allF ((textT (full l)).length + 1) 0 (textT (full l)) = all (textT (full l)) from rfl] at hab
        have hle := longOf_le (full l)
        rw [hab] at h1
        have hol := rowsA_len (full l)
        have hfm : ∀ m ∈ full l, m.length ≤ 12 := fun m hm => (hok m (full_mem hm)).1
        generalize full l = F at *
        by_cases hz : (longOf F).1 = 0
        · rw [if_pos hz] at h1
          simp only [allA] at h1
          repeat' (first
            | (exfalso; first | omega | exact (by assumption : ¬ True) trivial | fail)
            | (refine ⟨Sub.refl _, ?_⟩)
            | (refine brA_split (fun h => ?_) (fun h => ?_) <;> (try rw [h]) <;> (try simp only [Bool.false_eq_true, Bool.true_eq_false, ↓reduceIte, decide_eq_true_eq, decide_eq_false_iff_not, Bool.not_eq_true', Bool.not_eq_false'] at h) <;> (conv => whnf))
            | (refine ACalls.pure' ?_ (h1); rintro _ rfl; conv => whnf)
            | (refine DCall.pure ?_ (h1); conv => whnf)
            | (refine getB_same ?_; conv => whnf)
            | (refine AWp.any (by kernel_rfl) (by kernel_rfl) (by kernel_rfl) ?_; conv => whnf)
            | (apply And.intro; (focus (first | omega | rfl | decide | exact Nat.le_of_ble_eq_true rfl | ((repeat' (first | exact all_nil | refine all_cons ?_ ?_ | rfl | fail)); done) | (simp [-List.length_flatMap]; done) | (simp [-List.length_flatMap]; omega) | fail)); conv => whnf)
            | fail)
          intro b hb
          conv => whnf
          repeat' (first
            | (exfalso; first | omega | exact (by assumption : ¬ True) trivial | fail)
            | (refine ⟨Sub.refl _, ?_⟩)
            | (refine brA_split (fun h => ?_) (fun h => ?_) <;> (try rw [h]) <;> (try simp only [Bool.false_eq_true, Bool.true_eq_false, ↓reduceIte, decide_eq_true_eq, decide_eq_false_iff_not, Bool.not_eq_true', Bool.not_eq_false'] at h) <;> (conv => whnf))
            | (refine getB_of (by ((repeat (first | exact set_bx_same | assumption | refine (set_bx_other (by assumption)).trans ?_ | refine grow_bx.trans ?_)); done)) ?_; conv => whnf)
            | (refine EqAgg.of grdFail planFail ?_; conv => whnf)
            | (refine getB_same ?_; conv => whnf)
            | (refine AWp.any (by kernel_rfl) (by kernel_rfl) (by kernel_rfl) ?_; conv => whnf)
            | (apply And.intro; (focus (first | omega | rfl | decide | exact Nat.le_of_ble_eq_true rfl | ((repeat' (first | exact all_nil | refine all_cons ?_ ?_ | rfl | fail)); done) | (simp [-List.length_flatMap]; done) | (simp [-List.length_flatMap]; omega) | fail)); conv => whnf)
            | fail)
          all_goals first | (exfalso; revert h; simp [hol]; done) | skip
          refine AWp.loopA [12] [143, 144, 145, 146, 149, 150, 151, 152, 153, 154, 155, 156, 157, 158, 2, 147, 148] (fun i : Nat => [.int .i64 i]) (fun i s' => i ≤ F.length ∧ Sub s s') (fun i => F.length - i) (0) (by kernel_rfl) (by (repeat' (first | refine cons_eq ?_ ?_ | refine int64_of ?_ ?_ ?_ | rfl | omega))) ?_ ?_
          · exact ⟨by omega, (ho.sub.set (ho.sub.none hb) _ _).set (ho.sub.none hb) _ _⟩
          · rintro y i s2 ⟨hi2, hs2⟩
            show awp _ _ _ _ _ (updL _ _ [.int .i64 (i : Int)]) _
            conv => whnf
            by_cases hlt2 : i < F.length
            · have hg := rowsA_get hlt2
              have hlen : (F.getD i []).length ≤ 10000000 := by
                have := hfm (F.getD i []) (by simp [List.getD, hlt2])
                omega
              generalize F.getD i [] = z at *
              repeat' (first
                | (exfalso; first | omega | exact (by assumption : ¬ True) trivial | fail)
                | (refine ⟨Sub.refl _, ?_⟩)
                | (refine brA_split (fun h => ?_) (fun h => ?_) <;> (try rw [h]) <;> (try simp only [Bool.false_eq_true, Bool.true_eq_false, ↓reduceIte, decide_eq_true_eq, decide_eq_false_iff_not, Bool.not_eq_true', Bool.not_eq_false'] at h) <;> (conv => whnf))
                | (rw [show (rowsA F).getD ((i : Int)).toNat [] = _ from hg]; conv => whnf)
                | (refine ACalls.pure' ?_ (same_refl 0 0 z hlen); rintro _ rfl; conv => whnf)
                | (refine DCall.pure ?_ (same_refl 0 0 z hlen); conv => whnf)
                | (refine getB_same ?_; conv => whnf)
                | (refine AWp.any (by kernel_rfl) (by kernel_rfl) (by kernel_rfl) ?_; conv => whnf)
                | (apply And.intro; (focus (first | omega | rfl | decide | exact Nat.le_of_ble_eq_true rfl | ((repeat' (first | exact all_nil | refine all_cons ?_ ?_ | rfl | fail)); done) | (simp [-List.length_flatMap]; done) | (simp [-List.length_flatMap]; omega) | fail)); conv => whnf)
                | fail)
              exact ⟨i + 1, by (repeat' (first | refine cons_eq ?_ ?_ | refine int64_of ?_ ?_ ?_ | rfl | omega)), by (repeat (first | exact Same.refl _ _ | refine Same.upd rfl ?_ | refine Same.updL rfl ?_ | refine Same.havoc rfl ?_)), ⟨by omega, hs2⟩, by omega⟩
            · repeat' (first
                | (exfalso; first | omega | exact (by assumption : ¬ True) trivial | fail)
                | (refine ⟨Sub.refl _, ?_⟩)
                | (refine brA_split (fun h => ?_) (fun h => ?_) <;> (try rw [h]) <;> (try simp only [Bool.false_eq_true, Bool.true_eq_false, ↓reduceIte, decide_eq_true_eq, decide_eq_false_iff_not, Bool.not_eq_true', Bool.not_eq_false'] at h) <;> (conv => whnf))
                | (refine ACalls.pure' ?_ (awake_ok hE); rintro _ rfl; conv => whnf)
                | (refine DCall.pure ?_ (awake_ok hE); conv => whnf)
                | (refine getB_same ?_; conv => whnf)
                | (refine AWp.any (by kernel_rfl) (by kernel_rfl) (by kernel_rfl) ?_; conv => whnf)
                | (apply And.intro; (focus (first | omega | rfl | decide | exact Nat.le_of_ble_eq_true rfl | ((repeat' (first | exact all_nil | refine all_cons ?_ ?_ | rfl | fail)); done) | (simp [-List.length_flatMap]; done) | (simp [-List.length_flatMap]; omega) | fail)); conv => whnf)
                | fail)
              first | exact ⟨hs2, rfl⟩ | rfl
        · rw [if_neg hz] at h1
          simp only [allA] at h1
          have hw1 : IntKind.i64.wrap (((longOf F).1 : Int) - 1) = (((longOf F).1 - 1 : Nat) : Int) := i64_of (by omega) (by omega) (by omega)
          have hrl2 : (rowsA (F.take ((longOf F).1 - 1))).length = (longOf F).1 - 1 := by rw [rowsA_len, List.length_take]; omega
          rw [Int.zero_add] at h1
          repeat' (first
            | (exfalso; first | omega | exact (by assumption : ¬ True) trivial | fail)
            | (refine ⟨Sub.refl _, ?_⟩)
            | (refine brA_split (fun h => ?_) (fun h => ?_) <;> (try rw [h]) <;> (try simp only [Bool.false_eq_true, Bool.true_eq_false, ↓reduceIte, decide_eq_true_eq, decide_eq_false_iff_not, Bool.not_eq_true', Bool.not_eq_false'] at h) <;> (conv => whnf))
            | (refine ACalls.pure' ?_ (h1); rintro _ rfl; conv => whnf)
            | (refine DCall.pure ?_ (h1); conv => whnf)
            | (refine getB_same ?_; conv => whnf)
            | (refine AWp.any (by kernel_rfl) (by kernel_rfl) (by kernel_rfl) ?_; conv => whnf)
            | (apply And.intro; (focus (first | omega | rfl | decide | exact Nat.le_of_ble_eq_true rfl | ((repeat' (first | exact all_nil | refine all_cons ?_ ?_ | rfl | fail)); done) | (simp [-List.length_flatMap]; done) | (simp [-List.length_flatMap]; omega) | fail)); conv => whnf)
            | fail)
          intro b hb
          conv => whnf
          repeat' (first
            | (exfalso; first | omega | exact (by assumption : ¬ True) trivial | fail)
            | (refine ⟨Sub.refl _, ?_⟩)
            | (refine brA_split (fun h => ?_) (fun h => ?_) <;> (try rw [h]) <;> (try simp only [Bool.false_eq_true, Bool.true_eq_false, ↓reduceIte, decide_eq_true_eq, decide_eq_false_iff_not, Bool.not_eq_true', Bool.not_eq_false'] at h) <;> (conv => whnf))
            | (refine getB_of (by ((repeat (first | exact set_bx_same | assumption | refine (set_bx_other (by assumption)).trans ?_ | refine grow_bx.trans ?_)); done)) ?_; conv => whnf)
            | (rw [hw1]; conv => whnf)
            | (refine ACalls.pure' ?_ (awake_ok hE); rintro _ rfl; conv => whnf)
            | (refine DCall.pure ?_ (awake_ok hE); conv => whnf)
            | (refine EqAgg.of grdFail planFail ?_; conv => whnf)
            | (refine getB_same ?_; conv => whnf)
            | (refine AWp.any (by kernel_rfl) (by kernel_rfl) (by kernel_rfl) ?_; conv => whnf)
            | (apply And.intro; (focus (first | omega | rfl | decide | exact Nat.le_of_ble_eq_true rfl | ((repeat' (first | exact all_nil | refine all_cons ?_ ?_ | rfl | fail)); done) | (simp [-List.length_flatMap]; done) | (simp [-List.length_flatMap]; omega) | fail)); conv => whnf)
            | fail)
          · exact ⟨(ho.sub.set (ho.sub.none hb) _ _).set (ho.sub.none hb) _ _, rfl⟩
          all_goals (exfalso; revert h; simp)
end Go.Proofs.YthgpipfkcbekiaaDoor.Cv
