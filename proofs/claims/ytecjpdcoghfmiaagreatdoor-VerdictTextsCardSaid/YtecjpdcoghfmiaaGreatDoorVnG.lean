/- Chapter 32: lists and their texts: the plain law. -/
import Derived.Test.YtecjpdcoghfmiaaGreatDoorVnB
import Derived.Test.YtecjpdcoghfmiaaGreatDoorNuV
import Derived.Test.YtecjpdcoghfmiaaGreatDoorVnC
import Derived.Test.YtecjpdcoghfmiaaGreatDoorNuW
import Derived.Test.YtecjpdcoghfmiaaGreatDoorShelf
import Derived.Test.YtecjpdcoghfmiaaGreatDoorAsV
set_option linter.all false
namespace Go.Proofs.YtecjpdcoghfmiaaGreatDoor.Vn
open Go Go.Ab Go.RowKit
set_option maxRecDepth 10000
set_option maxHeartbeats 1000000

/-- A text up to a byte, and what stands behind that. -/
def cutAt (c : UInt8) : List UInt8 → Option (List UInt8 × List UInt8)
  | [] => none
  | x :: r => if x = c then some ([], r) else match cutAt c r with
    | some y => some (x :: y.1, y.2)
    | none => none
theorem cutAt_app (c : UInt8) : ∀ a b : List UInt8, a.count c = 0 → cutAt c (a ++ c :: b) = some (a, b)
  | [], b, _ => by rw [List.nil_append, cutAt, if_pos rfl]
  | x :: a, b, h => by
    have hx : ¬ x = c := by rintro rfl; simp at h
    have ha : a.count c = 0 := by rw [List.count_cons_of_ne hx] at h; exact h
    rw [List.cons_append, cutAt, if_neg hx, cutAt_app c a b ha]
theorem cutAt_some (c : UInt8) : ∀ l a b : List UInt8, cutAt c l = some (a, b) → l = a ++ c :: b ∧ a.count c = 0
  | [], a, b => fun h => by cases h
  | x :: r, a, b => fun h => by
    rw [cutAt] at h
    split at h
    · rename_i hx
      cases h
      exact ⟨by rw [hx]; rfl, rfl⟩
    · rename_i hx
      split at h
      · rename_i y hy
        cases h
        obtain ⟨h1, h2⟩ := cutAt_some c r y.1 y.2 hy
        refine ⟨by rw [h1]; rfl, ?_⟩
        rw [List.count_cons_of_ne hx]; exact h2
      · cases h
/-- A line's verdict, and how often; or what is wrong. -/
def lineF (s : List UInt8) : Except Int (Int × Int) :=
  match cutAt 32 s with
  | none => .error 4
  | some (a, b) => if Nu.numE a ≠ 0 then .error (Nu.numE a) else if vof b = 0 then .error 11 else if Nu.numN a < 1 ∨ 16384 < Nu.numN a then .error 5 else .ok (vof b, Nu.numN a)
def lineT (r : Int × Int) : List UInt8 := Lib.itoa r.2 ++ 32 :: vname r.1
theorem vname_no10 (v : Int) : (vname v).count 10 = 0 := by
  unfold vname
  split
  · decide
  · split
    · decide
    · split
      · decide
      · split <;> decide
theorem digit_no {c : UInt8} {l : List UInt8} (hc : Nu.isD c = false) (h : l.all Nu.isD = true) : l.count c = 0 := by
  rw [List.count_eq_zero]
  intro hm
  have := List.all_eq_true.1 h c hm
  rw [hc] at this
  cases this
theorem itoa_pos {n : Int} (h : 1 ≤ n) : (Lib.itoa n).all Nu.isD = true := by
  unfold Lib.itoa
  rw [if_neg (by omega)]
  exact (Nu.dec_facts (n.toNat + 1) n.toNat (Nat.lt_succ_self _)).2.1
theorem vof_bound (l : List UInt8) : 0 ≤ vof l ∧ vof l ≤ 4 := by
  unfold vof
  split
  · decide
  · split
    · decide
    · split
      · decide
      · split <;> decide
theorem name_vof {l : List UInt8} (h : vof l ≠ 0) : vname (vof l) = l := by
  unfold vof at *
  split
  · rename_i e; rw [e]; rfl
  · rename_i e1
    rw [if_neg e1] at h
    split
    · rename_i e; rw [e]; rfl
    · rename_i e2
      rw [if_neg e2] at h
      split
      · rename_i e; rw [e]; rfl
      · rename_i e3
        rw [if_neg e3] at h
        split
        · rename_i e; rw [e]; rfl
        · rename_i e4
          rw [if_neg e4] at h
          exact absurd rfl h
theorem line_text {v n : Int} (hv : 1 ≤ v ∧ v ≤ 4) (hn : 1 ≤ n ∧ n ≤ 16384) : lineF (lineT (v, n)) = .ok (v, n) := by
  have hp := Nu.parse_itoa n (by unfold Nu.Fits; omega)
  unfold lineF lineT
  rw [cutAt_app 32 (Lib.itoa n) (vname v) (digit_no (by decide) (itoa_pos hn.1))]
  simp only
  rw [hp.2.2, if_neg (by decide), vof_name hv, if_neg (by omega), hp.2.1, if_neg (by omega)]
theorem numE_form {l : List UInt8} (h : Nu.numE l = 0) : Nu.formB l = true := by
  unfold Nu.numE at h
  cases hf : Nu.formB l
  · rw [hf] at h; cases h
  · rfl
theorem text_line {s : List UInt8} {v n : Int} (h : lineF s = .ok (v, n)) : s = lineT (v, n) ∧ (1 ≤ v ∧ v ≤ 4) ∧ 1 ≤ n ∧ n ≤ 16384 := by
  unfold lineF at h
  split at h
  · cases h
  · rename_i a b hc
    obtain ⟨hs, _⟩ := cutAt_some 32 s a b hc
    split at h
    · cases h
    · rename_i he
      split at h
      · cases h
      · rename_i hv
        split at h
        · cases h
        · rename_i hr
          simp only [Except.ok.injEq, Prod.mk.injEq] at h
          obtain ⟨rfl, rfl⟩ := h
          have hb := vof_bound b
          have he0 : Nu.numE a = 0 := by omega
          refine ⟨?_, by omega, by omega, by omega⟩
          unfold lineT
          rw [name_vof hv, Nu.itoa_parse (numE_form he0) he0, hs]
/-- The list of a text, behind another one; or what is wrong, and in which line. -/
def listF : Nat → List Int → Int → List UInt8 → Except (Int × Int) (List Int)
  | 0, out, _, _ => .ok out
  | k + 1, out, a, s => if s = [] then .ok out else match cutAt 10 s with
    | none => .error (2, a)
    | some (one, rest) => match lineF one with
      | .error e => .error (e, a)
      | .ok (v, n) => if out.getLast? = some v then .error (10, a) else if 16384 < out.length + n.toNat then .error (14, a) else listF k (out ++ List.replicate n.toNat v) (a + 1) rest
def textR : List (Int × Int) → List UInt8
  | [] => []
  | r :: R => lineT r ++ 10 :: textR R
def expand : List (Int × Int) → List Int
  | [] => []
  | r :: R => List.replicate r.2.toNat r.1 ++ expand R
/-- Runs of verdicts that may stand behind one: each other than the one ahead of it. -/
def okRuns : Option Int → List (Int × Int) → Prop
  | _, [] => True
  | p, r :: R => (1 ≤ r.1 ∧ r.1 ≤ 4) ∧ 1 ≤ r.2 ∧ p ≠ some r.1 ∧ okRuns (some r.1) R
theorem last_repl (out : List Int) (v : Int) {n : Nat} (h : 1 ≤ n) : (out ++ List.replicate n v).getLast? = some v := by
  obtain ⟨k, rfl⟩ : ∃ k, n = k + 1 := ⟨n - 1, by omega⟩
  rw [List.replicate_succ', ← List.append_assoc, List.getLast?_append]
  rfl
theorem lineT_no10 {r : Int × Int} (hn : 1 ≤ r.2) : (lineT r).count 10 = 0 := by
  unfold lineT
  rw [List.count_append, digit_no (by decide) (itoa_pos hn), List.count_cons_of_ne (by decide), vname_no10]
theorem list_text : ∀ (R : List (Int × Int)) (k : Nat) (out : List Int) (a : Int), okRuns out.getLast? R → (textR R).length < k → out.length + (expand R).length ≤ 16384 → listF k out a (textR R) = .ok (out ++ expand R)
  | [], 0, out, a => fun _ h _ => by omega
  | [], k + 1, out, a => fun _ _ _ => by rw [listF, textR, if_pos rfl, expand, List.append_nil]
  | r :: R, 0, out, a => fun _ h _ => by omega
  | r :: R, k + 1, out, a => fun hr hk hl => by
    obtain ⟨h1, h2, h3, h4⟩ := hr
    rw [expand, List.length_append, List.length_replicate] at hl
    have hlen : (textR (r :: R)).length = (lineT r).length + (textR R).length + 1 := by rw [textR, List.length_append, List.length_cons]; omega
    rw [hlen] at hk
    have hcut : cutAt 10 (textR (r :: R)) = some (lineT r, textR R) := cutAt_app 10 _ _ (lineT_no10 h2)
    have hln : lineF (lineT r) = .ok (r.1, r.2) := line_text h1 ⟨h2, by omega⟩
    rw [listF, if_neg (by intro h; rw [h] at hlen; simp at hlen), hcut]
    simp only [hln]
    rw [if_neg h3, if_neg (by omega), list_text R k _ _ (by rw [last_repl _ _ (by omega)]; exact h4) (by omega) (by rw [List.length_append, List.length_replicate]; omega), expand, List.append_assoc]
theorem text_list : ∀ (k : Nat) (out : List Int) (a : Int) (s : List UInt8) (res : List Int), listF k out a s = .ok res → s.length < k → ∃ R, okRuns out.getLast? R ∧ s = textR R ∧ res = out ++ expand R
  | 0, out, a, s, res => fun _ h => by omega
  | k + 1, out, a, s, res => fun h hk => by
    rw [listF] at h
    split at h
    · rename_i hs
      cases h
      exact ⟨[], trivial, hs, (List.append_nil _).symm⟩
    · split at h
      · cases h
      · rename_i one rest hc
        obtain ⟨hs, _⟩ := cutAt_some 10 s one rest hc
        split at h
        · cases h
        · rename_i v n hl
          obtain ⟨t1, t2, t3⟩ := text_line hl
          split at h
          · cases h
          · rename_i hlast
            split at h
            · cases h
            · obtain ⟨R, r1, r2, r3⟩ := text_list k _ _ rest res h (by rw [hs] at hk; simp only [List.length_append, List.length_cons] at hk; omega)
              rw [last_repl _ _ (by omega)] at r1
              exact ⟨(v, n) :: R, ⟨t2, t3.1, hlast, r1⟩, by rw [hs, r2, t1]; rfl, by rw [r3, expand, List.append_assoc]⟩
theorem step_repl (r : List (Int × Int)) (v : Int) : ∀ (k : Nat) (n : Int), (List.replicate k v).foldl runStep (r ++ [(v, n)]) = r ++ [(v, n + k)]
  | 0, n => by simp
  | k + 1, n => by
    rw [List.replicate_succ, List.foldl_cons, runStep_same rfl, step_repl r v k (n + 1), show n + 1 + (k : Int) = n + ((k + 1 : Nat) : Int) by omega]
theorem fold_expand : ∀ (R : List (Int × Int)) (r : List (Int × Int)), okRuns (r.getLast?.map (·.1)) R → (expand R).foldl runStep r = r ++ R
  | [], r => fun _ => by rw [expand, List.append_nil]; rfl
  | x :: R, r => fun h => by
    obtain ⟨_, h2, h3, h4⟩ := h
    obtain ⟨k, hk⟩ : ∃ k, x.2.toNat = k + 1 := ⟨x.2.toNat - 1, by omega⟩
    have hfirst : runStep r x.1 = r ++ [(x.1, 1)] := by
      rcases List.eq_nil_or_concat r with rfl | ⟨q, y, rfl⟩
      · rfl
      · rw [List.concat_eq_append] at h3 ⊢
        rw [List.getLast?_append] at h3
        exact runStep_other (fun hh => h3 (by simp [hh]))
    rw [expand, hk, List.foldl_append, List.replicate_succ, List.foldl_cons, hfirst, step_repl, fold_expand R _ (by rw [List.getLast?_append]; exact h4), show (1 : Int) + (k : Int) = x.2 by omega, List.append_assoc]
    rfl
theorem runs_expand {R : List (Int × Int)} (h : okRuns none R) : runsOf (expand R) = R := fold_expand R [] h
theorem expand_app : ∀ a b : List (Int × Int), expand (a ++ b) = expand a ++ expand b
  | [], b => rfl
  | x :: a, b => by rw [List.cons_append, expand, expand, expand_app a b, List.append_assoc]
/-- All that is so of runs: what they are of, and that they may stand. -/
theorem runs_all : ∀ l : List Int, expand (runsOf l) = l ∧ (∀ r ∈ runsOf l, 1 ≤ r.2 ∧ r.1 ∈ l) := by
  intro l
  have key : ∀ i : Nat, i ≤ l.length → expand (runsOf (l.take i)) = l.take i ∧ (∀ r ∈ runsOf (l.take i), 1 ≤ r.2 ∧ r.1 ∈ l) := by
    intro i
    induction i with
    | zero => intro _; exact ⟨rfl, fun r h => (by cases h)⟩
    | succ i ih =>
      intro hi
      obtain ⟨e1, e2⟩ := ih (by omega)
      have ht : l.take (i + 1) = l.take i ++ [l.getD i 0] := by
        rw [List.take_add_one]; simp [List.getD, show i < l.length by omega]
      have hm : l.getD i 0 ∈ l := by simp [List.getD, show i < l.length by omega]
      rw [runs_step (by omega), ht]
      rcases List.eq_nil_or_concat (runsOf (l.take i)) with h0 | ⟨q, ⟨v, n⟩, h0⟩
      · rw [h0] at e1 ⊢
        refine ⟨?_, fun r hr => ?_⟩
        · rw [← e1]; rfl
        · obtain rfl := List.mem_singleton.1 hr
          exact ⟨Int.le_refl _, hm⟩
      · rw [List.concat_eq_append] at h0
        rw [h0] at e1 e2 ⊢
        by_cases hv : v = l.getD i 0
        · rw [runStep_same hv]
          have hn := e2 (v, n) (by simp)
          refine ⟨?_, fun r hr => ?_⟩
          · rw [← e1, expand_app, expand_app, ← hv]
            show expand q ++ (List.replicate (n + 1).toNat v ++ []) = expand q ++ (List.replicate n.toNat v ++ []) ++ [v]
            rw [List.append_nil, List.append_nil, List.append_assoc, show (n + 1).toNat = n.toNat + 1 by have := hn.1; simp only at this; omega, List.replicate_succ']
          · rcases List.mem_append.1 hr with hr | hr
            · exact e2 r (List.mem_append_left _ hr)
            · obtain rfl := List.mem_singleton.1 hr
              exact ⟨by have := hn.1; simp only at this ⊢; omega, hn.2⟩
        · rw [runStep_other hv]
          refine ⟨?_, fun r hr => ?_⟩
          · rw [← e1, expand_app]; rfl
          · rcases List.mem_append.1 hr with hr | hr
            · exact e2 r hr
            · obtain rfl := List.mem_singleton.1 hr
              exact ⟨Int.le_refl _, hm⟩
  have := key l.length (Nat.le_refl _)
  rwa [List.take_length] at this
/-- Neighbours among runs are not of one verdict. -/
def apart : Option Int → List (Int × Int) → Prop
  | _, [] => True
  | p, r :: R => p ≠ some r.1 ∧ apart (some r.1) R
theorem apart_add : ∀ (R : List (Int × Int)) (p : Option Int) (x : Int × Int), apart p R → (match R.getLast? with | some y => some y.1 | none => p) ≠ some x.1 → apart p (R ++ [x])
  | [], p, x => fun _ h => ⟨h, trivial⟩
  | [y], p, x => fun h1 h2 => ⟨h1.1, h2, trivial⟩
  | y :: z :: R, p, x => fun h1 h2 => ⟨h1.1, apart_add (z :: R) (some y.1) x h1.2 (by
      rw [List.getLast?_cons_cons] at h2
      obtain ⟨w, hw⟩ : ∃ w, (z :: R).getLast? = some w := ⟨_, List.getLast?_cons⟩
      rw [hw] at h2 ⊢
      exact h2)⟩
theorem apart_more : ∀ (R : List (Int × Int)) (p : Option Int) (v n m : Int), apart p (R ++ [(v, n)]) → apart p (R ++ [(v, m)])
  | [], p, v, n, m => fun h => h
  | y :: R, p, v, n, m => fun h => ⟨h.1, apart_more R (some y.1) v n m h.2⟩
theorem runs_apart (l : List Int) : ∀ i : Nat, i ≤ l.length → apart none (runsOf (l.take i)) := by
  intro i
  induction i with
  | zero => intro _; exact trivial
  | succ i ih =>
    intro hi
    have e := ih (by omega)
    rw [runs_step (by omega)]
    rcases List.eq_nil_or_concat (runsOf (l.take i)) with h0 | ⟨q, ⟨v, n⟩, h0⟩
    · rw [h0]; exact ⟨fun h => (by cases h), trivial⟩
    · rw [List.concat_eq_append] at h0
      rw [h0] at e ⊢
      by_cases hv : v = l.getD i 0
      · rw [runStep_same hv]; exact apart_more q none v n (n + 1) e
      · rw [runStep_other hv]
        refine apart_add _ _ _ e ?_
        rw [List.getLast?_append]
        exact fun h => hv (by simpa using h)
theorem ok_of : ∀ (R : List (Int × Int)) (p : Option Int), apart p R → (∀ r ∈ R, 1 ≤ r.2 ∧ 1 ≤ r.1 ∧ r.1 ≤ 4) → okRuns p R
  | [], p => fun _ _ => trivial
  | r :: R, p => fun h k => ⟨(k r (by simp)).2, (k r (by simp)).1, h.1, ok_of R (some r.1) h.2 (fun x hx => k x (by simp [hx]))⟩
/-- What a list of verdicts is written as is read as that list. -/
theorem texts_back {l : List Int} (hl : l.length ≤ 16384) (hr : ∀ x ∈ l, 1 ≤ x ∧ x ≤ 4) (k : Nat) (hk : (textR (runsOf l)).length < k) : listF k [] 1 (textR (runsOf l)) = .ok l := by
  obtain ⟨e1, e2⟩ := runs_all l
  have ha := runs_apart l l.length (Nat.le_refl _)
  rw [List.take_length] at ha
  have ho := ok_of _ _ ha (fun r h => ⟨(e2 r h).1, hr _ (e2 r h).2⟩)
  rw [list_text _ k [] 1 ho hk (by rw [e1]; simpa using hl), e1, List.nil_append]
/-- What is read of a text is written as that text. -/
theorem lists_back {s : List UInt8} {l : List Int} {k : Nat} (h : listF k [] 1 s = .ok l) (hk : s.length < k) : s = textR (runsOf l) ∧ (∀ x ∈ l, 1 ≤ x ∧ x ≤ 4) := by
  obtain ⟨R, r1, r2, r3⟩ := text_list k [] 1 s l h hk
  rw [List.nil_append] at r3
  refine ⟨by rw [r3, runs_expand r1, r2], ?_⟩
  rw [r3]
  clear h hk r2 r3
  revert r1
  generalize ([] : List Int).getLast? = p
  induction R generalizing p with
  | nil => intro _ x hx; cases hx
  | cons r R ih =>
    rintro ⟨h1, _, _, h4⟩ x hx
    rw [expand] at hx
    rcases List.mem_append.1 hx with hx | hx
    · rw [(List.mem_replicate.1 hx).2]; exact h1
    · exact ih _ h4 x hx
end Go.Proofs.YtecjpdcoghfmiaaGreatDoor.Vn
/- Chapter 32: lines, by both. -/
namespace Go.Proofs.YtecjpdcoghfmiaaGreatDoor.Vn
open Go Go.Ab Go.RowKit
variable {Γ : Nat → AV}
set_option maxRecDepth 10000
set_option maxHeartbeats 1000000

theorem cut_index (c : UInt8) : ∀ l : List UInt8, (Lib.indexByte l c = -1 ∧ cutAt c l = none) ∨ ∃ n : Nat, Lib.indexByte l c = n ∧ n < l.length ∧ cutAt c l = some (l.take n, l.drop (n + 1))
  | [] => .inl ⟨rfl, rfl⟩
  | x :: l => by
    by_cases hx : x = c
    · subst hx
      exact .inr ⟨0, by simp [Lib.indexByte], by simp, by simp [cutAt]⟩
    · rcases cut_index c l with ⟨h1, h2⟩ | ⟨n, h1, h2, h3⟩
      · exact .inl ⟨by simp [Lib.indexByte, hx, h1], by rw [cutAt, if_neg hx, h2]⟩
      · refine .inr ⟨n + 1, ?_, by simp; omega, by rw [cutAt, if_neg hx, h3]; rfl⟩
        rw [Lib.indexByte]
        rw [h1]
        simp [hx]
theorem liteIndex_ok (l : List UInt8) (c : UInt8) : APure Tryz.prog Γ 37 [.str l, .str [c]] fun v => v = .int .i64 (Lib.indexByte l c) := by
  refine fun s => ⟨fun G w vs hm hr => ?_⟩
  obtain ⟨u, us, rfl, hu, hus⟩ := RList_cons.1 hr
  obtain ⟨u1, us1, rfl, hu1, hus1⟩ := RList_cons.1 hus
  rw [RList_nil] at hus1; subst hus1
  rw [R_str] at hu; subst hu
  rw [R_str] at hu1; subst hu1
  refine Calls.mono (Tryz.stringslite_Index_one ⟨l.toArray⟩ c w) ?_
  rintro e w' ⟨rfl, rfl⟩
  exact ⟨_, _, s, G, rfl, ⟨rfl, rfl⟩, R_int.2 (by simp), hm, Ext.refl _ _⟩
attribute [local irreducible] APure Sto.set Sto.grow
def cutA (c : UInt8) (l : List UInt8) : AV :=
  match cutAt c l with
  | some y => .tuple [.str y.1, .str y.2, .bool true]
  | none => .tuple [.str l, .str [], .bool false]
theorem liteCut_ok (l : List UInt8) (c : UInt8) (hl : l.length ≤ 1048576) : APure Tryz.prog Γ 28 [.str l, .str [c]] fun v => v = cutA c l := by
  rcases cut_index c l with ⟨h1, h2⟩ | ⟨n, h1, h2, h3⟩
  · have hi := liteIndex_ok (Γ := Γ) l c
    rw [h1] at hi
    rw [cutA, h2]
    refine APure.of_awp Tryz.func28 rfl (Nat.le_of_ble_eq_true (by kernel_rfl)) (by kernel_rfl) ?_
    intro s
    conv => whnf
    repeat' (first
      | (exfalso; first | omega | exact (by assumption : ¬ True) trivial | fail)
      | (refine ⟨Sub.refl _, ?_⟩)
      | (refine brA_split (fun h => ?_) (fun h => ?_) <;> (try rw [h]) <;> (try simp only [Bool.false_eq_true, Bool.true_eq_false, ↓reduceIte, decide_eq_true_eq, decide_eq_false_iff_not, Bool.not_eq_true', Bool.not_eq_false'] at h) <;> (conv => whnf))
      | (refine ACalls.pure' ?_ (hi); rintro _ rfl; conv => whnf)
      | (refine DCall.pure ?_ (hi); conv => whnf)
      | (refine getB_same ?_; conv => whnf)
      | (refine AWp.any (by kernel_rfl) (by kernel_rfl) (by kernel_rfl) ?_; conv => whnf)
      | (apply And.intro; (focus (first | omega | rfl | decide | exact Nat.le_of_ble_eq_true rfl | ((repeat' (first | exact all_nil | refine all_cons ?_ ?_ | rfl | fail)); done) | (simp [-List.length_flatMap]; done) | (simp [-List.length_flatMap]; omega) | fail)); conv => whnf)
      | fail)
    rfl
  · have hi := liteIndex_ok (Γ := Γ) l c
    rw [h1] at hi
    rw [cutA, h3]
    have hw : IntKind.i64.wrap ((n : Int) + (([c] : List UInt8).length : Nat)) = ((n + 1 : Nat) : Int) := i64_of (by simp) (by omega) (by omega)
    have hA : List.drop 0 (List.take ((n : Int)).toNat l) = l.take n := by rw [Int.toNat_natCast, List.drop_zero]
    have hB : List.drop (((n + 1 : Nat) : Int)).toNat (List.take l.length l) = l.drop (n + 1) := by rw [Int.toNat_natCast, drop_take_all]
    refine APure.of_awp Tryz.func28 rfl (Nat.le_of_ble_eq_true (by kernel_rfl)) (by kernel_rfl) ?_
    intro s
    conv => whnf
    repeat' (first
      | (exfalso; first | omega | exact (by assumption : ¬ True) trivial | fail)
      | (refine ⟨Sub.refl _, ?_⟩)
      | (refine brA_split (fun h => ?_) (fun h => ?_) <;> (try rw [h]) <;> (try simp only [Bool.false_eq_true, Bool.true_eq_false, ↓reduceIte, decide_eq_true_eq, decide_eq_false_iff_not, Bool.not_eq_true', Bool.not_eq_false'] at h) <;> (conv => whnf))
      | (refine ACalls.pure' ?_ (hi); rintro _ rfl; conv => whnf)
      | (refine DCall.pure ?_ (hi); conv => whnf)
      | (rw [hw]; conv => whnf)
      | (rw [hA]; conv => whnf)
      | (rw [hB]; conv => whnf)
      | (refine getB_same ?_; conv => whnf)
      | (refine AWp.any (by kernel_rfl) (by kernel_rfl) (by kernel_rfl) ?_; conv => whnf)
      | (apply And.intro; (focus (first | omega | rfl | decide | exact Nat.le_of_ble_eq_true rfl | ((repeat' (first | exact all_nil | refine all_cons ?_ ?_ | rfl | fail)); done) | (simp [-List.length_flatMap]; done) | (simp [-List.length_flatMap]; omega) | fail)); conv => whnf)
      | fail)
    rfl
theorem cut_ok (l : List UInt8) (c : UInt8) (hl : l.length ≤ 1048576) : APure Tryz.prog Γ 19 [.str l, .str [c]] fun v => v = cutA c l := by
  have h := liteCut_ok (Γ := Γ) l c hl
  unfold cutA at *
  rcases hc : cutAt c l with _ | ⟨a, b⟩
  · simp only [hc] at h
    refine APure.of_awp Tryz.func19 rfl (Nat.le_of_ble_eq_true (by kernel_rfl)) (by kernel_rfl) ?_
    intro s
    conv => whnf
    repeat' (first
      | (refine ⟨Sub.refl _, ?_⟩)
      | (refine brA_split (fun h => ?_) (fun h => ?_) <;> (try rw [h]) <;> (try simp only [Bool.false_eq_true, Bool.true_eq_false, ↓reduceIte, decide_eq_true_eq, decide_eq_false_iff_not, Bool.not_eq_true', Bool.not_eq_false'] at h) <;> (conv => whnf))
      | (refine ACalls.pure' ?_ (h); rintro _ rfl; conv => whnf)
      | (refine DCall.pure ?_ (h); conv => whnf)
      | (refine getB_same ?_; conv => whnf)
      | (refine AWp.any (by kernel_rfl) (by kernel_rfl) (by kernel_rfl) ?_; conv => whnf)
      | (apply And.intro; (focus (first | omega | rfl | decide | exact Nat.le_of_ble_eq_true rfl | ((repeat' (first | exact all_nil | refine all_cons ?_ ?_ | rfl | fail)); done) | (simp [-List.length_flatMap]; done) | (simp [-List.length_flatMap]; omega) | fail)); conv => whnf)
      | fail)
    rfl
  · simp only [hc] at h
    refine APure.of_awp Tryz.func19 rfl (Nat.le_of_ble_eq_true (by kernel_rfl)) (by kernel_rfl) ?_
    intro s
    conv => whnf
    repeat' (first
      | (refine ⟨Sub.refl _, ?_⟩)
      | (refine brA_split (fun h => ?_) (fun h => ?_) <;> (try rw [h]) <;> (try simp only [Bool.false_eq_true, Bool.true_eq_false, ↓reduceIte, decide_eq_true_eq, decide_eq_false_iff_not, Bool.not_eq_true', Bool.not_eq_false'] at h) <;> (conv => whnf))
      | (refine ACalls.pure' ?_ (h); rintro _ rfl; conv => whnf)
      | (refine DCall.pure ?_ (h); conv => whnf)
      | (refine getB_same ?_; conv => whnf)
      | (refine AWp.any (by kernel_rfl) (by kernel_rfl) (by kernel_rfl) ?_; conv => whnf)
      | (apply And.intro; (focus (first | omega | rfl | decide | exact Nat.le_of_ble_eq_true rfl | ((repeat' (first | exact all_nil | refine all_cons ?_ ?_ | rfl | fail)); done) | (simp [-List.length_flatMap]; done) | (simp [-List.length_flatMap]; omega) | fail)); conv => whnf)
      | fail)
    rfl
def badA (e : Int) : AV := .iface 58 (.agg [.int .i64 e])
def lineA : Except Int (Int × Int) → AV
  | .ok (v, n) => .tuple [.int .i64 v, .int .i64 n, .nilIface]
  | .error e => .tuple [.int .i64 0, .int .i64 0, badA e]
theorem progParse_ok (hE : Nu.ErrR Γ) (l : List UInt8) (hl : l.length ≤ 1048576) : APure Tryz.prog Γ 38 [.str l] fun v => v = .tuple [.int .i64 (Nu.numN l), .int .i64 (Nu.numE l)] := Nu.parse_run l hl hE (fun h => Nu.no_syntax h)
theorem cut_len {c : UInt8} {l a b : List UInt8} (h : cutAt c l = some (a, b)) : a.length + b.length + 1 = l.length := by
  rw [(cutAt_some c l a b h).1]; simp; omega
theorem progLine_ok (hN : Nms Γ) (hE : Nu.ErrR Γ) (l : List UInt8) (hl : l.length ≤ 1048576) : APure Tryz.prog Γ 29 [.str l] fun v => v = lineA (lineF l) := by
  have hc := cut_ok (Γ := Γ) l 32 hl
  unfold cutA at hc
  unfold lineF
  rcases hx : cutAt 32 l with _ | ⟨a, b⟩
  · simp only [hx] at hc
    refine APure.of_awp Tryz.func29 rfl (Nat.le_of_ble_eq_true (by kernel_rfl)) (by kernel_rfl) ?_
    intro s
    conv => whnf
    repeat' (first
      | (exfalso; first | omega | exact (by assumption : ¬ True) trivial | fail)
      | (refine ⟨Sub.refl _, ?_⟩)
      | (refine brA_split (fun h => ?_) (fun h => ?_) <;> (try rw [h]) <;> (try simp only [Bool.false_eq_true, Bool.true_eq_false, ↓reduceIte, decide_eq_true_eq, decide_eq_false_iff_not, Bool.not_eq_true', Bool.not_eq_false'] at h) <;> (conv => whnf))
      | (refine ACalls.pure' ?_ (hc); rintro _ rfl; conv => whnf)
      | (refine DCall.pure ?_ (hc); conv => whnf)
      | (refine getB_same ?_; conv => whnf)
      | (refine AWp.any (by kernel_rfl) (by kernel_rfl) (by kernel_rfl) ?_; conv => whnf)
      | (apply And.intro; (focus (first | omega | rfl | decide | exact Nat.le_of_ble_eq_true rfl | ((repeat' (first | exact all_nil | refine all_cons ?_ ?_ | rfl | fail)); done) | (simp [-List.length_flatMap]; done) | (simp [-List.length_flatMap]; omega) | fail)); conv => whnf)
      | fail)
    rfl
  · simp only [hx] at hc
    have hcl := cut_len hx
    have hp := progParse_ok (Γ := Γ) hE a (by omega)
    have hq := parse_ok hN b
    have hb := vof_bound b
    refine APure.of_awp Tryz.func29 rfl (Nat.le_of_ble_eq_true (by kernel_rfl)) (by kernel_rfl) ?_
    intro s
    conv => whnf
    repeat' (first
      | (exfalso; first | omega | exact (by assumption : ¬ True) trivial | fail)
      | (refine ⟨Sub.refl _, ?_⟩)
      | (refine brA_split (fun h => ?_) (fun h => ?_) <;> (try rw [h]) <;> (try simp only [Bool.false_eq_true, Bool.true_eq_false, ↓reduceIte, decide_eq_true_eq, decide_eq_false_iff_not, Bool.not_eq_true', Bool.not_eq_false'] at h) <;> (conv => whnf))
      | (refine ACalls.pure' ?_ (hc); rintro _ rfl; conv => whnf)
      | (refine DCall.pure ?_ (hc); conv => whnf)
      | (refine ACalls.pure' ?_ (hp); rintro _ rfl; conv => whnf)
      | (refine DCall.pure ?_ (hp); conv => whnf)
      | (refine ACalls.pure' ?_ (hq); rintro _ rfl; conv => whnf)
      | (refine DCall.pure ?_ (hq); conv => whnf)
      | (refine getB_same ?_; conv => whnf)
      | (refine AWp.any (by kernel_rfl) (by kernel_rfl) (by kernel_rfl) ?_; conv => whnf)
      | (apply And.intro; (focus (first | omega | rfl | decide | exact Nat.le_of_ble_eq_true rfl | ((repeat' (first | exact all_nil | refine all_cons ?_ ?_ | rfl | fail)); done) | (simp [-List.length_flatMap]; done) | (simp [-List.length_flatMap]; omega) | fail)); conv => whnf)
      | fail)
    all_goals (simp only; (repeat (first | rw [if_pos (by omega)] | rw [if_neg (by omega)])); rfl)
end Go.Proofs.YtecjpdcoghfmiaaGreatDoor.Vn
/- Chapter 32: the list of a text: the program. -/
namespace Go.Proofs.YtecjpdcoghfmiaaGreatDoor.Vn
open Go Go.Ab Go.RowKit
variable {Γ : Nat → AV}
attribute [local irreducible] APure Sto.set Sto.grow
set_option maxRecDepth 10000
set_option maxHeartbeats 1000000

/-- A line's verdicts behind others; or what is wrong. -/
def moreF (out : List Int) (s : List UInt8) : Except Int (Int × Int) :=
  match lineF s with
  | .error e => .error e
  | .ok (v, n) => if out.getLast? = some v then .error 10 else if 16384 < out.length + n.toNat then .error 14 else .ok (v, n)
theorem listF_end (k : Nat) (out : List Int) (a : Int) : listF (k + 1) out a [] = .ok out := by rw [listF, if_pos rfl]
theorem listF_short {k : Nat} {out : List Int} {a : Int} {s : List UInt8} (h : s ≠ []) (hc : cutAt 10 s = none) : listF (k + 1) out a s = .error (2, a) := by rw [listF, if_neg h, hc]
theorem listF_bad {k : Nat} {out : List Int} {a : Int} {s one rest : List UInt8} {e : Int} (h : s ≠ []) (hc : cutAt 10 s = some (one, rest)) (hm : moreF out one = .error e) : listF (k + 1) out a s = .error (e, a) := by
  rw [listF, if_neg h, hc]
  unfold moreF at hm
  rcases hl : lineF one with e' | ⟨v, n⟩
  · simp only [hl] at hm ⊢; cases hm; rfl
  · simp only [hl] at hm ⊢
    split at hm
    · rename_i h1; cases hm; rw [if_pos h1]
    · rename_i h1
      rw [if_neg h1]
      split at hm
      · rename_i h2; cases hm; rw [if_pos h2]
      · cases hm
theorem listF_ok {k : Nat} {out : List Int} {a : Int} {s one rest : List UInt8} {v n : Int} (h : s ≠ []) (hc : cutAt 10 s = some (one, rest)) (hm : moreF out one = .ok (v, n)) : listF (k + 1) out a s = listF k (out ++ List.replicate n.toNat v) (a + 1) rest := by
  rw [listF, if_neg h, hc]
  unfold moreF at hm
  rcases hl : lineF one with e' | ⟨v', n'⟩
  · simp only [hl] at hm; cases hm
  · simp only [hl] at hm ⊢
    split at hm
    · cases hm
    · rename_i h1
      rw [if_neg h1]
      split at hm
      · cases hm
      · rename_i h2
        simp only [Except.ok.injEq, Prod.mk.injEq] at hm
        obtain ⟨rfl, rfl⟩ := hm
        rw [if_neg h2]
theorem more_bound {out : List Int} {s : List UInt8} {v n : Int} (h : moreF out s = .ok (v, n)) : (1 ≤ v ∧ v ≤ 4) ∧ 1 ≤ n ∧ n ≤ 16384 ∧ out.length + n.toNat ≤ 16384 ∧ out.getLast? ≠ some v ∧ lineF s = .ok (v, n) := by
  unfold moreF at h
  rcases hl : lineF s with e' | ⟨v', n'⟩
  · rw [hl] at h; cases h
  · rw [hl] at h
    simp only at h
    split at h
    · cases h
    · rename_i h1
      split at h
      · cases h
      · rename_i h2
        simp only [Except.ok.injEq, Prod.mk.injEq] at h
        obtain ⟨rfl, rfl⟩ := h
        have := text_line hl
        exact ⟨this.2.1, this.2.2.1, this.2.2.2, by omega, h1, rfl⟩
theorem line_err {s : List UInt8} {e : Int} (h : lineF s = .error e) : e ≠ 0 := by
  unfold lineF at h
  split at h
  · cases h; decide
  · split at h
    · rename_i h1; cases h; exact h1
    · split at h
      · cases h; decide
      · split at h
        · cases h; decide
        · cases h
theorem more_err {out : List Int} {s : List UInt8} {e : Int} (h : moreF out s = .error e) : e ≠ 0 := by
  unfold moreF at h
  rcases hl : lineF s with e' | ⟨v', n'⟩
  · rw [hl] at h; cases h; exact line_err hl
  · rw [hl] at h
    simp only at h
    split at h
    · cases h; decide
    · split at h
      · cases h; decide
      · cases h
theorem list_err : ∀ (k : Nat) (out : List Int) (a : Int) (s : List UInt8) (e b : Int), listF k out a s = .error (e, b) → e ≠ 0
  | 0, out, a, s, e, b => fun h => by cases h
  | k + 1, out, a, s, e, b => fun h => by
    by_cases hs : s = []
    · subst hs; rw [listF_end] at h; cases h
    · rcases hc : cutAt 10 s with _ | ⟨one, rest⟩
      · rw [listF_short hs hc] at h; cases h; decide
      · rcases hm : moreF out one with e' | ⟨v, n⟩
        · rw [listF_bad hs hc hm] at h; cases h; exact more_err hm
        · rw [listF_ok hs hc hm] at h; exact list_err k _ _ _ _ _ h
theorem listF_fuel : ∀ (k j : Nat) (out : List Int) (a : Int) (s : List UInt8), s.length < k → s.length < j → listF k out a s = listF j out a s
  | 0, _, out, a, s => fun h => by omega
  | _, 0, out, a, s => fun _ h => by omega
  | k + 1, j + 1, out, a, s => fun h h' => by
    by_cases hs : s = []
    · subst hs; rw [listF_end, listF_end]
    · rcases hc : cutAt 10 s with _ | ⟨one, rest⟩
      · rw [listF_short hs hc, listF_short hs hc]
      · have hcl := cut_len hc
        rcases hm : moreF out one with e' | ⟨v, n⟩
        · rw [listF_bad hs hc hm, listF_bad hs hc hm]
        · rw [listF_ok hs hc hm, listF_ok hs hc hm, listF_fuel k j _ _ _ (by omega) (by omega)]
theorem last_get {out : List Int} {v : Int} (h : 0 < out.length) : (out.getLast? = some v) ↔ out.getD (out.length - 1) 0 = v := by
  rw [List.getLast?_eq_getElem?]
  have hl : out.length - 1 < out.length := by omega
  simp [List.getD, hl]
theorem intsA_app (l : List Int) (n : Int) : intsA .i64 l ++ [[.int .i64 n]] = intsA .i64 (l ++ [n]) := by simp [intsA]
/-- What more does with a list whose row is the caller's own. -/
def moreA (out : List Int) (l : List UInt8) (s0 s1 : Sto) (v : AV) (s' : Sto) : Prop :=
  match moreF out l with
  | .error e => v = .tuple [.slice 1 [], badA e] ∧ s' = s1
  | .ok (x, n) => ∃ t', v = .tuple [.slice t' (intsA .i64 (out ++ List.replicate n.toNat x)), .nilIface] ∧ Own s0 s' (out ++ List.replicate n.toNat x).isEmpty t' 3 1 ∧ s'.bx = s1.bx
theorem grow_bxs {s : Sto} {t t' : Nat} {e : TypeId} {k : Nat} : (s.grow t t' e k).bx = s.bx := funext fun _ => grow_bx
theorem more_ok (hN : Nms Γ) (hE : Nu.ErrR Γ) {s0 s1 : Sto} {t : Nat} {out : List Int} (ho : Own s0 s1 out.isEmpty t 3 1) (hol : out.length ≤ 16384) (l : List UInt8) (hl : l.length ≤ 1048576) :
    ACalls Tryz.prog Γ 20 [.slice t (intsA .i64 out), .str l] s1 (moreA out l s0 s1) := by
  have hp := progLine_ok hN hE l hl
  have hil := intsA_len .i64 out
  unfold moreA moreF
  rcases hx : lineF l with e | ⟨v, n⟩
  · rw [hx] at hp
    simp only [lineA, badA] at hp
    refine ACalls.of_awp Tryz.func20 rfl (Nat.le_of_ble_eq_true (by kernel_rfl)) (awp_ok _ (by kernel_rfl) ?_)
    conv => whnf
    repeat' (first
      | (exfalso; first | omega | exact (by assumption : ¬ True) trivial | fail)
      | (refine ⟨Sub.refl _, ?_⟩)
      | (refine brA_split (fun h => ?_) (fun h => ?_) <;> (try rw [h]) <;> (try simp only [Bool.false_eq_true, Bool.true_eq_false, ↓reduceIte, decide_eq_true_eq, decide_eq_false_iff_not, Bool.not_eq_true', Bool.not_eq_false'] at h) <;> (conv => whnf))
      | (refine ACalls.pure' ?_ (hp); rintro _ rfl; conv => whnf)
      | (refine DCall.pure ?_ (hp); conv => whnf)
      | (refine getB_same ?_; conv => whnf)
      | (refine AWp.any (by kernel_rfl) (by kernel_rfl) (by kernel_rfl) ?_; conv => whnf)
      | (apply And.intro; (focus (first | omega | rfl | decide | exact Nat.le_of_ble_eq_true rfl | ((repeat' (first | exact all_nil | refine all_cons ?_ ?_ | rfl | fail)); done) | (simp [-List.length_flatMap]; done) | (simp [-List.length_flatMap]; omega) | fail)); conv => whnf)
      | fail)
    exact ⟨s1, Sub.refl _, rfl, rfl⟩
  · rw [hx] at hp
    simp only [lineA] at hp
    have hb := text_line hx
    have hw1 : IntKind.i64.wrap (((intsA .i64 out).length : Int) + n) = ((out.length + n.toNat : Nat) : Int) := i64_of (by omega) (by omega) (by omega)
    by_cases h0 : out.length = 0
    · have hlast : ¬ out.getLast? = some v := by rw [List.eq_nil_of_length_eq_zero h0]; simp
      refine ACalls.of_awp Tryz.func20 rfl (Nat.le_of_ble_eq_true (by kernel_rfl)) (awp_ok _ (by kernel_rfl) ?_)
      conv => whnf
      repeat' (first
        | (exfalso; first | omega | exact (by assumption : ¬ True) trivial | fail)
        | (refine ⟨Sub.refl _, ?_⟩)
        | (refine brA_split (fun h => ?_) (fun h => ?_) <;> (try rw [h]) <;> (try simp only [Bool.false_eq_true, Bool.true_eq_false, ↓reduceIte, decide_eq_true_eq, decide_eq_false_iff_not, Bool.not_eq_true', Bool.not_eq_false'] at h) <;> (conv => whnf))
        | (refine ACalls.pure' ?_ (hp); rintro _ rfl; conv => whnf)
        | (refine DCall.pure ?_ (hp); conv => whnf)
        | (rw [hw1]; conv => whnf)
        | (refine getB_same ?_; conv => whnf)
        | (refine AWp.any (by kernel_rfl) (by kernel_rfl) (by kernel_rfl) ?_; conv => whnf)
        | (apply And.intro; (focus (first | omega | rfl | decide | exact Nat.le_of_ble_eq_true rfl | ((repeat' (first | exact all_nil | refine all_cons ?_ ?_ | rfl | fail)); done) | (simp [-List.length_flatMap]; done) | (simp [-List.length_flatMap]; omega) | fail)); conv => whnf)
        | fail)
      refine AWp.loopA [0, 44] [45, 46, 47, 48, 49, 50] (fun x : Nat × Nat => [.slice x.2 (intsA .i64 (out ++ List.replicate x.1 v)), .int .i64 x.1]) (fun x s' => x.1 ≤ n.toNat ∧ Own s0 s' (out ++ List.replicate x.1 v).isEmpty x.2 3 1 ∧ s'.bx = s1.bx) (fun x => n.toNat - x.1) ((0, t)) (by kernel_rfl) (cons_eq (show AV.slice t (intsA .i64 out) = AV.slice t (intsA .i64 (out ++ List.replicate 0 v)) by rw [List.replicate_zero, List.append_nil]) (cons_eq rfl rfl)) ?_ ?_
      · exact ⟨Nat.zero_le _, by rw [List.replicate_zero, List.append_nil]; exact ho, rfl⟩
      · rintro x ⟨i, t1⟩ s2 ⟨hi, ho1, hbx⟩
        simp only at hi ho1 hbx
        show awp _ _ _ _ _ (updL _ _ [.slice t1 (intsA .i64 (out ++ List.replicate i v)), .int .i64 (i : Int)]) _
        conv => whnf
        by_cases hlt : i < n.toNat
        · have hsl : (intsA .i64 (out ++ List.replicate i v)).length = out.length + i := by rw [intsA_len, List.length_append, List.length_replicate]
          repeat' (first
            | (exfalso; first | omega | exact (by assumption : ¬ True) trivial | fail)
            | (refine ⟨Sub.refl _, ?_⟩)
            | (refine brA_split (fun h => ?_) (fun h => ?_) <;> (try rw [h]) <;> (try simp only [Bool.false_eq_true, Bool.true_eq_false, ↓reduceIte, decide_eq_true_eq, decide_eq_false_iff_not, Bool.not_eq_true', Bool.not_eq_false'] at h) <;> (conv => whnf))
            | (refine getB_same ?_; conv => whnf)
            | (refine AWp.any (by kernel_rfl) (by kernel_rfl) (by kernel_rfl) ?_; conv => whnf)
            | (apply And.intro; (focus (first | omega | rfl | decide | exact Nat.le_of_ble_eq_true rfl | ((repeat' (first | exact all_nil | refine all_cons ?_ ?_ | rfl | fail)); done) | (simp [-List.length_flatMap]; done) | (simp [-List.length_flatMap]; omega) | fail)); conv => whnf)
            | fail)
          refine ⟨ho1.may, fun c hc => ?_, all_cons ⟨rfl, rfl⟩ all_nil, ?_, ?_⟩
          · obtain ⟨w, _, rfl⟩ := List.mem_map.1 hc; rfl
          · show ((intsA .i64 (out ++ List.replicate i v)).length + 1) * (8 + 1) ≤ _
            rw [hsl]; omega
          intro t2 k1 k2
          have k3 := ho1.grow k1 k2
          conv => whnf
          repeat' (first
            | (exfalso; first | omega | exact (by assumption : ¬ True) trivial | fail)
            | (refine ⟨Sub.refl _, ?_⟩)
            | (refine brA_split (fun h => ?_) (fun h => ?_) <;> (try rw [h]) <;> (try simp only [Bool.false_eq_true, Bool.true_eq_false, ↓reduceIte, decide_eq_true_eq, decide_eq_false_iff_not, Bool.not_eq_true', Bool.not_eq_false'] at h) <;> (conv => whnf))
            | (refine getB_same ?_; conv => whnf)
            | (refine AWp.any (by kernel_rfl) (by kernel_rfl) (by kernel_rfl) ?_; conv => whnf)
            | (apply And.intro; (focus (first | omega | rfl | decide | exact Nat.le_of_ble_eq_true rfl | ((repeat' (first | exact all_nil | refine all_cons ?_ ?_ | rfl | fail)); done) | (simp [-List.length_flatMap]; done) | (simp [-List.length_flatMap]; omega) | fail)); conv => whnf)
            | fail)
          refine ⟨(i + 1, t2), ?_, by (repeat (first | exact Same.refl _ _ | refine Same.upd rfl ?_ | refine Same.updL rfl ?_ | refine Same.havoc rfl ?_)), ⟨by simp only; omega, ?_, grow_bxs.trans hbx⟩, by simp only; omega⟩
          · rw [List.replicate_succ', ← List.append_assoc]
            exact cons_eq (congrArg (AV.slice t2) (intsA_app _ _)) (cons_eq (congrArg (AV.int .i64) (i64_of (by omega) (by omega) (by omega))) rfl)
          · simp only
            rw [List.replicate_succ', ← List.append_assoc, show ((out ++ List.replicate i v) ++ [v]).isEmpty = ((out ++ List.replicate i v).isEmpty && false) by cases (out ++ List.replicate i v) <;> rfl]
            exact k3
        · obtain rfl : i = n.toNat := by omega
          repeat' (first
            | (exfalso; first | omega | exact (by assumption : ¬ True) trivial | fail)
            | (refine ⟨Sub.refl _, ?_⟩)
            | (refine brA_split (fun h => ?_) (fun h => ?_) <;> (try rw [h]) <;> (try simp only [Bool.false_eq_true, Bool.true_eq_false, ↓reduceIte, decide_eq_true_eq, decide_eq_false_iff_not, Bool.not_eq_true', Bool.not_eq_false'] at h) <;> (conv => whnf))
            | (refine getB_same ?_; conv => whnf)
            | (refine AWp.any (by kernel_rfl) (by kernel_rfl) (by kernel_rfl) ?_; conv => whnf)
            | (apply And.intro; (focus (first | omega | rfl | decide | exact Nat.le_of_ble_eq_true rfl | ((repeat' (first | exact all_nil | refine all_cons ?_ ?_ | rfl | fail)); done) | (simp [-List.length_flatMap]; done) | (simp [-List.length_flatMap]; omega) | fail)); conv => whnf)
            | fail)
          refine ⟨s2, Sub.refl _, ?_⟩
          simp only; rw [if_neg hlast, if_neg (by omega)]
          exact ⟨t1, rfl, ho1, hbx⟩
    · have hpos : 0 < out.length := by omega
      have hlg := last_get (v := v) hpos
      have hg := intsA_get (k := .i64) (l := out) (i := out.length - 1) (by omega)
      have hw2 : IntKind.i64.wrap (((intsA .i64 out).length : Int) - 1) = ((out.length - 1 : Nat) : Int) := i64_of (by omega) (by omega) (by omega)
      refine ACalls.of_awp Tryz.func20 rfl (Nat.le_of_ble_eq_true (by kernel_rfl)) (awp_ok _ (by kernel_rfl) ?_)
      conv => whnf
      repeat' (first
        | (exfalso; first | omega | exact (by assumption : ¬ True) trivial | fail)
        | (refine ⟨Sub.refl _, ?_⟩)
        | (refine brA_split (fun h => ?_) (fun h => ?_) <;> (try rw [h]) <;> (try simp only [Bool.false_eq_true, Bool.true_eq_false, ↓reduceIte, decide_eq_true_eq, decide_eq_false_iff_not, Bool.not_eq_true', Bool.not_eq_false'] at h) <;> (conv => whnf))
        | (refine ACalls.pure' ?_ (hp); rintro _ rfl; conv => whnf)
        | (refine DCall.pure ?_ (hp); conv => whnf)
        | (rw [hw2]; conv => whnf)
        | (rw [show (intsA .i64 out).getD (((out.length - 1 : Nat) : Int)).toNat [] = _ from hg]; conv => whnf)
        | (rw [hw1]; conv => whnf)
        | (refine getB_same ?_; conv => whnf)
        | (refine AWp.any (by kernel_rfl) (by kernel_rfl) (by kernel_rfl) ?_; conv => whnf)
        | (apply And.intro; (focus (first | omega | rfl | decide | exact Nat.le_of_ble_eq_true rfl | ((repeat' (first | exact all_nil | refine all_cons ?_ ?_ | rfl | fail)); done) | (simp [-List.length_flatMap]; done) | (simp [-List.length_flatMap]; omega) | fail)); conv => whnf)
        | fail)
      · refine ⟨s1, Sub.refl _, ?_⟩
        simp only
        rw [if_pos (hlg.2 h)]
        exact ⟨rfl, by first | rfl | trivial⟩
      · rename_i hne
        refine ⟨s1, Sub.refl _, ?_⟩
        simp only
        rw [if_neg (fun hh => hne (hlg.1 hh)), if_pos (by omega)]
        exact ⟨rfl, by first | rfl | trivial⟩
      · rename_i hne
        refine AWp.loopA [0, 44] [45, 46, 47, 48, 49, 50] (fun x : Nat × Nat => [.slice x.2 (intsA .i64 (out ++ List.replicate x.1 v)), .int .i64 x.1]) (fun x s' => x.1 ≤ n.toNat ∧ Own s0 s' (out ++ List.replicate x.1 v).isEmpty x.2 3 1 ∧ s'.bx = s1.bx) (fun x => n.toNat - x.1) ((0, t)) (by kernel_rfl) (cons_eq (show AV.slice t (intsA .i64 out) = AV.slice t (intsA .i64 (out ++ List.replicate 0 v)) by rw [List.replicate_zero, List.append_nil]) (cons_eq rfl rfl)) ?_ ?_
        · exact ⟨Nat.zero_le _, by rw [List.replicate_zero, List.append_nil]; exact ho, rfl⟩
        · rintro x ⟨i, t1⟩ s2 ⟨hi, ho1, hbx⟩
          simp only at hi ho1 hbx
          show awp _ _ _ _ _ (updL _ _ [.slice t1 (intsA .i64 (out ++ List.replicate i v)), .int .i64 (i : Int)]) _
          conv => whnf
          by_cases hlt : i < n.toNat
          · have hsl : (intsA .i64 (out ++ List.replicate i v)).length = out.length + i := by rw [intsA_len, List.length_append, List.length_replicate]
            repeat' (first
              | (exfalso; first | omega | exact (by assumption : ¬ True) trivial | fail)
              | (refine ⟨Sub.refl _, ?_⟩)
              | (refine brA_split (fun h => ?_) (fun h => ?_) <;> (try rw [h]) <;> (try simp only [Bool.false_eq_true, Bool.true_eq_false, ↓reduceIte, decide_eq_true_eq, decide_eq_false_iff_not, Bool.not_eq_true', Bool.not_eq_false'] at h) <;> (conv => whnf))
              | (refine getB_same ?_; conv => whnf)
              | (refine AWp.any (by kernel_rfl) (by kernel_rfl) (by kernel_rfl) ?_; conv => whnf)
              | (apply And.intro; (focus (first | omega | rfl | decide | exact Nat.le_of_ble_eq_true rfl | ((repeat' (first | exact all_nil | refine all_cons ?_ ?_ | rfl | fail)); done) | (simp [-List.length_flatMap]; done) | (simp [-List.length_flatMap]; omega) | fail)); conv => whnf)
              | fail)
            refine ⟨ho1.may, fun c hc => ?_, all_cons ⟨rfl, rfl⟩ all_nil, ?_, ?_⟩
            · obtain ⟨w, _, rfl⟩ := List.mem_map.1 hc; rfl
            · show ((intsA .i64 (out ++ List.replicate i v)).length + 1) * (8 + 1) ≤ _
              rw [hsl]; omega
            intro t2 k1 k2
            have k3 := ho1.grow k1 k2
            conv => whnf
            repeat' (first
              | (exfalso; first | omega | exact (by assumption : ¬ True) trivial | fail)
              | (refine ⟨Sub.refl _, ?_⟩)
              | (refine brA_split (fun h => ?_) (fun h => ?_) <;> (try rw [h]) <;> (try simp only [Bool.false_eq_true, Bool.true_eq_false, ↓reduceIte, decide_eq_true_eq, decide_eq_false_iff_not, Bool.not_eq_true', Bool.not_eq_false'] at h) <;> (conv => whnf))
              | (refine getB_same ?_; conv => whnf)
              | (refine AWp.any (by kernel_rfl) (by kernel_rfl) (by kernel_rfl) ?_; conv => whnf)
              | (apply And.intro; (focus (first | omega | rfl | decide | exact Nat.le_of_ble_eq_true rfl | ((repeat' (first | exact all_nil | refine all_cons ?_ ?_ | rfl | fail)); done) | (simp [-List.length_flatMap]; done) | (simp [-List.length_flatMap]; omega) | fail)); conv => whnf)
              | fail)
            refine ⟨(i + 1, t2), ?_, by (repeat (first | exact Same.refl _ _ | refine Same.upd rfl ?_ | refine Same.updL rfl ?_ | refine Same.havoc rfl ?_)), ⟨by simp only; omega, ?_, grow_bxs.trans hbx⟩, by simp only; omega⟩
            · rw [List.replicate_succ', ← List.append_assoc]
              exact cons_eq (congrArg (AV.slice t2) (intsA_app _ _)) (cons_eq (congrArg (AV.int .i64) (i64_of (by omega) (by omega) (by omega))) rfl)
            · simp only
              rw [List.replicate_succ', ← List.append_assoc, show ((out ++ List.replicate i v) ++ [v]).isEmpty = ((out ++ List.replicate i v).isEmpty && false) by cases (out ++ List.replicate i v) <;> rfl]
              exact k3
          · obtain rfl : i = n.toNat := by omega
            repeat' (first
              | (exfalso; first | omega | exact (by assumption : ¬ True) trivial | fail)
              | (refine ⟨Sub.refl _, ?_⟩)
              | (refine brA_split (fun h => ?_) (fun h => ?_) <;> (try rw [h]) <;> (try simp only [Bool.false_eq_true, Bool.true_eq_false, ↓reduceIte, decide_eq_true_eq, decide_eq_false_iff_not, Bool.not_eq_true', Bool.not_eq_false'] at h) <;> (conv => whnf))
              | (refine getB_same ?_; conv => whnf)
              | (refine AWp.any (by kernel_rfl) (by kernel_rfl) (by kernel_rfl) ?_; conv => whnf)
              | (apply And.intro; (focus (first | omega | rfl | decide | exact Nat.le_of_ble_eq_true rfl | ((repeat' (first | exact all_nil | refine all_cons ?_ ?_ | rfl | fail)); done) | (simp [-List.length_flatMap]; done) | (simp [-List.length_flatMap]; omega) | fail)); conv => whnf)
              | fail)
            refine ⟨s2, Sub.refl _, ?_⟩
            simp only; rw [if_neg (fun hh => hne (hlg.1 hh)), if_neg (by omega)]
            exact ⟨t1, rfl, ho1, hbx⟩
/-- What is so between two lines. -/
structure ListI (s s' : Sto) (S : List UInt8) (b : Nat) (out : List Int) (t : Nat) (q : List UInt8) (a : Int) : Prop where
  le : q.length ≤ S.length ∧ out.length ≤ 16384
  pl : 1 ≤ a ∧ a ≤ 1 + (S.length - q.length : Nat)
  own : Own s s' out.isEmpty t 3 1
  box : s'.bx b = some (34, [.int .i64 0, .int .i64 0, .int .i64 0])
  is : listF (S.length + 1) [] 1 S = listF (S.length + 1) out a q
theorem fgE_ints (l : List Int) : fgE (intsA .i64 l) = intsA .i64 l := fgE_map (A := fun n => [AV.int .i64 n]) (fun _ => rfl) l
def listA : Except (Int × Int) (List Int) → AV
  | .ok l => .tuple [.slice 0 (intsA .i64 l), .agg [.int .i64 0, .int .i64 0, .int .i64 0]]
  | .error (e, a) => .tuple [.slice 0 [], .agg [.int .i64 e, .int .i64 a, .int .i64 0]]
theorem progList_ok (hN : Nms Γ) (hE : Nu.ErrR Γ) (hA : AsV.ErrT Γ) (S : List UInt8) (hl : S.length ≤ 1048576) : APure Tryz.prog Γ 10 [.str S] fun v => v = listA (listF (S.length + 1) [] 1 S) := by
  refine APure.fgt fun s => ?_
  refine ACalls.of_awp Tryz.func10 rfl (Nat.le_of_ble_eq_true (by kernel_rfl)) (awp_ok _ (by kernel_rfl) ?_)
  conv => whnf
  intro b3 hb3
  conv => whnf
  repeat' (first
    | (exfalso; first | omega | exact (by assumption : ¬ True) trivial | fail)
    | (refine ⟨Sub.refl _, ?_⟩)
    | (refine brA_split (fun h => ?_) (fun h => ?_) <;> (try rw [h]) <;> (try simp only [Bool.false_eq_true, Bool.true_eq_false, ↓reduceIte, decide_eq_true_eq, decide_eq_false_iff_not, Bool.not_eq_true', Bool.not_eq_false'] at h) <;> (conv => whnf))
    | (refine getB_of (by ((repeat (first | exact set_bx_same | assumption | refine (set_bx_other (by assumption)).trans ?_ | refine grow_bx.trans ?_)); done)) ?_; conv => whnf)
    | (refine getB_same ?_; conv => whnf)
    | (refine AWp.any (by kernel_rfl) (by kernel_rfl) (by kernel_rfl) ?_; conv => whnf)
    | (apply And.intro; (focus (first | omega | rfl | decide | exact Nat.le_of_ble_eq_true rfl | ((repeat' (first | exact all_nil | refine all_cons ?_ ?_ | rfl | fail)); done) | (simp [-List.length_flatMap]; done) | (simp [-List.length_flatMap]; omega) | fail)); conv => whnf)
    | fail)
  refine AWp.loopA [0, 4, 5] [12, 13, 17, 18, 16, 19, 20, 21, 6, 7, 8, 22, 23, 24, 25, 2, 27, 28, 29, 26, 30, 31, 9, 10, 11, 32, 33, 34, 35, 36, 37, 38, 39, 40, 14, 15] (fun x : List Int × Nat × List UInt8 × Int => [.str x.2.2.1, .slice x.2.1 (intsA .i64 x.1), .int .i64 x.2.2.2]) (fun x s' => ListI s s' S b3 x.1 x.2.1 x.2.2.1 x.2.2.2) (fun x => x.2.2.1.length) (([], 1, S, 1)) (by kernel_rfl) (by (repeat' (first | refine cons_eq ?_ ?_ | refine int64_of ?_ ?_ ?_ | rfl | omega))) ?_ ?_
  · exact ⟨⟨Nat.le_refl _, Nat.zero_le _⟩, ⟨by simp only; omega, by simp⟩, Own.start ((Sub.refl _).set hb3 _ _) _ _, set_bx_same, rfl⟩
  · rintro x ⟨out, t, q, a⟩ s1 ⟨i1, i2, i3, i5, i4⟩
    simp only at i1 i2 i3 i4 i5
    show awp _ _ _ _ _ (updL _ _ [.str q, .slice t (intsA .i64 out), .int .i64 a]) _
    conv => whnf
    by_cases hq : q = []
    · subst hq
      repeat' (first
        | (exfalso; first | omega | exact (by assumption : ¬ True) trivial | fail)
        | (refine ⟨Sub.refl _, ?_⟩)
        | (refine brA_split (fun h => ?_) (fun h => ?_) <;> (try rw [h]) <;> (try simp only [Bool.false_eq_true, Bool.true_eq_false, ↓reduceIte, decide_eq_true_eq, decide_eq_false_iff_not, Bool.not_eq_true', Bool.not_eq_false'] at h) <;> (conv => whnf))
        | (refine getB_of (by ((repeat (first | exact set_bx_same | assumption | refine (set_bx_other (by assumption)).trans ?_ | refine grow_bx.trans ?_)); done)) ?_; conv => whnf)
        | (refine getB_same ?_; conv => whnf)
        | (refine AWp.any (by kernel_rfl) (by kernel_rfl) (by kernel_rfl) ?_; conv => whnf)
        | (apply And.intro; (focus (first | omega | rfl | decide | exact Nat.le_of_ble_eq_true rfl | ((repeat' (first | exact all_nil | refine all_cons ?_ ?_ | rfl | fail)); done) | (simp [-List.length_flatMap]; done) | (simp [-List.length_flatMap]; omega) | fail)); conv => whnf)
        | fail)
      refine ⟨_, Sub.refl _, ?_, i3.sub.set hb3 _ _⟩
      rw [i4, listF_end]
      simp only [tupA, fg, fgL, fgE_ints, listA]
    · have hqp : 0 < q.length := List.length_pos_iff.2 hq
      have hc := cut_ok (Γ := Γ) q 10 (by omega)
      unfold cutA at hc
      rcases hx : cutAt 10 q with _ | ⟨one, rest⟩
      · simp only [hx] at hc
        repeat' (first
          | (exfalso; first | omega | exact (by assumption : ¬ True) trivial | fail)
          | (refine ⟨Sub.refl _, ?_⟩)
          | (refine brA_split (fun h => ?_) (fun h => ?_) <;> (try rw [h]) <;> (try simp only [Bool.false_eq_true, Bool.true_eq_false, ↓reduceIte, decide_eq_true_eq, decide_eq_false_iff_not, Bool.not_eq_true', Bool.not_eq_false'] at h) <;> (conv => whnf))
          | (refine getB_of (by ((repeat (first | exact set_bx_same | assumption | refine (set_bx_other (by assumption)).trans ?_ | refine grow_bx.trans ?_)); done)) ?_; conv => whnf)
          | (refine ACalls.pure' ?_ (hc); rintro _ rfl; conv => whnf)
          | (refine DCall.pure ?_ (hc); conv => whnf)
          | (refine getB_same ?_; conv => whnf)
          | (refine AWp.any (by kernel_rfl) (by kernel_rfl) (by kernel_rfl) ?_; conv => whnf)
          | (apply And.intro; (focus (first | omega | rfl | decide | exact Nat.le_of_ble_eq_true rfl | ((repeat' (first | exact all_nil | refine all_cons ?_ ?_ | rfl | fail)); done) | (simp [-List.length_flatMap]; done) | (simp [-List.length_flatMap]; omega) | fail)); conv => whnf)
          | fail)
        · refine ⟨_, Sub.refl _, ?_, i3.sub.set hb3 _ _⟩
          rw [i4, listF_short hq hx]
          simp only [tupA, fg, fgL, fgE, listA]
        · exact absurd h hq
      · simp only [hx] at hc
        have hcl := cut_len hx
        have hmo := more_ok hN hE i3 i1.2 one (by omega)
        unfold moreA at hmo
        rcases hm : moreF out one with e | ⟨v, n⟩
        · simp only [hm] at hmo
          repeat' (first
            | (exfalso; first | omega | exact (by assumption : ¬ True) trivial | fail)
            | (refine ⟨Sub.refl _, ?_⟩)
            | (refine brA_split (fun h => ?_) (fun h => ?_) <;> (try rw [h]) <;> (try simp only [Bool.false_eq_true, Bool.true_eq_false, ↓reduceIte, decide_eq_true_eq, decide_eq_false_iff_not, Bool.not_eq_true', Bool.not_eq_false'] at h) <;> (conv => whnf))
            | (refine getB_of (by ((repeat (first | exact set_bx_same | assumption | refine (set_bx_other (by assumption)).trans ?_ | refine grow_bx.trans ?_)); done)) ?_; conv => whnf)
            | (refine ACalls.pure' ?_ (hc); rintro _ rfl; conv => whnf)
            | (refine DCall.pure ?_ (hc); conv => whnf)
            | (refine ACalls.by hmo ?_; rintro _ s2 ⟨rfl, hs2⟩; conv => whnf)
            | (refine getB_same ?_; conv => whnf)
            | (refine AWp.any (by kernel_rfl) (by kernel_rfl) (by kernel_rfl) ?_; conv => whnf)
            | (apply And.intro; (focus (first | omega | rfl | decide | exact Nat.le_of_ble_eq_true rfl | ((repeat' (first | exact all_nil | refine all_cons ?_ ?_ | rfl | fail)); done) | (simp [-List.length_flatMap]; done) | (simp [-List.length_flatMap]; omega) | fail)); conv => whnf)
            | fail)
          · subst hs2
            intro b11 hb11
            have n_b3_b11 : b3 ≠ b11 := ne_of_none (by ((repeat (first | exact set_bx_same | assumption | refine (set_bx_other (by assumption)).trans ?_ | refine grow_bx.trans ?_)); done)) hb11
            have n_b11_b3 : b11 ≠ b3 := fun h => n_b3_b11 h.symm
            conv => whnf
            repeat' (first
              | (exfalso; first | omega | exact (by assumption : ¬ True) trivial | fail)
              | (refine ⟨Sub.refl _, ?_⟩)
              | (refine brA_split (fun h => ?_) (fun h => ?_) <;> (try rw [h]) <;> (try simp only [Bool.false_eq_true, Bool.true_eq_false, ↓reduceIte, decide_eq_true_eq, decide_eq_false_iff_not, Bool.not_eq_true', Bool.not_eq_false'] at h) <;> (conv => whnf))
              | (refine getB_of (by ((repeat (first | exact set_bx_same | assumption | refine (set_bx_other (by assumption)).trans ?_ | refine grow_bx.trans ?_)); done)) ?_; conv => whnf)
              | (refine ACalls.by (AsV.asHit_ok hA e set_bx_same) ?_; rintro _ _ ⟨rfl, rfl⟩; conv => whnf)
              | (refine getB_same ?_; conv => whnf)
              | (refine AWp.any (by kernel_rfl) (by kernel_rfl) (by kernel_rfl) ?_; conv => whnf)
              | (apply And.intro; (focus (first | omega | rfl | decide | exact Nat.le_of_ble_eq_true rfl | ((repeat' (first | exact all_nil | refine all_cons ?_ ?_ | rfl | fail)); done) | (simp [-List.length_flatMap]; done) | (simp [-List.length_flatMap]; omega) | fail)); conv => whnf)
              | fail)
            have g11 := i3.sub.none hb11
            refine ⟨_, Sub.refl _, ?_, ((i3.sub.set g11 _ _).set g11 _ _).set hb3 _ _⟩
            rw [i4, listF_bad hq hx hm]
            simp only [tupA, fg, fgL, fgE, listA]
          · exact absurd h hq
        · simp only [hm] at hmo
          have hmb := more_bound hm
          repeat' (first
            | (exfalso; first | omega | exact (by assumption : ¬ True) trivial | fail)
            | (refine ⟨Sub.refl _, ?_⟩)
            | (refine brA_split (fun h => ?_) (fun h => ?_) <;> (try rw [h]) <;> (try simp only [Bool.false_eq_true, Bool.true_eq_false, ↓reduceIte, decide_eq_true_eq, decide_eq_false_iff_not, Bool.not_eq_true', Bool.not_eq_false'] at h) <;> (conv => whnf))
            | (refine getB_of (by ((repeat (first | exact set_bx_same | assumption | refine (set_bx_other (by assumption)).trans ?_ | refine grow_bx.trans ?_)); done)) ?_; conv => whnf)
            | (refine ACalls.pure' ?_ (hc); rintro _ rfl; conv => whnf)
            | (refine DCall.pure ?_ (hc); conv => whnf)
            | (refine ACalls.by hmo ?_; rintro _ s2 ⟨t2, rfl, ho2, hbx2⟩; conv => whnf)
            | (refine getB_same ?_; conv => whnf)
            | (refine AWp.any (by kernel_rfl) (by kernel_rfl) (by kernel_rfl) ?_; conv => whnf)
            | (apply And.intro; (focus (first | omega | rfl | decide | exact Nat.le_of_ble_eq_true rfl | ((repeat' (first | exact all_nil | refine all_cons ?_ ?_ | rfl | fail)); done) | (simp [-List.length_flatMap]; done) | (simp [-List.length_flatMap]; omega) | fail)); conv => whnf)
            | fail)
          · have j5 : s2.bx b3 = some (34, [.int .i64 0, .int .i64 0, .int .i64 0]) := by rw [hbx2]; exact i5
            intro b11 hb11
            have n_b3_b11 : b3 ≠ b11 := ne_of_none j5 hb11
            have n_b11_b3 : b11 ≠ b3 := fun h => n_b3_b11 h.symm
            conv => whnf
            repeat' (first
              | (exfalso; first | omega | exact (by assumption : ¬ True) trivial | fail)
              | (refine ⟨Sub.refl _, ?_⟩)
              | (refine brA_split (fun h => ?_) (fun h => ?_) <;> (try rw [h]) <;> (try simp only [Bool.false_eq_true, Bool.true_eq_false, ↓reduceIte, decide_eq_true_eq, decide_eq_false_iff_not, Bool.not_eq_true', Bool.not_eq_false'] at h) <;> (conv => whnf))
              | (refine getB_of (by ((repeat (first | exact set_bx_same | assumption | refine (set_bx_other (by assumption)).trans ?_ | refine grow_bx.trans ?_)); done)) ?_; conv => whnf)
              | (refine ACalls.pure' ?_ (AsV.asNil_ok _); rintro _ rfl; conv => whnf)
              | (refine DCall.pure ?_ (AsV.asNil_ok _); conv => whnf)
              | (refine getB_same ?_; conv => whnf)
              | (refine AWp.any (by kernel_rfl) (by kernel_rfl) (by kernel_rfl) ?_; conv => whnf)
              | (apply And.intro; (focus (first | omega | rfl | decide | exact Nat.le_of_ble_eq_true rfl | ((repeat' (first | exact all_nil | refine all_cons ?_ ?_ | rfl | fail)); done) | (simp [-List.length_flatMap]; done) | (simp [-List.length_flatMap]; omega) | fail)); conv => whnf)
              | fail)
            have hwa : IntKind.i64.wrap (a + 1) = a + 1 := i64_of rfl (by omega) (by omega)
            have g11 := ho2.sub.none hb11
            refine ⟨(out ++ List.replicate n.toNat v, t2, rest, a + 1), ?_, by (repeat (first | exact Same.refl _ _ | refine Same.upd rfl ?_ | refine Same.updL rfl ?_ | refine Same.havoc rfl ?_)), ⟨⟨by simp only; omega, by simp only [List.length_append, List.length_replicate]; omega⟩, ⟨by simp only; omega, by simp only; omega⟩, ho2.set g11, (by ((repeat (first | exact set_bx_same | assumption | refine (set_bx_other (by assumption)).trans ?_ | refine grow_bx.trans ?_)); done)), ?_⟩, by simp only; omega⟩
            · exact cons_eq rfl (cons_eq rfl (cons_eq (congrArg (AV.int .i64) hwa) rfl))
            · simp only
              rw [i4, listF_ok hq hx hm, listF_fuel S.length (S.length + 1) _ _ _ (by omega) (by omega)]
          · exact absurd h hq
end Go.Proofs.YtecjpdcoghfmiaaGreatDoor.Vn
/- Chapter 32: the list of a text: the document's answer. -/
namespace Go.Proofs.YtecjpdcoghfmiaaGreatDoor.Vn
open Go Go.Ab Go.RowKit
variable {Γ : Nat → AV}
attribute [local irreducible] APure Sto.set Sto.grow
set_option maxRecDepth 10000
set_option maxHeartbeats 1000000

theorem byte10 {b : UInt8} : (b.toNat : Int) = 10 ↔ b = 10 := by
  constructor
  · intro h
    exact UInt8.toNat_inj.1 (by show b.toNat = 10; omega)
  · rintro rfl; rfl
theorem byte32 {b : UInt8} : (b.toNat : Int) = 32 ↔ b = 32 := by
  constructor
  · intro h
    exact UInt8.toNat_inj.1 (by show b.toNat = 32; omega)
  · rintro rfl; rfl
theorem cutAt_none {c : UInt8} : ∀ l : List UInt8, l.count c = 0 → cutAt c l = none
  | [], _ => rfl
  | x :: l, h => by
    have hx : ¬ x = c := by rintro rfl; simp at h
    rw [List.count_cons_of_ne hx] at h
    rw [cutAt, if_neg hx, cutAt_none l h]
theorem count_take {c : UInt8} {l : List UInt8} {i : Nat} (h : i < l.length) (h0 : (l.take i).count c = 0) (hc : byteAt l i ≠ c) : (l.take (i + 1)).count c = 0 := by
  rw [take_byte h, List.count_append, h0, List.count_cons_of_ne hc]; rfl
theorem cut_here {c : UInt8} {l : List UInt8} {i : Nat} (h : i < l.length) (h0 : (l.take i).count c = 0) (hc : byteAt l i = c) : cutAt c l = some (l.take i, l.drop (i + 1)) := by
  have := cutAt_app c (l.take i) (l.drop (i + 1)) h0
  rwa [show c :: l.drop (i + 1) = l.drop i by rw [drop_byte h, hc], List.take_append_drop] at this
theorem refCut_ok (l : List UInt8) (hl : l.length ≤ 1048576) : APure Tryz.prog Γ 24 [.str l] fun v => v = match cutAt 10 l with | some y => .tuple [.str y.1, .str y.2, .bool true] | none => .tuple [.str [], .str [], .bool false] := by
  refine APure.of_awp Tryz.func24 rfl (Nat.le_of_ble_eq_true (by kernel_rfl)) (by kernel_rfl) ?_
  intro s
  conv => whnf
  repeat' (first
    | (refine ⟨Sub.refl _, ?_⟩)
    | (refine brA_split (fun h => ?_) (fun h => ?_) <;> (try rw [h]) <;> (try simp only [Bool.false_eq_true, Bool.true_eq_false, ↓reduceIte, decide_eq_true_eq, decide_eq_false_iff_not, Bool.not_eq_true', Bool.not_eq_false'] at h) <;> (conv => whnf))
    | (refine getB_same ?_; conv => whnf)
    | (refine AWp.any (by kernel_rfl) (by kernel_rfl) (by kernel_rfl) ?_; conv => whnf)
    | (apply And.intro; (focus (first | omega | rfl | decide | exact Nat.le_of_ble_eq_true rfl | ((repeat' (first | exact all_nil | refine all_cons ?_ ?_ | rfl | fail)); done) | (simp [-List.length_flatMap]; done) | (simp [-List.length_flatMap]; omega) | fail)); conv => whnf)
    | fail)
  refine AWp.loopA [5] [6, 7, 8, 9, 12, 13, 14, 15, 16, 17, 18, 19, 20, 21, 22, 2, 3, 4, 10, 11] (fun i : Nat => [.int .i64 i]) (fun i s' => i ≤ l.length ∧ s' = s ∧ (l.take i).count 10 = 0) (fun i => l.length - i) (0) (by kernel_rfl) (by (repeat' (first | refine cons_eq ?_ ?_ | refine int64_of ?_ ?_ ?_ | rfl | omega))) ?_ ?_
  · exact ⟨Nat.zero_le _, rfl, rfl⟩
  · rintro x i s1 ⟨h1, rfl, h2⟩
    show awp _ _ _ _ _ (updL _ _ [.int .i64 (i : Int)]) _
    conv => whnf
    by_cases hlt : i < l.length
    · have hz : byteAt l ((i : Int)).toNat = byteAt l i := rfl
      have hb := byte10 (b := byteAt l i)
      have hw : IntKind.i64.wrap ((i : Int) + 1) = ((i + 1 : Nat) : Int) := i64_of (by omega) (by omega) (by omega)
      have hA : List.drop 0 (List.take ((i : Int)).toNat l) = l.take i := by rw [Int.toNat_natCast, List.drop_zero]
      have hB : List.drop (((i + 1 : Nat) : Int)).toNat (List.take l.length l) = l.drop (i + 1) := by rw [Int.toNat_natCast, drop_take_all]
      repeat' (first
        | (exfalso; first | omega | exact (by assumption : ¬ True) trivial | fail)
        | (refine ⟨Sub.refl _, ?_⟩)
        | (refine brA_split (fun h => ?_) (fun h => ?_) <;> (try rw [h]) <;> (try simp only [Bool.false_eq_true, Bool.true_eq_false, ↓reduceIte, decide_eq_true_eq, decide_eq_false_iff_not, Bool.not_eq_true', Bool.not_eq_false'] at h) <;> (conv => whnf))
        | (rw [hz]; conv => whnf)
        | (rw [hw]; conv => whnf)
        | (rw [hA]; conv => whnf)
        | (rw [hB]; conv => whnf)
        | (refine getB_same ?_; conv => whnf)
        | (refine AWp.any (by kernel_rfl) (by kernel_rfl) (by kernel_rfl) ?_; conv => whnf)
        | (apply And.intro; (focus (first | omega | rfl | decide | exact Nat.le_of_ble_eq_true rfl | ((repeat' (first | exact all_nil | refine all_cons ?_ ?_ | rfl | fail)); done) | (simp [-List.length_flatMap]; done) | (simp [-List.length_flatMap]; omega) | fail)); conv => whnf)
        | fail)
      · rw [cut_here hlt h2 (hb.1 h)]
        rfl
      · exact ⟨i + 1, by (repeat' (first | refine cons_eq ?_ ?_ | refine int64_of ?_ ?_ ?_ | rfl | omega)), by (repeat (first | exact Same.refl _ _ | refine Same.upd rfl ?_ | refine Same.updL rfl ?_ | refine Same.havoc rfl ?_)), ⟨by omega, by first | rfl | trivial, count_take hlt h2 (fun hh => h (hb.2 hh))⟩, by omega⟩
    · obtain rfl : i = l.length := by omega
      rw [List.take_length] at h2
      repeat' (first
        | (exfalso; first | omega | exact (by assumption : ¬ True) trivial | fail)
        | (refine ⟨Sub.refl _, ?_⟩)
        | (refine brA_split (fun h => ?_) (fun h => ?_) <;> (try rw [h]) <;> (try simp only [Bool.false_eq_true, Bool.true_eq_false, ↓reduceIte, decide_eq_true_eq, decide_eq_false_iff_not, Bool.not_eq_true', Bool.not_eq_false'] at h) <;> (conv => whnf))
        | (refine getB_same ?_; conv => whnf)
        | (refine AWp.any (by kernel_rfl) (by kernel_rfl) (by kernel_rfl) ?_; conv => whnf)
        | (apply And.intro; (focus (first | omega | rfl | decide | exact Nat.le_of_ble_eq_true rfl | ((repeat' (first | exact all_nil | refine all_cons ?_ ?_ | rfl | fail)); done) | (simp [-List.length_flatMap]; done) | (simp [-List.length_flatMap]; omega) | fail)); conv => whnf)
        | fail)
      rw [cutAt_none l h2]
      rfl
def refLineA : Except Int (Int × Int) → AV
  | .ok (v, n) => .tuple [.agg [.int .i64 v, .int .i64 n], .int .i64 0]
  | .error e => .tuple [.agg [.int .i64 0, .int .i64 0], .int .i64 e]
theorem refLine_ok (l : List UInt8) (hl : l.length ≤ 1048576) : APure Tryz.prog Γ 25 [.str l] fun v => v = refLineA (lineF l) := by
  refine APure.of_awp Tryz.func25 rfl (Nat.le_of_ble_eq_true (by kernel_rfl)) (by kernel_rfl) ?_
  intro s
  conv => whnf
  intro b2 hb2
  conv => whnf
  repeat' (first
    | (refine ⟨Sub.refl _, ?_⟩)
    | (refine brA_split (fun h => ?_) (fun h => ?_) <;> (try rw [h]) <;> (try simp only [Bool.false_eq_true, Bool.true_eq_false, ↓reduceIte, decide_eq_true_eq, decide_eq_false_iff_not, Bool.not_eq_true', Bool.not_eq_false'] at h) <;> (conv => whnf))
    | (refine getB_same ?_; conv => whnf)
    | (refine AWp.any (by kernel_rfl) (by kernel_rfl) (by kernel_rfl) ?_; conv => whnf)
    | (apply And.intro; (focus (first | omega | rfl | decide | exact Nat.le_of_ble_eq_true rfl | ((repeat' (first | exact all_nil | refine all_cons ?_ ?_ | rfl | fail)); done) | (simp [-List.length_flatMap]; done) | (simp [-List.length_flatMap]; omega) | fail)); conv => whnf)
    | fail)
  refine AWp.loopA [4] [8, 9, 10, 11, 14, 15, 16, 17, 19, 20, 21, 22, 18, 23, 24, 5, 6, 25, 26, 27, 28, 3, 7, 29, 30, 33, 34, 35, 36, 37, 38, 39, 40, 41, 42, 43, 44, 45, 46, 47, 48, 49, 31, 32, 50, 12, 13] (fun i : Nat => [.int .i64 i]) (fun i s' => i ≤ l.length ∧ Sub s s' ∧ s'.bx b2 = some (30, [.int .i64 0, .int .i64 0]) ∧ (l.take i).count 32 = 0) (fun i => l.length - i) (0) (by kernel_rfl) (by (repeat' (first | refine cons_eq ?_ ?_ | refine int64_of ?_ ?_ ?_ | rfl | omega))) ?_ ?_
  · exact ⟨Nat.zero_le _, (Sub.refl _).set hb2 _ _, set_bx_same, rfl⟩
  · rintro x i s1 ⟨h1, hs1, hbx, h2⟩
    show awp _ _ _ _ _ (updL _ _ [.int .i64 (i : Int)]) _
    conv => whnf
    by_cases hlt : i < l.length
    · have hz : byteAt l ((i : Int)).toNat = byteAt l i := rfl
      have hb := byte32 (b := byteAt l i)
      have hw : IntKind.i64.wrap ((i : Int) + 1) = ((i + 1 : Nat) : Int) := i64_of (by omega) (by omega) (by omega)
      have hA : List.drop 0 (List.take ((i : Int)).toNat l) = l.take i := by rw [Int.toNat_natCast, List.drop_zero]
      have hB : List.drop (((i + 1 : Nat) : Int)).toNat (List.take l.length l) = l.drop (i + 1) := by rw [Int.toNat_natCast, drop_take_all]
      have hn := Nu.refNumber_ok (Γ := Γ) (l.take i) (by rw [List.length_take]; omega)
      have hvb := vof_bound (l.drop (i + 1))
      repeat' (first
        | (exfalso; first | omega | exact (by assumption : ¬ True) trivial | fail)
        | (refine ⟨Sub.refl _, ?_⟩)
        | (refine brA_split (fun h => ?_) (fun h => ?_) <;> (try rw [h]) <;> (try simp only [Bool.false_eq_true, Bool.true_eq_false, ↓reduceIte, decide_eq_true_eq, decide_eq_false_iff_not, Bool.not_eq_true', Bool.not_eq_false'] at h) <;> (conv => whnf))
        | (rw [hz]; conv => whnf)
        | (rw [hA]; conv => whnf)
        | (refine ACalls.pure' ?_ (hn); rintro _ rfl; conv => whnf)
        | (refine DCall.pure ?_ (hn); conv => whnf)
        | (refine getB_of hbx ?_; conv => whnf)
        | (refine getB_same ?_; conv => whnf)
        | (refine AWp.any (by kernel_rfl) (by kernel_rfl) (by kernel_rfl) ?_; conv => whnf)
        | (apply And.intro; (focus (first | omega | rfl | decide | exact Nat.le_of_ble_eq_true rfl | ((repeat' (first | exact all_nil | refine all_cons ?_ ?_ | rfl | fail)); done) | (simp [-List.length_flatMap]; done) | (simp [-List.length_flatMap]; omega) | fail)); conv => whnf)
        | fail)
      · exact ⟨i + 1, by (repeat' (first | refine cons_eq ?_ ?_ | refine int64_of ?_ ?_ ?_ | rfl | omega)), by (repeat (first | exact Same.refl _ _ | refine Same.upd rfl ?_ | refine Same.updL rfl ?_ | refine Same.havoc rfl ?_)), ⟨by omega, hs1, hbx, count_take hlt h2 (fun hh => h (hb.2 hh))⟩, by omega⟩
      · rename_i h32
        refine ⟨hs1.set hb2 _ _, ?_⟩
        unfold lineF
        rw [cut_here hlt h2 (hb.1 h32)]
        simp only
        rw [if_pos h]
        rfl
      · rename_i h32
        have hcut := cut_here hlt h2 (hb.1 h32)
        have hlf : lineF l = if Nu.numE (l.take i) ≠ 0 then .error (Nu.numE (l.take i)) else if vof (l.drop (i + 1)) = 0 then .error 11 else if Nu.numN (l.take i) < 1 ∨ 16384 < Nu.numN (l.take i) then .error 5 else .ok (vof (l.drop (i + 1)), Nu.numN (l.take i)) := by
          unfold lineF
          rw [hcut]
        generalize l.drop (i + 1) = rest at *
        generalize l.take i = cnt at *
        refine AWp.loopA [7] [29, 30, 33, 34, 35, 36, 37, 38, 39, 40, 41, 42, 43, 44, 45, 46, 3, 47, 48, 49, 31, 32] (fun v : Int => [.int .i64 v]) (fun v s' => 1 ≤ v ∧ v ≤ 5 ∧ s' = s1 ∧ ∀ u, 1 ≤ u → u < v → vname u ≠ rest) (fun v => (5 - v).toNat) (1) (by kernel_rfl) (by (repeat' (first | refine cons_eq ?_ ?_ | refine int64_of ?_ ?_ ?_ | rfl | omega))) ?_ ?_
        · exact ⟨by omega, by omega, rfl, fun u q1 q2 => by omega⟩
        · rintro y v s2 ⟨v1, v2, hs2, v3⟩
          subst hs2
          show awp _ _ _ _ _ (updL _ _ [.int .i64 v]) _
          conv => whnf
          have hwv : IntKind.i64.wrap (v + 1) = v + 1 := i64_of rfl (by omega) (by omega)
          by_cases hv4 : v ≤ 4
          · repeat' (first
              | (exfalso; first | omega | exact (by assumption : ¬ True) trivial | fail)
              | (refine ⟨Sub.refl _, ?_⟩)
              | (refine brA_split (fun h => ?_) (fun h => ?_) <;> (try rw [h]) <;> (try simp only [Bool.false_eq_true, Bool.true_eq_false, ↓reduceIte, decide_eq_true_eq, decide_eq_false_iff_not, Bool.not_eq_true', Bool.not_eq_false'] at h) <;> (conv => whnf))
              | (refine ACalls.pure' ?_ (refName_ok v); rintro _ rfl; conv => whnf)
              | (refine DCall.pure ?_ (refName_ok v); conv => whnf)
              | (rw [hw]; conv => whnf)
              | (rw [hB]; conv => whnf)
              | (refine getB_of hbx ?_; conv => whnf)
              | (refine getB_same ?_; conv => whnf)
              | (refine AWp.any (by kernel_rfl) (by kernel_rfl) (by kernel_rfl) ?_; conv => whnf)
              | (apply And.intro; (focus (first | omega | rfl | decide | exact Nat.le_of_ble_eq_true rfl | ((repeat' (first | exact all_nil | refine all_cons ?_ ?_ | rfl | fail)); done) | (simp [-List.length_flatMap]; done) | (simp [-List.length_flatMap]; omega) | fail)); conv => whnf)
              | fail)
            · have hf : vname v = rest := by assumption
              have hvf := vof_name (v := v) ⟨v1, hv4⟩
              rw [hf] at hvf
              refine ⟨hs1.set hb2 _ _, ?_⟩
              rw [hlf, if_neg (by omega), if_neg (by omega), if_pos (by omega)]
              rfl
            · have hf : vname v = rest := by assumption
              have hvf := vof_name (v := v) ⟨v1, hv4⟩
              rw [hf] at hvf
              refine ⟨hs1.set hb2 _ _, ?_⟩
              rw [hlf, if_neg (by omega), if_neg (by omega), if_pos (by omega)]
              rfl
            · have hf : vname v = rest := by assumption
              have hvf := vof_name (v := v) ⟨v1, hv4⟩
              rw [hf] at hvf
              refine ⟨hs1.set hb2 _ _, ?_⟩
              rw [hlf, if_neg (by omega), if_neg (by omega), if_neg (by omega), hvf]
              rfl
            · refine ⟨v + 1, by (repeat' (first | refine cons_eq ?_ ?_ | refine int64_of ?_ ?_ ?_ | rfl | omega)), by (repeat (first | exact Same.refl _ _ | refine Same.upd rfl ?_ | refine Same.updL rfl ?_ | refine Same.havoc rfl ?_)), ⟨by omega, by omega, by first | rfl | trivial, fun u q1 q2 => ?_⟩, by omega⟩
              by_cases hu : u = v
              · rw [hu]; exact h
              · exact v3 u q1 (by omega)
          · have hv0 := vof_none (l := rest) (fun u q1 q2 => v3 u q1 (by omega))
            repeat' (first
              | (exfalso; first | omega | exact (by assumption : ¬ True) trivial | fail)
              | (refine ⟨Sub.refl _, ?_⟩)
              | (refine brA_split (fun h => ?_) (fun h => ?_) <;> (try rw [h]) <;> (try simp only [Bool.false_eq_true, Bool.true_eq_false, ↓reduceIte, decide_eq_true_eq, decide_eq_false_iff_not, Bool.not_eq_true', Bool.not_eq_false'] at h) <;> (conv => whnf))
              | (refine getB_of hbx ?_; conv => whnf)
              | (refine getB_same ?_; conv => whnf)
              | (refine AWp.any (by kernel_rfl) (by kernel_rfl) (by kernel_rfl) ?_; conv => whnf)
              | (apply And.intro; (focus (first | omega | rfl | decide | exact Nat.le_of_ble_eq_true rfl | ((repeat' (first | exact all_nil | refine all_cons ?_ ?_ | rfl | fail)); done) | (simp [-List.length_flatMap]; done) | (simp [-List.length_flatMap]; omega) | fail)); conv => whnf)
              | fail)
            refine ⟨hs1.set hb2 _ _, ?_⟩
            rw [hlf, if_neg (by omega), if_pos hv0]
            rfl
    · obtain rfl : i = l.length := by omega
      rw [List.take_length] at h2
      repeat' (first
        | (exfalso; first | omega | exact (by assumption : ¬ True) trivial | fail)
        | (refine ⟨Sub.refl _, ?_⟩)
        | (refine brA_split (fun h => ?_) (fun h => ?_) <;> (try rw [h]) <;> (try simp only [Bool.false_eq_true, Bool.true_eq_false, ↓reduceIte, decide_eq_true_eq, decide_eq_false_iff_not, Bool.not_eq_true', Bool.not_eq_false'] at h) <;> (conv => whnf))
        | (refine getB_of hbx ?_; conv => whnf)
        | (refine getB_same ?_; conv => whnf)
        | (refine AWp.any (by kernel_rfl) (by kernel_rfl) (by kernel_rfl) ?_; conv => whnf)
        | (apply And.intro; (focus (first | omega | rfl | decide | exact Nat.le_of_ble_eq_true rfl | ((repeat' (first | exact all_nil | refine all_cons ?_ ?_ | rfl | fail)); done) | (simp [-List.length_flatMap]; done) | (simp [-List.length_flatMap]; omega) | fail)); conv => whnf)
        | fail)
      refine ⟨hs1.set hb2 _ _, ?_⟩
      unfold lineF
      rw [cutAt_none l h2]
      rfl
/-- The last verdict of a list; 0: none. -/
def lastV (out : List Int) : Int := match out.getLast? with | some v => v | none => 0
def refListA : Except (Int × Int) (List Int) → AV
  | .ok l => .tuple [.slice 0 (intsA .i64 l), .int .i64 0, .int .i64 0]
  | .error (e, a) => .tuple [.slice 0 [], .int .i64 e, .int .i64 a]
structure RefI (s s' : Sto) (S : List UInt8) (out : List Int) (t : Nat) (q : List UInt8) (a : Int) : Prop where
  le : q.length ≤ S.length ∧ out.length ≤ 16384
  pl : 1 ≤ a ∧ a ≤ 1 + (S.length - q.length : Nat)
  own : Own s s' out.isEmpty t 3 1
  is : listF (S.length + 1) [] 1 S = listF (S.length + 1) out a q
theorem refParse_ok (S : List UInt8) (hl : S.length ≤ 1048576) : APure Tryz.prog Γ 13 [.str S] fun v => v = refListA (listF (S.length + 1) [] 1 S) := by
  refine APure.fgt fun s => ?_
  refine ACalls.of_awp Tryz.func13 rfl (Nat.le_of_ble_eq_true (by kernel_rfl)) (awp_ok _ (by kernel_rfl) ?_)
  conv => whnf
  repeat' (first
    | (refine ⟨Sub.refl _, ?_⟩)
    | (refine brA_split (fun h => ?_) (fun h => ?_) <;> (try rw [h]) <;> (try simp only [Bool.false_eq_true, Bool.true_eq_false, ↓reduceIte, decide_eq_true_eq, decide_eq_false_iff_not, Bool.not_eq_true', Bool.not_eq_false'] at h) <;> (conv => whnf))
    | (refine getB_same ?_; conv => whnf)
    | (refine AWp.any (by kernel_rfl) (by kernel_rfl) (by kernel_rfl) ?_; conv => whnf)
    | (apply And.intro; (focus (first | omega | rfl | decide | exact Nat.le_of_ble_eq_true rfl | ((repeat' (first | exact all_nil | refine all_cons ?_ ?_ | rfl | fail)); done) | (simp [-List.length_flatMap]; done) | (simp [-List.length_flatMap]; omega) | fail)); conv => whnf)
    | fail)
  refine AWp.loopA [0, 5, 6, 7] [14, 15, 16, 18, 19, 17, 20, 21, 22, 8, 9, 10, 23, 24, 25, 2, 3, 4, 27, 28, 26, 29, 30, 11, 12, 31, 32, 33, 34, 35, 36, 37, 38, 39, 40, 41, 42, 43, 44, 45, 46, 47, 48, 49, 50, 51, 52, 13, 53, 54, 55, 56, 59, 60, 61, 62, 63, 57, 58, 64, 65, 66, 67, 68] (fun x : List Int × Nat × List UInt8 × Int => [.str x.2.2.1, .slice x.2.1 (intsA .i64 x.1), .int .i64 x.2.2.2, .int .i64 (lastV x.1)]) (fun x s' => RefI s s' S x.1 x.2.1 x.2.2.1 x.2.2.2) (fun x => x.2.2.1.length) (([], 1, S, 1)) (by kernel_rfl) (by (repeat' (first | refine cons_eq ?_ ?_ | refine int64_of ?_ ?_ ?_ | rfl | omega))) ?_ ?_
  · exact ⟨⟨Nat.le_refl _, Nat.zero_le _⟩, ⟨by simp only; omega, by simp⟩, Own.nil _ _ _, rfl⟩
  · rintro x ⟨out, t, q, a⟩ s1 ⟨i1, i2, i3, i4⟩
    simp only at i1 i2 i3 i4
    show awp _ _ _ _ _ (updL _ _ [.str q, .slice t (intsA .i64 out), .int .i64 a, .int .i64 (lastV out)]) _
    conv => whnf
    have hil := intsA_len .i64 out
    by_cases hq : q = []
    · subst hq
      have hz : ([] : List UInt8).length = 0 := rfl
      repeat' (first
        | (exfalso; first | omega | exact (by assumption : ¬ True) trivial | fail)
        | (refine ⟨Sub.refl _, ?_⟩)
        | (refine brA_split (fun h => ?_) (fun h => ?_) <;> (try rw [h]) <;> (try simp only [Bool.false_eq_true, Bool.true_eq_false, ↓reduceIte, decide_eq_true_eq, decide_eq_false_iff_not, Bool.not_eq_true', Bool.not_eq_false'] at h) <;> (conv => whnf))
        | (refine getB_same ?_; conv => whnf)
        | (refine AWp.any (by kernel_rfl) (by kernel_rfl) (by kernel_rfl) ?_; conv => whnf)
        | (apply And.intro; (focus (first | omega | rfl | decide | exact Nat.le_of_ble_eq_true rfl | ((repeat' (first | exact all_nil | refine all_cons ?_ ?_ | rfl | fail)); done) | (simp [-List.length_flatMap]; done) | (simp [-List.length_flatMap]; omega) | fail)); conv => whnf)
        | fail)
      refine ⟨_, Sub.refl _, ?_, i3.sub⟩
      rw [i4, listF_end]
      simp only [tupA, fg, fgL, fgE_ints, refListA]
    · have hqp : 0 < q.length := List.length_pos_iff.2 hq
      have hc := refCut_ok (Γ := Γ) q (by omega)
      rcases hx : cutAt 10 q with _ | ⟨one, rest⟩
      · simp only [hx] at hc
        repeat' (first
          | (exfalso; first | omega | exact (by assumption : ¬ True) trivial | fail)
          | (refine ⟨Sub.refl _, ?_⟩)
          | (refine brA_split (fun h => ?_) (fun h => ?_) <;> (try rw [h]) <;> (try simp only [Bool.false_eq_true, Bool.true_eq_false, ↓reduceIte, decide_eq_true_eq, decide_eq_false_iff_not, Bool.not_eq_true', Bool.not_eq_false'] at h) <;> (conv => whnf))
          | (refine ACalls.pure' ?_ (hc); rintro _ rfl; conv => whnf)
          | (refine DCall.pure ?_ (hc); conv => whnf)
          | (refine getB_same ?_; conv => whnf)
          | (refine AWp.any (by kernel_rfl) (by kernel_rfl) (by kernel_rfl) ?_; conv => whnf)
          | (apply And.intro; (focus (first | omega | rfl | decide | exact Nat.le_of_ble_eq_true rfl | ((repeat' (first | exact all_nil | refine all_cons ?_ ?_ | rfl | fail)); done) | (simp [-List.length_flatMap]; done) | (simp [-List.length_flatMap]; omega) | fail)); conv => whnf)
          | fail)
        refine ⟨_, Sub.refl _, ?_, i3.sub⟩
        rw [i4, listF_short hq hx]
        simp only [tupA, fg, fgL, fgE, refListA]
      · simp only [hx] at hc
        have hcl := cut_len hx
        have hln := refLine_ok (Γ := Γ) one (by omega)
        rcases hlx : lineF one with e | ⟨v, n⟩
        · have hm : moreF out one = .error e := by unfold moreF; rw [hlx]
          have he := line_err hlx
          rw [hlx] at hln
          simp only [refLineA] at hln
          repeat' (first
            | (exfalso; first | omega | exact (by assumption : ¬ True) trivial | fail)
            | (refine ⟨Sub.refl _, ?_⟩)
            | (refine brA_split (fun h => ?_) (fun h => ?_) <;> (try rw [h]) <;> (try simp only [Bool.false_eq_true, Bool.true_eq_false, ↓reduceIte, decide_eq_true_eq, decide_eq_false_iff_not, Bool.not_eq_true', Bool.not_eq_false'] at h) <;> (conv => whnf))
            | (refine ACalls.pure' ?_ (hc); rintro _ rfl; conv => whnf)
            | (refine DCall.pure ?_ (hc); conv => whnf)
            | (refine ACalls.pure' ?_ (hln); rintro _ rfl; conv => whnf)
            | (refine DCall.pure ?_ (hln); conv => whnf)
            | (refine getB_same ?_; conv => whnf)
            | (refine AWp.any (by kernel_rfl) (by kernel_rfl) (by kernel_rfl) ?_; conv => whnf)
            | (apply And.intro; (focus (first | omega | rfl | decide | exact Nat.le_of_ble_eq_true rfl | ((repeat' (first | exact all_nil | refine all_cons ?_ ?_ | rfl | fail)); done) | (simp [-List.length_flatMap]; done) | (simp [-List.length_flatMap]; omega) | fail)); conv => whnf)
            | fail)
          intro b11 hb11
          conv => whnf
          repeat' (first
            | (exfalso; first | omega | exact (by assumption : ¬ True) trivial | fail)
            | (refine ⟨Sub.refl _, ?_⟩)
            | (refine brA_split (fun h => ?_) (fun h => ?_) <;> (try rw [h]) <;> (try simp only [Bool.false_eq_true, Bool.true_eq_false, ↓reduceIte, decide_eq_true_eq, decide_eq_false_iff_not, Bool.not_eq_true', Bool.not_eq_false'] at h) <;> (conv => whnf))
            | (refine getB_of (by ((repeat (first | exact set_bx_same | assumption | refine (set_bx_other (by assumption)).trans ?_ | refine grow_bx.trans ?_)); done)) ?_; conv => whnf)
            | (refine getB_same ?_; conv => whnf)
            | (refine AWp.any (by kernel_rfl) (by kernel_rfl) (by kernel_rfl) ?_; conv => whnf)
            | (apply And.intro; (focus (first | omega | rfl | decide | exact Nat.le_of_ble_eq_true rfl | ((repeat' (first | exact all_nil | refine all_cons ?_ ?_ | rfl | fail)); done) | (simp [-List.length_flatMap]; done) | (simp [-List.length_flatMap]; omega) | fail)); conv => whnf)
            | fail)
          have g11 := i3.sub.none hb11
          refine ⟨_, Sub.refl _, ?_, (i3.sub.set g11 _ _).set g11 _ _⟩
          rw [i4, listF_bad hq hx hm]
          simp only [tupA, fg, fgL, fgE, refListA]
        · have hb := text_line hlx
          rw [hlx] at hln
          simp only [refLineA] at hln
          have hlv : lastV out = v ↔ out.getLast? = some v := by
            unfold lastV
            cases out.getLast? with
            | none => simp; omega
            | some w => simp
          have hw1 : IntKind.i64.wrap (((intsA .i64 out).length : Int) + n) = ((out.length + n.toNat : Nat) : Int) := i64_of (by omega) (by omega) (by omega)
          repeat' (first
            | (exfalso; first | omega | exact (by assumption : ¬ True) trivial | fail)
            | (refine ⟨Sub.refl _, ?_⟩)
            | (refine brA_split (fun h => ?_) (fun h => ?_) <;> (try rw [h]) <;> (try simp only [Bool.false_eq_true, Bool.true_eq_false, ↓reduceIte, decide_eq_true_eq, decide_eq_false_iff_not, Bool.not_eq_true', Bool.not_eq_false'] at h) <;> (conv => whnf))
            | (refine ACalls.pure' ?_ (hc); rintro _ rfl; conv => whnf)
            | (refine DCall.pure ?_ (hc); conv => whnf)
            | (refine ACalls.pure' ?_ (hln); rintro _ rfl; conv => whnf)
            | (refine DCall.pure ?_ (hln); conv => whnf)
            | (refine getB_same ?_; conv => whnf)
            | (refine AWp.any (by kernel_rfl) (by kernel_rfl) (by kernel_rfl) ?_; conv => whnf)
            | (apply And.intro; (focus (first | omega | rfl | decide | exact Nat.le_of_ble_eq_true rfl | ((repeat' (first | exact all_nil | refine all_cons ?_ ?_ | rfl | fail)); done) | (simp [-List.length_flatMap]; done) | (simp [-List.length_flatMap]; omega) | fail)); conv => whnf)
            | fail)
          intro b11 hb11
          have g11 := i3.sub.none hb11
          conv => whnf
          repeat' (first
            | (exfalso; first | omega | exact (by assumption : ¬ True) trivial | fail)
            | (refine ⟨Sub.refl _, ?_⟩)
            | (refine brA_split (fun h => ?_) (fun h => ?_) <;> (try rw [h]) <;> (try simp only [Bool.false_eq_true, Bool.true_eq_false, ↓reduceIte, decide_eq_true_eq, decide_eq_false_iff_not, Bool.not_eq_true', Bool.not_eq_false'] at h) <;> (conv => whnf))
            | (refine getB_of (by ((repeat (first | exact set_bx_same | assumption | refine (set_bx_other (by assumption)).trans ?_ | refine grow_bx.trans ?_)); done)) ?_; conv => whnf)
            | (refine getB_same ?_; conv => whnf)
            | (refine AWp.any (by kernel_rfl) (by kernel_rfl) (by kernel_rfl) ?_; conv => whnf)
            | (apply And.intro; (focus (first | omega | rfl | decide | exact Nat.le_of_ble_eq_true rfl | ((repeat' (first | exact all_nil | refine all_cons ?_ ?_ | rfl | fail)); done) | (simp [-List.length_flatMap]; done) | (simp [-List.length_flatMap]; omega) | fail)); conv => whnf)
            | fail)
          · have hm : moreF out one = .error 10 := by
              unfold moreF; rw [hlx]; simp only; rw [if_pos (hlv.1 h.symm)]
            refine ⟨_, Sub.refl _, ?_, (i3.sub.set g11 _ _).set g11 _ _⟩
            rw [i4, listF_bad hq hx hm]
            simp only [tupA, fg, fgL, fgE, refListA]
          · rename_i hne
            have hm : moreF out one = .error 14 := by
              unfold moreF; rw [hlx]; simp only; rw [if_neg (fun hh => hne (hlv.2 hh).symm), if_pos (by omega)]
            refine ⟨_, Sub.refl _, ?_, (i3.sub.set g11 _ _).set g11 _ _⟩
            rw [i4, listF_bad hq hx hm]
            simp only [tupA, fg, fgL, fgE, refListA]
          · rename_i hne
            have hm : moreF out one = .ok (v, n) := by
              unfold moreF; rw [hlx]; simp only; rw [if_neg (fun hh => hne (hlv.2 hh).symm), if_neg (by omega)]
            have hb' := hb.2
            have hmb := more_bound hm
            refine AWp.loopA [5, 13] [53, 54, 55, 56, 59, 60, 61, 62, 63, 57, 58] (fun x : Nat × Nat => [.slice x.2 (intsA .i64 (out ++ List.replicate x.1 v)), .int .i64 x.1]) (fun x s' => x.1 ≤ n.toNat ∧ Own s s' (out ++ List.replicate x.1 v).isEmpty x.2 3 1 ∧ s'.bx b11 = some (30, [.int .i64 v, .int .i64 n])) (fun x => n.toNat - x.1) ((0, t)) (by kernel_rfl) (cons_eq (show AV.slice t (intsA .i64 out) = AV.slice t (intsA .i64 (out ++ List.replicate 0 v)) by rw [List.replicate_zero, List.append_nil]) (cons_eq rfl rfl)) ?_ ?_
            · exact ⟨Nat.zero_le _, by rw [List.replicate_zero, List.append_nil]; exact (i3.set g11).set g11, set_bx_same⟩
            · rintro x ⟨i, t1⟩ s2 ⟨hi, ho1, hbx⟩
              simp only at hi ho1 hbx
              show awp _ _ _ _ _ (updL _ _ [.slice t1 (intsA .i64 (out ++ List.replicate i v)), .int .i64 (i : Int)]) _
              conv => whnf
              by_cases hlt : i < n.toNat
              · have hsl : (intsA .i64 (out ++ List.replicate i v)).length = out.length + i := by rw [intsA_len, List.length_append, List.length_replicate]
                repeat' (first
                  | (exfalso; first | omega | exact (by assumption : ¬ True) trivial | fail)
                  | (refine ⟨Sub.refl _, ?_⟩)
                  | (refine brA_split (fun h => ?_) (fun h => ?_) <;> (try rw [h]) <;> (try simp only [Bool.false_eq_true, Bool.true_eq_false, ↓reduceIte, decide_eq_true_eq, decide_eq_false_iff_not, Bool.not_eq_true', Bool.not_eq_false'] at h) <;> (conv => whnf))
                  | (refine getB_of hbx ?_; conv => whnf)
                  | (refine getB_same ?_; conv => whnf)
                  | (refine AWp.any (by kernel_rfl) (by kernel_rfl) (by kernel_rfl) ?_; conv => whnf)
                  | (apply And.intro; (focus (first | omega | rfl | decide | exact Nat.le_of_ble_eq_true rfl | ((repeat' (first | exact all_nil | refine all_cons ?_ ?_ | rfl | fail)); done) | (simp [-List.length_flatMap]; done) | (simp [-List.length_flatMap]; omega) | fail)); conv => whnf)
                  | fail)
                refine ⟨ho1.may, fun c hc => ?_, all_cons ⟨rfl, rfl⟩ all_nil, ?_, ?_⟩
                · obtain ⟨w, _, rfl⟩ := List.mem_map.1 hc; rfl
                · show ((intsA .i64 (out ++ List.replicate i v)).length + 1) * (8 + 1) ≤ _
                  rw [hsl]; omega
                intro t2 k1 k2
                have k3 := ho1.grow k1 k2
                conv => whnf
                repeat' (first
                  | (exfalso; first | omega | exact (by assumption : ¬ True) trivial | fail)
                  | (refine ⟨Sub.refl _, ?_⟩)
                  | (refine brA_split (fun h => ?_) (fun h => ?_) <;> (try rw [h]) <;> (try simp only [Bool.false_eq_true, Bool.true_eq_false, ↓reduceIte, decide_eq_true_eq, decide_eq_false_iff_not, Bool.not_eq_true', Bool.not_eq_false'] at h) <;> (conv => whnf))
                  | (refine getB_same ?_; conv => whnf)
                  | (refine AWp.any (by kernel_rfl) (by kernel_rfl) (by kernel_rfl) ?_; conv => whnf)
                  | (apply And.intro; (focus (first | omega | rfl | decide | exact Nat.le_of_ble_eq_true rfl | ((repeat' (first | exact all_nil | refine all_cons ?_ ?_ | rfl | fail)); done) | (simp [-List.length_flatMap]; done) | (simp [-List.length_flatMap]; omega) | fail)); conv => whnf)
                  | fail)
                refine ⟨(i + 1, t2), ?_, by (repeat (first | exact Same.refl _ _ | refine Same.upd rfl ?_ | refine Same.updL rfl ?_ | refine Same.havoc rfl ?_)), ⟨by simp only; omega, ?_, grow_bx.trans hbx⟩, by simp only; omega⟩
                · rw [List.replicate_succ', ← List.append_assoc]
                  exact cons_eq (congrArg (AV.slice t2) (intsA_app _ _)) (cons_eq (congrArg (AV.int .i64) (i64_of (by omega) (by omega) (by omega))) rfl)
                · simp only
                  rw [List.replicate_succ', ← List.append_assoc, show ((out ++ List.replicate i v) ++ [v]).isEmpty = ((out ++ List.replicate i v).isEmpty && false) by cases (out ++ List.replicate i v) <;> rfl]
                  exact k3
              · obtain rfl : i = n.toNat := by omega
                repeat' (first
                  | (exfalso; first | omega | exact (by assumption : ¬ True) trivial | fail)
                  | (refine ⟨Sub.refl _, ?_⟩)
                  | (refine brA_split (fun h => ?_) (fun h => ?_) <;> (try rw [h]) <;> (try simp only [Bool.false_eq_true, Bool.true_eq_false, ↓reduceIte, decide_eq_true_eq, decide_eq_false_iff_not, Bool.not_eq_true', Bool.not_eq_false'] at h) <;> (conv => whnf))
                  | (refine getB_of hbx ?_; conv => whnf)
                  | (refine getB_same ?_; conv => whnf)
                  | (refine AWp.any (by kernel_rfl) (by kernel_rfl) (by kernel_rfl) ?_; conv => whnf)
                  | (apply And.intro; (focus (first | omega | rfl | decide | exact Nat.le_of_ble_eq_true rfl | ((repeat' (first | exact all_nil | refine all_cons ?_ ?_ | rfl | fail)); done) | (simp [-List.length_flatMap]; done) | (simp [-List.length_flatMap]; omega) | fail)); conv => whnf)
                  | fail)
                have hwa : IntKind.i64.wrap (a + 1) = a + 1 := i64_of rfl (by omega) (by omega)
                refine ⟨(out ++ List.replicate n.toNat v, t1, rest, a + 1), ?_, by (repeat (first | exact Same.refl _ _ | refine Same.upd rfl ?_ | refine Same.updL rfl ?_ | refine Same.havoc rfl ?_)), ⟨⟨by simp only; omega, by simp only [List.length_append, List.length_replicate]; omega⟩, ⟨by simp only; omega, by simp only; omega⟩, ho1, ?_⟩, by simp only; omega⟩
                · refine cons_eq rfl (cons_eq rfl (cons_eq (congrArg (AV.int .i64) hwa) (cons_eq ?_ rfl)))
                  show AV.int .i64 v = AV.int .i64 (lastV (out ++ List.replicate n.toNat v))
                  rw [lastV, last_repl out v (by omega)]
                · simp only
                  rw [i4, listF_ok hq hx hm, listF_fuel S.length (S.length + 1) _ _ _ (by omega) (by omega)]
end Go.Proofs.YtecjpdcoghfmiaaGreatDoor.Vn
