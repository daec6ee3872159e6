/- Chapter 9: what is joined of tokens has the same tokens: the plain law. -/
import Derived.Test.YtnelknhacamboaaGreatDoorLxH
import Derived.Test.YtnelknhacamboaaGreatDoorJo1
set_option linter.all false
namespace Go.Proofs.YtnelknhacamboaaGreatDoor.Lx
open Go Go.Ab Go.RowKit Go.Proofs.YtnelknhacamboaaGreatDoor.Sc
set_option maxRecDepth 10000
set_option maxHeartbeats 1000000

/-- A token as it stands. -/
def showT (k : Int) (t : List UInt8) : List UInt8 := if k = 4 then Qu.quote t else t
/-- What may stand behind a token. -/
def After (r : List UInt8) : Prop := r = [] ∨ ∃ x, r = 32 :: x
theorem letN_app : ∀ (a r : List UInt8), a.all (fun c => wordc c.toNat) = true → After r → letN (a ++ r) = a.length
  | [], r, _, h => by
    rcases h with rfl | ⟨x, rfl⟩
    · rfl
    · rw [List.nil_append, letN, if_neg (by decide)]; rfl
  | c :: a, r, ha, h => by
    simp only [List.all_cons, Bool.and_eq_true] at ha
    rw [List.cons_append, letN, if_pos ha.1, letN_app a r ha.2 h]; rfl
theorem sign_app (g r : List UInt8) (hg : g ∈ signsL) (h : After r) : signOf (g ++ r) = g ∧ letN (g ++ r) = 0 ∧ byteAt (g ++ r) 0 ≠ 34 := by
  unfold signsL at hg
  simp only [List.mem_cons, List.not_mem_nil, or_false] at hg
  rcases h with rfl | ⟨x, rfl⟩
  · rcases hg with rfl | rfl | rfl | rfl | rfl | rfl | rfl | rfl | rfl | rfl | rfl | rfl | rfl | rfl | rfl | rfl <;> decide
  · rcases hg with rfl | rfl | rfl | rfl | rfl | rfl | rfl | rfl | rfl | rfl | rfl | rfl | rfl | rfl | rfl | rfl <;> refine ⟨?_, ?_, ?_⟩ <;> first | (simp [signOf, signF, signsL, pfx]; done) | (rw [List.cons_append, letN, if_neg (by decide)]; done) | (simp [byteAt]; done)
theorem letters_text {l t : List UInt8} {k : Int} (h : lettersF l = .ok (k, t)) : t = l ∧ k ≠ 4 := by
  unfold lettersF at h
  split at h
  · split at h
    · cases h; exact ⟨rfl, by decide⟩
    · cases h
  · split at h
    · cases h
    · split at h <;> cases h <;> exact ⟨rfl, by decide⟩
theorem head_app {a r : List UInt8} (h : a ≠ []) : byteAt (a ++ r) 0 = byteAt a 0 := by
  cases a with
  | nil => exact absurd rfl h
  | cons c a => rfl
theorem head_take {a : List UInt8} {n : Nat} (h : n ≠ 0) : byteAt (a.take n) 0 = byteAt a 0 := by
  cases a with
  | nil => simp
  | cons c a =>
    cases n with
    | zero => exact absurd rfl h
    | succ n => rfl
/-- A token that is cut from a text is cut, whatever may stand behind it. -/
theorem first_again {q t : List UInt8} {k : Int} {n : Nat} (h : firstF q = .ok (k, t, n)) (h0 : q ≠ []) : showT k t = q.take n ∧ ∀ r, After r → firstF (showT k t ++ r) = .ok (k, t, n) := by
  have hbd := first_bound h h0
  unfold firstF at h
  split at h
  · split at h
    · cases h
    · rename_i t' k' hc
      have hb := Qu.cut_back hc
      split at h
      · cases h
      · rename_i hlen
        cases h
        have hs : showT 4 t = Qu.quote t := if_pos rfl
        rw [hs]
        refine ⟨hb.2.2, fun r _ => ?_⟩
        have hl : (Qu.quote t).length = n := by rw [hb.2.2, List.length_take]; omega
        unfold firstF
        rw [if_pos (by rfl), Qu.cut_quote, hl]
        simp only [if_neg hlen]
  · rename_i h34
    split at h
    · split at h
      · cases h
      · rename_i hg
        cases h
        rcases signF_spec signsL q with hs | hs
        · exact absurd hs hg
        · have hp := pfx_take hs.2
          have hsh : showT 5 (signOf q) = signOf q := if_neg (by decide)
          rw [hsh]
          refine ⟨hp.2.symm, fun r hr => ?_⟩
          have hsa := sign_app (signOf q) r hs.1 hr
          unfold firstF
          rw [if_neg hsa.2.2, if_pos hsa.2.1, hsa.1, if_neg hg]
    · rename_i hn
      split at h
      · cases h
      · rename_i k' t' hl
        cases h
        obtain ⟨rfl, hk⟩ := letters_text hl
        have hsh : showT k (q.take (letN q)) = q.take (letN q) := if_neg hk
        rw [hsh]
        refine ⟨rfl, fun r hr => ?_⟩
        have hne : q.take (letN q) ≠ [] := by
          rw [Ne, ← List.length_eq_zero_iff, List.length_take]; omega
        have hlen : (q.take (letN q)).length = letN q := by rw [List.length_take]; omega
        have hla := letN_app (q.take (letN q)) r (letN_all q) hr
        rw [hlen] at hla
        unfold firstF
        rw [if_neg (by rw [head_app hne, head_take hn]; exact h34), hla, if_neg hn, List.take_left' hlen, hl]
theorem first_notBlank {q t : List UInt8} {k : Int} {n : Nat} (h : firstF q = .ok (k, t, n)) : blankN q = 0 := by
  cases q with
  | nil => rfl
  | cons c q =>
    unfold blankN
    rw [blankF]
    split
    · rename_i hc
      subst hc
      exfalso
      unfold firstF at h
      rw [if_neg (by simp [byteAt]), show letN (35 :: q) = 0 by rw [letN, if_neg (by decide)], if_pos rfl, show signOf (35 :: q) = [] by simp [signOf, signF, signsL, pfx], if_pos rfl] at h
      cases h
    · split
      · rename_i hb
        exfalso
        have hc : c = 32 ∨ c = 9 ∨ c = 10 ∨ c = 13 := by
          rcases (blankc_iff c).1 hb with hh | hh | hh | hh
          · exact .inl ((byte_lit (n := 32) (by decide)).1 hh)
          · exact .inr (.inl ((byte_lit (n := 9) (by decide)).1 hh))
          · exact .inr (.inr (.inl (b10.1 hh)))
          · exact .inr (.inr (.inr ((byte_lit (n := 13) (by decide)).1 hh)))
        unfold firstF at h
        rw [if_neg (by rcases hc with rfl | rfl | rfl | rfl <;> simp [byteAt]), show letN (c :: q) = 0 by rw [letN, if_neg (by rcases hc with rfl | rfl | rfl | rfl <;> decide)], if_pos rfl, if_pos (by rcases hc with rfl | rfl | rfl | rfl <;> simp [signOf, signF, signsL, pfx])] at h
        cases h
      · rfl
/-- A token that is read as itself. -/
structure Good (t : Tok) : Prop where
  pos : showT t.1 t.2.1 ≠ []
  one : (showT t.1 t.2.1).count 10 = 0
  again : ∀ r, After r → firstF (showT t.1 t.2.1 ++ r) = .ok (t.1, t.2.1, (showT t.1 t.2.1).length)
theorem good_of {q t : List UInt8} {k : Int} {n : Nat} {p : Int × Int} (h : firstF q = .ok (k, t, n)) (h0 : q ≠ []) : Good (k, t, p) ∧ (showT k t).length = n := by
  have hb := first_bound h h0
  have ha := first_again h h0
  have hl : (showT k t).length = n := by rw [ha.1, List.length_take]; omega
  refine ⟨⟨?_, by rw [ha.1]; exact hb.2.2, fun r hr => ?_⟩, hl⟩
  · rw [Ne, ← List.length_eq_zero_iff]; simp only [hl]; omega
  · simp only [hl]
    exact ha.2 r hr
def joinS : List Tok → List UInt8
  | [] => []
  | [x] => showT x.1 x.2.1
  | x :: y :: r => showT x.1 x.2.1 ++ 32 :: joinS (y :: r)
theorem lex_good : ∀ (k : Nat) (p : Int × Int) (l : List UInt8) (m : List Tok), lexF k p l = .ok m → (∀ t ∈ m, Good t) ∧ (joinS m).length ≤ 2 * l.length
  | 0, p, l, m => fun h => by cases h; exact ⟨all_nil, Nat.zero_le _⟩
  | k + 1, p, l, m => fun h => by
    by_cases hl : l.drop (blankN l) = []
    · rw [lexF_end hl] at h; cases h; exact ⟨all_nil, Nat.zero_le _⟩
    · rcases he : firstF (l.drop (blankN l)) with e' | ⟨kd, t, z⟩
      · rw [lexF_bad hl he] at h; cases h
      · rw [lexF_ok hl he] at h
        have hb := first_bound he hl
        rw [List.length_drop] at hb
        rcases hr : lexF k ((placeF p (l.take (blankN l))).1, (placeF p (l.take (blankN l))).2 + z) ((l.drop (blankN l)).drop z) with ⟨e', a', b'⟩ | m'
        · rw [hr] at h; cases h
        · rw [hr] at h
          have ih := lex_good k _ _ _ hr
          rw [List.length_drop, List.length_drop] at ih
          cases h
          have hg := good_of (p := placeF p (l.take (blankN l))) he hl
          refine ⟨all_cons hg.1 ih.1, ?_⟩
          have h2 := ih.2
          cases m' with
          | nil =>
            show (showT kd t).length ≤ _
            rw [hg.2]; omega
          | cons y m' =>
            show (showT kd t ++ 32 :: joinS (y :: m')).length ≤ _
            rw [List.length_append, hg.2, List.length_cons]; omega
/-- The tokens in one line, a blank between. -/
def relab (c : Int) : List Tok → List Tok
  | [] => []
  | t :: r => (t.1, t.2.1, 1, c) :: relab (c + (showT t.1 t.2.1).length + 1) r
theorem relab_len : ∀ (m : List Tok) (c : Int), (relab c m).length = m.length
  | [], _ => rfl
  | t :: m, c => congrArg (· + 1) (relab_len m _)
theorem join_cons (x : Tok) (m : List Tok) : ∃ r, After r ∧ joinS (x :: m) = showT x.1 x.2.1 ++ r ∧ (m = [] → r = []) ∧ (m ≠ [] → r = 32 :: joinS m) := by
  cases m with
  | nil => exact ⟨[], .inl rfl, (List.append_nil _).symm, fun _ => rfl, fun h => absurd rfl h⟩
  | cons y m => exact ⟨32 :: joinS (y :: m), .inr ⟨_, rfl⟩, rfl, fun h => (by cases h), fun _ => rfl⟩
theorem lex_first {t : Tok} (hg : Good t) {r : List UInt8} (hr : After r) (k : Nat) (p : Int × Int) : lexF (k + 1) p (showT t.1 t.2.1 ++ r) = preT [(t.1, t.2.1, p)] (lexF k (p.1, p.2 + (showT t.1 t.2.1).length) r) := by
  have ha := hg.again r hr
  have hb := first_notBlank ha
  have hne : (showT t.1 t.2.1 ++ r) ≠ [] := fun h => hg.pos (List.append_eq_nil_iff.1 h).1
  rw [lexF_ok (by rw [hb, List.drop_zero]; exact hne) (by rw [hb, List.drop_zero]; exact ha), hb, List.take_zero, List.drop_zero, List.drop_left]
  rfl
theorem lex_blank (k : Nat) (a c : Int) (l : List UInt8) (h : blankN l = 0) : lexF (k + 1) (a, c) (32 :: l) = lexF (k + 1) (a, c + 1) l := by
  have hb : blankN (32 :: l) = 1 := by
    unfold blankN at *
    rw [blankF, if_neg (by decide), if_pos (by decide), h]
  rw [lexF, lexF, hb, h]
  rfl
theorem good_blank {t : Tok} (hg : Good t) {r : List UInt8} (hr : After r) : blankN (showT t.1 t.2.1 ++ r) = 0 := first_notBlank (hg.again r hr)
theorem lex_join : ∀ (m : List Tok) (k : Nat) (c : Int), (∀ t ∈ m, Good t) → (joinS m).length < k → lexF k (1, c) (joinS m) = .ok (relab c m)
  | [], 0, c => fun _ h => by omega
  | [], k + 1, c => fun _ _ => lexF_end rfl
  | t :: m, 0, c => fun _ h => by omega
  | t :: m, k + 1, c => fun hm hk => by
    obtain ⟨r, hr, he, h1, h2⟩ := join_cons t m
    have hg := hm t (by simp)
    have hm' : ∀ t ∈ m, Good t := fun t ht => hm t (by simp [ht])
    have hpos := List.length_pos_iff.2 hg.pos
    rw [he, List.length_append] at hk
    rw [he, lex_first hg hr]
    cases m with
    | nil =>
      rw [h1 rfl]
      cases k with
      | zero => rfl
      | succ k => rw [lexF_end rfl]; rfl
    | cons y m =>
      have hre := h2 (by simp)
      rw [hre] at hk ⊢
      obtain ⟨r', hr', he', _⟩ := join_cons y m
      have hbl := good_blank (hm' y (by simp)) hr'
      rw [← he'] at hbl
      rw [List.length_cons] at hk
      cases k with
      | zero => omega
      | succ k =>
        rw [lex_blank k _ _ _ hbl, lex_join (y :: m) (k + 1) _ hm' (by omega)]
        rfl
theorem join_all {l : List UInt8} {m : List Tok} (hl : l.length ≤ 20000) (h : allT l = .ok m) : (∀ t ∈ m, Good t) ∧ (joinS m).length ≤ 40000 ∧ allT (joinS m) = .ok (relab 1 m) := by
  rw [allT, if_neg (by omega)] at h
  have hg := lex_good _ _ _ _ h
  refine ⟨hg.1, by omega, ?_⟩
  rw [allT, if_neg (by omega), lex_join m _ _ hg.1 (Nat.lt_succ_self _)]
theorem relab_get : ∀ (m : List Tok) (c : Int) (i : Nat), i < m.length → ∃ d, (relab c m).getD i (0, [], 0, 0) = ((m.getD i (0, [], 0, 0)).1, (m.getD i (0, [], 0, 0)).2.1, 1, d)
  | [], c, i, h => by simp at h
  | t :: m, c, 0, h => ⟨c, rfl⟩
  | t :: m, c, i + 1, h => by
    obtain ⟨d, hd⟩ := relab_get m (c + (showT t.1 t.2.1).length + 1) i (by simpa using h)
    exact ⟨d, by simpa [relab, List.getD] using hd⟩
/-- One token more. -/
theorem join_add : ∀ (m : List Tok) (x : Tok), joinS (m ++ [x]) = if m = [] then showT x.1 x.2.1 else joinS m ++ 32 :: showT x.1 x.2.1
  | [], x => rfl
  | [y], x => rfl
  | y :: z :: m, x => by
    rw [List.cons_append, List.cons_append, joinS, ← List.cons_append, join_add (z :: m) x, if_neg (by simp), if_neg (by simp), joinS]
    simp
end Go.Proofs.YtnelknhacamboaaGreatDoor.Lx
/- Chapter 9: what is joined has the same tokens: the walk. -/
namespace Go.Proofs.YtnelknhacamboaaGreatDoor.Lx
open Go Go.Ab Go.RowKit Go.Proofs.YtnelknhacamboaaGreatDoor.Sc
variable {Γ : Nat → AV}
attribute [local irreducible] APure Sto.set Sto.grow
set_option maxRecDepth 10000
set_option maxHeartbeats 1000000

theorem show_len (k : Int) (t : List UInt8) : t.length ≤ (showT k t).length ∧ (showT k t).length ≤ 4 * t.length + 2 := by
  have h1 := Qu.quote_len t
  have h2 := Qu.flat_len t
  unfold showT
  split
  · refine ⟨?_, h1⟩
    unfold Qu.quote
    simp only [List.length_append, List.length_cons, List.length_nil]
    omega
  · omega
theorem text_ok (hQ : Qu.Tabs Γ) (k : Int) (t : List UInt8) (a b : Int) (ht : t.length ≤ 1048576) : APure Tryz.prog Γ 8 [.agg [.int .i64 k, .str t, .int .i64 a, .int .i64 b]] fun v => v = .str (showT k t) := by
  refine APure.of_awp Tryz.func8 rfl (Nat.le_of_ble_eq_true (by kernel_rfl)) (by kernel_rfl) ?_
  intro s
  conv => whnf
  intro b1 hb1
  conv => whnf
  repeat' (first
    | (exfalso; first | omega | exact (by assumption : ¬ True) trivial | fail)
    | (refine ⟨Sub.refl _, ?_⟩)
    | (refine brA_split (fun h => ?_) (fun h => ?_) <;> (try rw [h]) <;> (try simp only [Bool.false_eq_true, Bool.true_eq_false, ↓reduceIte, decide_eq_true_eq, decide_eq_false_iff_not, Bool.not_eq_true', Bool.not_eq_false'] at h) <;> (conv => whnf))
    | (refine getB_of (by ((repeat (first | exact set_bx_same | assumption | refine (set_bx_other (by assumption)).trans ?_ | refine grow_bx.trans ?_)); done)) ?_; conv => whnf)
    | (refine ACalls.pure' ?_ (Qu.progQuote_ok hQ t (by omega)); rintro _ rfl; conv => whnf)
    | (refine DCall.pure ?_ (Qu.progQuote_ok hQ t (by omega)); conv => whnf)
    | (refine getB_same ?_; conv => whnf)
    | (refine AWp.any (by kernel_rfl) (by kernel_rfl) (by kernel_rfl) ?_; conv => whnf)
    | (apply And.intro; (focus (first | omega | rfl | decide | exact Nat.le_of_ble_eq_true rfl | ((repeat' (first | exact all_nil | refine all_cons ?_ ?_ | rfl | fail)); done) | (simp [-List.length_flatMap]; done) | (simp [-List.length_flatMap]; omega) | fail)); conv => whnf)
    | fail)
  · refine ⟨(Sub.refl _).set hb1 _ _, ?_⟩
    rw [showT, if_pos h]; rfl
  · refine ⟨(Sub.refl _).set hb1 _ _, ?_⟩
    rw [showT, if_neg h]; rfl
theorem refText_ok (k : Int) (t : List UInt8) (a b : Int) (ht : t.length ≤ 1048576) : APure Tryz.prog Γ 7 [.agg [.int .i64 k, .str t, .int .i64 a, .int .i64 b]] fun v => v = .str (showT k t) := by
  refine APure.of_awp Tryz.func7 rfl (Nat.le_of_ble_eq_true (by kernel_rfl)) (by kernel_rfl) ?_
  intro s
  conv => whnf
  intro b1 hb1
  conv => whnf
  repeat' (first
    | (exfalso; first | omega | exact (by assumption : ¬ True) trivial | fail)
    | (refine ⟨Sub.refl _, ?_⟩)
    | (refine brA_split (fun h => ?_) (fun h => ?_) <;> (try rw [h]) <;> (try simp only [Bool.false_eq_true, Bool.true_eq_false, ↓reduceIte, decide_eq_true_eq, decide_eq_false_iff_not, Bool.not_eq_true', Bool.not_eq_false'] at h) <;> (conv => whnf))
    | (refine getB_of (by ((repeat (first | exact set_bx_same | assumption | refine (set_bx_other (by assumption)).trans ?_ | refine grow_bx.trans ?_)); done)) ?_; conv => whnf)
    | (refine ACalls.pure' ?_ (Qu.refQuote_ok t (by omega)); rintro _ rfl; conv => whnf)
    | (refine DCall.pure ?_ (Qu.refQuote_ok t (by omega)); conv => whnf)
    | (refine getB_same ?_; conv => whnf)
    | (refine AWp.any (by kernel_rfl) (by kernel_rfl) (by kernel_rfl) ?_; conv => whnf)
    | (apply And.intro; (focus (first | omega | rfl | decide | exact Nat.le_of_ble_eq_true rfl | ((repeat' (first | exact all_nil | refine all_cons ?_ ?_ | rfl | fail)); done) | (simp [-List.length_flatMap]; done) | (simp [-List.length_flatMap]; omega) | fail)); conv => whnf)
    | fail)
  · refine ⟨(Sub.refl _).set hb1 _ _, ?_⟩
    rw [showT, if_pos h]; rfl
  · refine ⟨(Sub.refl _).set hb1 _ _, ?_⟩
    rw [showT, if_neg h]; rfl
def shows (m : List Tok) : List (List UInt8) := m.map fun x => showT x.1 x.2.1
theorem join_shows : ∀ m : List Tok, Lib.join (shows m) [32] = joinS m
  | [] => rfl
  | [x] => Lib.join_one _ _
  | x :: y :: r => by
    have h := join_shows (y :: r)
    simp only [shows, List.map_cons, Lib.join_cons, Lib.joinTail, List.flatten_cons] at h ⊢
    rw [joinS, ← h]
    simp
theorem join_mem : ∀ (m : List Tok) (x : Tok), x ∈ m → (showT x.1 x.2.1).length ≤ (joinS m).length
  | [y], x, h => by
    obtain rfl := List.mem_singleton.1 h
    exact Nat.le_refl _
  | y :: z :: r, x, h => by
    rw [joinS, List.length_append, List.length_cons]
    rcases List.mem_cons.1 h with rfl | h
    · omega
    · have := join_mem (z :: r) x h
      omega
theorem tok_mem {m : List Tok} {i : Nat} (h : i < m.length) : m.getD i (0, [], 0, 0) ∈ m := by simp [List.getD, h]
theorem take_tok {m : List Tok} {i : Nat} (h : i < m.length) : m.take (i + 1) = m.take i ++ [m.getD i (0, [], 0, 0)] := by
  rw [List.take_succ]
  simp [List.getD, h]
theorem shows_len (m : List Tok) : (strsA (shows m)).length = m.length := by rw [strsA_len]; exact List.length_map ..
theorem shows_add {m : List Tok} {i : Nat} (h : i < m.length) : strsA (shows (m.take i)) ++ [[.str (showT (m.getD i (0, [], 0, 0)).1 (m.getD i (0, [], 0, 0)).2.1)]] = strsA (shows (m.take (i + 1))) := by
  rw [take_tok h]; simp [shows, strsA]
theorem progJoin_ok (hQ : Qu.Tabs Γ) (t : Nat) (m : List Tok) (hm : m.length ≤ 1048576) (hj : (joinS m).length ≤ 1048576) : APure Tryz.prog Γ 6 [.slice t (toksA m)] fun v => v = .str (joinS m) := by
  have htl := toksA_len m
  have hjo := Jo.join_ok (Γ := Γ)
  refine APure.of_awp Tryz.func6 rfl (Nat.le_of_ble_eq_true (by kernel_rfl)) (by kernel_rfl) ?_
  intro s
  conv => whnf
  repeat' (first
    | (refine ⟨Sub.refl _, ?_⟩)
    | (refine brA_split (fun h => ?_) (fun h => ?_) <;> (try rw [h]) <;> (try simp only [Bool.false_eq_true, Bool.true_eq_false, ↓reduceIte, decide_eq_true_eq, decide_eq_false_iff_not, Bool.not_eq_true', Bool.not_eq_false'] at h) <;> (conv => whnf))
    | (refine getB_same ?_; conv => whnf)
    | (refine AWp.any (by kernel_rfl) (by kernel_rfl) (by kernel_rfl) ?_; conv => whnf)
    | (apply And.intro; (focus (first | omega | rfl | decide | exact Nat.le_of_ble_eq_true rfl | ((repeat' (first | exact all_nil | refine all_cons ?_ ?_ | rfl | fail)); done) | (simp [-List.length_flatMap]; done) | (simp [-List.length_flatMap]; omega) | fail)); conv => whnf)
    | fail)
  refine AWp.loopA [3, 8] [9, 10, 11, 5, 12, 13, 14, 15, 16, 17] (fun x : Nat × Nat => [.slice x.2 (strsA (shows (m.take x.1))), .int .i64 x.1]) (fun x s' => x.1 ≤ m.length ∧ Own s s' (m.take x.1).isEmpty x.2 9 1) (fun x => m.length - x.1) ((0, 1)) (by kernel_rfl) (by (repeat' (first | refine cons_eq ?_ ?_ | refine int64_of ?_ ?_ ?_ | rfl | omega))) ?_ ?_
  · exact ⟨Nat.zero_le _, Own.nil _ _ _⟩
  · rintro x ⟨i, t1⟩ s1 ⟨hi, ho⟩
    simp only at hi ho
    show awp _ _ _ _ _ (updL _ _ [.slice t1 (strsA (shows (m.take i))), .int .i64 (i : Int)]) _
    conv => whnf
    by_cases hlt : i < m.length
    · have hg := toksA_get hlt
      have hz := join_mem m _ (tok_mem hlt)
      have hsa := shows_add hlt
      have hsl := shows_len (m.take i)
      have htk : (m.take (i + 1)).isEmpty = false := by rw [take_tok hlt]; simp
      rw [List.length_take] at hsl
      rw [tokA] at hg
      generalize m.getD i (0, [], 0, 0) = z at *
      have hzl := show_len z.1 z.2.1
      repeat' (first
        | (exfalso; first | omega | exact (by assumption : ¬ True) trivial | fail)
        | (refine ⟨Sub.refl _, ?_⟩)
        | (refine brA_split (fun h => ?_) (fun h => ?_) <;> (try rw [h]) <;> (try simp only [Bool.false_eq_true, Bool.true_eq_false, ↓reduceIte, decide_eq_true_eq, decide_eq_false_iff_not, Bool.not_eq_true', Bool.not_eq_false'] at h) <;> (conv => whnf))
        | (rw [show (toksA m).getD ((i : Int)).toNat [] = _ from hg]; conv => whnf)
        | (refine getB_same ?_; conv => whnf)
        | (refine AWp.any (by kernel_rfl) (by kernel_rfl) (by kernel_rfl) ?_; conv => whnf)
        | (apply And.intro; (focus (first | omega | rfl | decide | exact Nat.le_of_ble_eq_true rfl | ((repeat' (first | exact all_nil | refine all_cons ?_ ?_ | rfl | fail)); done) | (simp [-List.length_flatMap]; done) | (simp [-List.length_flatMap]; omega) | fail)); conv => whnf)
        | fail)
      intro b5 hb5
      conv => whnf
      repeat' (first
        | (exfalso; first | omega | exact (by assumption : ¬ True) trivial | fail)
        | (refine ⟨Sub.refl _, ?_⟩)
        | (refine brA_split (fun h => ?_) (fun h => ?_) <;> (try rw [h]) <;> (try simp only [Bool.false_eq_true, Bool.true_eq_false, ↓reduceIte, decide_eq_true_eq, decide_eq_false_iff_not, Bool.not_eq_true', Bool.not_eq_false'] at h) <;> (conv => whnf))
        | (refine getB_of (by ((repeat (first | exact set_bx_same | assumption | refine (set_bx_other (by assumption)).trans ?_ | refine grow_bx.trans ?_)); done)) ?_; conv => whnf)
        | (refine ACalls.pure' ?_ (text_ok hQ z.1 z.2.1 z.2.2.1 z.2.2.2 (by omega)); rintro _ rfl; conv => whnf)
        | (refine DCall.pure ?_ (text_ok hQ z.1 z.2.1 z.2.2.1 z.2.2.2 (by omega)); conv => whnf)
        | (refine getB_same ?_; conv => whnf)
        | (refine AWp.any (by kernel_rfl) (by kernel_rfl) (by kernel_rfl) ?_; conv => whnf)
        | (apply And.intro; (focus (first | omega | rfl | decide | exact Nat.le_of_ble_eq_true rfl | ((repeat' (first | exact all_nil | refine all_cons ?_ ?_ | rfl | fail)); done) | (simp [-List.length_flatMap]; done) | (simp [-List.length_flatMap]; omega) | fail)); conv => whnf)
        | fail)
      have g5 := ho.sub.none hb5
      have kk := fun T1 c1 T2 c2 => (ho.set (T := T1) (cs := c1) g5).set (T := T2) (cs := c2) g5
      refine ⟨(kk _ _ _ _).may, fun c hc => ?_, all_cons ⟨rfl, rfl⟩ all_nil, ?_, ?_⟩
      · obtain ⟨w, _, rfl⟩ := List.mem_map.1 hc; rfl
      · show ((strsA (shows (m.take i))).length + 1) * (16 + 1) ≤ _
        rw [hsl]; omega
      intro t2 k1 k2
      have k3 := (kk _ _ _ _).grow k1 k2
      conv => whnf
      repeat' (first
        | (exfalso; first | omega | exact (by assumption : ¬ True) trivial | fail)
        | (refine ⟨Sub.refl _, ?_⟩)
        | (refine brA_split (fun h => ?_) (fun h => ?_) <;> (try rw [h]) <;> (try simp only [Bool.false_eq_true, Bool.true_eq_false, ↓reduceIte, decide_eq_true_eq, decide_eq_false_iff_not, Bool.not_eq_true', Bool.not_eq_false'] at h) <;> (conv => whnf))
        | (refine getB_same ?_; conv => whnf)
        | (refine AWp.any (by kernel_rfl) (by kernel_rfl) (by kernel_rfl) ?_; conv => whnf)
        | (apply And.intro; (focus (first | omega | rfl | decide | exact Nat.le_of_ble_eq_true rfl | ((repeat' (first | exact all_nil | refine all_cons ?_ ?_ | rfl | fail)); done) | (simp [-List.length_flatMap]; done) | (simp [-List.length_flatMap]; omega) | fail)); conv => whnf)
        | fail)
      refine ⟨(i + 1, t2), ?_, by (repeat (first | exact Same.refl _ _ | refine Same.upd rfl ?_ | refine Same.updL rfl ?_ | refine Same.havoc rfl ?_)), ⟨by simp only; omega, ?_⟩, by simp only; omega⟩
      · exact cons_eq (congrArg (AV.slice t2) hsa) (cons_eq (congrArg (AV.int .i64) (i64_of (by omega) (by omega) (by omega))) rfl)
      · simp only
        rw [htk]
        rw [show false = ((m.take i).isEmpty && false) by cases m.take i <;> rfl]
        exact k3
    · obtain rfl : i = m.length := by omega
      rw [List.take_length] at *
      have hjj := hjo t1 (shows m) [32] (by unfold shows; rw [List.length_map]; omega) (by rw [join_shows]; omega)
      rw [join_shows] at hjj
      repeat' (first
        | (exfalso; first | omega | exact (by assumption : ¬ True) trivial | fail)
        | (refine ⟨Sub.refl _, ?_⟩)
        | (refine brA_split (fun h => ?_) (fun h => ?_) <;> (try rw [h]) <;> (try simp only [Bool.false_eq_true, Bool.true_eq_false, ↓reduceIte, decide_eq_true_eq, decide_eq_false_iff_not, Bool.not_eq_true', Bool.not_eq_false'] at h) <;> (conv => whnf))
        | (refine ACalls.pure' ?_ (hjj); rintro _ rfl; conv => whnf)
        | (refine DCall.pure ?_ (hjj); conv => whnf)
        | (refine getB_same ?_; conv => whnf)
        | (refine AWp.any (by kernel_rfl) (by kernel_rfl) (by kernel_rfl) ?_; conv => whnf)
        | (apply And.intro; (focus (first | omega | rfl | decide | exact Nat.le_of_ble_eq_true rfl | ((repeat' (first | exact all_nil | refine all_cons ?_ ?_ | rfl | fail)); done) | (simp [-List.length_flatMap]; done) | (simp [-List.length_flatMap]; omega) | fail)); conv => whnf)
        | fail)
      first | exact ⟨ho.sub, rfl⟩ | exact ⟨_, ho.sub, rfl⟩ | rfl
end Go.Proofs.YtnelknhacamboaaGreatDoor.Lx
/- Chapter 9: the law of what is joined. -/
namespace Go.Proofs.YtnelknhacamboaaGreatDoor.Lx
open Go Go.Ab Go.RowKit Go.Proofs.YtnelknhacamboaaGreatDoor.Sc
variable {Γ : Nat → AV}
attribute [local irreducible] APure Sto.set Sto.grow
set_option maxRecDepth 10000
set_option maxHeartbeats 1000000

theorem join_take {m : List Tok} {i : Nat} (h : i < m.length) : joinS (m.take (i + 1)) = if i = 0 then showT (m.getD i (0, [], 0, 0)).1 (m.getD i (0, [], 0, 0)).2.1 else joinS (m.take i) ++ 32 :: showT (m.getD i (0, [], 0, 0)).1 (m.getD i (0, [], 0, 0)).2.1 := by
  rw [take_tok h, join_add]
  have h0 : m.take i = [] ↔ i = 0 := by
    rw [← List.length_eq_zero_iff, List.length_take]; omega
  by_cases hi : i = 0
  · rw [if_pos (h0.2 hi), if_pos hi]
  · rw [if_neg (fun hh => hi (h0.1 hh)), if_neg hi]
theorem join_take_len : ∀ (m : List Tok) (i : Nat), (joinS (m.take i)).length ≤ (joinS m).length
  | [], i => by rw [List.take_nil]; exact Nat.le_refl _
  | x :: m, 0 => Nat.zero_le _
  | [x], i + 1 => by rw [List.take_succ_cons, List.take_nil]; exact Nat.le_refl _
  | x :: y :: m, 1 => by
    show (showT x.1 x.2.1).length ≤ (showT x.1 x.2.1 ++ 32 :: joinS (y :: m)).length
    rw [List.length_append]; omega
  | x :: y :: m, i + 2 => by
    have := join_take_len (y :: m) (i + 1)
    rw [List.take_succ_cons] at this ⊢
    rw [List.take_succ_cons]
    show (showT x.1 x.2.1 ++ 32 :: joinS (y :: m.take i)).length ≤ (showT x.1 x.2.1 ++ 32 :: joinS (y :: m)).length
    rw [List.length_append, List.length_append, List.length_cons, List.length_cons]
    omega
theorem lexJoins_law (hQ : Qu.Tabs Γ) (hT : Wds Γ) (hE : AsO.ErrT Γ) (S : List UInt8) (hl : S.length ≤ 9223372036854775807) : APure Tryz.prog Γ 3 [.str S] fun v => v = .bool true := by
  by_cases hS : (20000 : Int) < S.length
  · refine APure.of_awp Tryz.func3 rfl (Nat.le_of_ble_eq_true (by kernel_rfl)) (by kernel_rfl) ?_
    intro s
    conv => whnf
    repeat' (first
      | (exfalso; first | omega | exact (by assumption : ¬ True) trivial | fail)
      | (refine ⟨Sub.refl _, ?_⟩)
      | (refine brA_split (fun h => ?_) (fun h => ?_) <;> (try rw [h]) <;> (try simp only [Bool.false_eq_true, Bool.true_eq_false, ↓reduceIte, decide_eq_true_eq, decide_eq_false_iff_not, Bool.not_eq_true', Bool.not_eq_false'] at h) <;> (conv => whnf))
      | (refine ACalls.pure' ?_ (awake_ok hQ hT hE); rintro _ rfl; conv => whnf)
      | (refine DCall.pure ?_ (awake_ok hQ hT hE); conv => whnf)
      | (refine getB_same ?_; conv => whnf)
      | (refine AWp.any (by kernel_rfl) (by kernel_rfl) (by kernel_rfl) ?_; conv => whnf)
      | (apply And.intro; (focus (first | omega | rfl | decide | exact Nat.le_of_ble_eq_true rfl | ((repeat' (first | exact all_nil | refine all_cons ?_ ?_ | rfl | fail)); done) | (simp [-List.length_flatMap]; done) | (simp [-List.length_flatMap]; omega) | fail)); conv => whnf)
      | fail)
    rfl
  · have h1 := progAll_ok hQ hT hE S (by omega)
    rcases hx : allT S with ⟨e, a, b⟩ | m
    · have he0 : e ≠ 0 := by
        rw [allT, if_neg (by omega)] at hx
        exact lexF_err _ _ _ _ _ _ hx
      rw [hx] at h1
      simp only [allA] at h1
      refine APure.of_awp Tryz.func3 rfl (Nat.le_of_ble_eq_true (by kernel_rfl)) (by kernel_rfl) ?_
      intro s
      conv => whnf
      repeat' (first
        | (exfalso; first | omega | exact (by assumption : ¬ True) trivial | fail)
        | (refine ⟨Sub.refl _, ?_⟩)
        | (refine brA_split (fun h => ?_) (fun h => ?_) <;> (try rw [h]) <;> (try simp only [Bool.false_eq_true, Bool.true_eq_false, ↓reduceIte, decide_eq_true_eq, decide_eq_false_iff_not, Bool.not_eq_true', Bool.not_eq_false'] at h) <;> (conv => whnf))
        | (refine ACalls.pure' ?_ (h1); rintro _ rfl; conv => whnf)
        | (refine DCall.pure ?_ (h1); conv => whnf)
        | (refine getB_same ?_; conv => whnf)
        | (refine AWp.any (by kernel_rfl) (by kernel_rfl) (by kernel_rfl) ?_; conv => whnf)
        | (apply And.intro; (focus (first | omega | rfl | decide | exact Nat.le_of_ble_eq_true rfl | ((repeat' (first | exact all_nil | refine all_cons ?_ ?_ | rfl | fail)); done) | (simp [-List.length_flatMap]; done) | (simp [-List.length_flatMap]; omega) | fail)); conv => whnf)
        | fail)
      intro b1 hb1
      conv => whnf
      repeat' (first
        | (exfalso; first | omega | exact (by assumption : ¬ True) trivial | fail)
        | (refine ⟨Sub.refl _, ?_⟩)
        | (refine brA_split (fun h => ?_) (fun h => ?_) <;> (try rw [h]) <;> (try simp only [Bool.false_eq_true, Bool.true_eq_false, ↓reduceIte, decide_eq_true_eq, decide_eq_false_iff_not, Bool.not_eq_true', Bool.not_eq_false'] at h) <;> (conv => whnf))
        | (refine getB_of (by ((repeat (first | exact set_bx_same | assumption | refine (set_bx_other (by assumption)).trans ?_ | refine grow_bx.trans ?_)); done)) ?_; conv => whnf)
        | (refine ACalls.pure' ?_ (awake_ok hQ hT hE); rintro _ rfl; conv => whnf)
        | (refine DCall.pure ?_ (awake_ok hQ hT hE); conv => whnf)
        | (refine EqAgg.of grdFail planFail ?_; conv => whnf)
        | (refine getB_same ?_; conv => whnf)
        | (refine AWp.any (by kernel_rfl) (by kernel_rfl) (by kernel_rfl) ?_; conv => whnf)
        | (apply And.intro; (focus (first | omega | rfl | decide | exact Nat.le_of_ble_eq_true rfl | ((repeat' (first | exact all_nil | refine all_cons ?_ ?_ | rfl | fail)); done) | (simp [-List.length_flatMap]; done) | (simp [-List.length_flatMap]; omega) | fail)); conv => whnf)
        | fail)
      · exact ⟨((Sub.refl _).set hb1 _ _).set hb1 _ _, rfl⟩
      all_goals (exfalso; revert h; simp [he0])
    · have hml : m.length ≤ S.length := by
        rw [allT, if_neg (by omega)] at hx
        exact lexF_len _ _ _ _ hx
      obtain ⟨hgd, hjl, hja⟩ := join_all (by omega) hx
      rw [hx] at h1
      simp only [allA] at h1
      have htl := toksA_len m
      have h2 := progJoin_ok hQ 0 m (by omega) (by omega)
      have h3 := progAll_ok hQ hT hE (joinS m) (by omega)
      rw [hja] at h3
      simp only [allA] at h3
      have hrl := toksA_len (relab 1 m)
      rw [relab_len] at hrl
      refine APure.of_awp Tryz.func3 rfl (Nat.le_of_ble_eq_true (by kernel_rfl)) (by kernel_rfl) ?_
      intro s
      conv => whnf
      repeat' (first
        | (exfalso; first | omega | exact (by assumption : ¬ True) trivial | fail)
        | (refine ⟨Sub.refl _, ?_⟩)
        | (refine brA_split (fun h => ?_) (fun h => ?_) <;> (try rw [h]) <;> (try simp only [Bool.false_eq_true, Bool.true_eq_false, ↓reduceIte, decide_eq_true_eq, decide_eq_false_iff_not, Bool.not_eq_true', Bool.not_eq_false'] at h) <;> (conv => whnf))
        | (refine ACalls.pure' ?_ (h1); rintro _ rfl; conv => whnf)
        | (refine DCall.pure ?_ (h1); conv => whnf)
        | (refine getB_same ?_; conv => whnf)
        | (refine AWp.any (by kernel_rfl) (by kernel_rfl) (by kernel_rfl) ?_; conv => whnf)
        | (apply And.intro; (focus (first | omega | rfl | decide | exact Nat.le_of_ble_eq_true rfl | ((repeat' (first | exact all_nil | refine all_cons ?_ ?_ | rfl | fail)); done) | (simp [-List.length_flatMap]; done) | (simp [-List.length_flatMap]; omega) | fail)); conv => whnf)
        | fail)
      intro b1 hb1
      conv => whnf
      repeat' (first
        | (exfalso; first | omega | exact (by assumption : ¬ True) trivial | fail)
        | (refine ⟨Sub.refl _, ?_⟩)
        | (refine brA_split (fun h => ?_) (fun h => ?_) <;> (try rw [h]) <;> (try simp only [Bool.false_eq_true, Bool.true_eq_false, ↓reduceIte, decide_eq_true_eq, decide_eq_false_iff_not, Bool.not_eq_true', Bool.not_eq_false'] at h) <;> (conv => whnf))
        | (refine getB_of (by ((repeat (first | exact set_bx_same | assumption | refine (set_bx_other (by assumption)).trans ?_ | refine grow_bx.trans ?_)); done)) ?_; conv => whnf)
        | (refine ACalls.pure' ?_ (h2); rintro _ rfl; conv => whnf)
        | (refine DCall.pure ?_ (h2); conv => whnf)
        | (refine EqAgg.of grdFail planFail ?_; conv => whnf)
        | (refine getB_same ?_; conv => whnf)
        | (refine AWp.any (by kernel_rfl) (by kernel_rfl) (by kernel_rfl) ?_; conv => whnf)
        | (apply And.intro; (focus (first | omega | rfl | decide | exact Nat.le_of_ble_eq_true rfl | ((repeat' (first | exact all_nil | refine all_cons ?_ ?_ | rfl | fail)); done) | (simp [-List.length_flatMap]; done) | (simp [-List.length_flatMap]; omega) | fail)); conv => whnf)
        | fail)
      all_goals first | (exfalso; revert h; simp; done) | skip
      refine AWp.loopA [6, 7] [31, 32, 33, 34, 37, 38, 39, 40, 41, 42, 43, 44, 45, 46, 47, 48, 49, 50, 51, 52, 53, 54, 55, 56, 57, 58, 2, 35, 36] (fun i : Nat => [.str (joinS (m.take i)), .int .i64 i]) (fun i s' => i ≤ m.length ∧ Sub s s') (fun i => m.length - i) (0) (by kernel_rfl) (by (repeat' (first | refine cons_eq ?_ ?_ | refine int64_of ?_ ?_ ?_ | rfl | omega))) ?_ ?_
      · exact ⟨Nat.zero_le _, ((Sub.refl _).set hb1 _ _).set hb1 _ _⟩
      · rintro x i s1 ⟨hi, hs1⟩
        show awp _ _ _ _ _ (updL _ _ [.str (joinS (m.take i)), .int .i64 (i : Int)]) _
        conv => whnf
        by_cases hlt : i < m.length
        · have hg := toksA_get hlt
          have hzl := join_mem m _ (tok_mem hlt)
          have hjt := join_take hlt
          have hjn := join_take_len m i
          rw [tokA] at hg
          generalize m.getD i (0, [], 0, 0) = z at *
          have hsl := show_len z.1 z.2.1
          have ht := text_ok hQ z.1 z.2.1 z.2.2.1 z.2.2.2 (by omega)
          have hr := refText_ok (Γ := Γ) z.1 z.2.1 z.2.2.1 z.2.2.2 (by omega)
          have hw : IntKind.i64.wrap ((i : Int) + 1) = ((i + 1 : Nat) : Int) := i64_of (by omega) (by omega) (by omega)
          repeat' (first
            | (exfalso; first | omega | exact (by assumption : ¬ True) trivial | fail)
            | (refine ⟨Sub.refl _, ?_⟩)
            | (refine brA_split (fun h => ?_) (fun h => ?_) <;> (try rw [h]) <;> (try simp only [Bool.false_eq_true, Bool.true_eq_false, ↓reduceIte, decide_eq_true_eq, decide_eq_false_iff_not, Bool.not_eq_true', Bool.not_eq_false'] at h) <;> (conv => whnf))
            | (rw [show (toksA m).getD ((i : Int)).toNat [] = _ from hg]; conv => whnf)
            | (refine ACalls.pure' ?_ (ht); rintro _ rfl; conv => whnf)
            | (refine DCall.pure ?_ (ht); conv => whnf)
            | (refine ACalls.pure' ?_ (hr); rintro _ rfl; conv => whnf)
            | (refine DCall.pure ?_ (hr); conv => whnf)
            | (refine getB_same ?_; conv => whnf)
            | (refine AWp.any (by kernel_rfl) (by kernel_rfl) (by kernel_rfl) ?_; conv => whnf)
            | (apply And.intro; (focus (first | omega | rfl | decide | exact Nat.le_of_ble_eq_true rfl | ((repeat' (first | exact all_nil | refine all_cons ?_ ?_ | rfl | fail)); done) | (simp [-List.length_flatMap]; done) | (simp [-List.length_flatMap]; omega) | fail)); conv => whnf)
            | fail)
          all_goals first | (exfalso; revert h; simp; done) | skip
          · refine ⟨i + 1, ?_, by (repeat (first | exact Same.refl _ _ | refine Same.upd rfl ?_ | refine Same.updL rfl ?_ | refine Same.havoc rfl ?_)), ⟨by omega, hs1⟩, by omega⟩
            rw [hjt, if_neg (by omega)]
            exact cons_eq (by show AV.str ((joinS (m.take i) ++ [32]) ++ showT z.1 z.2.1) = _; simp) (cons_eq (congrArg (AV.int .i64) hw) rfl)
          · have hi0 : i = 0 := by omega
            refine ⟨i + 1, ?_, by (repeat (first | exact Same.refl _ _ | refine Same.upd rfl ?_ | refine Same.updL rfl ?_ | refine Same.havoc rfl ?_)), ⟨by omega, hs1⟩, by omega⟩
            rw [hjt, if_pos hi0]
            subst hi0
            exact cons_eq rfl (cons_eq (congrArg (AV.int .i64) hw) rfl)
        · obtain rfl : i = m.length := by omega
          rw [List.take_length]
          repeat' (first
            | (exfalso; first | omega | exact (by assumption : ¬ True) trivial | fail)
            | (refine ⟨Sub.refl _, ?_⟩)
            | (refine brA_split (fun h => ?_) (fun h => ?_) <;> (try rw [h]) <;> (try simp only [Bool.false_eq_true, Bool.true_eq_false, ↓reduceIte, decide_eq_true_eq, decide_eq_false_iff_not, Bool.not_eq_true', Bool.not_eq_false'] at h) <;> (conv => whnf))
            | (refine ACalls.pure' ?_ (h3); rintro _ rfl; conv => whnf)
            | (refine DCall.pure ?_ (h3); conv => whnf)
            | (refine getB_same ?_; conv => whnf)
            | (refine AWp.any (by kernel_rfl) (by kernel_rfl) (by kernel_rfl) ?_; conv => whnf)
            | (apply And.intro; (focus (first | omega | rfl | decide | exact Nat.le_of_ble_eq_true rfl | ((repeat' (first | exact all_nil | refine all_cons ?_ ?_ | rfl | fail)); done) | (simp [-List.length_flatMap]; done) | (simp [-List.length_flatMap]; omega) | fail)); conv => whnf)
            | fail)
          intro b9 hb9
          conv => whnf
          repeat' (first
            | (exfalso; first | omega | exact (by assumption : ¬ True) trivial | fail)
            | (refine ⟨Sub.refl _, ?_⟩)
            | (refine brA_split (fun h => ?_) (fun h => ?_) <;> (try rw [h]) <;> (try simp only [Bool.false_eq_true, Bool.true_eq_false, ↓reduceIte, decide_eq_true_eq, decide_eq_false_iff_not, Bool.not_eq_true', Bool.not_eq_false'] at h) <;> (conv => whnf))
            | (refine getB_of (by ((repeat (first | exact set_bx_same | assumption | refine (set_bx_other (by assumption)).trans ?_ | refine grow_bx.trans ?_)); done)) ?_; conv => whnf)
            | (refine EqAgg.of grdFail planFail ?_; conv => whnf)
            | (refine getB_same ?_; conv => whnf)
            | (refine AWp.any (by kernel_rfl) (by kernel_rfl) (by kernel_rfl) ?_; conv => whnf)
            | (apply And.intro; (focus (first | omega | rfl | decide | exact Nat.le_of_ble_eq_true rfl | ((repeat' (first | exact all_nil | refine all_cons ?_ ?_ | rfl | fail)); done) | (simp [-List.length_flatMap]; done) | (simp [-List.length_flatMap]; omega) | fail)); conv => whnf)
            | fail)
          all_goals first | (exfalso; revert h; simp [hrl, htl]; done) | skip
          refine AWp.loopA [10] [79, 80, 81, 82, 85, 86, 87, 88, 89, 90, 91, 92, 93, 94, 95, 96, 97, 98, 99, 100, 101, 102, 103, 104, 105, 106, 107, 108, 109, 110, 111, 112, 113, 114, 115, 116, 2, 83, 84] (fun i : Nat => [.int .i64 i]) (fun i s' => i ≤ m.length ∧ Sub s s') (fun i => m.length - i) (0) (by kernel_rfl) (by (repeat' (first | refine cons_eq ?_ ?_ | refine int64_of ?_ ?_ ?_ | rfl | omega))) ?_ ?_
          · exact ⟨Nat.zero_le _, (hs1.set (hs1.none hb9) _ _).set (hs1.none hb9) _ _⟩
          · rintro x i s2 ⟨hi, hs2⟩
            show awp _ _ _ _ _ (updL _ _ [.int .i64 (i : Int)]) _
            conv => whnf
            by_cases hlt : i < m.length
            · have hg := toksA_get hlt
              have hg2 := toksA_get (l := relab 1 m) (i := i) (by rw [relab_len]; exact hlt)
              obtain ⟨d, hd⟩ := relab_get m 1 i hlt
              rw [hd] at hg2
              rw [tokA] at hg hg2
              generalize m.getD i (0, [], 0, 0) = z at *
              simp only at hg2
              repeat' (first
                | (exfalso; first | omega | exact (by assumption : ¬ True) trivial | fail)
                | (refine ⟨Sub.refl _, ?_⟩)
                | (refine brA_split (fun h => ?_) (fun h => ?_) <;> (try rw [h]) <;> (try simp only [Bool.false_eq_true, Bool.true_eq_false, ↓reduceIte, decide_eq_true_eq, decide_eq_false_iff_not, Bool.not_eq_true', Bool.not_eq_false'] at h) <;> (conv => whnf))
                | (rw [show (toksA m).getD ((i : Int)).toNat [] = _ from hg]; conv => whnf)
                | (rw [show (toksA (relab 1 m)).getD ((i : Int)).toNat [] = _ from hg2]; conv => whnf)
                | (refine getB_same ?_; conv => whnf)
                | (refine AWp.any (by kernel_rfl) (by kernel_rfl) (by kernel_rfl) ?_; conv => whnf)
                | (apply And.intro; (focus (first | omega | rfl | decide | exact Nat.le_of_ble_eq_true rfl | ((repeat' (first | exact all_nil | refine all_cons ?_ ?_ | rfl | fail)); done) | (simp [-List.length_flatMap]; done) | (simp [-List.length_flatMap]; omega) | fail)); conv => whnf)
                | fail)
              all_goals first | (exfalso; revert h; simp; done) | skip
              · exact ⟨i + 1, by (repeat' (first | refine cons_eq ?_ ?_ | refine int64_of ?_ ?_ ?_ | rfl | omega)), by (repeat (first | exact Same.refl _ _ | refine Same.upd rfl ?_ | refine Same.updL rfl ?_ | refine Same.havoc rfl ?_)), ⟨by omega, hs2⟩, by omega⟩
            · repeat' (first
                | (exfalso; first | omega | exact (by assumption : ¬ True) trivial | fail)
                | (refine ⟨Sub.refl _, ?_⟩)
                | (refine brA_split (fun h => ?_) (fun h => ?_) <;> (try rw [h]) <;> (try simp only [Bool.false_eq_true, Bool.true_eq_false, ↓reduceIte, decide_eq_true_eq, decide_eq_false_iff_not, Bool.not_eq_true', Bool.not_eq_false'] at h) <;> (conv => whnf))
                | (refine ACalls.pure' ?_ (awake_ok hQ hT hE); rintro _ rfl; conv => whnf)
                | (refine DCall.pure ?_ (awake_ok hQ hT hE); conv => whnf)
                | (refine getB_same ?_; conv => whnf)
                | (refine AWp.any (by kernel_rfl) (by kernel_rfl) (by kernel_rfl) ?_; conv => whnf)
                | (apply And.intro; (focus (first | omega | rfl | decide | exact Nat.le_of_ble_eq_true rfl | ((repeat' (first | exact all_nil | refine all_cons ?_ ?_ | rfl | fail)); done) | (simp [-List.length_flatMap]; done) | (simp [-List.length_flatMap]; omega) | fail)); conv => whnf)
                | fail)
              first | exact ⟨hs2, rfl⟩ | rfl
end Go.Proofs.YtnelknhacamboaaGreatDoor.Lx
