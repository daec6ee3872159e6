/- Chapter 9: all tokens of a text. -/
import Derived.Test.YtnelknhacamboaaGreatDoorLxE
import Derived.Test.YtnelknhacamboaaGreatDoorAsO
set_option linter.all false
namespace Go.Proofs.YtnelknhacamboaaGreatDoor.Lx
open Go Go.Ab Go.RowKit Go.Proofs.YtnelknhacamboaaGreatDoor.Sc
variable {Γ : Nat → AV}
attribute [local irreducible] APure Sto.set Sto.grow
set_option maxRecDepth 10000
set_option maxHeartbeats 1000000

theorem one_no10 : ∀ m : Nat, m < 256 → (Qu.one (m : Int)).count 10 = 0 := by decide +kernel
theorem quote_no10 (t : List UInt8) : (Qu.quote t).count 10 = 0 := by
  unfold Qu.quote
  have h : (t.flatMap fun c => Qu.one c.toNat).count 10 = 0 := by
    induction t with
    | nil => rfl
    | cons c t ih => rw [List.flatMap_cons, List.count_append, ih, one_no10 c.toNat c.toNat_lt]
  simp [h]
theorem signs_no10 : ∀ x ∈ signsL, x.count 10 = 0 := by decide
theorem signF_spec : ∀ (L : List (List UInt8)) (l : List UInt8), signF L l = [] ∨ (signF L l ∈ L ∧ pfx (signF L l) l = true)
  | [], l => .inl rfl
  | x :: L, l => by
    unfold signF
    split
    · rename_i h; exact .inr ⟨by simp, h⟩
    · rcases signF_spec L l with h | h
      · exact .inl h
      · exact .inr ⟨by simp [h.1], h.2⟩
theorem pfx_take {x l : List UInt8} (h : pfx x l = true) : x.length ≤ l.length ∧ l.take x.length = x := by
  unfold pfx at h
  simpa using h
theorem word_no10 (l : List UInt8) (h : l.all (fun c => wordc c.toNat) = true) : l.count 10 = 0 := by
  rw [List.count_eq_zero]
  intro hm
  have := List.all_eq_true.1 h 10 hm
  revert this
  decide
theorem first_bound {l t : List UInt8} {k : Int} {n : Nat} (h : firstF l = .ok (k, t, n)) (h0 : l ≠ []) : 1 ≤ n ∧ n ≤ l.length ∧ (l.take n).count 10 = 0 := by
  unfold firstF at h
  split at h
  · split at h
    · cases h
    · rename_i t' k' hc
      have hb := Qu.cut_back hc
      split at h
      · cases h
      · cases h
        exact ⟨hb.1, hb.2.1, by rw [← hb.2.2]; exact quote_no10 _⟩
  · split at h
    · split at h
      · cases h
      · rename_i hg
        cases h
        rcases signF_spec signsL l with hs | hs
        · exact absurd hs hg
        · have hp := pfx_take hs.2
          refine ⟨List.length_pos_iff.2 hg, hp.1, ?_⟩
          rw [show signOf l = signF signsL l from rfl, hp.2]
          exact signs_no10 _ hs.1
    · rename_i h1
      split at h
      · cases h
      · cases h
        exact ⟨Nat.pos_of_ne_zero h1, letN_le l, word_no10 _ (letN_all l)⟩
theorem place_plain {l : List UInt8} (h : l.count 10 = 0) (p : Int × Int) : placeF p l = (p.1, p.2 + l.length) := by
  obtain ⟨a, b⟩ := p
  rw [placeF_eq, if_pos h]
abbrev Tok := Int × List UInt8 × Int × Int
/-- All tokens of a text from a place on; or what is wrong, and where. -/
def lexF : Nat → Int × Int → List UInt8 → Except (Int × Int × Int) (List Tok)
  | 0, _, _ => .ok []
  | k + 1, p, l => if l.drop (blankN l) = [] then .ok [] else match firstF (l.drop (blankN l)) with
    | .error e => .error (e, placeF p (l.take (blankN l)))
    | .ok (kd, t, z) => match lexF k ((placeF p (l.take (blankN l))).1, (placeF p (l.take (blankN l))).2 + z) ((l.drop (blankN l)).drop z) with
      | .error e => .error e
      | .ok m => .ok ((kd, t, placeF p (l.take (blankN l))) :: m)
def preT (o : List Tok) : Except (Int × Int × Int) (List Tok) → Except (Int × Int × Int) (List Tok)
  | .error e => .error e
  | .ok m => .ok (o ++ m)
theorem preT_pre (o p : List Tok) (x : Except (Int × Int × Int) (List Tok)) : preT o (preT p x) = preT (o ++ p) x := by cases x <;> simp [preT]
theorem preT_nil (x : Except (Int × Int × Int) (List Tok)) : preT [] x = x := by cases x <;> simp [preT]
theorem lexF_end {k : Nat} {p : Int × Int} {l : List UInt8} (h : l.drop (blankN l) = []) : lexF (k + 1) p l = .ok [] := by rw [lexF, if_pos h]
theorem lexF_bad {k : Nat} {p : Int × Int} {l : List UInt8} {e : Int} (h : l.drop (blankN l) ≠ []) (he : firstF (l.drop (blankN l)) = .error e) : lexF (k + 1) p l = .error (e, placeF p (l.take (blankN l))) := by rw [lexF, if_neg h, he]
theorem lexF_ok {k : Nat} {p : Int × Int} {l t : List UInt8} {kd : Int} {z : Nat} (h : l.drop (blankN l) ≠ []) (he : firstF (l.drop (blankN l)) = .ok (kd, t, z)) :
    lexF (k + 1) p l = preT [(kd, t, placeF p (l.take (blankN l)))] (lexF k ((placeF p (l.take (blankN l))).1, (placeF p (l.take (blankN l))).2 + z) ((l.drop (blankN l)).drop z)) := by
  rw [lexF, if_neg h, he]
  simp only
  cases lexF k ((placeF p (l.take (blankN l))).1, (placeF p (l.take (blankN l))).2 + z) ((l.drop (blankN l)).drop z) <;> rfl
theorem lexF_fuel : ∀ (k j : Nat) (p : Int × Int) (l : List UInt8), l.length < k → l.length < j → lexF k p l = lexF j p l
  | 0, _, p, l => fun h => by omega
  | _, 0, p, l => fun _ h => by omega
  | k + 1, j + 1, p, l => fun h h' => by
    by_cases hl : l.drop (blankN l) = []
    · rw [lexF_end hl, lexF_end hl]
    · rcases he : firstF (l.drop (blankN l)) with e | ⟨kd, t, z⟩
      · rw [lexF_bad hl he, lexF_bad hl he]
      · have hb := first_bound he hl
        rw [List.length_drop] at hb
        rw [lexF_ok hl he, lexF_ok hl he, lexF_fuel k j _ _ (by simp only [List.length_drop]; omega) (by simp only [List.length_drop]; omega)]
def allT (l : List UInt8) : Except (Int × Int × Int) (List Tok) := if 65536 < l.length then .error (3, 1, 1) else lexF (l.length + 1) (1, 1) l
def tokA (t : Tok) : List AV := [.int .i64 t.1, .str t.2.1, .int .i64 t.2.2.1, .int .i64 t.2.2.2]
def toksA (l : List Tok) : List (List AV) := l.map tokA
theorem toksA_len (l : List Tok) : (toksA l).length = l.length := List.length_map ..
theorem fgE_toks (l : List Tok) : fgE (toksA l) = toksA l := fgE_map (A := tokA) (fun _ => rfl) l
theorem toksA_app (o : List Tok) (m : Tok) : toksA o ++ [tokA m] = toksA (o ++ [m]) := by simp [toksA]
def allA : Except (Int × Int × Int) (List Tok) → AV
  | .ok m => .tuple [.slice 0 (toksA m), .agg [.int .i64 0, .int .i64 0, .int .i64 0]]
  | .error (e, a, b) => .tuple [.slice 0 [], .agg [.int .i64 e, .int .i64 a, .int .i64 b]]
end Go.Proofs.YtnelknhacamboaaGreatDoor.Lx
/- Chapter 9: all tokens of a text, by both. -/
namespace Go.Proofs.YtnelknhacamboaaGreatDoor.Lx
open Go Go.Ab Go.RowKit Go.Proofs.YtnelknhacamboaaGreatDoor.Sc
variable {Γ : Nat → AV}
attribute [local irreducible] APure Sto.set Sto.grow
set_option maxRecDepth 10000
set_option maxHeartbeats 1000000

/-- What is so between two tokens. -/
structure LexI (s s' : Sto) (S : List UInt8) (T : TypeId) (o : List Tok) (t : Nat) (q : List UInt8) (p : Int × Int) : Prop where
  le : q.length ≤ S.length ∧ o.length + q.length ≤ S.length
  pl : (0 ≤ p.1 ∧ p.1 ≤ 1 + (S.length - q.length : Nat)) ∧ 0 ≤ p.2 ∧ p.2 ≤ 1 + 2 * ((S.length - q.length : Nat) : Int)
  own : Own s s' o.isEmpty t T 4
  is : lexF (S.length + 1) (1, 1) S = preT o (lexF (S.length + 1) p q)
theorem tokC_cells (k : Int) (t : List UInt8) : tokC k t = .agg [.int .i64 k, .str t, .int .i64 0, .int .i64 0] := rfl
theorem progAll_ok (hQ : Qu.Tabs Γ) (hT : Wds Γ) (hE : AsO.ErrT Γ) (S : List UInt8) (hl : S.length ≤ 1048576) : APure Tryz.prog Γ 5 [.str S] fun v => v = allA (allT S) := by
  refine APure.fgt fun s => ?_
  by_cases hbig : 65536 < S.length
  · rw [allT, if_pos hbig]
    refine ACalls.of_awp Tryz.func5 rfl (Nat.le_of_ble_eq_true (by kernel_rfl)) (awp_ok _ (by kernel_rfl) ?_)
    conv => whnf
    intro b3 hb3
    conv => whnf
    repeat' (first
      | (exfalso; first | omega | exact (by assumption : ¬ True) trivial | fail)
      | (refine ⟨Sub.refl _, ?_⟩)
      | (refine brA_split (fun h => ?_) (fun h => ?_) <;> (try rw [h]) <;> (try simp only [Bool.false_eq_true, Bool.true_eq_false, ↓reduceIte, decide_eq_true_eq, decide_eq_false_iff_not, Bool.not_eq_true', Bool.not_eq_false'] at h) <;> (conv => whnf))
      | (refine getB_of (by ((repeat (first | exact set_bx_same | assumption | refine (set_bx_other (by assumption)).trans ?_ | refine grow_bx.trans ?_)); done)) ?_; conv => whnf)
      | (refine getB_same ?_; conv => whnf)
      | (refine AWp.any (by kernel_rfl) (by kernel_rfl) (by kernel_rfl) ?_; conv => whnf)
      | (apply And.intro; (focus (first | omega | rfl | decide | exact Nat.le_of_ble_eq_true rfl | ((repeat' (first | exact all_nil | refine all_cons ?_ ?_ | rfl | fail)); done) | (simp [-List.length_flatMap]; done) | (simp [-List.length_flatMap]; omega) | fail)); conv => whnf)
      | fail)
    exact ⟨_, Sub.refl _, rfl, ((Sub.refl _).set hb3 _ _).set hb3 _ _⟩
  · rw [allT, if_neg hbig]
    refine ACalls.of_awp Tryz.func5 rfl (Nat.le_of_ble_eq_true (by kernel_rfl)) (awp_ok _ (by kernel_rfl) ?_)
    conv => whnf
    intro b3 hb3
    conv => whnf
    repeat' (first
      | (exfalso; first | omega | exact (by assumption : ¬ True) trivial | fail)
      | (refine ⟨Sub.refl _, ?_⟩)
      | (refine brA_split (fun h => ?_) (fun h => ?_) <;> (try rw [h]) <;> (try simp only [Bool.false_eq_true, Bool.true_eq_false, ↓reduceIte, decide_eq_true_eq, decide_eq_false_iff_not, Bool.not_eq_true', Bool.not_eq_false'] at h) <;> (conv => whnf))
      | (refine getB_of (by ((repeat (first | exact set_bx_same | assumption | refine (set_bx_other (by assumption)).trans ?_ | refine grow_bx.trans ?_)); done)) ?_; conv => whnf)
      | (refine getB_same ?_; conv => whnf)
      | (refine AWp.any (by kernel_rfl) (by kernel_rfl) (by kernel_rfl) ?_; conv => whnf)
      | (apply And.intro; (focus (first | omega | rfl | decide | exact Nat.le_of_ble_eq_true rfl | ((repeat' (first | exact all_nil | refine all_cons ?_ ?_ | rfl | fail)); done) | (simp [-List.length_flatMap]; done) | (simp [-List.length_flatMap]; omega) | fail)); conv => whnf)
      | fail)
    refine AWp.loopA [0, 4, 5, 6] [15, 16, 7, 18, 19, 20, 21, 22, 23, 17, 24, 25, 26, 27, 28, 29, 30, 31, 32, 2, 34, 35, 33, 36, 37, 38, 8, 9, 10, 39, 40, 41, 42, 43, 44, 45, 46, 47, 48, 49, 50, 51, 52, 53, 54, 56, 57, 58, 59, 60, 61, 55, 62, 63, 64, 65, 66] (fun x : List Tok × Nat × List UInt8 × (Int × Int) => [.str x.2.2.1, .slice x.2.1 (toksA x.1), .int .i64 x.2.2.2.1, .int .i64 x.2.2.2.2]) (fun x s' => LexI s s' S 32 x.1 x.2.1 x.2.2.1 x.2.2.2 ∧ s'.bx b3 = some (26, [.int .i64 0, .int .i64 0, .int .i64 0])) (fun x => x.2.2.1.length) (([], 1, S, (1, 1))) (by kernel_rfl) (by (repeat' (first | refine cons_eq ?_ ?_ | refine int64_of ?_ ?_ ?_ | rfl | omega))) ?_ ?_
    · exact ⟨⟨⟨Nat.le_refl _, by simp⟩, ⟨by simp, by simp⟩, Own.start ((Sub.refl _).set hb3 _ _) _ _, (preT_nil _).symm⟩, set_bx_same⟩
    · rintro x ⟨o, t, q, p⟩ s1 ⟨⟨i1, i2, i3, i4⟩, i5⟩
      simp only at i1 i2 i3 i4 i5
      show awp _ _ _ _ _ (updL _ _ [.str q, .slice t (toksA o), .int .i64 p.1, .int .i64 p.2]) _
      conv => whnf
      have hbl := progBlank_ok (Γ := Γ) q (by omega)
      have hbn := blankN_le q
      have hA : List.drop 0 (List.take ((blankN q : Int)).toNat q) = q.take (blankN q) := by rw [Int.toNat_natCast, List.drop_zero]
      have hB : List.drop ((blankN q : Int)).toNat (List.take q.length q) = q.drop (blankN q) := by rw [Int.toNat_natCast, drop_take_all]
      have hmv := move_ok (Γ := Γ) p.1 p.2 (q.take (blankN q)) (by rw [List.length_take]; omega) (by omega) (by omega)
      have hpb := placeF_bound (q.take (blankN q)) p.1 p.2 (by omega) (by omega)
      have hdl : (q.drop (blankN q)).length = q.length - blankN q := List.length_drop
      rw [List.length_take, Nat.min_eq_left hbn] at hpb
      repeat' (first
        | (exfalso; first | omega | exact (by assumption : ¬ True) trivial | fail)
        | (refine ⟨Sub.refl _, ?_⟩)
        | (refine brA_split (fun h => ?_) (fun h => ?_) <;> (try rw [h]) <;> (try simp only [Bool.false_eq_true, Bool.true_eq_false, ↓reduceIte, decide_eq_true_eq, decide_eq_false_iff_not, Bool.not_eq_true', Bool.not_eq_false'] at h) <;> (conv => whnf))
        | (refine ACalls.pure' ?_ (hbl); rintro _ rfl; conv => whnf)
        | (refine DCall.pure ?_ (hbl); conv => whnf)
        | (rw [hA]; conv => whnf)
        | (rw [hB]; conv => whnf)
        | (refine ACalls.pure' ?_ (hmv); rintro _ rfl; conv => whnf)
        | (refine DCall.pure ?_ (hmv); conv => whnf)
        | (refine getB_same ?_; conv => whnf)
        | (refine AWp.any (by kernel_rfl) (by kernel_rfl) (by kernel_rfl) ?_; conv => whnf)
        | (apply And.intro; (focus (first | omega | rfl | decide | exact Nat.le_of_ble_eq_true rfl | ((repeat' (first | exact all_nil | refine all_cons ?_ ?_ | rfl | fail)); done) | (simp [-List.length_flatMap]; done) | (simp [-List.length_flatMap]; omega) | fail)); conv => whnf)
        | fail)
      · repeat' (first
          | (exfalso; first | omega | exact (by assumption : ¬ True) trivial | fail)
          | (refine ⟨Sub.refl _, ?_⟩)
          | (refine brA_split (fun h => ?_) (fun h => ?_) <;> (try rw [h]) <;> (try simp only [Bool.false_eq_true, Bool.true_eq_false, ↓reduceIte, decide_eq_true_eq, decide_eq_false_iff_not, Bool.not_eq_true', Bool.not_eq_false'] at h) <;> (conv => whnf))
          | (refine getB_of (by ((repeat (first | exact set_bx_same | assumption | refine (set_bx_other (by assumption)).trans ?_ | refine grow_bx.trans ?_)); done)) ?_; conv => whnf)
          | (refine getB_same ?_; conv => whnf)
          | (refine AWp.any (by kernel_rfl) (by kernel_rfl) (by kernel_rfl) ?_; conv => whnf)
          | (apply And.intro; (focus (first | omega | rfl | decide | exact Nat.le_of_ble_eq_true rfl | ((repeat' (first | exact all_nil | refine all_cons ?_ ?_ | rfl | fail)); done) | (simp [-List.length_flatMap]; done) | (simp [-List.length_flatMap]; omega) | fail)); conv => whnf)
          | fail)
        refine ⟨_, Sub.refl _, ?_, i3.sub.set hb3 _ _⟩
        rw [i4, lexF_end h]
        simp only [tupA, fg, fgL, fgE_toks, allA, preT, List.append_nil]
      · have hpos : 0 < (q.drop (blankN q)).length := List.length_pos_iff.2 h
        have hfi := first_ok hQ hT (q.drop (blankN q)) hpos (by omega)
        rcases hf : firstF (q.drop (blankN q)) with e | ⟨kd, t', z⟩
        · simp only [firstA, hf, tokC, oddA] at hfi
          repeat' (first
            | (exfalso; first | omega | exact (by assumption : ¬ True) trivial | fail)
            | (refine ⟨Sub.refl _, ?_⟩)
            | (refine brA_split (fun h => ?_) (fun h => ?_) <;> (try rw [h]) <;> (try simp only [Bool.false_eq_true, Bool.true_eq_false, ↓reduceIte, decide_eq_true_eq, decide_eq_false_iff_not, Bool.not_eq_true', Bool.not_eq_false'] at h) <;> (conv => whnf))
            | (refine ACalls.pure' ?_ (hfi); rintro _ rfl; conv => whnf)
            | (refine DCall.pure ?_ (hfi); conv => whnf)
            | (refine getB_same ?_; conv => whnf)
            | (refine AWp.any (by kernel_rfl) (by kernel_rfl) (by kernel_rfl) ?_; conv => whnf)
            | (apply And.intro; (focus (first | omega | rfl | decide | exact Nat.le_of_ble_eq_true rfl | ((repeat' (first | exact all_nil | refine all_cons ?_ ?_ | rfl | fail)); done) | (simp [-List.length_flatMap]; done) | (simp [-List.length_flatMap]; omega) | fail)); conv => whnf)
            | fail)
          intro b8 hb8
          have n_b3_b8 : b3 ≠ b8 := ne_of_none (by ((repeat (first | exact set_bx_same | assumption | refine (set_bx_other (by assumption)).trans ?_ | refine grow_bx.trans ?_)); done)) hb8
          have n_b8_b3 : b8 ≠ b3 := fun h => n_b3_b8 h.symm
          conv => whnf
          repeat' (first
            | (exfalso; first | omega | exact (by assumption : ¬ True) trivial | fail)
            | (refine ⟨Sub.refl _, ?_⟩)
            | (refine brA_split (fun h => ?_) (fun h => ?_) <;> (try rw [h]) <;> (try simp only [Bool.false_eq_true, Bool.true_eq_false, ↓reduceIte, decide_eq_true_eq, decide_eq_false_iff_not, Bool.not_eq_true', Bool.not_eq_false'] at h) <;> (conv => whnf))
            | (refine getB_of (by ((repeat (first | exact set_bx_same | assumption | refine (set_bx_other (by assumption)).trans ?_ | refine grow_bx.trans ?_)); done)) ?_; conv => whnf)
            | (refine getB_same ?_; conv => whnf)
            | (refine AWp.any (by kernel_rfl) (by kernel_rfl) (by kernel_rfl) ?_; conv => whnf)
            | (apply And.intro; (focus (first | omega | rfl | decide | exact Nat.le_of_ble_eq_true rfl | ((repeat' (first | exact all_nil | refine all_cons ?_ ?_ | rfl | fail)); done) | (simp [-List.length_flatMap]; done) | (simp [-List.length_flatMap]; omega) | fail)); conv => whnf)
            | fail)
          intro b10 hb10
          have n_b8_b10 : b8 ≠ b10 := ne_of_none (by ((repeat (first | exact set_bx_same | assumption | refine (set_bx_other (by assumption)).trans ?_ | refine grow_bx.trans ?_)); done)) hb10
          have n_b10_b8 : b10 ≠ b8 := fun h => n_b8_b10 h.symm
          have n_b3_b10 : b3 ≠ b10 := ne_of_none (by ((repeat (first | exact set_bx_same | assumption | refine (set_bx_other (by assumption)).trans ?_ | refine grow_bx.trans ?_)); done)) hb10
          have n_b10_b3 : b10 ≠ b3 := fun h => n_b3_b10 h.symm
          conv => whnf
          repeat' (first
            | (exfalso; first | omega | exact (by assumption : ¬ True) trivial | fail)
            | (refine ⟨Sub.refl _, ?_⟩)
            | (refine brA_split (fun h => ?_) (fun h => ?_) <;> (try rw [h]) <;> (try simp only [Bool.false_eq_true, Bool.true_eq_false, ↓reduceIte, decide_eq_true_eq, decide_eq_false_iff_not, Bool.not_eq_true', Bool.not_eq_false'] at h) <;> (conv => whnf))
            | (refine getB_of (by ((repeat (first | exact set_bx_same | assumption | refine (set_bx_other (by assumption)).trans ?_ | refine grow_bx.trans ?_)); done)) ?_; conv => whnf)
            | (refine ACalls.by (AsO.asHit_ok hE e set_bx_same) ?_; rintro _ _ ⟨rfl, rfl⟩; conv => whnf)
            | (refine getB_same ?_; conv => whnf)
            | (refine AWp.any (by kernel_rfl) (by kernel_rfl) (by kernel_rfl) ?_; conv => whnf)
            | (apply And.intro; (focus (first | omega | rfl | decide | exact Nat.le_of_ble_eq_true rfl | ((repeat' (first | exact all_nil | refine all_cons ?_ ?_ | rfl | fail)); done) | (simp [-List.length_flatMap]; done) | (simp [-List.length_flatMap]; omega) | fail)); conv => whnf)
            | fail)
          have k8 := fun T1 c1 T2 c2 => (i3.sub.set (i3.sub.none hb8) T1 c1).set (i3.sub.none hb8) T2 c2
          have g10 := (k8 _ _ _ _).none hb10
          refine ⟨_, Sub.refl _, ?_, ((((k8 _ _ _ _).set g10 _ _).set g10 _ _).set hb3 _ _)⟩
          rw [i4, lexF_bad h hf]
          simp only [tupA, fg, fgL, fgE, allA, preT]
        · simp only [firstA, hf, tokC] at hfi
          have hfb := first_bound hf h
          repeat' (first
            | (exfalso; first | omega | exact (by assumption : ¬ True) trivial | fail)
            | (refine ⟨Sub.refl _, ?_⟩)
            | (refine brA_split (fun h => ?_) (fun h => ?_) <;> (try rw [h]) <;> (try simp only [Bool.false_eq_true, Bool.true_eq_false, ↓reduceIte, decide_eq_true_eq, decide_eq_false_iff_not, Bool.not_eq_true', Bool.not_eq_false'] at h) <;> (conv => whnf))
            | (refine ACalls.pure' ?_ (hfi); rintro _ rfl; conv => whnf)
            | (refine DCall.pure ?_ (hfi); conv => whnf)
            | (refine getB_same ?_; conv => whnf)
            | (refine AWp.any (by kernel_rfl) (by kernel_rfl) (by kernel_rfl) ?_; conv => whnf)
            | (apply And.intro; (focus (first | omega | rfl | decide | exact Nat.le_of_ble_eq_true rfl | ((repeat' (first | exact all_nil | refine all_cons ?_ ?_ | rfl | fail)); done) | (simp [-List.length_flatMap]; done) | (simp [-List.length_flatMap]; omega) | fail)); conv => whnf)
            | fail)
          intro b8 hb8
          have n_b3_b8 : b3 ≠ b8 := ne_of_none (by ((repeat (first | exact set_bx_same | assumption | refine (set_bx_other (by assumption)).trans ?_ | refine grow_bx.trans ?_)); done)) hb8
          have n_b8_b3 : b8 ≠ b3 := fun h => n_b3_b8 h.symm
          conv => whnf
          repeat' (first
            | (exfalso; first | omega | exact (by assumption : ¬ True) trivial | fail)
            | (refine ⟨Sub.refl _, ?_⟩)
            | (refine brA_split (fun h => ?_) (fun h => ?_) <;> (try rw [h]) <;> (try simp only [Bool.false_eq_true, Bool.true_eq_false, ↓reduceIte, decide_eq_true_eq, decide_eq_false_iff_not, Bool.not_eq_true', Bool.not_eq_false'] at h) <;> (conv => whnf))
            | (refine getB_of (by ((repeat (first | exact set_bx_same | assumption | refine (set_bx_other (by assumption)).trans ?_ | refine grow_bx.trans ?_)); done)) ?_; conv => whnf)
            | (refine getB_same ?_; conv => whnf)
            | (refine AWp.any (by kernel_rfl) (by kernel_rfl) (by kernel_rfl) ?_; conv => whnf)
            | (apply And.intro; (focus (first | omega | rfl | decide | exact Nat.le_of_ble_eq_true rfl | ((repeat' (first | exact all_nil | refine all_cons ?_ ?_ | rfl | fail)); done) | (simp [-List.length_flatMap]; done) | (simp [-List.length_flatMap]; omega) | fail)); conv => whnf)
            | fail)
          intro b10 hb10
          have n_b8_b10 : b8 ≠ b10 := ne_of_none (by ((repeat (first | exact set_bx_same | assumption | refine (set_bx_other (by assumption)).trans ?_ | refine grow_bx.trans ?_)); done)) hb10
          have n_b10_b8 : b10 ≠ b8 := fun h => n_b8_b10 h.symm
          have n_b3_b10 : b3 ≠ b10 := ne_of_none (by ((repeat (first | exact set_bx_same | assumption | refine (set_bx_other (by assumption)).trans ?_ | refine grow_bx.trans ?_)); done)) hb10
          have n_b10_b3 : b10 ≠ b3 := fun h => n_b3_b10 h.symm
          conv => whnf
          repeat' (first
            | (exfalso; first | omega | exact (by assumption : ¬ True) trivial | fail)
            | (refine ⟨Sub.refl _, ?_⟩)
            | (refine brA_split (fun h => ?_) (fun h => ?_) <;> (try rw [h]) <;> (try simp only [Bool.false_eq_true, Bool.true_eq_false, ↓reduceIte, decide_eq_true_eq, decide_eq_false_iff_not, Bool.not_eq_true', Bool.not_eq_false'] at h) <;> (conv => whnf))
            | (refine getB_of (by ((repeat (first | exact set_bx_same | assumption | refine (set_bx_other (by assumption)).trans ?_ | refine grow_bx.trans ?_)); done)) ?_; conv => whnf)
            | (refine ACalls.pure' ?_ (AsO.asNil_ok _); rintro _ rfl; conv => whnf)
            | (refine DCall.pure ?_ (AsO.asNil_ok _); conv => whnf)
            | (refine getB_same ?_; conv => whnf)
            | (refine AWp.any (by kernel_rfl) (by kernel_rfl) (by kernel_rfl) ?_; conv => whnf)
            | (apply And.intro; (focus (first | omega | rfl | decide | exact Nat.le_of_ble_eq_true rfl | ((repeat' (first | exact all_nil | refine all_cons ?_ ?_ | rfl | fail)); done) | (simp [-List.length_flatMap]; done) | (simp [-List.length_flatMap]; omega) | fail)); conv => whnf)
            | fail)
          have g8 := i3.sub.none hb8
          have k8 := fun T1 c1 T2 c2 => (i3.sub.set g8 T1 c1).set g8 T2 c2
          have g10 := (k8 _ _ _ _).none hb10
          have kk := fun T1 c1 T2 c2 T3 c3 T4 c4 T5 c5 => ((((i3.set (T := T1) (cs := c1) g8).set (T := T2) (cs := c2) g8).set (T := T3) (cs := c3) g10).set (T := T4) (cs := c4) g8).set (T := T5) (cs := c5) g8
          have hol := toksA_len o
          refine ⟨(kk _ _ _ _ _ _ _ _ _ _).may, fun c hc => ?_, all_cons ⟨rfl, rfl⟩ all_nil, ?_, ?_⟩
          · obtain ⟨w, _, rfl⟩ := List.mem_map.1 hc; rfl
          · show ((toksA o).length + 1) * (40 + 1) ≤ _
            rw [hol]; omega
          intro t2 k1 k2
          have k3 := (kk _ _ _ _ _ _ _ _ _ _).grow k1 k2
          have hq2 := place_plain hfb.2.2 (placeF (p.1, p.2) (q.take (blankN q)))
          have htl : ((q.drop (blankN q)).take z).length = z := by rw [List.length_take]; omega
          rw [htl] at hq2
          have hmv2 := move_ok (Γ := Γ) (placeF (p.1, p.2) (q.take (blankN q))).1 (placeF (p.1, p.2) (q.take (blankN q))).2 ((q.drop (blankN q)).take z) (by omega) (by omega) (by omega)
          rw [hq2] at hmv2
          have hC : List.drop 0 (List.take ((z : Int)).toNat (q.drop (blankN q))) = (q.drop (blankN q)).take z := by rw [Int.toNat_natCast, List.drop_zero]
          have hD : List.drop ((z : Int)).toNat (List.take (q.drop (blankN q)).length (q.drop (blankN q))) = (q.drop (blankN q)).drop z := by rw [Int.toNat_natCast, drop_take_all]
          conv => whnf
          repeat' (first
            | (exfalso; first | omega | exact (by assumption : ¬ True) trivial | fail)
            | (refine ⟨Sub.refl _, ?_⟩)
            | (refine brA_split (fun h => ?_) (fun h => ?_) <;> (try rw [h]) <;> (try simp only [Bool.false_eq_true, Bool.true_eq_false, ↓reduceIte, decide_eq_true_eq, decide_eq_false_iff_not, Bool.not_eq_true', Bool.not_eq_false'] at h) <;> (conv => whnf))
            | (refine getB_of (by ((repeat (first | exact set_bx_same | assumption | refine (set_bx_other (by assumption)).trans ?_ | refine grow_bx.trans ?_)); done)) ?_; conv => whnf)
            | (rw [hC]; conv => whnf)
            | (rw [hD]; conv => whnf)
            | (refine ACalls.pure' ?_ (hmv2); rintro _ rfl; conv => whnf)
            | (refine DCall.pure ?_ (hmv2); conv => whnf)
            | (refine getB_same ?_; conv => whnf)
            | (refine AWp.any (by kernel_rfl) (by kernel_rfl) (by kernel_rfl) ?_; conv => whnf)
            | (apply And.intro; (focus (first | omega | rfl | decide | exact Nat.le_of_ble_eq_true rfl | ((repeat' (first | exact all_nil | refine all_cons ?_ ?_ | rfl | fail)); done) | (simp [-List.length_flatMap]; done) | (simp [-List.length_flatMap]; omega) | fail)); conv => whnf)
            | fail)
          have hrl : ((q.drop (blankN q)).drop z).length = q.length - blankN q - z := by rw [List.length_drop, List.length_drop]
          rw [List.length_drop] at hfb
          refine ⟨(o ++ [(kd, t', placeF (p.1, p.2) (q.take (blankN q)))], t2, (q.drop (blankN q)).drop z, ((placeF (p.1, p.2) (q.take (blankN q))).1, (placeF (p.1, p.2) (q.take (blankN q))).2 + z)), ?_, by (repeat (first | exact Same.refl _ _ | refine Same.upd rfl ?_ | refine Same.updL rfl ?_ | refine Same.havoc rfl ?_)), ⟨⟨⟨by simp only; omega, by simp only [List.length_append, List.length_cons, List.length_nil]; omega⟩, ⟨by simp only; omega, by simp only; omega⟩, ?_, ?_⟩, (by ((repeat (first | exact set_bx_same | assumption | refine (set_bx_other (by assumption)).trans ?_ | refine grow_bx.trans ?_)); done))⟩, by simp only; omega⟩
          · exact cons_eq rfl (cons_eq (congrArg (AV.slice t2) (toksA_app o (kd, t', placeF (p.1, p.2) (q.take (blankN q))))) (cons_eq rfl (cons_eq rfl rfl)))
          · rw [show (o ++ [(kd, t', placeF (p.1, p.2) (q.take (blankN q)))]).isEmpty = (o.isEmpty && [tokA (kd, t', placeF (p.1, p.2) (q.take (blankN q)))].isEmpty) by cases o <;> rfl]
            exact k3
          · rw [i4, lexF_ok h hf, preT_pre, lexF_fuel S.length (S.length + 1) _ _ (by omega) (by omega)]
theorem first_err {l : List UInt8} {e : Int} (h : firstF l = .error e) : e ≠ 0 := by
  unfold firstF at h
  split at h
  · split at h
    · cases h; decide
    · split at h
      · cases h; decide
      · cases h
  · split at h
    · split at h
      · cases h; decide
      · cases h
    · split at h
      · rename_i e' he
        cases h
        unfold lettersF at he
        split at he
        · split at he
          · cases he
          · rename_i hn
            cases he
            exact hn
        · split at he
          · cases he; decide
          · split at he <;> cases he
      · cases h
def refAllA : Except (Int × Int × Int) (List Tok) → AV
  | .ok m => .tuple [.slice 0 (toksA m), .int .i64 0, .int .i64 0, .int .i64 0]
  | .error (e, a, b) => .tuple [.slice 0 [], .int .i64 e, .int .i64 a, .int .i64 b]
theorem all_ex : allT [120, 60, 61, 45, 53] = .ok [(1, [120], 1, 1), (5, [60, 61], 1, 2), (5, [45], 1, 4), (3, [53], 1, 5)] := by kernel_rfl
theorem grdFail : (!Tryz.prog.eqGuardType Tryz.prog.depth 26) = true := by kernel_rfl
theorem planFail : planT Tryz.prog 9999 26 = some [(0, 0), (1, 0), (2, 0)] := by kernel_rfl
theorem awake_ok (hQ : Qu.Tabs Γ) (hT : Wds Γ) (hE : AsO.ErrT Γ) : APure Tryz.prog Γ 4 [] fun v => v = .bool true := by
  have h1 := progAll_ok hQ hT hE [120, 60, 61, 45, 53] (by simp)
  rw [all_ex] at h1
  refine APure.of_awp Tryz.func4 rfl (Nat.le_of_ble_eq_true (by kernel_rfl)) (by kernel_rfl) ?_
  intro s
  conv => whnf
  repeat' (first
    | (refine ⟨Sub.refl _, ?_⟩)
    | (refine brA_split (fun h => ?_) (fun h => ?_) <;> (try rw [h]) <;> (try simp only [Bool.false_eq_true, Bool.true_eq_false, ↓reduceIte, decide_eq_true_eq, decide_eq_false_iff_not, Bool.not_eq_true', Bool.not_eq_false'] at h) <;> (conv => whnf))
    | (refine ACalls.pure' ?_ (h1); rintro _ rfl; conv => whnf)
    | (refine DCall.pure ?_ (h1); conv => whnf)
    | (refine getB_same ?_; conv => whnf)
    | (refine AWp.any (by kernel_rfl) (by kernel_rfl) (by kernel_rfl) ?_; conv => whnf)
    | (apply And.intro; (focus (first | omega | rfl | decide | exact Nat.le_of_ble_eq_true rfl | ((repeat' (first | exact all_nil | refine all_cons ?_ ?_ | rfl | fail)); done) | (simp [-List.length_flatMap]; done) | (simp [-List.length_flatMap]; omega) | fail)); conv => whnf)
    | fail)
  intro b hb
  conv => whnf
  repeat' (first
    | (refine ⟨Sub.refl _, ?_⟩)
    | (refine brA_split (fun h => ?_) (fun h => ?_) <;> (try rw [h]) <;> (try simp only [Bool.false_eq_true, Bool.true_eq_false, ↓reduceIte, decide_eq_true_eq, decide_eq_false_iff_not, Bool.not_eq_true', Bool.not_eq_false'] at h) <;> (conv => whnf))
    | (refine getB_of (by ((repeat (first | exact set_bx_same | assumption | refine (set_bx_other (by assumption)).trans ?_ | refine grow_bx.trans ?_)); done)) ?_; conv => whnf)
    | (refine EqAgg.of grdFail planFail ?_; conv => whnf)
    | (refine getB_same ?_; conv => whnf)
    | (refine AWp.any (by kernel_rfl) (by kernel_rfl) (by kernel_rfl) ?_; conv => whnf)
    | (apply And.intro; (focus (first | omega | rfl | decide | exact Nat.le_of_ble_eq_true rfl | ((repeat' (first | exact all_nil | refine all_cons ?_ ?_ | rfl | fail)); done) | (simp [-List.length_flatMap]; done) | (simp [-List.length_flatMap]; omega) | fail)); conv => whnf)
    | fail)
  exact ⟨((Sub.refl _).set hb _ _).set hb _ _, rfl⟩
end Go.Proofs.YtnelknhacamboaaGreatDoor.Lx
/- Chapter 9: the law of all tokens. -/
namespace Go.Proofs.YtnelknhacamboaaGreatDoor.Lx
open Go Go.Ab Go.RowKit Go.Proofs.YtnelknhacamboaaGreatDoor.Sc
variable {Γ : Nat → AV}
attribute [local irreducible] APure Sto.set Sto.grow
set_option maxRecDepth 10000
set_option maxHeartbeats 1000000

theorem lexF_err : ∀ (k : Nat) (p : Int × Int) (l : List UInt8) (e a b : Int), lexF k p l = .error (e, a, b) → e ≠ 0
  | 0, p, l, e, a, b => fun h => by cases h
  | k + 1, p, l, e, a, b => fun h => by
    by_cases hl : l.drop (blankN l) = []
    · rw [lexF_end hl] at h; cases h
    · rcases he : firstF (l.drop (blankN l)) with e' | ⟨kd, t, z⟩
      · rw [lexF_bad hl he] at h
        simp only [Except.error.injEq, Prod.mk.injEq] at h
        rw [← h.1]
        exact first_err he
      · rw [lexF_ok hl he] at h
        rcases hr : lexF k ((placeF p (l.take (blankN l))).1, (placeF p (l.take (blankN l))).2 + z) ((l.drop (blankN l)).drop z) with ⟨e', a', b'⟩ | m
        · rw [hr] at h
          simp only [preT, Except.error.injEq, Prod.mk.injEq] at h
          rw [← h.1]
          exact lexF_err k _ _ _ _ _ hr
        · rw [hr] at h; cases h
theorem lexF_len : ∀ (k : Nat) (p : Int × Int) (l : List UInt8) (m : List Tok), lexF k p l = .ok m → m.length ≤ l.length
  | 0, p, l, m => fun h => by cases h; exact Nat.zero_le _
  | k + 1, p, l, m => fun h => by
    by_cases hl : l.drop (blankN l) = []
    · rw [lexF_end hl] at h; cases h; exact Nat.zero_le _
    · rcases he : firstF (l.drop (blankN l)) with e' | ⟨kd, t, z⟩
      · rw [lexF_bad hl he] at h; cases h
      · rw [lexF_ok hl he] at h
        have hb := first_bound he hl
        rw [List.length_drop] at hb
        rcases hr : lexF k ((placeF p (l.take (blankN l))).1, (placeF p (l.take (blankN l))).2 + z) ((l.drop (blankN l)).drop z) with ⟨e', a', b'⟩ | m'
        · rw [hr] at h; cases h
        · rw [hr] at h
          have := lexF_len k _ _ _ hr
          rw [List.length_drop, List.length_drop] at this
          cases h
          simp only [List.length_append, List.length_cons, List.length_nil]
          omega
theorem toksA_get {l : List Tok} {i : Nat} (h : i < l.length) : (toksA l).getD i [] = tokA (l.getD i (0, [], 0, 0)) := by simp [toksA, List.getD, h]
end Go.Proofs.YtnelknhacamboaaGreatDoor.Lx
