
/- Chapter 9: all tokens of a text. -/
import Derived.Test.YtnelknhacamboaaDoorLxE
import Derived.Test.YtnelknhacamboaaDoorAsO
set_option linter.all false
namespace Go.Proofs.YtnelknhacamboaaDoor.Lx
open Go Go.Ab Go.RowKit Go.Proofs.YtnelknhacamboaaDoor.Sc
variable {Γ : Nat → AV}
attribute [local irreducible] APure Sto.set Sto.grow
set_option maxRecDepth 10000
set_option maxHeartbeats 1000000

theorem one_no10 : ∀ m : Nat, m < 256 → (Qu.one (m : Int)).count 10 = 0 := by decide +kernel
theorem quote_no10 (t : List UInt8) : (Qu.quote t).count 10 = 0 := by
  unfold Qu.quote
  have h : (t.flatMap fun c => Qu.one c.toNat).count 10 = 0 := by
    induction t with
    | nil => rfl
    | cons c t ih => rw [List.flatMap_cons, List.count_append, ih, one_no10 c.toNat c.toNat_lt]
  simp [h]
theorem signs_no10 : ∀ x ∈ signsL, x.count 10 = 0 := by decide
theorem signF_spec : ∀ (L : List (List UInt8)) (l : List UInt8), signF L l = [] ∨ (signF L l ∈ L ∧ pfx (signF L l) l = true)
  | [], l => .inl rfl
  | x :: L, l => by
    unfold signF
    split
    · rename_i h; exact .inr ⟨by simp, h⟩
    · rcases signF_spec L l with h | h
      · exact .inl h
      · exact .inr ⟨by simp [h.1], h.2⟩
theorem pfx_take {x l : List UInt8} (h : pfx x l = true) : x.length ≤ l.length ∧ l.take x.length = x := by
  unfold pfx at h
  simpa using h
theorem word_no10 (l : List UInt8) (h : l.all (fun c => wordc c.toNat) = true) : l.count 10 = 0 := by
  rw [List.count_eq_zero]
  intro hm
  have := List.all_eq_true.1 h 10 hm
  revert this
  decide
theorem first_bound {l t : List UInt8} {k : Int} {n : Nat} (h : firstF l = .ok (k, t, n)) (h0 : l ≠ []) : 1 ≤ n ∧ n ≤ l.length ∧ (l.take n).count 10 = 0 := by
  unfold firstF at h
  split at h
  · split at h
    · cases h
    · rename_i t' k' hc
      have hb := Qu.cut_back hc
      split at h
      · cases h
      · cases h
        exact ⟨hb.1, hb.2.1, by rw [← hb.2.2]; exact quote_no10 _⟩
  · split at h
    · split at h
      · cases h
      · rename_i hg
        cases h
        rcases signF_spec signsL l with hs | hs
        · exact absurd hs hg
        · have hp := pfx_take hs.2
          refine ⟨List.length_pos_iff.2 hg, hp.1, ?_⟩
          rw [show signOf l = signF signsL l from rfl, hp.2]
          exact signs_no10 _ hs.1
    · rename_i h1
      split at h
      · cases h
      · cases h
        exact ⟨Nat.pos_of_ne_zero h1, letN_le l, word_no10 _ (letN_all l)⟩
theorem place_plain {l : List UInt8} (h : l.count 10 = 0) (p : Int × Int) : placeF p l = (p.1, p.2 + l.length) := by
  obtain ⟨a, b⟩ := p
  rw [placeF_eq, if_pos h]
abbrev Tok := Int × List UInt8 × Int × Int
/-- All tokens of a text from a place on; or what is wrong, and where. -/
def lexF : Nat → Int × Int → List UInt8 → Except (Int × Int × Int) (List Tok)
  | 0, _, _ => .ok []
  | k + 1, p, l => if l.drop (blankN l) = [] then .ok [] else match firstF (l.drop (blankN l)) with
    | .error e => .error (e, placeF p (l.take (blankN l)))
    | .ok (kd, t, z) => match lexF k ((placeF p (l.take (blankN l))).1, (placeF p (l.take (blankN l))).2 + z) ((l.drop (blankN l)).drop z) with
      | .error e => .error e
      | .ok m => .ok ((kd, t, placeF p (l.take (blankN l))) :: m)
def preT (o : List Tok) : Except (Int × Int × Int) (List Tok) → Except (Int × Int × Int) (List Tok)
  | .error e => .error e
  | .ok m => .ok (o ++ m)
theorem preT_pre (o p : List Tok) (x : Except (Int × Int × Int) (List Tok)) : preT o (preT p x) = preT (o ++ p) x := by cases x <;> simp [preT]
theorem preT_nil (x : Except (Int × Int × Int) (List Tok)) : preT [] x = x := by cases x <;> simp [preT]
theorem lexF_end {k : Nat} {p : Int × Int} {l : List UInt8} (h : l.drop (blankN l) = []) : lexF (k + 1) p l = .ok [] := by rw [lexF, if_pos h]
theorem lexF_bad {k : Nat} {p : Int × Int} {l : List UInt8} {e : Int} (h : l.drop (blankN l) ≠ []) (he : firstF (l.drop (blankN l)) = .error e) : lexF (k + 1) p l = .error (e, placeF p (l.take (blankN l))) := by rw [lexF, if_neg h, he]
theorem lexF_ok {k : Nat} {p : Int × Int} {l t : List UInt8} {kd : Int} {z : Nat} (h : l.drop (blankN l) ≠ []) (he : firstF (l.drop (blankN l)) = .ok (kd, t, z)) :
    lexF (k + 1) p l = preT [(kd, t, placeF p (l.take (blankN l)))] (lexF k ((placeF p (l.take (blankN l))).1, (placeF p (l.take (blankN l))).2 + z) ((l.drop (blankN l)).drop z)) := by
  rw [lexF, if_neg h, he]
  simp only
  cases lexF k ((placeF p (l.take (blankN l))).1, (placeF p (l.take (blankN l))).2 + z) ((l.drop (blankN l)).drop z) <;> rfl
theorem lexF_fuel : ∀ (k j : Nat) (p : Int × Int) (l : List UInt8), l.length < k → l.length < j → lexF k p l = lexF j p l
  | 0, _, p, l => fun h => by omega
  | _, 0, p, l => fun _ h => by omega
  | k + 1, j + 1, p, l => fun h h' => by
    by_cases hl : l.drop (blankN l) = []
    · rw [lexF_end hl, lexF_end hl]
    · rcases he : firstF (l.drop (blankN l)) with e | ⟨kd, t, z⟩
      · rw [lexF_bad hl he, lexF_bad hl he]
      · have hb := first_bound he hl
        rw [List.length_drop] at hb
        rw [lexF_ok hl he, lexF_ok hl he, lexF_fuel k j _ _ (by simp only [List.length_drop]; omega) (by simp only [List.length_drop]; omega)]
def allT (l : List UInt8) : Except (Int × Int × Int) (List Tok) := if 65536 < l.length then .error (3, 1, 1) else lexF (l.length + 1) (1, 1) l
def tokA (t : Tok) : List AV := [.int .i64 t.1, .str t.2.1, .int .i64 t.2.2.1, .int .i64 t.2.2.2]
def toksA (l : List Tok) : List (List AV) := l.map tokA
theorem toksA_len (l : List Tok) : (toksA l).length = l.length := List.length_map ..
theorem fgE_toks (l : List Tok) : fgE (toksA l) = toksA l := fgE_map (A := tokA) (fun _ => rfl) l
theorem toksA_app (o : List Tok) (m : Tok) : toksA o ++ [tokA m] = toksA (o ++ [m]) := by simp [toksA]
def allA : Except (Int × Int × Int) (List Tok) → AV
  | .ok m => .tuple [.slice 0 (toksA m), .agg [.int .i64 0, .int .i64 0, .int .i64 0]]
  | .error (e, a, b) => .tuple [.slice 0 [], .agg [.int .i64 e, .int .i64 a, .int .i64 b]]
end Go.Proofs.YtnelknhacamboaaDoor.Lx
