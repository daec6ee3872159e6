/- Chapter 1: sums. -/
import Derived.Test.YtcngoammgmcbfaaDoorNuC
import Derived.Test.YtcngoammgmcbfaaDoorAb23
namespace Go.Proofs.YtcngoammgmcbfaaDoor.Nu
open Go Go.Ab Go.RowKit
variable {Γ : Nat → AV}
attribute [local irreducible] APure Sto.set Sto.grow
set_option maxRecDepth 10000

def sumF : List Int → Int → Option Int
  | [], n => some n
  | x :: l, n => if fine (n + x) = true then sumF l (n + x) else none
theorem fine_val {x : Int} (h : fine x = true) : val x = x ∧ err x = 0 ∧ Fits x := by
  simp only [fine, decide_eq_true_eq] at h
  exact ⟨if_pos h, if_pos h, h⟩
theorem not_fine {x : Int} (h : ¬ fine x = true) : val x = 0 ∧ err x = 6 := by
  simp only [fine, decide_eq_true_eq] at h
  exact ⟨if_neg h, if_neg h⟩
theorem sumF_fine : ∀ (l : List Int) (n m : Int), fine n = true → sumF l n = some m → fine m = true
  | [], n, m, hn, h => by simp only [sumF, Option.some.injEq] at h; subst h; exact hn
  | x :: l, n, m, hn, h => by
    simp only [sumF] at h
    split at h
    · rename_i hf; exact sumF_fine l _ _ hf h
    · cases h
def sumA (l : List Int) : List AV :=
  match sumF l 0 with
  | some m => [.int .i64 m, .int .i64 0]
  | none => [.int .i64 0, .int .i64 6]

theorem sum_ok (t : Nat) (l : List Int) (hl : l.length ≤ 1048576) (hf : ∀ x ∈ l, Fits x) : APure Tryd.prog Γ 37 [.slice t (intsA .i64 l)] fun v => v = .tuple (sumA l) := by
  have hlen := intsA_len .i64 l
  refine APure.of_awp Tryd.func37 rfl (Nat.le_of_ble_eq_true (by kernel_rfl)) (by kernel_rfl) ?_
  intro s
  conv => whnf
  refine AWp.loopA [4, 10] [11, 12, 13, 7, 15, 16, 17, 14, 18, 19, 5, 20, 21, 22, 2, 3, 23] (fun x : Int × Nat => [.int .i64 x.1, .int .i64 x.2]) (fun x s' => x.2 ≤ l.length ∧ s' = s ∧ Fits x.1 ∧ sumF l 0 = sumF (l.drop x.2) x.1) (fun x => l.length - x.2) ((0, 0)) (by kernel_rfl) (by (repeat' (first | refine cons_eq ?_ ?_ | refine int64_of ?_ ?_ ?_ | rfl | omega))) ?_ ?_
  · exact ⟨by simp, rfl, fits0, rfl⟩
  · rintro x ⟨n, i⟩ _ ⟨h1, rfl, h3, h4⟩
    simp only at h1 h3 h4
    have hx : i < l.length → Fits (l.getD i 0) := fun h => hf _ (getD_mem h)
    conv => whnf
    repeat' (first
      | (refine ⟨Sub.refl _, ?_⟩)
      | (refine brA_split (fun h => ?_) (fun h => ?_) <;> (try rw [h]) <;> (try simp only [Bool.false_eq_true, Bool.true_eq_false, ↓reduceIte, decide_eq_true_eq, decide_eq_false_iff_not, Bool.not_eq_true', Bool.not_eq_false'] at h) <;> (conv => whnf))
      | (rw [intsA_get (by omega)]; conv => whnf)
      | (refine ACalls.pure' ?_ (add_ok _ _ h3 (hx (by omega))); rintro _ rfl; conv => whnf)
      | (refine DCall.pure ?_ (add_ok _ _ h3 (hx (by omega))); conv => whnf)
      | (refine getB_same ?_; conv => whnf)
      | (refine AWp.any (by kernel_rfl) (by kernel_rfl) (by kernel_rfl) ?_; conv => whnf)
      | (apply And.intro; (focus (first | omega | rfl | decide | exact Nat.le_of_ble_eq_true rfl | ((repeat' (first | exact all_nil | refine all_cons ?_ ?_ | rfl | fail)); done) | (simp [-List.length_flatMap]; done) | (simp [-List.length_flatMap]; omega) | fail)); conv => whnf)
      | fail)
    · simp only [Int.toNat_natCast] at h ⊢
      have hn : ¬ fine (n + l.getD i 0) = true := fun hh => h (fine_val hh).2.1
      have hs : sumF l 0 = none := by
        rw [h4, drop_int (by omega), sumF, if_neg hn]
      rw [(not_fine hn).2]
      unfold sumA
      rw [hs]
      rfl
    · simp only [Int.toNat_natCast] at h
      have hn : fine (n + l.getD i 0) = true := by
        by_cases hh : fine (n + l.getD i 0) = true
        · exact hh
        · rw [(not_fine hh).2] at h; cases h
      obtain ⟨e1, e2, e3⟩ := fine_val hn
      refine ⟨(n + l.getD i 0, i + 1), ?_, by (repeat (first | exact Same.refl _ _ | refine Same.upd rfl ?_ | refine Same.updL rfl ?_ | refine Same.havoc rfl ?_)), ⟨by simp only; omega, rfl, e3, ?_⟩, by simp only; omega⟩
      · refine cons_eq ?_ ?_
        · show AV.int .i64 (val (n + l.getD ((i : Int)).toNat 0)) = _
          simp only [Int.toNat_natCast]
          rw [e1]
        · exact by (repeat' (first | refine cons_eq ?_ ?_ | refine int64_of ?_ ?_ ?_ | rfl | omega))
      · rw [h4, drop_int (i := i) (by omega), sumF, if_pos hn]
    · have hs : sumF l 0 = some n := by
        rw [h4, drop_end (by omega), sumF]
      unfold sumA
      rw [hs]
      rfl

theorem sum_none (t : Nat) (l : List Int) (hl : l.length ≤ 1048576) (hf : ∀ x ∈ l, Fits x) (h : sumF l 0 = none) : APure Tryd.prog Γ 37 [.slice t (intsA .i64 l)] fun v => v = .tuple [.int .i64 0, .int .i64 6] := by
  have := sum_ok (Γ := Γ) t l hl hf
  unfold sumA at this
  rw [h] at this
  exact this
theorem sum_some (t : Nat) (l : List Int) (hl : l.length ≤ 1048576) (hf : ∀ x ∈ l, Fits x) {m : Int} (h : sumF l 0 = some m) : APure Tryd.prog Γ 37 [.slice t (intsA .i64 l)] fun v => v = .tuple [.int .i64 m, .int .i64 0] := by
  have := sum_ok (Γ := Γ) t l hl hf
  unfold sumA at this
  rw [h] at this
  exact this
theorem tells_none : APure Tryd.prog Γ 38 [.int .i64 0, .int .i64 6, .int .i64 0, .bool false] fun v => v = .bool true := tells_ok 0 6 9223372036854775808 false ⟨rfl, rfl, rfl⟩ 0 rfl
theorem tells_some (m : Int) (h : fine m = true) : APure Tryd.prog Γ 38 [.int .i64 m, .int .i64 0, .int .i64 m, .bool true] fun v => v = .bool true := by
  have := tells_ok (Γ := Γ) m 0 m true ⟨h.symm, (fine_val h).1.symm, (fine_val h).2.1.symm⟩ m (fine_val h).1.symm
  exact this

/-- Where the reference's loop stands. -/
def LoopI (l : List Int) (n : Int) (ok : Bool) (i : Nat) : Prop :=
  i ≤ l.length ∧ Fits n ∧ ((ok = true ∧ sumF l 0 = sumF (l.drop i) n) ∨ (ok = false ∧ n = 0 ∧ sumF l 0 = none))

theorem sums_ok (hT : Tens Γ) (l : List Int) (hf : ∀ x ∈ l, Fits x) : APure Tryd.prog Γ 8 [.slice 0 (intsA .i64 l)] fun v => v = .bool true := by
  have hlen := intsA_len .i64 l
  refine APure.of_awp Tryd.func8 rfl (Nat.le_of_ble_eq_true (by kernel_rfl)) (by kernel_rfl) ?_
  intro s
  conv => whnf
  repeat' (first
    | (refine ⟨Sub.refl _, ?_⟩)
    | (refine brA_split (fun h => ?_) (fun h => ?_) <;> (try rw [h]) <;> (try simp only [Bool.false_eq_true, Bool.true_eq_false, ↓reduceIte, decide_eq_true_eq, decide_eq_false_iff_not, Bool.not_eq_true', Bool.not_eq_false'] at h) <;> (conv => whnf))
    | (refine ACalls.pure' ?_ (awake_ok hT); rintro _ rfl; conv => whnf)
    | (refine DCall.pure ?_ (awake_ok hT); conv => whnf)
    | (refine getB_same ?_; conv => whnf)
    | (refine AWp.any (by kernel_rfl) (by kernel_rfl) (by kernel_rfl) ?_; conv => whnf)
    | (apply And.intro; (focus (first | omega | rfl | decide | exact Nat.le_of_ble_eq_true rfl | ((repeat' (first | exact all_nil | refine all_cons ?_ ?_ | rfl | fail)); done) | (simp [-List.length_flatMap]; done) | (simp [-List.length_flatMap]; omega) | fail)); conv => whnf)
    | fail)
  · rfl
  refine AWp.loopA [3, 4, 5] [12, 13, 14, 15, 16, 17, 18, 22, 23, 24, 25, 26, 27, 21, 28, 29, 19, 20] (fun x : Int × Bool × Nat => [.int .i64 x.1, .bool x.2.1, .int .i64 x.2.2]) (fun x s' => s' = s ∧ LoopI l x.1 x.2.1 x.2.2) (fun x => l.length - x.2.2) ((0, true, 0)) (by kernel_rfl) (by (repeat' (first | refine cons_eq ?_ ?_ | refine int64_of ?_ ?_ ?_ | rfl | omega))) ?_ ?_
  · exact ⟨rfl, by simp, fits0, .inl ⟨rfl, rfl⟩⟩
  · rintro x ⟨n, ok, i⟩ _ ⟨rfl, h1, h3, h4⟩
    simp only at h1 h3 h4
    have hx : i < l.length → Fits (l.getD i 0) := fun h => hf _ (getD_mem h)
    conv => whnf
    repeat' (first
      | (refine ⟨Sub.refl _, ?_⟩)
      | (refine brA_split (fun h => ?_) (fun h => ?_) <;> (try rw [h]) <;> (try simp only [Bool.false_eq_true, Bool.true_eq_false, ↓reduceIte, decide_eq_true_eq, decide_eq_false_iff_not, Bool.not_eq_true', Bool.not_eq_false'] at h) <;> (conv => whnf))
      | (rw [intsA_get (i := (i : Int).toNat) (by omega)]; conv => whnf)
      | (refine ACalls.pure' ?_ (refAdd_ok _ _ h3 (hx (by omega))); rintro _ rfl; conv => whnf)
      | (refine DCall.pure ?_ (refAdd_ok _ _ h3 (hx (by omega))); conv => whnf)
      | (refine getB_same ?_; conv => whnf)
      | (refine AWp.any (by kernel_rfl) (by kernel_rfl) (by kernel_rfl) ?_; conv => whnf)
      | (apply And.intro; (focus (first | omega | rfl | decide | exact Nat.le_of_ble_eq_true rfl | ((repeat' (first | exact all_nil | refine all_cons ?_ ?_ | rfl | fail)); done) | (simp [-List.length_flatMap]; done) | (simp [-List.length_flatMap]; omega) | fail)); conv => whnf)
      | fail)
    · rename_i hi
      subst h
      rcases h4 with ⟨_, h4⟩ | ⟨h4, _⟩
      · simp only [Int.toNat_natCast]
        rw [drop_int (i := i) (by omega), sumF] at h4
        by_cases hn : fine (n + l.getD i 0) = true
        · rw [if_pos hn] at h4
          obtain ⟨e1, e2, e3⟩ := fine_val hn
          refine ⟨(n + l.getD i 0, true, i + 1), ?_, by (repeat (first | exact Same.refl _ _ | refine Same.upd rfl ?_ | refine Same.updL rfl ?_ | refine Same.havoc rfl ?_)), ⟨trivial, by simp only; omega, e3, .inl ⟨rfl, h4⟩⟩, by simp only; omega⟩
          refine cons_eq ?_ (cons_eq ?_ ?_)
          · show AV.int .i64 (val (n + l.getD i 0)) = _
            rw [e1]
          · show AV.bool (fine (n + l.getD i 0)) = _
            rw [hn]
          · exact cons_eq (show AV.int .i64 (IntKind.i64.wrap ((i : Int) + 1)) = .int .i64 ((i + 1 : Nat) : Int) from int64_of (by omega) (by omega) (by omega)) rfl
        · rw [if_neg hn] at h4
          obtain ⟨e1, e2⟩ := not_fine hn
          refine ⟨(0, false, i + 1), ?_, by (repeat (first | exact Same.refl _ _ | refine Same.upd rfl ?_ | refine Same.updL rfl ?_ | refine Same.havoc rfl ?_)), ⟨trivial, by simp only; omega, fits0, .inr ⟨rfl, rfl, h4⟩⟩, by simp only; omega⟩
          refine cons_eq ?_ (cons_eq ?_ ?_)
          · show AV.int .i64 (val (n + l.getD i 0)) = _
            rw [e1]
          · show AV.bool (fine (n + l.getD i 0)) = _
            rw [show fine (n + l.getD i 0) = false by simpa using hn]
          · exact cons_eq (show AV.int .i64 (IntKind.i64.wrap ((i : Int) + 1)) = .int .i64 ((i + 1 : Nat) : Int) from int64_of (by omega) (by omega) (by omega)) rfl
      · cases h4
    · subst h
      rcases h4 with ⟨h4, _⟩ | ⟨_, rfl, h4⟩
      · cases h4
      repeat' (first
        | (refine ⟨Sub.refl _, ?_⟩)
        | (refine brA_split (fun h => ?_) (fun h => ?_) <;> (try rw [h]) <;> (try simp only [Bool.false_eq_true, Bool.true_eq_false, ↓reduceIte, decide_eq_true_eq, decide_eq_false_iff_not, Bool.not_eq_true', Bool.not_eq_false'] at h) <;> (conv => whnf))
        | (refine ACalls.pure' ?_ (sum_none 0 l (by omega) hf h4); rintro _ rfl; conv => whnf)
        | (refine DCall.pure ?_ (sum_none 0 l (by omega) hf h4); conv => whnf)
        | (refine ACalls.pure' ?_ (tells_none); rintro _ rfl; conv => whnf)
        | (refine DCall.pure ?_ (tells_none); conv => whnf)
        | (refine ACalls.pure' ?_ (awake_ok hT); rintro _ rfl; conv => whnf)
        | (refine DCall.pure ?_ (awake_ok hT); conv => whnf)
        | (refine getB_same ?_; conv => whnf)
        | (refine AWp.any (by kernel_rfl) (by kernel_rfl) (by kernel_rfl) ?_; conv => whnf)
        | (apply And.intro; (focus (first | omega | rfl | decide | exact Nat.le_of_ble_eq_true rfl | ((repeat' (first | exact all_nil | refine all_cons ?_ ?_ | rfl | fail)); done) | (simp [-List.length_flatMap]; done) | (simp [-List.length_flatMap]; omega) | fail)); conv => whnf)
        | fail)
      rfl
    · rcases h4 with ⟨rfl, h4⟩ | ⟨rfl, rfl, h4⟩
      · rw [drop_end (by omega), sumF] at h4
        have hn := sumF_fine l 0 n (by decide) h4
        repeat' (first
          | (refine ⟨Sub.refl _, ?_⟩)
          | (refine brA_split (fun h => ?_) (fun h => ?_) <;> (try rw [h]) <;> (try simp only [Bool.false_eq_true, Bool.true_eq_false, ↓reduceIte, decide_eq_true_eq, decide_eq_false_iff_not, Bool.not_eq_true', Bool.not_eq_false'] at h) <;> (conv => whnf))
          | (refine ACalls.pure' ?_ (sum_some 0 l (by omega) hf h4); rintro _ rfl; conv => whnf)
          | (refine DCall.pure ?_ (sum_some 0 l (by omega) hf h4); conv => whnf)
          | (refine ACalls.pure' ?_ (tells_some n hn); rintro _ rfl; conv => whnf)
          | (refine DCall.pure ?_ (tells_some n hn); conv => whnf)
          | (refine ACalls.pure' ?_ (awake_ok hT); rintro _ rfl; conv => whnf)
          | (refine DCall.pure ?_ (awake_ok hT); conv => whnf)
          | (refine getB_same ?_; conv => whnf)
          | (refine AWp.any (by kernel_rfl) (by kernel_rfl) (by kernel_rfl) ?_; conv => whnf)
          | (apply And.intro; (focus (first | omega | rfl | decide | exact Nat.le_of_ble_eq_true rfl | ((repeat' (first | exact all_nil | refine all_cons ?_ ?_ | rfl | fail)); done) | (simp [-List.length_flatMap]; done) | (simp [-List.length_flatMap]; omega) | fail)); conv => whnf)
          | fail)
        rfl
      · repeat' (first
          | (refine ⟨Sub.refl _, ?_⟩)
          | (refine brA_split (fun h => ?_) (fun h => ?_) <;> (try rw [h]) <;> (try simp only [Bool.false_eq_true, Bool.true_eq_false, ↓reduceIte, decide_eq_true_eq, decide_eq_false_iff_not, Bool.not_eq_true', Bool.not_eq_false'] at h) <;> (conv => whnf))
          | (refine ACalls.pure' ?_ (sum_none 0 l (by omega) hf h4); rintro _ rfl; conv => whnf)
          | (refine DCall.pure ?_ (sum_none 0 l (by omega) hf h4); conv => whnf)
          | (refine ACalls.pure' ?_ (tells_none); rintro _ rfl; conv => whnf)
          | (refine DCall.pure ?_ (tells_none); conv => whnf)
          | (refine ACalls.pure' ?_ (awake_ok hT); rintro _ rfl; conv => whnf)
          | (refine DCall.pure ?_ (awake_ok hT); conv => whnf)
          | (refine getB_same ?_; conv => whnf)
          | (refine AWp.any (by kernel_rfl) (by kernel_rfl) (by kernel_rfl) ?_; conv => whnf)
          | (apply And.intro; (focus (first | omega | rfl | decide | exact Nat.le_of_ble_eq_true rfl | ((repeat' (first | exact all_nil | refine all_cons ?_ ?_ | rfl | fail)); done) | (simp [-List.length_flatMap]; done) | (simp [-List.length_flatMap]; omega) | fail)); conv => whnf)
          | fail)
        rfl
end Go.Proofs.YtcngoammgmcbfaaDoor.Nu
