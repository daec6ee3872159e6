
/- Chapter 2: QuoteBack and QuoteCuts. -/
import Derived.Test.YtcgobgnbpeageaaGreatDoorQuE
import Derived.Test.YtcgobgnbpeageaaGreatDoorQuP
set_option linter.all false
namespace Go.Proofs.YtcgobgnbpeageaaGreatDoor.Qu
open Go Go.Ab Go.Proofs.YtcgobgnbpeageaaGreatDoor.Bd Go.Proofs.YtcgobgnbpeageaaGreatDoor.Ix
attribute [local irreducible] APure Sto.set Sto.grow
set_option maxRecDepth 10000
variable {Γ : Nat → AV}

theorem progCut_none (hT : Tabs Γ) (l : List UInt8) (hl : l.length ≤ 1048576) (h : cut l = none) : APure Tryz.prog Γ 51 [.str l] fun v => v = .tuple [.str [], .int .i64 0, .bool false] := by
  have := progCut_ok hT l hl
  rw [cutA_none h] at this
  exact this
theorem progCut_some (hT : Tabs Γ) (l : List UInt8) (hl : l.length ≤ 1048576) {t : List UInt8} {k : Nat} (h : cut l = some (t, k)) : APure Tryz.prog Γ 51 [.str l] fun v => v = .tuple [.str t, .int .i64 k, .bool true] := by
  have := progCut_ok hT l hl
  rw [cutA_some h] at this
  exact this
theorem refCut_none (l : List UInt8) (hl : l.length ≤ 1048576) (h : cut l = none) : APure Tryz.prog Γ 37 [.str l] fun v => v = .tuple [.str [], .int .i64 0] := by
  have := refCut_ok (Γ := Γ) l hl
  rw [cutA_none h] at this
  exact this
theorem refCut_some (l : List UInt8) (hl : l.length ≤ 1048576) {t : List UInt8} {k : Nat} (h : cut l = some (t, k)) : APure Tryz.prog Γ 37 [.str l] fun v => v = .tuple [.str t, .int .i64 k] := by
  have := refCut_ok (Γ := Γ) l hl
  rw [cutA_some h] at this
  exact this

theorem unquote_none (hT : Tabs Γ) (l : List UInt8) (hl : l.length ≤ 1048576) (h : cut l = none) : APure Tryz.prog Γ 32 [.str l] fun v => v = .tuple [.str [], .bool false] := by
  refine APure.of_awp Tryz.func32 rfl (Nat.le_of_ble_eq_true (by kernel_rfl)) (by kernel_rfl) ?_
  intro s
  conv => whnf
  repeat' (first
    | (refine ⟨Sub.refl _, ?_⟩)
    | (refine brA_split (fun h => ?_) (fun h => ?_) <;> (try rw [h]) <;> (try simp only [Bool.false_eq_true, Bool.true_eq_false, ↓reduceIte, decide_eq_true_eq, decide_eq_false_iff_not, Bool.not_eq_true', Bool.not_eq_false'] at h) <;> (conv => whnf))
    | (refine ACalls.pure' ?_ (progCut_none hT _ hl h); rintro _ rfl; conv => whnf)
    | (refine DCall.pure ?_ (progCut_none hT _ hl h); conv => whnf)
    | (refine getB_same ?_; conv => whnf)
    | (refine AWp.any (by kernel_rfl) (by kernel_rfl) (by kernel_rfl) ?_; conv => whnf)
    | (apply And.intro; (focus (first | omega | rfl | decide | exact Nat.le_of_ble_eq_true rfl | ((repeat' (first | exact all_nil | refine all_cons ?_ ?_ | rfl | fail)); done) | (simp [-List.length_flatMap]; done) | (simp [-List.length_flatMap]; omega) | fail)); conv => whnf)
    | fail)
  rfl
theorem unquote_whole (hT : Tabs Γ) (l : List UInt8) (hl : l.length ≤ 1048576) {t : List UInt8} (h : cut l = some (t, l.length)) : APure Tryz.prog Γ 32 [.str l] fun v => v = .tuple [.str t, .bool true] := by
  refine APure.of_awp Tryz.func32 rfl (Nat.le_of_ble_eq_true (by kernel_rfl)) (by kernel_rfl) ?_
  intro s
  conv => whnf
  repeat' (first
    | (refine ⟨Sub.refl _, ?_⟩)
    | (refine brA_split (fun h => ?_) (fun h => ?_) <;> (try rw [h]) <;> (try simp only [Bool.false_eq_true, Bool.true_eq_false, ↓reduceIte, decide_eq_true_eq, decide_eq_false_iff_not, Bool.not_eq_true', Bool.not_eq_false'] at h) <;> (conv => whnf))
    | (refine ACalls.pure' ?_ (progCut_some hT _ hl h); rintro _ rfl; conv => whnf)
    | (refine DCall.pure ?_ (progCut_some hT _ hl h); conv => whnf)
    | (refine getB_same ?_; conv => whnf)
    | (refine AWp.any (by kernel_rfl) (by kernel_rfl) (by kernel_rfl) ?_; conv => whnf)
    | (apply And.intro; (focus (first | omega | rfl | decide | exact Nat.le_of_ble_eq_true rfl | ((repeat' (first | exact all_nil | refine all_cons ?_ ?_ | rfl | fail)); done) | (simp [-List.length_flatMap]; done) | (simp [-List.length_flatMap]; omega) | fail)); conv => whnf)
    | fail)
  · simp at h
  · rfl
theorem unquote_part (hT : Tabs Γ) (l : List UInt8) (hl : l.length ≤ 1048576) {t : List UInt8} {k : Nat} (h : cut l = some (t, k)) (hk : k ≠ l.length) : APure Tryz.prog Γ 32 [.str l] fun v => v = .tuple [.str [], .bool false] := by
  refine APure.of_awp Tryz.func32 rfl (Nat.le_of_ble_eq_true (by kernel_rfl)) (by kernel_rfl) ?_
  intro s
  conv => whnf
  repeat' (first
    | (refine ⟨Sub.refl _, ?_⟩)
    | (refine brA_split (fun h => ?_) (fun h => ?_) <;> (try rw [h]) <;> (try simp only [Bool.false_eq_true, Bool.true_eq_false, ↓reduceIte, decide_eq_true_eq, decide_eq_false_iff_not, Bool.not_eq_true', Bool.not_eq_false'] at h) <;> (conv => whnf))
    | (refine ACalls.pure' ?_ (progCut_some hT _ hl h); rintro _ rfl; conv => whnf)
    | (refine DCall.pure ?_ (progCut_some hT _ hl h); conv => whnf)
    | (refine getB_same ?_; conv => whnf)
    | (refine AWp.any (by kernel_rfl) (by kernel_rfl) (by kernel_rfl) ?_; conv => whnf)
    | (apply And.intro; (focus (first | omega | rfl | decide | exact Nat.le_of_ble_eq_true rfl | ((repeat' (first | exact all_nil | refine all_cons ?_ ?_ | rfl | fail)); done) | (simp [-List.length_flatMap]; done) | (simp [-List.length_flatMap]; omega) | fail)); conv => whnf)
    | fail)
  · rfl
  · exfalso; omega

/- The plain laws. -/
theorem one_head (c : UInt8) : ∃ b r, one c.toNat = b :: r ∧ b ≠ 34 := by
  have key : ∀ n : Nat, n < 256 → (match one (n : Int) with | [] => false | b :: _ => decide (b ≠ 34)) = true := by decide +kernel
  have := key c.toNat (u8_lt c)
  split at this
  · cases this
  · rename_i b r hb
    exact ⟨b, r, hb, by simpa using this⟩
theorem cutR_quote (more : List UInt8) : ∀ l : List UInt8, cutR ((l.flatMap fun c => one c.toNat) ++ 34 :: more) = some (l, (l.flatMap fun c => one c.toNat).length + 1)
  | [] => by simp [cutR]
  | c :: l => by
    have ih := cutR_quote more l
    obtain ⟨b, r, hb, hne⟩ := one_head c
    have ht := tk_of c.toNat (u8_lt c) ((l.flatMap fun c => one c.toNat) ++ 34 :: more)
    simp only [List.flatMap_cons, List.append_assoc]
    rw [hb] at ht ⊢
    simp only [List.cons_append] at ht ⊢
    rw [cutR, if_neg hne, ht]
    rw [if_neg (by simp; omega)]
    have e : ((r.length + 1 : Nat) : Int).toNat - 1 = r.length := by omega
    have e2 : (r ++ ((l.flatMap fun c => one c.toNat) ++ 34 :: more)).drop r.length = (l.flatMap fun c => one c.toNat) ++ 34 :: more := by simp
    simp only [List.length_cons, e]
    rw [e2, ih]
    simp
    omega
theorem cut_quote (l more : List UInt8) : cut (quote l ++ more) = some (l, (quote l).length) := by
  have := cutR_quote more l
  unfold quote
  simp only [List.cons_append, List.append_assoc, List.nil_append]
  simp only [cut, if_true]
  rw [this]
  simp
theorem quote_len (l : List UInt8) : (quote l).length ≤ 4 * l.length + 2 := by
  have := flatMap_len (fun c : UInt8 => one c.toNat) 4 (fun c => one_len _) l
  simp only [quote, List.length_append, List.length_cons, List.length_nil]
  omega

/-- What was cut is its quoted form. -/
theorem cutR_back : ∀ (n : Nat) (l : List UInt8), l.length ≤ n → ∀ t k, cutR l = some (t, k) → k ≤ l.length ∧ l.take k = (t.flatMap fun c => one c.toNat) ++ [34]
  | _, [], _, t, k, h => by rw [cutR] at h; cases h
  | 0, _ :: _, hn, _, _, _ => by simp at hn
  | n + 1, b :: r, hn, t, k, h => by
    rw [cutR] at h
    split at h
    · rename_i hb
      simp only [Option.some.injEq, Prod.mk.injEq] at h
      obtain ⟨rfl, rfl⟩ := h
      subst hb
      simp
    · split at h
      · cases h
      · rename_i hb hz
        obtain ⟨x, hx, he⟩ := Option.map_eq_some_iff.1 h
        obtain ⟨t', k'⟩ := x
        simp only [Prod.mk.injEq] at he
        obtain ⟨rfl, rfl⟩ := he
        rcases tk_cases (b :: r) (by simp) with ht | ⟨m, hm, r', hr⟩
        · rw [ht] at hz; exact absurd rfl hz
        · have ht := tk_of m hm r'
          rw [← hr] at ht
          have hpos : 1 ≤ (one (m : Int)).length := by
            have := one_pos (UInt8.ofNat m)
            simpa [Nat.mod_eq_of_lt hm] using this
          rw [ht] at hx ⊢
          have hd : r.drop ((one (m : Int)).length - 1) = r' := by
            have h1 : (b :: r).drop (one (m : Int)).length = r' := by rw [hr]; simp
            obtain ⟨p, hp⟩ : ∃ p, (one (m : Int)).length = p + 1 := ⟨(one (m : Int)).length - 1, by omega⟩
            rw [hp] at h1 ⊢
            simpa using h1
          simp only [Int.toNat_natCast] at hx ⊢
          rw [hd] at hx
          have hlen := congrArg List.length hr
          simp only [List.length_cons, List.length_append] at hlen hn
          obtain ⟨h1, h2⟩ := cutR_back n r' (by omega) t' k' hx
          refine ⟨by rw [hr]; simp; omega, ?_⟩
          rw [hr, show k' + (one (m : Int)).length = (one (m : Int)).length + k' by omega, List.take_length_add_append, h2]
          have e : ((UInt8.ofNat m).toNat : Int) = m := by simp [Nat.mod_eq_of_lt hm]
          simp only [List.flatMap_cons, e, List.append_assoc]
theorem cut_back {l t : List UInt8} {k : Nat} (h : cut l = some (t, k)) : 0 < k ∧ k ≤ l.length ∧ quote t = l.take k := by
  cases l with
  | nil => cases h
  | cons b r =>
    have h : (if b = 34 then _ else none) = some (t, k) := h
    split at h
    · rename_i hb
      subst hb
      obtain ⟨⟨t', k'⟩, hx, he⟩ := Option.map_eq_some_iff.1 h
      simp only [Prod.mk.injEq] at he
      obtain ⟨rfl, rfl⟩ := he
      obtain ⟨h1, h2⟩ := cutR_back _ r (Nat.le_refl _) _ _ hx
      refine ⟨by omega, by simp; omega, ?_⟩
      rw [List.take_succ_cons, h2]
      simp [quote]
    · cases h

end Go.Proofs.YtcgobgnbpeageaaGreatDoor.Qu
