
/- Chapter 9: the token that a text begins with. -/
import Derived.Test.YtnelknhacamboaaDoorLxD
set_option linter.all false
namespace Go.Proofs.YtnelknhacamboaaDoor.Lx
open Go Go.Ab Go.RowKit Go.Proofs.YtnelknhacamboaaDoor.Sc
variable {Γ : Nat → AV}
attribute [local irreducible] APure Sto.set Sto.grow
set_option maxRecDepth 10000
set_option maxHeartbeats 1000000

theorem firstA_sign0 {l : List UInt8} (h : byteAt l 0 ≠ 34) (h0 : letN l = 0) (hg : signOf l = []) : firstA l = .tuple [tokC 0 [], .int .i64 0, oddA 15] := by
  unfold firstA firstF
  rw [if_neg h, if_pos h0, if_pos hg]
  simp only [if_neg h, h0]
  rfl
theorem firstA_sign {l : List UInt8} (h : byteAt l 0 ≠ 34) (h0 : letN l = 0) (hg : signOf l ≠ []) : firstA l = .tuple [tokC 5 (signOf l), .int .i64 (signOf l).length, .nilIface] := by
  unfold firstA firstF
  rw [if_neg h, if_pos h0, if_neg hg]
theorem firstA_bad {l : List UInt8} {e : Int} (h : byteAt l 0 ≠ 34) (h0 : letN l ≠ 0) (he : lettersF (l.take (letN l)) = .error e) : firstA l = .tuple [tokC 0 [], .int .i64 (letN l), oddA e] := by
  unfold firstA firstF
  rw [if_neg h, if_neg h0, he]
  simp only [if_neg h]
theorem firstA_good {l : List UInt8} {k : Int} {t : List UInt8} (h : byteAt l 0 ≠ 34) (h0 : letN l ≠ 0) (he : lettersF (l.take (letN l)) = .ok (k, t)) : firstA l = .tuple [tokC k t, .int .i64 (letN l), .nilIface] := by
  unfold firstA firstF
  rw [if_neg h, if_neg h0, he]
theorem firstA_eq (l : List UInt8) : (∃ k t n, firstA l = .tuple [tokC k t, .int .i64 n, .nilIface]) ∨ ∃ n e, firstA l = .tuple [tokC 0 [], .int .i64 n, oddA e] := by
  unfold firstA
  rcases firstF l with e | ⟨k, t, n⟩
  · exact .inr ⟨_, _, rfl⟩
  · exact .inl ⟨_, _, _, rfl⟩
theorem first_ok (hQ : Qu.Tabs Γ) (hT : Wds Γ) (l : List UInt8) (h0 : 0 < l.length) (hl : l.length ≤ 1048576) : APure Tryd.prog Γ 10 [.str l] fun v => v = firstA l := by
  have hz : byteAt l (0 : Int).toNat = byteAt l 0 := rfl
  have h34 := b34 (b := byteAt l 0)
  by_cases hq : byteAt l 0 = 34
  · have hq' := h34.2 hq
    have hqq := quoted_ok hQ l hl hq
    rcases firstA_eq l with ⟨k, t, n, he⟩ | ⟨n, e, he⟩
    · rw [he] at hqq ⊢
      unfold tokC at hqq
      refine APure.of_awp Tryd.func10 rfl (Nat.le_of_ble_eq_true (by kernel_rfl)) (by kernel_rfl) ?_
      intro s
      conv => whnf
      intro b hb
      conv => whnf
      repeat' (first
        | (exfalso; first | omega | exact (by assumption : ¬ True) trivial | fail)
        | (refine ⟨Sub.refl _, ?_⟩)
        | (refine brA_split (fun h => ?_) (fun h => ?_) <;> (try rw [h]) <;> (try simp only [Bool.false_eq_true, Bool.true_eq_false, ↓reduceIte, decide_eq_true_eq, decide_eq_false_iff_not, Bool.not_eq_true', Bool.not_eq_false'] at h) <;> (conv => whnf))
        | (refine getB_of (by ((repeat (first | exact set_bx_same | assumption | refine (set_bx_other (by assumption)).trans ?_ | refine grow_bx.trans ?_)); done)) ?_; conv => whnf)
        | (refine ACalls.pure' ?_ (hqq); rintro _ rfl; conv => whnf)
        | (refine DCall.pure ?_ (hqq); conv => whnf)
        | (rw [hz]; conv => whnf)
        | (refine getB_same ?_; conv => whnf)
        | (refine AWp.any (by kernel_rfl) (by kernel_rfl) (by kernel_rfl) ?_; conv => whnf)
        | (apply And.intro; (focus (first | omega | rfl | decide | exact Nat.le_of_ble_eq_true rfl | ((repeat' (first | exact all_nil | refine all_cons ?_ ?_ | rfl | fail)); done) | (simp [-List.length_flatMap]; done) | (simp [-List.length_flatMap]; omega) | fail)); conv => whnf)
        | fail)
      · exact ⟨((Sub.refl _).set hb _ _).set hb _ _, rfl⟩
    · rw [he] at hqq ⊢
      unfold tokC oddA at hqq
      refine APure.of_awp Tryd.func10 rfl (Nat.le_of_ble_eq_true (by kernel_rfl)) (by kernel_rfl) ?_
      intro s
      conv => whnf
      intro b hb
      conv => whnf
      repeat' (first
        | (exfalso; first | omega | exact (by assumption : ¬ True) trivial | fail)
        | (refine ⟨Sub.refl _, ?_⟩)
        | (refine brA_split (fun h => ?_) (fun h => ?_) <;> (try rw [h]) <;> (try simp only [Bool.false_eq_true, Bool.true_eq_false, ↓reduceIte, decide_eq_true_eq, decide_eq_false_iff_not, Bool.not_eq_true', Bool.not_eq_false'] at h) <;> (conv => whnf))
        | (refine getB_of (by ((repeat (first | exact set_bx_same | assumption | refine (set_bx_other (by assumption)).trans ?_ | refine grow_bx.trans ?_)); done)) ?_; conv => whnf)
        | (refine ACalls.pure' ?_ (hqq); rintro _ rfl; conv => whnf)
        | (refine DCall.pure ?_ (hqq); conv => whnf)
        | (rw [hz]; conv => whnf)
        | (refine getB_same ?_; conv => whnf)
        | (refine AWp.any (by kernel_rfl) (by kernel_rfl) (by kernel_rfl) ?_; conv => whnf)
        | (apply And.intro; (focus (first | omega | rfl | decide | exact Nat.le_of_ble_eq_true rfl | ((repeat' (first | exact all_nil | refine all_cons ?_ ?_ | rfl | fail)); done) | (simp [-List.length_flatMap]; done) | (simp [-List.length_flatMap]; omega) | fail)); conv => whnf)
        | fail)
      · exact ⟨((Sub.refl _).set hb _ _).set hb _ _, rfl⟩
  · have hq' : ¬ ((byteAt l 0).toNat : Int) = 34 := fun h => hq (h34.1 h)
    have hs := progSign_ok (Γ := Γ) l
    have hlt := letN_le l
    refine APure.of_awp Tryd.func10 rfl (Nat.le_of_ble_eq_true (by kernel_rfl)) (by kernel_rfl) ?_
    intro s
    conv => whnf
    intro b hb
    conv => whnf
    repeat' (first
      | (exfalso; first | omega | exact (by assumption : ¬ True) trivial | fail)
      | (refine ⟨Sub.refl _, ?_⟩)
      | (refine brA_split (fun h => ?_) (fun h => ?_) <;> (try rw [h]) <;> (try simp only [Bool.false_eq_true, Bool.true_eq_false, ↓reduceIte, decide_eq_true_eq, decide_eq_false_iff_not, Bool.not_eq_true', Bool.not_eq_false'] at h) <;> (conv => whnf))
      | (refine getB_of (by ((repeat (first | exact set_bx_same | assumption | refine (set_bx_other (by assumption)).trans ?_ | refine grow_bx.trans ?_)); done)) ?_; conv => whnf)
      | (rw [hz]; conv => whnf)
      | (refine getB_same ?_; conv => whnf)
      | (refine AWp.any (by kernel_rfl) (by kernel_rfl) (by kernel_rfl) ?_; conv => whnf)
      | (apply And.intro; (focus (first | omega | rfl | decide | exact Nat.le_of_ble_eq_true rfl | ((repeat' (first | exact all_nil | refine all_cons ?_ ?_ | rfl | fail)); done) | (simp [-List.length_flatMap]; done) | (simp [-List.length_flatMap]; omega) | fail)); conv => whnf)
      | fail)
    refine AWp.loopA [5] [17, 18, 19, 20, 21, 22, 23, 24, 25, 26, 27, 28] (fun i : Nat => [.int .i64 i]) (fun i s' => i ≤ l.length ∧ s' = s.set b 34 [.int .i64 0, .str [], .int .i64 0, .int .i64 0] ∧ letN l = i + letN (l.drop i)) (fun i => l.length - i) (0) (by kernel_rfl) (by (repeat' (first | refine cons_eq ?_ ?_ | refine int64_of ?_ ?_ ?_ | rfl | omega))) ?_ ?_
    · exact ⟨by omega, rfl, by rw [List.drop_zero]; simp⟩
    · rintro x i _ ⟨i1, rfl, i2⟩
      show awp _ _ _ _ _ (updL _ _ [.int .i64 (i : Int)]) _
      conv => whnf
      have hA : List.drop 0 (List.take ((i : Int)).toNat l) = l.take i := by rw [Int.toNat_natCast, List.drop_zero]
      have hzi : byteAt l ((i : Int)).toNat = byteAt l i := rfl
      by_cases hlt : i < l.length
      · have hat := letN_at hlt
        have hpl := progLetter_ok (Γ := Γ) ((byteAt l i).toNat : Int)
        by_cases hw : wordc (byteAt l i).toNat = true
        · rw [if_pos hw] at hat
          rw [hw] at hpl
          repeat' (first
            | (exfalso; first | omega | exact (by assumption : ¬ True) trivial | fail)
            | (refine ⟨Sub.refl _, ?_⟩)
            | (refine brA_split (fun h => ?_) (fun h => ?_) <;> (try rw [h]) <;> (try simp only [Bool.false_eq_true, Bool.true_eq_false, ↓reduceIte, decide_eq_true_eq, decide_eq_false_iff_not, Bool.not_eq_true', Bool.not_eq_false'] at h) <;> (conv => whnf))
            | (rw [hzi]; conv => whnf)
            | (refine ACalls.pure' ?_ (hpl); rintro _ rfl; conv => whnf)
            | (refine DCall.pure ?_ (hpl); conv => whnf)
            | (refine getB_same ?_; conv => whnf)
            | (refine AWp.any (by kernel_rfl) (by kernel_rfl) (by kernel_rfl) ?_; conv => whnf)
            | (apply And.intro; (focus (first | omega | rfl | decide | exact Nat.le_of_ble_eq_true rfl | ((repeat' (first | exact all_nil | refine all_cons ?_ ?_ | rfl | fail)); done) | (simp [-List.length_flatMap]; done) | (simp [-List.length_flatMap]; omega) | fail)); conv => whnf)
            | fail)
          refine ⟨i + 1, by (repeat' (first | refine cons_eq ?_ ?_ | refine int64_of ?_ ?_ ?_ | rfl | omega)), by (repeat (first | exact Same.refl _ _ | refine Same.upd rfl ?_ | refine Same.updL rfl ?_ | refine Same.havoc rfl ?_)), ⟨by omega, by first | rfl | trivial, by omega⟩, by omega⟩
        · rw [if_neg hw] at hat
          rw [Bool.eq_false_iff.2 hw] at hpl
          have hN : letN l = i := by omega
          by_cases hi0 : i = 0
          · subst hi0
            by_cases hg : signOf l = []
            · rw [firstA_sign0 hq hN hg]
              rw [hg] at hs
              repeat' (first
                | (exfalso; first | omega | exact (by assumption : ¬ True) trivial | fail)
                | (refine ⟨Sub.refl _, ?_⟩)
                | (refine brA_split (fun h => ?_) (fun h => ?_) <;> (try rw [h]) <;> (try simp only [Bool.false_eq_true, Bool.true_eq_false, ↓reduceIte, decide_eq_true_eq, decide_eq_false_iff_not, Bool.not_eq_true', Bool.not_eq_false'] at h) <;> (conv => whnf))
                | (rw [hzi]; conv => whnf)
                | (refine ACalls.pure' ?_ (hpl); rintro _ rfl; conv => whnf)
                | (refine DCall.pure ?_ (hpl); conv => whnf)
                | (refine ACalls.pure' ?_ (hs); rintro _ rfl; conv => whnf)
                | (refine DCall.pure ?_ (hs); conv => whnf)
                | (refine getB_of (by ((repeat (first | exact set_bx_same | assumption | refine (set_bx_other (by assumption)).trans ?_ | refine grow_bx.trans ?_)); done)) ?_; conv => whnf)
                | (refine getB_same ?_; conv => whnf)
                | (refine AWp.any (by kernel_rfl) (by kernel_rfl) (by kernel_rfl) ?_; conv => whnf)
                | (apply And.intro; (focus (first | omega | rfl | decide | exact Nat.le_of_ble_eq_true rfl | ((repeat' (first | exact all_nil | refine all_cons ?_ ?_ | rfl | fail)); done) | (simp [-List.length_flatMap]; done) | (simp [-List.length_flatMap]; omega) | fail)); conv => whnf)
                | fail)
              all_goals (first | exact ⟨((Sub.refl _).set hb _ _).set hb _ _, rfl⟩ | exact absurd (by assumption) hg)
            · rw [firstA_sign hq hN hg]
              repeat' (first
                | (exfalso; first | omega | exact (by assumption : ¬ True) trivial | fail)
                | (refine ⟨Sub.refl _, ?_⟩)
                | (refine brA_split (fun h => ?_) (fun h => ?_) <;> (try rw [h]) <;> (try simp only [Bool.false_eq_true, Bool.true_eq_false, ↓reduceIte, decide_eq_true_eq, decide_eq_false_iff_not, Bool.not_eq_true', Bool.not_eq_false'] at h) <;> (conv => whnf))
                | (rw [hzi]; conv => whnf)
                | (refine ACalls.pure' ?_ (hpl); rintro _ rfl; conv => whnf)
                | (refine DCall.pure ?_ (hpl); conv => whnf)
                | (refine ACalls.pure' ?_ (hs); rintro _ rfl; conv => whnf)
                | (refine DCall.pure ?_ (hs); conv => whnf)
                | (refine getB_of (by ((repeat (first | exact set_bx_same | assumption | refine (set_bx_other (by assumption)).trans ?_ | refine grow_bx.trans ?_)); done)) ?_; conv => whnf)
                | (refine getB_same ?_; conv => whnf)
                | (refine AWp.any (by kernel_rfl) (by kernel_rfl) (by kernel_rfl) ?_; conv => whnf)
                | (apply And.intro; (focus (first | omega | rfl | decide | exact Nat.le_of_ble_eq_true rfl | ((repeat' (first | exact all_nil | refine all_cons ?_ ?_ | rfl | fail)); done) | (simp [-List.length_flatMap]; done) | (simp [-List.length_flatMap]; omega) | fail)); conv => whnf)
                | fail)
              all_goals (first | exact ⟨((Sub.refl _).set hb _ _).set hb _ _, rfl⟩ | exact absurd (by assumption) hg)
          · have hle := letters_ok hT (l.take i) (by rw [List.length_take]; omega) (by rw [List.length_take]; omega)
            have hN0 : letN l ≠ 0 := by omega
            rcases hL : lettersF (l.take i) with e | ⟨k, t⟩
            · rw [firstA_bad hq hN0 (by rw [hN]; exact hL), hN]
              rw [hL] at hle
              simp only [resA, tokC, oddA] at hle
              repeat' (first
                | (exfalso; first | omega | exact (by assumption : ¬ True) trivial | fail)
                | (refine ⟨Sub.refl _, ?_⟩)
                | (refine brA_split (fun h => ?_) (fun h => ?_) <;> (try rw [h]) <;> (try simp only [Bool.false_eq_true, Bool.true_eq_false, ↓reduceIte, decide_eq_true_eq, decide_eq_false_iff_not, Bool.not_eq_true', Bool.not_eq_false'] at h) <;> (conv => whnf))
                | (rw [hzi]; conv => whnf)
                | (refine ACalls.pure' ?_ (hpl); rintro _ rfl; conv => whnf)
                | (refine DCall.pure ?_ (hpl); conv => whnf)
                | (rw [hA]; conv => whnf)
                | (refine ACalls.pure' ?_ (hle); rintro _ rfl; conv => whnf)
                | (refine DCall.pure ?_ (hle); conv => whnf)
                | (refine getB_same ?_; conv => whnf)
                | (refine AWp.any (by kernel_rfl) (by kernel_rfl) (by kernel_rfl) ?_; conv => whnf)
                | (apply And.intro; (focus (first | omega | rfl | decide | exact Nat.le_of_ble_eq_true rfl | ((repeat' (first | exact all_nil | refine all_cons ?_ ?_ | rfl | fail)); done) | (simp [-List.length_flatMap]; done) | (simp [-List.length_flatMap]; omega) | fail)); conv => whnf)
                | fail)
              intro b2 hb2
              have n_b_b2 : b ≠ b2 := ne_of_none (by ((repeat (first | exact set_bx_same | assumption | refine (set_bx_other (by assumption)).trans ?_ | refine grow_bx.trans ?_)); done)) hb2
              have n_b2_b : b2 ≠ b := fun h => n_b_b2 h.symm
              conv => whnf
              repeat' (first
                | (exfalso; first | omega | exact (by assumption : ¬ True) trivial | fail)
                | (refine ⟨Sub.refl _, ?_⟩)
                | (refine brA_split (fun h => ?_) (fun h => ?_) <;> (try rw [h]) <;> (try simp only [Bool.false_eq_true, Bool.true_eq_false, ↓reduceIte, decide_eq_true_eq, decide_eq_false_iff_not, Bool.not_eq_true', Bool.not_eq_false'] at h) <;> (conv => whnf))
                | (refine getB_of (by ((repeat (first | exact set_bx_same | assumption | refine (set_bx_other (by assumption)).trans ?_ | refine grow_bx.trans ?_)); done)) ?_; conv => whnf)
                | (refine getB_same ?_; conv => whnf)
                | (refine AWp.any (by kernel_rfl) (by kernel_rfl) (by kernel_rfl) ?_; conv => whnf)
                | (apply And.intro; (focus (first | omega | rfl | decide | exact Nat.le_of_ble_eq_true rfl | ((repeat' (first | exact all_nil | refine all_cons ?_ ?_ | rfl | fail)); done) | (simp [-List.length_flatMap]; done) | (simp [-List.length_flatMap]; omega) | fail)); conv => whnf)
                | fail)
              exact ⟨((((Sub.refl _).set hb _ _).set (none_set hb2).2 _ _).set (none_set hb2).2 _ _).set hb _ _, rfl⟩
            · rw [firstA_good hq hN0 (by rw [hN]; exact hL), hN]
              rw [hL] at hle
              simp only [resA, tokC] at hle
              repeat' (first
                | (exfalso; first | omega | exact (by assumption : ¬ True) trivial | fail)
                | (refine ⟨Sub.refl _, ?_⟩)
                | (refine brA_split (fun h => ?_) (fun h => ?_) <;> (try rw [h]) <;> (try simp only [Bool.false_eq_true, Bool.true_eq_false, ↓reduceIte, decide_eq_true_eq, decide_eq_false_iff_not, Bool.not_eq_true', Bool.not_eq_false'] at h) <;> (conv => whnf))
                | (rw [hzi]; conv => whnf)
                | (refine ACalls.pure' ?_ (hpl); rintro _ rfl; conv => whnf)
                | (refine DCall.pure ?_ (hpl); conv => whnf)
                | (rw [hA]; conv => whnf)
                | (refine ACalls.pure' ?_ (hle); rintro _ rfl; conv => whnf)
                | (refine DCall.pure ?_ (hle); conv => whnf)
                | (refine getB_same ?_; conv => whnf)
                | (refine AWp.any (by kernel_rfl) (by kernel_rfl) (by kernel_rfl) ?_; conv => whnf)
                | (apply And.intro; (focus (first | omega | rfl | decide | exact Nat.le_of_ble_eq_true rfl | ((repeat' (first | exact all_nil | refine all_cons ?_ ?_ | rfl | fail)); done) | (simp [-List.length_flatMap]; done) | (simp [-List.length_flatMap]; omega) | fail)); conv => whnf)
                | fail)
              intro b2 hb2
              have n_b_b2 : b ≠ b2 := ne_of_none (by ((repeat (first | exact set_bx_same | assumption | refine (set_bx_other (by assumption)).trans ?_ | refine grow_bx.trans ?_)); done)) hb2
              have n_b2_b : b2 ≠ b := fun h => n_b_b2 h.symm
              conv => whnf
              repeat' (first
                | (exfalso; first | omega | exact (by assumption : ¬ True) trivial | fail)
                | (refine ⟨Sub.refl _, ?_⟩)
                | (refine brA_split (fun h => ?_) (fun h => ?_) <;> (try rw [h]) <;> (try simp only [Bool.false_eq_true, Bool.true_eq_false, ↓reduceIte, decide_eq_true_eq, decide_eq_false_iff_not, Bool.not_eq_true', Bool.not_eq_false'] at h) <;> (conv => whnf))
                | (refine getB_of (by ((repeat (first | exact set_bx_same | assumption | refine (set_bx_other (by assumption)).trans ?_ | refine grow_bx.trans ?_)); done)) ?_; conv => whnf)
                | (refine getB_same ?_; conv => whnf)
                | (refine AWp.any (by kernel_rfl) (by kernel_rfl) (by kernel_rfl) ?_; conv => whnf)
                | (apply And.intro; (focus (first | omega | rfl | decide | exact Nat.le_of_ble_eq_true rfl | ((repeat' (first | exact all_nil | refine all_cons ?_ ?_ | rfl | fail)); done) | (simp [-List.length_flatMap]; done) | (simp [-List.length_flatMap]; omega) | fail)); conv => whnf)
                | fail)
              exact ⟨((((Sub.refl _).set hb _ _).set (none_set hb2).2 _ _).set (none_set hb2).2 _ _).set hb _ _, rfl⟩
      · have hN : letN l = i := by rw [drop_end hlt] at i2; exact i2
        by_cases hi0 : i = 0
        · subst hi0
          by_cases hg : signOf l = []
          · rw [firstA_sign0 hq hN hg]
            rw [hg] at hs
            repeat' (first
              | (exfalso; first | omega | exact (by assumption : ¬ True) trivial | fail)
              | (refine ⟨Sub.refl _, ?_⟩)
              | (refine brA_split (fun h => ?_) (fun h => ?_) <;> (try rw [h]) <;> (try simp only [Bool.false_eq_true, Bool.true_eq_false, ↓reduceIte, decide_eq_true_eq, decide_eq_false_iff_not, Bool.not_eq_true', Bool.not_eq_false'] at h) <;> (conv => whnf))
              | (rw [hzi]; conv => whnf)
              | (refine ACalls.pure' ?_ (hs); rintro _ rfl; conv => whnf)
              | (refine DCall.pure ?_ (hs); conv => whnf)
              | (refine ACalls.pure' ?_ (hs); rintro _ rfl; conv => whnf)
              | (refine DCall.pure ?_ (hs); conv => whnf)
              | (refine getB_of (by ((repeat (first | exact set_bx_same | assumption | refine (set_bx_other (by assumption)).trans ?_ | refine grow_bx.trans ?_)); done)) ?_; conv => whnf)
              | (refine getB_same ?_; conv => whnf)
              | (refine AWp.any (by kernel_rfl) (by kernel_rfl) (by kernel_rfl) ?_; conv => whnf)
              | (apply And.intro; (focus (first | omega | rfl | decide | exact Nat.le_of_ble_eq_true rfl | ((repeat' (first | exact all_nil | refine all_cons ?_ ?_ | rfl | fail)); done) | (simp [-List.length_flatMap]; done) | (simp [-List.length_flatMap]; omega) | fail)); conv => whnf)
              | fail)
            all_goals (first | exact ⟨((Sub.refl _).set hb _ _).set hb _ _, rfl⟩ | exact absurd (by assumption) hg)
          · rw [firstA_sign hq hN hg]
            repeat' (first
              | (exfalso; first | omega | exact (by assumption : ¬ True) trivial | fail)
              | (refine ⟨Sub.refl _, ?_⟩)
              | (refine brA_split (fun h => ?_) (fun h => ?_) <;> (try rw [h]) <;> (try simp only [Bool.false_eq_true, Bool.true_eq_false, ↓reduceIte, decide_eq_true_eq, decide_eq_false_iff_not, Bool.not_eq_true', Bool.not_eq_false'] at h) <;> (conv => whnf))
              | (rw [hzi]; conv => whnf)
              | (refine ACalls.pure' ?_ (hs); rintro _ rfl; conv => whnf)
              | (refine DCall.pure ?_ (hs); conv => whnf)
              | (refine ACalls.pure' ?_ (hs); rintro _ rfl; conv => whnf)
              | (refine DCall.pure ?_ (hs); conv => whnf)
              | (refine getB_of (by ((repeat (first | exact set_bx_same | assumption | refine (set_bx_other (by assumption)).trans ?_ | refine grow_bx.trans ?_)); done)) ?_; conv => whnf)
              | (refine getB_same ?_; conv => whnf)
              | (refine AWp.any (by kernel_rfl) (by kernel_rfl) (by kernel_rfl) ?_; conv => whnf)
              | (apply And.intro; (focus (first | omega | rfl | decide | exact Nat.le_of_ble_eq_true rfl | ((repeat' (first | exact all_nil | refine all_cons ?_ ?_ | rfl | fail)); done) | (simp [-List.length_flatMap]; done) | (simp [-List.length_flatMap]; omega) | fail)); conv => whnf)
              | fail)
            all_goals (first | exact ⟨((Sub.refl _).set hb _ _).set hb _ _, rfl⟩ | exact absurd (by assumption) hg)
        · have hle := letters_ok hT (l.take i) (by rw [List.length_take]; omega) (by rw [List.length_take]; omega)
          have hN0 : letN l ≠ 0 := by omega
          rcases hL : lettersF (l.take i) with e | ⟨k, t⟩
          · rw [firstA_bad hq hN0 (by rw [hN]; exact hL), hN]
            rw [hL] at hle
            simp only [resA, tokC, oddA] at hle
            repeat' (first
              | (exfalso; first | omega | exact (by assumption : ¬ True) trivial | fail)
              | (refine ⟨Sub.refl _, ?_⟩)
              | (refine brA_split (fun h => ?_) (fun h => ?_) <;> (try rw [h]) <;> (try simp only [Bool.false_eq_true, Bool.true_eq_false, ↓reduceIte, decide_eq_true_eq, decide_eq_false_iff_not, Bool.not_eq_true', Bool.not_eq_false'] at h) <;> (conv => whnf))
              | (rw [hzi]; conv => whnf)
              | (refine ACalls.pure' ?_ (hs); rintro _ rfl; conv => whnf)
              | (refine DCall.pure ?_ (hs); conv => whnf)
              | (rw [hA]; conv => whnf)
              | (refine ACalls.pure' ?_ (hle); rintro _ rfl; conv => whnf)
              | (refine DCall.pure ?_ (hle); conv => whnf)
              | (refine getB_same ?_; conv => whnf)
              | (refine AWp.any (by kernel_rfl) (by kernel_rfl) (by kernel_rfl) ?_; conv => whnf)
              | (apply And.intro; (focus (first | omega | rfl | decide | exact Nat.le_of_ble_eq_true rfl | ((repeat' (first | exact all_nil | refine all_cons ?_ ?_ | rfl | fail)); done) | (simp [-List.length_flatMap]; done) | (simp [-List.length_flatMap]; omega) | fail)); conv => whnf)
              | fail)
            intro b2 hb2
            have n_b_b2 : b ≠ b2 := ne_of_none (by ((repeat (first | exact set_bx_same | assumption | refine (set_bx_other (by assumption)).trans ?_ | refine grow_bx.trans ?_)); done)) hb2
            have n_b2_b : b2 ≠ b := fun h => n_b_b2 h.symm
            conv => whnf
            repeat' (first
              | (exfalso; first | omega | exact (by assumption : ¬ True) trivial | fail)
              | (refine ⟨Sub.refl _, ?_⟩)
              | (refine brA_split (fun h => ?_) (fun h => ?_) <;> (try rw [h]) <;> (try simp only [Bool.false_eq_true, Bool.true_eq_false, ↓reduceIte, decide_eq_true_eq, decide_eq_false_iff_not, Bool.not_eq_true', Bool.not_eq_false'] at h) <;> (conv => whnf))
              | (refine getB_of (by ((repeat (first | exact set_bx_same | assumption | refine (set_bx_other (by assumption)).trans ?_ | refine grow_bx.trans ?_)); done)) ?_; conv => whnf)
              | (refine getB_same ?_; conv => whnf)
              | (refine AWp.any (by kernel_rfl) (by kernel_rfl) (by kernel_rfl) ?_; conv => whnf)
              | (apply And.intro; (focus (first | omega | rfl | decide | exact Nat.le_of_ble_eq_true rfl | ((repeat' (first | exact all_nil | refine all_cons ?_ ?_ | rfl | fail)); done) | (simp [-List.length_flatMap]; done) | (simp [-List.length_flatMap]; omega) | fail)); conv => whnf)
              | fail)
            exact ⟨((((Sub.refl _).set hb _ _).set (none_set hb2).2 _ _).set (none_set hb2).2 _ _).set hb _ _, rfl⟩
          · rw [firstA_good hq hN0 (by rw [hN]; exact hL), hN]
            rw [hL] at hle
            simp only [resA, tokC] at hle
            repeat' (first
              | (exfalso; first | omega | exact (by assumption : ¬ True) trivial | fail)
              | (refine ⟨Sub.refl _, ?_⟩)
              | (refine brA_split (fun h => ?_) (fun h => ?_) <;> (try rw [h]) <;> (try simp only [Bool.false_eq_true, Bool.true_eq_false, ↓reduceIte, decide_eq_true_eq, decide_eq_false_iff_not, Bool.not_eq_true', Bool.not_eq_false'] at h) <;> (conv => whnf))
              | (rw [hzi]; conv => whnf)
              | (refine ACalls.pure' ?_ (hs); rintro _ rfl; conv => whnf)
              | (refine DCall.pure ?_ (hs); conv => whnf)
              | (rw [hA]; conv => whnf)
              | (refine ACalls.pure' ?_ (hle); rintro _ rfl; conv => whnf)
              | (refine DCall.pure ?_ (hle); conv => whnf)
              | (refine getB_same ?_; conv => whnf)
              | (refine AWp.any (by kernel_rfl) (by kernel_rfl) (by kernel_rfl) ?_; conv => whnf)
              | (apply And.intro; (focus (first | omega | rfl | decide | exact Nat.le_of_ble_eq_true rfl | ((repeat' (first | exact all_nil | refine all_cons ?_ ?_ | rfl | fail)); done) | (simp [-List.length_flatMap]; done) | (simp [-List.length_flatMap]; omega) | fail)); conv => whnf)
              | fail)
            intro b2 hb2
            have n_b_b2 : b ≠ b2 := ne_of_none (by ((repeat (first | exact set_bx_same | assumption | refine (set_bx_other (by assumption)).trans ?_ | refine grow_bx.trans ?_)); done)) hb2
            have n_b2_b : b2 ≠ b := fun h => n_b_b2 h.symm
            conv => whnf
            repeat' (first
              | (exfalso; first | omega | exact (by assumption : ¬ True) trivial | fail)
              | (refine ⟨Sub.refl _, ?_⟩)
              | (refine brA_split (fun h => ?_) (fun h => ?_) <;> (try rw [h]) <;> (try simp only [Bool.false_eq_true, Bool.true_eq_false, ↓reduceIte, decide_eq_true_eq, decide_eq_false_iff_not, Bool.not_eq_true', Bool.not_eq_false'] at h) <;> (conv => whnf))
              | (refine getB_of (by ((repeat (first | exact set_bx_same | assumption | refine (set_bx_other (by assumption)).trans ?_ | refine grow_bx.trans ?_)); done)) ?_; conv => whnf)
              | (refine getB_same ?_; conv => whnf)
              | (refine AWp.any (by kernel_rfl) (by kernel_rfl) (by kernel_rfl) ?_; conv => whnf)
              | (apply And.intro; (focus (first | omega | rfl | decide | exact Nat.le_of_ble_eq_true rfl | ((repeat' (first | exact all_nil | refine all_cons ?_ ?_ | rfl | fail)); done) | (simp [-List.length_flatMap]; done) | (simp [-List.length_flatMap]; omega) | fail)); conv => whnf)
              | fail)
            exact ⟨((((Sub.refl _).set hb _ _).set (none_set hb2).2 _ _).set (none_set hb2).2 _ _).set hb _ _, rfl⟩
/-- The same, by the document. -/
def refFirstA (l : List UInt8) : AV :=
  match firstF l with
  | .ok (k, t, n) => .tuple [tokC k t, .int .i64 n, .int .i64 0]
  | .error e => .tuple [tokC 0 [], .int .i64 0, .int .i64 e]
theorem digit_step {l : List UInt8} {i : Nat} (h : i < l.length) : (l.take (i + 1)).all digB = ((l.take i).all digB && digB (byteAt l i)) := by rw [take_byte h]; simp
theorem isName_of {l : List UInt8} (h : spelt l = true) : (isName l || decide (l = [95])) = !isWord l := by
  unfold isName isWord
  rw [h]
  by_cases h95 : l = [95]
  · subst h95; decide
  · simp [h95]
theorem letN_all : ∀ l : List UInt8, (l.take (letN l)).all (fun c => wordc c.toNat) = true
  | [] => rfl
  | c :: r => by
    unfold letN
    split
    · rename_i h
      rw [List.take_succ_cons, List.all_cons, h, letN_all r]; rfl
    · rfl
theorem byte0_take {l : List UInt8} {i : Nat} (h : 0 < i) (h0 : 0 < l.length) : byteAt (l.take i) 0 = byteAt l 0 := by
  obtain ⟨c, r, rfl⟩ := List.exists_cons_of_length_pos h0
  obtain ⟨k, rfl⟩ : ∃ k, i = k + 1 := ⟨i - 1, by omega⟩
  rfl
theorem refFirstA_sign0 {l : List UInt8} (h : byteAt l 0 ≠ 34) (h0 : letN l = 0) (hg : signOf l = []) : refFirstA l = .tuple [tokC 0 [], .int .i64 0, .int .i64 15] := by
  unfold refFirstA firstF
  rw [if_neg h, if_pos h0, if_pos hg]
theorem refFirstA_sign {l : List UInt8} (h : byteAt l 0 ≠ 34) (h0 : letN l = 0) (hg : signOf l ≠ []) : refFirstA l = .tuple [tokC 5 (signOf l), .int .i64 (signOf l).length, .int .i64 0] := by
  unfold refFirstA firstF
  rw [if_neg h, if_pos h0, if_neg hg]
theorem refFirstA_bad {l : List UInt8} {e : Int} (h : byteAt l 0 ≠ 34) (h0 : letN l ≠ 0) (he : lettersF (l.take (letN l)) = .error e) : refFirstA l = .tuple [tokC 0 [], .int .i64 0, .int .i64 e] := by
  unfold refFirstA firstF
  rw [if_neg h, if_neg h0, he]
theorem refFirstA_good {l : List UInt8} {k : Int} {t : List UInt8} (h : byteAt l 0 ≠ 34) (h0 : letN l ≠ 0) (he : lettersF (l.take (letN l)) = .ok (k, t)) : refFirstA l = .tuple [tokC k t, .int .i64 (letN l), .int .i64 0] := by
  unfold refFirstA firstF
  rw [if_neg h, if_neg h0, he]
theorem not_num {t : List UInt8} (h : t.all digB = true) (hn : ¬ (byteAt t 0 = 48 ∧ 1 < t.length)) : ¬ (t.all digB = false ∨ (byteAt t 0 = 48 ∧ 1 < t.length)) := fun hh => hh.elim (fun ha => by rw [h] at ha; cases ha) hn
theorem lettersF_num {t : List UInt8} {e : Int} (h : digB (byteAt t 0) = true) (he : numE t = e) (h0 : e ≠ 0) : lettersF t = .error e := by rw [lettersF, if_pos h, he, if_neg h0]
theorem lettersF_num0 {t : List UInt8} (h : digB (byteAt t 0) = true) (he : numE t = 0) : lettersF t = .ok (3, t) := by rw [lettersF, if_pos h, if_pos he]
theorem refFirst_ok (l : List UInt8) (h0 : 0 < l.length) (hl : l.length ≤ 1048576) : APure Tryd.prog Γ 13 [.str l] fun v => v = refFirstA l := by
  have hz : byteAt l (0 : Int).toNat = byteAt l 0 := rfl
  have h34 := b34 (b := byteAt l 0)
  by_cases hq : byteAt l 0 = 34
  · have hq' := h34.2 hq
    rcases hc : Qu.cut l with _ | ⟨t, k⟩
    · have hqq := Qu.refCut_none (Γ := Γ) l hl hc
      have hf : refFirstA l = .tuple [tokC 0 [], .int .i64 0, .int .i64 17] := by unfold refFirstA firstF; rw [if_pos hq, hc]
      rw [hf]
      refine APure.of_awp Tryd.func13 rfl (Nat.le_of_ble_eq_true (by kernel_rfl)) (by kernel_rfl) ?_
      intro s
      conv => whnf
      intro b hb
      conv => whnf
      repeat' (first
        | (exfalso; first | omega | exact (by assumption : ¬ True) trivial | fail)
        | (refine ⟨Sub.refl _, ?_⟩)
        | (refine brA_split (fun h => ?_) (fun h => ?_) <;> (try rw [h]) <;> (try simp only [Bool.false_eq_true, Bool.true_eq_false, ↓reduceIte, decide_eq_true_eq, decide_eq_false_iff_not, Bool.not_eq_true', Bool.not_eq_false'] at h) <;> (conv => whnf))
        | (refine getB_of (by ((repeat (first | exact set_bx_same | assumption | refine (set_bx_other (by assumption)).trans ?_ | refine grow_bx.trans ?_)); done)) ?_; conv => whnf)
        | (refine ACalls.pure' ?_ (hqq); rintro _ rfl; conv => whnf)
        | (refine DCall.pure ?_ (hqq); conv => whnf)
        | (rw [hz]; conv => whnf)
        | (refine getB_same ?_; conv => whnf)
        | (refine AWp.any (by kernel_rfl) (by kernel_rfl) (by kernel_rfl) ?_; conv => whnf)
        | (apply And.intro; (focus (first | omega | rfl | decide | exact Nat.le_of_ble_eq_true rfl | ((repeat' (first | exact all_nil | refine all_cons ?_ ?_ | rfl | fail)); done) | (simp [-List.length_flatMap]; done) | (simp [-List.length_flatMap]; omega) | fail)); conv => whnf)
        | fail)
      exact ⟨((Sub.refl _).set hb _ _).set hb _ _, rfl⟩
    · have hqq := Qu.refCut_some (Γ := Γ) l hl hc
      have hk := (Qu.cut_back hc).1
      by_cases ht : 4096 < t.length
      · have hf : refFirstA l = .tuple [tokC 0 [], .int .i64 0, .int .i64 3] := by unfold refFirstA firstF; rw [if_pos hq, hc]; simp only [if_pos ht]
        rw [hf]
        refine APure.of_awp Tryd.func13 rfl (Nat.le_of_ble_eq_true (by kernel_rfl)) (by kernel_rfl) ?_
        intro s
        conv => whnf
        intro b hb
        conv => whnf
        repeat' (first
          | (exfalso; first | omega | exact (by assumption : ¬ True) trivial | fail)
          | (refine ⟨Sub.refl _, ?_⟩)
          | (refine brA_split (fun h => ?_) (fun h => ?_) <;> (try rw [h]) <;> (try simp only [Bool.false_eq_true, Bool.true_eq_false, ↓reduceIte, decide_eq_true_eq, decide_eq_false_iff_not, Bool.not_eq_true', Bool.not_eq_false'] at h) <;> (conv => whnf))
          | (refine getB_of (by ((repeat (first | exact set_bx_same | assumption | refine (set_bx_other (by assumption)).trans ?_ | refine grow_bx.trans ?_)); done)) ?_; conv => whnf)
          | (refine ACalls.pure' ?_ (hqq); rintro _ rfl; conv => whnf)
          | (refine DCall.pure ?_ (hqq); conv => whnf)
          | (rw [hz]; conv => whnf)
          | (refine getB_same ?_; conv => whnf)
          | (refine AWp.any (by kernel_rfl) (by kernel_rfl) (by kernel_rfl) ?_; conv => whnf)
          | (apply And.intro; (focus (first | omega | rfl | decide | exact Nat.le_of_ble_eq_true rfl | ((repeat' (first | exact all_nil | refine all_cons ?_ ?_ | rfl | fail)); done) | (simp [-List.length_flatMap]; done) | (simp [-List.length_flatMap]; omega) | fail)); conv => whnf)
          | fail)
        exact ⟨((Sub.refl _).set hb _ _).set hb _ _, rfl⟩
      · have hf : refFirstA l = .tuple [tokC 4 t, .int .i64 k, .int .i64 0] := by unfold refFirstA firstF; rw [if_pos hq, hc]; simp only [if_neg ht]
        rw [hf]
        refine APure.of_awp Tryd.func13 rfl (Nat.le_of_ble_eq_true (by kernel_rfl)) (by kernel_rfl) ?_
        intro s
        conv => whnf
        intro b hb
        conv => whnf
        repeat' (first
          | (exfalso; first | omega | exact (by assumption : ¬ True) trivial | fail)
          | (refine ⟨Sub.refl _, ?_⟩)
          | (refine brA_split (fun h => ?_) (fun h => ?_) <;> (try rw [h]) <;> (try simp only [Bool.false_eq_true, Bool.true_eq_false, ↓reduceIte, decide_eq_true_eq, decide_eq_false_iff_not, Bool.not_eq_true', Bool.not_eq_false'] at h) <;> (conv => whnf))
          | (refine getB_of (by ((repeat (first | exact set_bx_same | assumption | refine (set_bx_other (by assumption)).trans ?_ | refine grow_bx.trans ?_)); done)) ?_; conv => whnf)
          | (refine ACalls.pure' ?_ (hqq); rintro _ rfl; conv => whnf)
          | (refine DCall.pure ?_ (hqq); conv => whnf)
          | (rw [hz]; conv => whnf)
          | (refine getB_same ?_; conv => whnf)
          | (refine AWp.any (by kernel_rfl) (by kernel_rfl) (by kernel_rfl) ?_; conv => whnf)
          | (apply And.intro; (focus (first | omega | rfl | decide | exact Nat.le_of_ble_eq_true rfl | ((repeat' (first | exact all_nil | refine all_cons ?_ ?_ | rfl | fail)); done) | (simp [-List.length_flatMap]; done) | (simp [-List.length_flatMap]; omega) | fail)); conv => whnf)
          | fail)
        exact ⟨((Sub.refl _).set hb _ _).set hb _ _, rfl⟩
  · have hq' : ¬ ((byteAt l 0).toNat : Int) = 34 := fun h => hq (h34.1 h)
    have hs := refSign_ok (Γ := Γ) l
    have hlt := letN_le l
    have hall := letN_all l
    have hd0 := refDigit_ok (Γ := Γ) ((byteAt l 0).toNat : Int)
    refine APure.of_awp Tryd.func13 rfl (Nat.le_of_ble_eq_true (by kernel_rfl)) (by kernel_rfl) ?_
    intro s
    conv => whnf
    intro b hb
    conv => whnf
    repeat' (first
      | (exfalso; first | omega | exact (by assumption : ¬ True) trivial | fail)
      | (refine ⟨Sub.refl _, ?_⟩)
      | (refine brA_split (fun h => ?_) (fun h => ?_) <;> (try rw [h]) <;> (try simp only [Bool.false_eq_true, Bool.true_eq_false, ↓reduceIte, decide_eq_true_eq, decide_eq_false_iff_not, Bool.not_eq_true', Bool.not_eq_false'] at h) <;> (conv => whnf))
      | (refine getB_of (by ((repeat (first | exact set_bx_same | assumption | refine (set_bx_other (by assumption)).trans ?_ | refine grow_bx.trans ?_)); done)) ?_; conv => whnf)
      | (rw [hz]; conv => whnf)
      | (refine getB_same ?_; conv => whnf)
      | (refine AWp.any (by kernel_rfl) (by kernel_rfl) (by kernel_rfl) ?_; conv => whnf)
      | (apply And.intro; (focus (first | omega | rfl | decide | exact Nat.le_of_ble_eq_true rfl | ((repeat' (first | exact all_nil | refine all_cons ?_ ?_ | rfl | fail)); done) | (simp [-List.length_flatMap]; done) | (simp [-List.length_flatMap]; omega) | fail)); conv => whnf)
      | fail)
    refine AWp.loopA [7] [29, 30, 31, 32, 33, 34, 35, 36, 37, 38, 39, 40] (fun i : Nat => [.int .i64 i]) (fun i s' => i ≤ l.length ∧ s' = s.set b 33 [.int .i64 0, .str [], .int .i64 0, .int .i64 0] ∧ letN l = i + letN (l.drop i)) (fun i => l.length - i) (0) (by kernel_rfl) (by (repeat' (first | refine cons_eq ?_ ?_ | refine int64_of ?_ ?_ ?_ | rfl | omega))) ?_ ?_
    · exact ⟨by omega, rfl, by rw [List.drop_zero]; simp⟩
    · rintro x i _ ⟨i1, rfl, i2⟩
      show awp _ _ _ _ _ (updL _ _ [.int .i64 (i : Int)]) _
      conv => whnf
      have hA : List.drop 0 (List.take ((i : Int)).toNat l) = l.take i := by rw [Int.toNat_natCast, List.drop_zero]
      have hzi : byteAt l ((i : Int)).toNat = byteAt l i := rfl
      by_cases hlt : i < l.length
      · have hat := letN_at hlt
        have hpl := refLetter_ok (Γ := Γ) ((byteAt l i).toNat : Int)
        by_cases hw : wordc (byteAt l i).toNat = true
        · rw [if_pos hw] at hat
          rw [hw] at hpl
          repeat' (first
            | (exfalso; first | omega | exact (by assumption : ¬ True) trivial | fail)
            | (refine ⟨Sub.refl _, ?_⟩)
            | (refine brA_split (fun h => ?_) (fun h => ?_) <;> (try rw [h]) <;> (try simp only [Bool.false_eq_true, Bool.true_eq_false, ↓reduceIte, decide_eq_true_eq, decide_eq_false_iff_not, Bool.not_eq_true', Bool.not_eq_false'] at h) <;> (conv => whnf))
            | (rw [hzi]; conv => whnf)
            | (refine ACalls.pure' ?_ (hpl); rintro _ rfl; conv => whnf)
            | (refine DCall.pure ?_ (hpl); conv => whnf)
            | (refine getB_same ?_; conv => whnf)
            | (refine AWp.any (by kernel_rfl) (by kernel_rfl) (by kernel_rfl) ?_; conv => whnf)
            | (apply And.intro; (focus (first | omega | rfl | decide | exact Nat.le_of_ble_eq_true rfl | ((repeat' (first | exact all_nil | refine all_cons ?_ ?_ | rfl | fail)); done) | (simp [-List.length_flatMap]; done) | (simp [-List.length_flatMap]; omega) | fail)); conv => whnf)
            | fail)
          refine ⟨i + 1, by (repeat' (first | refine cons_eq ?_ ?_ | refine int64_of ?_ ?_ ?_ | rfl | omega)), by (repeat (first | exact Same.refl _ _ | refine Same.upd rfl ?_ | refine Same.updL rfl ?_ | refine Same.havoc rfl ?_)), ⟨by omega, by first | rfl | trivial, by omega⟩, by omega⟩
        · rw [if_neg hw] at hat
          rw [Bool.eq_false_iff.2 hw] at hpl
          have hN : letN l = i := by omega
          rw [hN] at hall
          by_cases hi0 : i = 0
          · subst hi0
            by_cases hg : signOf l = []
            · rw [refFirstA_sign0 hq hN hg]
              rw [hg] at hs
              repeat' (first
                | (exfalso; first | omega | exact (by assumption : ¬ True) trivial | fail)
                | (refine ⟨Sub.refl _, ?_⟩)
                | (refine brA_split (fun h => ?_) (fun h => ?_) <;> (try rw [h]) <;> (try simp only [Bool.false_eq_true, Bool.true_eq_false, ↓reduceIte, decide_eq_true_eq, decide_eq_false_iff_not, Bool.not_eq_true', Bool.not_eq_false'] at h) <;> (conv => whnf))
                | (rw [hzi]; conv => whnf)
                | (refine ACalls.pure' ?_ (hpl); rintro _ rfl; conv => whnf)
                | (refine DCall.pure ?_ (hpl); conv => whnf)
                | (refine ACalls.pure' ?_ (hs); rintro _ rfl; conv => whnf)
                | (refine DCall.pure ?_ (hs); conv => whnf)
                | (refine getB_of (by ((repeat (first | exact set_bx_same | assumption | refine (set_bx_other (by assumption)).trans ?_ | refine grow_bx.trans ?_)); done)) ?_; conv => whnf)
                | (refine getB_same ?_; conv => whnf)
                | (refine AWp.any (by kernel_rfl) (by kernel_rfl) (by kernel_rfl) ?_; conv => whnf)
                | (apply And.intro; (focus (first | omega | rfl | decide | exact Nat.le_of_ble_eq_true rfl | ((repeat' (first | exact all_nil | refine all_cons ?_ ?_ | rfl | fail)); done) | (simp [-List.length_flatMap]; done) | (simp [-List.length_flatMap]; omega) | fail)); conv => whnf)
                | fail)
              all_goals (first | exact ⟨((Sub.refl _).set hb _ _).set hb _ _, rfl⟩ | exact absurd (by assumption) hg)
            · rw [refFirstA_sign hq hN hg]
              repeat' (first
                | (exfalso; first | omega | exact (by assumption : ¬ True) trivial | fail)
                | (refine ⟨Sub.refl _, ?_⟩)
                | (refine brA_split (fun h => ?_) (fun h => ?_) <;> (try rw [h]) <;> (try simp only [Bool.false_eq_true, Bool.true_eq_false, ↓reduceIte, decide_eq_true_eq, decide_eq_false_iff_not, Bool.not_eq_true', Bool.not_eq_false'] at h) <;> (conv => whnf))
                | (rw [hzi]; conv => whnf)
                | (refine ACalls.pure' ?_ (hpl); rintro _ rfl; conv => whnf)
                | (refine DCall.pure ?_ (hpl); conv => whnf)
                | (refine ACalls.pure' ?_ (hs); rintro _ rfl; conv => whnf)
                | (refine DCall.pure ?_ (hs); conv => whnf)
                | (refine getB_of (by ((repeat (first | exact set_bx_same | assumption | refine (set_bx_other (by assumption)).trans ?_ | refine grow_bx.trans ?_)); done)) ?_; conv => whnf)
                | (refine getB_same ?_; conv => whnf)
                | (refine AWp.any (by kernel_rfl) (by kernel_rfl) (by kernel_rfl) ?_; conv => whnf)
                | (apply And.intro; (focus (first | omega | rfl | decide | exact Nat.le_of_ble_eq_true rfl | ((repeat' (first | exact all_nil | refine all_cons ?_ ?_ | rfl | fail)); done) | (simp [-List.length_flatMap]; done) | (simp [-List.length_flatMap]; omega) | fail)); conv => whnf)
                | fail)
              all_goals (first | exact ⟨((Sub.refl _).set hb _ _).set hb _ _, rfl⟩ | exact absurd (by assumption) hg)
          · have hN0 : letN l ≠ 0 := by omega
            have hb0 := byte0_take (i := i) (by omega) h0
            have hln : (l.take i).length = i := by rw [List.length_take]; omega
            by_cases hdd : digB (byteAt l 0) = true
            · have hl0 : digB (byteAt (l.take i) 0) = true := by rw [hb0]; exact hdd
              have h48 := b48 (b := byteAt l 0)
              rw [show digitc ((byteAt l 0).toNat : Int) = true from hdd] at hd0
              repeat' (first
                | (exfalso; first | omega | exact (by assumption : ¬ True) trivial | fail)
                | (refine ⟨Sub.refl _, ?_⟩)
                | (refine brA_split (fun h => ?_) (fun h => ?_) <;> (try rw [h]) <;> (try simp only [Bool.false_eq_true, Bool.true_eq_false, ↓reduceIte, decide_eq_true_eq, decide_eq_false_iff_not, Bool.not_eq_true', Bool.not_eq_false'] at h) <;> (conv => whnf))
                | (rw [hzi]; conv => whnf)
                | (refine ACalls.pure' ?_ (hpl); rintro _ rfl; conv => whnf)
                | (refine DCall.pure ?_ (hpl); conv => whnf)
                | (rw [hA]; conv => whnf)
                | (rw [hz]; conv => whnf)
                | (refine ACalls.pure' ?_ (hd0); rintro _ rfl; conv => whnf)
                | (refine DCall.pure ?_ (hd0); conv => whnf)
                | (refine getB_of (by ((repeat (first | exact set_bx_same | assumption | refine (set_bx_other (by assumption)).trans ?_ | refine grow_bx.trans ?_)); done)) ?_; conv => whnf)
                | (refine getB_same ?_; conv => whnf)
                | (refine AWp.any (by kernel_rfl) (by kernel_rfl) (by kernel_rfl) ?_; conv => whnf)
                | (apply And.intro; (focus (first | omega | rfl | decide | exact Nat.le_of_ble_eq_true rfl | ((repeat' (first | exact all_nil | refine all_cons ?_ ?_ | rfl | fail)); done) | (simp [-List.length_flatMap]; done) | (simp [-List.length_flatMap]; omega) | fail)); conv => whnf)
                | fail)
              refine AWp.loopA [10] [58, 59, 60, 63, 64, 65, 66, 67, 68, 3, 4, 61, 62] (fun j : Nat => [.int .i64 j]) (fun j s' => j ≤ i ∧ s' = s.set b 33 [.int .i64 0, .str [], .int .i64 0, .int .i64 0] ∧ (l.take j).all digB = true) (fun j => i - j) (0) (by kernel_rfl) (by (repeat' (first | refine cons_eq ?_ ?_ | refine int64_of ?_ ?_ ?_ | rfl | omega))) ?_ ?_
              · exact ⟨by omega, rfl, rfl⟩
              · rintro y j _ ⟨j1, rfl, j2⟩
                show awp _ _ _ _ _ (updL _ _ [.int .i64 (j : Int)]) _
                conv => whnf
                have hzj : byteAt l ((j : Int)).toNat = byteAt l j := rfl
                by_cases hji : j < i
                · have hjl : j < l.length := by have := letN_le l; omega
                  have hst := digit_step hjl
                  have hdj := refDigit_ok (Γ := Γ) ((byteAt l j).toNat : Int)
                  by_cases hjd : digB (byteAt l j) = true
                  · rw [show digitc ((byteAt l j).toNat : Int) = true from hjd] at hdj
                    repeat' (first
                      | (exfalso; first | omega | exact (by assumption : ¬ True) trivial | fail)
                      | (refine ⟨Sub.refl _, ?_⟩)
                      | (refine brA_split (fun h => ?_) (fun h => ?_) <;> (try rw [h]) <;> (try simp only [Bool.false_eq_true, Bool.true_eq_false, ↓reduceIte, decide_eq_true_eq, decide_eq_false_iff_not, Bool.not_eq_true', Bool.not_eq_false'] at h) <;> (conv => whnf))
                      | (rw [hzj]; conv => whnf)
                      | (refine ACalls.pure' ?_ (hdj); rintro _ rfl; conv => whnf)
                      | (refine DCall.pure ?_ (hdj); conv => whnf)
                      | (refine getB_same ?_; conv => whnf)
                      | (refine AWp.any (by kernel_rfl) (by kernel_rfl) (by kernel_rfl) ?_; conv => whnf)
                      | (apply And.intro; (focus (first | omega | rfl | decide | exact Nat.le_of_ble_eq_true rfl | ((repeat' (first | exact all_nil | refine all_cons ?_ ?_ | rfl | fail)); done) | (simp [-List.length_flatMap]; done) | (simp [-List.length_flatMap]; omega) | fail)); conv => whnf)
                      | fail)
                    exact ⟨j + 1, by (repeat' (first | refine cons_eq ?_ ?_ | refine int64_of ?_ ?_ ?_ | rfl | omega)), by (repeat (first | exact Same.refl _ _ | refine Same.upd rfl ?_ | refine Same.updL rfl ?_ | refine Same.havoc rfl ?_)), ⟨by omega, by first | rfl | trivial, by rw [hst, j2, hjd]; rfl⟩, by omega⟩
                  · rw [show digitc ((byteAt l j).toNat : Int) = false from Bool.eq_false_iff.2 hjd] at hdj
                    have hall0 : (l.take i).all digB = false := by
                      rw [Bool.eq_false_iff]
                      intro hh
                      refine hjd (List.all_eq_true.1 hh _ ?_)
                      rw [List.mem_take_iff_getElem]
                      refine ⟨j, by omega, ?_⟩
                      simp [byteAt, hjl]
                    rw [refFirstA_bad hq hN0 (e := 4) (by rw [hN]; exact lettersF_num hl0 (if_pos (.inl hall0)) (by decide))]
                    repeat' (first
                      | (exfalso; first | omega | exact (by assumption : ¬ True) trivial | fail)
                      | (refine ⟨Sub.refl _, ?_⟩)
                      | (refine brA_split (fun h => ?_) (fun h => ?_) <;> (try rw [h]) <;> (try simp only [Bool.false_eq_true, Bool.true_eq_false, ↓reduceIte, decide_eq_true_eq, decide_eq_false_iff_not, Bool.not_eq_true', Bool.not_eq_false'] at h) <;> (conv => whnf))
                      | (rw [hzj]; conv => whnf)
                      | (refine ACalls.pure' ?_ (hdj); rintro _ rfl; conv => whnf)
                      | (refine DCall.pure ?_ (hdj); conv => whnf)
                      | (refine getB_of (by ((repeat (first | exact set_bx_same | assumption | refine (set_bx_other (by assumption)).trans ?_ | refine grow_bx.trans ?_)); done)) ?_; conv => whnf)
                      | (refine getB_same ?_; conv => whnf)
                      | (refine AWp.any (by kernel_rfl) (by kernel_rfl) (by kernel_rfl) ?_; conv => whnf)
                      | (apply And.intro; (focus (first | omega | rfl | decide | exact Nat.le_of_ble_eq_true rfl | ((repeat' (first | exact all_nil | refine all_cons ?_ ?_ | rfl | fail)); done) | (simp [-List.length_flatMap]; done) | (simp [-List.length_flatMap]; omega) | fail)); conv => whnf)
                      | fail)
                    exact ⟨((Sub.refl _).set hb _ _).set hb _ _, rfl⟩
                · obtain rfl : j = i := by omega
                  repeat' (first
                    | (exfalso; first | omega | exact (by assumption : ¬ True) trivial | fail)
                    | (refine ⟨Sub.refl _, ?_⟩)
                    | (refine brA_split (fun h => ?_) (fun h => ?_) <;> (try rw [h]) <;> (try simp only [Bool.false_eq_true, Bool.true_eq_false, ↓reduceIte, decide_eq_true_eq, decide_eq_false_iff_not, Bool.not_eq_true', Bool.not_eq_false'] at h) <;> (conv => whnf))
                    | (rw [hzi]; conv => whnf)
                    | (rw [hz]; conv => whnf)
                    | (refine getB_of (by ((repeat (first | exact set_bx_same | assumption | refine (set_bx_other (by assumption)).trans ?_ | refine grow_bx.trans ?_)); done)) ?_; conv => whnf)
                    | (refine getB_same ?_; conv => whnf)
                    | (refine AWp.any (by kernel_rfl) (by kernel_rfl) (by kernel_rfl) ?_; conv => whnf)
                    | (apply And.intro; (focus (first | omega | rfl | decide | exact Nat.le_of_ble_eq_true rfl | ((repeat' (first | exact all_nil | refine all_cons ?_ ?_ | rfl | fail)); done) | (simp [-List.length_flatMap]; done) | (simp [-List.length_flatMap]; omega) | fail)); conv => whnf)
                    | fail)
                  all_goals refine ⟨((Sub.refl _).set hb _ _).set hb _ _, ?_⟩
                  · rw [refFirstA_bad hq hN0 (e := 4) (by rw [hN]; exact lettersF_num hl0 (if_pos (.inr ⟨by rw [hb0]; exact h48.1 (by assumption), by omega⟩)) (by decide))]; rfl
                  · rw [refFirstA_bad hq hN0 (e := 3) (by rw [hN]; exact lettersF_num hl0 (by rw [numE, if_neg (not_num j2 (fun hh => by rw [hb0] at hh; have := h48.2 hh.1; omega)), if_pos (by omega)]) (by decide))]; rfl
                  · rw [refFirstA_good hq hN0 (k := 3) (t := l.take j) (by rw [hN]; exact lettersF_num0 hl0 (by rw [numE, if_neg (not_num j2 (fun hh => by rw [hb0] at hh; have := h48.2 hh.1; omega)), if_neg (by omega)])), hN]; rfl
                  · rw [refFirstA_good hq hN0 (k := 3) (t := l.take j) (by rw [hN]; exact lettersF_num0 hl0 (by rw [numE, if_neg (not_num j2 (fun hh => by omega)), if_neg (by omega)])), hN]; rfl
            · have hl0 : ¬ digB (byteAt (l.take i) 0) = true := by rw [hb0]; exact hdd
              have hsp : i ≤ 32 → spelt (l.take i) = true := fun h32 => by
                rw [spelt_else (by omega) (by omega) (by rw [hb0]; unfold digB digitc at hdd; simpa using hdd)]
                exact hall
              rw [show digitc ((byteAt l 0).toNat : Int) = false from Bool.eq_false_iff.2 hdd] at hd0
              repeat' (first
                | (exfalso; first | omega | exact (by assumption : ¬ True) trivial | fail)
                | (refine ⟨Sub.refl _, ?_⟩)
                | (refine brA_split (fun h => ?_) (fun h => ?_) <;> (try rw [h]) <;> (try simp only [Bool.false_eq_true, Bool.true_eq_false, ↓reduceIte, decide_eq_true_eq, decide_eq_false_iff_not, Bool.not_eq_true', Bool.not_eq_false'] at h) <;> (conv => whnf))
                | (rw [hzi]; conv => whnf)
                | (refine ACalls.pure' ?_ (hpl); rintro _ rfl; conv => whnf)
                | (refine DCall.pure ?_ (hpl); conv => whnf)
                | (rw [hA]; conv => whnf)
                | (rw [hz]; conv => whnf)
                | (refine ACalls.pure' ?_ (hd0); rintro _ rfl; conv => whnf)
                | (refine DCall.pure ?_ (hd0); conv => whnf)
                | (refine ACalls.pure' ?_ (refName_ok _); rintro _ rfl; conv => whnf)
                | (refine DCall.pure ?_ (refName_ok _); conv => whnf)
                | (refine getB_of (by ((repeat (first | exact set_bx_same | assumption | refine (set_bx_other (by assumption)).trans ?_ | refine grow_bx.trans ?_)); done)) ?_; conv => whnf)
                | (refine getB_same ?_; conv => whnf)
                | (refine AWp.any (by kernel_rfl) (by kernel_rfl) (by kernel_rfl) ?_; conv => whnf)
                | (apply And.intro; (focus (first | omega | rfl | decide | exact Nat.le_of_ble_eq_true rfl | ((repeat' (first | exact all_nil | refine all_cons ?_ ?_ | rfl | fail)); done) | (simp [-List.length_flatMap]; done) | (simp [-List.length_flatMap]; omega) | fail)); conv => whnf)
                | fail)
              all_goals refine ⟨((Sub.refl _).set hb _ _).set hb _ _, ?_⟩
              · rw [refFirstA_bad hq hN0 (e := 3) (by rw [hN, lettersF, if_neg hl0, if_pos (by omega)])]; rfl
              · have hw := isName_of (hsp (by omega))
                rw [refFirstA_good hq hN0 (k := 1) (t := l.take i) (by rw [hN, lettersF, if_neg hl0, if_neg (by omega), if_neg (by simp_all)]), hN]; rfl
              · have hw := isName_of (hsp (by omega))
                rw [refFirstA_good hq hN0 (k := 1) (t := l.take i) (by rw [hN, lettersF, if_neg hl0, if_neg (by omega), if_neg (by simp_all)]), hN]; rfl
              · have hw := isName_of (hsp (by omega))
                rw [refFirstA_good hq hN0 (k := 2) (t := l.take i) (by rw [hN, lettersF, if_neg hl0, if_neg (by omega), if_pos (by simp_all)]), hN]; rfl
      · have hN : letN l = i := by rw [drop_end hlt] at i2; exact i2
        rw [hN] at hall
        by_cases hi0 : i = 0
        · subst hi0
          by_cases hg : signOf l = []
          · rw [refFirstA_sign0 hq hN hg]
            rw [hg] at hs
            repeat' (first
              | (exfalso; first | omega | exact (by assumption : ¬ True) trivial | fail)
              | (refine ⟨Sub.refl _, ?_⟩)
              | (refine brA_split (fun h => ?_) (fun h => ?_) <;> (try rw [h]) <;> (try simp only [Bool.false_eq_true, Bool.true_eq_false, ↓reduceIte, decide_eq_true_eq, decide_eq_false_iff_not, Bool.not_eq_true', Bool.not_eq_false'] at h) <;> (conv => whnf))
              | (rw [hzi]; conv => whnf)
              | (refine ACalls.pure' ?_ (hs); rintro _ rfl; conv => whnf)
              | (refine DCall.pure ?_ (hs); conv => whnf)
              | (refine ACalls.pure' ?_ (hs); rintro _ rfl; conv => whnf)
              | (refine DCall.pure ?_ (hs); conv => whnf)
              | (refine getB_of (by ((repeat (first | exact set_bx_same | assumption | refine (set_bx_other (by assumption)).trans ?_ | refine grow_bx.trans ?_)); done)) ?_; conv => whnf)
              | (refine getB_same ?_; conv => whnf)
              | (refine AWp.any (by kernel_rfl) (by kernel_rfl) (by kernel_rfl) ?_; conv => whnf)
              | (apply And.intro; (focus (first | omega | rfl | decide | exact Nat.le_of_ble_eq_true rfl | ((repeat' (first | exact all_nil | refine all_cons ?_ ?_ | rfl | fail)); done) | (simp [-List.length_flatMap]; done) | (simp [-List.length_flatMap]; omega) | fail)); conv => whnf)
              | fail)
            all_goals (first | exact ⟨((Sub.refl _).set hb _ _).set hb _ _, rfl⟩ | exact absurd (by assumption) hg)
          · rw [refFirstA_sign hq hN hg]
            repeat' (first
              | (exfalso; first | omega | exact (by assumption : ¬ True) trivial | fail)
              | (refine ⟨Sub.refl _, ?_⟩)
              | (refine brA_split (fun h => ?_) (fun h => ?_) <;> (try rw [h]) <;> (try simp only [Bool.false_eq_true, Bool.true_eq_false, ↓reduceIte, decide_eq_true_eq, decide_eq_false_iff_not, Bool.not_eq_true', Bool.not_eq_false'] at h) <;> (conv => whnf))
              | (rw [hzi]; conv => whnf)
              | (refine ACalls.pure' ?_ (hs); rintro _ rfl; conv => whnf)
              | (refine DCall.pure ?_ (hs); conv => whnf)
              | (refine ACalls.pure' ?_ (hs); rintro _ rfl; conv => whnf)
              | (refine DCall.pure ?_ (hs); conv => whnf)
              | (refine getB_of (by ((repeat (first | exact set_bx_same | assumption | refine (set_bx_other (by assumption)).trans ?_ | refine grow_bx.trans ?_)); done)) ?_; conv => whnf)
              | (refine getB_same ?_; conv => whnf)
              | (refine AWp.any (by kernel_rfl) (by kernel_rfl) (by kernel_rfl) ?_; conv => whnf)
              | (apply And.intro; (focus (first | omega | rfl | decide | exact Nat.le_of_ble_eq_true rfl | ((repeat' (first | exact all_nil | refine all_cons ?_ ?_ | rfl | fail)); done) | (simp [-List.length_flatMap]; done) | (simp [-List.length_flatMap]; omega) | fail)); conv => whnf)
              | fail)
            all_goals (first | exact ⟨((Sub.refl _).set hb _ _).set hb _ _, rfl⟩ | exact absurd (by assumption) hg)
        · have hN0 : letN l ≠ 0 := by omega
          have hb0 := byte0_take (i := i) (by omega) h0
          have hln : (l.take i).length = i := by rw [List.length_take]; omega
          by_cases hdd : digB (byteAt l 0) = true
          · have hl0 : digB (byteAt (l.take i) 0) = true := by rw [hb0]; exact hdd
            have h48 := b48 (b := byteAt l 0)
            rw [show digitc ((byteAt l 0).toNat : Int) = true from hdd] at hd0
            repeat' (first
              | (exfalso; first | omega | exact (by assumption : ¬ True) trivial | fail)
              | (refine ⟨Sub.refl _, ?_⟩)
              | (refine brA_split (fun h => ?_) (fun h => ?_) <;> (try rw [h]) <;> (try simp only [Bool.false_eq_true, Bool.true_eq_false, ↓reduceIte, decide_eq_true_eq, decide_eq_false_iff_not, Bool.not_eq_true', Bool.not_eq_false'] at h) <;> (conv => whnf))
              | (rw [hzi]; conv => whnf)
              | (refine ACalls.pure' ?_ (hs); rintro _ rfl; conv => whnf)
              | (refine DCall.pure ?_ (hs); conv => whnf)
              | (rw [hA]; conv => whnf)
              | (rw [hz]; conv => whnf)
              | (refine ACalls.pure' ?_ (hd0); rintro _ rfl; conv => whnf)
              | (refine DCall.pure ?_ (hd0); conv => whnf)
              | (refine getB_of (by ((repeat (first | exact set_bx_same | assumption | refine (set_bx_other (by assumption)).trans ?_ | refine grow_bx.trans ?_)); done)) ?_; conv => whnf)
              | (refine getB_same ?_; conv => whnf)
              | (refine AWp.any (by kernel_rfl) (by kernel_rfl) (by kernel_rfl) ?_; conv => whnf)
              | (apply And.intro; (focus (first | omega | rfl | decide | exact Nat.le_of_ble_eq_true rfl | ((repeat' (first | exact all_nil | refine all_cons ?_ ?_ | rfl | fail)); done) | (simp [-List.length_flatMap]; done) | (simp [-List.length_flatMap]; omega) | fail)); conv => whnf)
              | fail)
            refine AWp.loopA [10] [58, 59, 60, 63, 64, 65, 66, 67, 68, 3, 4, 61, 62] (fun j : Nat => [.int .i64 j]) (fun j s' => j ≤ i ∧ s' = s.set b 33 [.int .i64 0, .str [], .int .i64 0, .int .i64 0] ∧ (l.take j).all digB = true) (fun j => i - j) (0) (by kernel_rfl) (by (repeat' (first | refine cons_eq ?_ ?_ | refine int64_of ?_ ?_ ?_ | rfl | omega))) ?_ ?_
            · exact ⟨by omega, rfl, rfl⟩
            · rintro y j _ ⟨j1, rfl, j2⟩
              show awp _ _ _ _ _ (updL _ _ [.int .i64 (j : Int)]) _
              conv => whnf
              have hzj : byteAt l ((j : Int)).toNat = byteAt l j := rfl
              by_cases hji : j < i
              · have hjl : j < l.length := by have := letN_le l; omega
                have hst := digit_step hjl
                have hdj := refDigit_ok (Γ := Γ) ((byteAt l j).toNat : Int)
                by_cases hjd : digB (byteAt l j) = true
                · rw [show digitc ((byteAt l j).toNat : Int) = true from hjd] at hdj
                  repeat' (first
                    | (exfalso; first | omega | exact (by assumption : ¬ True) trivial | fail)
                    | (refine ⟨Sub.refl _, ?_⟩)
                    | (refine brA_split (fun h => ?_) (fun h => ?_) <;> (try rw [h]) <;> (try simp only [Bool.false_eq_true, Bool.true_eq_false, ↓reduceIte, decide_eq_true_eq, decide_eq_false_iff_not, Bool.not_eq_true', Bool.not_eq_false'] at h) <;> (conv => whnf))
                    | (rw [hzj]; conv => whnf)
                    | (refine ACalls.pure' ?_ (hdj); rintro _ rfl; conv => whnf)
                    | (refine DCall.pure ?_ (hdj); conv => whnf)
                    | (refine getB_same ?_; conv => whnf)
                    | (refine AWp.any (by kernel_rfl) (by kernel_rfl) (by kernel_rfl) ?_; conv => whnf)
                    | (apply And.intro; (focus (first | omega | rfl | decide | exact Nat.le_of_ble_eq_true rfl | ((repeat' (first | exact all_nil | refine all_cons ?_ ?_ | rfl | fail)); done) | (simp [-List.length_flatMap]; done) | (simp [-List.length_flatMap]; omega) | fail)); conv => whnf)
                    | fail)
                  exact ⟨j + 1, by (repeat' (first | refine cons_eq ?_ ?_ | refine int64_of ?_ ?_ ?_ | rfl | omega)), by (repeat (first | exact Same.refl _ _ | refine Same.upd rfl ?_ | refine Same.updL rfl ?_ | refine Same.havoc rfl ?_)), ⟨by omega, by first | rfl | trivial, by rw [hst, j2, hjd]; rfl⟩, by omega⟩
                · rw [show digitc ((byteAt l j).toNat : Int) = false from Bool.eq_false_iff.2 hjd] at hdj
                  have hall0 : (l.take i).all digB = false := by
                    rw [Bool.eq_false_iff]
                    intro hh
                    refine hjd (List.all_eq_true.1 hh _ ?_)
                    rw [List.mem_take_iff_getElem]
                    refine ⟨j, by omega, ?_⟩
                    simp [byteAt, hjl]
                  rw [refFirstA_bad hq hN0 (e := 4) (by rw [hN]; exact lettersF_num hl0 (if_pos (.inl hall0)) (by decide))]
                  repeat' (first
                    | (exfalso; first | omega | exact (by assumption : ¬ True) trivial | fail)
                    | (refine ⟨Sub.refl _, ?_⟩)
                    | (refine brA_split (fun h => ?_) (fun h => ?_) <;> (try rw [h]) <;> (try simp only [Bool.false_eq_true, Bool.true_eq_false, ↓reduceIte, decide_eq_true_eq, decide_eq_false_iff_not, Bool.not_eq_true', Bool.not_eq_false'] at h) <;> (conv => whnf))
                    | (rw [hzj]; conv => whnf)
                    | (refine ACalls.pure' ?_ (hdj); rintro _ rfl; conv => whnf)
                    | (refine DCall.pure ?_ (hdj); conv => whnf)
                    | (refine getB_of (by ((repeat (first | exact set_bx_same | assumption | refine (set_bx_other (by assumption)).trans ?_ | refine grow_bx.trans ?_)); done)) ?_; conv => whnf)
                    | (refine getB_same ?_; conv => whnf)
                    | (refine AWp.any (by kernel_rfl) (by kernel_rfl) (by kernel_rfl) ?_; conv => whnf)
                    | (apply And.intro; (focus (first | omega | rfl | decide | exact Nat.le_of_ble_eq_true rfl | ((repeat' (first | exact all_nil | refine all_cons ?_ ?_ | rfl | fail)); done) | (simp [-List.length_flatMap]; done) | (simp [-List.length_flatMap]; omega) | fail)); conv => whnf)
                    | fail)
                  exact ⟨((Sub.refl _).set hb _ _).set hb _ _, rfl⟩
              · obtain rfl : j = i := by omega
                repeat' (first
                  | (exfalso; first | omega | exact (by assumption : ¬ True) trivial | fail)
                  | (refine ⟨Sub.refl _, ?_⟩)
                  | (refine brA_split (fun h => ?_) (fun h => ?_) <;> (try rw [h]) <;> (try simp only [Bool.false_eq_true, Bool.true_eq_false, ↓reduceIte, decide_eq_true_eq, decide_eq_false_iff_not, Bool.not_eq_true', Bool.not_eq_false'] at h) <;> (conv => whnf))
                  | (rw [hzi]; conv => whnf)
                  | (rw [hz]; conv => whnf)
                  | (refine getB_of (by ((repeat (first | exact set_bx_same | assumption | refine (set_bx_other (by assumption)).trans ?_ | refine grow_bx.trans ?_)); done)) ?_; conv => whnf)
                  | (refine getB_same ?_; conv => whnf)
                  | (refine AWp.any (by kernel_rfl) (by kernel_rfl) (by kernel_rfl) ?_; conv => whnf)
                  | (apply And.intro; (focus (first | omega | rfl | decide | exact Nat.le_of_ble_eq_true rfl | ((repeat' (first | exact all_nil | refine all_cons ?_ ?_ | rfl | fail)); done) | (simp [-List.length_flatMap]; done) | (simp [-List.length_flatMap]; omega) | fail)); conv => whnf)
                  | fail)
                all_goals refine ⟨((Sub.refl _).set hb _ _).set hb _ _, ?_⟩
                · rw [refFirstA_bad hq hN0 (e := 4) (by rw [hN]; exact lettersF_num hl0 (if_pos (.inr ⟨by rw [hb0]; exact h48.1 (by assumption), by omega⟩)) (by decide))]; rfl
                · rw [refFirstA_bad hq hN0 (e := 3) (by rw [hN]; exact lettersF_num hl0 (by rw [numE, if_neg (not_num j2 (fun hh => by rw [hb0] at hh; have := h48.2 hh.1; omega)), if_pos (by omega)]) (by decide))]; rfl
                · rw [refFirstA_good hq hN0 (k := 3) (t := l.take j) (by rw [hN]; exact lettersF_num0 hl0 (by rw [numE, if_neg (not_num j2 (fun hh => by rw [hb0] at hh; have := h48.2 hh.1; omega)), if_neg (by omega)])), hN]; rfl
                · rw [refFirstA_good hq hN0 (k := 3) (t := l.take j) (by rw [hN]; exact lettersF_num0 hl0 (by rw [numE, if_neg (not_num j2 (fun hh => by omega)), if_neg (by omega)])), hN]; rfl
          · have hl0 : ¬ digB (byteAt (l.take i) 0) = true := by rw [hb0]; exact hdd
            have hsp : i ≤ 32 → spelt (l.take i) = true := fun h32 => by
              rw [spelt_else (by omega) (by omega) (by rw [hb0]; unfold digB digitc at hdd; simpa using hdd)]
              exact hall
            rw [show digitc ((byteAt l 0).toNat : Int) = false from Bool.eq_false_iff.2 hdd] at hd0
            repeat' (first
              | (exfalso; first | omega | exact (by assumption : ¬ True) trivial | fail)
              | (refine ⟨Sub.refl _, ?_⟩)
              | (refine brA_split (fun h => ?_) (fun h => ?_) <;> (try rw [h]) <;> (try simp only [Bool.false_eq_true, Bool.true_eq_false, ↓reduceIte, decide_eq_true_eq, decide_eq_false_iff_not, Bool.not_eq_true', Bool.not_eq_false'] at h) <;> (conv => whnf))
              | (rw [hzi]; conv => whnf)
              | (refine ACalls.pure' ?_ (hs); rintro _ rfl; conv => whnf)
              | (refine DCall.pure ?_ (hs); conv => whnf)
              | (rw [hA]; conv => whnf)
              | (rw [hz]; conv => whnf)
              | (refine ACalls.pure' ?_ (hd0); rintro _ rfl; conv => whnf)
              | (refine DCall.pure ?_ (hd0); conv => whnf)
              | (refine ACalls.pure' ?_ (refName_ok _); rintro _ rfl; conv => whnf)
              | (refine DCall.pure ?_ (refName_ok _); conv => whnf)
              | (refine getB_of (by ((repeat (first | exact set_bx_same | assumption | refine (set_bx_other (by assumption)).trans ?_ | refine grow_bx.trans ?_)); done)) ?_; conv => whnf)
              | (refine getB_same ?_; conv => whnf)
              | (refine AWp.any (by kernel_rfl) (by kernel_rfl) (by kernel_rfl) ?_; conv => whnf)
              | (apply And.intro; (focus (first | omega | rfl | decide | exact Nat.le_of_ble_eq_true rfl | ((repeat' (first | exact all_nil | refine all_cons ?_ ?_ | rfl | fail)); done) | (simp [-List.length_flatMap]; done) | (simp [-List.length_flatMap]; omega) | fail)); conv => whnf)
              | fail)
            all_goals refine ⟨((Sub.refl _).set hb _ _).set hb _ _, ?_⟩
            · rw [refFirstA_bad hq hN0 (e := 3) (by rw [hN, lettersF, if_neg hl0, if_pos (by omega)])]; rfl
            · have hw := isName_of (hsp (by omega))
              rw [refFirstA_good hq hN0 (k := 1) (t := l.take i) (by rw [hN, lettersF, if_neg hl0, if_neg (by omega), if_neg (by simp_all)]), hN]; rfl
            · have hw := isName_of (hsp (by omega))
              rw [refFirstA_good hq hN0 (k := 1) (t := l.take i) (by rw [hN, lettersF, if_neg hl0, if_neg (by omega), if_neg (by simp_all)]), hN]; rfl
            · have hw := isName_of (hsp (by omega))
              rw [refFirstA_good hq hN0 (k := 2) (t := l.take i) (by rw [hN, lettersF, if_neg hl0, if_neg (by omega), if_pos (by simp_all)]), hN]; rfl
end Go.Proofs.YtnelknhacamboaaDoor.Lx
