
/- Chapter 9: all tokens of a text, by both. -/
import Derived.Test.YtnelknhacamboaaDoorLxF
set_option linter.all false
namespace Go.Proofs.YtnelknhacamboaaDoor.Lx
open Go Go.Ab Go.RowKit Go.Proofs.YtnelknhacamboaaDoor.Sc
variable {Γ : Nat → AV}
attribute [local irreducible] APure Sto.set Sto.grow
set_option maxRecDepth 10000
set_option maxHeartbeats 1000000

/-- What is so between two tokens. -/
structure LexI (s s' : Sto) (S : List UInt8) (T : TypeId) (o : List Tok) (t : Nat) (q : List UInt8) (p : Int × Int) : Prop where
  le : q.length ≤ S.length ∧ o.length + q.length ≤ S.length
  pl : (0 ≤ p.1 ∧ p.1 ≤ 1 + (S.length - q.length : Nat)) ∧ 0 ≤ p.2 ∧ p.2 ≤ 1 + 2 * ((S.length - q.length : Nat) : Int)
  own : Own s s' o.isEmpty t T 4
  is : lexF (S.length + 1) (1, 1) S = preT o (lexF (S.length + 1) p q)
theorem tokC_cells (k : Int) (t : List UInt8) : tokC k t = .agg [.int .i64 k, .str t, .int .i64 0, .int .i64 0] := rfl
theorem progAll_ok (hQ : Qu.Tabs Γ) (hT : Wds Γ) (hE : AsO.ErrT Γ) (S : List UInt8) (hl : S.length ≤ 1048576) : APure Tryd.prog Γ 6 [.str S] fun v => v = allA (allT S) := by
  refine APure.fgt fun s => ?_
  by_cases hbig : 65536 < S.length
  · rw [allT, if_pos hbig]
    refine ACalls.of_awp Tryd.func6 rfl (Nat.le_of_ble_eq_true (by kernel_rfl)) (awp_ok _ (by kernel_rfl) ?_)
    conv => whnf
    intro b3 hb3
    conv => whnf
    repeat' (first
      | (exfalso; first | omega | exact (by assumption : ¬ True) trivial | fail)
      | (refine ⟨Sub.refl _, ?_⟩)
      | (refine brA_split (fun h => ?_) (fun h => ?_) <;> (try rw [h]) <;> (try simp only [Bool.false_eq_true, Bool.true_eq_false, ↓reduceIte, decide_eq_true_eq, decide_eq_false_iff_not, Bool.not_eq_true', Bool.not_eq_false'] at h) <;> (conv => whnf))
      | (refine getB_of (by ((repeat (first | exact set_bx_same | assumption | refine (set_bx_other (by assumption)).trans ?_ | refine grow_bx.trans ?_)); done)) ?_; conv => whnf)
      | (refine getB_same ?_; conv => whnf)
      | (refine AWp.any (by kernel_rfl) (by kernel_rfl) (by kernel_rfl) ?_; conv => whnf)
      | (apply And.intro; (focus (first | omega | rfl | decide | exact Nat.le_of_ble_eq_true rfl | ((repeat' (first | exact all_nil | refine all_cons ?_ ?_ | rfl | fail)); done) | (simp [-List.length_flatMap]; done) | (simp [-List.length_flatMap]; omega) | fail)); conv => whnf)
      | fail)
    exact ⟨_, Sub.refl _, rfl, ((Sub.refl _).set hb3 _ _).set hb3 _ _⟩
  · rw [allT, if_neg hbig]
    refine ACalls.of_awp Tryd.func6 rfl (Nat.le_of_ble_eq_true (by kernel_rfl)) (awp_ok _ (by kernel_rfl) ?_)
    conv => whnf
    intro b3 hb3
    conv => whnf
    repeat' (first
      | (exfalso; first | omega | exact (by assumption : ¬ True) trivial | fail)
      | (refine ⟨Sub.refl _, ?_⟩)
      | (refine brA_split (fun h => ?_) (fun h => ?_) <;> (try rw [h]) <;> (try simp only [Bool.false_eq_true, Bool.true_eq_false, ↓reduceIte, decide_eq_true_eq, decide_eq_false_iff_not, Bool.not_eq_true', Bool.not_eq_false'] at h) <;> (conv => whnf))
      | (refine getB_of (by ((repeat (first | exact set_bx_same | assumption | refine (set_bx_other (by assumption)).trans ?_ | refine grow_bx.trans ?_)); done)) ?_; conv => whnf)
      | (refine getB_same ?_; conv => whnf)
      | (refine AWp.any (by kernel_rfl) (by kernel_rfl) (by kernel_rfl) ?_; conv => whnf)
      | (apply And.intro; (focus (first | omega | rfl | decide | exact Nat.le_of_ble_eq_true rfl | ((repeat' (first | exact all_nil | refine all_cons ?_ ?_ | rfl | fail)); done) | (simp [-List.length_flatMap]; done) | (simp [-List.length_flatMap]; omega) | fail)); conv => whnf)
      | fail)
    refine AWp.loopA [0, 4, 5, 6] [15, 16, 7, 18, 19, 20, 21, 22, 23, 17, 24, 25, 26, 27, 28, 29, 30, 31, 32, 2, 34, 35, 33, 36, 37, 38, 8, 9, 10, 39, 40, 41, 42, 43, 44, 45, 46, 47, 48, 49, 50, 51, 52, 53, 54, 56, 57, 58, 59, 60, 61, 55, 62, 63, 64, 65, 66] (fun x : List Tok × Nat × List UInt8 × (Int × Int) => [.str x.2.2.1, .slice x.2.1 (toksA x.1), .int .i64 x.2.2.2.1, .int .i64 x.2.2.2.2]) (fun x s' => LexI s s' S 34 x.1 x.2.1 x.2.2.1 x.2.2.2 ∧ s'.bx b3 = some (26, [.int .i64 0, .int .i64 0, .int .i64 0])) (fun x => x.2.2.1.length) (([], 1, S, (1, 1))) (by kernel_rfl) (by (repeat' (first | refine cons_eq ?_ ?_ | refine int64_of ?_ ?_ ?_ | rfl | omega))) ?_ ?_
    · exact ⟨⟨⟨Nat.le_refl _, by simp⟩, ⟨by simp, by simp⟩, Own.start ((Sub.refl _).set hb3 _ _) _ _, (preT_nil _).symm⟩, set_bx_same⟩
    · rintro x ⟨o, t, q, p⟩ s1 ⟨⟨i1, i2, i3, i4⟩, i5⟩
      simp only at i1 i2 i3 i4 i5
      show awp _ _ _ _ _ (updL _ _ [.str q, .slice t (toksA o), .int .i64 p.1, .int .i64 p.2]) _
      conv => whnf
      have hbl := progBlank_ok (Γ := Γ) q (by omega)
      have hbn := blankN_le q
      have hA : List.drop 0 (List.take ((blankN q : Int)).toNat q) = q.take (blankN q) := by rw [Int.toNat_natCast, List.drop_zero]
      have hB : List.drop ((blankN q : Int)).toNat (List.take q.length q) = q.drop (blankN q) := by rw [Int.toNat_natCast, drop_take_all]
      have hmv := move_ok (Γ := Γ) p.1 p.2 (q.take (blankN q)) (by rw [List.length_take]; omega) (by omega) (by omega)
      have hpb := placeF_bound (q.take (blankN q)) p.1 p.2 (by omega) (by omega)
      have hdl : (q.drop (blankN q)).length = q.length - blankN q := List.length_drop
      rw [List.length_take, Nat.min_eq_left hbn] at hpb
      repeat' (first
        | (exfalso; first | omega | exact (by assumption : ¬ True) trivial | fail)
        | (refine ⟨Sub.refl _, ?_⟩)
        | (refine brA_split (fun h => ?_) (fun h => ?_) <;> (try rw [h]) <;> (try simp only [Bool.false_eq_true, Bool.true_eq_false, ↓reduceIte, decide_eq_true_eq, decide_eq_false_iff_not, Bool.not_eq_true', Bool.not_eq_false'] at h) <;> (conv => whnf))
        | (refine ACalls.pure' ?_ (hbl); rintro _ rfl; conv => whnf)
        | (refine DCall.pure ?_ (hbl); conv => whnf)
        | (rw [hA]; conv => whnf)
        | (rw [hB]; conv => whnf)
        | (refine ACalls.pure' ?_ (hmv); rintro _ rfl; conv => whnf)
        | (refine DCall.pure ?_ (hmv); conv => whnf)
        | (refine getB_same ?_; conv => whnf)
        | (refine AWp.any (by kernel_rfl) (by kernel_rfl) (by kernel_rfl) ?_; conv => whnf)
        | (apply And.intro; (focus (first | omega | rfl | decide | exact Nat.le_of_ble_eq_true rfl | ((repeat' (first | exact all_nil | refine all_cons ?_ ?_ | rfl | fail)); done) | (simp [-List.length_flatMap]; done) | (simp [-List.length_flatMap]; omega) | fail)); conv => whnf)
        | fail)
      · repeat' (first
          | (exfalso; first | omega | exact (by assumption : ¬ True) trivial | fail)
          | (refine ⟨Sub.refl _, ?_⟩)
          | (refine brA_split (fun h => ?_) (fun h => ?_) <;> (try rw [h]) <;> (try simp only [Bool.false_eq_true, Bool.true_eq_false, ↓reduceIte, decide_eq_true_eq, decide_eq_false_iff_not, Bool.not_eq_true', Bool.not_eq_false'] at h) <;> (conv => whnf))
          | (refine getB_of (by ((repeat (first | exact set_bx_same | assumption | refine (set_bx_other (by assumption)).trans ?_ | refine grow_bx.trans ?_)); done)) ?_; conv => whnf)
          | (refine getB_same ?_; conv => whnf)
          | (refine AWp.any (by kernel_rfl) (by kernel_rfl) (by kernel_rfl) ?_; conv => whnf)
          | (apply And.intro; (focus (first | omega | rfl | decide | exact Nat.le_of_ble_eq_true rfl | ((repeat' (first | exact all_nil | refine all_cons ?_ ?_ | rfl | fail)); done) | (simp [-List.length_flatMap]; done) | (simp [-List.length_flatMap]; omega) | fail)); conv => whnf)
          | fail)
        refine ⟨_, Sub.refl _, ?_, i3.sub.set hb3 _ _⟩
        rw [i4, lexF_end h]
        simp only [tupA, fg, fgL, fgE_toks, allA, preT, List.append_nil]
      · have hpos : 0 < (q.drop (blankN q)).length := List.length_pos_iff.2 h
        have hfi := first_ok hQ hT (q.drop (blankN q)) hpos (by omega)
        rcases hf : firstF (q.drop (blankN q)) with e | ⟨kd, t', z⟩
        · simp only [firstA, hf, tokC, oddA] at hfi
          repeat' (first
            | (exfalso; first | omega | exact (by assumption : ¬ True) trivial | fail)
            | (refine ⟨Sub.refl _, ?_⟩)
            | (refine brA_split (fun h => ?_) (fun h => ?_) <;> (try rw [h]) <;> (try simp only [Bool.false_eq_true, Bool.true_eq_false, ↓reduceIte, decide_eq_true_eq, decide_eq_false_iff_not, Bool.not_eq_true', Bool.not_eq_false'] at h) <;> (conv => whnf))
            | (refine ACalls.pure' ?_ (hfi); rintro _ rfl; conv => whnf)
            | (refine DCall.pure ?_ (hfi); conv => whnf)
            | (refine getB_same ?_; conv => whnf)
            | (refine AWp.any (by kernel_rfl) (by kernel_rfl) (by kernel_rfl) ?_; conv => whnf)
            | (apply And.intro; (focus (first | omega | rfl | decide | exact Nat.le_of_ble_eq_true rfl | ((repeat' (first | exact all_nil | refine all_cons ?_ ?_ | rfl | fail)); done) | (simp [-List.length_flatMap]; done) | (simp [-List.length_flatMap]; omega) | fail)); conv => whnf)
            | fail)
          intro b8 hb8
          have n_b3_b8 : b3 ≠ b8 := ne_of_none (by ((repeat (first | exact set_bx_same | assumption | refine (set_bx_other (by assumption)).trans ?_ | refine grow_bx.trans ?_)); done)) hb8
          have n_b8_b3 : b8 ≠ b3 := fun h => n_b3_b8 h.symm
          conv => whnf
          repeat' (first
            | (exfalso; first | omega | exact (by assumption : ¬ True) trivial | fail)
            | (refine ⟨Sub.refl _, ?_⟩)
            | (refine brA_split (fun h => ?_) (fun h => ?_) <;> (try rw [h]) <;> (try simp only [Bool.false_eq_true, Bool.true_eq_false, ↓reduceIte, decide_eq_true_eq, decide_eq_false_iff_not, Bool.not_eq_true', Bool.not_eq_false'] at h) <;> (conv => whnf))
            | (refine getB_of (by ((repeat (first | exact set_bx_same | assumption | refine (set_bx_other (by assumption)).trans ?_ | refine grow_bx.trans ?_)); done)) ?_; conv => whnf)
            | (refine getB_same ?_; conv => whnf)
            | (refine AWp.any (by kernel_rfl) (by kernel_rfl) (by kernel_rfl) ?_; conv => whnf)
            | (apply And.intro; (focus (first | omega | rfl | decide | exact Nat.le_of_ble_eq_true rfl | ((repeat' (first | exact all_nil | refine all_cons ?_ ?_ | rfl | fail)); done) | (simp [-List.length_flatMap]; done) | (simp [-List.length_flatMap]; omega) | fail)); conv => whnf)
            | fail)
          intro b10 hb10
          have n_b8_b10 : b8 ≠ b10 := ne_of_none (by ((repeat (first | exact set_bx_same | assumption | refine (set_bx_other (by assumption)).trans ?_ | refine grow_bx.trans ?_)); done)) hb10
          have n_b10_b8 : b10 ≠ b8 := fun h => n_b8_b10 h.symm
          have n_b3_b10 : b3 ≠ b10 := ne_of_none (by ((repeat (first | exact set_bx_same | assumption | refine (set_bx_other (by assumption)).trans ?_ | refine grow_bx.trans ?_)); done)) hb10
          have n_b10_b3 : b10 ≠ b3 := fun h => n_b3_b10 h.symm
          conv => whnf
          repeat' (first
            | (exfalso; first | omega | exact (by assumption : ¬ True) trivial | fail)
            | (refine ⟨Sub.refl _, ?_⟩)
            | (refine brA_split (fun h => ?_) (fun h => ?_) <;> (try rw [h]) <;> (try simp only [Bool.false_eq_true, Bool.true_eq_false, ↓reduceIte, decide_eq_true_eq, decide_eq_false_iff_not, Bool.not_eq_true', Bool.not_eq_false'] at h) <;> (conv => whnf))
            | (refine getB_of (by ((repeat (first | exact set_bx_same | assumption | refine (set_bx_other (by assumption)).trans ?_ | refine grow_bx.trans ?_)); done)) ?_; conv => whnf)
            | (refine ACalls.by (AsO.asHit_ok hE e set_bx_same) ?_; rintro _ _ ⟨rfl, rfl⟩; conv => whnf)
            | (refine getB_same ?_; conv => whnf)
            | (refine AWp.any (by kernel_rfl) (by kernel_rfl) (by kernel_rfl) ?_; conv => whnf)
            | (apply And.intro; (focus (first | omega | rfl | decide | exact Nat.le_of_ble_eq_true rfl | ((repeat' (first | exact all_nil | refine all_cons ?_ ?_ | rfl | fail)); done) | (simp [-List.length_flatMap]; done) | (simp [-List.length_flatMap]; omega) | fail)); conv => whnf)
            | fail)
          have k8 := fun T1 c1 T2 c2 => (i3.sub.set (i3.sub.none hb8) T1 c1).set (i3.sub.none hb8) T2 c2
          have g10 := (k8 _ _ _ _).none hb10
          refine ⟨_, Sub.refl _, ?_, ((((k8 _ _ _ _).set g10 _ _).set g10 _ _).set hb3 _ _)⟩
          rw [i4, lexF_bad h hf]
          simp only [tupA, fg, fgL, fgE, allA, preT]
        · simp only [firstA, hf, tokC] at hfi
          have hfb := first_bound hf h
          repeat' (first
            | (exfalso; first | omega | exact (by assumption : ¬ True) trivial | fail)
            | (refine ⟨Sub.refl _, ?_⟩)
            | (refine brA_split (fun h => ?_) (fun h => ?_) <;> (try rw [h]) <;> (try simp only [Bool.false_eq_true, Bool.true_eq_false, ↓reduceIte, decide_eq_true_eq, decide_eq_false_iff_not, Bool.not_eq_true', Bool.not_eq_false'] at h) <;> (conv => whnf))
            | (refine ACalls.pure' ?_ (hfi); rintro _ rfl; conv => whnf)
            | (refine DCall.pure ?_ (hfi); conv => whnf)
            | (refine getB_same ?_; conv => whnf)
            | (refine AWp.any (by kernel_rfl) (by kernel_rfl) (by kernel_rfl) ?_; conv => whnf)
            | (apply And.intro; (focus (first | omega | rfl | decide | exact Nat.le_of_ble_eq_true rfl | ((repeat' (first | exact all_nil | refine all_cons ?_ ?_ | rfl | fail)); done) | (simp [-List.length_flatMap]; done) | (simp [-List.length_flatMap]; omega) | fail)); conv => whnf)
            | fail)
          intro b8 hb8
          have n_b3_b8 : b3 ≠ b8 := ne_of_none (by ((repeat (first | exact set_bx_same | assumption | refine (set_bx_other (by assumption)).trans ?_ | refine grow_bx.trans ?_)); done)) hb8
          have n_b8_b3 : b8 ≠ b3 := fun h => n_b3_b8 h.symm
          conv => whnf
          repeat' (first
            | (exfalso; first | omega | exact (by assumption : ¬ True) trivial | fail)
            | (refine ⟨Sub.refl _, ?_⟩)
            | (refine brA_split (fun h => ?_) (fun h => ?_) <;> (try rw [h]) <;> (try simp only [Bool.false_eq_true, Bool.true_eq_false, ↓reduceIte, decide_eq_true_eq, decide_eq_false_iff_not, Bool.not_eq_true', Bool.not_eq_false'] at h) <;> (conv => whnf))
            | (refine getB_of (by ((repeat (first | exact set_bx_same | assumption | refine (set_bx_other (by assumption)).trans ?_ | refine grow_bx.trans ?_)); done)) ?_; conv => whnf)
            | (refine getB_same ?_; conv => whnf)
            | (refine AWp.any (by kernel_rfl) (by kernel_rfl) (by kernel_rfl) ?_; conv => whnf)
            | (apply And.intro; (focus (first | omega | rfl | decide | exact Nat.le_of_ble_eq_true rfl | ((repeat' (first | exact all_nil | refine all_cons ?_ ?_ | rfl | fail)); done) | (simp [-List.length_flatMap]; done) | (simp [-List.length_flatMap]; omega) | fail)); conv => whnf)
            | fail)
          intro b10 hb10
          have n_b8_b10 : b8 ≠ b10 := ne_of_none (by ((repeat (first | exact set_bx_same | assumption | refine (set_bx_other (by assumption)).trans ?_ | refine grow_bx.trans ?_)); done)) hb10
          have n_b10_b8 : b10 ≠ b8 := fun h => n_b8_b10 h.symm
          have n_b3_b10 : b3 ≠ b10 := ne_of_none (by ((repeat (first | exact set_bx_same | assumption | refine (set_bx_other (by assumption)).trans ?_ | refine grow_bx.trans ?_)); done)) hb10
          have n_b10_b3 : b10 ≠ b3 := fun h => n_b3_b10 h.symm
          conv => whnf
          repeat' (first
            | (exfalso; first | omega | exact (by assumption : ¬ True) trivial | fail)
            | (refine ⟨Sub.refl _, ?_⟩)
            | (refine brA_split (fun h => ?_) (fun h => ?_) <;> (try rw [h]) <;> (try simp only [Bool.false_eq_true, Bool.true_eq_false, ↓reduceIte, decide_eq_true_eq, decide_eq_false_iff_not, Bool.not_eq_true', Bool.not_eq_false'] at h) <;> (conv => whnf))
            | (refine getB_of (by ((repeat (first | exact set_bx_same | assumption | refine (set_bx_other (by assumption)).trans ?_ | refine grow_bx.trans ?_)); done)) ?_; conv => whnf)
            | (refine ACalls.pure' ?_ (AsO.asNil_ok _); rintro _ rfl; conv => whnf)
            | (refine DCall.pure ?_ (AsO.asNil_ok _); conv => whnf)
            | (refine getB_same ?_; conv => whnf)
            | (refine AWp.any (by kernel_rfl) (by kernel_rfl) (by kernel_rfl) ?_; conv => whnf)
            | (apply And.intro; (focus (first | omega | rfl | decide | exact Nat.le_of_ble_eq_true rfl | ((repeat' (first | exact all_nil | refine all_cons ?_ ?_ | rfl | fail)); done) | (simp [-List.length_flatMap]; done) | (simp [-List.length_flatMap]; omega) | fail)); conv => whnf)
            | fail)
          have g8 := i3.sub.none hb8
          have k8 := fun T1 c1 T2 c2 => (i3.sub.set g8 T1 c1).set g8 T2 c2
          have g10 := (k8 _ _ _ _).none hb10
          have kk := fun T1 c1 T2 c2 T3 c3 T4 c4 T5 c5 => ((((i3.set (T := T1) (cs := c1) g8).set (T := T2) (cs := c2) g8).set (T := T3) (cs := c3) g10).set (T := T4) (cs := c4) g8).set (T := T5) (cs := c5) g8
          have hol := toksA_len o
          refine ⟨(kk _ _ _ _ _ _ _ _ _ _).may, fun c hc => ?_, all_cons ⟨rfl, rfl⟩ all_nil, ?_, ?_⟩
          · obtain ⟨w, _, rfl⟩ := List.mem_map.1 hc; rfl
          · show ((toksA o).length + 1) * (40 + 1) ≤ _
            rw [hol]; omega
          intro t2 k1 k2
          have k3 := (kk _ _ _ _ _ _ _ _ _ _).grow k1 k2
          have hq2 := place_plain hfb.2.2 (placeF (p.1, p.2) (q.take (blankN q)))
          have htl : ((q.drop (blankN q)).take z).length = z := by rw [List.length_take]; omega
          rw [htl] at hq2
          have hmv2 := move_ok (Γ := Γ) (placeF (p.1, p.2) (q.take (blankN q))).1 (placeF (p.1, p.2) (q.take (blankN q))).2 ((q.drop (blankN q)).take z) (by omega) (by omega) (by omega)
          rw [hq2] at hmv2
          have hC : List.drop 0 (List.take ((z : Int)).toNat (q.drop (blankN q))) = (q.drop (blankN q)).take z := by rw [Int.toNat_natCast, List.drop_zero]
          have hD : List.drop ((z : Int)).toNat (List.take (q.drop (blankN q)).length (q.drop (blankN q))) = (q.drop (blankN q)).drop z := by rw [Int.toNat_natCast, drop_take_all]
          conv => whnf
          repeat' (first
            | (exfalso; first | omega | exact (by assumption : ¬ True) trivial | fail)
            | (refine ⟨Sub.refl _, ?_⟩)
            | (refine brA_split (fun h => ?_) (fun h => ?_) <;> (try rw [h]) <;> (try simp only [Bool.false_eq_true, Bool.true_eq_false, ↓reduceIte, decide_eq_true_eq, decide_eq_false_iff_not, Bool.not_eq_true', Bool.not_eq_false'] at h) <;> (conv => whnf))
            | (refine getB_of (by ((repeat (first | exact set_bx_same | assumption | refine (set_bx_other (by assumption)).trans ?_ | refine grow_bx.trans ?_)); done)) ?_; conv => whnf)
            | (rw [hC]; conv => whnf)
            | (rw [hD]; conv => whnf)
            | (refine ACalls.pure' ?_ (hmv2); rintro _ rfl; conv => whnf)
            | (refine DCall.pure ?_ (hmv2); conv => whnf)
            | (refine getB_same ?_; conv => whnf)
            | (refine AWp.any (by kernel_rfl) (by kernel_rfl) (by kernel_rfl) ?_; conv => whnf)
            | (apply And.intro; (focus (first | omega | rfl | decide | exact Nat.le_of_ble_eq_true rfl | ((repeat' (first | exact all_nil | refine all_cons ?_ ?_ | rfl | fail)); done) | (simp [-List.length_flatMap]; done) | (simp [-List.length_flatMap]; omega) | fail)); conv => whnf)
            | fail)
          have hrl : ((q.drop (blankN q)).drop z).length = q.length - blankN q - z := by rw [List.length_drop, List.length_drop]
          rw [List.length_drop] at hfb
          refine ⟨(o ++ [(kd, t', placeF (p.1, p.2) (q.take (blankN q)))], t2, (q.drop (blankN q)).drop z, ((placeF (p.1, p.2) (q.take (blankN q))).1, (placeF (p.1, p.2) (q.take (blankN q))).2 + z)), ?_, by (repeat (first | exact Same.refl _ _ | refine Same.upd rfl ?_ | refine Same.updL rfl ?_ | refine Same.havoc rfl ?_)), ⟨⟨⟨by simp only; omega, by simp only [List.length_append, List.length_cons, List.length_nil]; omega⟩, ⟨by simp only; omega, by simp only; omega⟩, ?_, ?_⟩, (by ((repeat (first | exact set_bx_same | assumption | refine (set_bx_other (by assumption)).trans ?_ | refine grow_bx.trans ?_)); done))⟩, by simp only; omega⟩
          · exact cons_eq rfl (cons_eq (congrArg (AV.slice t2) (toksA_app o (kd, t', placeF (p.1, p.2) (q.take (blankN q))))) (cons_eq rfl (cons_eq rfl rfl)))
          · rw [show (o ++ [(kd, t', placeF (p.1, p.2) (q.take (blankN q)))]).isEmpty = (o.isEmpty && [tokA (kd, t', placeF (p.1, p.2) (q.take (blankN q)))].isEmpty) by cases o <;> rfl]
            exact k3
          · rw [i4, lexF_ok h hf, preT_pre, lexF_fuel S.length (S.length + 1) _ _ (by omega) (by omega)]
theorem first_err {l : List UInt8} {e : Int} (h : firstF l = .error e) : e ≠ 0 := by
  unfold firstF at h
  split at h
  · split at h
    · cases h; decide
    · split at h
      · cases h; decide
      · cases h
  · split at h
    · split at h
      · cases h; decide
      · cases h
    · split at h
      · rename_i e' he
        cases h
        unfold lettersF at he
        split at he
        · split at he
          · cases he
          · rename_i hn
            cases he
            exact hn
        · split at he
          · cases he; decide
          · split at he <;> cases he
      · cases h
def refAllA : Except (Int × Int × Int) (List Tok) → AV
  | .ok m => .tuple [.slice 0 (toksA m), .int .i64 0, .int .i64 0, .int .i64 0]
  | .error (e, a, b) => .tuple [.slice 0 [], .int .i64 e, .int .i64 a, .int .i64 b]
theorem refAll_ok (S : List UInt8) (hl : S.length ≤ 1048576) : APure Tryd.prog Γ 7 [.str S] fun v => v = refAllA (allT S) := by
  refine APure.fgt fun s => ?_
  by_cases hbig : 65536 < S.length
  · rw [allT, if_pos hbig]
    refine ACalls.of_awp Tryd.func7 rfl (Nat.le_of_ble_eq_true (by kernel_rfl)) (awp_ok _ (by kernel_rfl) ?_)
    conv => whnf
    repeat' (first
      | (exfalso; first | omega | exact (by assumption : ¬ True) trivial | fail)
      | (refine ⟨Sub.refl _, ?_⟩)
      | (refine brA_split (fun h => ?_) (fun h => ?_) <;> (try rw [h]) <;> (try simp only [Bool.false_eq_true, Bool.true_eq_false, ↓reduceIte, decide_eq_true_eq, decide_eq_false_iff_not, Bool.not_eq_true', Bool.not_eq_false'] at h) <;> (conv => whnf))
      | (refine getB_of (by ((repeat (first | exact set_bx_same | assumption | refine (set_bx_other (by assumption)).trans ?_ | refine grow_bx.trans ?_)); done)) ?_; conv => whnf)
      | (refine getB_same ?_; conv => whnf)
      | (refine AWp.any (by kernel_rfl) (by kernel_rfl) (by kernel_rfl) ?_; conv => whnf)
      | (apply And.intro; (focus (first | omega | rfl | decide | exact Nat.le_of_ble_eq_true rfl | ((repeat' (first | exact all_nil | refine all_cons ?_ ?_ | rfl | fail)); done) | (simp [-List.length_flatMap]; done) | (simp [-List.length_flatMap]; omega) | fail)); conv => whnf)
      | fail)
    exact ⟨_, Sub.refl _, rfl, Sub.refl _⟩
  · rw [allT, if_neg hbig]
    refine ACalls.of_awp Tryd.func7 rfl (Nat.le_of_ble_eq_true (by kernel_rfl)) (awp_ok _ (by kernel_rfl) ?_)
    conv => whnf
    repeat' (first
      | (exfalso; first | omega | exact (by assumption : ¬ True) trivial | fail)
      | (refine ⟨Sub.refl _, ?_⟩)
      | (refine brA_split (fun h => ?_) (fun h => ?_) <;> (try rw [h]) <;> (try simp only [Bool.false_eq_true, Bool.true_eq_false, ↓reduceIte, decide_eq_true_eq, decide_eq_false_iff_not, Bool.not_eq_true', Bool.not_eq_false'] at h) <;> (conv => whnf))
      | (refine getB_of (by ((repeat (first | exact set_bx_same | assumption | refine (set_bx_other (by assumption)).trans ?_ | refine grow_bx.trans ?_)); done)) ?_; conv => whnf)
      | (refine getB_same ?_; conv => whnf)
      | (refine AWp.any (by kernel_rfl) (by kernel_rfl) (by kernel_rfl) ?_; conv => whnf)
      | (apply And.intro; (focus (first | omega | rfl | decide | exact Nat.le_of_ble_eq_true rfl | ((repeat' (first | exact all_nil | refine all_cons ?_ ?_ | rfl | fail)); done) | (simp [-List.length_flatMap]; done) | (simp [-List.length_flatMap]; omega) | fail)); conv => whnf)
      | fail)
    refine AWp.loopA [6, 7, 8, 9] [18, 19, 20, 21, 10, 22, 11, 23, 24, 25, 26, 27, 30, 31, 32, 33, 34, 35, 36, 37, 28, 29, 38, 39, 40, 41, 42, 43, 44, 45, 2, 3, 4, 5, 47, 48, 49, 50, 46, 51, 52, 53, 12, 13, 14, 54, 55, 56, 57, 58, 59, 60, 61, 62, 63, 64, 65, 66, 67, 68, 69, 70, 71, 72] (fun x : List Tok × Nat × Nat × (Int × Int) => [.slice x.2.1 (toksA x.1), .int .i64 x.2.2.2.1, .int .i64 x.2.2.2.2, .int .i64 x.2.2.1]) (fun x s' => x.2.2.1 ≤ S.length ∧ LexI s s' S 33 x.1 x.2.1 (S.drop x.2.2.1) x.2.2.2) (fun x => S.length - x.2.2.1) (([], 1, 0, (1, 1))) (by kernel_rfl) (by (repeat' (first | refine cons_eq ?_ ?_ | refine int64_of ?_ ?_ ?_ | rfl | omega))) ?_ ?_
    · exact ⟨Nat.zero_le _, ⟨by simp, by simp⟩, ⟨by simp, by simp⟩, Own.nil _ _ _, (preT_nil _).symm⟩
    · rintro x ⟨o, t, a, p⟩ s1 ⟨ha, i1, i2, i3, i4⟩
      simp only at ha i1 i2 i3 i4
      show awp _ _ _ _ _ (updL _ _ [.slice t (toksA o), .int .i64 p.1, .int .i64 p.2, .int .i64 (a : Int)]) _
      conv => whnf
      have hql : (S.drop a).length = S.length - a := List.length_drop
      have hA : List.drop ((a : Int)).toNat (List.take S.length S) = S.drop a := by rw [Int.toNat_natCast, drop_take_all]
      generalize hq : S.drop a = q at *
      have hbl := refBlank_ok (Γ := Γ) q (by omega)
      have hbn := blankN_le q
      have hwn : IntKind.i64.wrap ((a : Int) + blankN q) = ((a + blankN q : Nat) : Int) := i64_of (by omega) (by omega) (by omega)
      repeat' (first
        | (exfalso; first | omega | exact (by assumption : ¬ True) trivial | fail)
        | (refine ⟨Sub.refl _, ?_⟩)
        | (refine brA_split (fun h => ?_) (fun h => ?_) <;> (try rw [h]) <;> (try simp only [Bool.false_eq_true, Bool.true_eq_false, ↓reduceIte, decide_eq_true_eq, decide_eq_false_iff_not, Bool.not_eq_true', Bool.not_eq_false'] at h) <;> (conv => whnf))
        | (rw [hA]; conv => whnf)
        | (refine ACalls.pure' ?_ (hbl); rintro _ rfl; conv => whnf)
        | (refine DCall.pure ?_ (hbl); conv => whnf)
        | (rw [hwn]; conv => whnf)
        | (refine getB_same ?_; conv => whnf)
        | (refine AWp.any (by kernel_rfl) (by kernel_rfl) (by kernel_rfl) ?_; conv => whnf)
        | (apply And.intro; (focus (first | omega | rfl | decide | exact Nat.le_of_ble_eq_true rfl | ((repeat' (first | exact all_nil | refine all_cons ?_ ?_ | rfl | fail)); done) | (simp [-List.length_flatMap]; done) | (simp [-List.length_flatMap]; omega) | fail)); conv => whnf)
        | fail)
      have hpb := fun j (hj : j ≤ q.length) => (by have := placeF_bound (q.take j) p.1 p.2 (by omega) (by omega); rw [List.length_take, Nat.min_eq_left hj] at this; exact this : (0 ≤ (placeF (p.1, p.2) (q.take j)).1 ∧ (placeF (p.1, p.2) (q.take j)).1 ≤ p.1 + j) ∧ 0 ≤ (placeF (p.1, p.2) (q.take j)).2 ∧ (placeF (p.1, p.2) (q.take j)).2 ≤ p.2 + j + 1)
      refine AWp.loopA [7, 8, 11] [23, 24, 25, 26, 27, 30, 31, 32, 33, 34, 35, 36, 37, 28, 29] (fun j : Nat => [.int .i64 (placeF (p.1, p.2) (q.take j)).1, .int .i64 (placeF (p.1, p.2) (q.take j)).2, .int .i64 ((a + j : Nat) : Int)]) (fun j s' => j ≤ blankN q ∧ s' = s1) (fun j => blankN q - j) (0) (by kernel_rfl) (by (repeat' (first | refine cons_eq ?_ ?_ | refine int64_of ?_ ?_ ?_ | rfl | omega))) ?_ ?_
      · exact ⟨Nat.zero_le _, rfl⟩
      · rintro y j _ ⟨j1, rfl⟩
        show awp _ _ _ _ _ (updL _ _ [.int .i64 (placeF (p.1, p.2) (q.take j)).1, .int .i64 (placeF (p.1, p.2) (q.take j)).2, .int .i64 ((a + j : Nat) : Int)]) _
        conv => whnf
        have hpj := hpb j (by omega)
        by_cases hjn : j < blankN q
        · have hz : byteAt S (((a + j : Nat) : Int)).toNat = byteAt q j := by rw [Int.toNat_natCast, ← hq, byteAt_drop]
          have h10 := b10 (b := byteAt q j)
          have hst : placeF (p.1, p.2) (q.take (j + 1)) = if byteAt q j = 10 then ((placeF (p.1, p.2) (q.take j)).1 + 1, 1) else ((placeF (p.1, p.2) (q.take j)).1, (placeF (p.1, p.2) (q.take j)).2 + 1) := by
            rw [take_byte (by omega), placeF_app]; rfl
          have hw1 : IntKind.i64.wrap ((placeF (p.1, p.2) (q.take j)).1 + 1) = (placeF (p.1, p.2) (q.take j)).1 + 1 := i64_of rfl (by omega) (by omega)
          have hw2 : IntKind.i64.wrap ((placeF (p.1, p.2) (q.take j)).2 + 1) = (placeF (p.1, p.2) (q.take j)).2 + 1 := i64_of rfl (by omega) (by omega)
          have hw3 : IntKind.i64.wrap (((a + j : Nat) : Int) + 1) = ((a + (j + 1) : Nat) : Int) := i64_of (by omega) (by omega) (by omega)
          repeat' (first
            | (exfalso; first | omega | exact (by assumption : ¬ True) trivial | fail)
            | (refine ⟨Sub.refl _, ?_⟩)
            | (refine brA_split (fun h => ?_) (fun h => ?_) <;> (try rw [h]) <;> (try simp only [Bool.false_eq_true, Bool.true_eq_false, ↓reduceIte, decide_eq_true_eq, decide_eq_false_iff_not, Bool.not_eq_true', Bool.not_eq_false'] at h) <;> (conv => whnf))
            | (rw [hwn]; conv => whnf)
            | (rw [hz]; conv => whnf)
            | (refine getB_same ?_; conv => whnf)
            | (refine AWp.any (by kernel_rfl) (by kernel_rfl) (by kernel_rfl) ?_; conv => whnf)
            | (apply And.intro; (focus (first | omega | rfl | decide | exact Nat.le_of_ble_eq_true rfl | ((repeat' (first | exact all_nil | refine all_cons ?_ ?_ | rfl | fail)); done) | (simp [-List.length_flatMap]; done) | (simp [-List.length_flatMap]; omega) | fail)); conv => whnf)
            | fail)
          · refine ⟨j + 1, ?_, by (repeat (first | exact Same.refl _ _ | refine Same.upd rfl ?_ | refine Same.updL rfl ?_ | refine Same.havoc rfl ?_)), ⟨by omega, by first | rfl | trivial⟩, by omega⟩
            rw [hst, if_pos (h10.1 h)]
            exact cons_eq (congrArg (AV.int .i64) hw1) (cons_eq rfl (cons_eq (congrArg (AV.int .i64) hw3) rfl))
          · refine ⟨j + 1, ?_, by (repeat (first | exact Same.refl _ _ | refine Same.upd rfl ?_ | refine Same.updL rfl ?_ | refine Same.havoc rfl ?_)), ⟨by omega, by first | rfl | trivial⟩, by omega⟩
            rw [hst, if_neg (fun hh => h (h10.2 hh))]
            exact cons_eq rfl (cons_eq (congrArg (AV.int .i64) hw2) (cons_eq (congrArg (AV.int .i64) hw3) rfl))
        · obtain rfl : j = blankN q := by omega
          repeat' (first
            | (exfalso; first | omega | exact (by assumption : ¬ True) trivial | fail)
            | (refine ⟨Sub.refl _, ?_⟩)
            | (refine brA_split (fun h => ?_) (fun h => ?_) <;> (try rw [h]) <;> (try simp only [Bool.false_eq_true, Bool.true_eq_false, ↓reduceIte, decide_eq_true_eq, decide_eq_false_iff_not, Bool.not_eq_true', Bool.not_eq_false'] at h) <;> (conv => whnf))
            | (rw [hwn]; conv => whnf)
            | (refine getB_same ?_; conv => whnf)
            | (refine AWp.any (by kernel_rfl) (by kernel_rfl) (by kernel_rfl) ?_; conv => whnf)
            | (apply And.intro; (focus (first | omega | rfl | decide | exact Nat.le_of_ble_eq_true rfl | ((repeat' (first | exact all_nil | refine all_cons ?_ ?_ | rfl | fail)); done) | (simp [-List.length_flatMap]; done) | (simp [-List.length_flatMap]; omega) | fail)); conv => whnf)
            | fail)
          · have hend : q.drop (blankN q) = [] := by rw [← List.length_eq_zero_iff, List.length_drop]; omega
            refine ⟨_, Sub.refl _, ?_, i3.sub⟩
            rw [i4, lexF_end hend]
            simp only [tupA, fg, fgL, fgE_toks, refAllA, preT, List.append_nil]
          · have hne : q.drop (blankN q) ≠ [] := by rw [Ne, ← List.length_eq_zero_iff, List.length_drop]; omega
            have hpos : 0 < (q.drop (blankN q)).length := List.length_pos_iff.2 hne
            have hdl : (q.drop (blankN q)).length = q.length - blankN q := List.length_drop
            have hC : List.drop (((a + blankN q : Nat) : Int)).toNat (List.take S.length S) = q.drop (blankN q) := by rw [Int.toNat_natCast, drop_take_all, ← hq, List.drop_drop]
            have hfi := refFirst_ok (Γ := Γ) (q.drop (blankN q)) hpos (by omega)
            rcases hf : firstF (q.drop (blankN q)) with e | ⟨kd, t', z⟩
            · simp only [refFirstA, hf, tokC] at hfi
              have he0 : e ≠ 0 := first_err hf
              repeat' (first
                | (exfalso; first | omega | exact (by assumption : ¬ True) trivial | fail)
                | (refine ⟨Sub.refl _, ?_⟩)
                | (refine brA_split (fun h => ?_) (fun h => ?_) <;> (try rw [h]) <;> (try simp only [Bool.false_eq_true, Bool.true_eq_false, ↓reduceIte, decide_eq_true_eq, decide_eq_false_iff_not, Bool.not_eq_true', Bool.not_eq_false'] at h) <;> (conv => whnf))
                | (rw [hC]; conv => whnf)
                | (refine ACalls.pure' ?_ (hfi); rintro _ rfl; conv => whnf)
                | (refine DCall.pure ?_ (hfi); conv => whnf)
                | (refine getB_same ?_; conv => whnf)
                | (refine AWp.any (by kernel_rfl) (by kernel_rfl) (by kernel_rfl) ?_; conv => whnf)
                | (apply And.intro; (focus (first | omega | rfl | decide | exact Nat.le_of_ble_eq_true rfl | ((repeat' (first | exact all_nil | refine all_cons ?_ ?_ | rfl | fail)); done) | (simp [-List.length_flatMap]; done) | (simp [-List.length_flatMap]; omega) | fail)); conv => whnf)
                | fail)
              intro b8 hb8
              conv => whnf
              repeat' (first
                | (exfalso; first | omega | exact (by assumption : ¬ True) trivial | fail)
                | (refine ⟨Sub.refl _, ?_⟩)
                | (refine brA_split (fun h => ?_) (fun h => ?_) <;> (try rw [h]) <;> (try simp only [Bool.false_eq_true, Bool.true_eq_false, ↓reduceIte, decide_eq_true_eq, decide_eq_false_iff_not, Bool.not_eq_true', Bool.not_eq_false'] at h) <;> (conv => whnf))
                | (refine getB_of (by ((repeat (first | exact set_bx_same | assumption | refine (set_bx_other (by assumption)).trans ?_ | refine grow_bx.trans ?_)); done)) ?_; conv => whnf)
                | (refine getB_same ?_; conv => whnf)
                | (refine AWp.any (by kernel_rfl) (by kernel_rfl) (by kernel_rfl) ?_; conv => whnf)
                | (apply And.intro; (focus (first | omega | rfl | decide | exact Nat.le_of_ble_eq_true rfl | ((repeat' (first | exact all_nil | refine all_cons ?_ ?_ | rfl | fail)); done) | (simp [-List.length_flatMap]; done) | (simp [-List.length_flatMap]; omega) | fail)); conv => whnf)
                | fail)
              have g8 := i3.sub.none hb8
              refine ⟨_, Sub.refl _, ?_, (i3.sub.set g8 _ _).set g8 _ _⟩
              rw [i4, lexF_bad hne hf]
              simp only [tupA, fg, fgL, fgE, refAllA, preT]
            · simp only [refFirstA, hf, tokC] at hfi
              have hfb := first_bound hf hne
              repeat' (first
                | (exfalso; first | omega | exact (by assumption : ¬ True) trivial | fail)
                | (refine ⟨Sub.refl _, ?_⟩)
                | (refine brA_split (fun h => ?_) (fun h => ?_) <;> (try rw [h]) <;> (try simp only [Bool.false_eq_true, Bool.true_eq_false, ↓reduceIte, decide_eq_true_eq, decide_eq_false_iff_not, Bool.not_eq_true', Bool.not_eq_false'] at h) <;> (conv => whnf))
                | (rw [hC]; conv => whnf)
                | (refine ACalls.pure' ?_ (hfi); rintro _ rfl; conv => whnf)
                | (refine DCall.pure ?_ (hfi); conv => whnf)
                | (refine getB_same ?_; conv => whnf)
                | (refine AWp.any (by kernel_rfl) (by kernel_rfl) (by kernel_rfl) ?_; conv => whnf)
                | (apply And.intro; (focus (first | omega | rfl | decide | exact Nat.le_of_ble_eq_true rfl | ((repeat' (first | exact all_nil | refine all_cons ?_ ?_ | rfl | fail)); done) | (simp [-List.length_flatMap]; done) | (simp [-List.length_flatMap]; omega) | fail)); conv => whnf)
                | fail)
              intro b8 hb8
              conv => whnf
              repeat' (first
                | (exfalso; first | omega | exact (by assumption : ¬ True) trivial | fail)
                | (refine ⟨Sub.refl _, ?_⟩)
                | (refine brA_split (fun h => ?_) (fun h => ?_) <;> (try rw [h]) <;> (try simp only [Bool.false_eq_true, Bool.true_eq_false, ↓reduceIte, decide_eq_true_eq, decide_eq_false_iff_not, Bool.not_eq_true', Bool.not_eq_false'] at h) <;> (conv => whnf))
                | (refine getB_of (by ((repeat (first | exact set_bx_same | assumption | refine (set_bx_other (by assumption)).trans ?_ | refine grow_bx.trans ?_)); done)) ?_; conv => whnf)
                | (refine getB_same ?_; conv => whnf)
                | (refine AWp.any (by kernel_rfl) (by kernel_rfl) (by kernel_rfl) ?_; conv => whnf)
                | (apply And.intro; (focus (first | omega | rfl | decide | exact Nat.le_of_ble_eq_true rfl | ((repeat' (first | exact all_nil | refine all_cons ?_ ?_ | rfl | fail)); done) | (simp [-List.length_flatMap]; done) | (simp [-List.length_flatMap]; omega) | fail)); conv => whnf)
                | fail)
              have g8 := i3.sub.none hb8
              have kk := fun T1 c1 T2 c2 T3 c3 T4 c4 => (((i3.set (T := T1) (cs := c1) g8).set (T := T2) (cs := c2) g8).set (T := T3) (cs := c3) g8).set (T := T4) (cs := c4) g8
              have hol := toksA_len o
              refine ⟨(kk _ _ _ _ _ _ _ _).may, fun c hc => ?_, all_cons ⟨rfl, rfl⟩ all_nil, ?_, ?_⟩
              · obtain ⟨w, _, rfl⟩ := List.mem_map.1 hc; rfl
              · show ((toksA o).length + 1) * (40 + 1) ≤ _
                rw [hol]; omega
              intro t2 k1 k2
              have k3 := (kk _ _ _ _ _ _ _ _).grow k1 k2
              have hpn := hpb (blankN q) hbn
              have hwa : IntKind.i64.wrap (((a + blankN q : Nat) : Int) + z) = ((a + blankN q + z : Nat) : Int) := i64_of (by omega) (by omega) (by omega)
              have hwc : IntKind.i64.wrap ((placeF (p.1, p.2) (q.take (blankN q))).2 + z) = (placeF (p.1, p.2) (q.take (blankN q))).2 + z := i64_of rfl (by omega) (by omega)
              conv => whnf
              repeat' (first
                | (exfalso; first | omega | exact (by assumption : ¬ True) trivial | fail)
                | (refine ⟨Sub.refl _, ?_⟩)
                | (refine brA_split (fun h => ?_) (fun h => ?_) <;> (try rw [h]) <;> (try simp only [Bool.false_eq_true, Bool.true_eq_false, ↓reduceIte, decide_eq_true_eq, decide_eq_false_iff_not, Bool.not_eq_true', Bool.not_eq_false'] at h) <;> (conv => whnf))
                | (refine getB_of (by ((repeat (first | exact set_bx_same | assumption | refine (set_bx_other (by assumption)).trans ?_ | refine grow_bx.trans ?_)); done)) ?_; conv => whnf)
                | (refine getB_same ?_; conv => whnf)
                | (refine AWp.any (by kernel_rfl) (by kernel_rfl) (by kernel_rfl) ?_; conv => whnf)
                | (apply And.intro; (focus (first | omega | rfl | decide | exact Nat.le_of_ble_eq_true rfl | ((repeat' (first | exact all_nil | refine all_cons ?_ ?_ | rfl | fail)); done) | (simp [-List.length_flatMap]; done) | (simp [-List.length_flatMap]; omega) | fail)); conv => whnf)
                | fail)
              have hrl : ((q.drop (blankN q)).drop z).length = q.length - blankN q - z := by rw [List.length_drop, List.length_drop]
              have hrest : S.drop (a + blankN q + z) = (q.drop (blankN q)).drop z := by rw [← hq, List.drop_drop, List.drop_drop, Nat.add_assoc]
              refine ⟨(o ++ [(kd, t', placeF (p.1, p.2) (q.take (blankN q)))], t2, a + blankN q + z, ((placeF (p.1, p.2) (q.take (blankN q))).1, (placeF (p.1, p.2) (q.take (blankN q))).2 + z)), ?_, by (repeat (first | exact Same.refl _ _ | refine Same.upd rfl ?_ | refine Same.updL rfl ?_ | refine Same.havoc rfl ?_)), ⟨by simp only; omega, ⟨by simp only; rw [hrest]; omega, by simp only [List.length_append, List.length_cons, List.length_nil]; rw [hrest]; omega⟩, ⟨by simp only; rw [hrest]; omega, by simp only; rw [hrest]; omega⟩, ?_, ?_⟩, by simp only; omega⟩
              · exact cons_eq (congrArg (AV.slice t2) (toksA_app o (kd, t', placeF (p.1, p.2) (q.take (blankN q))))) (cons_eq rfl (cons_eq (congrArg (AV.int .i64) hwc) (cons_eq (congrArg (AV.int .i64) hwa) rfl)))
              · rw [show (o ++ [(kd, t', placeF (p.1, p.2) (q.take (blankN q)))]).isEmpty = (o.isEmpty && [tokA (kd, t', placeF (p.1, p.2) (q.take (blankN q)))].isEmpty) by cases o <;> rfl]
                exact k3
              · simp only
                rw [i4, lexF_ok hne hf, preT_pre, hrest, lexF_fuel S.length (S.length + 1) _ _ (by omega) (by omega)]
theorem all_ex : allT [120, 60, 61, 45, 53] = .ok [(1, [120], 1, 1), (5, [60, 61], 1, 2), (5, [45], 1, 4), (3, [53], 1, 5)] := by kernel_rfl
theorem grdFail : (!Tryd.prog.eqGuardType Tryd.prog.depth 26) = true := by kernel_rfl
theorem planFail : planT Tryd.prog 9999 26 = some [(0, 0), (1, 0), (2, 0)] := by kernel_rfl
theorem awake_ok (hQ : Qu.Tabs Γ) (hT : Wds Γ) (hE : AsO.ErrT Γ) : APure Tryd.prog Γ 5 [] fun v => v = .bool true := by
  have h1 := progAll_ok hQ hT hE [120, 60, 61, 45, 53] (by simp)
  rw [all_ex] at h1
  refine APure.of_awp Tryd.func5 rfl (Nat.le_of_ble_eq_true (by kernel_rfl)) (by kernel_rfl) ?_
  intro s
  conv => whnf
  repeat' (first
    | (refine ⟨Sub.refl _, ?_⟩)
    | (refine brA_split (fun h => ?_) (fun h => ?_) <;> (try rw [h]) <;> (try simp only [Bool.false_eq_true, Bool.true_eq_false, ↓reduceIte, decide_eq_true_eq, decide_eq_false_iff_not, Bool.not_eq_true', Bool.not_eq_false'] at h) <;> (conv => whnf))
    | (refine ACalls.pure' ?_ (h1); rintro _ rfl; conv => whnf)
    | (refine DCall.pure ?_ (h1); conv => whnf)
    | (refine getB_same ?_; conv => whnf)
    | (refine AWp.any (by kernel_rfl) (by kernel_rfl) (by kernel_rfl) ?_; conv => whnf)
    | (apply And.intro; (focus (first | omega | rfl | decide | exact Nat.le_of_ble_eq_true rfl | ((repeat' (first | exact all_nil | refine all_cons ?_ ?_ | rfl | fail)); done) | (simp [-List.length_flatMap]; done) | (simp [-List.length_flatMap]; omega) | fail)); conv => whnf)
    | fail)
  intro b hb
  conv => whnf
  repeat' (first
    | (refine ⟨Sub.refl _, ?_⟩)
    | (refine brA_split (fun h => ?_) (fun h => ?_) <;> (try rw [h]) <;> (try simp only [Bool.false_eq_true, Bool.true_eq_false, ↓reduceIte, decide_eq_true_eq, decide_eq_false_iff_not, Bool.not_eq_true', Bool.not_eq_false'] at h) <;> (conv => whnf))
    | (refine getB_of (by ((repeat (first | exact set_bx_same | assumption | refine (set_bx_other (by assumption)).trans ?_ | refine grow_bx.trans ?_)); done)) ?_; conv => whnf)
    | (refine EqAgg.of grdFail planFail ?_; conv => whnf)
    | (refine getB_same ?_; conv => whnf)
    | (refine AWp.any (by kernel_rfl) (by kernel_rfl) (by kernel_rfl) ?_; conv => whnf)
    | (apply And.intro; (focus (first | omega | rfl | decide | exact Nat.le_of_ble_eq_true rfl | ((repeat' (first | exact all_nil | refine all_cons ?_ ?_ | rfl | fail)); done) | (simp [-List.length_flatMap]; done) | (simp [-List.length_flatMap]; omega) | fail)); conv => whnf)
    | fail)
  exact ⟨((Sub.refl _).set hb _ _).set hb _ _, rfl⟩
end Go.Proofs.YtnelknhacamboaaDoor.Lx
