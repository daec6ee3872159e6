/- Chapter 6: nobody's reader; row by row. -/
import Derived.Test.YtedaejmnnjljcaaDoorCvF
namespace Go.Proofs.YtedaejmnnjljcaaDoor.Cv
open Go Go.Ab Go.RowKit
variable {Γ : Nat → AV}
attribute [local irreducible] APure Sto.set Sto.grow
set_option maxRecDepth 10000
set_option maxHeartbeats 1000000

theorem csvNobody_law (hE : AsF.ErrT Γ) (S : List UInt8) (hl : S.length ≤ 9223372036854775807) : APure Tryd.prog Γ 5 [.str S] fun v => v = .bool true := by
  by_cases hS : (20000 : Int) < S.length
  · refine APure.of_awp Tryd.func5 rfl (Nat.le_of_ble_eq_true (by kernel_rfl)) (by kernel_rfl) ?_
    intro s
    conv => whnf
    repeat' (first
      | (exfalso; first | omega | exact (by assumption : ¬ True) trivial | fail)
      | (refine ⟨Sub.refl _, ?_⟩)
      | (refine brA_split (fun h => ?_) (fun h => ?_) <;> (try rw [h]) <;> (try simp only [Bool.false_eq_true, Bool.true_eq_false, ↓reduceIte, decide_eq_true_eq, decide_eq_false_iff_not, Bool.not_eq_true', Bool.not_eq_false'] at h) <;> (conv => whnf))
      | (refine ACalls.pure' ?_ (awake_ok hE); rintro _ rfl; conv => whnf)
      | (refine DCall.pure ?_ (awake_ok hE); conv => whnf)
      | (refine getB_same ?_; conv => whnf)
      | (refine AWp.any (by kernel_rfl) (by kernel_rfl) (by kernel_rfl) ?_; conv => whnf)
      | (apply And.intro; (focus (first | omega | rfl | decide | exact Nat.le_of_ble_eq_true rfl | ((repeat' (first | exact all_nil | refine all_cons ?_ ?_ | rfl | fail)); done) | (simp [-List.length_flatMap]; done) | (simp [-List.length_flatMap]; omega) | fail)); conv => whnf)
      | fail)
    rfl
  · refine APure.fgt fun s => ?_
    refine ACalls.of_awp Tryd.func5 rfl (Nat.le_of_ble_eq_true (by kernel_rfl)) (awp_ok _ (by kernel_rfl) ?_)
    conv => whnf
    repeat' (first
      | (exfalso; first | omega | exact (by assumption : ¬ True) trivial | fail)
      | (refine ⟨Sub.refl _, ?_⟩)
      | (refine brA_split (fun h => ?_) (fun h => ?_) <;> (try rw [h]) <;> (try simp only [Bool.false_eq_true, Bool.true_eq_false, ↓reduceIte, decide_eq_true_eq, decide_eq_false_iff_not, Bool.not_eq_true', Bool.not_eq_false'] at h) <;> (conv => whnf))
      | (refine getB_same ?_; conv => whnf)
      | (refine AWp.any (by kernel_rfl) (by kernel_rfl) (by kernel_rfl) ?_; conv => whnf)
      | (apply And.intro; (focus (first | omega | rfl | decide | exact Nat.le_of_ble_eq_true rfl | ((repeat' (first | exact all_nil | refine all_cons ?_ ?_ | rfl | fail)); done) | (simp [-List.length_flatMap]; done) | (simp [-List.length_flatMap]; omega) | fail)); conv => whnf)
      | fail)
    refine ACalls.by (new_ok S _) ?_
    rintro _ s1 ⟨br, bp, rfl, g1, g2, hR, hs1⟩
    have h1 := hR.rd
    have h2 := hR.pl
    conv => whnf
    repeat' (first
      | (exfalso; first | omega | exact (by assumption : ¬ True) trivial | fail)
      | (refine ⟨Sub.refl _, ?_⟩)
      | (refine brA_split (fun h => ?_) (fun h => ?_) <;> (try rw [h]) <;> (try simp only [Bool.false_eq_true, Bool.true_eq_false, ↓reduceIte, decide_eq_true_eq, decide_eq_false_iff_not, Bool.not_eq_true', Bool.not_eq_false'] at h) <;> (conv => whnf))
      | (refine getB_of (by ((repeat (first | exact set_bx_same | assumption | refine (set_bx_other (by assumption)).trans ?_ | refine grow_bx.trans ?_)); done)) ?_; conv => whnf)
      | (refine ACalls.pure' ?_ (nextNil_ok); rintro _ rfl; conv => whnf)
      | (refine DCall.pure ?_ (nextNil_ok); conv => whnf)
      | (refine ACalls.pure' ?_ (failNil_ok); rintro _ rfl; conv => whnf)
      | (refine DCall.pure ?_ (failNil_ok); conv => whnf)
      | (refine ACalls.pure' ?_ (awake_ok hE); rintro _ rfl; conv => whnf)
      | (refine DCall.pure ?_ (awake_ok hE); conv => whnf)
      | (refine EqAgg.of grdFail planFail ?_; conv => whnf)
      | (refine ACalls.by (rowOf_ok h2) ?_; rintro _ _ ⟨rfl, rfl⟩; conv => whnf)
      | (refine ACalls.by (rest_ok h2 (Nat.zero_le _) (by omega)) ?_; rintro _ _ ⟨rfl, rfl⟩; conv => whnf)
      | (refine getB_same ?_; conv => whnf)
      | (refine AWp.any (by kernel_rfl) (by kernel_rfl) (by kernel_rfl) ?_; conv => whnf)
      | (apply And.intro; (focus (first | omega | rfl | decide | exact Nat.le_of_ble_eq_true rfl | ((repeat' (first | exact all_nil | refine all_cons ?_ ?_ | rfl | fail)); done) | (simp [-List.length_flatMap]; done) | (simp [-List.length_flatMap]; omega) | fail)); conv => whnf)
      | fail)
    · exact ⟨_, Sub.refl _, rfl, hs1⟩
    all_goals (exfalso; revert h; simp)
theorem Rd.fresh {s : Sto} {br bp : Nat} {S : List UInt8} {a : Nat} {r : Int} {e : Int × Int × Int} (h : Rd s br bp S a r e) {b : Nat} (hb : s.bx b = none) (T : TypeId) (cs : List AV) : Rd (s.set b T cs) br bp S a r e :=
  ⟨(set_bx_other (ne_of_none h.rd hb)).trans h.rd, (set_bx_other (ne_of_none h.pl hb)).trans h.pl, h.ne⟩
theorem Rd.again {s : Sto} {br bp b : Nat} {S : List UInt8} {a : Nat} {r : Int} {e : Int × Int × Int} (h : Rd s br bp S a r e) (h1 : br ≠ b) (h2 : bp ≠ b) (T : TypeId) (cs : List AV) : Rd (s.set b T cs) br bp S a r e :=
  ⟨(set_bx_other h1).trans h.rd, (set_bx_other h2).trans h.pl, h.ne⟩
theorem csvSteps_law (hE : AsF.ErrT Γ) (S : List UInt8) (hl : S.length ≤ 9223372036854775807) : APure Tryd.prog Γ 4 [.str S] fun v => v = .bool true := by
  by_cases hS : (20000 : Int) < S.length
  · refine APure.of_awp Tryd.func4 rfl (Nat.le_of_ble_eq_true (by kernel_rfl)) (by kernel_rfl) ?_
    intro s
    conv => whnf
    repeat' (first
      | (exfalso; first | omega | exact (by assumption : ¬ True) trivial | fail)
      | (refine ⟨Sub.refl _, ?_⟩)
      | (refine brA_split (fun h => ?_) (fun h => ?_) <;> (try rw [h]) <;> (try simp only [Bool.false_eq_true, Bool.true_eq_false, ↓reduceIte, decide_eq_true_eq, decide_eq_false_iff_not, Bool.not_eq_true', Bool.not_eq_false'] at h) <;> (conv => whnf))
      | (refine ACalls.pure' ?_ (awake_ok hE); rintro _ rfl; conv => whnf)
      | (refine DCall.pure ?_ (awake_ok hE); conv => whnf)
      | (refine getB_same ?_; conv => whnf)
      | (refine AWp.any (by kernel_rfl) (by kernel_rfl) (by kernel_rfl) ?_; conv => whnf)
      | (apply And.intro; (focus (first | omega | rfl | decide | exact Nat.le_of_ble_eq_true rfl | ((repeat' (first | exact all_nil | refine all_cons ?_ ?_ | rfl | fail)); done) | (simp [-List.length_flatMap]; done) | (simp [-List.length_flatMap]; omega) | fail)); conv => whnf)
      | fail)
    rfl
  · refine APure.fgt fun s => ?_
    refine ACalls.of_awp Tryd.func4 rfl (Nat.le_of_ble_eq_true (by kernel_rfl)) (awp_ok _ (by kernel_rfl) ?_)
    conv => whnf
    repeat' (first
      | (exfalso; first | omega | exact (by assumption : ¬ True) trivial | fail)
      | (refine ⟨Sub.refl _, ?_⟩)
      | (refine brA_split (fun h => ?_) (fun h => ?_) <;> (try rw [h]) <;> (try simp only [Bool.false_eq_true, Bool.true_eq_false, ↓reduceIte, decide_eq_true_eq, decide_eq_false_iff_not, Bool.not_eq_true', Bool.not_eq_false'] at h) <;> (conv => whnf))
      | (refine getB_same ?_; conv => whnf)
      | (refine AWp.any (by kernel_rfl) (by kernel_rfl) (by kernel_rfl) ?_; conv => whnf)
      | (apply And.intro; (focus (first | omega | rfl | decide | exact Nat.le_of_ble_eq_true rfl | ((repeat' (first | exact all_nil | refine all_cons ?_ ?_ | rfl | fail)); done) | (simp [-List.length_flatMap]; done) | (simp [-List.length_flatMap]; omega) | fail)); conv => whnf)
      | fail)
    refine ACalls.by (new_ok S _) ?_
    rintro _ s1 ⟨br, bp, rfl, g1, g2, hR, hs1⟩
    have hB := B2.none g1 g2
    conv => whnf
    repeat' (first
      | (exfalso; first | omega | exact (by assumption : ¬ True) trivial | fail)
      | (refine ⟨Sub.refl _, ?_⟩)
      | (refine brA_split (fun h => ?_) (fun h => ?_) <;> (try rw [h]) <;> (try simp only [Bool.false_eq_true, Bool.true_eq_false, ↓reduceIte, decide_eq_true_eq, decide_eq_false_iff_not, Bool.not_eq_true', Bool.not_eq_false'] at h) <;> (conv => whnf))
      | (refine getB_same ?_; conv => whnf)
      | (refine AWp.any (by kernel_rfl) (by kernel_rfl) (by kernel_rfl) ?_; conv => whnf)
      | (apply And.intro; (focus (first | omega | rfl | decide | exact Nat.le_of_ble_eq_true rfl | ((repeat' (first | exact all_nil | refine all_cons ?_ ?_ | rfl | fail)); done) | (simp [-List.length_flatMap]; done) | (simp [-List.length_flatMap]; omega) | fail)); conv => whnf)
      | fail)
    refine AWp.loopA [4, 5] [22, 23, 24, 25, 26, 27, 28, 29, 6, 30, 31, 32, 33, 34, 35, 36, 37, 38, 39, 40, 41, 42, 43, 44, 45, 46, 47, 48, 49, 50, 51, 52, 53, 54, 2, 56, 57, 55, 58, 59, 7, 8, 60, 61, 62, 64, 65, 63, 66, 67, 9, 10, 68, 69, 11, 70, 71, 72, 73, 74, 75, 76, 77, 78, 79, 80, 81, 82, 83, 84, 85, 86, 87, 88, 89, 90, 91, 92, 93, 94, 95, 96, 97, 98, 99, 100, 101, 102, 103, 104, 105, 106, 107, 108, 109, 110, 111, 112, 113, 114, 115, 116, 117, 118, 119, 120, 121, 122, 123, 124, 125, 126, 127, 128, 129, 130, 131] (fun x : Nat × Nat => [.int .i64 x.1, .int .i64 x.2]) (fun x s' => (x.1 ≤ S.length ∧ x.2 ≤ x.1) ∧ Rd s' br bp S x.1 x.2 (0, 0, 0) ∧ Sub s s') (fun x => S.length - x.1) ((0, 0)) (by kernel_rfl) (by (repeat' (first | refine cons_eq ?_ ?_ | refine int64_of ?_ ?_ ?_ | rfl | omega))) ?_ ?_
    · exact ⟨⟨Nat.zero_le _, Nat.le_refl _⟩, hR, hs1⟩
    · rintro y ⟨a, r⟩ s2 ⟨⟨i1, i2⟩, i3, i4⟩
      simp only at i1 i2 i3 i4
      show awp _ _ _ _ _ (updL _ _ [.int .i64 (a : Int), .int .i64 (r : Int)]) _
      conv => whnf
      have hA : List.drop ((a : Int)).toNat (List.take S.length S) = S.drop a := by rw [Int.toNat_natCast, drop_take_all]
      have hfi := refFirst_ok (Γ := Γ) (S.drop a) (by rw [List.length_drop]; omega)
      have hw : IntKind.i64.wrap ((S.length : Int) - a) = (S.length : Int) - a := i64_of rfl (by omega) (by omega)
      have hw1 : IntKind.i64.wrap ((r : Int) + 1) = (r : Int) + 1 := i64_of rfl (by omega) (by omega)
      by_cases he : a = S.length
      · have h1 := i3.rd
        have h2 := i3.pl
        repeat' (first
          | (exfalso; first | omega | exact (by assumption : ¬ True) trivial | fail)
          | (refine ⟨Sub.refl _, ?_⟩)
          | (refine brA_split (fun h => ?_) (fun h => ?_) <;> (try rw [h]) <;> (try simp only [Bool.false_eq_true, Bool.true_eq_false, ↓reduceIte, decide_eq_true_eq, decide_eq_false_iff_not, Bool.not_eq_true', Bool.not_eq_false'] at h) <;> (conv => whnf))
          | (refine ACalls.by (nextDone_ok i3 i1 (by omega) (.inr he)) ?_; rintro _ _ ⟨rfl, rfl⟩; conv => whnf)
          | (refine ACalls.by (rowOf_ok h2) ?_; rintro _ _ ⟨rfl, rfl⟩; conv => whnf)
          | (refine ACalls.by (rest_ok h2 i1 (by omega)) ?_; rintro _ _ ⟨rfl, rfl⟩; conv => whnf)
          | (refine ACalls.by (fail_ok h1) ?_; rintro _ _ ⟨rfl, rfl⟩; conv => whnf)
          | (refine ACalls.pure' ?_ (awake_ok hE); rintro _ rfl; conv => whnf)
          | (refine DCall.pure ?_ (awake_ok hE); conv => whnf)
          | (refine getB_of (by ((repeat (first | exact set_bx_same | assumption | refine (set_bx_other (by assumption)).trans ?_ | refine grow_bx.trans ?_)); done)) ?_; conv => whnf)
          | (refine EqAgg.of grdFail planFail ?_; conv => whnf)
          | (refine getB_same ?_; conv => whnf)
          | (refine AWp.any (by kernel_rfl) (by kernel_rfl) (by kernel_rfl) ?_; conv => whnf)
          | (apply And.intro; (focus (first | omega | rfl | decide | exact Nat.le_of_ble_eq_true rfl | ((repeat' (first | exact all_nil | refine all_cons ?_ ?_ | rfl | fail)); done) | (simp [-List.length_flatMap]; done) | (simp [-List.length_flatMap]; omega) | fail)); conv => whnf)
          | fail)
        · exact ⟨_, Sub.refl _, rfl, i4⟩
        all_goals (exfalso; revert h; simp)
      · have hlt : a < S.length := by omega
        have hne : S.drop a ≠ [] := by rw [Ne, ← List.length_eq_zero_iff, List.length_drop]; omega
        have h1 := i3.rd
        have h2 := i3.pl
        have n_bp_br := i3.ne
        have n_br_bp : br ≠ bp := fun h => n_bp_br h.symm
        rcases hx : row (S.drop a) with ⟨x, c⟩ | ⟨m, z⟩
        · rw [hx] at hfi
          have hxe := rowF_err _ _ _ _ (Nat.lt_succ_self _) hx
          repeat' (first
            | (exfalso; first | omega | exact (by assumption : ¬ True) trivial | fail)
            | (refine ⟨Sub.refl _, ?_⟩)
            | (refine brA_split (fun h => ?_) (fun h => ?_) <;> (try rw [h]) <;> (try simp only [Bool.false_eq_true, Bool.true_eq_false, ↓reduceIte, decide_eq_true_eq, decide_eq_false_iff_not, Bool.not_eq_true', Bool.not_eq_false'] at h) <;> (conv => whnf))
            | (rw [hA]; conv => whnf)
            | (refine ACalls.pure' ?_ (hfi); rintro _ rfl; conv => whnf)
            | (refine DCall.pure ?_ (hfi); conv => whnf)
            | (refine getB_same ?_; conv => whnf)
            | (refine AWp.any (by kernel_rfl) (by kernel_rfl) (by kernel_rfl) ?_; conv => whnf)
            | (apply And.intro; (focus (first | omega | rfl | decide | exact Nat.le_of_ble_eq_true rfl | ((repeat' (first | exact all_nil | refine all_cons ?_ ?_ | rfl | fail)); done) | (simp [-List.length_flatMap]; done) | (simp [-List.length_flatMap]; omega) | fail)); conv => whnf)
            | fail)
          intro b hb
          have n_br_b : br ≠ b := ne_of_none (by ((repeat (first | exact set_bx_same | assumption | refine (set_bx_other (by assumption)).trans ?_ | refine grow_bx.trans ?_)); done)) hb
          have n_b_br : b ≠ br := fun h => n_br_b h.symm
          have n_bp_b : bp ≠ b := ne_of_none (by ((repeat (first | exact set_bx_same | assumption | refine (set_bx_other (by assumption)).trans ?_ | refine grow_bx.trans ?_)); done)) hb
          have n_b_bp : b ≠ bp := fun h => n_bp_b h.symm
          have k1 := fun T cs T' cs' => (i3.fresh hb T cs).again n_br_b n_bp_b T' cs'
          conv => whnf
          repeat' (first
            | (exfalso; first | omega | exact (by assumption : ¬ True) trivial | fail)
            | (refine ⟨Sub.refl _, ?_⟩)
            | (refine brA_split (fun h => ?_) (fun h => ?_) <;> (try rw [h]) <;> (try simp only [Bool.false_eq_true, Bool.true_eq_false, ↓reduceIte, decide_eq_true_eq, decide_eq_false_iff_not, Bool.not_eq_true', Bool.not_eq_false'] at h) <;> (conv => whnf))
            | (refine getB_of (by ((repeat (first | exact set_bx_same | assumption | refine (set_bx_other (by assumption)).trans ?_ | refine grow_bx.trans ?_)); done)) ?_; conv => whnf)
            | (refine ACalls.by (rowOf_ok (k1 _ _ _ _).pl) ?_; rintro _ _ ⟨rfl, rfl⟩; conv => whnf)
            | (refine ACalls.by (rest_ok (k1 _ _ _ _).pl i1 (by omega)) ?_; rintro _ _ ⟨rfl, rfl⟩; conv => whnf)
            | (refine ACalls.by (fail_ok (k1 _ _ _ _).rd) ?_; rintro _ _ ⟨rfl, rfl⟩; conv => whnf)
            | (refine EqAgg.of grdFail planFail ?_; conv => whnf)
            | (rw [hw]; conv => whnf)
            | (refine getB_same ?_; conv => whnf)
            | (refine AWp.any (by kernel_rfl) (by kernel_rfl) (by kernel_rfl) ?_; conv => whnf)
            | (apply And.intro; (focus (first | omega | rfl | decide | exact Nat.le_of_ble_eq_true rfl | ((repeat' (first | exact all_nil | refine all_cons ?_ ?_ | rfl | fail)); done) | (simp [-List.length_flatMap]; done) | (simp [-List.length_flatMap]; omega) | fail)); conv => whnf)
            | fail)
          refine ACalls.by (nextBad_ok hE (k1 _ _ _ _) hlt (by omega) ⟨by omega, by omega⟩ hx) ?_
          rintro _ s3 ⟨rfl, hR3, st3⟩
          have hb3 := st3.bx b _ (fun h => h.elim n_b_br n_b_bp) set_bx_same
          have hs3 : Ab.Sub s s3 := st3.sub s ((i4.set (i4.none hb) _ _).set (i4.none hb) _ _) (B2.none g1 g2)
          conv => whnf
          repeat' (first
            | (exfalso; first | omega | exact (by assumption : ¬ True) trivial | fail)
            | (refine ⟨Sub.refl _, ?_⟩)
            | (refine brA_split (fun h => ?_) (fun h => ?_) <;> (try rw [h]) <;> (try simp only [Bool.false_eq_true, Bool.true_eq_false, ↓reduceIte, decide_eq_true_eq, decide_eq_false_iff_not, Bool.not_eq_true', Bool.not_eq_false'] at h) <;> (conv => whnf))
            | (refine getB_of (by ((repeat (first | exact set_bx_same | assumption | refine (set_bx_other (by assumption)).trans ?_ | refine grow_bx.trans ?_)); done)) ?_; conv => whnf)
            | (refine ACalls.by (nextDone_ok hR3 i1 (by omega) (.inl (by rintro hh; injection hh with hh _; omega))) ?_; rintro _ _ ⟨rfl, rfl⟩; conv => whnf)
            | (refine ACalls.by (fail_ok hR3.rd) ?_; rintro _ _ ⟨rfl, rfl⟩; conv => whnf)
            | (refine getB_same ?_; conv => whnf)
            | (refine AWp.any (by kernel_rfl) (by kernel_rfl) (by kernel_rfl) ?_; conv => whnf)
            | (apply And.intro; (focus (first | omega | rfl | decide | exact Nat.le_of_ble_eq_true rfl | ((repeat' (first | exact all_nil | refine all_cons ?_ ?_ | rfl | fail)); done) | (simp [-List.length_flatMap]; done) | (simp [-List.length_flatMap]; omega) | fail)); conv => whnf)
            | fail)
          · intro b4 hb4
            have n_b_b4 : b ≠ b4 := ne_of_none hb3 hb4
            have hrd3 := hR3.rd
            have n_br_b4 : br ≠ b4 := ne_of_none hR3.rd hb4
            have n_bp_b4 : bp ≠ b4 := ne_of_none hR3.pl hb4
            have k3 := fun T cs T' cs' => (hR3.fresh hb4 T cs).again n_br_b4 n_bp_b4 T' cs'
            conv => whnf
            repeat' (first
              | (exfalso; first | omega | exact (by assumption : ¬ True) trivial | fail)
              | (refine ⟨Sub.refl _, ?_⟩)
              | (refine brA_split (fun h => ?_) (fun h => ?_) <;> (try rw [h]) <;> (try simp only [Bool.false_eq_true, Bool.true_eq_false, ↓reduceIte, decide_eq_true_eq, decide_eq_false_iff_not, Bool.not_eq_true', Bool.not_eq_false'] at h) <;> (conv => whnf))
              | (refine getB_of (by ((repeat (first | exact set_bx_same | assumption | refine (set_bx_other (by assumption)).trans ?_ | refine grow_bx.trans ?_)); done)) ?_; conv => whnf)
              | (rw [hw1]; conv => whnf)
              | (refine ACalls.by (rowOf_ok (k3 _ _ _ _).pl) ?_; rintro _ _ ⟨rfl, rfl⟩; conv => whnf)
              | (refine ACalls.pure' ?_ (awake_ok hE); rintro _ rfl; conv => whnf)
              | (refine DCall.pure ?_ (awake_ok hE); conv => whnf)
              | (refine getB_same ?_; conv => whnf)
              | (refine AWp.any (by kernel_rfl) (by kernel_rfl) (by kernel_rfl) ?_; conv => whnf)
              | (apply And.intro; (focus (first | omega | rfl | decide | exact Nat.le_of_ble_eq_true rfl | ((repeat' (first | exact all_nil | refine all_cons ?_ ?_ | rfl | fail)); done) | (simp [-List.length_flatMap]; done) | (simp [-List.length_flatMap]; omega) | fail)); conv => whnf)
              | fail)
            · refine ⟨_, Sub.refl _, rfl, ?_⟩
              exact (hs3.set (hs3.none hb4) _ _).set (hs3.none hb4) _ _
            all_goals (exfalso; revert h; simp; try rfl)
        · rw [hx] at hfi
          have hbd := rowF_ok_bound _ _ _ _ hx
          rw [List.length_drop] at hbd
          have hz := hbd.2.1 hne
          repeat' (first
            | (exfalso; first | omega | exact (by assumption : ¬ True) trivial | fail)
            | (refine ⟨Sub.refl _, ?_⟩)
            | (refine brA_split (fun h => ?_) (fun h => ?_) <;> (try rw [h]) <;> (try simp only [Bool.false_eq_true, Bool.true_eq_false, ↓reduceIte, decide_eq_true_eq, decide_eq_false_iff_not, Bool.not_eq_true', Bool.not_eq_false'] at h) <;> (conv => whnf))
            | (rw [hA]; conv => whnf)
            | (refine ACalls.pure' ?_ (hfi); rintro _ rfl; conv => whnf)
            | (refine DCall.pure ?_ (hfi); conv => whnf)
            | (refine getB_same ?_; conv => whnf)
            | (refine AWp.any (by kernel_rfl) (by kernel_rfl) (by kernel_rfl) ?_; conv => whnf)
            | (apply And.intro; (focus (first | omega | rfl | decide | exact Nat.le_of_ble_eq_true rfl | ((repeat' (first | exact all_nil | refine all_cons ?_ ?_ | rfl | fail)); done) | (simp [-List.length_flatMap]; done) | (simp [-List.length_flatMap]; omega) | fail)); conv => whnf)
            | fail)
          intro b hb
          have n_br_b : br ≠ b := ne_of_none (by ((repeat (first | exact set_bx_same | assumption | refine (set_bx_other (by assumption)).trans ?_ | refine grow_bx.trans ?_)); done)) hb
          have n_b_br : b ≠ br := fun h => n_br_b h.symm
          have n_bp_b : bp ≠ b := ne_of_none (by ((repeat (first | exact set_bx_same | assumption | refine (set_bx_other (by assumption)).trans ?_ | refine grow_bx.trans ?_)); done)) hb
          have n_b_bp : b ≠ bp := fun h => n_bp_b h.symm
          have k1 := fun T cs T' cs' => (i3.fresh hb T cs).again n_br_b n_bp_b T' cs'
          conv => whnf
          repeat' (first
            | (exfalso; first | omega | exact (by assumption : ¬ True) trivial | fail)
            | (refine ⟨Sub.refl _, ?_⟩)
            | (refine brA_split (fun h => ?_) (fun h => ?_) <;> (try rw [h]) <;> (try simp only [Bool.false_eq_true, Bool.true_eq_false, ↓reduceIte, decide_eq_true_eq, decide_eq_false_iff_not, Bool.not_eq_true', Bool.not_eq_false'] at h) <;> (conv => whnf))
            | (refine getB_of (by ((repeat (first | exact set_bx_same | assumption | refine (set_bx_other (by assumption)).trans ?_ | refine grow_bx.trans ?_)); done)) ?_; conv => whnf)
            | (refine ACalls.by (rowOf_ok (k1 _ _ _ _).pl) ?_; rintro _ _ ⟨rfl, rfl⟩; conv => whnf)
            | (refine ACalls.by (rest_ok (k1 _ _ _ _).pl i1 (by omega)) ?_; rintro _ _ ⟨rfl, rfl⟩; conv => whnf)
            | (refine ACalls.by (fail_ok (k1 _ _ _ _).rd) ?_; rintro _ _ ⟨rfl, rfl⟩; conv => whnf)
            | (refine EqAgg.of grdFail planFail ?_; conv => whnf)
            | (rw [hw]; conv => whnf)
            | (refine getB_same ?_; conv => whnf)
            | (refine AWp.any (by kernel_rfl) (by kernel_rfl) (by kernel_rfl) ?_; conv => whnf)
            | (apply And.intro; (focus (first | omega | rfl | decide | exact Nat.le_of_ble_eq_true rfl | ((repeat' (first | exact all_nil | refine all_cons ?_ ?_ | rfl | fail)); done) | (simp [-List.length_flatMap]; done) | (simp [-List.length_flatMap]; omega) | fail)); conv => whnf)
            | fail)
          refine ACalls.by (nextRow_ok (k1 _ _ _ _) hlt (by omega) ⟨by omega, by omega⟩ hx) ?_
          rintro _ s3 ⟨rfl, hR3, st3⟩
          have hb3 := st3.bx b _ (fun h => h.elim n_b_br n_b_bp) set_bx_same
          have hs3 : Ab.Sub s s3 := st3.sub s ((i4.set (i4.none hb) _ _).set (i4.none hb) _ _) (B2.none g1 g2)
          conv => whnf
          repeat' (first
            | (exfalso; first | omega | exact (by assumption : ¬ True) trivial | fail)
            | (refine ⟨Sub.refl _, ?_⟩)
            | (refine brA_split (fun h => ?_) (fun h => ?_) <;> (try rw [h]) <;> (try simp only [Bool.false_eq_true, Bool.true_eq_false, ↓reduceIte, decide_eq_true_eq, decide_eq_false_iff_not, Bool.not_eq_true', Bool.not_eq_false'] at h) <;> (conv => whnf))
            | (refine getB_of (by ((repeat (first | exact set_bx_same | assumption | refine (set_bx_other (by assumption)).trans ?_ | refine grow_bx.trans ?_)); done)) ?_; conv => whnf)
            | (refine ACalls.pure' ?_ (same_refl 0 0 m (by omega)); rintro _ rfl; conv => whnf)
            | (refine DCall.pure ?_ (same_refl 0 0 m (by omega)); conv => whnf)
            | (rw [hw1]; conv => whnf)
            | (refine getB_same ?_; conv => whnf)
            | (refine AWp.any (by kernel_rfl) (by kernel_rfl) (by kernel_rfl) ?_; conv => whnf)
            | (apply And.intro; (focus (first | omega | rfl | decide | exact Nat.le_of_ble_eq_true rfl | ((repeat' (first | exact all_nil | refine all_cons ?_ ?_ | rfl | fail)); done) | (simp [-List.length_flatMap]; done) | (simp [-List.length_flatMap]; omega) | fail)); conv => whnf)
            | fail)
          refine ⟨(a + z, r + 1), ?_, by (repeat (first | exact Same.refl _ _ | refine Same.upd rfl ?_ | refine Same.updL rfl ?_ | refine Same.havoc rfl ?_)), ⟨⟨by simp only; omega, by simp only; omega⟩, hR3, hs3⟩, by simp only; omega⟩
          exact cons_eq (by show AV.int .i64 (IntKind.i64.wrap ((a : Int) + z)) = .int .i64 ((a + z : Nat) : Int); rw [i64_of (b := ((a + z : Nat) : Int)) (by omega) (by omega) (by omega)]) (cons_eq (by show AV.int .i64 ((r : Int) + 1) = .int .i64 ((r + 1 : Nat) : Int); rfl) rfl)
end Go.Proofs.YtedaejmnnjljcaaDoor.Cv
