
/- Chapter 9: the law of all tokens. -/
import Derived.Test.YtnelknhacamboaaDoorLxG
set_option linter.all false
namespace Go.Proofs.YtnelknhacamboaaDoor.Lx
open Go Go.Ab Go.RowKit Go.Proofs.YtnelknhacamboaaDoor.Sc
variable {Γ : Nat → AV}
attribute [local irreducible] APure Sto.set Sto.grow
set_option maxRecDepth 10000
set_option maxHeartbeats 1000000

theorem grdTok : (!Tryd.prog.eqGuardType Tryd.prog.depth 33) = true := by kernel_rfl
theorem planTok : planT Tryd.prog 9999 33 = some [(0, 0), (1, 1), (2, 0), (3, 0)] := by kernel_rfl
theorem lexF_err : ∀ (k : Nat) (p : Int × Int) (l : List UInt8) (e a b : Int), lexF k p l = .error (e, a, b) → e ≠ 0
  | 0, p, l, e, a, b => fun h => by cases h
  | k + 1, p, l, e, a, b => fun h => by
    by_cases hl : l.drop (blankN l) = []
    · rw [lexF_end hl] at h; cases h
    · rcases he : firstF (l.drop (blankN l)) with e' | ⟨kd, t, z⟩
      · rw [lexF_bad hl he] at h
        simp only [Except.error.injEq, Prod.mk.injEq] at h
        rw [← h.1]
        exact first_err he
      · rw [lexF_ok hl he] at h
        rcases hr : lexF k ((placeF p (l.take (blankN l))).1, (placeF p (l.take (blankN l))).2 + z) ((l.drop (blankN l)).drop z) with ⟨e', a', b'⟩ | m
        · rw [hr] at h
          simp only [preT, Except.error.injEq, Prod.mk.injEq] at h
          rw [← h.1]
          exact lexF_err k _ _ _ _ _ hr
        · rw [hr] at h; cases h
theorem lexF_len : ∀ (k : Nat) (p : Int × Int) (l : List UInt8) (m : List Tok), lexF k p l = .ok m → m.length ≤ l.length
  | 0, p, l, m => fun h => by cases h; exact Nat.zero_le _
  | k + 1, p, l, m => fun h => by
    by_cases hl : l.drop (blankN l) = []
    · rw [lexF_end hl] at h; cases h; exact Nat.zero_le _
    · rcases he : firstF (l.drop (blankN l)) with e' | ⟨kd, t, z⟩
      · rw [lexF_bad hl he] at h; cases h
      · rw [lexF_ok hl he] at h
        have hb := first_bound he hl
        rw [List.length_drop] at hb
        rcases hr : lexF k ((placeF p (l.take (blankN l))).1, (placeF p (l.take (blankN l))).2 + z) ((l.drop (blankN l)).drop z) with ⟨e', a', b'⟩ | m'
        · rw [hr] at h; cases h
        · rw [hr] at h
          have := lexF_len k _ _ _ hr
          rw [List.length_drop, List.length_drop] at this
          cases h
          simp only [List.length_append, List.length_cons, List.length_nil]
          omega
theorem toksA_get {l : List Tok} {i : Nat} (h : i < l.length) : (toksA l).getD i [] = tokA (l.getD i (0, [], 0, 0)) := by simp [toksA, List.getD, h]
theorem lexAll_law (hQ : Qu.Tabs Γ) (hT : Wds Γ) (hE : AsO.ErrT Γ) (S : List UInt8) (hl : S.length ≤ 9223372036854775807) : APure Tryd.prog Γ 3 [.str S] fun v => v = .bool true := by
  by_cases hS : (20000 : Int) < S.length
  · refine APure.of_awp Tryd.func3 rfl (Nat.le_of_ble_eq_true (by kernel_rfl)) (by kernel_rfl) ?_
    intro s
    conv => whnf
    repeat' (first
      | (exfalso; first | omega | exact (by assumption : ¬ True) trivial | fail)
      | (refine ⟨Sub.refl _, ?_⟩)
      | (refine brA_split (fun h => ?_) (fun h => ?_) <;> (try rw [h]) <;> (try simp only [Bool.false_eq_true, Bool.true_eq_false, ↓reduceIte, decide_eq_true_eq, decide_eq_false_iff_not, Bool.not_eq_true', Bool.not_eq_false'] at h) <;> (conv => whnf))
      | (refine ACalls.pure' ?_ (awake_ok hQ hT hE); rintro _ rfl; conv => whnf)
      | (refine DCall.pure ?_ (awake_ok hQ hT hE); conv => whnf)
      | (refine getB_same ?_; conv => whnf)
      | (refine AWp.any (by kernel_rfl) (by kernel_rfl) (by kernel_rfl) ?_; conv => whnf)
      | (apply And.intro; (focus (first | omega | rfl | decide | exact Nat.le_of_ble_eq_true rfl | ((repeat' (first | exact all_nil | refine all_cons ?_ ?_ | rfl | fail)); done) | (simp [-List.length_flatMap]; done) | (simp [-List.length_flatMap]; omega) | fail)); conv => whnf)
      | fail)
    rfl
  · have h1 := progAll_ok hQ hT hE S (by omega)
    have h2 := refAll_ok (Γ := Γ) S (by omega)
    rcases hx : allT S with ⟨e, a, b⟩ | m
    · have he0 : e ≠ 0 := by
        rw [allT, if_neg (by omega)] at hx
        exact lexF_err _ _ _ _ _ _ hx
      rw [hx] at h1 h2
      simp only [allA, refAllA] at h1 h2
      refine APure.of_awp Tryd.func3 rfl (Nat.le_of_ble_eq_true (by kernel_rfl)) (by kernel_rfl) ?_
      intro s
      conv => whnf
      repeat' (first
        | (exfalso; first | omega | exact (by assumption : ¬ True) trivial | fail)
        | (refine ⟨Sub.refl _, ?_⟩)
        | (refine brA_split (fun h => ?_) (fun h => ?_) <;> (try rw [h]) <;> (try simp only [Bool.false_eq_true, Bool.true_eq_false, ↓reduceIte, decide_eq_true_eq, decide_eq_false_iff_not, Bool.not_eq_true', Bool.not_eq_false'] at h) <;> (conv => whnf))
        | (refine ACalls.pure' ?_ (h1); rintro _ rfl; conv => whnf)
        | (refine DCall.pure ?_ (h1); conv => whnf)
        | (refine getB_same ?_; conv => whnf)
        | (refine AWp.any (by kernel_rfl) (by kernel_rfl) (by kernel_rfl) ?_; conv => whnf)
        | (apply And.intro; (focus (first | omega | rfl | decide | exact Nat.le_of_ble_eq_true rfl | ((repeat' (first | exact all_nil | refine all_cons ?_ ?_ | rfl | fail)); done) | (simp [-List.length_flatMap]; done) | (simp [-List.length_flatMap]; omega) | fail)); conv => whnf)
        | fail)
      intro b1 hb1
      conv => whnf
      repeat' (first
        | (exfalso; first | omega | exact (by assumption : ¬ True) trivial | fail)
        | (refine ⟨Sub.refl _, ?_⟩)
        | (refine brA_split (fun h => ?_) (fun h => ?_) <;> (try rw [h]) <;> (try simp only [Bool.false_eq_true, Bool.true_eq_false, ↓reduceIte, decide_eq_true_eq, decide_eq_false_iff_not, Bool.not_eq_true', Bool.not_eq_false'] at h) <;> (conv => whnf))
        | (refine getB_of (by ((repeat (first | exact set_bx_same | assumption | refine (set_bx_other (by assumption)).trans ?_ | refine grow_bx.trans ?_)); done)) ?_; conv => whnf)
        | (refine ACalls.pure' ?_ (h2); rintro _ rfl; conv => whnf)
        | (refine DCall.pure ?_ (h2); conv => whnf)
        | (refine ACalls.pure' ?_ (awake_ok hQ hT hE); rintro _ rfl; conv => whnf)
        | (refine DCall.pure ?_ (awake_ok hQ hT hE); conv => whnf)
        | (refine EqAgg.of grdFail planFail ?_; conv => whnf)
        | (refine getB_same ?_; conv => whnf)
        | (refine AWp.any (by kernel_rfl) (by kernel_rfl) (by kernel_rfl) ?_; conv => whnf)
        | (apply And.intro; (focus (first | omega | rfl | decide | exact Nat.le_of_ble_eq_true rfl | ((repeat' (first | exact all_nil | refine all_cons ?_ ?_ | rfl | fail)); done) | (simp [-List.length_flatMap]; done) | (simp [-List.length_flatMap]; omega) | fail)); conv => whnf)
        | fail)
      · exact ⟨((Sub.refl _).set hb1 _ _).set hb1 _ _, rfl⟩
      all_goals (exfalso; revert h; simp)
    · have hml : m.length ≤ S.length := by
        rw [allT, if_neg (by omega)] at hx
        exact lexF_len _ _ _ _ hx
      rw [hx] at h1 h2
      simp only [allA, refAllA] at h1 h2
      have htl := toksA_len m
      refine APure.of_awp Tryd.func3 rfl (Nat.le_of_ble_eq_true (by kernel_rfl)) (by kernel_rfl) ?_
      intro s
      conv => whnf
      repeat' (first
        | (exfalso; first | omega | exact (by assumption : ¬ True) trivial | fail)
        | (refine ⟨Sub.refl _, ?_⟩)
        | (refine brA_split (fun h => ?_) (fun h => ?_) <;> (try rw [h]) <;> (try simp only [Bool.false_eq_true, Bool.true_eq_false, ↓reduceIte, decide_eq_true_eq, decide_eq_false_iff_not, Bool.not_eq_true', Bool.not_eq_false'] at h) <;> (conv => whnf))
        | (refine ACalls.pure' ?_ (h1); rintro _ rfl; conv => whnf)
        | (refine DCall.pure ?_ (h1); conv => whnf)
        | (refine getB_same ?_; conv => whnf)
        | (refine AWp.any (by kernel_rfl) (by kernel_rfl) (by kernel_rfl) ?_; conv => whnf)
        | (apply And.intro; (focus (first | omega | rfl | decide | exact Nat.le_of_ble_eq_true rfl | ((repeat' (first | exact all_nil | refine all_cons ?_ ?_ | rfl | fail)); done) | (simp [-List.length_flatMap]; done) | (simp [-List.length_flatMap]; omega) | fail)); conv => whnf)
        | fail)
      intro b1 hb1
      conv => whnf
      repeat' (first
        | (exfalso; first | omega | exact (by assumption : ¬ True) trivial | fail)
        | (refine ⟨Sub.refl _, ?_⟩)
        | (refine brA_split (fun h => ?_) (fun h => ?_) <;> (try rw [h]) <;> (try simp only [Bool.false_eq_true, Bool.true_eq_false, ↓reduceIte, decide_eq_true_eq, decide_eq_false_iff_not, Bool.not_eq_true', Bool.not_eq_false'] at h) <;> (conv => whnf))
        | (refine getB_of (by ((repeat (first | exact set_bx_same | assumption | refine (set_bx_other (by assumption)).trans ?_ | refine grow_bx.trans ?_)); done)) ?_; conv => whnf)
        | (refine ACalls.pure' ?_ (h2); rintro _ rfl; conv => whnf)
        | (refine DCall.pure ?_ (h2); conv => whnf)
        | (refine ACalls.pure' ?_ (awake_ok hQ hT hE); rintro _ rfl; conv => whnf)
        | (refine DCall.pure ?_ (awake_ok hQ hT hE); conv => whnf)
        | (refine EqAgg.of grdFail planFail ?_; conv => whnf)
        | (refine getB_same ?_; conv => whnf)
        | (refine AWp.any (by kernel_rfl) (by kernel_rfl) (by kernel_rfl) ?_; conv => whnf)
        | (apply And.intro; (focus (first | omega | rfl | decide | exact Nat.le_of_ble_eq_true rfl | ((repeat' (first | exact all_nil | refine all_cons ?_ ?_ | rfl | fail)); done) | (simp [-List.length_flatMap]; done) | (simp [-List.length_flatMap]; omega) | fail)); conv => whnf)
        | fail)
      refine AWp.loopA [9] [52, 53, 54, 55, 58, 59, 60, 61, 62, 63, 64, 65, 66, 2, 56, 57] (fun i : Nat => [.int .i64 i]) (fun i s' => i ≤ m.length ∧ Sub s s') (fun i => m.length - i) (0) (by kernel_rfl) (by (repeat' (first | refine cons_eq ?_ ?_ | refine int64_of ?_ ?_ ?_ | rfl | omega))) ?_ ?_
      · exact ⟨Nat.zero_le _, ((Sub.refl _).set hb1 _ _).set hb1 _ _⟩
      · rintro x i s1 ⟨hi, hs1⟩
        show awp _ _ _ _ _ (updL _ _ [.int .i64 (i : Int)]) _
        conv => whnf
        by_cases hlt : i < m.length
        · have hg := toksA_get hlt
          rw [tokA] at hg
          generalize m.getD i (0, [], 0, 0) = z at hg
          repeat' (first
            | (exfalso; first | omega | exact (by assumption : ¬ True) trivial | fail)
            | (refine ⟨Sub.refl _, ?_⟩)
            | (refine brA_split (fun h => ?_) (fun h => ?_) <;> (try rw [h]) <;> (try simp only [Bool.false_eq_true, Bool.true_eq_false, ↓reduceIte, decide_eq_true_eq, decide_eq_false_iff_not, Bool.not_eq_true', Bool.not_eq_false'] at h) <;> (conv => whnf))
            | (rw [show (toksA m).getD ((i : Int)).toNat [] = _ from hg]; conv => whnf)
            | (refine EqAgg.of grdTok planTok ?_; conv => whnf)
            | (refine getB_of (by ((repeat (first | exact set_bx_same | assumption | refine (set_bx_other (by assumption)).trans ?_ | refine grow_bx.trans ?_)); done)) ?_; conv => whnf)
            | (refine getB_same ?_; conv => whnf)
            | (refine AWp.any (by kernel_rfl) (by kernel_rfl) (by kernel_rfl) ?_; conv => whnf)
            | (apply And.intro; (focus (first | omega | rfl | decide | exact Nat.le_of_ble_eq_true rfl | ((repeat' (first | exact all_nil | refine all_cons ?_ ?_ | rfl | fail)); done) | (simp [-List.length_flatMap]; done) | (simp [-List.length_flatMap]; omega) | fail)); conv => whnf)
            | fail)
          · exfalso; revert h; simp
          · exact ⟨i + 1, by (repeat' (first | refine cons_eq ?_ ?_ | refine int64_of ?_ ?_ ?_ | rfl | omega)), by (repeat (first | exact Same.refl _ _ | refine Same.upd rfl ?_ | refine Same.updL rfl ?_ | refine Same.havoc rfl ?_)), ⟨by omega, hs1⟩, by omega⟩
        · repeat' (first
            | (exfalso; first | omega | exact (by assumption : ¬ True) trivial | fail)
            | (refine ⟨Sub.refl _, ?_⟩)
            | (refine brA_split (fun h => ?_) (fun h => ?_) <;> (try rw [h]) <;> (try simp only [Bool.false_eq_true, Bool.true_eq_false, ↓reduceIte, decide_eq_true_eq, decide_eq_false_iff_not, Bool.not_eq_true', Bool.not_eq_false'] at h) <;> (conv => whnf))
            | (refine ACalls.pure' ?_ (awake_ok hQ hT hE); rintro _ rfl; conv => whnf)
            | (refine DCall.pure ?_ (awake_ok hQ hT hE); conv => whnf)
            | (refine getB_same ?_; conv => whnf)
            | (refine AWp.any (by kernel_rfl) (by kernel_rfl) (by kernel_rfl) ?_; conv => whnf)
            | (apply And.intro; (focus (first | omega | rfl | decide | exact Nat.le_of_ble_eq_true rfl | ((repeat' (first | exact all_nil | refine all_cons ?_ ?_ | rfl | fail)); done) | (simp [-List.length_flatMap]; done) | (simp [-List.length_flatMap]; omega) | fail)); conv => whnf)
            | fail)
          first | exact ⟨hs1, rfl⟩ | rfl
end Go.Proofs.YtnelknhacamboaaDoor.Lx
