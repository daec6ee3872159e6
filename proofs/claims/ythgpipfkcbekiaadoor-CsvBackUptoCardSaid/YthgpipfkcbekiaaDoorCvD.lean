
/- Chapter 6: rows of fields: the reader. -/
import Derived.Test.YthgpipfkcbekiaaDoorCvC
import Derived.Test.YthgpipfkcbekiaaDoorKp1
import Derived.Test.YthgpipfkcbekiaaDoorAsF
import Derived.Test.YthgpipfkcbekiaaDoorIsF
set_option linter.all false
namespace Go.Proofs.YthgpipfkcbekiaaDoor.Cv
open Go Go.Ab Go.RowKit
variable {Γ : Nat → AV}
attribute [local irreducible] APure Sto.set Sto.grow
set_option maxRecDepth 10000
set_option maxHeartbeats 1000000

theorem grdFail : (!Tryd.prog.eqGuardType Tryd.prog.depth 30) = true := by kernel_rfl
theorem planFail : planT Tryd.prog 9999 30 = some [(0, 0), (1, 0), (2, 0)] := by kernel_rfl
theorem errno_ok (c x : Int) (hx : x = 3 ∨ x = 15 ∨ x = 17) : APure Tryd.prog Γ 25 [.iface 62 (.cptr [.int .i64 c, errA x])] fun v => v = .int .i64 x := by
  have hi := fun k : Int => IsF.is_ok (Γ := Γ) (.int .i64 c) x k
  refine APure.of_awp Tryd.func25 rfl (Nat.le_of_ble_eq_true (by kernel_rfl)) (by kernel_rfl) ?_
  intro s
  conv => whnf
  repeat' (first
    | (refine ⟨Sub.refl _, ?_⟩)
    | (refine brA_split (fun h => ?_) (fun h => ?_) <;> (try rw [h]) <;> (try simp only [Bool.false_eq_true, Bool.true_eq_false, ↓reduceIte, decide_eq_true_eq, decide_eq_false_iff_not, Bool.not_eq_true', Bool.not_eq_false'] at h) <;> (conv => whnf))
    | (refine getB_same ?_; conv => whnf)
    | (refine AWp.any (by kernel_rfl) (by kernel_rfl) (by kernel_rfl) ?_; conv => whnf)
    | (apply And.intro; (focus (first | omega | rfl | decide | exact Nat.le_of_ble_eq_true rfl | ((repeat' (first | exact all_nil | refine all_cons ?_ ?_ | rfl | fail)); done) | (simp [-List.length_flatMap]; done) | (simp [-List.length_flatMap]; omega) | fail)); conv => whnf)
    | fail)
  refine AWp.loopA [7] [8, 9, 10, 4, 11, 12, 13, 14, 15, 2, 16] (fun i : Nat => [.int .i64 i]) (fun i s' => i ≤ 2 ∧ s' = s ∧ (1 ≤ i → x ≠ 17) ∧ (2 ≤ i → x ≠ 3)) (fun i => 2 - i) (0) (by kernel_rfl) (by (repeat' (first | refine cons_eq ?_ ?_ | refine int64_of ?_ ?_ ?_ | rfl | omega))) ?_ ?_
  · exact ⟨by omega, rfl, by omega, by omega⟩
  · rintro y i _ ⟨h1, rfl, h2, h3⟩
    conv => whnf
    rcases (by omega : i = 0 ∨ i = 1 ∨ i = 2) with rfl | rfl | rfl
    · repeat' (first
        | (refine ⟨Sub.refl _, ?_⟩)
        | (refine brA_split (fun h => ?_) (fun h => ?_) <;> (try rw [h]) <;> (try simp only [Bool.false_eq_true, Bool.true_eq_false, ↓reduceIte, decide_eq_true_eq, decide_eq_false_iff_not, Bool.not_eq_true', Bool.not_eq_false'] at h) <;> (conv => whnf))
        | (refine ACalls.pure' ?_ (hi 17); rintro _ rfl; conv => whnf)
        | (refine DCall.pure ?_ (hi 17); conv => whnf)
        | (refine getB_same ?_; conv => whnf)
        | (refine AWp.any (by kernel_rfl) (by kernel_rfl) (by kernel_rfl) ?_; conv => whnf)
        | (apply And.intro; (focus (first | omega | rfl | decide | exact Nat.le_of_ble_eq_true rfl | ((repeat' (first | exact all_nil | refine all_cons ?_ ?_ | rfl | fail)); done) | (simp [-List.length_flatMap]; done) | (simp [-List.length_flatMap]; omega) | fail)); conv => whnf)
        | fail)
      · rw [eq_of_beq h]; rfl
      · exact ⟨1, by (repeat' (first | refine cons_eq ?_ ?_ | refine int64_of ?_ ?_ ?_ | rfl | omega)), by (repeat (first | exact Same.refl _ _ | refine Same.upd rfl ?_ | refine Same.updL rfl ?_ | refine Same.havoc rfl ?_)), ⟨by omega, rfl, fun _ hh => by rw [hh] at h; exact absurd h (by decide), by omega⟩, by omega⟩
    · repeat' (first
        | (refine ⟨Sub.refl _, ?_⟩)
        | (refine brA_split (fun h => ?_) (fun h => ?_) <;> (try rw [h]) <;> (try simp only [Bool.false_eq_true, Bool.true_eq_false, ↓reduceIte, decide_eq_true_eq, decide_eq_false_iff_not, Bool.not_eq_true', Bool.not_eq_false'] at h) <;> (conv => whnf))
        | (refine ACalls.pure' ?_ (hi 3); rintro _ rfl; conv => whnf)
        | (refine DCall.pure ?_ (hi 3); conv => whnf)
        | (refine getB_same ?_; conv => whnf)
        | (refine AWp.any (by kernel_rfl) (by kernel_rfl) (by kernel_rfl) ?_; conv => whnf)
        | (apply And.intro; (focus (first | omega | rfl | decide | exact Nat.le_of_ble_eq_true rfl | ((repeat' (first | exact all_nil | refine all_cons ?_ ?_ | rfl | fail)); done) | (simp [-List.length_flatMap]; done) | (simp [-List.length_flatMap]; omega) | fail)); conv => whnf)
        | fail)
      · rw [eq_of_beq h]; rfl
      · exact ⟨2, by (repeat' (first | refine cons_eq ?_ ?_ | refine int64_of ?_ ?_ ?_ | rfl | omega)), by (repeat (first | exact Same.refl _ _ | refine Same.upd rfl ?_ | refine Same.updL rfl ?_ | refine Same.havoc rfl ?_)), ⟨by omega, rfl, fun _ => h2 (by omega), fun _ hh => by rw [hh] at h; exact absurd h (by decide)⟩, by omega⟩
    · repeat' (first
        | (refine ⟨Sub.refl _, ?_⟩)
        | (refine brA_split (fun h => ?_) (fun h => ?_) <;> (try rw [h]) <;> (try simp only [Bool.false_eq_true, Bool.true_eq_false, ↓reduceIte, decide_eq_true_eq, decide_eq_false_iff_not, Bool.not_eq_true', Bool.not_eq_false'] at h) <;> (conv => whnf))
        | (refine getB_same ?_; conv => whnf)
        | (refine AWp.any (by kernel_rfl) (by kernel_rfl) (by kernel_rfl) ?_; conv => whnf)
        | (apply And.intro; (focus (first | omega | rfl | decide | exact Nat.le_of_ble_eq_true rfl | ((repeat' (first | exact all_nil | refine all_cons ?_ ?_ | rfl | fail)); done) | (simp [-List.length_flatMap]; done) | (simp [-List.length_flatMap]; omega) | fail)); conv => whnf)
        | fail)
      have : x = 15 := by
        have := h2 (by omega)
        have := h3 (by omega)
        omega
      rw [this]; rfl
theorem rowF_ok_bound : ∀ (k : Nat) (l : List UInt8) (m : List (List UInt8)) (z : Nat), rowF k l = .ok (m, z) → z ≤ l.length ∧ (l ≠ [] → 1 ≤ z) ∧ m.length ≤ z + 1 ∧ 1 ≤ m.length
  | 0, l, m, z => fun h => by cases h
  | k + 1, l, m, z => fun h => by
    cases hf : fieldF l with
    | none => rw [rowF_none hf] at h; cases h
    | some x =>
      obtain ⟨f, n⟩ := x
      have hb := field_bound hf
      by_cases hc : chkF f (l.drop n) (startsQ l) = 0
      · by_cases hn : n = l.length
        · rw [rowF_end hf hc hn] at h
          cases h
          refine ⟨hb.2, fun hne => ?_, by simp, by simp⟩
          rw [hn]
          exact List.length_pos_iff.2 hne
        · by_cases h44 : byteAt l n = 44
          · rw [rowF_more hf hc hn h44] at h
            cases hr : rowF k (l.drop (n + 1)) with
            | error e => rw [hr] at h; cases h
            | ok y =>
              obtain ⟨m', z'⟩ := y
              rw [hr] at h
              cases h
              have := rowF_ok_bound k _ m' z' hr
              rw [List.length_drop] at this
              simp only [List.length_append, List.length_cons, List.length_nil]
              refine ⟨by omega, fun _ => by omega, by omega, by omega⟩
          · rw [rowF_line hf hc hn h44] at h
            cases h
            have hcr : crlf (l.drop n) = true := by
              by_cases hcr : crlf (l.drop n) = true
              · exact hcr
              · have hcr' : crlf (l.drop n) = false := by simpa using hcr
                by_cases hlong : (4096 : Int) < f.length
                · rw [chk_long hlong] at hc; cases hc
                · rw [chk_bad hlong (fun hd => hn (by have := List.length_drop (i := n) (l := l); rw [hd] at this; simp only [List.length_nil] at this; omega)) (by rw [byteAt_drop, Nat.add_zero]; exact h44) hcr'] at hc
                  split at hc <;> cases hc
            have := (crlf_iff.1 hcr).1
            rw [List.length_drop] at this
            exact ⟨by omega, fun _ => by omega, by simp, by simp⟩
      · rw [rowF_bad hf hc] at h; cases h
theorem rowF_err : ∀ (k : Nat) (l : List UInt8) (e c : Int), l.length < k → rowF k l = .error (e, c) → (e = 3 ∨ e = 15 ∨ e = 17) ∧ 1 ≤ c ∧ c ≤ l.length + 1
  | 0, l, e, c => fun h => by omega
  | k + 1, l, e, c => fun hk h => by
    cases hf : fieldF l with
    | none =>
      rw [rowF_none hf] at h
      cases h
      exact ⟨by simp, by omega, by omega⟩
    | some x =>
      obtain ⟨f, n⟩ := x
      by_cases hc : chkF f (l.drop n) (startsQ l) = 0
      · by_cases hn : n = l.length
        · rw [rowF_end hf hc hn] at h; cases h
        · by_cases h44 : byteAt l n = 44
          · rw [rowF_more hf hc hn h44] at h
            cases hr : rowF k (l.drop (n + 1)) with
            | ok y => rw [hr] at h; cases h
            | error y =>
              obtain ⟨e', c'⟩ := y
              rw [hr] at h
              simp only [addR, Except.error.injEq, Prod.mk.injEq] at h
              obtain ⟨rfl, rfl⟩ := h
              have hb := field_bound hf
              have := rowF_err k _ _ _ (by rw [List.length_drop]; omega) hr
              rw [List.length_drop] at this
              refine ⟨this.1, ?_, ?_⟩ <;> simp only [List.length_cons, List.length_nil] <;> omega
          · rw [rowF_line hf hc hn h44] at h; cases h
      · rw [rowF_bad hf hc] at h
        cases h
        have := chkF_bound f (l.drop n) (startsQ l)
        exact ⟨by omega, by omega, by omega⟩
/-- A reader: two boxes. -/
structure Rd (s : Sto) (br bp : Nat) (S : List UInt8) (a : Nat) (r : Int) (e : Int × Int × Int) : Prop where
  rd : s.bx br = some (58, [.ptr (some ⟨bp, 0, none⟩), .int .i64 e.1, .int .i64 e.2.1, .int .i64 e.2.2])
  pl : s.bx bp = some (56, [.str S, .int .i64 a, .int .i64 r])
  ne : bp ≠ br
theorem new_ok (S : List UInt8) (s : Sto) : ACalls Tryd.prog Γ 15 [.str S] s fun v s' => ∃ br bp, v = .ptr (some ⟨br, 0, none⟩) ∧ s.bx br = none ∧ s.bx bp = none ∧ Rd s' br bp S 0 0 (0, 0, 0) ∧ Sub s s' := by
  refine ACalls.of_awp Tryd.func15 rfl (Nat.le_of_ble_eq_true (by kernel_rfl)) (awp_ok _ (by kernel_rfl) ?_)
  conv => whnf
  repeat' (first
    | (refine ⟨Sub.refl _, ?_⟩)
    | (refine brA_split (fun h => ?_) (fun h => ?_) <;> (try rw [h]) <;> (try simp only [Bool.false_eq_true, Bool.true_eq_false, ↓reduceIte, decide_eq_true_eq, decide_eq_false_iff_not, Bool.not_eq_true', Bool.not_eq_false'] at h) <;> (conv => whnf))
    | (refine getB_same ?_; conv => whnf)
    | (refine AWp.any (by kernel_rfl) (by kernel_rfl) (by kernel_rfl) ?_; conv => whnf)
    | (apply And.intro; (focus (first | omega | rfl | decide | exact Nat.le_of_ble_eq_true rfl | ((repeat' (first | exact all_nil | refine all_cons ?_ ?_ | rfl | fail)); done) | (simp [-List.length_flatMap]; done) | (simp [-List.length_flatMap]; omega) | fail)); conv => whnf)
    | fail)
  intro bp hbp
  conv => whnf
  repeat' (first
    | (refine ⟨Sub.refl _, ?_⟩)
    | (refine brA_split (fun h => ?_) (fun h => ?_) <;> (try rw [h]) <;> (try simp only [Bool.false_eq_true, Bool.true_eq_false, ↓reduceIte, decide_eq_true_eq, decide_eq_false_iff_not, Bool.not_eq_true', Bool.not_eq_false'] at h) <;> (conv => whnf))
    | (refine getB_same ?_; conv => whnf)
    | (refine AWp.any (by kernel_rfl) (by kernel_rfl) (by kernel_rfl) ?_; conv => whnf)
    | (apply And.intro; (focus (first | omega | rfl | decide | exact Nat.le_of_ble_eq_true rfl | ((repeat' (first | exact all_nil | refine all_cons ?_ ?_ | rfl | fail)); done) | (simp [-List.length_flatMap]; done) | (simp [-List.length_flatMap]; omega) | fail)); conv => whnf)
    | fail)
  intro br hbr
  have n_bp_br : bp ≠ br := ne_of_none (by ((repeat (first | exact set_bx_same | assumption | refine (set_bx_other (by assumption)).trans ?_ | refine grow_bx.trans ?_)); done)) hbr
  have n_br_bp : br ≠ bp := fun h => n_bp_br h.symm
  conv => whnf
  repeat' (first
    | (refine ⟨Sub.refl _, ?_⟩)
    | (refine brA_split (fun h => ?_) (fun h => ?_) <;> (try rw [h]) <;> (try simp only [Bool.false_eq_true, Bool.true_eq_false, ↓reduceIte, decide_eq_true_eq, decide_eq_false_iff_not, Bool.not_eq_true', Bool.not_eq_false'] at h) <;> (conv => whnf))
    | (refine getB_same ?_; conv => whnf)
    | (refine AWp.any (by kernel_rfl) (by kernel_rfl) (by kernel_rfl) ?_; conv => whnf)
    | (apply And.intro; (focus (first | omega | rfl | decide | exact Nat.le_of_ble_eq_true rfl | ((repeat' (first | exact all_nil | refine all_cons ?_ ?_ | rfl | fail)); done) | (simp [-List.length_flatMap]; done) | (simp [-List.length_flatMap]; omega) | fail)); conv => whnf)
    | fail)
  have g := (none_set hbr).2
  exact ⟨_, Sub.refl _, br, bp, rfl, g, hbp, ⟨set_bx_same, (by ((repeat (first | exact set_bx_same | assumption | refine (set_bx_other (by assumption)).trans ?_ | refine grow_bx.trans ?_)); done)), n_bp_br⟩, ((Sub.refl _).set hbp _ _).set g _ _⟩
theorem rest_ok {s : Sto} {bp : Nat} {S : List UInt8} {a : Nat} {r : Int} (h : s.bx bp = some (56, [.str S, .int .i64 a, .int .i64 r])) (ha : a ≤ S.length) (hS : S.length ≤ 4194304) :
    ACalls Tryd.prog Γ 22 [.ptr (some ⟨bp, 0, none⟩)] s fun v s' => v = .int .i64 ((S.length : Int) - a) ∧ s' = s := by
  refine ACalls.of_awp Tryd.func22 rfl (Nat.le_of_ble_eq_true (by kernel_rfl)) (awp_ok _ (by kernel_rfl) ?_)
  conv => whnf
  repeat' (first
    | (refine ⟨Sub.refl _, ?_⟩)
    | (refine brA_split (fun h => ?_) (fun h => ?_) <;> (try rw [h]) <;> (try simp only [Bool.false_eq_true, Bool.true_eq_false, ↓reduceIte, decide_eq_true_eq, decide_eq_false_iff_not, Bool.not_eq_true', Bool.not_eq_false'] at h) <;> (conv => whnf))
    | (refine getB_of (by ((repeat (first | exact set_bx_same | assumption | refine (set_bx_other (by assumption)).trans ?_ | refine grow_bx.trans ?_)); done)) ?_; conv => whnf)
    | (refine getB_same ?_; conv => whnf)
    | (refine AWp.any (by kernel_rfl) (by kernel_rfl) (by kernel_rfl) ?_; conv => whnf)
    | (apply And.intro; (focus (first | omega | rfl | decide | exact Nat.le_of_ble_eq_true rfl | ((repeat' (first | exact all_nil | refine all_cons ?_ ?_ | rfl | fail)); done) | (simp [-List.length_flatMap]; done) | (simp [-List.length_flatMap]; omega) | fail)); conv => whnf)
    | fail)
  exact ⟨_, Sub.refl _, int64_of rfl (by omega) (by omega), rfl⟩
theorem fail_ok {s : Sto} {br bp : Nat} {e : Int × Int × Int} (h : s.bx br = some (58, [.ptr (some ⟨bp, 0, none⟩), .int .i64 e.1, .int .i64 e.2.1, .int .i64 e.2.2])) :
    ACalls Tryd.prog Γ 17 [.ptr (some ⟨br, 0, none⟩)] s fun v s' => v = .agg [.int .i64 e.1, .int .i64 e.2.1, .int .i64 e.2.2] ∧ s' = s := by
  refine ACalls.of_awp Tryd.func17 rfl (Nat.le_of_ble_eq_true (by kernel_rfl)) (awp_ok _ (by kernel_rfl) ?_)
  conv => whnf
  intro b hb
  have n_br_b : br ≠ b := ne_of_none (by ((repeat (first | exact set_bx_same | assumption | refine (set_bx_other (by assumption)).trans ?_ | refine grow_bx.trans ?_)); done)) hb
  have n_b_br : b ≠ br := fun h => n_br_b h.symm
  conv => whnf
  repeat' (first
    | (refine ⟨Sub.refl _, ?_⟩)
    | (refine brA_split (fun h => ?_) (fun h => ?_) <;> (try rw [h]) <;> (try simp only [Bool.false_eq_true, Bool.true_eq_false, ↓reduceIte, decide_eq_true_eq, decide_eq_false_iff_not, Bool.not_eq_true', Bool.not_eq_false'] at h) <;> (conv => whnf))
    | (refine getB_of (by ((repeat (first | exact set_bx_same | assumption | refine (set_bx_other (by assumption)).trans ?_ | refine grow_bx.trans ?_)); done)) ?_; conv => whnf)
    | (refine getB_same ?_; conv => whnf)
    | (refine AWp.any (by kernel_rfl) (by kernel_rfl) (by kernel_rfl) ?_; conv => whnf)
    | (apply And.intro; (focus (first | omega | rfl | decide | exact Nat.le_of_ble_eq_true rfl | ((repeat' (first | exact all_nil | refine all_cons ?_ ?_ | rfl | fail)); done) | (simp [-List.length_flatMap]; done) | (simp [-List.length_flatMap]; omega) | fail)); conv => whnf)
    | fail)
  exact ⟨s, (Sub.refl _).set hb _ _ |>.set hb _ _, rfl, rfl⟩
theorem failNil_ok : APure Tryd.prog Γ 17 [.ptr none] fun v => v = .agg [.int .i64 0, .int .i64 0, .int .i64 0] := by
  refine APure.of_awp Tryd.func17 rfl (Nat.le_of_ble_eq_true (by kernel_rfl)) (by kernel_rfl) ?_
  intro s
  conv => whnf
  intro b hb
  conv => whnf
  repeat' (first
    | (refine ⟨Sub.refl _, ?_⟩)
    | (refine brA_split (fun h => ?_) (fun h => ?_) <;> (try rw [h]) <;> (try simp only [Bool.false_eq_true, Bool.true_eq_false, ↓reduceIte, decide_eq_true_eq, decide_eq_false_iff_not, Bool.not_eq_true', Bool.not_eq_false'] at h) <;> (conv => whnf))
    | (refine getB_of (by ((repeat (first | exact set_bx_same | assumption | refine (set_bx_other (by assumption)).trans ?_ | refine grow_bx.trans ?_)); done)) ?_; conv => whnf)
    | (refine getB_same ?_; conv => whnf)
    | (refine AWp.any (by kernel_rfl) (by kernel_rfl) (by kernel_rfl) ?_; conv => whnf)
    | (apply And.intro; (focus (first | omega | rfl | decide | exact Nat.le_of_ble_eq_true rfl | ((repeat' (first | exact all_nil | refine all_cons ?_ ?_ | rfl | fail)); done) | (simp [-List.length_flatMap]; done) | (simp [-List.length_flatMap]; omega) | fail)); conv => whnf)
    | fail)
  exact ⟨(Sub.refl _).set hb _ _ |>.set hb _ _, rfl⟩
theorem nextNil_ok : APure Tryd.prog Γ 16 [.ptr none] fun v => v = .tuple [.slice 1 [], .bool false] := by
  refine APure.of_awp Tryd.func16 rfl (Nat.le_of_ble_eq_true (by kernel_rfl)) (by kernel_rfl) ?_
  intro s
  conv => whnf
  repeat' (first
    | (refine ⟨Sub.refl _, ?_⟩)
    | (refine brA_split (fun h => ?_) (fun h => ?_) <;> (try rw [h]) <;> (try simp only [Bool.false_eq_true, Bool.true_eq_false, ↓reduceIte, decide_eq_true_eq, decide_eq_false_iff_not, Bool.not_eq_true', Bool.not_eq_false'] at h) <;> (conv => whnf))
    | (refine getB_of (by ((repeat (first | exact set_bx_same | assumption | refine (set_bx_other (by assumption)).trans ?_ | refine grow_bx.trans ?_)); done)) ?_; conv => whnf)
    | (refine getB_same ?_; conv => whnf)
    | (refine AWp.any (by kernel_rfl) (by kernel_rfl) (by kernel_rfl) ?_; conv => whnf)
    | (apply And.intro; (focus (first | omega | rfl | decide | exact Nat.le_of_ble_eq_true rfl | ((repeat' (first | exact all_nil | refine all_cons ?_ ?_ | rfl | fail)); done) | (simp [-List.length_flatMap]; done) | (simp [-List.length_flatMap]; omega) | fail)); conv => whnf)
    | fail)
  rfl
theorem nextDone_ok {s : Sto} {br bp : Nat} {S : List UInt8} {a : Nat} {r : Int} {e : Int × Int × Int} (hR : Rd s br bp S a r e) (ha : a ≤ S.length) (hS : S.length ≤ 4194304) (hd : e ≠ (0, 0, 0) ∨ a = S.length) :
    ACalls Tryd.prog Γ 16 [.ptr (some ⟨br, 0, none⟩)] s fun v s' => v = .tuple [.slice 1 [], .bool false] ∧ s' = s := by
  have h1 := hR.rd
  have h2 := hR.pl
  refine ACalls.of_awp Tryd.func16 rfl (Nat.le_of_ble_eq_true (by kernel_rfl)) (awp_ok _ (by kernel_rfl) ?_)
  conv => whnf
  repeat' (first
    | (exfalso; first | omega | exact (by assumption : ¬ True) trivial | fail)
    | (refine ⟨Sub.refl _, ?_⟩)
    | (refine brA_split (fun h => ?_) (fun h => ?_) <;> (try rw [h]) <;> (try simp only [Bool.false_eq_true, Bool.true_eq_false, ↓reduceIte, decide_eq_true_eq, decide_eq_false_iff_not, Bool.not_eq_true', Bool.not_eq_false'] at h) <;> (conv => whnf))
    | (refine getB_of (by ((repeat (first | exact set_bx_same | assumption | refine (set_bx_other (by assumption)).trans ?_ | refine grow_bx.trans ?_)); done)) ?_; conv => whnf)
    | (refine EqAgg.of grdFail planFail ?_; conv => whnf)
    | (refine ACalls.by (rest_ok h2 ha hS) ?_; rintro _ _ ⟨rfl, rfl⟩; conv => whnf)
    | (refine getB_same ?_; conv => whnf)
    | (refine AWp.any (by kernel_rfl) (by kernel_rfl) (by kernel_rfl) ?_; conv => whnf)
    | (apply And.intro; (focus (first | omega | rfl | decide | exact Nat.le_of_ble_eq_true rfl | ((repeat' (first | exact all_nil | refine all_cons ?_ ?_ | rfl | fail)); done) | (simp [-List.length_flatMap]; done) | (simp [-List.length_flatMap]; omega) | fail)); conv => whnf)
    | fail)
  · exact ⟨_, Sub.refl _, rfl, rfl⟩
  · exact ⟨_, Sub.refl _, rfl, rfl⟩
  · exfalso
    rcases hd with hd | hd
    · have h3 := (by assumption : (if (some (⟨br, 0, none⟩ : Addr)).isNone = true then true else !(decide (e.1 = 0) && (decide (e.2.1 = 0) && (decide (e.2.2 = 0) && true)))) = false)
      simp at h3
      exact hd (Prod.ext h3.1 (Prod.ext h3.2.1 h3.2.2))
    · omega
theorem nextOpen (e : Int × Int × Int) : e = (0, 0, 0) → (decide (e.1 = 0) && (decide (e.2.1 = 0) && (decide (e.2.2 = 0) && true))) = true := by rintro rfl; rfl
theorem nextBad_ok (hE : AsF.ErrT Γ) {s : Sto} {br bp : Nat} {S : List UInt8} {a : Nat} {r x c : Int} (hR : Rd s br bp S a r (0, 0, 0)) (ha : a < S.length) (hS : S.length ≤ 4194304) (hr : 0 ≤ r ∧ r ≤ 100000000) (hx : row (S.drop a) = .error (x, c)) :
    ACalls Tryd.prog Γ 16 [.ptr (some ⟨br, 0, none⟩)] s fun v s' => v = .tuple [.slice 1 [], .bool false] ∧ Rd s' br bp S a r (x, r + 1, c) ∧ Stays (B2 br bp) s s' := by
  have h1 := hR.rd
  have h2 := hR.pl
  have n_bp_br := hR.ne
  have n_br_bp : br ≠ bp := fun h => n_bp_br h.symm
  have hfi := progFields_ok (Γ := Γ) (S.drop a) (by rw [List.length_drop]; omega)
  rw [hx] at hfi
  have hA : List.drop ((a : Int)).toNat (List.take S.length S) = S.drop a := by rw [Int.toNat_natCast, drop_take_all]
  have hxe := rowF_err _ _ _ _ (Nat.lt_succ_self _) hx
  have hen := errno_ok (Γ := Γ) c x hxe.1
  refine ACalls.of_awp Tryd.func16 rfl (Nat.le_of_ble_eq_true (by kernel_rfl)) (awp_ok _ (by kernel_rfl) ?_)
  conv => whnf
  repeat' (first
    | (exfalso; first | omega | exact (by assumption : ¬ True) trivial | fail)
    | (refine ⟨Sub.refl _, ?_⟩)
    | (refine brA_split (fun h => ?_) (fun h => ?_) <;> (try rw [h]) <;> (try simp only [Bool.false_eq_true, Bool.true_eq_false, ↓reduceIte, decide_eq_true_eq, decide_eq_false_iff_not, Bool.not_eq_true', Bool.not_eq_false'] at h) <;> (conv => whnf))
    | (refine getB_of (by ((repeat (first | exact set_bx_same | assumption | refine (set_bx_other (by assumption)).trans ?_ | refine grow_bx.trans ?_)); done)) ?_; conv => whnf)
    | (refine EqAgg.of grdFail planFail ?_; conv => whnf)
    | (refine ACalls.by (rest_ok h2 (Nat.le_of_lt ha) hS) ?_; rintro _ _ ⟨rfl, rfl⟩; conv => whnf)
    | (rw [hA]; conv => whnf)
    | (refine ACalls.pure' ?_ (hfi); rintro _ rfl; conv => whnf)
    | (refine DCall.pure ?_ (hfi); conv => whnf)
    | (refine getB_same ?_; conv => whnf)
    | (refine AWp.any (by kernel_rfl) (by kernel_rfl) (by kernel_rfl) ?_; conv => whnf)
    | (apply And.intro; (focus (first | omega | rfl | decide | exact Nat.le_of_ble_eq_true rfl | ((repeat' (first | exact all_nil | refine all_cons ?_ ?_ | rfl | fail)); done) | (simp [-List.length_flatMap]; done) | (simp [-List.length_flatMap]; omega) | fail)); conv => whnf)
    | fail)
  · exfalso
    simp at h
    omega
  intro bb hbb
  have n_br_bb : br ≠ bb := ne_of_none (by ((repeat (first | exact set_bx_same | assumption | refine (set_bx_other (by assumption)).trans ?_ | refine grow_bx.trans ?_)); done)) hbb
  have n_bb_br : bb ≠ br := fun h => n_br_bb h.symm
  have n_bp_bb : bp ≠ bb := ne_of_none (by ((repeat (first | exact set_bx_same | assumption | refine (set_bx_other (by assumption)).trans ?_ | refine grow_bx.trans ?_)); done)) hbb
  have n_bb_bp : bb ≠ bp := fun h => n_bp_bb h.symm
  conv => whnf
  repeat' (first
    | (exfalso; first | omega | exact (by assumption : ¬ True) trivial | fail)
    | (refine ⟨Sub.refl _, ?_⟩)
    | (refine brA_split (fun h => ?_) (fun h => ?_) <;> (try rw [h]) <;> (try simp only [Bool.false_eq_true, Bool.true_eq_false, ↓reduceIte, decide_eq_true_eq, decide_eq_false_iff_not, Bool.not_eq_true', Bool.not_eq_false'] at h) <;> (conv => whnf))
    | (refine getB_of (by ((repeat (first | exact set_bx_same | assumption | refine (set_bx_other (by assumption)).trans ?_ | refine grow_bx.trans ?_)); done)) ?_; conv => whnf)
    | (refine ACalls.by (AsF.asHit_ok hE _ set_bx_same) ?_; rintro _ _ ⟨rfl, rfl⟩; conv => whnf)
    | (refine ACalls.pure' ?_ (hen); rintro _ rfl; conv => whnf)
    | (refine DCall.pure ?_ (hen); conv => whnf)
    | (refine getB_same ?_; conv => whnf)
    | (refine AWp.any (by kernel_rfl) (by kernel_rfl) (by kernel_rfl) ?_; conv => whnf)
    | (apply And.intro; (focus (first | omega | rfl | decide | exact Nat.le_of_ble_eq_true rfl | ((repeat' (first | exact all_nil | refine all_cons ?_ ?_ | rfl | fail)); done) | (simp [-List.length_flatMap]; done) | (simp [-List.length_flatMap]; omega) | fail)); conv => whnf)
    | fail)
  rw [show IntKind.i64.wrap (r + 1) = r + 1 from i64_of rfl (by omega) (by omega)]
  exact ⟨_, Sub.refl _, rfl, ⟨set_bx_same, (by ((repeat (first | exact set_bx_same | assumption | refine (set_bx_other (by assumption)).trans ?_ | refine grow_bx.trans ?_)); done)), n_bp_br⟩, (((Stays.refl _ _).fresh hbb _ _).fresh hbb _ _).set (.inl rfl) _ _⟩
theorem nextRow_ok {s : Sto} {br bp : Nat} {S : List UInt8} {a z : Nat} {r : Int} {m : List (List UInt8)} (hR : Rd s br bp S a r (0, 0, 0)) (ha : a < S.length) (hS : S.length ≤ 4194304) (hr : 0 ≤ r ∧ r ≤ 100000000) (hx : row (S.drop a) = .ok (m, z)) :
    ACalls Tryd.prog Γ 16 [.ptr (some ⟨br, 0, none⟩)] s fun v s' => v = .tuple [.slice 0 (strsA m), .bool true] ∧ Rd s' br bp S (a + z) (r + 1) (0, 0, 0) ∧ Stays (B2 br bp) s s' := by
  have h1 := hR.rd
  have h2 := hR.pl
  have n_bp_br := hR.ne
  have n_br_bp : br ≠ bp := fun h => n_bp_br h.symm
  have hfi := progFields_ok (Γ := Γ) (S.drop a) (by rw [List.length_drop]; omega)
  rw [hx] at hfi
  have hA : List.drop ((a : Int)).toNat (List.take S.length S) = S.drop a := by rw [Int.toNat_natCast, drop_take_all]
  have hz := (rowF_ok_bound _ _ _ _ hx).1
  rw [List.length_drop] at hz
  refine ACalls.of_awp Tryd.func16 rfl (Nat.le_of_ble_eq_true (by kernel_rfl)) (awp_ok _ (by kernel_rfl) ?_)
  conv => whnf
  repeat' (first
    | (exfalso; first | omega | exact (by assumption : ¬ True) trivial | fail)
    | (refine ⟨Sub.refl _, ?_⟩)
    | (refine brA_split (fun h => ?_) (fun h => ?_) <;> (try rw [h]) <;> (try simp only [Bool.false_eq_true, Bool.true_eq_false, ↓reduceIte, decide_eq_true_eq, decide_eq_false_iff_not, Bool.not_eq_true', Bool.not_eq_false'] at h) <;> (conv => whnf))
    | (refine getB_of (by ((repeat (first | exact set_bx_same | assumption | refine (set_bx_other (by assumption)).trans ?_ | refine grow_bx.trans ?_)); done)) ?_; conv => whnf)
    | (refine EqAgg.of grdFail planFail ?_; conv => whnf)
    | (refine ACalls.by (rest_ok h2 (Nat.le_of_lt ha) hS) ?_; rintro _ _ ⟨rfl, rfl⟩; conv => whnf)
    | (rw [hA]; conv => whnf)
    | (refine ACalls.pure' ?_ (hfi); rintro _ rfl; conv => whnf)
    | (refine DCall.pure ?_ (hfi); conv => whnf)
    | (refine getB_same ?_; conv => whnf)
    | (refine AWp.any (by kernel_rfl) (by kernel_rfl) (by kernel_rfl) ?_; conv => whnf)
    | (apply And.intro; (focus (first | omega | rfl | decide | exact Nat.le_of_ble_eq_true rfl | ((repeat' (first | exact all_nil | refine all_cons ?_ ?_ | rfl | fail)); done) | (simp [-List.length_flatMap]; done) | (simp [-List.length_flatMap]; omega) | fail)); conv => whnf)
    | fail)
  · exfalso
    simp at h
    omega
  intro bb hbb
  have n_br_bb : br ≠ bb := ne_of_none (by ((repeat (first | exact set_bx_same | assumption | refine (set_bx_other (by assumption)).trans ?_ | refine grow_bx.trans ?_)); done)) hbb
  have n_bb_br : bb ≠ br := fun h => n_br_bb h.symm
  have n_bp_bb : bp ≠ bb := ne_of_none (by ((repeat (first | exact set_bx_same | assumption | refine (set_bx_other (by assumption)).trans ?_ | refine grow_bx.trans ?_)); done)) hbb
  have n_bb_bp : bb ≠ bp := fun h => n_bp_bb h.symm
  conv => whnf
  repeat' (first
    | (exfalso; first | omega | exact (by assumption : ¬ True) trivial | fail)
    | (refine ⟨Sub.refl _, ?_⟩)
    | (refine brA_split (fun h => ?_) (fun h => ?_) <;> (try rw [h]) <;> (try simp only [Bool.false_eq_true, Bool.true_eq_false, ↓reduceIte, decide_eq_true_eq, decide_eq_false_iff_not, Bool.not_eq_true', Bool.not_eq_false'] at h) <;> (conv => whnf))
    | (refine getB_of (by ((repeat (first | exact set_bx_same | assumption | refine (set_bx_other (by assumption)).trans ?_ | refine grow_bx.trans ?_)); done)) ?_; conv => whnf)
    | (refine ACalls.pure' ?_ (AsF.asNil_ok _); rintro _ rfl; conv => whnf)
    | (refine DCall.pure ?_ (AsF.asNil_ok _); conv => whnf)
    | (refine getB_same ?_; conv => whnf)
    | (refine AWp.any (by kernel_rfl) (by kernel_rfl) (by kernel_rfl) ?_; conv => whnf)
    | (apply And.intro; (focus (first | omega | rfl | decide | exact Nat.le_of_ble_eq_true rfl | ((repeat' (first | exact all_nil | refine all_cons ?_ ?_ | rfl | fail)); done) | (simp [-List.length_flatMap]; done) | (simp [-List.length_flatMap]; omega) | fail)); conv => whnf)
    | fail)
  rw [show IntKind.i64.wrap (r + 1) = r + 1 from i64_of rfl (by omega) (by omega), show IntKind.i64.wrap ((a : Int) + z) = ((a + z : Nat) : Int) from i64_of (by omega) (by omega) (by omega)]
  exact ⟨_, Sub.refl _, rfl, ⟨(by ((repeat (first | exact set_bx_same | assumption | refine (set_bx_other (by assumption)).trans ?_ | refine grow_bx.trans ?_)); done)), set_bx_same, n_bp_br⟩, ((((Stays.refl _ _).fresh hbb _ _)).set (.inr rfl) _ _).set (.inr rfl) _ _⟩
end Go.Proofs.YthgpipfkcbekiaaDoor.Cv
