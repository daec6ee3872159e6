/- Chapter 32: runs, as values. -/
import Derived.Test.YtecjpdcoghfmiaaGreatDoorVnG
import Derived.Test.YtecjpdcoghfmiaaGreatDoorFg4
import Derived.Test.YtecjpdcoghfmiaaGreatDoorBn1
set_option linter.all false
namespace Go.Proofs.YtecjpdcoghfmiaaGreatDoor.Vn
open Go Go.Ab Go.RowKit
variable {Γ : Nat → AV}
attribute [local irreducible] APure Sto.set Sto.grow
set_option maxRecDepth 10000
set_option maxHeartbeats 1000000

theorem chunks_cnt : ∀ (r : List (Int × Int)) (rest : List AV), chunks 1 r.length (r.map cnt ++ rest) = intsA .i64 (r.map (·.2))
  | [], _ => rfl
  | x :: r, rest => by
    show _ :: chunks 1 r.length _ = _
    rw [show ((x :: r).map cnt ++ rest).drop 1 = r.map cnt ++ rest from rfl, chunks_cnt r rest]
    rfl
theorem runsV_ok (t0 : Nat) (l : List Int) (hl : l.length ≤ 1000000) : APure Tryz.prog Γ 7 [.slice t0 (intsA .i64 l)] fun v => v = .tuple [.slice 0 (intsA .i64 ((runsOf l).map (·.1))), .slice 0 (intsA .i64 ((runsOf l).map (·.2)))] := by
  by_cases h0 : l = []
  · subst h0
    refine APure.fgt fun s => ?_
    refine ACalls.of_awp Tryz.func7 rfl (Nat.le_of_ble_eq_true (by kernel_rfl)) (awp_ok _ (by kernel_rfl) ?_)
    conv => whnf
    repeat' (first
      | (refine ⟨Sub.refl _, ?_⟩)
      | (refine brA_split (fun h => ?_) (fun h => ?_) <;> (try rw [h]) <;> (try simp only [Bool.false_eq_true, Bool.true_eq_false, ↓reduceIte, decide_eq_true_eq, decide_eq_false_iff_not, Bool.not_eq_true', Bool.not_eq_false'] at h) <;> (conv => whnf))
      | (refine getB_same ?_; conv => whnf)
      | (refine AWp.any (by kernel_rfl) (by kernel_rfl) (by kernel_rfl) ?_; conv => whnf)
      | (apply And.intro; (focus (first | omega | rfl | decide | exact Nat.le_of_ble_eq_true rfl | ((repeat' (first | exact all_nil | refine all_cons ?_ ?_ | rfl | fail)); done) | (simp [-List.length_flatMap]; done) | (simp [-List.length_flatMap]; omega) | fail)); conv => whnf)
      | fail)
    refine AWp.loopA [4, 5, 10] [11, 12, 13, 14, 6, 7, 15, 16, 17, 18, 19, 20, 21, 22, 23, 24, 25, 26, 27, 28, 29, 30, 31, 32, 33, 34, 35, 36, 37, 38, 39, 40, 41] (fun i : Nat => [.slice 1 [], .slice 1 [], .int .i64 i]) (fun i s' => i = 0 ∧ s' = s) (fun i => 0) (0) (by kernel_rfl) (by (repeat' (first | refine cons_eq ?_ ?_ | refine int64_of ?_ ?_ ?_ | rfl | omega))) ?_ ?_
    · exact ⟨rfl, rfl⟩
    · rintro y i s1 ⟨rfl, rfl⟩
      show awp _ _ _ _ _ (updL _ _ [.slice 1 [], .slice 1 [], .int .i64 ((0 : Nat) : Int)]) _
      conv => whnf
      have hz : (intsA .i64 ([] : List Int)).length = 0 := rfl
      repeat' (first
        | (exfalso; first | omega | exact (by assumption : ¬ True) trivial | fail)
        | (refine ⟨Sub.refl _, ?_⟩)
        | (refine brA_split (fun h => ?_) (fun h => ?_) <;> (try rw [h]) <;> (try simp only [Bool.false_eq_true, Bool.true_eq_false, ↓reduceIte, decide_eq_true_eq, decide_eq_false_iff_not, Bool.not_eq_true', Bool.not_eq_false'] at h) <;> (conv => whnf))
        | (refine getB_same ?_; conv => whnf)
        | (refine AWp.any (by kernel_rfl) (by kernel_rfl) (by kernel_rfl) ?_; conv => whnf)
        | (apply And.intro; (focus (first | omega | rfl | decide | exact Nat.le_of_ble_eq_true rfl | ((repeat' (first | exact all_nil | refine all_cons ?_ ?_ | rfl | fail)); done) | (simp [-List.length_flatMap]; done) | (simp [-List.length_flatMap]; omega) | fail)); conv => whnf)
        | fail)
      refine ⟨_, Sub.refl _, ?_, Sub.refl _⟩
      simp only [tupA, fg, fgL, fgE, runsOf, List.foldl_nil, List.map_nil, intsA]
  · refine APure.frz fun s => ?_
    refine (runs_ok t0 l hl s).mono ?_
    rintro _ s' ⟨t, a, cap, rfl, hs, hof⟩
    have hne : runsOf l ≠ [] := by
      intro h
      have := (runs_all l).1
      rw [h] at this
      exact h0 this.symm
    obtain ⟨b, rest, rfl, hb0, hb1, hlen⟩ := hof.some hne
    refine ⟨fz1 b 1 ((runsOf l).map cnt ++ rest), fz1_of hb0 hb1, ?_, hs⟩
    have hm : fzW (fz1 b 1 ((runsOf l).map cnt ++ rest)) (some ⟨b, 0, none⟩) (runsOf l).length cap = .slice 0 (intsA .i64 ((runsOf l).map (·.2))) := by
      unfold fzW
      simp only [fz1_at]
      rw [if_pos ⟨by omega, by simp⟩, List.drop_zero, chunks_cnt]
    have hi : ∀ k : List Int, fzE (fz1 b 1 ((runsOf l).map cnt ++ rest)) (intsA .i64 k) = intsA .i64 k := fun k => fzE_map (A := fun n => [AV.int .i64 n]) (fun _ => by unfold fzL fzL fz; rfl) k
    simp only [fz, fzL, hm, hi, fg, fgL, fgE_ints]
end Go.Proofs.YtecjpdcoghfmiaaGreatDoor.Vn
/- Chapter 32: the document's runs. -/
namespace Go.Proofs.YtecjpdcoghfmiaaGreatDoor.Vn
open Go Go.Ab Go.RowKit
variable {Γ : Nat → AV}
attribute [local irreducible] APure Sto.set Sto.grow
set_option maxRecDepth 10000
set_option maxHeartbeats 1000000

def flatR : List (Int × Int) → List AV
  | [] => []
  | x :: r => .int .i64 x.1 :: .int .i64 x.2 :: flatR r
def runsA (r : List (Int × Int)) : List (List AV) := r.map fun x => [.int .i64 x.1, .int .i64 x.2]
theorem flatR_len : ∀ r : List (Int × Int), (flatR r).length = 2 * r.length
  | [] => rfl
  | x :: r => by
    have := flatR_len r
    simp only [flatR, List.length_cons]
    omega
theorem flatR_app : ∀ a b : List (Int × Int), flatR (a ++ b) = flatR a ++ flatR b
  | [], b => rfl
  | x :: a, b => by rw [List.cons_append, flatR, flatR, flatR_app a b]; rfl
theorem chunks_runs : ∀ (r : List (Int × Int)) (rest : List AV), chunks 2 r.length (flatR r ++ rest) = runsA r
  | [], _ => rfl
  | x :: r, rest => by
    show _ :: chunks 2 r.length _ = _
    rw [show (flatR (x :: r) ++ rest).drop 2 = flatR r ++ rest from rfl, chunks_runs r rest]
    rfl
theorem flat_drop (r q : List (Int × Int)) (rest : List AV) {k : Nat} (hk : k = 2 * r.length) : (flatR (r ++ q) ++ rest).drop k = flatR q ++ rest := by
  rw [hk, ← flatR_len, flatR_app, List.append_assoc, List.drop_left]
theorem flat_take (r q : List (Int × Int)) (rest : List AV) {k : Nat} (hk : k = 2 * r.length) : (flatR (r ++ q) ++ rest).take k = flatR r := by
  rw [hk, ← flatR_len, flatR_app, List.append_assoc, List.take_left]
theorem flat_drop1 (r : List (Int × Int)) (v n : Int) (rest : List AV) {k : Nat} (hk : k = 2 * r.length + 1) : (flatR (r ++ [(v, n)]) ++ rest).drop k = .int .i64 n :: rest := by
  rw [hk, ← List.drop_drop, flat_drop r [(v, n)] rest rfl]; rfl
theorem flat_put (r : List (Int × Int)) (v n m : Int) (rest : List AV) {k j : Nat} (hk : k = 2 * r.length + 1) (hj : j = 2 * r.length + 2) :
    (flatR (r ++ [(v, n)]) ++ rest).take k ++ [AV.int .i64 m] ++ (flatR (r ++ [(v, n)]) ++ rest).drop j = flatR (r ++ [(v, m)]) ++ rest := by
  have hd : (flatR (r ++ [(v, n)]) ++ rest).drop j = rest := by
    rw [hj, ← List.drop_drop, flat_drop r [(v, n)] rest rfl]; rfl
  have ht : (flatR (r ++ [(v, n)]) ++ rest).take k = flatR r ++ [.int .i64 v] := by
    rw [hk, List.take_add_one, flat_take r [(v, n)] rest rfl]
    have hl := flatR_len r
    have : (flatR (r ++ [(v, n)]) ++ rest)[2 * r.length]? = some (.int .i64 v) := by
      rw [flatR_app, List.append_assoc, List.getElem?_append_right (by omega), hl, Nat.sub_self]; rfl
    rw [this]; rfl
  rw [hd, ht, flatR_app, List.append_assoc, List.append_assoc, List.append_assoc]
  rfl
structure OftR (s s' : Sto) (r : List (Int × Int)) (a : Option Addr) (cap : Nat) : Prop where
  none : r = [] → cap = 0
  some : r ≠ [] → ∃ b rest, a = some ⟨b, 0, Option.none⟩ ∧ s.bx b = Option.none ∧ s'.bx b = Option.some (30, flatR r ++ rest) ∧ 2 * r.length + rest.length = cap * 2 ∧ r.length ≤ cap
theorem flat_more (r : List (Int × Int)) (v : Int) (rest : List AV) {k m : Nat} (hk : k = 2) (hm : m = 1) :
    (flatR r ++ rest).take (r.length * k) ++ [[AV.int .i64 v, AV.int .i64 1]].flatten ++ (flatR r ++ rest).drop (r.length * k + m * k) = flatR (r ++ [(v, 1)]) ++ rest.drop 2 := by
  subst hk hm
  have h1 : (flatR r ++ rest).take (r.length * 2) = flatR r := by rw [show r.length * 2 = (flatR r).length by rw [flatR_len]; omega, List.take_left]
  have h2 : (flatR r ++ rest).drop (r.length * 2 + 1 * 2) = rest.drop 2 := by rw [← List.drop_drop, show r.length * 2 = (flatR r).length by rw [flatR_len]; omega, List.drop_left]
  rw [h1, h2, flatR_app]
  simp [flatR]
theorem flat_new (r : List (Int × Int)) (v : Int) (rest zs : List AV) {k : Nat} (hk : k = 2) :
    (flatR r ++ rest).take (r.length * k) ++ [[AV.int .i64 v, AV.int .i64 1]].flatten ++ zs = flatR (r ++ [(v, 1)]) ++ zs := by
  subst hk
  have h1 : (flatR r ++ rest).take (r.length * 2) = flatR r := by rw [show r.length * 2 = (flatR r).length by rw [flatR_len]; omega, List.take_left]
  rw [h1, flatR_app]
  simp [flatR]
theorem zeros2_len (x y : AV) (m : Nat) : (List.replicate m [x, y]).flatten.length = m * 2 := by simp
theorem refRunsS_ok (t0 : Nat) (l : List Int) (hl : l.length ≤ 1000000) (s : Sto) :
    ACalls Tryz.prog Γ 8 [.slice t0 (intsA .i64 l)] s fun v s' => ∃ a cap, v = .raw a (runsOf l).length cap ∧ Sub s s' ∧ OftR s s' (runsOf l) a cap := by
  have hbl := intsA_len .i64 l
  refine ACalls.of_awp Tryz.func8 rfl (Nat.le_of_ble_eq_true (by kernel_rfl)) (awp_ok _ (by kernel_rfl) ?_)
  conv => whnf
  repeat' (first
    | (refine ⟨Sub.refl _, ?_⟩)
    | (refine brA_split (fun h => ?_) (fun h => ?_) <;> (try rw [h]) <;> (try simp only [Bool.false_eq_true, Bool.true_eq_false, ↓reduceIte, decide_eq_true_eq, decide_eq_false_iff_not, Bool.not_eq_true', Bool.not_eq_false'] at h) <;> (conv => whnf))
    | (refine getB_same ?_; conv => whnf)
    | (refine AWp.any (by kernel_rfl) (by kernel_rfl) (by kernel_rfl) ?_; conv => whnf)
    | (apply And.intro; (focus (first | omega | rfl | decide | exact Nat.le_of_ble_eq_true rfl | ((repeat' (first | exact all_nil | refine all_cons ?_ ?_ | rfl | fail)); done) | (simp [-List.length_flatMap]; done) | (simp [-List.length_flatMap]; omega) | fail)); conv => whnf)
    | fail)
  refine AWp.nilRaw 3 rfl fun a0 => ?_
  refine AWp.loopA [3, 4] [6, 7, 8, 9, 12, 13, 5, 14, 15, 16, 17, 18, 19, 20, 21, 22, 23, 24, 25, 26, 27, 28, 29, 30, 31, 32, 33, 34, 35, 36, 37, 38, 39, 40, 41, 42, 43, 44, 45, 46, 47, 48, 10, 11] (fun x : Nat × Option Addr × Nat => [.raw x.2.1 (runsOf (l.take x.1)).length x.2.2, .int .i64 x.1]) (fun x s' => x.1 ≤ l.length ∧ Sub s s' ∧ OftR s s' (runsOf (l.take x.1)) x.2.1 x.2.2) (fun x => l.length - x.1) ((0, a0, 0)) (by kernel_rfl) (by (repeat' (first | refine cons_eq ?_ ?_ | refine int64_of ?_ ?_ ?_ | rfl | omega))) ?_ ?_
  · exact ⟨Nat.zero_le _, Sub.refl _, fun _ => rfl, fun h => absurd rfl h⟩
  · rintro y ⟨i, a, cap⟩ s1 ⟨hi, hs1, hof⟩
    simp only at hi hs1 hof
    show awp _ _ _ _ _ (updL _ _ [.raw a (runsOf (l.take i)).length cap, .int .i64 (i : Int)]) _
    conv => whnf
    have hrl := runs_len (l.take i)
    rw [List.length_take] at hrl
    by_cases hlt : i < l.length
    · have hg := intsA_get (k := .i64) hlt
      by_cases hi0 : i = 0
      · subst hi0
        have h0 : runsOf (l.take 0) = [] := rfl
        have hst : runsOf (l.take 1) = [(l.getD 0 0, 1)] := by rw [runs_step (i := 0) hlt]; rfl
        have hc0 := hof.none h0
        subst hc0
        rw [h0]
        have hz : ([] : List (Int × Int)).length = 0 := rfl
        repeat' (first
          | (exfalso; first | omega | exact (by assumption : ¬ True) trivial | fail)
          | (refine ⟨Sub.refl _, ?_⟩)
          | (refine brA_split (fun h => ?_) (fun h => ?_) <;> (try rw [h]) <;> (try simp only [Bool.false_eq_true, Bool.true_eq_false, ↓reduceIte, decide_eq_true_eq, decide_eq_false_iff_not, Bool.not_eq_true', Bool.not_eq_false'] at h) <;> (conv => whnf))
          | (rw [show (intsA .i64 l).getD (((0 : Nat) : Int)).toNat [] = _ from hg]; conv => whnf)
          | (refine getB_same ?_; conv => whnf)
          | (refine AWp.any (by kernel_rfl) (by kernel_rfl) (by kernel_rfl) ?_; conv => whnf)
          | (apply And.intro; (focus (first | omega | rfl | decide | exact Nat.le_of_ble_eq_true rfl | ((repeat' (first | exact all_nil | refine all_cons ?_ ?_ | rfl | fail)); done) | (simp [-List.length_flatMap]; done) | (simp [-List.length_flatMap]; omega) | fail)); conv => whnf)
          | fail)
        refine ⟨fun c hc => ?_, ?_, fun _ b' cap' hge hb' => ?_, fun h1 => (h1 ⟨rfl, rfl⟩).elim⟩
        · obtain rfl := List.mem_singleton.1 hc
          exact ⟨rfl, rfl⟩
        · show (0 + 1) * (16 + 1) ≤ _
          omega
        conv => whnf
        repeat' (first
          | (exfalso; first | omega | exact (by assumption : ¬ True) trivial | fail)
          | (refine ⟨Sub.refl _, ?_⟩)
          | (refine brA_split (fun h => ?_) (fun h => ?_) <;> (try rw [h]) <;> (try simp only [Bool.false_eq_true, Bool.true_eq_false, ↓reduceIte, decide_eq_true_eq, decide_eq_false_iff_not, Bool.not_eq_true', Bool.not_eq_false'] at h) <;> (conv => whnf))
          | (refine getB_same ?_; conv => whnf)
          | (refine AWp.any (by kernel_rfl) (by kernel_rfl) (by kernel_rfl) ?_; conv => whnf)
          | (apply And.intro; (focus (first | omega | rfl | decide | exact Nat.le_of_ble_eq_true rfl | ((repeat' (first | exact all_nil | refine all_cons ?_ ?_ | rfl | fail)); done) | (simp [-List.length_flatMap]; done) | (simp [-List.length_flatMap]; omega) | fail)); conv => whnf)
          | fail)
        refine ⟨(1, some ⟨b', 0, none⟩, cap'), ?_, by (repeat (first | exact Same.refl _ _ | refine Same.upd rfl ?_ | refine Same.updL rfl ?_ | refine Same.havoc rfl ?_)), ⟨by simp only; omega, hs1.set (hs1.none hb') _ _, ?_⟩, by simp only; omega⟩
        · simp only
          rw [hst]
          exact cons_eq rfl (cons_eq (congrArg (AV.int .i64) (i64_of (by omega) (by omega) (by omega))) rfl)
        · simp only
          rw [hst]
          refine ⟨fun h => absurd h (by simp), fun _ => ⟨b', (List.replicate (cap' - 1) [AV.int .i64 0, AV.int .i64 0]).flatten, rfl, hs1.none hb', set_bx_same, ?_, hge⟩⟩
          have hr1 : 1 ≤ cap' := hge
          rw [zeros2_len]
          simp only [List.length_cons, List.length_nil]
          omega
      · obtain ⟨r, n, hr, hn1, hn2⟩ := runs_last (l := l) (i := i) (by omega) (by omega)
        obtain ⟨b, rest, rfl, hb0, hb1, hb2, hb3⟩ := hof.some (by rw [hr]; simp)
        rw [hr] at hb1 hb2 hb3 hrl
        simp only [List.length_append, List.length_singleton] at hb2 hb3 hrl
        rw [hr, List.length_append, List.length_singleton]
        have hw : IntKind.i64.wrap (((r.length + 1 : Nat) : Int) - 1) = (r.length : Int) := i64_of (by omega) (by omega) (by omega)
        repeat' (first
          | (exfalso; first | omega | exact (by assumption : ¬ True) trivial | fail)
          | (refine ⟨Sub.refl _, ?_⟩)
          | (refine brA_split (fun h => ?_) (fun h => ?_) <;> (try rw [h]) <;> (try simp only [Bool.false_eq_true, Bool.true_eq_false, ↓reduceIte, decide_eq_true_eq, decide_eq_false_iff_not, Bool.not_eq_true', Bool.not_eq_false'] at h) <;> (conv => whnf))
          | (rw [hw]; conv => whnf)
          | (refine getB_of hb1 ?_; conv => whnf)
          | (rw [flat_drop r [(l.getD (i - 1) 0, n)] rest (by show 0 + ((r.length : Nat) : Int).toNat * 2 + 0 = _; omega)]; conv => whnf)
          | (rw [flat_drop1 r (l.getD (i - 1) 0) n rest (by show 0 + ((r.length : Nat) : Int).toNat * 2 + 1 = _; omega)]; conv => whnf)
          | (rw [show (intsA .i64 l).getD ((i : Int)).toNat [] = _ from hg]; conv => whnf)
          | (refine getB_same ?_; conv => whnf)
          | (refine AWp.any (by kernel_rfl) (by kernel_rfl) (by kernel_rfl) ?_; conv => whnf)
          | (apply And.intro; (focus (first | omega | rfl | decide | exact Nat.le_of_ble_eq_true rfl | ((repeat' (first | exact all_nil | refine all_cons ?_ ?_ | rfl | fail)); done) | (simp [-List.length_flatMap]; done) | (simp [-List.length_flatMap]; omega) | fail)); conv => whnf)
          | fail)
        · have hst : runsOf (l.take (i + 1)) = r ++ [(l.getD (i - 1) 0, n + 1)] := by rw [runs_step hlt, hr, runStep_same h]
          have hwn : IntKind.i64.wrap (n + 1) = n + 1 := i64_of rfl (by omega) (by omega)
          refine ⟨?_, frcL_of (cs' := flatR (r ++ [(l.getD (i - 1) 0, n + 1)]) ++ rest) ?_ ?_⟩
          · show 0 + ((r.length : Nat) : Int).toNat * 2 + 1 + 1 ≤ _
            rw [List.length_append, flatR_len, List.length_append, List.length_singleton]
            omega
          · exact Eq.trans (flat_put r (l.getD (i - 1) 0) n (IntKind.i64.wrap (n + 1)) rest (k := 0 + ((r.length : Nat) : Int).toNat * 2 + 1) (j := 0 + ((r.length : Nat) : Int).toNat * 2 + 1 + 1) (by omega) (by omega)) (by rw [hwn])
          conv => whnf
          repeat' (first
            | (exfalso; first | omega | exact (by assumption : ¬ True) trivial | fail)
            | (refine ⟨Sub.refl _, ?_⟩)
            | (refine brA_split (fun h => ?_) (fun h => ?_) <;> (try rw [h]) <;> (try simp only [Bool.false_eq_true, Bool.true_eq_false, ↓reduceIte, decide_eq_true_eq, decide_eq_false_iff_not, Bool.not_eq_true', Bool.not_eq_false'] at h) <;> (conv => whnf))
            | (refine getB_same ?_; conv => whnf)
            | (refine AWp.any (by kernel_rfl) (by kernel_rfl) (by kernel_rfl) ?_; conv => whnf)
            | (apply And.intro; (focus (first | omega | rfl | decide | exact Nat.le_of_ble_eq_true rfl | ((repeat' (first | exact all_nil | refine all_cons ?_ ?_ | rfl | fail)); done) | (simp [-List.length_flatMap]; done) | (simp [-List.length_flatMap]; omega) | fail)); conv => whnf)
            | fail)
          refine ⟨(i + 1, some ⟨b, 0, none⟩, cap), ?_, by (repeat (first | exact Same.refl _ _ | refine Same.upd rfl ?_ | refine Same.updL rfl ?_ | refine Same.havoc rfl ?_)), ⟨by simp only; omega, hs1.set hb0 _ _, ?_⟩, by simp only; omega⟩
          · simp only
            rw [hst, List.length_append, List.length_singleton]
            exact cons_eq rfl (cons_eq (congrArg (AV.int .i64) (i64_of (by omega) (by omega) (by omega))) rfl)
          · simp only
            rw [hst]
            exact ⟨fun h => absurd h (by simp), fun _ => ⟨b, rest, rfl, hb0, set_bx_same, by simp only [List.length_append, List.length_singleton]; omega, by simp only [List.length_append, List.length_singleton]; omega⟩⟩
        · have hst : runsOf (l.take (i + 1)) = r ++ [(l.getD (i - 1) 0, n)] ++ [(l.getD i 0, 1)] := by rw [runs_step hlt, hr, runStep_other h]
          refine ⟨fun c hc => ?_, ?_, fun h0 => absurd h0.1 (by omega), fun _ => ?_⟩
          · obtain rfl := List.mem_singleton.1 hc
            exact ⟨rfl, rfl⟩
          · show (r.length + 1 + 1) * (16 + 1) ≤ _
            omega
          refine getB_of hb1 ⟨rfl, by omega, ?_, fun hroom => ?_, fun hmore b' cap' hge hb' => ?_⟩
          · show (flatR (r ++ [(l.getD (i - 1) 0, n)]) ++ rest).length = cap * 2
            rw [List.length_append, flatR_len, List.length_append, List.length_singleton]; omega
          · have hroom' : r.length + 1 + 1 ≤ cap := hroom
            conv => whnf
            repeat' (first
              | (exfalso; first | omega | exact (by assumption : ¬ True) trivial | fail)
              | (refine ⟨Sub.refl _, ?_⟩)
              | (refine brA_split (fun h => ?_) (fun h => ?_) <;> (try rw [h]) <;> (try simp only [Bool.false_eq_true, Bool.true_eq_false, ↓reduceIte, decide_eq_true_eq, decide_eq_false_iff_not, Bool.not_eq_true', Bool.not_eq_false'] at h) <;> (conv => whnf))
              | (refine getB_same ?_; conv => whnf)
              | (refine AWp.any (by kernel_rfl) (by kernel_rfl) (by kernel_rfl) ?_; conv => whnf)
              | (apply And.intro; (focus (first | omega | rfl | decide | exact Nat.le_of_ble_eq_true rfl | ((repeat' (first | exact all_nil | refine all_cons ?_ ?_ | rfl | fail)); done) | (simp [-List.length_flatMap]; done) | (simp [-List.length_flatMap]; omega) | fail)); conv => whnf)
              | fail)
            refine ⟨(i + 1, some ⟨b, 0, none⟩, cap), ?_, by (repeat (first | exact Same.refl _ _ | refine Same.upd rfl ?_ | refine Same.updL rfl ?_ | refine Same.havoc rfl ?_)), ⟨by simp only; omega, hs1.set hb0 _ _, ?_⟩, by simp only; omega⟩
            · simp only
              rw [hst, List.length_append, List.length_append, List.length_singleton]
              exact cons_eq rfl (cons_eq (congrArg (AV.int .i64) (i64_of (by omega) (by omega) (by omega))) rfl)
            · simp only
              rw [hst]
              refine ⟨fun h => absurd h (by simp), fun _ => ⟨b, rest.drop 2, rfl, hb0, ?_, ?_, ?_⟩⟩
              · have hm := flat_more (r ++ [(l.getD (i - 1) 0, n)]) (l.getD i 0) rest (k := 2) (m := 1) rfl rfl
                rw [← hm, List.length_append, List.length_singleton]
                exact set_bx_same
              · simp only [List.length_append, List.length_singleton, List.length_drop]; omega
              · simp only [List.length_append, List.length_singleton]; omega
          · have hge' : r.length + 1 + 1 ≤ cap' := hge
            conv => whnf
            repeat' (first
              | (exfalso; first | omega | exact (by assumption : ¬ True) trivial | fail)
              | (refine ⟨Sub.refl _, ?_⟩)
              | (refine brA_split (fun h => ?_) (fun h => ?_) <;> (try rw [h]) <;> (try simp only [Bool.false_eq_true, Bool.true_eq_false, ↓reduceIte, decide_eq_true_eq, decide_eq_false_iff_not, Bool.not_eq_true', Bool.not_eq_false'] at h) <;> (conv => whnf))
              | (refine getB_same ?_; conv => whnf)
              | (refine AWp.any (by kernel_rfl) (by kernel_rfl) (by kernel_rfl) ?_; conv => whnf)
              | (apply And.intro; (focus (first | omega | rfl | decide | exact Nat.le_of_ble_eq_true rfl | ((repeat' (first | exact all_nil | refine all_cons ?_ ?_ | rfl | fail)); done) | (simp [-List.length_flatMap]; done) | (simp [-List.length_flatMap]; omega) | fail)); conv => whnf)
              | fail)
            refine ⟨(i + 1, some ⟨b', 0, none⟩, cap'), ?_, by (repeat (first | exact Same.refl _ _ | refine Same.upd rfl ?_ | refine Same.updL rfl ?_ | refine Same.havoc rfl ?_)), ⟨by simp only; omega, hs1.set (hs1.none hb') _ _, ?_⟩, by simp only; omega⟩
            · simp only
              rw [hst, List.length_append, List.length_append, List.length_singleton]
              exact cons_eq rfl (cons_eq (congrArg (AV.int .i64) (i64_of (by omega) (by omega) (by omega))) rfl)
            · simp only
              rw [hst]
              refine ⟨fun h => absurd h (by simp), fun _ => ⟨b', (List.replicate (cap' - (r.length + 1 + 1)) [AV.int .i64 0, AV.int .i64 0]).flatten, rfl, hs1.none hb', ?_, ?_, ?_⟩⟩
              · have hm := flat_new (r ++ [(l.getD (i - 1) 0, n)]) (l.getD i 0) rest (List.replicate (cap' - (r.length + 1 + 1)) [AV.int .i64 0, AV.int .i64 0]).flatten (k := 2) rfl
                rw [← hm, List.length_append, List.length_singleton]
                exact set_bx_same
              · rw [zeros2_len]; simp only [List.length_append, List.length_singleton]; omega
              · simp only [List.length_append, List.length_singleton]; omega
    · obtain rfl : i = l.length := by omega
      rw [List.take_length] at *
      repeat' (first
        | (exfalso; first | omega | exact (by assumption : ¬ True) trivial | fail)
        | (refine ⟨Sub.refl _, ?_⟩)
        | (refine brA_split (fun h => ?_) (fun h => ?_) <;> (try rw [h]) <;> (try simp only [Bool.false_eq_true, Bool.true_eq_false, ↓reduceIte, decide_eq_true_eq, decide_eq_false_iff_not, Bool.not_eq_true', Bool.not_eq_false'] at h) <;> (conv => whnf))
        | (refine getB_same ?_; conv => whnf)
        | (refine AWp.any (by kernel_rfl) (by kernel_rfl) (by kernel_rfl) ?_; conv => whnf)
        | (apply And.intro; (focus (first | omega | rfl | decide | exact Nat.le_of_ble_eq_true rfl | ((repeat' (first | exact all_nil | refine all_cons ?_ ?_ | rfl | fail)); done) | (simp [-List.length_flatMap]; done) | (simp [-List.length_flatMap]; omega) | fail)); conv => whnf)
        | fail)
      exact ⟨s1, Sub.refl _, a, cap, rfl, hs1, hof⟩
end Go.Proofs.YtecjpdcoghfmiaaGreatDoor.Vn
/- Chapter 32: texts of lists, by both. -/
namespace Go.Proofs.YtecjpdcoghfmiaaGreatDoor.Vn
open Go Go.Ab Go.RowKit Bd
variable {Γ : Nat → AV}
attribute [local irreducible] APure Sto.set Sto.grow
set_option maxRecDepth 10000
set_option maxHeartbeats 1000000

theorem fgE_runs (r : List (Int × Int)) : fgE (runsA r) = runsA r := fgE_map (A := fun x : Int × Int => [AV.int .i64 x.1, AV.int .i64 x.2]) (fun _ => rfl) r
theorem refRuns_ok (t0 : Nat) (l : List Int) (hl : l.length ≤ 1000000) : APure Tryz.prog Γ 8 [.slice t0 (intsA .i64 l)] fun v => v = .slice 0 (runsA (runsOf l)) := by
  by_cases h0 : l = []
  · subst h0
    refine APure.fgt fun s => ?_
    refine ACalls.of_awp Tryz.func8 rfl (Nat.le_of_ble_eq_true (by kernel_rfl)) (awp_ok _ (by kernel_rfl) ?_)
    conv => whnf
    repeat' (first
      | (refine ⟨Sub.refl _, ?_⟩)
      | (refine brA_split (fun h => ?_) (fun h => ?_) <;> (try rw [h]) <;> (try simp only [Bool.false_eq_true, Bool.true_eq_false, ↓reduceIte, decide_eq_true_eq, decide_eq_false_iff_not, Bool.not_eq_true', Bool.not_eq_false'] at h) <;> (conv => whnf))
      | (refine getB_same ?_; conv => whnf)
      | (refine AWp.any (by kernel_rfl) (by kernel_rfl) (by kernel_rfl) ?_; conv => whnf)
      | (apply And.intro; (focus (first | omega | rfl | decide | exact Nat.le_of_ble_eq_true rfl | ((repeat' (first | exact all_nil | refine all_cons ?_ ?_ | rfl | fail)); done) | (simp [-List.length_flatMap]; done) | (simp [-List.length_flatMap]; omega) | fail)); conv => whnf)
      | fail)
    refine AWp.loopA [3, 4] [6, 7, 8, 9, 12, 13, 5, 14, 15, 16, 17, 18, 19, 20, 21, 22, 23, 24, 25, 26, 27, 28, 29, 30, 31, 32, 33, 34, 35, 36, 37, 38, 39, 40, 41, 42, 43, 44, 45, 46, 47, 48, 10, 11] (fun i : Nat => [.slice 1 [], .int .i64 i]) (fun i s' => i = 0 ∧ s' = s) (fun i => 0) (0) (by kernel_rfl) (by (repeat' (first | refine cons_eq ?_ ?_ | refine int64_of ?_ ?_ ?_ | rfl | omega))) ?_ ?_
    · exact ⟨rfl, rfl⟩
    · rintro y i s1 ⟨rfl, rfl⟩
      show awp _ _ _ _ _ (updL _ _ [.slice 1 [], .int .i64 ((0 : Nat) : Int)]) _
      conv => whnf
      have hz : (intsA .i64 ([] : List Int)).length = 0 := rfl
      repeat' (first
        | (exfalso; first | omega | exact (by assumption : ¬ True) trivial | fail)
        | (refine ⟨Sub.refl _, ?_⟩)
        | (refine brA_split (fun h => ?_) (fun h => ?_) <;> (try rw [h]) <;> (try simp only [Bool.false_eq_true, Bool.true_eq_false, ↓reduceIte, decide_eq_true_eq, decide_eq_false_iff_not, Bool.not_eq_true', Bool.not_eq_false'] at h) <;> (conv => whnf))
        | (refine getB_same ?_; conv => whnf)
        | (refine AWp.any (by kernel_rfl) (by kernel_rfl) (by kernel_rfl) ?_; conv => whnf)
        | (apply And.intro; (focus (first | omega | rfl | decide | exact Nat.le_of_ble_eq_true rfl | ((repeat' (first | exact all_nil | refine all_cons ?_ ?_ | rfl | fail)); done) | (simp [-List.length_flatMap]; done) | (simp [-List.length_flatMap]; omega) | fail)); conv => whnf)
        | fail)
      refine ⟨_, Sub.refl _, ?_, Sub.refl _⟩
      simp only [tupA, fg, fgL, fgE, runsOf, List.foldl_nil, List.map_nil, runsA]
  · refine APure.frz fun s => ?_
    refine (refRunsS_ok t0 l hl s).mono ?_
    rintro _ s' ⟨a, cap, rfl, hs, hof⟩
    have hne : runsOf l ≠ [] := by
      intro h
      have := (runs_all l).1
      rw [h] at this
      exact h0 this.symm
    obtain ⟨b, rest, rfl, hb0, hb1, hlen, hcap⟩ := hof.some hne
    refine ⟨fz1 b 2 (flatR (runsOf l) ++ rest), fz1_of hb0 hb1, ?_, hs⟩
    have hm : fzW (fz1 b 2 (flatR (runsOf l) ++ rest)) (some ⟨b, 0, none⟩) (runsOf l).length cap = .slice 0 (runsA (runsOf l)) := by
      unfold fzW
      simp only [fz1_at]
      rw [if_pos ⟨hcap, by rw [List.drop_zero, List.length_append, flatR_len]; omega⟩, List.drop_zero, chunks_runs]
    simp only [fz, hm, fg, fgE_runs]
theorem runsA_len (r : List (Int × Int)) : (runsA r).length = r.length := List.length_map ..
theorem runsA_get {r : List (Int × Int)} {i : Nat} (h : i < r.length) : (runsA r).getD i [] = [.int .i64 (r.getD i (0, 0)).1, .int .i64 (r.getD i (0, 0)).2] := by simp [runsA, List.getD, h]
theorem fst_get {r : List (Int × Int)} {i : Nat} (h : i < r.length) : (intsA .i64 (r.map (·.1))).getD i [] = [.int .i64 (r.getD i (0, 0)).1] := by simp [intsA, List.getD, h]
theorem snd_get {r : List (Int × Int)} {i : Nat} (h : i < r.length) : (intsA .i64 (r.map (·.2))).getD i [] = [.int .i64 (r.getD i (0, 0)).2] := by simp [intsA, List.getD, h]
theorem run_mem {r : List (Int × Int)} {i : Nat} (h : i < r.length) : r.getD i (0, 0) ∈ r := by simp [List.getD, h]
theorem take_run {r : List (Int × Int)} {i : Nat} (h : i < r.length) : r.take (i + 1) = r.take i ++ [r.getD i (0, 0)] := by
  rw [List.take_add_one]; simp [List.getD, h]
theorem textR_add : ∀ (r : List (Int × Int)) (x : Int × Int), textR (r ++ [x]) = textR r ++ (lineT x ++ [10])
  | [], x => by simp [textR]
  | y :: r, x => by rw [List.cons_append, textR, textR_add r x, textR]; simp
theorem vname_len (v : Int) : (vname v).length ≤ 10 := by
  unfold vname
  split
  · decide
  · split
    · decide
    · split
      · decide
      · split <;> decide
theorem itoa_len {n : Int} (h1 : 1 ≤ n) : (Lib.itoa n).length ≤ n.toNat + 1 := by
  have := Nu.dec_len (n.toNat + 1) n.toNat (Nat.lt_succ_self _)
  unfold Lib.itoa
  rw [if_neg (by omega)]
  exact this
/-- How long a text may be. -/
theorem text_len : ∀ r : List (Int × Int), (∀ x ∈ r, 1 ≤ x.2) → (textR r).length ≤ (expand r).length + r.length * 13
  | [], _ => Nat.zero_le _
  | x :: r, h => by
    have h1 := itoa_len (h x (by simp))
    have h2 := vname_len x.1
    have h3 := text_len r (fun y hy => h y (by simp [hy]))
    rw [textR, expand, lineT]
    simp only [List.length_append, List.length_cons, List.length_replicate]
    omega
theorem take_len (r : List (Int × Int)) (i : Nat) : (textR (r.take i)).length ≤ (textR r).length := by
  have : ∀ (r : List (Int × Int)) (i : Nat), (textR (r.take i)).length ≤ (textR r).length := by
    intro r
    induction r with
    | nil => intro i; rw [List.take_nil]; exact Nat.le_refl _
    | cons x r ih =>
      intro i
      cases i with
      | zero => exact Nat.zero_le _
      | succ i =>
        have := ih i
        rw [List.take_succ_cons, textR, textR, List.length_append, List.length_append, List.length_cons, List.length_cons]
        omega
  exact this r i
def okV (l : List Int) : Bool := l.all fun v => decide (1 ≤ v ∧ v ≤ 4)
theorem vname_some {v : Int} : vname v = [] ↔ ¬ (1 ≤ v ∧ v ≤ 4) := by
  have := vname_nil v
  constructor
  · intro h
    rw [h] at this
    intro hh
    rw [decide_eq_true hh] at this
    simp at this
  · intro h
    rw [decide_eq_false h] at this
    simpa using this
theorem numText_ok (hT : Nu.Tens Γ) (n : Int) (h1 : 1 ≤ n) (h2 : n ≤ 1000000) : APure Tryz.prog Γ 17 [.int .i64 n] fun v => v = .str (Lib.itoa n) := Nu.text_ok hT n ⟨by omega, by omega⟩
/-- What a list is written as; a list that is none of verdicts has no text. -/
def textP (l : List Int) : List UInt8 := if okV l = true then textR (runsOf l) else []
theorem runs_ne {l : List Int} (h : l ≠ []) : runsOf l ≠ [] := by
  intro hh
  have := (runs_all l).1
  rw [hh] at this
  exact h this.symm
theorem count_le {r : List (Int × Int)} {x : Int × Int} (hx : x ∈ r) (h : ∀ y ∈ r, 1 ≤ y.2) : x.2 ≤ (expand r).length := by
  induction r with
  | nil => cases hx
  | cons y r ih =>
    rw [expand, List.length_append, List.length_replicate]
    rcases List.mem_cons.1 hx with rfl | hx
    · have := h x (by simp); omega
    · have := ih hx (fun z hz => h z (by simp [hz])); omega
theorem expand_all : ∀ (r : List (Int × Int)), (∀ x ∈ r, 1 ≤ x.1 ∧ x.1 ≤ 4) → ∀ v ∈ expand r, 1 ≤ v ∧ v ≤ 4
  | [], _, v, hv => by cases hv
  | y :: r, h, v, hv => by
    rw [expand] at hv
    rcases List.mem_append.1 hv with hv | hv
    · rw [(List.mem_replicate.1 hv).2]; exact h y (by simp)
    · exact expand_all r (fun z hz => h z (by simp [hz])) v hv
theorem textFull_ok (hN : Nms Γ) (hT : Nu.Tens Γ) (t : Nat) (l : List Int) (h0 : l ≠ []) (hl : l.length ≤ 20000) : APure Tryz.prog Γ 6 [.slice t (intsA .i64 l)] fun v => v = .str (textP l) := by
  obtain ⟨e1, e2⟩ := runs_all l
  have hrl := runs_len l
  have htl := text_len (runsOf l) (fun x hx => (e2 x hx).1)
  rw [e1] at htl
  have hv := runsV_ok (Γ := Γ) t l (by omega)
  have hne := runs_ne h0
  have hcl := fun x hx => count_le (x := x) hx (fun y hy => (e2 y hy).1)
  rw [e1] at hcl
  have hok : okV l = true ↔ ∀ x ∈ runsOf l, 1 ≤ x.1 ∧ x.1 ≤ 4 := by
    constructor
    · intro h x hx
      have := List.all_eq_true.1 h _ (e2 x hx).2
      exact of_decide_eq_true this
    · intro h
      refine List.all_eq_true.2 fun x hx => decide_eq_true ?_
      rw [← e1] at hx
      exact expand_all _ h x hx
  have hpos : textR (runsOf l) ≠ [] := by
    intro hh
    cases hr : runsOf l with
    | nil => exact hne hr
    | cons x r => rw [hr, textR] at hh; simp at hh
  unfold textP
  generalize runsOf l = R at *
  have h1l : (intsA .i64 (R.map (·.1))).length = R.length := by rw [intsA_len, List.length_map]
  have h2l : (intsA .i64 (R.map (·.2))).length = R.length := by rw [intsA_len, List.length_map]
  refine APure.of_awp Tryz.func6 rfl (Nat.le_of_ble_eq_true (by kernel_rfl)) (by kernel_rfl) ?_
  intro s
  conv => whnf
  intro b hb
  conv => whnf
  repeat' (first
    | (refine ⟨Sub.refl _, ?_⟩)
    | (refine brA_split (fun h => ?_) (fun h => ?_) <;> (try rw [h]) <;> (try simp only [Bool.false_eq_true, Bool.true_eq_false, ↓reduceIte, decide_eq_true_eq, decide_eq_false_iff_not, Bool.not_eq_true', Bool.not_eq_false'] at h) <;> (conv => whnf))
    | (refine ACalls.pure' ?_ (hv); rintro _ rfl; conv => whnf)
    | (refine DCall.pure ?_ (hv); conv => whnf)
    | (refine getB_same ?_; conv => whnf)
    | (refine AWp.any (by kernel_rfl) (by kernel_rfl) (by kernel_rfl) ?_; conv => whnf)
    | (apply And.intro; (focus (first | omega | rfl | decide | exact Nat.le_of_ble_eq_true rfl | ((repeat' (first | exact all_nil | refine all_cons ?_ ?_ | rfl | fail)); done) | (simp [-List.length_flatMap]; done) | (simp [-List.length_flatMap]; omega) | fail)); conv => whnf)
    | fail)
  refine AWp.loopA [15] [16, 17, 18, 19, 6, 7, 20, 21, 22, 2, 23, 24, 25, 26, 27, 28, 29, 30, 31, 32, 33, 34] (fun i : Nat => [.int .i64 i]) (fun i s' => i ≤ R.length ∧ Bld s s' b (textR (R.take i)) ∧ ∀ x ∈ R.take i, 1 ≤ x.1 ∧ x.1 ≤ 4) (fun i => R.length - i) (0) (by kernel_rfl) (by (repeat' (first | refine cons_eq ?_ ?_ | refine int64_of ?_ ?_ ?_ | rfl | omega))) ?_ ?_
  · exact ⟨Nat.zero_le _, Bld.start hb, fun x hx => (by cases hx)⟩
  · rintro y i s1 ⟨hi, hB, hR⟩
    show awp _ _ _ _ _ (updL _ _ [.int .i64 (i : Int)]) _
    conv => whnf
    by_cases hlt : i < R.length
    · have hg1 := fst_get hlt
      have hg2 := snd_get hlt
      have hm := run_mem hlt
      have htk := take_run hlt
      have hta := textR_add (R.take i) (R.getD i (0, 0))
      rw [← htk] at hta
      have htm := take_len R i
      generalize R.getD i (0, 0) = x at *
      have hx := e2 x hm
      have hxl := hcl x hm
      have hit := itoa_len hx.1
      have hvl := vname_len x.1
      repeat' (first
        | (exfalso; first | omega | exact (by assumption : ¬ True) trivial | fail)
        | (refine ⟨Sub.refl _, ?_⟩)
        | (refine brA_split (fun h => ?_) (fun h => ?_) <;> (try rw [h]) <;> (try simp only [Bool.false_eq_true, Bool.true_eq_false, ↓reduceIte, decide_eq_true_eq, decide_eq_false_iff_not, Bool.not_eq_true', Bool.not_eq_false'] at h) <;> (conv => whnf))
        | (rw [show (intsA .i64 (R.map (·.1))).getD ((i : Int)).toNat [] = _ from hg1]; conv => whnf)
        | (refine ACalls.pure' ?_ (name_ok hN _); rintro _ rfl; conv => whnf)
        | (refine DCall.pure ?_ (name_ok hN _); conv => whnf)
        | (rw [show (intsA .i64 (R.map (·.2))).getD ((i : Int)).toNat [] = _ from hg2]; conv => whnf)
        | (refine ACalls.pure' ?_ (numText_ok hT x.2 hx.1 (by omega)); rintro _ rfl; conv => whnf)
        | (refine DCall.pure ?_ (numText_ok hT x.2 hx.1 (by omega)); conv => whnf)
        | (refine getB_same ?_; conv => whnf)
        | (refine AWp.any (by kernel_rfl) (by kernel_rfl) (by kernel_rfl) ?_; conv => whnf)
        | (apply And.intro; (focus (first | omega | rfl | decide | exact Nat.le_of_ble_eq_true rfl | ((repeat' (first | exact all_nil | refine all_cons ?_ ?_ | rfl | fail)); done) | (simp [-List.length_flatMap]; done) | (simp [-List.length_flatMap]; omega) | fail)); conv => whnf)
        | fail)
      · obtain ⟨p, tt, hbb, hp, ho⟩ := hB.at_
        rw [if_neg (fun hh => vname_some.1 h ((hok.1 hh) x hm))]
        exact ⟨ho.sub, rfl⟩
      · have hsum : Lib.itoa x.2 ++ [32] ++ vname x.1 ++ [10] = lineT x ++ [10] := by simp [lineT]
        have hll : (lineT x ++ [10]).length = (Lib.itoa x.2).length + (vname x.1).length + 2 := by rw [← hsum]; simp; omega
        have hW := WriteString_ok (Γ := Γ) (lineT x ++ [10]) hB (by omega)
        rw [← hsum] at hW
        refine ACalls.by hW ?_
        rintro _ s5 ⟨rfl, hB5⟩
        rw [hsum, ← hta] at hB5
        conv => whnf
        repeat' (first
          | (exfalso; first | omega | exact (by assumption : ¬ True) trivial | fail)
          | (refine ⟨Sub.refl _, ?_⟩)
          | (refine brA_split (fun h => ?_) (fun h => ?_) <;> (try rw [h]) <;> (try simp only [Bool.false_eq_true, Bool.true_eq_false, ↓reduceIte, decide_eq_true_eq, decide_eq_false_iff_not, Bool.not_eq_true', Bool.not_eq_false'] at h) <;> (conv => whnf))
          | (refine getB_same ?_; conv => whnf)
          | (refine AWp.any (by kernel_rfl) (by kernel_rfl) (by kernel_rfl) ?_; conv => whnf)
          | (apply And.intro; (focus (first | omega | rfl | decide | exact Nat.le_of_ble_eq_true rfl | ((repeat' (first | exact all_nil | refine all_cons ?_ ?_ | rfl | fail)); done) | (simp [-List.length_flatMap]; done) | (simp [-List.length_flatMap]; omega) | fail)); conv => whnf)
          | fail)
        refine ⟨i + 1, by (repeat' (first | refine cons_eq ?_ ?_ | refine int64_of ?_ ?_ ?_ | rfl | omega)), by (repeat (first | exact Same.refl _ _ | refine Same.upd rfl ?_ | refine Same.updL rfl ?_ | refine Same.havoc rfl ?_)), ⟨by omega, hB5, fun z hz => ?_⟩, by omega⟩
        rw [htk] at hz
        rcases List.mem_append.1 hz with hz | hz
        · exact hR z hz
        · obtain rfl := List.mem_singleton.1 hz
          have hq := vname_some (v := z.1)
          by_cases hv4 : 1 ≤ z.1 ∧ z.1 ≤ 4
          · exact hv4
          · exact absurd (hq.2 hv4) h
    · obtain rfl : i = R.length := by omega
      rw [List.take_length] at *
      rw [if_pos (hok.2 hR)]
      repeat' (first
        | (exfalso; first | omega | exact (by assumption : ¬ True) trivial | fail)
        | (refine ⟨Sub.refl _, ?_⟩)
        | (refine brA_split (fun h => ?_) (fun h => ?_) <;> (try rw [h]) <;> (try simp only [Bool.false_eq_true, Bool.true_eq_false, ↓reduceIte, decide_eq_true_eq, decide_eq_false_iff_not, Bool.not_eq_true', Bool.not_eq_false'] at h) <;> (conv => whnf))
        | (refine ACalls.by (String_ok hB hpos (by omega)) ?_; rintro _ s5 ⟨rfl, hs5⟩; conv => whnf)
        | (refine getB_same ?_; conv => whnf)
        | (refine AWp.any (by kernel_rfl) (by kernel_rfl) (by kernel_rfl) ?_; conv => whnf)
        | (apply And.intro; (focus (first | omega | rfl | decide | exact Nat.le_of_ble_eq_true rfl | ((repeat' (first | exact all_nil | refine all_cons ?_ ?_ | rfl | fail)); done) | (simp [-List.length_flatMap]; done) | (simp [-List.length_flatMap]; omega) | fail)); conv => whnf)
        | fail)
      rfl
end Go.Proofs.YtecjpdcoghfmiaaGreatDoor.Vn
/- Chapter 32: the text of no verdicts, and the laws. -/
namespace Go.Proofs.YtecjpdcoghfmiaaGreatDoor.Vn
open Go Go.Ab Go.RowKit Bd
variable {Γ : Nat → AV}
attribute [local irreducible] APure Sto.set Sto.grow
set_option maxRecDepth 10000
set_option maxHeartbeats 1000000

theorem textNil_ok (hN : Nms Γ) (t : Nat) : APure Tryz.prog Γ 6 [.slice t (intsA .i64 [])] fun v => v = .str [] := by
  have hv := runsV_ok (Γ := Γ) t [] (by simp)
  refine APure.fgt fun s => ?_
  refine ACalls.of_awp Tryz.func6 rfl (Nat.le_of_ble_eq_true (by kernel_rfl)) ?_
  refine AWp.seq (awp_ok _ (by kernel_rfl) ?_)
  conv => whnf
  have hz0 : ∀ (G : Gh) (w : World), RList G w [AV.ptr none, .raw none 0 0] (Value.agg #[.pointer none, .slice none 0 0]).cells.toList := fun G w =>
    RList_cons.2 ⟨_, _, rfl, R_ptr.2 rfl, RList_cons.2 ⟨_, _, rfl, R_raw.2 rfl, RList_nil.2 rfl⟩⟩
  refine AWp.seq (AWp.allocTo (zi := Tryz.prog.types[45]) (zv := .agg #[.pointer none, .slice none 0 0]) (cs := [.ptr none, .raw none 0 0]) rfl rfl rfl (by kernel_rfl) (by kernel_rfl) (Nat.le_of_ble_eq_true (by kernel_rfl)) hz0 fun b hb => ?_)
  refine awp_ok _ (by kernel_rfl) ?_
  conv => whnf
  repeat' (first
    | (refine ⟨Sub.refl _, ?_⟩)
    | (refine brA_split (fun h => ?_) (fun h => ?_) <;> (try rw [h]) <;> (try simp only [Bool.false_eq_true, Bool.true_eq_false, ↓reduceIte, decide_eq_true_eq, decide_eq_false_iff_not, Bool.not_eq_true', Bool.not_eq_false'] at h) <;> (conv => whnf))
    | (refine ACalls.pure' ?_ (hv); rintro _ rfl; conv => whnf)
    | (refine DCall.pure ?_ (hv); conv => whnf)
    | (refine getB_same ?_; conv => whnf)
    | (refine AWp.any (by kernel_rfl) (by kernel_rfl) (by kernel_rfl) ?_; conv => whnf)
    | (apply And.intro; (focus (first | omega | rfl | decide | exact Nat.le_of_ble_eq_true rfl | ((repeat' (first | exact all_nil | refine all_cons ?_ ?_ | rfl | fail)); done) | (simp [-List.length_flatMap]; done) | (simp [-List.length_flatMap]; omega) | fail)); conv => whnf)
    | fail)
  refine AWp.loopA [15] [16, 17, 18, 19, 6, 7, 20, 21, 22, 2, 23, 24, 25, 26, 27, 28, 29, 30, 31, 32, 33, 34] (fun i : Nat => [.int .i64 i]) (fun i s' => i = 0 ∧ s' = s.set b 45 [.ptr none, .raw none 0 0]) (fun i => 0) (0) (by kernel_rfl) (by (repeat' (first | refine cons_eq ?_ ?_ | refine int64_of ?_ ?_ ?_ | rfl | omega))) ?_ ?_
  · exact ⟨rfl, rfl⟩
  · rintro y i s1 ⟨rfl, rfl⟩
    show awp _ _ _ _ _ (updL _ _ [.int .i64 ((0 : Nat) : Int)]) _
    conv => whnf
    have hz : (intsA .i64 ((runsOf []).map (·.1))).length = 0 := rfl
    repeat' (first
      | (exfalso; first | omega | exact (by assumption : ¬ True) trivial | fail)
      | (refine ⟨Sub.refl _, ?_⟩)
      | (refine brA_split (fun h => ?_) (fun h => ?_) <;> (try rw [h]) <;> (try simp only [Bool.false_eq_true, Bool.true_eq_false, ↓reduceIte, decide_eq_true_eq, decide_eq_false_iff_not, Bool.not_eq_true', Bool.not_eq_false'] at h) <;> (conv => whnf))
      | (refine ACalls.by (StringNil_ok (p := none) set_bx_same) ?_; rintro _ s5 ⟨rfl, hs5⟩; conv => whnf)
      | (refine getB_same ?_; conv => whnf)
      | (refine AWp.any (by kernel_rfl) (by kernel_rfl) (by kernel_rfl) ?_; conv => whnf)
      | (apply And.intro; (focus (first | omega | rfl | decide | exact Nat.le_of_ble_eq_true rfl | ((repeat' (first | exact all_nil | refine all_cons ?_ ?_ | rfl | fail)); done) | (simp [-List.length_flatMap]; done) | (simp [-List.length_flatMap]; omega) | fail)); conv => whnf)
      | fail)
    exact ⟨s5, Sub.refl _, by simp only [tupA, fg], ((Sub.refl _).set hb _ _).trans hs5⟩
theorem text_ok (hN : Nms Γ) (hT : Nu.Tens Γ) (t : Nat) (l : List Int) (hl : l.length ≤ 20000) : APure Tryz.prog Γ 6 [.slice t (intsA .i64 l)] fun v => v = .str (textP l) := by
  by_cases h0 : l = []
  · subst h0
    have := textNil_ok hN (Γ := Γ) t
    rwa [show textP [] = [] from rfl]
  · exact textFull_ok hN hT t l h0 hl
theorem refText_ok (t : Nat) (l : List Int) (hl : l.length ≤ 20000) : APure Tryz.prog Γ 11 [.slice t (intsA .i64 l)] fun v => v = .str (textR (runsOf l)) := by
  obtain ⟨e1, e2⟩ := runs_all l
  have htl := text_len (runsOf l) (fun x hx => (e2 x hx).1)
  have hrl := runs_len l
  have hcl := fun x hx => count_le (x := x) hx (fun y hy => (e2 y hy).1)
  rw [e1] at htl hcl
  have hv := refRuns_ok (Γ := Γ) t l (by omega)
  generalize runsOf l = R at *
  have h1l := runsA_len R
  refine APure.of_awp Tryz.func11 rfl (Nat.le_of_ble_eq_true (by kernel_rfl)) (by kernel_rfl) ?_
  intro s
  conv => whnf
  repeat' (first
    | (refine ⟨Sub.refl _, ?_⟩)
    | (refine brA_split (fun h => ?_) (fun h => ?_) <;> (try rw [h]) <;> (try simp only [Bool.false_eq_true, Bool.true_eq_false, ↓reduceIte, decide_eq_true_eq, decide_eq_false_iff_not, Bool.not_eq_true', Bool.not_eq_false'] at h) <;> (conv => whnf))
    | (refine ACalls.pure' ?_ (hv); rintro _ rfl; conv => whnf)
    | (refine DCall.pure ?_ (hv); conv => whnf)
    | (refine getB_same ?_; conv => whnf)
    | (refine AWp.any (by kernel_rfl) (by kernel_rfl) (by kernel_rfl) ?_; conv => whnf)
    | (apply And.intro; (focus (first | omega | rfl | decide | exact Nat.le_of_ble_eq_true rfl | ((repeat' (first | exact all_nil | refine all_cons ?_ ?_ | rfl | fail)); done) | (simp [-List.length_flatMap]; done) | (simp [-List.length_flatMap]; omega) | fail)); conv => whnf)
    | fail)
  refine AWp.loopA [3, 5] [8, 9, 10, 11, 14, 15, 16, 17, 18, 19, 20, 21, 22, 23, 24, 25, 26, 27, 28, 29, 30, 12, 13] (fun i : Nat => [.str (textR (R.take i)), .int .i64 i]) (fun i s' => i ≤ R.length ∧ s' = s) (fun i => R.length - i) (0) (by kernel_rfl) (by (repeat' (first | refine cons_eq ?_ ?_ | refine int64_of ?_ ?_ ?_ | rfl | omega))) ?_ ?_
  · exact ⟨Nat.zero_le _, rfl⟩
  · rintro y i s1 ⟨hi, rfl⟩
    show awp _ _ _ _ _ (updL _ _ [.str (textR (R.take i)), .int .i64 (i : Int)]) _
    conv => whnf
    by_cases hlt : i < R.length
    · have hg := runsA_get hlt
      have hm := run_mem hlt
      have htk := take_run hlt
      have hta := textR_add (R.take i) (R.getD i (0, 0))
      rw [← htk] at hta
      have htm := take_len R i
      generalize R.getD i (0, 0) = x at *
      have hx := e2 x hm
      have hxl := hcl x hm
      have hit := itoa_len hx.1
      have hvl := vname_len x.1
      have hw : IntKind.i64.wrap ((i : Int) + 1) = ((i + 1 : Nat) : Int) := i64_of (by omega) (by omega) (by omega)
      repeat' (first
        | (exfalso; first | omega | exact (by assumption : ¬ True) trivial | fail)
        | (refine ⟨Sub.refl _, ?_⟩)
        | (refine brA_split (fun h => ?_) (fun h => ?_) <;> (try rw [h]) <;> (try simp only [Bool.false_eq_true, Bool.true_eq_false, ↓reduceIte, decide_eq_true_eq, decide_eq_false_iff_not, Bool.not_eq_true', Bool.not_eq_false'] at h) <;> (conv => whnf))
        | (rw [show (runsA R).getD ((i : Int)).toNat [] = _ from hg]; conv => whnf)
        | (refine ACalls.pure' ?_ (refName_ok _); rintro _ rfl; conv => whnf)
        | (refine DCall.pure ?_ (refName_ok _); conv => whnf)
        | (refine ACalls.pure' ?_ (Nu.refText_ok (x.2.natAbs + 1) x.2 (Nat.lt_succ_self _) ⟨by omega, by omega⟩ Γ); rintro _ rfl; conv => whnf)
        | (refine DCall.pure ?_ (Nu.refText_ok (x.2.natAbs + 1) x.2 (Nat.lt_succ_self _) ⟨by omega, by omega⟩ Γ); conv => whnf)
        | (refine getB_same ?_; conv => whnf)
        | (refine AWp.any (by kernel_rfl) (by kernel_rfl) (by kernel_rfl) ?_; conv => whnf)
        | (apply And.intro; (focus (first | omega | rfl | decide | exact Nat.le_of_ble_eq_true rfl | ((repeat' (first | exact all_nil | refine all_cons ?_ ?_ | rfl | fail)); done) | (simp [-List.length_flatMap]; done) | (simp [-List.length_flatMap]; omega) | fail)); conv => whnf)
        | fail)
      refine ⟨i + 1, ?_, by (repeat (first | exact Same.refl _ _ | refine Same.upd rfl ?_ | refine Same.updL rfl ?_ | refine Same.havoc rfl ?_)), ⟨by omega, by first | rfl | trivial⟩, by omega⟩
      rw [hta]
      exact cons_eq (by show AV.str (textR (R.take i) ++ Lib.itoa x.2 ++ [32] ++ vname x.1 ++ [10]) = _; simp [lineT]) (cons_eq (congrArg (AV.int .i64) hw) rfl)
    · obtain rfl : i = R.length := by omega
      rw [List.take_length] at *
      repeat' (first
        | (exfalso; first | omega | exact (by assumption : ¬ True) trivial | fail)
        | (refine ⟨Sub.refl _, ?_⟩)
        | (refine brA_split (fun h => ?_) (fun h => ?_) <;> (try rw [h]) <;> (try simp only [Bool.false_eq_true, Bool.true_eq_false, ↓reduceIte, decide_eq_true_eq, decide_eq_false_iff_not, Bool.not_eq_true', Bool.not_eq_false'] at h) <;> (conv => whnf))
        | (refine getB_same ?_; conv => whnf)
        | (refine AWp.any (by kernel_rfl) (by kernel_rfl) (by kernel_rfl) ?_; conv => whnf)
        | (apply And.intro; (focus (first | omega | rfl | decide | exact Nat.le_of_ble_eq_true rfl | ((repeat' (first | exact all_nil | refine all_cons ?_ ?_ | rfl | fail)); done) | (simp [-List.length_flatMap]; done) | (simp [-List.length_flatMap]; omega) | fail)); conv => whnf)
        | fail)
      rfl
theorem right_ok (t : Nat) (l : List Int) (hl : l.length ≤ 20000) : APure Tryz.prog Γ 9 [.slice t (intsA .i64 l)] fun v => v = .bool (okV l) := by
  have hil := intsA_len .i64 l
  refine APure.of_awp Tryz.func9 rfl (Nat.le_of_ble_eq_true (by kernel_rfl)) (by kernel_rfl) ?_
  intro s
  conv => whnf
  repeat' (first
    | (refine ⟨Sub.refl _, ?_⟩)
    | (refine brA_split (fun h => ?_) (fun h => ?_) <;> (try rw [h]) <;> (try simp only [Bool.false_eq_true, Bool.true_eq_false, ↓reduceIte, decide_eq_true_eq, decide_eq_false_iff_not, Bool.not_eq_true', Bool.not_eq_false'] at h) <;> (conv => whnf))
    | (refine getB_same ?_; conv => whnf)
    | (refine AWp.any (by kernel_rfl) (by kernel_rfl) (by kernel_rfl) ?_; conv => whnf)
    | (apply And.intro; (focus (first | omega | rfl | decide | exact Nat.le_of_ble_eq_true rfl | ((repeat' (first | exact all_nil | refine all_cons ?_ ?_ | rfl | fail)); done) | (simp [-List.length_flatMap]; done) | (simp [-List.length_flatMap]; omega) | fail)); conv => whnf)
    | fail)
  refine AWp.loopA [3] [4, 5, 6, 7, 10, 11, 12, 13, 14, 15, 16, 17, 18, 19, 20, 21, 2, 8, 9] (fun i : Nat => [.int .i64 i]) (fun i s' => i ≤ l.length ∧ s' = s ∧ okV (l.take i) = true) (fun i => l.length - i) (0) (by kernel_rfl) (by (repeat' (first | refine cons_eq ?_ ?_ | refine int64_of ?_ ?_ ?_ | rfl | omega))) ?_ ?_
  · exact ⟨Nat.zero_le _, rfl, rfl⟩
  · rintro y i s1 ⟨hi, rfl, hR⟩
    show awp _ _ _ _ _ (updL _ _ [.int .i64 (i : Int)]) _
    conv => whnf
    by_cases hlt : i < l.length
    · have hg := intsA_get (k := .i64) hlt
      have hm := getD_mem hlt
      have htk : l.take (i + 1) = l.take i ++ [l.getD i 0] := by rw [List.take_add_one]; simp [List.getD, hlt]
      have hno : ¬ (1 ≤ l.getD i 0 ∧ l.getD i 0 ≤ 4) → okV l = false := by
        intro h
        rw [Bool.eq_false_iff]
        intro hh
        exact h (of_decide_eq_true (List.all_eq_true.1 hh _ hm))
      generalize l.getD i 0 = x at *
      repeat' (first
        | (exfalso; first | omega | exact (by assumption : ¬ True) trivial | fail)
        | (refine ⟨Sub.refl _, ?_⟩)
        | (refine brA_split (fun h => ?_) (fun h => ?_) <;> (try rw [h]) <;> (try simp only [Bool.false_eq_true, Bool.true_eq_false, ↓reduceIte, decide_eq_true_eq, decide_eq_false_iff_not, Bool.not_eq_true', Bool.not_eq_false'] at h) <;> (conv => whnf))
        | (rw [show (intsA .i64 l).getD ((i : Int)).toNat [] = _ from hg]; conv => whnf)
        | (refine getB_same ?_; conv => whnf)
        | (refine AWp.any (by kernel_rfl) (by kernel_rfl) (by kernel_rfl) ?_; conv => whnf)
        | (apply And.intro; (focus (first | omega | rfl | decide | exact Nat.le_of_ble_eq_true rfl | ((repeat' (first | exact all_nil | refine all_cons ?_ ?_ | rfl | fail)); done) | (simp [-List.length_flatMap]; done) | (simp [-List.length_flatMap]; omega) | fail)); conv => whnf)
        | fail)
      · rw [hno (by omega)]; rfl
      · rw [hno (by omega)]; rfl
      · refine ⟨i + 1, by (repeat' (first | refine cons_eq ?_ ?_ | refine int64_of ?_ ?_ ?_ | rfl | omega)), by (repeat (first | exact Same.refl _ _ | refine Same.upd rfl ?_ | refine Same.updL rfl ?_ | refine Same.havoc rfl ?_)), ⟨by omega, by first | rfl | trivial, ?_⟩, by omega⟩
        rw [htk]
        unfold okV at *
        rw [List.all_append, hR]
        simp only [List.all_cons, List.all_nil, Bool.and_true, Bool.true_and]
        exact decide_eq_true (by omega)
    · obtain rfl : i = l.length := by omega
      rw [List.take_length] at *
      repeat' (first
        | (exfalso; first | omega | exact (by assumption : ¬ True) trivial | fail)
        | (refine ⟨Sub.refl _, ?_⟩)
        | (refine brA_split (fun h => ?_) (fun h => ?_) <;> (try rw [h]) <;> (try simp only [Bool.false_eq_true, Bool.true_eq_false, ↓reduceIte, decide_eq_true_eq, decide_eq_false_iff_not, Bool.not_eq_true', Bool.not_eq_false'] at h) <;> (conv => whnf))
        | (refine getB_same ?_; conv => whnf)
        | (refine AWp.any (by kernel_rfl) (by kernel_rfl) (by kernel_rfl) ?_; conv => whnf)
        | (apply And.intro; (focus (first | omega | rfl | decide | exact Nat.le_of_ble_eq_true rfl | ((repeat' (first | exact all_nil | refine all_cons ?_ ?_ | rfl | fail)); done) | (simp [-List.length_flatMap]; done) | (simp [-List.length_flatMap]; omega) | fail)); conv => whnf)
        | fail)
      rw [hR]; rfl
theorem same_ok (t t' : Nat) (l : List Int) (hl : l.length ≤ 20000) : APure Tryz.prog Γ 12 [.slice t (intsA .i64 l), .slice t' (intsA .i64 l)] fun v => v = .bool true := by
  have hil := intsA_len .i64 l
  refine APure.of_awp Tryz.func12 rfl (Nat.le_of_ble_eq_true (by kernel_rfl)) (by kernel_rfl) ?_
  intro s
  conv => whnf
  repeat' (first
    | (exfalso; first | omega | exact (by assumption : ¬ True) trivial | fail)
    | (refine ⟨Sub.refl _, ?_⟩)
    | (refine brA_split (fun h => ?_) (fun h => ?_) <;> (try rw [h]) <;> (try simp only [Bool.false_eq_true, Bool.true_eq_false, ↓reduceIte, decide_eq_true_eq, decide_eq_false_iff_not, Bool.not_eq_true', Bool.not_eq_false'] at h) <;> (conv => whnf))
    | (refine getB_same ?_; conv => whnf)
    | (refine AWp.any (by kernel_rfl) (by kernel_rfl) (by kernel_rfl) ?_; conv => whnf)
    | (apply And.intro; (focus (first | omega | rfl | decide | exact Nat.le_of_ble_eq_true rfl | ((repeat' (first | exact all_nil | refine all_cons ?_ ?_ | rfl | fail)); done) | (simp [-List.length_flatMap]; done) | (simp [-List.length_flatMap]; omega) | fail)); conv => whnf)
    | fail)
  refine AWp.loopA [5] [11, 12, 13, 14, 17, 18, 19, 20, 21, 22, 23, 24, 25, 4, 15, 16] (fun i : Nat => [.int .i64 i]) (fun i s' => i ≤ l.length ∧ s' = s) (fun i => l.length - i) (0) (by kernel_rfl) (by (repeat' (first | refine cons_eq ?_ ?_ | refine int64_of ?_ ?_ ?_ | rfl | omega))) ?_ ?_
  · exact ⟨Nat.zero_le _, rfl⟩
  · rintro y i s1 ⟨hi, rfl⟩
    show awp _ _ _ _ _ (updL _ _ [.int .i64 (i : Int)]) _
    conv => whnf
    by_cases hlt : i < l.length
    · have hg := intsA_get (k := .i64) hlt
      repeat' (first
        | (exfalso; first | omega | exact (by assumption : ¬ True) trivial | fail)
        | (refine ⟨Sub.refl _, ?_⟩)
        | (refine brA_split (fun h => ?_) (fun h => ?_) <;> (try rw [h]) <;> (try simp only [Bool.false_eq_true, Bool.true_eq_false, ↓reduceIte, decide_eq_true_eq, decide_eq_false_iff_not, Bool.not_eq_true', Bool.not_eq_false'] at h) <;> (conv => whnf))
        | (rw [show (intsA .i64 l).getD ((i : Int)).toNat [] = _ from hg]; conv => whnf)
        | (refine getB_same ?_; conv => whnf)
        | (refine AWp.any (by kernel_rfl) (by kernel_rfl) (by kernel_rfl) ?_; conv => whnf)
        | (apply And.intro; (focus (first | omega | rfl | decide | exact Nat.le_of_ble_eq_true rfl | ((repeat' (first | exact all_nil | refine all_cons ?_ ?_ | rfl | fail)); done) | (simp [-List.length_flatMap]; done) | (simp [-List.length_flatMap]; omega) | fail)); conv => whnf)
        | fail)
      exact ⟨i + 1, by (repeat' (first | refine cons_eq ?_ ?_ | refine int64_of ?_ ?_ ?_ | rfl | omega)), by (repeat (first | exact Same.refl _ _ | refine Same.upd rfl ?_ | refine Same.updL rfl ?_ | refine Same.havoc rfl ?_)), ⟨by omega, by first | rfl | trivial⟩, by omega⟩
    · repeat' (first
        | (exfalso; first | omega | exact (by assumption : ¬ True) trivial | fail)
        | (refine ⟨Sub.refl _, ?_⟩)
        | (refine brA_split (fun h => ?_) (fun h => ?_) <;> (try rw [h]) <;> (try simp only [Bool.false_eq_true, Bool.true_eq_false, ↓reduceIte, decide_eq_true_eq, decide_eq_false_iff_not, Bool.not_eq_true', Bool.not_eq_false'] at h) <;> (conv => whnf))
        | (refine getB_same ?_; conv => whnf)
        | (refine AWp.any (by kernel_rfl) (by kernel_rfl) (by kernel_rfl) ?_; conv => whnf)
        | (apply And.intro; (focus (first | omega | rfl | decide | exact Nat.le_of_ble_eq_true rfl | ((repeat' (first | exact all_nil | refine all_cons ?_ ?_ | rfl | fail)); done) | (simp [-List.length_flatMap]; done) | (simp [-List.length_flatMap]; omega) | fail)); conv => whnf)
        | fail)
      rfl
theorem err_col (x : Except (Int × Int) (List Int)) : ∃ l e a, listA x = .tuple [.slice 0 (intsA .i64 l), .agg [.int .i64 e, .int .i64 a, .int .i64 0]] ∧ refListA x = .tuple [.slice 0 (intsA .i64 l), .int .i64 e, .int .i64 a] ∧ (∀ m, x = .ok m → l = m ∧ e = 0 ∧ a = 0) ∧ (∀ e' a', x = .error (e', a') → l = [] ∧ e = e' ∧ a = a') := by
  rcases x with ⟨e, a⟩ | l
  · exact ⟨[], e, a, rfl, rfl, fun m h => (by cases h), fun e' a' h => (by cases h; exact ⟨rfl, rfl, rfl⟩)⟩
  · exact ⟨l, 0, 0, rfl, rfl, fun m h => (by cases h; exact ⟨rfl, rfl, rfl⟩), fun e' a' h => (by cases h)⟩
theorem list_len : ∀ (k : Nat) (out : List Int) (a : Int) (s : List UInt8) (res : List Int), out.length ≤ 16384 → listF k out a s = .ok res → res.length ≤ 16384
  | 0, out, a, s, res => fun ho h => by cases h; exact ho
  | k + 1, out, a, s, res => fun ho h => by
    by_cases hs : s = []
    · subst hs; rw [listF_end] at h; cases h; exact ho
    · rcases hc : cutAt 10 s with _ | ⟨one, rest⟩
      · rw [listF_short hs hc] at h; cases h
      · rcases hm : moreF out one with e' | ⟨v, n⟩
        · rw [listF_bad hs hc hm] at h; cases h
        · rw [listF_ok hs hc hm] at h
          have hb := more_bound hm
          exact list_len k _ _ _ _ (by rw [List.length_append, List.length_replicate]; omega) h
theorem grdFail : (!Tryz.prog.eqGuardType Tryz.prog.depth 34) = true := by kernel_rfl
theorem planFail : planT Tryz.prog 9999 34 = some [(0, 0), (1, 0), (2, 0)] := by kernel_rfl
theorem lists_law (hN : Nms Γ) (hT : Nu.Tens Γ) (hE : Nu.ErrR Γ) (hA : AsV.ErrT Γ) (S : List UInt8) (hl : S.length ≤ 9223372036854775807) : APure Tryz.prog Γ 4 [.str S] fun v => v = .bool true := by
  by_cases hS : (3000 : Int) < S.length
  · refine APure.of_awp Tryz.func4 rfl (Nat.le_of_ble_eq_true (by kernel_rfl)) (by kernel_rfl) ?_
    intro s
    conv => whnf
    repeat' (first
      | (exfalso; first | omega | exact (by assumption : ¬ True) trivial | fail)
      | (refine ⟨Sub.refl _, ?_⟩)
      | (refine brA_split (fun h => ?_) (fun h => ?_) <;> (try rw [h]) <;> (try simp only [Bool.false_eq_true, Bool.true_eq_false, ↓reduceIte, decide_eq_true_eq, decide_eq_false_iff_not, Bool.not_eq_true', Bool.not_eq_false'] at h) <;> (conv => whnf))
      | (refine ACalls.pure' ?_ (awake_ok hN hT); rintro _ rfl; conv => whnf)
      | (refine DCall.pure ?_ (awake_ok hN hT); conv => whnf)
      | (refine getB_same ?_; conv => whnf)
      | (refine AWp.any (by kernel_rfl) (by kernel_rfl) (by kernel_rfl) ?_; conv => whnf)
      | (apply And.intro; (focus (first | omega | rfl | decide | exact Nat.le_of_ble_eq_true rfl | ((repeat' (first | exact all_nil | refine all_cons ?_ ?_ | rfl | fail)); done) | (simp [-List.length_flatMap]; done) | (simp [-List.length_flatMap]; omega) | fail)); conv => whnf)
      | fail)
    rfl
  · have h1 := progList_ok hN hE hA S (by omega)
    have h2 := refParse_ok (Γ := Γ) S (by omega)
    rcases hx : listF (S.length + 1) [] 1 S with ⟨e, a⟩ | l
    · rw [hx] at h1 h2
      simp only [listA, refListA] at h1 h2
      have he := list_err _ _ _ _ _ _ hx
      have hsm := same_ok (Γ := Γ) 0 0 [] (by simp)
      refine APure.of_awp Tryz.func4 rfl (Nat.le_of_ble_eq_true (by kernel_rfl)) (by kernel_rfl) ?_
      intro s
      conv => whnf
      repeat' (first
        | (exfalso; first | omega | exact (by assumption : ¬ True) trivial | fail)
        | (refine ⟨Sub.refl _, ?_⟩)
        | (refine brA_split (fun h => ?_) (fun h => ?_) <;> (try rw [h]) <;> (try simp only [Bool.false_eq_true, Bool.true_eq_false, ↓reduceIte, decide_eq_true_eq, decide_eq_false_iff_not, Bool.not_eq_true', Bool.not_eq_false'] at h) <;> (conv => whnf))
        | (refine ACalls.pure' ?_ (h1); rintro _ rfl; conv => whnf)
        | (refine DCall.pure ?_ (h1); conv => whnf)
        | (refine getB_same ?_; conv => whnf)
        | (refine AWp.any (by kernel_rfl) (by kernel_rfl) (by kernel_rfl) ?_; conv => whnf)
        | (apply And.intro; (focus (first | omega | rfl | decide | exact Nat.le_of_ble_eq_true rfl | ((repeat' (first | exact all_nil | refine all_cons ?_ ?_ | rfl | fail)); done) | (simp [-List.length_flatMap]; done) | (simp [-List.length_flatMap]; omega) | fail)); conv => whnf)
        | fail)
      intro b4 hb4
      conv => whnf
      repeat' (first
        | (exfalso; first | omega | exact (by assumption : ¬ True) trivial | fail)
        | (refine ⟨Sub.refl _, ?_⟩)
        | (refine brA_split (fun h => ?_) (fun h => ?_) <;> (try rw [h]) <;> (try simp only [Bool.false_eq_true, Bool.true_eq_false, ↓reduceIte, decide_eq_true_eq, decide_eq_false_iff_not, Bool.not_eq_true', Bool.not_eq_false'] at h) <;> (conv => whnf))
        | (refine getB_of (by ((repeat (first | exact set_bx_same | assumption | refine (set_bx_other (by assumption)).trans ?_ | refine grow_bx.trans ?_)); done)) ?_; conv => whnf)
        | (refine ACalls.pure' ?_ (h2); rintro _ rfl; conv => whnf)
        | (refine DCall.pure ?_ (h2); conv => whnf)
        | (refine ACalls.pure' ?_ (hsm); rintro _ rfl; conv => whnf)
        | (refine DCall.pure ?_ (hsm); conv => whnf)
        | (refine ACalls.pure' ?_ (awake_ok hN hT); rintro _ rfl; conv => whnf)
        | (refine DCall.pure ?_ (awake_ok hN hT); conv => whnf)
        | (refine getB_same ?_; conv => whnf)
        | (refine AWp.any (by kernel_rfl) (by kernel_rfl) (by kernel_rfl) ?_; conv => whnf)
        | (apply And.intro; (focus (first | omega | rfl | decide | exact Nat.le_of_ble_eq_true rfl | ((repeat' (first | exact all_nil | refine all_cons ?_ ?_ | rfl | fail)); done) | (simp [-List.length_flatMap]; done) | (simp [-List.length_flatMap]; omega) | fail)); conv => whnf)
        | fail)
      exact ⟨((Sub.refl _).set hb4 _ _).set hb4 _ _, by simp [tupA]⟩
    · rw [hx] at h1 h2
      simp only [listA, refListA] at h1 h2
      have hln := list_len _ _ _ _ _ (by simp) hx
      have hsm := same_ok (Γ := Γ) 0 0 l (by omega)
      obtain ⟨hb1, hb2⟩ := lists_back hx (Nat.lt_succ_self _)
      have ht := text_ok hN hT 0 l (by omega)
      have hok : okV l = true := List.all_eq_true.2 fun x hx => decide_eq_true (hb2 x hx)
      rw [textP, if_pos hok, ← hb1] at ht
      refine APure.of_awp Tryz.func4 rfl (Nat.le_of_ble_eq_true (by kernel_rfl)) (by kernel_rfl) ?_
      intro s
      conv => whnf
      repeat' (first
        | (exfalso; first | omega | exact (by assumption : ¬ True) trivial | fail)
        | (refine ⟨Sub.refl _, ?_⟩)
        | (refine brA_split (fun h => ?_) (fun h => ?_) <;> (try rw [h]) <;> (try simp only [Bool.false_eq_true, Bool.true_eq_false, ↓reduceIte, decide_eq_true_eq, decide_eq_false_iff_not, Bool.not_eq_true', Bool.not_eq_false'] at h) <;> (conv => whnf))
        | (refine ACalls.pure' ?_ (h1); rintro _ rfl; conv => whnf)
        | (refine DCall.pure ?_ (h1); conv => whnf)
        | (refine getB_same ?_; conv => whnf)
        | (refine AWp.any (by kernel_rfl) (by kernel_rfl) (by kernel_rfl) ?_; conv => whnf)
        | (apply And.intro; (focus (first | omega | rfl | decide | exact Nat.le_of_ble_eq_true rfl | ((repeat' (first | exact all_nil | refine all_cons ?_ ?_ | rfl | fail)); done) | (simp [-List.length_flatMap]; done) | (simp [-List.length_flatMap]; omega) | fail)); conv => whnf)
        | fail)
      intro b4 hb4
      conv => whnf
      repeat' (first
        | (exfalso; first | omega | exact (by assumption : ¬ True) trivial | fail)
        | (refine ⟨Sub.refl _, ?_⟩)
        | (refine brA_split (fun h => ?_) (fun h => ?_) <;> (try rw [h]) <;> (try simp only [Bool.false_eq_true, Bool.true_eq_false, ↓reduceIte, decide_eq_true_eq, decide_eq_false_iff_not, Bool.not_eq_true', Bool.not_eq_false'] at h) <;> (conv => whnf))
        | (refine getB_of (by ((repeat (first | exact set_bx_same | assumption | refine (set_bx_other (by assumption)).trans ?_ | refine grow_bx.trans ?_)); done)) ?_; conv => whnf)
        | (refine ACalls.pure' ?_ (h2); rintro _ rfl; conv => whnf)
        | (refine DCall.pure ?_ (h2); conv => whnf)
        | (refine ACalls.pure' ?_ (hsm); rintro _ rfl; conv => whnf)
        | (refine DCall.pure ?_ (hsm); conv => whnf)
        | (refine ACalls.pure' ?_ (ht); rintro _ rfl; conv => whnf)
        | (refine DCall.pure ?_ (ht); conv => whnf)
        | (refine ACalls.pure' ?_ (awake_ok hN hT); rintro _ rfl; conv => whnf)
        | (refine DCall.pure ?_ (awake_ok hN hT); conv => whnf)
        | (refine getB_same ?_; conv => whnf)
        | (refine AWp.any (by kernel_rfl) (by kernel_rfl) (by kernel_rfl) ?_; conv => whnf)
        | (apply And.intro; (focus (first | omega | rfl | decide | exact Nat.le_of_ble_eq_true rfl | ((repeat' (first | exact all_nil | refine all_cons ?_ ?_ | rfl | fail)); done) | (simp [-List.length_flatMap]; done) | (simp [-List.length_flatMap]; omega) | fail)); conv => whnf)
        | fail)
      · exact ⟨((Sub.refl _).set hb4 _ _).set hb4 _ _, rfl⟩
      · exfalso; revert h; simp
theorem texts_law (hN : Nms Γ) (hT : Nu.Tens Γ) (hE : Nu.ErrR Γ) (hA : AsV.ErrT Γ) (l : List Int) (hl : l.length ≤ 9223372036854775807) : APure Tryz.prog Γ 3 [.slice 0 (intsA .i64 l)] fun v => v = .bool true := by
  have hil := intsA_len .i64 l
  by_cases hS : 1000 < l.length
  · refine APure.of_awp Tryz.func3 rfl (Nat.le_of_ble_eq_true (by kernel_rfl)) (by kernel_rfl) ?_
    intro s
    conv => whnf
    repeat' (first
      | (exfalso; first | omega | exact (by assumption : ¬ True) trivial | fail)
      | (refine ⟨Sub.refl _, ?_⟩)
      | (refine brA_split (fun h => ?_) (fun h => ?_) <;> (try rw [h]) <;> (try simp only [Bool.false_eq_true, Bool.true_eq_false, ↓reduceIte, decide_eq_true_eq, decide_eq_false_iff_not, Bool.not_eq_true', Bool.not_eq_false'] at h) <;> (conv => whnf))
      | (refine ACalls.pure' ?_ (awake_ok hN hT); rintro _ rfl; conv => whnf)
      | (refine DCall.pure ?_ (awake_ok hN hT); conv => whnf)
      | (refine getB_same ?_; conv => whnf)
      | (refine AWp.any (by kernel_rfl) (by kernel_rfl) (by kernel_rfl) ?_; conv => whnf)
      | (apply And.intro; (focus (first | omega | rfl | decide | exact Nat.le_of_ble_eq_true rfl | ((repeat' (first | exact all_nil | refine all_cons ?_ ?_ | rfl | fail)); done) | (simp [-List.length_flatMap]; done) | (simp [-List.length_flatMap]; omega) | fail)); conv => whnf)
      | fail)
    rfl
  · have ht := text_ok hN hT 0 l (by omega)
    have hr := runsV_ok (Γ := Γ) 0 l (by omega)
    have hrr := refRuns_ok (Γ := Γ) 0 l (by omega)
    have hok := right_ok (Γ := Γ) 0 l (by omega)
    have hrt := refText_ok (Γ := Γ) 0 l (by omega)
    have hsm := same_ok (Γ := Γ) 0 0 l (by omega)
    have h1l : (intsA .i64 ((runsOf l).map (·.1))).length = (runsOf l).length := by rw [intsA_len, List.length_map]
    have h2l : (intsA .i64 ((runsOf l).map (·.2))).length = (runsOf l).length := by rw [intsA_len, List.length_map]
    have h3l := runsA_len (runsOf l)
    have hrl := runs_len l
    obtain ⟨e1, e2⟩ := runs_all l
    have htl := text_len (runsOf l) (fun x hx => (e2 x hx).1)
    rw [e1] at htl
    have hpl := progList_ok hN hE hA (textR (runsOf l)) (by omega)
    refine APure.of_awp Tryz.func3 rfl (Nat.le_of_ble_eq_true (by kernel_rfl)) (by kernel_rfl) ?_
    intro s
    conv => whnf
    repeat' (first
      | (exfalso; first | omega | exact (by assumption : ¬ True) trivial | fail)
      | (refine ⟨Sub.refl _, ?_⟩)
      | (refine brA_split (fun h => ?_) (fun h => ?_) <;> (try rw [h]) <;> (try simp only [Bool.false_eq_true, Bool.true_eq_false, ↓reduceIte, decide_eq_true_eq, decide_eq_false_iff_not, Bool.not_eq_true', Bool.not_eq_false'] at h) <;> (conv => whnf))
      | (refine ACalls.pure' ?_ (ht); rintro _ rfl; conv => whnf)
      | (refine DCall.pure ?_ (ht); conv => whnf)
      | (refine ACalls.pure' ?_ (hr); rintro _ rfl; conv => whnf)
      | (refine DCall.pure ?_ (hr); conv => whnf)
      | (refine ACalls.pure' ?_ (hrr); rintro _ rfl; conv => whnf)
      | (refine DCall.pure ?_ (hrr); conv => whnf)
      | (refine getB_same ?_; conv => whnf)
      | (refine AWp.any (by kernel_rfl) (by kernel_rfl) (by kernel_rfl) ?_; conv => whnf)
      | (apply And.intro; (focus (first | omega | rfl | decide | exact Nat.le_of_ble_eq_true rfl | ((repeat' (first | exact all_nil | refine all_cons ?_ ?_ | rfl | fail)); done) | (simp [-List.length_flatMap]; done) | (simp [-List.length_flatMap]; omega) | fail)); conv => whnf)
      | fail)
    refine AWp.loopA [7] [35, 36, 37, 38, 41, 42, 43, 44, 45, 46, 47, 48, 49, 50, 51, 52, 53, 54, 55, 56, 57, 58, 59, 60, 61, 62, 2, 39, 40] (fun i : Nat => [.int .i64 i]) (fun i s' => i ≤ (runsOf l).length ∧ s' = s) (fun i => (runsOf l).length - i) (0) (by kernel_rfl) (by (repeat' (first | refine cons_eq ?_ ?_ | refine int64_of ?_ ?_ ?_ | rfl | omega))) ?_ ?_
    · exact ⟨Nat.zero_le _, rfl⟩
    · rintro y i s1 ⟨hi, rfl⟩
      show awp _ _ _ _ _ (updL _ _ [.int .i64 (i : Int)]) _
      conv => whnf
      by_cases hlt : i < (runsOf l).length
      · have hg1 := fst_get hlt
        have hg2 := snd_get hlt
        have hg3 := runsA_get hlt
        repeat' (first
          | (exfalso; first | omega | exact (by assumption : ¬ True) trivial | fail)
          | (refine ⟨Sub.refl _, ?_⟩)
          | (refine brA_split (fun h => ?_) (fun h => ?_) <;> (try rw [h]) <;> (try simp only [Bool.false_eq_true, Bool.true_eq_false, ↓reduceIte, decide_eq_true_eq, decide_eq_false_iff_not, Bool.not_eq_true', Bool.not_eq_false'] at h) <;> (conv => whnf))
          | (rw [show (intsA .i64 ((runsOf l).map (·.1))).getD ((i : Int)).toNat [] = _ from hg1]; conv => whnf)
          | (rw [show (intsA .i64 ((runsOf l).map (·.2))).getD ((i : Int)).toNat [] = _ from hg2]; conv => whnf)
          | (rw [show (runsA (runsOf l)).getD ((i : Int)).toNat [] = _ from hg3]; conv => whnf)
          | (refine getB_same ?_; conv => whnf)
          | (refine AWp.any (by kernel_rfl) (by kernel_rfl) (by kernel_rfl) ?_; conv => whnf)
          | (apply And.intro; (focus (first | omega | rfl | decide | exact Nat.le_of_ble_eq_true rfl | ((repeat' (first | exact all_nil | refine all_cons ?_ ?_ | rfl | fail)); done) | (simp [-List.length_flatMap]; done) | (simp [-List.length_flatMap]; omega) | fail)); conv => whnf)
          | fail)
        all_goals first | (exfalso; revert h; simp; done) | skip
        exact ⟨i + 1, by (repeat' (first | refine cons_eq ?_ ?_ | refine int64_of ?_ ?_ ?_ | rfl | omega)), by (repeat (first | exact Same.refl _ _ | refine Same.upd rfl ?_ | refine Same.updL rfl ?_ | refine Same.havoc rfl ?_)), ⟨by omega, by first | rfl | trivial⟩, by omega⟩
      · by_cases ho : okV l = true
        · have htp : textP l = textR (runsOf l) := by rw [textP, if_pos ho]
          have hall : ∀ x ∈ l, 1 ≤ x ∧ x ≤ 4 := fun x hx => of_decide_eq_true (List.all_eq_true.1 ho x hx)
          rw [texts_back (by omega) hall _ (Nat.lt_succ_self _)] at hpl
          simp only [listA] at hpl
          rw [ho] at hok
          rw [htp]
          repeat' (first
            | (exfalso; first | omega | exact (by assumption : ¬ True) trivial | fail)
            | (refine ⟨Sub.refl _, ?_⟩)
            | (refine brA_split (fun h => ?_) (fun h => ?_) <;> (try rw [h]) <;> (try simp only [Bool.false_eq_true, Bool.true_eq_false, ↓reduceIte, decide_eq_true_eq, decide_eq_false_iff_not, Bool.not_eq_true', Bool.not_eq_false'] at h) <;> (conv => whnf))
            | (refine ACalls.pure' ?_ (hok); rintro _ rfl; conv => whnf)
            | (refine DCall.pure ?_ (hok); conv => whnf)
            | (refine ACalls.pure' ?_ (hpl); rintro _ rfl; conv => whnf)
            | (refine DCall.pure ?_ (hpl); conv => whnf)
            | (refine getB_same ?_; conv => whnf)
            | (refine AWp.any (by kernel_rfl) (by kernel_rfl) (by kernel_rfl) ?_; conv => whnf)
            | (apply And.intro; (focus (first | omega | rfl | decide | exact Nat.le_of_ble_eq_true rfl | ((repeat' (first | exact all_nil | refine all_cons ?_ ?_ | rfl | fail)); done) | (simp [-List.length_flatMap]; done) | (simp [-List.length_flatMap]; omega) | fail)); conv => whnf)
            | fail)
          intro b9 hb9
          conv => whnf
          repeat' (first
            | (exfalso; first | omega | exact (by assumption : ¬ True) trivial | fail)
            | (refine ⟨Sub.refl _, ?_⟩)
            | (refine brA_split (fun h => ?_) (fun h => ?_) <;> (try rw [h]) <;> (try simp only [Bool.false_eq_true, Bool.true_eq_false, ↓reduceIte, decide_eq_true_eq, decide_eq_false_iff_not, Bool.not_eq_true', Bool.not_eq_false'] at h) <;> (conv => whnf))
            | (refine getB_of (by ((repeat (first | exact set_bx_same | assumption | refine (set_bx_other (by assumption)).trans ?_ | refine grow_bx.trans ?_)); done)) ?_; conv => whnf)
            | (refine ACalls.pure' ?_ (hrt); rintro _ rfl; conv => whnf)
            | (refine DCall.pure ?_ (hrt); conv => whnf)
            | (refine ACalls.pure' ?_ (hsm); rintro _ rfl; conv => whnf)
            | (refine DCall.pure ?_ (hsm); conv => whnf)
            | (refine ACalls.pure' ?_ (awake_ok hN hT); rintro _ rfl; conv => whnf)
            | (refine DCall.pure ?_ (awake_ok hN hT); conv => whnf)
            | (refine EqAgg.of grdFail planFail ?_; conv => whnf)
            | (refine getB_same ?_; conv => whnf)
            | (refine AWp.any (by kernel_rfl) (by kernel_rfl) (by kernel_rfl) ?_; conv => whnf)
            | (apply And.intro; (focus (first | omega | rfl | decide | exact Nat.le_of_ble_eq_true rfl | ((repeat' (first | exact all_nil | refine all_cons ?_ ?_ | rfl | fail)); done) | (simp [-List.length_flatMap]; done) | (simp [-List.length_flatMap]; omega) | fail)); conv => whnf)
            | fail)
          all_goals exact ⟨((Sub.refl _).set hb9 _ _).set hb9 _ _, rfl⟩
        · have htp : textP l = [] := by rw [textP, if_neg ho]
          rw [Bool.not_eq_true] at ho
          rw [ho] at hok
          rw [htp]
          repeat' (first
            | (exfalso; first | omega | exact (by assumption : ¬ True) trivial | fail)
            | (refine ⟨Sub.refl _, ?_⟩)
            | (refine brA_split (fun h => ?_) (fun h => ?_) <;> (try rw [h]) <;> (try simp only [Bool.false_eq_true, Bool.true_eq_false, ↓reduceIte, decide_eq_true_eq, decide_eq_false_iff_not, Bool.not_eq_true', Bool.not_eq_false'] at h) <;> (conv => whnf))
            | (refine ACalls.pure' ?_ (hok); rintro _ rfl; conv => whnf)
            | (refine DCall.pure ?_ (hok); conv => whnf)
            | (refine ACalls.pure' ?_ (awake_ok hN hT); rintro _ rfl; conv => whnf)
            | (refine DCall.pure ?_ (awake_ok hN hT); conv => whnf)
            | (refine getB_same ?_; conv => whnf)
            | (refine AWp.any (by kernel_rfl) (by kernel_rfl) (by kernel_rfl) ?_; conv => whnf)
            | (apply And.intro; (focus (first | omega | rfl | decide | exact Nat.le_of_ble_eq_true rfl | ((repeat' (first | exact all_nil | refine all_cons ?_ ?_ | rfl | fail)); done) | (simp [-List.length_flatMap]; done) | (simp [-List.length_flatMap]; omega) | fail)); conv => whnf)
            | fail)
          rfl
end Go.Proofs.YtecjpdcoghfmiaaGreatDoor.Vn
