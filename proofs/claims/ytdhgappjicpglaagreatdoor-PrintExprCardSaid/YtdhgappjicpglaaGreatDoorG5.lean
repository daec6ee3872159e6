/- Part 5 of what the closing text needs: VaI, NuW, VaJ, PrH, PrI, PrJ, PrK, TrF, PrL, Ha1, Er2. No condition of mine beyond those that the theorems name. -/
import Derived.Test.YtdhgappjicpglaaGreatDoorG4
import Derived.Lib.ItoaLen
import Derived.LaidHandle
import Derived.LaidLaws
import Derived.Lay
import Derived.Stop.LaidErr
set_option linter.all false
namespace Go.Proofs.YtdhgappjicpglaaGreatDoor.Va
open Go Go.Ab Go.RowKit
variable {Γ : Nat → AV}
attribute [local irreducible] APure Sto.set Sto.grow
set_option maxRecDepth 10000
set_option maxHeartbeats 1000000
def tT : List UInt8 := [116, 114, 117, 101]
def tF : List UInt8 := [102, 97, 108, 115, 101]
def textOf (v : Vl) : List UInt8 := if right v = true then (if v.1 = 1 then Lib.itoa v.2.1 else if v.1 = 2 then Qu.quote v.2.2.1 else if v.2.2.2 = true then tT else tF) else []
theorem text_full (hT : Qu.Tabs Γ) (hN : Nu.Tens Γ) (v : Vl) (hv : Nu.Fits v.2.1) (hl : v.2.2.1.length ≤ 1048576) : APure Tryz.prog Γ 26 [.agg (vlA v)] fun x => x = .str (textOf v) := by
  refine APure.of_awp Tryz.func26 rfl (Nat.le_of_ble_eq_true (by kernel_rfl)) (by kernel_rfl) ?_
  intro s
  conv => whnf
  intro b hb
  conv => whnf
  repeat' (first
    | (refine ⟨Sub.refl _, ?_⟩)
    | (refine brA_split (fun h => ?_) (fun h => ?_) <;> (try rw [h]) <;> (try simp only [Bool.false_eq_true, Bool.true_eq_false, ↓reduceIte, decide_eq_true_eq, decide_eq_false_iff_not, Bool.not_eq_true', Bool.not_eq_false'] at h) <;> (conv => whnf))
    | (refine ACalls.pure' ?_ (right_ok v); rintro _ rfl; conv => whnf)
    | (refine DCall.pure ?_ (right_ok v); conv => whnf)
    | (refine ACalls.pure' ?_ (Nu.text_ok hN _ hv); rintro _ rfl; conv => whnf)
    | (refine DCall.pure ?_ (Nu.text_ok hN _ hv); conv => whnf)
    | (refine ACalls.pure' ?_ (Qu.progQuote_ok hT _ (by omega)); rintro _ rfl; conv => whnf)
    | (refine DCall.pure ?_ (Qu.progQuote_ok hT _ (by omega)); conv => whnf)
    | (refine getB_same ?_; conv => whnf)
    | (refine AWp.any (by kernel_rfl) (by kernel_rfl) (by kernel_rfl) ?_; conv => whnf)
    | (apply And.intro; (focus (first | omega | rfl | decide | exact Nat.le_of_ble_eq_true rfl | ((repeat' (first | exact all_nil | refine all_cons ?_ ?_ | rfl | fail)); done) | (simp [-List.length_flatMap]; done) | (simp [-List.length_flatMap]; omega) | fail)); conv => whnf)
    | fail)
  all_goals refine ⟨(Sub.refl _).set hb _ _, congrArg AV.str ?_⟩
  all_goals simp [textOf, *]
  all_goals rfl
end Go.Proofs.YtdhgappjicpglaaGreatDoor.Va
namespace Go.Proofs.YtdhgappjicpglaaGreatDoor.Nu
open Go Go.Ab Go.RowKit
attribute [local irreducible] APure Sto.set Sto.grow
set_option maxRecDepth 10000
set_option maxHeartbeats 1000000
theorem digs_cut : ∀ i : Nat, i < 10 → (digs.take (i + 1)).drop i = [UInt8.ofNat (48 + i)] := by decide
theorem dec_one {u : Nat} (h : u < 10) : Lib.decDigits u = [UInt8.ofNat (48 + u)] := by rw [Lib.decDigits, dif_pos h]
theorem dec_step {u : Nat} (h : ¬ u < 10) : Lib.decDigits u = Lib.decDigits (u / 10) ++ [UInt8.ofNat (48 + u % 10)] := by rw [Lib.decDigits, dif_neg h]
theorem refText_ok : ∀ (k : Nat) (n : Int), n.natAbs < k → Fits n → ∀ Γ : Nat → AV, APure Tryz.prog Γ 38 [.int .i64 n] fun v => v = .str (Lib.itoa n)
  | 0, n => fun h => by omega
  | k + 1, n => fun h hn Γ => by
    have ih := fun (m : Int) (hm : m.natAbs < n.natAbs) (hf : Fits m) => refText_ok k m (by omega) hf
    unfold Fits at hn
    by_cases hneg : n < 0
    · have hu : n = -(n.natAbs : Int) := by omega
      generalize n.natAbs = u at *
      subst hu
      have h10 : u % 10 < 10 := Nat.mod_lt _ (by omega)
      have eq1 : (-(u : Int)).tdiv 10 = -((u / 10 : Nat) : Int) := by
        rw [Int.neg_tdiv, Int.tdiv_eq_ediv_of_nonneg (by omega)]; omega
      have er1 : (-(u : Int)).tmod 10 = -((u % 10 : Nat) : Int) := by
        rw [Int.neg_tmod, Int.tmod_eq_emod_of_nonneg (by omega)]; omega
      have wq : IntKind.i64.wrap ((-(u : Int)).tdiv 10) = -((u / 10 : Nat) : Int) := i64_of eq1 (by omega) (by omega)
      have wr : IntKind.i64.wrap (0 - (-(u : Int)).tmod 10) = ((u % 10 : Nat) : Int) := by
        rw [er1]; exact i64_of (by omega) (by omega) (by omega)
      have wr1 : IntKind.i64.wrap (((u % 10 : Nat) : Int) + 1) = ((u % 10 : Nat) : Int) + 1 := i64_of rfl (by omega) (by omega)
      by_cases hu : u < 10
      · have wn : IntKind.i64.wrap (0 - -(u : Int)) = (u : Int) := i64_of (by omega) (by omega) (by omega)
        have wn1 : IntKind.i64.wrap ((u : Int) + 1) = (u : Int) + 1 := i64_of rfl (by omega) (by omega)
        refine APure.of_awp Tryz.func38 rfl (Nat.le_of_ble_eq_true (by kernel_rfl)) (by kernel_rfl) ?_
        intro s
        conv => whnf
        repeat' (first
          | (exfalso; first | omega | exact (by assumption : ¬ True) trivial | fail)
          | (refine ⟨Sub.refl _, ?_⟩)
          | (refine brA_split (fun h => ?_) (fun h => ?_) <;> (try rw [h]) <;> (try simp only [Bool.false_eq_true, Bool.true_eq_false, ↓reduceIte, decide_eq_true_eq, decide_eq_false_iff_not, Bool.not_eq_true', Bool.not_eq_false'] at h) <;> (conv => whnf))
          | (rw [wn]; conv => whnf)
          | (rw [wn1]; conv => whnf)
          | (refine getB_same ?_; conv => whnf)
          | (refine AWp.any (by kernel_rfl) (by kernel_rfl) (by kernel_rfl) ?_; conv => whnf)
          | (apply And.intro; (focus (first | omega | rfl | decide | exact Nat.le_of_ble_eq_true rfl | ((repeat' (first | exact all_nil | refine all_cons ?_ ?_ | rfl | fail)); done) | (simp [-List.length_flatMap]; done) | (simp [-List.length_flatMap]; omega) | fail)); conv => whnf)
          | fail)
        · refine congrArg AV.str ?_
          show [45] ++ (digs.take ((u : Int) + 1).toNat).drop (u : Int).toNat = _
          rw [show ((u : Int) + 1).toNat = u + 1 by omega, show ((u : Int)).toNat = u by omega, digs_cut u hu, Lib.itoa_neg u (by omega), dec_one hu]
          rfl
      · have ih2 := ih (-((u / 10 : Nat) : Int)) (by omega) (by unfold Fits; omega)
        refine APure.of_awp Tryz.func38 rfl (Nat.le_of_ble_eq_true (by kernel_rfl)) (by kernel_rfl) ?_
        intro s
        conv => whnf
        repeat' (first
          | (exfalso; first | omega | exact (by assumption : ¬ True) trivial | fail)
          | (refine ⟨Sub.refl _, ?_⟩)
          | (refine brA_split (fun h => ?_) (fun h => ?_) <;> (try rw [h]) <;> (try simp only [Bool.false_eq_true, Bool.true_eq_false, ↓reduceIte, decide_eq_true_eq, decide_eq_false_iff_not, Bool.not_eq_true', Bool.not_eq_false'] at h) <;> (conv => whnf))
          | (rw [wq]; conv => whnf)
          | (rw [wr]; conv => whnf)
          | (rw [wr1]; conv => whnf)
          | (refine ACalls.pure' ?_ (ih2 _); rintro _ rfl; conv => whnf)
          | (refine DCall.pure ?_ (ih2 _); conv => whnf)
          | (refine getB_same ?_; conv => whnf)
          | (refine AWp.any (by kernel_rfl) (by kernel_rfl) (by kernel_rfl) ?_; conv => whnf)
          | (apply And.intro; (focus (first | omega | rfl | decide | exact Nat.le_of_ble_eq_true rfl | ((repeat' (first | exact all_nil | refine all_cons ?_ ?_ | rfl | fail)); done) | (simp [-List.length_flatMap]; done) | (simp [-List.length_flatMap]; omega) | fail)); conv => whnf)
          | fail)
        refine ⟨?_, ?_⟩
        · show (Lib.itoa _).length + (List.drop _ (List.take _ digs)).length ≤ 9223372036854775807
          have := Lib.itoa_length_le (-((u / 10 : Nat) : Int)) (by omega) (by omega)
          have h2 : (List.drop ((u % 10 : Nat) : Int).toNat (List.take (((u % 10 : Nat) : Int) + 1).toNat digs)).length ≤ 10 := by
            rw [List.length_drop, List.length_take]; show _ - _ ≤ 10; have : digs.length = 10 := rfl; omega
          omega
        conv => whnf
        repeat' (first
          | (refine ⟨Sub.refl _, ?_⟩)
          | (refine brA_split (fun h => ?_) (fun h => ?_) <;> (try rw [h]) <;> (try simp only [Bool.false_eq_true, Bool.true_eq_false, ↓reduceIte, decide_eq_true_eq, decide_eq_false_iff_not, Bool.not_eq_true', Bool.not_eq_false'] at h) <;> (conv => whnf))
          | (refine getB_same ?_; conv => whnf)
          | (refine AWp.any (by kernel_rfl) (by kernel_rfl) (by kernel_rfl) ?_; conv => whnf)
          | (apply And.intro; (focus (first | omega | rfl | decide | exact Nat.le_of_ble_eq_true rfl | ((repeat' (first | exact all_nil | refine all_cons ?_ ?_ | rfl | fail)); done) | (simp [-List.length_flatMap]; done) | (simp [-List.length_flatMap]; omega) | fail)); conv => whnf)
          | fail)
        refine congrArg AV.str ?_
        show Lib.itoa _ ++ (digs.take (((u % 10 : Nat) : Int) + 1).toNat).drop ((u % 10 : Nat) : Int).toNat = _
        rw [show (((u % 10 : Nat) : Int) + 1).toNat = u % 10 + 1 by omega, show (((u % 10 : Nat) : Int)).toNat = u % 10 by omega, digs_cut _ h10, Lib.itoa_neg u (by omega), Lib.itoa_neg (u / 10) (by omega), dec_step hu]
        rfl
    · have hu : n = (n.natAbs : Int) := by omega
      generalize n.natAbs = u at *
      subst hu
      have h10 : u % 10 < 10 := Nat.mod_lt _ (by omega)
      have wq : IntKind.i64.wrap ((u : Int).tdiv 10) = ((u / 10 : Nat) : Int) := i64_of (by rw [Int.tdiv_eq_ediv_of_nonneg (by omega)]; omega) (by omega) (by omega)
      have wr : (u : Int).tmod 10 = ((u % 10 : Nat) : Int) := by rw [Int.tmod_eq_emod_of_nonneg (by omega)]; omega
      have wr1 : IntKind.i64.wrap (((u % 10 : Nat) : Int) + 1) = ((u % 10 : Nat) : Int) + 1 := i64_of rfl (by omega) (by omega)
      by_cases hu : u < 10
      · have wn1 : IntKind.i64.wrap ((u : Int) + 1) = (u : Int) + 1 := i64_of rfl (by omega) (by omega)
        refine APure.of_awp Tryz.func38 rfl (Nat.le_of_ble_eq_true (by kernel_rfl)) (by kernel_rfl) ?_
        intro s
        conv => whnf
        repeat' (first
          | (exfalso; first | omega | exact (by assumption : ¬ True) trivial | fail)
          | (refine ⟨Sub.refl _, ?_⟩)
          | (refine brA_split (fun h => ?_) (fun h => ?_) <;> (try rw [h]) <;> (try simp only [Bool.false_eq_true, Bool.true_eq_false, ↓reduceIte, decide_eq_true_eq, decide_eq_false_iff_not, Bool.not_eq_true', Bool.not_eq_false'] at h) <;> (conv => whnf))
          | (rw [wn1]; conv => whnf)
          | (refine getB_same ?_; conv => whnf)
          | (refine AWp.any (by kernel_rfl) (by kernel_rfl) (by kernel_rfl) ?_; conv => whnf)
          | (apply And.intro; (focus (first | omega | rfl | decide | exact Nat.le_of_ble_eq_true rfl | ((repeat' (first | exact all_nil | refine all_cons ?_ ?_ | rfl | fail)); done) | (simp [-List.length_flatMap]; done) | (simp [-List.length_flatMap]; omega) | fail)); conv => whnf)
          | fail)
        · refine congrArg AV.str ?_
          show (digs.take ((u : Int) + 1).toNat).drop (u : Int).toNat = _
          rw [show ((u : Int) + 1).toNat = u + 1 by omega, show ((u : Int)).toNat = u by omega, digs_cut u hu, Lib.itoa_nonneg u, dec_one hu]
        · exfalso
          have h9 := ‹(if _ then _ else false) = false›
          rw [if_pos (by omega)] at h9
          have := of_decide_eq_false h9
          omega
      · have ih2 := ih ((u / 10 : Nat) : Int) (by omega) (by unfold Fits; omega)
        refine APure.of_awp Tryz.func38 rfl (Nat.le_of_ble_eq_true (by kernel_rfl)) (by kernel_rfl) ?_
        intro s
        conv => whnf
        repeat' (first
          | (exfalso; first | omega | exact (by assumption : ¬ True) trivial | fail)
          | (refine ⟨Sub.refl _, ?_⟩)
          | (refine brA_split (fun h => ?_) (fun h => ?_) <;> (try rw [h]) <;> (try simp only [Bool.false_eq_true, Bool.true_eq_false, ↓reduceIte, decide_eq_true_eq, decide_eq_false_iff_not, Bool.not_eq_true', Bool.not_eq_false'] at h) <;> (conv => whnf))
          | (rw [wq]; conv => whnf)
          | (rw [wr]; conv => whnf)
          | (rw [wr1]; conv => whnf)
          | (refine ACalls.pure' ?_ (ih2 _); rintro _ rfl; conv => whnf)
          | (refine DCall.pure ?_ (ih2 _); conv => whnf)
          | (refine getB_same ?_; conv => whnf)
          | (refine AWp.any (by kernel_rfl) (by kernel_rfl) (by kernel_rfl) ?_; conv => whnf)
          | (apply And.intro; (focus (first | omega | rfl | decide | exact Nat.le_of_ble_eq_true rfl | ((repeat' (first | exact all_nil | refine all_cons ?_ ?_ | rfl | fail)); done) | (simp [-List.length_flatMap]; done) | (simp [-List.length_flatMap]; omega) | fail)); conv => whnf)
          | fail)
        · exfalso
          have h9 := ‹(if _ then _ else false) = true›
          rw [if_pos (by omega)] at h9
          have := of_decide_eq_true h9
          omega
        refine ⟨?_, ?_⟩
        · show (Lib.itoa _).length + (List.drop _ (List.take _ digs)).length ≤ 9223372036854775807
          have := Lib.itoa_length_le ((u / 10 : Nat) : Int) (by omega) (by omega)
          have h2 : (List.drop ((u % 10 : Nat) : Int).toNat (List.take (((u % 10 : Nat) : Int) + 1).toNat digs)).length ≤ 10 := by
            rw [List.length_drop, List.length_take]; show _ - _ ≤ 10; have : digs.length = 10 := rfl; omega
          omega
        conv => whnf
        repeat' (first
          | (refine ⟨Sub.refl _, ?_⟩)
          | (refine brA_split (fun h => ?_) (fun h => ?_) <;> (try rw [h]) <;> (try simp only [Bool.false_eq_true, Bool.true_eq_false, ↓reduceIte, decide_eq_true_eq, decide_eq_false_iff_not, Bool.not_eq_true', Bool.not_eq_false'] at h) <;> (conv => whnf))
          | (refine getB_same ?_; conv => whnf)
          | (refine AWp.any (by kernel_rfl) (by kernel_rfl) (by kernel_rfl) ?_; conv => whnf)
          | (apply And.intro; (focus (first | omega | rfl | decide | exact Nat.le_of_ble_eq_true rfl | ((repeat' (first | exact all_nil | refine all_cons ?_ ?_ | rfl | fail)); done) | (simp [-List.length_flatMap]; done) | (simp [-List.length_flatMap]; omega) | fail)); conv => whnf)
          | fail)
        refine congrArg AV.str ?_
        show Lib.itoa _ ++ (digs.take (((u % 10 : Nat) : Int) + 1).toNat).drop ((u % 10 : Nat) : Int).toNat = _
        rw [show (((u % 10 : Nat) : Int) + 1).toNat = u % 10 + 1 by omega, show (((u % 10 : Nat) : Int)).toNat = u % 10 by omega, digs_cut _ h10, Lib.itoa_nonneg u, Lib.itoa_nonneg (u / 10), dec_step hu]
end Go.Proofs.YtdhgappjicpglaaGreatDoor.Nu
namespace Go.Proofs.YtdhgappjicpglaaGreatDoor.Va
open Go Go.Ab Go.RowKit
variable {Γ : Nat → AV}
attribute [local irreducible] APure Sto.set Sto.grow
set_option maxRecDepth 10000
set_option maxHeartbeats 1000000
theorem refTextV_ok (v : Vl) (hv : Nu.Fits v.2.1) (hl : v.2.2.1.length ≤ 1048576) (hr : right v = true) : APure Tryz.prog Γ 21 [.agg (vlA v)] fun x => x = .str (textOf v) := by
  have ht : textOf v = (if v.1 = 1 then Lib.itoa v.2.1 else if v.1 = 2 then Qu.quote v.2.2.1 else if v.2.2.2 = true then tT else tF) := by
    unfold textOf; rw [if_pos hr]
  refine APure.of_awp Tryz.func21 rfl (Nat.le_of_ble_eq_true (by kernel_rfl)) (by kernel_rfl) ?_
  intro s
  conv => whnf
  intro b hb
  conv => whnf
  repeat' (first
    | (refine ⟨Sub.refl _, ?_⟩)
    | (refine brA_split (fun h => ?_) (fun h => ?_) <;> (try rw [h]) <;> (try simp only [Bool.false_eq_true, Bool.true_eq_false, ↓reduceIte, decide_eq_true_eq, decide_eq_false_iff_not, Bool.not_eq_true', Bool.not_eq_false'] at h) <;> (conv => whnf))
    | (refine ACalls.pure' ?_ (Nu.refText_ok (v.2.1.natAbs + 1) v.2.1 (by omega) hv _); rintro _ rfl; conv => whnf)
    | (refine DCall.pure ?_ (Nu.refText_ok (v.2.1.natAbs + 1) v.2.1 (by omega) hv _); conv => whnf)
    | (refine ACalls.pure' ?_ (Qu.refQuote_ok v.2.2.1 (by omega)); rintro _ rfl; conv => whnf)
    | (refine DCall.pure ?_ (Qu.refQuote_ok v.2.2.1 (by omega)); conv => whnf)
    | (refine getB_same ?_; conv => whnf)
    | (refine AWp.any (by kernel_rfl) (by kernel_rfl) (by kernel_rfl) ?_; conv => whnf)
    | (apply And.intro; (focus (first | omega | rfl | decide | exact Nat.le_of_ble_eq_true rfl | ((repeat' (first | exact all_nil | refine all_cons ?_ ?_ | rfl | fail)); done) | (simp [-List.length_flatMap]; done) | (simp [-List.length_flatMap]; omega) | fail)); conv => whnf)
    | fail)
  all_goals refine ⟨(Sub.refl _).set hb _ _, congrArg AV.str ?_⟩
  all_goals rw [ht]
  all_goals simp [*]
  all_goals rfl
end Go.Proofs.YtdhgappjicpglaaGreatDoor.Va
namespace Go.Proofs.YtdhgappjicpglaaGreatDoor.Pr
open Go Go.Ab Go.RowKit Go.Proofs.YtdhgappjicpglaaGreatDoor.Lx Go.Proofs.YtdhgappjicpglaaGreatDoor.Pa
set_option maxRecDepth 10000
set_option maxHeartbeats 1000000
/-- In brackets, if it does not hold together as strongly as asked. -/
def wrapX (n : Nat) (t : Xt) : Xt := if t.lev < n then .par t else t
def nodeX (x : Tr.Ex) (A B : Xt) : Xt :=
  if x.1 = 1 then .con x.2.2.2.2.1
  else if x.1 = 17 then .nam x.2.2.2.1
  else if x.1 = 4 then .una 4 (wrapX 3 A)
  else if x.1 = 5 then .una 5 (if A.bare = true then .par A else wrapX 7 A)
  else .bin x.1 (wrapX (if lvl x.1 = 4 then 5 else lvl x.1) A) (wrapX (lvl x.1 + 1) B)
/-- The tree of node i. -/
def treeF (l : List Tr.Ex) : Nat → Nat → Xt
  | 0, _ => .nam []
  | f + 1, i => nodeX (l.getD i Tr.noEx) (treeF l f (l.getD i Tr.noEx).2.1.toNat) (treeF l f (l.getD i Tr.noEx).2.2.1.toNat)
def coreT (x : Tr.Ex) : Xt.Core := (x.1, x.2.1, x.2.2.1, x.2.2.2.1, x.2.2.2.2.1)
section
variable {n : Nat} {t : Xt}
theorem wrap_dep : (wrapX n t).dep = t.dep := by unfold wrapX; split <;> rfl
theorem wrap_cores {k : Nat} : (wrapX n t).cores k = t.cores k := by unfold wrapX; split <;> rfl
theorem wrap_cnt : (wrapX n t).cnt = t.cnt := by unfold wrapX; split <;> rfl
theorem wrap_ok (h : t.Ok) : (wrapX n t).Ok := by unfold wrapX; split <;> exact h
theorem wrap_lexed (h : t.Lexed) : (wrapX n t).Lexed := by unfold wrapX; split <;> exact h
theorem wrap_lev (h : n ≤ 8) : n ≤ (wrapX n t).lev := by
  unfold wrapX; split
  · exact h
  · omega
theorem wrap_opn : (wrapX n t).opn ≤ t.opn + 1 := by
  unfold wrapX; split
  · exact Nat.le_refl _
  · omega
theorem wrap_bare (h : t.bare = false) : (wrapX n t).bare = false := by
  unfold wrapX; split
  · rfl
  · exact h
theorem wrap_len : (wrapX n t).txt.length ≤ t.txt.length + 2 := by
  unfold wrapX; split
  · show (40 :: (t.txt ++ [41])).length ≤ _
    simp
  · omega
end
/-- A value that may be. -/
theorem rightV_ok' {v : Tr.Vl} (h : Tr.rightV v = true) (hf : Nu.Fits v.2.1) : Xt.ValOk v ∧ v.2.2.1.length ≤ 4096 ∧ valS v = Va.textOf v := by
  have hr : Va.right v = true := h
  have e : Va.textOf v = valS v := by
    unfold Va.textOf; rw [if_pos hr]; rfl
  refine ⟨?_, ?_, e.symm⟩
  · unfold Tr.rightV at h
    unfold Nu.Fits at hf
    obtain ⟨k, n, s, t⟩ := v
    unfold Xt.ValOk
    grind
  · unfold Tr.rightV at h
    obtain ⟨k, n, s, t⟩ := v
    grind
theorem valS_len {v : Tr.Vl} (h : Tr.rightV v = true) (hf : Nu.Fits v.2.1) {m : Nat} (hm : v.2.2.1.length ≤ m) : (valS v).length ≤ 4 * m + 30 := by
  unfold valS
  split
  · have := Lib.itoa_length_le v.2.1 hf.1 hf.2
    omega
  · split
    · have := Qu.quote_len v.2.2.1
      omega
    · split
      · show 4 ≤ _; omega
      · show 5 ≤ _; omega
theorem name_lexed {s : List UInt8} (h : Sc.isName s = true) : s ≠ [95] ∧ s.length ≤ 32 ∧ s.all (fun c => Sc.wordc c.toNat) = true ∧ s ≠ [] ∧ lettersF s = .ok (1, s) := by
  unfold Sc.isName at h
  simp only [Bool.and_eq_true, Bool.not_eq_true', decide_eq_false_iff_not] at h
  obtain ⟨⟨h1, h2⟩, h3⟩ := h
  unfold Sc.spelt at h1
  simp only [Bool.and_eq_true, decide_eq_true_eq, Bool.not_eq_true'] at h1
  obtain ⟨⟨⟨h4, h5⟩, h6⟩, h7⟩ := h1
  refine ⟨h3, h5, h7, fun e => by rw [e] at h4; exact absurd h4 (by decide), ?_⟩
  unfold lettersF
  have hd : digB (byteAt s 0) = false := by
    unfold digB digitc
    rw [Bool.and_eq_false_iff] at h6 ⊢
    simp only [decide_eq_false_iff_not] at h6 ⊢
    omega
  rw [if_neg (by rw [hd]; decide), if_neg (by omega), if_neg (by rw [h2]; decide)]
abbrev ndN (l : List Tr.Ex) (i : Nat) : Int × Int := Tr.nd Sc.isName l i
theorem ndN_bound {l : List Tr.Ex} {i : Nat} (h : i < l.length) : 0 ≤ (ndN l i).1 ∧ (ndN l i).1 ≤ i + 1 ∧ 0 ≤ (ndN l i).2 ∧ (ndN l i).2 ≤ i + 1 := Tr.nd_bound Sc.isName l h
/-- What a node may be. -/
theorem kinds {l : List Tr.Ex} {i : Nat} (hi : i < l.length) (hpos : 0 < (ndN l i).1) :
    (∃ v ln cl, l.getD i Tr.noEx = (1, 0, 0, [], v, ln, cl) ∧ Tr.rightV v = true ∧ ndN l i = (1, 1)) ∨
    (∃ s ln cl, l.getD i Tr.noEx = (17, 0, 0, s, Tr.noVl, ln, cl) ∧ Sc.isName s = true ∧ ndN l i = (1, 1)) ∨
    (∃ op ln cl, (op = 4 ∨ op = 5) ∧ l.getD i Tr.noEx = (op, ((i - 1 : Nat) : Int), 0, [], Tr.noVl, ln, cl) ∧ 1 ≤ i ∧ 0 < (ndN l (i - 1)).1 ∧ ndN l i = ((ndN l (i - 1)).1 + 1, (ndN l (i - 1)).2 + 1)) ∨
    (∃ op, ∃ j : Nat, ∃ ln cl, (6 ≤ op ∧ op ≤ 16) ∧ l.getD i Tr.noEx = (op, (j : Int), ((i - 1 : Nat) : Int), [], Tr.noVl, ln, cl) ∧ j < i ∧ 0 < (ndN l (i - 1)).1 ∧ 0 < (ndN l j).1 ∧ (j : Int) = (i : Int) - 1 - (ndN l (i - 1)).1 ∧ ndN l i = ((ndN l j).1 + (ndN l (i - 1)).1 + 1, max (ndN l j).2 (ndN l (i - 1)).2 + 1)) := by
  obtain ⟨x, hx⟩ : ∃ x, l.getD i Tr.noEx = x := ⟨_, rfl⟩
  obtain ⟨p, hp⟩ : ∃ p, ndN l (i - 1) = p := ⟨_, rfl⟩
  obtain ⟨a, ha⟩ : ∃ a : Int, a = (i : Int) - 1 - p.1 := ⟨_, rfl⟩
  obtain ⟨q, hq⟩ : ∃ q, ndN l a.toNat = q := ⟨_, rfl⟩
  have hnode := Tr.nd_eq (nm := Sc.isName) hi hx hp ha hq
  have hpb := ndN_bound (l := l) (i := i - 1) (by omega)
  rw [hp] at hpb
  have hnode : ndN l i = _ := hnode
  rw [hnode] at hpos ⊢
  rw [hx, hp]
  obtain ⟨xo, xa, xb, xn, xv, xl, xc⟩ := x
  simp only at hpos ⊢
  by_cases h1 : Tr.loneB Sc.isName (xo, xa, xb, xn, xv, xl, xc) = true
  · rw [if_pos h1]
    unfold Tr.loneB at h1
    simp only at h1
    split at h1
    · cases h1
    · rename_i h0
      have ha0 : xa = 0 := by omega
      have hb0 : xb = 0 := by omega
      split at h1
      · rename_i h2
        rw [Bool.and_eq_true, decide_eq_true_eq] at h1
        exact .inl ⟨xv, xl, xc, by rw [h2, ha0, hb0, h1.1], h1.2, rfl⟩
      · rw [Bool.and_eq_true, decide_eq_true_eq, Bool.and_eq_true, decide_eq_true_eq] at h1
        exact .inr (.inl ⟨xn, xl, xc, by rw [h1.1, ha0, hb0, h1.2.1], h1.2.2, rfl⟩)
  rw [if_neg h1] at hpos ⊢
  by_cases h2 : xo < 4 ∨ 16 < xo ∨ xn ≠ [] ∨ xv ≠ Tr.noVl ∨ i = 0 ∨ p.1 = 0
  · rw [if_pos h2] at hpos; exact absurd hpos (by decide)
  rw [if_neg h2] at hpos ⊢
  have hnm : xn = [] := Classical.byContradiction fun h => h2 (.inr (.inr (.inl h)))
  have hvl : xv = Tr.noVl := Classical.byContradiction fun h => h2 (.inr (.inr (.inr (.inl h))))
  have hi0 : ¬ i = 0 := by omega
  by_cases h3 : xo ≤ 5
  · rw [if_pos h3] at hpos ⊢
    by_cases h4 : xa = (i : Int) - 1 ∧ xb = 0
    · rw [if_pos h4]
      refine .inr (.inr (.inl ⟨xo, xl, xc, by omega, ?_, by omega, by omega, rfl⟩))
      rw [hnm, hvl, h4.2, h4.1, show (i : Int) - 1 = ((i - 1 : Nat) : Int) by omega]
    · rw [if_neg h4] at hpos; exact absurd hpos (by decide)
  · rw [if_neg h3] at hpos ⊢
    by_cases h4 : xb = (i : Int) - 1 ∧ xa = a ∧ 0 ≤ a ∧ 0 < q.1
    · rw [if_pos h4]
      obtain ⟨h41, h42, h43, h44⟩ := h4
      refine .inr (.inr (.inr ⟨xo, a.toNat, xl, xc, by omega, ?_, by omega, by omega, by rw [hq]; exact h44, by omega, by rw [hq]⟩))
      rw [hnm, hvl, h41, h42, show (i : Int) - 1 = ((i - 1 : Nat) : Int) by omega, show ((a.toNat : Nat) : Int) = a by omega]
    · rw [if_neg h4] at hpos; exact absurd hpos (by decide)
theorem nd_zero {l : List Tr.Ex} {i : Nat} (hi : i < l.length) (h0 : (ndN l i).1 = 0) : (ndN l i).2 = 0 := by
  obtain ⟨x, hx⟩ : ∃ x, l.getD i Tr.noEx = x := ⟨_, rfl⟩
  obtain ⟨p, hp⟩ : ∃ p, ndN l (i - 1) = p := ⟨_, rfl⟩
  obtain ⟨a, ha⟩ : ∃ a : Int, a = (i : Int) - 1 - p.1 := ⟨_, rfl⟩
  obtain ⟨q, hq⟩ : ∃ q, ndN l a.toNat = q := ⟨_, rfl⟩
  have hnode := Tr.nd_eq (nm := Sc.isName) hi hx hp ha hq
  have hpb := ndN_bound (l := l) (i := i - 1) (by omega)
  rw [hp] at hpb
  have hnode : ndN l i = _ := hnode
  rw [hnode] at h0 ⊢
  split
  · rename_i h; rw [if_pos h] at h0; cases h0
  · rename_i h
    rw [if_neg h] at h0
    split
    · rfl
    · rename_i h
      rw [if_neg h] at h0
      split
      · rename_i h
        rw [if_pos h] at h0
        split
        · rename_i h; rw [if_pos h] at h0; simp only at h0; omega
        · rfl
      · rename_i h
        rw [if_neg h] at h0
        split
        · rename_i h; rw [if_pos h] at h0; simp only at h0; omega
        · rfl
section
variable {l : List Tr.Ex} {f i j k : Nat} {op a b : Int} {nm : List UInt8} {v : Tr.Vl} {ln cl : Int}
theorem tree_con (h : l.getD i Tr.noEx = (1, a, b, nm, v, ln, cl)) : treeF l (f + 1) i = .con v := by
  show nodeX (l.getD i Tr.noEx) (treeF l f (l.getD i Tr.noEx).2.1.toNat) (treeF l f (l.getD i Tr.noEx).2.2.1.toNat) = _
  rw [h]; rfl
theorem tree_nam (h : l.getD i Tr.noEx = (17, a, b, nm, v, ln, cl)) : treeF l (f + 1) i = .nam nm := by
  show nodeX (l.getD i Tr.noEx) (treeF l f (l.getD i Tr.noEx).2.1.toNat) (treeF l f (l.getD i Tr.noEx).2.2.1.toNat) = _
  rw [h]; rfl
theorem tree_not (h : l.getD i Tr.noEx = (4, (j : Int), b, nm, v, ln, cl)) : treeF l (f + 1) i = .una 4 (wrapX 3 (treeF l f j)) := by
  show nodeX (l.getD i Tr.noEx) (treeF l f (l.getD i Tr.noEx).2.1.toNat) (treeF l f (l.getD i Tr.noEx).2.2.1.toNat) = _
  rw [h]; rfl
theorem tree_neg (h : l.getD i Tr.noEx = (5, (j : Int), b, nm, v, ln, cl)) : treeF l (f + 1) i = .una 5 (if (treeF l f j).bare = true then .par (treeF l f j) else wrapX 7 (treeF l f j)) := by
  show nodeX (l.getD i Tr.noEx) (treeF l f (l.getD i Tr.noEx).2.1.toNat) (treeF l f (l.getD i Tr.noEx).2.2.1.toNat) = _
  rw [h]; rfl
theorem tree_bin (hop : 6 ≤ op ∧ op ≤ 16) (h : l.getD i Tr.noEx = (op, (j : Int), (k : Int), nm, v, ln, cl)) : treeF l (f + 1) i = .bin op (wrapX (if lvl op = 4 then 5 else lvl op) (treeF l f j)) (wrapX (lvl op + 1) (treeF l f k)) := by
  show nodeX (l.getD i Tr.noEx) (treeF l f (l.getD i Tr.noEx).2.1.toNat) (treeF l f (l.getD i Tr.noEx).2.2.1.toNat) = _
  rw [h]
  unfold nodeX
  simp only
  rw [if_neg (by omega), if_neg (by omega), if_neg (by omega), if_neg (by omega)]; rfl
theorem lev_le (t : Xt) : t.lev < 9 := by
  have h : ∀ o : Int, lvl o < 9 := by
    intro o
    unfold lvl
    repeat' split
    all_goals decide
  cases t with
  | una o _ => exact h o
  | bin o _ _ => exact h o
  | _ => show 8 < 9; decide
end
/-- What is told of a tree. -/
structure Fine (l : List Tr.Ex) (i : Nat) (t : Xt) (n d : Int) (m : Nat) : Prop where
  ok : t.Ok
  lexed : t.Lexed
  op : (l.getD i Tr.noEx).1 = 1 ∨ (l.getD i Tr.noEx).1 = 17 ∨ (4 ≤ (l.getD i Tr.noEx).1 ∧ (l.getD i Tr.noEx).1 ≤ 16)
  lev : t.lev = lvl (l.getD i Tr.noEx).1
  bare : t.bare = (decide ((l.getD i Tr.noEx).1 = 1) && (decide ((l.getD i Tr.noEx).2.2.2.2.1.1 = 1) && decide (0 ≤ (l.getD i Tr.noEx).2.2.2.2.1.2.1)))
  cores : t.cores (i + 1 - n.toNat) = ((l.drop (i + 1 - n.toNat)).take n.toNat).map coreT
  cnt : (t.cnt : Int) = n
  fits : n ≤ i + 1
  dep : (t.dep : Int) = d
  opn : t.opn + 2 ≤ 2 * t.dep
  len : t.txt.length ≤ n.toNat * (4 * m + 40)
theorem take_one {α : Type} {l : List α} {i : Nat} (d : α) (h : i < l.length) : (l.drop i).take 1 = [l.getD i d] := by
  rw [List.drop_eq_getElem_cons h, List.take_succ_cons, List.take_zero, List.getD_eq_getElem?_getD, List.getElem?_eq_getElem h]; rfl
theorem sign_len3 (op : Int) : (signW op).length ≤ 3 := by
  unfold signW
  have : ∀ x ∈ signT, x.length ≤ 3 := by decide
  rw [List.getD_eq_getElem?_getD]
  cases h : signT[(op - 6).toNat]? with
  | none => decide
  | some x => exact this x (List.mem_of_getElem? h)
theorem lvl_le (op : Int) (h : 6 ≤ op ∧ op ≤ 16) : lvl op + 1 ≤ 8 ∧ (if lvl op = 4 then 5 else lvl op) ≤ 8 := by
  have := op_lvl h
  split <;> omega
theorem fine (l : List Tr.Ex) (m : Nat) (hm : 40 ≤ m) (hf : ∀ x ∈ l, Nu.Fits x.2.2.2.2.1.2.1 ∧ x.2.2.2.2.1.2.2.1.length ≤ m) : ∀ (f i : Nat), i < f → i < l.length → 0 < (ndN l i).1 → Fine l i (treeF l f i) (ndN l i).1 (ndN l i).2 m
  | 0, i, h, _, _ => by omega
  | f + 1, i, h, hi, hpos => by
    have ih := fun j (hj : j < i) (hp : 0 < (ndN l j).1) => fine l m hm hf f j (by omega) (by omega) hp
    have hmem := hf _ (Tr.getD_mem Tr.noEx hi)
    have hone : ((l.drop (i + 1 - (1 : Int).toNat)).take (1 : Int).toNat).map coreT = [coreT (l.getD i Tr.noEx)] := by
      rw [show i + 1 - (1 : Int).toNat = i from rfl, show (1 : Int).toNat = 1 from rfl, take_one Tr.noEx hi]; rfl
    have hcut := take_one Tr.noEx hi
    rcases kinds hi hpos with ⟨v, ln, cl, hx, hv, hn⟩ | ⟨s, ln, cl, hx, hs, hn⟩ | ⟨op, ln, cl, hop, hx, h1, hp, hn⟩ | ⟨op, j, ln, cl, hop, hx, hj, hp, hq, hjp, hn⟩
    · rw [hx] at hmem hone
      obtain ⟨h3, h4, _⟩ := rightV_ok' hv hmem.1
      rw [tree_con hx, hn]
      refine ⟨h3, h4, by rw [hx]; exact .inl rfl, by rw [hx]; rfl, by rw [hx]; rfl, by rw [hone]; rfl, rfl, by show (1 : Int) ≤ _; omega, rfl, by show 0 + 2 ≤ 2 * 1; decide, ?_⟩
      have := valS_len hv hmem.1 hmem.2
      show (valS v).length ≤ 1 * _
      omega
    · rw [hx] at hone
      obtain ⟨n1, n2, n3, n4, n5⟩ := name_lexed hs
      rw [tree_nam hx, hn]
      refine ⟨n1, ⟨n3, n4, n5⟩, by rw [hx]; exact .inr (.inl rfl), by rw [hx]; rfl, by rw [hx]; rfl, by rw [hone]; rfl, rfl, by show (1 : Int) ≤ _; omega, rfl, by show 0 + 2 ≤ 2 * 1; decide, ?_⟩
      show s.length ≤ 1 * _
      omega
    · have hB := ih (i - 1) (by omega) hp
      rw [hn]
      obtain ⟨p, hpp⟩ : ∃ p, ndN l (i - 1) = p := ⟨_, rfl⟩
      rw [hpp] at hB hp ⊢
      have hbf := hB.fits
      have hbc := hB.cnt
      have hdp := hB.dep
      have ho := hB.opn
      have hl := hB.len
      have hlen : (p.1 + 1).toNat * (4 * m + 40) = p.1.toNat * (4 * m + 40) + (4 * m + 40) := by
        rw [show (p.1 + 1).toNat = p.1.toNat + 1 by omega, Nat.succ_mul]
      have hcores : ∀ C : Xt, C.cores (i + 1 - (p.1 + 1).toNat) = (treeF l f (i - 1)).cores (i + 1 - (p.1 + 1).toNat) → C.cnt = (treeF l f (i - 1)).cnt → (Xt.una op C).cores (i + 1 - (p.1 + 1).toNat) = ((l.drop (i + 1 - (p.1 + 1).toNat)).take (p.1 + 1).toNat).map coreT := fun C hC hC2 => by
        show C.cores _ ++ [(op, ((i + 1 - (p.1 + 1).toNat + C.cnt : Nat) : Int) - 1, 0, [], Xt.none)] = _
        have hb := hB.cores
        rw [show i - 1 + 1 - p.1.toNat = i + 1 - (p.1 + 1).toNat by omega] at hb
        rw [hC, hC2, hb, show (p.1 + 1).toNat = p.1.toNat + 1 by omega, List.take_add, List.drop_drop, List.map_append, show i + 1 - (p.1.toNat + 1) + p.1.toNat = i by omega, hcut, hx]
        have e : ((i + 1 - (p.1.toNat + 1) + (treeF l f (i - 1)).cnt : Nat) : Int) - 1 = ((i - 1 : Nat) : Int) := by omega
        rw [e]; rfl
      rcases hop with rfl | rfl
      · rw [tree_not hx]
        generalize treeF l f (i - 1) = A at *
        have w1 := wrap_opn (n := 3) (t := A)
        have w2 := wrap_len (n := 3) (t := A)
        refine ⟨⟨.inl ⟨rfl, wrap_lev (by decide)⟩, wrap_ok hB.ok⟩, wrap_lexed hB.lexed, by rw [hx]; exact .inr (.inr ⟨by simp, by simp⟩), by rw [hx]; rfl, by rw [hx]; rfl, hcores _ wrap_cores wrap_cnt, ?_, by show p.1 + 1 ≤ _; omega, ?_, ?_, ?_⟩
        · show (((wrapX 3 A).cnt + 1 : Nat) : Int) = _
          rw [wrap_cnt]; omega
        · show (((wrapX 3 A).dep + 1 : Nat) : Int) = _
          rw [wrap_dep]; omega
        · show (wrapX 3 A).opn + 1 + 2 ≤ 2 * ((wrapX 3 A).dep + 1)
          rw [wrap_dep]; omega
        · show (110 :: 111 :: 116 :: 32 :: (wrapX 3 A).txt).length ≤ _
          simp only [List.length_cons]
          omega
      · rw [tree_neg hx]
        generalize treeF l f (i - 1) = A at *
        obtain ⟨C, hC, c1, c2, c3, c4, c5, c6, c7, c8, c9⟩ : ∃ C : Xt, (if A.bare = true then .par A else wrapX 7 A) = C ∧ 7 ≤ C.lev ∧ C.bare = false ∧ C.Ok ∧ C.Lexed ∧ (∀ k, C.cores k = A.cores k) ∧ C.dep = A.dep ∧ C.opn ≤ A.opn + 1 ∧ C.txt.length ≤ A.txt.length + 2 ∧ C.cnt = A.cnt := by
          refine ⟨_, rfl, ?_⟩
          by_cases hb : A.bare = true
          · rw [if_pos hb]
            exact ⟨by show 7 ≤ 8; decide, rfl, hB.ok, hB.lexed, fun _ => rfl, rfl, Nat.le_refl _, by show (40 :: (A.txt ++ [41])).length ≤ _; simp, rfl⟩
          · rw [if_neg hb]
            exact ⟨wrap_lev (by decide), wrap_bare (by simpa using hb), wrap_ok hB.ok, wrap_lexed hB.lexed, fun _ => wrap_cores, wrap_dep, wrap_opn, wrap_len, wrap_cnt⟩
        rw [hC]
        refine ⟨⟨.inr ⟨rfl, c1, c2⟩, c3⟩, c4, by rw [hx]; exact .inr (.inr ⟨by simp, by simp⟩), by rw [hx]; rfl, by rw [hx]; rfl, hcores _ (c5 _) c9, ?_, by show p.1 + 1 ≤ _; omega, ?_, ?_, ?_⟩
        · show ((C.cnt + 1 : Nat) : Int) = _
          rw [c9]; omega
        · show ((C.dep + 1 : Nat) : Int) = _
          rw [c6]; omega
        · show C.opn + 1 + 2 ≤ 2 * (C.dep + 1)
          omega
        · show (45 :: C.txt).length ≤ _
          simp only [List.length_cons]
          omega
    · have hB := ih (i - 1) (by omega) hp
      have hA := ih j hj hq
      rw [hn]
      obtain ⟨p, hpp⟩ : ∃ p, ndN l (i - 1) = p := ⟨_, rfl⟩
      obtain ⟨q, hqq⟩ : ∃ q, ndN l j = q := ⟨_, rfl⟩
      rw [hpp] at hB hp hjp ⊢
      rw [hqq] at hA hq ⊢
      rw [tree_bin hop hx]
      generalize treeF l f (i - 1) = B at *
      generalize treeF l f j = A at *
      obtain ⟨l1, l2⟩ := lvl_le op hop
      have hl := hB.len
      have ho := hB.opn
      have hd := hB.dep
      have hc := hB.cnt
      have hfi := hB.fits
      have kl := hA.len
      have ko := hA.opn
      have kd := hA.dep
      have kc := hA.cnt
      have kfi := hA.fits
      have s3 := sign_len3 op
      have hlen : (q.1 + p.1 + 1).toNat * (4 * m + 40) = q.1.toNat * (4 * m + 40) + (p.1.toNat * (4 * m + 40) + (4 * m + 40)) := by
        rw [show (q.1 + p.1 + 1).toNat = q.1.toNat + (p.1.toNat + 1) by omega]
        generalize 4 * m + 40 = K
        rw [Nat.add_mul, Nat.add_mul, Nat.one_mul]
      have w1 := wrap_opn (n := (if lvl op = 4 then 5 else lvl op)) (t := A)
      have w2 := wrap_len (n := (if lvl op = 4 then 5 else lvl op)) (t := A)
      have w3 := wrap_opn (n := lvl op + 1) (t := B)
      have w4 := wrap_len (n := lvl op + 1) (t := B)
      have w5 := wrap_dep (n := (if lvl op = 4 then 5 else lvl op)) (t := A)
      have w6 := wrap_dep (n := lvl op + 1) (t := B)
      have w7 := fun k => wrap_cores (n := (if lvl op = 4 then 5 else lvl op)) (t := A) (k := k)
      have w8 := fun k => wrap_cores (n := lvl op + 1) (t := B) (k := k)
      have w9 := wrap_lev (t := A) l2
      have w10 := wrap_lev (t := B) l1
      have w11 := wrap_ok (n := (if lvl op = 4 then 5 else lvl op)) hA.ok
      have w12 := wrap_ok (n := lvl op + 1) hB.ok
      have w13 := wrap_lexed (n := (if lvl op = 4 then 5 else lvl op)) hA.lexed
      have w14 := wrap_lexed (n := lvl op + 1) hB.lexed
      have w15 := wrap_cnt (n := (if lvl op = 4 then 5 else lvl op)) (t := A)
      have w16 := wrap_cnt (n := lvl op + 1) (t := B)
      generalize wrapX (if lvl op = 4 then 5 else lvl op) A = A' at *
      generalize wrapX (lvl op + 1) B = B' at *
      refine ⟨⟨hop.1, hop.2, w9, w10, w11, w12⟩, ⟨w13, w14⟩, by rw [hx]; exact .inr (.inr ⟨by simp only; omega, hop.2⟩), by rw [hx]; rfl, by rw [hx, decide_eq_false (by simp only; omega)]; rfl, ?_, ?_, by show q.1 + p.1 + 1 ≤ _; omega, ?_, ?_, ?_⟩
      · show A'.cores _ ++ (B'.cores (i + 1 - (q.1 + p.1 + 1).toNat + A'.cnt) ++ [(op, ((i + 1 - (q.1 + p.1 + 1).toNat + A'.cnt : Nat) : Int) - 1, ((i + 1 - (q.1 + p.1 + 1).toNat + A'.cnt + B'.cnt : Nat) : Int) - 1, [], Xt.none)]) = _
        have hbc := hB.cores
        have hac := hA.cores
        have e0 : i + 1 - (q.1 + p.1 + 1).toNat = j + 1 - q.1.toNat := by omega
        have e1 : j + 1 - q.1.toNat + A'.cnt = j + 1 := by omega
        have e2 : j + 1 + B'.cnt = i := by omega
        have e3 : i - 1 + 1 - p.1.toNat = j + 1 := by omega
        rw [e3] at hbc
        rw [e0, e1, e2, w7, w8, hac, hbc, show (q.1 + p.1 + 1).toNat = q.1.toNat + (p.1.toNat + 1) by omega, List.take_add, List.drop_drop, List.take_add, List.drop_drop, List.map_append, List.map_append, show j + 1 - q.1.toNat + q.1.toNat = j + 1 by omega, show j + 1 + p.1.toNat = i by omega, hcut, hx]
        have e4 : ((j + 1 : Nat) : Int) - 1 = (j : Int) := by omega
        have e5 : (i : Int) - 1 = ((i - 1 : Nat) : Int) := by omega
        rw [e4, e5]; rfl
      · show ((A'.cnt + B'.cnt + 1 : Nat) : Int) = _
        omega
      · show (((if B'.dep > A'.dep then B'.dep else A'.dep) + 1 : Nat) : Int) = _
        split <;> omega
      · show (if B'.opn > A'.opn then B'.opn else A'.opn) + 2 ≤ 2 * ((if B'.dep > A'.dep then B'.dep else A'.dep) + 1)
        split <;> split <;> omega
      · show (A'.txt ++ 32 :: (signW op ++ 32 :: B'.txt)).length ≤ _
        simp only [List.length_append, List.length_cons]
        omega
/-- A list whose values are numbers that fit and texts that are not long. -/
structure Listed (l : List Tr.Ex) (m : Nat) : Prop where
  lo : 40 ≤ m
  hi : m ≤ 5000
  len : l.length ≤ 1000000
  val : ∀ x ∈ l, Nu.Fits x.2.2.2.2.1.2.1 ∧ x.2.2.2.2.1.2.2.1.length ≤ m
theorem Listed.fine {l : List Tr.Ex} {m f i : Nat} (h : Listed l m) (hf : i < f) (hi : i < l.length) (hp : 0 < (ndN l i).1) : Fine l i (treeF l f i) (ndN l i).1 (ndN l i).2 m := Pr.fine l m h.lo h.val f i hf hi hp
theorem Listed.short {l : List Tr.Ex} {m f i : Nat} (h : Listed l m) (hf : i < f) (hi : i < l.length) (hp : 0 < (ndN l i).1) : (treeF l f i).txt.length ≤ 900000000000 := by
  have h1 := (h.fine hf hi hp).len
  have h2 := ndN_bound hi
  have h3 := h.len
  have h4 := h.hi
  have : (ndN l i).1.toNat * (4 * m + 40) ≤ 1000001 * 20040 := Nat.mul_le_mul (by omega) (by omega)
  omega
theorem Listed.wrap {l : List Tr.Ex} {m f i n : Nat} (h : Listed l m) (hf : i < f) (hi : i < l.length) (hp : 0 < (ndN l i).1) : (wrapX n (treeF l f i)).txt.length ≤ 1000000000000 := by
  have h1 := h.short hf hi hp
  have h2 := wrap_len (n := n) (t := treeF l f i)
  omega
/-- WHAT IS PRINTED IS PARSED AS IT WAS. -/
theorem read_txt {x : Xt} (hx : x.Ok) (hs : x.Lexed) (hd : x.dep ≤ 64) (ho : x.opn ≤ 128) (hl : x.txt.length ≤ 65536) : ∃ o, runR x.txt exprR = .ok o ∧ o.map coreOf = x.cores 0 := by
  have h1 := lexTo_txt x hx hs [] [] rfl lexTo_nil
  rw [List.append_nil, List.append_nil] at h1
  obtain ⟨L, a1, a2, a3, a4⟩ := lex_all h1 hl
  have hsz := Xt.siz_toks (x := x)
  obtain ⟨z, e, g⟩ := reads a3 (fuelN L) 0 x (by decide) (lev_pos hx) (by unfold fuelN; omega) ⟨0, [], [], 0⟩ [] ⟨hx, by rw [List.append_nil]; exact a2, rfl, ends_nil _, by show (0 : Int) + x.opn ≤ 128; omega, hd⟩
  obtain ⟨o2, g1, g2⟩ := g.o
  have ga := g.a
  simp only [Nat.zero_add] at ga
  refine ⟨z.o, ?_, by rw [g1]; exact g2⟩
  unfold runR exprR
  rw [a1]
  dsimp only
  rw [e]
  dsimp only
  rw [if_neg (by omega)]
end Go.Proofs.YtdhgappjicpglaaGreatDoor.Pr
namespace Go.Proofs.YtdhgappjicpglaaGreatDoor.Pr
open Go Go.Ab Go.RowKit Go.Proofs.YtdhgappjicpglaaGreatDoor.Lx Go.Proofs.YtdhgappjicpglaaGreatDoor.Pa
variable {Γ : Nat → AV}
attribute [local irreducible] APure Sto.set Sto.grow
set_option maxRecDepth 10000
set_option maxHeartbeats 4000000
def levP (op : Int) : Int := if op = 1 ∨ op = 17 then 8 else if 4 ≤ op ∧ op ≤ 16 then (lvl op : Int) else 0
theorem op17 {op : Int} (h : 1 ≤ op ∧ op ≤ 17) : op = 1 ∨ op = 2 ∨ op = 3 ∨ op = 4 ∨ op = 5 ∨ op = 6 ∨ op = 7 ∨ op = 8 ∨ op = 9 ∨ op = 10 ∨ op = 11 ∨ op = 12 ∨ op = 13 ∨ op = 14 ∨ op = 15 ∨ op = 16 ∨ op = 17 := by omega
theorem level_ok (op : Int) : APure Tryz.prog Γ 11 [.int .i64 op] fun v => v = .int .i64 (levP op) := by
  by_cases h : 1 ≤ op ∧ op ≤ 17
  · rcases op17 h with rfl | rfl | rfl | rfl | rfl | rfl | rfl | rfl | rfl | rfl | rfl | rfl | rfl | rfl | rfl | rfl | rfl
    all_goals
      refine APure.of_awp Tryz.func11 rfl (Nat.le_of_ble_eq_true (by kernel_rfl)) (by kernel_rfl) ?_
      intro s
      conv => whnf
      repeat' ((first | refine ⟨Sub.refl _, ?_⟩ | (refine brA_split (fun h => ?_) (fun h => ?_) <;> (try rw [h]) <;> (try simp only [bN, bS, ↓reduceIte] at h) <;> (first | (exfalso; first | contradiction | omega | exact (by assumption : ¬ True) trivial | fail) | skip)) | refine getB_same ?_ | refine AWp.anyA ?_ | refine and_a ?_ | fail) <;> (conv => whnf))
      all_goals rfl
  · have e : levP op = 0 := by unfold levP; rw [if_neg (by omega), if_neg (by omega)]
    rw [e]
    refine APure.of_awp Tryz.func11 rfl (Nat.le_of_ble_eq_true (by kernel_rfl)) (by kernel_rfl) ?_
    intro s
    conv => whnf
    repeat' ((first | refine ⟨Sub.refl _, ?_⟩ | (refine brA_split (fun h => ?_) (fun h => ?_) <;> (try rw [h]) <;> (try simp only [bN, bS, ↓reduceIte] at h) <;> (first | (exfalso; first | contradiction | omega | exact (by assumption : ¬ True) trivial | fail) | skip)) | refine getB_same ?_ | refine AWp.anyA ?_ | refine and_a ?_ | fail) <;> (conv => whnf))
    all_goals rfl
/-- The table of tokens. -/
def Toks (Γ : Nat → AV) : Prop := Γ 0 = .cptr (signT.map .str)
theorem token_ok (hK : Toks Γ) (op : Int) (h : 6 ≤ op ∧ op ≤ 16) : APure Tryz.prog Γ 29 [.int .i64 op] fun v => v = .str (signW op) := by
  rcases op_cases h with rfl | rfl | rfl | rfl | rfl | rfl | rfl | rfl | rfl | rfl | rfl
  all_goals
    refine APure.of_awp Tryz.func29 rfl (Nat.le_of_ble_eq_true (by kernel_rfl)) (by kernel_rfl) ?_
    intro s
    conv => whnf
    repeat' ((first | refine ⟨Sub.refl _, ?_⟩ | (refine brA_split (fun h => ?_) (fun h => ?_) <;> (try rw [h]) <;> (try simp only [bN, bS, ↓reduceIte] at h) <;> (first | (exfalso; first | contradiction | omega | exact (by assumption : ¬ True) trivial | fail) | skip)) | (rw [evA_glob, hK]) | refine getB_same ?_ | refine AWp.anyA ?_ | refine and_a ?_ | fail) <;> (conv => whnf))
    all_goals rfl
theorem plain_ok (x : Tr.Ex) : APure Tryz.prog Γ 28 [.agg (Tr.exA x)] fun v => v = .bool (decide (x.1 = 1) && (decide (x.2.2.2.2.1.1 = 1) && decide (0 ≤ x.2.2.2.2.1.2.1))) := by
  obtain ⟨op, a, b, nm, ⟨vk, vi, vs, vb⟩, ln, cl⟩ := x
  simp only [Tr.exA]
  refine APure.of_awp Tryz.func28 rfl (Nat.le_of_ble_eq_true (by kernel_rfl)) (by kernel_rfl) ?_
  intro s
  conv => whnf
  intro b1 hb1
  have k_b1 := hb1
  repeat replace k_b1 := none_of_set k_b1
  conv => whnf
  repeat' ((first | refine ⟨Sub.refl _, ?_⟩ | (refine brA_split (fun h => ?_) (fun h => ?_) <;> (try rw [h]) <;> (try simp only [bN, bS, ↓reduceIte] at h) <;> (first | (exfalso; first | contradiction | omega | exact (by assumption : ¬ True) trivial | fail) | skip)) | refine getB_a ?_ | refine getB_same ?_ | refine AWp.anyA ?_ | refine and_a ?_ | fail) <;> (conv => whnf))
  all_goals refine ⟨suba, Tr.bool_eq ?_⟩
  all_goals simp [*]
theorem refLevel_ok (x : Tr.Ex) (h : x.1 = 1 ∨ x.1 = 17 ∨ (4 ≤ x.1 ∧ x.1 ≤ 16)) : APure Tryz.prog Γ 23 [.agg (Tr.exA x)] fun v => v = .int .i64 (lvl x.1 : Int) := by
  obtain ⟨op, a, b, nm, ⟨vk, vi, vs, vb⟩, ln, cl⟩ := x
  simp only at h
  simp only [Tr.exA]
  have h := (show 1 ≤ op ∧ op ≤ 17 by omega)
  rcases op17 h with rfl | rfl | rfl | rfl | rfl | rfl | rfl | rfl | rfl | rfl | rfl | rfl | rfl | rfl | rfl | rfl | rfl
  all_goals
    refine APure.of_awp Tryz.func23 rfl (Nat.le_of_ble_eq_true (by kernel_rfl)) (by kernel_rfl) ?_
    intro s
    conv => whnf
    intro b1 hb1
    have k_b1 := hb1
    repeat replace k_b1 := none_of_set k_b1
    conv => whnf
    repeat' ((first | refine ⟨Sub.refl _, ?_⟩ | (refine brA_split (fun h => ?_) (fun h => ?_) <;> (try rw [h]) <;> (try simp only [bN, bS, ↓reduceIte] at h) <;> (first | (exfalso; first | contradiction | omega | exact (by assumption : ¬ True) trivial | fail) | skip)) | refine getB_a ?_ | refine getB_same ?_ | refine AWp.anyA ?_ | refine and_a ?_ | fail) <;> (conv => whnf))
    all_goals first | exact ⟨suba, rfl⟩ | rfl | fail
theorem refSign_ok (op : Int) (h : 6 ≤ op ∧ op ≤ 16) : APure Tryz.prog Γ 24 [.int .i64 op] fun v => v = .str (signW op) := by
  rcases op_cases h with rfl | rfl | rfl | rfl | rfl | rfl | rfl | rfl | rfl | rfl | rfl
  all_goals
    refine APure.of_awp Tryz.func24 rfl (Nat.le_of_ble_eq_true (by kernel_rfl)) (by kernel_rfl) ?_
    intro s
    conv => whnf
    repeat' ((first | refine ⟨Sub.refl _, ?_⟩ | (refine brA_split (fun h => ?_) (fun h => ?_) <;> (try rw [h]) <;> (try simp only [bN, bS, ↓reduceIte] at h) <;> (first | (exfalso; first | contradiction | omega | exact (by assumption : ¬ True) trivial | fail) | skip)) | refine getB_same ?_ | refine AWp.anyA ?_ | refine and_a ?_ | fail) <;> (conv => whnf))
    all_goals rfl
/-- Within another one. -/
theorem within_ok {t j n : Nat} {l : List Tr.Ex} {T : Xt} (hj : j < l.length) (hlev : levP (l.getD j Tr.noEx).1 = (T.lev : Int)) (hlen : T.txt.length ≤ 1000000000000) (ht : APure Tryz.prog Γ 14 [.slice t (l.map Tr.exA), .int .i64 (j : Int)] fun v => v = .str T.txt) :
    APure Tryz.prog Γ 27 [.slice t (l.map Tr.exA), .int .i64 (j : Int), .int .i64 (n : Int)] fun v => v = .str (wrapX n T).txt := by
  have hml : (l.map Tr.exA).length = l.length := List.length_map ..
  have hga := Tr.map_get (f := Tr.exA) (l := l) Tr.noEx hj
  have hlv := level_ok (Γ := Γ) (l.getD j Tr.noEx).1
  rw [hlev] at hlv
  generalize l.getD j Tr.noEx = x at *
  obtain ⟨op, a, b, nm, ⟨vk, vi, vs, vb⟩, ln, cl⟩ := x
  simp only [Tr.exA] at hga
  simp only at hlv
  by_cases hlt : T.lev < n
  · refine APure.of_awp Tryz.func27 rfl (Nat.le_of_ble_eq_true (by kernel_rfl)) (by kernel_rfl) ?_
    intro s
    conv => whnf
    repeat' ((first | refine ⟨Sub.refl _, ?_⟩ | (refine brA_split (fun h => ?_) (fun h => ?_) <;> (try rw [h]) <;> (try simp only [bN, bS, ↓reduceIte] at h) <;> (first | (exfalso; first | contradiction | omega | exact (by assumption : ¬ True) trivial | fail) | skip)) | refine ⟨len_of (hga) rfl, Go.Ab.frcL_of (hga) ?_⟩ | (refine ACalls.pure' ?_ (hlv); rintro _ rfl) | refine DCall.pure ?_ (hlv) | (refine ACalls.pure' ?_ (ht); rintro _ rfl) | refine DCall.pure ?_ (ht) | refine getB_same ?_ | refine AWp.anyA ?_ | refine and_a ?_ | fail) <;> (conv => whnf))
    all_goals (rw [show wrapX n T = .par T from if_pos hlt]; rfl)
  · refine APure.of_awp Tryz.func27 rfl (Nat.le_of_ble_eq_true (by kernel_rfl)) (by kernel_rfl) ?_
    intro s
    conv => whnf
    repeat' ((first | refine ⟨Sub.refl _, ?_⟩ | (refine brA_split (fun h => ?_) (fun h => ?_) <;> (try rw [h]) <;> (try simp only [bN, bS, ↓reduceIte] at h) <;> (first | (exfalso; first | contradiction | omega | exact (by assumption : ¬ True) trivial | fail) | skip)) | refine ⟨len_of (hga) rfl, Go.Ab.frcL_of (hga) ?_⟩ | (refine ACalls.pure' ?_ (hlv); rintro _ rfl) | refine DCall.pure ?_ (hlv) | (refine ACalls.pure' ?_ (ht); rintro _ rfl) | refine DCall.pure ?_ (ht) | refine getB_same ?_ | refine AWp.anyA ?_ | refine and_a ?_ | fail) <;> (conv => whnf))
    all_goals (rw [show wrapX n T = T from if_neg hlt]; rfl)
theorem refWithin_ok {t j n : Nat} {l : List Tr.Ex} {T : Xt} (hj : j < l.length) (hop : (l.getD j Tr.noEx).1 = 1 ∨ (l.getD j Tr.noEx).1 = 17 ∨ (4 ≤ (l.getD j Tr.noEx).1 ∧ (l.getD j Tr.noEx).1 ≤ 16)) (hlev : lvl (l.getD j Tr.noEx).1 = T.lev) (hlen : T.txt.length ≤ 1000000000000) (ht : APure Tryz.prog Γ 10 [.slice t (l.map Tr.exA), .int .i64 (j : Int)] fun v => v = .str T.txt) :
    APure Tryz.prog Γ 22 [.slice t (l.map Tr.exA), .int .i64 (j : Int), .int .i64 (n : Int)] fun v => v = .str (wrapX n T).txt := by
  have hml : (l.map Tr.exA).length = l.length := List.length_map ..
  have hga := Tr.map_get (f := Tr.exA) (l := l) Tr.noEx hj
  have hlv := refLevel_ok (Γ := Γ) (l.getD j Tr.noEx) hop
  rw [hlev] at hlv
  generalize l.getD j Tr.noEx = x at *
  obtain ⟨op, a, b, nm, ⟨vk, vi, vs, vb⟩, ln, cl⟩ := x
  simp only [Tr.exA] at hga hlv
  by_cases hlt : T.lev < n
  · refine APure.of_awp Tryz.func22 rfl (Nat.le_of_ble_eq_true (by kernel_rfl)) (by kernel_rfl) ?_
    intro s
    conv => whnf
    repeat' ((first | refine ⟨Sub.refl _, ?_⟩ | (refine brA_split (fun h => ?_) (fun h => ?_) <;> (try rw [h]) <;> (try simp only [bN, bS, ↓reduceIte] at h) <;> (first | (exfalso; first | contradiction | omega | exact (by assumption : ¬ True) trivial | fail) | skip)) | refine ⟨len_of (hga) rfl, Go.Ab.frcL_of (hga) ?_⟩ | (refine ACalls.pure' ?_ (hlv); rintro _ rfl) | refine DCall.pure ?_ (hlv) | (refine ACalls.pure' ?_ (ht); rintro _ rfl) | refine DCall.pure ?_ (ht) | refine getB_same ?_ | refine AWp.anyA ?_ | refine and_a ?_ | fail) <;> (conv => whnf))
    all_goals (rw [show wrapX n T = .par T from if_pos hlt]; rfl)
  · refine APure.of_awp Tryz.func22 rfl (Nat.le_of_ble_eq_true (by kernel_rfl)) (by kernel_rfl) ?_
    intro s
    conv => whnf
    repeat' ((first | refine ⟨Sub.refl _, ?_⟩ | (refine brA_split (fun h => ?_) (fun h => ?_) <;> (try rw [h]) <;> (try simp only [bN, bS, ↓reduceIte] at h) <;> (first | (exfalso; first | contradiction | omega | exact (by assumption : ¬ True) trivial | fail) | skip)) | refine ⟨len_of (hga) rfl, Go.Ab.frcL_of (hga) ?_⟩ | (refine ACalls.pure' ?_ (hlv); rintro _ rfl) | refine DCall.pure ?_ (hlv) | (refine ACalls.pure' ?_ (ht); rintro _ rfl) | refine DCall.pure ?_ (ht) | refine getB_same ?_ | refine AWp.anyA ?_ | refine and_a ?_ | fail) <;> (conv => whnf))
    all_goals (rw [show wrapX n T = T from if_neg hlt]; rfl)
section
variable {t i j k : Nat} {l : List Tr.Ex} {op a b : Int} {nm : List UInt8} {v : Tr.Vl} {ln cl : Int} {A B : List UInt8}
theorem text_con (hT : Qu.Tabs Γ) (hN : Nu.Tens Γ) (hi : i < l.length) (hga : (l.map Tr.exA).getD i [] = Tr.exA (1, a, b, nm, v, ln, cl)) (hv : Nu.Fits v.2.1) (hs : v.2.2.1.length ≤ 1048576) :
    APure Tryz.prog Γ 14 [.slice t (l.map Tr.exA), .int .i64 (i : Int)] fun x => x = .str (Va.textOf v) := by
  have hml : (l.map Tr.exA).length = l.length := List.length_map ..
  have htx := Va.text_full hT hN v hv hs
  simp only [Tr.exA, Tr.vlA, Va.vlA] at hga htx
  refine APure.of_awp Tryz.func14 rfl (Nat.le_of_ble_eq_true (by kernel_rfl)) (by kernel_rfl) ?_
  intro s
  conv => whnf
  repeat' ((first | refine ⟨Sub.refl _, ?_⟩ | (refine brA_split (fun h => ?_) (fun h => ?_) <;> (try rw [h]) <;> (try simp only [bN, bS, ↓reduceIte] at h) <;> (first | (exfalso; first | contradiction | omega | exact (by assumption : ¬ True) trivial | fail) | skip)) | refine ⟨len_of (hga) rfl, Go.Ab.frcL_of (hga) ?_⟩ | refine getB_same ?_ | refine AWp.anyA ?_ | refine and_a ?_ | fail) <;> (conv => whnf))
  intro b1 hb1
  have k_b1 := hb1
  repeat replace k_b1 := none_of_set k_b1
  conv => whnf
  repeat' ((first | refine ⟨Sub.refl _, ?_⟩ | (refine brA_split (fun h => ?_) (fun h => ?_) <;> (try rw [h]) <;> (try simp only [bN, bS, ↓reduceIte] at h) <;> (first | (exfalso; first | contradiction | omega | exact (by assumption : ¬ True) trivial | fail) | skip)) | refine getB_a ?_ | (refine ACalls.pure' ?_ (level_ok _); rintro _ rfl) | refine DCall.pure ?_ (level_ok _) | (refine ACalls.pure' ?_ (htx); rintro _ rfl) | refine DCall.pure ?_ (htx) | refine getB_same ?_ | refine AWp.anyA ?_ | refine and_a ?_ | fail) <;> (conv => whnf))
  all_goals exact ⟨suba, rfl⟩
theorem text_nam (hi : i < l.length) (hga : (l.map Tr.exA).getD i [] = Tr.exA (17, a, b, nm, v, ln, cl)) :
    APure Tryz.prog Γ 14 [.slice t (l.map Tr.exA), .int .i64 (i : Int)] fun x => x = .str nm := by
  have hml : (l.map Tr.exA).length = l.length := List.length_map ..
  simp only [Tr.exA, Tr.vlA] at hga
  refine APure.of_awp Tryz.func14 rfl (Nat.le_of_ble_eq_true (by kernel_rfl)) (by kernel_rfl) ?_
  intro s
  conv => whnf
  repeat' ((first | refine ⟨Sub.refl _, ?_⟩ | (refine brA_split (fun h => ?_) (fun h => ?_) <;> (try rw [h]) <;> (try simp only [bN, bS, ↓reduceIte] at h) <;> (first | (exfalso; first | contradiction | omega | exact (by assumption : ¬ True) trivial | fail) | skip)) | refine ⟨len_of (hga) rfl, Go.Ab.frcL_of (hga) ?_⟩ | refine getB_same ?_ | refine AWp.anyA ?_ | refine and_a ?_ | fail) <;> (conv => whnf))
  intro b1 hb1
  have k_b1 := hb1
  repeat replace k_b1 := none_of_set k_b1
  conv => whnf
  repeat' ((first | refine ⟨Sub.refl _, ?_⟩ | (refine brA_split (fun h => ?_) (fun h => ?_) <;> (try rw [h]) <;> (try simp only [bN, bS, ↓reduceIte] at h) <;> (first | (exfalso; first | contradiction | omega | exact (by assumption : ¬ True) trivial | fail) | skip)) | refine getB_a ?_ | (refine ACalls.pure' ?_ (level_ok _); rintro _ rfl) | refine DCall.pure ?_ (level_ok _) | refine getB_same ?_ | refine AWp.anyA ?_ | refine and_a ?_ | fail) <;> (conv => whnf))
  all_goals exact ⟨suba, rfl⟩
theorem text_not (hi : i < l.length) (hga : (l.map Tr.exA).getD i [] = Tr.exA (4, (j : Int), b, nm, v, ln, cl)) (hA : A.length ≤ 1000000000000)
    (hw : APure Tryz.prog Γ 27 [.slice t (l.map Tr.exA), .int .i64 (j : Int), .int .i64 ((3 : Nat) : Int)] fun v => v = .str A) :
    APure Tryz.prog Γ 14 [.slice t (l.map Tr.exA), .int .i64 (i : Int)] fun x => x = .str ([110, 111, 116, 32] ++ A) := by
  have hml : (l.map Tr.exA).length = l.length := List.length_map ..
  simp only [Tr.exA, Tr.vlA] at hga
  refine APure.of_awp Tryz.func14 rfl (Nat.le_of_ble_eq_true (by kernel_rfl)) (by kernel_rfl) ?_
  intro s
  conv => whnf
  repeat' ((first | refine ⟨Sub.refl _, ?_⟩ | (refine brA_split (fun h => ?_) (fun h => ?_) <;> (try rw [h]) <;> (try simp only [bN, bS, ↓reduceIte] at h) <;> (first | (exfalso; first | contradiction | omega | exact (by assumption : ¬ True) trivial | fail) | skip)) | refine ⟨len_of (hga) rfl, Go.Ab.frcL_of (hga) ?_⟩ | refine getB_same ?_ | refine AWp.anyA ?_ | refine and_a ?_ | fail) <;> (conv => whnf))
  intro b1 hb1
  have k_b1 := hb1
  repeat replace k_b1 := none_of_set k_b1
  conv => whnf
  repeat' ((first | refine ⟨Sub.refl _, ?_⟩ | (refine brA_split (fun h => ?_) (fun h => ?_) <;> (try rw [h]) <;> (try simp only [bN, bS, ↓reduceIte] at h) <;> (first | (exfalso; first | contradiction | omega | exact (by assumption : ¬ True) trivial | fail) | skip)) | refine getB_a ?_ | (refine ACalls.pure' ?_ (level_ok _); rintro _ rfl) | refine DCall.pure ?_ (level_ok _) | (refine ACalls.pure' ?_ (hw); rintro _ rfl) | refine DCall.pure ?_ (hw) | refine getB_same ?_ | refine AWp.anyA ?_ | refine and_a ?_ | fail) <;> (conv => whnf))
  all_goals exact ⟨suba, rfl⟩
theorem text_neg (hi : i < l.length) (hj : j < l.length) (hga : (l.map Tr.exA).getD i [] = Tr.exA (5, (j : Int), b, nm, v, ln, cl)) {q : Bool} (hA : A.length ≤ 1000000000000) (hB : B.length ≤ 1000000000000)
    (hp : APure Tryz.prog Γ 28 [.agg ((l.map Tr.exA).getD j [])] fun v => v = .bool q)
    (hw : APure Tryz.prog Γ 27 [.slice t (l.map Tr.exA), .int .i64 (j : Int), .int .i64 ((9 : Nat) : Int)] fun v => v = .str A)
    (hw7 : APure Tryz.prog Γ 27 [.slice t (l.map Tr.exA), .int .i64 (j : Int), .int .i64 ((7 : Nat) : Int)] fun v => v = .str B) :
    APure Tryz.prog Γ 14 [.slice t (l.map Tr.exA), .int .i64 (i : Int)] fun x => x = .str ([45] ++ if q = true then A else B) := by
  have hml : (l.map Tr.exA).length = l.length := List.length_map ..
  have hgj := Tr.map_get (f := Tr.exA) (l := l) Tr.noEx hj
  rw [hgj] at hp
  generalize l.getD j Tr.noEx = y at *
  simp only [Tr.exA, Tr.vlA] at hga hgj hp
  cases q
  all_goals
    refine APure.of_awp Tryz.func14 rfl (Nat.le_of_ble_eq_true (by kernel_rfl)) (by kernel_rfl) ?_
    intro s
    conv => whnf
    repeat' ((first | refine ⟨Sub.refl _, ?_⟩ | (refine brA_split (fun h => ?_) (fun h => ?_) <;> (try rw [h]) <;> (try simp only [bN, bS, ↓reduceIte] at h) <;> (first | (exfalso; first | contradiction | omega | exact (by assumption : ¬ True) trivial | fail) | skip)) | refine ⟨len_of (hga) rfl, Go.Ab.frcL_of (hga) ?_⟩ | refine getB_same ?_ | refine AWp.anyA ?_ | refine and_a ?_ | fail) <;> (conv => whnf))
    intro b1 hb1
    have k_b1 := hb1
    repeat replace k_b1 := none_of_set k_b1
    conv => whnf
    repeat' ((first | refine ⟨Sub.refl _, ?_⟩ | (refine brA_split (fun h => ?_) (fun h => ?_) <;> (try rw [h]) <;> (try simp only [bN, bS, ↓reduceIte] at h) <;> (first | (exfalso; first | contradiction | omega | exact (by assumption : ¬ True) trivial | fail) | skip)) | refine getB_a ?_ | (refine ACalls.pure' ?_ (level_ok _); rintro _ rfl) | refine DCall.pure ?_ (level_ok _) | refine ⟨len_of (hgj) rfl, Go.Ab.frcL_of (hgj) ?_⟩ | (refine ACalls.pure' ?_ (hp); rintro _ rfl) | refine DCall.pure ?_ (hp) | (refine ACalls.pure' ?_ (hw); rintro _ rfl) | refine DCall.pure ?_ (hw) | (refine ACalls.pure' ?_ (hw7); rintro _ rfl) | refine DCall.pure ?_ (hw7) | refine getB_same ?_ | refine AWp.anyA ?_ | refine and_a ?_ | fail) <;> (conv => whnf))
    all_goals exact ⟨suba, rfl⟩
theorem text_bin (hK : Toks Γ) (hi : i < l.length) (hop : 6 ≤ op ∧ op ≤ 16) (hga : (l.map Tr.exA).getD i [] = Tr.exA (op, (j : Int), (k : Int), nm, v, ln, cl)) (hA : A.length ≤ 1000000000000) (hB : B.length ≤ 1000000000000)
    (hw : APure Tryz.prog Γ 27 [.slice t (l.map Tr.exA), .int .i64 (j : Int), .int .i64 ((if lvl op = 4 then 5 else lvl op : Nat) : Int)] fun v => v = .str A)
    (hw2 : APure Tryz.prog Γ 27 [.slice t (l.map Tr.exA), .int .i64 (k : Int), .int .i64 ((lvl op + 1 : Nat) : Int)] fun v => v = .str B) :
    APure Tryz.prog Γ 14 [.slice t (l.map Tr.exA), .int .i64 (i : Int)] fun x => x = .str (A ++ 32 :: (signW op ++ 32 :: B)) := by
  have hml : (l.map Tr.exA).length = l.length := List.length_map ..
  have htk := token_ok hK op hop
  have hs3 := sign_len3 op
  simp only [Tr.exA, Tr.vlA] at hga
  have fin : A ++ [32] ++ signW op ++ [32] ++ B = A ++ 32 :: (signW op ++ 32 :: B) := by simp
  rw [← fin]
  rcases op_cases hop with rfl | rfl | rfl | rfl | rfl | rfl | rfl | rfl | rfl | rfl | rfl
  all_goals
    refine APure.of_awp Tryz.func14 rfl (Nat.le_of_ble_eq_true (by kernel_rfl)) (by kernel_rfl) ?_
    intro s
    conv => whnf
    repeat' ((first | refine ⟨Sub.refl _, ?_⟩ | (refine brA_split (fun h => ?_) (fun h => ?_) <;> (try rw [h]) <;> (try simp only [bN, bS, ↓reduceIte] at h) <;> (first | (exfalso; first | contradiction | omega | exact (by assumption : ¬ True) trivial | fail) | skip)) | refine ⟨len_of (hga) rfl, Go.Ab.frcL_of (hga) ?_⟩ | refine getB_same ?_ | refine AWp.anyA ?_ | refine and_a ?_ | fail) <;> (conv => whnf))
    intro b1 hb1
    have k_b1 := hb1
    repeat replace k_b1 := none_of_set k_b1
    conv => whnf
    repeat' ((first | refine ⟨Sub.refl _, ?_⟩ | (refine brA_split (fun h => ?_) (fun h => ?_) <;> (try rw [h]) <;> (try simp only [bN, bS, ↓reduceIte] at h) <;> (first | (exfalso; first | contradiction | omega | exact (by assumption : ¬ True) trivial | fail) | skip)) | refine getB_a ?_ | (refine ACalls.pure' ?_ (level_ok _); rintro _ rfl) | refine DCall.pure ?_ (level_ok _) | (refine ACalls.pure' ?_ (hw); rintro _ rfl) | refine DCall.pure ?_ (hw) | (refine ACalls.pure' ?_ (hw2); rintro _ rfl) | refine DCall.pure ?_ (hw2) | (refine ACalls.pure' ?_ (htk); rintro _ rfl) | refine DCall.pure ?_ (htk) | refine getB_same ?_ | refine AWp.anyA ?_ | refine and_a ?_ | fail) <;> (conv => whnf))
    all_goals exact ⟨suba, rfl⟩
end
end Go.Proofs.YtdhgappjicpglaaGreatDoor.Pr
namespace Go.Proofs.YtdhgappjicpglaaGreatDoor.Pr
open Go Go.Ab Go.RowKit Go.Proofs.YtdhgappjicpglaaGreatDoor.Lx Go.Proofs.YtdhgappjicpglaaGreatDoor.Pa
variable {Γ : Nat → AV}
attribute [local irreducible] APure Sto.set Sto.grow
set_option maxRecDepth 10000
set_option maxHeartbeats 4000000
theorem levP_of {op : Int} (h : op = 1 ∨ op = 17 ∨ (4 ≤ op ∧ op ≤ 16)) : levP op = (lvl op : Int) := by
  unfold levP
  split
  · rename_i h1
    rcases h1 with rfl | rfl <;> rfl
  · rw [if_pos (by omega)]
theorem neg_txt {T : Xt} : ([45] ++ if T.bare = true then (wrapX 9 T).txt else (wrapX 7 T).txt) = (Xt.una 5 (if T.bare = true then .par T else wrapX 7 T)).txt := by
  have hw : wrapX 9 T = .par T := if_pos (lev_le T)
  rw [hw]
  show _ = [45] ++ (if T.bare = true then Xt.par T else wrapX 7 T).txt
  split <;> rfl
/-- The program's text of a node. -/
theorem text_ok (hK : Toks Γ) (hT : Qu.Tabs Γ) (hN : Nu.Tens Γ) (t : Nat) {l : List Tr.Ex} {m : Nat} (hl : Listed l m) : ∀ (k i f : Nat), i < k → i < f → i < l.length → 0 < (ndN l i).1 → APure Tryz.prog Γ 14 [.slice t (l.map Tr.exA), .int .i64 (i : Int)] fun v => v = .str (treeF l f i).txt
  | 0, i, f, h, _, _, _ => by omega
  | k + 1, i, f, hk, hf, hi, hpos => by
    obtain ⟨f, rfl⟩ : ∃ g, f = g + 1 := ⟨f - 1, by omega⟩
    have kid : ∀ (j n : Nat), j < i → 0 < (ndN l j).1 → APure Tryz.prog Γ 27 [.slice t (l.map Tr.exA), .int .i64 (j : Int), .int .i64 (n : Int)] fun v => v = .str (wrapX n (treeF l f j)).txt := fun j n hj hp => by
      have hF := hl.fine (f := f) (by omega) (by omega) hp
      have hS := hl.short (f := f) (by omega) (by omega) hp
      exact within_ok (by omega) (by rw [levP_of hF.op, hF.lev]) (by omega) (text_ok hK hT hN t hl k j f (by omega) (by omega) (by omega) hp)
    have hga := Tr.map_get (f := Tr.exA) (l := l) Tr.noEx hi
    rcases kinds hi hpos with ⟨v, ln, cl, hx, hv, _⟩ | ⟨s, ln, cl, hx, hs, _⟩ | ⟨op, ln, cl, hop, hx, h1, hp, _⟩ | ⟨op, j, ln, cl, hop, hx, hj, hp, hq, _, _⟩
    · rw [hx] at hga
      have hmem := hl.val _ (hx ▸ Tr.getD_mem Tr.noEx hi)
      have hhi := hl.hi
      rw [tree_con hx, show (Xt.con v).txt = Va.textOf v from (rightV_ok' hv hmem.1).2.2]
      exact text_con hT hN hi hga hmem.1 (Nat.le_trans hmem.2 (by omega))
    · rw [hx] at hga
      rw [tree_nam hx]
      exact text_nam hi hga
    · rw [hx] at hga
      rcases hop with rfl | rfl
      · rw [tree_not hx]
        exact text_not hi hga (hl.wrap (f := f) (by omega) (by omega) hp) (kid (i - 1) 3 (by omega) hp)
      · rw [tree_neg hx, ← neg_txt]
        have hF := hl.fine (f := f) (i := i - 1) (by omega) (by omega) hp
        have hpl := plain_ok (Γ := Γ) (l.getD (i - 1) Tr.noEx)
        rw [← hF.bare, ← Tr.map_get (f := Tr.exA) (l := l) Tr.noEx (show i - 1 < l.length by omega)] at hpl
        exact text_neg hi (by omega) hga (hl.wrap (f := f) (by omega) (by omega) hp) (hl.wrap (f := f) (by omega) (by omega) hp) hpl (kid (i - 1) 9 (by omega) hp) (kid (i - 1) 7 (by omega) hp)
    · rw [hx] at hga
      rw [tree_bin hop hx]
      exact text_bin hK hi hop hga (hl.wrap (f := f) (by omega) (by omega) hq) (hl.wrap (f := f) (by omega) (by omega) hp) (kid j _ (by omega) hq) (kid (i - 1) _ (by omega) hp)
section
variable {t i j k : Nat} {l : List Tr.Ex} {op a b : Int} {nm : List UInt8} {v : Tr.Vl} {ln cl : Int} {A B : List UInt8}
theorem rtext_con (hi : i < l.length) (hga : (l.map Tr.exA).getD i [] = Tr.exA (1, a, b, nm, v, ln, cl)) (hv : Nu.Fits v.2.1) (hs : v.2.2.1.length ≤ 1048576) (hr : Tr.rightV v = true) :
    APure Tryz.prog Γ 10 [.slice t (l.map Tr.exA), .int .i64 (i : Int)] fun x => x = .str (Va.textOf v) := by
  have hml : (l.map Tr.exA).length = l.length := List.length_map ..
  have htx := Va.refTextV_ok (Γ := Γ) v hv hs hr
  simp only [Tr.exA, Tr.vlA, Va.vlA] at hga htx
  refine APure.of_awp Tryz.func10 rfl (Nat.le_of_ble_eq_true (by kernel_rfl)) (by kernel_rfl) ?_
  intro s
  conv => whnf
  repeat' ((first | refine ⟨Sub.refl _, ?_⟩ | (refine brA_split (fun h => ?_) (fun h => ?_) <;> (try rw [h]) <;> (try simp only [bN, bS, ↓reduceIte] at h) <;> (first | (exfalso; first | contradiction | omega | exact (by assumption : ¬ True) trivial | fail) | skip)) | refine ⟨len_of (hga) rfl, Go.Ab.frcL_of (hga) ?_⟩ | refine getB_same ?_ | refine AWp.anyA ?_ | refine and_a ?_ | fail) <;> (conv => whnf))
  intro b1 hb1
  have k_b1 := hb1
  repeat replace k_b1 := none_of_set k_b1
  conv => whnf
  repeat' ((first | refine ⟨Sub.refl _, ?_⟩ | (refine brA_split (fun h => ?_) (fun h => ?_) <;> (try rw [h]) <;> (try simp only [bN, bS, ↓reduceIte] at h) <;> (first | (exfalso; first | contradiction | omega | exact (by assumption : ¬ True) trivial | fail) | skip)) | refine getB_a ?_ | (refine ACalls.pure' ?_ (htx); rintro _ rfl) | refine DCall.pure ?_ (htx) | refine getB_same ?_ | refine AWp.anyA ?_ | refine and_a ?_ | fail) <;> (conv => whnf))
  all_goals exact ⟨suba, rfl⟩
theorem rtext_nam (hi : i < l.length) (hga : (l.map Tr.exA).getD i [] = Tr.exA (17, a, b, nm, v, ln, cl)) :
    APure Tryz.prog Γ 10 [.slice t (l.map Tr.exA), .int .i64 (i : Int)] fun x => x = .str nm := by
  have hml : (l.map Tr.exA).length = l.length := List.length_map ..
  simp only [Tr.exA, Tr.vlA] at hga
  refine APure.of_awp Tryz.func10 rfl (Nat.le_of_ble_eq_true (by kernel_rfl)) (by kernel_rfl) ?_
  intro s
  conv => whnf
  repeat' ((first | refine ⟨Sub.refl _, ?_⟩ | (refine brA_split (fun h => ?_) (fun h => ?_) <;> (try rw [h]) <;> (try simp only [bN, bS, ↓reduceIte] at h) <;> (first | (exfalso; first | contradiction | omega | exact (by assumption : ¬ True) trivial | fail) | skip)) | refine ⟨len_of (hga) rfl, Go.Ab.frcL_of (hga) ?_⟩ | refine getB_same ?_ | refine AWp.anyA ?_ | refine and_a ?_ | fail) <;> (conv => whnf))
  intro b1 hb1
  have k_b1 := hb1
  repeat replace k_b1 := none_of_set k_b1
  conv => whnf
  repeat' ((first | refine ⟨Sub.refl _, ?_⟩ | (refine brA_split (fun h => ?_) (fun h => ?_) <;> (try rw [h]) <;> (try simp only [bN, bS, ↓reduceIte] at h) <;> (first | (exfalso; first | contradiction | omega | exact (by assumption : ¬ True) trivial | fail) | skip)) | refine getB_a ?_ | refine getB_same ?_ | refine AWp.anyA ?_ | refine and_a ?_ | fail) <;> (conv => whnf))
  all_goals exact ⟨suba, rfl⟩
theorem rtext_not (hi : i < l.length) (hga : (l.map Tr.exA).getD i [] = Tr.exA (4, (j : Int), b, nm, v, ln, cl)) (hA : A.length ≤ 1000000000000)
    (hw : APure Tryz.prog Γ 22 [.slice t (l.map Tr.exA), .int .i64 (j : Int), .int .i64 ((3 : Nat) : Int)] fun v => v = .str A) :
    APure Tryz.prog Γ 10 [.slice t (l.map Tr.exA), .int .i64 (i : Int)] fun x => x = .str ([110, 111, 116, 32] ++ A) := by
  have hml : (l.map Tr.exA).length = l.length := List.length_map ..
  simp only [Tr.exA, Tr.vlA] at hga
  refine APure.of_awp Tryz.func10 rfl (Nat.le_of_ble_eq_true (by kernel_rfl)) (by kernel_rfl) ?_
  intro s
  conv => whnf
  repeat' ((first | refine ⟨Sub.refl _, ?_⟩ | (refine brA_split (fun h => ?_) (fun h => ?_) <;> (try rw [h]) <;> (try simp only [bN, bS, ↓reduceIte] at h) <;> (first | (exfalso; first | contradiction | omega | exact (by assumption : ¬ True) trivial | fail) | skip)) | refine ⟨len_of (hga) rfl, Go.Ab.frcL_of (hga) ?_⟩ | refine getB_same ?_ | refine AWp.anyA ?_ | refine and_a ?_ | fail) <;> (conv => whnf))
  intro b1 hb1
  have k_b1 := hb1
  repeat replace k_b1 := none_of_set k_b1
  conv => whnf
  repeat' ((first | refine ⟨Sub.refl _, ?_⟩ | (refine brA_split (fun h => ?_) (fun h => ?_) <;> (try rw [h]) <;> (try simp only [bN, bS, ↓reduceIte] at h) <;> (first | (exfalso; first | contradiction | omega | exact (by assumption : ¬ True) trivial | fail) | skip)) | refine getB_a ?_ | (refine ACalls.pure' ?_ (hw); rintro _ rfl) | refine DCall.pure ?_ (hw) | refine getB_same ?_ | refine AWp.anyA ?_ | refine and_a ?_ | fail) <;> (conv => whnf))
  all_goals exact ⟨suba, rfl⟩
theorem rtext_neg (hi : i < l.length) (hj : j < l.length) (hga : (l.map Tr.exA).getD i [] = Tr.exA (5, (j : Int), b, nm, v, ln, cl)) {y : Tr.Ex} (hy : l.getD j Tr.noEx = y) (hA : A.length ≤ 1000000000000) (hB : B.length ≤ 1000000000000)
    (hw : APure Tryz.prog Γ 10 [.slice t (l.map Tr.exA), .int .i64 (j : Int)] fun v => v = .str A)
    (hw7 : APure Tryz.prog Γ 22 [.slice t (l.map Tr.exA), .int .i64 (j : Int), .int .i64 ((7 : Nat) : Int)] fun v => v = .str B) :
    APure Tryz.prog Γ 10 [.slice t (l.map Tr.exA), .int .i64 (i : Int)] fun x => x = .str (if (decide (y.1 = 1) && (decide (y.2.2.2.2.1.1 = 1) && decide (0 ≤ y.2.2.2.2.1.2.1))) = true then [45, 40] ++ A ++ [41] else [45] ++ B) := by
  have hml : (l.map Tr.exA).length = l.length := List.length_map ..
  have hgj := Tr.map_get (f := Tr.exA) (l := l) Tr.noEx hj
  rw [hy] at hgj
  obtain ⟨yo, ya, yb, yn, ⟨yk, yi, ys, yt⟩, yl, yc⟩ := y
  simp only [Tr.exA, Tr.vlA] at hga hgj
  simp only
  refine APure.of_awp Tryz.func10 rfl (Nat.le_of_ble_eq_true (by kernel_rfl)) (by kernel_rfl) ?_
  intro s
  conv => whnf
  repeat' ((first | refine ⟨Sub.refl _, ?_⟩ | (refine brA_split (fun h => ?_) (fun h => ?_) <;> (try rw [h]) <;> (try simp only [bN, bS, ↓reduceIte] at h) <;> (first | (exfalso; first | contradiction | omega | exact (by assumption : ¬ True) trivial | fail) | skip)) | refine ⟨len_of (hga) rfl, Go.Ab.frcL_of (hga) ?_⟩ | refine getB_same ?_ | refine AWp.anyA ?_ | refine and_a ?_ | fail) <;> (conv => whnf))
  intro b1 hb1
  have k_b1 := hb1
  repeat replace k_b1 := none_of_set k_b1
  conv => whnf
  repeat' ((first | refine ⟨Sub.refl _, ?_⟩ | (refine brA_split (fun h => ?_) (fun h => ?_) <;> (try rw [h]) <;> (try simp only [bN, bS, ↓reduceIte] at h) <;> (first | (exfalso; first | contradiction | omega | exact (by assumption : ¬ True) trivial | fail) | skip)) | refine getB_a ?_ | refine ⟨len_of (hgj) rfl, Go.Ab.frcL_of (hgj) ?_⟩ | refine getB_same ?_ | refine AWp.anyA ?_ | refine and_a ?_ | fail) <;> (conv => whnf))
  intro b2 hb2
  have k_b2 := hb2
  repeat replace k_b2 := none_of_set k_b2
  have n_b1_b2 : b1 ≠ b2 := by (have k := hb2; repeat (first | exact ne_set k | replace k := none_of_set k))
  have n_b2_b1 := n_b1_b2.symm
  conv => whnf
  repeat' ((first | refine ⟨Sub.refl _, ?_⟩ | (refine brA_split (fun h => ?_) (fun h => ?_) <;> (try rw [h]) <;> (try simp only [bN, bS, ↓reduceIte] at h) <;> (first | (exfalso; first | contradiction | omega | exact (by assumption : ¬ True) trivial | fail) | skip)) | refine getB_a ?_ | (refine ACalls.pure' ?_ (hw); rintro _ rfl) | refine DCall.pure ?_ (hw) | (refine ACalls.pure' ?_ (hw7); rintro _ rfl) | refine DCall.pure ?_ (hw7) | refine getB_same ?_ | refine AWp.anyA ?_ | refine and_a ?_ | fail) <;> (conv => whnf))
  all_goals refine ⟨suba, congrArg AV.str ?_⟩
  all_goals simp [*]
theorem rtext_bin (hi : i < l.length) (hop : 6 ≤ op ∧ op ≤ 16) (hga : (l.map Tr.exA).getD i [] = Tr.exA (op, (j : Int), (k : Int), nm, v, ln, cl)) (hA : A.length ≤ 1000000000000) (hB : B.length ≤ 1000000000000)
    (hw : APure Tryz.prog Γ 22 [.slice t (l.map Tr.exA), .int .i64 (j : Int), .int .i64 ((if lvl op = 4 then 5 else lvl op : Nat) : Int)] fun v => v = .str A)
    (hw2 : APure Tryz.prog Γ 22 [.slice t (l.map Tr.exA), .int .i64 (k : Int), .int .i64 ((lvl op + 1 : Nat) : Int)] fun v => v = .str B) :
    APure Tryz.prog Γ 10 [.slice t (l.map Tr.exA), .int .i64 (i : Int)] fun x => x = .str (A ++ 32 :: (signW op ++ 32 :: B)) := by
  have hml : (l.map Tr.exA).length = l.length := List.length_map ..
  have htk := refSign_ok (Γ := Γ) op hop
  have hlv := refLevel_ok (Γ := Γ) (op, (j : Int), (k : Int), nm, v, ln, cl) (.inr (.inr (by simp only; omega)))
  have hs3 := sign_len3 op
  simp only [Tr.exA, Tr.vlA] at hga hlv
  have fin : A ++ [32] ++ signW op ++ [32] ++ B = A ++ 32 :: (signW op ++ 32 :: B) := by simp
  rw [← fin]
  rcases op_cases hop with rfl | rfl | rfl | rfl | rfl | rfl | rfl | rfl | rfl | rfl | rfl
  all_goals
    refine APure.of_awp Tryz.func10 rfl (Nat.le_of_ble_eq_true (by kernel_rfl)) (by kernel_rfl) ?_
    intro s
    conv => whnf
    repeat' ((first | refine ⟨Sub.refl _, ?_⟩ | (refine brA_split (fun h => ?_) (fun h => ?_) <;> (try rw [h]) <;> (try simp only [bN, bS, ↓reduceIte] at h) <;> (first | (exfalso; first | contradiction | omega | exact (by assumption : ¬ True) trivial | fail) | skip)) | refine ⟨len_of (hga) rfl, Go.Ab.frcL_of (hga) ?_⟩ | refine getB_same ?_ | refine AWp.anyA ?_ | refine and_a ?_ | fail) <;> (conv => whnf))
    intro b1 hb1
    have k_b1 := hb1
    repeat replace k_b1 := none_of_set k_b1
    conv => whnf
    repeat' ((first | refine ⟨Sub.refl _, ?_⟩ | (refine brA_split (fun h => ?_) (fun h => ?_) <;> (try rw [h]) <;> (try simp only [bN, bS, ↓reduceIte] at h) <;> (first | (exfalso; first | contradiction | omega | exact (by assumption : ¬ True) trivial | fail) | skip)) | refine getB_a ?_ | (refine ACalls.pure' ?_ (hlv); rintro _ rfl) | refine DCall.pure ?_ (hlv) | (refine ACalls.pure' ?_ (hw); rintro _ rfl) | refine DCall.pure ?_ (hw) | (refine ACalls.pure' ?_ (hw2); rintro _ rfl) | refine DCall.pure ?_ (hw2) | (refine ACalls.pure' ?_ (htk); rintro _ rfl) | refine DCall.pure ?_ (htk) | refine getB_same ?_ | refine AWp.anyA ?_ | refine and_a ?_ | fail) <;> (conv => whnf))
    all_goals exact ⟨suba, rfl⟩
end
/-- The document's text of a node. -/
theorem rtext_ok (t : Nat) {l : List Tr.Ex} {m : Nat} (hl : Listed l m) : ∀ (k i f : Nat), i < k → i < f → i < l.length → 0 < (ndN l i).1 → APure Tryz.prog Γ 10 [.slice t (l.map Tr.exA), .int .i64 (i : Int)] fun v => v = .str (treeF l f i).txt
  | 0, i, f, h, _, _, _ => by omega
  | k + 1, i, f, hk, hf, hi, hpos => by
    obtain ⟨f, rfl⟩ : ∃ g, f = g + 1 := ⟨f - 1, by omega⟩
    have sub := fun j (hj : j < i) (hp : 0 < (ndN l j).1) => rtext_ok t hl k j f (by omega) (by omega) (by omega) hp
    have kid : ∀ (j n : Nat), j < i → 0 < (ndN l j).1 → APure Tryz.prog Γ 22 [.slice t (l.map Tr.exA), .int .i64 (j : Int), .int .i64 (n : Int)] fun v => v = .str (wrapX n (treeF l f j)).txt := fun j n hj hp => by
      have hF := hl.fine (f := f) (by omega) (by omega) hp
      have hS := hl.short (f := f) (by omega) (by omega) hp
      exact refWithin_ok (by omega) hF.op hF.lev.symm (by omega) (sub j hj hp)
    have hga := Tr.map_get (f := Tr.exA) (l := l) Tr.noEx hi
    rcases kinds hi hpos with ⟨v, ln, cl, hx, hv, _⟩ | ⟨s, ln, cl, hx, hs, _⟩ | ⟨op, ln, cl, hop, hx, h1, hp, _⟩ | ⟨op, j, ln, cl, hop, hx, hj, hp, hq, _, _⟩
    · rw [hx] at hga
      have hmem := hl.val _ (hx ▸ Tr.getD_mem Tr.noEx hi)
      have hhi := hl.hi
      rw [tree_con hx, show (Xt.con v).txt = Va.textOf v from (rightV_ok' hv hmem.1).2.2]
      exact rtext_con hi hga hmem.1 (Nat.le_trans hmem.2 (by omega)) hv
    · rw [hx] at hga
      rw [tree_nam hx]
      exact rtext_nam hi hga
    · rw [hx] at hga
      rcases hop with rfl | rfl
      · rw [tree_not hx]
        exact rtext_not hi hga (hl.wrap (f := f) (by omega) (by omega) hp) (kid (i - 1) 3 (by omega) hp)
      · rw [tree_neg hx]
        have hF := hl.fine (f := f) (i := i - 1) (by omega) (by omega) hp
        have hS := hl.short (f := f) (i := i - 1) (by omega) (by omega) hp
        have := rtext_neg (Γ := Γ) (t := t) hi (j := i - 1) (by omega) hga rfl (by omega) (hl.wrap (f := f) (by omega) (by omega) hp) (sub (i - 1) (by omega) hp) (kid (i - 1) 7 (by omega) hp)
        rw [← hF.bare] at this
        have e : (if (treeF l f (i - 1)).bare = true then [45, 40] ++ (treeF l f (i - 1)).txt ++ [41] else [45] ++ (wrapX 7 (treeF l f (i - 1))).txt) = (Xt.una 5 (if (treeF l f (i - 1)).bare = true then .par (treeF l f (i - 1)) else wrapX 7 (treeF l f (i - 1)))).txt := by
          show _ = [45] ++ (if (treeF l f (i - 1)).bare = true then Xt.par (treeF l f (i - 1)) else wrapX 7 (treeF l f (i - 1))).txt
          split <;> rfl
        rwa [e] at this
    · rw [hx] at hga
      rw [tree_bin hop hx]
      exact rtext_bin hi hop hga (hl.wrap (f := f) (by omega) (by omega) hq) (hl.wrap (f := f) (by omega) (by omega) hp) (kid j _ (by omega) hq) (kid (i - 1) _ (by omega) hp)
/-- How deep an expression is. -/
def dpI (l : List Tr.Ex) (at_ : Int) : Int := if 0 ≤ at_ ∧ at_ < l.length then (ndN l at_.toNat).2 else 0
theorem depth_ok (hW : Sc.Wds Γ) (t : Nat) (l : List Tr.Ex) (hl : l.length ≤ 1000000) (at_ : Int) : APure Tryz.prog Γ 13 [.slice t (l.map Tr.exA), .int .i64 at_] fun v => v = .int .i64 (dpI l at_) := by
  have hml : (l.map Tr.exA).length = l.length := List.length_map ..
  have hsz := Tr.sized_ok (Γ := Γ) Sc.isName t l hl (fun x _ => Sc.progName_any hW x.2.2.2.1)
  clear hW
  by_cases h : 0 ≤ at_ ∧ at_ < l.length
  · have e : dpI l at_ = (ndN l at_.toNat).2 := if_pos h
    have hcol := Tr.col_get (f := Prod.snd) rfl (r := Tr.tab Sc.isName l l.length) (n := l.length) (j := at_.toNat) (m := 0 + at_.toNat * 1) (by omega) (by rw [Tr.tab_len]; omega) (by omega)
    rw [e]
    refine APure.of_awp Tryz.func13 rfl (Nat.le_of_ble_eq_true (by kernel_rfl)) (by kernel_rfl) ?_
    intro s
    conv => whnf
    repeat' ((first | refine ⟨Sub.refl _, ?_⟩ | (refine brA_split (fun h => ?_) (fun h => ?_) <;> (try rw [h]) <;> (try simp only [bN, bS, ↓reduceIte] at h) <;> (first | (exfalso; first | contradiction | omega | exact (by assumption : ¬ True) trivial | fail) | skip)) | refine getB_same ?_ | refine AWp.anyA ?_ | refine and_a ?_ | fail) <;> (conv => whnf))
    refine ACalls.by (hsz _) ?_
    rintro v s' ⟨b1, b2, rfl, hz⟩
    conv => whnf
    repeat' ((first | refine ⟨Sub.refl _, ?_⟩ | (refine brA_split (fun h => ?_) (fun h => ?_) <;> (try rw [h]) <;> (try simp only [bN, bS, ↓reduceIte] at h) <;> (first | (exfalso; first | contradiction | omega | exact (by assumption : ¬ True) trivial | fail) | skip)) | (refine getB_of hz.depth (Tr.aload_eq hcol ?_)) | refine getB_same ?_ | refine AWp.anyA ?_ | refine and_a ?_ | fail) <;> (conv => whnf))
    all_goals exact ⟨hz.sub, rfl⟩
  · have e : dpI l at_ = 0 := if_neg h
    rw [e]
    clear hsz
    refine APure.of_awp Tryz.func13 rfl (Nat.le_of_ble_eq_true (by kernel_rfl)) (by kernel_rfl) ?_
    intro s
    conv => whnf
    repeat' ((first | refine ⟨Sub.refl _, ?_⟩ | (refine brA_split (fun h => ?_) (fun h => ?_) <;> (try rw [h]) <;> (try simp only [bN, bS, ↓reduceIte] at h) <;> (first | (exfalso; first | contradiction | omega | exact (by assumption : ¬ True) trivial | fail) | skip)) | refine getB_same ?_ | refine AWp.anyA ?_ | refine and_a ?_ | fail) <;> (conv => whnf))
    all_goals rfl
/-- The text that Expr tells. -/
def exprS (l : List Tr.Ex) (at_ : Int) : List UInt8 := if dpI l at_ = 0 ∨ 64 < dpI l at_ then [] else (treeF l (at_.toNat + 1) at_.toNat).txt
theorem dp_pos {l : List Tr.Ex} {at_ : Int} (h : dpI l at_ ≠ 0) : 0 ≤ at_ ∧ at_.toNat < l.length ∧ 0 < (ndN l at_.toNat).1 := by
  unfold dpI at h
  split at h
  · rename_i hh
    refine ⟨hh.1, by omega, ?_⟩
    have hb := ndN_bound (l := l) (i := at_.toNat) (by omega)
    have hz := fun h0 => nd_zero (l := l) (i := at_.toNat) (by omega) h0
    omega
  · exact absurd rfl h
theorem expr_ok (hK : Toks Γ) (hT : Qu.Tabs Γ) (hN : Nu.Tens Γ) (hW : Sc.Wds Γ) (t : Nat) {l : List Tr.Ex} {m : Nat} (hl : Listed l m) (at_ : Int) : APure Tryz.prog Γ 7 [.slice t (l.map Tr.exA), .int .i64 at_] fun v => v = .str (exprS l at_) := by
  have hd := depth_ok hW t l hl.len at_
  by_cases h : dpI l at_ = 0 ∨ 64 < dpI l at_
  · rw [show exprS l at_ = [] from if_pos h]
    refine APure.of_awp Tryz.func7 rfl (Nat.le_of_ble_eq_true (by kernel_rfl)) (by kernel_rfl) ?_
    intro s
    conv => whnf
    repeat' ((first | refine ⟨Sub.refl _, ?_⟩ | (refine brA_split (fun h => ?_) (fun h => ?_) <;> (try rw [h]) <;> (try simp only [bN, bS, ↓reduceIte] at h) <;> (first | (exfalso; first | contradiction | omega | exact (by assumption : ¬ True) trivial | fail) | skip)) | (refine ACalls.pure' ?_ (hd); rintro _ rfl) | refine DCall.pure ?_ (hd) | refine getB_same ?_ | refine AWp.anyA ?_ | refine and_a ?_ | fail) <;> (conv => whnf))
    all_goals rfl
  · obtain ⟨h1, h2, h3⟩ := dp_pos (fun e => h (.inl e))
    have htx := text_ok hK hT hN t hl (at_.toNat + 1) at_.toNat (at_.toNat + 1) (by omega) (by omega) h2 h3
    rw [show ((at_.toNat : Nat) : Int) = at_ by omega] at htx
    rw [show exprS l at_ = (treeF l (at_.toNat + 1) at_.toNat).txt from if_neg h]
    clear hK hT hN hW
    refine APure.of_awp Tryz.func7 rfl (Nat.le_of_ble_eq_true (by kernel_rfl)) (by kernel_rfl) ?_
    intro s
    conv => whnf
    repeat' ((first | refine ⟨Sub.refl _, ?_⟩ | (refine brA_split (fun h => ?_) (fun h => ?_) <;> (try rw [h]) <;> (try simp only [bN, bS, ↓reduceIte] at h) <;> (first | (exfalso; first | contradiction | omega | exact (by assumption : ¬ True) trivial | fail) | skip)) | (refine ACalls.pure' ?_ (hd); rintro _ rfl) | refine DCall.pure ?_ (hd) | (refine ACalls.pure' ?_ (htx); rintro _ rfl) | refine DCall.pure ?_ (htx) | refine getB_same ?_ | refine AWp.anyA ?_ | refine and_a ?_ | fail) <;> (conv => whnf))
    all_goals rfl
end Go.Proofs.YtdhgappjicpglaaGreatDoor.Pr
namespace Go.Proofs.YtdhgappjicpglaaGreatDoor.Pr
open Go Go.Ab Go.RowKit Go.Proofs.YtdhgappjicpglaaGreatDoor.Lx Go.Proofs.YtdhgappjicpglaaGreatDoor.Pa
variable {Γ : Nat → AV}
attribute [local irreducible] APure Sto.set Sto.grow
set_option maxRecDepth 10000
set_option maxHeartbeats 4000000
theorem size_ok (t : Nat) (l : List Tr.Ex) (hl : l.length ≤ 1000000) (at_ : Int) : APure Tryz.prog Γ 8 [.slice t (l.map Tr.exA), .int .i64 at_] fun v => v = .int .i64 (Tr.szI Sc.isName l at_) := by
  by_cases h : 0 ≤ at_ ∧ at_ < l.length
  · have := Tr.refSize_ok t l hl (at_.toNat + 1) at_.toNat (by omega) (by omega) Γ
    rw [show ((at_.toNat : Nat) : Int) = at_ by omega] at this
    rw [show Tr.szI Sc.isName l at_ = (Tr.nd Sc.isName l at_.toNat).1 from if_pos h]
    exact this
  · rw [show Tr.szI Sc.isName l at_ = 0 from if_neg h]
    exact Tr.refSize_out t l (by omega)
/-- The chapter's example. -/
def exS : List UInt8 := [40, 97, 43, 50, 41, 32, 42, 32, 45, 40, 51, 41]
def exO : List Ex := [{ ex0 with op := 17, name := [97], ln := 1, cl := 2 }, { ex0 with op := 1, vk := 1, vi := 2, ln := 1, cl := 4 }, { ex0 with op := 8, a := 0, b := 1, ln := 1, cl := 3 }, { ex0 with op := 1, vk := 1, vi := 3, ln := 1, cl := 11 }, { ex0 with op := 5, a := 3, ln := 1, cl := 9 }, { ex0 with op := 10, a := 2, b := 4, ln := 1, cl := 7 }]
def exT : List Tr.Ex := [(17, 0, 0, [97], Tr.noVl, 1, 2), (1, 0, 0, [], (1, 2, [], false), 1, 4), (8, 0, 1, [], Tr.noVl, 1, 3), (1, 0, 0, [], (1, 3, [], false), 1, 11), (5, 3, 0, [], Tr.noVl, 1, 9), (10, 2, 4, [], Tr.noVl, 1, 7)]
theorem ex_read : runR exS exprR = .ok exO := by kernel_rfl
theorem ex_same : exsA exO = exT.map Tr.exA := by rfl
theorem ex_listed : Listed exT 40 := ⟨by decide, by decide, by decide, fun x hx => by
  simp only [exT, List.mem_cons, List.not_mem_nil, or_false] at hx
  rcases hx with rfl | rfl | rfl | rfl | rfl | rfl <;> exact ⟨⟨by decide, by decide⟩, by decide⟩⟩
theorem ex_deep : dpI exT 5 = 3 := by kernel_rfl
theorem ex_tree : treeF exT 6 5 = .bin 10 (.par (.bin 8 (.nam [97]) (.con (1, 2, [], false)))) (.una 5 (.par (.con (1, 3, [], false)))) := by kernel_rfl
theorem itoa_dig (u : Nat) (h : u < 10) : Lib.itoa (u : Int) = [UInt8.ofNat (48 + u)] := by rw [Lib.itoa_nonneg, Nu.dec_one h]
theorem ex_text : exprS exT 5 = [40, 97, 32, 43, 32, 50, 41, 32, 42, 32, 45, 40, 51, 41] := by
  unfold exprS
  rw [ex_deep, if_neg (by decide), show (5 : Int).toNat + 1 = 6 from rfl, show (5 : Int).toNat = 5 from rfl, ex_tree]
  show (40 :: (([97] ++ 32 :: ([43] ++ 32 :: Lib.itoa ((2 : Nat) : Int))) ++ [41])) ++ 32 :: ([42] ++ 32 :: ([45] ++ 40 :: (Lib.itoa ((3 : Nat) : Int) ++ [41]))) = _
  rw [itoa_dig 2 (by decide), itoa_dig 3 (by decide)]
  rfl
theorem awake_ok (hK : Toks Γ) (hT : Qu.Tabs Γ) (hN : Nu.Tens Γ) (hW : Sc.Wds Γ) (hO : AsO.ErrT Γ) (hE : AsP.ErrT Γ) (hR : Nu.ErrR Γ) : APure Tryz.prog Γ 6 [] fun v => v = .bool true := by
  have h1 := expr_top hT hW hO hE hR exS (by decide) (fun L hL => allT_text hL)
  rw [ex_read] at h1
  simp only [exprA, ex_same] at h1
  have h2 := expr_ok hK hT hN hW 0 ex_listed 5
  rw [ex_text] at h2
  clear hK hT hN hW hO hE hR
  refine APure.of_awp Tryz.func6 rfl (Nat.le_of_ble_eq_true (by kernel_rfl)) (by kernel_rfl) ?_
  intro s
  conv => whnf
  repeat' ((first | refine ⟨Sub.refl _, ?_⟩ | (refine brA_split (fun h => ?_) (fun h => ?_) <;> (try rw [h]) <;> (try simp only [bN, bS, ↓reduceIte] at h) <;> (first | (exfalso; first | contradiction | omega | exact (by assumption : ¬ True) trivial | fail) | skip)) | (refine ACalls.pure' ?_ (h1); rintro _ rfl) | refine DCall.pure ?_ (h1) | refine getB_same ?_ | refine AWp.anyA ?_ | refine and_a ?_ | fail) <;> (conv => whnf))
  intro b2 hb2
  have k_b2 := hb2
  repeat replace k_b2 := none_of_set k_b2
  conv => whnf
  repeat' ((first | refine ⟨Sub.refl _, ?_⟩ | (refine brA_split (fun h => ?_) (fun h => ?_) <;> (try rw [h]) <;> (try simp only [bN, bS, ↓reduceIte] at h) <;> (first | (exfalso; first | contradiction | omega | exact (by assumption : ¬ True) trivial | fail) | skip)) | refine getB_a ?_ | (refine EqAgg.of grdFail planFail ?_) | (refine ACalls.pure' ?_ (h2); rintro _ rfl) | refine DCall.pure ?_ (h2) | (refine ACalls.pure' ?_ (level_ok _); rintro _ rfl) | refine DCall.pure ?_ (level_ok _) | refine getB_same ?_ | refine AWp.anyA ?_ | refine and_a ?_ | fail) <;> (conv => whnf))
  all_goals exact ⟨suba, by kernel_rfl⟩
theorem levels_law (hK : Toks Γ) (hT : Qu.Tabs Γ) (hN : Nu.Tens Γ) (hW : Sc.Wds Γ) (hO : AsO.ErrT Γ) (hE : AsP.ErrT Γ) (hR : Nu.ErrR Γ) (op : Int) : APure Tryz.prog Γ 4 [.int .i64 op] fun v => v = .bool true := by
  have haw := awake_ok hK hT hN hW hO hE hR
  clear hK hT hN hW hO hE hR
  by_cases h : 1 ≤ op ∧ op ≤ 17
  · rcases op17 h with rfl | rfl | rfl | rfl | rfl | rfl | rfl | rfl | rfl | rfl | rfl | rfl | rfl | rfl | rfl | rfl | rfl
    all_goals
      refine APure.of_awp Tryz.func4 rfl (Nat.le_of_ble_eq_true (by kernel_rfl)) (by kernel_rfl) ?_
      intro s
      conv => whnf
      repeat' ((first | refine ⟨Sub.refl _, ?_⟩ | (refine brA_split (fun h => ?_) (fun h => ?_) <;> (try rw [h]) <;> (try simp only [bN, bS, ↓reduceIte] at h) <;> (first | (exfalso; first | contradiction | omega | exact (by assumption : ¬ True) trivial | fail) | skip)) | (refine ACalls.pure' ?_ (level_ok _); rintro _ rfl) | refine DCall.pure ?_ (level_ok _) | (refine ACalls.pure' ?_ (haw); rintro _ rfl) | refine DCall.pure ?_ (haw) | refine getB_same ?_ | refine AWp.anyA ?_ | refine and_a ?_ | fail) <;> (conv => whnf))
      all_goals rfl
  · have e : levP op = 0 := by unfold levP; rw [if_neg (by omega), if_neg (by omega)]
    have hlv := level_ok (Γ := Γ) op
    rw [e] at hlv
    by_cases h0 : op = 0
    · subst h0
      refine APure.of_awp Tryz.func4 rfl (Nat.le_of_ble_eq_true (by kernel_rfl)) (by kernel_rfl) ?_
      intro s
      conv => whnf
      repeat' ((first | refine ⟨Sub.refl _, ?_⟩ | (refine brA_split (fun h => ?_) (fun h => ?_) <;> (try rw [h]) <;> (try simp only [bN, bS, ↓reduceIte] at h) <;> (first | (exfalso; first | contradiction | omega | exact (by assumption : ¬ True) trivial | fail) | skip)) | (refine ACalls.pure' ?_ (hlv); rintro _ rfl) | refine DCall.pure ?_ (hlv) | (refine ACalls.pure' ?_ (haw); rintro _ rfl) | refine DCall.pure ?_ (haw) | refine getB_same ?_ | refine AWp.anyA ?_ | refine and_a ?_ | fail) <;> (conv => whnf))
      all_goals rfl
    · refine APure.of_awp Tryz.func4 rfl (Nat.le_of_ble_eq_true (by kernel_rfl)) (by kernel_rfl) ?_
      intro s
      conv => whnf
      repeat' ((first | refine ⟨Sub.refl _, ?_⟩ | (refine brA_split (fun h => ?_) (fun h => ?_) <;> (try rw [h]) <;> (try simp only [bN, bS, ↓reduceIte] at h) <;> (first | (exfalso; first | contradiction | omega | exact (by assumption : ¬ True) trivial | fail) | skip)) | (refine ACalls.pure' ?_ (hlv); rintro _ rfl) | refine DCall.pure ?_ (hlv) | (refine ACalls.pure' ?_ (haw); rintro _ rfl) | refine DCall.pure ?_ (haw) | refine getB_same ?_ | refine AWp.anyA ?_ | refine and_a ?_ | fail) <;> (conv => whnf))
      all_goals first | rfl | (exfalso; have h9 : op < 18 := h; omega) | fail
theorem exs_at {o : List Ex} {i : Nat} (h : i < o.length) : (exsA o).getD i [] = exA (exAt o i) := by simp [exsA, exAt, List.getD, h]
/-- The tree that holds a list of nodes alone. -/
def few0 (l : List Tr.Ex) : Tr.Tr0 := (Tr.noIdn, [], [], [], [], Tr.noIdn, [], [((1, 0, 1), Tr.noIdn, Tr.noIdn, ([], [], 0, 0), l, 0, [])])
theorem few0_of {l : List Tr.Ex} (h : Tr.fewB (few0 l) = true) : l.length ≤ 40 ∧ ∀ x ∈ l, x.2.2.2.2.1.2.2.1.length ≤ 100 := by
  unfold Tr.fewB few0 at h
  simp only [Bool.and_eq_true, List.all_cons, Tr.tnB] at h
  obtain ⟨_, _, _, _, ⟨_, h1, _, h2⟩, _⟩ := h
  have h1 := of_decide_eq_true h1
  refine ⟨by omega, fun x hx => ?_⟩
  have := of_decide_eq_true (List.all_eq_true.1 h2 x hx)
  omega
/-- A node's operator, name and value. -/
def pc (c : Xt.Core) : Int × List UInt8 × (Int × Int × List UInt8 × Bool) := (c.1, c.2.2.2.1, c.2.2.2.2)
theorem cores_base : ∀ (x : Xt) (n m : Nat), (x.cores n).map pc = (x.cores m).map pc
  | .con _, _, _ => rfl
  | .nam _, _, _ => rfl
  | .una op x, n, m => by
    show (x.cores n ++ [_]).map pc = (x.cores m ++ [_]).map pc
    rw [List.map_append, List.map_append, cores_base x n m]; rfl
  | .bin op x y, n, m => by
    show (x.cores n ++ (y.cores _ ++ [_])).map pc = (x.cores m ++ (y.cores _ ++ [_])).map pc
    rw [List.map_append, List.map_append, List.map_append, List.map_append, cores_base x n m, cores_base y (n + x.cnt) (m + x.cnt)]; rfl
  | .par x, n, m => cores_base x n m
theorem core_eq {o : List Ex} {l : List Tr.Ex} {s n i : Nat} (h : (o.map coreOf).map pc = (((l.drop s).take n).map coreT).map pc) (hi : i < n) (hs : s + n ≤ l.length) : pc (coreOf (exAt o i)) = pc (coreT (l.getD (s + i) Tr.noEx)) := by
  have hlen : o.length = n := by
    have := congrArg List.length h
    simp only [List.length_map, List.length_take, List.length_drop] at this
    omega
  have := congrArg (fun m => m[i]?) h
  simp only [List.getElem?_map, List.getElem?_take, if_pos hi, List.getElem?_drop] at this
  rw [List.getElem?_eq_getElem (show i < o.length by omega), List.getElem?_eq_getElem (show s + i < l.length by omega)] at this
  simp only [Option.map_some, Option.some.injEq] at this
  unfold exAt
  rw [List.getD_eq_getElem?_getD, List.getElem?_eq_getElem (show i < o.length by omega), List.getD_eq_getElem?_getD, List.getElem?_eq_getElem (show s + i < l.length by omega)]
  exact this
theorem expr_law (hK : Toks Γ) (hT : Qu.Tabs Γ) (hN : Nu.Tens Γ) (hW : Sc.Wds Γ) (hO : AsO.ErrT Γ) (hE : AsP.ErrT Γ) (hR : Nu.ErrR Γ) (l : List Tr.Ex) (hv : ∀ x ∈ l, Nu.Fits x.2.2.2.2.1.2.1) (at_ : Int) : APure Tryz.prog Γ 3 [.slice 0 (l.map Tr.exA), .int .i64 at_] fun v => v = .bool true := by
  have haw := awake_ok hK hT hN hW hO hE hR
  have hfw := Tr.fewRef_ok (Γ := Γ) (fun _ => 1) (few0 l)
  cases hb : Tr.fewB (few0 l)
  · rw [hb] at hfw
    clear hK hT hN hW hO hE hR
    refine APure.of_awp Tryz.func3 rfl (Nat.le_of_ble_eq_true (by kernel_rfl)) (by kernel_rfl) ?_
    intro s
    conv => whnf
    repeat' ((first | refine ⟨Sub.refl _, ?_⟩ | (refine brA_split (fun h => ?_) (fun h => ?_) <;> (try rw [h]) <;> (try simp only [bN, bS, ↓reduceIte] at h) <;> (first | (exfalso; first | contradiction | omega | exact (by assumption : ¬ True) trivial | fail) | skip)) | (refine ACalls.pure' ?_ (hfw); rintro _ rfl) | refine DCall.pure ?_ (hfw) | (refine ACalls.pure' ?_ (haw); rintro _ rfl) | refine DCall.pure ?_ (haw) | refine getB_same ?_ | refine AWp.anyA ?_ | refine and_a ?_ | fail) <;> (conv => whnf))
    all_goals rfl
  rw [hb] at hfw
  obtain ⟨f1, f2⟩ := few0_of hb
  have hl : Listed l 100 := ⟨by decide, by decide, by omega, fun x hx => ⟨hv x hx, f2 x hx⟩⟩
  have hsz := size_ok (Γ := Γ) 0 l hl.len at_
  have hex := expr_ok hK hT hN hW 0 hl at_
  by_cases hd : dpI l at_ = 0
  · have h0 : Tr.szI Sc.isName l at_ = 0 := by
      unfold Tr.szI
      split
      · rename_i h
        unfold dpI at hd
        rw [if_pos h] at hd
        have hb := ndN_bound (l := l) (i := at_.toNat) (by omega)
        rcases Int.lt_or_le 0 (ndN l at_.toNat).1 with hp | hp
        · have hF := hl.fine (f := at_.toNat + 1) (i := at_.toNat) (by omega) (by omega) hp
          have := hF.dep
          have := Xt.dep_pos (treeF l (at_.toNat + 1) at_.toNat)
          omega
        · have h9 : (Tr.nd Sc.isName l at_.toNat).1 = (ndN l at_.toNat).1 := rfl
          omega
      · rfl
    rw [h0] at hsz
    rw [show exprS l at_ = [] from if_pos (.inl hd)] at hex
    clear hK hT hN hW hO hE hR
    refine APure.of_awp Tryz.func3 rfl (Nat.le_of_ble_eq_true (by kernel_rfl)) (by kernel_rfl) ?_
    intro s
    conv => whnf
    repeat' ((first | refine ⟨Sub.refl _, ?_⟩ | (refine brA_split (fun h => ?_) (fun h => ?_) <;> (try rw [h]) <;> (try simp only [bN, bS, ↓reduceIte] at h) <;> (first | (exfalso; first | contradiction | omega | exact (by assumption : ¬ True) trivial | fail) | skip)) | (refine ACalls.pure' ?_ (hfw); rintro _ rfl) | refine DCall.pure ?_ (hfw) | (refine ACalls.pure' ?_ (hsz); rintro _ rfl) | refine DCall.pure ?_ (hsz) | (refine ACalls.pure' ?_ (hex); rintro _ rfl) | refine DCall.pure ?_ (hex) | (refine ACalls.pure' ?_ (haw); rintro _ rfl) | refine DCall.pure ?_ (haw) | refine getB_same ?_ | refine AWp.anyA ?_ | refine and_a ?_ | fail) <;> (conv => whnf))
    all_goals rfl
  obtain ⟨g1, g2, g3⟩ := dp_pos hd
  have hF := hl.fine (f := at_.toNat + 1) (i := at_.toNat) (by omega) g2 g3
  have hnb := ndN_bound g2
  have hrt := rtext_ok (Γ := Γ) 0 hl (at_.toNat + 1) at_.toNat (at_.toNat + 1) (by omega) (by omega) g2 g3
  rw [show ((at_.toNat : Nat) : Int) = at_ by omega] at hrt
  have hdp : dpI l at_ = (ndN l at_.toNat).2 := if_pos ⟨g1, by omega⟩
  have hszv : Tr.szI Sc.isName l at_ = (ndN l at_.toNat).1 := if_pos ⟨g1, by omega⟩
  rw [show exprS l at_ = (treeF l (at_.toNat + 1) at_.toNat).txt from if_neg (by rw [hdp]; omega)] at hex
  obtain ⟨n, hn⟩ : ∃ n : Nat, (ndN l at_.toNat).1 = n := ⟨(ndN l at_.toNat).1.toNat, by omega⟩
  have hlen := hF.len
  rw [hn] at hlen hszv
  have hlen : (treeF l (at_.toNat + 1) at_.toNat).txt.length ≤ 65536 := by
    have : (n : Int).toNat * (4 * 100 + 40) ≤ 41 * 440 := Nat.mul_le_mul (by omega) (by omega)
    omega
  have hd64 : (treeF l (at_.toNat + 1) at_.toNat).dep ≤ 64 := by have := hF.dep; omega
  obtain ⟨o, hro, hco⟩ := read_txt hF.ok hF.lexed hd64 (by have := hF.opn; omega) hlen
  have hcb := cores_base (treeF l (at_.toNat + 1) at_.toNat) 0 (at_.toNat + 1 - (ndN l at_.toNat).1.toNat)
  rw [← hco, hF.cores, hn] at hcb
  have h1 := expr_top hT hW hO hE hR _ hlen (fun L hL => allT_text hL)
  rw [hro] at h1
  simp only [exprA] at h1
  rw [hszv] at hsz
  generalize (treeF l (at_.toNat + 1) at_.toNat).txt = S at *
  have hbn : 1 ≤ n ∧ n ≤ at_.toNat + 1 := by omega
  have hol : o.length = n := by
    have := congrArg List.length hcb
    simp only [List.length_map, List.length_take, List.length_drop] at this
    omega
  have hxl := exsA_len o
  have hml : (l.map Tr.exA).length = l.length := List.length_map ..
  have hcore := fun i (hi : i < n) => core_eq (o := o) (l := l) (s := at_.toNat + 1 - n) (n := n) (i := i) hcb hi (by omega)
  clear hK hT hN hW hO hE hR hF hco hro hd64 hlen
  obtain ⟨u, hu⟩ : ∃ u : Nat, at_ = (u : Int) := ⟨at_.toNat, by omega⟩
  subst hu
  simp only [Int.toNat_natCast] at *
  refine APure.of_awp Tryz.func3 rfl (Nat.le_of_ble_eq_true (by kernel_rfl)) (by kernel_rfl) ?_
  intro s
  conv => whnf
  repeat' ((first | refine ⟨Sub.refl _, ?_⟩ | (refine brA_split (fun h => ?_) (fun h => ?_) <;> (try rw [h]) <;> (try simp only [bN, bS, ↓reduceIte] at h) <;> (first | (exfalso; first | contradiction | omega | exact (by assumption : ¬ True) trivial | fail) | skip)) | (refine ACalls.pure' ?_ (hfw); rintro _ rfl) | refine DCall.pure ?_ (hfw) | (refine ACalls.pure' ?_ (hsz); rintro _ rfl) | refine DCall.pure ?_ (hsz) | (refine ACalls.pure' ?_ (hex); rintro _ rfl) | refine DCall.pure ?_ (hex) | (refine ACalls.pure' ?_ (h1); rintro _ rfl) | refine DCall.pure ?_ (h1) | refine getB_same ?_ | refine AWp.anyA ?_ | refine and_a ?_ | fail) <;> (conv => whnf))
  intro b1 hb1
  have k_b1 := hb1
  repeat replace k_b1 := none_of_set k_b1
  conv => whnf
  repeat' ((first | refine ⟨Sub.refl _, ?_⟩ | (refine brA_split (fun h => ?_) (fun h => ?_) <;> (try rw [h]) <;> (try simp only [bN, bS, ↓reduceIte] at h) <;> (first | (exfalso; first | contradiction | omega | exact (by assumption : ¬ True) trivial | fail) | skip)) | refine getB_a ?_ | (refine ACalls.pure' ?_ (hrt); rintro _ rfl) | refine DCall.pure ?_ (hrt) | (refine EqAgg.of grdFail planFail ?_) | refine getB_same ?_ | refine AWp.anyA ?_ | refine and_a ?_ | fail) <;> (conv => whnf))
  all_goals first | (exfalso; revert h; simp; omega) | skip
  refine AWp.loopA [9] [52, 53, 54, 57, 58, 59, 60, 61, 62, 63, 64, 65, 10, 66, 67, 68, 69, 70, 71, 72, 73, 74, 75, 76, 77, 78, 79, 80, 81, 82, 83, 84, 85, 86, 87, 88, 89, 90, 91, 92, 93, 4, 55, 56] (fun i : Nat => [.int .i64 (i : Int)]) (fun i s' => i ≤ n ∧ Sub s s') (fun i => n - i) (0) (by kernel_rfl) (eqa) ?_ ?_
  · exact ⟨Nat.zero_le _, suba⟩
  · rintro q i s' ⟨hi, hs'⟩
    show awp _ _ _ _ _ (updL _ _ [.int .i64 (i : Int)]) _
    conv => whnf
    by_cases hil : i < n
    · have hc := hcore i hil
      have hxa := exs_at (o := o) (i := i) (by omega)
      have hgy := Tr.map_get (f := Tr.exA) (l := l) Tr.noEx (show u + 1 - n + i < l.length by omega)
      generalize exAt o i = e at hc hxa
      generalize l.getD (u + 1 - n + i) Tr.noEx = y at hc hgy
      obtain ⟨e1, e2, e3, e4, e5, e6, e7, e8, e9, e10⟩ := e
      obtain ⟨y1, y2, y3, y4, ⟨y5, y6, y7, y8⟩, y9, y10⟩ := y
      simp only [pc, coreOf, coreT, Prod.mk.injEq] at hc
      obtain ⟨rfl, rfl, rfl, rfl, rfl, rfl⟩ := hc
      simp only [exA, Tr.exA] at hxa hgy
      have hw : IntKind.i64.wrap (IntKind.i64.wrap (IntKind.i64.wrap ((u : Int) - (n : Int)) + 1) + (i : Int)) = ((u + 1 - n + i : Nat) : Int) := by
        rw [i64_of (a := (u : Int) - (n : Int)) (b := (u : Int) - (n : Int)) rfl (by omega) (by omega), i64_of (a := (u : Int) - (n : Int) + 1) (b := (u : Int) - (n : Int) + 1) rfl (by omega) (by omega)]
        exact i64_of (by omega) (by omega) (by omega)
      have hlx : i < (exsA o).length := by omega
      repeat' ((first | refine ⟨Sub.refl _, ?_⟩ | (refine brA_split (fun h => ?_) (fun h => ?_) <;> (try rw [h]) <;> (try simp only [bN, bS, ↓reduceIte] at h) <;> (first | (exfalso; first | contradiction | omega | exact (by assumption : ¬ True) trivial | fail) | skip)) | (rw [hw]) | refine ⟨len_of (hgy) rfl, Go.Ab.frcL_of (hgy) ?_⟩ | refine getB_same ?_ | refine AWp.anyA ?_ | refine and_a ?_ | fail) <;> (conv => whnf))
      intro b2 hb2
      have k2 := hs'.none hb2
      conv => whnf
      repeat' ((first | refine ⟨Sub.refl _, ?_⟩ | (refine brA_split (fun h => ?_) (fun h => ?_) <;> (try rw [h]) <;> (try simp only [bN, bS, ↓reduceIte] at h) <;> (first | (exfalso; first | contradiction | omega | exact (by assumption : ¬ True) trivial | fail) | skip)) | refine getB_a ?_ | refine ⟨len_of (hxa) rfl, Go.Ab.frcL_of (hxa) ?_⟩ | (refine EqAgg.of Tr.grdVl Tr.planVl ?_) | refine getB_same ?_ | refine AWp.anyA ?_ | refine and_a ?_ | fail) <;> (conv => whnf))
      all_goals first | (exfalso; revert h; simp; done) | exact ⟨i + 1, eqa, samea, ⟨by omega, suba⟩, by omega⟩
    · repeat' ((first | refine ⟨Sub.refl _, ?_⟩ | (refine brA_split (fun h => ?_) (fun h => ?_) <;> (try rw [h]) <;> (try simp only [bN, bS, ↓reduceIte] at h) <;> (first | (exfalso; first | contradiction | omega | exact (by assumption : ¬ True) trivial | fail) | skip)) | (refine ACalls.pure' ?_ (haw); rintro _ rfl) | refine DCall.pure ?_ (haw) | refine getB_same ?_ | refine AWp.anyA ?_ | refine and_a ?_ | fail) <;> (conv => whnf))
      all_goals first | exact ⟨hs', rfl⟩ | rfl | fail
end Go.Proofs.YtdhgappjicpglaaGreatDoor.Pr
namespace Go.Proofs.YtdhgappjicpglaaGreatDoor.Tr
open Go Go.Ab Go.RowKit
variable {bulk : ∀ H : Type, DataW H → Nat}
theorem opens_vl : Opens Tryz.prog bulk 49 vlA (fun _ _ => True) :=
  (opens_struct (bulk := bulk) Tryz.underlying49 (by kernel_rfl)
    (OpensF.cons (bulk := bulk) (k := 1) rfl (by kernel_rfl) (opens_int (bulk := bulk) Tryz.underlying3) (OpensF.cons (bulk := bulk) (k := 1) rfl (by kernel_rfl) (opens_int (bulk := bulk) Tryz.underlying2) (OpensF.cons (bulk := bulk) (k := 1) rfl (by kernel_rfl) (opens_str (bulk := bulk) Tryz.underlying9) (OpensF.cons (bulk := bulk) (k := 1) rfl (by kernel_rfl) (opens_bool (bulk := bulk) Tryz.underlying4) (OpensF.nil _)))))).map (fun x => (x.1, x.2.1, x.2.2.1, x.2.2.2.1)) (fun _ => rfl) (fun _ _ _ => trivial)
end Go.Proofs.YtdhgappjicpglaaGreatDoor.Tr
namespace Go.Proofs.YtdhgappjicpglaaGreatDoor.Pr
open Go Go.Ab Go.RowKit
variable {bulk : ∀ H : Type, DataW H → Nat}
theorem opens_exF : Opens Tryz.prog bulk 51 Tr.exA (fun x _ => Nu.Fits x.2.2.2.2.1.2.1) :=
  (opens_struct (bulk := bulk) Tryz.underlying51 (by kernel_rfl)
    (OpensF.cons (bulk := bulk) (k := 1) rfl (by kernel_rfl) (opens_int (bulk := bulk) Tryz.underlying3) (OpensF.cons (bulk := bulk) (k := 1) rfl (by kernel_rfl) (opens_int (bulk := bulk) Tryz.underlying3) (OpensF.cons (bulk := bulk) (k := 1) rfl (by kernel_rfl) (opens_int (bulk := bulk) Tryz.underlying3) (OpensF.cons (bulk := bulk) (k := 1) rfl (by kernel_rfl) (opens_str (bulk := bulk) Tryz.underlying9) (OpensF.cons (bulk := bulk) (k := 4) rfl (by kernel_rfl) (Va.opens_vl) (OpensF.cons (bulk := bulk) (k := 1) rfl (by kernel_rfl) (opens_int (bulk := bulk) Tryz.underlying3) (OpensF.cons (bulk := bulk) (k := 1) rfl (by kernel_rfl) (opens_int (bulk := bulk) Tryz.underlying3) (OpensF.nil _))))))))).map (fun x => (x.1, x.2.1, x.2.2.1, x.2.2.2.1, x.2.2.2.2.1, x.2.2.2.2.2.1, x.2.2.2.2.2.2.1)) (fun _ => rfl) (fun _ _ h => h.2.2.2.2.1.elim fun _ h => h)
theorem opens_exsF : Opens Tryz.prog bulk 22 (fun l : List Tr.Ex => [.slice 0 (l.map Tr.exA)]) (fun l _ => ∀ x ∈ l, Nu.Fits x.2.2.2.2.1.2.1) :=
  (opens_slice (bulk := bulk) Tryz.underlying22 (k := 10) (by kernel_rfl) (by decide) opens_exF (fun _ => rfl)).map (fun l => l) (fun _ => rfl) (fun _ _ h x hx => (h.1 x hx).elim fun _ h => h)
end Go.Proofs.YtdhgappjicpglaaGreatDoor.Pr
namespace Go.Ab
open Go
theorem laid_handles {P : Program} {laid : List (String × DataW Unit)} {W : World} {x : String × DataW Unit} {hs : List (String × DataW Unit)} (h : laidMetH P laid W)
    (hf : (laid.filter fun x => x.2.handleName?.isSome) = x :: hs) : laidMet P (laid.filter fun x => x.2.handleName?.isNone) W ∧ handlesMet P (x :: hs) W := by
  unfold laidMetH at h
  rw [hf] at h
  exact h
theorem laid_vars' {P : Program} {laid : List (String × DataW Unit)} {W : World} (h : laidMet P laid W) : ∃ ps, DataW.LaidVars P W laid ps := by
  obtain ⟨ps, h, _⟩ := h
  exact ⟨ps, h⟩
theorem handle_glob {P : Program} {W : World} {n : String} {d : DataW Unit} {name : List UInt8} {g u ty : Nat} (h : handlesMet P [(n, d)] W) (hfn : d.funcsIn? = none) (hn : d.handleName? = some name) (hg : P.globalNamed n = some g)
    (hu : (P.cutTypes.find? (·.1 == "internal/reflectlite.rtype")).map (·.2) = some u) (hone : ((List.range P.types.size).filter fun t => P.rowNamed t name) = [ty]) :
    GlobR (startG W) W g (.cptr [.iface u (.agg [.ptr (some ⟨P.globals.size, ty, none⟩)])]) := by
  have h1 := h (n, d) (List.mem_singleton.2 rfl)
  simp only [hfn] at h1
  obtain ⟨nm, u', ty', e1, e2, e3, e4, hv⟩ := h1
  rw [hn] at e1
  obtain rfl := Option.some.inj e1
  rw [hu] at e2
  obtain rfl := Option.some.inj e2
  have hm : ty' ∈ (List.range P.types.size).filter fun t => P.rowNamed t name := List.mem_filter.2 ⟨List.mem_range.2 e3, e4⟩
  rw [hone] at hm
  obtain rfl := List.mem_singleton.1 hm
  have hblk : ∃ T fr, W.heap[g]? = some (.cells #[.iface u (.agg #[typeHandle P ty'])] T fr) := by
    simp only [World.var?, hg, Option.bind_some] at hv
    split at hv
    · rename_i c T fr hh
      simp only [Option.some.injEq] at hv
      subst hv
      exact ⟨T, fr, hh⟩
    · cases hv
  obtain ⟨T, fr, hblk⟩ := hblk
  have hlt : g < W.heap.size := (Array.getElem?_eq_some_iff.1 hblk).1
  have hgood : ∀ o, (startG W).good g o := fun o => by
    unfold Gh.good startG
    simp [hlt]
  refine ⟨by simp [startG, hlt], ⟨_, T, fr, hblk, rfl⟩, R_cptr.2 ⟨g, 0, rfl, ?_⟩⟩
  unfold RCells
  refine ⟨hgood _, ⟨.iface u (.agg #[typeHandle P ty']), by simp [World.cell?, hblk], R_iface.2 ⟨_, rfl, R_agg.2 ⟨_, rfl, ?_⟩⟩⟩, by unfold RCells; trivial⟩
  exact RList_cons.2 ⟨_, _, rfl, R_ptr.2 rfl, RList_nil.2 rfl⟩
/-- Listed variables laid over any world. -/
theorem laidMet_over {P : Program} {w0 : World} {laid : List (String × DataW Unit)} (args : Array Value) (hf : w0.layFits P laid [] = true) (hi : w0.layIfaces P laid (w0.layVars P laid) = true) :
    laidMet P laid ((w0.layVars P laid).forCall (fun _ _ => 0) ⟨#[], args, []⟩).memory := by
  have e1 : (laid.filter fun x => (laid.map (·.1)).contains x.1) = laid := List.filter_eq_self.2 fun x hx => List.contains_iff_mem.2 (List.mem_map.2 ⟨x, hx, rfl⟩)
  have e2 : (laid.filter fun x => !(laid.map (·.1)).contains x.1) = [] := List.filter_eq_nil_iff.2 fun x hx => by rw [List.contains_iff_mem.2 (List.mem_map.2 ⟨x, hx, rfl⟩)]; simp
  have h : laidMet P laid (w0.layVars P laid) := laidMet_layVars (w0 := w0) (laid.map (·.1)) [] (by rw [e1]) (by rw [e1]; exact hf) (by rw [e1]; exact hi) (by rw [e2]; exact LaidIn.none)
  exact h.of_heap (by simp [World.memory, World.forCall, Input.heap])
end Go.Ab
namespace Go.Ab
open Go
theorem laid_err {P : Program} {n nm : String} {text : List UInt8} {r : List (String × DataW Unit)} {W : World} {g : Nat} {ti tp te ts : TypeId} {ms : Array (String × TypeId)} {f : Field}
    (h : laidMet P ((n, .iface nm (.ptr (.agg [.lit (.string text)]))) :: r) W)
    (hg : P.globalNamed n = some g) (ht : (P.globals[g]?).map (·.type) = some ti) (hi : P.underlying ti = some (.interface ms)) (hrow : ∀ u, P.typeName? 3 u = some nm → u = tp)
    (hp : P.underlying tp = some (.pointer te)) (he : P.underlying te = some (.struct #[f])) (hft : f.type = ts) (hfo : f.offset = 0) (hs : P.underlying ts = some .string) (hc : P.cellsOf te = 1) (hcs : P.cellsOf ts = 1) :
    GlobR (startG W) W g (.cptr [.iface tp (.cptr [.str text])]) := by
  obtain ⟨a, s, hv, hcell, hst, _⟩ := laid_sentinel h hg ht hi hrow hp he hft hfo hs hc hcs
  have hcg := World.var?_cell hg hv 0
  have hlt : ∀ (x : Addr) (v : Value), W.cell? x = some v → x.block < W.heap.size ∧ x.spot = none := by
    intro x v hx
    unfold World.cell? at hx
    split at hx
    · rename_i hh
      split at hx
      · cases hx
      · rename_i hsp
        exact ⟨(Array.getElem?_eq_some_iff.1 hh).1, by simpa using hsp⟩
    · cases hx
  obtain ⟨hb1, hsp⟩ := hlt a _ hcell
  have hg0 : W.cell? ⟨g, 0, none⟩ = some (.iface tp (.pointer (some a))) := by rw [hcg]; rfl
  obtain ⟨hb0, _⟩ := hlt _ _ hg0
  obtain ⟨ab, ao, asp⟩ := a
  dsimp only at hsp hb1
  subst hsp
  have hgood : ∀ b o, b < W.heap.size → (startG W).good b o := fun b o hb => by
    unfold Gh.good startG
    simp [hb]
  have hblk : ∃ T fr, W.heap[g]? = some (.cells #[.iface tp (.pointer (some ⟨ab, ao, none⟩))] T fr) := by
    simp only [World.var?, hg, Option.bind_some] at hv
    split at hv
    · rename_i c T fr hh
      simp only [Option.some.injEq] at hv
      subst hv
      exact ⟨T, fr, hh⟩
    · cases hv
  obtain ⟨T, fr, hblk⟩ := hblk
  refine ⟨by simp [startG, hb0], ⟨_, T, fr, hblk, rfl⟩, R_cptr.2 ⟨g, 0, rfl, ?_⟩⟩
  have inner : R (startG W) W (.cptr [.str text]) (.pointer (some ⟨ab, ao, none⟩)) := by
    refine R_cptr.2 ⟨ab, ao, rfl, ?_⟩
    unfold RCells
    refine ⟨hgood _ _ hb1, ⟨_, hcell, R_str.2 ?_⟩, by unfold RCells; trivial⟩
    subst hst
    rfl
  unfold RCells
  exact ⟨hgood _ _ hb0, ⟨_, hg0, R_iface.2 ⟨_, rfl, inner⟩⟩, by unfold RCells; trivial⟩
end Go.Ab
