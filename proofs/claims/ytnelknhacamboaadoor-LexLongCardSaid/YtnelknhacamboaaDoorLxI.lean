/- Chapter 9: the law of long texts. -/
import Derived.Test.YtnelknhacamboaaDoorLxH
set_option linter.all false
namespace Go.Proofs.YtnelknhacamboaaDoor.Lx
open Go Go.Ab Go.RowKit Go.Proofs.YtnelknhacamboaaDoor.Sc
variable {Γ : Nat → AV}
attribute [local irreducible] APure Sto.set Sto.grow
set_option maxRecDepth 10000
set_option maxHeartbeats 1000000

/-- k blanks, and a sign. -/
def longT (k : Nat) : List UInt8 := List.replicate k 32 ++ [40]
theorem longT_len (k : Nat) : (longT k).length = k + 1 := by simp [longT]
theorem blank_long : ∀ k : Nat, blankN (longT k) = k
  | 0 => by decide
  | k + 1 => by
    have := blank_long k
    unfold blankN longT at *
    rw [List.replicate_succ, List.cons_append, blankF, if_neg (by decide), if_pos (by decide), this]
theorem first_long : firstF [40] = .ok (5, [40], 1) := by kernel_rfl
theorem lexF_nil (k : Nat) (p : Int × Int) : lexF k p [] = .ok [] := by
  cases k with
  | zero => rfl
  | succ k => exact lexF_end rfl
theorem all_long (k : Nat) (hk : k + 1 ≤ 65536) : allT (longT k) = .ok [(5, [40], 1, 1 + (k : Int))] := by
  have hb := blank_long k
  have hd : (longT k).drop (blankN (longT k)) = [40] := by
    rw [hb]; unfold longT
    exact List.drop_left' (by simp)
  have ht : (longT k).take (blankN (longT k)) = List.replicate k 32 := by
    rw [hb]; unfold longT
    exact List.take_left' (by simp)
  rw [allT, if_neg (by rw [longT_len]; omega), lexF_ok (by rw [hd]; simp) (by rw [hd]; exact first_long), hd, ht]
  rw [show List.drop 1 ([40] : List UInt8) = [] from rfl, lexF_nil, place_plain (by simp [List.count_replicate])]
  simp [preT]
/-- The next byte of a row that fills. -/
theorem fill_byte (i k : Nat) (x : AV) : (List.replicate i (AV.int .u8 32) ++ List.replicate (k + 1) (AV.int .u8 0)).take i ++ [x] ++ (List.replicate i (AV.int .u8 32) ++ List.replicate (k + 1) (AV.int .u8 0)).drop (i + 1) = List.replicate i (AV.int .u8 32) ++ [x] ++ List.replicate k (AV.int .u8 0) := by
  have h1 : (List.replicate i (AV.int .u8 32) ++ List.replicate (k + 1) (AV.int .u8 0)).take i = List.replicate i (AV.int .u8 32) := List.take_left' (by simp)
  have h2 : (List.replicate i (AV.int .u8 32) ++ List.replicate (k + 1) (AV.int .u8 0)).drop (i + 1) = List.replicate k (AV.int .u8 0) := by
    rw [← List.drop_drop, List.drop_left' (by simp)]; rfl
  rw [h1, h2]
theorem repl_zero (n : Nat) : (List.replicate n [AV.int .u8 0]).flatten = List.replicate n (AV.int .u8 0) := by
  induction n with
  | zero => rfl
  | succ n ih => rw [List.replicate_succ, List.flatten_cons, ih]; rfl
theorem chunks_bytes : ∀ (l : List UInt8) (r : List AV), chunks 1 l.length ((l.map fun b => AV.int .u8 b.toNat) ++ r) = bytesA l
  | [], r => rfl
  | c :: l, r => by
    show _ :: chunks 1 l.length _ = _
    rw [show ((c :: l).map (fun b => AV.int .u8 (b.toNat : Int)) ++ r).drop 1 = l.map (fun b => AV.int .u8 (b.toNat : Int)) ++ r from rfl, chunks_bytes l r]
    rfl
theorem unB_long (k : Nat) (cs : List AV) (h : cs = List.replicate k (AV.int .u8 32) ++ [AV.int .u8 40]) : unB (chunks 1 (k + 1) cs) = some (longT k) := by
  have hl := chunks_bytes (longT k) []
  rw [longT_len, List.append_nil] at hl
  have hc : (longT k).map (fun b => AV.int .u8 b.toNat) = cs := by
    rw [h]; simp [longT]
  rw [hc] at hl
  rw [hl, unB_bytesA]
theorem lexLong_law (hQ : Qu.Tabs Γ) (hT : Wds Γ) (hE : AsO.ErrT Γ) (n : Int) (h0 : -9223372036854775808 ≤ n ∧ n ≤ 9223372036854775807) : APure Tryd.prog Γ 4 [.int .i64 n] fun v => v = .bool true := by
  by_cases hn : n < 65530 ∨ 65540 < n
  · refine APure.of_awp Tryd.func4 rfl (Nat.le_of_ble_eq_true (by kernel_rfl)) (by kernel_rfl) ?_
    intro s
    conv => whnf
    repeat' (first
      | (exfalso; first | omega | exact (by assumption : ¬ True) trivial | fail)
      | (refine ⟨Sub.refl _, ?_⟩)
      | (refine brA_split (fun h => ?_) (fun h => ?_) <;> (try rw [h]) <;> (try simp only [Bool.false_eq_true, Bool.true_eq_false, ↓reduceIte, decide_eq_true_eq, decide_eq_false_iff_not, Bool.not_eq_true', Bool.not_eq_false'] at h) <;> (conv => whnf))
      | (refine ACalls.pure' ?_ (awake_ok hQ hT hE); rintro _ rfl; conv => whnf)
      | (refine DCall.pure ?_ (awake_ok hQ hT hE); conv => whnf)
      | (refine getB_same ?_; conv => whnf)
      | (refine AWp.any (by kernel_rfl) (by kernel_rfl) (by kernel_rfl) ?_; conv => whnf)
      | (apply And.intro; (focus (first | omega | rfl | decide | exact Nat.le_of_ble_eq_true rfl | ((repeat' (first | exact all_nil | refine all_cons ?_ ?_ | rfl | fail)); done) | (simp [-List.length_flatMap]; done) | (simp [-List.length_flatMap]; omega) | fail)); conv => whnf)
      | fail)
    all_goals rfl
  · have hn1 : 65530 ≤ n := by omega
    have hn2 : n ≤ 65540 := by omega
    obtain ⟨m, hm⟩ : ∃ m : Nat, n.toNat = m := ⟨_, rfl⟩
    have hmn : n = m := by omega
    have hzr := repl_zero m
    refine APure.of_awp Tryd.func4 rfl (Nat.le_of_ble_eq_true (by kernel_rfl)) (by kernel_rfl) ?_
    intro s
    conv => whnf
    repeat' (first
      | (exfalso; first | omega | exact (by assumption : ¬ True) trivial | fail)
      | (refine ⟨Sub.refl _, ?_⟩)
      | (refine brA_split (fun h => ?_) (fun h => ?_) <;> (try rw [h]) <;> (try simp only [Bool.false_eq_true, Bool.true_eq_false, ↓reduceIte, decide_eq_true_eq, decide_eq_false_iff_not, Bool.not_eq_true', Bool.not_eq_false'] at h) <;> (conv => whnf))
      | (refine getB_same ?_; conv => whnf)
      | (refine AWp.any (by kernel_rfl) (by kernel_rfl) (by kernel_rfl) ?_; conv => whnf)
      | (apply And.intro; (focus (first | omega | rfl | decide | exact Nat.le_of_ble_eq_true rfl | ((repeat' (first | exact all_nil | refine all_cons ?_ ?_ | rfl | fail)); done) | (simp [-List.length_flatMap]; done) | (simp [-List.length_flatMap]; omega) | fail)); conv => whnf)
      | fail)
    refine ⟨by show (1 : Int) * n ≤ 281474976710656; omega, rfl, ?_⟩
    intro b hb
    conv => whnf
    repeat' (first
      | (exfalso; first | omega | exact (by assumption : ¬ True) trivial | fail)
      | (refine ⟨Sub.refl _, ?_⟩)
      | (refine brA_split (fun h => ?_) (fun h => ?_) <;> (try rw [h]) <;> (try simp only [Bool.false_eq_true, Bool.true_eq_false, ↓reduceIte, decide_eq_true_eq, decide_eq_false_iff_not, Bool.not_eq_true', Bool.not_eq_false'] at h) <;> (conv => whnf))
      | (refine getB_same ?_; conv => whnf)
      | (refine AWp.any (by kernel_rfl) (by kernel_rfl) (by kernel_rfl) ?_; conv => whnf)
      | (apply And.intro; (focus (first | omega | rfl | decide | exact Nat.le_of_ble_eq_true rfl | ((repeat' (first | exact all_nil | refine all_cons ?_ ?_ | rfl | fail)); done) | (simp [-List.length_flatMap]; done) | (simp [-List.length_flatMap]; omega) | fail)); conv => whnf)
      | fail)
    refine AWp.loopA [4] [16, 17, 18, 21, 22, 23, 19, 20] (fun i : Nat => [.int .i64 i]) (fun i s' => i ≤ m ∧ Sub s s' ∧ s'.bx b = some (5, List.replicate i (.int .u8 32) ++ List.replicate (m - i) (.int .u8 0))) (fun i => m - i) (0) (by kernel_rfl) (by (repeat' (first | refine cons_eq ?_ ?_ | refine int64_of ?_ ?_ ?_ | rfl | omega))) ?_ ?_
    · refine ⟨Nat.zero_le _, (Sub.refl _).set hb _ _, ?_⟩
      rw [hm, hzr]
      exact set_bx_same
    · rintro x i s1 ⟨hi, hs1, hbx⟩
      show awp _ _ _ _ _ (updL _ _ [.int .i64 (i : Int)]) _
      conv => whnf
      by_cases hlt : i < m
      · obtain ⟨k, hk⟩ : ∃ k, m - i = k + 1 := ⟨m - i - 1, by omega⟩
        have hfb := fill_byte i k (.int .u8 32)
        have ho : 0 + ((i : Int)).toNat * (fun x => x.size) Tryd.prog.types[5] = i := by show 0 + ((i : Nat) : Int).toNat * 1 = i; omega
        rw [hk] at hbx
        have hlen : (List.replicate i (AV.int .u8 32) ++ List.replicate (k + 1) (AV.int .u8 0)).length = m := by rw [List.length_append, List.length_replicate, List.length_replicate]; omega
        repeat' (first
          | (exfalso; first | omega | exact (by assumption : ¬ True) trivial | fail)
          | (refine ⟨Sub.refl _, ?_⟩)
          | (refine brA_split (fun h => ?_) (fun h => ?_) <;> (try rw [h]) <;> (try simp only [Bool.false_eq_true, Bool.true_eq_false, ↓reduceIte, decide_eq_true_eq, decide_eq_false_iff_not, Bool.not_eq_true', Bool.not_eq_false'] at h) <;> (conv => whnf))
          | (refine getB_of hbx ?_; conv => whnf)
          | (refine getB_same ?_; conv => whnf)
          | (refine AWp.any (by kernel_rfl) (by kernel_rfl) (by kernel_rfl) ?_; conv => whnf)
          | (apply And.intro; (focus (first | omega | rfl | decide | exact Nat.le_of_ble_eq_true rfl | ((repeat' (first | exact all_nil | refine all_cons ?_ ?_ | rfl | fail)); done) | (simp [-List.length_flatMap]; done) | (simp [-List.length_flatMap]; omega) | fail)); conv => whnf)
          | fail)
        refine ⟨by rw [hlen, ho]; show i + 1 ≤ m; omega, frcL_of (l' := List.replicate i (.int .u8 32) ++ [.int .u8 32] ++ List.replicate k (.int .u8 0)) (by rw [ho]; exact hfb) ?_⟩
        rw [frcL_eq]
        conv => whnf
        repeat' (first
          | (exfalso; first | omega | exact (by assumption : ¬ True) trivial | fail)
          | (refine ⟨Sub.refl _, ?_⟩)
          | (refine brA_split (fun h => ?_) (fun h => ?_) <;> (try rw [h]) <;> (try simp only [Bool.false_eq_true, Bool.true_eq_false, ↓reduceIte, decide_eq_true_eq, decide_eq_false_iff_not, Bool.not_eq_true', Bool.not_eq_false'] at h) <;> (conv => whnf))
          | (refine getB_same ?_; conv => whnf)
          | (refine AWp.any (by kernel_rfl) (by kernel_rfl) (by kernel_rfl) ?_; conv => whnf)
          | (apply And.intro; (focus (first | omega | rfl | decide | exact Nat.le_of_ble_eq_true rfl | ((repeat' (first | exact all_nil | refine all_cons ?_ ?_ | rfl | fail)); done) | (simp [-List.length_flatMap]; done) | (simp [-List.length_flatMap]; omega) | fail)); conv => whnf)
          | fail)
        refine ⟨i + 1, by (repeat' (first | refine cons_eq ?_ ?_ | refine int64_of ?_ ?_ ?_ | rfl | omega)), by (repeat (first | exact Same.refl _ _ | refine Same.upd rfl ?_ | refine Same.updL rfl ?_ | refine Same.havoc rfl ?_)), ⟨by omega, hs1.set hb _ _, ?_⟩, by omega⟩
        rw [show m - (i + 1) = k by omega, List.replicate_succ' (n := i)]
        exact set_bx_same
      · obtain rfl : i = m := by omega
        obtain ⟨k, rfl⟩ : ∃ k, i = k + 1 := ⟨i - 1, by omega⟩
        have hw : IntKind.i64.wrap (n - 1) = (k : Int) := i64_of (by omega) (by omega) (by omega)
        have ho : 0 + ((k : Int)).toNat * (fun x => x.size) Tryd.prog.types[5] = k := by show 0 + ((k : Nat) : Int).toNat * 1 = k; omega
        rw [Nat.sub_self, List.replicate_zero, List.append_nil] at hbx
        have hst : (List.replicate (k + 1) (AV.int .u8 32)).take k ++ [AV.int .u8 40] ++ (List.replicate (k + 1) (AV.int .u8 32)).drop (k + 1) = List.replicate k (.int .u8 32) ++ [.int .u8 40] := by
          rw [List.take_replicate, List.drop_replicate, Nat.sub_self, Nat.min_eq_left (by omega), List.replicate_zero, List.append_nil]
        repeat' (first
          | (exfalso; first | omega | exact (by assumption : ¬ True) trivial | fail)
          | (refine ⟨Sub.refl _, ?_⟩)
          | (refine brA_split (fun h => ?_) (fun h => ?_) <;> (try rw [h]) <;> (try simp only [Bool.false_eq_true, Bool.true_eq_false, ↓reduceIte, decide_eq_true_eq, decide_eq_false_iff_not, Bool.not_eq_true', Bool.not_eq_false'] at h) <;> (conv => whnf))
          | (rw [hw]; conv => whnf)
          | (refine getB_of hbx ?_; conv => whnf)
          | (refine getB_same ?_; conv => whnf)
          | (refine AWp.any (by kernel_rfl) (by kernel_rfl) (by kernel_rfl) ?_; conv => whnf)
          | (apply And.intro; (focus (first | omega | rfl | decide | exact Nat.le_of_ble_eq_true rfl | ((repeat' (first | exact all_nil | refine all_cons ?_ ?_ | rfl | fail)); done) | (simp [-List.length_flatMap]; done) | (simp [-List.length_flatMap]; omega) | fail)); conv => whnf)
          | fail)
        refine ⟨by rw [ho, List.length_replicate]; show k + 1 ≤ k + 1; omega, frcL_of (l' := List.replicate k (.int .u8 32) ++ [.int .u8 40]) (by rw [ho]; exact hst) ?_⟩
        rw [frcL_eq]
        conv => whnf
        repeat' (first
          | (exfalso; first | omega | exact (by assumption : ¬ True) trivial | fail)
          | (refine ⟨Sub.refl _, ?_⟩)
          | (refine brA_split (fun h => ?_) (fun h => ?_) <;> (try rw [h]) <;> (try simp only [Bool.false_eq_true, Bool.true_eq_false, ↓reduceIte, decide_eq_true_eq, decide_eq_false_iff_not, Bool.not_eq_true', Bool.not_eq_false'] at h) <;> (conv => whnf))
          | (refine getB_of set_bx_same ?_; conv => whnf)
          | (refine getB_same ?_; conv => whnf)
          | (refine AWp.any (by kernel_rfl) (by kernel_rfl) (by kernel_rfl) ?_; conv => whnf)
          | (apply And.intro; (focus (first | omega | rfl | decide | exact Nat.le_of_ble_eq_true rfl | ((repeat' (first | exact all_nil | refine all_cons ?_ ?_ | rfl | fail)); done) | (simp [-List.length_flatMap]; done) | (simp [-List.length_flatMap]; omega) | fail)); conv => whnf)
          | fail)
        rw [hm, List.drop_zero, unB_long k _ rfl]
        have hall := progAll_ok hQ hT hE (longT k) (by rw [longT_len]; omega)
        by_cases hbig : 65536 < k + 1
        · rw [allT, if_pos (by rw [longT_len]; omega)] at hall
          simp only [allA] at hall
          conv => whnf
          repeat' (first
            | (exfalso; first | omega | exact (by assumption : ¬ True) trivial | fail)
            | (refine ⟨Sub.refl _, ?_⟩)
            | (refine brA_split (fun h => ?_) (fun h => ?_) <;> (try rw [h]) <;> (try simp only [Bool.false_eq_true, Bool.true_eq_false, ↓reduceIte, decide_eq_true_eq, decide_eq_false_iff_not, Bool.not_eq_true', Bool.not_eq_false'] at h) <;> (conv => whnf))
            | (refine ACalls.pure' ?_ (hall); rintro _ rfl; conv => whnf)
            | (refine DCall.pure ?_ (hall); conv => whnf)
            | (refine getB_same ?_; conv => whnf)
            | (refine AWp.any (by kernel_rfl) (by kernel_rfl) (by kernel_rfl) ?_; conv => whnf)
            | (apply And.intro; (focus (first | omega | rfl | decide | exact Nat.le_of_ble_eq_true rfl | ((repeat' (first | exact all_nil | refine all_cons ?_ ?_ | rfl | fail)); done) | (simp [-List.length_flatMap]; done) | (simp [-List.length_flatMap]; omega) | fail)); conv => whnf)
            | fail)
          intro b6 hb6
          conv => whnf
          repeat' (first
            | (exfalso; first | omega | exact (by assumption : ¬ True) trivial | fail)
            | (refine ⟨Sub.refl _, ?_⟩)
            | (refine brA_split (fun h => ?_) (fun h => ?_) <;> (try rw [h]) <;> (try simp only [Bool.false_eq_true, Bool.true_eq_false, ↓reduceIte, decide_eq_true_eq, decide_eq_false_iff_not, Bool.not_eq_true', Bool.not_eq_false'] at h) <;> (conv => whnf))
            | (refine getB_of (by ((repeat (first | exact set_bx_same | assumption | refine (set_bx_other (by assumption)).trans ?_ | refine grow_bx.trans ?_)); done)) ?_; conv => whnf)
            | (refine ACalls.pure' ?_ (awake_ok hQ hT hE); rintro _ rfl; conv => whnf)
            | (refine DCall.pure ?_ (awake_ok hQ hT hE); conv => whnf)
            | (refine EqAgg.of grdFail planFail ?_; conv => whnf)
            | (refine getB_same ?_; conv => whnf)
            | (refine AWp.any (by kernel_rfl) (by kernel_rfl) (by kernel_rfl) ?_; conv => whnf)
            | (apply And.intro; (focus (first | omega | rfl | decide | exact Nat.le_of_ble_eq_true rfl | ((repeat' (first | exact all_nil | refine all_cons ?_ ?_ | rfl | fail)); done) | (simp [-List.length_flatMap]; done) | (simp [-List.length_flatMap]; omega) | fail)); conv => whnf)
            | fail)
          all_goals first | (exfalso; revert h; simp; done) | skip
          have k1 := hs1.set hb 5 (List.replicate k (.int .u8 32) ++ [.int .u8 40])
          exact ⟨(k1.set (k1.none hb6) _ _).set (k1.none hb6) _ _, rfl⟩
        · rw [all_long k (by omega)] at hall
          simp only [allA, toksA, List.map_cons, List.map_nil, tokA] at hall
          have hk1 : (1 + (k : Int)) = n := by omega
          rw [hk1] at hall
          conv => whnf
          repeat' (first
            | (exfalso; first | omega | exact (by assumption : ¬ True) trivial | fail)
            | (refine ⟨Sub.refl _, ?_⟩)
            | (refine brA_split (fun h => ?_) (fun h => ?_) <;> (try rw [h]) <;> (try simp only [Bool.false_eq_true, Bool.true_eq_false, ↓reduceIte, decide_eq_true_eq, decide_eq_false_iff_not, Bool.not_eq_true', Bool.not_eq_false'] at h) <;> (conv => whnf))
            | (refine ACalls.pure' ?_ (hall); rintro _ rfl; conv => whnf)
            | (refine DCall.pure ?_ (hall); conv => whnf)
            | (refine getB_same ?_; conv => whnf)
            | (refine AWp.any (by kernel_rfl) (by kernel_rfl) (by kernel_rfl) ?_; conv => whnf)
            | (apply And.intro; (focus (first | omega | rfl | decide | exact Nat.le_of_ble_eq_true rfl | ((repeat' (first | exact all_nil | refine all_cons ?_ ?_ | rfl | fail)); done) | (simp [-List.length_flatMap]; done) | (simp [-List.length_flatMap]; omega) | fail)); conv => whnf)
            | fail)
          intro b6 hb6
          conv => whnf
          repeat' (first
            | (exfalso; first | omega | exact (by assumption : ¬ True) trivial | fail)
            | (refine ⟨Sub.refl _, ?_⟩)
            | (refine brA_split (fun h => ?_) (fun h => ?_) <;> (try rw [h]) <;> (try simp only [Bool.false_eq_true, Bool.true_eq_false, ↓reduceIte, decide_eq_true_eq, decide_eq_false_iff_not, Bool.not_eq_true', Bool.not_eq_false'] at h) <;> (conv => whnf))
            | (refine getB_of (by ((repeat (first | exact set_bx_same | assumption | refine (set_bx_other (by assumption)).trans ?_ | refine grow_bx.trans ?_)); done)) ?_; conv => whnf)
            | (refine ACalls.pure' ?_ (awake_ok hQ hT hE); rintro _ rfl; conv => whnf)
            | (refine DCall.pure ?_ (awake_ok hQ hT hE); conv => whnf)
            | (refine EqAgg.of grdFail planFail ?_; conv => whnf)
            | (refine getB_same ?_; conv => whnf)
            | (refine AWp.any (by kernel_rfl) (by kernel_rfl) (by kernel_rfl) ?_; conv => whnf)
            | (apply And.intro; (focus (first | omega | rfl | decide | exact Nat.le_of_ble_eq_true rfl | ((repeat' (first | exact all_nil | refine all_cons ?_ ?_ | rfl | fail)); done) | (simp [-List.length_flatMap]; done) | (simp [-List.length_flatMap]; omega) | fail)); conv => whnf)
            | fail)
          all_goals first | (exfalso; revert h; simp; done) | skip
          have k1 := hs1.set hb 5 (List.replicate k (.int .u8 32) ++ [.int .u8 40])
          exact ⟨(k1.set (k1.none hb6) _ _).set (k1.none hb6) _ _, rfl⟩
end Go.Proofs.YtnelknhacamboaaDoor.Lx
