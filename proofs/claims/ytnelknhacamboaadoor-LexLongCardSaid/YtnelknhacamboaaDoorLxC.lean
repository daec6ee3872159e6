
/- Chapter 9: signs and numbers. -/
import Derived.Test.YtnelknhacamboaaDoorLxB
import Derived.Test.YtnelknhacamboaaDoorSp1
set_option linter.all false
namespace Go.Proofs.YtnelknhacamboaaDoor.Lx
open Go Go.Ab Go.RowKit Go.Proofs.YtnelknhacamboaaDoor.Sc
variable {Γ : Nat → AV}
attribute [local irreducible] APure Sto.set Sto.grow
set_option maxRecDepth 10000
set_option maxHeartbeats 1000000

def pfx (x l : List UInt8) : Bool := decide (x.length ≤ l.length) && decide (l.take x.length = x)
theorem hasPrefix_ok (l p : List UInt8) (hp : p.length ≤ 1048576) : APure Tryd.prog Γ 40 [.str l, .str p] fun v => v = .bool (pfx p l) := by
  have inner : ∀ Γ : Nat → AV, APure Tryd.prog Γ 54 [.str l, .str p] fun v => v = .bool (pfx p l) := by
    intro Γ
    refine APure.of_awp Tryd.func54 rfl (Nat.le_of_ble_eq_true (by kernel_rfl)) (by kernel_rfl) ?_
    intro s
    conv => whnf
    repeat' (first
      | (exfalso; first | omega | exact (by assumption : ¬ True) trivial | fail)
      | (refine ⟨Sub.refl _, ?_⟩)
      | (refine brA_split (fun h => ?_) (fun h => ?_) <;> (try rw [h]) <;> (try simp only [Bool.false_eq_true, Bool.true_eq_false, ↓reduceIte, decide_eq_true_eq, decide_eq_false_iff_not, Bool.not_eq_true', Bool.not_eq_false'] at h) <;> (conv => whnf))
      | (refine getB_same ?_; conv => whnf)
      | (refine AWp.any (by kernel_rfl) (by kernel_rfl) (by kernel_rfl) ?_; conv => whnf)
      | (apply And.intro; (focus (first | omega | rfl | decide | exact Nat.le_of_ble_eq_true rfl | ((repeat' (first | exact all_nil | refine all_cons ?_ ?_ | rfl | fail)); done) | (simp [-List.length_flatMap]; done) | (simp [-List.length_flatMap]; omega) | fail)); conv => whnf)
      | fail)
    · refine bool_eq ?_
      rw [pfx, decide_eq_true (p := p.length ≤ l.length) (by omega), Bool.true_and]
      rfl
    · refine bool_eq ?_
      rw [pfx, decide_eq_false (p := p.length ≤ l.length) (by omega), Bool.false_and]
  refine APure.of_awp Tryd.func40 rfl (Nat.le_of_ble_eq_true (by kernel_rfl)) (by kernel_rfl) ?_
  intro s
  conv => whnf
  repeat' (first
    | (refine ⟨Sub.refl _, ?_⟩)
    | (refine brA_split (fun h => ?_) (fun h => ?_) <;> (try rw [h]) <;> (try simp only [Bool.false_eq_true, Bool.true_eq_false, ↓reduceIte, decide_eq_true_eq, decide_eq_false_iff_not, Bool.not_eq_true', Bool.not_eq_false'] at h) <;> (conv => whnf))
    | (refine ACalls.pure' ?_ (inner _); rintro _ rfl; conv => whnf)
    | (refine DCall.pure ?_ (inner _); conv => whnf)
    | (refine getB_same ?_; conv => whnf)
    | (refine AWp.any (by kernel_rfl) (by kernel_rfl) (by kernel_rfl) ?_; conv => whnf)
    | (apply And.intro; (focus (first | omega | rfl | decide | exact Nat.le_of_ble_eq_true rfl | ((repeat' (first | exact all_nil | refine all_cons ?_ ?_ | rfl | fail)); done) | (simp [-List.length_flatMap]; done) | (simp [-List.length_flatMap]; omega) | fail)); conv => whnf)
    | fail)
  rfl
/-- The signs, those of two bytes first. -/
def signsL : List (List UInt8) := [[61, 61], [33, 61], [60, 61], [62, 61], [60], [62], [61], [40], [41], [44], [58], [43], [45], [42], [47], [37]]
def signF : List (List UInt8) → List UInt8 → List UInt8
  | [], _ => []
  | x :: r, l => if pfx x l = true then x else signF r l
def signOf (l : List UInt8) : List UInt8 := signF signsL l
theorem split_signs : Sp.splitL [61, 61, 32, 33, 61, 32, 60, 61, 32, 62, 61, 32, 60, 32, 62, 32, 61, 32, 40, 32, 41, 32, 44, 32, 58, 32, 43, 32, 45, 32, 42, 32, 47, 32, 37] 32 = signsL := by decide
theorem signs_small : ∀ x ∈ signsL, x.length ≤ 1048576 := by decide
theorem signF_at {L : List (List UInt8)} {l : List UInt8} {i : Nat} (h : i < L.length) : signF (L.drop i) l = if pfx (L.getD i []) l = true then L.getD i [] else signF (L.drop (i + 1)) l := by
  rw [show L.drop i = L.getD i [] :: L.drop (i + 1) by simp [List.getD, h], signF]
theorem getD_mem {L : List (List UInt8)} {i : Nat} (h : i < L.length) : L.getD i [] ∈ L := by simp [List.getD, h]
theorem progSign_ok (l : List UInt8) : APure Tryd.prog Γ 21 [.str l] fun v => v = .str (signOf l) := by
  have hsp := Sp.split_ok (Γ := Γ) [61, 61, 32, 33, 61, 32, 60, 61, 32, 62, 61, 32, 60, 32, 62, 32, 61, 32, 40, 32, 41, 32, 44, 32, 58, 32, 43, 32, 45, 32, 42, 32, 47, 32, 37] 32 (by simp)
  rw [split_signs] at hsp
  have hsm := signs_small
  unfold signOf
  generalize hL : signsL = L at *
  have hlen : L.length = 16 := by rw [← hL]; rfl
  have hll := strsA_len L
  refine APure.of_awp Tryd.func21 rfl (Nat.le_of_ble_eq_true (by kernel_rfl)) (by kernel_rfl) ?_
  intro s
  conv => whnf
  repeat' (first
    | (refine ⟨Sub.refl _, ?_⟩)
    | (refine brA_split (fun h => ?_) (fun h => ?_) <;> (try rw [h]) <;> (try simp only [Bool.false_eq_true, Bool.true_eq_false, ↓reduceIte, decide_eq_true_eq, decide_eq_false_iff_not, Bool.not_eq_true', Bool.not_eq_false'] at h) <;> (conv => whnf))
    | (refine ACalls.pure' ?_ (hsp); rintro _ rfl; conv => whnf)
    | (refine DCall.pure ?_ (hsp); conv => whnf)
    | (refine getB_same ?_; conv => whnf)
    | (refine AWp.any (by kernel_rfl) (by kernel_rfl) (by kernel_rfl) ?_; conv => whnf)
    | (apply And.intro; (focus (first | omega | rfl | decide | exact Nat.le_of_ble_eq_true rfl | ((repeat' (first | exact all_nil | refine all_cons ?_ ?_ | rfl | fail)); done) | (simp [-List.length_flatMap]; done) | (simp [-List.length_flatMap]; omega) | fail)); conv => whnf)
    | fail)
  refine AWp.loopA [7] [8, 9, 10, 4, 11, 12, 13, 14, 2, 15] (fun i : Nat => [.int .i64 i]) (fun i s' => i ≤ L.length ∧ s' = s ∧ signF L l = signF (L.drop i) l) (fun i => L.length - i) (0) (by kernel_rfl) (by (repeat' (first | refine cons_eq ?_ ?_ | refine int64_of ?_ ?_ ?_ | rfl | omega))) ?_ ?_
  · exact ⟨by omega, rfl, by rw [List.drop_zero]⟩
  · rintro x i s1 ⟨h1, rfl, h2⟩
    show awp _ _ _ _ _ (updL _ _ [.int .i64 (i : Int)]) _
    conv => whnf
    by_cases hlt : i < L.length
    · have hg := strsA_get hlt
      have hat := signF_at (l := l) hlt
      have hm := hsm _ (getD_mem hlt)
      generalize L.getD i [] = g at *
      repeat' (first
        | (exfalso; first | omega | exact (by assumption : ¬ True) trivial | fail)
        | (refine ⟨Sub.refl _, ?_⟩)
        | (refine brA_split (fun h => ?_) (fun h => ?_) <;> (try rw [h]) <;> (try simp only [Bool.false_eq_true, Bool.true_eq_false, ↓reduceIte, decide_eq_true_eq, decide_eq_false_iff_not, Bool.not_eq_true', Bool.not_eq_false'] at h) <;> (conv => whnf))
        | (rw [show (strsA L).getD ((i : Int)).toNat [] = _ from hg]; conv => whnf)
        | (refine ACalls.pure' ?_ (hasPrefix_ok l g hm); rintro _ rfl; conv => whnf)
        | (refine DCall.pure ?_ (hasPrefix_ok l g hm); conv => whnf)
        | (refine getB_same ?_; conv => whnf)
        | (refine AWp.any (by kernel_rfl) (by kernel_rfl) (by kernel_rfl) ?_; conv => whnf)
        | (apply And.intro; (focus (first | omega | rfl | decide | exact Nat.le_of_ble_eq_true rfl | ((repeat' (first | exact all_nil | refine all_cons ?_ ?_ | rfl | fail)); done) | (simp [-List.length_flatMap]; done) | (simp [-List.length_flatMap]; omega) | fail)); conv => whnf)
        | fail)
      · rw [h2, hat, if_pos h]
        rfl
      · refine ⟨i + 1, by (repeat' (first | refine cons_eq ?_ ?_ | refine int64_of ?_ ?_ ?_ | rfl | omega)), by (repeat (first | exact Same.refl _ _ | refine Same.upd rfl ?_ | refine Same.updL rfl ?_ | refine Same.havoc rfl ?_)), ⟨by omega, by first | rfl | trivial, ?_⟩, by omega⟩
        rw [h2, hat, if_neg (by simp_all)]
    · repeat' (first
        | (exfalso; first | omega | exact (by assumption : ¬ True) trivial | fail)
        | (refine ⟨Sub.refl _, ?_⟩)
        | (refine brA_split (fun h => ?_) (fun h => ?_) <;> (try rw [h]) <;> (try simp only [Bool.false_eq_true, Bool.true_eq_false, ↓reduceIte, decide_eq_true_eq, decide_eq_false_iff_not, Bool.not_eq_true', Bool.not_eq_false'] at h) <;> (conv => whnf))
        | (refine getB_same ?_; conv => whnf)
        | (refine AWp.any (by kernel_rfl) (by kernel_rfl) (by kernel_rfl) ?_; conv => whnf)
        | (apply And.intro; (focus (first | omega | rfl | decide | exact Nat.le_of_ble_eq_true rfl | ((repeat' (first | exact all_nil | refine all_cons ?_ ?_ | rfl | fail)); done) | (simp [-List.length_flatMap]; done) | (simp [-List.length_flatMap]; omega) | fail)); conv => whnf)
        | fail)
      rw [h2, List.drop_of_length_le (by omega)]
      rfl
theorem refSign_ok (l : List UInt8) : APure Tryd.prog Γ 28 [.str l] fun v => v = .str (signOf l) := by
  have hsm := signs_small
  unfold signOf
  generalize hL : signsL = L at *
  have hlen : L.length = 16 := by rw [← hL]; rfl
  have hll := strsA_len L
  refine APure.of_awp Tryd.func28 rfl (Nat.le_of_ble_eq_true (by kernel_rfl)) (by kernel_rfl) ?_
  intro s
  conv => whnf
  repeat' (first
    | (refine ⟨Sub.refl _, ?_⟩)
    | (refine brA_split (fun h => ?_) (fun h => ?_) <;> (try rw [h]) <;> (try simp only [Bool.false_eq_true, Bool.true_eq_false, ↓reduceIte, decide_eq_true_eq, decide_eq_false_iff_not, Bool.not_eq_true', Bool.not_eq_false'] at h) <;> (conv => whnf))
    | (refine getB_same ?_; conv => whnf)
    | (refine AWp.any (by kernel_rfl) (by kernel_rfl) (by kernel_rfl) ?_; conv => whnf)
    | (apply And.intro; (focus (first | omega | rfl | decide | exact Nat.le_of_ble_eq_true rfl | ((repeat' (first | exact all_nil | refine all_cons ?_ ?_ | rfl | fail)); done) | (simp [-List.length_flatMap]; done) | (simp [-List.length_flatMap]; omega) | fail)); conv => whnf)
    | fail)
  refine AWp.loopA [3, 4] [7, 8, 9, 10, 13, 14, 15, 16, 17, 5, 18, 19, 20, 21, 22, 23, 24, 25, 26, 27, 28, 29, 30, 31, 32, 33, 34, 35, 2, 11, 12] (fun i : Nat => [.slice 1 (strsA L), .int .i64 i]) (fun i s' => i ≤ L.length ∧ s' = s ∧ signF L l = signF (L.drop i) l) (fun i => L.length - i) (0) (by kernel_rfl) (cons_eq (by rw [← hL]; rfl) (cons_eq rfl rfl)) ?_ ?_
  · exact ⟨by omega, rfl, by rw [List.drop_zero]⟩
  · rintro x i s1 ⟨h1, rfl, h2⟩
    show awp _ _ _ _ _ (updL _ _ [.slice 1 (strsA L), .int .i64 (i : Int)]) _
    conv => whnf
    by_cases hlt : i < L.length
    · have hg := strsA_get hlt
      have hat := signF_at (l := l) hlt
      have hm := hsm _ (getD_mem hlt)
      generalize L.getD i [] = g at *
      repeat' (first
        | (exfalso; first | omega | exact (by assumption : ¬ True) trivial | fail)
        | (refine ⟨Sub.refl _, ?_⟩)
        | (refine brA_split (fun h => ?_) (fun h => ?_) <;> (try rw [h]) <;> (try simp only [Bool.false_eq_true, Bool.true_eq_false, ↓reduceIte, decide_eq_true_eq, decide_eq_false_iff_not, Bool.not_eq_true', Bool.not_eq_false'] at h) <;> (conv => whnf))
        | (rw [show (strsA L).getD ((i : Int)).toNat [] = _ from hg]; conv => whnf)
        | (refine getB_same ?_; conv => whnf)
        | (refine AWp.any (by kernel_rfl) (by kernel_rfl) (by kernel_rfl) ?_; conv => whnf)
        | (apply And.intro; (focus (first | omega | rfl | decide | exact Nat.le_of_ble_eq_true rfl | ((repeat' (first | exact all_nil | refine all_cons ?_ ?_ | rfl | fail)); done) | (simp [-List.length_flatMap]; done) | (simp [-List.length_flatMap]; omega) | fail)); conv => whnf)
        | fail)
      · rw [h2, hat, if_pos]
        · rfl
        · unfold pfx
          rw [decide_eq_true (p := g.length ≤ l.length) (by omega), Bool.true_and, decide_eq_true_eq]
          exact h
      · refine ⟨i + 1, by (repeat' (first | refine cons_eq ?_ ?_ | refine int64_of ?_ ?_ ?_ | rfl | omega)), by (repeat (first | exact Same.refl _ _ | refine Same.upd rfl ?_ | refine Same.updL rfl ?_ | refine Same.havoc rfl ?_)), ⟨by omega, by first | rfl | trivial, ?_⟩, by omega⟩
        rw [h2, hat, if_neg]
        unfold pfx
        rw [Bool.and_eq_true, decide_eq_true_eq, decide_eq_true_eq]
        exact fun hh => h hh.2
      · refine ⟨i + 1, by (repeat' (first | refine cons_eq ?_ ?_ | refine int64_of ?_ ?_ ?_ | rfl | omega)), by (repeat (first | exact Same.refl _ _ | refine Same.upd rfl ?_ | refine Same.updL rfl ?_ | refine Same.havoc rfl ?_)), ⟨by omega, by first | rfl | trivial, ?_⟩, by omega⟩
        rw [h2, hat, if_neg]
        unfold pfx
        rw [Bool.and_eq_true, decide_eq_true_eq, decide_eq_true_eq]
        exact fun hh => by omega
    · repeat' (first
        | (exfalso; first | omega | exact (by assumption : ¬ True) trivial | fail)
        | (refine ⟨Sub.refl _, ?_⟩)
        | (refine brA_split (fun h => ?_) (fun h => ?_) <;> (try rw [h]) <;> (try simp only [Bool.false_eq_true, Bool.true_eq_false, ↓reduceIte, decide_eq_true_eq, decide_eq_false_iff_not, Bool.not_eq_true', Bool.not_eq_false'] at h) <;> (conv => whnf))
        | (refine getB_same ?_; conv => whnf)
        | (refine AWp.any (by kernel_rfl) (by kernel_rfl) (by kernel_rfl) ?_; conv => whnf)
        | (apply And.intro; (focus (first | omega | rfl | decide | exact Nat.le_of_ble_eq_true rfl | ((repeat' (first | exact all_nil | refine all_cons ?_ ?_ | rfl | fail)); done) | (simp [-List.length_flatMap]; done) | (simp [-List.length_flatMap]; omega) | fail)); conv => whnf)
        | fail)
      rw [h2, List.drop_of_length_le (by omega)]
      rfl
/-- The digits, and a table of bytes. -/
def digitsB : List UInt8 := [48, 49, 50, 51, 52, 53, 54, 55, 56, 57]
def tabB (k : Nat) : List AV := (List.range 256).map fun c => .bool (decide (48 ≤ c) && decide (c < 48 + k))
theorem tab_zero : tabB 0 = List.replicate 256 (AV.bool false) := by kernel_rfl
theorem tab_next : ∀ k : Nat, k < 10 → (tabB k).take (48 + k) ++ [.bool true] ++ (tabB k).drop (48 + k + 1) = tabB (k + 1)
  | 0, _ => by kernel_rfl
  | 1, _ => by kernel_rfl
  | 2, _ => by kernel_rfl
  | 3, _ => by kernel_rfl
  | 4, _ => by kernel_rfl
  | 5, _ => by kernel_rfl
  | 6, _ => by kernel_rfl
  | 7, _ => by kernel_rfl
  | 8, _ => by kernel_rfl
  | 9, _ => by kernel_rfl
  | k + 10, h => by omega
theorem digit_at : ∀ k : Nat, k < 10 → ((byteAt digitsB k).toNat : Int) = ((48 + k : Nat) : Int)
  | 0, _ => by kernel_rfl
  | 1, _ => by kernel_rfl
  | 2, _ => by kernel_rfl
  | 3, _ => by kernel_rfl
  | 4, _ => by kernel_rfl
  | 5, _ => by kernel_rfl
  | 6, _ => by kernel_rfl
  | 7, _ => by kernel_rfl
  | 8, _ => by kernel_rfl
  | 9, _ => by kernel_rfl
  | k + 10, h => by omega
theorem tab_len (k : Nat) : (tabB k).length = 256 := by unfold tabB; simp
theorem frcL_at {cs cs' : List AV} {K : List AV → Prop} (h : cs = cs') (hk : K cs') : frcL cs K := by rw [frcL_eq, h]; exact hk
theorem makeSet_ok : APure Tryd.prog Γ 65 [.str digitsB] fun v => v = .tuple [.agg (tabB 10), .bool true] := by
  generalize hD : digitsB = D
  have hlen : D.length = 10 := by rw [← hD]; rfl
  have hda := fun k h => digit_at k h
  rw [hD] at hda
  refine APure.of_awp Tryd.func65 rfl (Nat.le_of_ble_eq_true (by kernel_rfl)) (by kernel_rfl) ?_
  intro s
  conv => whnf
  repeat' (first
    | (refine ⟨Sub.refl _, ?_⟩)
    | (refine brA_split (fun h => ?_) (fun h => ?_) <;> (try rw [h]) <;> (try simp only [Bool.false_eq_true, Bool.true_eq_false, ↓reduceIte, decide_eq_true_eq, decide_eq_false_iff_not, Bool.not_eq_true', Bool.not_eq_false'] at h) <;> (conv => whnf))
    | (refine getB_same ?_; conv => whnf)
    | (refine AWp.any (by kernel_rfl) (by kernel_rfl) (by kernel_rfl) ?_; conv => whnf)
    | (apply And.intro; (focus (first | omega | rfl | decide | exact Nat.le_of_ble_eq_true rfl | ((repeat' (first | exact all_nil | refine all_cons ?_ ?_ | rfl | fail)); done) | (simp [-List.length_flatMap]; done) | (simp [-List.length_flatMap]; omega) | fail)); conv => whnf)
    | fail)
  intro b hb
  conv => whnf
  repeat' (first
    | (refine ⟨Sub.refl _, ?_⟩)
    | (refine brA_split (fun h => ?_) (fun h => ?_) <;> (try rw [h]) <;> (try simp only [Bool.false_eq_true, Bool.true_eq_false, ↓reduceIte, decide_eq_true_eq, decide_eq_false_iff_not, Bool.not_eq_true', Bool.not_eq_false'] at h) <;> (conv => whnf))
    | (refine getB_same ?_; conv => whnf)
    | (refine AWp.any (by kernel_rfl) (by kernel_rfl) (by kernel_rfl) ?_; conv => whnf)
    | (apply And.intro; (focus (first | omega | rfl | decide | exact Nat.le_of_ble_eq_true rfl | ((repeat' (first | exact all_nil | refine all_cons ?_ ?_ | rfl | fail)); done) | (simp [-List.length_flatMap]; done) | (simp [-List.length_flatMap]; omega) | fail)); conv => whnf)
    | fail)
  refine AWp.loopA [4] [6, 7, 8, 9, 12, 13, 14, 5, 15, 16, 17, 3, 18, 19, 10, 11] (fun i : Nat => [.int .i64 i]) (fun i s' => i ≤ 10 ∧ s'.bx b = some (105, tabB i) ∧ Sub s s') (fun i => 10 - i) (0) (by kernel_rfl) (by (repeat' (first | refine cons_eq ?_ ?_ | refine int64_of ?_ ?_ ?_ | rfl | omega))) ?_ ?_
  · exact ⟨by omega, set_bx_same, (Sub.refl _).set hb _ _⟩
  · rintro x i s1 ⟨h1, h2, h3⟩
    show awp _ _ _ _ _ (updL _ _ [.int .i64 (i : Int)]) _
    conv => whnf
    by_cases hlt : i < 10
    · have hd := hda i hlt
      have hz : byteAt D ((i : Int)).toNat = byteAt D i := rfl
      repeat' (first
        | (exfalso; first | omega | exact (by assumption : ¬ True) trivial | fail)
        | (refine ⟨Sub.refl _, ?_⟩)
        | (refine brA_split (fun h => ?_) (fun h => ?_) <;> (try rw [h]) <;> (try simp only [Bool.false_eq_true, Bool.true_eq_false, ↓reduceIte, decide_eq_true_eq, decide_eq_false_iff_not, Bool.not_eq_true', Bool.not_eq_false'] at h) <;> (conv => whnf))
        | (refine getB_of (by ((repeat (first | exact set_bx_same | assumption | refine (set_bx_other (by assumption)).trans ?_ | refine grow_bx.trans ?_)); done)) ?_; conv => whnf)
        | (rw [hz]; conv => whnf)
        | (rw [hd]; conv => whnf)
        | (refine getB_same ?_; conv => whnf)
        | (refine AWp.any (by kernel_rfl) (by kernel_rfl) (by kernel_rfl) ?_; conv => whnf)
        | (apply And.intro; (focus (first | omega | rfl | decide | exact Nat.le_of_ble_eq_true rfl | ((repeat' (first | exact all_nil | refine all_cons ?_ ?_ | rfl | fail)); done) | (simp [-List.length_flatMap]; done) | (simp [-List.length_flatMap]; omega) | fail)); conv => whnf)
        | fail)
      refine ⟨?_, frcL_at (cs' := tabB (i + 1)) ?_ ?_⟩
      · rw [tab_len]
        show 0 + ((48 + i : Nat) : Int).toNat * 1 + 1 ≤ 256
        omega
      · rw [show 0 + ((48 + i : Nat) : Int).toNat * (fun x => x.size) Tryd.prog.types[4] = 48 + i by show 0 + ((48 + i : Nat) : Int).toNat * 1 = _; omega]
        exact tab_next i hlt
      conv => whnf
      repeat' (first
        | (exfalso; first | omega | exact (by assumption : ¬ True) trivial | fail)
        | (refine ⟨Sub.refl _, ?_⟩)
        | (refine brA_split (fun h => ?_) (fun h => ?_) <;> (try rw [h]) <;> (try simp only [Bool.false_eq_true, Bool.true_eq_false, ↓reduceIte, decide_eq_true_eq, decide_eq_false_iff_not, Bool.not_eq_true', Bool.not_eq_false'] at h) <;> (conv => whnf))
        | (refine getB_of (by ((repeat (first | exact set_bx_same | assumption | refine (set_bx_other (by assumption)).trans ?_ | refine grow_bx.trans ?_)); done)) ?_; conv => whnf)
        | (refine getB_same ?_; conv => whnf)
        | (refine AWp.any (by kernel_rfl) (by kernel_rfl) (by kernel_rfl) ?_; conv => whnf)
        | (apply And.intro; (focus (first | omega | rfl | decide | exact Nat.le_of_ble_eq_true rfl | ((repeat' (first | exact all_nil | refine all_cons ?_ ?_ | rfl | fail)); done) | (simp [-List.length_flatMap]; done) | (simp [-List.length_flatMap]; omega) | fail)); conv => whnf)
        | fail)
      exact ⟨i + 1, by (repeat' (first | refine cons_eq ?_ ?_ | refine int64_of ?_ ?_ ?_ | rfl | omega)), by (repeat (first | exact Same.refl _ _ | refine Same.upd rfl ?_ | refine Same.updL rfl ?_ | refine Same.havoc rfl ?_)), ⟨by omega, set_bx_same, h3.set hb _ _⟩, by omega⟩
    · obtain rfl : i = 10 := by omega
      repeat' (first
        | (exfalso; first | omega | exact (by assumption : ¬ True) trivial | fail)
        | (refine ⟨Sub.refl _, ?_⟩)
        | (refine brA_split (fun h => ?_) (fun h => ?_) <;> (try rw [h]) <;> (try simp only [Bool.false_eq_true, Bool.true_eq_false, ↓reduceIte, decide_eq_true_eq, decide_eq_false_iff_not, Bool.not_eq_true', Bool.not_eq_false'] at h) <;> (conv => whnf))
        | (refine getB_of (by ((repeat (first | exact set_bx_same | assumption | refine (set_bx_other (by assumption)).trans ?_ | refine grow_bx.trans ?_)); done)) ?_; conv => whnf)
        | (refine getB_same ?_; conv => whnf)
        | (refine AWp.any (by kernel_rfl) (by kernel_rfl) (by kernel_rfl) ?_; conv => whnf)
        | (apply And.intro; (focus (first | omega | rfl | decide | exact Nat.le_of_ble_eq_true rfl | ((repeat' (first | exact all_nil | refine all_cons ?_ ?_ | rfl | fail)); done) | (simp [-List.length_flatMap]; done) | (simp [-List.length_flatMap]; omega) | fail)); conv => whnf)
        | fail)
      exact ⟨h3.set hb _ _, by kernel_rfl⟩
end Go.Proofs.YtnelknhacamboaaDoor.Lx
