
/- Chapter 9: blanks by the document; places; signs. -/
import Derived.Test.YtnelknhacamboaaDoorLxA
set_option linter.all false
namespace Go.Proofs.YtnelknhacamboaaDoor.Lx
open Go Go.Ab Go.RowKit Go.Proofs.YtnelknhacamboaaDoor.Sc
variable {Γ : Nat → AV}
theorem count_ok (l : List UInt8) : APure Tryd.prog Γ 16 [.str l, .str [10]] fun v => v = .int .i64 (l.count 10) := by
  refine fun s => ⟨fun G w vs hm hr => ?_⟩
  obtain ⟨u, us, rfl, hu, hus⟩ := RList_cons.1 hr
  obtain ⟨u1, us1, rfl, hu1, hus1⟩ := RList_cons.1 hus
  rw [RList_nil] at hus1; subst hus1
  rw [R_str] at hu; subst hu
  rw [R_str] at hu1; subst hu1
  refine Calls.mono (Tryd.strings_Count_one ⟨l.toArray⟩ 10 w) ?_
  rintro e w' ⟨rfl, rfl⟩
  exact ⟨_, _, s, G, rfl, ⟨rfl, rfl⟩, R_int.2 (by simp [Lib.countByte]), hm, Ext.refl _ _⟩
attribute [local irreducible] APure Sto.set Sto.grow
set_option maxRecDepth 10000
set_option maxHeartbeats 1000000

theorem blankF_10 (r : List UInt8) : blankF false (10 :: r) = blankF true (10 :: r) := by rw [blankF, blankF, if_pos rfl, if_neg (by decide), if_pos (by decide)]
theorem blankc_iff (c : UInt8) : blankc c.toNat = true ↔ (c.toNat : Int) = 32 ∨ (c.toNat : Int) = 9 ∨ (c.toNat : Int) = 10 ∨ (c.toNat : Int) = 13 := by
  unfold blankc
  simp [or_assoc]
theorem refBlank_ok (l : List UInt8) (hl : l.length ≤ 1048576) : APure Tryd.prog Γ 12 [.str l] fun v => v = .int .i64 (blankN l) := by
  refine APure.of_awp Tryd.func12 rfl (Nat.le_of_ble_eq_true (by kernel_rfl)) (by kernel_rfl) ?_
  intro s
  conv => whnf
  repeat' (first
    | (refine ⟨Sub.refl _, ?_⟩)
    | (refine brA_split (fun h => ?_) (fun h => ?_) <;> (try rw [h]) <;> (try simp only [Bool.false_eq_true, Bool.true_eq_false, ↓reduceIte, decide_eq_true_eq, decide_eq_false_iff_not, Bool.not_eq_true', Bool.not_eq_false'] at h) <;> (conv => whnf))
    | (refine getB_same ?_; conv => whnf)
    | (refine AWp.any (by kernel_rfl) (by kernel_rfl) (by kernel_rfl) ?_; conv => whnf)
    | (apply And.intro; (focus (first | omega | rfl | decide | exact Nat.le_of_ble_eq_true rfl | ((repeat' (first | exact all_nil | refine all_cons ?_ ?_ | rfl | fail)); done) | (simp [-List.length_flatMap]; done) | (simp [-List.length_flatMap]; omega) | fail)); conv => whnf)
    | fail)
  refine AWp.loopA [3] [4, 5, 6, 7, 8, 9, 10, 11, 12, 13, 14, 15, 16, 17, 18, 19, 20, 21, 22, 23, 24, 25, 26, 27, 28, 29, 30, 31, 32, 33, 34, 35, 36, 37, 38, 39, 40, 41, 42, 43, 44, 45, 46, 2, 47, 48] (fun i : Nat => [.int .i64 i]) (fun i s' => i ≤ l.length ∧ s' = s ∧ blankN l = i + blankF false (l.drop i)) (fun i => l.length - i) (0) (by kernel_rfl) (by (repeat' (first | refine cons_eq ?_ ?_ | refine int64_of ?_ ?_ ?_ | rfl | omega))) ?_ ?_
  · exact ⟨by omega, rfl, by rw [List.drop_zero]; simp [blankN]⟩
  · rintro x i s1 ⟨h1, rfl, h2⟩
    show awp _ _ _ _ _ (updL _ _ [.int .i64 (i : Int)]) _
    conv => whnf
    have hb := b35 (b := byteAt l i)
    by_cases hlt : i < l.length
    · have hd := drop_byte hlt
      by_cases h35 : byteAt l i = 35
      · have h35' : ((byteAt l ((i : Int)).toNat).toNat : Int) = 35 := hb.2 h35
        have hx : blankF false (l.drop i) = blankF true (l.drop i) := by rw [hd, h35, blankF_35]
        rw [hx] at h2
        repeat' (first
          | (exfalso; first | omega | exact (by assumption : ¬ True) trivial | fail)
          | (refine ⟨Sub.refl _, ?_⟩)
          | (refine brA_split (fun h => ?_) (fun h => ?_) <;> (try rw [h]) <;> (try simp only [Bool.false_eq_true, Bool.true_eq_false, ↓reduceIte, decide_eq_true_eq, decide_eq_false_iff_not, Bool.not_eq_true', Bool.not_eq_false'] at h) <;> (conv => whnf))
          | (refine getB_same ?_; conv => whnf)
          | (refine AWp.any (by kernel_rfl) (by kernel_rfl) (by kernel_rfl) ?_; conv => whnf)
          | (apply And.intro; (focus (first | omega | rfl | decide | exact Nat.le_of_ble_eq_true rfl | ((repeat' (first | exact all_nil | refine all_cons ?_ ?_ | rfl | fail)); done) | (simp [-List.length_flatMap]; done) | (simp [-List.length_flatMap]; omega) | fail)); conv => whnf)
          | fail)
        refine AWp.loopA [3] [12, 13, 14, 15, 16, 17, 18, 19, 20, 21, 22, 23] (fun j : Nat => [.int .i64 j]) (fun j s' => (i ≤ j ∧ j ≤ l.length) ∧ s' = s1 ∧ blankN l = j + blankF true (l.drop j)) (fun j => l.length - j) (i) (by kernel_rfl) (by (repeat' (first | refine cons_eq ?_ ?_ | refine int64_of ?_ ?_ ?_ | rfl | omega))) ?_ ?_
        · exact ⟨⟨by omega, by omega⟩, rfl, h2⟩
        · rintro y j s2 ⟨⟨j1, j2⟩, rfl, j3⟩
          show awp _ _ _ _ _ (updL _ _ [.int .i64 (j : Int)]) _
          conv => whnf
          have hb2 := b10 (b := byteAt l j)
          have hz : byteAt l ((j : Int)).toNat = byteAt l j := rfl
          by_cases hjl : j < l.length
          · have hdj := drop_byte hjl
            repeat' (first
              | (exfalso; first | omega | exact (by assumption : ¬ True) trivial | fail)
              | (refine ⟨Sub.refl _, ?_⟩)
              | (refine brA_split (fun h => ?_) (fun h => ?_) <;> (try rw [h]) <;> (try simp only [Bool.false_eq_true, Bool.true_eq_false, ↓reduceIte, decide_eq_true_eq, decide_eq_false_iff_not, Bool.not_eq_true', Bool.not_eq_false'] at h) <;> (conv => whnf))
              | (rw [hz]; conv => whnf)
              | (refine getB_same ?_; conv => whnf)
              | (refine AWp.any (by kernel_rfl) (by kernel_rfl) (by kernel_rfl) ?_; conv => whnf)
              | (apply And.intro; (focus (first | omega | rfl | decide | exact Nat.le_of_ble_eq_true rfl | ((repeat' (first | exact all_nil | refine all_cons ?_ ?_ | rfl | fail)); done) | (simp [-List.length_flatMap]; done) | (simp [-List.length_flatMap]; omega) | fail)); conv => whnf)
              | fail)
            · refine ⟨j + 1, by (repeat' (first | refine cons_eq ?_ ?_ | refine int64_of ?_ ?_ ?_ | rfl | omega)), by (repeat (first | exact Same.refl _ _ | refine Same.upd rfl ?_ | refine Same.updL rfl ?_ | refine Same.havoc rfl ?_)), ⟨⟨by omega, by omega⟩, by first | rfl | trivial, ?_⟩, by omega⟩
              rw [j3, hdj, blankF, if_neg (fun hc => h (hb2.2 hc))]; omega
            · have h10 := hb2.1 h
              refine ⟨j, by (repeat' (first | refine cons_eq ?_ ?_ | refine int64_of ?_ ?_ ?_ | rfl | omega)), by (repeat (first | exact Same.refl _ _ | refine Same.upd rfl ?_ | refine Same.updL rfl ?_ | refine Same.havoc rfl ?_)), ⟨by omega, by first | rfl | trivial, ?_⟩, ?_⟩
              · rw [j3, hdj, h10, blankF_10]
              · have : i ≠ j := by
                  rintro rfl
                  rw [h35] at h10
                  cases h10
                omega
          · repeat' (first
              | (exfalso; first | omega | exact (by assumption : ¬ True) trivial | fail)
              | (refine ⟨Sub.refl _, ?_⟩)
              | (refine brA_split (fun h => ?_) (fun h => ?_) <;> (try rw [h]) <;> (try simp only [Bool.false_eq_true, Bool.true_eq_false, ↓reduceIte, decide_eq_true_eq, decide_eq_false_iff_not, Bool.not_eq_true', Bool.not_eq_false'] at h) <;> (conv => whnf))
              | (refine getB_same ?_; conv => whnf)
              | (refine AWp.any (by kernel_rfl) (by kernel_rfl) (by kernel_rfl) ?_; conv => whnf)
              | (apply And.intro; (focus (first | omega | rfl | decide | exact Nat.le_of_ble_eq_true rfl | ((repeat' (first | exact all_nil | refine all_cons ?_ ?_ | rfl | fail)); done) | (simp [-List.length_flatMap]; done) | (simp [-List.length_flatMap]; omega) | fail)); conv => whnf)
              | fail)
            refine ⟨j, by (repeat' (first | refine cons_eq ?_ ?_ | refine int64_of ?_ ?_ ?_ | rfl | omega)), by (repeat (first | exact Same.refl _ _ | refine Same.upd rfl ?_ | refine Same.updL rfl ?_ | refine Same.havoc rfl ?_)), ⟨by omega, by first | rfl | trivial, ?_⟩, by omega⟩
            rw [j3, drop_end hjl]; rfl
      · have h35'' : ¬ ((byteAt l i).toNat : Int) = 35 := fun hh => h35 (hb.1 hh)
        have h35' : ¬ ((byteAt l ((i : Int)).toNat).toNat : Int) = 35 := fun hh => h35 (hb.1 hh)
        have hbl := blankc_iff (byteAt l i)
        have hz : byteAt l ((i : Int)).toNat = byteAt l i := rfl
        repeat' (first
          | (exfalso; first | omega | exact (by assumption : ¬ True) trivial | fail)
          | (refine ⟨Sub.refl _, ?_⟩)
          | (refine brA_split (fun h => ?_) (fun h => ?_) <;> (try rw [h]) <;> (try simp only [Bool.false_eq_true, Bool.true_eq_false, ↓reduceIte, decide_eq_true_eq, decide_eq_false_iff_not, Bool.not_eq_true', Bool.not_eq_false'] at h) <;> (conv => whnf))
          | (rw [hz]; conv => whnf)
          | (refine getB_same ?_; conv => whnf)
          | (refine AWp.any (by kernel_rfl) (by kernel_rfl) (by kernel_rfl) ?_; conv => whnf)
          | (apply And.intro; (focus (first | omega | rfl | decide | exact Nat.le_of_ble_eq_true rfl | ((repeat' (first | exact all_nil | refine all_cons ?_ ?_ | rfl | fail)); done) | (simp [-List.length_flatMap]; done) | (simp [-List.length_flatMap]; omega) | fail)); conv => whnf)
          | fail)
        · rw [h2, hd, blankF, if_neg h35, if_neg (fun hh => by have := hbl.1 hh; omega)]
          rfl
        all_goals (
          refine ⟨i + 1, by (repeat' (first | refine cons_eq ?_ ?_ | refine int64_of ?_ ?_ ?_ | rfl | omega)), by (repeat (first | exact Same.refl _ _ | refine Same.upd rfl ?_ | refine Same.updL rfl ?_ | refine Same.havoc rfl ?_)), ⟨by omega, by first | rfl | trivial, ?_⟩, by omega⟩
          rw [h2, hd, blankF, if_neg h35, if_pos (hbl.2 (by omega))]; omega)
    · repeat' (first
        | (exfalso; first | omega | exact (by assumption : ¬ True) trivial | fail)
        | (refine ⟨Sub.refl _, ?_⟩)
        | (refine brA_split (fun h => ?_) (fun h => ?_) <;> (try rw [h]) <;> (try simp only [Bool.false_eq_true, Bool.true_eq_false, ↓reduceIte, decide_eq_true_eq, decide_eq_false_iff_not, Bool.not_eq_true', Bool.not_eq_false'] at h) <;> (conv => whnf))
        | (refine getB_same ?_; conv => whnf)
        | (refine AWp.any (by kernel_rfl) (by kernel_rfl) (by kernel_rfl) ?_; conv => whnf)
        | (apply And.intro; (focus (first | omega | rfl | decide | exact Nat.le_of_ble_eq_true rfl | ((repeat' (first | exact all_nil | refine all_cons ?_ ?_ | rfl | fail)); done) | (simp [-List.length_flatMap]; done) | (simp [-List.length_flatMap]; omega) | fail)); conv => whnf)
        | fail)
      rw [h2, drop_end hlt]
      rfl
/-- The last place of a byte; -1: none. -/
def lastB : List UInt8 → UInt8 → Int
  | [], _ => -1
  | b :: r, c => if lastB r c ≠ -1 then lastB r c + 1 else if b = c then 0 else -1
theorem lastB_ge : ∀ (l : List UInt8) (c : UInt8), -1 ≤ lastB l c ∧ lastB l c < l.length
  | [], c => ⟨Int.le_refl _, by simp [lastB]⟩
  | b :: r, c => by
    have := lastB_ge r c
    unfold lastB
    split
    · simp only [List.length_cons]; omega
    · split <;> simp only [List.length_cons] <;> omega
theorem lastB_app : ∀ (l : List UInt8) (b c : UInt8), lastB (l ++ [b]) c = if b = c then (l.length : Int) else lastB l c
  | [], b, c => by simp [lastB]
  | a :: r, b, c => by
    rw [List.cons_append, lastB, lastB_app r b c, lastB]
    by_cases hb : b = c
    · simp [hb]
    · simp [hb]
theorem lastB_none : ∀ (l : List UInt8) (c : UInt8), lastB l c = -1 ↔ l.count c = 0
  | [], c => by simp [lastB]
  | b :: r, c => by
    have := lastB_none r c
    have hg := (lastB_ge r c).1
    rw [lastB, List.count_cons]
    by_cases hr : lastB r c = -1
    · have h0 := this.1 hr
      by_cases hb : b = c <;> simp [hr, h0, hb]
    · have h0 : List.count c r ≠ 0 := fun h => hr (this.2 h)
      rw [if_pos hr]
      constructor
      · intro h; omega
      · intro h; omega
theorem lastByte_ok (l : List UInt8) (c : UInt8) (hl : l.length ≤ 1048576) : APure Tryd.prog Γ 17 [.str l, .int .u8 c.toNat] fun v => v = .int .i64 (lastB l c) := by
  have inner : ∀ Γ : Nat → AV, APure Tryd.prog Γ 35 [.str l, .int .u8 c.toNat] fun v => v = .int .i64 (lastB l c) := by
    intro Γ
    refine APure.of_awp Tryd.func35 rfl (Nat.le_of_ble_eq_true (by kernel_rfl)) (by kernel_rfl) ?_
    intro s
    conv => whnf
    repeat' (first
      | (exfalso; first | omega | exact (by assumption : ¬ True) trivial | fail)
      | (refine ⟨Sub.refl _, ?_⟩)
      | (refine brA_split (fun h => ?_) (fun h => ?_) <;> (try rw [h]) <;> (try simp only [Bool.false_eq_true, Bool.true_eq_false, ↓reduceIte, decide_eq_true_eq, decide_eq_false_iff_not, Bool.not_eq_true', Bool.not_eq_false'] at h) <;> (conv => whnf))
      | (refine getB_same ?_; conv => whnf)
      | (refine AWp.any (by kernel_rfl) (by kernel_rfl) (by kernel_rfl) ?_; conv => whnf)
      | (apply And.intro; (focus (first | omega | rfl | decide | exact Nat.le_of_ble_eq_true rfl | ((repeat' (first | exact all_nil | refine all_cons ?_ ?_ | rfl | fail)); done) | (simp [-List.length_flatMap]; done) | (simp [-List.length_flatMap]; omega) | fail)); conv => whnf)
      | fail)
    refine AWp.loopA [5] [9, 10, 13, 14, 15, 16, 17, 18, 4, 11, 12] (fun i : Nat => [.int .i64 ((i : Int) - 1)]) (fun i s' => i ≤ l.length ∧ s' = s ∧ lastB l c = lastB (l.take i) c) (fun i => i) (l.length) (by kernel_rfl) (by (repeat' (first | refine cons_eq ?_ ?_ | refine int64_of ?_ ?_ ?_ | rfl | omega))) ?_ ?_
    · exact ⟨by omega, rfl, by rw [List.take_length]⟩
    · rintro x i s1 ⟨h1, rfl, h2⟩
      show awp _ _ _ _ _ (updL _ _ [.int .i64 ((i : Int) - 1)]) _
      conv => whnf
      by_cases hi : i = 0
      · subst hi
        repeat' (first
          | (exfalso; first | omega | exact (by assumption : ¬ True) trivial | fail)
          | (refine ⟨Sub.refl _, ?_⟩)
          | (refine brA_split (fun h => ?_) (fun h => ?_) <;> (try rw [h]) <;> (try simp only [Bool.false_eq_true, Bool.true_eq_false, ↓reduceIte, decide_eq_true_eq, decide_eq_false_iff_not, Bool.not_eq_true', Bool.not_eq_false'] at h) <;> (conv => whnf))
          | (refine getB_same ?_; conv => whnf)
          | (refine AWp.any (by kernel_rfl) (by kernel_rfl) (by kernel_rfl) ?_; conv => whnf)
          | (apply And.intro; (focus (first | omega | rfl | decide | exact Nat.le_of_ble_eq_true rfl | ((repeat' (first | exact all_nil | refine all_cons ?_ ?_ | rfl | fail)); done) | (simp [-List.length_flatMap]; done) | (simp [-List.length_flatMap]; omega) | fail)); conv => whnf)
          | fail)
        rw [h2]; rfl
      · obtain ⟨k, rfl⟩ : ∃ k, i = k + 1 := ⟨i - 1, by omega⟩
        have hz : (((k + 1 : Nat) : Int) - 1) = (k : Int) := by omega
        have ht : l.take (k + 1) = l.take k ++ [byteAt l k] := take_byte (by omega)
        rw [hz]
        repeat' (first
          | (exfalso; first | omega | exact (by assumption : ¬ True) trivial | fail)
          | (refine ⟨Sub.refl _, ?_⟩)
          | (refine brA_split (fun h => ?_) (fun h => ?_) <;> (try rw [h]) <;> (try simp only [Bool.false_eq_true, Bool.true_eq_false, ↓reduceIte, decide_eq_true_eq, decide_eq_false_iff_not, Bool.not_eq_true', Bool.not_eq_false'] at h) <;> (conv => whnf))
          | (refine getB_same ?_; conv => whnf)
          | (refine AWp.any (by kernel_rfl) (by kernel_rfl) (by kernel_rfl) ?_; conv => whnf)
          | (apply And.intro; (focus (first | omega | rfl | decide | exact Nat.le_of_ble_eq_true rfl | ((repeat' (first | exact all_nil | refine all_cons ?_ ?_ | rfl | fail)); done) | (simp [-List.length_flatMap]; done) | (simp [-List.length_flatMap]; omega) | fail)); conv => whnf)
          | fail)
        all_goals (try simp only [Int.toNat_natCast] at *)
        · rw [h2, ht, lastB_app, if_pos (UInt8.toNat.inj (by omega)), List.length_take]
          exact congrArg (AV.int .i64) (by omega)
        · refine ⟨k, ?_, by (repeat (first | exact Same.refl _ _ | refine Same.upd rfl ?_ | refine Same.updL rfl ?_ | refine Same.havoc rfl ?_)), ⟨by omega, by first | rfl | trivial, ?_⟩, by omega⟩
          · exact cons_eq (by show AV.int .i64 (IntKind.i64.wrap ((k : Int) - 1)) = _; rw [i64_of (b := (k : Int) - 1) rfl (by omega) (by omega)]) rfl
          · rw [h2, ht, lastB_app, if_neg]
            rintro hh
            rename_i h
            exact h (by rw [hh])
  refine APure.of_awp Tryd.func17 rfl (Nat.le_of_ble_eq_true (by kernel_rfl)) (by kernel_rfl) ?_
  intro s
  conv => whnf
  repeat' (first
    | (refine ⟨Sub.refl _, ?_⟩)
    | (refine brA_split (fun h => ?_) (fun h => ?_) <;> (try rw [h]) <;> (try simp only [Bool.false_eq_true, Bool.true_eq_false, ↓reduceIte, decide_eq_true_eq, decide_eq_false_iff_not, Bool.not_eq_true', Bool.not_eq_false'] at h) <;> (conv => whnf))
    | (refine ACalls.pure' ?_ (inner _); rintro _ rfl; conv => whnf)
    | (refine DCall.pure ?_ (inner _); conv => whnf)
    | (refine getB_same ?_; conv => whnf)
    | (refine AWp.any (by kernel_rfl) (by kernel_rfl) (by kernel_rfl) ?_; conv => whnf)
    | (apply And.intro; (focus (first | omega | rfl | decide | exact Nat.le_of_ble_eq_true rfl | ((repeat' (first | exact all_nil | refine all_cons ?_ ?_ | rfl | fail)); done) | (simp [-List.length_flatMap]; done) | (simp [-List.length_flatMap]; omega) | fail)); conv => whnf)
    | fail)
  rfl
/-- Where a text goes on behind some bytes. -/
def placeF : Int × Int → List UInt8 → Int × Int
  | p, [] => p
  | p, c :: r => placeF (if c = 10 then (p.1 + 1, 1) else (p.1, p.2 + 1)) r
theorem placeF_eq : ∀ (l : List UInt8) (a b : Int), placeF (a, b) l = if l.count 10 = 0 then (a, b + l.length) else (a + l.count 10, l.length - lastB l 10)
  | [], a, b => by simp [placeF]
  | c :: r, a, b => by
    have hn := lastB_none r 10
    have hg := lastB_ge r 10
    rw [placeF, lastB, List.count_cons]
    by_cases hc : c = 10
    · subst hc
      simp only [if_true, BEq.rfl]
      rw [placeF_eq r, if_neg (by omega : ¬ r.count 10 + 1 = 0)]
      by_cases h0 : r.count 10 = 0
      · rw [if_pos h0, if_neg (by simp [hn.2 h0])]
        simp only [h0, List.length_cons]
        refine Prod.ext ?_ ?_ <;> simp <;> omega
      · rw [if_neg h0, if_pos (fun h => h0 (hn.1 h))]
        simp only [List.length_cons]
        refine Prod.ext ?_ ?_ <;> simp <;> omega
    · have hcb : (c == 10) = false := by simpa using hc
      simp only [if_neg hc, hcb]
      rw [placeF_eq r]
      by_cases h0 : r.count 10 = 0
      · rw [if_pos h0, if_pos (by simp [h0])]
        simp only [List.length_cons]
        refine Prod.ext ?_ ?_ <;> simp <;> omega
      · rw [if_neg h0, if_neg (by simp [h0]), if_pos (fun h => h0 (hn.1 h))]
        simp only [List.length_cons]
        refine Prod.ext ?_ ?_ <;> simp <;> omega
theorem placeF_app : ∀ (l m : List UInt8) (p : Int × Int), placeF p (l ++ m) = placeF (placeF p l) m
  | [], m, p => rfl
  | c :: r, m, p => by rw [List.cons_append, placeF, placeF, placeF_app r m]
theorem placeF_bound (l : List UInt8) (a b : Int) (ha : 0 ≤ a) (hb : 0 ≤ b) : (0 ≤ (placeF (a, b) l).1 ∧ (placeF (a, b) l).1 ≤ a + l.length) ∧ 0 ≤ (placeF (a, b) l).2 ∧ (placeF (a, b) l).2 ≤ b + l.length + 1 := by
  have := List.count_le_length (a := (10 : UInt8)) (l := l)
  have hg := lastB_ge l 10
  rw [placeF_eq]
  split
  · simp only; omega
  · simp only; omega
theorem move_ok (a b : Int) (l : List UInt8) (hl : l.length ≤ 1048576) (ha : 0 ≤ a ∧ a ≤ 100000000) (hb : 0 ≤ b ∧ b ≤ 100000000) :
    APure Tryd.prog Γ 9 [.int .i64 a, .int .i64 b, .str l] fun v => v = .tuple [.int .i64 (placeF (a, b) l).1, .int .i64 (placeF (a, b) l).2] := by
  have h1 := count_ok (Γ := Γ) l
  have h2 := lastByte_ok (Γ := Γ) l 10 hl
  have h3 := List.count_le_length (a := (10 : UInt8)) (l := l)
  have hg := lastB_ge l 10
  rw [placeF_eq]
  refine APure.of_awp Tryd.func9 rfl (Nat.le_of_ble_eq_true (by kernel_rfl)) (by kernel_rfl) ?_
  intro s
  conv => whnf
  repeat' (first
    | (exfalso; first | omega | exact (by assumption : ¬ True) trivial | fail)
    | (refine ⟨Sub.refl _, ?_⟩)
    | (refine brA_split (fun h => ?_) (fun h => ?_) <;> (try rw [h]) <;> (try simp only [Bool.false_eq_true, Bool.true_eq_false, ↓reduceIte, decide_eq_true_eq, decide_eq_false_iff_not, Bool.not_eq_true', Bool.not_eq_false'] at h) <;> (conv => whnf))
    | (refine ACalls.pure' ?_ (h1); rintro _ rfl; conv => whnf)
    | (refine DCall.pure ?_ (h1); conv => whnf)
    | (refine ACalls.pure' ?_ (h2); rintro _ rfl; conv => whnf)
    | (refine DCall.pure ?_ (h2); conv => whnf)
    | (refine getB_same ?_; conv => whnf)
    | (refine AWp.any (by kernel_rfl) (by kernel_rfl) (by kernel_rfl) ?_; conv => whnf)
    | (apply And.intro; (focus (first | omega | rfl | decide | exact Nat.le_of_ble_eq_true rfl | ((repeat' (first | exact all_nil | refine all_cons ?_ ?_ | rfl | fail)); done) | (simp [-List.length_flatMap]; done) | (simp [-List.length_flatMap]; omega) | fail)); conv => whnf)
    | fail)
  · rw [if_pos (by omega), i64_of (b := b + l.length) rfl (by omega) (by omega)]
    rfl
  · rw [if_neg (by omega), i64_of (b := a + l.count 10) rfl (by omega) (by omega), i64_of (b := l.length - lastB l 10) rfl (by omega) (by omega)]
    rfl
end Go.Proofs.YtnelknhacamboaaDoor.Lx
