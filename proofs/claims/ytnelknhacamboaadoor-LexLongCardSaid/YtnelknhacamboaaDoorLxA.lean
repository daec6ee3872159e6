
/- Chapter 9: what a text is made of: letters, blanks, and where a text goes on. -/
import Derived.Test.YtnelknhacamboaaDoorFg4
import Derived.Test.YtnelknhacamboaaDoorIx1
import Derived.Test.YtnelknhacamboaaDoorScB
import Derived.Test.YtnelknhacamboaaDoorQuF
import Derived.Test.YtnelknhacamboaaDoorShelf
set_option linter.all false
namespace Go.Proofs.YtnelknhacamboaaDoor.Lx
open Go Go.Ab Go.RowKit Go.Proofs.YtnelknhacamboaaDoor.Sc
variable {Γ : Nat → AV}
attribute [local irreducible] APure Sto.set Sto.grow
set_option maxRecDepth 10000
set_option maxHeartbeats 1000000

theorem byte_lit {b : UInt8} {n : Nat} (hn : n < 256) : (b.toNat : Int) = n ↔ b = UInt8.ofNat n := by
  constructor
  · intro h
    have : b.toNat = n := Int.ofNat.inj h
    rw [← this]; simp
  · rintro rfl
    simp [Nat.mod_eq_of_lt hn]
theorem b10 {b : UInt8} : (b.toNat : Int) = 10 ↔ b = 10 := byte_lit (n := 10) (by decide)
theorem b34 {b : UInt8} : (b.toNat : Int) = 34 ↔ b = 34 := byte_lit (n := 34) (by decide)
theorem b35 {b : UInt8} : (b.toNat : Int) = 35 ↔ b = 35 := byte_lit (n := 35) (by decide)
theorem progLetter_ok (n : Int) : APure Tryd.prog Γ 19 [.int .u8 n] fun v => v = .bool (wordc n) := by
  refine APure.of_awp Tryd.func19 rfl (Nat.le_of_ble_eq_true (by kernel_rfl)) (by kernel_rfl) ?_
  intro s
  conv => whnf
  repeat' (first
    | (exfalso; first | omega | exact (by assumption : ¬ True) trivial | fail)
    | (refine ⟨Sub.refl _, ?_⟩)
    | (refine brA_split (fun h => ?_) (fun h => ?_) <;> (try rw [h]) <;> (try simp only [Bool.false_eq_true, Bool.true_eq_false, ↓reduceIte, decide_eq_true_eq, decide_eq_false_iff_not, Bool.not_eq_true', Bool.not_eq_false'] at h) <;> (conv => whnf))
    | (refine getB_same ?_; conv => whnf)
    | (refine AWp.any (by kernel_rfl) (by kernel_rfl) (by kernel_rfl) ?_; conv => whnf)
    | (apply And.intro; (focus (first | omega | rfl | decide | exact Nat.le_of_ble_eq_true rfl | ((repeat' (first | exact all_nil | refine all_cons ?_ ?_ | rfl | fail)); done) | (simp [-List.length_flatMap]; done) | (simp [-List.length_flatMap]; omega) | fail)); conv => whnf)
    | fail)
  all_goals refine bool_eq ?_
  all_goals unfold wordc
  all_goals simp [*]
  all_goals omega
def digitc (n : Int) : Bool := decide (48 ≤ n) && decide (n ≤ 57)
theorem refDigit_ok (n : Int) : APure Tryd.prog Γ 29 [.int .u8 n] fun v => v = .bool (digitc n) := by
  refine APure.of_awp Tryd.func29 rfl (Nat.le_of_ble_eq_true (by kernel_rfl)) (by kernel_rfl) ?_
  intro s
  conv => whnf
  repeat' (first
    | (refine ⟨Sub.refl _, ?_⟩)
    | (refine brA_split (fun h => ?_) (fun h => ?_) <;> (try rw [h]) <;> (try simp only [Bool.false_eq_true, Bool.true_eq_false, ↓reduceIte, decide_eq_true_eq, decide_eq_false_iff_not, Bool.not_eq_true', Bool.not_eq_false'] at h) <;> (conv => whnf))
    | (refine getB_same ?_; conv => whnf)
    | (refine AWp.any (by kernel_rfl) (by kernel_rfl) (by kernel_rfl) ?_; conv => whnf)
    | (apply And.intro; (focus (first | omega | rfl | decide | exact Nat.le_of_ble_eq_true rfl | ((repeat' (first | exact all_nil | refine all_cons ?_ ?_ | rfl | fail)); done) | (simp [-List.length_flatMap]; done) | (simp [-List.length_flatMap]; omega) | fail)); conv => whnf)
    | fail)
  all_goals refine bool_eq ?_
  all_goals unfold digitc
  all_goals simp [*]
theorem refLetter_ok (n : Int) : APure Tryd.prog Γ 27 [.int .u8 n] fun v => v = .bool (wordc n) := by
  refine APure.of_awp Tryd.func27 rfl (Nat.le_of_ble_eq_true (by kernel_rfl)) (by kernel_rfl) ?_
  intro s
  conv => whnf
  repeat' (first
    | (exfalso; first | omega | exact (by assumption : ¬ True) trivial | fail)
    | (refine ⟨Sub.refl _, ?_⟩)
    | (refine brA_split (fun h => ?_) (fun h => ?_) <;> (try rw [h]) <;> (try simp only [Bool.false_eq_true, Bool.true_eq_false, ↓reduceIte, decide_eq_true_eq, decide_eq_false_iff_not, Bool.not_eq_true', Bool.not_eq_false'] at h) <;> (conv => whnf))
    | (refine ACalls.pure' ?_ (refDigit_ok _); rintro _ rfl; conv => whnf)
    | (refine DCall.pure ?_ (refDigit_ok _); conv => whnf)
    | (refine getB_same ?_; conv => whnf)
    | (refine AWp.any (by kernel_rfl) (by kernel_rfl) (by kernel_rfl) ?_; conv => whnf)
    | (apply And.intro; (focus (first | omega | rfl | decide | exact Nat.le_of_ble_eq_true rfl | ((repeat' (first | exact all_nil | refine all_cons ?_ ?_ | rfl | fail)); done) | (simp [-List.length_flatMap]; done) | (simp [-List.length_flatMap]; omega) | fail)); conv => whnf)
    | fail)
  all_goals refine bool_eq ?_
  all_goals unfold wordc
  all_goals (try unfold digitc)
  all_goals simp [*]
  all_goals omega
/-- A blank, or a line's end. -/
def blankc (n : Int) : Bool := decide (n = 32) || decide (n = 9) || decide (n = 10) || decide (n = 13)
theorem isBlank_ok (n : Int) : APure Tryd.prog Γ 14 [.int .u8 n] fun v => v = .bool (blankc n) := by
  refine APure.of_awp Tryd.func14 rfl (Nat.le_of_ble_eq_true (by kernel_rfl)) (by kernel_rfl) ?_
  intro s
  conv => whnf
  repeat' (first
    | (refine ⟨Sub.refl _, ?_⟩)
    | (refine brA_split (fun h => ?_) (fun h => ?_) <;> (try rw [h]) <;> (try simp only [Bool.false_eq_true, Bool.true_eq_false, ↓reduceIte, decide_eq_true_eq, decide_eq_false_iff_not, Bool.not_eq_true', Bool.not_eq_false'] at h) <;> (conv => whnf))
    | (refine getB_same ?_; conv => whnf)
    | (refine AWp.any (by kernel_rfl) (by kernel_rfl) (by kernel_rfl) ?_; conv => whnf)
    | (apply And.intro; (focus (first | omega | rfl | decide | exact Nat.le_of_ble_eq_true rfl | ((repeat' (first | exact all_nil | refine all_cons ?_ ?_ | rfl | fail)); done) | (simp [-List.length_flatMap]; done) | (simp [-List.length_flatMap]; omega) | fail)); conv => whnf)
    | fail)
  all_goals refine bool_eq ?_
  all_goals unfold blankc
  all_goals simp [*]
/-- How many bytes from the beginning are no token's; in a remark or not. -/
def blankF : Bool → List UInt8 → Nat
  | _, [] => 0
  | true, c :: r => if c = 10 then blankF false r + 1 else blankF true r + 1
  | false, c :: r => if c = 35 then blankF true r + 1 else if blankc c.toNat = true then blankF false r + 1 else 0
def blankN (l : List UInt8) : Nat := blankF false l
theorem blankF_le : ∀ (l : List UInt8) (b : Bool), blankF b l ≤ l.length
  | [], b => by cases b <;> exact Nat.le_refl _
  | c :: r, b => by
    have h1 := blankF_le r true
    have h2 := blankF_le r false
    cases b
    · rw [blankF]
      split
      · simp only [List.length_cons]; omega
      · split
        · simp only [List.length_cons]; omega
        · omega
    · rw [blankF]
      split
      · simp only [List.length_cons]; omega
      · simp only [List.length_cons]; omega
theorem blankN_le (l : List UInt8) : blankN l ≤ l.length := blankF_le l false
theorem blankF_true : ∀ q : List UInt8, (Lib.indexByte q 10 = -1 → blankF true q = q.length) ∧ ∀ n : Nat, Lib.indexByte q 10 = n → blankF true q = n + blankF false (q.drop n)
  | [] => ⟨fun _ => rfl, fun n h => by unfold Lib.indexByte at h; omega⟩
  | c :: r => by
    have ih := blankF_true r
    have hge := Lib.indexByte_ge r 10
    unfold Lib.indexByte
    by_cases hc : c = 10
    · subst hc
      refine ⟨fun h => by simp at h, fun n h => ?_⟩
      simp at h
      have : n = 0 := by omega
      subst this
      simp [blankF, blankc]
    · have hcb : (c == 10) = false := by simpa using hc
      rw [hcb]
      simp only [Bool.false_eq_true, if_false]
      rw [blankF, if_neg hc]
      by_cases hr : Lib.indexByte r 10 = -1
      · rw [hr]
        refine ⟨fun _ => by rw [ih.1 hr, List.length_cons], fun n h => by simp at h <;> omega⟩
      · have : (Lib.indexByte r 10 == -1) = false := by simpa using hr
        rw [this]
        simp only [Bool.false_eq_true, if_false]
        refine ⟨fun h => by omega, fun n h => ?_⟩
        obtain ⟨m, rfl⟩ : ∃ m, n = m + 1 := ⟨n - 1, by omega⟩
        rw [ih.2 m (by omega)]
        simp only [List.drop_succ_cons]
        omega
theorem blankF_35 (r : List UInt8) : blankF false (35 :: r) = blankF true (35 :: r) := by rw [blankF, blankF, if_pos rfl, if_neg (by decide)]
theorem idx_bound (q : List UInt8) (h : Lib.indexByte q 10 ≠ -1) : ∃ n : Nat, Lib.indexByte q 10 = n ∧ n < q.length := by
  have := Lib.indexByte_ge q 10
  refine ⟨(Lib.indexByte q 10).toNat, by omega, ?_⟩
  have h2 := (Lib.indexByte_some (l := q) (c := 10) (o := (Lib.indexByte q 10).toNat) (by omega)).1
  exact (List.getElem?_eq_some_iff.1 h2).1
theorem progBlank_ok (l : List UInt8) (hl : l.length ≤ 1048576) : APure Tryd.prog Γ 8 [.str l] fun v => v = .int .i64 (blankN l) := by
  refine APure.of_awp Tryd.func8 rfl (Nat.le_of_ble_eq_true (by kernel_rfl)) (by kernel_rfl) ?_
  intro s
  conv => whnf
  repeat' (first
    | (refine ⟨Sub.refl _, ?_⟩)
    | (refine brA_split (fun h => ?_) (fun h => ?_) <;> (try rw [h]) <;> (try simp only [Bool.false_eq_true, Bool.true_eq_false, ↓reduceIte, decide_eq_true_eq, decide_eq_false_iff_not, Bool.not_eq_true', Bool.not_eq_false'] at h) <;> (conv => whnf))
    | (refine getB_same ?_; conv => whnf)
    | (refine AWp.any (by kernel_rfl) (by kernel_rfl) (by kernel_rfl) ?_; conv => whnf)
    | (apply And.intro; (focus (first | omega | rfl | decide | exact Nat.le_of_ble_eq_true rfl | ((repeat' (first | exact all_nil | refine all_cons ?_ ?_ | rfl | fail)); done) | (simp [-List.length_flatMap]; done) | (simp [-List.length_flatMap]; omega) | fail)); conv => whnf)
    | fail)
  refine AWp.loopA [4] [6, 7, 8, 9, 10, 11, 12, 13, 14, 15, 16, 17, 5, 18, 19, 20, 21, 2, 22, 23, 24, 25, 26, 27, 28, 29, 30, 31, 32] (fun i : Nat => [.int .i64 i]) (fun i s' => i ≤ l.length ∧ s' = s ∧ blankN l = i + blankF false (l.drop i)) (fun i => l.length - i) (0) (by kernel_rfl) (by (repeat' (first | refine cons_eq ?_ ?_ | refine int64_of ?_ ?_ ?_ | rfl | omega))) ?_ ?_
  · exact ⟨by omega, rfl, by rw [List.drop_zero]; simp [blankN]⟩
  · rintro x i _ ⟨h1, rfl, h2⟩
    show awp _ _ _ _ _ (updL _ _ [.int .i64 (i : Int)]) _
    conv => whnf
    have hb := b35 (b := byteAt l i)
    have hA : List.drop ((i : Int)).toNat (List.take l.length l) = l.drop i := by rw [Int.toNat_natCast, drop_take_all]
    have hw : ∀ n : Nat, n ≤ l.length → IntKind.i64.wrap ((i : Int) + n) = ((i + n : Nat) : Int) := fun n hn => i64_of (by omega) (by omega) (by omega)
    by_cases hlt : i < l.length
    · have hd := drop_byte hlt
      by_cases h35 : byteAt l i = 35
      · have h35' := hb.2 h35
        have h35'' : ((byteAt l ((i : Int)).toNat).toNat : Int) = 35 := h35'
        have ht := blankF_true (l.drop i)
        have hlen : (l.drop i).length = l.length - i := List.length_drop
        have hx : blankF false (l.drop i) = blankF true (l.drop i) := by rw [hd, h35, blankF_35]
        have hix := Ix.indexByte_ok (Γ := Γ) (l.drop i) 10
        rw [show ((10 : Int).toNat.toUInt8) = 10 from rfl] at hix
        by_cases hn : Lib.indexByte (l.drop i) 10 = -1
        · rw [hn] at hix
          repeat' (first
            | (exfalso; first | omega | exact (by assumption : ¬ True) trivial | fail)
            | (refine ⟨Sub.refl _, ?_⟩)
            | (refine brA_split (fun h => ?_) (fun h => ?_) <;> (try rw [h]) <;> (try simp only [Bool.false_eq_true, Bool.true_eq_false, ↓reduceIte, decide_eq_true_eq, decide_eq_false_iff_not, Bool.not_eq_true', Bool.not_eq_false'] at h) <;> (conv => whnf))
            | (rw [hA]; conv => whnf)
            | (refine ACalls.pure' ?_ (hix); rintro _ rfl; conv => whnf)
            | (refine DCall.pure ?_ (hix); conv => whnf)
            | (refine getB_same ?_; conv => whnf)
            | (refine AWp.any (by kernel_rfl) (by kernel_rfl) (by kernel_rfl) ?_; conv => whnf)
            | (apply And.intro; (focus (first | omega | rfl | decide | exact Nat.le_of_ble_eq_true rfl | ((repeat' (first | exact all_nil | refine all_cons ?_ ?_ | rfl | fail)); done) | (simp [-List.length_flatMap]; done) | (simp [-List.length_flatMap]; omega) | fail)); conv => whnf)
            | fail)
          rw [h2, hx, ht.1 hn, hlen]
          exact congrArg (AV.int .i64) (by omega)
        · obtain ⟨n, hn1, hn2⟩ := idx_bound _ hn
          rw [hn1] at hix
          have hpos : n ≠ 0 := by
            rintro rfl
            have := (Lib.indexByte_some (l := l.drop i) (c := 10) (o := 0) hn1).1
            rw [hd, h35] at this
            cases this
          repeat' (first
            | (exfalso; first | omega | exact (by assumption : ¬ True) trivial | fail)
            | (refine ⟨Sub.refl _, ?_⟩)
            | (refine brA_split (fun h => ?_) (fun h => ?_) <;> (try rw [h]) <;> (try simp only [Bool.false_eq_true, Bool.true_eq_false, ↓reduceIte, decide_eq_true_eq, decide_eq_false_iff_not, Bool.not_eq_true', Bool.not_eq_false'] at h) <;> (conv => whnf))
            | (rw [hA]; conv => whnf)
            | (refine ACalls.pure' ?_ (hix); rintro _ rfl; conv => whnf)
            | (refine DCall.pure ?_ (hix); conv => whnf)
            | (refine getB_same ?_; conv => whnf)
            | (refine AWp.any (by kernel_rfl) (by kernel_rfl) (by kernel_rfl) ?_; conv => whnf)
            | (apply And.intro; (focus (first | omega | rfl | decide | exact Nat.le_of_ble_eq_true rfl | ((repeat' (first | exact all_nil | refine all_cons ?_ ?_ | rfl | fail)); done) | (simp [-List.length_flatMap]; done) | (simp [-List.length_flatMap]; omega) | fail)); conv => whnf)
            | fail)
          refine ⟨i + n, ?_, by (repeat (first | exact Same.refl _ _ | refine Same.upd rfl ?_ | refine Same.updL rfl ?_ | refine Same.havoc rfl ?_)), ⟨by omega, by first | rfl | trivial, ?_⟩, by omega⟩
          · exact cons_eq (by show AV.int .i64 (IntKind.i64.wrap ((i : Int) + n)) = _; rw [hw n (by omega)]) rfl
          · rw [h2, hx, ht.2 n hn1, List.drop_drop]; omega
      · have h35' : ¬ ((byteAt l i).toNat : Int) = 35 := fun hh => h35 (hb.1 hh)
        have h35'' : ¬ ((byteAt l ((i : Int)).toNat).toNat : Int) = 35 := h35'
        repeat' (first
          | (exfalso; first | omega | exact (by assumption : ¬ True) trivial | fail)
          | (refine ⟨Sub.refl _, ?_⟩)
          | (refine brA_split (fun h => ?_) (fun h => ?_) <;> (try rw [h]) <;> (try simp only [Bool.false_eq_true, Bool.true_eq_false, ↓reduceIte, decide_eq_true_eq, decide_eq_false_iff_not, Bool.not_eq_true', Bool.not_eq_false'] at h) <;> (conv => whnf))
          | (refine ACalls.pure' ?_ (isBlank_ok _); rintro _ rfl; conv => whnf)
          | (refine DCall.pure ?_ (isBlank_ok _); conv => whnf)
          | (refine getB_same ?_; conv => whnf)
          | (refine AWp.any (by kernel_rfl) (by kernel_rfl) (by kernel_rfl) ?_; conv => whnf)
          | (apply And.intro; (focus (first | omega | rfl | decide | exact Nat.le_of_ble_eq_true rfl | ((repeat' (first | exact all_nil | refine all_cons ?_ ?_ | rfl | fail)); done) | (simp [-List.length_flatMap]; done) | (simp [-List.length_flatMap]; omega) | fail)); conv => whnf)
          | fail)
        all_goals (try simp only [Int.toNat_natCast] at *)
        · rw [h2, hd, blankF, if_neg h35, if_neg (by simp_all)]
          rfl
        · refine ⟨i + 1, ?_, by (repeat (first | exact Same.refl _ _ | refine Same.upd rfl ?_ | refine Same.updL rfl ?_ | refine Same.havoc rfl ?_)), ⟨by omega, by first | rfl | trivial, ?_⟩, by omega⟩
          · exact cons_eq (by show AV.int .i64 (IntKind.i64.wrap ((i : Int) + 1)) = _; rw [show ((i : Int) + 1) = (i : Int) + (1 : Nat) by rfl, hw 1 (by omega)]) rfl
          · rw [h2, hd, blankF, if_neg h35, if_pos (by simp_all)]; omega
    · repeat' (first
        | (exfalso; first | omega | exact (by assumption : ¬ True) trivial | fail)
        | (refine ⟨Sub.refl _, ?_⟩)
        | (refine brA_split (fun h => ?_) (fun h => ?_) <;> (try rw [h]) <;> (try simp only [Bool.false_eq_true, Bool.true_eq_false, ↓reduceIte, decide_eq_true_eq, decide_eq_false_iff_not, Bool.not_eq_true', Bool.not_eq_false'] at h) <;> (conv => whnf))
        | (refine getB_same ?_; conv => whnf)
        | (refine AWp.any (by kernel_rfl) (by kernel_rfl) (by kernel_rfl) ?_; conv => whnf)
        | (apply And.intro; (focus (first | omega | rfl | decide | exact Nat.le_of_ble_eq_true rfl | ((repeat' (first | exact all_nil | refine all_cons ?_ ?_ | rfl | fail)); done) | (simp [-List.length_flatMap]; done) | (simp [-List.length_flatMap]; omega) | fail)); conv => whnf)
        | fail)
      rw [h2, drop_end hlt]
      rfl
end Go.Proofs.YtnelknhacamboaaDoor.Lx
