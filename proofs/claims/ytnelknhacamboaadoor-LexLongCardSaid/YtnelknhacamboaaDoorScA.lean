
/- Chapter 7: names. -/
import Derived.Test.YtnelknhacamboaaDoorAb23
import Derived.Test.YtnelknhacamboaaDoorShelf
import Derived.Test.YtnelknhacamboaaDoorChecked
import Derived.Laws.RangeAny
set_option linter.all false
namespace Go.Proofs.YtnelknhacamboaaDoor.Sc
open Go Go.Ab Go.RowKit
variable {Γ : Nat → AV}

/-- A letter, a digit or _. -/
def wordc (n : Int) : Bool := decide (n = 95) || (decide (48 ≤ n) && decide (n ≤ 57)) || (decide (65 ≤ n) && decide (n ≤ 90)) || (decide (97 ≤ n) && decide (n ≤ 122))
theorem wordc_high {n : Int} (h : 128 ≤ n) : wordc n = false := by
  simp [wordc]; omega

theorem odd_at (x : Nat) (W : World) : FnGives Tryd.prog 70 #[] #[encR x] (.bool (!wordc x)) W := by
  unfold FnGives encR
  go_enter Tryd.func70, Tryd.ntmps70
  go_wp2
  all_goals go_ret
  all_goals refine ⟨congrArg (fun b => Ending.returned (Value.bool b)) ?_, 0, rfl⟩
  all_goals grind [wordc]

/-- Where a text's first odd rune is. -/
theorem idx_spelt (l : List UInt8) : Lib.idxFunc (fun x => !wordc x) true ⟨l.toArray⟩ < 0 ↔ (l.all fun c => wordc c.toNat) = true := by
  have key : ∀ (f pos : Nat), l.length ≤ pos + f → (Lib.idxFuncFrom (fun x => !wordc x) true ⟨l.toArray⟩ f pos < 0 ↔ ((l.drop pos).all fun c => wordc c.toNat) = true) := by
    intro f
    induction f with
    | zero =>
      intro pos h
      rw [drop_end (by omega)]
      simp [Lib.idxFuncFrom]
    | succ f ih =>
      intro pos h
      simp only [Lib.idxFuncFrom]
      have hsz : (⟨l.toArray⟩ : ByteArray).size = l.length := rfl
      by_cases hp : pos < l.length
      · rw [if_pos (by rw [hsz]; exact hp), drop_byte hp]
        have hget : ((⟨l.toArray⟩ : ByteArray)[pos]'(by rw [hsz]; exact hp)) = byteAt l pos := by
          simp [byteAt, List.getD, hp]
          rfl
        by_cases ha : (byteAt l pos).toNat < 128
        · have hd := decode_ascii ⟨l.toArray⟩ pos (by rw [hsz]; exact hp) (by rw [hget]; exact ha)
          rw [hget] at hd
          rw [hd]
          simp only [List.all_cons]
          cases hw : wordc ((byteAt l pos).toNat : Int) with
          | true =>
            simp only [Bool.not_true, Bool.false_eq_true, if_false, Bool.true_and]
            exact ih (pos + 1) (by omega)
          | false => simp
        · have hd := decode_high ⟨l.toArray⟩ pos (by rw [hsz]; exact hp) (by rw [hget]; omega)
          have h1 : wordc ((Utf8.decode ⟨l.toArray⟩ pos).1 : Int) = false := wordc_high (by omega)
          have h2 : wordc ((byteAt l pos).toNat : Int) = false := wordc_high (by omega)
          rw [if_pos (by rw [h1]; rfl)]
          simp [h2]
      · rw [if_neg (by rw [hsz]; exact hp), drop_end hp]
        simp
  have := key l.length 0 (by omega)
  rw [List.drop_zero] at this
  exact this

theorem indexFunc_ok (l : List UInt8) : APure Tryd.prog Γ 71 [.str l, .func (.func 70) [] []] fun v => v = .int .i64 (Lib.idxFunc (fun x => !wordc x) true ⟨l.toArray⟩) := by
  intro s
  refine ACalls.of_below fun G w vs hm hr => ?_
  obtain ⟨u, us, rfl, hu, hus⟩ := RList_cons.1 hr
  obtain ⟨u1, us1, rfl, hu1, hus1⟩ := RList_cons.1 hus
  rw [RList_nil] at hus1; subst hus1
  rw [R_str] at hu; subst hu
  obtain ⟨a, b, rfl, ha, hb⟩ := R_func.1 hu1
  rw [RList_nil] at ha hb
  obtain rfl : a = #[] := by cases a; simp_all
  obtain rfl : b = #[] := by cases b; simp_all
  exact ⟨_, fun G' w' => R_int.2 rfl, Tryd.strings_IndexFunc 70 #[] (enters_of Tryd.func70 (by kernel_rfl) rfl) (fun x => !wordc x) ⟨l.toArray⟩ w fun W x _ => odd_at x W⟩

attribute [local irreducible] APure Sto.set Sto.grow
set_option maxRecDepth 10000

def spelt (l : List UInt8) : Bool := decide (1 ≤ l.length) && decide (l.length ≤ 32) && !(decide (48 ≤ (byteAt l 0).toNat) && decide ((byteAt l 0).toNat ≤ 57)) && l.all fun c => wordc c.toNat

theorem bool_eq {a b : Bool} (h : a = b) : AV.bool a = .bool b := by rw [h]
theorem spelt_first {l : List UInt8} (h1 : (48 : Int) ≤ (byteAt l 0).toNat) (h2 : ((byteAt l 0).toNat : Int) ≤ 57) : spelt l = false := by
  simp [spelt]; intro _ _ h; omega
theorem spelt_else {l : List UInt8} (h1 : 1 ≤ l.length) (h2 : l.length ≤ 32) (h3 : ¬ ((48 : Int) ≤ (byteAt l 0).toNat ∧ ((byteAt l 0).toNat : Int) ≤ 57)) : spelt l = l.all fun c => wordc c.toNat := by
  unfold spelt
  rw [decide_eq_true h1, decide_eq_true h2]
  have : (decide (48 ≤ (byteAt l 0).toNat) && decide ((byteAt l 0).toNat ≤ 57)) = false := by
    rw [← Bool.not_eq_true, Bool.and_eq_true, decide_eq_true_iff, decide_eq_true_iff]; omega
  rw [this]
  rfl
theorem spelt_char {l : List UInt8} {i : Nat} (hi : i < l.length) (h : wordc (byteAt l i).toNat = false) : spelt l = false := by
  have : (l.all fun c => wordc c.toNat) = false := by
    rw [← Bool.not_eq_true, List.all_eq_true]
    intro hh
    have hm : byteAt l i ∈ l := by simp [byteAt, List.getD, hi]
    rw [hh _ hm] at h
    cases h
  unfold spelt
  rw [this, Bool.and_false]
theorem progSpelt_any (l : List UInt8) : APure Tryd.prog Γ 51 [.str l] fun v => v = .bool (spelt l) := by
  have hb : decide (Lib.idxFunc (fun x => !wordc x) true ⟨l.toArray⟩ < 0) = l.all fun c => wordc c.toNat := by
    rw [Bool.eq_iff_iff, decide_eq_true_iff]; exact idx_spelt l
  rcases Nat.eq_zero_or_pos l.length with hz | hpos
  · obtain rfl := List.eq_nil_of_length_eq_zero hz
    refine APure.of_awp Tryd.func51 rfl (Nat.le_of_ble_eq_true (by kernel_rfl)) (by kernel_rfl) ?_
    intro s
    conv => whnf
    repeat' (first
      | (refine ⟨Sub.refl _, ?_⟩)
      | (refine brA_split (fun h => ?_) (fun h => ?_) <;> (try rw [h]) <;> (try simp only [Bool.false_eq_true, Bool.true_eq_false, ↓reduceIte, decide_eq_true_eq, decide_eq_false_iff_not, Bool.not_eq_true', Bool.not_eq_false'] at h) <;> (conv => whnf))
      | (refine getB_same ?_; conv => whnf)
      | (refine AWp.any (by kernel_rfl) (by kernel_rfl) (by kernel_rfl) ?_; conv => whnf)
      | (apply And.intro; (focus (first | omega | rfl | decide | exact Nat.le_of_ble_eq_true rfl | ((repeat' (first | exact all_nil | refine all_cons ?_ ?_ | rfl | fail)); done) | (simp [-List.length_flatMap]; done) | (simp [-List.length_flatMap]; omega) | fail)); conv => whnf)
      | fail)
    all_goals rfl
  refine APure.of_awp Tryd.func51 rfl (Nat.le_of_ble_eq_true (by kernel_rfl)) (by kernel_rfl) ?_
  intro s
  conv => whnf
  repeat' (first
    | (refine ⟨Sub.refl _, ?_⟩)
    | (refine brA_split (fun h => ?_) (fun h => ?_) <;> (try rw [h]) <;> (try simp only [Bool.false_eq_true, Bool.true_eq_false, ↓reduceIte, decide_eq_true_eq, decide_eq_false_iff_not, Bool.not_eq_true', Bool.not_eq_false'] at h) <;> (conv => whnf))
    | (refine ACalls.pure' ?_ (indexFunc_ok _); rintro _ rfl; conv => whnf)
    | (refine DCall.pure ?_ (indexFunc_ok _); conv => whnf)
    | (refine getB_same ?_; conv => whnf)
    | (refine AWp.any (by kernel_rfl) (by kernel_rfl) (by kernel_rfl) ?_; conv => whnf)
    | (apply And.intro; (focus (first | omega | rfl | decide | exact Nat.le_of_ble_eq_true rfl | ((repeat' (first | exact all_nil | refine all_cons ?_ ?_ | rfl | fail)); done) | (simp [-List.length_flatMap]; done) | (simp [-List.length_flatMap]; omega) | fail)); conv => whnf)
    | fail)
  all_goals simp only [show Int.toNat 0 = 0 from rfl, tupA] at *
  · subst h; simp at hpos
  · refine bool_eq ?_
    simp [spelt]; omega
  · exact bool_eq (spelt_first (by omega) (by omega)).symm
  · refine bool_eq ?_
    rw [hb, spelt_else (by omega) (by omega) (by omega)]
  · refine bool_eq ?_
    rw [hb, spelt_else (by omega) (by omega) (by omega)]

theorem progSpelt_ok (l : List UInt8) (_ : l.length ≤ 9223372036854775807) : APure Tryd.prog Γ 51 [.str l] fun v => v = .bool (spelt l) := progSpelt_any l
theorem refSpelt_ok (l : List UInt8) : APure Tryd.prog Γ 46 [.str l] fun v => v = .bool (spelt l) := by
  refine APure.of_awp Tryd.func46 rfl (Nat.le_of_ble_eq_true (by kernel_rfl)) (by kernel_rfl) ?_
  intro s
  conv => whnf
  repeat' (first
    | (refine ⟨Sub.refl _, ?_⟩)
    | (refine brA_split (fun h => ?_) (fun h => ?_) <;> (try rw [h]) <;> (try simp only [Bool.false_eq_true, Bool.true_eq_false, ↓reduceIte, decide_eq_true_eq, decide_eq_false_iff_not, Bool.not_eq_true', Bool.not_eq_false'] at h) <;> (conv => whnf))
    | (refine getB_same ?_; conv => whnf)
    | (refine AWp.any (by kernel_rfl) (by kernel_rfl) (by kernel_rfl) ?_; conv => whnf)
    | (apply And.intro; (focus (first | omega | rfl | decide | exact Nat.le_of_ble_eq_true rfl | ((repeat' (first | exact all_nil | refine all_cons ?_ ?_ | rfl | fail)); done) | (simp [-List.length_flatMap]; done) | (simp [-List.length_flatMap]; omega) | fail)); conv => whnf)
    | fail)
  · refine bool_eq ?_
    simp [spelt]; omega
  · refine bool_eq ?_
    simp [spelt]; omega
  refine AWp.loopA [3] [14, 15, 16, 17, 20, 21, 22, 4, 23, 24, 25, 26, 27, 28, 29, 30, 31, 32, 33, 34, 35, 36, 37, 38, 39, 40, 5, 41, 42, 43, 44, 45, 46, 47, 48, 49, 50, 51, 52, 53, 54, 2, 18, 19] (fun i : Nat => [.int .i64 i]) (fun i s' => i ≤ l.length ∧ s' = s ∧ ((l.take i).all fun c => wordc c.toNat) = true ∧ (0 < i → ¬ ((48 : Int) ≤ (byteAt l 0).toNat ∧ ((byteAt l 0).toNat : Int) ≤ 57))) (fun i => l.length - i) (0) (by kernel_rfl) (by (repeat' (first | refine cons_eq ?_ ?_ | refine int64_of ?_ ?_ ?_ | rfl | omega))) ?_ ?_
  · exact ⟨by omega, rfl, rfl, fun h => by omega⟩
  · rintro y i _ ⟨hi, rfl, hp, hq⟩
    have hb := u8_lt (byteAt l i)
    conv => whnf
    repeat' (first
      | (exfalso; first | omega | exact (by assumption : ¬ True) trivial | fail)
      | (refine ⟨Sub.refl _, ?_⟩)
      | (refine brA_split (fun h => ?_) (fun h => ?_) <;> (try rw [h]) <;> (try simp only [Bool.false_eq_true, Bool.true_eq_false, ↓reduceIte, decide_eq_true_eq, decide_eq_false_iff_not, Bool.not_eq_true', Bool.not_eq_false'] at h) <;> (conv => whnf))
      | (refine getB_same ?_; conv => whnf)
      | (refine AWp.any (by kernel_rfl) (by kernel_rfl) (by kernel_rfl) ?_; conv => whnf)
      | (apply And.intro; (focus (first | omega | rfl | decide | exact Nat.le_of_ble_eq_true rfl | ((repeat' (first | exact all_nil | refine all_cons ?_ ?_ | rfl | fail)); done) | (simp [-List.length_flatMap]; done) | (simp [-List.length_flatMap]; omega) | fail)); conv => whnf)
      | fail)
    all_goals try simp only [Int.toNat_natCast] at *
    all_goals first
      | (refine ⟨i + 1, by (repeat' (first | refine cons_eq ?_ ?_ | refine int64_of ?_ ?_ ?_ | rfl | omega)), by (repeat (first | exact Same.refl _ _ | refine Same.upd rfl ?_ | refine Same.updL rfl ?_ | refine Same.havoc rfl ?_)), ⟨by omega, (by first | rfl | trivial), ?_, ?_⟩, by omega⟩
         · rw [take_byte (by omega), List.all_append, hp]
           simp [wordc]; omega
         · intro _
           rcases Nat.eq_zero_or_pos i with h0 | h0
           · subst h0; omega
           · exact hq h0)
      | (refine bool_eq ?_
         cases hw : wordc (byteAt l i).toNat
         · exact (spelt_char (by omega) hw).symm
         · simp [wordc] at hw
           have h0 : i = 0 := by omega
           subst h0
           exact (spelt_first (by omega) (by omega)).symm)
      | (refine bool_eq ?_
         have ht : l.take i = l := List.take_of_length_le (by omega)
         rw [ht] at hp
         rw [spelt_else (by omega) (by omega) (hq (by omega))]
         exact hp.symm)

def words : List (List UInt8) := [[97, 99, 99, 101, 112, 116], [97, 108, 115, 111], [97, 110, 100], [98, 111, 111, 108], [100, 111], [101, 118, 101, 110, 116], [101, 120, 105, 115, 116, 115], [102, 97, 108, 115, 101], [102, 111, 114, 97, 108, 108], [102, 114, 101, 101], [105, 102], [105, 110, 116], [110, 101, 120, 116], [110, 111, 116], [111, 110], [111, 114], [113, 101, 97], [115, 107, 105, 112], [115, 116, 97, 114, 116], [115, 116, 114, 105, 110, 103], [116, 111], [116, 114, 117, 101]]
/-- The first place of a text, or -1. -/
def idxS : List (List UInt8) → List UInt8 → Int
  | [], _ => -1
  | b :: l, s => if s = b then 0 else if idxS l s = -1 then -1 else idxS l s + 1
theorem idxS_ge : ∀ (l : List (List UInt8)) (s : List UInt8), -1 ≤ idxS l s ∧ idxS l s < l.length
  | [], s => by simp [idxS]
  | b :: l, s => by have := idxS_ge l s; simp only [idxS, List.length_cons]; split <;> (try split) <;> omega
theorem idxS_mem : ∀ (l : List (List UInt8)) (s : List UInt8), 0 ≤ idxS l s ↔ s ∈ l
  | [], s => by simp [idxS]
  | b :: l, s => by
    have ih := idxS_mem l s
    have := idxS_ge l s
    simp only [idxS, List.mem_cons]
    split
    · simp [*]
    · rename_i hne
      split
      · rename_i h1
        rw [h1] at ih
        constructor
        · intro h; omega
        · rintro (h | h)
          · exact absurd h hne
          · exact absurd (ih.2 h) (by omega)
      · rw [← ih]
        constructor
        · intro h; right; omega
        · rintro (h | h)
          · exact absurd h hne
          · omega
def addIdx (i : Nat) (k : Int) : Int := if k = -1 then -1 else i + k

theorem index_ok (t : Nat) (l : List (List UInt8)) (x : List UInt8) (hl : l.length ≤ 140737488355328) : APure Tryd.prog Γ 72 [.slice t (strsA l), .str x] fun v => v = .int .i64 (idxS l x) := by
  have hbl := strsA_len l
  refine APure.of_awp Tryd.func72 rfl (Nat.le_of_ble_eq_true (by kernel_rfl)) (by kernel_rfl) ?_
  intro s
  conv => whnf
  refine AWp.loopA [8] [9, 10, 5, 11, 12, 13, 14, 15, 16, 17, 4, 18] (fun i : Nat => [.int .i64 i]) (fun i s' => i ≤ l.length ∧ s' = s ∧ idxS l x = addIdx i (idxS (l.drop i) x)) (fun i => l.length - i) (0) (by kernel_rfl) (by (repeat' (first | refine cons_eq ?_ ?_ | refine int64_of ?_ ?_ ?_ | rfl | omega))) ?_ ?_
  · exact ⟨by omega, rfl, by simp [addIdx]⟩
  · rintro y i _ ⟨hi, rfl, hp⟩
    conv => whnf
    repeat' (first
      | (refine ⟨Sub.refl _, ?_⟩)
      | (refine brA_split (fun h => ?_) (fun h => ?_) <;> (try rw [h]) <;> (try simp only [Bool.false_eq_true, Bool.true_eq_false, ↓reduceIte, decide_eq_true_eq, decide_eq_false_iff_not, Bool.not_eq_true', Bool.not_eq_false'] at h) <;> (conv => whnf))
      | (rw [strsA_get (by omega)]; conv => whnf)
      | (refine getB_same ?_; conv => whnf)
      | (refine AWp.any (by kernel_rfl) (by kernel_rfl) (by kernel_rfl) ?_; conv => whnf)
      | (apply And.intro; (focus (first | omega | rfl | decide | exact Nat.le_of_ble_eq_true rfl | ((repeat' (first | exact all_nil | refine all_cons ?_ ?_ | rfl | fail)); done) | (simp [-List.length_flatMap]; done) | (simp [-List.length_flatMap]; omega) | fail)); conv => whnf)
      | fail)
    · simp only [Int.toNat_natCast] at h
      rw [hp, drop_str (by omega), idxS, if_pos h]
      simp [tupA, addIdx]
    · simp only [Int.toNat_natCast] at h
      refine ⟨i + 1, by (repeat' (first | refine cons_eq ?_ ?_ | refine int64_of ?_ ?_ ?_ | rfl | omega)), by (repeat (first | exact Same.refl _ _ | refine Same.upd rfl ?_ | refine Same.updL rfl ?_ | refine Same.havoc rfl ?_)), ⟨by omega, rfl, ?_⟩, by omega⟩
      rw [hp, drop_str (i := i) (by omega), idxS, if_neg h]
      have := idxS_ge (l.drop (i + 1)) x
      grind [addIdx]
    · rw [hp, drop_end (by omega)]
      simp [tupA, addIdx, idxS]
theorem contains_ok (t : Nat) (l : List (List UInt8)) (x : List UInt8) (hl : l.length ≤ 140737488355328) : APure Tryd.prog Γ 52 [.slice t (strsA l), .str x] fun v => v = .bool (decide (0 ≤ idxS l x)) := by
  refine APure.of_awp Tryd.func52 rfl (Nat.le_of_ble_eq_true (by kernel_rfl)) (by kernel_rfl) ?_
  intro s
  conv => whnf
  repeat' (first
    | (refine ⟨Sub.refl _, ?_⟩)
    | (refine brA_split (fun h => ?_) (fun h => ?_) <;> (try rw [h]) <;> (try simp only [Bool.false_eq_true, Bool.true_eq_false, ↓reduceIte, decide_eq_true_eq, decide_eq_false_iff_not, Bool.not_eq_true', Bool.not_eq_false'] at h) <;> (conv => whnf))
    | (refine ACalls.pure' ?_ (index_ok _ _ _ hl); rintro _ rfl; conv => whnf)
    | (refine DCall.pure ?_ (index_ok _ _ _ hl); conv => whnf)
    | (refine getB_same ?_; conv => whnf)
    | (refine AWp.any (by kernel_rfl) (by kernel_rfl) (by kernel_rfl) ?_; conv => whnf)
    | (apply And.intro; (focus (first | omega | rfl | decide | exact Nat.le_of_ble_eq_true rfl | ((repeat' (first | exact all_nil | refine all_cons ?_ ?_ | rfl | fail)); done) | (simp [-List.length_flatMap]; done) | (simp [-List.length_flatMap]; omega) | fail)); conv => whnf)
    | fail)
  rfl
end Go.Proofs.YtnelknhacamboaaDoor.Sc
