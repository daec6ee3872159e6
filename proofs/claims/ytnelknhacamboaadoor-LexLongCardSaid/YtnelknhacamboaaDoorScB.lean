
/- Chapter 7: words and names. -/
import Derived.Test.YtnelknhacamboaaDoorScA
set_option linter.all false
namespace Go.Proofs.YtnelknhacamboaaDoor.Sc
open Go Go.Ab Go.RowKit
variable {Γ : Nat → AV}
attribute [local irreducible] APure Sto.set Sto.grow
set_option maxRecDepth 10000

/-- What the package's table of words holds. -/
def Wds (Γ : Nat → AV) : Prop := Γ 2 = .cptr (words.map .str)
def isWord (l : List UInt8) : Bool := spelt l && decide (0 ≤ idxS words l)
def isName (l : List UInt8) : Bool := spelt l && !isWord l && !decide (l = [95])

theorem progWord_any (hT : Wds Γ) (l : List UInt8) : APure Tryd.prog Γ 38 [.str l] fun v => v = .bool (isWord l) := by
  refine APure.of_awp Tryd.func38 rfl (Nat.le_of_ble_eq_true (by kernel_rfl)) (by kernel_rfl) ?_
  intro s
  conv => whnf
  repeat' (first
    | (refine ⟨Sub.refl _, ?_⟩)
    | (refine brA_split (fun h => ?_) (fun h => ?_) <;> (try rw [h]) <;> (try simp only [Bool.false_eq_true, Bool.true_eq_false, ↓reduceIte, decide_eq_true_eq, decide_eq_false_iff_not, Bool.not_eq_true', Bool.not_eq_false'] at h) <;> (conv => whnf))
    | (refine ACalls.pure' ?_ (progSpelt_any _); rintro _ rfl; conv => whnf)
    | (refine DCall.pure ?_ (progSpelt_any _); conv => whnf)
    | (rw [evA_glob, hT]; conv => whnf)
    | (refine ACalls.pure' ?_ (contains_ok 0 words _ (by decide)); rintro _ rfl; conv => whnf)
    | (refine DCall.pure ?_ (contains_ok 0 words _ (by decide)); conv => whnf)
    | (refine getB_same ?_; conv => whnf)
    | (refine AWp.any (by kernel_rfl) (by kernel_rfl) (by kernel_rfl) ?_; conv => whnf)
    | (apply And.intro; (focus (first | omega | rfl | decide | exact Nat.le_of_ble_eq_true rfl | ((repeat' (first | exact all_nil | refine all_cons ?_ ?_ | rfl | fail)); done) | (simp [-List.length_flatMap]; done) | (simp [-List.length_flatMap]; omega) | fail)); conv => whnf)
    | fail)
  all_goals simp [tupA, isWord, *]
theorem progWord_ok (hT : Wds Γ) (l : List UInt8) (_ : l.length ≤ 9223372036854775807) : APure Tryd.prog Γ 38 [.str l] fun v => v = .bool (isWord l) := progWord_any hT l
theorem refWords_ok : APure Tryd.prog Γ 45 [] fun v => v = .slice 1 (strsA words) := by
  refine APure.of_awp Tryd.func45 rfl (Nat.le_of_ble_eq_true (by kernel_rfl)) (by kernel_rfl) ?_
  intro s
  conv => whnf
  repeat' (first
    | (refine ⟨Sub.refl _, ?_⟩)
    | (refine brA_split (fun h => ?_) (fun h => ?_) <;> (try rw [h]) <;> (try simp only [Bool.false_eq_true, Bool.true_eq_false, ↓reduceIte, decide_eq_true_eq, decide_eq_false_iff_not, Bool.not_eq_true', Bool.not_eq_false'] at h) <;> (conv => whnf))
    | (refine getB_same ?_; conv => whnf)
    | (refine AWp.any (by kernel_rfl) (by kernel_rfl) (by kernel_rfl) ?_; conv => whnf)
    | (apply And.intro; (focus (first | omega | rfl | decide | exact Nat.le_of_ble_eq_true rfl | ((repeat' (first | exact all_nil | refine all_cons ?_ ?_ | rfl | fail)); done) | (simp [-List.length_flatMap]; done) | (simp [-List.length_flatMap]; omega) | fail)); conv => whnf)
    | fail)
  rfl
theorem isName_word {l : List UInt8} (h : l ∈ words) : isName l = false := by
  unfold isName isWord
  rw [decide_eq_true ((idxS_mem words l).2 h)]
  cases spelt l <;> rfl
theorem isName_else {l : List UInt8} (h : ¬ l ∈ words) : isName l = (spelt l && !decide (l = [95])) := by
  unfold isName isWord
  rw [decide_eq_false (fun hh => h ((idxS_mem words l).1 hh))]
  simp
theorem not_in {l : List UInt8} (h : ∀ j, j < words.length → ¬ words.getD j [] = l) : ¬ l ∈ words := by
  intro hm
  obtain ⟨j, hj, he⟩ := List.getElem_of_mem hm
  refine h j hj ?_
  simp [List.getD, hj, he]
theorem refName_ok (l : List UInt8) : APure Tryd.prog Γ 30 [.str l] fun v => v = .bool (isName l) := by
  have hwl : (strsA words).length = words.length := strsA_len words
  have hw : words.length = 22 := rfl
  refine APure.of_awp Tryd.func30 rfl (Nat.le_of_ble_eq_true (by kernel_rfl)) (by kernel_rfl) ?_
  intro s
  conv => whnf
  repeat' (first
    | (refine ⟨Sub.refl _, ?_⟩)
    | (refine brA_split (fun h => ?_) (fun h => ?_) <;> (try rw [h]) <;> (try simp only [Bool.false_eq_true, Bool.true_eq_false, ↓reduceIte, decide_eq_true_eq, decide_eq_false_iff_not, Bool.not_eq_true', Bool.not_eq_false'] at h) <;> (conv => whnf))
    | (refine ACalls.pure' ?_ (refWords_ok); rintro _ rfl; conv => whnf)
    | (refine DCall.pure ?_ (refWords_ok); conv => whnf)
    | (refine getB_same ?_; conv => whnf)
    | (refine AWp.any (by kernel_rfl) (by kernel_rfl) (by kernel_rfl) ?_; conv => whnf)
    | (apply And.intro; (focus (first | omega | rfl | decide | exact Nat.le_of_ble_eq_true rfl | ((repeat' (first | exact all_nil | refine all_cons ?_ ?_ | rfl | fail)); done) | (simp [-List.length_flatMap]; done) | (simp [-List.length_flatMap]; omega) | fail)); conv => whnf)
    | fail)
  refine AWp.loopA [4] [6, 7, 8, 9, 12, 13, 14, 15, 16, 17, 2, 10, 11] (fun i : Nat => [.int .i64 i]) (fun i s' => i ≤ 22 ∧ s' = s ∧ ∀ j, j < i → ¬ words.getD j [] = l) (fun i => 22 - i) (0) (by kernel_rfl) (by (repeat' (first | refine cons_eq ?_ ?_ | refine int64_of ?_ ?_ ?_ | rfl | omega))) ?_ ?_
  · exact ⟨by omega, rfl, fun j hj => by omega⟩
  · rintro y i _ ⟨hi, rfl, hp⟩
    conv => whnf
    repeat' (first
      | (refine ⟨Sub.refl _, ?_⟩)
      | (refine brA_split (fun h => ?_) (fun h => ?_) <;> (try rw [h]) <;> (try simp only [Bool.false_eq_true, Bool.true_eq_false, ↓reduceIte, decide_eq_true_eq, decide_eq_false_iff_not, Bool.not_eq_true', Bool.not_eq_false'] at h) <;> (conv => whnf))
      | (rw [strsA_get (by omega)]; conv => whnf)
      | (refine ACalls.pure' ?_ (refSpelt_ok _); rintro _ rfl; conv => whnf)
      | (refine DCall.pure ?_ (refSpelt_ok _); conv => whnf)
      | (refine getB_same ?_; conv => whnf)
      | (refine AWp.any (by kernel_rfl) (by kernel_rfl) (by kernel_rfl) ?_; conv => whnf)
      | (apply And.intro; (focus (first | omega | rfl | decide | exact Nat.le_of_ble_eq_true rfl | ((repeat' (first | exact all_nil | refine all_cons ?_ ?_ | rfl | fail)); done) | (simp [-List.length_flatMap]; done) | (simp [-List.length_flatMap]; omega) | fail)); conv => whnf)
      | fail)
    · simp only [Int.toNat_natCast] at h
      have hm : l ∈ words := by
        rw [← h]
        simp only [List.getD, List.getElem?_eq_getElem (show i < words.length by omega), Option.getD_some]
        exact List.getElem_mem _
      rw [isName_word hm]
      rfl
    · simp only [Int.toNat_natCast] at h
      refine ⟨i + 1, by (repeat' (first | refine cons_eq ?_ ?_ | refine int64_of ?_ ?_ ?_ | rfl | omega)), by (repeat (first | exact Same.refl _ _ | refine Same.upd rfl ?_ | refine Same.updL rfl ?_ | refine Same.havoc rfl ?_)), ⟨by omega, rfl, fun j hj => ?_⟩, by omega⟩
      by_cases hji : j = i
      · subst hji; exact h
      · exact hp j (by omega)
    · have hn : ¬ l ∈ words := not_in (fun j hj => hp j (by omega))
      rw [isName_else hn, h]
      rfl
    · have hn : ¬ l ∈ words := not_in (fun j hj => hp j (by omega))
      rw [isName_else hn, h]
      rfl

theorem all_spelt : words.all spelt = true := by decide
/-- The law SchemaNames, of the code behind its example. -/
theorem word_mem (l : List UInt8) : isWord l = decide (l ∈ words) := by
  unfold isWord
  have h2 : decide (0 ≤ idxS words l) = decide (l ∈ words) := decide_eq_decide.2 (idxS_mem words l)
  rw [h2]
  by_cases hm : l ∈ words
  · rw [List.all_eq_true.1 all_spelt l hm, decide_eq_true hm]; rfl
  · rw [decide_eq_false hm, Bool.and_false]
end Go.Proofs.YtnelknhacamboaaDoor.Sc
