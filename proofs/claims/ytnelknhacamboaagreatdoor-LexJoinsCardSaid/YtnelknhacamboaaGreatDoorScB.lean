
/- Chapter 7: words and names. -/
import Derived.Test.YtnelknhacamboaaGreatDoorScA
set_option linter.all false
namespace Go.Proofs.YtnelknhacamboaaGreatDoor.Sc
open Go Go.Ab Go.RowKit
variable {Γ : Nat → AV}
attribute [local irreducible] APure Sto.set Sto.grow
set_option maxRecDepth 10000

/-- What the package's table of words holds. -/
def Wds (Γ : Nat → AV) : Prop := Γ 4 = .cptr (words.map .str)
def isWord (l : List UInt8) : Bool := spelt l && decide (0 ≤ idxS words l)
def isName (l : List UInt8) : Bool := spelt l && !isWord l && !decide (l = [95])

theorem progWord_any (hT : Wds Γ) (l : List UInt8) : APure Tryz.prog Γ 41 [.str l] fun v => v = .bool (isWord l) := by
  refine APure.of_awp Tryz.func41 rfl (Nat.le_of_ble_eq_true (by kernel_rfl)) (by kernel_rfl) ?_
  intro s
  conv => whnf
  repeat' (first
    | (refine ⟨Sub.refl _, ?_⟩)
    | (refine brA_split (fun h => ?_) (fun h => ?_) <;> (try rw [h]) <;> (try simp only [Bool.false_eq_true, Bool.true_eq_false, ↓reduceIte, decide_eq_true_eq, decide_eq_false_iff_not, Bool.not_eq_true', Bool.not_eq_false'] at h) <;> (conv => whnf))
    | (refine ACalls.pure' ?_ (progSpelt_any _); rintro _ rfl; conv => whnf)
    | (refine DCall.pure ?_ (progSpelt_any _); conv => whnf)
    | (rw [evA_glob, hT]; conv => whnf)
    | (refine ACalls.pure' ?_ (contains_ok 0 words _ (by decide)); rintro _ rfl; conv => whnf)
    | (refine DCall.pure ?_ (contains_ok 0 words _ (by decide)); conv => whnf)
    | (refine getB_same ?_; conv => whnf)
    | (refine AWp.any (by kernel_rfl) (by kernel_rfl) (by kernel_rfl) ?_; conv => whnf)
    | (apply And.intro; (focus (first | omega | rfl | decide | exact Nat.le_of_ble_eq_true rfl | ((repeat' (first | exact all_nil | refine all_cons ?_ ?_ | rfl | fail)); done) | (simp [-List.length_flatMap]; done) | (simp [-List.length_flatMap]; omega) | fail)); conv => whnf)
    | fail)
  all_goals simp [tupA, isWord, *]
theorem progWord_ok (hT : Wds Γ) (l : List UInt8) (_ : l.length ≤ 9223372036854775807) : APure Tryz.prog Γ 41 [.str l] fun v => v = .bool (isWord l) := progWord_any hT l
theorem isName_word {l : List UInt8} (h : l ∈ words) : isName l = false := by
  unfold isName isWord
  rw [decide_eq_true ((idxS_mem words l).2 h)]
  cases spelt l <;> rfl
theorem isName_else {l : List UInt8} (h : ¬ l ∈ words) : isName l = (spelt l && !decide (l = [95])) := by
  unfold isName isWord
  rw [decide_eq_false (fun hh => h ((idxS_mem words l).1 hh))]
  simp
theorem not_in {l : List UInt8} (h : ∀ j, j < words.length → ¬ words.getD j [] = l) : ¬ l ∈ words := by
  intro hm
  obtain ⟨j, hj, he⟩ := List.getElem_of_mem hm
  refine h j hj ?_
  simp [List.getD, hj, he]
theorem all_spelt : words.all spelt = true := by decide
/-- The law SchemaNames, of the code behind its example. -/
theorem word_mem (l : List UInt8) : isWord l = decide (l ∈ words) := by
  unfold isWord
  have h2 : decide (0 ≤ idxS words l) = decide (l ∈ words) := decide_eq_decide.2 (idxS_mem words l)
  rw [h2]
  by_cases hm : l ∈ words
  · rw [List.all_eq_true.1 all_spelt l hm, decide_eq_true hm]; rfl
  · rw [decide_eq_false hm, Bool.and_false]
end Go.Proofs.YtnelknhacamboaaGreatDoor.Sc
