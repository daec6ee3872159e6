
/- Chapter 1: the number of a text: what the program calls of the library. -/
import Derived.Test.YtcgobgnbpeageaaDoorEr1
import Derived.Test.YtcgobgnbpeageaaDoorShelf
import Derived.Test.YtcgobgnbpeageaaDoorAb25
import Derived.Shelf.Strings.SlTrimAscii
set_option linter.all false
namespace Go.Proofs.YtcgobgnbpeageaaDoor.Nu
open Go Go.Ab Go.RowKit
set_option maxRecDepth 10000

def digs : List UInt8 := [48, 49, 50, 51, 52, 53, 54, 55, 56, 57]
def formB (l : List UInt8) : Bool :=
  let d := Lib.trimPrefix l [45]
  !decide (d = []) && !(decide ((byteAt d 0).toNat = 48) && decide (1 < l.length)) && decide (Lib.trimS d digs = [])
variable {Γ : Nat → AV}
theorem arr_toList (l : List UInt8) : (⟨l.toArray⟩ : ByteArray).data.toList = l := rfl
theorem trimPrefix_ok (l : List UInt8) : APure Tryd.prog Γ 20 [.str l, .str [45]] fun v => v = .str (Lib.trimPrefix l [45]) := by
  intro s
  refine ACalls.of_below fun G w vs hm hr => ?_
  obtain ⟨u, us, rfl, hu, hus⟩ := RList_cons.1 hr
  obtain ⟨u1, us1, rfl, hu1, hus1⟩ := RList_cons.1 hus
  rw [RList_nil] at hus1; subst hus1
  rw [R_str] at hu hu1; subst hu hu1
  exact ⟨_, fun G' w' => R_str.2 rfl, (Tryd.strings_TrimPrefix ⟨l.toArray⟩ ⟨#[45]⟩ w).mono fun e w' ⟨he, hw⟩ => ⟨he, by subst hw; exact Below.refl _ _⟩⟩
theorem trim_ok (l : List UInt8) (hl : l.length ≤ 1048576) : APure Tryd.prog Γ 21 [.str l, .str digs] fun v => v = .str (Lib.trimS l digs) := by
  intro s
  refine ACalls.of_below fun G w vs hm hr => ?_
  obtain ⟨u, us, rfl, hu, hus⟩ := RList_cons.1 hr
  obtain ⟨u1, us1, rfl, hu1, hus1⟩ := RList_cons.1 hus
  rw [RList_nil] at hus1; subst hus1
  rw [R_str] at hu hu1; subst hu hu1
  exact ⟨_, fun G' w' => R_str.2 rfl, Any.strings_Trim_laid Tryd.lays160 (by kernel_rfl) ⟨l.toArray⟩ ⟨digs.toArray⟩ w (by show l.length ≤ _; omega) (by decide) (ascii_of_all (by decide))⟩
theorem trimPrefix_len (l : List UInt8) : (Lib.trimPrefix l [45]).length ≤ l.length := by
  unfold Lib.trimPrefix; split
  · simp
  · exact Nat.le_refl _
attribute [local irreducible] APure Sto.set Sto.grow
theorem bool_eq' {a b : Bool} (h : a = b) : AV.bool a = .bool b := by rw [h]
theorem form_ok (l : List UInt8) (hl : l.length ≤ 1048576) : APure Tryd.prog Γ 11 [.str l] fun v => v = .bool (formB l) := by
  have hd := trimPrefix_len l
  have hf : formB l = (!decide (Lib.trimPrefix l [45] = []) && !(decide ((byteAt (Lib.trimPrefix l [45]) 0).toNat = 48) && decide (1 < l.length)) && decide (Lib.trimS (Lib.trimPrefix l [45]) digs = [])) := rfl
  refine APure.of_awp Tryd.func11 rfl (Nat.le_of_ble_eq_true (by kernel_rfl)) (by kernel_rfl) ?_
  intro s
  conv => whnf
  have h0 : ¬ Lib.trimPrefix l [45] = [] → 0 < (Lib.trimPrefix l [45]).length := fun h => List.length_pos_iff.2 h
  have tk := fun Γ => trimPrefix_ok (Γ := Γ) l
  generalize Lib.trimPrefix l [45] = d at *
  repeat' (first
    | (refine ⟨Sub.refl _, ?_⟩)
    | (refine brA_split (fun h => ?_) (fun h => ?_) <;> (try rw [h]) <;> (try simp only [Bool.false_eq_true, Bool.true_eq_false, ↓reduceIte, decide_eq_true_eq, decide_eq_false_iff_not, Bool.not_eq_true', Bool.not_eq_false'] at h) <;> (conv => whnf))
    | (refine ACalls.pure' ?_ (tk _); rintro _ rfl; conv => whnf)
    | (refine DCall.pure ?_ (tk _); conv => whnf)
    | (refine ⟨by have := h0 h; (show (0 : Int).toNat < d.length); omega, ?_⟩; conv => whnf)
    | (refine ACalls.pure' ?_ (trim_ok d (by omega)); rintro _ rfl; conv => whnf)
    | (refine DCall.pure ?_ (trim_ok d (by omega)); conv => whnf)
    | (refine getB_same ?_; conv => whnf)
    | (refine AWp.any (by kernel_rfl) (by kernel_rfl) (by kernel_rfl) ?_; conv => whnf)
    | (apply And.intro; (focus (first | omega | rfl | decide | exact Nat.le_of_ble_eq_true rfl | ((repeat' (first | exact all_nil | refine all_cons ?_ ?_ | rfl | fail)); done) | (simp [-List.length_flatMap]; done) | (simp [-List.length_flatMap]; omega) | fail)); conv => whnf)
    | fail)
  all_goals refine bool_eq' ?_
  all_goals rw [hf]
  all_goals try simp only [show Int.toNat 0 = 0 from rfl] at *
  all_goals simp [*]
  all_goals omega
end Go.Proofs.YtcgobgnbpeageaaDoor.Nu
