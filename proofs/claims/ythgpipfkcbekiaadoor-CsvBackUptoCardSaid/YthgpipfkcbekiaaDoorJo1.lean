
/- strings.Join, said of abstract values. -/
import Derived.Test.YthgpipfkcbekiaaDoorFg4
import Derived.Test.YthgpipfkcbekiaaDoorShelf
set_option linter.all false
namespace Go.Proofs.YthgpipfkcbekiaaDoor.Jo
open Go Go.Ab Go.RowKit
variable {Γ : Nat → AV}
set_option maxRecDepth 10000
set_option maxHeartbeats 1000000

theorem flat_strs : ∀ m : List (List UInt8), (strsA m).flatten = m.map AV.str
  | [] => rfl
  | x :: m => by
    have := flat_strs m
    simp only [strsA, List.map_cons, List.flatten_cons] at *
    rw [this]; rfl
theorem str_cells {G : Gh} {w : World} : ∀ (m : List (List UInt8)) (us : List Value), RList G w (m.map AV.str) us → us = m.map fun x => Value.string ⟨x.toArray⟩
  | [], us, h => RList_nil.1 h
  | x :: m, us, h => by
    obtain ⟨u, us', rfl, h1, h2⟩ := RList_cons.1 h
    rw [R_str.1 h1, str_cells m us' h2]; rfl
theorem join_ok (t : Nat) (m : List (List UInt8)) (sep : List UInt8) (hm : m.length ≤ 140737488355328) (hl : (Lib.join m sep).length ≤ 140737488355328) :
    APure Tryd.prog Γ 11 [.slice t (strsA m), .str sep] fun v => v = .str (Lib.join m sep) := by
  refine fun s => ACalls.of_below fun G w vs hM hr => ?_
  obtain ⟨u, us, rfl, hu, hus⟩ := RList_cons.1 hr
  obtain ⟨u1, us1, rfl, hu1, hus1⟩ := RList_cons.1 hus
  rw [RList_nil] at hus1; subst hus1
  rw [R_str] at hu1; subst hu1
  obtain ⟨a, cap, rfl, hcap, _, hel, _⟩ := slice_val hu
  rw [strsA_len] at hcap ⊢
  refine ⟨_, fun G' w' => R_str.2 rfl, ?_⟩
  cases m with
  | nil =>
    refine (Tryd.strings_Join_none a cap ⟨sep.toArray⟩ w).mono ?_
    rintro e w' ⟨rfl, rfl⟩
    exact ⟨by simp [Lib.join_nil], Below.refl _ _⟩
  | cons x m =>
    obtain ⟨b, o, k, rfl, hE⟩ := hel (by simp [strsA])
    have hk : k = 1 := (RElems_all _ hE [.str x] (by simp [strsA])).symm
    subst hk
    obtain ⟨us, h1, h2, h3⟩ := RElems_cells _ hE
    rw [flat_strs] at h2
    have h4 := str_cells _ _ h2
    subst h4
    have hb : b < w.heap.size := by
      have hc := h3 0 (.string ⟨x.toArray⟩) rfl
      exact (cell_lt hc).1
    have hj := Tryd.strings_Join b o cap ((x :: m).map fun x => ⟨x.toArray⟩) ⟨sep.toArray⟩ w (fun j y hy => h3 j (.string y) (by
      rw [List.getElem?_map] at hy ⊢
      cases hx : (x :: m)[j]? with
      | none => rw [hx] at hy; cases hy
      | some z => rw [hx] at hy; cases hy; rfl)) hb (by simpa using hm) (by simpa using hcap) (by simpa [Function.comp_def] using hl)
    simp only [List.map_map, List.length_map, Function.comp_def, List.map_id'] at hj
    exact hj
end Go.Proofs.YthgpipfkcbekiaaDoor.Jo
