/- Chapter 10: without places: what is made of each of a list. -/
import Derived.Test.YtbhemiimdfhjbaaGreatDoorTrM
import Derived.Test.YtbhemiimdfhjbaaGreatDoorFg1
import Derived.Test.YtbhemiimdfhjbaaGreatDoorShelf
namespace Go.Proofs.YtbhemiimdfhjbaaGreatDoor.Tr
open Go Go.Ab Go.RowKit
variable {Γ : Nat → AV}
attribute [local irreducible] APure Sto.set Sto.grow
set_option maxRecDepth 10000
set_option maxHeartbeats 1000000

theorem flat_ints (k : IntKind) : ∀ l : List Int, (intsA k l).flatten = l.map (.int k)
  | [] => rfl
  | x :: l => by
    have := flat_ints k l
    simp only [intsA] at this ⊢
    rw [List.map_cons, List.flatten_cons, this]; rfl
theorem RList_ints {G : Gh} {w : World} (k : IntKind) : ∀ (l : List Int) (us : List Value), RList G w (l.map (.int k)) us ↔ us = l.map (.int k)
  | [], us => by rw [List.map_nil, List.map_nil, RList_nil]
  | x :: l, us => by
    rw [List.map_cons, List.map_cons, RList_cons]
    constructor
    · rintro ⟨u, us', rfl, hu, hs⟩
      rw [R_int] at hu
      rw [hu, (RList_ints k l us').1 hs]
    · rintro rfl
      exact ⟨_, _, rfl, R_int.2 rfl, (RList_ints k l _).2 rfl⟩
theorem clone_ok (t : Nat) (l : List Int) (hl : l.length * 8 ≤ 140737488355328) : APure Tryz.prog Γ 22 [.slice t (intsA .i64 l)] fun v => v = .slice 0 (intsA .i64 l) := by
  have h1 : ∀ c ∈ intsA .i64 l, c.length = 1 := by
    intro c hc
    obtain ⟨x, _, rfl⟩ := List.mem_map.1 hc
    rfl
  refine APure.of_row (T := 3) (k := 1) h1 fun G w vs s hm hr => ⟨l.map (.int .i64), ?_, ?_⟩
  · rw [flat_ints]; exact (RList_ints .i64 l _).2 rfl
  obtain ⟨u, us, rfl, hu, hus⟩ := RList_cons.1 hr
  rw [RList_nil] at hus; subst hus
  rw [intsA_len]
  unfold R at hu
  rcases hu.2 with ⟨he, a, cap, rfl, _, h2⟩ | ⟨b, o, cap, k, rfl, hc, _, hne, hE⟩
  · have hl0 : l = [] := by
      have := congrArg List.length he
      rw [intsA_len] at this
      exact List.eq_nil_of_length_eq_zero this
    subst hl0
    cases a with
    | none => exact (Tryz.slices_Clone_int_nil 0 cap w).mono fun e w' ⟨h, hw⟩ => ⟨_, h, ⟨rfl, .inl ⟨rfl, rfl⟩⟩, by rw [hw]; exact Below.refl _ _⟩
    | some a => exact (Tryz.slices_Clone_int_zero a cap w).mono fun e w' ⟨v', h, ho, _, hb⟩ => ⟨v', h, ho, hb⟩
  · obtain ⟨us, hul, hur, hcell⟩ := RElems_cells _ hE
    rw [flat_ints] at hur
    obtain rfl := (RList_ints .i64 l us).1 hur
    have := Tryz.slices_Clone_int b o (intsA .i64 l).length cap l w (by rw [intsA_len]; exact Nat.le_refl _) (by rw [intsA_len]; exact hl) fun j hj => hcell j _ (by simp [List.getD, hj])
    refine this.mono fun e w' ⟨v', h, ho, _, hb⟩ => ⟨v', h, ?_, hb⟩
    rw [intsA_len, List.take_length] at ho
    exact ho
end Go.Proofs.YtbhemiimdfhjbaaGreatDoor.Tr
