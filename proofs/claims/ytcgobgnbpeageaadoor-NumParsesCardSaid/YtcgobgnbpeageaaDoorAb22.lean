/- The shelf's contracts, said of abstract values: a call that turns nothing of what is there. -/
import Derived.Test.YtcgobgnbpeageaaDoorAb21
import Derived.Below
import Derived.Lib.LaidTab
set_option linter.all false
namespace Go.Ab
open Go Go.RowKit

theorem Mod.below {Γ : Nat → AV} {G : Gh} {s : Sto} {w w' : World} (hm : Mod Γ G s w) (h : Below w.heap.size w w') : Mod Γ G s w' ∧ Ext G w G w' := by
  have X : Ext G w G w' := Ext.of_same hm h.os h.tape h.output h.size (fun _ _ => rfl) (fun _ _ => rfl) fun b hb _ => h.block b hb
  refine ⟨⟨fun g => (hm.glob g).mono X, ?_, ?_, ?_, ?_, hm.fin⟩, X⟩
  · intro b T cs hb
    obtain ⟨h1, vs, h2, h3⟩ := hm.box b T cs hb
    exact ⟨h1, vs, (h.block b (box_lt hm hb)).trans h2, h3.mono X _ _⟩
  · intro b hb
    exact Nat.lt_of_lt_of_le (hm.dom b hb) h.size
  · intro t e k ht
    obtain ⟨h0, h1, b, h2⟩ := hm.live t e k ht
    have hb : b < w.heap.size := by
      obtain ⟨_, _, _, _, _, h3, _⟩ := h2
      exact hm.dom b (by rw [h3]; simp)
    exact ⟨h0, h1, b, h2.mono rfl rfl (h.block b hb)⟩
  · intro t u b e k e' k' ht hu h1 h2
    have hb : b < w.heap.size := by
      obtain ⟨_, _, _, _, _, h3, _⟩ := h1
      exact hm.dom b (by rw [h3]; simp)
    have hh := h.block b hb
    exact hm.apart t u b e k e' k' ht hu (h1.mono rfl rfl hh.symm) (h2.mono rfl rfl hh.symm)

/-- A contract of the shelf's: an answer, and nothing of what is there turned. -/
theorem ACalls.of_below {P : Program} {Γ : Nat → AV} {f : FuncId} {args : List AV} {s : Sto} {av : AV}
    (h : ∀ G w vs, Mod Γ G s w → RList G w args vs → ∃ v, (∀ G' w', R G' w' av v) ∧ Calls P f vs.toArray w fun e w' => e = .returned v ∧ Below w.heap.size w w') :
    ACalls P Γ f args s fun v s' => v = av ∧ s' = s := by
  refine ⟨fun G w vs hm hr => ?_⟩
  obtain ⟨v, hv, hc⟩ := h G w vs hm hr
  refine hc.mono ?_
  rintro e w' ⟨rfl, hb⟩
  obtain ⟨m1, m2⟩ := hm.below hb
  exact ⟨v, av, s, G, rfl, ⟨rfl, rfl⟩, hv G w', m1, m2⟩

/-- A table of integers among the variables, in the shelf's words. -/
theorem tab_of {P : Program} {Γ : Nat → AV} {G : Gh} {s : Sto} {w : World} (hm : Mod Γ G s w) {name : String} {g : Nat} {k : IntKind} {zs : List Int} (hg : P.globalNamed name = some g)
    (hΓ : Γ g = .cptr (zs.map (.int k))) : Lib.TabIs P w name k zs := by
  have h := hm.glob g
  rw [hΓ] at h
  obtain ⟨_, ⟨c, T, fr, hb, hc⟩, hR⟩ := h
  obtain ⟨b, o, e, hcs⟩ := R_cptr.1 hR
  injection e with e; injection e with e; injection e with e1 e2 e3
  subst e1 e2
  obtain ⟨us, hl, hus, hcell⟩ := RCells_get _ _ _ hcs
  have det : ∀ (zs : List Int) (us : List Value), RList G w (zs.map (.int k)) us → us = zs.map (.int k) := by
    intro zs
    induction zs with
    | nil => intro us h; exact RList_nil.1 h
    | cons z zs ih =>
      intro us h
      obtain ⟨u, us', rfl, hu, hs⟩ := RList_cons.1 h
      rw [R_int] at hu
      rw [hu, ih us' hs]; rfl
  have hus' := det zs us hus
  subst hus'
  unfold Lib.TabIs
  simp only [World.var?, hg, Option.bind_some, hb]
  congr 1
  apply Array.ext'
  apply List.ext_getElem?
  intro i
  simp only [List.length_map] at hc
  by_cases hi : i < zs.length
  · have := hcell i (.int k zs[i]) (by simp [hi])
    simp only [World.cell?, hb, Option.isSome_none, Bool.false_eq_true, if_false, Nat.zero_add] at this
    simpa [hi] using this
  · rw [List.getElem?_eq_none (by simpa [hc] using hi), List.getElem?_eq_none (by simpa using hi)]

theorem laid_skip {P : Program} {W : World} {x : String × DataW Unit} {rest : List (String × DataW Unit)} {ps : List MemPlace} (h : DataW.LaidVars P W (x :: rest) ps) : ∃ qs, DataW.LaidVars P W rest qs := by
  obtain ⟨n, d⟩ := x
  obtain ⟨_, _, _, _, _, q, _, _, _, _, hr, _⟩ := h
  exact ⟨q, hr⟩
theorem wf_i64 {n : Int} (h : (Lit.int .i64 n).wf = true) : -9223372036854775808 ≤ n ∧ n ≤ 9223372036854775807 := by
  simp only [Lit.wf, decide_eq_true_eq, Bool.and_eq_true, IntKind.min, IntKind.max, IntKind.signed, IntKind.bits] at h
  simpa using h
end Go.Ab
