/- A new slice whose room is forgotten: so a call that makes it is one that leaves the store alone. -/
import Derived.Test.YtecjpdcoghfmiaaGreatDoorAb25
import Derived.Laws.AppendOwn
import Derived.Below
set_option linter.all false
namespace Go.Ab
open Go Go.RowKit
variable {P : Program} {Γ : Nat → AV}

theorem R_forget {G : Gh} {w : World} {t : Nat} {es : List (List AV)} {v : Value} (h : R G w (.slice t es) v) : R G w (.slice 0 es) v := by
  unfold R at h ⊢
  refine ⟨fun h0 => absurd rfl h0, ?_⟩
  rcases h.2 with ⟨he, a, cap, hv, _, h2⟩ | ⟨b, o, cap, k, hv, h1, _, h3⟩
  · exact .inl ⟨he, a, cap, hv, (fun h => by cases h), h2⟩
  · exact .inr ⟨b, o, cap, k, hv, h1, (fun h => by cases h), h3⟩
theorem APure.forget {f : FuncId} {args : List AV} {es : List (List AV)} (h : ∀ s, ACalls P Γ f args s fun v s' => (∃ t, v = .slice t es) ∧ Sub s s') : APure P Γ f args fun v => v = .slice 0 es :=
  fun s => ⟨fun G w vs hm hr => ((h s).run G w vs hm hr).mono fun e w' ⟨v, av, s', G', he, ⟨⟨t, ht⟩, hsub⟩, hR, hM, hX⟩ =>
    ⟨v, .slice 0 es, s, G', he, ⟨rfl, rfl⟩, R_forget (t := t) (by rw [← ht]; exact hR), hM.sub hsub, hX⟩⟩
/-- The cells of a whole new block, which shall stay as they are from now on. -/
def Gh.fix (G : Gh) (g : Nat) : Gh := ⟨fun b => if b = g then .fixd else G.kd b, G.tk⟩
theorem RCells_new {G : Gh} {w : World} {g : Nat} (hg : G.kd g = .fixd) : ∀ (cs : List AV) (us : List Value) (o : Nat), RList G w cs us → (∀ j u, us[j]? = some u → w.cell? ⟨g, o + j, none⟩ = some u) → RCells G w g o cs
  | [], us, o => fun _ _ => by unfold RCells; trivial
  | c :: cs, us, o => fun h hc => by
    obtain ⟨u, us', rfl, hu, hs⟩ := RList_cons.1 h
    unfold RCells
    refine ⟨by unfold Gh.good; rw [hg]; trivial, ⟨u, hc 0 u rfl, hu⟩, RCells_new hg cs us' (o + 1) hs fun j v hv => ?_⟩
    have := hc (j + 1) v (by simpa using hv)
    rwa [show o + (j + 1) = o + 1 + j by omega] at this
theorem Gh.fix_ok {G : Gh} {s : Sto} {w w' : World} {g : Nat} (hm : Mod Γ G s w) (hb : Below w.heap.size w w') (hg : w.heap.size ≤ g) (hlt : g < w'.heap.size) : Mod Γ (G.fix g) s w' ∧ Ext G w (G.fix g) w' := by
  have other : ∀ b, b < w.heap.size → (G.fix g).kd b = G.kd b := fun b h => if_neg (by omega)
  have hfree : G.kd g = .free := by
    cases h : G.kd g with
    | free => rfl
    | fixd => exact absurd (hm.dom g (by rw [h]; simp)) (by omega)
    | row n => exact absurd (hm.dom g (by rw [h]; simp)) (by omega)
  have X : Ext G w (G.fix g) w' := Ext.of_same hm hb.os hb.tape hb.output hb.size other (fun _ _ => rfl) fun k hk _ => hb.block k hk
  have kdrow : ∀ b n, (G.fix g).kd b = .row n → G.kd b = .row n := fun b n h => by
    unfold Gh.fix at h
    by_cases he : b = g
    · simp only [if_pos he] at h; cases h
    · simpa only [if_neg he] using h
  have rowlt : ∀ b n, G.kd b = .row n → b < w.heap.size := fun b n h => hm.dom b (by rw [h]; simp)
  refine ⟨⟨fun x => (hm.glob x).mono X, ?_, ?_, ?_, ?_, hm.fin⟩, X⟩
  · intro b T cs hx
    obtain ⟨h1, vs, h2, h3⟩ := hm.box b T cs hx
    have hl := box_lt hm hx
    exact ⟨(other b hl).trans h1, vs, (hb.block b hl).trans h2, h3.mono X _ _⟩
  · intro b hx
    by_cases he : b = g
    · rw [he]; exact hlt
    · have : G.kd b ≠ .free := fun h => hx (by unfold Gh.fix; simp only [if_neg he]; exact h)
      exact Nat.lt_of_lt_of_le (hm.dom b this) hb.size
  · intro t e k ht
    obtain ⟨h0, h1, b, len, cap, c, h2, h3, h4, h5, h6⟩ := hm.live t e k ht
    have hl := rowlt b _ h4
    exact ⟨h0, h1, b, len, cap, c, h2, h3, (other b hl).trans h4, (hb.block b hl).trans h5, h6⟩
  · intro t u b e k e' k' ht hu h1 h2
    have back : ∀ {t : Nat} {e : TypeId} {k : Nat}, Top (G.fix g) w' t b e k → Top G w t b e k := by
      rintro t e k ⟨len, cap, c, h2, h3, h4, h5, h6⟩
      have h4' := kdrow b _ h4
      exact ⟨len, cap, c, h2, h3, h4', (hb.block b (rowlt b _ h4')).symm.trans h5, h6⟩
    exact hm.apart t u b e k e' k' ht hu (back h1) (back h2)
/-- A contract of the shelf's that hands back a new slice. -/
theorem APure.of_row {f : FuncId} {args : List AV} {es : List (List AV)} {T : TypeId} {k : Nat} (hk : ∀ c ∈ es, c.length = k)
    (h : ∀ G w vs s, Mod Γ G s w → RList G w args vs → ∃ xs, RList G w es.flatten xs ∧ Calls P f vs.toArray w fun e w' => ∃ v', e = .returned v' ∧ w'.ownsRow w.heap.size T k v' es.length xs ∧ Below w.heap.size w w') :
    APure P Γ f args fun v => v = .slice 0 es := by
  intro s
  refine ⟨fun G w vs hm hr => ?_⟩
  obtain ⟨xs, hxs, hc⟩ := h G w vs s hm hr
  refine hc.mono ?_
  rintro e w' ⟨v', rfl, ⟨hl, ho⟩, hb⟩
  by_cases hn : es = []
  · subst hn
    obtain ⟨m1, m2⟩ := hm.below hb
    refine ⟨v', _, s, G, rfl, ⟨rfl, rfl⟩, ?_, m1, m2⟩
    unfold R
    refine ⟨fun h0 => absurd rfl h0, .inl ⟨rfl, ?_⟩⟩
    rcases ho with ⟨rfl, _⟩ | ⟨g, cap, cur, rfl, _⟩
    · exact ⟨none, 0, rfl, fun _ => rfl, fun _ => rfl⟩
    · exact ⟨_, cap, rfl, (fun h => by cases h), (fun h => by cases h)⟩
  · rcases ho with ⟨_, h0⟩ | ⟨g, cap, cur, rfl, hge, hh, hcap, _, hsz, htake⟩
    · exact absurd (List.eq_nil_of_length_eq_zero h0) hn
    · have hlt : g < w'.heap.size := by
        rcases Nat.lt_or_ge g w'.heap.size with h | h
        · exact h
        · rw [Array.getElem?_eq_none h] at hh; cases hh
      obtain ⟨m1, m2⟩ := Gh.fix_ok hm hb hge hlt
      refine ⟨_, _, s, G.fix g, rfl, ⟨rfl, rfl⟩, ?_, m1, m2⟩
      unfold R
      refine ⟨fun h0 => absurd rfl h0, .inr ⟨g, 0, cap, k, rfl, hcap, (fun h => by cases h), hn, ?_⟩⟩
      refine RElems_mk es 0 hk (RCells_new (by unfold Gh.fix; simp) es.flatten xs 0 (hxs.mono m2 _ _) fun j u hj => ?_)
      rw [← htake] at hj
      have hj' : cur[j]? = some u := by
        rw [List.getElem?_take] at hj
        split at hj
        · rwa [Array.getElem?_toList] at hj
        · cases hj
      simp [World.cell?, hh, hj']
end Go.Ab
