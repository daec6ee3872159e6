/- All tokens of a value forgotten: so a call that hands back what it made is one that leaves the store alone. -/
import Derived.Test.YtecjpdcoghfmiaaGreatDoorFg1
set_option linter.all false
namespace Go.Ab
open Go Go.RowKit
variable {P : Program} {Γ : Nat → AV}
mutual
/-- A value of whose rows nothing is known. -/
def fg : AV → AV
  | .int k n => .int k n
  | .bool b => .bool b
  | .str l => .str l
  | .ptr a => .ptr a
  | .cptr cs => .cptr (fgL cs)
  | .slice _ es => .slice 0 (fgE es)
  | .raw a l c => .raw a l c
  | .iface t v => .iface t (fg v)
  | .nilIface => .nilIface
  | .func fn fs cs => .func fn (fgL fs) (fgL cs)
  | .nilFunc => .nilFunc
  | .agg cs => .agg (fgL cs)
  | .tuple vs => .tuple (fgL vs)
def fgL : List AV → List AV
  | [] => []
  | c :: cs => fg c :: fgL cs
def fgE : List (List AV) → List (List AV)
  | [] => []
  | e :: es => fgL e :: fgE es
end
theorem fgL_len : ∀ l : List AV, (fgL l).length = l.length
  | [] => by unfold fgL; rfl
  | c :: cs => by unfold fgL; rw [List.length_cons, List.length_cons, fgL_len cs]
theorem fgE_len : ∀ l : List (List AV), (fgE l).length = l.length
  | [] => by unfold fgE; rfl
  | c :: cs => by unfold fgE; rw [List.length_cons, List.length_cons, fgE_len cs]
theorem fgE_nil : fgE [] = [] := by unfold fgE; rfl
theorem fgE_ne {l : List (List AV)} (h : l ≠ []) : fgE l ≠ [] := fun hn => h (List.eq_nil_of_length_eq_zero (by rw [← fgE_len, hn]; rfl))
theorem fgE_map {α : Type} {A B : α → List AV} (h : ∀ x, fgL (A x) = B x) : ∀ l : List α, fgE (l.map A) = l.map B
  | [] => by rw [List.map_nil, List.map_nil, fgE_nil]
  | x :: l => by rw [List.map_cons, List.map_cons, fgE, h, fgE_map h l]
section
variable {G : Gh} {w : World}
mutual
theorem R.fg : ∀ (c : AV) (v : Value), R G w c v → R G w (fg c) v
  | .int k n, v => fun h => by unfold Go.Ab.fg; exact h
  | .bool b, v => fun h => by unfold Go.Ab.fg; exact h
  | .str l, v => fun h => by unfold Go.Ab.fg; exact h
  | .ptr a, v => fun h => by unfold Go.Ab.fg; exact h
  | .cptr cs, v => fun h => by
    unfold Go.Ab.fg
    unfold R at h ⊢
    obtain ⟨b, o, hv, hc⟩ := h
    exact ⟨b, o, hv, RCells.fg cs b o hc⟩
  | .slice t es, v => fun h => by
    unfold Go.Ab.fg
    unfold R at h ⊢
    refine ⟨fun h0 => absurd rfl h0, ?_⟩
    rcases h.2 with ⟨he, a, cap, hv, _, h2⟩ | ⟨b, o, cap, k, hv, h1, _, h3, h4⟩
    · exact .inl ⟨by rw [he, fgE_nil], a, cap, hv, (fun h => by cases h), h2⟩
    · exact .inr ⟨b, o, cap, k, by rw [fgE_len]; exact hv, by rw [fgE_len]; exact h1, (fun h => by cases h), fgE_ne h3, RElems.fg es k b o h4⟩
  | .raw a len cap, v => fun h => by unfold Go.Ab.fg; exact h
  | .iface t x, v => fun h => by
    unfold Go.Ab.fg
    unfold R at h ⊢
    obtain ⟨u, hv, hx⟩ := h
    exact ⟨u, hv, R.fg x u hx⟩
  | .nilIface, v => fun h => by unfold Go.Ab.fg; exact h
  | .func fn fs cs, v => fun h => by
    unfold Go.Ab.fg
    unfold R at h ⊢
    obtain ⟨us, vs, hv, h1, h2⟩ := h
    exact ⟨us, vs, hv, RList.fg fs _ h1, RList.fg cs _ h2⟩
  | .nilFunc, v => fun h => by unfold Go.Ab.fg; exact h
  | .agg cs, v => fun h => by
    unfold Go.Ab.fg
    unfold R at h ⊢
    obtain ⟨us, hv, h1⟩ := h
    exact ⟨us, hv, RList.fg cs _ h1⟩
  | .tuple vs, v => fun h => by
    unfold Go.Ab.fg
    unfold R at h ⊢
    obtain ⟨us, hv, h1⟩ := h
    exact ⟨us, hv, RList.fg vs _ h1⟩
theorem RCells.fg : ∀ (cs : List AV) (b o : Nat), RCells G w b o cs → RCells G w b o (fgL cs)
  | [], b, o => fun _ => by unfold fgL; unfold RCells; trivial
  | c :: cs, b, o => fun h => by
    unfold fgL
    unfold RCells at h ⊢
    obtain ⟨hg, ⟨u, hu, hr⟩, hs⟩ := h
    exact ⟨hg, ⟨u, hu, R.fg c u hr⟩, RCells.fg cs b (o + 1) hs⟩
theorem RElems.fg : ∀ (es : List (List AV)) (k b o : Nat), RElems G w k b o es → RElems G w k b o (fgE es)
  | [], k, b, o => fun _ => by unfold fgE; unfold RElems; trivial
  | e :: es, k, b, o => fun h => by
    unfold fgE
    unfold RElems at h ⊢
    obtain ⟨hl, hc, hs⟩ := h
    exact ⟨(fgL_len e).trans hl, RCells.fg e b o hc, RElems.fg es k b (o + k) hs⟩
theorem RList.fg : ∀ (cs : List AV) (vs : List Value), RList G w cs vs → RList G w (fgL cs) vs
  | [], vs => fun h => by unfold fgL; exact h
  | c :: cs, vs => fun h => by
    unfold fgL
    unfold RList at h ⊢
    obtain ⟨u, us, hv, h1, h2⟩ := h
    exact ⟨u, us, hv, R.fg c u h1, RList.fg cs us h2⟩
end
end
/-- A call that hands back what it made, its rooms forgotten. -/
theorem APure.fgt {f : FuncId} {args : List AV} {r : AV} (h : ∀ s, ACalls P Γ f args s fun v s' => fg v = r ∧ Sub s s') : APure P Γ f args fun v => v = r :=
  fun s => ⟨fun G w vs hm hr => ((h s).run G w vs hm hr).mono fun e w' ⟨v, av, s', G', he, ⟨ht, hsub⟩, hR, hM, hX⟩ =>
    ⟨v, r, s, G', he, ⟨rfl, rfl⟩, by rw [← ht]; exact R.fg _ _ hR, hM.sub hsub, hX⟩⟩
end Go.Ab
