/- Part 1 of what the closing text needs: Fg1, Fg2, Fg3, Ix1, Shelf, ScA, ScB, QuA, Bd1, QuB, QuC, QuD, QuE, QuF, Kp1, Co1, LxA, LxB, Sp1, LxC, LxD, LxE, AsO, LxF, LxG, LxH, Mp1. No condition of mine beyond those that the theorems name. -/
import Derived.Test.YtdhgappjicpglaaGreatDoorAb23
import Derived.Laws.AppendOwn
import Derived.Below
import Derived.Test.YtdhgappjicpglaaGreatDoorChecked
import Derived.Lib.Bytealg
import Derived.Laws.Externs
import Derived.Shelf.Strings.Builder1
import Derived.Shelf.Strings.Trim
import Derived.Shelf.Small.Utf8
import Derived.Shelf.Small.Strs
import Derived.Shelf.Strings.BuilderF
import Derived.Shelf.Utf8.RuneCount
import Derived.Shelf.Strconv.Itoa0
import Derived.Shelf.Strconv.Itoa1
import Derived.Shelf.LaysM
import Derived.Shelf.Strconv.Itoa2
import Derived.Shelf.Strconv.Itoa3
import Derived.Shelf.Strconv.Itoa4
import Derived.Shelf.Strconv.ParseIntEmpty
import Derived.Shelf.Strconv.Clone
import Derived.Shelf.Strconv.SyntaxError
import Derived.Shelf.LaysC
import Derived.Shelf.Strconv.ToError
import Derived.Shelf.Strconv.Lower
import Derived.Shelf.Strconv.ParseUint10
import Derived.Shelf.Strconv.ParseUint10Empty
import Derived.Shelf.Strconv.ParseUint10Any
import Derived.Shelf.Strconv.ParseInt10
import Derived.Shelf.Strconv.RangeError
import Derived.Shelf.Strconv.ToErrorRange
import Derived.Shelf.Strconv.ParseUintEmpty
import Derived.Shelf.Strconv.ParseUint10b64
import Derived.Shelf.Strconv.ParseUint10b32
import Derived.Shelf.Strconv.ParseUint10b16
import Derived.Shelf.Strconv.ParseUint10b8
import Derived.Shelf.Strconv.ParseUint10At
import Derived.Shelf.Strconv.ParseInt10At64
import Derived.Shelf.Strconv.ParseInt10At32
import Derived.Shelf.Strconv.ParseInt10At16
import Derived.Shelf.Strconv.ParseInt10At8
import Derived.Shelf.Strconv.ParseInt10All
import Derived.Shelf.Strconv.ParseIntPublic10
import Derived.Shelf.Strconv.ErrVarParseInt
import Derived.Shelf.Strings.Search1
import Derived.Shelf.Strings.Search2
import Derived.Shelf.Strings.Search3
import Derived.Shelf.Strings.Count
import Derived.Shelf.Strings.Shaped
import Derived.Shelf.Strings.LastIndex
import Derived.Shelf.GgClosure.StringsIndexFunc
import Derived.Ground.GgwProg
import Derived.Shelf.GgClosure.StringsIndexFuncTop
import Derived.Shelf.GgClosure.StringsRunes
import Derived.Shelf.Strings.Prefix
import Derived.Shelf.Strings.Split
import Derived.Shelf.Strings.SplitShaped
import Derived.Shelf.Unicode.Decode
import Derived.Shelf.Strings.Runes
import Derived.Shelf.Strings.RuneCount
import Derived.Shelf.Strings.AsciiSet
import Derived.Shelf.Strings.Explode
import Derived.Shelf.Unicode.DecodeSlow
import Derived.Shelf.Unicode.DecodeAny
import Derived.Shelf.Unicode.DecodeLast
import Derived.Shelf.Slices.Turned
import Derived.Test.YtdhgappjicpglaaGreatDoorProg
import Derived.Laws.RangeAny
import Derived.Lib.Builder
import Derived.Lib.UnsafeStr
import Derived.Shelf.RegionOpenPlain
import Derived.WalkKit
import Derived.LaidEql
import Derived.Stop.Asserts
import Derived.RowKitTokens
set_option linter.all false
namespace Go.Ab
open Go Go.RowKit
variable {P : Program} {Γ : Nat → AV}
theorem RCells_new {G : Gh} {w : World} {g : Nat} (hg : G.kd g = .fixd) : ∀ (cs : List AV) (us : List Value) (o : Nat), RList G w cs us → (∀ j u, us[j]? = some u → w.cell? ⟨g, o + j, none⟩ = some u) → RCells G w g o cs
  | [], us, o => fun _ _ => by unfold RCells; trivial
  | c :: cs, us, o => fun h hc => by
    obtain ⟨u, us', rfl, hu, hs⟩ := RList_cons.1 h
    unfold RCells
    refine ⟨by unfold Gh.good; rw [hg]; trivial, ⟨u, hc 0 u rfl, hu⟩, RCells_new hg cs us' (o + 1) hs fun j v hv => ?_⟩
    have := hc (j + 1) v (by simpa using hv)
    rwa [show o + (j + 1) = o + 1 + j by omega] at this
end Go.Ab
namespace Go.Ab
open Go Go.RowKit
variable {P : Program} {Γ : Nat → AV}
mutual
/-- A value of whose rows nothing is known. -/
def fg : AV → AV
  | .int k n => .int k n
  | .bool b => .bool b
  | .str l => .str l
  | .ptr a => .ptr a
  | .cptr cs => .cptr (fgL cs)
  | .slice _ es => .slice 0 (fgE es)
  | .raw a l c => .raw a l c
  | .iface t v => .iface t (fg v)
  | .nilIface => .nilIface
  | .func fn fs cs => .func fn (fgL fs) (fgL cs)
  | .nilFunc => .nilFunc
  | .agg cs => .agg (fgL cs)
  | .tuple vs => .tuple (fgL vs)
  | .cmap es => .cmap es
def fgL : List AV → List AV
  | [] => []
  | c :: cs => fg c :: fgL cs
def fgE : List (List AV) → List (List AV)
  | [] => []
  | e :: es => fgL e :: fgE es
end
theorem fgL_len : ∀ l : List AV, (fgL l).length = l.length
  | [] => by unfold fgL; rfl
  | c :: cs => by unfold fgL; rw [List.length_cons, List.length_cons, fgL_len cs]
theorem fgE_len : ∀ l : List (List AV), (fgE l).length = l.length
  | [] => by unfold fgE; rfl
  | c :: cs => by unfold fgE; rw [List.length_cons, List.length_cons, fgE_len cs]
theorem fgE_nil : fgE [] = [] := by unfold fgE; rfl
theorem fgE_ne {l : List (List AV)} (h : l ≠ []) : fgE l ≠ [] := fun hn => h (List.eq_nil_of_length_eq_zero (by rw [← fgE_len, hn]; rfl))
theorem fgE_map {α : Type} {A B : α → List AV} (h : ∀ x, fgL (A x) = B x) : ∀ l : List α, fgE (l.map A) = l.map B
  | [] => by rw [List.map_nil, List.map_nil, fgE_nil]
  | x :: l => by rw [List.map_cons, List.map_cons, fgE, h, fgE_map h l]
section
variable {G : Gh} {w : World}
mutual
theorem R.fg : ∀ (c : AV) (v : Value), R G w c v → R G w (fg c) v
  | .int k n, v => fun h => by unfold Go.Ab.fg; exact h
  | .bool b, v => fun h => by unfold Go.Ab.fg; exact h
  | .str l, v => fun h => by unfold Go.Ab.fg; exact h
  | .ptr a, v => fun h => by unfold Go.Ab.fg; exact h
  | .cptr cs, v => fun h => by
    unfold Go.Ab.fg
    unfold R at h ⊢
    obtain ⟨b, o, hv, hc⟩ := h
    exact ⟨b, o, hv, RCells.fg cs b o hc⟩
  | .slice t es, v => fun h => by
    unfold Go.Ab.fg
    unfold R at h ⊢
    refine ⟨fun h0 => absurd rfl h0, ?_⟩
    rcases h.2 with ⟨he, a, cap, hv, _, h2⟩ | ⟨b, o, cap, k, hv, h1, _, h3, h4⟩
    · exact .inl ⟨by rw [he, fgE_nil], a, cap, hv, (fun h => by cases h), h2⟩
    · exact .inr ⟨b, o, cap, k, by rw [fgE_len]; exact hv, by rw [fgE_len]; exact h1, (fun h => by cases h), fgE_ne h3, RElems.fg es k b o h4⟩
  | .raw a len cap, v => fun h => by unfold Go.Ab.fg; exact h
  | .iface t x, v => fun h => by
    unfold Go.Ab.fg
    unfold R at h ⊢
    obtain ⟨u, hv, hx⟩ := h
    exact ⟨u, hv, R.fg x u hx⟩
  | .nilIface, v => fun h => by unfold Go.Ab.fg; exact h
  | .func fn fs cs, v => fun h => by
    unfold Go.Ab.fg
    unfold R at h ⊢
    obtain ⟨us, vs, hv, h1, h2⟩ := h
    exact ⟨us, vs, hv, RList.fg fs _ h1, RList.fg cs _ h2⟩
  | .nilFunc, v => fun h => by unfold Go.Ab.fg; exact h
  | .agg cs, v => fun h => by
    unfold Go.Ab.fg
    unfold R at h ⊢
    obtain ⟨us, hv, h1⟩ := h
    exact ⟨us, hv, RList.fg cs _ h1⟩
  | .tuple vs, v => fun h => by
    unfold Go.Ab.fg
    unfold R at h ⊢
    obtain ⟨us, hv, h1⟩ := h
    exact ⟨us, hv, RList.fg vs _ h1⟩
  | .cmap es, v => fun h => by unfold Go.Ab.fg; exact h
theorem RCells.fg : ∀ (cs : List AV) (b o : Nat), RCells G w b o cs → RCells G w b o (fgL cs)
  | [], b, o => fun _ => by unfold fgL; unfold RCells; trivial
  | c :: cs, b, o => fun h => by
    unfold fgL
    unfold RCells at h ⊢
    obtain ⟨hg, ⟨u, hu, hr⟩, hs⟩ := h
    exact ⟨hg, ⟨u, hu, R.fg c u hr⟩, RCells.fg cs b (o + 1) hs⟩
theorem RElems.fg : ∀ (es : List (List AV)) (k b o : Nat), RElems G w k b o es → RElems G w k b o (fgE es)
  | [], k, b, o => fun _ => by unfold fgE; unfold RElems; trivial
  | e :: es, k, b, o => fun h => by
    unfold fgE
    unfold RElems at h ⊢
    obtain ⟨hl, hc, hs⟩ := h
    exact ⟨(fgL_len e).trans hl, RCells.fg e b o hc, RElems.fg es k b (o + k) hs⟩
theorem RList.fg : ∀ (cs : List AV) (vs : List Value), RList G w cs vs → RList G w (fgL cs) vs
  | [], vs => fun h => by unfold fgL; exact h
  | c :: cs, vs => fun h => by
    unfold fgL
    unfold RList at h ⊢
    obtain ⟨u, us, hv, h1, h2⟩ := h
    exact ⟨u, us, hv, R.fg c u h1, RList.fg cs us h2⟩
end
end
/-- A call that hands back what it made, its rooms forgotten. -/
theorem APure.fgt {f : FuncId} {args : List AV} {r : AV} (h : ∀ s, ACalls P Γ f args s fun v s' => fg v = r ∧ Sub s s') : APure P Γ f args fun v => v = r :=
  fun s => ⟨fun G w vs hm hr => ((h s).run G w vs hm hr).mono fun e w' ⟨v, av, s', G', he, ⟨ht, hsub⟩, hR, hM, hX⟩ =>
    ⟨v, r, s, G', he, ⟨rfl, rfl⟩, by rw [← ht]; exact R.fg _ _ hR, hM.sub hsub, hX⟩⟩
end Go.Ab
namespace Go.Ab
open Go Go.RowKit
variable {P : Program} {Γ : Nat → AV}
/-- Which boxes stay, and what they hold, in elements of so many cells. -/
abbrev Frz := Nat → Option (Nat × List AV)
def fzP (m : Frz) : Option Addr → AV
  | some ⟨b, o, none⟩ => (match m b with | some (_, cs) => .cptr (cs.drop o) | none => .ptr (some ⟨b, o, none⟩))
  | a => .ptr a
def fzW (m : Frz) : Option Addr → Nat → Nat → AV
  | some ⟨b, o, none⟩, len, cap => (match m b with
    | some (k, cs) => if len ≤ cap ∧ len * k ≤ (cs.drop o).length then .slice 0 (chunks k len (cs.drop o)) else .raw (some ⟨b, o, none⟩) len cap
    | none => .raw (some ⟨b, o, none⟩) len cap)
  | a, len, cap => .raw a len cap
mutual
def fz (m : Frz) : AV → AV
  | .int k n => .int k n
  | .bool b => .bool b
  | .str l => .str l
  | .ptr a => fzP m a
  | .cptr cs => .cptr (fzL m cs)
  | .slice t es => .slice t (fzE m es)
  | .raw a l c => fzW m a l c
  | .iface t v => .iface t (fz m v)
  | .nilIface => .nilIface
  | .func fn fs cs => .func fn (fzL m fs) (fzL m cs)
  | .nilFunc => .nilFunc
  | .agg cs => .agg (fzL m cs)
  | .tuple vs => .tuple (fzL m vs)
  | .cmap es => .cmap es
def fzL (m : Frz) : List AV → List AV
  | [] => []
  | c :: cs => fz m c :: fzL m cs
def fzE (m : Frz) : List (List AV) → List (List AV)
  | [] => []
  | e :: es => fzL m e :: fzE m es
end
theorem fzL_len (m : Frz) : ∀ l : List AV, (fzL m l).length = l.length
  | [] => by unfold fzL; rfl
  | c :: cs => by unfold fzL; rw [List.length_cons, List.length_cons, fzL_len m cs]
theorem fzE_len (m : Frz) : ∀ l : List (List AV), (fzE m l).length = l.length
  | [] => by unfold fzE; rfl
  | c :: cs => by unfold fzE; rw [List.length_cons, List.length_cons, fzE_len m cs]
theorem fzE_nil (m : Frz) : fzE m [] = [] := by unfold fzE; rfl
theorem fzE_ne {m : Frz} {l : List (List AV)} (h : l ≠ []) : fzE m l ≠ [] := fun hn => h (List.eq_nil_of_length_eq_zero (by rw [← fzE_len m, hn]; rfl))
section
variable {G : Gh} {w : World} {m : Frz}
theorem R.fzP (hm : ∀ b k cs, m b = some (k, cs) → RCells G w b 0 cs) {a : Option Addr} {v : Value} (h : R G w (.ptr a) v) : R G w (fzP m a) v := by
  unfold Go.Ab.fzP
  split
  · rename_i b o
    split
    · rename_i k cs hb
      rw [R_ptr] at h
      subst h
      have := RCells_drop o cs b 0 (hm b k cs hb)
      rw [Nat.zero_add] at this
      exact R_cptr.2 ⟨b, o, rfl, this⟩
    · exact h
  · exact h
theorem R.fzW (hm : ∀ b k cs, m b = some (k, cs) → RCells G w b 0 cs) {a : Option Addr} {len cap : Nat} {v : Value} (h : R G w (.raw a len cap) v) : R G w (fzW m a len cap) v := by
  unfold Go.Ab.fzW
  split
  · rename_i b o
    split
    · rename_i k cs hb
      split
      · rename_i hl
        rw [R_raw] at h
        subst h
        have hc := RCells_drop o cs b 0 (hm b k cs hb)
        rw [Nat.zero_add] at hc
        have := R_slice0 (G := G) (w := w) (es := chunks k len (cs.drop o)) (a := some ⟨b, o, none⟩) (cap := cap) (by rw [length_chunks]; exact hl.1) (fun h => by cases h) (fun _ => ⟨b, o, k, rfl, RElems_chunks k len _ hc hl.2⟩)
        rwa [length_chunks] at this
      · exact h
    · exact h
  · exact h
mutual
theorem R.fz (hm : ∀ b k cs, m b = some (k, cs) → RCells G w b 0 cs) : ∀ (c : AV) (v : Value), R G w c v → R G w (fz m c) v
  | .int k n, v => fun h => by unfold Go.Ab.fz; exact h
  | .bool b, v => fun h => by unfold Go.Ab.fz; exact h
  | .str l, v => fun h => by unfold Go.Ab.fz; exact h
  | .ptr a, v => fun h => by unfold Go.Ab.fz; exact R.fzP hm h
  | .cptr cs, v => fun h => by
    unfold Go.Ab.fz
    unfold R at h ⊢
    obtain ⟨b, o, hv, hc⟩ := h
    exact ⟨b, o, hv, RCells.fz hm cs b o hc⟩
  | .slice t es, v => fun h => by
    unfold Go.Ab.fz
    unfold R at h ⊢
    refine ⟨h.1, ?_⟩
    rcases h.2 with ⟨he, a, cap, hv, h1, h2⟩ | ⟨b, o, cap, k, hv, h1, h2, h3, h4⟩
    · exact .inl ⟨by rw [he, fzE_nil], a, cap, hv, h1, h2⟩
    · exact .inr ⟨b, o, cap, k, by rw [fzE_len]; exact hv, by rw [fzE_len]; exact h1, (fun h => by rw [fzE_len]; exact h2 h), fzE_ne h3, RElems.fz hm es k b o h4⟩
  | .raw a len cap, v => fun h => by unfold Go.Ab.fz; exact R.fzW hm h
  | .iface t x, v => fun h => by
    unfold Go.Ab.fz
    unfold R at h ⊢
    obtain ⟨u, hv, hx⟩ := h
    exact ⟨u, hv, R.fz hm x u hx⟩
  | .nilIface, v => fun h => by unfold Go.Ab.fz; exact h
  | .func fn fs cs, v => fun h => by
    unfold Go.Ab.fz
    unfold R at h ⊢
    obtain ⟨us, vs, hv, h1, h2⟩ := h
    exact ⟨us, vs, hv, RList.fz hm fs _ h1, RList.fz hm cs _ h2⟩
  | .nilFunc, v => fun h => by unfold Go.Ab.fz; exact h
  | .agg cs, v => fun h => by
    unfold Go.Ab.fz
    unfold R at h ⊢
    obtain ⟨us, hv, h1⟩ := h
    exact ⟨us, hv, RList.fz hm cs _ h1⟩
  | .tuple vs, v => fun h => by
    unfold Go.Ab.fz
    unfold R at h ⊢
    obtain ⟨us, hv, h1⟩ := h
    exact ⟨us, hv, RList.fz hm vs _ h1⟩
  | .cmap es, v => fun h => by unfold Go.Ab.fz; exact h
theorem RCells.fz (hm : ∀ b k cs, m b = some (k, cs) → RCells G w b 0 cs) : ∀ (cs : List AV) (b o : Nat), RCells G w b o cs → RCells G w b o (fzL m cs)
  | [], b, o => fun _ => by unfold fzL; unfold RCells; trivial
  | c :: cs, b, o => fun h => by
    unfold fzL
    unfold RCells at h ⊢
    obtain ⟨hg, ⟨u, hu, hr⟩, hs⟩ := h
    exact ⟨hg, ⟨u, hu, R.fz hm c u hr⟩, RCells.fz hm cs b (o + 1) hs⟩
theorem RElems.fz (hm : ∀ b k cs, m b = some (k, cs) → RCells G w b 0 cs) : ∀ (es : List (List AV)) (k b o : Nat), RElems G w k b o es → RElems G w k b o (fzE m es)
  | [], k, b, o => fun _ => by unfold fzE; unfold RElems; trivial
  | e :: es, k, b, o => fun h => by
    unfold fzE
    unfold RElems at h ⊢
    obtain ⟨hl, hc, hs⟩ := h
    exact ⟨(fzL_len m e).trans hl, RCells.fz hm e b o hc, RElems.fz hm es k b (o + k) hs⟩
theorem RList.fz (hm : ∀ b k cs, m b = some (k, cs) → RCells G w b 0 cs) : ∀ (cs : List AV) (vs : List Value), RList G w cs vs → RList G w (fzL m cs) vs
  | [], vs => fun h => by unfold fzL; exact h
  | c :: cs, vs => fun h => by
    unfold fzL
    unfold RList at h ⊢
    obtain ⟨u, us, hv, h1, h2⟩ := h
    exact ⟨u, us, hv, R.fz hm c u h1, RList.fz hm cs us h2⟩
end
end
/-- Boxes that are nobody's from now on stay as they are. -/
theorem Mod.freeze {G : Gh} {w : World} {s s' : Sto} {m : Frz} (hM : Mod Γ G s' w) (hs : Sub s s') (hf : ∀ b k cs, m b = some (k, cs) → s.bx b = none ∧ ∃ T, s'.bx b = some (T, cs)) :
    ∃ G', Mod Γ G' s w ∧ Ext G w G' w ∧ ∀ b k cs, m b = some (k, cs) → RCells G' w b 0 cs := by
  let G' : Gh := ⟨fun b => if (m b).isSome then .fixd else G.kd b, G.tk⟩
  have e1 : ∀ b, (m b).isSome = true → G'.kd b = .fixd := fun b h => by show (if (m b).isSome then Kd.fixd else _) = _; rw [if_pos h]
  have e2 : ∀ b, ¬ (m b).isSome = true → G'.kd b = G.kd b := fun b h => by show (if (m b).isSome then Kd.fixd else _) = _; rw [if_neg h]
  have hfree : ∀ b, (m b).isSome = true → G.kd b = .free := fun b h => by
    obtain ⟨⟨k, cs⟩, hx⟩ := Option.isSome_iff_exists.1 h
    obtain ⟨_, T, hT⟩ := hf b k cs hx
    exact (hM.box b T cs hT).1
  have hrow : ∀ b n, G'.kd b = .row n → G.kd b = .row n := fun b n h => by
    by_cases hb : (m b).isSome = true
    · rw [e1 b hb] at h; cases h
    · rwa [e2 b hb] at h
  have hrow' : ∀ b n, G.kd b = .row n → G'.kd b = .row n := fun b n h => by
    by_cases hb : (m b).isSome = true
    · rw [hfree b hb] at h; cases h
    · rwa [e2 b hb]
  have X : Ext G w G' w := ⟨rfl, rfl, rfl, Nat.le_refl _, fun b h => ⟨by
      by_cases hb : (m b).isSome = true
      · exact e1 b hb
      · rwa [e2 b hb], rfl⟩, fun b n h => ⟨.inr ⟨n, Nat.le_refl _, hrow' b n h⟩, fun _ _ => rfl⟩, fun _ _ => rfl⟩
  have hm0 := hM.sub hs
  have top : ∀ {t b : Nat} {e : TypeId} {k : Nat}, Top G' w t b e k ↔ Top G w t b e k := fun {t b e k} =>
    ⟨fun ⟨len, cap, c, h1, h2, h3, h4, h5⟩ => ⟨len, cap, c, h1, h2, hrow _ _ h3, h4, h5⟩, fun ⟨len, cap, c, h1, h2, h3, h4, h5⟩ => ⟨len, cap, c, h1, h2, hrow' _ _ h3, h4, h5⟩⟩
  refine ⟨G', ⟨fun g => (hm0.glob g).mono X, ?_, ?_, ?_, ?_, hm0.fin⟩, X, ?_⟩
  · intro b T cs hb
    obtain ⟨h1, vs, h2, h3⟩ := hm0.box b T cs hb
    have hn : ¬ (m b).isSome = true := fun h => by
      obtain ⟨⟨k, cs⟩, hx⟩ := Option.isSome_iff_exists.1 h
      rw [(hf b k cs hx).1] at hb
      cases hb
    exact ⟨(e2 b hn).trans h1, vs, h2, h3.mono X _ _⟩
  · intro b hb
    by_cases h : (m b).isSome = true
    · obtain ⟨⟨k, cs⟩, hx⟩ := Option.isSome_iff_exists.1 h
      obtain ⟨_, T, hT⟩ := hf b k cs hx
      exact box_lt hM hT
    · rw [e2 b h] at hb
      exact hm0.dom b hb
  · intro t e k ht
    obtain ⟨h0, h1, b, h2⟩ := hm0.live t e k ht
    exact ⟨h0, h1, b, top.2 h2⟩
  · intro t u b e k e' k' ht hu h1 h2
    exact hm0.apart t u b e k e' k' ht hu (top.1 h1) (top.1 h2)
  · intro b k cs hb
    obtain ⟨_, T, hT⟩ := hf b k cs hb
    obtain ⟨_, vs, h2, h3⟩ := hM.box b T cs hT
    refine RCells_new (e1 b (by rw [hb]; rfl)) cs vs 0 (h3.mono X _ _) fun j u hj => ?_
    rw [Nat.zero_add]
    simp [World.cell?, h2, hj]
theorem ACalls.frz {f : FuncId} {args : List AV} {s : Sto} {φ ψ : AV → Sto → Prop} (h : ACalls P Γ f args s φ)
    (hk : ∀ v s', φ v s' → ∃ m s'', (∀ b k cs, m b = some (k, cs) → s''.bx b = none ∧ ∃ T, s'.bx b = some (T, cs)) ∧ Sub s'' s' ∧ ψ (fg (fz m v)) s'') : ACalls P Γ f args s ψ :=
  ⟨fun G w vs hm hr => (h.run G w vs hm hr).mono fun e w' ⟨v, av, s', G', he, hφ, hR, hM, hX⟩ => by
    obtain ⟨m, s'', h1, h2, h3⟩ := hk av s' hφ
    obtain ⟨G'', hM', X', hc⟩ := hM.freeze h2 h1
    exact ⟨v, _, s'', G'', he, h3, R.fg _ _ (R.fz hc _ _ (hR.mono X' _ _)), hM', hX.trans X'⟩⟩
/-- A call that hands back what it made, new boxes, too. -/
theorem APure.frz {f : FuncId} {args : List AV} {r : AV} (h : ∀ s, ACalls P Γ f args s fun v s' => ∃ m, (∀ b k cs, m b = some (k, cs) → s.bx b = none ∧ ∃ T, s'.bx b = some (T, cs)) ∧ fg (fz m v) = r ∧ Sub s s') : APure P Γ f args fun v => v = r :=
  fun s => (h s).frz fun _ _ ⟨m, h1, h2, h3⟩ => ⟨m, s, h1, h3, h2, rfl⟩
/-- One box. -/
def fz1 (b k : Nat) (cs : List AV) : Frz := fun c => if c = b then some (k, cs) else none
theorem fz1_at (b k : Nat) (cs : List AV) : fz1 b k cs b = some (k, cs) := if_pos rfl
theorem fz1_of {s s' : Sto} {b k : Nat} {T : TypeId} {cs : List AV} (h : s.bx b = none) (h' : s'.bx b = some (T, cs)) : ∀ c j ds, fz1 b k cs c = some (j, ds) → s.bx c = none ∧ ∃ T, s'.bx c = some (T, ds) := by
  intro c j ds hc
  unfold fz1 at hc
  split at hc
  · rename_i he
    subst he
    simp only [Option.some.injEq, Prod.mk.injEq] at hc
    obtain ⟨_, rfl⟩ := hc
    exact ⟨h, T, h'⟩
  · cases hc
def fz0 : Frz := fun _ => none
theorem fz0_of {s s' : Sto} : ∀ c j ds, fz0 c = some (j, ds) → s.bx c = none ∧ ∃ T, s'.bx c = some (T, ds) := fun _ _ _ h => by cases h
end Go.Ab
namespace Go.Proofs.YtdhgappjicpglaaGreatDoor.Ix
open Go Go.Ab Go.RowKit
variable {Γ : Nat → AV}
set_option maxRecDepth 10000
theorem lite_ok (l : List UInt8) (n : Int) : APure Tryz.prog Γ 88 [.str l, .int .u8 n] fun v => v = .int .i64 (Lib.indexByte l n.toNat.toUInt8) := by
  refine fun s => ⟨fun G w vs hm hr => ?_⟩
  obtain ⟨u, us, rfl, hu, hus⟩ := RList_cons.1 hr
  obtain ⟨u1, us1, rfl, hu1, hus1⟩ := RList_cons.1 hus
  rw [RList_nil] at hus1; subst hus1
  rw [R_str] at hu; subst hu
  rw [R_int] at hu1; subst hu1
  refine Calls.mono (R := fun e w' => e = .returned (.int .i64 (Lib.indexByte l n.toNat.toUInt8)) ∧ w' = w) ?_ ?_
  · go_enter Tryz.func88, Tryz.ntmps88
    go_wp2
    rw [run_callFunc_extern Tryz.func108 (by kernel_rfl) (by kernel_rfl) (by kernel_rfl) (e := Extern.BytealgIndexByte.indexByte) (by kernel_rfl)]
    rw [Lib.run_indexByteString]
    simp only [Result.andThen]
    rw [Oper.upon_value]
    go_wp2
    go_ret
    exact ⟨rfl, rfl⟩
  · rintro e w' ⟨rfl, rfl⟩
    exact ⟨_, _, s, G, rfl, ⟨rfl, rfl⟩, R_int.2 rfl, hm, Ext.refl _ _⟩
attribute [local irreducible] APure Sto.set Sto.grow
set_option maxRecDepth 10000
theorem indexByte_ok (l : List UInt8) (n : Int) : APure Tryz.prog Γ 67 [.str l, .int .u8 n] fun v => v = .int .i64 (Lib.indexByte l n.toNat.toUInt8) := by
  refine APure.of_awp Tryz.func67 rfl (Nat.le_of_ble_eq_true (by kernel_rfl)) (by kernel_rfl) ?_
  intro s
  conv => whnf
  repeat' (first
    | (refine ⟨Sub.refl _, ?_⟩)
    | (refine brA_split (fun h => ?_) (fun h => ?_) <;> (try rw [h]) <;> (try simp only [Bool.false_eq_true, Bool.true_eq_false, ↓reduceIte, decide_eq_true_eq, decide_eq_false_iff_not, Bool.not_eq_true', Bool.not_eq_false'] at h) <;> (conv => whnf))
    | (refine ACalls.pure' ?_ (lite_ok _ _); rintro _ rfl; conv => whnf)
    | (refine DCall.pure ?_ (lite_ok _ _); conv => whnf)
    | (refine getB_same ?_; conv => whnf)
    | (refine AWp.any (by kernel_rfl) (by kernel_rfl) (by kernel_rfl) ?_; conv => whnf)
    | (apply And.intro; (focus (first | omega | rfl | decide | exact Nat.le_of_ble_eq_true rfl | ((repeat' (first | exact all_nil | refine all_cons ?_ ?_ | rfl | fail)); done) | (simp [-List.length_flatMap]; done) | (simp [-List.length_flatMap]; omega) | fail)); conv => whnf)
    | fail)
  rfl
end Go.Proofs.YtdhgappjicpglaaGreatDoor.Ix
namespace Go.Proofs
open Go.Shelf
def Tryz.lays160_ren : Go.Shelf.Ren := ⟨fun | 160 => 111 | 232 => 131 | 231 => 130 | 227 => 132 | 234 => 134 | 233 => 133 | 236 => 136 | 235 => 135 | 228 => 145 | 271 => 148 | 151 => 147 | 197 => 146 | 120 => 154 | 152 => 153 | 260 => 152 | 137 => 67 | 119 => 158 | 224 => 126 | 225 => 125 | 217 => 88 | 266 => 108 | n => n, fun | 9 => 9 | 4 => 4 | 3 => 3 | 5 => 5 | 117 => 205 | 116 => 204 | 0 => 0 | 124 => 208 | 21 => 21 | 105 => 217 | 46 => 164 | 119 => 226 | 139 => 229 | 138 => 228 | n => n, fun | 3 => 9 | 4 => 10 | n => n⟩
theorem Tryz.lays160 : Go.Proofs.Lays.n160 Tryz.prog Tryz.lays160_ren := {
  mixed := by kernel_rfl
  f119 := Tryz.func158.trans (congrArg some (by kernel_rfl))
  f120 := Tryz.func154.trans (congrArg some (by kernel_rfl))
  f137 := Tryz.func67.trans (congrArg some (by kernel_rfl))
  f151 := Tryz.func147.trans (congrArg some (by kernel_rfl))
  f152 := Tryz.func153.trans (congrArg some (by kernel_rfl))
  f160 := Tryz.func111.trans (congrArg some (by kernel_rfl))
  f197 := Tryz.func146.trans (congrArg some (by kernel_rfl))
  f217 := Tryz.func88.trans (congrArg some (by kernel_rfl))
  f224 := Tryz.func126.trans (congrArg some (by kernel_rfl))
  f225 := Tryz.func125.trans (congrArg some (by kernel_rfl))
  f227 := Tryz.func132.trans (congrArg some (by kernel_rfl))
  f228 := Tryz.func145.trans (congrArg some (by kernel_rfl))
  f231 := Tryz.func130.trans (congrArg some (by kernel_rfl))
  f232 := Tryz.func131.trans (congrArg some (by kernel_rfl))
  f233 := Tryz.func133.trans (congrArg some (by kernel_rfl))
  f234 := Tryz.func134.trans (congrArg some (by kernel_rfl))
  f235 := Tryz.func135.trans (congrArg some (by kernel_rfl))
  f236 := Tryz.func136.trans (congrArg some (by kernel_rfl))
  f260 := Tryz.func152.trans (congrArg some (by kernel_rfl))
  f266 := Tryz.func108.trans (congrArg some (by kernel_rfl))
  f271 := Tryz.func148.trans (congrArg some (by kernel_rfl))
  t0 := Tryz.underlying0
  a0 := Tryz.isAgg0
  z0 := Tryz.sizeOf0
  v0 := Tryz.zeroValue0
  t3 := Tryz.underlying3
  a3 := Tryz.isAgg3
  z3 := Tryz.sizeOf3
  v3 := Tryz.zeroValue3
  t4 := Tryz.underlying4
  a4 := Tryz.isAgg4
  z4 := Tryz.sizeOf4
  v4 := Tryz.zeroValue4
  t5 := Tryz.underlying5
  a5 := Tryz.isAgg5
  z5 := Tryz.sizeOf5
  v5 := Tryz.zeroValue5
  t9 := Tryz.underlying9
  a9 := Tryz.isAgg9
  z9 := Tryz.sizeOf9
  v9 := Tryz.zeroValue9
  t21 := Tryz.underlying21
  a21 := Tryz.isAgg21
  z21 := Tryz.sizeOf21
  v21 := Tryz.zeroValue21
  t46 := Tryz.underlying164
  a46 := Tryz.isAgg164
  z46 := Tryz.sizeOf164
  v46 := Tryz.zeroValue164
  t105 := Tryz.underlying217
  a105 := Tryz.isAgg217
  z105 := Tryz.sizeOf217
  v105 := Tryz.zeroValue217
  t116 := Tryz.underlying204
  a116 := Tryz.isAgg204
  z116 := Tryz.sizeOf204
  t117 := Tryz.underlying205
  a117 := Tryz.isAgg205
  z117 := Tryz.sizeOf205
  v117 := Tryz.zeroValue205
  t119 := Tryz.underlying226
  a119 := Tryz.isAgg226
  z119 := Tryz.sizeOf226
  t124 := Tryz.underlying208
  a124 := Tryz.isAgg208
  z124 := Tryz.sizeOf208
  v124 := Tryz.zeroValue208
  t138 := Tryz.underlying228
  a138 := Tryz.isAgg228
  z138 := Tryz.sizeOf228
  v138 := Tryz.zeroValue228
  t139 := Tryz.underlying229
  a139 := Tryz.isAgg229
  z139 := Tryz.sizeOf229
  v139 := Tryz.zeroValue229
  g3 := by kernel_rfl
  g4 := by kernel_rfl }
def Tryz.laysM246_ren : Go.Shelf.Ren := ⟨fun | 246 => 84 | 283 => 103 | 284 => 104 | 285 => 105 | 286 => 106 | 129 => 121 | 317 => 120 | 318 => 122 | 319 => 123 | 320 => 124 | 337 => 142 | 338 => 143 | n => n, fun | 2 => 2 | 3 => 3 | 9 => 9 | 4 => 4 | 171 => 180 | 0 => 0 | 53 => 181 | 37 => 135 | 5 => 5 | 173 => 184 | 212 => 197 | 51 => 198 | 20 => 20 | 213 => 199 | 46 => 164 | 232 => 222 | 233 => 223 | n => n, fun | 17 => 6 | 18 => 7 | 19 => 8 | n => n⟩
theorem Tryz.laysM246 : Go.Proofs.LaysM.n246 Tryz.prog Tryz.laysM246_ren := {
  mixed := by kernel_rfl
  f129 := Tryz.func121.trans (congrArg some (by kernel_rfl))
  f246 := Tryz.func84.trans (congrArg some (by kernel_rfl))
  f283 := Tryz.func103.trans (congrArg some (by kernel_rfl))
  f284 := Tryz.func104.trans (congrArg some (by kernel_rfl))
  f285 := Tryz.func105.trans (congrArg some (by kernel_rfl))
  f286 := Tryz.func106.trans (congrArg some (by kernel_rfl))
  f317 := Tryz.func120.trans (congrArg some (by kernel_rfl))
  f318 := Tryz.func122.trans (congrArg some (by kernel_rfl))
  f319 := Tryz.func123.trans (congrArg some (by kernel_rfl))
  f320 := Tryz.func124.trans (congrArg some (by kernel_rfl))
  f337 := Tryz.func142.trans (congrArg some (by kernel_rfl))
  f338 := Tryz.func143.trans (congrArg some (by kernel_rfl))
  t0 := Tryz.underlying0
  a0 := Tryz.isAgg0
  z0 := Tryz.sizeOf0
  v0 := Tryz.zeroValue0
  t2 := Tryz.underlying2
  a2 := Tryz.isAgg2
  z2 := Tryz.sizeOf2
  v2 := Tryz.zeroValue2
  t3 := Tryz.underlying3
  a3 := Tryz.isAgg3
  z3 := Tryz.sizeOf3
  v3 := Tryz.zeroValue3
  t4 := Tryz.underlying4
  a4 := Tryz.isAgg4
  z4 := Tryz.sizeOf4
  v4 := Tryz.zeroValue4
  t5 := Tryz.underlying5
  a5 := Tryz.isAgg5
  z5 := Tryz.sizeOf5
  v5 := Tryz.zeroValue5
  t9 := Tryz.underlying9
  a9 := Tryz.isAgg9
  z9 := Tryz.sizeOf9
  v9 := Tryz.zeroValue9
  t20 := Tryz.underlying20
  a20 := Tryz.isAgg20
  z20 := Tryz.sizeOf20
  v20 := Tryz.zeroValue20
  t37 := Tryz.underlying135
  a37 := Tryz.isAgg135
  z37 := Tryz.sizeOf135
  v37 := Tryz.zeroValue135
  t46 := Tryz.underlying164
  a46 := Tryz.isAgg164
  z46 := Tryz.sizeOf164
  v46 := Tryz.zeroValue164
  t51 := Tryz.underlying198
  a51 := Tryz.isAgg198
  z51 := Tryz.sizeOf198
  v51 := Tryz.zeroValue198
  t53 := Tryz.underlying181
  a53 := Tryz.isAgg181
  z53 := Tryz.sizeOf181
  v53 := Tryz.zeroValue181
  t171 := Tryz.underlying180
  a171 := Tryz.isAgg180
  z171 := Tryz.sizeOf180
  v171 := Tryz.zeroValue180
  t173 := Tryz.underlying184
  a173 := Tryz.isAgg184
  z173 := Tryz.sizeOf184
  v173 := Tryz.zeroValue184
  t212 := Tryz.underlying197
  a212 := Tryz.isAgg197
  z212 := Tryz.sizeOf197
  v212 := Tryz.zeroValue197
  t213 := Tryz.underlying199
  a213 := Tryz.isAgg199
  z213 := Tryz.sizeOf199
  t232 := Tryz.underlying222
  a232 := Tryz.isAgg222
  z232 := Tryz.sizeOf222
  v232 := Tryz.zeroValue222
  t233 := Tryz.underlying223
  a233 := Tryz.isAgg223
  z233 := Tryz.sizeOf223
  v233 := Tryz.zeroValue223
  g17 := by kernel_rfl
  g18 := by kernel_rfl
  g19 := by kernel_rfl
  i0 := by kernel_rfl
  i2 := by kernel_rfl
  i3 := by kernel_rfl
  i4 := by kernel_rfl
  i5 := by kernel_rfl
  i9 := by kernel_rfl
  i20 := by kernel_rfl
  i37 := by kernel_rfl
  i46 := by kernel_rfl
  i51 := by kernel_rfl
  i53 := by kernel_rfl
  i171 := by kernel_rfl
  i173 := by kernel_rfl
  i212 := by kernel_rfl
  i232 := by kernel_rfl
  i233 := by kernel_rfl
  m17 := by kernel_rfl
  m18 := by kernel_rfl
  m19 := by kernel_rfl }
open Go.RowKit Go.Sort Go.Lib in
theorem Tryz.internal_strconv_FormatInt_10 (n : Int) (h0 : -9223372036854775808 ≤ n) (h1 : n ≤ 9223372036854775807) (w : World) (htab : Lib.TabIs Tryz.prog w "internal/strconv.uint64pow10" .u64 Lib.pow10Tab) :
    Calls Tryz.prog 84 #[.int .i64 n, .int .i64 10] w fun e w' => e = .returned (.string ⟨(Lib.itoa n).toArray⟩) ∧ ∃ k os, w' = grow (w.drewN k) os := Any.internal_strconv_FormatInt_10 Tryz.laysM246 n h0 h1 w htab
def Tryz.laysC245_ren : Go.Shelf.Ren := ⟨fun | 245 => 164 | 279 => 167 | 280 => 168 | 281 => 169 | 282 => 170 | 316 => 173 | 171 => 175 | 205 => 174 | 243 => 176 | 246 => 84 | 283 => 103 | 284 => 104 | 285 => 105 | 286 => 106 | 129 => 121 | 317 => 120 | 318 => 122 | 319 => 123 | 320 => 124 | 337 => 142 | 338 => 143 | n => n, fun | 9 => 9 | 3 => 3 | 75 => 66 | 167 => 235 | 4 => 4 | 168 => 238 | 210 => 243 | 37 => 135 | 0 => 0 | 127 => 166 | 145 => 247 | 143 => 245 | 2 => 2 | 171 => 180 | 53 => 181 | 5 => 5 | 173 => 184 | 212 => 197 | 51 => 198 | 20 => 20 | 213 => 199 | 46 => 164 | 232 => 222 | 233 => 223 | 80 => 141 | n => n, fun | 15 => 12 | 16 => 11 | 17 => 6 | 18 => 7 | 19 => 8 | n => n⟩
def Tryz.laysC174_ren : Go.Shelf.Ren := ⟨fun | 174 => 161 | 247 => 163 | 245 => 164 | 287 => 166 | 279 => 167 | 280 => 168 | 281 => 169 | 282 => 170 | 321 => 171 | 322 => 172 | 316 => 173 | 171 => 175 | 205 => 174 | 243 => 176 | 246 => 84 | 283 => 103 | 284 => 104 | 285 => 105 | 286 => 106 | 129 => 121 | 317 => 120 | 318 => 122 | 319 => 123 | 320 => 124 | 337 => 142 | 338 => 143 | n => n, fun | 9 => 9 | 3 => 3 | 2 => 2 | 75 => 66 | 85 => 232 | 4 => 4 | 167 => 235 | 5 => 5 | 53 => 181 | 175 => 236 | 46 => 164 | 168 => 238 | 37 => 135 | 0 => 0 | 210 => 243 | 21 => 21 | 127 => 166 | 145 => 247 | 143 => 245 | 171 => 180 | 173 => 184 | 212 => 197 | 51 => 198 | 20 => 20 | 213 => 199 | 232 => 222 | 233 => 223 | 80 => 141 | n => n, fun | 15 => 12 | 16 => 11 | 17 => 6 | 18 => 7 | 19 => 8 | n => n⟩
theorem Tryz.laysC174 : Go.Proofs.LaysC.n174 Tryz.prog Tryz.laysC174_ren := {
  mixed := by kernel_rfl
  f129 := Tryz.func121.trans (congrArg some (by kernel_rfl))
  f171 := Tryz.func175.trans (congrArg some (by kernel_rfl))
  f174 := Tryz.func161.trans (congrArg some (by kernel_rfl))
  f205 := Tryz.func174.trans (congrArg some (by kernel_rfl))
  f243 := Tryz.func176.trans (congrArg some (by kernel_rfl))
  f245 := Tryz.func164.trans (congrArg some (by kernel_rfl))
  f246 := Tryz.func84.trans (congrArg some (by kernel_rfl))
  f247 := Tryz.func163.trans (congrArg some (by kernel_rfl))
  f279 := Tryz.func167.trans (congrArg some (by kernel_rfl))
  f280 := Tryz.func168.trans (congrArg some (by kernel_rfl))
  f281 := Tryz.func169.trans (congrArg some (by kernel_rfl))
  f282 := Tryz.func170.trans (congrArg some (by kernel_rfl))
  f283 := Tryz.func103.trans (congrArg some (by kernel_rfl))
  f284 := Tryz.func104.trans (congrArg some (by kernel_rfl))
  f285 := Tryz.func105.trans (congrArg some (by kernel_rfl))
  f286 := Tryz.func106.trans (congrArg some (by kernel_rfl))
  f287 := Tryz.func166.trans (congrArg some (by kernel_rfl))
  f316 := Tryz.func173.trans (congrArg some (by kernel_rfl))
  f317 := Tryz.func120.trans (congrArg some (by kernel_rfl))
  f318 := Tryz.func122.trans (congrArg some (by kernel_rfl))
  f319 := Tryz.func123.trans (congrArg some (by kernel_rfl))
  f320 := Tryz.func124.trans (congrArg some (by kernel_rfl))
  f321 := Tryz.func171.trans (congrArg some (by kernel_rfl))
  f322 := Tryz.func172.trans (congrArg some (by kernel_rfl))
  f337 := Tryz.func142.trans (congrArg some (by kernel_rfl))
  f338 := Tryz.func143.trans (congrArg some (by kernel_rfl))
  t0 := Tryz.underlying0
  a0 := Tryz.isAgg0
  z0 := Tryz.sizeOf0
  v0 := Tryz.zeroValue0
  t2 := Tryz.underlying2
  a2 := Tryz.isAgg2
  z2 := Tryz.sizeOf2
  v2 := Tryz.zeroValue2
  t3 := Tryz.underlying3
  a3 := Tryz.isAgg3
  z3 := Tryz.sizeOf3
  v3 := Tryz.zeroValue3
  t4 := Tryz.underlying4
  a4 := Tryz.isAgg4
  z4 := Tryz.sizeOf4
  v4 := Tryz.zeroValue4
  t5 := Tryz.underlying5
  a5 := Tryz.isAgg5
  z5 := Tryz.sizeOf5
  v5 := Tryz.zeroValue5
  t9 := Tryz.underlying9
  a9 := Tryz.isAgg9
  z9 := Tryz.sizeOf9
  v9 := Tryz.zeroValue9
  t20 := Tryz.underlying20
  a20 := Tryz.isAgg20
  z20 := Tryz.sizeOf20
  v20 := Tryz.zeroValue20
  t21 := Tryz.underlying21
  a21 := Tryz.isAgg21
  z21 := Tryz.sizeOf21
  v21 := Tryz.zeroValue21
  t37 := Tryz.underlying135
  a37 := Tryz.isAgg135
  z37 := Tryz.sizeOf135
  v37 := Tryz.zeroValue135
  t46 := Tryz.underlying164
  a46 := Tryz.isAgg164
  z46 := Tryz.sizeOf164
  v46 := Tryz.zeroValue164
  t51 := Tryz.underlying198
  a51 := Tryz.isAgg198
  z51 := Tryz.sizeOf198
  v51 := Tryz.zeroValue198
  t53 := Tryz.underlying181
  a53 := Tryz.isAgg181
  z53 := Tryz.sizeOf181
  v53 := Tryz.zeroValue181
  t75 := Tryz.underlying66
  a75 := Tryz.isAgg66
  z75 := Tryz.sizeOf66
  v75 := Tryz.zeroValue66
  t85 := Tryz.underlying232
  a85 := Tryz.isAgg232
  z85 := Tryz.sizeOf232
  v85 := Tryz.zeroValue232
  t127 := Tryz.underlying166
  a127 := Tryz.isAgg166
  z127 := Tryz.sizeOf166
  v127 := Tryz.zeroValue166
  t143 := Tryz.underlying245
  a143 := Tryz.isAgg245
  z143 := Tryz.sizeOf245
  v143 := Tryz.zeroValue245
  t145 := Tryz.underlying247
  a145 := Tryz.isAgg247
  z145 := Tryz.sizeOf247
  v145 := Tryz.zeroValue247
  t167 := Tryz.underlying235
  a167 := Tryz.isAgg235
  z167 := Tryz.sizeOf235
  v167 := Tryz.zeroValue235
  t168 := Tryz.underlying238
  a168 := Tryz.isAgg238
  z168 := Tryz.sizeOf238
  v168 := Tryz.zeroValue238
  t171 := Tryz.underlying180
  a171 := Tryz.isAgg180
  z171 := Tryz.sizeOf180
  v171 := Tryz.zeroValue180
  t173 := Tryz.underlying184
  a173 := Tryz.isAgg184
  z173 := Tryz.sizeOf184
  v173 := Tryz.zeroValue184
  t175 := Tryz.underlying236
  a175 := Tryz.isAgg236
  z175 := Tryz.sizeOf236
  v175 := Tryz.zeroValue236
  t210 := Tryz.underlying243
  a210 := Tryz.isAgg243
  z210 := Tryz.sizeOf243
  v210 := Tryz.zeroValue243
  t212 := Tryz.underlying197
  a212 := Tryz.isAgg197
  z212 := Tryz.sizeOf197
  v212 := Tryz.zeroValue197
  t213 := Tryz.underlying199
  a213 := Tryz.isAgg199
  z213 := Tryz.sizeOf199
  t232 := Tryz.underlying222
  a232 := Tryz.isAgg222
  z232 := Tryz.sizeOf222
  v232 := Tryz.zeroValue222
  t233 := Tryz.underlying223
  a233 := Tryz.isAgg223
  z233 := Tryz.sizeOf223
  v233 := Tryz.zeroValue223
  g15 := by kernel_rfl
  g16 := by kernel_rfl
  g17 := by kernel_rfl
  g18 := by kernel_rfl
  g19 := by kernel_rfl
  t80 := Tryz.underlying141
  a80 := Tryz.isAgg141
  z80 := Tryz.sizeOf141
  v80 := Tryz.zeroValue141
  i0 := by kernel_rfl
  i2 := by kernel_rfl
  i3 := by kernel_rfl
  i4 := by kernel_rfl
  i5 := by kernel_rfl
  i9 := by kernel_rfl
  i20 := by kernel_rfl
  i21 := by kernel_rfl
  i37 := by kernel_rfl
  i46 := by kernel_rfl
  i51 := by kernel_rfl
  i53 := by kernel_rfl
  i75 := by kernel_rfl
  i80 := by kernel_rfl
  i85 := by kernel_rfl
  i127 := by kernel_rfl
  i143 := by kernel_rfl
  i145 := by kernel_rfl
  i167 := by kernel_rfl
  i168 := by kernel_rfl
  i171 := by kernel_rfl
  i173 := by kernel_rfl
  i175 := by kernel_rfl
  i210 := by kernel_rfl
  i212 := by kernel_rfl
  i232 := by kernel_rfl
  i233 := by kernel_rfl
  m15 := by kernel_rfl
  m16 := by kernel_rfl
  m17 := by kernel_rfl
  m18 := by kernel_rfl
  m19 := by kernel_rfl
  c0 := by kernel_rfl
  c2 := by kernel_rfl
  c3 := by kernel_rfl
  c4 := by kernel_rfl
  c5 := by kernel_rfl
  c9 := by kernel_rfl
  c20 := by kernel_rfl
  c21 := by kernel_rfl
  c37 := by kernel_rfl
  c46 := by kernel_rfl
  c51 := by kernel_rfl
  c53 := by kernel_rfl
  c75 := by kernel_rfl
  c80 := by kernel_rfl
  c85 := by kernel_rfl
  c127 := by kernel_rfl
  c143 := by kernel_rfl
  c145 := by kernel_rfl
  c167 := by kernel_rfl
  c168 := by kernel_rfl
  c171 := by kernel_rfl
  c173 := by kernel_rfl
  c175 := by kernel_rfl
  c210 := by kernel_rfl
  c212 := by kernel_rfl
  c213 := by kernel_rfl
  c232 := by kernel_rfl
  c233 := by kernel_rfl }
open Go.RowKit in
theorem Tryz.strconv_ParseInt_10_at64_ok (s : ByteArray) (hmax : s.size ≤ 9223372036854775806) (v : Int) (h : Lib.parseIntB 64 s.data.toList = .ok v) (w : World) :
    Calls Tryz.prog 161 #[.string s, .int .i64 10, .int .i64 64] w fun e w' => e = .returned (.tuple #[.int .i64 v, .nilIface]) ∧ (w' = w ∨ ∃ t, w' = Lib.bytesWorld w 5 t) := Any.strconv_ParseInt_10_at64_ok Tryz.laysC174 s hmax v h w
open Go.RowKit in
theorem Tryz.strconv_ParseInt_10_at64_range (s : ByteArray) (hlim : s.size ≤ 281474976710656) (h : Lib.parseIntB 64 s.data.toList = .range) (ev : Value) (w : World) (hv : w.cell? ⟨11, 0, none⟩ = some ev) (hev : ev = .nilIface ∨ ∃ te pe, ev = .iface te pe) :
    Calls Tryz.prog 161 #[.string s, .int .i64 10, .int .i64 64] w fun e w' => ∃ N, e = .returned (.tuple #[.int .i64 (Lib.intSat 64 s.data.toList), .iface 238 (.pointer (some ⟨N, 0, none⟩))]) ∧ w.heap.size ≤ N ∧ w'.heap[N]? = some (.cells #[.string ⟨#[80, 97, 114, 115, 101, 73, 110, 116]⟩, .string s, ev] 243 (0, 0)) ∧ Below w.heap.size w w' := Any.strconv_ParseInt_10_at64_range Tryz.laysC174 s hlim h ev w hv hev
def Tryz.lays219_ren : Go.Shelf.Ren := ⟨fun | 219 => 109 | 217 => 88 | 225 => 125 | 224 => 126 | 267 => 127 | 266 => 108 | 314 => 144 | n => n, fun | 9 => 9 | 3 => 3 | 4 => 4 | 5 => 5 | 46 => 164 | 146 => 215 | 51 => 198 | n => n, fun | 1 => 5 | n => n⟩
def Tryz.lays143_ren : Go.Shelf.Ren := ⟨fun | 143 => 91 | 219 => 109 | 217 => 88 | 225 => 125 | 224 => 126 | 267 => 127 | 266 => 108 | 314 => 144 | n => n, fun | 9 => 9 | 3 => 3 | 4 => 4 | 5 => 5 | 46 => 164 | 146 => 215 | 51 => 198 | n => n, fun | 1 => 5 | n => n⟩
theorem Tryz.lays143 : Go.Proofs.Lays.n143 Tryz.prog Tryz.lays143_ren := {
  mixed := by kernel_rfl
  f143 := Tryz.func91.trans (congrArg some (by kernel_rfl))
  f217 := Tryz.func88.trans (congrArg some (by kernel_rfl))
  f219 := Tryz.func109.trans (congrArg some (by kernel_rfl))
  f224 := Tryz.func126.trans (congrArg some (by kernel_rfl))
  f225 := Tryz.func125.trans (congrArg some (by kernel_rfl))
  f266 := Tryz.func108.trans (congrArg some (by kernel_rfl))
  f267 := Tryz.func127.trans (congrArg some (by kernel_rfl))
  f314 := Tryz.func144.trans (congrArg some (by kernel_rfl))
  t3 := Tryz.underlying3
  a3 := Tryz.isAgg3
  z3 := Tryz.sizeOf3
  v3 := Tryz.zeroValue3
  t4 := Tryz.underlying4
  a4 := Tryz.isAgg4
  z4 := Tryz.sizeOf4
  v4 := Tryz.zeroValue4
  t5 := Tryz.underlying5
  a5 := Tryz.isAgg5
  z5 := Tryz.sizeOf5
  v5 := Tryz.zeroValue5
  t9 := Tryz.underlying9
  a9 := Tryz.isAgg9
  z9 := Tryz.sizeOf9
  v9 := Tryz.zeroValue9
  t46 := Tryz.underlying164
  a46 := Tryz.isAgg164
  z46 := Tryz.sizeOf164
  v46 := Tryz.zeroValue164
  t51 := Tryz.underlying198
  a51 := Tryz.isAgg198
  z51 := Tryz.sizeOf198
  v51 := Tryz.zeroValue198
  t146 := Tryz.underlying215
  a146 := Tryz.isAgg215
  z146 := Tryz.sizeOf215
  v146 := Tryz.zeroValue215
  g1 := by kernel_rfl }
open Go.RowKit Go.Lib in
theorem Tryz.strings_Index_one (s : ByteArray) (c : UInt8) (w : World) :
    Calls Tryz.prog 91 #[.string s, .string ⟨#[c]⟩] w fun e w' => e = .returned (.int .i64 (Lib.indexByte s.data.toList c)) ∧ w' = w := Any.strings_Index_one Tryz.lays143 s c w
def Tryz.lays138_ren : Go.Shelf.Ren := ⟨fun | 138 => 68 | 195 => 89 | 218 => 90 | 143 => 91 | 219 => 109 | 217 => 88 | 225 => 125 | 224 => 126 | 267 => 127 | 266 => 108 | 314 => 144 | n => n, fun | 9 => 9 | 3 => 3 | 4 => 4 | 5 => 5 | 0 => 0 | 46 => 164 | 146 => 215 | 51 => 198 | n => n, fun | 1 => 5 | n => n⟩
theorem Tryz.lays138 : Go.Proofs.Lays.n138 Tryz.prog Tryz.lays138_ren := {
  mixed := by kernel_rfl
  f138 := Tryz.func68.trans (congrArg some (by kernel_rfl))
  f143 := Tryz.func91.trans (congrArg some (by kernel_rfl))
  f195 := Tryz.func89.trans (congrArg some (by kernel_rfl))
  f217 := Tryz.func88.trans (congrArg some (by kernel_rfl))
  f218 := Tryz.func90.trans (congrArg some (by kernel_rfl))
  f219 := Tryz.func109.trans (congrArg some (by kernel_rfl))
  f224 := Tryz.func126.trans (congrArg some (by kernel_rfl))
  f225 := Tryz.func125.trans (congrArg some (by kernel_rfl))
  f266 := Tryz.func108.trans (congrArg some (by kernel_rfl))
  f267 := Tryz.func127.trans (congrArg some (by kernel_rfl))
  f314 := Tryz.func144.trans (congrArg some (by kernel_rfl))
  t0 := Tryz.underlying0
  a0 := Tryz.isAgg0
  z0 := Tryz.sizeOf0
  v0 := Tryz.zeroValue0
  t3 := Tryz.underlying3
  a3 := Tryz.isAgg3
  z3 := Tryz.sizeOf3
  v3 := Tryz.zeroValue3
  t4 := Tryz.underlying4
  a4 := Tryz.isAgg4
  z4 := Tryz.sizeOf4
  v4 := Tryz.zeroValue4
  t5 := Tryz.underlying5
  a5 := Tryz.isAgg5
  z5 := Tryz.sizeOf5
  v5 := Tryz.zeroValue5
  t9 := Tryz.underlying9
  a9 := Tryz.isAgg9
  z9 := Tryz.sizeOf9
  v9 := Tryz.zeroValue9
  t46 := Tryz.underlying164
  a46 := Tryz.isAgg164
  z46 := Tryz.sizeOf164
  v46 := Tryz.zeroValue164
  t51 := Tryz.underlying198
  a51 := Tryz.isAgg198
  z51 := Tryz.sizeOf198
  v51 := Tryz.zeroValue198
  t146 := Tryz.underlying215
  a146 := Tryz.isAgg215
  z146 := Tryz.sizeOf215
  v146 := Tryz.zeroValue215
  g1 := by kernel_rfl }
open Go.RowKit Go.Lib in
theorem Tryz.strings_Count_one (s : ByteArray) (c : UInt8) (w : World) :
    Calls Tryz.prog 68 #[.string s, .string ⟨#[c]⟩] w fun e w' => e = .returned (.int .i64 (Lib.countByte s.data.toList c)) ∧ w' = w := Any.strings_Count_one Tryz.lays138 s c w
def Tryz.laysGw15_ren : Go.Shelf.Ren := ⟨fun | 15 => 101 | 20 => 118 | n => n, fun | 9 => 9 | 23 => 176 | 3 => 3 | 4 => 4 | 0 => 0 | 21 => 21 | n => n, fun | n => n⟩
theorem Tryz.laysGw15 : Go.Proofs.LaysGw.n15 Tryz.prog Tryz.laysGw15_ren := {
  mixed := by kernel_rfl
  f15 := Tryz.func101.trans (congrArg some (by kernel_rfl))
  f20 := Tryz.func118.trans (congrArg some (by kernel_rfl))
  t0 := Tryz.underlying0
  a0 := Tryz.isAgg0
  z0 := Tryz.sizeOf0
  v0 := Tryz.zeroValue0
  i0 := by kernel_rfl
  t3 := Tryz.underlying3
  a3 := Tryz.isAgg3
  z3 := Tryz.sizeOf3
  v3 := Tryz.zeroValue3
  i3 := by kernel_rfl
  t4 := Tryz.underlying4
  a4 := Tryz.isAgg4
  z4 := Tryz.sizeOf4
  v4 := Tryz.zeroValue4
  i4 := by kernel_rfl
  t9 := Tryz.underlying9
  a9 := Tryz.isAgg9
  z9 := Tryz.sizeOf9
  v9 := Tryz.zeroValue9
  i9 := by kernel_rfl
  t21 := Tryz.underlying21
  a21 := Tryz.isAgg21
  z21 := Tryz.sizeOf21
  v21 := Tryz.zeroValue21
  i21 := by kernel_rfl
  t23 := Tryz.underlying176
  a23 := Tryz.isAgg176
  z23 := Tryz.sizeOf176
  v23 := Tryz.zeroValue176
  i23 := by kernel_rfl }
open Go.RowKit Go.Lib in
theorem Tryz.strings_IndexFunc (g : Nat) (lb : Array Value) (eg : ∀ args w, (callFunc g args).run Tryz.prog w = .ok (.enter g args) w) (p : Nat → Bool) (s : ByteArray) (w : World) (hp : PredAt Tryz.prog g lb encR p w) :
    Calls Tryz.prog 101 #[.string s, .func (.func g) #[] lb] w fun e w' => e = .returned (.int .i64 (Lib.idxFunc p true s)) ∧ Below w.heap.size w w' := Any.strings_IndexFunc Tryz.laysGw15 g lb eg p s w hp
def Tryz.lays206_ren : Go.Shelf.Ren := ⟨fun | 206 => 113 | n => n, fun | 9 => 9 | 4 => 4 | 3 => 3 | n => n, fun | n => n⟩
def Tryz.lays101_ren : Go.Shelf.Ren := ⟨fun | 101 => 162 | 208 => 165 | 206 => 113 | n => n, fun | 9 => 9 | 4 => 4 | 3 => 3 | n => n, fun | n => n⟩
theorem Tryz.lays101 : Go.Proofs.Lays.n101 Tryz.prog Tryz.lays101_ren := {
  mixed := by kernel_rfl
  f101 := Tryz.func162.trans (congrArg some (by kernel_rfl))
  f206 := Tryz.func113.trans (congrArg some (by kernel_rfl))
  f208 := Tryz.func165.trans (congrArg some (by kernel_rfl))
  t3 := Tryz.underlying3
  a3 := Tryz.isAgg3
  z3 := Tryz.sizeOf3
  v3 := Tryz.zeroValue3
  t4 := Tryz.underlying4
  a4 := Tryz.isAgg4
  z4 := Tryz.sizeOf4
  v4 := Tryz.zeroValue4
  t9 := Tryz.underlying9
  a9 := Tryz.isAgg9
  z9 := Tryz.sizeOf9
  v9 := Tryz.zeroValue9 }
open Go.RowKit Go.Lib in
theorem Tryz.strings_TrimPrefix (s p : ByteArray) (w : World) :
    Calls Tryz.prog 162 #[.string s, .string p] w fun e w' => e = .returned (.string ⟨(Lib.trimPrefix s.data.toList p.data.toList).toArray⟩) ∧ w' = w := Any.strings_TrimPrefix Tryz.lays101 s p w
end Go.Proofs
namespace Go.Proofs.YtdhgappjicpglaaGreatDoor.Sc
open Go Go.Ab Go.RowKit
variable {Γ : Nat → AV}
/-- A letter, a digit or _. -/
def wordc (n : Int) : Bool := decide (n = 95) || (decide (48 ≤ n) && decide (n ≤ 57)) || (decide (65 ≤ n) && decide (n ≤ 90)) || (decide (97 ≤ n) && decide (n ≤ 122))
theorem wordc_high {n : Int} (h : 128 ≤ n) : wordc n = false := by
  simp [wordc]; omega
theorem odd_at (x : Nat) (W : World) : FnGives Tryz.prog 100 #[] #[encR x] (.bool (!wordc x)) W := by
  unfold FnGives encR
  go_enter Tryz.func100, Tryz.ntmps100
  go_wp2
  all_goals go_ret
  all_goals refine ⟨congrArg (fun b => Ending.returned (Value.bool b)) ?_, 0, rfl⟩
  all_goals grind [wordc]
/-- Where a text's first odd rune is. -/
theorem idx_spelt (l : List UInt8) : Lib.idxFunc (fun x => !wordc x) true ⟨l.toArray⟩ < 0 ↔ (l.all fun c => wordc c.toNat) = true := by
  have key : ∀ (f pos : Nat), l.length ≤ pos + f → (Lib.idxFuncFrom (fun x => !wordc x) true ⟨l.toArray⟩ f pos < 0 ↔ ((l.drop pos).all fun c => wordc c.toNat) = true) := by
    intro f
    induction f with
    | zero =>
      intro pos h
      rw [drop_end (by omega)]
      simp [Lib.idxFuncFrom]
    | succ f ih =>
      intro pos h
      simp only [Lib.idxFuncFrom]
      have hsz : (⟨l.toArray⟩ : ByteArray).size = l.length := rfl
      by_cases hp : pos < l.length
      · rw [if_pos (by rw [hsz]; exact hp), drop_byte hp]
        have hget : ((⟨l.toArray⟩ : ByteArray)[pos]'(by rw [hsz]; exact hp)) = byteAt l pos := by
          simp [byteAt, List.getD, hp]
          rfl
        by_cases ha : (byteAt l pos).toNat < 128
        · have hd := decode_ascii ⟨l.toArray⟩ pos (by rw [hsz]; exact hp) (by rw [hget]; exact ha)
          rw [hget] at hd
          rw [hd]
          simp only [List.all_cons]
          cases hw : wordc ((byteAt l pos).toNat : Int) with
          | true =>
            simp only [Bool.not_true, Bool.false_eq_true, if_false, Bool.true_and]
            exact ih (pos + 1) (by omega)
          | false => simp
        · have hd := decode_high ⟨l.toArray⟩ pos (by rw [hsz]; exact hp) (by rw [hget]; omega)
          have h1 : wordc ((Utf8.decode ⟨l.toArray⟩ pos).1 : Int) = false := wordc_high (by omega)
          have h2 : wordc ((byteAt l pos).toNat : Int) = false := wordc_high (by omega)
          rw [if_pos (by rw [h1]; rfl)]
          simp [h2]
      · rw [if_neg (by rw [hsz]; exact hp), drop_end hp]
        simp
  have := key l.length 0 (by omega)
  rw [List.drop_zero] at this
  exact this
theorem indexFunc_ok (l : List UInt8) : APure Tryz.prog Γ 101 [.str l, .func (.func 100) [] []] fun v => v = .int .i64 (Lib.idxFunc (fun x => !wordc x) true ⟨l.toArray⟩) := by
  intro s
  refine ACalls.of_below fun G w vs hm hr => ?_
  obtain ⟨u, us, rfl, hu, hus⟩ := RList_cons.1 hr
  obtain ⟨u1, us1, rfl, hu1, hus1⟩ := RList_cons.1 hus
  rw [RList_nil] at hus1; subst hus1
  rw [R_str] at hu; subst hu
  obtain ⟨a, b, rfl, ha, hb⟩ := R_func.1 hu1
  rw [RList_nil] at ha hb
  obtain rfl : a = #[] := by cases a; simp_all
  obtain rfl : b = #[] := by cases b; simp_all
  exact ⟨_, fun G' w' => R_int.2 rfl, Tryz.strings_IndexFunc 100 #[] (enters_of Tryz.func100 (by kernel_rfl) rfl) (fun x => !wordc x) ⟨l.toArray⟩ w fun W x _ => odd_at x W⟩
attribute [local irreducible] APure Sto.set Sto.grow
set_option maxRecDepth 10000
def spelt (l : List UInt8) : Bool := decide (1 ≤ l.length) && decide (l.length ≤ 32) && !(decide (48 ≤ (byteAt l 0).toNat) && decide ((byteAt l 0).toNat ≤ 57)) && l.all fun c => wordc c.toNat
theorem bool_eq {a b : Bool} (h : a = b) : AV.bool a = .bool b := by rw [h]
theorem spelt_first {l : List UInt8} (h1 : (48 : Int) ≤ (byteAt l 0).toNat) (h2 : ((byteAt l 0).toNat : Int) ≤ 57) : spelt l = false := by
  simp [spelt]; intro _ _ h; omega
theorem spelt_else {l : List UInt8} (h1 : 1 ≤ l.length) (h2 : l.length ≤ 32) (h3 : ¬ ((48 : Int) ≤ (byteAt l 0).toNat ∧ ((byteAt l 0).toNat : Int) ≤ 57)) : spelt l = l.all fun c => wordc c.toNat := by
  unfold spelt
  rw [decide_eq_true h1, decide_eq_true h2]
  have : (decide (48 ≤ (byteAt l 0).toNat) && decide ((byteAt l 0).toNat ≤ 57)) = false := by
    rw [← Bool.not_eq_true, Bool.and_eq_true, decide_eq_true_iff, decide_eq_true_iff]; omega
  rw [this]
  rfl
theorem progSpelt_any (l : List UInt8) : APure Tryz.prog Γ 82 [.str l] fun v => v = .bool (spelt l) := by
  have hb : decide (Lib.idxFunc (fun x => !wordc x) true ⟨l.toArray⟩ < 0) = l.all fun c => wordc c.toNat := by
    rw [Bool.eq_iff_iff, decide_eq_true_iff]; exact idx_spelt l
  rcases Nat.eq_zero_or_pos l.length with hz | hpos
  · obtain rfl := List.eq_nil_of_length_eq_zero hz
    refine APure.of_awp Tryz.func82 rfl (Nat.le_of_ble_eq_true (by kernel_rfl)) (by kernel_rfl) ?_
    intro s
    conv => whnf
    repeat' (first
      | (refine ⟨Sub.refl _, ?_⟩)
      | (refine brA_split (fun h => ?_) (fun h => ?_) <;> (try rw [h]) <;> (try simp only [Bool.false_eq_true, Bool.true_eq_false, ↓reduceIte, decide_eq_true_eq, decide_eq_false_iff_not, Bool.not_eq_true', Bool.not_eq_false'] at h) <;> (conv => whnf))
      | (refine getB_same ?_; conv => whnf)
      | (refine AWp.any (by kernel_rfl) (by kernel_rfl) (by kernel_rfl) ?_; conv => whnf)
      | (apply And.intro; (focus (first | omega | rfl | decide | exact Nat.le_of_ble_eq_true rfl | ((repeat' (first | exact all_nil | refine all_cons ?_ ?_ | rfl | fail)); done) | (simp [-List.length_flatMap]; done) | (simp [-List.length_flatMap]; omega) | fail)); conv => whnf)
      | fail)
    all_goals rfl
  refine APure.of_awp Tryz.func82 rfl (Nat.le_of_ble_eq_true (by kernel_rfl)) (by kernel_rfl) ?_
  intro s
  conv => whnf
  repeat' (first
    | (refine ⟨Sub.refl _, ?_⟩)
    | (refine brA_split (fun h => ?_) (fun h => ?_) <;> (try rw [h]) <;> (try simp only [Bool.false_eq_true, Bool.true_eq_false, ↓reduceIte, decide_eq_true_eq, decide_eq_false_iff_not, Bool.not_eq_true', Bool.not_eq_false'] at h) <;> (conv => whnf))
    | (refine ACalls.pure' ?_ (indexFunc_ok _); rintro _ rfl; conv => whnf)
    | (refine DCall.pure ?_ (indexFunc_ok _); conv => whnf)
    | (refine getB_same ?_; conv => whnf)
    | (refine AWp.any (by kernel_rfl) (by kernel_rfl) (by kernel_rfl) ?_; conv => whnf)
    | (apply And.intro; (focus (first | omega | rfl | decide | exact Nat.le_of_ble_eq_true rfl | ((repeat' (first | exact all_nil | refine all_cons ?_ ?_ | rfl | fail)); done) | (simp [-List.length_flatMap]; done) | (simp [-List.length_flatMap]; omega) | fail)); conv => whnf)
    | fail)
  all_goals simp only [show Int.toNat 0 = 0 from rfl, tupA] at *
  · subst h; simp at hpos
  · refine bool_eq ?_
    simp [spelt]; omega
  · exact bool_eq (spelt_first (by omega) (by omega)).symm
  · refine bool_eq ?_
    rw [hb, spelt_else (by omega) (by omega) (by omega)]
  · refine bool_eq ?_
    rw [hb, spelt_else (by omega) (by omega) (by omega)]
def words : List (List UInt8) := [[97, 99, 99, 101, 112, 116], [97, 108, 115, 111], [97, 110, 100], [98, 111, 111, 108], [100, 111], [101, 118, 101, 110, 116], [101, 120, 105, 115, 116, 115], [102, 97, 108, 115, 101], [102, 111, 114, 97, 108, 108], [102, 114, 101, 101], [105, 102], [105, 110, 116], [110, 101, 120, 116], [110, 111, 116], [111, 110], [111, 114], [113, 101, 97], [115, 107, 105, 112], [115, 116, 97, 114, 116], [115, 116, 114, 105, 110, 103], [116, 111], [116, 114, 117, 101]]
/-- The first place of a text, or -1. -/
def idxS : List (List UInt8) → List UInt8 → Int
  | [], _ => -1
  | b :: l, s => if s = b then 0 else if idxS l s = -1 then -1 else idxS l s + 1
theorem idxS_ge : ∀ (l : List (List UInt8)) (s : List UInt8), -1 ≤ idxS l s ∧ idxS l s < l.length
  | [], s => by simp [idxS]
  | b :: l, s => by have := idxS_ge l s; simp only [idxS, List.length_cons]; split <;> (try split) <;> omega
def addIdx (i : Nat) (k : Int) : Int := if k = -1 then -1 else i + k
theorem index_ok (t : Nat) (l : List (List UInt8)) (x : List UInt8) (hl : l.length ≤ 140737488355328) : APure Tryz.prog Γ 119 [.slice t (strsA l), .str x] fun v => v = .int .i64 (idxS l x) := by
  have hbl := strsA_len l
  refine APure.of_awp Tryz.func119 rfl (Nat.le_of_ble_eq_true (by kernel_rfl)) (by kernel_rfl) ?_
  intro s
  conv => whnf
  refine AWp.loopA [8] [9, 10, 5, 11, 12, 13, 14, 15, 16, 17, 4, 18] (fun i : Nat => [.int .i64 i]) (fun i s' => i ≤ l.length ∧ s' = s ∧ idxS l x = addIdx i (idxS (l.drop i) x)) (fun i => l.length - i) (0) (by kernel_rfl) (by (repeat' (first | refine cons_eq ?_ ?_ | refine int64_of ?_ ?_ ?_ | rfl | omega))) ?_ ?_
  · exact ⟨by omega, rfl, by simp [addIdx]⟩
  · rintro y i _ ⟨hi, rfl, hp⟩
    conv => whnf
    repeat' (first
      | (refine ⟨Sub.refl _, ?_⟩)
      | (refine brA_split (fun h => ?_) (fun h => ?_) <;> (try rw [h]) <;> (try simp only [Bool.false_eq_true, Bool.true_eq_false, ↓reduceIte, decide_eq_true_eq, decide_eq_false_iff_not, Bool.not_eq_true', Bool.not_eq_false'] at h) <;> (conv => whnf))
      | (rw [strsA_get (by omega)]; conv => whnf)
      | (refine getB_same ?_; conv => whnf)
      | (refine AWp.any (by kernel_rfl) (by kernel_rfl) (by kernel_rfl) ?_; conv => whnf)
      | (apply And.intro; (focus (first | omega | rfl | decide | exact Nat.le_of_ble_eq_true rfl | ((repeat' (first | exact all_nil | refine all_cons ?_ ?_ | rfl | fail)); done) | (simp [-List.length_flatMap]; done) | (simp [-List.length_flatMap]; omega) | fail)); conv => whnf)
      | fail)
    · simp only [Int.toNat_natCast] at h
      rw [hp, drop_str (by omega), idxS, if_pos h]
      simp [tupA, addIdx]
    · simp only [Int.toNat_natCast] at h
      refine ⟨i + 1, by (repeat' (first | refine cons_eq ?_ ?_ | refine int64_of ?_ ?_ ?_ | rfl | omega)), by (repeat (first | exact Same.refl _ _ | refine Same.upd rfl ?_ | refine Same.updL rfl ?_ | refine Same.havoc rfl ?_)), ⟨by omega, rfl, ?_⟩, by omega⟩
      rw [hp, drop_str (i := i) (by omega), idxS, if_neg h]
      have := idxS_ge (l.drop (i + 1)) x
      grind [addIdx]
    · rw [hp, drop_end (by omega)]
      simp [tupA, addIdx, idxS]
theorem contains_ok (t : Nat) (l : List (List UInt8)) (x : List UInt8) (hl : l.length ≤ 140737488355328) : APure Tryz.prog Γ 102 [.slice t (strsA l), .str x] fun v => v = .bool (decide (0 ≤ idxS l x)) := by
  refine APure.of_awp Tryz.func102 rfl (Nat.le_of_ble_eq_true (by kernel_rfl)) (by kernel_rfl) ?_
  intro s
  conv => whnf
  repeat' (first
    | (refine ⟨Sub.refl _, ?_⟩)
    | (refine brA_split (fun h => ?_) (fun h => ?_) <;> (try rw [h]) <;> (try simp only [Bool.false_eq_true, Bool.true_eq_false, ↓reduceIte, decide_eq_true_eq, decide_eq_false_iff_not, Bool.not_eq_true', Bool.not_eq_false'] at h) <;> (conv => whnf))
    | (refine ACalls.pure' ?_ (index_ok _ _ _ hl); rintro _ rfl; conv => whnf)
    | (refine DCall.pure ?_ (index_ok _ _ _ hl); conv => whnf)
    | (refine getB_same ?_; conv => whnf)
    | (refine AWp.any (by kernel_rfl) (by kernel_rfl) (by kernel_rfl) ?_; conv => whnf)
    | (apply And.intro; (focus (first | omega | rfl | decide | exact Nat.le_of_ble_eq_true rfl | ((repeat' (first | exact all_nil | refine all_cons ?_ ?_ | rfl | fail)); done) | (simp [-List.length_flatMap]; done) | (simp [-List.length_flatMap]; omega) | fail)); conv => whnf)
    | fail)
  rfl
end Go.Proofs.YtdhgappjicpglaaGreatDoor.Sc
namespace Go.Proofs.YtdhgappjicpglaaGreatDoor.Sc
open Go Go.Ab Go.RowKit
variable {Γ : Nat → AV}
attribute [local irreducible] APure Sto.set Sto.grow
set_option maxRecDepth 10000
/-- What the package's table of words holds. -/
def Wds (Γ : Nat → AV) : Prop := Γ 4 = .cptr (words.map .str)
def isWord (l : List UInt8) : Bool := spelt l && decide (0 ≤ idxS words l)
def isName (l : List UInt8) : Bool := spelt l && !isWord l && !decide (l = [95])
theorem progWord_any (hT : Wds Γ) (l : List UInt8) : APure Tryz.prog Γ 83 [.str l] fun v => v = .bool (isWord l) := by
  refine APure.of_awp Tryz.func83 rfl (Nat.le_of_ble_eq_true (by kernel_rfl)) (by kernel_rfl) ?_
  intro s
  conv => whnf
  repeat' (first
    | (refine ⟨Sub.refl _, ?_⟩)
    | (refine brA_split (fun h => ?_) (fun h => ?_) <;> (try rw [h]) <;> (try simp only [Bool.false_eq_true, Bool.true_eq_false, ↓reduceIte, decide_eq_true_eq, decide_eq_false_iff_not, Bool.not_eq_true', Bool.not_eq_false'] at h) <;> (conv => whnf))
    | (refine ACalls.pure' ?_ (progSpelt_any _); rintro _ rfl; conv => whnf)
    | (refine DCall.pure ?_ (progSpelt_any _); conv => whnf)
    | (rw [evA_glob, hT]; conv => whnf)
    | (refine ACalls.pure' ?_ (contains_ok 0 words _ (by decide)); rintro _ rfl; conv => whnf)
    | (refine DCall.pure ?_ (contains_ok 0 words _ (by decide)); conv => whnf)
    | (refine getB_same ?_; conv => whnf)
    | (refine AWp.any (by kernel_rfl) (by kernel_rfl) (by kernel_rfl) ?_; conv => whnf)
    | (apply And.intro; (focus (first | omega | rfl | decide | exact Nat.le_of_ble_eq_true rfl | ((repeat' (first | exact all_nil | refine all_cons ?_ ?_ | rfl | fail)); done) | (simp [-List.length_flatMap]; done) | (simp [-List.length_flatMap]; omega) | fail)); conv => whnf)
    | fail)
  all_goals simp [tupA, isWord, *]
theorem progName_any (hT : Wds Γ) (l : List UInt8) : APure Tryz.prog Γ 57 [.str l] fun v => v = .bool (isName l) := by
  refine APure.of_awp Tryz.func57 rfl (Nat.le_of_ble_eq_true (by kernel_rfl)) (by kernel_rfl) ?_
  intro s
  conv => whnf
  repeat' (first
    | (refine ⟨Sub.refl _, ?_⟩)
    | (refine brA_split (fun h => ?_) (fun h => ?_) <;> (try rw [h]) <;> (try simp only [Bool.false_eq_true, Bool.true_eq_false, ↓reduceIte, decide_eq_true_eq, decide_eq_false_iff_not, Bool.not_eq_true', Bool.not_eq_false'] at h) <;> (conv => whnf))
    | (refine ACalls.pure' ?_ (progSpelt_any _); rintro _ rfl; conv => whnf)
    | (refine DCall.pure ?_ (progSpelt_any _); conv => whnf)
    | (refine ACalls.pure' ?_ (progWord_any hT _); rintro _ rfl; conv => whnf)
    | (refine DCall.pure ?_ (progWord_any hT _); conv => whnf)
    | (refine getB_same ?_; conv => whnf)
    | (refine AWp.any (by kernel_rfl) (by kernel_rfl) (by kernel_rfl) ?_; conv => whnf)
    | (apply And.intro; (focus (first | omega | rfl | decide | exact Nat.le_of_ble_eq_true rfl | ((repeat' (first | exact all_nil | refine all_cons ?_ ?_ | rfl | fail)); done) | (simp [-List.length_flatMap]; done) | (simp [-List.length_flatMap]; omega) | fail)); conv => whnf)
    | fail)
  all_goals simp [tupA, isName, *]
end Go.Proofs.YtdhgappjicpglaaGreatDoor.Sc
namespace Go.Proofs.YtdhgappjicpglaaGreatDoor.Qu
open Go Go.Ab
attribute [local irreducible] APure Sto.set Sto.grow
set_option maxRecDepth 10000
variable {Γ : Nat → AV}
def shown (n : Int) : Bool := decide (32 ≤ n) && decide (n ≤ 126) && !decide (n = 34) && !decide (n = 92)
theorem shown_ok (n : Int) : APure Tryz.prog Γ 86 [.int .u8 n] fun v => v = .bool (shown n) := by
  refine APure.of_awp Tryz.func86 rfl (Nat.le_of_ble_eq_true (by kernel_rfl)) (by kernel_rfl) ?_
  intro s
  conv => whnf
  repeat' (first
    | (refine ⟨Sub.refl _, ?_⟩)
    | (refine brA_split (fun h => ?_) (fun h => ?_) <;> (try rw [h]) <;> (try simp only [Bool.false_eq_true, Bool.true_eq_false, ↓reduceIte, decide_eq_true_eq, decide_eq_false_iff_not, Bool.not_eq_true', Bool.not_eq_false'] at h) <;> (conv => whnf))
    | (refine getB_same ?_; conv => whnf)
    | (refine AWp.any (by kernel_rfl) (by kernel_rfl) (by kernel_rfl) ?_; conv => whnf)
    | (apply And.intro; (focus (first | omega | rfl | decide | exact Nat.le_of_ble_eq_true rfl | ((repeat' (first | exact all_nil | refine all_cons ?_ ?_ | rfl | fail)); done) | (simp [-List.length_flatMap]; done) | (simp [-List.length_flatMap]; omega) | fail)); conv => whnf)
    | fail)
  all_goals grind [shown, tupA]
def plain (l : List UInt8) : Bool := l.all fun c => shown c.toNat
def digits : List UInt8 := [48, 49, 50, 51, 52, 53, 54, 55, 56, 57, 97, 98, 99, 100, 101, 102]
def digit (n : Int) : UInt8 := byteAt digits n.toNat
def one (n : Int) : List UInt8 :=
  if n = 34 then [92, 34] else if n = 92 then [92, 92] else if n = 10 then [92, 110] else if n = 13 then [92, 114] else if n = 9 then [92, 116]
  else if n < 32 ∨ 126 < n then [92, 120, digit (n / 16), digit (n % 16)] else [UInt8.ofNat n.toNat]
theorem one_plain (c : UInt8) : shown c.toNat = true → one c.toNat = [c] := by
  intro h
  have : UInt8.ofNat ((c.toNat : Int).toNat) = c := by simp
  grind [one, shown]
theorem one_pos (c : UInt8) : 1 ≤ (one c.toNat).length := by grind [one]
theorem one_len (n : Int) : (one n).length ≤ 4 := by grind [one]
def quote (l : List UInt8) : List UInt8 := 34 :: l.flatMap (fun c => one c.toNat) ++ [34]
end Go.Proofs.YtdhgappjicpglaaGreatDoor.Qu
namespace Go.Proofs.YtdhgappjicpglaaGreatDoor.Bd
open Go Go.Ab Go.RowKit
variable {Γ : Nat → AV}
set_option maxRecDepth 10000
/-- A builder in box b, made by the call itself, that holds l. -/
structure Bld (s s' : Sto) (b : Nat) (l : List UInt8) : Prop where
  new : s.bx b = none
  at_ : ∃ p t, s'.bx b = some (137, [.ptr p, .slice t (bytesA l)]) ∧ (p = none ∨ p = some ⟨b, 0, none⟩) ∧ Own s s' l.isEmpty t 5 1
section
variable {G : Gh} {s : Sto} {w : World}
theorem set_self {b : Nat} {T : TypeId} {cs : List AV} (h : s.bx b = some (T, cs)) : s.set b T cs = s := by
  cases s
  simp only [Sto.set, Sto.mk.injEq, and_true]
  funext i
  split
  · rename_i hi; subst hi; exact h.symm
  · rfl
theorem copyCheck_ok {b : Nat} {p : Option Addr} {x : AV} (hb : s.bx b = some (137, [.ptr p, x])) (hp : p = none ∨ p = some ⟨b, 0, none⟩) :
    ACalls Tryz.prog Γ 85 [.ptr (some ⟨b, 0, none⟩)] s fun v s' => v = .tuple [] ∧ s' = s.set b 137 [.ptr (some ⟨b, 0, none⟩), x] := by
  refine ⟨fun G w vs hm hr => ?_⟩
  obtain ⟨u, us, rfl, hu, hus⟩ := RList_cons.1 hr
  rw [RList_nil] at hus; subst hus
  rw [R_ptr] at hu; subst hu
  obtain ⟨_, cs, hh, hcs⟩ := hm.box b _ _ hb
  obtain ⟨c0, cs', rfl, h0, h1⟩ := RList_cons.1 hcs
  obtain ⟨c1, cs'', rfl, hx, h2⟩ := RList_cons.1 h1
  rw [RList_nil] at h2; subst h2
  rw [R_ptr] at h0; subst h0
  have hcell : w.cell? ⟨b, 0, none⟩ = some (.pointer p) := by rw [Lib.cell_of_heap hh]; rfl
  have hsh : w.shape? b = some (137, 2) := by simp [World.shape?, hh]
  have hfz : w.frozen? ⟨b, 0, none⟩ = false := Lib.frozen_of_heap hh 0
  have hsz : (Tryz.prog.info? 137).map (·.size) = some 2 := by kernel_rfl
  obtain ⟨j, hj, hjs⟩ := Option.map_eq_some_iff.1 hsz
  rcases hp with rfl | rfl
  · refine Calls.mono (R := fun e w' => e = .returned (.tuple #[]) ∧ w' = w.setCell ⟨b, 0, none⟩ (.pointer (some ⟨b, 0, none⟩))) ?_ ?_
    · go_enter Tryz.func85, Tryz.ntmps85
      go_wp2
      rw [Lib.run_to_unsafe w ⟨b, 0, none⟩ Tryz.underlying134 Tryz.underlying112 hj (by rw [hjs]; decide) hsh (Nat.zero_lt_succ 1)]
      simp only [Result.andThen]
      rw [Oper.upon_value]
      go_wp2
      rw [run_callFunc_extern Tryz.func107 (by kernel_rfl) (by kernel_rfl) (by kernel_rfl) (e := Extern.AbiNoEscape.same) (by kernel_rfl)]
      rw [Lib.run_noEscape]
      simp only [Result.andThen]
      rw [Oper.upon_value]
      go_wp2
      rw [Lib.run_from_unsafe w ⟨b, 0, none⟩ Tryz.underlying112 Tryz.underlying134 hj hsh (by kernel_rfl)]
      simp only [Result.andThen]
      rw [Oper.upon_value]
      go_wp2
      go_end0
      exact ⟨rfl, rfl⟩
    · rintro e w' ⟨rfl, rfl⟩
      have hlt := box_lt hm hb
      obtain ⟨m1, m2⟩ := hm.box_set (w' := w.setCell ⟨b, 0, none⟩ (.pointer (some ⟨b, 0, none⟩))) (T := 137) (cs' := [.ptr (some ⟨b, 0, none⟩), x]) (vs := [.pointer (some ⟨b, 0, none⟩), c1]) hb
        (RList_cons.2 ⟨_, _, rfl, R_ptr.2 rfl, RList_cons.2 ⟨_, _, rfl, hx, RList_nil.2 rfl⟩⟩) rfl rfl rfl (by simp [World.setCell])
        (by simp [World.setCell, Array.getElem?_modify, hh]) (fun k hk => by simp [World.setCell, Array.getElem?_modify, Ne.symm hk])
      exact ⟨_, _, _, G, rfl, ⟨rfl, rfl⟩, R_tuple.2 ⟨#[], rfl, RList_nil.2 rfl⟩, m1, m2⟩
  · refine Calls.mono (R := fun e w' => e = .returned (.tuple #[]) ∧ w' = w) ?_ ?_
    · go_enter Tryz.func85, Tryz.ntmps85
      go_wp2
      rw [Lib.run_neq_ptr_same w _ Tryz.underlying134 hj]
      go_wp2
      go_end0
      exact ⟨rfl, rfl⟩
    · rintro e w' ⟨rfl, rfl⟩
      exact ⟨_, .tuple [], s, G, rfl, ⟨rfl, (set_self hb).symm⟩, R_tuple.2 ⟨#[], rfl, RList_nil.2 rfl⟩, hm, Ext.refl _ _⟩
end
section
variable {G : Gh} {s : Sto} {w : World}
/-- The row of a token is frozen: the token is spent. -/
def Sto.spend (s : Sto) (t : Nat) : Sto := { s with lv := fun u e k => s.lv u e k ∧ u ≠ t }
theorem freeze_cell (w : World) (a : Addr) (n : Nat) (x : Addr) : (w.freeze a n).cell? x = w.cell? x := by
  unfold World.freeze
  split
  · rfl
  · unfold World.cell?
    simp only [Array.getElem?_modify]
    by_cases h : a.block = x.block
    · rw [if_pos h]
      cases w.heap[x.block]? with
      | none => rfl
      | some o => cases o <;> simp
    · rw [if_neg h]
theorem freeze_other (w : World) (a : Addr) (n : Nat) (b : Nat) (h : b ≠ a.block) : (w.freeze a n).heap[b]? = w.heap[b]? := by
  unfold World.freeze
  split
  · rfl
  · simp only [Array.getElem?_modify]
    rw [if_neg (fun e => h e.symm)]
theorem freeze_size (w : World) (a : Addr) (n : Nat) : (w.freeze a n).heap.size = w.heap.size := by
  unfold World.freeze
  split <;> simp
theorem freeze_os (w : World) (a : Addr) (n : Nat) : (w.freeze a n).os = w.os ∧ (w.freeze a n).tape = w.tape ∧ (w.freeze a n).output = w.output := by
  unfold World.freeze
  split <;> exact ⟨rfl, rfl, rfl⟩
theorem Mod.frozen (hm : Mod Γ G s w) {t g n : Nat} {e : TypeId} {k : Nat} (hl : s.lv t e k) (ht : Top G w t g e k) : Mod Γ G (Sto.spend s t) (w.freeze ⟨g, 0, none⟩ n) ∧ Ext G w G (w.freeze ⟨g, 0, none⟩ n) := by
  have hkd : ∃ r, G.kd g = .row r := by
    obtain ⟨_, _, _, _, _, h3, _⟩ := ht
    exact ⟨_, h3⟩
  obtain ⟨r, hkd⟩ := hkd
  obtain ⟨o1, o2, o3⟩ := freeze_os w ⟨g, 0, none⟩ n
  have X : Ext G w G (w.freeze ⟨g, 0, none⟩ n) := ⟨o1, o2, o3, by rw [freeze_size]; exact Nat.le_refl _,
    fun b hb => ⟨hb, freeze_other _ _ _ _ (by rintro rfl; rw [hkd] at hb; cases hb)⟩,
    fun b h hb => ⟨.inr ⟨h, Nat.le_refl _, hb⟩, fun o _ => freeze_cell _ _ _ _⟩, fun _ _ => rfl⟩
  have other : ∀ {u b e' k'}, s.lv u e' k' → u ≠ t → Top G w u b e' k' → b ≠ g := by
    rintro u b e' k' hu hne h rfl
    exact hne (hm.apart u t b e' k' e k hu hl h ht)
  refine ⟨⟨fun i => (hm.glob i).mono X, ?_, ?_, ?_, ?_, hm.fin⟩, X⟩
  · intro b T cs hb
    obtain ⟨h1, vs, h2, h3⟩ := hm.box b T cs hb
    exact ⟨h1, vs, (freeze_other _ _ _ _ (by rintro rfl; rw [hkd] at h1; cases h1)).trans h2, h3.mono X _ _⟩
  · intro b hb
    rw [freeze_size]; exact hm.dom b hb
  · rintro u e' k' ⟨hu, hne⟩
    obtain ⟨h0, h1, b, h2⟩ := hm.live u e' k' hu
    exact ⟨h0, h1, b, h2.mono rfl rfl (freeze_other _ _ _ _ (other hu hne h2))⟩
  · rintro u v b e1 k1 e2 k2 ⟨hu, hne⟩ ⟨hv, hne'⟩ h1 h2
    by_cases hb : b = g
    · subst hb
      exfalso
      obtain ⟨_, _, b', h3⟩ := hm.live u e1 k1 hu
      have hb' := other hu hne h3
      obtain ⟨_, _, _, h4, _⟩ := h1
      obtain ⟨_, _, _, h5, _⟩ := h3
      rw [h4] at h5
      injection h5 with h5; injection h5 with h5; injection h5 with h5
      exact hb' h5.symm
    · have hh := freeze_other w ⟨g, 0, none⟩ n b hb
      exact hm.apart u v b e1 k1 e2 k2 hu hv (h1.mono rfl rfl hh.symm) (h2.mono rfl rfl hh.symm)
theorem bytes_inv : ∀ {l : List UInt8} {os : List Value}, RList G w (bytesA l).flatten os → os = Lib.byteCells l
  | [], os, h => RList_nil.1 h
  | x :: l, os, h => by
    have h : RList G w (.int .u8 x.toNat :: (bytesA l).flatten) os := h
    obtain ⟨u, us, rfl, hu, hus⟩ := RList_cons.1 h
    rw [R_int] at hu
    rw [hu, bytes_inv hus]
    rfl
end
theorem String_ok {s s' : Sto} {b : Nat} {l : List UInt8} (h : Bld s s' b l) (h0 : l ≠ []) (hmax : l.length ≤ 9223372036854775807) :
    ACalls Tryz.prog Γ 65 [.ptr (some ⟨b, 0, none⟩)] s' fun v s'' => v = .str l ∧ Sub s s'' := by
  obtain ⟨hnew, p, t, hb, hp, ho⟩ := h
  refine ⟨fun G w vs hm hr => ?_⟩
  obtain ⟨u, us, rfl, hu, hus⟩ := RList_cons.1 hr
  rw [RList_nil] at hus; subst hus
  rw [R_ptr] at hu; subst hu
  obtain ⟨_, cs, hh, hcs⟩ := hm.box b _ _ hb
  obtain ⟨c0, cs', rfl, hc0, h1⟩ := RList_cons.1 hcs
  obtain ⟨c1, cs'', rfl, hx, h2⟩ := RList_cons.1 h1
  rw [RList_nil] at h2; subst h2
  rw [R_ptr] at hc0; subst hc0
  obtain ⟨ht1, hlv, hno⟩ : t ≠ 1 ∧ s'.lv t 5 1 ∧ ∀ e k, ¬ s.lv t e k := by
    rcases ho.own with ⟨_, hz⟩ | h
    · exact absurd (List.isEmpty_iff.1 hz) h0
    · exact h
  obtain ⟨ht0, _, g, htop⟩ := hm.live t _ _ hlv
  have htop' := htop
  obtain ⟨len, cap, c, htk, hle, hkd, hhg, hcsz⟩ := htop
  have hval := (R_slice.1 hx).1 ht0 ht1
  rw [htk] at hval
  subst hval
  obtain ⟨a, cap', hv, _, _, hels, _⟩ := slice_val hx
  injection hv with e1 e2 e3
  subst e1 e2 e3
  have hbl : (bytesA l).length = l.length := bytesA_len l
  obtain ⟨b', o', k', ha, hel⟩ := hels (by intro hn; rw [hn] at hbl; exact h0 (List.eq_nil_of_length_eq_zero hbl.symm))
  injection ha with ha; injection ha with ha1 ha2; subst ha1 ha2
  obtain ⟨os, h3, h4, h5⟩ := RElems_cells _ hel
  have hos : os = Lib.byteCells l := bytes_inv h4
  subst hos
  have hhd : w.drew.heap[b]? = some (.cells #[.pointer p, .slice (some ⟨g, 0, none⟩) (bytesA l).length cap] 137 (0, 0)) := hh
  have hc1 : w.drew.cell? ⟨b, 1, none⟩ = some (.slice (some ⟨g, 0, none⟩) l.length cap) := by rw [Lib.cell_of_heap hhd, hbl]; rfl
  have hpos : 0 < l.length := List.length_pos_iff.2 h0
  have hcap : l.length ≤ cap := by rw [← hbl]; exact hle
  have hSD : (Builtin.unsafeSliceData_ #[135] 166 #[.slice (some ⟨g, 0, none⟩) l.length cap]).run Tryz.prog w.drew = .ok (.pointer (some ⟨g, 0, none⟩)) w.drew :=
    Lib.run_unsafeSliceData_row _ _ _ _ _ _ (by omega)
  have hgd : w.drew.heap[g]? = some (.cells c 5 (0, 0)) := hhg
  have hmaxc : l.length ≤ 9223372036854775807 := hmax
  have hUS : (Builtin.unsafeString_ #[166, 3] 9 #[.pointer (some ⟨g, 0, none⟩), .int .i64 l.length]).run Tryz.prog w.drew = .ok (.string ⟨l.toArray⟩) (w.drew.freeze ⟨g, 0, none⟩ l.length) := by
    refine Lib.run_unsafeString_row w.drew 166 3 9 5 Tryz.underlying166 (by kernel_rfl) g c.size (by simp [World.shape?, hgd]) l h0 (by omega) hmaxc ?_
    intro j x hxj
    have := h5 j (.int .u8 x.toNat) (by simp [Lib.byteCells, hxj])
    rw [Addr.add_lit]; exact this
  refine Calls.mono (R := fun e w' => e = .returned (.string ⟨l.toArray⟩) ∧ w' = w.drew.freeze ⟨g, 0, none⟩ l.length) ?_ ?_
  · have mixed : Tryz.prog.follows .mixedOrders = true := by kernel_rfl
    go_enter Tryz.func65, Tryz.ntmps65
    go_wp2
    go_region_o
    all_goals (go_wp2; go_ret; exact ⟨rfl, rfl⟩)
  · rintro e w' ⟨rfl, rfl⟩
    obtain ⟨md, Xd⟩ := hm.drew
    obtain ⟨m1, m2⟩ := Mod.frozen md (n := l.length) hlv (htop'.mono (w' := w.drew) (G' := G) rfl rfl rfl)
    exact ⟨_, .str l, Sto.spend s' t, G, rfl, ⟨rfl, fun b x hx => ho.sub.bx b x hx, fun u e k hu => ⟨ho.sub.lv u e k hu, by rintro rfl; exact hno _ _ hu⟩⟩, R_str.2 rfl, m1, Xd.trans m2⟩
attribute [local irreducible] APure Sto.set Sto.grow
set_option maxRecDepth 10000
theorem Bld.start {s : Sto} {b : Nat} (hb : s.bx b = none) : Bld s (s.set b 137 [.ptr none, .slice 1 []]) b [] :=
  ⟨hb, none, 1, set_bx_same, .inl rfl, Own.start ((Sub.refl s).set hb _ _) _ _⟩
theorem WriteByte_ok {s s' : Sto} {b : Nat} {l : List UInt8} (c : UInt8) (n : Int) (hn : n = c.toNat) (h : Bld s s' b l) (hl : l.length + 1 ≤ 70368744177664) :
    ACalls Tryz.prog Γ 62 [.ptr (some ⟨b, 0, none⟩), .int .u8 n] s' fun v s'' => v = .nilIface ∧ Bld s s'' b (l ++ [c]) := by
  subst hn
  obtain ⟨h0, p, t, hb, hp, ho⟩ := h
  refine ACalls.of_awp Tryz.func62 rfl (Nat.le_of_ble_eq_true (by kernel_rfl)) (awp_ok _ (by kernel_rfl) ?_)
  conv => whnf
  refine ACalls.by (copyCheck_ok hb hp) ?_
  rintro _ _ ⟨rfl, rfl⟩
  conv => whnf
  refine getB_same ?_
  conv => whnf
  repeat' (first
    | (refine ⟨Sub.refl _, ?_⟩)
    | (refine brA_split (fun h => ?_) (fun h => ?_) <;> (try rw [h]) <;> (try simp only [Bool.false_eq_true, Bool.true_eq_false, ↓reduceIte, decide_eq_true_eq, decide_eq_false_iff_not, Bool.not_eq_true', Bool.not_eq_false'] at h) <;> (conv => whnf))
    | (refine getB_same ?_; conv => whnf)
    | (refine AWp.any (by kernel_rfl) (by kernel_rfl) (by kernel_rfl) ?_; conv => whnf)
    | (apply And.intro; (focus (first | omega | rfl | decide | exact Nat.le_of_ble_eq_true rfl | ((repeat' (first | exact all_nil | refine all_cons ?_ ?_ | rfl | fail)); done) | (simp [-List.length_flatMap]; done) | (simp [-List.length_flatMap]; omega) | fail)); conv => whnf)
    | fail)
  have ho' : Own s (s'.set b 137 [.ptr (some ⟨b, 0, none⟩), .slice t (bytesA l)]) l.isEmpty t 5 1 := ho.set h0
  refine ⟨ho'.may, bytesA_all l, all_cons ⟨rfl, rfl⟩ all_nil, ?_, ?_⟩
  · show ((bytesA l).length + 1) * (1 + 1) ≤ _
    rw [bytesA_len]; omega
  intro t' h1 h2
  have ho2 := ho'.grow h1 h2
  conv => whnf
  refine getB_grow (getB_same ?_)
  conv => whnf
  repeat' (first
    | (refine ⟨Sub.refl _, ?_⟩)
    | (refine brA_split (fun h => ?_) (fun h => ?_) <;> (try rw [h]) <;> (try simp only [Bool.false_eq_true, Bool.true_eq_false, ↓reduceIte, decide_eq_true_eq, decide_eq_false_iff_not, Bool.not_eq_true', Bool.not_eq_false'] at h) <;> (conv => whnf))
    | (refine getB_same ?_; conv => whnf)
    | (refine AWp.any (by kernel_rfl) (by kernel_rfl) (by kernel_rfl) ?_; conv => whnf)
    | (apply And.intro; (focus (first | omega | rfl | decide | exact Nat.le_of_ble_eq_true rfl | ((repeat' (first | exact all_nil | refine all_cons ?_ ?_ | rfl | fail)); done) | (simp [-List.length_flatMap]; done) | (simp [-List.length_flatMap]; omega) | fail)); conv => whnf)
    | fail)
  refine ⟨_, Sub.refl _, rfl, h0, _, t', by rw [bytesA_append]; exact set_bx_same, .inr rfl, ?_⟩
  have e : (l ++ [c]).isEmpty = (l.isEmpty && [[AV.int .u8 c.toNat]].isEmpty) := by simp
  rw [e]
  exact ho2.set h0
theorem WriteString_ok {s s' : Sto} {b : Nat} {l : List UInt8} (m : List UInt8) (h : Bld s s' b l) (hl : l.length + m.length ≤ 70368744177664) :
    ACalls Tryz.prog Γ 63 [.ptr (some ⟨b, 0, none⟩), .str m] s' fun v s'' => v = .tuple [.int .i64 m.length, .nilIface] ∧ Bld s s'' b (l ++ m) := by
  obtain ⟨h0, p, t, hb, hp, ho⟩ := h
  refine ACalls.of_awp Tryz.func63 rfl (Nat.le_of_ble_eq_true (by kernel_rfl)) (awp_ok _ (by kernel_rfl) ?_)
  conv => whnf
  refine ACalls.by (copyCheck_ok hb hp) ?_
  rintro _ _ ⟨rfl, rfl⟩
  conv => whnf
  refine getB_same ?_
  conv => whnf
  repeat' (first
    | (refine ⟨Sub.refl _, ?_⟩)
    | (refine brA_split (fun h => ?_) (fun h => ?_) <;> (try rw [h]) <;> (try simp only [Bool.false_eq_true, Bool.true_eq_false, ↓reduceIte, decide_eq_true_eq, decide_eq_false_iff_not, Bool.not_eq_true', Bool.not_eq_false'] at h) <;> (conv => whnf))
    | (refine getB_same ?_; conv => whnf)
    | (refine AWp.any (by kernel_rfl) (by kernel_rfl) (by kernel_rfl) ?_; conv => whnf)
    | (apply And.intro; (focus (first | omega | rfl | decide | exact Nat.le_of_ble_eq_true rfl | ((repeat' (first | exact all_nil | refine all_cons ?_ ?_ | rfl | fail)); done) | (simp [-List.length_flatMap]; done) | (simp [-List.length_flatMap]; omega) | fail)); conv => whnf)
    | fail)
  have ho' : Own s (s'.set b 137 [.ptr (some ⟨b, 0, none⟩), .slice t (bytesA l)]) l.isEmpty t 5 1 := ho.set h0
  refine ⟨ho'.may, bytesA_all l, ?_, ?_⟩
  · show ((bytesA l).length + m.length) * (1 + 1) ≤ _
    rw [bytesA_len]; omega
  intro t' h1 h2
  have ho2 := ho'.grow h1 h2
  conv => whnf
  refine getB_grow (getB_same ?_)
  conv => whnf
  repeat' (first
    | (refine ⟨Sub.refl _, ?_⟩)
    | (refine brA_split (fun h => ?_) (fun h => ?_) <;> (try rw [h]) <;> (try simp only [Bool.false_eq_true, Bool.true_eq_false, ↓reduceIte, decide_eq_true_eq, decide_eq_false_iff_not, Bool.not_eq_true', Bool.not_eq_false'] at h) <;> (conv => whnf))
    | (refine getB_same ?_; conv => whnf)
    | (refine AWp.any (by kernel_rfl) (by kernel_rfl) (by kernel_rfl) ?_; conv => whnf)
    | (apply And.intro; (focus (first | omega | rfl | decide | exact Nat.le_of_ble_eq_true rfl | ((repeat' (first | exact all_nil | refine all_cons ?_ ?_ | rfl | fail)); done) | (simp [-List.length_flatMap]; done) | (simp [-List.length_flatMap]; omega) | fail)); conv => whnf)
    | fail)
  refine ⟨_, Sub.refl _, rfl, h0, _, t', by rw [bytesA_append]; exact set_bx_same, .inr rfl, ?_⟩
  have e : (l ++ m).isEmpty = (l.isEmpty && m.isEmpty) := by cases l <;> simp
  rw [e]
  exact ho2.set h0
end Go.Proofs.YtdhgappjicpglaaGreatDoor.Bd
namespace Go.Proofs.YtdhgappjicpglaaGreatDoor.Qu
open Go Go.Ab Go.Proofs.YtdhgappjicpglaaGreatDoor.Bd
attribute [local irreducible] APure Sto.set Sto.grow
set_option maxRecDepth 10000
variable {Γ : Nat → AV}
/-- The first place of a byte, or -1. -/
def idxOf : List UInt8 → Int → Int
  | [], _ => -1
  | b :: l, n => if n = b.toNat then 0 else if idxOf l n = -1 then -1 else idxOf l n + 1
theorem idxOf_ge : ∀ (l : List UInt8) (n : Int), -1 ≤ idxOf l n ∧ idxOf l n < l.length
  | [], n => by simp [idxOf]
  | b :: l, n => by have := idxOf_ge l n; simp only [idxOf, List.length_cons]; split <;> (try split) <;> omega
def addIdx (i : Nat) (k : Int) : Int := if k = -1 then -1 else i + k
theorem index_ok (t : Nat) (l : List UInt8) (n : Int) (hl : l.length ≤ 140737488355328) : APure Tryz.prog Γ 87 [.slice t (bytesA l), .int .u8 n] fun v => v = .int .i64 (idxOf l n) := by
  have hbl : (bytesA l).length = l.length := bytesA_len l
  refine APure.of_awp Tryz.func87 rfl (Nat.le_of_ble_eq_true (by kernel_rfl)) (by kernel_rfl) ?_
  intro s
  conv => whnf
  refine AWp.loopA [8] [9, 10, 5, 11, 12, 13, 14, 15, 16, 17, 4, 18] (fun i : Nat => [.int .i64 i]) (fun i s' => i ≤ l.length ∧ s' = s ∧ idxOf l n = addIdx i (idxOf (l.drop i) n)) (fun i => l.length - i) (0) (by kernel_rfl) (by (repeat' (first | refine cons_eq ?_ ?_ | refine int64_of ?_ ?_ ?_ | rfl | omega))) ?_ ?_
  · exact ⟨by omega, rfl, by simp [addIdx]⟩
  · rintro x i _ ⟨hi, rfl, hp⟩
    conv => whnf
    repeat' (first
      | (refine ⟨Sub.refl _, ?_⟩)
      | (refine brA_split (fun h => ?_) (fun h => ?_) <;> (try rw [h]) <;> (try simp only [Bool.false_eq_true, Bool.true_eq_false, ↓reduceIte, decide_eq_true_eq, decide_eq_false_iff_not, Bool.not_eq_true', Bool.not_eq_false'] at h) <;> (conv => whnf))
      | (rw [bytesA_get (by omega)]; conv => whnf)
      | (refine getB_same ?_; conv => whnf)
      | (refine AWp.any (by kernel_rfl) (by kernel_rfl) (by kernel_rfl) ?_; conv => whnf)
      | (apply And.intro; (focus (first | omega | rfl | decide | exact Nat.le_of_ble_eq_true rfl | ((repeat' (first | exact all_nil | refine all_cons ?_ ?_ | rfl | fail)); done) | (simp [-List.length_flatMap]; done) | (simp [-List.length_flatMap]; omega) | fail)); conv => whnf)
      | fail)
    · rw [hp, drop_byte (by omega), idxOf, if_pos (by simp at h; exact h)]
      simp [tupA, addIdx]
    · refine ⟨i + 1, by (repeat' (first | refine cons_eq ?_ ?_ | refine int64_of ?_ ?_ ?_ | rfl | omega)), by (repeat (first | exact Same.refl _ _ | refine Same.upd rfl ?_ | refine Same.updL rfl ?_ | refine Same.havoc rfl ?_)), ⟨by omega, rfl, ?_⟩, by omega⟩
      rw [hp, drop_byte (i := i) (by omega), idxOf, if_neg (by simp at h; exact h)]
      have := idxOf_ge (l.drop (i + 1)) n
      grind [addIdx]
    · rw [hp, drop_end (by omega)]
      simp [tupA, addIdx, idxOf]
def marks : List UInt8 := [34, 92, 10, 13, 9]
def letters : List UInt8 := [34, 92, 110, 114, 116]
/-- What the package's two tables hold. -/
structure Tabs (Γ : Nat → AV) : Prop where
  marks : Γ 2 = .cptr [.int .u8 34, .int .u8 92, .int .u8 10, .int .u8 13, .int .u8 9]
  letters : Γ 3 = .cptr [.int .u8 34, .int .u8 92, .int .u8 110, .int .u8 114, .int .u8 116]
theorem hi_of : ∀ m : Nat, m < 256 → (m : Int).fdiv (2 ^ min (Int.toNat 4) IntKind.u8.bits) = ((m / 16 : Nat) : Int) := by decide +kernel
theorem lo_of : ∀ m : Nat, m < 256 → IntKind.u8.wrap ((BitVec.ofInt IntKind.u8.bits (m : Int) &&& BitVec.ofInt IntKind.u8.bits 15).toNat : Nat) = ((m % 16 : Nat) : Int) := by decide +kernel
theorem digit_back : ∀ m : Nat, m < 16 → UInt8.ofNat (Int.toNat ((byteAt digits m).toNat : Nat)) = byteAt digits m := by decide +kernel
theorem one_else : ∀ m : Nat, m < 256 → shown (m : Int) = false → ¬ 0 ≤ idxOf marks (m : Int) → one (m : Int) = [92, 120, byteAt digits (m / 16), byteAt digits (m % 16)] := by decide +kernel
theorem progOne_ok (hT : Tabs Γ) (n : Int) (h0 : 0 ≤ n) (h1 : n < 256) : APure Tryz.prog Γ 64 [.int .u8 n] fun v => v = .str (one n) := by
  obtain ⟨m, rfl⟩ : ∃ m : Nat, n = m := ⟨n.toNat, by omega⟩
  have hm : m < 256 := by omega
  refine APure.of_awp Tryz.func64 rfl (Nat.le_of_ble_eq_true (by kernel_rfl)) (by kernel_rfl) ?_
  intro s
  conv => whnf
  repeat' (first
    | (refine ⟨Sub.refl _, ?_⟩)
    | (refine brA_split (fun h => ?_) (fun h => ?_) <;> (try rw [h]) <;> (try simp only [Bool.false_eq_true, Bool.true_eq_false, ↓reduceIte, decide_eq_true_eq, decide_eq_false_iff_not, Bool.not_eq_true', Bool.not_eq_false'] at h) <;> (conv => whnf))
    | (refine ACalls.pure' ?_ (shown_ok _); rintro _ rfl; conv => whnf)
    | (refine DCall.pure ?_ (shown_ok _); conv => whnf)
    | (refine ACalls.pure' ?_ (index_ok 0 marks _ (by decide)); rintro _ rfl; conv => whnf)
    | (refine DCall.pure ?_ (index_ok 0 marks _ (by decide)); conv => whnf)
    | (rw [evA_glob, hT.marks]; conv => whnf)
    | (rw [evA_glob, hT.letters]; conv => whnf)
    | (refine getB_same ?_; conv => whnf)
    | (refine AWp.any (by kernel_rfl) (by kernel_rfl) (by kernel_rfl) ?_; conv => whnf)
    | (apply And.intro; (focus (first | omega | rfl | decide | exact Nat.le_of_ble_eq_true rfl | ((repeat' (first | exact all_nil | refine all_cons ?_ ?_ | rfl | fail)); done) | (simp [-List.length_flatMap]; done) | (simp [-List.length_flatMap]; omega) | fail)); conv => whnf)
    | fail)
  · grind [tupA, one, shown]
  · have hm5 : m = 34 ∨ m = 92 ∨ m = 10 ∨ m = 13 ∨ m = 9 := by grind [idxOf, marks]
    rcases hm5 with rfl | rfl | rfl | rfl | rfl
    all_goals repeat' (first
      | (refine ⟨Sub.refl _, ?_⟩)
      | (refine brA_split (fun h => ?_) (fun h => ?_) <;> (try rw [h]) <;> (try simp only [Bool.false_eq_true, Bool.true_eq_false, ↓reduceIte, decide_eq_true_eq, decide_eq_false_iff_not, Bool.not_eq_true', Bool.not_eq_false'] at h) <;> (conv => whnf))
      | (refine getB_same ?_; conv => whnf)
      | (refine AWp.any (by kernel_rfl) (by kernel_rfl) (by kernel_rfl) ?_; conv => whnf)
      | (apply And.intro; (focus (first | omega | rfl | decide | exact Nat.le_of_ble_eq_true rfl | ((repeat' (first | exact all_nil | refine all_cons ?_ ?_ | rfl | fail)); done) | (simp [-List.length_flatMap]; done) | (simp [-List.length_flatMap]; omega) | fail)); conv => whnf)
      | fail)
    all_goals rfl
  rw [hi_of m hm]
  repeat' (first
    | (refine ⟨Sub.refl _, ?_⟩)
    | (refine brA_split (fun h => ?_) (fun h => ?_) <;> (try rw [h]) <;> (try simp only [Bool.false_eq_true, Bool.true_eq_false, ↓reduceIte, decide_eq_true_eq, decide_eq_false_iff_not, Bool.not_eq_true', Bool.not_eq_false'] at h) <;> (conv => whnf))
    | (rw [lo_of m hm]; conv => whnf)
    | (refine getB_same ?_; conv => whnf)
    | (refine AWp.any (by kernel_rfl) (by kernel_rfl) (by kernel_rfl) ?_; conv => whnf)
    | (apply And.intro; (focus (first | omega | rfl | decide | exact Nat.le_of_ble_eq_true rfl | ((repeat' (first | exact all_nil | refine all_cons ?_ ?_ | rfl | fail)); done) | (simp [-List.length_flatMap]; done) | (simp [-List.length_flatMap]; omega) | fail)); conv => whnf)
    | fail)
  intro b hb
  conv => whnf
  repeat' (first
    | (refine ⟨Sub.refl _, ?_⟩)
    | (refine brA_split (fun h => ?_) (fun h => ?_) <;> (try rw [h]) <;> (try simp only [Bool.false_eq_true, Bool.true_eq_false, ↓reduceIte, decide_eq_true_eq, decide_eq_false_iff_not, Bool.not_eq_true', Bool.not_eq_false'] at h) <;> (conv => whnf))
    | (refine getB_same ?_; conv => whnf)
    | (refine AWp.any (by kernel_rfl) (by kernel_rfl) (by kernel_rfl) ?_; conv => whnf)
    | (apply And.intro; (focus (first | omega | rfl | decide | exact Nat.le_of_ble_eq_true rfl | ((repeat' (first | exact all_nil | refine all_cons ?_ ?_ | rfl | fail)); done) | (simp [-List.length_flatMap]; done) | (simp [-List.length_flatMap]; omega) | fail)); conv => whnf)
    | fail)
  refine ⟨((Sub.refl _).set hb _ _).set hb _ _, ?_⟩
  rename_i hs
  rw [one_else m hm hs h, ← digit_back (m / 16) (by omega), ← digit_back (m % 16) (by omega)]
  rfl
/-- The program's Quote. -/
theorem progQuote_ok (hT : Tabs Γ) (l : List UInt8) (hl : l.length ≤ 4398046511104) : APure Tryz.prog Γ 43 [.str l] fun v => v = .str (quote l) := by
  have hlen : ∀ i, ((l.take i).flatMap fun c => one c.toNat).length ≤ 4 * l.length := fun i => by
    have := flatMap_len (fun c : UInt8 => one c.toNat) 4 (fun c => one_len _) (l.take i)
    simp only [List.length_take] at this
    omega
  refine APure.of_awp Tryz.func43 rfl (Nat.le_of_ble_eq_true (by kernel_rfl)) (by kernel_rfl) ?_
  intro s
  conv => whnf
  intro b hb
  conv => whnf
  refine ACalls.by (WriteByte_ok 34 34 rfl (Bld.start hb) (by simp)) ?_
  rintro _ s1 ⟨rfl, hB⟩
  conv => whnf
  refine AWp.loopA [8] [9, 10, 4, 11, 12, 13, 14, 15, 16] (fun i : Nat => [.int .i64 i]) (fun i s' => i ≤ l.length ∧ Bld s s' b (34 :: (l.take i).flatMap fun c => one c.toNat)) (fun i => l.length - i) (0) (by kernel_rfl) (by (repeat' (first | refine cons_eq ?_ ?_ | refine int64_of ?_ ?_ ?_ | rfl | omega))) ?_ ?_
  · exact ⟨by omega, hB⟩
  · rintro x i s' ⟨hi, hB'⟩
    have h1 := hlen i
    have h2 := one_len (byteAt l i).toNat
    have h3 := u8_lt (byteAt l i)
    conv => whnf
    repeat' (first
      | (refine ⟨Sub.refl _, ?_⟩)
      | (refine brA_split (fun h => ?_) (fun h => ?_) <;> (try rw [h]) <;> (try simp only [Bool.false_eq_true, Bool.true_eq_false, ↓reduceIte, decide_eq_true_eq, decide_eq_false_iff_not, Bool.not_eq_true', Bool.not_eq_false'] at h) <;> (conv => whnf))
      | (refine ACalls.pure' ?_ (progOne_ok hT _ ?_ ?_); rintro _ rfl; conv => whnf)
      | (refine DCall.pure ?_ (progOne_ok hT _ ?_ ?_); conv => whnf)
      | (refine getB_same ?_; conv => whnf)
      | (refine AWp.any (by kernel_rfl) (by kernel_rfl) (by kernel_rfl) ?_; conv => whnf)
      | (apply And.intro; (focus (first | omega | rfl | decide | exact Nat.le_of_ble_eq_true rfl | ((repeat' (first | exact all_nil | refine all_cons ?_ ?_ | rfl | fail)); done) | (simp [-List.length_flatMap]; done) | (simp [-List.length_flatMap]; omega) | fail)); conv => whnf)
      | fail)
    · refine ACalls.by (WriteString_ok _ hB' (by simp [-List.length_flatMap]; omega)) ?_
      rintro _ s2 ⟨rfl, hB2⟩
      conv => whnf
      refine ⟨i + 1, by (repeat' (first | refine cons_eq ?_ ?_ | refine int64_of ?_ ?_ ?_ | rfl | omega)), by (repeat (first | exact Same.refl _ _ | refine Same.upd rfl ?_ | refine Same.updL rfl ?_ | refine Same.havoc rfl ?_)), ⟨by omega, ?_⟩, by omega⟩
      rw [take_byte (by omega)]
      simpa using hB2
    · omega
    · simp; omega
    · have ht : l.take i = l := List.take_of_length_le (by omega)
      rw [ht] at hB' h1
      refine ACalls.by (WriteByte_ok 34 34 rfl hB' (by simp [-List.length_flatMap]; omega)) ?_
      rintro _ s2 ⟨rfl, hB2⟩
      conv => whnf
      refine ACalls.by (String_ok hB2 (by simp) (by simp [-List.length_flatMap]; omega)) ?_
      rintro _ s3 ⟨rfl, hs⟩
      conv => whnf
      exact ⟨hs, rfl⟩
end Go.Proofs.YtdhgappjicpglaaGreatDoor.Qu
namespace Go.Proofs.YtdhgappjicpglaaGreatDoor.Qu
open Go Go.Ab Go.Proofs.YtdhgappjicpglaaGreatDoor.Bd Go.Proofs.YtdhgappjicpglaaGreatDoor.Ix
attribute [local irreducible] APure Sto.set Sto.grow
set_option maxRecDepth 10000
variable {Γ : Nat → AV}
theorem contains_ok (t : Nat) (l : List UInt8) (n : Int) (hl : l.length ≤ 140737488355328) : APure Tryz.prog Γ 129 [.slice t (bytesA l), .int .u8 n] fun v => v = .bool (decide (0 ≤ idxOf l n)) := by
  refine APure.of_awp Tryz.func129 rfl (Nat.le_of_ble_eq_true (by kernel_rfl)) (by kernel_rfl) ?_
  intro s
  conv => whnf
  repeat' (first
    | (refine ⟨Sub.refl _, ?_⟩)
    | (refine brA_split (fun h => ?_) (fun h => ?_) <;> (try rw [h]) <;> (try simp only [Bool.false_eq_true, Bool.true_eq_false, ↓reduceIte, decide_eq_true_eq, decide_eq_false_iff_not, Bool.not_eq_true', Bool.not_eq_false'] at h) <;> (conv => whnf))
    | (refine ACalls.pure' ?_ (index_ok _ _ _ hl); rintro _ rfl; conv => whnf)
    | (refine DCall.pure ?_ (index_ok _ _ _ hl); conv => whnf)
    | (refine getB_same ?_; conv => whnf)
    | (refine AWp.any (by kernel_rfl) (by kernel_rfl) (by kernel_rfl) ?_; conv => whnf)
    | (apply And.intro; (focus (first | omega | rfl | decide | exact Nat.le_of_ble_eq_true rfl | ((repeat' (first | exact all_nil | refine all_cons ?_ ?_ | rfl | fail)); done) | (simp [-List.length_flatMap]; done) | (simp [-List.length_flatMap]; omega) | fail)); conv => whnf)
    | fail)
  rfl
/-- A digit's worth, or -1. -/
def worth (b : UInt8) : Int := Lib.indexByte digits b
theorem worth_lt (b : UInt8) : worth b < 16 := by
  have h : ∀ n : Nat, n < 256 → worth (UInt8.ofNat n) < 16 := by decide +kernel
  simpa using h b.toNat (u8_lt b)
theorem takeDigit_ok {s : Sto} {b : Nat} {l : List UInt8} (k : Nat) (hk : k < l.length) (hb : s.bx b = some (9, [.str l])) :
    ACalls Tryz.prog Γ 128 [.int .i64 k, .ptr (some ⟨b, 0, none⟩)] s fun v s' => v = .int .i64 (worth (byteAt l k)) ∧ s' = s := by
  refine ACalls.of_awp Tryz.func128 rfl (Nat.le_of_ble_eq_true (by kernel_rfl)) (awp_ok _ (by kernel_rfl) ?_)
  conv => whnf
  rw [hb]
  conv => whnf
  repeat' (first
    | (refine ⟨Sub.refl _, ?_⟩)
    | (refine brA_split (fun h => ?_) (fun h => ?_) <;> (try rw [h]) <;> (try simp only [Bool.false_eq_true, Bool.true_eq_false, ↓reduceIte, decide_eq_true_eq, decide_eq_false_iff_not, Bool.not_eq_true', Bool.not_eq_false'] at h) <;> (conv => whnf))
    | (refine ACalls.pure' ?_ (indexByte_ok _ _); rintro _ rfl; conv => whnf)
    | (refine DCall.pure ?_ (indexByte_ok _ _); conv => whnf)
    | (refine getB_same ?_; conv => whnf)
    | (refine AWp.any (by kernel_rfl) (by kernel_rfl) (by kernel_rfl) ?_; conv => whnf)
    | (apply And.intro; (focus (first | omega | rfl | decide | exact Nat.le_of_ble_eq_true rfl | ((repeat' (first | exact all_nil | refine all_cons ?_ ?_ | rfl | fail)); done) | (simp [-List.length_flatMap]; done) | (simp [-List.length_flatMap]; omega) | fail)); conv => whnf)
    | fail)
  refine ⟨_, Sub.refl _, ?_, rfl⟩
  show AV.int .i64 (Lib.indexByte digits _) = _
  simp [worth]
/-- The byte that stands at the beginning, and of how many; 0: there is none. -/
def tk (l : List UInt8) : Int × Int :=
  if shown (byteAt l 0).toNat then ((byteAt l 0).toNat, 1)
  else if ¬ ((byteAt l 0).toNat : Int) = 92 ∨ l.length < 2 then (0, 0)
  else if ¬ ((byteAt l 1).toNat : Int) = 120 then
    (if idxOf letters (byteAt l 1).toNat < 0 then (0, 0) else ((byteAt marks (idxOf letters (byteAt l 1).toNat).toNat).toNat, 2))
  else if l.length < 4 ∨ worth (byteAt l 2) < 0 ∨ worth (byteAt l 3) < 0 then (0, 0)
  else if shown (worth (byteAt l 2) * 16 + worth (byteAt l 3)) ∨ 0 ≤ idxOf marks (worth (byteAt l 2) * 16 + worth (byteAt l 3)) then (0, 0)
  else (worth (byteAt l 2) * 16 + worth (byteAt l 3), 4)
theorem comb : ∀ a : Nat, a < 16 → ∀ b : Nat, b < 16 → IntKind.u8.wrap (IntKind.i64.wrap (BitVec.ofInt IntKind.i64.bits (IntKind.i64.wrap ((a : Int) * 2 ^ min (Int.toNat 4) IntKind.i64.bits)) ||| BitVec.ofInt IntKind.i64.bits (b : Int)).toNat) = ((a * 16 + b : Nat) : Int) := by decide +kernel
theorem comb_worth {x y : UInt8} (hx : ¬ worth x < 0) (hy : ¬ worth y < 0) :
    IntKind.u8.wrap (IntKind.i64.wrap (BitVec.ofInt IntKind.i64.bits (IntKind.i64.wrap (worth x * 2 ^ min (Int.toNat 4) IntKind.i64.bits)) ||| BitVec.ofInt IntKind.i64.bits (worth y)).toNat) = worth x * 16 + worth y := by
  have h1 := worth_lt x
  have h2 := worth_lt y
  obtain ⟨a, ha⟩ : ∃ a : Nat, worth x = a := ⟨(worth x).toNat, by omega⟩
  obtain ⟨b, hb⟩ : ∃ b : Nat, worth y = b := ⟨(worth y).toNat, by omega⟩
  rw [ha] at h1 hx ⊢
  rw [hb] at h2 hy ⊢
  rw [comb a (by omega) b (by omega)]
  simp
theorem take_ok (hT : Tabs Γ) (l : List UInt8) (h0 : 0 < l.length) (hl : l.length ≤ 140737488355328) :
    APure Tryz.prog Γ 110 [.str l] fun v => v = .tuple [.int .u8 (tk l).1, .int .i64 (tk l).2] := by
  refine APure.of_awp Tryz.func110 rfl (Nat.le_of_ble_eq_true (by kernel_rfl)) (by kernel_rfl) ?_
  intro s
  conv => whnf
  intro b hb
  conv => whnf
  have hi5 : idxOf letters (byteAt l (Int.toNat 1)).toNat < 5 := (idxOf_ge letters _).2
  repeat' (first
    | (refine ⟨Sub.refl _, ?_⟩)
    | (refine brA_split (fun h => ?_) (fun h => ?_) <;> (try rw [h]) <;> (try simp only [Bool.false_eq_true, Bool.true_eq_false, ↓reduceIte, decide_eq_true_eq, decide_eq_false_iff_not, Bool.not_eq_true', Bool.not_eq_false'] at h) <;> (conv => whnf))
    | (refine ACalls.pure' ?_ (shown_ok _); rintro _ rfl; conv => whnf)
    | (refine DCall.pure ?_ (shown_ok _); conv => whnf)
    | (rw [evA_glob, hT.marks]; conv => whnf)
    | (rw [evA_glob, hT.letters]; conv => whnf)
    | (refine ACalls.pure' ?_ (index_ok 0 letters _ (by decide)); rintro _ rfl; conv => whnf)
    | (refine DCall.pure ?_ (index_ok 0 letters _ (by decide)); conv => whnf)
    | (refine ACalls.pure' ?_ (contains_ok 0 marks _ (by decide)); rintro _ rfl; conv => whnf)
    | (refine DCall.pure ?_ (contains_ok 0 marks _ (by decide)); conv => whnf)
    | (refine ACalls.by (takeDigit_ok 2 (by omega) set_bx_same) ?_; rintro _ _ ⟨rfl, rfl⟩; conv => whnf)
    | (refine ACalls.by (takeDigit_ok 3 (by omega) set_bx_same) ?_; rintro _ _ ⟨rfl, rfl⟩; conv => whnf)
    | (refine getB_same ?_; conv => whnf)
    | (refine AWp.any (by kernel_rfl) (by kernel_rfl) (by kernel_rfl) ?_; conv => whnf)
    | (apply And.intro; (focus (first | omega | rfl | decide | exact Nat.le_of_ble_eq_true rfl | ((repeat' (first | exact all_nil | refine all_cons ?_ ?_ | rfl | fail)); done) | (simp [-List.length_flatMap]; done) | (simp [-List.length_flatMap]; omega) | fail)); conv => whnf)
    | fail)
  case right.right.refine_2.right.right.refine_2.refine_2.right.right.refine_1.right.right.right.right.right.refine_2.right.right =>
    have hc : idxOf letters (byteAt l (Int.toNat 1)).toNat = 0 ∨ idxOf letters (byteAt l (Int.toNat 1)).toNat = 1 ∨ idxOf letters (byteAt l (Int.toNat 1)).toNat = 2 ∨ idxOf letters (byteAt l (Int.toNat 1)).toNat = 3 ∨ idxOf letters (byteAt l (Int.toNat 1)).toNat = 4 := by omega
    simp only [show Int.toNat 0 = 0 from rfl, show Int.toNat 1 = 1 from rfl] at *
    rcases hc with hc | hc | hc | hc | hc
    all_goals
      rw [hc]
      conv => whnf
      refine ⟨(Sub.refl _).set hb _ _, ?_⟩
      have e0 : shown 92 = false := rfl
      have m0 : ((byteAt marks 0).toNat : Int) = 34 := rfl
      have m1 : ((byteAt marks 1).toNat : Int) = 92 := rfl
      have m2 : ((byteAt marks 2).toNat : Int) = 10 := rfl
      have m3 : ((byteAt marks 3).toNat : Int) = 13 := rfl
      have m4 : ((byteAt marks 4).toNat : Int) = 9 := rfl
      grind [tk, tupA]
  all_goals refine ⟨(Sub.refl _).set hb _ _, ?_⟩
  all_goals simp only [show Int.toNat 0 = 0 from rfl, show Int.toNat 1 = 1 from rfl] at *
  all_goals try simp only [comb_worth, *, not_false_eq_true] at *
  all_goals grind [tk, tupA, comb_worth]
end Go.Proofs.YtdhgappjicpglaaGreatDoor.Qu
namespace Go.Proofs.YtdhgappjicpglaaGreatDoor.Qu
open Go Go.Ab Go.Proofs.YtdhgappjicpglaaGreatDoor.Bd Go.Proofs.YtdhgappjicpglaaGreatDoor.Ix
attribute [local irreducible] APure Sto.set Sto.grow
set_option maxRecDepth 10000
variable {Γ : Nat → AV}
def fine (m : Nat) : Bool :=
  (shown m && decide (one m = [UInt8.ofNat m])) ||
  (match one m with
  | [a, x] => decide (a = 92) && decide (x ≠ 120) && decide (0 ≤ idxOf letters x.toNat) && decide (((byteAt marks (idxOf letters x.toNat).toNat).toNat : Int) = m)
  | [a, b, x, y] => decide (a = 92) && decide (b = 120) && decide (0 ≤ worth x) && decide (0 ≤ worth y) && decide (worth x * 16 + worth y = m) && !shown m && decide (idxOf marks m < 0)
  | _ => false)
theorem fine_all : ∀ m : Nat, m < 256 → fine m = true := by decide +kernel
theorem tk_of (m : Nat) (hm : m < 256) (r : List UInt8) : tk (one m ++ r) = ((m : Int), ((one m).length : Int)) := by
  have h := fine_all m hm
  unfold fine at h
  rw [Bool.or_eq_true] at h
  rcases h with h | h
  · simp only [Bool.and_eq_true, decide_eq_true_eq] at h
    rw [h.2]
    have e : ((UInt8.ofNat m).toNat : Int) = m := by simp [Nat.mod_eq_of_lt hm]
    unfold tk
    have e1 : byteAt ([UInt8.ofNat m] ++ r) 0 = UInt8.ofNat m := rfl
    rw [e1, e, if_pos h.1]
    rfl
  · split at h
    · rename_i a x hx
      simp only [Bool.and_eq_true, decide_eq_true_eq] at h
      obtain ⟨⟨⟨rfl, h2⟩, h3⟩, h4⟩ := h
      rw [hx]
      unfold tk
      have e0 : byteAt ([92, x] ++ r) 0 = 92 := rfl
      have e1 : byteAt ([92, x] ++ r) 1 = x := rfl
      have e2 : ¬ (x.toNat : Int) = 120 := fun hh => h2 (UInt8.toNat_inj.1 (by simpa using Int.ofNat.inj hh))
      rw [e0, e1, if_neg (by decide), if_neg (by simp), if_pos e2, if_neg (by omega), h4]
      rfl
    · rename_i a b x y hx
      simp only [Bool.and_eq_true, decide_eq_true_eq, Bool.not_eq_true'] at h
      obtain ⟨⟨⟨⟨⟨⟨rfl, rfl⟩, h3⟩, h4⟩, h5⟩, h6⟩, h7⟩ := h
      rw [hx]
      unfold tk
      have e0 : byteAt ([92, 120, x, y] ++ r) 0 = 92 := rfl
      have e1 : byteAt ([92, 120, x, y] ++ r) 1 = 120 := rfl
      have e2 : byteAt ([92, 120, x, y] ++ r) 2 = x := rfl
      have e3 : byteAt ([92, 120, x, y] ++ r) 3 = y := rfl
      rw [e0, e1, e2, e3, if_neg (by decide), if_neg (by simp), if_neg (by decide), if_neg (by simp; omega), h5, if_neg (by simp [h6]; omega)]
      rfl
    · cases h
theorem worth_back (b : UInt8) (h : 0 ≤ worth b) : byteAt digits (worth b).toNat = b := by
  have key : ∀ n : Nat, n < 256 → 0 ≤ worth (UInt8.ofNat n) → byteAt digits (worth (UInt8.ofNat n)).toNat = UInt8.ofNat n := by decide +kernel
  simpa using key b.toNat (u8_lt b) (by simpa using h)
theorem letters_back (b : UInt8) (h : 0 ≤ idxOf letters b.toNat) : one (byteAt marks (idxOf letters b.toNat).toNat).toNat = [92, b] := by
  have key : ∀ n : Nat, n < 256 → 0 ≤ idxOf letters (UInt8.ofNat n).toNat → one (byteAt marks (idxOf letters (UInt8.ofNat n).toNat).toNat).toNat = [92, UInt8.ofNat n] := by decide +kernel
  simpa using key b.toNat (u8_lt b) (by simpa using h)
/-- None, or a byte's form that stands there. -/
theorem tk_cases : ∀ l : List UInt8, l ≠ [] → tk l = (0, 0) ∨ ∃ m : Nat, m < 256 ∧ ∃ r, l = one m ++ r
  | [], h => absurd rfl h
  | a :: l, _ => by
    by_cases h1 : shown (byteAt (a :: l) 0).toNat = true
    · have e : byteAt (a :: l) 0 = a := rfl
      rw [e] at h1
      exact .inr ⟨a.toNat, u8_lt a, l, by rw [one_plain a h1]; rfl⟩
    · by_cases h2 : ¬ ((byteAt (a :: l) 0).toNat : Int) = 92 ∨ (a :: l).length < 2
      · left; unfold tk; rw [if_neg h1, if_pos h2]
      · simp only [not_or, Decidable.not_not] at h2
        have ea : a = 92 := UInt8.toNat_inj.1 (show a.toNat = 92 from Int.ofNat.inj h2.1)
        subst ea
        match l, h2 with
        | [], h2 => simp at h2
        | b :: l, _ =>
          have e1 : byteAt (92 :: b :: l) 1 = b := rfl
          by_cases h3 : ¬ ((byteAt (92 :: b :: l) 1).toNat : Int) = 120
          · by_cases h4 : idxOf letters (byteAt (92 :: b :: l) 1).toNat < 0
            · left; unfold tk; rw [if_neg h1, if_neg (by simp [byteAt]), if_pos h3, if_pos h4]
            · rw [e1] at h4
              exact .inr ⟨(byteAt marks (idxOf letters b.toNat).toNat).toNat, u8_lt _, l, by rw [letters_back b (by omega)]; rfl⟩
          · have eb : b = 120 := UInt8.toNat_inj.1 (show b.toNat = 120 from Int.ofNat.inj (Decidable.not_not.1 h3))
            subst eb
            match l with
            | [] => left; unfold tk; rw [if_neg h1, if_neg (by simp [byteAt]), if_neg h3, if_pos (by simp)]
            | [c] => left; unfold tk; rw [if_neg h1, if_neg (by simp [byteAt]), if_neg h3, if_pos (by simp)]
            | c :: d :: l =>
              have e2 : byteAt (92 :: 120 :: c :: d :: l) 2 = c := rfl
              have e3 : byteAt (92 :: 120 :: c :: d :: l) 3 = d := rfl
              by_cases h4 : worth c < 0 ∨ worth d < 0
              · left; unfold tk; rw [e2, e3, if_neg h1, if_neg (by simp [byteAt]), if_neg h3, if_pos (.inr h4)]
              · by_cases h5 : shown (worth c * 16 + worth d) = true ∨ 0 ≤ idxOf marks (worth c * 16 + worth d)
                · left; unfold tk; rw [e2, e3, if_neg h1, if_neg (by simp [byteAt]), if_neg h3, if_neg (by simp; omega), if_pos h5]
                · have b1 := worth_lt c
                  have b2 := worth_lt d
                  have hm : (((worth c).toNat * 16 + (worth d).toNat : Nat) : Int) = worth c * 16 + worth d := by omega
                  refine .inr ⟨(worth c).toNat * 16 + (worth d).toNat, by omega, l, ?_⟩
                  rw [one_else _ (by omega) (by rw [hm]; simpa using (not_or.1 h5).1) (by rw [hm]; exact (not_or.1 h5).2)]
                  rw [show ((worth c).toNat * 16 + (worth d).toNat) / 16 = (worth c).toNat by omega, show ((worth c).toNat * 16 + (worth d).toNat) % 16 = (worth d).toNat by omega, worth_back c (by omega), worth_back d (by omega)]
                  rfl
end Go.Proofs.YtdhgappjicpglaaGreatDoor.Qu
namespace Go.Proofs.YtdhgappjicpglaaGreatDoor.Qu
open Go Go.Ab Go.Proofs.YtdhgappjicpglaaGreatDoor.Bd Go.Proofs.YtdhgappjicpglaaGreatDoor.Ix
attribute [local irreducible] APure Sto.set Sto.grow
set_option maxRecDepth 10000
variable {Γ : Nat → AV}
/-- What is cut behind the first quote, and of how many bytes. -/
def cutR : List UInt8 → Option (List UInt8 × Nat)
  | [] => none
  | b :: r => if b = 34 then some ([], 1) else if (tk (b :: r)).2 = 0 then none
    else (cutR (r.drop ((tk (b :: r)).2.toNat - 1))).map fun x => (UInt8.ofNat (tk (b :: r)).1.toNat :: x.1, x.2 + (tk (b :: r)).2.toNat)
termination_by l => l.length
decreasing_by simp only [List.length_drop, List.length_cons]; omega
def cut : List UInt8 → Option (List UInt8 × Nat)
  | [] => none
  | b :: r => if b = 34 then (cutR r).map fun x => (x.1, x.2 + 1) else none
theorem tk_bounds (l : List UInt8) (h : l ≠ []) : (tk l).1 = (UInt8.ofNat (tk l).1.toNat).toNat ∧ (tk l = (0, 0) ∨ 1 ≤ (tk l).2 ∧ (tk l).2 ≤ l.length) := by
  rcases tk_cases l h with ht | ⟨m, hm, r, rfl⟩
  · rw [ht]; exact ⟨rfl, .inl rfl⟩
  · rw [tk_of m hm]
    have : 1 ≤ (one (m : Int)).length := by
      have := one_pos (UInt8.ofNat m)
      simpa [Nat.mod_eq_of_lt hm] using this
    refine ⟨by simp [Nat.mod_eq_of_lt hm], .inr ⟨by simp; omega, by simp; omega⟩⟩
def pre (o : List UInt8) (i : Nat) (x : Option (List UInt8 × Nat)) : Option (List UInt8 × Nat) := x.map fun y => (o ++ y.1, i + y.2)
/-- One round. -/
theorem cut_round {l : List UInt8} {o : List UInt8} {i : Nat} (hi : i < l.length) (hq : byteAt l i ≠ 34) :
    ((tk (l.drop i)).2 = 0 → pre o i (cutR (l.drop i)) = none) ∧
    ((tk (l.drop i)).2 ≠ 0 → pre o i (cutR (l.drop i)) = pre (o ++ [UInt8.ofNat (tk (l.drop i)).1.toNat]) (i + (tk (l.drop i)).2.toNat) (cutR (l.drop (i + (tk (l.drop i)).2.toNat)))) := by
  have hd := drop_byte hi
  have hb := tk_bounds (l.drop i) (by rw [hd]; simp)
  constructor
  · intro h
    rw [hd] at h ⊢
    rw [cutR, if_neg hq, if_pos h]
    rfl
  · intro h
    have h2 : 1 ≤ (tk (l.drop i)).2 := by
      rcases hb.2 with hb | hb
      · rw [hb] at h; exact absurd rfl h
      · exact hb.1
    have e : l.drop (i + (tk (l.drop i)).2.toNat) = (l.drop (i + 1)).drop ((tk (l.drop i)).2.toNat - 1) := by
      rw [List.drop_drop]; congr 1; omega
    rw [e]
    rw [hd] at h ⊢
    rw [cutR, if_neg hq, if_neg h]
    simp only [pre, Option.map_map]
    congr 1
    funext y
    simp
    omega
/-- The cut of a text as an answer. -/
def cutA (b : Bool) (l : List UInt8) : List AV :=
  match cut l with
  | none => [.str [], .int .i64 0] ++ (if b then [.bool false] else [])
  | some (t, k) => [.str t, .int .i64 k] ++ (if b then [.bool true] else [])
theorem cutA_none {b : Bool} {l : List UInt8} (h : cut l = none) : cutA b l = [.str [], .int .i64 0] ++ (if b then [.bool false] else []) := by unfold cutA; rw [h]
theorem cutA_some {b : Bool} {l t : List UInt8} {k : Nat} (h : cut l = some (t, k)) : cutA b l = [.str t, .int .i64 k] ++ (if b then [.bool true] else []) := by unfold cutA; rw [h]
theorem cut_of {l : List UInt8} (h : 0 < l.length) : cut l = if byteAt l 0 = 34 then pre [] 1 (cutR (l.drop 1)) else none := by
  cases l with
  | nil => simp at h
  | cons b r =>
    show (if b = 34 then _ else none) = (if b = 34 then _ else none)
    split
    · simp only [pre, List.drop_succ_cons, List.drop_zero]
      congr 1
      funext y
      simp; omega
    · rfl
theorem byte_eq {b : UInt8} {n : Nat} (hn : n < 256) : (b.toNat : Int) = n ↔ b = UInt8.ofNat n := by
  constructor
  · intro h
    have : b.toNat = n := Int.ofNat.inj h
    rw [← this]; simp
  · rintro rfl
    simp [Nat.mod_eq_of_lt hn]
structure CutI (l : List UInt8) (s s' : Sto) (x : List UInt8 × Nat × Nat) : Prop where
  lo : 1 ≤ x.2.1
  hi : x.2.1 ≤ l.length
  len : x.1.length ≤ x.2.1
  own : Own s s' x.1.isEmpty x.2.2 5 1
  eq : cut l = pre x.1 x.2.1 (cutR (l.drop x.2.1))
theorem progCut_ok (hT : Tabs Γ) (l : List UInt8) (hl : l.length ≤ 1048576) : APure Tryz.prog Γ 93 [.str l] fun v => v = .tuple (cutA true l) := by
  refine APure.of_awp Tryz.func93 rfl (Nat.le_of_ble_eq_true (by kernel_rfl)) (by kernel_rfl) ?_
  intro s
  conv => whnf
  rcases Nat.eq_zero_or_pos l.length with hz | hpos
  · obtain rfl := List.eq_nil_of_length_eq_zero hz
    conv => whnf
    repeat' (first
      | (refine ⟨Sub.refl _, ?_⟩)
      | (refine brA_split (fun h => ?_) (fun h => ?_) <;> (try rw [h]) <;> (try simp only [Bool.false_eq_true, Bool.true_eq_false, ↓reduceIte, decide_eq_true_eq, decide_eq_false_iff_not, Bool.not_eq_true', Bool.not_eq_false'] at h) <;> (conv => whnf))
      | (refine getB_same ?_; conv => whnf)
      | (refine AWp.any (by kernel_rfl) (by kernel_rfl) (by kernel_rfl) ?_; conv => whnf)
      | (apply And.intro; (focus (first | omega | rfl | decide | exact Nat.le_of_ble_eq_true rfl | ((repeat' (first | exact all_nil | refine all_cons ?_ ?_ | rfl | fail)); done) | (simp [-List.length_flatMap]; done) | (simp [-List.length_flatMap]; omega) | fail)); conv => whnf)
      | fail)
    rfl
  repeat' (first
    | (refine ⟨Sub.refl _, ?_⟩)
    | (refine brA_split (fun h => ?_) (fun h => ?_) <;> (try rw [h]) <;> (try simp only [Bool.false_eq_true, Bool.true_eq_false, ↓reduceIte, decide_eq_true_eq, decide_eq_false_iff_not, Bool.not_eq_true', Bool.not_eq_false'] at h) <;> (conv => whnf))
    | (refine getB_same ?_; conv => whnf)
    | (refine AWp.any (by kernel_rfl) (by kernel_rfl) (by kernel_rfl) ?_; conv => whnf)
    | (apply And.intro; (focus (first | omega | rfl | decide | exact Nat.le_of_ble_eq_true rfl | ((repeat' (first | exact all_nil | refine all_cons ?_ ?_ | rfl | fail)); done) | (simp [-List.length_flatMap]; done) | (simp [-List.length_flatMap]; omega) | fail)); conv => whnf)
    | fail)
  · subst h; simp at hpos
  · rw [cutA_none (b := true)]
    · rfl
    rw [cut_of hpos, if_neg]
    intro hq
    apply h
    show ((byteAt l 0).toNat : Int) = 34
    rw [hq]; rfl
  · rename_i h1
    have hq : byteAt l 0 = 34 := (byte_eq (n := 34) (by decide)).1 h
    refine AWp.loopA [5, 6] [16, 17, 18, 19, 20, 21, 22, 23, 24, 25, 27, 28, 29, 30, 26, 31, 32, 7, 8, 33, 34, 2, 3, 4, 35, 36, 37, 38, 39, 40, 41] (fun x : List UInt8 × Nat × Nat => [.slice x.2.2 (bytesA x.1), .int .i64 x.2.1]) (fun x s' => CutI l s s' x) (fun x => l.length - x.2.1) (([], 1, 1)) (by kernel_rfl) (by (repeat' (first | refine cons_eq ?_ ?_ | refine int64_of ?_ ?_ ?_ | rfl | omega))) ?_ ?_
    · exact ⟨by simp, hpos, by simp, Own.nil _ _ _, by rw [cut_of hpos, if_pos hq]⟩
    · rintro x ⟨o, i, t⟩ s' ⟨h1, h2, h3, h4, h5⟩
      simp only at h1 h2 h3 h4 h5
      conv => whnf
      repeat' (first
        | (refine ⟨Sub.refl _, ?_⟩)
        | (refine brA_split (fun h => ?_) (fun h => ?_) <;> (try rw [h]) <;> (try simp only [Bool.false_eq_true, Bool.true_eq_false, ↓reduceIte, decide_eq_true_eq, decide_eq_false_iff_not, Bool.not_eq_true', Bool.not_eq_false'] at h) <;> (conv => whnf))
        | (refine ACalls.pure' ?_ (take_ok hT _ ?_ ?_); rintro _ rfl; conv => whnf)
        | (refine getB_same ?_; conv => whnf)
        | (refine AWp.any (by kernel_rfl) (by kernel_rfl) (by kernel_rfl) ?_; conv => whnf)
        | (apply And.intro; (focus (first | omega | rfl | decide | exact Nat.le_of_ble_eq_true rfl | ((repeat' (first | exact all_nil | refine all_cons ?_ ?_ | rfl | fail)); done) | (simp [-List.length_flatMap]; done) | (simp [-List.length_flatMap]; omega) | fail)); conv => whnf)
        | fail)
      · rename_i h6 h7
        simp only [Int.toNat_natCast, List.take_length] at h h7
        refine ⟨h4.sub, ?_⟩
        rw [cutA_none (b := true)]
        · rfl
        rw [h5]
        exact (cut_round (by omega) (fun hq => h7 ((byte_eq (n := 34) (by decide)).2 hq))).1 h
      · rename_i h6 h7
        simp only [Int.toNat_natCast, List.take_length] at h h7 ⊢
        have hr := (cut_round (o := o) (l := l) (i := i) (by omega) (fun hq => h7 ((byte_eq (n := 34) (by decide)).2 hq))).2 h
        have hb := tk_bounds (l.drop i) (by rw [drop_byte (by omega)]; simp)
        have hb2 : 1 ≤ (tk (l.drop i)).2 ∧ (tk (l.drop i)).2 ≤ (l.drop i).length := by
          rcases hb.2 with hb | hb
          · rw [hb] at h; exact absurd rfl h
          · exact hb
        have hb3 := hb2.2
        simp only [List.length_drop] at hb3
        refine ⟨h4.may, bytesA_all o, all_cons ⟨rfl, rfl⟩ all_nil, ?_, ?_⟩
        · show ((bytesA o).length + 1) * (1 + 1) ≤ _
          rw [bytesA_len]; omega
        intro t' k1 k2
        have k3 := h4.grow k1 k2
        conv => whnf
        refine ⟨(o ++ [UInt8.ofNat (tk (l.drop i)).1.toNat], i + (tk (l.drop i)).2.toNat, t'), ?_, by (repeat (first | exact Same.refl _ _ | refine Same.upd rfl ?_ | refine Same.updL rfl ?_ | refine Same.havoc rfl ?_)), ⟨by simp only; omega, by simp only; omega, by simp; omega, ?_, ?_⟩, by simp only; omega⟩
        · refine cons_eq ?_ (cons_eq (int64_of ?_ ?_ ?_) rfl)
          · show AV.slice t' _ = AV.slice t' _
            rw [bytesA_append]
            congr 2
            show [[AV.int .u8 (tk (List.drop _ _)).1]] = [[AV.int .u8 _]]
            rw [← hb.1]
          · show (i : Int) + _ = ((i + (tk (l.drop i)).2.toNat : Nat) : Int)
            omega
          · show _ ≤ ((i + (tk (l.drop i)).2.toNat : Nat) : Int)
            omega
          · show ((i + (tk (l.drop i)).2.toNat : Nat) : Int) ≤ _
            omega
        · have e : (o ++ [UInt8.ofNat (tk (l.drop i)).1.toNat]).isEmpty = (o.isEmpty && [[AV.int .u8 (tk (l.drop i)).1]].isEmpty) := by simp
          simp only
          rw [e]
          exact k3
        · exact h5.trans hr
      · simp; omega
      · simp; omega
      · exfalso; omega
      · rename_i h6 h7
        simp only [Int.toNat_natCast] at h7
        rw [unB_bytesA]
        conv => whnf
        refine ⟨h4.sub, ?_⟩
        rw [cutA_some (b := true) (t := o) (k := i + 1)]
        · show AV.tuple [.str o, .int .i64 (IntKind.i64.wrap (i + 1)), .bool true] = .tuple [.str o, .int .i64 ((i + 1 : Nat) : Int), .bool true]
          rw [i64_of (b := ((i + 1 : Nat) : Int)) (by omega) (by omega) (by omega)]
        · have hq' : byteAt l i = 34 := (byte_eq (n := 34) (by decide)).1 h7
          rw [h5, drop_byte (by omega), hq', cutR, if_pos rfl]
          simp [pre]
      · refine ⟨h4.sub, ?_⟩
        rw [cutA_none (b := true)]
        · rfl
        rw [h5, drop_end (by omega), cutR]
        rfl
      · exfalso; omega
end Go.Proofs.YtdhgappjicpglaaGreatDoor.Qu
namespace Go.Proofs.YtdhgappjicpglaaGreatDoor.Qu
open Go Go.Ab Go.Proofs.YtdhgappjicpglaaGreatDoor.Bd Go.Proofs.YtdhgappjicpglaaGreatDoor.Ix
attribute [local irreducible] APure Sto.set Sto.grow
set_option maxRecDepth 10000
variable {Γ : Nat → AV}
theorem progCut_none (hT : Tabs Γ) (l : List UInt8) (hl : l.length ≤ 1048576) (h : cut l = none) : APure Tryz.prog Γ 93 [.str l] fun v => v = .tuple [.str [], .int .i64 0, .bool false] := by
  have := progCut_ok hT l hl
  rw [cutA_none h] at this
  exact this
theorem progCut_some (hT : Tabs Γ) (l : List UInt8) (hl : l.length ≤ 1048576) {t : List UInt8} {k : Nat} (h : cut l = some (t, k)) : APure Tryz.prog Γ 93 [.str l] fun v => v = .tuple [.str t, .int .i64 k, .bool true] := by
  have := progCut_ok hT l hl
  rw [cutA_some h] at this
  exact this
theorem quote_len (l : List UInt8) : (quote l).length ≤ 4 * l.length + 2 := by
  have := flatMap_len (fun c : UInt8 => one c.toNat) 4 (fun c => one_len _) l
  simp only [quote, List.length_append, List.length_cons, List.length_nil]
  omega
/-- What was cut is its quoted form. -/
theorem cutR_back : ∀ (n : Nat) (l : List UInt8), l.length ≤ n → ∀ t k, cutR l = some (t, k) → k ≤ l.length ∧ l.take k = (t.flatMap fun c => one c.toNat) ++ [34]
  | _, [], _, t, k, h => by rw [cutR] at h; cases h
  | 0, _ :: _, hn, _, _, _ => by simp at hn
  | n + 1, b :: r, hn, t, k, h => by
    rw [cutR] at h
    split at h
    · rename_i hb
      simp only [Option.some.injEq, Prod.mk.injEq] at h
      obtain ⟨rfl, rfl⟩ := h
      subst hb
      simp
    · split at h
      · cases h
      · rename_i hb hz
        obtain ⟨x, hx, he⟩ := Option.map_eq_some_iff.1 h
        obtain ⟨t', k'⟩ := x
        simp only [Prod.mk.injEq] at he
        obtain ⟨rfl, rfl⟩ := he
        rcases tk_cases (b :: r) (by simp) with ht | ⟨m, hm, r', hr⟩
        · rw [ht] at hz; exact absurd rfl hz
        · have ht := tk_of m hm r'
          rw [← hr] at ht
          have hpos : 1 ≤ (one (m : Int)).length := by
            have := one_pos (UInt8.ofNat m)
            simpa [Nat.mod_eq_of_lt hm] using this
          rw [ht] at hx ⊢
          have hd : r.drop ((one (m : Int)).length - 1) = r' := by
            have h1 : (b :: r).drop (one (m : Int)).length = r' := by rw [hr]; simp
            obtain ⟨p, hp⟩ : ∃ p, (one (m : Int)).length = p + 1 := ⟨(one (m : Int)).length - 1, by omega⟩
            rw [hp] at h1 ⊢
            simpa using h1
          simp only [Int.toNat_natCast] at hx ⊢
          rw [hd] at hx
          have hlen := congrArg List.length hr
          simp only [List.length_cons, List.length_append] at hlen hn
          obtain ⟨h1, h2⟩ := cutR_back n r' (by omega) t' k' hx
          refine ⟨by rw [hr]; simp; omega, ?_⟩
          rw [hr, show k' + (one (m : Int)).length = (one (m : Int)).length + k' by omega, List.take_length_add_append, h2]
          have e : ((UInt8.ofNat m).toNat : Int) = m := by simp [Nat.mod_eq_of_lt hm]
          simp only [List.flatMap_cons, e, List.append_assoc]
theorem cut_back {l t : List UInt8} {k : Nat} (h : cut l = some (t, k)) : 0 < k ∧ k ≤ l.length ∧ quote t = l.take k := by
  cases l with
  | nil => cases h
  | cons b r =>
    have h : (if b = 34 then _ else none) = some (t, k) := h
    split at h
    · rename_i hb
      subst hb
      obtain ⟨⟨t', k'⟩, hx, he⟩ := Option.map_eq_some_iff.1 h
      simp only [Prod.mk.injEq] at he
      obtain ⟨rfl, rfl⟩ := he
      obtain ⟨h1, h2⟩ := cutR_back _ r (Nat.le_refl _) _ _ hx
      refine ⟨by omega, by simp; omega, ?_⟩
      rw [List.take_succ_cons, h2]
      simp [quote]
    · cases h
end Go.Proofs.YtdhgappjicpglaaGreatDoor.Qu
namespace Go.Ab
open Go
/-- All boxes but those of B are as they were; live tokens are live. -/
structure Stays (B : Nat → Prop) (s s' : Sto) : Prop where
  bx : ∀ c z, ¬ B c → s.bx c = some z → s'.bx c = some z
  lv : ∀ t e k, s.lv t e k → s'.lv t e k
  sub : ∀ s0, Sub s0 s → (∀ c, B c → s0.bx c = none) → Sub s0 s'
theorem Stays.trans {B : Nat → Prop} {a b c : Sto} (h : Stays B a b) (k : Stays B b c) : Stays B a c :=
  ⟨fun d z hd hz => k.bx d z hd (h.bx d z hd hz), fun t e j ht => k.lv t e j (h.lv t e j ht), fun s0 hs hn => k.sub s0 (h.sub s0 hs hn) hn⟩
theorem Stays.set {B : Nat → Prop} {s s' : Sto} (h : Stays B s s') {b : Nat} (hb : B b) (T : TypeId) (cs : List AV) : Stays B s (s'.set b T cs) :=
  ⟨fun d z hd hz => (set_bx_other (show d ≠ b from fun he => hd (by rw [he]; exact hb))).trans (h.bx d z hd hz), h.lv, fun s0 hs hn => (h.sub s0 hs hn).set (hn b hb) T cs⟩
theorem Stays.fresh {B : Nat → Prop} {s s' : Sto} (h : Stays B s s') {b : Nat} (hb : s.bx b = none) (T : TypeId) (cs : List AV) : Stays B s (s'.set b T cs) :=
  ⟨fun d z hd hz => (set_bx_other (ne_of_none hz hb)).trans (h.bx d z hd hz), h.lv, fun s0 hs hn => (h.sub s0 hs hn).set (hs.none hb) T cs⟩
/-- One box, two boxes. -/
def B1 (a : Nat) : Nat → Prop := fun c => c = a
end Go.Ab
namespace Go.Ab
open Go
theorem bS : ((false = true) = False) ∧ ((true = false) = False) ∧ (∀ (p : Prop) [Decidable p], (decide p = true) = p) ∧ (∀ (p : Prop) [Decidable p], (decide p = false) = ¬p) ∧ (∀ b : Bool, ((!b) = true) = (b = false)) ∧ (∀ b : Bool, ((!b) = false) = (b = true)) :=
  ⟨by simp, by simp, fun p _ => by simp, fun p _ => by simp, fun b => by simp, fun b => by simp⟩
theorem bN : ((¬True) = False) ∧ ((¬False) = True) := ⟨by simp, by simp⟩
theorem none_of_set {s : Sto} {b c : Nat} {T : TypeId} {cs : List AV} (h : (s.set b T cs).bx c = none) : s.bx c = none := by
  by_cases hc : c = b
  · subst hc; rw [set_bx_same] at h; cases h
  · rwa [set_bx_other hc] at h
theorem ne_set {s : Sto} {b c : Nat} {T : TypeId} {cs : List AV} (h : (s.set b T cs).bx c = none) : b ≠ c := by
  rintro rfl; rw [set_bx_same] at h; cases h
theorem len_of {α : Type} {l l' : List α} {n : Nat} (h : l = l') (k : l'.length = n) : l.length = n := h ▸ k
theorem and_a {p q : Prop} (k : q) (h : p := by first | omega | rfl | decide | exact Nat.le_of_ble_eq_true rfl | ((repeat' (first | exact all_nil | refine all_cons ?_ ?_ | rfl | fail)); done) | (simp [-List.length_flatMap]; done) | (simp [-List.length_flatMap]; omega) | fail) : p ∧ q := ⟨h, k⟩
theorem getB_a {x : Option (TypeId × List AV)} {T : TypeId} {cs : List AV} {K : TypeId → List AV → Prop} (k : K T cs) (hx : x = some (T, cs) := by ((repeat (first | exact set_bx_same | assumption | refine (set_bx_other (by assumption)).trans ?_ | refine grow_bx.trans ?_)); done)) : getB x K := getB_of hx k
theorem bxa {α : Type} {x y : Option α} (h : x = y := by ((repeat (first | exact set_bx_same | assumption | refine (set_bx_other (by assumption)).trans ?_ | refine grow_bx.trans ?_)); done)) : x = y := h
theorem suba {s s' : Sto} (h : Sub s s' := by ((repeat (first | exact Sub.refl _ | assumption | refine Sub.set ?_ (by assumption) _ _)); done)) : Sub s s' := h
theorem eqa {α : Type} {a b : α} (h : a = b := by (repeat' (first | refine cons_eq ?_ ?_ | refine int64_of ?_ ?_ ?_ | rfl | omega))) : a = b := h
theorem samea {M : List Nat} {e e' : Env} (h : Same M e e' := by (repeat (first | exact Same.refl _ _ | refine Same.upd rfl ?_ | refine Same.updL rfl ?_ | refine Same.havoc rfl ?_))) : Same M e e' := h
theorem AWp.anyA {P : Program} {Γ : Nat → AV} {n id : Nat} {ops : Array Oper} {Q : Exit → Env → Sto → Prop} {e : Env} {s : Sto} (h : awpD P Γ ops ops.toList e s fun e' s' => Q .normal e' s') (hmix : P.follows .mixedOrders = true := by kernel_rfl) (hok : ops.toList.all (okOp n) = true := by kernel_rfl) (hd : okDraw P ops = true := by kernel_rfl) : AWp P Γ n (.region id ops true) Q e s := AWp.any hmix hok hd h
end Go.Ab
namespace Go.Proofs.YtdhgappjicpglaaGreatDoor.Lx
open Go Go.Ab Go.RowKit Go.Proofs.YtdhgappjicpglaaGreatDoor.Sc
variable {Γ : Nat → AV}
attribute [local irreducible] APure Sto.set Sto.grow
set_option maxRecDepth 10000
set_option maxHeartbeats 1000000
theorem byte_lit {b : UInt8} {n : Nat} (hn : n < 256) : (b.toNat : Int) = n ↔ b = UInt8.ofNat n := by
  constructor
  · intro h
    have : b.toNat = n := Int.ofNat.inj h
    rw [← this]; simp
  · rintro rfl
    simp [Nat.mod_eq_of_lt hn]
theorem b10 {b : UInt8} : (b.toNat : Int) = 10 ↔ b = 10 := byte_lit (n := 10) (by decide)
theorem b34 {b : UInt8} : (b.toNat : Int) = 34 ↔ b = 34 := byte_lit (n := 34) (by decide)
theorem b35 {b : UInt8} : (b.toNat : Int) = 35 ↔ b = 35 := byte_lit (n := 35) (by decide)
theorem progLetter_ok (n : Int) : APure Tryz.prog Γ 71 [.int .u8 n] fun v => v = .bool (wordc n) := by
  refine APure.of_awp Tryz.func71 rfl (Nat.le_of_ble_eq_true (by kernel_rfl)) (by kernel_rfl) ?_
  intro s
  conv => whnf
  repeat' ((first | (exfalso; first | omega | exact (by assumption : ¬ True) trivial | fail) | refine ⟨Sub.refl _, ?_⟩ | (refine brA_split (fun h => ?_) (fun h => ?_) <;> (try rw [h]) <;> (try simp only [bS, ↓reduceIte] at h)) | refine getB_same ?_ | refine AWp.anyA ?_ | refine and_a ?_ | fail) <;> (conv => whnf))
  all_goals refine bool_eq ?_
  all_goals unfold wordc
  all_goals simp [*]
  all_goals omega
def digitc (n : Int) : Bool := decide (48 ≤ n) && decide (n ≤ 57)
/-- A blank, or a line's end. -/
def blankc (n : Int) : Bool := decide (n = 32) || decide (n = 9) || decide (n = 10) || decide (n = 13)
theorem isBlank_ok (n : Int) : APure Tryz.prog Γ 66 [.int .u8 n] fun v => v = .bool (blankc n) := by
  refine APure.of_awp Tryz.func66 rfl (Nat.le_of_ble_eq_true (by kernel_rfl)) (by kernel_rfl) ?_
  intro s
  conv => whnf
  repeat' ((first | refine ⟨Sub.refl _, ?_⟩ | (refine brA_split (fun h => ?_) (fun h => ?_) <;> (try rw [h]) <;> (try simp only [bS, ↓reduceIte] at h)) | refine getB_same ?_ | refine AWp.anyA ?_ | refine and_a ?_ | fail) <;> (conv => whnf))
  all_goals refine bool_eq ?_
  all_goals unfold blankc
  all_goals simp [*]
/-- How many bytes from the beginning are no token's; in a remark or not. -/
def blankF : Bool → List UInt8 → Nat
  | _, [] => 0
  | true, c :: r => if c = 10 then blankF false r + 1 else blankF true r + 1
  | false, c :: r => if c = 35 then blankF true r + 1 else if blankc c.toNat = true then blankF false r + 1 else 0
def blankN (l : List UInt8) : Nat := blankF false l
theorem blankF_le : ∀ (l : List UInt8) (b : Bool), blankF b l ≤ l.length
  | [], b => by cases b <;> exact Nat.le_refl _
  | c :: r, b => by
    have h1 := blankF_le r true
    have h2 := blankF_le r false
    cases b
    · rw [blankF]
      split
      · simp only [List.length_cons]; omega
      · split
        · simp only [List.length_cons]; omega
        · omega
    · rw [blankF]
      split
      · simp only [List.length_cons]; omega
      · simp only [List.length_cons]; omega
theorem blankN_le (l : List UInt8) : blankN l ≤ l.length := blankF_le l false
theorem blankF_true : ∀ q : List UInt8, (Lib.indexByte q 10 = -1 → blankF true q = q.length) ∧ ∀ n : Nat, Lib.indexByte q 10 = n → blankF true q = n + blankF false (q.drop n)
  | [] => ⟨fun _ => rfl, fun n h => by unfold Lib.indexByte at h; omega⟩
  | c :: r => by
    have ih := blankF_true r
    have hge := Lib.indexByte_ge r 10
    unfold Lib.indexByte
    by_cases hc : c = 10
    · subst hc
      refine ⟨fun h => by simp at h, fun n h => ?_⟩
      simp at h
      have : n = 0 := by omega
      subst this
      simp [blankF, blankc]
    · have hcb : (c == 10) = false := by simpa using hc
      rw [hcb]
      simp only [Bool.false_eq_true, if_false]
      rw [blankF, if_neg hc]
      by_cases hr : Lib.indexByte r 10 = -1
      · rw [hr]
        refine ⟨fun _ => by rw [ih.1 hr, List.length_cons], fun n h => by simp at h <;> omega⟩
      · have : (Lib.indexByte r 10 == -1) = false := by simpa using hr
        rw [this]
        simp only [Bool.false_eq_true, if_false]
        refine ⟨fun h => by omega, fun n h => ?_⟩
        obtain ⟨m, rfl⟩ : ∃ m, n = m + 1 := ⟨n - 1, by omega⟩
        rw [ih.2 m (by omega)]
        simp only [List.drop_succ_cons]
        omega
theorem blankF_35 (r : List UInt8) : blankF false (35 :: r) = blankF true (35 :: r) := by rw [blankF, blankF, if_pos rfl, if_neg (by decide)]
theorem idx_bound (q : List UInt8) (h : Lib.indexByte q 10 ≠ -1) : ∃ n : Nat, Lib.indexByte q 10 = n ∧ n < q.length := by
  have := Lib.indexByte_ge q 10
  refine ⟨(Lib.indexByte q 10).toNat, by omega, ?_⟩
  have h2 := (Lib.indexByte_some (l := q) (c := 10) (o := (Lib.indexByte q 10).toNat) (by omega)).1
  exact (List.getElem?_eq_some_iff.1 h2).1
theorem progBlank_ok (l : List UInt8) (hl : l.length ≤ 1048576) : APure Tryz.prog Γ 44 [.str l] fun v => v = .int .i64 (blankN l) := by
  refine APure.of_awp Tryz.func44 rfl (Nat.le_of_ble_eq_true (by kernel_rfl)) (by kernel_rfl) ?_
  intro s
  conv => whnf
  repeat' ((first | refine ⟨Sub.refl _, ?_⟩ | (refine brA_split (fun h => ?_) (fun h => ?_) <;> (try rw [h]) <;> (try simp only [bS, ↓reduceIte] at h)) | refine getB_same ?_ | refine AWp.anyA ?_ | refine and_a ?_ | fail) <;> (conv => whnf))
  refine AWp.loopA [4] [6, 7, 8, 9, 10, 11, 12, 13, 14, 15, 16, 17, 5, 18, 19, 20, 21, 2, 22, 23, 24, 25, 26, 27, 28, 29, 30, 31, 32] (fun i : Nat => [.int .i64 i]) (fun i s' => i ≤ l.length ∧ s' = s ∧ blankN l = i + blankF false (l.drop i)) (fun i => l.length - i) (0) (by kernel_rfl) (eqa) ?_ ?_
  · exact ⟨by omega, rfl, by rw [List.drop_zero]; simp [blankN]⟩
  · rintro x i _ ⟨h1, rfl, h2⟩
    show awp _ _ _ _ _ (updL _ _ [.int .i64 (i : Int)]) _
    conv => whnf
    have hb := b35 (b := byteAt l i)
    have hA : List.drop ((i : Int)).toNat (List.take l.length l) = l.drop i := by rw [Int.toNat_natCast, drop_take_all]
    have hw : ∀ n : Nat, n ≤ l.length → IntKind.i64.wrap ((i : Int) + n) = ((i + n : Nat) : Int) := fun n hn => i64_of (by omega) (by omega) (by omega)
    by_cases hlt : i < l.length
    · have hd := drop_byte hlt
      by_cases h35 : byteAt l i = 35
      · have h35' := hb.2 h35
        have h35'' : ((byteAt l ((i : Int)).toNat).toNat : Int) = 35 := h35'
        have ht := blankF_true (l.drop i)
        have hlen : (l.drop i).length = l.length - i := List.length_drop
        have hx : blankF false (l.drop i) = blankF true (l.drop i) := by rw [hd, h35, blankF_35]
        have hix := Ix.indexByte_ok (Γ := Γ) (l.drop i) 10
        rw [show ((10 : Int).toNat.toUInt8) = 10 from rfl] at hix
        by_cases hn : Lib.indexByte (l.drop i) 10 = -1
        · rw [hn] at hix
          repeat' ((first | (exfalso; first | omega | exact (by assumption : ¬ True) trivial | fail) | refine ⟨Sub.refl _, ?_⟩ | (refine brA_split (fun h => ?_) (fun h => ?_) <;> (try rw [h]) <;> (try simp only [bS, ↓reduceIte] at h)) | (rw [hA]) | (refine ACalls.pure' ?_ (hix); rintro _ rfl) | refine DCall.pure ?_ (hix) | refine getB_same ?_ | refine AWp.anyA ?_ | refine and_a ?_ | fail) <;> (conv => whnf))
          rw [h2, hx, ht.1 hn, hlen]
          exact congrArg (AV.int .i64) (by omega)
        · obtain ⟨n, hn1, hn2⟩ := idx_bound _ hn
          rw [hn1] at hix
          have hpos : n ≠ 0 := by
            rintro rfl
            have := (Lib.indexByte_some (l := l.drop i) (c := 10) (o := 0) hn1).1
            rw [hd, h35] at this
            cases this
          repeat' ((first | (exfalso; first | omega | exact (by assumption : ¬ True) trivial | fail) | refine ⟨Sub.refl _, ?_⟩ | (refine brA_split (fun h => ?_) (fun h => ?_) <;> (try rw [h]) <;> (try simp only [bS, ↓reduceIte] at h)) | (rw [hA]) | (refine ACalls.pure' ?_ (hix); rintro _ rfl) | refine DCall.pure ?_ (hix) | refine getB_same ?_ | refine AWp.anyA ?_ | refine and_a ?_ | fail) <;> (conv => whnf))
          refine ⟨i + n, ?_, samea, ⟨by omega, by first | rfl | trivial, ?_⟩, by omega⟩
          · exact cons_eq (by show AV.int .i64 (IntKind.i64.wrap ((i : Int) + n)) = _; rw [hw n (by omega)]) rfl
          · rw [h2, hx, ht.2 n hn1, List.drop_drop]; omega
      · have h35' : ¬ ((byteAt l i).toNat : Int) = 35 := fun hh => h35 (hb.1 hh)
        have h35'' : ¬ ((byteAt l ((i : Int)).toNat).toNat : Int) = 35 := h35'
        repeat' ((first | (exfalso; first | omega | exact (by assumption : ¬ True) trivial | fail) | refine ⟨Sub.refl _, ?_⟩ | (refine brA_split (fun h => ?_) (fun h => ?_) <;> (try rw [h]) <;> (try simp only [bS, ↓reduceIte] at h)) | (refine ACalls.pure' ?_ (isBlank_ok _); rintro _ rfl) | refine DCall.pure ?_ (isBlank_ok _) | refine getB_same ?_ | refine AWp.anyA ?_ | refine and_a ?_ | fail) <;> (conv => whnf))
        all_goals (try simp only [Int.toNat_natCast] at *)
        · rw [h2, hd, blankF, if_neg h35, if_neg (by simp_all)]
          rfl
        · refine ⟨i + 1, ?_, samea, ⟨by omega, by first | rfl | trivial, ?_⟩, by omega⟩
          · exact cons_eq (by show AV.int .i64 (IntKind.i64.wrap ((i : Int) + 1)) = _; rw [show ((i : Int) + 1) = (i : Int) + (1 : Nat) by rfl, hw 1 (by omega)]) rfl
          · rw [h2, hd, blankF, if_neg h35, if_pos (by simp_all)]; omega
    · repeat' ((first | (exfalso; first | omega | exact (by assumption : ¬ True) trivial | fail) | refine ⟨Sub.refl _, ?_⟩ | (refine brA_split (fun h => ?_) (fun h => ?_) <;> (try rw [h]) <;> (try simp only [bS, ↓reduceIte] at h)) | refine getB_same ?_ | refine AWp.anyA ?_ | refine and_a ?_ | fail) <;> (conv => whnf))
      rw [h2, drop_end hlt]
      rfl
end Go.Proofs.YtdhgappjicpglaaGreatDoor.Lx
namespace Go.Proofs.YtdhgappjicpglaaGreatDoor.Lx
open Go Go.Ab Go.RowKit Go.Proofs.YtdhgappjicpglaaGreatDoor.Sc
variable {Γ : Nat → AV}
theorem count_ok (l : List UInt8) : APure Tryz.prog Γ 68 [.str l, .str [10]] fun v => v = .int .i64 (l.count 10) := by
  refine fun s => ⟨fun G w vs hm hr => ?_⟩
  obtain ⟨u, us, rfl, hu, hus⟩ := RList_cons.1 hr
  obtain ⟨u1, us1, rfl, hu1, hus1⟩ := RList_cons.1 hus
  rw [RList_nil] at hus1; subst hus1
  rw [R_str] at hu; subst hu
  rw [R_str] at hu1; subst hu1
  refine Calls.mono (Tryz.strings_Count_one ⟨l.toArray⟩ 10 w) ?_
  rintro e w' ⟨rfl, rfl⟩
  exact ⟨_, _, s, G, rfl, ⟨rfl, rfl⟩, R_int.2 (by simp [Lib.countByte]), hm, Ext.refl _ _⟩
attribute [local irreducible] APure Sto.set Sto.grow
set_option maxRecDepth 10000
set_option maxHeartbeats 1000000
/-- The last place of a byte; -1: none. -/
def lastB : List UInt8 → UInt8 → Int
  | [], _ => -1
  | b :: r, c => if lastB r c ≠ -1 then lastB r c + 1 else if b = c then 0 else -1
theorem lastB_ge : ∀ (l : List UInt8) (c : UInt8), -1 ≤ lastB l c ∧ lastB l c < l.length
  | [], c => ⟨Int.le_refl _, by simp [lastB]⟩
  | b :: r, c => by
    have := lastB_ge r c
    unfold lastB
    split
    · simp only [List.length_cons]; omega
    · split <;> simp only [List.length_cons] <;> omega
theorem lastB_app : ∀ (l : List UInt8) (b c : UInt8), lastB (l ++ [b]) c = if b = c then (l.length : Int) else lastB l c
  | [], b, c => by simp [lastB]
  | a :: r, b, c => by
    rw [List.cons_append, lastB, lastB_app r b c, lastB]
    by_cases hb : b = c
    · simp [hb]
    · simp [hb]
theorem lastB_none : ∀ (l : List UInt8) (c : UInt8), lastB l c = -1 ↔ l.count c = 0
  | [], c => by simp [lastB]
  | b :: r, c => by
    have := lastB_none r c
    have hg := (lastB_ge r c).1
    rw [lastB, List.count_cons]
    by_cases hr : lastB r c = -1
    · have h0 := this.1 hr
      by_cases hb : b = c <;> simp [hr, h0, hb]
    · have h0 : List.count c r ≠ 0 := fun h => hr (this.2 h)
      rw [if_pos hr]
      constructor
      · intro h; omega
      · intro h; omega
theorem lastByte_ok (l : List UInt8) (c : UInt8) (hl : l.length ≤ 1048576) : APure Tryz.prog Γ 69 [.str l, .int .u8 c.toNat] fun v => v = .int .i64 (lastB l c) := by
  have inner : ∀ Γ : Nat → AV, APure Tryz.prog Γ 92 [.str l, .int .u8 c.toNat] fun v => v = .int .i64 (lastB l c) := by
    intro Γ
    refine APure.of_awp Tryz.func92 rfl (Nat.le_of_ble_eq_true (by kernel_rfl)) (by kernel_rfl) ?_
    intro s
    conv => whnf
    repeat' ((first | (exfalso; first | omega | exact (by assumption : ¬ True) trivial | fail) | refine ⟨Sub.refl _, ?_⟩ | (refine brA_split (fun h => ?_) (fun h => ?_) <;> (try rw [h]) <;> (try simp only [bS, ↓reduceIte] at h)) | refine getB_same ?_ | refine AWp.anyA ?_ | refine and_a ?_ | fail) <;> (conv => whnf))
    refine AWp.loopA [5] [9, 10, 13, 14, 15, 16, 17, 18, 4, 11, 12] (fun i : Nat => [.int .i64 ((i : Int) - 1)]) (fun i s' => i ≤ l.length ∧ s' = s ∧ lastB l c = lastB (l.take i) c) (fun i => i) (l.length) (by kernel_rfl) (eqa) ?_ ?_
    · exact ⟨by omega, rfl, by rw [List.take_length]⟩
    · rintro x i s1 ⟨h1, rfl, h2⟩
      show awp _ _ _ _ _ (updL _ _ [.int .i64 ((i : Int) - 1)]) _
      conv => whnf
      by_cases hi : i = 0
      · subst hi
        repeat' ((first | (exfalso; first | omega | exact (by assumption : ¬ True) trivial | fail) | refine ⟨Sub.refl _, ?_⟩ | (refine brA_split (fun h => ?_) (fun h => ?_) <;> (try rw [h]) <;> (try simp only [bS, ↓reduceIte] at h)) | refine getB_same ?_ | refine AWp.anyA ?_ | refine and_a ?_ | fail) <;> (conv => whnf))
        rw [h2]; rfl
      · obtain ⟨k, rfl⟩ : ∃ k, i = k + 1 := ⟨i - 1, by omega⟩
        have hz : (((k + 1 : Nat) : Int) - 1) = (k : Int) := by omega
        have ht : l.take (k + 1) = l.take k ++ [byteAt l k] := take_byte (by omega)
        rw [hz]
        repeat' ((first | (exfalso; first | omega | exact (by assumption : ¬ True) trivial | fail) | refine ⟨Sub.refl _, ?_⟩ | (refine brA_split (fun h => ?_) (fun h => ?_) <;> (try rw [h]) <;> (try simp only [bS, ↓reduceIte] at h)) | refine getB_same ?_ | refine AWp.anyA ?_ | refine and_a ?_ | fail) <;> (conv => whnf))
        all_goals (try simp only [Int.toNat_natCast] at *)
        · rw [h2, ht, lastB_app, if_pos (UInt8.toNat.inj (by omega)), List.length_take]
          exact congrArg (AV.int .i64) (by omega)
        · refine ⟨k, ?_, samea, ⟨by omega, by first | rfl | trivial, ?_⟩, by omega⟩
          · exact cons_eq (by show AV.int .i64 (IntKind.i64.wrap ((k : Int) - 1)) = _; rw [i64_of (b := (k : Int) - 1) rfl (by omega) (by omega)]) rfl
          · rw [h2, ht, lastB_app, if_neg]
            rintro hh
            rename_i h
            exact h (by rw [hh])
  refine APure.of_awp Tryz.func69 rfl (Nat.le_of_ble_eq_true (by kernel_rfl)) (by kernel_rfl) ?_
  intro s
  conv => whnf
  repeat' ((first | refine ⟨Sub.refl _, ?_⟩ | (refine brA_split (fun h => ?_) (fun h => ?_) <;> (try rw [h]) <;> (try simp only [bS, ↓reduceIte] at h)) | (refine ACalls.pure' ?_ (inner _); rintro _ rfl) | refine DCall.pure ?_ (inner _) | refine getB_same ?_ | refine AWp.anyA ?_ | refine and_a ?_ | fail) <;> (conv => whnf))
  rfl
/-- Where a text goes on behind some bytes. -/
def placeF : Int × Int → List UInt8 → Int × Int
  | p, [] => p
  | p, c :: r => placeF (if c = 10 then (p.1 + 1, 1) else (p.1, p.2 + 1)) r
theorem placeF_eq : ∀ (l : List UInt8) (a b : Int), placeF (a, b) l = if l.count 10 = 0 then (a, b + l.length) else (a + l.count 10, l.length - lastB l 10)
  | [], a, b => by simp [placeF]
  | c :: r, a, b => by
    have hn := lastB_none r 10
    have hg := lastB_ge r 10
    rw [placeF, lastB, List.count_cons]
    by_cases hc : c = 10
    · subst hc
      simp only [if_true, BEq.rfl]
      rw [placeF_eq r, if_neg (by omega : ¬ r.count 10 + 1 = 0)]
      by_cases h0 : r.count 10 = 0
      · rw [if_pos h0, if_neg (by simp [hn.2 h0])]
        simp only [h0, List.length_cons]
        refine Prod.ext ?_ ?_ <;> simp <;> omega
      · rw [if_neg h0, if_pos (fun h => h0 (hn.1 h))]
        simp only [List.length_cons]
        refine Prod.ext ?_ ?_ <;> simp <;> omega
    · have hcb : (c == 10) = false := by simpa using hc
      simp only [if_neg hc, hcb]
      rw [placeF_eq r]
      by_cases h0 : r.count 10 = 0
      · rw [if_pos h0, if_pos (by simp [h0])]
        simp only [List.length_cons]
        refine Prod.ext ?_ ?_ <;> simp <;> omega
      · rw [if_neg h0, if_neg (by simp [h0]), if_pos (fun h => h0 (hn.1 h))]
        simp only [List.length_cons]
        refine Prod.ext ?_ ?_ <;> simp <;> omega
theorem placeF_bound (l : List UInt8) (a b : Int) (ha : 0 ≤ a) (hb : 0 ≤ b) : (0 ≤ (placeF (a, b) l).1 ∧ (placeF (a, b) l).1 ≤ a + l.length) ∧ 0 ≤ (placeF (a, b) l).2 ∧ (placeF (a, b) l).2 ≤ b + l.length + 1 := by
  have := List.count_le_length (a := (10 : UInt8)) (l := l)
  have hg := lastB_ge l 10
  rw [placeF_eq]
  split
  · simp only; omega
  · simp only; omega
theorem move_ok (a b : Int) (l : List UInt8) (hl : l.length ≤ 1048576) (ha : 0 ≤ a ∧ a ≤ 100000000) (hb : 0 ≤ b ∧ b ≤ 100000000) :
    APure Tryz.prog Γ 45 [.int .i64 a, .int .i64 b, .str l] fun v => v = .tuple [.int .i64 (placeF (a, b) l).1, .int .i64 (placeF (a, b) l).2] := by
  have h1 := count_ok (Γ := Γ) l
  have h2 := lastByte_ok (Γ := Γ) l 10 hl
  have h3 := List.count_le_length (a := (10 : UInt8)) (l := l)
  have hg := lastB_ge l 10
  rw [placeF_eq]
  refine APure.of_awp Tryz.func45 rfl (Nat.le_of_ble_eq_true (by kernel_rfl)) (by kernel_rfl) ?_
  intro s
  conv => whnf
  repeat' ((first | (exfalso; first | omega | exact (by assumption : ¬ True) trivial | fail) | refine ⟨Sub.refl _, ?_⟩ | (refine brA_split (fun h => ?_) (fun h => ?_) <;> (try rw [h]) <;> (try simp only [bS, ↓reduceIte] at h)) | (refine ACalls.pure' ?_ (h1); rintro _ rfl) | refine DCall.pure ?_ (h1) | (refine ACalls.pure' ?_ (h2); rintro _ rfl) | refine DCall.pure ?_ (h2) | refine getB_same ?_ | refine AWp.anyA ?_ | refine and_a ?_ | fail) <;> (conv => whnf))
  · rw [if_pos (by omega), i64_of (b := b + l.length) rfl (by omega) (by omega)]
    rfl
  · rw [if_neg (by omega), i64_of (b := a + l.count 10) rfl (by omega) (by omega), i64_of (b := l.length - lastB l 10) rfl (by omega) (by omega)]
    rfl
end Go.Proofs.YtdhgappjicpglaaGreatDoor.Lx
namespace Go.Proofs.YtdhgappjicpglaaGreatDoor.Sp
open Go Go.Ab Go.RowKit
variable {Γ : Nat → AV}
set_option maxRecDepth 10000
set_option maxHeartbeats 1000000
theorem count_ok (l : List UInt8) (c : UInt8) : APure Tryz.prog Γ 68 [.str l, .str [c]] fun v => v = .int .i64 (l.count c) := by
  refine fun s => ⟨fun G w vs hm hr => ?_⟩
  obtain ⟨u, us, rfl, hu, hus⟩ := RList_cons.1 hr
  obtain ⟨u1, us1, rfl, hu1, hus1⟩ := RList_cons.1 hus
  rw [RList_nil] at hus1; subst hus1
  rw [R_str] at hu; subst hu
  rw [R_str] at hu1; subst hu1
  refine Calls.mono (Tryz.strings_Count_one ⟨l.toArray⟩ c w) ?_
  rintro e w' ⟨rfl, rfl⟩
  exact ⟨_, _, s, G, rfl, ⟨rfl, rfl⟩, R_int.2 (by simp [Lib.countByte]), hm, Ext.refl _ _⟩
theorem index_ok (l : List UInt8) (c : UInt8) : APure Tryz.prog Γ 91 [.str l, .str [c]] fun v => v = .int .i64 (Lib.indexByte l c) := by
  refine fun s => ⟨fun G w vs hm hr => ?_⟩
  obtain ⟨u, us, rfl, hu, hus⟩ := RList_cons.1 hr
  obtain ⟨u1, us1, rfl, hu1, hus1⟩ := RList_cons.1 hus
  rw [RList_nil] at hus1; subst hus1
  rw [R_str] at hu; subst hu
  rw [R_str] at hu1; subst hu1
  refine Calls.mono (Tryz.strings_Index_one ⟨l.toArray⟩ c w) ?_
  rintro e w' ⟨rfl, rfl⟩
  exact ⟨_, _, s, G, rfl, ⟨rfl, rfl⟩, R_int.2 (by simp), hm, Ext.refl _ _⟩
attribute [local irreducible] APure Sto.set Sto.grow
/-- The parts of a text between a byte's places. -/
def splitL : List UInt8 → UInt8 → List (List UInt8)
  | [], _ => [[]]
  | b :: r, c => if b = c then [] :: splitL r c else match splitL r c with
    | [] => [[b]]
    | x :: xs => (b :: x) :: xs
theorem split_ne : ∀ (l : List UInt8) (c : UInt8), splitL l c ≠ []
  | [], _ => by simp [splitL]
  | b :: r, c => by
    unfold splitL
    split
    · simp
    · split <;> simp
theorem split_len : ∀ (l : List UInt8) (c : UInt8), (splitL l c).length = l.count c + 1
  | [], _ => rfl
  | b :: r, c => by
    have ih := split_len r c
    have hne := split_ne r c
    unfold splitL
    rw [List.count_cons]
    by_cases hb : b = c
    · simp [hb, ih]
    · have hbb : (b == c) = false := by simpa using hb
      rw [if_neg hb, hbb]
      rcases hs : splitL r c with _ | ⟨x, xs⟩
      · exact absurd hs hne
      · rw [hs] at ih
        simpa using ih
theorem split_none : ∀ {l : List UInt8} {c : UInt8}, Lib.indexByte l c = -1 → splitL l c = [l]
  | [], _, _ => rfl
  | b :: r, c, h => by
    have hge := Lib.indexByte_ge r c
    unfold Lib.indexByte at h
    by_cases hb : b = c
    · simp [hb] at h
    · have hbb : (b == c) = false := by simpa using hb
      rw [hbb] at h
      simp only [Bool.false_eq_true, if_false] at h
      have hr : Lib.indexByte r c = -1 := by
        split at h
        · rename_i h1; simpa using h1
        · omega
      unfold splitL
      rw [if_neg hb, split_none hr]
theorem split_some : ∀ {l : List UInt8} {c : UInt8} {n : Nat}, Lib.indexByte l c = n → splitL l c = l.take n :: splitL (l.drop (n + 1)) c
  | [], _, n, h => by unfold Lib.indexByte at h; omega
  | b :: r, c, n, h => by
    have hge := Lib.indexByte_ge r c
    unfold Lib.indexByte at h
    by_cases hb : b = c
    · simp [hb] at h
      have : n = 0 := by omega
      subst this
      simp [splitL, hb]
    · have hbb : (b == c) = false := by simpa using hb
      rw [hbb] at h
      simp only [Bool.false_eq_true, if_false] at h
      split at h
      · exact absurd h (by omega)
      · rename_i h1
        have h1 : Lib.indexByte r c ≠ -1 := by simpa using h1
        obtain ⟨m, rfl⟩ : ∃ m, n = m + 1 := ⟨n - 1, by omega⟩
        have e : Lib.indexByte r c = (m : Int) := by omega
        have hs := split_some e
        rw [splitL, if_neg hb, hs]
        simp
theorem idx_lt {l : List UInt8} {c : UInt8} {n : Nat} (h : Lib.indexByte l c = n) : n < l.length := by
  have h2 := (Lib.indexByte_some (l := l) (c := c) (o := n) h).1
  exact (List.getElem?_eq_some_iff.1 h2).1
/-- The next cell of a row that fills. -/
theorem fill_next (d : List (List UInt8)) (x : List UInt8) (k : Nat) :
    (d.map AV.str ++ List.replicate (k + 1) (AV.str [])).take d.length ++ [AV.str x] ++ (d.map AV.str ++ List.replicate (k + 1) (AV.str [])).drop (d.length + 1) = (d ++ [x]).map AV.str ++ List.replicate k (AV.str []) := by
  have h1 : (d.map AV.str ++ List.replicate (k + 1) (AV.str [])).take d.length = d.map AV.str := by
    rw [List.take_append_of_le_length (by simp)]
    rw [List.take_of_length_le (by simp)]
  have h2 : (d.map AV.str ++ List.replicate (k + 1) (AV.str [])).drop (d.length + 1) = List.replicate k (AV.str []) := by
    rw [show d.length + 1 = (d.map AV.str).length + 1 by simp, List.drop_append]
    simp
  rw [h1, h2]
  simp
theorem chunks_strs : ∀ d : List (List UInt8), chunks 1 d.length (d.map AV.str) = strsA d
  | [] => rfl
  | x :: d => by
    have := chunks_strs d
    simp only [List.length_cons, List.map_cons, chunks, strsA] at *
    simpa using this
theorem frcL_at {cs cs' : List AV} {K : List AV → Prop} (h : cs = cs') (hk : K cs') : frcL cs K := by rw [frcL_eq, h]; exact hk
theorem fgE_strs (l : List (List UInt8)) : fgE (strsA l) = strsA l := fgE_map (A := fun s => [AV.str s]) (fun _ => rfl) l
theorem repl_flat (n : Nat) : (List.replicate n [AV.str []]).flatten = List.replicate n (AV.str []) := by
  induction n with
  | zero => rfl
  | succ n ih => rw [List.replicate_succ, List.flatten_cons, ih]; rfl
theorem genSplit_ok (l : List UInt8) (c : UInt8) (hl : l.length ≤ 1048576) : APure Tryz.prog Γ 112 [.str l, .str [c], .int .i64 0, .int .i64 (-1)] fun v => v = .slice 0 (strsA (splitL l c)) := by
  refine APure.frz fun s => ?_
  have hcnt := List.count_le_length (a := c) (l := l)
  have hlen := split_len l c
  have hw : IntKind.i64.wrap ((l.count c : Int) + 1) = ((l.count c + 1 : Nat) : Int) := i64_of (by omega) (by omega) (by omega)
  have hw2 : IntKind.i64.wrap ((l.length : Int) + 1) = ((l.length + 1 : Nat) : Int) := i64_of (by omega) (by omega) (by omega)
  have hw3 : IntKind.i64.wrap (((l.count c + 1 : Nat) : Int) - 1) = (l.count c : Int) := i64_of (by omega) (by omega) (by omega)
  refine ACalls.of_awp Tryz.func112 rfl (Nat.le_of_ble_eq_true (by kernel_rfl)) (awp_ok _ (by kernel_rfl) ?_)
  conv => whnf
  repeat' (first
    | (exfalso; first | omega | exact (by assumption : ¬ True) trivial | fail)
    | (refine ⟨Sub.refl _, ?_⟩)
    | (refine brA_split (fun h => ?_) (fun h => ?_) <;> (try rw [h]) <;> (try simp only [Bool.false_eq_true, Bool.true_eq_false, ↓reduceIte, decide_eq_true_eq, decide_eq_false_iff_not, Bool.not_eq_true', Bool.not_eq_false'] at h) <;> (conv => whnf))
    | (refine ACalls.pure' ?_ (count_ok l c); rintro _ rfl; conv => whnf)
    | (refine DCall.pure ?_ (count_ok l c); conv => whnf)
    | (rw [hw]; conv => whnf)
    | (rw [hw2]; conv => whnf)
    | (refine getB_same ?_; conv => whnf)
    | (refine AWp.any (by kernel_rfl) (by kernel_rfl) (by kernel_rfl) ?_; conv => whnf)
    | (apply And.intro; (focus (first | omega | rfl | decide | exact Nat.le_of_ble_eq_true rfl | ((repeat' (first | exact all_nil | refine all_cons ?_ ?_ | rfl | fail)); done) | (simp [-List.length_flatMap]; done) | (simp [-List.length_flatMap]; omega) | fail)); conv => whnf)
    | fail)
  have hN : (if ((l.length + 1 : Nat) : Int) < ((l.count c + 1 : Nat) : Int) then ((l.length + 1 : Nat) : Int) else ((l.count c + 1 : Nat) : Int)) = ((l.count c + 1 : Nat) : Int) := if_neg (by omega)
  rw [hN]
  refine ⟨?_, rfl, ?_⟩
  · show ((16 : Nat) : Int) * _ ≤ _
    omega
  intro b hb
  conv => whnf
  repeat' (first
    | (exfalso; first | omega | exact (by assumption : ¬ True) trivial | fail)
    | (refine ⟨Sub.refl _, ?_⟩)
    | (refine brA_split (fun h => ?_) (fun h => ?_) <;> (try rw [h]) <;> (try simp only [Bool.false_eq_true, Bool.true_eq_false, ↓reduceIte, decide_eq_true_eq, decide_eq_false_iff_not, Bool.not_eq_true', Bool.not_eq_false'] at h) <;> (conv => whnf))
    | (refine getB_same ?_; conv => whnf)
    | (refine AWp.any (by kernel_rfl) (by kernel_rfl) (by kernel_rfl) ?_; conv => whnf)
    | (apply And.intro; (focus (first | omega | rfl | decide | exact Nat.le_of_ble_eq_true rfl | ((repeat' (first | exact all_nil | refine all_cons ?_ ?_ | rfl | fail)); done) | (simp [-List.length_flatMap]; done) | (simp [-List.length_flatMap]; omega) | fail)); conv => whnf)
    | fail)
  refine AWp.loopA [0, 10] [34, 35, 36, 37, 38, 39, 11, 40, 41, 42, 43, 44, 45, 46, 47, 48, 49, 50, 51, 52, 53, 54, 55, 56, 57] (fun x : List (List UInt8) × List UInt8 => [.str x.2, .int .i64 x.1.length]) (fun x s' => (splitL l c = x.1 ++ splitL x.2 c ∧ x.2.length ≤ l.length) ∧ s'.bx b = some (9, x.1.map AV.str ++ List.replicate (l.count c + 1 - x.1.length) (AV.str [])) ∧ Sub s s') (fun x => l.count c - x.1.length) (([], l)) (by kernel_rfl) (by (repeat' (first | refine cons_eq ?_ ?_ | refine int64_of ?_ ?_ ?_ | rfl | omega))) ?_ ?_
  · refine ⟨⟨rfl, Nat.le_refl _⟩, ?_, (Sub.refl _).set hb _ _⟩
    refine set_bx_same.trans ?_
    rw [Int.toNat_natCast]
    exact congrArg (fun z => some (9, z)) (repl_flat _)
  · rintro x ⟨d, q⟩ s1 ⟨⟨i1, i2⟩, i3, i4⟩
    simp only at i1 i2 i3 i4
    show awp _ _ _ _ _ (updL _ _ [.str q, .int .i64 (d.length : Int)]) _
    conv => whnf
    have hlen2 := split_len q c
    have hd : d.length + (splitL q c).length = l.count c + 1 := by rw [← hlen, i1, List.length_append]
    have hix := index_ok (Γ := Γ) q c
    by_cases hn : Lib.indexByte q c = -1
    · have hq := split_none hn
      rw [hq] at i1 hd
      rw [hn] at hix
      simp only [List.length_cons, List.length_nil] at hd
      repeat' (first
        | (exfalso; first | omega | exact (by assumption : ¬ True) trivial | fail)
        | (refine ⟨Sub.refl _, ?_⟩)
        | (refine brA_split (fun h => ?_) (fun h => ?_) <;> (try rw [h]) <;> (try simp only [Bool.false_eq_true, Bool.true_eq_false, ↓reduceIte, decide_eq_true_eq, decide_eq_false_iff_not, Bool.not_eq_true', Bool.not_eq_false'] at h) <;> (conv => whnf))
        | (rw [hw3]; conv => whnf)
        | (refine ACalls.pure' ?_ (hix); rintro _ rfl; conv => whnf)
        | (refine DCall.pure ?_ (hix); conv => whnf)
        | (refine getB_of (by ((repeat (first | exact set_bx_same | assumption | refine (set_bx_other (by assumption)).trans ?_ | refine grow_bx.trans ?_)); done)) ?_; conv => whnf)
        | (refine getB_same ?_; conv => whnf)
        | (refine AWp.any (by kernel_rfl) (by kernel_rfl) (by kernel_rfl) ?_; conv => whnf)
        | (apply And.intro; (focus (first | omega | rfl | decide | exact Nat.le_of_ble_eq_true rfl | ((repeat' (first | exact all_nil | refine all_cons ?_ ?_ | rfl | fail)); done) | (simp [-List.length_flatMap]; done) | (simp [-List.length_flatMap]; omega) | fail)); conv => whnf)
        | fail)
      have hk : l.count c + 1 - d.length = 0 + 1 := by omega
      rw [hk]
      refine ⟨by show 0 + ((d.length : Nat) : Int).toNat * 1 + 1 ≤ _; simp <;> omega, frcL_at (cs' := (d ++ [q]).map AV.str ++ List.replicate 0 (AV.str [])) ?_ ?_⟩
      · rw [show 0 + ((d.length : Nat) : Int).toNat * (fun x => x.size) Tryz.prog.types[9] = d.length by show 0 + ((d.length : Nat) : Int).toNat * 1 = _; omega]
        exact fill_next d q 0
      have hwd : IntKind.i64.wrap ((d.length : Int) + 1) = ((d.length + 1 : Nat) : Int) := i64_of (by omega) (by omega) (by omega)
      conv => whnf
      repeat' (first
        | (exfalso; first | omega | exact (by assumption : ¬ True) trivial | fail)
        | (refine ⟨Sub.refl _, ?_⟩)
        | (refine brA_split (fun h => ?_) (fun h => ?_) <;> (try rw [h]) <;> (try simp only [Bool.false_eq_true, Bool.true_eq_false, ↓reduceIte, decide_eq_true_eq, decide_eq_false_iff_not, Bool.not_eq_true', Bool.not_eq_false'] at h) <;> (conv => whnf))
        | (refine getB_of (by ((repeat (first | exact set_bx_same | assumption | refine (set_bx_other (by assumption)).trans ?_ | refine grow_bx.trans ?_)); done)) ?_; conv => whnf)
        | (refine getB_same ?_; conv => whnf)
        | (refine AWp.any (by kernel_rfl) (by kernel_rfl) (by kernel_rfl) ?_; conv => whnf)
        | (apply And.intro; (focus (first | omega | rfl | decide | exact Nat.le_of_ble_eq_true rfl | ((repeat' (first | exact all_nil | refine all_cons ?_ ?_ | rfl | fail)); done) | (simp [-List.length_flatMap]; done) | (simp [-List.length_flatMap]; omega) | fail)); conv => whnf)
        | fail)
      refine ⟨_, Sub.refl _, fz1 b 1 ((d ++ [q]).map AV.str ++ List.replicate 0 (AV.str [])), fz1_of hb set_bx_same, ?_, i4.set hb _ _⟩
      rw [hwd, i1]
      show fg (fz _ (AV.raw (some ⟨b, if ((l.count c + 1 : Nat) : Int).toNat = 0 then 0 else 0 + 0 * 1, none⟩) (((d.length + 1 : Nat) : Int).toNat - 0) (((l.count c + 1 : Nat) : Int).toNat - 0))) = _
      rw [show (if ((l.count c + 1 : Nat) : Int).toNat = 0 then 0 else 0 + 0 * 1) = 0 by split <;> rfl, Int.toNat_natCast, Int.toNat_natCast, Nat.sub_zero, Nat.sub_zero]
      have hm : fzW (fz1 b 1 ((d ++ [q]).map AV.str ++ List.replicate 0 (AV.str []))) (some ⟨b, 0, none⟩) (d.length + 1) (l.count c + 1) = .slice 0 (strsA (d ++ [q])) := by
        unfold fzW
        simp only [fz1_at]
        rw [if_pos ⟨by omega, by simp⟩, List.replicate_zero, List.append_nil, List.drop_zero]
        have := chunks_strs (d ++ [q])
        rw [List.length_append] at this
        exact congrArg (AV.slice 0) this
      unfold fz
      rw [hm]
      unfold fg
      rw [fgE_strs]
    · obtain ⟨n, hn1⟩ : ∃ n : Nat, Lib.indexByte q c = n := ⟨(Lib.indexByte q c).toNat, by have := Lib.indexByte_ge q c; omega⟩
      have hnl := idx_lt hn1
      have hq := split_some hn1
      rw [hq] at i1 hd
      rw [hn1] at hix
      have hs2 := split_len (q.drop (n + 1)) c
      simp only [List.length_cons] at hd
      have hwn : IntKind.i64.wrap ((n : Int) + 0) = (n : Int) := i64_of (by omega) (by omega) (by omega)
      have hwn1 : IntKind.i64.wrap ((n : Int) + ([c].length : Nat)) = ((n + 1 : Nat) : Int) := i64_of rfl (by simp <;> omega) (by simp <;> omega)
      repeat' (first
        | (exfalso; first | omega | exact (by assumption : ¬ True) trivial | fail)
        | (refine ⟨Sub.refl _, ?_⟩)
        | (refine brA_split (fun h => ?_) (fun h => ?_) <;> (try rw [h]) <;> (try simp only [Bool.false_eq_true, Bool.true_eq_false, ↓reduceIte, decide_eq_true_eq, decide_eq_false_iff_not, Bool.not_eq_true', Bool.not_eq_false'] at h) <;> (conv => whnf))
        | (rw [hw3]; conv => whnf)
        | (refine ACalls.pure' ?_ (hix); rintro _ rfl; conv => whnf)
        | (refine DCall.pure ?_ (hix); conv => whnf)
        | (refine getB_of (by ((repeat (first | exact set_bx_same | assumption | refine (set_bx_other (by assumption)).trans ?_ | refine grow_bx.trans ?_)); done)) ?_; conv => whnf)
        | (rw [hwn]; conv => whnf)
        | (rw [hwn1]; conv => whnf)
        | (refine getB_same ?_; conv => whnf)
        | (refine AWp.any (by kernel_rfl) (by kernel_rfl) (by kernel_rfl) ?_; conv => whnf)
        | (apply And.intro; (focus (first | omega | rfl | decide | exact Nat.le_of_ble_eq_true rfl | ((repeat' (first | exact all_nil | refine all_cons ?_ ?_ | rfl | fail)); done) | (simp [-List.length_flatMap]; done) | (simp [-List.length_flatMap]; omega) | fail)); conv => whnf)
        | fail)
      obtain ⟨k, hk⟩ : ∃ k, l.count c + 1 - d.length = k + 1 := ⟨l.count c - d.length, by omega⟩
      rw [hk]
      refine ⟨by show 0 + ((d.length : Nat) : Int).toNat * 1 + 1 ≤ _; simp <;> omega, frcL_at (cs' := (d ++ [q.take n]).map AV.str ++ List.replicate k (AV.str [])) ?_ ?_⟩
      · rw [show 0 + ((d.length : Nat) : Int).toNat * (fun x => x.size) Tryz.prog.types[9] = d.length by show 0 + ((d.length : Nat) : Int).toNat * 1 = _; omega]
        exact fill_next d (q.take n) k
      conv => whnf
      repeat' (first
        | (exfalso; first | omega | exact (by assumption : ¬ True) trivial | fail)
        | (refine ⟨Sub.refl _, ?_⟩)
        | (refine brA_split (fun h => ?_) (fun h => ?_) <;> (try rw [h]) <;> (try simp only [Bool.false_eq_true, Bool.true_eq_false, ↓reduceIte, decide_eq_true_eq, decide_eq_false_iff_not, Bool.not_eq_true', Bool.not_eq_false'] at h) <;> (conv => whnf))
        | (refine getB_of (by ((repeat (first | exact set_bx_same | assumption | refine (set_bx_other (by assumption)).trans ?_ | refine grow_bx.trans ?_)); done)) ?_; conv => whnf)
        | (rw [hwn1]; conv => whnf)
        | (refine getB_same ?_; conv => whnf)
        | (refine AWp.any (by kernel_rfl) (by kernel_rfl) (by kernel_rfl) ?_; conv => whnf)
        | (apply And.intro; (focus (first | omega | rfl | decide | exact Nat.le_of_ble_eq_true rfl | ((repeat' (first | exact all_nil | refine all_cons ?_ ?_ | rfl | fail)); done) | (simp [-List.length_flatMap]; done) | (simp [-List.length_flatMap]; omega) | fail)); conv => whnf)
        | fail)
      refine ⟨(d ++ [q.take n], q.drop (n + 1)), ?_, by (repeat (first | exact Same.refl _ _ | refine Same.upd rfl ?_ | refine Same.updL rfl ?_ | refine Same.havoc rfl ?_)), ⟨⟨by rw [i1]; simp, by simp only [List.length_drop]; omega⟩, set_bx_same.trans ?_, i4.set hb _ _⟩, by simp; omega⟩
      · refine cons_eq ?_ (cons_eq ?_ rfl)
        · show AV.str (List.drop (((n + 1 : Nat) : Int)).toNat (List.take q.length q)) = _
          rw [Int.toNat_natCast, drop_take_all]
        · show AV.int .i64 (IntKind.i64.wrap ((d.length : Int) + 1)) = .int .i64 (((d ++ [q.take n]).length : Nat) : Int)
          rw [i64_of (b := (d.length : Int) + 1) rfl (by omega) (by omega)]
          simp
      · rw [show l.count c + 1 - (d ++ [q.take n]).length = k by simp; omega]
theorem split_ok (l : List UInt8) (c : UInt8) (hl : l.length ≤ 1048576) : APure Tryz.prog Γ 95 [.str l, .str [c]] fun v => v = .slice 0 (strsA (splitL l c)) := by
  refine APure.of_awp Tryz.func95 rfl (Nat.le_of_ble_eq_true (by kernel_rfl)) (by kernel_rfl) ?_
  intro s
  conv => whnf
  repeat' (first
    | (refine ⟨Sub.refl _, ?_⟩)
    | (refine brA_split (fun h => ?_) (fun h => ?_) <;> (try rw [h]) <;> (try simp only [Bool.false_eq_true, Bool.true_eq_false, ↓reduceIte, decide_eq_true_eq, decide_eq_false_iff_not, Bool.not_eq_true', Bool.not_eq_false'] at h) <;> (conv => whnf))
    | (refine ACalls.pure' ?_ (genSplit_ok l c hl); rintro _ rfl; conv => whnf)
    | (refine DCall.pure ?_ (genSplit_ok l c hl); conv => whnf)
    | (refine getB_same ?_; conv => whnf)
    | (refine AWp.any (by kernel_rfl) (by kernel_rfl) (by kernel_rfl) ?_; conv => whnf)
    | (apply And.intro; (focus (first | omega | rfl | decide | exact Nat.le_of_ble_eq_true rfl | ((repeat' (first | exact all_nil | refine all_cons ?_ ?_ | rfl | fail)); done) | (simp [-List.length_flatMap]; done) | (simp [-List.length_flatMap]; omega) | fail)); conv => whnf)
    | fail)
  rfl
end Go.Proofs.YtdhgappjicpglaaGreatDoor.Sp
namespace Go.Proofs.YtdhgappjicpglaaGreatDoor.Lx
open Go Go.Ab Go.RowKit Go.Proofs.YtdhgappjicpglaaGreatDoor.Sc
variable {Γ : Nat → AV}
attribute [local irreducible] APure Sto.set Sto.grow
set_option maxRecDepth 10000
set_option maxHeartbeats 1000000
def pfx (x l : List UInt8) : Bool := decide (x.length ≤ l.length) && decide (l.take x.length = x)
theorem hasPrefix_ok (l p : List UInt8) (hp : p.length ≤ 1048576) : APure Tryz.prog Γ 96 [.str l, .str p] fun v => v = .bool (pfx p l) := by
  have inner : ∀ Γ : Nat → AV, APure Tryz.prog Γ 113 [.str l, .str p] fun v => v = .bool (pfx p l) := by
    intro Γ
    refine APure.of_awp Tryz.func113 rfl (Nat.le_of_ble_eq_true (by kernel_rfl)) (by kernel_rfl) ?_
    intro s
    conv => whnf
    repeat' ((first | (exfalso; first | omega | exact (by assumption : ¬ True) trivial | fail) | refine ⟨Sub.refl _, ?_⟩ | (refine brA_split (fun h => ?_) (fun h => ?_) <;> (try rw [h]) <;> (try simp only [bS, ↓reduceIte] at h)) | refine getB_same ?_ | refine AWp.anyA ?_ | refine and_a ?_ | fail) <;> (conv => whnf))
    · refine bool_eq ?_
      rw [pfx, decide_eq_true (p := p.length ≤ l.length) (by omega), Bool.true_and]
      rfl
    · refine bool_eq ?_
      rw [pfx, decide_eq_false (p := p.length ≤ l.length) (by omega), Bool.false_and]
  refine APure.of_awp Tryz.func96 rfl (Nat.le_of_ble_eq_true (by kernel_rfl)) (by kernel_rfl) ?_
  intro s
  conv => whnf
  repeat' ((first | refine ⟨Sub.refl _, ?_⟩ | (refine brA_split (fun h => ?_) (fun h => ?_) <;> (try rw [h]) <;> (try simp only [bS, ↓reduceIte] at h)) | (refine ACalls.pure' ?_ (inner _); rintro _ rfl) | refine DCall.pure ?_ (inner _) | refine getB_same ?_ | refine AWp.anyA ?_ | refine and_a ?_ | fail) <;> (conv => whnf))
  rfl
/-- The signs, those of two bytes first. -/
def signsL : List (List UInt8) := [[61, 61], [33, 61], [60, 61], [62, 61], [60], [62], [61], [40], [41], [44], [58], [43], [45], [42], [47], [37]]
def signF : List (List UInt8) → List UInt8 → List UInt8
  | [], _ => []
  | x :: r, l => if pfx x l = true then x else signF r l
def signOf (l : List UInt8) : List UInt8 := signF signsL l
theorem split_signs : Sp.splitL [61, 61, 32, 33, 61, 32, 60, 61, 32, 62, 61, 32, 60, 32, 62, 32, 61, 32, 40, 32, 41, 32, 44, 32, 58, 32, 43, 32, 45, 32, 42, 32, 47, 32, 37] 32 = signsL := by decide
theorem signs_small : ∀ x ∈ signsL, x.length ≤ 1048576 := by decide
theorem signF_at {L : List (List UInt8)} {l : List UInt8} {i : Nat} (h : i < L.length) : signF (L.drop i) l = if pfx (L.getD i []) l = true then L.getD i [] else signF (L.drop (i + 1)) l := by
  rw [show L.drop i = L.getD i [] :: L.drop (i + 1) by simp [List.getD, h], signF]
theorem getD_mem {L : List (List UInt8)} {i : Nat} (h : i < L.length) : L.getD i [] ∈ L := by simp [List.getD, h]
theorem progSign_ok (l : List UInt8) : APure Tryz.prog Γ 73 [.str l] fun v => v = .str (signOf l) := by
  have hsp := Sp.split_ok (Γ := Γ) [61, 61, 32, 33, 61, 32, 60, 61, 32, 62, 61, 32, 60, 32, 62, 32, 61, 32, 40, 32, 41, 32, 44, 32, 58, 32, 43, 32, 45, 32, 42, 32, 47, 32, 37] 32 (by simp)
  rw [split_signs] at hsp
  have hsm := signs_small
  unfold signOf
  generalize hL : signsL = L at *
  have hlen : L.length = 16 := by rw [← hL]; rfl
  have hll := strsA_len L
  refine APure.of_awp Tryz.func73 rfl (Nat.le_of_ble_eq_true (by kernel_rfl)) (by kernel_rfl) ?_
  intro s
  conv => whnf
  repeat' ((first | refine ⟨Sub.refl _, ?_⟩ | (refine brA_split (fun h => ?_) (fun h => ?_) <;> (try rw [h]) <;> (try simp only [bS, ↓reduceIte] at h)) | (refine ACalls.pure' ?_ (hsp); rintro _ rfl) | refine DCall.pure ?_ (hsp) | refine getB_same ?_ | refine AWp.anyA ?_ | refine and_a ?_ | fail) <;> (conv => whnf))
  refine AWp.loopA [7] [8, 9, 10, 4, 11, 12, 13, 14, 2, 15] (fun i : Nat => [.int .i64 i]) (fun i s' => i ≤ L.length ∧ s' = s ∧ signF L l = signF (L.drop i) l) (fun i => L.length - i) (0) (by kernel_rfl) (eqa) ?_ ?_
  · exact ⟨by omega, rfl, by rw [List.drop_zero]⟩
  · rintro x i s1 ⟨h1, rfl, h2⟩
    show awp _ _ _ _ _ (updL _ _ [.int .i64 (i : Int)]) _
    conv => whnf
    by_cases hlt : i < L.length
    · have hg := strsA_get hlt
      have hat := signF_at (l := l) hlt
      have hm := hsm _ (getD_mem hlt)
      generalize L.getD i [] = g at *
      repeat' ((first | (exfalso; first | omega | exact (by assumption : ¬ True) trivial | fail) | refine ⟨Sub.refl _, ?_⟩ | (refine brA_split (fun h => ?_) (fun h => ?_) <;> (try rw [h]) <;> (try simp only [bS, ↓reduceIte] at h)) | (rw [show (strsA L).getD ((i : Int)).toNat [] = _ from hg]) | (refine ACalls.pure' ?_ (hasPrefix_ok l g hm); rintro _ rfl) | refine DCall.pure ?_ (hasPrefix_ok l g hm) | refine getB_same ?_ | refine AWp.anyA ?_ | refine and_a ?_ | fail) <;> (conv => whnf))
      · rw [h2, hat, if_pos h]
        rfl
      · refine ⟨i + 1, eqa, samea, ⟨by omega, by first | rfl | trivial, ?_⟩, by omega⟩
        rw [h2, hat, if_neg (by simp_all)]
    · repeat' ((first | (exfalso; first | omega | exact (by assumption : ¬ True) trivial | fail) | refine ⟨Sub.refl _, ?_⟩ | (refine brA_split (fun h => ?_) (fun h => ?_) <;> (try rw [h]) <;> (try simp only [bS, ↓reduceIte] at h)) | refine getB_same ?_ | refine AWp.anyA ?_ | refine and_a ?_ | fail) <;> (conv => whnf))
      rw [h2, List.drop_of_length_le (by omega)]
      rfl
/-- The digits, and a table of bytes. -/
def digitsB : List UInt8 := [48, 49, 50, 51, 52, 53, 54, 55, 56, 57]
def tabB (k : Nat) : List AV := (List.range 256).map fun c => .bool (decide (48 ≤ c) && decide (c < 48 + k))
theorem tab_next : ∀ k : Nat, k < 10 → (tabB k).take (48 + k) ++ [.bool true] ++ (tabB k).drop (48 + k + 1) = tabB (k + 1)
  | 0, _ => by kernel_rfl
  | 1, _ => by kernel_rfl
  | 2, _ => by kernel_rfl
  | 3, _ => by kernel_rfl
  | 4, _ => by kernel_rfl
  | 5, _ => by kernel_rfl
  | 6, _ => by kernel_rfl
  | 7, _ => by kernel_rfl
  | 8, _ => by kernel_rfl
  | 9, _ => by kernel_rfl
  | k + 10, h => by omega
theorem digit_at : ∀ k : Nat, k < 10 → ((byteAt digitsB k).toNat : Int) = ((48 + k : Nat) : Int)
  | 0, _ => by kernel_rfl
  | 1, _ => by kernel_rfl
  | 2, _ => by kernel_rfl
  | 3, _ => by kernel_rfl
  | 4, _ => by kernel_rfl
  | 5, _ => by kernel_rfl
  | 6, _ => by kernel_rfl
  | 7, _ => by kernel_rfl
  | 8, _ => by kernel_rfl
  | 9, _ => by kernel_rfl
  | k + 10, h => by omega
theorem tab_len (k : Nat) : (tabB k).length = 256 := by unfold tabB; simp
theorem frcL_at {cs cs' : List AV} {K : List AV → Prop} (h : cs = cs') (hk : K cs') : frcL cs K := by rw [frcL_eq, h]; exact hk
theorem makeSet_ok : APure Tryz.prog Γ 132 [.str digitsB] fun v => v = .tuple [.agg (tabB 10), .bool true] := by
  generalize hD : digitsB = D
  have hlen : D.length = 10 := by rw [← hD]; rfl
  have hda := fun k h => digit_at k h
  rw [hD] at hda
  refine APure.of_awp Tryz.func132 rfl (Nat.le_of_ble_eq_true (by kernel_rfl)) (by kernel_rfl) ?_
  intro s
  conv => whnf
  repeat' ((first | refine ⟨Sub.refl _, ?_⟩ | (refine brA_split (fun h => ?_) (fun h => ?_) <;> (try rw [h]) <;> (try simp only [bS, ↓reduceIte] at h)) | refine getB_same ?_ | refine AWp.anyA ?_ | refine and_a ?_ | fail) <;> (conv => whnf))
  intro b hb
  conv => whnf
  repeat' ((first | refine ⟨Sub.refl _, ?_⟩ | (refine brA_split (fun h => ?_) (fun h => ?_) <;> (try rw [h]) <;> (try simp only [bS, ↓reduceIte] at h)) | refine getB_same ?_ | refine AWp.anyA ?_ | refine and_a ?_ | fail) <;> (conv => whnf))
  refine AWp.loopA [4] [6, 7, 8, 9, 12, 13, 14, 5, 15, 16, 17, 3, 18, 19, 10, 11] (fun i : Nat => [.int .i64 i]) (fun i s' => i ≤ 10 ∧ s'.bx b = some (204, tabB i) ∧ Sub s s') (fun i => 10 - i) (0) (by kernel_rfl) (eqa) ?_ ?_
  · exact ⟨by omega, set_bx_same, (Sub.refl _).set hb _ _⟩
  · rintro x i s1 ⟨h1, h2, h3⟩
    show awp _ _ _ _ _ (updL _ _ [.int .i64 (i : Int)]) _
    conv => whnf
    by_cases hlt : i < 10
    · have hd := hda i hlt
      have hz : byteAt D ((i : Int)).toNat = byteAt D i := rfl
      repeat' ((first | (exfalso; first | omega | exact (by assumption : ¬ True) trivial | fail) | refine ⟨Sub.refl _, ?_⟩ | (refine brA_split (fun h => ?_) (fun h => ?_) <;> (try rw [h]) <;> (try simp only [bS, ↓reduceIte] at h)) | refine getB_a ?_ | (rw [hz]) | (rw [hd]) | refine getB_same ?_ | refine AWp.anyA ?_ | refine and_a ?_ | fail) <;> (conv => whnf))
      refine ⟨?_, frcL_at (cs' := tabB (i + 1)) ?_ ?_⟩
      · rw [tab_len]
        show 0 + ((48 + i : Nat) : Int).toNat * 1 + 1 ≤ 256
        omega
      · rw [show 0 + ((48 + i : Nat) : Int).toNat * (fun x => x.size) Tryz.prog.types[4] = 48 + i by show 0 + ((48 + i : Nat) : Int).toNat * 1 = _; omega]
        exact tab_next i hlt
      conv => whnf
      repeat' ((first | (exfalso; first | omega | exact (by assumption : ¬ True) trivial | fail) | refine ⟨Sub.refl _, ?_⟩ | (refine brA_split (fun h => ?_) (fun h => ?_) <;> (try rw [h]) <;> (try simp only [bS, ↓reduceIte] at h)) | refine getB_a ?_ | refine getB_same ?_ | refine AWp.anyA ?_ | refine and_a ?_ | fail) <;> (conv => whnf))
      exact ⟨i + 1, eqa, samea, ⟨by omega, set_bx_same, h3.set hb _ _⟩, by omega⟩
    · obtain rfl : i = 10 := by omega
      repeat' ((first | (exfalso; first | omega | exact (by assumption : ¬ True) trivial | fail) | refine ⟨Sub.refl _, ?_⟩ | (refine brA_split (fun h => ?_) (fun h => ?_) <;> (try rw [h]) <;> (try simp only [bS, ↓reduceIte] at h)) | refine getB_a ?_ | refine getB_same ?_ | refine AWp.anyA ?_ | refine and_a ?_ | fail) <;> (conv => whnf))
      exact ⟨h3.set hb _ _, by kernel_rfl⟩
end Go.Proofs.YtdhgappjicpglaaGreatDoor.Lx
namespace Go.Proofs.YtdhgappjicpglaaGreatDoor.Lx
open Go Go.Ab Go.RowKit Go.Proofs.YtdhgappjicpglaaGreatDoor.Sc
variable {Γ : Nat → AV}
attribute [local irreducible] APure Sto.set Sto.grow tabB
set_option maxRecDepth 10000
set_option maxHeartbeats 1000000
theorem tab_drop (c : UInt8) : (tabB 10).drop c.toNat = .bool (digitc c.toNat) :: (tabB 10).drop (c.toNat + 1) := by
  have hc : c.toNat < 256 := c.toNat_lt
  have hlen := tab_len 10
  rw [List.drop_eq_getElem_cons (by omega)]
  congr 1
  unfold tabB digitc
  simp only [List.getElem_map, List.getElem_range]
  refine congrArg AV.bool ?_
  rw [Bool.eq_iff_iff]
  simp
  omega
theorem contains_ok {s : Sto} {b : Nat} (hb : s.bx b = some (204, tabB 10)) (c : UInt8) :
    ACalls Tryz.prog Γ 145 [.ptr (some ⟨b, 0, none⟩), .int .u8 c.toNat] s fun v s' => v = .bool (digitc c.toNat) ∧ s' = s := by
  have hd : (tabB 10).drop (0 + ((c.toNat : Int)).toNat * (fun x => x.size) Tryz.prog.types[4]) = .bool (digitc c.toNat) :: (tabB 10).drop (c.toNat + 1) := by
    rw [show 0 + ((c.toNat : Int)).toNat * (fun x => x.size) Tryz.prog.types[4] = c.toNat by show 0 + ((c.toNat : Nat) : Int).toNat * 1 = _; omega]
    exact tab_drop c
  have hc : c.toNat < 256 := c.toNat_lt
  refine ACalls.of_awp Tryz.func145 rfl (Nat.le_of_ble_eq_true (by kernel_rfl)) (awp_ok _ (by kernel_rfl) ?_)
  conv => whnf
  repeat' ((first | (exfalso; first | omega | exact (by assumption : ¬ True) trivial | fail) | refine ⟨Sub.refl _, ?_⟩ | (refine brA_split (fun h => ?_) (fun h => ?_) <;> (try rw [h]) <;> (try simp only [bS, ↓reduceIte] at h)) | refine getB_a ?_ | (rw [hd]) | refine getB_same ?_ | refine AWp.anyA ?_ | refine and_a ?_ | fail) <;> (conv => whnf))
  exact ⟨_, Sub.refl _, rfl, rfl⟩
def digB (c : UInt8) : Bool := digitc c.toNat
/-- Without the digits at its beginning, and at its end. -/
def trimLf (l : List UInt8) : List UInt8 := l.dropWhile digB
def trimRf (l : List UInt8) : List UInt8 := (l.reverse.dropWhile digB).reverse
theorem trimRf_app (l : List UInt8) (c : UInt8) : trimRf (l ++ [c]) = if digB c = true then trimRf l else l ++ [c] := by
  unfold trimRf
  rw [List.reverse_append, List.reverse_singleton, List.singleton_append, List.dropWhile_cons]
  split <;> simp
theorem trimRf_len (l : List UInt8) : (trimRf l).length ≤ l.length := by
  unfold trimRf
  rw [List.length_reverse]
  have := (List.dropWhile_sublist (p := digB) (l := l.reverse)).length_le
  rw [List.length_reverse] at this
  exact this
theorem trimLeft_ok {s : Sto} {b : Nat} (hb : s.bx b = some (204, tabB 10)) (l : List UInt8) (hl : l.length ≤ 1048576) :
    ACalls Tryz.prog Γ 133 [.str l, .ptr (some ⟨b, 0, none⟩)] s fun v s' => v = .str (trimLf l) ∧ s' = s := by
  refine ACalls.of_awp Tryz.func133 rfl (Nat.le_of_ble_eq_true (by kernel_rfl)) (awp_ok _ (by kernel_rfl) ?_)
  conv => whnf
  repeat' ((first | refine ⟨Sub.refl _, ?_⟩ | (refine brA_split (fun h => ?_) (fun h => ?_) <;> (try rw [h]) <;> (try simp only [bS, ↓reduceIte] at h)) | refine getB_same ?_ | refine AWp.anyA ?_ | refine and_a ?_ | fail) <;> (conv => whnf))
  refine AWp.loopA [0] [5, 6, 7, 8, 9, 10, 11, 12, 13, 14] (fun q : List UInt8 => [.str q]) (fun q s' => q.length ≤ l.length ∧ s' = s ∧ trimLf l = trimLf q) (fun q => q.length) (l) (by kernel_rfl) (eqa) ?_ ?_
  · exact ⟨Nat.le_refl _, rfl, rfl⟩
  · rintro x q s1 ⟨h1, rfl, h2⟩
    show awp _ _ _ _ _ (updL _ _ [.str q]) _
    conv => whnf
    cases q with
    | nil =>
      repeat' ((first | (exfalso; first | omega | exact (by assumption : ¬ True) trivial | fail) | refine ⟨Sub.refl _, ?_⟩ | (refine brA_split (fun h => ?_) (fun h => ?_) <;> (try rw [h]) <;> (try simp only [bS, ↓reduceIte] at h)) | refine getB_same ?_ | refine AWp.anyA ?_ | refine and_a ?_ | fail) <;> (conv => whnf))
      exact ⟨_, Sub.refl _, by rw [h2]; rfl, rfl⟩
    | cons c q =>
      have hz : byteAt (c :: q) (0 : Int).toNat = c := rfl
      have hp : 0 < (c :: q).length := by simp
      repeat' ((first | (exfalso; first | omega | exact (by assumption : ¬ True) trivial | fail) | refine ⟨Sub.refl _, ?_⟩ | (refine brA_split (fun h => ?_) (fun h => ?_) <;> (try rw [h]) <;> (try simp only [bS, ↓reduceIte] at h)) | (rw [hz]) | (refine ACalls.by (contains_ok hb c) ?_; rintro _ _ ⟨rfl, rfl⟩) | refine getB_same ?_ | refine AWp.anyA ?_ | refine and_a ?_ | fail) <;> (conv => whnf))
      · exact ⟨_, Sub.refl _, by rw [h2, trimLf, List.dropWhile_cons, if_neg (by unfold digB; simp [h])]; rfl, rfl⟩
      · refine ⟨q, ?_, samea, ⟨by simp only [List.length_cons] at h1; omega, by first | rfl | trivial, ?_⟩, by simp⟩
        · exact cons_eq (by show AV.str (List.drop (1 : Int).toNat (List.take (c :: q).length (c :: q))) = _; rw [List.take_length]; rfl) rfl
        · rw [h2, trimLf, List.dropWhile_cons, if_pos (by unfold digB; exact h)]; rfl
theorem trimRight_ok {s : Sto} {b : Nat} (hb : s.bx b = some (204, tabB 10)) (l : List UInt8) (hl : l.length ≤ 1048576) :
    ACalls Tryz.prog Γ 134 [.str l, .ptr (some ⟨b, 0, none⟩)] s fun v s' => v = .str (trimRf l) ∧ s' = s := by
  refine ACalls.of_awp Tryz.func134 rfl (Nat.le_of_ble_eq_true (by kernel_rfl)) (awp_ok _ (by kernel_rfl) ?_)
  conv => whnf
  repeat' ((first | refine ⟨Sub.refl _, ?_⟩ | (refine brA_split (fun h => ?_) (fun h => ?_) <;> (try rw [h]) <;> (try simp only [bS, ↓reduceIte] at h)) | refine getB_same ?_ | refine AWp.anyA ?_ | refine and_a ?_ | fail) <;> (conv => whnf))
  refine AWp.loopA [0] [5, 6, 7, 8, 9, 10, 11, 12, 13, 14, 15, 16, 17, 18, 19, 20] (fun k : Nat => [.str (l.take k)]) (fun k s' => k ≤ l.length ∧ s' = s ∧ trimRf l = trimRf (l.take k)) (fun k => k) (l.length) (by kernel_rfl) (cons_eq (by rw [List.take_length]; rfl) rfl) ?_ ?_
  · exact ⟨Nat.le_refl _, rfl, by rw [List.take_length]⟩
  · rintro x k s1 ⟨h1, rfl, h2⟩
    show awp _ _ _ _ _ (updL _ _ [.str (l.take k)]) _
    conv => whnf
    have hlen : (l.take k).length = k := by rw [List.length_take]; omega
    cases k with
    | zero =>
      repeat' ((first | (exfalso; first | omega | exact (by assumption : ¬ True) trivial | fail) | refine ⟨Sub.refl _, ?_⟩ | (refine brA_split (fun h => ?_) (fun h => ?_) <;> (try rw [h]) <;> (try simp only [bS, ↓reduceIte] at h)) | refine getB_same ?_ | refine AWp.anyA ?_ | refine and_a ?_ | fail) <;> (conv => whnf))
      exact ⟨_, Sub.refl _, by rw [h2]; rfl, rfl⟩
    | succ k =>
      have ht : l.take (k + 1) = l.take k ++ [byteAt l k] := take_byte (by omega)
      have hw : IntKind.i64.wrap (((l.take (k + 1)).length : Int) - 1) = (k : Int) := i64_of (by omega) (by omega) (by omega)
      have hz : byteAt (l.take (k + 1)) ((k : Int)).toNat = byteAt l k := by
        rw [Int.toNat_natCast, ht]
        have := byteAt_drop (l.take k ++ [byteAt l k]) (l.take k).length 0
        rw [List.drop_left, Nat.add_zero, List.length_take, Nat.min_eq_left (by omega)] at this
        exact this.symm
      repeat' ((first | (exfalso; first | omega | exact (by assumption : ¬ True) trivial | fail) | refine ⟨Sub.refl _, ?_⟩ | (refine brA_split (fun h => ?_) (fun h => ?_) <;> (try rw [h]) <;> (try simp only [bS, ↓reduceIte] at h)) | (rw [hw]) | (rw [hz]) | (refine ACalls.by (contains_ok hb (byteAt l k)) ?_; rintro _ _ ⟨rfl, rfl⟩) | refine getB_same ?_ | refine AWp.anyA ?_ | refine and_a ?_ | fail) <;> (conv => whnf))
      · exact ⟨_, Sub.refl _, by rw [h2, ht, trimRf_app, if_neg (by unfold digB; simp [h]), ← ht]; rfl, rfl⟩
      · refine ⟨k, ?_, samea, ⟨by omega, by first | rfl | trivial, ?_⟩, by omega⟩
        · exact cons_eq (by show AV.str (List.drop 0 (List.take ((k : Int)).toNat (l.take (k + 1)))) = _; rw [Int.toNat_natCast, List.drop_zero, List.take_take, Nat.min_eq_left (by omega)]) rfl
        · rw [h2, ht, trimRf_app, if_pos (by unfold digB; exact h)]
theorem dw_nil {p : UInt8 → Bool} : ∀ l : List UInt8, l.dropWhile p = [] ↔ l.all p = true
  | [] => by simp
  | c :: r => by
    rw [List.dropWhile_cons, List.all_cons]
    by_cases h : p c = true
    · rw [if_pos h, dw_nil r, h, Bool.true_and]
    · rw [if_neg h]
      simp [h]
theorem dw_head {p : UInt8 → Bool} {x : UInt8} {r : List UInt8} : ∀ l : List UInt8, l.dropWhile p = x :: r → p x = false
  | [] => by simp
  | c :: q => by
    rw [List.dropWhile_cons]
    by_cases h : p c = true
    · rw [if_pos h]; exact dw_head q
    · rw [if_neg h]
      intro he
      injection he with he _
      rw [← he]; simpa using h
/-- Of a text something is left just if it is not all digits. -/
theorem trim_nil (l : List UInt8) : trimLf (trimRf l) = [] ↔ l.all digB = true := by
  have hr : ∀ m : List UInt8, m.reverse.all digB = m.all digB := fun m => List.all_reverse
  constructor
  · intro h
    have h1 := (dw_nil _).1 h
    rw [← hr, ← dw_nil]
    unfold trimRf at h1
    rw [hr] at h1
    rcases hd : l.reverse.dropWhile digB with _ | ⟨x, r⟩
    · rfl
    · have h2 := dw_head _ hd
      rw [hd, List.all_cons, h2] at h1
      cases h1
  · intro h
    rw [← hr, ← dw_nil] at h
    unfold trimRf
    rw [h]; rfl
theorem tab_atom : (tabB 10).all atomA = true := by
  unfold tabB
  rw [List.all_map, List.all_eq_true]
  exact fun _ _ => rfl
theorem trim_ok (l : List UInt8) (hl : l.length ≤ 1048576) : APure Tryz.prog Γ 111 [.str l, .str digitsB] fun v => v = .str (trimLf (trimRf l)) := by
  have hr := trimRf_len l
  refine APure.of_awp Tryz.func111 rfl (Nat.le_of_ble_eq_true (by kernel_rfl)) (by kernel_rfl) ?_
  intro s
  conv => whnf
  repeat' ((first | (exfalso; first | omega | exact (by assumption : ¬ True) trivial | fail) | refine ⟨Sub.refl _, ?_⟩ | (refine brA_split (fun h => ?_) (fun h => ?_) <;> (try rw [h]) <;> (try simp only [bS, ↓reduceIte] at h)) | (refine ACalls.pure' ?_ (makeSet_ok); rintro _ rfl) | refine DCall.pure ?_ (makeSet_ok) | refine getB_same ?_ | refine AWp.anyA ?_ | refine and_a ?_ | fail) <;> (conv => whnf))
  · rw [h]; rfl
  · intro b hb
    conv => whnf
    refine getB_of set_bx_same ?_
    conv => whnf
    refine ⟨tab_len 10, tab_atom, Nat.le_of_ble_eq_true (by kernel_rfl), frcL_at (cs' := tabB 10) (List.append_nil _) ?_⟩
    conv => whnf
    repeat' ((first | (exfalso; first | omega | exact (by assumption : ¬ True) trivial | fail) | refine ⟨Sub.refl _, ?_⟩ | (refine brA_split (fun h => ?_) (fun h => ?_) <;> (try rw [h]) <;> (try simp only [bS, ↓reduceIte] at h)) | refine getB_a ?_ | (refine ACalls.by (trimRight_ok set_bx_same l hl) ?_; rintro _ _ ⟨rfl, rfl⟩) | (refine ACalls.by (trimLeft_ok set_bx_same (trimRf l) (by omega)) ?_; rintro _ _ ⟨rfl, rfl⟩) | refine getB_same ?_ | refine AWp.anyA ?_ | refine and_a ?_ | fail) <;> (conv => whnf))
    exact ⟨((Sub.refl _).set hb _ _).set hb _ _, rfl⟩
/-- What is wrong with a text of letters that begins with a digit; 0: nothing. -/
def numE (l : List UInt8) : Int := if l.all digB = false ∨ (byteAt l 0 = 48 ∧ 1 < l.length) then 4 else if 32 < l.length then 3 else 0
def tokC (k : Int) (t : List UInt8) : AV := .agg [.int .i64 k, .str t, .int .i64 0, .int .i64 0]
def oddA (e : Int) : AV := .iface 110 (.agg [.int .i64 e])
def numA (l : List UInt8) : AV := if numE l = 0 then .tuple [tokC 3 l, .nilIface] else .tuple [tokC 0 [], oddA (numE l)]
theorem b48 {b : UInt8} : (b.toNat : Int) = 48 ↔ b = 48 := byte_lit (n := 48) (by decide)
theorem numA_bad {l : List UInt8} {e : Int} (h : numE l = e) (he : e ≠ 0) : numA l = .tuple [tokC 0 [], oddA e] := by rw [numA, if_neg (by rw [h]; exact he), h]
theorem numA_good {l : List UInt8} (h : numE l = 0) : numA l = .tuple [tokC 3 l, .nilIface] := by rw [numA, if_pos h]
theorem number_ok (l : List UInt8) (h0 : 0 < l.length) (hl : l.length ≤ 1048576) : APure Tryz.prog Γ 94 [.str l] fun v => v = numA l := by
  have htr := trim_ok (Γ := Γ) l hl
  have hnil := trim_nil l
  generalize trimLf (trimRf l) = T at htr hnil
  have h48 := b48 (b := byteAt l 0)
  have hz : byteAt l (0 : Int).toNat = byteAt l 0 := rfl
  have fine : T = [] → ¬ (byteAt l 0 = 48 ∧ 1 < l.length) → ¬ (l.all digB = false ∨ (byteAt l 0 = 48 ∧ 1 < l.length)) := fun hT hn hh => hh.elim (fun ha => by rw [hnil.1 hT] at ha; cases ha) hn
  refine APure.of_awp Tryz.func94 rfl (Nat.le_of_ble_eq_true (by kernel_rfl)) (by kernel_rfl) ?_
  intro s
  conv => whnf
  intro b hb
  conv => whnf
  repeat' ((first | (exfalso; first | omega | exact (by assumption : ¬ True) trivial | fail) | refine ⟨Sub.refl _, ?_⟩ | (refine brA_split (fun h => ?_) (fun h => ?_) <;> (try rw [h]) <;> (try simp only [bS, ↓reduceIte] at h)) | refine getB_a ?_ | (refine ACalls.pure' ?_ (htr); rintro _ rfl) | refine DCall.pure ?_ (htr) | (rw [hz]) | refine getB_same ?_ | refine AWp.anyA ?_ | refine and_a ?_ | fail) <;> (conv => whnf))
  all_goals refine ⟨((Sub.refl _).set hb _ _).set hb _ _, ?_⟩
  · rw [numA_bad (e := 4) (if_pos (.inl (by simpa using mt hnil.2 h))) (by decide)]
    rfl
  · rw [numA_bad (e := 4) (if_pos (.inr ⟨h48.1 (by assumption), by omega⟩)) (by decide)]
    rfl
  · rw [numA_good (by rw [numE, if_neg (fine (by assumption) (by omega)), if_neg (by omega)])]
    rfl
  · rw [numA_bad (e := 3) (by rw [numE, if_neg (fine (by assumption) (fun hh => by have := h48.2 hh.1; omega)), if_pos (by omega)]) (by decide)]
    rfl
  · rw [numA_good (by rw [numE, if_neg (fine (by assumption) (fun hh => by have := h48.2 hh.1; omega)), if_neg (by omega)])]
    rfl
/-- The token of a text of letters; or what is wrong with it. -/
def lettersF (l : List UInt8) : Except Int (Int × List UInt8) :=
  if digB (byteAt l 0) = true then (if numE l = 0 then .ok (3, l) else .error (numE l)) else if 32 < l.length then .error 3 else if isWord l = true then .ok (2, l) else .ok (1, l)
def resA : Except Int (Int × List UInt8) → AV
  | .ok (k, t) => .tuple [tokC k t, .nilIface]
  | .error e => .tuple [tokC 0 [], oddA e]
theorem letters_ok (hT : Wds Γ) (l : List UInt8) (h0 : 0 < l.length) (hl : l.length ≤ 1048576) : APure Tryz.prog Γ 72 [.str l] fun v => v = resA (lettersF l) := by
  have hw := progWord_any hT l
  have hn := number_ok (Γ := Γ) l h0 hl
  have hz : byteAt l (0 : Int).toNat = byteAt l 0 := rfl
  have hd : digB (byteAt l 0) = true ↔ (48 : Int) ≤ (byteAt l 0).toNat ∧ ((byteAt l 0).toNat : Int) ≤ 57 := by unfold digB digitc; simp
  by_cases hE : numE l = 0
  · rw [numA_good hE] at hn
    unfold tokC at hn
    refine APure.of_awp Tryz.func72 rfl (Nat.le_of_ble_eq_true (by kernel_rfl)) (by kernel_rfl) ?_
    intro s
    conv => whnf
    intro b hb
    conv => whnf
    repeat' ((first | (exfalso; first | omega | exact (by assumption : ¬ True) trivial | fail) | refine ⟨Sub.refl _, ?_⟩ | (refine brA_split (fun h => ?_) (fun h => ?_) <;> (try rw [h]) <;> (try simp only [bS, ↓reduceIte] at h)) | refine getB_a ?_ | (refine ACalls.pure' ?_ (hn); rintro _ rfl) | refine DCall.pure ?_ (hn) | (refine ACalls.pure' ?_ (hw); rintro _ rfl) | refine DCall.pure ?_ (hw) | (rw [hz]) | refine getB_same ?_ | refine AWp.anyA ?_ | refine and_a ?_ | fail) <;> (conv => whnf))
    all_goals refine ⟨((Sub.refl _).set hb _ _).set hb _ _, ?_⟩
    · rw [lettersF, if_pos (hd.2 ⟨by omega, by omega⟩), if_pos hE]
      rfl
    · rw [lettersF, if_neg (fun hh => by have := hd.1 hh; omega), if_pos (by omega)]
      rfl
    · rw [lettersF, if_neg (fun hh => by have := hd.1 hh; omega), if_neg (by omega), if_pos (by assumption)]
      rfl
    · rw [lettersF, if_neg (fun hh => by have := hd.1 hh; omega), if_neg (by omega), if_neg (by simp_all)]
      rfl
    · rw [lettersF, if_neg (fun hh => by have := hd.1 hh; omega), if_pos (by omega)]
      rfl
    · rw [lettersF, if_neg (fun hh => by have := hd.1 hh; omega), if_neg (by omega), if_pos (by assumption)]
      rfl
    · rw [lettersF, if_neg (fun hh => by have := hd.1 hh; omega), if_neg (by omega), if_neg (by simp_all)]
      rfl
  · rw [numA_bad rfl hE] at hn
    unfold tokC oddA at hn
    refine APure.of_awp Tryz.func72 rfl (Nat.le_of_ble_eq_true (by kernel_rfl)) (by kernel_rfl) ?_
    intro s
    conv => whnf
    intro b hb
    conv => whnf
    repeat' ((first | (exfalso; first | omega | exact (by assumption : ¬ True) trivial | fail) | refine ⟨Sub.refl _, ?_⟩ | (refine brA_split (fun h => ?_) (fun h => ?_) <;> (try rw [h]) <;> (try simp only [bS, ↓reduceIte] at h)) | refine getB_a ?_ | (refine ACalls.pure' ?_ (hn); rintro _ rfl) | refine DCall.pure ?_ (hn) | (refine ACalls.pure' ?_ (hw); rintro _ rfl) | refine DCall.pure ?_ (hw) | (rw [hz]) | refine getB_same ?_ | refine AWp.anyA ?_ | refine and_a ?_ | fail) <;> (conv => whnf))
    all_goals refine ⟨((Sub.refl _).set hb _ _).set hb _ _, ?_⟩
    · rw [lettersF, if_pos (hd.2 ⟨by omega, by omega⟩), if_neg hE]
      rfl
    · rw [lettersF, if_neg (fun hh => by have := hd.1 hh; omega), if_pos (by omega)]
      rfl
    · rw [lettersF, if_neg (fun hh => by have := hd.1 hh; omega), if_neg (by omega), if_pos (by assumption)]
      rfl
    · rw [lettersF, if_neg (fun hh => by have := hd.1 hh; omega), if_neg (by omega), if_neg (by simp_all)]
      rfl
    · rw [lettersF, if_neg (fun hh => by have := hd.1 hh; omega), if_pos (by omega)]
      rfl
    · rw [lettersF, if_neg (fun hh => by have := hd.1 hh; omega), if_neg (by omega), if_pos (by assumption)]
      rfl
    · rw [lettersF, if_neg (fun hh => by have := hd.1 hh; omega), if_neg (by omega), if_neg (by simp_all)]
      rfl
/-- How many letters a text begins with. -/
def letN : List UInt8 → Nat
  | [] => 0
  | c :: r => if wordc c.toNat = true then letN r + 1 else 0
theorem letN_le : ∀ l : List UInt8, letN l ≤ l.length
  | [] => Nat.le_refl _
  | c :: r => by
    have := letN_le r
    unfold letN
    split
    · simp only [List.length_cons]; omega
    · omega
theorem letN_at {l : List UInt8} {i : Nat} (h : i < l.length) : letN (l.drop i) = if wordc (byteAt l i).toNat = true then letN (l.drop (i + 1)) + 1 else 0 := by rw [drop_byte h, letN]
/-- The token that a text begins with, and of how many bytes; or what is wrong with it. -/
def firstF (l : List UInt8) : Except Int (Int × List UInt8 × Nat) :=
  if byteAt l 0 = 34 then (match Qu.cut l with
    | none => .error 17
    | some (t, k) => if 4096 < t.length then .error 3 else .ok (4, t, k))
  else if letN l = 0 then (if signOf l = [] then .error 15 else .ok (5, signOf l, (signOf l).length))
  else match lettersF (l.take (letN l)) with
    | .error e => .error e
    | .ok (k, t) => .ok (k, t, letN l)
def firstA (l : List UInt8) : AV :=
  match firstF l with
  | .ok (k, t, n) => .tuple [tokC k t, .int .i64 n, .nilIface]
  | .error e => .tuple [tokC 0 [], .int .i64 (if byteAt l 0 = 34 then 0 else letN l : Nat), oddA e]
theorem quoted_ok (hQ : Qu.Tabs Γ) (l : List UInt8) (hl : l.length ≤ 1048576) (h34 : byteAt l 0 = 34) : APure Tryz.prog Γ 70 [.str l] fun v => v = firstA l := by
  rcases hc : Qu.cut l with _ | ⟨t, k⟩
  · have hq := Qu.progCut_none hQ l hl hc
    have hf : firstA l = .tuple [tokC 0 [], .int .i64 0, oddA 17] := by unfold firstA firstF; rw [if_pos h34, hc]; simp only [if_pos h34]; rfl
    rw [hf]
    refine APure.of_awp Tryz.func70 rfl (Nat.le_of_ble_eq_true (by kernel_rfl)) (by kernel_rfl) ?_
    intro s
    conv => whnf
    intro b hb
    conv => whnf
    repeat' ((first | (exfalso; first | omega | exact (by assumption : ¬ True) trivial | fail) | refine ⟨Sub.refl _, ?_⟩ | (refine brA_split (fun h => ?_) (fun h => ?_) <;> (try rw [h]) <;> (try simp only [bS, ↓reduceIte] at h)) | refine getB_a ?_ | (refine ACalls.pure' ?_ (hq); rintro _ rfl) | refine DCall.pure ?_ (hq) | refine getB_same ?_ | refine AWp.anyA ?_ | refine and_a ?_ | fail) <;> (conv => whnf))
    exact ⟨((Sub.refl _).set hb _ _).set hb _ _, rfl⟩
  · have hq := Qu.progCut_some hQ l hl hc
    by_cases ht : 4096 < t.length
    · have hf : firstA l = .tuple [tokC 0 [], .int .i64 0, oddA 3] := by unfold firstA firstF; rw [if_pos h34, hc]; simp only [if_pos ht, if_pos h34]; rfl
      rw [hf]
      refine APure.of_awp Tryz.func70 rfl (Nat.le_of_ble_eq_true (by kernel_rfl)) (by kernel_rfl) ?_
      intro s
      conv => whnf
      intro b hb
      conv => whnf
      repeat' ((first | (exfalso; first | omega | exact (by assumption : ¬ True) trivial | fail) | refine ⟨Sub.refl _, ?_⟩ | (refine brA_split (fun h => ?_) (fun h => ?_) <;> (try rw [h]) <;> (try simp only [bS, ↓reduceIte] at h)) | refine getB_a ?_ | (refine ACalls.pure' ?_ (hq); rintro _ rfl) | refine DCall.pure ?_ (hq) | refine getB_same ?_ | refine AWp.anyA ?_ | refine and_a ?_ | fail) <;> (conv => whnf))
      exact ⟨((Sub.refl _).set hb _ _).set hb _ _, rfl⟩
    · have hf : firstA l = .tuple [tokC 4 t, .int .i64 k, .nilIface] := by unfold firstA firstF; rw [if_pos h34, hc]; simp only [if_neg ht]
      rw [hf]
      refine APure.of_awp Tryz.func70 rfl (Nat.le_of_ble_eq_true (by kernel_rfl)) (by kernel_rfl) ?_
      intro s
      conv => whnf
      intro b hb
      conv => whnf
      repeat' ((first | (exfalso; first | omega | exact (by assumption : ¬ True) trivial | fail) | refine ⟨Sub.refl _, ?_⟩ | (refine brA_split (fun h => ?_) (fun h => ?_) <;> (try rw [h]) <;> (try simp only [bS, ↓reduceIte] at h)) | refine getB_a ?_ | (refine ACalls.pure' ?_ (hq); rintro _ rfl) | refine DCall.pure ?_ (hq) | refine getB_same ?_ | refine AWp.anyA ?_ | refine and_a ?_ | fail) <;> (conv => whnf))
      exact ⟨((Sub.refl _).set hb _ _).set hb _ _, rfl⟩
end Go.Proofs.YtdhgappjicpglaaGreatDoor.Lx
namespace Go.Proofs.YtdhgappjicpglaaGreatDoor.Lx
open Go Go.Ab Go.RowKit Go.Proofs.YtdhgappjicpglaaGreatDoor.Sc
variable {Γ : Nat → AV}
attribute [local irreducible] APure Sto.set Sto.grow
set_option maxRecDepth 10000
set_option maxHeartbeats 1000000
theorem firstA_sign0 {l : List UInt8} (h : byteAt l 0 ≠ 34) (h0 : letN l = 0) (hg : signOf l = []) : firstA l = .tuple [tokC 0 [], .int .i64 0, oddA 15] := by
  unfold firstA firstF
  rw [if_neg h, if_pos h0, if_pos hg]
  simp only [if_neg h, h0]
  rfl
theorem firstA_sign {l : List UInt8} (h : byteAt l 0 ≠ 34) (h0 : letN l = 0) (hg : signOf l ≠ []) : firstA l = .tuple [tokC 5 (signOf l), .int .i64 (signOf l).length, .nilIface] := by
  unfold firstA firstF
  rw [if_neg h, if_pos h0, if_neg hg]
theorem firstA_bad {l : List UInt8} {e : Int} (h : byteAt l 0 ≠ 34) (h0 : letN l ≠ 0) (he : lettersF (l.take (letN l)) = .error e) : firstA l = .tuple [tokC 0 [], .int .i64 (letN l), oddA e] := by
  unfold firstA firstF
  rw [if_neg h, if_neg h0, he]
  simp only [if_neg h]
theorem firstA_good {l : List UInt8} {k : Int} {t : List UInt8} (h : byteAt l 0 ≠ 34) (h0 : letN l ≠ 0) (he : lettersF (l.take (letN l)) = .ok (k, t)) : firstA l = .tuple [tokC k t, .int .i64 (letN l), .nilIface] := by
  unfold firstA firstF
  rw [if_neg h, if_neg h0, he]
theorem firstA_eq (l : List UInt8) : (∃ k t n, firstA l = .tuple [tokC k t, .int .i64 n, .nilIface]) ∨ ∃ n e, firstA l = .tuple [tokC 0 [], .int .i64 n, oddA e] := by
  unfold firstA
  rcases firstF l with e | ⟨k, t, n⟩
  · exact .inr ⟨_, _, rfl⟩
  · exact .inl ⟨_, _, _, rfl⟩
theorem first_ok (hQ : Qu.Tabs Γ) (hT : Wds Γ) (l : List UInt8) (h0 : 0 < l.length) (hl : l.length ≤ 1048576) : APure Tryz.prog Γ 46 [.str l] fun v => v = firstA l := by
  have hz : byteAt l (0 : Int).toNat = byteAt l 0 := rfl
  have h34 := b34 (b := byteAt l 0)
  by_cases hq : byteAt l 0 = 34
  · have hq' := h34.2 hq
    have hqq := quoted_ok hQ l hl hq
    rcases firstA_eq l with ⟨k, t, n, he⟩ | ⟨n, e, he⟩
    · rw [he] at hqq ⊢
      unfold tokC at hqq
      refine APure.of_awp Tryz.func46 rfl (Nat.le_of_ble_eq_true (by kernel_rfl)) (by kernel_rfl) ?_
      intro s
      conv => whnf
      intro b hb
      conv => whnf
      repeat' ((first | (exfalso; first | omega | exact (by assumption : ¬ True) trivial | fail) | refine ⟨Sub.refl _, ?_⟩ | (refine brA_split (fun h => ?_) (fun h => ?_) <;> (try rw [h]) <;> (try simp only [bS, ↓reduceIte] at h)) | refine getB_a ?_ | (refine ACalls.pure' ?_ (hqq); rintro _ rfl) | refine DCall.pure ?_ (hqq) | (rw [hz]) | refine getB_same ?_ | refine AWp.anyA ?_ | refine and_a ?_ | fail) <;> (conv => whnf))
      · exact ⟨((Sub.refl _).set hb _ _).set hb _ _, rfl⟩
    · rw [he] at hqq ⊢
      unfold tokC oddA at hqq
      refine APure.of_awp Tryz.func46 rfl (Nat.le_of_ble_eq_true (by kernel_rfl)) (by kernel_rfl) ?_
      intro s
      conv => whnf
      intro b hb
      conv => whnf
      repeat' ((first | (exfalso; first | omega | exact (by assumption : ¬ True) trivial | fail) | refine ⟨Sub.refl _, ?_⟩ | (refine brA_split (fun h => ?_) (fun h => ?_) <;> (try rw [h]) <;> (try simp only [bS, ↓reduceIte] at h)) | refine getB_a ?_ | (refine ACalls.pure' ?_ (hqq); rintro _ rfl) | refine DCall.pure ?_ (hqq) | (rw [hz]) | refine getB_same ?_ | refine AWp.anyA ?_ | refine and_a ?_ | fail) <;> (conv => whnf))
      · exact ⟨((Sub.refl _).set hb _ _).set hb _ _, rfl⟩
  · have hq' : ¬ ((byteAt l 0).toNat : Int) = 34 := fun h => hq (h34.1 h)
    have hs := progSign_ok (Γ := Γ) l
    have hlt := letN_le l
    refine APure.of_awp Tryz.func46 rfl (Nat.le_of_ble_eq_true (by kernel_rfl)) (by kernel_rfl) ?_
    intro s
    conv => whnf
    intro b hb
    conv => whnf
    repeat' ((first | (exfalso; first | omega | exact (by assumption : ¬ True) trivial | fail) | refine ⟨Sub.refl _, ?_⟩ | (refine brA_split (fun h => ?_) (fun h => ?_) <;> (try rw [h]) <;> (try simp only [bS, ↓reduceIte] at h)) | refine getB_a ?_ | (rw [hz]) | refine getB_same ?_ | refine AWp.anyA ?_ | refine and_a ?_ | fail) <;> (conv => whnf))
    refine AWp.loopA [5] [17, 18, 19, 20, 21, 22, 23, 24, 25, 26, 27, 28] (fun i : Nat => [.int .i64 i]) (fun i s' => i ≤ l.length ∧ s' = s.set b 94 [.int .i64 0, .str [], .int .i64 0, .int .i64 0] ∧ letN l = i + letN (l.drop i)) (fun i => l.length - i) (0) (by kernel_rfl) (eqa) ?_ ?_
    · exact ⟨by omega, rfl, by rw [List.drop_zero]; simp⟩
    · rintro x i _ ⟨i1, rfl, i2⟩
      show awp _ _ _ _ _ (updL _ _ [.int .i64 (i : Int)]) _
      conv => whnf
      have hA : List.drop 0 (List.take ((i : Int)).toNat l) = l.take i := by rw [Int.toNat_natCast, List.drop_zero]
      have hzi : byteAt l ((i : Int)).toNat = byteAt l i := rfl
      by_cases hlt : i < l.length
      · have hat := letN_at hlt
        have hpl := progLetter_ok (Γ := Γ) ((byteAt l i).toNat : Int)
        by_cases hw : wordc (byteAt l i).toNat = true
        · rw [if_pos hw] at hat
          rw [hw] at hpl
          repeat' ((first | (exfalso; first | omega | exact (by assumption : ¬ True) trivial | fail) | refine ⟨Sub.refl _, ?_⟩ | (refine brA_split (fun h => ?_) (fun h => ?_) <;> (try rw [h]) <;> (try simp only [bS, ↓reduceIte] at h)) | (rw [hzi]) | (refine ACalls.pure' ?_ (hpl); rintro _ rfl) | refine DCall.pure ?_ (hpl) | refine getB_same ?_ | refine AWp.anyA ?_ | refine and_a ?_ | fail) <;> (conv => whnf))
          refine ⟨i + 1, eqa, samea, ⟨by omega, by first | rfl | trivial, by omega⟩, by omega⟩
        · rw [if_neg hw] at hat
          rw [Bool.eq_false_iff.2 hw] at hpl
          have hN : letN l = i := by omega
          by_cases hi0 : i = 0
          · subst hi0
            by_cases hg : signOf l = []
            · rw [firstA_sign0 hq hN hg]
              rw [hg] at hs
              repeat' ((first | (exfalso; first | omega | exact (by assumption : ¬ True) trivial | fail) | refine ⟨Sub.refl _, ?_⟩ | (refine brA_split (fun h => ?_) (fun h => ?_) <;> (try rw [h]) <;> (try simp only [bS, ↓reduceIte] at h)) | (rw [hzi]) | (refine ACalls.pure' ?_ (hpl); rintro _ rfl) | refine DCall.pure ?_ (hpl) | (refine ACalls.pure' ?_ (hs); rintro _ rfl) | refine DCall.pure ?_ (hs) | refine getB_a ?_ | refine getB_same ?_ | refine AWp.anyA ?_ | refine and_a ?_ | fail) <;> (conv => whnf))
              all_goals (first | exact ⟨((Sub.refl _).set hb _ _).set hb _ _, rfl⟩ | exact absurd (by assumption) hg)
            · rw [firstA_sign hq hN hg]
              repeat' ((first | (exfalso; first | omega | exact (by assumption : ¬ True) trivial | fail) | refine ⟨Sub.refl _, ?_⟩ | (refine brA_split (fun h => ?_) (fun h => ?_) <;> (try rw [h]) <;> (try simp only [bS, ↓reduceIte] at h)) | (rw [hzi]) | (refine ACalls.pure' ?_ (hpl); rintro _ rfl) | refine DCall.pure ?_ (hpl) | (refine ACalls.pure' ?_ (hs); rintro _ rfl) | refine DCall.pure ?_ (hs) | refine getB_a ?_ | refine getB_same ?_ | refine AWp.anyA ?_ | refine and_a ?_ | fail) <;> (conv => whnf))
              all_goals (first | exact ⟨((Sub.refl _).set hb _ _).set hb _ _, rfl⟩ | exact absurd (by assumption) hg)
          · have hle := letters_ok hT (l.take i) (by rw [List.length_take]; omega) (by rw [List.length_take]; omega)
            have hN0 : letN l ≠ 0 := by omega
            rcases hL : lettersF (l.take i) with e | ⟨k, t⟩
            · rw [firstA_bad hq hN0 (by rw [hN]; exact hL), hN]
              rw [hL] at hle
              simp only [resA, tokC, oddA] at hle
              repeat' ((first | (exfalso; first | omega | exact (by assumption : ¬ True) trivial | fail) | refine ⟨Sub.refl _, ?_⟩ | (refine brA_split (fun h => ?_) (fun h => ?_) <;> (try rw [h]) <;> (try simp only [bS, ↓reduceIte] at h)) | (rw [hzi]) | (refine ACalls.pure' ?_ (hpl); rintro _ rfl) | refine DCall.pure ?_ (hpl) | (rw [hA]) | (refine ACalls.pure' ?_ (hle); rintro _ rfl) | refine DCall.pure ?_ (hle) | refine getB_same ?_ | refine AWp.anyA ?_ | refine and_a ?_ | fail) <;> (conv => whnf))
              intro b2 hb2
              have n_b_b2 : b ≠ b2 := ne_of_none bxa hb2
              have n_b2_b := n_b_b2.symm
              conv => whnf
              repeat' ((first | (exfalso; first | omega | exact (by assumption : ¬ True) trivial | fail) | refine ⟨Sub.refl _, ?_⟩ | (refine brA_split (fun h => ?_) (fun h => ?_) <;> (try rw [h]) <;> (try simp only [bS, ↓reduceIte] at h)) | refine getB_a ?_ | refine getB_same ?_ | refine AWp.anyA ?_ | refine and_a ?_ | fail) <;> (conv => whnf))
              exact ⟨((((Sub.refl _).set hb _ _).set (none_set hb2).2 _ _).set (none_set hb2).2 _ _).set hb _ _, rfl⟩
            · rw [firstA_good hq hN0 (by rw [hN]; exact hL), hN]
              rw [hL] at hle
              simp only [resA, tokC] at hle
              repeat' ((first | (exfalso; first | omega | exact (by assumption : ¬ True) trivial | fail) | refine ⟨Sub.refl _, ?_⟩ | (refine brA_split (fun h => ?_) (fun h => ?_) <;> (try rw [h]) <;> (try simp only [bS, ↓reduceIte] at h)) | (rw [hzi]) | (refine ACalls.pure' ?_ (hpl); rintro _ rfl) | refine DCall.pure ?_ (hpl) | (rw [hA]) | (refine ACalls.pure' ?_ (hle); rintro _ rfl) | refine DCall.pure ?_ (hle) | refine getB_same ?_ | refine AWp.anyA ?_ | refine and_a ?_ | fail) <;> (conv => whnf))
              intro b2 hb2
              have n_b_b2 : b ≠ b2 := ne_of_none bxa hb2
              have n_b2_b := n_b_b2.symm
              conv => whnf
              repeat' ((first | (exfalso; first | omega | exact (by assumption : ¬ True) trivial | fail) | refine ⟨Sub.refl _, ?_⟩ | (refine brA_split (fun h => ?_) (fun h => ?_) <;> (try rw [h]) <;> (try simp only [bS, ↓reduceIte] at h)) | refine getB_a ?_ | refine getB_same ?_ | refine AWp.anyA ?_ | refine and_a ?_ | fail) <;> (conv => whnf))
              exact ⟨((((Sub.refl _).set hb _ _).set (none_set hb2).2 _ _).set (none_set hb2).2 _ _).set hb _ _, rfl⟩
      · have hN : letN l = i := by rw [drop_end hlt] at i2; exact i2
        by_cases hi0 : i = 0
        · subst hi0
          by_cases hg : signOf l = []
          · rw [firstA_sign0 hq hN hg]
            rw [hg] at hs
            repeat' ((first | (exfalso; first | omega | exact (by assumption : ¬ True) trivial | fail) | refine ⟨Sub.refl _, ?_⟩ | (refine brA_split (fun h => ?_) (fun h => ?_) <;> (try rw [h]) <;> (try simp only [bS, ↓reduceIte] at h)) | (rw [hzi]) | (refine ACalls.pure' ?_ (hs); rintro _ rfl) | refine DCall.pure ?_ (hs) | (refine ACalls.pure' ?_ (hs); rintro _ rfl) | refine DCall.pure ?_ (hs) | refine getB_a ?_ | refine getB_same ?_ | refine AWp.anyA ?_ | refine and_a ?_ | fail) <;> (conv => whnf))
            all_goals (first | exact ⟨((Sub.refl _).set hb _ _).set hb _ _, rfl⟩ | exact absurd (by assumption) hg)
          · rw [firstA_sign hq hN hg]
            repeat' ((first | (exfalso; first | omega | exact (by assumption : ¬ True) trivial | fail) | refine ⟨Sub.refl _, ?_⟩ | (refine brA_split (fun h => ?_) (fun h => ?_) <;> (try rw [h]) <;> (try simp only [bS, ↓reduceIte] at h)) | (rw [hzi]) | (refine ACalls.pure' ?_ (hs); rintro _ rfl) | refine DCall.pure ?_ (hs) | (refine ACalls.pure' ?_ (hs); rintro _ rfl) | refine DCall.pure ?_ (hs) | refine getB_a ?_ | refine getB_same ?_ | refine AWp.anyA ?_ | refine and_a ?_ | fail) <;> (conv => whnf))
            all_goals (first | exact ⟨((Sub.refl _).set hb _ _).set hb _ _, rfl⟩ | exact absurd (by assumption) hg)
        · have hle := letters_ok hT (l.take i) (by rw [List.length_take]; omega) (by rw [List.length_take]; omega)
          have hN0 : letN l ≠ 0 := by omega
          rcases hL : lettersF (l.take i) with e | ⟨k, t⟩
          · rw [firstA_bad hq hN0 (by rw [hN]; exact hL), hN]
            rw [hL] at hle
            simp only [resA, tokC, oddA] at hle
            repeat' ((first | (exfalso; first | omega | exact (by assumption : ¬ True) trivial | fail) | refine ⟨Sub.refl _, ?_⟩ | (refine brA_split (fun h => ?_) (fun h => ?_) <;> (try rw [h]) <;> (try simp only [bS, ↓reduceIte] at h)) | (rw [hzi]) | (refine ACalls.pure' ?_ (hs); rintro _ rfl) | refine DCall.pure ?_ (hs) | (rw [hA]) | (refine ACalls.pure' ?_ (hle); rintro _ rfl) | refine DCall.pure ?_ (hle) | refine getB_same ?_ | refine AWp.anyA ?_ | refine and_a ?_ | fail) <;> (conv => whnf))
            intro b2 hb2
            have n_b_b2 : b ≠ b2 := ne_of_none bxa hb2
            have n_b2_b := n_b_b2.symm
            conv => whnf
            repeat' ((first | (exfalso; first | omega | exact (by assumption : ¬ True) trivial | fail) | refine ⟨Sub.refl _, ?_⟩ | (refine brA_split (fun h => ?_) (fun h => ?_) <;> (try rw [h]) <;> (try simp only [bS, ↓reduceIte] at h)) | refine getB_a ?_ | refine getB_same ?_ | refine AWp.anyA ?_ | refine and_a ?_ | fail) <;> (conv => whnf))
            exact ⟨((((Sub.refl _).set hb _ _).set (none_set hb2).2 _ _).set (none_set hb2).2 _ _).set hb _ _, rfl⟩
          · rw [firstA_good hq hN0 (by rw [hN]; exact hL), hN]
            rw [hL] at hle
            simp only [resA, tokC] at hle
            repeat' ((first | (exfalso; first | omega | exact (by assumption : ¬ True) trivial | fail) | refine ⟨Sub.refl _, ?_⟩ | (refine brA_split (fun h => ?_) (fun h => ?_) <;> (try rw [h]) <;> (try simp only [bS, ↓reduceIte] at h)) | (rw [hzi]) | (refine ACalls.pure' ?_ (hs); rintro _ rfl) | refine DCall.pure ?_ (hs) | (rw [hA]) | (refine ACalls.pure' ?_ (hle); rintro _ rfl) | refine DCall.pure ?_ (hle) | refine getB_same ?_ | refine AWp.anyA ?_ | refine and_a ?_ | fail) <;> (conv => whnf))
            intro b2 hb2
            have n_b_b2 : b ≠ b2 := ne_of_none bxa hb2
            have n_b2_b := n_b_b2.symm
            conv => whnf
            repeat' ((first | (exfalso; first | omega | exact (by assumption : ¬ True) trivial | fail) | refine ⟨Sub.refl _, ?_⟩ | (refine brA_split (fun h => ?_) (fun h => ?_) <;> (try rw [h]) <;> (try simp only [bS, ↓reduceIte] at h)) | refine getB_a ?_ | refine getB_same ?_ | refine AWp.anyA ?_ | refine and_a ?_ | fail) <;> (conv => whnf))
            exact ⟨((((Sub.refl _).set hb _ _).set (none_set hb2).2 _ _).set (none_set hb2).2 _ _).set hb _ _, rfl⟩
theorem letN_all : ∀ l : List UInt8, (l.take (letN l)).all (fun c => wordc c.toNat) = true
  | [] => rfl
  | c :: r => by
    unfold letN
    split
    · rename_i h
      rw [List.take_succ_cons, List.all_cons, h, letN_all r]; rfl
    · rfl
end Go.Proofs.YtdhgappjicpglaaGreatDoor.Lx
namespace Go.Proofs.YtdhgappjicpglaaGreatDoor.AsO
open Go Go.RowKit Go.Extern.Stop Go.Stop Go.Extern
set_option maxRecDepth 10000
theorem valueOfPE (t : Addr) (w : World) : (ReflectliteValue.unpack (.iface 111 (.pointer (some t)))).run Tryz.prog w
    = .ok (.agg #[.pointer (some ⟨13, 111, none⟩), .pointer (some ⟨w.heap.size, 0, none⟩), .int .u64 150]) (w.alloc (.cells #[.pointer (some t)] 111)) := by kernel_rfl
theorem typePE (a : Addr) (w : World) : (ReflectliteValue.methodAny (ReflectliteValue.valueError "reflectlite.Value.Type" 0) (fun t _ _ _ => ReflectliteType.toType t) #[(.agg #[.pointer (some ⟨13, 111, none⟩), .pointer (some a), .int .u64 150])]).run Tryz.prog w
    = .ok (.iface 148 (.agg #[.pointer (some ⟨13, 111, none⟩)])) w := by kernel_rfl
theorem methodKind (h : Value) (w : World) : (Go.method 380 148 (.agg #[h]) "Kind").run Tryz.prog w = .ok (191, h) w := by kernel_rfl
theorem kindPE (w : World) : ((ReflectliteType.abiMethod fun t => (fun a : Nat => Value.int IntKind.u8 (a : Int)) <$> Rtype.kind t) #[.pointer (some ⟨13, 111, none⟩)]).run Tryz.prog w = .ok (.int .u8 22) w := by kernel_rfl
theorem kindE (w : World) : ((ReflectliteType.abiMethod fun t => (fun a : Nat => Value.int IntKind.u8 (a : Int)) <$> Rtype.kind t) #[.pointer (some ⟨13, 110, none⟩)]).run Tryz.prog w = .ok (.int .u8 25) w := by kernel_rfl
theorem rlm (z : Sem Value) (f : TypeId → Addr → Nat → Nat → Sem Value) (v : Value) :
    ReflectliteValue.method z f #[v] = (do match ← ReflectliteValue.parts v with | none => z | some (t, a, fl) => f t a fl (fl % 32)) := rfl
theorem partsPE (a : Addr) (w : World) : (ReflectliteValue.parts (.agg #[.pointer (some ⟨13, 111, none⟩), .pointer (some a), .int .u64 150])).run Tryz.prog w = .ok (some (111, a, 150)) w := by kernel_rfl
theorem isNilPE (a p : Addr) (W : World) (ha : W.cell? a = some (.pointer (some p))) :
    (ReflectliteValue.method (ReflectliteValue.valueError "reflectlite.Value.IsNil" 0) ReflectliteValue.isNil #[(.agg #[.pointer (some ⟨13, 111, none⟩), .pointer (some a), .int .u64 150])]).run Tryz.prog W = .ok (.bool false) W := by
  rw [rlm]
  simp only [Sem.run_bind, partsPE, Result.andThen]
  simp [ReflectliteValue.isNil, loadVar, isAgg, underlying, Tryz.underlying111, ha, Result.andThen]
theorem methodElem (h : Value) (w : World) : (Go.method 380 148 (.agg #[h]) "Elem").run Tryz.prog w = .ok (205, .agg #[h]) w := by kernel_rfl
theorem methodImplements (h : Value) (w : World) : (Go.method 380 148 (.agg #[h]) "Implements").run Tryz.prog w = .ok (206, .agg #[h]) w := by kernel_rfl
theorem methodAssignableTo (h : Value) (w : World) : (Go.method 380 148 (.agg #[h]) "AssignableTo").run Tryz.prog w = .ok (203, .agg #[h]) w := by kernel_rfl
theorem elemPE (w : World) : (ReflectliteType.method ReflectliteType.elem #[.agg #[.pointer (some ⟨13, 111, none⟩)]]).run Tryz.prog w = .ok (.iface 148 (.agg #[.pointer (some ⟨13, 110, none⟩)])) w := by kernel_rfl
theorem implementsE (w : World) : (ReflectliteType.relation "Implements" ReflectliteType.implements_ #[.agg #[.pointer (some ⟨13, 110, none⟩)], (.iface 148 (.agg #[.pointer (some ⟨13, 66, none⟩)]))]).run Tryz.prog w = .ok (.bool true) w := by kernel_rfl
theorem typeOfE (v : Value) (w : World) : (ReflectliteType.typeOf #[.iface 110 v]).run Tryz.prog w = .ok (.iface 148 (.agg #[.pointer (some ⟨13, 110, none⟩)])) w := by kernel_rfl
theorem assignableE (w : World) : (ReflectliteType.relation "AssignableTo" ReflectliteType.assignableTo #[.agg #[.pointer (some ⟨13, 110, none⟩)], (.iface 148 (.agg #[.pointer (some ⟨13, 110, none⟩)]))]).run Tryz.prog w = .ok (.bool true) w := by kernel_rfl
theorem valueOfE (x0 : Value) (w : World) : (ReflectliteValue.unpack (.iface 110 (.agg #[x0]))).run Tryz.prog w
    = .ok (.agg #[.pointer (some ⟨13, 110, none⟩), .pointer (some ⟨w.heap.size, 0, none⟩), .int .u64 153]) (w.alloc (.cells #[x0] 110)) := by kernel_rfl
theorem elemOfPE (w : World) : (Rtype.elem? 111).run Tryz.prog w = .ok (some 110) w := by kernel_rfl
theorem mkE (p : Addr) (w : World) : (ReflectliteValue.mk 110 p ReflectliteValue.flagAddr).run Tryz.prog w = .ok (.agg #[.pointer (some ⟨13, 110, none⟩), .pointer (some p), .int .u64 409]) w := by kernel_rfl
theorem elemVPE (a p : Addr) (W : World) (ha : W.cell? a = some (.pointer (some p))) :
    (ReflectliteValue.method (ReflectliteValue.valueError "reflectlite.Value.Elem" 0) ReflectliteValue.elem #[(.agg #[.pointer (some ⟨13, 111, none⟩), .pointer (some a), .int .u64 150])]).run Tryz.prog W
      = .ok (.agg #[.pointer (some ⟨13, 110, none⟩), .pointer (some p), .int .u64 409]) W := by
  rw [rlm]
  simp only [Sem.run_bind, partsPE, Result.andThen]
  simp [ReflectliteValue.elem, loadVar, isAgg, underlying, Tryz.underlying111, ha, Result.andThen, elemOfPE, mkE]
theorem rls (v x : Value) : ReflectliteValue.set #[v, x] = (do
    let (some (dst, a, fl), some (src, b, _)) := (← ReflectliteValue.parts v, ← ReflectliteValue.parts x)
      | unsupported (.noEntry "extern/(internal/reflectlite.Value).Set.zeroValue")
    if fl / ReflectliteValue.flagAddr % 2 == 0 then unsupported (.noEntry "extern/(internal/reflectlite.Value).Set.unaddressable")
    let val ← loadVar src b
    if ← Rtype.directlyAssignable dst src then storeVar dst a val
    else if ← Rtype.implements dst src then
      if (← Rtype.kind src) == 20 then
        match val with
        | .nilIface => unsupported (.noEntry "extern/reflectlite: a nil value of one interface type handed on as a value of another")
        | _ => storeVar dst a val
      else storeVar dst a (.iface src val)
    else panicString ("reflectlite.Set: value of type " ++ (← Rtype.spelt src) ++ " is not assignable to type " ++ (← Rtype.spelt dst))
    pure (.tuple #[])) := rfl
theorem partsDst (a : Addr) (w : World) : (ReflectliteValue.parts (.agg #[.pointer (some ⟨13, 110, none⟩), .pointer (some a), .int .u64 409])).run Tryz.prog w = .ok (some (110, a, 409)) w := by kernel_rfl
theorem partsSrc (b : Addr) (w : World) : (ReflectliteValue.parts (.agg #[.pointer (some ⟨13, 110, none⟩), .pointer (some b), .int .u64 153])).run Tryz.prog w = .ok (some (110, b, 153)) w := by kernel_rfl
theorem directE (w : World) : (Rtype.directlyAssignable 110 110).run Tryz.prog w = .ok true w := by kernel_rfl
theorem setE (a b : Addr) (val : Value) (W W' : World) (hl : (loadVar 110 b).run Tryz.prog W = .ok val W) (hs : (storeVar 110 a val).run Tryz.prog W = .ok () W') :
    (ReflectliteValue.set #[(.agg #[.pointer (some ⟨13, 110, none⟩), .pointer (some a), .int .u64 409]), (.agg #[.pointer (some ⟨13, 110, none⟩), .pointer (some b), .int .u64 153])]).run Tryz.prog W = .ok (.tuple #[]) W' := by
  rw [rls]
  simp only [Sem.run_bind, partsDst, partsSrc, Result.andThen]
  simp [ReflectliteValue.flagAddr, hl, Result.andThen, directE, hs]
theorem as_nil (t : Value) (w : World) :
    Calls Tryz.prog 33 #[.nilIface, t] w fun e w' => e = .returned (.bool false) ∧ w' = w := by
  go_enter Tryz.func33, Tryz.ntmps33
  go_wp2
  go_ret
  exact ⟨rfl, rfl⟩
set_option maxHeartbeats 4000000 in
theorem as_hit (x0 : Value) (t : Addr) (old val : Value) (w W' : World) (hg : w.cell? ⟨1, 0, none⟩ = some (.iface 148 (.agg #[.pointer (some ⟨13, 66, none⟩)]))) (ht0 : w.cell? t = some old)
    (hl : (loadVar 110 ⟨w.heap.size + 1 + 1 + 1, 0, none⟩).run Tryz.prog ((((w.alloc (.cells #[.pointer (some t)] 111)).alloc (.cells #[.pointer (some ⟨13, 111, none⟩), .pointer (some ⟨w.heap.size, 0, none⟩), .int .u64 150] 115)).alloc (.cells #[.pointer (some ⟨13, 111, none⟩), .pointer (some ⟨w.heap.size, 0, none⟩), .int .u64 150] 115)).alloc (.cells #[x0] 110)) = .ok val ((((w.alloc (.cells #[.pointer (some t)] 111)).alloc (.cells #[.pointer (some ⟨13, 111, none⟩), .pointer (some ⟨w.heap.size, 0, none⟩), .int .u64 150] 115)).alloc (.cells #[.pointer (some ⟨13, 111, none⟩), .pointer (some ⟨w.heap.size, 0, none⟩), .int .u64 150] 115)).alloc (.cells #[x0] 110))) (hs : (storeVar 110 t val).run Tryz.prog ((((w.alloc (.cells #[.pointer (some t)] 111)).alloc (.cells #[.pointer (some ⟨13, 111, none⟩), .pointer (some ⟨w.heap.size, 0, none⟩), .int .u64 150] 115)).alloc (.cells #[.pointer (some ⟨13, 111, none⟩), .pointer (some ⟨w.heap.size, 0, none⟩), .int .u64 150] 115)).alloc (.cells #[x0] 110)) = .ok () W') :
    Calls Tryz.prog 33 #[.iface 110 (.agg #[x0]), .iface 111 (.pointer (some t))] w fun ev w' => ev = .returned (.bool true) ∧ w' = W' := by
  have h6 := @run_callFunc_extern Tryz.prog 47 _ (fun args => ReflectliteValue.unpack (args.getD 0 (.tuple #[]))) Tryz.func47 (by kernel_rfl) (by kernel_rfl) (by kernel_rfl) (by kernel_rfl)
  have h7 := @run_callFunc_extern Tryz.prog 48 _ (ReflectliteValue.methodAny (ReflectliteValue.valueError "reflectlite.Value.Type" 0) (fun t _ _ _ => ReflectliteType.toType t)) Tryz.func48 (by kernel_rfl) (by kernel_rfl) (by kernel_rfl) (by kernel_rfl)
  have h8 := @run_callFunc_extern Tryz.prog 49 _ (ReflectliteValue.method (ReflectliteValue.valueError "reflectlite.Value.IsNil" 0) ReflectliteValue.isNil) Tryz.func49 (by kernel_rfl) (by kernel_rfl) (by kernel_rfl) (by kernel_rfl)
  have h27 := @run_callFunc_extern Tryz.prog 191 _ (ReflectliteType.abiMethod fun t => do pure (.int .u8 (← Rtype.kind t))) Tryz.func191 (by kernel_rfl) (by kernel_rfl) (by kernel_rfl) (by kernel_rfl)
  have h37 := @run_callFunc_extern Tryz.prog 205 _ (ReflectliteType.method ReflectliteType.elem) Tryz.func205 (by kernel_rfl) (by kernel_rfl) (by kernel_rfl) (by kernel_rfl)
  have h38 := @run_callFunc_extern Tryz.prog 206 _ (ReflectliteType.relation "Implements" ReflectliteType.implements_) Tryz.func206 (by kernel_rfl) (by kernel_rfl) (by kernel_rfl) (by kernel_rfl)
  have h10 := @run_callFunc_extern Tryz.prog 74 _ ReflectliteType.typeOf Tryz.func74 (by kernel_rfl) (by kernel_rfl) (by kernel_rfl) (by kernel_rfl)
  have h35 := @run_callFunc_extern Tryz.prog 203 _ (ReflectliteType.relation "AssignableTo" ReflectliteType.assignableTo) Tryz.func203 (by kernel_rfl) (by kernel_rfl) (by kernel_rfl) (by kernel_rfl)
  have h11 := @run_callFunc_extern Tryz.prog 75 _ (ReflectliteValue.method (ReflectliteValue.valueError "reflectlite.Value.Elem" 0) ReflectliteValue.elem) Tryz.func75 (by kernel_rfl) (by kernel_rfl) (by kernel_rfl) (by kernel_rfl)
  have h12 := @run_callFunc_extern Tryz.prog 76 _ ReflectliteValue.set Tryz.func76 (by kernel_rfl) (by kernel_rfl) (by kernel_rfl) (by kernel_rfl)
  have tO := typeOfE
  have mA := methodAssignableTo
  have aE := assignableE
  have vE := valueOfE
  have f6 := valueOfPE
  have f7 := typePE
  have mK := methodKind
  have mE := methodElem
  have mI := methodImplements
  have kP := kindPE
  have kE := kindE
  have eP := elemPE
  have iE := implementsE
  have n8 := isNilPE ⟨w.heap.size, 0, none⟩ t ((w.alloc (.cells #[.pointer (some t)] 111)).alloc (.cells #[.pointer (some ⟨13, 111, none⟩), .pointer (some ⟨w.heap.size, 0, none⟩), .int .u64 150] 115)) (by simp)
  have hlt : 1 < w.heap.size := by
    rcases Nat.lt_or_ge 1 w.heap.size with h | h
    · exact h
    · simp [World.cell?, Array.getElem?_eq_none h] at hg
  have hg2 : ((w.alloc (.cells #[.pointer (some t)] 111)).alloc (.cells #[.pointer (some ⟨13, 111, none⟩), .pointer (some ⟨w.heap.size, 0, none⟩), .int .u64 150] 115)).cell? ⟨1, 0, none⟩ = some (.iface 148 (.agg #[.pointer (some ⟨13, 66, none⟩)])) := by
    rw [World.cell?_alloc_lt _ _ ⟨1, 0, none⟩ (by first | (simp; done) | (simp; omega)), World.cell?_alloc_lt _ _ ⟨1, 0, none⟩ hlt]; exact hg
  have el := elemVPE ⟨w.heap.size, 0, none⟩ t (((w.alloc (.cells #[.pointer (some t)] 111)).alloc (.cells #[.pointer (some ⟨13, 111, none⟩), .pointer (some ⟨w.heap.size, 0, none⟩), .int .u64 150] 115)).alloc (.cells #[.pointer (some ⟨13, 111, none⟩), .pointer (some ⟨w.heap.size, 0, none⟩), .int .u64 150] 115)) (by rw [World.cell?_alloc_lt _ _ ⟨w.heap.size, 0, none⟩ (by simp; omega)]; simp)
  have st := setE t ⟨w.heap.size + 1 + 1 + 1, 0, none⟩ val ((((w.alloc (.cells #[.pointer (some t)] 111)).alloc (.cells #[.pointer (some ⟨13, 111, none⟩), .pointer (some ⟨w.heap.size, 0, none⟩), .int .u64 150] 115)).alloc (.cells #[.pointer (some ⟨13, 111, none⟩), .pointer (some ⟨w.heap.size, 0, none⟩), .int .u64 150] 115)).alloc (.cells #[x0] 110)) W' hl hs
  clear hl hs
  go_enter Tryz.func33, Tryz.ntmps33
  go_wp2
  refine wp_loop_rounds 1 ?_
  rw [rounds_succ]
  go_wp2
  go_ret
  exact ⟨rfl, rfl⟩
open Go.Ab
variable {Γ : Nat → AV}
def ErrT (Γ : Nat → AV) : Prop := Γ 1 = .cptr [.iface 148 (.agg [.ptr (some ⟨13, 66, none⟩)])]
theorem errT_cell {G : Gh} {s : Sto} {w : World} (hE : ErrT Γ) (hm : Mod Γ G s w) : w.cell? ⟨1, 0, none⟩ = some (.iface 148 (.agg #[.pointer (some ⟨13, 66, none⟩)])) := by
  have h := (hm.glob 1).r
  rw [hE] at h
  obtain ⟨b, o, hp, hc⟩ := R_cptr.1 h
  simp only [Value.pointer.injEq, Option.some.injEq, Addr.mk.injEq] at hp
  obtain ⟨rfl, rfl, _⟩ := hp
  unfold RCells at hc
  obtain ⟨_, ⟨u, hu, hr⟩, _⟩ := hc
  obtain ⟨v, rfl, hv⟩ := R_iface.1 hr
  obtain ⟨us, rfl, hus⟩ := R_agg.1 hv
  obtain ⟨u1, us1, h1, h2, h3⟩ := RList_cons.1 hus
  rw [R_ptr] at h2
  rw [RList_nil] at h3
  subst h2 h3
  obtain rfl : us = #[.pointer (some ⟨13, 66, none⟩)] := by cases us; simp_all
  exact hu
theorem asNil_ok (x : AV) : APure Tryz.prog Γ 33 [.nilIface, x] fun v => v = .bool false := by
  refine fun s => ⟨fun G w vs hm hr => ?_⟩
  obtain ⟨u, us, rfl, hu, hus⟩ := RList_cons.1 hr
  obtain ⟨u1, us1, rfl, hu1, hus1⟩ := RList_cons.1 hus
  rw [RList_nil] at hus1; subst hus1
  rw [R_nilIface] at hu; subst hu
  refine (as_nil u1 w).mono ?_
  rintro e w' ⟨rfl, rfl⟩
  exact ⟨_, _, s, G, rfl, ⟨rfl, rfl⟩, R_bool.2 rfl, hm, Ext.refl _ _⟩
theorem asHit_ok (hE : ErrT Γ) (x0 : Int) {s : Sto} {b : Nat} {T0 : TypeId} {o0 : AV} (hb : s.bx b = some (T0, [o0])) :
    ACalls Tryz.prog Γ 33 [.iface 110 (.agg [.int .i64 x0]), .iface 111 (.ptr (some ⟨b, 0, none⟩))] s fun v s' => v = .bool true ∧ s' = s.set b T0 [.int .i64 x0] := by
  refine ⟨fun G w vs hm hr => ?_⟩
  obtain ⟨u, us, rfl, hu, hus⟩ := RList_cons.1 hr
  obtain ⟨u1, us1, rfl, hu1, hus1⟩ := RList_cons.1 hus
  rw [RList_nil] at hus1; subst hus1
  obtain ⟨e, rfl, he⟩ := R_iface.1 hu
  obtain ⟨p, rfl, hp⟩ := R_iface.1 hu1
  rw [R_ptr] at hp; subst hp
  obtain ⟨vs, rfl, hvs⟩ := R_agg.1 he
  obtain ⟨v0, r0, h0, hv0, hr0⟩ := RList_cons.1 hvs
  rw [RList_nil] at hr0
  obtain rfl : vs = #[v0] := by cases vs; simp_all
  have hg := errT_cell hE hm
  obtain ⟨ws, hws, hcell⟩ := box_cells hm hb
  obtain ⟨w0, ws', rfl, _, _⟩ := RList_cons.1 hws
  have ht0 : w.cell? ⟨b, 0, none⟩ = some w0 := by rw [hcell]; rfl
  obtain ⟨m1, e1⟩ := hm.row_new (.cells #[.pointer (some ⟨b, 0, none⟩)] 111)
  obtain ⟨m2, e2⟩ := m1.row_new (.cells #[.pointer (some ⟨13, 111, none⟩), .pointer (some ⟨w.heap.size, 0, none⟩), .int .u64 150] 115)
  obtain ⟨m3, e3⟩ := m2.row_new (.cells #[.pointer (some ⟨13, 111, none⟩), .pointer (some ⟨w.heap.size, 0, none⟩), .int .u64 150] 115)
  obtain ⟨m4, e4⟩ := m3.row_new (.cells #[v0] 110)
  have X := ((e1.trans e2).trans e3).trans e4
  obtain ⟨val, r, hl, hk, hrr⟩ := run_loadVar_of (P := Tryz.prog) (t := 110) (cs := [.int .i64 x0]) (us := [v0]) (b := w.heap.size + 1 + 1 + 1) (o := 0) (w := (((( w.alloc (.cells #[.pointer (some ⟨b, 0, none⟩)] 111)).alloc (.cells #[.pointer (some ⟨13, 111, none⟩), .pointer (some ⟨w.heap.size, 0, none⟩), .int .u64 150] 115)).alloc (.cells #[.pointer (some ⟨13, 111, none⟩), .pointer (some ⟨w.heap.size, 0, none⟩), .int .u64 150] 115)).alloc (.cells #[v0] 110))) (K := fun r => r = .agg [.int .i64 x0]) (by (conv => whnf); exact ⟨Nat.le_of_ble_eq_true (by kernel_rfl), by first | (conv => whnf; done) | (conv => whnf; rfl) | rfl⟩) (RList_cons.2 ⟨v0, _, rfl, R.mono X _ _ hv0, RList_nil.2 rfl⟩) (fun i v hi => by
    rw [World.cell?_alloc_at _ _ _ _ (by simp)]
    simpa using hi)
  subst hk
  obtain ⟨zs, rfl, hval⟩ := R_agg.1 hrr
  obtain ⟨W', hs, hM', X'⟩ := store_ok (P := Tryz.prog) (T := 110) m4 hb (o := 0) (n := 1) (us := [.int .i64 x0]) (v := (.agg zs)) (by kernel_rfl) hval rfl rfl (by simp)
  refine (as_hit v0 ⟨b, 0, none⟩ w0 (.agg zs) w W' hg ht0 hl hs).mono ?_
  rintro ev w' ⟨rfl, rfl⟩
  exact ⟨_, _, _, _, rfl, ⟨rfl, rfl⟩, R_bool.2 rfl, hM', X.trans X'⟩
end Go.Proofs.YtdhgappjicpglaaGreatDoor.AsO
namespace Go.Proofs.YtdhgappjicpglaaGreatDoor.Lx
open Go Go.Ab Go.RowKit Go.Proofs.YtdhgappjicpglaaGreatDoor.Sc
variable {Γ : Nat → AV}
attribute [local irreducible] APure Sto.set Sto.grow
set_option maxRecDepth 10000
set_option maxHeartbeats 1000000
theorem one_no10 : ∀ m : Nat, m < 256 → (Qu.one (m : Int)).count 10 = 0 := by decide +kernel
theorem quote_no10 (t : List UInt8) : (Qu.quote t).count 10 = 0 := by
  unfold Qu.quote
  have h : (t.flatMap fun c => Qu.one c.toNat).count 10 = 0 := by
    induction t with
    | nil => rfl
    | cons c t ih => rw [List.flatMap_cons, List.count_append, ih, one_no10 c.toNat c.toNat_lt]
  simp [h]
theorem signs_no10 : ∀ x ∈ signsL, x.count 10 = 0 := by decide
theorem signF_spec : ∀ (L : List (List UInt8)) (l : List UInt8), signF L l = [] ∨ (signF L l ∈ L ∧ pfx (signF L l) l = true)
  | [], l => .inl rfl
  | x :: L, l => by
    unfold signF
    split
    · rename_i h; exact .inr ⟨by simp, h⟩
    · rcases signF_spec L l with h | h
      · exact .inl h
      · exact .inr ⟨by simp [h.1], h.2⟩
theorem pfx_take {x l : List UInt8} (h : pfx x l = true) : x.length ≤ l.length ∧ l.take x.length = x := by
  unfold pfx at h
  simpa using h
theorem word_no10 (l : List UInt8) (h : l.all (fun c => wordc c.toNat) = true) : l.count 10 = 0 := by
  rw [List.count_eq_zero]
  intro hm
  have := List.all_eq_true.1 h 10 hm
  revert this
  decide
theorem first_bound {l t : List UInt8} {k : Int} {n : Nat} (h : firstF l = .ok (k, t, n)) (h0 : l ≠ []) : 1 ≤ n ∧ n ≤ l.length ∧ (l.take n).count 10 = 0 := by
  unfold firstF at h
  split at h
  · split at h
    · cases h
    · rename_i t' k' hc
      have hb := Qu.cut_back hc
      split at h
      · cases h
      · cases h
        exact ⟨hb.1, hb.2.1, by rw [← hb.2.2]; exact quote_no10 _⟩
  · split at h
    · split at h
      · cases h
      · rename_i hg
        cases h
        rcases signF_spec signsL l with hs | hs
        · exact absurd hs hg
        · have hp := pfx_take hs.2
          refine ⟨List.length_pos_iff.2 hg, hp.1, ?_⟩
          rw [show signOf l = signF signsL l from rfl, hp.2]
          exact signs_no10 _ hs.1
    · rename_i h1
      split at h
      · cases h
      · cases h
        exact ⟨Nat.pos_of_ne_zero h1, letN_le l, word_no10 _ (letN_all l)⟩
theorem place_plain {l : List UInt8} (h : l.count 10 = 0) (p : Int × Int) : placeF p l = (p.1, p.2 + l.length) := by
  obtain ⟨a, b⟩ := p
  rw [placeF_eq, if_pos h]
abbrev Tok := Int × List UInt8 × Int × Int
/-- All tokens of a text from a place on; or what is wrong, and where. -/
def lexF : Nat → Int × Int → List UInt8 → Except (Int × Int × Int) (List Tok)
  | 0, _, _ => .ok []
  | k + 1, p, l => if l.drop (blankN l) = [] then .ok [] else match firstF (l.drop (blankN l)) with
    | .error e => .error (e, placeF p (l.take (blankN l)))
    | .ok (kd, t, z) => match lexF k ((placeF p (l.take (blankN l))).1, (placeF p (l.take (blankN l))).2 + z) ((l.drop (blankN l)).drop z) with
      | .error e => .error e
      | .ok m => .ok ((kd, t, placeF p (l.take (blankN l))) :: m)
def preT (o : List Tok) : Except (Int × Int × Int) (List Tok) → Except (Int × Int × Int) (List Tok)
  | .error e => .error e
  | .ok m => .ok (o ++ m)
theorem preT_pre (o p : List Tok) (x : Except (Int × Int × Int) (List Tok)) : preT o (preT p x) = preT (o ++ p) x := by cases x <;> simp [preT]
theorem preT_nil (x : Except (Int × Int × Int) (List Tok)) : preT [] x = x := by cases x <;> simp [preT]
theorem lexF_end {k : Nat} {p : Int × Int} {l : List UInt8} (h : l.drop (blankN l) = []) : lexF (k + 1) p l = .ok [] := by rw [lexF, if_pos h]
theorem lexF_bad {k : Nat} {p : Int × Int} {l : List UInt8} {e : Int} (h : l.drop (blankN l) ≠ []) (he : firstF (l.drop (blankN l)) = .error e) : lexF (k + 1) p l = .error (e, placeF p (l.take (blankN l))) := by rw [lexF, if_neg h, he]
theorem lexF_ok {k : Nat} {p : Int × Int} {l t : List UInt8} {kd : Int} {z : Nat} (h : l.drop (blankN l) ≠ []) (he : firstF (l.drop (blankN l)) = .ok (kd, t, z)) :
    lexF (k + 1) p l = preT [(kd, t, placeF p (l.take (blankN l)))] (lexF k ((placeF p (l.take (blankN l))).1, (placeF p (l.take (blankN l))).2 + z) ((l.drop (blankN l)).drop z)) := by
  rw [lexF, if_neg h, he]
  simp only
  cases lexF k ((placeF p (l.take (blankN l))).1, (placeF p (l.take (blankN l))).2 + z) ((l.drop (blankN l)).drop z) <;> rfl
theorem lexF_fuel : ∀ (k j : Nat) (p : Int × Int) (l : List UInt8), l.length < k → l.length < j → lexF k p l = lexF j p l
  | 0, _, p, l => fun h => by omega
  | _, 0, p, l => fun _ h => by omega
  | k + 1, j + 1, p, l => fun h h' => by
    by_cases hl : l.drop (blankN l) = []
    · rw [lexF_end hl, lexF_end hl]
    · rcases he : firstF (l.drop (blankN l)) with e | ⟨kd, t, z⟩
      · rw [lexF_bad hl he, lexF_bad hl he]
      · have hb := first_bound he hl
        rw [List.length_drop] at hb
        rw [lexF_ok hl he, lexF_ok hl he, lexF_fuel k j _ _ (by simp only [List.length_drop]; omega) (by simp only [List.length_drop]; omega)]
def allT (l : List UInt8) : Except (Int × Int × Int) (List Tok) := if 65536 < l.length then .error (3, 1, 1) else lexF (l.length + 1) (1, 1) l
def tokA (t : Tok) : List AV := [.int .i64 t.1, .str t.2.1, .int .i64 t.2.2.1, .int .i64 t.2.2.2]
def toksA (l : List Tok) : List (List AV) := l.map tokA
theorem toksA_len (l : List Tok) : (toksA l).length = l.length := List.length_map ..
theorem fgE_toks (l : List Tok) : fgE (toksA l) = toksA l := fgE_map (A := tokA) (fun _ => rfl) l
theorem toksA_app (o : List Tok) (m : Tok) : toksA o ++ [tokA m] = toksA (o ++ [m]) := by simp [toksA]
def allA : Except (Int × Int × Int) (List Tok) → AV
  | .ok m => .tuple [.slice 0 (toksA m), .agg [.int .i64 0, .int .i64 0, .int .i64 0]]
  | .error (e, a, b) => .tuple [.slice 0 [], .agg [.int .i64 e, .int .i64 a, .int .i64 b]]
end Go.Proofs.YtdhgappjicpglaaGreatDoor.Lx
namespace Go.Proofs.YtdhgappjicpglaaGreatDoor.Lx
open Go Go.Ab Go.RowKit Go.Proofs.YtdhgappjicpglaaGreatDoor.Sc
variable {Γ : Nat → AV}
attribute [local irreducible] APure Sto.set Sto.grow
set_option maxRecDepth 10000
set_option maxHeartbeats 1000000
/-- What is so between two tokens. -/
structure LexI (s s' : Sto) (S : List UInt8) (T : TypeId) (o : List Tok) (t : Nat) (q : List UInt8) (p : Int × Int) : Prop where
  le : q.length ≤ S.length ∧ o.length + q.length ≤ S.length
  pl : (0 ≤ p.1 ∧ p.1 ≤ 1 + (S.length - q.length : Nat)) ∧ 0 ≤ p.2 ∧ p.2 ≤ 1 + 2 * ((S.length - q.length : Nat) : Int)
  own : Own s s' o.isEmpty t T 4
  is : lexF (S.length + 1) (1, 1) S = preT o (lexF (S.length + 1) p q)
theorem progAll_ok (hQ : Qu.Tabs Γ) (hT : Wds Γ) (hE : AsO.ErrT Γ) (S : List UInt8) (hl : S.length ≤ 1048576) : APure Tryz.prog Γ 32 [.str S] fun v => v = allA (allT S) := by
  refine APure.fgt fun s => ?_
  by_cases hbig : 65536 < S.length
  · rw [allT, if_pos hbig]
    refine ACalls.of_awp Tryz.func32 rfl (Nat.le_of_ble_eq_true (by kernel_rfl)) (awp_ok _ (by kernel_rfl) ?_)
    conv => whnf
    intro b3 hb3
    conv => whnf
    repeat' ((first | (exfalso; first | omega | exact (by assumption : ¬ True) trivial | fail) | refine ⟨Sub.refl _, ?_⟩ | (refine brA_split (fun h => ?_) (fun h => ?_) <;> (try rw [h]) <;> (try simp only [bS, ↓reduceIte] at h)) | refine getB_a ?_ | refine getB_same ?_ | refine AWp.anyA ?_ | refine and_a ?_ | fail) <;> (conv => whnf))
    exact ⟨_, Sub.refl _, rfl, ((Sub.refl _).set hb3 _ _).set hb3 _ _⟩
  · rw [allT, if_neg hbig]
    refine ACalls.of_awp Tryz.func32 rfl (Nat.le_of_ble_eq_true (by kernel_rfl)) (awp_ok _ (by kernel_rfl) ?_)
    conv => whnf
    intro b3 hb3
    conv => whnf
    repeat' ((first | (exfalso; first | omega | exact (by assumption : ¬ True) trivial | fail) | refine ⟨Sub.refl _, ?_⟩ | (refine brA_split (fun h => ?_) (fun h => ?_) <;> (try rw [h]) <;> (try simp only [bS, ↓reduceIte] at h)) | refine getB_a ?_ | refine getB_same ?_ | refine AWp.anyA ?_ | refine and_a ?_ | fail) <;> (conv => whnf))
    refine AWp.loopA [0, 4, 5, 6] [15, 16, 7, 18, 19, 20, 21, 22, 23, 17, 24, 25, 26, 27, 28, 29, 30, 31, 32, 2, 34, 35, 33, 36, 37, 38, 8, 9, 10, 39, 40, 41, 42, 43, 44, 45, 46, 47, 48, 49, 50, 51, 52, 53, 54, 56, 57, 58, 59, 60, 61, 55, 62, 63, 64, 65, 66] (fun x : List Tok × Nat × List UInt8 × (Int × Int) => [.str x.2.2.1, .slice x.2.1 (toksA x.1), .int .i64 x.2.2.2.1, .int .i64 x.2.2.2.2]) (fun x s' => LexI s s' S 94 x.1 x.2.1 x.2.2.1 x.2.2.2 ∧ s'.bx b3 = some (45, [.int .i64 0, .int .i64 0, .int .i64 0])) (fun x => x.2.2.1.length) (([], 1, S, (1, 1))) (by kernel_rfl) (eqa) ?_ ?_
    · exact ⟨⟨⟨Nat.le_refl _, by simp⟩, ⟨by simp, by simp⟩, Own.start ((Sub.refl _).set hb3 _ _) _ _, (preT_nil _).symm⟩, set_bx_same⟩
    · rintro x ⟨o, t, q, p⟩ s1 ⟨⟨i1, i2, i3, i4⟩, i5⟩
      simp only at i1 i2 i3 i4 i5
      show awp _ _ _ _ _ (updL _ _ [.str q, .slice t (toksA o), .int .i64 p.1, .int .i64 p.2]) _
      conv => whnf
      have hbl := progBlank_ok (Γ := Γ) q (by omega)
      have hbn := blankN_le q
      have hA : List.drop 0 (List.take ((blankN q : Int)).toNat q) = q.take (blankN q) := by rw [Int.toNat_natCast, List.drop_zero]
      have hB : List.drop ((blankN q : Int)).toNat (List.take q.length q) = q.drop (blankN q) := by rw [Int.toNat_natCast, drop_take_all]
      have hmv := move_ok (Γ := Γ) p.1 p.2 (q.take (blankN q)) (by rw [List.length_take]; omega) (by omega) (by omega)
      have hpb := placeF_bound (q.take (blankN q)) p.1 p.2 (by omega) (by omega)
      have hdl : (q.drop (blankN q)).length = q.length - blankN q := List.length_drop
      rw [List.length_take, Nat.min_eq_left hbn] at hpb
      repeat' ((first | (exfalso; first | omega | exact (by assumption : ¬ True) trivial | fail) | refine ⟨Sub.refl _, ?_⟩ | (refine brA_split (fun h => ?_) (fun h => ?_) <;> (try rw [h]) <;> (try simp only [bS, ↓reduceIte] at h)) | (refine ACalls.pure' ?_ (hbl); rintro _ rfl) | refine DCall.pure ?_ (hbl) | (rw [hA]) | (rw [hB]) | (refine ACalls.pure' ?_ (hmv); rintro _ rfl) | refine DCall.pure ?_ (hmv) | refine getB_same ?_ | refine AWp.anyA ?_ | refine and_a ?_ | fail) <;> (conv => whnf))
      · repeat' ((first | (exfalso; first | omega | exact (by assumption : ¬ True) trivial | fail) | refine ⟨Sub.refl _, ?_⟩ | (refine brA_split (fun h => ?_) (fun h => ?_) <;> (try rw [h]) <;> (try simp only [bS, ↓reduceIte] at h)) | refine getB_a ?_ | refine getB_same ?_ | refine AWp.anyA ?_ | refine and_a ?_ | fail) <;> (conv => whnf))
        refine ⟨_, Sub.refl _, ?_, i3.sub.set hb3 _ _⟩
        rw [i4, lexF_end h]
        simp only [tupA, fg, fgL, fgE_toks, allA, preT, List.append_nil]
      · have hpos : 0 < (q.drop (blankN q)).length := List.length_pos_iff.2 h
        have hfi := first_ok hQ hT (q.drop (blankN q)) hpos (by omega)
        rcases hf : firstF (q.drop (blankN q)) with e | ⟨kd, t', z⟩
        · simp only [firstA, hf, tokC, oddA] at hfi
          repeat' ((first | (exfalso; first | omega | exact (by assumption : ¬ True) trivial | fail) | refine ⟨Sub.refl _, ?_⟩ | (refine brA_split (fun h => ?_) (fun h => ?_) <;> (try rw [h]) <;> (try simp only [bS, ↓reduceIte] at h)) | (refine ACalls.pure' ?_ (hfi); rintro _ rfl) | refine DCall.pure ?_ (hfi) | refine getB_same ?_ | refine AWp.anyA ?_ | refine and_a ?_ | fail) <;> (conv => whnf))
          intro b8 hb8
          have n_b3_b8 : b3 ≠ b8 := ne_of_none bxa hb8
          have n_b8_b3 := n_b3_b8.symm
          conv => whnf
          repeat' ((first | (exfalso; first | omega | exact (by assumption : ¬ True) trivial | fail) | refine ⟨Sub.refl _, ?_⟩ | (refine brA_split (fun h => ?_) (fun h => ?_) <;> (try rw [h]) <;> (try simp only [bS, ↓reduceIte] at h)) | refine getB_a ?_ | refine getB_same ?_ | refine AWp.anyA ?_ | refine and_a ?_ | fail) <;> (conv => whnf))
          intro b10 hb10
          have n_b8_b10 : b8 ≠ b10 := ne_of_none bxa hb10
          have n_b10_b8 : b10 ≠ b8 := fun h => n_b8_b10 h.symm
          have n_b3_b10 : b3 ≠ b10 := ne_of_none bxa hb10
          have n_b10_b3 : b10 ≠ b3 := fun h => n_b3_b10 h.symm
          conv => whnf
          repeat' ((first | (exfalso; first | omega | exact (by assumption : ¬ True) trivial | fail) | refine ⟨Sub.refl _, ?_⟩ | (refine brA_split (fun h => ?_) (fun h => ?_) <;> (try rw [h]) <;> (try simp only [bS, ↓reduceIte] at h)) | refine getB_a ?_ | (refine ACalls.by (AsO.asHit_ok hE e set_bx_same) ?_; rintro _ _ ⟨rfl, rfl⟩) | refine getB_same ?_ | refine AWp.anyA ?_ | refine and_a ?_ | fail) <;> (conv => whnf))
          have k8 := fun T1 c1 T2 c2 => (i3.sub.set (i3.sub.none hb8) T1 c1).set (i3.sub.none hb8) T2 c2
          have g10 := (k8 _ _ _ _).none hb10
          refine ⟨_, Sub.refl _, ?_, ((((k8 _ _ _ _).set g10 _ _).set g10 _ _).set hb3 _ _)⟩
          rw [i4, lexF_bad h hf]
          simp only [tupA, fg, fgL, fgE, allA, preT]
        · simp only [firstA, hf, tokC] at hfi
          have hfb := first_bound hf h
          repeat' ((first | (exfalso; first | omega | exact (by assumption : ¬ True) trivial | fail) | refine ⟨Sub.refl _, ?_⟩ | (refine brA_split (fun h => ?_) (fun h => ?_) <;> (try rw [h]) <;> (try simp only [bS, ↓reduceIte] at h)) | (refine ACalls.pure' ?_ (hfi); rintro _ rfl) | refine DCall.pure ?_ (hfi) | refine getB_same ?_ | refine AWp.anyA ?_ | refine and_a ?_ | fail) <;> (conv => whnf))
          intro b8 hb8
          have n_b3_b8 : b3 ≠ b8 := ne_of_none bxa hb8
          have n_b8_b3 := n_b3_b8.symm
          conv => whnf
          repeat' ((first | (exfalso; first | omega | exact (by assumption : ¬ True) trivial | fail) | refine ⟨Sub.refl _, ?_⟩ | (refine brA_split (fun h => ?_) (fun h => ?_) <;> (try rw [h]) <;> (try simp only [bS, ↓reduceIte] at h)) | refine getB_a ?_ | refine getB_same ?_ | refine AWp.anyA ?_ | refine and_a ?_ | fail) <;> (conv => whnf))
          intro b10 hb10
          have n_b8_b10 : b8 ≠ b10 := ne_of_none bxa hb10
          have n_b10_b8 : b10 ≠ b8 := fun h => n_b8_b10 h.symm
          have n_b3_b10 : b3 ≠ b10 := ne_of_none bxa hb10
          have n_b10_b3 : b10 ≠ b3 := fun h => n_b3_b10 h.symm
          conv => whnf
          repeat' ((first | (exfalso; first | omega | exact (by assumption : ¬ True) trivial | fail) | refine ⟨Sub.refl _, ?_⟩ | (refine brA_split (fun h => ?_) (fun h => ?_) <;> (try rw [h]) <;> (try simp only [bS, ↓reduceIte] at h)) | refine getB_a ?_ | (refine ACalls.pure' ?_ (AsO.asNil_ok _); rintro _ rfl) | refine DCall.pure ?_ (AsO.asNil_ok _) | refine getB_same ?_ | refine AWp.anyA ?_ | refine and_a ?_ | fail) <;> (conv => whnf))
          have g8 := i3.sub.none hb8
          have k8 := fun T1 c1 T2 c2 => (i3.sub.set g8 T1 c1).set g8 T2 c2
          have g10 := (k8 _ _ _ _).none hb10
          have kk := fun T1 c1 T2 c2 T3 c3 T4 c4 T5 c5 => ((((i3.set (T := T1) (cs := c1) g8).set (T := T2) (cs := c2) g8).set (T := T3) (cs := c3) g10).set (T := T4) (cs := c4) g8).set (T := T5) (cs := c5) g8
          have hol := toksA_len o
          refine ⟨(kk _ _ _ _ _ _ _ _ _ _).may, fun c hc => ?_, all_cons ⟨rfl, rfl⟩ all_nil, ?_, ?_⟩
          · obtain ⟨w, _, rfl⟩ := List.mem_map.1 hc; rfl
          · show ((toksA o).length + 1) * (40 + 1) ≤ _
            rw [hol]; omega
          intro t2 k1 k2
          have k3 := (kk _ _ _ _ _ _ _ _ _ _).grow k1 k2
          have hq2 := place_plain hfb.2.2 (placeF (p.1, p.2) (q.take (blankN q)))
          have htl : ((q.drop (blankN q)).take z).length = z := by rw [List.length_take]; omega
          rw [htl] at hq2
          have hmv2 := move_ok (Γ := Γ) (placeF (p.1, p.2) (q.take (blankN q))).1 (placeF (p.1, p.2) (q.take (blankN q))).2 ((q.drop (blankN q)).take z) (by omega) (by omega) (by omega)
          rw [hq2] at hmv2
          have hC : List.drop 0 (List.take ((z : Int)).toNat (q.drop (blankN q))) = (q.drop (blankN q)).take z := by rw [Int.toNat_natCast, List.drop_zero]
          have hD : List.drop ((z : Int)).toNat (List.take (q.drop (blankN q)).length (q.drop (blankN q))) = (q.drop (blankN q)).drop z := by rw [Int.toNat_natCast, drop_take_all]
          conv => whnf
          repeat' ((first | (exfalso; first | omega | exact (by assumption : ¬ True) trivial | fail) | refine ⟨Sub.refl _, ?_⟩ | (refine brA_split (fun h => ?_) (fun h => ?_) <;> (try rw [h]) <;> (try simp only [bS, ↓reduceIte] at h)) | refine getB_a ?_ | (rw [hC]) | (rw [hD]) | (refine ACalls.pure' ?_ (hmv2); rintro _ rfl) | refine DCall.pure ?_ (hmv2) | refine getB_same ?_ | refine AWp.anyA ?_ | refine and_a ?_ | fail) <;> (conv => whnf))
          have hrl : ((q.drop (blankN q)).drop z).length = q.length - blankN q - z := by rw [List.length_drop, List.length_drop]
          rw [List.length_drop] at hfb
          refine ⟨(o ++ [(kd, t', placeF (p.1, p.2) (q.take (blankN q)))], t2, (q.drop (blankN q)).drop z, ((placeF (p.1, p.2) (q.take (blankN q))).1, (placeF (p.1, p.2) (q.take (blankN q))).2 + z)), ?_, samea, ⟨⟨⟨by simp only; omega, by simp only [List.length_append, List.length_cons, List.length_nil]; omega⟩, ⟨by simp only; omega, by simp only; omega⟩, ?_, ?_⟩, bxa⟩, by simp only; omega⟩
          · exact cons_eq rfl (cons_eq (congrArg (AV.slice t2) (toksA_app o (kd, t', placeF (p.1, p.2) (q.take (blankN q))))) (cons_eq rfl (cons_eq rfl rfl)))
          · rw [show (o ++ [(kd, t', placeF (p.1, p.2) (q.take (blankN q)))]).isEmpty = (o.isEmpty && [tokA (kd, t', placeF (p.1, p.2) (q.take (blankN q)))].isEmpty) by cases o <;> rfl]
            exact k3
          · rw [i4, lexF_ok h hf, preT_pre, lexF_fuel S.length (S.length + 1) _ _ (by omega) (by omega)]
theorem first_err {l : List UInt8} {e : Int} (h : firstF l = .error e) : e ≠ 0 := by
  unfold firstF at h
  split at h
  · split at h
    · cases h; decide
    · split at h
      · cases h; decide
      · cases h
  · split at h
    · split at h
      · cases h; decide
      · cases h
    · split at h
      · rename_i e' he
        cases h
        unfold lettersF at he
        split at he
        · split at he
          · cases he
          · rename_i hn
            cases he
            exact hn
        · split at he
          · cases he; decide
          · split at he <;> cases he
      · cases h
theorem grdFail : (!Tryz.prog.eqGuardType Tryz.prog.depth 45) = true := by kernel_rfl
theorem planFail : planT Tryz.prog 9999 45 = some [(0, 0), (1, 0), (2, 0)] := by kernel_rfl
end Go.Proofs.YtdhgappjicpglaaGreatDoor.Lx
namespace Go.Proofs.YtdhgappjicpglaaGreatDoor.Lx
open Go Go.Ab Go.RowKit Go.Proofs.YtdhgappjicpglaaGreatDoor.Sc
variable {Γ : Nat → AV}
attribute [local irreducible] APure Sto.set Sto.grow
set_option maxRecDepth 10000
set_option maxHeartbeats 1000000
theorem lexF_err : ∀ (k : Nat) (p : Int × Int) (l : List UInt8) (e a b : Int), lexF k p l = .error (e, a, b) → e ≠ 0
  | 0, p, l, e, a, b => fun h => by cases h
  | k + 1, p, l, e, a, b => fun h => by
    by_cases hl : l.drop (blankN l) = []
    · rw [lexF_end hl] at h; cases h
    · rcases he : firstF (l.drop (blankN l)) with e' | ⟨kd, t, z⟩
      · rw [lexF_bad hl he] at h
        simp only [Except.error.injEq, Prod.mk.injEq] at h
        rw [← h.1]
        exact first_err he
      · rw [lexF_ok hl he] at h
        rcases hr : lexF k ((placeF p (l.take (blankN l))).1, (placeF p (l.take (blankN l))).2 + z) ((l.drop (blankN l)).drop z) with ⟨e', a', b'⟩ | m
        · rw [hr] at h
          simp only [preT, Except.error.injEq, Prod.mk.injEq] at h
          rw [← h.1]
          exact lexF_err k _ _ _ _ _ hr
        · rw [hr] at h; cases h
theorem lexF_len : ∀ (k : Nat) (p : Int × Int) (l : List UInt8) (m : List Tok), lexF k p l = .ok m → m.length ≤ l.length
  | 0, p, l, m => fun h => by cases h; exact Nat.zero_le _
  | k + 1, p, l, m => fun h => by
    by_cases hl : l.drop (blankN l) = []
    · rw [lexF_end hl] at h; cases h; exact Nat.zero_le _
    · rcases he : firstF (l.drop (blankN l)) with e' | ⟨kd, t, z⟩
      · rw [lexF_bad hl he] at h; cases h
      · rw [lexF_ok hl he] at h
        have hb := first_bound he hl
        rw [List.length_drop] at hb
        rcases hr : lexF k ((placeF p (l.take (blankN l))).1, (placeF p (l.take (blankN l))).2 + z) ((l.drop (blankN l)).drop z) with ⟨e', a', b'⟩ | m'
        · rw [hr] at h; cases h
        · rw [hr] at h
          have := lexF_len k _ _ _ hr
          rw [List.length_drop, List.length_drop] at this
          cases h
          simp only [List.length_append, List.length_cons, List.length_nil]
          omega
end Go.Proofs.YtdhgappjicpglaaGreatDoor.Lx
namespace Go.Ab
open Go
variable {P : Program} {Γ : Nat → AV} {n : Nat} {Q : Exit → Env → Sto → Prop} {e : Env} {s : Sto}
/-- An entry that is put into the map in slot d. -/
def putOp (T : TypeId) (d : Nat) (x : List UInt8 × Int) (o : Oper) : Prop :=
  o.op = .insert T (.tmp d) (.const (.string ⟨x.1.toArray⟩)) (.const (.int .i64 x.2)) ∧ o.dst = none ∧ o.guard = none
theorem findNow_none (l : List UInt8) : ∀ (ents : List MapEntry) (es : List (List UInt8 × Int)) (i : Nat), ents.map (fun e => (e.key, e.val)) = es.map (fun x => (Value.string ⟨x.1.toArray⟩, Value.int .i64 x.2)) → (∀ x ∈ es, x.1 ≠ l) →
    Instr.findNow .string (.string ⟨l.toArray⟩) ents i = some none
  | [], _, _, _, _ => rfl
  | e :: ents, es, i, h, hn => by
    cases es with
    | nil => simp at h
    | cons x es =>
      simp only [List.map_cons, List.cons.injEq, Prod.mk.injEq] at h
      obtain ⟨⟨h1, h2⟩, h3⟩ := h
      unfold Instr.findNow
      rw [h1]
      have hb : Instr.sameNow .string (.string ⟨l.toArray⟩) (.string ⟨x.1.toArray⟩) = some false := by
        refine congrArg some ?_
        rw [Bool.eq_false_iff]
        intro hh
        have hh : l.toArray = x.1.toArray := eq_of_beq (show (l.toArray == x.1.toArray) = true from hh)
        exact hn x (by simp) (by simpa using (congrArg Array.toList hh).symm)
      rw [hb]
      exact findNow_none l ents es (i + 1) h3 (fun y hy => hn y (by simp [hy]))
theorem run_put {T kt et : TypeId} {w : World} {r c : Nat} {ents : Array MapEntry} {es : List (List UInt8 × Int)} (x : List UInt8 × Int) (hT : P.underlying T = some (.map kt et)) (hk : P.underlying kt = some .string)
    (hb : w.heap[r]? = some (.map ents c)) (he : ents.toList.map (fun e => (e.key, e.val)) = es.map (fun x => (Value.string ⟨x.1.toArray⟩, Value.int .i64 x.2))) (hn : ∀ y ∈ es, y.1 ≠ x.1) :
    (Instr.mapUpdate T (.map (some r)) (.string ⟨x.1.toArray⟩) (.int .i64 x.2)).run P w = .ok () ({ w with heap := w.heap.setIfInBounds r (.map (ents.push { key := .string ⟨x.1.toArray⟩, val := .int .i64 x.2, born := c }) (c + 1)) }) := by
  have hobj : (getObj r : Sem Obj).run P w = .ok (.map ents c) w := by simp [getObj, Sem.run, hb]
  have hck : (Instr.checkKey false 10000 kt (.string ⟨x.1.toArray⟩)).run P w = .ok () w := by
    unfold Instr.checkKey
    simp [run_under hk]
  have hfk : (Instr.findKey kt (.string ⟨x.1.toArray⟩) ents.toList).run P w = .ok none w := by
    unfold Instr.findKey
    simp only [Sem.run_bind, run_under hk, Result.andThen_ok, findNow_none x.1 ents.toList es 0 he hn, Sem.run_pure]
  have hset : (setObj r (.map (ents.push { key := .string ⟨x.1.toArray⟩, val := .int .i64 x.2, born := c }) (c + 1)) : Sem Unit).run P w = .ok () ({ w with heap := w.heap.setIfInBounds r (.map (ents.push { key := .string ⟨x.1.toArray⟩, val := .int .i64 x.2, born := c }) (c + 1)) }) := by
    simp [setObj, Sem.run, hb]
  unfold Instr.mapUpdate
  simp only [Sem.run_bind, run_under hT, Result.andThen_ok, hobj, hck, hfk, hset]
theorem put_alloc (w : World) (o o' : Obj) : { (w.alloc o) with heap := (w.alloc o).heap.setIfInBounds w.heap.size o' } = w.alloc o' := by
  have h : (w.alloc o).heap.setIfInBounds w.heap.size o' = (w.alloc o').heap := by
    refine Array.ext (by simp) fun i h1 h2 => ?_
    have e1 := heap_alloc_at w o'
    rw [Array.getElem_setIfInBounds (by simpa using h1)]
    split
    · rename_i hi
      subst hi
      exact ((Array.getElem?_eq_some_iff.1 e1).2).symm
    · rename_i hi
      have hlt : i < w.heap.size := by simp at h2; omega
      have a1 := heap_alloc_lt w o hlt
      have a2 := heap_alloc_lt w o' hlt
      have a3 : (w.alloc o).heap[i]? = (w.alloc o').heap[i]? := a1.trans a2.symm
      rw [Array.getElem?_eq_getElem (by simpa using h1), Array.getElem?_eq_getElem h2] at a3
      exact Option.some.inj a3
  rw [h]
  rfl
def putOps (T : TypeId) (d : Nat) : List (List UInt8 × Int) → List Oper → Prop
  | [], [] => True
  | x :: es, o :: ins => putOp T d x o ∧ putOps T d es ins
  | _, _ => False
/-- The entries, one by one. -/
theorem ins_ok {ops : Array Oper} {B : Exit → Act → World → Prop} {T kt et : TypeId} {d : Nat} {rest : List Oper} {w : World} {a : Act} (hT : P.underlying T = some (.map kt et)) (hk : P.underlying kt = some .string)
    (ha : a.eval (.tmp d) = .map (some w.heap.size)) : ∀ (ins : List Oper) (es1 es2 : List (List UInt8 × Int)) (i : Nat) (ents : Array MapEntry) (c : Nat), ops.toList.drop i = ins ++ rest → putOps T d es2 ins →
    ents.toList.map (fun e => (e.key, e.val)) = es1.map (fun x => (Value.string ⟨x.1.toArray⟩, Value.int .i64 x.2)) → ((es1 ++ es2).map (·.1)).Nodup →
    (∀ ents' c', ents'.toList.map (fun e => (e.key, e.val)) = (es1 ++ es2).map (fun x => (Value.string ⟨x.1.toArray⟩, Value.int .i64 x.2)) → wpOps P ops B (List.range' (i + ins.length) rest.length) a (w.alloc (.map ents' c'))) →
    wpOps P ops B (List.range' i (ins.length + rest.length)) a (w.alloc (.map ents c))
  | [], es1, es2, i, ents, c, hd, hf, he, hn, h => by
    cases es2 with
    | cons x es2 => exact hf.elim
    | nil =>
      rw [List.append_nil] at h
      have := h ents c he
      simpa using this
  | o :: ins, es1, es2, i, ents, c, hd, hf, he, hn, h => by
    cases es2 with
    | nil => exact hf.elim
    | cons x es2 =>
      obtain ⟨⟨p1, p2, p3⟩, hf⟩ := hf
      have hlt : i < ops.toList.length := by
        rcases Nat.lt_or_ge i ops.toList.length with hh | hh
        · exact hh
        · rw [List.drop_of_length_le hh] at hd; cases hd
      have hd' := hd
      rw [List.drop_eq_getElem_cons hlt] at hd'
      injection hd' with ho hd2
      have hoi : ops[i]? = some o := by rw [← Array.getElem?_toList, List.getElem?_eq_getElem hlt, ho]
      rw [show (o :: ins).length + rest.length = (ins.length + rest.length) + 1 by simp only [List.length_cons]; omega, List.range'_succ]
      have hw : ∀ t, Region.wanted o t = true := fun t => by unfold Region.wanted; rw [p3]
      simp only [wpOps, hoi, hw, if_true]
      refine .inl ?_
      have hat := heap_alloc_at w (.map ents c)
      have hne : ∀ y ∈ es1, y.1 ≠ x.1 := by
        intro y hy hh
        rw [List.map_append, List.nodup_append] at hn
        exact hn.2.2 y.1 (List.mem_map.2 ⟨y, hy, rfl⟩) x.1 (by simp) hh
      have hrun := run_put (P := P) (w := w.alloc (.map ents c)) x hT hk hat he hne
      rw [put_alloc] at hrun
      have hx : (execOp a.eval o).run P (w.alloc (.map ents c)) = .ok .skip (w.alloc (.map (ents.push { key := .string ⟨x.1.toArray⟩, val := .int .i64 x.2, born := c }) (c + 1))) := by
        obtain ⟨dst, op, ty, pos, aft, grd⟩ := o
        simp only at p1 p2 p3
        subst p1
        have ha' : a.tmps[d]?.getD undef = .map (some w.heap.size) := by simpa [Act.eval] using ha
        simp [execOp, Act.eval, ha', hrun]
      unfold Oper.wp
      rw [hx, Oper.upon_skip, p2]
      show wpOps P ops B (List.range' (i + 1) (ins.length + rest.length)) a _
      refine ins_ok hT hk ha ins (es1 ++ [x]) es2 (i + 1) _ _ hd2 hf (by simp [he]) (by simpa using hn) fun ents' c' he' => ?_
      have := h ents' c' (by simpa using he')
      rwa [show i + (o :: ins).length = i + 1 + ins.length by simp only [List.length_cons]; omega] at this
theorem wanted_none {o : Oper} (h : o.guard = none) : ∀ t, Region.wanted o t = true := fun t => by unfold Region.wanted; rw [h]
/-- A map that is written out, behind a move: it is a value from then on. -/
theorem AWp.mapLit {id : Nat} {ops : Array Oper} {o0 mk : Oper} {ins rest : List Oper} (es : List (List UInt8 × Int)) {T kt et : TypeId} {d i0 : Nat} {x0 : Operand} (hops : ops.toList = o0 :: mk :: (ins ++ rest)) (hok : ops.toList.all (okOp n) = true)
    (h0 : o0.op = .move x0) (hd0 : o0.dst = some i0) (hg0 : o0.guard = none) (hmk : mk.op = .makeMap T none) (hmd : mk.dst = some d) (hmg : mk.guard = none) (hins : putOps T d es ins)
    (hT : P.underlying T = some (.map kt et)) (hk : P.underlying kt = some .string) (hnd : (es.map (·.1)).Nodup)
    (h : awpOps P Γ ops rest (upd (upd e i0 (evA Γ e x0)) d (.cmap es)) s fun e' s' => Q .normal e' s') : AWp P Γ n (.region id ops false) Q e s := by
  refine ⟨fun G w a hm he => wp_region ?_⟩
  have hok0 : okOp n o0 = true := List.all_eq_true.1 hok o0 (by rw [hops]; simp)
  have hok1 : okOp n mk = true := List.all_eq_true.1 hok mk (by rw [hops]; simp)
  have hi0 : i0 < n := okOp_dst hok0 i0 hd0
  have hdn : d < n := okOp_dst hok1 d hmd
  have hsz : ops.size = (ins.length + rest.length) + 2 := by
    have := congrArg List.length hops
    simpa using this
  rw [List.range_eq_range', hsz, List.range'_succ, List.range'_succ]
  have e0 : ops[0]? = some o0 := by rw [← Array.getElem?_toList, hops]; rfl
  have e1 : ops[1]? = some mk := by rw [← Array.getElem?_toList, hops]; rfl
  simp only [wpOps, e0, wanted_none hg0, if_true]
  refine .inl ?_
  have hx0 : okX x0 = true := by
    have := okOp_ops hok0 x0
    rw [h0] at this
    exact this (by simp [Op.operands])
  have hr0 := evA_ok hm he hx0
  have he0 := he.put (d := some i0) (fun j hj => by cases hj; exact hi0) hr0
  have hrun0 : (execOp a.eval o0).run P w = .ok (.value (a.eval x0)) w := by
    obtain ⟨dst, op, ty, pos, aft, grd⟩ := o0
    simp only at h0
    subst h0
    rfl
  unfold Oper.wp
  rw [hrun0, Oper.upon_value, hd0]
  simp only [wpOps, show (0 + 1 : Nat) = 1 from rfl, e1, wanted_none hmg, if_true]
  refine .inl ?_
  have hrun1 : (execOp (a.put (some i0) (a.eval x0)).eval mk).run P w = .ok (.value (.map (some w.heap.size))) (w.alloc (.map #[] 0)) := by
    obtain ⟨dst, op, ty, pos, aft, grd⟩ := mk
    simp only at hmk
    subst hmk
    rfl
  rw [hrun1, Oper.upon_value, hmd]
  have hev : ((a.put (some i0) (a.eval x0)).put (some d) (.map (some w.heap.size))).eval (.tmp d) = .map (some w.heap.size) := by
    have hs : (a.put (some i0) (a.eval x0)).tmps.size = n := he0.size
    simp only [Act.put, Act.eval] at hs ⊢
    have h1 : d < ((a.tmps.setIfInBounds i0 (a.eval x0)).setIfInBounds d (Value.map (some w.heap.size))).size := by simpa using (by simpa using hs : a.tmps.size = n) ▸ hdn
    have h2 : d < a.tmps.size := by simpa using h1
    simp [Array.getD_eq_getD_getElem?, Array.getElem?_eq_getElem h1]
    intro hh
    omega
  refine ins_ok hT hk hev ins [] es 2 #[] 0 (by rw [hops]; rfl) hins rfl (by simpa using hnd) fun ents c hents => ?_
  rw [List.nil_append] at hents
  obtain ⟨hm2, X2⟩ := hm.row_new (.map ents c)
  have hR : R (G.setKd w.heap.size .fixd) (w.alloc (.map ents c)) (.cmap es) (.map (some w.heap.size)) := R_cmap.2 ⟨_, ents, c, rfl, by simp [Gh.setKd], heap_alloc_at w _, hents⟩
  have he2 := (he0.mono X2).put (d := some d) (fun j hj => by cases hj; exact hdn) hR
  exact ops_ok (P := P) (Γ := Γ) (Q := Q) (n := n) hok rest (2 + ins.length) (by rw [hops, show 2 + ins.length = ins.length + 2 by omega]; show (ins ++ rest).drop ins.length = rest; rw [List.drop_left]) X2 hm2 he2 h
end Go.Ab
