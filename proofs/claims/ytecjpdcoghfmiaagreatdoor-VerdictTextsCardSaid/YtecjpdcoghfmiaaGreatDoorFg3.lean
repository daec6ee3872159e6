/- Boxes that stay as they are from now on: a pointer to one is a pointer to cells that do not change; a slice over one is a slice of values. So a call that hands back a new box leaves the store alone. -/
import Derived.Test.YtecjpdcoghfmiaaGreatDoorFg2
set_option linter.all false
namespace Go.Ab
open Go Go.RowKit
variable {P : Program} {Γ : Nat → AV}
/-- Which boxes stay, and what they hold, in elements of so many cells. -/
abbrev Frz := Nat → Option (Nat × List AV)
def fzP (m : Frz) : Option Addr → AV
  | some ⟨b, o, none⟩ => (match m b with | some (_, cs) => .cptr (cs.drop o) | none => .ptr (some ⟨b, o, none⟩))
  | a => .ptr a
def fzW (m : Frz) : Option Addr → Nat → Nat → AV
  | some ⟨b, o, none⟩, len, cap => (match m b with
    | some (k, cs) => if len ≤ cap ∧ len * k ≤ (cs.drop o).length then .slice 0 (chunks k len (cs.drop o)) else .raw (some ⟨b, o, none⟩) len cap
    | none => .raw (some ⟨b, o, none⟩) len cap)
  | a, len, cap => .raw a len cap
mutual
def fz (m : Frz) : AV → AV
  | .int k n => .int k n
  | .bool b => .bool b
  | .str l => .str l
  | .ptr a => fzP m a
  | .cptr cs => .cptr (fzL m cs)
  | .slice t es => .slice t (fzE m es)
  | .raw a l c => fzW m a l c
  | .iface t v => .iface t (fz m v)
  | .nilIface => .nilIface
  | .func fn fs cs => .func fn (fzL m fs) (fzL m cs)
  | .nilFunc => .nilFunc
  | .agg cs => .agg (fzL m cs)
  | .tuple vs => .tuple (fzL m vs)
def fzL (m : Frz) : List AV → List AV
  | [] => []
  | c :: cs => fz m c :: fzL m cs
def fzE (m : Frz) : List (List AV) → List (List AV)
  | [] => []
  | e :: es => fzL m e :: fzE m es
end
theorem fzL_len (m : Frz) : ∀ l : List AV, (fzL m l).length = l.length
  | [] => by unfold fzL; rfl
  | c :: cs => by unfold fzL; rw [List.length_cons, List.length_cons, fzL_len m cs]
theorem fzE_len (m : Frz) : ∀ l : List (List AV), (fzE m l).length = l.length
  | [] => by unfold fzE; rfl
  | c :: cs => by unfold fzE; rw [List.length_cons, List.length_cons, fzE_len m cs]
theorem fzE_nil (m : Frz) : fzE m [] = [] := by unfold fzE; rfl
theorem fzE_ne {m : Frz} {l : List (List AV)} (h : l ≠ []) : fzE m l ≠ [] := fun hn => h (List.eq_nil_of_length_eq_zero (by rw [← fzE_len m, hn]; rfl))
theorem fzE_map {m : Frz} {α : Type} {A : α → List AV} (h : ∀ x, fzL m (A x) = A x) : ∀ l : List α, fzE m (l.map A) = l.map A
  | [] => by rw [List.map_nil, fzE_nil]
  | x :: l => by rw [List.map_cons, fzE, h, fzE_map h l]
section
variable {G : Gh} {w : World} {m : Frz}
theorem R.fzP (hm : ∀ b k cs, m b = some (k, cs) → RCells G w b 0 cs) {a : Option Addr} {v : Value} (h : R G w (.ptr a) v) : R G w (fzP m a) v := by
  unfold Go.Ab.fzP
  split
  · rename_i b o
    split
    · rename_i k cs hb
      rw [R_ptr] at h
      subst h
      have := RCells_drop o cs b 0 (hm b k cs hb)
      rw [Nat.zero_add] at this
      exact R_cptr.2 ⟨b, o, rfl, this⟩
    · exact h
  · exact h
theorem R.fzW (hm : ∀ b k cs, m b = some (k, cs) → RCells G w b 0 cs) {a : Option Addr} {len cap : Nat} {v : Value} (h : R G w (.raw a len cap) v) : R G w (fzW m a len cap) v := by
  unfold Go.Ab.fzW
  split
  · rename_i b o
    split
    · rename_i k cs hb
      split
      · rename_i hl
        rw [R_raw] at h
        subst h
        have hc := RCells_drop o cs b 0 (hm b k cs hb)
        rw [Nat.zero_add] at hc
        have := R_slice0 (G := G) (w := w) (es := chunks k len (cs.drop o)) (a := some ⟨b, o, none⟩) (cap := cap) (by rw [length_chunks]; exact hl.1) (fun h => by cases h) (fun _ => ⟨b, o, k, rfl, RElems_chunks k len _ hc hl.2⟩)
        rwa [length_chunks] at this
      · exact h
    · exact h
  · exact h
mutual
theorem R.fz (hm : ∀ b k cs, m b = some (k, cs) → RCells G w b 0 cs) : ∀ (c : AV) (v : Value), R G w c v → R G w (fz m c) v
  | .int k n, v => fun h => by unfold Go.Ab.fz; exact h
  | .bool b, v => fun h => by unfold Go.Ab.fz; exact h
  | .str l, v => fun h => by unfold Go.Ab.fz; exact h
  | .ptr a, v => fun h => by unfold Go.Ab.fz; exact R.fzP hm h
  | .cptr cs, v => fun h => by
    unfold Go.Ab.fz
    unfold R at h ⊢
    obtain ⟨b, o, hv, hc⟩ := h
    exact ⟨b, o, hv, RCells.fz hm cs b o hc⟩
  | .slice t es, v => fun h => by
    unfold Go.Ab.fz
    unfold R at h ⊢
    refine ⟨h.1, ?_⟩
    rcases h.2 with ⟨he, a, cap, hv, h1, h2⟩ | ⟨b, o, cap, k, hv, h1, h2, h3, h4⟩
    · exact .inl ⟨by rw [he, fzE_nil], a, cap, hv, h1, h2⟩
    · exact .inr ⟨b, o, cap, k, by rw [fzE_len]; exact hv, by rw [fzE_len]; exact h1, (fun h => by rw [fzE_len]; exact h2 h), fzE_ne h3, RElems.fz hm es k b o h4⟩
  | .raw a len cap, v => fun h => by unfold Go.Ab.fz; exact R.fzW hm h
  | .iface t x, v => fun h => by
    unfold Go.Ab.fz
    unfold R at h ⊢
    obtain ⟨u, hv, hx⟩ := h
    exact ⟨u, hv, R.fz hm x u hx⟩
  | .nilIface, v => fun h => by unfold Go.Ab.fz; exact h
  | .func fn fs cs, v => fun h => by
    unfold Go.Ab.fz
    unfold R at h ⊢
    obtain ⟨us, vs, hv, h1, h2⟩ := h
    exact ⟨us, vs, hv, RList.fz hm fs _ h1, RList.fz hm cs _ h2⟩
  | .nilFunc, v => fun h => by unfold Go.Ab.fz; exact h
  | .agg cs, v => fun h => by
    unfold Go.Ab.fz
    unfold R at h ⊢
    obtain ⟨us, hv, h1⟩ := h
    exact ⟨us, hv, RList.fz hm cs _ h1⟩
  | .tuple vs, v => fun h => by
    unfold Go.Ab.fz
    unfold R at h ⊢
    obtain ⟨us, hv, h1⟩ := h
    exact ⟨us, hv, RList.fz hm vs _ h1⟩
theorem RCells.fz (hm : ∀ b k cs, m b = some (k, cs) → RCells G w b 0 cs) : ∀ (cs : List AV) (b o : Nat), RCells G w b o cs → RCells G w b o (fzL m cs)
  | [], b, o => fun _ => by unfold fzL; unfold RCells; trivial
  | c :: cs, b, o => fun h => by
    unfold fzL
    unfold RCells at h ⊢
    obtain ⟨hg, ⟨u, hu, hr⟩, hs⟩ := h
    exact ⟨hg, ⟨u, hu, R.fz hm c u hr⟩, RCells.fz hm cs b (o + 1) hs⟩
theorem RElems.fz (hm : ∀ b k cs, m b = some (k, cs) → RCells G w b 0 cs) : ∀ (es : List (List AV)) (k b o : Nat), RElems G w k b o es → RElems G w k b o (fzE m es)
  | [], k, b, o => fun _ => by unfold fzE; unfold RElems; trivial
  | e :: es, k, b, o => fun h => by
    unfold fzE
    unfold RElems at h ⊢
    obtain ⟨hl, hc, hs⟩ := h
    exact ⟨(fzL_len m e).trans hl, RCells.fz hm e b o hc, RElems.fz hm es k b (o + k) hs⟩
theorem RList.fz (hm : ∀ b k cs, m b = some (k, cs) → RCells G w b 0 cs) : ∀ (cs : List AV) (vs : List Value), RList G w cs vs → RList G w (fzL m cs) vs
  | [], vs => fun h => by unfold fzL; exact h
  | c :: cs, vs => fun h => by
    unfold fzL
    unfold RList at h ⊢
    obtain ⟨u, us, hv, h1, h2⟩ := h
    exact ⟨u, us, hv, R.fz hm c u h1, RList.fz hm cs us h2⟩
end
end
/-- Boxes that are nobody's from now on stay as they are. -/
theorem Mod.freeze {G : Gh} {w : World} {s s' : Sto} {m : Frz} (hM : Mod Γ G s' w) (hs : Sub s s') (hf : ∀ b k cs, m b = some (k, cs) → s.bx b = none ∧ ∃ T, s'.bx b = some (T, cs)) :
    ∃ G', Mod Γ G' s w ∧ Ext G w G' w ∧ ∀ b k cs, m b = some (k, cs) → RCells G' w b 0 cs := by
  let G' : Gh := ⟨fun b => if (m b).isSome then .fixd else G.kd b, G.tk⟩
  have e1 : ∀ b, (m b).isSome = true → G'.kd b = .fixd := fun b h => by show (if (m b).isSome then Kd.fixd else _) = _; rw [if_pos h]
  have e2 : ∀ b, ¬ (m b).isSome = true → G'.kd b = G.kd b := fun b h => by show (if (m b).isSome then Kd.fixd else _) = _; rw [if_neg h]
  have hfree : ∀ b, (m b).isSome = true → G.kd b = .free := fun b h => by
    obtain ⟨⟨k, cs⟩, hx⟩ := Option.isSome_iff_exists.1 h
    obtain ⟨_, T, hT⟩ := hf b k cs hx
    exact (hM.box b T cs hT).1
  have hrow : ∀ b n, G'.kd b = .row n → G.kd b = .row n := fun b n h => by
    by_cases hb : (m b).isSome = true
    · rw [e1 b hb] at h; cases h
    · rwa [e2 b hb] at h
  have hrow' : ∀ b n, G.kd b = .row n → G'.kd b = .row n := fun b n h => by
    by_cases hb : (m b).isSome = true
    · rw [hfree b hb] at h; cases h
    · rwa [e2 b hb]
  have X : Ext G w G' w := ⟨rfl, rfl, rfl, Nat.le_refl _, fun b h => ⟨by
      by_cases hb : (m b).isSome = true
      · exact e1 b hb
      · rwa [e2 b hb], rfl⟩, fun b n h => ⟨.inr ⟨n, Nat.le_refl _, hrow' b n h⟩, fun _ _ => rfl⟩, fun _ _ => rfl⟩
  have hm0 := hM.sub hs
  have top : ∀ {t b : Nat} {e : TypeId} {k : Nat}, Top G' w t b e k ↔ Top G w t b e k := fun {t b e k} =>
    ⟨fun ⟨len, cap, c, h1, h2, h3, h4, h5⟩ => ⟨len, cap, c, h1, h2, hrow _ _ h3, h4, h5⟩, fun ⟨len, cap, c, h1, h2, h3, h4, h5⟩ => ⟨len, cap, c, h1, h2, hrow' _ _ h3, h4, h5⟩⟩
  refine ⟨G', ⟨fun g => (hm0.glob g).mono X, ?_, ?_, ?_, ?_, hm0.fin⟩, X, ?_⟩
  · intro b T cs hb
    obtain ⟨h1, vs, h2, h3⟩ := hm0.box b T cs hb
    have hn : ¬ (m b).isSome = true := fun h => by
      obtain ⟨⟨k, cs⟩, hx⟩ := Option.isSome_iff_exists.1 h
      rw [(hf b k cs hx).1] at hb
      cases hb
    exact ⟨(e2 b hn).trans h1, vs, h2, h3.mono X _ _⟩
  · intro b hb
    by_cases h : (m b).isSome = true
    · obtain ⟨⟨k, cs⟩, hx⟩ := Option.isSome_iff_exists.1 h
      obtain ⟨_, T, hT⟩ := hf b k cs hx
      exact box_lt hM hT
    · rw [e2 b h] at hb
      exact hm0.dom b hb
  · intro t e k ht
    obtain ⟨h0, h1, b, h2⟩ := hm0.live t e k ht
    exact ⟨h0, h1, b, top.2 h2⟩
  · intro t u b e k e' k' ht hu h1 h2
    exact hm0.apart t u b e k e' k' ht hu (top.1 h1) (top.1 h2)
  · intro b k cs hb
    obtain ⟨_, T, hT⟩ := hf b k cs hb
    obtain ⟨_, vs, h2, h3⟩ := hM.box b T cs hT
    refine RCells_new (e1 b (by rw [hb]; rfl)) cs vs 0 (h3.mono X _ _) fun j u hj => ?_
    rw [Nat.zero_add]
    simp [World.cell?, h2, hj]
theorem ACalls.frz {f : FuncId} {args : List AV} {s : Sto} {φ ψ : AV → Sto → Prop} (h : ACalls P Γ f args s φ)
    (hk : ∀ v s', φ v s' → ∃ m s'', (∀ b k cs, m b = some (k, cs) → s''.bx b = none ∧ ∃ T, s'.bx b = some (T, cs)) ∧ Sub s'' s' ∧ ψ (fg (fz m v)) s'') : ACalls P Γ f args s ψ :=
  ⟨fun G w vs hm hr => (h.run G w vs hm hr).mono fun e w' ⟨v, av, s', G', he, hφ, hR, hM, hX⟩ => by
    obtain ⟨m, s'', h1, h2, h3⟩ := hk av s' hφ
    obtain ⟨G'', hM', X', hc⟩ := hM.freeze h2 h1
    exact ⟨v, _, s'', G'', he, h3, R.fg _ _ (R.fz hc _ _ (hR.mono X' _ _)), hM', hX.trans X'⟩⟩
/-- A call that hands back what it made, new boxes, too. -/
theorem APure.frz {f : FuncId} {args : List AV} {r : AV} (h : ∀ s, ACalls P Γ f args s fun v s' => ∃ m, (∀ b k cs, m b = some (k, cs) → s.bx b = none ∧ ∃ T, s'.bx b = some (T, cs)) ∧ fg (fz m v) = r ∧ Sub s s') : APure P Γ f args fun v => v = r :=
  fun s => (h s).frz fun _ _ ⟨m, h1, h2, h3⟩ => ⟨m, s, h1, h3, h2, rfl⟩
/-- One box. -/
def fz1 (b k : Nat) (cs : List AV) : Frz := fun c => if c = b then some (k, cs) else none
theorem fz1_at (b k : Nat) (cs : List AV) : fz1 b k cs b = some (k, cs) := if_pos rfl
theorem fz1_of {s s' : Sto} {b k : Nat} {T : TypeId} {cs : List AV} (h : s.bx b = none) (h' : s'.bx b = some (T, cs)) : ∀ c j ds, fz1 b k cs c = some (j, ds) → s.bx c = none ∧ ∃ T, s'.bx c = some (T, ds) := by
  intro c j ds hc
  unfold fz1 at hc
  split at hc
  · rename_i he
    subst he
    simp only [Option.some.injEq, Prod.mk.injEq] at hc
    obtain ⟨_, rfl⟩ := hc
    exact ⟨h, T, h'⟩
  · cases hc
def fz0 : Frz := fun _ => none
theorem fz0_of {s s' : Sto} : ∀ c j ds, fz0 c = some (j, ds) → s.bx c = none ∧ ∃ T, s'.bx c = some (T, ds) := fun _ _ _ h => by cases h
mutual
theorem fz0_id : ∀ v : AV, fz fz0 v = v
  | .int _ _ => by unfold fz; rfl
  | .bool _ => by unfold fz; rfl
  | .str _ => by unfold fz; rfl
  | .ptr a => by
    unfold fz fzP
    split <;> rfl
  | .cptr cs => by unfold fz; rw [fz0_idL cs]
  | .slice t es => by unfold fz; rw [fz0_idE es]
  | .raw a l c => by
    unfold fz fzW
    split <;> rfl
  | .iface t v => by unfold fz; rw [fz0_id v]
  | .nilIface => by unfold fz; rfl
  | .func fn fs cs => by unfold fz; rw [fz0_idL fs, fz0_idL cs]
  | .nilFunc => by unfold fz; rfl
  | .agg cs => by unfold fz; rw [fz0_idL cs]
  | .tuple vs => by unfold fz; rw [fz0_idL vs]
theorem fz0_idL : ∀ l : List AV, fzL fz0 l = l
  | [] => by unfold fzL; rfl
  | c :: cs => by unfold fzL; rw [fz0_id c, fz0_idL cs]
theorem fz0_idE : ∀ l : List (List AV), fzE fz0 l = l
  | [] => by unfold fzE; rfl
  | c :: cs => by unfold fzE; rw [fz0_idL c, fz0_idE cs]
end
end Go.Ab
