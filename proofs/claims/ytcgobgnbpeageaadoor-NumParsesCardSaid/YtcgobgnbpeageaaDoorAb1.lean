/- Abstract values for the walks: what a value reads as, whatever memory it lies in; what stays when memory grows. Plain definitions and lemmas over the kit's model; no program in sight. -/
import Derived.WalkKit
set_option linter.all false
namespace Go.Ab
open Go

/-- A value as it reads. A slice is the list of its elements' cells, with a token: 0: nothing is known of its room; 1: it has no room beyond its length; else the token of a row that may grow.
 'cptr': a pointer to cells that do not change; 'raw': a slice over a box, whose cells may change. -/
inductive AV where
  | int (k : IntKind) (n : Int)
  | bool (b : Bool)
  | str (l : List UInt8)
  | ptr (a : Option Addr)
  | cptr (cs : List AV)
  | slice (t : Nat) (es : List (List AV))
  | raw (a : Option Addr) (len cap : Nat)
  | iface (t : TypeId) (v : AV)
  | nilIface
  | func (fn : Fn) (first captured : List AV)
  | nilFunc
  | agg (cs : List AV)
  | tuple (vs : List AV)

/-- What is known of a block: nothing; it does not change at all; its first h cells do not change. -/
inductive Kd where
  | free
  | fixd
  | row (h : Nat)

/-- What is known of memory beside the world itself: of each block, and which value each token stands for. -/
structure Gh where
  kd : Nat → Kd
  tk : Nat → Value

def Gh.good (G : Gh) (b o : Nat) : Prop :=
  match G.kd b with
  | .free => False
  | .fixd => True
  | .row h => o < h

mutual
/-- The value v reads as the abstract value. -/
def R (G : Gh) (w : World) : AV → Value → Prop
  | .int k n, v => v = .int k n
  | .bool b, v => v = .bool b
  | .str l, v => v = .string ⟨l.toArray⟩
  | .ptr a, v => v = .pointer a
  | .cptr cs, v => ∃ b o, v = .pointer (some ⟨b, o, none⟩) ∧ RCells G w b o cs
  | .slice t es, v => (t ≠ 0 → t ≠ 1 → v = G.tk t) ∧
      ((es = [] ∧ ∃ a cap, v = .slice a 0 cap ∧ (t = 1 → cap = 0) ∧ (a = none → cap = 0)) ∨
       (∃ b o cap k, v = .slice (some ⟨b, o, none⟩) es.length cap ∧ es.length ≤ cap ∧ (t = 1 → cap = es.length) ∧ es ≠ [] ∧ RElems G w k b o es))
  | .raw a len cap, v => v = .slice a len cap
  | .iface t x, v => ∃ u, v = .iface t u ∧ R G w x u
  | .nilIface, v => v = .nilIface
  | .func fn fs cs, v => ∃ us vs, v = .func fn us vs ∧ RList G w fs us.toList ∧ RList G w cs vs.toList
  | .nilFunc, v => v = .nilFunc
  | .agg cs, v => ∃ us, v = .agg us ∧ RList G w cs us.toList
  | .tuple vs, v => ∃ us, v = .tuple us ∧ RList G w vs us.toList
/-- The cells of block b from o on read so, and do not change. -/
def RCells (G : Gh) (w : World) (b : Nat) : Nat → List AV → Prop
  | _, [] => True
  | o, c :: cs => G.good b o ∧ (∃ u, w.cell? ⟨b, o, none⟩ = some u ∧ R G w c u) ∧ RCells G w b (o + 1) cs
/-- Elements of k cells each. -/
def RElems (G : Gh) (w : World) (k b : Nat) : Nat → List (List AV) → Prop
  | _, [] => True
  | o, e :: es => e.length = k ∧ RCells G w b o e ∧ RElems G w k b (o + k) es
def RList (G : Gh) (w : World) : List AV → List Value → Prop
  | [], vs => vs = []
  | c :: cs, vs => ∃ u us, vs = u :: us ∧ R G w c u ∧ RList G w cs us
end

/-- From (G, w) on nothing that is known has turned. -/
structure Ext (G : Gh) (w : World) (G' : Gh) (w' : World) : Prop where
  os : w'.os = w.os
  tape : w'.tape = w.tape
  output : w'.output = w.output
  size : w.heap.size ≤ w'.heap.size
  fixd : ∀ b, G.kd b = .fixd → G'.kd b = .fixd ∧ w'.heap[b]? = w.heap[b]?
  row : ∀ b h, G.kd b = .row h → (G'.kd b = .fixd ∨ ∃ h', h ≤ h' ∧ G'.kd b = .row h') ∧ ∀ o, o < h → w'.cell? ⟨b, o, none⟩ = w.cell? ⟨b, o, none⟩
  tok : ∀ t, G.tk t ≠ .nilFunc → G'.tk t = G.tk t

theorem Ext.refl (G : Gh) (w : World) : Ext G w G w :=
  ⟨rfl, rfl, rfl, Nat.le_refl _, fun _ h => ⟨h, rfl⟩, fun _ h hk => ⟨.inr ⟨h, Nat.le_refl _, hk⟩, fun _ _ => rfl⟩, fun _ _ => rfl⟩

theorem Ext.good {G G' : Gh} {w w' : World} (h : Ext G w G' w') {b o : Nat} (hg : G.good b o) : G'.good b o ∧ w'.cell? ⟨b, o, none⟩ = w.cell? ⟨b, o, none⟩ := by
  unfold Gh.good at hg ⊢
  cases hk : G.kd b with
  | free => rw [hk] at hg; exact hg.elim
  | fixd =>
    obtain ⟨h1, h2⟩ := h.fixd b hk
    exact ⟨by rw [h1]; trivial, World.cell?_of_block (w := w) h2⟩
  | row n =>
    rw [hk] at hg
    obtain ⟨h1, h2⟩ := h.row b n hk
    refine ⟨?_, h2 o hg⟩
    rcases h1 with h1 | ⟨n', hn, h1⟩
    · rw [h1]; trivial
    · rw [h1]; exact Nat.lt_of_lt_of_le hg hn

theorem Ext.trans {A B C : Gh} {x y z : World} (h : Ext A x B y) (k : Ext B y C z) : Ext A x C z where
  os := k.os.trans h.os
  tape := k.tape.trans h.tape
  output := k.output.trans h.output
  size := Nat.le_trans h.size k.size
  fixd b hb := by
    obtain ⟨h1, h2⟩ := h.fixd b hb
    obtain ⟨k1, k2⟩ := k.fixd b h1
    exact ⟨k1, k2.trans h2⟩
  row b n hb := by
    obtain ⟨h1, h2⟩ := h.row b n hb
    rcases h1 with h1 | ⟨n', hn, h1⟩
    · obtain ⟨k1, k2⟩ := k.fixd b h1
      exact ⟨.inl k1, fun o ho => (World.cell?_of_block (w := y) k2).trans (h2 o ho)⟩
    · obtain ⟨k1, k2⟩ := k.row b n' h1
      refine ⟨?_, fun o ho => (k2 o (by omega)).trans (h2 o ho)⟩
      rcases k1 with k1 | ⟨m, hm, k1⟩
      · exact .inl k1
      · exact .inr ⟨m, by omega, k1⟩
  tok t ht := (k.tok t (by rw [h.tok t ht]; exact ht)).trans (h.tok t ht)

section mono
variable {G G' : Gh} {w w' : World}
mutual
theorem R.mono (X : Ext G w G' w') : ∀ (c : AV) (v : Value), R G w c v → R G' w' c v
  | .int k n, v => fun h => by unfold R at h ⊢; exact h
  | .bool b, v => fun h => by unfold R at h ⊢; exact h
  | .str l, v => fun h => by unfold R at h ⊢; exact h
  | .ptr a, v => fun h => by unfold R at h ⊢; exact h
  | .cptr cs, v => fun h => by
    unfold R at h ⊢
    obtain ⟨b, o, hv, hc⟩ := h
    exact ⟨b, o, hv, RCells.mono X cs b o hc⟩
  | .slice t es, v => fun h => by
    unfold R at h ⊢
    obtain ⟨ht, hc⟩ := h
    refine ⟨fun h0 h1 => ?_, ?_⟩
    · rw [ht h0 h1]
      refine (X.tok t ?_).symm
      intro hn
      have := ht h0 h1
      rw [hn] at this
      subst this
      rcases hc with ⟨_, _, _, hv, _⟩ | ⟨_, _, _, _, hv, _⟩ <;> cases hv
    · rcases hc with hc | ⟨b, o, cap, k, hv, hl, h1, hne, he⟩
      · exact .inl hc
      · exact .inr ⟨b, o, cap, k, hv, hl, h1, hne, RElems.mono X es k b o he⟩
  | .raw a len cap, v => fun h => by unfold R at h ⊢; exact h
  | .iface t x, v => fun h => by
    unfold R at h ⊢
    obtain ⟨u, hv, hx⟩ := h
    exact ⟨u, hv, R.mono X x u hx⟩
  | .nilIface, v => fun h => by unfold R at h ⊢; exact h
  | .func fn fs cs, v => fun h => by
    unfold R at h ⊢
    obtain ⟨us, vs, hv, h1, h2⟩ := h
    exact ⟨us, vs, hv, RList.mono X fs _ h1, RList.mono X cs _ h2⟩
  | .nilFunc, v => fun h => by unfold R at h ⊢; exact h
  | .agg cs, v => fun h => by
    unfold R at h ⊢
    obtain ⟨us, hv, h1⟩ := h
    exact ⟨us, hv, RList.mono X cs _ h1⟩
  | .tuple vs, v => fun h => by
    unfold R at h ⊢
    obtain ⟨us, hv, h1⟩ := h
    exact ⟨us, hv, RList.mono X vs _ h1⟩
theorem RCells.mono (X : Ext G w G' w') : ∀ (cs : List AV) (b o : Nat), RCells G w b o cs → RCells G' w' b o cs
  | [], b, o => fun _ => by unfold RCells; trivial
  | c :: cs, b, o => fun h => by
    unfold RCells at h ⊢
    obtain ⟨hg, ⟨u, hu, hr⟩, hs⟩ := h
    obtain ⟨g, e⟩ := X.good hg
    exact ⟨g, ⟨u, e.trans hu, R.mono X c u hr⟩, RCells.mono X cs b (o + 1) hs⟩
theorem RElems.mono (X : Ext G w G' w') : ∀ (es : List (List AV)) (k b o : Nat), RElems G w k b o es → RElems G' w' k b o es
  | [], k, b, o => fun _ => by unfold RElems; trivial
  | e :: es, k, b, o => fun h => by
    unfold RElems at h ⊢
    obtain ⟨hl, hc, hs⟩ := h
    exact ⟨hl, RCells.mono X e b o hc, RElems.mono X es k b (o + k) hs⟩
theorem RList.mono (X : Ext G w G' w') : ∀ (cs : List AV) (vs : List Value), RList G w cs vs → RList G' w' cs vs
  | [], vs => fun h => by unfold RList at h ⊢; exact h
  | c :: cs, vs => fun h => by
    unfold RList at h ⊢
    obtain ⟨u, us, hv, h1, h2⟩ := h
    exact ⟨u, us, hv, R.mono X c u h1, RList.mono X cs us h2⟩
end
end mono

end Go.Ab
