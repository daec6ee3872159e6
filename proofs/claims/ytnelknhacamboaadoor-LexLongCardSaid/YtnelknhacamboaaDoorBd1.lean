
/- strings.Builder, said of abstract values: a box of two cells, its own address and its buffer. -/
import Derived.Test.YtnelknhacamboaaDoorAb21
import Derived.Test.YtnelknhacamboaaDoorChecked
import Derived.Lib.Builder
import Derived.Lib.UnsafeStr
import Derived.Shelf.RegionOpenPlain
set_option linter.all false
namespace Go.Proofs.YtnelknhacamboaaDoor.Bd
open Go Go.Ab Go.RowKit
variable {Γ : Nat → AV}
set_option maxRecDepth 10000

section
variable {G : Gh} {s : Sto} {w : World}
theorem set_self {b : Nat} {T : TypeId} {cs : List AV} (h : s.bx b = some (T, cs)) : s.set b T cs = s := by
  cases s
  simp only [Sto.set, Sto.mk.injEq, and_true]
  funext i
  split
  · rename_i hi; subst hi; exact h.symm
  · rfl

end

section
variable {G : Gh} {s : Sto} {w : World}
/-- The row of a token is frozen: the token is spent. -/
def Sto.spend (s : Sto) (t : Nat) : Sto := { s with lv := fun u e k => s.lv u e k ∧ u ≠ t }

theorem freeze_cell (w : World) (a : Addr) (n : Nat) (x : Addr) : (w.freeze a n).cell? x = w.cell? x := by
  unfold World.freeze
  split
  · rfl
  · unfold World.cell?
    simp only [Array.getElem?_modify]
    by_cases h : a.block = x.block
    · rw [if_pos h]
      cases w.heap[x.block]? with
      | none => rfl
      | some o => cases o <;> simp
    · rw [if_neg h]
theorem freeze_other (w : World) (a : Addr) (n : Nat) (b : Nat) (h : b ≠ a.block) : (w.freeze a n).heap[b]? = w.heap[b]? := by
  unfold World.freeze
  split
  · rfl
  · simp only [Array.getElem?_modify]
    rw [if_neg (fun e => h e.symm)]
theorem freeze_size (w : World) (a : Addr) (n : Nat) : (w.freeze a n).heap.size = w.heap.size := by
  unfold World.freeze
  split <;> simp
theorem freeze_os (w : World) (a : Addr) (n : Nat) : (w.freeze a n).os = w.os ∧ (w.freeze a n).tape = w.tape ∧ (w.freeze a n).output = w.output := by
  unfold World.freeze
  split <;> exact ⟨rfl, rfl, rfl⟩

theorem Mod.frozen (hm : Mod Γ G s w) {t g n : Nat} {e : TypeId} {k : Nat} (hl : s.lv t e k) (ht : Top G w t g e k) : Mod Γ G (Sto.spend s t) (w.freeze ⟨g, 0, none⟩ n) ∧ Ext G w G (w.freeze ⟨g, 0, none⟩ n) := by
  have hkd : ∃ r, G.kd g = .row r := by
    obtain ⟨_, _, _, _, _, h3, _⟩ := ht
    exact ⟨_, h3⟩
  obtain ⟨r, hkd⟩ := hkd
  obtain ⟨o1, o2, o3⟩ := freeze_os w ⟨g, 0, none⟩ n
  have X : Ext G w G (w.freeze ⟨g, 0, none⟩ n) := ⟨o1, o2, o3, by rw [freeze_size]; exact Nat.le_refl _,
    fun b hb => ⟨hb, freeze_other _ _ _ _ (by rintro rfl; rw [hkd] at hb; cases hb)⟩,
    fun b h hb => ⟨.inr ⟨h, Nat.le_refl _, hb⟩, fun o _ => freeze_cell _ _ _ _⟩, fun _ _ => rfl⟩
  have other : ∀ {u b e' k'}, s.lv u e' k' → u ≠ t → Top G w u b e' k' → b ≠ g := by
    rintro u b e' k' hu hne h rfl
    exact hne (hm.apart u t b e' k' e k hu hl h ht)
  refine ⟨⟨fun i => (hm.glob i).mono X, ?_, ?_, ?_, ?_, hm.fin⟩, X⟩
  · intro b T cs hb
    obtain ⟨h1, vs, h2, h3⟩ := hm.box b T cs hb
    exact ⟨h1, vs, (freeze_other _ _ _ _ (by rintro rfl; rw [hkd] at h1; cases h1)).trans h2, h3.mono X _ _⟩
  · intro b hb
    rw [freeze_size]; exact hm.dom b hb
  · rintro u e' k' ⟨hu, hne⟩
    obtain ⟨h0, h1, b, h2⟩ := hm.live u e' k' hu
    exact ⟨h0, h1, b, h2.mono rfl rfl (freeze_other _ _ _ _ (other hu hne h2))⟩
  · rintro u v b e1 k1 e2 k2 ⟨hu, hne⟩ ⟨hv, hne'⟩ h1 h2
    by_cases hb : b = g
    · subst hb
      exfalso
      obtain ⟨_, _, b', h3⟩ := hm.live u e1 k1 hu
      have hb' := other hu hne h3
      obtain ⟨_, _, _, h4, _⟩ := h1
      obtain ⟨_, _, _, h5, _⟩ := h3
      rw [h4] at h5
      injection h5 with h5; injection h5 with h5; injection h5 with h5
      exact hb' h5.symm
    · have hh := freeze_other w ⟨g, 0, none⟩ n b hb
      exact hm.apart u v b e1 k1 e2 k2 hu hv (h1.mono rfl rfl hh.symm) (h2.mono rfl rfl hh.symm)

theorem bytes_inv : ∀ {l : List UInt8} {os : List Value}, RList G w (bytesA l).flatten os → os = Lib.byteCells l
  | [], os, h => RList_nil.1 h
  | x :: l, os, h => by
    have h : RList G w (.int .u8 x.toNat :: (bytesA l).flatten) os := h
    obtain ⟨u, us, rfl, hu, hus⟩ := RList_cons.1 h
    rw [R_int] at hu
    rw [hu, bytes_inv hus]
    rfl
end

attribute [local irreducible] APure Sto.set Sto.grow
set_option maxRecDepth 10000

end Go.Proofs.YtnelknhacamboaaDoor.Bd
