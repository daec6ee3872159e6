/- Slices of a box's elements: nil is one; what is appended onto one stays one. -/
import Derived.Test.YtcgobgnbpeageaaDoorAb24
set_option linter.all false
namespace Go.Ab
open Go

section
variable {P : Program} {Γ : Nat → AV} {n : Nat} {Q : Exit → Env → Sto → Prop} {e : Env} {s : Sto}

/-- A slot that holds nil may be read as a slice over a box that has no room. -/
theorem AWp.nilRaw {c : Code} (i : Nat) (hi : e i = .slice 1 []) (h : ∀ a, AWp P Γ n c Q (upd e i (.raw a 0 0)) s) : AWp P Γ n c Q e s := by
  refine ⟨fun G w act hm hE => ?_⟩
  have hr := hE.at_ i
  rw [hi] at hr
  obtain ⟨a, cap, hv, hc, _, _, h1⟩ := slice_val hr
  have hc0 : cap = 0 := h1 rfl
  subst hc0
  refine (h a).run G w act hm ⟨hE.size, fun j => ?_, hE.defers⟩
  unfold upd
  split
  · rename_i hj
    subst hj
    exact R_raw.2 (by simpa using hv)
  · exact hE.at_ j
end
end Go.Ab
