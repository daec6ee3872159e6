/- A listed variable that holds an error of errors.New's, as the walks know it. -/
import Derived.Test.YtcgobgnbpeageaaDoorAb25
import Derived.Stop.LaidErr
import Derived.LaidLaws
set_option linter.all false
namespace Go.Ab
open Go

theorem laid_err {P : Program} {n nm : String} {text : List UInt8} {r : List (String × DataW Unit)} {W : World} {g : Nat} {ti tp te ts : TypeId} {ms : Array (String × TypeId)} {f : Field}
    (h : laidMet P ((n, .iface nm (.ptr (.agg [.lit (.string text)]))) :: r) W)
    (hg : P.globalNamed n = some g) (ht : (P.globals[g]?).map (·.type) = some ti) (hi : P.underlying ti = some (.interface ms)) (hrow : ∀ u, P.typeName? 3 u = some nm → u = tp)
    (hp : P.underlying tp = some (.pointer te)) (he : P.underlying te = some (.struct #[f])) (hft : f.type = ts) (hfo : f.offset = 0) (hs : P.underlying ts = some .string) (hc : P.cellsOf te = 1) (hcs : P.cellsOf ts = 1) :
    GlobR (startG W) W g (.cptr [.iface tp (.cptr [.str text])]) := by
  obtain ⟨a, s, hv, hcell, hst, _⟩ := laid_sentinel h hg ht hi hrow hp he hft hfo hs hc hcs
  have hcg := World.var?_cell hg hv 0
  have hlt : ∀ (x : Addr) (v : Value), W.cell? x = some v → x.block < W.heap.size ∧ x.spot = none := by
    intro x v hx
    unfold World.cell? at hx
    split at hx
    · rename_i hh
      split at hx
      · cases hx
      · rename_i hsp
        exact ⟨(Array.getElem?_eq_some_iff.1 hh).1, by simpa using hsp⟩
    · cases hx
  obtain ⟨hb1, hsp⟩ := hlt a _ hcell
  have hg0 : W.cell? ⟨g, 0, none⟩ = some (.iface tp (.pointer (some a))) := by rw [hcg]; rfl
  obtain ⟨hb0, _⟩ := hlt _ _ hg0
  obtain ⟨ab, ao, asp⟩ := a
  dsimp only at hsp hb1
  subst hsp
  have hgood : ∀ b o, b < W.heap.size → (startG W).good b o := fun b o hb => by
    unfold Gh.good startG
    simp [hb]
  have hblk : ∃ T fr, W.heap[g]? = some (.cells #[.iface tp (.pointer (some ⟨ab, ao, none⟩))] T fr) := by
    simp only [World.var?, hg, Option.bind_some] at hv
    split at hv
    · rename_i c T fr hh
      simp only [Option.some.injEq] at hv
      subst hv
      exact ⟨T, fr, hh⟩
    · cases hv
  obtain ⟨T, fr, hblk⟩ := hblk
  refine ⟨by simp [startG, hb0], ⟨_, T, fr, hblk, rfl⟩, R_cptr.2 ⟨g, 0, rfl, ?_⟩⟩
  have inner : R (startG W) W (.cptr [.str text]) (.pointer (some ⟨ab, ao, none⟩)) := by
    refine R_cptr.2 ⟨ab, ao, rfl, ?_⟩
    unfold RCells
    refine ⟨hgood _ _ hb1, ⟨_, hcell, R_str.2 ?_⟩, by unfold RCells; trivial⟩
    subst hst
    rfl
  unfold RCells
  exact ⟨hgood _ _ hb0, ⟨_, hg0, R_iface.2 ⟨_, rfl, inner⟩⟩, by unfold RCells; trivial⟩
end Go.Ab
