
/- A variable that is not listed, but whose shape is known: it holds a number. -/
import Derived.Test.YthgpipfkcbekiaaDoorAb25
import Derived.ShapedOpen
set_option linter.all false
namespace Go.Ab
open Go

theorem shaped_glob {P : Program} {W : World} {g : Nat} {zero : Array Value} {t : TypeId} (h : W.ShapedOpen P) (hg : g < P.globals.size)
    (hr : ((begin P (fun _ _ => 0) default).world.heap[g]?).bind Obj.row? = some (zero, t)) (hz : zero.size = 1) {m : Int} (hc : W.cell? ⟨g, 0, none⟩ = some (.int .i64 m)) :
    GlobR (startG W) W g (.cptr [.int .i64 m]) := by
  obtain ⟨cs, h1, h2, _⟩ := h.1 g zero t hg hr
  have hlt : g < W.heap.size := (cell_lt hc).1
  refine ⟨by simp [startG, hlt], ⟨_, t, _, h1, by rw [h2, hz]; rfl⟩, R_cptr.2 ⟨g, 0, rfl, ?_⟩⟩
  unfold RCells
  refine ⟨?_, ⟨_, hc, R_int.2 rfl⟩, by unfold RCells; trivial⟩
  unfold Gh.good startG
  simp [hlt]
end Go.Ab
