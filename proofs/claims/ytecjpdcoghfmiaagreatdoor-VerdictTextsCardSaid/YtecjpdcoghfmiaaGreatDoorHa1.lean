
/- A listed variable that holds a type's handle, as the walks know it. -/
import Derived.Test.YtecjpdcoghfmiaaGreatDoorAb25
import Derived.LaidHandle
import Derived.LaidLaws
import Derived.Lay
set_option linter.all false
namespace Go.Ab
open Go

theorem laid_handles {P : Program} {laid : List (String × DataW Unit)} {W : World} {x : String × DataW Unit} {hs : List (String × DataW Unit)} (h : laidMetH P laid W)
    (hf : (laid.filter fun x => x.2.handleName?.isSome) = x :: hs) : laidMet P (laid.filter fun x => x.2.handleName?.isNone) W ∧ handlesMet P (x :: hs) W := by
  unfold laidMetH at h
  rw [hf] at h
  exact h
theorem laid_vars' {P : Program} {laid : List (String × DataW Unit)} {W : World} (h : laidMet P laid W) : ∃ ps, DataW.LaidVars P W laid ps := by
  obtain ⟨ps, h, _⟩ := h
  exact ⟨ps, h⟩
theorem handle_glob {P : Program} {W : World} {n : String} {d : DataW Unit} {name : List UInt8} {g u ty : Nat} (h : handlesMet P [(n, d)] W) (hfn : d.funcsIn? = none) (hn : d.handleName? = some name) (hg : P.globalNamed n = some g)
    (hu : (P.cutTypes.find? (·.1 == "internal/reflectlite.rtype")).map (·.2) = some u) (hone : ((List.range P.types.size).filter fun t => P.rowNamed t name) = [ty]) :
    GlobR (startG W) W g (.cptr [.iface u (.agg [.ptr (some ⟨P.globals.size, ty, none⟩)])]) := by
  have h1 := h (n, d) (List.mem_singleton.2 rfl)
  simp only [hfn] at h1
  obtain ⟨nm, u', ty', e1, e2, e3, e4, hv⟩ := h1
  rw [hn] at e1
  obtain rfl := Option.some.inj e1
  rw [hu] at e2
  obtain rfl := Option.some.inj e2
  have hm : ty' ∈ (List.range P.types.size).filter fun t => P.rowNamed t name := List.mem_filter.2 ⟨List.mem_range.2 e3, e4⟩
  rw [hone] at hm
  obtain rfl := List.mem_singleton.1 hm
  have hblk : ∃ T fr, W.heap[g]? = some (.cells #[.iface u (.agg #[typeHandle P ty'])] T fr) := by
    simp only [World.var?, hg, Option.bind_some] at hv
    split at hv
    · rename_i c T fr hh
      simp only [Option.some.injEq] at hv
      subst hv
      exact ⟨T, fr, hh⟩
    · cases hv
  obtain ⟨T, fr, hblk⟩ := hblk
  have hlt : g < W.heap.size := (Array.getElem?_eq_some_iff.1 hblk).1
  have hgood : ∀ o, (startG W).good g o := fun o => by
    unfold Gh.good startG
    simp [hlt]
  refine ⟨by simp [startG, hlt], ⟨_, T, fr, hblk, rfl⟩, R_cptr.2 ⟨g, 0, rfl, ?_⟩⟩
  unfold RCells
  refine ⟨hgood _, ⟨.iface u (.agg #[typeHandle P ty']), by simp [World.cell?, hblk], R_iface.2 ⟨_, rfl, R_agg.2 ⟨_, rfl, ?_⟩⟩⟩, by unfold RCells; trivial⟩
  exact RList_cons.2 ⟨_, _, rfl, R_ptr.2 rfl, RList_nil.2 rfl⟩
/-- Listed variables laid over any world. -/
theorem laidMet_over {P : Program} {w0 : World} {laid : List (String × DataW Unit)} (args : Array Value) (hf : w0.layFits P laid [] = true) (hi : w0.layIfaces P laid (w0.layVars P laid) = true) :
    laidMet P laid ((w0.layVars P laid).forCall (fun _ _ => 0) ⟨#[], args, []⟩).memory := by
  have e1 : (laid.filter fun x => (laid.map (·.1)).contains x.1) = laid := List.filter_eq_self.2 fun x hx => List.contains_iff_mem.2 (List.mem_map.2 ⟨x, hx, rfl⟩)
  have e2 : (laid.filter fun x => !(laid.map (·.1)).contains x.1) = [] := List.filter_eq_nil_iff.2 fun x hx => by rw [List.contains_iff_mem.2 (List.mem_map.2 ⟨x, hx, rfl⟩)]; simp
  have h : laidMet P laid (w0.layVars P laid) := laidMet_layVars (w0 := w0) (laid.map (·.1)) [] (by rw [e1]) (by rw [e1]; exact hf) (by rw [e1]; exact hi) (by rw [e2]; exact LaidIn.none)
  exact h.of_heap (by simp [World.memory, World.forCall, Input.heap])
end Go.Ab
