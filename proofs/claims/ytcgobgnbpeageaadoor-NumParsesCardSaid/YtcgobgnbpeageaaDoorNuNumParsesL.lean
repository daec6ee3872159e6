/- NumParses is so for any text: the row and its card. No condition beyond the row's own. -/
import Derived.Test.YtcgobgnbpeageaaDoorNuX
import Derived.Test.YtcgobgnbpeageaaDoorEr2
import Derived.Test.YtcgobgnbpeageaaDoorCards
import Derived.Test.YtcgobgnbpeageaaDoorTie
import Derived.WalkKit
import Derived.Lay
import Derived.ProofKit
import Derived.OpenShut
import Derived.LaidMore
import Derived.Deep.DeepHandedRow
import Derived.Lib.LaidTab
set_option linter.all false
namespace Go.Proofs.YtcgobgnbpeageaaDoor.Nu.NumParses
open Go Go.ChangeShapes Go.WideShapes Go.ChangeAt Go.RowKit Go.Ab Go.Proofs.YtcgobgnbpeageaaDoor.Nu
/-- What the walks know of the variables. -/
def glob : Nat → AV := fun g => if g = 1 then .cptr (Lib.pow10Tab.map (.int .u64)) else if g = 0 then .cptr [.iface 100 (.cptr [.str [118, 97, 108, 117, 101, 32, 111, 117, 116, 32, 111, 102, 32, 114, 97, 110, 103, 101]])] else .ptr (some ⟨g, 0, none⟩)
theorem glob_tens : Nu.Tens glob := rfl
theorem glob_err : Nu.ErrR glob := ⟨_, rfl⟩
theorem star : "*" ++ "errors.errorString" = "*errors.errorString" := by decide
theorem row_err (u : TypeId) (h : Tryd.prog.typeName? 3 u = some "*errors.errorString") : u = 100 :=
  typeName_ptr_named (nm := "errors.errorString") (by rw [star]; kernel_rfl) (by kernel_rfl) (by decide) u (by rw [star]; exact h)
theorem glob_ok {W : World} (h : laidMetH Tryd.prog Rows.numParsesRow.laid W) : ∀ g, GlobR (startG W) W g (glob g) := by
  have hm := h
  rw [MakeChecks.laidMetH_plain _ _ _ (by kernel_rfl)] at hm
  have he0 : GlobR (startG W) W 0 (.cptr [.iface 100 (.cptr [.str [118, 97, 108, 117, 101, 32, 111, 117, 116, 32, 111, 102, 32, 114, 97, 110, 103, 101]])]) := laid_err (laidMet.tail (laidMet.tail (laidMet.tail (laidMet.tail hm)))) (ti := 33) (by kernel_rfl) (by kernel_rfl) Tryd.underlying33 row_err Tryd.underlying100 Tryd.underlying102 rfl rfl Tryd.underlying9 (by kernel_rfl) (by kernel_rfl)
  obtain ⟨ps, h⟩ := laid_vars (by kernel_rfl) h
  obtain ⟨qs, h⟩ := laid_skip h
  obtain ⟨qs, h⟩ := laid_skip h
  obtain ⟨h0, qs, h⟩ := laid_cons 3 h (g := 1) (t := 82) (by kernel_rfl) (by kernel_rfl) (avs := Lib.pow10Tab.map (.int .u64)) (by kernel_rfl)
  obtain ⟨qs, h⟩ := laid_skip h
  obtain ⟨qs, h⟩ := laid_skip h
  obtain ⟨qs, h⟩ := laid_skip h
  obtain ⟨qs, h⟩ := laid_skip h
  intro g
  unfold glob
  split
  · rename_i hg; subst hg; exact h0
  ·
    split
    · rename_i hg; subst hg; exact he0
    · exact glob_none
theorem own : ownKnob Tryd.prog.godebug = none := by kernel_rfl
def noBulk (H : Type) (_ : DataW H) : Nat := 0
set_option maxRecDepth 100000 in
theorem contract (H : Type) (enc : TypeId × Value → H) (W : World) (base : Nat) (args : Array Value) (ds gs : List (DataW H)) (before : List MemPlace)
    (hval : ∀ (j : Nat) t v, Tryd.f4.params[j]? = some t → args[j]? = some v → Value.okWide Tryd.prog W .any base t v)
    (hW : DataW.Whole enc Tryd.prog Tryd.f4.params.toList Rows.numParsesSpec.vars false W args.toList ds gs before) (hL : laidMetH Tryd.prog Rows.numParsesRow.laid W) :
    Calls Tryd.prog 4 args W fun e W' => ∃ v, e = .returned v ∧ Rows.numParsesSpec.post enc Tryd.prog Tryd.f4 false true false false W args v W' := by
  have hW' := hW
  obtain ⟨p, q, hA0, hV, rfl, hfz, hnd⟩ := hW
  have hA : DataW.TrodAll enc Tryd.prog W 0 (fun _ => true) true Tryd.f4.params.toList args.toList ds p := hA0
  rw [Tryd.params4] at hA hval
  obtain ⟨v0, vs0, d0, ds0, p0, q0, hargs, rfl, rfl, h0, r0⟩ := trodAll_cons hA
  obtain ⟨rfl, rfl, rfl⟩ := trodAll_nil r0
  obtain rfl : args = #[v0] := by cases args; simp_all
  obtain ⟨rfl, rfl⟩ := trodVars_none hV
  obtain ⟨x0, ok0, R0, K0⟩ := (opens_str (bulk := noBulk) Tryd.underlying9).arg h0
  refine (calls_of_abs ((parses_law glob_tens glob_err x0 s0).mono fun v s' h => h.1) (glob_ok hL) (args := #[v0]) ?_).mono fun e W' ⟨he, K⟩ => ?_
  · exact (args_cons (arg_str Tryd.underlying9 (hval 0 _ v0 rfl rfl) R0) args_nil)
  · subst he
    refine ⟨_, rfl, post_true rfl rfl hW' (tb := 4) (by kernel_rfl) Tryd.underlying4 (fun p hp => trodAll_keep K ?_ hp) K⟩
    rw [Tryd.params4]
    exact (all_cons (opens_str (bulk := noBulk) Tryd.underlying9).keeps all_nil)

theorem door_met (os : Os) (args : Array Value) : laidMet Tryd.prog Rows.numParsesRow.laid ((World.laidAll Tryd.prog os Rows.numParsesRow.laid).forCall (fun _ _ => 0) ⟨#[], args, []⟩).memory :=
  laidMet_laidAll args (by kernel_rfl) (by kernel_rfl)
def wargs : Array Value := #[.string ⟨#[]⟩]
theorem reads (os : Os) {H : Type} (enc : TypeId × Value → H) : ∃ places, DataW.whole enc Tryd.prog ((World.laidAll Tryd.prog os Rows.numParsesRow.laid).forCall (fun _ _ => 0) ⟨#[], wargs, []⟩).memory Tryd.f4.params.toList Rows.numParsesSpec.vars false wargs.toList 8 = some ([.lit (.string [])], [], places) :=
  ⟨[], by kernel_rfl⟩
set_option maxRecDepth 100000 in
theorem lifted (os : Os) (started : os.Started) (H : Type) (enc : TypeId × Value → H) (F : Stop.Interp) :
    ReturnsInHanded {} Tryd.checked os 4 .any ((OpenSpec.ofChange Rows.numParsesSpec).preRow enc Tryd.prog Tryd.f4 Rows.numParsesRow.domain false Rows.numParsesRow.laid) (((OpenSpec.ofChange Rows.numParsesSpec).at F).post enc Tryd.prog Tryd.f4 false true false false) := by
  obtain ⟨places, hx⟩ := reads os enc
  refine returnsInHanded_of_row (C := Tryd.checked) (s := (OpenSpec.ofChange Rows.numParsesSpec)) own started (by kernel_rfl) Tryd.func4
    (witness_row_at (enc := enc) (C := Tryd.checked) false (World.laidAll Tryd.prog os Rows.numParsesRow.laid) wargs (World.laidAll_os _ _ _) (by kernel_rfl) (by kernel_rfl) (by kernel_rfl)
      (OpenSpec.preRow_of_cond 8 hx (by kernel_rfl) (fun k hk => by cases hk) (by kernel_rfl) (door_met os _))) ?_
  intro W base args ds gs before hval hW _ hcond _ hL _ _
  exact contract H enc W base args ds gs before hval hW hL
theorem said : Rows.NumParsesSaid :=
  OpenClaim.holds_of_cond 4 Tryd.f4 rfl rfl rfl rfl rfl rfl rfl ⟨rfl, rfl, rfl, rfl, rfl⟩ rfl rfl rfl rfl rfl (by kernel_rfl) Tryd.func4 (by kernel_rfl)
    (of_decide_eq_true (by kernel_rfl)) (by unfold Func.isWrapper; first | (rw [if_pos (by decide +kernel)]; kernel_rfl) | (rw [if_neg (by decide +kernel)]; exact ⟨rfl, rfl⟩))
    (fun os started H enc _ F => by rw [OpenClaim.pre_eq_preRow]; exact lifted os started H enc F)
theorem plainArgs (f : FuncId) (fn : Func) (hf : Tryd.pinned.checked.prog.funcNamed "proctor/proctorlaw01.NumParses" = some f) (hfn : Tryd.pinned.checked.prog.funcs[f]? = some fn) :
    true = Tryd.pinned.checked.prog.looks [] ∧ ∀ (j : Nat) t, fn.params[j]? = some t → Tryd.pinned.checked.prog.wantsStandIn t = false := by
  obtain rfl : f = 4 := Option.some.inj ((show Tryd.prog.funcNamed "proctor/proctorlaw01.NumParses" = some 4 by kernel_rfl).symm.trans hf) |>.symm
  obtain rfl : fn = Tryd.f4 := (Option.some.inj (Tryd.func4.symm.trans hfn)).symm
  refine ⟨by kernel_rfl, fun j t ht => ?_⟩
  have hall : (Tryd.f4.params.toList.all fun u => !Tryd.prog.wantsStandIn u) = true := by kernel_rfl
  exact (show Tryd.prog.wantsStandIn t = false by simpa using List.all_eq_true.1 hall t (by simpa using Array.mem_of_getElem? ht))
theorem card : Rows.NumParsesCardSaid :=
  Claim7.holds_tied_plain_at .later [] _ _ _ _ said (fun _ h => by cases h) (by kernel_rfl) (fun _ h => by cases h) numParses_row_tie rfl ⟨rfl, rfl⟩ (by kernel_rfl) rfl plainArgs (by kernel_rfl)
#print axioms card
end Go.Proofs.YtcgobgnbpeageaaDoor.Nu.NumParses
