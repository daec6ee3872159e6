
import Derived.Test.YtdhgappjicpglaaGreatDoorG4
import Derived.Test.YtdhgappjicpglaaGreatDoorCards
import Derived.Test.YtdhgappjicpglaaGreatDoorTie
import Derived.WalkKit
import Derived.LaidHandle
import Derived.Lay
import Derived.ProofKit
import Derived.OpenShut
import Derived.LaidMore
import Derived.Deep.DeepHandedRow
import Derived.Lib.LaidTab
set_option linter.all false
namespace Go.Proofs.YtdhgappjicpglaaGreatDoor.Pr.PrintLevels
open Go Go.ChangeShapes Go.WideShapes Go.ChangeAt Go.RowKit Go.Ab
/-- What the walks know of the variables. -/
def glob : Nat → AV := fun g => if g = 6 then .cptr (Lib.pow10Tab.map (.int .u64)) else if g = 2 then .cptr ([.int .u8 34, .int .u8 92, .int .u8 10, .int .u8 13, .int .u8 9]) else if g = 3 then .cptr ([.int .u8 34, .int .u8 92, .int .u8 110, .int .u8 114, .int .u8 116]) else if g = 4 then .cptr (Sc.words.map .str) else if g = 0 then .cptr (Pr.signT.map .str) else if g = 1 then .cptr [.iface 148 (.agg [.ptr (some ⟨13, 66, none⟩)])] else if g = 11 then .cptr [.iface 245 (.cptr [.str [118, 97, 108, 117, 101, 32, 111, 117, 116, 32, 111, 102, 32, 114, 97, 110, 103, 101]])] else .ptr (some ⟨g, 0, none⟩)
theorem glob_tens : Nu.Tens glob := rfl
theorem glob_toks : Pr.Toks glob := rfl
theorem glob_tabs : Qu.Tabs glob := ⟨rfl, rfl⟩
theorem glob_wds : Sc.Wds glob := rfl
theorem glob_eo : AsO.ErrT glob := rfl
theorem glob_ep : AsP.ErrT glob := rfl
theorem glob_er : Nu.ErrR glob := ⟨_, rfl⟩
theorem star : "*" ++ "errors.errorString" = "*errors.errorString" := by decide
theorem row_err (u : TypeId) (h : Tryz.prog.typeName? 3 u = some "*errors.errorString") : u = 245 :=
  typeName_ptr_named (nm := "errors.errorString") (by rw [star]; kernel_rfl) (by kernel_rfl) (by decide) u (by rw [star]; exact h)
theorem glob_ok {W : World} (h : laidMetH Tryz.prog Rows.printLevelsRow.laid W) : ∀ g, GlobR (startG W) W g (glob g) := by
  obtain ⟨h, hhan⟩ := laid_handles (x := ("errors.errorType", Rows.laid_errors_errorType)) (hs := []) h (by kernel_rfl)
  have hhan : GlobR (startG W) W 1 (.cptr [.iface 148 (.agg [.ptr (some ⟨13, 66, none⟩)])]) := by
    have := handle_glob (name := [101, 114, 114, 111, 114]) (g := 1) (u := 148) (ty := 66) hhan (by kernel_rfl) (by kernel_rfl) (by kernel_rfl) (by kernel_rfl) (by kernel_rfl)
    rwa [show Tryz.prog.globals.size = 13 by kernel_rfl] at this
  have hm := h
  have he0 : GlobR (startG W) W 11 (.cptr [.iface 245 (.cptr [.str [118, 97, 108, 117, 101, 32, 111, 117, 116, 32, 111, 102, 32, 114, 97, 110, 103, 101]])]) := laid_err (laidMet.tail (laidMet.tail (laidMet.tail (laidMet.tail hm)))) (ti := 66) (by kernel_rfl) (by kernel_rfl) Tryz.underlying66 row_err Tryz.underlying245 Tryz.underlying247 rfl rfl Tryz.underlying9 (by kernel_rfl) (by kernel_rfl)
  obtain ⟨ps, h⟩ := laid_vars' h
  obtain ⟨qs, h⟩ := laid_skip h
  obtain ⟨qs, h⟩ := laid_skip h
  obtain ⟨h0, qs, h⟩ := laid_cons 3 h (g := 6) (t := 197) (by kernel_rfl) (by kernel_rfl) (avs := Lib.pow10Tab.map (.int .u64)) (by kernel_rfl)
  obtain ⟨qs, h⟩ := laid_skip h
  obtain ⟨qs, h⟩ := laid_skip h
  obtain ⟨qs, h⟩ := laid_skip h
  obtain ⟨h1, qs, h⟩ := laid_cons 3 h (g := 2) (t := 163) (by kernel_rfl) (by kernel_rfl) (avs := [.int .u8 34, .int .u8 92, .int .u8 10, .int .u8 13, .int .u8 9]) (by kernel_rfl)
  obtain ⟨h2, qs, h⟩ := laid_cons 3 h (g := 3) (t := 163) (by kernel_rfl) (by kernel_rfl) (avs := [.int .u8 34, .int .u8 92, .int .u8 110, .int .u8 114, .int .u8 116]) (by kernel_rfl)
  obtain ⟨h3, qs, h⟩ := laid_cons 3 h (g := 4) (t := 179) (by kernel_rfl) (by kernel_rfl) (avs := Sc.words.map .str) (by kernel_rfl)
  obtain ⟨h4, qs, h⟩ := laid_cons 3 h (g := 0) (t := 103) (by kernel_rfl) (by kernel_rfl) (avs := Pr.signT.map .str) (by kernel_rfl)
  obtain ⟨qs, h⟩ := laid_skip h
  intro g
  unfold glob
  split
  · rename_i hg; subst hg; exact h0
  ·
    split
    · rename_i hg; subst hg; exact h1
    ·
      split
      · rename_i hg; subst hg; exact h2
      ·
        split
        · rename_i hg; subst hg; exact h3
        ·
          split
          · rename_i hg; subst hg; exact h4
          ·
            split
            · rename_i hg; subst hg; exact hhan
            ·
              split
              · rename_i hg; subst hg; exact he0
              · exact glob_none
theorem own : ownKnob Tryz.prog.godebug = none := by kernel_rfl
def noBulk (H : Type) (_ : DataW H) : Nat := 0
set_option maxRecDepth 100000 in
theorem contract (H : Type) (enc : TypeId × Value → H) (W : World) (base : Nat) (args : Array Value) (ds gs : List (DataW H)) (before : List MemPlace)
    (hval : ∀ (j : Nat) t v, Tryz.f4.params[j]? = some t → args[j]? = some v → Value.okWide Tryz.prog W .any base t v)
    (hW : DataW.Whole enc Tryz.prog Tryz.f4.params.toList Rows.printLevelsSpec.vars false W args.toList ds gs before) (hL : laidMetH Tryz.prog Rows.printLevelsRow.laid W) :
    Calls Tryz.prog 4 args W fun e W' => ∃ v, e = .returned v ∧ Rows.printLevelsSpec.post enc Tryz.prog Tryz.f4 false true false false W args v W' := by
  have hW' := hW
  obtain ⟨p, q, hA0, hV, rfl, hfz, hnd⟩ := hW
  have hA : DataW.TrodAll enc Tryz.prog W 0 (fun _ => true) true Tryz.f4.params.toList args.toList ds p := hA0
  rw [Tryz.params4] at hA hval
  obtain ⟨v0, vs0, d0, ds0, p0, q0, hargs, rfl, rfl, h0, r0⟩ := trodAll_cons hA
  obtain ⟨rfl, rfl, rfl⟩ := trodAll_nil r0
  obtain rfl : args = #[v0] := by cases args; simp_all
  obtain ⟨rfl, rfl⟩ := trodVars_none hV
  obtain ⟨x0, ok0, R0, K0⟩ := (opens_int (bulk := noBulk) Tryz.underlying3).arg h0
  refine (calls_of_abs ((Pr.levels_law glob_toks glob_tabs glob_tens glob_wds glob_eo glob_ep glob_er x0 s0).mono fun v s' h => h.1) (glob_ok hL) (args := #[v0]) ?_).mono fun e W' ⟨he, K⟩ => ?_
  · exact (args_cons (arg_int Tryz.underlying3 (hval 0 _ v0 rfl rfl) R0) args_nil)
  · subst he
    refine ⟨_, rfl, post_true rfl rfl hW' (tb := 4) (by kernel_rfl) Tryz.underlying4 (fun p hp => trodAll_keep K ?_ hp) K⟩
    rw [Tryz.params4]
    exact (all_cons (opens_int (bulk := noBulk) Tryz.underlying3).keeps all_nil)
set_option maxRecDepth 100000 in
theorem door_met (os : Os) (args : Array Value) : laidMetH Tryz.prog Rows.printLevelsRow.laid (((World.doorLaid Tryz.prog 400 os).layVars Tryz.prog (Rows.printLevelsRow.laid.filter fun x => x.2.handleName?.isNone)).forCall (fun _ _ => 0) ⟨#[], args, []⟩).memory :=
  laidMetH_of_parts (laidMet_over args (by kernel_rfl) (by kernel_rfl)) (by kernel_rfl)
def wargs : Array Value := #[.int .i64 0]
theorem reads (os : Os) {H : Type} (enc : TypeId × Value → H) : ∃ places, DataW.whole enc Tryz.prog (((World.doorLaid Tryz.prog 400 os).layVars Tryz.prog (Rows.printLevelsRow.laid.filter fun x => x.2.handleName?.isNone)).forCall (fun _ _ => 0) ⟨#[], wargs, []⟩).memory Tryz.f4.params.toList Rows.printLevelsSpec.vars false wargs.toList 8 = some ([.lit (.int .i64 0)], [], places) :=
  ⟨[], by kernel_rfl⟩
set_option maxRecDepth 100000 in
theorem lifted (os : Os) (started : os.Started) (H : Type) (enc : TypeId × Value → H) (F : Stop.Interp) :
    ReturnsInHanded {} Tryz.checked os 4 .any ((OpenSpec.ofChange Rows.printLevelsSpec).preRow enc Tryz.prog Tryz.f4 Rows.printLevelsRow.domain false Rows.printLevelsRow.laid) (((OpenSpec.ofChange Rows.printLevelsSpec).at F).post enc Tryz.prog Tryz.f4 false true false false) := by
  obtain ⟨places, hx⟩ := reads os enc
  refine returnsInHanded_of_row (C := Tryz.checked) (s := (OpenSpec.ofChange Rows.printLevelsSpec)) own started (by kernel_rfl) Tryz.func4
    (witness_row_at (enc := enc) (C := Tryz.checked) false ((World.doorLaid Tryz.prog 400 os).layVars Tryz.prog (Rows.printLevelsRow.laid.filter fun x => x.2.handleName?.isNone)) wargs ((World.layVars_os _ _ _).trans rfl) (by kernel_rfl) (by kernel_rfl) (by kernel_rfl)
      (OpenSpec.preRow_of_cond 8 hx (by kernel_rfl) (fun k hk => by cases hk) (by kernel_rfl) (door_met os _))) ?_
  intro W base args ds gs before hval hW _ hcond _ hL hsh _
  exact contract H enc W base args ds gs before hval hW hL
theorem said : Rows.PrintLevelsSaid :=
  OpenClaim.holds_of_cond 4 Tryz.f4 rfl rfl rfl rfl rfl rfl rfl ⟨rfl, rfl, rfl, rfl, rfl⟩ rfl rfl rfl rfl rfl (by kernel_rfl) Tryz.func4 (by kernel_rfl)
    (of_decide_eq_true (by kernel_rfl)) (by unfold Func.isWrapper; first | (rw [if_pos (by decide +kernel)]; kernel_rfl) | (rw [if_neg (by decide +kernel)]; exact ⟨rfl, rfl⟩))
    (fun os started H enc _ F => by rw [OpenClaim.pre_eq_preRow]; exact lifted os started H enc F)
theorem plainArgs (f : FuncId) (fn : Func) (hf : Tryz.pinned.checked.prog.funcNamed "proctor/proctorlaw12.PrintLevels" = some f) (hfn : Tryz.pinned.checked.prog.funcs[f]? = some fn) :
    true = Tryz.pinned.checked.prog.looks [] ∧ ∀ (j : Nat) t, fn.params[j]? = some t → Tryz.pinned.checked.prog.wantsStandIn t = false := by
  obtain rfl : f = 4 := Option.some.inj ((show Tryz.prog.funcNamed "proctor/proctorlaw12.PrintLevels" = some 4 by kernel_rfl).symm.trans hf) |>.symm
  obtain rfl : fn = Tryz.f4 := (Option.some.inj (Tryz.func4.symm.trans hfn)).symm
  refine ⟨by kernel_rfl, fun j t ht => ?_⟩
  have hall : (Tryz.f4.params.toList.all fun u => !Tryz.prog.wantsStandIn u) = true := by kernel_rfl
  exact (show Tryz.prog.wantsStandIn t = false by simpa using List.all_eq_true.1 hall t (by simpa using Array.mem_of_getElem? ht))
theorem card : Rows.PrintLevelsCardSaid :=
  Claim7.holds_tied_plain_at .later [] _ _ _ _ said (fun _ h => by cases h) (by kernel_rfl) (fun _ h => by cases h) printLevels_row_tie rfl ⟨rfl, rfl⟩ (by kernel_rfl) rfl plainArgs (by kernel_rfl)
#print axioms card
end Go.Proofs.YtdhgappjicpglaaGreatDoor.Pr.PrintLevels
