
/- LexLong is so for every number: the row and its card. No condition beyond the row's own. -/
import Derived.Test.YtnelknhacamboaaDoorLxI
import Derived.Test.YtnelknhacamboaaDoorHa1
import Derived.Test.YtnelknhacamboaaDoorCards
import Derived.Test.YtnelknhacamboaaDoorTie
import Derived.WalkKit
import Derived.LaidHandle
import Derived.Lay
import Derived.ProofKit
import Derived.OpenShut
import Derived.LaidMore
import Derived.Deep.DeepHandedRow
import Derived.Lib.LaidTab
set_option linter.all false
namespace Go.Proofs.YtnelknhacamboaaDoor.Lx.LexLong
open Go Go.ChangeShapes Go.WideShapes Go.ChangeAt Go.RowKit Go.Ab Go.Proofs.YtnelknhacamboaaDoor.Lx Go.Proofs.YtnelknhacamboaaDoor.Sc
/-- What the walks know of the variables. -/
def glob : Nat → AV := fun g => if g = 4 then .cptr ([.int .u8 34, .int .u8 92, .int .u8 10, .int .u8 13, .int .u8 9]) else if g = 3 then .cptr ([.int .u8 34, .int .u8 92, .int .u8 110, .int .u8 114, .int .u8 116]) else if g = 2 then .cptr (words.map .str) else if g = 0 then .cptr [.iface 77 (.agg [.ptr (some ⟨7, 42, none⟩)])] else .ptr (some ⟨g, 0, none⟩)
theorem glob_tabs : Qu.Tabs glob := ⟨rfl, rfl⟩
theorem glob_wds : Wds glob := rfl
theorem glob_err : AsO.ErrT glob := rfl
theorem glob_ok {W : World} (h : laidMetH Tryd.prog Rows.lexLongRow.laid W) : ∀ g, GlobR (startG W) W g (glob g) := by
  obtain ⟨h, hhan⟩ := laid_handles (x := ("errors.errorType", Rows.laid_errors_errorType)) (hs := []) h (by kernel_rfl)
  have hhan : GlobR (startG W) W 0 (.cptr [.iface 77 (.agg [.ptr (some ⟨7, 42, none⟩)])]) := by
    have := handle_glob (name := [101, 114, 114, 111, 114]) (g := 0) (u := 77) (ty := 42) hhan (by kernel_rfl) (by kernel_rfl) (by kernel_rfl) (by kernel_rfl) (by kernel_rfl)
    rwa [show Tryd.prog.globals.size = 7 by kernel_rfl] at this
  obtain ⟨ps, h⟩ := laid_vars' h
  obtain ⟨qs, h⟩ := laid_skip h
  obtain ⟨h0, qs, h⟩ := laid_cons 3 h (g := 4) (t := 101) (by kernel_rfl) (by kernel_rfl) (avs := [.int .u8 34, .int .u8 92, .int .u8 10, .int .u8 13, .int .u8 9]) (by kernel_rfl)
  obtain ⟨h1, qs, h⟩ := laid_cons 3 h (g := 3) (t := 101) (by kernel_rfl) (by kernel_rfl) (avs := [.int .u8 34, .int .u8 92, .int .u8 110, .int .u8 114, .int .u8 116]) (by kernel_rfl)
  obtain ⟨h2, qs, h⟩ := laid_cons 3 h (g := 2) (t := 95) (by kernel_rfl) (by kernel_rfl) (avs := words.map .str) (by kernel_rfl)
  obtain ⟨qs, h⟩ := laid_skip h
  intro g
  unfold glob
  split
  · rename_i hg; subst hg; exact h0
  ·
    split
    · rename_i hg; subst hg; exact h1
    ·
      split
      · rename_i hg; subst hg; exact h2
      ·
        split
        · rename_i hg; subst hg; exact hhan
        · exact glob_none
theorem own : ownKnob Tryd.prog.godebug = none := by kernel_rfl
def noBulk (H : Type) (_ : DataW H) : Nat := 0
set_option maxRecDepth 100000 in
theorem contract (H : Type) (enc : TypeId × Value → H) (W : World) (base : Nat) (args : Array Value) (ds gs : List (DataW H)) (before : List MemPlace)
    (hval : ∀ (j : Nat) t v, Tryd.f4.params[j]? = some t → args[j]? = some v → Value.okWide Tryd.prog W .any base t v)
    (hW : DataW.Whole enc Tryd.prog Tryd.f4.params.toList Rows.lexLongSpec.vars false W args.toList ds gs before) (hL : laidMetH Tryd.prog Rows.lexLongRow.laid W) :
    Calls Tryd.prog 4 args W fun e W' => ∃ v, e = .returned v ∧ Rows.lexLongSpec.post enc Tryd.prog Tryd.f4 false true false false W args v W' := by
  have hW' := hW
  obtain ⟨p, q, hA0, hV, rfl, hfz, hnd⟩ := hW
  have hA : DataW.TrodAll enc Tryd.prog W 0 (fun _ => true) true Tryd.f4.params.toList args.toList ds p := hA0
  rw [Tryd.params4] at hA hval
  obtain ⟨v0, vs0, d0, ds0, p0, q0, hargs, rfl, rfl, h0, r0⟩ := trodAll_cons hA
  obtain ⟨rfl, rfl, rfl⟩ := trodAll_nil r0
  obtain rfl : args = #[v0] := by cases args; simp_all
  obtain ⟨rfl, rfl⟩ := trodVars_none hV
  obtain ⟨x0, ok0, R0, K0⟩ := (opens_int (bulk := noBulk) Tryd.underlying3).arg h0
  refine (calls_of_abs ((lexLong_law glob_tabs glob_wds glob_err x0 (wf_i64 ok0) s0).mono fun v s' h => h.1) (glob_ok hL) (args := #[v0]) ?_).mono fun e W' ⟨he, K⟩ => ?_
  · exact (args_cons (arg_int Tryd.underlying3 (hval 0 _ v0 rfl rfl) R0) args_nil)
  · subst he
    refine ⟨_, rfl, post_true rfl rfl hW' (tb := 4) (by kernel_rfl) Tryd.underlying4 (fun p hp => trodAll_keep K ?_ hp) K⟩
    rw [Tryd.params4]
    exact (all_cons (opens_int (bulk := noBulk) Tryd.underlying3).keeps all_nil)

set_option maxRecDepth 100000 in
theorem door_met (os : Os) (args : Array Value) : laidMetH Tryd.prog Rows.lexLongRow.laid (((World.doorLaid Tryd.prog 400 os).layVars Tryd.prog (Rows.lexLongRow.laid.filter fun x => x.2.handleName?.isNone)).forCall (fun _ _ => 0) ⟨#[], args, []⟩).memory :=
  laidMetH_of_parts (laidMet_over args (by kernel_rfl) (by kernel_rfl)) (by kernel_rfl)
def wargs : Array Value := #[.int .i64 0]
theorem reads (os : Os) {H : Type} (enc : TypeId × Value → H) : ∃ places, DataW.whole enc Tryd.prog (((World.doorLaid Tryd.prog 400 os).layVars Tryd.prog (Rows.lexLongRow.laid.filter fun x => x.2.handleName?.isNone)).forCall (fun _ _ => 0) ⟨#[], wargs, []⟩).memory Tryd.f4.params.toList Rows.lexLongSpec.vars false wargs.toList 8 = some ([.lit (.int .i64 0)], [], places) :=
  ⟨[], by kernel_rfl⟩
set_option maxRecDepth 100000 in
theorem lifted (os : Os) (started : os.Started) (H : Type) (enc : TypeId × Value → H) (F : Stop.Interp) :
    ReturnsInHanded {} Tryd.checked os 4 .any ((OpenSpec.ofChange Rows.lexLongSpec).preRow enc Tryd.prog Tryd.f4 Rows.lexLongRow.domain false Rows.lexLongRow.laid) (((OpenSpec.ofChange Rows.lexLongSpec).at F).post enc Tryd.prog Tryd.f4 false true false false) := by
  obtain ⟨places, hx⟩ := reads os enc
  refine returnsInHanded_of_row (C := Tryd.checked) (s := (OpenSpec.ofChange Rows.lexLongSpec)) own started (by kernel_rfl) Tryd.func4
    (witness_row_at (enc := enc) (C := Tryd.checked) false ((World.doorLaid Tryd.prog 400 os).layVars Tryd.prog (Rows.lexLongRow.laid.filter fun x => x.2.handleName?.isNone)) wargs ((World.layVars_os _ _ _).trans rfl) (by kernel_rfl) (by kernel_rfl) (by kernel_rfl)
      (OpenSpec.preRow_of_cond 8 hx (by kernel_rfl) (fun k hk => by cases hk) (by kernel_rfl) (door_met os _))) ?_
  intro W base args ds gs before hval hW _ hcond _ hL _ _
  exact contract H enc W base args ds gs before hval hW hL
theorem said : Rows.LexLongSaid :=
  OpenClaim.holds_of_cond 4 Tryd.f4 rfl rfl rfl rfl rfl rfl rfl ⟨rfl, rfl, rfl, rfl, rfl⟩ rfl rfl rfl rfl rfl (by kernel_rfl) Tryd.func4 (by kernel_rfl)
    (of_decide_eq_true (by kernel_rfl)) (by unfold Func.isWrapper; first | (rw [if_pos (by decide +kernel)]; kernel_rfl) | (rw [if_neg (by decide +kernel)]; exact ⟨rfl, rfl⟩))
    (fun os started H enc _ F => by rw [OpenClaim.pre_eq_preRow]; exact lifted os started H enc F)
theorem plainArgs (f : FuncId) (fn : Func) (hf : Tryd.pinned.checked.prog.funcNamed "proctor/proctorlaw09.LexLong" = some f) (hfn : Tryd.pinned.checked.prog.funcs[f]? = some fn) :
    true = Tryd.pinned.checked.prog.looks [] ∧ ∀ (j : Nat) t, fn.params[j]? = some t → Tryd.pinned.checked.prog.wantsStandIn t = false := by
  obtain rfl : f = 4 := Option.some.inj ((show Tryd.prog.funcNamed "proctor/proctorlaw09.LexLong" = some 4 by kernel_rfl).symm.trans hf) |>.symm
  obtain rfl : fn = Tryd.f4 := (Option.some.inj (Tryd.func4.symm.trans hfn)).symm
  refine ⟨by kernel_rfl, fun j t ht => ?_⟩
  have hall : (Tryd.f4.params.toList.all fun u => !Tryd.prog.wantsStandIn u) = true := by kernel_rfl
  exact (show Tryd.prog.wantsStandIn t = false by simpa using List.all_eq_true.1 hall t (by simpa using Array.mem_of_getElem? ht))
theorem card : Rows.LexLongCardSaid :=
  Claim7.holds_tied_plain_at .later [] _ _ _ _ said (fun _ h => by cases h) (by kernel_rfl) (fun _ h => by cases h) lexLong_row_tie rfl ⟨rfl, rfl⟩ (by kernel_rfl) rfl plainArgs (by kernel_rfl)
#print axioms card
end Go.Proofs.YtnelknhacamboaaDoor.Lx.LexLong
