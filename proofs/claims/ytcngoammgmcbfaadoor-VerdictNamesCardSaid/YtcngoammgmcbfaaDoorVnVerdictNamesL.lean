/- VerdictNames is so for any two verdicts and any name: the row and its card. No condition beyond the row's own. -/
import Derived.Test.YtcngoammgmcbfaaDoorVnC
import Derived.Test.YtcngoammgmcbfaaDoorCards
import Derived.Test.YtcngoammgmcbfaaDoorTie
import Derived.WalkKit
import Derived.ProofKit
import Derived.OpenShut
import Derived.LaidMore
import Derived.Deep.DeepHandedRow
import Derived.Lib.LaidTab
namespace Go.Proofs.YtcngoammgmcbfaaDoor.Vn.Names
open Go Go.ChangeShapes Go.WideShapes Go.ChangeAt Go.RowKit Go.Ab Go.Proofs.YtcngoammgmcbfaaDoor.Vn
/-- What the walks know of the variables. -/
def glob : Nat → AV := fun g => if g = 3 then .cptr (Lib.pow10Tab.map (.int .u64)) else if g = 1 then .cptr ([.str n1, .str n2, .str n3, .str n4]) else .ptr (some ⟨g, 0, none⟩)
theorem glob_tens : Nu.Tens glob := rfl
theorem glob_nms : Nms glob := rfl
theorem glob_ok {W : World} (h : laidMetH Tryd.prog Rows.verdictNamesRow.laid W) : ∀ g, GlobR (startG W) W g (glob g) := by
  obtain ⟨ps, h⟩ := laid_vars (by kernel_rfl) h
  obtain ⟨qs, h⟩ := laid_skip h
  obtain ⟨qs, h⟩ := laid_skip h
  obtain ⟨h0, qs, h⟩ := laid_cons 3 h (g := 3) (t := 163) (by kernel_rfl) (by kernel_rfl) (avs := Lib.pow10Tab.map (.int .u64)) (by kernel_rfl)
  obtain ⟨h1, qs, h⟩ := laid_cons 3 h (g := 1) (t := 115) (by kernel_rfl) (by kernel_rfl) (avs := [.str n1, .str n2, .str n3, .str n4]) (by kernel_rfl)
  intro g
  unfold glob
  split
  · rename_i hg; subst hg; exact h0
  ·
    split
    · rename_i hg; subst hg; exact h1
    · exact glob_none
theorem own : ownKnob Tryd.prog.godebug = none := by kernel_rfl
def noBulk (H : Type) (_ : DataW H) : Nat := 0
set_option maxRecDepth 100000 in
theorem contract (H : Type) (enc : TypeId × Value → H) (W : World) (base : Nat) (args : Array Value) (ds gs : List (DataW H)) (before : List MemPlace)
    (hval : ∀ (j : Nat) t v, Tryd.f9.params[j]? = some t → args[j]? = some v → Value.okWide Tryd.prog W .any base t v)
    (hW : DataW.Whole enc Tryd.prog Tryd.f9.params.toList Rows.verdictNamesSpec.vars false W args.toList ds gs before) (hL : laidMetH Tryd.prog Rows.verdictNamesRow.laid W) :
    Calls Tryd.prog 9 args W fun e W' => ∃ v, e = .returned v ∧ Rows.verdictNamesSpec.post enc Tryd.prog Tryd.f9 false true false false W args v W' := by
  have hW' := hW
  obtain ⟨p, q, hA0, hV, rfl, hfz, hnd⟩ := hW
  have hA : DataW.TrodAll enc Tryd.prog W 0 (fun _ => true) true Tryd.f9.params.toList args.toList ds p := hA0
  rw [Tryd.params9] at hA hval
  obtain ⟨v0, vs0, d0, ds0, p0, q0, hargs, rfl, rfl, h0, r0⟩ := trodAll_cons hA
  obtain ⟨v1, vs1, d1, ds1, p1, q1, rfl, rfl, rfl, h1, r1⟩ := trodAll_cons r0
  obtain ⟨v2, vs2, d2, ds2, p2, q2, rfl, rfl, rfl, h2, r2⟩ := trodAll_cons r1
  obtain ⟨rfl, rfl, rfl⟩ := trodAll_nil r2
  obtain rfl : args = #[v0, v1, v2] := by cases args; simp_all
  obtain ⟨rfl, rfl⟩ := trodVars_none hV
  obtain ⟨x0, ok0, R0, K0⟩ := (opens_int (bulk := noBulk) Tryd.underlying3).arg h0
  obtain ⟨x1, ok1, R1, K1⟩ := (opens_int (bulk := noBulk) Tryd.underlying3).arg h1
  obtain ⟨x2, ok2, R2, K2⟩ := (opens_str (bulk := noBulk) Tryd.underlying9).arg h2
  refine (calls_of_abs ((law_ok glob_nms glob_tens x0 x1 x2 s0).mono fun v s' h => h.1) (glob_ok hL) (args := #[v0, v1, v2]) ?_).mono fun e W' ⟨he, K⟩ => ?_
  · exact (args_cons (arg_int Tryd.underlying3 (hval 0 _ v0 rfl rfl) R0) (args_cons (arg_int Tryd.underlying3 (hval 1 _ v1 rfl rfl) R1) (args_cons (arg_str Tryd.underlying9 (hval 2 _ v2 rfl rfl) R2) args_nil)))
  · subst he
    refine ⟨_, rfl, post_true rfl rfl hW' (tb := 4) (by kernel_rfl) Tryd.underlying4 (fun p hp => trodAll_keep K ?_ hp) K⟩
    rw [Tryd.params9]
    exact (all_cons (opens_int (bulk := noBulk) Tryd.underlying3).keeps (all_cons (opens_int (bulk := noBulk) Tryd.underlying3).keeps (all_cons (opens_str (bulk := noBulk) Tryd.underlying9).keeps all_nil)))

theorem door_met (os : Os) (args : Array Value) : laidMet Tryd.prog Rows.verdictNamesRow.laid ((World.doorLaid Tryd.prog 400 os).forCall (fun _ _ => 0) ⟨#[], args, []⟩).memory :=
  laidMet_of_run' 8 (by kernel_rfl) (by kernel_rfl)
def wargs : Array Value := #[.int .i64 0, .int .i64 0, .string ⟨#[]⟩]
theorem reads (os : Os) {H : Type} (enc : TypeId × Value → H) : ∃ places, DataW.whole enc Tryd.prog ((World.doorLaid Tryd.prog 400 os).forCall (fun _ _ => 0) ⟨#[], wargs, []⟩).memory Tryd.f9.params.toList Rows.verdictNamesSpec.vars false wargs.toList 8 = some ([.lit (.int .i64 0), .lit (.int .i64 0), .lit (.string [])], [], places) :=
  ⟨[], by kernel_rfl⟩
set_option maxRecDepth 100000 in
theorem lifted (os : Os) (started : os.Started) (H : Type) (enc : TypeId × Value → H) (F : Stop.Interp) :
    ReturnsInHanded {} Tryd.checked os 9 .any ((OpenSpec.ofChange Rows.verdictNamesSpec).preRow enc Tryd.prog Tryd.f9 Rows.verdictNamesRow.domain false Rows.verdictNamesRow.laid) (((OpenSpec.ofChange Rows.verdictNamesSpec).at F).post enc Tryd.prog Tryd.f9 false true false false) := by
  obtain ⟨places, hx⟩ := reads os enc
  refine returnsInHanded_of_row (C := Tryd.checked) (s := (OpenSpec.ofChange Rows.verdictNamesSpec)) own started (by kernel_rfl) Tryd.func9
    (witness_row_at (enc := enc) (C := Tryd.checked) false (World.doorLaid Tryd.prog 400 os) wargs rfl (by kernel_rfl) (by kernel_rfl) (by kernel_rfl)
      (OpenSpec.preRow_of_cond 8 hx (by kernel_rfl) (fun k hk => by cases hk) (by kernel_rfl) (door_met os _))) ?_
  intro W base args ds gs before hval hW _ hcond _ hL _ _
  exact contract H enc W base args ds gs before hval hW hL
theorem said : Rows.VerdictNamesSaid :=
  OpenClaim.holds_of_cond 9 Tryd.f9 rfl rfl rfl rfl rfl rfl rfl ⟨rfl, rfl, rfl, rfl, rfl⟩ rfl rfl rfl rfl rfl (by kernel_rfl) Tryd.func9 (by kernel_rfl)
    (of_decide_eq_true (by kernel_rfl)) (by unfold Func.isWrapper; first | (rw [if_pos (by decide +kernel)]; kernel_rfl) | (rw [if_neg (by decide +kernel)]; exact ⟨rfl, rfl⟩))
    (fun os started H enc _ F => by rw [OpenClaim.pre_eq_preRow]; exact lifted os started H enc F)
theorem plainArgs (f : FuncId) (fn : Func) (hf : Tryd.pinned.checked.prog.funcNamed "proctor/proctorlaw32.VerdictNames" = some f) (hfn : Tryd.pinned.checked.prog.funcs[f]? = some fn) :
    false = Tryd.pinned.checked.prog.looks [] ∧ ∀ (j : Nat) t, fn.params[j]? = some t → Tryd.pinned.checked.prog.wantsStandIn t = false := by
  obtain rfl : f = 9 := Option.some.inj ((show Tryd.prog.funcNamed "proctor/proctorlaw32.VerdictNames" = some 9 by kernel_rfl).symm.trans hf) |>.symm
  obtain rfl : fn = Tryd.f9 := (Option.some.inj (Tryd.func9.symm.trans hfn)).symm
  refine ⟨by kernel_rfl, fun j t ht => ?_⟩
  have hall : (Tryd.f9.params.toList.all fun u => !Tryd.prog.wantsStandIn u) = true := by kernel_rfl
  exact (show Tryd.prog.wantsStandIn t = false by simpa using List.all_eq_true.1 hall t (by simpa using Array.mem_of_getElem? ht))
theorem card : Rows.VerdictNamesCardSaid :=
  Claim7.holds_tied_plain_at .later [] _ _ _ _ said (fun _ h => by cases h) (by kernel_rfl) (fun _ h => by cases h) verdictNames_row_tie rfl ⟨rfl, rfl⟩ (by kernel_rfl) rfl plainArgs (by kernel_rfl)
#print axioms card
end Go.Proofs.YtcngoammgmcbfaaDoor.Vn.Names
