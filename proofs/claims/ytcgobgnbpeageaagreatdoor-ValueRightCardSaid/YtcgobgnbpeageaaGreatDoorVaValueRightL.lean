/- ValueRight is so for any value: the row and its card. No condition beyond the row's own. -/
import Derived.Test.YtcgobgnbpeageaaGreatDoorVaJ
import Derived.Test.YtcgobgnbpeageaaGreatDoorEr2
import Derived.Test.YtcgobgnbpeageaaGreatDoorCards
import Derived.Test.YtcgobgnbpeageaaGreatDoorTie
import Derived.WalkKit
import Derived.Lay
import Derived.ProofKit
import Derived.OpenShut
import Derived.LaidMore
import Derived.Deep.DeepHandedRow
import Derived.Lib.LaidTab
set_option linter.all false
namespace Go.Proofs.YtcgobgnbpeageaaGreatDoor.Va.ValueRight
open Go Go.ChangeShapes Go.WideShapes Go.ChangeAt Go.RowKit Go.Ab Go.Proofs.YtcgobgnbpeageaaGreatDoor.Va
/-- What the walks know of the variables. -/
def glob : Nat → AV := fun g => if g = 3 then .cptr (Lib.pow10Tab.map (.int .u64)) else if g = 1 then .cptr ([.int .u8 34, .int .u8 92, .int .u8 10, .int .u8 13, .int .u8 9]) else if g = 2 then .cptr ([.int .u8 34, .int .u8 92, .int .u8 110, .int .u8 114, .int .u8 116]) else if g = 0 then .cptr [.iface 156 (.cptr [.str [118, 97, 108, 117, 101, 32, 111, 117, 116, 32, 111, 102, 32, 114, 97, 110, 103, 101]])] else .ptr (some ⟨g, 0, none⟩)
theorem glob_tens : Nu.Tens glob := rfl
theorem glob_tabs : Qu.Tabs glob := ⟨rfl, rfl⟩
theorem glob_err : Nu.ErrR glob := ⟨_, rfl⟩
theorem star : "*" ++ "errors.errorString" = "*errors.errorString" := by decide
theorem row_err (u : TypeId) (h : Tryz.prog.typeName? 3 u = some "*errors.errorString") : u = 156 :=
  typeName_ptr_named (nm := "errors.errorString") (by rw [star]; kernel_rfl) (by kernel_rfl) (by decide) u (by rw [star]; exact h)
theorem glob_ok {W : World} (h : laidMetH Tryz.prog Rows.valueRightRow.laid W) : ∀ g, GlobR (startG W) W g (glob g) := by
  have hm := h
  rw [MakeChecks.laidMetH_plain _ _ _ (by kernel_rfl)] at hm
  have he0 : GlobR (startG W) W 0 (.cptr [.iface 156 (.cptr [.str [118, 97, 108, 117, 101, 32, 111, 117, 116, 32, 111, 102, 32, 114, 97, 110, 103, 101]])]) := laid_err (laidMet.tail (laidMet.tail (laidMet.tail (laidMet.tail hm)))) (ti := 71) (by kernel_rfl) (by kernel_rfl) Tryz.underlying71 row_err Tryz.underlying156 Tryz.underlying158 rfl rfl Tryz.underlying9 (by kernel_rfl) (by kernel_rfl)
  obtain ⟨ps, h⟩ := laid_vars (by kernel_rfl) h
  obtain ⟨qs, h⟩ := laid_skip h
  obtain ⟨qs, h⟩ := laid_skip h
  obtain ⟨h0, qs, h⟩ := laid_cons 3 h (g := 3) (t := 142) (by kernel_rfl) (by kernel_rfl) (avs := Lib.pow10Tab.map (.int .u64)) (by kernel_rfl)
  obtain ⟨qs, h⟩ := laid_skip h
  obtain ⟨qs, h⟩ := laid_skip h
  obtain ⟨qs, h⟩ := laid_skip h
  obtain ⟨h1, qs, h⟩ := laid_cons 3 h (g := 1) (t := 92) (by kernel_rfl) (by kernel_rfl) (avs := [.int .u8 34, .int .u8 92, .int .u8 10, .int .u8 13, .int .u8 9]) (by kernel_rfl)
  obtain ⟨h2, qs, h⟩ := laid_cons 3 h (g := 2) (t := 92) (by kernel_rfl) (by kernel_rfl) (avs := [.int .u8 34, .int .u8 92, .int .u8 110, .int .u8 114, .int .u8 116]) (by kernel_rfl)
  obtain ⟨qs, h⟩ := laid_skip h
  intro g
  unfold glob
  split
  · rename_i hg; subst hg; exact h0
  ·
    split
    · rename_i hg; subst hg; exact h1
    ·
      split
      · rename_i hg; subst hg; exact h2
      ·
        split
        · rename_i hg; subst hg; exact he0
        · exact glob_none
theorem own : ownKnob Tryz.prog.godebug = none := by kernel_rfl
def noBulk (H : Type) (_ : DataW H) : Nat := 0
set_option maxRecDepth 100000 in
theorem contract (H : Type) (enc : TypeId × Value → H) (W : World) (base : Nat) (args : Array Value) (ds gs : List (DataW H)) (before : List MemPlace)
    (hval : ∀ (j : Nat) t v, Tryz.f3.params[j]? = some t → args[j]? = some v → Value.okWide Tryz.prog W .any base t v)
    (hW : DataW.Whole enc Tryz.prog Tryz.f3.params.toList Rows.valueRightSpec.vars false W args.toList ds gs before) (hL : laidMetH Tryz.prog Rows.valueRightRow.laid W) :
    Calls Tryz.prog 3 args W fun e W' => ∃ v, e = .returned v ∧ Rows.valueRightSpec.post enc Tryz.prog Tryz.f3 false true false false W args v W' := by
  have hW' := hW
  obtain ⟨p, q, hA0, hV, rfl, hfz, hnd⟩ := hW
  have hA : DataW.TrodAll enc Tryz.prog W 0 (fun _ => true) true Tryz.f3.params.toList args.toList ds p := hA0
  rw [Tryz.params3] at hA hval
  obtain ⟨v0, vs0, d0, ds0, p0, q0, hargs, rfl, rfl, h0, r0⟩ := trodAll_cons hA
  obtain ⟨rfl, rfl, rfl⟩ := trodAll_nil r0
  obtain rfl : args = #[v0] := by cases args; simp_all
  obtain ⟨rfl, rfl⟩ := trodVars_none hV
  obtain ⟨x0, ok0, R0, K0⟩ := (opens_vl (bulk := noBulk)).arg h0
  refine (calls_of_abs ((right_law glob_tabs glob_tens glob_err x0 ok0 s0).mono fun v s' h => h.1) (glob_ok hL) (args := #[v0]) ?_).mono fun e W' ⟨he, K⟩ => ?_
  · exact (args_cons (arg_struct Tryz.underlying23 (hval 0 _ v0 rfl rfl) R0) args_nil)
  · subst he
    refine ⟨_, rfl, post_true rfl rfl hW' (tb := 4) (by kernel_rfl) Tryz.underlying4 (fun p hp => trodAll_keep K ?_ hp) K⟩
    rw [Tryz.params3]
    exact (all_cons (opens_vl (bulk := noBulk)).keeps all_nil)

theorem door_met (os : Os) (args : Array Value) : laidMet Tryz.prog Rows.valueRightRow.laid ((World.laidAll Tryz.prog os Rows.valueRightRow.laid).forCall (fun _ _ => 0) ⟨#[], args, []⟩).memory :=
  laidMet_laidAll args (by kernel_rfl) (by kernel_rfl)
def wargs : Array Value := #[.agg #[.int .i64 0, .int .i64 0, .string ⟨#[]⟩, .bool false]]
theorem reads (os : Os) {H : Type} (enc : TypeId × Value → H) : ∃ places, DataW.whole enc Tryz.prog ((World.laidAll Tryz.prog os Rows.valueRightRow.laid).forCall (fun _ _ => 0) ⟨#[], wargs, []⟩).memory Tryz.f3.params.toList Rows.valueRightSpec.vars false wargs.toList 8 = some ([.agg [.lit (.int .i64 0), .lit (.int .i64 0), .lit (.string []), .lit (.bool false)]], [], places) :=
  ⟨[], by kernel_rfl⟩
set_option maxRecDepth 100000 in
theorem lifted (os : Os) (started : os.Started) (H : Type) (enc : TypeId × Value → H) (F : Stop.Interp) :
    ReturnsInHanded {} Tryz.checked os 3 .any ((OpenSpec.ofChange Rows.valueRightSpec).preRow enc Tryz.prog Tryz.f3 Rows.valueRightRow.domain false Rows.valueRightRow.laid) (((OpenSpec.ofChange Rows.valueRightSpec).at F).post enc Tryz.prog Tryz.f3 false true false false) := by
  obtain ⟨places, hx⟩ := reads os enc
  refine returnsInHanded_of_row (C := Tryz.checked) (s := (OpenSpec.ofChange Rows.valueRightSpec)) own started (by kernel_rfl) Tryz.func3
    (witness_row_at (enc := enc) (C := Tryz.checked) false (World.laidAll Tryz.prog os Rows.valueRightRow.laid) wargs (World.laidAll_os _ _ _) (by kernel_rfl) (by kernel_rfl) (by kernel_rfl)
      (OpenSpec.preRow_of_cond 8 hx (by kernel_rfl) (fun k hk => by cases hk) (by kernel_rfl) (door_met os _))) ?_
  intro W base args ds gs before hval hW _ hcond _ hL _ _
  exact contract H enc W base args ds gs before hval hW hL
theorem said : Rows.ValueRightSaid :=
  OpenClaim.holds_of_cond 3 Tryz.f3 rfl rfl rfl rfl rfl rfl rfl ⟨rfl, rfl, rfl, rfl, rfl⟩ rfl rfl rfl rfl rfl (by kernel_rfl) Tryz.func3 (by kernel_rfl)
    (of_decide_eq_true (by kernel_rfl)) (by unfold Func.isWrapper; first | (rw [if_pos (by decide +kernel)]; kernel_rfl) | (rw [if_neg (by decide +kernel)]; exact ⟨rfl, rfl⟩))
    (fun os started H enc _ F => by rw [OpenClaim.pre_eq_preRow]; exact lifted os started H enc F)
theorem plainArgs (f : FuncId) (fn : Func) (hf : Tryz.pinned.checked.prog.funcNamed "proctor/proctorlaw03.ValueRight" = some f) (hfn : Tryz.pinned.checked.prog.funcs[f]? = some fn) :
    true = Tryz.pinned.checked.prog.looks [] ∧ ∀ (j : Nat) t, fn.params[j]? = some t → Tryz.pinned.checked.prog.wantsStandIn t = false := by
  obtain rfl : f = 3 := Option.some.inj ((show Tryz.prog.funcNamed "proctor/proctorlaw03.ValueRight" = some 3 by kernel_rfl).symm.trans hf) |>.symm
  obtain rfl : fn = Tryz.f3 := (Option.some.inj (Tryz.func3.symm.trans hfn)).symm
  refine ⟨by kernel_rfl, fun j t ht => ?_⟩
  have hall : (Tryz.f3.params.toList.all fun u => !Tryz.prog.wantsStandIn u) = true := by kernel_rfl
  exact (show Tryz.prog.wantsStandIn t = false by simpa using List.all_eq_true.1 hall t (by simpa using Array.mem_of_getElem? ht))
theorem card : Rows.ValueRightCardSaid :=
  Claim7.holds_tied_plain_at .later [] _ _ _ _ said (fun _ h => by cases h) (by kernel_rfl) (fun _ h => by cases h) valueRight_row_tie rfl ⟨rfl, rfl⟩ (by kernel_rfl) rfl plainArgs (by kernel_rfl)
#print axioms card
end Go.Proofs.YtcgobgnbpeageaaGreatDoor.Va.ValueRight
