/- ValueOrder is so for any three values: the row and its card. No condition beyond the row's own. -/
import Derived.Test.YtcgobgnbpeageaaGreatDoorVaF
import Derived.Test.YtcgobgnbpeageaaGreatDoorCards
import Derived.Test.YtcgobgnbpeageaaGreatDoorTie
import Derived.WalkKit
import Derived.Lay
import Derived.ProofKit
import Derived.OpenShut
import Derived.LaidMore
import Derived.Deep.DeepHandedRow
import Derived.Lib.LaidTab
set_option linter.all false
namespace Go.Proofs.YtcgobgnbpeageaaGreatDoor.Va.ValueOrder
open Go Go.ChangeShapes Go.WideShapes Go.ChangeAt Go.RowKit Go.Ab Go.Proofs.YtcgobgnbpeageaaGreatDoor.Va
/-- What the walks know of the variables. -/
def glob : Nat → AV := fun g => if g = 3 then .cptr (Lib.pow10Tab.map (.int .u64)) else if g = 1 then .cptr ([.int .u8 34, .int .u8 92, .int .u8 10, .int .u8 13, .int .u8 9]) else if g = 2 then .cptr ([.int .u8 34, .int .u8 92, .int .u8 110, .int .u8 114, .int .u8 116]) else .ptr (some ⟨g, 0, none⟩)
theorem glob_tens : Nu.Tens glob := rfl
theorem glob_tabs : Qu.Tabs glob := ⟨rfl, rfl⟩
theorem glob_ok {W : World} (h : laidMetH Tryz.prog Rows.valueOrderRow.laid W) : ∀ g, GlobR (startG W) W g (glob g) := by
  obtain ⟨ps, h⟩ := laid_vars (by kernel_rfl) h
  obtain ⟨qs, h⟩ := laid_skip h
  obtain ⟨qs, h⟩ := laid_skip h
  obtain ⟨h0, qs, h⟩ := laid_cons 3 h (g := 3) (t := 142) (by kernel_rfl) (by kernel_rfl) (avs := Lib.pow10Tab.map (.int .u64)) (by kernel_rfl)
  obtain ⟨qs, h⟩ := laid_skip h
  obtain ⟨qs, h⟩ := laid_skip h
  obtain ⟨qs, h⟩ := laid_skip h
  obtain ⟨h1, qs, h⟩ := laid_cons 3 h (g := 1) (t := 92) (by kernel_rfl) (by kernel_rfl) (avs := [.int .u8 34, .int .u8 92, .int .u8 10, .int .u8 13, .int .u8 9]) (by kernel_rfl)
  obtain ⟨h2, qs, h⟩ := laid_cons 3 h (g := 2) (t := 92) (by kernel_rfl) (by kernel_rfl) (avs := [.int .u8 34, .int .u8 92, .int .u8 110, .int .u8 114, .int .u8 116]) (by kernel_rfl)
  obtain ⟨qs, h⟩ := laid_skip h
  intro g
  unfold glob
  split
  · rename_i hg; subst hg; exact h0
  ·
    split
    · rename_i hg; subst hg; exact h1
    ·
      split
      · rename_i hg; subst hg; exact h2
      · exact glob_none
theorem own : ownKnob Tryz.prog.godebug = none := by kernel_rfl
def noBulk (H : Type) (_ : DataW H) : Nat := 0
set_option maxRecDepth 100000 in
theorem contract (H : Type) (enc : TypeId × Value → H) (W : World) (base : Nat) (args : Array Value) (ds gs : List (DataW H)) (before : List MemPlace)
    (hval : ∀ (j : Nat) t v, Tryz.f5.params[j]? = some t → args[j]? = some v → Value.okWide Tryz.prog W .any base t v)
    (hW : DataW.Whole enc Tryz.prog Tryz.f5.params.toList Rows.valueOrderSpec.vars false W args.toList ds gs before) (hL : laidMetH Tryz.prog Rows.valueOrderRow.laid W) :
    Calls Tryz.prog 5 args W fun e W' => ∃ v, e = .returned v ∧ Rows.valueOrderSpec.post enc Tryz.prog Tryz.f5 false true false false W args v W' := by
  have hW' := hW
  obtain ⟨p, q, hA0, hV, rfl, hfz, hnd⟩ := hW
  have hA : DataW.TrodAll enc Tryz.prog W 0 (fun _ => true) true Tryz.f5.params.toList args.toList ds p := hA0
  rw [Tryz.params5] at hA hval
  obtain ⟨v0, vs0, d0, ds0, p0, q0, hargs, rfl, rfl, h0, r0⟩ := trodAll_cons hA
  obtain ⟨v1, vs1, d1, ds1, p1, q1, rfl, rfl, rfl, h1, r1⟩ := trodAll_cons r0
  obtain ⟨v2, vs2, d2, ds2, p2, q2, rfl, rfl, rfl, h2, r2⟩ := trodAll_cons r1
  obtain ⟨rfl, rfl, rfl⟩ := trodAll_nil r2
  obtain rfl : args = #[v0, v1, v2] := by cases args; simp_all
  obtain ⟨rfl, rfl⟩ := trodVars_none hV
  obtain ⟨x0, ok0, R0, K0⟩ := (opens_vl (bulk := noBulk)).arg h0
  obtain ⟨x1, ok1, R1, K1⟩ := (opens_vl (bulk := noBulk)).arg h1
  obtain ⟨x2, ok2, R2, K2⟩ := (opens_vl (bulk := noBulk)).arg h2
  refine (calls_of_abs ((order_law glob_tabs glob_tens x0 x1 x2 s0).mono fun v s' h => h.1) (glob_ok hL) (args := #[v0, v1, v2]) ?_).mono fun e W' ⟨he, K⟩ => ?_
  · exact (args_cons (arg_struct Tryz.underlying23 (hval 0 _ v0 rfl rfl) R0) (args_cons (arg_struct Tryz.underlying23 (hval 1 _ v1 rfl rfl) R1) (args_cons (arg_struct Tryz.underlying23 (hval 2 _ v2 rfl rfl) R2) args_nil)))
  · subst he
    refine ⟨_, rfl, post_true rfl rfl hW' (tb := 4) (by kernel_rfl) Tryz.underlying4 (fun p hp => trodAll_keep K ?_ hp) K⟩
    rw [Tryz.params5]
    exact (all_cons (opens_vl (bulk := noBulk)).keeps (all_cons (opens_vl (bulk := noBulk)).keeps (all_cons (opens_vl (bulk := noBulk)).keeps all_nil)))

theorem door_met (os : Os) (args : Array Value) : laidMet Tryz.prog Rows.valueOrderRow.laid ((World.laidAll Tryz.prog os Rows.valueOrderRow.laid).forCall (fun _ _ => 0) ⟨#[], args, []⟩).memory :=
  laidMet_laidAll args (by kernel_rfl) (by kernel_rfl)
def wargs : Array Value := #[.agg #[.int .i64 0, .int .i64 0, .string ⟨#[]⟩, .bool false], .agg #[.int .i64 0, .int .i64 0, .string ⟨#[]⟩, .bool false], .agg #[.int .i64 0, .int .i64 0, .string ⟨#[]⟩, .bool false]]
theorem reads (os : Os) {H : Type} (enc : TypeId × Value → H) : ∃ places, DataW.whole enc Tryz.prog ((World.laidAll Tryz.prog os Rows.valueOrderRow.laid).forCall (fun _ _ => 0) ⟨#[], wargs, []⟩).memory Tryz.f5.params.toList Rows.valueOrderSpec.vars false wargs.toList 8 = some ([.agg [.lit (.int .i64 0), .lit (.int .i64 0), .lit (.string []), .lit (.bool false)], .agg [.lit (.int .i64 0), .lit (.int .i64 0), .lit (.string []), .lit (.bool false)], .agg [.lit (.int .i64 0), .lit (.int .i64 0), .lit (.string []), .lit (.bool false)]], [], places) :=
  ⟨[], by kernel_rfl⟩
set_option maxRecDepth 100000 in
theorem lifted (os : Os) (started : os.Started) (H : Type) (enc : TypeId × Value → H) (F : Stop.Interp) :
    ReturnsInHanded {} Tryz.checked os 5 .any ((OpenSpec.ofChange Rows.valueOrderSpec).preRow enc Tryz.prog Tryz.f5 Rows.valueOrderRow.domain false Rows.valueOrderRow.laid) (((OpenSpec.ofChange Rows.valueOrderSpec).at F).post enc Tryz.prog Tryz.f5 false true false false) := by
  obtain ⟨places, hx⟩ := reads os enc
  refine returnsInHanded_of_row (C := Tryz.checked) (s := (OpenSpec.ofChange Rows.valueOrderSpec)) own started (by kernel_rfl) Tryz.func5
    (witness_row_at (enc := enc) (C := Tryz.checked) false (World.laidAll Tryz.prog os Rows.valueOrderRow.laid) wargs (World.laidAll_os _ _ _) (by kernel_rfl) (by kernel_rfl) (by kernel_rfl)
      (OpenSpec.preRow_of_cond 8 hx (by kernel_rfl) (fun k hk => by cases hk) (by kernel_rfl) (door_met os _))) ?_
  intro W base args ds gs before hval hW _ hcond _ hL _ _
  exact contract H enc W base args ds gs before hval hW hL
theorem said : Rows.ValueOrderSaid :=
  OpenClaim.holds_of_cond 5 Tryz.f5 rfl rfl rfl rfl rfl rfl rfl ⟨rfl, rfl, rfl, rfl, rfl⟩ rfl rfl rfl rfl rfl (by kernel_rfl) Tryz.func5 (by kernel_rfl)
    (of_decide_eq_true (by kernel_rfl)) (by unfold Func.isWrapper; first | (rw [if_pos (by decide +kernel)]; kernel_rfl) | (rw [if_neg (by decide +kernel)]; exact ⟨rfl, rfl⟩))
    (fun os started H enc _ F => by rw [OpenClaim.pre_eq_preRow]; exact lifted os started H enc F)
theorem plainArgs (f : FuncId) (fn : Func) (hf : Tryz.pinned.checked.prog.funcNamed "proctor/proctorlaw03.ValueOrder" = some f) (hfn : Tryz.pinned.checked.prog.funcs[f]? = some fn) :
    true = Tryz.pinned.checked.prog.looks [] ∧ ∀ (j : Nat) t, fn.params[j]? = some t → Tryz.pinned.checked.prog.wantsStandIn t = false := by
  obtain rfl : f = 5 := Option.some.inj ((show Tryz.prog.funcNamed "proctor/proctorlaw03.ValueOrder" = some 5 by kernel_rfl).symm.trans hf) |>.symm
  obtain rfl : fn = Tryz.f5 := (Option.some.inj (Tryz.func5.symm.trans hfn)).symm
  refine ⟨by kernel_rfl, fun j t ht => ?_⟩
  have hall : (Tryz.f5.params.toList.all fun u => !Tryz.prog.wantsStandIn u) = true := by kernel_rfl
  exact (show Tryz.prog.wantsStandIn t = false by simpa using List.all_eq_true.1 hall t (by simpa using Array.mem_of_getElem? ht))
theorem card : Rows.ValueOrderCardSaid :=
  Claim7.holds_tied_plain_at .later [] _ _ _ _ said (fun _ h => by cases h) (by kernel_rfl) (fun _ h => by cases h) valueOrder_row_tie rfl ⟨rfl, rfl⟩ (by kernel_rfl) rfl plainArgs (by kernel_rfl)
#print axioms card
end Go.Proofs.YtcgobgnbpeageaaGreatDoor.Va.ValueOrder
