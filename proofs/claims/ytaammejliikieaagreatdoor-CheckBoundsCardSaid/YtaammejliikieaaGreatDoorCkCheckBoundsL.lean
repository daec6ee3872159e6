import Derived.Test.YtaammejliikieaaGreatDoorCards
import Derived.Test.YtaammejliikieaaGreatDoorTie
import Derived.WalkKit
import Derived.LaidHandle
import Derived.Lay
import Derived.ProofKit
import Derived.OpenShut
import Derived.LaidMore
import Derived.Deep.DeepHandedRow
import Derived.Lib.LaidTab
import Derived.Test.YtaammejliikieaaGreatDoorG12
import Derived.Test.YtaammejliikieaaGreatDoorG1
set_option maxRecDepth 10000
set_option maxHeartbeats 60000000
set_option linter.all false
namespace Go.Proofs.YtaammejliikieaaGreatDoor.Ck.CheckBounds
open Go Go.ChangeShapes Go.WideShapes Go.ChangeAt Go.RowKit Go.Ab
def glob : Nat → AV := fun g => if g = 9 then .cptr (Lib.pow10Tab.map (.int .u64)) else if g = 4 then .cptr ([.int .u8 34, .int .u8 92, .int .u8 10, .int .u8 13, .int .u8 9]) else if g = 3 then .cptr ([.int .u8 34, .int .u8 92, .int .u8 110, .int .u8 114, .int .u8 116]) else if g = 1 then .cptr (Sc.B38.map .str) else if g = 0 then .cptr [.iface 194 (.agg [.ptr (some ⟨12, 85, none⟩)])] else if g = 5 then .cptr [.iface 407 (.cptr [.str [118, 97, 108, 117, 101, 32, 111, 117, 116, 32, 111, 102, 32, 114, 97, 110, 103, 101]])] else .ptr (some ⟨g, 0, none⟩)
theorem C17 : Qu.A7o glob := ⟨rfl, rfl⟩
theorem C4p : Sc.Wds glob := rfl
theorem C7k : AsO.A2e glob := rfl
theorem C7j : AsM.A2e glob := rfl
theorem C7l : Nu.A7n glob := ⟨_, rfl⟩
theorem D13 : "*" ++ "errors.errorString" = "*errors.errorString" := by decide
theorem C77 (u : TypeId) (h : Tryz.prog.typeName? 3 u = some "*errors.errorString") : u = 407 :=
 typeName_ptr_named (nm := "errors.errorString") (by rw [D13]; kernel_rfl) (by kernel_rfl) (by decide) u (by rw [D13]; exact h)
theorem C7m {W : World} (h : laidMetH Tryz.prog Rows.checkBoundsRow.laid W) : ∀ g, A0z (J0 W) W g (glob g) := by
 obtain ⟨h, hhan⟩ := B45 (x := ("errors.errorType", Rows.laid_errors_errorType)) (hs := []) h (by kernel_rfl)
 have hhan : A0z (J0 W) W 0 (.cptr [.iface 194 (.agg [.ptr (some ⟨12, 85, none⟩)])]) := by
  have := B6u (name := [101, 114, 114, 111, 114]) (g := 0) (u := 194) (ty := 85) hhan (by kernel_rfl) (by kernel_rfl) (by kernel_rfl) (by kernel_rfl) (by kernel_rfl)
  rwa [show Tryz.prog.globals.size = 12 by kernel_rfl] at this
 have hm := h
 have he0 : A0z (J0 W) W 5 (.cptr [.iface 407 (.cptr [.str [118, 97, 108, 117, 101, 32, 111, 117, 116, 32, 111, 102, 32, 114, 97, 110, 103, 101]])]) := C4v (laidMet.tail (laidMet.tail (laidMet.tail (laidMet.tail hm)))) (ti := 85) (by kernel_rfl) (by kernel_rfl) Tryz.underlying85 C77 Tryz.underlying407 Tryz.underlying409 rfl rfl Tryz.underlying9 (by kernel_rfl) (by kernel_rfl)
 obtain ⟨ps, h⟩ := B88 h
 obtain ⟨qs, h⟩ := A0u h
 obtain ⟨qs, h⟩ := A0u h
 obtain ⟨h0, qs, h⟩ := A4o 3 h (g := 9) (t := 417) (by kernel_rfl) (by kernel_rfl) (avs := Lib.pow10Tab.map (.int .u64)) (by kernel_rfl)
 obtain ⟨qs, h⟩ := A0u h
 obtain ⟨qs, h⟩ := A0u h
 obtain ⟨qs, h⟩ := A0u h
 obtain ⟨h1, qs, h⟩ := A4o 3 h (g := 4) (t := 363) (by kernel_rfl) (by kernel_rfl) (avs := [.int .u8 34, .int .u8 92, .int .u8 10, .int .u8 13, .int .u8 9]) (by kernel_rfl)
 obtain ⟨h2, qs, h⟩ := A4o 3 h (g := 3) (t := 363) (by kernel_rfl) (by kernel_rfl) (avs := [.int .u8 34, .int .u8 92, .int .u8 110, .int .u8 114, .int .u8 116]) (by kernel_rfl)
 obtain ⟨h3, qs, h⟩ := A4o 3 h (g := 1) (t := 310) (by kernel_rfl) (by kernel_rfl) (avs := Sc.B38.map .str) (by kernel_rfl)
 obtain ⟨qs, h⟩ := A0u h
 intro g
 unfold glob
 split
 ·rename_i hg; subst hg; exact h0
 ·
  split
  ·rename_i hg; subst hg; exact h1
  ·
   split
   ·rename_i hg; subst hg; exact h2
   ·
    split
    ·rename_i hg; subst hg; exact h3
    ·
     split
     ·rename_i hg; subst hg; exact hhan
     ·
      split
      ·rename_i hg; subst hg; exact he0
      ·exact C16
theorem own : ownKnob Tryz.prog.godebug = none := by kernel_rfl
def A0h (H : Type) (_ : DataW H) : Nat := 0
set_option maxRecDepth 100000 in
theorem B6h (H : Type) (enc : TypeId × Value → H) (W : World) (base : Nat) (args : Array Value) (ds gs : List (DataW H)) (before : List MemPlace)
  (hval : ∀ (j : Nat) t v, Tryz.f3.params[j]? = some t → args[j]? = some v → Value.okWide Tryz.prog W .any base t v)
  (hW : DataW.Whole enc Tryz.prog Tryz.f3.params.toList Rows.checkBoundsSpec.vars false W args.toList ds gs before) (hL : laidMetH Tryz.prog Rows.checkBoundsRow.laid W) :
  Calls Tryz.prog 3 args W fun e W' => ∃ v, e = .returned v ∧ Rows.checkBoundsSpec.post enc Tryz.prog Tryz.f3 false true false false W args v W' := by
 have hW' := hW
 obtain ⟨p, q, hA0, hV, rfl, hfz, hnd⟩ := hW
 have hA : DataW.TrodAll enc Tryz.prog W 0 (fun _ => true) true Tryz.f3.params.toList args.toList ds p := hA0
 rw [Tryz.params3] at hA hval
 obtain ⟨v0, vs0, d0, ds0, p0, q0, hargs, rfl, rfl, h0, r0⟩ := trodAll_cons hA
 obtain ⟨v1, vs1, d1, ds1, p1, q1, rfl, rfl, rfl, h1, r1⟩ := trodAll_cons r0
 obtain ⟨v2, vs2, d2, ds2, p2, q2, rfl, rfl, rfl, h2, r2⟩ := trodAll_cons r1
 obtain ⟨v3, vs3, d3, ds3, p3, q3, rfl, rfl, rfl, h3, r3⟩ := trodAll_cons r2
 obtain ⟨v4, vs4, d4, ds4, p4, q4, rfl, rfl, rfl, h4, r4⟩ := trodAll_cons r3
 obtain ⟨v5, vs5, d5, ds5, p5, q5, rfl, rfl, rfl, h5, r5⟩ := trodAll_cons r4
 obtain ⟨rfl, rfl, rfl⟩ := trodAll_nil r5
 obtain rfl : args = #[v0, v1, v2, v3, v4, v5] := by cases args; simp_all
 obtain ⟨rfl, rfl⟩ := trodVars_none hV
 obtain ⟨x0, ok0, R0, K0⟩ := (M7 (bulk := A0h) Tryz.underlying3).arg h0
 obtain ⟨x1, ok1, R1, K1⟩ := (M7 (bulk := A0h) Tryz.underlying3).arg h1
 obtain ⟨x2, ok2, R2, K2⟩ := (M7 (bulk := A0h) Tryz.underlying3).arg h2
 obtain ⟨x3, ok3, R3, K3⟩ := (M7 (bulk := A0h) Tryz.underlying3).arg h3
 obtain ⟨x4, ok4, R4, K4⟩ := (M7 (bulk := A0h) Tryz.underlying3).arg h4
 obtain ⟨x5, ok5, R5, K5⟩ := (M7 (bulk := A0h) Tryz.underlying3).arg h5
 refine (B4i ((Ck.B8n C17 C4p C7k C7j C7l x0 x1 x2 x3 x4 x5 s0).mono fun v s' h => h.1) (C7m hL) (args := #[v0, v1, v2, v3, v4, v5]) ?_).mono fun e W' ⟨he, K⟩ => ?_
 ·exact (A0r (A4e Tryz.underlying3 (hval 0 _ v0 rfl rfl) R0) (A0r (A4e Tryz.underlying3 (hval 1 _ v1 rfl rfl) R1) (A0r (A4e Tryz.underlying3 (hval 2 _ v2 rfl rfl) R2) (A0r (A4e Tryz.underlying3 (hval 3 _ v3 rfl rfl) R3) (A0r (A4e Tryz.underlying3 (hval 4 _ v4 rfl rfl) R4) (A0r (A4e Tryz.underlying3 (hval 5 _ v5 rfl rfl) R5) C3x))))))
 ·subst he
  refine ⟨_, rfl, C2p rfl rfl hW' (tb := 4) (by kernel_rfl) Tryz.underlying4 (fun p hp => A7l K ?_ hp) K⟩
  rw [Tryz.params3]
  exact (all_cons (M7 (bulk := A0h) Tryz.underlying3).keeps (all_cons (M7 (bulk := A0h) Tryz.underlying3).keeps (all_cons (M7 (bulk := A0h) Tryz.underlying3).keeps (all_cons (M7 (bulk := A0h) Tryz.underlying3).keeps (all_cons (M7 (bulk := A0h) Tryz.underlying3).keeps (all_cons (M7 (bulk := A0h) Tryz.underlying3).keeps C3))))))
set_option maxRecDepth 100000 in
theorem C39 (os : Os) (args : Array Value) : laidMetH Tryz.prog Rows.checkBoundsRow.laid (((World.doorLaid Tryz.prog 400 os).layVars Tryz.prog (Rows.checkBoundsRow.laid.filter fun x => x.2.handleName?.isNone)).forCall (fun _ _ => 0) ⟨#[], args, []⟩).memory :=
 laidMetH_of_parts (B44 args (by kernel_rfl) (by kernel_rfl)) (by kernel_rfl)
def C6t : Array Value := #[.int .i64 0, .int .i64 0, .int .i64 0, .int .i64 0, .int .i64 0, .int .i64 0]
theorem C83 (os : Os) {H : Type} (enc : TypeId × Value → H) : ∃ places, DataW.whole enc Tryz.prog (((World.doorLaid Tryz.prog 400 os).layVars Tryz.prog (Rows.checkBoundsRow.laid.filter fun x => x.2.handleName?.isNone)).forCall (fun _ _ => 0) ⟨#[], C6t, []⟩).memory Tryz.f3.params.toList Rows.checkBoundsSpec.vars false C6t.toList 8 = some ([.lit (.int .i64 0), .lit (.int .i64 0), .lit (.int .i64 0), .lit (.int .i64 0), .lit (.int .i64 0), .lit (.int .i64 0)], [], places) :=
 ⟨[], by kernel_rfl⟩
set_option maxRecDepth 100000 in
theorem C92 (os : Os) (started : os.Started) (H : Type) (enc : TypeId × Value → H) (F : Stop.Interp) :
  ReturnsInHanded {} Tryz.checked os 3 .any ((OpenSpec.ofChange Rows.checkBoundsSpec).preRow enc Tryz.prog Tryz.f3 Rows.checkBoundsRow.domain false Rows.checkBoundsRow.laid) (((OpenSpec.ofChange Rows.checkBoundsSpec).at F).post enc Tryz.prog Tryz.f3 false true false false) := by
 obtain ⟨places, hx⟩ := C83 os enc
 refine returnsInHanded_of_row (C := Tryz.checked) (s := (OpenSpec.ofChange Rows.checkBoundsSpec)) own started (by kernel_rfl) Tryz.func3
  (witness_row_at (enc := enc) (C := Tryz.checked) false ((World.doorLaid Tryz.prog 400 os).layVars Tryz.prog (Rows.checkBoundsRow.laid.filter fun x => x.2.handleName?.isNone)) C6t ((World.layVars_os _ _ _).trans rfl) (by kernel_rfl) (by kernel_rfl) (by kernel_rfl)
   (OpenSpec.preRow_of_cond 8 hx (by kernel_rfl) (fun k hk => by cases hk) (by kernel_rfl) (C39 os _))) ?_
 intro W base args ds gs before hval hW _ hcond _ hL hsh _
 exact B6h H enc W base args ds gs before hval hW hL
set_option maxHeartbeats 0 in
theorem C9i : joinedFacts Tryz.prog 3 Tryz.f3 ((OpenSpec.ofChange Rows.checkBoundsSpec)).bare Rows.checkBoundsRow = true := by
 unfold joinedFacts
 simp only [Bool.and_eq_true]
 repeat' apply And.intro
 all_goals (as_aux_lemma => kernel_rfl)
theorem said : Rows.CheckBoundsSaid :=
 OpenClaim.holds_of_cond 3 Tryz.f3 rfl rfl rfl rfl rfl rfl rfl ⟨rfl, rfl, rfl, rfl, rfl⟩ rfl rfl rfl rfl rfl (by as_aux_lemma => kernel_rfl) Tryz.func3 C9i
  (of_decide_eq_true (by kernel_rfl)) (by unfold Func.isWrapper; first | (rw [if_pos (by decide +kernel)]; kernel_rfl) | (rw [if_neg (by decide +kernel)]; exact ⟨rfl, rfl⟩))
  (fun os started H enc _ F => by rw [OpenClaim.pre_eq_preRow]; exact C92 os started H enc F)
theorem C2o (f : FuncId) (fn : Func) (hf : Tryz.pinned.checked.prog.funcNamed "proctor/proctorlaw14.CheckBounds" = some f) (hfn : Tryz.pinned.checked.prog.funcs[f]? = some fn) :
  true = Tryz.pinned.checked.prog.looks [] ∧ ∀ (j : Nat) t, fn.params[j]? = some t → Tryz.pinned.checked.prog.wantsStandIn t = false := by
 obtain rfl : f = 3 := Option.some.inj ((show Tryz.prog.funcNamed "proctor/proctorlaw14.CheckBounds" = some 3 by kernel_rfl).symm.trans hf) |>.symm
 obtain rfl : fn = Tryz.f3 := (Option.some.inj (Tryz.func3.symm.trans hfn)).symm
 refine ⟨by kernel_rfl, fun j t ht => ?_⟩
 have hall : (Tryz.f3.params.toList.all fun u => !Tryz.prog.wantsStandIn u) = true := by kernel_rfl
 exact (show Tryz.prog.wantsStandIn t = false by simpa using List.all_eq_true.1 hall t (by simpa using Array.mem_of_getElem? ht))
theorem card : Rows.CheckBoundsCardSaid :=
 Claim7.holds_tied_plain_at .later [] _ _ _ _ said (fun _ h => by cases h) (by kernel_rfl) (fun _ h => by cases h) checkBounds_row_tie rfl ⟨rfl, rfl⟩ (by kernel_rfl) rfl C2o (by kernel_rfl)
#print axioms card
end Go.Proofs.YtaammejliikieaaGreatDoor.Ck.CheckBounds
