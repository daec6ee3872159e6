import Derived.Test.YticnkpgmmpenlaaGreatDoorG8
import Derived.Test.YticnkpgmmpenlaaGreatDoorCards
import Derived.Test.YticnkpgmmpenlaaGreatDoorTie
import Derived.WalkKit
import Derived.LaidHandle
import Derived.Lay
import Derived.ProofKit
import Derived.OpenShut
import Derived.LaidMore
import Derived.Deep.DeepHandedRow
import Derived.Lib.LaidTab
set_option maxRecDepth 10000
set_option maxHeartbeats 60000000
set_option linter.all false
namespace Go.Proofs.YticnkpgmmpenlaaGreatDoor.Pr.PrintBack
open Go Go.ChangeShapes Go.WideShapes Go.ChangeAt Go.RowKit Go.Ab
def glob : Nat → AV := fun g => if g = 6 then .cptr (Lib.pow10Tab.map (.int .u64)) else if g = 2 then .cptr ([.int .u8 34, .int .u8 92, .int .u8 10, .int .u8 13, .int .u8 9]) else if g = 3 then .cptr ([.int .u8 34, .int .u8 92, .int .u8 110, .int .u8 114, .int .u8 116]) else if g = 4 then .cptr (Sc.words.map .str) else if g = 1 then .cptr (Pr.B9p.map .str) else if g = 0 then .cptr [.iface 271 (.agg [.ptr (some ⟨13, 98, none⟩)])] else if g = 7 then .cptr [.iface 368 (.cptr [.str [118, 97, 108, 117, 101, 32, 111, 117, 116, 32, 111, 102, 32, 114, 97, 110, 103, 101]])] else .ptr (some ⟨g, 0, none⟩)
theorem C89 : Nu.A6y glob := rfl
theorem C9a : Pr.B38 glob := rfl
theorem C88 : Qu.A1q glob := ⟨rfl, rfl⟩
theorem D1v : Sc.Wds glob := rfl
theorem D5s : AsO.A4b glob := rfl
theorem D5t : AsP.A4b glob := rfl
theorem D5u : Nu.Z8 glob := ⟨_, rfl⟩
theorem D9v : "*" ++ "errors.errorString" = "*errors.errorString" := by decide
theorem D6i (u : TypeId) (h : Tryz.prog.typeName? 3 u = some "*errors.errorString") : u = 368 :=
 typeName_ptr_named (nm := "errors.errorString") (by rw [D9v]; kernel_rfl) (by kernel_rfl) (by decide) u (by rw [D9v]; exact h)
theorem D5v {W : World} (h : laidMetH Tryz.prog Rows.printBackRow.laid W) : ∀ g, A3m (K5 W) W g (glob g) := by
 obtain ⟨h, hhan⟩ := C0y (x := ("errors.errorType", Rows.laid_errors_errorType)) (hs := []) h (by kernel_rfl)
 have hhan : A3m (K5 W) W 0 (.cptr [.iface 271 (.agg [.ptr (some ⟨13, 98, none⟩)])]) := by
  have := C2s (name := [101, 114, 114, 111, 114]) (g := 0) (u := 271) (ty := 98) hhan (by kernel_rfl) (by kernel_rfl) (by kernel_rfl) (by kernel_rfl) (by kernel_rfl)
  rwa [show Tryz.prog.globals.size = 13 by kernel_rfl] at this
 have hm := h
 have he0 : A3m (K5 W) W 7 (.cptr [.iface 368 (.cptr [.str [118, 97, 108, 117, 101, 32, 111, 117, 116, 32, 111, 102, 32, 114, 97, 110, 103, 101]])]) := D18 (laidMet.tail (laidMet.tail (laidMet.tail (laidMet.tail hm)))) (ti := 98) (by kernel_rfl) (by kernel_rfl) Tryz.underlying98 D6i Tryz.underlying368 Tryz.underlying370 rfl rfl Tryz.underlying9 (by kernel_rfl) (by kernel_rfl)
 obtain ⟨ps, h⟩ := C5q h
 obtain ⟨qs, h⟩ := A3h h
 obtain ⟨qs, h⟩ := A3h h
 obtain ⟨h0, qs, h⟩ := A5f 3 h (g := 6) (t := 316) (by kernel_rfl) (by kernel_rfl) (avs := Lib.pow10Tab.map (.int .u64)) (by kernel_rfl)
 obtain ⟨qs, h⟩ := A3h h
 obtain ⟨qs, h⟩ := A3h h
 obtain ⟨qs, h⟩ := A3h h
 obtain ⟨h1, qs, h⟩ := A5f 3 h (g := 2) (t := 261) (by kernel_rfl) (by kernel_rfl) (avs := [.int .u8 34, .int .u8 92, .int .u8 10, .int .u8 13, .int .u8 9]) (by kernel_rfl)
 obtain ⟨h2, qs, h⟩ := A5f 3 h (g := 3) (t := 261) (by kernel_rfl) (by kernel_rfl) (avs := [.int .u8 34, .int .u8 92, .int .u8 110, .int .u8 114, .int .u8 116]) (by kernel_rfl)
 obtain ⟨h3, qs, h⟩ := A5f 3 h (g := 4) (t := 296) (by kernel_rfl) (by kernel_rfl) (avs := Sc.words.map .str) (by kernel_rfl)
 obtain ⟨h4, qs, h⟩ := A5f 3 h (g := 1) (t := 251) (by kernel_rfl) (by kernel_rfl) (avs := Pr.B9p.map .str) (by kernel_rfl)
 obtain ⟨qs, h⟩ := A3h h
 intro g
 unfold glob
 split
 ·rename_i hg; subst hg; exact h0
 ·
  split
  ·rename_i hg; subst hg; exact h1
  ·
   split
   ·rename_i hg; subst hg; exact h2
   ·
    split
    ·rename_i hg; subst hg; exact h3
    ·
     split
     ·rename_i hg; subst hg; exact h4
     ·
      split
      ·rename_i hg; subst hg; exact hhan
      ·
       split
       ·rename_i hg; subst hg; exact he0
       ·exact C87
theorem own : ownKnob Tryz.prog.godebug = none := by kernel_rfl
def D2m (H : Type) (_ : DataW H) : Nat := 0
set_option maxRecDepth 100000 in
theorem C19 (H : Type) (enc : TypeId × Value → H) (W : World) (base : Nat) (args : Array Value) (ds gs : List (DataW H)) (before : List MemPlace)
  (hval : ∀ (j : Nat) t v, Tryz.f4.params[j]? = some t → args[j]? = some v → Value.okWide Tryz.prog W .any base t v)
  (hW : DataW.Whole enc Tryz.prog Tryz.f4.params.toList Rows.printBackSpec.vars false W args.toList ds gs before) (hL : laidMetH Tryz.prog Rows.printBackRow.laid W) :
  Calls Tryz.prog 4 args W fun e W' => ∃ v, e = .returned v ∧ Rows.printBackSpec.post enc Tryz.prog Tryz.f4 false true false false W args v W' := by
 have hW' := hW
 obtain ⟨p, q, hA0, hV, rfl, hfz, hnd⟩ := hW
 have hA : DataW.TrodAll enc Tryz.prog W 0 (fun _ => true) true Tryz.f4.params.toList args.toList ds p := hA0
 rw [Tryz.params4] at hA hval
 obtain ⟨v0, vs0, d0, ds0, p0, q0, hargs, rfl, rfl, h0, r0⟩ := trodAll_cons hA
 obtain ⟨rfl, rfl, rfl⟩ := trodAll_nil r0
 obtain rfl : args = #[v0] := by cases args; simp_all
 obtain ⟨rfl, rfl⟩ := trodVars_none hV
 obtain ⟨x0, ok0, R0, K0⟩ := (B9f (bulk := D2m) Tryz.underlying9).arg h0
 refine (C0c ((Pr.D05 C9a C88 C89 D1v D5s D5t D5u x0 s0).mono fun v s' h => h.1) (D5v hL) (args := #[v0]) ?_).mono fun e W' ⟨he, K⟩ => ?_
 ·exact (C8e (D4z Tryz.underlying9 (hval 0 _ v0 rfl rfl) R0) D03)
 ·subst he
  refine ⟨_, rfl, C91 rfl rfl hW' (tb := 4) (by kernel_rfl) Tryz.underlying4 (fun p hp => B1i K ?_ hp) K⟩
  rw [Tryz.params4]
  exact (all_cons (B9f (bulk := D2m) Tryz.underlying9).keeps all_nil)
set_option maxRecDepth 100000 in
theorem D1g (os : Os) (args : Array Value) : laidMetH Tryz.prog Rows.printBackRow.laid (((World.doorLaid Tryz.prog 400 os).layVars Tryz.prog (Rows.printBackRow.laid.filter fun x => x.2.handleName?.isNone)).forCall (fun _ _ => 0) ⟨#[], args, []⟩).memory :=
 laidMetH_of_parts (C0x args (by kernel_rfl) (by kernel_rfl)) (by kernel_rfl)
def D4m : Array Value := #[.string ⟨#[]⟩]
theorem A36 (os : Os) {H : Type} (enc : TypeId × Value → H) : ∃ places, DataW.whole enc Tryz.prog (((World.doorLaid Tryz.prog 400 os).layVars Tryz.prog (Rows.printBackRow.laid.filter fun x => x.2.handleName?.isNone)).forCall (fun _ _ => 0) ⟨#[], D4m, []⟩).memory Tryz.f4.params.toList Rows.printBackSpec.vars false D4m.toList 8 = some ([.lit (.string [])], [], places) :=
 ⟨[], by kernel_rfl⟩
set_option maxRecDepth 100000 in
theorem D72 (os : Os) (started : os.Started) (H : Type) (enc : TypeId × Value → H) (F : Stop.Interp) :
  ReturnsInHanded {} Tryz.checked os 4 .any ((OpenSpec.ofChange Rows.printBackSpec).preRow enc Tryz.prog Tryz.f4 Rows.printBackRow.domain false Rows.printBackRow.laid) (((OpenSpec.ofChange Rows.printBackSpec).at F).post enc Tryz.prog Tryz.f4 false true false false) := by
 obtain ⟨places, hx⟩ := A36 os enc
 refine returnsInHanded_of_row (C := Tryz.checked) (s := (OpenSpec.ofChange Rows.printBackSpec)) own started (by kernel_rfl) Tryz.func4
  (witness_row_at (enc := enc) (C := Tryz.checked) false ((World.doorLaid Tryz.prog 400 os).layVars Tryz.prog (Rows.printBackRow.laid.filter fun x => x.2.handleName?.isNone)) D4m ((World.layVars_os _ _ _).trans rfl) (by kernel_rfl) (by kernel_rfl) (by kernel_rfl)
   (OpenSpec.preRow_of_cond 8 hx (by kernel_rfl) (fun k hk => by cases hk) (by kernel_rfl) (D1g os _))) ?_
 intro W base args ds gs before hval hW _ hcond _ hL hsh _
 exact C19 H enc W base args ds gs before hval hW hL
set_option maxHeartbeats 0 in
theorem D7j : joinedFacts Tryz.prog 4 Tryz.f4 ((OpenSpec.ofChange Rows.printBackSpec)).bare Rows.printBackRow = true := by
 unfold joinedFacts
 simp only [Bool.and_eq_true]
 repeat' apply And.intro
 all_goals (as_aux_lemma => kernel_rfl)
theorem said : Rows.PrintBackSaid :=
 OpenClaim.holds_of_cond 4 Tryz.f4 rfl rfl rfl rfl rfl rfl rfl ⟨rfl, rfl, rfl, rfl, rfl⟩ rfl rfl rfl rfl rfl (by as_aux_lemma => kernel_rfl) Tryz.func4 D7j
  (of_decide_eq_true (by kernel_rfl)) (by unfold Func.isWrapper; first | (rw [if_pos (by decide +kernel)]; kernel_rfl) | (rw [if_neg (by decide +kernel)]; exact ⟨rfl, rfl⟩))
  (fun os started H enc _ F => by rw [OpenClaim.pre_eq_preRow]; exact D72 os started H enc F)
theorem C90 (f : FuncId) (fn : Func) (hf : Tryz.pinned.checked.prog.funcNamed "proctor/proctorlaw12.PrintBack" = some f) (hfn : Tryz.pinned.checked.prog.funcs[f]? = some fn) :
  true = Tryz.pinned.checked.prog.looks [] ∧ ∀ (j : Nat) t, fn.params[j]? = some t → Tryz.pinned.checked.prog.wantsStandIn t = false := by
 obtain rfl : f = 4 := Option.some.inj ((show Tryz.prog.funcNamed "proctor/proctorlaw12.PrintBack" = some 4 by kernel_rfl).symm.trans hf) |>.symm
 obtain rfl : fn = Tryz.f4 := (Option.some.inj (Tryz.func4.symm.trans hfn)).symm
 refine ⟨by kernel_rfl, fun j t ht => ?_⟩
 have hall : (Tryz.f4.params.toList.all fun u => !Tryz.prog.wantsStandIn u) = true := by kernel_rfl
 exact (show Tryz.prog.wantsStandIn t = false by simpa using List.all_eq_true.1 hall t (by simpa using Array.mem_of_getElem? ht))
theorem card : Rows.PrintBackCardSaid :=
 Claim7.holds_tied_plain_at .later [] _ _ _ _ said (fun _ h => by cases h) (by kernel_rfl) (fun _ h => by cases h) printBack_row_tie rfl ⟨rfl, rfl⟩ (by kernel_rfl) rfl C90 (by kernel_rfl)
#print axioms card
end Go.Proofs.YticnkpgmmpenlaaGreatDoor.Pr.PrintBack
