
/- CsvBack is so for any rows that are of bulk 1048576 at most: the row and its card. No condition beyond the row's own. -/
import Derived.Test.YthgpipfkcbekiaaDoorCvK
import Derived.Test.YthgpipfkcbekiaaDoorHa1
import Derived.Test.YthgpipfkcbekiaaDoorSh1
import Derived.Test.YthgpipfkcbekiaaDoorUp1
import Derived.Test.YthgpipfkcbekiaaDoorCards
import Derived.Test.YthgpipfkcbekiaaDoorTie
import Derived.WalkKit
import Derived.LaidHandle
import Derived.Lay
import Derived.ProofKit
import Derived.OpenShut
import Derived.LaidMore
import Derived.Deep.DeepHandedRow
import Derived.Lib.LaidTab
set_option linter.all false
namespace Go.Proofs.YthgpipfkcbekiaaDoor.Cv.CsvBack
open Go Go.ChangeShapes Go.WideShapes Go.ChangeAt Go.RowKit Go.Ab Go.Proofs.YthgpipfkcbekiaaDoor.Cv
/-- What the walks know of the variables. -/
def glob (m : Int) : Nat → AV := fun g => if g = 1 then .cptr [.int .i64 m] else if g = 0 then .cptr [.iface 95 (.agg [.ptr (some ⟨4, 49, none⟩)])] else .ptr (some ⟨g, 0, none⟩)
theorem glob_err (m : Int) : AsF.ErrT (glob m) := rfl
theorem glob_max (m : Int) : MaxN (glob m) := ⟨m, rfl⟩
theorem bulk_all {H : Type} : ∀ (es : List (DataW H)) (d : DataW H), d ∈ es → Rows.uptoBulk d ≤ Rows.uptoBulkAll es
  | e :: es, d, h => by
    rw [Rows.uptoBulkAll]
    rcases List.mem_cons.1 h with rfl | h
    · exact Nat.le_add_right _ _
    · exact Nat.le_trans (bulk_all es d h) (Nat.le_add_left _ _)
theorem bulk_row (H : Type) (es sp : List (DataW H)) (d : DataW H) (h : d ∈ es) : Rows.uptoBulk d ≤ Rows.uptoBulk (.slice es sp) := by
  rw [Rows.uptoBulk]
  have := bulk_all es d h
  omega
theorem bulk_str (H : Type) (l : List UInt8) : l.length ≤ Rows.uptoBulk (.lit (.string l) : DataW H) := by
  rw [Rows.uptoBulk]; omega
theorem opens_row : Opens Tryd.prog (fun _ d => Rows.uptoBulk d) 24 (fun l : List (List UInt8) => [.slice 0 (strsA l)]) (fun l n => (∀ x ∈ l, ∃ m, m ≤ n ∧ (x.length ≤ maxLen ∧ x.length ≤ m)) ∧ l.length ≤ maxLen) := opens_sliceU Tryd.underlying24 (k := 1) (by kernel_rfl) (by decide) (opens_strU Tryd.underlying9 bulk_str) (fun _ => rfl) bulk_row
theorem opens_rows : Opens Tryd.prog (fun _ d => Rows.uptoBulk d) 22 (fun l : Rows => [.slice 0 (rowsA l)]) (fun l n => (∀ r ∈ l, ∃ m, m ≤ n ∧ ((∀ x ∈ r, ∃ j, j ≤ m ∧ (x.length ≤ maxLen ∧ x.length ≤ j)) ∧ r.length ≤ maxLen)) ∧ l.length ≤ maxLen) := opens_sliceU Tryd.underlying22 (k := 1) (by kernel_rfl) (by decide) opens_row (fun _ => rfl) bulk_row
theorem glob_ok {W : World} (h : laidMetH Tryd.prog Rows.csvBackUptoRow.laid W) (hsh : W.ShapedOpen Tryd.prog) : ∃ m, ∀ g, GlobR (startG W) W g (glob m g) := by
  obtain ⟨m, hm⟩ := cell_of_shapedOpen_int (g := 1) (zero := #[.int .i64 0]) (t := 3) hsh (of_decide_eq_true (by kernel_rfl)) (by kernel_rfl) rfl (by kernel_rfl) (by kernel_rfl) Tryd.underlying3
  have hgm := shaped_glob (g := 1) (zero := #[.int .i64 0]) (t := 3) hsh (of_decide_eq_true (by kernel_rfl)) (by kernel_rfl) rfl hm
  refine ⟨m, ?_⟩
  obtain ⟨h, hhan⟩ := laid_handles (x := ("errors.errorType", Rows.laid_errors_errorType)) (hs := []) h (by kernel_rfl)
  have hhan : GlobR (startG W) W 0 (.cptr [.iface 95 (.agg [.ptr (some ⟨4, 49, none⟩)])]) := by
    have := handle_glob (name := [101, 114, 114, 111, 114]) (g := 0) (u := 95) (ty := 49) hhan (by kernel_rfl) (by kernel_rfl) (by kernel_rfl) (by kernel_rfl) (by kernel_rfl)
    rwa [show Tryd.prog.globals.size = 4 by kernel_rfl] at this
  obtain ⟨ps, h⟩ := laid_vars' h
  obtain ⟨qs, h⟩ := laid_skip h
  obtain ⟨qs, h⟩ := laid_skip h
  intro g
  unfold glob
  split
  · rename_i hg; subst hg; exact hgm
  split
  · rename_i hg; subst hg; exact hhan
  · exact glob_none
theorem own : ownKnob Tryd.prog.godebug = none := by kernel_rfl
def noBulk (H : Type) (d : DataW H) : Nat := Rows.uptoBulk d
set_option maxRecDepth 100000 in
theorem contract (H : Type) (enc : TypeId × Value → H) (W : World) (base : Nat) (args : Array Value) (ds gs : List (DataW H)) (before : List MemPlace)
    (hval : ∀ (j : Nat) t v, Tryd.f3.params[j]? = some t → args[j]? = some v → Value.okWide Tryd.prog W .any base t v)
    (hW : DataW.Whole enc Tryd.prog Tryd.f3.params.toList Rows.csvBackSpec.vars false W args.toList ds gs before) (hL : laidMetH Tryd.prog Rows.csvBackUptoRow.laid W) (hk : Rows.uptoSmall H (ds ++ gs) = true) (hsh : W.ShapedOpen Tryd.prog) :
    Calls Tryd.prog 3 args W fun e W' => ∃ v, e = .returned v ∧ Rows.csvBackSpec.post enc Tryd.prog Tryd.f3 false true false false W args v W' := by
  have hW' := hW
  obtain ⟨p, q, hA0, hV, rfl, hfz, hnd⟩ := hW
  have hA : DataW.TrodAll enc Tryd.prog W 0 (fun _ => true) true Tryd.f3.params.toList args.toList ds p := hA0
  rw [Tryd.params3] at hA hval
  obtain ⟨v0, vs0, d0, ds0, p0, q0, hargs, rfl, rfl, h0, r0⟩ := trodAll_cons hA
  obtain ⟨rfl, rfl, rfl⟩ := trodAll_nil r0
  obtain rfl : args = #[v0] := by cases args; simp_all
  obtain ⟨rfl, rfl⟩ := trodVars_none hV
  obtain ⟨x0, ok0, R0, K0⟩ := (opens_rows).arg h0
  have hsum : Rows.uptoBulk d0 ≤ 1048576 := by
    have h1 := of_decide_eq_true hk
    simp only [List.cons_append, List.nil_append, Rows.uptoBulkAll] at h1
    exact Nat.le_trans (Nat.le_add_right _ _) h1
  obtain ⟨ok1, ok2⟩ := ok0
  have hm1 : maxLen ≤ 9223372036854775807 := by decide
  obtain ⟨m, hgl⟩ := glob_ok hL hsh
  refine (calls_of_abs ((csvBack_law (glob_err m) (glob_max m) x0 (fun r hr x hx => by obtain ⟨k, hk1, hk2, _⟩ := ok1 r hr; obtain ⟨j, hj1, _, hj2⟩ := hk2 x hx; omega) (by omega) (fun r hr => by obtain ⟨k, _, _, hk3⟩ := ok1 r hr; omega) s0).mono fun v s' h => h.1) hgl (args := #[v0]) ?_).mono fun e W' ⟨he, K⟩ => ?_
  · exact (args_cons (arg_slice Tryd.underlying22 (hval 0 _ v0 rfl rfl) R0) args_nil)
  · subst he
    refine ⟨_, rfl, post_true rfl rfl hW' (tb := 4) (by kernel_rfl) Tryd.underlying4 (fun p hp => trodAll_keep K ?_ hp) K⟩
    rw [Tryd.params3]
    exact (all_cons (opens_rows).keeps all_nil)

set_option maxRecDepth 100000 in
theorem door_met (os : Os) (args : Array Value) : laidMetH Tryd.prog Rows.csvBackUptoRow.laid (((World.doorLaid Tryd.prog 400 os).layVars Tryd.prog (Rows.csvBackUptoRow.laid.filter fun x => x.2.handleName?.isNone)).forCall (fun _ _ => 0) ⟨#[], args, []⟩).memory :=
  laidMetH_of_parts (laidMet_over args (by kernel_rfl) (by kernel_rfl)) (by kernel_rfl)
def wargs : Array Value := #[.slice none 0 0]
theorem reads (os : Os) {H : Type} (enc : TypeId × Value → H) : ∃ places, DataW.whole enc Tryd.prog (((World.doorLaid Tryd.prog 400 os).layVars Tryd.prog (Rows.csvBackUptoRow.laid.filter fun x => x.2.handleName?.isNone)).forCall (fun _ _ => 0) ⟨#[], wargs, []⟩).memory Tryd.f3.params.toList Rows.csvBackSpec.vars false wargs.toList 8 = some ([.nil], [], places) :=
  ⟨[], by kernel_rfl⟩
set_option maxRecDepth 100000 in
theorem lifted (os : Os) (started : os.Started) (H : Type) (enc : TypeId × Value → H) (F : Stop.Interp) :
    ReturnsInHanded {} Tryd.checked os 3 .any ((Rows.OpenSpec.upto Rows.csvBackSpec).preRow enc Tryd.prog Tryd.f3 Rows.csvBackUptoRow.domain false Rows.csvBackUptoRow.laid) (((Rows.OpenSpec.upto Rows.csvBackSpec).at F).post enc Tryd.prog Tryd.f3 false true false false) := by
  obtain ⟨places, hx⟩ := reads os enc
  refine returnsInHanded_of_row (C := Tryd.checked) (s := (Rows.OpenSpec.upto Rows.csvBackSpec)) own started (by kernel_rfl) Tryd.func3
    (witness_row_at (enc := enc) (C := Tryd.checked) false ((World.doorLaid Tryd.prog 400 os).layVars Tryd.prog (Rows.csvBackUptoRow.laid.filter fun x => x.2.handleName?.isNone)) wargs ((World.layVars_os _ _ _).trans rfl) (by kernel_rfl) (by kernel_rfl) (by kernel_rfl)
      (OpenSpec.preRow_of_cond 8 hx (by kernel_rfl) (fun k hk => by cases hk; kernel_rfl) (by kernel_rfl) (door_met os _))) ?_
  intro W base args ds gs before hval hW _ hcond _ hL hsh _
  exact contract H enc W base args ds gs before hval hW hL (hcond _ rfl) hsh
theorem said : Rows.CsvBackUptoSaid :=
  OpenClaim.holds_of_cond 3 Tryd.f3 rfl rfl rfl rfl rfl rfl rfl ⟨rfl, rfl, rfl, rfl, rfl⟩ rfl rfl rfl rfl rfl (by kernel_rfl) Tryd.func3 (by kernel_rfl)
    (of_decide_eq_true (by kernel_rfl)) (by unfold Func.isWrapper; first | (rw [if_pos (by decide +kernel)]; kernel_rfl) | (rw [if_neg (by decide +kernel)]; exact ⟨rfl, rfl⟩))
    (fun os started H enc _ F => by rw [OpenClaim.pre_eq_preRow]; exact lifted os started H enc F)
theorem plainArgs (f : FuncId) (fn : Func) (hf : Tryd.pinned.checked.prog.funcNamed "proctor/proctorlaw06.CsvBack" = some f) (hfn : Tryd.pinned.checked.prog.funcs[f]? = some fn) :
    true = Tryd.pinned.checked.prog.looks [] ∧ ∀ (j : Nat) t, fn.params[j]? = some t → Tryd.pinned.checked.prog.wantsStandIn t = false := by
  obtain rfl : f = 3 := Option.some.inj ((show Tryd.prog.funcNamed "proctor/proctorlaw06.CsvBack" = some 3 by kernel_rfl).symm.trans hf) |>.symm
  obtain rfl : fn = Tryd.f3 := (Option.some.inj (Tryd.func3.symm.trans hfn)).symm
  refine ⟨by kernel_rfl, fun j t ht => ?_⟩
  have hall : (Tryd.f3.params.toList.all fun u => !Tryd.prog.wantsStandIn u) = true := by kernel_rfl
  exact (show Tryd.prog.wantsStandIn t = false by simpa using List.all_eq_true.1 hall t (by simpa using Array.mem_of_getElem? ht))
theorem card : Rows.CsvBackUptoCardSaid :=
  Claim7.holds_tied_plain_at .later [] _ _ _ _ said (fun _ h => by cases h) (by kernel_rfl) (fun _ h => by cases h) csvBackUpto_row_tie rfl ⟨rfl, rfl⟩ (by kernel_rfl) rfl plainArgs (by kernel_rfl)
#print axioms card
end Go.Proofs.YthgpipfkcbekiaaDoor.Cv.CsvBack
