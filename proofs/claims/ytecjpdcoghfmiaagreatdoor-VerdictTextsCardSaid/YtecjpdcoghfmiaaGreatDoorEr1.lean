
/- errors.Is over a library's variable of errors.New's make: of no error, and of an error of strconv's that holds the variable's value. Go's own text is walked, but for the two entries of the model's that tell whether a type can be compared. -/
import Derived.Test.YtecjpdcoghfmiaaGreatDoorChecked
import Derived.WalkKit
import Derived.LaidEql
import Derived.Stop.Asserts
import Derived.RowKitTokens
set_option linter.all false
namespace Go.Proofs.YtecjpdcoghfmiaaGreatDoor.Er
open Go Go.RowKit Go.Extern.Stop Go.Stop Go.Extern
set_option maxRecDepth 10000

theorem isTypeOf (v : Value) (w : World) : (Extern.ReflectliteType.typeOf #[.iface 158 v]).run Tryz.prog w = .ok (.iface 91 (.agg #[.pointer (some ⟨10, 158, none⟩)])) w := by kernel_rfl
theorem isComparable (w : World) : ((Extern.ReflectliteType.method fun t => do Extern.Rtype.noPackHeld "Comparable" t; (fun a => Value.bool a.comparable) <$> typeInfo t) #[.agg #[.pointer (some ⟨10, 158, none⟩)]]).run Tryz.prog w = .ok (.bool true) w := by kernel_rfl
theorem isMethodComparable (v : Value) (w : World) : (Go.method 293 91 v "Comparable").run Tryz.prog w = .ok (125, v) w := by kernel_rfl
theorem isComp : (Tryz.prog.info? 158).map (·.comparable) = some true := by kernel_rfl
theorem isSize : (Tryz.prog.info? 160).map (·.size) = some 1 := by kernel_rfl
theorem noIsW (v : Value) (xT : TypeId) (w : World) : (Instr.typeAssert (.iface 139 v) xT 142 true).run Tryz.prog w = .ok (.tuple #[.nilIface, .bool false]) w := run_typeAssert_lacksB Tryz.underlying142 (by kernel_rfl) (by kernel_rfl) v xT w
theorem hasUnwrapW (v : Value) (xT : TypeId) (w : World) : (Instr.typeAssert (.iface 139 v) xT 99 true).run Tryz.prog w = .ok (.tuple #[.iface 139 v, .bool true]) w := run_typeAssert_hasB Tryz.underlying99 (by kernel_rfl) v xT w
theorem methodUnwrap (v : Value) (w : World) : (Go.method 293 139 v "Unwrap").run Tryz.prog w = .ok (136, v) w := by kernel_rfl
theorem is_nil (b : Addr) (w : World) :
    Calls Tryz.prog 56 #[.nilIface, .iface 158 (.pointer (some b))] w fun e w' => e = .returned (.bool false) ∧ w' = w := by
  have hn := run_eql_iface_nil_left (P := Tryz.prog) w 158 (.pointer (some b)) Tryz.underlying48
  go_enter Tryz.func56, Tryz.ntmps56
  go_wp2
  go_ret
  exact ⟨rfl, rfl⟩
theorem is_num (pb : Nat) (b : Addr) (c0 c1 : Value) (T : TypeId) (w : World) (h1 : w.heap[pb]? = some (.cells #[c0, c1, .iface 158 (.pointer (some b))] T (0, 0))) :
    Calls Tryz.prog 56 #[.iface 139 (.pointer (some ⟨pb, 0, none⟩)), .iface 158 (.pointer (some b))] w fun e w' => e = .returned (.bool true) ∧ w' = w := by
  have hc2 : w.cell? ⟨pb, 0 + 2, none⟩ = some (.iface 158 (.pointer (some b))) := by
    simp [World.cell?, h1]
  obtain ⟨i, hi, hcmp⟩ := Option.map_eq_some_iff.1 isComp
  obtain ⟨j, hj, hjs⟩ := Option.map_eq_some_iff.1 isSize
  have h8 := @run_callFunc_extern Tryz.prog 40 _ Extern.ReflectliteType.typeOf Tryz.func40 (by kernel_rfl) (by kernel_rfl) (by kernel_rfl) (by kernel_rfl)
  have h32 := @run_callFunc_extern Tryz.prog 125 _ (Extern.ReflectliteType.method fun t => do Extern.Rtype.noPackHeld "Comparable" t; pure (.bool (← typeInfo t).comparable)) Tryz.func125 (by kernel_rfl) (by kernel_rfl) (by kernel_rfl) (by kernel_rfl)
  have tT := isTypeOf
  have cT := isComparable
  have mR := isMethodComparable
  have nW := noIsW
  have uW := hasUnwrapW
  have mU := methodUnwrap
  have heq := run_eql_iface_ptr_same (P := Tryz.prog) w b Tryz.underlying48 Tryz.underlying158 hi hcmp hj
  have hty := run_eql_iface_types (P := Tryz.prog) 139 158 (.pointer (some ⟨pb, 0, none⟩)) (.pointer (some b)) Tryz.underlying48 (by decide) w
  go_enter Tryz.func56, Tryz.ntmps56
  go_wp2
  refine wp_loop_rounds 2 ?_
  rw [rounds_succ]
  go_wp2
  rw [rounds_succ]
  go_wp2
  go_ret
  exact ⟨rfl, rfl⟩
end Go.Proofs.YtecjpdcoghfmiaaGreatDoor.Er
