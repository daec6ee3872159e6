
/- errors.Is over a library's variable of errors.New's make: of no error, and of an error of strconv's that holds the variable's value. Go's own text is walked, but for the two entries of the model's that tell whether a type can be compared. -/
import Derived.Test.YtcgobgnbpeageaaDoorChecked
import Derived.WalkKit
import Derived.LaidEql
import Derived.Stop.Asserts
import Derived.RowKitTokens
set_option linter.all false
namespace Go.Proofs.YtcgobgnbpeageaaDoor.Er
open Go Go.RowKit Go.Extern.Stop Go.Stop Go.Extern
set_option maxRecDepth 10000

theorem isTypeOf (v : Value) (w : World) : (Extern.ReflectliteType.typeOf #[.iface 100 v]).run Tryd.prog w = .ok (.iface 70 (.agg #[.pointer (some ⟨8, 100, none⟩)])) w := by kernel_rfl
theorem isComparable (w : World) : ((Extern.ReflectliteType.method fun t => do Extern.Rtype.noPackHeld "Comparable" t; (fun a => Value.bool a.comparable) <$> typeInfo t) #[.agg #[.pointer (some ⟨8, 100, none⟩)]]).run Tryd.prog w = .ok (.bool true) w := by kernel_rfl
theorem isMethodComparable (v : Value) (w : World) : (Go.method 244 70 v "Comparable").run Tryd.prog w = .ok (94, v) w := by kernel_rfl
theorem isComp : (Tryd.prog.info? 100).map (·.comparable) = some true := by kernel_rfl
theorem isSize : (Tryd.prog.info? 102).map (·.size) = some 1 := by kernel_rfl
theorem noIsW (v : Value) (xT : TypeId) (w : World) : (Instr.typeAssert (.iface 66 v) xT 72 true).run Tryd.prog w = .ok (.tuple #[.nilIface, .bool false]) w := run_typeAssert_lacksB Tryd.underlying72 (by kernel_rfl) (by kernel_rfl) v xT w
theorem hasUnwrapW (v : Value) (xT : TypeId) (w : World) : (Instr.typeAssert (.iface 66 v) xT 75 true).run Tryd.prog w = .ok (.tuple #[.iface 66 v, .bool true]) w := run_typeAssert_hasB Tryd.underlying75 (by kernel_rfl) v xT w
theorem methodUnwrap (v : Value) (w : World) : (Go.method 244 66 v "Unwrap").run Tryd.prog w = .ok (90, v) w := by kernel_rfl
theorem is_nil (b : Addr) (w : World) :
    Calls Tryd.prog 13 #[.nilIface, .iface 100 (.pointer (some b))] w fun e w' => e = .returned (.bool false) ∧ w' = w := by
  have hn := run_eql_iface_nil_left (P := Tryd.prog) w 100 (.pointer (some b)) Tryd.underlying33
  go_enter Tryd.func13, Tryd.ntmps13
  go_wp2
  go_ret
  exact ⟨rfl, rfl⟩
theorem is_num (pb : Nat) (b : Addr) (c0 c1 : Value) (T : TypeId) (w : World) (h1 : w.heap[pb]? = some (.cells #[c0, c1, .iface 100 (.pointer (some b))] T (0, 0))) :
    Calls Tryd.prog 13 #[.iface 66 (.pointer (some ⟨pb, 0, none⟩)), .iface 100 (.pointer (some b))] w fun e w' => e = .returned (.bool true) ∧ w' = w := by
  have hc2 : w.cell? ⟨pb, 0 + 2, none⟩ = some (.iface 100 (.pointer (some b))) := by
    simp [World.cell?, h1]
  obtain ⟨i, hi, hcmp⟩ := Option.map_eq_some_iff.1 isComp
  obtain ⟨j, hj, hjs⟩ := Option.map_eq_some_iff.1 isSize
  have h8 := @run_callFunc_extern Tryd.prog 24 _ Extern.ReflectliteType.typeOf Tryd.func24 (by kernel_rfl) (by kernel_rfl) (by kernel_rfl) (by kernel_rfl)
  have h32 := @run_callFunc_extern Tryd.prog 94 _ (Extern.ReflectliteType.method fun t => do Extern.Rtype.noPackHeld "Comparable" t; pure (.bool (← typeInfo t).comparable)) Tryd.func94 (by kernel_rfl) (by kernel_rfl) (by kernel_rfl) (by kernel_rfl)
  have tT := isTypeOf
  have cT := isComparable
  have mR := isMethodComparable
  have nW := noIsW
  have uW := hasUnwrapW
  have mU := methodUnwrap
  have heq := run_eql_iface_ptr_same (P := Tryd.prog) w b Tryd.underlying33 Tryd.underlying100 hi hcmp hj
  have hty := run_eql_iface_types (P := Tryd.prog) 66 100 (.pointer (some ⟨pb, 0, none⟩)) (.pointer (some b)) Tryd.underlying33 (by decide) w
  go_enter Tryd.func13, Tryd.ntmps13
  go_wp2
  refine wp_loop_rounds 2 ?_
  rw [rounds_succ]
  go_wp2
  rw [rounds_succ]
  go_wp2
  go_ret
  exact ⟨rfl, rfl⟩
end Go.Proofs.YtcgobgnbpeageaaDoor.Er
