/- errors.Is over a library's variable of errors.New's make: of no error, and of an error of strconv's that holds the variable's value. Go's own text is walked, but for the two entries of the model's that tell whether a type can be compared. -/
import Derived.Test.YtcgobgnbpeageaaGreatDoorChecked
import Derived.WalkKit
import Derived.LaidEql
import Derived.Stop.Asserts
import Derived.RowKitTokens
set_option linter.all false
namespace Go.Proofs.YtcgobgnbpeageaaGreatDoor.Er
open Go Go.RowKit Go.Extern.Stop Go.Stop Go.Extern
set_option maxRecDepth 10000

theorem isTypeOf (v : Value) (w : World) : (Extern.ReflectliteType.typeOf #[.iface 156 v]).run Tryz.prog w = .ok (.iface 131 (.agg #[.pointer (some ⟨10, 156, none⟩)])) w := by kernel_rfl
theorem isComparable (w : World) : ((Extern.ReflectliteType.method fun t => do Extern.Rtype.noPackHeld "Comparable" t; (fun a => Value.bool a.comparable) <$> typeInfo t) #[.agg #[.pointer (some ⟨10, 156, none⟩)]]).run Tryz.prog w = .ok (.bool true) w := by kernel_rfl
theorem isMethodComparable (v : Value) (w : World) : (Go.method 297 131 v "Comparable").run Tryz.prog w = .ok (152, v) w := by kernel_rfl
theorem isComp : (Tryz.prog.info? 156).map (·.comparable) = some true := by kernel_rfl
theorem isSize : (Tryz.prog.info? 158).map (·.size) = some 1 := by kernel_rfl
theorem noIsW (v : Value) (xT : TypeId) (w : World) : (Instr.typeAssert (.iface 127 v) xT 133 true).run Tryz.prog w = .ok (.tuple #[.nilIface, .bool false]) w := run_typeAssert_lacksB Tryz.underlying133 (by kernel_rfl) (by kernel_rfl) v xT w
theorem hasUnwrapW (v : Value) (xT : TypeId) (w : World) : (Instr.typeAssert (.iface 127 v) xT 136 true).run Tryz.prog w = .ok (.tuple #[.iface 127 v, .bool true]) w := run_typeAssert_hasB Tryz.underlying136 (by kernel_rfl) v xT w
theorem methodUnwrap (v : Value) (w : World) : (Go.method 297 127 v "Unwrap").run Tryz.prog w = .ok (148, v) w := by kernel_rfl
theorem is_nil (b : Addr) (w : World) :
    Calls Tryz.prog 54 #[.nilIface, .iface 156 (.pointer (some b))] w fun e w' => e = .returned (.bool false) ∧ w' = w := by
  have hn := run_eql_iface_nil_left (P := Tryz.prog) w 156 (.pointer (some b)) Tryz.underlying71
  go_enter Tryz.func54, Tryz.ntmps54
  go_wp2
  go_ret
  exact ⟨rfl, rfl⟩
theorem is_num (pb : Nat) (b : Addr) (c0 c1 : Value) (T : TypeId) (w : World) (h1 : w.heap[pb]? = some (.cells #[c0, c1, .iface 156 (.pointer (some b))] T (0, 0))) :
    Calls Tryz.prog 54 #[.iface 127 (.pointer (some ⟨pb, 0, none⟩)), .iface 156 (.pointer (some b))] w fun e w' => e = .returned (.bool true) ∧ w' = w := by
  have hc2 : w.cell? ⟨pb, 0 + 2, none⟩ = some (.iface 156 (.pointer (some b))) := by
    simp [World.cell?, h1]
  obtain ⟨i, hi, hcmp⟩ := Option.map_eq_some_iff.1 isComp
  obtain ⟨j, hj, hjs⟩ := Option.map_eq_some_iff.1 isSize
  have h8 := @run_callFunc_extern Tryz.prog 77 _ Extern.ReflectliteType.typeOf Tryz.func77 (by kernel_rfl) (by kernel_rfl) (by kernel_rfl) (by kernel_rfl)
  have h32 := @run_callFunc_extern Tryz.prog 152 _ (Extern.ReflectliteType.method fun t => do Extern.Rtype.noPackHeld "Comparable" t; pure (.bool (← typeInfo t).comparable)) Tryz.func152 (by kernel_rfl) (by kernel_rfl) (by kernel_rfl) (by kernel_rfl)
  have tT := isTypeOf
  have cT := isComparable
  have mR := isMethodComparable
  have nW := noIsW
  have uW := hasUnwrapW
  have mU := methodUnwrap
  have heq := run_eql_iface_ptr_same (P := Tryz.prog) w b Tryz.underlying71 Tryz.underlying156 hi hcmp hj
  have hty := run_eql_iface_types (P := Tryz.prog) 127 156 (.pointer (some ⟨pb, 0, none⟩)) (.pointer (some b)) Tryz.underlying71 (by decide) w
  go_enter Tryz.func54, Tryz.ntmps54
  go_wp2
  refine wp_loop_rounds 2 ?_
  rw [rounds_succ]
  go_wp2
  rw [rounds_succ]
  go_wp2
  go_ret
  exact ⟨rfl, rfl⟩
end Go.Proofs.YtcgobgnbpeageaaGreatDoor.Er
