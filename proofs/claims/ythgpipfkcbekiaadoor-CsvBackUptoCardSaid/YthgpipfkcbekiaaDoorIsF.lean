
/- errors.Is over an error of the program's own that holds a number, and another number: Go's own text is walked; then said of abstract values. (Printed by genIs.py.) -/
import Derived.Test.YthgpipfkcbekiaaDoorFg4
import Derived.Test.YthgpipfkcbekiaaDoorChecked
import Derived.WalkKit
import Derived.LaidEql
import Derived.Stop.Asserts
import Derived.RowKitTokens
set_option linter.all false
namespace Go.Proofs.YthgpipfkcbekiaaDoor.IsF
open Go Go.RowKit Go.Extern.Stop Go.Stop Go.Extern
set_option maxRecDepth 10000

section
variable {P : Program} (w : World)
theorem run_equalIn_iface_int (d : Nat) {ti tn : TypeId} {ms : Array (String × TypeId)} {i : TypeInfo} {k : IntKind} (a b : Int)
    (hi : P.underlying ti = some (.interface ms)) (hn : P.underlying tn = some (.int k)) (hinfo : P.info? tn = some i) (hcomp : i.comparable = true) :
    (Op.equalIn (d + 2) ti (.iface tn (.int k a)) (.iface tn (.int k b))).run P w = .ok (a == b) w := by
  simp [Op.equalIn, run_underlying hi, run_underlying hn, typeInfo, hinfo, hcomp]
theorem run_eql_iface_int {ti tn : TypeId} {ms : Array (String × TypeId)} {i : TypeInfo} {k : IntKind} (a b : Int)
    (hi : P.underlying ti = some (.interface ms)) (hn : P.underlying tn = some (.int k)) (hinfo : P.info? tn = some i) (hcomp : i.comparable = true) :
    (binOp .eql ti (.iface tn (.int k a)) (.iface tn (.int k b))).run P w = .ok (.bool (a == b)) w := by
  simp only [binOp]
  simp [Op.equal, Op.maxDepth, run_equalIn_iface_int w 9998 a b hi hn hinfo hcomp]
end
theorem isTypeOf (v : Value) (w : World) : (Extern.ReflectliteType.typeOf #[.iface 28 v]).run Tryd.prog w = .ok (.iface 95 (.agg #[.pointer (some ⟨4, 28, none⟩)])) w := by kernel_rfl
theorem isComparable (w : World) : ((Extern.ReflectliteType.method fun t => do Extern.Rtype.noPackHeld "Comparable" t; (fun a => Value.bool a.comparable) <$> typeInfo t) #[.agg #[.pointer (some ⟨4, 28, none⟩)]]).run Tryd.prog w = .ok (.bool true) w := by kernel_rfl
theorem isMethodComparable (v : Value) (w : World) : (Go.method 247 95 v "Comparable").run Tryd.prog w = .ok (83, v) w := by kernel_rfl
theorem isComp : (Tryd.prog.info? 28).map (·.comparable) = some true := by kernel_rfl
theorem noIsW (v : Value) (xT : TypeId) (w : World) : (Instr.typeAssert (.iface 62 v) xT 115 true).run Tryd.prog w = .ok (.tuple #[.nilIface, .bool false]) w := run_typeAssert_lacksB Tryd.underlying115 (by kernel_rfl) (by kernel_rfl) v xT w
theorem noIsN (v : Value) (xT : TypeId) (w : World) : (Instr.typeAssert (.iface 28 v) xT 115 true).run Tryd.prog w = .ok (.tuple #[.nilIface, .bool false]) w := run_typeAssert_lacksB Tryd.underlying115 (by kernel_rfl) (by kernel_rfl) v xT w
theorem noUnN (v : Value) (xT : TypeId) (w : World) : (Instr.typeAssert (.iface 28 v) xT 103 true).run Tryd.prog w = .ok (.tuple #[.nilIface, .bool false]) w := run_typeAssert_lacksB Tryd.underlying103 (by kernel_rfl) (by kernel_rfl) v xT w
theorem noUlN (v : Value) (xT : TypeId) (w : World) : (Instr.typeAssert (.iface 28 v) xT 105 true).run Tryd.prog w = .ok (.tuple #[.nilIface, .bool false]) w := run_typeAssert_lacksB Tryd.underlying105 (by kernel_rfl) (by kernel_rfl) v xT w
theorem hasUnwrapW (v : Value) (xT : TypeId) (w : World) : (Instr.typeAssert (.iface 62 v) xT 103 true).run Tryd.prog w = .ok (.tuple #[.iface 62 v, .bool true]) w := run_typeAssert_hasB Tryd.underlying103 (by kernel_rfl) v xT w
theorem methodUnwrap (v : Value) (w : World) : (Go.method 247 62 v "Unwrap").run Tryd.prog w = .ok (77, v) w := by kernel_rfl
theorem is_run (pb po : Nat) (e k : Int) (w : World) (h1 : w.cell? ⟨pb, po + 1, none⟩ = some (.iface 28 (.int .i64 e))) :
    Calls Tryd.prog 38 #[.iface 62 (.pointer (some ⟨pb, po, none⟩)), .iface 28 (.int .i64 k)] w fun r w' => r = .returned (.bool (e == k)) ∧ w' = w := by
  obtain ⟨i, hi, hcmp⟩ := Option.map_eq_some_iff.1 isComp
  have h8 := @run_callFunc_extern Tryd.prog 47 _ Extern.ReflectliteType.typeOf Tryd.func47 (by kernel_rfl) (by kernel_rfl) (by kernel_rfl) (by kernel_rfl)
  have h32 := @run_callFunc_extern Tryd.prog 83 _ (Extern.ReflectliteType.method fun t => do Extern.Rtype.noPackHeld "Comparable" t; pure (.bool (← typeInfo t).comparable)) Tryd.func83 (by kernel_rfl) (by kernel_rfl) (by kernel_rfl) (by kernel_rfl)
  have tT := isTypeOf
  have cT := isComparable
  have mR := isMethodComparable
  have nW := noIsW
  have nN := noIsN
  have uN := noUnN
  have lN := noUlN
  have uW := hasUnwrapW
  have mU := methodUnwrap
  have heq := run_eql_iface_int (P := Tryd.prog) w e k Tryd.underlying49 Tryd.underlying28 hi hcmp
  have hty := run_eql_iface_types (P := Tryd.prog) 62 28 (.pointer (some ⟨pb, po, none⟩)) (.int .i64 k) Tryd.underlying49 (by decide) w
  cases hk : (e == k) <;> rw [hk] at heq <;> clear hk
  · go_enter Tryd.func38, Tryd.ntmps38
    go_wp2
    refine wp_loop_rounds 2 ?_
    rw [rounds_succ]
    go_wp2
    rw [rounds_succ]
    go_wp2
    go_ret
    exact ⟨rfl, rfl⟩
  · go_enter Tryd.func38, Tryd.ntmps38
    go_wp2
    refine wp_loop_rounds 2 ?_
    rw [rounds_succ]
    go_wp2
    rw [rounds_succ]
    go_wp2
    go_ret
    exact ⟨rfl, rfl⟩
open Go.Ab
variable {Γ : Nat → AV}
theorem is_ok (c0 : AV) (e k : Int) : APure Tryd.prog Γ 38 [.iface 62 (.cptr [c0, .iface 28 (.int .i64 e)]), .iface 28 (.int .i64 k)] fun v => v = .bool (e == k) := by
  refine fun s => ⟨fun G w vs hm hr => ?_⟩
  obtain ⟨u, us, rfl, hu, hus⟩ := RList_cons.1 hr
  obtain ⟨u1, us1, rfl, hu1, hus1⟩ := RList_cons.1 hus
  rw [RList_nil] at hus1; subst hus1
  obtain ⟨x, rfl, hx⟩ := R_iface.1 hu
  obtain ⟨p, rfl, hp⟩ := R_iface.1 hu1
  rw [R_int] at hp; subst hp
  obtain ⟨pb, po, rfl, hc⟩ := R_cptr.1 hx
  unfold RCells at hc
  obtain ⟨_, _, hc⟩ := hc
  unfold RCells at hc
  obtain ⟨_, ⟨y, hy, hr1⟩, _⟩ := hc
  obtain ⟨z, rfl, hz⟩ := R_iface.1 hr1
  rw [R_int] at hz; subst hz
  refine (is_run pb po e k w hy).mono ?_
  rintro r w' ⟨rfl, rfl⟩
  exact ⟨_, _, s, G, rfl, ⟨rfl, rfl⟩, R_bool.2 rfl, hm, Ext.refl _ _⟩
end Go.Proofs.YthgpipfkcbekiaaDoor.IsF
