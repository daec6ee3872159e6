
/- errors.As over an error of the target's own type (AsV): Go's own text is walked; then said of abstract values. (Printed by genAs.py, after the kit's worked toy.) -/
import Derived.Test.YtecjpdcoghfmiaaGreatDoorFg4
import Derived.Test.YtecjpdcoghfmiaaGreatDoorChecked
import Derived.WalkKit
import Derived.LaidEql
import Derived.Stop.Asserts
import Derived.RowKitTokens
set_option linter.all false
namespace Go.Proofs.YtecjpdcoghfmiaaGreatDoor.AsV
open Go Go.RowKit Go.Extern.Stop Go.Stop Go.Extern
set_option maxRecDepth 10000

theorem valueOfPE (t : Addr) (w : World) : (ReflectliteValue.unpack (.iface 60 (.pointer (some t)))).run Tryz.prog w
    = .ok (.agg #[.pointer (some ⟨10, 60, none⟩), .pointer (some ⟨w.heap.size, 0, none⟩), .int .u64 150]) (w.alloc (.cells #[.pointer (some t)] 60)) := by kernel_rfl
theorem typePE (a : Addr) (w : World) : (ReflectliteValue.methodAny (ReflectliteValue.valueError "reflectlite.Value.Type" 0) (fun t _ _ _ => ReflectliteType.toType t) #[(.agg #[.pointer (some ⟨10, 60, none⟩), .pointer (some a), .int .u64 150])]).run Tryz.prog w
    = .ok (.iface 91 (.agg #[.pointer (some ⟨10, 60, none⟩)])) w := by kernel_rfl
theorem methodKind (h : Value) (w : World) : (Go.method 293 91 (.agg #[h]) "Kind").run Tryz.prog w = .ok (114, h) w := by kernel_rfl
theorem kindPE (w : World) : ((ReflectliteType.abiMethod fun t => (fun a : Nat => Value.int IntKind.u8 (a : Int)) <$> Rtype.kind t) #[.pointer (some ⟨10, 60, none⟩)]).run Tryz.prog w = .ok (.int .u8 22) w := by kernel_rfl
theorem kindE (w : World) : ((ReflectliteType.abiMethod fun t => (fun a : Nat => Value.int IntKind.u8 (a : Int)) <$> Rtype.kind t) #[.pointer (some ⟨10, 58, none⟩)]).run Tryz.prog w = .ok (.int .u8 25) w := by kernel_rfl
theorem rlm (z : Sem Value) (f : TypeId → Addr → Nat → Nat → Sem Value) (v : Value) :
    ReflectliteValue.method z f #[v] = (do match ← ReflectliteValue.parts v with | none => z | some (t, a, fl) => f t a fl (fl % 32)) := rfl
theorem partsPE (a : Addr) (w : World) : (ReflectliteValue.parts (.agg #[.pointer (some ⟨10, 60, none⟩), .pointer (some a), .int .u64 150])).run Tryz.prog w = .ok (some (60, a, 150)) w := by kernel_rfl
theorem isNilPE (a p : Addr) (W : World) (ha : W.cell? a = some (.pointer (some p))) :
    (ReflectliteValue.method (ReflectliteValue.valueError "reflectlite.Value.IsNil" 0) ReflectliteValue.isNil #[(.agg #[.pointer (some ⟨10, 60, none⟩), .pointer (some a), .int .u64 150])]).run Tryz.prog W = .ok (.bool false) W := by
  rw [rlm]
  simp only [Sem.run_bind, partsPE, Result.andThen]
  simp [ReflectliteValue.isNil, loadVar, isAgg, underlying, Tryz.underlying60, ha, Result.andThen]
theorem methodElem (h : Value) (w : World) : (Go.method 293 91 (.agg #[h]) "Elem").run Tryz.prog w = .ok (126, .agg #[h]) w := by kernel_rfl
theorem methodImplements (h : Value) (w : World) : (Go.method 293 91 (.agg #[h]) "Implements").run Tryz.prog w = .ok (127, .agg #[h]) w := by kernel_rfl
theorem methodAssignableTo (h : Value) (w : World) : (Go.method 293 91 (.agg #[h]) "AssignableTo").run Tryz.prog w = .ok (124, .agg #[h]) w := by kernel_rfl
theorem elemPE (w : World) : (ReflectliteType.method ReflectliteType.elem #[.agg #[.pointer (some ⟨10, 60, none⟩)]]).run Tryz.prog w = .ok (.iface 91 (.agg #[.pointer (some ⟨10, 58, none⟩)])) w := by kernel_rfl
theorem implementsE (w : World) : (ReflectliteType.relation "Implements" ReflectliteType.implements_ #[.agg #[.pointer (some ⟨10, 58, none⟩)], (.iface 91 (.agg #[.pointer (some ⟨10, 48, none⟩)]))]).run Tryz.prog w = .ok (.bool true) w := by kernel_rfl
theorem typeOfE (v : Value) (w : World) : (ReflectliteType.typeOf #[.iface 58 v]).run Tryz.prog w = .ok (.iface 91 (.agg #[.pointer (some ⟨10, 58, none⟩)])) w := by kernel_rfl
theorem assignableE (w : World) : (ReflectliteType.relation "AssignableTo" ReflectliteType.assignableTo #[.agg #[.pointer (some ⟨10, 58, none⟩)], (.iface 91 (.agg #[.pointer (some ⟨10, 58, none⟩)]))]).run Tryz.prog w = .ok (.bool true) w := by kernel_rfl
theorem valueOfE (x0 : Value) (w : World) : (ReflectliteValue.unpack (.iface 58 (.agg #[x0]))).run Tryz.prog w
    = .ok (.agg #[.pointer (some ⟨10, 58, none⟩), .pointer (some ⟨w.heap.size, 0, none⟩), .int .u64 153]) (w.alloc (.cells #[x0] 58)) := by kernel_rfl
theorem elemOfPE (w : World) : (Rtype.elem? 60).run Tryz.prog w = .ok (some 58) w := by kernel_rfl
theorem mkE (p : Addr) (w : World) : (ReflectliteValue.mk 58 p ReflectliteValue.flagAddr).run Tryz.prog w = .ok (.agg #[.pointer (some ⟨10, 58, none⟩), .pointer (some p), .int .u64 409]) w := by kernel_rfl
theorem elemVPE (a p : Addr) (W : World) (ha : W.cell? a = some (.pointer (some p))) :
    (ReflectliteValue.method (ReflectliteValue.valueError "reflectlite.Value.Elem" 0) ReflectliteValue.elem #[(.agg #[.pointer (some ⟨10, 60, none⟩), .pointer (some a), .int .u64 150])]).run Tryz.prog W
      = .ok (.agg #[.pointer (some ⟨10, 58, none⟩), .pointer (some p), .int .u64 409]) W := by
  rw [rlm]
  simp only [Sem.run_bind, partsPE, Result.andThen]
  simp [ReflectliteValue.elem, loadVar, isAgg, underlying, Tryz.underlying60, ha, Result.andThen, elemOfPE, mkE]
theorem rls (v x : Value) : ReflectliteValue.set #[v, x] = (do
    let (some (dst, a, fl), some (src, b, _)) := (← ReflectliteValue.parts v, ← ReflectliteValue.parts x)
      | unsupported (.noEntry "extern/(internal/reflectlite.Value).Set.zeroValue")
    if fl / ReflectliteValue.flagAddr % 2 == 0 then unsupported (.noEntry "extern/(internal/reflectlite.Value).Set.unaddressable")
    let val ← loadVar src b
    if ← Rtype.directlyAssignable dst src then storeVar dst a val
    else if ← Rtype.implements dst src then
      if (← Rtype.kind src) == 20 then
        match val with
        | .nilIface => unsupported (.noEntry "extern/reflectlite: a nil value of one interface type handed on as a value of another")
        | _ => storeVar dst a val
      else storeVar dst a (.iface src val)
    else panicString ("reflectlite.Set: value of type " ++ (← Rtype.spelt src) ++ " is not assignable to type " ++ (← Rtype.spelt dst))
    pure (.tuple #[])) := rfl
theorem partsDst (a : Addr) (w : World) : (ReflectliteValue.parts (.agg #[.pointer (some ⟨10, 58, none⟩), .pointer (some a), .int .u64 409])).run Tryz.prog w = .ok (some (58, a, 409)) w := by kernel_rfl
theorem partsSrc (b : Addr) (w : World) : (ReflectliteValue.parts (.agg #[.pointer (some ⟨10, 58, none⟩), .pointer (some b), .int .u64 153])).run Tryz.prog w = .ok (some (58, b, 153)) w := by kernel_rfl
theorem directE (w : World) : (Rtype.directlyAssignable 58 58).run Tryz.prog w = .ok true w := by kernel_rfl
theorem setE (a b : Addr) (val : Value) (W W' : World) (hl : (loadVar 58 b).run Tryz.prog W = .ok val W) (hs : (storeVar 58 a val).run Tryz.prog W = .ok () W') :
    (ReflectliteValue.set #[(.agg #[.pointer (some ⟨10, 58, none⟩), .pointer (some a), .int .u64 409]), (.agg #[.pointer (some ⟨10, 58, none⟩), .pointer (some b), .int .u64 153])]).run Tryz.prog W = .ok (.tuple #[]) W' := by
  rw [rls]
  simp only [Sem.run_bind, partsDst, partsSrc, Result.andThen]
  simp [ReflectliteValue.flagAddr, hl, Result.andThen, directE, hs]
theorem as_nil (t : Value) (w : World) :
    Calls Tryz.prog 21 #[.nilIface, t] w fun e w' => e = .returned (.bool false) ∧ w' = w := by
  go_enter Tryz.func21, Tryz.ntmps21
  go_wp2
  go_ret
  exact ⟨rfl, rfl⟩
set_option maxHeartbeats 4000000 in
theorem as_hit (x0 : Value) (t : Addr) (old val : Value) (w W' : World) (hg : w.cell? ⟨1, 0, none⟩ = some (.iface 91 (.agg #[.pointer (some ⟨10, 48, none⟩)]))) (ht0 : w.cell? t = some old)
    (hl : (loadVar 58 ⟨w.heap.size + 1 + 1 + 1, 0, none⟩).run Tryz.prog ((((w.alloc (.cells #[.pointer (some t)] 60)).alloc (.cells #[.pointer (some ⟨10, 60, none⟩), .pointer (some ⟨w.heap.size, 0, none⟩), .int .u64 150] 72)).alloc (.cells #[.pointer (some ⟨10, 60, none⟩), .pointer (some ⟨w.heap.size, 0, none⟩), .int .u64 150] 72)).alloc (.cells #[x0] 58)) = .ok val ((((w.alloc (.cells #[.pointer (some t)] 60)).alloc (.cells #[.pointer (some ⟨10, 60, none⟩), .pointer (some ⟨w.heap.size, 0, none⟩), .int .u64 150] 72)).alloc (.cells #[.pointer (some ⟨10, 60, none⟩), .pointer (some ⟨w.heap.size, 0, none⟩), .int .u64 150] 72)).alloc (.cells #[x0] 58))) (hs : (storeVar 58 t val).run Tryz.prog ((((w.alloc (.cells #[.pointer (some t)] 60)).alloc (.cells #[.pointer (some ⟨10, 60, none⟩), .pointer (some ⟨w.heap.size, 0, none⟩), .int .u64 150] 72)).alloc (.cells #[.pointer (some ⟨10, 60, none⟩), .pointer (some ⟨w.heap.size, 0, none⟩), .int .u64 150] 72)).alloc (.cells #[x0] 58)) = .ok () W') :
    Calls Tryz.prog 21 #[.iface 58 (.agg #[x0]), .iface 60 (.pointer (some t))] w fun ev w' => ev = .returned (.bool true) ∧ w' = W' := by
  have h6 := @run_callFunc_extern Tryz.prog 30 _ (fun args => ReflectliteValue.unpack (args.getD 0 (.tuple #[]))) Tryz.func30 (by kernel_rfl) (by kernel_rfl) (by kernel_rfl) (by kernel_rfl)
  have h7 := @run_callFunc_extern Tryz.prog 31 _ (ReflectliteValue.methodAny (ReflectliteValue.valueError "reflectlite.Value.Type" 0) (fun t _ _ _ => ReflectliteType.toType t)) Tryz.func31 (by kernel_rfl) (by kernel_rfl) (by kernel_rfl) (by kernel_rfl)
  have h8 := @run_callFunc_extern Tryz.prog 32 _ (ReflectliteValue.method (ReflectliteValue.valueError "reflectlite.Value.IsNil" 0) ReflectliteValue.isNil) Tryz.func32 (by kernel_rfl) (by kernel_rfl) (by kernel_rfl) (by kernel_rfl)
  have h27 := @run_callFunc_extern Tryz.prog 114 _ (ReflectliteType.abiMethod fun t => do pure (.int .u8 (← Rtype.kind t))) Tryz.func114 (by kernel_rfl) (by kernel_rfl) (by kernel_rfl) (by kernel_rfl)
  have h37 := @run_callFunc_extern Tryz.prog 126 _ (ReflectliteType.method ReflectliteType.elem) Tryz.func126 (by kernel_rfl) (by kernel_rfl) (by kernel_rfl) (by kernel_rfl)
  have h38 := @run_callFunc_extern Tryz.prog 127 _ (ReflectliteType.relation "Implements" ReflectliteType.implements_) Tryz.func127 (by kernel_rfl) (by kernel_rfl) (by kernel_rfl) (by kernel_rfl)
  have h10 := @run_callFunc_extern Tryz.prog 40 _ ReflectliteType.typeOf Tryz.func40 (by kernel_rfl) (by kernel_rfl) (by kernel_rfl) (by kernel_rfl)
  have h35 := @run_callFunc_extern Tryz.prog 124 _ (ReflectliteType.relation "AssignableTo" ReflectliteType.assignableTo) Tryz.func124 (by kernel_rfl) (by kernel_rfl) (by kernel_rfl) (by kernel_rfl)
  have h11 := @run_callFunc_extern Tryz.prog 41 _ (ReflectliteValue.method (ReflectliteValue.valueError "reflectlite.Value.Elem" 0) ReflectliteValue.elem) Tryz.func41 (by kernel_rfl) (by kernel_rfl) (by kernel_rfl) (by kernel_rfl)
  have h12 := @run_callFunc_extern Tryz.prog 42 _ ReflectliteValue.set Tryz.func42 (by kernel_rfl) (by kernel_rfl) (by kernel_rfl) (by kernel_rfl)
  have tO := typeOfE
  have mA := methodAssignableTo
  have aE := assignableE
  have vE := valueOfE
  have f6 := valueOfPE
  have f7 := typePE
  have mK := methodKind
  have mE := methodElem
  have mI := methodImplements
  have kP := kindPE
  have kE := kindE
  have eP := elemPE
  have iE := implementsE
  have n8 := isNilPE ⟨w.heap.size, 0, none⟩ t ((w.alloc (.cells #[.pointer (some t)] 60)).alloc (.cells #[.pointer (some ⟨10, 60, none⟩), .pointer (some ⟨w.heap.size, 0, none⟩), .int .u64 150] 72)) (by simp)
  have hlt : 1 < w.heap.size := by
    rcases Nat.lt_or_ge 1 w.heap.size with h | h
    · exact h
    · simp [World.cell?, Array.getElem?_eq_none h] at hg
  have hg2 : ((w.alloc (.cells #[.pointer (some t)] 60)).alloc (.cells #[.pointer (some ⟨10, 60, none⟩), .pointer (some ⟨w.heap.size, 0, none⟩), .int .u64 150] 72)).cell? ⟨1, 0, none⟩ = some (.iface 91 (.agg #[.pointer (some ⟨10, 48, none⟩)])) := by
    rw [World.cell?_alloc_lt _ _ ⟨1, 0, none⟩ (by first | (simp; done) | (simp; omega)), World.cell?_alloc_lt _ _ ⟨1, 0, none⟩ hlt]; exact hg
  have el := elemVPE ⟨w.heap.size, 0, none⟩ t (((w.alloc (.cells #[.pointer (some t)] 60)).alloc (.cells #[.pointer (some ⟨10, 60, none⟩), .pointer (some ⟨w.heap.size, 0, none⟩), .int .u64 150] 72)).alloc (.cells #[.pointer (some ⟨10, 60, none⟩), .pointer (some ⟨w.heap.size, 0, none⟩), .int .u64 150] 72)) (by rw [World.cell?_alloc_lt _ _ ⟨w.heap.size, 0, none⟩ (by simp; omega)]; simp)
  have st := setE t ⟨w.heap.size + 1 + 1 + 1, 0, none⟩ val ((((w.alloc (.cells #[.pointer (some t)] 60)).alloc (.cells #[.pointer (some ⟨10, 60, none⟩), .pointer (some ⟨w.heap.size, 0, none⟩), .int .u64 150] 72)).alloc (.cells #[.pointer (some ⟨10, 60, none⟩), .pointer (some ⟨w.heap.size, 0, none⟩), .int .u64 150] 72)).alloc (.cells #[x0] 58)) W' hl hs
  clear hl hs
  go_enter Tryz.func21, Tryz.ntmps21
  go_wp2
  refine wp_loop_rounds 1 ?_
  rw [rounds_succ]
  go_wp2
  go_ret
  exact ⟨rfl, rfl⟩
open Go.Ab
variable {Γ : Nat → AV}
def ErrT (Γ : Nat → AV) : Prop := Γ 1 = .cptr [.iface 91 (.agg [.ptr (some ⟨10, 48, none⟩)])]
theorem errT_cell {G : Gh} {s : Sto} {w : World} (hE : ErrT Γ) (hm : Mod Γ G s w) : w.cell? ⟨1, 0, none⟩ = some (.iface 91 (.agg #[.pointer (some ⟨10, 48, none⟩)])) := by
  have h := (hm.glob 1).r
  rw [hE] at h
  obtain ⟨b, o, hp, hc⟩ := R_cptr.1 h
  simp only [Value.pointer.injEq, Option.some.injEq, Addr.mk.injEq] at hp
  obtain ⟨rfl, rfl, _⟩ := hp
  unfold RCells at hc
  obtain ⟨_, ⟨u, hu, hr⟩, _⟩ := hc
  obtain ⟨v, rfl, hv⟩ := R_iface.1 hr
  obtain ⟨us, rfl, hus⟩ := R_agg.1 hv
  obtain ⟨u1, us1, h1, h2, h3⟩ := RList_cons.1 hus
  rw [R_ptr] at h2
  rw [RList_nil] at h3
  subst h2 h3
  obtain rfl : us = #[.pointer (some ⟨10, 48, none⟩)] := by cases us; simp_all
  exact hu
theorem asNil_ok (x : AV) : APure Tryz.prog Γ 21 [.nilIface, x] fun v => v = .bool false := by
  refine fun s => ⟨fun G w vs hm hr => ?_⟩
  obtain ⟨u, us, rfl, hu, hus⟩ := RList_cons.1 hr
  obtain ⟨u1, us1, rfl, hu1, hus1⟩ := RList_cons.1 hus
  rw [RList_nil] at hus1; subst hus1
  rw [R_nilIface] at hu; subst hu
  refine (as_nil u1 w).mono ?_
  rintro e w' ⟨rfl, rfl⟩
  exact ⟨_, _, s, G, rfl, ⟨rfl, rfl⟩, R_bool.2 rfl, hm, Ext.refl _ _⟩
theorem asHit_ok (hE : ErrT Γ) (x0 : Int) {s : Sto} {b : Nat} {T0 : TypeId} {o0 : AV} (hb : s.bx b = some (T0, [o0])) :
    ACalls Tryz.prog Γ 21 [.iface 58 (.agg [.int .i64 x0]), .iface 60 (.ptr (some ⟨b, 0, none⟩))] s fun v s' => v = .bool true ∧ s' = s.set b T0 [.int .i64 x0] := by
  refine ⟨fun G w vs hm hr => ?_⟩
  obtain ⟨u, us, rfl, hu, hus⟩ := RList_cons.1 hr
  obtain ⟨u1, us1, rfl, hu1, hus1⟩ := RList_cons.1 hus
  rw [RList_nil] at hus1; subst hus1
  obtain ⟨e, rfl, he⟩ := R_iface.1 hu
  obtain ⟨p, rfl, hp⟩ := R_iface.1 hu1
  rw [R_ptr] at hp; subst hp
  obtain ⟨vs, rfl, hvs⟩ := R_agg.1 he
  obtain ⟨v0, r0, h0, hv0, hr0⟩ := RList_cons.1 hvs
  rw [RList_nil] at hr0
  obtain rfl : vs = #[v0] := by cases vs; simp_all
  have hg := errT_cell hE hm
  obtain ⟨ws, hws, hcell⟩ := box_cells hm hb
  obtain ⟨w0, ws', rfl, _, _⟩ := RList_cons.1 hws
  have ht0 : w.cell? ⟨b, 0, none⟩ = some w0 := by rw [hcell]; rfl
  obtain ⟨m1, e1⟩ := hm.row_new (.cells #[.pointer (some ⟨b, 0, none⟩)] 60)
  obtain ⟨m2, e2⟩ := m1.row_new (.cells #[.pointer (some ⟨10, 60, none⟩), .pointer (some ⟨w.heap.size, 0, none⟩), .int .u64 150] 72)
  obtain ⟨m3, e3⟩ := m2.row_new (.cells #[.pointer (some ⟨10, 60, none⟩), .pointer (some ⟨w.heap.size, 0, none⟩), .int .u64 150] 72)
  obtain ⟨m4, e4⟩ := m3.row_new (.cells #[v0] 58)
  have X := ((e1.trans e2).trans e3).trans e4
  obtain ⟨val, r, hl, hk, hrr⟩ := run_loadVar_of (P := Tryz.prog) (t := 58) (cs := [.int .i64 x0]) (us := [v0]) (b := w.heap.size + 1 + 1 + 1) (o := 0) (w := (((( w.alloc (.cells #[.pointer (some ⟨b, 0, none⟩)] 60)).alloc (.cells #[.pointer (some ⟨10, 60, none⟩), .pointer (some ⟨w.heap.size, 0, none⟩), .int .u64 150] 72)).alloc (.cells #[.pointer (some ⟨10, 60, none⟩), .pointer (some ⟨w.heap.size, 0, none⟩), .int .u64 150] 72)).alloc (.cells #[v0] 58))) (K := fun r => r = .agg [.int .i64 x0]) (by (conv => whnf); exact ⟨Nat.le_of_ble_eq_true (by kernel_rfl), by first | (conv => whnf; done) | (conv => whnf; rfl) | rfl⟩) (RList_cons.2 ⟨v0, _, rfl, R.mono X _ _ hv0, RList_nil.2 rfl⟩) (fun i v hi => by
    rw [World.cell?_alloc_at _ _ _ _ (by simp)]
    simpa using hi)
  subst hk
  obtain ⟨zs, rfl, hval⟩ := R_agg.1 hrr
  obtain ⟨W', hs, hM', X'⟩ := store_ok (P := Tryz.prog) (T := 58) m4 hb (o := 0) (n := 1) (us := [.int .i64 x0]) (v := (.agg zs)) (by kernel_rfl) hval rfl rfl (by simp)
  refine (as_hit v0 ⟨b, 0, none⟩ w0 (.agg zs) w W' hg ht0 hl hs).mono ?_
  rintro ev w' ⟨rfl, rfl⟩
  exact ⟨_, _, _, _, rfl, ⟨rfl, rfl⟩, R_bool.2 rfl, hM', X.trans X'⟩
end Go.Proofs.YtecjpdcoghfmiaaGreatDoor.AsV
