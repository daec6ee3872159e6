/- Part 4 of what the closing text needs: AsO, LxF, LxG, LxH, NuP, NuQ, NuR, Pa0, PaA, PaB, CkA, CkB, CkP. No condition of mine beyond those that the theorems name. -/
import Derived.Test.YtaammejliikieaaGreatDoorChecked
import Derived.WalkKit
import Derived.LaidEql
import Derived.Stop.Asserts
import Derived.RowKitTokens
import Derived.Test.YtaammejliikieaaGreatDoorG1
import Derived.Test.YtaammejliikieaaGreatDoorG3
import Derived.Shelf.Strings.SlTrimAscii
import Derived.Test.YtaammejliikieaaGreatDoorAb23
import Derived.Handy
import Derived.Lib.AtoiErrMem
import Derived.Test.YtaammejliikieaaGreatDoorProg
import Derived.Lib.AppendIntMem
import Derived.Test.YtaammejliikieaaGreatDoorAb22
import Derived.Test.YtaammejliikieaaGreatDoorG2
set_option maxRecDepth 10000
set_option maxHeartbeats 60000000
set_option linter.all false
namespace Go.Proofs.YtaammejliikieaaGreatDoor.Lx
end Go.Proofs.YtaammejliikieaaGreatDoor.Lx
namespace Go.Proofs.YtaammejliikieaaGreatDoor.Pa
end Go.Proofs.YtaammejliikieaaGreatDoor.Pa
namespace Go.Proofs.YtaammejliikieaaGreatDoor.Sc
end Go.Proofs.YtaammejliikieaaGreatDoor.Sc
namespace Go.Proofs.YtaammejliikieaaGreatDoor.AsO
open Go Go.RowKit Go.Extern.Stop Go.Stop Go.Extern
theorem A8k (t:Addr) (w:World):(ReflectliteValue.unpack (.iface 272 (.pointer (some t)))).run Tryz.prog w
  = .ok (.agg #[.pointer (some ⟨12,272,none⟩),.pointer (some ⟨w.heap.size,0,none⟩),.int .u64 150]) (w.alloc (.cells #[.pointer (some t)] 272)):=by kernel_rfl
theorem B9w (a : Addr) (w : World) : (ReflectliteValue.methodAny (ReflectliteValue.valueError "reflectlite.Value.Type" 0) (fun t _ _ _ => ReflectliteType.toType t) #[(.agg #[.pointer (some ⟨12, 272, none⟩), .pointer (some a), .int .u64 150])]).run Tryz.prog w
  = .ok (.iface 194 (.agg #[.pointer (some ⟨12,272,none⟩)])) w:=by kernel_rfl
theorem A5p (h : Value) (w : World) : (Go.method 550 194 (.agg #[h]) "Kind").run Tryz.prog w = .ok (326, h) w := by kernel_rfl
theorem B87 (w:World):((ReflectliteType.abiMethod fun t=>(fun a:Nat=>Value.int IntKind.u8 (a:Int)) <$> Rtype.kind t) #[.pointer (some ⟨12,272,none⟩)]).run Tryz.prog w=.ok (.int .u8 22) w:=by kernel_rfl
theorem C4u (w:World):((ReflectliteType.abiMethod fun t=>(fun a:Nat=>Value.int IntKind.u8 (a:Int)) <$> Rtype.kind t) #[.pointer (some ⟨12,271,none⟩)]).run Tryz.prog w=.ok (.int .u8 25) w:=by kernel_rfl
theorem rlm (z:Sem Value) (f:TypeId→Addr→Nat→Nat→Sem Value) (v:Value) :
  ReflectliteValue.method z f #[v]=(do match ← ReflectliteValue.parts v with|none=>z|some (t,a,fl)=>f t a fl (fl % 32)):=rfl
theorem A68 (a:Addr) (w:World):(ReflectliteValue.parts (.agg #[.pointer (some ⟨12,272,none⟩),.pointer (some a),.int .u64 150])).run Tryz.prog w=.ok (some (272,a,150)) w:=by kernel_rfl
theorem B42 (a p:Addr) (W:World) (ha:W.cell? a=some (.pointer (some p))) :
  (ReflectliteValue.method (ReflectliteValue.valueError "reflectlite.Value.IsNil" 0) ReflectliteValue.isNil #[(.agg #[.pointer (some ⟨12, 272, none⟩), .pointer (some a), .int .u64 150])]).run Tryz.prog W = .ok (.bool false) W := by
 rw [rlm]
 simp only [Sem.run_bind,A68,Result.andThen]
 simp [ReflectliteValue.isNil,loadVar,isAgg,underlying,Tryz.underlying272,ha,Result.andThen]
theorem A5o (h : Value) (w : World) : (Go.method 550 194 (.agg #[h]) "Elem").run Tryz.prog w = .ok (338, .agg #[h]) w := by kernel_rfl
theorem Z2 (h : Value) (w : World) : (Go.method 550 194 (.agg #[h]) "Implements").run Tryz.prog w = .ok (339, .agg #[h]) w := by kernel_rfl
theorem X0 (h : Value) (w : World) : (Go.method 550 194 (.agg #[h]) "AssignableTo").run Tryz.prog w = .ok (336, .agg #[h]) w := by kernel_rfl
theorem B8w (w:World):(ReflectliteType.method ReflectliteType.elem #[.agg #[.pointer (some ⟨12,272,none⟩)]]).run Tryz.prog w=.ok (.iface 194 (.agg #[.pointer (some ⟨12,271,none⟩)])) w:=by kernel_rfl
theorem A3u (w : World) : (ReflectliteType.relation "Implements" ReflectliteType.implements_ #[.agg #[.pointer (some ⟨12, 271, none⟩)], (.iface 194 (.agg #[.pointer (some ⟨12, 85, none⟩)]))]).run Tryz.prog w = .ok (.bool true) w := by kernel_rfl
theorem B5w (v:Value) (w:World):(ReflectliteType.typeOf #[.iface 271 v]).run Tryz.prog w=.ok (.iface 194 (.agg #[.pointer (some ⟨12,271,none⟩)])) w:=by kernel_rfl
theorem A3k (w : World) : (ReflectliteType.relation "AssignableTo" ReflectliteType.assignableTo #[.agg #[.pointer (some ⟨12, 271, none⟩)], (.iface 194 (.agg #[.pointer (some ⟨12, 271, none⟩)]))]).run Tryz.prog w = .ok (.bool true) w := by kernel_rfl
theorem B14 (x0:Value) (w:World):(ReflectliteValue.unpack (.iface 271 (.agg #[x0]))).run Tryz.prog w
  = .ok (.agg #[.pointer (some ⟨12,271,none⟩),.pointer (some ⟨w.heap.size,0,none⟩),.int .u64 153]) (w.alloc (.cells #[x0] 271)):=by kernel_rfl
theorem B0f (w:World):(Rtype.elem? 272).run Tryz.prog w=.ok (some 271) w:=by kernel_rfl
theorem mkE (p:Addr) (w:World):(ReflectliteValue.mk 271 p ReflectliteValue.flagAddr).run Tryz.prog w=.ok (.agg #[.pointer (some ⟨12,271,none⟩),.pointer (some p),.int .u64 409]) w:=by kernel_rfl
theorem B4o (a p:Addr) (W:World) (ha:W.cell? a=some (.pointer (some p))) :
  (ReflectliteValue.method (ReflectliteValue.valueError "reflectlite.Value.Elem" 0) ReflectliteValue.elem #[(.agg #[.pointer (some ⟨12, 272, none⟩), .pointer (some a), .int .u64 150])]).run Tryz.prog W
   = .ok (.agg #[.pointer (some ⟨12,271,none⟩),.pointer (some p),.int .u64 409]) W:=by
 rw [rlm]
 simp only [Sem.run_bind,A68,Result.andThen]
 simp [ReflectliteValue.elem,loadVar,isAgg,underlying,Tryz.underlying272,ha,Result.andThen,B0f,mkE]
theorem rls (v x:Value):ReflectliteValue.set #[v,x]=(do
  let (some (dst,a,fl),some (src,b,_)):=(← ReflectliteValue.parts v,← ReflectliteValue.parts x)
   | unsupported (.noEntry "extern/(internal/reflectlite.Value).Set.zeroValue")
  if fl / ReflectliteValue.flagAddr % 2 == 0 then unsupported (.noEntry "extern/(internal/reflectlite.Value).Set.unaddressable")
  let val ← loadVar src b
  if ← Rtype.directlyAssignable dst src then storeVar dst a val
  else if ← Rtype.implements dst src then
   if (← Rtype.kind src) == 20 then
    match val with
    | .nilIface => unsupported (.noEntry "extern/reflectlite: a nil value of one interface type handed on as a value of another")
    | _=>storeVar dst a val
   else storeVar dst a (.iface src val)
  else panicString ("reflectlite.Set: value of type " ++ (← Rtype.spelt src) ++ " is not assignable to type " ++ (← Rtype.spelt dst))
  pure (.tuple #[])):=rfl
theorem B1c (a:Addr) (w:World):(ReflectliteValue.parts (.agg #[.pointer (some ⟨12,271,none⟩),.pointer (some a),.int .u64 409])).run Tryz.prog w=.ok (some (271,a,409)) w:=by kernel_rfl
theorem B1d (b:Addr) (w:World):(ReflectliteValue.parts (.agg #[.pointer (some ⟨12,271,none⟩),.pointer (some b),.int .u64 153])).run Tryz.prog w=.ok (some (271,b,153)) w:=by kernel_rfl
theorem B4j (w:World):(Rtype.directlyAssignable 271 271).run Tryz.prog w=.ok true w:=by kernel_rfl
theorem D0o (a b:Addr) (val:Value) (W W':World) (hl:(loadVar 271 b).run Tryz.prog W=.ok val W) (hs:(storeVar 271 a val).run Tryz.prog W=.ok () W') :
  (ReflectliteValue.set #[(.agg #[.pointer (some ⟨12,271,none⟩),.pointer (some a),.int .u64 409]),(.agg #[.pointer (some ⟨12,271,none⟩),.pointer (some b),.int .u64 153])]).run Tryz.prog W=.ok (.tuple #[]) W':=by
 rw [rls]
 simp only [Sem.run_bind,B1c,B1d,Result.andThen]
 simp [ReflectliteValue.flagAddr,hl,Result.andThen,B4j,hs]
theorem A95 (t:Value) (w:World) :
  Calls Tryz.prog 12 #[.nilIface,t] w fun e w'=>e=.returned (.bool false)∧w'=w:=by
 go_enter Tryz.func12,Tryz.ntmps12
 go_wp2
 go_ret
 exact ⟨rfl,rfl⟩
theorem B8f (x0:Value) (t:Addr) (old val:Value) (w W':World) (hg:w.cell? ⟨0,0,none⟩=some (.iface 194 (.agg #[.pointer (some ⟨12,85,none⟩)]))) (ht0:w.cell? t=some old)
  (hl:(loadVar 271 ⟨w.heap.size+1+1+1,0,none⟩).run Tryz.prog ((((w.alloc (.cells #[.pointer (some t)] 272)).alloc (.cells #[.pointer (some ⟨12,272,none⟩),.pointer (some ⟨w.heap.size,0,none⟩),.int .u64 150] 130)).alloc (.cells #[.pointer (some ⟨12,272,none⟩),.pointer (some ⟨w.heap.size,0,none⟩),.int .u64 150] 130)).alloc (.cells #[x0] 271))=.ok val ((((w.alloc (.cells #[.pointer (some t)] 272)).alloc (.cells #[.pointer (some ⟨12,272,none⟩),.pointer (some ⟨w.heap.size,0,none⟩),.int .u64 150] 130)).alloc (.cells #[.pointer (some ⟨12,272,none⟩),.pointer (some ⟨w.heap.size,0,none⟩),.int .u64 150] 130)).alloc (.cells #[x0] 271))) (hs:(storeVar 271 t val).run Tryz.prog ((((w.alloc (.cells #[.pointer (some t)] 272)).alloc (.cells #[.pointer (some ⟨12,272,none⟩),.pointer (some ⟨w.heap.size,0,none⟩),.int .u64 150] 130)).alloc (.cells #[.pointer (some ⟨12,272,none⟩),.pointer (some ⟨w.heap.size,0,none⟩),.int .u64 150] 130)).alloc (.cells #[x0] 271))=.ok () W') :
  Calls Tryz.prog 12 #[.iface 271 (.agg #[x0]),.iface 272 (.pointer (some t))] w fun ev w'=>ev=.returned (.bool true)∧w'=W':=by
 have h6:=@run_callFunc_extern Tryz.prog 41 _ (fun args=>ReflectliteValue.unpack (args.getD 0 (.tuple #[]))) Tryz.func41 (by kernel_rfl) (by kernel_rfl) (by kernel_rfl) (by kernel_rfl)
 have h7 := @run_callFunc_extern Tryz.prog 42 _ (ReflectliteValue.methodAny (ReflectliteValue.valueError "reflectlite.Value.Type" 0) (fun t _ _ _ => ReflectliteType.toType t)) Tryz.func42 (by kernel_rfl) (by kernel_rfl) (by kernel_rfl) (by kernel_rfl)
 have h8 := @run_callFunc_extern Tryz.prog 43 _ (ReflectliteValue.method (ReflectliteValue.valueError "reflectlite.Value.IsNil" 0) ReflectliteValue.isNil) Tryz.func43 (by kernel_rfl) (by kernel_rfl) (by kernel_rfl) (by kernel_rfl)
 have h27:=@run_callFunc_extern Tryz.prog 326 _ (ReflectliteType.abiMethod fun t=>do pure (.int .u8 (← Rtype.kind t))) Tryz.func326 (by kernel_rfl) (by kernel_rfl) (by kernel_rfl) (by kernel_rfl)
 have h37:=@run_callFunc_extern Tryz.prog 338 _ (ReflectliteType.method ReflectliteType.elem) Tryz.func338 (by kernel_rfl) (by kernel_rfl) (by kernel_rfl) (by kernel_rfl)
 have h38 := @run_callFunc_extern Tryz.prog 339 _ (ReflectliteType.relation "Implements" ReflectliteType.implements_) Tryz.func339 (by kernel_rfl) (by kernel_rfl) (by kernel_rfl) (by kernel_rfl)
 have h10:=@run_callFunc_extern Tryz.prog 105 _ ReflectliteType.typeOf Tryz.func105 (by kernel_rfl) (by kernel_rfl) (by kernel_rfl) (by kernel_rfl)
 have h35 := @run_callFunc_extern Tryz.prog 336 _ (ReflectliteType.relation "AssignableTo" ReflectliteType.assignableTo) Tryz.func336 (by kernel_rfl) (by kernel_rfl) (by kernel_rfl) (by kernel_rfl)
 have h11 := @run_callFunc_extern Tryz.prog 106 _ (ReflectliteValue.method (ReflectliteValue.valueError "reflectlite.Value.Elem" 0) ReflectliteValue.elem) Tryz.func106 (by kernel_rfl) (by kernel_rfl) (by kernel_rfl) (by kernel_rfl)
 have h12:=@run_callFunc_extern Tryz.prog 107 _ ReflectliteValue.set Tryz.func107 (by kernel_rfl) (by kernel_rfl) (by kernel_rfl) (by kernel_rfl)
 have tO:=B5w
 have mA:=X0
 have aE:=A3k
 have vE:=B14
 have f6:=A8k
 have f7:=B9w
 have mK:=A5p
 have mE:=A5o
 have mI:=Z2
 have kP:=B87
 have kE:=C4u
 have eP:=B8w
 have iE:=A3u
 have n8:=B42 ⟨w.heap.size,0,none⟩ t ((w.alloc (.cells #[.pointer (some t)] 272)).alloc (.cells #[.pointer (some ⟨12,272,none⟩),.pointer (some ⟨w.heap.size,0,none⟩),.int .u64 150] 130)) (by simp)
 have hlt:0 < w.heap.size:=by
  rcases Nat.lt_or_ge 0 w.heap.size with h|h
  ·exact h
  ·simp [World.cell?,Array.getElem?_eq_none h] at hg
 have hg2:((w.alloc (.cells #[.pointer (some t)] 272)).alloc (.cells #[.pointer (some ⟨12,272,none⟩),.pointer (some ⟨w.heap.size,0,none⟩),.int .u64 150] 130)).cell? ⟨0,0,none⟩=some (.iface 194 (.agg #[.pointer (some ⟨12,85,none⟩)])):=by
  rw [World.cell?_alloc_lt _ _ ⟨0,0,none⟩ (by first|(simp;done)|(simp;omega)),World.cell?_alloc_lt _ _ ⟨0,0,none⟩ hlt];exact hg
 have el:=B4o ⟨w.heap.size,0,none⟩ t (((w.alloc (.cells #[.pointer (some t)] 272)).alloc (.cells #[.pointer (some ⟨12,272,none⟩),.pointer (some ⟨w.heap.size,0,none⟩),.int .u64 150] 130)).alloc (.cells #[.pointer (some ⟨12,272,none⟩),.pointer (some ⟨w.heap.size,0,none⟩),.int .u64 150] 130)) (by rw [World.cell?_alloc_lt _ _ ⟨w.heap.size,0,none⟩ (by simp;omega)];simp)
 have st:=D0o t ⟨w.heap.size+1+1+1,0,none⟩ val ((((w.alloc (.cells #[.pointer (some t)] 272)).alloc (.cells #[.pointer (some ⟨12,272,none⟩),.pointer (some ⟨w.heap.size,0,none⟩),.int .u64 150] 130)).alloc (.cells #[.pointer (some ⟨12,272,none⟩),.pointer (some ⟨w.heap.size,0,none⟩),.int .u64 150] 130)).alloc (.cells #[x0] 271)) W' hl hs
 clear hl hs
 go_enter Tryz.func12,Tryz.ntmps12
 go_wp2
 refine wp_loop_rounds 1 ?_
 rw [rounds_succ]
 go_wp2
 go_ret
 exact ⟨rfl,rfl⟩
open Go.Ab
variable {Γ:Nat→AV}
def A2e (Γ:Nat→AV):Prop:=Γ 0=.cptr [.iface 194 (.agg [.ptr (some ⟨12,85,none⟩)])]
theorem A7y {G:Gh} {s:Sto} {w:World} (hE:A2e Γ) (hm:Mod Γ G s w):w.cell? ⟨0,0,none⟩=some (.iface 194 (.agg #[.pointer (some ⟨12,85,none⟩)])):=by
 have h:=(hm.glob 0).r
 rw [hE] at h
 obtain ⟨b,o,hp,hc⟩:=M4.1 h
 simp only [Value.pointer.injEq,Option.some.injEq,Addr.mk.injEq] at hp
 obtain ⟨rfl,rfl,_⟩:=hp
 unfold C6 at hc
 obtain ⟨_,⟨u,hu,hr⟩,_⟩:=hc
 obtain ⟨v,rfl,hv⟩:=M9.1 hr
 obtain ⟨us,rfl,hus⟩:=A1x.1 hv
 obtain ⟨u1,us1,h1,h2,h3⟩:=A9.1 hus
 rw [N8] at h2
 rw [B4] at h3
 subst h2 h3
 obtain rfl:us = #[.pointer (some ⟨12,85,none⟩)]:=by cases us;simp_all
 exact hu
theorem W0 (x:AV):A8 Tryz.prog Γ 12 [.nilIface,x] fun v=>v=.bool false:=by
 refine fun s=>⟨fun G w vs hm hr=>?_⟩
 obtain ⟨u,us,rfl,hu,hus⟩:=A9.1 hr
 obtain ⟨u1,us1,rfl,hu1,hus1⟩:=A9.1 hus
 rw [B4] at hus1;subst hus1
 rw [L6] at hu;subst hu
 refine (A95 u1 w).mono ?_
 rintro e w' ⟨rfl,rfl⟩
 exact ⟨_,_,s,G,rfl,⟨rfl,rfl⟩,F7.2 rfl,hm,Ext.refl _ _⟩
theorem A94 (hE:A2e Γ) (x0:Int) {s:Sto} {b:Nat} {T0:TypeId} {o0:AV} (hb:s.bx b=some (T0,[o0])) :
  A2 Tryz.prog Γ 12 [.iface 271 (.agg [.int .i64 x0]),.iface 272 (.ptr (some ⟨b,0,none⟩))] s fun v s'=>v=.bool true∧s'=s.set b T0 [.int .i64 x0]:=by
 refine ⟨fun G w vs hm hr=>?_⟩
 obtain ⟨u,us,rfl,hu,hus⟩:=A9.1 hr
 obtain ⟨u1,us1,rfl,hu1,hus1⟩:=A9.1 hus
 rw [B4] at hus1;subst hus1
 obtain ⟨e,rfl,he⟩:=M9.1 hu
 obtain ⟨p,rfl,hp⟩:=M9.1 hu1
 rw [N8] at hp;subst hp
 obtain ⟨vs,rfl,hvs⟩:=A1x.1 he
 obtain ⟨v0,r0,h0,hv0,hr0⟩:=A9.1 hvs
 rw [B4] at hr0
 obtain rfl:vs = #[v0]:=by cases vs;simp_all
 have hg:=A7y hE hm
 obtain ⟨ws,hws,hcell⟩:=A13 hm hb
 obtain ⟨w0,ws',rfl,_,_⟩:=A9.1 hws
 have ht0:w.cell? ⟨b,0,none⟩=some w0:=by rw [hcell];rfl
 obtain ⟨m1,e1⟩:=hm.row_new (.cells #[.pointer (some ⟨b,0,none⟩)] 272)
 obtain ⟨m2,e2⟩:=m1.row_new (.cells #[.pointer (some ⟨12,272,none⟩),.pointer (some ⟨w.heap.size,0,none⟩),.int .u64 150] 130)
 obtain ⟨m3,e3⟩:=m2.row_new (.cells #[.pointer (some ⟨12,272,none⟩),.pointer (some ⟨w.heap.size,0,none⟩),.int .u64 150] 130)
 obtain ⟨m4,e4⟩:=m3.row_new (.cells #[v0] 271)
 have X:=((e1.trans e2).trans e3).trans e4
 obtain ⟨val,r,hl,hk,hrr⟩:=U8 (P:=Tryz.prog) (t:=271) (cs:=[.int .i64 x0]) (us:=[v0]) (b:=w.heap.size+1+1+1) (o:=0) (w:=(((( w.alloc (.cells #[.pointer (some ⟨b,0,none⟩)] 272)).alloc (.cells #[.pointer (some ⟨12,272,none⟩),.pointer (some ⟨w.heap.size,0,none⟩),.int .u64 150] 130)).alloc (.cells #[.pointer (some ⟨12,272,none⟩),.pointer (some ⟨w.heap.size,0,none⟩),.int .u64 150] 130)).alloc (.cells #[v0] 271))) (K:=fun r=>r=.agg [.int .i64 x0]) (by (conv=>whnf);exact ⟨Nat.le_of_ble_eq_true (by kernel_rfl),by first|(conv=>whnf;done)|(conv=>whnf;rfl)|rfl⟩) (A9.2 ⟨v0,_,rfl,R.mono X _ _ hv0,B4.2 rfl⟩) (fun i v hi=>by
  rw [World.cell?_alloc_at _ _ _ _ (by simp)]
  simpa using hi)
 subst hk
 obtain ⟨zs,rfl,hval⟩:=A1x.1 hrr
 obtain ⟨W',hs,hM',X'⟩:=B1x (P:=Tryz.prog) (T:=271) m4 hb (o:=0) (n:=1) (us:=[.int .i64 x0]) (v:=(.agg zs)) (by kernel_rfl) hval rfl rfl (by simp)
 refine (B8f v0 ⟨b,0,none⟩ w0 (.agg zs) w W' hg ht0 hl hs).mono ?_
 rintro ev w' ⟨rfl,rfl⟩
 exact ⟨_,_,_,_,rfl,⟨rfl,rfl⟩,F7.2 rfl,hM',X.trans X'⟩
end Go.Proofs.YtaammejliikieaaGreatDoor.AsO
namespace Go.Proofs.YtaammejliikieaaGreatDoor.Lx
open Go Go.Ab Go.RowKit Go.Proofs.YtaammejliikieaaGreatDoor.Sc
variable {Γ:Nat→AV}
attribute [local irreducible] A8 Sto.set Sto.grow
theorem C46:∀ m:Nat,m < 256→(Qu.one (m:Int)).count 10=0:=by decide +kernel
theorem B9n (t:List UInt8):(Qu.C0w t).count 10=0:=by
 unfold Qu.C0w
 have h:(t.flatMap fun c=>Qu.one c.toNat).count 10=0:=by
  induction t with
  | nil=>rfl
  | cons c t ih=>rw [List.flatMap_cons,List.count_append,ih,C46 c.toNat c.toNat_lt]
 simp [h]
theorem B9s:∀ x ∈ signsL,x.count 10=0:=by decide
theorem A5x:∀ (L:List (List UInt8)) (l:List UInt8),A3c L l=[]∨(A3c L l ∈ L∧pfx (A3c L l) l=true)
 | [],l=>.inl rfl
 | x::L,l=>by
  unfold A3c
  split
  ·rename_i h;exact .inr ⟨by simp,h⟩
  ·rcases A5x L l with h|h
   ·exact .inl h
   ·exact .inr ⟨by simp [h.1],h.2⟩
theorem C5c {x l:List UInt8} (h:pfx x l=true):x.length≤l.length∧l.take x.length=x:=by
 unfold pfx at h
 simpa using h
theorem C3f (l:List UInt8) (h:l.all (fun c=>T9 c.toNat)=true):l.count 10=0:=by
 rw [List.count_eq_zero]
 intro hm
 have:=List.all_eq_true.1 h 10 hm
 revert this
 decide
theorem A3r {l t:List UInt8} {k:Int} {n:Nat} (h:P1 l=.ok (k,t,n)) (h0:l≠[]):1≤n∧n≤l.length∧(l.take n).count 10=0:=by
 unfold P1 at h
 split at h
 ·split at h
  ·cases h
  ·rename_i t' k' hc
   have hb:=Qu.C34 hc
   split at h
   ·cases h
   ·cases h
    exact ⟨hb.1,hb.2.1,by rw [← hb.2.2];exact B9n _⟩
 ·split at h
  ·split at h
   ·cases h
   ·rename_i hg
    cases h
    rcases A5x signsL l with hs|hs
    ·exact absurd hs hg
    ·have hp:=C5c hs.2
     refine ⟨List.length_pos_iff.2 hg,hp.1,?_⟩
     rw [show Y2 l=A3c signsL l from rfl,hp.2]
     exact B9s _ hs.1
  ·rename_i h1
   split at h
   ·cases h
   ·cases h
    exact ⟨Nat.pos_of_ne_zero h1,B46 l,C3f _ (B64 l)⟩
theorem B7i {l:List UInt8} (h:l.count 10=0) (p:Int × Int):G8 p l=(p.1,p.2+l.length):=by
 obtain ⟨a,b⟩:=p
 rw [A17,if_pos h]
abbrev Tok:=Int × List UInt8 × Int × Int
def A3d:Nat→Int × Int→List UInt8→Except (Int × Int × Int) (List Tok)
 | 0,_,_=>.ok []
 | k+1,p,l=>if l.drop (C7 l)=[] then .ok [] else match P1 (l.drop (C7 l)) with
  | .error e=>.error (e,G8 p (l.take (C7 l)))
  | .ok (kd,t,z)=>match A3d k ((G8 p (l.take (C7 l))).1,(G8 p (l.take (C7 l))).2+z) ((l.drop (C7 l)).drop z) with
   | .error e=>.error e
   | .ok m=>.ok ((kd,t,G8 p (l.take (C7 l)))::m)
def A1r (o:List Tok):Except (Int × Int × Int) (List Tok)→Except (Int × Int × Int) (List Tok)
 | .error e=>.error e
 | .ok m=>.ok (o++m)
theorem C5g (o p:List Tok) (x:Except (Int × Int × Int) (List Tok)):A1r o (A1r p x)=A1r (o++p) x:=by cases x<;>simp [A1r]
theorem C5f (x:Except (Int × Int × Int) (List Tok)):A1r [] x=x:=by cases x<;>simp [A1r]
theorem A3z {k:Nat} {p:Int × Int} {l:List UInt8} (h:l.drop (C7 l)=[]):A3d (k+1) p l=.ok []:=by rw [A3d,if_pos h]
theorem A3y {k:Nat} {p:Int × Int} {l:List UInt8} {e:Int} (h:l.drop (C7 l)≠[]) (he:P1 (l.drop (C7 l))=.error e):A3d (k+1) p l=.error (e,G8 p (l.take (C7 l))):=by rw [A3d,if_neg h,he]
theorem A6w {k:Nat} {p:Int × Int} {l t:List UInt8} {kd:Int} {z:Nat} (h:l.drop (C7 l)≠[]) (he:P1 (l.drop (C7 l))=.ok (kd,t,z)) :
  A3d (k+1) p l=A1r [(kd,t,G8 p (l.take (C7 l)))] (A3d k ((G8 p (l.take (C7 l))).1,(G8 p (l.take (C7 l))).2+z) ((l.drop (C7 l)).drop z)):=by
 rw [A3d,if_neg h,he]
 simp only
 cases A3d k ((G8 p (l.take (C7 l))).1,(G8 p (l.take (C7 l))).2+z) ((l.drop (C7 l)).drop z)<;>rfl
theorem B3i:∀ (k j:Nat) (p:Int × Int) (l:List UInt8),l.length < k→l.length < j→A3d k p l=A3d j p l
 | 0,_,p,l=>fun h=>by omega
 | _,0,p,l=>fun _ h=>by omega
 | k+1,j+1,p,l=>fun h h'=>by
  by_cases hl:l.drop (C7 l)=[]
  ·rw [A3z hl,A3z hl]
  ·rcases he:P1 (l.drop (C7 l)) with e|⟨kd,t,z⟩
   ·rw [A3y hl he,A3y hl he]
   ·have hb:=A3r he hl
    rw [List.length_drop] at hb
    rw [A6w hl he,A6w hl he,B3i k j _ _ (by simp only [List.length_drop];omega) (by simp only [List.length_drop];omega)]
def B4d (l:List UInt8):Except (Int × Int × Int) (List Tok):=if 65536 < l.length then .error (3,1,1) else A3d (l.length+1) (1,1) l
def A26 (t:Tok):List AV:=[.int .i64 t.1,.str t.2.1,.int .i64 t.2.2.1,.int .i64 t.2.2.2]
def W4 (l:List Tok):List (List AV):=l.map A26
theorem A8j (l:List Tok):(W4 l).length=l.length:=List.length_map ..
theorem C4e (l:List Tok):fgE (W4 l)=W4 l:=Z7 (A:=A26) (fun _=>rfl) l
theorem C3a (o:List Tok) (m:Tok):W4 o++[A26 m]=W4 (o++[m]):=by simp [W4]
def C9c:Except (Int × Int × Int) (List Tok)→AV
 | .ok m=>.tuple [.slice 0 (W4 m),.agg [.int .i64 0,.int .i64 0,.int .i64 0]]
 | .error (e,a,b)=>.tuple [.slice 0 [],.agg [.int .i64 e,.int .i64 a,.int .i64 b]]
structure D2b (s s':Sto) (S:List UInt8) (T:TypeId) (o:List Tok) (t:Nat) (q:List UInt8) (p:Int × Int):Prop where
 le:q.length≤S.length∧o.length+q.length≤S.length
 pl:(0≤p.1∧p.1≤1+(S.length - q.length:Nat))∧0≤p.2∧p.2≤1+2 * ((S.length - q.length:Nat):Int)
 own:Own s s' o.isEmpty t T 4
 is:A3d (S.length+1) (1,1) S=A1r o (A3d (S.length+1) p q)
theorem B9m (hQ:Qu.A7o Γ) (hT:Wds Γ) (hE:AsO.A2e Γ) (S:List UInt8) (hl:S.length≤1048576):A8 Tryz.prog Γ 125 [.str S] fun v=>v=C9c (B4d S):=by
 refine A8.fgt fun s=>?_
 by_cases hbig:65536 < S.length
 ·rw [B4d,if_pos hbig]
  refine acs Tryz.func125 ?_
  conv=>whnf
  intro b3 hb3
  refine wp ?_
  exact ⟨_,Sub.refl _,rfl,((Sub.refl _).set hb3 _ _).set hb3 _ _⟩
 ·rw [B4d,if_neg hbig]
  refine acs Tryz.func125 ?_
  conv=>whnf
  intro b3 hb3
  refine wp ?_
  refine AWp.loopA [0,4,5,6] [15,16,7,18,19,20,21,22,23,17,24,25,26,27,28,29,30,31,32,2,34,35,33,36,37,38,8,9,10,39,40,41,42,43,44,45,46,47,48,49,50,51,52,53,54,56,57,58,59,60,61,55,62,63,64,65,66] (fun x:List Tok × Nat × List UInt8 × (Int × Int)=>[.str x.2.2.1,.slice x.2.1 (W4 x.1),.int .i64 x.2.2.2.1,.int .i64 x.2.2.2.2]) (fun x s'=>D2b s s' S 241 x.1 x.2.1 x.2.2.1 x.2.2.2∧s'.bx b3=some (66,[.int .i64 0,.int .i64 0,.int .i64 0])) (fun x=>x.2.2.1.length) (([],1,S,(1,1))) (by kernel_rfl) (eqa) ?_ ?_
  ·exact ⟨⟨⟨Nat.le_refl _,by simp⟩,⟨by simp,by simp⟩,Own.start ((Sub.refl _).set hb3 _ _) _ _,(C5f _).symm⟩,A3⟩
  ·rintro x ⟨o,t,q,p⟩ s1 ⟨⟨i1,i2,i3,i4⟩,i5⟩
   simp only at i1 i2 i3 i4 i5
   show awp _ _ _ _ _ (updL _ _ [.str q,.slice t (W4 o),.int .i64 p.1,.int .i64 p.2]) _
   conv=>whnf
   have hbl:=B5m (Γ:=Γ) q (by omega)
   have hbn:=C1k q
   have hA:List.drop 0 (List.take ((C7 q:Int)).toNat q)=q.take (C7 q):=by rw [Int.toNat_natCast,List.drop_zero]
   have hB:List.drop ((C7 q:Int)).toNat (List.take q.length q)=q.drop (C7 q):=by rw [Int.toNat_natCast,Z6]
   have hmv:=C0r (Γ:=Γ) p.1 p.2 (q.take (C7 q)) (by rw [List.length_take];omega) (by omega) (by omega)
   have hpb:=B5k (q.take (C7 q)) p.1 p.2 (by omega) (by omega)
   have hdl:(q.drop (C7 q)).length=q.length - C7 q:=List.length_drop
   rw [List.length_take,Nat.min_eq_left hbn] at hpb
   repeat' ((first|exact pru|(refine brS (fun h=>?_) (fun h=>?_)<;>(try rw [h])<;>(try simp only [bS,↓reduceIte] at h))|(refine A2.pure' ?_ (hbl);rintro _ rfl)|refine A7.pure ?_ (hbl)|(rw [hA])|(rw [hB])|(refine A2.pure' ?_ (hmv);rintro _ rfl)|refine A7.pure ?_ (hmv)|refine gS ?_|refine aA ?_|refine nA ?_|fail)<;>(conv=>whnf))
   ·refine wp ?_
    refine ⟨_,Sub.refl _,?_,i3.sub.set hb3 _ _⟩
    rw [i4,A3z h]
    simp only [A1v,fg,fgL,C4e,C9c,A1r,List.append_nil]
   ·have hpos:0 < (q.drop (C7 q)).length:=List.length_pos_iff.2 h
    have hfi:=C4i hQ hT (q.drop (C7 q)) hpos (by omega)
    rcases hf:P1 (q.drop (C7 q)) with e|⟨kd,t',z⟩
    ·simp only [N6,hf,Z4,A66] at hfi
     refine wp ?_
     intro b8 hb8
     have n_b3_b8:b3≠b8:=A1 bxa hb8
     have n_b8_b3:=n_b3_b8.symm
     refine wp ?_
     intro b10 hb10
     have n_b8_b10:b8≠b10:=A1 bxa hb10
     have n_b10_b8:b10≠b8:=fun h=>n_b8_b10 h.symm
     have n_b3_b10:b3≠b10:=A1 bxa hb10
     have n_b10_b3:b10≠b3:=fun h=>n_b3_b10 h.symm
     refine wp ?_;(refine A2.by (AsO.A94 hE e A3) ?_;rintro _ _ ⟨rfl,rfl⟩);refine wp ?_
     have k8:=fun T1 c1 T2 c2=>(i3.sub.set (i3.sub.none hb8) T1 c1).set (i3.sub.none hb8) T2 c2
     have g10:=(k8 _ _ _ _).none hb10
     refine ⟨_,Sub.refl _,?_,((((k8 _ _ _ _).set g10 _ _).set g10 _ _).set hb3 _ _)⟩
     rw [i4,A3y h hf]
     simp only [A1v,fg,fgL,fgE,C9c,A1r]
    ·simp only [N6,hf,Z4] at hfi
     have hfb:=A3r hf h
     refine wp ?_
     intro b8 hb8
     have n_b3_b8:b3≠b8:=A1 bxa hb8
     have n_b8_b3:=n_b3_b8.symm
     refine wp ?_
     intro b10 hb10
     have n_b8_b10:b8≠b10:=A1 bxa hb10
     have n_b10_b8:b10≠b8:=fun h=>n_b8_b10 h.symm
     have n_b3_b10:b3≠b10:=A1 bxa hb10
     have n_b10_b3:b10≠b3:=fun h=>n_b3_b10 h.symm
     refine wp ?_;(first|(refine A2.pure' ?_ (AsO.W0 _);rintro _ rfl)|refine A7.pure ?_ (AsO.W0 _));refine wp ?_
     have g8:=i3.sub.none hb8
     have k8:=fun T1 c1 T2 c2=>(i3.sub.set g8 T1 c1).set g8 T2 c2
     have g10:=(k8 _ _ _ _).none hb10
     have kk:=fun T1 c1 T2 c2 T3 c3 T4 c4 T5 c5=>((((i3.set (T:=T1) (cs:=c1) g8).set (T:=T2) (cs:=c2) g8).set (T:=T3) (cs:=c3) g10).set (T:=T4) (cs:=c4) g8).set (T:=T5) (cs:=c5) g8
     have hol:=A8j o
     refine ⟨(kk _ _ _ _ _ _ _ _ _ _).may,fun c hc=>?_,all_cons ⟨rfl,rfl⟩ C3,?_,?_⟩
     ·obtain ⟨w,_,rfl⟩:=List.mem_map.1 hc;rfl
     ·show ((W4 o).length+1) * (40+1)≤_
      rw [hol];omega
     intro t2 k1 k2
     have k3:=(kk _ _ _ _ _ _ _ _ _ _).grow k1 k2
     have hq2:=B7i hfb.2.2 (G8 (p.1,p.2) (q.take (C7 q)))
     have htl:((q.drop (C7 q)).take z).length=z:=by rw [List.length_take];omega
     rw [htl] at hq2
     have hmv2:=C0r (Γ:=Γ) (G8 (p.1,p.2) (q.take (C7 q))).1 (G8 (p.1,p.2) (q.take (C7 q))).2 ((q.drop (C7 q)).take z) (by omega) (by omega) (by omega)
     rw [hq2] at hmv2
     have hC:List.drop 0 (List.take ((z:Int)).toNat (q.drop (C7 q)))=(q.drop (C7 q)).take z:=by rw [Int.toNat_natCast,List.drop_zero]
     have hD:List.drop ((z:Int)).toNat (List.take (q.drop (C7 q)).length (q.drop (C7 q)))=(q.drop (C7 q)).drop z:=by rw [Int.toNat_natCast,Z6]
     refine wp ?_;(rw [hC]);refine wp ?_;(rw [hD]);refine wp ?_
     have hrl:((q.drop (C7 q)).drop z).length=q.length - C7 q - z:=by rw [List.length_drop,List.length_drop]
     rw [List.length_drop] at hfb
     refine ⟨(o++[(kd,t',G8 (p.1,p.2) (q.take (C7 q)))],t2,(q.drop (C7 q)).drop z,((G8 (p.1,p.2) (q.take (C7 q))).1,(G8 (p.1,p.2) (q.take (C7 q))).2+z)),?_,B8,⟨⟨⟨by simp only;omega,by simp only [List.length_append,List.length_cons,List.length_nil];omega⟩,⟨by simp only;omega,by simp only;omega⟩,?_,?_⟩,bxa⟩,by simp only;omega⟩
     ·exact G6 rfl (G6 (congrArg (AV.slice t2) (C3a o (kd,t',G8 (p.1,p.2) (q.take (C7 q))))) (G6 rfl (G6 rfl rfl)))
     ·rw [show (o++[(kd,t',G8 (p.1,p.2) (q.take (C7 q)))]).isEmpty=(o.isEmpty && [A26 (kd,t',G8 (p.1,p.2) (q.take (C7 q)))].isEmpty) by cases o<;>rfl]
      exact k3
     ·rw [i4,A6w h hf,C5g,B3i S.length (S.length+1) _ _ (by omega) (by omega)]
theorem A2x:(!Tryz.prog.eqGuardType Tryz.prog.depth 66)=true:=by kernel_rfl
theorem A04:A05 Tryz.prog 9999 66=some [(0,0),(1,0),(2,0)]:=by kernel_rfl
theorem B66:∀ (k:Nat) (p:Int × Int) (l:List UInt8) (m:List Tok),A3d k p l=.ok m→m.length≤l.length
 | 0,p,l,m=>fun h=>by cases h;exact Nat.zero_le _
 | k+1,p,l,m=>fun h=>by
  by_cases hl:l.drop (C7 l)=[]
  ·rw [A3z hl] at h;cases h;exact Nat.zero_le _
  ·rcases he:P1 (l.drop (C7 l)) with e'|⟨kd,t,z⟩
   ·rw [A3y hl he] at h;cases h
   ·rw [A6w hl he] at h
    have hb:=A3r he hl
    rw [List.length_drop] at hb
    rcases hr:A3d k ((G8 p (l.take (C7 l))).1,(G8 p (l.take (C7 l))).2+z) ((l.drop (C7 l)).drop z) with ⟨e',a',b'⟩|m'
    ·rw [hr] at h;cases h
    ·rw [hr] at h
     have:=B66 k _ _ _ hr
     rw [List.length_drop,List.length_drop] at this
     cases h
     simp only [List.length_append,List.length_cons,List.length_nil]
     omega
end Go.Proofs.YtaammejliikieaaGreatDoor.Lx
namespace Go.Proofs.YtaammejliikieaaGreatDoor.Nu
open Go Go.Ab Go.RowKit
def D2k:List UInt8:=[48,49,50,51,52,53,54,55,56,57]
def C8w (l:List UInt8):Bool :=
 let d:=Lib.trimPrefix l [45]
 !decide (d=[]) && !(decide ((B0 d 0).toNat=48) && decide (1 < l.length)) && decide (Lib.trimS d D2k=[])
variable {Γ:Nat→AV}
attribute [local irreducible] A8 Sto.set Sto.grow
end Go.Proofs.YtaammejliikieaaGreatDoor.Nu
namespace Go.Proofs.YtaammejliikieaaGreatDoor.Nu
open Go Go.Ab Go.RowKit
variable {Γ:Nat→AV}
def A7n (Γ:Nat→AV):Prop:=∃ txt,Γ 5=.cptr [.iface 407 (.cptr [.str txt])]
def A65 (l:List UInt8):Int:=if C8w l=true then (match Lib.parseIntB 64 l with|.ok _=>0|.range=>5|_=>4) else 4
def D2m (l:List UInt8):Int:=if C8w l=true then (match Lib.parseIntB 64 l with|.ok v=>v|_=>0) else 0
end Go.Proofs.YtaammejliikieaaGreatDoor.Nu
namespace Go.Proofs.YtaammejliikieaaGreatDoor.Nu
open Go Go.Ab Go.RowKit
def isD (c:UInt8):Bool:=decide (48≤c.toNat) && decide (c.toNat≤57)
end Go.Proofs.YtaammejliikieaaGreatDoor.Nu
namespace Go.Proofs.YtaammejliikieaaGreatDoor.Pa
open Go Go.Ab Go.RowKit
structure Ex where
 op:Int
 a:Int
 b:Int
 name:List UInt8
 vk:Int
 vi:Int
 vs:List UInt8
 vb:Bool
 ln:Int
 cl:Int
def exA (x:Ex):List AV:=[.int .i64 x.op,.int .i64 x.a,.int .i64 x.b,.str x.name,.int .i64 x.vk,.int .i64 x.vi,.str x.vs,.bool x.vb,.int .i64 x.ln,.int .i64 x.cl]
def D2l (l:List Ex):List (List AV):=l.map exA
end Go.Proofs.YtaammejliikieaaGreatDoor.Pa
namespace Go.Proofs.YtaammejliikieaaGreatDoor.Pa
open Go Go.Ab Go.RowKit Go.Proofs.YtaammejliikieaaGreatDoor.Lx
variable {Γ:Nat→AV}
attribute [local irreducible] A8 Sto.set Sto.grow
def A85:Tok:=(0,[],0,0)
def E5 (L:List Tok) (a:Nat):Tok:=if a < L.length then L.getD a A85 else if L.length=0 then (0,[],1,1) else (0,[],(L.getD (L.length - 1) A85).2.2.1,(L.getD (L.length - 1) A85).2.2.2)
theorem B71 {l:List Tok} {i:Nat} (h:i < l.length):(W4 l).getD i []=A26 (l.getD i A85):=by simp [W4,List.getD,h]
structure Pst (s0 s:Sto) (bp bl:Nat) (L:List Tok) (a:Nat) (o:List Ex) (d:List Int) (k:Int):Prop where
 np:s0.bx bp=none
 nl:s0.bx bl=none
 ne:bp≠bl
 pr:∃ t1 t2,s.bx bp=some (237,[.ptr (some ⟨bl,0,none⟩),.slice t1 (D2l o),.slice t2 (G9 .i64 d),.int .i64 k])∧Own s0 s o.isEmpty t1 229 10∧Own s0 s d.isEmpty t2 3 1∧(t1=t2→t1=1)
 pl:s.bx bl=some (235,[.slice 0 (W4 L),.int .i64 a])
theorem Pst.sub {s0 s:Sto} {bp bl:Nat} {L:List Tok} {a:Nat} {o:List Ex} {d:List Int} {k:Int} (h:Pst s0 s bp bl L a o d k):Sub s0 s:=by
 obtain ⟨_,_,_,h1,_⟩:=h.pr
 exact h1.sub
theorem B5j {s:Sto} {bl:Nat} {L:List Tok} {a:Nat} (hb:s.bx bl=some (235,[.slice 0 (W4 L),.int .i64 a])) (hL:L.length≤1000000) (ha:a≤1000000) :
  A2 Tryz.prog Γ 201 [.ptr (some ⟨bl,0,none⟩)] s fun v s'=>v=.agg (A26 (E5 L a))∧s'=s:=by
 have htl:=A8j L
 by_cases h1:a < L.length
 ·have hg:=B71 h1
  rw [E5,if_pos h1]
  generalize L.getD a A85=z at *
  rw [A26] at hg
  refine acs Tryz.func201 ?_
  conv=>whnf
  intro b2 hb2
  have n_bl_b2:bl≠b2:=A1 bxa hb2
  have n_b2_bl:=n_bl_b2.symm
  conv=>whnf
  repeat' ((first|exact pru|(refine brS (fun h=>?_) (fun h=>?_)<;>(try rw [h])<;>(try simp only [bS,↓reduceIte] at h))|refine A5 ?_|(rw [show (W4 L).getD ((a:Int)).toNat []=_ from hg])|refine gS ?_|refine aA ?_|refine nA ?_|fail)<;>(conv=>whnf))
  ·exfalso;revert h;rw [htl];simp;rintro rfl;simp at *
  ·exact ⟨s,((Sub.refl _).set hb2 _ _).set hb2 _ _,rfl,rfl⟩
 ·by_cases h0:L.length=0
  ·rw [E5,if_neg h1,if_pos h0]
   refine acs Tryz.func201 ?_
   conv=>whnf
   intro b2 hb2
   have n_bl_b2:bl≠b2:=A1 bxa hb2
   have n_b2_bl:=n_bl_b2.symm
   conv=>whnf
   repeat' ((first|exact pru|(refine brS (fun h=>?_) (fun h=>?_)<;>(try rw [h])<;>(try simp only [bS,↓reduceIte] at h))|refine A5 ?_|refine gS ?_|refine aA ?_|refine nA ?_|fail)<;>(conv=>whnf))
   ·exact ⟨s,((Sub.refl _).set hb2 _ _).set hb2 _ _,rfl,rfl⟩
   ·rename_i hc;exfalso;revert hc;simp [htl,h0]
  ·have hg:=B71 (l:=L) (i:=L.length - 1) (by omega)
   rw [E5,if_neg h1,if_neg h0]
   generalize L.getD (L.length - 1) A85=z at *
   rw [A26] at hg
   have hw:IntKind.i64.wrap (((W4 L).length:Int) - 1)=((L.length - 1:Nat):Int):=D5 (by omega) (by omega) (by omega)
   refine acs Tryz.func201 ?_
   conv=>whnf
   intro b2 hb2
   have n_bl_b2:bl≠b2:=A1 bxa hb2
   have n_b2_bl:=n_bl_b2.symm
   conv=>whnf
   repeat' ((first|exact pru|(refine brS (fun h=>?_) (fun h=>?_)<;>(try rw [h])<;>(try simp only [bS,↓reduceIte] at h))|refine A5 ?_|(rw [hw])|(rw [show (W4 L).getD ((L.length - 1:Nat):Int).toNat []=_ from hg])|refine gS ?_|refine aA ?_|refine nA ?_|fail)<;>(conv=>whnf))
   ·exfalso;revert h;rw [htl];simp;rintro rfl;simp at *
   ·intro b3 hb3
    have n_b2_b3:b2≠b3:=A1 bxa hb3
    have n_b3_b2:b3≠b2:=fun h=>n_b2_b3 h.symm
    have n_bl_b3:bl≠b3:=A1 bxa hb3
    have g3:s.bx b3=none:=((Sub.refl s).set hb2 _ _).none hb3
    refine wp ?_
    exact ⟨s,((((Sub.refl _).set hb2 _ _).set g3 _ _).set g3 _ _).set hb2 _ _,rfl,rfl⟩
def C7d (t:Tok) (e:Int):AV:=.iface 238 (.cptr (A26 t++[.iface 64 (.int .i64 e)]))
theorem B4q {s0 s:Sto} {bp bl:Nat} {L:List Tok} {a:Nat} {o:List Ex} {d:List Int} {k:Int} (hP:Pst s0 s bp bl L a o d k) (hL:L.length≤1000000) (ha:a≤1000000) (e:Int) :
  A2 Tryz.prog Γ 200 [.ptr (some ⟨bp,0,none⟩),.int .i64 e] s fun v s'=>v=C7d (E5 L a) e∧s'=s:=by
 obtain ⟨t1,t2,hb,_⟩:=hP.pr
 have hpk:=B5j (Γ:=Γ) hP.pl hL ha
 generalize E5 L a=q at *
 obtain ⟨p1,p2,p3,p4⟩:=q
 have h1:A2 Tryz.prog Γ 200 [.ptr (some ⟨bp,0,none⟩),.int .i64 e] s fun v s'=>∃ b,v=.iface 238 (.ptr (some ⟨b,0,none⟩))∧s.bx b=none∧s'.bx b=some (243,A26 (p1,p2,p3,p4)++[.iface 64 (.int .i64 e)])∧Sub s s':=by
  refine acs Tryz.func200 ?_
  refine wp ?_;(refine A2.by hpk ?_;rintro _ _ ⟨rfl,rfl⟩);refine wp ?_
  intro b13 hb13
  refine wp ?_
  exact ⟨_,Sub.refl _,b13,rfl,hb13,A3,(Sub.refl _).set hb13 _ _⟩
 refine h1.frz ?_
 rintro v s' ⟨b,rfl,h2,h3,h4⟩
 refine ⟨fz1 b 0 (A26 (p1,p2,p3,p4)++[.iface 64 (.int .i64 e)]),s,A76 h2 h3,h4,?_,rfl⟩
 simp only [fz,fzP,A75,List.drop_zero,fg,C7d,A26,List.cons_append,List.nil_append,fgL]
theorem C4t {s0 s:Sto} {bp bl:Nat} {L:List Tok} {a:Nat} {o:List Ex} {d:List Int} {k:Int} (hP:Pst s0 s bp bl L a o d k) (hL:L.length≤1000000) (ha:a≤1000000) (w:List UInt8) :
  A2 Tryz.prog Γ 208 [.ptr (some ⟨bp,0,none⟩),.str w] s fun v s'=>v=.bool ((decide ((E5 L a).1=2) || decide ((E5 L a).1=5)) && decide ((E5 L a).2.1=w))∧s'=s:=by
 obtain ⟨t1,t2,hb,_⟩:=hP.pr
 have hpk:=B5j (Γ:=Γ) hP.pl hL ha
 generalize E5 L a=q at *
 obtain ⟨p1,p2,p3,p4⟩:=q
 simp only [A26] at hpk
 refine acs Tryz.func208 ?_
 refine wp ?_;(refine A2.by hpk ?_;rintro _ _ ⟨rfl,rfl⟩);refine wp ?_
 intro b5 hb5
 conv=>whnf
 repeat' ((first|exact pru|(refine brS (fun h=>?_) (fun h=>?_)<;>(try rw [h])<;>(try simp only [bS,↓reduceIte] at h))|refine A5 ?_|refine gS ?_|refine aA ?_|refine nA ?_|fail)<;>(conv=>whnf))
 all_goals (refine ⟨_,((Sub.refl _).set hb5 _ _).set hb5 _ _,?_,rfl⟩;refine congrArg AV.bool ?_;simp_all)
theorem Pst.next {s0 s:Sto} {bp bl:Nat} {L:List Tok} {a:Nat} {o:List Ex} {d:List Int} {k:Int} (hP:Pst s0 s bp bl L a o d k) (a':Nat):Pst s0 (s.set bl 235 [.slice 0 (W4 L),.int .i64 a']) bp bl L a' o d k:=by
 obtain ⟨np,nl,ne,⟨t1,t2,h1,h2,h3,h4⟩,pl⟩:=hP
 exact ⟨np,nl,ne,⟨t1,t2,(A4 ne).trans h1,h2.set nl,h3.set nl,h4⟩,A3⟩
theorem B5u {s0 s:Sto} {bp bl:Nat} {L:List Tok} {a:Nat} {o:List Ex} {d:List Int} {k:Int} (hP:Pst s0 s bp bl L a o d k) (hL:L.length≤1000000) (ha:a≤100000) (w:List UInt8) :
  A2 Tryz.prog Γ 179 [.ptr (some ⟨bp,0,none⟩),.str w] s fun v s'=>v=.bool ((decide ((E5 L a).1=2) || decide ((E5 L a).1=5)) && decide ((E5 L a).2.1=w)) ∧
   Pst s0 s' bp bl L (if ((decide ((E5 L a).1=2) || decide ((E5 L a).1=5)) && decide ((E5 L a).2.1=w))=true then a+1 else a) o d k:=by
 obtain ⟨t1,t2,hb,_⟩:=hP.pr
 have hi:=C4t (Γ:=Γ) hP hL (by omega) w
 have hN:=hP.next (a+1)
 generalize ((decide ((E5 L a).1=2) || decide ((E5 L a).1=5)) && decide ((E5 L a).2.1=w))=z at *
 have hw:IntKind.i64.wrap ((a:Int)+1)=((a+1:Nat):Int):=D5 (by omega) (by omega) (by omega)
 refine acs Tryz.func179 ?_
 conv=>whnf
 cases z
 ·refine wp ?_;(refine A2.by hi ?_;rintro _ _ ⟨rfl,rfl⟩);refine wp ?_
  exact ⟨_,Sub.refl _,rfl,hP⟩
 ·repeat' ((first|exact pru|(refine brS (fun h=>?_) (fun h=>?_)<;>(try rw [h])<;>(try simp only [bS,↓reduceIte] at h))|(refine A2.by hi ?_;rintro _ _ ⟨rfl,rfl⟩)|(refine B5 hb ?_)|(refine B5 hP.pl ?_)|(rw [hw])|refine gS ?_|refine aA ?_|refine nA ?_|fail)<;>(conv=>whnf))
  exact ⟨_,Sub.refl _,rfl,hN⟩
end Go.Proofs.YtaammejliikieaaGreatDoor.Pa
namespace Go.Proofs.YtaammejliikieaaGreatDoor.Pa
open Go Go.Ab Go.RowKit Go.Proofs.YtaammejliikieaaGreatDoor.Lx
abbrev Res (α:Type):=Except (Int × Int × Int) α
def A45 {α:Type} (L:List Tok) (a:Nat) (e:Int):Res α:=.error (e,(E5 L a).2.2.1,(E5 L a).2.2.2)
def C5w (t:Tok):Bool:=decide (t.1=2) || decide (t.1=5)
def isF (L:List Tok) (a:Nat) (s:List UInt8):Bool:=C5w (E5 L a) && decide ((E5 L a).2.1=s)
def D1w (L:List Tok) (a:Nat):Bool:=decide ((if isF L a [45]=true then a+1 else a) < L.length) && decide ((L.getD (if isF L a [45]=true then a+1 else a) A85).1=3)
def C6p (L:List Tok) (a:Nat):Res ((Int × Int × List UInt8 × Bool) × Nat) :=
  if D1w L a=true then
    (let q:=if isF L a [45]=true then a+1 else a
     let g:=(E5 L q).2.1
     let t:=(if isF L a [45]=true∧g≠[48] then [45] else [])++g
     if Nu.A65 t≠0 then A45 L q (Nu.A65 t) else .ok ((1,Nu.D2m t,[],false),q+1))
  else if (E5 L a).1=4 then .ok ((2,0,(E5 L a).2.1,false),a+1)
  else if isF L a [116,114,117,101]=true then .ok ((3,0,[],true),a+1)
  else if isF L a [102,97,108,115,101]=true then .ok ((3,0,[],false),a+1)
  else A45 L a 16
end Go.Proofs.YtaammejliikieaaGreatDoor.Pa
namespace Go.Proofs.YtaammejliikieaaGreatDoor.Ck
open Go Go.Ab Go.RowKit Go.Proofs.YtaammejliikieaaGreatDoor.Pa
abbrev Dc:=List UInt8 × List Int
abbrev Qt:=Bool × List UInt8 × Int
abbrev Fe:=List UInt8 × Tr.Vl
abbrev Sa:=List UInt8 × Bool × Bool
abbrev Ag:=Int × Int × Tr.Vl
abbrev Sm:=Int × List Ag
abbrev Nd:=Int × Int × Int × Tr.Vl
abbrev Sx:=Int × Int
abbrev Tx:=Int × Int × Int × Int × List Sx
structure Qe where
 name:List UInt8
 decls:List Dc
 quants:List Qt
 frees:List Fe
 states:List Sa
 start:Int
 syms:List Sm
 nodes:List Nd
 trans:List Tx
def Qe.none:Qe:=⟨[],[],[],[],[],0,[],[],[]⟩
def Y7:Dc:=([],[])
def A4y:Qt:=(false,[],0)
def A5r:Fe:=([],Tr.H9)
def C2d:Sa:=([],false,false)
def A0m:Ag:=(0,0,Tr.H9)
def P4:Sm:=(0,[])
def C96:Nd:=(0,0,0,Tr.H9)
def noTx:Tx:=(0,0,0,0,[])
instance decAg1:DecidableEq (Int × Tr.Vl):=instDecidableEqProd
instance decAg:DecidableEq Ag:=instDecidableEqProd
instance decSm:DecidableEq Sm:=instDecidableEqProd
instance decNd1:DecidableEq (Int × Int × Tr.Vl):=instDecidableEqProd
def dcA (x:Nat × Dc):List AV:=[.str x.2.1,.slice x.1 (G9 .i64 x.2.2)]
def qtA (x:Qt):List AV:=[.bool x.1,.str x.2.1,.int .i64 x.2.2]
def feA (x:Fe):List AV:=[.str x.1,.int .i64 x.2.1,.int .i64 x.2.2.1,.str x.2.2.2.1,.bool x.2.2.2.2]
def saA (x:Sa):List AV:=[.str x.1,.bool x.2.1,.bool x.2.2]
def agA (x:Ag):List AV:=[.int .i64 x.1,.int .i64 x.2.1,.int .i64 x.2.2.1,.int .i64 x.2.2.2.1,.str x.2.2.2.2.1,.bool x.2.2.2.2.2]
def smA (x:Nat × Sm):List AV:=[.int .i64 x.2.1,.slice x.1 (x.2.2.map agA)]
def ndA (x:Nd):List AV:=[.int .i64 x.1,.int .i64 x.2.1,.int .i64 x.2.2.1,.int .i64 x.2.2.2.1,.int .i64 x.2.2.2.2.1,.str x.2.2.2.2.2.1,.bool x.2.2.2.2.2.2]
def sxA (x:Sx):List AV:=[.int .i64 x.1,.int .i64 x.2]
def txA (x:Nat × Tx):List AV:=[.int .i64 x.2.1,.int .i64 x.2.2.1,.int .i64 x.2.2.2.1,.int .i64 x.2.2.2.2.1,.slice x.1 (x.2.2.2.2.2.map sxA)]
def dcs (l:List Dc):List (List AV):=l.map fun x=>dcA (0,x)
def sms (l:List Sm):List (List AV):=l.map fun x=>smA (0,x)
def txs (l:List Tx):List (List AV):=l.map fun x=>txA (0,x)
def qeA (tk:Nat→Nat) (q:Qe):List AV:=[.str q.name,.slice (tk 0) (dcs q.decls),.slice (tk 1) (q.quants.map qtA),.slice (tk 2) (q.frees.map feA),.slice (tk 3) (q.states.map saA),.int .i64 q.start,
 .slice (tk 4) (sms q.syms),.slice (tk 5) (q.nodes.map ndA),.slice (tk 6) (txs q.trans)]
def idx {α:Type} [DecidableEq α] (n:α):List α→Option Nat
 | []=>none
 | x::l=>if x=n then some 0 else (idx n l).map (·+1)
def V3 (q:Qe) (n:List UInt8):Option (Int × Nat) :=
 match idx n (q.quants.map (·.2.1)) with
 | some i=>some (2,i)
 | none=>match idx n (q.frees.map (·.1)) with
  | some i=>some (3,i)
  | none=>none
def A15 (q:Qe) (v:Int × Nat):Int:=if v.1=2 then (q.quants.getD v.2 A4y).2.2 else (q.frees.getD v.2 A5r).2.1
def H1 (q:Qe) (d:Tr.De):Res Qe :=
 if 32≤q.decls.length∨8 < d.2.length then .error (14,d.1.2) else if (idx d.1.1 (q.decls.map (·.1))).isSome then .error (10,d.1.2) else .ok { q with decls:=q.decls++[(d.1.1,d.2)] }
def E8 (q:Qe) (x:Tr.Qu):Res Qe :=
 if 8≤q.quants.length then .error (14,x.2.1.2) else if (V3 q x.2.1.1).isSome then .error (10,x.2.1.2) else .ok { q with quants:=q.quants++[(x.1,x.2.1.1,x.2.2)] }
def H4 (q:Qe) (x:Tr.Fr):Res Qe :=
 if 16≤q.frees.length then .error (14,x.1.2) else if (V3 q x.1.1).isSome then .error (10,x.1.2) else .ok { q with frees:=q.frees++[(x.1.1,x.2)] }
def D6 (q:Qe) (x:Tr.St):Res Qe :=
 if 32≤q.states.length then .error (14,x.1.2) else if (idx x.1.1 (q.states.map (·.1))).isSome then .error (10,x.1.2) else .ok { q with states:=q.states++[(x.1.1,x.2.1,x.2.2)] }
def B3 {α:Type} (one:Qe→α→Res Qe) (q:Qe):List α→Res Qe
 | []=>.ok q
 | x::l=>match one q x with
  | .error e=>.error e
  | .ok q'=>B3 one q' l
def K9 (q:Qe) (x:Tr.Idn):Res Nat :=
 match idx x.1 (q.states.map (·.1)) with
 | none=>.error (11,x.2)
 | some i=>.ok i
def Y3 (q:Qe) (x:Tr.Idn):Res Qe :=
 match K9 q x with
 | .error e=>.error e
 | .ok i=>.ok { q with start:=i }
def U0 (q:Qe) (a:Tr.Ar) (k:Int):Res Ag :=
 if a.1=3 then .ok (4,0,Tr.H9)
 else if a.1=1 then (if a.2.2.1.1=k then .ok (1,0,a.2.2.1) else .error (8,a.2.2.2))
 else match V3 q a.2.1 with
  | none=>.error (11,a.2.2.2)
  | some v=>if A15 q v=k then .ok (v.1,(v.2:Int),Tr.H9) else .error (8,a.2.2.2)
def R8 (q:Qe):List Tr.Ar→List Int→List Ag→Res (List Ag)
 | a::l,k::ks,acc=>match U0 q a k with
  | .error e=>.error e
  | .ok x=>R8 q l ks (acc++[x])
 | _,_,acc=>.ok acc
def Z3 (q:Qe) (s:Tr.Sy):Res Sm :=
 match idx s.1 (q.decls.map (·.1)) with
 | none=>.error (11,s.2.2)
 | some e=>if (q.decls.getD e Y7).2.length≠s.2.1.length then .error (12,s.2.2) else match R8 q s.2.1 (q.decls.getD e Y7).2 [] with
  | .error x=>.error x
  | .ok l=>.ok ((e:Int),l)
def S2 (q:Qe) (s:Tr.Sy):Res (Qe × Nat) :=
 match Z3 q s with
 | .error e=>.error e
 | .ok x=>match idx x q.syms with
  | some i=>.ok (q,i)
  | none=>if 64≤q.syms.length then .error (14,s.2.2) else .ok ({ q with syms:=q.syms++[x] },q.syms.length)
def H3 (q:Qe) (s:Tr.Sy):Res Qe :=
 match S2 q s with
 | .error e=>.error e
 | .ok r=>.ok r.1
def M2 (s:Sm) (i:Int):Bool:=decide ((2,i,Tr.H9) ∈ s.2)
def D1v (q:Qe) (s:Sm) (base:Nat) (ks:List Int) (x:Tr.Ex):Res (Nd × Int) :=
 if x.1=1 then .ok ((1,0,0,x.2.2.2.2.1),x.2.2.2.2.1.1)
 else if x.1=17 then match V3 q x.2.2.2.1 with
  | none=>.error (11,x.2.2.2.2.2)
  | some v=>if v.1=2∧M2 s v.2=false then .error (9,x.2.2.2.2.2) else .ok ((v.1,(v.2:Int),0,Tr.H9),A15 q v)
 else if Va.typeOf x.1 (ks.getD x.2.1.toNat 0) (if 5 < x.1 then ks.getD x.2.2.1.toNat 0 else ks.getD x.2.1.toNat 0)=0 then .error (8,x.2.2.2.2.2)
 else .ok ((x.1,x.2.1+base,if 5 < x.1 then x.2.2.1+base else 0,Tr.H9),Va.typeOf x.1 (ks.getD x.2.1.toNat 0) (if 5 < x.1 then ks.getD x.2.2.1.toNat 0 else ks.getD x.2.1.toNat 0))
abbrev Nk:=List Nd × List Int
def B5c (q:Qe) (s:Sm) (base:Nat) (l:List Tr.Ex):Nat→Nk→Res Nk
 | 0,st=>.ok st
 | n+1,st=>match D1v q s base st.2 (l.getD st.2.length Tr.A5q) with
  | .error e=>.error e
  | .ok r=>B5c q s base l n (st.1++[r.1],st.2++[r.2])
def B98 (q:Qe) (s:Sm) (base:Nat) (l:List Tr.Ex) (root:Nat) (kind:Int) (st:Nk):Res Nk :=
 match B5c q s base l (root+1 - st.2.length) st with
 | .error e=>.error e
 | .ok st'=>if st'.2.getD root 0=kind then .ok st' else .error (8,(l.getD root Tr.A5q).2.2.2.2.2)
def A7i (q:Qe) (s:Sm) (base:Nat) (l:List Tr.Ex):List Tr.Se→List Sx→Nk→Res (List Sx × Nk)
 | [],out,st=>.ok (out,st)
 | x::xs,out,st=>match V3 q x.1.1 with
  | none=>.error (11,x.1.2)
  | some v=>if v.1≠3 then .error (11,x.1.2) else if (v.2:Int) ∈ out.map (·.1) then .error (10,x.1.2) else match B98 q s base l x.2.toNat (A15 q v) st with
   | .error e=>.error e
   | .ok st'=>A7i q s base l xs (out++[((v.2:Int),x.2+base)]) st'
def A77 (q:Qe) (s:Sm) (base:Nat) (l:List Tr.Ex) (g:Int) (st:Nk):Res Nk:=if 0≤g then B98 q s base l g.toNat 3 st else .ok st
def E6 (q:Qe) (t:Tr.Tn):Res Qe :=
 if 256≤q.trans.length then .error (14,t.1.2) else match K9 q t.1 with
 | .error e=>.error e
 | .ok from_=>match S2 q t.2.2.1 with
  | .error e=>.error e
  | .ok (q,i)=>if 2048 < q.nodes.length+t.2.2.2.1.length then .error (14,t.1.2) else
   match A77 q (q.syms.getD i P4) q.nodes.length t.2.2.2.1 t.2.2.2.2.1 (q.nodes,[]) with
   | .error e=>.error e
   | .ok st=>match A7i q (q.syms.getD i P4) q.nodes.length t.2.2.2.1 t.2.2.2.2.2 [] st with
    | .error e=>.error e
    | .ok (sx,st)=>match K9 q t.2.1 with
     | .error e=>.error e
     | .ok to_=>.ok { q with nodes:=st.1,trans:=q.trans++[((from_:Int),(i:Int),(to_:Int),(if 0≤t.2.2.2.2.1 then t.2.2.2.2.1+q.nodes.length else -1),sx)] }
def U7 (acc:List Int):List Int→List Int
 | []=>acc
 | x::l=>U7 (if x ∈ acc then acc else acc++[x]) l
def E9 (q:Qe):List Int:=U7 [] (q.trans.map (·.2.1))
def D9 (q:Qe):List Int:=((List.range q.syms.length).map Int.ofNat).filter fun i=>decide (i ∉ E9 q)
def P5 (q:Qe):Qe :=
 { q with syms:=(D9 q++E9 q).map fun i=>q.syms.getD i.toNat P4,trans:=q.trans.map fun t=>(t.1,((idx t.2.1 (D9 q++E9 q)).getD 0:Int),t.2.2) }
def K8 (q:Qe):Nat→List Tr.Qu→Res Qe
 | _,[]=>.ok q
 | v,x::l=>if q.syms.any (fun s=>M2 s v)=true then K8 q (v+1) l else .error (9,x.2.1.2)
def C1 (x:Tr.Tr0) (q:Qe) (i:Nat):Res Qe :=
 match i with
 | 0=>B3 H1 q (x.2.1.map Prod.snd)
 | 1=>B3 E8 q x.2.2.1
 | 2=>B3 H4 q x.2.2.2.1
 | 3=>B3 D6 q x.2.2.2.2.1
 | 4=>Y3 q x.2.2.2.2.2.1
 | 5=>B3 H3 q (x.2.2.2.2.2.2.1.map Prod.snd)
 | 6=>B3 E6 q (x.2.2.2.2.2.2.2.map Prod.snd)
 | _=>K8 q 0 x.2.2.1
def D0 (x:Tr.Tr0):Nat→Nat→Qe→Res Qe
 | 0,_,q=>.ok q
 | n+1,i,q=>match C1 x q i with
  | .error e=>.error e
  | .ok q'=>D0 x n (i+1) q'
def F2 (x:Tr.Tr0):Res Qe :=
 match D0 x 8 0 { Qe.none with name:=x.1.1 } with
 | .error e=>.error e
 | .ok q=>.ok (P5 q)
section
variable {α:Type} [DecidableEq α]
theorem U6 {n:α}:∀ {l:List α} {i:Nat},idx n l=some i→i < l.length∧l[i]?=some n
 | [],_,h=>by cases h
 | x::l,i,h=>by
  unfold idx at h
  split at h
  ·rename_i hx
   cases h
   exact ⟨by simp,by simp [hx]⟩
  ·obtain ⟨j,hj,rfl⟩:=Option.map_eq_some_iff.1 h
   obtain ⟨h1,h2⟩:=U6 hj
   exact ⟨by simp;omega,by simpa using h2⟩
theorem W2 {n:α}:∀ {l:List α},idx n l=none↔n ∉ l
 | []=>by simp [idx]
 | x::l=>by
  unfold idx
  split
  ·rename_i hx
   simp [hx]
  ·rename_i hx
   rw [Option.map_eq_none_iff,W2,List.mem_cons,not_or]
   exact ⟨fun h=>⟨fun hh=>hx hh.symm,h⟩,fun h=>h.2⟩
theorem W9 {n:α}:∀ (a b:List α),idx n (a++b)=match idx n a with
  | some i=>some i
  | none=>(idx n b).map (a.length+·)
 | [],b=>by simp [idx]
 | x::a,b=>by
  rw [List.cons_append,idx,idx]
  split
  ·rfl
  ·rw [W9 a b]
   cases idx n a with
   | some i=>rfl
   | none =>
    dsimp only [Option.map]
    cases idx n b with
    | none=>rfl
    | some j=>simp only [Option.map,List.length_cons];congr 1;omega
theorem C9y {n:α} {l:List α} {i:Nat} (hi:l[i]?=some n) (hn:∀ j,j < i→l[j]?≠some n):idx n l=some i:=by
 cases hx:idx n l with
 | none=>exact absurd (List.mem_of_getElem? hi) (W2.1 hx)
 | some k =>
  obtain ⟨h1,h2⟩:=U6 hx
  rcases Nat.lt_trichotomy k i with h|h|h
  ·exact absurd h2 (hn k h)
  ·rw [h]
  ·exfalso
   have hmem:n ∈ l.take k:=by
    rw [List.mem_take_iff_getElem]
    obtain ⟨hlt,he⟩:=List.getElem?_eq_some_iff.1 hi
    exact ⟨i,by omega,he⟩
   have:l=l.take k++l.drop k:=(List.take_append_drop k l).symm
   rw [this,W9] at hx
   cases hy:idx n (l.take k) with
   | none=>exact W2.1 hy hmem
   | some m =>
    rw [hy] at hx
    injection hx with hx
    have:=(U6 hy).1
    rw [List.length_take] at this
    omega
end
def ents (f:Nat→AV):Nat→List (List UInt8)→List (List UInt8 × AV)
 | _,[]=>[]
 | k,x::l=>(x,f k)::ents f (k+1) l
theorem A8w (f:Nat→AV):∀ (k:Nat) (a b:List (List UInt8)),ents f k (a++b)=ents f k a++ents f (k+a.length) b
 | k,[],b=>by simp [ents]
 | k,x::a,b=>by
  rw [List.cons_append,ents,ents,A8w f (k+1) a b,List.cons_append,List.length_cons]
  rw [show k+1+a.length=k+(a.length+1) by omega]
theorem A03 (f:Nat→AV) (n:List UInt8):∀ (k:Nat) (l:List (List UInt8)),P0 n (ents f k l)=(idx n l).map fun i=>f (k+i)
 | _,[]=>rfl
 | k,x::l=>by
  rw [ents,P0,idx]
  by_cases h:n=x
  ·rw [if_pos h,if_pos h.symm];rfl
  ·rw [if_neg h,if_neg (fun hh=>h hh.symm),A03 f n (k+1) l,Option.map_map]
   congr 1
   funext i
   simp only [Function.comp]
   rw [show k+1+i=k+(i+1) by omega]
theorem A6m (n:List UInt8):∀ (a b:List (List UInt8 × AV)),P0 n (a++b)=match P0 n a with
  | some v=>some v
  | none=>P0 n b
 | [],b=>rfl
 | x::a,b=>by
  rw [List.cons_append,P0,P0]
  split
  ·rfl
  ·exact A6m n a b
def fInt (i:Nat):AV:=.int .i64 (i:Int)
def fVar (v:Int × Nat):AV:=.agg (ndA (v.1,(v.2:Int),0,Tr.H9))
def dM (q:Qe):List (List UInt8 × AV):=ents fInt 0 (q.decls.map (·.1))
def sM (q:Qe):List (List UInt8 × AV):=ents fInt 0 (q.states.map (·.1))
def vM (q:Qe):List (List UInt8 × AV):=ents (fun i=>fVar (2,i)) 0 (q.quants.map (·.2.1))++ents (fun i=>fVar (3,i)) 0 (q.frees.map (·.1))
theorem A9n (q:Qe) (n:List UInt8):P0 n (dM q)=(idx n (q.decls.map (·.1))).map fInt:=by
 rw [dM,A03];simp
theorem A9o (q:Qe) (n:List UInt8):P0 n (sM q)=(idx n (q.states.map (·.1))).map fInt:=by
 rw [sM,A03];simp
theorem A2s (q:Qe) (n:List UInt8):P0 n (vM q)=(V3 q n).map fVar:=by
 rw [vM,A6m,A03,A03,V3]
 cases idx n (q.quants.map (·.2.1)) with
 | some i=>simp
 | none =>
  cases idx n (q.frees.map (·.1)) with
  | some i=>simp
  | none=>rfl
theorem A4j (f:Nat→AV) (l:List (List UInt8)) (x:List UInt8):ents f 0 (l++[x])=ents f 0 l++[(x,f l.length)]:=by
 rw [A8w,Nat.zero_add];rfl
theorem C8p {q:Qe} {n:List UInt8} {v:Int × Nat} (h:V3 q n=some v):(v.1=2∧v.2 < q.quants.length∧(q.quants.map (·.2.1))[v.2]?=some n)∨(v.1=3∧v.2 < q.frees.length∧(q.frees.map (·.1))[v.2]?=some n∧idx n (q.quants.map (·.2.1))=none):=by
 unfold V3 at h
 split at h
 ·rename_i i hi
  cases h
  obtain ⟨h1,h2⟩:=U6 hi
  exact .inl ⟨rfl,by simpa using h1,h2⟩
 ·rename_i hq
  split at h
  ·rename_i i hi
   cases h
   obtain ⟨h1,h2⟩:=U6 hi
   exact .inr ⟨rfl,by simpa using h1,h2,hq⟩
  ·cases h
theorem A8z {α:Type} {one:Qe→α→Res Qe} {len:Qe→Nat} {most:Nat} {push:Qe→α→Qe} {p:α→Int × Int} (I:Qe→List α→Prop)
  (h1:∀ q x l,I q (x::l)→one q x=if most≤len q then .error (14,p x) else .ok (push q x)) (h2:∀ q x,len (push q x)=len q+1) (h3:∀ q x l,I q (x::l)→I (push q x) l) :
  ∀ (l:List α) (q:Qe),I q l→len q≤most→(len q+l.length≤most→B3 one q l=.ok (l.foldl push q))∧(most < len q+l.length→∃ p,B3 one q l=.error (14,p))
 | [],q,_,hq=>⟨fun _=>rfl,fun h=>by simp at h;omega⟩
 | x::l,q,hI,hq=>by
  rw [B3,h1 q x l hI]
  by_cases hm:most≤len q
  ·rw [if_pos hm]
   exact ⟨fun h=>by simp at h;omega,fun _=>⟨_,rfl⟩⟩
  ·rw [if_neg hm]
   have:=A8z I h1 h2 h3 l (push q x) (h3 q x l hI) (by rw [h2];omega)
   rw [h2] at this
   rw [List.length_cons]
   exact ⟨fun h=>this.1 (by omega),fun h=>this.2 (by omega)⟩
def B7f (q:Qe) (d:Tr.De):Qe:={ q with decls:=q.decls++[(d.1.1,d.2)] }
def B1a (q:Qe) (x:Tr.Qu):Qe:={ q with quants:=q.quants++[(x.1,x.2.1.1,x.2.2)] }
def B7g (q:Qe) (x:Tr.Fr):Qe:={ q with frees:=q.frees++[(x.1.1,x.2)] }
def B1b (q:Qe) (x:Tr.St):Qe:={ q with states:=q.states++[(x.1.1,x.2.1,x.2.2)] }
theorem B3a:∀ (l:List Tr.De) (q:Qe),l.foldl B7f q = { q with decls:=q.decls++l.map fun d=>(d.1.1,d.2) }
 | [],q=>by simp
 | x::l,q=>by rw [List.foldl_cons,B3a];simp [B7f]
theorem B0s:∀ (l:List Tr.Qu) (q:Qe),l.foldl B1a q = { q with quants:=q.quants++l.map fun x=>(x.1,x.2.1.1,x.2.2) }
 | [],q=>by simp
 | x::l,q=>by rw [List.foldl_cons,B0s];simp [B1a]
theorem B3b:∀ (l:List Tr.Fr) (q:Qe),l.foldl B7g q = { q with frees:=q.frees++l.map fun x=>(x.1.1,x.2) }
 | [],q=>by simp
 | x::l,q=>by rw [List.foldl_cons,B3b];simp [B7g]
theorem B0t:∀ (l:List Tr.St) (q:Qe),l.foldl B1b q = { q with states:=q.states++l.map fun x=>(x.1.1,x.2.1,x.2.2) }
 | [],q=>by simp
 | x::l,q=>by rw [List.foldl_cons,B0t];simp [B1b]
theorem S3 {α:Type} [DecidableEq α] {a:List α} {x:α} {l:List α} (h:(a++x::l).Nodup):idx x a=none:=by
 rw [W2]
 intro hx
 rw [List.nodup_append] at h
 exact h.2.2 x hx x (by simp) rfl
theorem C9j (l:List Tr.De) (q:Qe) (h8:∀ d ∈ l,d.2.length≤8) (hn:(q.decls.map (·.1)++l.map (·.1.1)).Nodup) (hq:q.decls.length≤32) :
  (q.decls.length+l.length≤32→B3 H1 q l=.ok { q with decls:=q.decls++l.map fun d=>(d.1.1,d.2) })∧(32 < q.decls.length+l.length→∃ p,B3 H1 q l=.error (14,p)):=by
 rw [← B3a]
 refine A8z (len:=fun q=>q.decls.length) (push:=B7f) (p:=fun d=>d.1.2) (fun q l=>(∀ d ∈ l,d.2.length≤8)∧(q.decls.map (·.1)++l.map (·.1.1)).Nodup) ?_ ?_ ?_ l q ⟨h8,hn⟩ hq
 ·rintro q x l ⟨g1,g2⟩
  have g3:=g1 x (by simp)
  rw [List.map_cons] at g2
  unfold H1
  rw [S3 g2]
  by_cases hm:32≤q.decls.length
  ·rw [if_pos (.inl hm),if_pos hm]
  ·rw [if_neg (by omega),if_neg hm];rfl
 ·intro q x;simp [B7f]
 ·rintro q x l ⟨g1,g2⟩
  exact ⟨fun d hd=>g1 d (by simp [hd]),by simpa [B7f] using g2⟩
theorem C72 (l:List Tr.Qu) (q:Qe) (hn:(q.quants.map (·.2.1)++l.map (·.2.1.1)).Nodup) (hf:q.frees=[]) (hq:q.quants.length≤8) :
  (q.quants.length+l.length≤8→B3 E8 q l=.ok { q with quants:=q.quants++l.map fun x=>(x.1,x.2.1.1,x.2.2) })∧(8 < q.quants.length+l.length→∃ p,B3 E8 q l=.error (14,p)):=by
 rw [← B0s]
 refine A8z (len:=fun q=>q.quants.length) (push:=B1a) (p:=fun x=>x.2.1.2) (fun q l=>q.frees=[]∧(q.quants.map (·.2.1)++l.map (·.2.1.1)).Nodup) ?_ ?_ ?_ l q ⟨hf,hn⟩ hq
 ·rintro q x l ⟨g1,g2⟩
  rw [List.map_cons] at g2
  have hv:V3 q x.2.1.1=none:=by
   unfold V3
   rw [S3 g2,g1];rfl
  unfold E8
  rw [hv]
  rfl
 ·intro q x;simp [B1a]
 ·rintro q x l ⟨g1,g2⟩
  exact ⟨g1,by simpa [B1a] using g2⟩
theorem C9p (l:List Tr.Fr) (q:Qe) (hn:(q.frees.map (·.1)++l.map (·.1.1)).Nodup) (hd:∀ x ∈ l,idx x.1.1 (q.quants.map (·.2.1))=none) (hq:q.frees.length≤16) :
  (q.frees.length+l.length≤16→B3 H4 q l=.ok { q with frees:=q.frees++l.map fun x=>(x.1.1,x.2) })∧(16 < q.frees.length+l.length→∃ p,B3 H4 q l=.error (14,p)):=by
 rw [← B3b]
 refine A8z (len:=fun q=>q.frees.length) (push:=B7g) (p:=fun x=>x.1.2) (fun q l=>(∀ x ∈ l,idx x.1.1 (q.quants.map (·.2.1))=none)∧(q.frees.map (·.1)++l.map (·.1.1)).Nodup) ?_ ?_ ?_ l q ⟨hd,hn⟩ hq
 ·rintro q x l ⟨g1,g2⟩
  rw [List.map_cons] at g2
  have hv:V3 q x.1.1=none:=by
   unfold V3
   rw [g1 x (by simp),S3 g2]
  unfold H4
  rw [hv]
  rfl
 ·intro q x;simp [B7g]
 ·rintro q x l ⟨g1,g2⟩
  exact ⟨fun y hy=>g1 y (by simp [hy]),by simpa [B7g] using g2⟩
theorem C8j (l:List Tr.St) (q:Qe) (hn:(q.states.map (·.1)++l.map (·.1.1)).Nodup) (hq:q.states.length≤32) :
  (q.states.length+l.length≤32→B3 D6 q l=.ok { q with states:=q.states++l.map fun x=>(x.1.1,x.2.1,x.2.2) })∧(32 < q.states.length+l.length→∃ p,B3 D6 q l=.error (14,p)):=by
 rw [← B0t]
 refine A8z (len:=fun q=>q.states.length) (push:=B1b) (p:=fun x=>x.1.2) (fun q l=>(q.states.map (·.1)++l.map (·.1.1)).Nodup) ?_ ?_ ?_ l q hn hq
 ·intro q x l g2
  rw [List.map_cons] at g2
  unfold D6
  rw [S3 g2]
  rfl
 ·intro q x;simp [B1b]
 ·intro q x l g2
  simpa [B1b] using g2
def nmF (i:Nat):List UInt8:=[110,97+UInt8.ofNat (i / 26 % 26),97+UInt8.ofNat (i % 26)]
def one_:List UInt8:=[111,110,101]
theorem C0l {a b:Nat} (ha:a < 26) (hb:b < 26) (h:(97:UInt8)+UInt8.ofNat a=97+UInt8.ofNat b):a=b:=by
 have:=congrArg UInt8.toNat h
 simp [UInt8.toNat_add] at this
 omega
theorem A9p {i j:Nat} (hi:i < 676) (hj:j < 676) (h:nmF i=nmF j):i=j:=by
 unfold nmF at h
 simp only [List.cons.injEq,and_true,true_and] at h
 have h1:=C0l (by omega) (by omega) h.1
 have h2:=C0l (by omega) (by omega) h.2
 omega
theorem C7w (i:Nat):nmF i≠one_:=by
 unfold nmF one_
 intro h
 injection h with h _
 exact absurd h (by decide)
def bDe (i:Nat):Tr.De:=((nmF i,(i:Int),1),[])
def J4 (n:Nat):List Tr.De:=((one_,1,1),[1])::(List.range' 1 (n - 1)).map bDe
def bQu (i:Nat):Tr.Qu:=(false,(nmF i,100+(i:Int),1),1)
def bFr (i:Nat):Tr.Fr:=((nmF (100+i),200+(i:Int),1),(1,0,[],false))
def bSt (i:Nat):Tr.St:=((nmF i,300+(i:Int),1),false,false)
def A11 (i:Nat):Tr.Sy:=(one_,[(2,nmF i,Tr.H9,0,0)],0,0)
def A2m (i:Nat):Tr.Sy:=(one_,[(1,[],(1,(i:Int),[],false),0,0)],400+(i:Int),0)
def bTn (i:Nat):Tr.Tn:=((nmF 0,500+(i:Int),1),(nmF 0,1,1),(one_,[(1,[],(1,0,[],false),0,0)],0,0),[],-1,[])
def F4 (d u f s a t:Nat):Tr.Tr0:=(([112],1,1),(J4 d).map fun x=>(0,x),(List.range u).map bQu,(List.range f).map bFr,(List.range s).map bSt,(nmF 0,1,1),
 ((List.range u).map A11++(List.range a).map A2m).map fun x=>(0,x),(List.range t).map fun i=>((0,0,0),bTn i))
theorem B48 {α:Type} (l:List α):(l.map fun x=>((0:Nat),x)).map Prod.snd=l:=by
 rw [List.map_map];exact List.map_id _
theorem B08 {a n:Nat} (h:a+n≤676):((List.range n).map fun i=>nmF (a+i)).Nodup:=by
 refine List.pairwise_map.2 (List.Pairwise.imp_of_mem ?_ (List.pairwise_lt_range (n:=n)))
 intro i j hi hj hij h
 rw [List.mem_range] at hi hj
 have:=A9p (by omega) (by omega) h
 omega
def smQ (i:Nat):Sm:=(0,[(2,(i:Int),Tr.H9)])
def smC (i:Nat):Sm:=(0,[(1,0,(1,(i:Int),[],false))])
theorem C9x {u i:Nat} (hu:u≤676) (hi:i < u):idx (nmF i) (((List.range u).map bQu).map (·.2.1.1))=some i:=by
 rw [List.map_map]
 refine C9y ?_ ?_
 ·rw [List.getElem?_map,List.getElem?_range hi];rfl
 ·intro j hj h
  rw [List.getElem?_map,List.getElem?_range (by omega)] at h
  simp only [Option.map_some,Option.some.injEq,Function.comp,bQu] at h
  have:=A9p (by omega) (by omega) h
  omega
def qH (d u f s:Nat):Qe:={ Qe.none with name:=[112],decls:=(J4 d).map fun x=>(x.1.1,x.2),quants:=((List.range u).map bQu).map fun x=>(x.1,x.2.1.1,x.2.2),frees:=((List.range f).map bFr).map fun x=>(x.1.1,x.2),states:=((List.range s).map bSt).map fun x=>(x.1.1,x.2.1,x.2.2) }
structure W6 (d u f s:Nat) (q:Qe):Prop where
 decls:q.decls=(qH d u f s).decls
 quants:q.quants=(qH d u f s).quants
 frees:q.frees=(qH d u f s).frees
 states:q.states=(qH d u f s).states
 nodes:q.nodes=[]
theorem D2y {d u f s:Nat} {q:Qe} (h:W6 d u f s q) (hu:u≤676) {i:Nat} (hi:i < u):Z3 q (A11 i)=.ok (smQ i):=by
 have e1:idx one_ (q.decls.map (·.1))=some 0:=by rw [h.decls];rfl
 have e2:q.decls.getD 0 Y7=(one_,[1]):=by rw [h.decls];rfl
 have e3:idx (nmF i) (q.quants.map (·.2.1))=some i:=by
  rw [h.quants]
  show idx (nmF i) ((((List.range u).map bQu).map fun x=>(x.1,x.2.1.1,x.2.2)).map (·.2.1))=_
  rw [List.map_map]
  exact C9x hu hi
 have e4:V3 q (nmF i)=some (2,i):=by unfold V3;rw [e3]
 have e5:A15 q (2,i)=1:=by
  unfold A15
  rw [h.quants]
  show (((((List.range u).map bQu).map fun x=>(x.1,x.2.1.1,x.2.2))).getD i A4y).2.2=1
  simp [List.getD,hi,bQu]
 unfold Z3 A11
 simp only [e1,e2,R8,U0,e4,e5]
 rfl
theorem D0r {d u f s:Nat} {q:Qe} (h:W6 d u f s q) (i:Nat) (l c:Int):Z3 q (one_,[(1,[],(1,(i:Int),[],false),0,0)],l,c)=.ok (smC i):=by
 have e1:idx one_ (q.decls.map (·.1))=some 0:=by rw [h.decls];rfl
 have e2:q.decls.getD 0 Y7=(one_,[1]):=by rw [h.decls];rfl
 unfold Z3
 simp only [e1,e2,R8,U0]
 rfl
theorem B6o {d u f s:Nat} {q:Qe} (h:W6 d u f s q) (hs:1≤s) (p:Int × Int):K9 q (nmF 0,p)=.ok 0:=by
 unfold K9
 obtain ⟨s,rfl⟩:∃ s',s=s'+1:=⟨s - 1,by omega⟩
 have:idx (nmF 0) (q.states.map (·.1))=some 0:=by
  rw [h.states]
  show idx (nmF 0) ((((List.range (s+1)).map bSt).map fun x=>(x.1.1,x.2.1,x.2.2)).map (·.1))=_
  rw [List.range_succ_eq_map]
  rfl
 rw [this]
theorem C87 {d u f s k:Nat} (hs:1≤s) (n:Nat) (a:Nat) (q:Qe) (hq0:W6 d u f s q) (hk:idx (smC 0) q.syms=some k) (hq:q.trans.length≤256) :
  (q.trans.length+n≤256→∃ q',B3 E6 q ((List.range' a n).map bTn)=.ok q'∧W6 d u f s q'∧q'.syms=q.syms)∧(256 < q.trans.length+n→∃ p,B3 E6 q ((List.range' a n).map bTn)=.error (14,p)):=by
 have key:=A8z (one:=E6) (len:=fun q=>q.trans.length) (most:=256) (push:=fun q (_:Tr.Tn)=>{ q with trans:=q.trans++[(0,(k:Int),0,-1,[])] }) (p:=fun x=>x.1.2) (fun q l=>W6 d u f s q∧idx (smC 0) q.syms=some k∧∀ x ∈ l,∃ i,x=bTn i) ?_ (by intro q x;simp) ?_
  ((List.range' a n).map bTn) q ⟨hq0,hk,by intro x hx;obtain ⟨i,_,rfl⟩:=List.mem_map.1 hx;exact ⟨i,rfl⟩⟩ hq
 ·rw [List.length_map,List.length_range'] at key
  refine ⟨fun h=>⟨_,key.1 h,?_⟩,key.2⟩
  generalize (List.range' a n).map bTn=l
  clear key hq h
  induction l generalizing q with
  | nil=>exact ⟨hq0,rfl⟩
  | cons x l ih =>
   rw [List.foldl_cons]
   exact ih { q with trans:=q.trans++[(0,(k:Int),0,-1,[])] } ⟨hq0.decls,hq0.quants,hq0.frees,hq0.states,hq0.nodes⟩ hk
 ·rintro q x l ⟨g1,g2,g3⟩
  obtain ⟨i,rfl⟩:=g3 x (by simp)
  have hsy:=D0r g1 0 0 0
  unfold E6
  by_cases hm:256≤q.trans.length
  ·rw [if_pos hm,if_pos hm]
  ·rw [if_neg hm,if_neg hm]
   have hsy':Z3 q (bTn i).2.2.1=.ok (smC 0):=hsy
   have hp:S2 q (bTn i).2.2.1=.ok (q,k):=by
    unfold S2
    rw [hsy']
    dsimp only
    rw [g2]
   rw [show (bTn i).1=(nmF 0,500+(i:Int),1) from rfl,B6o g1 hs,hp]
   dsimp only
   rw [show (bTn i).2.1=(nmF 0,1,1) from rfl,B6o g1 hs,show (bTn i).2.2.2.1=[] from rfl,show (bTn i).2.2.2.2.1 = -1 from rfl,show (bTn i).2.2.2.2.2=[] from rfl,g1.nodes]
   simp only [A77,A7i]
   simp [g1.nodes]
 ·rintro q x l ⟨g1,g2,g3⟩
  exact ⟨⟨g1.decls,g1.quants,g1.frees,g1.states,g1.nodes⟩,g2,fun y hy=>g3 y (by simp [hy])⟩
end Go.Proofs.YtaammejliikieaaGreatDoor.Ck
