/- Part 9 of what the closing text needs: IsM, Ic1, CkAE, PaC, PaD, PaE, AsP, PaN, PyA, PqA, PqB, PqC, PqG, PqH, PqI, PqJ, PaOa, PqM, PqN, PqP, PqQ, CkAF, CkAR. No condition of mine beyond those that the theorems name. -/
import Derived.Test.YtaammejliikieaaGreatDoorChecked
import Derived.WalkKit
import Derived.LaidEql
import Derived.Stop.Asserts
import Derived.RowKitTokens
import Derived.Test.YtaammejliikieaaGreatDoorG1
import Derived.Test.YtaammejliikieaaGreatDoorCkAB
import Derived.Test.YtaammejliikieaaGreatDoorG8
import Derived.Test.YtaammejliikieaaGreatDoorG2
import Derived.Test.YtaammejliikieaaGreatDoorG4
import Derived.Lib.AppendIntMem
import Derived.Test.YtaammejliikieaaGreatDoorAb22
import Derived.Test.YtaammejliikieaaGreatDoorAb23
import Derived.Test.YtaammejliikieaaGreatDoorAb26
import Derived.Test.YtaammejliikieaaGreatDoorProg
import Derived.Shelf.Spec.SlicesGrow
import Derived.Laws.AppendOwn
import Derived.Test.YtaammejliikieaaGreatDoorAb28
import Derived.Lib.Join
import Derived.Lib.ItoaMem
import Derived.Test.YtaammejliikieaaGreatDoorG3
import Derived.Lib.ItoaLen
import Derived.Test.YtaammejliikieaaGreatDoorG5
set_option maxRecDepth 10000
set_option maxHeartbeats 60000000
set_option linter.all false
namespace Go.Proofs.YtaammejliikieaaGreatDoor.Lx
end Go.Proofs.YtaammejliikieaaGreatDoor.Lx
namespace Go.Proofs.YtaammejliikieaaGreatDoor.Pa
end Go.Proofs.YtaammejliikieaaGreatDoor.Pa
namespace Go.Proofs.YtaammejliikieaaGreatDoor.Pr
end Go.Proofs.YtaammejliikieaaGreatDoor.Pr
namespace Go.Proofs.YtaammejliikieaaGreatDoor.IsM
open Go Go.RowKit Go.Extern.Stop Go.Stop Go.Extern
section
variable {P:Program} (w:World)
theorem A3e (d:Nat) {ti tn:TypeId} {ms:Array (String × TypeId)} {i:TypeInfo} {k:IntKind} (a b:Int)
  (hi:P.underlying ti=some (.interface ms)) (hn:P.underlying tn=some (.int k)) (hinfo:P.info? tn=some i) (hcomp:i.comparable=true) :
  (Op.equalIn (d+2) ti (.iface tn (.int k a)) (.iface tn (.int k b))).run P w=.ok (a == b) w:=by
 simp [Op.equalIn,run_underlying hi,run_underlying hn,typeInfo,hinfo,hcomp]
theorem A7f {ti tn:TypeId} {ms:Array (String × TypeId)} {i:TypeInfo} {k:IntKind} (a b:Int)
  (hi:P.underlying ti=some (.interface ms)) (hn:P.underlying tn=some (.int k)) (hinfo:P.info? tn=some i) (hcomp:i.comparable=true) :
  (binOp .eql ti (.iface tn (.int k a)) (.iface tn (.int k b))).run P w=.ok (.bool (a == b)) w:=by
 simp only [binOp]
 simp [Op.equal,Op.maxDepth,A3e w 9998 a b hi hn hinfo hcomp]
end
theorem C4s (v:Value) (w:World):(Extern.ReflectliteType.typeOf #[.iface 64 v]).run Tryz.prog w=.ok (.iface 194 (.agg #[.pointer (some ⟨12,64,none⟩)])) w:=by kernel_rfl
theorem B41 (w : World) : ((Extern.ReflectliteType.method fun t => do Extern.Rtype.noPackHeld "Comparable" t; (fun a => Value.bool a.comparable) <$> typeInfo t) #[.agg #[.pointer (some ⟨12, 64, none⟩)]]).run Tryz.prog w = .ok (.bool true) w := by kernel_rfl
theorem A5n (v : Value) (w : World) : (Go.method 550 194 v "Comparable").run Tryz.prog w = .ok (337, v) w := by kernel_rfl
theorem C9z:(Tryz.prog.info? 64).map (·.comparable)=some true:=by kernel_rfl
theorem D1s (v:Value) (xT:TypeId) (w:World):(Instr.typeAssert (.iface 82 v) xT 261 true).run Tryz.prog w=.ok (.tuple #[.nilIface,.bool false]) w:=run_typeAssert_lacksB Tryz.underlying261 (by kernel_rfl) (by kernel_rfl) v xT w
theorem D1r (v:Value) (xT:TypeId) (w:World):(Instr.typeAssert (.iface 64 v) xT 261 true).run Tryz.prog w=.ok (.tuple #[.nilIface,.bool false]) w:=run_typeAssert_lacksB Tryz.underlying261 (by kernel_rfl) (by kernel_rfl) v xT w
theorem D1u (v:Value) (xT:TypeId) (w:World):(Instr.typeAssert (.iface 64 v) xT 202 true).run Tryz.prog w=.ok (.tuple #[.nilIface,.bool false]) w:=run_typeAssert_lacksB Tryz.underlying202 (by kernel_rfl) (by kernel_rfl) v xT w
theorem D1t (v:Value) (xT:TypeId) (w:World):(Instr.typeAssert (.iface 64 v) xT 203 true).run Tryz.prog w=.ok (.tuple #[.nilIface,.bool false]) w:=run_typeAssert_lacksB Tryz.underlying203 (by kernel_rfl) (by kernel_rfl) v xT w
theorem B83 (v:Value) (xT:TypeId) (w:World):(Instr.typeAssert (.iface 82 v) xT 202 true).run Tryz.prog w=.ok (.tuple #[.iface 82 v,.bool true]) w:=run_typeAssert_hasB Tryz.underlying202 (by kernel_rfl) v xT w
theorem B49 (v : Value) (w : World) : (Go.method 550 82 v "Unwrap").run Tryz.prog w = .ok (331, v) w := by kernel_rfl
theorem C91 (pb po:Nat) (e k:Int) (w:World) (h1:w.cell? ⟨pb,po,none⟩=some (.iface 64 (.int .i64 e))) :
  Calls Tryz.prog 69 #[.iface 82 (.pointer (some ⟨pb,po,none⟩)),.iface 64 (.int .i64 k)] w fun r w'=>r=.returned (.bool (e == k))∧w'=w:=by
 obtain ⟨i,hi,hcmp⟩:=Option.map_eq_some_iff.1 C9z
 have h8:=@run_callFunc_extern Tryz.prog 105 _ Extern.ReflectliteType.typeOf Tryz.func105 (by kernel_rfl) (by kernel_rfl) (by kernel_rfl) (by kernel_rfl)
 have h32 := @run_callFunc_extern Tryz.prog 337 _ (Extern.ReflectliteType.method fun t => do Extern.Rtype.noPackHeld "Comparable" t; pure (.bool (← typeInfo t).comparable)) Tryz.func337 (by kernel_rfl) (by kernel_rfl) (by kernel_rfl) (by kernel_rfl)
 have tT:=C4s
 have cT:=B41
 have mR:=A5n
 have nW:=D1s
 have nN:=D1r
 have uN:=D1u
 have lN:=D1t
 have uW:=B83
 have mU:=B49
 have heq:=A7f (P:=Tryz.prog) w e k Tryz.underlying85 Tryz.underlying64 hi hcmp
 have hty:=run_eql_iface_types (P:=Tryz.prog) 82 64 (.pointer (some ⟨pb,po,none⟩)) (.int .i64 k) Tryz.underlying85 (by decide) w
 cases hk:(e == k)<;>rw [hk] at heq<;>clear hk
 ·go_enter Tryz.func69,Tryz.ntmps69
  go_wp2
  refine wp_loop_rounds 2 ?_
  rw [rounds_succ]
  go_wp2
  rw [rounds_succ]
  go_wp2
  go_ret
  exact ⟨rfl,rfl⟩
 ·go_enter Tryz.func69,Tryz.ntmps69
  go_wp2
  refine wp_loop_rounds 2 ?_
  rw [rounds_succ]
  go_wp2
  rw [rounds_succ]
  go_wp2
  go_ret
  exact ⟨rfl,rfl⟩
open Go.Ab
variable {Γ:Nat→AV}
theorem C4t (c1 c2:AV) (e k:Int):A8 Tryz.prog Γ 69 [.iface 82 (.cptr [.iface 64 (.int .i64 e),c1,c2]),.iface 64 (.int .i64 k)] fun v=>v=.bool (e == k):=by
 refine fun s=>⟨fun G w vs hm hr=>?_⟩
 obtain ⟨u,us,rfl,hu,hus⟩:=A9.1 hr
 obtain ⟨u1,us1,rfl,hu1,hus1⟩:=A9.1 hus
 rw [B4] at hus1;subst hus1
 obtain ⟨x,rfl,hx⟩:=M9.1 hu
 obtain ⟨p,rfl,hp⟩:=M9.1 hu1
 rw [F5] at hp;subst hp
 obtain ⟨pb,po,rfl,hc⟩:=M4.1 hx
 unfold C6 at hc
 obtain ⟨_,⟨y,hy,hr1⟩,_⟩:=hc
 obtain ⟨z,rfl,hz⟩:=M9.1 hr1
 rw [F5] at hz;subst hz
 refine (C91 pb po e k w hy).mono ?_
 rintro r w' ⟨rfl,rfl⟩
 exact ⟨_,_,s,G,rfl,⟨rfl,rfl⟩,F7.2 rfl,hm,Ext.refl _ _⟩
end Go.Proofs.YtaammejliikieaaGreatDoor.IsM
namespace Go.Ab
open Go Go.RowKit
section
variable {P:Program} {Γ:Nat→AV} {n:Nat} {Q:Exit→Env→Sto→Prop} {e:Env} {s s2:Sto}
theorem B2o {G:Gh} {w:World} {x:AV} {B:List AV}:∀ (A:List AV) (vs:List Value),B7 G w (A++x::B) vs→∃ u,R G w x u∧∀ y,R G w y u→B7 G w (A++y::B) vs
 | [],vs,h=>by
  obtain ⟨u,us,rfl,h1,h2⟩:=A9.1 h
  exact ⟨u,h1,fun y hy=>A9.2 ⟨u,us,rfl,hy,h2⟩⟩
 | a::A,vs,h=>by
  obtain ⟨u,us,rfl,h1,h2⟩:=A9.1 (show B7 G w (a::(A++x::B)) vs from h)
  obtain ⟨z,hz,hk⟩:=B2o A us h2
  exact ⟨z,hz,fun y hy=>A9.2 ⟨u,us,rfl,h1,hk y hy⟩⟩
theorem A2.nilBox {f:FuncId} {args:List AV} {φ:AV→Sto→Prop} {b:Nat} {T:TypeId} (A:List AV) {B:List AV} (hb:s.bx b=some (T,A++.slice 1 []::B)) (h:∀ a,A2 P Γ f args (s.set b T (A++.raw a 0 0::B)) φ):A2 P Γ f args s φ:=by
 refine ⟨fun G w vs hm hr=>?_⟩
 obtain ⟨g1,us,g2,g3⟩:=hm.box b T _ hb
 obtain ⟨u,hu,hk⟩:=B2o A us g3
 obtain ⟨a,cap,hv,hc,_,_,h1⟩:=L5 hu
 have hc0:cap=0:=h1 rfl
 subst hc0
 refine (h a).run G w vs ⟨hm.glob,?_,hm.dom,hm.live,hm.apart,hm.fin,hm.mp⟩ hr
 intro d T' ds hd
 by_cases he:d=b
 ·subst he
  rw [A3] at hd
  simp only [Option.some.injEq,Prod.mk.injEq] at hd
  obtain ⟨rfl,rfl⟩:=hd
  exact ⟨g1,us,g2,hk _ (X6.2 (by simpa using hv))⟩
 ·rw [A4 he] at hd
  exact hm.box d T' ds hd
theorem Sub.both {a c:Sto} (h:Sub a c) (b:Nat) (T:TypeId) (cs:List AV):Sub (a.set b T cs) (c.set b T cs) :=
 ⟨fun d x hd=>by
  by_cases hdc:d=b
  ·subst hdc;rw [A3] at hd ⊢;exact hd
  ·rw [A4 hdc] at hd ⊢;exact h.bx d x hd,h.lv,h.mp⟩
end
end Go.Ab
namespace Go.Proofs.YtaammejliikieaaGreatDoor.Ck
open Go Go.Ab Go.RowKit Go.Proofs.YtaammejliikieaaGreatDoor.Pa
variable {Γ:Nat→AV}
theorem C7s (a:Option Addr):Le (.raw a 0 0) (.slice 0 []):=by
 intro G w v h
 rw [X6] at h
 subst h
 exact A51 (es:=[]) (Nat.le_refl _) (fun _=>rfl) (fun h=>absurd rfl h)
theorem B23:∀ (l:List Tx) (rest:List AV),N9 5 l.length ((txs l).flatten++rest)=txs l
 | [],rest=>rfl
 | x::l,rest=>by
  have e:(txs (x::l)).flatten++rest=txA (0,x)++((txs l).flatten++rest):=by
   unfold txs
   rw [List.map_cons,List.flatten_cons,List.append_assoc]
  have h5:(txA (0,x)).length=5:=rfl
  rw [e,List.length_cons,N9,← h5,List.take_left,List.drop_left,h5,B23 l rest]
  rfl
def D2v (s0:Sto) (bc bd bv bs:Nat) (r:Res Qe) (v:AV) (s':Sto):Prop :=
 match r with
 | .ok q=>v=.nilIface∧Sub s0 s'∧∃ tk:Nat→Nat,(q.trans=[]∧s'.bx bc=some (81,[.str q.name,.slice (tk 0) (dcs q.decls),.slice (tk 1) (q.quants.map qtA),.slice (tk 2) (q.frees.map feA),.slice (tk 3) (q.states.map saA),.int .i64 q.start,.slice (tk 4) (sms q.syms),.slice (tk 5) (q.nodes.map ndA),.slice 0 [],.mref (some bd),.mref (some bv),.mref (some bs)])) ∨
   (q.trans≠[]∧∃ bt cap rest,s'.bx bc=some (81,[.str q.name,.slice (tk 0) (dcs q.decls),.slice (tk 1) (q.quants.map qtA),.slice (tk 2) (q.frees.map feA),.slice (tk 3) (q.states.map saA),.int .i64 q.start,.slice (tk 4) (sms q.syms),.slice (tk 5) (q.nodes.map ndA),.raw (some ⟨bt,0,none⟩) q.trans.length cap,.mref (some bd),.mref (some bv),.mref (some bs)])∧s0.bx bt=none∧s'.bx bt=some (106,(txs q.trans).flatten++rest)∧q.trans.length≤cap)
 | .error x=>v=A4x x∧Sub s0 s'
theorem C5s {f:FuncId} {args:List AV} {s0 s:Sto} {bc bd bv bs:Nat} {r:Res Qe} (nc:s0.bx bc=none) (h:A2 Tryz.prog Γ f args s (D12 s0 bc bd bv bs r)):A2 Tryz.prog Γ f args s (D2v s0 bc bd bv bs r):=by
 refine h.less ?_
 intro v s' hv
 cases r with
 | error e=>exact ⟨v,s',Le.refl _,R7.refl _,hv⟩
 | ok q =>
  obtain ⟨rfl,hd1,tk,a,cap,hTr,hb⟩:=hv
  by_cases hnil:q.trans=[]
  ·have hcap:=hTr.none hnil
   subst hcap
   have hl:q.trans.length=0:=by rw [hnil];rfl
   simp only [chA,hl] at hb
   refine ⟨.nilIface,s'.set bc 81 [.str q.name,.slice (tk 0) (dcs q.decls),.slice (tk 1) (q.quants.map qtA),.slice (tk 2) (q.frees.map feA),.slice (tk 3) (q.states.map saA),.int .i64 q.start,.slice (tk 4) (sms q.syms),.slice (tk 5) (q.nodes.map ndA),.slice 0 [],.mref (some bd),.mref (some bv),.mref (some bs)],Le.refl _,R7.box hb ?_,rfl,hd1.set nc _ _,tk,.inl ⟨hnil,A3⟩⟩
   exact .cons (.refl _) (.cons (.refl _) (.cons (.refl _) (.cons (.refl _) (.cons (.refl _) (.cons (.refl _) (.cons (.refl _) (.cons (.refl _) (.cons (C7s a) (.refl _)))))))))
  ·obtain ⟨bt,rest,rfl,g2,g3,g4,g5,g6⟩:=hTr.some hnil
   exact ⟨.nilIface,s',Le.refl _,R7.refl _,rfl,hd1,tk,.inr ⟨hnil,bt,cap,rest,hb,g3,g4,g6⟩⟩
theorem fzq {m:Frz} {α:Type} {A:α→List AV} (h:∀ x,fzL m (A x)=A x) (l:List α):fzE m (l.map A)=l.map A:=C0f h l
theorem C7h (m:Frz) (l:List Int):fzE m (G9 .i64 l)=G9 .i64 l:=fzq (A:=fun x=>[.int .i64 x]) (fun _=>rfl) l
theorem C9s (m:Frz) (l:List Dc):fzE m (dcs l)=dcs l:=fzq (A:=fun x=>dcA (0,x)) (fun x=>by simp only [dcA,fzL,fz,C7h]) l
theorem D1g (m:Frz) (l:List Qt):fzE m (l.map qtA)=l.map qtA:=fzq (A:=qtA) (fun _=>rfl) l
theorem D1e (m:Frz) (l:List Fe):fzE m (l.map feA)=l.map feA:=fzq (A:=feA) (fun _=>rfl) l
theorem D1h (m:Frz) (l:List Sa):fzE m (l.map saA)=l.map saA:=fzq (A:=saA) (fun _=>rfl) l
theorem D1f (m:Frz) (l:List Nd):fzE m (l.map ndA)=l.map ndA:=fzq (A:=ndA) (fun _=>rfl) l
theorem C9r (m:Frz) (l:List Ag):fzE m (l.map agA)=l.map agA:=fzq (A:=agA) (fun _=>rfl) l
theorem C9t (m:Frz) (l:List Sm):fzE m (sms l)=sms l:=fzq (A:=fun x=>smA (0,x)) (fun x=>by simp only [smA,fzL,fz,C9r]) l
attribute [local irreducible] A8 Sto.set Sto.grow
theorem C1m (e:Bad) (he:8≤e.1∧e.1≤14):A8 Tryz.prog Γ 14 [A4x e] fun v=>v=.int .i64 e.1:=by
 obtain ⟨e1,e2,e3⟩:=e
 simp only at he
 obtain ⟨h8,h14⟩:=he
 simp only [A4x,A9g]
 refine aps Tryz.func14 ?_
 intro s
 refine wr ?_
 refine AWp.loopA [3] [4,5,8,9,10,11,12,2,6,7] (fun i:Nat=>[.int .i64 (i:Int)]) (fun i s'=>s'=s∧8≤i∧(i:Int)≤e1) (fun i=>14 - i) (8) (by kernel_rfl) (eqa) ?_ ?_
 ·exact ⟨rfl,by omega,by omega⟩
 ·rintro y i s1 ⟨rfl,h8',hle⟩
  conv=>whnf
  have hi:=IsM.C4t (Γ:=Γ) (.int .i64 e2) (.int .i64 e3) e1 i
  repeat' ((first|(refine brS (fun h=>?_) (fun h=>?_)<;>(try rw [h])<;>(try simp only [bS,↓reduceIte] at h)<;>(try exact prc))|(refine A2.pure' ?_ (hi);rintro _ rfl)|refine A7.pure ?_ (hi)|refine gS ?_|refine aA ?_|refine nA ?_|fail)<;>(conv=>whnf))
  ·have:e1=i:=by simpa using h
   rw [this]
   rfl
  ·have:e1≠i:=by simpa using h
   exact ⟨i+1,eqa,B8,⟨(by first|rfl|trivial),by omega,by omega⟩,by omega⟩
def A4w:Res Qe→AV
 | .ok q=>.tuple [.agg (qeA z0 q),.agg [.int .i64 0,.int .i64 0,.int .i64 0]]
 | .error e=>.tuple [.agg (qeA z0 Qe.none),.agg [.int .i64 e.1,.int .i64 e.2.1,.int .i64 e.2.2]]
theorem Cst.start {s s':Sto} {bc bd bv bs:Nat} (hs:Sub s s') (nc:s.bx bc=none) (nd:s.mp bd=none) (nv:s.mp bv=none) (ns:s.mp bs=none) (dv:bd≠bv) (ds:bd≠bs) (vs:bv≠bs) (md:s'.mp bd=some []) (mv:s'.mp bv=some []) (ms:s'.mp bs=some []) (a:Option Addr)
  (hb:s'.bx bc=some (81,[.str [],.slice 1 [],.slice 1 [],.slice 1 [],.slice 1 [],.int .i64 0,.slice 1 [],.slice 1 [],.raw a 0 0,.mref (some bd),.mref (some bv),.mref (some bs)])):Cst s s' bc bd bv bs Qe.none :=
 ⟨nc,nd,nv,ns,dv,ds,vs,md,mv,ms,fun _=>1,a,0,U3.start hs,⟨fun _=>rfl,fun h=>absurd rfl h⟩,hb⟩
theorem B67 {x:Tr.Tr0} (hx:A53 x) (hE:AsM.A2e Γ) (hW:Sc.Wds Γ) (he:∀ e,F2 x=.error e→8≤e.1∧e.1≤14)
  (hT:∀ (bc bd bv bs:Nat) (s0 s:Sto) (q:Qe) (d:Tr.Tn),d ∈ x.2.2.2.2.2.2.2.map Prod.snd→Cst s0 s bc bd bv bs q→H7 q→A2 Tryz.prog Γ 65 [.ptr (some ⟨bc,0,none⟩),.agg (Tr.tnA ((0,0,0),d))] s (P7 s0 bc bd bv bs (E6 q d))) :
  A8 Tryz.prog Γ 7 [.agg (Tr.trA z0 x)] fun v=>v=A4w (F2 x):=by
 have hri:=Tr.B5p (Γ:=Γ) hW z0 x hx.small
 rw [hx.right] at hri
 have hrun:=fun (bc bd bv bs:Nat) (s0 s:Sto) (hC:Cst s0 s bc bd bv bs Qe.none)=>C69 (Γ:=Γ) hx (hT bc bd bv bs) hC
 refine A8.frz fun s=>?_
 simp only [Tr.trA,z0] at hri hrun ⊢
 refine acs Tryz.func7 ?_
 conv=>whnf
 intro b1 hb1
 have k_b1:=hb1
 repeat replace k_b1:=A0 k_b1
 conv=>whnf
 intro b2 hb2
 have k_b2:=hb2
 repeat replace k_b2:=A0 k_b2
 have n_b1_b2:b1≠b2:=by (have k:=hb2;repeat (first|exact A6 k|replace k:=A0 k))
 have n_b2_b1:=n_b1_b2.symm
 conv=>whnf
 intro b3 hb3
 have k_b3:=hb3
 repeat replace k_b3:=A0 k_b3
 have n_b1_b3:b1≠b3:=by (have k:=hb3;repeat (first|exact A6 k|replace k:=A0 k))
 have n_b3_b1:=n_b1_b3.symm
 have n_b2_b3:b2≠b3:=by (have k:=hb3;repeat (first|exact A6 k|replace k:=A0 k))
 have n_b3_b2:=n_b2_b3.symm
 conv=>whnf
 have hS:Sub s (((s.set b1 34 (Tr.trA z0 x)).set b2 63 [.str [],.slice 1 [],.slice 1 [],.slice 1 [],.slice 1 [],.int .i64 0,.slice 1 [],.slice 1 [],.slice 1 []]).set b3 66 [.int .i64 0,.int .i64 0,.int .i64 0]):=(((Sub.refl s).set k_b1 _ _).set k_b2 _ _).set k_b3 _ _
 have f1:(((s.set b1 34 (Tr.trA z0 x)).set b2 63 [.str [],.slice 1 [],.slice 1 [],.slice 1 [],.slice 1 [],.int .i64 0,.slice 1 [],.slice 1 [],.slice 1 []]).set b3 66 [.int .i64 0,.int .i64 0,.int .i64 0]).bx b1=some (34,Tr.trA z0 x):=bxa
 have f2:(((s.set b1 34 (Tr.trA z0 x)).set b2 63 [.str [],.slice 1 [],.slice 1 [],.slice 1 [],.slice 1 [],.int .i64 0,.slice 1 [],.slice 1 [],.slice 1 []]).set b3 66 [.int .i64 0,.int .i64 0,.int .i64 0]).bx b2=some (63,[.str [],.slice 1 [],.slice 1 [],.slice 1 [],.slice 1 [],.int .i64 0,.slice 1 [],.slice 1 [],.slice 1 []]):=bxa
 have f3:(((s.set b1 34 (Tr.trA z0 x)).set b2 63 [.str [],.slice 1 [],.slice 1 [],.slice 1 [],.slice 1 [],.int .i64 0,.slice 1 [],.slice 1 [],.slice 1 []]).set b3 66 [.int .i64 0,.int .i64 0,.int .i64 0]).bx b3=some (66,[.int .i64 0,.int .i64 0,.int .i64 0]):=bxa
 simp only [Tr.trA,z0] at hS f1 f2 f3
 refine wr ?_
 generalize hSg:((s.set b1 34 _).set b2 63 _).set b3 66 _=S at *
 clear hSg
 intro bd hbd
 conv=>whnf
 intro bv hbv
 have ndv:bd≠bv:=by
  rintro rfl
  rw [S7] at hbv;cases hbv
 have hbv0:S.mp bv=none:=(H5 ndv.symm).symm.trans hbv
 conv=>whnf
 intro bs hbs
 have nds:bd≠bs:=by
  rintro rfl
  rw [H5 ndv,S7] at hbs;cases hbs
 have nvs:bv≠bs:=by
  rintro rfl
  rw [S7] at hbs;cases hbs
 have hbs0:S.mp bs=none:=by rw [H5 nvs.symm,H5 nds.symm] at hbs;exact hbs
 refine wr ?_
 intro bc hbc
 have hbc0:S.bx bc=none:=hbc
 refine wr ?_
 intro b5 hb5
 have c5':=A0 hb5
 have c5:S.bx b5=none:=c5'
 have n15:=A1 f1 c5
 have n1c:=A1 f1 hbc0
 have n25:=A1 f2 c5
 have n35:=A1 f3 c5
 have nc5:bc≠b5:=by
  rintro rfl
  rw [A3] at hb5;cases hb5
 have n52:=n25.symm
 have hC5:=fun a=>Cst.start (s:=S.set b5 82 [.ptr none]) ((Sub.both (((((Sub.refl S).setM hbd []).setM hbv0 []).setM hbs0 []).set hbc0 81 [.str [],.slice 1 [],.slice 1 [],.slice 1 [],.slice 1 [],.int .i64 0,.slice 1 [],.slice 1 [],.slice 1 [],.mref (some bd),.mref (some bv),.mref (some bs)]) b5 82 [.ptr none]).set ((A4 nc5).trans hbc0) 81 [.str [],.slice 1 [],.slice 1 [],.slice 1 [],.slice 1 [],.int .i64 0,.slice 1 [],.slice 1 [],.raw a 0 0,.mref (some bd),.mref (some bv),.mref (some bs)]) ((A4 nc5).trans hbc0) (C2.trans hbd) (C2.trans hbv0) (C2.trans hbs0) ndv nds nvs (C2.trans (C2.trans (C2.trans ((H5 nds).trans ((H5 ndv).trans S7))))) (C2.trans (C2.trans (C2.trans ((H5 nvs).trans S7)))) (C2.trans (C2.trans (C2.trans S7))) a A3
 have hr:=C5s ((A4 nc5).trans hbc0) (A2.nilBox [.str [],.slice 1 [],.slice 1 [],.slice 1 [],.slice 1 [],.int .i64 0,.slice 1 [],.slice 1 []] ((A4 nc5).trans A3) fun a=>hrun bc bd bv bs _ _ (hC5 a))
 have hS5:Sub S (S.set b5 82 [.ptr none]):=(Sub.refl S).set c5 _ _
 have h5:(S.set b5 82 [.ptr none]).bx b5=some (82,[.ptr none]):=A3
 generalize S.set b5 82 [.ptr none]=S5 at *
 refine wr ?_;(refine A2.by hr ?_;intro v s6 hv);refine wr ?_
 rcases hl:F2 x with ⟨e1,e2,e3⟩|q
 ·rw [hl] at hv
  obtain ⟨rfl,hs6⟩:=hv
  have g5:=hs6.bx _ _ h5
  have g2:=hs6.bx _ _ (hS5.bx _ _ f2)
  have g3:=hs6.bx _ _ (hS5.bx _ _ f3)
  have hern:=C1m (Γ:=Γ) (e1,e2,e3) (he _ hl)
  simp only [A4x,A9g] at hern ⊢
  conv=>whnf
  repeat' ((first|(refine brS (fun h=>?_) (fun h=>?_)<;>(try rw [h])<;>(try simp only [bS,↓reduceIte] at h)<;>(try exact prc))|refine A5 ?_|(refine A2.by (AsM.A94 hE _ g5) ?_;rintro _ _ ⟨rfl,rfl⟩)|(refine AWp.anyP (id:=6) [(5,true),(27,true),(31,true),(2,false)] (fun k=>cond k b5 b2) [0,1,2,3,4,5,6,7,8,9,10,11,12,13,14] n52 (by kernel_rfl) (by kernel_rfl) (by kernel_rfl) (by kernel_rfl) ?_)|(refine oA ?_)|(refine A2.pure' ?_ (hern);rintro _ rfl)|refine A7.pure ?_ (hern)|refine gS ?_|refine aA ?_|refine nA ?_|fail)<;>(conv=>whnf))
  exact ⟨_,Sub.refl _,fz0,A74,by rw [A3s];rfl,(((hS.trans (hS5.trans hs6)).set (hS.none c5) _ _).set k_b2 _ _).set k_b3 _ _⟩
 ·rw [hl] at hv
  obtain ⟨rfl,hd1,tk,hv⟩:=hv
  have g2:=hd1.bx _ _ (hS5.bx _ _ f2)
  have g3:=hd1.bx _ _ (hS5.bx _ _ f3)
  rcases hv with ⟨hnil,hb6⟩|⟨hnil,bt,cap,rest,hb6,r3,r4,r6⟩
  ·conv=>whnf
   refine wr ?_;(first|(refine A2.pure' ?_ (AsM.W0 _);rintro _ rfl)|refine A7.pure ?_ (AsM.W0 _));refine wr ?_
   refine ⟨_,Sub.refl _,fz0,A74,?_,((hS.trans (hS5.trans hd1)).set k_b2 _ _).set k_b3 _ _⟩
   rw [A3s]
   show fg (.tuple [.agg [.str q.name,.slice (tk 0) (dcs q.decls),.slice (tk 1) (q.quants.map qtA),.slice (tk 2) (q.frees.map feA),.slice (tk 3) (q.states.map saA),.int .i64 q.start,.slice (tk 4) (sms q.syms),.slice (tk 5) (q.nodes.map ndA),.slice 0 []],_])=_
   simp only [fg,fgL,A1q,A6j,A6i,A6k,A5j,B0j,A4w,qeA,z0,hnil]
   rfl
  ·have n2:bt≠b2:=by rintro rfl;rw [hS5.bx _ _ f2] at r3;cases r3
   have n3:bt≠b3:=by rintro rfl;rw [hS5.bx _ _ f3] at r3;cases r3
   refine wr ?_;(first|(refine A2.pure' ?_ (AsM.W0 _);rintro _ rfl)|refine A7.pure ?_ (AsM.W0 _));refine wr ?_
   refine ⟨_,Sub.refl _,fz1 bt 5 ((txs q.trans).flatten++rest),A76 (hS.none (hS5.none r3)) ((A4 n3).trans ((A4 n2).trans r4)),?_,((hS.trans (hS5.trans hd1)).set k_b2 _ _).set k_b3 _ _⟩
   show fg (fz _ (.tuple [.agg [.str q.name,.slice (tk 0) (dcs q.decls),.slice (tk 1) (q.quants.map qtA),.slice (tk 2) (q.frees.map feA),.slice (tk 3) (q.states.map saA),.int .i64 q.start,.slice (tk 4) (sms q.syms),.slice (tk 5) (q.nodes.map ndA),.raw (some ⟨bt,0,none⟩) q.trans.length cap],.agg [.int .i64 0,.int .i64 0,.int .i64 0]]))=_
   simp only [fz,fzL,fzW,A75,List.drop_zero,C9s,D1g,D1e,D1h,C9t,D1f,B23]
   rw [if_pos ⟨r6,by rw [List.length_append,A5z];omega⟩]
   simp only [fg,fgL,A1q,A6j,A6i,A6k,A5j,B0j,B0l,A4w,qeA,z0]
end Go.Proofs.YtaammejliikieaaGreatDoor.Ck
namespace Go.Proofs.YtaammejliikieaaGreatDoor.Pa
open Go Go.Ab Go.RowKit Go.Proofs.YtaammejliikieaaGreatDoor.Lx
variable {Γ:Nat→AV}
attribute [local irreducible] A8 Sto.set Sto.grow
section
variable {s0 s:Sto} {bp bl:Nat} {L:List Tok} {a:Nat} {o:List Ex} {d:List Int} {k:Int}
theorem A9c (hP:Pst s0 s bp bl L a o d k) (hL:L.length≤1000000) (ha:a≤100000) (w:List UInt8) :
  A2 Tryz.prog Γ 179 [.ptr (some ⟨bp,0,none⟩),.str w] s fun v s'=>v=.bool (isF L a w)∧Pst s0 s' bp bl L (if isF L a w=true then a+1 else a) o d k:=B5u hP hL ha w
def C3k (x:Int × Int × Int) (v:AV):Prop:=∃ kd t,v=C7d (kd,t,x.2.1,x.2.2) x.1
theorem A7z (L:List Tok) (a:Nat) (e:Int):C3k (e,(E5 L a).2.2.1,(E5 L a).2.2.2) (C7d (E5 L a) e):=⟨(E5 L a).1,(E5 L a).2.1,rfl⟩
theorem Pst.box (hP:Pst s0 s bp bl L a o d k) {b:Nat} (hb:s.bx b=none) (T:TypeId) (cs:List AV):Pst s0 (s.set b T cs) bp bl L a o d k:=by
 obtain ⟨np,nl,ne,⟨t1,t2,h1,h2,h3,h4⟩,pl⟩:=hP
 exact ⟨np,nl,ne,⟨t1,t2,(A4 (A1 h1 hb)).trans h1,h2.set (h2.sub.none hb),h3.set (h2.sub.none hb),h4⟩,(A4 (A1 pl hb)).trans pl⟩
theorem Pst.put (hP:Pst s0 s bp bl L a o d k) {b:Nat} (hb:s0.bx b=none) (h1:b≠bp) (h2:b≠bl) (T:TypeId) (cs:List AV):Pst s0 (s.set b T cs) bp bl L a o d k:=by
 obtain ⟨np,nl,ne,⟨t1,t2,e1,e2,e3,e4⟩,pl⟩:=hP
 exact ⟨np,nl,ne,⟨t1,t2,(A4 h1.symm).trans e1,e2.set hb,e3.set hb,e4⟩,(A4 h2.symm).trans pl⟩
theorem Pst.keep (hP:Pst s0 s bp bl L a o d k) {b:Nat} {T:TypeId} {cs:List AV} (hb:s.bx b=some (T,cs)) (h1:b≠bp) (h2:b≠bl):Pst (s0.set b T cs) s bp bl L a o d k:=by
 obtain ⟨np,nl,ne,⟨t1,t2,e1,e2,e3,e4⟩,pl⟩:=hP
 have hs:Sub (s0.set b T cs) s:=⟨fun c x hc=>(by
  by_cases hcb:c=b
  ·subst hcb;rw [A3] at hc;rw [← hc];exact hb
  ·rw [A4 hcb] at hc;exact e2.sub.bx c x hc),fun t e m hx=>e2.sub.lv t e m (by simpa [Sto.set] using hx),fun c x hx=>e2.sub.mp c x (by simpa [Sto.set] using hx)⟩
 exact ⟨(A4 h1.symm).trans np,(A4 h2.symm).trans nl,ne,⟨t1,t2,e1,⟨hs,e2.own.imp id fun h=>⟨h.1,h.2.1,fun e m hx=>h.2.2 e m (by simpa [Sto.set] using hx)⟩⟩,⟨hs,e3.own.imp id fun h=>⟨h.1,h.2.1,fun e m hx=>h.2.2 e m (by simpa [Sto.set] using hx)⟩⟩,e4⟩,pl⟩
theorem Pst.drop {b:Nat} {T:TypeId} {cs:List AV} (hP:Pst (s0.set b T cs) s bp bl L a o d k) (hb:s0.bx b=none):Pst s0 s bp bl L a o d k∧s.bx b=some (T,cs):=by
 obtain ⟨np,nl,ne,⟨t1,t2,e1,e2,e3,e4⟩,pl⟩:=hP
 have hsb:Sub s0 (s0.set b T cs):=(Sub.refl s0).set hb T cs
 have n1:bp≠b:=by rintro rfl;rw [A3] at np;cases np
 have n2:bl≠b:=by rintro rfl;rw [A3] at nl;cases nl
 exact ⟨⟨(A4 n1).symm.trans np,(A4 n2).symm.trans nl,ne,⟨t1,t2,e1,e2.of_sub hsb,e3.of_sub hsb,e4⟩,pl⟩,e2.sub.bx _ _ A3⟩
end
section
variable {s0 s:Sto} {bp bl:Nat} {L:List Tok} {a:Nat} {o:List Ex} {d:List Int} {k:Int}
theorem Pst.nb (hP:Pst s0 s bp bl L a o d k) {b:Nat} (hb:s.bx b=none):b≠bp∧b≠bl:=by
 refine ⟨?_,?_⟩
 ·rintro rfl;obtain ⟨_,_,h,_⟩:=hP.pr;rw [hb] at h;cases h
 ·rintro rfl;rw [hP.pl] at hb;cases hb
end
end Go.Proofs.YtaammejliikieaaGreatDoor.Pa
namespace Go.Proofs.YtaammejliikieaaGreatDoor.Pa
open Go Go.Ab Go.RowKit Go.Proofs.YtaammejliikieaaGreatDoor.Lx
theorem C8i {L:List Tok} {a:Nat} (h:C5w (E5 L a)=true):a < L.length:=by
 by_cases ha:a < L.length
 ·exact ha
 ·exfalso
  unfold E5 at h
  rw [if_neg ha] at h
  split at h<;>exact absurd h (by simp [C5w])
theorem B86 {L:List Tok} {a:Nat} {w:List UInt8} (h:isF L a w=true):a < L.length:=by
 unfold isF at h
 rw [Bool.and_eq_true] at h
 exact C8i h.1
theorem C7q {L:List Tok} {a:Nat} (h:(E5 L a).1≠0):a < L.length:=by
 by_cases ha:a < L.length
 ·exact ha
 ·exfalso
  unfold E5 at h
  rw [if_neg ha] at h
  split at h<;>exact h rfl
end Go.Proofs.YtaammejliikieaaGreatDoor.Pa
namespace Go.Proofs.YtaammejliikieaaGreatDoor.AsP
open Go Go.RowKit Go.Extern.Stop Go.Stop Go.Extern
theorem A95 (t:Value) (w:World) :
  Calls Tryz.prog 12 #[.nilIface,t] w fun e w'=>e=.returned (.bool false)∧w'=w:=by
 go_enter Tryz.func12,Tryz.ntmps12
 go_wp2
 go_ret
 exact ⟨rfl,rfl⟩
open Go.Ab
variable {Γ:Nat→AV}
theorem W0 (x:AV):A8 Tryz.prog Γ 12 [.nilIface,x] fun v=>v=.bool false:=by
 refine fun s=>⟨fun G w vs hm hr=>?_⟩
 obtain ⟨u,us,rfl,hu,hus⟩:=A9.1 hr
 obtain ⟨u1,us1,rfl,hu1,hus1⟩:=A9.1 hus
 rw [B4] at hus1;subst hus1
 rw [L6] at hu;subst hu
 refine (A95 u1 w).mono ?_
 rintro e w' ⟨rfl,rfl⟩
 exact ⟨_,_,s,G,rfl,⟨rfl,rfl⟩,F7.2 rfl,hm,Ext.refl _ _⟩
end Go.Proofs.YtaammejliikieaaGreatDoor.AsP
namespace Go.Proofs.YtaammejliikieaaGreatDoor.Pa
open Go Go.Ab Go.RowKit Go.Proofs.YtaammejliikieaaGreatDoor.Lx
variable {Γ:Nat→AV}
theorem _root_.Go.Ab.X2.of_sub {B:Nat→Prop} {s s':Sto} (h:Sub s s'):X2 B s s':=⟨fun c z _ hz=>h.bx c z hz,h.lv,fun _ hs _=>hs.trans h⟩
attribute [local irreducible] A8 Sto.set Sto.grow
theorem _root_.Go.Ab.X2.none1 {s s':Sto} {bc b:Nat} {z:TypeId × List AV} (h:X2 (B1 bc) s s') (hc:s'.bx bc=some z) (hb:s'.bx b=none):s.bx b=none:=by
 cases hz:s.bx b with
 | none=>rfl
 | some z =>
  have hne:b≠bc:=by rintro rfl;rw [hc] at hb;cases hb
  rw [h.bx b z (fun h=>hne h) hz] at hb;cases hb
end Go.Proofs.YtaammejliikieaaGreatDoor.Pa
namespace Go.Proofs.YtaammejliikieaaGreatDoor.Pa
open Go Go.Ab Go.RowKit Go.Proofs.YtaammejliikieaaGreatDoor.Lx
def X5 (L:List Tok) (a:Nat):Res (Tr.Idn × Nat) :=
 if (E5 L a).1≠1∨(E5 L a).2.1=[95] then A45 L a 16 else .ok (((E5 L a).2.1,(E5 L a).2.2.1,(E5 L a).2.2.2),a+1)
def R6 (L:List Tok):List (List UInt8)→Nat→Res Nat
 | [],a=>.ok a
 | w::r,a=>if isF L a w=true then R6 L r (a+1) else A45 L a 16
def C4y (L:List Tok) (ws:List (List UInt8)) (a:Nat):Res (Tr.Idn × Nat) :=
 match X5 L a with
 | .error e=>.error e
 | .ok (x,a1)=>match R6 L ws a1 with
  | .error e=>.error e
  | .ok a2=>.ok (x,a2)
def C80 (L:List Tok) (a:Nat):Res (Int × Nat) :=
 if isF L a [105,110,116]=true then .ok (1,a+1) else if isF L a [115,116,114,105,110,103]=true then .ok (2,a+1) else if isF L a [98,111,111,108]=true then .ok (3,a+1) else A45 L a 16
def U0 (L:List Tok) (a:Nat):Res (Tr.Ar × Nat) :=
 if (E5 L a).1=1∧(E5 L a).2.1=[95] then .ok ((3,[],Tr.H9,(E5 L a).2.2.1,(E5 L a).2.2.2),a+1)
 else if (E5 L a).1≠1 then
  match C6p L a with
  | .error e=>.error e
  | .ok (v,a')=>.ok ((1,[],v,(E5 L a).2.2.1,(E5 L a).2.2.2),a')
 else .ok ((2,(E5 L a).2.1,Tr.H9,(E5 L a).2.2.1,(E5 L a).2.2.2),a+1)
section
variable {α:Type}
def C82 (L:List Tok) (one:Nat→Res (α × Nat)):Nat→List α→Nat→Res (List α × Nat)
 | 0,acc,a=>.ok (acc,a)
 | n+1,acc,a=>match one a with
  | .error e=>.error e
  | .ok (x,a1)=>if isF L a1 [44]=true then C82 L one n (acc++[x]) (a1+1)
   else if isF L a1 [41]=true then .ok (acc++[x],a1+1) else A45 L a1 16
def C81 (L:List Tok) (one:Nat→Res (α × Nat)) (a:Nat):Res (List α × Nat) :=
 if isF L a [40]=true then (if isF L (a+1) [41]=true then .ok ([],a+2) else C82 L one (L.length+1) [] (a+1)) else A45 L a 16
def G3 (L:List Tok) (a:Nat):List (List UInt8)→Nat
 | []=>0
 | w::r=>if isF L a w=true then 0 else G3 L a r+1
def A1g (L:List Tok) (ws:List (List UInt8)) (one:Nat→Nat→Res (α × Nat)):Nat→List α→Nat→Res (List α × Nat)
 | 0,acc,a=>.ok (acc,a)
 | n+1,acc,a=>if G3 L a ws=ws.length then .ok (acc,a) else match one (G3 L a ws) (a+1) with
  | .error e=>.error e
  | .ok (x,a1)=>A1g L ws one n (acc++[x]) a1
def A30 (L:List Tok) (ws:List (List UInt8)) (one:Nat→Nat→Res (α × Nat)) (a:Nat):Res (List α × Nat):=A1g L ws one (L.length+1) [] a
end
def C8k (L:List Tok) (a:Nat):Res (Tr.Sy × Nat) :=
 match X5 L a with
 | .error e=>.error e
 | .ok (x,a1)=>match C81 L (U0 L) a1 with
  | .error e=>.error e
  | .ok (l,a2)=>.ok ((x.1,l,x.2.1,x.2.2),a2)
def H1 (L:List Tok) (a:Nat):Res (Tr.De × Nat) :=
 match X5 L a with
 | .error e=>.error e
 | .ok (x,a1)=>match C81 L (C80 L) a1 with
  | .error e=>.error e
  | .ok (l,a2)=>.ok ((x,l),a2)
def E8 (L:List Tok) (all:Bool) (a:Nat):Res (Tr.Qu × Nat) :=
 match C4y L [[58]] a with
 | .error e=>.error e
 | .ok (x,a1)=>match C80 L a1 with
  | .error e=>.error e
  | .ok (k,a2)=>.ok ((all,x,k),a2)
def H4 (L:List Tok) (a:Nat):Res (Tr.Fr × Nat) :=
 match C4y L [[61]] a with
 | .error e=>.error e
 | .ok (x,a1)=>match C6p L a1 with
  | .error e=>.error e
  | .ok (v,a2)=>.ok ((x,v),a2)
def B5x:List UInt8:=[97,99,99,101,112,116]
def D6 (L:List Tok) (next:Bool) (a:Nat):Res (Tr.St × Nat) :=
 match X5 L a with
 | .error e=>.error e
 | .ok (x,a1)=>.ok ((x,next,isF L a1 B5x),if isF L a1 B5x=true then a1+1 else a1)
structure Head where
 name:Tr.Idn
 decls:List Tr.De
 quants:List Tr.Qu
 frees:List Tr.Fr
 states:List Tr.St
 start:Tr.Idn
 also:List Tr.Sy
def D0u:List UInt8:=[113,101,97]
def A8l:List UInt8:=[101,118,101,110,116]
def A4t:List UInt8:=[101,120,105,115,116,115]
def A4u:List UInt8:=[102,111,114,97,108,108]
def B37:List UInt8:=[102,114,101,101]
def C6s:List UInt8:=[115,107,105,112]
def C6r:List UInt8:=[110,101,120,116]
def B9x:List UInt8:=[115,116,97,114,116]
def B36:List UInt8:=[97,108,115,111]
end Go.Proofs.YtaammejliikieaaGreatDoor.Pa
namespace Go.Proofs.YtaammejliikieaaGreatDoor.Pa
open Go Go.Ab Go.RowKit Go.Proofs.YtaammejliikieaaGreatDoor.Lx
variable {Γ:Nat→AV}
attribute [local irreducible] A8 Sto.set Sto.grow
section
variable {s0 s:Sto} {bp bl:Nat} {L:List Tok} {a:Nat} {o:List Ex} {d:List Int} {k:Int}
def A9h {α:Type} (s0:Sto) (bp bl:Nat) (L:List Tok) (o:List Ex) (d:List Int) (k:Int) (V:α→AV) (r:Res (α × Nat)) (v:AV) (s':Sto):Prop :=
 match r with
 | .ok (x,a')=>v=.tuple [V x,.nilIface]∧Pst s0 s' bp bl L a' o d k
 | .error x=>∃ y e a',v=.tuple [V y,e]∧C3k x e∧Pst s0 s' bp bl L a' o d k
def C6v (s0:Sto) (bp bl:Nat) (L:List Tok) (o:List Ex) (d:List Int) (k:Int) (r:Res Nat) (v:AV) (s':Sto):Prop :=
 match r with
 | .ok a'=>v=.nilIface∧Pst s0 s' bp bl L a' o d k
 | .error x=>∃ a',C3k x v∧Pst s0 s' bp bl L a' o d k
theorem A6y (hP:Pst s0 s bp bl L a o d k) (hL:L.length≤100000) (ha:a≤90000) :
  A2 Tryz.prog Γ 155 [.ptr (some ⟨bp,0,none⟩)] s (A9h s0 bp bl L o d k (fun x=>.agg (Tr.S1 x)) (X5 L a)):=by
 have hw:IntKind.i64.wrap ((a:Int)+1)=((a+1:Nat):Int):=D5 (by omega) (by omega) (by omega)
 have htok:∃ p1 p2 p3 p4,E5 L a=(p1,p2,p3,p4):=⟨_,_,_,_,rfl⟩
 obtain ⟨p1,p2,p3,p4,hp⟩:=htok
 refine acs Tryz.func155 ?_
 conv=>whnf
 intro b2 hb2
 conv=>whnf
 obtain ⟨m1,m2⟩:=hP.nb hb2
 have c2:s0.bx b2=none:=hP.sub.none hb2
 have hP2:=hP.box hb2 24 [.str [],.int .i64 0,.int .i64 0]
 have hb2':(s.set b2 24 [.str [],.int .i64 0,.int .i64 0]).bx b2=some (24,[.str [],.int .i64 0,.int .i64 0]):=A3
 have hpk2:=B5j (Γ:=Γ) hP2.pl (by omega) (by omega)
 rw [hp] at hpk2
 simp only [A26] at hpk2
 obtain ⟨t1',t2',hb0',_⟩:=hP2.pr
 generalize s.set b2 24 [.str [],.int .i64 0,.int .i64 0]=sa at *
 refine wp ?_;(refine A2.by hpk2 ?_;rintro _ s4 ⟨rfl,hs4⟩;subst s4);refine wp ?_
 intro b4 hb4
 obtain ⟨m3,m4⟩:=hP2.nb hb4
 have n_b2_b4:b2≠b4:=A1 hb2' hb4
 have hPb:=(hP2.box hb4 241 [.int .i64 0,.str [],.int .i64 0,.int .i64 0]).put (hP2.sub.none hb4) m3 m4 241 (A26 (p1,p2,p3,p4))
 have hb2b:((sa.set b4 241 [.int .i64 0,.str [],.int .i64 0,.int .i64 0]).set b4 241 (A26 (p1,p2,p3,p4))).bx b2=some (24,[.str [],.int .i64 0,.int .i64 0]):=((A4 n_b2_b4).trans (A4 n_b2_b4)).trans hb2'
 have hb4b:((sa.set b4 241 [.int .i64 0,.str [],.int .i64 0,.int .i64 0]).set b4 241 (A26 (p1,p2,p3,p4))).bx b4=some (241,A26 (p1,p2,p3,p4)):=A3
 conv=>whnf
 repeat' ((first|exact pru|(refine brS (fun h=>?_) (fun h=>?_)<;>(try rw [h])<;>(try simp only [bS,↓reduceIte] at h))|refine A5 ?_|refine gS ?_|refine aA ?_|refine nA ?_|fail)<;>(conv=>whnf))
 all_goals (
  simp only [A26] at hPb hb2b hb4b
  generalize (sa.set b4 241 _).set b4 241 _=sb at *
  obtain ⟨u1,u2,hbb,_⟩:=hPb.pr)
 ·have e:X5 L a=A45 L a 16:=by unfold X5;rw [hp];exact if_pos (.inl (by assumption))
  refine A2.by (B4q hPb (by omega) (by omega) 16) ?_
  rintro _ s9 ⟨rfl,hs9⟩;subst s9
  refine wp ?_
  refine ⟨_,Sub.refl _,?_⟩
  rw [e]
  exact ⟨(([],0,0):Tr.Idn),_,_,rfl,A7z L a 16,hPb.put c2 m1 m2 _ _⟩
 refine wp ?_
 ·have e:X5 L a=A45 L a 16:=by unfold X5;rw [hp];exact if_pos (.inr (by assumption))
  refine A2.by (B4q hPb (by omega) (by omega) 16) ?_
  rintro _ s9 ⟨rfl,hs9⟩;subst s9
  refine wp ?_
  refine ⟨_,Sub.refl _,?_⟩
  rw [e]
  exact ⟨(([],0,0):Tr.Idn),_,_,rfl,A7z L a 16,hPb.put c2 m1 m2 _ _⟩
 ·have e:X5 L a=.ok ((p2,p3,p4),a+1):=by
   unfold X5;rw [hp]
   exact if_neg (fun h=>h.elim (by first|omega|assumption|(intro h;contradiction)) (by assumption))
  repeat' ((first|exact pru|(refine brS (fun h=>?_) (fun h=>?_)<;>(try rw [h])<;>(try simp only [bS,↓reduceIte] at h))|(refine B5 hbb ?_)|(refine B5 hPb.pl ?_)|(rw [hw])|(refine B5 ((A4 m4).trans hb4b) ?_)|(refine B5 ((A4 m2).trans hb2b) ?_)|refine gS ?_|refine aA ?_|refine nA ?_|fail)<;>(conv=>whnf))
  refine ⟨_,Sub.refl _,?_⟩
  rw [e]
  exact ⟨rfl,(hPb.next (a+1)).put c2 m1 m2 _ _⟩
theorem C4x {x:Tr.Idn} {a1:Nat} (h:X5 L a=.ok (x,a1)):a1=a+1:=by
 unfold X5 at h
 split at h
 ·cases h
 ·cases h;rfl
theorem B76 (hP:Pst s0 s bp bl L a o d k) (hL:L.length≤100000) (ha:a≤90000) (ws:List (List UInt8)) (hws:ws.length≤100) (tk:Nat) :
  A2 Tryz.prog Γ 153 [.ptr (some ⟨bp,0,none⟩),.slice tk (J5 ws)] s (C6v s0 bp bl L o d k (R6 L ws a)):=by
 have hsl:(J5 ws).length=ws.length:=by simp [J5]
 refine acs Tryz.func153 ?_
 refine wp ?_
 refine AWp.loopA [9] [10,11,12,6,13,14,15,16,17,18,4,19] (fun i:Nat=>[.int .i64 (i:Int)]) (fun i s'=>i≤ws.length∧Pst s0 s' bp bl L (a+i) o d k∧R6 L ws a=R6 L (ws.drop i) (a+i)) (fun i=>ws.length - i) (0) (by kernel_rfl) (eqa) ?_ ?_
 ·exact ⟨Nat.zero_le _,hP,rfl⟩
 ·rintro x i s' ⟨hi,hPi,hq⟩
  show awp _ _ _ _ _ (updL _ _ [.int .i64 (i:Int)]) _
  conv=>whnf
  have hw2:IntKind.i64.wrap ((i:Int)+1)=((i+1:Nat):Int):=D5 (by omega) (by omega) (by omega)
  rw [hq]
  by_cases hlt:i < ws.length
  ·have hg:(J5 ws).getD ((i:Int)).toNat []=[.str (ws.getD i [])]:=by simp [J5,List.getD,hlt]
   have hd:ws.drop i=ws.getD i []::ws.drop (i+1):=by rw [List.drop_eq_getElem_cons hlt];simp [List.getD,hlt]
   rw [hd] at hq ⊢
   generalize ws.getD i []=w at *
   have htk:=A9c (Γ:=Γ) hPi (by omega) (by omega) w
   cases hi1:isF L (a+i) w
   ·have e:R6 L (w::ws.drop (i+1)) (a+i)=A45 L (a+i) 16:=by rw [R6,hi1,if_neg (by decide)]
    rw [hi1] at htk
    simp only [Bool.false_eq_true,if_false] at htk
    refine wp ?_;(refine A2.by htk ?_;rintro _ s2 ⟨rfl,hP2⟩);refine wp ?_;(refine A2.by (B4q (by assumption) (by omega) (by omega) 16) ?_;rintro _ s3 ⟨rfl,hs3⟩;subst s3);refine wp ?_
    refine ⟨_,Sub.refl _,?_⟩
    rw [e]
    exact ⟨a+i,A7z L (a+i) 16,hP2⟩
   ·have e:R6 L (w::ws.drop (i+1)) (a+i)=R6 L (ws.drop (i+1)) (a+i+1):=by rw [R6,hi1,if_pos rfl]
    rw [hi1] at htk
    simp only [if_true] at htk
    refine wp ?_;(refine A2.by htk ?_;rintro _ s2 ⟨rfl,hP2⟩);refine wp ?_;(rw [hw2]);refine wp ?_
    exact ⟨i+1,eqa,B8,⟨hlt,hP2,e⟩,by omega⟩
  ·obtain rfl:i=ws.length:=by omega
   rw [List.drop_length]
   refine wp ?_
   exact ⟨_,Sub.refl _,rfl,hPi⟩
end
section
variable {s0 s:Sto} {bp bl:Nat} {L:List Tok} {a:Nat} {o:List Ex} {d:List Int} {k:Int}
theorem C04:∀ {ws:List (List UInt8)} {a a2:Nat},R6 L ws a=.ok a2→a2=a+ws.length
 | [],a,a2,h=>by cases h;rfl
 | w::r,a,a2,h=>by
  rw [R6] at h
  split at h
  ·have:=C04 h
   rw [List.length_cons];omega
  ·cases h
end
section
variable {s0 s:Sto} {bp bl:Nat} {L:List Tok} {a:Nat} {o:List Ex} {d:List Int} {k:Int}
theorem B1u (hP:Pst s0 s bp bl L a o d k) (hL:L.length≤100000) (ha:a≤80000) (nx:Bool) :
  A2 Tryz.prog Γ 171 [.ptr (some ⟨bp,0,none⟩),.bool nx] s (A9h s0 bp bl L o d k (fun x=>.agg (Tr.stA x)) (D6 L nx a)):=by
 refine acs Tryz.func171 ?_
 conv=>whnf
 intro b4 hb4
 conv=>whnf
 obtain ⟨m1,m2⟩:=hP.nb hb4
 have c4:s0.bx b4=none:=hP.sub.none hb4
 have hP4:=hP.box hb4 50 [.str [],.int .i64 0,.int .i64 0,.bool false,.bool false]
 have hb4':(s.set b4 50 [.str [],.int .i64 0,.int .i64 0,.bool false,.bool false]).bx b4=some (50,[.str [],.int .i64 0,.int .i64 0,.bool false,.bool false]):=A3
 generalize s.set b4 50 [.str [],.int .i64 0,.int .i64 0,.bool false,.bool false]=sa at *
 have hn:=A6y (Γ:=Γ) (hP4.keep hb4' m1 m2) hL (by omega)
 refine wp ?_
 refine A2.by hn ?_
 intro v s5 hv5
 unfold A9h at hv5
 rcases hnf:X5 L a with x|⟨x,a1⟩
 ·rw [hnf] at hv5
  obtain ⟨y,e,a',rfl,⟨kd,tx,rfl⟩,hP5⟩:=hv5
  refine wp ?_
  intro b6 hb6
  obtain ⟨m5,m6⟩:=hP5.nb hb6
  have c6:=hP5.sub.none hb6
  have hP6:=(hP5.box hb6 24 [.str [],.int .i64 0,.int .i64 0]).put c6 m5 m6 24 (Tr.S1 y)
  have hb6':((s5.set b6 24 [.str [],.int .i64 0,.int .i64 0]).set b6 24 (Tr.S1 y)).bx b6=some (24,Tr.S1 y):=A3
  obtain ⟨hP7,hb7⟩:=hP6.drop c4
  conv=>whnf
  repeat' ((first|exact pru|(refine brS (fun h=>?_) (fun h=>?_)<;>(try rw [h])<;>(try simp only [bS,↓reduceIte] at h))|(refine AWp.anyL (id:=2) [] [19] 6 b6 (by kernel_rfl) (by kernel_rfl) (by kernel_rfl) (by kernel_rfl) ?_)|(refine ⟨.inl ⟨_,rfl,rfl⟩,?_⟩)|(refine ⟨trivial,?_⟩)|(refine B5 hb6' ?_)|(refine B5 hb7 ?_)|refine gS ?_|refine aA ?_|refine nA ?_|fail)<;>(conv=>whnf))
  refine ⟨_,Sub.refl _,?_⟩
  unfold D6
  rw [hnf]
  exact ⟨(y,nx,false),_,_,rfl,⟨kd,tx,rfl⟩,hP7.put c4 m1 m2 _ _⟩
 ·rw [hnf] at hv5
  obtain ⟨rfl,hP5⟩:=hv5
  have ha1:=C4x hnf
  refine wp ?_
  intro b6 hb6
  obtain ⟨m5,m6⟩:=hP5.nb hb6
  have c6:=hP5.sub.none hb6
  have hP6:=(hP5.box hb6 24 [.str [],.int .i64 0,.int .i64 0]).put c6 m5 m6 24 (Tr.S1 x)
  have hb6':((s5.set b6 24 [.str [],.int .i64 0,.int .i64 0]).set b6 24 (Tr.S1 x)).bx b6=some (24,Tr.S1 x):=A3
  have htk:=A9c (Γ:=Γ) (hP6.keep hb6' m5 m6) (by omega) (by omega) B5x
  conv=>whnf
  repeat' ((first|exact pru|(refine brS (fun h=>?_) (fun h=>?_)<;>(try rw [h])<;>(try simp only [bS,↓reduceIte] at h))|(refine AWp.anyL (id:=2) [] [19] 6 b6 (by kernel_rfl) (by kernel_rfl) (by kernel_rfl) (by kernel_rfl) ?_)|(refine ⟨.inl ⟨_,rfl,rfl⟩,?_⟩)|(refine ⟨trivial,?_⟩)|(refine B5 hb6' ?_)|(refine A2.by htk ?_;rintro _ s7 ⟨rfl,hP7⟩)|refine gS ?_|refine aA ?_|refine nA ?_|fail)<;>(conv=>whnf))
  obtain ⟨hP7b,hb7⟩:=hP7.drop c6
  obtain ⟨hP8,hb8⟩:=hP7b.drop c4
  refine ⟨hb7.trans hb6'.symm,?_⟩
  conv=>whnf
  repeat' ((first|exact pru|(refine brS (fun h=>?_) (fun h=>?_)<;>(try rw [h])<;>(try simp only [bS,↓reduceIte] at h))|(refine ⟨trivial,?_⟩)|(refine B5 hb8 ?_)|refine gS ?_|refine aA ?_|refine nA ?_|fail)<;>(conv=>whnf))
  refine ⟨_,Sub.refl _,?_⟩
  unfold D6
  simp only [hnf]
  exact ⟨rfl,hP8.put c4 m1 m2 _ _⟩
end
section
variable {s1 s:Sto} {bp bl:Nat} {L:List Tok} {a:Nat} {o:List Ex} {d:List Int} {k:Int}
abbrev D2c (s1:Sto):={t:Nat // t=1∨∀ e k,¬ s1.lv t e k}
end
end Go.Proofs.YtaammejliikieaaGreatDoor.Pa
namespace Go.Proofs.YtaammejliikieaaGreatDoor.Pa
open Go Go.Ab Go.RowKit Go.Proofs.YtaammejliikieaaGreatDoor.Lx
theorem _root_.Go.Ab.Sto.grow_one (s:Sto) (e:TypeId) (m:Nat):s.grow 1 1 e m=s:=by
 unfold Sto.grow
 cases s with
 | mk bx lv mp fin =>
  simp only [Sto.mk.injEq,true_and,and_true]
  funext u e' k'
  simp
section
variable {s0 s7:Sto} {bp bl:Nat} {L:List Tok} {a:Nat} {o:List Ex} {d:List Int} {k:Int}
def A5v (s0:Sto) (t:Nat) (e:TypeId) (m:Nat):Sto:=s0.grow 1 t e m
theorem C76 {c:Nat} {t:Nat} {e:TypeId} {m:Nat}:(A5v s0 t e m).bx c=s0.bx c:=rfl
theorem A1l {t:Nat} {e:TypeId} {m u:Nat} {e':TypeId} {k':Nat}:(A5v s0 t e m).lv u e' k'↔(u=t∧t≠1∧e'=e∧k'=m)∨s0.lv u e' k':=by
 unfold A5v Sto.grow
 simp
theorem C5r {e:TypeId} {m:Nat}:A5v s0 1 e m=s0:=Sto.grow_one _ _ _
theorem B7o {t:Nat} {e:TypeId} {m:Nat}:Sub s0 (A5v s0 t e m):=⟨fun _ _ h=>h,fun _ _ _ hx=>A1l.2 (.inr hx),fun _ _ h=>h⟩
theorem B09 {t t':Nat} {e:TypeId} {m:Nat} {z:Bool} {u:Nat} {eu:TypeId} {mu:Nat} (h:Own (A5v s0 t e m) s7 z u eu mu) (ht:t=1∨∀ e k,¬ s0.lv t e k) (k2:t'≠t→∀ e' k',¬ s7.lv t' e' k') :
  Own (A5v s0 t' e m) (s7.grow t t' e m) z u eu mu:=by
 refine ⟨⟨fun c x hx=>h.sub.bx c x hx,fun v e' k' hx=>?_,fun c x hx=>h.sub.mp c x hx⟩,?_⟩
 ·show (v=t'∧t'≠1∧e'=e∧k'=m)∨(s7.lv v e' k'∧(v≠t∨t=1))
  rcases A1l.1 hx with hx|hx
  ·exact .inl hx
  ·refine .inr ⟨h.sub.lv _ _ _ (A1l.2 (.inr hx)),?_⟩
   rcases ht with ht|ht
   ·exact .inr ht
   ·exact .inl fun hv=>ht _ _ (hv ▸ hx)
 ·rcases h.own with h1|⟨h1,h2,h3⟩
  ·exact .inl h1
  ·have n1:u≠t:=fun hu=>h3 e m (A1l.2 (.inl ⟨hu,fun ht1=>h1 (hu.trans ht1),rfl,rfl⟩))
   have n2:u≠t':=fun hu=>by
    by_cases htt:t'=t
    ·exact n1 (hu.trans htt)
    ·exact k2 htt _ _ (hu ▸ h2)
   refine .inr ⟨h1,.inr ⟨h2,.inl n1⟩,fun e' k' hx=>?_⟩
   rcases A1l.1 hx with hx|hx
   ·exact n2 hx.1
   ·exact h3 _ _ (A1l.2 (.inr hx))
theorem Pst.grownS {t t':Nat} {e:TypeId} {m:Nat} (hP:Pst (A5v s0 t e m) s7 bp bl L a o d k) (ht:t=1∨∀ e k,¬ s0.lv t e k) (k2:t'≠t→∀ e' k',¬ s7.lv t' e' k') :
  Pst (A5v s0 t' e m) (s7.grow t t' e m) bp bl L a o d k∧(t'=1∨∀ e k,¬ s0.lv t' e k):=by
 obtain ⟨np,nl,ne,⟨t1,t2,e1,e2,e3,e4⟩,pl⟩:=hP
 refine ⟨⟨np,nl,ne,⟨t1,t2,e1,B09 e2 ht k2,B09 e3 ht k2,e4⟩,pl⟩,?_⟩
 by_cases htt:t'=t
 ·rw [htt];exact ht
 ·exact .inr fun e' k' hx=>k2 htt _ _ (e2.sub.lv _ _ _ (A1l.2 (.inr hx)))
theorem Pst.dropS {t:Nat} {e:TypeId} {m:Nat} (hP:Pst (A5v s0 t e m) s7 bp bl L a o d k):Pst s0 s7 bp bl L a o d k∧(t=1∨s7.lv t e m):=by
 obtain ⟨np,nl,ne,⟨t1,t2,e1,e2,e3,e4⟩,pl⟩:=hP
 refine ⟨⟨np,nl,ne,⟨t1,t2,e1,e2.of_sub B7o,e3.of_sub B7o,e4⟩,pl⟩,?_⟩
 by_cases h:t=1
 ·exact .inl h
 ·exact .inr (e2.sub.lv _ _ _ (A1l.2 (.inl ⟨rfl,h,rfl,rfl⟩)))
theorem Pst.mayS {t:Nat} {e:TypeId} {m:Nat} (hP:Pst (A5v s0 t e m) s7 bp bl L a o d k):t=1∨s7.lv t e m:=hP.dropS.2
end
end Go.Proofs.YtaammejliikieaaGreatDoor.Pa
namespace Go.Proofs.YtaammejliikieaaGreatDoor.Pa
open Go Go.Ab Go.RowKit Go.Proofs.YtaammejliikieaaGreatDoor.Lx
variable {Γ:Nat→AV}
theorem _root_.Go.Ab.Le.tuple {l m:List AV} (h:LeL l m):Le (.tuple l) (.tuple m):=fun G w v hr=>by
 unfold R at hr ⊢
 obtain ⟨us,rfl,h2⟩:=hr
 exact ⟨us,rfl,h.run h2⟩
theorem _root_.Go.Ab.Le.agg {l m:List AV} (h:LeL l m):Le (.agg l) (.agg m):=fun G w v hr=>by
 unfold R at hr ⊢
 obtain ⟨us,rfl,h2⟩:=hr
 exact ⟨us,rfl,h.run h2⟩
attribute [local irreducible] A8 Sto.set Sto.grow
section
variable {s0 s:Sto} {bp bl:Nat} {L:List Tok} {a:Nat} {o:List Ex} {d:List Int} {k:Int}
def D2p {α:Type} (s0:Sto) (bp bl:Nat) (L:List Tok) (o:List Ex) (d:List Int) (k:Int) (V:Nat→α→AV) (r:Res (α × Nat)) (v:AV) (s':Sto):Prop :=
 match r with
 | .ok (x,a')=>(∃ t,v=.tuple [V t x,.nilIface])∧Pst s0 s' bp bl L a' o d k
 | .error x=>∃ t y e a',v=.tuple [V t y,e]∧C3k x e∧Pst s0 s' bp bl L a' o d k
theorem C5b {α:Type} {f:FuncId} {args:List AV} {V:Nat→α→AV} {U:α→AV} {r:Res (α × Nat)} (hV:∀ t x,Le (V t x) (U x)) (h:A2 Tryz.prog Γ f args s (D2p s0 bp bl L o d k V r)) :
  A2 Tryz.prog Γ f args s (A9h s0 bp bl L o d k U r):=by
 refine h.less fun v s' hv=>?_
 rcases r with z|⟨x,a'⟩
 ·obtain ⟨t,y,e,a',rfl,he,hP⟩:=hv
  exact ⟨.tuple [U y,e],s',Le.tuple (LeL.cons (hV t y) (LeL.cons (Le.refl _) LeL.nil)),R7.refl _,y,e,a',rfl,he,hP⟩
 ·obtain ⟨⟨t,rfl⟩,hP⟩:=hv
  exact ⟨.tuple [U x,.nilIface],s',Le.tuple (LeL.cons (hV t x) (LeL.cons (Le.refl _) LeL.nil)),R7.refl _,rfl,hP⟩
theorem B5a {x:Tr.Idn} {a1:Nat} (h:X5 L a=.ok (x,a1)):a1=a+1∧a < L.length:=by
 refine ⟨C4x h,?_⟩
 unfold X5 at h
 split at h
 ·cases h
 ·rename_i hn
  have hk:(E5 L a).1=1:=Decidable.not_not.1 fun h=>hn (.inl h)
  exact C7q (by rw [hk];decide)
end
end Go.Proofs.YtaammejliikieaaGreatDoor.Pa
namespace Go.Proofs.YtaammejliikieaaGreatDoor.Pa
open Go Go.Ab Go.RowKit Go.Proofs.YtaammejliikieaaGreatDoor.Lx
variable {Γ:Nat→AV}
attribute [local irreducible] A8 Sto.set Sto.grow
section
variable {s0 s:Sto} {bp bl:Nat} {L:List Tok} {a:Nat} {o:List Ex} {d:List Int} {k:Int}
theorem A39 {ws:List (List UInt8)} {i:Nat} (hlt:i < ws.length) (h:isF L a (ws.getD i [])=true):G3 L a (ws.drop i)=0:=by
 rw [List.drop_eq_getElem_cons hlt,G3]
 rw [show ws.getD i []=ws[i] by simp [List.getD,hlt]] at h
 rw [if_pos h]
theorem A1a {ws:List (List UInt8)} {i:Nat} (hlt:i < ws.length) (h:isF L a (ws.getD i [])=false):G3 L a (ws.drop i)=G3 L a (ws.drop (i+1))+1:=by
 rw [List.drop_eq_getElem_cons hlt,G3]
 rw [show ws.getD i []=ws[i] by simp [List.getD,hlt]] at h
 rw [if_neg (by rw [h];decide)]
theorem A37 {ws:List (List UInt8)} {i:Nat} (hlt:i < ws.length):(J5 ws).getD ((i:Int)).toNat []=[.str (ws.getD i [])]:=by simp [J5,List.getD,hlt]
theorem sl0 {α:Type} {A:α→List AV} (t:Nat) (l:List α):Le (.slice t (l.map A)) (.slice 0 (l.map A)):=Le.slice0 _ _
theorem C2c {one:Nat→Nat→Res (Tr.St × Nat)} {n:FuncId} {cs:List AV} (hn:A6a Tryz.prog n=true) (ws:List (List UInt8)) (hws:ws.length≤100) (tk:Nat)
  (hmono:∀ i a x a1,one i a=.ok (x,a1)→a≤a1∧a1≤L.length)
  (hone:∀ (i a t:Nat) (s:Sto),i < ws.length→a≤66000→Pst (A5v s0 t 50 5) s bp bl L a o d k→A2 Tryz.prog Γ n (.int .i64 i::cs) s (A9h (A5v s0 t 50 5) bp bl L o d k (fun x=>.agg ((Tr.stA) x)) (one i a)))
  (hP:Pst s0 s bp bl L a o d k) (hL:L.length≤66000) (ha:a≤67000) :
  A2 Tryz.prog Γ 169 [.ptr (some ⟨bp,0,none⟩),.slice tk (J5 ws),.func (.func n) [] cs] s (A9h s0 bp bl L o d k (fun l=>.slice 0 (l.map (Tr.stA))) (A30 L ws one a)):=by
 refine C5b (V:=fun t l=>.slice t (l.map (Tr.stA))) (fun t l=>sl0 t l) ?_
 have hsl:(J5 ws).length=ws.length:=by simp [J5]
 unfold A30
 refine acs Tryz.func169 ?_
 refine wp ?_
 refine AWp.loopA [8] [9,12,13,14,15,16,17,18,19,20,21,22,23,24,25,26,27,28,29,30,31,6,7,33,34,35,32,36,37,10,11,38,39,40,41,42,43,44] (fun q:List (Tr.St) × Nat × D2c s0=>[.slice q.2.2.1 (q.1.map (Tr.stA))]) (fun q s'=>q.2.1≤67000∧q.1.length≤q.2.1∧Pst (A5v s0 q.2.2.1 50 5) s' bp bl L q.2.1 o d k∧∃ m,L.length - q.2.1 < m∧A1g L ws one (L.length+1) [] a=A1g L ws one m q.1 q.2.1) (fun q=>L.length - q.2.1) (([],a,⟨1,.inl rfl⟩)) (by kernel_rfl) (rfl) ?_ ?_
 ·exact ⟨ha,Nat.zero_le _,by simp only [C5r];exact hP,L.length+1,by simp only;omega,rfl⟩
 ·rintro y ⟨acc,b,t⟩ s7 ⟨hb,hac,hP7,m,hm,hq⟩
  simp only at hb hac hP7 hm hq
  rw [hq]
  clear hq
  obtain ⟨m,rfl⟩:∃ m',m=m'+1:=⟨m - 1,by omega⟩
  show awp _ _ _ _ _ (updL _ _ [.slice t.1 (acc.map (Tr.stA))]) _
  refine wp ?_
  refine AWp.loopA [9] [12,13,14,15,16,17,18,19,20,21,22,23,24,25,26] (fun i:Nat=>[.int .i64 (i:Int)]) (fun i s'=>i≤ws.length∧Pst (A5v s0 t.1 50 5) s' bp bl L b o d k∧G3 L b ws=i+G3 L b (ws.drop i)) (fun i=>ws.length - i) (0) (by kernel_rfl) (eqa) ?_ ?_
  ·exact ⟨Nat.zero_le _,hP7,by rw [List.drop_zero,Nat.zero_add]⟩
  ·rintro y2 i s8 ⟨hi,hP8,hw⟩
   show awp _ _ _ _ _ (updL _ _ [.int .i64 (i:Int)]) _
   conv=>whnf
   by_cases hlt:i < ws.length
   ·have hg:=A37 hlt
    have hw2:IntKind.i64.wrap ((i:Int)+1)=((i+1:Nat):Int):=D5 (by omega) (by omega) (by omega)
    cases h1:isF L b (ws.getD i [])
    ·have hpast:=A1a hlt h1
     generalize ws.getD i []=w at *
     have htk:=A9c (Γ:=Γ) hP8 (by omega) (by omega) w
     rw [h1] at htk
     simp only [Bool.false_eq_true,if_false] at htk
     refine wp ?_;(refine A2.by htk ?_;rintro _ s9 ⟨rfl,hP9⟩);refine wp ?_;(rw [hw2]);refine wp ?_
     exact ⟨i+1,eqa,B8,⟨hlt,hP9,by omega⟩,by omega⟩
    ·have hat:=A39 hlt h1
     have hlt2:=B86 h1
     rw [hat,Nat.add_zero] at hw
     generalize ws.getD i []=w at *
     have htk:=A9c (Γ:=Γ) hP8 (by omega) (by omega) w
     rw [h1] at htk
     simp only [if_true] at htk
     repeat' ((first|exact pru|(refine brS (fun h=>?_) (fun h=>?_)<;>(try rw [h])<;>(try simp only [bS,↓reduceIte] at h))|refine ⟨D3 (hg) rfl,Go.Ab.C5 (hg) ?_⟩|(refine A2.by htk ?_;rintro _ s9 ⟨rfl,hP9⟩)|refine gS ?_|refine aA ?_|refine nA ?_|fail)<;>(conv=>whnf))
     have ho:=hone i (b+1) t.1 s9 hlt (by omega) hP9
     rotate_left
     ·rw [hn] at h;cases h
     rw [C8]
     refine A2.by ho ?_
     intro v sa hva
     unfold A9h at hva
     rcases hof:one i (b+1) with z|⟨x,b1⟩
     ·have e3:A1g L ws one (m+1) acc b=.error z:=by rw [A1g,hw,if_neg (by omega),hof]
      rw [hof] at hva
      obtain ⟨yy,e,a',rfl,⟨kd,tx,rfl⟩,hPa⟩:=hva
      refine wp ?_
      intro bq hbq
      have hPb:=(hPa.box hbq 50 [.str [],.int .i64 0,.int .i64 0,.bool false,.bool false])
      obtain ⟨m5,m6⟩:=hPa.nb hbq
      have hPc:=hPb.put (hPa.sub.none hbq) m5 m6 50 ((Tr.stA) yy)
      refine wp ?_
      refine ⟨_,Sub.refl _,?_⟩
      rw [e3]
      exact ⟨1,[],_,_,rfl,⟨kd,tx,rfl⟩,hPc.dropS.1⟩
     ·have e3:A1g L ws one (m+1) acc b=A1g L ws one m (acc++[x]) b1:=by rw [A1g,hw,if_neg (by omega),hof]
      obtain ⟨g1,g2⟩:=hmono _ _ _ _ hof
      rw [hof] at hva
      obtain ⟨rfl,hPa⟩:=hva
      refine wp ?_
      intro bq hbq
      have hPb:=(hPa.box hbq 50 [.str [],.int .i64 0,.int .i64 0,.bool false,.bool false])
      obtain ⟨m5,m6⟩:=hPa.nb hbq
      have hPc:=hPb.put (hPa.sub.none hbq) m5 m6 50 ((Tr.stA) x)
      refine wp ?_
      refine ⟨hPc.mayS,fun c hc=>by obtain ⟨z,_,rfl⟩:=List.mem_map.1 hc;rfl,all_cons ⟨rfl,rfl⟩ C3,?_,?_⟩
      ·show ((acc.map (Tr.stA)).length+1) * (_+1)≤_
       rw [List.length_map]
       exact Nat.le_trans (Nat.mul_le_mul_right _ (show acc.length+1≤100001 by omega)) (Nat.le_of_ble_eq_true (by kernel_rfl))
      intro t' k1 k2
      obtain ⟨hPd,hf⟩:=hPc.grownS t.2 k2
      refine wp ?_
      refine ⟨(acc++[x],b1,⟨t',hf⟩),?_,B8,⟨by simp only;omega,by simp only [List.length_append,List.length_cons,List.length_nil];omega,hPd,m,by simp only;omega,e3⟩,by simp only;omega⟩
      rw [List.map_append]
      rfl
   ·obtain rfl:i=ws.length:=by omega
    rw [List.drop_length,show G3 L b []=0 from rfl,Nat.add_zero] at hw
    have e3:A1g L ws one (m+1) acc b=.ok (acc,b):=by rw [A1g,if_pos hw]
    refine wp ?_
    refine ⟨_,Sub.refl _,?_⟩
    rw [e3]
    exact ⟨⟨t.1,rfl⟩,hP8.dropS.1⟩
end
end Go.Proofs.YtaammejliikieaaGreatDoor.Pa
namespace Go.Proofs.YtaammejliikieaaGreatDoor.Pa
open Go Go.Ab Go.RowKit Go.Proofs.YtaammejliikieaaGreatDoor.Lx
theorem C36 (c:UInt8):digB c=Nu.isD c:=by
 unfold digB A5h Nu.isD
 by_cases h1:48≤c.toNat<;>by_cases h2:c.toNat≤57<;>simp [h1,h2]<;>omega
def B9y (t:Tok):Prop:=t.2.1.length≤5000∧(t.1=3→0 < t.2.1.length∧t.2.1.all Nu.isD=true∧¬ (B0 t.2.1 0=48∧1 < t.2.1.length))
theorem C5x (l:List UInt8):(Y2 l).length≤5000:=by
 rcases A5x signsL l with h|⟨h,_⟩
 ·unfold Y2;rw [h];decide
 ·have:=(by decide:∀ x ∈ signsL,x.length≤5000)
  exact this _ h
theorem B65 {l:List UInt8} {k:Int} {t:List UInt8} (h:H0 l=.ok (k,t)) (a b:Int):B9y (k,t,a,b):=by
 unfold H0 at h
 split at h
 ·rename_i hd
  split at h
  ·rename_i hn
   cases h
   unfold A65 at hn
   split at hn
   ·cases hn
   ·rename_i hb
    split at hn
    ·cases hn
    ·rename_i h32
     refine ⟨by show l.length≤5000;omega,fun _=>⟨?_,?_,fun hh=>hb (.inr hh)⟩⟩
     ·cases l with
      | nil=>exact absurd hd (by decide)
      | cons c r=>exact Nat.succ_pos _
     ·have ha:l.all digB=true:=by
       cases hx:l.all digB
       ·exact absurd (.inl hx) hb
       ·rfl
      show l.all Nu.isD=true
      rw [← ha]
      exact congrArg l.all (funext fun c=>(C36 c).symm)
  ·cases h
 ·split at h
  ·cases h
  ·rename_i h32
   split at h
   ·cases h
    exact ⟨by show l.length≤5000;omega,fun h=>by cases h⟩
   ·cases h
    exact ⟨by show l.length≤5000;omega,fun h=>by cases h⟩
theorem C11 {l:List UInt8} {k:Int} {t:List UInt8} {n:Nat} (h:P1 l=.ok (k,t,n)) (a b:Int):B9y (k,t,a,b):=by
 unfold P1 at h
 split at h
 ·split at h
  ·cases h
  ·split at h
   ·cases h
   ·cases h
    exact ⟨by show t.length≤5000;omega,fun h=>by cases h⟩
 ·split at h
  ·split at h
   ·cases h
   ·cases h
    exact ⟨C5x l,fun h=>by cases h⟩
  ·split at h
   ·cases h
   ·rename_i hl
    cases h
    exact B65 hl a b
theorem B3j:∀ (k:Nat) (p:Int × Int) (l:List UInt8) (m:List Tok),A3d k p l=.ok m→∀ t ∈ m,B9y t
 | 0,p,l,m=>fun h=>by cases h;exact fun _ h=>nomatch h
 | k+1,p,l,m=>fun h=>by
  by_cases hl:l.drop (C7 l)=[]
  ·rw [A3z hl] at h;cases h;exact fun _ h=>nomatch h
  ·rcases he:P1 (l.drop (C7 l)) with e'|⟨kd,t,z⟩
   ·rw [A3y hl he] at h;cases h
   ·rw [A6w hl he] at h
    rcases hr:A3d k ((G8 p (l.take (C7 l))).1,(G8 p (l.take (C7 l))).2+z) ((l.drop (C7 l)).drop z) with ⟨e',a',b'⟩|m'
    ·rw [hr] at h;cases h
    ·rw [hr] at h
     have:=B3j k _ _ _ hr
     cases h
     intro x hx
     rcases List.mem_cons.1 hx with rfl|hx
     ·exact C11 he _ _
     ·exact this x hx
theorem C1c {S:List UInt8} {L:List Tok} (h:B4d S=.ok L):∀ i,B9y (L.getD i A85):=fun i=>by
 unfold B4d at h
 split at h
 ·cases h
 ·by_cases hi:i < L.length
  ·exact B3j _ _ _ _ h _ (by rw [List.getD_eq_getElem?_getD,List.getElem?_eq_getElem hi];exact List.getElem_mem hi)
  ·rw [List.getD_eq_getElem?_getD,List.getElem?_eq_none (by omega)]
   exact ⟨Nat.zero_le _,fun h=>by cases h⟩
theorem C1b {S:List UInt8} {L:List Tok} (h:B4d S=.ok L):∀ i,(E5 L i).2.1.length≤5000:=fun i=>by
 unfold E5
 split
 ·exact (C1c h i).1
 ·split<;>exact Nat.zero_le _
end Go.Proofs.YtaammejliikieaaGreatDoor.Pa
namespace Go.Proofs.YtaammejliikieaaGreatDoor.Pa
open Go Go.Ab Go.RowKit Go.Proofs.YtaammejliikieaaGreatDoor.Lx Go.Proofs.YtaammejliikieaaGreatDoor.Pr
variable {Γ:Nat→AV}
attribute [local irreducible] A8 Sto.set Sto.grow
section
variable {s0 s:Sto} {bp bl:Nat} {L:List Tok} {a:Nat} {o:List Ex} {d:List Int} {k:Int}
theorem Pst.swap {b:Nat} {T:TypeId} {cs:List AV} (hP:Pst (s0.set b T cs) s bp bl L a o d k) (hb:s0.bx b=none) (h1:b≠bp) (h2:b≠bl) (cs':List AV):Pst (s0.set b T cs') (s.set b T cs') bp bl L a o d k :=
 ((hP.drop hb).1.put hb h1 h2 T cs').keep A3 h1 h2
theorem C8q {w:List UInt8} {a2:Nat} (h:R6 L [w] a=.ok a2):a < L.length:=by
 rw [R6] at h
 split at h
 ·rename_i hi;exact B86 hi
 ·cases h
end
end Go.Proofs.YtaammejliikieaaGreatDoor.Pa
namespace Go.Proofs.YtaammejliikieaaGreatDoor.Pa
open Go Go.Ab Go.RowKit Go.Proofs.YtaammejliikieaaGreatDoor.Lx
variable {Γ:Nat→AV}
attribute [local irreducible] A8 Sto.set Sto.grow
section
variable {s0 s1 s:Sto} {bp bl:Nat} {L:List Tok} {a:Nat} {o:List Ex} {d:List Int} {k:Int}
theorem B7y {nx:Bool} {x:Tr.St} {a':Nat} (h:D6 L nx a=.ok (x,a')):a≤a'∧a'≤L.length:=by
 unfold D6 at h
 split at h
 ·cases h
 ·rename_i hn
  have:=B5a hn
  injection h with h
  injection h with h1 h2
  subst h2
  split
  ·rename_i hi
   have:=B86 hi
   omega
  ·omega
theorem B68 {α:Type} {ws:List (List UInt8)} {one:Nat→Nat→Res (α × Nat)} (hm:∀ i a x a1,one i a=.ok (x,a1)→a≤a1∧a1≤L.length):∀ (n:Nat) (acc:List α) (a:Nat) (xs:List α) (a':Nat),a≤L.length→A1g L ws one n acc a=.ok (xs,a')→a≤a'∧a'≤L.length
 | 0,_,_,_,_,h1,h=>by cases h;exact ⟨Nat.le_refl _,h1⟩
 | n+1,acc,a,xs,a',h1,h=>by
  unfold A1g at h
  split at h
  ·cases h;exact ⟨Nat.le_refl _,h1⟩
  ·split at h
   ·cases h
   ·rename_i hx
    obtain ⟨k1,k2⟩:=hm _ _ _ _ hx
    obtain ⟨g1,g2⟩:=B68 hm n _ _ _ _ k2 h
    omega
theorem C7u {α:Type} {ws:List (List UInt8)} {one:Nat→Nat→Res (α × Nat)} (hm:∀ i a x a1,one i a=.ok (x,a1)→a≤a1∧a1≤L.length) {xs:List α} {a':Nat} (h1:a≤L.length) (h:A30 L ws one a=.ok (xs,a')):a≤a'∧a'≤L.length:=B68 hm _ _ _ _ _ h1 h
def hdA (k0 k1 k2 k3 k4:Nat) (h:Head):List AV:=[.str h.name.1,.int .i64 h.name.2.1,.int .i64 h.name.2.2,.slice k0 (h.decls.map (fun x=>Tr.deA (0,x))),.slice k1 (h.quants.map Tr.quA),.slice k2 (h.frees.map Tr.frA),.slice k3 (h.states.map Tr.stA),
 .str h.start.1,.int .i64 h.start.2.1,.int .i64 h.start.2.2,.slice k4 (h.also.map (fun x=>Tr.syA (0,x))),.slice 1 []]
def hd0:Head:=⟨Tr.A62,[],[],[],[],Tr.A62,[]⟩
def C1 (L:List Tok):Nat→Head→Nat→Res (Head × Nat)
 | 0,h,a=>match R6 L [D0u] a with|.error e=>.error e|.ok a'=>.ok (h,a')
 | 1,h,a=>match X5 L a with|.error e=>.error e|.ok (x,a')=>.ok ({ h with name:=x },a')
 | 2,h,a=>match A30 L [A8l] (fun _=>H1 L) a with|.error e=>.error e|.ok (x,a')=>.ok ({ h with decls:=x },a')
 | 3,h,a=>match A30 L [A4t,A4u] (fun i=>E8 L (decide (i=1))) a with|.error e=>.error e|.ok (x,a')=>.ok ({ h with quants:=x },a')
 | 4,h,a=>match A30 L [B37] (fun _=>H4 L) a with|.error e=>.error e|.ok (x,a')=>.ok ({ h with frees:=x },a')
 | 5,h,a=>match A30 L [C6s,C6r] (fun i=>D6 L (decide (i=1))) a with|.error e=>.error e|.ok (x,a')=>.ok ({ h with states:=x },a')
 | 6,h,a=>match R6 L [B9x] a with|.error e=>.error e|.ok a'=>.ok (h,a')
 | 7,h,a=>match X5 L a with|.error e=>.error e|.ok (x,a')=>.ok ({ h with start:=x },a')
 | 8,h,a=>match A30 L [B36] (fun _=>C8k L) a with|.error e=>.error e|.ok (x,a')=>.ok ({ h with also:=x },a')
 | _,h,a=>.ok (h,a)
def D0 (L:List Tok):Nat→Nat→Head→Nat→Res (Head × Nat)
 | 0,_,h,a=>.ok (h,a)
 | n+1,i,h,a=>match C1 L i h a with|.error e=>.error e|.ok (h',a')=>D0 L n (i+1) h' a'
def P7 (s1:Sto) (b4 bp bl:Nat) (L:List Tok) (o:List Ex) (d:List Int) (k:Int) (r:Res (Head × Nat)) (v:AV) (s':Sto):Prop :=
 match r with
 | .ok (h,a')=>v=.nilIface∧a'≤L.length∧∃ k0 k1 k2 k3 k4,Pst (s1.set b4 34 (hdA k0 k1 k2 k3 k4 h)) s' bp bl L a' o d k
 | .error x=>C3k x v∧∃ h k0 k1 k2 k3 k4 a',Pst (s1.set b4 34 (hdA k0 k1 k2 k3 k4 h)) s' bp bl L a' o d k
theorem B75 {w:List UInt8} {a2:Nat} (h:R6 L [w] a=.ok a2):a2≤L.length:=by
 have h1:=C04 h
 have h2:=C8q h
 simp only [List.length_cons,List.length_nil] at h1
 omega
theorem C56 {b1 b4:Nat} (c4:s1.bx b4=none) (hb1:s1.bx b1=some (177,[.ptr (some ⟨bp,0,none⟩)])) (n1:b4≠bp) (n2:b4≠bl) (hL:L.length≤66000) (hla:a≤L.length) {h:Head} {k0 k1 k2 k3 k4:Nat}
  (hP:Pst (s1.set b4 34 (hdA k0 k1 k2 k3 k4 h)) s bp bl L a o d k) :
  A2 Tryz.prog Γ 152 [.ptr (some ⟨b1,0,none⟩)] s (P7 s1 b4 bp bl L o d k (C1 L 0 h a)):=by
 have n14:b1≠b4:=fun h=>by subst h;rw [c4] at hb1;cases hb1
 have g1:=hP.sub.bx _ _ ((A4 n14).trans hb1)
 have hw:=B76 (Γ:=Γ) hP (by omega) (by omega) [D0u] (by decide) 1
 refine acs Tryz.func152 ?_
 refine wp ?_
 refine A2.by hw ?_
 intro v s7 hv7
 unfold C6v at hv7
 rcases hwf:R6 L [D0u] a with z|a2
 ·rw [hwf] at hv7
  obtain ⟨a',⟨kd,tx,rfl⟩,hP7⟩:=hv7
  refine wp ?_
  refine ⟨_,Sub.refl _,?_⟩
  rw [show C1 L 0 h a=.error z by simp only [C1,hwf]]
  exact ⟨⟨kd,tx,rfl⟩,h,_,_,_,_,_,a',hP7⟩
 ·rw [hwf] at hv7
  obtain ⟨rfl,hP7⟩:=hv7
  refine wp ?_
  refine ⟨_,Sub.refl _,?_⟩
  rw [show C1 L 0 h a=.ok (h,a2) by simp only [C1,hwf]]
  exact ⟨rfl,B75 hwf,_,_,_,_,_,hP7⟩
theorem C59 {b1 b4:Nat} (c4:s1.bx b4=none) (hb1:s1.bx b1=some (177,[.ptr (some ⟨bp,0,none⟩)])) (n1:b4≠bp) (n2:b4≠bl) (hL:L.length≤66000) (hla:a≤L.length) {h:Head} {k0 k1 k2 k3 k4:Nat}
  (hP:Pst (s1.set b4 34 (hdA k0 k1 k2 k3 k4 h)) s bp bl L a o d k) :
  A2 Tryz.prog Γ 172 [.ptr (some ⟨b1,0,none⟩)] s (P7 s1 b4 bp bl L o d k (C1 L 6 h a)):=by
 have n14:b1≠b4:=fun h=>by subst h;rw [c4] at hb1;cases hb1
 have g1:=hP.sub.bx _ _ ((A4 n14).trans hb1)
 have hw:=B76 (Γ:=Γ) hP (by omega) (by omega) [B9x] (by decide) 1
 refine acs Tryz.func172 ?_
 refine wp ?_
 refine A2.by hw ?_
 intro v s7 hv7
 unfold C6v at hv7
 rcases hwf:R6 L [B9x] a with z|a2
 ·rw [hwf] at hv7
  obtain ⟨a',⟨kd,tx,rfl⟩,hP7⟩:=hv7
  refine wp ?_
  refine ⟨_,Sub.refl _,?_⟩
  rw [show C1 L 6 h a=.error z by simp only [C1,hwf]]
  exact ⟨⟨kd,tx,rfl⟩,h,_,_,_,_,_,a',hP7⟩
 ·rw [hwf] at hv7
  obtain ⟨rfl,hP7⟩:=hv7
  refine wp ?_
  refine ⟨_,Sub.refl _,?_⟩
  rw [show C1 L 6 h a=.ok (h,a2) by simp only [C1,hwf]]
  exact ⟨rfl,B75 hwf,_,_,_,_,_,hP7⟩
theorem C57 {b1 b4:Nat} (c4:s1.bx b4=none) (hb1:s1.bx b1=some (177,[.ptr (some ⟨bp,0,none⟩)])) (n1:b4≠bp) (n2:b4≠bl) (hL:L.length≤66000) (hla:a≤L.length) {h:Head} {k0 k1 k2 k3 k4:Nat}
  (hP:Pst (s1.set b4 34 (hdA k0 k1 k2 k3 k4 h)) s bp bl L a o d k) :
  A2 Tryz.prog Γ 154 [.ptr (some ⟨b1,0,none⟩),.ptr (some ⟨b4,0,none⟩)] s (P7 s1 b4 bp bl L o d k (C1 L 1 h a)):=by
 have n14:b1≠b4:=fun h=>by subst h;rw [c4] at hb1;cases hb1
 have g1:=hP.sub.bx _ _ ((A4 n14).trans hb1)
 have hw:=A6y (Γ:=Γ) hP (by omega) (by omega)
 refine acs Tryz.func154 ?_
 refine wp ?_
 refine A2.by hw ?_
 intro v s7 hv7
 unfold A9h at hv7
 rcases hwf:X5 L a with z|⟨x,a2⟩
 ·rw [hwf] at hv7
  obtain ⟨y,e,a',rfl,⟨kd,tx,rfl⟩,hP7⟩:=hv7
  have hq4:=(Pst.drop hP7 c4).2
  have hP8:=hP7.swap c4 n1 n2 (hdA k0 k1 k2 k3 k4 { h with name:=y })
  simp only [hdA] at hq4
  refine wp ?_
  refine ⟨_,Sub.refl _,?_⟩
  rw [show C1 L 1 h a=.error z by simp only [C1,hwf]]
  exact ⟨⟨kd,tx,rfl⟩,{ h with name:=y },_,_,_,_,_,a',hP8⟩
 ·rw [hwf] at hv7
  obtain ⟨rfl,hP7⟩:=hv7
  have hq4:=(Pst.drop hP7 c4).2
  have hP8:=hP7.swap c4 n1 n2 (hdA k0 k1 k2 k3 k4 { h with name:=x })
  simp only [hdA] at hq4
  refine wp ?_
  refine ⟨_,Sub.refl _,?_⟩
  rw [show C1 L 1 h a=.ok ({ h with name:=x },a2) by simp only [C1,hwf]]
  exact ⟨rfl,by have:=B5a hwf;omega,_,_,_,_,_,hP8⟩
theorem C6a {b1 b4:Nat} (c4:s1.bx b4=none) (hb1:s1.bx b1=some (177,[.ptr (some ⟨bp,0,none⟩)])) (n1:b4≠bp) (n2:b4≠bl) (hL:L.length≤66000) (hla:a≤L.length) {h:Head} {k0 k1 k2 k3 k4:Nat}
  (hP:Pst (s1.set b4 34 (hdA k0 k1 k2 k3 k4 h)) s bp bl L a o d k) :
  A2 Tryz.prog Γ 173 [.ptr (some ⟨b1,0,none⟩),.ptr (some ⟨b4,0,none⟩)] s (P7 s1 b4 bp bl L o d k (C1 L 7 h a)):=by
 have n14:b1≠b4:=fun h=>by subst h;rw [c4] at hb1;cases hb1
 have g1:=hP.sub.bx _ _ ((A4 n14).trans hb1)
 have hw:=A6y (Γ:=Γ) hP (by omega) (by omega)
 refine acs Tryz.func173 ?_
 refine wp ?_
 refine A2.by hw ?_
 intro v s7 hv7
 unfold A9h at hv7
 rcases hwf:X5 L a with z|⟨x,a2⟩
 ·rw [hwf] at hv7
  obtain ⟨y,e,a',rfl,⟨kd,tx,rfl⟩,hP7⟩:=hv7
  have hq4:=(Pst.drop hP7 c4).2
  have hP8:=hP7.swap c4 n1 n2 (hdA k0 k1 k2 k3 k4 { h with start:=y })
  simp only [hdA] at hq4
  refine wp ?_
  refine ⟨_,Sub.refl _,?_⟩
  rw [show C1 L 7 h a=.error z by simp only [C1,hwf]]
  exact ⟨⟨kd,tx,rfl⟩,{ h with start:=y },_,_,_,_,_,a',hP8⟩
 ·rw [hwf] at hv7
  obtain ⟨rfl,hP7⟩:=hv7
  have hq4:=(Pst.drop hP7 c4).2
  have hP8:=hP7.swap c4 n1 n2 (hdA k0 k1 k2 k3 k4 { h with start:=x })
  simp only [hdA] at hq4
  refine wp ?_
  refine ⟨_,Sub.refl _,?_⟩
  rw [show C1 L 7 h a=.ok ({ h with start:=x },a2) by simp only [C1,hwf]]
  exact ⟨rfl,by have:=B5a hwf;omega,_,_,_,_,_,hP8⟩
theorem C43 (hE:Nu.A7n Γ) (hT:∀ i,(E5 L i).2.1.length≤5000) {b1:Nat} (hb1:s1.bx b1=some (177,[.ptr (some ⟨bp,0,none⟩)])) (hL:L.length≤66000) (ha:a≤66000) (i:Nat) (hP:Pst s1 s bp bl L a o d k) :
  A2 Tryz.prog Γ 170 [.int .i64 i,.ptr (some ⟨b1,0,none⟩)] s (A9h s1 bp bl L o d k (fun x=>.agg ((Tr.stA) x)) (D6 L (decide (i=1)) a)):=by
 have hdi:decide ((i:Int)=1)=decide (i=1):=by rw [decide_eq_decide];omega
 refine acs Tryz.func170 ?_
 conv=>whnf
 intro b3 hb3
 obtain ⟨m1,m2⟩:=hP.nb hb3
 have c3:s1.bx b3=none:=hP.sub.none hb3
 have n13:b1≠b3:=A1 hb1 c3
 have hPb:=(hP.box hb3 50 [.str [],.int .i64 0,.int .i64 0,.bool false,.bool false]).keep (T:=50) (cs:=[.str [],.int .i64 0,.int .i64 0,.bool false,.bool false]) A3 m1 m2
 have g1:=hPb.sub.bx _ _ ((A4 n13).trans hb1)
 have hd:=B1u (Γ:=Γ) hPb (by omega) (by omega) (decide (i=1))
 refine wp ?_;(rw [show decide ((i:Int)=1)=decide (i=1) from hdi]);refine wp ?_
 refine A2.by hd ?_
 intro v s7 hv7
 unfold A9h at hv7
 rcases hwf:D6 L (decide (i=1)) a with z|⟨x,a2⟩
 ·rw [hwf] at hv7
  obtain ⟨y,e,a',rfl,⟨kd,tx,rfl⟩,hP7⟩:=hv7
  obtain ⟨hP8,hq⟩:=hP7.drop c3
  refine wp ?_
  exact ⟨_,Sub.refl _,y,_,_,rfl,⟨kd,tx,rfl⟩,hP8.put c3 m1 m2 _ _⟩
 ·rw [hwf] at hv7
  obtain ⟨rfl,hP7⟩:=hv7
  obtain ⟨hP8,hq⟩:=hP7.drop c3
  refine wp ?_
  exact ⟨_,Sub.refl _,rfl,hP8.put c3 m1 m2 _ _⟩
theorem C58 (hE:Nu.A7n Γ) (hT:∀ i,(E5 L i).2.1.length≤5000) {b1 b4:Nat} (c4:s1.bx b4=none) (hb1:s1.bx b1=some (177,[.ptr (some ⟨bp,0,none⟩)])) (n1:b4≠bp) (n2:b4≠bl) (hL:L.length≤66000) (hla:a≤L.length) {h:Head} {k0 k1 k2 k3 k4:Nat}
  (hP:Pst (s1.set b4 34 (hdA k0 k1 k2 k3 k4 h)) s bp bl L a o d k) :
  A2 Tryz.prog Γ 168 [.ptr (some ⟨b1,0,none⟩),.ptr (some ⟨b4,0,none⟩)] s (P7 s1 b4 bp bl L o d k (C1 L 5 h a)):=by
 have n14:b1≠b4:=fun h=>by subst h;rw [c4] at hb1;cases hb1
 have g1:=hP.sub.bx _ _ ((A4 n14).trans hb1)
 have hw:=C2c (Γ:=Γ) (one:=fun i=>D6 L (decide (i=1))) (n:=170) (cs:=[.ptr (some ⟨b1,0,none⟩)]) (by kernel_rfl) [C6s,C6r] (by decide) 1 (fun _ _ _ _ h=>B7y h) (fun i a t s _ ha hP=>C43 hE hT (C76.trans ((A4 n14).trans hb1)) hL ha i hP) hP hL (by omega)
 refine acs Tryz.func168 ?_
 refine wp ?_
 refine A2.by hw ?_
 intro v s7 hv7
 unfold A9h at hv7
 rcases hwf:A30 L [C6s,C6r] (fun i=>D6 L (decide (i=1))) a with z|⟨x,a2⟩
 ·rw [hwf] at hv7
  obtain ⟨y,e,a',rfl,⟨kd,tx,rfl⟩,hP7⟩:=hv7
  have hq4:=(Pst.drop hP7 c4).2
  have hP8:=hP7.swap c4 n1 n2 (hdA k0 k1 k2 0 k4 { h with states:=y })
  simp only [hdA] at hq4
  refine wp ?_
  refine ⟨_,Sub.refl _,?_⟩
  rw [show C1 L 5 h a=.error z by simp only [C1,hwf]]
  exact ⟨⟨kd,tx,rfl⟩,{ h with states:=y },_,_,_,_,_,a',hP8⟩
 ·rw [hwf] at hv7
  obtain ⟨rfl,hP7⟩:=hv7
  have hq4:=(Pst.drop hP7 c4).2
  have hP8:=hP7.swap c4 n1 n2 (hdA k0 k1 k2 0 k4 { h with states:=x })
  simp only [hdA] at hq4
  refine wp ?_
  refine ⟨_,Sub.refl _,?_⟩
  rw [show C1 L 5 h a=.ok ({ h with states:=x },a2) by simp only [C1,hwf]]
  exact ⟨rfl,(C7u (fun _ _ _ _ h=>B7y h) hla hwf).2,_,_,_,_,_,hP8⟩
end
end Go.Proofs.YtaammejliikieaaGreatDoor.Pa
namespace Go.Proofs.YtaammejliikieaaGreatDoor.Pa
open Go Go.Ab Go.RowKit Go.Proofs.YtaammejliikieaaGreatDoor.Lx Go.Proofs.YtaammejliikieaaGreatDoor.Pr
variable {Γ:Nat→AV}
attribute [local irreducible] A8 Sto.set Sto.grow
def hdT (k0 k1 k2 k3 k4 t:Nat) (h:Head) (l:List Tr.Tn):List AV:=[.str h.name.1,.int .i64 h.name.2.1,.int .i64 h.name.2.2,.slice k0 (h.decls.map (fun x=>Tr.deA (0,x))),.slice k1 (h.quants.map Tr.quA),.slice k2 (h.frees.map Tr.frA),.slice k3 (h.states.map Tr.stA),
 .str h.start.1,.int .i64 h.start.2.1,.int .i64 h.start.2.2,.slice k4 (h.also.map (fun x=>Tr.syA (0,x))),.slice t (l.map (fun x=>Tr.tnA ((0,0,0),x)))]
section
variable {s0 s1 s:Sto} {bp bl:Nat} {L:List Tok} {a:Nat} {o:List Ex} {d:List Int} {k:Int}
end
theorem fgq {α:Type} {A:α→List AV} (h:∀ x,fgL (A x)=A x) (l:List α):fgE (l.map A)=l.map A:=Z7 h l
theorem fgi (l:List Int):fgE (G9 .i64 l)=G9 .i64 l:=Z7 (A:=fun n=>[AV.int .i64 n]) (fun _=>rfl) l
theorem C9l (x:Tr.De):fgL (Tr.deA (0,x))=Tr.deA (0,x):=by
 show fgL [_,_,_,.slice 0 (G9 .i64 x.2)]=_
 simp only [fgL,fg,fgi]
 rfl
theorem C9m (x:Tr.Sy):fgL (Tr.syA (0,x))=Tr.syA (0,x):=by
 show fgL [_,.slice 0 (x.2.1.map Tr.arA),_,_]=_
 simp only [fgL,fg]
 rw [fgq (A:=Tr.arA) (fun _=>rfl)]
 rfl
theorem C9n (x:Tr.Tn):fgL (Tr.tnA ((0,0,0),x))=Tr.tnA ((0,0,0),x):=by
 show fgL [_,_,_,_,_,_,_,.slice 0 (x.2.2.1.2.1.map Tr.arA),_,_,.slice 0 (x.2.2.2.1.map Tr.exA),_,.slice 0 (x.2.2.2.2.2.map Tr.seA)]=_
 simp only [fgL,fg]
 rw [fgq (A:=Tr.arA) (fun _=>rfl),fgq (A:=Tr.exA) (fun _=>rfl),fgq (A:=Tr.seA) (fun _=>rfl)]
 rfl
def trN (h:Head) (l:List Tr.Tn):Tr.Tr0:=(h.name,h.decls.map fun d=>(0,d),h.quants,h.frees,h.states,h.start,h.also.map fun s=>(0,s),l.map fun t=>((0,0,0),t))
theorem C7e (k0 k1 k2 k3 k4 t:Nat) (h:Head) (l:List Tr.Tn):fgL (hdT k0 k1 k2 k3 k4 t h l)=Tr.trA (fun _=>0) (trN h l):=by
 unfold hdT Tr.trA trN
 simp only [fgL,fg,List.map_map]
 rw [fgq (fun x=>C9l x),fgq (A:=Tr.quA) (fun _=>rfl),fgq (A:=Tr.frA) (fun _=>rfl),fgq (A:=Tr.stA) (fun _=>rfl),fgq (fun x=>C9m x),fgq (fun x=>C9n x)]
 rfl
end Go.Proofs.YtaammejliikieaaGreatDoor.Pa
namespace Go.Proofs.YtaammejliikieaaGreatDoor.Ck
open Go Go.Ab Go.RowKit Go.Proofs.YtaammejliikieaaGreatDoor.Pa Go.Proofs.YtaammejliikieaaGreatDoor.Pr Go.Proofs.YtaammejliikieaaGreatDoor.Lx
variable {Γ:Nat→AV}
attribute [local irreducible] A8 Sto.set Sto.grow
theorem B4s (r:Res Qe):fg (A4w r)=A4w r:=by
 cases r with
 | error e=>rfl
 | ok q =>
  simp only [A4w,fg,fgL,B0k]
end Go.Proofs.YtaammejliikieaaGreatDoor.Ck
namespace Go.Proofs.YtaammejliikieaaGreatDoor.Ck
open Go Go.Ab Go.RowKit Go.Proofs.YtaammejliikieaaGreatDoor.Pa
variable {Γ:Nat→AV}
attribute [local irreducible] A8 Sto.set Sto.grow
def tyB (i:Nat):TypeId × Nat:=match i with
 | 0=>(37,4)
 | 1=>(39,5)
 | 2=>(48,7)
 | 3=>(50,5)
 | 4=>(46,4)
 | _=>(54,13)
def bC (tk:Nat→Nat) (D:List Tr.De) (u f s:Nat) (Y:List Tr.Sy) (t:Nat):List AV:=[.str [112],.int .i64 1,.int .i64 1,.slice (tk 0) (D.map fun d=>Tr.deA (1,d)),.slice (tk 1) ((List.range u).map fun i=>Tr.quA (bQu i)),.slice (tk 2) ((List.range f).map fun i=>Tr.frA (bFr i)),.slice (tk 3) ((List.range s).map fun i=>Tr.stA (bSt i)),
 .str (nmF 0),.int .i64 1,.int .i64 1,.slice (tk 4) (Y.map fun y=>Tr.syA (1,y)),.slice (tk 5) ((List.range t).map fun i=>Tr.tnA ((1,1,1),bTn i))]
section
variable (tk:Nat→Nat) (D:List Tr.De) (u f s:Nat) (Y:List Tr.Sy) (t t':Nat)
theorem D2e (x:Tr.De):bC (J2 tk 0 t') (D++[x]) u f s Y t=[.str [112],.int .i64 1,.int .i64 1,.slice t' ((D.map fun d=>Tr.deA (1,d))++[Tr.deA (1,x)]),.slice (tk 1) ((List.range u).map fun i=>Tr.quA (bQu i)),.slice (tk 2) ((List.range f).map fun i=>Tr.frA (bFr i)),.slice (tk 3) ((List.range s).map fun i=>Tr.stA (bSt i)),
  .str (nmF 0),.int .i64 1,.int .i64 1,.slice (tk 4) (Y.map fun y=>Tr.syA (1,y)),.slice (tk 5) ((List.range t).map fun i=>Tr.tnA ((1,1,1),bTn i))]:=by simp [bC,J2]
theorem D2f:bC (J2 tk 2 t') D u (f+1) s Y t=[.str [112],.int .i64 1,.int .i64 1,.slice (tk 0) (D.map fun d=>Tr.deA (1,d)),.slice (tk 1) ((List.range u).map fun i=>Tr.quA (bQu i)),.slice t' (((List.range f).map fun i=>Tr.frA (bFr i))++[Tr.frA (bFr f)]),.slice (tk 3) ((List.range s).map fun i=>Tr.stA (bSt i)),
  .str (nmF 0),.int .i64 1,.int .i64 1,.slice (tk 4) (Y.map fun y=>Tr.syA (1,y)),.slice (tk 5) ((List.range t).map fun i=>Tr.tnA ((1,1,1),bTn i))]:=by simp [bC,J2,List.range_succ]
theorem D2g:bC (J2 tk 3 t') D u f (s+1) Y t=[.str [112],.int .i64 1,.int .i64 1,.slice (tk 0) (D.map fun d=>Tr.deA (1,d)),.slice (tk 1) ((List.range u).map fun i=>Tr.quA (bQu i)),.slice (tk 2) ((List.range f).map fun i=>Tr.frA (bFr i)),.slice t' (((List.range s).map fun i=>Tr.stA (bSt i))++[Tr.stA (bSt s)]),
  .str (nmF 0),.int .i64 1,.int .i64 1,.slice (tk 4) (Y.map fun y=>Tr.syA (1,y)),.slice (tk 5) ((List.range t).map fun i=>Tr.tnA ((1,1,1),bTn i))]:=by simp [bC,J2,List.range_succ]
theorem D06 (x:Tr.Sy):bC (J2 tk 4 t') D u f s (Y++[x]) t=[.str [112],.int .i64 1,.int .i64 1,.slice (tk 0) (D.map fun d=>Tr.deA (1,d)),.slice (tk 1) ((List.range u).map fun i=>Tr.quA (bQu i)),.slice (tk 2) ((List.range f).map fun i=>Tr.frA (bFr i)),.slice (tk 3) ((List.range s).map fun i=>Tr.stA (bSt i)),
  .str (nmF 0),.int .i64 1,.int .i64 1,.slice t' ((Y.map fun y=>Tr.syA (1,y))++[Tr.syA (1,x)]),.slice (tk 5) ((List.range t).map fun i=>Tr.tnA ((1,1,1),bTn i))]:=by simp [bC,J2]
theorem D2h:bC (J2 tk 5 t') D u f s Y (t+1)=[.str [112],.int .i64 1,.int .i64 1,.slice (tk 0) (D.map fun d=>Tr.deA (1,d)),.slice (tk 1) ((List.range u).map fun i=>Tr.quA (bQu i)),.slice (tk 2) ((List.range f).map fun i=>Tr.frA (bFr i)),.slice (tk 3) ((List.range s).map fun i=>Tr.stA (bSt i)),
  .str (nmF 0),.int .i64 1,.int .i64 1,.slice (tk 4) (Y.map fun y=>Tr.syA (1,y)),.slice t' (((List.range t).map fun i=>Tr.tnA ((1,1,1),bTn i))++[Tr.tnA ((1,1,1),bTn t)])]:=by simp [bC,J2,List.range_succ]
end
theorem B6d {i:Nat} (h:1≤i):J4 (i+1)=J4 i++[bDe i]:=by
 unfold J4
 obtain ⟨j,rfl⟩:∃ j,i=j+1:=⟨i - 1,by omega⟩
 rw [show j+1+1 - 1=j+1 by omega,show j+1 - 1=j by omega,List.range'_concat,List.map_append]
 simp [Nat.add_comm]
theorem B8i {i d:Nat} (h1:1≤i) (h2:i≤max d 1) (h3:¬ i < d):J4 i=J4 d:=by
 unfold J4
 rw [show i - 1=d - 1 by omega]
theorem A96 {i:Nat} (h:i≤40):(J4 i).length≤100000:=by
 unfold J4
 simp
 omega
theorem B9a {α β:Type} {A:α→List AV} {B:β→List AV} {t:Nat} {l:List α} {m:List β} (h:fgE (l.map A)=m.map B):Le (.slice t (l.map A)) (.slice 0 (m.map B)) :=
 (Le.inner' h).trans (Le.slice0 _ _)
theorem D05 {d u f s a t:Nat} (tk:Nat→Nat):LeL (bC tk (J4 d) u f s ((List.range u).map A11++(List.range a).map A2m) t) (Tr.trA z0 (F4 d u f s a t)):=by
 unfold bC Tr.trA F4 z0
 refine LeL.cons (Le.refl _) (LeL.cons (Le.refl _) (LeL.cons (Le.refl _) (LeL.cons ?_ (LeL.cons ?_ (LeL.cons ?_ (LeL.cons ?_ (LeL.cons (Le.refl _) (LeL.cons (Le.refl _) (LeL.cons (Le.refl _) (LeL.cons ?_ (LeL.cons ?_ LeL.nil)))))))))))
 ·refine B9a ?_
  rw [List.map_map]
  exact Z7 (fun x=>by simp only [Tr.deA,fgL,fg,B4r,Function.comp]) _
 ·rw [List.map_map];exact Le.slice0 _ _
 ·rw [List.map_map];exact Le.slice0 _ _
 ·rw [List.map_map];exact Le.slice0 _ _
 ·refine B9a ?_
  rw [List.map_map]
  exact Z7 (fun x=>by simp only [Tr.syA,fgL,fg,Function.comp];rw [A70 (A:=Tr.arA) (fun _=>rfl)]) _
 ·refine B9a ?_
  rw [List.map_map]
  exact Z7 (fun x=>by simp only [Tr.tnA,fgL,fg,Function.comp];rw [A70 (A:=Tr.arA) (fun _=>rfl),A70 (A:=Tr.exA) (fun _=>rfl),A70 (A:=Tr.seA) (fun _=>rfl)]) _
theorem B8p {d u f s0 a t:Int} (hin:¬ (0≤d∧d≤40∧0≤u∧u≤40∧0≤f∧f≤40∧1≤s0∧s0≤40∧0≤a∧a≤70∧0≤t∧t≤260))
  (haw:A8 Tryz.prog Γ 4 [] fun v=>v=.bool true) :
  A8 Tryz.prog Γ 3 [.int .i64 d,.int .i64 u,.int .i64 f,.int .i64 s0,.int .i64 a,.int .i64 t] fun v=>v=.bool true:=by
 refine aps Tryz.func3 ?_
 intro s
 conv=>whnf
 repeat' ((first|(refine brS (fun h=>?_) (fun h=>?_)<;>(try rw [h])<;>(try simp only [bS,↓reduceIte] at h)<;>(try exact prc))|(refine A2.pure' ?_ (haw);rintro _ rfl)|refine A7.pure ?_ (haw)|refine gS ?_|refine aA ?_|refine nA ?_|fail)<;>(conv=>whnf))
 all_goals first|(exact ⟨Sub.refl _,rfl⟩)|rfl|(exfalso;simp only [Bool.if_true_left,Bool.or_eq_false_iff,Bool.or_eq_true,decide_eq_false_iff_not,decide_eq_true_eq] at *;omega)
end Go.Proofs.YtaammejliikieaaGreatDoor.Ck
