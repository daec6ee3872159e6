/- Part 6 of what the closing text needs: CkC, CkD, CkE, CkI, CkJ, CkK, CkM. No condition of mine beyond those that the theorems name. -/
import Derived.Test.YtaammejliikieaaGreatDoorG5
import Derived.Test.YtaammejliikieaaGreatDoorAb26
import Derived.Test.YtaammejliikieaaGreatDoorAb28
import Derived.Test.YtaammejliikieaaGreatDoorG2
import Derived.Test.YtaammejliikieaaGreatDoorG1
set_option maxRecDepth 10000
set_option maxHeartbeats 60000000
set_option linter.all false
namespace Go.Proofs.YtaammejliikieaaGreatDoor.Pa
end Go.Proofs.YtaammejliikieaaGreatDoor.Pa
namespace Go.Proofs.YtaammejliikieaaGreatDoor.Ck
open Go Go.Ab Go.RowKit Go.Proofs.YtaammejliikieaaGreatDoor.Pa
variable {Γ:Nat→AV}
attribute [local irreducible] A8 Sto.set Sto.grow
abbrev Bad:=Int × Int × Int
def A9g (x:Bad):List AV:=[.iface 64 (.int .i64 x.1),.int .i64 x.2.1,.int .i64 x.2.2]
def A4x (x:Bad):AV:=.iface 82 (.cptr (A9g x))
theorem B2z (e:Int) (x:Tr.Idn):A8 Tryz.prog Γ 108 [.int .i64 e,.agg (Tr.S1 x)] fun v=>v=A4x (e,x.2):=by
 obtain ⟨x1,x2,x3⟩:=x
 refine A8.frz fun s=>?_
 refine acs Tryz.func108 ?_
 conv=>whnf
 intro b3 hb3
 refine wp ?_
 intro b12 hb12
 have k12:s.bx b12=none:=A0 hb12
 refine wp ?_
 refine ⟨_,Sub.refl _,fz1 b12 0 (A9g (e,x2,x3)),A76 k12 A3,?_,((Sub.refl _).set hb3 _ _).set k12 _ _⟩
 show fg (fz _ (.iface _ (.ptr (some ⟨b12,0,none⟩))))=_
 simp only [fz,fzP,A75,List.drop_zero,fg,A4x,A9g,fgL]
def C4m (x:Tr.Idn) (val:AV) (es:List (List UInt8 × AV)) (full:Prop) (r:AV) (es':List (List UInt8 × AV)):Prop :=
 (full∧r=A4x (14,x.2))∨(¬ full∧P0 x.1 es≠none∧r=A4x (10,x.2))∨(¬ full∧P0 x.1 es=none∧r=.nilIface∧es'=es++[(x.1,val)])
theorem A81 {s:Sto} {bm:Nat} {es:List (List UInt8 × AV)} (hm:s.mp bm=some es) (x:Tr.Idn) (hes:∀ y,P0 x.1 es=some y→∃ i,y=fInt i) (v n most:Int) :
  A2 Tryz.prog Γ 109 [.mref (some bm),.agg (Tr.S1 x),.int .i64 v,.int .i64 n,.int .i64 most] s fun r s'=>∃ es',s'=s.setM bm es'∧C4m x (.int .i64 v) es (n ≥ most) r es':=by
 obtain ⟨x1,x2,x3⟩:=x
 have hat:=fun e=>B2z (Γ:=Γ) e (x1,x2,x3)
 simp only [Tr.S1] at hat
 rcases hf:P0 x1 es with _|y
 ·refine acs Tryz.func109 ?_
  conv=>whnf
  intro b6 hb6
  conv=>whnf
  have hm6:(s.set b6 24 [.str x1,.int .i64 x2,.int .i64 x3]).mp bm=some es:=C2.trans hm
  repeat' ((first|exact pru|(refine brS (fun h=>?_) (fun h=>?_)<;>(try rw [h])<;>(try simp only [bS,↓reduceIte] at h))|(refine A2.pure' ?_ (hat 14);rintro _ rfl)|refine A7.pure ?_ (hat 14)|(refine T7 hm6 ?_)|(refine U1.miss hf ?_)|(refine ⟨hf,?_⟩)|refine gS ?_|refine aA ?_|refine nA ?_|fail)<;>(conv=>whnf))
  ·exact ⟨s,(Sub.refl _).set hb6 _ _,es,(A0y hm).symm,.inl ⟨h,rfl⟩⟩
  ·exact ⟨s.setM bm (es++[(x1,.int .i64 v)]),((Sub.refl _).set hb6 _ _).setM2 _,_,rfl,.inr (.inr ⟨h,hf,rfl,rfl⟩)⟩
 ·obtain ⟨i,rfl⟩:=hes y hf
  refine acs Tryz.func109 ?_
  conv=>whnf
  intro b6 hb6
  conv=>whnf
  have hm6:(s.set b6 24 [.str x1,.int .i64 x2,.int .i64 x3]).mp bm=some es:=C2.trans hm
  repeat' ((first|exact pru|(refine brS (fun h=>?_) (fun h=>?_)<;>(try rw [h])<;>(try simp only [bS,↓reduceIte] at h))|(refine A2.pure' ?_ (hat 14);rintro _ rfl)|refine A7.pure ?_ (hat 14)|(refine A2.pure' ?_ (hat 10);rintro _ rfl)|refine A7.pure ?_ (hat 10)|(refine T7 hm6 ?_)|(refine U1.hit hf ?_)|refine gS ?_|refine aA ?_|refine nA ?_|fail)<;>(conv=>whnf))
  ·exact ⟨s,(Sub.refl _).set hb6 _ _,es,(A0y hm).symm,.inl ⟨h,rfl⟩⟩
  ·exact ⟨s,(Sub.refl _).set hb6 _ _,es,(A0y hm).symm,.inr (.inl ⟨h,(by simp only;rw [hf];simp),rfl⟩)⟩
theorem A6p {s:Sto} {bm:Nat} {es:List (List UInt8 × AV)} (hm:s.mp bm=some es) (x:Tr.Idn) (hes:∀ y,P0 x.1 es=some y→∃ v,y=fVar v) (v:Nd) (n most:Int) :
  A2 Tryz.prog Γ 111 [.mref (some bm),.agg (Tr.S1 x),.agg (ndA v),.int .i64 n,.int .i64 most] s fun r s'=>∃ es',s'=s.setM bm es'∧C4m x (.agg (ndA v)) es (n ≥ most) r es':=by
 obtain ⟨x1,x2,x3⟩:=x
 obtain ⟨v1,v2,v3,v4,v5,v6,v7⟩:=v
 have hat:=fun e=>B2z (Γ:=Γ) e (x1,x2,x3)
 simp only [Tr.S1] at hat
 rcases hf:P0 x1 es with _|y
 ·refine acs Tryz.func111 ?_
  conv=>whnf
  intro b6 hb6
  have k_b6:=hb6
  repeat replace k_b6:=A0 k_b6
  conv=>whnf
  intro b7 hb7
  have k_b7:=hb7
  repeat replace k_b7:=A0 k_b7
  have n_b6_b7:b6≠b7:=by (have k:=hb7;repeat (first|exact A6 k|replace k:=A0 k))
  have n_b7_b6:=n_b6_b7.symm
  conv=>whnf
  have hm7:((s.set b6 24 [.str x1,.int .i64 x2,.int .i64 x3]).set b7 103 [.int .i64 v1,.int .i64 v2,.int .i64 v3,.int .i64 v4,.int .i64 v5,.str v6,.bool v7]).mp bm=some es:=C2.trans (C2.trans hm)
  repeat' ((first|exact pru|(refine brS (fun h=>?_) (fun h=>?_)<;>(try rw [h])<;>(try simp only [bS,↓reduceIte] at h))|(refine A2.pure' ?_ (hat 14);rintro _ rfl)|refine A7.pure ?_ (hat 14)|refine A5 ?_|(refine T7 hm7 ?_)|(refine U1.miss hf ?_)|refine gS ?_|refine aA ?_|refine nA ?_|fail)<;>(conv=>whnf))
  ·exact ⟨s,N2,es,(A0y hm).symm,.inl ⟨h,rfl⟩⟩
  ·intro b11 hb11
   have k_b11:=A0 (A0 hb11)
   have n_b6_b11:b6≠b11:=A1 bxa hb11
   have n_b11_b6:=n_b6_b11.symm
   have n_b7_b11:b7≠b11:=A1 bxa hb11
   have n_b11_b7:=n_b7_b11.symm
   conv=>whnf
   repeat' ((first|exact pru|(refine brS (fun h=>?_) (fun h=>?_)<;>(try rw [h])<;>(try simp only [bS,↓reduceIte] at h))|(refine A2.pure' ?_ (hat 14);rintro _ rfl)|refine A7.pure ?_ (hat 14)|refine A5 ?_|(refine T7 (C2.trans (C2.trans hm7)) ?_)|(refine ⟨hf,?_⟩)|refine gS ?_|refine aA ?_|refine nA ?_|fail)<;>(conv=>whnf))
   exact ⟨s.setM bm (es++[(x1,.agg (ndA (v1,v2,v3,v4,v5,v6,v7)))]),(((((Sub.refl _).set k_b6 _ _).set k_b7 _ _).set k_b11 _ _).set k_b11 _ _).setM2 _,_,rfl,.inr (.inr ⟨h,hf,rfl,rfl⟩)⟩
 ·obtain ⟨u,rfl⟩:=hes y hf
  refine acs Tryz.func111 ?_
  conv=>whnf
  intro b6 hb6
  have k_b6:=hb6
  repeat replace k_b6:=A0 k_b6
  conv=>whnf
  intro b7 hb7
  have k_b7:=hb7
  repeat replace k_b7:=A0 k_b7
  have n_b6_b7:b6≠b7:=by (have k:=hb7;repeat (first|exact A6 k|replace k:=A0 k))
  have n_b7_b6:=n_b6_b7.symm
  conv=>whnf
  have hm7:((s.set b6 24 [.str x1,.int .i64 x2,.int .i64 x3]).set b7 103 [.int .i64 v1,.int .i64 v2,.int .i64 v3,.int .i64 v4,.int .i64 v5,.str v6,.bool v7]).mp bm=some es:=C2.trans (C2.trans hm)
  repeat' ((first|exact pru|(refine brS (fun h=>?_) (fun h=>?_)<;>(try rw [h])<;>(try simp only [bS,↓reduceIte] at h))|(refine A2.pure' ?_ (hat 14);rintro _ rfl)|refine A7.pure ?_ (hat 14)|refine A5 ?_|(refine T7 hm7 ?_)|(refine U1.hit hf ?_)|refine gS ?_|refine aA ?_|refine nA ?_|fail)<;>(conv=>whnf))
  ·exact ⟨s,N2,es,(A0y hm).symm,.inl ⟨h,rfl⟩⟩
  ·intro b11 hb11
   have k_b11:=A0 (A0 hb11)
   have n_b6_b11:b6≠b11:=A1 bxa hb11
   have n_b11_b6:=n_b6_b11.symm
   have n_b7_b11:b7≠b11:=A1 bxa hb11
   have n_b11_b7:=n_b7_b11.symm
   refine wp ?_;(first|(refine A2.pure' ?_ (hat 10);rintro _ rfl)|refine A7.pure ?_ (hat 10));refine wp ?_
   exact ⟨s,((((Sub.refl _).set k_b6 _ _).set k_b7 _ _).set k_b11 _ _).set k_b11 _ _,es,(A0y hm).symm,.inr (.inl ⟨h,(by simp only;rw [hf];simp),rfl⟩)⟩
end Go.Proofs.YtaammejliikieaaGreatDoor.Ck
namespace Go.Proofs.YtaammejliikieaaGreatDoor.Ck
open Go Go.Ab Go.RowKit Go.Proofs.YtaammejliikieaaGreatDoor.Pa
variable {Γ:Nat→AV}
def tyT (i:Nat):TypeId × Nat:=match i with
 | 0=>(160,2)
 | 1=>(163,3)
 | 2=>(165,5)
 | 3=>(167,3)
 | 4=>(93,2)
 | _=>(103,7)
def chA (tk:Nat→Nat) (a:Option Addr) (cap:Nat) (q:Qe) (bd bv bs:Nat):List AV:=[.str q.name,.slice (tk 0) (dcs q.decls),.slice (tk 1) (q.quants.map qtA),.slice (tk 2) (q.frees.map feA),.slice (tk 3) (q.states.map saA),.int .i64 q.start,
 .slice (tk 4) (sms q.syms),.slice (tk 5) (q.nodes.map ndA),.raw a q.trans.length cap,.mref (some bd),.mref (some bv),.mref (some bs)]
structure TrB (s0 s:Sto) (bc:Nat) (l:List Tx) (a:Option Addr) (cap:Nat):Prop where
 none:l=[]→cap=0
 some:l≠[]→∃ bt rest,a=some ⟨bt,0,Option.none⟩∧bt≠bc∧s0.bx bt=Option.none∧s.bx bt=Option.some (106,(txs l).flatten++rest)∧((txs l).flatten++rest).length=cap * 5∧l.length≤cap
theorem TrB.mono {s0 s s':Sto} {bc:Nat} {l:List Tx} {a:Option Addr} {cap:Nat} (h:TrB s0 s bc l a cap) (k:∀ b z,b≠bc→s0.bx b=Option.none→s.bx b=Option.some z→s'.bx b=Option.some z):TrB s0 s' bc l a cap :=
 ⟨h.none,fun hl=>by
  obtain ⟨bt,rest,h1,h2,h3,h4,h5⟩:=h.some hl
  exact ⟨bt,rest,h1,h2,h3,k bt _ h2 h3 h4,h5⟩⟩
structure Cst (s0 s:Sto) (bc bd bv bs:Nat) (q:Qe):Prop where
 nc:s0.bx bc=none
 nd:s0.mp bd=none
 nv:s0.mp bv=none
 ns:s0.mp bs=none
 dv:bd≠bv
 ds:bd≠bs
 vs:bv≠bs
 md:s.mp bd=some (dM q)
 mv:s.mp bv=some (vM q)
 ms:s.mp bs=some (sM q)
 st:∃ tk a cap,U3 6 tyT s0 s tk∧TrB s0 s bc q.trans a cap∧s.bx bc=some (81,chA tk a cap q bd bv bs)
section
variable {s0 s:Sto} {bc bd bv bs:Nat} {q:Qe}
theorem Cst.sub (h:Cst s0 s bc bd bv bs q):Sub s0 s:=by
 obtain ⟨_,_,_,h1,_⟩:=h.st
 exact h1.sub
theorem Cst.box (h:Cst s0 s bc bd bv bs q) {b:Nat} (hb:s.bx b=none) (T:TypeId) (cs:List AV):Cst s0 (s.set b T cs) bc bd bv bs q:=by
 obtain ⟨tk,a,cap,h1,h2,h3⟩:=h.st
 exact ⟨h.nc,h.nd,h.nv,h.ns,h.dv,h.ds,h.vs,h.md,h.mv,h.ms,tk,a,cap,h1.set (h1.sub.none hb) T cs,h2.mono fun c z _ _ hz=>(A4 (A1 hz hb)).trans hz,(A4 (A1 h3 hb)).trans h3⟩
theorem Cst.nb (h:Cst s0 s bc bd bv bs q) {b:Nat} (hb:s.bx b=none):bc≠b:=by
 obtain ⟨_,_,_,_,_,h3⟩:=h.st
 exact A1 h3 hb
theorem Cst.keep (h:Cst s0 s bc bd bv bs q) {b:Nat} (hb:s.bx b=none) (T:TypeId) (cs:List AV):Cst (s0.set b T cs) (s.set b T cs) bc bd bv bs q:=by
 obtain ⟨tk,a,cap,h1,h2,h3⟩:=h.st
 have hn:=A1 h3 hb
 refine ⟨(A4 hn).trans h.nc,h.nd,h.nv,h.ns,h.dv,h.ds,h.vs,h.md,h.mv,h.ms,tk,a,cap,(h1.set (h1.sub.none hb) T cs).keep A3,⟨h2.none,fun hl=>?_⟩,(A4 hn).trans h3⟩
 obtain ⟨bt,rest,g1,g2,g3,g4,g5⟩:=h2.some hl
 have hbt:=A1 g4 hb
 exact ⟨bt,rest,g1,g2,(A4 hbt).trans g3,(A4 hbt).trans g4,g5⟩
theorem Cst.kept {b:Nat} {T:TypeId} {cs:List AV} (h:Cst (s0.set b T cs) s bc bd bv bs q):s.bx b=some (T,cs)∧b≠bc:=by
 refine ⟨h.sub.bx _ _ A3,?_⟩
 rintro rfl
 have:=h.nc
 rw [A3] at this;cases this
theorem Cst.reput {b:Nat} {T:TypeId} {cs:List AV} (h:Cst (s0.set b T cs) s bc bd bv bs q) (cs':List AV):Cst (s0.set b T cs') (s.set b T cs') bc bd bv bs q:=by
 obtain ⟨tk,a,cap,h1,h2,h3⟩:=h.st
 have hn:=h.kept.2
 have hs:Sub (s0.set b T cs') (s.set b T cs'):=⟨fun c x hc=>by
  by_cases hcb:c=b
  ·subst hcb;rw [A3] at hc ⊢;exact hc
  ·rw [A4 hcb] at hc ⊢;exact h1.sub.bx c x ((A4 hcb).trans hc),h1.sub.lv,h1.sub.mp⟩
 refine ⟨(A4 hn.symm).trans ((A4 hn.symm).symm.trans h.nc),h.nd,h.nv,h.ns,h.dv,h.ds,h.vs,h.md,h.mv,h.ms,tk,a,cap,⟨hs,h1.own,h1.ne⟩,⟨h2.none,fun hl=>?_⟩,(A4 hn.symm).trans h3⟩
 obtain ⟨bt,rest,g1,g2,g3,g4,g5⟩:=h2.some hl
 have hbt:bt≠b:=by rintro rfl;rw [A3] at g3;cases g3
 exact ⟨bt,rest,g1,g2,(A4 hbt).trans ((A4 hbt).symm.trans g3),(A4 hbt).trans g4,g5⟩
def P7 (s0:Sto) (bc bd bv bs:Nat) (r:Res Qe) (v:AV) (s':Sto):Prop :=
 match r with
 | .ok q'=>v=.nilIface∧Cst s0 s' bc bd bv bs q'
 | .error x=>v=A4x x∧Sub s0 s'
end
end Go.Proofs.YtaammejliikieaaGreatDoor.Ck
namespace Go.Proofs.YtaammejliikieaaGreatDoor.Ck
open Go Go.Ab Go.RowKit Go.Proofs.YtaammejliikieaaGreatDoor.Pa
variable {Γ:Nat→AV}
attribute [local irreducible] A8 Sto.set Sto.grow
section
variable {s0 s:Sto} {bc bd bv bs:Nat} {q:Qe}
theorem A9l (l:List Dc):(dcs l).length=l.length:=List.length_map ..
theorem C7b (hC:Cst s0 s bc bd bv bs q) (hq:H7 q) (d:Tr.De) (hd:d.2.length≤100000) :
  A2 Tryz.prog Γ 47 [.ptr (some ⟨bc,0,none⟩),.agg (Tr.deA (0,d))] s (P7 s0 bc bd bv bs (H1 q d)):=by
 obtain ⟨⟨n1,n2,n3⟩,ts⟩:=d
 simp only at hd
 obtain ⟨tk,a,cap,h1,h2,h3⟩:=hC.st
 have hat:=fun e=>B2z (Γ:=Γ) e (n1,n2,n3)
 simp only [Tr.S1] at hat
 have hcl:=Tr.C32 (Γ:=Γ) 0 ts (by omega)
 have hil:=H8 .i64 ts
 have hdl:=A9l q.decls
 have hql:=hq.decls
 simp only [chA] at h3
 simp only [Tr.deA]
 refine acs Tryz.func47 ?_
 conv=>whnf
 intro b3 hb3
 have k_b3:s.bx b3=none:=hb3
 have n_bc_b3:=hC.nb hb3
 have n_b3_bc:=n_bc_b3.symm
 conv=>whnf
 have c3:=h1.sub.none k_b3
 by_cases h8:8 < ts.length
 ·refine wp ?_;(first|(refine A2.pure' ?_ (hat 14);rintro _ rfl)|refine A7.pure ?_ (hat 14));refine wp ?_
  refine ⟨_,Sub.refl _,?_⟩
  unfold H1
  rw [if_pos (.inr h8)]
  exact ⟨rfl,h1.sub.set c3 _ _⟩
 ·have hfr:=A81 (Γ:=Γ) (s:=s.set b3 37 [.str n1,.int .i64 n2,.int .i64 n3,.slice 0 (G9 .i64 ts)]) (bm:=bd) (C2.trans hC.md) (n1,n2,n3) (fun y hy=>by rw [A9n] at hy;obtain ⟨i,_,rfl⟩:=Option.map_eq_some_iff.1 hy;exact ⟨i,rfl⟩) (dcs q.decls).length (dcs q.decls).length 32
  simp only [Tr.S1] at hfr
  repeat' ((first|exact pru|(refine brS (fun h=>?_) (fun h=>?_)<;>(try rw [h])<;>(try simp only [bS,↓reduceIte] at h))|refine A5 ?_|(refine AWp.anyC (id:=3) [] [31] (by kernel_rfl) (by kernel_rfl) (by kernel_rfl) (by kernel_rfl) ?_)|(refine ⟨trivial,?_⟩)|(refine A2.by hfr ?_)|refine gS ?_|refine aA ?_|refine nA ?_|fail)<;>(conv=>whnf))
  rintro r sx ⟨es',rfl,hr⟩
  rcases hr with ⟨hf,rfl⟩|⟨hf,hi,rfl⟩|⟨hf,hi,rfl,rfl⟩
  all_goals (
   refine wp ?_;(refine ⟨trivial,?_⟩);refine wp ?_
   refine ⟨((h1.set c3 _ _).setM hC.nd _).may (i:=0) (by omega),fun c hc=>by obtain ⟨z,_,rfl⟩:=List.mem_map.1 hc;rfl,all_cons ⟨rfl,rfl⟩ C3,?_,?_⟩
   ·show ((dcs q.decls).length+1) * (_+1)≤_
    exact Nat.le_trans (Nat.mul_le_mul_right _ (show (dcs q.decls).length+1≤100001 by omega)) (Nat.le_of_ble_eq_true (by kernel_rfl))
   intro t' k1 k2
   refine wp ?_
   refine ⟨_,Sub.refl _,?_⟩
   have ht:=fun e=>(((h1.set c3 37 _).setM hC.nd _).grow (i:=0) (t':=t') (by omega) k2).set hC.nc 81 e
   unfold H1)
  ·rw [if_pos (.inl (by first|omega|(simp only;omega)))]
   exact ⟨rfl,(ht _).sub⟩
  ·rw [if_neg (by first|omega|(simp only;omega))]
   rw [A9n] at hi
   rw [if_pos (by cases hx:idx n1 (q.decls.map (·.1)) with|none=>rw [hx] at hi;exact absurd rfl hi|some i=>rfl)]
   exact ⟨rfl,(ht _).sub⟩
  ·rw [if_neg (by first|omega|(simp only;omega))]
   rw [A9n] at hi
   rw [if_neg (by cases hx:idx n1 (q.decls.map (·.1)) with|none=>simp|some i=>rw [hx] at hi;cases hi)]
   refine ⟨rfl,hC.nc,hC.nd,hC.nv,hC.ns,hC.dv,hC.ds,hC.vs,?_,?_,?_,J2 tk 0 t',a,cap,ht _,h2.mono fun c z hc h0 hz=>?_,A3.trans ?_⟩
   ·refine C2.trans (Q6.trans (S7.trans ?_))
    simp [dM,A4j,fInt,hdl]
   ·exact C2.trans (Q6.trans ((H5 hC.dv.symm).trans (C2.trans hC.mv)))
   ·exact C2.trans (Q6.trans ((H5 hC.ds.symm).trans (C2.trans hC.ms)))
   ·exact (A4 hc).trans (Q5.trans (A0o.trans ((A4 (A1 hz k_b3)).trans hz)))
   ·simp [chA,dcs,dcA,J2]
theorem C5i (hC:Cst s0 s bc bd bv bs q) (hq:H7 q) (hfr:q.frees=[]) (x:Tr.Qu) :
  A2 Tryz.prog Γ 50 [.ptr (some ⟨bc,0,none⟩),.agg (Tr.quA x)] s (P7 s0 bc bd bv bs (E8 q x)):=by
 obtain ⟨al,⟨n1,n2,n3⟩,ty⟩:=x
 obtain ⟨tk,a,cap,h1,h2,h3⟩:=hC.st
 have hql:=hq.quants
 have hdl:(q.quants.map qtA).length=q.quants.length:=List.length_map ..
 simp only [chA] at h3
 simp only [Tr.quA]
 refine acs Tryz.func50 ?_
 conv=>whnf
 intro b3 hb3
 have k_b3:s.bx b3=none:=hb3
 have n_bc_b3:=hC.nb hb3
 have n_b3_bc:=n_bc_b3.symm
 conv=>whnf
 have c3:=h1.sub.none k_b3
 refine wp ?_
 refine ⟨(h1.set c3 _ _).may (i:=1) (by omega),fun c hc=>by obtain ⟨z,_,rfl⟩:=List.mem_map.1 hc;rfl,all_cons ⟨rfl,rfl⟩ C3,?_,?_⟩
 ·show ((q.quants.map qtA).length+1) * (_+1)≤_
  exact Nat.le_trans (Nat.mul_le_mul_right _ (show (q.quants.map qtA).length+1≤100001 by omega)) (Nat.le_of_ble_eq_true (by kernel_rfl))
 intro t' k1 k2
 conv=>whnf
 repeat' ((first|exact pru|(refine brS (fun h=>?_) (fun h=>?_)<;>(try rw [h])<;>(try simp only [bS,↓reduceIte] at h))|refine A5 ?_|(refine AWp.anyC (id:=3) [] [40] (by kernel_rfl) (by kernel_rfl) (by kernel_rfl) (by kernel_rfl) ?_)|(refine ⟨trivial,?_⟩)|refine gS ?_|refine aA ?_|refine nA ?_|fail)<;>(conv=>whnf))
 refine A2.by (A6p (Γ:=Γ) (C2.trans (Q6.trans (C2.trans hC.mv))) (n1,n2,n3) (fun y hy=>by rw [A2s] at hy;obtain ⟨i,_,rfl⟩:=Option.map_eq_some_iff.1 hy;exact ⟨i,rfl⟩) (2,((q.quants.map qtA).length:Int),0,Tr.H9) ((q.quants.map qtA).length:Int) 8) ?_
 rintro r sx ⟨es',rfl,hr⟩
 have ht:=fun e es'=>(((h1.set c3 39 _).grow (i:=1) (t':=t') (by omega) k2).set hC.nc 81 e).setM hC.nv es'
 rcases hr with ⟨hf,rfl⟩|⟨hf,hi,rfl⟩|⟨hf,hi,rfl,rfl⟩
 all_goals (
  refine wp ?_;(refine ⟨trivial,?_⟩);refine wp ?_
  refine ⟨_,Sub.refl _,?_⟩
  unfold E8)
 ·rw [if_pos (by omega)]
  exact ⟨rfl,(ht _ _).sub⟩
 ·rw [if_neg (by omega)]
  rw [A2s] at hi
  rw [if_pos (by cases hx:V3 q n1 with|none=>rw [hx] at hi;exact absurd rfl hi|some i=>rfl)]
  exact ⟨rfl,(ht _ _).sub⟩
 ·rw [if_neg (by omega)]
  rw [A2s] at hi
  have hn:V3 q n1=none:=by cases hx:V3 q n1 with|none=>rfl|some i=>rw [hx] at hi;cases hi
  rw [if_neg (by rw [hn];simp)]
  refine ⟨rfl,hC.nc,hC.nd,hC.nv,hC.ns,hC.dv,hC.ds,hC.vs,?_,?_,?_,J2 tk 1 t',a,cap,ht _ _,h2.mono fun c z hc h0 hz=>?_,A0o.trans (A3.trans ?_)⟩
  ·exact (H5 hC.dv).trans (C2.trans (Q6.trans (C2.trans hC.md)))
  ·refine S7.trans ?_
   have hff:q.frees=[]:=hfr
   simp [vM,A4j,fVar,hff,ents]
  ·exact (H5 hC.vs.symm).trans (C2.trans (Q6.trans (C2.trans hC.ms)))
  ·exact A0o.trans ((A4 hc).trans (Q5.trans ((A4 (A1 hz k_b3)).trans hz)))
  ·simp [chA,J2,qtA]
theorem C7g (hC:Cst s0 s bc bd bv bs q) (hq:H7 q) (x:Tr.Fr) :
  A2 Tryz.prog Γ 53 [.ptr (some ⟨bc,0,none⟩),.agg (Tr.frA x)] s (P7 s0 bc bd bv bs (H4 q x)):=by
 obtain ⟨⟨n1,n2,n3⟩,v1,v2,v3,v4⟩:=x
 obtain ⟨tk,a,cap,h1,h2,h3⟩:=hC.st
 have hql:=hq.frees
 have hdl:(q.frees.map feA).length=q.frees.length:=List.length_map ..
 simp only [chA] at h3
 simp only [Tr.frA]
 refine acs Tryz.func53 ?_
 conv=>whnf
 intro b3 hb3
 have k_b3:s.bx b3=none:=hb3
 have n_bc_b3:=hC.nb hb3
 have n_b3_bc:=n_bc_b3.symm
 conv=>whnf
 have c3:=h1.sub.none k_b3
 refine wp ?_
 refine ⟨(h1.set c3 _ _).may (i:=2) (by omega),fun c hc=>by obtain ⟨z,_,rfl⟩:=List.mem_map.1 hc;rfl,all_cons ⟨rfl,rfl⟩ C3,?_,?_⟩
 ·show ((q.frees.map feA).length+1) * (_+1)≤_
  exact Nat.le_trans (Nat.mul_le_mul_right _ (show (q.frees.map feA).length+1≤100001 by omega)) (Nat.le_of_ble_eq_true (by kernel_rfl))
 intro t' k1 k2
 conv=>whnf
 repeat' ((first|exact pru|(refine brS (fun h=>?_) (fun h=>?_)<;>(try rw [h])<;>(try simp only [bS,↓reduceIte] at h))|refine A5 ?_|(refine AWp.anyC (id:=3) [] [38] (by kernel_rfl) (by kernel_rfl) (by kernel_rfl) (by kernel_rfl) ?_)|(refine ⟨trivial,?_⟩)|refine gS ?_|refine aA ?_|refine nA ?_|fail)<;>(conv=>whnf))
 refine A2.by (A6p (Γ:=Γ) (C2.trans (Q6.trans (C2.trans hC.mv))) (n1,n2,n3) (fun y hy=>by rw [A2s] at hy;obtain ⟨i,_,rfl⟩:=Option.map_eq_some_iff.1 hy;exact ⟨i,rfl⟩) (3,((q.frees.map feA).length:Int),0,Tr.H9) ((q.frees.map feA).length:Int) 16) ?_
 rintro r sx ⟨es',rfl,hr⟩
 have ht:=fun e es'=>(((h1.set c3 48 _).grow (i:=2) (t':=t') (by omega) k2).set hC.nc 81 e).setM hC.nv es'
 rcases hr with ⟨hf,rfl⟩|⟨hf,hi,rfl⟩|⟨hf,hi,rfl,rfl⟩
 all_goals (
  refine wp ?_;(refine ⟨trivial,?_⟩);refine wp ?_
  refine ⟨_,Sub.refl _,?_⟩
  unfold H4)
 ·rw [if_pos (by omega)]
  exact ⟨rfl,(ht _ _).sub⟩
 ·rw [if_neg (by omega)]
  rw [A2s] at hi
  rw [if_pos (by cases hx:V3 q n1 with|none=>rw [hx] at hi;exact absurd rfl hi|some i=>rfl)]
  exact ⟨rfl,(ht _ _).sub⟩
 ·rw [if_neg (by omega)]
  rw [A2s] at hi
  have hn:V3 q n1=none:=by cases hx:V3 q n1 with|none=>rfl|some i=>rw [hx] at hi;cases hi
  rw [if_neg (by rw [hn];simp)]
  refine ⟨rfl,hC.nc,hC.nd,hC.nv,hC.ns,hC.dv,hC.ds,hC.vs,?_,?_,?_,J2 tk 2 t',a,cap,ht _ _,h2.mono fun c z hc h0 hz=>?_,A0o.trans (A3.trans ?_)⟩
  ·exact (H5 hC.dv).trans (C2.trans (Q6.trans (C2.trans hC.md)))
  ·refine S7.trans ?_
   simp [vM,A4j,fVar]
  ·exact (H5 hC.vs.symm).trans (C2.trans (Q6.trans (C2.trans hC.ms)))
  ·exact A0o.trans ((A4 hc).trans (Q5.trans ((A4 (A1 hz k_b3)).trans hz)))
  ·simp [chA,J2,feA]
theorem B1u (hC:Cst s0 s bc bd bv bs q) (hq:H7 q) (x:Tr.St) :
  A2 Tryz.prog Γ 56 [.ptr (some ⟨bc,0,none⟩),.agg (Tr.stA x)] s (P7 s0 bc bd bv bs (D6 q x)):=by
 obtain ⟨⟨n1,n2,n3⟩,nx,ac⟩:=x
 obtain ⟨tk,a,cap,h1,h2,h3⟩:=hC.st
 have hql:=hq.states
 have hdl:(q.states.map saA).length=q.states.length:=List.length_map ..
 simp only [chA] at h3
 simp only [Tr.stA]
 refine acs Tryz.func56 ?_
 conv=>whnf
 intro b3 hb3
 have k_b3:s.bx b3=none:=hb3
 have n_bc_b3:=hC.nb hb3
 have n_b3_bc:=n_bc_b3.symm
 conv=>whnf
 have c3:=h1.sub.none k_b3
 refine wp ?_
 refine ⟨(h1.set c3 _ _).may (i:=3) (by omega),fun c hc=>by obtain ⟨z,_,rfl⟩:=List.mem_map.1 hc;rfl,all_cons ⟨rfl,rfl⟩ C3,?_,?_⟩
 ·show ((q.states.map saA).length+1) * (_+1)≤_
  exact Nat.le_trans (Nat.mul_le_mul_right _ (show (q.states.map saA).length+1≤100001 by omega)) (Nat.le_of_ble_eq_true (by kernel_rfl))
 intro t' k1 k2
 conv=>whnf
 repeat' ((first|exact pru|(refine brS (fun h=>?_) (fun h=>?_)<;>(try rw [h])<;>(try simp only [bS,↓reduceIte] at h))|refine A5 ?_|(refine AWp.anyC (id:=3) [] [39] (by kernel_rfl) (by kernel_rfl) (by kernel_rfl) (by kernel_rfl) ?_)|(refine ⟨trivial,?_⟩)|refine gS ?_|refine aA ?_|refine nA ?_|fail)<;>(conv=>whnf))
 refine A2.by (A81 (Γ:=Γ) (C2.trans (Q6.trans (C2.trans hC.ms))) (n1,n2,n3) (fun y hy=>by rw [A9o] at hy;obtain ⟨i,_,rfl⟩:=Option.map_eq_some_iff.1 hy;exact ⟨i,rfl⟩) ((q.states.map saA).length:Int) ((q.states.map saA).length:Int) 32) ?_
 rintro r sx ⟨es',rfl,hr⟩
 have ht:=fun e es'=>(((h1.set c3 50 _).grow (i:=3) (t':=t') (by omega) k2).set hC.nc 81 e).setM hC.ns es'
 rcases hr with ⟨hf,rfl⟩|⟨hf,hi,rfl⟩|⟨hf,hi,rfl,rfl⟩
 all_goals (
  refine wp ?_;(refine ⟨trivial,?_⟩);refine wp ?_
  refine ⟨_,Sub.refl _,?_⟩
  unfold D6)
 ·rw [if_pos (by omega)]
  exact ⟨rfl,(ht _ _).sub⟩
 ·rw [if_neg (by omega)]
  rw [A9o] at hi
  rw [if_pos (by cases hx:idx n1 (q.states.map (·.1)) with|none=>rw [hx] at hi;exact absurd rfl hi|some i=>rfl)]
  exact ⟨rfl,(ht _ _).sub⟩
 ·rw [if_neg (by omega)]
  rw [A9o] at hi
  have hn:idx n1 (q.states.map (·.1))=none:=by cases hx:idx n1 (q.states.map (·.1)) with|none=>rfl|some i=>rw [hx] at hi;cases hi
  rw [if_neg (by rw [hn];simp)]
  refine ⟨rfl,hC.nc,hC.nd,hC.nv,hC.ns,hC.dv,hC.ds,hC.vs,?_,?_,?_,J2 tk 3 t',a,cap,ht _ _,h2.mono fun c z hc h0 hz=>?_,A0o.trans (A3.trans ?_)⟩
  ·exact (H5 hC.ds).trans (C2.trans (Q6.trans (C2.trans hC.md)))
  ·exact (H5 hC.vs).trans (C2.trans (Q6.trans (C2.trans hC.mv)))
  ·refine S7.trans ?_
   simp [sM,A4j,fInt]
  ·exact A0o.trans ((A4 hc).trans (Q5.trans ((A4 (A1 hz k_b3)).trans hz)))
  ·simp [chA,J2,saA]
end
section
variable {s0 s:Sto} {bc bd bv bs:Nat} {q:Qe}
def B0m:Res Nat→AV
 | .ok i=>.tuple [.int .i64 (i:Int),.nilIface]
 | .error e=>.tuple [.int .i64 0,A4x e]
theorem B4u (hC:Cst s0 s bc bd bv bs q) (x:Tr.Idn) :
  A2 Tryz.prog Γ 58 [.ptr (some ⟨bc,0,none⟩),.agg (Tr.S1 x)] s fun v s'=>v=B0m (K9 q x)∧s'=s:=by
 obtain ⟨n1,n2,n3⟩:=x
 obtain ⟨tk,a,cap,h1,h2,h3⟩:=hC.st
 have hat:=B2z (Γ:=Γ) 11 (n1,n2,n3)
 simp only [Tr.S1] at hat ⊢
 simp only [chA] at h3
 have hf:=A9o q n1
 have hF:K9 q (n1,n2,n3)=match idx n1 (q.states.map (·.1)) with
  | none=>.error (11,n2,n3)
  | some i=>.ok i:=rfl
 rw [hF]
 rcases hi:idx n1 (q.states.map (·.1)) with _|i
 ·rw [hi] at hf
  refine acs Tryz.func58 ?_
  conv=>whnf
  intro b3 hb3
  have n_bc_b3:=hC.nb hb3
  refine wp ?_;(refine T7 (C2.trans hC.ms) ?_);refine wp ?_;(refine U1.miss hf ?_);refine wp ?_
  exact ⟨s,(Sub.refl _).set hb3 _ _,by rw [hi];rfl,rfl⟩
 ·rw [hi] at hf
  refine acs Tryz.func58 ?_
  conv=>whnf
  intro b3 hb3
  have n_bc_b3:=hC.nb hb3
  refine wp ?_;(refine T7 (C2.trans hC.ms) ?_);refine wp ?_;(refine U1.hit hf ?_);refine wp ?_
  exact ⟨s,(Sub.refl _).set hb3 _ _,by rw [hi];rfl,rfl⟩
def C8s (q:Qe) (v:Int × Nat):Prop:=(v.1=2∧v.2 < q.quants.length)∨(v.1=3∧v.2 < q.frees.length)
theorem C6q {q:Qe} {n:List UInt8} {v:Int × Nat} (h:V3 q n=some v):C8s q v:=by
 rcases C8p h with ⟨h1,h2,_⟩|⟨h1,h2,_⟩
 ·exact .inl ⟨h1,h2⟩
 ·exact .inr ⟨h1,h2⟩
theorem C7r {tk:Nat→Nat} {a:Option Addr} {cap:Nat} (h3:s.bx bc=some (81,chA tk a cap q bd bv bs)) (v:Int × Nat) (hv:C8s q v) :
  A2 Tryz.prog Γ 143 [.ptr (some ⟨bc,0,none⟩),.agg (ndA (v.1,(v.2:Int),0,Tr.H9))] s fun r s'=>r=.int .i64 (A15 q v)∧s'=s:=by
 obtain ⟨v1,v2⟩:=v
 simp only [chA] at h3
 simp only [ndA,Tr.H9]
 have l1:(q.quants.map qtA).length=q.quants.length:=List.length_map ..
 have l2:(q.frees.map feA).length=q.frees.length:=List.length_map ..
 rcases hv with ⟨h0,hlt⟩|⟨h0,hlt⟩
 ·simp only at h0 hlt
  subst h0
  have hga:(q.quants.map qtA).getD ((v2:Int)).toNat []=qtA (q.quants.getD v2 A4y):=by rw [Int.toNat_natCast];exact Tr.B9 A4y hlt
  rw [show A15 q (2,v2)=(q.quants.getD v2 A4y).2.2 from rfl]
  generalize q.quants.getD v2 A4y=u at *
  simp only [qtA] at hga
  refine acs Tryz.func143 ?_
  conv=>whnf
  intro b3 hb3
  have n_bc_b3:bc≠b3:=A1 h3 hb3
  refine wp ?_
  exact ⟨s,(Sub.refl _).set hb3 _ _,rfl,rfl⟩
 ·simp only at h0 hlt
  subst h0
  have hga:(q.frees.map feA).getD ((v2:Int)).toNat []=feA (q.frees.getD v2 A5r):=by rw [Int.toNat_natCast];exact Tr.B9 A5r hlt
  rw [show A15 q (3,v2)=(q.frees.getD v2 A5r).2.1 from rfl]
  generalize q.frees.getD v2 A5r=u at *
  simp only [feA] at hga
  refine acs Tryz.func143 ?_
  conv=>whnf
  intro b3 hb3
  have n_bc_b3:bc≠b3:=A1 h3 hb3
  refine wp ?_
  exact ⟨s,(Sub.refl _).set hb3 _ _,rfl,rfl⟩
def C9f (q:Qe) (x:Tr.Ar):Ag:=if x.1=1 then (1,0,x.2.2.1) else match V3 q x.2.1 with
 | none=>(4,0,Tr.H9)
 | some u=>(u.1,(u.2:Int),Tr.H9)
def C1f (o:Ag):Res Ag→AV
 | .ok x=>.tuple [.agg (agA x),.nilIface]
 | .error e=>.tuple [.agg (agA o),A4x e]
def D2d (s:Sto) (o:Ag) (r:Res Ag) (v:AV) (s':Sto):Prop :=
 match r with
 | .ok x=>v=.tuple [.agg (agA x),.nilIface]∧Sub s s'
 | .error e=>∃ b,s.bx b=none∧s'.bx b=some (90,A9g e)∧v=.tuple [.agg (agA o),.iface 82 (.ptr (some ⟨b,0,none⟩))]∧Sub s s'
theorem C3w {f:FuncId} {args:List AV} {o:Ag} {r:Res Ag} (h:A2 Tryz.prog Γ f args s (D2d s o r)):A2 Tryz.prog Γ f args s fun v s'=>v=C1f o r∧s'=s:=by
 refine h.frz ?_
 intro v s' hv
 cases r with
 | ok x =>
  obtain ⟨rfl,hs⟩:=hv
  refine ⟨fz0,s,A74,hs,?_,rfl⟩
  rw [A3s]
  simp only [fg,fgL,agA,C1f]
 | error e =>
  obtain ⟨b,h1,h2,rfl,hs⟩:=hv
  refine ⟨fz1 b 0 (A9g e),s,A76 h1 h2,hs,?_,rfl⟩
  simp only [fz,fzL,fzP,A75,List.drop_zero,fg,fgL,agA,C1f,A4x,A9g]
theorem C9g (hC:Cst s0 s bc bd bv bs q) (x:Tr.Ar) (hx:x.1=1∨x.1=2∨x.1=3) (k:Int) :
  A2 Tryz.prog Γ 112 [.ptr (some ⟨bc,0,none⟩),.agg (Tr.arA x),.int .i64 k] s fun v s'=>v=C1f (C9f q x) (U0 q x k)∧s'=s:=by
 refine C3w ?_
 obtain ⟨x1,x2,⟨v1,v2,v3,v4⟩,x4,x5⟩:=x
 obtain ⟨tk,a,cap,h1,h2,h3⟩:=hC.st
 have h3':=h3
 simp only [chA] at h3
 simp only [Tr.arA]
 simp only at hx
 rcases hx with rfl|rfl|rfl
 ·have hF:U0 q (1,x2,(v1,v2,v3,v4),x4,x5) k=if v1=k then .ok (1,0,v1,v2,v3,v4) else .error (8,x4,x5):=rfl
  refine acs Tryz.func112 ?_
  conv=>whnf
  intro b4 hb4
  have k_b4:=hb4
  repeat replace k_b4:=A0 k_b4
  conv=>whnf
  intro b6 hb6
  have k_b6:=hb6
  repeat replace k_b6:=A0 k_b6
  have n_b4_b6:b4≠b6:=by (have k:=hb6;repeat (first|exact A6 k|replace k:=A0 k))
  have n_b6_b4:=n_b4_b6.symm
  refine wp ?_
  intro b8 hb8
  have k_b8:=hb8
  repeat replace k_b8:=A0 k_b8
  have n_b4_b8:b4≠b8:=by (have k:=hb8;repeat (first|exact A6 k|replace k:=A0 k))
  have n_b8_b4:=n_b4_b8.symm
  have n_b6_b8:b6≠b8:=by (have k:=hb8;repeat (first|exact A6 k|replace k:=A0 k))
  have n_b8_b6:=n_b6_b8.symm
  conv=>whnf
  repeat' ((first|exact pru|(refine brS (fun h=>?_) (fun h=>?_)<;>(try rw [h])<;>(try simp only [bS,↓reduceIte] at h))|refine A5 ?_|(refine AWp.anyP (id:=4) [(22,true),(8,false)] (fun k=>cond k b4 b8) [0,1,2,3,4,5,6,7] n_b4_b8 (by kernel_rfl) (by kernel_rfl) (by kernel_rfl) (by kernel_rfl) ?_)|(refine AWp.anyP (id:=11) [(60,true),(62,true),(6,false)] (fun k=>cond k b4 b6) [0,1,2,3,4,5,6,7,8,9,10] n_b4_b6 (by kernel_rfl) (by kernel_rfl) (by kernel_rfl) (by kernel_rfl) ?_)|(refine oA ?_)|refine gS ?_|refine aA ?_|refine nA ?_|fail)<;>(conv=>whnf))
  ·intro b hb
   have k_b:=hb
   repeat replace k_b:=A0 k_b
   have n_b4_b:b4≠b:=A1 bxa hb
   have n_b_b4:=n_b4_b.symm
   have n_b6_b:b6≠b:=A1 bxa hb
   have n_b_b6:=n_b6_b.symm
   have n_b8_b:b8≠b:=A1 bxa hb
   have n_b_b8:=n_b8_b.symm
   conv=>whnf
   repeat' ((first|exact pru|(refine brS (fun h=>?_) (fun h=>?_)<;>(try rw [h])<;>(try simp only [bS,↓reduceIte] at h))|refine A5 ?_|(refine oA ?_)|refine gS ?_|refine aA ?_|refine nA ?_|fail)<;>(conv=>whnf))
   refine ⟨_,Sub.refl _,?_⟩
   rw [hF,if_neg h]
   exact ⟨b,k_b,bxa,rfl,N2⟩
  ·refine ⟨_,Sub.refl _,?_⟩
   rw [hF,if_pos h]
   exact ⟨rfl,N2⟩
 ·have hf:=A2s q x2
  rcases hi:V3 q x2 with _|u
  ·rw [hi] at hf
   have hF:U0 q (2,x2,(v1,v2,v3,v4),x4,x5) k=.error (11,x4,x5):=by
    unfold U0
    simp only [hi]
    rfl
   rw [hF]
   refine acs Tryz.func112 ?_
   conv=>whnf
   intro b4 hb4
   have k_b4:=hb4
   repeat replace k_b4:=A0 k_b4
   conv=>whnf
   intro b6 hb6
   have k_b6:=hb6
   repeat replace k_b6:=A0 k_b6
   have n_b4_b6:b4≠b6:=by (have k:=hb6;repeat (first|exact A6 k|replace k:=A0 k))
   have n_b6_b4:=n_b4_b6.symm
   refine wp ?_
   have n_bc_b4:=hC.nb k_b4
   have n_bc_b6:=hC.nb k_b6
   intro b8 hb8
   have k_b8:=hb8
   repeat replace k_b8:=A0 k_b8
   have n_b4_b8:b4≠b8:=by (have k:=hb8;repeat (first|exact A6 k|replace k:=A0 k))
   have n_b8_b4:=n_b4_b8.symm
   have n_b6_b8:b6≠b8:=by (have k:=hb8;repeat (first|exact A6 k|replace k:=A0 k))
   have n_b8_b6:=n_b6_b8.symm
   conv=>whnf
   have n_bc_b8:=hC.nb k_b8
   refine wp ?_;(refine T7 (C2.trans (C2.trans (C2.trans (C2.trans hC.mv)))) ?_);refine wp ?_;(refine U1.miss hf ?_);refine wp ?_
   intro b10 hb10
   have k_b10:=hb10
   repeat replace k_b10:=A0 k_b10
   have n_b4_b10:b4≠b10:=A1 bxa hb10
   have n_b10_b4:=n_b4_b10.symm
   have n_b6_b10:b6≠b10:=A1 bxa hb10
   have n_b10_b6:=n_b6_b10.symm
   have n_b8_b10:b8≠b10:=A1 bxa hb10
   have n_b10_b8:=n_b8_b10.symm
   conv=>whnf
   repeat' ((first|exact pru|(refine brS (fun h=>?_) (fun h=>?_)<;>(try rw [h])<;>(try simp only [bS,↓reduceIte] at h))|refine A5 ?_|(refine AWp.anyP (id:=8) [(40,true),(42,true),(6,false)] (fun k=>cond k b4 b6) [0,1,2,3,4,5,6,7,8,9,10] n_b4_b6 (by kernel_rfl) (by kernel_rfl) (by kernel_rfl) (by kernel_rfl) ?_)|(refine oA ?_)|refine gS ?_|refine aA ?_|refine nA ?_|fail)<;>(conv=>whnf))
   intro b hb
   have k_b:=hb
   repeat replace k_b:=A0 k_b
   have n_b4_b:b4≠b:=A1 bxa hb
   have n_b_b4:=n_b4_b.symm
   have n_b6_b:b6≠b:=A1 bxa hb
   have n_b_b6:=n_b6_b.symm
   have n_b8_b:b8≠b:=A1 bxa hb
   have n_b_b8:=n_b8_b.symm
   have n_b10_b:b10≠b:=A1 bxa hb
   have n_b_b10:=n_b10_b.symm
   conv=>whnf
   repeat' ((first|exact pru|(refine brS (fun h=>?_) (fun h=>?_)<;>(try rw [h])<;>(try simp only [bS,↓reduceIte] at h))|refine A5 ?_|(refine oA ?_)|refine gS ?_|refine aA ?_|refine nA ?_|fail)<;>(conv=>whnf))
   refine ⟨_,Sub.refl _,b,k_b,bxa,?_,N2⟩
   unfold C9f
   simp only [hi]
   rfl
  ·rw [hi] at hf
   have hF:U0 q (2,x2,(v1,v2,v3,v4),x4,x5) k=if A15 q u=k then .ok (u.1,(u.2:Int),Tr.H9) else .error (8,x4,x5):=by
    unfold U0
    simp only [hi]
    rfl
   have hk:=fun (s':Sto) (h:s'.bx bc=s.bx bc)=>C7r (Γ:=Γ) (h.trans h3') u (C6q hi)
   simp only [h3,ndA,Tr.H9] at hk
   rw [hF]
   refine acs Tryz.func112 ?_
   conv=>whnf
   intro b4 hb4
   have k_b4:=hb4
   repeat replace k_b4:=A0 k_b4
   conv=>whnf
   intro b6 hb6
   have k_b6:=hb6
   repeat replace k_b6:=A0 k_b6
   have n_b4_b6:b4≠b6:=by (have k:=hb6;repeat (first|exact A6 k|replace k:=A0 k))
   have n_b6_b4:=n_b4_b6.symm
   refine wp ?_
   have n_bc_b4:=hC.nb k_b4
   have n_bc_b6:=hC.nb k_b6
   intro b8 hb8
   have k_b8:=hb8
   repeat replace k_b8:=A0 k_b8
   have n_b4_b8:b4≠b8:=by (have k:=hb8;repeat (first|exact A6 k|replace k:=A0 k))
   have n_b8_b4:=n_b4_b8.symm
   have n_b6_b8:b6≠b8:=by (have k:=hb8;repeat (first|exact A6 k|replace k:=A0 k))
   have n_b8_b6:=n_b6_b8.symm
   conv=>whnf
   have n_bc_b8:=hC.nb k_b8
   refine wp ?_;(refine T7 (C2.trans (C2.trans (C2.trans (C2.trans hC.mv)))) ?_);refine wp ?_;(refine U1.hit hf ?_);refine wp ?_
   intro b10 hb10
   have k_b10:=hb10
   repeat replace k_b10:=A0 k_b10
   have n_bc_b10:=hC.nb k_b10
   have n_b4_b10:b4≠b10:=A1 bxa hb10
   have n_b10_b4:=n_b4_b10.symm
   have n_b6_b10:b6≠b10:=A1 bxa hb10
   have n_b10_b6:=n_b6_b10.symm
   have n_b8_b10:b8≠b10:=A1 bxa hb10
   have n_b10_b8:=n_b8_b10.symm
   conv=>whnf
   repeat' ((first|exact pru|(refine brS (fun h=>?_) (fun h=>?_)<;>(try rw [h])<;>(try simp only [bS,↓reduceIte] at h))|refine A5 ?_|(refine AWp.anyC (id:=9) [54] [] (by kernel_rfl) (by kernel_rfl) (by kernel_rfl) (by kernel_rfl) ?_)|(refine B2n.mk _ (hk _ bxa) ?_)|(refine AWp.anyP (id:=11) [(60,true),(62,true),(6,false)] (fun k=>cond k b4 b6) [0,1,2,3,4,5,6,7,8,9,10] n_b4_b6 (by kernel_rfl) (by kernel_rfl) (by kernel_rfl) (by kernel_rfl) ?_)|(refine oA ?_)|refine gS ?_|refine aA ?_|refine nA ?_|fail)<;>(conv=>whnf))
   ·intro b hb
    have k_b:=hb
    repeat replace k_b:=A0 k_b
    have n_b4_b:b4≠b:=A1 bxa hb
    have n_b_b4:=n_b4_b.symm
    have n_b6_b:b6≠b:=A1 bxa hb
    have n_b_b6:=n_b6_b.symm
    have n_b8_b:b8≠b:=A1 bxa hb
    have n_b_b8:=n_b8_b.symm
    have n_b10_b:b10≠b:=A1 bxa hb
    have n_b_b10:=n_b10_b.symm
    conv=>whnf
    repeat' ((first|exact pru|(refine brS (fun h=>?_) (fun h=>?_)<;>(try rw [h])<;>(try simp only [bS,↓reduceIte] at h))|refine A5 ?_|(refine oA ?_)|refine gS ?_|refine aA ?_|refine nA ?_|fail)<;>(conv=>whnf))
    refine ⟨_,Sub.refl _,?_⟩
    rw [if_neg h]
    refine ⟨b,k_b,bxa,?_,N2⟩
    unfold C9f
    simp only [hi]
    rfl
   ·refine ⟨_,Sub.refl _,?_⟩
    rw [if_pos h]
    exact ⟨rfl,N2⟩
 ·have hF:U0 q (3,x2,(v1,v2,v3,v4),x4,x5) k=.ok (4,0,Tr.H9):=rfl
  rw [hF]
  refine acs Tryz.func112 ?_
  conv=>whnf
  intro b4 hb4
  have k_b4:=hb4
  repeat replace k_b4:=A0 k_b4
  conv=>whnf
  intro b6 hb6
  have k_b6:=hb6
  repeat replace k_b6:=A0 k_b6
  have n_b4_b6:b4≠b6:=by (have k:=hb6;repeat (first|exact A6 k|replace k:=A0 k))
  have n_b6_b4:=n_b4_b6.symm
  refine wp ?_
  intro b8 hb8
  have k_b8:=hb8
  repeat replace k_b8:=A0 k_b8
  have n_b4_b8:b4≠b8:=by (have k:=hb8;repeat (first|exact A6 k|replace k:=A0 k))
  have n_b8_b4:=n_b4_b8.symm
  have n_b6_b8:b6≠b8:=by (have k:=hb8;repeat (first|exact A6 k|replace k:=A0 k))
  have n_b8_b6:=n_b6_b8.symm
  refine wp ?_
  exact ⟨_,Sub.refl _,rfl,N2⟩
end
end Go.Proofs.YtaammejliikieaaGreatDoor.Ck
namespace Go.Proofs.YtaammejliikieaaGreatDoor.Ck
open Go Go.Ab Go.RowKit Go.Proofs.YtaammejliikieaaGreatDoor.Pa
variable {Γ:Nat→AV}
section
variable {s0 s:Sto} {bc bd bv bs:Nat} {q:Qe}
def A8g (s0:Sto) (b:Nat) (T:TypeId) (cs:List AV) (t:Nat) (e:TypeId) (m:Nat):Sto:=(s0.set b T cs).grow 1 t e m
theorem A4q {b c:Nat} {T:TypeId} {cs:List AV} {t:Nat} {e:TypeId} {m:Nat}:(A8g s0 b T cs t e m).bx c=(s0.set b T cs).bx c:=rfl
theorem A23 {b:Nat} {T:TypeId} {cs:List AV} {t:Nat} {e:TypeId} {m u:Nat} {e':TypeId} {k':Nat}:(A8g s0 b T cs t e m).lv u e' k'↔(u=t∧t≠1∧e'=e∧k'=m)∨s0.lv u e' k':=by
 unfold A8g Sto.grow Sto.set
 simp
theorem C5q {b:Nat} {T:TypeId} {cs:List AV} {e:TypeId} {m:Nat}:A8g s0 b T cs 1 e m=s0.set b T cs:=by
 unfold A8g Sto.grow
 simp
theorem B7n {b:Nat} {T:TypeId} {cs:List AV} {t:Nat} {e:TypeId} {m:Nat} (hb:s0.bx b=none):Sub s0 (A8g s0 b T cs t e m):=by
 have h1:Sub s0 (s0.set b T cs):=(Sub.refl s0).set hb T cs
 exact ⟨fun c x hx=>h1.bx c x hx,fun u e' k' hx=>A23.2 (.inr hx),fun c x hx=>h1.mp c x hx⟩
theorem Cst.of_sub {s2:Sto} (h:Cst s0 s bc bd bv bs q) (hs:Sub s2 s0):Cst s2 s bc bd bv bs q:=by
 obtain ⟨tk,a,cap,h1,h2,h3⟩:=h.st
 refine ⟨hs.none h.nc,hs.noneM h.nd,hs.noneM h.nv,hs.noneM h.ns,h.dv,h.ds,h.vs,h.md,h.mv,h.ms,tk,a,cap,h1.of_sub hs,⟨h2.none,fun hl=>?_⟩,h3⟩
 obtain ⟨bt,rest,g1,g2,g3,g4⟩:=h2.some hl
 exact ⟨bt,rest,g1,g2,hs.none g3,g4⟩
theorem Cst.dropRow {b:Nat} {T:TypeId} {cs:List AV} {t:Nat} {e:TypeId} {m:Nat} (h:Cst (A8g s0 b T cs t e m) s bc bd bv bs q) (hb:s0.bx b=none):Cst s0 s bc bd bv bs q∧s.bx b=some (T,cs)∧b≠bc∧(t=1∨s.lv t e m):=by
 have hs:=h.sub
 refine ⟨h.of_sub (B7n hb),hs.bx _ _ (A4q.trans A3),?_,?_⟩
 ·rintro rfl
  have:=h.nc
  rw [A4q,A3] at this;cases this
 ·by_cases ht:t=1
  ·exact .inl ht
  ·exact .inr (hs.lv _ _ _ (A23.2 (.inl ⟨rfl,ht,rfl,rfl⟩)))
theorem Cst.grown {b:Nat} {T:TypeId} {cs cs':List AV} {t t':Nat} {e:TypeId} {m:Nat} (h:Cst (A8g s0 b T cs t e m) s bc bd bv bs q) (ht:t=1∨∀ e k,¬ s0.lv t e k) (k2:t'≠t→∀ e' k',¬ s.lv t' e' k') (hb:s0.bx b=none) :
  Cst (A8g s0 b T cs' t' e m) ((s.grow t t' e m).set b T cs') bc bd bv bs q∧(t'=1∨∀ e k,¬ s0.lv t' e k):=by
 obtain ⟨_,hbx,hne,hlv⟩:=h.dropRow hb
 obtain ⟨tk,a,cap,h1,h2,h3⟩:=h.st
 have hsub0:Sub s0 s:=(B7n hb).trans h1.sub
 have hsub:Sub (A8g s0 b T cs' t' e m) ((s.grow t t' e m).set b T cs'):=by
  refine ⟨fun c x hx=>?_,fun v e' k' hx=>?_,fun c x hx=>h1.sub.mp c x hx⟩
  ·rw [A4q] at hx
   by_cases hcb:c=b
   ·subst hcb
    rw [A3] at hx ⊢
    exact hx
   ·rw [A4 hcb] at hx ⊢
    exact hsub0.bx c x hx
  ·show (v=t'∧t'≠1∧e'=e∧k'=m)∨(s.lv v e' k'∧(v≠t∨t=1))
   rcases A23.1 hx with hx|hx
   ·exact .inl hx
   ·refine .inr ⟨hsub0.lv _ _ _ hx,?_⟩
    rcases ht with ht|ht
    ·exact .inr ht
    ·exact .inl fun hv=>ht _ _ (hv ▸ hx)
 have hfree:t'=1∨∀ e k,¬ s0.lv t' e k:=by
  by_cases htt:t'=t
  ·rw [htt];exact ht
  ·exact .inr fun e' k' hx=>k2 htt _ _ (hsub0.lv _ _ _ hx)
 refine ⟨⟨?_,?_,?_,?_,h.dv,h.ds,h.vs,h.md,h.mv,h.ms,tk,a,cap,⟨hsub,fun i hi=>?_,h1.ne⟩,⟨h2.none,fun hl=>?_⟩,(A4 hne.symm).trans h3⟩,hfree⟩
 ·rw [A4q,A4 hne.symm,← A4 (s:=s0) (T:=T) (cs:=cs) hne.symm];exact h.nc
 ·exact h.nd
 ·exact h.nv
 ·exact h.ns
 ·rcases h1.own i hi with g1|⟨g1,g2,g3⟩
  ·exact .inl g1
  ·have n1:tk i≠t:=fun hu=>g3 e m (A23.2 (.inl ⟨hu,fun ht1=>g1 (hu.trans ht1),rfl,rfl⟩))
   have n2:tk i≠t':=fun hu=>by
    by_cases htt:t'=t
    ·exact n1 (hu.trans htt)
    ·exact k2 htt _ _ (hu ▸ g2)
   refine .inr ⟨g1,.inr ⟨g2,.inl n1⟩,fun e' k' hx=>?_⟩
   rcases A23.1 hx with hx|hx
   ·exact n2 hx.1
   ·exact g3 _ _ (A23.2 (.inr hx))
 ·obtain ⟨bt,rest,g1,g2,g3,g4,g5⟩:=h2.some hl
  have hbt:bt≠b:=by rintro rfl;rw [A4q,A3] at g3;cases g3
  refine ⟨bt,rest,g1,g2,?_,(A4 hbt).trans g4,g5⟩
  rw [A4q,A4 hbt] at g3 ⊢
  exact g3
end
end Go.Proofs.YtaammejliikieaaGreatDoor.Ck
namespace Go.Proofs.YtaammejliikieaaGreatDoor.Ck
open Go Go.Ab Go.RowKit Go.Proofs.YtaammejliikieaaGreatDoor.Pa
variable {Γ:Nat→AV}
attribute [local irreducible] A8 Sto.set Sto.grow
theorem C4q:(!Tryz.prog.eqGuardType Tryz.prog.depth 169)=true:=by kernel_rfl
theorem B9l:A05 Tryz.prog 9999 169=some [(0,0),(1,0),(2,0),(3,0),(4,1),(5,2)]:=by kernel_rfl
theorem C4a (x y:Ag):(decide (x.1=y.1) && (decide (x.2.1=y.2.1) && (decide (x.2.2.1=y.2.2.1) && (decide (x.2.2.2.1=y.2.2.2.1) && (decide (x.2.2.2.2.1=y.2.2.2.2.1) && ((x.2.2.2.2.2 == y.2.2.2.2.2) && true))))))=decide (x=y):=by
 rw [Bool.eq_iff_iff];simp [Prod.ext_iff,and_assoc]
theorem B8y (ta tb:Nat) (a b:List Ag) (hl:a.length≤140737488355328):A8 Tryz.prog Γ 115 [.slice ta (a.map agA),.slice tb (b.map agA)] fun v=>v=.bool (decide (a=b)):=by
 have hla:(a.map agA).length=a.length:=List.length_map ..
 have hlb:(b.map agA).length=b.length:=List.length_map ..
 refine aps Tryz.func115 ?_
 intro s
 conv=>whnf
 repeat' ((first|(refine brS (fun h=>?_) (fun h=>?_)<;>(try rw [h])<;>(try simp only [bS,↓reduceIte] at h))|refine gS ?_|refine aA ?_|refine nA ?_|fail)<;>(conv=>whnf))
 ·refine Tr.C4 (decide_eq_false ?_).symm
  rintro rfl
  omega
 refine AWp.loopA [13] [14,15,5,16,17,18,19,20,21,22,23,24,4,25] (fun i:Nat=>[.int .i64 i]) (fun i s'=>i≤a.length∧s'=s∧decide (a=b)=decide (a.drop i=b.drop i)) (fun i=>a.length - i) (0) (by kernel_rfl) (eqa) ?_ ?_
 ·exact ⟨by omega,rfl,by simp⟩
 ·rintro y i s1 ⟨hi,rfl,hp⟩
  conv=>whnf
  have hga:=fun h:i < a.length=>Tr.B9 (f:=agA) (l:=a) A0m h
  have hgb:=fun h:i < b.length=>Tr.B9 (f:=agA) (l:=b) A0m h
  have he:=C4a (a.getD i A0m) (b.getD i A0m)
  have hd:=fun (h:i < a.length) (h':i < b.length)=>Tr.A8v (d:=A0m) h h'
  generalize a.getD i A0m=x at *
  generalize b.getD i A0m=z at *
  repeat' ((first|(refine brS (fun h=>?_) (fun h=>?_)<;>(try rw [h])<;>(try simp only [bS,↓reduceIte] at h))|(rw [show (a.map agA).getD ((i:Int)).toNat []=_ from hga (by omega)])|(rw [show (b.map agA).getD ((i:Int)).toNat []=_ from hgb (by omega)])|(refine P9.of C4q B9l ?_)|refine gS ?_|refine aA ?_|refine nA ?_|fail)<;>(conv=>whnf))
  ·refine Tr.C4 ?_
   rw [hp,hd (by omega) (by omega),← he,h]
   rfl
  ·refine ⟨i+1,eqa,B8,⟨by omega,(by first|rfl|trivial),?_⟩,by omega⟩
   rw [hp,hd (by omega) (by omega),← he,h,Bool.true_and]
  ·rw [hp,C0 (by omega),C0 (by omega)]
   rfl
def P8 {α:Type} (p:α→Bool):List α→Option Nat
 | []=>none
 | x::l=>if p x=true then some 0 else (P8 p l).map (·+1)
def F0:Option Nat→Int
 | some i=>(i:Int)
 | none=>-1
theorem A6l {α:Type} [DecidableEq α] (n:α):∀ l:List α,P8 (fun x=>decide (x=n)) l=idx n l
 | []=>rfl
 | x::l=>by
  unfold P8 idx
  rw [A6l n l]
  simp only [decide_eq_true_eq]
theorem B6l {α:Type} (p:α→Bool):∀ l:List α,(P8 p l).isSome=l.any p
 | []=>rfl
 | x::l=>by
  unfold P8
  rw [List.any_cons]
  cases hx:p x
  ·simp only [Bool.false_eq_true,if_false,Option.isSome_map,Bool.false_or]
   exact B6l p l
  ·simp
theorem B1f {α:Type} (p:α→Bool) (l:List α):decide (F0 (P8 p l) ≥ 0)=l.any p:=by
 rw [← B6l]
 cases P8 p l with
 | none=>rfl
 | some i=>exact decide_eq_true (show (i:Int) ≥ 0 by omega)
theorem X4 {α:Type} (p:α→Bool) {l:List α} {i:Nat} (d:α) (h:i < l.length):P8 p (l.drop i)=if p (l.getD i d)=true then some 0 else (P8 p (l.drop (i+1))).map (·+1):=by
 rw [List.drop_eq_getElem_cons h,P8]
 simp [List.getD,h]
theorem A1i (o:Option Nat) (i:Nat):F0 ((o.map (·+1)).map (i+·))=F0 (o.map (i+1+·)):=by
 cases o with
 | none=>rfl
 | some k=>simp only [Option.map_some,F0];omega
theorem B85 (t:Nat) (l:List Ag) (x:Ag) (hl:l.length≤140737488355328):A8 Tryz.prog Γ 190 [.slice t (l.map agA),.agg (agA x)] fun v=>v=.int .i64 (F0 (P8 (fun y=>decide (x=y)) l)):=by
 have hla:(l.map agA).length=l.length:=List.length_map ..
 obtain ⟨x1,x2,x3,x4,x5,x6⟩:=x
 simp only [agA]
 refine aps Tryz.func190 ?_
 intro s
 conv=>whnf
 intro b hb
 refine wr ?_
 refine AWp.loopA [8] [9,10,5,11,12,13,14,15,16,17,4,18] (fun i:Nat=>[.int .i64 i]) (fun i s'=>i≤l.length∧s'=s.set b 169 (agA (x1,x2,x3,x4,x5,x6))∧F0 (P8 (fun y=>decide ((x1,x2,x3,x4,x5,x6)=y)) l)=F0 ((P8 (fun y=>decide ((x1,x2,x3,x4,x5,x6)=y)) (l.drop i)).map (i+·))) (fun i=>l.length - i) (0) (by kernel_rfl) (eqa) ?_ ?_
 ·refine ⟨by omega,rfl,?_⟩
  rw [List.drop_zero]
  cases P8 (fun y=>decide ((x1,x2,x3,x4,x5,x6)=y)) l<;>simp [F0]
 ·rintro y i s1 ⟨hi,rfl,hp⟩
  simp only [agA]
  conv=>whnf
  have hga:=fun h:i < l.length=>Tr.B9 (f:=agA) (l:=l) A0m h
  have he:=C4a (x1,x2,x3,x4,x5,x6) (l.getD i A0m)
  have hd:=fun (h:i < l.length)=>X4 (fun y=>decide ((x1,x2,x3,x4,x5,x6)=y)) A0m h
  generalize l.getD i A0m=z at *
  repeat' ((first|(refine brS (fun h=>?_) (fun h=>?_)<;>(try rw [h])<;>(try simp only [bS,↓reduceIte] at h))|(rw [show (l.map agA).getD ((i:Int)).toNat []=_ from hga (by omega)])|(refine P9.of C4q B9l ?_)|refine gS ?_|refine aA ?_|refine nA ?_|fail)<;>(conv=>whnf))
  ·refine ⟨(Sub.refl _).set hb _ _,congrArg (AV.int .i64) ?_⟩
   rw [hp,hd (by omega),← he,h]
   simp [F0]
  ·refine ⟨i+1,eqa,B8,⟨by omega,(by first|rfl|trivial),?_⟩,by omega⟩
   rw [hp,hd (by omega),← he,h]
   exact A1i _ _
  ·refine ⟨(Sub.refl _).set hb _ _,congrArg (AV.int .i64) ?_⟩
   rw [hp,C0 (by omega)]
   rfl
theorem B2e (t:Nat) (l:List Ag) (x:Ag) (hl:l.length≤140737488355328):A8 Tryz.prog Γ 147 [.slice t (l.map agA),.agg (agA x)] fun v=>v=.bool (decide (x ∈ l)):=by
 have hi:=B85 (Γ:=Γ) t l x hl
 have hp:=B1f (fun y=>decide (x=y)) l
 obtain ⟨x1,x2,x3,x4,x5,x6⟩:=x
 simp only [agA] at hi ⊢
 refine aps Tryz.func147 ?_
 intro s
 conv=>whnf
 intro b hb
 refine wr ?_
 refine ⟨(Sub.refl _).set hb _ _,Tr.C4 ?_⟩
 rw [hp,Bool.eq_iff_iff]
 simp
theorem C23 (t:Nat) (m:Sm) (i:Int) (hl:m.2.length≤140737488355328):A8 Tryz.prog Γ 120 [.agg (smA (t,m)),.int .i64 i] fun v=>v=.bool (M2 m i):=by
 have hc:=B2e (Γ:=Γ) t m.2 (2,i,Tr.H9) hl
 obtain ⟨m1,m2⟩:=m
 simp only [agA,Tr.H9] at hc
 simp only [smA]
 refine aps Tryz.func120 ?_
 intro s
 conv=>whnf
 intro b hb
 refine wr ?_
 exact ⟨(Sub.refl _).set hb _ _,rfl⟩
theorem B0z {s:Sto} {n:FuncId} {cs:List AV} (hn:A6a Tryz.prog n=true) (p:Sm→Bool) (t:Nat) (l:List Sm) (hl:l.length≤140737488355328)
  (hp:∀ x ∈ l,A2 Tryz.prog Γ n (.agg (smA (0,x))::cs) s fun v s'=>v=.bool (p x)∧s'=s) :
  A2 Tryz.prog Γ 113 [.slice t (sms l),.func (.func n) [] cs] s fun v s'=>v=.int .i64 (F0 (P8 p l))∧s'=s:=by
 have hla:(sms l).length=l.length:=List.length_map ..
 refine acs Tryz.func113 ?_
 refine wr ?_
 refine AWp.loopA [8] [9,10,5,11,12,13,14,15,16,17,4,18] (fun i:Nat=>[.int .i64 i]) (fun i s'=>i≤l.length∧s'=s∧F0 (P8 p l)=F0 ((P8 p (l.drop i)).map (i+·))) (fun i=>l.length - i) (0) (by kernel_rfl) (eqa) ?_ ?_
 ·refine ⟨by omega,rfl,?_⟩
  rw [List.drop_zero]
  cases P8 p l<;>simp [F0]
 ·rintro y i s1 ⟨hi,rfl,hq⟩
  conv=>whnf
  have hga:=fun h:i < l.length=>Tr.B9 (f:=fun x=>smA (0,x)) (l:=l) P4 h
  have hd:=fun (h:i < l.length)=>X4 p P4 h
  have hpx:=fun h:i < l.length=>hp _ (Tr.D4 P4 h)
  generalize l.getD i P4=z at *
  simp only [smA] at hga hpx
  repeat' ((first|(refine brS (fun h=>?_) (fun h=>?_)<;>(try rw [h])<;>(try simp only [bS,↓reduceIte] at h))|(rw [show (sms l).getD ((i:Int)).toNat []=_ from hga (by omega)])|refine gS ?_|refine aA ?_|refine nA ?_|fail)<;>(conv=>whnf))
  ·rw [C8]
   refine A2.by (hpx (by omega)) ?_
   rintro _ _ ⟨rfl,rfl⟩
   conv=>whnf
   repeat' ((first|(refine brS (fun h=>?_) (fun h=>?_)<;>(try rw [h])<;>(try simp only [bS,↓reduceIte] at h))|refine gS ?_|refine aA ?_|refine nA ?_|fail)<;>(conv=>whnf))
   ·refine ⟨_,Sub.refl _,congrArg (AV.int .i64) ?_,rfl⟩
    rw [hq,hd (by omega),if_pos h]
    simp [F0]
   ·refine ⟨i+1,eqa,B8,⟨by omega,(by first|rfl|trivial),?_⟩,by omega⟩
    rw [hq,hd (by omega),if_neg (by rw [h];simp)]
    exact A1i _ _
  ·rw [hn] at h;cases h
  ·refine ⟨_,Sub.refl _,congrArg (AV.int .i64) ?_,rfl⟩
   rw [hq,C0 (by omega)]
   rfl
theorem B2f {s:Sto} {n:FuncId} {cs:List AV} (hn:A6a Tryz.prog n=true) (p:Sm→Bool) (t:Nat) (l:List Sm) (hl:l.length≤140737488355328)
  (hp:∀ x ∈ l,A2 Tryz.prog Γ n (.agg (smA (0,x))::cs) s fun v s'=>v=.bool (p x)∧s'=s) :
  A2 Tryz.prog Γ 118 [.slice t (sms l),.func (.func n) [] cs] s fun v s'=>v=.bool (l.any p)∧s'=s:=by
 refine acs Tryz.func118 ?_
 refine wr ?_;(refine A2.by (B0z hn p t l hl hp) ?_;rintro _ _ ⟨rfl,rfl⟩);refine wr ?_
 exact ⟨_,Sub.refl _,Tr.C4 (B1f p l),rfl⟩
section
variable {s0 s:Sto} {bc bd bv bs:Nat} {q:Qe}
theorem C6b {b6 b8 t:Nat} {T6 T8:TypeId} {d d':Int} {acc:List Ag} (h6:s.bx b6=some (T6,[.int .i64 d])) (h8:s.bx b8=some (T8,[.int .i64 d',.slice t (acc.map agA)])) (y:Sm) (hl:y.2.length≤100000) :
  A2 Tryz.prog Γ 114 [.agg (smA (0,y)),.ptr (some ⟨b6,0,none⟩),.ptr (some ⟨b8,0,none⟩)] s fun v s'=>v=.bool (decide (y=(d,acc)))∧s'=s:=by
 obtain ⟨y1,y2⟩:=y
 have he:=B8y (Γ:=Γ) 0 t y2 acc (by simp only at hl;omega)
 simp only [smA]
 refine acs Tryz.func114 ?_
 conv=>whnf
 intro b3 hb3
 have n_b6_b3:b6≠b3:=A1 bxa hb3
 have n_b3_b6:=n_b6_b3.symm
 have n_b8_b3:b8≠b3:=A1 bxa hb3
 have n_b3_b8:=n_b8_b3.symm
 conv=>whnf
 repeat' ((first|(refine brS (fun h=>?_) (fun h=>?_)<;>(try rw [h])<;>(try simp only [bS,↓reduceIte] at h))|refine A5 ?_|(refine A2.pure' ?_ (he);rintro _ rfl)|refine A7.pure ?_ (he)|refine gS ?_|refine aA ?_|refine nA ?_|fail)<;>(conv=>whnf))
 all_goals (refine ⟨s,(Sub.refl _).set hb3 _ _,Tr.C4 ?_,rfl⟩;rw [Bool.eq_iff_iff];simp_all [Prod.ext_iff])
def D2x (s0:Sto) (bc bd bv bs:Nat) (r:Res (Qe × Nat)) (v:AV) (s':Sto):Prop :=
 match r with
 | .ok (q',i)=>v=.tuple [.int .i64 (i:Int),.nilIface]∧Cst s0 s' bc bd bv bs q'
 | .error e=>(v=.tuple [.int .i64 0,A4x e]∧Sub s0 s')∨∃ b,s0.bx b=none∧s'.bx b=some (90,A9g e)∧v=.tuple [.int .i64 0,.iface 82 (.ptr (some ⟨b,0,none⟩))]∧Sub s0 s'
def D16 (s0:Sto) (bc bd bv bs:Nat) (r:Res (Qe × Nat)) (v:AV) (s':Sto):Prop :=
 match r with
 | .ok (q',i)=>v=.tuple [.int .i64 (i:Int),.nilIface]∧Cst s0 s' bc bd bv bs q'
 | .error e=>v=.tuple [.int .i64 0,A4x e]∧Sub s0 s'
theorem C6c {f:FuncId} {args:List AV} {r:Res (Qe × Nat)} (h:A2 Tryz.prog Γ f args s (D2x s0 bc bd bv bs r)):A2 Tryz.prog Γ f args s (D16 s0 bc bd bv bs r):=by
 refine h.frz ?_
 intro v s' hv
 cases r with
 | ok x =>
  obtain ⟨q',i⟩:=x
  obtain ⟨rfl,hs⟩:=hv
  refine ⟨fz0,s',A74,Sub.refl _,?_⟩
  rw [A3s]
  simp only [fg,fgL]
  exact ⟨rfl,hs⟩
 | error e =>
  rcases hv with ⟨rfl,hs⟩|⟨b,h1,h2,rfl,hs⟩
  ·refine ⟨fz0,s',A74,Sub.refl _,?_⟩
   rw [A3s]
   simp only [fg,fgL,A4x,A9g]
   exact ⟨rfl,hs⟩
  ·refine ⟨fz1 b 0 (A9g e),s0,A76 h1 h2,hs,?_⟩
   simp only [fz,fzL,fzP,A75,List.drop_zero,fg,fgL,A9g]
   exact ⟨rfl,Sub.refl _⟩
theorem M1 (l:List Sm):(sms l).length=l.length:=List.length_map ..
end
end Go.Proofs.YtaammejliikieaaGreatDoor.Ck
