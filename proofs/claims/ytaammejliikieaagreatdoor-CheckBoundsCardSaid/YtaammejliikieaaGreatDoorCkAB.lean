import Derived.Test.YtaammejliikieaaGreatDoorG7
import Derived.Test.YtaammejliikieaaGreatDoorG1
set_option maxRecDepth 10000
set_option maxHeartbeats 60000000
set_option linter.all false
namespace Go.Proofs.YtaammejliikieaaGreatDoor.Pa
end Go.Proofs.YtaammejliikieaaGreatDoor.Pa
namespace Go.Proofs.YtaammejliikieaaGreatDoor.Ck
open Go Go.Ab Go.RowKit Go.Proofs.YtaammejliikieaaGreatDoor.Pa
variable {Γ:Nat→AV}
attribute [local irreducible] A8 Sto.set Sto.grow
section
variable {s0 s:Sto} {bc bd bv bs:Nat} {q:Qe} {x:Tr.Tr0}
def D12 (s0:Sto) (bc bd bv bs:Nat) (r:Res Qe) (v:AV) (s':Sto):Prop :=
 match r with
 | .ok q'=>v=.nilIface∧Dst s0 s' bc bd bv bs q'
 | .error x=>v=A4x x∧Sub s0 s'
theorem Q1 {n i:Nat} {q q':Qe} (h:C1 x q i=.ok q'):D0 x (n+1) i q=D0 x n (i+1) q':=by
 rw [D0,h]
theorem U4 {n i:Nat} {q:Qe} {e:Bad} (h:C1 x q i=.error e):D0 x (n+1) i q=.error e:=by
 rw [D0,h]
theorem C69 (hx:A53 x) (hT:∀ (s0 s:Sto) (q:Qe) (d:Tr.Tn),d ∈ x.2.2.2.2.2.2.2.map Prod.snd→Cst s0 s bc bd bv bs q→H7 q→A2 Tryz.prog Γ 65 [.ptr (some ⟨bc,0,none⟩),.agg (Tr.tnA ((0,0,0),d))] s (P7 s0 bc bd bv bs (E6 q d)))
  (hC:Cst s0 s bc bd bv bs Qe.none) :
  A2 Tryz.prog Γ 13 [.ptr (some ⟨bc,0,none⟩),.agg (Tr.trA z0 x)] s (D12 s0 bc bd bv bs (F2 x)):=by
 refine acs Tryz.func13 ?_
 conv=>whnf
 intro b2 hb2
 have c2:=hC.sub.none hb2
 have hC2:=hC.keep hb2 77 [.ptr (some ⟨bc,0,none⟩)]
 conv=>whnf
 intro b3 hb3
 have c3:=hC2.sub.none hb3
 have n23:=A1 hC2.kept.1 hb3
 have hC3:=hC2.keep hb3 34 (Tr.trA z0 x)
 have h2:((s0.set b2 77 [.ptr (some ⟨bc,0,none⟩)]).set b3 34 (Tr.trA z0 x)).bx b2=some (77,[.ptr (some ⟨bc,0,none⟩)]):=(A4 n23).trans A3
 have h3:((s0.set b2 77 [.ptr (some ⟨bc,0,none⟩)]).set b3 34 (Tr.trA z0 x)).bx b3=some (34,Tr.trA z0 x):=A3
 have hSub:Sub s0 ((s0.set b2 77 [.ptr (some ⟨bc,0,none⟩)]).set b3 34 (Tr.trA z0 x)):=((Sub.refl s0).set c2 _ _).trans ((Sub.refl _).set c3 _ _)
 generalize (s0.set b2 77 [.ptr (some ⟨bc,0,none⟩)]).set b3 34 (Tr.trA z0 x)=S0 at *
 have f2:=hC3.sub.bx _ _ h2
 have f3:=hC3.sub.bx _ _ h3
 simp only [Tr.trA] at f3
 obtain ⟨tk,a,cap,h1,h4,h5⟩:=hC3.st
 simp only [chA] at h5
 refine wp ?_
 have hCn:=(⟨hC3.nc,hC3.nd,hC3.nv,hC3.ns,hC3.dv,hC3.ds,hC3.vs,C2.trans hC3.md,C2.trans hC3.mv,C2.trans hC3.ms,tk,a,cap,h1.set hC3.nc _ _,h4.mono fun c z hc _ hz=>(A4 hc).trans hz,A3⟩:Cst S0 (((s.set b2 77 [.ptr (some ⟨bc,0,none⟩)]).set b3 34 (Tr.trA z0 x)).set bc 81 (chA tk a cap { Qe.none with name:=x.1.1 } bd bv bs)) bc bd bv bs { Qe.none with name:=x.1.1 })
 refine AWp.loopA [25] [26,27,28,6,29,30,7,31,32,33,4,34] (fun z:Nat × Qe=>[.int .i64 (z.1:Int)]) (fun z s'=>z.1≤8∧Cst S0 s' bc bd bv bs z.2∧M8 z.1 z.2∧D0 x 8 0 { Qe.none with name:=x.1.1 } = D0 x (8 - z.1) z.1 z.2) (fun z=>8 - z.1) ((0,{ Qe.none with name:=x.1.1 })) (by kernel_rfl) (eqa) ?_ ?_
 ·exact ⟨Nat.zero_le _,hCn,⟨H7.none _,fun _=>rfl⟩,rfl⟩
 ·rintro y ⟨i,q1⟩ s7 ⟨hi,hC7,hQ,hq⟩
  simp only at hi hC7 hQ hq
  have f7:=hC7.sub.bx _ _ h2
  rcases (show i=0∨i=1∨i=2∨i=3∨i=4∨i=5∨i=6∨i=7∨i=8 by omega) with rfl|rfl|rfl|rfl|rfl|rfl|rfl|rfl|rfl
  ·show awp _ _ _ _ _ (updL _ _ [.int .i64 ((0:Nat):Int)]) _
   have hst:=C78 (Γ:=Γ) hC7 h2 h3 hx hQ
   refine wp ?_
   refine A2.by hst ?_
   intro v s8 hv8
   rcases hsf:C1 x q1 0 with e|q2
   ·rw [hsf] at hv8
    obtain ⟨rfl,hs⟩:=hv8
    have eE:F2 x=.error e:=by
     unfold F2
     rw [hq.trans (U4 (n:=7 - 0) hsf)]
    refine wp ?_
    refine ⟨_,Sub.refl _,?_⟩
    rw [eE]
    exact ⟨rfl,hSub.trans hs⟩
   ·rw [hsf] at hv8
    obtain ⟨rfl,hs⟩:=hv8
    have eK:=hq.trans (Q1 (n:=7 - 0) hsf)
    refine wp ?_
    exact ⟨(0+1,q2),eqa,B8,⟨by simp only;omega,hs,V2 hx.fit hQ hsf,eK⟩,by simp only;omega⟩
  ·show awp _ _ _ _ _ (updL _ _ [.int .i64 ((1:Nat):Int)]) _
   have hst:=C79 (Γ:=Γ) hC7 h2 h3 hx hQ
   refine wp ?_
   refine A2.by hst ?_
   intro v s8 hv8
   rcases hsf:C1 x q1 1 with e|q2
   ·rw [hsf] at hv8
    obtain ⟨rfl,hs⟩:=hv8
    have eE:F2 x=.error e:=by
     unfold F2
     rw [hq.trans (U4 (n:=7 - 1) hsf)]
    refine wp ?_
    refine ⟨_,Sub.refl _,?_⟩
    rw [eE]
    exact ⟨rfl,hSub.trans hs⟩
   ·rw [hsf] at hv8
    obtain ⟨rfl,hs⟩:=hv8
    have eK:=hq.trans (Q1 (n:=7 - 1) hsf)
    refine wp ?_
    exact ⟨(1+1,q2),eqa,B8,⟨by simp only;omega,hs,V2 hx.fit hQ hsf,eK⟩,by simp only;omega⟩
  ·show awp _ _ _ _ _ (updL _ _ [.int .i64 ((2:Nat):Int)]) _
   have hst:=C8a (Γ:=Γ) hC7 h2 h3 hx hQ
   refine wp ?_
   refine A2.by hst ?_
   intro v s8 hv8
   rcases hsf:C1 x q1 2 with e|q2
   ·rw [hsf] at hv8
    obtain ⟨rfl,hs⟩:=hv8
    have eE:F2 x=.error e:=by
     unfold F2
     rw [hq.trans (U4 (n:=7 - 2) hsf)]
    refine wp ?_
    refine ⟨_,Sub.refl _,?_⟩
    rw [eE]
    exact ⟨rfl,hSub.trans hs⟩
   ·rw [hsf] at hv8
    obtain ⟨rfl,hs⟩:=hv8
    have eK:=hq.trans (Q1 (n:=7 - 2) hsf)
    refine wp ?_
    exact ⟨(2+1,q2),eqa,B8,⟨by simp only;omega,hs,V2 hx.fit hQ hsf,eK⟩,by simp only;omega⟩
  ·show awp _ _ _ _ _ (updL _ _ [.int .i64 ((3:Nat):Int)]) _
   have hst:=C8b (Γ:=Γ) hC7 h2 h3 hx hQ
   refine wp ?_
   refine A2.by hst ?_
   intro v s8 hv8
   rcases hsf:C1 x q1 3 with e|q2
   ·rw [hsf] at hv8
    obtain ⟨rfl,hs⟩:=hv8
    have eE:F2 x=.error e:=by
     unfold F2
     rw [hq.trans (U4 (n:=7 - 3) hsf)]
    refine wp ?_
    refine ⟨_,Sub.refl _,?_⟩
    rw [eE]
    exact ⟨rfl,hSub.trans hs⟩
   ·rw [hsf] at hv8
    obtain ⟨rfl,hs⟩:=hv8
    have eK:=hq.trans (Q1 (n:=7 - 3) hsf)
    refine wp ?_
    exact ⟨(3+1,q2),eqa,B8,⟨by simp only;omega,hs,V2 hx.fit hQ hsf,eK⟩,by simp only;omega⟩
  ·show awp _ _ _ _ _ (updL _ _ [.int .i64 ((4:Nat):Int)]) _
   have hst:=C8c (Γ:=Γ) hC7 h2 h3 hx
   refine wp ?_
   refine A2.by hst ?_
   intro v s8 hv8
   rcases hsf:C1 x q1 4 with e|q2
   ·rw [hsf] at hv8
    obtain ⟨rfl,hs⟩:=hv8
    have eE:F2 x=.error e:=by
     unfold F2
     rw [hq.trans (U4 (n:=7 - 4) hsf)]
    refine wp ?_
    refine ⟨_,Sub.refl _,?_⟩
    rw [eE]
    exact ⟨rfl,hSub.trans hs⟩
   ·rw [hsf] at hv8
    obtain ⟨rfl,hs⟩:=hv8
    have eK:=hq.trans (Q1 (n:=7 - 4) hsf)
    refine wp ?_
    exact ⟨(4+1,q2),eqa,B8,⟨by simp only;omega,hs,V2 hx.fit hQ hsf,eK⟩,by simp only;omega⟩
  ·show awp _ _ _ _ _ (updL _ _ [.int .i64 ((5:Nat):Int)]) _
   have hst:=C8d (Γ:=Γ) hC7 h2 h3 hx hQ
   refine wp ?_
   refine A2.by hst ?_
   intro v s8 hv8
   rcases hsf:C1 x q1 5 with e|q2
   ·rw [hsf] at hv8
    obtain ⟨rfl,hs⟩:=hv8
    have eE:F2 x=.error e:=by
     unfold F2
     rw [hq.trans (U4 (n:=7 - 5) hsf)]
    refine wp ?_
    refine ⟨_,Sub.refl _,?_⟩
    rw [eE]
    exact ⟨rfl,hSub.trans hs⟩
   ·rw [hsf] at hv8
    obtain ⟨rfl,hs⟩:=hv8
    have eK:=hq.trans (Q1 (n:=7 - 5) hsf)
    refine wp ?_
    exact ⟨(5+1,q2),eqa,B8,⟨by simp only;omega,hs,V2 hx.fit hQ hsf,eK⟩,by simp only;omega⟩
  ·show awp _ _ _ _ _ (updL _ _ [.int .i64 ((6:Nat):Int)]) _
   have hst:=C8e (Γ:=Γ) hC7 h2 h3 hx (fun q s d=>hT S0 s q d) hQ
   refine wp ?_
   refine A2.by hst ?_
   intro v s8 hv8
   rcases hsf:C1 x q1 6 with e|q2
   ·rw [hsf] at hv8
    obtain ⟨rfl,hs⟩:=hv8
    have eE:F2 x=.error e:=by
     unfold F2
     rw [hq.trans (U4 (n:=7 - 6) hsf)]
    refine wp ?_
    refine ⟨_,Sub.refl _,?_⟩
    rw [eE]
    exact ⟨rfl,hSub.trans hs⟩
   ·rw [hsf] at hv8
    obtain ⟨rfl,hs⟩:=hv8
    have eK:=hq.trans (Q1 (n:=7 - 6) hsf)
    refine wp ?_
    exact ⟨(6+1,q2),eqa,B8,⟨by simp only;omega,hs,V2 hx.fit hQ hsf,eK⟩,by simp only;omega⟩
  ·show awp _ _ _ _ _ (updL _ _ [.int .i64 ((7:Nat):Int)]) _
   have hst:=C8f (Γ:=Γ) hC7 h2 h3 hx hQ.1
   refine wp ?_
   refine A2.by hst ?_
   intro v s8 hv8
   rcases hsf:C1 x q1 7 with e|q2
   ·rw [hsf] at hv8
    obtain ⟨rfl,hs⟩:=hv8
    have eE:F2 x=.error e:=by
     unfold F2
     rw [hq.trans (U4 (n:=7 - 7) hsf)]
    refine wp ?_
    refine ⟨_,Sub.refl _,?_⟩
    rw [eE]
    exact ⟨rfl,hSub.trans hs⟩
   ·rw [hsf] at hv8
    obtain ⟨rfl,hs⟩:=hv8
    have eK:=hq.trans (Q1 (n:=7 - 7) hsf)
    refine wp ?_
    exact ⟨(7+1,q2),eqa,B8,⟨by simp only;omega,hs,V2 hx.fit hQ hsf,eK⟩,by simp only;omega⟩
  ·show awp _ _ _ _ _ (updL _ _ [.int .i64 ((8:Nat):Int)]) _
   have eK:F2 x=.ok (P5 q1):=by
    unfold F2
    rw [hq]
    rfl
   refine wp ?_;(refine A2.by (C5a (Γ:=Γ) hC7 hQ.1) ?_;rintro _ s9 ⟨rfl,hD⟩);refine wp ?_
   refine wp ?_
   refine ⟨_,Sub.refl _,?_⟩
   rw [eK]
   obtain ⟨hd1,tk',a',cap',hd2,hd3⟩:=hD
   refine ⟨rfl,hSub.trans hd1,tk',a',cap',⟨hd2.none,fun hl=>?_⟩,hd3⟩
   obtain ⟨bt,rest,g1,g2,g3,g4⟩:=hd2.some hl
   exact ⟨bt,rest,g1,g2,hSub.none g3,g4⟩
end
end Go.Proofs.YtaammejliikieaaGreatDoor.Ck
