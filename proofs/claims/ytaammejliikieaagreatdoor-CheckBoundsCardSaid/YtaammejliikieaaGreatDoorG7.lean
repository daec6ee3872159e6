/- Part 7 of what the closing text needs: CkX, CkY, CkV, CkZ, CkAA. No condition of mine beyond those that the theorems name. -/
import Derived.Test.YtaammejliikieaaGreatDoorCkN
import Derived.Test.YtaammejliikieaaGreatDoorG5
import Derived.Test.YtaammejliikieaaGreatDoorAb23
import Derived.Test.YtaammejliikieaaGreatDoorG1
set_option maxRecDepth 10000
set_option maxHeartbeats 60000000
set_option linter.all false
namespace Go.Proofs.YtaammejliikieaaGreatDoor.Pa
end Go.Proofs.YtaammejliikieaaGreatDoor.Pa
namespace Go.Proofs.YtaammejliikieaaGreatDoor.Ck
open Go Go.Ab Go.RowKit Go.Proofs.YtaammejliikieaaGreatDoor.Pa
variable {Γ:Nat→AV}
attribute [local irreducible] A8 Sto.set Sto.grow
section
variable {s0 s:Sto} {bc bd bv bs:Nat} {q:Qe}
theorem B1o {b:Nat} {T:TypeId} {cs:List AV} (h:s.bx b=some (T,cs)):s.set b T cs=s:=by
 obtain ⟨f,l,m,p⟩:=s
 unfold Sto.set
 simp only [Sto.mk.injEq,and_true]
 funext c
 by_cases hc:c=b
 ·subst hc;rw [if_pos rfl];exact h.symm
 ·rw [if_neg hc]
theorem Cst.put {b:Nat} {T:TypeId} {cs:List AV} (h:Cst s0 s bc bd bv bs q) (hb:s0.bx b=some (T,cs)) (cs':List AV):Cst (s0.set b T cs') (s.set b T cs') bc bd bv bs q:=by
 rw [← B1o hb] at h
 exact h.reput cs'
theorem Cst.push (h:Cst s0 s bc bd bv bs q) {tk:Nat→Nat} (k1:U3 6 tyT s0 s tk) {b' cap':Nat} {cells rest:List AV} (t:Tx) (h0:s0.bx b'=none) (hne:b'≠bc) (hc:cells=(txs (q.trans++[t])).flatten++rest) (hlen:cells.length=cap' * 5) (hcap:q.trans.length+1≤cap') :
  Cst s0 ((s.set b' 106 cells).set bc 81 (chA tk (some ⟨b',0,none⟩) cap' { q with trans:=q.trans++[t] } bd bv bs)) bc bd bv bs { q with trans:=q.trans++[t] }:=by
 refine ⟨h.nc,h.nd,h.nv,h.ns,h.dv,h.ds,h.vs,C2.trans (C2.trans h.md),C2.trans (C2.trans h.mv),C2.trans (C2.trans h.ms),tk,some ⟨b',0,none⟩,cap',(k1.set h0 _ _).set h.nc _ _,⟨fun hn=>absurd hn (by simp),fun _=>⟨b',rest,rfl,hne,h0,?_,?_,?_⟩⟩,A3⟩
 ·rw [A4 hne,A3,hc]
 ·rw [← hc];exact hlen
 ·simp;omega
theorem C03 (l:List Tx) (t:Tx):(txs (l++[t])).flatten=(txs l).flatten++txA (0,t):=by
 unfold txs
 rw [List.map_append,List.flatten_append]
 simp
theorem A5z:∀ l:List Tx,(txs l).flatten.length=l.length * 5
 | []=>rfl
 | x::l=>by
  have:=A5z l
  unfold txs at this ⊢
  rw [List.map_cons,List.flatten_cons,List.length_append,this,List.length_cons]
  show 5+l.length * 5=(l.length+1) * 5
  omega
theorem B9h {l:List Tx} {rest R:List AV} {t:Tx} {k:Nat} (hk:k=5):((txs l).flatten++rest).take (l.length * k)++[txA (0,t)].flatten++R=(txs (l++[t])).flatten++R:=by
 subst hk
 rw [List.take_left' (A5z l),C03]
 simp
theorem C0q {l:List Tx} {rest:List AV} {t:Tx} {k:Nat} (hk:k=5):((txs l).flatten++rest).take (l.length * k)++[txA (0,t)].flatten++((txs l).flatten++rest).drop (l.length * k+1 * k)=(txs (l++[t])).flatten++rest.drop 5:=by
 rw [B9h hk]
 subst hk
 congr 1
 have h:=A5z l
 rw [List.drop_append,h,List.drop_of_length_le (by omega),List.nil_append]
 congr 1
 omega
theorem C0x (n:Nat) (z:List AV):(List.replicate n z).flatten.length=n * z.length:=by simp
def B78 (t:Tr.Tn):Prop:=t.2.2.2.1=[]∧t.2.2.2.2.1 = -1∧t.2.2.2.2.2=[]
theorem A7h (s:Sto) (pc pb:AV):A2 Tryz.prog Γ 117 [pc,pb,.slice 0 []] s fun v s'=>v=.tuple [.slice 1 [],.nilIface]∧s'=s:=by
 refine acs Tryz.func117 ?_
 refine wp ?_
 refine AWp.loopA [8,16] [17,18,19,10,21,22,23,24,25,26,27,28,20,29,30,11,12,31,32,33,34,35,36,37,38,39,40,6,7,41,42,43,44,45,46,47,48,49,50,51,52,53,54,13,55,56,57,58,59,60,61,62,63,64,65,66,67,68,69,70,71] (fun _:Unit=>[.slice 1 [],.int .i64 0]) (fun _ s'=>s'=s) (fun _=>0) (()) (by kernel_rfl) (eqa) ?_ ?_
 ·rfl
 ·rintro y _ s1 rfl
  refine wp ?_
  exact ⟨_,Sub.refl _,rfl,rfl⟩
theorem A4f {q q1:Qe} {n m:Tr.Idn} {y:Tr.Sy} {i fr:Nat} (hq1:H7 q1) (h256:¬ 256≤q.trans.length) (h1:K9 q n=.ok fr) (h2:S2 q y=.ok (q1,i)) :
  E6 q (n,m,y,[],-1,[])=match K9 q1 m with
   | .error e=>.error e
   | .ok to_=>.ok { q1 with trans:=q1.trans++[((fr:Int),(i:Int),(to_:Int),-1,[])] }:=by
 have h3:=hq1.nodes
 unfold E6
 rw [if_neg h256,h1,h2]
 simp only [A77,A7i,List.length_nil]
 rw [if_neg (by omega)]
 simp
 cases K9 q1 m<;>rfl
theorem C6j (hC:Cst s0 s bc bd bv bs q) (hq:H7 q) (t:Tr.Tn) (ht:B78 t) (ha:∀ a ∈ t.2.2.1.2.1,a.1=1∨a.1=2∨a.1=3) :
  A2 Tryz.prog Γ 65 [.ptr (some ⟨bc,0,none⟩),.agg (Tr.tnA ((0,0,0),t))] s (P7 s0 bc bd bv bs (E6 q t)):=by
 obtain ⟨⟨n1,n2,n3⟩,⟨m1,m2,m3⟩,⟨y1,y2,y3,y4⟩,nds,g,ss⟩:=t
 obtain ⟨r1,r2,r3⟩:=ht
 simp only at r1 r2 r3 ha
 subst r1 r2 r3
 have hat:=fun e=>B2z (Γ:=Γ) e (n1,n2,n3)
 simp only [Tr.S1] at hat
 have hql:=hq.trans
 simp only [Tr.tnA,List.map_nil]
 refine acs Tryz.func65 ?_
 conv=>whnf
 intro b3 hb3
 have c3:=hC.sub.none hb3
 have hC3:=hC.keep hb3 54 [.str n1,.int .i64 n2,.int .i64 n3,.str m1,.int .i64 m2,.int .i64 m3,.str y1,.slice 0 (y2.map Tr.arA),.int .i64 y3,.int .i64 y4,.slice 0 [],.int .i64 (-1),.slice 0 []]
 have hS3:Sub s0 (s0.set b3 54 [.str n1,.int .i64 n2,.int .i64 n3,.str m1,.int .i64 m2,.int .i64 m3,.str y1,.slice 0 (y2.map Tr.arA),.int .i64 y3,.int .i64 y4,.slice 0 [],.int .i64 (-1),.slice 0 []]):=(Sub.refl s0).set c3 _ _
 have hB3:(s0.set b3 54 [.str n1,.int .i64 n2,.int .i64 n3,.str m1,.int .i64 m2,.int .i64 m3,.str y1,.slice 0 (y2.map Tr.arA),.int .i64 y3,.int .i64 y4,.slice 0 [],.int .i64 (-1),.slice 0 []]).bx b3=some (54,[.str n1,.int .i64 n2,.int .i64 n3,.str m1,.int .i64 m2,.int .i64 m3,.str y1,.slice 0 (y2.map Tr.arA),.int .i64 y3,.int .i64 y4,.slice 0 [],.int .i64 (-1),.slice 0 []]):=A3
 conv=>whnf
 generalize s0.set b3 54 [.str n1,.int .i64 n2,.int .i64 n3,.str m1,.int .i64 m2,.int .i64 m3,.str y1,.slice 0 (y2.map Tr.arA),.int .i64 y3,.int .i64 y4,.slice 0 [],.int .i64 (-1),.slice 0 []]=S at *
 generalize s.set b3 54 [.str n1,.int .i64 n2,.int .i64 n3,.str m1,.int .i64 m2,.int .i64 m3,.str y1,.slice 0 (y2.map Tr.arA),.int .i64 y3,.int .i64 y4,.slice 0 [],.int .i64 (-1),.slice 0 []]=s3 at *
 have f3:=hC3.sub.bx _ _ hB3
 obtain ⟨tk,a,cap,h1,h2,h3⟩:=hC3.st
 simp only [chA] at h3
 by_cases h256:256≤q.trans.length
 ·refine wp ?_;(first|(refine A2.pure' ?_ (hat 14);rintro _ rfl)|refine A7.pure ?_ (hat 14));refine wp ?_
  refine ⟨_,Sub.refl _,?_⟩
  unfold E6
  rw [if_pos h256]
  exact ⟨rfl,hS3.trans hC3.sub⟩
 have hfind:=B4u (Γ:=Γ) hC3 (n1,n2,n3)
 simp only [Tr.S1] at hfind
 rcases hf1:K9 q (n1,n2,n3) with e|fr
 ·rw [hf1] at hfind
  simp only [B0m] at hfind
  refine wp ?_;(refine A2.by hfind ?_;rintro _ _ ⟨rfl,rfl⟩);refine wp ?_
  refine ⟨_,Sub.refl _,?_⟩
  unfold E6
  rw [if_neg h256,hf1]
  exact ⟨rfl,hS3.trans hC3.sub⟩
 rw [hf1] at hfind
 simp only [B0m] at hfind
 have hsym:=B3z (Γ:=Γ) hC3 hq (y1,y2,y3,y4) ha
 simp only [Tr.syA] at hsym
 refine wp ?_;(refine A2.by hfind ?_;rintro _ _ ⟨rfl,rfl⟩);refine wp ?_;(refine A2.by hsym ?_;intro v s4 hv);refine wp ?_
 rcases hp:S2 q (y1,y2,y3,y4) with e|⟨q1,i⟩
 ·rw [hp] at hv
  obtain ⟨rfl,hs⟩:=hv
  refine wp ?_
  refine ⟨_,Sub.refl _,?_⟩
  unfold E6
  rw [if_neg h256,hf1,hp]
  exact ⟨rfl,hS3.trans hs⟩
 rw [hp] at hv
 obtain ⟨rfl,hC4⟩:=hv
 obtain ⟨hq1,hi,hn1,ht1,hst1⟩:=A31 hq hp
 simp only at hq1 hi hn1 ht1 hst1
 rw [A4f hq1 h256 hf1 hp]
 obtain ⟨tk4,a4,cap4,k1,k2,k3⟩:=hC4.st
 have k3':=k3
 simp only [chA] at k3
 have f4:=hC4.sub.bx _ _ hB3
 have hnl:(q1.nodes.map ndA).length=q1.nodes.length:=List.length_map ..
 have hsl:=M1 q1.syms
 have hnn:=hq1.nodes
 have hgi:(sms q1.syms).getD ((i:Int)).toNat []=smA (0,q1.syms.getD i P4):=by rw [Int.toNat_natCast];exact Tr.B9 (f:=fun x=>smA (0,x)) P4 hi
 generalize q1.syms.getD i P4=sy at *
 obtain ⟨sy1,sy2⟩:=sy
 simp only [smA] at hgi
 conv=>whnf
 repeat' ((first|exact pru|(refine brS (fun h=>?_) (fun h=>?_)<;>(try rw [h])<;>(try simp only [bS,↓reduceIte] at h))|refine A5 ?_|refine gS ?_|refine aA ?_|refine nA ?_|fail)<;>(conv=>whnf))
 ·exfalso
  rw [D5 (b:=(q1.nodes.length:Int)) (by rw [hnl];simp) (by omega) (by omega)] at h
  omega
 intro b8 hb8
 have c8:=hC4.sub.none hb8
 have n_b3_b8:b3≠b8:=A1 bxa hb8
 have n_b8_b3:=n_b3_b8.symm
 have n_bc_b8:bc≠b8:=A1 bxa hb8
 have n_b8_bc:=n_bc_b8.symm
 have hC8:=(hC4.keep hb8 106 [.int .i64 0,.int .i64 0,.int .i64 0,.int .i64 0,.slice 1 []]).reput [.int .i64 (fr:Int),.int .i64 (i:Int),.int .i64 0,.int .i64 (-1),.slice 1 []]
 refine wp ?_
 intro b9 hb9
 have n_b3_b9:b3≠b9:=A1 bxa hb9
 have n_b9_b3:=n_b3_b9.symm
 have n_b8_b9:b8≠b9:=A1 bxa hb9
 have n_b9_b8:=n_b8_b9.symm
 have n_bc_b9:bc≠b9:=A1 bxa hb9
 have n_b9_bc:=n_bc_b9.symm
 have hC9:=(hC8.keep hb9 218 [.slice 0 [],.int .i64 sy1,.slice 0 (sy2.map agA),.int .i64 ((q1.nodes.map ndA).length:Int),.int .i64 0,.slice 1 []]).put (b:=b8) ((A4 n_b8_b9).trans A3) [.int .i64 (fr:Int),.int .i64 (i:Int),.int .i64 0,.int .i64 (-1),.slice 1 []]
 have hfind2:=B4u (Γ:=Γ) hC9 (m1,m2,m3)
 simp only [Tr.S1] at hfind2
 conv=>whnf
 rcases hf2:K9 q1 (m1,m2,m3) with e|to_
 ·rw [hf2] at hfind2
  simp only [B0m] at hfind2
  have hC10:=(hC9.put (b:=b8) A3 [.int .i64 (fr:Int),.int .i64 (i:Int),.int .i64 0,.int .i64 (-1),.slice 1 []]).put (b:=b8) A3 [.int .i64 (fr:Int),.int .i64 (i:Int),.int .i64 0,.int .i64 (-1),.slice 0 []]
  have c9:S.bx b9=none:=A0 (hC8.sub.none hb9)
  have hS:Sub s0 _:=hS3.trans ((((((Sub.refl S).set c8 106 [.int .i64 (fr:Int),.int .i64 (i:Int),.int .i64 0,.int .i64 (-1),.slice 1 []]).set c9 218 [.slice 0 [],.int .i64 sy1,.slice 0 (sy2.map agA),.int .i64 ((q1.nodes.map ndA).length:Int),.int .i64 0,.slice 1 []]).set c8 106 [.int .i64 (fr:Int),.int .i64 (i:Int),.int .i64 0,.int .i64 (-1),.slice 1 []]).set c8 106 [.int .i64 (fr:Int),.int .i64 (i:Int),.int .i64 0,.int .i64 (-1),.slice 1 []]).set c8 106 [.int .i64 (fr:Int),.int .i64 (i:Int),.int .i64 0,.int .i64 (-1),.slice 0 []])
  have hW:=R7.box (Γ:=Γ) (s:=(((((s4.set b8 106 [.int .i64 0,.int .i64 0,.int .i64 0,.int .i64 0,.slice 1 []]).set b8 106 [.int .i64 (fr:Int),.int .i64 (i:Int),.int .i64 0,.int .i64 (-1),.slice 1 []]).set b9 218 [.slice 0 [],.int .i64 sy1,.slice 0 (sy2.map agA),.int .i64 ((q1.nodes.map ndA).length:Int),.int .i64 0,.slice 1 []]).set b8 106 [.int .i64 (fr:Int),.int .i64 (i:Int),.int .i64 0,.int .i64 (-1),.slice 1 []]).set b8 106 [.int .i64 (fr:Int),.int .i64 (i:Int),.int .i64 0,.int .i64 (-1),.slice 1 []])) (b:=b8) (cs':=[.int .i64 (fr:Int),.int .i64 (i:Int),.int .i64 0,.int .i64 (-1),.slice 0 []]) A3 (by (repeat' (first|exact LeL.nil|refine LeL.cons ?_ ?_|exact Le.refl _|exact Le.slice0 _ _|fail)))
  obtain ⟨tx,ax,capx,j1,j2,j3⟩:=hC10.st
  simp only [chA] at j3
  have htl:=hq1.trans
  by_cases hnil:q1.trans=[]
  ·have hcap:=j2.none hnil
   have hlen:q1.trans.length=0:=by rw [hnil];rfl
   repeat' ((first|exact pru|(refine brS (fun h=>?_) (fun h=>?_)<;>(try rw [h])<;>(try simp only [bS,↓reduceIte] at h))|refine A5 ?_|(refine A2.by (A7h _ _ _) ?_;rintro _ _ ⟨rfl,rfl⟩)|(refine A2.by hfind2 ?_;rintro _ _ ⟨rfl,rfl⟩)|(refine AWp.weak (c:=.region 22 _ _) hW (AWp.anyC (id:=22) [] [123] (by kernel_rfl) (by kernel_rfl) (by kernel_rfl) (by kernel_rfl) ?_))|(refine ⟨trivial,?_⟩)|refine gS ?_|refine aA ?_|refine nA ?_|fail)<;>(conv=>whnf))
   refine ⟨all_cons ⟨rfl,rfl⟩ C3,?_,fun h0=>?_,fun h0=>absurd ⟨hlen,hcap⟩ h0⟩
   ·show (q1.trans.length+1) * (_+1)≤_
    exact Nat.le_trans (Nat.mul_le_mul_right _ (show q1.trans.length+1≤100001 by omega)) (Nat.le_of_ble_eq_true (by kernel_rfl))
   intro b' cap' hge hb'
   have c':=hC10.sub.none hb'
   have n':=A1 j3 hb'
   conv=>whnf
   repeat' ((first|exact pru|(refine brS (fun h=>?_) (fun h=>?_)<;>(try rw [h])<;>(try simp only [bS,↓reduceIte] at h))|refine A5 ?_|(refine ⟨trivial,?_⟩)|refine gS ?_|refine aA ?_|refine nA ?_|fail)<;>(conv=>whnf))
   exact ⟨_,Sub.refl _,rfl,hS.trans ((hC10.sub.set c' _ _).set hC10.nc _ _)⟩
  ·obtain ⟨bt,rest,rfl,g2,g3,g4,g5,g6⟩:=j2.some hnil
   have hlen:0 < q1.trans.length:=List.length_pos_iff.2 hnil
   have g2':=g2.symm
   repeat' ((first|exact pru|(refine brS (fun h=>?_) (fun h=>?_)<;>(try rw [h])<;>(try simp only [bS,↓reduceIte] at h))|refine A5 ?_|(refine A2.by (A7h _ _ _) ?_;rintro _ _ ⟨rfl,rfl⟩)|(refine A2.by hfind2 ?_;rintro _ _ ⟨rfl,rfl⟩)|(refine AWp.weak (c:=.region 22 _ _) hW (AWp.anyC (id:=22) [] [123] (by kernel_rfl) (by kernel_rfl) (by kernel_rfl) (by kernel_rfl) ?_))|(refine ⟨trivial,?_⟩)|refine gS ?_|refine aA ?_|refine nA ?_|fail)<;>(conv=>whnf))
   refine ⟨all_cons ⟨rfl,rfl⟩ C3,?_,fun h0=>absurd h0.1 (by omega),fun h0=>B5 g4 ⟨rfl,by omega,g5,fun hroom=>?_,fun hmore b' cap' hge hb'=>?_⟩⟩
   ·show (q1.trans.length+1) * (_+1)≤_
    exact Nat.le_trans (Nat.mul_le_mul_right _ (show q1.trans.length+1≤100001 by omega)) (Nat.le_of_ble_eq_true (by kernel_rfl))
   ·conv=>whnf
    repeat' ((first|exact pru|(refine brS (fun h=>?_) (fun h=>?_)<;>(try rw [h])<;>(try simp only [bS,↓reduceIte] at h))|refine A5 ?_|(refine ⟨trivial,?_⟩)|refine gS ?_|refine aA ?_|refine nA ?_|fail)<;>(conv=>whnf))
    exact ⟨_,Sub.refl _,rfl,hS.trans ((hC10.sub.set g3 _ _).set hC10.nc _ _)⟩
   ·have c':=hC10.sub.none hb'
    have n':=A1 j3 hb'
    conv=>whnf
    repeat' ((first|exact pru|(refine brS (fun h=>?_) (fun h=>?_)<;>(try rw [h])<;>(try simp only [bS,↓reduceIte] at h))|refine A5 ?_|(refine ⟨trivial,?_⟩)|refine gS ?_|refine aA ?_|refine nA ?_|fail)<;>(conv=>whnf))
    exact ⟨_,Sub.refl _,rfl,hS.trans ((hC10.sub.set c' _ _).set hC10.nc _ _)⟩
 rw [hf2] at hfind2
 simp only [B0m] at hfind2
 have hC10:=(hC9.put (b:=b8) A3 [.int .i64 (fr:Int),.int .i64 (i:Int),.int .i64 (to_:Int),.int .i64 (-1),.slice 1 []]).put (b:=b8) A3 [.int .i64 (fr:Int),.int .i64 (i:Int),.int .i64 (to_:Int),.int .i64 (-1),.slice 0 []]
 have c9:S.bx b9=none:=A0 (hC8.sub.none hb9)
 have hS:Sub s0 _:=hS3.trans ((((((Sub.refl S).set c8 106 [.int .i64 (fr:Int),.int .i64 (i:Int),.int .i64 0,.int .i64 (-1),.slice 1 []]).set c9 218 [.slice 0 [],.int .i64 sy1,.slice 0 (sy2.map agA),.int .i64 ((q1.nodes.map ndA).length:Int),.int .i64 0,.slice 1 []]).set c8 106 [.int .i64 (fr:Int),.int .i64 (i:Int),.int .i64 0,.int .i64 (-1),.slice 1 []]).set c8 106 [.int .i64 (fr:Int),.int .i64 (i:Int),.int .i64 (to_:Int),.int .i64 (-1),.slice 1 []]).set c8 106 [.int .i64 (fr:Int),.int .i64 (i:Int),.int .i64 (to_:Int),.int .i64 (-1),.slice 0 []])
 have hW:=R7.box (Γ:=Γ) (s:=(((((s4.set b8 106 [.int .i64 0,.int .i64 0,.int .i64 0,.int .i64 0,.slice 1 []]).set b8 106 [.int .i64 (fr:Int),.int .i64 (i:Int),.int .i64 0,.int .i64 (-1),.slice 1 []]).set b9 218 [.slice 0 [],.int .i64 sy1,.slice 0 (sy2.map agA),.int .i64 ((q1.nodes.map ndA).length:Int),.int .i64 0,.slice 1 []]).set b8 106 [.int .i64 (fr:Int),.int .i64 (i:Int),.int .i64 0,.int .i64 (-1),.slice 1 []]).set b8 106 [.int .i64 (fr:Int),.int .i64 (i:Int),.int .i64 (to_:Int),.int .i64 (-1),.slice 1 []])) (b:=b8) (cs':=[.int .i64 (fr:Int),.int .i64 (i:Int),.int .i64 (to_:Int),.int .i64 (-1),.slice 0 []]) A3 (by (repeat' (first|exact LeL.nil|refine LeL.cons ?_ ?_|exact Le.refl _|exact Le.slice0 _ _|fail)))
 obtain ⟨tx,ax,capx,j1,j2,j3⟩:=hC10.st
 simp only [chA] at j3
 have htl:=hq1.trans
 by_cases hnil:q1.trans=[]
 ·have hcap:=j2.none hnil
  have hlen:q1.trans.length=0:=by rw [hnil];rfl
  repeat' ((first|exact pru|(refine brS (fun h=>?_) (fun h=>?_)<;>(try rw [h])<;>(try simp only [bS,↓reduceIte] at h))|refine A5 ?_|(refine A2.by (A7h _ _ _) ?_;rintro _ _ ⟨rfl,rfl⟩)|(refine A2.by hfind2 ?_;rintro _ _ ⟨rfl,rfl⟩)|(refine AWp.weak (c:=.region 22 _ _) hW (AWp.anyC (id:=22) [] [123] (by kernel_rfl) (by kernel_rfl) (by kernel_rfl) (by kernel_rfl) ?_))|(refine ⟨trivial,?_⟩)|refine gS ?_|refine aA ?_|refine nA ?_|fail)<;>(conv=>whnf))
  refine ⟨all_cons ⟨rfl,rfl⟩ C3,?_,fun h0=>?_,fun h0=>absurd ⟨hlen,hcap⟩ h0⟩
  ·show (q1.trans.length+1) * (_+1)≤_
   exact Nat.le_trans (Nat.mul_le_mul_right _ (show q1.trans.length+1≤100001 by omega)) (Nat.le_of_ble_eq_true (by kernel_rfl))
  intro b' cap' hge hb'
  have c':=hC10.sub.none hb'
  have n':=A1 j3 hb'
  conv=>whnf
  repeat' ((first|exact pru|(refine brS (fun h=>?_) (fun h=>?_)<;>(try rw [h])<;>(try simp only [bS,↓reduceIte] at h))|refine A5 ?_|(refine ⟨trivial,?_⟩)|refine gS ?_|refine aA ?_|refine nA ?_|fail)<;>(conv=>whnf))
  have hP:=hC10.push j1 (b':=b') (cap':=cap') (cells:=[txA (0,((fr:Int),(i:Int),(to_:Int),-1,[]))].flatten++(List.replicate (cap' - 1) [AV.int .i64 0,.int .i64 0,.int .i64 0,.int .i64 0,.slice 1 []]).flatten) ((fr:Int),(i:Int),(to_:Int),-1,[]) c' n'.symm (rest:=(List.replicate (cap' - 1) [.int .i64 0,.int .i64 0,.int .i64 0,.int .i64 0,.slice 1 []]).flatten) (by rw [C03,hnil];rfl) (by rw [List.length_append,C0x];have:1≤cap':=hge;show 5+(cap' - 1) * 5=_;omega) (by have:1≤cap':=hge;omega)
  refine ⟨_,Sub.refl _,rfl,Cst.of_sub ?_ hS⟩
  have hl1:(q1.trans++[(((fr:Int),(i:Int),(to_:Int),-1,[]):Tx)]).length=1:=by rw [List.length_append,hlen];rfl
  simp only [chA,hl1] at hP
  exact hP
 ·obtain ⟨bt,rest,rfl,g2,g3,g4,g5,g6⟩:=j2.some hnil
  have hlen:0 < q1.trans.length:=List.length_pos_iff.2 hnil
  have g2':=g2.symm
  repeat' ((first|exact pru|(refine brS (fun h=>?_) (fun h=>?_)<;>(try rw [h])<;>(try simp only [bS,↓reduceIte] at h))|refine A5 ?_|(refine A2.by (A7h _ _ _) ?_;rintro _ _ ⟨rfl,rfl⟩)|(refine A2.by hfind2 ?_;rintro _ _ ⟨rfl,rfl⟩)|(refine AWp.weak (c:=.region 22 _ _) hW (AWp.anyC (id:=22) [] [123] (by kernel_rfl) (by kernel_rfl) (by kernel_rfl) (by kernel_rfl) ?_))|(refine ⟨trivial,?_⟩)|refine gS ?_|refine aA ?_|refine nA ?_|fail)<;>(conv=>whnf))
  refine ⟨all_cons ⟨rfl,rfl⟩ C3,?_,fun h0=>absurd h0.1 (by omega),fun h0=>B5 g4 ⟨rfl,by omega,g5,fun hroom=>?_,fun hmore b' cap' hge hb'=>?_⟩⟩
  ·show (q1.trans.length+1) * (_+1)≤_
   exact Nat.le_trans (Nat.mul_le_mul_right _ (show q1.trans.length+1≤100001 by omega)) (Nat.le_of_ble_eq_true (by kernel_rfl))
  ·conv=>whnf
   repeat' ((first|exact pru|(refine brS (fun h=>?_) (fun h=>?_)<;>(try rw [h])<;>(try simp only [bS,↓reduceIte] at h))|refine A5 ?_|(refine ⟨trivial,?_⟩)|refine gS ?_|refine aA ?_|refine nA ?_|fail)<;>(conv=>whnf))
   have hP:=hC10.push j1 (b':=bt) (cap':=capx) (cells:=((txs q1.trans).flatten++rest).take (q1.trans.length * 5)++[txA (0,((fr:Int),(i:Int),(to_:Int),-1,[]))].flatten++((txs q1.trans).flatten++rest).drop (q1.trans.length * 5+1 * 5)) ((fr:Int),(i:Int),(to_:Int),-1,[]) g3 g2 (rest:=rest.drop 5) (C0q (k:=5) rfl) (by
     rw [C0q (k:=5) rfl,List.length_append,A5z,List.length_append,List.length_drop,List.length_cons,List.length_nil]
     rw [List.length_append,A5z] at g5
     have:q1.trans.length+1≤capx:=hroom
     omega) hroom
   refine ⟨_,Sub.refl _,rfl,Cst.of_sub ?_ hS⟩
   have hl1:(q1.trans++[(((fr:Int),(i:Int),(to_:Int),-1,[]):Tx)]).length=q1.trans.length+1:=by rw [List.length_append];rfl
   simp only [chA,hl1] at hP
   exact hP
  ·have c':=hC10.sub.none hb'
   have n':=A1 j3 hb'
   conv=>whnf
   repeat' ((first|exact pru|(refine brS (fun h=>?_) (fun h=>?_)<;>(try rw [h])<;>(try simp only [bS,↓reduceIte] at h))|refine A5 ?_|(refine ⟨trivial,?_⟩)|refine gS ?_|refine aA ?_|refine nA ?_|fail)<;>(conv=>whnf))
   have hP:=hC10.push j1 (b':=b') (cap':=cap') (cells:=((txs q1.trans).flatten++rest).take (q1.trans.length * 5)++[txA (0,((fr:Int),(i:Int),(to_:Int),-1,[]))].flatten++(List.replicate (cap' - (q1.trans.length+1)) [AV.int .i64 0,.int .i64 0,.int .i64 0,.int .i64 0,.slice 1 []]).flatten) ((fr:Int),(i:Int),(to_:Int),-1,[]) c' n'.symm (rest:=(List.replicate (cap' - (q1.trans.length+1)) [.int .i64 0,.int .i64 0,.int .i64 0,.int .i64 0,.slice 1 []]).flatten) (B9h (k:=5) rfl) (by
     rw [B9h (k:=5) rfl,List.length_append,A5z,List.length_append,C0x,List.length_cons,List.length_nil]
     have:q1.trans.length+1≤cap':=hge
     show (q1.trans.length+1) * 5+(cap' - (q1.trans.length+1)) * 5=_
     omega) hge
   refine ⟨_,Sub.refl _,rfl,Cst.of_sub ?_ hS⟩
   have hl1:(q1.trans++[(((fr:Int),(i:Int),(to_:Int),-1,[]):Tx)]).length=q1.trans.length+1:=by rw [List.length_append];rfl
   simp only [chA,hl1] at hP
   exact hP
end
theorem B3e (t:Nat) (l:List Int) (x:Int) (hl:l.length≤1000000):A8 Tryz.prog Γ 122 [.slice t (G9 .i64 l),.int .i64 x] fun v=>v=.int .i64 (F0 (P8 (fun y=>decide (x=y)) l)):=by
 have hla:=H8 .i64 l
 refine aps Tryz.func122 ?_
 intro s
 refine wr ?_
 refine AWp.loopA [8] [9,10,5,11,12,13,14,15,16,17,4,18] (fun i:Nat=>[.int .i64 i]) (fun i s'=>i≤l.length∧s'=s∧F0 (P8 (fun y=>decide (x=y)) l)=F0 ((P8 (fun y=>decide (x=y)) (l.drop i)).map (i+·))) (fun i=>l.length - i) (0) (by kernel_rfl) (eqa) ?_ ?_
 ·refine ⟨by omega,rfl,?_⟩
  rw [List.drop_zero]
  cases P8 (fun y=>decide (x=y)) l<;>simp [F0]
 ·rintro y i s1 ⟨hi,rfl,hp⟩
  conv=>whnf
  have hga:=fun h:i < l.length=>A0t (k:=.i64) (l:=l) h
  have hd:=fun (h:i < l.length)=>X4 (fun y=>decide (x=y)) 0 h
  generalize l.getD i 0=z at *
  repeat' ((first|(refine brS (fun h=>?_) (fun h=>?_)<;>(try rw [h])<;>(try simp only [bS,↓reduceIte] at h))|(rw [show (G9 .i64 l).getD ((i:Int)).toNat []=_ from hga (by omega)])|refine gS ?_|refine aA ?_|refine nA ?_|fail)<;>(conv=>whnf))
  ·rw [hp,hd (by omega),if_pos (by simp_all)]
   simp [F0,A1v]
  ·refine ⟨i+1,eqa,B8,⟨by omega,(by first|rfl|trivial),?_⟩,by omega⟩
   rw [hp,hd (by omega),if_neg (by simp_all)]
   exact A1i _ _
  ·rw [hp,C0 (by omega)]
   rfl
theorem A6d (t:Nat) (l:List Int) (x:Int) (hl:l.length≤1000000):A8 Tryz.prog Γ 121 [.slice t (G9 .i64 l),.int .i64 x] fun v=>v=.bool (decide (x ∈ l)):=by
 have hi:=B3e (Γ:=Γ) t l x hl
 have hp:=B1f (fun y=>decide (x=y)) l
 refine aps Tryz.func121 ?_
 intro s
 refine wr ?_
 refine Tr.C4 ?_
 rw [hp,Bool.eq_iff_iff]
 simp
theorem C01 (x:Nat × Tx):(txA x).length=5:=rfl
theorem Y5:∀ l:List Tx,(txs l).flatten.length=l.length * 5
 | []=>rfl
 | x::l=>by
  have:=Y5 l
  unfold txs at this ⊢
  rw [List.map_cons,List.flatten_cons,List.length_append,this,C01,List.length_cons]
  omega
theorem C02 (a b:List Tx):(txs (a++b)).flatten=(txs a).flatten++(txs b).flatten:=by
 unfold txs;rw [List.map_append,List.flatten_append]
theorem B32 {l:List Tx} {i:Nat} (h:i < l.length) (rest:List AV):(txs l).flatten++rest=(txs (l.take i)).flatten++(txA (0,l.getD i noTx)++((txs (l.drop (i+1))).flatten++rest)):=by
 have e:l=l.take i++(l.getD i noTx::l.drop (i+1)):=by
  have:l.getD i noTx=l[i]:=by simp [List.getD,h]
  rw [this,← List.drop_eq_getElem_cons h,List.take_append_drop]
 conv=>lhs;rw [e]
 rw [C02,List.append_assoc]
 congr 1
theorem B9v {l:List Tx} {i:Nat} (h:i < l.length) (rest:List AV) (o:Nat) (ho:o=i * 5):((txs l).flatten++rest).drop o=txA (0,l.getD i noTx)++((txs (l.drop (i+1))).flatten++rest):=by
 subst ho
 have hl:(txs (l.take i)).flatten.length=i * 5:=by rw [Y5,List.length_take];omega
 rw [B32 h,← hl,List.drop_left]
theorem C8o {l:List Tx} {i:Nat} (h:i < l.length) (rest:List AV) (n:Int) (o:Nat) (ho:o=i * 5+1) :
  ((txs l).flatten++rest).take o++[.int .i64 n]++((txs l).flatten++rest).drop (o+1)=(txs (l.set i ((l.getD i noTx).1,n,(l.getD i noTx).2.2))).flatten++rest:=by
 subst ho
 have hl:(txs (l.take i)).flatten.length=i * 5:=by rw [Y5,List.length_take];omega
 have e:l.set i ((l.getD i noTx).1,n,(l.getD i noTx).2.2)=l.take i++(((l.getD i noTx).1,n,(l.getD i noTx).2.2)::l.drop (i+1)):=List.set_eq_take_append_cons_drop .. |>.trans (by rw [if_pos h])
 have e2:∀ (x:Tx) (X:List AV),(txs (l.take i++(x::l.drop (i+1)))).flatten++X=(txs (l.take i)).flatten++(txA (0,x)++((txs (l.drop (i+1))).flatten++X)):=by
  intro x X
  rw [C02,List.append_assoc]
  congr 1
 rw [e,e2,B32 h rest,← hl]
 generalize (txs (l.take i)).flatten=A
 generalize (txs (l.drop (i+1))).flatten++rest=B
 obtain ⟨x1,x2,x3,x4,x5⟩:=l.getD i noTx
 have e3:∀ (a b c:AV) (R:List AV),(A++a::b::R).take (A.length+1)++[c]++(A++a::b::R).drop (A.length+1+1)=A++a::c::R:=by
  intro a b c R
  have h1:A++a::b::R=(A++[a])++(b::R):=by simp
  have h2:A++a::b::R=(A++[a,b])++R:=by simp
  have e1:(A++a::b::R).take (A.length+1)=A++[a]:=by rw [h1];exact List.take_left' (by simp)
  have e2:(A++a::b::R).drop (A.length+1+1)=R:=by rw [h2];exact List.drop_left' (by simp)
  rw [e1,e2]
  simp
 exact e3 _ _ _ _
def A48:Tr.De:=(([],0,0),[])
def Y8:Tr.Qu:=(false,([],0,0),0)
def A61:Tr.Fr:=(([],0,0),Tr.H9)
def A63:Tr.St:=(([],0,0),false,false)
def A29:Tr.Sy:=([],[],0,0)
def A3a:Tr.Tn:=(([],0,0),([],0,0),A29,[],0,[])
section
variable {s0 s:Sto} {bc bd bv bs:Nat} {q:Qe}
theorem C1r (hC:Cst s0 s bc bd bv bs q) (J:Qe→Prop) (l:List Tr.De) (hl:l.length≤100000)
  (hf:∀ q s x,x ∈ l→Cst s0 s bc bd bv bs q→J q→A2 Tryz.prog Γ 47 [.ptr (some ⟨bc,0,none⟩),.agg ((fun x=>Tr.deA (0,x)) x)] s (P7 s0 bc bd bv bs (H1 q x))) (hJ:∀ q x q',x ∈ l→J q→H1 q x=.ok q'→J q') (hJ0:J q) :
  A2 Tryz.prog Γ 46 [.slice 0 (l.map (fun x=>Tr.deA (0,x))),.func (.func 47) [.ptr (some ⟨bc,0,none⟩)] []] s (P7 s0 bc bd bv bs (B3 H1 q l)):=by
 have hla:(l.map (fun x=>Tr.deA (0,x))).length=l.length:=List.length_map ..
 refine acs Tryz.func46 ?_
 refine wr ?_
 refine AWp.loopA [10] [11,12,13,6,14,15,16,7,17,18,19,4,20] (fun z:Nat × Qe=>[.int .i64 (z.1:Int)]) (fun z s'=>z.1≤l.length∧Cst s0 s' bc bd bv bs z.2∧J z.2∧B3 H1 q l=B3 H1 z.2 (l.drop z.1)) (fun z=>l.length - z.1) ((0,q)) (by kernel_rfl) (eqa) ?_ ?_
 ·exact ⟨Nat.zero_le _,hC,hJ0,rfl⟩
 ·rintro y ⟨i,q1⟩ s7 ⟨hi,hC7,hJ7,hr⟩
  simp only at hi hC7 hJ7 hr
  show awp _ _ _ _ _ (updL _ _ [.int .i64 (i:Int)]) _
  by_cases hlt:i < l.length
  ·have hga:(l.map (fun x=>Tr.deA (0,x))).getD ((i:Int)).toNat []=(fun x=>Tr.deA (0,x)) (l.getD i A48):=by rw [Int.toNat_natCast];exact Tr.B9 (f:=fun x=>Tr.deA (0,x)) A48 hlt
   have hst:B3 H1 q1 (l.drop i)=match H1 q1 (l.getD i A48) with
     | .error e=>.error e
     | .ok q'=>B3 H1 q' (l.drop (i+1)):=by
    rw [List.drop_eq_getElem_cons hlt,B3]
    simp only [List.getD,List.getElem?_eq_getElem hlt,Option.getD_some]
    cases H1 q1 l[i]<;>rfl
   have hm:=Tr.D4 A48 hlt
   generalize l.getD i A48=u at *
   have hcall:=fun s hC=>hf q1 s u hm hC hJ7
   obtain ⟨⟨n1,n2,n3⟩,ts⟩:=u
   simp only [Tr.deA] at hga hcall
   refine wp ?_
   intro b6 hb6
   have hC6:=fun cs cs'=>hC7.box2 hb6 37 cs cs'
   refine wp ?_;(refine A2.by (hcall _ (hC6 _ _)) ?_;intro v s8 hv);refine wp ?_
   rcases hone:H1 q1 _ with e|q2
   ·rw [hone] at hv hst
    obtain ⟨rfl,hs⟩:=hv
    refine wp ?_
    refine ⟨_,Sub.refl _,?_⟩
    rw [hr.trans hst]
    exact ⟨rfl,hs⟩
   ·rw [hone] at hv hst
    obtain ⟨rfl,hs⟩:=hv
    refine wp ?_
    exact ⟨(i+1,q2),eqa,B8,⟨by simp only;omega,hs,hJ _ _ _ hm hJ7 hone,hr.trans hst⟩,by simp only;omega⟩
  ·conv=>whnf
   refine wp ?_
   refine ⟨_,Sub.refl _,?_⟩
   rw [hr,C0 (by omega)]
   exact ⟨rfl,hC7⟩
theorem C1t (hC:Cst s0 s bc bd bv bs q) (J:Qe→Prop) (l:List Tr.Qu) (hl:l.length≤100000)
  (hf:∀ q s x,x ∈ l→Cst s0 s bc bd bv bs q→J q→A2 Tryz.prog Γ 50 [.ptr (some ⟨bc,0,none⟩),.agg ((Tr.quA) x)] s (P7 s0 bc bd bv bs (E8 q x))) (hJ:∀ q x q',x ∈ l→J q→E8 q x=.ok q'→J q') (hJ0:J q) :
  A2 Tryz.prog Γ 49 [.slice 0 (l.map (Tr.quA)),.func (.func 50) [.ptr (some ⟨bc,0,none⟩)] []] s (P7 s0 bc bd bv bs (B3 E8 q l)):=by
 have hla:(l.map (Tr.quA)).length=l.length:=List.length_map ..
 refine acs Tryz.func49 ?_
 refine wr ?_
 refine AWp.loopA [10] [11,12,13,6,14,15,16,7,17,18,19,4,20] (fun z:Nat × Qe=>[.int .i64 (z.1:Int)]) (fun z s'=>z.1≤l.length∧Cst s0 s' bc bd bv bs z.2∧J z.2∧B3 E8 q l=B3 E8 z.2 (l.drop z.1)) (fun z=>l.length - z.1) ((0,q)) (by kernel_rfl) (eqa) ?_ ?_
 ·exact ⟨Nat.zero_le _,hC,hJ0,rfl⟩
 ·rintro y ⟨i,q1⟩ s7 ⟨hi,hC7,hJ7,hr⟩
  simp only at hi hC7 hJ7 hr
  show awp _ _ _ _ _ (updL _ _ [.int .i64 (i:Int)]) _
  by_cases hlt:i < l.length
  ·have hga:(l.map (Tr.quA)).getD ((i:Int)).toNat []=(Tr.quA) (l.getD i Y8):=by rw [Int.toNat_natCast];exact Tr.B9 (f:=Tr.quA) Y8 hlt
   have hst:B3 E8 q1 (l.drop i)=match E8 q1 (l.getD i Y8) with
     | .error e=>.error e
     | .ok q'=>B3 E8 q' (l.drop (i+1)):=by
    rw [List.drop_eq_getElem_cons hlt,B3]
    simp only [List.getD,List.getElem?_eq_getElem hlt,Option.getD_some]
    cases E8 q1 l[i]<;>rfl
   have hm:=Tr.D4 Y8 hlt
   generalize l.getD i Y8=u at *
   have hcall:=fun s hC=>hf q1 s u hm hC hJ7
   obtain ⟨al,⟨n1,n2,n3⟩,ty⟩:=u
   simp only [Tr.quA] at hga hcall
   refine wp ?_
   intro b6 hb6
   have hC6:=fun cs cs'=>hC7.box2 hb6 39 cs cs'
   refine wp ?_;(refine A2.by (hcall _ (hC6 _ _)) ?_;intro v s8 hv);refine wp ?_
   rcases hone:E8 q1 _ with e|q2
   ·rw [hone] at hv hst
    obtain ⟨rfl,hs⟩:=hv
    refine wp ?_
    refine ⟨_,Sub.refl _,?_⟩
    rw [hr.trans hst]
    exact ⟨rfl,hs⟩
   ·rw [hone] at hv hst
    obtain ⟨rfl,hs⟩:=hv
    refine wp ?_
    exact ⟨(i+1,q2),eqa,B8,⟨by simp only;omega,hs,hJ _ _ _ hm hJ7 hone,hr.trans hst⟩,by simp only;omega⟩
  ·conv=>whnf
   refine wp ?_
   refine ⟨_,Sub.refl _,?_⟩
   rw [hr,C0 (by omega)]
   exact ⟨rfl,hC7⟩
theorem C1s (hC:Cst s0 s bc bd bv bs q) (J:Qe→Prop) (l:List Tr.Fr) (hl:l.length≤100000)
  (hf:∀ q s x,x ∈ l→Cst s0 s bc bd bv bs q→J q→A2 Tryz.prog Γ 53 [.ptr (some ⟨bc,0,none⟩),.agg ((Tr.frA) x)] s (P7 s0 bc bd bv bs (H4 q x))) (hJ:∀ q x q',x ∈ l→J q→H4 q x=.ok q'→J q') (hJ0:J q) :
  A2 Tryz.prog Γ 52 [.slice 0 (l.map (Tr.frA)),.func (.func 53) [.ptr (some ⟨bc,0,none⟩)] []] s (P7 s0 bc bd bv bs (B3 H4 q l)):=by
 have hla:(l.map (Tr.frA)).length=l.length:=List.length_map ..
 refine acs Tryz.func52 ?_
 refine wr ?_
 refine AWp.loopA [10] [11,12,13,6,14,15,16,7,17,18,19,4,20] (fun z:Nat × Qe=>[.int .i64 (z.1:Int)]) (fun z s'=>z.1≤l.length∧Cst s0 s' bc bd bv bs z.2∧J z.2∧B3 H4 q l=B3 H4 z.2 (l.drop z.1)) (fun z=>l.length - z.1) ((0,q)) (by kernel_rfl) (eqa) ?_ ?_
 ·exact ⟨Nat.zero_le _,hC,hJ0,rfl⟩
 ·rintro y ⟨i,q1⟩ s7 ⟨hi,hC7,hJ7,hr⟩
  simp only at hi hC7 hJ7 hr
  show awp _ _ _ _ _ (updL _ _ [.int .i64 (i:Int)]) _
  by_cases hlt:i < l.length
  ·have hga:(l.map (Tr.frA)).getD ((i:Int)).toNat []=(Tr.frA) (l.getD i A61):=by rw [Int.toNat_natCast];exact Tr.B9 (f:=Tr.frA) A61 hlt
   have hst:B3 H4 q1 (l.drop i)=match H4 q1 (l.getD i A61) with
     | .error e=>.error e
     | .ok q'=>B3 H4 q' (l.drop (i+1)):=by
    rw [List.drop_eq_getElem_cons hlt,B3]
    simp only [List.getD,List.getElem?_eq_getElem hlt,Option.getD_some]
    cases H4 q1 l[i]<;>rfl
   have hm:=Tr.D4 A61 hlt
   generalize l.getD i A61=u at *
   have hcall:=fun s hC=>hf q1 s u hm hC hJ7
   obtain ⟨⟨n1,n2,n3⟩,v1,v2,v3,v4⟩:=u
   simp only [Tr.frA] at hga hcall
   refine wp ?_
   intro b6 hb6
   have hC6:=fun cs cs'=>hC7.box2 hb6 48 cs cs'
   refine wp ?_;(refine A2.by (hcall _ (hC6 _ _)) ?_;intro v s8 hv);refine wp ?_
   rcases hone:H4 q1 _ with e|q2
   ·rw [hone] at hv hst
    obtain ⟨rfl,hs⟩:=hv
    refine wp ?_
    refine ⟨_,Sub.refl _,?_⟩
    rw [hr.trans hst]
    exact ⟨rfl,hs⟩
   ·rw [hone] at hv hst
    obtain ⟨rfl,hs⟩:=hv
    refine wp ?_
    exact ⟨(i+1,q2),eqa,B8,⟨by simp only;omega,hs,hJ _ _ _ hm hJ7 hone,hr.trans hst⟩,by simp only;omega⟩
  ·conv=>whnf
   refine wp ?_
   refine ⟨_,Sub.refl _,?_⟩
   rw [hr,C0 (by omega)]
   exact ⟨rfl,hC7⟩
theorem C1u (hC:Cst s0 s bc bd bv bs q) (J:Qe→Prop) (l:List Tr.St) (hl:l.length≤100000)
  (hf:∀ q s x,x ∈ l→Cst s0 s bc bd bv bs q→J q→A2 Tryz.prog Γ 56 [.ptr (some ⟨bc,0,none⟩),.agg ((Tr.stA) x)] s (P7 s0 bc bd bv bs (D6 q x))) (hJ:∀ q x q',x ∈ l→J q→D6 q x=.ok q'→J q') (hJ0:J q) :
  A2 Tryz.prog Γ 55 [.slice 0 (l.map (Tr.stA)),.func (.func 56) [.ptr (some ⟨bc,0,none⟩)] []] s (P7 s0 bc bd bv bs (B3 D6 q l)):=by
 have hla:(l.map (Tr.stA)).length=l.length:=List.length_map ..
 refine acs Tryz.func55 ?_
 refine wr ?_
 refine AWp.loopA [10] [11,12,13,6,14,15,16,7,17,18,19,4,20] (fun z:Nat × Qe=>[.int .i64 (z.1:Int)]) (fun z s'=>z.1≤l.length∧Cst s0 s' bc bd bv bs z.2∧J z.2∧B3 D6 q l=B3 D6 z.2 (l.drop z.1)) (fun z=>l.length - z.1) ((0,q)) (by kernel_rfl) (eqa) ?_ ?_
 ·exact ⟨Nat.zero_le _,hC,hJ0,rfl⟩
 ·rintro y ⟨i,q1⟩ s7 ⟨hi,hC7,hJ7,hr⟩
  simp only at hi hC7 hJ7 hr
  show awp _ _ _ _ _ (updL _ _ [.int .i64 (i:Int)]) _
  by_cases hlt:i < l.length
  ·have hga:(l.map (Tr.stA)).getD ((i:Int)).toNat []=(Tr.stA) (l.getD i A63):=by rw [Int.toNat_natCast];exact Tr.B9 (f:=Tr.stA) A63 hlt
   have hst:B3 D6 q1 (l.drop i)=match D6 q1 (l.getD i A63) with
     | .error e=>.error e
     | .ok q'=>B3 D6 q' (l.drop (i+1)):=by
    rw [List.drop_eq_getElem_cons hlt,B3]
    simp only [List.getD,List.getElem?_eq_getElem hlt,Option.getD_some]
    cases D6 q1 l[i]<;>rfl
   have hm:=Tr.D4 A63 hlt
   generalize l.getD i A63=u at *
   have hcall:=fun s hC=>hf q1 s u hm hC hJ7
   obtain ⟨⟨n1,n2,n3⟩,nx,ac⟩:=u
   simp only [Tr.stA] at hga hcall
   refine wp ?_
   intro b6 hb6
   have hC6:=fun cs cs'=>hC7.box2 hb6 50 cs cs'
   refine wp ?_;(refine A2.by (hcall _ (hC6 _ _)) ?_;intro v s8 hv);refine wp ?_
   rcases hone:D6 q1 _ with e|q2
   ·rw [hone] at hv hst
    obtain ⟨rfl,hs⟩:=hv
    refine wp ?_
    refine ⟨_,Sub.refl _,?_⟩
    rw [hr.trans hst]
    exact ⟨rfl,hs⟩
   ·rw [hone] at hv hst
    obtain ⟨rfl,hs⟩:=hv
    refine wp ?_
    exact ⟨(i+1,q2),eqa,B8,⟨by simp only;omega,hs,hJ _ _ _ hm hJ7 hone,hr.trans hst⟩,by simp only;omega⟩
  ·conv=>whnf
   refine wp ?_
   refine ⟨_,Sub.refl _,?_⟩
   rw [hr,C0 (by omega)]
   exact ⟨rfl,hC7⟩
theorem C1v {b2:Nat} (hC:Cst s0 s bc bd bv bs q) (J:Qe→Prop) (l:List Tr.Sy) (hl:l.length≤100000)
  (hf:∀ q s x,x ∈ l→Cst s0 s bc bd bv bs q→J q→A2 Tryz.prog Γ 61 [.agg ((fun x=>Tr.syA (0,x)) x),.ptr (some ⟨b2,0,none⟩)] s (P7 s0 bc bd bv bs (H3 q x))) (hJ:∀ q x q',x ∈ l→J q→H3 q x=.ok q'→J q') (hJ0:J q) :
  A2 Tryz.prog Γ 60 [.slice 0 (l.map (fun x=>Tr.syA (0,x))),.func (.func 61) [] [.ptr (some ⟨b2,0,none⟩)]] s (P7 s0 bc bd bv bs (B3 H3 q l)):=by
 have hla:(l.map (fun x=>Tr.syA (0,x))).length=l.length:=List.length_map ..
 refine acs Tryz.func60 ?_
 refine wr ?_
 refine AWp.loopA [10] [11,12,13,6,14,15,16,7,17,18,19,4,20] (fun z:Nat × Qe=>[.int .i64 (z.1:Int)]) (fun z s'=>z.1≤l.length∧Cst s0 s' bc bd bv bs z.2∧J z.2∧B3 H3 q l=B3 H3 z.2 (l.drop z.1)) (fun z=>l.length - z.1) ((0,q)) (by kernel_rfl) (eqa) ?_ ?_
 ·exact ⟨Nat.zero_le _,hC,hJ0,rfl⟩
 ·rintro y ⟨i,q1⟩ s7 ⟨hi,hC7,hJ7,hr⟩
  simp only at hi hC7 hJ7 hr
  show awp _ _ _ _ _ (updL _ _ [.int .i64 (i:Int)]) _
  by_cases hlt:i < l.length
  ·have hga:(l.map (fun x=>Tr.syA (0,x))).getD ((i:Int)).toNat []=(fun x=>Tr.syA (0,x)) (l.getD i A29):=by rw [Int.toNat_natCast];exact Tr.B9 (f:=fun x=>Tr.syA (0,x)) A29 hlt
   have hst:B3 H3 q1 (l.drop i)=match H3 q1 (l.getD i A29) with
     | .error e=>.error e
     | .ok q'=>B3 H3 q' (l.drop (i+1)):=by
    rw [List.drop_eq_getElem_cons hlt,B3]
    simp only [List.getD,List.getElem?_eq_getElem hlt,Option.getD_some]
    cases H3 q1 l[i]<;>rfl
   have hm:=Tr.D4 A29 hlt
   generalize l.getD i A29=u at *
   have hcall:=fun s hC=>hf q1 s u hm hC hJ7
   obtain ⟨nm,args,ln,cl⟩:=u
   simp only [Tr.syA] at hga hcall
   refine wp ?_
   intro b6 hb6
   have hC6:=fun cs cs'=>hC7.box2 hb6 46 cs cs'
   refine wp ?_;(refine A2.by (hcall _ (hC6 _ _)) ?_;intro v s8 hv);refine wp ?_
   rcases hone:H3 q1 _ with e|q2
   ·rw [hone] at hv hst
    obtain ⟨rfl,hs⟩:=hv
    refine wp ?_
    refine ⟨_,Sub.refl _,?_⟩
    rw [hr.trans hst]
    exact ⟨rfl,hs⟩
   ·rw [hone] at hv hst
    obtain ⟨rfl,hs⟩:=hv
    refine wp ?_
    exact ⟨(i+1,q2),eqa,B8,⟨by simp only;omega,hs,hJ _ _ _ hm hJ7 hone,hr.trans hst⟩,by simp only;omega⟩
  ·conv=>whnf
   refine wp ?_
   refine ⟨_,Sub.refl _,?_⟩
   rw [hr,C0 (by omega)]
   exact ⟨rfl,hC7⟩
theorem C1w (hC:Cst s0 s bc bd bv bs q) (J:Qe→Prop) (l:List Tr.Tn) (hl:l.length≤100000)
  (hf:∀ q s x,x ∈ l→Cst s0 s bc bd bv bs q→J q→A2 Tryz.prog Γ 65 [.ptr (some ⟨bc,0,none⟩),.agg ((fun x=>Tr.tnA ((0,0,0),x)) x)] s (P7 s0 bc bd bv bs (E6 q x))) (hJ:∀ q x q',x ∈ l→J q→E6 q x=.ok q'→J q') (hJ0:J q) :
  A2 Tryz.prog Γ 64 [.slice 0 (l.map (fun x=>Tr.tnA ((0,0,0),x))),.func (.func 65) [.ptr (some ⟨bc,0,none⟩)] []] s (P7 s0 bc bd bv bs (B3 E6 q l)):=by
 have hla:(l.map (fun x=>Tr.tnA ((0,0,0),x))).length=l.length:=List.length_map ..
 refine acs Tryz.func64 ?_
 refine wr ?_
 refine AWp.loopA [10] [11,12,13,6,14,15,16,7,17,18,19,4,20] (fun z:Nat × Qe=>[.int .i64 (z.1:Int)]) (fun z s'=>z.1≤l.length∧Cst s0 s' bc bd bv bs z.2∧J z.2∧B3 E6 q l=B3 E6 z.2 (l.drop z.1)) (fun z=>l.length - z.1) ((0,q)) (by kernel_rfl) (eqa) ?_ ?_
 ·exact ⟨Nat.zero_le _,hC,hJ0,rfl⟩
 ·rintro y ⟨i,q1⟩ s7 ⟨hi,hC7,hJ7,hr⟩
  simp only at hi hC7 hJ7 hr
  show awp _ _ _ _ _ (updL _ _ [.int .i64 (i:Int)]) _
  by_cases hlt:i < l.length
  ·have hga:(l.map (fun x=>Tr.tnA ((0,0,0),x))).getD ((i:Int)).toNat []=(fun x=>Tr.tnA ((0,0,0),x)) (l.getD i A3a):=by rw [Int.toNat_natCast];exact Tr.B9 (f:=fun x=>Tr.tnA ((0,0,0),x)) A3a hlt
   have hst:B3 E6 q1 (l.drop i)=match E6 q1 (l.getD i A3a) with
     | .error e=>.error e
     | .ok q'=>B3 E6 q' (l.drop (i+1)):=by
    rw [List.drop_eq_getElem_cons hlt,B3]
    simp only [List.getD,List.getElem?_eq_getElem hlt,Option.getD_some]
    cases E6 q1 l[i]<;>rfl
   have hm:=Tr.D4 A3a hlt
   generalize l.getD i A3a=u at *
   have hcall:=fun s hC=>hf q1 s u hm hC hJ7
   obtain ⟨⟨n1,n2,n3⟩,⟨m1,m2,m3⟩,⟨y1,y2,y3,y4⟩,nds,g,ss⟩:=u
   simp only [Tr.tnA] at hga hcall
   refine wp ?_
   intro b6 hb6
   have hC6:=fun cs cs'=>hC7.box2 hb6 54 cs cs'
   refine wp ?_;(refine A2.by (hcall _ (hC6 _ _)) ?_;intro v s8 hv);refine wp ?_
   rcases hone:E6 q1 _ with e|q2
   ·rw [hone] at hv hst
    obtain ⟨rfl,hs⟩:=hv
    refine wp ?_
    refine ⟨_,Sub.refl _,?_⟩
    rw [hr.trans hst]
    exact ⟨rfl,hs⟩
   ·rw [hone] at hv hst
    obtain ⟨rfl,hs⟩:=hv
    refine wp ?_
    exact ⟨(i+1,q2),eqa,B8,⟨by simp only;omega,hs,hJ _ _ _ hm hJ7 hone,hr.trans hst⟩,by simp only;omega⟩
  ·conv=>whnf
   refine wp ?_
   refine ⟨_,Sub.refl _,?_⟩
   rw [hr,C0 (by omega)]
   exact ⟨rfl,hC7⟩
end
section
variable {s0 s:Sto} {bc bd bv bs:Nat} {q:Qe}
theorem Cst.over (h:Cst s0 s bc bd bv bs q) {s':Sto} (hs:Sub s s'):Cst s0 s' bc bd bv bs q:=by
 obtain ⟨tk,a,cap,h1,h2,h3⟩:=h.st
 exact ⟨h.nc,h.nd,h.nv,h.ns,h.dv,h.ds,h.vs,hs.mp _ _ h.md,hs.mp _ _ h.mv,hs.mp _ _ h.ms,tk,a,cap,
  ⟨h1.sub.trans hs,fun i hi=>(h1.own i hi).imp id fun x=>⟨x.1,hs.lv _ _ _ x.2.1,x.2.2⟩,h1.ne⟩,h2.mono fun c z _ _ hz=>hs.bx _ _ hz,hs.bx _ _ h3⟩
theorem C22 {b5:Nat} {v:Int} (h5:s.bx b5=some (3,[.int .i64 v])) (y:Sm) (hl:y.2.length≤100000) :
  A2 Tryz.prog Γ 119 [.agg (smA (0,y)),.ptr (some ⟨b5,0,none⟩)] s fun r s'=>r=.bool (M2 y v)∧s'=s:=by
 have hst:=C23 (Γ:=Γ) 0 y v (by omega)
 obtain ⟨y1,y2⟩:=y
 simp only [smA] at hst ⊢
 refine acs Tryz.func119 ?_
 conv=>whnf
 intro b2 hb2
 have n_b5_b2:b5≠b2:=A1 bxa hb2
 have n_b2_b5:=n_b5_b2.symm
 refine wr ?_
 exact ⟨s,(Sub.refl _).set hb2 _ _,rfl,rfl⟩
theorem B7x (hC:Cst s0 s bc bd bv bs q) (hq:H7 q) (l:List Tr.Qu) (hl:l.length≤100000) :
  A2 Tryz.prog Γ 67 [.ptr (some ⟨bc,0,none⟩),.slice 0 (l.map Tr.quA)] s (P7 s0 bc bd bv bs (K8 q 0 l)):=by
 have hla:(l.map Tr.quA).length=l.length:=List.length_map ..
 refine acs Tryz.func67 ?_
 refine wr ?_
 refine AWp.loopA [9] [10,11,12,13,5,6,14,15,16,17,18,19,20,21,22,23,24,4,25] (fun i:Nat=>[.int .i64 (i:Int)]) (fun i s'=>i≤l.length∧Cst s0 s' bc bd bv bs q∧K8 q 0 l=K8 q i (l.drop i)) (fun i=>l.length - i) (0) (by kernel_rfl) (eqa) ?_ ?_
 ·exact ⟨Nat.zero_le _,hC,rfl⟩
 ·rintro y i s7 ⟨hi,hC7,hr⟩
  by_cases hlt:i < l.length
  ·have hga:(l.map Tr.quA).getD ((i:Int)).toNat []=Tr.quA (l.getD i Y8):=by rw [Int.toNat_natCast];exact Tr.B9 Y8 hlt
   have hst:K8 q i (l.drop i)=if q.syms.any (fun s=>M2 s i)=true then K8 q (i+1) (l.drop (i+1)) else .error (9,(l.getD i Y8).2.1.2):=by
    rw [List.drop_eq_getElem_cons hlt,K8]
    simp only [List.getD,List.getElem?_eq_getElem hlt,Option.getD_some]
   generalize l.getD i Y8=u at *
   obtain ⟨al,⟨n1,n2,n3⟩,ty⟩:=u
   simp only [Tr.quA] at hga
   have hat:=B2z (Γ:=Γ) 9 (n1,n2,n3)
   simp only [Tr.S1] at hat
   obtain ⟨tk,a,cap,h1,h2,h3⟩:=hC7.st
   simp only [chA] at h3
   have hsl:=hq.syms
   have hcs:=fun (s':Sto) (b5:Nat) (h5:s'.bx b5=some (3,[.int .i64 (i:Int)]))=>B2f (Γ:=Γ) (n:=119) (cs:=[.ptr (some ⟨b5,0,none⟩)]) (by kernel_rfl) (fun y=>M2 y (i:Int)) (tk 4) q.syms (by omega) (fun y hy=>C22 (Γ:=Γ) h5 y (by have:=(hq.symOk y hy).2.2.1;omega))
   refine wp ?_
   intro b5 hb5
   have n5:=A1 h3 hb5
   conv=>whnf
   intro b6 hb6
   have n_b5_b6:b5≠b6:=A1 bxa hb6
   have n_b6_b5:=n_b5_b6.symm
   have n_bc_b6:bc≠b6:=A1 bxa hb6
   have n_b6_bc:=n_bc_b6.symm
   have k6:=A0 hb6
   conv=>whnf
   repeat' ((first|exact pru|(refine brS (fun h=>?_) (fun h=>?_)<;>(try rw [h])<;>(try simp only [bS,↓reduceIte] at h))|refine A5 ?_|refine ⟨D3 (hga) rfl,Go.Ab.C5 (hga) ?_⟩|(refine A2.by (hcs _ _ bxa) ?_;rintro _ _ ⟨rfl,rfl⟩)|(refine A2.pure' ?_ (hat);rintro _ rfl)|refine A7.pure ?_ (hat)|refine gS ?_|refine aA ?_|refine nA ?_|fail)<;>(conv=>whnf))
   ·refine ⟨_,Sub.refl _,?_⟩
    rw [hr,hst,if_neg (by simp_all)]
    exact ⟨rfl,hC7.sub.trans (((((Sub.refl s7).set hb5 _ _).set k6 _ _).set hb5 _ _).set k6 _ _)⟩
   ·exact ⟨i+1,eqa,B8,⟨by omega,hC7.over (((((Sub.refl s7).set hb5 _ _).set k6 _ _).set hb5 _ _).set k6 _ _),by rw [hr,hst,if_pos (by simp_all)]⟩,by omega⟩
  ·conv=>whnf
   refine wp ?_
   refine ⟨_,Sub.refl _,?_⟩
   rw [hr,C0 (by omega)]
   exact ⟨rfl,hC7⟩
end
structure ZTr (x:Tr.Tr0):Prop where
 de:x.2.1=(x.2.1.map Prod.snd).map fun d=>(0,d)
 sy:x.2.2.2.2.2.2.1=(x.2.2.2.2.2.2.1.map Prod.snd).map fun d=>(0,d)
 tn:x.2.2.2.2.2.2.2=(x.2.2.2.2.2.2.2.map Prod.snd).map fun t=>((0,0,0),t)
theorem ZTr.deA {x:Tr.Tr0} (h:ZTr x):x.2.1.map Tr.deA=(x.2.1.map Prod.snd).map fun d=>Tr.deA (0,d):=by
 conv=>lhs;rw [h.de]
 rw [List.map_map];rfl
theorem ZTr.syA {x:Tr.Tr0} (h:ZTr x):x.2.2.2.2.2.2.1.map Tr.syA=(x.2.2.2.2.2.2.1.map Prod.snd).map fun d=>Tr.syA (0,d):=by
 conv=>lhs;rw [h.sy]
 rw [List.map_map];rfl
theorem ZTr.tnA {x:Tr.Tr0} (h:ZTr x):x.2.2.2.2.2.2.2.map Tr.tnA=(x.2.2.2.2.2.2.2.map Prod.snd).map fun t=>Tr.tnA ((0,0,0),t):=by
 conv=>lhs;rw [h.tn]
 rw [List.map_map];rfl
structure A53 (x:Tr.Tr0):Prop where
 z:ZTr x
 small:Tr.C3n x
 right:Tr.Y1 x=true
 args:∀ t ∈ x.2.2.2.2.2.2.1,∀ a ∈ t.2.2.1,a.1=1∨a.1=2∨a.1=3
 fit:∀ t ∈ x.2.2.2.2.2.2.2,A52 t.2
section
variable {s0 s:Sto} {bc bd bv bs b2 b3:Nat} {q:Qe} {x:Tr.Tr0}
theorem B8e (hC:Cst s0 s bc bd bv bs q) (h2:s0.bx b2=some (77,[.ptr (some ⟨bc,0,none⟩)])) (hq:H7 q) (y:Tr.Sy) (hy:∀ a ∈ y.2.1,a.1=1∨a.1=2∨a.1=3) :
  A2 Tryz.prog Γ 61 [.agg (Tr.syA (0,y)),.ptr (some ⟨b2,0,none⟩)] s (P7 s0 bc bd bv bs (H3 q y)):=by
 have f2:=hC.sub.bx _ _ h2
 obtain ⟨y1,y2,y3,y4⟩:=y
 simp only at hy
 have hsym:=fun s' (h:Cst s0 s' bc bd bv bs q)=>B3z (Γ:=Γ) h hq (y1,y2,y3,y4) hy
 simp only [Tr.syA] at hsym ⊢
 refine acs Tryz.func61 ?_
 conv=>whnf
 intro b hb
 have n_b2_b:b2≠b:=A1 bxa hb
 have n_b_b2:=n_b2_b.symm
 have hCb:=hC.box hb 46 [.str y1,.slice 0 (y2.map Tr.arA),.int .i64 y3,.int .i64 y4]
 refine wp ?_;(refine A2.by (hsym _ hCb) ?_;intro v s4 hv);refine wp ?_
 rcases hp:S2 q (y1,y2,y3,y4) with e|⟨q1,i⟩
 ·rw [hp] at hv
  obtain ⟨rfl,hs⟩:=hv
  refine wp ?_
  refine ⟨_,Sub.refl _,?_⟩
  unfold H3
  rw [hp]
  exact ⟨rfl,hs⟩
 ·rw [hp] at hv
  obtain ⟨rfl,hs⟩:=hv
  refine wp ?_
  refine ⟨_,Sub.refl _,?_⟩
  unfold H3
  rw [hp]
  exact ⟨rfl,hs⟩
theorem C78 (hC:Cst s0 s bc bd bv bs q) (h2:s0.bx b2=some (77,[.ptr (some ⟨bc,0,none⟩)])) (h3:s0.bx b3=some (34,Tr.trA z0 x)) (hx:A53 x) (hq:M8 0 q) :
  A2 Tryz.prog Γ 45 [.ptr (some ⟨b3,0,none⟩),.ptr (some ⟨b2,0,none⟩)] s (P7 s0 bc bd bv bs (C1 x q 0)):=by
 have f2:=hC.sub.bx _ _ h2
 have f3:=hC.sub.bx _ _ h3
 simp only [Tr.trA,z0,hx.z.deA] at f3
 have hq':M8 0 q:=⟨hq.1,fun h=>by first|exact hq.2 (by omega)|exact absurd h (by omega)⟩
 have hcall:=C1r (Γ:=Γ) hC (M8 0) (x.2.1.map Prod.snd) (by rw [List.length_map];exact hx.small.1.1) (fun q s d hd hC hq=>C7b hC hq.1 d (by obtain ⟨y,hy,rfl⟩:=List.mem_map.1 hd;exact hx.small.2.1 y hy)) (fun q d q' _ hq he=>⟨A4i hq.1 he,fun _=>(A8u he).trans (hq.2 (by omega))⟩) hq'
 have e:C1 x q 0=B3 H1 q (x.2.1.map Prod.snd):=rfl
 rw [e]
 refine acs Tryz.func45 ?_
 refine wp ?_;(refine A2.by hcall ?_;intro v s1 hv);refine wp ?_
 rcases hone:B3 H1 q (x.2.1.map Prod.snd) with e|q2
 ·rw [hone] at hv
  obtain ⟨rfl,hs⟩:=hv
  refine wp ?_
  exact ⟨_,Sub.refl _,rfl,hs⟩
 ·rw [hone] at hv
  obtain ⟨rfl,hs⟩:=hv
  refine wp ?_
  exact ⟨_,Sub.refl _,rfl,hs⟩
theorem C79 (hC:Cst s0 s bc bd bv bs q) (h2:s0.bx b2=some (77,[.ptr (some ⟨bc,0,none⟩)])) (h3:s0.bx b3=some (34,Tr.trA z0 x)) (hx:A53 x) (hq:M8 1 q) :
  A2 Tryz.prog Γ 48 [.ptr (some ⟨b3,0,none⟩),.ptr (some ⟨b2,0,none⟩)] s (P7 s0 bc bd bv bs (C1 x q 1)):=by
 have f2:=hC.sub.bx _ _ h2
 have f3:=hC.sub.bx _ _ h3
 simp only [Tr.trA,z0] at f3
 have hq':M8 1 q:=⟨hq.1,fun h=>by first|exact hq.2 (by omega)|exact absurd h (by omega)⟩
 have hcall:=C1t (Γ:=Γ) hC (M8 1) (x.2.2.1) hx.small.1.2.1 (fun q s d hd hC hq=>C5i hC hq.1 (hq.2 (by omega)) d) (fun q d q' _ hq he=>⟨A21 hq.1 he,fun _=>(A7d he).trans (hq.2 (by omega))⟩) hq'
 have e:C1 x q 1=B3 E8 q (x.2.2.1):=rfl
 rw [e]
 refine acs Tryz.func48 ?_
 refine wp ?_;(refine A2.by hcall ?_;intro v s1 hv);refine wp ?_
 rcases hone:B3 E8 q (x.2.2.1) with e|q2
 ·rw [hone] at hv
  obtain ⟨rfl,hs⟩:=hv
  refine wp ?_
  exact ⟨_,Sub.refl _,rfl,hs⟩
 ·rw [hone] at hv
  obtain ⟨rfl,hs⟩:=hv
  refine wp ?_
  exact ⟨_,Sub.refl _,rfl,hs⟩
theorem C8a (hC:Cst s0 s bc bd bv bs q) (h2:s0.bx b2=some (77,[.ptr (some ⟨bc,0,none⟩)])) (h3:s0.bx b3=some (34,Tr.trA z0 x)) (hx:A53 x) (hq:M8 2 q) :
  A2 Tryz.prog Γ 51 [.ptr (some ⟨b3,0,none⟩),.ptr (some ⟨b2,0,none⟩)] s (P7 s0 bc bd bv bs (C1 x q 2)):=by
 have f2:=hC.sub.bx _ _ h2
 have f3:=hC.sub.bx _ _ h3
 simp only [Tr.trA,z0] at f3
 have hq':M8 3 q:=⟨hq.1,fun h=>by first|exact hq.2 (by omega)|exact absurd h (by omega)⟩
 have hcall:=C1s (Γ:=Γ) hC (M8 3) (x.2.2.2.1) hx.small.1.2.2.1 (fun q s d hd hC hq=>C7g hC hq.1 d) (fun q d q' _ hq he=>⟨A4m hq.1 he,fun h=>absurd h (by omega)⟩) hq'
 have e:C1 x q 2=B3 H4 q (x.2.2.2.1):=rfl
 rw [e]
 refine acs Tryz.func51 ?_
 refine wp ?_;(refine A2.by hcall ?_;intro v s1 hv);refine wp ?_
 rcases hone:B3 H4 q (x.2.2.2.1) with e|q2
 ·rw [hone] at hv
  obtain ⟨rfl,hs⟩:=hv
  refine wp ?_
  exact ⟨_,Sub.refl _,rfl,hs⟩
 ·rw [hone] at hv
  obtain ⟨rfl,hs⟩:=hv
  refine wp ?_
  exact ⟨_,Sub.refl _,rfl,hs⟩
theorem C8b (hC:Cst s0 s bc bd bv bs q) (h2:s0.bx b2=some (77,[.ptr (some ⟨bc,0,none⟩)])) (h3:s0.bx b3=some (34,Tr.trA z0 x)) (hx:A53 x) (hq:M8 3 q) :
  A2 Tryz.prog Γ 54 [.ptr (some ⟨b3,0,none⟩),.ptr (some ⟨b2,0,none⟩)] s (P7 s0 bc bd bv bs (C1 x q 3)):=by
 have f2:=hC.sub.bx _ _ h2
 have f3:=hC.sub.bx _ _ h3
 simp only [Tr.trA,z0] at f3
 have hq':M8 3 q:=⟨hq.1,fun h=>by first|exact hq.2 (by omega)|exact absurd h (by omega)⟩
 have hcall:=C1u (Γ:=Γ) hC (M8 3) (x.2.2.2.2.1) hx.small.1.2.2.2.1 (fun q s d hd hC hq=>B1u hC hq.1 d) (fun q d q' _ hq he=>⟨A24 hq.1 he,fun h=>absurd h (by omega)⟩) hq'
 have e:C1 x q 3=B3 D6 q (x.2.2.2.2.1):=rfl
 rw [e]
 refine acs Tryz.func54 ?_
 refine wp ?_;(refine A2.by hcall ?_;intro v s1 hv);refine wp ?_
 rcases hone:B3 D6 q (x.2.2.2.2.1) with e|q2
 ·rw [hone] at hv
  obtain ⟨rfl,hs⟩:=hv
  refine wp ?_
  exact ⟨_,Sub.refl _,rfl,hs⟩
 ·rw [hone] at hv
  obtain ⟨rfl,hs⟩:=hv
  refine wp ?_
  exact ⟨_,Sub.refl _,rfl,hs⟩
theorem C8d (hC:Cst s0 s bc bd bv bs q) (h2:s0.bx b2=some (77,[.ptr (some ⟨bc,0,none⟩)])) (h3:s0.bx b3=some (34,Tr.trA z0 x)) (hx:A53 x) (hq:M8 5 q) :
  A2 Tryz.prog Γ 59 [.ptr (some ⟨b3,0,none⟩),.ptr (some ⟨b2,0,none⟩)] s (P7 s0 bc bd bv bs (C1 x q 5)):=by
 have f2:=hC.sub.bx _ _ h2
 have f3:=hC.sub.bx _ _ h3
 simp only [Tr.trA,z0,hx.z.syA] at f3
 have hq':M8 3 q:=⟨hq.1,fun h=>by first|exact hq.2 (by omega)|exact absurd h (by omega)⟩
 have hcall:=C1v (Γ:=Γ) hC (M8 3) (x.2.2.2.2.2.2.1.map Prod.snd) (by rw [List.length_map];exact hx.small.1.2.2.2.2.1) (fun q s d hd hC hq=>B8e hC h2 hq.1 d (by obtain ⟨y,hy,rfl⟩:=List.mem_map.1 hd;exact hx.args y hy)) (fun q d q' _ hq he=>⟨A10 hq.1 he,fun h=>absurd h (by omega)⟩) hq'
 have e:C1 x q 5=B3 H3 q (x.2.2.2.2.2.2.1.map Prod.snd):=rfl
 rw [e]
 refine acs Tryz.func59 ?_
 refine wp ?_;(refine A2.by hcall ?_;intro v s1 hv);refine wp ?_
 rcases hone:B3 H3 q (x.2.2.2.2.2.2.1.map Prod.snd) with e|q2
 ·rw [hone] at hv
  obtain ⟨rfl,hs⟩:=hv
  refine wp ?_
  exact ⟨_,Sub.refl _,rfl,hs⟩
 ·rw [hone] at hv
  obtain ⟨rfl,hs⟩:=hv
  refine wp ?_
  exact ⟨_,Sub.refl _,rfl,hs⟩
theorem C8e (hC:Cst s0 s bc bd bv bs q) (h2:s0.bx b2=some (77,[.ptr (some ⟨bc,0,none⟩)])) (h3:s0.bx b3=some (34,Tr.trA z0 x)) (hx:A53 x) (hT:∀ q s d,d ∈ x.2.2.2.2.2.2.2.map Prod.snd→Cst s0 s bc bd bv bs q→H7 q→A2 Tryz.prog Γ 65 [.ptr (some ⟨bc,0,none⟩),.agg (Tr.tnA ((0,0,0),d))] s (P7 s0 bc bd bv bs (E6 q d))) (hq:M8 6 q) :
  A2 Tryz.prog Γ 63 [.ptr (some ⟨b3,0,none⟩),.ptr (some ⟨b2,0,none⟩)] s (P7 s0 bc bd bv bs (C1 x q 6)):=by
 have f2:=hC.sub.bx _ _ h2
 have f3:=hC.sub.bx _ _ h3
 simp only [Tr.trA,z0,hx.z.tnA] at f3
 have hq':M8 3 q:=⟨hq.1,fun h=>by first|exact hq.2 (by omega)|exact absurd h (by omega)⟩
 have hcall:=C1w (Γ:=Γ) hC (M8 3) (x.2.2.2.2.2.2.2.map Prod.snd) (by rw [List.length_map];exact hx.small.1.2.2.2.2.2) (fun q s d hd hC hq=>hT q s d hd hC hq.1) (fun q d q' hd hq he=>⟨A2d hq.1 (by obtain ⟨y,hy,rfl⟩:=List.mem_map.1 hd;exact hx.fit y hy) he,fun h=>absurd h (by omega)⟩) hq'
 have e:C1 x q 6=B3 E6 q (x.2.2.2.2.2.2.2.map Prod.snd):=rfl
 rw [e]
 refine acs Tryz.func63 ?_
 refine wp ?_;(refine A2.by hcall ?_;intro v s1 hv);refine wp ?_
 rcases hone:B3 E6 q (x.2.2.2.2.2.2.2.map Prod.snd) with e|q2
 ·rw [hone] at hv
  obtain ⟨rfl,hs⟩:=hv
  refine wp ?_
  exact ⟨_,Sub.refl _,rfl,hs⟩
 ·rw [hone] at hv
  obtain ⟨rfl,hs⟩:=hv
  refine wp ?_
  exact ⟨_,Sub.refl _,rfl,hs⟩
theorem C8c (hC:Cst s0 s bc bd bv bs q) (h2:s0.bx b2=some (77,[.ptr (some ⟨bc,0,none⟩)])) (h3:s0.bx b3=some (34,Tr.trA z0 x)) (hx:A53 x) :
  A2 Tryz.prog Γ 57 [.ptr (some ⟨b2,0,none⟩),.ptr (some ⟨b3,0,none⟩)] s (P7 s0 bc bd bv bs (C1 x q 4)):=by
 have f2:=hC.sub.bx _ _ h2
 have f3:=hC.sub.bx _ _ h3
 simp only [Tr.trA,z0] at f3
 obtain ⟨tk,a,cap,h1,h4,h5⟩:=hC.st
 have h5':=h5
 simp only [chA] at h5
 have hfind:=B4u (Γ:=Γ) hC x.2.2.2.2.2.1
 simp only [Tr.S1] at hfind
 have e:C1 x q 4=Y3 q x.2.2.2.2.2.1:=rfl
 rw [e]
 unfold Y3
 rcases hf:K9 q x.2.2.2.2.2.1 with e|i
 ·rw [hf] at hfind
  simp only [B0m] at hfind
  refine acs Tryz.func57 ?_
  conv=>whnf
  repeat' ((first|exact pru|(refine brS (fun h=>?_) (fun h=>?_)<;>(try rw [h])<;>(try simp only [bS,↓reduceIte] at h))|refine A5 ?_|(refine AWp.anyC (id:=1) [8] [] (by kernel_rfl) (by kernel_rfl) (by kernel_rfl) (by kernel_rfl) ?_)|(refine B2n.mk _ hfind ?_)|(refine oA ?_)|refine gS ?_|refine aA ?_|refine nA ?_|fail)<;>(conv=>whnf))
  exact ⟨_,Sub.refl _,rfl,hC.sub.set hC.nc _ _⟩
 ·rw [hf] at hfind
  simp only [B0m] at hfind
  refine acs Tryz.func57 ?_
  conv=>whnf
  repeat' ((first|exact pru|(refine brS (fun h=>?_) (fun h=>?_)<;>(try rw [h])<;>(try simp only [bS,↓reduceIte] at h))|refine A5 ?_|(refine AWp.anyC (id:=1) [8] [] (by kernel_rfl) (by kernel_rfl) (by kernel_rfl) (by kernel_rfl) ?_)|(refine B2n.mk _ hfind ?_)|(refine oA ?_)|refine gS ?_|refine aA ?_|refine nA ?_|fail)<;>(conv=>whnf))
  refine ⟨_,Sub.refl _,rfl,?_⟩
  exact ⟨hC.nc,hC.nd,hC.nv,hC.ns,hC.dv,hC.ds,hC.vs,C2.trans hC.md,C2.trans hC.mv,C2.trans hC.ms,tk,a,cap,h1.set hC.nc _ _,h4.mono fun c z hc _ hz=>(A4 hc).trans hz,A3⟩
theorem C8f (hC:Cst s0 s bc bd bv bs q) (h2:s0.bx b2=some (77,[.ptr (some ⟨bc,0,none⟩)])) (h3:s0.bx b3=some (34,Tr.trA z0 x)) (hx:A53 x) (hq:H7 q) :
  A2 Tryz.prog Γ 66 [.ptr (some ⟨b2,0,none⟩),.ptr (some ⟨b3,0,none⟩)] s (P7 s0 bc bd bv bs (C1 x q 7)):=by
 have f2:=hC.sub.bx _ _ h2
 have f3:=hC.sub.bx _ _ h3
 simp only [Tr.trA,z0] at f3
 have hcall:=B7x (Γ:=Γ) hC hq x.2.2.1 hx.small.1.2.1
 have e:C1 x q 7=K8 q 0 x.2.2.1:=rfl
 rw [e]
 refine acs Tryz.func66 ?_
 refine wp ?_;(refine A2.by hcall ?_;intro v s1 hv);refine wp ?_
 rcases hone:K8 q 0 x.2.2.1 with e|q2
 ·rw [hone] at hv
  obtain ⟨rfl,hs⟩:=hv
  refine wp ?_
  exact ⟨_,Sub.refl _,rfl,hs⟩
 ·rw [hone] at hv
  obtain ⟨rfl,hs⟩:=hv
  refine wp ?_
  exact ⟨_,Sub.refl _,rfl,hs⟩
end
section
variable {s0 s:Sto} {bc bd bv bs:Nat} {q:Qe}
structure Dst (s0 s:Sto) (bc bd bv bs:Nat) (q:Qe):Prop where
 sub:Sub s0 s
 st:∃ tk a cap,TrB s0 s bc q.trans a cap∧s.bx bc=some (81,chA tk a cap q bd bv bs)
theorem C6l {l:List Tx} {i:Nat} (h:i < l.length) (rest:List AV) (k n:Nat) (hk:k=5) (hn:n=5):(((txs l).flatten++rest).drop (0+((i:Int)).toNat * k)).take n=txA (0,l.getD i noTx):=by
 subst hk hn
 rw [Int.toNat_natCast,Nat.zero_add,B9v h rest _ rfl]
 exact List.take_left' rfl
theorem C6m {l:List Tx} {i:Nat} (h:i < l.length) (rest:List AV) (n k:Nat) (hn:n=5) (hk:k=5):n≤(((txs l).flatten++rest).drop (0+((i:Int)).toNat * k)).length:=by
 subst hn hk
 rw [Int.toNat_natCast,Nat.zero_add,B9v h rest _ rfl,List.length_append,C01]
 omega
theorem C0t:∀ (l acc:List Int),(U7 acc l).length≤acc.length+l.length
 | [],acc=>by simp [U7]
 | x::l,acc=>by
  rw [U7,List.length_cons]
  have:=C0t l (if x ∈ acc then acc else acc++[x])
  split at this
  ·rename_i h;rw [if_pos h];omega
  ·rename_i h;rw [if_neg h];simp at this ⊢;omega
theorem B4c (q:Qe) (k:Nat):(N4 q k).length≤k:=by
 have:=C0t ((trI q).take k) []
 rw [List.length_take] at this
 unfold N4
 simp only [List.length_nil] at this
 omega
theorem B0o (q:Qe) (i:Nat):(H2 q i).length≤i:=by
 unfold H2
 refine Nat.le_trans (List.length_filter_le _ _) ?_
 simp
theorem B6z (l:List Int) (x:Int):G9 .i64 (l++[x])=G9 .i64 l++[[.int .i64 x]]:=by simp [G9]
def C40 (q:Qe) (t:Tx):Tx:=(t.1,((idx t.2.1 (D9 q++E9 q)).getD 0:Int),t.2.2)
def A1d (q:Qe) (i:Nat):List Tx:=(q.trans.take i).map (C40 q)++q.trans.drop i
theorem B8v (q:Qe):A1d q 0=q.trans:=rfl
theorem A0s (q:Qe) (i:Nat):(A1d q i).length=q.trans.length:=by
 unfold A1d
 rw [List.length_append,List.length_map,List.length_take,List.length_drop]
 omega
theorem B27 (q:Qe):A1d q q.trans.length=(P5 q).trans:=by
 unfold A1d P5
 rw [List.take_length,List.drop_length,List.append_nil]
 rfl
theorem C38 (q:Qe) {i:Nat} (h:i < q.trans.length):(A1d q i).getD i noTx=q.trans.getD i noTx:=by
 unfold A1d
 have hl:((q.trans.take i).map (C40 q)).length=i:=by rw [List.length_map,List.length_take];omega
 simp only [List.getD]
 rw [List.getElem?_append_right (by omega),hl,Nat.sub_self,List.getElem?_drop,Nat.add_zero]
theorem B8u (q:Qe) {i:Nat} (h:i < q.trans.length):(A1d q i).set i (C40 q (q.trans.getD i noTx))=A1d q (i+1):=by
 have hl:((q.trans.take i).map (C40 q)).length=i:=by rw [List.length_map,List.length_take];omega
 unfold A1d
 rw [List.set_append_right _ _ (by omega),hl,Nat.sub_self,List.drop_eq_getElem_cons h,List.set_cons_zero,A2b noTx h,List.map_append]
 simp
theorem D0g {x:Int} {l:List Int} (h:x ∈ l):F0 (P8 (fun y=>decide (x=y)) l)=((idx x l).getD 0:Int):=by
 have e:(fun y=>decide (x=y))=fun y=>decide (y=x):=by funext y;exact decide_eq_decide.2 ⟨Eq.symm,Eq.symm⟩
 rw [e,A6l]
 cases hx:idx x l with
 | none=>exact absurd h (W2.1 hx)
 | some k=>rfl
theorem C5a (hC:Cst s0 s bc bd bv bs q) (hq:H7 q) :
  A2 Tryz.prog Γ 68 [.ptr (some ⟨bc,0,none⟩)] s fun v s'=>v=A1v []∧Dst s0 s' bc bd bv bs (P5 q):=by
 obtain ⟨tk,a,cap,h1,h2,h3⟩:=hC.st
 simp only [chA] at h3
 have hsl:=M1 q.syms
 have q1:=hq.syms
 have q2:=hq.trans
 refine acs Tryz.func68 ?_
 refine wp ?_
 refine AWp.loopA [3,18] [19,20,21,5,22,23,24,25,26,27,28,29,30,31,32] (fun z:Nat × Nat=>[.slice z.2 (G9 .i64 (N4 q z.1)),.int .i64 (z.1:Int)]) (fun z s'=>z.1≤q.trans.length∧∃ f,Own s s' f z.2 3 1) (fun z=>q.trans.length - z.1) ((0,1)) (by kernel_rfl) (eqa) ?_ ?_
 ·exact ⟨Nat.zero_le _,_,Own.nil _ _ _⟩
 ·rintro y ⟨i,t⟩ s7 ⟨hi,f,ho⟩
  simp only at hi ho
  have g3':=ho.sub.bx _ _ h3
  show awp _ _ _ _ _ (updL _ _ [.slice t (G9 .i64 (N4 q i)),.int .i64 (i:Int)]) _
  by_cases hlt:i < q.trans.length
  ·obtain ⟨bt,rest,rfl,g2,g3,g4,g5,g6⟩:=h2.some (by intro hn;rw [hn] at hlt;simp at hlt)
   have g4':=ho.sub.bx _ _ g4
   have hld:=fun k n=>C6l hlt rest k n
   have hl5:=C6m hlt rest
   have hal:=B4c q i
   have hil:=H8 .i64 (N4 q i)
   have hsucc:=A7r q hlt
   have hcon:=fun x=>A6d (Γ:=Γ) t (N4 q i) x (by omega)
   generalize q.trans.getD i noTx=u at *
   obtain ⟨u1,u2,u3,u4,u5⟩:=u
   simp only [txA] at hld
   simp only at hsucc
   refine wp ?_;(refine ⟨hl5 _ _ rfl rfl,Go.Ab.C5 (hld _ _ rfl rfl) ?_⟩);refine wp ?_
   intro b5 hb5
   have m5:=ho.sub.none hb5
   conv=>whnf
   repeat' ((first|exact pru|(refine brS (fun h=>?_) (fun h=>?_)<;>(try rw [h])<;>(try simp only [bS,↓reduceIte] at h))|refine A5 ?_|(refine A2.pure' ?_ (hcon u2);rintro _ rfl)|refine A7.pure ?_ (hcon u2)|refine gS ?_|refine aA ?_|refine nA ?_|fail)<;>(conv=>whnf))
   ·have e:N4 q (i+1)=N4 q i++[u2]:=by rw [hsucc,if_neg (by simpa using h)]
    refine ⟨ho.may.imp id ((((Sub.refl s7).set hb5 _ _).set hb5 _ _).lv _ _ _),fun c hc=>by obtain ⟨z,_,rfl⟩:=List.mem_map.1 hc;rfl,all_cons ⟨rfl,rfl⟩ C3,?_,?_⟩
    ·rw [hil]
     show ((N4 q i).length+1) * (8+1)≤_
     omega
    intro t' l1 l2
    have k3:=Own.grow (Own.set (Own.set ho m5) m5) l1 l2
    refine wp ?_
    refine ⟨(i+1,t'),?_,B8,⟨by omega,_,k3⟩,by omega⟩
    simp only [e,B6z]
    exact eqa
   ·have e:N4 q (i+1)=N4 q i:=by rw [hsucc,if_pos (by simpa using h)]
    refine ⟨(i+1,t),?_,B8,⟨by omega,f,(ho.set m5).set m5⟩,by omega⟩
    simp only [e]
    exact eqa
  ·have eT:N4 q i=E9 q:=B56 q (by omega)
   have hil:=H8 .i64 (E9 q)
   have htl:(E9 q).length≤256:=by rw [← eT];have:=B4c q i;omega
   rw [eT]
   refine wp ?_
   have hcon:=fun x=>A6d (Γ:=Γ) t (E9 q) x (by omega)
   refine AWp.loopA [2,39] [40,41,6,42,43,44,45,46,47,48,49,50] (fun z:Nat × Nat=>[.slice z.2 (G9 .i64 (H2 q z.1)),.int .i64 (z.1:Int)]) (fun z s'=>z.1≤q.syms.length∧∃ f,Own s7 s' f z.2 3 1) (fun z=>q.syms.length - z.1) ((0,1)) (by kernel_rfl) (eqa) ?_ ?_
   ·exact ⟨Nat.zero_le _,_,Own.nil _ _ _⟩
   ·rintro y2 ⟨j,t2⟩ s8 ⟨hj,f2,ho2⟩
    simp only at hj ho2
    have g3'':=ho2.sub.bx _ _ g3'
    show awp _ _ _ _ _ (updL _ _ [.slice t2 (G9 .i64 (H2 q j)),.int .i64 (j:Int)]) _
    have hfl:=B0o q j
    have hil2:=H8 .i64 (H2 q j)
    by_cases hlt2:j < q.syms.length
    ·have hsucc:=A2u q j
     conv=>whnf
     repeat' ((first|exact pru|(refine brS (fun h=>?_) (fun h=>?_)<;>(try rw [h])<;>(try simp only [bS,↓reduceIte] at h))|refine A5 ?_|(refine A2.pure' ?_ (hcon (j:Int));rintro _ rfl)|refine A7.pure ?_ (hcon (j:Int))|refine gS ?_|refine aA ?_|refine nA ?_|fail)<;>(conv=>whnf))
     ·have e:H2 q (j+1)=H2 q j++[(j:Int)]:=by rw [hsucc,if_neg (by simpa using h)]
      refine ⟨ho2.may,fun c hc=>by obtain ⟨z,_,rfl⟩:=List.mem_map.1 hc;rfl,all_cons ⟨rfl,rfl⟩ C3,?_,?_⟩
      ·rw [hil2]
       show ((H2 q j).length+1) * (8+1)≤_
       omega
      intro t' l1 l2
      have k3:=Own.grow ho2 l1 l2
      refine wp ?_
      refine ⟨(j+1,t'),?_,B8,⟨by omega,_,k3⟩,by omega⟩
      simp only [e,B6z]
      exact eqa
     ·have e:H2 q (j+1)=H2 q j:=by rw [hsucc,if_pos (by simpa using h)]
      refine ⟨(j+1,t2),?_,B8,⟨by omega,f2,ho2⟩,by omega⟩
      simp only [e]
      exact eqa
    ·obtain rfl:j=q.syms.length:=by omega
     rw [A3q] at *
     refine wp ?_
     have hln:(D9 q).length≤q.syms.length:=B0o q q.syms.length
     refine ⟨ho2.may,fun c hc=>by obtain ⟨z,_,rfl⟩:=List.mem_map.1 hc;rfl,fun c hc=>by obtain ⟨z,_,rfl⟩:=List.mem_map.1 hc;exact ⟨rfl,rfl⟩,?_,?_⟩
     ·rw [hil2,hil]
      show ((D9 q).length+(E9 q).length) * (8+1)≤_
      omega
     intro t' l1 l2
     have k9:=Own.grow ho2 l1 l2
     rw [show G9 .i64 (D9 q)++G9 .i64 (E9 q)=G9 .i64 (D9 q++E9 q) by simp [G9]]
     have hLlen:(D9 q++E9 q).length≤400:=by rw [List.length_append];omega
     have hLin:=C2l hq
     have hLil:=H8 .i64 (D9 q++E9 q)
     have hS9:Sub s (s8.grow t2 t' 3 1):=ho.sub.trans k9.sub
     have b9:=(Q5 (t:=t2) (t':=t') (e:=3) (k:=1)).trans g3''
     refine wp ?_
     refine AWp.loopA [7,56] [57,58,59,10,60,61,62,63,64,65,66,67,68,69,70,71] (fun z:Nat × Nat=>[.slice z.2 (sms (((D9 q++E9 q).take z.1).map (A0i q))),.int .i64 (z.1:Int)]) (fun z s'=>z.1≤(D9 q++E9 q).length∧∃ f,Own (s8.grow t2 t' 3 1) s' f z.2 93 2) (fun z=>(D9 q++E9 q).length - z.1) ((0,1)) (by kernel_rfl) (eqa) ?_ ?_
     ·exact ⟨Nat.zero_le _,_,Own.nil _ _ _⟩
     ·rintro y3 ⟨k,t3⟩ s10 ⟨hk,f3,ho3⟩
      simp only at hk ho3
      have b10:=ho3.sub.bx _ _ b9
      show awp _ _ _ _ _ (updL _ _ [.slice t3 (sms (((D9 q++E9 q).take k).map (A0i q))),.int .i64 (k:Int)]) _
      have hml:(sms (((D9 q++E9 q).take k).map (A0i q))).length≤k:=by rw [M1,List.length_map,List.length_take];omega
      by_cases hlt3:k < (D9 q++E9 q).length
      ·have hga:=A0t (k:=.i64) hlt3
       have hin:=hLin _ (Tr.D4 0 hlt3)
       have hsn:=A2b (0:Int) hlt3
       generalize (D9 q++E9 q).getD k 0=u at *
       have hgs:(sms q.syms).getD u.toNat []=smA (0,A0i q u):=Tr.B9 (f:=fun x=>smA (0,x)) P4 (by omega)
       have he:sms (((D9 q++E9 q).take (k+1)).map (A0i q))=sms (((D9 q++E9 q).take k).map (A0i q))++[smA (0,A0i q u)]:=by
        rw [hsn,List.map_append]
        simp [sms]
       generalize A0i q u=m at *
       obtain ⟨m1,m2⟩:=m
       simp only [smA] at hgs he
       conv=>whnf
       repeat' ((first|exact pru|(refine brS (fun h=>?_) (fun h=>?_)<;>(try rw [h])<;>(try simp only [bS,↓reduceIte] at h))|refine A5 ?_|(rw [show (G9 .i64 (D9 q++E9 q)).getD ((k:Int)).toNat []=_ from hga])|refine ⟨D3 (hgs) rfl,Go.Ab.C5 (hgs) ?_⟩|refine gS ?_|refine aA ?_|refine nA ?_|fail)<;>(conv=>whnf))
       refine ⟨ho3.may,fun c hc=>by obtain ⟨z,_,rfl⟩:=List.mem_map.1 hc;rfl,all_cons ⟨rfl,rfl⟩ C3,?_,?_⟩
       ·show ((sms (((D9 q++E9 q).take k).map (A0i q))).length+1) * (_+1)≤_
        exact Nat.le_trans (Nat.mul_le_mul_right _ (show (sms (((D9 q++E9 q).take k).map (A0i q))).length+1≤100001 by omega)) (Nat.le_of_ble_eq_true (by kernel_rfl))
       intro t' l1 l2
       have k3:=Own.grow ho3 l1 l2
       refine wp ?_
       refine ⟨(k+1,t'),?_,B8,⟨by omega,_,k3⟩,by omega⟩
       simp only [he]
       exact eqa
      ·have eL:(D9 q++E9 q).take k=D9 q++E9 q:=List.take_of_length_le (by omega)
       rw [eL]
       clear hml
       have hS10:Sub s0 s10:=h1.sub.trans (hS9.trans ho3.sub)
       have hTr:TrB s0 s10 bc q.trans a cap:=h2.mono fun c z _ _ hz=>(hS9.trans ho3.sub).bx _ _ hz
       clear ho3 hS9 ho2 ho h1 h2 h3 g3' g3'' b9 k9 l1 l2
       refine wp ?_
       generalize hsc:s10.set bc 81 _=s11
       have b11:=(congrArg (fun s=>s.bx bc) hsc.symm).trans A3
       have hS11:Sub s0 s11:=by rw [← hsc];exact hS10.set hC.nc _ _
       have hT11:TrB s0 s11 bc q.trans a cap:=by rw [← hsc];exact hTr.mono fun c z hc _ hz=>(A4 hc).trans hz
       have hix:=fun x=>B3e (Γ:=Γ) t' (D9 q++E9 q) x (by omega)
       refine AWp.loopA [83] [84,85,11,86,87,88,89,90,91,92,93,94,95,96,97,98,99,100,101,102,103,104,105] (fun i:Nat=>[.int .i64 (i:Int)]) (fun i s'=>i≤q.trans.length∧Sub s0 s'∧s'.bx bc=s11.bx bc∧TrB s0 s' bc (A1d q i) a cap) (fun i=>q.trans.length - i) (0) (by kernel_rfl) (eqa) ?_ ?_
       ·exact ⟨Nat.zero_le _,hS11,rfl,by rw [B8v];exact hT11⟩
       ·rintro y4 i4 s12 ⟨hi4,hS12,hb12,hT12⟩
        rw [b11] at hb12
        by_cases hlt4:i4 < q.trans.length
        ·obtain ⟨bt,rest,rfl,g2,g3,g4,g5,g6⟩:=hT12.some (by intro hn;have:=A0s q i4;rw [hn] at this;simp at this;omega)
         have g2':=g2.symm
         have hdl:=A0s q i4
         have hda:=C38 q hlt4
         have hds:=B8u q hlt4
         have hdr:∀ o,o=i4 * 5+1→((txs (A1d q i4)).flatten++rest).drop o=.int .i64 (q.trans.getD i4 noTx).2.1::(txA (0,q.trans.getD i4 noTx)).drop 2++((txs ((A1d q i4).drop (i4+1))).flatten++rest):=by
          rintro _ rfl
          rw [← List.drop_drop,B9v (by omega) rest _ rfl,hda]
          rfl
         have hput:=fun n=>C8o (l:=A1d q i4) (i:=i4) (by omega) rest n
         rw [hda] at hput
         have hmem:(q.trans.getD i4 noTx).2.1 ∈ D9 q++E9 q:=List.mem_append.2 (.inr (A7k.2 (List.mem_map.2 ⟨_,Tr.D4 noTx hlt4,rfl⟩)))
         have hpos:=D0g hmem
         have hnew:C40 q (q.trans.getD i4 noTx)=((q.trans.getD i4 noTx).1,((idx (q.trans.getD i4 noTx).2.1 (D9 q++E9 q)).getD 0:Int),(q.trans.getD i4 noTx).2.2):=rfl
         rw [hnew] at hds
         generalize q.trans.getD i4 noTx=u at *
         obtain ⟨u1,u2,u3,u4,u5⟩:=u
         simp only [txA,List.drop_succ_cons,List.drop_zero,List.cons_append,List.nil_append] at hdr
         simp only at hput hpos hds
         refine wp ?_;(rw [hdr];rotate_left;(show 0+((i4:Nat):Int).toNat * 5+1=i4 * 5+1;rw [Int.toNat_natCast,Nat.zero_add]));refine wp ?_;(first|(refine A2.pure' ?_ (hix u2);rintro _ rfl)|refine A7.pure ?_ (hix u2));refine wp ?_
         refine ⟨?_,?_⟩
         ·show 0+((i4:Nat):Int).toNat * 5+1+1≤_
          rw [Int.toNat_natCast,List.length_append,Y5,hdl]
          omega
         rw [C8]
         refine wp ?_
         rw [← hpos] at hds
         refine ⟨i4+1,eqa,B8,⟨by omega,hS12.set g3 _ _,(A4 g2').trans (hb12.trans b11.symm),?_⟩,by omega⟩
         refine ⟨fun hn=>?_,fun _=>⟨bt,rest,rfl,g2,g3,A3.trans (congrArg (fun c=>some (106,c)) ?_),?_,?_⟩⟩
         ·have:=A0s q (i4+1)
          rw [hn] at this
          simp at this
          omega
         ·rw [← hds]
          exact hput _ (0+((i4:Nat):Int).toNat * 5+1) (by rw [Int.toNat_natCast,Nat.zero_add])
         ·rw [List.length_append,Y5,A0s] at g5 ⊢
          exact g5
         ·rw [A0s] at g6 ⊢
          exact g6
        ·have e4:i4=q.trans.length:=by omega
         subst e4
         rw [B27] at hT12
         refine wp ?_
         refine ⟨_,Sub.refl _,rfl,hS12,J2 tk 4 t3,a,cap,hT12,hb12.trans ?_⟩
         have hol:(P5 q).trans.length=q.trans.length:=by rw [← B27,A0s]
         simp only [chA,hol]
         rfl
end
end Go.Proofs.YtaammejliikieaaGreatDoor.Ck
