import Derived.Test.YtaammejliikieaaGreatDoorG11
import Derived.Test.YtaammejliikieaaGreatDoorCkAG
import Derived.Test.YtaammejliikieaaGreatDoorG1
set_option maxRecDepth 10000
set_option maxHeartbeats 60000000
set_option linter.all false
namespace Go.Proofs.YtaammejliikieaaGreatDoor.Pa
end Go.Proofs.YtaammejliikieaaGreatDoor.Pa
namespace Go.Proofs.YtaammejliikieaaGreatDoor.Ck
open Go Go.Ab Go.RowKit Go.Proofs.YtaammejliikieaaGreatDoor.Pa
variable {Γ:Nat→AV}
attribute [local irreducible] A8 Sto.set Sto.grow
theorem C2x {x:Tr.Tr0} (hx:A53 x) (hb:∀ t ∈ x.2.2.2.2.2.2.2.map Prod.snd,B78 t):A8 Tryz.prog Γ 8 [.agg (Tr.trA z0 x)] fun v=>v=C73 (F2 x):=by
 have hhead:=fun s'=>C5p (Γ:=Γ) hx.z hx.small s'
 have hqs:∀ q0,A83 x=.ok q0→H7 q0∧q0.quants.length=x.2.2.1.length:=fun q0 h=>by
  rw [← B4w] at h
  exact ⟨(B1w hx.fit 5 0 _ _ ⟨H7.none _,fun _=>rfl⟩ h).1,C9v h⟩
 have hes:∀ e,A83 x=.error e→e.1≠0:=fun e h=>by rw [← B4w] at h;exact C9u h
 have hTA:∀ t ∈ x.2.2.2.2.2.2.2.map Prod.snd,∀ a ∈ t.2.2.1.2.1,a.1=1∨a.1=2∨a.1=3:=fun t ht=>by obtain ⟨y,hy,rfl⟩:=List.mem_map.1 ht;exact (hx.fit y hy).args
 have hSA:∀ d ∈ x.2.2.2.2.2.2.1.map Prod.snd,∀ a ∈ d.2.1,a.1=1∨a.1=2∨a.1=3:=fun d hd=>by obtain ⟨y,hy,rfl⟩:=List.mem_map.1 hd;exact hx.args y hy
 have hTF:∀ t ∈ x.2.2.2.2.2.2.2.map Prod.snd,A52 t:=fun t ht=>by obtain ⟨y,hy,rfl⟩:=List.mem_map.1 ht;exact hx.fit y hy
 have hal:(x.2.2.2.2.2.2.1.map Prod.snd).length≤100000:=by rw [List.length_map];exact hx.small.1.2.2.2.2.1
 have htn:(x.2.2.2.2.2.2.2.map Prod.snd).length≤100000:=by rw [List.length_map];exact hx.small.1.2.2.2.2.2
 have hqn:=hx.small.1.2.1
 have eT:Tr.trA z0 x=[.str x.1.1,.int .i64 x.1.2.1,.int .i64 x.1.2.2,.slice 0 (x.2.1.map Tr.deA),.slice 0 (x.2.2.1.map Tr.quA),.slice 0 (x.2.2.2.1.map Tr.frA),.slice 0 (x.2.2.2.2.1.map Tr.stA),.str x.2.2.2.2.2.1.1,.int .i64 x.2.2.2.2.2.1.2.1,.int .i64 x.2.2.2.2.2.1.2.2,.slice 0 ((x.2.2.2.2.2.2.1.map Prod.snd).map fun d=>Tr.syA (0,d)),.slice 0 ((x.2.2.2.2.2.2.2.map Prod.snd).map fun t=>Tr.tnA ((0,0,0),t))]:=by
  simp only [Tr.trA,z0,hx.z.syA,hx.z.tnA]
 rw [eT] at hhead ⊢
 generalize hR:F2 x=r
 rw [C4w,B4w] at hR
 unfold C6h at hR
 generalize x.2.2.2.2.2.2.1.map Prod.snd=als at *
 generalize x.2.2.2.2.2.2.2.map Prod.snd=tns at *
 have l_quA:(x.2.2.1.map Tr.quA).length=x.2.2.1.length:=List.length_map ..
 have l_syA:(als.map fun d=>Tr.syA (0,d)).length=als.length:=List.length_map ..
 have l_tnA:(tns.map fun t=>Tr.tnA ((0,0,0),t)).length=tns.length:=List.length_map ..
 refine A8.fgt fun s=>?_
 refine acs Tryz.func8 ?_
 conv=>whnf
 intro b1 hb1
 have k_b1:=hb1
 repeat replace k_b1:=A0 k_b1
 conv=>whnf
 intro b2 hb2
 have k_b2:=hb2
 repeat replace k_b2:=A0 k_b2
 have n_b1_b2:b1≠b2:=by (have k:=hb2;repeat (first|exact A6 k|replace k:=A0 k))
 have n_b2_b1:=n_b1_b2.symm
 conv=>whnf
 intro b3 hb3
 have k_b3:=hb3
 repeat replace k_b3:=A0 k_b3
 have n_b1_b3:b1≠b3:=by (have k:=hb3;repeat (first|exact A6 k|replace k:=A0 k))
 have n_b3_b1:=n_b1_b3.symm
 have n_b2_b3:b2≠b3:=by (have k:=hb3;repeat (first|exact A6 k|replace k:=A0 k))
 have n_b3_b2:=n_b2_b3.symm
 conv=>whnf
 repeat' ((first|(refine brS (fun h=>?_) (fun h=>?_)<;>(try rw [h])<;>(try simp only [bS,↓reduceIte] at h)<;>(try exact prc))|refine A5 ?_|(refine A2.by (hhead _) ?_;rintro v s' ⟨hv,rfl⟩)|refine gS ?_|refine aA ?_|refine nA ?_|fail)<;>(conv=>whnf))
 rcases hhd:A83 x with ⟨e1,e2,e3⟩|q0
 ·rw [hhd] at hv hR
  obtain ⟨q',rfl⟩:=hv
  have he:e1≠0:=hes _ hhd
  simp only [qeA,z0,J7]
  conv=>whnf
  intro b4 hb4
  have k_b4:=A0 (A0 (A0 hb4))
  have n_b1_b4:b1≠b4:=A1 bxa hb4
  have n_b4_b1:=n_b1_b4.symm
  have n_b2_b4:b2≠b4:=A1 bxa hb4
  have n_b4_b2:=n_b2_b4.symm
  have n_b3_b4:b3≠b4:=A1 bxa hb4
  have n_b4_b3:=n_b3_b4.symm
  conv=>whnf
  intro b5 hb5
  have k_b5:=A0 (A0 (A0 (A0 hb5)))
  have n_b1_b5:b1≠b5:=A1 bxa hb5
  have n_b5_b1:=n_b1_b5.symm
  have n_b2_b5:b2≠b5:=A1 bxa hb5
  have n_b5_b2:=n_b2_b5.symm
  have n_b3_b5:b3≠b5:=A1 bxa hb5
  have n_b5_b3:=n_b3_b5.symm
  have n_b4_b5:b4≠b5:=A1 bxa hb5
  have n_b5_b4:=n_b4_b5.symm
  conv=>whnf
  repeat' ((first|(refine brS (fun h=>?_) (fun h=>?_)<;>(try rw [h])<;>(try simp only [bS,↓reduceIte] at h)<;>(try exact prc))|refine A5 ?_|(refine AWp.anyP (id:=3) [(5,true),(2,false)] (fun k=>cond k b5 b2) [0,1,2,3] n_b5_b2 (by kernel_rfl) (by kernel_rfl) (by kernel_rfl) (by kernel_rfl) ?_)|(refine oA ?_)|refine gS ?_|refine aA ?_|refine nA ?_|fail)<;>(conv=>whnf))
  rw [← hR]
  exact ⟨_,Sub.refl _,rfl,N2⟩
 ·rw [hhd] at hv hR
  replace hv:v=.tuple [.agg (qeA z0 q0),noB]:=hv
  subst hv
  obtain ⟨hq0,hl0⟩:=hqs q0 hhd
  dsimp only at hR
  simp only [qeA,z0,noB,J7]
  conv=>whnf
  intro b4 hb4
  have k_b4:=A0 (A0 (A0 hb4))
  have n_b1_b4:b1≠b4:=A1 bxa hb4
  have n_b4_b1:=n_b1_b4.symm
  have n_b2_b4:b2≠b4:=A1 bxa hb4
  have n_b4_b2:=n_b2_b4.symm
  have n_b3_b4:b3≠b4:=A1 bxa hb4
  have n_b4_b3:=n_b3_b4.symm
  conv=>whnf
  intro b5 hb5
  have k_b5:=A0 (A0 (A0 (A0 hb5)))
  have n_b1_b5:b1≠b5:=A1 bxa hb5
  have n_b5_b1:=n_b1_b5.symm
  have n_b2_b5:b2≠b5:=A1 bxa hb5
  have n_b5_b2:=n_b2_b5.symm
  have n_b3_b5:b3≠b5:=A1 bxa hb5
  have n_b5_b3:=n_b3_b5.symm
  have n_b4_b5:b4≠b5:=A1 bxa hb5
  have n_b5_b4:=n_b4_b5.symm
  conv=>whnf
  repeat' ((first|(refine brS (fun h=>?_) (fun h=>?_)<;>(try rw [h])<;>(try simp only [bS,↓reduceIte] at h)<;>(try exact prc))|refine A5 ?_|refine gS ?_|refine aA ?_|refine nA ?_|fail)<;>(conv=>whnf))
  refine AWp.loopW [6] [25,26,27,28,29,33,34,35,36,37,38,39,32,40,41,7,8,42,43,44,45,46,47,48,49,50,51,52,53,54,55,56,57,58,59,60,61,62,63,64,65,66,67,68,69,70,71,72,73,74,75,76,77,78,79,80,81,30,31] (fun z:Nat × Qe=>[.int .i64 (z.1:Int)]) (fun z s'=>z.1≤als.length∧s'.bx b1=some (34,[.str x.1.1,.int .i64 x.1.2.1,.int .i64 x.1.2.2,.slice 0 (x.2.1.map Tr.deA),.slice 0 (x.2.2.1.map Tr.quA),.slice 0 (x.2.2.2.1.map Tr.frA),.slice 0 (x.2.2.2.2.1.map Tr.stA),.str x.2.2.2.2.2.1.1,.int .i64 x.2.2.2.2.2.1.2.1,.int .i64 x.2.2.2.2.2.1.2.2,.slice 0 (als.map fun d=>Tr.syA (0,d)),.slice 0 (tns.map fun t=>Tr.tnA ((0,0,0),t))])∧s'.bx b2=some (63,[.str [],.slice 1 [],.slice 1 [],.slice 1 [],.slice 1 [],.int .i64 0,.slice 1 [],.slice 1 [],.slice 1 []])∧s'.bx b3=some (70,[.int .i64 0,.int .i64 0,.int .i64 0])∧s'.bx b4=some (63,[.str z.2.name,.slice 0 (dcs z.2.decls),.slice 0 (z.2.quants.map qtA),.slice 0 (z.2.frees.map feA),.slice 0 (z.2.states.map saA),.int .i64 z.2.start,.slice 0 (sms z.2.syms),.slice 0 (z.2.nodes.map ndA),.slice 0 (txs z.2.trans)])∧Sub s s'∧H7 z.2∧z.2.quants.length=x.2.2.1.length∧B3 H3 q0 als=B3 H3 z.2 (als.drop z.1)) (fun z=>als.length - z.1) ((0,q0)) _ (by kernel_rfl) (by decide) (by (repeat' (first|exact LeS.nil|refine LeS.cons ?_ ?_|exact Le.refl _|(refine Le.of_eq ?_;first|exact rfl|(refine G2 ?_ ?_ ?_<;>omega)|fail)|fail))) (R7.refl _) ?_ ?_
  ·exact ⟨Nat.zero_le _,bxa,bxa,bxa,bxa,N2,hq0,hl0,rfl⟩
  ·rintro y0 ⟨i,q⟩ s1 ⟨hi,h1,h2,h3,h4,hS,hq,hN,hr⟩
   simp only at hi h4 hq hN hr
   conv=>whnf
   by_cases hlt:i < als.length
   ·have hga:(als.map fun d=>Tr.syA (0,d)).getD ((i:Int)).toNat []=Tr.syA (0,als.getD i A29):=by rw [Int.toNat_natCast];exact Tr.B9 (f:=fun d=>Tr.syA (0,d)) A29 hlt
    have hst:B3 H3 q (als.drop i)=match H3 q (als.getD i A29) with
      | .error e=>.error e
      | .ok q'=>B3 H3 q' (als.drop (i+1)):=by
     rw [List.drop_eq_getElem_cons hlt,B3]
     simp only [List.getD,List.getElem?_eq_getElem hlt,Option.getD_some]
     cases H3 q als[i]<;>rfl
    have hsy:=Q8 (Γ:=Γ) q hq (als.getD i A29) (hSA _ (Tr.D4 A29 hlt))
    generalize als.getD i A29=u at *
    obtain ⟨y1,y2,y3,y4⟩:=u
    simp only [Tr.syA] at hga
    simp only [qeA,z0,Tr.syA] at hsy
    have hsl:=M1 q.syms
    have q3:=hq.syms
    rcases hs:Z3 q (y1,y2,y3,y4) with ⟨e1,e2,e3⟩|⟨sm1,sm2⟩
    ·have he:=B1y hs
     simp only at he
     rw [hs] at hsy
     simp only [A49,J7,smA,P4] at hsy
     have er:r=.error (e1,e2,e3):=by
      rw [← hR,hr,hst]
      unfold H3 S2
      rw [hs]
     repeat' ((first|(refine brS (fun h=>?_) (fun h=>?_)<;>(try rw [h])<;>(try simp only [bS,↓reduceIte] at h)<;>(try exact prc))|refine A5 ?_|refine ⟨D3 (hga) rfl,Go.Ab.C5 (hga) ?_⟩|(refine A2.pure' ?_ (hsy);rintro _ rfl)|refine A7.pure ?_ (hsy)|refine gS ?_|refine aA ?_|refine nA ?_|fail)<;>(conv=>whnf))
     intro b7 hb7
     have m7:=hS.none hb7
     conv=>whnf
     intro b8 hb8
     have hb8':=A0 hb8
     have m8:=hS.none hb8'
     have n28:=A1 h2 hb8'
     have n38:=A1 h3 hb8'
     have n27:=A1 h2 hb7
     have n37:=A1 h3 hb7
     have n82:=n28.symm
     have n_b7_b8:b7≠b8:=A1 bxa hb8
     have n_b8_b7:=n_b7_b8.symm
     have n47:=A1 h4 hb7
     have n48:=A1 h4 hb8'
     conv=>whnf
     repeat' ((first|(refine brS (fun h=>?_) (fun h=>?_)<;>(try rw [h])<;>(try simp only [bS,↓reduceIte] at h)<;>(try exact prc))|refine A5 ?_|(refine AWp.anyP (id:=13) [(8,true),(2,false)] (fun k=>cond k b8 b2) [0,1,2,3] n82 (by kernel_rfl) (by kernel_rfl) (by kernel_rfl) (by kernel_rfl) ?_)|(refine oA ?_)|refine gS ?_|refine aA ?_|refine nA ?_|fail)<;>(conv=>whnf))
     rw [er]
     exact ⟨_,Sub.refl _,rfl,N2⟩
    ·have hm2:sm2.length≤100000:=by have:=(B5s hq hs).2.2.1;simp only at this;omega
     have hpl:=A0x (Γ:=Γ) q.syms (sm1,sm2) (by omega) hm2 (fun y hy=>by have:=(hq.symOk y hy).2.2.1;omega)
     rw [hs] at hsy
     simp only [A49,noB,J7,smA] at hsy hpl
     rcases hi2:idx (sm1,sm2) q.syms with _|j
     ·rw [hi2] at hpl
      simp only [F0] at hpl
      repeat' ((first|(refine brS (fun h=>?_) (fun h=>?_)<;>(try rw [h])<;>(try simp only [bS,↓reduceIte] at h)<;>(try exact prc))|refine A5 ?_|refine ⟨D3 (hga) rfl,Go.Ab.C5 (hga) ?_⟩|(refine A2.pure' ?_ (hsy);rintro _ rfl)|refine A7.pure ?_ (hsy)|refine gS ?_|refine aA ?_|refine nA ?_|fail)<;>(conv=>whnf))
      intro b7 hb7
      have m7:=hS.none hb7
      conv=>whnf
      intro b8 hb8
      have hb8':=A0 hb8
      have m8:=hS.none hb8'
      have n18:=A1 h1 hb8'
      have n17:=A1 h1 hb7
      have n28:=A1 h2 hb8'
      have n38:=A1 h3 hb8'
      have n27:=A1 h2 hb7
      have n37:=A1 h3 hb7
      have n82:=n28.symm
      have n_b7_b8:b7≠b8:=A1 bxa hb8
      have n_b8_b7:=n_b7_b8.symm
      have n47:=A1 h4 hb7
      have n48:=A1 h4 hb8'
      have n74:=n47.symm
      have n84:=n48.symm
      conv=>whnf
      by_cases h64:64≤q.syms.length
      ·have er:r=.error (14,y3,y4):=by
        rw [← hR,hr,hst]
        unfold H3 S2
        rw [hs]
        dsimp only
        rw [hi2]
        simp only [if_pos h64]
       repeat' ((first|(refine brS (fun h=>?_) (fun h=>?_)<;>(try rw [h])<;>(try simp only [bS,↓reduceIte] at h)<;>(try exact prc))|refine A5 ?_|refine ⟨D3 (hga) rfl,Go.Ab.C5 (hga) ?_⟩|(refine A2.pure' ?_ (hpl);rintro _ rfl)|refine A7.pure ?_ (hpl)|(refine AWp.anyP (id:=11) [] (fun k=>cond k 0 1) [0,1,2,4,5,3,6,7,8] (by decide) (by kernel_rfl) (by kernel_rfl) (by kernel_rfl) (by kernel_rfl) ?_)|(refine oA ?_)|refine gS ?_|refine aA ?_|refine nA ?_|fail)<;>(conv=>whnf))
       refine ⟨fun c hc=>by obtain ⟨z,_,rfl⟩:=List.mem_map.1 hc;exact ⟨rfl,rfl⟩,?_,?_⟩
       ·show (0+(sms q.syms).length) * (_+1)≤_
        exact Nat.le_trans (Nat.mul_le_mul_right _ (show 0+(sms q.syms).length≤100001 by omega)) (Nat.le_of_ble_eq_true (by kernel_rfl))
       intro t' l1 l2
       conv=>whnf
       repeat' ((first|(refine brS (fun h=>?_) (fun h=>?_)<;>(try rw [h])<;>(try simp only [bS,↓reduceIte] at h)<;>(try exact prc))|refine A5 ?_|(refine oA ?_)|refine gS ?_|refine aA ?_|refine nA ?_|fail)<;>(conv=>whnf))
       have ht':t'=1∨∀ e k,¬ s.lv t' e k:=by
        by_cases h1:t'=1
        ·exact .inl h1
        ·exact .inr fun e k hx=>l2 h1 e k (Sub.lv N2 _ _ _ hx)
       refine ⟨l1.imp (fun h=>h.1) (fun h=>h.2),fun c hc=>by obtain ⟨z,_,rfl⟩:=List.mem_map.1 hc;rfl,all_cons ⟨rfl,rfl⟩ C3,?_,?_⟩
       ·show ((sms q.syms).length+1) * (_+1)≤_
        exact Nat.le_trans (Nat.mul_le_mul_right _ (show (sms q.syms).length+1≤100001 by omega)) (Nat.le_of_ble_eq_true (by kernel_rfl))
       intro t2 p1 p2
       rw [show (([]:List (List AV))++sms q.syms)++[[.int .i64 sm1,.slice 0 (sm2.map agA)]]=sms (q.syms++[(sm1,sm2)]) by unfold sms;rw [List.map_append,List.nil_append];rfl]
       conv=>whnf
       repeat' ((first|(refine brS (fun h=>?_) (fun h=>?_)<;>(try rw [h])<;>(try simp only [bS,↓reduceIte] at h)<;>(try exact prc))|refine A5 ?_|(refine oA ?_)|(refine AWp.anyP (id:=13) [(8,true),(2,false)] (fun k=>cond k b8 b2) [0,1,2,3] n82 (by kernel_rfl) (by kernel_rfl) (by kernel_rfl) (by kernel_rfl) ?_)|(refine oA ?_)|refine gS ?_|refine aA ?_|refine nA ?_|fail)<;>(conv=>whnf))
       rw [er]
       exact ⟨_,Sub.refl _,rfl,(by (repeat (first|exact Sub.refl _|assumption|refine Sub.set ?_ (by assumption) _ _|refine Sub.grow ?_ (by first|exact .inl rfl|assumption) _ _ _)))⟩
      ·have eO:H3 q (y1,y2,y3,y4)=.ok { q with syms:=q.syms++[(sm1,sm2)] }:=by
        unfold H3 S2
        rw [hs]
        dsimp only
        rw [hi2]
        simp only [if_neg h64]
       repeat' ((first|(refine brS (fun h=>?_) (fun h=>?_)<;>(try rw [h])<;>(try simp only [bS,↓reduceIte] at h)<;>(try exact prc))|refine A5 ?_|refine ⟨D3 (hga) rfl,Go.Ab.C5 (hga) ?_⟩|(refine A2.pure' ?_ (hpl);rintro _ rfl)|refine A7.pure ?_ (hpl)|(refine AWp.anyP (id:=11) [] (fun k=>cond k 0 1) [0,1,2,4,5,3,6,7,8] (by decide) (by kernel_rfl) (by kernel_rfl) (by kernel_rfl) (by kernel_rfl) ?_)|(refine oA ?_)|refine gS ?_|refine aA ?_|refine nA ?_|fail)<;>(conv=>whnf))
       refine ⟨fun c hc=>by obtain ⟨z,_,rfl⟩:=List.mem_map.1 hc;exact ⟨rfl,rfl⟩,?_,?_⟩
       ·show (0+(sms q.syms).length) * (_+1)≤_
        exact Nat.le_trans (Nat.mul_le_mul_right _ (show 0+(sms q.syms).length≤100001 by omega)) (Nat.le_of_ble_eq_true (by kernel_rfl))
       intro t' l1 l2
       conv=>whnf
       repeat' ((first|(refine brS (fun h=>?_) (fun h=>?_)<;>(try rw [h])<;>(try simp only [bS,↓reduceIte] at h)<;>(try exact prc))|refine A5 ?_|(refine oA ?_)|refine gS ?_|refine aA ?_|refine nA ?_|fail)<;>(conv=>whnf))
       have ht':t'=1∨∀ e k,¬ s.lv t' e k:=by
        by_cases h1:t'=1
        ·exact .inl h1
        ·exact .inr fun e k hx=>l2 h1 e k (Sub.lv N2 _ _ _ hx)
       refine ⟨l1.imp (fun h=>h.1) (fun h=>h.2),fun c hc=>by obtain ⟨z,_,rfl⟩:=List.mem_map.1 hc;rfl,all_cons ⟨rfl,rfl⟩ C3,?_,?_⟩
       ·show ((sms q.syms).length+1) * (_+1)≤_
        exact Nat.le_trans (Nat.mul_le_mul_right _ (show (sms q.syms).length+1≤100001 by omega)) (Nat.le_of_ble_eq_true (by kernel_rfl))
       intro t2 p1 p2
       rw [show (([]:List (List AV))++sms q.syms)++[[.int .i64 sm1,.slice 0 (sm2.map agA)]]=sms (q.syms++[(sm1,sm2)]) by unfold sms;rw [List.map_append,List.nil_append];rfl]
       conv=>whnf
       repeat' ((first|(refine brS (fun h=>?_) (fun h=>?_)<;>(try rw [h])<;>(try simp only [bS,↓reduceIte] at h)<;>(try exact prc))|refine A5 ?_|(refine oA ?_)|refine gS ?_|refine aA ?_|refine nA ?_|fail)<;>(conv=>whnf))
       refine ⟨(i+1,{ q with syms:=q.syms++[(sm1,sm2)] }),Sto.set _ b4 63 [.str q.name,.slice 0 (dcs q.decls),.slice 0 (q.quants.map qtA),.slice 0 (q.frees.map feA),.slice 0 (q.states.map saA),.int .i64 q.start,.slice 0 (sms (q.syms++[(sm1,sm2)])),.slice 0 (q.nodes.map ndA),.slice 0 (txs q.trans)],by (repeat' (first|exact LeS.nil|refine LeS.cons ?_ ?_|exact Le.refl _|(refine Le.of_eq ?_;first|exact rfl|(refine G2 ?_ ?_ ?_<;>omega)|fail)|fail)),B8,R7.box A3 (LeL.cons (Le.refl _) (LeL.cons (Le.refl _) (LeL.cons (Le.refl _) (LeL.cons (Le.refl _) (LeL.cons (Le.refl _) (LeL.cons (Le.refl _) (LeL.cons (Le.slice0 _ _) (LeL.refl _)))))))),⟨by simp only;omega,bxa,bxa,bxa,A3,(by (repeat (first|exact Sub.refl _|assumption|refine Sub.set ?_ (by assumption) _ _|refine Sub.grow ?_ (by first|exact .inl rfl|assumption) _ _ _))),A10 hq eO,hN,by rw [hr,hst,eO]⟩,by simp only;omega⟩
     ·have eO:H3 q (y1,y2,y3,y4)=.ok q:=by
       unfold H3 S2
       rw [hs]
       dsimp only
       rw [hi2]
      rw [hi2] at hpl
      simp only [F0] at hpl
      repeat' ((first|(refine brS (fun h=>?_) (fun h=>?_)<;>(try rw [h])<;>(try simp only [bS,↓reduceIte] at h)<;>(try exact prc))|refine A5 ?_|refine ⟨D3 (hga) rfl,Go.Ab.C5 (hga) ?_⟩|(refine A2.pure' ?_ (hsy);rintro _ rfl)|refine A7.pure ?_ (hsy)|refine gS ?_|refine aA ?_|refine nA ?_|fail)<;>(conv=>whnf))
      intro b7 hb7
      have m7:=hS.none hb7
      conv=>whnf
      intro b8 hb8
      have hb8':=A0 hb8
      have m8:=hS.none hb8'
      have n18:=A1 h1 hb8'
      have n17:=A1 h1 hb7
      have n28:=A1 h2 hb8'
      have n38:=A1 h3 hb8'
      have n27:=A1 h2 hb7
      have n37:=A1 h3 hb7
      have n82:=n28.symm
      have n_b7_b8:b7≠b8:=A1 bxa hb8
      have n_b8_b7:=n_b7_b8.symm
      have n47:=A1 h4 hb7
      have n48:=A1 h4 hb8'
      have n74:=n47.symm
      have n84:=n48.symm
      conv=>whnf
      repeat' ((first|(refine brS (fun h=>?_) (fun h=>?_)<;>(try rw [h])<;>(try simp only [bS,↓reduceIte] at h)<;>(try exact prc))|refine A5 ?_|(refine A2.pure' ?_ (hpl);rintro _ rfl)|refine A7.pure ?_ (hpl)|refine gS ?_|refine aA ?_|refine nA ?_|fail)<;>(conv=>whnf))
      refine ⟨(i+1,q),_,by (repeat' (first|exact LeS.nil|refine LeS.cons ?_ ?_|exact Le.refl _|(refine Le.of_eq ?_;first|exact rfl|(refine G2 ?_ ?_ ?_<;>omega)|fail)|fail)),B8,R7.refl _,⟨by simp only;omega,bxa,bxa,bxa,bxa,(by (repeat (first|exact Sub.refl _|assumption|refine Sub.set ?_ (by assumption) _ _|refine Sub.grow ?_ (by first|exact .inl rfl|assumption) _ _ _))),hq,hN,by rw [hr,hst,eO]⟩,by simp only;omega⟩
   ·have E1:B3 H3 q0 als=.ok q:=by rw [hr,C0 (by omega)];rfl
    rw [E1] at hR
    dsimp only at hR
    clear hr
    conv=>whnf
    repeat' ((first|(refine brS (fun h=>?_) (fun h=>?_)<;>(try rw [h])<;>(try simp only [bS,↓reduceIte] at h)<;>(try exact prc))|refine A5 ?_|refine gS ?_|refine aA ?_|refine nA ?_|fail)<;>(conv=>whnf))
    refine AWp.loopW [9] [82,83,84,85,86,90,91,92,93,94,95,96,89,97,98,10,11,99,100,101,102,103,104,87,88] (fun z:Nat × Qe=>[.int .i64 (z.1:Int)]) (fun z s'=>z.1≤tns.length∧s'.bx b1=some (34,[.str x.1.1,.int .i64 x.1.2.1,.int .i64 x.1.2.2,.slice 0 (x.2.1.map Tr.deA),.slice 0 (x.2.2.1.map Tr.quA),.slice 0 (x.2.2.2.1.map Tr.frA),.slice 0 (x.2.2.2.2.1.map Tr.stA),.str x.2.2.2.2.2.1.1,.int .i64 x.2.2.2.2.2.1.2.1,.int .i64 x.2.2.2.2.2.1.2.2,.slice 0 (als.map fun d=>Tr.syA (0,d)),.slice 0 (tns.map fun t=>Tr.tnA ((0,0,0),t))])∧s'.bx b2=some (63,[.str [],.slice 1 [],.slice 1 [],.slice 1 [],.slice 1 [],.int .i64 0,.slice 1 [],.slice 1 [],.slice 1 []])∧s'.bx b3=some (70,[.int .i64 0,.int .i64 0,.int .i64 0])∧s'.bx b4=some (63,[.str z.2.name,.slice 0 (dcs z.2.decls),.slice 0 (z.2.quants.map qtA),.slice 0 (z.2.frees.map feA),.slice 0 (z.2.states.map saA),.int .i64 z.2.start,.slice 0 (sms z.2.syms),.slice 0 (z.2.nodes.map ndA),.slice 0 (txs z.2.trans)])∧Sub s s'∧H7 z.2∧z.2.quants.length=x.2.2.1.length∧B3 E6 q tns=B3 E6 z.2 (tns.drop z.1)) (fun z=>tns.length - z.1) ((0,q)) _ (by kernel_rfl) (by decide) (by (repeat' (first|exact LeS.nil|refine LeS.cons ?_ ?_|exact Le.refl _|(refine Le.of_eq ?_;first|exact rfl|(refine G2 ?_ ?_ ?_<;>omega)|fail)|fail))) (R7.refl _) ?_ ?_
    ·exact ⟨Nat.zero_le _,h1,h2,h3,h4,hS,hq,hN,rfl⟩
    ·rintro y1 ⟨i1,q2⟩ s2 ⟨hi1,g1,g2,g3,g4,gS,gq,gN,gr⟩
     simp only at hi1 g4 gq gN gr
     conv=>whnf
     by_cases hlt1:i1 < tns.length
     ·have hga:(tns.map fun t=>Tr.tnA ((0,0,0),t)).getD ((i1:Int)).toNat []=Tr.tnA ((0,0,0),tns.getD i1 A3a):=by rw [Int.toNat_natCast];exact Tr.B9 (f:=fun t=>Tr.tnA ((0,0,0),t)) A3a hlt1
      have hst:B3 E6 q2 (tns.drop i1)=match E6 q2 (tns.getD i1 A3a) with
        | .error e=>.error e
        | .ok q'=>B3 E6 q' (tns.drop (i1+1)):=by
       rw [List.drop_eq_getElem_cons hlt1,B3]
       simp only [List.getD,List.getElem?_eq_getElem hlt1,Option.getD_some]
       cases E6 q2 tns[i1]<;>rfl
      have hbare:=hb _ (Tr.D4 A3a hlt1)
      have hfit:=hTF _ (Tr.D4 A3a hlt1)
      have htr:=C20 (Γ:=Γ) q2 gq _ hbare (hTA _ (Tr.D4 A3a hlt1))
      generalize tns.getD i1 A3a=w at *
      simp only [Tr.tnA] at hga
      unfold C5j at htr
      rcases hts:E6 q2 w with ⟨e1,e2,e3⟩|q3
      ·have he:=C3b hbare gq hts
       simp only at he
       rw [hts] at htr
       simp only [qeA,z0,J7,Tr.tnA] at htr
       have er:r=.error (e1,e2,e3):=by rw [← hR,gr,hst,hts]
       repeat' ((first|(refine brS (fun h=>?_) (fun h=>?_)<;>(try rw [h])<;>(try simp only [bS,↓reduceIte] at h)<;>(try exact prc))|refine A5 ?_|refine ⟨D3 (hga) rfl,Go.Ab.C5 (hga) ?_⟩|(refine A2.pure' ?_ (htr);rintro _ rfl)|refine A7.pure ?_ (htr)|refine gS ?_|refine aA ?_|refine nA ?_|fail)<;>(conv=>whnf))
       intro b10 hb10
       have m10:=gS.none hb10
       conv=>whnf
       intro b11 hb11
       have hb11':=A0 hb11
       have m11:=gS.none hb11'
       have n112:=(A1 g2 hb11').symm
       have n113:=(A1 g3 hb11').symm
       have n211:=n112.symm
       have n311:=n113.symm
       have n210:=A1 g2 hb10
       have n310:=A1 g3 hb10
       have n_b10_b11:b10≠b11:=A1 bxa hb11
       have n_b11_b10:=n_b10_b11.symm
       conv=>whnf
       repeat' ((first|(refine brS (fun h=>?_) (fun h=>?_)<;>(try rw [h])<;>(try simp only [bS,↓reduceIte] at h)<;>(try exact prc))|refine A5 ?_|(refine AWp.anyP (id:=19) [(11,true),(2,false)] (fun k=>cond k b11 b2) [0,1,2,3] n112 (by kernel_rfl) (by kernel_rfl) (by kernel_rfl) (by kernel_rfl) ?_)|(refine oA ?_)|refine gS ?_|refine aA ?_|refine nA ?_|fail)<;>(conv=>whnf))
       rw [er]
       exact ⟨_,Sub.refl _,rfl,(by (repeat (first|exact Sub.refl _|assumption|refine Sub.set ?_ (by assumption) _ _|refine Sub.grow ?_ (by first|exact .inl rfl|assumption) _ _ _)))⟩
      ·rw [hts] at htr
       simp only [qeA,z0,noB,J7,Tr.tnA] at htr
       repeat' ((first|(refine brS (fun h=>?_) (fun h=>?_)<;>(try rw [h])<;>(try simp only [bS,↓reduceIte] at h)<;>(try exact prc))|refine A5 ?_|refine ⟨D3 (hga) rfl,Go.Ab.C5 (hga) ?_⟩|(refine A2.pure' ?_ (htr);rintro _ rfl)|refine A7.pure ?_ (htr)|refine gS ?_|refine aA ?_|refine nA ?_|fail)<;>(conv=>whnf))
       intro b10 hb10
       have m10:=gS.none hb10
       conv=>whnf
       intro b11 hb11
       have hb11':=A0 hb11
       have m11:=gS.none hb11'
       have n111:=A1 g1 hb11'
       have n211:=A1 g2 hb11'
       have n311:=A1 g3 hb11'
       have n411:=A1 g4 hb11'
       have n110:=A1 g1 hb10
       have n210:=A1 g2 hb10
       have n310:=A1 g3 hb10
       have n410:=A1 g4 hb10
       have n_b10_b11:b10≠b11:=A1 bxa hb11
       have n_b11_b10:=n_b10_b11.symm
       conv=>whnf
       repeat' ((first|(refine brS (fun h=>?_) (fun h=>?_)<;>(try rw [h])<;>(try simp only [bS,↓reduceIte] at h)<;>(try exact prc))|refine A5 ?_|refine gS ?_|refine aA ?_|refine nA ?_|fail)<;>(conv=>whnf))
       refine ⟨(i1+1,q3),_,by (repeat' (first|exact LeS.nil|refine LeS.cons ?_ ?_|exact Le.refl _|(refine Le.of_eq ?_;first|exact rfl|(refine G2 ?_ ?_ ?_<;>omega)|fail)|fail)),B8,R7.refl _,⟨by simp only;omega,bxa,bxa,bxa,A3,(by (repeat (first|exact Sub.refl _|assumption|refine Sub.set ?_ (by assumption) _ _|refine Sub.grow ?_ (by first|exact .inl rfl|assumption) _ _ _))),A2d gq hfit hts,by simp only;rw [C8m hts];exact gN,by rw [gr,hst,hts]⟩,by simp only;omega⟩
     ·have E2:B3 E6 q tns=.ok q2:=by rw [gr,C0 (by omega)];rfl
      rw [E2] at hR
      dsimp only at hR
      clear gr
      have hql:(q2.quants.map qtA).length=x.2.2.1.length:=by rw [List.length_map];exact gN
      have hsl2:=M1 q2.syms
      have q8:=gq.syms
      conv=>whnf
      repeat' ((first|(refine brS (fun h=>?_) (fun h=>?_)<;>(try rw [h])<;>(try simp only [bS,↓reduceIte] at h)<;>(try exact prc))|refine A5 ?_|refine gS ?_|refine aA ?_|refine nA ?_|fail)<;>(conv=>whnf))
      refine AWp.loopA [12] [105,106,107,108,109,13,14,112,113,114,115,116,119,120,121,122,123,124,125,126,127,128,117,118,129,130,131,132,133,134,135,136,137,138,110,111] (fun v:Nat=>[.int .i64 (v:Int)]) (fun v s'=>v≤x.2.2.1.length∧s'.bx b1=some (34,[.str x.1.1,.int .i64 x.1.2.1,.int .i64 x.1.2.2,.slice 0 (x.2.1.map Tr.deA),.slice 0 (x.2.2.1.map Tr.quA),.slice 0 (x.2.2.2.1.map Tr.frA),.slice 0 (x.2.2.2.2.1.map Tr.stA),.str x.2.2.2.2.2.1.1,.int .i64 x.2.2.2.2.2.1.2.1,.int .i64 x.2.2.2.2.2.1.2.2,.slice 0 (als.map fun d=>Tr.syA (0,d)),.slice 0 (tns.map fun t=>Tr.tnA ((0,0,0),t))])∧s'.bx b2=some (63,[.str [],.slice 1 [],.slice 1 [],.slice 1 [],.slice 1 [],.int .i64 0,.slice 1 [],.slice 1 [],.slice 1 []])∧s'.bx b3=some (70,[.int .i64 0,.int .i64 0,.int .i64 0])∧s'.bx b4=some (63,[.str q2.name,.slice 0 (dcs q2.decls),.slice 0 (q2.quants.map qtA),.slice 0 (q2.frees.map feA),.slice 0 (q2.states.map saA),.int .i64 q2.start,.slice 0 (sms q2.syms),.slice 0 (q2.nodes.map ndA),.slice 0 (txs q2.trans)])∧Sub s s'∧K8 q2 0 x.2.2.1=K8 q2 v (x.2.2.1.drop v)) (fun v=>x.2.2.1.length - v) (0) (by kernel_rfl) (eqa) ?_ ?_
      ·exact ⟨Nat.zero_le _,g1,g2,g3,g4,gS,rfl⟩
      ·rintro y2 v s3 ⟨hv,f1,f2,f3,f4,fS,fr⟩
       by_cases hlt2:v < x.2.2.1.length
       ·have hga2:(x.2.2.1.map Tr.quA).getD ((v:Int)).toNat []=Tr.quA (x.2.2.1.getD v Y8):=by rw [Int.toNat_natCast];exact Tr.B9 Y8 hlt2
        have hst2:K8 q2 v (x.2.2.1.drop v)=if q2.syms.any (fun s=>M2 s v)=true then K8 q2 (v+1) (x.2.2.1.drop (v+1)) else .error (9,(x.2.2.1.getD v Y8).2.1.2):=by
         rw [List.drop_eq_getElem_cons hlt2,K8]
         simp only [List.getD,List.getElem?_eq_getElem hlt2,Option.getD_some]
        have hat:=M6 (Γ:=Γ) 9 (x.2.2.1.getD v Y8).2.1
        simp only [Tr.S1] at hat
        simp only [Tr.quA] at hga2
        conv=>whnf
        repeat' ((first|(refine brS (fun h=>?_) (fun h=>?_)<;>(try rw [h])<;>(try simp only [bS,↓reduceIte] at h)<;>(try exact prc))|refine A5 ?_|refine gS ?_|refine aA ?_|refine nA ?_|fail)<;>(conv=>whnf))
        refine AWp.loopA [13,14] [112,113,114,115,116,119,120,121,122,123,124,125,126,127,128,117,118] (fun k:Nat=>[.bool ((q2.syms.take k).any fun m=>M2 m v),.int .i64 (k:Int)]) (fun k s'=>k≤q2.syms.length∧s'=s3) (fun k=>q2.syms.length - k) (0) (by kernel_rfl) (eqa) ?_ ?_
        ·exact ⟨Nat.zero_le _,rfl⟩
        ·rintro y3 k s4 ⟨hk,rfl⟩
         by_cases hlt3:k < q2.syms.length
         ·have hgs:(sms q2.syms).getD ((k:Int)).toNat []=smA (0,q2.syms.getD k P4):=by rw [Int.toNat_natCast];exact Tr.B9 (f:=fun x=>smA (0,x)) P4 hlt3
          have hso:=gq.symOk _ (Tr.D4 P4 hlt3)
          have hnm:=C2y (Γ:=Γ) (q2.syms.getD k P4) (v:Int) (by have:=hso.2.2.1;omega) hso.2.2.2
          have htk:((q2.syms.take (k+1)).any fun m=>M2 m v)=(((q2.syms.take k).any fun m=>M2 m v) || M2 (q2.syms.getD k P4) v):=by
           rw [A2b P4 hlt3,List.any_append]
           simp
          generalize q2.syms.getD k P4=m at *
          obtain ⟨m1,m2⟩:=m
          simp only [smA] at hgs hnm
          show awp _ _ _ _ _ (updL _ _ [.bool ((q2.syms.take k).any fun m=>M2 m v),.int .i64 (k:Int)]) _
          rcases hany:(q2.syms.take k).any fun m=>M2 m v
          ·rw [hany] at htk
           conv=>whnf
           repeat' ((first|(refine brS (fun h=>?_) (fun h=>?_)<;>(try rw [h])<;>(try simp only [bS,↓reduceIte] at h)<;>(try exact prc))|refine A5 ?_|refine ⟨D3 (hgs) rfl,Go.Ab.C5 (hgs) ?_⟩|(refine A2.pure' ?_ (hnm);rintro _ rfl)|refine A7.pure ?_ (hnm)|refine gS ?_|refine aA ?_|refine nA ?_|fail)<;>(conv=>whnf))
           refine ⟨k+1,?_,B8,⟨by omega,(by first|rfl|trivial)⟩,by omega⟩
           rw [htk,Bool.false_or]
           exact eqa
          ·rw [hany] at htk
           conv=>whnf
           repeat' ((first|(refine brS (fun h=>?_) (fun h=>?_)<;>(try rw [h])<;>(try simp only [bS,↓reduceIte] at h)<;>(try exact prc))|refine A5 ?_|refine ⟨D3 (hgs) rfl,Go.Ab.C5 (hgs) ?_⟩|(refine A2.pure' ?_ (hnm);rintro _ rfl)|refine A7.pure ?_ (hnm)|refine gS ?_|refine aA ?_|refine nA ?_|fail)<;>(conv=>whnf))
           refine ⟨k+1,?_,B8,⟨by omega,(by first|rfl|trivial)⟩,by omega⟩
           rw [htk,Bool.true_or]
           exact eqa
         ·have eL:q2.syms.take k=q2.syms:=List.take_of_length_le (by omega)
          show awp _ _ _ _ _ (updL _ _ [.bool ((q2.syms.take k).any fun m=>M2 m v),.int .i64 (k:Int)]) _
          rw [eL]
          rcases hany:q2.syms.any fun m=>M2 m v
          ·have er:r=.error (9,(x.2.2.1.getD v Y8).2.1.2):=by rw [← hR,fr,hst2,hany];rfl
           conv=>whnf
           repeat' ((first|(refine brS (fun h=>?_) (fun h=>?_)<;>(try rw [h])<;>(try simp only [bS,↓reduceIte] at h)<;>(try exact prc))|refine A5 ?_|refine ⟨D3 (hga2) rfl,Go.Ab.C5 (hga2) ?_⟩|(refine A2.pure' ?_ (hat);rintro _ rfl)|refine A7.pure ?_ (hat)|refine gS ?_|refine aA ?_|refine nA ?_|fail)<;>(conv=>whnf))
           rw [er]
           exact ⟨_,Sub.refl _,rfl,(by (repeat (first|exact Sub.refl _|assumption|refine Sub.set ?_ (by assumption) _ _|refine Sub.grow ?_ (by first|exact .inl rfl|assumption) _ _ _)))⟩
          ·conv=>whnf
           repeat' ((first|(refine brS (fun h=>?_) (fun h=>?_)<;>(try rw [h])<;>(try simp only [bS,↓reduceIte] at h)<;>(try exact prc))|refine A5 ?_|refine gS ?_|refine aA ?_|refine nA ?_|fail)<;>(conv=>whnf))
           exact ⟨v+1,eqa,B8,⟨by omega,f1,f2,f3,f4,fS,by rw [fr,hst2,hany];rfl⟩,by omega⟩
       ·have E3:K8 q2 0 x.2.2.1=.ok q2:=by rw [fr,C0 (by omega)];rfl
        rw [E3] at hR
        dsimp only at hR
        have hor:=C2z (Γ:=Γ) q2 gq
        simp only [qeA,z0] at hor
        conv=>whnf
        repeat' ((first|(refine brS (fun h=>?_) (fun h=>?_)<;>(try rw [h])<;>(try simp only [bS,↓reduceIte] at h)<;>(try exact prc))|refine A5 ?_|(refine A2.pure' ?_ (hor);rintro _ rfl)|refine A7.pure ?_ (hor)|refine gS ?_|refine aA ?_|refine nA ?_|fail)<;>(conv=>whnf))
        refine ⟨_,Sub.refl _,?_,(by (repeat (first|exact Sub.refl _|assumption|refine Sub.set ?_ (by assumption) _ _|refine Sub.grow ?_ (by first|exact .inl rfl|assumption) _ _ _)))⟩
        rw [← hR]
        show fg (.tuple [.agg (qeA z0 (P5 q2)),J7 (0,0,0)])=.tuple [.agg (qeA z0 (P5 q2)),J7 (0,0,0)]
        simp only [fg,fgL,B0k,J7]
end Go.Proofs.YtaammejliikieaaGreatDoor.Ck
