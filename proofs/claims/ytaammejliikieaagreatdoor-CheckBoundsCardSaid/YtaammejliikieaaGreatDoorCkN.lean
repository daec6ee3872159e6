import Derived.Test.YtaammejliikieaaGreatDoorG6
import Derived.Test.YtaammejliikieaaGreatDoorG1
set_option maxRecDepth 10000
set_option maxHeartbeats 60000000
set_option linter.all false
namespace Go.Proofs.YtaammejliikieaaGreatDoor.Pa
end Go.Proofs.YtaammejliikieaaGreatDoor.Pa
namespace Go.Proofs.YtaammejliikieaaGreatDoor.Ck
open Go Go.Ab Go.RowKit Go.Proofs.YtaammejliikieaaGreatDoor.Pa
variable {Γ:Nat→AV}
section
variable {s0 s:Sto} {bc bd bv bs:Nat} {q:Qe}
theorem Cst.fresh (h:Cst s0 s bc bd bv bs q) {s':Sto} (hf:A41 s s'):Cst s0 s' bc bd bv bs q:=by
 induction hf with
 | refl=>exact h
 | box _ hb ih=>exact ih.box hb _ _
theorem Cst.box2 (h:Cst s0 s bc bd bv bs q) {b:Nat} (hb:s.bx b=none) (T:TypeId) (cs cs':List AV):Cst s0 ((s.set b T cs).set b T cs') bc bd bv bs q:=by
 rw [C0y]
 exact h.box hb T cs'
theorem Cst.putRow {b:Nat} {T:TypeId} {cs:List AV} {t:Nat} {e:TypeId} {m:Nat} (h:Cst (A8g s0 b T cs t e m) s bc bd bv bs q) (cs':List AV):Cst (s0.set b T cs') (s.set b T cs') bc bd bv bs q:=by
 have hs:Sub (s0.set b T cs) (A8g s0 b T cs t e m):=⟨fun _ _ hx=>hx,fun _ _ _ hx=>A23.2 (.inr hx),fun _ _ hx=>hx⟩
 exact (h.of_sub hs).reput cs'
end
attribute [local irreducible] A8 Sto.set Sto.grow
section
variable {s0 s:Sto} {bc bd bv bs:Nat} {q:Qe}
theorem B3z (hC:Cst s0 s bc bd bv bs q) (hq:H7 q) (x:Tr.Sy) (hx:∀ a ∈ x.2.1,a.1=1∨a.1=2∨a.1=3) :
  A2 Tryz.prog Γ 62 [.ptr (some ⟨bc,0,none⟩),.agg (Tr.syA (0,x))] s (D16 s0 bc bd bv bs (S2 q x)):=by
 refine C6c ?_
 obtain ⟨nm,args,ln,cl⟩:=x
 simp only at hx
 simp only [Tr.syA]
 have hla:(args.map Tr.arA).length=args.length:=List.length_map ..
 have hdl:=A9l q.decls
 have hql:=hq.decls
 have hf:=A9n q nm
 rcases hi:idx nm (q.decls.map (·.1)) with _|d
 ·rw [hi] at hf
  have hF:S2 q (nm,args,ln,cl)=.error (11,ln,cl):=by
   unfold S2 Z3
   simp only [hi]
  rw [hF]
  obtain ⟨tk,a,cap,h1,h2,h3⟩:=hC.st
  simp only [chA] at h3
  refine acs Tryz.func62 ?_
  conv=>whnf
  intro b3 hb3
  have n_bc_b3:=hC.nb hb3
  have k_b3:s.bx b3=none:=hb3
  refine wp ?_;(refine T7 (C2.trans hC.md) ?_);refine wp ?_;(refine U1.miss hf ?_);refine wp ?_
  intro b6 hb6
  have n_b3_b6:b3≠b6:=A1 bxa hb6
  have n_b6_b3:=n_b3_b6.symm
  have n_bc_b6:bc≠b6:=A1 bxa hb6
  have n_b6_bc:=n_bc_b6.symm
  have k_b6:=A0 hb6
  refine wp ?_
  intro b hb
  have n_b3_b:b3≠b:=A1 bxa hb
  have n_b_b3:=n_b3_b.symm
  have n_b6_b:b6≠b:=A1 bxa hb
  have n_b_b6:=n_b6_b.symm
  have n_bc_b:bc≠b:=A1 bxa hb
  have n_b_bc:=n_bc_b.symm
  have k_b:=A0 (A0 (A0 hb))
  refine wp ?_
  refine ⟨_,Sub.refl _,.inr ⟨b,hC.sub.none k_b,bxa,rfl,?_⟩⟩
  exact (((hC.sub.set (hC.sub.none k_b3) _ _).set (hC.sub.none k_b6) _ _).set (hC.sub.none k_b6) _ _).set (hC.sub.none k_b) _ _
 ·rw [hi] at hf
  obtain ⟨hdlt,_⟩:=U6 hi
  rw [List.length_map] at hdlt
  have hga:(dcs q.decls).getD ((d:Int)).toNat []=dcA (0,q.decls.getD d Y7):=by rw [Int.toNat_natCast];exact Tr.B9 (f:=fun x=>dcA (0,x)) Y7 hdlt
  have hty:(q.decls.getD d Y7).2.length≤8:=hq.types _ (Tr.D4 Y7 hdlt)
  have hF:S2 q (nm,args,ln,cl)=if (q.decls.getD d Y7).2.length≠args.length then .error (12,ln,cl) else match R8 q args (q.decls.getD d Y7).2 [] with
   | .error e=>.error e
   | .ok l=>match idx ((d:Int),l) q.syms with
    | some i=>.ok (q,i)
    | none=>if 64≤q.syms.length then .error (14,ln,cl) else .ok ({ q with syms:=q.syms++[((d:Int),l)] },q.syms.length):=by
   unfold S2 Z3
   simp only [hi]
   by_cases hne:(q.decls.getD d Y7).2.length≠args.length
   ·rw [if_pos hne,if_pos hne]
   ·rw [if_neg hne,if_neg hne]
    cases R8 q args (q.decls.getD d Y7).2 []<;>rfl
  rw [hF]
  clear hF
  generalize hde:q.decls.getD d Y7=de at *
  obtain ⟨dn,dt⟩:=de
  simp only [dcA] at hga
  simp only at hty ⊢
  have hil:=H8 .i64 dt
  refine acs Tryz.func62 ?_
  conv=>whnf
  intro b3 hb3
  have n_bc_b3:=hC.nb hb3
  have c3:=hC.sub.none hb3
  have hC3:=hC.keep hb3 46 [.str nm,.slice 0 (args.map Tr.arA),.int .i64 ln,.int .i64 cl]
  have hm3:=hC3.md
  obtain ⟨tk,a,cap,h1,h2,h3⟩:=hC3.st
  have g3:=hC3.kept.1
  simp only [chA] at h3
  conv=>whnf
  generalize s.set b3 46 [.str nm,.slice 0 (args.map Tr.arA),.int .i64 ln,.int .i64 cl]=s3 at *
  refine wp ?_;(refine T7 hm3 ?_);refine wp ?_;(refine U1.hit hf ?_);refine wp ?_
  intro b6 hb6
  have n_b3_b6:b3≠b6:=A1 bxa hb6
  have n_b6_b3:=n_b3_b6.symm
  have n_bc_b6:bc≠b6:=A1 bxa hb6
  have n_b6_bc:=n_bc_b6.symm
  have c6:=hC3.sub.none hb6
  have hC6:=(hC3.keep hb6 3 [.int .i64 0]).reput [.int .i64 d]
  conv=>whnf
  repeat' ((first|exact pru|(refine brS (fun h=>?_) (fun h=>?_)<;>(try rw [h])<;>(try simp only [bS,↓reduceIte] at h))|refine A5 ?_|refine ⟨D3 (hga) rfl,Go.Ab.C5 (hga) ?_⟩|refine gS ?_|refine aA ?_|refine nA ?_|fail)<;>(conv=>whnf))
  ·intro b hb
   have n_b3_b:b3≠b:=A1 bxa hb
   have n_b_b3:=n_b3_b.symm
   have n_b6_b:b6≠b:=A1 bxa hb
   have n_b_b6:=n_b6_b.symm
   have n_bc_b:bc≠b:=A1 bxa hb
   have n_b_bc:=n_bc_b.symm
   have k_b:=hC6.sub.none hb
   refine wp ?_
   refine ⟨_,Sub.refl _,?_⟩
   rw [if_pos (by omega)]
   refine .inr ⟨b,((Sub.refl s0).set c3 _ _).none (((Sub.refl _).set c6 _ _).none k_b),bxa,rfl,?_⟩
   exact ((hC6.of_sub (((Sub.refl s0).set c3 _ _).trans ((Sub.refl _).set c6 _ _))).sub).set (((Sub.refl s0).set c3 _ _).none (((Sub.refl _).set c6 _ _).none k_b)) _ _
  ·rw [if_neg (by omega)]
   have hlen:dt.length=args.length:=by omega
   intro b8 hb8
   have n_b3_b8:b3≠b8:=A1 bxa hb8
   have n_b8_b3:=n_b3_b8.symm
   have n_b6_b8:b6≠b8:=A1 bxa hb8
   have n_b8_b6:=n_b6_b8.symm
   have n_bc_b8:bc≠b8:=A1 bxa hb8
   have n_b8_bc:=n_bc_b8.symm
   have c8:=hC6.sub.none hb8
   have hS3:((s0.set b3 46 [.str nm,.slice 0 (args.map Tr.arA),.int .i64 ln,.int .i64 cl]).set b6 3 [.int .i64 d]).bx b3=some (46,[.str nm,.slice 0 (args.map Tr.arA),.int .i64 ln,.int .i64 cl]):=bxa
   have hS6:((s0.set b3 46 [.str nm,.slice 0 (args.map Tr.arA),.int .i64 ln,.int .i64 cl]).set b6 3 [.int .i64 d]).bx b6=some (3,[.int .i64 d]):=bxa
   have hSs:Sub s0 ((s0.set b3 46 [.str nm,.slice 0 (args.map Tr.arA),.int .i64 ln,.int .i64 cl]).set b6 3 [.int .i64 d]):=((Sub.refl s0).set c3 _ _).trans ((Sub.refl _).set c6 _ _)
   have hC8:=(hC6.keep hb8 93 [.int .i64 0,.slice 1 []]).reput [.int .i64 d,.slice 1 []]
   rw [← C5q (e:=169) (m:=6)] at hC8
   generalize (s0.set b3 46 [.str nm,.slice 0 (args.map Tr.arA),.int .i64 ln,.int .i64 cl]).set b6 3 [.int .i64 d]=S at *
   refine wp ?_
   refine AWp.loopA [63] [64,65,66,67,10,9,69,70,71,72,73,74,75,76,77,78,79,80,81,82,83,68,84,85,11,12,86,87,88,4,5,89,90,91,92,93,94,95] (fun z:Nat × List Ag × Nat=>[.int .i64 (z.1:Int)]) (fun z s'=>z.1≤args.length∧Cst (A8g S b8 93 [.int .i64 d,.slice z.2.2 (z.2.1.map agA)] z.2.2 169 6) s' bc bd bv bs q∧(z.2.2=1∨∀ e k,¬ S.lv z.2.2 e k)∧R8 q args dt []=R8 q (args.drop z.1) (dt.drop z.1) z.2.1∧z.2.1.length=z.1) (fun z=>args.length - z.1) ((0,[],1)) (by kernel_rfl) (eqa) ?_ ?_
   ·exact ⟨Nat.zero_le _,hC8,.inl rfl,rfl,rfl⟩
   ·rintro y ⟨i,acc,t⟩ s7 ⟨hi7,hC7,ht7,hr7,hal⟩
    simp only at hi7 hC7 ht7 hr7 hal
    clear hC8 hb8 hC6 hb6 hC3 hm3 h1 h2 h3 g3 hb3 n_bc_b3 c3 c6
    obtain ⟨hS7,g8,n8c,hlv⟩:=hC7.dropRow c8
    have f3:=hS7.sub.bx _ _ hS3
    have f6:=hS7.sub.bx _ _ hS6
    have hCw:=hC7.putRow [.int .i64 d,.slice 0 (acc.map agA)]
    obtain ⟨tk7,a7,cap7,k1,k2,v3⟩:=hCw.st
    have k3:s7.bx bc=some (81,chA tk7 a7 cap7 q bd bv bs):=(A4 n8c.symm).symm.trans v3
    have k3':=k3
    simp only [chA] at k3
    show awp _ _ _ _ _ (updL _ _ [.int .i64 (i:Int)]) _
    by_cases hlt:i < args.length
    ·have hgu:(args.map Tr.arA).getD ((i:Int)).toNat []=Tr.arA (args.getD i Tr.A60):=by rw [Int.toNat_natCast];exact Tr.B9 Tr.A60 hlt
     have hgt:(G9 .i64 dt).getD ((i:Int)).toNat []=[.int .i64 (dt.getD i 0)]:=by rw [Int.toNat_natCast];exact A0t (by omega)
     have hstep:R8 q (args.drop i) (dt.drop i) acc=match U0 q (args.getD i Tr.A60) (dt.getD i 0) with
       | .error e=>.error e
       | .ok x=>R8 q (args.drop (i+1)) (dt.drop (i+1)) (acc++[x]):=by
      rw [List.drop_eq_getElem_cons hlt,List.drop_eq_getElem_cons (show i < dt.length by omega),R8]
      simp only [List.getD,List.getElem?_eq_getElem hlt,List.getElem?_eq_getElem (show i < dt.length by omega),Option.getD_some]
      cases U0 q args[i] dt[i]<;>rfl
     have hxu:=hx _ (Tr.D4 Tr.A60 hlt)
     generalize args.getD i Tr.A60=u at *
     generalize dt.getD i 0=kk at *
     obtain ⟨u1,u2,⟨u3,u4,u5,u6⟩,u7,u8⟩:=u
     simp only [Tr.arA] at hgu
     refine wp ?_
     intro b10 hb10
     have n_b3_b10:b3≠b10:=A1 bxa hb10
     have n_b10_b3:=n_b3_b10.symm
     have n_b6_b10:b6≠b10:=A1 bxa hb10
     have n_b10_b6:=n_b6_b10.symm
     have n_b8_b10:b8≠b10:=A1 bxa hb10
     have n_b10_b8:=n_b8_b10.symm
     have n_bc_b10:bc≠b10:=A1 bxa hb10
     have n_b10_bc:=n_bc_b10.symm
     have hC10:=hC7.box hb10 43 (Tr.arA (u1,u2,(u3,u4,u5,u6),u7,u8))
     rw [← C0y (T:=43) (cs:=Tr.arA Tr.A60)] at hC10
     have harg:=fun s' hf=>C9g (Γ:=Γ) (s:=s') (hC10.fresh hf) (u1,u2,(u3,u4,u5,u6),u7,u8) hxu kk
     simp only [Tr.arA] at harg
     rcases ha:U0 q (u1,u2,(u3,u4,u5,u6),u7,u8) kk with e|⟨w1,w2,w3,w4,w5,w6⟩
     ·rw [ha] at harg hstep
      have hbad:R8 q args dt []=.error e:=hr7.trans hstep
      rw [hbad]
      simp only [C1f,agA] at harg
      conv=>whnf
      repeat' ((first|exact pru|(refine brS (fun h=>?_) (fun h=>?_)<;>(try rw [h])<;>(try simp only [bS,↓reduceIte] at h))|refine A5 ?_|refine ⟨D3 (hga) rfl,Go.Ab.C5 (hga) ?_⟩|refine ⟨D3 (hgt) rfl,Go.Ab.C5 (hgt) ?_⟩|(refine AWp.anyC (id:=10) [83,100083] [] (by kernel_rfl) (by kernel_rfl) (by kernel_rfl) (by kernel_rfl) ?_)|(refine B2n.mk _ (harg _ .refl) ?_ (fun _ s' hf=>harg s' hf))|(refine oA ?_)|refine gS ?_|refine aA ?_|refine nA ?_|fail)<;>(conv=>whnf))
      intro b11 hb11
      have h11:=A0 (A0 hb11)
      have n_b3_b11:b3≠b11:=A1 bxa hb11
      have n_b11_b3:=n_b3_b11.symm
      have n_b6_b11:b6≠b11:=A1 bxa hb11
      have n_b11_b6:=n_b6_b11.symm
      have n_b8_b11:b8≠b11:=A1 bxa hb11
      have n_b11_b8:=n_b8_b11.symm
      have n_b10_b11:b10≠b11:=A1 bxa hb11
      have n_b11_b10:=n_b10_b11.symm
      have n_bc_b11:bc≠b11:=A1 bxa hb11
      have n_b11_bc:=n_bc_b11.symm
      conv=>whnf
      repeat' ((first|exact pru|(refine brS (fun h=>?_) (fun h=>?_)<;>(try rw [h])<;>(try simp only [bS,↓reduceIte] at h))|refine A5 ?_|(refine oA ?_)|refine gS ?_|refine aA ?_|refine nA ?_|fail)<;>(conv=>whnf))
      refine ⟨_,Sub.refl _,.inl ⟨rfl,?_⟩⟩
      exact hSs.trans ((((hS7.sub.set (hS7.sub.none hb10) _ _).set (hS7.sub.none hb10) _ _).set (hS7.sub.none h11) _ _).set (hS7.sub.none h11) _ _)
     ·rw [ha] at harg hstep
      simp only [C1f,agA] at harg
      conv=>whnf
      repeat' ((first|exact pru|(refine brS (fun h=>?_) (fun h=>?_)<;>(try rw [h])<;>(try simp only [bS,↓reduceIte] at h))|refine A5 ?_|refine ⟨D3 (hga) rfl,Go.Ab.C5 (hga) ?_⟩|refine ⟨D3 (hgt) rfl,Go.Ab.C5 (hgt) ?_⟩|(refine AWp.anyC (id:=10) [83,100083] [] (by kernel_rfl) (by kernel_rfl) (by kernel_rfl) (by kernel_rfl) ?_)|(refine B2n.mk _ (harg _ .refl) ?_ (fun _ s' hf=>harg s' hf))|(refine oA ?_)|refine gS ?_|refine aA ?_|refine nA ?_|fail)<;>(conv=>whnf))
      intro b11 hb11
      have h11:=A0 (A0 hb11)
      have c11:=hb11
      have n_b3_b11:b3≠b11:=A1 bxa hb11
      have n_b11_b3:=n_b3_b11.symm
      have n_b6_b11:b6≠b11:=A1 bxa hb11
      have n_b11_b6:=n_b6_b11.symm
      have n_b8_b11:b8≠b11:=A1 bxa hb11
      have n_b11_b8:=n_b8_b11.symm
      have n_b10_b11:b10≠b11:=A1 bxa hb11
      have n_b11_b10:=n_b10_b11.symm
      have n_bc_b11:bc≠b11:=A1 bxa hb11
      have n_b11_bc:=n_bc_b11.symm
      conv=>whnf
      repeat' ((first|exact pru|(refine brS (fun h=>?_) (fun h=>?_)<;>(try rw [h])<;>(try simp only [bS,↓reduceIte] at h))|refine A5 ?_|(refine oA ?_)|refine gS ?_|refine aA ?_|refine nA ?_|fail)<;>(conv=>whnf))
      refine ⟨hlv.imp id ((((((Sub.refl s7).set hb10 _ _).set hb10 _ _).set h11 _ _).set h11 _ _).lv _ _ _),fun c hc=>by obtain ⟨z,_,rfl⟩:=List.mem_map.1 hc;rfl,all_cons ⟨rfl,rfl⟩ C3,?_,?_⟩
      ·show ((acc.map agA).length+1) * (_+1)≤_
       exact Nat.le_trans (Nat.mul_le_mul_right _ (show (acc.map agA).length+1≤100001 by rw [List.length_map];omega)) (Nat.le_of_ble_eq_true (by kernel_rfl))
      intro t' l1 l2
      refine wp ?_
      have hmp:(acc++[(w1,w2,w3,w4,w5,w6)]).map agA=acc.map agA++[agA (w1,w2,w3,w4,w5,w6)]:=by rw [List.map_append];rfl
      refine ⟨(i+1,acc++[(w1,w2,w3,w4,w5,w6)],t'),eqa,B8,⟨by omega,?_,?_,hr7.trans hstep,by rw [List.length_append,hal];rfl⟩,by omega⟩
      ·rw [hmp]
       exact ((hC10.box2 c11 _ _ _).grown ht7 l2 c8).1
      ·exact ((hC10.box2 c11 169 _ _).grown (t':=t') (cs':=[]) ht7 l2 c8).2
    ·have hok:R8 q args dt []=.ok acc:=by rw [hr7,C0 (by omega),C0 (l:=dt) (by omega)];rfl
     rw [hok]
     simp only
     have hsl:=hq.syms
     have hix:=B0z (Γ:=Γ) (n:=114) (cs:=[.ptr (some ⟨b6,0,none⟩),.ptr (some ⟨b8,0,none⟩)]) (by kernel_rfl) (fun y=>decide (y=((d:Int),acc))) (tk7 4) q.syms (by omega) (fun y hy=>C6b (Γ:=Γ) f6 g8 y (by have:=(hq.symOk y hy).2.2.1;omega))
     rw [A6l] at hix
     rcases hj:idx ((d:Int),acc) q.syms with _|j
     ·rw [hj] at hix
      simp only [F0] at hix
      conv=>whnf
      have hW:R7 Γ s7 (s7.set b8 93 [.int .i64 d,.slice 0 (acc.map agA)]):=R7.box g8 (by (repeat' (first|exact LeL.nil|refine LeL.cons ?_ ?_|exact Le.refl _|exact Le.slice0 _ _|fail)))
      have hsm:=M1 q.syms
      have hsub:Sub s0 (S.set b8 93 [.int .i64 d,.slice 0 (acc.map agA)]):=hSs.trans ((Sub.refl S).set c8 _ _)
      refine wp ?_;(refine A2.by hix ?_);refine wp ?_
      rintro _ _ ⟨rfl,rfl⟩
      conv=>whnf
      repeat' ((first|exact pru|(refine brS (fun h=>?_) (fun h=>?_)<;>(try rw [h])<;>(try simp only [bS,↓reduceIte] at h))|refine A5 ?_|(refine AWp.weak (c:=.region 20 _ _) hW (aA ?_))|refine gS ?_|refine aA ?_|refine nA ?_|fail)<;>(conv=>whnf))
      ·intro b hb
       have n_b3_b:b3≠b:=A1 bxa hb
       have n_b_b3:=n_b3_b.symm
       have n_b6_b:b6≠b:=A1 bxa hb
       have n_b_b6:=n_b6_b.symm
       have n_b8_b:b8≠b:=A1 bxa hb
       have n_b_b8:=n_b8_b.symm
       have n_bc_b:bc≠b:=A1 bxa hb
       have n_b_bc:=n_bc_b.symm
       have k_b:=hS7.sub.none hb
       refine wp ?_
       refine ⟨_,Sub.refl _,?_⟩
       rw [if_pos (by omega)]
       exact .inr ⟨b,hSs.none k_b,bxa,rfl,hSs.trans (hS7.sub.set k_b _ _)⟩
      ·refine ⟨k1.may (i:=4) (by omega),fun c hc=>by obtain ⟨z,_,rfl⟩:=List.mem_map.1 hc;rfl,all_cons ⟨rfl,rfl⟩ C3,?_,?_⟩
       ·show ((sms q.syms).length+1) * (_+1)≤_
        exact Nat.le_trans (Nat.mul_le_mul_right _ (show (sms q.syms).length+1≤100001 by omega)) (Nat.le_of_ble_eq_true (by kernel_rfl))
       intro t' l1 l2
       refine wp ?_
       refine ⟨_,Sub.refl _,?_⟩
       rw [if_neg (by omega)]
       refine ⟨congrArg (fun z=>AV.tuple [.int .i64 z,.nilIface]) ?_,Cst.of_sub (s0:=S.set b8 93 [.int .i64 d,.slice 0 (acc.map agA)]) ?_ hsub⟩
       ·simp only [List.length_append,hsm,List.length_cons,List.length_nil]
        exact D5 (by omega) (by omega) (by omega)
       refine ⟨hCw.nc,hCw.nd,hCw.nv,hCw.ns,hCw.dv,hCw.ds,hCw.vs,?_,?_,?_,J2 tk7 4 t',a7,cap7,(k1.grow (i:=4) (t':=t') (by omega) l2).set hCw.nc _ _,k2.mono fun c z hc h0 hz=>?_,A3.trans ?_⟩
       ·exact C2.trans (Q6.trans hCw.md)
       ·exact C2.trans (Q6.trans hCw.mv)
       ·exact C2.trans (Q6.trans hCw.ms)
       ·exact (A4 hc).trans (Q5.trans hz)
       ·simp [chA,sms,smA,J2]
     ·rw [hj] at hix
      simp only [F0] at hix
      refine wp ?_;(refine A2.by hix ?_);refine wp ?_
      rintro _ _ ⟨rfl,rfl⟩
      refine wp ?_
      refine ⟨_,Sub.refl _,?_⟩
      exact ⟨rfl,hS7.of_sub hSs⟩
end
end Go.Proofs.YtaammejliikieaaGreatDoor.Ck
