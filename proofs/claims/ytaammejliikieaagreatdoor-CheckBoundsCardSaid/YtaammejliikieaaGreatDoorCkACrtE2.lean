import Derived.Test.YtaammejliikieaaGreatDoorG8
import Derived.Test.YtaammejliikieaaGreatDoorG1
set_option maxRecDepth 10000
set_option maxHeartbeats 60000000
set_option linter.all false
namespace Go.Proofs.YtaammejliikieaaGreatDoor.Pa
end Go.Proofs.YtaammejliikieaaGreatDoor.Pa
namespace Go.Proofs.YtaammejliikieaaGreatDoor.Ck
open Go Go.Ab Go.RowKit Go.Proofs.YtaammejliikieaaGreatDoor.Pa
variable {Γ:Nat→AV}
def D0t (t:Nat):Nat→Nat:=fun i=>match i with
 | 4=>t
 | _=>0
attribute [local irreducible] A8 Sto.set Sto.grow
theorem D2u (q:Qe) (hq:H7 q) (n1:List UInt8) (n2 n3:Int) (m1:List UInt8) (m2 m3:Int) (y1:List UInt8) (y2:List Tr.Ar) (y3 y4:Int) (ha:∀ a ∈ y2,a.1=1∨a.1=2∨a.1=3) (h256:¬ 256≤q.trans.length) (fr:Nat) (hf:idx n1 (q.states.map (·.1))=some fr) (sm1:Int) (sm2:List Ag) (hs:Z3 q (y1,y2,y3,y4)=.ok (sm1,sm2)) (hm2:sm2.length≤100000) (hi:idx (sm1,sm2) q.syms=none) (h64:¬ 64≤q.syms.length) (to_:Nat) (hto:idx m1 (q.states.map (·.1))=some to_) :
  A8 Tryz.prog Γ 18 [.agg (qeA z0 q),.agg (Tr.tnA ((0,0,0),((n1,n2,n3),(m1,m2,m3),(y1,y2,y3,y4),[],-1,[])))] fun v=>v=.tuple [.agg (qeA z0 { q with syms:=q.syms++[(sm1,sm2)],trans:=q.trans++[((fr:Int),(q.syms.length:Int),(to_:Int),-1,[])] }),noB]:=by
 have q1:=hq.decls
 have q2:=hq.states
 have q3:=hq.syms
 have q4:=hq.nodes
 have q5:=hq.trans
 have hst1:=S6 (Γ:=Γ) q n1 (by omega)
 have hat1:=fun e=>M6 (Γ:=Γ) e (n1,n2,n3)
 have hat2:=fun e=>M6 (Γ:=Γ) e (m1,m2,m3)
 have hsy:=Q8 (Γ:=Γ) q hq (y1,y2,y3,y4) ha
 have hsl:=M1 q.syms
 have htl:(txs q.trans).length=q.trans.length:=List.length_map ..
 have hnl:(q.nodes.map ndA).length=q.nodes.length:=List.length_map ..
 simp only [Tr.S1] at hat1 hat2
 simp only [qeA,z0,Tr.syA] at hst1 hsy
 rw [hf] at hst1
 rw [hs] at hsy
 have hpl:=A0x (Γ:=Γ) q.syms (sm1,sm2) (by omega) hm2 (fun y hy=>by have:=(hq.symOk y hy).2.2.1;omega)
 simp only [F0] at hst1
 simp only [A49,noB,J7,smA] at hsy hpl
 rw [hi] at hpl
 simp only [F0] at hpl
 have hpa:=fun t=>A34 (Γ:=Γ) (D0t t) { q with syms:=q.syms++[(sm1,sm2)] } (sm1,sm2) ((n1,n2,n3),(m1,m2,m3),(y1,y2,y3,y4),[],-1,[]) ⟨rfl,rfl,rfl⟩ (fr:Int) ((sms q.syms).length:Int) 0 (-1) 1
 have hst2:=fun t=>A07 (Γ:=Γ) (D0t t) { q with syms:=q.syms++[(sm1,sm2)] } m1 (by simp only;omega)
 simp only [hto,F0] at hst2
 simp only [qeA,D0t,Tr.tnA,List.map_nil,smA,noB,J7] at hpa hst2
 simp only [Tr.tnA,List.map_nil]
 refine A8.fgt fun s=>?_
 simp only [qeA,z0]
 refine acs Tryz.func18 ?_
 conv=>whnf
 intro b2 hb2
 have k_b2:=hb2
 repeat replace k_b2:=A0 k_b2
 conv=>whnf
 intro b3 hb3
 have k_b3:=hb3
 repeat replace k_b3:=A0 k_b3
 have n_b2_b3:b2≠b3:=by (have k:=hb3;repeat (first|exact A6 k|replace k:=A0 k))
 have n_b3_b2:=n_b2_b3.symm
 conv=>whnf
 intro b4 hb4
 have k_b4:=hb4
 repeat replace k_b4:=A0 k_b4
 have n_b2_b4:b2≠b4:=by (have k:=hb4;repeat (first|exact A6 k|replace k:=A0 k))
 have n_b4_b2:=n_b2_b4.symm
 have n_b3_b4:b3≠b4:=by (have k:=hb4;repeat (first|exact A6 k|replace k:=A0 k))
 have n_b4_b3:=n_b3_b4.symm
 conv=>whnf
 intro b5 hb5
 have k_b5:=hb5
 repeat replace k_b5:=A0 k_b5
 have n_b2_b5:b2≠b5:=by (have k:=hb5;repeat (first|exact A6 k|replace k:=A0 k))
 have n_b5_b2:=n_b2_b5.symm
 have n_b3_b5:b3≠b5:=by (have k:=hb5;repeat (first|exact A6 k|replace k:=A0 k))
 have n_b5_b3:=n_b3_b5.symm
 have n_b4_b5:b4≠b5:=by (have k:=hb5;repeat (first|exact A6 k|replace k:=A0 k))
 have n_b5_b4:=n_b4_b5.symm
 conv=>whnf
 repeat' ((first|(refine brS (fun h=>?_) (fun h=>?_)<;>(try rw [h])<;>(try simp only [bS,↓reduceIte] at h)<;>(try exact prc))|refine A5 ?_|(refine A2.pure' ?_ (hst1);rintro _ rfl)|refine A7.pure ?_ (hst1)|refine gS ?_|refine aA ?_|refine nA ?_|fail)<;>(conv=>whnf))
 intro b6 hb6
 have n_b2_b6:b2≠b6:=A1 bxa hb6
 have n_b6_b2:=n_b2_b6.symm
 have n_b3_b6:b3≠b6:=A1 bxa hb6
 have n_b6_b3:=n_b3_b6.symm
 have n_b4_b6:b4≠b6:=A1 bxa hb6
 have n_b6_b4:=n_b4_b6.symm
 have n_b5_b6:b5≠b6:=A1 bxa hb6
 have n_b6_b5:=n_b5_b6.symm
 have k_b6:=A0 (A0 (A0 (A0 hb6)))
 conv=>whnf
 repeat' ((first|(refine brS (fun h=>?_) (fun h=>?_)<;>(try rw [h])<;>(try simp only [bS,↓reduceIte] at h)<;>(try exact prc))|refine A5 ?_|(refine A2.pure' ?_ (hst1);rintro _ rfl)|refine A7.pure ?_ (hst1)|(refine A2.pure' ?_ (hsy);rintro _ rfl)|refine A7.pure ?_ (hsy)|refine gS ?_|refine aA ?_|refine nA ?_|fail)<;>(conv=>whnf))
 intro b7 hb7
 have n_b2_b7:b2≠b7:=A1 bxa hb7
 have n_b7_b2:=n_b2_b7.symm
 have n_b3_b7:b3≠b7:=A1 bxa hb7
 have n_b7_b3:=n_b3_b7.symm
 have n_b4_b7:b4≠b7:=A1 bxa hb7
 have n_b7_b4:=n_b4_b7.symm
 have n_b5_b7:b5≠b7:=A1 bxa hb7
 have n_b7_b5:=n_b5_b7.symm
 have n_b6_b7:b6≠b7:=A1 bxa hb7
 have n_b7_b6:=n_b6_b7.symm
 have k_b7:=hb7
 repeat replace k_b7:=A0 k_b7
 conv=>whnf
 intro b8 hb8
 have n_b2_b8:b2≠b8:=A1 bxa hb8
 have n_b8_b2:=n_b2_b8.symm
 have n_b3_b8:b3≠b8:=A1 bxa hb8
 have n_b8_b3:=n_b3_b8.symm
 have n_b4_b8:b4≠b8:=A1 bxa hb8
 have n_b8_b4:=n_b4_b8.symm
 have n_b5_b8:b5≠b8:=A1 bxa hb8
 have n_b8_b5:=n_b5_b8.symm
 have n_b6_b8:b6≠b8:=A1 bxa hb8
 have n_b8_b6:=n_b6_b8.symm
 have n_b7_b8:b7≠b8:=A1 bxa hb8
 have n_b8_b7:=n_b7_b8.symm
 have k_b8:=hb8
 repeat replace k_b8:=A0 k_b8
 conv=>whnf
 repeat' ((first|(refine brS (fun h=>?_) (fun h=>?_)<;>(try rw [h])<;>(try simp only [bS,↓reduceIte] at h)<;>(try exact prc))|refine A5 ?_|(refine A2.pure' ?_ (hpl);rintro _ rfl)|refine A7.pure ?_ (hpl)|(refine AWp.anyP (id:=14) [] (fun k=>cond k 0 1) [0,1,2,4,5,3,6,7,8] (by decide) (by kernel_rfl) (by kernel_rfl) (by kernel_rfl) (by kernel_rfl) ?_)|(refine oA ?_)|refine gS ?_|refine aA ?_|refine nA ?_|fail)<;>(conv=>whnf))
 refine ⟨fun c hc=>by obtain ⟨z,_,rfl⟩:=List.mem_map.1 hc;exact ⟨rfl,rfl⟩,?_,?_⟩
 ·show (0+(sms q.syms).length) * (_+1)≤_
  exact Nat.le_trans (Nat.mul_le_mul_right _ (show 0+(sms q.syms).length≤100001 by omega)) (Nat.le_of_ble_eq_true (by kernel_rfl))
 intro t' l1 l2
 conv=>whnf
 repeat' ((first|(refine brS (fun h=>?_) (fun h=>?_)<;>(try rw [h])<;>(try simp only [bS,↓reduceIte] at h)<;>(try exact prc))|refine A5 ?_|(refine oA ?_)|refine gS ?_|refine aA ?_|refine nA ?_|fail)<;>(conv=>whnf))
 have ht':t'=1∨∀ e k,¬ s.lv t' e k:=by
  by_cases h1:t'=1
  ·exact .inl h1
  ·exact .inr fun e k hx=>l2 h1 e k (Sub.lv N2 _ _ _ hx)
 refine ⟨l1.imp (fun h=>h.1) (fun h=>h.2),fun c hc=>by obtain ⟨z,_,rfl⟩:=List.mem_map.1 hc;rfl,all_cons ⟨rfl,rfl⟩ C3,?_,?_⟩
 ·show ((sms q.syms).length+1) * (_+1)≤_
  exact Nat.le_trans (Nat.mul_le_mul_right _ (show (sms q.syms).length+1≤100001 by omega)) (Nat.le_of_ble_eq_true (by kernel_rfl))
 intro t2 p1 p2
 rw [show (([]:List (List AV))++sms q.syms)++[[.int .i64 sm1,.slice 0 (sm2.map agA)]]=sms (q.syms++[(sm1,sm2)]) by unfold sms;rw [List.map_append,List.nil_append];rfl]
 conv=>whnf
 repeat' ((first|(refine brS (fun h=>?_) (fun h=>?_)<;>(try rw [h])<;>(try simp only [bS,↓reduceIte] at h)<;>(try exact prc))|refine A5 ?_|(refine oA ?_)|refine gS ?_|refine aA ?_|refine nA ?_|fail)<;>(conv=>whnf))
 ·exfalso
  rw [D5 (b:=(q.nodes.length:Int)) (by rw [hnl];simp) (by omega) (by omega)] at h
  omega
 repeat' ((first|(refine brS (fun h=>?_) (fun h=>?_)<;>(try rw [h])<;>(try simp only [bS,↓reduceIte] at h)<;>(try exact prc))|refine A5 ?_|(refine A2.pure' ?_ (hpa t2);rintro _ rfl)|refine A7.pure ?_ (hpa t2)|(refine A2.pure' ?_ (hst2 t2);rintro _ rfl)|refine A7.pure ?_ (hst2 t2)|(refine AWp.anyP (id:=23) [] (fun k=>cond k 0 1) [0,1,2,4,5,3,6,7,8] (by decide) (by kernel_rfl) (by kernel_rfl) (by kernel_rfl) (by kernel_rfl) ?_)|(refine oA ?_)|refine gS ?_|refine aA ?_|refine nA ?_|fail)<;>(conv=>whnf))
 refine ⟨fun c hc=>by obtain ⟨z,_,rfl⟩:=List.mem_map.1 hc;exact ⟨rfl,rfl⟩,?_,?_⟩
 ·show (0+(txs q.trans).length) * (_+1)≤_
  exact Nat.le_trans (Nat.mul_le_mul_right _ (show 0+(txs q.trans).length≤100001 by omega)) (Nat.le_of_ble_eq_true (by kernel_rfl))
 intro t3 l3 l4
 conv=>whnf
 repeat' ((first|(refine brS (fun h=>?_) (fun h=>?_)<;>(try rw [h])<;>(try simp only [bS,↓reduceIte] at h)<;>(try exact prc))|refine A5 ?_|(refine oA ?_)|refine gS ?_|refine aA ?_|refine nA ?_|fail)<;>(conv=>whnf))
 have ht3:t3=1∨∀ e k,¬ s.lv t3 e k:=by
  by_cases h1:t3=1
  ·exact .inl h1
  ·exact .inr fun e k hx=>l4 h1 e k (Sub.lv (by (repeat (first|exact Sub.refl _|assumption|refine Sub.set ?_ (by assumption) _ _|refine Sub.grow ?_ (by first|exact .inl rfl|assumption) _ _ _))) _ _ _ hx)
 refine ⟨l3.imp (fun h=>h.1) (fun h=>h.2),fun c hc=>by obtain ⟨z,_,rfl⟩:=List.mem_map.1 hc;rfl,all_cons ⟨rfl,rfl⟩ C3,?_,?_⟩
 ·show ((txs q.trans).length+1) * (_+1)≤_
  exact Nat.le_trans (Nat.mul_le_mul_right _ (show (txs q.trans).length+1≤100001 by omega)) (Nat.le_of_ble_eq_true (by kernel_rfl))
 intro t4 p3 p4
 conv=>whnf
 repeat' ((first|(refine brS (fun h=>?_) (fun h=>?_)<;>(try rw [h])<;>(try simp only [bS,↓reduceIte] at h)<;>(try exact prc))|refine A5 ?_|(refine oA ?_)|refine gS ?_|refine aA ?_|refine nA ?_|fail)<;>(conv=>whnf))
 refine ⟨_,Sub.refl _,?_,(by (repeat (first|exact Sub.refl _|assumption|refine Sub.set ?_ (by assumption) _ _|refine Sub.grow ?_ (by first|exact .inl rfl|assumption) _ _ _)))⟩
 show fg (.tuple [.agg [.str q.name,.slice 0 (dcs q.decls),.slice 0 (q.quants.map qtA),.slice 0 (q.frees.map feA),.slice 0 (q.states.map saA),.int .i64 q.start,.slice t2 (sms (q.syms++[(sm1,sm2)])),.slice 0 (q.nodes.map ndA),.slice t4 (([]++txs q.trans)++[[.int .i64 (fr:Int),.int .i64 ((sms q.syms).length:Int),.int .i64 (to_:Int),.int .i64 (-1),.slice 1 []]])],.agg [.int .i64 0,.int .i64 0,.int .i64 0]])=_
 simp only [fg,fgL,A1q,A6j,A6i,A6k,A5j,B0j,C0b,hsl,noB,J7,qeA,z0]
end Go.Proofs.YtaammejliikieaaGreatDoor.Ck
