import Derived.Test.YtaammejliikieaaGreatDoorG9
import Derived.Test.YtaammejliikieaaGreatDoorG5
import Derived.Test.YtaammejliikieaaGreatDoorG11
import Derived.Test.YtaammejliikieaaGreatDoorG1
set_option maxRecDepth 10000
set_option maxHeartbeats 60000000
set_option linter.all false
namespace Go.Proofs.YtaammejliikieaaGreatDoor.Lx
end Go.Proofs.YtaammejliikieaaGreatDoor.Lx
namespace Go.Proofs.YtaammejliikieaaGreatDoor.Pa
end Go.Proofs.YtaammejliikieaaGreatDoor.Pa
namespace Go.Proofs.YtaammejliikieaaGreatDoor.Pr
end Go.Proofs.YtaammejliikieaaGreatDoor.Pr
namespace Go.Proofs.YtaammejliikieaaGreatDoor.Ck
open Go Go.Ab Go.RowKit Go.Proofs.YtaammejliikieaaGreatDoor.Pa Go.Proofs.YtaammejliikieaaGreatDoor.Pr Go.Proofs.YtaammejliikieaaGreatDoor.Lx
variable {Γ:Nat→AV}
attribute [local irreducible] A8 Sto.set Sto.grow
theorem C5k (S:List UInt8) (x:Tr.Tr0) (r:Res Qe) (hpa:A8 Tryz.prog Γ 24 [.str S] fun v=>v=.tuple [.agg (Tr.trA z0 x),.agg [.int .i64 0,.int .i64 0,.int .i64 0]])
  (hl:A8 Tryz.prog Γ 7 [.agg (Tr.trA z0 x)] fun v=>v=A4w r):A8 Tryz.prog Γ 10 [.str S] fun v=>v=A4w r:=by
 refine A8.fgt fun s=>?_
 rw [show (fun v=>v=A4w r)=(fun v=>v=fg (A4w r)) by rw [B4s]] at *
 simp only [Tr.trA,z0] at hpa hl
 refine acs Tryz.func10 ?_
 conv=>whnf
 intro b2 hb2
 have k_b2:=hb2
 repeat replace k_b2:=A0 k_b2
 conv=>whnf
 intro b3 hb3
 have k_b3:=hb3
 repeat replace k_b3:=A0 k_b3
 have n_b2_b3:b2≠b3:=by (have k:=hb3;repeat (first|exact A6 k|replace k:=A0 k))
 have n_b3_b2:=n_b2_b3.symm
 conv=>whnf
 repeat' ((first|(refine brS (fun h=>?_) (fun h=>?_)<;>(try rw [h])<;>(try simp only [bS,↓reduceIte] at h)<;>(try exact prc))|refine A5 ?_|(refine A2.pure' ?_ (hpa);rintro _ rfl)|refine A7.pure ?_ (hpa)|refine gS ?_|refine aA ?_|refine nA ?_|fail)<;>(conv=>whnf))
 intro b4 hb4
 have k_b4:=A0 (A0 hb4)
 have n_b2_b4:b2≠b4:=A1 bxa hb4
 have n_b4_b2:=n_b2_b4.symm
 have n_b3_b4:b3≠b4:=A1 bxa hb4
 have n_b4_b3:=n_b3_b4.symm
 conv=>whnf
 intro b5 hb5
 have k_b5:=A0 (A0 (A0 hb5))
 have n_b2_b5:b2≠b5:=A1 bxa hb5
 have n_b5_b2:=n_b2_b5.symm
 have n_b3_b5:b3≠b5:=A1 bxa hb5
 have n_b5_b3:=n_b3_b5.symm
 have n_b4_b5:b4≠b5:=A1 bxa hb5
 have n_b5_b4:=n_b4_b5.symm
 conv=>whnf
 have hle:=B4s r
 rcases r with ⟨e1,e2,e3⟩|q
 ·simp only [A4w,qeA,z0] at hl hle
  rw [hle] at hl
  repeat' ((first|(refine brS (fun h=>?_) (fun h=>?_)<;>(try rw [h])<;>(try simp only [bS,↓reduceIte] at h)<;>(try exact prc))|refine A5 ?_|(refine P9.of A2x A04 ?_)|(refine A2.pure' ?_ (hl);rintro _ rfl)|refine A7.pure ?_ (hl)|refine gS ?_|refine aA ?_|refine nA ?_|fail)<;>(conv=>whnf))
  all_goals first|(exfalso;revert h;simp;done)|skip
  exact ⟨_,Sub.refl _,B4s (.error (e1,e2,e3)),N2⟩
 ·simp only [A4w,qeA,z0] at hl hle
  rw [hle] at hl
  repeat' ((first|(refine brS (fun h=>?_) (fun h=>?_)<;>(try rw [h])<;>(try simp only [bS,↓reduceIte] at h)<;>(try exact prc))|refine A5 ?_|(refine P9.of A2x A04 ?_)|(refine A2.pure' ?_ (hl);rintro _ rfl)|refine A7.pure ?_ (hl)|refine gS ?_|refine aA ?_|refine nA ?_|fail)<;>(conv=>whnf))
  all_goals first|(exfalso;revert h;simp;done)|skip
  exact ⟨_,Sub.refl _,B4s (.ok q),N2⟩
def C3g:List UInt8:=[113,101,97,32,112,32,115,116,97,114,116,32,115]
def C3h:List UInt8:=[113,101,97,32,112,32,115,107,105,112,32,115,32,115,116,97,114,116,32,115]
def D0x:Tr.Tr0:=(([112],1,5),[],[],[],[],([115],1,13),[],[])
def D0y:Tr.Tr0:=(([112],1,5),[],[],[],[(([115],1,12),false,false)],([115],1,20),[],[])
def zwQ:Qe:={ Qe.none with name:=[112],states:=[([115],false,false)] }
def zwL (S:List UInt8):List Tok:=match B4d S with|.ok L=>L|.error _=>[]
def zwT (L:List Tok) (i:Nat):Head × Nat:=match Pa.D0 L i 0 hd0 0 with|.ok r=>r|.error _=>(hd0,0)
theorem B77 (S:List UInt8) (h0:zwT (zwL S) 0=(hd0,0)) (h1:∀ i ∈ [0,1,2,3,4,5,6,7,8],Pa.C1 (zwL S) i (zwT (zwL S) i).1 (zwT (zwL S) i).2=.ok (zwT (zwL S) (i+1))) (h2:(List.range 9).all (fun i=>decide ((zwT (zwL S) i).2≤(zwL S).length))=true)
  (h3:[G3 (zwL S) (zwT (zwL S) 2).2 [A8l],G3 (zwL S) (zwT (zwL S) 3).2 [A4t,A4u],G3 (zwL S) (zwT (zwL S) 4).2 [B37],G3 (zwL S) (zwT (zwL S) 8).2 [B36]]=[1,2,1,1]) (h4:(zwT (zwL S) 9).2=(zwL S).length):A0j (zwL S) (zwT (zwL S)):=by
 simp only [List.cons.injEq,and_true] at h3
 refine ⟨h0,fun i hi=>h1 i ?_,fun i hi=>?_,h3.1,h3.2.1,h3.2.2.1,h3.2.2.2,h4⟩
 ·rcases (show i=0∨i=1∨i=2∨i=3∨i=4∨i=5∨i=6∨i=7∨i=8 by omega) with rfl|rfl|rfl|rfl|rfl|rfl|rfl|rfl|rfl<;>simp
 ·exact of_decide_eq_true (List.all_eq_true.1 h2 i (List.mem_range.2 hi))
theorem C3i:A0j (zwL C3g) (zwT (zwL C3g)):=by
 refine B77 C3g (by kernel_rfl) ?_ (by kernel_rfl) (by kernel_rfl) (by kernel_rfl)
 intro i hi
 simp only [List.mem_cons,List.not_mem_nil,or_false] at hi
 rcases hi with rfl|rfl|rfl|rfl|rfl|rfl|rfl|rfl|rfl<;>kernel_rfl
theorem C3j:A0j (zwL C3h) (zwT (zwL C3h)):=by
 refine B77 C3h (by kernel_rfl) ?_ (by kernel_rfl) (by kernel_rfl) (by kernel_rfl)
 intro i hi
 simp only [List.mem_cons,List.not_mem_nil,or_false] at hi
 rcases hi with rfl|rfl|rfl|rfl|rfl|rfl|rfl|rfl|rfl<;>kernel_rfl
theorem C89 (x:Tr.Tr0) (hr:Tr.Y1 x=true) (h1:x.2.1=[]) (h2:x.2.2.2.2.2.2.1=[]) (h3:x.2.2.2.2.2.2.2=[]) (h4:x.2.2.1.length≤100000∧x.2.2.2.1.length≤100000∧x.2.2.2.2.1.length≤100000):A53 x:=by
 refine ⟨⟨by rw [h1];rfl,by rw [h2];rfl,by rw [h3];rfl⟩,⟨⟨by rw [h1];simp,h4.1,h4.2.1,h4.2.2,by rw [h2];simp,by rw [h3];simp⟩,by rw [h1];simp,by rw [h2];simp,by rw [h3];simp⟩,hr,B1k hr,A8f hr⟩
theorem D18 {t:Tr.Tr0} (hx:t.2.2.2.2.2.2.2=[]):∀ (bc bd bv bs:Nat) (s0 s:Sto) (q:Qe) (d:Tr.Tn),d ∈ t.2.2.2.2.2.2.2.map Prod.snd→Cst s0 s bc bd bv bs q→H7 q→A2 Tryz.prog Γ 65 [.ptr (some ⟨bc,0,none⟩),.agg (Tr.tnA ((0,0,0),d))] s (P7 s0 bc bd bv bs (E6 q d)):=fun _ _ _ _ _ _ _ d hd=>by
 rw [hx] at hd;cases hd
theorem C9a (hQ:Qu.A7o Γ) (hW:Sc.Wds Γ) (hO:AsO.A2e Γ) (hM:AsM.A2e Γ) (hR:Nu.A7n Γ) (S:List UInt8) (x:Tr.Tr0) (hS:S.length≤100) (ha:B4d S=.ok (zwL S)) (hp:A0j (zwL S) (zwT (zwL S))) (hx:trN (zwT (zwL S) 9).1 []=x) (hi:A53 x) (ht:x.2.2.2.2.2.2.2=[]) (he:∀ e,F2 x=.error e→8≤e.1∧e.1≤14) :
  A8 Tryz.prog Γ 10 [.str S] fun v=>v=A4w (F2 x):=by
 have hl:=B9m (Γ:=Γ) hQ hW hO S (by omega)
 have hlen:(zwL S).length≤66000:=by
  have h:=ha
  unfold B4d at h
  split at h
  ·cases h
  ·have:=B66 _ _ _ _ h;omega
 rw [ha] at hl
 have h1:=C2m (Γ:=Γ) hp hR (C1b ha) hlen S hl
 rw [hx] at h1
 exact C5k S x _ h1 (B67 hi hM hW he (D18 ht))
theorem D0v (hQ:Qu.A7o Γ) (hW:Sc.Wds Γ) (hO:AsO.A2e Γ) (hM:AsM.A2e Γ) (hR:Nu.A7n Γ):A8 Tryz.prog Γ 10 [.str C3g] fun v=>v=.tuple [.agg (qeA z0 Qe.none),.agg [.int .i64 11,.int .i64 1,.int .i64 13]]:=by
 have e:F2 D0x=.error (11,1,13):=by kernel_rfl
 have h:=C9a hQ hW hO hM hR C3g D0x (by decide) (by kernel_rfl) C3i (by kernel_rfl) (C89 D0x (by kernel_rfl) rfl rfl rfl (by decide)) rfl (fun x hx=>by rw [e] at hx;cases hx;decide)
 rw [e] at h
 exact h
theorem D0w (hQ:Qu.A7o Γ) (hW:Sc.Wds Γ) (hO:AsO.A2e Γ) (hM:AsM.A2e Γ) (hR:Nu.A7n Γ):A8 Tryz.prog Γ 10 [.str C3h] fun v=>v=.tuple [.agg (qeA z0 zwQ),.agg [.int .i64 0,.int .i64 0,.int .i64 0]]:=by
 have e:F2 D0y=.ok zwQ:=by kernel_rfl
 have h:=C9a hQ hW hO hM hR C3h D0y (by decide) (by kernel_rfl) C3j (by kernel_rfl) (C89 D0y (by kernel_rfl) rfl rfl rfl (by decide)) rfl (fun x hx=>by rw [e] at hx;cases hx)
 rw [e] at h
 exact h
theorem C1h (hQ:Qu.A7o Γ) (hW:Sc.Wds Γ) (hO:AsO.A2e Γ) (hM:AsM.A2e Γ) (hR:Nu.A7n Γ):A8 Tryz.prog Γ 4 [] fun v=>v=.bool true:=by
 have h1:=D0v hQ hW hO hM hR
 have h2:=D0w hQ hW hO hM hR
 clear hQ hW hO hM hR
 unfold C3g qeA z0 at h1
 unfold C3h qeA z0 at h2
 refine aps Tryz.func4 ?_
 intro s
 conv=>whnf
 repeat' ((first|(refine brS (fun h=>?_) (fun h=>?_)<;>(try rw [h])<;>(try simp only [bS,↓reduceIte] at h)<;>(try exact prc))|(refine A2.pure' ?_ (h1);rintro _ rfl)|refine A7.pure ?_ (h1)|refine gS ?_|refine aA ?_|refine nA ?_|fail)<;>(conv=>whnf))
 intro b1 hb1
 conv=>whnf
 intro b2 hb2
 have k2:=A0 hb2
 have n_b1_b2:b1≠b2:=A1 bxa hb2
 have n_b2_b1:=n_b1_b2.symm
 conv=>whnf
 repeat' ((first|(refine brS (fun h=>?_) (fun h=>?_)<;>(try rw [h])<;>(try simp only [bS,↓reduceIte] at h)<;>(try exact prc))|refine A5 ?_|(refine A2.pure' ?_ (h2);rintro _ rfl)|refine A7.pure ?_ (h2)|refine gS ?_|refine aA ?_|refine nA ?_|fail)<;>(conv=>whnf))
 intro b3 hb3
 have k3:=A0 (A0 (A0 (A0 hb3)))
 have n_b1_b3:b1≠b3:=A1 bxa hb3
 have n_b3_b1:=n_b1_b3.symm
 have n_b2_b3:b2≠b3:=A1 bxa hb3
 have n_b3_b2:=n_b2_b3.symm
 conv=>whnf
 intro b4 hb4
 have k4:=A0 (A0 (A0 (A0 (A0 hb4))))
 have n_b1_b4:b1≠b4:=A1 bxa hb4
 have n_b4_b1:=n_b1_b4.symm
 have n_b2_b4:b2≠b4:=A1 bxa hb4
 have n_b4_b2:=n_b2_b4.symm
 have n_b3_b4:b3≠b4:=A1 bxa hb4
 have n_b4_b3:=n_b3_b4.symm
 conv=>whnf
 repeat' ((first|(refine brS (fun h=>?_) (fun h=>?_)<;>(try rw [h])<;>(try simp only [bS,↓reduceIte] at h)<;>(try exact prc))|refine A5 ?_|(refine P9.of A2x A04 ?_)|refine gS ?_|refine aA ?_|refine nA ?_|fail)<;>(conv=>whnf))
 exact ⟨((((((((Sub.refl s).set hb1 _ _).set k2 _ _).set hb1 _ _).set k2 _ _).set k3 _ _).set k4 _ _).set k3 _ _).set k4 _ _,by kernel_rfl⟩
end Go.Proofs.YtaammejliikieaaGreatDoor.Ck
