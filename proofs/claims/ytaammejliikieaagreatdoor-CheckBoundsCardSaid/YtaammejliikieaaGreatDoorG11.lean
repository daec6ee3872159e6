/- Part 11 of what the closing text needs: CkAI, CkAH, CkAJ, CkAT, PzA. No condition of mine beyond those that the theorems name. -/
import Derived.Test.YtaammejliikieaaGreatDoorG10
import Derived.Test.YtaammejliikieaaGreatDoorCkACrtD2
import Derived.Test.YtaammejliikieaaGreatDoorCkACrtE1
import Derived.Test.YtaammejliikieaaGreatDoorCkACrtE2
import Derived.Test.YtaammejliikieaaGreatDoorG1
import Derived.Test.YtaammejliikieaaGreatDoorG8
import Derived.Test.YtaammejliikieaaGreatDoorG7
import Derived.Test.YtaammejliikieaaGreatDoorG5
import Derived.Test.YtaammejliikieaaGreatDoorG9
set_option maxRecDepth 10000
set_option maxHeartbeats 60000000
set_option linter.all false
namespace Go.Proofs.YtaammejliikieaaGreatDoor.Lx
end Go.Proofs.YtaammejliikieaaGreatDoor.Lx
namespace Go.Proofs.YtaammejliikieaaGreatDoor.Pa
end Go.Proofs.YtaammejliikieaaGreatDoor.Pa
namespace Go.Proofs.YtaammejliikieaaGreatDoor.Pr
end Go.Proofs.YtaammejliikieaaGreatDoor.Pr
namespace Go.Proofs.YtaammejliikieaaGreatDoor.Ck
open Go Go.Ab Go.RowKit Go.Proofs.YtaammejliikieaaGreatDoor.Pa
variable {Γ:Nat→AV}
theorem B2y {q:Qe} {e:Bad}:∀ (l:List Tr.Ar) (ks:List Int) (acc:List Ag),R8 q l ks acc=.error e→e.1≠0
 | [],ks,acc,h=>by cases ks<;>cases h
 | a::l,[],acc,h=>by cases h
 | a::l,k::ks,acc,h=>by
  unfold R8 at h
  split at h
  ·rename_i e' he
   cases h
   exact B59 he
  ·exact B2y l ks _ h
theorem B1y {q:Qe} {s:Tr.Sy} {e:Bad} (h:Z3 q s=.error e):e.1≠0:=by
 unfold Z3 at h
 split at h
 ·cases h;simp
 ·split at h
  ·cases h;simp
  ·split at h
   ·rename_i he
    cases h
    exact B2y _ _ _ he
   ·cases h
theorem C20 (q:Qe) (hq:H7 q) (t:Tr.Tn) (ht:B78 t) (ha:∀ a ∈ t.2.2.1.2.1,a.1=1∨a.1=2∨a.1=3) :
  A8 Tryz.prog Γ 18 [.agg (qeA z0 q),.agg (Tr.tnA ((0,0,0),t))] fun v=>v=C5j q t:=by
 obtain ⟨⟨n1,n2,n3⟩,⟨m1,m2,m3⟩,⟨y1,y2,y3,y4⟩,nds,g,ss⟩:=t
 obtain ⟨r1,r2,r3⟩:=ht
 simp only at r1 r2 r3 ha
 subst r1 r2 r3
 unfold C5j
 by_cases h256:256≤q.trans.length
 ·have e1:E6 q ((n1,n2,n3),(m1,m2,m3),(y1,y2,y3,y4),[],-1,[])=.error (14,n2,n3):=by unfold E6;rw [if_pos h256]
  have e2:A2c q ((n1,n2,n3),(m1,m2,m3),(y1,y2,y3,y4),[],-1,[])=q:=by unfold A2c;rw [if_pos h256]
  rw [e1,e2]
  exact rtA q hq n1 n2 n3 m1 m2 m3 y1 y2 y3 y4 ha h256
 rcases hf:idx n1 (q.states.map (·.1)) with _|fr
 ·have hF:K9 q (n1,n2,n3)=.error (11,n2,n3):=by unfold K9;rw [hf]
  have e1:E6 q ((n1,n2,n3),(m1,m2,m3),(y1,y2,y3,y4),[],-1,[])=.error (11,n2,n3):=by unfold E6;rw [if_neg h256,hF]
  have e2:A2c q ((n1,n2,n3),(m1,m2,m3),(y1,y2,y3,y4),[],-1,[])=q:=by unfold A2c;rw [if_neg h256,hF]
  rw [e1,e2]
  exact rtB q hq n1 n2 n3 m1 m2 m3 y1 y2 y3 y4 ha h256 hf
 have hF:K9 q (n1,n2,n3)=.ok fr:=by unfold K9;rw [hf]
 rcases hs:Z3 q (y1,y2,y3,y4) with ⟨e1,e2,e3⟩|⟨sm1,sm2⟩
 ·have hP:S2 q (y1,y2,y3,y4)=.error (e1,e2,e3):=by unfold S2;rw [hs]
  have x1:E6 q ((n1,n2,n3),(m1,m2,m3),(y1,y2,y3,y4),[],-1,[])=.error (e1,e2,e3):=by unfold E6;rw [if_neg h256,hF,hP]
  have x2:A2c q ((n1,n2,n3),(m1,m2,m3),(y1,y2,y3,y4),[],-1,[])=q:=by unfold A2c;rw [if_neg h256,hF,hP]
  rw [x1,x2]
  exact rtC q hq n1 n2 n3 m1 m2 m3 y1 y2 y3 y4 ha h256 fr hf e1 e2 e3 (B1y hs) hs
 have hm2:sm2.length≤100000:=by have:=(B5s hq hs).2.2.1;simp only at this;omega
 rcases hi:idx (sm1,sm2) q.syms with _|i
 ·by_cases h64:64≤q.syms.length
  ·have hP:S2 q (y1,y2,y3,y4)=.error (14,y3,y4):=by unfold S2;rw [hs];dsimp only;rw [hi];simp only [if_pos h64]
   have x1:E6 q ((n1,n2,n3),(m1,m2,m3),(y1,y2,y3,y4),[],-1,[])=.error (14,y3,y4):=by unfold E6;rw [if_neg h256,hF,hP]
   have x2:A2c q ((n1,n2,n3),(m1,m2,m3),(y1,y2,y3,y4),[],-1,[])=q:=by unfold A2c;rw [if_neg h256,hF,hP]
   rw [x1,x2]
   exact rtF q hq n1 n2 n3 m1 m2 m3 y1 y2 y3 y4 ha h256 fr hf sm1 sm2 hs hm2 hi h64
  ·have hP:S2 q (y1,y2,y3,y4)=.ok ({ q with syms:=q.syms++[(sm1,sm2)] },q.syms.length):=by unfold S2;rw [hs];dsimp only;rw [hi];simp only [if_neg h64]
   have hq1:=(A31 hq hP).1
   have x1:=A4f (m:=(m1,m2,m3)) hq1 h256 hF hP
   have x2:A2c q ((n1,n2,n3),(m1,m2,m3),(y1,y2,y3,y4),[],-1,[]) = { q with syms:=q.syms++[(sm1,sm2)] }:=by unfold A2c;rw [if_neg h256,hF,hP]
   rw [x1,x2]
   rcases hto:idx m1 (q.states.map (·.1)) with _|to_
   ·have hF2:K9 { q with syms:=q.syms++[(sm1,sm2)] } (m1,m2,m3)=.error (11,m2,m3):=by unfold K9;simp only;rw [hto]
    rw [hF2]
    exact D2t q hq n1 n2 n3 m1 m2 m3 y1 y2 y3 y4 ha h256 fr hf sm1 sm2 hs hm2 hi h64 hto
   ·have hF2:K9 { q with syms:=q.syms++[(sm1,sm2)] } (m1,m2,m3)=.ok to_:=by unfold K9;simp only;rw [hto]
    rw [hF2]
    exact D2u q hq n1 n2 n3 m1 m2 m3 y1 y2 y3 y4 ha h256 fr hf sm1 sm2 hs hm2 hi h64 to_ hto
 ·have hP:S2 q (y1,y2,y3,y4)=.ok (q,i):=by unfold S2;rw [hs];dsimp only;rw [hi]
  have x1:=A4f (m:=(m1,m2,m3)) hq h256 hF hP
  have x2:A2c q ((n1,n2,n3),(m1,m2,m3),(y1,y2,y3,y4),[],-1,[])=q:=by unfold A2c;rw [if_neg h256,hF,hP]
  rw [x1,x2]
  rcases hto:idx m1 (q.states.map (·.1)) with _|to_
  ·have hF2:K9 q (m1,m2,m3)=.error (11,m2,m3):=by unfold K9;rw [hto]
   rw [hF2]
   exact D2r q hq n1 n2 n3 m1 m2 m3 y1 y2 y3 y4 ha h256 fr hf sm1 sm2 hs hm2 i hi hto
  ·have hF2:K9 q (m1,m2,m3)=.ok to_:=by unfold K9;rw [hto]
   rw [hF2]
   exact D2s q hq n1 n2 n3 m1 m2 m3 y1 y2 y3 y4 ha h256 fr hf sm1 sm2 hs hm2 i hi to_ hto
structure C3q (q:Qe) (k:Nat) (u:List Bool):Prop where
 len:u.length=q.syms.length
 at_:∀ j:Nat,j < q.syms.length→u.getD j false=decide ((j:Int) ∈ (trI q).take k)
theorem C3e (q:Qe):C3q q 0 (List.replicate q.syms.length false):=by
 refine ⟨by simp,fun j hj=>?_⟩
 simp [List.getD,hj]
theorem C3d {q:Qe} (hq:H7 q) {k:Nat} {u:List Bool} (h:C3q q k u) (hk:k < q.trans.length):C3q q (k+1) (u.set (q.trans.getD k noTx).2.1.toNat true):=by
 have hm:q.trans.getD k noTx ∈ q.trans:=Tr.D4 noTx hk
 have hs:=hq.transOk _ hm
 have hl:k < (trI q).length:=by unfold trI;rw [List.length_map];exact hk
 have hg:(trI q)[k]=(q.trans.getD k noTx).2.1:=by simp [trI,List.getD,hk]
 refine ⟨by rw [List.length_set];exact h.len,fun j hj=>?_⟩
 rw [A7g _ _ _ _ _ (by rw [h.len];omega),List.take_succ_eq_append_getElem hl,hg]
 split
 ·rename_i e
  subst e
  rw [Int.toNat_of_nonneg hs.1]
  exact (decide_eq_true (by simp)).symm
 ·rename_i e
  rw [h.at_ j hj,decide_eq_decide,List.mem_append,List.mem_singleton]
  exact ⟨.inl,fun h=>h.resolve_right (by omega)⟩
theorem C6o {q:Qe} {u:List Bool} (h:C3q q q.trans.length u):u.length=q.syms.length∧∀ j:Nat,j < q.syms.length→u.getD j false=decide ((j:Int) ∈ E9 q):=by
 refine ⟨h.len,fun j hj=>?_⟩
 rw [h.at_ j hj,decide_eq_decide,A7k]
 have:(trI q).take q.trans.length=trI q:=List.take_of_length_le (by unfold trI;rw [List.length_map];exact Nat.le_refl _)
 rw [this]
def boA (l:List Bool):List AV:=l.map .bool
def inA (l:List Int):List AV:=l.map (.int .i64)
theorem C66 {l:List Bool} {i:Nat} (h:i < l.length):(boA l).drop i=.bool (l.getD i false)::(boA l).drop (i+1):=by
 unfold boA
 rw [List.drop_eq_getElem_cons (by rw [List.length_map];exact h)]
 simp [List.getD,h]
theorem C7o {l:List Int} {i:Nat} (h:i < l.length):(inA l).drop i=.int .i64 (l.getD i 0)::(inA l).drop (i+1):=by
 unfold inA
 rw [List.drop_eq_getElem_cons (by rw [List.length_map];exact h)]
 simp [List.getD,h]
theorem C67 {l:List Bool} {i:Nat} (h:i < l.length) (x:Bool):(boA l).take i++[.bool x]++(boA l).drop (i+1)=boA (l.set i x):=by
 unfold boA
 rw [List.map_set,List.set_eq_take_append_cons_drop,if_pos (by rw [List.length_map];exact h)]
 simp
theorem C7p {l:List Int} {i:Nat} (h:i < l.length) (x:Int):(inA l).take i++[.int .i64 x]++(inA l).drop (i+1)=inA (l.set i x):=by
 unfold inA
 rw [List.map_set,List.set_eq_take_append_cons_drop,if_pos (by rw [List.length_map];exact h)]
 simp
theorem D0l (n:Nat):(List.replicate n [AV.bool false]).flatten=boA (List.replicate n false):=by
 induction n with
 | zero=>rfl
 | succ n ih=>rw [List.replicate_succ,List.flatten_cons,ih,List.replicate_succ];rfl
theorem D0m (n:Nat):(List.replicate n [AV.int .i64 0]).flatten=inA (List.replicate n 0):=by
 induction n with
 | zero=>rfl
 | succ n ih=>rw [List.replicate_succ,List.flatten_cons,ih,List.replicate_succ];rfl
theorem B94 (l:List Bool):(boA l).length=l.length:=List.length_map ..
theorem C0j (l:List Int):(inA l).length=l.length:=List.length_map ..
theorem C8u {l:List Bool} {i:Nat} (h:i < l.length) (x:Bool) (o:Nat) (ho:o=i):(boA l).take o++[.bool x]++(boA l).drop (o+1)=boA (l.set i x):=by subst ho;exact C67 h x
theorem C8z {l:List Int} {i:Nat} (h:i < l.length) (x:Int) (o:Nat) (ho:o=i):(inA l).take o++[.int .i64 x]++(inA l).drop (o+1)=inA (l.set i x):=by subst ho;exact C7p h x
theorem C8t {l:List Bool} {i:Nat} (h:i < l.length) (o:Nat) (ho:o=i):(boA l).drop o=.bool (l.getD i false)::(boA l).drop (i+1):=by subst ho;exact C66 h
theorem C8y {l:List Int} {i:Nat} (h:i < l.length) (o:Nat) (ho:o=i):(inA l).drop o=.int .i64 (l.getD i 0)::(inA l).drop (i+1):=by subst ho;exact C7o h
def tyO (i:Nat):TypeId × Nat:=match i with
 | 0=>(93,2)
 | _=>(106,5)
theorem C0z (l:List Sm) (x:Sm):sms (l++[x])=sms l++[smA (0,x)]:=by unfold sms;rw [List.map_append];rfl
theorem B73 (l:List Tx) (x:Tx):txs (l++[x])=txs l++[txA (0,x)]:=by unfold txs;rw [List.map_append];rfl
theorem _root_.Go.Ab.U3.same {n:Nat} {ty:Nat→TypeId × Nat} {s0 s:Sto} {tk tk':Nat→Nat} (h:U3 n ty s0 s tk) (e:∀ i,i < n→tk' i=tk i):U3 n ty s0 s tk' :=
 ⟨h.sub,fun i hi=>by rw [e i hi];exact h.own i hi,fun i j hi hj=>by rw [e i hi,e j hj];exact h.ne i j hi hj⟩
attribute [local irreducible] A8 Sto.set Sto.grow
theorem C2z (q:Qe) (hq:H7 q):A8 Tryz.prog Γ 21 [.agg (qeA z0 q)] fun v=>v=.agg (qeA z0 (P5 q)):=by
 have hsl:=M1 q.syms
 have htl:(txs q.trans).length=q.trans.length:=List.length_map ..
 have q1:=hq.syms
 have q2:=hq.trans
 refine A8.fgt fun s=>?_
 simp only [qeA,z0]
 refine acs Tryz.func21 ?_
 conv=>whnf
 intro b1 hb1
 have k_b1:=hb1
 repeat replace k_b1:=A0 k_b1
 conv=>whnf
 intro b2 hb2
 have k_b2:=hb2
 repeat replace k_b2:=A0 k_b2
 have n_b1_b2:b1≠b2:=by (have k:=hb2;repeat (first|exact A6 k|replace k:=A0 k))
 have n_b2_b1:=n_b1_b2.symm
 conv=>whnf
 repeat' ((first|(refine brS (fun h=>?_) (fun h=>?_)<;>(try rw [h])<;>(try simp only [bS,↓reduceIte] at h)<;>(try exact prc))|refine A5 ?_|refine gS ?_|refine aA ?_|refine nA ?_|fail)<;>(conv=>whnf))
 refine ⟨by show ((8:Nat):Int) * _≤_;rw [hsl];omega,rfl,?_⟩
 intro b3 hb3
 have n_b1_b3:b1≠b3:=A1 bxa hb3
 have n_b3_b1:=n_b1_b3.symm
 have n_b2_b3:b2≠b3:=A1 bxa hb3
 have n_b3_b2:=n_b2_b3.symm
 have k_b3:=A0 (A0 hb3)
 conv=>whnf
 repeat' ((first|(refine brS (fun h=>?_) (fun h=>?_)<;>(try rw [h])<;>(try simp only [bS,↓reduceIte] at h)<;>(try exact prc))|refine A5 ?_|refine gS ?_|refine aA ?_|refine nA ?_|fail)<;>(conv=>whnf))
 refine ⟨by show ((1:Nat):Int) * _≤_;rw [hsl];omega,rfl,?_⟩
 intro b4 hb4
 have n_b1_b4:b1≠b4:=A1 bxa hb4
 have n_b4_b1:=n_b1_b4.symm
 have n_b2_b4:b2≠b4:=A1 bxa hb4
 have n_b4_b2:=n_b2_b4.symm
 have n_b3_b4:b3≠b4:=A1 bxa hb4
 have n_b4_b3:=n_b3_b4.symm
 have k_b4:=A0 (A0 (A0 hb4))
 conv=>whnf
 repeat' ((first|(refine brS (fun h=>?_) (fun h=>?_)<;>(try rw [h])<;>(try simp only [bS,↓reduceIte] at h)<;>(try exact prc))|refine A5 ?_|refine gS ?_|refine aA ?_|refine nA ?_|fail)<;>(conv=>whnf))
 refine AWp.loopA [5] [20,21,22,23,24,27,28,29,30,31,32,33,34,25,26] (fun z:Nat × List Bool=>[.int .i64 (z.1:Int)]) (fun z s'=>z.1≤q.trans.length∧s'.bx b1=some (63,[.str q.name,.slice 0 (dcs q.decls),.slice 0 (q.quants.map qtA),.slice 0 (q.frees.map feA),.slice 0 (q.states.map saA),.int .i64 q.start,.slice 0 (sms q.syms),.slice 0 (q.nodes.map ndA),.slice 0 (txs q.trans)])∧s'.bx b2=some (63,[.str [],.slice 1 [],.slice 1 [],.slice 1 [],.slice 1 [],.int .i64 0,.slice 1 [],.slice 1 [],.slice 1 []])∧s'.bx b3=some (3,inA (List.replicate q.syms.length 0))∧s'.bx b4=some (4,boA z.2)∧Sub s s'∧C3q q z.1 z.2) (fun z=>q.trans.length - z.1) ((0,List.replicate q.syms.length false)) (by kernel_rfl) (eqa) ?_ ?_
 ·refine ⟨Nat.zero_le _,bxa,bxa,?_,?_,N2,C3e q⟩
  ·rw [← D0m,← hsl];exact bxa
  ·rw [← D0l,← hsl];exact A3
 ·rintro y ⟨i,u⟩ s1 ⟨hi,h1,h2,h3,h4,hS,hU⟩
  simp only at hi h4 hU
  have hul:=hU.len
  by_cases hlt:i < q.trans.length
  ·have hga:(txs q.trans).getD ((i:Int)).toNat []=txA (0,q.trans.getD i noTx):=by rw [Int.toNat_natCast];exact Tr.B9 (f:=fun x=>txA (0,x)) noTx hlt
   have hok:=hq.transOk _ (Tr.D4 noTx hlt)
   have hUs:=C3d hq hU hlt
   generalize q.trans.getD i noTx=w at *
   obtain ⟨w1,w2,w3,w4,w5⟩:=w
   simp only [txA] at hga
   simp only at hok hUs
   conv=>whnf
   repeat' ((first|(refine brS (fun h=>?_) (fun h=>?_)<;>(try rw [h])<;>(try simp only [bS,↓reduceIte] at h)<;>(try exact prc))|refine A5 ?_|refine ⟨D3 (hga) rfl,Go.Ab.C5 (hga) ?_⟩|refine gS ?_|refine aA ?_|refine nA ?_|fail)<;>(conv=>whnf))
   refine ⟨by show 0+w2.toNat * 1+1≤_;rw [B94];omega,?_⟩
   rw [C8]
   conv=>whnf
   repeat' ((first|(refine brS (fun h=>?_) (fun h=>?_)<;>(try rw [h])<;>(try simp only [bS,↓reduceIte] at h)<;>(try exact prc))|refine A5 ?_|refine gS ?_|refine aA ?_|refine nA ?_|fail)<;>(conv=>whnf))
   refine ⟨(i+1,u.set w2.toNat true),eqa,B8,⟨by simp only;omega,(A4 n_b1_b4).trans h1,(A4 n_b2_b4).trans h2,(A4 n_b3_b4).trans h3,A3.trans (congrArg (fun c=>some (4,c)) ?_),hS.set k_b4 _ _,hUs⟩,by simp only;omega⟩
   exact C8u (l:=u) (i:=w2.toNat) (by omega) true (0+w2.toNat * 1) (by omega)
  ·obtain rfl:i=q.trans.length:=by omega
   have hua:=C6o hU
   conv=>whnf
   repeat' ((first|(refine brS (fun h=>?_) (fun h=>?_)<;>(try rw [h])<;>(try simp only [bS,↓reduceIte] at h)<;>(try exact prc))|refine A5 ?_|refine gS ?_|refine aA ?_|refine nA ?_|fail)<;>(conv=>whnf))
   refine AWp.loopA [6,7] [35,36,37,38,39,42,43,44,45,46,47,48,49,50,51,52,53,54,55,56,57,58,59,40,41] (fun z:Nat × List Int × List Sm × Nat=>[.slice z.2.2.2 (sms z.2.2.1),.int .i64 (z.1:Int)]) (fun z s'=>z.1≤q.syms.length∧s'.bx b1=some (63,[.str q.name,.slice 0 (dcs q.decls),.slice 0 (q.quants.map qtA),.slice 0 (q.frees.map feA),.slice 0 (q.states.map saA),.int .i64 q.start,.slice 0 (sms q.syms),.slice 0 (q.nodes.map ndA),.slice 0 (txs q.trans)])∧s'.bx b2=some (63,[.str [],.slice 1 [],.slice 1 [],.slice 1 [],.slice 1 [],.int .i64 0,.slice 1 [],.slice 1 [],.slice 1 []])∧s'.bx b3=some (3,inA z.2.1)∧s'.bx b4=some (4,boA u)∧(∃ tk,tk 0=z.2.2.2∧tk 1=1∧U3 2 tyO s s' tk)∧B79 q z.1 z.2.1 z.2.2.1) (fun z=>q.syms.length - z.1) ((0,List.replicate q.syms.length 0,[],1)) (by kernel_rfl) (eqa) ?_ ?_
   ·exact ⟨Nat.zero_le _,h1,h2,h3,h4,⟨fun _=>1,rfl,rfl,U3.start hS⟩,C2i⟩
   ·rintro y2 ⟨j,tt,out,t6⟩ s2 ⟨hj,g1,g2,g3,g4,⟨tk,e0,e1,hT⟩,hO⟩
    simp only at hj g3 e0 hO
    have hol:out.length≤64:=by rw [hO.out,List.length_map];have:=hO.out;unfold H2;refine Nat.le_trans (List.length_filter_le _ _) ?_;simp;omega
    have hsl6:=M1 out
    have htl3:=hO.len
    by_cases hlt:j < q.syms.length
    ·have hbg:=C8t (l:=u) (i:=j) (by omega)
     have hgs:(sms q.syms).getD ((j:Int)).toNat []=smA (0,q.syms.getD j P4):=by rw [Int.toNat_natCast];exact Tr.B9 (f:=fun x=>smA (0,x)) P4 hlt
     have hu2:=hua.2 j hlt
     conv=>whnf
     by_cases hin:(j:Int) ∈ E9 q
     ·rw [decide_eq_true hin] at hu2
      rw [hu2] at hbg
      repeat' ((first|(refine brS (fun h=>?_) (fun h=>?_)<;>(try rw [h])<;>(try simp only [bS,↓reduceIte] at h)<;>(try exact prc))|refine A5 ?_|(rw [hbg];rotate_left;(show 0+((j:Nat):Int).toNat * 1=j;rw [Int.toNat_natCast];omega))|refine gS ?_|refine aA ?_|refine nA ?_|fail)<;>(conv=>whnf))
      exact ⟨(j+1,tt,out,t6),eqa,B8,⟨by simp only;omega,g1,g2,g3,g4,⟨tk,e0,e1,hT⟩,C2h hO hin⟩,by simp only;omega⟩
     ·rw [decide_eq_false hin] at hu2
      rw [hu2] at hbg
      have hput:=C47 hO hin hlt
      generalize q.syms.getD j P4=m at *
      obtain ⟨m1,m2⟩:=m
      simp only [smA] at hgs
      repeat' ((first|(refine brS (fun h=>?_) (fun h=>?_)<;>(try rw [h])<;>(try simp only [bS,↓reduceIte] at h)<;>(try exact prc))|refine A5 ?_|(rw [hbg];rotate_left;(show 0+((j:Nat):Int).toNat * 1=j;rw [Int.toNat_natCast];omega))|refine gS ?_|refine aA ?_|refine nA ?_|fail)<;>(conv=>whnf))
      refine ⟨by show 0+((j:Nat):Int).toNat * 1+1≤_;rw [Int.toNat_natCast,C0j];omega,?_⟩
      rw [C8]
      conv=>whnf
      repeat' ((first|(refine brS (fun h=>?_) (fun h=>?_)<;>(try rw [h])<;>(try simp only [bS,↓reduceIte] at h)<;>(try exact prc))|refine A5 ?_|refine ⟨D3 (hgs) rfl,Go.Ab.C5 (hgs) ?_⟩|refine gS ?_|refine aA ?_|refine nA ?_|fail)<;>(conv=>whnf))
      have hTs:=hT.set k_b3 3 ((inA tt).take (0+((j:Nat):Int).toNat * 1)++[.int .i64 ((sms out).length:Int)]++(inA tt).drop (0+((j:Nat):Int).toNat * 1+1))
      refine ⟨by rw [← e0];exact hTs.may (i:=0) (by omega),fun c hc=>by obtain ⟨z,_,rfl⟩:=List.mem_map.1 hc;rfl,all_cons ⟨rfl,rfl⟩ C3,?_,?_⟩
      ·show ((sms out).length+1) * (_+1)≤_
       exact Nat.le_trans (Nat.mul_le_mul_right _ (show (sms out).length+1≤100001 by omega)) (Nat.le_of_ble_eq_true (by kernel_rfl))
      intro t' l1 l2
      have hTg:=hTs.grow (i:=0) (t':=t') (by omega) (by rw [e0];exact l2)
      conv=>whnf
      repeat' ((first|(refine brS (fun h=>?_) (fun h=>?_)<;>(try rw [h])<;>(try simp only [bS,↓reduceIte] at h)<;>(try exact prc))|refine A5 ?_|refine gS ?_|refine aA ?_|refine nA ?_|fail)<;>(conv=>whnf))
      rw [e0] at hTg
      refine ⟨(j+1,tt.set j (out.length:Int),out++[(m1,m2)],t'),?_,B8,⟨by simp only;omega,Q5.trans ((A4 n_b1_b3).trans g1),Q5.trans ((A4 n_b2_b3).trans g2),Q5.trans (A3.trans (congrArg (fun c=>some (3,c)) ?_)),Q5.trans ((A4 n_b4_b3).trans g4),⟨J2 tk 0 t',rfl,e1,hTg⟩,hput⟩,by simp only;omega⟩
      ·simp only [C0z,smA]
       exact eqa
      ·rw [← hsl6]
       exact C8z (l:=tt) (i:=j) (by omega) _ (0+((j:Nat):Int).toNat * 1) (by rw [Int.toNat_natCast];omega)
    ·obtain rfl:j=q.syms.length:=by omega
     have hO2:=C2k hO hua.1 hua.2
     conv=>whnf
     repeat' ((first|(refine brS (fun h=>?_) (fun h=>?_)<;>(try rw [h])<;>(try simp only [bS,↓reduceIte] at h)<;>(try exact prc))|refine A5 ?_|refine gS ?_|refine aA ?_|refine nA ?_|fail)<;>(conv=>whnf))
     refine AWp.loopA [6,8,9] [60,61,62,63,64,67,68,69,70,71,10,72,73,11,74,75,76,77,78,79,80,81,82,83,84,85,86,87,88,89,90,91,92,93,94,95,96,97,98,99,100,101,102,65,66] (fun z:Nat × List Int × List Bool × List Sm × List Tx × (Nat→Nat)=>[.slice (z.2.2.2.2.2 0) (sms z.2.2.2.1),.slice (z.2.2.2.2.2 1) (txs z.2.2.2.2.1),.int .i64 (z.1:Int)]) (fun z s'=>z.1≤q.trans.length∧s'.bx b1=some (63,[.str q.name,.slice 0 (dcs q.decls),.slice 0 (q.quants.map qtA),.slice 0 (q.frees.map feA),.slice 0 (q.states.map saA),.int .i64 q.start,.slice 0 (sms q.syms),.slice 0 (q.nodes.map ndA),.slice 0 (txs q.trans)])∧s'.bx b2=some (63,[.str [],.slice 1 [],.slice 1 [],.slice 1 [],.slice 1 [],.int .i64 0,.slice 1 [],.slice 1 [],.slice 1 []])∧s'.bx b3=some (3,inA z.2.1)∧s'.bx b4=some (4,boA z.2.2.1)∧U3 2 tyO s s' z.2.2.2.2.2∧B8a q z.1 z.2.1 z.2.2.1 z.2.2.2.1 z.2.2.2.2.1) (fun z=>q.trans.length - z.1) ((0,tt,u,out,[],J2 (fun _=>1) 0 t6)) (by kernel_rfl) (eqb) ?_ ?_
     ·refine ⟨Nat.zero_le _,g1,g2,g3,g4,hT.same fun i hi=>?_,hO2⟩
      rcases (show i=0∨i=1 by omega) with rfl|rfl
      ·exact e0.symm
      ·exact e1.symm
     ·rintro y3 ⟨k,tt2,u2,out2,l2,tk2⟩ s3 ⟨hk,f1,f2,f3,f4,hT3,hO3⟩
      simp only at hk f3 f4 hO3
      have hol2:out2.length≤64+256:=by
       rw [hO3.out,List.length_map,List.length_append]
       have a1:=B4c q k
       have a2:(D9 q).length≤q.syms.length:=B0o q q.syms.length
       omega
      have hll2:l2.length≤256:=by rw [hO3.l,List.length_map,List.length_take];omega
      have hsl7:=M1 out2
      have htl7:(txs l2).length=l2.length:=List.length_map ..
      by_cases hlt2:k < q.trans.length
      ·have hga:(txs q.trans).getD ((k:Int)).toNat []=txA (0,q.trans.getD k noTx):=by rw [Int.toNat_natCast];exact Tr.B9 (f:=fun x=>txA (0,x)) noTx hlt2
       have hok:=hq.transOk _ (Tr.D4 noTx hlt2)
       have hsk:=C2j hq hO3 hlt2
       have hpu:=C49 hq hO3 hlt2
       have hgs:(sms q.syms).getD (q.trans.getD k noTx).2.1.toNat []=smA (0,A0i q (q.trans.getD k noTx).2.1):=Tr.B9 (f:=fun x=>smA (0,x)) P4 (by omega)
       have l3:=hO3.lenT
       have l4:=hO3.lenU
       have hbg:=C8t (l:=u2) (i:=(q.trans.getD k noTx).2.1.toNat) (by omega)
       have hig:=C8y (l:=tt2) (i:=(q.trans.getD k noTx).2.1.toNat) (by omega)
       generalize q.trans.getD k noTx=w at *
       obtain ⟨w1,w2,w3,w4,w5⟩:=w
       simp only [txA] at hga
       simp only at hok hsk hpu hgs hbg hig
       generalize A0i q w2=m at *
       obtain ⟨m1,m2⟩:=m
       simp only [smA] at hgs
       conv=>whnf
       repeat' ((first|(refine brS (fun h=>?_) (fun h=>?_)<;>(try rw [h])<;>(try simp only [bS,↓reduceIte] at h)<;>(try exact prc))|refine A5 ?_|refine ⟨D3 (hga) rfl,Go.Ab.C5 (hga) ?_⟩|refine gS ?_|refine aA ?_|refine nA ?_|fail)<;>(conv=>whnf))
       intro b10 hb10
       have c10:=hT3.sub.none hb10
       have n1a:=A1 f1 hb10
       have n2a:=A1 f2 hb10
       have n3a:=A1 f3 hb10
       have n4a:=A1 f4 hb10
       have na3:=n3a.symm
       have na4:=n4a.symm
       conv=>whnf
       rcases hub:u2.getD w2.toNat false with _|_
       ·have hnx:=hsk hub
        rw [hub] at hbg
        repeat' ((first|(refine brS (fun h=>?_) (fun h=>?_)<;>(try rw [h])<;>(try simp only [bS,↓reduceIte] at h)<;>(try exact prc))|refine A5 ?_|refine ⟨D3 (hga) rfl,Go.Ab.C5 (hga) ?_⟩|(rw [hbg];rotate_left;(show 0+w2.toNat * 1=w2.toNat;omega))|(rw [hig];rotate_left;(show 0+w2.toNat * 1=w2.toNat;omega))|refine gS ?_|refine aA ?_|refine nA ?_|fail)<;>(conv=>whnf))
        refine ⟨(((hT3.set c10 _ _).set c10 _ _).set c10 _ _).may (i:=1) (by omega),fun c hc=>by obtain ⟨z,_,rfl⟩:=List.mem_map.1 hc;rfl,all_cons ⟨rfl,rfl⟩ C3,?_,?_⟩
        ·show ((txs l2).length+1) * (_+1)≤_
         exact Nat.le_trans (Nat.mul_le_mul_right _ (show (txs l2).length+1≤100001 by omega)) (Nat.le_of_ble_eq_true (by kernel_rfl))
        intro t' p1 p2
        have hTg:=(((hT3.set c10 _ _).set c10 _ _).set c10 _ _).grow (i:=1) (t':=t') (by omega) p2
        conv=>whnf
        repeat' ((first|(refine brS (fun h=>?_) (fun h=>?_)<;>(try rw [h])<;>(try simp only [bS,↓reduceIte] at h)<;>(try exact prc))|refine A5 ?_|refine gS ?_|refine aA ?_|refine nA ?_|fail)<;>(conv=>whnf))
        refine ⟨(k+1,tt2,u2,out2,l2++[(w1,tt2.getD w2.toNat 0,w3,w4,w5)],J2 tk2 1 t'),?_,B8,⟨by simp only;omega,bxa,bxa,bxa,bxa,hTg,hnx⟩,by simp only;omega⟩
        simp only [B73,txA]
        exact eqa
       ·have hnx:=hpu hub
        rw [hub] at hbg
        have hig2:=C8y (l:=tt2.set w2.toNat (out2.length:Int)) (i:=w2.toNat) (by rw [List.length_set];omega)
        repeat' ((first|(refine brS (fun h=>?_) (fun h=>?_)<;>(try rw [h])<;>(try simp only [bS,↓reduceIte] at h)<;>(try exact prc))|refine A5 ?_|refine ⟨D3 (hga) rfl,Go.Ab.C5 (hga) ?_⟩|(rw [hbg];rotate_left;(show 0+w2.toNat * 1=w2.toNat;omega))|refine gS ?_|refine aA ?_|refine nA ?_|fail)<;>(conv=>whnf))
        refine ⟨by show 0+w2.toNat * 1+1≤_;rw [B94];omega,?_⟩
        refine Go.Ab.C5 (C8u (l:=u2) (i:=w2.toNat) (by omega) false (0+w2.toNat * 1) (by omega)) ?_
        rw [C8]
        conv=>whnf
        repeat' ((first|(refine brS (fun h=>?_) (fun h=>?_)<;>(try rw [h])<;>(try simp only [bS,↓reduceIte] at h)<;>(try exact prc))|refine A5 ?_|refine gS ?_|refine aA ?_|refine nA ?_|fail)<;>(conv=>whnf))
        refine ⟨by show 0+w2.toNat * 1+1≤_;rw [C0j];omega,?_⟩
        refine Go.Ab.C5 ((C8z (l:=tt2) (i:=w2.toNat) (by omega) ((sms out2).length:Int) (0+w2.toNat * 1) (by omega)).trans (by rw [hsl7])) ?_
        rw [C8]
        conv=>whnf
        repeat' ((first|(refine brS (fun h=>?_) (fun h=>?_)<;>(try rw [h])<;>(try simp only [bS,↓reduceIte] at h)<;>(try exact prc))|refine A5 ?_|refine ⟨D3 (hgs) rfl,Go.Ab.C5 (hgs) ?_⟩|refine gS ?_|refine aA ?_|refine nA ?_|fail)<;>(conv=>whnf))
        refine ⟨((((hT3.set c10 _ _).set c10 _ _).set k_b4 _ _).set k_b3 _ _).may (i:=0) (by omega),fun c hc=>by obtain ⟨z,_,rfl⟩:=List.mem_map.1 hc;rfl,all_cons ⟨rfl,rfl⟩ C3,?_,?_⟩
        ·show ((sms out2).length+1) * (_+1)≤_
         exact Nat.le_trans (Nat.mul_le_mul_right _ (show (sms out2).length+1≤100001 by omega)) (Nat.le_of_ble_eq_true (by kernel_rfl))
        intro t' p1 p2
        have hTg:=((((hT3.set c10 _ _).set c10 _ _).set k_b4 _ _).set k_b3 _ _).grow (i:=0) (t':=t') (by omega) p2
        conv=>whnf
        repeat' ((first|(refine brS (fun h=>?_) (fun h=>?_)<;>(try rw [h])<;>(try simp only [bS,↓reduceIte] at h)<;>(try exact prc))|refine A5 ?_|(rw [hig2];rotate_left;(show 0+w2.toNat * 1=w2.toNat;omega))|refine gS ?_|refine aA ?_|refine nA ?_|fail)<;>(conv=>whnf))
        refine ⟨(hTg.set c10 _ _).may (i:=1) (by omega),fun c hc=>by obtain ⟨z,_,rfl⟩:=List.mem_map.1 hc;rfl,all_cons ⟨rfl,rfl⟩ C3,?_,?_⟩
        ·show ((txs l2).length+1) * (_+1)≤_
         exact Nat.le_trans (Nat.mul_le_mul_right _ (show (txs l2).length+1≤100001 by omega)) (Nat.le_of_ble_eq_true (by kernel_rfl))
        intro t'' r1 r2
        have hTh:=(hTg.set c10 _ _).grow (i:=1) (t':=t'') (by omega) r2
        conv=>whnf
        repeat' ((first|(refine brS (fun h=>?_) (fun h=>?_)<;>(try rw [h])<;>(try simp only [bS,↓reduceIte] at h)<;>(try exact prc))|refine A5 ?_|refine gS ?_|refine aA ?_|refine nA ?_|fail)<;>(conv=>whnf))
        refine ⟨(k+1,tt2.set w2.toNat (out2.length:Int),u2.set w2.toNat false,out2++[(m1,m2)],l2++[(w1,(tt2.set w2.toNat (out2.length:Int)).getD w2.toNat 0,w3,w4,w5)],J2 (J2 tk2 0 t') 1 t''),?_,B8,⟨by simp only;omega,bxa,bxa,bxa,bxa,hTh,hnx⟩,by simp only;omega⟩
        simp only [B73,txA,C0z,smA]
        exact eqa
      ·obtain rfl:k=q.trans.length:=by omega
       have hend:=C48 hO3
       conv=>whnf
       repeat' ((first|(refine brS (fun h=>?_) (fun h=>?_)<;>(try rw [h])<;>(try simp only [bS,↓reduceIte] at h)<;>(try exact prc))|refine A5 ?_|refine gS ?_|refine aA ?_|refine nA ?_|fail)<;>(conv=>whnf))
       refine ⟨_,Sub.refl _,?_,(((hT3.sub.set k_b1 _ _).set k_b1 _ _).set k_b2 _ _)⟩
       show fg (.agg [.str q.name,.slice 0 (dcs q.decls),.slice 0 (q.quants.map qtA),.slice 0 (q.frees.map feA),.slice 0 (q.states.map saA),.int .i64 q.start,.slice (tk2 0) (sms out2),.slice 0 (q.nodes.map ndA),.slice (tk2 1) (txs l2)])=_
       rw [hend]
       simp only [fg,fgL,A1q,A6j,A6i,A6k,A5j,B0j,B0l,qeA,z0]
end Go.Proofs.YtaammejliikieaaGreatDoor.Ck
namespace Go.Proofs.YtaammejliikieaaGreatDoor.Ck
open Go Go.Ab Go.RowKit Go.Proofs.YtaammejliikieaaGreatDoor.Pa
def C6h (x:Tr.Tr0) (q:Qe):Res Qe :=
 match B3 H3 q (x.2.2.2.2.2.2.1.map Prod.snd) with
 | .error e=>.error e
 | .ok q=>match B3 E6 q (x.2.2.2.2.2.2.2.map Prod.snd) with
  | .error e=>.error e
  | .ok q=>match K8 q 0 x.2.2.1 with
   | .error e=>.error e
   | .ok q=>.ok (P5 q)
theorem C4w (x:Tr.Tr0):F2 x=match D0 x 5 0 { Qe.none with name:=x.1.1 } with
  | .error e=>.error e
  | .ok q=>C6h x q:=by
 unfold F2
 rw [show 8=5+3 from rfl,B3u]
 rcases D0 x 5 0 { Qe.none with name:=x.1.1 } with e|q
 ·rfl
 ·dsimp only
  unfold C6h
  simp only [D0,C1]
  rcases B3 H3 q (x.2.2.2.2.2.2.1.map Prod.snd) with e|q<;>simp only
  rcases B3 E6 q (x.2.2.2.2.2.2.2.map Prod.snd) with e|q<;>simp only
  rcases K8 q 0 x.2.2.1 with e|q<;>rfl
theorem B4v {α:Type} {one:Qe→α→Res Qe} (h:∀ q x q',one q x=.ok q'→q'.quants.length=q.quants.length):∀ (l:List α) (q q':Qe),B3 one q l=.ok q'→q'.quants.length=q.quants.length
 | [],q,q',e=>by cases e;rfl
 | x::l,q,q',e=>by
  unfold B3 at e
  split at e
  ·cases e
  ·rename_i q1 h1
   rw [B4v h l q1 q' e,h q x q1 h1]
theorem B1i:∀ (l:List Tr.Qu) (q q':Qe),B3 E8 q l=.ok q'→q'.quants.length=q.quants.length+l.length
 | [],q,q',e=>by cases e;rfl
 | x::l,q,q',e=>by
  unfold B3 at e
  split at e
  ·cases e
  ·rename_i q1 h1
   rw [B1i l q1 q' e]
   unfold E8 at h1
   split at h1
   ·cases h1
   ·split at h1
    ·cases h1
    ·cases h1
     simp only [List.length_append,List.length_cons,List.length_nil]
     omega
theorem C7a {q q':Qe} {d:Tr.De} (e:H1 q d=.ok q'):q'.quants.length=q.quants.length:=by
 unfold H1 at e
 split at e
 ·cases e
 ·split at e
  ·cases e
  ·cases e;rfl
theorem C7f {q q':Qe} {d:Tr.Fr} (e:H4 q d=.ok q'):q'.quants.length=q.quants.length:=by
 unfold H4 at e
 split at e
 ·cases e
 ·split at e
  ·cases e
  ·cases e;rfl
theorem C54 {q q':Qe} {d:Tr.St} (e:D6 q d=.ok q'):q'.quants.length=q.quants.length:=by
 unfold D6 at e
 split at e
 ·cases e
 ·split at e
  ·cases e
  ·cases e;rfl
theorem D0h {q:Qe} {s:Tr.Sy} {r:Qe × Nat} (e:S2 q s=.ok r):r.1.quants.length=q.quants.length:=by
 unfold S2 at e
 split at e
 ·cases e
 ·split at e
  ·cases e;rfl
  ·split at e
   ·cases e
   ·cases e;rfl
theorem C8m {q q':Qe} {t:Tr.Tn} (e:E6 q t=.ok q'):q'.quants.length=q.quants.length:=by
 unfold E6 at e
 split at e
 ·cases e
 ·split at e
  ·cases e
  ·split at e
   ·cases e
   ·rename_i q1 i hp
    have:=D0h hp
    split at e
    ·cases e
    ·split at e
     ·cases e
     ·split at e
      ·cases e
      ·split at e
       ·cases e
       ·cases e;exact this
theorem C9v {x:Tr.Tr0} {q:Qe} (e:D0 x 5 0 { Qe.none with name:=x.1.1 } = .ok q):q.quants.length=x.2.2.1.length:=by
 simp only [D0,C1] at e
 split at e
 ·cases e
 ·rename_i q1 h1
  split at e
  ·cases e
  ·rename_i q2 h2
   split at e
   ·cases e
   ·rename_i q3 h3
    split at e
    ·cases e
    ·rename_i q4 h4
     split at e
     ·cases e
     ·rename_i q5 h5
      cases e
      have e1:=B4v (fun _ _ _=>C7a) _ _ _ h1
      have e2:=B1i _ _ _ h2
      have e3:=B4v (fun _ _ _=>C7f) _ _ _ h3
      have e4:=B4v (fun _ _ _=>C54) _ _ _ h4
      have e5:q.quants.length=q4.quants.length:=by
       unfold Y3 at h5
       split at h5
       ·cases h5
       ·cases h5;rfl
      have e0:q1.quants.length=0:=e1
      omega
theorem B0q {α:Type} {one:Qe→α→Res Qe} {e:Bad} (h:∀ q x e,one q x=.error e→e.1≠0):∀ (l:List α) (q:Qe),B3 one q l=.error e→e.1≠0
 | [],q,he=>by cases he
 | x::l,q,he=>by
  unfold B3 at he
  split at he
  ·rename_i e' h1
   cases he
   exact h q x _ h1
  ·exact B0q h l _ he
theorem C9u {x:Tr.Tr0} {e:Bad} (h:D0 x 5 0 { Qe.none with name:=x.1.1 } = .error e):e.1≠0:=by
 simp only [D0,C1] at h
 split at h
 ·rename_i h1
  cases h
  exact B0q (fun q d e he=>by unfold H1 at he;split at he;cases he;simp;split at he;cases he;simp;cases he) _ _ h1
 ·split at h
  ·rename_i h1
   cases h
   exact B0q (fun q d e he=>by unfold E8 at he;split at he;cases he;simp;split at he;cases he;simp;cases he) _ _ h1
  ·split at h
   ·rename_i h1
    cases h
    exact B0q (fun q d e he=>by unfold H4 at he;split at he;cases he;simp;split at he;cases he;simp;cases he) _ _ h1
   ·split at h
    ·rename_i h1
     cases h
     exact B0q (fun q d e he=>by unfold D6 at he;split at he;cases he;simp;split at he;cases he;simp;cases he) _ _ h1
    ·split at h
     ·rename_i h1
      cases h
      unfold Y3 at h1
      split at h1
      ·rename_i h2
       cases h1
       unfold K9 at h2
       split at h2
       ·cases h2;simp
       ·cases h2
      ·cases h1
     ·cases h
theorem C5h {q:Qe} {s:Tr.Sy} {e:Bad} (h:S2 q s=.error e):e.1≠0:=by
 unfold S2 at h
 split at h
 ·rename_i h1
  cases h
  exact B1y h1
 ·split at h
  ·cases h
  ·split at h
   ·cases h;simp
   ·cases h
theorem C3b {q:Qe} {t:Tr.Tn} (ht:B78 t) {e:Bad} (hq:H7 q) (h:E6 q t=.error e):e.1≠0:=by
 obtain ⟨n,m,y,nds,g,ss⟩:=t
 obtain ⟨r1,r2,r3⟩:=ht
 simp only at r1 r2 r3
 subst r1 r2 r3
 by_cases h256:256≤q.trans.length
 ·unfold E6 at h
  rw [if_pos h256] at h
  cases h;simp
 rcases hF:K9 q n with e1|fr
 ·unfold E6 at h
  rw [if_neg h256,hF] at h
  cases h
  unfold K9 at hF
  split at hF
  ·cases hF;simp
  ·cases hF
 rcases hP:S2 q y with e1|⟨q1,i⟩
 ·unfold E6 at h
  rw [if_neg h256,hF,hP] at h
  cases h
  exact C5h hP
 rw [A4f (A31 hq hP).1 h256 hF hP] at h
 split at h
 ·rename_i hF2
  cases h
  unfold K9 at hF2
  split at hF2
  ·cases hF2;simp
  ·cases hF2
 ·cases h
structure C06 (q:Qe):Prop where
 inv:H7 q
 names:∀ d ∈ q.decls,d.1.length≤32
 sets:∀ t ∈ q.trans,t.2.2.2.2.length≤2048
theorem C7v {l:List UInt8} (h:Sc.L8 l=true):l.length≤32:=by
 unfold Sc.L8 Sc.spelt at h
 simp only [Bool.and_eq_true,decide_eq_true_eq] at h
 exact h.1.1.1.1.2
theorem B3t {q:Qe} {s:Sm} {base:Nat} {l:List Tr.Ex}:∀ (xs:List Tr.Se) (out:List Sx) (st:Nk) (r:List Sx × Nk),A7i q s base l xs out st=.ok r→r.1.length=out.length+xs.length
 | [],out,st,r,h=>by cases h;rfl
 | x::xs,out,st,r,h=>by
  unfold A7i at h
  split at h
  ·cases h
  ·split at h
   ·cases h
   ·split at h
    ·cases h
    ·split at h
     ·cases h
     ·have:=B3t xs _ _ r h
      simp only [List.length_append,List.length_cons,List.length_nil] at this ⊢
      omega
theorem A89 {n:Nat}:∀ (xs:List Tr.Se) (f:Nat),A4d n xs f→xs.length≤n - f
 | [],_,_=>Nat.zero_le _
 | x::xs,f,h=>by
  obtain ⟨h1,h2,h3⟩:=h
  have:=A89 xs _ h3
  simp only [List.length_cons]
  omega
theorem C0v {q:Qe} {s:Tr.Sy} {r:Qe × Nat} (e:S2 q s=.ok r):r.1.decls=q.decls∧r.1.trans=q.trans:=by
 unfold S2 at e
 split at e
 ·cases e
 ·split at e
  ·cases e;exact ⟨rfl,rfl⟩
  ·split at e
   ·cases e
   ·cases e;exact ⟨rfl,rfl⟩
theorem C3c {q q':Qe} {t:Tr.Tn} (h:C06 q) (ht:A52 t) (e:E6 q t=.ok q'):C06 q':=by
 have hi:=A2d h.inv ht e
 unfold E6 at e
 split at e
 ·cases e
 ·split at e
  ·cases e
  ·split at e
   ·cases e
   ·rename_i q1 i hp
    have:=C0v hp
    split at e
    ·cases e
    ·rename_i h2
     split at e
     ·cases e
     ·split at e
      ·cases e
      ·rename_i sx st2 hs2
       split at e
       ·cases e
       ·cases e
        have hl:=B3t _ _ _ _ hs2
        have hf:=A89 _ _ ht.sets
        refine ⟨hi,fun d hd=>h.names d (this.1 ▸ hd),fun y hy=>?_⟩
        rcases P3 hy with hy|rfl
        ·exact h.sets y (this.2 ▸ hy)
        ·simp only [List.length_nil] at hl ⊢
         omega
theorem C29 {x:Tr.Tr0} {q q':Qe} {i:Nat} (h:C06 q) (hr:Tr.Y1 x=true) (e:C1 x q i=.ok q'):C06 q':=by
 have ht:=A8f hr
 have hi:=C28 h.inv ht e
 unfold C1 at e
 split at e
 ·refine P2 _ _ _ (fun q d q' hd hq e=>?_) h e
  obtain ⟨y,hy,rfl⟩:=List.mem_map.1 hd
  have hn:y.2.1.1.length≤32:=by
   unfold Tr.Y1 at hr
   simp only [Bool.and_eq_true,List.all_eq_true] at hr
   exact C7v (hr.2.2.1 y hy).1
  have hi:=A4i hq.inv e
  unfold H1 at e
  split at e
  ·cases e
  ·split at e
   ·cases e
   ·cases e
    refine ⟨hi,fun d hd=>?_,hq.sets⟩
    rcases P3 hd with hd|rfl
    ·exact hq.names d hd
    ·exact hn
 ·refine P2 _ _ _ (fun q d q' hd hq e=>?_) h e
  have hi:=A21 hq.inv e
  unfold E8 at e
  repeat' split at e
  all_goals first|cases e;done|(cases e;exact ⟨hi,hq.names,hq.sets⟩)
 ·refine P2 _ _ _ (fun q d q' hd hq e=>?_) h e
  have hi:=A4m hq.inv e
  unfold H4 at e
  repeat' split at e
  all_goals first|cases e;done|(cases e;exact ⟨hi,hq.names,hq.sets⟩)
 ·refine P2 _ _ _ (fun q d q' hd hq e=>?_) h e
  have hi:=A24 hq.inv e
  unfold D6 at e
  repeat' split at e
  all_goals first|cases e;done|(cases e;exact ⟨hi,hq.names,hq.sets⟩)
 ·unfold Y3 at e
  split at e
  ·cases e
  ·cases e;exact ⟨hi,h.names,h.sets⟩
 ·refine P2 _ _ _ (fun q d q' hd hq e=>?_) h e
  have hi:=A10 hq.inv e
  unfold H3 at e
  split at e
  ·cases e
  ·rename_i r hp
   cases e
   have:=C0v hp
   exact ⟨hi,fun d hd=>hq.names d (this.1 ▸ hd),fun t ht=>hq.sets t (this.2 ▸ ht)⟩
 ·refine P2 _ _ _ (fun q d q' hm hq e=>?_) h e
  obtain ⟨t,h1,rfl⟩:=List.mem_map.1 hm
  exact C3c hq (ht t h1) e
 ·rw [A5y _ _ e];exact h
theorem B1v {x:Tr.Tr0} (hr:Tr.Y1 x=true):∀ (n i:Nat) (q q':Qe),C06 q→D0 x n i q=.ok q'→C06 q'
 | 0,i,q,q',h,e=>by cases e;exact h
 | n+1,i,q,q',h,e=>by
  unfold D0 at e
  split at e
  ·cases e
  ·exact B1v hr n _ _ _ (C29 h hr (by assumption)) e
theorem B3m:∀ (l acc:List Int),(U7 acc l).length≤acc.length+l.length
 | [],acc=>Nat.le_refl _
 | x::l,acc=>by
  unfold U7
  have:=B3m l (if x ∈ acc then acc else acc++[x])
  have h2:(if x ∈ acc then acc else acc++[x]).length≤acc.length+1:=by split<;>simp
  simp only [List.length_cons]
  omega
structure QSm (q:Qe):Prop where
 decls:q.decls.length≤100000
 quants:q.quants.length≤100000
 frees:q.frees.length≤100000
 states:q.states.length≤100000
 decl:∀ d ∈ q.decls,d.1.length≤1048576∧d.2.length≤100000
 syms:q.syms.length≤100000
 nodes:q.nodes.length≤100000
 trans:q.trans.length≤100000
 sym:∀ m ∈ q.syms,m.2.length≤100000
 set:∀ t ∈ q.trans,t.2.2.2.2.length≤100000
theorem C2b {x:Tr.Tr0} {q:Qe} (hr:Tr.Y1 x=true) (e:F2 x=.ok q):QSm q:=by
 unfold F2 at e
 split at e
 ·cases e
 ·rename_i q1 h1
  have h:=B1v hr 8 0 _ _ ⟨H7.none _,by simp [Qe.none],by simp [Qe.none]⟩ h1
  cases e
  obtain ⟨hi,hn,hs⟩:=h
  have l1:=B3m (q1.trans.map (·.2.1)) []
  have l2:(D9 q1).length≤q1.syms.length:=by
   unfold D9
   refine Nat.le_trans (List.length_filter_le _ _) ?_
   simp
  simp only [List.length_nil,List.length_map] at l1
  have g1:=hi.decls
  have g2:=hi.quants
  have g3:=hi.frees
  have g4:=hi.states
  have g5:=hi.syms
  have g6:=hi.nodes
  have g7:=hi.trans
  refine ⟨by simp only [P5];omega,by simp only [P5];omega,by simp only [P5];omega,by simp only [P5];omega,fun d hd=>⟨Nat.le_trans (hn d hd) (by decide),Nat.le_trans (hi.types d hd) (by decide)⟩,?_,by simp only [P5];omega,by simp only [P5,List.length_map];omega,fun m hm=>?_,fun t ht=>?_⟩
  ·simp only [P5,List.length_map,List.length_append]
   unfold E9
   omega
  ·obtain ⟨i,_,rfl⟩:=List.mem_map.1 hm
   by_cases hlt:i.toNat < q1.syms.length
   ·exact Nat.le_trans (hi.symOk _ (Tr.D4 P4 hlt)).2.2.1 (by decide)
   ·rw [show q1.syms.getD i.toNat P4=P4 from by simp [List.getD,List.getElem?_eq_none (Nat.not_lt.1 hlt)]]
    decide
  ·obtain ⟨y,hy,rfl⟩:=List.mem_map.1 ht
   exact Nat.le_trans (hs y hy) (by decide)
end Go.Proofs.YtaammejliikieaaGreatDoor.Ck
namespace Go.Proofs.YtaammejliikieaaGreatDoor.Pa
open Go Go.Ab Go.RowKit Go.Proofs.YtaammejliikieaaGreatDoor.Lx Go.Proofs.YtaammejliikieaaGreatDoor.Pr
variable {Γ:Nat→AV}
attribute [local irreducible] A8 Sto.set Sto.grow
section
variable {s0 s1 s:Sto} {bp bl:Nat} {L:List Tok} {a:Nat} {o:List Ex} {d:List Int} {k:Int}
theorem A6x {α:Type} {ws:List (List UInt8)} {one:Nat→Nat→Res (α × Nat)} (h:G3 L a ws=ws.length):A30 L ws one a=.ok ([],a):=by
 unfold A30
 rw [A1g,if_pos h]
theorem B9c {n:FuncId} {cs:List AV} (ws:List (List UInt8)) (hws:ws.length≤100) (tk:Nat) (hwa:G3 L a ws=ws.length) (hP:Pst s0 s bp bl L a o d k) (hL:L.length≤66000) (ha:a≤67000) :
  A2 Tryz.prog Γ 157 [.ptr (some ⟨bp,0,none⟩),.slice tk (J5 ws),.func (.func n) [] cs] s fun v s'=>v=.tuple [.slice 1 [],.nilIface]∧Pst s0 s' bp bl L a o d k:=by
 have hsl:(J5 ws).length=ws.length:=by simp [J5]
 refine acs Tryz.func157 ?_
 conv=>whnf
 repeat' ((first|exact pru|(refine brS (fun h=>?_) (fun h=>?_)<;>(try rw [h])<;>(try simp only [bS,↓reduceIte] at h))|refine gS ?_|refine aA ?_|refine nA ?_|fail)<;>(conv=>whnf))
 refine AWp.loopA [8] [9,12,13,14,15,16,17,18,19,20,21,22,23,24,25,26,27,28,29,30,31,6,7,33,34,35,32,36,37,10,11,38,39,40,41,42,43,44] (fun _:Unit=>[.slice 1 []]) (fun _ s'=>Pst s0 s' bp bl L a o d k) (fun _=>0) (()) (by kernel_rfl) (eqa) ?_ ?_
 ·exact hP
 ·rintro y _ s7 hP7
  show awp _ _ _ _ _ (updL _ _ [.slice 1 []]) _
  conv=>whnf
  repeat' ((first|exact pru|(refine brS (fun h=>?_) (fun h=>?_)<;>(try rw [h])<;>(try simp only [bS,↓reduceIte] at h))|refine gS ?_|refine aA ?_|refine nA ?_|fail)<;>(conv=>whnf))
  refine AWp.loopA [9] [12,13,14,15,16,17,18,19,20,21,22,23,24,25,26] (fun i:Nat=>[.int .i64 (i:Int)]) (fun i s'=>i≤ws.length∧Pst s0 s' bp bl L a o d k∧G3 L a ws=i+G3 L a (ws.drop i)) (fun i=>ws.length - i) (0) (by kernel_rfl) (eqa) ?_ ?_
  ·exact ⟨Nat.zero_le _,hP7,by rw [List.drop_zero,Nat.zero_add]⟩
  ·rintro y2 i s8 ⟨hi,hP8,hw⟩
   show awp _ _ _ _ _ (updL _ _ [.int .i64 (i:Int)]) _
   conv=>whnf
   by_cases hlt:i < ws.length
   ·have hg:=A37 hlt
    have hw2:IntKind.i64.wrap ((i:Int)+1)=((i+1:Nat):Int):=D5 (by omega) (by omega) (by omega)
    cases h1:isF L a (ws.getD i [])
    ·have hpast:=A1a hlt h1
     generalize ws.getD i []=w at *
     have htk:=A9c (Γ:=Γ) hP8 (by omega) (by omega) w
     rw [h1] at htk
     simp only [Bool.false_eq_true,if_false] at htk
     repeat' ((first|exact pru|(refine brS (fun h=>?_) (fun h=>?_)<;>(try rw [h])<;>(try simp only [bS,↓reduceIte] at h))|refine ⟨D3 (hg) rfl,Go.Ab.C5 (hg) ?_⟩|(refine A2.by htk ?_;rintro _ s9 ⟨rfl,hP9⟩)|(rw [hw2])|refine gS ?_|refine aA ?_|refine nA ?_|fail)<;>(conv=>whnf))
     exact ⟨i+1,eqa,B8,⟨hlt,hP9,by omega⟩,by omega⟩
    ·exfalso
     have hat:=A39 hlt h1
     omega
   ·repeat' ((first|exact pru|(refine brS (fun h=>?_) (fun h=>?_)<;>(try rw [h])<;>(try simp only [bS,↓reduceIte] at h))|refine gS ?_|refine aA ?_|refine nA ?_|fail)<;>(conv=>whnf))
    exact ⟨_,Sub.refl _,rfl,hP8⟩
theorem C24 {b1 b4:Nat} (c4:s1.bx b4=none) (hb1:s1.bx b1=some (177,[.ptr (some ⟨bp,0,none⟩)])) (n1:b4≠bp) (n2:b4≠bl) (hL:L.length≤66000) (hla:a≤L.length) (hwa:G3 L a [A8l]=[A8l].length) {h:Head} {k0 k1 k2 k3 k4:Nat}
  (hP:Pst (s1.set b4 34 (hdA k0 k1 k2 k3 k4 h)) s bp bl L a o d k) :
  A2 Tryz.prog Γ 156 [.ptr (some ⟨b1,0,none⟩),.ptr (some ⟨b4,0,none⟩)] s (P7 s1 b4 bp bl L o d k (C1 L 2 h a)):=by
 have n14:b1≠b4:=fun h=>by subst h;rw [c4] at hb1;cases hb1
 have g1:=hP.sub.bx _ _ ((A4 n14).trans hb1)
 have hw:=B9c (Γ:=Γ) (n:=158) (cs:=[.ptr (some ⟨b1,0,none⟩)]) [A8l] (by decide) 1 hwa hP hL (by omega)
 rw [show C1 L 2 h a=.ok ({ h with decls:=[] },a) by simp only [C1,A6x hwa]]
 refine acs Tryz.func156 ?_
 conv=>whnf
 repeat' ((first|exact pru|(refine brS (fun h=>?_) (fun h=>?_)<;>(try rw [h])<;>(try simp only [bS,↓reduceIte] at h))|(refine B5 g1 ?_)|refine gS ?_|refine aA ?_|refine nA ?_|fail)<;>(conv=>whnf))
 refine A2.by hw ?_
 rintro v s7 ⟨rfl,hP7⟩
 have hq4:=(Pst.drop hP7 c4).2
 have hP8:=hP7.swap c4 n1 n2 (hdA 1 k1 k2 k3 k4 { h with decls:=[] })
 simp only [hdA] at hq4
 conv=>whnf
 repeat' ((first|exact pru|(refine brS (fun h=>?_) (fun h=>?_)<;>(try rw [h])<;>(try simp only [bS,↓reduceIte] at h))|(refine B5 hq4 ?_)|refine gS ?_|refine aA ?_|refine nA ?_|fail)<;>(conv=>whnf))
 exact ⟨_,Sub.refl _,rfl,hla,_,_,_,_,_,hP8⟩
theorem B9e {n:FuncId} {cs:List AV} (ws:List (List UInt8)) (hws:ws.length≤100) (tk:Nat) (hwa:G3 L a ws=ws.length) (hP:Pst s0 s bp bl L a o d k) (hL:L.length≤66000) (ha:a≤67000) :
  A2 Tryz.prog Γ 161 [.ptr (some ⟨bp,0,none⟩),.slice tk (J5 ws),.func (.func n) [] cs] s fun v s'=>v=.tuple [.slice 1 [],.nilIface]∧Pst s0 s' bp bl L a o d k:=by
 have hsl:(J5 ws).length=ws.length:=by simp [J5]
 refine acs Tryz.func161 ?_
 conv=>whnf
 repeat' ((first|exact pru|(refine brS (fun h=>?_) (fun h=>?_)<;>(try rw [h])<;>(try simp only [bS,↓reduceIte] at h))|refine gS ?_|refine aA ?_|refine nA ?_|fail)<;>(conv=>whnf))
 refine AWp.loopA [8] [9,12,13,14,15,16,17,18,19,20,21,22,23,24,25,26,27,28,29,30,31,6,7,33,34,35,32,36,37,10,11,38,39,40,41,42,43,44] (fun _:Unit=>[.slice 1 []]) (fun _ s'=>Pst s0 s' bp bl L a o d k) (fun _=>0) (()) (by kernel_rfl) (eqa) ?_ ?_
 ·exact hP
 ·rintro y _ s7 hP7
  show awp _ _ _ _ _ (updL _ _ [.slice 1 []]) _
  conv=>whnf
  repeat' ((first|exact pru|(refine brS (fun h=>?_) (fun h=>?_)<;>(try rw [h])<;>(try simp only [bS,↓reduceIte] at h))|refine gS ?_|refine aA ?_|refine nA ?_|fail)<;>(conv=>whnf))
  refine AWp.loopA [9] [12,13,14,15,16,17,18,19,20,21,22,23,24,25,26] (fun i:Nat=>[.int .i64 (i:Int)]) (fun i s'=>i≤ws.length∧Pst s0 s' bp bl L a o d k∧G3 L a ws=i+G3 L a (ws.drop i)) (fun i=>ws.length - i) (0) (by kernel_rfl) (eqa) ?_ ?_
  ·exact ⟨Nat.zero_le _,hP7,by rw [List.drop_zero,Nat.zero_add]⟩
  ·rintro y2 i s8 ⟨hi,hP8,hw⟩
   show awp _ _ _ _ _ (updL _ _ [.int .i64 (i:Int)]) _
   conv=>whnf
   by_cases hlt:i < ws.length
   ·have hg:=A37 hlt
    have hw2:IntKind.i64.wrap ((i:Int)+1)=((i+1:Nat):Int):=D5 (by omega) (by omega) (by omega)
    cases h1:isF L a (ws.getD i [])
    ·have hpast:=A1a hlt h1
     generalize ws.getD i []=w at *
     have htk:=A9c (Γ:=Γ) hP8 (by omega) (by omega) w
     rw [h1] at htk
     simp only [Bool.false_eq_true,if_false] at htk
     repeat' ((first|exact pru|(refine brS (fun h=>?_) (fun h=>?_)<;>(try rw [h])<;>(try simp only [bS,↓reduceIte] at h))|refine ⟨D3 (hg) rfl,Go.Ab.C5 (hg) ?_⟩|(refine A2.by htk ?_;rintro _ s9 ⟨rfl,hP9⟩)|(rw [hw2])|refine gS ?_|refine aA ?_|refine nA ?_|fail)<;>(conv=>whnf))
     exact ⟨i+1,eqa,B8,⟨hlt,hP9,by omega⟩,by omega⟩
    ·exfalso
     have hat:=A39 hlt h1
     omega
   ·repeat' ((first|exact pru|(refine brS (fun h=>?_) (fun h=>?_)<;>(try rw [h])<;>(try simp only [bS,↓reduceIte] at h))|refine gS ?_|refine aA ?_|refine nA ?_|fail)<;>(conv=>whnf))
    exact ⟨_,Sub.refl _,rfl,hP8⟩
theorem C25 {b1 b4:Nat} (c4:s1.bx b4=none) (hb1:s1.bx b1=some (177,[.ptr (some ⟨bp,0,none⟩)])) (n1:b4≠bp) (n2:b4≠bl) (hL:L.length≤66000) (hla:a≤L.length) (hwa:G3 L a [A4t,A4u]=[A4t,A4u].length) {h:Head} {k0 k1 k2 k3 k4:Nat}
  (hP:Pst (s1.set b4 34 (hdA k0 k1 k2 k3 k4 h)) s bp bl L a o d k) :
  A2 Tryz.prog Γ 160 [.ptr (some ⟨b1,0,none⟩),.ptr (some ⟨b4,0,none⟩)] s (P7 s1 b4 bp bl L o d k (C1 L 3 h a)):=by
 have n14:b1≠b4:=fun h=>by subst h;rw [c4] at hb1;cases hb1
 have g1:=hP.sub.bx _ _ ((A4 n14).trans hb1)
 have hw:=B9e (Γ:=Γ) (n:=162) (cs:=[.ptr (some ⟨b1,0,none⟩)]) [A4t,A4u] (by decide) 1 hwa hP hL (by omega)
 rw [show C1 L 3 h a=.ok ({ h with quants:=[] },a) by simp only [C1,A6x hwa]]
 refine acs Tryz.func160 ?_
 conv=>whnf
 repeat' ((first|exact pru|(refine brS (fun h=>?_) (fun h=>?_)<;>(try rw [h])<;>(try simp only [bS,↓reduceIte] at h))|(refine B5 g1 ?_)|refine gS ?_|refine aA ?_|refine nA ?_|fail)<;>(conv=>whnf))
 refine A2.by hw ?_
 rintro v s7 ⟨rfl,hP7⟩
 have hq4:=(Pst.drop hP7 c4).2
 have hP8:=hP7.swap c4 n1 n2 (hdA k0 1 k2 k3 k4 { h with quants:=[] })
 simp only [hdA] at hq4
 conv=>whnf
 repeat' ((first|exact pru|(refine brS (fun h=>?_) (fun h=>?_)<;>(try rw [h])<;>(try simp only [bS,↓reduceIte] at h))|(refine B5 hq4 ?_)|refine gS ?_|refine aA ?_|refine nA ?_|fail)<;>(conv=>whnf))
 exact ⟨_,Sub.refl _,rfl,hla,_,_,_,_,_,hP8⟩
theorem B9d {n:FuncId} {cs:List AV} (ws:List (List UInt8)) (hws:ws.length≤100) (tk:Nat) (hwa:G3 L a ws=ws.length) (hP:Pst s0 s bp bl L a o d k) (hL:L.length≤66000) (ha:a≤67000) :
  A2 Tryz.prog Γ 165 [.ptr (some ⟨bp,0,none⟩),.slice tk (J5 ws),.func (.func n) [] cs] s fun v s'=>v=.tuple [.slice 1 [],.nilIface]∧Pst s0 s' bp bl L a o d k:=by
 have hsl:(J5 ws).length=ws.length:=by simp [J5]
 refine acs Tryz.func165 ?_
 conv=>whnf
 repeat' ((first|exact pru|(refine brS (fun h=>?_) (fun h=>?_)<;>(try rw [h])<;>(try simp only [bS,↓reduceIte] at h))|refine gS ?_|refine aA ?_|refine nA ?_|fail)<;>(conv=>whnf))
 refine AWp.loopA [8] [9,12,13,14,15,16,17,18,19,20,21,22,23,24,25,26,27,28,29,30,31,6,7,33,34,35,32,36,37,10,11,38,39,40,41,42,43,44] (fun _:Unit=>[.slice 1 []]) (fun _ s'=>Pst s0 s' bp bl L a o d k) (fun _=>0) (()) (by kernel_rfl) (eqa) ?_ ?_
 ·exact hP
 ·rintro y _ s7 hP7
  show awp _ _ _ _ _ (updL _ _ [.slice 1 []]) _
  conv=>whnf
  repeat' ((first|exact pru|(refine brS (fun h=>?_) (fun h=>?_)<;>(try rw [h])<;>(try simp only [bS,↓reduceIte] at h))|refine gS ?_|refine aA ?_|refine nA ?_|fail)<;>(conv=>whnf))
  refine AWp.loopA [9] [12,13,14,15,16,17,18,19,20,21,22,23,24,25,26] (fun i:Nat=>[.int .i64 (i:Int)]) (fun i s'=>i≤ws.length∧Pst s0 s' bp bl L a o d k∧G3 L a ws=i+G3 L a (ws.drop i)) (fun i=>ws.length - i) (0) (by kernel_rfl) (eqa) ?_ ?_
  ·exact ⟨Nat.zero_le _,hP7,by rw [List.drop_zero,Nat.zero_add]⟩
  ·rintro y2 i s8 ⟨hi,hP8,hw⟩
   show awp _ _ _ _ _ (updL _ _ [.int .i64 (i:Int)]) _
   conv=>whnf
   by_cases hlt:i < ws.length
   ·have hg:=A37 hlt
    have hw2:IntKind.i64.wrap ((i:Int)+1)=((i+1:Nat):Int):=D5 (by omega) (by omega) (by omega)
    cases h1:isF L a (ws.getD i [])
    ·have hpast:=A1a hlt h1
     generalize ws.getD i []=w at *
     have htk:=A9c (Γ:=Γ) hP8 (by omega) (by omega) w
     rw [h1] at htk
     simp only [Bool.false_eq_true,if_false] at htk
     repeat' ((first|exact pru|(refine brS (fun h=>?_) (fun h=>?_)<;>(try rw [h])<;>(try simp only [bS,↓reduceIte] at h))|refine ⟨D3 (hg) rfl,Go.Ab.C5 (hg) ?_⟩|(refine A2.by htk ?_;rintro _ s9 ⟨rfl,hP9⟩)|(rw [hw2])|refine gS ?_|refine aA ?_|refine nA ?_|fail)<;>(conv=>whnf))
     exact ⟨i+1,eqa,B8,⟨hlt,hP9,by omega⟩,by omega⟩
    ·exfalso
     have hat:=A39 hlt h1
     omega
   ·repeat' ((first|exact pru|(refine brS (fun h=>?_) (fun h=>?_)<;>(try rw [h])<;>(try simp only [bS,↓reduceIte] at h))|refine gS ?_|refine aA ?_|refine nA ?_|fail)<;>(conv=>whnf))
    exact ⟨_,Sub.refl _,rfl,hP8⟩
theorem C26 {b1 b4:Nat} (c4:s1.bx b4=none) (hb1:s1.bx b1=some (177,[.ptr (some ⟨bp,0,none⟩)])) (n1:b4≠bp) (n2:b4≠bl) (hL:L.length≤66000) (hla:a≤L.length) (hwa:G3 L a [B37]=[B37].length) {h:Head} {k0 k1 k2 k3 k4:Nat}
  (hP:Pst (s1.set b4 34 (hdA k0 k1 k2 k3 k4 h)) s bp bl L a o d k) :
  A2 Tryz.prog Γ 164 [.ptr (some ⟨b1,0,none⟩),.ptr (some ⟨b4,0,none⟩)] s (P7 s1 b4 bp bl L o d k (C1 L 4 h a)):=by
 have n14:b1≠b4:=fun h=>by subst h;rw [c4] at hb1;cases hb1
 have g1:=hP.sub.bx _ _ ((A4 n14).trans hb1)
 have hw:=B9d (Γ:=Γ) (n:=166) (cs:=[.ptr (some ⟨b1,0,none⟩)]) [B37] (by decide) 1 hwa hP hL (by omega)
 rw [show C1 L 4 h a=.ok ({ h with frees:=[] },a) by simp only [C1,A6x hwa]]
 refine acs Tryz.func164 ?_
 conv=>whnf
 repeat' ((first|exact pru|(refine brS (fun h=>?_) (fun h=>?_)<;>(try rw [h])<;>(try simp only [bS,↓reduceIte] at h))|(refine B5 g1 ?_)|refine gS ?_|refine aA ?_|refine nA ?_|fail)<;>(conv=>whnf))
 refine A2.by hw ?_
 rintro v s7 ⟨rfl,hP7⟩
 have hq4:=(Pst.drop hP7 c4).2
 have hP8:=hP7.swap c4 n1 n2 (hdA k0 k1 1 k3 k4 { h with frees:=[] })
 simp only [hdA] at hq4
 conv=>whnf
 repeat' ((first|exact pru|(refine brS (fun h=>?_) (fun h=>?_)<;>(try rw [h])<;>(try simp only [bS,↓reduceIte] at h))|(refine B5 hq4 ?_)|refine gS ?_|refine aA ?_|refine nA ?_|fail)<;>(conv=>whnf))
 exact ⟨_,Sub.refl _,rfl,hla,_,_,_,_,_,hP8⟩
theorem B9f {n:FuncId} {cs:List AV} (ws:List (List UInt8)) (hws:ws.length≤100) (tk:Nat) (hwa:G3 L a ws=ws.length) (hP:Pst s0 s bp bl L a o d k) (hL:L.length≤66000) (ha:a≤67000) :
  A2 Tryz.prog Γ 175 [.ptr (some ⟨bp,0,none⟩),.slice tk (J5 ws),.func (.func n) [] cs] s fun v s'=>v=.tuple [.slice 1 [],.nilIface]∧Pst s0 s' bp bl L a o d k:=by
 have hsl:(J5 ws).length=ws.length:=by simp [J5]
 refine acs Tryz.func175 ?_
 conv=>whnf
 repeat' ((first|exact pru|(refine brS (fun h=>?_) (fun h=>?_)<;>(try rw [h])<;>(try simp only [bS,↓reduceIte] at h))|refine gS ?_|refine aA ?_|refine nA ?_|fail)<;>(conv=>whnf))
 refine AWp.loopA [8] [9,12,13,14,15,16,17,18,19,20,21,22,23,24,25,26,27,28,29,30,31,6,7,33,34,35,32,36,37,10,11,38,39,40,41,42,43,44] (fun _:Unit=>[.slice 1 []]) (fun _ s'=>Pst s0 s' bp bl L a o d k) (fun _=>0) (()) (by kernel_rfl) (eqa) ?_ ?_
 ·exact hP
 ·rintro y _ s7 hP7
  show awp _ _ _ _ _ (updL _ _ [.slice 1 []]) _
  conv=>whnf
  repeat' ((first|exact pru|(refine brS (fun h=>?_) (fun h=>?_)<;>(try rw [h])<;>(try simp only [bS,↓reduceIte] at h))|refine gS ?_|refine aA ?_|refine nA ?_|fail)<;>(conv=>whnf))
  refine AWp.loopA [9] [12,13,14,15,16,17,18,19,20,21,22,23,24,25,26] (fun i:Nat=>[.int .i64 (i:Int)]) (fun i s'=>i≤ws.length∧Pst s0 s' bp bl L a o d k∧G3 L a ws=i+G3 L a (ws.drop i)) (fun i=>ws.length - i) (0) (by kernel_rfl) (eqa) ?_ ?_
  ·exact ⟨Nat.zero_le _,hP7,by rw [List.drop_zero,Nat.zero_add]⟩
  ·rintro y2 i s8 ⟨hi,hP8,hw⟩
   show awp _ _ _ _ _ (updL _ _ [.int .i64 (i:Int)]) _
   conv=>whnf
   by_cases hlt:i < ws.length
   ·have hg:=A37 hlt
    have hw2:IntKind.i64.wrap ((i:Int)+1)=((i+1:Nat):Int):=D5 (by omega) (by omega) (by omega)
    cases h1:isF L a (ws.getD i [])
    ·have hpast:=A1a hlt h1
     generalize ws.getD i []=w at *
     have htk:=A9c (Γ:=Γ) hP8 (by omega) (by omega) w
     rw [h1] at htk
     simp only [Bool.false_eq_true,if_false] at htk
     repeat' ((first|exact pru|(refine brS (fun h=>?_) (fun h=>?_)<;>(try rw [h])<;>(try simp only [bS,↓reduceIte] at h))|refine ⟨D3 (hg) rfl,Go.Ab.C5 (hg) ?_⟩|(refine A2.by htk ?_;rintro _ s9 ⟨rfl,hP9⟩)|(rw [hw2])|refine gS ?_|refine aA ?_|refine nA ?_|fail)<;>(conv=>whnf))
     exact ⟨i+1,eqa,B8,⟨hlt,hP9,by omega⟩,by omega⟩
    ·exfalso
     have hat:=A39 hlt h1
     omega
   ·repeat' ((first|exact pru|(refine brS (fun h=>?_) (fun h=>?_)<;>(try rw [h])<;>(try simp only [bS,↓reduceIte] at h))|refine gS ?_|refine aA ?_|refine nA ?_|fail)<;>(conv=>whnf))
    exact ⟨_,Sub.refl _,rfl,hP8⟩
theorem C27 {b1 b4:Nat} (c4:s1.bx b4=none) (hb1:s1.bx b1=some (177,[.ptr (some ⟨bp,0,none⟩)])) (n1:b4≠bp) (n2:b4≠bl) (hL:L.length≤66000) (hla:a≤L.length) (hwa:G3 L a [B36]=[B36].length) {h:Head} {k0 k1 k2 k3 k4:Nat}
  (hP:Pst (s1.set b4 34 (hdA k0 k1 k2 k3 k4 h)) s bp bl L a o d k) :
  A2 Tryz.prog Γ 174 [.ptr (some ⟨b1,0,none⟩),.ptr (some ⟨b4,0,none⟩)] s (P7 s1 b4 bp bl L o d k (C1 L 8 h a)):=by
 have n14:b1≠b4:=fun h=>by subst h;rw [c4] at hb1;cases hb1
 have g1:=hP.sub.bx _ _ ((A4 n14).trans hb1)
 have hw:=B9f (Γ:=Γ) (n:=176) (cs:=[.ptr (some ⟨b1,0,none⟩)]) [B36] (by decide) 1 hwa hP hL (by omega)
 rw [show C1 L 8 h a=.ok ({ h with also:=[] },a) by simp only [C1,A6x hwa]]
 refine acs Tryz.func174 ?_
 conv=>whnf
 repeat' ((first|exact pru|(refine brS (fun h=>?_) (fun h=>?_)<;>(try rw [h])<;>(try simp only [bS,↓reduceIte] at h))|(refine B5 g1 ?_)|refine gS ?_|refine aA ?_|refine nA ?_|fail)<;>(conv=>whnf))
 refine A2.by hw ?_
 rintro v s7 ⟨rfl,hP7⟩
 have hq4:=(Pst.drop hP7 c4).2
 have hP8:=hP7.swap c4 n1 n2 (hdA k0 k1 k2 k3 1 { h with also:=[] })
 simp only [hdA] at hq4
 conv=>whnf
 repeat' ((first|exact pru|(refine brS (fun h=>?_) (fun h=>?_)<;>(try rw [h])<;>(try simp only [bS,↓reduceIte] at h))|(refine B5 hq4 ?_)|refine gS ?_|refine aA ?_|refine nA ?_|fail)<;>(conv=>whnf))
 exact ⟨_,Sub.refl _,rfl,hla,_,_,_,_,_,hP8⟩
structure A0j (L:List Tok) (T:Nat→Head × Nat):Prop where
 zero:T 0=(hd0,0)
 steps:∀ i,i < 9→C1 L i (T i).1 (T i).2=.ok (T (i+1))
 bound:∀ i,i < 9→(T i).2≤L.length
 w2:G3 L (T 2).2 [A8l]=1
 w3:G3 L (T 3).2 [A4t,A4u]=2
 w4:G3 L (T 4).2 [B37]=1
 w8:G3 L (T 8).2 [B36]=1
 all:(T 9).2=L.length
theorem C4r {T:Nat→Head × Nat} (hZ:A0j L T) (hE:Nu.A7n Γ) (hT:∀ i,(E5 L i).2.1.length≤5000) (hL:L.length≤66000) (hP:Pst s0 s bp bl L 0 o d k) :
  A2 Tryz.prog Γ 127 [.ptr (some ⟨bp,0,none⟩)] s fun v s'=>(∃ k0 k1 k2 k3 k4,v=.tuple [.agg (hdA k0 k1 k2 k3 k4 (T 9).1),.nilIface])∧Pst s0 s' bp bl L L.length o d k:=by
 obtain ⟨h0,hs,hb,w2,w3,w4,w8,hall⟩:=hZ
 refine acs Tryz.func127 ?_
 conv=>whnf
 intro b1 hb1
 obtain ⟨p1,p2⟩:=hP.nb hb1
 have c1:s0.bx b1=none:=hP.sub.none hb1
 have hP1:=(hP.box hb1 177 [.ptr (some ⟨bp,0,none⟩)]).keep (T:=177) (cs:=[.ptr (some ⟨bp,0,none⟩)]) A3 p1 p2
 generalize s.set b1 177 [.ptr (some ⟨bp,0,none⟩)]=sx at *
 conv=>whnf
 intro b2 hb2
 obtain ⟨m1,m2⟩:=hP1.nb hb2
 have c2:(s0.set b1 177 [.ptr (some ⟨bp,0,none⟩)]).bx b2=none:=hP1.sub.none hb2
 have n12:b1≠b2:=A1 (hP1.sub.bx _ _ A3) hb2
 have hP2:=(hP1.box hb2 34 (hdA 1 1 1 1 1 hd0)).keep (T:=34) (cs:=hdA 1 1 1 1 1 hd0) A3 m1 m2
 have h1in:((s0.set b1 177 [.ptr (some ⟨bp,0,none⟩)]).set b2 34 (hdA 1 1 1 1 1 hd0)).bx b1=some (177,[.ptr (some ⟨bp,0,none⟩)]):=(A4 n12).trans A3
 generalize hs1:(s0.set b1 177 [.ptr (some ⟨bp,0,none⟩)]).set b2 34 (hdA 1 1 1 1 1 hd0)=s1 at *
 have hback:∀ {s:Sto} {a:Nat},Pst s1 s bp bl L a o d k→Pst s0 s bp bl L a o d k∧s.bx b2=some (34,hdA 1 1 1 1 1 hd0):=fun h=>by
  rw [← hs1] at h
  obtain ⟨g1,g2⟩:=h.drop c2
  exact ⟨(g1.drop c1).1,g2⟩
 have d2:s0.bx b2=none:=by rw [A4 n12.symm] at c2;exact c2
 conv=>whnf
 repeat' ((first|exact pru|(refine brS (fun h=>?_) (fun h=>?_)<;>(try rw [h])<;>(try simp only [bS,↓reduceIte] at h))|refine gS ?_|refine aA ?_|refine nA ?_|fail)<;>(conv=>whnf))
 intro b4 hb4
 obtain ⟨m3,m4⟩:=hP2.nb hb4
 have c4:s1.bx b4=none:=hP2.sub.none hb4
 have hP4:=(hP2.box hb4 34 (hdA 1 1 1 1 1 hd0)).keep (b:=b4) (T:=34) (cs:=hdA 1 1 1 1 1 hd0) A3 m3 m4
 conv=>whnf
 repeat' ((first|exact pru|(refine brS (fun h=>?_) (fun h=>?_)<;>(try rw [h])<;>(try simp only [bS,↓reduceIte] at h))|refine gS ?_|refine aA ?_|refine nA ?_|fail)<;>(conv=>whnf))
 refine AWp.loopA [21] [22,23,24,7,25,26,8,27,28,29,30,3,31] (fun i:Nat=>[.int .i64 (i:Int)]) (fun i s'=>i≤9∧∃ k0 k1 k2 k3 k4,Pst (s1.set b4 34 (hdA k0 k1 k2 k3 k4 (T i).1)) s' bp bl L (T i).2 o d k) (fun i=>9 - i) (0) (by kernel_rfl) (eqa) ?_ ?_
 ·refine ⟨Nat.zero_le _,1,1,1,1,1,?_⟩
  rw [h0]
  exact hP4
 ·rintro y i s7 ⟨hi,k0,k1,k2,k3,k4,hP7⟩
  rcases (show i=0∨i=1∨i=2∨i=3∨i=4∨i=5∨i=6∨i=7∨i=8∨i=9 by omega) with rfl|rfl|rfl|rfl|rfl|rfl|rfl|rfl|rfl|rfl
  ·show awp _ _ _ _ _ (updL _ _ [.int .i64 ((0:Nat):Int)]) _
   have hst:=C56 (Γ:=Γ) c4 h1in m3 m4 hL (hb 0 (by decide)) hP7
   rw [hs 0 (by decide)] at hst
   conv=>whnf
   repeat' ((first|exact pru|(refine brS (fun h=>?_) (fun h=>?_)<;>(try rw [h])<;>(try simp only [bS,↓reduceIte] at h))|refine gS ?_|refine aA ?_|refine nA ?_|fail)<;>(conv=>whnf))
   refine A2.by hst ?_
   rintro v s8 ⟨rfl,hb',k0',k1',k2',k3',k4',hP8⟩
   conv=>whnf
   repeat' ((first|exact pru|(refine brS (fun h=>?_) (fun h=>?_)<;>(try rw [h])<;>(try simp only [bS,↓reduceIte] at h))|refine gS ?_|refine aA ?_|refine nA ?_|fail)<;>(conv=>whnf))
   exact ⟨1,eqa,B8,⟨by omega,_,_,_,_,_,hP8⟩,by omega⟩
  ·show awp _ _ _ _ _ (updL _ _ [.int .i64 ((1:Nat):Int)]) _
   have hst:=C57 (Γ:=Γ) c4 h1in m3 m4 hL (hb 1 (by decide)) hP7
   rw [hs 1 (by decide)] at hst
   conv=>whnf
   repeat' ((first|exact pru|(refine brS (fun h=>?_) (fun h=>?_)<;>(try rw [h])<;>(try simp only [bS,↓reduceIte] at h))|refine gS ?_|refine aA ?_|refine nA ?_|fail)<;>(conv=>whnf))
   refine A2.by hst ?_
   rintro v s8 ⟨rfl,hb',k0',k1',k2',k3',k4',hP8⟩
   conv=>whnf
   repeat' ((first|exact pru|(refine brS (fun h=>?_) (fun h=>?_)<;>(try rw [h])<;>(try simp only [bS,↓reduceIte] at h))|refine gS ?_|refine aA ?_|refine nA ?_|fail)<;>(conv=>whnf))
   exact ⟨2,eqa,B8,⟨by omega,_,_,_,_,_,hP8⟩,by omega⟩
  ·show awp _ _ _ _ _ (updL _ _ [.int .i64 ((2:Nat):Int)]) _
   have hst:=C24 (Γ:=Γ) c4 h1in m3 m4 hL (hb 2 (by decide)) w2 hP7
   rw [hs 2 (by decide)] at hst
   conv=>whnf
   repeat' ((first|exact pru|(refine brS (fun h=>?_) (fun h=>?_)<;>(try rw [h])<;>(try simp only [bS,↓reduceIte] at h))|refine gS ?_|refine aA ?_|refine nA ?_|fail)<;>(conv=>whnf))
   refine A2.by hst ?_
   rintro v s8 ⟨rfl,hb',k0',k1',k2',k3',k4',hP8⟩
   conv=>whnf
   repeat' ((first|exact pru|(refine brS (fun h=>?_) (fun h=>?_)<;>(try rw [h])<;>(try simp only [bS,↓reduceIte] at h))|refine gS ?_|refine aA ?_|refine nA ?_|fail)<;>(conv=>whnf))
   exact ⟨3,eqa,B8,⟨by omega,_,_,_,_,_,hP8⟩,by omega⟩
  ·show awp _ _ _ _ _ (updL _ _ [.int .i64 ((3:Nat):Int)]) _
   have hst:=C25 (Γ:=Γ) c4 h1in m3 m4 hL (hb 3 (by decide)) w3 hP7
   rw [hs 3 (by decide)] at hst
   conv=>whnf
   repeat' ((first|exact pru|(refine brS (fun h=>?_) (fun h=>?_)<;>(try rw [h])<;>(try simp only [bS,↓reduceIte] at h))|refine gS ?_|refine aA ?_|refine nA ?_|fail)<;>(conv=>whnf))
   refine A2.by hst ?_
   rintro v s8 ⟨rfl,hb',k0',k1',k2',k3',k4',hP8⟩
   conv=>whnf
   repeat' ((first|exact pru|(refine brS (fun h=>?_) (fun h=>?_)<;>(try rw [h])<;>(try simp only [bS,↓reduceIte] at h))|refine gS ?_|refine aA ?_|refine nA ?_|fail)<;>(conv=>whnf))
   exact ⟨4,eqa,B8,⟨by omega,_,_,_,_,_,hP8⟩,by omega⟩
  ·show awp _ _ _ _ _ (updL _ _ [.int .i64 ((4:Nat):Int)]) _
   have hst:=C26 (Γ:=Γ) c4 h1in m3 m4 hL (hb 4 (by decide)) w4 hP7
   rw [hs 4 (by decide)] at hst
   conv=>whnf
   repeat' ((first|exact pru|(refine brS (fun h=>?_) (fun h=>?_)<;>(try rw [h])<;>(try simp only [bS,↓reduceIte] at h))|refine gS ?_|refine aA ?_|refine nA ?_|fail)<;>(conv=>whnf))
   refine A2.by hst ?_
   rintro v s8 ⟨rfl,hb',k0',k1',k2',k3',k4',hP8⟩
   conv=>whnf
   repeat' ((first|exact pru|(refine brS (fun h=>?_) (fun h=>?_)<;>(try rw [h])<;>(try simp only [bS,↓reduceIte] at h))|refine gS ?_|refine aA ?_|refine nA ?_|fail)<;>(conv=>whnf))
   exact ⟨5,eqa,B8,⟨by omega,_,_,_,_,_,hP8⟩,by omega⟩
  ·show awp _ _ _ _ _ (updL _ _ [.int .i64 ((5:Nat):Int)]) _
   have hst:=C58 (Γ:=Γ) hE hT c4 h1in m3 m4 hL (hb 5 (by decide)) hP7
   rw [hs 5 (by decide)] at hst
   conv=>whnf
   repeat' ((first|exact pru|(refine brS (fun h=>?_) (fun h=>?_)<;>(try rw [h])<;>(try simp only [bS,↓reduceIte] at h))|refine gS ?_|refine aA ?_|refine nA ?_|fail)<;>(conv=>whnf))
   refine A2.by hst ?_
   rintro v s8 ⟨rfl,hb',k0',k1',k2',k3',k4',hP8⟩
   conv=>whnf
   repeat' ((first|exact pru|(refine brS (fun h=>?_) (fun h=>?_)<;>(try rw [h])<;>(try simp only [bS,↓reduceIte] at h))|refine gS ?_|refine aA ?_|refine nA ?_|fail)<;>(conv=>whnf))
   exact ⟨6,eqa,B8,⟨by omega,_,_,_,_,_,hP8⟩,by omega⟩
  ·show awp _ _ _ _ _ (updL _ _ [.int .i64 ((6:Nat):Int)]) _
   have hst:=C59 (Γ:=Γ) c4 h1in m3 m4 hL (hb 6 (by decide)) hP7
   rw [hs 6 (by decide)] at hst
   conv=>whnf
   repeat' ((first|exact pru|(refine brS (fun h=>?_) (fun h=>?_)<;>(try rw [h])<;>(try simp only [bS,↓reduceIte] at h))|refine gS ?_|refine aA ?_|refine nA ?_|fail)<;>(conv=>whnf))
   refine A2.by hst ?_
   rintro v s8 ⟨rfl,hb',k0',k1',k2',k3',k4',hP8⟩
   conv=>whnf
   repeat' ((first|exact pru|(refine brS (fun h=>?_) (fun h=>?_)<;>(try rw [h])<;>(try simp only [bS,↓reduceIte] at h))|refine gS ?_|refine aA ?_|refine nA ?_|fail)<;>(conv=>whnf))
   exact ⟨7,eqa,B8,⟨by omega,_,_,_,_,_,hP8⟩,by omega⟩
  ·show awp _ _ _ _ _ (updL _ _ [.int .i64 ((7:Nat):Int)]) _
   have hst:=C6a (Γ:=Γ) c4 h1in m3 m4 hL (hb 7 (by decide)) hP7
   rw [hs 7 (by decide)] at hst
   conv=>whnf
   repeat' ((first|exact pru|(refine brS (fun h=>?_) (fun h=>?_)<;>(try rw [h])<;>(try simp only [bS,↓reduceIte] at h))|refine gS ?_|refine aA ?_|refine nA ?_|fail)<;>(conv=>whnf))
   refine A2.by hst ?_
   rintro v s8 ⟨rfl,hb',k0',k1',k2',k3',k4',hP8⟩
   conv=>whnf
   repeat' ((first|exact pru|(refine brS (fun h=>?_) (fun h=>?_)<;>(try rw [h])<;>(try simp only [bS,↓reduceIte] at h))|refine gS ?_|refine aA ?_|refine nA ?_|fail)<;>(conv=>whnf))
   exact ⟨8,eqa,B8,⟨by omega,_,_,_,_,_,hP8⟩,by omega⟩
  ·show awp _ _ _ _ _ (updL _ _ [.int .i64 ((8:Nat):Int)]) _
   have hst:=C27 (Γ:=Γ) c4 h1in m3 m4 hL (hb 8 (by decide)) w8 hP7
   rw [hs 8 (by decide)] at hst
   conv=>whnf
   repeat' ((first|exact pru|(refine brS (fun h=>?_) (fun h=>?_)<;>(try rw [h])<;>(try simp only [bS,↓reduceIte] at h))|refine gS ?_|refine aA ?_|refine nA ?_|fail)<;>(conv=>whnf))
   refine A2.by hst ?_
   rintro v s8 ⟨rfl,hb',k0',k1',k2',k3',k4',hP8⟩
   conv=>whnf
   repeat' ((first|exact pru|(refine brS (fun h=>?_) (fun h=>?_)<;>(try rw [h])<;>(try simp only [bS,↓reduceIte] at h))|refine gS ?_|refine aA ?_|refine nA ?_|fail)<;>(conv=>whnf))
   exact ⟨9,eqa,B8,⟨by omega,_,_,_,_,_,hP8⟩,by omega⟩
  ·show awp _ _ _ _ _ (updL _ _ [.int .i64 ((9:Nat):Int)]) _
   obtain ⟨hPx,hbx4⟩:=Pst.drop hP7 c4
   obtain ⟨hPy,hbx2⟩:=hback hPx
   rw [hall] at hPy
   simp only [hdA] at hbx4
   conv=>whnf
   repeat' ((first|exact pru|(refine brS (fun h=>?_) (fun h=>?_)<;>(try rw [h])<;>(try simp only [bS,↓reduceIte] at h))|(refine B5 hbx4 ?_)|(refine B5 hbx2 ?_)|(refine B5 A3 ?_)|refine gS ?_|refine aA ?_|refine nA ?_|fail)<;>(conv=>whnf))
   exact ⟨_,Sub.refl _,⟨k0,k1,k2,k3,k4,rfl⟩,hPy.put d2 m1 m2 _ _⟩
theorem C50 {T:Nat→Head × Nat} (hZ:A0j L T) (hE:Nu.A7n Γ) (hT:∀ i,(E5 L i).2.1.length≤5000) (hL:L.length≤66000) (hP:Pst s0 s bp bl L 0 o d 0) :
  A2 Tryz.prog Γ 79 [.ptr (some ⟨bp,0,none⟩)] s fun v s'=>Sub s0 s'∧∃ k0 k1 k2 k3 k4,v=.tuple [.agg (hdT k0 k1 k2 k3 k4 1 (T 9).1 []),.nilIface]:=by
 refine acs Tryz.func79 ?_
 conv=>whnf
 intro b2 hb2
 obtain ⟨m1,m2⟩:=hP.nb hb2
 have d2:s0.bx b2=none:=hP.sub.none hb2
 have hP2:=(hP.box hb2 34 (hdA 1 1 1 1 1 hd0)).keep (T:=34) (cs:=hdA 1 1 1 1 1 hd0) A3 m1 m2
 have hback:∀ {s:Sto} {a:Nat},Pst (s0.set b2 34 (hdA 1 1 1 1 1 hd0)) s bp bl L a o d 0→Pst s0 s bp bl L a o d 0∧s.bx b2=some (34,hdA 1 1 1 1 1 hd0):=fun h=>h.drop d2
 generalize hs1:s0.set b2 34 (hdA 1 1 1 1 1 hd0)=s1 at *
 have hd:=C4r (Γ:=Γ) hZ hE hT hL hP2
 conv=>whnf
 repeat' ((first|exact pru|(refine brS (fun h=>?_) (fun h=>?_)<;>(try rw [h])<;>(try simp only [bS,↓reduceIte] at h))|refine gS ?_|refine aA ?_|refine nA ?_|fail)<;>(conv=>whnf))
 refine A2.by hd ?_
 rintro v s5 ⟨⟨q0,q1,q2,q3,q4,rfl⟩,hP5⟩
 generalize (T 9).1=hdr at *
 conv=>whnf
 repeat' ((first|exact pru|(refine brS (fun h=>?_) (fun h=>?_)<;>(try rw [h])<;>(try simp only [bS,↓reduceIte] at h))|refine gS ?_|refine aA ?_|refine nA ?_|fail)<;>(conv=>whnf))
 intro b4 hb4
 obtain ⟨m3,m4⟩:=hP5.nb hb4
 have c4:=hP5.sub.none hb4
 have hP6:=((hP5.box hb4 34 (hdA 1 1 1 1 1 hd0)).put c4 m3 m4 34 (hdA q0 q1 q2 q3 q4 hdr)).keep (b:=b4) (T:=34) (cs:=hdA q0 q1 q2 q3 q4 hdr) A3 m3 m4
 obtain ⟨hPx,hbx4⟩:=hP6.drop c4
 obtain ⟨hPy,hbx2⟩:=hback hPx
 obtain ⟨t1,t2,hbp,_⟩:=hPy.pr
 have hbl:=hPy.pl
 have htl:=A8j L
 simp only [hdA] at hbx4
 conv=>whnf
 repeat' ((first|exact pru|(refine brS (fun h=>?_) (fun h=>?_)<;>(try rw [h])<;>(try simp only [bS,↓reduceIte] at h))|refine gS ?_|refine aA ?_|refine nA ?_|fail)<;>(conv=>whnf))
 refine AWp.loopA [5] [13,14,15,16,17,18,19,20,21,22,23,24,25,26,27,28,29,30,31,32,34,35,33,36,37,6,7,38,39,40,41,42,43,44] (fun _:Unit=>[.nilIface]) (fun _ s'=>s'=(s5.set b4 34 (hdA 1 1 1 1 1 hd0)).set b4 34 (hdA q0 q1 q2 q3 q4 hdr)) (fun _=>0) (()) (by kernel_rfl) (eqa) ?_ ?_
 ·exact rfl
 ·rintro y _ s7 hs7
  subst s7
  show awp _ _ _ _ _ (updL _ _ [.nilIface]) _
  conv=>whnf
  repeat' ((first|exact pru|(refine brS (fun h=>?_) (fun h=>?_)<;>(try rw [h])<;>(try simp only [bS,↓reduceIte] at h))|(refine B5 hbp ?_)|(refine B5 hbl ?_)|(refine B5 hbx4 ?_)|(refine B5 hbx2 ?_)|(refine B5 A3 ?_)|refine gS ?_|refine aA ?_|refine nA ?_|fail)<;>(conv=>whnf))
  exact ⟨_,Sub.refl _,(hPy.put d2 m1 m2 _ _).sub,q0,q1,q2,q3,q4,rfl⟩
theorem C30 {T:Nat→Head × Nat} (hZ:A0j L T) (hE:Nu.A7n Γ) (hT:∀ i,(E5 L i).2.1.length≤5000) (hL:L.length≤66000) (hP:Pst s0 s bp bl L 0 [] [] 0) {bc:Nat} (hb:s0.bx bc=some (34,hdA 1 1 1 1 1 hd0)) :
  A2 Tryz.prog Γ 78 [.ptr (some ⟨bp,0,none⟩),.ptr (some ⟨bc,0,none⟩)] s fun v s'=>v=.nilIface∧X2 (B1 bc) s0 s'∧∃ k0 k1 k2 k3 k4,s'.bx bc=some (34,hdT k0 k1 k2 k3 k4 1 (T 9).1 []):=by
 have hs:=C50 (Γ:=Γ) hZ hE hT hL hP
 refine acs Tryz.func78 ?_
 conv=>whnf
 repeat' ((first|exact pru|(refine brS (fun h=>?_) (fun h=>?_)<;>(try rw [h])<;>(try simp only [bS,↓reduceIte] at h))|(refine A2.by hs ?_;rintro v s1 ⟨hsub,k0,k1,k2,k3,k4,rfl⟩)|refine gS ?_|refine aA ?_|refine nA ?_|fail)<;>(conv=>whnf))
 have hb1:=hsub.bx _ _ hb
 simp only [hdA] at hb1
 generalize (T 9).1=hdr at *
 conv=>whnf
 repeat' ((first|exact pru|(refine brS (fun h=>?_) (fun h=>?_)<;>(try rw [h])<;>(try simp only [bS,↓reduceIte] at h))|(refine B5 hb1 ?_)|refine gS ?_|refine aA ?_|refine nA ?_|fail)<;>(conv=>whnf))
 exact ⟨_,Sub.refl _,rfl,X2.set (B:=B1 bc) (b:=bc) (X2.of_sub hsub) rfl _ _,k0,k1,k2,k3,k4,A3⟩
end
section
variable {s:Sto} {bc:Nat}
theorem C8g {L:List Tok} {T:Nat→Head × Nat} (hZ:A0j L T) (hE:Nu.A7n Γ) (hT:∀ i,(E5 L i).2.1.length≤5000) (hL:L.length≤66000) (S:List UInt8) (hl:A8 Tryz.prog Γ 125 [.str S] fun v=>v=.tuple [.slice 0 (W4 L),.agg [.int .i64 0,.int .i64 0,.int .i64 0]]) (hb:s.bx bc=some (34,hdA 1 1 1 1 1 hd0)) :
  A2 Tryz.prog Γ 77 [.str S,.func (.func 78) [] [.ptr (some ⟨bc,0,none⟩)]] s fun v s'=>v=.agg [.int .i64 0,.int .i64 0,.int .i64 0]∧X2 (B1 bc) s s'∧∃ k0 k1 k2 k3 k4,s'.bx bc=some (34,hdT k0 k1 k2 k3 k4 1 (T 9).1 []):=by
 have hn:A6a Tryz.prog 78=true:=by kernel_rfl
 refine acs Tryz.func77 ?_
 conv=>whnf
 intro b4 hb4
 have m4:bc≠b4:=A1 hb hb4
 conv=>whnf
 repeat' ((first|exact pru|(refine brS (fun h=>?_) (fun h=>?_)<;>(try rw [h])<;>(try simp only [bS,↓reduceIte] at h))|(refine A2.pure' ?_ (hl);rintro _ rfl)|refine A7.pure ?_ (hl)|refine gS ?_|refine aA ?_|refine nA ?_|fail)<;>(conv=>whnf))
 intro b6 hb6
 have n_b4_b6:b4≠b6:=A1 bxa hb6
 have n_b6_b4:=n_b4_b6.symm
 conv=>whnf
 repeat' ((first|exact pru|(refine brS (fun h=>?_) (fun h=>?_)<;>(try rw [h])<;>(try simp only [bS,↓reduceIte] at h))|refine A5 ?_|(refine P9.of A2x A04 ?_)|refine gS ?_|refine aA ?_|refine nA ?_|fail)<;>(conv=>whnf))
 all_goals first|(exfalso;revert h;simp;done)|skip
 have k6:=((Sub.refl s).set hb4 _ _).none hb6
 have m6:bc≠b6:=A1 hb k6
 intro bl hbl
 have n_b4_bl:b4≠bl:=A1 bxa hbl
 have n_bl_b4:=n_b4_bl.symm
 have n_b6_bl:b6≠bl:=A1 bxa hbl
 have n_bl_b6:=n_b6_bl.symm
 have n_bc_bl:bc≠bl:=A1 bxa hbl
 have n_bl_bc:=n_bc_bl.symm
 conv=>whnf
 repeat' ((first|exact pru|(refine brS (fun h=>?_) (fun h=>?_)<;>(try rw [h])<;>(try simp only [bS,↓reduceIte] at h))|refine A5 ?_|refine gS ?_|refine aA ?_|refine nA ?_|fail)<;>(conv=>whnf))
 intro bp hbp
 have n_b4_bp:b4≠bp:=A1 bxa hbp
 have n_bp_b4:=n_b4_bp.symm
 have n_b6_bp:b6≠bp:=A1 bxa hbp
 have n_bp_b6:=n_b6_bp.symm
 have n_bc_bp:bc≠bp:=A1 bxa hbp
 have n_bp_bc:=n_bc_bp.symm
 have n_bl_bp:bl≠bp:=A1 bxa hbp
 have n_bp_bl:=n_bl_bp.symm
 conv=>whnf
 repeat' ((first|exact pru|(refine brS (fun h=>?_) (fun h=>?_)<;>(try rw [h])<;>(try simp only [bS,↓reduceIte] at h))|refine A5 ?_|refine gS ?_|refine aA ?_|refine nA ?_|fail)<;>(conv=>whnf))
 have hsq:Sub s (((s.set b4 66 [.int .i64 0,.int .i64 0,.int .i64 0]).set b6 66 [.int .i64 0,.int .i64 0,.int .i64 0]).set b6 66 [.int .i64 0,.int .i64 0,.int .i64 0]):=(((Sub.refl _).set hb4 _ _).set k6 _ _).set k6 _ _
 have hq4:(((s.set b4 66 [.int .i64 0,.int .i64 0,.int .i64 0]).set b6 66 [.int .i64 0,.int .i64 0,.int .i64 0]).set b6 66 [.int .i64 0,.int .i64 0,.int .i64 0]).bx b4=some (66,[.int .i64 0,.int .i64 0,.int .i64 0]):=bxa
 generalize ((s.set b4 66 [.int .i64 0,.int .i64 0,.int .i64 0]).set b6 66 [.int .i64 0,.int .i64 0,.int .i64 0]).set b6 66 [.int .i64 0,.int .i64 0,.int .i64 0]=sq at *
 have kbp:sq.bx bp=none:=((Sub.refl sq).set hbl _ _).none hbp
 have hP:Pst sq ((sq.set bl 235 [.slice 0 (W4 L),.int .i64 0]).set bp 237 [.ptr (some ⟨bl,0,none⟩),.slice 1 [],.slice 1 [],.int .i64 0]) bp bl L 0 [] [] 0 :=
  ⟨kbp,hbl,n_bp_bl,⟨1,1,A3,Own.start (((Sub.refl _).set hbl _ _).set kbp _ _) _ _,Own.start (((Sub.refl _).set hbl _ _).set kbp _ _) _ _,fun _=>rfl⟩,(A4 n_bl_bp).trans A3⟩
 refine A2.by (C30 hZ hE hT hL hP (hsq.bx _ _ hb)) ?_
 rintro v s5 ⟨rfl,hst,k0,k1,k2,k3,k4,hbc⟩
 have hst2:X2 (B1 bc) s s5:=(X2.of_sub hsq).trans hst
 have h54:=hst.bx b4 _ (fun h=>m4 (Eq.symm h)) hq4
 conv=>whnf
 repeat' ((first|exact pru|(refine brS (fun h=>?_) (fun h=>?_)<;>(try rw [h])<;>(try simp only [bS,↓reduceIte] at h))|refine gS ?_|refine aA ?_|refine nA ?_|fail)<;>(conv=>whnf))
 intro b8 hb8
 have k8:=hst2.none1 hbc hb8
 have n_b4_b8:b4≠b8:=A1 bxa hb8
 have n_b8_b4:=n_b4_b8.symm
 have n_bc_b8:bc≠b8:=A1 bxa hb8
 have n_b8_bc:=n_bc_b8.symm
 conv=>whnf
 repeat' ((first|exact pru|(refine brS (fun h=>?_) (fun h=>?_)<;>(try rw [h])<;>(try simp only [bS,↓reduceIte] at h))|refine A5 ?_|(refine A2.pure' ?_ (AsP.W0 _);rintro _ rfl)|refine A7.pure ?_ (AsP.W0 _)|refine gS ?_|refine aA ?_|refine nA ?_|fail)<;>(conv=>whnf))
 exact ⟨_,Sub.refl _,rfl,(hst2.fresh k8 _ _).fresh hb4 _ _,k0,k1,k2,k3,k4,bxa⟩
end
theorem C2m {L:List Tok} {T:Nat→Head × Nat} (hZ:A0j L T) (hE:Nu.A7n Γ) (hT:∀ i,(E5 L i).2.1.length≤5000) (hL:L.length≤66000) (S:List UInt8) (hl:A8 Tryz.prog Γ 125 [.str S] fun v=>v=.tuple [.slice 0 (W4 L),.agg [.int .i64 0,.int .i64 0,.int .i64 0]]) :
  A8 Tryz.prog Γ 24 [.str S] fun v=>v=.tuple [.agg (Tr.trA (fun _=>0) (trN (T 9).1 [])),.agg [.int .i64 0,.int .i64 0,.int .i64 0]]:=by
 have hrun:=fun {s:Sto} {bc:Nat} (hb:s.bx bc=some (34,hdA 1 1 1 1 1 hd0))=>C8g (Γ:=Γ) hZ hE hT hL S hl hb
 refine A8.fgt fun s=>?_
 refine acs Tryz.func24 ?_
 conv=>whnf
 intro b2 hb2
 conv=>whnf
 intro b3 hb3
 have n_b2_b3:b2≠b3:=A1 bxa hb3
 have n_b3_b2:=n_b2_b3.symm
 conv=>whnf
 have k3:=((Sub.refl s).set hb2 34 (hdA 1 1 1 1 1 hd0)).none hb3
 repeat' ((first|exact pru|(refine brS (fun h=>?_) (fun h=>?_)<;>(try rw [h])<;>(try simp only [bS,↓reduceIte] at h))|refine gS ?_|refine aA ?_|refine nA ?_|fail)<;>(conv=>whnf))
 intro b4 hb4
 have n_b2_b4:b2≠b4:=A1 bxa hb4
 have n_b4_b2:=n_b2_b4.symm
 have n_b3_b4:b3≠b4:=A1 bxa hb4
 have n_b4_b3:=n_b3_b4.symm
 conv=>whnf
 have k4:=(((Sub.refl s).set hb2 34 (hdA 1 1 1 1 1 hd0)).set k3 66 [.int .i64 0,.int .i64 0,.int .i64 0]).none hb4
 repeat' ((first|exact pru|(refine brS (fun h=>?_) (fun h=>?_)<;>(try rw [h])<;>(try simp only [bS,↓reduceIte] at h))|(refine A2.by (hrun A3) ?_;rintro v s1 ⟨rfl,hst,k0,k1,kk2,kk3,kk4,hbc⟩)|refine gS ?_|refine aA ?_|refine nA ?_|fail)<;>(conv=>whnf))
 have h12:=hst.bx b2 _ (fun h=>n_b2_b4 h) bxa
 have h13:=hst.bx b3 _ (fun h=>n_b3_b4 h) bxa
 have hb41:∀ s0,Sub s0 s→s0.bx b4=none→s0.bx b3=none→s0.bx b2=none→Sub s0 s1:=fun s0 h1 h2 h3 h4=>hst.sub s0 (((h1.set h4 _ _).set h3 _ _).set h2 _ _) (fun c hc=>by rw [show c=b4 from hc];exact h2)
 generalize (T 9).1=hdr at *
 simp only [hdT] at hbc
 conv=>whnf
 repeat' ((first|exact pru|(refine brS (fun h=>?_) (fun h=>?_)<;>(try rw [h])<;>(try simp only [bS,↓reduceIte] at h))|refine gS ?_|refine aA ?_|refine nA ?_|fail)<;>(conv=>whnf))
 intro b5 hb5
 have k5:s.bx b5=none:=(((Sub.refl s).set hb2 _ _ |>.set k3 _ _).set k4 _ _).none (hst.none1 hbc hb5)
 have n_b2_b5:b2≠b5:=A1 bxa hb5
 have n_b5_b2:=n_b2_b5.symm
 have n_b3_b5:b3≠b5:=A1 bxa hb5
 have n_b5_b3:=n_b3_b5.symm
 have n_b4_b5:b4≠b5:=A1 bxa hb5
 have n_b5_b4:=n_b4_b5.symm
 conv=>whnf
 repeat' ((first|exact pru|(refine brS (fun h=>?_) (fun h=>?_)<;>(try rw [h])<;>(try simp only [bS,↓reduceIte] at h))|refine A5 ?_|(refine P9.of A2x A04 ?_)|(refine AWp.anyP (id:=4) [(5,true),(2,false)] (fun k=>cond k b5 b2) [0,1,2,3] n_b5_b2 (by kernel_rfl) (by kernel_rfl) (by kernel_rfl) (by kernel_rfl) ?_)|(refine AWp.anyP (id:=5) [(5,true),(2,false)] (fun k=>cond k b5 b2) [0,1,2,3] n_b5_b2 (by kernel_rfl) (by kernel_rfl) (by kernel_rfl) (by kernel_rfl) ?_)|(refine ⟨(by first|exact trivial|exact .inl ⟨_,rfl,rfl⟩),?_⟩)|refine gS ?_|refine aA ?_|refine nA ?_|fail)<;>(conv=>whnf))
 all_goals first|(exfalso;revert h;simp;done)|skip
 refine ⟨_,Sub.refl _,?_,((((hb41 s (Sub.refl _) k4 k3 hb2).set k5 _ _).set k5 _ _).set hb2 _ _).set k3 _ _⟩
 show fg (.tuple [.agg (hdT k0 k1 kk2 kk3 kk4 1 hdr []),.agg [.int .i64 0,.int .i64 0,.int .i64 0]])=_
 simp only [fg,fgL,C7e]
end Go.Proofs.YtaammejliikieaaGreatDoor.Pa
