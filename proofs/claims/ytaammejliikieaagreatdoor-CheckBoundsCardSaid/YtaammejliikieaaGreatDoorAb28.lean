/- A region of open order in which a load of one's own box stands beside a call that turns other boxes. -/
import Derived.Test.YtaammejliikieaaGreatDoorAb26
set_option maxRecDepth 10000
set_option maxHeartbeats 60000000
set_option linter.all false
namespace Go.Ab
open Go
def D1q (B:List (Nat × Bool)) (o:Oper):Bool:=o.guard.isNone && (match o.op with|.load _ (.tmp t)=>(match B.lookup t,B.lookup (t+100000) with|some true,none=>true|_,_=>false)|_=>false)
def B0y (C W:List Nat) (B:List (Nat × Bool)) (ops:Array Oper) (o1 o2:Oper):Bool :=
 (A1e ops o1 o2 && D1q B o1 && (cls o1.op == 0) && !dIn W o1.dst && !dIn C o1.dst && dIn W o2.dst && A4n o2.op) || A5l C W B ops o1 o2
section
variable {P:Program} {Γ:Nat→AV}
def TrH (P:Program) (Γ:Nat→AV) (C W:List Nat) (B:List (Nat × Bool)) (c:Bool→Nat) (ops:Array Oper) (o:Oper) (e:Env) (s:Sto) (K:AV→Sto→Prop):Prop :=
 match dIn W o.dst with
 | true=>N3 ops e o.guard (D2 P Γ (evA Γ e) s o.op fun v s'=>s'.bx (c true)=s.bx (c true)∧K v s') (K undefA s)
 | false=>(match dIn C o.dst with
  | true=>o.guard=none∧X7 P Γ (B7w C o.dst) (evA Γ e) s o.op K
  | false=>Tr P Γ ops o e s K)
def B2h (P:Program) (Γ:Nat→AV) (C W:List Nat) (B:List (Nat × Bool)) (c:Bool→Nat) (ops:Array Oper):List Oper→Env→Sto→(Env→Sto→Prop)→Prop
 | [],e,s,K=>K e s
 | o::l,e,s,K=>S8 B c o e∧TrH P Γ C W B c ops o e s fun v s'=>B2h P Γ C W B c ops l (D7 e o.dst v) s' K
theorem A9v {C W:List Nat} {B:List (Nat × Bool)} {c:Bool→Nat} {ops:Array Oper} {o:Oper} {e:Env} {s:Sto} {K K':AV→Sto→Prop} (h:TrH P Γ C W B c ops o e s K) (hk:∀ v s,K v s→K' v s):TrH P Γ C W B c ops o e s K':=by
 unfold TrH at *
 split at h
 ·exact F9 h (fun h=>W7 h fun v s' h=>⟨h.1,hk v s' h.2⟩) (hk _ _)
 ·split at h
  ·exact ⟨h.1,A2p h.2 hk⟩
  ·exact A0l h hk
theorem C3p {C W:List Nat} {B:List (Nat × Bool)} {c:Bool→Nat} {ops:Array Oper} {o:Oper} {e:Env} {s:Sto} {K:AV→Sto→Prop} (h:TrH P Γ C W B c ops o e s K):N3 ops e o.guard (D2 P Γ (evA Γ e) s o.op K) (K undefA s):=by
 unfold TrH at h
 split at h
 ·exact F9 h (fun h=>W7 h fun _ _ h=>h.2) fun h=>h
 ·split at h
  ·rw [h.1];exact A8s h.2
  ·exact F9 h A3l fun h=>h
theorem B90 {C W:List Nat} {B:List (Nat × Bool)} {c:Bool→Nat} {ops:Array Oper} {o:Oper} {e:Env} {s:Sto} {K:AV→Sto→Prop} (hw:dIn W o.dst=false) (hc:dIn C o.dst=true∨cls o.op=0) (h:TrH P Γ C W B c ops o e s K) :
  ∃ v,K v s∧∀ e',J6 ops o e e'→∀ K':AV→Sto→Prop,K' v s→TrH P Γ C W B c ops o e' s K':=by
 unfold TrH at h ⊢
 rw [hw] at h ⊢
 dsimp only at h ⊢
 cases hC:dIn C o.dst with
 | true =>
  rw [hC] at h
  dsimp only at h ⊢
  obtain ⟨v,h1,h2⟩:=B22 h.2
  exact ⟨v,h1,fun e' ha K' hk=>⟨h.1,h2 _ (S4 ha) K' hk⟩⟩
 | false =>
  rw [hC] at h
  dsimp only at h ⊢
  have hc:cls o.op=0:=hc.resolve_left (by rw [hC];decide)
  obtain ⟨v,h1,h2,_⟩:=A2j hc h
  exact ⟨v,h1,fun e' ha K' hk=>(h2.move hc ha (Sub.refl s).bx rfl).use hk⟩
theorem B53 {C W:List Nat} {B:List (Nat × Bool)} {c:Bool→Nat} {ops:Array Oper} {o:Oper} (h:A3v o=true) (hc:dIn C o.dst=false):∃ x ∈ o.op.operands.toList,∀ e s (K:AV→Sto→Prop),TrH P Γ C W B c ops o e s K↔K (evA Γ e x) s:=by
 unfold A3v at h
 rw [Bool.and_eq_true] at h
 obtain ⟨hg,h⟩:=h
 have hg:=Option.isNone_iff_eq_none.1 hg
 obtain ⟨x,hx⟩:∃ x,o.op=.move x:=by
  revert h
  cases o.op<;>intro h<;>first|exact ⟨_,rfl⟩|cases h
 refine ⟨x,by rw [hx];simp [Op.operands],fun e s K=>?_⟩
 unfold TrH
 rw [hc]
 cases dIn W o.dst
 ·show Tr P Γ ops o e s K↔_
  unfold Tr
  rw [hg,hx]
  show frc (evA Γ e x) (fun v=>K v s)↔_
  rw [F8]
 ·show N3 ops e o.guard (D2 P Γ (evA Γ e) s o.op fun v s'=>s'.bx (c true)=s.bx (c true)∧K v s') (K undefA s)↔_
  rw [hg,hx]
  show frc (evA Γ e x) (fun v=>s.bx (c true)=s.bx (c true)∧K v s)↔_
  rw [F8]
  exact ⟨fun h=>h.2,fun h=>⟨rfl,h⟩⟩
theorem A7p {C W:List Nat} {B:List (Nat × Bool)} {c:Bool→Nat} {ops:Array Oper} {o:Oper} {e e':Env} {s:Sto} {K:AV→Sto→Prop} (hw:dIn W o.dst=true) (hv:A4n o.op=true) (ha:J6 ops o e e') (h:TrH P Γ C W B c ops o e s K):TrH P Γ C W B c ops o e' s K:=by
 unfold TrH at h ⊢
 rw [hw] at h ⊢
 dsimp only at h ⊢
 refine A0e (fun j w d hg hd=>ha d ?_) (F9 h (fun h=>A99 hv (S4 ha) h) fun h=>h)
 simp only [N7,List.mem_append]
 right
 rw [hg]
 simp [hd]
theorem C07 {C W:List Nat} {B:List (Nat × Bool)} {c:Bool→Nat} {ops:Array Oper} {o:Oper} {e:Env} {s:Sto} {K K':AV→Sto→Prop} (hw:dIn W o.dst=true) (h:TrH P Γ C W B c ops o e s K) (hk:∀ v s',s'.bx (c true)=s.bx (c true)→K v s'→K' v s'):TrH P Γ C W B c ops o e s K':=by
 unfold TrH at *
 rw [hw] at h ⊢
 dsimp only at h ⊢
 exact F9 h (fun h=>W7 h fun v s' h=>⟨h.1,hk v s' h.1 h.2⟩) (hk _ _ rfl)
theorem D15 {C W:List Nat} {B:List (Nat × Bool)} {c:Bool→Nat} (hc:c true≠c false) {ops:Array Oper} {o1 o2:Oper} (hi:B0y C W B ops o1 o2=true) {e:Env} {s:Sto} {K:Env→Sto→Prop}
  (h:S8 B c o1 e∧TrH P Γ C W B c ops o1 e s fun v1 s1=>S8 B c o2 (D7 e o1.dst v1)∧TrH P Γ C W B c ops o2 (D7 e o1.dst v1) s1 fun v2 s2=>K (D7 (D7 e o1.dst v1) o2.dst v2) s2) :
  S8 B c o2 e∧TrH P Γ C W B c ops o2 e s fun v2 s2=>S8 B c o1 (D7 e o2.dst v2)∧TrH P Γ C W B c ops o1 (D7 e o2.dst v2) s2 fun v1 s1=>K (D7 (D7 e o2.dst v2) o1.dst v1) s1:=by
 unfold B0y at hi
 rw [Bool.or_eq_true] at hi
 rcases hi with hi|hi
 ·simp only [Bool.and_eq_true,Bool.not_eq_true',beq_iff_eq] at hi
  obtain ⟨⟨⟨⟨⟨⟨hd,hl⟩,hc0⟩,hw1⟩,hC1⟩,hw2⟩,hv2⟩:=hi
  unfold A1e at hd
  simp only [Bool.and_eq_true] at hd
  obtain ⟨⟨i1,i2⟩,i3⟩:=hd
  obtain ⟨w1,h⟩:=h
  have e1:∀ e s (K:AV→Sto→Prop),TrH P Γ C W B c ops o1 e s K=Tr P Γ ops o1 e s K:=fun e s K=>by unfold TrH;rw [hw1,hC1]
  rw [e1] at h
  obtain ⟨v1,⟨w2,h1⟩,h2,_⟩:=A2j hc0 h
  have a1:∀ v,J6 ops o2 (D7 e o1.dst v) e:=fun v=>L7 (F6 i1 e v)
  have a2:∀ v,J6 ops o1 e (D7 e o2.dst v):=fun v=>F6 i2 e v
  refine ⟨w2.agree (a1 v1),C07 hw2 (A7p hw2 hv2 (a1 v1) h1) fun v2 s2 hfr hk=>⟨w1.agree (a2 v2),?_⟩⟩
  rw [e1]
  unfold D1q at hl
  rw [Bool.and_eq_true] at hl
  obtain ⟨g1,hl⟩:=hl
  have g1:=Option.isNone_iff_eq_none.1 g1
  have step:∀ (o:Oper) (hg:o.guard=none) (e':Env) (s':Sto) (K':AV→Sto→Prop),Tr P Γ ops o e' s' K'↔C9 P Γ (evA Γ e') s' o.op K':=fun o hg e' s' K'=>by unfold Tr;rw [hg];exact Iff.rfl
  unfold A2f at h2
  rw [step o1 g1] at h2
  obtain ⟨T1,t1,e2,hB,hB2⟩:∃ T t,o1.op=.load T (.tmp t)∧B.lookup t=some true∧B.lookup (t+100000)=none:=by
   revert hl
   cases o1.op<;>intro hl<;>try cases hl
   rename_i T x
   cases x<;>try cases hl
   rename_i t
   refine ⟨T,t,rfl,?_⟩
   revert hl
   dsimp only
   cases B.lookup t with
   | none=>intro hl;cases hl
   | some z =>
    cases B.lookup (t+100000) with
    | none=>cases z<;>intro hl<;>first|exact ⟨rfl,rfl⟩|cases hl
    | some y=>cases z<;>intro hl<;>cases hl
  have ha1:A3i o1.op=some t1:=by rw [e2];rfl
  have w1':=w1
  unfold S8 at w1'
  rw [ha1] at w1'
  dsimp only at w1'
  rw [hB] at w1'
  dsimp only at w1'
  rw [e2] at h2
  have h3:A2f P Γ ops o1 e s2 v1:=by
   unfold A2f
   rw [step o1 g1,e2]
   rcases w1' with ⟨q1,hq1,hk1⟩|⟨_,cs1,hq1⟩|⟨_,hB3,_⟩
   ·exact B89 hq1 (by rw [hk1];exact hfr) h2
   ·exact C0k hq1 h2
   ·rw [hB2] at hB3;cases hB3
  refine (h3.move hc0 (a2 v2) (Sub.refl s2).bx rfl).use ?_
  rw [← G4 i3];exact hk
 unfold A5l at hi
 simp only [Bool.and_eq_true,Bool.not_eq_true',Bool.or_eq_true] at hi
 rcases hi with ⟨hd,hi⟩|hi
 ·unfold A1e at hd
  simp only [Bool.and_eq_true] at hd
  obtain ⟨⟨i1,i2⟩,i3⟩:=hd
  obtain ⟨w1,h⟩:=h
  rcases hi with ⟨⟨⟨hm,hc1⟩,hw2⟩,hv2⟩|⟨⟨⟨hm,hc2⟩,hw1⟩,hv1⟩
  ·obtain ⟨x,hx,hmv⟩:=B53 (P:=P) (Γ:=Γ) (W:=W) (ops:=ops) hm hc1
   obtain ⟨w2,h⟩:=(hmv _ _ _).1 h
   have a1:J6 ops o2 (D7 e o1.dst (evA Γ e x)) e:=L7 (F6 i1 e _)
   refine ⟨w2.agree a1,A9v (A7p hw2 hv2 a1 h) fun v2 s2 hk=>?_⟩
   have a2:J6 ops o1 e (D7 e o2.dst v2):=F6 i2 e v2
   refine ⟨w1.agree a2,(hmv _ _ _).2 ?_⟩
   rw [← S4 (Γ:=Γ) a2 x hx,← G4 i3];exact hk
  ·obtain ⟨x,hx,hmv⟩:=B53 (P:=P) (Γ:=Γ) (W:=W) (ops:=ops) hm hc2
   have hno:S8 B c o2 e:=by
    unfold S8
    rw [B57 hm]
    trivial
   refine ⟨hno,(hmv _ _ _).2 ?_⟩
   have a2:J6 ops o1 e (D7 e o2.dst (evA Γ e x)):=F6 i2 e _
   refine ⟨w1.agree a2,A9v (A7p hw1 hv1 a2 h) fun v1 s1 hk=>?_⟩
   have hk:=(hmv _ _ _).1 hk.2
   have a1:J6 ops o2 (D7 e o1.dst v1) e:=L7 (F6 i1 e v1)
   rw [S4 (Γ:=Γ) a1 x hx] at hk
   rw [← G4 i3];exact hk
 obtain ⟨⟨hw1,hw2⟩,hi⟩:=hi
 have calm:A1e ops o1 o2=true→(dIn C o1.dst=true∨cls o1.op=0)→(dIn C o2.dst=true∨cls o2.op=0)→S8 B c o2 e∧TrH P Γ C W B c ops o2 e s fun v2 s2=>S8 B c o1 (D7 e o2.dst v2)∧TrH P Γ C W B c ops o1 (D7 e o2.dst v2) s2 fun v1 s1=>K (D7 (D7 e o2.dst v2) o1.dst v1) s1:=by
  intro hd d1 d2
  unfold A1e at hd
  simp only [Bool.and_eq_true] at hd
  obtain ⟨⟨i1,i2⟩,i3⟩:=hd
  obtain ⟨w1,h⟩:=h
  obtain ⟨v1,⟨w2,h1⟩,r1⟩:=B90 hw1 d1 h
  obtain ⟨v2,h2,r2⟩:=B90 hw2 d2 h1
  have a1:J6 ops o2 (D7 e o1.dst v1) e:=L7 (F6 i1 e v1)
  have a2:J6 ops o1 e (D7 e o2.dst v2):=F6 i2 e v2
  refine ⟨w2.agree a1,r2 _ a1 _ ⟨w1.agree a2,r1 _ a2 _ ?_⟩⟩
  rw [← G4 i3];exact h2
 cases hC1:dIn C o1.dst<;>cases hC2:dIn C o2.dst<;>rw [hC1,hC2] at hi
 ·dsimp only at hi
  have e1:∀ e s (K:AV→Sto→Prop),TrH P Γ C W B c ops o1 e s K=Tr P Γ ops o1 e s K:=fun e s K=>by unfold TrH;rw [hw1,hC1]
  have e2:∀ e s (K:AV→Sto→Prop),TrH P Γ C W B c ops o2 e s K=Tr P Γ ops o2 e s K:=fun e s K=>by unfold TrH;rw [hw2,hC2]
  simp only [e1,e2] at h ⊢
  exact C85 hc hi h
 ·simp only [Bool.and_eq_true,beq_iff_eq] at hi
  exact calm hi.1 (.inr hi.2) (.inl hC2)
 ·simp only [Bool.and_eq_true,Bool.or_eq_true,beq_iff_eq] at hi
  obtain ⟨hd,hi|⟨⟨hst,hc2⟩,hg2⟩⟩:=hi
  ·exact calm hd (.inl hC1) (.inr hi)
  ·have hg2:=Option.isNone_iff_eq_none.1 hg2
   unfold A1e at hd
   simp only [Bool.and_eq_true] at hd
   obtain ⟨⟨i1,i2⟩,i3⟩:=hd
   have e1:∀ e s (K:AV→Sto→Prop),TrH P Γ C W B c ops o1 e s K=(o1.guard=none∧X7 P Γ true (evA Γ e) s o1.op K):=fun e s K=>by unfold TrH;rw [hw1,hC1,hst]
   have e2:∀ e s (K:AV→Sto→Prop),TrH P Γ C W B c ops o2 e s K=Tr P Γ ops o2 e s K:=fun e s K=>by unfold TrH;rw [hw2,hC2]
   simp only [e1,e2] at h ⊢
   obtain ⟨w1,hg1,h⟩:=h
   obtain ⟨v1,⟨w2,h1⟩,hmv⟩:=A98 h
   have a1:J6 ops o2 (D7 e o1.dst v1) e:=L7 (F6 i1 e v1)
   have a2:∀ v,J6 ops o1 e (D7 e o2.dst v):=fun v=>F6 i2 e v
   refine ⟨w2.agree a1,?_⟩
   have h1:=V9 (by rw [hc2];decide) a1 h1
   unfold Tr at h1 ⊢
   rw [hg2] at h1 ⊢
   simp only [N3] at h1 ⊢
   obtain ⟨p,mk,T,cs,hn⟩:=A1h (P:=P) (Γ:=Γ) (ev:=evA Γ e) hc2
   rw [hn] at h1 ⊢
   refine ⟨h1.1,fun b hb=>⟨w1.agree (a2 _),hg1,hmv _ (S4 (a2 _)) _ _ (.box .refl hb) ?_⟩⟩
   rw [← G4 i3];exact h1.2 b hb
 ·exact calm hi (.inl hC1) (.inl hC2)
def okQ (C W:List Nat) (B:List (Nat × Bool)) (ops:Array Oper):List Nat→List Nat→Bool
 | _,[]=>true
 | ahead,i::rest=>(match ops[i]? with
  | none=>false
  | some o=>o.after.toList.all (fun e=>!Region.binds .any e || ahead.elem e.on) &&
    ahead.all (fun j=>o.after.toList.any (fun e=>Region.binds .any e && e.on == j) || (match ops[j]? with|some o'=>B0y C W B ops o' o|none=>false) || A5a ops 30 j i)) && okQ C W B ops (ahead++[i]) rest
theorem B5e {C W:List Nat} {B:List (Nat × Bool)} {ops:Array Oper} {i:Nat} {R:List Nat}:∀ {A ahead:List Nat},okQ C W B ops ahead (A++i::R)=true →
  ∃ o,ops[i]?=some o∧(∀ e ∈ o.after.toList,Region.binds .any e=true→e.on ∈ ahead++A) ∧
   ∀ j ∈ ahead++A,(∃ e ∈ o.after.toList,Region.binds .any e=true∧e.on=j)∨(∃ o',ops[j]?=some o'∧B0y C W B ops o' o=true)∨A5a ops 30 j i=true
 | [],ahead,h=>by
  simp only [List.nil_append,okQ,Bool.and_eq_true] at h
  obtain ⟨h,_⟩:=h
  cases ho:ops[i]? with
  | none=>rw [ho] at h;cases h
  | some o =>
   rw [ho] at h
   simp only [Bool.and_eq_true] at h
   refine ⟨o,rfl,fun e he hb=>?_,fun j hj=>?_⟩
   ·have:=List.all_eq_true.1 h.1 e he
    rw [hb] at this
    simpa using this
   ·rw [List.append_nil] at hj
    have:=List.all_eq_true.1 h.2 j hj
    simp only [Bool.or_eq_true] at this
    rcases this with (h1|h1)|h1
    ·obtain ⟨e,he,h2⟩:=List.any_eq_true.1 h1
     simp only [Bool.and_eq_true,beq_iff_eq] at h2
     exact .inl ⟨e,he,h2⟩
    ·cases ho':ops[j]? with
     | none=>rw [ho'] at h1;cases h1
     | some o'=>rw [ho'] at h1;exact .inr (.inl ⟨o',rfl,h1⟩)
    ·exact .inr (.inr h1)
 | x::A,ahead,h=>by
  simp only [List.cons_append,okQ,Bool.and_eq_true] at h
  obtain ⟨o,h1,h2,h3⟩:=B5e h.2
  have he:ahead++[x]++A=ahead++x::A:=by simp
  rw [he] at h2 h3
  exact ⟨o,h1,h2,h3⟩
theorem C4o {C W:List Nat} {B:List (Nat × Bool)} {c:Bool→Nat} (hc:c true≠c false) {ops:Array Oper} {o:Oper}:∀ {L1 L2:List Oper} {e:Env} {s:Sto} {K:Env→Sto→Prop},(∀ x ∈ L1,B0y C W B ops x o=true) →
  B2h P Γ C W B c ops (L1++o::L2) e s K→S8 B c o e∧TrH P Γ C W B c ops o e s fun v s'=>B2h P Γ C W B c ops (L1++L2) (D7 e o.dst v) s' K
 | [],_,_,_,_,_,h=>h
 | x::L1,L2,e,s,K,hx,h=>by
  have h':S8 B c x e∧TrH P Γ C W B c ops x e s fun v1 s1=>S8 B c o (D7 e x.dst v1)∧TrH P Γ C W B c ops o (D7 e x.dst v1) s1 fun v2 s2=>B2h P Γ C W B c ops (L1++L2) (D7 (D7 e x.dst v1) o.dst v2) s2 K :=
   ⟨h.1,A9v h.2 fun v s' h=>C4o hc (fun y hy=>hx y (List.mem_cons_of_mem _ hy)) h⟩
  exact D15 (K:=fun e s=>B2h P Γ C W B c ops (L1++L2) e s K) hc (hx x (by simp)) h'
theorem C5m {C W:List Nat} {B:List (Nat × Bool)} {ops:Array Oper} {perm:List Nat} (hd:okQ C W B ops [] perm=true) {listed:Array Bool} (hs:listed.size=ops.size) (h:Region.ready .any ops listed=[]):A06 perm listed=[]:=by
 have key:∀ (R A:List Nat),perm=A++R→(∀ j ∈ A,listed.getD j false=true)→∀ j ∈ R,listed.getD j false=true:=by
  intro R
  induction R with
  | nil=>intro A _ _ j hj;cases hj
  | cons i R ih =>
   intro A hA hl
   have hi:listed.getD i false=true:=by
    obtain ⟨o,ho,hedge,_⟩:=B5e (hA ▸ hd)
    have hlt:i < ops.size:=(Array.getElem?_eq_some_iff.1 ho).1
    cases hq:listed.getD i false with
    | true=>rfl
    | false =>
     have:i ∈ Region.ready .any ops listed:=by
      unfold Region.ready
      refine List.mem_filter.2 ⟨List.mem_range.2 hlt,?_⟩
      have hq':listed.getD i true=false:=by
       have hlt':i < listed.size:=by omega
       simpa [Array.getD,hlt'] using hq
      rw [hq',ho]
      simp only [Option.map_some,Option.getD_some,Bool.not_false,Bool.true_and]
      refine Array.all_eq_true_iff_forall_mem.2 fun e he=>?_
      cases hb:Region.binds .any e with
      | false=>rfl
      | true =>
       have hon:=hedge e (by simpa using he) hb
       rw [hl e.on (by simpa using hon)]
       rfl
     rw [h] at this
     cases this
   intro j hj
   rcases List.mem_cons.1 hj with rfl|hj
   ·exact hi
   ·exact ih (A++[i]) (by rw [hA];simp) (fun k hk=>by
     rcases List.mem_append.1 hk with hk|hk
     ·exact hl k hk
     ·rw [List.mem_singleton] at hk;subst hk;exact hi) j hj
 refine List.eq_nil_iff_forall_not_mem.2 fun i hi=>?_
 obtain ⟨hm,hp⟩:=List.mem_filter.1 hi
 have:=key perm [] rfl (fun _ h=>by cases h) i hm
 simp only [Array.getD_eq_getD_getElem?] at this hp
 cases hg:listed[i]? with
 | none=>rw [hg] at this;cases this
 | some b=>rw [hg] at this hp;cases b<;>simp_all
variable {n:Nat}
theorem C6z {C W:List Nat} {B:List (Nat × Bool)} {c:Bool→Nat} (hc:c true≠c false) {ops:Array Oper} {perm:List Nat} {Q:Exit→Env→Sto→Prop} {G0:Gh} {w0:World} (hok:ops.toList.all (A1b n)=true) (hd:okQ C W B ops [] perm=true)
  (hnd:perm.Nodup) (hall:∀ i < ops.size,i ∈ perm) :
  ∀ (fuel:Nat) (listed:Array Bool) {G:Gh} {w:World} {a:Act} {e:Env} {s:Sto},A5c ops listed→listed.size=ops.size→(A06 perm listed).length≤fuel →
   Ext G0 w0 G w→Mod Γ G s w→Y6 G w n e a→B2h P Γ C W B c ops (A4z ops perm listed) e s (fun e' s'=>Q .normal e' s')→wpAny P .any ops (A5b Γ n G0 w0 Q) fuel listed a w:=by
 have memP:∀ {listed:Array Bool} {i:Nat},i ∈ A22 ops.size listed→i < ops.size∧i ∈ A06 perm listed:=fun hi=>by
  obtain ⟨h1,h2⟩:=List.mem_filter.1 hi
  exact ⟨List.mem_range.1 h1,List.mem_filter.2 ⟨hall _ (List.mem_range.1 h1),h2⟩⟩
 intro fuel
 induction fuel with
 | zero =>
  intro listed G w a e s hcl hs hf X hm he h
  have hr:A06 perm listed=[]:=List.eq_nil_of_length_eq_zero (by omega)
  refine ⟨List.eq_nil_iff_forall_not_mem.2 fun i hi=>?_,?_⟩
  ·have:=(memP (A0v hi).1).2;rw [hr] at this;cases this
  ·unfold A4z at h;rw [hr] at h
   exact ⟨e,s,G,h,hm,he,X⟩
 | succ fuel ih =>
  intro listed G w a e s hcl hs hf X hm he h
  refine ⟨fun hnil=>?_,fun i hi=>?_⟩
  ·unfold A4z at h;rw [C5m hd hs hnil] at h
   exact ⟨e,s,G,h,hm,he,X⟩
  ·obtain ⟨hi0,o,ho,hedge⟩:=A0v hi
   obtain ⟨hlt,hi1⟩:=memP hi0
   obtain ⟨A,R9,L1,L2,hAR,h1,h2,h3⟩:=B1j hs hlt hnd hi1
   have hO:A4z ops perm listed=L1.filterMap (ops[·]?)++o::L2.filterMap (ops[·]?):=by
    unfold A4z;rw [h1,List.filterMap_append,List.filterMap_cons,ho]
   have hO':A4z ops perm (listed.setIfInBounds i true)=L1.filterMap (ops[·]?)++L2.filterMap (ops[·]?):=by
    unfold A4z;rw [h2,List.filterMap_append]
   rw [hO] at h
   obtain ⟨o9,ho9,_,hat⟩:=B5e (hAR ▸ hd)
   rw [ho] at ho9;injection ho9 with ho9;subst ho9
   have hfront:=(C4o (P:=P) (Γ:=Γ) hc (ops:=ops) (o:=o) (fun x hx=>by
    obtain ⟨j,hj,hjx⟩:=List.mem_filterMap.1 hx
    have hjl:j < ops.size:=(Array.getElem?_eq_some_iff.1 hjx).1
    have hjm:j ∈ A06 perm listed:=by rw [h1];exact List.mem_append_left _ hj
    rcases hat j (by simpa using h3 j hj) with ⟨e,he,hb,hej⟩|⟨o',ho',hi'⟩|hre
    ·have h5:=hedge e he hb
     rw [hej,A1m hs hjl hjm] at h5
     cases h5
    ·rw [ho'] at hjx;injection hjx with hjx;rw [← hjx];exact hi'
    ·have h5:=A0n hcl 30 i o ho hedge hre
     rw [A1m hs hjl hjm] at h5
     cases h5) h).2
   have hcl':A5c ops (listed.setIfInBounds i true):=fun p o' ho' hl e he hb=>by
    rcases A3t hl with rfl|hl
    ·rw [ho] at ho';injection ho' with ho';subst ho'
     exact A14 (hedge e he hb)
    ·exact A14 (hcl p o' ho' hl e he hb)
   have hoo:A1b n o=true:=List.all_eq_true.1 hok o (by
    obtain ⟨hlt,rfl⟩:=Array.getElem?_eq_some_iff.1 ho
    exact Array.getElem_mem_toList hlt)
   have hlen:(A06 perm (listed.setIfInBounds i true)).length≤fuel:=by
    rw [h1] at hf;rw [h2];simp only [List.length_append,List.length_cons] at hf ⊢;omega
   have next:∀ {v:Value} {r:AV} {s':Sto} {G':Gh} {w':World},B2h P Γ C W B c ops (L1.filterMap (ops[·]?)++L2.filterMap (ops[·]?)) (D7 e o.dst r) s' (fun e' s'=>Q .normal e' s') →
     R G' w' r v→Mod Γ G' s' w'→Ext G w G' w'→wpAny P .any ops (A5b Γ n G0 w0 Q) fuel (listed.setIfInBounds i true) (a.put o.dst v) w':=by
    intro v r s' G' w' hK hR hm' X'
    refine ih _ hcl' (by simp [hs]) hlen (X.trans X') hm' ((he.mono X').put (A16 hoo) hR) ?_
    rw [hO'];exact hK
   unfold wpOp
   rw [ho]
   dsimp only
   rcases A4v he (C3p hfront) (B4k hok) with ⟨hw,h⟩|⟨hw,h⟩
   ·rw [if_pos hw]
    refine .inl (A56 hm he (A67 hoo) h ?_)
    intro v r s' G' w' hK hR hm' X'
    exact next hK hR hm' X'
   ·rw [if_neg (by rw [hw];simp)]
    exact next h A2i hm (Ext.refl _ _)
def D02 (P:Program) (Γ:Nat→AV) (C W:List Nat) (B:List (Nat × Bool)) (c:Bool→Nat) (ops:Array Oper) (o:Oper) (e:Env) (s:Sto) (K:AV→Sto→Prop) (N:Prop):Prop :=
 match dIn W o.dst with
 | true=>N3 ops e o.guard (D2 P Γ (evA Γ e) s o.op fun v s'=>s'.bx (c true)=s.bx (c true)∧K v s') N
 | false=>(match dIn C o.dst with
  | true=>o.guard=none∧X7 P Γ (B7w C o.dst) (evA Γ e) s o.op K
  | false=>N3 ops e o.guard (C9 P Γ (evA Γ e) s o.op K) N)
def D1y (P:Program) (Γ:Nat→AV) (C W:List Nat) (B:List (Nat × Bool)) (c:Bool→Nat) (ops:Array Oper) (o:Oper) (_:List Oper) (rest:Env→Sto→(Env→Sto→Prop)→Prop) (e:Env) (s:Sto) (K:Env→Sto→Prop):Prop :=
 S8 B c o e∧D02 P Γ C W B c ops o e s (fun v s'=>frc v fun v'=>A5t o.dst e v' fun e'=>rest e' s' K) (A5t o.dst e undefA fun e'=>rest e' s K)
def B6c (P:Program) (Γ:Nat→AV) (C W:List Nat) (B:List (Nat × Bool)) (c:Bool→Nat) (ops:Array Oper) (l:List Oper):Env→Sto→(Env→Sto→Prop)→Prop :=
 List.rec (motive:=fun _=>Env→Sto→(Env→Sto→Prop)→Prop) C7c (D1y P Γ C W B c ops) l
theorem B4n {C W:List Nat} {B:List (Nat × Bool)} {c:Bool→Nat} {ops:Array Oper}:∀ (l:List Oper) {e:Env} {s:Sto} {K:Env→Sto→Prop},B6c P Γ C W B c ops l e s K→B2h P Γ C W B c ops l e s K
 | [],_,_,_,h=>h
 | o::l,e,s,K,h=>by
  refine ⟨h.1,?_⟩
  have h2:=h.2
  unfold D02 at h2
  unfold TrH
  have y:∀ v s',(frc v fun v'=>A5t o.dst e v' fun e'=>B6c P Γ C W B c ops l e' s' K)→B2h P Γ C W B c ops l (D7 e o.dst v) s' K:=fun v s' h=>by
   rw [F8,A1k] at h;exact B4n l h
  have n:(A5t o.dst e undefA fun e'=>B6c P Γ C W B c ops l e' s K)→B2h P Γ C W B c ops l (D7 e o.dst undefA) s K:=fun h=>by
   rw [A1k] at h;exact B4n l h
  split at h2
  ·exact F9 h2 (fun h=>W7 h fun v s' h=>⟨h.1,y v s' h.2⟩) n
  ·split at h2
   ·exact ⟨h2.1,A2p h2.2 y⟩
   ·exact F9 h2 (fun h=>W8 h y) n
theorem AWp.anyH (C W:List Nat) (B:List (Nat × Bool)) (c:Bool→Nat) (perm:List Nat) (hc:c true≠c false) {id:Nat} {ops:Array Oper} {Q:Exit→Env→Sto→Prop} {e:Env} {s:Sto} (hmix:P.follows .mixedOrders=true) (hok:ops.toList.all (A1b n)=true)
  (hp:A5s ops.size perm=true) (hd:okQ C W B ops [] perm=true)
  (h:B6c P Γ C W B c ops (perm.filterMap (ops[·]?)) e s fun e' s'=>Q .normal e' s'):AWp P Γ n (.region id ops true) Q e s:=by
 refine ⟨fun G w a hm he=>?_⟩
 refine wp_region_any hmix ?_
 unfold A5s at hp
 simp only [Bool.and_eq_true,decide_eq_true_eq] at hp
 have hall:∀ i < ops.size,i ∈ perm:=fun i hi=>by simpa using List.all_eq_true.1 hp.1.1 i (List.mem_range.2 hi)
 have hlt:∀ i ∈ perm,i < ops.size:=fun i hi=>by
  obtain ⟨A,R,hAR⟩:=List.append_of_mem hi
  obtain ⟨o,ho,_⟩:=B5e (hAR ▸ hd)
  exact (Array.getElem?_eq_some_iff.1 ho).1
 have hrem:A06 perm (Array.replicate ops.size false)=perm:=by
  unfold A06
  refine List.filter_eq_self.2 fun i hi=>?_
  simp [Array.getD,hlt i hi]
 have hlen:perm.length≤ops.size:=by
  exact Nat.le_of_eq (Nat.eq_of_beq_eq_true hp.2)
 obtain ⟨hm1,X1⟩:=Mod.drew hm
 exact C6z (P:=P) (Γ:=Γ) (Q:=Q) hc hok hd hp.1.2 hall ops.size (Array.replicate ops.size false) (fun p o' _ hl=>by simp [Array.getD_eq_getD_getElem?,Array.getElem?_replicate] at hl;split at hl<;>cases hl) (by simp) (by rw [hrem];exact hlen) X1 hm1 (he.mono X1)
  (by unfold A4z;rw [hrem];exact B4n _ h)
theorem AWp.anyL (C W:List Nat) (t b:Nat) {id:Nat} {ops:Array Oper} {Q:Exit→Env→Sto→Prop} {e:Env} {s:Sto} (hmix:P.follows .mixedOrders=true) (hok:ops.toList.all (A1b n)=true)
  (hp:A5s ops.size (List.range ops.size)=true) (hd:okQ C W [(t,true)] ops [] (List.range ops.size)=true)
  (h:B6c P Γ C W [(t,true)] (fun k=>cond k b (b+1)) ops ((List.range ops.size).filterMap (ops[·]?)) e s fun e' s'=>Q .normal e' s'):AWp P Γ n (.region id ops true) Q e s:=AWp.anyH C W [(t,true)] _ _ (by intro h;exact absurd h (by simp)) hmix hok hp hd h
end
end Go.Ab
