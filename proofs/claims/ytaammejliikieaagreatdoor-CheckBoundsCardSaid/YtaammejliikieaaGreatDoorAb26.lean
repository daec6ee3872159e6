/- A region of open order, walked in an order of one's own choice; loads and stores of different boxes do not meet. -/
import Derived.Test.YtaammejliikieaaGreatDoorAb23
set_option maxRecDepth 10000
set_option maxHeartbeats 60000000
set_option linter.all false
namespace Go.Ab
open Go
def A3i:Op→Option Nat
 | .load _ (.tmp t)=>some t
 | .store _ (.tmp t) _=>some t
 | _=>none
def D1p:Op→Bool
 | .fieldAddr _ _ _=>true
 | _=>false
def C90:Op→Bool
 | .load _ _=>true
 | _=>false
def S8 (B:List (Nat × Bool)) (c:Bool→Nat) (o:Oper) (e:Env):Prop :=
 match A3i o.op with
 | some t=>(match B.lookup t with|some k=>(∃ p,e t=.ptr (some p)∧p.block=c k)∨(k=true∧∃ cs,e t=.cptr cs)∨(k=true∧B.lookup (t+100000)=some true∧∃ p,e t=.ptr (some p)∧p.block≠c false)|none=>(match B.lookup (t+200000) with|some _=>∃ p,e t=.ptr (some p)∧p.block≠c true∧p.block≠c false|none=>True))
 | none=>True
def C3v (B:List (Nat × Bool)) (o1 o2:Op):Bool :=
 match A3i o1,A3i o2 with
 | some a,some b=>(match B.lookup a,B.lookup b with|some x,some y=>x != y|none,some _=>(B.lookup (a+200000)).isSome && (B.lookup (b+100000)).isNone|_,_=>false)
 | _,_=>false
def B84 (B:List (Nat × Bool)) (ops:Array Oper) (o1 o2:Oper):Bool :=
 B0x ops o1 o2 || ((cls o1.op == 0) && (A1p o1.dst (N7 ops o2) && A1p o2.dst (N7 ops o1) && (match o1.dst,o2.dst with|some a,some b=>a != b|_,_=>true) &&
  o1.guard.isNone && A6v o2.op && (D1p o1.op || (C90 o1.op && C3v B o1.op o2.op && o2.guard.isNone))))
def dIn (l:List Nat) (d:Option Nat):Bool:=match d with|some d=>l.elem d|none=>false
def A1e (ops:Array Oper) (o1 o2:Oper):Bool :=
 A1p o1.dst (N7 ops o2) && A1p o2.dst (N7 ops o1) && (match o1.dst,o2.dst with|some a,some b=>a != b|_,_=>true)
def B7w (C:List Nat) (d:Option Nat):Bool:=match d with|some d=>C.elem (d+100000)|none=>false
def A4n (op:Op):Bool:=match op with
 | .call c=>(match c.callee with|.value _|.builtin .append=>true|_=>false)
 | _=>false
def A3v (o:Oper):Bool:=o.guard.isNone && (match o.op with|.move _=>true|_=>false)
def A5l (C W:List Nat) (B:List (Nat × Bool)) (ops:Array Oper) (o1 o2:Oper):Bool :=
 (A1e ops o1 o2 && ((A3v o1 && !dIn C o1.dst && dIn W o2.dst && A4n o2.op) || (A3v o2 && !dIn C o2.dst && dIn W o1.dst && A4n o1.op))) || !dIn W o1.dst && !dIn W o2.dst && (match dIn C o1.dst,dIn C o2.dst with
  | false,false=>B84 B ops o1 o2
  | true,false=>A1e ops o1 o2 && ((cls o2.op == 0) || (B7w C o1.dst && (cls o2.op == 1) && o2.guard.isNone))
  | false,true=>A1e ops o1 o2 && (cls o1.op == 0)
  | true,true=>A1e ops o1 o2)
inductive A41 (s:Sto):Sto→Prop where
 | refl:A41 s s
 | box {s':Sto} {b:Nat} {T:TypeId} {cs:List AV} (h:A41 s s') (hb:s'.bx b=none):A41 s (s'.set b T cs)
theorem A41.trans {a b c:Sto} (h:A41 a b) (k:A41 b c):A41 a c:=by
 induction k with
 | refl=>exact h
 | box _ hb ih=>exact .box ih hb
inductive B2n (P:Program) (Γ:Nat→AV) (stab:Bool) (fn:FuncId) (l:List AV) (s:Sto) (K:AV→Sto→Prop):Prop where
 | mk (r:AV) (h:A2 P Γ fn l s fun v s'=>v=r∧s'=s) (k:K r s) (st:stab=true→∀ s',A41 s s'→A2 P Γ fn l s' fun v s''=>v=r∧s''=s':=by intro h;cases h)
section
variable {P:Program} {Γ:Nat→AV}
def X7 (P:Program) (Γ:Nat→AV) (stab:Bool) (ev:Operand→AV) (s:Sto) (op:Op) (K:AV→Sto→Prop):Prop :=
 match op with
 | .call c=>(match c.callee with
  | .value f=>(match ev f with
   | .func (.func fn) fs cs=>chk (A6a P fn) (A2v (fs++c.args.toList.map ev++cs) fun l=>B2n P Γ stab fn l s K)
   | _=>False)
  | _=>False)
 | _=>False
def TrG (P:Program) (Γ:Nat→AV) (C W:List Nat) (ops:Array Oper) (o:Oper) (e:Env) (s:Sto) (K:AV→Sto→Prop):Prop :=
 match dIn W o.dst with
 | true=>N3 ops e o.guard (D2 P Γ (evA Γ e) s o.op K) (K undefA s)
 | false=>(match dIn C o.dst with
  | true=>o.guard=none∧X7 P Γ (B7w C o.dst) (evA Γ e) s o.op K
  | false=>Tr P Γ ops o e s K)
def B2g (P:Program) (Γ:Nat→AV) (C W:List Nat) (B:List (Nat × Bool)) (c:Bool→Nat) (ops:Array Oper):List Oper→Env→Sto→(Env→Sto→Prop)→Prop
 | [],e,s,K=>K e s
 | o::l,e,s,K=>S8 B c o e∧TrG P Γ C W ops o e s fun v s'=>B2g P Γ C W B c ops l (D7 e o.dst v) s' K
theorem A2p {stab:Bool} {ev:Operand→AV} {s:Sto} {op:Op} {K K':AV→Sto→Prop} (h:X7 P Γ stab ev s op K) (hk:∀ v s,K v s→K' v s):X7 P Γ stab ev s op K':=by
 unfold X7 at *
 split at h
 ·split at h
  ·split at h
   ·obtain ⟨h1,h⟩:=B2.1 h
    rw [C8] at h
    obtain ⟨r,h2,h3,h4⟩:=h
    exact B2.2 ⟨h1,by rw [C8];exact ⟨r,h2,hk _ _ h3,h4⟩⟩
   ·exact h.elim
  ·exact h.elim
 ·exact h.elim
theorem A8s {stab:Bool} {ev:Operand→AV} {s:Sto} {op:Op} {K:AV→Sto→Prop} (h:X7 P Γ stab ev s op K):D2 P Γ ev s op K:=by
 unfold X7 at h
 split at h
 ·rename_i c
  split at h
  ·rename_i f hf
   split at h
   ·rename_i fn fs cs hv
    obtain ⟨h1,h⟩:=B2.1 h
    rw [C8] at h
    obtain ⟨r,h2,h3,_⟩:=h
    dsimp only [D2]
    rw [hf]
    dsimp only
    rw [hv]
    refine B2.2 ⟨h1,?_⟩
    rw [C8]
    exact h2.by fun v s' ⟨a,b⟩=>by subst a b;exact h3
   ·exact h.elim
  ·exact h.elim
 ·exact h.elim
theorem B22 {stab:Bool} {ev:Operand→AV} {s:Sto} {op:Op} {K:AV→Sto→Prop} (h:X7 P Γ stab ev s op K):∃ v,K v s∧∀ ev':Operand→AV,(∀ x ∈ op.operands.toList,ev x=ev' x)→∀ K':AV→Sto→Prop,K' v s→X7 P Γ stab ev' s op K':=by
 unfold X7 at h
 split at h
 ·rename_i c
  split at h
  ·rename_i f hf
   split at h
   ·rename_i fn fs cs hv
    obtain ⟨h1,h⟩:=B2.1 h
    rw [C8] at h
    obtain ⟨r,h2,h3,h4⟩:=h
    refine ⟨r,h3,fun ev' he K' hk=>?_⟩
    unfold X7
    dsimp only
    rw [hf]
    dsimp only
    rw [← he f (by simp [Op.operands,Call.operands,hf]),hv]
    dsimp only
    rw [← List.map_congr_left (f:=ev) (g:=ev') fun x hx=>he x (by simp [Op.operands,Call.operands,hf] at hx ⊢;exact .inr hx)]
    refine B2.2 ⟨h1,?_⟩
    rw [C8]
    exact ⟨r,h2,hk,h4⟩
   ·exact h.elim
  ·exact h.elim
 ·exact h.elim
theorem A98 {ev:Operand→AV} {s:Sto} {op:Op} {K:AV→Sto→Prop} (h:X7 P Γ true ev s op K):∃ v,K v s∧∀ ev':Operand→AV,(∀ x ∈ op.operands.toList,ev x=ev' x)→∀ s' (K':AV→Sto→Prop),A41 s s'→K' v s'→X7 P Γ true ev' s' op K':=by
 unfold X7 at h
 split at h
 ·rename_i c
  split at h
  ·rename_i f hf
   split at h
   ·rename_i fn fs cs hv
    obtain ⟨h1,h⟩:=B2.1 h
    rw [C8] at h
    obtain ⟨r,h2,h3,h4⟩:=h
    refine ⟨r,h3,fun ev' he s' K' hs hk=>?_⟩
    unfold X7
    dsimp only
    rw [hf]
    dsimp only
    rw [← he f (by simp [Op.operands,Call.operands,hf]),hv]
    dsimp only
    rw [← List.map_congr_left (f:=ev) (g:=ev') fun x hx=>he x (by simp [Op.operands,Call.operands,hf] at hx ⊢;exact .inr hx)]
    refine B2.2 ⟨h1,?_⟩
    rw [C8]
    exact ⟨r,h4 rfl s' hs,hk,fun _ s2 h5=>h4 rfl s2 (hs.trans h5)⟩
   ·exact h.elim
  ·exact h.elim
 ·exact h.elim
theorem A9u {C W:List Nat} {ops:Array Oper} {o:Oper} {e:Env} {s:Sto} {K K':AV→Sto→Prop} (h:TrG P Γ C W ops o e s K) (hk:∀ v s,K v s→K' v s):TrG P Γ C W ops o e s K':=by
 unfold TrG at *
 split at h
 ·exact F9 h (fun h=>W7 h hk) (hk _ _)
 ·split at h
  ·exact ⟨h.1,A2p h.2 hk⟩
  ·exact A0l h hk
theorem C3o {C W:List Nat} {ops:Array Oper} {o:Oper} {e:Env} {s:Sto} {K:AV→Sto→Prop} (h:TrG P Γ C W ops o e s K):N3 ops e o.guard (D2 P Γ (evA Γ e) s o.op K) (K undefA s):=by
 unfold TrG at h
 split at h
 ·exact h
 ·split at h
  ·rw [h.1];exact A8s h.2
  ·exact F9 h A3l fun h=>h
theorem S4 {ops:Array Oper} {o:Oper} {e e':Env} (ha:J6 ops o e e'):∀ x ∈ o.op.operands.toList,evA Γ e x=evA Γ e' x:=fun x hx=>A4k fun t ht=>ha t (by
 simp only [N7,List.mem_append]
 left
 exact List.mem_filterMap.2 ⟨x,hx,by rw [ht]⟩)
theorem B9z {C W:List Nat} {ops:Array Oper} {o:Oper} {e:Env} {s:Sto} {K:AV→Sto→Prop} (hw:dIn W o.dst=false) (hc:dIn C o.dst=true∨cls o.op=0) (h:TrG P Γ C W ops o e s K) :
  ∃ v,K v s∧∀ e',J6 ops o e e'→∀ K':AV→Sto→Prop,K' v s→TrG P Γ C W ops o e' s K':=by
 unfold TrG at h ⊢
 rw [hw] at h ⊢
 dsimp only at h ⊢
 cases hC:dIn C o.dst with
 | true =>
  rw [hC] at h
  dsimp only at h ⊢
  obtain ⟨v,h1,h2⟩:=B22 h.2
  exact ⟨v,h1,fun e' ha K' hk=>⟨h.1,h2 _ (S4 ha) K' hk⟩⟩
 | false =>
  rw [hC] at h
  dsimp only at h ⊢
  have hc:cls o.op=0:=hc.resolve_left (by rw [hC];decide)
  obtain ⟨v,h1,h2,_⟩:=A2j hc h
  exact ⟨v,h1,fun e' ha K' hk=>(h2.move hc ha (Sub.refl s).bx rfl).use hk⟩
theorem B92 {ops:Array Oper} {o:Oper} {t:Nat} (ht:A3i o.op=some t):t ∈ N7 ops o:=by
 simp only [N7,List.mem_append]
 left
 revert ht
 cases o.op<;>intro ht<;>simp only [A3i] at ht<;>try cases ht
 ·rename_i x
  cases x<;>simp only [A3i] at ht<;>try cases ht
  simp [Op.operands]
 ·rename_i x y
  cases x<;>simp only [A3i] at ht<;>try cases ht
  simp [Op.operands]
theorem S8.agree {B:List (Nat × Bool)} {c:Bool→Nat} {ops:Array Oper} {o:Oper} {e e':Env} (h:S8 B c o e) (ha:J6 ops o e e'):S8 B c o e':=by
 unfold S8 at *
 split at h
 ·rename_i t ht
  split at h
  ·rw [← ha t (B92 ht)];exact h
  ·split at h
   ·rw [← ha t (B92 ht)];exact h
   ·trivial
 ·trivial
theorem C9k {ev:Operand→AV} {s s':Sto} {op:Op} {v:AV} (hf:D1p op=true) (h:C9 P Γ ev s op fun r t=>r=v∧t=s):C9 P Γ ev s' op fun r t=>r=v∧t=s':=by
 cases op<;>try cases hf
 case fieldAddr t x f =>
  have:H6 P ev s (.fieldAddr t x f) fun r=>r=v:=V0 (K:=fun r=>r=v∧s=s) h fun _ h=>h.1
  have:H6 P ev s' (.fieldAddr t x f) fun r=>r=v:=this
  exact V0 (K':=fun r=>r=v∧s'=s') this fun _ h=>⟨h,rfl⟩
theorem B89 {e:Env} {s s':Sto} {T:TypeId} {t:Nat} {v:AV} {p:Addr} (hp:e t=.ptr (some p)) (hb:s'.bx p.block=s.bx p.block)
  (h:C9 P Γ (evA Γ e) s (.load T (.tmp t)) fun r u=>r=v∧u=s):C9 P Γ (evA Γ e) s' (.load T (.tmp t)) fun r u=>r=v∧u=s':=by
 have h1:H6 P (evA Γ e) s (.load T (.tmp t)) fun r=>r=v:=V0 (K:=fun r=>r=v∧s=s) h fun _ h=>h.1
 have h2:H6 P (evA Γ e) s' (.load T (.tmp t)) fun r=>r=v:=by
  obtain ⟨b,o,sp⟩:=p
  dsimp only [H6,evA] at h1 ⊢
  rw [hp] at h1 ⊢
  cases sp with
  | none=>dsimp only at h1 hb ⊢;rw [hb];exact h1
  | some q=>exact h1.elim
 exact V0 (K':=fun r=>r=v∧s'=s') h2 fun _ h=>⟨h,rfl⟩
theorem C0k {e:Env} {s s':Sto} {T:TypeId} {t:Nat} {v:AV} {cs:List AV} (hp:e t=.cptr cs)
  (h:C9 P Γ (evA Γ e) s (.load T (.tmp t)) fun r u=>r=v∧u=s):C9 P Γ (evA Γ e) s' (.load T (.tmp t)) fun r u=>r=v∧u=s':=by
 have h1:H6 P (evA Γ e) s (.load T (.tmp t)) fun r=>r=v:=V0 (K:=fun r=>r=v∧s=s) h fun _ h=>h.1
 have h2:H6 P (evA Γ e) s' (.load T (.tmp t)) fun r=>r=v:=by
  dsimp only [H6,evA] at h1 ⊢
  rw [hp] at h1 ⊢
  exact h1
 exact V0 (K':=fun r=>r=v∧s'=s') h2 fun _ h=>⟨h,rfl⟩
theorem C55 {e:Env} {s:Sto} {T:TypeId} {t:Nat} {x:Operand} {K:AV→Sto→Prop} {cs:List AV} (hp:e t=.cptr cs)
  (h:C9 P Γ (evA Γ e) s (.store T (.tmp t) x) K):False:=by
 dsimp only [C9,D2,evA] at h
 rw [hp] at h
 exact h
theorem C6w {ops:Array Oper} {o:Oper} {e:Env} {s:Sto} {K:AV→Sto→Prop} (hc:cls o.op=0∨cls o.op=1) (h:Tr P Γ ops o e s K):∃ v s',K v s':=by
 rcases hc with hc|hc
 ·obtain ⟨v,h1,_⟩:=A2j hc h
  exact ⟨v,s,h1⟩
 ·unfold Tr at h
  rcases A8m h with ⟨hy,_⟩|⟨hn,_⟩
  ·obtain ⟨p,mk,T,cs,hn⟩:=A1h (P:=P) (Γ:=Γ) (ev:=evA Γ e) hc
   rw [hn] at hy
   obtain ⟨b,hb⟩:=s.fresh
   exact ⟨_,_,hy.2 b hb⟩
  ·exact ⟨_,_,hn⟩
theorem B9t {e:Env} {s:Sto} {T:TypeId} {t:Nat} {x:Operand} {K:AV→Sto→Prop} {p:Addr} (hp:e t=.ptr (some p))
  (h:C9 P Γ (evA Γ e) s (.store T (.tmp t) x) K):C9 P Γ (evA Γ e) s (.store T (.tmp t) x) fun v s'=>K v s'∧∀ b,b≠p.block→s'.bx b=s.bx b:=by
 obtain ⟨b,o,sp⟩:=p
 dsimp only [C9,D2] at h ⊢
 have hp':evA Γ e (.tmp t)=.ptr (some ⟨b,o,sp⟩):=hp
 rw [hp'] at h ⊢
 cases sp with
 | none =>
  dsimp only at h ⊢
  obtain ⟨T',cs,hb,h⟩:=X8 h
  rw [hb]
  show (match J9 P T with|some n=>_|none=>False)
  cases hs:J9 P T with
  | none=>rw [hs] at h;exact h.elim
  | some n =>
   rw [hs] at h
   dsimp only at h ⊢
   obtain ⟨h1,h2,h3,h4⟩:=h
   rw [C8] at h4
   refine ⟨h1,h2,h3,?_⟩
   rw [C8]
   exact ⟨h4,fun b' hb'=>A4 hb'⟩
 | some q=>exact h.elim
theorem C85 {B:List (Nat × Bool)} {c:Bool→Nat} (hc:c true≠c false) {ops:Array Oper} {o1 o2:Oper} (hi:B84 B ops o1 o2=true) {e:Env} {s:Sto} {K:Env→Sto→Prop}
  (h:S8 B c o1 e∧Tr P Γ ops o1 e s fun v1 s1=>S8 B c o2 (D7 e o1.dst v1)∧Tr P Γ ops o2 (D7 e o1.dst v1) s1 fun v2 s2=>K (D7 (D7 e o1.dst v1) o2.dst v2) s2) :
  S8 B c o2 e∧Tr P Γ ops o2 e s fun v2 s2=>S8 B c o1 (D7 e o2.dst v2)∧Tr P Γ ops o1 (D7 e o2.dst v2) s2 fun v1 s1=>K (D7 (D7 e o2.dst v2) o1.dst v1) s1:=by
 obtain ⟨w1,h⟩:=h
 unfold B84 at hi
 simp only [Bool.and_eq_true,Bool.or_eq_true,beq_iff_eq] at hi
 have dd:A1p o1.dst (N7 ops o2)=true∧A1p o2.dst (N7 ops o1)=true∧(match o1.dst,o2.dst with|some a,some b=>a != b|_,_=>true)=true∧(cls o1.op=0∨cls o1.op=1):=by
  rcases hi with hi|hi
  ·unfold B0x at hi
   simp only [Bool.and_eq_true] at hi
   refine ⟨hi.1.1.1,hi.1.1.2,hi.1.2,?_⟩
   have h2:=hi.2
   split at h2<;>first|(rename_i q1 q2;exact .inl q1)|(rename_i q1 q2;exact .inr q1)|cases h2
  ·exact ⟨hi.2.1.1.1.1.1,hi.2.1.1.1.1.2,hi.2.1.1.1.2,.inl hi.1⟩
 obtain ⟨i1,i2,i3,hc1⟩:=dd
 have a1:∀ v,J6 ops o2 (D7 e o1.dst v) e:=fun v=>L7 (F6 i1 e v)
 have a2:∀ v,J6 ops o1 e (D7 e o2.dst v):=fun v=>F6 i2 e v
 obtain ⟨v0,_,w2,_⟩:=C6w hc1 h
 refine ⟨w2.agree (a1 v0),?_⟩
 rcases hi with hi|⟨hc1,hi⟩
 ·exact A0l (swap hi (A0l h fun _ _ h=>h.2)) fun v2 s2 h=>⟨w1.agree (a2 v2),h⟩
 obtain ⟨v1,⟨w2,h1⟩,h2,_⟩:=A2j hc1 h
 ·obtain ⟨⟨⟨_,g1⟩,hst⟩,hk⟩:=hi
  have g1:=Option.isNone_iff_eq_none.1 g1
  have step:∀ (o:Oper) (hg:o.guard=none) (e':Env) (s':Sto) (K':AV→Sto→Prop),Tr P Γ ops o e' s' K'↔C9 P Γ (evA Γ e') s' o.op K':=fun o hg e' s' K'=>by unfold Tr;rw [hg];exact Iff.rfl
  have h1:=A01 hst (a1 v1) h1
  rcases hk with hk|⟨⟨hl,hap⟩,g2⟩
  ·refine A0l h1 fun v2 s2 hk2=>⟨w1.agree (a2 v2),?_⟩
   unfold A2f at h2
   rw [step o1 g1] at h2
   have h3:A2f P Γ ops o1 e s2 v1:=by unfold A2f;rw [step o1 g1];exact C9k hk h2
   refine (h3.move hc1 (a2 v2) (Sub.refl s2).bx rfl).use ?_
   rw [← G4 i3];exact hk2
  ·have g2:=Option.isNone_iff_eq_none.1 g2
   rw [step o2 g2] at h1 ⊢
   have w2':=w2.agree (a1 v1)
   unfold A2f at h2
   rw [step o1 g1] at h2
   obtain ⟨T1,t1,e1⟩:∃ T t,o1.op=.load T (.tmp t):=by
    revert hl hap
    cases o1.op<;>intro hl hap<;>try cases hl
    rename_i T x
    cases x<;>first|exact ⟨T,_,rfl⟩|cases hap
   obtain ⟨T2,t2,x2,e2⟩:∃ T t x,o2.op=.store T (.tmp t) x:=by
    rw [e1] at hap
    revert hst hap
    cases o2.op<;>intro hst hap<;>try cases hst
    rename_i T x y
    cases x<;>first|exact ⟨T,_,_,rfl⟩|cases hap
   have ha1:A3i o1.op=some t1:=by rw [e1];rfl
   have ha2:A3i o2.op=some t2:=by rw [e2];rfl
   unfold C3v at hap
   unfold S8 at w2'
   have w1':=w1
   unfold S8 at w1'
   rw [ha1] at hap w1'
   rw [ha2] at hap w2'
   dsimp only at hap w1' w2'
   cases hb1:B.lookup t1 with
   | none =>
    cases hb2:B.lookup t2 with
    | none=>rw [hb1,hb2] at hap;cases hap
    | some k2 =>
     rw [hb1] at hap w1'
     rw [hb2] at hap w2'
     dsimp only at hap w1' w2'
     rw [Bool.and_eq_true] at hap
     obtain ⟨hm1,hm2⟩:=hap
     rw [e2] at h1 ⊢
     rw [e1] at h2
     cases hb3:B.lookup (t1+200000) with
     | none=>rw [hb3] at hm1;cases hm1
     | some z1 =>
      rw [hb3] at w1'
      dsimp only at w1'
      obtain ⟨q1,hq1,hk1,hk1'⟩:=w1'
      rcases w2' with ⟨q2,hq2,hk2⟩|⟨_,cs2,hq2⟩|⟨_,hm3,_⟩
      ·have hne:q1.block≠q2.block:=by
        rw [hk2]
        cases k2<;>assumption
       refine W8 (B9t hq2 h1) fun v2 s2 ⟨hk,hfr⟩=>⟨w1.agree (a2 v2),?_⟩
       have h3:A2f P Γ ops o1 e s2 v1:=by
        unfold A2f
        rw [step o1 g1,e1]
        exact B89 hq1 (hfr _ hne) h2
       refine (h3.move hc1 (a2 v2) (Sub.refl s2).bx rfl).use ?_
       rw [← G4 i3];exact hk
      ·exact (C55 hq2 h1).elim
      ·rw [hm3] at hm2;cases hm2
   | some k1 =>
    cases hb2:B.lookup t2 with
    | none=>rw [hb1,hb2] at hap;cases hap
    | some k2 =>
     rw [hb1] at hap w1'
     rw [hb2] at hap w2'
     dsimp only at hap w1' w2'
     rw [e2] at h1 ⊢
     rw [e1] at h2
     have hst2:(∃ cs,e t2=.cptr cs)∨∃ q,e t2=.ptr (some q)∧(q.block=c k2∨(k2=true∧q.block≠c false)):=by
      rcases w2' with ⟨q2,hq2,hk2⟩|⟨_,cs2,hq2⟩|⟨z1,_,q2,hq2,hk2⟩
      ·exact .inr ⟨q2,hq2,.inl hk2⟩
      ·exact .inl ⟨cs2,hq2⟩
      ·exact .inr ⟨q2,hq2,.inr ⟨z1,hk2⟩⟩
     have hst1:(∃ cs,e t1=.cptr cs)∨∃ q,e t1=.ptr (some q)∧(q.block=c k1∨(k1=true∧q.block≠c false)):=by
      rcases w1' with ⟨q1,hq1,hk1⟩|⟨_,cs1,hq1⟩|⟨z1,_,q1,hq1,hk1⟩
      ·exact .inr ⟨q1,hq1,.inl hk1⟩
      ·exact .inl ⟨cs1,hq1⟩
      ·exact .inr ⟨q1,hq1,.inr ⟨z1,hk1⟩⟩
     rcases hst2 with ⟨cs2,hq2⟩|⟨q2,hq2,hk2⟩
     ·exact (C55 hq2 h1).elim
     rcases hst1 with ⟨cs1,hq1⟩|⟨q1,hq1,hk1⟩
     rotate_left
     ·have hne:q1.block≠q2.block:=by
       rcases hk1 with hk1|⟨z1,hk1⟩<;>rcases hk2 with hk2|⟨z2,hk2⟩
       ·rw [hk1,hk2]
        cases k1<;>cases k2<;>first|exact hc|exact fun h=>hc h.symm|exact absurd hap (by decide)
       ·subst z2
        cases k1 with
        | true=>exact absurd hap (by decide)
        | false=>rw [hk1];exact fun h=>hk2 h.symm
       ·subst z1
        cases k2 with
        | true=>exact absurd hap (by decide)
        | false=>rw [hk2];exact hk1
       ·subst z1;subst z2
        exact absurd hap (by decide)
      refine W8 (B9t hq2 h1) fun v2 s2 ⟨hk,hfr⟩=>⟨w1.agree (a2 v2),?_⟩
      have h3:A2f P Γ ops o1 e s2 v1:=by
       unfold A2f
       rw [step o1 g1,e1]
       exact B89 hq1 (hfr _ hne) h2
      refine (h3.move hc1 (a2 v2) (Sub.refl s2).bx rfl).use ?_
      rw [← G4 i3];exact hk
     ·refine W8 (B9t hq2 h1) fun v2 s2 ⟨hk,hfr⟩=>⟨w1.agree (a2 v2),?_⟩
      have h3:A2f P Γ ops o1 e s2 v1:=by
       unfold A2f
       rw [step o1 g1,e1]
       exact C0k hq1 h2
      refine (h3.move hc1 (a2 v2) (Sub.refl s2).bx rfl).use ?_
      rw [← G4 i3];exact hk
theorem B57 {o:Oper} (h:A3v o=true):A3i o.op=none:=by
 unfold A3v at h
 rw [Bool.and_eq_true] at h
 revert h
 cases o.op<;>rintro ⟨_,h⟩<;>first|rfl|cases h
theorem B52 {C W:List Nat} {ops:Array Oper} {o:Oper} (h:A3v o=true) (hc:dIn C o.dst=false):∃ x ∈ o.op.operands.toList,∀ e s (K:AV→Sto→Prop),TrG P Γ C W ops o e s K↔K (evA Γ e x) s:=by
 unfold A3v at h
 rw [Bool.and_eq_true] at h
 obtain ⟨hg,h⟩:=h
 have hg:=Option.isNone_iff_eq_none.1 hg
 obtain ⟨x,hx⟩:∃ x,o.op=.move x:=by
  revert h
  cases o.op<;>intro h<;>first|exact ⟨_,rfl⟩|cases h
 refine ⟨x,by rw [hx];simp [Op.operands],fun e s K=>?_⟩
 unfold TrG
 rw [hc]
 cases dIn W o.dst
 ·show Tr P Γ ops o e s K↔_
  unfold Tr
  rw [hg,hx]
  show frc (evA Γ e x) (fun v=>K v s)↔_
  rw [F8]
 ·show N3 ops e o.guard (D2 P Γ (evA Γ e) s o.op K) (K undefA s)↔_
  rw [hg,hx]
  show frc (evA Γ e x) (fun v=>K v s)↔_
  rw [F8]
theorem A99 {ev ev':Operand→AV} {s:Sto} {op:Op} {K:AV→Sto→Prop} (hv:A4n op=true) (hev:∀ x ∈ op.operands.toList,ev x=ev' x) (h:D2 P Γ ev s op K):D2 P Γ ev' s op K:=by
 obtain ⟨c,rfl⟩:∃ c,op=.call c:=by
  revert hv
  cases op<;>intro hv<;>first|exact ⟨_,rfl⟩|cases hv
 obtain ⟨callee,args,ts⟩:=c
 have hcal:(∃ f,callee=.value f)∨callee=.builtin .append:=by
  revert hv
  cases callee with
  | value f=>intro _;exact .inl ⟨_,rfl⟩
  | builtin b=>cases b<;>intro hv<;>first|exact .inr rfl|cases hv
  | _=>intro hv;cases hv
 rcases hcal with ⟨f,rfl⟩|rfl
 case inr =>
  dsimp only [D2] at h ⊢
  split at h
  ·rename_i x y hA
   have hx:=hev x (by simp [Op.operands,Call.operands,hA])
   have hy:=hev y (by simp [Op.operands,Call.operands,hA])
   rw [← hx,← hy]
   exact h
  ·exact h.elim
 dsimp only [D2] at h ⊢
 rw [← hev f (by simp [Op.operands,Call.operands]),← List.map_congr_left (f:=ev) (g:=ev') fun x hx=>hev x (by simp [Op.operands,Call.operands] at hx ⊢;exact .inr hx)]
 exact h
theorem B2p {C W:List Nat} {ops:Array Oper} {o:Oper} {e e':Env} {s:Sto} {K:AV→Sto→Prop} (hw:dIn W o.dst=true) (hv:A4n o.op=true) (ha:J6 ops o e e') (h:TrG P Γ C W ops o e s K):TrG P Γ C W ops o e' s K:=by
 unfold TrG at h ⊢
 rw [hw] at h ⊢
 dsimp only at h ⊢
 refine A0e (fun j w d hg hd=>ha d ?_) (F9 h (fun h=>A99 hv (S4 ha) h) fun h=>h)
 simp only [N7,List.mem_append]
 right
 rw [hg]
 simp [hd]
theorem D14 {C W:List Nat} {B:List (Nat × Bool)} {c:Bool→Nat} (hc:c true≠c false) {ops:Array Oper} {o1 o2:Oper} (hi:A5l C W B ops o1 o2=true) {e:Env} {s:Sto} {K:Env→Sto→Prop}
  (h:S8 B c o1 e∧TrG P Γ C W ops o1 e s fun v1 s1=>S8 B c o2 (D7 e o1.dst v1)∧TrG P Γ C W ops o2 (D7 e o1.dst v1) s1 fun v2 s2=>K (D7 (D7 e o1.dst v1) o2.dst v2) s2) :
  S8 B c o2 e∧TrG P Γ C W ops o2 e s fun v2 s2=>S8 B c o1 (D7 e o2.dst v2)∧TrG P Γ C W ops o1 (D7 e o2.dst v2) s2 fun v1 s1=>K (D7 (D7 e o2.dst v2) o1.dst v1) s1:=by
 unfold A5l at hi
 simp only [Bool.and_eq_true,Bool.not_eq_true',Bool.or_eq_true] at hi
 rcases hi with ⟨hd,hi⟩|hi
 ·unfold A1e at hd
  simp only [Bool.and_eq_true] at hd
  obtain ⟨⟨i1,i2⟩,i3⟩:=hd
  obtain ⟨w1,h⟩:=h
  rcases hi with ⟨⟨⟨hm,hc1⟩,hw2⟩,hv2⟩|⟨⟨⟨hm,hc2⟩,hw1⟩,hv1⟩
  ·obtain ⟨x,hx,hmv⟩:=B52 (P:=P) (Γ:=Γ) (W:=W) (ops:=ops) hm hc1
   obtain ⟨w2,h⟩:=(hmv _ _ _).1 h
   have a1:J6 ops o2 (D7 e o1.dst (evA Γ e x)) e:=L7 (F6 i1 e _)
   refine ⟨w2.agree a1,A9u (B2p hw2 hv2 a1 h) fun v2 s2 hk=>?_⟩
   have a2:J6 ops o1 e (D7 e o2.dst v2):=F6 i2 e v2
   refine ⟨w1.agree a2,(hmv _ _ _).2 ?_⟩
   rw [← S4 (Γ:=Γ) a2 x hx,← G4 i3];exact hk
  ·obtain ⟨x,hx,hmv⟩:=B52 (P:=P) (Γ:=Γ) (W:=W) (ops:=ops) hm hc2
   have hno:S8 B c o2 e:=by
    unfold S8
    rw [B57 hm]
    trivial
   refine ⟨hno,(hmv _ _ _).2 ?_⟩
   have a2:J6 ops o1 e (D7 e o2.dst (evA Γ e x)):=F6 i2 e _
   refine ⟨w1.agree a2,A9u (B2p hw1 hv1 a2 h) fun v1 s1 hk=>?_⟩
   have hk:=(hmv _ _ _).1 hk.2
   have a1:J6 ops o2 (D7 e o1.dst v1) e:=L7 (F6 i1 e v1)
   rw [S4 (Γ:=Γ) a1 x hx] at hk
   rw [← G4 i3];exact hk
 obtain ⟨⟨hw1,hw2⟩,hi⟩:=hi
 have calm:A1e ops o1 o2=true→(dIn C o1.dst=true∨cls o1.op=0)→(dIn C o2.dst=true∨cls o2.op=0)→S8 B c o2 e∧TrG P Γ C W ops o2 e s fun v2 s2=>S8 B c o1 (D7 e o2.dst v2)∧TrG P Γ C W ops o1 (D7 e o2.dst v2) s2 fun v1 s1=>K (D7 (D7 e o2.dst v2) o1.dst v1) s1:=by
  intro hd d1 d2
  unfold A1e at hd
  simp only [Bool.and_eq_true] at hd
  obtain ⟨⟨i1,i2⟩,i3⟩:=hd
  obtain ⟨w1,h⟩:=h
  obtain ⟨v1,⟨w2,h1⟩,r1⟩:=B9z hw1 d1 h
  obtain ⟨v2,h2,r2⟩:=B9z hw2 d2 h1
  have a1:J6 ops o2 (D7 e o1.dst v1) e:=L7 (F6 i1 e v1)
  have a2:J6 ops o1 e (D7 e o2.dst v2):=F6 i2 e v2
  refine ⟨w2.agree a1,r2 _ a1 _ ⟨w1.agree a2,r1 _ a2 _ ?_⟩⟩
  rw [← G4 i3];exact h2
 cases hC1:dIn C o1.dst<;>cases hC2:dIn C o2.dst<;>rw [hC1,hC2] at hi
 ·dsimp only at hi
  have e1:∀ e s (K:AV→Sto→Prop),TrG P Γ C W ops o1 e s K=Tr P Γ ops o1 e s K:=fun e s K=>by unfold TrG;rw [hw1,hC1]
  have e2:∀ e s (K:AV→Sto→Prop),TrG P Γ C W ops o2 e s K=Tr P Γ ops o2 e s K:=fun e s K=>by unfold TrG;rw [hw2,hC2]
  simp only [e1,e2] at h ⊢
  exact C85 hc hi h
 ·simp only [Bool.and_eq_true,beq_iff_eq] at hi
  exact calm hi.1 (.inr hi.2) (.inl hC2)
 ·simp only [Bool.and_eq_true,Bool.or_eq_true,beq_iff_eq] at hi
  obtain ⟨hd,hi|⟨⟨hst,hc2⟩,hg2⟩⟩:=hi
  ·exact calm hd (.inl hC1) (.inr hi)
  ·have hg2:=Option.isNone_iff_eq_none.1 hg2
   unfold A1e at hd
   simp only [Bool.and_eq_true] at hd
   obtain ⟨⟨i1,i2⟩,i3⟩:=hd
   have e1:∀ e s (K:AV→Sto→Prop),TrG P Γ C W ops o1 e s K=(o1.guard=none∧X7 P Γ true (evA Γ e) s o1.op K):=fun e s K=>by unfold TrG;rw [hw1,hC1,hst]
   have e2:∀ e s (K:AV→Sto→Prop),TrG P Γ C W ops o2 e s K=Tr P Γ ops o2 e s K:=fun e s K=>by unfold TrG;rw [hw2,hC2]
   simp only [e1,e2] at h ⊢
   obtain ⟨w1,hg1,h⟩:=h
   obtain ⟨v1,⟨w2,h1⟩,hmv⟩:=A98 h
   have a1:J6 ops o2 (D7 e o1.dst v1) e:=L7 (F6 i1 e v1)
   have a2:∀ v,J6 ops o1 e (D7 e o2.dst v):=fun v=>F6 i2 e v
   refine ⟨w2.agree a1,?_⟩
   have h1:=V9 (by rw [hc2];decide) a1 h1
   unfold Tr at h1 ⊢
   rw [hg2] at h1 ⊢
   simp only [N3] at h1 ⊢
   obtain ⟨p,mk,T,cs,hn⟩:=A1h (P:=P) (Γ:=Γ) (ev:=evA Γ e) hc2
   rw [hn] at h1 ⊢
   refine ⟨h1.1,fun b hb=>⟨w1.agree (a2 _),hg1,hmv _ (S4 (a2 _)) _ _ (.box .refl hb) ?_⟩⟩
   rw [← G4 i3];exact h1.2 b hb
 ·exact calm hi (.inl hC1) (.inl hC2)
def A06 (perm:List Nat) (listed:Array Bool):List Nat:=perm.filter fun i=>!listed.getD i true
def A4z (ops:Array Oper) (perm:List Nat) (listed:Array Bool):List Oper:=(A06 perm listed).filterMap (ops[·]?)
def okP (C W:List Nat) (B:List (Nat × Bool)) (ops:Array Oper):List Nat→List Nat→Bool
 | _,[]=>true
 | ahead,i::rest=>(match ops[i]? with
  | none=>false
  | some o=>o.after.toList.all (fun e=>!Region.binds .any e || ahead.elem e.on) &&
    ahead.all (fun j=>o.after.toList.any (fun e=>Region.binds .any e && e.on == j) || (match ops[j]? with|some o'=>A5l C W B ops o' o|none=>false) || A5a ops 30 j i)) && okP C W B ops (ahead++[i]) rest
theorem B5d {C W:List Nat} {B:List (Nat × Bool)} {ops:Array Oper} {i:Nat} {R:List Nat}:∀ {A ahead:List Nat},okP C W B ops ahead (A++i::R)=true →
  ∃ o,ops[i]?=some o∧(∀ e ∈ o.after.toList,Region.binds .any e=true→e.on ∈ ahead++A) ∧
   ∀ j ∈ ahead++A,(∃ e ∈ o.after.toList,Region.binds .any e=true∧e.on=j)∨(∃ o',ops[j]?=some o'∧A5l C W B ops o' o=true)∨A5a ops 30 j i=true
 | [],ahead,h=>by
  simp only [List.nil_append,okP,Bool.and_eq_true] at h
  obtain ⟨h,_⟩:=h
  cases ho:ops[i]? with
  | none=>rw [ho] at h;cases h
  | some o =>
   rw [ho] at h
   simp only [Bool.and_eq_true] at h
   refine ⟨o,rfl,fun e he hb=>?_,fun j hj=>?_⟩
   ·have:=List.all_eq_true.1 h.1 e he
    rw [hb] at this
    simpa using this
   ·rw [List.append_nil] at hj
    have:=List.all_eq_true.1 h.2 j hj
    simp only [Bool.or_eq_true] at this
    rcases this with (h1|h1)|h1
    ·obtain ⟨e,he,h2⟩:=List.any_eq_true.1 h1
     simp only [Bool.and_eq_true,beq_iff_eq] at h2
     exact .inl ⟨e,he,h2⟩
    ·cases ho':ops[j]? with
     | none=>rw [ho'] at h1;cases h1
     | some o'=>rw [ho'] at h1;exact .inr (.inl ⟨o',rfl,h1⟩)
    ·exact .inr (.inr h1)
 | x::A,ahead,h=>by
  simp only [List.cons_append,okP,Bool.and_eq_true] at h
  obtain ⟨o,h1,h2,h3⟩:=B5d h.2
  have he:ahead++[x]++A=ahead++x::A:=by simp
  rw [he] at h2 h3
  exact ⟨o,h1,h2,h3⟩
theorem B1o {n i:Nat} {listed:Array Bool} (hs:listed.size=n) (hi:i < n):(listed.setIfInBounds i true).getD i true=true:=by
 simp [Array.getD,hs,hi]
theorem B3r {i j:Nat} {listed:Array Bool} (hj:j≠i):(listed.setIfInBounds i true).getD j true=listed.getD j true:=by
 simp only [Array.getD_eq_getD_getElem?,Array.getElem?_setIfInBounds]
 rw [if_neg (fun h=>hj h.symm)]
theorem B1j {n i:Nat} {perm:List Nat} {listed:Array Bool} (hs:listed.size=n) (hi:i < n) (hnd:perm.Nodup) (hm:i ∈ A06 perm listed) :
  ∃ A R L1 L2,perm=A++i::R∧A06 perm listed=L1++i::L2∧A06 perm (listed.setIfInBounds i true)=L1++L2∧∀ j ∈ L1,j ∈ A:=by
 obtain ⟨hir,hp⟩:=List.mem_filter.1 hm
 obtain ⟨A,R,hAR⟩:=List.append_of_mem hir
 subst hAR
 have hnd':=List.nodup_append.1 hnd
 have nA:i ∉ A:=fun h=>hnd'.2.2 i h i (by simp) rfl
 have nR:i ∉ R:=(List.nodup_cons.1 hnd'.2.1).1
 refine ⟨A,R,A.filter fun i=>!listed.getD i true,R.filter fun i=>!listed.getD i true,rfl,?_,?_,fun j hj=>(List.mem_filter.1 hj).1⟩
 ·unfold A06
  rw [List.filter_append,List.filter_cons,if_pos hp]
 ·unfold A06
  rw [List.filter_append,List.filter_cons,if_neg (by simp only [B1o hs hi];simp)]
  congr 1
  ·exact List.filter_congr fun j hj=>by rw [B3r (by rintro rfl;exact nA hj)]
  ·exact List.filter_congr fun j hj=>by rw [B3r (by rintro rfl;exact nR hj)]
theorem C4n {C W:List Nat} {B:List (Nat × Bool)} {c:Bool→Nat} (hc:c true≠c false) {ops:Array Oper} {o:Oper}:∀ {L1 L2:List Oper} {e:Env} {s:Sto} {K:Env→Sto→Prop},(∀ x ∈ L1,A5l C W B ops x o=true) →
  B2g P Γ C W B c ops (L1++o::L2) e s K→S8 B c o e∧TrG P Γ C W ops o e s fun v s'=>B2g P Γ C W B c ops (L1++L2) (D7 e o.dst v) s' K
 | [],_,_,_,_,_,h=>h
 | x::L1,L2,e,s,K,hx,h=>by
  have h':S8 B c x e∧TrG P Γ C W ops x e s fun v1 s1=>S8 B c o (D7 e x.dst v1)∧TrG P Γ C W ops o (D7 e x.dst v1) s1 fun v2 s2=>B2g P Γ C W B c ops (L1++L2) (D7 (D7 e x.dst v1) o.dst v2) s2 K :=
   ⟨h.1,A9u h.2 fun v s' h=>C4n hc (fun y hy=>hx y (List.mem_cons_of_mem _ hy)) h⟩
  exact D14 (K:=fun e s=>B2g P Γ C W B c ops (L1++L2) e s K) hc (hx x (by simp)) h'
theorem A1m {n j:Nat} {perm:List Nat} {listed:Array Bool} (hs:listed.size=n) (hj:j < n) (h:j ∈ A06 perm listed):listed.getD j false=false:=by
 obtain ⟨_,hp⟩:=List.mem_filter.1 h
 have hlt:j < listed.size:=by omega
 simpa [Array.getD,hlt] using hp
theorem C5l {C W:List Nat} {B:List (Nat × Bool)} {ops:Array Oper} {perm:List Nat} (hd:okP C W B ops [] perm=true) {listed:Array Bool} (hs:listed.size=ops.size) (h:Region.ready .any ops listed=[]):A06 perm listed=[]:=by
 have key:∀ (R A:List Nat),perm=A++R→(∀ j ∈ A,listed.getD j false=true)→∀ j ∈ R,listed.getD j false=true:=by
  intro R
  induction R with
  | nil=>intro A _ _ j hj;cases hj
  | cons i R ih =>
   intro A hA hl
   have hi:listed.getD i false=true:=by
    obtain ⟨o,ho,hedge,_⟩:=B5d (hA ▸ hd)
    have hlt:i < ops.size:=(Array.getElem?_eq_some_iff.1 ho).1
    cases hq:listed.getD i false with
    | true=>rfl
    | false =>
     have:i ∈ Region.ready .any ops listed:=by
      unfold Region.ready
      refine List.mem_filter.2 ⟨List.mem_range.2 hlt,?_⟩
      have hq':listed.getD i true=false:=by
       have hlt':i < listed.size:=by omega
       simpa [Array.getD,hlt'] using hq
      rw [hq',ho]
      simp only [Option.map_some,Option.getD_some,Bool.not_false,Bool.true_and]
      refine Array.all_eq_true_iff_forall_mem.2 fun e he=>?_
      cases hb:Region.binds .any e with
      | false=>rfl
      | true =>
       have hon:=hedge e (by simpa using he) hb
       rw [hl e.on (by simpa using hon)]
       rfl
     rw [h] at this
     cases this
   intro j hj
   rcases List.mem_cons.1 hj with rfl|hj
   ·exact hi
   ·exact ih (A++[i]) (by rw [hA];simp) (fun k hk=>by
     rcases List.mem_append.1 hk with hk|hk
     ·exact hl k hk
     ·rw [List.mem_singleton] at hk;subst hk;exact hi) j hj
 refine List.eq_nil_iff_forall_not_mem.2 fun i hi=>?_
 obtain ⟨hm,hp⟩:=List.mem_filter.1 hi
 have:=key perm [] rfl (fun _ h=>by cases h) i hm
 simp only [Array.getD_eq_getD_getElem?] at this hp
 cases hg:listed[i]? with
 | none=>rw [hg] at this;cases this
 | some b=>rw [hg] at this hp;cases b<;>simp_all
variable {n:Nat}
theorem C6y {C W:List Nat} {B:List (Nat × Bool)} {c:Bool→Nat} (hc:c true≠c false) {ops:Array Oper} {perm:List Nat} {Q:Exit→Env→Sto→Prop} {G0:Gh} {w0:World} (hok:ops.toList.all (A1b n)=true) (hd:okP C W B ops [] perm=true)
  (hnd:perm.Nodup) (hall:∀ i < ops.size,i ∈ perm) :
  ∀ (fuel:Nat) (listed:Array Bool) {G:Gh} {w:World} {a:Act} {e:Env} {s:Sto},A5c ops listed→listed.size=ops.size→(A06 perm listed).length≤fuel →
   Ext G0 w0 G w→Mod Γ G s w→Y6 G w n e a→B2g P Γ C W B c ops (A4z ops perm listed) e s (fun e' s'=>Q .normal e' s')→wpAny P .any ops (A5b Γ n G0 w0 Q) fuel listed a w:=by
 have memP:∀ {listed:Array Bool} {i:Nat},i ∈ A22 ops.size listed→i < ops.size∧i ∈ A06 perm listed:=fun hi=>by
  obtain ⟨h1,h2⟩:=List.mem_filter.1 hi
  exact ⟨List.mem_range.1 h1,List.mem_filter.2 ⟨hall _ (List.mem_range.1 h1),h2⟩⟩
 intro fuel
 induction fuel with
 | zero =>
  intro listed G w a e s hcl hs hf X hm he h
  have hr:A06 perm listed=[]:=List.eq_nil_of_length_eq_zero (by omega)
  refine ⟨List.eq_nil_iff_forall_not_mem.2 fun i hi=>?_,?_⟩
  ·have:=(memP (A0v hi).1).2;rw [hr] at this;cases this
  ·unfold A4z at h;rw [hr] at h
   exact ⟨e,s,G,h,hm,he,X⟩
 | succ fuel ih =>
  intro listed G w a e s hcl hs hf X hm he h
  refine ⟨fun hnil=>?_,fun i hi=>?_⟩
  ·unfold A4z at h;rw [C5l hd hs hnil] at h
   exact ⟨e,s,G,h,hm,he,X⟩
  ·obtain ⟨hi0,o,ho,hedge⟩:=A0v hi
   obtain ⟨hlt,hi1⟩:=memP hi0
   obtain ⟨A,R9,L1,L2,hAR,h1,h2,h3⟩:=B1j hs hlt hnd hi1
   have hO:A4z ops perm listed=L1.filterMap (ops[·]?)++o::L2.filterMap (ops[·]?):=by
    unfold A4z;rw [h1,List.filterMap_append,List.filterMap_cons,ho]
   have hO':A4z ops perm (listed.setIfInBounds i true)=L1.filterMap (ops[·]?)++L2.filterMap (ops[·]?):=by
    unfold A4z;rw [h2,List.filterMap_append]
   rw [hO] at h
   obtain ⟨o9,ho9,_,hat⟩:=B5d (hAR ▸ hd)
   rw [ho] at ho9;injection ho9 with ho9;subst ho9
   have hfront:=(C4n (P:=P) (Γ:=Γ) hc (ops:=ops) (o:=o) (fun x hx=>by
    obtain ⟨j,hj,hjx⟩:=List.mem_filterMap.1 hx
    have hjl:j < ops.size:=(Array.getElem?_eq_some_iff.1 hjx).1
    have hjm:j ∈ A06 perm listed:=by rw [h1];exact List.mem_append_left _ hj
    rcases hat j (by simpa using h3 j hj) with ⟨e,he,hb,hej⟩|⟨o',ho',hi'⟩|hre
    ·have h5:=hedge e he hb
     rw [hej,A1m hs hjl hjm] at h5
     cases h5
    ·rw [ho'] at hjx;injection hjx with hjx;rw [← hjx];exact hi'
    ·have h5:=A0n hcl 30 i o ho hedge hre
     rw [A1m hs hjl hjm] at h5
     cases h5) h).2
   have hcl':A5c ops (listed.setIfInBounds i true):=fun p o' ho' hl e he hb=>by
    rcases A3t hl with rfl|hl
    ·rw [ho] at ho';injection ho' with ho';subst ho'
     exact A14 (hedge e he hb)
    ·exact A14 (hcl p o' ho' hl e he hb)
   have hoo:A1b n o=true:=List.all_eq_true.1 hok o (by
    obtain ⟨hlt,rfl⟩:=Array.getElem?_eq_some_iff.1 ho
    exact Array.getElem_mem_toList hlt)
   have hlen:(A06 perm (listed.setIfInBounds i true)).length≤fuel:=by
    rw [h1] at hf;rw [h2];simp only [List.length_append,List.length_cons] at hf ⊢;omega
   have next:∀ {v:Value} {r:AV} {s':Sto} {G':Gh} {w':World},B2g P Γ C W B c ops (L1.filterMap (ops[·]?)++L2.filterMap (ops[·]?)) (D7 e o.dst r) s' (fun e' s'=>Q .normal e' s') →
     R G' w' r v→Mod Γ G' s' w'→Ext G w G' w'→wpAny P .any ops (A5b Γ n G0 w0 Q) fuel (listed.setIfInBounds i true) (a.put o.dst v) w':=by
    intro v r s' G' w' hK hR hm' X'
    refine ih _ hcl' (by simp [hs]) hlen (X.trans X') hm' ((he.mono X').put (A16 hoo) hR) ?_
    rw [hO'];exact hK
   unfold wpOp
   rw [ho]
   dsimp only
   rcases A4v he (C3o hfront) (B4k hok) with ⟨hw,h⟩|⟨hw,h⟩
   ·rw [if_pos hw]
    refine .inl (A56 hm he (A67 hoo) h ?_)
    intro v r s' G' w' hK hR hm' X'
    exact next hK hR hm' X'
   ·rw [if_neg (by rw [hw];simp)]
    exact next h A2i hm (Ext.refl _ _)
def TrD (P:Program) (Γ:Nat→AV) (C W:List Nat) (ops:Array Oper) (o:Oper) (e:Env) (s:Sto) (K:AV→Sto→Prop) (N:Prop):Prop :=
 match dIn W o.dst with
 | true=>N3 ops e o.guard (D2 P Γ (evA Γ e) s o.op K) N
 | false=>(match dIn C o.dst with
  | true=>o.guard=none∧X7 P Γ (B7w C o.dst) (evA Γ e) s o.op K
  | false=>N3 ops e o.guard (C9 P Γ (evA Γ e) s o.op K) N)
def D1x (P:Program) (Γ:Nat→AV) (C W:List Nat) (B:List (Nat × Bool)) (c:Bool→Nat) (ops:Array Oper) (o:Oper) (_:List Oper) (rest:Env→Sto→(Env→Sto→Prop)→Prop) (e:Env) (s:Sto) (K:Env→Sto→Prop):Prop :=
 S8 B c o e∧TrD P Γ C W ops o e s (fun v s'=>frc v fun v'=>A5t o.dst e v' fun e'=>rest e' s' K) (A5t o.dst e undefA fun e'=>rest e' s K)
def B21 (P:Program) (Γ:Nat→AV) (C W:List Nat) (B:List (Nat × Bool)) (c:Bool→Nat) (ops:Array Oper) (l:List Oper):Env→Sto→(Env→Sto→Prop)→Prop :=
 List.rec (motive:=fun _=>Env→Sto→(Env→Sto→Prop)→Prop) C7c (D1x P Γ C W B c ops) l
theorem B4m {C W:List Nat} {B:List (Nat × Bool)} {c:Bool→Nat} {ops:Array Oper}:∀ (l:List Oper) {e:Env} {s:Sto} {K:Env→Sto→Prop},B21 P Γ C W B c ops l e s K→B2g P Γ C W B c ops l e s K
 | [],_,_,_,h=>h
 | o::l,e,s,K,h=>by
  refine ⟨h.1,?_⟩
  have h2:=h.2
  unfold TrD at h2
  unfold TrG
  have y:∀ v s',(frc v fun v'=>A5t o.dst e v' fun e'=>B21 P Γ C W B c ops l e' s' K)→B2g P Γ C W B c ops l (D7 e o.dst v) s' K:=fun v s' h=>by
   rw [F8,A1k] at h;exact B4m l h
  have n:(A5t o.dst e undefA fun e'=>B21 P Γ C W B c ops l e' s K)→B2g P Γ C W B c ops l (D7 e o.dst undefA) s K:=fun h=>by
   rw [A1k] at h;exact B4m l h
  split at h2
  ·exact F9 h2 (fun h=>W7 h y) n
  ·split at h2
   ·exact ⟨h2.1,A2p h2.2 y⟩
   ·exact F9 h2 (fun h=>W8 h y) n
def A5s (n:Nat) (perm:List Nat):Bool:=(List.range n).all (fun i=>perm.elem i) && decide perm.Nodup && Nat.beq perm.length n
theorem AWp.anyG (C W:List Nat) (B:List (Nat × Bool)) (c:Bool→Nat) (perm:List Nat) (hc:c true≠c false) {id:Nat} {ops:Array Oper} {Q:Exit→Env→Sto→Prop} {e:Env} {s:Sto} (hmix:P.follows .mixedOrders=true) (hok:ops.toList.all (A1b n)=true)
  (hp:A5s ops.size perm=true) (hd:okP C W B ops [] perm=true)
  (h:B21 P Γ C W B c ops (perm.filterMap (ops[·]?)) e s fun e' s'=>Q .normal e' s'):AWp P Γ n (.region id ops true) Q e s:=by
 refine ⟨fun G w a hm he=>?_⟩
 refine wp_region_any hmix ?_
 unfold A5s at hp
 simp only [Bool.and_eq_true,decide_eq_true_eq] at hp
 have hall:∀ i < ops.size,i ∈ perm:=fun i hi=>by simpa using List.all_eq_true.1 hp.1.1 i (List.mem_range.2 hi)
 have hlt:∀ i ∈ perm,i < ops.size:=fun i hi=>by
  obtain ⟨A,R,hAR⟩:=List.append_of_mem hi
  obtain ⟨o,ho,_⟩:=B5d (hAR ▸ hd)
  exact (Array.getElem?_eq_some_iff.1 ho).1
 have hrem:A06 perm (Array.replicate ops.size false)=perm:=by
  unfold A06
  refine List.filter_eq_self.2 fun i hi=>?_
  simp [Array.getD,hlt i hi]
 have hlen:perm.length≤ops.size:=by
  exact Nat.le_of_eq (Nat.eq_of_beq_eq_true hp.2)
 obtain ⟨hm1,X1⟩:=Mod.drew hm
 exact C6y (P:=P) (Γ:=Γ) (Q:=Q) hc hok hd hp.1.2 hall ops.size (Array.replicate ops.size false) (fun p o' _ hl=>by simp [Array.getD_eq_getD_getElem?,Array.getElem?_replicate] at hl;split at hl<;>cases hl) (by simp) (by rw [hrem];exact hlen) X1 hm1 (he.mono X1)
  (by unfold A4z;rw [hrem];exact B4m _ h)
theorem AWp.anyP (B:List (Nat × Bool)) (c:Bool→Nat) (perm:List Nat) (hc:c true≠c false) {id:Nat} {ops:Array Oper} {Q:Exit→Env→Sto→Prop} {e:Env} {s:Sto} (hmix:P.follows .mixedOrders=true) (hok:ops.toList.all (A1b n)=true)
  (hp:A5s ops.size perm=true) (hd:okP [] [] B ops [] perm=true)
  (h:B21 P Γ [] [] B c ops (perm.filterMap (ops[·]?)) e s fun e' s'=>Q .normal e' s'):AWp P Γ n (.region id ops true) Q e s:=AWp.anyG [] [] B c perm hc hmix hok hp hd h
theorem AWp.anyC (C W:List Nat) {id:Nat} {ops:Array Oper} {Q:Exit→Env→Sto→Prop} {e:Env} {s:Sto} (hmix:P.follows .mixedOrders=true) (hok:ops.toList.all (A1b n)=true)
  (hp:A5s ops.size (List.range ops.size)=true) (hd:okP C W [] ops [] (List.range ops.size)=true)
  (h:B21 P Γ C W [] (fun k=>cond k 0 1) ops ((List.range ops.size).filterMap (ops[·]?)) e s fun e' s'=>Q .normal e' s'):AWp P Γ n (.region id ops true) Q e s:=AWp.anyG C W [] _ _ (by decide) hmix hok hp hd h
end
end Go.Ab
