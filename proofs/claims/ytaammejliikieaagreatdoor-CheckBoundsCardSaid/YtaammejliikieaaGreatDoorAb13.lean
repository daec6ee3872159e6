/- A function's code, walked over abstract states. -/
import Derived.Test.YtaammejliikieaaGreatDoorAb12
set_option maxRecDepth 10000
set_option maxHeartbeats 60000000
set_option linter.all false
namespace Go.Ab
open Go
def N3 (ops:Array Oper) (e:Env) (g:Option (Nat × Bool)) (yes no:Prop):Prop :=
 match g with
 | none=>yes
 | some (j,want) =>
  match (ops[j]?).bind Oper.dst with
  | none=>False
  | some d =>
   match e d with
   | .bool b=>(match want with|true=>brA b yes no|false=>brA b no yes)
   | .tuple _=>no
   | _=>False
def A5t (d:Option Nat) (e:Env) (v:AV) (K:Env→Prop):Prop :=
 match d with
 | some d=>K (upd e d v)
 | none=>K e
theorem A1k (d:Option Nat) (e:Env) (v:AV) (K:Env→Prop):A5t d e v K=K (D7 e d v):=by cases d<;>rfl
def D2n (P:Program) (Γ:Nat→AV) (ops:Array Oper) (o:Oper) (_:List Oper) (rest:Env→Sto→(Env→Sto→Prop)→Prop) (e:Env) (s:Sto) (K:Env→Sto→Prop):Prop :=
 N3 ops e o.guard (D2 P Γ (evA Γ e) s o.op fun v s'=>frc v fun v'=>A5t o.dst e v' fun e'=>rest e' s' K) (A5t o.dst e undefA fun e'=>rest e' s K)
def C7c (e:Env) (s:Sto) (K:Env→Sto→Prop):Prop:=K e s
def B4g (P:Program) (Γ:Nat→AV) (ops:Array Oper) (l:List Oper):Env→Sto→(Env→Sto→Prop)→Prop :=
 List.rec (motive:=fun _=>Env→Sto→(Env→Sto→Prop)→Prop) C7c (D2n P Γ ops) l
abbrev CodeA:=(Exit→Env→Sto→Prop)→Env→Sto→Prop
def D2q (P:Program) (Γ:Nat→AV) (n:Nat) (id:Nat) (ops:Array Oper) (draw:Bool) (Q:Exit→Env→Sto→Prop) (e:Env) (s:Sto):Prop :=
 match draw with
 | true=>AWp P Γ n (.region id ops true) Q e s
 | false=>B4g P Γ ops ops.toList e s fun e' s'=>Q .normal e' s'
def C84:CodeA:=fun Q e s=>Q .normal e s
def D2w (_ _:Code) (a b:CodeA):CodeA:=fun Q e s=>a (C00 (b Q) Q) e s
def D07 (Γ:Nat→AV) (c:Operand) (_ _:Code) (a b:CodeA):CodeA:=fun Q e s=>asB (evA Γ e c) fun t=>brA t (a Q e s) (b Q e s)
def D2i (id:Nat) (_:Code) (c:CodeA):CodeA:=fun Q e s=>c (B8l id Q) e s
def loopA (P:Program) (Γ:Nat→AV) (n:Nat) (c:Code) (_:CodeA):CodeA:=fun Q e s=>AWp P Γ n (.loop c) Q e s
def D0n (_:Code) (c:CodeA):CodeA:=fun Q e s=>c (C5u Q) e s
def D08 (id:Nat):CodeA:=fun Q e s=>Q (.exit id) e s
def D11:CodeA:=fun Q e s=>Q .ret e s
def noA:CodeA:=fun _ _ _=>False
def awp (P:Program) (Γ:Nat→AV) (n:Nat) (c:Code):CodeA :=
 Code.rec (motive:=fun _=>CodeA) C84 (D2q P Γ n) D2w (D07 Γ) D2i (loopA P Γ n) (fun _ _ _ _ _ _=>noA) D08 D0n (fun _=>C84) (fun _=>noA) D11 (fun _=>noA) c
def A1b (n:Nat) (o:Oper):Bool :=
 o.op.operands.toList.all okX && (match o.dst with|some d=>decide (d < n)|none=>true)
def V8 (n:Nat):Code→Bool
 | .region _ ops _=>ops.toList.all (A1b n)
 | .seq a b=>V8 n a && V8 n b
 | .cond c a b=>okX c && V8 n a && V8 n b
 | .block _ c=>V8 n c
 | .loop c=>V8 n c
 | .scope c=>V8 n c
 | _=>true
section
variable {P:Program} {Γ:Nat→AV} {n:Nat}
theorem A67 {o:Oper} (h:A1b n o=true):∀ x ∈ o.op.operands.toList,okX x=true:=by
 unfold A1b at h
 simp only [Bool.and_eq_true] at h
 exact List.all_eq_true.1 h.1
theorem A16 {o:Oper} (h:A1b n o=true):∀ i,o.dst=some i→i < n:=by
 unfold A1b at h
 simp only [Bool.and_eq_true] at h
 intro i hi
 have:=h.2
 rw [hi] at this
 simpa using this
theorem A4v {ops:Array Oper} {G:Gh} {w:World} {e:Env} {a:Act} {o:Oper} {yes no:Prop} (he:Y6 G w n e a) (h:N3 ops e o.guard yes no) (hd:∀ (j d:Nat),(ops[j]?).bind Oper.dst=some d→d < n) :
  (Region.wanted o (yielded ops a.tmps)=true∧yes)∨(Region.wanted o (yielded ops a.tmps)=false∧no):=by
 unfold N3 at h
 unfold Region.wanted
 split at h
 ·rename_i hg;rw [hg];exact .inl ⟨rfl,h⟩
 ·rename_i j want hg
  rw [hg]
  split at h
  ·exact h.elim
  ·rename_i d hjd
   have hR:=he.at_ d
   have hlt:=hd j d hjd
   have hget:a.tmps[d]?=some (a.tmps.getD d undef):=by
    have:d < a.tmps.size:=by rw [he.size];exact hlt
    simp [Array.getD,this]
   dsimp only
   unfold yielded
   rw [show ((ops[j]?).bind fun x=>x.dst)=some d from hjd]
   simp only [Option.bind_some,hget]
   split at h
   ·rename_i b hb
    rw [hb,F7] at hR
    rw [hR]
    cases want<;>cases b
    ·exact .inl ⟨by simp,h⟩
    ·exact .inr ⟨by simp,h⟩
    ·exact .inr ⟨by simp,h⟩
    ·exact .inl ⟨by simp,h⟩
   ·rename_i vs hb
    rw [hb] at hR
    obtain ⟨us,hR,_⟩:=A0k.1 hR
    rw [hR]
    exact .inr ⟨by simp,h⟩
   ·exact h.elim
def A5b (Γ:Nat→AV) (n:Nat) (G:Gh) (w:World) (Q:Exit→Env→Sto→Prop) (x:Exit) (a':Act) (w':World):Prop :=
 ∃ e' s' G',Q x e' s'∧Mod Γ G' s' w'∧Y6 G' w' n e' a'∧Ext G w G' w'
theorem B4k {ops:Array Oper} (hok:ops.toList.all (A1b n)=true):∀ (j d:Nat),(ops[j]?).bind Oper.dst=some d→d < n:=by
 intro j d h
 obtain ⟨o,ho,hd⟩:=Option.bind_eq_some_iff.1 h
 have hmem:o ∈ ops.toList:=by
  obtain ⟨hlt,rfl⟩:=Array.getElem?_eq_some_iff.1 ho
  exact Array.getElem_mem_toList hlt
 exact A16 (List.all_eq_true.1 hok o hmem) d hd
theorem B9j {ops:Array Oper} {Q:Exit→Env→Sto→Prop} {G0:Gh} {w0:World} (hok:ops.toList.all (A1b n)=true):∀ (l:List Oper) (i:Nat) {G:Gh} {w:World} {a:Act} {e:Env} {s:Sto},ops.toList.drop i=l →
  Ext G0 w0 G w→Mod Γ G s w→Y6 G w n e a→B4g P Γ ops l e s (fun e' s'=>Q .normal e' s')→wpOps P ops (A5b Γ n G0 w0 Q) (List.range' i l.length) a w
 | [],i,G,w,a,e,s,_,X,hm,he,h=>⟨e,s,G,h,hm,he,X⟩
 | o::l,i,G,w,a,e,s,hd,X,hm,he,h=>by
  have hlt:i < ops.toList.length:=by
   rcases Nat.lt_or_ge i ops.toList.length with hh|hh
   ·exact hh
   ·rw [List.drop_of_length_le hh] at hd;cases hd
  rw [List.drop_eq_getElem_cons hlt] at hd
  injection hd with ho hd
  have hoi:ops[i]?=some o:=by rw [← Array.getElem?_toList,List.getElem?_eq_getElem hlt,ho]
  have hoo:A1b n o=true:=List.all_eq_true.1 hok o (by rw [← ho];exact List.getElem_mem hlt)
  simp only [List.length_cons,List.range'_succ,wpOps,hoi]
  replace h:N3 ops e o.guard (D2 P Γ (evA Γ e) s o.op fun v s'=>frc v fun v'=>A5t o.dst e v' fun e'=>B4g P Γ ops l e' s' (fun e' s'=>Q .normal e' s')) (A5t o.dst e undefA fun e'=>B4g P Γ ops l e' s (fun e' s'=>Q .normal e' s')):=h
  rcases A4v he h (B4k hok) with ⟨hw,h⟩|⟨hw,h⟩
  ·rw [if_pos hw]
   refine .inl (A56 hm he (A67 hoo) h ?_)
   intro v r s' G' w' hK hR hm' X'
   rw [F8,A1k] at hK
   exact B9j hok l (i+1) hd (X.trans X') hm' ((he.mono X').put (A16 hoo) hR) hK
  ·rw [if_neg (by rw [hw];simp)]
   rw [A1k] at h
   exact B9j hok l (i+1) hd X hm (he.put (A16 hoo) A2i) h
theorem A1o:∀ (c:Code) {Q:Exit→Env→Sto→Prop} {e:Env} {s:Sto},V8 n c=true→awp P Γ n c Q e s→AWp P Γ n c Q e s
 | .skip,Q,e,s,_,h=>AWp.skip h
 | .region id ops draw,Q,e,s,hok,h=>by
  cases draw with
  | true=>exact h
  | false =>
   refine ⟨fun G w a hm he=>?_⟩
   refine wp_region ?_
   have:=B9j (P:=P) (Γ:=Γ) (Q:=Q) (n:=n) (by simpa [V8] using hok) ops.toList 0 rfl (Ext.refl _ _) hm he h
   rw [List.range_eq_range',← Array.length_toList]
   exact this
 | .seq c d,Q,e,s,hok,h=>by
  simp only [V8,Bool.and_eq_true] at hok
  refine AWp.seq ((A1o c hok.1 h).mono ?_)
  intro x e s hx
  cases x with
  | normal=>exact A1o d hok.2 hx
  | _=>exact hx
 | .cond c a b,Q,e,s,hok,h=>by
  simp only [V8,Bool.and_eq_true] at hok
  refine ⟨fun G w ac hm he=>?_⟩
  have hc:=B4p hm he hok.1.1
  replace h:asB (evA Γ e c) fun t=>brA t (awp P Γ n a Q e s) (awp P Γ n b Q e s):=h
  cases hcv:evA Γ e c<;>rw [hcv] at h hc<;>try exact h.elim
  rename_i t
  rw [F7] at hc
  refine wp_cond hc ?_
  cases t
  ·exact (A1o b hok.2 h).run G w ac hm he
  ·exact (A1o a hok.1.2 h).run G w ac hm he
 | .block id c,Q,e,s,hok,h=>AWp.block (A1o c hok h)
 | .loop c,Q,e,s,_,h=>h
 | .exit id,Q,e,s,_,h=>AWp.exit h
 | .scope c,Q,e,s,hok,h=>AWp.scope (A1o c hok h)
 | .label _,Q,e,s,_,h=>AWp.label h
 | .ret,Q,e,s,_,h=>AWp.ret h
end
end Go.Ab
