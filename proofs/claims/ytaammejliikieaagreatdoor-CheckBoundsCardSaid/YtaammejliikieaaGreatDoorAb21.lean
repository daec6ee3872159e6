/- Aids: bytes of a text at a place; who owns a row that grows. -/
import Derived.Test.YtaammejliikieaaGreatDoorAb20
set_option maxRecDepth 10000
set_option maxHeartbeats 60000000
set_option linter.all false
namespace Go.Ab
open Go
theorem X3 {l:List UInt8} {i:Nat} (h:i < l.length):l.drop i=B0 l i::l.drop (i+1):=by
 rw [List.drop_eq_getElem_cons h]
 simp [B0,List.getD,h]
theorem C0 {α:Type} {l:List α} {i:Nat} (h:¬ i < l.length):l.drop i=[]:=List.drop_of_length_le (by omega)
theorem B6f (l:List UInt8) (i j:Nat):B0 (l.drop i) j=B0 l (i+j):=by simp [B0,List.getD]
theorem B30 {l:List UInt8} {i:Nat} (h:i < l.length):l.take (i+1)=l.take i++[B0 l i]:=by
 rw [List.take_add_one]
 simp [B0,List.getD,h]
theorem B8s {l:List UInt8} {i:Nat} (h:i < l.length):(K6 l).getD i []=[.int .u8 (B0 l i).toNat]:=by
 simp [K6,B0,List.getD,h]
theorem B0i {Γ:Nat→AV} {e:Env} {g:Nat}:evA Γ e (.global g)=Γ g:=rfl
theorem B10:∀ l:List UInt8,unB (K6 l)=some l
 | []=>rfl
 | b::l=>by
  have ih:=B10 l
  simp only [K6,List.map_cons,unB] at ih ⊢
  rw [ih]
  simp [A9j]
theorem B8r (l:List UInt8):∀ c ∈ K6 l,c.length=1:=by
 intro c hc
 obtain ⟨x,_,rfl⟩:=List.mem_map.1 hc
 rfl
theorem A97 (l:List UInt8):(K6 l).length=l.length:=by simp [K6]
theorem B2d (l m:List UInt8):K6 (l++m)=K6 l++K6 m:=by simp [K6]
theorem Z6 {α:Type} (l:List α) (i:Nat):(l.take l.length).drop i=l.drop i:=by simp
theorem B74 (b:UInt8):b.toNat < 256:=b.toNat_lt
structure Own (s s':Sto) (z:Bool) (t:Nat) (e:TypeId) (k:Nat):Prop where
 sub:Sub s s'
 own:(t=1∧z=true)∨(t≠1∧s'.lv t e k∧∀ e k,¬ s.lv t e k)
theorem Own.nil (s:Sto) (e:TypeId) (k:Nat):Own s s true 1 e k:=⟨Sub.refl s,.inl ⟨rfl,rfl⟩⟩
theorem Own.start {s s':Sto} (h:Sub s s') (e:TypeId) (k:Nat):Own s s' true 1 e k:=⟨h,.inl ⟨rfl,rfl⟩⟩
theorem Own.may {s s':Sto} {z:Bool} {t:Nat} {e:TypeId} {k:Nat} (h:Own s s' z t e k):t=1∨s'.lv t e k:=h.own.imp (·.1) (·.2.1)
theorem Own.grow {α:Type} {s s':Sto} {z:Bool} {t t':Nat} {e:TypeId} {k:Nat} {l:List α} (h:Own s s' z t e k) (h1:(t'=1∧t=1∧l=[])∨(t'≠1∧(s'.grow t t' e k).lv t' e k)) (h2:t'≠t→∀ e' k',¬ s'.lv t' e' k') :
  Own s (s'.grow t t' e k) (z && l.isEmpty) t' e k:=by
 refine ⟨h.sub.grow (h.own.imp (·.1) fun x=>x.2.2) t' e k,?_⟩
 rcases h1 with ⟨h1,h3,rfl⟩|⟨h0,h1⟩
 ·rcases h.own with ⟨_,hz⟩|⟨h',_⟩
  ·exact .inl ⟨h1,by simp [hz]⟩
  ·exact absurd h3 h'
 ·refine .inr ⟨h0,h1,?_⟩
  by_cases ht:t'=t
  ·subst ht
   rcases h.own with h'|h'
   ·exact absurd h'.1 h0
   ·exact h'.2.2
  ·exact fun e k hx=>h2 ht e k (h.sub.lv _ _ _ hx)
theorem Own.set {s s':Sto} {z:Bool} {t b:Nat} {e T:TypeId} {k:Nat} {cs:List AV} (h:Own s s' z t e k) (hb:s.bx b=none):Own s (s'.set b T cs) z t e k :=
 ⟨h.sub.set hb T cs,h.own⟩
theorem Q5 {s:Sto} {t t' b:Nat} {e:TypeId} {k:Nat}:(s.grow t t' e k).bx b=s.bx b:=rfl
theorem Own.of_sub {a s s':Sto} {z:Bool} {t:Nat} {e:TypeId} {k:Nat} (h:Own s s' z t e k) (ha:Sub a s):Own a s' z t e k :=
 ⟨ha.trans h.sub,h.own.imp id fun x=>⟨x.1,x.2.1,fun e k hx=>x.2.2 e k (ha.lv _ _ _ hx)⟩⟩
theorem C3 {α:Type} {p:α→Prop}:∀ c ∈ ([]:List α),p c:=fun _ h=>nomatch h
theorem all_cons {α:Type} {p:α→Prop} {a:α} {l:List α} (h:p a) (k:∀ c ∈ l,p c):∀ c ∈ a::l,p c:=List.forall_mem_cons.2 ⟨h,k⟩
theorem G6 {α:Type} {a b:α} {l m:List α} (h:a=b) (k:l=m):a::l=b::m:=by rw [h,k]
section
variable {P:Program} {Γ:Nat→AV} {n:Nat} {Q:Exit→Env→Sto→Prop} {e:Env} {s:Sto}
theorem A2.pure' {f:FuncId} {args:List AV} {φ:AV→Prop} {K:AV→Sto→Prop} (hk:∀ v,φ v→K v s) (h:A8 P Γ f args φ):A2 P Γ f args s K:=A2.pure h hk
theorem A7.pure {f:FuncId} {args:List AV} {r:AV} {K:AV→Sto→Prop} (hk:K r s) (h:A8 P Γ f args fun v=>v=r):A7 P Γ f args s K:=⟨r,h,hk⟩
theorem AWp.loopA {α:Type} {c:Code} (S J:List Nat) (vs:α→List AV) (I:α→Sto→Prop) (μ:α→Nat) (a0:α) (hok:V8 n c=true) (h0:S.map e=vs a0) (hI:I a0 s)
  (round:∀ x a s',I a s' →
   awp P Γ n c (C00 (fun e' s''=>∃ a',S.map e'=vs a'∧L0 (S++J) e e'∧I a' s''∧μ a' < μ a) Q) (updL (havoc e J x) S (vs a)) s'):AWp P Γ n (.loop c) Q e s:=by
 refine ⟨fun G w ac hm he=>?_⟩
 have key:∀ m G1 w1 a1 e1 s1 a,μ a < m→I a s1→S.map e1=vs a→L0 (S++J) e e1→Mod Γ G1 s1 w1→Y6 G1 w1 n e1 a1→Ext G w G1 w1 →
   Code.rounds P c (fun x a' w'=>∃ e' s' G',Q x e' s'∧Mod Γ G' s' w'∧Y6 G' w' n e' a'∧Ext G w G' w') m a1 w1:=by
  intro m
  induction m with
  | zero=>intro _ _ _ _ _ _ h;omega
  | succ m ih =>
   intro G1 w1 a1 e1 s1 a hmu hI1 hv hS hm1 he1 X1
   rw [rounds_succ]
   have hee:updL (havoc e J e1) S (vs a)=e1:=by
    rw [← hv]
    funext i
    cases hi:S.elem i with
    | true=>exact B11 S e1 i hi
    | false =>
     rw [B12 S _ i hi]
     unfold havoc
     cases hj:J.elem i with
     | true=>rfl
     | false =>
      refine (hS i ?_).symm
      have h1:i ∉ S:=by simpa using hi
      have h2:i ∉ J:=by simpa using hj
      simp [h1,h2]
   have hr:=round e1 a s1 hI1
   rw [hee] at hr
   refine Code.wp_mono ?_ ((A1o c hok hr).run G1 w1 a1 hm1 he1)
   rintro x a' w' ⟨e',s',G',q,hm',he',X⟩
   cases x with
   | normal =>
    obtain ⟨b,q1,q2,q3,q4⟩:=q
    exact ih G' w' a' e' s' b (by omega) q3 q1 q2 hm' he' (X1.trans X)
   | _=>exact ⟨e',s',G',q,hm',he',X1.trans X⟩
 exact wp_loop_rounds _ (key _ G w ac e s a0 (Nat.lt_succ_self _) hI h0 (L0.refl _ _) hm he (Ext.refl _ _))
end
end Go.Ab
