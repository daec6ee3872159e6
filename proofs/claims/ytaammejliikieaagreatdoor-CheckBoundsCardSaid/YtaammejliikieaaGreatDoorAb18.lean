/- A region whose order is open: the order of its text serves for every order. -/
import Derived.Test.YtaammejliikieaaGreatDoorAb17
set_option maxRecDepth 10000
set_option maxHeartbeats 60000000
set_option linter.all false
namespace Go.Ab
open Go
section
variable {P:Program} {Γ:Nat→AV}
theorem B8h {ev ev':Operand→AV} {s:Sto} {op:Op} {K:AV→Prop} (hev:∀ x ∈ op.operands.toList,ev x=ev' x) (h:H6 P ev s op K):H6 P ev' s op K:=by
 have opt:∀ x:Option Operand,(∀ y,x=some y→ev y=ev' y)→x.map ev=x.map ev':=fun x hx=>by
  cases x with
  | none=>rfl
  | some y=>exact congrArg some (hx y rfl)
 cases op<;>dsimp only [H6] at h ⊢<;>dsimp only [Op.operands] at hev<;>try exact h.elim
 case move x=>rw [← hev x (by simp)];exact h
 case assign x=>rw [← hev x (by simp)];exact h
 case pick c a b=>rw [← hev c (by simp),← hev a (by simp),← hev b (by simp)];exact h
 case binOp op t x y yt=>rw [← hev x (by simp),← hev y (by simp)];exact h
 case unOp op t x=>rw [← hev x (by simp)];exact h
 case convert src dst x=>rw [← hev x (by simp)];exact h
 case makeInterface t x=>rw [← hev x (by simp)];exact h
 case makeFunc fn first captured =>
  rw [← List.map_congr_left (f:=ev) (g:=ev') fun x hx=>hev x (by simp at hx ⊢;exact .inl hx),← List.map_congr_left (f:=ev) (g:=ev') fun x hx=>hev x (by simp at hx ⊢;exact .inr hx)];exact h
 case slice t x lo hi mx =>
  rw [← hev x (by simp),← opt lo fun y hy=>hev y (by simp [hy]),← opt hi fun y hy=>hev y (by simp [hy]),← opt mx fun y hy=>hev y (by simp [hy])];exact h
 case fieldAddr t x f=>rw [← hev x (by simp)];exact h
 case indexAddr t x i=>rw [← hev x (by simp),← hev i (by simp)];exact h
 case index t x i=>rw [← hev x (by simp),← hev i (by simp)];exact h
 case field t x f=>rw [← hev x (by simp)];exact h
 case lookup t x i ok=>rw [← hev x (by simp),← hev i (by simp)];exact h
 case nilCheck x=>rw [← hev x (by simp)];exact h
 case extract x i=>rw [← hev x (by simp)];exact h
 case build t parts =>
  rw [← List.map_congr_left (f:=fun x:Nat × Operand=>(x.1,ev x.2)) (g:=fun x:Nat × Operand=>(x.1,ev' x.2)) fun x hx=>by
   rw [hev x.2 (by simp;exact ⟨x.1,by simpa using hx⟩)]]
  exact h
 case load t x=>rw [← hev x (by simp)];exact h
 case call c =>
  cases hc:c.callee with
  | builtin b =>
   rw [hc] at h
   dsimp only at h ⊢
   rw [← List.map_congr_left (f:=ev) (g:=ev') fun x hx=>hev x (by simp [Call.operands,hc] at hx ⊢;exact hx)]
   exact h
  | value f=>rw [hc] at h;exact h.elim
  | invoke r m=>rw [hc] at h;exact h.elim
theorem C3y {ev:Operand→AV} {s s':Sto} {op:Op} {K:AV→Prop} (hs:∀ b x,s.bx b=some x→s'.bx b=some x) (hq:s'.mp=s.mp) (h:H6 P ev s op K):H6 P ev s' op K:=by
 have box:∀ {b:Nat} {T:TypeId→List AV→Prop},getB (s.bx b) T→getB (s'.bx b) T:=fun h=>by
  obtain ⟨T,cs,hb,hk⟩:=X8 h
  rw [hs _ _ hb];exact hk
 cases op<;>try exact h
 case lookup t x i ok =>
  dsimp only [H6] at h ⊢
  rw [hq];exact h
 case convert src dst x =>
  dsimp only [H6] at h ⊢
  unfold B2r at h ⊢
  split at h
  ·exact h
  ·exact h
  ·exact h
  ·obtain ⟨h1,h⟩:=B2.1 h
   exact B2.2 ⟨h1,box h⟩
  ·exact h.elim
 case load t x =>
  dsimp only [H6] at h ⊢
  split at h
  ·exact h
  ·exact box h
  ·exact h.elim
def A2f (P:Program) (Γ:Nat→AV) (ops:Array Oper) (o:Oper) (e:Env) (s:Sto) (v:AV):Prop:=Tr P Γ ops o e s fun r s'=>r=v∧s'=s
theorem A8m {ops:Array Oper} {e:Env} {g:Option (Nat × Bool)} {y n:Prop} (h:N3 ops e g y n):(y∧∀ y' n':Prop,y'→N3 ops e g y' n')∨(n∧∀ y' n':Prop,n'→N3 ops e g y' n'):=by
 unfold N3 at *
 split at h
 ·exact .inl ⟨h,fun _ _ h=>h⟩
 ·rename_i j want
  split at h
  ·exact h.elim
  ·split at h
   ·rename_i b _
    cases want<;>cases b
    ·exact .inl ⟨h,fun _ _ h=>h⟩
    ·exact .inr ⟨h,fun _ _ h=>h⟩
    ·exact .inr ⟨h,fun _ _ h=>h⟩
    ·exact .inl ⟨h,fun _ _ h=>h⟩
   ·exact .inr ⟨h,fun _ _ h=>h⟩
   ·exact h.elim
theorem C1p {ev:Operand→AV} {s:Sto} {op:Op} {K:AV→Sto→Prop} (hc:cls op=0) (h:C9 P Γ ev s op K):∃ v,K v s∧∀ K':AV→Sto→Prop,K' v s→C9 P Γ ev s op K':=by
 have plain:H6 P ev s op (fun v=>K v s)→∃ v,K v s∧∀ K':AV→Sto→Prop,K' v s→H6 P ev s op (fun v=>K' v s):=fun h=>by
  obtain ⟨v,h1,h2⟩:=B6b (P:=P) ev s op _ h
  exact ⟨v,h1,fun K' h'=>h2 _ h'⟩
 cases op<;>try exact plain h
 case alloc=>cases hc
 case box=>cases hc
 case makeMap=>cases hc
 case mapUpdate=>cases hc
 case store=>cases hc
 case makeSlice=>cases hc
 case buildSlice T len parts =>
  dsimp only [C9,D2] at h ⊢
  split at h
  ·rename_i e he
   split at h
   ·rename_i k z hk hz
    obtain ⟨h1,h2,h3,h4,h⟩:=h
    rw [A0c] at h
    refine ⟨_,h,fun K' h'=>⟨h1,h2,h3,h4,?_⟩⟩
    rw [A0c];exact h'
   ·exact h.elim
  ·exact h.elim
 case call c =>
  obtain ⟨callee,args,ts⟩:=c
  cases callee with
  | value f =>
   dsimp only [C9] at h ⊢
   split at h
   ·obtain ⟨h1,h⟩:=B2.1 h
    rw [C8] at h
    obtain ⟨r,h2,h3⟩:=h
    refine ⟨r,h3,fun K' h'=>B2.2 ⟨h1,?_⟩⟩
    rw [C8];exact ⟨r,h2,h'⟩
   ·exact h.elim
  | invoke r m=>exact plain h
  | builtin b =>
   by_cases hb:b=.append
   ·subst hb;cases hc
   ·cases b<;>first|exact absurd rfl hb|exact plain h
theorem C1q {ev:Operand→AV} {s s':Sto} {op:Op} {v:AV} (hc:cls op=0) (hs:∀ b x,s.bx b=some x→s'.bx b=some x) (hq:s'.mp=s.mp) (h:C9 P Γ ev s op fun r t=>r=v∧t=s):C9 P Γ ev s' op fun r t=>r=v∧t=s':=by
 have plain:H6 P ev s op (fun r=>r=v∧s=s)→H6 P ev s' op (fun r=>r=v∧s'=s'):=fun h=>C3y hs hq (V0 h fun r hr=>⟨hr.1,rfl⟩)
 cases op<;>try exact plain h
 case alloc=>cases hc
 case box=>cases hc
 case makeMap=>cases hc
 case mapUpdate=>cases hc
 case store=>cases hc
 case makeSlice=>cases hc
 case buildSlice T len parts =>
  dsimp only [C9,D2] at h ⊢
  split at h
  ·split at h
   ·obtain ⟨h1,h2,h3,h4,h⟩:=h
    rw [A0c] at h
    refine ⟨h1,h2,h3,h4,?_⟩
    rw [A0c];exact ⟨h.1,rfl⟩
   ·exact h.elim
  ·exact h.elim
 case call c =>
  obtain ⟨callee,args,ts⟩:=c
  cases callee with
  | value f =>
   dsimp only [C9] at h ⊢
   split at h
   ·obtain ⟨h1,h⟩:=B2.1 h
    rw [C8] at h
    obtain ⟨r,h2,h3⟩:=h
    refine B2.2 ⟨h1,?_⟩
    rw [C8];exact ⟨r,h2,h3.1,rfl⟩
   ·exact h.elim
  | invoke r m=>exact plain h
  | builtin b =>
   by_cases hb:b=.append
   ·subst hb;cases hc
   ·cases b<;>first|exact absurd rfl hb|exact plain h
theorem B6j {ev ev':Operand→AV} {s:Sto} {op:Op} {K:AV→Sto→Prop} (hc:cls op≠2) (hev:∀ x ∈ op.operands.toList,ev x=ev' x) (h:C9 P Γ ev s op K):C9 P Γ ev' s op K:=by
 have plain:H6 P ev s op (fun v=>K v s)→H6 P ev' s op (fun v=>K v s):=fun h=>B8h hev h
 cases op<;>try exact plain h
 case alloc=>exact h
 case box T x =>
  dsimp only [C9,D2] at h ⊢
  rw [← hev x (by simp [Op.operands])];exact h
 case makeMap T r=>exact h
 case mapUpdate T m k x =>
  dsimp only [C9,D2] at h ⊢
  rw [← hev m (by simp [Op.operands]),← hev k (by simp [Op.operands]),← hev x (by simp [Op.operands])];exact h
 case store=>exact absurd rfl hc
 case makeSlice T l c =>
  dsimp only [C9,D2] at h ⊢
  rw [← hev l (by simp [Op.operands]),← hev c (by simp [Op.operands])];exact h
 case buildSlice T len parts =>
  dsimp only [C9,D2] at h ⊢
  rw [← List.map_congr_left (f:=fun p:Nat × Operand=>K7 (ev p.2)) (g:=fun p:Nat × Operand=>K7 (ev' p.2)) fun p hp=>by
   rw [hev p.2 (by simp [Op.operands];exact ⟨p.1,by simpa using hp⟩)]]
  exact h
 case call c =>
  obtain ⟨callee,args,ts⟩:=c
  cases callee with
  | value f =>
   dsimp only [C9] at h ⊢
   rw [← hev f (by simp [Op.operands,Call.operands]),← List.map_congr_left (f:=ev) (g:=ev') fun x hx=>hev x (by simp [Op.operands,Call.operands] at hx ⊢;exact .inr hx)]
   exact h
  | invoke r m=>exact plain h
  | builtin b =>
   by_cases hb:b=.append
   ·subst hb;exact absurd rfl hc
   ·cases b<;>first|exact absurd rfl hb|exact plain h
theorem B7z {ev ev':Operand→AV} {s:Sto} {op:Op} {K:AV→Sto→Prop} (hc:A6v op=true) (hev:∀ x ∈ op.operands.toList,ev x=ev' x) (h:C9 P Γ ev s op K):C9 P Γ ev' s op K:=by
 cases op<;>try cases hc
 case store t a x =>
  dsimp only [C9,D2] at h ⊢
  rw [← hev a (by simp [Op.operands]),← hev x (by simp [Op.operands])];exact h
theorem A4k {e e':Env} {x:Operand} (h:∀ t,x=.tmp t→e t=e' t):evA Γ e x=evA Γ e' x:=by
 cases x<;>first|rfl|exact h _ rfl
theorem A0e {ops:Array Oper} {e e':Env} {g:Option (Nat × Bool)} {y n:Prop} (h:∀ (j:Nat) (w:Bool) (d:Nat),g=some (j,w)→(ops[j]?).bind Oper.dst=some d→e d=e' d) (hw:N3 ops e g y n):N3 ops e' g y n:=by
 unfold N3 at *
 split at hw
 ·exact hw
 ·rename_i j want
  split at hw
  ·exact hw.elim
  ·rename_i d hd
   rw [← h j want d rfl hd];exact hw
def J6 (ops:Array Oper) (o:Oper) (e e':Env):Prop:=∀ t ∈ N7 ops o,e t=e' t
theorem V9 {ops:Array Oper} {o:Oper} {e e':Env} {s:Sto} {K:AV→Sto→Prop} (hc:cls o.op≠2) (ha:J6 ops o e e') (h:Tr P Γ ops o e s K):Tr P Γ ops o e' s K:=by
 refine A0e (fun j w d hg hd=>ha d ?_) (F9 h (fun h=>B6j hc (fun x hx=>A4k fun t ht=>ha t ?_) h) fun h=>h)
 ·simp only [N7,List.mem_append]
  right
  rw [hg]
  simp [hd]
 ·simp only [N7,List.mem_append]
  left
  exact List.mem_filterMap.2 ⟨x,hx,by rw [ht]⟩
theorem A01 {ops:Array Oper} {o:Oper} {e e':Env} {s:Sto} {K:AV→Sto→Prop} (hc:A6v o.op=true) (ha:J6 ops o e e') (h:Tr P Γ ops o e s K):Tr P Γ ops o e' s K:=by
 refine A0e (fun j w d hg hd=>ha d ?_) (F9 h (fun h=>B7z hc (fun x hx=>A4k fun t ht=>ha t ?_) h) fun h=>h)
 ·simp only [N7,List.mem_append]
  right
  rw [hg]
  simp [hd]
 ·simp only [N7,List.mem_append]
  left
  exact List.mem_filterMap.2 ⟨x,hx,by rw [ht]⟩
theorem B60 {op:Op} (hc:B3f op=true):∃ args ts,op=.call ⟨.builtin .append,args,ts⟩:=by
 cases op<;>try cases hc
 case call c =>
  obtain ⟨callee,args,ts⟩:=c
  cases callee with
  | builtin b=>cases b<;>first|exact ⟨args,ts,rfl⟩|cases hc
  | _=>cases hc
theorem C1d {ev ev':Operand→AV} {s:Sto} {op:Op} {K:AV→Sto→Prop} (hc:B3f op=true) (hev:∀ x ∈ op.operands.toList,ev x=ev' x) (h:C9 P Γ ev s op K):C9 P Γ ev' s op K:=by
 obtain ⟨args,ts,rfl⟩:=B60 hc
 dsimp only [C9,D2] at h ⊢
 have hm:∀ x ∈ args.toList,ev x=ev' x:=fun x hx=>hev x (by simp [Op.operands,Call.operands] at hx ⊢;exact hx)
 split at h
 ·rename_i x y ha
  rw [← hm x (by rw [ha];simp)]
  split at h
  ·rw [← hm y (by rw [ha];simp)];exact h
  ·exact h.elim
 ·exact h.elim
theorem B39 {ops:Array Oper} {o:Oper} {e e':Env} {s:Sto} {K:AV→Sto→Prop} (hc:B3f o.op=true) (ha:J6 ops o e e') (h:Tr P Γ ops o e s K):Tr P Γ ops o e' s K:=by
 refine A0e (fun j w d hg hd=>ha d ?_) (F9 h (fun h=>C1d hc (fun x hx=>A4k fun t ht=>ha t ?_) h) fun h=>h)
 ·simp only [N7,List.mem_append]
  right
  rw [hg]
  simp [hd]
 ·simp only [N7,List.mem_append]
  left
  exact List.mem_filterMap.2 ⟨x,hx,by rw [ht]⟩
theorem C9e {ev:Operand→AV} {s:Sto} {op:Op} {K:AV→Sto→Prop} (hc:B3f op=true) (h:C9 P Γ ev s op K):C9 P Γ ev s op fun v s'=>K v s'∧s'.bx=s.bx∧s'.mp=s.mp:=by
 obtain ⟨args,ts,rfl⟩:=B60 hc
 dsimp only [C9] at h ⊢
 split at h
 ·rename_i x y ha
  split at h
  ·rename_i t0 es0 hx0
   rw [hx0] at h ⊢
   unfold A1c at h ⊢
   split at h
   ·split at h
    ·split at h
     ·obtain ⟨h1,h2,h3,h4,h5,h6⟩:=B2.1 h
      exact B2.2 ⟨h1,h2,h3,h4,h5,fun t' a b=>⟨h6 t' a b,rfl,rfl⟩⟩
     ·exact h.elim
    ·exact h.elim
   ·split at h
    ·split at h
     ·obtain ⟨h1,h2,h3,h4,h5⟩:=B2.1 h
      exact B2.2 ⟨h1,h2,h3,h4,fun t' a b=>⟨h5 t' a b,rfl,rfl⟩⟩
     ·exact h.elim
    ·exact h.elim
   ·contradiction
   ·exact h.elim
  ·exact h.elim
 ·exact h.elim
theorem C9b {ops:Array Oper} {o:Oper} {e:Env} {s:Sto} {K:AV→Sto→Prop} (hc:B3f o.op=true) (h:Tr P Γ ops o e s K):Tr P Γ ops o e s fun v s'=>K v s'∧s'.bx=s.bx∧s'.mp=s.mp :=
 F9 h (fun h=>C9e hc h) (fun h=>⟨h,rfl,rfl⟩)
theorem F6 {ops:Array Oper} {o:Oper} {d:Option Nat} (h:A1p d (N7 ops o)=true) (e:Env) (v:AV):J6 ops o e (D7 e d v):=by
 intro t ht
 cases d with
 | none=>rfl
 | some d =>
  simp only [D7,upd]
  rw [if_neg]
  rintro rfl
  simp [A1p,ht] at h
theorem L7 {ops:Array Oper} {o:Oper} {e e':Env} (h:J6 ops o e e'):J6 ops o e' e:=fun t ht=>(h t ht).symm
theorem G4 {d1 d2:Option Nat} (h:(match d1,d2 with|some a,some b=>a != b|_,_=>true)=true) (e:Env) (v1 v2:AV):D7 (D7 e d1 v1) d2 v2=D7 (D7 e d2 v2) d1 v1:=by
 cases d1<;>cases d2<;>try rfl
 rename_i a b
 have hab:a≠b:=by simpa using h
 funext i
 simp only [D7,upd]
 by_cases h1:i=b
 ·subst h1
  rw [if_pos rfl,if_neg (fun h=>hab h.symm),if_pos rfl]
 ·rw [if_neg h1]
  by_cases h2:i=a
  ·rw [if_pos h2,if_pos h2]
  ·rw [if_neg h2,if_neg h2,if_neg h1]
theorem A2j {ops:Array Oper} {o:Oper} {e:Env} {s:Sto} {K:AV→Sto→Prop} (hc:cls o.op=0) (h:Tr P Γ ops o e s K):∃ v,K v s∧A2f P Γ ops o e s v∧∀ K':AV→Sto→Prop,K' v s→Tr P Γ ops o e s K':=by
 rcases A8m h with ⟨hy,hw⟩|⟨hn,hw⟩
 ·obtain ⟨v,h1,h2⟩:=C1p hc hy
  exact ⟨v,h1,hw _ _ (h2 _ ⟨rfl,rfl⟩),fun K' h'=>hw _ _ (h2 K' h')⟩
 ·exact ⟨undefA,hn,hw _ _ ⟨rfl,rfl⟩,fun K' h'=>hw _ _ h'⟩
theorem A2f.use {ops:Array Oper} {o:Oper} {e:Env} {s:Sto} {v:AV} (h:A2f P Γ ops o e s v) {K:AV→Sto→Prop} (hk:K v s):Tr P Γ ops o e s K :=
 A0l h fun _ _ ⟨h1,h2⟩=>by subst h1 h2;exact hk
theorem A2f.move {ops:Array Oper} {o:Oper} {e e':Env} {s s':Sto} {v:AV} (hc:cls o.op=0) (h:A2f P Γ ops o e s v) (ha:J6 ops o e e') (hs:∀ b x,s.bx b=some x→s'.bx b=some x) (hq:s'.mp=s.mp):A2f P Γ ops o e' s' v:=by
 refine V9 (by rw [hc];decide) ha ?_
 rcases A8m h with ⟨hy,hw⟩|⟨hn,hw⟩
 ·exact hw _ _ (C1q hc hs hq hy)
 ·exact hw _ _ ⟨hn.1,rfl⟩
theorem A1h {ev:Operand→AV} {op:Op} (hc:cls op=1):∃ (p:Prop) (mk:Nat→AV) (T:TypeId) (cs:List AV),∀ s (K:AV→Sto→Prop),C9 P Γ ev s op K↔p∧∀ b,s.bx b=none→K (mk b) (s.set b T cs):=by
 have never:(∀ s (K:AV→Sto→Prop),¬ C9 P Γ ev s op K)→∃ (p:Prop) (mk:Nat→AV) (T:TypeId) (cs:List AV),∀ s (K:AV→Sto→Prop),C9 P Γ ev s op K↔p∧∀ b,s.bx b=none→K (mk b) (s.set b T cs) :=
  fun h=>⟨False,fun _=>undefA,0,[],fun s K=>⟨fun hh=>absurd hh (h s K),fun hh=>hh.1.elim⟩⟩
 cases op<;>try cases hc
 case alloc T =>
  cases hz:Z0 P T with
  | none=>exact never fun s K h=>by dsimp only [C9,D2] at h;rw [hz] at h;exact h
  | some z=>exact ⟨True,fun b=>.ptr (some ⟨b,0,none⟩),T,z,fun s K=>by dsimp only [C9,D2];rw [hz];exact ⟨fun h=>⟨trivial,h⟩,fun h=>h.2⟩⟩
 case box T x=>exact ⟨True,fun b=>.ptr (some ⟨b,0,none⟩),T,K7 (ev x),fun s K=>by dsimp only [C9,D2];rw [C8];exact ⟨fun h=>⟨trivial,h⟩,fun h=>h.2⟩⟩
 case makeSlice T l c =>
  have views:(∃ n m,ev l=.int .i64 n∧ev c=.int .i64 m)∨∀ s (K:AV→Sto→Prop),¬ C9 P Γ ev s (.makeSlice T l c) K:=by
   dsimp only [C9,D2]
   generalize ev l=x
   generalize ev c=y
   cases x<;>try exact .inr fun s K h=>h
   rename_i k1 n
   cases k1<;>cases y<;>try exact .inr fun s K h=>h
   rename_i k2 m
   cases k2<;>try exact .inr fun s K h=>h
   exact .inl ⟨n,m,rfl,rfl⟩
  rcases views with ⟨n,m,hl,hc⟩|hv
  case inr=>exact never hv
  have run:∀ s (K:AV→Sto→Prop),C9 P Γ ev s (.makeSlice T l c) K=match L9 P T with
    | some e=>(match J9 P e,A2o P e,Z0 P e with
     | some k,some bs,some z=>0≤n∧n≤m∧m≤9223372036854775807∧bs * m≤281474976710656∧z.length=k ∧
      ∀ b,s.bx b=none→K (.raw (some ⟨b,0,none⟩) n.toNat m.toNat) (s.set b e (List.replicate m.toNat z).flatten)
     | _,_,_=>False)
    | none=>False:=fun s K=>by dsimp only [C9,D2];rw [hl,hc];rfl
  cases he:L9 P T with
  | none=>exact never fun s K h=>by rw [run,he] at h;exact h
  | some e =>
   cases hk:J9 P e with
   | none=>exact never fun s K h=>by rw [run,he] at h;dsimp only at h;rw [hk] at h;exact h
   | some k =>
    cases hb:A2o P e with
    | none=>exact never fun s K h=>by rw [run,he] at h;dsimp only at h;rw [hk,hb] at h;exact h
    | some bs =>
     cases hz:Z0 P e with
     | none=>exact never fun s K h=>by rw [run,he] at h;dsimp only at h;rw [hk,hb,hz] at h;exact h
     | some z =>
      refine ⟨0≤n∧n≤m∧m≤9223372036854775807∧bs * m≤281474976710656∧z.length=k,fun b=>.raw (some ⟨b,0,none⟩) n.toNat m.toNat,e,(List.replicate m.toNat z).flatten,fun s K=>?_⟩
      rw [run,he]
      dsimp only
      rw [hk,hb,hz]
      exact ⟨fun ⟨h1,h2,h3,h4,h5,h6⟩=>⟨⟨h1,h2,h3,h4,h5⟩,h6⟩,fun ⟨⟨h1,h2,h3,h4,h5⟩,h6⟩=>⟨h1,h2,h3,h4,h5,h6⟩⟩
 case call c =>
  obtain ⟨callee,args,ts⟩:=c
  cases callee with
  | builtin b=>cases b<;>cases hc
  | _=>cases hc
theorem B4x (t:TypeId) (x:AV) (n:Int):∃ (p:Prop) (v:AV),∀ K:AV→Prop,J3 P t x n K↔p∧K v:=by
 have never:(∀ K:AV→Prop,¬ J3 P t x n K)→∃ (p:Prop) (v:AV),∀ K:AV→Prop,J3 P t x n K↔p∧K v :=
  fun h=>⟨False,undefA,fun K=>⟨fun hh=>absurd hh (h K),fun hh=>hh.1.elim⟩⟩
 unfold J3 at never ⊢
 split
 ·rename_i es
  split
  ·split
   ·rename_i k hk
    refine ⟨0≤n∧n.toNat < es.length∧(es.getD n.toNat []).length=k,.cptr (es.getD n.toNat []),fun K=>?_⟩
    rw [C8]
    exact ⟨fun ⟨a,b,c,d⟩=>⟨⟨a,b,c⟩,d⟩,fun ⟨⟨a,b,c⟩,d⟩=>⟨a,b,c,d⟩⟩
   ·exact ⟨False,undefA,fun K=>⟨fun h=>h.elim,fun h=>h.1.elim⟩⟩
  ·exact ⟨False,undefA,fun K=>⟨fun h=>h.elim,fun h=>h.1.elim⟩⟩
 ·split
  ·split
   ·exact ⟨_,_,fun K=>(and_assoc (a:=_≤_)).symm⟩
   ·exact ⟨False,undefA,fun K=>⟨fun h=>h.elim,fun h=>h.1.elim⟩⟩
  ·exact ⟨False,undefA,fun K=>⟨fun h=>h.elim,fun h=>h.1.elim⟩⟩
 ·split
  ·split
   ·exact ⟨_,_,fun K=>(and_assoc (a:=_≤_)).symm⟩
   ·exact ⟨False,undefA,fun K=>⟨fun h=>h.elim,fun h=>h.1.elim⟩⟩
  ·exact ⟨False,undefA,fun K=>⟨fun h=>h.elim,fun h=>h.1.elim⟩⟩
 ·split
  ·split
   ·exact ⟨_,_,fun K=>(and_assoc (a:=_≤_)).symm⟩
   ·exact ⟨False,undefA,fun K=>⟨fun h=>h.elim,fun h=>h.1.elim⟩⟩
  ·exact ⟨False,undefA,fun K=>⟨fun h=>h.elim,fun h=>h.1.elim⟩⟩
 ·exact ⟨False,undefA,fun K=>⟨fun h=>h.elim,fun h=>h.1.elim⟩⟩
theorem B58 (t:TypeId):∀ (parts:List (Nat × AV)) (cs:List AV),∃ (p:Prop) (l:List AV),∀ K:List AV→Prop,A42 P t cs parts K↔p∧K l
 | [],cs=>⟨True,cs,fun K=>by unfold A42;rw [C8];exact ⟨fun h=>⟨trivial,h⟩,fun h=>h.2⟩⟩
 | (i,v)::rest,cs=>by
  unfold A42
  cases B5l P t i with
  | none=>exact ⟨False,[],fun K=>⟨fun h=>h.elim,fun h=>h.1.elim⟩⟩
  | some x =>
   obtain ⟨off,n⟩:=x
   obtain ⟨p,l,h⟩:=B58 t rest (cs.take off++K7 v++cs.drop (off+n))
   refine ⟨(K7 v).length=n∧off+n≤cs.length∧p,l,fun K=>?_⟩
   dsimp only
   rw [h]
   exact ⟨fun ⟨a,b,c,d⟩=>⟨⟨a,b,c⟩,d⟩,fun ⟨⟨a,b,c⟩,d⟩=>⟨a,b,c,d⟩⟩
theorem B3v {ev:Operand→AV} {op:Op} (hc:A9b op=true):∃ (p:Prop) (v:AV),∀ s (K:AV→Sto→Prop),C9 P Γ ev s op K↔p∧K v s:=by
 cases op<;>try cases hc
 case move x=>exact ⟨True,ev x,fun s K=>by dsimp only [C9,D2,H6];rw [F8];exact ⟨fun h=>⟨trivial,h⟩,fun h=>h.2⟩⟩
 case assign x=>exact ⟨True,ev x,fun s K=>by dsimp only [C9,D2,H6];rw [F8];exact ⟨fun h=>⟨trivial,h⟩,fun h=>h.2⟩⟩
 case extract x i =>
  dsimp only [C9,D2,H6]
  cases ev x<;>try exact ⟨False,undefA,fun s K=>⟨fun h=>h.elim,fun h=>h.1.elim⟩⟩
  rename_i vs
  dsimp only
  cases vs[i]? with
  | none=>exact ⟨False,undefA,fun s K=>⟨fun h=>h.elim,fun h=>h.1.elim⟩⟩
  | some v=>exact ⟨True,v,fun s K=>by dsimp only;rw [F8];exact ⟨fun h=>⟨trivial,h⟩,fun h=>h.2⟩⟩
 case makeInterface t x =>
  dsimp only [C9,D2,H6]
  exact ⟨_,.iface t (ev x),fun s K=>by rw [F8];exact B2⟩
 case nilCheck x =>
  dsimp only [C9,D2,H6]
  cases ev x<;>try exact ⟨False,undefA,fun s K=>⟨fun h=>h.elim,fun h=>h.1.elim⟩⟩
  ·rename_i a
   cases a<;>first
    | exact ⟨False,undefA,fun s K=>⟨fun h=>h.elim,fun h=>h.1.elim⟩⟩
    | exact ⟨True,_,fun s K=>⟨fun h=>⟨trivial,h⟩,fun h=>h.2⟩⟩
  ·exact ⟨True,_,fun s K=>⟨fun h=>⟨trivial,h⟩,fun h=>h.2⟩⟩
  ·exact ⟨True,_,fun s K=>⟨fun h=>⟨trivial,h⟩,fun h=>h.2⟩⟩
  ·rename_i fn _ _
   cases fn<;>first
    | exact ⟨False,undefA,fun s K=>⟨fun h=>h.elim,fun h=>h.1.elim⟩⟩
    | exact ⟨True,_,fun s K=>⟨fun h=>⟨trivial,h⟩,fun h=>h.2⟩⟩
 case fieldAddr t x f =>
  dsimp only [C9,D2,H6]
  cases A3p P t f with
  | none=>exact ⟨False,undefA,fun s K=>⟨fun h=>h.elim,fun h=>h.1.elim⟩⟩
  | some y =>
   dsimp only
   cases ev x<;>try exact ⟨False,undefA,fun s K=>⟨fun h=>h.elim,fun h=>h.1.elim⟩⟩
   ·rename_i a
    cases a with
    | none=>exact ⟨False,undefA,fun s K=>⟨fun h=>h.elim,fun h=>h.1.elim⟩⟩
    | some a =>
     obtain ⟨b,o,sp⟩:=a
     cases sp with
     | none=>exact ⟨True,_,fun s K=>⟨fun h=>⟨trivial,h⟩,fun h=>h.2⟩⟩
     | some q=>exact ⟨False,undefA,fun s K=>⟨fun h=>h.elim,fun h=>h.1.elim⟩⟩
   ·rename_i cs
    exact ⟨True,.cptr (cs.drop y.1),fun s K=>by dsimp only;rw [C8];exact ⟨fun h=>⟨trivial,h⟩,fun h=>h.2⟩⟩
 case build t parts =>
  dsimp only [C9,D2,H6]
  unfold A9x
  cases Z0 P t with
  | none=>exact ⟨False,undefA,fun s K=>⟨fun h=>(B2.1 h).2.elim,fun h=>h.1.elim⟩⟩
  | some z =>
   obtain ⟨p,l,h⟩:=B58 (P:=P) t (parts.toList.map fun (i,x)=>(i,ev x)) z
   refine ⟨B8q P t=true∧p,.agg l,fun s K=>?_⟩
   rw [B2]
   dsimp only
   rw [h fun cs=>K (.agg cs) s]
   exact and_assoc.symm
 case unOp op t x =>
  dsimp only [C9,D2,H6]
  cases op<;>cases ev x<;>first
   | exact ⟨False,undefA,fun s K=>⟨fun h=>h.elim,fun h=>h.1.elim⟩⟩
   | exact ⟨True,_,fun s K=>⟨fun h=>⟨trivial,h⟩,fun h=>h.2⟩⟩
 case indexAddr t x i =>
  dsimp only [C9,D2,H6]
  cases ev i<;>try exact ⟨False,undefA,fun s K=>⟨fun h=>h.elim,fun h=>h.1.elim⟩⟩
  rename_i k n
  obtain ⟨p,v,h⟩:=B4x (P:=P) t (ev x) n
  exact ⟨p,v,fun s K=>h fun v=>K v s⟩
 case binOp op t x y yt =>
  have key:(op=.add∨op=.sub)→∃ (p:Prop) (v:AV),∀ s (K:AV→Sto→Prop),C9 P Γ ev s (.binOp op t x y yt) K↔p∧K v s:=by
   dsimp only [C9,D2,H6]
   generalize ev x=a
   generalize ev y=b
   rintro (rfl|rfl)<;>cases a<;>cases b<;>first
    | exact ⟨False,undefA,fun s K=>⟨fun h=>h.elim,fun h=>h.1.elim⟩⟩
    | exact ⟨False,undefA,fun s K=>⟨fun h=>(B2.1 h).2.elim,fun h=>h.1.elim⟩⟩
    | exact ⟨_,_,fun s K=>B2⟩
    | exact ⟨_,_,fun s K=>Iff.rfl⟩
  refine key ?_
  cases op<;>first|exact .inl rfl|exact .inr rfl|cases hc
 case call c =>
  obtain ⟨callee,args,ts⟩:=c
  cases callee with
  | builtin b =>
   have hb:b=.len∨b=.max:=by
    cases b<;>first|exact .inl rfl|exact .inr rfl|cases hc
   rcases hb with rfl|rfl
   case inr =>
    have two:∃ x y,args.toList=[x,y]:=by
     cases ha:args.toList with
     | nil=>simp [A9b,ha] at hc
     | cons x more =>
      cases more with
      | nil=>simp [A9b,ha] at hc
      | cons y more =>
       cases more with
       | nil=>exact ⟨x,y,rfl⟩
       | cons _ _=>simp [A9b,ha] at hc
    obtain ⟨x,y,heq2⟩:=two
    dsimp only [C9,D2,H6]
    rw [heq2]
    simp only [List.map_cons,List.map_nil]
    cases ev x<;>cases ev y<;>first
     | exact ⟨False,undefA,fun s K=>⟨fun h=>h.elim,fun h=>h.1.elim⟩⟩
     | exact ⟨True,_,fun s K=>⟨fun h=>⟨trivial,h⟩,fun h=>h.2⟩⟩
   have one:∃ x,args.toList=[x]:=by
    cases ha:args.toList with
    | nil=>simp [A9b,ha] at hc
    | cons x more =>
     cases more with
     | nil=>exact ⟨x,rfl⟩
     | cons _ _=>simp [A9b,ha] at hc
   obtain ⟨x,heq2⟩:=one
   have never:(∀ s (K:AV→Sto→Prop),¬ A0a P .len ts.toList (args.toList.map ev) fun v=>K v s)→∃ (p:Prop) (v:AV),∀ s (K:AV→Sto→Prop),C9 P Γ ev s (.call ⟨.builtin .len,args,ts⟩) K↔p∧K v s :=
    fun h=>⟨False,undefA,fun s K=>⟨fun hh=>absurd hh (h s K),fun hh=>hh.1.elim⟩⟩
   have some':∀ (p:Prop) (v:AV),(∀ s (K:AV→Sto→Prop),A0a P .len ts.toList (args.toList.map ev) (fun v=>K v s)↔p∧K v s)→∃ (p:Prop) (v:AV),∀ s (K:AV→Sto→Prop),C9 P Γ ev s (.call ⟨.builtin .len,args,ts⟩) K↔p∧K v s :=
    fun p v h=>⟨p,v,h⟩
   rw [heq2] at never some'
   cases hts:ts.toList with
   | nil=>exact never fun s K h=>by rw [hts] at h;exact h
   | cons t more =>
    cases more with
    | cons _ _=>exact never fun s K h=>by rw [hts] at h;simp [A0a] at h
    | nil =>
     rw [hts] at never some'
     cases hx:ev x<;>simp only [List.map_cons,List.map_nil,hx] at never some'
     case str l=>exact some' _ _ fun s K=>B2
     case slice tk es=>exact some' _ _ fun s K=>B2
     case raw a n c=>exact some' _ _ fun s K=>B2
     all_goals exact never fun s K h=>by simp [A0a] at h
  | _=>cases hc
theorem B7r {s:Sto} {b1 b2:Nat} {T1 T2:TypeId} {c1 c2:List AV} (h:b1≠b2):(s.set b1 T1 c1).set b2 T2 c2=(s.set b2 T2 c2).set b1 T1 c1:=by
 simp only [Sto.set,Sto.mk.injEq,and_true]
 funext i
 by_cases h2:i=b2
 ·subst h2;rw [if_pos rfl,if_neg (fun h'=>h h'.symm),if_pos rfl]
 ·rw [if_neg h2,if_neg h2]
theorem swap {ops:Array Oper} {o1 o2:Oper} (hi:B0x ops o1 o2=true) {e:Env} {s:Sto} {K:Env→Sto→Prop}
  (h:Tr P Γ ops o1 e s fun v1 s1=>Tr P Γ ops o2 (D7 e o1.dst v1) s1 fun v2 s2=>K (D7 (D7 e o1.dst v1) o2.dst v2) s2) :
  Tr P Γ ops o2 e s fun v2 s2=>Tr P Γ ops o1 (D7 e o2.dst v2) s2 fun v1 s1=>K (D7 (D7 e o2.dst v2) o1.dst v1) s1:=by
 unfold B0x at hi
 simp only [Bool.and_eq_true] at hi
 obtain ⟨⟨⟨i1,i2⟩,i3⟩,i4⟩:=hi
 have a1:∀ v,J6 ops o2 (D7 e o1.dst v) e:=fun v=>L7 (F6 i1 e v)
 have a2:∀ v,J6 ops o1 e (D7 e o2.dst v):=fun v=>F6 i2 e v
 split at i4
 ·rename_i hc1 hc2
  obtain ⟨v1,h1,h2,_⟩:=A2j hc1 h
  obtain ⟨v2,k1,k2,_⟩:=A2j hc2 h1
  refine (k2.move hc2 (a1 v1) (Sub.refl s).bx rfl).use ?_
  refine (h2.move hc1 (a2 v2) (Sub.refl s).bx rfl).use ?_
  rw [← G4 i3];exact k1
 ·rename_i hc1 hc2
  obtain ⟨v1,h1,h2,_⟩:=A2j hc1 h
  have hg:=Option.isNone_iff_eq_none.1 i4
  have h1:=V9 (by rw [hc2];decide) (a1 v1) h1
  unfold Tr at h1 ⊢
  rw [hg] at h1 ⊢
  simp only [N3] at h1 ⊢
  obtain ⟨p,mk,T,cs,hn⟩:=A1h (P:=P) (Γ:=Γ) (ev:=evA Γ e) hc2
  rw [hn] at h1 ⊢
  refine ⟨h1.1,fun b hb=>?_⟩
  have hs:Sub s (s.set b T cs):=(Sub.refl s).new hb T cs
  refine (h2.move hc1 (a2 _) hs.bx rfl).use ?_
  rw [← G4 i3];exact h1.2 b hb
 ·rename_i hc1 hc2
  simp only [Bool.and_eq_true] at i4
  have hg1:=Option.isNone_iff_eq_none.1 i4.1.1
  have hg2:=Option.isNone_iff_eq_none.1 i4.1.2
  have step:∀ (o:Oper) (hg:o.guard=none) (e':Env) (s':Sto) (K':AV→Sto→Prop),Tr P Γ ops o e' s' K'↔C9 P Γ (evA Γ e') s' o.op K':=fun o hg e' s' K'=>by unfold Tr;rw [hg];exact Iff.rfl
  rw [step o1 hg1] at h
  rw [step o2 hg2]
  obtain ⟨p,mk,T,cs,hn⟩:=A1h (P:=P) (Γ:=Γ) (ev:=evA Γ e) hc1
  rw [hn] at h
  obtain ⟨q,v,hv⟩:=B3v (P:=P) (Γ:=Γ) (ev:=evA Γ e) i4.2
  rw [hv]
  have key:∀ b,s.bx b=none→q∧K (D7 (D7 e o1.dst (mk b)) o2.dst v) (s.set b T cs):=fun b hb=>by
   have:=V9 (by rw [hc2];decide) (a1 _) (h.2 b hb)
   rw [step o2 hg2,hv] at this
   exact this
  obtain ⟨b0,hb0⟩:=s.fresh
  refine ⟨(key b0 hb0).1,?_⟩
  refine V9 (by rw [hc1];decide) (a2 _) ?_
  rw [step o1 hg1,hn]
  refine ⟨h.1,fun b hb=>?_⟩
  rw [← G4 i3]
  exact (key b hb).2
 ·rename_i hc1 hc2
  simp only [Bool.and_eq_true] at i4
  have hg1:=Option.isNone_iff_eq_none.1 i4.1
  have hg2:=Option.isNone_iff_eq_none.1 i4.2
  have step:∀ (o:Oper) (hg:o.guard=none) (e':Env) (s':Sto) (K':AV→Sto→Prop),Tr P Γ ops o e' s' K'↔C9 P Γ (evA Γ e') s' o.op K':=fun o hg e' s' K'=>by unfold Tr;rw [hg];exact Iff.rfl
  rw [step o1 hg1] at h
  rw [step o2 hg2]
  obtain ⟨p1,mk1,T1,cs1,hn1⟩:=A1h (P:=P) (Γ:=Γ) (ev:=evA Γ e) hc1
  rw [hn1] at h
  obtain ⟨p2,mk2,T2,cs2,hn2⟩:=A1h (P:=P) (Γ:=Γ) (ev:=evA Γ e) hc2
  rw [hn2]
  have key:∀ b1,s.bx b1=none→p2∧∀ b2,(s.set b1 T1 cs1).bx b2=none→K (D7 (D7 e o1.dst (mk1 b1)) o2.dst (mk2 b2)) ((s.set b1 T1 cs1).set b2 T2 cs2):=fun b1 hb1=>by
   have:=V9 (by rw [hc2];decide) (a1 _) (h.2 b1 hb1)
   rw [step o2 hg2,hn2] at this
   exact this
  obtain ⟨b0,hb0⟩:=s.fresh
  refine ⟨(key b0 hb0).1,fun b2 hb2=>?_⟩
  refine V9 (by rw [hc1];decide) (a2 _) ?_
  rw [step o1 hg1,hn1]
  refine ⟨h.1,fun b1 hb1=>?_⟩
  obtain ⟨hne,hb1'⟩:=N0 hb1
  have:=(key b1 hb1').2 b2 (by rw [A4 (fun h=>hne h.symm)];exact hb2)
  rw [G4 i3,B7r hne] at this
  exact this
 ·rename_i hc1 hc2
  simp only [Bool.or_eq_true,Bool.and_eq_true] at i4
  rcases i4 with i4|i4
  case inr =>
   obtain ⟨v1,h1,h2,_⟩:=A2j hc1 h
   refine A0l (C9b i4 (B39 i4 (a1 v1) h1)) fun v2 s2 ⟨hk,hb,hq⟩=>?_
   refine (h2.move hc1 (a2 v2) (fun b x hx=>hb ▸ hx) hq).use ?_
   rw [← G4 i3];exact hk
  have hg1:=Option.isNone_iff_eq_none.1 i4.1
  have step:∀ (o:Oper) (hg:o.guard=none) (e':Env) (s':Sto) (K':AV→Sto→Prop),Tr P Γ ops o e' s' K'↔C9 P Γ (evA Γ e') s' o.op K':=fun o hg e' s' K'=>by unfold Tr;rw [hg];exact Iff.rfl
  rw [step o1 hg1] at h
  obtain ⟨q,v,hv⟩:=B3v (P:=P) (Γ:=Γ) (ev:=evA Γ e) i4.2.1
  rw [hv] at h
  refine A0l (A01 i4.2.2 (a1 v) h.2) fun v2 s2 hk=>?_
  refine V9 (by rw [hc1];decide) (a2 _) ?_
  rw [step o1 hg1,hv]
  refine ⟨h.1,?_⟩
  rw [← G4 i3]
  exact hk
 ·rename_i hc1 hc2
  simp only [Bool.and_eq_true] at i4
  have hg1:=Option.isNone_iff_eq_none.1 i4.1.1
  have hg2:=Option.isNone_iff_eq_none.1 i4.1.2
  have step:∀ (o:Oper) (hg:o.guard=none) (e':Env) (s':Sto) (K':AV→Sto→Prop),Tr P Γ ops o e' s' K'↔C9 P Γ (evA Γ e') s' o.op K':=fun o hg e' s' K'=>by unfold Tr;rw [hg];exact Iff.rfl
  rw [step o1 hg1] at h
  rw [step o2 hg2]
  obtain ⟨p,mk,T,cs,hn⟩:=A1h (P:=P) (Γ:=Γ) (ev:=evA Γ e) hc1
  rw [hn] at h
  have key:∀ b,s.bx b=none→C9 P Γ (evA Γ e) (s.set b T cs) o2.op fun v2 s2=>K (D7 (D7 e o1.dst (mk b)) o2.dst v2) s2:=fun b hb=>by
   have:=A01 i4.2 (a1 _) (h.2 b hb)
   rw [step o2 hg2] at this
   exact this
  obtain ⟨Tt,x,v,e2⟩:∃ Tt x v,o2.op=.store Tt x v:=by
   have:=i4.2
   revert this
   cases o2.op<;>intro hh<;>first|exact ⟨_,_,_,rfl⟩|cases hh
  rw [e2] at key ⊢
  dsimp only [C9,D2] at key ⊢
  obtain ⟨N,hN⟩:=s.fin
  have k0:=key N (hN N (Nat.le_refl N))
  revert key k0
  generalize evA Γ e x=y
  intro key k0
  cases y<;>try exact k0.elim
  rename_i a
  cases a with
  | none=>exact k0.elim
  | some a =>
   obtain ⟨b',o,sp⟩:=a
   cases sp with
   | some q=>exact k0.elim
   | none =>
    dsimp only at key k0 ⊢
    obtain ⟨T',cs',hb',_⟩:∃ T' cs',s.bx b'=some (T',cs')∧True:=by
     have k1:=key (N+b'+1) (hN _ (by omega))
     obtain ⟨T',cs',hb',_⟩:=X8 k1
     rw [A4 (by omega)] at hb'
     exact ⟨T',cs',hb',trivial⟩
    have hne:∀ b,s.bx b=none→b'≠b:=fun b hb=>A1 hb' hb
    have key2:=fun b hb=>by
     have k1:=key b hb
     rw [A4 (hne b hb),hb'] at k1
     exact k1
    rw [hb']
    simp only [getB] at key2 ⊢
    cases hs:J9 P Tt with
    | none=>have:=key2 N (hN N (Nat.le_refl N));rw [hs] at this;exact this.elim
    | some n =>
     rw [hs] at key2
     dsimp only at key2 ⊢
     obtain ⟨q1,q2,q3,_⟩:=key2 N (hN N (Nat.le_refl N))
     refine ⟨q1,q2,q3,?_⟩
     rw [C8]
     refine V9 (by rw [hc1];decide) (a2 _) ?_
     rw [step o1 hg1,hn]
     refine ⟨h.1,fun b hb=>?_⟩
     obtain ⟨hnb,hb2⟩:=N0 hb
     obtain ⟨_,_,_,hk⟩:=key2 b hb2
     rw [C8,B7r hnb] at hk
     rw [← G4 i3]
     exact hk
 ·cases i4
end
end Go.Ab
