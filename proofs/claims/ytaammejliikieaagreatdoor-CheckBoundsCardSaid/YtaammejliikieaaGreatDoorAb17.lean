/- A region whose order is open, walked in the order of its text. -/
import Derived.Test.YtaammejliikieaaGreatDoorAb16
set_option maxRecDepth 10000
set_option maxHeartbeats 60000000
set_option linter.all false
namespace Go.Ab
open Go
inductive A7 (P:Program) (Γ:Nat→AV) (fn:FuncId) (l:List AV) (s:Sto) (K:AV→Sto→Prop):Prop where
 | mk (r:AV) (h:A8 P Γ fn l (fun v=>v=r)) (k:K r s)
def C9 (P:Program) (Γ:Nat→AV) (ev:Operand→AV) (s:Sto) (op:Op) (K:AV→Sto→Prop):Prop :=
 match op with
 | .call c =>
  match c.callee with
  | .value f=>(match ev f with
   | .func (.func fn) fs cs=>chk (A6a P fn) (A2v (fs++c.args.toList.map ev++cs) fun l=>A7 P Γ fn l s K)
   | _=>False)
  | .builtin .append=>(match c.args.toList with
   | [x,y]=>(match ev x with
    | .slice _ _=>A1c P s c.argTypes.toList (ev x) (ev y) K
    | _=>False)
   | _=>False)
  | _=>H6 P ev s op (fun v=>K v s)
 | op=>D2 P Γ ev s op K
def cls:Op→Nat
 | .alloc _|.box _ _|.makeSlice _ _ _=>1
 | .store _ _ _=>2
 | .makeMap _ _|.mapUpdate _ _ _ _=>3
 | .call c=>(match c.callee with|.builtin .append=>2|_=>0)
 | _=>0
def N7 (ops:Array Oper) (o:Oper):List Nat :=
 (o.op.operands.toList.filterMap fun|.tmp t=>some t|_=>none) ++
  (match o.guard with|some (j,_)=>(match (ops[j]?).bind Oper.dst with|some d=>[d]|none=>[])|none=>[])
def A1p (d:Option Nat) (l:List Nat):Bool:=match d with|some d=>!l.elem d|none=>true
def A9b:Op→Bool
 | .move _|.assign _=>true
 | .binOp .add _ _ _ _|.binOp .sub _ _ _ _=>true
 | .indexAddr _ _ _=>true
 | .extract _ _|.makeInterface _ _|.fieldAddr _ _ _|.build _ _|.unOp _ _ _|.nilCheck _=>true
 | .call c=>(match c.callee,c.args.toList with|.builtin .len,[_]|.builtin .max,[_,_]=>true|_,_=>false)
 | _=>false
def A6v:Op→Bool
 | .store _ _ _=>true
 | _=>false
def B3f:Op→Bool
 | .call c=>(match c.callee with|.builtin .append=>true|_=>false)
 | _=>false
def B0x (ops:Array Oper) (o1 o2:Oper):Bool :=
 A1p o1.dst (N7 ops o2) && A1p o2.dst (N7 ops o1) && (match o1.dst,o2.dst with|some a,some b=>a != b|_,_=>true) &&
  (match cls o1.op,cls o2.op with
   | 0,0=>true
   | 0,1=>o2.guard.isNone
   | 1,0=>o1.guard.isNone && o2.guard.isNone && A9b o2.op
   | 1,1=>o1.guard.isNone && o2.guard.isNone
   | 0,2=>o1.guard.isNone && (A9b o1.op && A6v o2.op) || B3f o2.op
   | 1,2=>o1.guard.isNone && o2.guard.isNone && A6v o2.op
   | _,_=>false)
def A5a (ops:Array Oper):Nat→Nat→Nat→Bool
 | 0,_,_=>false
 | k+1,j,i=>match ops[i]? with
  | none=>false
  | some o=>o.after.toList.any (fun e=>Region.binds .any e && e.on == j) || o.after.toList.any (fun e=>Region.binds .any e && (Nat.blt j e.on && A5a ops k j e.on))
def A8b (_:Program) (ops:Array Oper):Bool :=
 (List.range ops.size).all fun i=>match ops[i]? with
  | none=>true
  | some o=>o.after.toList.all (fun e=>!Region.binds .any e || decide (e.on < i)) &&
    (List.range i).all fun j=>o.after.toList.any (fun e=>Region.binds .any e && e.on == j) || (match ops[j]? with|some o'=>B0x ops o' o|none=>false) || A5a ops 30 j i
section
variable {P:Program} {Γ:Nat→AV}
def Tr (P:Program) (Γ:Nat→AV) (ops:Array Oper) (o:Oper) (e:Env) (s:Sto) (K:AV→Sto→Prop):Prop :=
 N3 ops e o.guard (C9 P Γ (evA Γ e) s o.op K) (K undefA s)
def dwp (P:Program) (Γ:Nat→AV) (ops:Array Oper):List Oper→Env→Sto→(Env→Sto→Prop)→Prop
 | [],e,s,K=>K e s
 | o::l,e,s,K=>Tr P Γ ops o e s fun v s'=>dwp P Γ ops l (D7 e o.dst v) s' K
theorem F9 {ops:Array Oper} {e:Env} {g:Option (Nat × Bool)} {y n y' n':Prop} (h:N3 ops e g y n) (hy:y→y') (hn:n→n'):N3 ops e g y' n':=by
 unfold N3 at *
 split at h
 ·exact hy h
 ·rename_i j want
  split at h
  ·exact h.elim
  ·split at h
   ·rename_i b _
    cases want<;>cases b<;>first|exact hy h|exact hn h
   ·exact hn h
   ·exact h.elim
theorem V0 {ev:Operand→AV} {s:Sto} {op:Op} {K K':AV→Prop} (h:H6 P ev s op K) (hk:∀ v,K v→K' v):H6 P ev s op K':=by
 obtain ⟨v,h1,h2⟩:=B6b (P:=P) ev s op K h
 exact h2 K' (hk v h1)
theorem C1e {s:Sto} {e:TypeId} {k:Nat} {z:List AV} {a:Option Addr} {len cap:Nat} {es2:List (List AV)} {K K':AV→Sto→Prop} (h:C60 s e k z a len cap es2 K) (hk:∀ v s,K v s→K' v s):C60 s e k z a len cap es2 K':=by
 refine ⟨fun h0 b c x y=>hk _ _ (h.1 h0 b c x y),fun h0=>?_⟩
 replace h:=h.2 h0
 split at h
 ·rename_i b
  cases hb:s.bx b with
  | none=>rw [hb] at h;exact h.elim
  | some x =>
   obtain ⟨T0,cs⟩:=x
   rw [hb] at h
   obtain ⟨h1,h2,h3,h4,h5⟩:T0=e∧len≤cap∧cs.length=cap * k∧_∧_:=h
   exact ⟨h1,h2,h3,fun q=>hk _ _ (h4 q),fun q b c x y=>hk _ _ (h5 q b c x y)⟩
 ·exact h.elim
theorem A54 {s:Sto} {ts:List TypeId} {x y:AV} {K K':AV→Sto→Prop} (h:A1c P s ts x y K) (hk:∀ v s,K v s→K' v s):A1c P s ts x y K':=by
 unfold A1c at *
 split at h
 ·split at h
  ·split at h
   ·obtain ⟨h1,h2,h3,h4,h5,h6⟩:=B2.1 h
    exact B2.2 ⟨h1,h2,h3,h4,h5,fun t' a b=>hk _ _ (h6 t' a b)⟩
   ·exact h.elim
  ·exact h.elim
 ·split at h
  ·split at h
   ·obtain ⟨h1,h2,h3,h4,h5⟩:=B2.1 h
    exact B2.2 ⟨h1,h2,h3,h4,fun t' a b=>hk _ _ (h5 t' a b)⟩
   ·exact h.elim
  ·exact h.elim
 ·split at h
  ·split at h
   ·obtain ⟨h1,h2,h3,h4,h5⟩:=B2.1 h
    exact B2.2 ⟨h1,h2,h3,h4,C1e h5 hk⟩
   ·exact h.elim
  ·exact h.elim
 ·exact h.elim
theorem W7 {ev:Operand→AV} {s:Sto} {op:Op} {K K':AV→Sto→Prop} (h:D2 P Γ ev s op K) (hk:∀ v s,K v s→K' v s):D2 P Γ ev s op K':=by
 have plain:H6 P ev s op (fun v=>K v s)→H6 P ev s op (fun v=>K' v s):=fun h=>V0 h fun v=>hk v s
 cases op with
 | alloc T =>
  dsimp only [D2] at h ⊢
  split at h
  ·exact fun b hb=>hk _ _ (h b hb)
  ·exact h.elim
 | box T x =>
  dsimp only [D2] at h ⊢
  rw [C8] at h ⊢
  exact fun b hb=>hk _ _ (h b hb)
 | store T x v =>
  dsimp only [D2] at h ⊢
  split at h
  ·obtain ⟨T',cs,hb,h⟩:=X8 h
   rw [hb]
   simp only [getB]
   split at h
   ·rename_i n hs
    obtain ⟨h1,h2,h3,h⟩:=h
    rw [C8] at h
    refine ⟨h1,h2,h3,?_⟩
    rw [C8];exact hk _ _ h
   ·exact h.elim
  ·exact h.elim
 | buildSlice T len parts =>
  dsimp only [D2] at h ⊢
  split at h
  ·split at h
   ·obtain ⟨h1,h2,h3,h4,h⟩:=h
    rw [A0c] at h
    refine ⟨h1,h2,h3,h4,?_⟩
    rw [A0c];exact hk _ _ h
   ·exact h.elim
  ·exact h.elim
 | makeMap T r =>
  dsimp only [D2] at h ⊢
  obtain ⟨h1,h⟩:=B2.1 h
  exact B2.2 ⟨h1,fun b hb=>hk _ _ (h b hb)⟩
 | mapUpdate T m k x =>
  dsimp only [D2] at h ⊢
  obtain ⟨h1,h⟩:=B2.1 h
  refine B2.2 ⟨h1,?_⟩
  split at h
  ·obtain ⟨es,hes,hf,h⟩:=A6r h
   rw [F8] at h
   refine T7 hes ⟨hf,?_⟩
   rw [F8];exact hk _ _ h
  ·exact h.elim
 | makeSlice T l c =>
  dsimp only [D2] at h ⊢
  split at h
  ·split at h
   ·split at h
    ·obtain ⟨h1,h2,h3,h4,h5,h⟩:=h
     exact ⟨h1,h2,h3,h4,h5,fun b hb=>hk _ _ (h b hb)⟩
    ·exact h.elim
   ·exact h.elim
  ·exact h.elim
 | call c =>
  obtain ⟨callee,args,ts⟩:=c
  cases callee with
  | value f =>
   dsimp only [D2] at h ⊢
   split at h
   ·obtain ⟨h1,h⟩:=B2.1 h
    rw [C8] at h
    refine B2.2 ⟨h1,?_⟩
    rw [C8];exact h.mono hk
   ·exact h.elim
  | invoke r m=>exact plain h
  | builtin b =>
   by_cases hb:b=.append
   ·subst hb
    dsimp only [D2] at h ⊢
    split at h
    ·exact A54 h hk
    ·exact h.elim
   ·cases b<;>first|exact absurd rfl hb|exact plain h
 | _=>exact plain h
theorem W8 {ev:Operand→AV} {s:Sto} {op:Op} {K K':AV→Sto→Prop} (h:C9 P Γ ev s op K) (hk:∀ v s,K v s→K' v s):C9 P Γ ev s op K':=by
 have plain:H6 P ev s op (fun v=>K v s)→H6 P ev s op (fun v=>K' v s):=fun h=>V0 h fun v=>hk v s
 have full:D2 P Γ ev s op K→D2 P Γ ev s op K':=fun h=>W7 h hk
 cases op with
 | call c =>
  obtain ⟨callee,args,ts⟩:=c
  cases callee with
  | value f =>
   dsimp only [C9] at h ⊢
   split at h
   ·obtain ⟨h1,h⟩:=B2.1 h
    rw [C8] at h
    obtain ⟨r,h2,h3⟩:=h
    refine B2.2 ⟨h1,?_⟩
    rw [C8];exact ⟨r,h2,hk _ _ h3⟩
   ·exact h.elim
  | invoke r m=>exact plain h
  | builtin b =>
   by_cases hb:b=.append
   ·subst hb
    dsimp only [C9] at h ⊢
    split at h
    ·split at h
     ·exact A54 h hk
     ·exact h.elim
    ·exact h.elim
   ·cases b<;>first|exact absurd rfl hb|exact plain h
 | _=>exact full h
theorem A3l {ev:Operand→AV} {s:Sto} {op:Op} {K:AV→Sto→Prop} (h:C9 P Γ ev s op K):D2 P Γ ev s op K:=by
 cases op with
 | call c =>
  obtain ⟨callee,args,ts⟩:=c
  cases callee with
  | value f =>
   dsimp only [C9] at h
   dsimp only [D2]
   split at h
   ·rename_i fn fs cs hfv
    obtain ⟨h1,h⟩:=B2.1 h
    rw [C8] at h
    obtain ⟨r,h2,h3⟩:=h
    simp only [hfv]
    refine B2.2 ⟨h1,?_⟩
    rw [C8]
    exact A2.pure h2 fun v hv=>by subst hv;exact h3
   ·exact h.elim
  | invoke r m=>exact h
  | builtin b =>
   by_cases hb:b=.append
   ·subst hb
    dsimp only [C9] at h
    dsimp only [D2]
    split at h
    ·rename_i x y ha
     rw [ha]
     split at h
     ·exact h
     ·exact h.elim
    ·exact h.elim
   ·cases b<;>first|exact absurd rfl hb|exact h
 | _=>exact h
theorem A0l {ops:Array Oper} {o:Oper} {e:Env} {s:Sto} {K K':AV→Sto→Prop} (h:Tr P Γ ops o e s K) (hk:∀ v s,K v s→K' v s):Tr P Γ ops o e s K' :=
 F9 h (fun h=>W8 h hk) (hk _ _)
end
end Go.Ab
