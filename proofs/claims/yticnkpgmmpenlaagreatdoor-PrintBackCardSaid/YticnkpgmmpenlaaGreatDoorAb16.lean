/- Operations that give one value whatever is behind them; regions whose order is open. -/
import Derived.Test.YticnkpgmmpenlaaGreatDoorAb15
set_option maxRecDepth 10000
set_option maxHeartbeats 60000000
set_option linter.all false
namespace Go.Ab
open Go
def Det (T:(AV→Prop)→Prop):Prop:=∀ K,T K→∃ v,K v∧∀ K',K' v→T K'
def Z7 (T:(Bool→Prop)→Prop):Prop:=∀ K,T K→∃ v,K v∧∀ K',K' v→T K'
def D92 {α:Type} (T:(α→Prop)→Prop):Prop:=∀ K,T K→∃ v,K v∧∀ K',K' v→T K'
section
variable {P:Program}
theorem Det.frc (v:AV):Det (Ab.frc v):=fun K h=>by
 rw [K3] at h
 exact ⟨v,h,fun K' h'=>by rw [K3];exact h'⟩
theorem Det.chk {b:Bool} {T:(AV→Prop)→Prop} (h:Det T):Det fun K=>Ab.chk b (T K):=fun K hk=>by
 obtain ⟨hb,hk⟩:=B4.1 hk
 obtain ⟨v,h1,h2⟩:=h K hk
 exact ⟨v,h1,fun K' h'=>B4.2 ⟨hb,h2 K' h'⟩⟩
theorem Det.val (v:AV):Det fun K=>K v:=fun _ h=>⟨v,h,fun _ h'=>h'⟩
theorem Det.cond {p:Prop} {T:(AV→Prop)→Prop} (h:Det T):Det fun K=>p∧T K:=fun K hk=>by
 obtain ⟨v,h1,h2⟩:=h K hk.2
 exact ⟨v,h1,fun K' h'=>⟨hk.1,h2 K' h'⟩⟩
theorem Det.none:Det fun _=>False:=fun _ h=>h.elim
theorem Det.brA {b:Bool} {T U:(AV→Prop)→Prop} (h:Det T) (k:Det U):Det fun K=>Ab.brA b (T K) (U K):=by
 cases b
 ·exact k
 ·exact h
theorem Z7.val (v:Bool):Z7 fun K=>K v:=fun _ h=>⟨v,h,fun _ h'=>h'⟩
theorem Z7.none:Z7 fun _=>False:=fun _ h=>h.elim
theorem Z7.chk {b:Bool} {T:(Bool→Prop)→Prop} (h:Z7 T):Z7 fun K=>Ab.chk b (T K):=fun K hk=>by
 obtain ⟨hb,hk⟩:=B4.1 hk
 obtain ⟨v,h1,h2⟩:=h K hk
 exact ⟨v,h1,fun K' h'=>B4.2 ⟨hb,h2 K' h'⟩⟩
theorem C49 (k:Nat) (x y:AV):Z7 (B42 k x y):=by
 cases x<;>cases y<;>first|exact Z7.none|exact Z7.chk (Z7.val _)
theorem B43:∀ (l:List (Nat × Nat)) (xs ys:List AV),Z7 (X0 l xs ys)
 | [],_,_=>Z7.val true
 | (o,k)::l,xs,ys=>fun K h=>by
  obtain ⟨r,h1,h2⟩:=C49 k _ _ _ h
  obtain ⟨q,k1,k2⟩:=B43 l xs ys _ h1
  exact ⟨r && q,k1,fun K' h'=>h2 _ (k2 (fun q=>K' (r && q)) h')⟩
theorem C6m (t:TypeId) (x y:AV):Z7 (aeq P t x y):=by
 cases x<;>cases y<;>try exact Z7.none
 case int.int=>exact Z7.chk (Z7.val _)
 case str.str=>exact Z7.val _
 case bool.bool=>exact Z7.chk (Z7.val _)
 case ptr.ptr a b =>
  cases b with
  | none=>cases a<;>exact Z7.chk (Z7.val _)
  | some b=>cases a<;>exact Z7.none
 case ptr.cptr a cs =>
  cases a with
  | none=>exact Z7.chk (Z7.val _)
  | some a=>exact Z7.none
 case cptr.ptr cs a =>
  cases a with
  | none=>exact Z7.chk (Z7.val _)
  | some a=>exact Z7.none
 case nilIface.iface=>exact Z7.chk (Z7.val _)
 case iface.nilIface=>exact Z7.chk (Z7.val _)
 case agg.agg xs ys =>
  intro K h
  obtain ⟨h⟩:M5 P t xs ys K:=h
  obtain ⟨hg,h⟩:=B4.1 h
  cases hp:A2m P 9999 t with
  | none=>rw [hp] at h;exact h.elim
  | some l =>
   rw [hp] at h
   obtain ⟨v,h1,h2⟩:=B43 l xs ys K h
   exact ⟨v,h1,fun K' h'=>M5.of hg hp (h2 K' h')⟩
theorem D0w (op:BinOp) (x y:AV):Det (D0v op x y):=by
 cases x<;>cases y<;>try exact Det.none
 ·cases op<;>first|exact Det.chk (Det.val _)|exact Det.cond (Det.val _)|exact Det.chk (Det.cond (Det.val _))
 ·cases op<;>first|exact Det.val _|exact Det.none|exact Det.cond (Det.val _)
theorem B4d (op:BinOp) (t:TypeId) (x y:AV):Det (A9f P op t x y):=by
 cases op
 case eql =>
  intro K h
  obtain ⟨r,h1,h2⟩:=C6m t x y _ h
  exact ⟨_,h1,fun K' h'=>h2 (fun r=>K' (.bool r)) h'⟩
 case neq =>
  intro K h
  obtain ⟨r,h1,h2⟩:=C6m t x y _ h
  exact ⟨_,h1,fun K' h'=>h2 (fun r=>K' (.bool (!r))) h'⟩
 all_goals (unfold A9f;exact D0w _ x y)
theorem C1z (op:BinOp) (t:TypeId) (c:Bool) (x y:AV):Det (B97 P op t c x y):=by
 cases x<;>try exact B4d op t _ y
 cases y<;>try exact B4d op t _ _
 cases op<;>first|exact Det.chk (Det.val _)|exact Det.chk Det.none
theorem C10 (op:BinOp) (t:TypeId) (y:Operand) (c:Bool) (u v:AV):Det (A90 P op t y c u v):=by
 unfold A90
 cases C7n op y u with
 | none=>exact C1z _ _ _ _ _
 | some r=>exact Det.chk (Det.val _)
theorem D40 (op:UnOp) (x:AV):Det (aun op x):=by
 cases op<;>cases x<;>first|exact Det.none|exact Det.val _
theorem B0i {f:List AV→AV} (cs:List AV):Det fun K=>A5c cs fun l=>K (f l):=fun K h=>by
 simp only [D2] at h
 exact ⟨_,h,fun K' h'=>by simp only [D2];exact h'⟩
theorem C4y (lo:Option AV) (d:Nat):D92 (S0 lo d):=by
 cases lo with
 | none=>exact fun K h=>⟨d,h,fun _ h'=>h'⟩
 | some v =>
  cases v<;>first|exact fun _ h=>h.elim|skip
  exact fun K h=>⟨_,h.2,fun _ h'=>⟨h.1,h'⟩⟩
theorem Det.bound (lo:Option AV) (d:Nat) {f:Nat→(AV→Prop)→Prop} (hf:∀ n,Det (f n)):Det fun K=>S0 lo d fun n=>f n K:=fun K hk=>by
 obtain ⟨b,h1,h2⟩:=C4y lo d _ hk
 obtain ⟨v,k1,k2⟩:=hf b K h1
 exact ⟨v,k1,fun K' h'=>h2 _ (k2 K' h')⟩
theorem Det.getB (x:Option (TypeId × List AV)) {f:TypeId→List AV→(AV→Prop)→Prop} (hf:∀ T cs,Det (f T cs)):Det fun K=>Ab.getB x fun T cs=>f T cs K:=by
 match x with
 | Option.none=>exact Det.none
 | some (T,cs)=>exact hf T cs
theorem B78 (t:TypeId) (cs:List AV):Det (A3s P t cs):=by
 unfold A3s
 cases A73 P t with
 | none=>exact Det.none
 | some sh =>
  cases sh with
  | some n=>exact Det.cond (B0i _)
  | none =>
   cases cs with
   | nil=>exact Det.none
   | cons c cs=>exact Det.frc c
theorem C4v (t:TypeId) (x:AV) (lo hi mx:Option AV):Det (A69 P t x lo hi mx):=by
 cases x<;>try exact Det.none
 case str l=>exact Det.chk (Det.bound _ _ fun _=>Det.bound _ _ fun _=>Det.cond (Det.cond (Det.val _)))
 case slice tk es =>
  unfold A69
  dsimp only
  cases Q1 P t with
  | none=>exact Det.none
  | some e =>
   dsimp only
   cases P6 P e with
   | none=>exact Det.none
   | some k =>
    cases mx with
    | none=>exact Det.bound _ _ fun _=>Det.bound _ _ fun _=>Det.cond (Det.cond (Det.cond (Det.val _)))
    | some m=>exact Det.chk (Det.bound _ _ fun _=>Det.bound _ _ fun _=>Det.bound _ _ fun _=>Det.cond (Det.cond (Det.cond (Det.cond (Det.val _)))))
 case raw a len cap =>
  match a with
  | none=>exact Det.none
  | some ⟨b,o,some _⟩=>exact Det.none
  | some ⟨b,o,Option.none⟩ =>
   unfold A69
   dsimp only
   cases Q1 P t with
   | none=>exact Det.none
   | some e =>
    dsimp only
    cases P6 P e with
    | none=>exact Det.none
    | some k=>exact Det.chk (Det.bound _ _ fun _=>Det.bound _ _ fun _=>Det.cond (Det.cond (Det.val _)))
 case cptr cs =>
  unfold A69
  dsimp only
  cases B4m P t with
  | none=>exact Det.none
  | some ne =>
   obtain ⟨n,e⟩:=ne
   dsimp only
   cases P6 P e with
   | none=>exact Det.none
   | some k=>exact Det.chk (Det.bound _ _ fun _=>Det.bound _ _ fun _=>Det.cond (Det.cond (Det.cond (Det.val _))))
 case ptr a =>
  match a with
  | none=>exact Det.none
  | some ⟨b,o,some _⟩=>exact Det.none
  | some ⟨b,o,Option.none⟩ =>
   unfold A69
   dsimp only
   cases B4m P t with
   | none=>exact Det.none
   | some ne =>
    obtain ⟨n,e⟩:=ne
    dsimp only
    cases P6 P e with
    | none=>exact Det.none
    | some k=>exact Det.chk (Det.bound _ _ fun _=>Det.bound _ _ fun _=>Det.cond (Det.cond (Det.val _)))
theorem B4f (t:TypeId) (x:AV) (n:Int):Det (L0 P t x n):=by
 cases x<;>try exact Det.none
 case slice tk es =>
  unfold L0
  dsimp only
  cases Q1 P t with
  | none=>exact Det.none
  | some e =>
   dsimp only
   cases P6 P e with
   | none=>exact Det.none
   | some k=>exact Det.cond (Det.cond (Det.cond (B0i _)))
 case raw a len cap =>
  match a with
  | none=>exact Det.none
  | some ⟨b,o,some _⟩=>exact Det.none
  | some ⟨b,o,Option.none⟩ =>
   unfold L0
   dsimp only
   cases Q1 P t with
   | none=>exact Det.none
   | some e =>
    dsimp only
    cases P6 P e with
    | none=>exact Det.none
    | some k=>exact Det.cond (Det.cond (Det.val _))
 case cptr cs =>
  unfold L0
  dsimp only
  cases B4m P t with
  | none=>exact Det.none
  | some ne =>
   obtain ⟨n,e⟩:=ne
   dsimp only
   cases P6 P e with
   | none=>exact Det.none
   | some k=>exact Det.cond (Det.cond (Det.val _))
 case ptr a =>
  match a with
  | none=>exact Det.none
  | some ⟨b,o,some _⟩=>exact Det.none
  | some ⟨b,o,Option.none⟩ =>
   unfold L0
   dsimp only
   cases B4m P t with
   | none=>exact Det.none
   | some ne =>
    obtain ⟨n,e⟩:=ne
    dsimp only
    cases P6 P e with
    | none=>exact Det.none
    | some k=>exact Det.cond (Det.cond (Det.val _))
theorem C8a (s:Sto) (src dst:TypeId) (x:AV):Det (B73 P s src dst x):=by
 unfold B73
 cases P.underlying src with
 | none=>exact Det.none
 | some ds =>
  cases P.underlying dst with
  | none=>cases ds<;>exact Det.none
  | some dd =>
   split
   ·exact Det.val _
   ·exact Det.val _
   ·refine Det.chk ?_
    rename_i es _ _
    cases unB es with
    | none=>exact Det.none
    | some l=>exact Det.val _
   ·refine Det.chk (Det.getB _ fun T cs=>Det.cond ?_)
    rename_i o len _ _ _
    cases unB (T9 1 len (cs.drop o)) with
    | none=>exact Det.none
    | some l=>exact Det.val _
   ·exact Det.none
theorem B74 (t:TypeId) {f:List AV→AV}:∀ (parts:List (Nat × AV)) (cs:List AV),Det fun K=>B4e P t cs parts fun l=>K (f l)
 | [],cs=>B0i cs
 | (i,v)::rest,cs=>by
  unfold B4e
  cases C51 P t i with
  | none=>exact Det.none
  | some x=>exact Det.cond (Det.cond (B74 t rest _))
theorem C4r (t:TypeId) (parts:List (Nat × AV)):Det (B98 P t parts):=by
 unfold B98
 refine Det.chk ?_
 cases A2o P t with
 | none=>exact Det.none
 | some z=>exact B74 t parts z
theorem C9z (t:Bool) (x y:AV):Det (C3n t x y):=by
 cases x<;>cases y<;>first|exact Det.val _|exact Det.brA (Det.frc _) (Det.frc _)
theorem B99 (b:Builtin) (ts:List TypeId) (xs:List AV):Det (A2e P b ts xs):=by
 unfold A2e
 split<;>first|exact Det.none|exact Det.val _|exact Det.chk (Det.val _)
theorem C14 (ev:Operand→AV) (s:Sto) (op:Op):Det (M4 P ev s op):=by
 cases op<;>try exact Det.none
 case move x=>exact Det.frc _
 case assign x=>exact Det.frc _
 case pick c a b =>
  show Det fun K=>asB (ev c) fun t=>C3n t (ev a) (ev b) K
  cases ev c<;>first|exact Det.none|exact C9z _ _ _
 case binOp op t x y yt=>exact C10 _ _ _ _ _ _
 case unOp op t x=>exact D40 _ _
 case convert src dst x=>exact C8a _ _ _ _
 case makeInterface t x =>
  refine Det.chk (T:=fun K=>frc (ev x) fun v=>K (.iface t v)) (fun K h=>?_)
  simp only [K3] at h
  exact ⟨_,h,fun K' h'=>by simp only [K3];exact h'⟩
 case makeFunc fn first captured=>exact Det.val _
 case fieldAddr t x f =>
  show Det fun K=>M4 P ev s (.fieldAddr t x f) K
  unfold M4
  dsimp only
  cases A9i P t f with
  | none=>exact Det.none
  | some o =>
   dsimp only
   cases ev x<;>try exact Det.none
   ·rename_i a
    match a with
    | none=>exact Det.none
    | some ⟨b,o,some _⟩=>exact Det.none
    | some ⟨b,o,Option.none⟩=>exact Det.val _
   ·exact B0i _
 case indexAddr t x i =>
  show Det fun K=>asI (ev i) fun _ n=>L0 P t (ev x) n K
  cases ev i<;>first|exact Det.none|exact B4f _ _ _
 case index t x i =>
  show Det fun K=>M4 P ev s (.index t x i) K
  unfold M4
  dsimp only
  cases ev i<;>try exact Det.none
  show Det fun K=>match ev x with
   | .str l=>_
   | _=>False
  cases ev x<;>try exact Det.none
  exact Det.chk (Det.cond (Det.cond (Det.val _)))
 case field t x f =>
  show Det fun K=>M4 P ev s (.field t x f) K
  unfold M4
  dsimp only
  cases A9i P t f with
  | none=>exact Det.none
  | some o =>
   dsimp only
   refine Det.chk ?_
   cases ev x<;>try exact Det.none
   rename_i cs
   dsimp only
   cases cs[o.1]? with
   | none=>exact Det.none
   | some c=>exact Det.frc _
 case lookup t x i ok =>
  show Det fun K=>M4 P ev s (.lookup t x i ok) K
  unfold M4
  dsimp only
  cases ev x<;>try exact Det.none
  cases ev i<;>try exact Det.none
  cases ok
  ·exact Det.chk (Det.val _)
  ·exact Det.none
 case slice t x lo hi mx=>exact C4v _ _ _ _ _
 case nilCheck x =>
  show Det fun K=>M4 P ev s (.nilCheck x) K
  unfold M4
  dsimp only
  cases ev x<;>try exact Det.none
  ·rename_i a;cases a<;>first|exact Det.none|exact Det.val _
  ·exact Det.val _
  ·exact Det.val _
  ·rename_i fn _ _;cases fn<;>first|exact Det.none|exact Det.val _
 case extract x i =>
  show Det fun K=>M4 P ev s (.extract x i) K
  unfold M4
  dsimp only
  cases ev x<;>try exact Det.none
  rename_i vs
  dsimp only
  cases vs[i]? with
  | none=>exact Det.none
  | some v=>exact Det.frc v
 case build t parts=>exact C4r _ _
 case load t x =>
  show Det fun K=>M4 P ev s (.load t x) K
  unfold M4
  dsimp only
  cases ev x<;>try exact Det.none
  ·rename_i a
   match a with
   | none=>exact Det.none
   | some ⟨b,o,some _⟩=>exact Det.none
   | some ⟨b,o,Option.none⟩=>exact Det.getB _ fun T cs=>B78 _ _
  ·exact B78 _ _
 case call c =>
  show Det fun K=>M4 P ev s (.call c) K
  unfold M4
  dsimp only
  cases c.callee<;>first|exact Det.none|exact B99 _ _ _
end
end Go.Ab
