/- Operations that give one value whatever is behind them; regions whose order is open. -/
import Derived.Test.YticnkpgmmpenlaaGreatDoorAb15
set_option maxRecDepth 10000
set_option maxHeartbeats 60000000
set_option linter.all false
namespace Go.Ab
open Go
def Det (T:(AV→Prop)→Prop):Prop:=∀ K,T K→∃ v,K v∧∀ K',K' v→T K'
def A0d (T:(Bool→Prop)→Prop):Prop:=∀ K,T K→∃ v,K v∧∀ K',K' v→T K'
def D93 {α:Type} (T:(α→Prop)→Prop):Prop:=∀ K,T K→∃ v,K v∧∀ K',K' v→T K'
section
variable {P:Program}
theorem Det.frc (v:AV):Det (Ab.frc v):=fun K h=>by
 rw [M3] at h
 exact ⟨v,h,fun K' h'=>by rw [M3];exact h'⟩
theorem Det.chk {b:Bool} {T:(AV→Prop)→Prop} (h:Det T):Det fun K=>Ab.chk b (T K):=fun K hk=>by
 obtain ⟨hb,hk⟩:=C6.1 hk
 obtain ⟨v,h1,h2⟩:=h K hk
 exact ⟨v,h1,fun K' h'=>C6.2 ⟨hb,h2 K' h'⟩⟩
theorem Det.val (v:AV):Det fun K=>K v:=fun _ h=>⟨v,h,fun _ h'=>h'⟩
theorem Det.cond {p:Prop} {T:(AV→Prop)→Prop} (h:Det T):Det fun K=>p∧T K:=fun K hk=>by
 obtain ⟨v,h1,h2⟩:=h K hk.2
 exact ⟨v,h1,fun K' h'=>⟨hk.1,h2 K' h'⟩⟩
theorem Det.none:Det fun _=>False:=fun _ h=>h.elim
theorem Det.brA {b:Bool} {T U:(AV→Prop)→Prop} (h:Det T) (k:Det U):Det fun K=>Ab.brA b (T K) (U K):=by
 cases b
 ·exact k
 ·exact h
theorem A0d.val (v:Bool):A0d fun K=>K v:=fun _ h=>⟨v,h,fun _ h'=>h'⟩
theorem A0d.none:A0d fun _=>False:=fun _ h=>h.elim
theorem A0d.chk {b:Bool} {T:(Bool→Prop)→Prop} (h:A0d T):A0d fun K=>Ab.chk b (T K):=fun K hk=>by
 obtain ⟨hb,hk⟩:=C6.1 hk
 obtain ⟨v,h1,h2⟩:=h K hk
 exact ⟨v,h1,fun K' h'=>C6.2 ⟨hb,h2 K' h'⟩⟩
theorem C4u (k:Nat) (x y:AV):A0d (B47 k x y):=by
 cases x<;>cases y<;>first|exact A0d.none|exact A0d.chk (A0d.val _)
theorem B48:∀ (l:List (Nat × Nat)) (xs ys:List AV),A0d (Y3 l xs ys)
 | [],_,_=>A0d.val true
 | (o,k)::l,xs,ys=>fun K h=>by
  obtain ⟨r,h1,h2⟩:=C4u k _ _ _ h
  obtain ⟨q,k1,k2⟩:=B48 l xs ys _ h1
  exact ⟨r && q,k1,fun K' h'=>h2 _ (k2 (fun q=>K' (r && q)) h')⟩
theorem C6g (t:TypeId) (x y:AV):A0d (aeq P t x y):=by
 cases x<;>cases y<;>try exact A0d.none
 case int.int=>exact A0d.chk (A0d.val _)
 case str.str=>exact A0d.val _
 case bool.bool=>exact A0d.chk (A0d.val _)
 case ptr.ptr a b =>
  cases b with
  | none=>cases a<;>exact A0d.chk (A0d.val _)
  | some b=>cases a<;>exact A0d.none
 case ptr.cptr a cs =>
  cases a with
  | none=>exact A0d.chk (A0d.val _)
  | some a=>exact A0d.none
 case cptr.ptr cs a =>
  cases a with
  | none=>exact A0d.chk (A0d.val _)
  | some a=>exact A0d.none
 case nilIface.iface=>exact A0d.chk (A0d.val _)
 case iface.nilIface=>exact A0d.chk (A0d.val _)
 case agg.agg xs ys =>
  intro K h
  obtain ⟨h⟩:P4 P t xs ys K:=h
  obtain ⟨hg,h⟩:=C6.1 h
  cases hp:A2w P 9999 t with
  | none=>rw [hp] at h;exact h.elim
  | some l =>
   rw [hp] at h
   obtain ⟨v,h1,h2⟩:=B48 l xs ys K h
   exact ⟨v,h1,fun K' h'=>P4.of hg hp (h2 K' h')⟩
theorem D00 (op:BinOp) (x y:AV):Det (D0z op x y):=by
 cases x<;>cases y<;>try exact Det.none
 ·cases op<;>first|exact Det.chk (Det.val _)|exact Det.cond (Det.val _)|exact Det.chk (Det.cond (Det.val _))
 ·cases op<;>first|exact Det.val _|exact Det.none|exact Det.cond (Det.val _)
theorem B4i (op:BinOp) (t:TypeId) (x y:AV):Det (A9n P op t x y):=by
 cases op
 case eql =>
  intro K h
  obtain ⟨r,h1,h2⟩:=C6g t x y _ h
  exact ⟨_,h1,fun K' h'=>h2 (fun r=>K' (.bool r)) h'⟩
 case neq =>
  intro K h
  obtain ⟨r,h1,h2⟩:=C6g t x y _ h
  exact ⟨_,h1,fun K' h'=>h2 (fun r=>K' (.bool (!r))) h'⟩
 all_goals (unfold A9n;exact D00 _ x y)
theorem C1r (op:BinOp) (t:TypeId) (c:Bool) (x y:AV):Det (B9z P op t c x y):=by
 cases x<;>try exact B4i op t _ y
 cases y<;>try exact B4i op t _ _
 cases op<;>first|exact Det.chk (Det.val _)|exact Det.chk Det.none
theorem C1s (op:BinOp) (t:TypeId) (y:Operand) (c:Bool) (u v:AV):Det (A97 P op t y c u v):=by
 unfold A97
 cases C7c op y u with
 | none=>exact C1r _ _ _ _ _
 | some r=>exact Det.chk (Det.val _)
theorem D47 (op:UnOp) (x:AV):Det (aun op x):=by
 cases op<;>cases x<;>first|exact Det.none|exact Det.val _
theorem B0p {f:List AV→AV} (cs:List AV):Det fun K=>A5p cs fun l=>K (f l):=fun K h=>by
 simp only [E8] at h
 exact ⟨_,h,fun K' h'=>by simp only [E8];exact h'⟩
theorem C4j (lo:Option AV) (d:Nat):D93 (T6 lo d):=by
 cases lo with
 | none=>exact fun K h=>⟨d,h,fun _ h'=>h'⟩
 | some v =>
  cases v<;>first|exact fun _ h=>h.elim|skip
  exact fun K h=>⟨_,h.2,fun _ h'=>⟨h.1,h'⟩⟩
theorem Det.bound (lo:Option AV) (d:Nat) {f:Nat→(AV→Prop)→Prop} (hf:∀ n,Det (f n)):Det fun K=>T6 lo d fun n=>f n K:=fun K hk=>by
 obtain ⟨b,h1,h2⟩:=C4j lo d _ hk
 obtain ⟨v,k1,k2⟩:=hf b K h1
 exact ⟨v,k1,fun K' h'=>h2 _ (k2 K' h')⟩
theorem Det.getB (x:Option (TypeId × List AV)) {f:TypeId→List AV→(AV→Prop)→Prop} (hf:∀ T cs,Det (f T cs)):Det fun K=>Ab.getB x fun T cs=>f T cs K:=by
 match x with
 | Option.none=>exact Det.none
 | some (T,cs)=>exact hf T cs
theorem B8a (t:TypeId) (cs:List AV):Det (A36 P t cs):=by
 unfold A36
 cases A78 P t with
 | none=>exact Det.none
 | some sh =>
  cases sh with
  | some n=>exact Det.cond (B0p _)
  | none =>
   cases cs with
   | nil=>exact Det.none
   | cons c cs=>exact Det.frc c
theorem C4g (t:TypeId) (x:AV) (lo hi mx:Option AV):Det (A7j P t x lo hi mx):=by
 cases x<;>try exact Det.none
 case str l=>exact Det.chk (Det.bound _ _ fun _=>Det.bound _ _ fun _=>Det.cond (Det.cond (Det.val _)))
 case slice tk es =>
  unfold A7j
  dsimp only
  cases Q9 P t with
  | none=>exact Det.none
  | some e =>
   dsimp only
   cases Q6 P e with
   | none=>exact Det.none
   | some k =>
    cases mx with
    | none=>exact Det.bound _ _ fun _=>Det.bound _ _ fun _=>Det.cond (Det.cond (Det.cond (Det.val _)))
    | some m=>exact Det.chk (Det.bound _ _ fun _=>Det.bound _ _ fun _=>Det.bound _ _ fun _=>Det.cond (Det.cond (Det.cond (Det.cond (Det.val _)))))
 case raw a len cap =>
  match a with
  | none=>exact Det.none
  | some ⟨b,o,some _⟩=>exact Det.none
  | some ⟨b,o,Option.none⟩ =>
   unfold A7j
   dsimp only
   cases Q9 P t with
   | none=>exact Det.none
   | some e =>
    dsimp only
    cases Q6 P e with
    | none=>exact Det.none
    | some k=>exact Det.chk (Det.bound _ _ fun _=>Det.bound _ _ fun _=>Det.cond (Det.cond (Det.val _)))
 case cptr cs =>
  unfold A7j
  dsimp only
  cases B4r P t with
  | none=>exact Det.none
  | some ne =>
   obtain ⟨n,e⟩:=ne
   dsimp only
   cases Q6 P e with
   | none=>exact Det.none
   | some k=>exact Det.chk (Det.bound _ _ fun _=>Det.bound _ _ fun _=>Det.cond (Det.cond (Det.cond (Det.val _))))
 case ptr a =>
  match a with
  | none=>exact Det.none
  | some ⟨b,o,some _⟩=>exact Det.none
  | some ⟨b,o,Option.none⟩ =>
   unfold A7j
   dsimp only
   cases B4r P t with
   | none=>exact Det.none
   | some ne =>
    obtain ⟨n,e⟩:=ne
    dsimp only
    cases Q6 P e with
    | none=>exact Det.none
    | some k=>exact Det.chk (Det.bound _ _ fun _=>Det.bound _ _ fun _=>Det.cond (Det.cond (Det.val _)))
theorem B4k (t:TypeId) (x:AV) (n:Int):Det (N0 P t x n):=by
 cases x<;>try exact Det.none
 case slice tk es =>
  unfold N0
  dsimp only
  cases Q9 P t with
  | none=>exact Det.none
  | some e =>
   dsimp only
   cases Q6 P e with
   | none=>exact Det.none
   | some k=>exact Det.cond (Det.cond (Det.cond (B0p _)))
 case raw a len cap =>
  match a with
  | none=>exact Det.none
  | some ⟨b,o,some _⟩=>exact Det.none
  | some ⟨b,o,Option.none⟩ =>
   unfold N0
   dsimp only
   cases Q9 P t with
   | none=>exact Det.none
   | some e =>
    dsimp only
    cases Q6 P e with
    | none=>exact Det.none
    | some k=>exact Det.cond (Det.cond (Det.val _))
 case cptr cs =>
  unfold N0
  dsimp only
  cases B4r P t with
  | none=>exact Det.none
  | some ne =>
   obtain ⟨n,e⟩:=ne
   dsimp only
   cases Q6 P e with
   | none=>exact Det.none
   | some k=>exact Det.cond (Det.cond (Det.val _))
 case ptr a =>
  match a with
  | none=>exact Det.none
  | some ⟨b,o,some _⟩=>exact Det.none
  | some ⟨b,o,Option.none⟩ =>
   unfold N0
   dsimp only
   cases B4r P t with
   | none=>exact Det.none
   | some ne =>
    obtain ⟨n,e⟩:=ne
    dsimp only
    cases Q6 P e with
    | none=>exact Det.none
    | some k=>exact Det.cond (Det.cond (Det.val _))
theorem C7z (s:Sto) (src dst:TypeId) (x:AV):Det (B74 P s src dst x):=by
 unfold B74
 cases P.underlying src with
 | none=>exact Det.none
 | some ds =>
  cases P.underlying dst with
  | none=>cases ds<;>exact Det.none
  | some dd =>
   split
   ·exact Det.val _
   ·exact Det.val _
   ·refine Det.chk ?_
    rename_i es _ _
    cases unB es with
    | none=>exact Det.none
    | some l=>exact Det.val _
   ·refine Det.chk (Det.getB _ fun T cs=>Det.cond ?_)
    rename_i o len _ _ _
    cases unB (U3 1 len (cs.drop o)) with
    | none=>exact Det.none
    | some l=>exact Det.val _
   ·exact Det.none
theorem B75 (t:TypeId) {f:List AV→AV}:∀ (parts:List (Nat × AV)) (cs:List AV),Det fun K=>B4j P t cs parts fun l=>K (f l)
 | [],cs=>B0p cs
 | (i,v)::rest,cs=>by
  unfold B4j
  cases C5v P t i with
  | none=>exact Det.none
  | some x=>exact Det.cond (Det.cond (B75 t rest _))
theorem C4b (t:TypeId) (parts:List (Nat × AV)):Det (B90 P t parts):=by
 unfold B90
 refine Det.chk ?_
 cases A23 P t with
 | none=>exact Det.none
 | some z=>exact B75 t parts z
theorem C9z (t:Bool) (x y:AV):Det (C29 t x y):=by
 cases x<;>cases y<;>first|exact Det.val _|exact Det.brA (Det.frc _) (Det.frc _)
theorem B91 (b:Builtin) (ts:List TypeId) (xs:List AV):Det (A2l P b ts xs):=by
 unfold A2l
 split<;>first|exact Det.none|exact Det.val _|exact Det.chk (Det.val _)
theorem C1v (ev:Operand→AV) (s:Sto) (op:Op):Det (N4 P ev s op):=by
 cases op<;>try exact Det.none
 case move x=>exact Det.frc _
 case assign x=>exact Det.frc _
 case pick c a b =>
  show Det fun K=>asB (ev c) fun t=>C29 t (ev a) (ev b) K
  cases ev c<;>first|exact Det.none|exact C9z _ _ _
 case binOp op t x y yt=>exact C1s _ _ _ _ _ _
 case unOp op t x=>exact D47 _ _
 case convert src dst x=>exact C7z _ _ _ _
 case makeInterface t x =>
  refine Det.chk (T:=fun K=>frc (ev x) fun v=>K (.iface t v)) (fun K h=>?_)
  simp only [M3] at h
  exact ⟨_,h,fun K' h'=>by simp only [M3];exact h'⟩
 case makeFunc fn first captured=>exact Det.val _
 case fieldAddr t x f =>
  show Det fun K=>N4 P ev s (.fieldAddr t x f) K
  unfold N4
  dsimp only
  cases A9q P t f with
  | none=>exact Det.none
  | some o =>
   dsimp only
   cases ev x<;>try exact Det.none
   ·rename_i a
    match a with
    | none=>exact Det.none
    | some ⟨b,o,some _⟩=>exact Det.none
    | some ⟨b,o,Option.none⟩=>exact Det.val _
   ·exact B0p _
 case indexAddr t x i =>
  show Det fun K=>asI (ev i) fun _ n=>N0 P t (ev x) n K
  cases ev i<;>first|exact Det.none|exact B4k _ _ _
 case index t x i =>
  show Det fun K=>N4 P ev s (.index t x i) K
  unfold N4
  dsimp only
  cases ev i<;>try exact Det.none
  show Det fun K=>match ev x with
   | .str l=>_
   | _=>False
  cases ev x<;>try exact Det.none
  exact Det.chk (Det.cond (Det.cond (Det.val _)))
 case field t x f =>
  show Det fun K=>N4 P ev s (.field t x f) K
  unfold N4
  dsimp only
  cases A9q P t f with
  | none=>exact Det.none
  | some o =>
   dsimp only
   refine Det.chk ?_
   cases ev x<;>try exact Det.none
   rename_i cs
   dsimp only
   cases cs[o.1]? with
   | none=>exact Det.none
   | some c=>exact Det.frc _
 case lookup t x i ok =>
  show Det fun K=>N4 P ev s (.lookup t x i ok) K
  unfold N4
  dsimp only
  cases ev x<;>try exact Det.none
  cases ev i<;>try exact Det.none
  cases ok
  ·exact Det.chk (Det.val _)
  ·exact Det.none
 case slice t x lo hi mx=>exact C4g _ _ _ _ _
 case nilCheck x =>
  show Det fun K=>N4 P ev s (.nilCheck x) K
  unfold N4
  dsimp only
  cases ev x<;>try exact Det.none
  ·rename_i a;cases a<;>first|exact Det.none|exact Det.val _
  ·exact Det.val _
  ·exact Det.val _
  ·rename_i fn _ _;cases fn<;>first|exact Det.none|exact Det.val _
 case extract x i =>
  show Det fun K=>N4 P ev s (.extract x i) K
  unfold N4
  dsimp only
  cases ev x<;>try exact Det.none
  rename_i vs
  dsimp only
  cases vs[i]? with
  | none=>exact Det.none
  | some v=>exact Det.frc v
 case build t parts=>exact C4b _ _
 case load t x =>
  show Det fun K=>N4 P ev s (.load t x) K
  unfold N4
  dsimp only
  cases ev x<;>try exact Det.none
  ·rename_i a
   match a with
   | none=>exact Det.none
   | some ⟨b,o,some _⟩=>exact Det.none
   | some ⟨b,o,Option.none⟩=>exact Det.getB _ fun T cs=>B8a _ _
  ·exact B8a _ _
 case call c =>
  show Det fun K=>N4 P ev s (.call c) K
  unfold N4
  dsimp only
  cases c.callee<;>first|exact Det.none|exact B91 _ _ _
end
end Go.Ab
