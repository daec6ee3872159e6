/- Operations that give one value whatever is behind them; regions whose order is open. -/
import Derived.Test.YtaammejliikieaaGreatDoorAb15
set_option maxRecDepth 10000
set_option maxHeartbeats 60000000
set_option linter.all false
namespace Go.Ab
open Go
def Det (T:(AV→Prop)→Prop):Prop:=∀ K,T K→∃ v,K v∧∀ K',K' v→T K'
def V6 (T:(Bool→Prop)→Prop):Prop:=∀ K,T K→∃ v,K v∧∀ K',K' v→T K'
def D2a {α:Type} (T:(α→Prop)→Prop):Prop:=∀ K,T K→∃ v,K v∧∀ K',K' v→T K'
section
variable {P:Program}
theorem Det.frc (v:AV):Det (Ab.frc v):=fun K h=>by
 rw [F8] at h
 exact ⟨v,h,fun K' h'=>by rw [F8];exact h'⟩
theorem Det.chk {b:Bool} {T:(AV→Prop)→Prop} (h:Det T):Det fun K=>Ab.chk b (T K):=fun K hk=>by
 obtain ⟨hb,hk⟩:=B2.1 hk
 obtain ⟨v,h1,h2⟩:=h K hk
 exact ⟨v,h1,fun K' h'=>B2.2 ⟨hb,h2 K' h'⟩⟩
theorem Det.val (v:AV):Det fun K=>K v:=fun _ h=>⟨v,h,fun _ h'=>h'⟩
theorem Det.cond {p:Prop} {T:(AV→Prop)→Prop} (h:Det T):Det fun K=>p∧T K:=fun K hk=>by
 obtain ⟨v,h1,h2⟩:=h K hk.2
 exact ⟨v,h1,fun K' h'=>⟨hk.1,h2 K' h'⟩⟩
theorem Det.none:Det fun _=>False:=fun _ h=>h.elim
theorem Det.brA {b:Bool} {T U:(AV→Prop)→Prop} (h:Det T) (k:Det U):Det fun K=>Ab.brA b (T K) (U K):=by
 cases b
 ·exact k
 ·exact h
theorem V6.val (v:Bool):V6 fun K=>K v:=fun _ h=>⟨v,h,fun _ h'=>h'⟩
theorem V6.none:V6 fun _=>False:=fun _ h=>h.elim
theorem V6.chk {b:Bool} {T:(Bool→Prop)→Prop} (h:V6 T):V6 fun K=>Ab.chk b (T K):=fun K hk=>by
 obtain ⟨hb,hk⟩:=B2.1 hk
 obtain ⟨v,h1,h2⟩:=h K hk
 exact ⟨v,h1,fun K' h'=>B2.2 ⟨hb,h2 K' h'⟩⟩
theorem B8x (k:Nat) (x y:AV):V6 (B0g k x y):=by
 cases x<;>cases y<;>first|exact V6.none|exact V6.chk (V6.val _)
theorem B0h:∀ (l:List (Nat × Nat)) (xs ys:List AV),V6 (U5 l xs ys)
 | [],_,_=>V6.val true
 | (o,k)::l,xs,ys=>fun K h=>by
  obtain ⟨r,h1,h2⟩:=B8x k _ _ _ h
  obtain ⟨q,k1,k2⟩:=B0h l xs ys _ h1
  exact ⟨r && q,k1,fun K' h'=>h2 _ (k2 (fun q=>K' (r && q)) h')⟩
theorem B93 (t:TypeId) (x y:AV):V6 (aeq P t x y):=by
 cases x<;>cases y<;>try exact V6.none
 case int.int=>exact V6.chk (V6.val _)
 case str.str=>exact V6.val _
 case bool.bool=>exact V6.chk (V6.val _)
 case ptr.ptr a b =>
  cases b with
  | none=>cases a<;>exact V6.chk (V6.val _)
  | some b=>cases a<;>exact V6.none
 case ptr.cptr a cs =>
  cases a with
  | none=>exact V6.chk (V6.val _)
  | some a=>exact V6.none
 case cptr.ptr cs a =>
  cases a with
  | none=>exact V6.chk (V6.val _)
  | some a=>exact V6.none
 case nilIface.iface=>exact V6.chk (V6.val _)
 case iface.nilIface=>exact V6.chk (V6.val _)
 case agg.agg xs ys =>
  intro K h
  obtain ⟨h⟩:P9 P t xs ys K:=h
  obtain ⟨hg,h⟩:=B2.1 h
  cases hp:A05 P 9999 t with
  | none=>rw [hp] at h;exact h.elim
  | some l =>
   rw [hp] at h
   obtain ⟨v,h1,h2⟩:=B0h l xs ys K h
   exact ⟨v,h1,fun K' h'=>P9.of hg hp (h2 K' h')⟩
theorem C3s (op:BinOp) (x y:AV):Det (C3r op x y):=by
 cases x<;>cases y<;>try exact Det.none
 ·cases op<;>first|exact Det.chk (Det.val _)|exact Det.cond (Det.val _)|exact Det.chk (Det.cond (Det.val _))
 ·cases op<;>first|exact Det.val _|exact Det.none|exact Det.cond (Det.val _)
theorem A9w (op:BinOp) (t:TypeId) (x y:AV):Det (A5g P op t x y):=by
 cases op
 case eql =>
  intro K h
  obtain ⟨r,h1,h2⟩:=B93 t x y _ h
  exact ⟨_,h1,fun K' h'=>h2 (fun r=>K' (.bool r)) h'⟩
 case neq =>
  intro K h
  obtain ⟨r,h1,h2⟩:=B93 t x y _ h
  exact ⟨_,h1,fun K' h'=>h2 (fun r=>K' (.bool (!r))) h'⟩
 all_goals (unfold A5g;exact C3s _ x y)
theorem B54 (op:BinOp) (t:TypeId) (c:Bool) (x y:AV):Det (B4a P op t c x y):=by
 cases x<;>try exact A9w op t _ y
 cases y<;>try exact A9w op t _ _
 cases op<;>first|exact Det.chk (Det.val _)|exact Det.chk Det.none
theorem B55 (op:BinOp) (t:TypeId) (y:Operand) (c:Bool) (u v:AV):Det (A55 P op t y c u v):=by
 unfold A55
 cases C0s op y u with
 | none=>exact B54 _ _ _ _ _
 | some r=>exact Det.chk (Det.val _)
theorem C63 (op:UnOp) (x:AV):Det (aun op x):=by
 cases op<;>cases x<;>first|exact Det.none|exact Det.val _
theorem A6o {f:List AV→AV} (cs:List AV):Det fun K=>A2v cs fun l=>K (f l):=fun K h=>by
 simp only [C8] at h
 exact ⟨_,h,fun K' h'=>by simp only [C8];exact h'⟩
theorem B8m (lo:Option AV) (d:Nat):D2a (N5 lo d):=by
 cases lo with
 | none=>exact fun K h=>⟨d,h,fun _ h'=>h'⟩
 | some v =>
  cases v<;>first|exact fun _ h=>h.elim|skip
  exact fun K h=>⟨_,h.2,fun _ h'=>⟨h.1,h'⟩⟩
theorem Det.bound (lo:Option AV) (d:Nat) {f:Nat→(AV→Prop)→Prop} (hf:∀ n,Det (f n)):Det fun K=>N5 lo d fun n=>f n K:=fun K hk=>by
 obtain ⟨b,h1,h2⟩:=B8m lo d _ hk
 obtain ⟨v,k1,k2⟩:=hf b K h1
 exact ⟨v,k1,fun K' h'=>h2 _ (k2 K' h')⟩
theorem Det.getB (x:Option (TypeId × List AV)) {f:TypeId→List AV→(AV→Prop)→Prop} (hf:∀ T cs,Det (f T cs)):Det fun K=>Ab.getB x fun T cs=>f T cs K:=by
 match x with
 | Option.none=>exact Det.none
 | some (T,cs)=>exact hf T cs
theorem B2w (t:TypeId) (cs:List AV):Det (A1y P t cs):=by
 unfold A1y
 cases A36 P t with
 | none=>exact Det.none
 | some sh =>
  cases sh with
  | some n=>exact Det.cond (A6o _)
  | none =>
   cases cs with
   | nil=>exact Det.none
   | cons c cs=>exact Det.frc c
theorem B8g (t:TypeId) (x:AV) (lo hi mx:Option AV):Det (A3j P t x lo hi mx):=by
 cases x<;>try exact Det.none
 case str l=>exact Det.chk (Det.bound _ _ fun _=>Det.bound _ _ fun _=>Det.cond (Det.cond (Det.val _)))
 case slice tk es =>
  unfold A3j
  dsimp only
  cases L9 P t with
  | none=>exact Det.none
  | some e =>
   dsimp only
   cases J9 P e with
   | none=>exact Det.none
   | some k =>
    cases mx with
    | none=>exact Det.bound _ _ fun _=>Det.bound _ _ fun _=>Det.cond (Det.cond (Det.cond (Det.val _)))
    | some m=>exact Det.chk (Det.bound _ _ fun _=>Det.bound _ _ fun _=>Det.bound _ _ fun _=>Det.cond (Det.cond (Det.cond (Det.cond (Det.val _)))))
 case raw a len cap =>
  match a with
  | none=>exact Det.none
  | some ⟨b,o,some _⟩=>exact Det.none
  | some ⟨b,o,Option.none⟩ =>
   unfold A3j
   dsimp only
   cases L9 P t with
   | none=>exact Det.none
   | some e =>
    dsimp only
    cases J9 P e with
    | none=>exact Det.none
    | some k=>exact Det.chk (Det.bound _ _ fun _=>Det.bound _ _ fun _=>Det.cond (Det.cond (Det.val _)))
 case cptr cs =>
  unfold A3j
  dsimp only
  cases B2b P t with
  | none=>exact Det.none
  | some ne =>
   obtain ⟨n,e⟩:=ne
   dsimp only
   cases J9 P e with
   | none=>exact Det.none
   | some k=>exact Det.chk (Det.bound _ _ fun _=>Det.bound _ _ fun _=>Det.cond (Det.cond (Det.cond (Det.val _))))
 case ptr a =>
  match a with
  | none=>exact Det.none
  | some ⟨b,o,some _⟩=>exact Det.none
  | some ⟨b,o,Option.none⟩ =>
   unfold A3j
   dsimp only
   cases B2b P t with
   | none=>exact Det.none
   | some ne =>
    obtain ⟨n,e⟩:=ne
    dsimp only
    cases J9 P e with
    | none=>exact Det.none
    | some k=>exact Det.chk (Det.bound _ _ fun _=>Det.bound _ _ fun _=>Det.cond (Det.cond (Det.val _)))
theorem A9y (t:TypeId) (x:AV) (n:Int):Det (J3 P t x n):=by
 cases x<;>try exact Det.none
 case slice tk es =>
  unfold J3
  dsimp only
  cases L9 P t with
  | none=>exact Det.none
  | some e =>
   dsimp only
   cases J9 P e with
   | none=>exact Det.none
   | some k=>exact Det.cond (Det.cond (Det.cond (A6o _)))
 case raw a len cap =>
  match a with
  | none=>exact Det.none
  | some ⟨b,o,some _⟩=>exact Det.none
  | some ⟨b,o,Option.none⟩ =>
   unfold J3
   dsimp only
   cases L9 P t with
   | none=>exact Det.none
   | some e =>
    dsimp only
    cases J9 P e with
    | none=>exact Det.none
    | some k=>exact Det.cond (Det.cond (Det.val _))
 case cptr cs =>
  unfold J3
  dsimp only
  cases B2b P t with
  | none=>exact Det.none
  | some ne =>
   obtain ⟨n,e⟩:=ne
   dsimp only
   cases J9 P e with
   | none=>exact Det.none
   | some k=>exact Det.cond (Det.cond (Det.val _))
 case ptr a =>
  match a with
  | none=>exact Det.none
  | some ⟨b,o,some _⟩=>exact Det.none
  | some ⟨b,o,Option.none⟩ =>
   unfold J3
   dsimp only
   cases B2b P t with
   | none=>exact Det.none
   | some ne =>
    obtain ⟨n,e⟩:=ne
    dsimp only
    cases J9 P e with
    | none=>exact Det.none
    | some k=>exact Det.cond (Det.cond (Det.val _))
theorem C1a (s:Sto) (src dst:TypeId) (x:AV):Det (B2r P s src dst x):=by
 unfold B2r
 cases P.underlying src with
 | none=>exact Det.none
 | some ds =>
  cases P.underlying dst with
  | none=>cases ds<;>exact Det.none
  | some dd =>
   split
   ·exact Det.val _
   ·exact Det.val _
   ·refine Det.chk ?_
    rename_i es _ _
    cases unB es with
    | none=>exact Det.none
    | some l=>exact Det.val _
   ·refine Det.chk (Det.getB _ fun T cs=>Det.cond ?_)
    rename_i o len _ _ _
    cases unB (N9 1 len (cs.drop o)) with
    | none=>exact Det.none
    | some l=>exact Det.val _
   ·exact Det.none
theorem B2s (t:TypeId) {f:List AV→AV}:∀ (parts:List (Nat × AV)) (cs:List AV),Det fun K=>A42 P t cs parts fun l=>K (f l)
 | [],cs=>A6o cs
 | (i,v)::rest,cs=>by
  unfold A42
  cases B5l P t i with
  | none=>exact Det.none
  | some x=>exact Det.cond (Det.cond (B2s t rest _))
theorem B8d (t:TypeId) (parts:List (Nat × AV)):Det (A9x P t parts):=by
 unfold A9x
 refine Det.chk ?_
 cases Z0 P t with
 | none=>exact Det.none
 | some z=>exact B2s t parts z
theorem C2n (t:Bool) (x y:AV):Det (B7h t x y):=by
 cases x<;>cases y<;>first|exact Det.val _|exact Det.brA (Det.frc _) (Det.frc _)
theorem B4b (b:Builtin) (ts:List TypeId) (xs:List AV):Det (A0a P b ts xs):=by
 unfold A0a
 split<;>first|exact Det.none|exact Det.val _|exact Det.chk (Det.val _)
theorem B6b (ev:Operand→AV) (s:Sto) (op:Op):Det (H6 P ev s op):=by
 cases op<;>try exact Det.none
 case move x=>exact Det.frc _
 case assign x=>exact Det.frc _
 case pick c a b =>
  show Det fun K=>asB (ev c) fun t=>B7h t (ev a) (ev b) K
  cases ev c<;>first|exact Det.none|exact C2n _ _ _
 case binOp op t x y yt=>exact B55 _ _ _ _ _ _
 case unOp op t x=>exact C63 _ _
 case convert src dst x=>exact C1a _ _ _ _
 case makeInterface t x =>
  refine Det.chk (T:=fun K=>frc (ev x) fun v=>K (.iface t v)) (fun K h=>?_)
  simp only [F8] at h
  exact ⟨_,h,fun K' h'=>by simp only [F8];exact h'⟩
 case makeFunc fn first captured=>exact Det.val _
 case fieldAddr t x f =>
  show Det fun K=>H6 P ev s (.fieldAddr t x f) K
  unfold H6
  dsimp only
  cases A3p P t f with
  | none=>exact Det.none
  | some o =>
   dsimp only
   cases ev x<;>try exact Det.none
   ·rename_i a
    match a with
    | none=>exact Det.none
    | some ⟨b,o,some _⟩=>exact Det.none
    | some ⟨b,o,Option.none⟩=>exact Det.val _
   ·exact A6o _
 case indexAddr t x i =>
  show Det fun K=>asI (ev i) fun _ n=>J3 P t (ev x) n K
  cases ev i<;>first|exact Det.none|exact A9y _ _ _
 case index t x i =>
  show Det fun K=>H6 P ev s (.index t x i) K
  unfold H6
  dsimp only
  cases ev i<;>try exact Det.none
  show Det fun K=>match ev x with
   | .str l=>_
   | _=>False
  cases ev x<;>try exact Det.none
  exact Det.chk (Det.cond (Det.cond (Det.val _)))
 case field t x f =>
  show Det fun K=>H6 P ev s (.field t x f) K
  unfold H6
  dsimp only
  cases A3p P t f with
  | none=>exact Det.none
  | some o =>
   dsimp only
   refine Det.chk ?_
   cases ev x<;>try exact Det.none
   rename_i cs
   dsimp only
   cases cs[o.1]? with
   | none=>exact Det.none
   | some c=>exact Det.frc _
 case lookup t x i ok =>
  show Det fun K=>H6 P ev s (.lookup t x i ok) K
  unfold H6
  dsimp only
  cases ev x<;>try exact Det.none
  ·cases ev i<;>try exact Det.none
   exact Det.chk (Det.val _)
  ·rename_i a
   cases a<;>try exact Det.none
   cases ev i<;>try exact Det.none
   rename_i b l
   dsimp only
   cases B69 P t with
   | none=>exact Det.none
   | some z =>
    dsimp only
    intro K hK
    obtain ⟨es,hes,hg⟩:=A6r hK
    have hr:=hg.run
    rcases hf:P0 l es with _|v
    ·rw [hf] at hr
     dsimp only at hr
     rw [F8] at hr
     refine ⟨_,hr,fun K' hk=>T7 hes (U1.miss hf ?_)⟩
     rw [F8];exact hk
    ·rw [hf] at hr
     dsimp only at hr
     rw [F8] at hr
     refine ⟨_,hr,fun K' hk=>T7 hes (U1.hit hf ?_)⟩
     rw [F8];exact hk
 case slice t x lo hi mx=>exact B8g _ _ _ _ _
 case nilCheck x =>
  show Det fun K=>H6 P ev s (.nilCheck x) K
  unfold H6
  dsimp only
  cases ev x<;>try exact Det.none
  ·rename_i a;cases a<;>first|exact Det.none|exact Det.val _
  ·exact Det.val _
  ·exact Det.val _
  ·rename_i fn _ _;cases fn<;>first|exact Det.none|exact Det.val _
 case extract x i =>
  show Det fun K=>H6 P ev s (.extract x i) K
  unfold H6
  dsimp only
  cases ev x<;>try exact Det.none
  rename_i vs
  dsimp only
  cases vs[i]? with
  | none=>exact Det.none
  | some v=>exact Det.frc v
 case build t parts=>exact B8d _ _
 case load t x =>
  show Det fun K=>H6 P ev s (.load t x) K
  unfold H6
  dsimp only
  cases ev x<;>try exact Det.none
  ·rename_i a
   match a with
   | none=>exact Det.none
   | some ⟨b,o,some _⟩=>exact Det.none
   | some ⟨b,o,Option.none⟩=>exact Det.getB _ fun T cs=>B2w _ _
  ·exact B2w _ _
 case call c =>
  show Det fun K=>H6 P ev s (.call c) K
  unfold H6
  dsimp only
  cases c.callee<;>first|exact Det.none|exact B4b _ _ _
end
end Go.Ab
