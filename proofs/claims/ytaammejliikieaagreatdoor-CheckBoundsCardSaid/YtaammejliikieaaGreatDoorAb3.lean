/- What each operation does, said of abstract values: definitions. -/
import Derived.Test.YtaammejliikieaaGreatDoorAb2
set_option maxRecDepth 10000
set_option maxHeartbeats 60000000
set_option linter.all false
namespace Go.Ab
open Go
def asB:AV→(Bool→Prop)→Prop
 | .bool b,k=>k b
 | _,_=>False
def asI:AV→(IntKind→Int→Prop)→Prop
 | .int k n,f=>f k n
 | _,_=>False
def K7:AV→List AV
 | .agg cs=>cs
 | v=>[v]
def A57:AV→Bool
 | .agg _|.tuple _=>false
 | _=>true
def chk (b:Bool) (K:Prop):Prop :=
 match b with
 | true=>K
 | false=>False
theorem B2 {b:Bool} {K:Prop}:chk b K↔b=true∧K:=by cases b<;>simp [chk]
theorem M0 {p:Prop} [Decidable p] {K:Prop} (h:chk (decide p) K):p∧K:=⟨of_decide_eq_true (B2.1 h).1,(B2.1 h).2⟩
def brA (b:Bool) (yes no:Prop):Prop :=
 match b with
 | true=>yes
 | false=>no
theorem L3 {b:Bool} {yes no:Prop} (h1:b=true→yes) (h2:b=false→no):brA b yes no:=by
 cases b
 ·exact h2 rfl
 ·exact h1 rfl
def frc (v:AV) (K:AV→Prop):Prop :=
 match v with
 | .int k n=>K (.int k n)
 | .bool b=>K (.bool b)
 | .str l=>K (.str l)
 | .ptr a=>K (.ptr a)
 | .cptr cs=>K (.cptr cs)
 | .slice t es=>K (.slice t es)
 | .raw a n c=>K (.raw a n c)
 | .iface t v=>K (.iface t v)
 | .nilIface=>K .nilIface
 | .func fn fs cs=>K (.func fn fs cs)
 | .nilFunc=>K .nilFunc
 | .agg cs=>K (.agg cs)
 | .tuple vs=>K (.tuple vs)
 | .cmap es=>K (.cmap es)
 | .mref a=>K (.mref a)
theorem F8 (v:AV) (K:AV→Prop):frc v K=K v:=by cases v<;>rfl
def A2v:List AV→(List AV→Prop)→Prop
 | [],K=>K []
 | c::cs,K=>frc c fun c'=>A2v cs fun cs'=>K (c'::cs')
theorem C8:∀ (cs:List AV) (K:List AV→Prop),A2v cs K=K cs
 | [],_=>rfl
 | c::cs,K=>by unfold A2v;rw [F8,C8 cs]
theorem C5 {l l':List AV} {K:List AV→Prop} (e:l=l') (h:A2v l' K):A2v l K:=by subst e;exact h
def getB (x:Option (TypeId × List AV)) (K:TypeId→List AV→Prop):Prop :=
 match x with
 | some (T,cs)=>K T cs
 | none=>False
theorem X8 {x:Option (TypeId × List AV)} {K:TypeId→List AV→Prop} (h:getB x K):∃ T cs,x=some (T,cs)∧K T cs:=by
 match x,h with
 | some (T,cs),h=>exact ⟨T,cs,rfl,h⟩
def A0g (P:Program) (t:TypeId):Bool :=
 match P.underlying t with
 | some (.struct _)|some (.array _ _)=>true
 | some _=>false
 | none=>false
def J9 (P:Program) (t:TypeId):Option Nat:=if (P.underlying t).isSome then (P.info? t).map (·.size) else none
def A2o (P:Program) (t:TypeId):Option Nat:=(P.info? t).map (·.bytes)
def L9 (P:Program) (t:TypeId):Option TypeId :=
 match P.underlying t with|some (.slice e)=>some e|_=>none
def B2b (P:Program) (t:TypeId):Option (Nat × TypeId) :=
 match P.underlying t with|some (.array n e)=>some (n,e)|_=>none
def A3p (P:Program) (t:TypeId) (f:Nat):Option (Nat × TypeId) :=
 match P.underlying t with
 | some (.struct fs)=>match fs[f]? with
  | some x=>match P.info? x.type with
   | some i=>if i.size=0 then none else some (x.offset,x.type)
   | none=>none
  | none=>none
 | _=>none
def Y0 (P:Program) (t:TypeId):Option Bool :=
 match P.underlying t with
 | some (.interface _)=>some true
 | some _=>some false
 | none=>none
def A78 (P:Program) (t:TypeId):Bool :=
 match P.underlying t with|some (.pointer _)=>true|_=>false
def A36 (P:Program) (t:TypeId):Option (Option Nat) :=
 match P.underlying t with
 | none=>none
 | some (.struct _)|some (.array _ _)=>(P.info? t).map fun i=>some i.size
 | some _=>some none
def B4f:Value→Option AV
 | .int k n=>some (.int k n)
 | .bool b=>some (.bool b)
 | .string s=>some (.str s.data.toList)
 | .pointer none=>some (.ptr none)
 | .slice none 0 0=>some (.slice 1 [])
 | .nilIface=>some .nilIface
 | .nilFunc=>some .nilFunc
 | .map none=>some (.mref none)
 | _=>none
def A2k:List Value→Option (List AV)
 | []=>some []
 | v::vs=>match B4f v,A2k vs with
  | some x,some xs=>some (x::xs)
  | _,_=>none
def A6c:Value→Option AV
 | .agg cs=>(A2k cs.toList).map .agg
 | .tuple cs=>(A2k cs.toList).map .tuple
 | v=>B4f v
def Z0 (P:Program) (t:TypeId):Option (List AV) :=
 match P.info? t with
 | some i=>match i.zero with
  | some z=>A2k z.cells.toList
  | none=>none
 | none=>none
def evA (Γ:Nat→AV) (e:Env):Operand→AV
 | .tmp t=>e t
 | .const v=>(A6c v).getD .nilFunc
 | .global g=>Γ g
 | .func f=>.func (.func f) [] []
def okX:Operand→Bool
 | .const v=>(A6c v).isSome
 | _=>true
def C3r (op:BinOp):AV→AV→(AV→Prop)→Prop
 | .int k a,.int k' b,K =>
  match op with
  | .shl=>0≤b∧K (.int k (k.wrap (a * 2 ^ (min b.toNat k.bits))))
  | .shr=>0≤b∧K (.int k (a.fdiv (2 ^ (min b.toNat k.bits))))
  | .add=>chk (decide (k=k')) (K (.int k (k.wrap (a+b))))
  | .sub=>chk (decide (k=k')) (K (.int k (k.wrap (a - b))))
  | .mul=>chk (decide (k=k')) (K (.int k (k.wrap (a * b))))
  | .quo=>chk (decide (k=k')) (b≠0∧K (.int k (k.wrap (a.tdiv b))))
  | .rem=>chk (decide (k=k')) (b≠0∧K (.int k (a.tmod b)))
  | .and=>chk (decide (k=k')) (K (.int k (k.wrap ((BitVec.ofInt k.bits a &&& BitVec.ofInt k.bits b).toNat:Nat))))
  | .or=>chk (decide (k=k')) (K (.int k (k.wrap ((BitVec.ofInt k.bits a ||| BitVec.ofInt k.bits b).toNat:Nat))))
  | .xor=>chk (decide (k=k')) (K (.int k (k.wrap ((BitVec.ofInt k.bits a ^^^ BitVec.ofInt k.bits b).toNat:Nat))))
  | .andNot=>chk (decide (k=k')) (K (.int k (k.wrap ((BitVec.ofInt k.bits a &&& ~~~ BitVec.ofInt k.bits b).toNat:Nat))))
  | .eql=>chk (decide (k=k')) (K (.bool (decide (a=b))))
  | .neq=>chk (decide (k=k')) (K (.bool (!decide (a=b))))
  | .lss=>chk (decide (k=k')) (K (.bool (decide (a < b))))
  | .leq=>chk (decide (k=k')) (K (.bool (decide (a≤b))))
  | .gtr=>chk (decide (k=k')) (K (.bool (decide (b < a))))
  | .geq=>chk (decide (k=k')) (K (.bool (decide (b≤a))))
 | .str a,.str b,K =>
  match op with
  | .add=>a.length+b.length≤9223372036854775807∧K (.str (a++b))
  | .eql=>K (.bool (decide (a=b)))
  | .neq=>K (.bool (!decide (a=b)))
  | .lss=>K (.bool (Op.bytesLess a b))
  | .leq=>K (.bool (Op.bytesLess a b || decide (a=b)))
  | .gtr=>K (.bool (!(Op.bytesLess a b || decide (a=b))))
  | .geq=>K (.bool (!Op.bytesLess a b))
  | _=>False
 | _,_,_=>False
def A3x (P:Program) (t:TypeId):Option Nat :=
 match P.underlying t with
 | some (.int _)=>some 0
 | some .string=>some 1
 | some .bool=>some 2
 | _=>none
def A05 (P:Program):Nat→TypeId→Option (List (Nat × Nat))
 | 0,_=>none
 | d+1,t =>
  match P.underlying t with
  | some (.struct fs)=>if P.stoodInHeld t then none else
   fs.toList.foldr (fun f acc=>match acc,A3x P f.type,J9 P f.type with
    | some l, some k, some 1 => if f.name = "_" then none else some ((f.offset, k) :: l)
    | some l,none,some n=>(match A05 P d f.type with
     | some m => if f.name = "_" || !A0g P f.type || m.any (fun x => n ≤ x.1) then none else some (m.map (fun x => (f.offset + x.1, x.2)) ++ l)
     | none=>none)
    | _,_,_=>none) (some [])
  | _=>none
def B0g (k:Nat):AV→AV→(Bool→Prop)→Prop
 | .int i a,.int j b,K=>chk (decide (k=0) && decide (i=j)) (K (decide (a=b)))
 | .str a,.str b,K=>chk (decide (k=1)) (K (decide (a=b)))
 | .bool a,.bool b,K=>chk (decide (k=2)) (K (a == b))
 | _,_,_=>False
def U5:List (Nat × Nat)→List AV→List AV→(Bool→Prop)→Prop
 | [],_,_,K=>K true
 | (o,k)::l,xs,ys,K=>B0g k (xs.getD o undefA) (ys.getD o undefA) fun r=>U5 l xs ys fun q=>K (r && q)
structure P9 (P:Program) (t:TypeId) (xs ys:List AV) (K:Bool→Prop):Prop where
 run:chk (!P.eqGuardType P.depth t) (match A05 P 9999 t with|some l=>U5 l xs ys K|none=>False)
theorem P9.of {P:Program} {t:TypeId} {xs ys:List AV} {K:Bool→Prop} {l:List (Nat × Nat)} (h1:(!P.eqGuardType P.depth t)=true) (h2:A05 P 9999 t=some l) (h:U5 l xs ys K):P9 P t xs ys K :=
 ⟨B2.2 ⟨h1,by rw [h2];exact h⟩⟩
def aeq (P:Program) (t:TypeId):AV→AV→(Bool→Prop)→Prop
 | .int k a,.int k' b,K=>chk (decide (k=k')) (K (decide (a=b)))
 | .str a,.str b,K=>K (decide (a=b))
 | .bool a,.bool b,K=>chk (A3x P t == some 2) (K (a == b))
 | .ptr a,.ptr none,K=>chk (A78 P t) (K a.isNone)
 | .cptr _,.ptr none,K=>chk (A78 P t) (K false)
 | .ptr none,.cptr _,K=>chk (A78 P t) (K false)
 | .nilIface,.iface _ _,K=>chk (Y0 P t == some true) (K false)
 | .iface _ _,.nilIface,K=>chk (Y0 P t == some true) (K false)
 | .agg xs,.agg ys,K=>P9 P t xs ys K
 | _,_,_=>False
def A5g (P:Program) (op:BinOp) (t:TypeId) (x y:AV) (K:AV→Prop):Prop :=
 match op with
 | .eql=>aeq P t x y fun r=>K (.bool r)
 | .neq=>aeq P t x y fun r=>K (.bool (!r))
 | _=>C3r op x y K
def C1n:Operand→Bool
 | .const _=>true
 | _=>false
def B4a (P:Program) (op:BinOp) (t:TypeId) (c:Bool) (x y:AV) (K:AV→Prop):Prop :=
 match x with
 | .nilIface=>(match y with
  | .nilIface=>chk (c && Y0 P t == some true) (match op with
   | .eql=>K (.bool true)
   | .neq=>K (.bool false)
   | _=>False)
  | y=>A5g P op t .nilIface y K)
 | x=>A5g P op t x y K
theorem B19 {P:Program} {op:BinOp} {t:TypeId} {c:Bool} {x y:AV} {K:AV→Prop} (h:B4a P op t c x y K) :
  (x=.nilIface∧y=.nilIface∧c=true∧Y0 P t=some true∧(op=.eql∧K (.bool true)∨op=.neq∧K (.bool false)))∨A5g P op t x y K:=by
 cases x<;>cases y<;>try exact .inr h
 obtain ⟨h1,h2⟩:=B2.1 h
 rw [Bool.and_eq_true] at h1
 refine .inl ⟨rfl,rfl,h1.1,eq_of_beq h1.2,?_⟩
 cases op<;>first|exact .inl ⟨rfl,h2⟩|exact .inr ⟨rfl,h2⟩|exact h2.elim
def C41:Operand→Bool
 | .const (.slice none _ _)=>true
 | _=>false
def C0d:AV→Bool
 | .slice _ (_::_)=>true
 | .raw (some _) _ _=>true
 | _=>false
def C0s (op:BinOp) (y:Operand) (u:AV):Option Bool :=
 match op with
 | .eql=>cond (C41 y && C0d u) (some false) none
 | .neq=>cond (C41 y && C0d u) (some true) none
 | _=>none
def A55 (P:Program) (op:BinOp) (t:TypeId) (y:Operand) (c:Bool) (u v:AV) (K:AV→Prop):Prop :=
 match C0s op y u with
 | some r=>chk (L9 P t).isSome (K (.bool r))
 | none=>B4a P op t c u v K
theorem B9i {op:BinOp} {y:Operand} {u:AV} {r:Bool} (h:C0s op y u=some r):(op=.eql∧r=false∨op=.neq∧r=true)∧C41 y=true∧C0d u=true:=by
 unfold C0s at h
 cases h1:C41 y && C0d u
 ·rw [h1] at h
  split at h<;>cases h
 ·rw [h1] at h
  rw [Bool.and_eq_true] at h1
  split at h
  ·injection h with h;exact ⟨.inl ⟨rfl,h.symm⟩,h1⟩
  ·injection h with h;exact ⟨.inr ⟨rfl,h.symm⟩,h1⟩
  ·cases h
def aun:UnOp→AV→(AV→Prop)→Prop
 | .not,.bool b,K=>K (.bool (!b))
 | .neg,.int k n,K=>K (.int k (k.wrap (0 - n)))
 | .xor,.int k n,K=>K (.int k (k.wrap ((BitVec.ofInt k.bits (if k.signed then -1 else k.max) ^^^ BitVec.ofInt k.bits n).toNat:Nat)))
 | _,_,_=>False
def B0 (l:List UInt8) (i:Nat):UInt8:=l.getD i 0
def K6 (l:List UInt8):List (List AV):=l.map fun b=>[.int .u8 b.toNat]
def A9j:List AV→Option UInt8
 | [.int .u8 n]=>some (UInt8.ofNat n.toNat)
 | _=>none
def unB:List (List AV)→Option (List UInt8)
 | []=>some []
 | e::es=>match A9j e,unB es with
  | some b,some l=>some (b::l)
  | _,_=>none
def A1y (P:Program) (t:TypeId) (cs:List AV) (K:AV→Prop):Prop :=
 match A36 P t with
 | some (some n)=>n≤cs.length∧A2v (cs.take n) fun l=>K (.agg l)
 | some none=>(match cs with|c::_=>frc c K | []=>False)
 | none=>False
def N9 (k:Nat):Nat→List AV→List (List AV)
 | 0,_=>[]
 | n+1,cs=>cs.take k::N9 k n (cs.drop k)
def N5 (lo:Option AV) (d:Nat) (K:Nat→Prop):Prop :=
 match lo with
 | none=>K d
 | some (.int _ n)=>0≤n∧K n.toNat
 | some _=>False
def A3j (P:Program) (t:TypeId) (x:AV) (lo hi mx:Option AV) (K:AV→Prop):Prop :=
 match x with
 | .str l=>chk (mx.isNone && A3x P t == some 1) (N5 hi l.length fun h=>N5 lo 0 fun a=>a≤h∧h≤l.length∧K (.str ((l.take h).drop a)))
 | .slice tk es =>
  match L9 P t with
  | some e=>(match J9 P e with
   | some k=>(match mx with
    | none=>N5 hi es.length fun h=>N5 lo 0 fun a=>a≤h∧h≤es.length∧(∀ c ∈ es,c.length=k)∧K (.slice (if lo.isNone && hi.isNone then tk else 0) ((es.take h).drop a))
    | some _=>chk hi.isSome (N5 mx 0 fun m=>N5 hi 0 fun h=>N5 lo 0 fun a=>a≤h∧h=m∧h≤es.length∧(∀ c ∈ es,c.length=k)∧K (.slice 1 ((es.take h).drop a))))
   | none=>False)
  | none=>False
 | .raw (some ⟨b,o,none⟩) len cap =>
  match L9 P t with
  | some e=>(match J9 P e with
   | some k=>chk mx.isNone (N5 hi len fun h=>N5 lo 0 fun a=>a≤h∧h≤cap∧K (.raw (some ⟨b,if cap=a then o else o+a * k,none⟩) (h - a) (cap - a)))
   | none=>False)
  | none=>False
 | .cptr cs =>
  match B2b P t with
  | some (n,e)=>(match J9 P e with
   | some k=>chk mx.isNone (N5 hi n fun h=>N5 lo 0 fun a=>a≤h∧h≤n∧n * k≤cs.length∧K (.slice 0 (((N9 k n cs).take h).drop a)))
   | none=>False)
  | none=>False
 | .ptr (some ⟨b,o,none⟩) =>
  match B2b P t with
  | some (n,e)=>(match J9 P e with
   | some k=>chk mx.isNone (N5 hi n fun h=>N5 lo 0 fun a=>a≤h∧h≤n∧K (.raw (some ⟨b,if n=a then o else o+a * k,none⟩) (h - a) (n - a)))
   | none=>False)
  | none=>False
 | _=>False
def J3 (P:Program) (t:TypeId) (x:AV) (n:Int) (K:AV→Prop):Prop :=
 match x with
 | .slice _ es =>
  match L9 P t with
  | some e=>(match J9 P e with
   | some k=>0≤n∧n.toNat < es.length∧(es.getD n.toNat []).length=k∧A2v (es.getD n.toNat []) fun l=>K (.cptr l)
   | none=>False)
  | none=>False
 | .raw (some ⟨b,o,none⟩) len _ =>
  match L9 P t with
  | some e=>(match J9 P e with
   | some k=>0≤n∧n.toNat < len∧K (.ptr (some ⟨b,o+n.toNat * k,none⟩))
   | none=>False)
  | none=>False
 | .cptr cs =>
  match B2b P t with
  | some (len,e)=>(match J9 P e with
   | some k=>0≤n∧n.toNat < len∧K (.cptr (cs.drop (n.toNat * k)))
   | none=>False)
  | none=>False
 | .ptr (some ⟨b,o,none⟩) =>
  match B2b P t with
  | some (len,e)=>(match J9 P e with
   | some k=>0≤n∧n.toNat < len∧K (.ptr (some ⟨b,o+n.toNat * k,none⟩))
   | none=>False)
  | none=>False
 | _=>False
def u8T (P:Program) (t:TypeId):Bool :=
 match P.underlying t with|some (.int .u8)=>true|_=>false
def B2r (P:Program) (s:Sto) (src dst:TypeId) (x:AV) (K:AV→Prop):Prop :=
 match P.underlying src,P.underlying dst,x with
 | some _,some (.int k),.int _ n=>K (.int k (k.wrap n))
 | some _,some .string,.str l=>K (.str l)
 | some (.slice e),some .string,.slice _ es=>chk (u8T P e) (match unB es with|some l=>K (.str l)|none=>False)
 | some (.slice e),some .string,.raw (some ⟨b,o,none⟩) len _=>chk (u8T P e)
   (getB (s.bx b) fun _ cs=>o+len≤cs.length∧(match unB (N9 1 len (cs.drop o)) with|some l=>K (.str l)|none=>False))
 | _,_,_=>False
def A4p (P:Program) (t:TypeId):Option (Nat→Option (Nat × Nat)) :=
 match P.underlying t with
 | some (.struct fs)=>some fun i=>match fs[i]? with
  | some f=>(P.info? f.type).map fun x=>(f.offset,x.size)
  | none=>none
 | some (.array _ e)=>(P.info? e).map fun x=>fun i=>some (i * x.size,x.size)
 | _=>none
def B5l (P:Program) (t:TypeId) (i:Nat):Option (Nat × Nat):=(A4p P t).bind fun f=>f i
def A42 (P:Program) (t:TypeId):List AV→List (Nat × AV)→(List AV→Prop)→Prop
 | cs,[],K=>A2v cs K
 | cs,(i,v)::rest,K =>
  match B5l P t i with
  | some (off,n)=>(K7 v).length=n∧off+n≤cs.length∧A42 P t (cs.take off++K7 v++cs.drop (off+n)) rest K
  | none=>False
def B8q (P:Program) (t:TypeId):Bool :=
 match P.underlying t with
 | some (.struct fs)=>fs.toList.all fun f=>(P.info? f.type).isSome
 | some (.array _ e)=>(P.info? e).isSome
 | _=>false
def A9x (P:Program) (t:TypeId) (parts:List (Nat × AV)) (K:AV→Prop):Prop :=
 chk (B8q P t) (match Z0 P t with
 | some z=>A42 P t z parts fun cs=>K (.agg cs)
 | none=>False)
def A0a (P:Program) (b:Builtin) (ts:List TypeId) (xs:List AV) (K:AV→Prop):Prop :=
 match b,ts,xs with
 | .len,[t],[.str l]=>chk (A3x P t == some 1) (K (.int .i64 l.length))
 | .len,[t],[.slice _ es]=>chk (L9 P t).isSome (K (.int .i64 es.length))
 | .len,[t],[.raw _ n _]=>chk (L9 P t).isSome (K (.int .i64 n))
 | .cap,[t],[.raw _ _ n]=>chk (L9 P t).isSome (K (.int .i64 n))
 | .max,_,[.int k a,.int _ b]=>K (.int k (if b > a then b else a))
 | .min,_,[.int k a,.int _ b]=>K (.int k (if b < a then b else a))
 | _,_,_=>False
def B9g (l:List UInt8):List (List UInt8 × Int)→Int
 | []=>0
 | x::es=>if l=x.1 then x.2 else B9g l es
def C93 (P:Program) (t:TypeId):Bool :=
 match P.underlying t with
 | some (.map k e)=>(A3x P k == some 1) && (match P.underlying e,P.info? e with
  | some (.int .i64),some i=>(match i.zero with|some (.int .i64 0)=>true|_=>false)
  | _,_=>false)
 | _=>false
def P0 (l:List UInt8):List (List UInt8 × AV)→Option AV
 | []=>none
 | x::es=>if l=x.1 then some x.2 else P0 l es
def C7i (x:Option (List (List UInt8 × AV))) (K:List (List UInt8 × AV)→Prop):Prop :=
 match x with
 | some es=>K es
 | none=>False
theorem A6r {x:Option (List (List UInt8 × AV))} {K:List (List UInt8 × AV)→Prop} (h:C7i x K):∃ es,x=some es∧K es:=by
 match x,h with
 | some es,h=>exact ⟨es,rfl,h⟩
theorem T7 {x:Option (List (List UInt8 × AV))} {es:List (List UInt8 × AV)} {K:List (List UInt8 × AV)→Prop} (hx:x=some es) (h:K es):C7i x K:=by subst hx;exact h
def B69 (P:Program) (t:TypeId):Option AV :=
 match P.underlying t with
 | some (.map k e)=>(match A3x P k,P.info? e with
  | some 1,some i=>(match i.zero with
   | some z=>A6c z
   | none=>none)
  | _,_=>none)
 | _=>none
structure U1 (x:Option AV) (yes:AV→Prop) (no:Prop):Prop where
 run:match x with
  | some v=>yes v
  | none=>no
theorem U1.hit {x:Option AV} {v:AV} {yes:AV→Prop} {no:Prop} (hx:x=some v) (h:yes v):U1 x yes no:=⟨by rw [hx];exact h⟩
theorem U1.miss {x:Option AV} {yes:AV→Prop} {no:Prop} (hx:x=none) (h:no):U1 x yes no:=⟨by rw [hx];exact h⟩
def B7h (t:Bool) (x y:AV) (K:AV→Prop):Prop :=
 match x,y with
 | .bool a,.bool b=>K (.bool (if t then a else b))
 | x,y=>brA t (frc x K) (frc y K)
def H6 (P:Program) (ev:Operand→AV) (s:Sto) (op:Op) (K:AV→Prop):Prop :=
 match op with
 | .move x|.assign x=>frc (ev x) K
 | .pick c a b=>asB (ev c) fun t=>B7h t (ev a) (ev b) K
 | .binOp op t x y _=>A55 P op t y (C1n x || C1n y) (ev x) (ev y) K
 | .unOp op _ x=>aun op (ev x) K
 | .convert src dst x=>B2r P s src dst (ev x) K
 | .makeInterface t x=>chk (Y0 P t == some false) (frc (ev x) fun v=>K (.iface t v))
 | .makeFunc fn first captured=>K (.func fn (first.toList.map ev) (captured.toList.map ev))
 | .fieldAddr t x f =>
  match A3p P t f with
  | some (off,_)=>(match ev x with
   | .ptr (some ⟨b,o,none⟩)=>K (.ptr (some ⟨b,o+off,none⟩))
   | .cptr cs=>A2v (cs.drop off) fun l=>K (.cptr l)
   | _=>False)
  | none=>False
 | .indexAddr t x i=>asI (ev i) fun _ n=>J3 P t (ev x) n K
 | .index t x i=>asI (ev i) fun _ n=>match ev x with
  | .str l=>chk (A3x P t == some 1) (0≤n∧n.toNat < l.length∧K (.int .u8 (B0 l n.toNat).toNat))
  | _=>False
 | .field t x f =>
  match A3p P t f with
  | some (off,ft)=>chk (A36 P ft == some none) (match ev x with
   | .agg cs=>(match cs[off]? with|some c=>frc c K|none=>False)
   | _=>False)
  | none=>False
 | .lookup t x i ok=>(match ev x,ev i with
  | .cmap es,.str l=>chk (!ok && C93 P t) (K (.int .i64 (B9g l es)))
  | .mref (some b),.str l=>(match B69 P t with
   | some z=>C7i (s.mp b) fun es=>U1 (P0 l es) (fun v=>frc v fun v=>K (cond ok (.tuple [v,.bool true]) v)) (frc z fun z=>K (cond ok (.tuple [z,.bool false]) z))
   | none=>False)
  | _,_=>False)
 | .slice t x lo hi mx=>A3j P t (ev x) (lo.map ev) (hi.map ev) (mx.map ev) K
 | .nilCheck x=>(match ev x with
  | .ptr (some a)=>K (.ptr (some a))
  | .cptr cs=>K (.cptr cs)
  | .iface t v=>K (.iface t v)
  | .func (.func f) fs cs=>K (.func (.func f) fs cs)
  | _=>False)
 | .extract x i=>(match ev x with
  | .tuple vs=>(match vs[i]? with|some v=>frc v K|none=>False)
  | _=>False)
 | .build t parts=>A9x P t (parts.toList.map fun (i,x)=>(i,ev x)) K
 | .load t x=>(match ev x with
  | .cptr cs=>A1y P t cs K
  | .ptr (some ⟨b,o,none⟩)=>getB (s.bx b) fun _ cs=>A1y P t (cs.drop o) K
  | _=>False)
 | .call c=>(match c.callee with|.builtin b=>A0a P b c.argTypes.toList (c.args.toList.map ev) K|_=>False)
 | _=>False
end Go.Ab
