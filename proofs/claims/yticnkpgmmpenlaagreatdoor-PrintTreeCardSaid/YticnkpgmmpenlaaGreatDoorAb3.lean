/- What each operation does, said of abstract values: definitions. -/
import Derived.Test.YticnkpgmmpenlaaGreatDoorAb2
set_option maxRecDepth 10000
set_option maxHeartbeats 60000000
set_option linter.all false
namespace Go.Ab
open Go
def asB:AV→(Bool→Prop)→Prop
 | .bool b,k=>k b
 | _,_=>False
def asI:AV→(IntKind→Int→Prop)→Prop
 | .int k n,f=>f k n
 | _,_=>False
def S1:AV→List AV
 | .agg cs=>cs
 | v=>[v]
def A99:AV→Bool
 | .agg _|.tuple _=>false
 | _=>true
def chk (b:Bool) (K:Prop):Prop :=
 match b with
 | true=>K
 | false=>False
theorem C6 {b:Bool} {K:Prop}:chk b K↔b=true∧K:=by cases b<;>simp [chk]
theorem R2 {p:Prop} [Decidable p] {K:Prop} (h:chk (decide p) K):p∧K:=⟨of_decide_eq_true (C6.1 h).1,(C6.1 h).2⟩
def brA (b:Bool) (yes no:Prop):Prop :=
 match b with
 | true=>yes
 | false=>no
theorem E7 {b:Bool} {yes no:Prop} (h1:b=true→yes) (h2:b=false→no):brA b yes no:=by
 cases b
 ·exact h2 rfl
 ·exact h1 rfl
def frc (v:AV) (K:AV→Prop):Prop :=
 match v with
 | .int k n=>K (.int k n)
 | .bool b=>K (.bool b)
 | .str l=>K (.str l)
 | .ptr a=>K (.ptr a)
 | .cptr cs=>K (.cptr cs)
 | .slice t es=>K (.slice t es)
 | .raw a n c=>K (.raw a n c)
 | .iface t v=>K (.iface t v)
 | .nilIface=>K .nilIface
 | .func fn fs cs=>K (.func fn fs cs)
 | .nilFunc=>K .nilFunc
 | .agg cs=>K (.agg cs)
 | .tuple vs=>K (.tuple vs)
 | .cmap es=>K (.cmap es)
theorem M3 (v:AV) (K:AV→Prop):frc v K=K v:=by cases v<;>rfl
def A5p:List AV→(List AV→Prop)→Prop
 | [],K=>K []
 | c::cs,K=>frc c fun c'=>A5p cs fun cs'=>K (c'::cs')
theorem E8:∀ (cs:List AV) (K:List AV→Prop),A5p cs K=K cs
 | [],_=>rfl
 | c::cs,K=>by unfold A5p;rw [M3,E8 cs]
theorem A2g {l l':List AV} {K:List AV→Prop} (e:l=l') (h:A5p l' K):A5p l K:=by subst e;exact h
def getB (x:Option (TypeId × List AV)) (K:TypeId→List AV→Prop):Prop :=
 match x with
 | some (T,cs)=>K T cs
 | none=>False
theorem A2q {x:Option (TypeId × List AV)} {K:TypeId→List AV→Prop} (h:getB x K):∃ T cs,x=some (T,cs)∧K T cs:=by
 match x,h with
 | some (T,cs),h=>exact ⟨T,cs,rfl,h⟩
def A27 (P:Program) (t:TypeId):Bool :=
 match P.underlying t with
 | some (.struct _)|some (.array _ _)=>true
 | some _=>false
 | none=>false
def Q6 (P:Program) (t:TypeId):Option Nat:=if (P.underlying t).isSome then (P.info? t).map (·.size) else none
def A6d (P:Program) (t:TypeId):Option Nat:=(P.info? t).map (·.bytes)
def Q9 (P:Program) (t:TypeId):Option TypeId :=
 match P.underlying t with|some (.slice e)=>some e|_=>none
def B4r (P:Program) (t:TypeId):Option (Nat × TypeId) :=
 match P.underlying t with|some (.array n e)=>some (n,e)|_=>none
def D91 (P:Program) (t:TypeId):Option (Nat × TypeId) :=
 match P.underlying t with|some (.pointer a)=>B4r P a|_=>none
def A9q (P:Program) (t:TypeId) (f:Nat):Option (Nat × TypeId) :=
 match P.underlying t with
 | some (.struct fs)=>match fs[f]? with
  | some x=>match P.info? x.type with
   | some i=>if i.size=0 then none else some (x.offset,x.type)
   | none=>none
  | none=>none
 | _=>none
def A1g (P:Program) (t:TypeId):Option Bool :=
 match P.underlying t with
 | some (.interface _)=>some true
 | some _=>some false
 | none=>none
def B2b (P:Program) (t:TypeId):Bool :=
 match P.underlying t with|some (.pointer _)=>true|_=>false
def A78 (P:Program) (t:TypeId):Option (Option Nat) :=
 match P.underlying t with
 | none=>none
 | some (.struct _)|some (.array _ _)=>(P.info? t).map fun i=>some i.size
 | some _=>some none
def B93:Value→Option AV
 | .int k n=>some (.int k n)
 | .bool b=>some (.bool b)
 | .string s=>some (.str s.data.toList)
 | .pointer none=>some (.ptr none)
 | .slice none 0 0=>some (.slice 1 [])
 | .nilIface=>some .nilIface
 | .nilFunc=>some .nilFunc
 | _=>none
def A6b:List Value→Option (List AV)
 | []=>some []
 | v::vs=>match B93 v,A6b vs with
  | some x,some xs=>some (x::xs)
  | _,_=>none
def B3y:Value→Option AV
 | .agg cs=>(A6b cs.toList).map .agg
 | .tuple cs=>(A6b cs.toList).map .tuple
 | v=>B93 v
def A23 (P:Program) (t:TypeId):Option (List AV) :=
 match P.info? t with
 | some i=>match i.zero with
  | some z=>A6b z.cells.toList
  | none=>none
 | none=>none
def evA (Γ:Nat→AV) (e:Env):Operand→AV
 | .tmp t=>e t
 | .const v=>(B3y v).getD .nilFunc
 | .global g=>Γ g
 | .func f=>.func (.func f) [] []
def okX:Operand→Bool
 | .const v=>(B3y v).isSome
 | _=>true
def D0z (op:BinOp):AV→AV→(AV→Prop)→Prop
 | .int k a,.int k' b,K =>
  match op with
  | .shl=>0≤b∧K (.int k (k.wrap (a * 2 ^ (min b.toNat k.bits))))
  | .shr=>0≤b∧K (.int k (a.fdiv (2 ^ (min b.toNat k.bits))))
  | .add=>chk (decide (k=k')) (K (.int k (k.wrap (a+b))))
  | .sub=>chk (decide (k=k')) (K (.int k (k.wrap (a - b))))
  | .mul=>chk (decide (k=k')) (K (.int k (k.wrap (a * b))))
  | .quo=>chk (decide (k=k')) (b≠0∧K (.int k (k.wrap (a.tdiv b))))
  | .rem=>chk (decide (k=k')) (b≠0∧K (.int k (a.tmod b)))
  | .and=>chk (decide (k=k')) (K (.int k (k.wrap ((BitVec.ofInt k.bits a &&& BitVec.ofInt k.bits b).toNat:Nat))))
  | .or=>chk (decide (k=k')) (K (.int k (k.wrap ((BitVec.ofInt k.bits a ||| BitVec.ofInt k.bits b).toNat:Nat))))
  | .xor=>chk (decide (k=k')) (K (.int k (k.wrap ((BitVec.ofInt k.bits a ^^^ BitVec.ofInt k.bits b).toNat:Nat))))
  | .andNot=>chk (decide (k=k')) (K (.int k (k.wrap ((BitVec.ofInt k.bits a &&& ~~~ BitVec.ofInt k.bits b).toNat:Nat))))
  | .eql=>chk (decide (k=k')) (K (.bool (decide (a=b))))
  | .neq=>chk (decide (k=k')) (K (.bool (!decide (a=b))))
  | .lss=>chk (decide (k=k')) (K (.bool (decide (a < b))))
  | .leq=>chk (decide (k=k')) (K (.bool (decide (a≤b))))
  | .gtr=>chk (decide (k=k')) (K (.bool (decide (b < a))))
  | .geq=>chk (decide (k=k')) (K (.bool (decide (b≤a))))
 | .str a,.str b,K =>
  match op with
  | .add=>a.length+b.length≤9223372036854775807∧K (.str (a++b))
  | .eql=>K (.bool (decide (a=b)))
  | .neq=>K (.bool (!decide (a=b)))
  | .lss=>K (.bool (Op.bytesLess a b))
  | .leq=>K (.bool (Op.bytesLess a b || decide (a=b)))
  | .gtr=>K (.bool (!(Op.bytesLess a b || decide (a=b))))
  | .geq=>K (.bool (!Op.bytesLess a b))
  | _=>False
 | _,_,_=>False
def A9f (P:Program) (t:TypeId):Option Nat :=
 match P.underlying t with
 | some (.int _)=>some 0
 | some .string=>some 1
 | some .bool=>some 2
 | _=>none
def A2w (P:Program):Nat→TypeId→Option (List (Nat × Nat))
 | 0,_=>none
 | d+1,t =>
  match P.underlying t with
  | some (.struct fs)=>if P.stoodInHeld t then none else
   fs.toList.foldr (fun f acc=>match acc,A9f P f.type,Q6 P f.type with
    | some l, some k, some 1 => if f.name = "_" then none else some ((f.offset, k) :: l)
    | some l,none,some n=>(match A2w P d f.type with
     | some m => if f.name = "_" || !A27 P f.type || m.any (fun x => n ≤ x.1) then none else some (m.map (fun x => (f.offset + x.1, x.2)) ++ l)
     | none=>none)
    | _,_,_=>none) (some [])
  | _=>none
def B47 (k:Nat):AV→AV→(Bool→Prop)→Prop
 | .int i a,.int j b,K=>chk (decide (k=0) && decide (i=j)) (K (decide (a=b)))
 | .str a,.str b,K=>chk (decide (k=1)) (K (decide (a=b)))
 | .bool a,.bool b,K=>chk (decide (k=2)) (K (a == b))
 | _,_,_=>False
def Y3:List (Nat × Nat)→List AV→List AV→(Bool→Prop)→Prop
 | [],_,_,K=>K true
 | (o,k)::l,xs,ys,K=>B47 k (xs.getD o undefA) (ys.getD o undefA) fun r=>Y3 l xs ys fun q=>K (r && q)
structure P4 (P:Program) (t:TypeId) (xs ys:List AV) (K:Bool→Prop):Prop where
 run:chk (!P.eqGuardType P.depth t) (match A2w P 9999 t with|some l=>Y3 l xs ys K|none=>False)
theorem P4.of {P:Program} {t:TypeId} {xs ys:List AV} {K:Bool→Prop} {l:List (Nat × Nat)} (h1:(!P.eqGuardType P.depth t)=true) (h2:A2w P 9999 t=some l) (h:Y3 l xs ys K):P4 P t xs ys K :=
 ⟨C6.2 ⟨h1,by rw [h2];exact h⟩⟩
def aeq (P:Program) (t:TypeId):AV→AV→(Bool→Prop)→Prop
 | .int k a,.int k' b,K=>chk (decide (k=k')) (K (decide (a=b)))
 | .str a,.str b,K=>K (decide (a=b))
 | .bool a,.bool b,K=>chk (A9f P t == some 2) (K (a == b))
 | .ptr a,.ptr none,K=>chk (B2b P t) (K a.isNone)
 | .cptr _,.ptr none,K=>chk (B2b P t) (K false)
 | .ptr none,.cptr _,K=>chk (B2b P t) (K false)
 | .nilIface,.iface _ _,K=>chk (A1g P t == some true) (K false)
 | .iface _ _,.nilIface,K=>chk (A1g P t == some true) (K false)
 | .agg xs,.agg ys,K=>P4 P t xs ys K
 | _,_,_=>False
def A9n (P:Program) (op:BinOp) (t:TypeId) (x y:AV) (K:AV→Prop):Prop :=
 match op with
 | .eql=>aeq P t x y fun r=>K (.bool r)
 | .neq=>aeq P t x y fun r=>K (.bool (!r))
 | _=>D0z op x y K
def C8b:Operand→Bool
 | .const _=>true
 | _=>false
def B9z (P:Program) (op:BinOp) (t:TypeId) (c:Bool) (x y:AV) (K:AV→Prop):Prop :=
 match x with
 | .nilIface=>(match y with
  | .nilIface=>chk (c && A1g P t == some true) (match op with
   | .eql=>K (.bool true)
   | .neq=>K (.bool false)
   | _=>False)
  | y=>A9n P op t .nilIface y K)
 | x=>A9n P op t x y K
theorem B7o {P:Program} {op:BinOp} {t:TypeId} {c:Bool} {x y:AV} {K:AV→Prop} (h:B9z P op t c x y K) :
  (x=.nilIface∧y=.nilIface∧c=true∧A1g P t=some true∧(op=.eql∧K (.bool true)∨op=.neq∧K (.bool false)))∨A9n P op t x y K:=by
 cases x<;>cases y<;>try exact .inr h
 obtain ⟨h1,h2⟩:=C6.1 h
 rw [Bool.and_eq_true] at h1
 refine .inl ⟨rfl,rfl,h1.1,eq_of_beq h1.2,?_⟩
 cases op<;>first|exact .inl ⟨rfl,h2⟩|exact .inr ⟨rfl,h2⟩|exact h2.elim
def D2u:Operand→Bool
 | .const (.slice none _ _)=>true
 | _=>false
def C6t:AV→Bool
 | .slice _ (_::_)=>true
 | .raw (some _) _ _=>true
 | _=>false
def C7c (op:BinOp) (y:Operand) (u:AV):Option Bool :=
 match op with
 | .eql=>cond (D2u y && C6t u) (some false) none
 | .neq=>cond (D2u y && C6t u) (some true) none
 | _=>none
def A97 (P:Program) (op:BinOp) (t:TypeId) (y:Operand) (c:Bool) (u v:AV) (K:AV→Prop):Prop :=
 match C7c op y u with
 | some r=>chk (Q9 P t).isSome (K (.bool r))
 | none=>B9z P op t c u v K
theorem C5j {op:BinOp} {y:Operand} {u:AV} {r:Bool} (h:C7c op y u=some r):(op=.eql∧r=false∨op=.neq∧r=true)∧D2u y=true∧C6t u=true:=by
 unfold C7c at h
 cases h1:D2u y && C6t u
 ·rw [h1] at h
  split at h<;>cases h
 ·rw [h1] at h
  rw [Bool.and_eq_true] at h1
  split at h
  ·injection h with h;exact ⟨.inl ⟨rfl,h.symm⟩,h1⟩
  ·injection h with h;exact ⟨.inr ⟨rfl,h.symm⟩,h1⟩
  ·cases h
def aun:UnOp→AV→(AV→Prop)→Prop
 | .not,.bool b,K=>K (.bool (!b))
 | .neg,.int k n,K=>K (.int k (k.wrap (0 - n)))
 | .xor,.int k n,K=>K (.int k (k.wrap ((BitVec.ofInt k.bits (if k.signed then -1 else k.max) ^^^ BitVec.ofInt k.bits n).toNat:Nat)))
 | _,_,_=>False
def B9 (l:List UInt8) (i:Nat):UInt8:=l.getD i 0
def J9 (l:List UInt8):List (List AV):=l.map fun b=>[.int .u8 b.toNat]
def B3v:List AV→Option UInt8
 | [.int .u8 n]=>some (UInt8.ofNat n.toNat)
 | _=>none
def unB:List (List AV)→Option (List UInt8)
 | []=>some []
 | e::es=>match B3v e,unB es with
  | some b,some l=>some (b::l)
  | _,_=>none
def A36 (P:Program) (t:TypeId) (cs:List AV) (K:AV→Prop):Prop :=
 match A78 P t with
 | some (some n)=>n≤cs.length∧A5p (cs.take n) fun l=>K (.agg l)
 | some none=>(match cs with|c::_=>frc c K | []=>False)
 | none=>False
def U3 (k:Nat):Nat→List AV→List (List AV)
 | 0,_=>[]
 | n+1,cs=>cs.take k::U3 k n (cs.drop k)
def T6 (lo:Option AV) (d:Nat) (K:Nat→Prop):Prop :=
 match lo with
 | none=>K d
 | some (.int _ n)=>0≤n∧K n.toNat
 | some _=>False
def A7j (P:Program) (t:TypeId) (x:AV) (lo hi mx:Option AV) (K:AV→Prop):Prop :=
 match x with
 | .str l=>chk (mx.isNone && A9f P t == some 1) (T6 hi l.length fun h=>T6 lo 0 fun a=>a≤h∧h≤l.length∧K (.str ((l.take h).drop a)))
 | .slice tk es =>
  match Q9 P t with
  | some e=>(match Q6 P e with
   | some k=>(match mx with
    | none=>T6 hi es.length fun h=>T6 lo 0 fun a=>a≤h∧h≤es.length∧(∀ c ∈ es,c.length=k)∧K (.slice (if lo.isNone && hi.isNone then tk else 0) ((es.take h).drop a))
    | some _=>chk hi.isSome (T6 mx 0 fun m=>T6 hi 0 fun h=>T6 lo 0 fun a=>a≤h∧h=m∧h≤es.length∧(∀ c ∈ es,c.length=k)∧K (.slice 1 ((es.take h).drop a))))
   | none=>False)
  | none=>False
 | .raw (some ⟨b,o,none⟩) len cap =>
  match Q9 P t with
  | some e=>(match Q6 P e with
   | some k=>chk mx.isNone (T6 hi len fun h=>T6 lo 0 fun a=>a≤h∧h≤cap∧K (.raw (some ⟨b,if cap=a then o else o+a * k,none⟩) (h - a) (cap - a)))
   | none=>False)
  | none=>False
 | .cptr cs =>
  match B4r P t with
  | some (n,e)=>(match Q6 P e with
   | some k=>chk mx.isNone (T6 hi n fun h=>T6 lo 0 fun a=>a≤h∧h≤n∧n * k≤cs.length∧K (.slice 0 (((U3 k n cs).take h).drop a)))
   | none=>False)
  | none=>False
 | .ptr (some ⟨b,o,none⟩) =>
  match B4r P t with
  | some (n,e)=>(match Q6 P e with
   | some k=>chk mx.isNone (T6 hi n fun h=>T6 lo 0 fun a=>a≤h∧h≤n∧K (.raw (some ⟨b,if n=a then o else o+a * k,none⟩) (h - a) (n - a)))
   | none=>False)
  | none=>False
 | _=>False
def N0 (P:Program) (t:TypeId) (x:AV) (n:Int) (K:AV→Prop):Prop :=
 match x with
 | .slice _ es =>
  match Q9 P t with
  | some e=>(match Q6 P e with
   | some k=>0≤n∧n.toNat < es.length∧(es.getD n.toNat []).length=k∧A5p (es.getD n.toNat []) fun l=>K (.cptr l)
   | none=>False)
  | none=>False
 | .raw (some ⟨b,o,none⟩) len _ =>
  match Q9 P t with
  | some e=>(match Q6 P e with
   | some k=>0≤n∧n.toNat < len∧K (.ptr (some ⟨b,o+n.toNat * k,none⟩))
   | none=>False)
  | none=>False
 | .cptr cs =>
  match B4r P t with
  | some (len,e)=>(match Q6 P e with
   | some k=>0≤n∧n.toNat < len∧K (.cptr (cs.drop (n.toNat * k)))
   | none=>False)
  | none=>False
 | .ptr (some ⟨b,o,none⟩) =>
  match B4r P t with
  | some (len,e)=>(match Q6 P e with
   | some k=>0≤n∧n.toNat < len∧K (.ptr (some ⟨b,o+n.toNat * k,none⟩))
   | none=>False)
  | none=>False
 | _=>False
def u8T (P:Program) (t:TypeId):Bool :=
 match P.underlying t with|some (.int .u8)=>true|_=>false
def B74 (P:Program) (s:Sto) (src dst:TypeId) (x:AV) (K:AV→Prop):Prop :=
 match P.underlying src,P.underlying dst,x with
 | some _,some (.int k),.int _ n=>K (.int k (k.wrap n))
 | some _,some .string,.str l=>K (.str l)
 | some (.slice e),some .string,.slice _ es=>chk (u8T P e) (match unB es with|some l=>K (.str l)|none=>False)
 | some (.slice e),some .string,.raw (some ⟨b,o,none⟩) len _=>chk (u8T P e)
   (getB (s.bx b) fun _ cs=>o+len≤cs.length∧(match unB (U3 1 len (cs.drop o)) with|some l=>K (.str l)|none=>False))
 | _,_,_=>False
def A8w (P:Program) (t:TypeId):Option (Nat→Option (Nat × Nat)) :=
 match P.underlying t with
 | some (.struct fs)=>some fun i=>match fs[i]? with
  | some f=>(P.info? f.type).map fun x=>(f.offset,x.size)
  | none=>none
 | some (.array _ e)=>(P.info? e).map fun x=>fun i=>some (i * x.size,x.size)
 | _=>none
def C5v (P:Program) (t:TypeId) (i:Nat):Option (Nat × Nat):=(A8w P t).bind fun f=>f i
def B4j (P:Program) (t:TypeId):List AV→List (Nat × AV)→(List AV→Prop)→Prop
 | cs,[],K=>A5p cs K
 | cs,(i,v)::rest,K =>
  match C5v P t i with
  | some (off,n)=>(S1 v).length=n∧off+n≤cs.length∧B4j P t (cs.take off++S1 v++cs.drop (off+n)) rest K
  | none=>False
def D1b (P:Program) (t:TypeId):Bool :=
 match P.underlying t with
 | some (.struct fs)=>fs.toList.all fun f=>(P.info? f.type).isSome
 | some (.array _ e)=>(P.info? e).isSome
 | _=>false
def B90 (P:Program) (t:TypeId) (parts:List (Nat × AV)) (K:AV→Prop):Prop :=
 chk (D1b P t) (match A23 P t with
 | some z=>B4j P t z parts fun cs=>K (.agg cs)
 | none=>False)
def A2l (P:Program) (b:Builtin) (ts:List TypeId) (xs:List AV) (K:AV→Prop):Prop :=
 match b,ts,xs with
 | .len,[t],[.str l]=>chk (A9f P t == some 1) (K (.int .i64 l.length))
 | .len,[t],[.slice _ es]=>chk (Q9 P t).isSome (K (.int .i64 es.length))
 | .len,[t],[.raw _ n _]=>chk (Q9 P t).isSome (K (.int .i64 n))
 | .cap,[t],[.raw _ _ n]=>chk (Q9 P t).isSome (K (.int .i64 n))
 | .max,_,[.int k a,.int _ b]=>K (.int k (if b > a then b else a))
 | .min,_,[.int k a,.int _ b]=>K (.int k (if b < a then b else a))
 | _,_,_=>False
def B2g (l:List UInt8):List (List UInt8 × Int)→Int
 | []=>0
 | x::es=>if l=x.1 then x.2 else B2g l es
def D74 (P:Program) (t:TypeId):Bool :=
 match P.underlying t with
 | some (.map k e)=>(A9f P k == some 1) && (match P.underlying e,P.info? e with
  | some (.int .i64),some i=>(match i.zero with|some (.int .i64 0)=>true|_=>false)
  | _,_=>false)
 | _=>false
def C29 (t:Bool) (x y:AV) (K:AV→Prop):Prop :=
 match x,y with
 | .bool a,.bool b=>K (.bool (if t then a else b))
 | x,y=>brA t (frc x K) (frc y K)
def N4 (P:Program) (ev:Operand→AV) (s:Sto) (op:Op) (K:AV→Prop):Prop :=
 match op with
 | .move x|.assign x=>frc (ev x) K
 | .pick c a b=>asB (ev c) fun t=>C29 t (ev a) (ev b) K
 | .binOp op t x y _=>A97 P op t y (C8b x || C8b y) (ev x) (ev y) K
 | .unOp op _ x=>aun op (ev x) K
 | .convert src dst x=>B74 P s src dst (ev x) K
 | .makeInterface t x=>chk (A1g P t == some false) (frc (ev x) fun v=>K (.iface t v))
 | .makeFunc fn first captured=>K (.func fn (first.toList.map ev) (captured.toList.map ev))
 | .fieldAddr t x f =>
  match A9q P t f with
  | some (off,_)=>(match ev x with
   | .ptr (some ⟨b,o,none⟩)=>K (.ptr (some ⟨b,o+off,none⟩))
   | .cptr cs=>A5p (cs.drop off) fun l=>K (.cptr l)
   | _=>False)
  | none=>False
 | .indexAddr t x i=>asI (ev i) fun _ n=>N0 P t (ev x) n K
 | .index t x i=>asI (ev i) fun _ n=>match ev x with
  | .str l=>chk (A9f P t == some 1) (0≤n∧n.toNat < l.length∧K (.int .u8 (B9 l n.toNat).toNat))
  | _=>False
 | .field t x f =>
  match A9q P t f with
  | some (off,ft)=>chk (A78 P ft == some none) (match ev x with
   | .agg cs=>(match cs[off]? with|some c=>frc c K|none=>False)
   | _=>False)
  | none=>False
 | .lookup t x i ok=>(match ev x,ev i,ok with
  | .cmap es,.str l,false=>chk (D74 P t) (K (.int .i64 (B2g l es)))
  | _,_,_=>False)
 | .slice t x lo hi mx=>A7j P t (ev x) (lo.map ev) (hi.map ev) (mx.map ev) K
 | .nilCheck x=>(match ev x with
  | .ptr (some a)=>K (.ptr (some a))
  | .cptr cs=>K (.cptr cs)
  | .iface t v=>K (.iface t v)
  | .func (.func f) fs cs=>K (.func (.func f) fs cs)
  | _=>False)
 | .extract x i=>(match ev x with
  | .tuple vs=>(match vs[i]? with|some v=>frc v K|none=>False)
  | _=>False)
 | .build t parts=>B90 P t (parts.toList.map fun (i,x)=>(i,ev x)) K
 | .load t x=>(match ev x with
  | .cptr cs=>A36 P t cs K
  | .ptr (some ⟨b,o,none⟩)=>getB (s.bx b) fun _ cs=>A36 P t (cs.drop o) K
  | _=>False)
 | .call c=>(match c.callee with|.builtin b=>A2l P b c.argTypes.toList (c.args.toList.map ev) K|_=>False)
 | _=>False
end Go.Ab
