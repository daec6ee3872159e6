/- The operations on values are as the abstract ones say: integers, texts, bools. -/
import Derived.Test.YticnkpgmmpenlaaGreatDoorAb3
set_option maxRecDepth 10000
set_option maxHeartbeats 60000000
set_option linter.all false
namespace Go.Ab
open Go
section
variable {P:Program} {G:Gh} {w:World}
theorem G3 {k:IntKind} {n:Int} {v:Value}:R G w (.int k n) v↔v=.int k n:=by rw [R]
theorem H5 {b:Bool} {v:Value}:R G w (.bool b) v↔v=.bool b:=by rw [R]
theorem K4 {l:List UInt8} {v:Value}:R G w (.str l) v↔v=.string ⟨l.toArray⟩:=by rw [R]
theorem Q2 {a:Option Addr} {v:Value}:R G w (.ptr a) v↔v=.pointer a:=by rw [R]
theorem A1t {a:Option Addr} {n c:Nat} {v:Value}:R G w (.raw a n c) v↔v=.slice a n c:=by rw [R]
theorem S9 {v:Value}:R G w .nilIface v↔v=.nilIface:=by rw [R]
theorem A8i {v:Value}:R G w .nilFunc v↔v=.nilFunc:=by rw [R]
theorem R1 {t:TypeId} {x:AV} {v:Value}:R G w (.iface t x) v↔∃ u,v=.iface t u∧R G w x u:=by rw [R]
theorem A4o {cs:List AV} {v:Value}:R G w (.agg cs) v↔∃ us,v=.agg us∧C9 G w cs us.toList:=by rw [R]
theorem A2f {cs:List AV} {v:Value}:R G w (.tuple cs) v↔∃ us,v=.tuple us∧C9 G w cs us.toList:=by rw [R]
theorem A9m {fn:Fn} {fs cs:List AV} {v:Value}:R G w (.func fn fs cs) v↔∃ us vs,v=.func fn us vs∧C9 G w fs us.toList∧C9 G w cs vs.toList:=by rw [R]
theorem P0 {cs:List AV} {v:Value}:R G w (.cptr cs) v↔∃ b o,v=.pointer (some ⟨b,o,none⟩)∧D6 G w b o cs:=by rw [R]
theorem B9x {es:List (List UInt8 × Int)} {v:Value}:R G w (.cmap es) v↔∃ b ents c,v=.map (some b)∧G.kd b=.fixd∧w.heap[b]?=some (.map ents c)∧ents.toList.map (fun e=>(e.key,e.val))=es.map fun x=>(Value.string ⟨x.1.toArray⟩,Value.int .i64 x.2):=by rw [R]
theorem C2 {vs:List Value}:C9 G w [] vs↔vs=[]:=by rw [C9]
theorem B8 {c:AV} {cs:List AV} {vs:List Value}:C9 G w (c::cs) vs↔∃ u us,vs=u::us∧R G w c u∧C9 G w cs us:=by rw [C9]
theorem A58:R G w undefA undef:=by unfold undefA undef;exact A2f.2 ⟨#[],rfl,C2.2 rfl⟩
def M6 (P:Program) (w:World) (x:Sem Value) (v:Value):Prop:=x.run P w=.ok v w
def B1x (P:Program) (w:World) (op:BinOp) (t:TypeId) (u v z:Value):Prop :=
 M6 P w (binOp op t u v) z∧∀ X Y:Operand,(eqGuard op t X Y u v).run P w=.ok () w
theorem J5 {op:BinOp} {t:TypeId} {k k':IntKind} {a b:Int} (X Y:Operand):(eqGuard op t X Y (.int k a) (.int k' b)).run P w=.ok () w:=by
 unfold eqGuard;split<;>rfl
theorem Z6 {op:BinOp} {t:TypeId} {a b:ByteArray} (X Y:Operand):(eqGuard op t X Y (.string a) (.string b)).run P w=.ok () w:=by
 unfold eqGuard;split<;>rfl
theorem D4z {op:BinOp} {x y:AV} {K:AV→Prop} (t:TypeId) (h:D0z op x y K) {u v:Value} (hx:R G w x u) (hy:R G w y v) :
  ∃ z r,B1x P w op t u v z∧K r∧R G w r z:=by
 cases x<;>cases y<;>try exact h.elim
 ·rename_i k a k' b
  rw [G3] at hx hy
  subst hx hy
  have bb:∀ x y:Int,(x == y)=decide (x=y):=fun x y=>by rw [Bool.eq_iff_iff];simp
  cases op<;>simp only [D0z] at h
  case add=>obtain ⟨rfl,h'⟩:=R2 h;exact ⟨_,_,⟨by simp [M6,binOp,Op.intArith],J5⟩,h',G3.2 rfl⟩
  case sub=>obtain ⟨rfl,h'⟩:=R2 h;exact ⟨_,_,⟨by simp [M6,binOp,Op.intArith],J5⟩,h',G3.2 rfl⟩
  case mul=>obtain ⟨rfl,h'⟩:=R2 h;exact ⟨_,_,⟨by simp [M6,binOp,Op.intArith],J5⟩,h',G3.2 rfl⟩
  case quo=>obtain ⟨rfl,hb,h'⟩:=R2 h;exact ⟨_,_,⟨by simp [M6,binOp,Op.intDiv,hb],J5⟩,h',G3.2 rfl⟩
  case rem=>obtain ⟨rfl,hb,h'⟩:=R2 h;exact ⟨_,_,⟨by simp [M6,binOp,Op.intDiv,hb],J5⟩,h',G3.2 rfl⟩
  case and=>obtain ⟨rfl,h'⟩:=R2 h;exact ⟨_,_,⟨by simp [M6,binOp,Op.intBits],J5⟩,h',G3.2 rfl⟩
  case or=>obtain ⟨rfl,h'⟩:=R2 h;exact ⟨_,_,⟨by simp [M6,binOp,Op.intBits],J5⟩,h',G3.2 rfl⟩
  case xor=>obtain ⟨rfl,h'⟩:=R2 h;exact ⟨_,_,⟨by simp [M6,binOp,Op.intBits],J5⟩,h',G3.2 rfl⟩
  case andNot=>obtain ⟨rfl,h'⟩:=R2 h;exact ⟨_,_,⟨by simp [M6,binOp,Op.intBits],J5⟩,h',G3.2 rfl⟩
  case shl =>
   obtain ⟨hb,h⟩:=h
   exact ⟨_,_,⟨by simp only [M6,binOp,Op.shift];rw [if_neg (by omega)];rfl,J5⟩,h,G3.2 rfl⟩
  case shr =>
   obtain ⟨hb,h⟩:=h
   exact ⟨_,_,⟨by simp only [M6,binOp,Op.shift];rw [if_neg (by omega)];rfl,J5⟩,h,G3.2 rfl⟩
  case eql=>obtain ⟨rfl,h'⟩:=R2 h;exact ⟨_,_,⟨by simp [M6,binOp,Op.intCmp,bb],J5⟩,h',H5.2 rfl⟩
  case neq=>obtain ⟨rfl,h'⟩:=R2 h;exact ⟨_,_,⟨by simp [M6,binOp,Op.intCmp,bb,bne],J5⟩,h',H5.2 rfl⟩
  case lss=>obtain ⟨rfl,h'⟩:=R2 h;exact ⟨_,_,⟨by simp [M6,binOp,Op.intCmp],J5⟩,h',H5.2 rfl⟩
  case leq=>obtain ⟨rfl,h'⟩:=R2 h;exact ⟨_,_,⟨by simp [M6,binOp,Op.intCmp],J5⟩,h',H5.2 rfl⟩
  case gtr=>obtain ⟨rfl,h'⟩:=R2 h;exact ⟨_,_,⟨by simp [M6,binOp,Op.intCmp],J5⟩,h',H5.2 rfl⟩
  case geq=>obtain ⟨rfl,h'⟩:=R2 h;exact ⟨_,_,⟨by simp [M6,binOp,Op.intCmp],J5⟩,h',H5.2 rfl⟩
 ·rename_i a b
  rw [K4] at hx hy
  subst hx hy
  have bb:∀ x y:List UInt8,(x == y)=decide (x=y):=fun x y=>by rw [Bool.eq_iff_iff];simp
  cases op<;>simp only [D0z] at h
  case add =>
   obtain ⟨h1,h⟩:=h
   refine ⟨_,_,⟨?_,Z6⟩,h,K4.2 rfl⟩
   simp only [M6,binOp,Op.stringOp]
   rw [if_neg (by simp [ByteArray.size,IntKind.max,IntKind.bits,IntKind.signed];omega)]
   rw [ByteArray.mk_append_mk];rfl
  case eql=>exact ⟨_,_,⟨by simp [M6,binOp,Op.stringOp,ByteArray.toList_mk,bb],Z6⟩,h,H5.2 rfl⟩
  case neq=>exact ⟨_,_,⟨by simp [M6,binOp,Op.stringOp,ByteArray.toList_mk,bb],Z6⟩,h,H5.2 rfl⟩
  case lss=>exact ⟨_,_,⟨by simp [M6,binOp,Op.stringOp,ByteArray.toList_mk],Z6⟩,h,H5.2 rfl⟩
  case leq=>exact ⟨_,_,⟨by simp [M6,binOp,Op.stringOp,ByteArray.toList_mk,bb],Z6⟩,h,H5.2 rfl⟩
  case gtr=>exact ⟨_,_,⟨by simp [M6,binOp,Op.stringOp,ByteArray.toList_mk,bb],Z6⟩,h,H5.2 rfl⟩
  case geq=>exact ⟨_,_,⟨by simp [M6,binOp,Op.stringOp,ByteArray.toList_mk],Z6⟩,h,H5.2 rfl⟩
  all_goals exact h.elim
theorem D2 {t:TypeId} {d:TypeDesc} (h:P.underlying t=some d):(underlying t).run P w=.ok d w:=by simp [underlying,h]
theorem D7i {op:UnOp} {x:AV} {K:AV→Prop} (h:aun op x K) {u:Value} (hx:R G w x u):∃ z r,M6 P w (Op.unary op u) z∧K r∧R G w r z:=by
 cases op<;>cases x<;>try exact h.elim
 case neg.int k n=>rw [G3] at hx;subst hx;exact ⟨_,_,by simp [M6,Op.unary,Op.intArith],h,G3.2 rfl⟩
 case xor.int k n=>rw [G3] at hx;subst hx;exact ⟨_,_,by simp [M6,Op.unary,Op.intBits],h,G3.2 rfl⟩
 case not.bool b=>rw [H5] at hx;subst hx;exact ⟨_,_,by simp [M6,Op.unary],h,H5.2 rfl⟩
end
end Go.Ab
