/- The operations on values are as the abstract ones say: integers, texts, bools. -/
import Derived.Test.YticnkpgmmpenlaaGreatDoorAb3
set_option maxRecDepth 10000
set_option maxHeartbeats 60000000
set_option linter.all false
namespace Go.Ab
open Go
section
variable {P:Program} {G:Gh} {w:World}
theorem E9 {k:IntKind} {n:Int} {v:Value}:R G w (.int k n) v↔v=.int k n:=by rw [R]
theorem G9 {b:Bool} {v:Value}:R G w (.bool b) v↔v=.bool b:=by rw [R]
theorem H9 {l:List UInt8} {v:Value}:R G w (.str l) v↔v=.string ⟨l.toArray⟩:=by rw [R]
theorem P4 {a:Option Addr} {v:Value}:R G w (.ptr a) v↔v=.pointer a:=by rw [R]
theorem A1t {a:Option Addr} {n c:Nat} {v:Value}:R G w (.raw a n c) v↔v=.slice a n c:=by rw [R]
theorem R7 {v:Value}:R G w .nilIface v↔v=.nilIface:=by rw [R]
theorem A8d {v:Value}:R G w .nilFunc v↔v=.nilFunc:=by rw [R]
theorem Q2 {t:TypeId} {x:AV} {v:Value}:R G w (.iface t x) v↔∃ u,v=.iface t u∧R G w x u:=by rw [R]
theorem A41 {cs:List AV} {v:Value}:R G w (.agg cs) v↔∃ us,v=.agg us∧B6 G w cs us.toList:=by rw [R]
theorem A2a {cs:List AV} {v:Value}:R G w (.tuple cs) v↔∃ us,v=.tuple us∧B6 G w cs us.toList:=by rw [R]
theorem A9e {fn:Fn} {fs cs:List AV} {v:Value}:R G w (.func fn fs cs) v↔∃ us vs,v=.func fn us vs∧B6 G w fs us.toList∧B6 G w cs vs.toList:=by rw [R]
theorem N3 {cs:List AV} {v:Value}:R G w (.cptr cs) v↔∃ b o,v=.pointer (some ⟨b,o,none⟩)∧C2 G w b o cs:=by rw [R]
theorem B94 {es:List (List UInt8 × Int)} {v:Value}:R G w (.cmap es) v↔∃ b ents c,v=.map (some b)∧G.kd b=.fixd∧w.heap[b]?=some (.map ents c)∧ents.toList.map (fun e=>(e.key,e.val))=es.map fun x=>(Value.string ⟨x.1.toArray⟩,Value.int .i64 x.2):=by rw [R]
theorem A9 {vs:List Value}:B6 G w [] vs↔vs=[]:=by rw [B6]
theorem A6 {c:AV} {cs:List AV} {vs:List Value}:B6 G w (c::cs) vs↔∃ u us,vs=u::us∧R G w c u∧B6 G w cs us:=by rw [B6]
theorem A5x:R G w undefA undef:=by unfold undefA undef;exact A2a.2 ⟨#[],rfl,A9.2 rfl⟩
def K8 (P:Program) (w:World) (x:Sem Value) (v:Value):Prop:=x.run P w=.ok v w
def B1q (P:Program) (w:World) (op:BinOp) (t:TypeId) (u v z:Value):Prop :=
 K8 P w (binOp op t u v) z∧∀ X Y:Operand,(eqGuard op t X Y u v).run P w=.ok () w
theorem H7 {op:BinOp} {t:TypeId} {k k':IntKind} {a b:Int} (X Y:Operand):(eqGuard op t X Y (.int k a) (.int k' b)).run P w=.ok () w:=by
 unfold eqGuard;split<;>rfl
theorem Y9 {op:BinOp} {t:TypeId} {a b:ByteArray} (X Y:Operand):(eqGuard op t X Y (.string a) (.string b)).run P w=.ok () w:=by
 unfold eqGuard;split<;>rfl
theorem D4s {op:BinOp} {x y:AV} {K:AV→Prop} (t:TypeId) (h:D0v op x y K) {u v:Value} (hx:R G w x u) (hy:R G w y v) :
  ∃ z r,B1q P w op t u v z∧K r∧R G w r z:=by
 cases x<;>cases y<;>try exact h.elim
 ·rename_i k a k' b
  rw [E9] at hx hy
  subst hx hy
  have bb:∀ x y:Int,(x == y)=decide (x=y):=fun x y=>by rw [Bool.eq_iff_iff];simp
  cases op<;>simp only [D0v] at h
  case add=>obtain ⟨rfl,h'⟩:=Q3 h;exact ⟨_,_,⟨by simp [K8,binOp,Op.intArith],H7⟩,h',E9.2 rfl⟩
  case sub=>obtain ⟨rfl,h'⟩:=Q3 h;exact ⟨_,_,⟨by simp [K8,binOp,Op.intArith],H7⟩,h',E9.2 rfl⟩
  case mul=>obtain ⟨rfl,h'⟩:=Q3 h;exact ⟨_,_,⟨by simp [K8,binOp,Op.intArith],H7⟩,h',E9.2 rfl⟩
  case quo=>obtain ⟨rfl,hb,h'⟩:=Q3 h;exact ⟨_,_,⟨by simp [K8,binOp,Op.intDiv,hb],H7⟩,h',E9.2 rfl⟩
  case rem=>obtain ⟨rfl,hb,h'⟩:=Q3 h;exact ⟨_,_,⟨by simp [K8,binOp,Op.intDiv,hb],H7⟩,h',E9.2 rfl⟩
  case and=>obtain ⟨rfl,h'⟩:=Q3 h;exact ⟨_,_,⟨by simp [K8,binOp,Op.intBits],H7⟩,h',E9.2 rfl⟩
  case or=>obtain ⟨rfl,h'⟩:=Q3 h;exact ⟨_,_,⟨by simp [K8,binOp,Op.intBits],H7⟩,h',E9.2 rfl⟩
  case xor=>obtain ⟨rfl,h'⟩:=Q3 h;exact ⟨_,_,⟨by simp [K8,binOp,Op.intBits],H7⟩,h',E9.2 rfl⟩
  case andNot=>obtain ⟨rfl,h'⟩:=Q3 h;exact ⟨_,_,⟨by simp [K8,binOp,Op.intBits],H7⟩,h',E9.2 rfl⟩
  case shl =>
   obtain ⟨hb,h⟩:=h
   exact ⟨_,_,⟨by simp only [K8,binOp,Op.shift];rw [if_neg (by omega)];rfl,H7⟩,h,E9.2 rfl⟩
  case shr =>
   obtain ⟨hb,h⟩:=h
   exact ⟨_,_,⟨by simp only [K8,binOp,Op.shift];rw [if_neg (by omega)];rfl,H7⟩,h,E9.2 rfl⟩
  case eql=>obtain ⟨rfl,h'⟩:=Q3 h;exact ⟨_,_,⟨by simp [K8,binOp,Op.intCmp,bb],H7⟩,h',G9.2 rfl⟩
  case neq=>obtain ⟨rfl,h'⟩:=Q3 h;exact ⟨_,_,⟨by simp [K8,binOp,Op.intCmp,bb,bne],H7⟩,h',G9.2 rfl⟩
  case lss=>obtain ⟨rfl,h'⟩:=Q3 h;exact ⟨_,_,⟨by simp [K8,binOp,Op.intCmp],H7⟩,h',G9.2 rfl⟩
  case leq=>obtain ⟨rfl,h'⟩:=Q3 h;exact ⟨_,_,⟨by simp [K8,binOp,Op.intCmp],H7⟩,h',G9.2 rfl⟩
  case gtr=>obtain ⟨rfl,h'⟩:=Q3 h;exact ⟨_,_,⟨by simp [K8,binOp,Op.intCmp],H7⟩,h',G9.2 rfl⟩
  case geq=>obtain ⟨rfl,h'⟩:=Q3 h;exact ⟨_,_,⟨by simp [K8,binOp,Op.intCmp],H7⟩,h',G9.2 rfl⟩
 ·rename_i a b
  rw [H9] at hx hy
  subst hx hy
  have bb:∀ x y:List UInt8,(x == y)=decide (x=y):=fun x y=>by rw [Bool.eq_iff_iff];simp
  cases op<;>simp only [D0v] at h
  case add =>
   obtain ⟨h1,h⟩:=h
   refine ⟨_,_,⟨?_,Y9⟩,h,H9.2 rfl⟩
   simp only [K8,binOp,Op.stringOp]
   rw [if_neg (by simp [ByteArray.size,IntKind.max,IntKind.bits,IntKind.signed];omega)]
   rw [ByteArray.mk_append_mk];rfl
  case eql=>exact ⟨_,_,⟨by simp [K8,binOp,Op.stringOp,ByteArray.toList_mk,bb],Y9⟩,h,G9.2 rfl⟩
  case neq=>exact ⟨_,_,⟨by simp [K8,binOp,Op.stringOp,ByteArray.toList_mk,bb],Y9⟩,h,G9.2 rfl⟩
  case lss=>exact ⟨_,_,⟨by simp [K8,binOp,Op.stringOp,ByteArray.toList_mk],Y9⟩,h,G9.2 rfl⟩
  case leq=>exact ⟨_,_,⟨by simp [K8,binOp,Op.stringOp,ByteArray.toList_mk,bb],Y9⟩,h,G9.2 rfl⟩
  case gtr=>exact ⟨_,_,⟨by simp [K8,binOp,Op.stringOp,ByteArray.toList_mk,bb],Y9⟩,h,G9.2 rfl⟩
  case geq=>exact ⟨_,_,⟨by simp [K8,binOp,Op.stringOp,ByteArray.toList_mk],Y9⟩,h,G9.2 rfl⟩
  all_goals exact h.elim
theorem B7 {t:TypeId} {d:TypeDesc} (h:P.underlying t=some d):(underlying t).run P w=.ok d w:=by simp [underlying,h]
theorem D7i {op:UnOp} {x:AV} {K:AV→Prop} (h:aun op x K) {u:Value} (hx:R G w x u):∃ z r,K8 P w (Op.unary op u) z∧K r∧R G w r z:=by
 cases op<;>cases x<;>try exact h.elim
 case neg.int k n=>rw [E9] at hx;subst hx;exact ⟨_,_,by simp [K8,Op.unary,Op.intArith],h,E9.2 rfl⟩
 case xor.int k n=>rw [E9] at hx;subst hx;exact ⟨_,_,by simp [K8,Op.unary,Op.intBits],h,E9.2 rfl⟩
 case not.bool b=>rw [G9] at hx;subst hx;exact ⟨_,_,by simp [K8,Op.unary],h,G9.2 rfl⟩
end
end Go.Ab
