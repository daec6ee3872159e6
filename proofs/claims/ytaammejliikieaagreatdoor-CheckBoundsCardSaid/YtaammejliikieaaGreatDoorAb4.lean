/- The operations on values are as the abstract ones say: integers, texts, bools. -/
import Derived.Test.YtaammejliikieaaGreatDoorAb3
set_option maxRecDepth 10000
set_option maxHeartbeats 60000000
set_option linter.all false
namespace Go.Ab
open Go
section
variable {P:Program} {G:Gh} {w:World}
theorem F5 {k:IntKind} {n:Int} {v:Value}:R G w (.int k n) v↔v=.int k n:=by rw [R]
theorem F7 {b:Bool} {v:Value}:R G w (.bool b) v↔v=.bool b:=by rw [R]
theorem M3 {l:List UInt8} {v:Value}:R G w (.str l) v↔v=.string ⟨l.toArray⟩:=by rw [R]
theorem N8 {a:Option Addr} {v:Value}:R G w (.ptr a) v↔v=.pointer a:=by rw [R]
theorem X6 {a:Option Addr} {n c:Nat} {v:Value}:R G w (.raw a n c) v↔v=.slice a n c:=by rw [R]
theorem L6 {v:Value}:R G w .nilIface v↔v=.nilIface:=by rw [R]
theorem A4b {v:Value}:R G w .nilFunc v↔v=.nilFunc:=by rw [R]
theorem M9 {t:TypeId} {x:AV} {v:Value}:R G w (.iface t x) v↔∃ u,v=.iface t u∧R G w x u:=by rw [R]
theorem A1x {cs:List AV} {v:Value}:R G w (.agg cs) v↔∃ us,v=.agg us∧B7 G w cs us.toList:=by rw [R]
theorem A0k {cs:List AV} {v:Value}:R G w (.tuple cs) v↔∃ us,v=.tuple us∧B7 G w cs us.toList:=by rw [R]
theorem A5e {fn:Fn} {fs cs:List AV} {v:Value}:R G w (.func fn fs cs) v↔∃ us vs,v=.func fn us vs∧B7 G w fs us.toList∧B7 G w cs vs.toList:=by rw [R]
theorem M4 {cs:List AV} {v:Value}:R G w (.cptr cs) v↔∃ b o,v=.pointer (some ⟨b,o,none⟩)∧C6 G w b o cs:=by rw [R]
theorem B8b {es:List (List UInt8 × Int)} {v:Value}:R G w (.cmap es) v↔∃ b ents c,v=.map (some b)∧G.kd b=.fixd∧w.heap[b]?=some (.map ents c)∧ents.toList.map (fun e=>(e.key,e.val))=es.map fun x=>(Value.string ⟨x.1.toArray⟩,Value.int .i64 x.2):=by rw [R]
theorem A5f {a:Option Nat} {v:Value}:R G w (.mref a) v↔v=.map a:=by rw [R]
theorem B4 {vs:List Value}:B7 G w [] vs↔vs=[]:=by rw [B7]
theorem A9 {c:AV} {cs:List AV} {vs:List Value}:B7 G w (c::cs) vs↔∃ u us,vs=u::us∧R G w c u∧B7 G w cs us:=by rw [B7]
theorem A2i:R G w undefA undef:=by unfold undefA undef;exact A0k.2 ⟨#[],rfl,B4.2 rfl⟩
def J1 (P:Program) (w:World) (x:Sem Value) (v:Value):Prop:=x.run P w=.ok v w
def A7q (P:Program) (w:World) (op:BinOp) (t:TypeId) (u v z:Value):Prop :=
 J1 P w (binOp op t u v) z∧∀ X Y:Operand,(eqGuard op t X Y u v).run P w=.ok () w
theorem G7 {op:BinOp} {t:TypeId} {k k':IntKind} {a b:Int} (X Y:Operand):(eqGuard op t X Y (.int k a) (.int k' b)).run P w=.ok () w:=by
 unfold eqGuard;split<;>rfl
theorem V1 {op:BinOp} {t:TypeId} {a b:ByteArray} (X Y:Operand):(eqGuard op t X Y (.string a) (.string b)).run P w=.ok () w:=by
 unfold eqGuard;split<;>rfl
theorem C6x {op:BinOp} {x y:AV} {K:AV→Prop} (t:TypeId) (h:C3r op x y K) {u v:Value} (hx:R G w x u) (hy:R G w y v) :
  ∃ z r,A7q P w op t u v z∧K r∧R G w r z:=by
 cases x<;>cases y<;>try exact h.elim
 ·rename_i k a k' b
  rw [F5] at hx hy
  subst hx hy
  have bb:∀ x y:Int,(x == y)=decide (x=y):=fun x y=>by rw [Bool.eq_iff_iff];simp
  cases op<;>simp only [C3r] at h
  case add=>obtain ⟨rfl,h'⟩:=M0 h;exact ⟨_,_,⟨by simp [J1,binOp,Op.intArith],G7⟩,h',F5.2 rfl⟩
  case sub=>obtain ⟨rfl,h'⟩:=M0 h;exact ⟨_,_,⟨by simp [J1,binOp,Op.intArith],G7⟩,h',F5.2 rfl⟩
  case mul=>obtain ⟨rfl,h'⟩:=M0 h;exact ⟨_,_,⟨by simp [J1,binOp,Op.intArith],G7⟩,h',F5.2 rfl⟩
  case quo=>obtain ⟨rfl,hb,h'⟩:=M0 h;exact ⟨_,_,⟨by simp [J1,binOp,Op.intDiv,hb],G7⟩,h',F5.2 rfl⟩
  case rem=>obtain ⟨rfl,hb,h'⟩:=M0 h;exact ⟨_,_,⟨by simp [J1,binOp,Op.intDiv,hb],G7⟩,h',F5.2 rfl⟩
  case and=>obtain ⟨rfl,h'⟩:=M0 h;exact ⟨_,_,⟨by simp [J1,binOp,Op.intBits],G7⟩,h',F5.2 rfl⟩
  case or=>obtain ⟨rfl,h'⟩:=M0 h;exact ⟨_,_,⟨by simp [J1,binOp,Op.intBits],G7⟩,h',F5.2 rfl⟩
  case xor=>obtain ⟨rfl,h'⟩:=M0 h;exact ⟨_,_,⟨by simp [J1,binOp,Op.intBits],G7⟩,h',F5.2 rfl⟩
  case andNot=>obtain ⟨rfl,h'⟩:=M0 h;exact ⟨_,_,⟨by simp [J1,binOp,Op.intBits],G7⟩,h',F5.2 rfl⟩
  case shl =>
   obtain ⟨hb,h⟩:=h
   exact ⟨_,_,⟨by simp only [J1,binOp,Op.shift];rw [if_neg (by omega)];rfl,G7⟩,h,F5.2 rfl⟩
  case shr =>
   obtain ⟨hb,h⟩:=h
   exact ⟨_,_,⟨by simp only [J1,binOp,Op.shift];rw [if_neg (by omega)];rfl,G7⟩,h,F5.2 rfl⟩
  case eql=>obtain ⟨rfl,h'⟩:=M0 h;exact ⟨_,_,⟨by simp [J1,binOp,Op.intCmp,bb],G7⟩,h',F7.2 rfl⟩
  case neq=>obtain ⟨rfl,h'⟩:=M0 h;exact ⟨_,_,⟨by simp [J1,binOp,Op.intCmp,bb,bne],G7⟩,h',F7.2 rfl⟩
  case lss=>obtain ⟨rfl,h'⟩:=M0 h;exact ⟨_,_,⟨by simp [J1,binOp,Op.intCmp],G7⟩,h',F7.2 rfl⟩
  case leq=>obtain ⟨rfl,h'⟩:=M0 h;exact ⟨_,_,⟨by simp [J1,binOp,Op.intCmp],G7⟩,h',F7.2 rfl⟩
  case gtr=>obtain ⟨rfl,h'⟩:=M0 h;exact ⟨_,_,⟨by simp [J1,binOp,Op.intCmp],G7⟩,h',F7.2 rfl⟩
  case geq=>obtain ⟨rfl,h'⟩:=M0 h;exact ⟨_,_,⟨by simp [J1,binOp,Op.intCmp],G7⟩,h',F7.2 rfl⟩
 ·rename_i a b
  rw [M3] at hx hy
  subst hx hy
  have bb:∀ x y:List UInt8,(x == y)=decide (x=y):=fun x y=>by rw [Bool.eq_iff_iff];simp
  cases op<;>simp only [C3r] at h
  case add =>
   obtain ⟨h1,h⟩:=h
   refine ⟨_,_,⟨?_,V1⟩,h,M3.2 rfl⟩
   simp only [J1,binOp,Op.stringOp]
   rw [if_neg (by simp [ByteArray.size,IntKind.max,IntKind.bits,IntKind.signed];omega)]
   rw [ByteArray.mk_append_mk];rfl
  case eql=>exact ⟨_,_,⟨by simp [J1,binOp,Op.stringOp,ByteArray.toList_mk,bb],V1⟩,h,F7.2 rfl⟩
  case neq=>exact ⟨_,_,⟨by simp [J1,binOp,Op.stringOp,ByteArray.toList_mk,bb],V1⟩,h,F7.2 rfl⟩
  case lss=>exact ⟨_,_,⟨by simp [J1,binOp,Op.stringOp,ByteArray.toList_mk],V1⟩,h,F7.2 rfl⟩
  case leq=>exact ⟨_,_,⟨by simp [J1,binOp,Op.stringOp,ByteArray.toList_mk,bb],V1⟩,h,F7.2 rfl⟩
  case gtr=>exact ⟨_,_,⟨by simp [J1,binOp,Op.stringOp,ByteArray.toList_mk,bb],V1⟩,h,F7.2 rfl⟩
  case geq=>exact ⟨_,_,⟨by simp [J1,binOp,Op.stringOp,ByteArray.toList_mk],V1⟩,h,F7.2 rfl⟩
  all_goals exact h.elim
theorem B6 {t:TypeId} {d:TypeDesc} (h:P.underlying t=some d):(underlying t).run P w=.ok d w:=by simp [underlying,h]
theorem C9h {op:UnOp} {x:AV} {K:AV→Prop} (h:aun op x K) {u:Value} (hx:R G w x u):∃ z r,J1 P w (Op.unary op u) z∧K r∧R G w r z:=by
 cases op<;>cases x<;>try exact h.elim
 case neg.int k n=>rw [F5] at hx;subst hx;exact ⟨_,_,by simp [J1,Op.unary,Op.intArith],h,F5.2 rfl⟩
 case xor.int k n=>rw [F5] at hx;subst hx;exact ⟨_,_,by simp [J1,Op.unary,Op.intBits],h,F5.2 rfl⟩
 case not.bool b=>rw [F7] at hx;subst hx;exact ⟨_,_,by simp [J1,Op.unary],h,F7.2 rfl⟩
end
end Go.Ab
