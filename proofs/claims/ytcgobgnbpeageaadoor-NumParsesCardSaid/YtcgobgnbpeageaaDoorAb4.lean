/- The operations on values are as the abstract ones say: integers, texts, bools. -/
import Derived.Test.YtcgobgnbpeageaaDoorAb3
set_option linter.all false
namespace Go.Ab
open Go

section
variable {P : Program} {G : Gh} {w : World}

theorem R_int {k : IntKind} {n : Int} {v : Value} : R G w (.int k n) v ↔ v = .int k n := by rw [R]
theorem R_bool {b : Bool} {v : Value} : R G w (.bool b) v ↔ v = .bool b := by rw [R]
theorem R_str {l : List UInt8} {v : Value} : R G w (.str l) v ↔ v = .string ⟨l.toArray⟩ := by rw [R]
theorem R_ptr {a : Option Addr} {v : Value} : R G w (.ptr a) v ↔ v = .pointer a := by rw [R]
theorem R_raw {a : Option Addr} {n c : Nat} {v : Value} : R G w (.raw a n c) v ↔ v = .slice a n c := by rw [R]
theorem R_nilIface {v : Value} : R G w .nilIface v ↔ v = .nilIface := by rw [R]
theorem R_nilFunc {v : Value} : R G w .nilFunc v ↔ v = .nilFunc := by rw [R]
theorem R_iface {t : TypeId} {x : AV} {v : Value} : R G w (.iface t x) v ↔ ∃ u, v = .iface t u ∧ R G w x u := by rw [R]
theorem R_agg {cs : List AV} {v : Value} : R G w (.agg cs) v ↔ ∃ us, v = .agg us ∧ RList G w cs us.toList := by rw [R]
theorem R_tuple {cs : List AV} {v : Value} : R G w (.tuple cs) v ↔ ∃ us, v = .tuple us ∧ RList G w cs us.toList := by rw [R]
theorem R_func {fn : Fn} {fs cs : List AV} {v : Value} : R G w (.func fn fs cs) v ↔ ∃ us vs, v = .func fn us vs ∧ RList G w fs us.toList ∧ RList G w cs vs.toList := by rw [R]
theorem R_cptr {cs : List AV} {v : Value} : R G w (.cptr cs) v ↔ ∃ b o, v = .pointer (some ⟨b, o, none⟩) ∧ RCells G w b o cs := by rw [R]
theorem RList_nil {vs : List Value} : RList G w [] vs ↔ vs = [] := by rw [RList]
theorem RList_cons {c : AV} {cs : List AV} {vs : List Value} : RList G w (c :: cs) vs ↔ ∃ u us, vs = u :: us ∧ R G w c u ∧ RList G w cs us := by rw [RList]
theorem R_undef : R G w undefA undef := by unfold undefA undef; exact R_tuple.2 ⟨#[], rfl, RList_nil.2 rfl⟩

/-- It ends with the value v in the world w, and nothing else has been. -/
def Gives (P : Program) (w : World) (x : Sem Value) (v : Value) : Prop := x.run P w = .ok v w

/-- An operator at two values: it asks no leave, and gives z. -/
def Yields (P : Program) (w : World) (op : BinOp) (t : TypeId) (u v z : Value) : Prop :=
  Gives P w (binOp op t u v) z ∧ ∀ X Y : Operand, (eqGuard op t X Y u v).run P w = .ok () w

theorem guard_int {op : BinOp} {t : TypeId} {k k' : IntKind} {a b : Int} (X Y : Operand) : (eqGuard op t X Y (.int k a) (.int k' b)).run P w = .ok () w := by
  unfold eqGuard; split <;> rfl
theorem guard_str {op : BinOp} {t : TypeId} {a b : ByteArray} (X Y : Operand) : (eqGuard op t X Y (.string a) (.string b)).run P w = .ok () w := by
  unfold eqGuard; split <;> rfl

theorem abin_ok {op : BinOp} {x y : AV} {K : AV → Prop} (t : TypeId) (h : abin op x y K) {u v : Value} (hx : R G w x u) (hy : R G w y v) :
    ∃ z r, Yields P w op t u v z ∧ K r ∧ R G w r z := by
  cases x <;> cases y <;> try exact h.elim
  · rename_i k a k' b
    rw [R_int] at hx hy
    subst hx hy
    have bb : ∀ x y : Int, (x == y) = decide (x = y) := fun x y => by rw [Bool.eq_iff_iff]; simp
    cases op <;> simp only [abin] at h
    case add => obtain ⟨rfl, h'⟩ := chk_dec h; exact ⟨_, _, ⟨by simp [Gives, binOp, Op.intArith], guard_int⟩, h', R_int.2 rfl⟩
    case sub => obtain ⟨rfl, h'⟩ := chk_dec h; exact ⟨_, _, ⟨by simp [Gives, binOp, Op.intArith], guard_int⟩, h', R_int.2 rfl⟩
    case mul => obtain ⟨rfl, h'⟩ := chk_dec h; exact ⟨_, _, ⟨by simp [Gives, binOp, Op.intArith], guard_int⟩, h', R_int.2 rfl⟩
    case quo => obtain ⟨rfl, hb, h'⟩ := chk_dec h; exact ⟨_, _, ⟨by simp [Gives, binOp, Op.intDiv, hb], guard_int⟩, h', R_int.2 rfl⟩
    case rem => obtain ⟨rfl, hb, h'⟩ := chk_dec h; exact ⟨_, _, ⟨by simp [Gives, binOp, Op.intDiv, hb], guard_int⟩, h', R_int.2 rfl⟩
    case and => obtain ⟨rfl, h'⟩ := chk_dec h; exact ⟨_, _, ⟨by simp [Gives, binOp, Op.intBits], guard_int⟩, h', R_int.2 rfl⟩
    case or => obtain ⟨rfl, h'⟩ := chk_dec h; exact ⟨_, _, ⟨by simp [Gives, binOp, Op.intBits], guard_int⟩, h', R_int.2 rfl⟩
    case xor => obtain ⟨rfl, h'⟩ := chk_dec h; exact ⟨_, _, ⟨by simp [Gives, binOp, Op.intBits], guard_int⟩, h', R_int.2 rfl⟩
    case andNot => obtain ⟨rfl, h'⟩ := chk_dec h; exact ⟨_, _, ⟨by simp [Gives, binOp, Op.intBits], guard_int⟩, h', R_int.2 rfl⟩
    case shl =>
      obtain ⟨hb, h⟩ := h
      exact ⟨_, _, ⟨by simp only [Gives, binOp, Op.shift]; rw [if_neg (by omega)]; rfl, guard_int⟩, h, R_int.2 rfl⟩
    case shr =>
      obtain ⟨hb, h⟩ := h
      exact ⟨_, _, ⟨by simp only [Gives, binOp, Op.shift]; rw [if_neg (by omega)]; rfl, guard_int⟩, h, R_int.2 rfl⟩
    case eql => obtain ⟨rfl, h'⟩ := chk_dec h; exact ⟨_, _, ⟨by simp [Gives, binOp, Op.intCmp, bb], guard_int⟩, h', R_bool.2 rfl⟩
    case neq => obtain ⟨rfl, h'⟩ := chk_dec h; exact ⟨_, _, ⟨by simp [Gives, binOp, Op.intCmp, bb, bne], guard_int⟩, h', R_bool.2 rfl⟩
    case lss => obtain ⟨rfl, h'⟩ := chk_dec h; exact ⟨_, _, ⟨by simp [Gives, binOp, Op.intCmp], guard_int⟩, h', R_bool.2 rfl⟩
    case leq => obtain ⟨rfl, h'⟩ := chk_dec h; exact ⟨_, _, ⟨by simp [Gives, binOp, Op.intCmp], guard_int⟩, h', R_bool.2 rfl⟩
    case gtr => obtain ⟨rfl, h'⟩ := chk_dec h; exact ⟨_, _, ⟨by simp [Gives, binOp, Op.intCmp], guard_int⟩, h', R_bool.2 rfl⟩
    case geq => obtain ⟨rfl, h'⟩ := chk_dec h; exact ⟨_, _, ⟨by simp [Gives, binOp, Op.intCmp], guard_int⟩, h', R_bool.2 rfl⟩
  · rename_i a b
    rw [R_str] at hx hy
    subst hx hy
    have bb : ∀ x y : List UInt8, (x == y) = decide (x = y) := fun x y => by rw [Bool.eq_iff_iff]; simp
    cases op <;> simp only [abin] at h
    case add =>
      obtain ⟨h1, h⟩ := h
      refine ⟨_, _, ⟨?_, guard_str⟩, h, R_str.2 rfl⟩
      simp only [Gives, binOp, Op.stringOp]
      rw [if_neg (by simp [ByteArray.size, IntKind.max, IntKind.bits, IntKind.signed]; omega)]
      rw [ByteArray.mk_append_mk]; rfl
    case eql => exact ⟨_, _, ⟨by simp [Gives, binOp, Op.stringOp, ByteArray.toList_mk, bb], guard_str⟩, h, R_bool.2 rfl⟩
    case neq => exact ⟨_, _, ⟨by simp [Gives, binOp, Op.stringOp, ByteArray.toList_mk, bb], guard_str⟩, h, R_bool.2 rfl⟩
    case lss => exact ⟨_, _, ⟨by simp [Gives, binOp, Op.stringOp, ByteArray.toList_mk], guard_str⟩, h, R_bool.2 rfl⟩
    case leq => exact ⟨_, _, ⟨by simp [Gives, binOp, Op.stringOp, ByteArray.toList_mk, bb], guard_str⟩, h, R_bool.2 rfl⟩
    case gtr => exact ⟨_, _, ⟨by simp [Gives, binOp, Op.stringOp, ByteArray.toList_mk, bb], guard_str⟩, h, R_bool.2 rfl⟩
    case geq => exact ⟨_, _, ⟨by simp [Gives, binOp, Op.stringOp, ByteArray.toList_mk], guard_str⟩, h, R_bool.2 rfl⟩
    all_goals exact h.elim

theorem run_under {t : TypeId} {d : TypeDesc} (h : P.underlying t = some d) : (underlying t).run P w = .ok d w := by simp [underlying, h]

theorem aun_ok {op : UnOp} {x : AV} {K : AV → Prop} (h : aun op x K) {u : Value} (hx : R G w x u) : ∃ z r, Gives P w (Op.unary op u) z ∧ K r ∧ R G w r z := by
  cases op <;> cases x <;> try exact h.elim
  case neg.int k n => rw [R_int] at hx; subst hx; exact ⟨_, _, by simp [Gives, Op.unary, Op.intArith], h, R_int.2 rfl⟩
  case xor.int k n => rw [R_int] at hx; subst hx; exact ⟨_, _, by simp [Gives, Op.unary, Op.intBits], h, R_int.2 rfl⟩
  case not.bool b => rw [R_bool] at hx; subst hx; exact ⟨_, _, by simp [Gives, Op.unary], h, R_bool.2 rfl⟩
end
end Go.Ab
