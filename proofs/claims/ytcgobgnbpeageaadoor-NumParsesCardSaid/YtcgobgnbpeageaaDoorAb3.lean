/- What each operation does, said of abstract values: definitions. -/
import Derived.Test.YtcgobgnbpeageaaDoorAb2
set_option linter.all false
namespace Go.Ab
open Go

/- Views of an abstract value: the rest runs if it is of that kind. -/
def asB : AV → (Bool → Prop) → Prop
  | .bool b, k => k b
  | _, _ => False
def asI : AV → (IntKind → Int → Prop) → Prop
  | .int k n, f => f k n
  | _, _ => False
def asN : Option Nat → (Nat → Prop) → Prop
  | some n, k => k n
  | none, _ => False
def cellsA : AV → List AV
  | .agg cs => cs
  | v => [v]
def atomA : AV → Bool
  | .agg _ | .tuple _ => false
  | _ => true

/-- A check that is reckoned. -/
def chk (b : Bool) (K : Prop) : Prop :=
  match b with
  | true => K
  | false => False
theorem chk_iff {b : Bool} {K : Prop} : chk b K ↔ b = true ∧ K := by cases b <;> simp [chk]
theorem chk_dec {p : Prop} [Decidable p] {K : Prop} (h : chk (decide p) K) : p ∧ K := ⟨of_decide_eq_true (chk_iff.1 h).1, (chk_iff.1 h).2⟩
/-- Two ways. -/
def brA (b : Bool) (yes no : Prop) : Prop :=
  match b with
  | true => yes
  | false => no
theorem brA_split {b : Bool} {yes no : Prop} (h1 : b = true → yes) (h2 : b = false → no) : brA b yes no := by
  cases b
  · exact h2 rfl
  · exact h1 rfl
theorem brA_true {b : Bool} {yes no : Prop} (hb : b = true) (h : yes) : brA b yes no := by subst hb; exact h
theorem brA_false {b : Bool} {yes no : Prop} (hb : b = false) (h : no) : brA b yes no := by subst hb; exact h
/-- The value, laid open. -/
def frc (v : AV) (K : AV → Prop) : Prop :=
  match v with
  | .int k n => K (.int k n)
  | .bool b => K (.bool b)
  | .str l => K (.str l)
  | .ptr a => K (.ptr a)
  | .cptr cs => K (.cptr cs)
  | .slice t es => K (.slice t es)
  | .raw a n c => K (.raw a n c)
  | .iface t v => K (.iface t v)
  | .nilIface => K .nilIface
  | .func fn fs cs => K (.func fn fs cs)
  | .nilFunc => K .nilFunc
  | .agg cs => K (.agg cs)
  | .tuple vs => K (.tuple vs)
theorem frc_eq (v : AV) (K : AV → Prop) : frc v K = K v := by cases v <;> rfl
/-- A list of values, laid open. -/
def frcL : List AV → (List AV → Prop) → Prop
  | [], K => K []
  | c :: cs, K => frc c fun c' => frcL cs fun cs' => K (c' :: cs')
theorem frcL_eq : ∀ (cs : List AV) (K : List AV → Prop), frcL cs K = K cs
  | [], _ => rfl
  | c :: cs, K => by unfold frcL; rw [frc_eq, frcL_eq cs]
theorem frcL_of {l l' : List AV} {K : List AV → Prop} (e : l = l') (h : frcL l' K) : frcL l K := by subst e; exact h
/-- A box's cells. -/
def getB (x : Option (TypeId × List AV)) (K : TypeId → List AV → Prop) : Prop :=
  match x with
  | some (T, cs) => K T cs
  | none => False
theorem getB_iff {x : Option (TypeId × List AV)} {K : TypeId → List AV → Prop} (h : getB x K) : ∃ T cs, x = some (T, cs) ∧ K T cs := by
  match x, h with
  | some (T, cs), h => exact ⟨T, cs, rfl, h⟩

/- What the walk asks of the program's types. -/
def isAggT (P : Program) (t : TypeId) : Bool :=
  match P.underlying t with
  | some (.struct _) | some (.array _ _) => true
  | some _ => false
  | none => false
def knownT (P : Program) (t : TypeId) : Bool := (P.info? t).isSome && (P.underlying t).isSome
def sizeT (P : Program) (t : TypeId) : Option Nat := if (P.underlying t).isSome then (P.info? t).map (·.size) else none
def bytesT (P : Program) (t : TypeId) : Option Nat := (P.info? t).map (·.bytes)
def sliceT (P : Program) (t : TypeId) : Option TypeId :=
  match P.underlying t with | some (.slice e) => some e | _ => none
def arrT (P : Program) (t : TypeId) : Option (Nat × TypeId) :=
  match P.underlying t with | some (.array n e) => some (n, e) | _ => none
def ptrArrT (P : Program) (t : TypeId) : Option (Nat × TypeId) :=
  match P.underlying t with | some (.pointer a) => arrT P a | _ => none
/-- A field's first cell (of a field that has cells). -/
def fieldT (P : Program) (t : TypeId) (f : Nat) : Option (Nat × TypeId) :=
  match P.underlying t with
  | some (.struct fs) => match fs[f]? with
    | some x => match P.info? x.type with
      | some i => if i.size = 0 then none else some (x.offset, x.type)
      | none => none
    | none => none
  | _ => none
def isIfaceT (P : Program) (t : TypeId) : Option Bool :=
  match P.underlying t with
  | some (.interface _) => some true
  | some _ => some false
  | none => none

def isPtrT (P : Program) (t : TypeId) : Bool :=
  match P.underlying t with | some (.pointer _) => true | _ => false
/-- none: unknown; some none: one cell; some (some n): a struct or an array of n cells. -/
def shapeT (P : Program) (t : TypeId) : Option (Option Nat) :=
  match P.underlying t with
  | none => none
  | some (.struct _) | some (.array _ _) => (P.info? t).map fun i => some i.size
  | some _ => some none

/-- Constants. -/
def atomOf : Value → Option AV
  | .int k n => some (.int k n)
  | .bool b => some (.bool b)
  | .string s => some (.str s.data.toList)
  | .pointer none => some (.ptr none)
  | .slice none 0 0 => some (.slice 1 [])
  | .nilIface => some .nilIface
  | .nilFunc => some .nilFunc
  | _ => none
def atomsOf : List Value → Option (List AV)
  | [] => some []
  | v :: vs => match atomOf v, atomsOf vs with
    | some x, some xs => some (x :: xs)
    | _, _ => none
def constOf : Value → Option AV
  | .agg cs => (atomsOf cs.toList).map .agg
  | .tuple cs => (atomsOf cs.toList).map .tuple
  | v => atomOf v
def zeroT (P : Program) (t : TypeId) : Option (List AV) :=
  match P.info? t with
  | some i => match i.zero with
    | some z => atomsOf z.cells.toList
    | none => none
  | none => none

def evA (Γ : Nat → AV) (e : Env) : Operand → AV
  | .tmp t => e t
  | .const v => (constOf v).getD .nilFunc
  | .global g => Γ g
  | .func f => .func (.func f) [] []
def okX : Operand → Bool
  | .const v => (constOf v).isSome
  | _ => true

def abin (op : BinOp) : AV → AV → (AV → Prop) → Prop
  | .int k a, .int k' b, K =>
    match op with
    | .shl => 0 ≤ b ∧ K (.int k (k.wrap (a * 2 ^ (min b.toNat k.bits))))
    | .shr => 0 ≤ b ∧ K (.int k (a.fdiv (2 ^ (min b.toNat k.bits))))
    | .add => chk (decide (k = k')) (K (.int k (k.wrap (a + b))))
    | .sub => chk (decide (k = k')) (K (.int k (k.wrap (a - b))))
    | .mul => chk (decide (k = k')) (K (.int k (k.wrap (a * b))))
    | .quo => chk (decide (k = k')) (b ≠ 0 ∧ K (.int k (k.wrap (a.tdiv b))))
    | .rem => chk (decide (k = k')) (b ≠ 0 ∧ K (.int k (a.tmod b)))
    | .and => chk (decide (k = k')) (K (.int k (k.wrap ((BitVec.ofInt k.bits a &&& BitVec.ofInt k.bits b).toNat : Nat))))
    | .or => chk (decide (k = k')) (K (.int k (k.wrap ((BitVec.ofInt k.bits a ||| BitVec.ofInt k.bits b).toNat : Nat))))
    | .xor => chk (decide (k = k')) (K (.int k (k.wrap ((BitVec.ofInt k.bits a ^^^ BitVec.ofInt k.bits b).toNat : Nat))))
    | .andNot => chk (decide (k = k')) (K (.int k (k.wrap ((BitVec.ofInt k.bits a &&& ~~~ BitVec.ofInt k.bits b).toNat : Nat))))
    | .eql => chk (decide (k = k')) (K (.bool (decide (a = b))))
    | .neq => chk (decide (k = k')) (K (.bool (!decide (a = b))))
    | .lss => chk (decide (k = k')) (K (.bool (decide (a < b))))
    | .leq => chk (decide (k = k')) (K (.bool (decide (a ≤ b))))
    | .gtr => chk (decide (k = k')) (K (.bool (decide (b < a))))
    | .geq => chk (decide (k = k')) (K (.bool (decide (b ≤ a))))
  | .str a, .str b, K =>
    match op with
    | .add => a.length + b.length ≤ 9223372036854775807 ∧ K (.str (a ++ b))
    | .eql => K (.bool (decide (a = b)))
    | .neq => K (.bool (!decide (a = b)))
    | .lss => K (.bool (Op.bytesLess a b))
    | .leq => K (.bool (Op.bytesLess a b || decide (a = b)))
    | .gtr => K (.bool (!(Op.bytesLess a b || decide (a = b))))
    | .geq => K (.bool (!Op.bytesLess a b))
    | _ => False
  | _, _, _ => False

/-- A leaf of a type at which '==' compares, and what it is: 0: an integer, 1: a text, 2: a bool. -/
def leafT (P : Program) (t : TypeId) : Option Nat :=
  match P.underlying t with
  | some (.int _) => some 0
  | some .string => some 1
  | some .bool => some 2
  | _ => none
/-- The cells that '==' compares, in order, each with what it is. -/
def planT (P : Program) : Nat → TypeId → Option (List (Nat × Nat))
  | 0, _ => none
  | d + 1, t =>
    match P.underlying t with
    | some (.struct fs) => if P.stoodInHeld t then none else
      fs.toList.foldr (fun f acc => match acc, leafT P f.type, sizeT P f.type with
        | some l, some k, some 1 => if f.name = "_" then none else some ((f.offset, k) :: l)
        | some l, none, some n => (match planT P d f.type with
          | some m => if f.name = "_" || !isAggT P f.type || m.any (fun x => n ≤ x.1) then none else some (m.map (fun x => (f.offset + x.1, x.2)) ++ l)
          | none => none)
        | _, _, _ => none) (some [])
    | _ => none
def eqLeaf (k : Nat) : AV → AV → (Bool → Prop) → Prop
  | .int i a, .int j b, K => chk (decide (k = 0) && decide (i = j)) (K (decide (a = b)))
  | .str a, .str b, K => chk (decide (k = 1)) (K (decide (a = b)))
  | .bool a, .bool b, K => chk (decide (k = 2)) (K (a == b))
  | _, _, _ => False
def eqPlan : List (Nat × Nat) → List AV → List AV → (Bool → Prop) → Prop
  | [], _, _, K => K true
  | (o, k) :: l, xs, ys, K => eqLeaf k (xs.getD o undefA) (ys.getD o undefA) fun r => eqPlan l xs ys fun q => K (r && q)

/-- '==' of structs. A structure on purpose: a walk stops here, and goes on by EqAgg.of. -/
structure EqAgg (P : Program) (t : TypeId) (xs ys : List AV) (K : Bool → Prop) : Prop where
  run : chk (!P.eqGuardType P.depth t) (match planT P 9999 t with | some l => eqPlan l xs ys K | none => False)
theorem EqAgg.of {P : Program} {t : TypeId} {xs ys : List AV} {K : Bool → Prop} {l : List (Nat × Nat)} (h1 : (!P.eqGuardType P.depth t) = true) (h2 : planT P 9999 t = some l) (h : eqPlan l xs ys K) : EqAgg P t xs ys K :=
  ⟨chk_iff.2 ⟨h1, by rw [h2]; exact h⟩⟩

/-- '=='. -/
def aeq (P : Program) (t : TypeId) : AV → AV → (Bool → Prop) → Prop
  | .int k a, .int k' b, K => chk (decide (k = k')) (K (decide (a = b)))
  | .str a, .str b, K => K (decide (a = b))
  | .bool a, .bool b, K => chk (leafT P t == some 2) (K (a == b))
  | .ptr a, .ptr none, K => chk (isPtrT P t) (K a.isNone)
  | .cptr _, .ptr none, K => chk (isPtrT P t) (K false)
  | .ptr none, .cptr _, K => chk (isPtrT P t) (K false)
  | .nilIface, .iface _ _, K => chk (isIfaceT P t == some true) (K false)
  | .iface _ _, .nilIface, K => chk (isIfaceT P t == some true) (K false)
  | .agg xs, .agg ys, K => EqAgg P t xs ys K
  | _, _, _ => False

def abinop (P : Program) (op : BinOp) (t : TypeId) (x y : AV) (K : AV → Prop) : Prop :=
  match op with
  | .eql => aeq P t x y fun r => K (.bool r)
  | .neq => aeq P t x y fun r => K (.bool (!r))
  | _ => abin op x y K

def aun : UnOp → AV → (AV → Prop) → Prop
  | .not, .bool b, K => K (.bool (!b))
  | .neg, .int k n, K => K (.int k (k.wrap (0 - n)))
  | .xor, .int k n, K => K (.int k (k.wrap ((BitVec.ofInt k.bits (if k.signed then -1 else k.max) ^^^ BitVec.ofInt k.bits n).toNat : Nat)))
  | _, _, _ => False

/-- The byte at a place. -/
def byteAt (l : List UInt8) (i : Nat) : UInt8 := l.getD i 0
/-- A text's bytes as a slice's elements, and back. -/
def bytesA (l : List UInt8) : List (List AV) := l.map fun b => [.int .u8 b.toNat]
def byteOfA : List AV → Option UInt8
  | [.int .u8 n] => some (UInt8.ofNat n.toNat)
  | _ => none
def unB : List (List AV) → Option (List UInt8)
  | [] => some []
  | e :: es => match byteOfA e, unB es with
    | some b, some l => some (b :: l)
    | _, _ => none

def aload (P : Program) (t : TypeId) (cs : List AV) (K : AV → Prop) : Prop :=
  match shapeT P t with
  | some (some n) => n ≤ cs.length ∧ frcL (cs.take n) fun l => K (.agg l)
  | some none => (match cs with | c :: _ => frc c K | [] => False)
  | none => False

/-- Chunks of k. -/
def chunks (k : Nat) : Nat → List AV → List (List AV)
  | 0, _ => []
  | n + 1, cs => cs.take k :: chunks k n (cs.drop k)

def boundA (lo : Option AV) (d : Nat) (K : Nat → Prop) : Prop :=
  match lo with
  | none => K d
  | some (.int _ n) => 0 ≤ n ∧ K n.toNat
  | some _ => False

/-- x[lo:hi] (a third bound only where it is what the second is). -/
def aslice (P : Program) (t : TypeId) (x : AV) (lo hi mx : Option AV) (K : AV → Prop) : Prop :=
  match x with
  | .str l => chk (mx.isNone && leafT P t == some 1) (boundA hi l.length fun h => boundA lo 0 fun a => a ≤ h ∧ h ≤ l.length ∧ K (.str ((l.take h).drop a)))
  | .slice tk es =>
    match sliceT P t with
    | some e => (match sizeT P e with
      | some k => (match mx with
        | none => boundA hi es.length fun h => boundA lo 0 fun a => a ≤ h ∧ h ≤ es.length ∧ (∀ c ∈ es, c.length = k) ∧ K (.slice (if lo.isNone && hi.isNone then tk else 0) ((es.take h).drop a))
        | some _ => chk hi.isSome (boundA mx 0 fun m => boundA hi 0 fun h => boundA lo 0 fun a => a ≤ h ∧ h = m ∧ h ≤ es.length ∧ (∀ c ∈ es, c.length = k) ∧ K (.slice 1 ((es.take h).drop a))))
      | none => False)
    | none => False
  | .raw (some ⟨b, o, none⟩) len cap =>
    match sliceT P t with
    | some e => (match sizeT P e with
      | some k => chk mx.isNone (boundA hi len fun h => boundA lo 0 fun a => a ≤ h ∧ h ≤ cap ∧ K (.raw (some ⟨b, if cap = a then o else o + a * k, none⟩) (h - a) (cap - a)))
      | none => False)
    | none => False
  | .cptr cs =>
    match arrT P t with
    | some (n, e) => (match sizeT P e with
      | some k => chk mx.isNone (boundA hi n fun h => boundA lo 0 fun a => a ≤ h ∧ h ≤ n ∧ n * k ≤ cs.length ∧ K (.slice 0 (((chunks k n cs).take h).drop a)))
      | none => False)
    | none => False
  | .ptr (some ⟨b, o, none⟩) =>
    match arrT P t with
    | some (n, e) => (match sizeT P e with
      | some k => chk mx.isNone (boundA hi n fun h => boundA lo 0 fun a => a ≤ h ∧ h ≤ n ∧ K (.raw (some ⟨b, if n = a then o else o + a * k, none⟩) (h - a) (n - a)))
      | none => False)
    | none => False
  | _ => False

/-- &x[i]. -/
def aindexAddr (P : Program) (t : TypeId) (x : AV) (n : Int) (K : AV → Prop) : Prop :=
  match x with
  | .slice _ es =>
    match sliceT P t with
    | some e => (match sizeT P e with
      | some k => 0 ≤ n ∧ n.toNat < es.length ∧ (es.getD n.toNat []).length = k ∧ frcL (es.getD n.toNat []) fun l => K (.cptr l)
      | none => False)
    | none => False
  | .raw (some ⟨b, o, none⟩) len _ =>
    match sliceT P t with
    | some e => (match sizeT P e with
      | some k => 0 ≤ n ∧ n.toNat < len ∧ K (.ptr (some ⟨b, o + n.toNat * k, none⟩))
      | none => False)
    | none => False
  | .cptr cs =>
    match arrT P t with
    | some (len, e) => (match sizeT P e with
      | some k => 0 ≤ n ∧ n.toNat < len ∧ K (.cptr (cs.drop (n.toNat * k)))
      | none => False)
    | none => False
  | .ptr (some ⟨b, o, none⟩) =>
    match arrT P t with
    | some (len, e) => (match sizeT P e with
      | some k => 0 ≤ n ∧ n.toNat < len ∧ K (.ptr (some ⟨b, o + n.toNat * k, none⟩))
      | none => False)
    | none => False
  | _ => False

def u8T (P : Program) (t : TypeId) : Bool :=
  match P.underlying t with | some (.int .u8) => true | _ => false

def aconv (P : Program) (s : Sto) (src dst : TypeId) (x : AV) (K : AV → Prop) : Prop :=
  match P.underlying src, P.underlying dst, x with
  | some _, some (.int k), .int _ n => K (.int k (k.wrap n))
  | some _, some .string, .str l => K (.str l)
  | some (.slice e), some .string, .slice _ es => chk (u8T P e) (match unB es with | some l => K (.str l) | none => False)
  | some (.slice e), some .string, .raw (some ⟨b, o, none⟩) len _ => chk (u8T P e)
      (getB (s.bx b) fun _ cs => o + len ≤ cs.length ∧ (match unB (chunks 1 len (cs.drop o)) with | some l => K (.str l) | none => False))
  | _, _, _ => False

/-- A struct or an array out of its parts. -/
def placesT (P : Program) (t : TypeId) : Option (Nat → Option (Nat × Nat)) :=
  match P.underlying t with
  | some (.struct fs) => some fun i => match fs[i]? with
    | some f => (P.info? f.type).map fun x => (f.offset, x.size)
    | none => none
  | some (.array _ e) => (P.info? e).map fun x => fun i => some (i * x.size, x.size)
  | _ => none
def placeT (P : Program) (t : TypeId) (i : Nat) : Option (Nat × Nat) := (placesT P t).bind fun f => f i
def afill (P : Program) (t : TypeId) : List AV → List (Nat × AV) → (List AV → Prop) → Prop
  | cs, [], K => frcL cs K
  | cs, (i, v) :: rest, K =>
    match placeT P t i with
    | some (off, n) => (cellsA v).length = n ∧ off + n ≤ cs.length ∧ afill P t (cs.take off ++ cellsA v ++ cs.drop (off + n)) rest K
    | none => False
def buildT (P : Program) (t : TypeId) : Bool :=
  match P.underlying t with
  | some (.struct fs) => fs.toList.all fun f => (P.info? f.type).isSome
  | some (.array _ e) => (P.info? e).isSome
  | _ => false
def abuild (P : Program) (t : TypeId) (parts : List (Nat × AV)) (K : AV → Prop) : Prop :=
  chk (buildT P t) (match zeroT P t with
  | some z => afill P t z parts fun cs => K (.agg cs)
  | none => False)

/-- The builtins that leave the store as it is. -/
def abuiltin (P : Program) (b : Builtin) (ts : List TypeId) (xs : List AV) (K : AV → Prop) : Prop :=
  match b, ts, xs with
  | .len, [t], [.str l] => chk (leafT P t == some 1) (K (.int .i64 l.length))
  | .len, [t], [.slice _ es] => chk (sliceT P t).isSome (K (.int .i64 es.length))
  | .len, [t], [.raw _ n _] => chk (sliceT P t).isSome (K (.int .i64 n))
  | .cap, [t], [.raw _ _ n] => chk (sliceT P t).isSome (K (.int .i64 n))
  | .max, _, [.int k a, .int _ b] => K (.int k (if b > a then b else a))
  | .min, _, [.int k a, .int _ b] => K (.int k (if b < a then b else a))
  | _, _, _ => False

/-- c ? a : b, where the values are known. -/
def pickA (t : Bool) (x y : AV) (K : AV → Prop) : Prop :=
  match x, y with
  | .bool a, .bool b => K (.bool (if t then a else b))
  | x, y => brA t (frc x K) (frc y K)

/-- The operations that leave the store as it is. -/
def aval (P : Program) (ev : Operand → AV) (s : Sto) (op : Op) (K : AV → Prop) : Prop :=
  match op with
  | .move x | .assign x => frc (ev x) K
  | .pick c a b => asB (ev c) fun t => pickA t (ev a) (ev b) K
  | .binOp op t x y _ => abinop P op t (ev x) (ev y) K
  | .unOp op _ x => aun op (ev x) K
  | .convert src dst x => aconv P s src dst (ev x) K
  | .makeInterface t x => chk (isIfaceT P t == some false) (frc (ev x) fun v => K (.iface t v))
  | .makeFunc fn first captured => K (.func fn (first.toList.map ev) (captured.toList.map ev))
  | .fieldAddr t x f =>
    match fieldT P t f with
    | some (off, _) => (match ev x with
      | .ptr (some ⟨b, o, none⟩) => K (.ptr (some ⟨b, o + off, none⟩))
      | .cptr cs => frcL (cs.drop off) fun l => K (.cptr l)
      | _ => False)
    | none => False
  | .indexAddr t x i => asI (ev i) fun _ n => aindexAddr P t (ev x) n K
  | .index t x i => asI (ev i) fun _ n => match ev x with
    | .str l => chk (leafT P t == some 1) (0 ≤ n ∧ n.toNat < l.length ∧ K (.int .u8 (byteAt l n.toNat).toNat))
    | _ => False
  | .slice t x lo hi mx => aslice P t (ev x) (lo.map ev) (hi.map ev) (mx.map ev) K
  | .nilCheck x => (match ev x with
    | .ptr (some a) => K (.ptr (some a))
    | .cptr cs => K (.cptr cs)
    | .iface t v => K (.iface t v)
    | .func (.func f) fs cs => K (.func (.func f) fs cs)
    | _ => False)
  | .extract x i => (match ev x with
    | .tuple vs => (match vs[i]? with | some v => frc v K | none => False)
    | _ => False)
  | .build t parts => abuild P t (parts.toList.map fun (i, x) => (i, ev x)) K
  | .load t x => (match ev x with
    | .cptr cs => aload P t cs K
    | .ptr (some ⟨b, o, none⟩) => getB (s.bx b) fun _ cs => aload P t (cs.drop o) K
    | _ => False)
  | .call c => (match c.callee with | .builtin b => abuiltin P b c.argTypes.toList (c.args.toList.map ev) K | _ => False)
  | _ => False

end Go.Ab
