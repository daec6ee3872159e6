/- A region whose order is open, walked in the order of its text. -/
import Derived.Test.YtcgobgnbpeageaaDoorAb16
set_option linter.all false
namespace Go.Ab
open Go

/-- A call that gives one value and leaves the store alone. -/
inductive DCall (P : Program) (Γ : Nat → AV) (fn : FuncId) (l : List AV) (s : Sto) (K : AV → Sto → Prop) : Prop where
  | mk (r : AV) (h : APure P Γ fn l (fun v => v = r)) (k : K r s)

def dstep (P : Program) (Γ : Nat → AV) (ev : Operand → AV) (s : Sto) (op : Op) (K : AV → Sto → Prop) : Prop :=
  match op with
  | .call c =>
    match c.callee with
    | .value f => (match ev f with
      | .func (.func fn) fs cs => chk (callT P fn) (frcL (fs ++ c.args.toList.map ev ++ cs) fun l => DCall P Γ fn l s K)
      | _ => False)
    | .builtin .append => astep P Γ ev s op K
    | _ => aval P ev s op (fun v => K v s)
  | op => astep P Γ ev s op K

/-- 0: it gives one value; 1: it makes a box; 2: it turns the store. -/
def cls : Op → Nat
  | .alloc _ | .box _ _ | .makeSlice _ _ _ => 1
  | .store _ _ _ => 2
  | .call c => (match c.callee with | .builtin .append => 2 | _ => 0)
  | _ => 0

def opTmps (ops : Array Oper) (o : Oper) : List Nat :=
  (o.op.operands.toList.filterMap fun | .tmp t => some t | _ => none) ++
    (match o.guard with | some (j, _) => (match (ops[j]?).bind Oper.dst with | some d => [d] | none => []) | none => [])
def dstNot (d : Option Nat) (l : List Nat) : Bool := match d with | some d => !l.elem d | none => true
/-- It does not look at the store at all. -/
def still : Op → Bool
  | .move _ | .assign _ => true
  | .binOp .add _ _ _ _ | .binOp .sub _ _ _ _ => true
  | .indexAddr _ _ _ => true
  | .call c => (match c.callee, c.args.toList with | .builtin .len, [_] | .builtin .max, [_, _] => true | _, _ => false)
  | _ => false
def isStore : Op → Bool
  | .store _ _ _ => true
  | _ => false
def indep (ops : Array Oper) (o1 o2 : Oper) : Bool :=
  dstNot o1.dst (opTmps ops o2) && dstNot o2.dst (opTmps ops o1) && (match o1.dst, o2.dst with | some a, some b => a != b | _, _ => true) &&
    (match cls o1.op, cls o2.op with
      | 0, 0 => true
      | 0, 1 => o2.guard.isNone
      | 1, 0 => o1.guard.isNone && o2.guard.isNone && still o2.op
      | 1, 1 => o1.guard.isNone && o2.guard.isNone
      | 0, 2 => o1.guard.isNone && (still o1.op && isStore o2.op)
      | _, _ => false)
/-- The order of the text serves for every order. -/
def okDraw (_ : Program) (ops : Array Oper) : Bool :=
  (List.range ops.size).all fun i => match ops[i]? with
    | none => true
    | some o => o.after.toList.all (fun e => !Region.binds .any e || decide (e.on < i)) &&
        (List.range i).all fun j => o.after.toList.any (fun e => Region.binds .any e && e.on == j) || (match ops[j]? with | some o' => indep ops o' o | none => false)

section
variable {P : Program} {Γ : Nat → AV}

def Tr (P : Program) (Γ : Nat → AV) (ops : Array Oper) (o : Oper) (e : Env) (s : Sto) (K : AV → Sto → Prop) : Prop :=
  wantA ops e o.guard (dstep P Γ (evA Γ e) s o.op K) (K undefA s)
def dwp (P : Program) (Γ : Nat → AV) (ops : Array Oper) : List Oper → Env → Sto → (Env → Sto → Prop) → Prop
  | [], e, s, K => K e s
  | o :: l, e, s, K => Tr P Γ ops o e s fun v s' => dwp P Γ ops l (updO e o.dst v) s' K

theorem wantA_mono {ops : Array Oper} {e : Env} {g : Option (Nat × Bool)} {y n y' n' : Prop} (h : wantA ops e g y n) (hy : y → y') (hn : n → n') : wantA ops e g y' n' := by
  unfold wantA at *
  split at h
  · exact hy h
  · rename_i j want
    split at h
    · exact h.elim
    · split at h
      · rename_i b _
        cases want <;> cases b <;> first | exact hy h | exact hn h
      · exact hn h
      · exact h.elim

theorem brA_mono {b : Bool} {y n y' n' : Prop} (h : brA b y n) (hy : y → y') (hn : n → n') : brA b y' n' := by
  cases b
  · exact hn h
  · exact hy h

theorem aval_mono {ev : Operand → AV} {s : Sto} {op : Op} {K K' : AV → Prop} (h : aval P ev s op K) (hk : ∀ v, K v → K' v) : aval P ev s op K' := by
  obtain ⟨v, h1, h2⟩ := aval_det (P := P) ev s op K h
  exact h2 K' (hk v h1)

theorem araw_mono {s : Sto} {e : TypeId} {k : Nat} {z : List AV} {a : Option Addr} {len cap : Nat} {es2 : List (List AV)} {K K' : AV → Sto → Prop} (h : araw s e k z a len cap es2 K) (hk : ∀ v s, K v s → K' v s) : araw s e k z a len cap es2 K' := by
  refine ⟨fun h0 b c x y => hk _ _ (h.1 h0 b c x y), fun h0 => ?_⟩
  replace h := h.2 h0
  split at h
  · rename_i b
    cases hb : s.bx b with
    | none => rw [hb] at h; exact h.elim
    | some x =>
      obtain ⟨T0, cs⟩ := x
      rw [hb] at h
      obtain ⟨h1, h2, h3, h4, h5⟩ : T0 = e ∧ len ≤ cap ∧ cs.length = cap * k ∧ _ ∧ _ := h
      exact ⟨h1, h2, h3, fun q => hk _ _ (h4 q), fun q b c x y => hk _ _ (h5 q b c x y)⟩
  · exact h.elim
theorem aappend_mono {s : Sto} {ts : List TypeId} {x y : AV} {K K' : AV → Sto → Prop} (h : aappend P s ts x y K) (hk : ∀ v s, K v s → K' v s) : aappend P s ts x y K' := by
  unfold aappend at *
  split at h
  · split at h
    · split at h
      · obtain ⟨h1, h2, h3, h4, h5, h6⟩ := chk_iff.1 h
        exact chk_iff.2 ⟨h1, h2, h3, h4, h5, fun t' a b => hk _ _ (h6 t' a b)⟩
      · exact h.elim
    · exact h.elim
  · split at h
    · split at h
      · obtain ⟨h1, h2, h3, h4, h5⟩ := chk_iff.1 h
        exact chk_iff.2 ⟨h1, h2, h3, h4, fun t' a b => hk _ _ (h5 t' a b)⟩
      · exact h.elim
    · exact h.elim
  · split at h
    · split at h
      · obtain ⟨h1, h2, h3, h4, h5⟩ := chk_iff.1 h
        exact chk_iff.2 ⟨h1, h2, h3, h4, araw_mono h5 hk⟩
      · exact h.elim
    · exact h.elim
  · exact h.elim

theorem astep_mono {ev : Operand → AV} {s : Sto} {op : Op} {K K' : AV → Sto → Prop} (h : astep P Γ ev s op K) (hk : ∀ v s, K v s → K' v s) : astep P Γ ev s op K' := by
  have plain : aval P ev s op (fun v => K v s) → aval P ev s op (fun v => K' v s) := fun h => aval_mono h fun v => hk v s
  cases op with
  | alloc T =>
    dsimp only [astep] at h ⊢
    split at h
    · exact fun b hb => hk _ _ (h b hb)
    · exact h.elim
  | box T x =>
    dsimp only [astep] at h ⊢
    rw [frcL_eq] at h ⊢
    exact fun b hb => hk _ _ (h b hb)
  | store T x v =>
    dsimp only [astep] at h ⊢
    split at h
    · obtain ⟨T', cs, hb, h⟩ := getB_iff h
      rw [hb]
      simp only [getB]
      split at h
      · rename_i n hs
        obtain ⟨h1, h2, h3, h⟩ := h
        rw [frcL_eq] at h
        refine ⟨h1, h2, h3, ?_⟩
        rw [frcL_eq]; exact hk _ _ h
      · exact h.elim
    · exact h.elim
  | buildSlice T len parts =>
    dsimp only [astep] at h ⊢
    split at h
    · split at h
      · obtain ⟨h1, h2, h3, h4, h⟩ := h
        rw [frcLL_eq] at h
        refine ⟨h1, h2, h3, h4, ?_⟩
        rw [frcLL_eq]; exact hk _ _ h
      · exact h.elim
    · exact h.elim
  | makeSlice T l c =>
    dsimp only [astep] at h ⊢
    split at h
    · split at h
      · split at h
        · obtain ⟨h1, h2, h3, h4, h5, h⟩ := h
          exact ⟨h1, h2, h3, h4, h5, fun b hb => hk _ _ (h b hb)⟩
        · exact h.elim
      · exact h.elim
    · exact h.elim
  | call c =>
    obtain ⟨callee, args, ts⟩ := c
    cases callee with
    | value f =>
      dsimp only [astep] at h ⊢
      split at h
      · obtain ⟨h1, h⟩ := chk_iff.1 h
        rw [frcL_eq] at h
        refine chk_iff.2 ⟨h1, ?_⟩
        rw [frcL_eq]; exact h.mono hk
      · exact h.elim
    | invoke r m => exact plain h
    | builtin b =>
      by_cases hb : b = .append
      · subst hb
        dsimp only [astep] at h ⊢
        split at h
        · exact aappend_mono h hk
        · exact h.elim
      · cases b <;> first | exact absurd rfl hb | exact plain h
  | _ => exact plain h

theorem dstep_mono {ev : Operand → AV} {s : Sto} {op : Op} {K K' : AV → Sto → Prop} (h : dstep P Γ ev s op K) (hk : ∀ v s, K v s → K' v s) : dstep P Γ ev s op K' := by
  have plain : aval P ev s op (fun v => K v s) → aval P ev s op (fun v => K' v s) := fun h => aval_mono h fun v => hk v s
  have full : astep P Γ ev s op K → astep P Γ ev s op K' := fun h => astep_mono h hk
  cases op with
  | call c =>
    obtain ⟨callee, args, ts⟩ := c
    cases callee with
    | value f =>
      dsimp only [dstep] at h ⊢
      split at h
      · obtain ⟨h1, h⟩ := chk_iff.1 h
        rw [frcL_eq] at h
        obtain ⟨r, h2, h3⟩ := h
        refine chk_iff.2 ⟨h1, ?_⟩
        rw [frcL_eq]; exact ⟨r, h2, hk _ _ h3⟩
      · exact h.elim
    | invoke r m => exact plain h
    | builtin b =>
      by_cases hb : b = .append
      · subst hb; exact full h
      · cases b <;> first | exact absurd rfl hb | exact plain h
  | _ => exact full h

/-- What is shown of a region whose order is open holds of it in the order of its text. -/
theorem dstep_astep {ev : Operand → AV} {s : Sto} {op : Op} {K : AV → Sto → Prop} (h : dstep P Γ ev s op K) : astep P Γ ev s op K := by
  cases op with
  | call c =>
    obtain ⟨callee, args, ts⟩ := c
    cases callee with
    | value f =>
      dsimp only [dstep] at h
      dsimp only [astep]
      split at h
      · rename_i fn fs cs hfv
        obtain ⟨h1, h⟩ := chk_iff.1 h
        rw [frcL_eq] at h
        obtain ⟨r, h2, h3⟩ := h
        simp only [hfv]
        refine chk_iff.2 ⟨h1, ?_⟩
        rw [frcL_eq]
        exact ACalls.pure h2 fun v hv => by subst hv; exact h3
      · exact h.elim
    | invoke r m => exact h
    | builtin b =>
      by_cases hb : b = .append
      · subst hb; exact h
      · cases b <;> first | exact absurd rfl hb | exact h
  | _ => exact h

theorem Tr_mono {ops : Array Oper} {o : Oper} {e : Env} {s : Sto} {K K' : AV → Sto → Prop} (h : Tr P Γ ops o e s K) (hk : ∀ v s, K v s → K' v s) : Tr P Γ ops o e s K' :=
  wantA_mono h (fun h => dstep_mono h hk) (hk _ _)

theorem dwp_mono {ops : Array Oper} : ∀ {l : List Oper} {e : Env} {s : Sto} {K K' : Env → Sto → Prop}, dwp P Γ ops l e s K → (∀ e s, K e s → K' e s) → dwp P Γ ops l e s K'
  | [], _, _, _, _, h, hk => hk _ _ h
  | _ :: _, _, _, _, _, h, hk => Tr_mono h fun _ _ h => dwp_mono h hk
end
end Go.Ab
