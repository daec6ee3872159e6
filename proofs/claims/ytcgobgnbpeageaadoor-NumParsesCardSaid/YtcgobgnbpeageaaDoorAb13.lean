/- A function's code, walked over abstract states. -/
import Derived.Test.YtcgobgnbpeageaaDoorAb12
set_option linter.all false
namespace Go.Ab
open Go

/-- An operation is wanted or not. -/
def wantA (ops : Array Oper) (e : Env) (g : Option (Nat × Bool)) (yes no : Prop) : Prop :=
  match g with
  | none => yes
  | some (j, want) =>
    match (ops[j]?).bind Oper.dst with
    | none => False
    | some d =>
      match e d with
      | .bool b => (match want with | true => brA b yes no | false => brA b no yes)
      | .tuple _ => no
      | _ => False

/-- The slot is set. -/
def putA (d : Option Nat) (e : Env) (v : AV) (K : Env → Prop) : Prop :=
  match d with
  | some d => K (upd e d v)
  | none => K e
theorem putA_eq (d : Option Nat) (e : Env) (v : AV) (K : Env → Prop) : putA d e v K = K (updO e d v) := by cases d <;> rfl

/- The walks are typed by their recursors, so that what Lean's elaborator reckons and what its kernel reckons are the same terms. -/
def opsA (P : Program) (Γ : Nat → AV) (ops : Array Oper) (o : Oper) (_ : List Oper) (rest : Env → Sto → (Env → Sto → Prop) → Prop) (e : Env) (s : Sto) (K : Env → Sto → Prop) : Prop :=
  wantA ops e o.guard (astep P Γ (evA Γ e) s o.op fun v s' => frc v fun v' => putA o.dst e v' fun e' => rest e' s' K) (putA o.dst e undefA fun e' => rest e' s K)
def endA (e : Env) (s : Sto) (K : Env → Sto → Prop) : Prop := K e s
def awpOps (P : Program) (Γ : Nat → AV) (ops : Array Oper) (l : List Oper) : Env → Sto → (Env → Sto → Prop) → Prop :=
  List.rec (motive := fun _ => Env → Sto → (Env → Sto → Prop) → Prop) endA (opsA P Γ ops) l

abbrev CodeA := (Exit → Env → Sto → Prop) → Env → Sto → Prop
def regA (P : Program) (Γ : Nat → AV) (n : Nat) (id : Nat) (ops : Array Oper) (draw : Bool) (Q : Exit → Env → Sto → Prop) (e : Env) (s : Sto) : Prop :=
  match draw with
  | true => AWp P Γ n (.region id ops true) Q e s
  | false => awpOps P Γ ops ops.toList e s fun e' s' => Q .normal e' s'
def skipA : CodeA := fun Q e s => Q .normal e s
def seqA (_ _ : Code) (a b : CodeA) : CodeA := fun Q e s => a (thenA (b Q) Q) e s
def condA (Γ : Nat → AV) (c : Operand) (_ _ : Code) (a b : CodeA) : CodeA := fun Q e s => asB (evA Γ e c) fun t => brA t (a Q e s) (b Q e s)
def blkA (id : Nat) (_ : Code) (c : CodeA) : CodeA := fun Q e s => c (blockA id Q) e s
def loopA (P : Program) (Γ : Nat → AV) (n : Nat) (c : Code) (_ : CodeA) : CodeA := fun Q e s => AWp P Γ n (.loop c) Q e s
def exitA (id : Nat) : CodeA := fun Q e s => Q (.exit id) e s
def retCA : CodeA := fun Q e s => Q .ret e s
def noA : CodeA := fun _ _ _ => False
def awp (P : Program) (Γ : Nat → AV) (n : Nat) (c : Code) : CodeA :=
  Code.rec (motive := fun _ => CodeA) skipA (regA P Γ n) seqA (condA Γ) blkA (loopA P Γ n) (fun _ _ _ _ _ _ => noA) exitA (fun _ _ => noA) (fun _ => noA) (fun _ => noA) retCA (fun _ => noA) c

def okOp (n : Nat) (o : Oper) : Bool :=
  o.op.operands.toList.all okX && (match o.dst with | some d => decide (d < n) | none => true)
def okCode (n : Nat) : Code → Bool
  | .region _ ops _ => ops.toList.all (okOp n)
  | .seq a b => okCode n a && okCode n b
  | .cond c a b => okX c && okCode n a && okCode n b
  | .block _ c => okCode n c
  | .loop c => okCode n c
  | _ => true

section
variable {P : Program} {Γ : Nat → AV} {n : Nat}

theorem okOp_ops {o : Oper} (h : okOp n o = true) : ∀ x ∈ o.op.operands.toList, okX x = true := by
  unfold okOp at h
  simp only [Bool.and_eq_true] at h
  exact List.all_eq_true.1 h.1
theorem okOp_dst {o : Oper} (h : okOp n o = true) : ∀ i, o.dst = some i → i < n := by
  unfold okOp at h
  simp only [Bool.and_eq_true] at h
  intro i hi
  have := h.2
  rw [hi] at this
  simpa using this

theorem wanted_of {ops : Array Oper} {G : Gh} {w : World} {e : Env} {a : Act} {o : Oper} {yes no : Prop} (he : EnvR G w n e a) (h : wantA ops e o.guard yes no) (hd : ∀ (j d : Nat), (ops[j]?).bind Oper.dst = some d → d < n) :
    (Region.wanted o (yielded ops a.tmps) = true ∧ yes) ∨ (Region.wanted o (yielded ops a.tmps) = false ∧ no) := by
  unfold wantA at h
  unfold Region.wanted
  split at h
  · rename_i hg; rw [hg]; exact .inl ⟨rfl, h⟩
  · rename_i j want hg
    rw [hg]
    split at h
    · exact h.elim
    · rename_i d hjd
      have hR := he.at_ d
      have hlt := hd j d hjd
      have hget : a.tmps[d]? = some (a.tmps.getD d undef) := by
        have : d < a.tmps.size := by rw [he.size]; exact hlt
        simp [Array.getD, this]
      dsimp only
      unfold yielded
      rw [show ((ops[j]?).bind fun x => x.dst) = some d from hjd]
      simp only [Option.bind_some, hget]
      split at h
      · rename_i b hb
        rw [hb, R_bool] at hR
        rw [hR]
        cases want <;> cases b
        · exact .inl ⟨by simp, h⟩
        · exact .inr ⟨by simp, h⟩
        · exact .inr ⟨by simp, h⟩
        · exact .inl ⟨by simp, h⟩
      · rename_i vs hb
        rw [hb] at hR
        obtain ⟨us, hR, _⟩ := R_tuple.1 hR
        rw [hR]
        exact .inr ⟨by simp, h⟩
      · exact h.elim

/-- What is behind a piece of code, in the model's words. -/
def Behind (Γ : Nat → AV) (n : Nat) (G : Gh) (w : World) (Q : Exit → Env → Sto → Prop) (x : Exit) (a' : Act) (w' : World) : Prop :=
  ∃ e' s' G', Q x e' s' ∧ Mod Γ G' s' w' ∧ EnvR G' w' n e' a' ∧ Ext G w G' w'

theorem Behind.from {G0 G : Gh} {w0 w : World} {Q : Exit → Env → Sto → Prop} {x : Exit} {a' : Act} {w' : World} (X : Ext G0 w0 G w) (h : Behind Γ n G w Q x a' w') : Behind Γ n G0 w0 Q x a' w' := by
  obtain ⟨e', s', G', q, hm, he, X'⟩ := h
  exact ⟨e', s', G', q, hm, he, X.trans X'⟩

theorem dst_lt {ops : Array Oper} (hok : ops.toList.all (okOp n) = true) : ∀ (j d : Nat), (ops[j]?).bind Oper.dst = some d → d < n := by
  intro j d h
  obtain ⟨o, ho, hd⟩ := Option.bind_eq_some_iff.1 h
  have hmem : o ∈ ops.toList := by
    obtain ⟨hlt, rfl⟩ := Array.getElem?_eq_some_iff.1 ho
    exact Array.getElem_mem_toList hlt
  exact okOp_dst (List.all_eq_true.1 hok o hmem) d hd

theorem ops_ok {ops : Array Oper} {Q : Exit → Env → Sto → Prop} {G0 : Gh} {w0 : World} (hok : ops.toList.all (okOp n) = true) : ∀ (l : List Oper) (i : Nat) {G : Gh} {w : World} {a : Act} {e : Env} {s : Sto}, ops.toList.drop i = l →
    Ext G0 w0 G w → Mod Γ G s w → EnvR G w n e a → awpOps P Γ ops l e s (fun e' s' => Q .normal e' s') → wpOps P ops (Behind Γ n G0 w0 Q) (List.range' i l.length) a w
  | [], i, G, w, a, e, s, _, X, hm, he, h => ⟨e, s, G, h, hm, he, X⟩
  | o :: l, i, G, w, a, e, s, hd, X, hm, he, h => by
    have hlt : i < ops.toList.length := by
      rcases Nat.lt_or_ge i ops.toList.length with hh | hh
      · exact hh
      · rw [List.drop_of_length_le hh] at hd; cases hd
    rw [List.drop_eq_getElem_cons hlt] at hd
    injection hd with ho hd
    have hoi : ops[i]? = some o := by rw [← Array.getElem?_toList, List.getElem?_eq_getElem hlt, ho]
    have hoo : okOp n o = true := List.all_eq_true.1 hok o (by rw [← ho]; exact List.getElem_mem hlt)
    simp only [List.length_cons, List.range'_succ, wpOps, hoi]
    replace h : wantA ops e o.guard (astep P Γ (evA Γ e) s o.op fun v s' => frc v fun v' => putA o.dst e v' fun e' => awpOps P Γ ops l e' s' (fun e' s' => Q .normal e' s')) (putA o.dst e undefA fun e' => awpOps P Γ ops l e' s (fun e' s' => Q .normal e' s')) := h
    rcases wanted_of he h (dst_lt hok) with ⟨hw, h⟩ | ⟨hw, h⟩
    · rw [if_pos hw]
      refine .inl (astep_ok hm he (okOp_ops hoo) h ?_)
      intro v r s' G' w' hK hR hm' X'
      rw [frc_eq, putA_eq] at hK
      exact ops_ok hok l (i + 1) hd (X.trans X') hm' ((he.mono X').put (okOp_dst hoo) hR) hK
    · rw [if_neg (by rw [hw]; simp)]
      rw [putA_eq] at h
      exact ops_ok hok l (i + 1) hd X hm (he.put (okOp_dst hoo) R_undef) h

/-- THE WALK: what is shown of the abstract states is so. -/
theorem awp_ok : ∀ (c : Code) {Q : Exit → Env → Sto → Prop} {e : Env} {s : Sto}, okCode n c = true → awp P Γ n c Q e s → AWp P Γ n c Q e s
  | .skip, Q, e, s, _, h => AWp.skip h
  | .region id ops draw, Q, e, s, hok, h => by
    cases draw with
    | true => exact h
    | false =>
      refine ⟨fun G w a hm he => ?_⟩
      refine wp_region ?_
      have := ops_ok (P := P) (Γ := Γ) (Q := Q) (n := n) (by simpa [okCode] using hok) ops.toList 0 rfl (Ext.refl _ _) hm he h
      rw [List.range_eq_range', ← Array.length_toList]
      exact this
  | .seq c d, Q, e, s, hok, h => by
    simp only [okCode, Bool.and_eq_true] at hok
    refine AWp.seq ((awp_ok c hok.1 h).mono ?_)
    intro x e s hx
    cases x with
    | normal => exact awp_ok d hok.2 hx
    | _ => exact hx
  | .cond c a b, Q, e, s, hok, h => by
    simp only [okCode, Bool.and_eq_true] at hok
    refine ⟨fun G w ac hm he => ?_⟩
    have hc := evA_ok hm he hok.1.1
    replace h : asB (evA Γ e c) fun t => brA t (awp P Γ n a Q e s) (awp P Γ n b Q e s) := h
    cases hcv : evA Γ e c <;> rw [hcv] at h hc <;> try exact h.elim
    rename_i t
    rw [R_bool] at hc
    refine wp_cond hc ?_
    cases t
    · exact (awp_ok b hok.2 h).run G w ac hm he
    · exact (awp_ok a hok.1.2 h).run G w ac hm he
  | .block id c, Q, e, s, hok, h => AWp.block (awp_ok c hok h)
  | .loop c, Q, e, s, _, h => h
  | .exit id, Q, e, s, _, h => AWp.exit h
  | .ret, Q, e, s, _, h => AWp.ret h
end
end Go.Ab
