/- The abstract store; what a call does said of abstract values; the rules of control. -/
import Derived.Test.YtcgobgnbpeageaaDoorAb1
set_option linter.all false
namespace Go.Ab
open Go

/-- The cells that may change (boxes), and the tokens of rows that may grow. -/
structure Sto where
  bx : Nat → Option (TypeId × List AV)
  lv : Nat → TypeId → Nat → Prop
  fin : ∃ N, ∀ b, N ≤ b → bx b = none
theorem Sto.fresh (s : Sto) : ∃ b, s.bx b = none := s.fin.elim fun N h => ⟨N, h N (Nat.le_refl N)⟩

/-- A live token of elements of type e of k cells: its value is a slice from the head of a row, and nobody has more of that row. -/
def Top (G : Gh) (w : World) (t b : Nat) (e : TypeId) (k : Nat) : Prop :=
  ∃ len cap c, G.tk t = .slice (some ⟨b, 0, none⟩) len cap ∧ len ≤ cap ∧ G.kd b = .row (len * k) ∧
    w.heap[b]? = some (.cells c e (0, 0)) ∧ c.size = cap * k

/-- A package-level variable: if its cells are known, they are all that its block holds, and stay. -/
def GlobR (G : Gh) (w : World) (g : Nat) : AV → Prop
  | .cptr cs => G.kd g = .fixd ∧ (∃ c T fr, w.heap[g]? = some (.cells c T fr) ∧ c.size = cs.length) ∧ R G w (.cptr cs) (.pointer (some ⟨g, 0, none⟩))
  | a => R G w a (.pointer (some ⟨g, 0, none⟩))
theorem GlobR.r {G : Gh} {w : World} {g : Nat} {a : AV} (h : GlobR G w g a) : R G w a (.pointer (some ⟨g, 0, none⟩)) := by
  cases a with
  | cptr cs => exact h.2.2
  | _ => exact h
theorem GlobR.mono {G G' : Gh} {w w' : World} {g : Nat} {a : AV} (h : GlobR G w g a) (X : Ext G w G' w') : GlobR G' w' g a := by
  cases a with
  | cptr cs =>
    obtain ⟨h1, ⟨c, T, fr, h2, h3⟩, h4⟩ := h
    obtain ⟨k1, k2⟩ := X.fixd g h1
    exact ⟨k1, ⟨c, T, fr, k2.trans h2, h3⟩, h4.mono X _ _⟩
  | _ => exact R.mono X _ _ h

structure Mod (Γ : Nat → AV) (G : Gh) (s : Sto) (w : World) : Prop where
  glob : ∀ g, GlobR G w g (Γ g)
  box : ∀ b T cs, s.bx b = some (T, cs) → G.kd b = .free ∧ ∃ vs : List Value, w.heap[b]? = some (.cells vs.toArray T (0, 0)) ∧ RList G w cs vs
  dom : ∀ b, G.kd b ≠ .free → b < w.heap.size
  live : ∀ t e k, s.lv t e k → t ≠ 0 ∧ t ≠ 1 ∧ ∃ b, Top G w t b e k
  apart : ∀ t u b e k e' k', s.lv t e k → s.lv u e' k' → Top G w t b e k → Top G w u b e' k' → t = u
  fin : ∃ N, ∀ t, N ≤ t → G.tk t = .nilFunc

/-- WHAT A CALL DOES, said of abstract values: from any memory that is so, it returns, with an answer and a store of which φ holds. -/
structure ACalls (P : Program) (Γ : Nat → AV) (f : FuncId) (args : List AV) (s : Sto) (φ : AV → Sto → Prop) : Prop where
  run : ∀ G w vs, Mod Γ G s w → RList G w args vs →
    Calls P f vs.toArray w fun e w' => ∃ v av s' G', e = .returned v ∧ φ av s' ∧ R G' w' av v ∧ Mod Γ G' s' w' ∧ Ext G w G' w'

/-- A call that leaves the store as it is, whatever that is. -/
def APure (P : Program) (Γ : Nat → AV) (f : FuncId) (args : List AV) (φ : AV → Prop) : Prop :=
  ∀ s, ACalls P Γ f args s fun v s' => φ v ∧ s' = s

theorem ACalls.mono {P : Program} {Γ : Nat → AV} {f : FuncId} {args : List AV} {s : Sto} {φ ψ : AV → Sto → Prop} (h : ACalls P Γ f args s φ)
    (hi : ∀ v s', φ v s' → ψ v s') : ACalls P Γ f args s ψ := ⟨fun G w vs hm hr =>
  (h.run G w vs hm hr).mono fun _ _ ⟨v, av, s', G', he, hφ, r⟩ => ⟨v, av, s', G', he, hi _ _ hφ, r⟩⟩

theorem APure.mono {P : Program} {Γ : Nat → AV} {f : FuncId} {args : List AV} {φ ψ : AV → Prop} (h : APure P Γ f args φ)
    (hi : ∀ v, φ v → ψ v) : APure P Γ f args ψ := fun s => (h s).mono fun _ _ ⟨a, b⟩ => ⟨hi _ a, b⟩

abbrev Env := Nat → AV

def undefA : AV := .tuple []

def upd (e : Env) (d : Nat) (v : AV) : Env := fun i => if i = d then v else e i
theorem upd_apply (e : Env) (d : Nat) (v : AV) (i : Nat) : upd e d v i = if i = d then v else e i := rfl

def updO (e : Env) : Option Nat → AV → Env
  | some d, v => upd e d v
  | none, _ => e

/-- The frame's slots read so. -/
structure EnvR (G : Gh) (w : World) (n : Nat) (e : Env) (a : Act) : Prop where
  size : a.tmps.size = n
  at_ : ∀ i, R G w (e i) (a.tmps.getD i undef)
  defers : a.defers = []

theorem EnvR.mono {G G' : Gh} {w w' : World} {n : Nat} {e : Env} {a : Act} (h : EnvR G w n e a) (X : Ext G w G' w') : EnvR G' w' n e a :=
  ⟨h.size, fun i => (h.at_ i).mono X _ _, h.defers⟩

theorem EnvR.put {G : Gh} {w : World} {n : Nat} {e : Env} {a : Act} (h : EnvR G w n e a) {d : Option Nat} (hd : ∀ i, d = some i → i < n) {x : AV} {v : Value} (hx : R G w x v) :
    EnvR G w n (updO e d x) (a.put d v) := by
  cases d with
  | none => exact h
  | some d =>
    have hd := hd d rfl
    refine ⟨by simp [Act.put, h.size], fun i => ?_, h.defers⟩
    simp only [updO, upd, Act.put]
    by_cases hi : i = d
    · subst hi
      simp only [if_pos]
      have : (a.tmps.setIfInBounds i v).getD i undef = v := by
        simp [Array.getD, h.size, hd]
      rw [this]; exact hx
    · rw [if_neg hi]
      have : (a.tmps.setIfInBounds d v).getD i undef = a.tmps.getD i undef := by
        simp only [Array.getD_eq_getD_getElem?, Array.getElem?_setIfInBounds]
        rw [if_neg (by omega)]
      rw [this]; exact h.at_ i

/-- What a piece of code does, said of abstract states. -/
structure AWp (P : Program) (Γ : Nat → AV) (n : Nat) (c : Code) (Q : Exit → Env → Sto → Prop) (e : Env) (s : Sto) : Prop where
  run : ∀ G w a, Mod Γ G s w → EnvR G w n e a →
    c.wp P (fun x a' w' => ∃ e' s' G', Q x e' s' ∧ Mod Γ G' s' w' ∧ EnvR G' w' n e' a' ∧ Ext G w G' w') a w

section rules
variable {P : Program} {Γ : Nat → AV} {n : Nat} {Q : Exit → Env → Sto → Prop} {e : Env} {s : Sto}

theorem AWp.mono {c : Code} {Q' : Exit → Env → Sto → Prop} (h : AWp P Γ n c Q e s) (hq : ∀ x e s, Q x e s → Q' x e s) : AWp P Γ n c Q' e s :=
  ⟨fun G w a hm he => Code.wp_mono (fun _ _ _ ⟨e', s', G', q, r⟩ => ⟨e', s', G', hq _ _ _ q, r⟩) (h.run G w a hm he)⟩

theorem AWp.skip (h : Q .normal e s) : AWp P Γ n .skip Q e s := ⟨fun G _ _ hm he => wp_skip ⟨e, s, G, h, hm, he, Ext.refl _ _⟩⟩
theorem AWp.ret (h : Q .ret e s) : AWp P Γ n .ret Q e s := ⟨fun G _ _ hm he => wp_ret ⟨e, s, G, h, hm, he, Ext.refl _ _⟩⟩
theorem AWp.exit {id : Nat} (h : Q (.exit id) e s) : AWp P Γ n (.exit id) Q e s := ⟨fun G _ _ hm he => wp_exit ⟨e, s, G, h, hm, he, Ext.refl _ _⟩⟩

/-- Behind the first piece: the second, if the first ends by itself. -/
def thenA (next : Env → Sto → Prop) (Q : Exit → Env → Sto → Prop) : Exit → Env → Sto → Prop
  | .normal, e, s => next e s
  | x, e, s => Q x e s

theorem AWp.seq {c d : Code} (h : AWp P Γ n c (thenA (AWp P Γ n d Q) Q) e s) : AWp P Γ n (.seq c d) Q e s := by
  refine ⟨fun G w a hm he => ?_⟩
  refine wp_seq (Code.wp_mono ?_ (h.run G w a hm he))
  rintro x a' w' ⟨e', s', G', q, hm', he', X⟩
  cases x with
  | normal =>
    refine Code.wp_mono ?_ (q.run G' w' a' hm' he')
    rintro x a'' w'' ⟨e'', s'', G'', q', hm'', he'', X'⟩
    exact ⟨e'', s'', G'', q', hm'', he'', X.trans X'⟩
  | _ => exact ⟨e', s', G', q, hm', he', X⟩

def blockA (id : Nat) (Q : Exit → Env → Sto → Prop) : Exit → Env → Sto → Prop
  | .exit i, e, s => if i = id then Q .normal e s else Q (.exit i) e s
  | x, e, s => Q x e s

theorem AWp.block {id : Nat} {c : Code} (h : AWp P Γ n c (blockA id Q) e s) : AWp P Γ n (.block id c) Q e s := by
  refine ⟨fun G w a hm he => ?_⟩
  refine wp_block (Code.wp_mono ?_ (h.run G w a hm he))
  rintro x a' w' ⟨e', s', G', q, hm', he', X⟩
  cases x with
  | exit i =>
    simp only [blockA] at q
    simp only [Exit.inBlock]
    split
    · rename_i hi; rw [if_pos hi] at q; exact ⟨e', s', G', q, hm', he', X⟩
    · rename_i hi; rw [if_neg hi] at q; exact ⟨e', s', G', q, hm', he', X⟩
  | _ => exact ⟨e', s', G', q, hm', he', X⟩

theorem AWp.loop {c : Code} (I : Env → Sto → Prop) (μ : Env → Sto → Nat) (h0 : I e s)
    (round : ∀ e s, I e s → AWp P Γ n c (thenA (fun e' s' => I e' s' ∧ μ e' s' < μ e s) Q) e s) : AWp P Γ n (.loop c) Q e s := by
  refine ⟨fun G w a hm he => ?_⟩
  have key : ∀ m G1 w1 a1 e1 s1, μ e1 s1 < m → I e1 s1 → Mod Γ G1 s1 w1 → EnvR G1 w1 n e1 a1 → Ext G w G1 w1 →
      Code.rounds P c (fun x a' w' => ∃ e' s' G', Q x e' s' ∧ Mod Γ G' s' w' ∧ EnvR G' w' n e' a' ∧ Ext G w G' w') m a1 w1 := by
    intro m
    induction m with
    | zero => intro _ _ _ _ _ h; omega
    | succ m ih =>
      intro G1 w1 a1 e1 s1 hmu hI hm1 he1 X1
      rw [rounds_succ]
      refine Code.wp_mono ?_ ((round e1 s1 hI).run G1 w1 a1 hm1 he1)
      rintro x a' w' ⟨e', s', G', q, hm', he', X⟩
      cases x with
      | normal => exact ih G' w' a' e' s' (by have := q.2; omega) q.1 hm' he' (X1.trans X)
      | _ => exact ⟨e', s', G', q, hm', he', X1.trans X⟩
  exact wp_loop_rounds _ (key _ G w a e s (Nat.lt_succ_self _) h0 hm he (Ext.refl _ _))
end rules

end Go.Ab
