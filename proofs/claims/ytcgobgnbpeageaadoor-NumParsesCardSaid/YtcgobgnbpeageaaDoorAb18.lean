/- A region whose order is open: the order of its text serves for every order. -/
import Derived.Test.YtcgobgnbpeageaaDoorAb17
set_option linter.all false
namespace Go.Ab
open Go

section
variable {P : Program} {Γ : Nat → AV}

theorem aval_congr {ev ev' : Operand → AV} {s : Sto} {op : Op} {K : AV → Prop} (hev : ∀ x ∈ op.operands.toList, ev x = ev' x) (h : aval P ev s op K) : aval P ev' s op K := by
  have opt : ∀ x : Option Operand, (∀ y, x = some y → ev y = ev' y) → x.map ev = x.map ev' := fun x hx => by
    cases x with
    | none => rfl
    | some y => exact congrArg some (hx y rfl)
  cases op <;> dsimp only [aval] at h ⊢ <;> dsimp only [Op.operands] at hev <;> try exact h.elim
  case move x => rw [← hev x (by simp)]; exact h
  case assign x => rw [← hev x (by simp)]; exact h
  case pick c a b => rw [← hev c (by simp), ← hev a (by simp), ← hev b (by simp)]; exact h
  case binOp op t x y yt => rw [← hev x (by simp), ← hev y (by simp)]; exact h
  case unOp op t x => rw [← hev x (by simp)]; exact h
  case convert src dst x => rw [← hev x (by simp)]; exact h
  case makeInterface t x => rw [← hev x (by simp)]; exact h
  case makeFunc fn first captured =>
    rw [← List.map_congr_left (f := ev) (g := ev') fun x hx => hev x (by simp at hx ⊢; exact .inl hx), ← List.map_congr_left (f := ev) (g := ev') fun x hx => hev x (by simp at hx ⊢; exact .inr hx)]; exact h
  case slice t x lo hi mx =>
    rw [← hev x (by simp), ← opt lo fun y hy => hev y (by simp [hy]), ← opt hi fun y hy => hev y (by simp [hy]), ← opt mx fun y hy => hev y (by simp [hy])]; exact h
  case fieldAddr t x f => rw [← hev x (by simp)]; exact h
  case indexAddr t x i => rw [← hev x (by simp), ← hev i (by simp)]; exact h
  case index t x i => rw [← hev x (by simp), ← hev i (by simp)]; exact h
  case nilCheck x => rw [← hev x (by simp)]; exact h
  case extract x i => rw [← hev x (by simp)]; exact h
  case build t parts =>
    rw [← List.map_congr_left (f := fun x : Nat × Operand => (x.1, ev x.2)) (g := fun x : Nat × Operand => (x.1, ev' x.2)) fun x hx => by
      rw [hev x.2 (by simp; exact ⟨x.1, by simpa using hx⟩)]]
    exact h
  case load t x => rw [← hev x (by simp)]; exact h
  case call c =>
    cases hc : c.callee with
    | builtin b =>
      rw [hc] at h
      dsimp only at h ⊢
      rw [← List.map_congr_left (f := ev) (g := ev') fun x hx => hev x (by simp [Call.operands, hc] at hx ⊢; exact hx)]
      exact h
    | value f => rw [hc] at h; exact h.elim
    | invoke r m => rw [hc] at h; exact h.elim

theorem aval_sub {ev : Operand → AV} {s s' : Sto} {op : Op} {K : AV → Prop} (hs : Sub s s') (h : aval P ev s op K) : aval P ev s' op K := by
  have box : ∀ {b : Nat} {T : TypeId → List AV → Prop}, getB (s.bx b) T → getB (s'.bx b) T := fun h => by
    obtain ⟨T, cs, hb, hk⟩ := getB_iff h
    rw [hs.bx _ _ hb]; exact hk
  cases op <;> try exact h
  case convert src dst x =>
    dsimp only [aval] at h ⊢
    unfold aconv at h ⊢
    split at h
    · exact h
    · exact h
    · exact h
    · obtain ⟨h1, h⟩ := chk_iff.1 h
      exact chk_iff.2 ⟨h1, box h⟩
    · exact h.elim
  case load t x =>
    dsimp only [aval] at h ⊢
    split at h
    · exact h
    · exact box h
    · exact h.elim

/-- The value that an operation of the first class gives. -/
def Out0 (P : Program) (Γ : Nat → AV) (ops : Array Oper) (o : Oper) (e : Env) (s : Sto) (v : AV) : Prop := Tr P Γ ops o e s fun r s' => r = v ∧ s' = s

theorem wantA_det {ops : Array Oper} {e : Env} {g : Option (Nat × Bool)} {y n : Prop} (h : wantA ops e g y n) : (y ∧ ∀ y' n' : Prop, y' → wantA ops e g y' n') ∨ (n ∧ ∀ y' n' : Prop, n' → wantA ops e g y' n') := by
  unfold wantA at *
  split at h
  · exact .inl ⟨h, fun _ _ h => h⟩
  · rename_i j want
    split at h
    · exact h.elim
    · split at h
      · rename_i b _
        cases want <;> cases b
        · exact .inl ⟨h, fun _ _ h => h⟩
        · exact .inr ⟨h, fun _ _ h => h⟩
        · exact .inr ⟨h, fun _ _ h => h⟩
        · exact .inl ⟨h, fun _ _ h => h⟩
      · exact .inr ⟨h, fun _ _ h => h⟩
      · exact h.elim

theorem dstep_det {ev : Operand → AV} {s : Sto} {op : Op} {K : AV → Sto → Prop} (hc : cls op = 0) (h : dstep P Γ ev s op K) : ∃ v, K v s ∧ ∀ K' : AV → Sto → Prop, K' v s → dstep P Γ ev s op K' := by
  have plain : aval P ev s op (fun v => K v s) → ∃ v, K v s ∧ ∀ K' : AV → Sto → Prop, K' v s → aval P ev s op (fun v => K' v s) := fun h => by
    obtain ⟨v, h1, h2⟩ := aval_det (P := P) ev s op _ h
    exact ⟨v, h1, fun K' h' => h2 _ h'⟩
  cases op <;> try exact plain h
  case alloc => cases hc
  case box => cases hc
  case store => cases hc
  case makeSlice => cases hc
  case buildSlice T len parts =>
    dsimp only [dstep, astep] at h ⊢
    split at h
    · rename_i e he
      split at h
      · rename_i k z hk hz
        obtain ⟨h1, h2, h3, h4, h⟩ := h
        rw [frcLL_eq] at h
        refine ⟨_, h, fun K' h' => ⟨h1, h2, h3, h4, ?_⟩⟩
        rw [frcLL_eq]; exact h'
      · exact h.elim
    · exact h.elim
  case call c =>
    obtain ⟨callee, args, ts⟩ := c
    cases callee with
    | value f =>
      dsimp only [dstep] at h ⊢
      split at h
      · obtain ⟨h1, h⟩ := chk_iff.1 h
        rw [frcL_eq] at h
        obtain ⟨r, h2, h3⟩ := h
        refine ⟨r, h3, fun K' h' => chk_iff.2 ⟨h1, ?_⟩⟩
        rw [frcL_eq]; exact ⟨r, h2, h'⟩
      · exact h.elim
    | invoke r m => exact plain h
    | builtin b =>
      by_cases hb : b = .append
      · subst hb; cases hc
      · cases b <;> first | exact absurd rfl hb | exact plain h

theorem dstep_sub {ev : Operand → AV} {s s' : Sto} {op : Op} {v : AV} (hc : cls op = 0) (hs : Sub s s') (h : dstep P Γ ev s op fun r t => r = v ∧ t = s) : dstep P Γ ev s' op fun r t => r = v ∧ t = s' := by
  have plain : aval P ev s op (fun r => r = v ∧ s = s) → aval P ev s' op (fun r => r = v ∧ s' = s') := fun h => aval_sub hs (aval_mono h fun r hr => ⟨hr.1, rfl⟩)
  cases op <;> try exact plain h
  case alloc => cases hc
  case box => cases hc
  case store => cases hc
  case makeSlice => cases hc
  case buildSlice T len parts =>
    dsimp only [dstep, astep] at h ⊢
    split at h
    · split at h
      · obtain ⟨h1, h2, h3, h4, h⟩ := h
        rw [frcLL_eq] at h
        refine ⟨h1, h2, h3, h4, ?_⟩
        rw [frcLL_eq]; exact ⟨h.1, rfl⟩
      · exact h.elim
    · exact h.elim
  case call c =>
    obtain ⟨callee, args, ts⟩ := c
    cases callee with
    | value f =>
      dsimp only [dstep] at h ⊢
      split at h
      · obtain ⟨h1, h⟩ := chk_iff.1 h
        rw [frcL_eq] at h
        obtain ⟨r, h2, h3⟩ := h
        refine chk_iff.2 ⟨h1, ?_⟩
        rw [frcL_eq]; exact ⟨r, h2, h3.1, rfl⟩
      · exact h.elim
    | invoke r m => exact plain h
    | builtin b =>
      by_cases hb : b = .append
      · subst hb; cases hc
      · cases b <;> first | exact absurd rfl hb | exact plain h

theorem dstep_congr {ev ev' : Operand → AV} {s : Sto} {op : Op} {K : AV → Sto → Prop} (hc : cls op ≠ 2) (hev : ∀ x ∈ op.operands.toList, ev x = ev' x) (h : dstep P Γ ev s op K) : dstep P Γ ev' s op K := by
  have plain : aval P ev s op (fun v => K v s) → aval P ev' s op (fun v => K v s) := fun h => aval_congr hev h
  cases op <;> try exact plain h
  case alloc => exact h
  case box T x =>
    dsimp only [dstep, astep] at h ⊢
    rw [← hev x (by simp [Op.operands])]; exact h
  case store => exact absurd rfl hc
  case makeSlice T l c =>
    dsimp only [dstep, astep] at h ⊢
    rw [← hev l (by simp [Op.operands]), ← hev c (by simp [Op.operands])]; exact h
  case buildSlice T len parts =>
    dsimp only [dstep, astep] at h ⊢
    rw [← List.map_congr_left (f := fun p : Nat × Operand => cellsA (ev p.2)) (g := fun p : Nat × Operand => cellsA (ev' p.2)) fun p hp => by
      rw [hev p.2 (by simp [Op.operands]; exact ⟨p.1, by simpa using hp⟩)]]
    exact h
  case call c =>
    obtain ⟨callee, args, ts⟩ := c
    cases callee with
    | value f =>
      dsimp only [dstep] at h ⊢
      rw [← hev f (by simp [Op.operands, Call.operands]), ← List.map_congr_left (f := ev) (g := ev') fun x hx => hev x (by simp [Op.operands, Call.operands] at hx ⊢; exact .inr hx)]
      exact h
    | invoke r m => exact plain h
    | builtin b =>
      by_cases hb : b = .append
      · subst hb; exact absurd rfl hc
      · cases b <;> first | exact absurd rfl hb | exact plain h

theorem store_congr {ev ev' : Operand → AV} {s : Sto} {op : Op} {K : AV → Sto → Prop} (hc : isStore op = true) (hev : ∀ x ∈ op.operands.toList, ev x = ev' x) (h : dstep P Γ ev s op K) : dstep P Γ ev' s op K := by
  cases op <;> try cases hc
  case store t a x =>
    dsimp only [dstep, astep] at h ⊢
    rw [← hev a (by simp [Op.operands]), ← hev x (by simp [Op.operands])]; exact h

theorem evA_agree {e e' : Env} {x : Operand} (h : ∀ t, x = .tmp t → e t = e' t) : evA Γ e x = evA Γ e' x := by
  cases x <;> first | rfl | exact h _ rfl

theorem wantA_congr {ops : Array Oper} {e e' : Env} {g : Option (Nat × Bool)} {y n : Prop} (h : ∀ (j : Nat) (w : Bool) (d : Nat), g = some (j, w) → (ops[j]?).bind Oper.dst = some d → e d = e' d) (hw : wantA ops e g y n) : wantA ops e' g y n := by
  unfold wantA at *
  split at hw
  · exact hw
  · rename_i j want
    split at hw
    · exact hw.elim
    · rename_i d hd
      rw [← h j want d rfl hd]; exact hw

/-- The slots that it looks at hold the same. -/
def Agree (ops : Array Oper) (o : Oper) (e e' : Env) : Prop := ∀ t ∈ opTmps ops o, e t = e' t

theorem Tr_congr {ops : Array Oper} {o : Oper} {e e' : Env} {s : Sto} {K : AV → Sto → Prop} (hc : cls o.op ≠ 2) (ha : Agree ops o e e') (h : Tr P Γ ops o e s K) : Tr P Γ ops o e' s K := by
  refine wantA_congr (fun j w d hg hd => ha d ?_) (wantA_mono h (fun h => dstep_congr hc (fun x hx => evA_agree fun t ht => ha t ?_) h) fun h => h)
  · simp only [opTmps, List.mem_append]
    right
    rw [hg]
    simp [hd]
  · simp only [opTmps, List.mem_append]
    left
    exact List.mem_filterMap.2 ⟨x, hx, by rw [ht]⟩

theorem Tr_congr_store {ops : Array Oper} {o : Oper} {e e' : Env} {s : Sto} {K : AV → Sto → Prop} (hc : isStore o.op = true) (ha : Agree ops o e e') (h : Tr P Γ ops o e s K) : Tr P Γ ops o e' s K := by
  refine wantA_congr (fun j w d hg hd => ha d ?_) (wantA_mono h (fun h => store_congr hc (fun x hx => evA_agree fun t ht => ha t ?_) h) fun h => h)
  · simp only [opTmps, List.mem_append]
    right
    rw [hg]
    simp [hd]
  · simp only [opTmps, List.mem_append]
    left
    exact List.mem_filterMap.2 ⟨x, hx, by rw [ht]⟩

theorem agree_upd {ops : Array Oper} {o : Oper} {d : Option Nat} (h : dstNot d (opTmps ops o) = true) (e : Env) (v : AV) : Agree ops o e (updO e d v) := by
  intro t ht
  cases d with
  | none => rfl
  | some d =>
    simp only [updO, upd]
    rw [if_neg]
    rintro rfl
    simp [dstNot, ht] at h

theorem agree_symm {ops : Array Oper} {o : Oper} {e e' : Env} (h : Agree ops o e e') : Agree ops o e' e := fun t ht => (h t ht).symm

theorem updO_comm {d1 d2 : Option Nat} (h : (match d1, d2 with | some a, some b => a != b | _, _ => true) = true) (e : Env) (v1 v2 : AV) : updO (updO e d1 v1) d2 v2 = updO (updO e d2 v2) d1 v1 := by
  cases d1 <;> cases d2 <;> try rfl
  rename_i a b
  have hab : a ≠ b := by simpa using h
  funext i
  simp only [updO, upd]
  by_cases h1 : i = b
  · subst h1
    rw [if_pos rfl, if_neg (fun h => hab h.symm), if_pos rfl]
  · rw [if_neg h1]
    by_cases h2 : i = a
    · rw [if_pos h2, if_pos h2]
    · rw [if_neg h2, if_neg h2, if_neg h1]

theorem Tr_det {ops : Array Oper} {o : Oper} {e : Env} {s : Sto} {K : AV → Sto → Prop} (hc : cls o.op = 0) (h : Tr P Γ ops o e s K) : ∃ v, K v s ∧ Out0 P Γ ops o e s v ∧ ∀ K' : AV → Sto → Prop, K' v s → Tr P Γ ops o e s K' := by
  rcases wantA_det h with ⟨hy, hw⟩ | ⟨hn, hw⟩
  · obtain ⟨v, h1, h2⟩ := dstep_det hc hy
    exact ⟨v, h1, hw _ _ (h2 _ ⟨rfl, rfl⟩), fun K' h' => hw _ _ (h2 K' h')⟩
  · exact ⟨undefA, hn, hw _ _ ⟨rfl, rfl⟩, fun K' h' => hw _ _ h'⟩

theorem Out0.use {ops : Array Oper} {o : Oper} {e : Env} {s : Sto} {v : AV} (h : Out0 P Γ ops o e s v) {K : AV → Sto → Prop} (hk : K v s) : Tr P Γ ops o e s K :=
  Tr_mono h fun _ _ ⟨h1, h2⟩ => by subst h1 h2; exact hk
theorem Out0.move {ops : Array Oper} {o : Oper} {e e' : Env} {s s' : Sto} {v : AV} (hc : cls o.op = 0) (h : Out0 P Γ ops o e s v) (ha : Agree ops o e e') (hs : Sub s s') : Out0 P Γ ops o e' s' v := by
  refine Tr_congr (by rw [hc]; decide) ha ?_
  rcases wantA_det h with ⟨hy, hw⟩ | ⟨hn, hw⟩
  · exact hw _ _ (dstep_sub hc hs hy)
  · exact hw _ _ ⟨hn.1, rfl⟩

/-- A new box: under which condition, what points to it, which type, which cells. -/
theorem new_iff {ev : Operand → AV} {op : Op} (hc : cls op = 1) : ∃ (p : Prop) (mk : Nat → AV) (T : TypeId) (cs : List AV), ∀ s (K : AV → Sto → Prop), dstep P Γ ev s op K ↔ p ∧ ∀ b, s.bx b = none → K (mk b) (s.set b T cs) := by
  have never : (∀ s (K : AV → Sto → Prop), ¬ dstep P Γ ev s op K) → ∃ (p : Prop) (mk : Nat → AV) (T : TypeId) (cs : List AV), ∀ s (K : AV → Sto → Prop), dstep P Γ ev s op K ↔ p ∧ ∀ b, s.bx b = none → K (mk b) (s.set b T cs) :=
    fun h => ⟨False, fun _ => undefA, 0, [], fun s K => ⟨fun hh => absurd hh (h s K), fun hh => hh.1.elim⟩⟩
  cases op <;> try cases hc
  case alloc T =>
    cases hz : zeroT P T with
    | none => exact never fun s K h => by dsimp only [dstep, astep] at h; rw [hz] at h; exact h
    | some z => exact ⟨True, fun b => .ptr (some ⟨b, 0, none⟩), T, z, fun s K => by dsimp only [dstep, astep]; rw [hz]; exact ⟨fun h => ⟨trivial, h⟩, fun h => h.2⟩⟩
  case box T x => exact ⟨True, fun b => .ptr (some ⟨b, 0, none⟩), T, cellsA (ev x), fun s K => by dsimp only [dstep, astep]; rw [frcL_eq]; exact ⟨fun h => ⟨trivial, h⟩, fun h => h.2⟩⟩
  case makeSlice T l c =>
    have views : (∃ n m, ev l = .int .i64 n ∧ ev c = .int .i64 m) ∨ ∀ s (K : AV → Sto → Prop), ¬ dstep P Γ ev s (.makeSlice T l c) K := by
      dsimp only [dstep, astep]
      generalize ev l = x
      generalize ev c = y
      cases x <;> try exact .inr fun s K h => h
      rename_i k1 n
      cases k1 <;> cases y <;> try exact .inr fun s K h => h
      rename_i k2 m
      cases k2 <;> try exact .inr fun s K h => h
      exact .inl ⟨n, m, rfl, rfl⟩
    rcases views with ⟨n, m, hl, hc⟩ | hv
    case inr => exact never hv
    have run : ∀ s (K : AV → Sto → Prop), dstep P Γ ev s (.makeSlice T l c) K = match sliceT P T with
        | some e => (match sizeT P e, bytesT P e, zeroT P e with
          | some k, some bs, some z => 0 ≤ n ∧ n ≤ m ∧ m ≤ 9223372036854775807 ∧ bs * m ≤ 281474976710656 ∧ z.length = k ∧
            ∀ b, s.bx b = none → K (.raw (some ⟨b, 0, none⟩) n.toNat m.toNat) (s.set b e (List.replicate m.toNat z).flatten)
          | _, _, _ => False)
        | none => False := fun s K => by dsimp only [dstep, astep]; rw [hl, hc]; rfl
    cases he : sliceT P T with
    | none => exact never fun s K h => by rw [run, he] at h; exact h
    | some e =>
      cases hk : sizeT P e with
      | none => exact never fun s K h => by rw [run, he] at h; dsimp only at h; rw [hk] at h; exact h
      | some k =>
        cases hb : bytesT P e with
        | none => exact never fun s K h => by rw [run, he] at h; dsimp only at h; rw [hk, hb] at h; exact h
        | some bs =>
          cases hz : zeroT P e with
          | none => exact never fun s K h => by rw [run, he] at h; dsimp only at h; rw [hk, hb, hz] at h; exact h
          | some z =>
            refine ⟨0 ≤ n ∧ n ≤ m ∧ m ≤ 9223372036854775807 ∧ bs * m ≤ 281474976710656 ∧ z.length = k, fun b => .raw (some ⟨b, 0, none⟩) n.toNat m.toNat, e, (List.replicate m.toNat z).flatten, fun s K => ?_⟩
            rw [run, he]
            dsimp only
            rw [hk, hb, hz]
            exact ⟨fun ⟨h1, h2, h3, h4, h5, h6⟩ => ⟨⟨h1, h2, h3, h4, h5⟩, h6⟩, fun ⟨⟨h1, h2, h3, h4, h5⟩, h6⟩ => ⟨h1, h2, h3, h4, h5, h6⟩⟩
  case call c =>
    obtain ⟨callee, args, ts⟩ := c
    cases callee with
    | builtin b => cases b <;> cases hc
    | _ => cases hc

theorem indexAddr_fn (t : TypeId) (x : AV) (n : Int) : ∃ (p : Prop) (v : AV), ∀ K : AV → Prop, aindexAddr P t x n K ↔ p ∧ K v := by
  have never : (∀ K : AV → Prop, ¬ aindexAddr P t x n K) → ∃ (p : Prop) (v : AV), ∀ K : AV → Prop, aindexAddr P t x n K ↔ p ∧ K v :=
    fun h => ⟨False, undefA, fun K => ⟨fun hh => absurd hh (h K), fun hh => hh.1.elim⟩⟩
  unfold aindexAddr at never ⊢
  split
  · rename_i es
    split
    · split
      · rename_i k hk
        refine ⟨0 ≤ n ∧ n.toNat < es.length ∧ (es.getD n.toNat []).length = k, .cptr (es.getD n.toNat []), fun K => ?_⟩
        rw [frcL_eq]
        exact ⟨fun ⟨a, b, c, d⟩ => ⟨⟨a, b, c⟩, d⟩, fun ⟨⟨a, b, c⟩, d⟩ => ⟨a, b, c, d⟩⟩
      · exact ⟨False, undefA, fun K => ⟨fun h => h.elim, fun h => h.1.elim⟩⟩
    · exact ⟨False, undefA, fun K => ⟨fun h => h.elim, fun h => h.1.elim⟩⟩
  · split
    · split
      · exact ⟨_, _, fun K => (and_assoc (a := _ ≤ _)).symm⟩
      · exact ⟨False, undefA, fun K => ⟨fun h => h.elim, fun h => h.1.elim⟩⟩
    · exact ⟨False, undefA, fun K => ⟨fun h => h.elim, fun h => h.1.elim⟩⟩
  · split
    · split
      · exact ⟨_, _, fun K => (and_assoc (a := _ ≤ _)).symm⟩
      · exact ⟨False, undefA, fun K => ⟨fun h => h.elim, fun h => h.1.elim⟩⟩
    · exact ⟨False, undefA, fun K => ⟨fun h => h.elim, fun h => h.1.elim⟩⟩
  · split
    · split
      · exact ⟨_, _, fun K => (and_assoc (a := _ ≤ _)).symm⟩
      · exact ⟨False, undefA, fun K => ⟨fun h => h.elim, fun h => h.1.elim⟩⟩
    · exact ⟨False, undefA, fun K => ⟨fun h => h.elim, fun h => h.1.elim⟩⟩
  · exact ⟨False, undefA, fun K => ⟨fun h => h.elim, fun h => h.1.elim⟩⟩
/-- One that does not look at the store. -/
theorem still_iff {ev : Operand → AV} {op : Op} (hc : still op = true) : ∃ (p : Prop) (v : AV), ∀ s (K : AV → Sto → Prop), dstep P Γ ev s op K ↔ p ∧ K v s := by
  cases op <;> try cases hc
  case move x => exact ⟨True, ev x, fun s K => by dsimp only [dstep, astep, aval]; rw [frc_eq]; exact ⟨fun h => ⟨trivial, h⟩, fun h => h.2⟩⟩
  case assign x => exact ⟨True, ev x, fun s K => by dsimp only [dstep, astep, aval]; rw [frc_eq]; exact ⟨fun h => ⟨trivial, h⟩, fun h => h.2⟩⟩
  case indexAddr t x i =>
    dsimp only [dstep, astep, aval]
    cases ev i <;> try exact ⟨False, undefA, fun s K => ⟨fun h => h.elim, fun h => h.1.elim⟩⟩
    rename_i k n
    obtain ⟨p, v, h⟩ := indexAddr_fn (P := P) t (ev x) n
    exact ⟨p, v, fun s K => h fun v => K v s⟩
  case binOp op t x y yt =>
    have key : (op = .add ∨ op = .sub) → ∃ (p : Prop) (v : AV), ∀ s (K : AV → Sto → Prop), dstep P Γ ev s (.binOp op t x y yt) K ↔ p ∧ K v s := by
      dsimp only [dstep, astep, aval]
      generalize ev x = a
      generalize ev y = b
      rintro (rfl | rfl) <;> cases a <;> cases b <;> first
        | exact ⟨False, undefA, fun s K => ⟨fun h => h.elim, fun h => h.1.elim⟩⟩
        | exact ⟨_, _, fun s K => chk_iff⟩
        | exact ⟨_, _, fun s K => Iff.rfl⟩
    refine key ?_
    cases op <;> first | exact .inl rfl | exact .inr rfl | cases hc
  case call c =>
    obtain ⟨callee, args, ts⟩ := c
    cases callee with
    | builtin b =>
      have hb : b = .len ∨ b = .max := by
        cases b <;> first | exact .inl rfl | exact .inr rfl | cases hc
      rcases hb with rfl | rfl
      case inr =>
        have two : ∃ x y, args.toList = [x, y] := by
          cases ha : args.toList with
          | nil => simp [still, ha] at hc
          | cons x more =>
            cases more with
            | nil => simp [still, ha] at hc
            | cons y more =>
              cases more with
              | nil => exact ⟨x, y, rfl⟩
              | cons _ _ => simp [still, ha] at hc
        obtain ⟨x, y, heq2⟩ := two
        dsimp only [dstep, astep, aval]
        rw [heq2]
        simp only [List.map_cons, List.map_nil]
        cases ev x <;> cases ev y <;> first
          | exact ⟨False, undefA, fun s K => ⟨fun h => h.elim, fun h => h.1.elim⟩⟩
          | exact ⟨True, _, fun s K => ⟨fun h => ⟨trivial, h⟩, fun h => h.2⟩⟩
      have one : ∃ x, args.toList = [x] := by
        cases ha : args.toList with
        | nil => simp [still, ha] at hc
        | cons x more =>
          cases more with
          | nil => exact ⟨x, rfl⟩
          | cons _ _ => simp [still, ha] at hc
      obtain ⟨x, heq2⟩ := one
      have never : (∀ s (K : AV → Sto → Prop), ¬ abuiltin P .len ts.toList (args.toList.map ev) fun v => K v s) → ∃ (p : Prop) (v : AV), ∀ s (K : AV → Sto → Prop), dstep P Γ ev s (.call ⟨.builtin .len, args, ts⟩) K ↔ p ∧ K v s :=
        fun h => ⟨False, undefA, fun s K => ⟨fun hh => absurd hh (h s K), fun hh => hh.1.elim⟩⟩
      have some' : ∀ (p : Prop) (v : AV), (∀ s (K : AV → Sto → Prop), abuiltin P .len ts.toList (args.toList.map ev) (fun v => K v s) ↔ p ∧ K v s) → ∃ (p : Prop) (v : AV), ∀ s (K : AV → Sto → Prop), dstep P Γ ev s (.call ⟨.builtin .len, args, ts⟩) K ↔ p ∧ K v s :=
        fun p v h => ⟨p, v, h⟩
      rw [heq2] at never some'
      cases hts : ts.toList with
      | nil => exact never fun s K h => by rw [hts] at h; exact h
      | cons t more =>
        cases more with
        | cons _ _ => exact never fun s K h => by rw [hts] at h; simp [abuiltin] at h
        | nil =>
          rw [hts] at never some'
          cases hx : ev x <;> simp only [List.map_cons, List.map_nil, hx] at never some'
          case str l => exact some' _ _ fun s K => chk_iff
          case slice tk es => exact some' _ _ fun s K => chk_iff
          case raw a n c => exact some' _ _ fun s K => chk_iff
          all_goals exact never fun s K h => by simp [abuiltin] at h
    | _ => cases hc

theorem set_comm {s : Sto} {b1 b2 : Nat} {T1 T2 : TypeId} {c1 c2 : List AV} (h : b1 ≠ b2) : (s.set b1 T1 c1).set b2 T2 c2 = (s.set b2 T2 c2).set b1 T1 c1 := by
  simp only [Sto.set, Sto.mk.injEq, and_true]
  funext i
  by_cases h2 : i = b2
  · subst h2; rw [if_pos rfl, if_neg (fun h' => h h'.symm), if_pos rfl]
  · rw [if_neg h2, if_neg h2]

theorem swap {ops : Array Oper} {o1 o2 : Oper} (hi : indep ops o1 o2 = true) {e : Env} {s : Sto} {K : Env → Sto → Prop}
    (h : Tr P Γ ops o1 e s fun v1 s1 => Tr P Γ ops o2 (updO e o1.dst v1) s1 fun v2 s2 => K (updO (updO e o1.dst v1) o2.dst v2) s2) :
    Tr P Γ ops o2 e s fun v2 s2 => Tr P Γ ops o1 (updO e o2.dst v2) s2 fun v1 s1 => K (updO (updO e o2.dst v2) o1.dst v1) s1 := by
  unfold indep at hi
  simp only [Bool.and_eq_true] at hi
  obtain ⟨⟨⟨i1, i2⟩, i3⟩, i4⟩ := hi
  have a1 : ∀ v, Agree ops o2 (updO e o1.dst v) e := fun v => agree_symm (agree_upd i1 e v)
  have a2 : ∀ v, Agree ops o1 e (updO e o2.dst v) := fun v => agree_upd i2 e v
  split at i4
  · rename_i hc1 hc2
    obtain ⟨v1, h1, h2, _⟩ := Tr_det hc1 h
    obtain ⟨v2, k1, k2, _⟩ := Tr_det hc2 h1
    refine (k2.move hc2 (a1 v1) (Sub.refl s)).use ?_
    refine (h2.move hc1 (a2 v2) (Sub.refl s)).use ?_
    rw [← updO_comm i3]; exact k1
  · rename_i hc1 hc2
    obtain ⟨v1, h1, h2, _⟩ := Tr_det hc1 h
    have hg := Option.isNone_iff_eq_none.1 i4
    have h1 := Tr_congr (by rw [hc2]; decide) (a1 v1) h1
    unfold Tr at h1 ⊢
    rw [hg] at h1 ⊢
    simp only [wantA] at h1 ⊢
    obtain ⟨p, mk, T, cs, hn⟩ := new_iff (P := P) (Γ := Γ) (ev := evA Γ e) hc2
    rw [hn] at h1 ⊢
    refine ⟨h1.1, fun b hb => ?_⟩
    have hs : Sub s (s.set b T cs) := (Sub.refl s).new hb T cs
    refine (h2.move hc1 (a2 _) hs).use ?_
    rw [← updO_comm i3]; exact h1.2 b hb
  · rename_i hc1 hc2
    simp only [Bool.and_eq_true] at i4
    have hg1 := Option.isNone_iff_eq_none.1 i4.1.1
    have hg2 := Option.isNone_iff_eq_none.1 i4.1.2
    have step : ∀ (o : Oper) (hg : o.guard = none) (e' : Env) (s' : Sto) (K' : AV → Sto → Prop), Tr P Γ ops o e' s' K' ↔ dstep P Γ (evA Γ e') s' o.op K' := fun o hg e' s' K' => by unfold Tr; rw [hg]; exact Iff.rfl
    rw [step o1 hg1] at h
    rw [step o2 hg2]
    obtain ⟨p, mk, T, cs, hn⟩ := new_iff (P := P) (Γ := Γ) (ev := evA Γ e) hc1
    rw [hn] at h
    obtain ⟨q, v, hv⟩ := still_iff (P := P) (Γ := Γ) (ev := evA Γ e) i4.2
    rw [hv]
    have key : ∀ b, s.bx b = none → q ∧ K (updO (updO e o1.dst (mk b)) o2.dst v) (s.set b T cs) := fun b hb => by
      have := Tr_congr (by rw [hc2]; decide) (a1 _) (h.2 b hb)
      rw [step o2 hg2, hv] at this
      exact this
    obtain ⟨b0, hb0⟩ := s.fresh
    refine ⟨(key b0 hb0).1, ?_⟩
    refine Tr_congr (by rw [hc1]; decide) (a2 _) ?_
    rw [step o1 hg1, hn]
    refine ⟨h.1, fun b hb => ?_⟩
    rw [← updO_comm i3]
    exact (key b hb).2
  · rename_i hc1 hc2
    simp only [Bool.and_eq_true] at i4
    have hg1 := Option.isNone_iff_eq_none.1 i4.1
    have hg2 := Option.isNone_iff_eq_none.1 i4.2
    have step : ∀ (o : Oper) (hg : o.guard = none) (e' : Env) (s' : Sto) (K' : AV → Sto → Prop), Tr P Γ ops o e' s' K' ↔ dstep P Γ (evA Γ e') s' o.op K' := fun o hg e' s' K' => by unfold Tr; rw [hg]; exact Iff.rfl
    rw [step o1 hg1] at h
    rw [step o2 hg2]
    obtain ⟨p1, mk1, T1, cs1, hn1⟩ := new_iff (P := P) (Γ := Γ) (ev := evA Γ e) hc1
    rw [hn1] at h
    obtain ⟨p2, mk2, T2, cs2, hn2⟩ := new_iff (P := P) (Γ := Γ) (ev := evA Γ e) hc2
    rw [hn2]
    have key : ∀ b1, s.bx b1 = none → p2 ∧ ∀ b2, (s.set b1 T1 cs1).bx b2 = none → K (updO (updO e o1.dst (mk1 b1)) o2.dst (mk2 b2)) ((s.set b1 T1 cs1).set b2 T2 cs2) := fun b1 hb1 => by
      have := Tr_congr (by rw [hc2]; decide) (a1 _) (h.2 b1 hb1)
      rw [step o2 hg2, hn2] at this
      exact this
    obtain ⟨b0, hb0⟩ := s.fresh
    refine ⟨(key b0 hb0).1, fun b2 hb2 => ?_⟩
    refine Tr_congr (by rw [hc1]; decide) (a2 _) ?_
    rw [step o1 hg1, hn1]
    refine ⟨h.1, fun b1 hb1 => ?_⟩
    obtain ⟨hne, hb1'⟩ := none_set hb1
    have := (key b1 hb1').2 b2 (by rw [set_bx_other (fun h => hne h.symm)]; exact hb2)
    rw [updO_comm i3, set_comm hne] at this
    exact this
  · rename_i hc1 hc2
    simp only [Bool.and_eq_true] at i4
    have hg1 := Option.isNone_iff_eq_none.1 i4.1
    have step : ∀ (o : Oper) (hg : o.guard = none) (e' : Env) (s' : Sto) (K' : AV → Sto → Prop), Tr P Γ ops o e' s' K' ↔ dstep P Γ (evA Γ e') s' o.op K' := fun o hg e' s' K' => by unfold Tr; rw [hg]; exact Iff.rfl
    rw [step o1 hg1] at h
    obtain ⟨q, v, hv⟩ := still_iff (P := P) (Γ := Γ) (ev := evA Γ e) i4.2.1
    rw [hv] at h
    refine Tr_mono (Tr_congr_store i4.2.2 (a1 v) h.2) fun v2 s2 hk => ?_
    refine Tr_congr (by rw [hc1]; decide) (a2 _) ?_
    rw [step o1 hg1, hv]
    refine ⟨h.1, ?_⟩
    rw [← updO_comm i3]
    exact hk
  · cases i4
end
end Go.Ab
