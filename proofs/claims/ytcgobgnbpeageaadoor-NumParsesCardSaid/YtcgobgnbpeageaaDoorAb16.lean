/- Operations that give one value whatever is behind them; regions whose order is open. -/
import Derived.Test.YtcgobgnbpeageaaDoorAb15
set_option linter.all false
namespace Go.Ab
open Go

/-- It gives one value, and does not look at what is behind it. -/
def Det (T : (AV → Prop) → Prop) : Prop := ∀ K, T K → ∃ v, K v ∧ ∀ K', K' v → T K'
def DetB (T : (Bool → Prop) → Prop) : Prop := ∀ K, T K → ∃ v, K v ∧ ∀ K', K' v → T K'
def DetN {α : Type} (T : (α → Prop) → Prop) : Prop := ∀ K, T K → ∃ v, K v ∧ ∀ K', K' v → T K'

section
variable {P : Program}

theorem Det.frc (v : AV) : Det (Ab.frc v) := fun K h => by
  rw [frc_eq] at h
  exact ⟨v, h, fun K' h' => by rw [frc_eq]; exact h'⟩
theorem Det.chk {b : Bool} {T : (AV → Prop) → Prop} (h : Det T) : Det fun K => Ab.chk b (T K) := fun K hk => by
  obtain ⟨hb, hk⟩ := chk_iff.1 hk
  obtain ⟨v, h1, h2⟩ := h K hk
  exact ⟨v, h1, fun K' h' => chk_iff.2 ⟨hb, h2 K' h'⟩⟩
theorem Det.val (v : AV) : Det fun K => K v := fun _ h => ⟨v, h, fun _ h' => h'⟩
theorem Det.cond {p : Prop} {T : (AV → Prop) → Prop} (h : Det T) : Det fun K => p ∧ T K := fun K hk => by
  obtain ⟨v, h1, h2⟩ := h K hk.2
  exact ⟨v, h1, fun K' h' => ⟨hk.1, h2 K' h'⟩⟩
theorem Det.none : Det fun _ => False := fun _ h => h.elim
theorem Det.brA {b : Bool} {T U : (AV → Prop) → Prop} (h : Det T) (k : Det U) : Det fun K => Ab.brA b (T K) (U K) := by
  cases b
  · exact k
  · exact h
theorem DetB.val (v : Bool) : DetB fun K => K v := fun _ h => ⟨v, h, fun _ h' => h'⟩
theorem DetB.none : DetB fun _ => False := fun _ h => h.elim
theorem DetB.chk {b : Bool} {T : (Bool → Prop) → Prop} (h : DetB T) : DetB fun K => Ab.chk b (T K) := fun K hk => by
  obtain ⟨hb, hk⟩ := chk_iff.1 hk
  obtain ⟨v, h1, h2⟩ := h K hk
  exact ⟨v, h1, fun K' h' => chk_iff.2 ⟨hb, h2 K' h'⟩⟩

theorem eqLeaf_det (k : Nat) (x y : AV) : DetB (eqLeaf k x y) := by
  cases x <;> cases y <;> first | exact DetB.none | exact DetB.chk (DetB.val _)
theorem eqPlan_det : ∀ (l : List (Nat × Nat)) (xs ys : List AV), DetB (eqPlan l xs ys)
  | [], _, _ => DetB.val true
  | (o, k) :: l, xs, ys => fun K h => by
    obtain ⟨r, h1, h2⟩ := eqLeaf_det k _ _ _ h
    obtain ⟨q, k1, k2⟩ := eqPlan_det l xs ys _ h1
    exact ⟨r && q, k1, fun K' h' => h2 _ (k2 (fun q => K' (r && q)) h')⟩
theorem aeq_det (t : TypeId) (x y : AV) : DetB (aeq P t x y) := by
  cases x <;> cases y <;> try exact DetB.none
  case int.int => exact DetB.chk (DetB.val _)
  case str.str => exact DetB.val _
  case bool.bool => exact DetB.chk (DetB.val _)
  case ptr.ptr a b =>
    cases b with
    | none => cases a <;> exact DetB.chk (DetB.val _)
    | some b => cases a <;> exact DetB.none
  case ptr.cptr a cs =>
    cases a with
    | none => exact DetB.chk (DetB.val _)
    | some a => exact DetB.none
  case cptr.ptr cs a =>
    cases a with
    | none => exact DetB.chk (DetB.val _)
    | some a => exact DetB.none
  case nilIface.iface => exact DetB.chk (DetB.val _)
  case iface.nilIface => exact DetB.chk (DetB.val _)
  case agg.agg xs ys =>
    intro K h
    obtain ⟨h⟩ : EqAgg P t xs ys K := h
    obtain ⟨hg, h⟩ := chk_iff.1 h
    cases hp : planT P 9999 t with
    | none => rw [hp] at h; exact h.elim
    | some l =>
      rw [hp] at h
      obtain ⟨v, h1, h2⟩ := eqPlan_det l xs ys K h
      exact ⟨v, h1, fun K' h' => EqAgg.of hg hp (h2 K' h')⟩
theorem abin_det (op : BinOp) (x y : AV) : Det (abin op x y) := by
  cases x <;> cases y <;> try exact Det.none
  · cases op <;> first | exact Det.chk (Det.val _) | exact Det.cond (Det.val _) | exact Det.chk (Det.cond (Det.val _))
  · cases op <;> first | exact Det.val _ | exact Det.none | exact Det.cond (Det.val _)
theorem abinop_det (op : BinOp) (t : TypeId) (x y : AV) : Det (abinop P op t x y) := by
  cases op
  case eql =>
    intro K h
    obtain ⟨r, h1, h2⟩ := aeq_det t x y _ h
    exact ⟨_, h1, fun K' h' => h2 (fun r => K' (.bool r)) h'⟩
  case neq =>
    intro K h
    obtain ⟨r, h1, h2⟩ := aeq_det t x y _ h
    exact ⟨_, h1, fun K' h' => h2 (fun r => K' (.bool (!r))) h'⟩
  all_goals (unfold abinop; exact abin_det _ x y)
theorem aun_det (op : UnOp) (x : AV) : Det (aun op x) := by
  cases op <;> cases x <;> first | exact Det.none | exact Det.val _
theorem frcL_det {f : List AV → AV} (cs : List AV) : Det fun K => frcL cs fun l => K (f l) := fun K h => by
  simp only [frcL_eq] at h
  exact ⟨_, h, fun K' h' => by simp only [frcL_eq]; exact h'⟩
theorem boundA_det (lo : Option AV) (d : Nat) : DetN (boundA lo d) := by
  cases lo with
  | none => exact fun K h => ⟨d, h, fun _ h' => h'⟩
  | some v =>
    cases v <;> first | exact fun _ h => h.elim | skip
    exact fun K h => ⟨_, h.2, fun _ h' => ⟨h.1, h'⟩⟩
theorem Det.bound (lo : Option AV) (d : Nat) {f : Nat → (AV → Prop) → Prop} (hf : ∀ n, Det (f n)) : Det fun K => boundA lo d fun n => f n K := fun K hk => by
  obtain ⟨b, h1, h2⟩ := boundA_det lo d _ hk
  obtain ⟨v, k1, k2⟩ := hf b K h1
  exact ⟨v, k1, fun K' h' => h2 _ (k2 K' h')⟩
theorem Det.getB (x : Option (TypeId × List AV)) {f : TypeId → List AV → (AV → Prop) → Prop} (hf : ∀ T cs, Det (f T cs)) : Det fun K => Ab.getB x fun T cs => f T cs K := by
  match x with
  | Option.none => exact Det.none
  | some (T, cs) => exact hf T cs
theorem aload_det (t : TypeId) (cs : List AV) : Det (aload P t cs) := by
  unfold aload
  cases shapeT P t with
  | none => exact Det.none
  | some sh =>
    cases sh with
    | some n => exact Det.cond (frcL_det _)
    | none =>
      cases cs with
      | nil => exact Det.none
      | cons c cs => exact Det.frc c
theorem aslice_det (t : TypeId) (x : AV) (lo hi mx : Option AV) : Det (aslice P t x lo hi mx) := by
  cases x <;> try exact Det.none
  case str l => exact Det.chk (Det.bound _ _ fun _ => Det.bound _ _ fun _ => Det.cond (Det.cond (Det.val _)))
  case slice tk es =>
    unfold aslice
    dsimp only
    cases sliceT P t with
    | none => exact Det.none
    | some e =>
      dsimp only
      cases sizeT P e with
      | none => exact Det.none
      | some k =>
        cases mx with
        | none => exact Det.bound _ _ fun _ => Det.bound _ _ fun _ => Det.cond (Det.cond (Det.cond (Det.val _)))
        | some m => exact Det.chk (Det.bound _ _ fun _ => Det.bound _ _ fun _ => Det.bound _ _ fun _ => Det.cond (Det.cond (Det.cond (Det.cond (Det.val _)))))
  case raw a len cap =>
    match a with
    | none => exact Det.none
    | some ⟨b, o, some _⟩ => exact Det.none
    | some ⟨b, o, Option.none⟩ =>
      unfold aslice
      dsimp only
      cases sliceT P t with
      | none => exact Det.none
      | some e =>
        dsimp only
        cases sizeT P e with
        | none => exact Det.none
        | some k => exact Det.chk (Det.bound _ _ fun _ => Det.bound _ _ fun _ => Det.cond (Det.cond (Det.val _)))
  case cptr cs =>
    unfold aslice
    dsimp only
    cases arrT P t with
    | none => exact Det.none
    | some ne =>
      obtain ⟨n, e⟩ := ne
      dsimp only
      cases sizeT P e with
      | none => exact Det.none
      | some k => exact Det.chk (Det.bound _ _ fun _ => Det.bound _ _ fun _ => Det.cond (Det.cond (Det.cond (Det.val _))))
  case ptr a =>
    match a with
    | none => exact Det.none
    | some ⟨b, o, some _⟩ => exact Det.none
    | some ⟨b, o, Option.none⟩ =>
      unfold aslice
      dsimp only
      cases arrT P t with
      | none => exact Det.none
      | some ne =>
        obtain ⟨n, e⟩ := ne
        dsimp only
        cases sizeT P e with
        | none => exact Det.none
        | some k => exact Det.chk (Det.bound _ _ fun _ => Det.bound _ _ fun _ => Det.cond (Det.cond (Det.val _)))
theorem aindexAddr_det (t : TypeId) (x : AV) (n : Int) : Det (aindexAddr P t x n) := by
  cases x <;> try exact Det.none
  case slice tk es =>
    unfold aindexAddr
    dsimp only
    cases sliceT P t with
    | none => exact Det.none
    | some e =>
      dsimp only
      cases sizeT P e with
      | none => exact Det.none
      | some k => exact Det.cond (Det.cond (Det.cond (frcL_det _)))
  case raw a len cap =>
    match a with
    | none => exact Det.none
    | some ⟨b, o, some _⟩ => exact Det.none
    | some ⟨b, o, Option.none⟩ =>
      unfold aindexAddr
      dsimp only
      cases sliceT P t with
      | none => exact Det.none
      | some e =>
        dsimp only
        cases sizeT P e with
        | none => exact Det.none
        | some k => exact Det.cond (Det.cond (Det.val _))
  case cptr cs =>
    unfold aindexAddr
    dsimp only
    cases arrT P t with
    | none => exact Det.none
    | some ne =>
      obtain ⟨n, e⟩ := ne
      dsimp only
      cases sizeT P e with
      | none => exact Det.none
      | some k => exact Det.cond (Det.cond (Det.val _))
  case ptr a =>
    match a with
    | none => exact Det.none
    | some ⟨b, o, some _⟩ => exact Det.none
    | some ⟨b, o, Option.none⟩ =>
      unfold aindexAddr
      dsimp only
      cases arrT P t with
      | none => exact Det.none
      | some ne =>
        obtain ⟨n, e⟩ := ne
        dsimp only
        cases sizeT P e with
        | none => exact Det.none
        | some k => exact Det.cond (Det.cond (Det.val _))
theorem aconv_det (s : Sto) (src dst : TypeId) (x : AV) : Det (aconv P s src dst x) := by
  unfold aconv
  cases P.underlying src with
  | none => exact Det.none
  | some ds =>
    cases P.underlying dst with
    | none => cases ds <;> exact Det.none
    | some dd =>
      split
      · exact Det.val _
      · exact Det.val _
      · refine Det.chk ?_
        rename_i es _ _
        cases unB es with
        | none => exact Det.none
        | some l => exact Det.val _
      · refine Det.chk (Det.getB _ fun T cs => Det.cond ?_)
        rename_i o len _ _ _
        cases unB (chunks 1 len (cs.drop o)) with
        | none => exact Det.none
        | some l => exact Det.val _
      · exact Det.none
theorem afill_det (t : TypeId) {f : List AV → AV} : ∀ (parts : List (Nat × AV)) (cs : List AV), Det fun K => afill P t cs parts fun l => K (f l)
  | [], cs => frcL_det cs
  | (i, v) :: rest, cs => by
    unfold afill
    cases placeT P t i with
    | none => exact Det.none
    | some x => exact Det.cond (Det.cond (afill_det t rest _))
theorem abuild_det (t : TypeId) (parts : List (Nat × AV)) : Det (abuild P t parts) := by
  unfold abuild
  refine Det.chk ?_
  cases zeroT P t with
  | none => exact Det.none
  | some z => exact afill_det t parts z
theorem pickA_det (t : Bool) (x y : AV) : Det (pickA t x y) := by
  cases x <;> cases y <;> first | exact Det.val _ | exact Det.brA (Det.frc _) (Det.frc _)
theorem abuiltin_det (b : Builtin) (ts : List TypeId) (xs : List AV) : Det (abuiltin P b ts xs) := by
  unfold abuiltin
  split <;> first | exact Det.none | exact Det.val _ | exact Det.chk (Det.val _)

theorem aval_det (ev : Operand → AV) (s : Sto) (op : Op) : Det (aval P ev s op) := by
  cases op <;> try exact Det.none
  case move x => exact Det.frc _
  case assign x => exact Det.frc _
  case pick c a b =>
    show Det fun K => asB (ev c) fun t => pickA t (ev a) (ev b) K
    cases ev c <;> first | exact Det.none | exact pickA_det _ _ _
  case binOp op t x y yt => exact abinop_det _ _ _ _
  case unOp op t x => exact aun_det _ _
  case convert src dst x => exact aconv_det _ _ _ _
  case makeInterface t x =>
    refine Det.chk (T := fun K => frc (ev x) fun v => K (.iface t v)) (fun K h => ?_)
    simp only [frc_eq] at h
    exact ⟨_, h, fun K' h' => by simp only [frc_eq]; exact h'⟩
  case makeFunc fn first captured => exact Det.val _
  case fieldAddr t x f =>
    show Det fun K => aval P ev s (.fieldAddr t x f) K
    unfold aval
    dsimp only
    cases fieldT P t f with
    | none => exact Det.none
    | some o =>
      dsimp only
      cases ev x <;> try exact Det.none
      · rename_i a
        match a with
        | none => exact Det.none
        | some ⟨b, o, some _⟩ => exact Det.none
        | some ⟨b, o, Option.none⟩ => exact Det.val _
      · exact frcL_det _
  case indexAddr t x i =>
    show Det fun K => asI (ev i) fun _ n => aindexAddr P t (ev x) n K
    cases ev i <;> first | exact Det.none | exact aindexAddr_det _ _ _
  case index t x i =>
    show Det fun K => aval P ev s (.index t x i) K
    unfold aval
    dsimp only
    cases ev i <;> try exact Det.none
    show Det fun K => match ev x with
      | .str l => _
      | _ => False
    cases ev x <;> try exact Det.none
    exact Det.chk (Det.cond (Det.cond (Det.val _)))
  case slice t x lo hi mx => exact aslice_det _ _ _ _ _
  case nilCheck x =>
    show Det fun K => aval P ev s (.nilCheck x) K
    unfold aval
    dsimp only
    cases ev x <;> try exact Det.none
    · rename_i a; cases a <;> first | exact Det.none | exact Det.val _
    · exact Det.val _
    · exact Det.val _
    · rename_i fn _ _; cases fn <;> first | exact Det.none | exact Det.val _
  case extract x i =>
    show Det fun K => aval P ev s (.extract x i) K
    unfold aval
    dsimp only
    cases ev x <;> try exact Det.none
    rename_i vs
    dsimp only
    cases vs[i]? with
    | none => exact Det.none
    | some v => exact Det.frc v
  case build t parts => exact abuild_det _ _
  case load t x =>
    show Det fun K => aval P ev s (.load t x) K
    unfold aval
    dsimp only
    cases ev x <;> try exact Det.none
    · rename_i a
      match a with
      | none => exact Det.none
      | some ⟨b, o, some _⟩ => exact Det.none
      | some ⟨b, o, Option.none⟩ => exact Det.getB _ fun T cs => aload_det _ _
    · exact aload_det _ _
  case call c =>
    show Det fun K => aval P ev s (.call c) K
    unfold aval
    dsimp only
    cases c.callee <;> first | exact Det.none | exact abuiltin_det _ _ _
end
end Go.Ab
