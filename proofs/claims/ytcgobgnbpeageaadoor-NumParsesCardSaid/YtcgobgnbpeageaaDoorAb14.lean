/- From a body's walk to what a call does. -/
import Derived.Test.YtcgobgnbpeageaaDoorAb13
set_option linter.all false
namespace Go.Ab
open Go

/-- All that s has, s' has. -/
structure Sub (s s' : Sto) : Prop where
  bx : ∀ b x, s.bx b = some x → s'.bx b = some x
  lv : ∀ t e k, s.lv t e k → s'.lv t e k

theorem Sub.refl (s : Sto) : Sub s s := ⟨fun _ _ h => h, fun _ _ _ h => h⟩
theorem Sub.trans {a b c : Sto} (h : Sub a b) (k : Sub b c) : Sub a c := ⟨fun x y hx => k.bx x y (h.bx x y hx), fun t e m hx => k.lv t e m (h.lv t e m hx)⟩
theorem Sub.none {s s' : Sto} (h : Sub s s') {b : Nat} (hb : s'.bx b = none) : s.bx b = none := by
  cases hx : s.bx b with
  | none => rfl
  | some x => rw [h.bx b x hx] at hb; cases hb
theorem Sub.set {s s' : Sto} (h : Sub s s') {b : Nat} (hb : s.bx b = Option.none) (T : TypeId) (cs : List AV) : Sub s (s'.set b T cs) :=
  ⟨fun c x hx => by
    simp only [Sto.set]
    split
    · rename_i hc; subst hc; rw [hb] at hx; cases hx
    · exact h.bx c x hx, h.lv⟩
theorem Sub.new {s s' : Sto} (h : Sub s s') {b : Nat} (hb : s'.bx b = Option.none) (T : TypeId) (cs : List AV) : Sub s (s'.set b T cs) := h.set (h.none hb) T cs
theorem Sub.grow {s s' : Sto} (h : Sub s s') {t : Nat} (ht : t = 1 ∨ ∀ e k, ¬ s.lv t e k) (t' : Nat) (e : TypeId) (k : Nat) : Sub s (s'.grow t t' e k) :=
  ⟨h.bx, fun u e' k' hu => .inr ⟨h.lv u e' k' hu, by
    rcases ht with ht | ht
    · exact .inr ht
    · refine .inl ?_
      rintro rfl
      exact ht _ _ hu⟩⟩

theorem Mod.sub {Γ : Nat → AV} {G : Gh} {s s' : Sto} {w : World} (hm : Mod Γ G s' w) (h : Sub s s') : Mod Γ G s w :=
  ⟨hm.glob, fun b T cs hb => hm.box b T cs (h.bx b _ hb), hm.dom, fun t e k ht => hm.live t e k (h.lv t e k ht),
    fun t u b e k e' k' ht hu h1 h2 => hm.apart t u b e k e' k' (h.lv _ _ _ ht) (h.lv _ _ _ hu) h1 h2, hm.fin⟩

def resOne (P : Program) (r : ResultVar) (e : Env) (s : Sto) (K : AV → Prop) : Prop :=
  match r with
  | .tmp t => frc (e t) K
  | .cell a T =>
    match e a with
    | .cptr cs => aload P T cs K
    | .ptr (some ⟨b, o, none⟩) => getB (s.bx b) fun _ cs => aload P T (cs.drop o) K
    | _ => False
def resAll (P : Program) : List ResultVar → Env → Sto → (List AV → Prop) → Prop
  | [], _, _, K => K []
  | r :: rs, e, s, K => resOne P r e s fun v => resAll P rs e s fun vs => K (v :: vs)
def tupA : List AV → AV
  | [v] => v
  | vs => .tuple vs

/-- The results are such that φ holds. -/
def retA (P : Program) (rs : Array ResultVar) (φ : AV → Sto → Prop) : Exit → Env → Sto → Prop
  | .normal, e, s | .ret, e, s => resAll P rs.toList e s fun vs => φ (tupA vs) s
  | _, _, _ => False

def argsA (args : List AV) : Env := fun i => args.getD i undefA

section
variable {P : Program} {Γ : Nat → AV} {n : Nat}

theorem resOne_ok {G : Gh} {w : World} {e : Env} {s : Sto} {a : Act} (hm : Mod Γ G s w) (he : EnvR G w n e a) {r : ResultVar} {K : AV → Prop} (h : resOne P r e s K) :
    ∃ v x, ((match r with | .tmp t => pure (a.tmps.getD t undef) | .cell b t => do loadVar t (← asAddr (a.tmps.getD b undef))) : Sem Value).run P w = .ok v w ∧ K x ∧ R G w x v := by
  cases r with
  | tmp t =>
    have h : frc (e t) K := h
    rw [frc_eq] at h
    exact ⟨_, _, rfl, h, he.at_ t⟩
  | cell b t =>
    have hx := he.at_ b
    simp only [resOne] at h
    split at h
    · rename_i cs hv
      rw [hv] at hx
      obtain ⟨c, o, hx, hc⟩ := R_cptr.1 hx
      obtain ⟨us, _, hr, hcell⟩ := RCells_get cs c o hc
      obtain ⟨z, r, h1, hk, hr⟩ := run_loadVar_of (P := P) h hr hcell
      exact ⟨z, r, by simp [hx, asAddr, h1], hk, hr⟩
    · rename_i c o hv
      rw [hv, R_ptr] at hx
      obtain ⟨T, cs, hb, h⟩ := getB_iff h
      obtain ⟨us, hr, hcell⟩ := box_cells hm hb
      obtain ⟨z, r, h1, hk, hr⟩ := run_loadVar_of (P := P) (b := c) (o := o) h (RList_drop o hr) (fun i v hi => by rw [hcell]; rw [List.getElem?_drop] at hi; exact hi)
      exact ⟨z, r, by simp [hx, asAddr, h1], hk, hr⟩
    · exact h.elim

theorem resAll_ok {G : Gh} {w : World} {e : Env} {s : Sto} {a : Act} (hm : Mod Γ G s w) (he : EnvR G w n e a) : ∀ {rs : List ResultVar} {K : List AV → Prop}, resAll P rs e s K →
    ∃ vs xs, (rs.mapM fun (r : ResultVar) => ((match r with | .tmp t => pure (a.tmps.getD t undef) | .cell b t => do loadVar t (← asAddr (a.tmps.getD b undef))) : Sem Value)).run P w = .ok vs w ∧ K xs ∧ RList G w xs vs
  | [], K, h => ⟨[], [], rfl, h, RList_nil.2 rfl⟩
  | r :: rs, K, h => by
    obtain ⟨v, x, h1, h2, h3⟩ := resOne_ok hm he h
    obtain ⟨vs, xs, k1, k2, k3⟩ := resAll_ok hm he h2
    refine ⟨v :: vs, x :: xs, ?_, k2, RList_cons.2 ⟨v, vs, rfl, h3, k3⟩⟩
    rw [List.mapM_cons]
    simp only [Sem.run_bind, h1, Result.andThen_ok, k1, Sem.run_pure]

theorem results_ok {G : Gh} {w : World} {e : Env} {s : Sto} {a : Act} (hm : Mod Γ G s w) (he : EnvR G w n e a) {fn : Func} {K : AV → Prop} (h : resAll P fn.results.toList e s fun vs => K (tupA vs)) :
    ∃ v x, (results fn a.tmps).run P w = .ok v w ∧ K x ∧ R G w x v := by
  obtain ⟨vs, xs, h1, h2, h3⟩ := resAll_ok hm he h
  have hm' : (fn.results.mapM fun (r : ResultVar) => ((match r with | .tmp t => pure (a.tmps.getD t undef) | .cell b t => do loadVar t (← asAddr (a.tmps.getD b undef))) : Sem Value)).run P w = .ok vs.toArray w := by
    rw [← Array.toArray_toList (xs := fn.results), List.mapM_toArray, Sem.run_map, h1]
    rfl
  have hres : (results fn a.tmps).run P w = .ok (if h : vs.toArray.size = 1 then vs.toArray[0] else .tuple vs.toArray) w := by
    unfold results
    rw [Sem.run_bind]
    refine Eq.trans (congrArg (fun r : Result (Array Value) => r.andThen _) hm') ?_
    rfl
  refine ⟨_, _, hres, h2, ?_⟩
  match xs, vs, h3 with
  | [], vs, h3 =>
    rw [RList_nil] at h3; subst h3
    exact R_tuple.2 ⟨#[], rfl, RList_nil.2 rfl⟩
  | [x], vs, h3 =>
    obtain ⟨u, us, rfl, hu, hus⟩ := RList_cons.1 h3
    rw [RList_nil] at hus; subst hus
    exact hu
  | x :: y :: xs, vs, h3 =>
    have hl := RList_length h3
    rw [dif_neg (by simp [hl])]
    exact R_tuple.2 ⟨_, rfl, h3⟩

theorem aload_mono {T : TypeId} {cs : List AV} {K K' : AV → Prop} (h : aload P T cs K) (hk : ∀ v, K v → K' v) : aload P T cs K' := by
  unfold aload at *
  split at h
  · refine ⟨h.1, ?_⟩
    have h2 := h.2
    rw [frcL_eq] at h2 ⊢; exact hk _ h2
  · cases cs with
    | nil => exact h.elim
    | cons c cs =>
      have h : frc c K := h
      rw [frc_eq] at h
      show frc c K'
      rw [frc_eq]; exact hk _ h
  · exact h.elim
theorem resOne_mono {r : ResultVar} {e : Env} {s : Sto} {K K' : AV → Prop} (hk : ∀ v, K v → K' v) (h : resOne P r e s K) : resOne P r e s K' := by
  unfold resOne at *
  cases r with
  | tmp t =>
    simp only [frc_eq] at h ⊢; exact hk _ h
  | cell a T =>
    simp only at h ⊢
    split at h
    · exact aload_mono h hk
    · obtain ⟨T, cs, hb, h⟩ := getB_iff h
      rw [hb]; exact aload_mono h hk
    · exact h.elim
theorem resAll_mono : ∀ (rs : List ResultVar) {e : Env} {s : Sto} {K K' : List AV → Prop}, (∀ v, K v → K' v) → resAll P rs e s K → resAll P rs e s K'
  | [], _, _, _, _, hk, h => hk _ h
  | _ :: rs, _, _, _, _, hk, h => resOne_mono (fun _ hv => resAll_mono rs (fun _ hvs => hk _ hvs) hv) h

/-- FROM A BODY'S WALK TO A CALL. -/
theorem ACalls.of_awp {f : FuncId} {fn : Func} {c : Code} {args : List AV} {s : Sto} {φ : AV → Sto → Prop} (hf : P.funcs[f]? = some fn) (hb : fn.body = some c) (hn : args.length ≤ fn.ntmps)
    (h : AWp P Γ fn.ntmps c (retA P fn.results fun v s' => ∃ s'', Sub s'' s' ∧ φ v s'') (argsA args) s) : ACalls P Γ f args s φ := by
  refine ⟨fun G w vs hm hr => ?_⟩
  have hl := RList_length hr
  refine calls_of_wp hf hb ?_
  have he : EnvR G w fn.ntmps (argsA args) { tmps := vs.toArray ++ Array.replicate (fn.ntmps - vs.toArray.size) undef, defers := [] } := by
    refine ⟨by simp; omega, fun i => ?_, rfl⟩
    unfold argsA
    cases ha : args[i]? with
    | some x =>
      obtain ⟨u, hu, hR⟩ := RList_get hr ha
      have : i < vs.length := by
        rcases Nat.lt_or_ge i vs.length with hh | hh
        · exact hh
        · rw [List.getElem?_eq_none hh] at hu; cases hu
      have e1 : (vs.toArray ++ Array.replicate (fn.ntmps - vs.toArray.size) undef).getD i undef = u := by
        rw [Array.getD_eq_getD_getElem?, Array.getElem?_append_left (by simpa using this)]
        simp [hu]
      have e2 : args.getD i undefA = x := by simp [List.getD, ha]
      rw [e1, e2]; exact hR
    | none =>
      have hge : args.length ≤ i := List.getElem?_eq_none_iff.1 ha
      have e1 : (vs.toArray ++ Array.replicate (fn.ntmps - vs.toArray.size) undef).getD i undef = undef := by
        rw [Array.getD_eq_getD_getElem?, Array.getElem?_append_right (by simp; omega)]
        simp only [Array.getElem?_replicate]
        split <;> rfl
      have e2 : args.getD i undefA = undefA := by simp [List.getD, ha]
      rw [e1, e2]; exact R_undef
  refine Code.wp_mono ?_ (h.run G w _ hm he)
  rintro x a' w' ⟨e', s', G', q, hm', he', X⟩
  have done : resAll P fn.results.toList e' s' (fun vs => ∃ s'', Sub s'' s' ∧ φ (tupA vs) s'') →
      a'.defers = [] ∧ ∃ v, (results fn a'.tmps).run P w' = .ok v w' ∧ ∃ v' av s' G', Ending.returned v = .returned v' ∧ φ av s' ∧ R G' w' av v' ∧ Mod Γ G' s' w' ∧ Ext G w G' w' := by
    intro hq
    obtain ⟨v, x, h1, ⟨s'', hsub, hφ⟩, hR⟩ := results_ok hm' he' (K := fun v => ∃ s'', Sub s'' s' ∧ φ v s'') hq
    exact ⟨he'.defers, v, h1, v, x, s'', G', rfl, hφ, hR, hm'.sub hsub, X⟩
  cases x with
  | normal => exact done q
  | ret => exact done q
  | _ => exact q.elim

/-- A function that leaves the store alone. -/
theorem APure.of_awp {f : FuncId} {fn : Func} {c : Code} {args : List AV} {φ : AV → Prop} (hf : P.funcs[f]? = some fn) (hb : fn.body = some c) (hn : args.length ≤ fn.ntmps) (hok : okCode fn.ntmps c = true)
    (h : ∀ s, awp P Γ fn.ntmps c (retA P fn.results fun v s' => Sub s s' ∧ φ v) (argsA args) s) : APure P Γ f args φ := fun s =>
  ACalls.of_awp hf hb hn ((awp_ok c hok (h s)).mono fun x e s' q => by
    cases x <;> first | exact q.elim | skip
    · revert q
      simp only [retA]
      generalize fn.results.toList = l
      exact fun q => resAll_mono l (fun vs ⟨h1, h2⟩ => ⟨s, h1, h2, rfl⟩) q
    · revert q
      simp only [retA]
      generalize fn.results.toList = l
      exact fun q => resAll_mono l (fun vs ⟨h1, h2⟩ => ⟨s, h1, h2, rfl⟩) q)
end
end Go.Ab
