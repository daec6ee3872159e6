/- From what a call does, said of abstract values, to the rows: the start; what is read; what is left. -/
import Derived.Test.YtcgobgnbpeageaaDoorAb19
import Derived.ProofKit
import Derived.OpenShut
import Derived.ShutString
import Derived.MakeChecks
import Derived.FnData
set_option linter.all false
namespace Go.Ab
open Go Go.ChangeShapes Go.WideShapes Go.RowKit

/-- At the start all that is there stays. -/
def startG (W : World) : Gh := { kd := fun b => if b < W.heap.size then .fixd else .free, tk := fun _ => .nilFunc }
def s0 : Sto := ⟨fun _ => none, fun _ _ _ => False, ⟨0, fun _ _ => rfl⟩⟩

theorem Mod.start {Γ : Nat → AV} {W : World} (hg : ∀ g, GlobR (startG W) W g (Γ g)) : Mod Γ (startG W) s0 W where
  glob := hg
  box b T cs h := by cases h
  dom b h := by
    unfold startG at h
    dsimp only at h
    by_cases hb : b < W.heap.size
    · exact hb
    · rw [if_neg hb] at h; exact absurd rfl h
  live t e k h := h.elim
  apart t u b e k e' k' h := h.elim
  fin := ⟨0, fun _ _ => rfl⟩

/-- All that was there is there yet. -/
structure Kept (W w' : World) : Prop where
  os : w'.os = W.os
  output : w'.output = W.output
  size : W.heap.size ≤ w'.heap.size
  at_ : ∀ b, b < W.heap.size → w'.heap[b]? = W.heap[b]?

theorem Kept.of_ext {W w' : World} {G' : Gh} (X : Ext (startG W) W G' w') : Kept W w' :=
  ⟨X.os, X.output, X.size, fun b hb => (X.fixd b (by simp [startG, hb])).2⟩

theorem Kept.but {W w' : World} (h : Kept W w') (may : MemPlace → Prop) : W.keptBut w' may := by
  refine ⟨h.os, h.output, fun i hi => ?_⟩
  rw [h.at_ i hi]
  exact (World.keptBut_refl W may).2.2 i hi

/-- THE CALL, in the model's words. -/
theorem calls_of_abs {P : Program} {Γ : Nat → AV} {f : FuncId} {avs : List AV} {args : Array Value} {W : World} (hc : ACalls P Γ f avs s0 fun v _ => v = .bool true)
    (hg : ∀ g, GlobR (startG W) W g (Γ g)) (hR : RList (startG W) W avs args.toList) :
    Calls P f args W fun e w' => e = .returned (.bool true) ∧ Kept W w' := by
  have h := hc.run (startG W) W args.toList (Mod.start hg) hR
  have e : args.toList.toArray = args := by simp
  rw [e] at h
  refine h.mono ?_
  rintro e w' ⟨v, av, s', G', rfl, rfl, hr, _, X⟩
  rw [R_bool] at hr
  exact ⟨by rw [hr], Kept.of_ext X⟩

/-- WHAT IS LEFT: a law's answer. -/
theorem post_true {H : Type} {enc : TypeId × Value → H} {P : Program} {f : Func} {s : ChangeSpec} {W W' : World} {args : Array Value} {ds gs : List (DataW H)} {before : List MemPlace} {tb : TypeId}
    (hvars : s.vars = []) (hfn : s.fn H (ds ++ gs) = { results := [.lit (.bool true)], args := ds })
    (hW : DataW.Whole enc P f.params.toList s.vars false W args.toList ds gs before) (hres : f.resultTypes = #[tb]) (htb : P.underlying tb = some .bool)
    (hargs : ∀ p, DataW.TrodAll enc P W 0 (fun _ => true) true f.params.toList args.toList ds p → DataW.TrodAll enc P W' 0 (fun b => decide (b < W.heap.size)) true f.params.toList args.toList ds p)
    (K : Kept W W') : s.post enc P f false true false false W args (.bool true) W' := by
  have hW' := hW
  obtain ⟨p, q, hA, hV, rfl, _, _⟩ := hW
  rw [hvars] at hV
  obtain ⟨rfl, rfl⟩ := trodVars_none hV
  refine ⟨ds, [], p ++ [], [], p, [], hW', ?_, ?_, ?_, World.keptBut_mono (fun p hp => ⟨hp, .inr (.inl (by simpa using hp))⟩) (K.but (· ∈ p ++ [])), fun h => by cases h⟩
  · rw [hfn, hres]
    exact trodAll_mk1 (shut_bool htb true)
  · rw [hfn]; exact hargs p hA
  · rw [hfn, hvars]; exact rfl

/-- HOW A TYPE IS READ: what can be read of it is some x, its cells read as x's values, it takes at most so much, and reads the same where all is kept. -/
def Opens (P : Program) (bulk : ∀ H : Type, DataW H → Nat) (t : TypeId) {α : Type} (av : α → List AV) (ok : α → Nat → Prop) : Prop :=
  ∀ (H : Type) (enc : TypeId × Value → H) (W : World) (fuel : Nat) (cs : List Value) (d : DataW H) (ps : List MemPlace),
    DataW.trod enc P W 0 (fun _ => true) true fuel t cs = some (d, ps) →
    ∃ x, ok x (bulk H d) ∧ RList (startG W) W (av x) cs ∧
      ∀ W', Kept W W' → DataW.trod enc P W' 0 (fun b => decide (b < W.heap.size)) true fuel t cs = some (d, ps)

section
variable {P : Program} {bulk : ∀ H : Type, DataW H → Nat} {t : TypeId}
theorem opens_int {k : IntKind} (ht : P.underlying t = some (.int k)) : Opens P bulk t (fun n : Int => [.int k n]) (fun n _ => (Lit.int k n).wf = true) := by
  intro H enc W fuel cs d ps h
  obtain ⟨n, rfl, hx, hw⟩ := DataW.trod_int ht h
  simp only [Prod.mk.injEq] at hx
  obtain ⟨rfl, rfl⟩ := hx
  refine ⟨n, hw, RList_cons.2 ⟨_, _, rfl, R_int.2 rfl, RList_nil.2 rfl⟩, fun W' _ => ?_⟩
  cases fuel with
  | zero => exact h
  | succ m =>
    unfold DataW.trod at h ⊢
    rw [ht] at h ⊢
    exact h
theorem opens_bool (ht : P.underlying t = some .bool) : Opens P bulk t (fun b : Bool => [.bool b]) (fun _ _ => True) := by
  intro H enc W fuel cs d ps h
  obtain ⟨n, rfl, hx⟩ := DataW.trod_bool ht h
  simp only [Prod.mk.injEq] at hx
  obtain ⟨rfl, rfl⟩ := hx
  refine ⟨n, trivial, RList_cons.2 ⟨_, _, rfl, R_bool.2 rfl, RList_nil.2 rfl⟩, fun W' _ => ?_⟩
  cases fuel with
  | zero => exact h
  | succ m =>
    unfold DataW.trod
    rw [ht]
theorem opens_str (ht : P.underlying t = some .string) : Opens P bulk t (fun l : List UInt8 => [.str l]) (fun l _ => l.length ≤ maxLen) := by
  intro H enc W fuel cs d ps h
  cases fuel with
  | zero => simp [DataW.trod] at h
  | succ m =>
    have h' := h
    unfold DataW.trod at h
    rw [ht] at h
    match cs, h with
    | [.string s], h =>
      simp only at h
      split at h
      · rename_i hs
        simp only [Option.some.injEq, Prod.mk.injEq] at h
        obtain ⟨rfl, rfl⟩ := h
        refine ⟨s.data.toList, hs, RList_cons.2 ⟨_, _, rfl, R_str.2 (by simp), RList_nil.2 rfl⟩, fun W' _ => ?_⟩
        unfold DataW.trod
        rw [ht]
        simp [hs]
      · cases h

/-- An argument. -/
theorem Opens.arg {α : Type} {av : α → List AV} {ok : α → Nat → Prop} (ho : Opens P bulk t av ok) {H : Type} {enc : TypeId × Value → H} {W : World} {v : Value} {d : DataW H} {ps : List MemPlace}
    (h : DataW.Trod enc P W 0 (fun _ => true) true t v d ps) : ∃ x, ok x (bulk H d) ∧ RList (startG W) W (av x) v.cells.toList ∧
      ∀ W', Kept W W' → DataW.Trod enc P W' 0 (fun b => decide (b < W.heap.size)) true t v d ps := by
  obtain ⟨fuel, h⟩ := h
  obtain ⟨x, h1, h2, h3⟩ := ho H enc W fuel _ d ps h
  exact ⟨x, h1, h2, fun W' K => ⟨fuel, h3 W' K⟩⟩
end

def Keeps (P : Program) (t : TypeId) : Prop :=
  ∀ (H : Type) (enc : TypeId × Value → H) (W W' : World) (v : Value) (d : DataW H) (ps : List MemPlace), Kept W W' → DataW.Trod enc P W 0 (fun _ => true) true t v d ps →
    DataW.Trod enc P W' 0 (fun b => decide (b < W.heap.size)) true t v d ps
theorem Opens.keeps {P : Program} {bulk : ∀ H : Type, DataW H → Nat} {t : TypeId} {α : Type} {av : α → List AV} {ok : α → Nat → Prop} (ho : Opens P bulk t av ok) : Keeps P t :=
  fun _ _ _ W' _ _ _ K h => by
    obtain ⟨_, _, _, h3⟩ := ho.arg h
    exact h3 W' K
theorem trodAll_keep {P : Program} {H : Type} {enc : TypeId × Value → H} {W W' : World} (K : Kept W W') : ∀ {ts : List TypeId} {vs : List Value} {ds : List (DataW H)} {ps : List MemPlace}, (∀ t ∈ ts, Keeps P t) →
    DataW.TrodAll enc P W 0 (fun _ => true) true ts vs ds ps → DataW.TrodAll enc P W' 0 (fun b => decide (b < W.heap.size)) true ts vs ds ps
  | [], [], [], _, _, h => h
  | t :: ts, v :: vs, d :: ds, ps, hk, ⟨p, q, h, hs, e⟩ => ⟨p, q, hk t (List.mem_cons_self ..) H enc W W' v d p K h, trodAll_keep K (fun t ht => hk t (List.mem_cons_of_mem _ ht)) hs, e⟩
  | [], _ :: _, _, _, _, h => h.elim
  | [], [], _ :: _, _, _, h => h.elim
  | _ :: _, [], _, _, _, h => h.elim
  | _ :: _, _ :: _, [], _, _, h => h.elim

section
variable {P : Program} {G : Gh} {W : World} {r : Reach} {b0 : Nat} {t : TypeId} {v : Value} {x : AV}
theorem arg_str (ht : P.underlying t = some .string) (hv : Value.okWide P W r b0 t v) (h : RList G W [x] v.cells.toList) : R G W x v := by
  obtain ⟨s, rfl⟩ := okWide_string ht hv
  obtain ⟨u, us, hu, hr, _⟩ := RList_cons.1 h
  simp only [Value.cells, List.cons.injEq] at hu
  rw [hu.1]; exact hr
theorem arg_int {k : IntKind} (ht : P.underlying t = some (.int k)) (hv : Value.okWide P W r b0 t v) (h : RList G W [x] v.cells.toList) : R G W x v := by
  obtain ⟨s, rfl⟩ := okWide_int ht hv
  obtain ⟨u, us, hu, hr, _⟩ := RList_cons.1 h
  simp only [Value.cells, List.cons.injEq] at hu
  rw [hu.1]; exact hr
theorem arg_bool (ht : P.underlying t = some .bool) (hv : Value.okWide P W r b0 t v) (h : RList G W [x] v.cells.toList) : R G W x v := by
  obtain ⟨s, rfl⟩ := okWide_bool ht hv
  obtain ⟨u, us, hu, hr, _⟩ := RList_cons.1 h
  simp only [Value.cells, List.cons.injEq] at hu
  rw [hu.1]; exact hr
theorem arg_slice {e : TypeId} (ht : P.underlying t = some (.slice e)) (hv : Value.okWide P W r b0 t v) (h : RList G W [x] v.cells.toList) : R G W x v := by
  obtain ⟨a, l, c, rfl⟩ := okWide_slice ht hv
  obtain ⟨u, us, hu, hr, _⟩ := RList_cons.1 h
  simp only [Value.cells, List.cons.injEq] at hu
  rw [hu.1]; exact hr
theorem arg_struct {fs : Array Field} {xs : List AV} (ht : P.underlying t = some (.struct fs)) (hv : Value.okWide P W r b0 t v) (h : RList G W xs v.cells.toList) : R G W (.agg xs) v := by
  obtain ⟨cs, rfl, _⟩ := okWide_struct ht hv
  exact R_agg.2 ⟨cs, rfl, h⟩
theorem args_nil : RList G W [] [] := RList_nil.2 rfl
theorem args_cons {xs : List AV} {vs : List Value} (h : R G W x v) (k : RList G W xs vs) : RList G W (x :: xs) (v :: vs) := RList_cons.2 ⟨v, vs, rfl, h, k⟩
end

/- Laid data. -/
def davL {H : Type} (f : TypeId → DataW H → Option (List AV)) : List TypeId → List (DataW H) → Option (List AV)
  | [], [] => some []
  | t :: ts, d :: ds => match f t d, davL f ts ds with
    | some a, some l => some (a ++ l)
    | _, _ => none
  | _, _ => none
def consec (P : Program) : Nat → List (TypeId × Nat) → Option Nat
  | o, [] => some o
  | o, (t, o') :: l => if o' = o then consec P (o + P.cellsOf t) l else none
def dav {H : Type} (P : Program) : Nat → TypeId → DataW H → Option (List AV)
  | 0, _, _ => none
  | n + 1, t, d =>
    match P.underlying t, d with
    | some .bool, .lit (.bool b) => some [.bool b]
    | some (.int k), .lit (.int _ m) => some [.int k m]
    | some .string, .lit (.string l) => some [.str l]
    | some (.struct fs), .agg ds => if consec P 0 (fs.toList.map fun f => (f.type, f.offset)) = some (P.cellsOf t) then davL (dav P n) (fs.toList.map (·.type)) ds else none
    | some (.array m e), .agg ds => if consec P 0 ((List.range m).map fun i => (e, i * P.cellsOf e)) = some (P.cellsOf t) then davL (dav P n) ((List.range m).map fun _ => e) ds else none
    | _, _ => none

theorem parts_R {H : Type} {G : Gh} {w : World} {P : Program} {f : TypeId → DataW H → Option (List AV)} {r : TypeId → List Value → Option (DataW H × List MemPlace)} {cs : List Value}
    (ih : ∀ t us d ps avs, r t us = some (d, ps) → f t d = some avs → RList G w avs us) :
    ∀ (l : List (TypeId × Nat)) (o k : Nat) (xs : List (DataW H × List MemPlace)) (avs : List AV), (l.mapM fun p => r p.1 ((cs.drop p.2).take (P.cellsOf p.1))) = some xs →
      consec P o l = some k → davL f (l.map (·.1)) (xs.map (·.1)) = some avs → k ≤ cs.length → RList G w avs ((cs.drop o).take (k - o)) ∧ o ≤ k
  | [], o, k, xs, avs, hm, hk, hd, hle => by
    simp only [List.mapM_nil, Option.pure_def, Option.some.injEq] at hm
    subst hm
    simp only [consec, Option.some.injEq] at hk
    subst hk
    simp only [List.map_nil, davL, Option.some.injEq] at hd
    subst hd
    simp [RList_nil]
  | (t, o') :: l, o, k, xs, avs, hm, hk, hd, hle => by
    simp only [consec] at hk
    split at hk
    · rename_i ho
      subst ho
      rw [List.mapM_cons] at hm
      obtain ⟨x, hx, hm⟩ := Option.bind_eq_some_iff.1 hm
      obtain ⟨ys, hy, hm⟩ := Option.bind_eq_some_iff.1 hm
      simp only [Option.pure_def, Option.some.injEq] at hm
      subst hm
      simp only [List.map_cons, davL] at hd
      split at hd
      · rename_i a l' ha hl
        simp only [Option.some.injEq] at hd
        subst hd
        obtain ⟨h1, h2⟩ := parts_R ih l (o' + P.cellsOf t) k ys l' hy hk hl hle
        have h3 := ih t _ x.1 x.2 a hx ha
        refine ⟨?_, by omega⟩
        have e : (cs.drop o').take (k - o') = (cs.drop o').take (P.cellsOf t) ++ (cs.drop (o' + P.cellsOf t)).take (k - (o' + P.cellsOf t)) := by
          rw [show k - o' = P.cellsOf t + (k - (o' + P.cellsOf t)) by omega, List.take_add, List.drop_drop]
        rw [e]
        exact RList_append h3 h1
      · cases hd
    · cases hk

theorem dav_ok {H : Type} {enc : TypeId × Value → H} {P : Program} {W : World} {G : Gh} {base : Nat} {sp : Nat → Bool} {hd : Bool} :
    ∀ (n : Nat) (t : TypeId) (cs : List Value) (fuel : Nat) (d : DataW H) (ps : List MemPlace) (avs : List AV), DataW.trod enc P W base sp hd fuel t cs = some (d, ps) → dav P n t d = some avs → RList G W avs cs
  | 0, _, _, _, _, _, _, _, h => by simp [dav] at h
  | n + 1, t, cs, 0, d, ps, avs, h, _ => by simp [DataW.trod] at h
  | n + 1, t, cs, fuel + 1, d, ps, avs, h, hv => by
    have h0 := h
    unfold dav at hv
    split at hv
    · rename_i b ht
      obtain ⟨b', rfl, hx⟩ := DataW.trod_bool ht h
      simp only [Prod.mk.injEq, DataW.lit.injEq, Lit.bool.injEq] at hx
      obtain ⟨rfl, _⟩ := hx
      cases hv
      exact RList_cons.2 ⟨_, _, rfl, R_bool.2 rfl, RList_nil.2 rfl⟩
    · rename_i k k' m ht
      obtain ⟨m', rfl, hx, _⟩ := DataW.trod_int ht h
      simp only [Prod.mk.injEq, DataW.lit.injEq, Lit.int.injEq] at hx
      obtain ⟨⟨_, rfl⟩, _⟩ := hx
      cases hv
      exact RList_cons.2 ⟨_, _, rfl, R_int.2 rfl, RList_nil.2 rfl⟩
    · rename_i l ht
      cases hv
      unfold DataW.trod at h
      rw [ht] at h
      match cs, h with
      | [.string s], h =>
        simp only at h
        split at h
        · simp only [Option.some.injEq, Prod.mk.injEq, DataW.lit.injEq, Lit.string.injEq] at h
          obtain ⟨rfl, _⟩ := h
          exact RList_cons.2 ⟨_, _, rfl, R_str.2 (by simp), RList_nil.2 rfl⟩
        · cases h
    · rename_i fs ds ht
      split at hv
      · rename_i hc
        unfold DataW.trod at h
        rw [ht] at h
        simp only at h
        split at h
        · rename_i hl
          obtain ⟨xs, hxs, hx⟩ := Option.map_eq_some_iff.1 h
          simp only [Prod.mk.injEq, DataW.agg.injEq] at hx
          obtain ⟨rfl, _⟩ := hx
          have hm : ((fs.toList.map fun f => (f.type, f.offset)).mapM fun p => DataW.trod enc P W base sp hd fuel p.1 ((cs.drop p.2).take (P.cellsOf p.1))) = some xs := by
            rw [List.mapM_map]; exact hxs
          have := (parts_R (P := P) (f := dav P n) (r := DataW.trod enc P W base sp hd fuel) (cs := cs) (G := G) (w := W) (fun t us d ps avs h1 h2 => dav_ok n t us fuel d ps avs h1 h2) _ 0 _ xs avs hm hc (by simpa [List.map_map, Function.comp_def] using hv) (by omega)).1
          simpa [← hl] using this
        · cases h
      · cases hv
    · rename_i m e ds ht
      split at hv
      · rename_i hc
        unfold DataW.trod at h
        rw [ht] at h
        simp only at h
        split at h
        · rename_i hl
          obtain ⟨xs, hxs, hx⟩ := Option.map_eq_some_iff.1 h
          simp only [Prod.mk.injEq, DataW.agg.injEq] at hx
          obtain ⟨rfl, _⟩ := hx
          have hm : (((List.range m).map fun i => (e, i * P.cellsOf e)).mapM fun p => DataW.trod enc P W base sp hd fuel p.1 ((cs.drop p.2).take (P.cellsOf p.1))) = some xs := by
            rw [List.mapM_map]; exact hxs
          have := (parts_R (P := P) (f := dav P n) (r := DataW.trod enc P W base sp hd fuel) (cs := cs) (G := G) (w := W) (fun t us d ps avs h1 h2 => dav_ok n t us fuel d ps avs h1 h2) _ 0 _ xs avs hm hc (by simpa [List.map_map, Function.comp_def] using hv) (by omega)).1
          simpa [← hl] using this
        · cases h
      · cases hv
    · cases hv

/-- A LISTED VARIABLE, as the walks know it. -/
theorem laid_cons {P : Program} {W : World} {name : String} {d : DataW Unit} {rest : List (String × DataW Unit)} {g : Nat} {t : TypeId} (n : Nat) {avs : List AV} {ps : List MemPlace}
    (h : DataW.LaidVars P W ((name, d) :: rest) ps) (hg : P.globalNamed name = some g) (ht : (P.globals[g]?).map (·.type) = some t) (hd : dav P n t d = some avs) :
    GlobR (startG W) W g (.cptr avs) ∧ ∃ qs, DataW.LaidVars P W rest qs := by
  obtain ⟨g', t', cs, fuel, p, q, hg', ht', hv, htr, hr, _⟩ := h
  obtain rfl := Option.some.inj (hg.symm.trans hg')
  obtain rfl := Option.some.inj (ht.symm.trans ht')
  refine ⟨?_, q, hr⟩
  have hR := dav_ok (G := startG W) n t cs.toList fuel d p avs htr hd
  have hcell := fun i => World.var?_cell hg hv i
  have key : ∀ (avs : List AV) (o : Nat), RList (startG W) W avs (cs.toList.drop o) → RCells (startG W) W g o avs := by
    intro avs
    induction avs with
    | nil => intro o _; unfold RCells; trivial
    | cons a avs ih =>
      intro o h
      obtain ⟨u, us, hu, hr, hrs⟩ := RList_cons.1 h
      have ho : cs[o]? = some u := by
        have := congrArg (·[0]?) hu
        simpa [List.getElem?_drop] using this
      have hc : W.cell? ⟨g, o, none⟩ = some u := (hcell o).trans ho
      unfold RCells
      refine ⟨?_, ⟨u, hc, hr⟩, ih (o + 1) ?_⟩
      · unfold Gh.good startG
        have hlt : g < W.heap.size := by
          rcases Nat.lt_or_ge g W.heap.size with hh | hh
          · exact hh
          · simp [World.cell?, Array.getElem?_eq_none hh] at hc
        simp [hlt]
      · have : cs.toList.drop (o + 1) = us := by
          have := congrArg List.tail hu
          simpa [List.tail_drop] using this
        rw [this]; exact hrs
  have hlen := RList_length hR
  have hblk : ∃ T fr, W.heap[g]? = some (.cells cs T fr) := by
    simp only [World.var?, hg, Option.bind_some] at hv
    split at hv
    · rename_i c T fr hh
      simp only [Option.some.injEq] at hv
      subst hv
      exact ⟨T, fr, hh⟩
    · cases hv
  obtain ⟨T, fr, hblk⟩ := hblk
  have hlt : g < W.heap.size := by
    rcases Nat.lt_or_ge g W.heap.size with hh | hh
    · exact hh
    · rw [Array.getElem?_eq_none hh] at hblk; cases hblk
  exact ⟨by simp [startG, hlt], ⟨cs, T, fr, hblk, by simpa using hlen⟩, R_cptr.2 ⟨g, 0, rfl, key avs 0 (by simpa using hR)⟩⟩
theorem laid_vars {P : Program} {W : World} {laid : List (String × DataW Unit)} (hp : (laid.all fun x => x.2.handleName?.isNone) = true) (h : laidMetH P laid W) : ∃ ps, DataW.LaidVars P W laid ps := by
  rw [MakeChecks.laidMetH_plain P laid W hp] at h
  obtain ⟨ps, h, _⟩ := h
  exact ⟨ps, h⟩
theorem glob_none {G : Gh} {w : World} {g : Nat} : GlobR G w g (.ptr (some ⟨g, 0, none⟩)) := by
  show R G w (.ptr (some ⟨g, 0, none⟩)) _
  exact R_ptr.2 rfl
end Go.Ab
