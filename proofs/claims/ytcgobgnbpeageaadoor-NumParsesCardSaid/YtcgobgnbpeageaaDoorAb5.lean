/- The operations that leave the store as it is are as the abstract ones say. -/
import Derived.Test.YtcgobgnbpeageaaDoorAb4
set_option linter.all false
namespace Go.Ab
open Go

section
variable {P : Program} {Γ : Nat → AV} {G : Gh} {w : World}

theorem atomOf_ok {v : Value} {c : AV} (h : atomOf v = some c) : R G w c v := by
  unfold atomOf at h
  split at h <;> first | (cases h; done) | (injection h with h; subst h)
  · exact R_int.2 rfl
  · exact R_bool.2 rfl
  · rename_i s; rw [R_str]
  · exact R_ptr.2 rfl
  · unfold R; exact ⟨fun _ h => absurd rfl h, .inl ⟨rfl, none, 0, rfl, fun _ => rfl, fun _ => rfl⟩⟩
  · exact R_nilIface.2 rfl
  · exact R_nilFunc.2 rfl

theorem atomsOf_ok : ∀ {vs : List Value} {cs : List AV}, atomsOf vs = some cs → RList G w cs vs
  | [], cs, h => by simp only [atomsOf, Option.some.injEq] at h; subst h; exact RList_nil.2 rfl
  | v :: vs, cs, h => by
    simp only [atomsOf] at h
    split at h
    · rename_i x xs h1 h2
      injection h with h; subst h
      exact RList_cons.2 ⟨v, vs, rfl, atomOf_ok h1, atomsOf_ok h2⟩
    · cases h

theorem constOf_ok {v : Value} {c : AV} (h : constOf v = some c) : R G w c v := by
  unfold constOf at h
  split at h
  · rename_i cs
    simp only [Option.map_eq_some_iff] at h
    obtain ⟨xs, h1, rfl⟩ := h
    exact R_agg.2 ⟨cs, rfl, atomsOf_ok h1⟩
  · rename_i cs
    simp only [Option.map_eq_some_iff] at h
    obtain ⟨xs, h1, rfl⟩ := h
    exact R_tuple.2 ⟨cs, rfl, atomsOf_ok h1⟩
  · exact atomOf_ok h

theorem evA_ok {s : Sto} {n : Nat} {e : Env} {a : Act} (hm : Mod Γ G s w) (he : EnvR G w n e a) {x : Operand} (hx : okX x = true) : R G w (evA Γ e x) (a.eval x) := by
  cases x with
  | tmp t => exact he.at_ t
  | const v =>
    simp only [okX, Option.isSome_iff_exists] at hx
    obtain ⟨c, hc⟩ := hx
    simp only [evA, Act.eval, hc, Option.getD_some]
    exact constOf_ok hc
  | global g => exact (hm.glob g).r
  | func f => exact R_func.2 ⟨#[], #[], rfl, RList_nil.2 rfl, RList_nil.2 rfl⟩

/- Lists of cells. -/
theorem RCells_drop : ∀ (k : Nat) (cs : List AV) (b o : Nat), RCells G w b o cs → RCells G w b (o + k) (cs.drop k)
  | 0, cs, b, o, h => h
  | k + 1, [], b, o, _ => by unfold RCells; trivial
  | k + 1, c :: cs, b, o, h => by
    unfold RCells at h
    have := RCells_drop k cs b (o + 1) h.2.2
    rw [show o + 1 + k = o + (k + 1) by omega] at this
    exact this

theorem RCells_take : ∀ (k : Nat) (cs : List AV) (b o : Nat), RCells G w b o cs → RCells G w b o (cs.take k)
  | 0, cs, b, o, _ => by rw [List.take_zero]; unfold RCells; trivial
  | k + 1, [], b, o, _ => by unfold RCells; trivial
  | k + 1, c :: cs, b, o, h => by
    rw [List.take_succ_cons]
    unfold RCells at h ⊢
    exact ⟨h.1, h.2.1, RCells_take k cs b (o + 1) h.2.2⟩

/-- The cells that a piece of memory holds. -/
theorem RCells_get : ∀ (cs : List AV) (b o : Nat), RCells G w b o cs → ∃ us : List Value, us.length = cs.length ∧ RList G w cs us ∧ ∀ i v, us[i]? = some v → w.cell? ⟨b, o + i, none⟩ = some v
  | [], b, o, _ => ⟨[], rfl, RList_nil.2 rfl, fun i v h => by simp at h⟩
  | c :: cs, b, o, h => by
    unfold RCells at h
    obtain ⟨_, ⟨u, hu, hr⟩, hs⟩ := h
    obtain ⟨us, hl, hR, hc⟩ := RCells_get cs b (o + 1) hs
    refine ⟨u :: us, by simp [hl], RList_cons.2 ⟨u, us, rfl, hr, hR⟩, ?_⟩
    intro i v hi
    cases i with
    | zero => simp only [List.getElem?_cons_zero, Option.some.injEq] at hi; subst hi; exact hu
    | succ i =>
      have := hc i v (by simpa using hi)
      rw [show o + 1 + i = o + (i + 1) by omega] at this
      exact this

theorem RList_length : ∀ {cs : List AV} {us : List Value}, RList G w cs us → us.length = cs.length
  | [], us, h => by rw [RList_nil.1 h]; rfl
  | c :: cs, us, h => by
    obtain ⟨u, us', rfl, _, h2⟩ := RList_cons.1 h
    simp [RList_length h2]

theorem RList_take : ∀ (k : Nat) {cs : List AV} {us : List Value}, RList G w cs us → RList G w (cs.take k) (us.take k)
  | 0, cs, us, _ => by simp only [List.take_zero]; exact RList_nil.2 rfl
  | k + 1, [], us, h => by rw [RList_nil.1 h]; exact RList_nil.2 rfl
  | k + 1, c :: cs, us, h => by
    obtain ⟨u, us', rfl, h1, h2⟩ := RList_cons.1 h
    exact RList_cons.2 ⟨u, us'.take k, rfl, h1, RList_take k h2⟩

theorem RList_drop : ∀ (k : Nat) {cs : List AV} {us : List Value}, RList G w cs us → RList G w (cs.drop k) (us.drop k)
  | 0, cs, us, h => h
  | k + 1, [], us, h => by rw [RList_nil.1 h]; exact RList_nil.2 rfl
  | k + 1, c :: cs, us, h => by
    obtain ⟨u, us', rfl, h1, h2⟩ := RList_cons.1 h
    exact RList_drop k h2

theorem RList_append : ∀ {cs : List AV} {us : List Value} {ds : List AV} {vs : List Value}, RList G w cs us → RList G w ds vs → RList G w (cs ++ ds) (us ++ vs)
  | [], us, ds, vs, h, k => by rw [RList_nil.1 h]; exact k
  | c :: cs, us, ds, vs, h, k => by
    obtain ⟨u, us', rfl, h1, h2⟩ := RList_cons.1 h
    exact RList_cons.2 ⟨u, us' ++ vs, rfl, h1, RList_append h2 k⟩

theorem RList_get : ∀ {cs : List AV} {us : List Value} {i : Nat} {c : AV}, RList G w cs us → cs[i]? = some c → ∃ u, us[i]? = some u ∧ R G w c u
  | [], us, i, c, _, h => by simp at h
  | d :: cs, us, 0, c, h, hi => by
    obtain ⟨u, us', rfl, h1, h2⟩ := RList_cons.1 h
    simp only [List.getElem?_cons_zero, Option.some.injEq] at hi
    subst hi
    exact ⟨u, rfl, h1⟩
  | d :: cs, us, i + 1, c, h, hi => by
    obtain ⟨u, us', rfl, h1, h2⟩ := RList_cons.1 h
    simp only [List.getElem?_cons_succ] at hi ⊢
    exact RList_get h2 hi

theorem RList_map {α : Type} {f : α → AV} {g : α → Value} : ∀ (l : List α), (∀ x ∈ l, R G w (f x) (g x)) → RList G w (l.map f) (l.map g)
  | [], _ => RList_nil.2 rfl
  | x :: l, h => RList_cons.2 ⟨g x, l.map g, rfl, h x List.mem_cons_self, RList_map l fun y hy => h y (List.mem_cons_of_mem _ hy)⟩

theorem run_isAgg {t : TypeId} {d : TypeDesc} (h : P.underlying t = some d) : (isAgg t).run P w = .ok (isAggT P t) w := by
  simp only [isAgg, Sem.run_bind, run_under h, Result.andThen_ok, isAggT, h]
  cases d <;> rfl

theorem run_sizeOf {t : TypeId} {i : TypeInfo} (h : P.info? t = some i) : (sizeOf t).run P w = .ok i.size w := by
  simp [sizeOf, typeInfo, h]

theorem shape_some {t : TypeId} {n : Nat} (h : shapeT P t = some (some n)) : (∃ d, P.underlying t = some d) ∧ isAggT P t = true ∧ ∃ i, P.info? t = some i ∧ i.size = n := by
  unfold shapeT at h
  split at h
  · cases h
  · rename_i h0
    obtain ⟨i, hi, h⟩ := Option.map_eq_some_iff.1 h
    exact ⟨⟨_, h0⟩, by simp [isAggT, h0], i, hi, by simpa using h⟩
  · rename_i h0
    obtain ⟨i, hi, h⟩ := Option.map_eq_some_iff.1 h
    exact ⟨⟨_, h0⟩, by simp [isAggT, h0], i, hi, by simpa using h⟩
  · cases h

theorem shape_none {t : TypeId} (h : shapeT P t = some none) : (∃ d, P.underlying t = some d) ∧ isAggT P t = false := by
  unfold shapeT at h
  split at h
  · cases h
  · obtain ⟨i, hi, h⟩ := Option.map_eq_some_iff.1 h; cases h
  · obtain ⟨i, hi, h⟩ := Option.map_eq_some_iff.1 h; cases h
  · rename_i d h1 h2 h0
    refine ⟨⟨_, h0⟩, ?_⟩
    unfold isAggT
    rw [h0]
    split <;> simp_all

/-- Loading cells that are known one by one. -/
theorem run_loadVar_of {t : TypeId} {cs : List AV} {us : List Value} {b o : Nat} {K : AV → Prop} (h : aload P t cs K) (hR : RList G w cs us)
    (hc : ∀ i v, us[i]? = some v → w.cell? ⟨b, o + i, none⟩ = some v) :
    ∃ v r, (loadVar t ⟨b, o, none⟩).run P w = .ok v w ∧ K r ∧ R G w r v := by
  unfold aload at h
  have hlen := RList_length hR
  cases hs : shapeT P t with
  | none => rw [hs] at h; exact h.elim
  | some sh =>
    rw [hs] at h
    cases sh with
    | some n =>
      obtain ⟨⟨d, hu⟩, hag, i, hi, hsz⟩ := shape_some hs
      obtain ⟨hn, hK⟩ := h
      rw [frcL_eq] at hK
      refine ⟨.agg (us.take n).toArray, _, ?_, hK, R_agg.2 ⟨_, rfl, by simpa using RList_take n hR⟩⟩
      have hl : (us.take n).length = n := by rw [List.length_take]; omega
      have := run_loadCells_list (P := P) w ⟨b, o, none⟩ (us.take n) (fun j v hj => by
        rw [Addr.add_lit]
        refine hc j v ?_
        rw [List.getElem?_take] at hj
        split at hj
        · exact hj
        · cases hj)
      rw [hl] at this
      simp only [loadVar, Sem.run_bind, run_isAgg hu, hag, Result.andThen_ok, if_true, run_sizeOf hi, hsz, this, Sem.run_pure]
    | none =>
      obtain ⟨⟨d, hu⟩, hag⟩ := shape_none hs
      cases cs with
      | nil => exact h.elim
      | cons c cs =>
        obtain ⟨u, us', rfl, h1, h2⟩ := RList_cons.1 hR
        refine ⟨u, c, ?_, by simpa only [frc_eq] using h, h1⟩
        have hc0 := hc 0 u rfl
        simp only [Nat.add_zero] at hc0
        simp [loadVar, Sem.run_bind, run_isAgg hu, hag, hc0]

/-- A box's cells. -/
theorem box_cells {s : Sto} (hm : Mod Γ G s w) {b : Nat} {T : TypeId} {cs : List AV} (hb : s.bx b = some (T, cs)) :
    ∃ us : List Value, RList G w cs us ∧ ∀ i, w.cell? ⟨b, i, none⟩ = us[i]? := by
  obtain ⟨_, vs, hh, hr⟩ := hm.box b T cs hb
  exact ⟨vs, hr, fun i => by simp [World.cell?, hh]⟩
end
end Go.Ab
