/- The operations that leave the store as it is are as the abstract ones say. -/
import Derived.Test.YtcgobgnbpeageaaDoorAb6
set_option linter.all false
namespace Go.Ab
open Go

section
variable {P : Program} {Γ : Nat → AV} {G : Gh} {w : World}

/-- The run of an operation gives a value that reads as K wants. -/
def ValOK (P : Program) (G : Gh) (w : World) (x : Sem Value) (K : AV → Prop) : Prop := ∃ v r, x.run P w = .ok v w ∧ K r ∧ R G w r v

theorem ValOK.next {x : Sem Value} {K : AV → Prop} (h : ValOK P G w x K) :
    ∃ v r, ((do pure (Next.value (← x))) : Sem Next).run P w = .ok (.value v) w ∧ K r ∧ R G w r v := by
  obtain ⟨v, r, h1, h2, h3⟩ := h
  exact ⟨v, r, by simp [h1], h2, h3⟩

theorem RElems_get : ∀ (es : List (List AV)) {k b o : Nat} (i : Nat), RElems G w k b o es → i < es.length → (es.getD i []).length = k ∧ RCells G w b (o + i * k) (es.getD i [])
  | [], k, b, o, i, _, h => by simp at h
  | e :: es, k, b, o, 0, h, _ => by unfold RElems at h; simpa using ⟨h.1, h.2.1⟩
  | e :: es, k, b, o, i + 1, h, hi => by
    unfold RElems at h
    have := RElems_get es i h.2.2 (by simpa using hi)
    rw [show o + k + i * k = o + (i + 1) * k by rw [Nat.succ_mul]; omega] at this
    simpa using this

theorem RElems_all : ∀ (es : List (List AV)) {k b o : Nat}, RElems G w k b o es → ∀ e ∈ es, e.length = k
  | [], _, _, _, _, _, h => by simp at h
  | e :: es, k, b, o, h, x, hx => by
    unfold RElems at h
    rcases List.mem_cons.1 hx with rfl | hx
    · exact h.1
    · exact RElems_all es h.2.2 x hx

theorem RElems_drop : ∀ (i : Nat) (es : List (List AV)) {k b o : Nat}, RElems G w k b o es → RElems G w k b (o + i * k) (es.drop i)
  | 0, es, k, b, o, h => by simpa using h
  | i + 1, [], k, b, o, _ => by unfold RElems; trivial
  | i + 1, e :: es, k, b, o, h => by
    unfold RElems at h
    have := RElems_drop i es h.2.2
    rw [show o + k + i * k = o + (i + 1) * k by rw [Nat.succ_mul]; omega] at this
    exact this

theorem RElems_take : ∀ (i : Nat) (es : List (List AV)) {k b o : Nat}, RElems G w k b o es → RElems G w k b o (es.take i)
  | 0, es, k, b, o, h => by rw [List.take_zero]; unfold RElems; trivial
  | i + 1, [], k, b, o, _ => by unfold RElems; trivial
  | i + 1, e :: es, k, b, o, h => by
    rw [List.take_succ_cons]
    unfold RElems at h ⊢
    exact ⟨h.1, h.2.1, RElems_take i es h.2.2⟩

theorem length_chunks (k : Nat) : ∀ (n : Nat) (cs : List AV), (chunks k n cs).length = n
  | 0, _ => rfl
  | n + 1, cs => by simp [chunks, length_chunks k n]

theorem RElems_chunks (k : Nat) : ∀ (n : Nat) (cs : List AV) {b o : Nat}, RCells G w b o cs → n * k ≤ cs.length → RElems G w k b o (chunks k n cs)
  | 0, cs, b, o, _, _ => by unfold chunks RElems; trivial
  | n + 1, cs, b, o, h, hl => by
    rw [Nat.succ_mul] at hl
    unfold chunks RElems
    refine ⟨by rw [List.length_take]; omega, RCells_take k cs b o h, RElems_chunks k n _ (RCells_drop k cs b o h) (by rw [List.length_drop]; omega)⟩

/-- All cells of a slice's elements, as values. -/
theorem RElems_cells : ∀ (es : List (List AV)) {k b o : Nat}, RElems G w k b o es → ∃ us : List Value, us.length = es.length * k ∧ RList G w es.flatten us ∧ ∀ i v, us[i]? = some v → w.cell? ⟨b, o + i, none⟩ = some v
  | [], k, b, o, _ => ⟨[], by simp, RList_nil.2 rfl, fun i v h => by simp at h⟩
  | e :: es, k, b, o, h => by
    unfold RElems at h
    obtain ⟨us, h1, h2, h3⟩ := RCells_get e b o h.2.1
    obtain ⟨vs, k1, k2, k3⟩ := RElems_cells es h.2.2
    refine ⟨us ++ vs, by rw [List.length_append, h1, k1, h.1, List.length_cons, Nat.succ_mul]; omega, by rw [List.flatten_cons]; exact RList_append h2 k2, ?_⟩
    intro i v hi
    by_cases hl : i < us.length
    · rw [List.getElem?_append_left hl] at hi
      exact h3 i v hi
    · rw [List.getElem?_append_right (by omega)] at hi
      have := k3 _ v hi
      rw [h1, h.1] at this
      have hl' : k ≤ i := by rw [h1, h.1] at hl; omega
      rwa [show o + k + (i - k) = o + i by omega] at this

theorem slice_of {t : TypeId} {e : TypeId} (h : sliceT P t = some e) : P.underlying t = some (.slice e) := by
  unfold sliceT at h
  split at h
  · rename_i x hx; injection h with h; subst h; exact hx
  · cases h
theorem arr_of {t : TypeId} {n : Nat} {e : TypeId} (h : arrT P t = some (n, e)) : P.underlying t = some (.array n e) := by
  unfold arrT at h
  split at h
  · rename_i n' x hx; injection h with h; injection h with h1 h2; subst h1 h2; exact hx
  · cases h

theorem R_slice {t : Nat} {es : List (List AV)} {v : Value} : R G w (.slice t es) v ↔ (t ≠ 0 → t ≠ 1 → v = G.tk t) ∧
      ((es = [] ∧ ∃ a cap, v = .slice a 0 cap ∧ (t = 1 → cap = 0) ∧ (a = none → cap = 0)) ∨
       (∃ b o cap k, v = .slice (some ⟨b, o, none⟩) es.length cap ∧ es.length ≤ cap ∧ (t = 1 → cap = es.length) ∧ es ≠ [] ∧ RElems G w k b o es)) := by rw [R]

/-- The value of a slice that reads so. -/
theorem slice_val {t : Nat} {es : List (List AV)} {v : Value} (h : R G w (.slice t es) v) : ∃ a cap, v = .slice a es.length cap ∧ es.length ≤ cap ∧ (a = none → cap = 0) ∧
    (es ≠ [] → ∃ b o k, a = some ⟨b, o, none⟩ ∧ RElems G w k b o es) ∧ (t = 1 → cap = es.length) := by
  obtain ⟨_, h⟩ := R_slice.1 h
  rcases h with ⟨rfl, a, cap, rfl, h1, h2⟩ | ⟨b, o, cap, k, rfl, h1, h2, h3, h4⟩
  · exact ⟨a, cap, rfl, Nat.zero_le _, h2, fun h => absurd rfl h, h1⟩
  · exact ⟨_, cap, rfl, h1, (fun h => by cases h), fun _ => ⟨b, o, k, rfl, h4⟩, h2⟩

theorem R_slice0 {es : List (List AV)} {a : Option Addr} {cap : Nat} (h1 : es.length ≤ cap) (h2 : a = none → cap = 0)
    (h4 : es ≠ [] → ∃ b o k, a = some ⟨b, o, none⟩ ∧ RElems G w k b o es) : R G w (.slice 0 es) (.slice a es.length cap) := by
  rw [R_slice]
  refine ⟨fun h => absurd rfl h, ?_⟩
  by_cases he : es = []
  · subst he
    exact .inl ⟨rfl, a, cap, rfl, (fun h => by cases h), h2⟩
  · obtain ⟨b, o, k, rfl, h⟩ := h4 he
    exact .inr ⟨b, o, cap, k, rfl, h1, (fun h => by cases h), he, h⟩

theorem R_slice1 {es : List (List AV)} {a : Option Addr} {cap : Nat} (h1 : es.length = cap) (h2 : a = none → cap = 0)
    (h4 : es ≠ [] → ∃ b o k, a = some ⟨b, o, none⟩ ∧ RElems G w k b o es) : R G w (.slice 1 es) (.slice a es.length cap) := by
  rw [R_slice]
  refine ⟨fun _ h => absurd rfl h, ?_⟩
  by_cases he : es = []
  · subst he
    exact .inl ⟨rfl, a, cap, rfl, fun _ => by simpa using h1.symm, h2⟩
  · obtain ⟨b, o, k, rfl, h⟩ := h4 he
    exact .inr ⟨b, o, cap, k, rfl, by omega, fun _ => h1.symm, he, h⟩

/- Bounds of a slice expression. -/
theorem bound_ok {lo : Option AV} {lv : Option Value} {d : Nat} {K : Nat → Prop} (h : boundA lo d K) (hr : (lo = none ∧ lv = none) ∨ ∃ x v, lo = some x ∧ lv = some v ∧ R G w x v) :
    (lo = none ∧ lv = none ∧ K d) ∨ ∃ k n, lv = some (.int k n) ∧ lo ≠ none ∧ 0 ≤ n ∧ K n.toNat := by
  rcases hr with ⟨rfl, rfl⟩ | ⟨x, v, rfl, rfl, hr⟩
  · exact .inl ⟨rfl, rfl, h⟩
  · cases x <;> try exact h.elim
    rw [R_int] at hr; subst hr
    exact .inr ⟨_, _, rfl, by simp, h.1, h.2⟩

theorem run_bounds (isSlice : Bool) (len cap : Nat) {lo hi : Option AV} {lv hv : Option Value} {C : Nat → Nat → Prop} (h : boundA hi len fun h => boundA lo 0 fun a => C a h)
    (hh : (hi = none ∧ hv = none) ∨ ∃ x v, hi = some x ∧ hv = some v ∧ R G w x v) (hl : (lo = none ∧ lv = none) ∨ ∃ x v, lo = some x ∧ lv = some v ∧ R G w x v)
    (hc : ∀ a h, C a h → a ≤ h ∧ h ≤ cap) :
    ∃ a h, C a h ∧ (Instr.sliceBounds isSlice len cap lv hv none).run P w = .ok (a, h, cap) w ∧ (lo = none → a = 0) ∧ (hi = none → h = len) := by
  rcases bound_ok h hh with ⟨h1, rfl, h⟩ | ⟨k, n, rfl, h1, hn, h⟩
  · rcases bound_ok h hl with ⟨l1, rfl, h⟩ | ⟨k', m, rfl, l1, hm, h⟩
    · exact ⟨0, len, h, by simp [Instr.sliceBounds], fun _ => rfl, fun _ => rfl⟩
    · have := hc _ _ h
      refine ⟨m.toNat, len, h, ?_, fun h => absurd h l1, fun _ => rfl⟩
      simp only [Instr.sliceBounds, Sem.run_bind, Sem.run_pure, Result.andThen_ok, Option.isSome_none]
      rw [run_sliceBound w k' m len _ hm (by omega)]; rfl
  · rcases bound_ok h hl with ⟨l1, rfl, h⟩ | ⟨k', m, rfl, l1, hm, h⟩
    · have := hc _ _ h
      refine ⟨0, n.toNat, h, ?_, fun _ => rfl, fun h => absurd h h1⟩
      simp only [Instr.sliceBounds, Sem.run_bind, Sem.run_pure, Result.andThen_ok]
      rw [run_sliceBound w k n cap _ hn (by omega)]; rfl
    · have := hc _ _ h
      refine ⟨m.toNat, n.toNat, h, ?_, fun h => absurd h l1, fun h => absurd h h1⟩
      simp only [Instr.sliceBounds, Sem.run_bind, Sem.run_pure, Result.andThen_ok, Option.isSome_none]
      rw [run_sliceBound w k n cap _ hn (by omega)]
      simp only [Result.andThen_ok]
      rw [run_sliceBound w k' m n.toNat _ hm (by omega)]; rfl

theorem run_bounds3 (len cap : Nat) {lo hi mx : Option AV} {lv hv mv : Option Value} {C : Nat → Nat → Nat → Prop} (h : boundA mx 0 fun m => boundA hi 0 fun h => boundA lo 0 fun a => C a h m)
    (hmx : mx ≠ none) (hhi : hi ≠ none)
    (hm : (mx = none ∧ mv = none) ∨ ∃ x v, mx = some x ∧ mv = some v ∧ R G w x v)
    (hh : (hi = none ∧ hv = none) ∨ ∃ x v, hi = some x ∧ hv = some v ∧ R G w x v) (hl : (lo = none ∧ lv = none) ∨ ∃ x v, lo = some x ∧ lv = some v ∧ R G w x v)
    (hc : ∀ a h m, C a h m → a ≤ h ∧ h ≤ m ∧ m ≤ cap) :
    ∃ a h m, C a h m ∧ (Instr.sliceBounds true len cap lv hv mv).run P w = .ok (a, h, m) w := by
  rcases bound_ok h hm with ⟨h0, _, _⟩ | ⟨km, nm, rfl, _, hnm, h⟩
  · exact absurd h0 hmx
  rcases bound_ok h hh with ⟨h1, _, _⟩ | ⟨k, n, rfl, h1, hn, h⟩
  · exact absurd h1 hhi
  rcases bound_ok h hl with ⟨l1, rfl, h⟩ | ⟨k', m, rfl, l1, hm', h⟩
  · have := hc _ _ _ h
    refine ⟨0, n.toNat, nm.toNat, h, ?_⟩
    simp only [Instr.sliceBounds, Sem.run_bind, Sem.run_pure, Result.andThen_ok]
    rw [run_sliceBound w km nm cap _ hnm (by omega)]
    simp only [Result.andThen_ok]
    rw [run_sliceBound w k n nm.toNat _ hn (by omega)]; rfl
  · have := hc _ _ _ h
    refine ⟨m.toNat, n.toNat, nm.toNat, h, ?_⟩
    simp only [Instr.sliceBounds, Sem.run_bind, Sem.run_pure]
    rw [run_sliceBound w km nm cap _ hnm (by omega)]
    simp only [Result.andThen_ok]
    rw [run_sliceBound w k n nm.toNat _ hn (by omega)]
    simp only [Result.andThen_ok]
    rw [run_sliceBound w k' m n.toNat _ hm' (by omega)]; rfl
end
end Go.Ab
