
/- How slices and texts are read where what is read is of some bulk at most. -/
import Derived.Test.YthgpipfkcbekiaaDoorAb24
set_option linter.all false
namespace Go.Ab
open Go

section
variable {P : Program} {bulk : ∀ H : Type, DataW H → Nat} {α : Type} {av : α → List AV} {ok : α → Nat → Prop}
theorem opens_strU {t : TypeId} (ht : P.underlying t = some .string) (hb : ∀ (H : Type) (l : List UInt8), l.length ≤ bulk H (.lit (.string l))) : Opens P bulk t (fun l : List UInt8 => [.str l]) (fun l n => l.length ≤ maxLen ∧ l.length ≤ n) := by
  intro H enc W fuel cs d ps h
  cases fuel with
  | zero => simp [DataW.trod] at h
  | succ m =>
    have h' := h
    unfold DataW.trod at h
    rw [ht] at h
    match cs, h with
    | [.string s], h =>
      simp only at h
      split at h
      · rename_i hs
        simp only [Option.some.injEq, Prod.mk.injEq] at h
        obtain ⟨rfl, rfl⟩ := h
        refine ⟨s.data.toList, ⟨hs, hb H _⟩, RList_cons.2 ⟨_, _, rfl, R_str.2 (by simp), RList_nil.2 rfl⟩, fun W' _ => ?_⟩
        unfold DataW.trod
        rw [ht]
        simp [hs]
      · cases h

/-- An argument. -/
theorem opens_sliceU {t e : TypeId} {k : Nat} (ht : P.underlying t = some (.slice e)) (hk : P.cellsOf e = k) (hk0 : 0 < k) (he : Opens P bulk e av ok) (hlen : ∀ x, (av x).length = k)
    (hb : ∀ (H : Type) (es sp : List (DataW H)) (d : DataW H), d ∈ es → bulk H d ≤ bulk H (.slice es sp)) :
    Opens P bulk t (fun l : List α => [.slice 0 (l.map av)]) (fun l n => (∀ x ∈ l, ∃ m, m ≤ n ∧ ok x m) ∧ l.length ≤ maxLen) := by
  intro H enc W fuel cs d ps h
  cases fuel with
  | zero => simp [DataW.trod] at h
  | succ fuel =>
    have h' := h
    unfold DataW.trod at h
    rw [ht] at h
    match cs, h with
    | [.slice none 0 0], h =>
      simp only [Option.some.injEq, Prod.mk.injEq] at h
      obtain ⟨rfl, rfl⟩ := h
      refine ⟨[], ⟨fun x hx => (by cases hx), Nat.zero_le _⟩, RList_cons.2 ⟨_, _, rfl, ?_, RList_nil.2 rfl⟩, fun W' _ => by unfold DataW.trod; rw [ht]; rfl⟩
      exact R_slice.2 ⟨fun h => absurd rfl h, .inl ⟨rfl, none, 0, rfl, fun _ => rfl, fun _ => rfl⟩⟩
    | [.slice (some a) len cap], h =>
      simp only [hk] at h
      split at h
      · rename_i hc
        obtain ⟨elems, hel, h⟩ := Option.bind_eq_some_iff.1 h
        obtain ⟨rest, hrest, h⟩ := Option.map_eq_some_iff.1 h
        rw [if_pos trivial] at hrest
        -- each element
        have each : ∀ (n s : Nat) (xs : List (DataW H × List MemPlace)), ((List.range' s n).mapM fun i => (W.cells? 0 (a.add (i * k)) k).bind (DataW.trod enc P W 0 (fun _ => true) true fuel e)) = some xs →
            (0 < n → a.block < W.heap.size ∧ (s = 0 → a.spot = none)) ∧ (∃ l : List α, l.length = n ∧ (∀ x ∈ l, ∃ y ∈ xs, ok x (bulk H y.1)) ∧ (∀ b o, a = ⟨b, o, none⟩ → RElems (startG W) W k b (o + s * k) (l.map av))) ∧
            ∀ W', Kept W W' → ((List.range' s n).mapM fun i => (W'.cells? 0 (a.add (i * k)) k).bind (DataW.trod enc P W' 0 (fun b => decide (b < W.heap.size)) true fuel e)) = some xs := by
          intro n
          induction n with
          | zero =>
            intro s xs hx
            simp only [List.range'_zero, List.mapM_nil, Option.pure_def, Option.some.injEq] at hx
            subst hx
            exact ⟨fun h => absurd h (by omega), ⟨[], rfl, fun x hx => (by cases hx), fun _ _ _ => by simp [RElems]⟩, fun _ _ => by simp⟩
          | succ n ih =>
            intro s xs hx
            rw [List.range'_succ, List.mapM_cons] at hx
            obtain ⟨y, hy, hx⟩ := Option.bind_eq_some_iff.1 hx
            obtain ⟨ys, hys, hx⟩ := Option.bind_eq_some_iff.1 hx
            simp only [Option.pure_def, Option.some.injEq] at hx
            subst hx
            obtain ⟨us, hus, htr⟩ := Option.bind_eq_some_iff.1 hy
            obtain ⟨x, hox, hR, hK⟩ := he H enc W fuel us y.1 y.2 htr
            obtain ⟨i1, ⟨l, hl, hok, hre⟩, i3⟩ := ih (s + 1) ys hys
            have hbl : (a.add (s * k)).block = a.block := by unfold Addr.add; split <;> rfl
            have hsp : (a.add (s * k)).spot = none → s * k = 0 → a.spot = none := fun h h0 => by unfold Addr.add at h; rw [if_pos h0] at h; exact h
            obtain ⟨_, hb, hs⟩ := cells_kept (W' := W) ⟨rfl, rfl, Nat.le_refl _, fun _ _ => rfl⟩ hk0 hus
            rw [hbl] at hb
            refine ⟨fun _ => ⟨hb, fun h0 => hsp hs (by rw [h0]; simp)⟩, ⟨x :: l, by simp [hl], fun z hz => ?_, fun b o hab => ?_⟩, fun W' K => ?_⟩
            · rcases List.mem_cons.1 hz with rfl | hz
              · exact ⟨y, by simp, hox⟩
              · obtain ⟨y', h1, h2⟩ := hok z hz
                exact ⟨y', List.mem_cons_of_mem _ h1, h2⟩
            · simp only [List.map_cons, RElems]
              subst hab
              rw [Addr.add_lit] at hus
              obtain ⟨c1, c2⟩ := cells_row k us hus
              refine ⟨hlen x, rcells_of _ us _ hR c2, ?_⟩
              have := hre b o rfl
              rwa [show o + s * k + k = o + (s + 1) * k by rw [Nat.add_mul]; omega]
            · rw [List.range'_succ, List.mapM_cons]
              rw [(cells_kept K hk0 hus).1]
              simp only [Option.bind_some]
              rw [show DataW.trod enc P W' 0 (fun b => decide (b < W.heap.size)) true fuel e us = some y from hK W' K]
              simp only [Option.bind_eq_bind, Option.bind_some]
              rw [i3 W' K]
              rfl
        rw [List.range_eq_range'] at hel
        obtain ⟨e1, ⟨l, hl, hok, hre⟩, e3⟩ := each len 0 elems hel
        have hd : ∀ y ∈ elems, bulk H y.1 ≤ bulk H d := fun y hy => by
          simp only [Prod.mk.injEq] at h
          rw [← h.1]
          exact hb H _ _ _ (List.mem_map.2 ⟨y, hy, rfl⟩)
        refine ⟨l, ⟨fun x hx => (by obtain ⟨y, h1, h2⟩ := hok x hx; exact ⟨_, hd y h1, h2⟩), by have := hc.2.1; have := hc.2.2; omega⟩, RList_cons.2 ⟨_, _, rfl, ?_, RList_nil.2 rfl⟩, fun W' K => ?_⟩
        · refine R_slice.2 ⟨fun h => absurd rfl h, ?_⟩
          by_cases h0 : len = 0
          · subst h0
            have : l = [] := List.eq_nil_of_length_eq_zero hl
            subst this
            exact .inl ⟨rfl, some a, cap, rfl, (fun h => by cases h), (fun h => by cases h)⟩
          · obtain ⟨hb, hs⟩ := e1 (by omega)
            have hs := hs rfl
            obtain ⟨ab, ao, asp⟩ := a
            simp only at hs
            subst hs
            refine .inr ⟨ab, ao, cap, k, by simp [hl], by simp [hl]; exact hc.2.1, (fun h => by cases h), ?_, by simpa using hre ab ao rfl⟩
            intro hn
            have := congrArg List.length hn
            simp [hl] at this
            exact h0 this
        · unfold DataW.trod
          rw [ht]
          simp only [hk]
          rw [if_pos hc, List.range_eq_range', e3 W' K]
          simp only [Option.bind_some]
          have hr : (if decide (a.block < W.heap.size) = true then (List.range (cap - len)).mapM fun j => (W'.cells? 0 (a.add ((len + j) * k)) k).bind (DataW.trod enc P W' 0 (fun b => decide (b < W.heap.size)) true fuel e) else some []) = some rest := by
            have conv : ∀ (W : World) (sp : Nat → Bool), ((List.range (cap - len)).mapM fun j => (W.cells? 0 (a.add ((len + j) * k)) k).bind (DataW.trod enc P W 0 sp true fuel e)) =
                ((List.range' len (cap - len)).mapM fun i => (W.cells? 0 (a.add (i * k)) k).bind (DataW.trod enc P W 0 sp true fuel e)) := fun W sp => by
              have : List.range' len (cap - len) = (List.range (cap - len)).map (len + ·) := by rw [List.range'_eq_map_range]
              rw [this, List.mapM_map]
              rfl
            rw [conv] at hrest
            obtain ⟨r1, _, r3⟩ := each (cap - len) len rest hrest
            by_cases h0 : 0 < cap - len
            · rw [if_pos (by simpa using (r1 h0).1), conv]
              exact r3 W' K
            · have hz : cap - len = 0 := by omega
              rw [hz] at hrest ⊢
              simp only [List.range'_zero, List.mapM_nil, Option.pure_def, Option.some.injEq] at hrest
              subst hrest
              split <;> simp
          rw [hr]
          simp only [Option.map_some]
          rw [← h]
      · cases h
end
end Go.Ab
