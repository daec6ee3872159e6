/- How slices and structs are read. -/
import Derived.Test.YtcgobgnbpeageaaDoorAb22
set_option linter.all false
namespace Go.Ab
open Go

theorem cell_lt {W : World} {a : Addr} {v : Value} (h : W.cell? a = some v) : a.block < W.heap.size ∧ a.spot = none := by
  unfold World.cell? at h
  split at h
  · rename_i c T fr hb
    refine ⟨?_, ?_⟩
    · rcases Nat.lt_or_ge a.block W.heap.size with hh | hh
      · exact hh
      · rw [Array.getElem?_eq_none hh] at hb; cases hb
    · cases hs : a.spot with
      | none => rfl
      | some x => rw [hs] at h; simp at h
  · cases h

theorem Kept.cell {W W' : World} (K : Kept W W') {a : Addr} (h : a.block < W.heap.size) : W'.cell? a = W.cell? a := by
  unfold World.cell?
  rw [K.at_ _ h]

theorem add_add (b o i j : Nat) : ((⟨b, o, none⟩ : Addr).add i).add j = ⟨b, o + i + j, none⟩ := by rw [Addr.add_lit, Addr.add_lit]

/-- k cells in a row. -/
theorem cells_row {W : World} {b o : Nat} : ∀ (k : Nat) (cs : List Value), W.cells? 0 ⟨b, o, none⟩ k = some cs → cs.length = k ∧ ∀ i v, cs[i]? = some v → W.cell? ⟨b, o + i, none⟩ = some v := by
  intro k cs h
  unfold World.cells? at h
  rw [if_pos (Nat.zero_le _)] at h
  have key : ∀ (n s : Nat) (cs : List Value), ((List.range' s n).mapM fun i => W.cell? ((⟨b, o, none⟩ : Addr).add i)) = some cs → cs.length = n ∧ ∀ i v, cs[i]? = some v → W.cell? ⟨b, o + (s + i), none⟩ = some v := by
    intro n
    induction n with
    | zero =>
      intro s cs h
      simp only [List.range'_zero, List.mapM_nil, Option.pure_def, Option.some.injEq] at h
      subst h
      simp
    | succ n ih =>
      intro s cs h
      rw [List.range'_succ, List.mapM_cons] at h
      obtain ⟨v, hv, h⟩ := Option.bind_eq_some_iff.1 h
      obtain ⟨vs, hvs, h⟩ := Option.bind_eq_some_iff.1 h
      simp only [Option.pure_def, Option.some.injEq] at h
      subst h
      obtain ⟨h1, h2⟩ := ih (s + 1) vs hvs
      refine ⟨by simp [h1], fun i u hu => ?_⟩
      cases i with
      | zero =>
        simp only [List.getElem?_cons_zero, Option.some.injEq] at hu
        subst hu
        rw [Addr.add_lit] at hv; exact hv
      | succ i =>
        have := h2 i u (by simpa using hu)
        rwa [show s + (i + 1) = s + 1 + i by omega]
  rw [List.range_eq_range'] at h
  obtain ⟨h1, h2⟩ := key k 0 cs h
  exact ⟨h1, fun i v hv => by simpa using h2 i v hv⟩

theorem rcells_of {W : World} {b : Nat} : ∀ (avs : List AV) (cs : List Value) (o : Nat), RList (startG W) W avs cs → (∀ i v, cs[i]? = some v → W.cell? ⟨b, o + i, none⟩ = some v) → RCells (startG W) W b o avs
  | [], _, _, _, _ => by unfold RCells; trivial
  | a :: avs, cs, o, h, hc => by
    obtain ⟨u, us, rfl, hu, hs⟩ := RList_cons.1 h
    have h0 := hc 0 u rfl
    simp only [Nat.add_zero] at h0
    unfold RCells
    refine ⟨?_, ⟨u, h0, hu⟩, rcells_of avs us (o + 1) hs fun i v hv => ?_⟩
    · have := (cell_lt h0).1
      unfold Gh.good startG
      simp only at this ⊢
      rw [if_pos this]; trivial
    · have := hc (i + 1) v (by simpa using hv)
      rwa [show o + 1 + i = o + (i + 1) by omega]

section
variable {P : Program} {bulk : ∀ H : Type, DataW H → Nat} {α : Type} {av : α → List AV} {ok : α → Nat → Prop}

theorem cells_kept {W W' : World} (K : Kept W W') {a : Addr} {k : Nat} (hk : 0 < k) {cs : List Value} (h : W.cells? 0 a k = some cs) : W'.cells? 0 a k = some cs ∧ a.block < W.heap.size ∧ a.spot = none := by
  unfold World.cells? at h ⊢
  rw [if_pos (Nat.zero_le _)] at h ⊢
  obtain ⟨n, rfl⟩ : ∃ n, k = n + 1 := ⟨k - 1, by omega⟩
  have h0 : ∃ v, W.cell? (a.add 0) = some v := by
    rw [List.range_succ_eq_map, List.mapM_cons] at h
    obtain ⟨v, hv, _⟩ := Option.bind_eq_some_iff.1 h
    exact ⟨v, hv⟩
  obtain ⟨v, hv⟩ := h0
  have ha : a.add 0 = a := by simp [Addr.add]
  rw [ha] at hv
  obtain ⟨h1, h2⟩ := cell_lt hv
  refine ⟨?_, h1, h2⟩
  rw [← h]
  congr 1
  funext i
  refine K.cell ?_
  have : (a.add i).block = a.block := by unfold Addr.add; split <;> rfl
  rw [this]; exact h1

theorem opens_slice {t e : TypeId} {k : Nat} (ht : P.underlying t = some (.slice e)) (hk : P.cellsOf e = k) (hk0 : 0 < k) (he : Opens P bulk e av ok) (hlen : ∀ x, (av x).length = k) :
    Opens P bulk t (fun l : List α => [.slice 0 (l.map av)]) (fun l _ => (∀ x ∈ l, ∃ m, ok x m) ∧ l.length ≤ maxLen) := by
  intro H enc W fuel cs d ps h
  cases fuel with
  | zero => simp [DataW.trod] at h
  | succ fuel =>
    have h' := h
    unfold DataW.trod at h
    rw [ht] at h
    match cs, h with
    | [.slice none 0 0], h =>
      simp only [Option.some.injEq, Prod.mk.injEq] at h
      obtain ⟨rfl, rfl⟩ := h
      refine ⟨[], ⟨fun x hx => (by cases hx), Nat.zero_le _⟩, RList_cons.2 ⟨_, _, rfl, ?_, RList_nil.2 rfl⟩, fun W' _ => by unfold DataW.trod; rw [ht]; rfl⟩
      exact R_slice.2 ⟨fun h => absurd rfl h, .inl ⟨rfl, none, 0, rfl, fun _ => rfl, fun _ => rfl⟩⟩
    | [.slice (some a) len cap], h =>
      simp only [hk] at h
      split at h
      · rename_i hc
        obtain ⟨elems, hel, h⟩ := Option.bind_eq_some_iff.1 h
        obtain ⟨rest, hrest, h⟩ := Option.map_eq_some_iff.1 h
        rw [if_pos trivial] at hrest
        -- each element
        have each : ∀ (n s : Nat) (xs : List (DataW H × List MemPlace)), ((List.range' s n).mapM fun i => (W.cells? 0 (a.add (i * k)) k).bind (DataW.trod enc P W 0 (fun _ => true) true fuel e)) = some xs →
            (0 < n → a.block < W.heap.size ∧ (s = 0 → a.spot = none)) ∧ (∃ l : List α, l.length = n ∧ (∀ x ∈ l, ∃ m, ok x m) ∧ (∀ b o, a = ⟨b, o, none⟩ → RElems (startG W) W k b (o + s * k) (l.map av))) ∧
            ∀ W', Kept W W' → ((List.range' s n).mapM fun i => (W'.cells? 0 (a.add (i * k)) k).bind (DataW.trod enc P W' 0 (fun b => decide (b < W.heap.size)) true fuel e)) = some xs := by
          intro n
          induction n with
          | zero =>
            intro s xs hx
            simp only [List.range'_zero, List.mapM_nil, Option.pure_def, Option.some.injEq] at hx
            subst hx
            exact ⟨fun h => absurd h (by omega), ⟨[], rfl, fun x hx => (by cases hx), fun _ _ _ => by simp [RElems]⟩, fun _ _ => by simp⟩
          | succ n ih =>
            intro s xs hx
            rw [List.range'_succ, List.mapM_cons] at hx
            obtain ⟨y, hy, hx⟩ := Option.bind_eq_some_iff.1 hx
            obtain ⟨ys, hys, hx⟩ := Option.bind_eq_some_iff.1 hx
            simp only [Option.pure_def, Option.some.injEq] at hx
            subst hx
            obtain ⟨us, hus, htr⟩ := Option.bind_eq_some_iff.1 hy
            obtain ⟨x, hox, hR, hK⟩ := he H enc W fuel us y.1 y.2 htr
            obtain ⟨i1, ⟨l, hl, hok, hre⟩, i3⟩ := ih (s + 1) ys hys
            have hbl : (a.add (s * k)).block = a.block := by unfold Addr.add; split <;> rfl
            have hsp : (a.add (s * k)).spot = none → s * k = 0 → a.spot = none := fun h h0 => by unfold Addr.add at h; rw [if_pos h0] at h; exact h
            obtain ⟨_, hb, hs⟩ := cells_kept (W' := W) ⟨rfl, rfl, Nat.le_refl _, fun _ _ => rfl⟩ hk0 hus
            rw [hbl] at hb
            refine ⟨fun _ => ⟨hb, fun h0 => hsp hs (by rw [h0]; simp)⟩, ⟨x :: l, by simp [hl], fun z hz => ?_, fun b o hab => ?_⟩, fun W' K => ?_⟩
            · rcases List.mem_cons.1 hz with rfl | hz
              · exact ⟨_, hox⟩
              · exact hok z hz
            · simp only [List.map_cons, RElems]
              subst hab
              rw [Addr.add_lit] at hus
              obtain ⟨c1, c2⟩ := cells_row k us hus
              refine ⟨hlen x, rcells_of _ us _ hR c2, ?_⟩
              have := hre b o rfl
              rwa [show o + s * k + k = o + (s + 1) * k by rw [Nat.add_mul]; omega]
            · rw [List.range'_succ, List.mapM_cons]
              rw [(cells_kept K hk0 hus).1]
              simp only [Option.bind_some]
              rw [show DataW.trod enc P W' 0 (fun b => decide (b < W.heap.size)) true fuel e us = some y from hK W' K]
              simp only [Option.bind_eq_bind, Option.bind_some]
              rw [i3 W' K]
              rfl
        rw [List.range_eq_range'] at hel
        obtain ⟨e1, ⟨l, hl, hok, hre⟩, e3⟩ := each len 0 elems hel
        refine ⟨l, ⟨hok, by have := hc.2.1; have := hc.2.2; omega⟩, RList_cons.2 ⟨_, _, rfl, ?_, RList_nil.2 rfl⟩, fun W' K => ?_⟩
        · refine R_slice.2 ⟨fun h => absurd rfl h, ?_⟩
          by_cases h0 : len = 0
          · subst h0
            have : l = [] := List.eq_nil_of_length_eq_zero hl
            subst this
            exact .inl ⟨rfl, some a, cap, rfl, (fun h => by cases h), (fun h => by cases h)⟩
          · obtain ⟨hb, hs⟩ := e1 (by omega)
            have hs := hs rfl
            obtain ⟨ab, ao, asp⟩ := a
            simp only at hs
            subst hs
            refine .inr ⟨ab, ao, cap, k, by simp [hl], by simp [hl]; exact hc.2.1, (fun h => by cases h), ?_, by simpa using hre ab ao rfl⟩
            intro hn
            have := congrArg List.length hn
            simp [hl] at this
            exact h0 this
        · unfold DataW.trod
          rw [ht]
          simp only [hk]
          rw [if_pos hc, List.range_eq_range', e3 W' K]
          simp only [Option.bind_some]
          have hr : (if decide (a.block < W.heap.size) = true then (List.range (cap - len)).mapM fun j => (W'.cells? 0 (a.add ((len + j) * k)) k).bind (DataW.trod enc P W' 0 (fun b => decide (b < W.heap.size)) true fuel e) else some []) = some rest := by
            have conv : ∀ (W : World) (sp : Nat → Bool), ((List.range (cap - len)).mapM fun j => (W.cells? 0 (a.add ((len + j) * k)) k).bind (DataW.trod enc P W 0 sp true fuel e)) =
                ((List.range' len (cap - len)).mapM fun i => (W.cells? 0 (a.add (i * k)) k).bind (DataW.trod enc P W 0 sp true fuel e)) := fun W sp => by
              have : List.range' len (cap - len) = (List.range (cap - len)).map (len + ·) := by rw [List.range'_eq_map_range]
              rw [this, List.mapM_map]
              rfl
            rw [conv] at hrest
            obtain ⟨r1, _, r3⟩ := each (cap - len) len rest hrest
            by_cases h0 : 0 < cap - len
            · rw [if_pos (by simpa using (r1 h0).1), conv]
              exact r3 W' K
            · have hz : cap - len = 0 := by omega
              rw [hz] at hrest ⊢
              simp only [List.range'_zero, List.mapM_nil, Option.pure_def, Option.some.injEq] at hrest
              subst hrest
              split <;> simp
          rw [hr]
          simp only [Option.map_some]
          rw [← h]
      · cases h
end

/-- Whole numbers as a slice's elements. -/
def intsA (k : IntKind) (l : List Int) : List (List AV) := l.map fun n => [.int k n]
theorem intsA_len (k : IntKind) (l : List Int) : (intsA k l).length = l.length := by simp [intsA]
theorem intsA_get {k : IntKind} {l : List Int} {i : Nat} (h : i < l.length) : (intsA k l).getD i [] = [.int k (l.getD i 0)] := by
  simp [intsA, List.getD, h]
theorem drop_int {l : List Int} {i : Nat} (h : i < l.length) : l.drop i = l.getD i 0 :: l.drop (i + 1) := by
  rw [List.drop_eq_getElem_cons h]
  simp [List.getD, h]
theorem getD_mem {l : List Int} {i : Nat} (h : i < l.length) : l.getD i 0 ∈ l := by
  simp [List.getD, h]

/-- Texts as a slice's elements. -/
def strsA (l : List (List UInt8)) : List (List AV) := l.map fun s => [.str s]
theorem strsA_len (l : List (List UInt8)) : (strsA l).length = l.length := by simp [strsA]
theorem strsA_get {l : List (List UInt8)} {i : Nat} (h : i < l.length) : (strsA l).getD i [] = [.str (l.getD i [])] := by
  simp [strsA, List.getD, h]
theorem drop_str {l : List (List UInt8)} {i : Nat} (h : i < l.length) : l.drop i = l.getD i [] :: l.drop (i + 1) := by
  rw [List.drop_eq_getElem_cons h]
  simp [List.getD, h]
end Go.Ab
