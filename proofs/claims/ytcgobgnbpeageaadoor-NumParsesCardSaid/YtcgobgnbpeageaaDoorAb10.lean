/- Memory: new boxes, stores, new rows. -/
import Derived.Test.YtcgobgnbpeageaaDoorAb9
set_option linter.all false
namespace Go.Ab
open Go

def Sto.set (s : Sto) (b : Nat) (T : TypeId) (cs : List AV) : Sto where
  bx := fun i => if i = b then some (T, cs) else s.bx i
  lv := s.lv
  fin := s.fin.elim fun N h => ⟨N + b + 1, fun i hi => by rw [if_neg (by omega)]; exact h i (by omega)⟩
/-- Token t is spent, t' is live (1 is no live token: it needs no leave). -/
def Sto.grow (s : Sto) (t t' : Nat) (e : TypeId) (k : Nat) : Sto := { s with lv := fun u e' k' => (u = t' ∧ t' ≠ 1 ∧ e' = e ∧ k' = k) ∨ (s.lv u e' k' ∧ (u ≠ t ∨ t = 1)) }

section
variable {P : Program} {Γ : Nat → AV} {G : Gh} {w : World} {s : Sto}

theorem heap_alloc_lt (w : World) (o : Obj) {k : Nat} (h : k < w.heap.size) : (w.alloc o).heap[k]? = w.heap[k]? := by
  show (w.heap.push o)[k]? = _
  rw [Array.getElem?_push, if_neg (by omega)]
theorem heap_alloc_at (w : World) (o : Obj) : (w.alloc o).heap[w.heap.size]? = some o := by
  show (w.heap.push o)[w.heap.size]? = _
  rw [Array.getElem?_push, if_pos rfl]

/-- A world in which all that was there is as it was. -/
theorem Ext.of_same {w' : World} (hm : Mod Γ G s w) (os : w'.os = w.os) (tape : w'.tape = w.tape) (output : w'.output = w.output) (size : w.heap.size ≤ w'.heap.size)
    {G' : Gh} (hk : ∀ b, b < w.heap.size → G'.kd b = G.kd b) (htk : ∀ t, G.tk t ≠ .nilFunc → G'.tk t = G.tk t)
    (h : ∀ k, k < w.heap.size → G.kd k ≠ .free → w'.heap[k]? = w.heap[k]?) : Ext G w G' w' where
  os := os
  tape := tape
  output := output
  size := size
  fixd b hb := by
    have hlt := hm.dom b (by rw [hb]; simp)
    exact ⟨(hk b hlt).trans hb, h b hlt (by rw [hb]; simp)⟩
  row b n hb := by
    have hlt := hm.dom b (by rw [hb]; simp)
    exact ⟨.inr ⟨n, Nat.le_refl _, (hk b hlt).trans hb⟩, fun o _ => World.cell?_of_block (w := w) (h b hlt (by rw [hb]; simp))⟩
  tok := htk

theorem Ext.alloc (hm : Mod Γ G s w) (o : Obj) : Ext G w G (w.alloc o) :=
  Ext.of_same (w' := w.alloc o) hm rfl rfl rfl (by simp) (fun _ _ => rfl) (fun _ _ => rfl) fun _ hk _ => heap_alloc_lt w o hk

theorem box_lt (hm : Mod Γ G s w) {b : Nat} {x : TypeId × List AV} (h : s.bx b = some x) : b < w.heap.size := by
  obtain ⟨T, cs⟩ := x
  obtain ⟨_, vs, hh, _⟩ := hm.box b T cs h
  rcases Nat.lt_or_ge b w.heap.size with hlt | hge
  · exact hlt
  · rw [Array.getElem?_eq_none hge] at hh; cases hh

theorem Top.mono {w' : World} {G' : Gh} {t b : Nat} {e : TypeId} {k : Nat} (hk : G'.kd b = G.kd b) (htk : G'.tk t = G.tk t) (hh : w'.heap[b]? = w.heap[b]?) (h : Top G w t b e k) : Top G' w' t b e k := by
  obtain ⟨len, cap, c, h1, h2, h3, h4, h5⟩ := h
  exact ⟨len, cap, c, htk.trans h1, h2, hk.trans h3, hh.trans h4, h5⟩

/-- A NEW BOX. -/
theorem Mod.box_new (hm : Mod Γ G s w) {T : TypeId} {cs : List AV} {vs : List Value} (hr : RList G w cs vs) :
    Mod Γ G (s.set w.heap.size T cs) (w.alloc (.cells vs.toArray T)) ∧ s.bx w.heap.size = none := by
  have X := Ext.alloc hm (.cells vs.toArray T)
  refine ⟨?_, ?_⟩
  · refine ⟨fun g => (hm.glob g).mono X, ?_, ?_, ?_, ?_, hm.fin⟩
    · intro b T' cs' hb
      simp only [Sto.set] at hb
      split at hb
      · rename_i hbe
        injection hb with hb; injection hb with h1 h2; subst h1 h2 hbe
        refine ⟨?_, vs, heap_alloc_at w _, hr.mono X _ _⟩
        cases hk : G.kd w.heap.size with
        | free => rfl
        | fixd => exact absurd (hm.dom _ (by rw [hk]; simp)) (by omega)
        | row n => exact absurd (hm.dom _ (by rw [hk]; simp)) (by omega)
      · obtain ⟨h1, us, h2, h3⟩ := hm.box b T' cs' hb
        exact ⟨h1, us, (heap_alloc_lt w _ (box_lt hm hb)).trans h2, h3.mono X _ _⟩
    · intro b hb
      have := hm.dom b hb
      simp; omega
    · intro t e k ht
      obtain ⟨h0, h1, b, h2⟩ := hm.live t e k ht
      have hb : b < w.heap.size := by
        obtain ⟨_, _, _, _, _, h3, _⟩ := h2
        exact hm.dom b (by rw [h3]; simp)
      exact ⟨h0, h1, b, h2.mono rfl rfl (heap_alloc_lt w _ hb)⟩
    · intro t u b e k e' k' ht hu h1 h2
      have hb : b < w.heap.size := by
        obtain ⟨_, _, _, _, _, h3, _⟩ := h1
        exact hm.dom b (by rw [h3]; simp)
      have hh := heap_alloc_lt w (.cells vs.toArray T) hb
      exact hm.apart t u b e k e' k' ht hu (h1.mono rfl rfl hh.symm) (h2.mono rfl rfl hh.symm)
  · cases hb : s.bx w.heap.size with
    | none => rfl
    | some x => exact absurd (box_lt hm hb) (by omega)

/-- A WORLD IN WHICH ONE BOX HAS OTHER CELLS. -/
theorem Mod.box_set (hm : Mod Γ G s w) {b : Nat} {T T' : TypeId} {cs cs' : List AV} {vs : List Value} {w' : World} (hb : s.bx b = some (T', cs)) (hr : RList G w cs' vs)
    (os : w'.os = w.os) (tape : w'.tape = w.tape) (output : w'.output = w.output) (size : w'.heap.size = w.heap.size)
    (hat : w'.heap[b]? = some (.cells vs.toArray T (0, 0))) (hne : ∀ k, k ≠ b → w'.heap[k]? = w.heap[k]?) :
    Mod Γ G (s.set b T cs') w' ∧ Ext G w G w' := by
  have hfree := (hm.box b T' cs hb).1
  have X : Ext G w G w' := Ext.of_same hm os tape output (by omega) (fun _ _ => rfl) (fun _ _ => rfl) fun k _ hk => hne k (fun he => hk (he ▸ hfree))
  refine ⟨⟨fun g => (hm.glob g).mono X, ?_, ?_, ?_, ?_, hm.fin⟩, X⟩
  · intro c T'' cs'' hc
    simp only [Sto.set] at hc
    split at hc
    · rename_i hbe
      injection hc with hc; injection hc with h1 h2; subst h1 h2 hbe
      exact ⟨hfree, vs, hat, hr.mono X _ _⟩
    · rename_i hbe
      obtain ⟨h1, us, h2, h3⟩ := hm.box c T'' cs'' hc
      exact ⟨h1, us, (hne c hbe).trans h2, h3.mono X _ _⟩
  · intro c hc
    have := hm.dom c hc
    omega
  · intro t e k ht
    obtain ⟨h0, h1, c, h2⟩ := hm.live t e k ht
    have hcb : c ≠ b := by
      rintro rfl
      obtain ⟨_, _, _, _, _, h3, _⟩ := h2
      rw [hfree] at h3; cases h3
    exact ⟨h0, h1, c, h2.mono rfl rfl (hne c hcb)⟩
  · intro t u c e k e' k' ht hu h1 h2
    have hcb : c ≠ b := by
      rintro rfl
      obtain ⟨_, _, _, _, _, h3, _⟩ := h1
      rw [hfree] at h3; cases h3
    exact hm.apart t u c e k e' k' ht hu (h1.mono rfl rfl (hne c hcb).symm) (h2.mono rfl rfl (hne c hcb).symm)

theorem RCells_mk {G' : Gh} {w' : World} {b : Nat} {us : List Value} (hc : ∀ i v, us[i]? = some v → w'.cell? ⟨b, i, none⟩ = some v) (hg : ∀ i, i < us.length → G'.good b i) :
    ∀ (cs : List AV) (o : Nat) (vs : List Value), vs = us.drop o → RList G' w' cs vs → RCells G' w' b o cs
  | [], _, _, _, _ => by unfold RCells; trivial
  | c :: cs, o, vs, hv, hr => by
    obtain ⟨u, us', hvs, hu, hr⟩ := RList_cons.1 hr
    rw [hv] at hvs
    have hlt : o < us.length := by
      rcases Nat.lt_or_ge o us.length with h | h
      · exact h
      · rw [List.drop_of_length_le h] at hvs; cases hvs
    rw [List.drop_eq_getElem_cons hlt] at hvs
    injection hvs with h1 h2
    unfold RCells
    refine ⟨hg o hlt, ⟨u, hc o u (by rw [List.getElem?_eq_getElem hlt, h1]), hu⟩, RCells_mk hc hg cs (o + 1) us' h2.symm hr⟩

theorem RElems_mk {G' : Gh} {w' : World} {b k : Nat} : ∀ (es : List (List AV)) (o : Nat), (∀ e ∈ es, e.length = k) → RCells G' w' b o es.flatten → RElems G' w' k b o es
  | [], _, _, _ => by unfold RElems; trivial
  | e :: es, o, hl, h => by
    have he := hl e List.mem_cons_self
    rw [List.flatten_cons] at h
    unfold RElems
    have h1 := RCells_take e.length _ _ _ h
    have h2 := RCells_drop e.length _ _ _ h
    rw [List.take_left] at h1
    rw [List.drop_left, he] at h2
    exact ⟨he, h1, RElems_mk es (o + k) (fun x hx => hl x (List.mem_cons_of_mem _ hx)) h2⟩

def Gh.setKd (G : Gh) (b : Nat) (k : Kd) : Gh := { G with kd := fun i => if i = b then k else G.kd i }

/-- A NEW ROW THAT DOES NOT CHANGE. -/
theorem Mod.row_new (hm : Mod Γ G s w) (o : Obj) :
    Mod Γ (G.setKd w.heap.size .fixd) s (w.alloc o) ∧ Ext G w (G.setKd w.heap.size .fixd) (w.alloc o) := by
  have hk : ∀ b, b < w.heap.size → (G.setKd w.heap.size .fixd).kd b = G.kd b := fun b hb => by simp only [Gh.setKd]; rw [if_neg (by omega)]
  have X : Ext G w (G.setKd w.heap.size .fixd) (w.alloc o) :=
    Ext.of_same (w' := w.alloc o) hm rfl rfl rfl (by simp) hk (fun _ _ => rfl) fun _ hk _ => heap_alloc_lt w o hk
  refine ⟨⟨fun g => (hm.glob g).mono X, ?_, ?_, ?_, ?_, hm.fin⟩, X⟩
  · intro b T cs hb
    obtain ⟨h1, us, h2, h3⟩ := hm.box b T cs hb
    have hlt := box_lt hm hb
    exact ⟨(hk b hlt).trans h1, us, (heap_alloc_lt w _ hlt).trans h2, h3.mono X _ _⟩
  · intro b hb
    simp only [Gh.setKd] at hb
    split at hb
    · simp; omega
    · have := hm.dom b hb; simp; omega
  · intro t e k ht
    obtain ⟨h0, h1, b, h2⟩ := hm.live t e k ht
    have hb : b < w.heap.size := by
      obtain ⟨_, _, _, _, _, h3, _⟩ := h2
      exact hm.dom b (by rw [h3]; simp)
    exact ⟨h0, h1, b, h2.mono (hk b hb) rfl (heap_alloc_lt w _ hb)⟩
  · intro t u b e k e' k' ht hu h1 h2
    have hb : b < w.heap.size := by
      rcases Nat.lt_or_ge b w.heap.size with h | h
      · exact h
      · obtain ⟨_, _, _, _, _, h3, _⟩ := h1
        simp only [Gh.setKd] at h3
        split at h3
        · cases h3
        · exact hm.dom b (by rw [h3]; simp)
    have hh := heap_alloc_lt w o hb
    exact hm.apart t u b e k e' k' ht hu (h1.mono (hk b hb).symm rfl hh.symm) (h2.mono (hk b hb).symm rfl hh.symm)

/-- A draw turns nothing. -/
theorem Mod.drew (hm : Mod Γ G s w) : Mod Γ G s w.drew ∧ Ext G w G w.drew := by
  have X : Ext G w G w.drew := Ext.of_same (w' := w.drew) hm rfl rfl rfl (Nat.le_refl _) (fun _ _ => rfl) (fun _ _ => rfl) fun _ _ _ => rfl
  refine ⟨⟨fun g => (hm.glob g).mono X, ?_, hm.dom, ?_, ?_, hm.fin⟩, X⟩
  · intro b T cs hb
    obtain ⟨h1, us, h2, h3⟩ := hm.box b T cs hb
    exact ⟨h1, us, h2, h3.mono X _ _⟩
  · intro t e k ht
    obtain ⟨h0, h1, b, h2⟩ := hm.live t e k ht
    exact ⟨h0, h1, b, h2.mono rfl rfl rfl⟩
  · intro t u b e k e' k' ht hu h1 h2
    exact hm.apart t u b e k e' k' ht hu (h1.mono rfl rfl rfl) (h2.mono rfl rfl rfl)

/-- A NEW ROW OF THE CALL'S OWN, with room: a fresh token for it; token t is spent. -/
theorem Mod.row_own (hm : Mod Γ G s w) (t : Nat) {cells : Array Value} {e : TypeId} {k need cap : Nat} (hsz : cells.size = cap * k) (hle : need ≤ cap) :
    ∃ t' G', Mod Γ G' (s.grow t t' e k) (w.drew.alloc (.cells cells e)) ∧ Ext G w G' (w.drew.alloc (.cells cells e)) ∧ t' ≠ 0 ∧ t' ≠ 1 ∧
      G'.tk t' = .slice (some ⟨w.heap.size, 0, none⟩) need cap ∧ G'.kd w.heap.size = .row (need * k) ∧ ∀ e' k', ¬ s.lv t' e' k' := by
  obtain ⟨N, hN⟩ := hm.fin
  let t' := N + 2
  let G' : Gh := { kd := fun i => if i = w.heap.size then .row (need * k) else G.kd i, tk := fun i => if i = t' then .slice (some ⟨w.heap.size, 0, none⟩) need cap else G.tk i }
  have hk : ∀ b, b < w.heap.size → G'.kd b = G.kd b := fun b hb => by show (if b = w.heap.size then _ else _) = _; rw [if_neg (by omega)]
  have htk : ∀ u, G.tk u ≠ .nilFunc → G'.tk u = G.tk u := fun u hu => by
    show (if u = t' then _ else _) = _
    rw [if_neg]
    rintro rfl
    exact hu (hN _ (by omega))
  have hh : ∀ j, j < w.heap.size → (w.drew.alloc (.cells cells e)).heap[j]? = w.heap[j]? := fun j hj => heap_alloc_lt w.drew _ hj
  have X : Ext G w G' (w.drew.alloc (.cells cells e)) := Ext.of_same (w' := w.drew.alloc (.cells cells e)) hm rfl rfl rfl (by simp) hk htk fun j hj _ => hh j hj
  have hat : (w.drew.alloc (.cells cells e)).heap[w.heap.size]? = some (.cells cells e) := heap_alloc_at w.drew _
  have hnew : G'.tk t' = .slice (some ⟨w.heap.size, 0, none⟩) need cap := by show (if t' = t' then _ else _) = _; rw [if_pos rfl]
  have hrow : G'.kd w.heap.size = .row (need * k) := by show (if w.heap.size = w.heap.size then _ else _) = _; rw [if_pos rfl]
  have htop : Top G' (w.drew.alloc (.cells cells e)) t' w.heap.size e k := ⟨need, cap, cells, hnew, hle, hrow, hat, hsz⟩
  have hlt : ∀ {u b e' k'}, Top G w u b e' k' → b < w.heap.size := fun h => by
    obtain ⟨_, _, _, _, _, h3, _⟩ := h
    exact hm.dom _ (by rw [h3]; simp)
  have hnil : ∀ {u b e' k'}, Top G w u b e' k' → G.tk u ≠ .nilFunc := fun h => by
    obtain ⟨_, _, _, h1, _⟩ := h
    rw [h1]; simp
  have up : ∀ {u b e' k'}, Top G w u b e' k' → Top G' (w.drew.alloc (.cells cells e)) u b e' k' := fun h => h.mono (hk _ (hlt h)) (htk _ (hnil h)) (hh _ (hlt h))
  have same : ∀ {u b b' e' k'}, s.lv u e' k' → Top G w u b e' k' → Top G' (w.drew.alloc (.cells cells e)) u b' e' k' → b = b' := fun _ h h' => by
    obtain ⟨_, _, _, h1, _⟩ := h
    obtain ⟨_, _, _, h2, _⟩ := h'
    rw [htk _ (by rw [h1]; simp), h1] at h2
    injection h2 with h2; injection h2 with h2; injection h2
  refine ⟨t', G', ⟨fun g => (hm.glob g).mono X, ?_, ?_, ?_, ?_, ?_⟩, X, by omega, by omega, hnew, hrow, fun e' k' hl => ?_⟩
  · intro b T cs hb
    obtain ⟨h1, us, h2, h3⟩ := hm.box b T cs hb
    have hl := box_lt hm hb
    exact ⟨(hk b hl).trans h1, us, (hh b hl).trans h2, h3.mono X _ _⟩
  · intro b hb
    show b < (w.drew.alloc (.cells cells e)).heap.size
    simp only [World.size_alloc, World.size_drew]
    by_cases hbe : b = w.heap.size
    · omega
    · have : G'.kd b = G.kd b := by show (if b = w.heap.size then _ else _) = _; rw [if_neg hbe]
      rw [this] at hb
      have := hm.dom b hb; omega
  · intro u e' k' hu
    rcases hu with ⟨rfl, _, rfl, rfl⟩ | ⟨hu, _⟩
    · exact ⟨by omega, by omega, _, htop⟩
    · obtain ⟨h0, h1, b, h2⟩ := hm.live u e' k' hu
      exact ⟨h0, h1, b, up h2⟩
  · intro u v b e1 k1 e2 k2 hu hv h1 h2
    have blk : ∀ {u b e' k'}, (u = t' ∧ t' ≠ 1 ∧ e' = e ∧ k' = k) → Top G' (w.drew.alloc (.cells cells e)) u b e' k' → b = w.heap.size := fun h h' => by
      obtain ⟨rfl, _⟩ := h
      obtain ⟨_, _, _, h2, _⟩ := h'
      rw [hnew] at h2
      injection h2 with h2; injection h2 with h2; injection h2 with h2; exact h2.symm
    rcases hu with hu | ⟨hu, _⟩
    · rcases hv with hv | ⟨hv, _⟩
      · exact hu.1.trans hv.1.symm
      · have hb := blk hu h1
        obtain ⟨_, _, b', h3⟩ := hm.live v e2 k2 hv
        have := same hv h3 h2
        have := hlt h3
        omega
    · obtain ⟨_, _, b', h3⟩ := hm.live u e1 k1 hu
      have hb' := same hu h3 h1
      have hb'' := hlt h3
      rcases hv with hv | ⟨hv, _⟩
      · have := blk hv h2; omega
      · obtain ⟨_, _, b2, h4⟩ := hm.live v e2 k2 hv
        have hb2 := same hv h4 h2
        subst hb' hb2
        exact hm.apart u v _ e1 k1 e2 k2 hu hv h3 h4
  · refine ⟨N + 3, fun u hu => ?_⟩
    show (if u = t' then _ else _) = _
    rw [if_neg (by omega)]
    exact hN u (by omega)
  · obtain ⟨_, _, b', h3⟩ := hm.live t' e' k' hl
    exact hnil h3 (hN _ (by omega))

/-- A ROW OF THE CALL'S OWN GROWS IN PLACE. -/
theorem Mod.row_more (hm : Mod Γ G s w) {t b : Nat} {e : TypeId} {k len cap : Nat} {c : Array Value} {news : List Value} (hlv : s.lv t e k) (htk : G.tk t = .slice (some ⟨b, 0, none⟩) len cap)
    (hkd : G.kd b = .row (len * k)) (hb : w.heap[b]? = some (.cells c e (0, 0))) (hc : c.size = cap * k) {n : Nat} (hn : news.length = n * k) (hroom : len + n ≤ cap) :
    let w' := w.setRow b (c.toList.take (len * k) ++ news ++ c.toList.drop (len * k + news.length)).toArray
    ∃ t' G', Mod Γ G' (s.grow t t' e k) w' ∧ Ext G w G' w' ∧ t' ≠ 0 ∧ t' ≠ 1 ∧ G'.tk t' = .slice (some ⟨b, 0, none⟩) (len + n) cap ∧ G'.kd b = .row ((len + n) * k) ∧ ∀ e' k', ¬ s.lv t' e' k' := by
  intro w'
  have ht1 := (hm.live t e k hlv).2.1
  obtain ⟨N, hN⟩ := hm.fin
  let t' := N + 2
  let G' : Gh := { kd := fun i => if i = b then .row ((len + n) * k) else G.kd i, tk := fun i => if i = t' then .slice (some ⟨b, 0, none⟩) (len + n) cap else G.tk i }
  have hfit : len * k + n * k ≤ cap * k := by rw [← Nat.add_mul]; exact Nat.mul_le_mul_right _ hroom
  have hk : ∀ j, j ≠ b → G'.kd j = G.kd j := fun j hj => by show (if j = b then _ else _) = _; rw [if_neg hj]
  have htk' : ∀ u, G.tk u ≠ .nilFunc → G'.tk u = G.tk u := fun u hu => by
    show (if u = t' then _ else _) = _
    rw [if_neg]
    rintro rfl
    exact hu (hN _ (by omega))
  have hh : ∀ j, j ≠ b → w'.heap[j]? = w.heap[j]? := fun j hj => setRow_other w b j _ hj
  have hat : w'.heap[b]? = some (.cells _ e (0, 0)) := setRow_heap w b c _ e (0, 0) hb
  have hnew : G'.tk t' = .slice (some ⟨b, 0, none⟩) (len + n) cap := by show (if t' = t' then _ else _) = _; rw [if_pos rfl]
  have hrow : G'.kd b = .row ((len + n) * k) := by show (if b = b then _ else _) = _; rw [if_pos rfl]
  have X : Ext G w G' w' := by
    refine ⟨rfl, rfl, rfl, by simp [w'], ?_, ?_, htk'⟩
    · intro j hj
      have hjb : j ≠ b := by rintro rfl; rw [hkd] at hj; cases hj
      exact ⟨(hk j hjb).trans hj, hh j hjb⟩
    · intro j m hj
      by_cases hjb : j = b
      · subst hjb
        rw [hkd] at hj; injection hj with hj
        refine ⟨.inr ⟨_, ?_, hrow⟩, ?_⟩
        · rw [← hj, Nat.add_mul]; omega
        · intro o ho
          rw [← hj] at ho
          simp only [World.cell?, hat, hb]
          have hl : (c.toList.take (len * k)).length = len * k := by rw [List.length_take, Array.length_toList]; omega
          simp only [Option.isSome_none, Bool.false_eq_true, if_false, List.getElem?_toArray, List.append_assoc]
          rw [List.getElem?_append_left (by omega), List.getElem?_take, if_pos ho]
          simp
      · exact ⟨.inr ⟨m, Nat.le_refl _, (hk j hjb).trans hj⟩, fun o _ => World.cell?_of_block (w := w) (hh j hjb)⟩
  have htop0 : Top G w t b e k := by
    obtain ⟨_, _, b', h⟩ := hm.live t e k hlv
    have h' := h
    obtain ⟨_, _, _, h1, _⟩ := h'
    rw [htk] at h1
    injection h1 with h1; injection h1 with h1; injection h1 with h1
    rw [← h1] at h; exact h
  have htop : Top G' w' t' b e k := ⟨len + n, cap, _, hnew, hroom, hrow, hat, by
    simp only [List.size_toArray, List.length_append, List.length_take, List.length_drop, Array.length_toList]; omega⟩
  have hne : ∀ {u b' e' k'}, s.lv u e' k' → u ≠ t → Top G w u b' e' k' → b' ≠ b := fun hu hut h => by
    rintro rfl
    exact hut (hm.apart _ _ _ _ _ _ _ hu hlv h htop0)
  have hnil : ∀ {u b e' k'}, Top G w u b e' k' → G.tk u ≠ .nilFunc := fun h => by
    obtain ⟨_, _, _, h1, _⟩ := h
    rw [h1]; simp
  have up : ∀ {u b' e' k'}, s.lv u e' k' → u ≠ t → Top G w u b' e' k' → Top G' w' u b' e' k' := fun hu hut h => h.mono (hk _ (hne hu hut h)) (htk' _ (hnil h)) (hh _ (hne hu hut h))
  have same : ∀ {u b b' e' k'}, s.lv u e' k' → Top G w u b e' k' → Top G' w' u b' e' k' → b = b' := fun _ h h' => by
    obtain ⟨_, _, _, h1, _⟩ := h
    obtain ⟨_, _, _, h2, _⟩ := h'
    rw [htk' _ (by rw [h1]; simp), h1] at h2
    injection h2 with h2; injection h2 with h2; injection h2
  refine ⟨t', G', ⟨fun g => (hm.glob g).mono X, ?_, ?_, ?_, ?_, ?_⟩, X, by omega, by omega, hnew, hrow, fun e' k' hl => ?_⟩
  · intro j T cs hj
    obtain ⟨h1, us, h2, h3⟩ := hm.box j T cs hj
    have hjb : j ≠ b := by rintro rfl; rw [hkd] at h1; cases h1
    exact ⟨(hk j hjb).trans h1, us, (hh j hjb).trans h2, h3.mono X _ _⟩
  · intro j hj
    show j < w'.heap.size
    have : w'.heap.size = w.heap.size := by simp [w']
    rw [this]
    by_cases hjb : j = b
    · subst hjb; exact hm.dom j (by rw [hkd]; simp)
    · exact hm.dom j (by rw [← hk j hjb]; exact hj)
  · intro u e' k' hu
    rcases hu with ⟨rfl, _, rfl, rfl⟩ | ⟨hu, hut⟩
    · exact ⟨by omega, by omega, _, htop⟩
    · have hut := hut.resolve_right ht1
      obtain ⟨h0, h1, b', h2⟩ := hm.live u e' k' hu
      exact ⟨h0, h1, b', up hu hut h2⟩
  · intro u v b1 e1 k1 e2 k2 hu hv h1 h2
    have blk : ∀ {u b' e' k'}, (u = t' ∧ t' ≠ 1 ∧ e' = e ∧ k' = k) → Top G' w' u b' e' k' → b' = b := fun h h' => by
      obtain ⟨rfl, _⟩ := h
      obtain ⟨_, _, _, h2, _⟩ := h'
      rw [hnew] at h2
      injection h2 with h2; injection h2 with h2; injection h2 with h2; exact h2.symm
    rcases hu with hu | ⟨hu, hut⟩
    · rcases hv with hv | ⟨hv, hvt⟩
      · exact hu.1.trans hv.1.symm
      · have hvt := hvt.resolve_right ht1
        have hb := blk hu h1
        obtain ⟨_, _, b', h3⟩ := hm.live v e2 k2 hv
        have h4 := same hv h3 h2
        exact absurd (h4.trans hb) (hne hv hvt h3)
    · have hut := hut.resolve_right ht1
      obtain ⟨_, _, b', h3⟩ := hm.live u e1 k1 hu
      have hb' := same hu h3 h1
      rcases hv with hv | ⟨hv, hvt⟩
      · have := blk hv h2
        exact absurd (hb'.trans this) (hne hu hut h3)
      · obtain ⟨_, _, b2, h4⟩ := hm.live v e2 k2 hv
        have hb2 := same hv h4 h2
        subst hb' hb2
        exact hm.apart u v _ e1 k1 e2 k2 hu hv h3 h4
  · refine ⟨N + 3, fun u hu => ?_⟩
    show (if u = t' then _ else _) = _
    rw [if_neg (by omega)]
    exact hN u (by omega)
  · obtain ⟨_, _, b', h3⟩ := hm.live t' e' k' hl
    exact hnil h3 (hN _ (by omega))
end
end Go.Ab
