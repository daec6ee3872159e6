/- Each operation that leaves the store as it is, held against the model's. -/
import Derived.Test.YtcgobgnbpeageaaDoorAb7
import Derived.Lib.Strings
set_option linter.all false
namespace Go.Ab
open Go

section
variable {P : Program} {Γ : Nat → AV} {G : Gh} {w : World}

theorem abinop_ok {op : BinOp} {t : TypeId} {x y : AV} {K : AV → Prop} (h : abinop P op t x y K) {u v : Value} (hx : R G w x u) (hy : R G w y v) :
    ∃ z r, Yields P w op t u v z ∧ K r ∧ R G w r z := by
  cases op
  case eql => obtain ⟨r, hk, h1, _⟩ := aeq_ok h hx hy; exact ⟨_, _, h1, hk, R_bool.2 rfl⟩
  case neq => obtain ⟨r, hk, _, h1⟩ := aeq_ok h hx hy; exact ⟨_, _, h1, hk, R_bool.2 rfl⟩
  all_goals (unfold abinop at h; exact abin_ok t h hx hy)

theorem unB_ok : ∀ (es : List (List AV)) {l : List UInt8} {us : List Value}, unB es = some l → RList G w es.flatten us → (∃ ns : List Int, us = ns.map (Value.int .u8) ∧ l = ns.map fun n => UInt8.ofNat n.toNat) ∧ l.length = es.length
  | [], l, us, h, hr => by
    simp only [unB, Option.some.injEq] at h; subst h
    rw [List.flatten_nil, RList_nil] at hr; subst hr
    exact ⟨⟨[], rfl, rfl⟩, rfl⟩
  | e :: es, l, us, h, hr => by
    simp only [unB] at h
    split at h
    · rename_i b l' h1 h2
      injection h with h; subst h
      unfold byteOfA at h1
      split at h1
      · rename_i n
        injection h1 with h1; subst h1
        rw [List.flatten_cons, List.singleton_append] at hr
        obtain ⟨u, us', rfl, hu, hr'⟩ := RList_cons.1 hr
        rw [R_int] at hu; subst hu
        obtain ⟨⟨ns, rfl, rfl⟩, hl⟩ := unB_ok es h2 hr'
        exact ⟨⟨n :: ns, rfl, rfl⟩, by simp at hl ⊢; exact hl⟩
      · cases h1
    · cases h

theorem foldl_bytes (ns : List Int) : ∀ s : ByteArray, ns.foldl (fun r n => r.push (UInt8.ofNat n.toNat)) s = ⟨(s.data.toList ++ ns.map fun n => UInt8.ofNat n.toNat).toArray⟩ := by
  induction ns with
  | nil => intro s; simp
  | cons n ns ih =>
    intro s
    rw [List.foldl_cons, ih]
    simp [ByteArray.push]

theorem convBytes_ok {b o len cap : Nat} {es : List (List AV)} {l : List UInt8} {us : List Value} (hu : unB es = some l) (hr : RList G w es.flatten us) 
    (hc : ∀ i v, us[i]? = some v → w.cell? ⟨b, o + i, none⟩ = some v) (hl : us.length = len) :
    (Conv.bytesToString (.slice (some ⟨b, o, none⟩) len cap)).run P w = .ok (.string ⟨l.toArray⟩) w := by
  obtain ⟨⟨ns, rfl, rfl⟩, _⟩ := unB_ok es hu hr
  have := run_bytesToString (P := P) w ⟨b, o, none⟩ len cap ns (by
    have := run_loadCells_list (P := P) w ⟨b, o, none⟩ (ns.map (Value.int .u8)) (fun j v hj => by rw [Addr.add_lit]; exact hc j v hj)
    rw [hl] at this
    exact this)
  rw [this, foldl_bytes]
  simp

theorem flatten_chunks1 : ∀ (n : Nat) (cs : List AV), n ≤ cs.length → (chunks 1 n cs).flatten = cs.take n
  | 0, _, _ => rfl
  | n + 1, [], h => by simp at h
  | n + 1, c :: cs, h => by
    simp only [chunks, List.flatten_cons, List.drop_one, List.tail_cons, List.take_succ_cons, List.take_zero, List.singleton_append]
    rw [flatten_chunks1 n cs (by simpa using h)]

theorem u8_of {t : TypeId} (h : u8T P t = true) : P.underlying t = some (.int .u8) := by
  unfold u8T at h
  split at h
  · assumption
  · cases h

theorem aconv_ok {s : Sto} {src dst : TypeId} {x : AV} {K : AV → Prop} (hm : Mod Γ G s w) (h : aconv P s src dst x K) {v : Value} (hx : R G w x v) : ValOK P G w (convert src dst v) K := by
  unfold aconv at h
  cases hs : P.underlying src with
  | none => rw [hs] at h; exact h.elim
  | some ds =>
    cases hd : P.underlying dst with
    | none => rw [hs, hd] at h; cases ds <;> exact h.elim
    | some dd =>
      rw [hs, hd] at h
      split at h
      · rename_i kk k' n h1 h2
        injection h2 with h2; subst h2
        rw [R_int] at hx; subst hx
        refine ⟨_, _, ?_, h, R_int.2 rfl⟩
        simp only [convert, Sem.run_bind, run_under hs, run_under hd, Result.andThen_ok]
        rfl
      · rename_i l h1 h2
        injection h2 with h2; subst h2
        rw [R_str] at hx; subst hx
        refine ⟨_, _, ?_, h, R_str.2 rfl⟩
        simp only [convert, Sem.run_bind, run_under hs, run_under hd, Result.andThen_ok]
        cases ds <;> rfl
      · rename_i e t es h1 h2
        injection h1 with h1; subst h1
        injection h2 with h2; subst h2
        obtain ⟨he, h⟩ := chk_iff.1 h
        have he := u8_of he
        cases hu : unB es with
        | none => rw [hu] at h; exact h.elim
        | some l =>
          rw [hu] at h
          obtain ⟨a, cap, rfl, _, hnil, hels, _⟩ := slice_val hx
          refine ⟨_, _, ?_, h, R_str.2 rfl⟩
          by_cases hes : es = []
          · subst hes
            simp only [unB, Option.some.injEq] at hu; subst hu
            simp only [convert, Sem.run_bind, run_under hs, run_under hd, run_under he, Result.andThen_ok]
            cases a with
            | none => rfl
            | some a =>
              have := run_bytesToString (P := P) w a 0 cap [] (by simp [loadCells, loadCellsFrom])
              exact this
          · obtain ⟨b, o, k, rfl, hel⟩ := hels hes
            obtain ⟨us, hul, hur, huc⟩ := RElems_cells es hel
            have hk : k = 1 := by
              cases es with
              | nil => exact absurd rfl hes
              | cons e es =>
                unfold RElems at hel
                simp only [unB] at hu
                split at hu
                · rename_i h1 h2
                  unfold byteOfA at h1
                  split at h1
                  · simpa using hel.1.symm
                  · cases h1
                · cases hu
            subst hk
            simp only [convert, Sem.run_bind, run_under hs, run_under hd, run_under he, Result.andThen_ok]
            exact convBytes_ok hu hur huc (by simpa using hul)
      · rename_i e b o len cap h1 h2
        injection h1 with h1; subst h1
        injection h2 with h2; subst h2
        obtain ⟨he, h⟩ := chk_iff.1 h
        have he := u8_of he
        obtain ⟨T, cs, hb, hl, h⟩ := getB_iff h
        cases hu : unB (chunks 1 len (cs.drop o)) with
        | none => rw [hu] at h; exact h.elim
        | some l =>
          rw [hu] at h
          rw [R_raw] at hx; subst hx
          refine ⟨_, _, ?_, h, R_str.2 rfl⟩
          obtain ⟨us, hur, huc⟩ := box_cells hm hb
          simp only [convert, Sem.run_bind, run_under hs, run_under hd, run_under he, Result.andThen_ok]
          have hlen : len ≤ (cs.drop o).length := by rw [List.length_drop]; omega
          refine convBytes_ok (us := (us.drop o).take len) hu (by rw [flatten_chunks1 _ _ hlen]; exact RList_take len (RList_drop o hur)) ?_ ?_
          · intro i v hi
            rw [huc]
            rw [List.getElem?_take] at hi
            split at hi
            · rw [List.getElem?_drop] at hi; exact hi
            · cases hi
          · have := RList_length hur
            rw [List.length_take, List.length_drop]; omega
      · exact h.elim

theorem field_of {t : TypeId} {f off : Nat} {ft : TypeId} (h : fieldT P t f = some (off, ft)) :
    ∃ fs x i, P.underlying t = some (.struct fs) ∧ fs[f]? = some x ∧ P.info? ft = some i ∧ i.size ≠ 0 ∧ x.offset = off ∧ x.type = ft := by
  unfold fieldT at h
  split at h
  · rename_i fs hu
    split at h
    · rename_i x hx
      split at h
      · rename_i i hi
        split at h
        · cases h
        · rename_i hz
          injection h with h; injection h with h1 h2; subst h1 h2
          exact ⟨fs, x, i, hu, hx, hi, hz, rfl, rfl⟩
      · cases h
    · cases h
  · cases h

theorem run_fieldAt {t : TypeId} {f off : Nat} {ft : TypeId} (h : fieldT P t f = some (off, ft)) (b o : Nat) :
    (Instr.fieldAt t (.pointer (some ⟨b, o, none⟩)) f).run P w = .ok (.pointer (some ⟨b, o + off, none⟩)) w := by
  obtain ⟨fs, x, i, hu, hx, hi, hz, rfl, rfl⟩ := field_of h
  simp [Instr.fieldAt, run_under hu, hx, Instr.sureAddr, fieldPlace, run_sizeOf hi, hz, Addr.add_lit]

theorem aindexAddr_ok {t : TypeId} {x : AV} {n : Int} {K : AV → Prop} (h : aindexAddr P t x n K) {v : Value} (k : IntKind) (hx : R G w x v) : ValOK P G w (Instr.indexAt t v (.int k n)) K := by
  unfold aindexAddr at h
  split at h
  · rename_i tk es
    split at h
    · rename_i e he
      split at h
      rotate_left
      · exact h.elim
      rename_i k' hsz
      obtain ⟨h0, hn, hel', hk⟩ := h
      rw [frcL_eq] at hk
      subst hel'
      obtain ⟨a, cap, rfl, _, _, hels, _⟩ := slice_val hx
      obtain ⟨b, o, kk, rfl, hel⟩ := hels (by intro hh; subst hh; simp at hn)
      obtain ⟨hlen, hc⟩ := RElems_get es n.toNat hel hn
      obtain ⟨_, i, hi, hsi⟩ := size_of hsz
      refine ⟨.pointer (some ⟨b, o + n.toNat * kk, none⟩), _, ?_, hk, R_cptr.2 ⟨b, _, rfl, hc⟩⟩
      have hlt : n < (es.length : Int) := by omega
      have hs' : i.size = kk := hsi.trans hlen
      simp [Instr.indexAt, asIntOf, run_under (slice_of he), h0, hlt, run_sizeOf hi, Addr.add_lit, hs']
    · exact h.elim
  · rename_i b o len cap
    split at h
    · rename_i e he
      split at h
      · rename_i kk hsz
        obtain ⟨h0, hn, hk⟩ := h
        rw [R_raw] at hx; subst hx
        obtain ⟨_, i, hi, hsi⟩ := size_of hsz
        refine ⟨_, _, ?_, hk, R_ptr.2 rfl⟩
        have hlt : n < (len : Int) := by omega
        simp [Instr.indexAt, asIntOf, run_under (slice_of he), h0, hlt, run_sizeOf hi, Addr.add_lit, hsi]
      · exact h.elim
    · exact h.elim
  · rename_i cs
    split at h
    · rename_i len e he
      split at h
      · rename_i kk hsz
        obtain ⟨h0, hn, hk⟩ := h
        obtain ⟨b, o, rfl, hc⟩ := R_cptr.1 hx
        obtain ⟨_, i, hi, hsi⟩ := size_of hsz
        refine ⟨.pointer (some ⟨b, o + n.toNat * kk, none⟩), _, ?_, hk, R_cptr.2 ⟨b, _, rfl, RCells_drop _ _ _ _ hc⟩⟩
        have hlt : n < (len : Int) := by omega
        simp [Instr.indexAt, asIntOf, run_under (arr_of he), h0, hlt, run_sizeOf hi, Addr.add_lit, hsi, Instr.sureAddr]
      · exact h.elim
    · exact h.elim
  · rename_i b o
    split at h
    · rename_i len e he
      split at h
      · rename_i kk hsz
        obtain ⟨h0, hn, hk⟩ := h
        rw [R_ptr] at hx; subst hx
        obtain ⟨_, i, hi, hsi⟩ := size_of hsz
        refine ⟨_, _, ?_, hk, R_ptr.2 rfl⟩
        have hlt : n < (len : Int) := by omega
        simp [Instr.indexAt, asIntOf, run_under (arr_of he), h0, hlt, run_sizeOf hi, Addr.add_lit, hsi, Instr.sureAddr]
      · exact h.elim
    · exact h.elim
  · exact h.elim

theorem opt_ok {s : Sto} {n : Nat} {e : Env} {a : Act} (hm : Mod Γ G s w) (he : EnvR G w n e a) {x : Option Operand} (hx : ∀ y, x = some y → okX y = true) :
    (x.map (evA Γ e) = none ∧ x.map a.eval = none) ∨ ∃ c v, x.map (evA Γ e) = some c ∧ x.map a.eval = some v ∧ R G w c v := by
  cases x with
  | none => exact .inl ⟨rfl, rfl⟩
  | some y => exact .inr ⟨_, _, rfl, rfl, evA_ok hm he (hx y rfl)⟩

theorem aslice_ok {t : TypeId} {x : AV} {lo hi mx : Option AV} {K : AV → Prop} (h : aslice P t x lo hi mx K) {v : Value} {lv hv mv : Option Value} (hx : R G w x v)
    (hl : (lo = none ∧ lv = none) ∨ ∃ x v, lo = some x ∧ lv = some v ∧ R G w x v) (hh : (hi = none ∧ hv = none) ∨ ∃ x v, hi = some x ∧ hv = some v ∧ R G w x v)
    (hm : (mx = none ∧ mv = none) ∨ ∃ x v, mx = some x ∧ mv = some v ∧ R G w x v) : ValOK P G w (Instr.sliceAt t v lv hv mv) K := by
  unfold aslice at h
  split at h
  · rename_i l
    obtain ⟨hst, hq⟩ := chk_iff.1 h
    simp only [Bool.and_eq_true, Option.isNone_iff_eq_none, beq_iff_eq] at hst
    obtain ⟨rfl, hst⟩ := hst
    have hu : P.underlying t = some .string := by
      rcases leaf_of hst with ⟨h0, _⟩ | ⟨_, hi⟩ | ⟨h0, _⟩
      · omega
      · exact hi
      · omega
    have hmv : mv = none := by rcases hm with ⟨_, h⟩ | ⟨_, _, h, _⟩; exact h; cases h
    subst hmv
    obtain ⟨a, h', ⟨h1, h2, hk⟩, hr, _⟩ := run_bounds (P := P) false l.length l.length hq hh hl (fun a h hc => ⟨hc.1, hc.2.1⟩)
    rw [R_str] at hx; subst hx
    refine ⟨_, _, ?_, hk, R_str.2 rfl⟩
    have hsz : (ByteArray.mk l.toArray).size = l.length := by simp [ByteArray.size]
    simp only [Instr.sliceAt, Sem.run_bind, run_under hu, Result.andThen_ok, Instr.slice, Option.isSome_none, Bool.false_eq_true, if_false]
    rw [hsz]
    simp only [Sem.run_pure, hr, Result.andThen_ok]
    rw [Lib.extract_eq]
    have : ((ByteArray.mk l.toArray).data.toList.drop a).take (h' - a) = (l.take h').drop a := by
      simp [List.drop_take]
    rw [this]
  · rename_i tk es
    split at h
    · rename_i e he
      split at h
      · rename_i k hsz
        obtain ⟨_, i, hi', hsi⟩ := size_of hsz
        obtain ⟨av, cap, rfl, hcap, hnil, hels, htk⟩ := slice_val hx
        have key : ∀ a h', a ≤ h' → h' ≤ es.length → (∀ c ∈ es, c.length = k) → ∀ m, h' ≤ m → m ≤ cap →
            ((es.take h').drop a ≠ [] → ∃ b o k', (if m = a then av else av.map (·.add (a * k))) = some ⟨b, o, none⟩ ∧ RElems G w k' b o ((es.take h').drop a)) ∧
            ((if m = a then av else av.map (·.add (a * k))) = none → m - a = 0) := by
          intro a h' hah hhl hall m hhm hmc
          refine ⟨?_, ?_⟩
          · intro hne
            have hlt : a < h' := by
              rcases Nat.lt_or_ge a h' with hlt | hge
              · exact hlt
              · exact absurd (List.drop_eq_nil_of_le (by rw [List.length_take]; omega)) hne
            obtain ⟨b, o, k', rfl, hel⟩ := hels (by intro hh; subst hh; simp at hhl; omega)
            have hkk : k' = k := by
              cases es with
              | nil => simp at hhl; omega
              | cons e es => unfold RElems at hel; exact hel.1.symm.trans (hall e List.mem_cons_self)
            subst hkk
            refine ⟨b, o + a * k', k', ?_, RElems_drop a _ (RElems_take h' es hel)⟩
            rw [if_neg (by omega)]
            simp [Addr.add_lit]
          · intro hn
            split at hn
            · omega
            · have : av = none := by cases av with | none => rfl | some _ => cases hn
              have := hnil this
              omega
        split at h
        · have hmv : mv = none := by rcases hm with ⟨_, h⟩ | ⟨_, _, h, _⟩; exact h; cases h
          subst hmv
          obtain ⟨a, h', ⟨h1, h2, hall, hk⟩, hr, hl0, hh0⟩ := run_bounds (P := P) true es.length cap h hh hl (fun a h hc => ⟨hc.1, by have := hc.2.1; omega⟩)
          obtain ⟨k1, k2⟩ := key a h' h1 h2 hall cap (by omega) (Nat.le_refl _)
          have hrun : (Instr.sliceAt t (.slice av es.length cap) lv hv none).run P w = .ok (.slice (if cap = a then av else av.map (·.add (a * k))) (h' - a) (cap - a)) w := by
            simp only [Instr.sliceAt, Sem.run_bind, run_under (slice_of he), Result.andThen_ok, Instr.slice, hr, run_sizeOf hi', hsi, Sem.run_pure]
          have hlen : ((es.take h').drop a).length = h' - a := by rw [List.length_drop, List.length_take]; omega
          by_cases hboth : (lo.isNone && hi.isNone) = true
          · rw [if_pos hboth] at hk
            simp only [Bool.and_eq_true, Option.isNone_iff_eq_none] at hboth
            have ha := hl0 hboth.1
            have hh' := hh0 hboth.2
            subst ha hh'
            refine ⟨.slice av es.length cap, _, ?_, by simpa using hk, hx⟩
            rw [hrun]
            congr 2
            split
            · rfl
            · cases av <;> simp [Addr.add]
          · rw [if_neg hboth] at hk
            refine ⟨_, _, hrun, hk, ?_⟩
            rw [← hlen]
            exact R_slice0 (by rw [hlen]; omega) k2 k1
        · obtain ⟨hhi', h⟩ := chk_iff.1 h
          have hhi : hi ≠ none := by intro hn; subst hn; cases hhi'
          obtain ⟨a, h', m, ⟨h1, hmh, h2, hall, hk⟩, hr⟩ := run_bounds3 (P := P) es.length cap h (by simp) hhi hm hh hl (fun a h m hc => ⟨hc.1, by omega, by omega⟩)
          subst hmh
          obtain ⟨k1, k2⟩ := key a h' h1 h2 hall h' (Nat.le_refl _) (by omega)
          have hlen : ((es.take h').drop a).length = h' - a := by rw [List.length_drop, List.length_take]; omega
          refine ⟨.slice (if h' = a then av else av.map (·.add (a * k))) (h' - a) (h' - a), _, ?_, hk, ?_⟩
          · simp only [Instr.sliceAt, Sem.run_bind, run_under (slice_of he), Result.andThen_ok, Instr.slice, hr, run_sizeOf hi', hsi, Sem.run_pure]
          · have := R_slice1 (G := G) (w := w) (es := (es.take h').drop a) (a := if h' = a then av else av.map (·.add (a * k))) (cap := h' - a) hlen k2 k1
            rwa [hlen] at this
      · exact h.elim
    · exact h.elim
  · rename_i b o len cap
    split at h
    · rename_i e he
      split at h
      · rename_i k hsz
        obtain ⟨hmx, hq⟩ := chk_iff.1 h
        obtain rfl := Option.isNone_iff_eq_none.1 hmx
        have hmv : mv = none := by rcases hm with ⟨_, h⟩ | ⟨_, _, h, _⟩; exact h; cases h
        subst hmv
        obtain ⟨_, i, hi', hsi⟩ := size_of hsz
        rw [R_raw] at hx; subst hx
        obtain ⟨a, h', ⟨h1, h2, hk⟩, hr, _⟩ := run_bounds (P := P) true len cap hq hh hl (fun a h hc => ⟨hc.1, hc.2.1⟩)
        refine ⟨_, _, ?_, hk, R_raw.2 rfl⟩
        simp only [Instr.sliceAt, Sem.run_bind, run_under (slice_of he), Result.andThen_ok, Instr.slice, hr, run_sizeOf hi', hsi, Sem.run_pure]
        split
        · rfl
        · simp [Addr.add_lit]
      · exact h.elim
    · exact h.elim
  · rename_i cs
    split at h
    · rename_i n e he
      split at h
      · rename_i k hsz
        obtain ⟨hmx, hq⟩ := chk_iff.1 h
        obtain rfl := Option.isNone_iff_eq_none.1 hmx
        have hmv : mv = none := by rcases hm with ⟨_, h⟩ | ⟨_, _, h, _⟩; exact h; cases h
        subst hmv
        obtain ⟨_, i, hi', hsi⟩ := size_of hsz
        obtain ⟨b, o, rfl, hc⟩ := R_cptr.1 hx
        obtain ⟨a, h', ⟨h1, h2, hnk, hk⟩, hr, _⟩ := run_bounds (P := P) false n n hq hh hl (fun a h hc => ⟨hc.1, hc.2.1⟩)
        have hel := RElems_chunks k n cs hc hnk
        have hlen : (((chunks k n cs).take h').drop a).length = h' - a := by rw [List.length_drop, List.length_take, length_chunks]; omega
        refine ⟨.slice (some (if n = a then ⟨b, o, none⟩ else ⟨b, o + a * k, none⟩)) (h' - a) (n - a), _, ?_, hk, ?_⟩
        · simp only [Instr.sliceAt, Sem.run_bind, run_under (arr_of he), Result.andThen_ok, Instr.sureAddr, hr, run_sizeOf hi', hsi, Sem.run_pure, Addr.add_lit]
        · have := R_slice0 (G := G) (w := w) (es := ((chunks k n cs).take h').drop a) (a := some (if n = a then ⟨b, o, none⟩ else ⟨b, o + a * k, none⟩)) (cap := n - a)
            (by rw [hlen]; omega) (fun h => by cases h) ?_
          · rwa [hlen] at this
          · intro hne
            have : n ≠ a := by
              intro hna
              subst hna
              exact absurd (List.drop_eq_nil_of_le (by rw [List.length_take, length_chunks]; omega)) hne
            exact ⟨b, o + a * k, k, by rw [if_neg this], RElems_drop a _ (RElems_take h' _ hel)⟩
      · exact h.elim
    · exact h.elim
  · rename_i b o
    split at h
    · rename_i n e he
      split at h
      · rename_i k hsz
        obtain ⟨hmx, hq⟩ := chk_iff.1 h
        obtain rfl := Option.isNone_iff_eq_none.1 hmx
        have hmv : mv = none := by rcases hm with ⟨_, h⟩ | ⟨_, _, h, _⟩; exact h; cases h
        subst hmv
        obtain ⟨_, i, hi', hsi⟩ := size_of hsz
        rw [R_ptr] at hx; subst hx
        obtain ⟨a, h', ⟨h1, h2, hk⟩, hr, _⟩ := run_bounds (P := P) false n n hq hh hl (fun a h hc => ⟨hc.1, hc.2.1⟩)
        refine ⟨_, _, ?_, hk, R_raw.2 rfl⟩
        simp only [Instr.sliceAt, Sem.run_bind, run_under (arr_of he), Result.andThen_ok, Instr.sureAddr, hr, run_sizeOf hi', hsi, Sem.run_pure, Addr.add_lit]
        split <;> rfl
      · exact h.elim
    · exact h.elim
  · exact h.elim
end
end Go.Ab
