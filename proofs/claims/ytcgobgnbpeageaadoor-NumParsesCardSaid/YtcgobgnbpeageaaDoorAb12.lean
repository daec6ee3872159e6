/- Each operation, whatever it is, is as the abstract one says. -/
import Derived.Test.YtcgobgnbpeageaaDoorAb11
set_option linter.all false
namespace Go.Ab
open Go

section
variable {P : Program} {Γ : Nat → AV} {G : Gh} {w : World} {s : Sto}

theorem zeroCells_size {t : TypeId} {k : Nat} {z : List AV} (hz : zeroT P t = some z) (hl : z.length = k) : ∃ v, (zeroValue t).run P w = .ok v w ∧ v.cells.size = k ∧ RList G w z v.cells.toList := by
  obtain ⟨i, v, hi, hv, hr⟩ := zero_of (G := G) (w := w) hz
  exact ⟨v, by simp [zeroValue, typeInfo, hi, hv], by rw [← hl, ← RList_length hr]; simp, hr⟩

/-- Filling a row's elements one by one, in order. -/
theorem fill_row (k : Nat) : ∀ (ps : List (Nat × Value)) (j : Nat) (cells : Array Value), ps.map (·.1) = List.range' j ps.length → (∀ p ∈ ps, p.2.cells.size = k) → cells.size = (j + ps.length) * k →
    ∃ out, Instr.fill (fun i => some (i * k, k)) cells ps = some out ∧ out.toList = cells.toList.take (j * k) ++ (ps.map fun p => p.2.cells.toList).flatten
  | [], j, cells, _, _, hs => ⟨cells, rfl, by simp only [List.length_nil, Nat.add_zero] at hs; simp [List.take_of_length_le, hs]⟩
  | (i, v) :: ps, j, cells, hi, hk, hs => by
    simp only [List.map_cons, List.length_cons, List.range'_succ, List.cons.injEq] at hi
    obtain ⟨rfl, hi⟩ := hi
    have hv := hk (i, v) List.mem_cons_self
    simp only at hv
    simp only [List.length_cons] at hs
    have hs' : i * k + (k + ps.length * k) = cells.size := by rw [hs, Nat.add_mul, Nat.add_mul]; omega
    have hset : (v.cells.zipIdx.foldl (fun cs (x : Value × Nat) => cs.setIfInBounds (i * k + x.2) x.1) cells).toList = cells.toList.take (i * k) ++ v.cells.toList ++ cells.toList.drop (i * k + k) := by
      rw [← Array.foldl_toList, Array.toList_zipIdx]
      have := foldl_set v.cells.toList 0 (i * k) cells (by simp; omega)
      simp only [Nat.add_zero, Array.length_toList, hv] at this
      exact this
    have hsz' : (v.cells.zipIdx.foldl (fun cs (x : Value × Nat) => cs.setIfInBounds (i * k + x.2) x.1) cells).size = (i + 1 + ps.length) * k := by
      rw [← Array.length_toList, hset]
      simp only [List.length_append, List.length_take, List.length_drop, Array.length_toList, hv]
      rw [Nat.add_mul, Nat.add_mul]; omega
    obtain ⟨out, h1, h2⟩ := fill_row k ps (i + 1) _ hi (fun p hp => hk p (List.mem_cons_of_mem _ hp)) hsz'
    refine ⟨out, ?_, ?_⟩
    · simp only [Instr.fill]
      rw [if_neg (by simp [hv]; omega)]
      exact h1
    · rw [h2, hset]
      have hl : (cells.toList.take (i * k)).length = i * k := by rw [List.length_take, Array.length_toList]; omega
      rw [List.take_append_of_le_length (by
        rw [List.length_append, hl, Array.length_toList, hv, Nat.add_mul]; omega)]
      rw [List.take_of_length_le (by rw [List.length_append, hl, Array.length_toList, hv, Nat.add_mul]; omega)]
      simp

theorem buildSlice_ok (hm : Mod Γ G s w) {T e : TypeId} {k : Nat} {z : List AV} {len : Nat} {cs : List AV} {ps : List (Nat × Value)} (he : sliceT P T = some e) (hk : sizeT P e = some k) (hz : zeroT P e = some z)
    (hzl : z.length = k) (hlen : len * k ≤ 16777216) (hi : ps.map (·.1) = List.range len) (hr : RList G w cs (ps.map (·.2))) (hcs : ∀ c ∈ cs.map cellsA, c.length = k) :
    ∃ v w' G', (Instr.buildSlice T len ps.toArray).run P w = .ok v w' ∧ R G' w' (.slice 1 (cs.map cellsA)) v ∧ Mod Γ G' s w' ∧ Ext G w G' w' := by
  obtain ⟨_, i, hinfo, hsz⟩ := size_of hk
  obtain ⟨zv, hzr, hzc, _⟩ := zeroCells_size (P := P) (G := G) (w := w) hz hzl
  have hpl : ps.length = len := by have := congrArg List.length hi; simpa using this
  have hcl : cs.length = len := by rw [← hpl]; have := RList_length hr; simpa using this.symm
  have hvk : ∀ {cs : List AV} {ps : List (Nat × Value)}, RList G w cs (ps.map (·.2)) → (∀ c ∈ cs.map cellsA, c.length = k) → (∀ p ∈ ps, p.2.cells.size = k) ∧ RList G w (cs.map cellsA).flatten (ps.map fun p => p.2.cells.toList).flatten := by
    intro cs
    induction cs with
    | nil =>
      intro ps h _
      have : ps = [] := by simpa using RList_nil.1 h
      subst this
      exact ⟨by simp, RList_nil.2 rfl⟩
    | cons c cs ih =>
      intro ps h hl
      cases ps with
      | nil => have := RList_length h; simp at this
      | cons p ps =>
        rw [List.map_cons] at h
        obtain ⟨u, us, hu, h1, h2⟩ := RList_cons.1 h
        injection hu with hu1 hu2; subst hu1 hu2
        have hc := cells_ok h1
        obtain ⟨k1, k2⟩ := ih h2 (fun x hx => hl x (by simp only [List.map_cons]; exact List.mem_cons_of_mem _ hx))
        refine ⟨?_, ?_⟩
        · intro q hq
          rcases List.mem_cons.1 hq with rfl | hq
          · have := RList_length hc
            rw [hl (cellsA c) (by simp)] at this
            simpa using this
          · exact k1 q hq
        · simp only [List.map_cons, List.flatten_cons]
          exact RList_append hc k2
  obtain ⟨hvk1, hflat⟩ := hvk hr hcs
  have hrange : ps.map (·.1) = List.range' 0 ps.length := by rw [hi, hpl, List.range_eq_range']
  obtain ⟨mm, X⟩ := Mod.row_new hm (.cells ((ps.map fun p => p.2.cells.toList).flatten).toArray e)
  refine ⟨.slice (some ⟨w.heap.size, 0, none⟩) len len, _, _, ?_, ?_, mm, X⟩
  · have hfill : ∀ cells : Array Value, cells.size = len * k → Instr.fill (fun i => some (i * k, k)) cells ps = some ((ps.map fun p => p.2.cells.toList).flatten).toArray := by
      intro cells hcs
      obtain ⟨out, h1, h2⟩ := fill_row k ps 0 cells hrange hvk1 (by rw [hpl, Nat.zero_add]; exact hcs)
      rw [h1]
      congr 1
      apply Array.ext'
      rw [h2]; simp
    have hif : ¬ len * k > 2 ^ 24 := by simpa using hlen
    simp only [Instr.buildSlice, Sem.run_bind, run_under (slice_of he), Result.andThen_ok, run_sizeOf hinfo, hsz, Sem.run_ite, if_neg hif]
    by_cases h0 : len * k = 0
    · simp only [h0, if_true, Sem.run_pure, Result.andThen_ok]
      rw [hfill _ (by simp [h0])]
      simp only [newRow, Sem.run_bind, run_newObj, Result.andThen_ok, Sem.run_pure]
      rfl
    · simp only [if_neg h0, hzr, Sem.run_pure, Result.andThen_ok]
      rw [hfill _ (by simp)]
      simp only [newRow, Sem.run_bind, run_newObj, Result.andThen_ok, Sem.run_pure]
      rfl
  · have hl : (cs.map cellsA).length = len := by rw [List.length_map, hcl]
    have := R_slice1 (G := G.setKd w.heap.size .fixd) (w := w.alloc (.cells ((ps.map fun p => p.2.cells.toList).flatten).toArray e)) (es := cs.map cellsA) (a := some ⟨w.heap.size, 0, none⟩) (cap := len) hl (fun h => by cases h)
      (fun _ => ⟨_, _, k, rfl, ?_⟩)
    · rwa [hl] at this
    · refine RElems_mk _ _ hcs ?_
      refine RCells_mk (us := (ps.map fun p => p.2.cells.toList).flatten) ?_ ?_ _ 0 (ps.map fun p => p.2.cells.toList).flatten rfl (hflat.mono X _ _)
      · intro j u hj
        have hat := heap_alloc_at w (.cells ((ps.map fun p => p.2.cells.toList).flatten).toArray e)
        simp only [World.cell?, hat, Option.isSome_none, Bool.false_eq_true, if_false, List.getElem?_toArray]
        exact hj
      · intro j _
        simp [Gh.good, Gh.setKd]

theorem makeSlice_run {T e : TypeId} {k bs : Nat} {z : List AV} {kl kc : IntKind} {n m : Int} (he : sliceT P T = some e) (hk : sizeT P e = some k) (hbs : bytesT P e = some bs) (hz : zeroT P e = some z) (hzl : z.length = k)
    (h0 : 0 ≤ n) (hnm : n ≤ m) (hm : m ≤ 9223372036854775807) (hb : bs * m ≤ 281474976710656) :
    ∃ vs : List Value, (Instr.makeSlice T (.int kl n) (.int kc m)).run P w = .ok (.slice (some ⟨w.heap.size, 0, none⟩) n.toNat m.toNat) (w.alloc (.cells vs.toArray e)) ∧ RList G w (List.replicate m.toNat z).flatten vs := by
  obtain ⟨_, i, hinfo, hsz⟩ := size_of hk
  have hbi := bytes_of hbs hinfo
  obtain ⟨i', zv, hi', hzv, hzrl⟩ := zero_of (G := G) (w := w) hz
  rw [hinfo] at hi'; injection hi' with hi'; subst hi'
  have hzc : zv.cells.size = k := by rw [← hzl, ← RList_length hzrl]; simp
  refine ⟨(List.replicate m.toNat zv.cells.toList).flatten, ?_, RList_replicate hzrl _⟩
  rw [run_make w T e i zv (slice_of he) hinfo hzv kl kc n m h0 hnm (by rw [hbi]; exact hb) hm]
  congr 3
  apply Array.ext'
  apply List.ext_getElem?
  intro j
  rw [hsz]
  have hl : ((List.replicate m.toNat zv.cells.toList).flatten).length = m.toNat * k := by simp [hzc]
  rcases Nat.lt_or_ge j (m.toNat * k) with hj | hj
  · have hkp : 0 < k := Nat.pos_of_ne_zero fun h => by rw [h, Nat.mul_zero] at hj; omega
    rw [List.toList_toArray, flatten_replicate_get _ k (by simpa using hzc) _ _ hj]
    unfold madeCells
    simp only [Array.toList_map, List.getElem?_map, Array.toList_range, List.getElem?_range hj, Option.map_some, hzc]
    have hlt : j % k < zv.cells.size := by rw [hzc]; exact Nat.mod_lt _ hkp
    rw [getElem!_pos zv.cells (j % k) hlt]
    simp [hlt]
  · rw [List.getElem?_eq_none (by rw [Array.length_toList, size_madeCells]; exact hj), List.getElem?_eq_none (by rw [List.toList_toArray, hl]; exact hj)]

theorem call_run {fn : FuncId} (h : callT P fn = true) (args : Array Value) : (callFunc fn args).run P w = .ok (.enter fn args) w := by
  unfold callT at h
  split at h
  · rename_i f hf
    simp only [Bool.and_eq_true, Bool.not_eq_true'] at h
    obtain ⟨b, hb⟩ := Option.isSome_iff_exists.1 h.1
    simp only [callFunc, Sem.run_bind, run_program, Result.andThen_ok, hf, h.2, Bool.false_eq_true, if_false, hb, Option.isNone_some, Sem.run_pure]
  · cases h

/-- ALL OPERATIONS. -/
theorem astep_ok {n : Nat} {e : Env} {a : Act} {o : Oper} {K : AV → Sto → Prop} (hm : Mod Γ G s w) (he : EnvR G w n e a) (hok : ∀ x ∈ o.op.operands.toList, okX x = true)
    (h : astep P Γ (evA Γ e) s o.op K) {next : Act → World → Prop} {Q : Exit → Act → World → Prop}
    (hn : ∀ v r s' G' w', K r s' → R G' w' r v → Mod Γ G' s' w' → Ext G w G' w' → next (a.put o.dst v) w') : o.wp P a w next Q := by
  have ev1 : ∀ x, okX x = true → R G w (evA Γ e x) (a.eval x) := fun x hx => evA_ok hm he hx
  have plain : aval P (evA Γ e) s o.op (fun v => K v s) → o.wp P a w next Q := fun h => by
    obtain ⟨v, r, h1, h2, h3⟩ := aval_ok hm he hok h
    exact StepOK.wp (K := K) ⟨_, w, v, r, s, G, h1, .inl rfl, h2, h3, hm, Ext.refl _ _⟩ hn
  obtain ⟨dst, op, ty, pos, aft, grd⟩ := o
  dsimp only at h hok hn plain
  cases op with
  | alloc T =>
    dsimp only [astep] at h
    split at h
    · rename_i z hz
      obtain ⟨i, zv, hi, hzv, hzr⟩ := zero_of (G := G) (w := w) hz
      have hzero : (zeroValue T).run P w = .ok zv w := by simp [zeroValue, typeInfo, hi, hzv]
      obtain ⟨hm', hb⟩ := Mod.box_new hm (T := T) hzr
      refine StepOK.wp (K := K) ⟨.value (.pointer (some ⟨w.heap.size, 0, none⟩)), _, _, _, _, G, ?_, .inl rfl, h _ hb, R_ptr.2 rfl, hm', Ext.alloc hm _⟩ hn
      simp [execOp, Instr.alloc, hzero, newVar, newRow]
    · exact h.elim
  | box T x =>
    dsimp only [astep] at h
    rw [frcL_eq] at h
    have hx := ev1 x (hok x (by simp [Op.operands]))
    obtain ⟨hm', hb⟩ := Mod.box_new hm (T := T) (cells_ok hx)
    refine StepOK.wp (K := K) ⟨.value (.pointer (some ⟨w.heap.size, 0, none⟩)), _, _, _, _, G, ?_, .inl rfl, h _ hb, R_ptr.2 rfl, hm', Ext.alloc hm _⟩ hn
    simp [execOp, Instr.box, newVar, newRow]
  | store T x v =>
    dsimp only [astep] at h
    have hx := ev1 x (hok x (by simp [Op.operands]))
    have hv := ev1 v (hok v (by simp [Op.operands]))
    split at h
    · rename_i b o hxv
      rw [hxv, R_ptr] at hx
      obtain ⟨T', cs, hb, h⟩ := getB_iff h
      split at h
      · rename_i n hs
        obtain ⟨h1, h2, h3, h⟩ := h
        rw [frcL_eq] at h
        obtain ⟨w', hrun, hm', X⟩ := store_ok (P := P) hm hb hs (cells_ok hv) h1 h2 h3
        refine StepOK.wp (K := K) ⟨.skip, w', undef, _, _, G, ?_, .inr ⟨rfl, rfl⟩, h, R_undef, hm', X⟩ hn
        simp [execOp, hx, Instr.storeAt, Instr.sureAddr, hrun]
      · exact h.elim
    · exact h.elim
  | buildSlice T len parts =>
    dsimp only [astep] at h
    split at h
    · rename_i el hel
      split at h
      · rename_i k z hk hz
        obtain ⟨hlen, hzl, hi, hcs, h⟩ := h
        rw [frcLL_eq] at h
        have hr : RList G w (parts.toList.map fun p => evA Γ e p.2) ((parts.toList.map fun p => (p.1, a.eval p.2)).map (·.2)) := by
          rw [List.map_map]
          exact RList_map (f := fun p : Nat × Operand => evA Γ e p.2) (g := fun p : Nat × Operand => a.eval p.2) _ fun p hp => ev1 p.2 (hok p.2 (by simp [Op.operands]; exact ⟨p.1, by simpa using hp⟩))
        have hcs' : (parts.toList.map fun p => evA Γ e p.2).map cellsA = parts.toList.map fun p => cellsA (evA Γ e p.2) := by rw [List.map_map]; rfl
        obtain ⟨v, w', G', h1, h2, h3, h4⟩ := buildSlice_ok (P := P) hm (ps := parts.toList.map fun p => (p.1, a.eval p.2)) hel hk hz hzl hlen (by rw [List.map_map]; exact hi) hr (by rw [hcs']; exact hcs)
        rw [hcs'] at h2
        refine StepOK.wp (K := K) ⟨.value v, w', v, _, s, G', ?_, .inl rfl, h, h2, h3, h4⟩ hn
        have e1 : (parts.toList.map fun p => (p.1, a.eval p.2)).toArray = parts.map fun (i, x) => (i, a.eval x) := by
          rw [← Array.toList_map, Array.toArray_toList]
        rw [e1] at h1
        simp [execOp, h1]
      · exact h.elim
    · exact h.elim
  | makeSlice T l c =>
    dsimp only [astep] at h
    have hl := ev1 l (hok l (by simp [Op.operands]))
    have hc := ev1 c (hok c (by simp [Op.operands]))
    split at h
    · rename_i n m hln hcm
      rw [hln, R_int] at hl
      rw [hcm, R_int] at hc
      split at h
      · rename_i el hel
        split at h
        · rename_i k bs z hk hbs hz
          obtain ⟨h0, hnm, hm', hb, hzl, h⟩ := h
          obtain ⟨vs, h1, h2⟩ := makeSlice_run (P := P) (G := G) (w := w) (kl := .i64) (kc := .i64) hel hk hbs hz hzl h0 hnm hm' hb
          obtain ⟨hmm, hbx⟩ := Mod.box_new hm (T := el) h2
          refine StepOK.wp (K := K) ⟨.value _, _, _, _, _, G, ?_, .inl rfl, h _ hbx, R_raw.2 rfl, hmm, Ext.alloc hm _⟩ hn
          simp [execOp, hl, hc, h1]
        · exact h.elim
      · exact h.elim
    · exact h.elim
  | call c =>
    obtain ⟨callee, args, ts⟩ := c
    cases callee with
    | value f =>
      dsimp only [astep] at h
      have hf := ev1 f (hok f (by simp [Op.operands, Call.operands]))
      have hargs : RList G w (args.toList.map (evA Γ e)) (args.map a.eval).toList := by
        rw [Array.toList_map]
        exact RList_map _ fun x hx => ev1 x (hok x (by simp [Op.operands, Call.operands] at hx ⊢; exact .inr hx))
      split at h
      · rename_i fn fs cs hfv
        obtain ⟨hcall, h⟩ := chk_iff.1 h
        rw [frcL_eq] at h
        rw [hfv] at hf
        obtain ⟨us, vs, hf, hus, hvs⟩ := R_func.1 hf
        have hall : RList G w (fs ++ args.toList.map (evA Γ e) ++ cs) (us ++ args.map a.eval ++ vs).toList := by
          simp only [Array.toList_append]
          exact RList_append (RList_append hus hargs) hvs
        have hrun : (execOp a.eval ⟨dst, .call ⟨.value f, args, ts⟩, ty, pos, aft, grd⟩).run P w = .ok (.enter fn (us ++ args.map a.eval ++ vs)) w := by
          simp [execOp, resolve, hf, Deferred.ofValue, invoke, call_run hcall]
        unfold Oper.wp
        rw [hrun]
        have hc := h.run G w _ hm hall
        simp only [Array.toArray_toList] at hc
        show Calls P fn (us ++ args.map a.eval ++ vs) w _
        refine hc.mono ?_
        rintro en w' ⟨v, av, s', G', rfl, hK, hR, hm', X⟩
        exact hn v av s' G' w' hK hR hm' X
      · exact h.elim
    | invoke r m => exact plain h
    | builtin b =>
      by_cases hb : b = .append
      · subst hb
        dsimp only [astep] at h
        split at h
        · rename_i x y hargs
          have hx := ev1 x (hok x (by simp [Op.operands, Call.operands, hargs]))
          have hy := ev1 y (hok y (by simp [Op.operands, Call.operands, hargs]))
          obtain ⟨z, w', r, s', G', h1, h2, h3, h4, h5⟩ := aappend_ok (P := P) hm h ty hx hy
          refine StepOK.wp (K := K) ⟨.value z, w', z, r, s', G', ?_, .inl rfl, h2, h3, h4, h5⟩ hn
          have ha : args = #[x, y] := by apply Array.ext'; rw [hargs]
          subst ha
          rw [Array.toArray_toList] at h1
          simp only [execOp, resolve, Sem.run_bind, Sem.run_pure, Result.andThen_ok, invoke]
          rw [show #[x, y].map a.eval = #[a.eval x, a.eval y] by simp]
          refine Eq.trans (congrArg (fun x : Sem Next => x.run P w) (show _ = (do pure (.value (← Builtin.append_ ts ty #[a.eval x, a.eval y])) : Sem Next) from rfl)) ?_
          simp [h1]
        · exact h.elim
      · refine plain ?_
        cases b <;> first | exact absurd rfl hb | exact h
  | _ => exact plain h
end
end Go.Ab
