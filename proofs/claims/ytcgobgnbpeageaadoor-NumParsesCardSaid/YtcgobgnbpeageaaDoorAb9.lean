/- Structs and arrays out of their parts; all operations that leave the store as it is. -/
import Derived.Test.YtcgobgnbpeageaaDoorAb8
set_option linter.all false
namespace Go.Ab
open Go

section
variable {P : Program} {Γ : Nat → AV} {G : Gh} {w : World}

theorem cells_ok {c : AV} {v : Value} (h : R G w c v) : RList G w (cellsA c) v.cells.toList := by
  have one : ∀ u : Value, R G w c u → RList G w [c] [u] := fun u hu => RList_cons.2 ⟨u, [], rfl, hu, RList_nil.2 rfl⟩
  cases c with
  | agg cs => obtain ⟨us, rfl, hr⟩ := R_agg.1 h; exact hr
  | int => rw [R_int] at h; subst h; exact one _ (R_int.2 rfl)
  | bool => rw [R_bool] at h; subst h; exact one _ (R_bool.2 rfl)
  | str => rw [R_str] at h; subst h; exact one _ (R_str.2 rfl)
  | ptr => rw [R_ptr] at h; subst h; exact one _ (R_ptr.2 rfl)
  | raw => rw [R_raw] at h; subst h; exact one _ (R_raw.2 rfl)
  | nilIface => rw [R_nilIface] at h; subst h; exact one _ (R_nilIface.2 rfl)
  | nilFunc => rw [R_nilFunc] at h; subst h; exact one _ (R_nilFunc.2 rfl)
  | cptr cs => have h' := h; obtain ⟨b, o, rfl, _⟩ := R_cptr.1 h; exact one _ h'
  | slice t es => have h' := h; obtain ⟨a, cap, rfl, _⟩ := slice_val h; exact one _ h'
  | iface t x => have h' := h; obtain ⟨u, rfl, _⟩ := R_iface.1 h; exact one _ h'
  | func fn fs cs => have h' := h; obtain ⟨u, x, rfl, _⟩ := R_func.1 h; exact one _ h'
  | tuple vs => have h' := h; obtain ⟨u, rfl, _⟩ := R_tuple.1 h; exact one _ h'

theorem foldl_set : ∀ (vs : List Value) (k off : Nat) (cells : Array Value), off + k + vs.length ≤ cells.size →
    ((vs.zipIdx k).foldl (fun cs (x : Value × Nat) => cs.setIfInBounds (off + x.2) x.1) cells).toList = cells.toList.take (off + k) ++ vs ++ cells.toList.drop (off + k + vs.length)
  | [], k, off, cells, _ => by simp
  | v :: vs, k, off, cells, h => by
    simp only [List.zipIdx_cons, List.foldl_cons]
    rw [foldl_set vs (k + 1) off _ (by simp only [Array.size_setIfInBounds, List.length_cons] at h ⊢; omega)]
    simp only [List.length_cons] at h
    have hn : off + k < cells.toList.length := by simp; omega
    have hl : (cells.toList.take (off + k)).length = off + k := by rw [List.length_take]; omega
    simp only [Array.toList_setIfInBounds, List.set_eq_take_append_cons_drop, if_pos hn]
    generalize cells.toList.take (off + k) = l1 at hl ⊢
    rw [List.take_append, List.drop_append, hl, List.take_of_length_le (l := l1) (by omega), List.drop_of_length_le (l := l1) (by omega)]
    rw [show off + (k + 1) - (off + k) = 1 by omega, show off + (k + 1) + vs.length - (off + k) = vs.length + 1 by omega]
    simp only [List.take_succ_cons, List.take_zero, List.drop_succ_cons, List.drop_drop, List.nil_append, List.append_assoc, List.singleton_append, List.length_cons]
    rw [show off + k + 1 + vs.length = off + k + (vs.length + 1) by omega]

theorem fill_ok {t : TypeId} : ∀ (parts : List (Nat × AV)) {ps : List (Nat × Value)} {cs : List AV} {cells : Array Value} {K : List AV → Prop} {f : Nat → Option (Nat × Nat)}, placesT P t = some f →
    afill P t cs parts K → RList G w cs cells.toList → (ps.map (·.1) = parts.map (·.1)) → RList G w (parts.map (·.2)) (ps.map (·.2)) →
    ∃ out ds, Instr.fill f cells ps = some out ∧ K ds ∧ RList G w ds out.toList
  | [], ps, cs, cells, K, f, _, h, hr, hi, _ => by
    have : ps = [] := by simpa using hi
    subst this
    exact ⟨cells, cs, rfl, by simpa only [afill, frcL_eq] using h, hr⟩
  | (i, c) :: parts, ps, cs, cells, K, f, hf, h, hr, hi, hv => by
    cases ps with
    | nil => simp at hi
    | cons p ps =>
      obtain ⟨j, v⟩ := p
      simp only [List.map_cons, List.cons.injEq] at hi
      obtain ⟨hj, hi⟩ := hi
      subst hj
      simp only [List.map_cons] at hv
      obtain ⟨u, us, hu, hvc, hvs⟩ := RList_cons.1 hv
      simp only [List.cons.injEq] at hu
      obtain ⟨rfl, rfl⟩ := hu
      simp only [afill] at h
      unfold placeT at h
      rw [hf] at h
      simp only [Option.bind_some] at h
      cases hp : f j with
      | none => rw [hp] at h; exact h.elim
      | some x =>
        obtain ⟨off, n⟩ := x
        rw [hp] at h
        obtain ⟨hn, hle, h⟩ := h
        have hc := cells_ok hvc
        have hsz : v.cells.size = n := by rw [← hn, ← RList_length hc]; simp
        have hcs : cells.size = cs.length := by rw [← RList_length hr]; simp
        have hset : (v.cells.zipIdx.foldl (fun cs (x : Value × Nat) => cs.setIfInBounds (off + x.2) x.1) cells).toList = cells.toList.take off ++ v.cells.toList ++ cells.toList.drop (off + n) := by
          rw [← Array.foldl_toList, Array.toList_zipIdx]
          have := foldl_set v.cells.toList 0 off cells (by simp; omega)
          simp only [Nat.add_zero, Array.length_toList, hsz] at this
          exact this
        have hr' : RList G w (cs.take off ++ cellsA c ++ cs.drop (off + n)) (v.cells.zipIdx.foldl (fun cs (x : Value × Nat) => cs.setIfInBounds (off + x.2) x.1) cells).toList := by
          rw [hset]
          exact RList_append (RList_append (RList_take off hr) hc) (RList_drop _ hr)
        obtain ⟨out, ds, h1, h2, h3⟩ := fill_ok parts hf h hr' hi hvs
        refine ⟨out, ds, ?_, h2, h3⟩
        simp only [Instr.fill, hp]
        rw [if_neg (by simp; omega)]
        exact h1

theorem mapM_ok {α β : Type} (f : α → Sem β) (g : α → β) : ∀ (l : List α), (∀ x ∈ l, (f x).run P w = .ok (g x) w) → (l.mapM f).run P w = .ok (l.map g) w
  | [], _ => by simp
  | x :: l, h => by
    have h1 := h x List.mem_cons_self
    have h2 := mapM_ok f g l fun y hy => h y (List.mem_cons_of_mem _ hy)
    simp [List.mapM_cons, h1, h2]

theorem zero_of {t : TypeId} {z : List AV} (h : zeroT P t = some z) : ∃ i v, P.info? t = some i ∧ i.zero = some v ∧ RList G w z v.cells.toList := by
  unfold zeroT at h
  split at h
  · rename_i i hi
    split at h
    · rename_i v hv
      exact ⟨i, v, hi, hv, atomsOf_ok h⟩
    · cases h
  · cases h

theorem abuild_ok {t : TypeId} {parts : List (Nat × AV)} {ps : List (Nat × Value)} {K : AV → Prop} (h : abuild P t parts K) (hi : ps.map (·.1) = parts.map (·.1))
    (hr : RList G w (parts.map (·.2)) (ps.map (·.2))) : ValOK P G w (Instr.build t ps.toArray) K := by
  obtain ⟨hb, h⟩ := chk_iff.1 h
  cases hz : zeroT P t with
  | none => rw [hz] at h; exact h.elim
  | some z =>
    rw [hz] at h
    obtain ⟨i, v, hinfo, hzv, hzr⟩ := zero_of (G := G) (w := w) hz
    have hzero : (zeroValue t).run P w = .ok v w := by simp [zeroValue, typeInfo, hinfo, hzv]
    unfold buildT at hb
    split at hb
    · rename_i fs hu
      have hinf : ∀ f ∈ fs.toList, ∃ x, P.info? f.type = some x := by
        intro f hf
        rw [List.all_eq_true] at hb
        exact Option.isSome_iff_exists.1 (hb f hf)
      have hp : placesT P t = some fun i => match fs[i]? with | some f => (P.info? f.type).map fun x => (f.offset, x.size) | none => none := by
        unfold placesT; simp only [hu]; rfl
      obtain ⟨out, ds, h1, h2, h3⟩ := fill_ok parts hp h hzr hi hr
      have hm : (fs.mapM fun (f : Field) => do pure (f.offset, ← sizeOf f.type)).run P w = .ok (fs.map fun (f : Field) => (f.offset, ((P.info? f.type).map (·.size)).getD 0)) w := by
        rw [← Array.toArray_toList (xs := fs), List.mapM_toArray, Sem.run_map]
        rw [mapM_ok _ (fun f : Field => (f.offset, ((P.info? f.type).map (·.size)).getD 0)) fs.toList]
        · simp only [Result.andThen_ok]; rw [← Array.toList_map, Array.toArray_toList]
        · intro f hf
          obtain ⟨x, hx⟩ := hinf f hf
          simp [run_sizeOf hx, hx]
      refine ⟨.agg out, _, ?_, h2, R_agg.2 ⟨_, rfl, h3⟩⟩
      have hfe : Instr.fill (fun i => (fs.map fun (f : Field) => (f.offset, ((P.info? f.type).map (·.size)).getD 0))[i]?) v.cells ps = some out := by
        rw [← h1]
        congr 1
        funext i
        simp only [Array.getElem?_map]
        cases hfi : fs[i]? with
        | none => rfl
        | some f =>
          have hmem : f ∈ fs.toList := by
            rw [Array.getElem?_eq_some_iff] at hfi
            obtain ⟨hlt, rfl⟩ := hfi
            exact Array.getElem_mem_toList hlt
          obtain ⟨x, hx⟩ := hinf f hmem
          simp [hx]
      simp only [Instr.build, Sem.run_bind, hzero, run_under hu, Result.andThen_ok, hm]
      simp only [hfe, Sem.run_pure]
    · rename_i n e hu
      obtain ⟨x, hx⟩ := Option.isSome_iff_exists.1 hb
      have hp : placesT P t = some fun i => some (i * x.size, x.size) := by
        unfold placesT; rw [hu]; simp [hx]
      obtain ⟨out, ds, h1, h2, h3⟩ := fill_ok parts hp h hzr hi hr
      refine ⟨.agg out, _, ?_, h2, R_agg.2 ⟨_, rfl, h3⟩⟩
      simp only [Instr.build, Sem.run_bind, hzero, run_under hu, Result.andThen_ok, run_sizeOf hx, h1, Sem.run_pure]
    · cases hb


theorem run_len_s {t : TypeId} (h : P.underlying t = some .string) (ty : TypeId) (l : List UInt8) : (Builtin.len_ #[t] ty #[.string ⟨l.toArray⟩]).run P w = .ok (.int .i64 l.length) w := by
  have := run_len_string (P := P) w t ty ⟨l.toArray⟩ h
  rw [this]; simp [goInt, ByteArray.size_data.symm]
theorem run_len_sl {t e : TypeId} (h : P.underlying t = some (.slice e)) (ty : TypeId) (a : Option Addr) (n c : Nat) : (Builtin.len_ #[t] ty #[.slice a n c]).run P w = .ok (.int .i64 n) w := by
  unfold Builtin.len_
  simp [run_under h, goInt]
theorem run_cap_sl {t e : TypeId} (h : P.underlying t = some (.slice e)) (ty : TypeId) (a : Option Addr) (n c : Nat) : (Builtin.cap_ #[t] ty #[.slice a n c]).run P w = .ok (.int .i64 c) w := by
  unfold Builtin.cap_
  simp [run_under h, goInt]

theorem pickA_ok {t : Bool} {x y : AV} {K : AV → Prop} (h : pickA t x y K) : K (if t then x else y) := by
  unfold pickA at h
  split at h
  · cases t <;> exact h
  · cases t
    · have h : frc y K := h
      rw [frc_eq] at h; exact h
    · have h : frc x K := h
      rw [frc_eq] at h; exact h

/-- ALL OPERATIONS THAT LEAVE THE STORE AS IT IS. -/
theorem aval_ok {s : Sto} {n : Nat} {e : Env} {a : Act} {o : Oper} {K : AV → Prop} (hm : Mod Γ G s w) (he : EnvR G w n e a) (hok : ∀ x ∈ o.op.operands.toList, okX x = true)
    (h : aval P (evA Γ e) s o.op K) : ∃ v r, (execOp a.eval o).run P w = .ok (.value v) w ∧ K r ∧ R G w r v := by
  obtain ⟨dst, op, ty, pos, aft, grd⟩ := o
  simp only at h hok
  have ev1 : ∀ x, okX x = true → R G w (evA Γ e x) (a.eval x) := fun x hx => evA_ok hm he hx
  cases op <;> dsimp only [aval] at h <;> dsimp only [Op.operands] at hok <;> try exact h.elim
  case move x => rw [frc_eq] at h; exact ⟨_, _, rfl, h, ev1 x (hok x (by simp))⟩
  case assign x => rw [frc_eq] at h; exact ⟨_, _, rfl, h, ev1 x (hok x (by simp))⟩
  case pick c x y =>
    have hc := ev1 c (hok c (by simp))
    cases hcv : evA Γ e c <;> rw [hcv] at h hc <;> try exact h.elim
    rename_i t
    rw [R_bool] at hc
    have h : K (if t then evA Γ e x else evA Γ e y) := pickA_ok h
    refine ⟨if t then a.eval x else a.eval y, _, ?_, h, ?_⟩
    · simp [execOp, hc, asBool]
    · cases t
      · exact ev1 y (hok y (by simp))
      · exact ev1 x (hok x (by simp))
  case binOp op t x y yt =>
    obtain ⟨z, r, ⟨h1, h2⟩, hk, hr⟩ := abinop_ok h (ev1 x (hok x (by simp))) (ev1 y (hok y (by simp)))
    refine ⟨z, r, ?_, hk, hr⟩
    unfold Gives at h1
    simp [execOp, h2, h1]
  case unOp op t x =>
    obtain ⟨z, r, h1, hk, hr⟩ := aun_ok (P := P) h (ev1 x (hok x (by simp)))
    refine ⟨z, r, ?_, hk, hr⟩
    unfold Gives at h1
    simp [execOp, h1]
  case convert src dst x =>
    obtain ⟨z, r, h1, hk, hr⟩ := aconv_ok hm h (ev1 x (hok x (by simp)))
    exact ⟨z, r, by simp [execOp, h1], hk, hr⟩
  case makeInterface t x =>
    obtain ⟨ht, h⟩ := chk_iff.1 h
    rw [frc_eq] at h
    obtain ⟨d, hu, hd⟩ := notIface_of (eq_of_beq ht)
    refine ⟨_, _, ?_, h, R_iface.2 ⟨_, rfl, ev1 x (hok x (by simp))⟩⟩
    have : (Instr.makeInterface t (a.eval x)).run P w = .ok (.iface t (a.eval x)) w := by
      simp only [Instr.makeInterface, Sem.run_bind, run_under hu, Result.andThen_ok]
      cases d <;> first | rfl | exact absurd rfl (hd _)
    simp [execOp, this]
  case makeFunc fn first captured =>
    refine ⟨.func fn (first.map a.eval) (captured.map a.eval), _, ?_, h, R_func.2 ⟨_, _, rfl, ?_, ?_⟩⟩
    · simp only [execOp, Instr.makeFunc]; rfl
    · rw [Array.toList_map]
      exact RList_map _ fun x hx => ev1 x (hok x (by simp at hx ⊢; exact .inl hx))
    · rw [Array.toList_map]
      exact RList_map _ fun x hx => ev1 x (hok x (by simp at hx ⊢; exact .inr hx))
  case slice t x lo hi mx =>
    have hx := ev1 x (hok x (by simp))
    obtain ⟨z, r, h1, hk, hr⟩ := aslice_ok h hx (opt_ok hm he fun y hy => hok y (by simp [hy])) (opt_ok hm he fun y hy => hok y (by simp [hy])) (opt_ok hm he fun y hy => hok y (by simp [hy]))
    exact ⟨z, r, by simp [execOp, h1], hk, hr⟩
  case fieldAddr t x f =>
    have hx := ev1 x (hok x (by simp))
    split at h
    · rename_i off ft hf
      split at h
      · rename_i b o hv
        rw [hv, R_ptr] at hx
        exact ⟨_, _, by simp [execOp, hx, run_fieldAt hf], h, R_ptr.2 rfl⟩
      · rename_i cs hv
        rw [hv] at hx
        obtain ⟨b, o, hx, hc⟩ := R_cptr.1 hx
        rw [frcL_eq] at h
        exact ⟨_, _, by simp [execOp, hx, run_fieldAt hf], h, R_cptr.2 ⟨b, _, rfl, RCells_drop _ _ _ _ hc⟩⟩
      · exact h.elim
    · exact h.elim
  case indexAddr t x i =>
    have hx := ev1 x (hok x (by simp))
    have hi := ev1 i (hok i (by simp))
    cases hiv : evA Γ e i <;> rw [hiv] at h hi <;> try exact h.elim
    rw [R_int] at hi
    obtain ⟨z, r, h1, hk, hr⟩ := aindexAddr_ok (k := _) h hx
    exact ⟨z, r, by rw [← hi] at h1; simp [execOp, h1], hk, hr⟩
  case index t x i =>
    have hx := ev1 x (hok x (by simp))
    have hi := ev1 i (hok i (by simp))
    cases hiv : evA Γ e i <;> rw [hiv] at h hi <;> try exact h.elim
    rename_i k m
    rw [R_int] at hi
    simp only [asI] at h
    split at h
    · rename_i l hv
      obtain ⟨hst, h0, hlt, hk⟩ := chk_iff.1 h
      have hu : P.underlying t = some .string := by
        rcases leaf_of (eq_of_beq hst) with ⟨h0, _⟩ | ⟨_, hi⟩ | ⟨h0, _⟩
        · omega
        · exact hi
        · omega
      rw [hv, R_str] at hx
      refine ⟨_, _, ?_, hk, R_int.2 rfl⟩
      have hb : (ByteArray.mk l.toArray)[m.toNat]? = some (byteAt l m.toNat) := by
        have hs : m.toNat < (ByteArray.mk l.toArray).size := by simp [ByteArray.size]; omega
        rw [getElem?_pos (ByteArray.mk l.toArray) m.toNat hs]
        simp [byteAt, List.getD, List.getElem?_eq_getElem hlt, ByteArray.getElem_eq_getElem_data]
      have : (Instr.index t (.string ⟨l.toArray⟩) (.int k m)).run P w = .ok (.int .u8 (byteAt l m.toNat).toNat) w := by
        simp only [Instr.index, asIntOf, Sem.run_bind, Sem.run_pure, Result.andThen_ok, run_under hu, if_pos h0, hb]
      simp [execOp, hx, hi, this]
    · exact h.elim
  case nilCheck x =>
    have hx := ev1 x (hok x (by simp))
    split at h
    · rename_i ad hv; rw [hv] at hx; rw [R_ptr] at hx
      exact ⟨_, _, by simp only [execOp, hx]; rfl, h, R_ptr.2 rfl⟩
    · rename_i cs hv; rw [hv] at hx
      have hx' := hx
      obtain ⟨b, o, hx, hc⟩ := R_cptr.1 hx
      rw [hx] at hx'
      exact ⟨_, _, by simp only [execOp, hx]; rfl, h, hx'⟩
    · rename_i t y hv; rw [hv] at hx
      have hx' := hx
      obtain ⟨u, hx, hc⟩ := R_iface.1 hx
      rw [hx] at hx'
      exact ⟨_, _, by simp only [execOp, hx]; rfl, h, hx'⟩
    · rename_i f fs cs hv; rw [hv] at hx
      have hx' := hx
      obtain ⟨us, vs, hx, hc⟩ := R_func.1 hx
      rw [hx] at hx'
      exact ⟨_, _, by simp only [execOp, hx]; rfl, h, hx'⟩
    · exact h.elim
  case extract x i =>
    have hx := ev1 x (hok x (by simp))
    split at h
    · rename_i vs hv
      split at h
      · rename_i c hc
        rw [frc_eq] at h
        rw [hv] at hx
        obtain ⟨us, hx, hr⟩ := R_tuple.1 hx
        obtain ⟨u, hu, hru⟩ := RList_get hr hc
        exact ⟨u, c, by simp at hu; simp [execOp, hx, Instr.extract, hu], h, hru⟩
      · exact h.elim
    · exact h.elim
  case build t parts =>
    have := abuild_ok (G := G) (w := w) (ps := parts.toList.map fun (i, x) => (i, a.eval x)) h (by simp) (by
      simp only [List.map_map]
      refine RList_map (f := fun x : Nat × Operand => evA Γ e x.2) (g := fun x : Nat × Operand => a.eval x.2) _ ?_
      rintro ⟨i, x⟩ hx
      exact ev1 x (hok x (by simp; exact ⟨i, by simpa using hx⟩)))
    obtain ⟨z, r, h1, hk, hr⟩ := this
    refine ⟨z, r, ?_, hk, hr⟩
    have e1 : (parts.toList.map fun (i, x) => (i, a.eval x)).toArray = parts.map fun (i, x) => (i, a.eval x) := by
      rw [← Array.toList_map, Array.toArray_toList]
    rw [e1] at h1
    simp [execOp, h1]
  case load t x =>
    have hx := ev1 x (hok x (by simp))
    split at h
    · rename_i cs hv
      rw [hv] at hx
      obtain ⟨b, o, hx, hc⟩ := R_cptr.1 hx
      obtain ⟨us, _, hr, hcell⟩ := RCells_get cs b o hc
      obtain ⟨z, r, h1, hk, hr⟩ := run_loadVar_of (P := P) h hr hcell
      exact ⟨z, r, by simp [execOp, hx, Instr.loadAt, Instr.sureAddr, h1], hk, hr⟩
    · rename_i b o hv
      rw [hv, R_ptr] at hx
      obtain ⟨T, cs, hb, h⟩ := getB_iff h
      obtain ⟨us, hr, hcell⟩ := box_cells hm hb
      obtain ⟨z, r, h1, hk, hr⟩ := run_loadVar_of (P := P) (b := b) (o := o) h (RList_drop o hr) (fun i v hi => by rw [hcell]; rw [List.getElem?_drop] at hi; exact hi)
      exact ⟨z, r, by simp [execOp, hx, Instr.loadAt, Instr.sureAddr, h1], hk, hr⟩
    · exact h.elim
  case call c =>
    obtain ⟨callee, args, ts⟩ := c
    cases callee <;> simp only at h <;> try exact h.elim
    rename_i b
    have hargs : RList G w (args.toList.map (evA Γ e)) (args.map a.eval).toList := by
      rw [Array.toList_map]
      exact RList_map _ fun x hx => ev1 x (hok x (by simp [Call.operands] at hx ⊢; exact hx))
    have hrun : ∀ {sem : Sem Value} {z : Value}, sem.run P w = .ok z w → (∀ cs, builtin b ts ty cs (args.map a.eval) = (do pure (.value (← sem)))) →
        (execOp a.eval ⟨dst, .call ⟨.builtin b, args, ts⟩, ty, pos, aft, grd⟩).run P w = .ok (.value z) w := by
      intro sem z h1 h2
      simp only [execOp, resolve, Sem.run_bind, Sem.run_pure, Result.andThen_ok, invoke]
      refine Eq.trans (congrArg (fun x : Sem Next => x.run P w) (h2 _)) ?_
      simp [h1]
    generalize args.toList.map (evA Γ e) = xs at h hargs
    generalize hav : args.map a.eval = vs at hargs hrun
    obtain ⟨vs⟩ := vs
    simp only at hargs
    obtain ⟨ts⟩ := ts
    unfold abuiltin at h
    split at h
    · rename_i t l hts
      simp only at hts; subst hts
      obtain ⟨ht, hk⟩ := chk_iff.1 h
      have ht := eq_of_beq ht
      obtain ⟨u, us, rfl, hu, hus⟩ := RList_cons.1 hargs
      rw [RList_nil] at hus; subst hus
      rw [R_str] at hu; subst hu
      have hs : P.underlying t = some .string := by
        rcases leaf_of ht with ⟨h0, _⟩ | ⟨_, hi⟩ | ⟨h0, _⟩
        · omega
        · exact hi
        · omega
      refine ⟨_, _, hrun (sem := Builtin.len_ #[t] ty #[.string ⟨l.toArray⟩]) (z := .int .i64 l.length) ?_ (fun _ => rfl), hk, R_int.2 rfl⟩
      exact run_len_s hs _ _
    · rename_i t tk es hts
      simp only at hts; subst hts
      obtain ⟨ht, hk⟩ := chk_iff.1 h
      obtain ⟨el, hel⟩ := Option.isSome_iff_exists.1 ht
      obtain ⟨u, us, rfl, hu, hus⟩ := RList_cons.1 hargs
      rw [RList_nil] at hus; subst hus
      obtain ⟨ad, cap, rfl, _⟩ := slice_val hu
      refine ⟨_, _, hrun (sem := Builtin.len_ #[t] ty #[.slice ad es.length cap]) (z := .int .i64 es.length) ?_ (fun _ => rfl), hk, R_int.2 rfl⟩
      exact run_len_sl (slice_of hel) _ _ _ _
    · rename_i t ad m cap hts
      simp only at hts; subst hts
      obtain ⟨ht, hk⟩ := chk_iff.1 h
      obtain ⟨el, hel⟩ := Option.isSome_iff_exists.1 ht
      obtain ⟨u, us, rfl, hu, hus⟩ := RList_cons.1 hargs
      rw [RList_nil] at hus; subst hus
      rw [R_raw] at hu; subst hu
      refine ⟨_, _, hrun (sem := Builtin.len_ #[t] ty #[.slice ad m cap]) (z := .int .i64 m) ?_ (fun _ => rfl), hk, R_int.2 rfl⟩
      exact run_len_sl (slice_of hel) _ _ _ _
    · rename_i t ad m cap hts
      simp only at hts; subst hts
      obtain ⟨ht, hk⟩ := chk_iff.1 h
      obtain ⟨el, hel⟩ := Option.isSome_iff_exists.1 ht
      obtain ⟨u, us, rfl, hu, hus⟩ := RList_cons.1 hargs
      rw [RList_nil] at hus; subst hus
      rw [R_raw] at hu; subst hu
      refine ⟨_, _, hrun (sem := Builtin.cap_ #[t] ty #[.slice ad m cap]) (z := .int .i64 cap) ?_ (fun _ => rfl), hk, R_int.2 rfl⟩
      exact run_cap_sl (slice_of hel) _ _ _ _
    · rename_i k x k' y
      obtain ⟨u, us, rfl, hu, hus⟩ := RList_cons.1 hargs
      obtain ⟨u', us', rfl, hu', hus'⟩ := RList_cons.1 hus
      rw [RList_nil] at hus'; subst hus'
      rw [R_int] at hu hu'; subst hu hu'
      exact ⟨_, _, hrun (sem := Builtin.max_ _ ty #[.int k x, .int k' y]) (z := .int k (if y > x then y else x)) (by simp [Builtin.max_, Builtin.max2]) (fun _ => rfl), h, R_int.2 rfl⟩
    · rename_i k x k' y
      obtain ⟨u, us, rfl, hu, hus⟩ := RList_cons.1 hargs
      obtain ⟨u', us', rfl, hu', hus'⟩ := RList_cons.1 hus
      rw [RList_nil] at hus'; subst hus'
      rw [R_int] at hu hu'; subst hu hu'
      exact ⟨_, _, hrun (sem := Builtin.min_ _ ty #[.int k x, .int k' y]) (z := .int k (if y < x then y else x)) (by simp [Builtin.min_, Builtin.min2]) (fun _ => rfl), h, R_int.2 rfl⟩
    · exact h.elim
end
end Go.Ab
