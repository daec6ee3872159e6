/- '==' of abstract values. -/
import Derived.Test.YtcgobgnbpeageaaDoorAb5
set_option linter.all false
namespace Go.Ab
open Go

section
variable {P : Program} {Γ : Nat → AV} {G : Gh} {w : World}

theorem leaf_of {t : TypeId} {k : Nat} (h : leafT P t = some k) : (k = 0 ∧ ∃ i, P.underlying t = some (.int i)) ∨ (k = 1 ∧ P.underlying t = some .string) ∨ (k = 2 ∧ P.underlying t = some .bool) := by
  unfold leafT at h
  split at h <;> first | (injection h with h; subst h; simp_all; done) | cases h

theorem size_of {t : TypeId} {n : Nat} (h : sizeT P t = some n) : (∃ d, P.underlying t = some d) ∧ ∃ i, P.info? t = some i ∧ i.size = n := by
  unfold sizeT at h
  split at h
  · rename_i hs
    obtain ⟨i, hi, h⟩ := Option.map_eq_some_iff.1 h
    exact ⟨Option.isSome_iff_exists.1 hs, i, hi, h⟩
  · cases h

theorem eqLeaf_ok {d : Nat} {t : TypeId} {k : Nat} {x y : AV} {K : Bool → Prop} (ht : leafT P t = some k) (h : eqLeaf k x y K) {u v : Value} (hx : R G w x u) (hy : R G w y v) :
    ∃ r, (Op.equalIn (d + 1) t u v).run P w = .ok r w ∧ K r := by
  cases x <;> cases y <;> try exact h.elim
  · rename_i kk a kk' b
    obtain ⟨h0, hK⟩ := chk_iff.1 h
    simp only [Bool.and_eq_true, decide_eq_true_eq] at h0
    obtain ⟨h0, hkk⟩ := h0
    subst h0 hkk
    rw [R_int] at hx hy; subst hx hy
    rcases leaf_of ht with ⟨_, i, hi⟩ | ⟨h0, _⟩ | ⟨h0, _⟩
    · refine ⟨_, run_equalIn_int w d t kk i a b hi, ?_⟩
      rw [show (a == b) = decide (a = b) by rw [Bool.eq_iff_iff]; simp]; exact hK
    · omega
    · omega
  · obtain ⟨hk, h⟩ := chk_dec h
    subst hk
    rw [R_bool] at hx hy; subst hx hy
    rcases leaf_of ht with ⟨h0, _⟩ | ⟨h0, _⟩ | ⟨_, hi⟩
    · omega
    · omega
    · exact ⟨_, run_equalIn_bool' w d t _ _ hi, h⟩
  · rename_i a b
    obtain ⟨hk, h⟩ := chk_dec h
    subst hk
    rw [R_str] at hx hy; subst hx hy
    rcases leaf_of ht with ⟨h0, _⟩ | ⟨_, hi⟩ | ⟨h0, _⟩
    · omega
    · refine ⟨_, run_equalIn_string w d t _ _ hi, ?_⟩
      rw [ByteArray.toList_mk, ByteArray.toList_mk, show (a == b) = decide (a = b) by rw [Bool.eq_iff_iff]; simp]; exact h
    · omega

/-- A plan's cells lie below n. -/
def below (n : Nat) (l : List (Nat × Nat)) : Prop := ∀ x ∈ l, x.1 < n

theorem eqPlan_mono : ∀ {l : List (Nat × Nat)} {xs ys : List AV} {K K' : Bool → Prop}, eqPlan l xs ys K → (∀ r, K r → K' r) → eqPlan l xs ys K'
  | [], _, _, _, _, h, hk => hk _ h
  | (o, k) :: l, xs, ys, K, K', h, hk => by
    simp only [eqPlan] at h ⊢
    generalize xs.getD o undefA = x at h ⊢
    generalize ys.getD o undefA = y at h ⊢
    cases x <;> cases y <;> try exact h.elim
    all_goals exact chk_iff.2 ⟨(chk_iff.1 h).1, eqPlan_mono (chk_iff.1 h).2 fun r => hk _⟩

theorem eqPlan_append : ∀ {l m : List (Nat × Nat)} {xs ys : List AV} {K : Bool → Prop}, eqPlan (l ++ m) xs ys K → eqPlan l xs ys fun r => eqPlan m xs ys fun q => K (r && q)
  | [], m, xs, ys, K, h => by simpa [eqPlan] using h
  | (o, k) :: l, m, xs, ys, K, h => by
    simp only [eqPlan, List.cons_append] at h ⊢
    generalize xs.getD o undefA = x at h ⊢
    generalize ys.getD o undefA = y at h ⊢
    cases x <;> cases y <;> try exact h.elim
    all_goals exact chk_iff.2 ⟨(chk_iff.1 h).1, eqPlan_mono (eqPlan_append (chk_iff.1 h).2) fun r hr => eqPlan_mono hr fun q hq => by rw [Bool.and_assoc]; exact hq⟩

theorem eqPlan_shift : ∀ {l : List (Nat × Nat)} {o n : Nat} {xs ys : List AV} {K : Bool → Prop}, below n l → eqPlan (l.map fun x => (o + x.1, x.2)) xs ys K → eqPlan l ((xs.drop o).take n) ((ys.drop o).take n) K
  | [], _, _, _, _, _, _, h => h
  | (i, k) :: l, o, n, xs, ys, K, hb, h => by
    simp only [List.map_cons, eqPlan] at h ⊢
    have hi : i < n := hb (i, k) List.mem_cons_self
    have hx : ∀ zs : List AV, ((zs.drop o).take n).getD i undefA = zs.getD (o + i) undefA := by
      intro zs
      simp [List.getD, hi, List.getElem?_drop]
    rw [hx, hx]
    generalize xs.getD (o + i) undefA = x at h ⊢
    generalize ys.getD (o + i) undefA = y at h ⊢
    have hb' : below n l := fun z hz => hb z (List.mem_cons_of_mem _ hz)
    cases x <;> cases y <;> try exact h.elim
    all_goals exact chk_iff.2 ⟨(chk_iff.1 h).1, eqPlan_shift hb' (chk_iff.1 h).2⟩

/-- A part of a struct, as it reads. -/
theorem run_part_atom {t : TypeId} {d : TypeDesc} (hu : P.underlying t = some d) (ha : isAggT P t = false) {us : List Value} {o : Nat} {u : Value} (h : us[o]? = some u) :
    (part t us.toArray o).run P w = .ok u w := by
  simp only [part, Sem.run_bind, run_isAgg hu, ha, Result.andThen_ok, Bool.false_eq_true, if_false]
  simp [h]

theorem run_part_agg {t : TypeId} {d : TypeDesc} {i : TypeInfo} (hu : P.underlying t = some d) (ha : isAggT P t = true) (hi : P.info? t = some i) (us : List Value) (o : Nat) :
    (part t us.toArray o).run P w = .ok (.agg ((us.drop o).take i.size).toArray) w := by
  simp only [part, Sem.run_bind, run_isAgg hu, ha, Result.andThen_ok, if_true, run_sizeOf hi, Sem.run_pure]
  congr 2
  apply Array.ext'
  simp [List.extract_eq_take_drop]

theorem leaf_notAgg {t : TypeId} {k : Nat} (h : leafT P t = some k) : (∃ d, P.underlying t = some d) ∧ isAggT P t = false := by
  rcases leaf_of h with ⟨_, i, hi⟩ | ⟨_, hi⟩ | ⟨_, hi⟩ <;> exact ⟨⟨_, hi⟩, by simp [isAggT, hi]⟩

theorem getD_of {l : List AV} {o : Nat} {K : Prop} (h : K) (hK : K → ∃ c, l[o]? = some c) : ∃ c, l[o]? = some c ∧ l.getD o undefA = c := by
  obtain ⟨c, hc⟩ := hK h
  exact ⟨c, hc, by simp [List.getD, hc]⟩

theorem eqLeaf_some {k : Nat} {xs ys : List AV} {o : Nat} {K : Bool → Prop} (h : eqLeaf k (xs.getD o undefA) (ys.getD o undefA) K) :
    (∃ x, xs[o]? = some x ∧ xs.getD o undefA = x) ∧ ∃ y, ys[o]? = some y ∧ ys.getD o undefA = y := by
  constructor
  · cases hx : xs[o]? with
    | none => simp [List.getD, hx, undefA, eqLeaf] at h
    | some x => exact ⟨x, rfl, by simp [List.getD, hx]⟩
  · cases hy : ys[o]? with
    | none =>
      simp only [List.getD, hy, undefA, Option.getD_none] at h
      cases hxx : xs[o]?.getD (AV.tuple []) <;> (rw [hxx] at h; exact h.elim)
    | some y => exact ⟨y, rfl, by simp [List.getD, hy]⟩

theorem plan_ok : ∀ (d : Nat) (t : TypeId) (l : List (Nat × Nat)) (xs ys : List AV) (us vs : List Value) (K : Bool → Prop),
    planT P d t = some l → RList G w xs us → RList G w ys vs → eqPlan l xs ys K →
    ∃ r, (Op.equalIn (d + 1) t (.agg us.toArray) (.agg vs.toArray)).run P w = .ok r w ∧ K r := by
  intro d
  induction d with
  | zero => intro t l xs ys us vs K h; cases h
  | succ d ih =>
    intro t l xs ys us vs K h hx hy hp
    unfold planT at h
    split at h
    · rename_i fs hu
      split at h
      · cases h
      · rename_i hst
        have hst : P.stoodInHeld t = false := by simpa using hst
        have hf : P.fieldsOf t = fs := by unfold Program.fieldsOf; rw [hu]
        rw [run_equalIn_struct w (d + 1) t _ _ (by rw [hf]; exact hu) hst, hf]
        generalize fs.toList = gs at h
        clear hf hu hst
        induction gs generalizing l K with
        | nil =>
          simp only [List.foldr_nil, Option.some.injEq] at h
          subst h
          exact ⟨true, rfl, hp⟩
        | cons f gs ihf =>
          rw [List.foldr_cons] at h
          split at h
          · rename_i l' k h1 h2 h3
            split at h
            · cases h
            · rename_i hne
              injection h with h; subst h
              simp only [eqPlan] at hp
              obtain ⟨⟨x, hx1, hx2⟩, y, hy1, hy2⟩ := eqLeaf_some hp
              rw [hx2, hy2] at hp
              obtain ⟨u, hu1, hu2⟩ := RList_get hx hx1
              obtain ⟨v, hv1, hv2⟩ := RList_get hy hy1
              obtain ⟨⟨dd, hdd⟩, hna⟩ := leaf_notAgg h2
              obtain ⟨r, hr, hk⟩ := eqLeaf_ok (d := d) h2 hp hu2 hv2
              obtain ⟨q, hq, hkq⟩ := ihf l' _ hk h1
              refine ⟨r && q, ?_, hkq⟩
              simp only [Op.eqFields]
              rw [if_pos hne]
              simp only [Sem.run_bind, run_part_atom hdd hna hu1, run_part_atom hdd hna hv1, Result.andThen_ok, hr]
              cases r
              · simp
              · simpa using hq
          · rename_i l' n h1 h2 h3
            split at h
            · rename_i m hm
              split at h
              · cases h
              · rename_i hne
                injection h with h; subst h
                simp only [Bool.or_eq_true, decide_eq_true_eq, Bool.not_eq_true', not_or, Bool.not_eq_false, List.any_eq_true, not_exists, not_and, Nat.not_le] at hne
                obtain ⟨⟨hne, hag⟩, hbl⟩ := hne
                obtain ⟨⟨dd, hdd⟩, i, hi, hsz⟩ := size_of h3
                have hp' := eqPlan_append hp
                have hp'' := eqPlan_shift (n := n) (fun x hx => hbl x hx) hp'
                obtain ⟨r, hr, hk⟩ := ih f.type m _ _ ((us.drop f.offset).take n) ((vs.drop f.offset).take n) _ hm (RList_take n (RList_drop f.offset hx)) (RList_take n (RList_drop f.offset hy)) hp''
                obtain ⟨q, hq, hkq⟩ := ihf l' _ hk h1
                refine ⟨r && q, ?_, hkq⟩
                simp only [Op.eqFields]
                rw [if_pos hne]
                simp only [Sem.run_bind, run_part_agg hdd hag hi, Result.andThen_ok, hsz, hr]
                cases r
                · simp
                · simpa using hq
            · cases h
          · cases h
    · cases h

theorem yields_of {t : TypeId} {u v : Value} {r : Bool} (h : (Op.equalIn 10000 t u v).run P w = .ok r w) (hg : ∀ op X Y, (eqGuard op t X Y u v).run P w = .ok () w)
    (h1 : binOp .eql t u v = (do let b ← Op.equal t u v; pure (.bool b))) (h2 : binOp .neq t u v = (do let b ← Op.equal t u v; pure (.bool (!b)))) :
    Yields P w .eql t u v (.bool r) ∧ Yields P w .neq t u v (.bool (!r)) := by
  refine ⟨⟨?_, hg _⟩, ⟨?_, hg _⟩⟩
  · unfold Gives; rw [h1]; simp [Op.equal, Op.maxDepth, h]
  · unfold Gives; rw [h2]; simp [Op.equal, Op.maxDepth, h]

theorem isPtr_of {t : TypeId} (h : isPtrT P t = true) : ∃ e, P.underlying t = some (.pointer e) := by
  unfold isPtrT at h
  split at h
  · exact ⟨_, by assumption⟩
  · cases h

theorem isIface_of {t : TypeId} (h : isIfaceT P t = some true) : ∃ e, P.underlying t = some (.interface e) := by
  unfold isIfaceT at h
  split at h
  · exact ⟨_, by assumption⟩
  · cases h
  · cases h

theorem notIface_of {t : TypeId} (h : isIfaceT P t = some false) : ∃ e, P.underlying t = some e ∧ ∀ m, e ≠ .interface m := by
  unfold isIfaceT at h
  split at h
  · cases h
  · rename_i d hn hu
    exact ⟨_, hu, fun m hm => hn m hm⟩
  · cases h

theorem run_eqIn_nil_right (d : Nat) {t e : TypeId} (hu : P.underlying t = some (.pointer e)) (a : Option Addr) : (Op.equalIn (d + 1) t (.pointer a) (.pointer none)).run P w = .ok a.isNone w := by
  cases a <;> simp [Op.equalIn, run_under hu]
theorem run_eqIn_nil_left (d : Nat) {t e : TypeId} (hu : P.underlying t = some (.pointer e)) (a : Option Addr) : (Op.equalIn (d + 1) t (.pointer none) (.pointer a)).run P w = .ok a.isNone w := by
  cases a <;> simp [Op.equalIn, run_under hu]
theorem run_eqIn_iface_left (d : Nat) {t : TypeId} {ms : Array (String × TypeId)} (hu : P.underlying t = some (.interface ms)) (i : TypeId) (z : Value) : (Op.equalIn (d + 1) t .nilIface (.iface i z)).run P w = .ok false w := by
  simp [Op.equalIn, run_under hu]
theorem run_eqIn_iface_right (d : Nat) {t : TypeId} {ms : Array (String × TypeId)} (hu : P.underlying t = some (.interface ms)) (i : TypeId) (z : Value) : (Op.equalIn (d + 1) t (.iface i z) .nilIface).run P w = .ok false w := by
  simp [Op.equalIn, run_under hu]

theorem aeq_ok {t : TypeId} {x y : AV} {K : Bool → Prop} (h : aeq P t x y K) {u v : Value} (hx : R G w x u) (hy : R G w y v) :
    ∃ r, K r ∧ Yields P w .eql t u v (.bool r) ∧ Yields P w .neq t u v (.bool (!r)) := by
  cases x <;> cases y <;> try exact h.elim
  case int.int k a k' b =>
    obtain ⟨hk, hK⟩ := chk_dec h
    subst hk
    rw [R_int] at hx hy; subst hx hy
    have bb : ∀ x y : Int, (x == y) = decide (x = y) := fun x y => by rw [Bool.eq_iff_iff]; simp
    exact ⟨_, hK, ⟨by simp [Gives, binOp, Op.intCmp, bb], guard_int⟩, ⟨by simp [Gives, binOp, Op.intCmp, bb, bne], guard_int⟩⟩
  case str.str a b =>
    rw [R_str] at hx hy; subst hx hy
    have bb : ∀ x y : List UInt8, (x == y) = decide (x = y) := fun x y => by rw [Bool.eq_iff_iff]; simp
    exact ⟨_, h, ⟨by simp [Gives, binOp, Op.stringOp, ByteArray.toList_mk, bb], guard_str⟩, ⟨by simp [Gives, binOp, Op.stringOp, ByteArray.toList_mk, bb], guard_str⟩⟩
  case bool.bool a b =>
    obtain ⟨ht, h⟩ := chk_iff.1 h
    have ht := eq_of_beq ht
    rw [R_bool] at hx hy; subst hx hy
    have hu : P.underlying t = some .bool := by
      rcases leaf_of ht with ⟨h0, _⟩ | ⟨h0, _⟩ | ⟨_, hi⟩
      · omega
      · omega
      · exact hi
    exact ⟨_, h, yields_of (run_equalIn_bool' w 9999 t a b hu) (fun op X Y => by unfold eqGuard; cases op <;> rfl) rfl rfl⟩
  case ptr.ptr a b =>
    cases b with
    | some b => cases a <;> exact h.elim
    | none =>
      have h : chk (isPtrT P t) (K a.isNone) := by cases a <;> exact h
      obtain ⟨ht, h⟩ := chk_iff.1 h
      obtain ⟨e, hu⟩ := isPtr_of ht
      rw [R_ptr] at hx hy; subst hx hy
      exact ⟨_, h, yields_of (run_eqIn_nil_right 9999 hu a) (fun op X Y => by unfold eqGuard; cases op <;> rfl) (by cases a <;> rfl) (by cases a <;> rfl)⟩
  case ptr.cptr a cs =>
    cases a with
    | some a => exact h.elim
    | none =>
      obtain ⟨ht, h⟩ := chk_iff.1 h
      obtain ⟨e, hu⟩ := isPtr_of ht
      rw [R_ptr] at hx; subst hx
      obtain ⟨b, o, rfl, _⟩ := R_cptr.1 hy
      exact ⟨_, h, yields_of (run_eqIn_nil_left 9999 hu _) (fun op X Y => by unfold eqGuard; cases op <;> rfl) rfl rfl⟩
  case cptr.ptr cs a =>
    cases a with
    | some a => exact h.elim
    | none =>
      obtain ⟨ht, h⟩ := chk_iff.1 h
      obtain ⟨e, hu⟩ := isPtr_of ht
      rw [R_ptr] at hy; subst hy
      obtain ⟨b, o, rfl, _⟩ := R_cptr.1 hx
      exact ⟨_, h, yields_of (run_eqIn_nil_right 9999 hu _) (fun op X Y => by unfold eqGuard; cases op <;> rfl) rfl rfl⟩
  case nilIface.iface =>
    obtain ⟨ht, h⟩ := chk_iff.1 h
    obtain ⟨e, hu⟩ := isIface_of (eq_of_beq ht)
    rw [R_nilIface] at hx; subst hx
    obtain ⟨z, rfl, _⟩ := R_iface.1 hy
    exact ⟨_, h, yields_of (run_eqIn_iface_left 9999 hu _ _) (fun op X Y => by unfold eqGuard; cases op <;> rfl) rfl rfl⟩
  case iface.nilIface =>
    obtain ⟨ht, h⟩ := chk_iff.1 h
    obtain ⟨e, hu⟩ := isIface_of (eq_of_beq ht)
    rw [R_nilIface] at hy; subst hy
    obtain ⟨z, rfl, _⟩ := R_iface.1 hx
    exact ⟨_, h, yields_of (run_eqIn_iface_right 9999 hu _ _) (fun op X Y => by unfold eqGuard; cases op <;> rfl) rfl rfl⟩
  case agg.agg xs ys =>
    obtain ⟨h⟩ : EqAgg P t xs ys K := h
    obtain ⟨hg, h⟩ := chk_iff.1 h
    have hg : P.eqGuardType P.depth t = false := by simpa using hg
    obtain ⟨us, rfl, hus⟩ := R_agg.1 hx
    obtain ⟨vs, rfl, hvs⟩ := R_agg.1 hy
    cases hp : planT P 9999 t with
    | none => rw [hp] at h; exact h.elim
    | some l =>
      rw [hp] at h
      obtain ⟨r, hr, hk⟩ := plan_ok (w := w) 9999 t l xs ys us.toList vs.toList K hp hus hvs h
      exact ⟨r, hk, yields_of hr (fun op X Y => run_eqGuard_agg w op t X Y us vs hg) rfl rfl⟩
end
end Go.Ab
