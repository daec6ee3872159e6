/- The walk of a region whose order is open. -/
import Derived.Test.YtcgobgnbpeageaaDoorAb18
import Derived.Orders
set_option linter.all false
namespace Go.Ab
open Go

def remI (n : Nat) (listed : Array Bool) : List Nat := (List.range n).filter fun i => !listed.getD i true
def remO (ops : Array Oper) (listed : Array Bool) : List Oper := (remI ops.size listed).filterMap (ops[·]?)

theorem rem_split {n i : Nat} {listed : Array Bool} (hs : listed.size = n) (hi : i ∈ remI n listed) :
    ∃ L1 L2, remI n listed = L1 ++ i :: L2 ∧ remI n (listed.setIfInBounds i true) = L1 ++ L2 ∧ ∀ j ∈ L1, j < i := by
  obtain ⟨hir, hp⟩ := List.mem_filter.1 hi
  obtain ⟨A, B, hAB⟩ := List.append_of_mem hir
  have hpw : (List.range n).Pairwise (· < ·) := List.pairwise_lt_range
  rw [hAB, List.pairwise_append, List.pairwise_cons] at hpw
  obtain ⟨_, ⟨hB, _⟩, hA⟩ := hpw
  have hA : ∀ j ∈ A, j < i := fun j hj => hA j hj i (by simp)
  have hin : i < n := List.mem_range.1 hir
  have other : ∀ j, j ≠ i → (listed.setIfInBounds i true).getD j true = listed.getD j true := fun j hj => by
    simp only [Array.getD_eq_getD_getElem?, Array.getElem?_setIfInBounds]
    rw [if_neg (fun h => hj h.symm)]
  have self : (listed.setIfInBounds i true).getD i true = true := by
    simp [Array.getD, hs, hin]
  refine ⟨A.filter fun i => !listed.getD i true, B.filter fun i => !listed.getD i true, ?_, ?_, fun j hj => hA j (List.mem_filter.1 hj).1⟩
  · unfold remI
    rw [hAB, List.filter_append, List.filter_cons, if_pos hp]
  · unfold remI
    rw [hAB, List.filter_append, List.filter_cons, if_neg (by simp only [self]; simp)]
    congr 1
    · exact List.filter_congr fun j hj => by rw [other j (by have := hA j hj; omega)]
    · exact List.filter_congr fun j hj => by rw [other j (by have := hB j hj; omega)]

theorem range_at {α : Type} : ∀ l : List α, (List.range l.length).filterMap (l[·]?) = l
  | [] => rfl
  | x :: l => by
    rw [List.length_cons, List.range_succ_eq_map, List.filterMap_cons]
    simp only [List.getElem?_cons_zero, List.filterMap_map]
    congr 1
    exact range_at l

section
variable {P : Program} {Γ : Nat → AV} {n : Nat}

theorem front {ops : Array Oper} {o : Oper} : ∀ {L1 L2 : List Oper} {e : Env} {s : Sto} {K : Env → Sto → Prop}, (∀ x ∈ L1, indep ops x o = true) →
    dwp P Γ ops (L1 ++ o :: L2) e s K → Tr P Γ ops o e s fun v s' => dwp P Γ ops (L1 ++ L2) (updO e o.dst v) s' K
  | [], _, _, _, _, _, h => h
  | x :: L1, L2, e, s, K, hx, h => by
    have h' : Tr P Γ ops x e s fun v1 s1 => Tr P Γ ops o (updO e x.dst v1) s1 fun v2 s2 => dwp P Γ ops (L1 ++ L2) (updO (updO e x.dst v1) o.dst v2) s2 K :=
      Tr_mono h fun v s' h => front (fun y hy => hx y (List.mem_cons_of_mem _ hy)) h
    exact swap (K := fun e s => dwp P Γ ops (L1 ++ L2) e s K) (hx x (by simp)) h'

theorem ready_mem {ops : Array Oper} {listed : Array Bool} {i : Nat} (h : i ∈ Region.ready .any ops listed) :
    i ∈ remI ops.size listed ∧ ∃ o, ops[i]? = some o ∧ ∀ e ∈ o.after.toList, Region.binds .any e = true → listed.getD e.on false = true := by
  unfold Region.ready at h
  obtain ⟨hr, hp⟩ := List.mem_filter.1 h
  simp only [Bool.and_eq_true] at hp
  refine ⟨List.mem_filter.2 ⟨hr, hp.1⟩, ?_⟩
  have hlt := List.mem_range.1 hr
  refine ⟨ops[i], by simp [hlt], fun e he hb => ?_⟩
  have h2 := hp.2
  simp only [Array.getElem?_eq_getElem hlt, Option.map_some, Option.getD_some] at h2
  have := Array.all_eq_true_iff_forall_mem.1 h2 e (by simpa using he)
  simpa [hb] using this

theorem okDraw_at {ops : Array Oper} (hd : okDraw P ops = true) {i : Nat} {o : Oper} (hi : ops[i]? = some o) :
    (∀ e ∈ o.after.toList, Region.binds .any e = true → e.on < i) ∧
    ∀ j < i, (∃ e ∈ o.after.toList, Region.binds .any e = true ∧ e.on = j) ∨ ∃ o', ops[j]? = some o' ∧ indep ops o' o = true := by
  have hlt : i < ops.size := (Array.getElem?_eq_some_iff.1 hi).1
  have h := List.all_eq_true.1 hd i (List.mem_range.2 hlt)
  rw [hi] at h
  simp only [Bool.and_eq_true] at h
  refine ⟨fun e he hb => ?_, fun j hj => ?_⟩
  · have := List.all_eq_true.1 h.1 e he
    simpa [hb] using this
  · have := List.all_eq_true.1 h.2 j (List.mem_range.2 hj)
    simp only [Bool.or_eq_true] at this
    rcases this with h1 | h1
    · obtain ⟨e, he, h2⟩ := List.any_eq_true.1 h1
      simp only [Bool.and_eq_true, beq_iff_eq] at h2
      exact .inl ⟨e, he, h2⟩
    · cases ho : ops[j]? with
      | none => rw [ho] at h1; cases h1
      | some o' => rw [ho] at h1; exact .inr ⟨o', rfl, h1⟩

theorem getD_listed {listed : Array Bool} {n j : Nat} (hs : listed.size = n) (hj : j < n) (h : j ∉ remI n listed) : listed.getD j false = true := by
  have : ¬ (!listed.getD j true) = true := fun h' => h (List.mem_filter.2 ⟨List.mem_range.2 hj, h'⟩)
  have hlt : j < listed.size := by omega
  simpa [Array.getD, hlt] using this
theorem getD_unlisted {listed : Array Bool} {n j : Nat} (hs : listed.size = n) (h : j ∈ remI n listed) : listed.getD j false = false := by
  obtain ⟨hr, hp⟩ := List.mem_filter.1 h
  have hlt : j < listed.size := by have := List.mem_range.1 hr; omega
  simpa [Array.getD, hlt] using hp

theorem rem_nil {ops : Array Oper} (hd : okDraw P ops = true) {listed : Array Bool} (hs : listed.size = ops.size) (h : Region.ready .any ops listed = []) : remI ops.size listed = [] := by
  have key : ∀ m i, i < m → i ∉ remI ops.size listed := by
    intro m
    induction m with
    | zero => intro i hi; omega
    | succ m ih =>
      intro i hi hm
      by_cases him : i < m
      · exact ih i him hm
      · have hlt : i < ops.size := List.mem_range.1 (List.mem_filter.1 hm).1
        have hoi : ops[i]? = some ops[i] := by simp [hlt]
        have hedge := (okDraw_at hd hoi).1
        have : i ∈ Region.ready .any ops listed := by
          unfold Region.ready
          refine List.mem_filter.2 ⟨List.mem_range.2 hlt, ?_⟩
          rw [(List.mem_filter.1 hm).2, hoi]
          simp only [Option.map_some, Option.getD_some, Bool.true_and]
          refine Array.all_eq_true_iff_forall_mem.2 fun e he => ?_
          cases hb : Region.binds .any e with
          | false => rfl
          | true =>
            have hon := hedge e (by simpa using he) hb
            rw [getD_listed hs (by omega) (ih e.on (by omega))]
            rfl
        rw [h] at this
        cases this
  refine List.eq_nil_iff_forall_not_mem.2 fun i => key (i + 1) i (Nat.lt_succ_self i)

theorem any_ok {ops : Array Oper} {Q : Exit → Env → Sto → Prop} {G0 : Gh} {w0 : World} (hok : ops.toList.all (okOp n) = true) (hd : okDraw P ops = true) :
    ∀ (fuel : Nat) (listed : Array Bool) {G : Gh} {w : World} {a : Act} {e : Env} {s : Sto}, listed.size = ops.size → (remI ops.size listed).length ≤ fuel →
      Ext G0 w0 G w → Mod Γ G s w → EnvR G w n e a → dwp P Γ ops (remO ops listed) e s (fun e' s' => Q .normal e' s') → wpAny P .any ops (Behind Γ n G0 w0 Q) fuel listed a w := by
  intro fuel
  induction fuel with
  | zero =>
    intro listed G w a e s hs hf X hm he h
    have hr : remI ops.size listed = [] := List.eq_nil_of_length_eq_zero (by omega)
    refine ⟨List.eq_nil_iff_forall_not_mem.2 fun i hi => ?_, ?_⟩
    · have := (ready_mem hi).1; rw [hr] at this; cases this
    · unfold remO at h; rw [hr] at h
      exact ⟨e, s, G, h, hm, he, X⟩
  | succ fuel ih =>
    intro listed G w a e s hs hf X hm he h
    refine ⟨fun hnil => ?_, fun i hi => ?_⟩
    · unfold remO at h; rw [rem_nil hd hs hnil] at h
      exact ⟨e, s, G, h, hm, he, X⟩
    · obtain ⟨hi1, o, ho, hedge⟩ := ready_mem hi
      obtain ⟨L1, L2, h1, h2, h3⟩ := rem_split hs hi1
      have hO : remO ops listed = L1.filterMap (ops[·]?) ++ o :: L2.filterMap (ops[·]?) := by
        unfold remO; rw [h1, List.filterMap_append, List.filterMap_cons, ho]
      have hO' : remO ops (listed.setIfInBounds i true) = L1.filterMap (ops[·]?) ++ L2.filterMap (ops[·]?) := by
        unfold remO; rw [h2, List.filterMap_append]
      rw [hO] at h
      have hfront := front (P := P) (Γ := Γ) (ops := ops) (o := o) (fun x hx => by
        obtain ⟨j, hj, hjx⟩ := List.mem_filterMap.1 hx
        have hjm : j ∈ remI ops.size listed := by rw [h1]; exact List.mem_append_left _ hj
        rcases (okDraw_at hd ho).2 j (h3 j hj) with ⟨e, he, hb, hej⟩ | ⟨o', ho', hi'⟩
        · have h5 := hedge e he hb
          rw [hej, getD_unlisted hs hjm] at h5
          cases h5
        · rw [ho'] at hjx; injection hjx with hjx; rw [← hjx]; exact hi') h
      have hoo : okOp n o = true := List.all_eq_true.1 hok o (by
        obtain ⟨hlt, rfl⟩ := Array.getElem?_eq_some_iff.1 ho
        exact Array.getElem_mem_toList hlt)
      have hlen : (remI ops.size (listed.setIfInBounds i true)).length ≤ fuel := by
        rw [h1] at hf; rw [h2]; simp only [List.length_append, List.length_cons] at hf ⊢; omega
      have next : ∀ {v : Value} {r : AV} {s' : Sto} {G' : Gh} {w' : World}, dwp P Γ ops (L1.filterMap (ops[·]?) ++ L2.filterMap (ops[·]?)) (updO e o.dst r) s' (fun e' s' => Q .normal e' s') →
          R G' w' r v → Mod Γ G' s' w' → Ext G w G' w' → wpAny P .any ops (Behind Γ n G0 w0 Q) fuel (listed.setIfInBounds i true) (a.put o.dst v) w' := by
        intro v r s' G' w' hK hR hm' X'
        refine ih _ (by simp [hs]) hlen (X.trans X') hm' ((he.mono X').put (okOp_dst hoo) hR) ?_
        rw [hO']; exact hK
      unfold wpOp
      rw [ho]
      dsimp only
      rcases wanted_of he hfront (dst_lt hok) with ⟨hw, h⟩ | ⟨hw, h⟩
      · rw [if_pos hw]
        refine .inl (astep_ok hm he (okOp_ops hoo) (dstep_astep h) ?_)
        intro v r s' G' w' hK hR hm' X'
        exact next hK hR hm' X'
      · rw [if_neg (by rw [hw]; simp)]
        exact next h R_undef hm (Ext.refl _ _)

/-- The walk of such a region, with forced values. -/
def opsD (P : Program) (Γ : Nat → AV) (ops : Array Oper) (o : Oper) (_ : List Oper) (rest : Env → Sto → (Env → Sto → Prop) → Prop) (e : Env) (s : Sto) (K : Env → Sto → Prop) : Prop :=
  wantA ops e o.guard (dstep P Γ (evA Γ e) s o.op fun v s' => frc v fun v' => putA o.dst e v' fun e' => rest e' s' K) (putA o.dst e undefA fun e' => rest e' s K)
def awpD (P : Program) (Γ : Nat → AV) (ops : Array Oper) (l : List Oper) : Env → Sto → (Env → Sto → Prop) → Prop :=
  List.rec (motive := fun _ => Env → Sto → (Env → Sto → Prop) → Prop) endA (opsD P Γ ops) l

theorem dwp_of_awpD {ops : Array Oper} : ∀ (l : List Oper) {e : Env} {s : Sto} {K : Env → Sto → Prop}, awpD P Γ ops l e s K → dwp P Γ ops l e s K
  | [], _, _, _, h => h
  | o :: l, e, s, K, h => by
    refine wantA_mono h (fun h => dstep_mono h fun v s' h => ?_) fun h => ?_
    · rw [frc_eq, putA_eq] at h; exact dwp_of_awpD l h
    · rw [putA_eq] at h; exact dwp_of_awpD l h

theorem AWp.any {id : Nat} {ops : Array Oper} {Q : Exit → Env → Sto → Prop} {e : Env} {s : Sto} (hmix : P.follows .mixedOrders = true) (hok : ops.toList.all (okOp n) = true) (hd : okDraw P ops = true)
    (h : awpD P Γ ops ops.toList e s fun e' s' => Q .normal e' s') : AWp P Γ n (.region id ops true) Q e s := by
  refine ⟨fun G w a hm he => ?_⟩
  refine wp_region_any hmix ?_
  have hrem : remI ops.size (Array.replicate ops.size false) = List.range ops.size := by
    unfold remI
    refine List.filter_eq_self.2 fun i hi => ?_
    simp [Array.getD, List.mem_range.1 hi]
  have hremO : remO ops (Array.replicate ops.size false) = ops.toList := by
    unfold remO
    rw [hrem, ← Array.length_toList]
    refine Eq.trans ?_ (range_at ops.toList)
    congr 1
    funext i
    exact Array.getElem?_toList.symm
  obtain ⟨hm1, X1⟩ := Mod.drew hm
  have := any_ok (P := P) (Γ := Γ) (Q := Q) hok hd ops.size (Array.replicate ops.size false) (by simp) (by rw [hrem]; simp) X1 hm1 (he.mono X1) (by rw [hremO]; exact dwp_of_awpD _ h)
  exact this
end
end Go.Ab
