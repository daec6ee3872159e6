
/- strings.Builder, said of abstract values: a box of two cells, its own address and its buffer. -/
import Derived.Test.YtcgobgnbpeageaaGreatDoorAb21
import Derived.Test.YtcgobgnbpeageaaGreatDoorChecked
import Derived.Lib.Builder
import Derived.Lib.UnsafeStr
import Derived.Shelf.RegionOpenPlain
set_option linter.all false
namespace Go.Proofs.YtcgobgnbpeageaaGreatDoor.Bd
open Go Go.Ab Go.RowKit
variable {Γ : Nat → AV}
set_option maxRecDepth 10000

/-- A builder in box b, made by the call itself, that holds l. -/
structure Bld (s s' : Sto) (b : Nat) (l : List UInt8) : Prop where
  new : s.bx b = none
  at_ : ∃ p t, s'.bx b = some (69, [.ptr p, .slice t (bytesA l)]) ∧ (p = none ∨ p = some ⟨b, 0, none⟩) ∧ Own s s' l.isEmpty t 5 1

section
variable {G : Gh} {s : Sto} {w : World}
theorem set_self {b : Nat} {T : TypeId} {cs : List AV} (h : s.bx b = some (T, cs)) : s.set b T cs = s := by
  cases s
  simp only [Sto.set, Sto.mk.injEq, and_true]
  funext i
  split
  · rename_i hi; subst hi; exact h.symm
  · rfl

theorem copyCheck_ok {b : Nat} {p : Option Addr} {x : AV} (hb : s.bx b = some (69, [.ptr p, x])) (hp : p = none ∨ p = some ⟨b, 0, none⟩) :
    ACalls Tryz.prog Γ 69 [.ptr (some ⟨b, 0, none⟩)] s fun v s' => v = .tuple [] ∧ s' = s.set b 69 [.ptr (some ⟨b, 0, none⟩), x] := by
  refine ⟨fun G w vs hm hr => ?_⟩
  obtain ⟨u, us, rfl, hu, hus⟩ := RList_cons.1 hr
  rw [RList_nil] at hus; subst hus
  rw [R_ptr] at hu; subst hu
  obtain ⟨_, cs, hh, hcs⟩ := hm.box b _ _ hb
  obtain ⟨c0, cs', rfl, h0, h1⟩ := RList_cons.1 hcs
  obtain ⟨c1, cs'', rfl, hx, h2⟩ := RList_cons.1 h1
  rw [RList_nil] at h2; subst h2
  rw [R_ptr] at h0; subst h0
  have hcell : w.cell? ⟨b, 0, none⟩ = some (.pointer p) := by rw [Lib.cell_of_heap hh]; rfl
  have hsh : w.shape? b = some (69, 2) := by simp [World.shape?, hh]
  have hfz : w.frozen? ⟨b, 0, none⟩ = false := Lib.frozen_of_heap hh 0
  have hsz : (Tryz.prog.info? 69).map (·.size) = some 2 := by kernel_rfl
  obtain ⟨j, hj, hjs⟩ := Option.map_eq_some_iff.1 hsz
  rcases hp with rfl | rfl
  · refine Calls.mono (R := fun e w' => e = .returned (.tuple #[]) ∧ w' = w.setCell ⟨b, 0, none⟩ (.pointer (some ⟨b, 0, none⟩))) ?_ ?_
    · go_enter Tryz.func69, Tryz.ntmps69
      go_wp2
      rw [Lib.run_to_unsafe w ⟨b, 0, none⟩ Tryz.underlying66 Tryz.underlying112 hj (by rw [hjs]; decide) hsh (Nat.zero_lt_succ 1)]
      simp only [Result.andThen]
      rw [Oper.upon_value]
      go_wp2
      rw [run_callFunc_extern Tryz.func87 (by kernel_rfl) (by kernel_rfl) (by kernel_rfl) (e := Extern.AbiNoEscape.same) (by kernel_rfl)]
      rw [Lib.run_noEscape]
      simp only [Result.andThen]
      rw [Oper.upon_value]
      go_wp2
      rw [Lib.run_from_unsafe w ⟨b, 0, none⟩ Tryz.underlying112 Tryz.underlying66 hj hsh (by kernel_rfl)]
      simp only [Result.andThen]
      rw [Oper.upon_value]
      go_wp2
      go_end0
      exact ⟨rfl, rfl⟩
    · rintro e w' ⟨rfl, rfl⟩
      have hlt := box_lt hm hb
      obtain ⟨m1, m2⟩ := hm.box_set (w' := w.setCell ⟨b, 0, none⟩ (.pointer (some ⟨b, 0, none⟩))) (T := 69) (cs' := [.ptr (some ⟨b, 0, none⟩), x]) (vs := [.pointer (some ⟨b, 0, none⟩), c1]) hb
        (RList_cons.2 ⟨_, _, rfl, R_ptr.2 rfl, RList_cons.2 ⟨_, _, rfl, hx, RList_nil.2 rfl⟩⟩) rfl rfl rfl (by simp [World.setCell])
        (by simp [World.setCell, Array.getElem?_modify, hh]) (fun k hk => by simp [World.setCell, Array.getElem?_modify, Ne.symm hk])
      exact ⟨_, _, _, G, rfl, ⟨rfl, rfl⟩, R_tuple.2 ⟨#[], rfl, RList_nil.2 rfl⟩, m1, m2⟩
  · refine Calls.mono (R := fun e w' => e = .returned (.tuple #[]) ∧ w' = w) ?_ ?_
    · go_enter Tryz.func69, Tryz.ntmps69
      go_wp2
      rw [Lib.run_neq_ptr_same w _ Tryz.underlying66 hj]
      go_wp2
      go_end0
      exact ⟨rfl, rfl⟩
    · rintro e w' ⟨rfl, rfl⟩
      exact ⟨_, .tuple [], s, G, rfl, ⟨rfl, (set_self hb).symm⟩, R_tuple.2 ⟨#[], rfl, RList_nil.2 rfl⟩, hm, Ext.refl _ _⟩
end

section
variable {G : Gh} {s : Sto} {w : World}
/-- The row of a token is frozen: the token is spent. -/
def Sto.spend (s : Sto) (t : Nat) : Sto := { s with lv := fun u e k => s.lv u e k ∧ u ≠ t }

theorem freeze_cell (w : World) (a : Addr) (n : Nat) (x : Addr) : (w.freeze a n).cell? x = w.cell? x := by
  unfold World.freeze
  split
  · rfl
  · unfold World.cell?
    simp only [Array.getElem?_modify]
    by_cases h : a.block = x.block
    · rw [if_pos h]
      cases w.heap[x.block]? with
      | none => rfl
      | some o => cases o <;> simp
    · rw [if_neg h]
theorem freeze_other (w : World) (a : Addr) (n : Nat) (b : Nat) (h : b ≠ a.block) : (w.freeze a n).heap[b]? = w.heap[b]? := by
  unfold World.freeze
  split
  · rfl
  · simp only [Array.getElem?_modify]
    rw [if_neg (fun e => h e.symm)]
theorem freeze_size (w : World) (a : Addr) (n : Nat) : (w.freeze a n).heap.size = w.heap.size := by
  unfold World.freeze
  split <;> simp
theorem freeze_os (w : World) (a : Addr) (n : Nat) : (w.freeze a n).os = w.os ∧ (w.freeze a n).tape = w.tape ∧ (w.freeze a n).output = w.output := by
  unfold World.freeze
  split <;> exact ⟨rfl, rfl, rfl⟩

theorem Mod.frozen (hm : Mod Γ G s w) {t g n : Nat} {e : TypeId} {k : Nat} (hl : s.lv t e k) (ht : Top G w t g e k) : Mod Γ G (Sto.spend s t) (w.freeze ⟨g, 0, none⟩ n) ∧ Ext G w G (w.freeze ⟨g, 0, none⟩ n) := by
  have hkd : ∃ r, G.kd g = .row r := by
    obtain ⟨_, _, _, _, _, h3, _⟩ := ht
    exact ⟨_, h3⟩
  obtain ⟨r, hkd⟩ := hkd
  obtain ⟨o1, o2, o3⟩ := freeze_os w ⟨g, 0, none⟩ n
  have X : Ext G w G (w.freeze ⟨g, 0, none⟩ n) := ⟨o1, o2, o3, by rw [freeze_size]; exact Nat.le_refl _,
    fun b hb => ⟨hb, freeze_other _ _ _ _ (by rintro rfl; rw [hkd] at hb; cases hb)⟩,
    fun b h hb => ⟨.inr ⟨h, Nat.le_refl _, hb⟩, fun o _ => freeze_cell _ _ _ _⟩, fun _ _ => rfl⟩
  have other : ∀ {u b e' k'}, s.lv u e' k' → u ≠ t → Top G w u b e' k' → b ≠ g := by
    rintro u b e' k' hu hne h rfl
    exact hne (hm.apart u t b e' k' e k hu hl h ht)
  refine ⟨⟨fun i => (hm.glob i).mono X, ?_, ?_, ?_, ?_, hm.fin⟩, X⟩
  · intro b T cs hb
    obtain ⟨h1, vs, h2, h3⟩ := hm.box b T cs hb
    exact ⟨h1, vs, (freeze_other _ _ _ _ (by rintro rfl; rw [hkd] at h1; cases h1)).trans h2, h3.mono X _ _⟩
  · intro b hb
    rw [freeze_size]; exact hm.dom b hb
  · rintro u e' k' ⟨hu, hne⟩
    obtain ⟨h0, h1, b, h2⟩ := hm.live u e' k' hu
    exact ⟨h0, h1, b, h2.mono rfl rfl (freeze_other _ _ _ _ (other hu hne h2))⟩
  · rintro u v b e1 k1 e2 k2 ⟨hu, hne⟩ ⟨hv, hne'⟩ h1 h2
    by_cases hb : b = g
    · subst hb
      exfalso
      obtain ⟨_, _, b', h3⟩ := hm.live u e1 k1 hu
      have hb' := other hu hne h3
      obtain ⟨_, _, _, h4, _⟩ := h1
      obtain ⟨_, _, _, h5, _⟩ := h3
      rw [h4] at h5
      injection h5 with h5; injection h5 with h5; injection h5 with h5
      exact hb' h5.symm
    · have hh := freeze_other w ⟨g, 0, none⟩ n b hb
      exact hm.apart u v b e1 k1 e2 k2 hu hv (h1.mono rfl rfl hh.symm) (h2.mono rfl rfl hh.symm)

theorem bytes_inv : ∀ {l : List UInt8} {os : List Value}, RList G w (bytesA l).flatten os → os = Lib.byteCells l
  | [], os, h => RList_nil.1 h
  | x :: l, os, h => by
    have h : RList G w (.int .u8 x.toNat :: (bytesA l).flatten) os := h
    obtain ⟨u, us, rfl, hu, hus⟩ := RList_cons.1 h
    rw [R_int] at hu
    rw [hu, bytes_inv hus]
    rfl
end

theorem String_ok {s s' : Sto} {b : Nat} {l : List UInt8} (h : Bld s s' b l) (h0 : l ≠ []) (hmax : l.length ≤ 9223372036854775807) :
    ACalls Tryz.prog Γ 49 [.ptr (some ⟨b, 0, none⟩)] s' fun v s'' => v = .str l ∧ Sub s s'' := by
  obtain ⟨hnew, p, t, hb, hp, ho⟩ := h
  refine ⟨fun G w vs hm hr => ?_⟩
  obtain ⟨u, us, rfl, hu, hus⟩ := RList_cons.1 hr
  rw [RList_nil] at hus; subst hus
  rw [R_ptr] at hu; subst hu
  obtain ⟨_, cs, hh, hcs⟩ := hm.box b _ _ hb
  obtain ⟨c0, cs', rfl, hc0, h1⟩ := RList_cons.1 hcs
  obtain ⟨c1, cs'', rfl, hx, h2⟩ := RList_cons.1 h1
  rw [RList_nil] at h2; subst h2
  rw [R_ptr] at hc0; subst hc0
  obtain ⟨ht1, hlv, hno⟩ : t ≠ 1 ∧ s'.lv t 5 1 ∧ ∀ e k, ¬ s.lv t e k := by
    rcases ho.own with ⟨_, hz⟩ | h
    · exact absurd (List.isEmpty_iff.1 hz) h0
    · exact h
  obtain ⟨ht0, _, g, htop⟩ := hm.live t _ _ hlv
  have htop' := htop
  obtain ⟨len, cap, c, htk, hle, hkd, hhg, hcsz⟩ := htop
  have hval := (R_slice.1 hx).1 ht0 ht1
  rw [htk] at hval
  subst hval
  obtain ⟨a, cap', hv, _, _, hels, _⟩ := slice_val hx
  injection hv with e1 e2 e3
  subst e1 e2 e3
  have hbl : (bytesA l).length = l.length := bytesA_len l
  obtain ⟨b', o', k', ha, hel⟩ := hels (by intro hn; rw [hn] at hbl; exact h0 (List.eq_nil_of_length_eq_zero hbl.symm))
  injection ha with ha; injection ha with ha1 ha2; subst ha1 ha2
  obtain ⟨os, h3, h4, h5⟩ := RElems_cells _ hel
  have hos : os = Lib.byteCells l := bytes_inv h4
  subst hos
  have hhd : w.drew.heap[b]? = some (.cells #[.pointer p, .slice (some ⟨g, 0, none⟩) (bytesA l).length cap] 69 (0, 0)) := hh
  have hc1 : w.drew.cell? ⟨b, 1, none⟩ = some (.slice (some ⟨g, 0, none⟩) l.length cap) := by rw [Lib.cell_of_heap hhd, hbl]; rfl
  have hpos : 0 < l.length := List.length_pos_iff.2 h0
  have hcap : l.length ≤ cap := by rw [← hbl]; exact hle
  have hSD : (Builtin.unsafeSliceData_ #[67] 95 #[.slice (some ⟨g, 0, none⟩) l.length cap]).run Tryz.prog w.drew = .ok (.pointer (some ⟨g, 0, none⟩)) w.drew :=
    Lib.run_unsafeSliceData_row _ _ _ _ _ _ (by omega)
  have hgd : w.drew.heap[g]? = some (.cells c 5 (0, 0)) := hhg
  have hmaxc : l.length ≤ 9223372036854775807 := hmax
  have hUS : (Builtin.unsafeString_ #[95, 3] 9 #[.pointer (some ⟨g, 0, none⟩), .int .i64 l.length]).run Tryz.prog w.drew = .ok (.string ⟨l.toArray⟩) (w.drew.freeze ⟨g, 0, none⟩ l.length) := by
    refine Lib.run_unsafeString_row w.drew 95 3 9 5 Tryz.underlying95 (by kernel_rfl) g c.size (by simp [World.shape?, hgd]) l h0 (by omega) hmaxc ?_
    intro j x hxj
    have := h5 j (.int .u8 x.toNat) (by simp [Lib.byteCells, hxj])
    rw [Addr.add_lit]; exact this
  refine Calls.mono (R := fun e w' => e = .returned (.string ⟨l.toArray⟩) ∧ w' = w.drew.freeze ⟨g, 0, none⟩ l.length) ?_ ?_
  · have mixed : Tryz.prog.follows .mixedOrders = true := by kernel_rfl
    go_enter Tryz.func49, Tryz.ntmps49
    go_wp2
    go_region_o
    all_goals (go_wp2; go_ret; exact ⟨rfl, rfl⟩)
  · rintro e w' ⟨rfl, rfl⟩
    obtain ⟨md, Xd⟩ := hm.drew
    obtain ⟨m1, m2⟩ := Mod.frozen md (n := l.length) hlv (htop'.mono (w' := w.drew) (G' := G) rfl rfl rfl)
    exact ⟨_, .str l, Sto.spend s' t, G, rfl, ⟨rfl, fun b x hx => ho.sub.bx b x hx, fun u e k hu => ⟨ho.sub.lv u e k hu, by rintro rfl; exact hno _ _ hu⟩⟩, R_str.2 rfl, m1, Xd.trans m2⟩

attribute [local irreducible] APure Sto.set Sto.grow
set_option maxRecDepth 10000

theorem Bld.start {s : Sto} {b : Nat} (hb : s.bx b = none) : Bld s (s.set b 69 [.ptr none, .slice 1 []]) b [] :=
  ⟨hb, none, 1, set_bx_same, .inl rfl, Own.start ((Sub.refl s).set hb _ _) _ _⟩
theorem WriteByte_ok {s s' : Sto} {b : Nat} {l : List UInt8} (c : UInt8) (n : Int) (hn : n = c.toNat) (h : Bld s s' b l) (hl : l.length + 1 ≤ 70368744177664) :
    ACalls Tryz.prog Γ 46 [.ptr (some ⟨b, 0, none⟩), .int .u8 n] s' fun v s'' => v = .nilIface ∧ Bld s s'' b (l ++ [c]) := by
  subst hn
  obtain ⟨h0, p, t, hb, hp, ho⟩ := h
  refine ACalls.of_awp Tryz.func46 rfl (Nat.le_of_ble_eq_true (by kernel_rfl)) (awp_ok _ (by kernel_rfl) ?_)
  conv => whnf
  refine ACalls.by (copyCheck_ok hb hp) ?_
  rintro _ _ ⟨rfl, rfl⟩
  conv => whnf
  refine getB_same ?_
  conv => whnf
  repeat' (first
    | (refine ⟨Sub.refl _, ?_⟩)
    | (refine brA_split (fun h => ?_) (fun h => ?_) <;> (try rw [h]) <;> (try simp only [Bool.false_eq_true, Bool.true_eq_false, ↓reduceIte, decide_eq_true_eq, decide_eq_false_iff_not, Bool.not_eq_true', Bool.not_eq_false'] at h) <;> (conv => whnf))
    | (refine getB_same ?_; conv => whnf)
    | (refine AWp.any (by kernel_rfl) (by kernel_rfl) (by kernel_rfl) ?_; conv => whnf)
    | (apply And.intro; (focus (first | omega | rfl | decide | exact Nat.le_of_ble_eq_true rfl | ((repeat' (first | exact all_nil | refine all_cons ?_ ?_ | rfl | fail)); done) | (simp [-List.length_flatMap]; done) | (simp [-List.length_flatMap]; omega) | fail)); conv => whnf)
    | fail)
  have ho' : Own s (s'.set b 69 [.ptr (some ⟨b, 0, none⟩), .slice t (bytesA l)]) l.isEmpty t 5 1 := ho.set h0
  refine ⟨ho'.may, bytesA_all l, all_cons ⟨rfl, rfl⟩ all_nil, ?_, ?_⟩
  · show ((bytesA l).length + 1) * (1 + 1) ≤ _
    rw [bytesA_len]; omega
  intro t' h1 h2
  have ho2 := ho'.grow h1 h2
  conv => whnf
  refine getB_grow (getB_same ?_)
  conv => whnf
  repeat' (first
    | (refine ⟨Sub.refl _, ?_⟩)
    | (refine brA_split (fun h => ?_) (fun h => ?_) <;> (try rw [h]) <;> (try simp only [Bool.false_eq_true, Bool.true_eq_false, ↓reduceIte, decide_eq_true_eq, decide_eq_false_iff_not, Bool.not_eq_true', Bool.not_eq_false'] at h) <;> (conv => whnf))
    | (refine getB_same ?_; conv => whnf)
    | (refine AWp.any (by kernel_rfl) (by kernel_rfl) (by kernel_rfl) ?_; conv => whnf)
    | (apply And.intro; (focus (first | omega | rfl | decide | exact Nat.le_of_ble_eq_true rfl | ((repeat' (first | exact all_nil | refine all_cons ?_ ?_ | rfl | fail)); done) | (simp [-List.length_flatMap]; done) | (simp [-List.length_flatMap]; omega) | fail)); conv => whnf)
    | fail)
  refine ⟨_, Sub.refl _, rfl, h0, _, t', by rw [bytesA_append]; exact set_bx_same, .inr rfl, ?_⟩
  have e : (l ++ [c]).isEmpty = (l.isEmpty && [[AV.int .u8 c.toNat]].isEmpty) := by simp
  rw [e]
  exact ho2.set h0

theorem WriteString_ok {s s' : Sto} {b : Nat} {l : List UInt8} (m : List UInt8) (h : Bld s s' b l) (hl : l.length + m.length ≤ 70368744177664) :
    ACalls Tryz.prog Γ 47 [.ptr (some ⟨b, 0, none⟩), .str m] s' fun v s'' => v = .tuple [.int .i64 m.length, .nilIface] ∧ Bld s s'' b (l ++ m) := by
  obtain ⟨h0, p, t, hb, hp, ho⟩ := h
  refine ACalls.of_awp Tryz.func47 rfl (Nat.le_of_ble_eq_true (by kernel_rfl)) (awp_ok _ (by kernel_rfl) ?_)
  conv => whnf
  refine ACalls.by (copyCheck_ok hb hp) ?_
  rintro _ _ ⟨rfl, rfl⟩
  conv => whnf
  refine getB_same ?_
  conv => whnf
  repeat' (first
    | (refine ⟨Sub.refl _, ?_⟩)
    | (refine brA_split (fun h => ?_) (fun h => ?_) <;> (try rw [h]) <;> (try simp only [Bool.false_eq_true, Bool.true_eq_false, ↓reduceIte, decide_eq_true_eq, decide_eq_false_iff_not, Bool.not_eq_true', Bool.not_eq_false'] at h) <;> (conv => whnf))
    | (refine getB_same ?_; conv => whnf)
    | (refine AWp.any (by kernel_rfl) (by kernel_rfl) (by kernel_rfl) ?_; conv => whnf)
    | (apply And.intro; (focus (first | omega | rfl | decide | exact Nat.le_of_ble_eq_true rfl | ((repeat' (first | exact all_nil | refine all_cons ?_ ?_ | rfl | fail)); done) | (simp [-List.length_flatMap]; done) | (simp [-List.length_flatMap]; omega) | fail)); conv => whnf)
    | fail)
  have ho' : Own s (s'.set b 69 [.ptr (some ⟨b, 0, none⟩), .slice t (bytesA l)]) l.isEmpty t 5 1 := ho.set h0
  refine ⟨ho'.may, bytesA_all l, ?_, ?_⟩
  · show ((bytesA l).length + m.length) * (1 + 1) ≤ _
    rw [bytesA_len]; omega
  intro t' h1 h2
  have ho2 := ho'.grow h1 h2
  conv => whnf
  refine getB_grow (getB_same ?_)
  conv => whnf
  repeat' (first
    | (refine ⟨Sub.refl _, ?_⟩)
    | (refine brA_split (fun h => ?_) (fun h => ?_) <;> (try rw [h]) <;> (try simp only [Bool.false_eq_true, Bool.true_eq_false, ↓reduceIte, decide_eq_true_eq, decide_eq_false_iff_not, Bool.not_eq_true', Bool.not_eq_false'] at h) <;> (conv => whnf))
    | (refine getB_same ?_; conv => whnf)
    | (refine AWp.any (by kernel_rfl) (by kernel_rfl) (by kernel_rfl) ?_; conv => whnf)
    | (apply And.intro; (focus (first | omega | rfl | decide | exact Nat.le_of_ble_eq_true rfl | ((repeat' (first | exact all_nil | refine all_cons ?_ ?_ | rfl | fail)); done) | (simp [-List.length_flatMap]; done) | (simp [-List.length_flatMap]; omega) | fail)); conv => whnf)
    | fail)
  refine ⟨_, Sub.refl _, rfl, h0, _, t', by rw [bytesA_append]; exact set_bx_same, .inr rfl, ?_⟩
  have e : (l ++ m).isEmpty = (l.isEmpty && m.isEmpty) := by cases l <;> simp
  rw [e]
  exact ho2.set h0
end Go.Proofs.YtcgobgnbpeageaaGreatDoor.Bd
