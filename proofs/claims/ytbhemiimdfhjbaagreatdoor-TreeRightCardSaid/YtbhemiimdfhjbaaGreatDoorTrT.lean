/- Chapter 10: which transitions may be, and which trees: by the program. -/
import Derived.Test.YtbhemiimdfhjbaaGreatDoorTrS
namespace Go.Proofs.YtbhemiimdfhjbaaGreatDoor.Tr
open Go Go.Ab Go.RowKit
variable {Γ : Nat → AV}
attribute [local irreducible] APure Sto.set Sto.grow
set_option maxRecDepth 10000
set_option maxHeartbeats 1000000

/-- All is as it was, but one box: the place that the expressions have come to. -/
structure Kp (s s' : Sto) (ba : Nat) (f : Int) : Prop where
  here : s'.bx ba = some (3, [.int .i64 f])
  bx : ∀ c z, c ≠ ba → s.bx c = some z → s'.bx c = some z
  sub : ∀ s0, Sub s0 s → s0.bx ba = none → Sub s0 s'
theorem Kp.refl {s : Sto} {ba : Nat} {f : Int} (h : s.bx ba = some (3, [.int .i64 f])) : Kp s s ba f := ⟨h, fun _ _ _ h => h, fun _ h _ => h⟩
theorem Kp.trans {s s1 s2 : Sto} {ba : Nat} {f g : Int} (h : Kp s s1 ba f) (k : Kp s1 s2 ba g) : Kp s s2 ba g :=
  ⟨k.here, fun c z hc h0 => k.bx c z hc (h.bx c z hc h0), fun s0 hs hn => k.sub s0 (h.sub s0 hs hn) hn⟩
theorem Kp.put {s s' : Sto} {ba : Nat} {f : Int} (h : Kp s s' ba f) (g : Int) : Kp s (s'.set ba 3 [.int .i64 g]) ba g :=
  ⟨set_bx_same, fun c z hc h0 => (set_bx_other hc).trans (h.bx c z hc h0), fun s hs hn => (h.sub s hs hn).set hn _ _⟩
theorem Kp.fresh {s s' : Sto} {ba c : Nat} {f : Int} (h : Kp s s' ba f) (hc : s'.bx c = none) (T : TypeId) (z : List AV) : Kp s (s'.set c T z) ba f :=
  ⟨(set_bx_other (ne_of_none h.here hc)).trans h.here, fun d y hd h0 => (set_bx_other (ne_of_none (h.bx d y hd h0) hc)).trans (h.bx d y hd h0), fun s0 hs hn => (h.sub s0 hs hn).set ((h.sub s0 hs hn).none hc) _ _⟩
/-- What the closure whole has at hand. -/
structure Hand (s : Sto) (x : (Nat × Nat × Nat) × Tn) (ba bt bs bd b1 b2 : Nat) : Prop where
  small : x.2.2.2.2.1.length ≤ 100000
  tr : s.bx bt = some (51, tnA x)
  sz : s.bx bs = some (37, [.raw (some ⟨b1, 0, none⟩) x.2.2.2.2.1.length x.2.2.2.2.1.length])
  dp : s.bx bd = some (37, [.raw (some ⟨b2, 0, none⟩) x.2.2.2.2.1.length x.2.2.2.2.1.length])
  c1 : s.bx b1 = some (3, col Prod.fst (tab Sc.isName x.2.2.2.2.1 x.2.2.2.2.1.length) x.2.2.2.2.1.length)
  c2 : s.bx b2 = some (3, col Prod.snd (tab Sc.isName x.2.2.2.2.1 x.2.2.2.2.1.length) x.2.2.2.2.1.length)
  n1 : bt ≠ ba
  n2 : bs ≠ ba
  n3 : bd ≠ ba
  n4 : b1 ≠ ba
  n5 : b2 ≠ ba
theorem Hand.keep {s s' : Sto} {x : (Nat × Nat × Nat) × Tn} {ba bt bs bd b1 b2 : Nat} {f : Int} (h : Hand s x ba bt bs bd b1 b2) (k : Kp s s' ba f) : Hand s' x ba bt bs bd b1 b2 :=
  ⟨h.small, k.bx _ _ h.n1 h.tr, k.bx _ _ h.n2 h.sz, k.bx _ _ h.n3 h.dp, k.bx _ _ h.n4 h.c1, k.bx _ _ h.n5 h.c2, h.n1, h.n2, h.n3, h.n4, h.n5⟩
theorem whB_le {l : List Ex} {f g : Int} (h : whB l f g = true) : f ≤ g ∧ g < l.length := by
  unfold whB at h
  simp only [Bool.and_eq_true, decide_eq_true_eq] at h
  exact ⟨h.1, h.2.1⟩
theorem fnWhole_ok {s : Sto} {x : (Nat × Nat × Nat) × Tn} {ba bt bs bd b1 b2 : Nat} {f : Int} (root : Int) (hh : Hand s x ba bt bs bd b1 b2) (ha : s.bx ba = some (3, [.int .i64 f])) (hf : 0 ≤ f ∧ f ≤ x.2.2.2.2.1.length) :
    ACalls Tryz.prog Γ 95 [.int .i64 root, .ptr (some ⟨ba, 0, none⟩), .ptr (some ⟨bt, 0, none⟩), .ptr (some ⟨bs, 0, none⟩), .ptr (some ⟨bd, 0, none⟩)] s fun v s' =>
      v = .bool (whB x.2.2.2.2.1 f root) ∧ Kp s s' ba (if whB x.2.2.2.2.1 f root = true then root + 1 else f) := by
  obtain ⟨hl, ht, hs, hd, hc1, hc2, n1, n2, n3, n4, n5⟩ := hh
  have hml : (x.2.2.2.2.1.map exA).length = x.2.2.2.2.1.length := List.length_map ..
  have htl := tab_len Sc.isName x.2.2.2.2.1 x.2.2.2.2.1.length
  have hbd := fun h : 0 ≤ root ∧ root < x.2.2.2.2.1.length => nd_bound Sc.isName x.2.2.2.2.1 (i := root.toNat) (by omega)
  have l1 := fun (h : 0 ≤ root ∧ root < x.2.2.2.2.1.length) (m : Nat) (hm : m = root.toNat) => col_get (f := Prod.fst) rfl (r := tab Sc.isName x.2.2.2.2.1 x.2.2.2.2.1.length) (n := x.2.2.2.2.1.length) (j := root.toNat) (m := m) (by omega) (by omega) hm
  have l2 := fun (h : 0 ≤ root ∧ root < x.2.2.2.2.1.length) (m : Nat) (hm : m = root.toNat) => col_get (f := Prod.snd) rfl (r := tab Sc.isName x.2.2.2.2.1 x.2.2.2.2.1.length) (n := x.2.2.2.2.1.length) (j := root.toNat) (m := m) (by omega) (by omega) hm
  have hw : 0 ≤ root ∧ root < x.2.2.2.2.1.length → IntKind.i64.wrap (IntKind.i64.wrap (root - f) + 1) = root - f + 1 := fun h => by rw [i64_of (b := root - f) rfl (by omega) (by omega)]; exact i64_of rfl (by omega) (by omega)
  have hw1 : 0 ≤ root ∧ root < x.2.2.2.2.1.length → IntKind.i64.wrap (root + 1) = root + 1 := fun h => i64_of rfl (by omega) (by omega)
  have hwh : whB x.2.2.2.2.1 f root = (decide (f ≤ root) && (decide (root < x.2.2.2.2.1.length) && (decide ((nd Sc.isName x.2.2.2.2.1 root.toNat).1 = root - f + 1) && decide ((nd Sc.isName x.2.2.2.2.1 root.toNat).2 ≤ 64)))) := rfl
  generalize whB x.2.2.2.2.1 f root = B at *
  unfold nd at hwh hbd
  generalize (tab Sc.isName x.2.2.2.2.1 x.2.2.2.2.1.length).getD root.toNat (0, 0) = p at *
  refine ACalls.of_awp Tryz.func95 rfl (Nat.le_of_ble_eq_true (by kernel_rfl)) (awp_ok _ (by kernel_rfl) ?_)
  conv => whnf
  repeat' (first
    | (exfalso; omega)
    | (refine ⟨Sub.refl _, ?_⟩)
    | (refine brA_split (fun h => ?_) (fun h => ?_) <;> (try rw [h]) <;> (try simp only [Bool.false_eq_true, Bool.true_eq_false, ↓reduceIte, decide_eq_true_eq, decide_eq_false_iff_not, Bool.not_eq_true', Bool.not_eq_false'] at h) <;> (conv => whnf))
    | (refine getB_of ha ?_; conv => whnf)
    | (refine getB_of ht ?_; conv => whnf)
    | (refine getB_of hs ?_; conv => whnf)
    | (refine getB_of hd ?_; conv => whnf)
    | (refine getB_of hc1 (aload_eq (l1 (by omega) _ (by show 0 + root.toNat * 1 = root.toNat; omega)) ?_); conv => whnf)
    | (refine getB_of hc2 (aload_eq (l2 (by omega) _ (by show 0 + root.toNat * 1 = root.toNat; omega)) ?_); conv => whnf)
    | (rw [hw (by omega)]; conv => whnf)
    | (refine getB_same ?_; conv => whnf)
    | (refine AWp.any (by kernel_rfl) (by kernel_rfl) (by kernel_rfl) ?_; conv => whnf)
    | (apply And.intro; (focus (first | omega | rfl | decide | exact Nat.le_of_ble_eq_true rfl | ((repeat' (first | exact all_nil | refine all_cons ?_ ?_ | rfl | fail)); done) | (simp [-List.length_flatMap]; done) | (simp [-List.length_flatMap]; omega) | fail)); conv => whnf)
    | fail)
  all_goals refine ⟨_, Sub.refl _, ?_⟩
  all_goals first
    | (have hB : B = false := by (rw [hwh]; clear l1 l2 hbd hc1 hc2 ht hs hd ha; grind)
       subst hB
       exact ⟨rfl, Kp.refl ha⟩)
    | (have hB : B = true := by (rw [hwh]; clear l1 l2 hbd hc1 hc2 ht hs hd ha; grind)
       subst hB
       refine ⟨rfl, ?_⟩
       rw [if_pos rfl, hw1 (by omega)]
       exact (Kp.refl ha).put _)
theorem fnSet_ok (hT : Sc.Wds Γ) {s : Sto} {x : (Nat × Nat × Nat) × Tn} {ba bt bs bd b1 b2 bw : Nat} {Tw : TypeId} {f : Int} (u : Se) (hh : Hand s x ba bt bs bd b1 b2)
    (hw : s.bx bw = some (Tw, [.func (.func 95) [] [.ptr (some ⟨ba, 0, none⟩), .ptr (some ⟨bt, 0, none⟩), .ptr (some ⟨bs, 0, none⟩), .ptr (some ⟨bd, 0, none⟩)]]))
    (ha : s.bx ba = some (3, [.int .i64 f])) (hf : 0 ≤ f ∧ f ≤ x.2.2.2.2.1.length) :
    ACalls Tryz.prog Γ 97 [.agg (seA u), .ptr (some ⟨bw, 0, none⟩)] s fun v s' =>
      v = .bool (nameB u.1 && whB x.2.2.2.2.1 f u.2) ∧ ∃ f', Kp s s' ba f' ∧ ((nameB u.1 && whB x.2.2.2.2.1 f u.2) = true → f' = u.2 + 1) := by
  refine ACalls.of_awp Tryz.func97 rfl (Nat.le_of_ble_eq_true (by kernel_rfl)) (awp_ok _ (by kernel_rfl) ?_)
  conv => whnf
  intro c hc
  conv => whnf
  have hn := ne_of_none hw hc
  have k := fun (T : TypeId) (z : List AV) => (Kp.refl ha).fresh hc T z
  repeat' (first
    | (refine ⟨Sub.refl _, ?_⟩)
    | (refine brA_split (fun h => ?_) (fun h => ?_) <;> (try rw [h]) <;> (try simp only [Bool.false_eq_true, Bool.true_eq_false, ↓reduceIte, decide_eq_true_eq, decide_eq_false_iff_not, Bool.not_eq_true', Bool.not_eq_false'] at h) <;> (conv => whnf))
    | (refine getB_of set_bx_same ?_; conv => whnf)
    | (refine ACalls.pure' ?_ (progName_ok hT u.1); rintro _ rfl; conv => whnf)
    | (refine DCall.pure ?_ (progName_ok hT u.1); conv => whnf)
    | (refine getB_other hn (getB_of hw ?_); conv => whnf)
    | (refine ACalls.by (fnWhole_ok u.2 (hh.keep (k _ _)) (k _ _).here hf) ?_; rintro _ s2 ⟨rfl, hk2⟩; conv => whnf)
    | (refine getB_same ?_; conv => whnf)
    | (refine AWp.any (by kernel_rfl) (by kernel_rfl) (by kernel_rfl) ?_; conv => whnf)
    | (apply And.intro; (focus (first | omega | rfl | decide | exact Nat.le_of_ble_eq_true rfl | ((repeat' (first | exact all_nil | refine all_cons ?_ ?_ | rfl | fail)); done) | (simp [-List.length_flatMap]; done) | (simp [-List.length_flatMap]; omega) | fail)); conv => whnf)
    | fail)
  · refine ⟨_, Sub.refl _, bool_eq ?_, _, (k _ _).trans hk2, ?_⟩
    · simp [*]
    · intro h2
      rw [if_pos ((Bool.and_eq_true _ _).mp h2).2]
  · refine ⟨_, Sub.refl _, bool_eq ?_, f, k _ _, ?_⟩
    · simp [*]
    · intro h2
      simp [*] at h2
theorem fnAllSet_ok (hT : Sc.Wds Γ) {s : Sto} {x : (Nat × Nat × Nat) × Tn} {ba bt bs bd b1 b2 bw bi : Nat} {Tw Ti : TypeId} {f : Int} (u : Se) (hh : Hand s x ba bt bs bd b1 b2)
    (hw : s.bx bw = some (Tw, [.func (.func 95) [] [.ptr (some ⟨ba, 0, none⟩), .ptr (some ⟨bt, 0, none⟩), .ptr (some ⟨bs, 0, none⟩), .ptr (some ⟨bd, 0, none⟩)]])) (nw : bw ≠ ba)
    (hi : s.bx bi = some (Ti, [.func (.func 97) [] [.ptr (some ⟨bw, 0, none⟩)]]))
    (ha : s.bx ba = some (3, [.int .i64 f])) (hf : 0 ≤ f ∧ f ≤ x.2.2.2.2.1.length) :
    ACalls Tryz.prog Γ 116 [.agg (seA u), .ptr (some ⟨bi, 0, none⟩)] s fun v s' =>
      v = .bool (!(nameB u.1 && whB x.2.2.2.2.1 f u.2)) ∧ ∃ f', Kp s s' ba f' ∧ ((nameB u.1 && whB x.2.2.2.2.1 f u.2) = true → f' = u.2 + 1) := by
  refine ACalls.of_awp Tryz.func116 rfl (Nat.le_of_ble_eq_true (by kernel_rfl)) (awp_ok _ (by kernel_rfl) ?_)
  conv => whnf
  intro c hc
  conv => whnf
  have hn := ne_of_none hi hc
  have k := fun (T : TypeId) (z : List AV) => (Kp.refl ha).fresh hc T z
  repeat' (first
    | (refine ⟨Sub.refl _, ?_⟩)
    | (refine brA_split (fun h => ?_) (fun h => ?_) <;> (try rw [h]) <;> (try simp only [Bool.false_eq_true, Bool.true_eq_false, ↓reduceIte, decide_eq_true_eq, decide_eq_false_iff_not, Bool.not_eq_true', Bool.not_eq_false'] at h) <;> (conv => whnf))
    | (refine getB_other hn (getB_of hi ?_); conv => whnf)
    | (refine getB_of set_bx_same ?_; conv => whnf)
    | (refine ACalls.by (fnSet_ok hT u (hh.keep (k _ _)) ((k _ _).bx _ _ nw hw) (k _ _).here hf) ?_; rintro _ s2 ⟨rfl, f', hk2, hB⟩; conv => whnf)
    | (refine getB_same ?_; conv => whnf)
    | (refine AWp.any (by kernel_rfl) (by kernel_rfl) (by kernel_rfl) ?_; conv => whnf)
    | (apply And.intro; (focus (first | omega | rfl | decide | exact Nat.le_of_ble_eq_true rfl | ((repeat' (first | exact all_nil | refine all_cons ?_ ?_ | rfl | fail)); done) | (simp [-List.length_flatMap]; done) | (simp [-List.length_flatMap]; omega) | fail)); conv => whnf)
    | fail)
  exact ⟨_, Sub.refl _, rfl, f', (k _ _).trans hk2, hB⟩
theorem indexSet_ok (hT : Sc.Wds Γ) {s : Sto} {x : (Nat × Nat × Nat) × Tn} {ba bt bs bd b1 b2 bw bi : Nat} {Tw Ti : TypeId} {f : Int} (t : Nat) (l : List Se) (hl : l.length ≤ 100000) (hh : Hand s x ba bt bs bd b1 b2)
    (hw : s.bx bw = some (Tw, [.func (.func 95) [] [.ptr (some ⟨ba, 0, none⟩), .ptr (some ⟨bt, 0, none⟩), .ptr (some ⟨bs, 0, none⟩), .ptr (some ⟨bd, 0, none⟩)]])) (nw : bw ≠ ba)
    (hi : s.bx bi = some (Ti, [.func (.func 97) [] [.ptr (some ⟨bw, 0, none⟩)]])) (ni : bi ≠ ba)
    (ha : s.bx ba = some (3, [.int .i64 f])) (hf : 0 ≤ f ∧ f ≤ x.2.2.2.2.1.length) :
    ACalls Tryz.prog Γ 121 [.slice t (l.map seA), .func (.func 116) [] [.ptr (some ⟨bi, 0, none⟩)]] s fun v s' =>
      ∃ r : Int, v = .int .i64 r ∧ ∃ f', Kp s s' ba f' ∧ (decide (r ≥ 0) = true ∧ setsO x.2.2.2.2.1 l f = none ∨ decide (r ≥ 0) = false ∧ setsO x.2.2.2.2.1 l f = some f') := by
  have hml : (l.map seA).length = l.length := List.length_map ..
  refine ACalls.of_awp Tryz.func121 rfl (Nat.le_of_ble_eq_true (by kernel_rfl)) (awp_ok _ (by kernel_rfl) ?_)
  conv => whnf
  refine AWp.loopA [8] [9, 10, 5, 11, 12, 13, 14, 15, 16, 17, 4, 18] (fun i : Nat => [.int .i64 i]) (fun i s' => i ≤ l.length ∧ ∃ f', Kp s s' ba f' ∧ (0 ≤ f' ∧ f' ≤ x.2.2.2.2.1.length) ∧ setsO x.2.2.2.2.1 l f = setsO x.2.2.2.2.1 (l.drop i) f') (fun i => l.length - i) (0) (by kernel_rfl) (by (repeat' (first | refine cons_eq ?_ ?_ | refine int64_of ?_ ?_ ?_ | rfl | omega))) ?_ ?_
  · exact ⟨by omega, f, Kp.refl ha, hf, by rw [List.drop_zero]⟩
  · rintro y i s1 ⟨hi1, f', hk, hf', hp⟩
    conv => whnf
    have hga := fun h : i < l.length => map_get (f := seA) (l := l) noSe h
    have hd : i < l.length → l.drop i = l.getD i noSe :: l.drop (i + 1) := fun h => by rw [List.drop_eq_getElem_cons h]; simp [List.getD, h]
    generalize l.getD i noSe = u at *
    repeat' (first
      | (refine ⟨Sub.refl _, ?_⟩)
      | (refine brA_split (fun h => ?_) (fun h => ?_) <;> (try rw [h]) <;> (try simp only [Bool.false_eq_true, Bool.true_eq_false, ↓reduceIte, decide_eq_true_eq, decide_eq_false_iff_not, Bool.not_eq_true', Bool.not_eq_false'] at h) <;> (conv => whnf))
      | (rw [show (l.map seA).getD ((i : Int)).toNat [] = _ from hga (by omega)]; conv => whnf)
      | (refine ACalls.by (fnAllSet_ok hT u (hh.keep hk) (hk.bx _ _ nw hw) nw (hk.bx _ _ ni hi) hk.here hf') ?_; rintro _ s2 ⟨rfl, f2, hk2, hB⟩; conv => whnf)
      | (refine getB_same ?_; conv => whnf)
      | (refine AWp.any (by kernel_rfl) (by kernel_rfl) (by kernel_rfl) ?_; conv => whnf)
      | (apply And.intro; (focus (first | omega | rfl | decide | exact Nat.le_of_ble_eq_true rfl | ((repeat' (first | exact all_nil | refine all_cons ?_ ?_ | rfl | fail)); done) | (simp [-List.length_flatMap]; done) | (simp [-List.length_flatMap]; omega) | fail)); conv => whnf)
      | fail)
    · refine ⟨_, Sub.refl _, i, rfl, f2, hk.trans hk2, .inl ⟨decide_eq_true (by omega), ?_⟩⟩
      rw [hp, hd (by omega), setsO, if_neg (by rw [h]; decide)]
    · have h2 := hB h
      subst h2
      have h3 := whB_le ((Bool.and_eq_true _ _).mp h).2
      refine ⟨i + 1, by (repeat' (first | refine cons_eq ?_ ?_ | refine int64_of ?_ ?_ ?_ | rfl | omega)), by (repeat (first | exact Same.refl _ _ | refine Same.upd rfl ?_ | refine Same.updL rfl ?_ | refine Same.havoc rfl ?_)), ⟨by omega, u.2 + 1, hk.trans hk2, by omega, ?_⟩, by omega⟩
      rw [hp, hd (by omega), setsO, if_pos h]
    · refine ⟨_, Sub.refl _, -1, rfl, f', hk, .inr ⟨rfl, ?_⟩⟩
      rw [hp, drop_end (by omega)]; rfl
theorem containsSet_ok (hT : Sc.Wds Γ) {s : Sto} {x : (Nat × Nat × Nat) × Tn} {ba bt bs bd b1 b2 bw bi : Nat} {Tw Ti : TypeId} {f : Int} (t : Nat) (l : List Se) (hl : l.length ≤ 100000) (hh : Hand s x ba bt bs bd b1 b2)
    (hw : s.bx bw = some (Tw, [.func (.func 95) [] [.ptr (some ⟨ba, 0, none⟩), .ptr (some ⟨bt, 0, none⟩), .ptr (some ⟨bs, 0, none⟩), .ptr (some ⟨bd, 0, none⟩)]])) (nw : bw ≠ ba)
    (hi : s.bx bi = some (Ti, [.func (.func 97) [] [.ptr (some ⟨bw, 0, none⟩)]])) (ni : bi ≠ ba)
    (ha : s.bx ba = some (3, [.int .i64 f])) (hf : 0 ≤ f ∧ f ≤ x.2.2.2.2.1.length) :
    ACalls Tryz.prog Γ 115 [.slice t (l.map seA), .func (.func 116) [] [.ptr (some ⟨bi, 0, none⟩)]] s fun v s' =>
      ∃ r : Bool, v = .bool r ∧ ∃ f', Kp s s' ba f' ∧ (r = true ∧ setsO x.2.2.2.2.1 l f = none ∨ r = false ∧ setsO x.2.2.2.2.1 l f = some f') := by
  refine ACalls.of_awp Tryz.func115 rfl (Nat.le_of_ble_eq_true (by kernel_rfl)) (awp_ok _ (by kernel_rfl) ?_)
  conv => whnf
  repeat' (first
    | (refine ⟨Sub.refl _, ?_⟩)
    | (refine brA_split (fun h => ?_) (fun h => ?_) <;> (try rw [h]) <;> (try simp only [Bool.false_eq_true, Bool.true_eq_false, ↓reduceIte, decide_eq_true_eq, decide_eq_false_iff_not, Bool.not_eq_true', Bool.not_eq_false'] at h) <;> (conv => whnf))
    | (refine ACalls.by (indexSet_ok hT t l hl hh hw nw hi ni ha hf) ?_; rintro _ s2 ⟨r, rfl, f', hk, hr⟩; conv => whnf)
    | (refine getB_same ?_; conv => whnf)
    | (refine AWp.any (by kernel_rfl) (by kernel_rfl) (by kernel_rfl) ?_; conv => whnf)
    | (apply And.intro; (focus (first | omega | rfl | decide | exact Nat.le_of_ble_eq_true rfl | ((repeat' (first | exact all_nil | refine all_cons ?_ ?_ | rfl | fail)); done) | (simp [-List.length_flatMap]; done) | (simp [-List.length_flatMap]; omega) | fail)); conv => whnf)
    | fail)
  exact ⟨_, Sub.refl _, _, rfl, f', hk, hr⟩
theorem allSet_ok (hT : Sc.Wds Γ) {s : Sto} {x : (Nat × Nat × Nat) × Tn} {ba bt bs bd b1 b2 bw : Nat} {Tw : TypeId} {f : Int} (t : Nat) (l : List Se) (hl : l.length ≤ 100000) (hh : Hand s x ba bt bs bd b1 b2)
    (hw : s.bx bw = some (Tw, [.func (.func 95) [] [.ptr (some ⟨ba, 0, none⟩), .ptr (some ⟨bt, 0, none⟩), .ptr (some ⟨bs, 0, none⟩), .ptr (some ⟨bd, 0, none⟩)]])) (nw : bw ≠ ba)
    (ha : s.bx ba = some (3, [.int .i64 f])) (hf : 0 ≤ f ∧ f ≤ x.2.2.2.2.1.length) :
    ACalls Tryz.prog Γ 96 [.slice t (l.map seA), .func (.func 97) [] [.ptr (some ⟨bw, 0, none⟩)]] s fun v s' =>
      ∃ r : Bool, v = .bool r ∧ ∃ f', Kp s s' ba f' ∧ (r = false ∧ setsO x.2.2.2.2.1 l f = none ∨ r = true ∧ setsO x.2.2.2.2.1 l f = some f') := by
  refine ACalls.of_awp Tryz.func96 rfl (Nat.le_of_ble_eq_true (by kernel_rfl)) (awp_ok _ (by kernel_rfl) ?_)
  conv => whnf
  intro c hc
  conv => whnf
  have k := fun (T : TypeId) (z : List AV) => (Kp.refl ha).fresh hc T z
  have nc := ne_of_none ha hc
  repeat' (first
    | (refine ⟨Sub.refl _, ?_⟩)
    | (refine brA_split (fun h => ?_) (fun h => ?_) <;> (try rw [h]) <;> (try simp only [Bool.false_eq_true, Bool.true_eq_false, ↓reduceIte, decide_eq_true_eq, decide_eq_false_iff_not, Bool.not_eq_true', Bool.not_eq_false'] at h) <;> (conv => whnf))
    | (refine ACalls.by (containsSet_ok hT t l hl (hh.keep (k _ _)) ((k _ _).bx _ _ nw hw) nw set_bx_same (fun h => nc h.symm) (k _ _).here hf) ?_; rintro _ s2 ⟨r, rfl, f', hk, hr⟩; conv => whnf)
    | (refine getB_same ?_; conv => whnf)
    | (refine AWp.any (by kernel_rfl) (by kernel_rfl) (by kernel_rfl) ?_; conv => whnf)
    | (apply And.intro; (focus (first | omega | rfl | decide | exact Nat.le_of_ble_eq_true rfl | ((repeat' (first | exact all_nil | refine all_cons ?_ ?_ | rfl | fail)); done) | (simp [-List.length_flatMap]; done) | (simp [-List.length_flatMap]; omega) | fail)); conv => whnf)
    | fail)
  refine ⟨_, Sub.refl _, _, rfl, f', (k _ _).trans hk, ?_⟩
  rcases hr with ⟨rfl, h⟩ | ⟨rfl, h⟩
  · exact .inl ⟨rfl, h⟩
  · exact .inr ⟨rfl, h⟩
theorem progTrans_ok (hT : Sc.Wds Γ) (x : (Nat × Nat × Nat) × Tn) (hx : x.2.2.2.1.2.1.length ≤ 100000 ∧ x.2.2.2.2.1.length ≤ 100000 ∧ x.2.2.2.2.2.2.length ≤ 100000) : APure Tryz.prog Γ 48 [.agg (tnA x)] fun v => v = .bool (trB x) := by
  obtain ⟨hx1, hx2, hx3⟩ := hx
  have hle : (x.2.2.2.2.1.map exA).length = x.2.2.2.2.1.length := List.length_map ..
  have htr : trB x = (nameB x.2.1 && (nameB x.2.2.1 && (symB (x.1.1, x.2.2.2.1) && decide ((guardO x.2.2.2.2.1 x.2.2.2.2.2.1).bind (setsO x.2.2.2.2.1 x.2.2.2.2.2.2) = some (x.2.2.2.2.1.length : Int))))) := rfl
  have hgo : guardO x.2.2.2.2.1 x.2.2.2.2.2.1 = if x.2.2.2.2.2.1 = -1 then some 0 else if whB x.2.2.2.2.1 0 x.2.2.2.2.2.1 = true then some (x.2.2.2.2.2.1 + 1) else none := rfl
  refine APure.of_awp Tryz.func48 rfl (Nat.le_of_ble_eq_true (by kernel_rfl)) (by kernel_rfl) ?_
  intro s
  conv => whnf
  intro bt hbt
  conv => whnf
  repeat' (first
    | (refine ⟨Sub.refl _, ?_⟩)
    | (refine brA_split (fun h => ?_) (fun h => ?_) <;> (try rw [h]) <;> (try simp only [Bool.false_eq_true, Bool.true_eq_false, ↓reduceIte, decide_eq_true_eq, decide_eq_false_iff_not, Bool.not_eq_true', Bool.not_eq_false'] at h) <;> (conv => whnf))
    | (refine getB_same ?_; conv => whnf)
    | (refine AWp.any (by kernel_rfl) (by kernel_rfl) (by kernel_rfl) ?_; conv => whnf)
    | (apply And.intro; (focus (first | omega | rfl | decide | exact Nat.le_of_ble_eq_true rfl | ((repeat' (first | exact all_nil | refine all_cons ?_ ?_ | rfl | fail)); done) | (simp [-List.length_flatMap]; done) | (simp [-List.length_flatMap]; omega) | fail)); conv => whnf)
    | fail)
  refine ACalls.by (sized_ok Sc.isName _ x.2.2.2.2.1 (by omega) (fun _ _ => Sc.progName_any hT _) _) ?_
  rintro _ s1 ⟨b1, b2, rfl, hz⟩
  conv => whnf
  repeat' (first
    | (refine ⟨Sub.refl _, ?_⟩)
    | (refine brA_split (fun h => ?_) (fun h => ?_) <;> (try rw [h]) <;> (try simp only [Bool.false_eq_true, Bool.true_eq_false, ↓reduceIte, decide_eq_true_eq, decide_eq_false_iff_not, Bool.not_eq_true', Bool.not_eq_false'] at h) <;> (conv => whnf))
    | (refine getB_same ?_; conv => whnf)
    | (refine AWp.any (by kernel_rfl) (by kernel_rfl) (by kernel_rfl) ?_; conv => whnf)
    | (apply And.intro; (focus (first | omega | rfl | decide | exact Nat.le_of_ble_eq_true rfl | ((repeat' (first | exact all_nil | refine all_cons ?_ ?_ | rfl | fail)); done) | (simp [-List.length_flatMap]; done) | (simp [-List.length_flatMap]; omega) | fail)); conv => whnf)
    | fail)
  have z1 := hz.size
  have z2 := hz.depth
  have z3 : s1.bx bt = some (51, tnA x) := hz.sub.bx _ _ set_bx_same
  have n_b1_b2 := hz.ne
  intro bs hbs
  have n_bt_bs : bt ≠ bs := ne_of_none (by ((repeat (first | exact set_bx_same | assumption | refine (set_bx_other (by assumption)).trans ?_)); done)) hbs
  have n_bs_bt : bs ≠ bt := fun h => n_bt_bs h.symm
  have n_b1_bs : b1 ≠ bs := ne_of_none (by ((repeat (first | exact set_bx_same | assumption | refine (set_bx_other (by assumption)).trans ?_)); done)) hbs
  have n_bs_b1 : bs ≠ b1 := fun h => n_b1_bs h.symm
  have n_b2_bs : b2 ≠ bs := ne_of_none (by ((repeat (first | exact set_bx_same | assumption | refine (set_bx_other (by assumption)).trans ?_)); done)) hbs
  have n_bs_b2 : bs ≠ b2 := fun h => n_b2_bs h.symm
  conv => whnf
  intro bd hbd
  have n_bs_bd : bs ≠ bd := ne_of_none (by ((repeat (first | exact set_bx_same | assumption | refine (set_bx_other (by assumption)).trans ?_)); done)) hbd
  have n_bd_bs : bd ≠ bs := fun h => n_bs_bd h.symm
  have n_bt_bd : bt ≠ bd := ne_of_none (by ((repeat (first | exact set_bx_same | assumption | refine (set_bx_other (by assumption)).trans ?_)); done)) hbd
  have n_bd_bt : bd ≠ bt := fun h => n_bt_bd h.symm
  have n_b1_bd : b1 ≠ bd := ne_of_none (by ((repeat (first | exact set_bx_same | assumption | refine (set_bx_other (by assumption)).trans ?_)); done)) hbd
  have n_bd_b1 : bd ≠ b1 := fun h => n_b1_bd h.symm
  have n_b2_bd : b2 ≠ bd := ne_of_none (by ((repeat (first | exact set_bx_same | assumption | refine (set_bx_other (by assumption)).trans ?_)); done)) hbd
  have n_bd_b2 : bd ≠ b2 := fun h => n_b2_bd h.symm
  conv => whnf
  repeat' (first
    | (refine ⟨Sub.refl _, ?_⟩)
    | (refine brA_split (fun h => ?_) (fun h => ?_) <;> (try rw [h]) <;> (try simp only [Bool.false_eq_true, Bool.true_eq_false, ↓reduceIte, decide_eq_true_eq, decide_eq_false_iff_not, Bool.not_eq_true', Bool.not_eq_false'] at h) <;> (conv => whnf))
    | (refine getB_of (by ((repeat (first | exact set_bx_same | assumption | refine (set_bx_other (by assumption)).trans ?_)); done)) ?_; conv => whnf)
    | (refine getB_same ?_; conv => whnf)
    | (refine AWp.any (by kernel_rfl) (by kernel_rfl) (by kernel_rfl) ?_; conv => whnf)
    | (apply And.intro; (focus (first | omega | rfl | decide | exact Nat.le_of_ble_eq_true rfl | ((repeat' (first | exact all_nil | refine all_cons ?_ ?_ | rfl | fail)); done) | (simp [-List.length_flatMap]; done) | (simp [-List.length_flatMap]; omega) | fail)); conv => whnf)
    | fail)
  intro ba hba
  have n_bs_ba : bs ≠ ba := ne_of_none (by ((repeat (first | exact set_bx_same | assumption | refine (set_bx_other (by assumption)).trans ?_)); done)) hba
  have n_ba_bs : ba ≠ bs := fun h => n_bs_ba h.symm
  have n_bd_ba : bd ≠ ba := ne_of_none (by ((repeat (first | exact set_bx_same | assumption | refine (set_bx_other (by assumption)).trans ?_)); done)) hba
  have n_ba_bd : ba ≠ bd := fun h => n_bd_ba h.symm
  have n_bt_ba : bt ≠ ba := ne_of_none (by ((repeat (first | exact set_bx_same | assumption | refine (set_bx_other (by assumption)).trans ?_)); done)) hba
  have n_ba_bt : ba ≠ bt := fun h => n_bt_ba h.symm
  have n_b1_ba : b1 ≠ ba := ne_of_none (by ((repeat (first | exact set_bx_same | assumption | refine (set_bx_other (by assumption)).trans ?_)); done)) hba
  have n_ba_b1 : ba ≠ b1 := fun h => n_b1_ba h.symm
  have n_b2_ba : b2 ≠ ba := ne_of_none (by ((repeat (first | exact set_bx_same | assumption | refine (set_bx_other (by assumption)).trans ?_)); done)) hba
  have n_ba_b2 : ba ≠ b2 := fun h => n_b2_ba h.symm
  conv => whnf
  repeat' (first
    | (refine ⟨Sub.refl _, ?_⟩)
    | (refine brA_split (fun h => ?_) (fun h => ?_) <;> (try rw [h]) <;> (try simp only [Bool.false_eq_true, Bool.true_eq_false, ↓reduceIte, decide_eq_true_eq, decide_eq_false_iff_not, Bool.not_eq_true', Bool.not_eq_false'] at h) <;> (conv => whnf))
    | (refine getB_of (by ((repeat (first | exact set_bx_same | assumption | refine (set_bx_other (by assumption)).trans ?_)); done)) ?_; conv => whnf)
    | (refine getB_same ?_; conv => whnf)
    | (refine AWp.any (by kernel_rfl) (by kernel_rfl) (by kernel_rfl) ?_; conv => whnf)
    | (apply And.intro; (focus (first | omega | rfl | decide | exact Nat.le_of_ble_eq_true rfl | ((repeat' (first | exact all_nil | refine all_cons ?_ ?_ | rfl | fail)); done) | (simp [-List.length_flatMap]; done) | (simp [-List.length_flatMap]; omega) | fail)); conv => whnf)
    | fail)
  intro bw hbw
  have n_bs_bw : bs ≠ bw := ne_of_none (by ((repeat (first | exact set_bx_same | assumption | refine (set_bx_other (by assumption)).trans ?_)); done)) hbw
  have n_bw_bs : bw ≠ bs := fun h => n_bs_bw h.symm
  have n_bd_bw : bd ≠ bw := ne_of_none (by ((repeat (first | exact set_bx_same | assumption | refine (set_bx_other (by assumption)).trans ?_)); done)) hbw
  have n_bw_bd : bw ≠ bd := fun h => n_bd_bw h.symm
  have n_bt_bw : bt ≠ bw := ne_of_none (by ((repeat (first | exact set_bx_same | assumption | refine (set_bx_other (by assumption)).trans ?_)); done)) hbw
  have n_bw_bt : bw ≠ bt := fun h => n_bt_bw h.symm
  have n_b1_bw : b1 ≠ bw := ne_of_none (by ((repeat (first | exact set_bx_same | assumption | refine (set_bx_other (by assumption)).trans ?_)); done)) hbw
  have n_bw_b1 : bw ≠ b1 := fun h => n_b1_bw h.symm
  have n_b2_bw : b2 ≠ bw := ne_of_none (by ((repeat (first | exact set_bx_same | assumption | refine (set_bx_other (by assumption)).trans ?_)); done)) hbw
  have n_bw_b2 : bw ≠ b2 := fun h => n_b2_bw h.symm
  have n_ba_bw : ba ≠ bw := ne_of_none (by ((repeat (first | exact set_bx_same | assumption | refine (set_bx_other (by assumption)).trans ?_)); done)) hbw
  have n_bw_ba : bw ≠ ba := fun h => n_ba_bw h.symm
  conv => whnf
  repeat' (first
    | (refine ⟨Sub.refl _, ?_⟩)
    | (refine brA_split (fun h => ?_) (fun h => ?_) <;> (try rw [h]) <;> (try simp only [Bool.false_eq_true, Bool.true_eq_false, ↓reduceIte, decide_eq_true_eq, decide_eq_false_iff_not, Bool.not_eq_true', Bool.not_eq_false'] at h) <;> (conv => whnf))
    | (refine getB_of (by ((repeat (first | exact set_bx_same | assumption | refine (set_bx_other (by assumption)).trans ?_)); done)) ?_; conv => whnf)
    | (refine getB_same ?_; conv => whnf)
    | (refine AWp.any (by kernel_rfl) (by kernel_rfl) (by kernel_rfl) ?_; conv => whnf)
    | (apply And.intro; (focus (first | omega | rfl | decide | exact Nat.le_of_ble_eq_true rfl | ((repeat' (first | exact all_nil | refine all_cons ?_ ?_ | rfl | fail)); done) | (simp [-List.length_flatMap]; done) | (simp [-List.length_flatMap]; omega) | fail)); conv => whnf)
    | fail)
  have hsub : Ab.Sub s s1 := ((Sub.refl _).set hbt _ _).trans hz.sub
  have g1 := hsub.none hbs
  have g2 : s.bx bd = none := by (have g := hbd; (repeat (replace g := (none_set g).2)); exact hsub.none g)
  have g3 : s.bx ba = none := by (have g := hba; (repeat (replace g := (none_set g).2)); exact hsub.none g)
  have g4 : s.bx bw = none := by (have g := hbw; (repeat (replace g := (none_set g).2)); exact hsub.none g)
  repeat' (first
    | (refine ⟨Sub.refl _, ?_⟩)
    | (refine brA_split (fun h => ?_) (fun h => ?_) <;> (try rw [h]) <;> (try simp only [Bool.false_eq_true, Bool.true_eq_false, ↓reduceIte, decide_eq_true_eq, decide_eq_false_iff_not, Bool.not_eq_true', Bool.not_eq_false'] at h) <;> (conv => whnf))
    | (refine getB_of (by ((repeat (first | exact set_bx_same | assumption | refine (set_bx_other (by assumption)).trans ?_)); done)) ?_; conv => whnf)
    | (refine ACalls.pure' ?_ (progName_ok hT x.2.1); rintro _ rfl; conv => whnf)
    | (refine DCall.pure ?_ (progName_ok hT x.2.1); conv => whnf)
    | (refine ACalls.pure' ?_ (progName_ok hT x.2.2.1); rintro _ rfl; conv => whnf)
    | (refine DCall.pure ?_ (progName_ok hT x.2.2.1); conv => whnf)
    | (refine ACalls.pure' ?_ (progSym_ok hT (x.1.1, x.2.2.2.1) hx1); rintro _ rfl; conv => whnf)
    | (refine DCall.pure ?_ (progSym_ok hT (x.1.1, x.2.2.2.1) hx1); conv => whnf)
    | (refine ACalls.by (fnWhole_ok (x := x) (bt := bt) (bs := bs) (bd := bd) (b1 := b1) (b2 := b2) (f := 0) x.2.2.2.2.2.1 ⟨hx2, (by ((repeat (first | exact set_bx_same | assumption | refine (set_bx_other (by assumption)).trans ?_)); done)), (by ((repeat (first | exact set_bx_same | assumption | refine (set_bx_other (by assumption)).trans ?_)); done)), (by ((repeat (first | exact set_bx_same | assumption | refine (set_bx_other (by assumption)).trans ?_)); done)), (by ((repeat (first | exact set_bx_same | assumption | refine (set_bx_other (by assumption)).trans ?_)); done)), (by ((repeat (first | exact set_bx_same | assumption | refine (set_bx_other (by assumption)).trans ?_)); done)), n_bt_ba, n_bs_ba, n_bd_ba, n_b1_ba, n_b2_ba⟩ (by ((repeat (first | exact set_bx_same | assumption | refine (set_bx_other (by assumption)).trans ?_)); done)) ⟨by omega, by omega⟩) ?_; rintro _ s2 ⟨rfl, hk2⟩; conv => whnf)
    | (refine getB_same ?_; conv => whnf)
    | (refine AWp.any (by kernel_rfl) (by kernel_rfl) (by kernel_rfl) ?_; conv => whnf)
    | (apply And.intro; (focus (first | omega | rfl | decide | exact Nat.le_of_ble_eq_true rfl | ((repeat' (first | exact all_nil | refine all_cons ?_ ?_ | rfl | fail)); done) | (simp [-List.length_flatMap]; done) | (simp [-List.length_flatMap]; omega) | fail)); conv => whnf)
    | fail)
  · exact ⟨(by (repeat (first | exact hsub | refine Sub.set ?_ (by assumption) _ _))), bool_eq (by rw [htr]; simp [*])⟩
  · exact ⟨(by (repeat (first | exact hsub | refine Sub.set ?_ (by assumption) _ _))), bool_eq (by rw [htr]; simp [*])⟩
  · exact ⟨(by (repeat (first | exact hsub | refine Sub.set ?_ (by assumption) _ _))), bool_eq (by rw [htr]; simp [*])⟩
  · refine ⟨hk2.sub s (by (repeat (first | exact hsub | refine Sub.set ?_ (by assumption) _ _))) g3, bool_eq ?_⟩
    rw [htr, hgo, if_neg (by assumption), if_neg (by simp [*])]
    simp
  · have hwh := h
    have hle0 := whB_le hwh
    have e0 : trB x = decide (setsO x.2.2.2.2.1 x.2.2.2.2.2.2 (x.2.2.2.2.2.1 + 1) = some (x.2.2.2.2.1.length : Int)) := by
      rw [htr, hgo]
      simp only [*, Bool.true_and, if_true, if_false, Option.bind_some]
    rw [if_pos hwh] at hk2
    have hh2 := Hand.keep (x := x) (bt := bt) (bs := bs) (bd := bd) (b1 := b1) (b2 := b2) ⟨hx2, (by ((repeat (first | exact set_bx_same | assumption | refine (set_bx_other (by assumption)).trans ?_)); done)), (by ((repeat (first | exact set_bx_same | assumption | refine (set_bx_other (by assumption)).trans ?_)); done)), (by ((repeat (first | exact set_bx_same | assumption | refine (set_bx_other (by assumption)).trans ?_)); done)), (by ((repeat (first | exact set_bx_same | assumption | refine (set_bx_other (by assumption)).trans ?_)); done)), (by ((repeat (first | exact set_bx_same | assumption | refine (set_bx_other (by assumption)).trans ?_)); done)), n_bt_ba, n_bs_ba, n_bd_ba, n_b1_ba, n_b2_ba⟩ hk2
    have y1 := hk2.bx bw _ n_bw_ba set_bx_same
    have y2 := hh2.tr
    have s0 := hk2.sub s (by (repeat (first | exact hsub | refine Sub.set ?_ (by assumption) _ _))) g3
    repeat' (first
      | (refine ⟨Sub.refl _, ?_⟩)
      | (refine brA_split (fun h => ?_) (fun h => ?_) <;> (try rw [h]) <;> (try simp only [Bool.false_eq_true, Bool.true_eq_false, ↓reduceIte, decide_eq_true_eq, decide_eq_false_iff_not, Bool.not_eq_true', Bool.not_eq_false'] at h) <;> (conv => whnf))
      | (refine getB_of (by ((repeat (first | exact set_bx_same | assumption | refine (set_bx_other (by assumption)).trans ?_)); done)) ?_; conv => whnf)
      | (refine ACalls.by (allSet_ok hT (bw := bw) (f := x.2.2.2.2.2.1 + 1) _ x.2.2.2.2.2.2 hx3 hh2 y1 n_bw_ba hk2.here ⟨by omega, by omega⟩) ?_; rintro _ s3 ⟨r, rfl, f', hk3, hr⟩; have y3 := hk3.here; have y4 := hk3.bx _ _ n_bt_ba y2; conv => whnf)
      | (refine getB_same ?_; conv => whnf)
      | (refine AWp.any (by kernel_rfl) (by kernel_rfl) (by kernel_rfl) ?_; conv => whnf)
      | (apply And.intro; (focus (first | omega | rfl | decide | exact Nat.le_of_ble_eq_true rfl | ((repeat' (first | exact all_nil | refine all_cons ?_ ?_ | rfl | fail)); done) | (simp [-List.length_flatMap]; done) | (simp [-List.length_flatMap]; omega) | fail)); conv => whnf)
      | fail)
    all_goals refine ⟨hk3.sub s s0 g3, bool_eq ?_⟩
    all_goals (rw [e0])
    all_goals (rcases hr with ⟨rfl, hs⟩ | ⟨rfl, hs⟩ <;> (rw [hs]; simp [*] at *))
  · have e0 : trB x = decide (setsO x.2.2.2.2.1 x.2.2.2.2.2.2 0 = some (x.2.2.2.2.1.length : Int)) := by
      rw [htr, hgo]
      simp only [*, Bool.true_and, if_true, if_false, Option.bind_some]
    repeat' (first
      | (refine ⟨Sub.refl _, ?_⟩)
      | (refine brA_split (fun h => ?_) (fun h => ?_) <;> (try rw [h]) <;> (try simp only [Bool.false_eq_true, Bool.true_eq_false, ↓reduceIte, decide_eq_true_eq, decide_eq_false_iff_not, Bool.not_eq_true', Bool.not_eq_false'] at h) <;> (conv => whnf))
      | (refine getB_of (by ((repeat (first | exact set_bx_same | assumption | refine (set_bx_other (by assumption)).trans ?_)); done)) ?_; conv => whnf)
      | (refine ACalls.by (allSet_ok hT (x := x) (bt := bt) (bs := bs) (bd := bd) (b1 := b1) (b2 := b2) (bw := bw) (f := 0) _ x.2.2.2.2.2.2 hx3 ⟨hx2, (by ((repeat (first | exact set_bx_same | assumption | refine (set_bx_other (by assumption)).trans ?_)); done)), (by ((repeat (first | exact set_bx_same | assumption | refine (set_bx_other (by assumption)).trans ?_)); done)), (by ((repeat (first | exact set_bx_same | assumption | refine (set_bx_other (by assumption)).trans ?_)); done)), (by ((repeat (first | exact set_bx_same | assumption | refine (set_bx_other (by assumption)).trans ?_)); done)), (by ((repeat (first | exact set_bx_same | assumption | refine (set_bx_other (by assumption)).trans ?_)); done)), n_bt_ba, n_bs_ba, n_bd_ba, n_b1_ba, n_b2_ba⟩ (by ((repeat (first | exact set_bx_same | assumption | refine (set_bx_other (by assumption)).trans ?_)); done)) n_bw_ba (by ((repeat (first | exact set_bx_same | assumption | refine (set_bx_other (by assumption)).trans ?_)); done)) ⟨by omega, by omega⟩) ?_; rintro _ s3 ⟨r, rfl, f', hk3, hr⟩; have y3 := hk3.here; have y4 := hk3.bx bt (51, tnA x) n_bt_ba (by ((repeat (first | exact set_bx_same | assumption | refine (set_bx_other (by assumption)).trans ?_)); done)); conv => whnf)
      | (refine getB_same ?_; conv => whnf)
      | (refine AWp.any (by kernel_rfl) (by kernel_rfl) (by kernel_rfl) ?_; conv => whnf)
      | (apply And.intro; (focus (first | omega | rfl | decide | exact Nat.le_of_ble_eq_true rfl | ((repeat' (first | exact all_nil | refine all_cons ?_ ?_ | rfl | fail)); done) | (simp [-List.length_flatMap]; done) | (simp [-List.length_flatMap]; omega) | fail)); conv => whnf)
      | fail)
    all_goals refine ⟨hk3.sub s (by (repeat (first | exact hsub | refine Sub.set ?_ (by assumption) _ _))) g3, bool_eq ?_⟩
    all_goals (rw [e0])
    all_goals (rcases hr with ⟨rfl, hs⟩ | ⟨rfl, hs⟩ <;> (rw [hs]; simp [*] at *))
end Go.Proofs.YtbhemiimdfhjbaaGreatDoor.Tr
