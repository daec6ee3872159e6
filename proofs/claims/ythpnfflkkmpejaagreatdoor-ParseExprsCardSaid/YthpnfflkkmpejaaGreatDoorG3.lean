/- Part 3 of what the closing text needs: PaD, PaE, PaR, PaS, PaT. No condition of mine beyond those that the theorems name. -/
import Derived.Test.YthpnfflkkmpejaaGreatDoorAb26
set_option linter.all false
namespace Go.Proofs.YthpnfflkkmpejaaGreatDoor.Pa
open Go Go.Ab Go.RowKit Go.Proofs.YthpnfflkkmpejaaGreatDoor.Lx
variable {Γ : Nat → AV}
theorem _root_.Go.Ab.Own.beside {a b : Sto} {z : Bool} {t : Nat} {e : TypeId} {m : Nat} (h : Own a b z t e m) {u u' : Nat} {e2 : TypeId} {k2 : Nat} (hne : t = u → t = 1) (hu : u = 1 ∨ ∀ e k, ¬ a.lv u e k) : Own a (b.grow u u' e2 k2) z t e m :=
  ⟨h.sub.grow hu u' e2 k2, h.own.imp id fun x => ⟨x.1, Or.inr ⟨x.2.1, Or.inl fun hx => x.1 (hne hx)⟩, x.2.2⟩⟩
theorem _root_.Go.Ab.Own.free {a b : Sto} {z : Bool} {t : Nat} {e : TypeId} {m : Nat} (h : Own a b z t e m) : t = 1 ∨ ∀ e k, ¬ a.lv t e k := h.own.imp (·.1) (·.2.2)
theorem _root_.Go.Ab.Own.more {α : Type} {a b : Sto} {o l : List α} {β : Type} {r : List β} {t : Nat} {e : TypeId} {m : Nat} (h : Own a b (o.isEmpty && r.isEmpty) t e m) (h1 : r ≠ []) (h2 : l ≠ []) : Own a b (o ++ l).isEmpty t e m := by
  have e1 : (o ++ l).isEmpty = false := by cases o <;> cases l <;> first | rfl | exact absurd rfl h2
  have e2 : (o.isEmpty && r.isEmpty) = false := by cases o <;> cases r <;> first | rfl | exact absurd rfl h1
  rw [e1, ← e2]; exact h
theorem grow_new {α : Type} {l : List α} {t1 t2 t3 : Nat} {a b : Sto} {z : Bool} {e e2 : TypeId} {m k : Nat} (w2 : Own a b z t2 e2 m) (hw : t1 = t2 → t1 = 1) (h1 : (t3 = 1 ∧ t1 = 1 ∧ l = []) ∨ (t3 ≠ 1 ∧ (b.grow t1 t3 e k).lv t3 e k)) (h2 : t3 ≠ t1 → ∀ e' k', ¬ b.lv t3 e' k') : t3 = t2 → t3 = 1 := by
  intro h
  rcases h1 with ⟨h, _⟩ | ⟨h0, _⟩
  · exact h
  · exfalso
    by_cases ht : t3 = t1
    · exact h0 (ht.trans (hw (ht.symm.trans h)))
    · rcases w2.own with ⟨h3, _⟩ | ⟨_, h3, _⟩
      · exact h0 (h.trans h3)
      · exact h2 ht _ _ (h ▸ h3)
attribute [local irreducible] APure Sto.set Sto.grow
set_option maxRecDepth 10000
set_option maxHeartbeats 1000000
section
variable {s0 s : Sto} {bp bl : Nat} {L : List Tok} {a : Nat} {o : List Ex} {d : List Int} {k : Int}
theorem Pst.nb (hP : Pst s0 s bp bl L a o d k) {b : Nat} (hb : s.bx b = none) : b ≠ bp ∧ b ≠ bl := by
  refine ⟨?_, ?_⟩
  · rintro rfl; obtain ⟨_, _, h, _⟩ := hP.pr; rw [hb] at h; cases h
  · rintro rfl; rw [hP.pl] at hb; cases hb
theorem value_ok (hE : Nu.ErrR Γ) (hP : Pst s0 s bp bl L a o d k) (hL : L.length ≤ 100000) (ha : a ≤ 90000) (hT : ∀ i, (peekF L i).2.1.length ≤ 5000) :
    ACalls Tryz.prog Γ 131 [.ptr (some ⟨bp, 0, none⟩)] s (valA s0 bp bl L o d k (valueF L a)) := by
  have hpk := peek_ok (Γ := Γ) hP.pl (by omega) (by omega)
  have hw : IntKind.i64.wrap ((a : Int) + 1) = ((a + 1 : Nat) : Int) := i64_of (by omega) (by omega) (by omega)
  obtain ⟨t1, t2, hb0, _⟩ := hP.pr
  have htok : ∃ p1 p2 p3 p4, peekF L a = (p1, p2, p3, p4) := ⟨_, _, _, _, rfl⟩
  obtain ⟨p1, p2, p3, p4, hp⟩ := htok
  rw [hp] at hpk
  simp only [tokA] at hpk
  refine ACalls.of_awp Tryz.func131 rfl (Nat.le_of_ble_eq_true (by kernel_rfl)) (awp_ok _ (by kernel_rfl) ?_)
  conv => whnf
  intro b2 hb2
  conv => whnf
  obtain ⟨m1, m2⟩ := hP.nb hb2
  have c2 : s0.bx b2 = none := hP.sub.none hb2
  have hP2 := hP.box hb2 39 [.int .i64 0, .int .i64 0, .str [], .bool false]
  have hb2' : (s.set b2 39 [.int .i64 0, .int .i64 0, .str [], .bool false]).bx b2 = some (39, [.int .i64 0, .int .i64 0, .str [], .bool false]) := set_bx_same
  have hpk2 := peek_ok (Γ := Γ) hP2.pl (by omega) (by omega)
  rw [hp] at hpk2
  simp only [tokA] at hpk2
  obtain ⟨t1', t2', hb0', _⟩ := hP2.pr
  generalize s.set b2 39 [.int .i64 0, .int .i64 0, .str [], .bool false] = sa at *
  repeat' ((first | (exfalso; first | omega | exact (by assumption : ¬ True) trivial | fail) | refine ⟨Sub.refl _, ?_⟩ | (refine brA_split (fun h => ?_) (fun h => ?_) <;> (try rw [h]) <;> (try simp only [bS, ↓reduceIte] at h)) | (refine getB_of hb0' ?_) | (refine ACalls.by hpk2 ?_; rintro _ s4 ⟨rfl, hs4⟩; subst s4) | refine getB_same ?_ | refine AWp.anyA ?_ | refine and_a ?_ | fail) <;> (conv => whnf))
  intro b4 hb4
  obtain ⟨m3, m4⟩ := hP2.nb hb4
  have n_b2_b4 : b2 ≠ b4 := ne_of_none hb2' hb4
  have n_b4_b2 : b4 ≠ b2 := fun h => n_b2_b4 h.symm
  have hPb := (hP2.box hb4 71 [.int .i64 0, .str [], .int .i64 0, .int .i64 0]).put (hP2.sub.none hb4) m3 m4 71 (tokA (p1, p2, p3, p4))
  have hb2b : ((sa.set b4 71 [.int .i64 0, .str [], .int .i64 0, .int .i64 0]).set b4 71 (tokA (p1, p2, p3, p4))).bx b2 = some (39, [.int .i64 0, .int .i64 0, .str [], .bool false]) := ((set_bx_other n_b2_b4).trans (set_bx_other n_b2_b4)).trans hb2'
  have hb4b : ((sa.set b4 71 [.int .i64 0, .str [], .int .i64 0, .int .i64 0]).set b4 71 (tokA (p1, p2, p3, p4))).bx b4 = some (71, tokA (p1, p2, p3, p4)) := set_bx_same
  conv => whnf
  repeat' ((first | (exfalso; first | omega | exact (by assumption : ¬ True) trivial | fail) | refine ⟨Sub.refl _, ?_⟩ | (refine brA_split (fun h => ?_) (fun h => ?_) <;> (try rw [h]) <;> (try simp only [bS, ↓reduceIte] at h)) | refine getB_a ?_ | refine getB_same ?_ | refine AWp.anyA ?_ | refine and_a ?_ | fail) <;> (conv => whnf))
  simp only [tokA] at hPb hb2b hb4b
  generalize (sa.set b4 71 _).set b4 71 _ = sb at *
  have c4 : s0.bx b4 = none := hP2.sub.none hb4
  have hnu := numbered_ok (Γ := Γ) hPb (by omega) (by omega)
  obtain ⟨u1, u2, hbb, _⟩ := hPb.pr
  conv => whnf
  cases hn : numbF L a
  · rw [hn] at hnu
    unfold valueF
    rw [if_neg (by rw [hn]; decide)]
    by_cases h4 : p1 = 4
    · rw [if_pos (by rw [hp]; exact h4)]
      repeat' ((first | (exfalso; first | omega | exact (by assumption : ¬ True) trivial | fail) | refine ⟨Sub.refl _, ?_⟩ | (refine brA_split (fun h => ?_) (fun h => ?_) <;> (try rw [h]) <;> (try simp only [bS, ↓reduceIte] at h)) | (refine ACalls.by hnu ?_; rintro _ s5 ⟨rfl, hs5⟩; subst s5) | (refine getB_of hb4b ?_) | (refine getB_of hbb ?_) | (refine getB_of hPb.pl ?_) | (rw [hw]) | (refine getB_of ((set_bx_other m4).trans hb4b) ?_) | (refine getB_of ((set_bx_other m2).trans hb2b) ?_) | refine getB_same ?_ | refine AWp.anyA ?_ | refine and_a ?_ | fail) <;> (conv => whnf))
      refine ⟨_, Sub.refl _, ?_⟩
      rw [hp]
      exact ⟨rfl, (hPb.next (a + 1)).put c2 m1 m2 _ _⟩
    · rw [if_neg (by rw [hp]; exact h4)]
      repeat' ((first | (exfalso; first | omega | exact (by assumption : ¬ True) trivial | fail) | refine ⟨Sub.refl _, ?_⟩ | (refine brA_split (fun h => ?_) (fun h => ?_) <;> (try rw [h]) <;> (try simp only [bS, ↓reduceIte] at h)) | (refine ACalls.by hnu ?_; rintro _ s5 ⟨rfl, hs5⟩; subst s5) | (refine getB_of hb4b ?_) | refine getB_same ?_ | refine AWp.anyA ?_ | refine and_a ?_ | fail) <;> (conv => whnf))
      have ht1 := takeP (Γ := Γ) (hPb.keep hb2b m1 m2) (by omega) (by omega) [116, 114, 117, 101]
      cases h5 : isF L a [116, 114, 117, 101]
      · rw [h5] at ht1
        rw [if_neg (by decide)]
        simp only [Bool.false_eq_true, if_false] at ht1
        refine ACalls.by ht1 ?_
        rintro _ s6 ⟨rfl, hP6⟩
        have ht2 := takeP (Γ := Γ) hP6 (by omega) (by omega) [102, 97, 108, 115, 101]
        conv => whnf
        repeat' ((first | (exfalso; first | omega | exact (by assumption : ¬ True) trivial | fail) | refine ⟨Sub.refl _, ?_⟩ | (refine brA_split (fun h => ?_) (fun h => ?_) <;> (try rw [h]) <;> (try simp only [bS, ↓reduceIte] at h)) | refine getB_same ?_ | refine AWp.anyA ?_ | refine and_a ?_ | fail) <;> (conv => whnf))
        cases h6 : isF L a [102, 97, 108, 115, 101]
        · rw [h6] at ht2
          rw [if_neg (by decide)]
          simp only [Bool.false_eq_true, if_false] at ht2
          refine ACalls.by ht2 ?_
          rintro _ s7 ⟨rfl, hP7⟩
          obtain ⟨hP8, hb8⟩ := hP7.drop c2
          conv => whnf
          repeat' ((first | (exfalso; first | omega | exact (by assumption : ¬ True) trivial | fail) | refine ⟨Sub.refl _, ?_⟩ | (refine brA_split (fun h => ?_) (fun h => ?_) <;> (try rw [h]) <;> (try simp only [bS, ↓reduceIte] at h)) | (refine ACalls.by (fail_ok hP8 (by omega) (by omega) 16) ?_; rintro _ s9 ⟨rfl, hs9⟩; subst s9) | (refine getB_of hb8 ?_) | refine getB_same ?_ | refine AWp.anyA ?_ | refine and_a ?_ | fail) <;> (conv => whnf))
          refine ⟨_, Sub.refl _, ?_⟩
          exact ⟨_, _, rfl, errV_fail L a 16, hP8.put c2 m1 m2 _ _⟩
        · rw [h6] at ht2
          rw [if_pos rfl]
          simp only [if_true] at ht2
          refine ACalls.by ht2 ?_
          rintro _ s7 ⟨rfl, hP7⟩
          obtain ⟨hP8, hb8⟩ := hP7.drop c2
          conv => whnf
          repeat' ((first | (exfalso; first | omega | exact (by assumption : ¬ True) trivial | fail) | refine ⟨Sub.refl _, ?_⟩ | (refine brA_split (fun h => ?_) (fun h => ?_) <;> (try rw [h]) <;> (try simp only [bS, ↓reduceIte] at h)) | (refine getB_of hb8 ?_) | refine getB_same ?_ | refine AWp.anyA ?_ | refine and_a ?_ | fail) <;> (conv => whnf))
          exact ⟨_, Sub.refl _, rfl, hP8.put c2 m1 m2 _ _⟩
      · rw [h5] at ht1
        rw [if_pos rfl]
        simp only [if_true] at ht1
        refine ACalls.by ht1 ?_
        rintro _ s6 ⟨rfl, hP6⟩
        obtain ⟨hP8, hb8⟩ := hP6.drop c2
        conv => whnf
        repeat' ((first | (exfalso; first | omega | exact (by assumption : ¬ True) trivial | fail) | refine ⟨Sub.refl _, ?_⟩ | (refine brA_split (fun h => ?_) (fun h => ?_) <;> (try rw [h]) <;> (try simp only [bS, ↓reduceIte] at h)) | (refine getB_of hb8 ?_) | refine getB_same ?_ | refine AWp.anyA ?_ | refine and_a ?_ | fail) <;> (conv => whnf))
        exact ⟨_, Sub.refl _, rfl, hP8.put c2 m1 m2 _ _⟩
  · rw [hn] at hnu
    have hnb := number_ok hE (hPb.keep hb2b m1 m2) hL (by omega) hT hn
    repeat' ((first | (exfalso; first | omega | exact (by assumption : ¬ True) trivial | fail) | refine ⟨Sub.refl _, ?_⟩ | (refine brA_split (fun h => ?_) (fun h => ?_) <;> (try rw [h]) <;> (try simp only [bS, ↓reduceIte] at h)) | (refine ACalls.by hnu ?_; rintro _ s5 ⟨rfl, hs5⟩; subst s5) | (refine ACalls.by hnb ?_; intro v s6 hv6) | refine getB_same ?_ | refine AWp.anyA ?_ | refine and_a ?_ | fail) <;> (conv => whnf))
    unfold valA at hv6 ⊢
    rcases hvf : valueF L a with x | ⟨x, a'⟩
    · rw [hvf] at hv6
      obtain ⟨e, a', rfl, ⟨kd, tx, rfl⟩, hP6⟩ := hv6
      obtain ⟨hP8, hb8⟩ := hP6.drop c2
      conv => whnf
      repeat' ((first | (exfalso; first | omega | exact (by assumption : ¬ True) trivial | fail) | refine ⟨Sub.refl _, ?_⟩ | (refine brA_split (fun h => ?_) (fun h => ?_) <;> (try rw [h]) <;> (try simp only [bS, ↓reduceIte] at h)) | (refine getB_of hb8 ?_) | refine getB_same ?_ | refine AWp.anyA ?_ | refine and_a ?_ | fail) <;> (conv => whnf))
      exact ⟨_, Sub.refl _, _, _, rfl, ⟨kd, tx, rfl⟩, hP8.put c2 m1 m2 _ _⟩
    · rw [hvf] at hv6
      obtain ⟨rfl, hP6⟩ := hv6
      obtain ⟨hP8, hb8⟩ := hP6.drop c2
      conv => whnf
      repeat' ((first | (exfalso; first | omega | exact (by assumption : ¬ True) trivial | fail) | refine ⟨Sub.refl _, ?_⟩ | (refine brA_split (fun h => ?_) (fun h => ?_) <;> (try rw [h]) <;> (try simp only [bS, ↓reduceIte] at h)) | (refine getB_of hb8 ?_) | refine getB_same ?_ | refine AWp.anyA ?_ | refine and_a ?_ | fail) <;> (conv => whnf))
      exact ⟨_, Sub.refl _, rfl, hP8.put c2 m1 m2 _ _⟩
/-- What a step of the parser leaves: its state, or what is wrong. -/
def stepA (s0 : Sto) (bp bl : Nat) (L : List Tok) (r : Res St) (v : AV) (s' : Sto) : Prop :=
  match r with
  | .ok x => v = .nilIface ∧ Pst s0 s' bp bl L x.a x.o x.d x.k
  | .error x => ErrV x v ∧ ∃ a o d k, Pst s0 s' bp bl L a o d k
theorem intsA_at {l : List Int} {i : Nat} (h : i < l.length) : (intsA .i64 l).getD i [] = [.int .i64 (l.getD i 0)] := intsA_get h
/-- The same, with what is wrong still in its own box. -/
def stepR (s0 : Sto) (bp bl : Nat) (L : List Tok) (r : Res St) (v : AV) (s' : Sto) : Prop :=
  match r with
  | .ok x => v = .nilIface ∧ Pst s0 s' bp bl L x.a x.o x.d x.k
  | .error x => ∃ b kd t sE, v = .iface 67 (.ptr (some ⟨b, 0, none⟩)) ∧ sE.bx b = none ∧ s'.bx b = some (73, tokA (kd, t, x.2.1, x.2.2) ++ [.iface 24 (.int .i64 x.1)]) ∧ Sub sE s' ∧ ∃ a o d k, Pst s0 sE bp bl L a o d k
theorem stepR.stepA {r : Res St} {f : FuncId} {args : List AV} (h : ACalls Tryz.prog Γ f args s (stepR s0 bp bl L r)) : ACalls Tryz.prog Γ f args s (stepA s0 bp bl L r) := by
  refine h.frz ?_
  intro v s' hv
  cases r with
  | ok x =>
    obtain ⟨rfl, hv⟩ := hv
    exact ⟨fz0, s', fz0_of, Sub.refl _, by simp only [fz, fg]; exact ⟨rfl, hv⟩⟩
  | error x =>
    obtain ⟨b, kd, t, sE, rfl, h1, h2, h3, h4⟩ := hv
    refine ⟨fz1 b 0 (tokA (kd, t, x.2.1, x.2.2) ++ [.iface 24 (.int .i64 x.1)]), sE, fz1_of h1 h2, h3, ⟨kd, t, ?_⟩, h4⟩
    simp only [fz, fzP, fz1_at, List.drop_zero, fg, errA, tokA, List.cons_append, List.nil_append, fgL]
theorem node_ok (hP : Pst s0 s bp bl L a o d k) (ho : o.length ≤ 100000) (hd : d.length = o.length) (t : Tok) (x : Ex) (tu : Nat) (u : List Int) (hu : ∀ i ∈ u, 0 ≤ i ∧ i < d.length) (hul : u.length ≤ 2) :
    ACalls Tryz.prog Γ 42 [.ptr (some ⟨bp, 0, none⟩), .agg (tokA t), .agg (exA x), .slice tu (intsA .i64 u)] s (stepA s0 bp bl L (nodeF t x u ⟨a, o, d, k⟩)) := by
  refine stepR.stepA ?_
  obtain ⟨p1, p2, p3, p4⟩ := t
  obtain ⟨x1, x2, x3, x4, x5, x6, x7, x8, x9, x10⟩ := x
  simp only [tokA, exA]
  have hul2 := intsA_len .i64 u
  have hdl := intsA_len .i64 d
  have hol := exsA_len o
  unfold nodeF
  dsimp only
  refine ACalls.of_awp Tryz.func42 rfl (Nat.le_of_ble_eq_true (by kernel_rfl)) (awp_ok _ (by kernel_rfl) ?_)
  conv => whnf
  intro b5 hb5
  conv => whnf
  have hP5 := hP.box hb5 71 [.int .i64 p1, .str p2, .int .i64 p3, .int .i64 p4]
  obtain ⟨m1, m2⟩ := hP.nb hb5
  have hb5' : (s.set b5 71 [.int .i64 p1, .str p2, .int .i64 p3, .int .i64 p4]).bx b5 = some (71, [.int .i64 p1, .str p2, .int .i64 p3, .int .i64 p4]) := set_bx_same
  have c5 : s0.bx b5 = none := hP.sub.none hb5
  generalize s.set b5 71 [.int .i64 p1, .str p2, .int .i64 p3, .int .i64 p4] = sa at *
  intro b6 hb6
  conv => whnf
  obtain ⟨m3, m4⟩ := hP5.nb hb6
  have n_b5_b6 : b5 ≠ b6 := ne_of_none hb5' hb6
  have n_b6_b5 : b6 ≠ b5 := fun h => n_b5_b6 h.symm
  have c6 : s0.bx b6 = none := hP5.sub.none hb6
  have hPb := ((hP5.box hb6 41 [.int .i64 x1, .int .i64 x2, .int .i64 x3, .str x4, .int .i64 x5, .int .i64 x6, .str x7, .bool x8, .int .i64 x9, .int .i64 x10]).put c6 m3 m4 41 [.int .i64 x1, .int .i64 x2, .int .i64 x3, .str x4, .int .i64 x5, .int .i64 x6, .str x7, .bool x8, .int .i64 p3, .int .i64 x10]).put c6 m3 m4 41 [.int .i64 x1, .int .i64 x2, .int .i64 x3, .str x4, .int .i64 x5, .int .i64 x6, .str x7, .bool x8, .int .i64 p3, .int .i64 p4]
  have h5b : (((sa.set b6 41 [.int .i64 x1, .int .i64 x2, .int .i64 x3, .str x4, .int .i64 x5, .int .i64 x6, .str x7, .bool x8, .int .i64 x9, .int .i64 x10]).set b6 41 [.int .i64 x1, .int .i64 x2, .int .i64 x3, .str x4, .int .i64 x5, .int .i64 x6, .str x7, .bool x8, .int .i64 p3, .int .i64 x10]).set b6 41 [.int .i64 x1, .int .i64 x2, .int .i64 x3, .str x4, .int .i64 x5, .int .i64 x6, .str x7, .bool x8, .int .i64 p3, .int .i64 p4]).bx b5 = some (71, [.int .i64 p1, .str p2, .int .i64 p3, .int .i64 p4]) := (set_bx_other n_b5_b6).trans ((set_bx_other n_b5_b6).trans ((set_bx_other n_b5_b6).trans hb5'))
  have h6b : (((sa.set b6 41 [.int .i64 x1, .int .i64 x2, .int .i64 x3, .str x4, .int .i64 x5, .int .i64 x6, .str x7, .bool x8, .int .i64 x9, .int .i64 x10]).set b6 41 [.int .i64 x1, .int .i64 x2, .int .i64 x3, .str x4, .int .i64 x5, .int .i64 x6, .str x7, .bool x8, .int .i64 p3, .int .i64 x10]).set b6 41 [.int .i64 x1, .int .i64 x2, .int .i64 x3, .str x4, .int .i64 x5, .int .i64 x6, .str x7, .bool x8, .int .i64 p3, .int .i64 p4]).bx b6 = some (41, [.int .i64 x1, .int .i64 x2, .int .i64 x3, .str x4, .int .i64 x5, .int .i64 x6, .str x7, .bool x8, .int .i64 p3, .int .i64 p4]) := set_bx_same
  refine AWp.anyP [(12, true), (14, true), (16, false), (17, false)] (fun k => cond k b5 b6) [0, 1, 2, 3, 4, 5, 6, 7] n_b5_b6 (by kernel_rfl) (by kernel_rfl) (by kernel_rfl) (by kernel_rfl) ?_
  conv => whnf
  repeat' ((first | (exfalso; first | omega | exact (by assumption : ¬ True) trivial | fail) | refine ⟨Sub.refl _, ?_⟩ | (refine brA_split (fun h => ?_) (fun h => ?_) <;> (try rw [h]) <;> (try simp only [bS, ↓reduceIte] at h)) | (refine ⟨(by first | exact trivial | exact ⟨_, rfl, rfl⟩), ?_⟩) | refine getB_a ?_ | refine getB_same ?_ | refine AWp.anyA ?_ | refine and_a ?_ | fail) <;> (conv => whnf))
  generalize ((sa.set b6 41 _).set b6 41 _).set b6 41 _ = sb at *
  obtain ⟨t1, t2, hbb, w1, w2, w3⟩ := hPb.pr
  refine AWp.loopA [20, 9] [21, 22, 23, 11, 24, 25, 26, 27, 28, 29, 30, 31, 32, 33, 34] (fun q : Nat × Int => [.int .i64 q.1, .int .i64 q.2]) (fun q s' => q.1 ≤ u.length ∧ s' = sb ∧ deepF d u 1 = deepF d (u.drop q.1) q.2) (fun q => u.length - q.1) ((0, 1)) (by kernel_rfl) (eqa) ?_ ?_
  · exact ⟨Nat.zero_le _, rfl, rfl⟩
  · rintro x ⟨i, m⟩ s' ⟨h1, rfl, h3⟩
    show awp _ _ _ _ _ (updL _ _ [.int .i64 (i : Int), .int .i64 m]) _
    conv => whnf
    by_cases hi : i < u.length
    · have hui := hu (u.getD i 0) (by rw [List.getD_eq_getElem?_getD, List.getElem?_eq_getElem hi]; simp)
      have hat := intsA_at (l := u) hi
      have hdt := intsA_at (l := d) (i := (u.getD i 0).toNat) (by omega)
      have hz : ((i : Int)).toNat = i := rfl
      have hdrop : u.drop i = u.getD i 0 :: u.drop (i + 1) := by rw [List.drop_eq_getElem_cons hi, List.getD_eq_getElem?_getD, List.getElem?_eq_getElem hi]; rfl
      rw [hdrop] at h3
      have hw : IntKind.i64.wrap ((i : Int) + 1) = ((i + 1 : Nat) : Int) := i64_of (by omega) (by omega) (by omega)
      repeat' ((first | (exfalso; first | omega | exact (by assumption : ¬ True) trivial | fail) | refine ⟨Sub.refl _, ?_⟩ | (refine brA_split (fun h => ?_) (fun h => ?_) <;> (try rw [h]) <;> (try simp only [bS, ↓reduceIte] at h)) | refine getB_a ?_ | (refine getB_of hbb ?_) | (rw [hz]) | (rw [hat]) | (rw [hdt]) | (rw [hw]) | refine getB_same ?_ | refine AWp.anyA ?_ | refine and_a ?_ | fail) <;> (conv => whnf))
      · refine ⟨(i + 1, _), eqa, samea, ⟨by omega, rfl, ?_⟩, by omega⟩
        dsimp only
        rw [h3]
        rfl
    · have hie : i = u.length := by omega
      rw [hie, List.drop_length] at h3
      have h3' : deepF d u 1 = m := h3
      rw [h3']
      repeat' ((first | (exfalso; first | omega | exact (by assumption : ¬ True) trivial | fail) | refine ⟨Sub.refl _, ?_⟩ | (refine brA_split (fun h => ?_) (fun h => ?_) <;> (try rw [h]) <;> (try simp only [bS, ↓reduceIte] at h)) | refine getB_a ?_ | (refine getB_of hbb ?_) | (refine AWp.anyP (id := 10) [] (fun k => cond k b5 b6) [0, 1, 2, 3, 4, 5, 6, 7, 9, 10, 11, 12, 13, 14, 8, 15, 16, 17, 18, 19, 20, 21] n_b5_b6 (by kernel_rfl) (by kernel_rfl) (by kernel_rfl) (by kernel_rfl) ?_) | (refine ⟨trivial, ?_⟩) | refine getB_same ?_ | refine AWp.anyA ?_ | refine and_a ?_ | fail) <;> (conv => whnf))
      · rw [if_pos (by assumption)]
        intro b7 hb7
        conv => whnf
        repeat' ((first | (exfalso; first | omega | exact (by assumption : ¬ True) trivial | fail) | refine ⟨Sub.refl _, ?_⟩ | (refine brA_split (fun h => ?_) (fun h => ?_) <;> (try rw [h]) <;> (try simp only [bS, ↓reduceIte] at h)) | refine getB_a ?_ | refine getB_same ?_ | refine AWp.anyA ?_ | refine and_a ?_ | fail) <;> (conv => whnf))
        exact ⟨_, Sub.refl _, b7, p1, p2, s', rfl, hb7, set_bx_same, (Sub.refl _).set hb7 _ _, a, o, d, k, hPb⟩
      · rw [if_neg (by assumption)]
        refine ⟨w1.may, fun c hc => by obtain ⟨z, _, rfl⟩ := List.mem_map.1 hc; rfl, by intro c hc; rw [List.mem_singleton] at hc; subst hc; exact ⟨rfl, rfl⟩, Nat.le_trans (Nat.mul_le_mul_right _ (show _ ≤ 100001 from by simp only [List.length_cons, List.length_nil]; omega)) (Nat.le_of_ble_eq_true (by kernel_rfl)), ?_⟩
        intro t3 h31 h32
        conv => whnf
        have v1 := w1.grow h31 h32
        have v2 := w2.beside (u' := t3) (e2 := 41) (k2 := 10) (fun h => by rw [h]; exact w3 h.symm) w1.free
        refine ⟨trivial, ?_⟩
        conv => whnf
        refine ⟨v2.may, fun c hc => by obtain ⟨z, _, rfl⟩ := List.mem_map.1 hc; rfl, by intro c hc; rw [List.mem_singleton] at hc; subst hc; exact ⟨rfl, rfl⟩, Nat.le_trans (Nat.mul_le_mul_right _ (show _ ≤ 100001 from by simp only [List.length_cons, List.length_nil]; omega)) (Nat.le_of_ble_eq_true (by kernel_rfl)), ?_⟩
        intro t4 h41 h42
        conv => whnf
        have v3 := v2.grow h41 h42
        have v4 := v1.beside (u' := t4) (e2 := 3) (k2 := 1) (grow_new w2 w3 h31 h32) v2.free
        refine ⟨trivial, ?_⟩
        conv => whnf
        have hb9 : ((s'.grow t1 t3 41 10).grow t2 t4 3 1).bx bp = some (53, [.ptr (some ⟨bl, 0, none⟩), .slice t1 (exsA o), .slice t2 (intsA .i64 d), .int .i64 k]) := grow_bx.trans (grow_bx.trans hbb)
        repeat' ((first | (exfalso; first | omega | exact (by assumption : ¬ True) trivial | fail) | refine ⟨Sub.refl _, ?_⟩ | (refine brA_split (fun h => ?_) (fun h => ?_) <;> (try rw [h]) <;> (try simp only [bS, ↓reduceIte] at h)) | (refine ⟨trivial, ?_⟩) | (refine getB_of hb9 ?_) | (refine getB_of set_bx_same ?_) | refine getB_same ?_ | refine AWp.anyA ?_ | refine and_a ?_ | fail) <;> (conv => whnf))
        have hnn := grow_new v1 (fun h => h.trans (grow_new w2 w3 h31 h32 h.symm)) h41 h42
        refine ⟨_, Sub.refl _, rfl, hP.np, hP.nl, hP.ne, ⟨t3, t4, ?_, ((v4.set hP.np).set hP.np).more (by simp) (by simp), ((v3.set hP.np).set hP.np).more (by simp) (by simp), fun h => h.trans (hnn h.symm)⟩, ?_⟩
        · refine set_bx_same.trans ?_
          simp only [exsA, intsA, List.map_append, List.map_cons, List.map_nil, exA]
        · exact (set_bx_other hP.ne.symm).trans ((set_bx_other hP.ne.symm).trans (grow_bx.trans (grow_bx.trans hPb.pl)))
end
end Go.Proofs.YthpnfflkkmpejaaGreatDoor.Pa
namespace Go.Proofs.YthpnfflkkmpejaaGreatDoor.Pa
open Go Go.Ab Go.RowKit Go.Proofs.YthpnfflkkmpejaaGreatDoor.Lx
structure Okay (L : List Tok) (s : St) : Prop where
  ha : s.a ≤ L.length
  ho : s.o.length ≤ s.a
  hd : s.d.length = s.o.length
  hk : 0 ≤ s.k ∧ s.k ≤ 128
structure Grew (s s' : St) : Prop where
  a : s.a ≤ s'.a
  l : s'.o.length + s.a ≤ s'.a + s.o.length
  o : s.o.length < s'.o.length
  k : s'.k = s.k
/-- What holds of whatever is read, where it is read. -/
def Good (L : List Tok) (F : St → Res St) (s : St) : Prop := ∀ s', F s = .ok s' → Okay L s' ∧ Grew s s'
theorem sign_lt {L : List Tok} {a : Nat} (h : signK (peekF L a) = true) : a < L.length := by
  by_cases ha : a < L.length
  · exact ha
  · exfalso
    unfold peekF at h
    rw [if_neg ha] at h
    split at h <;> exact absurd h (by simp [signK])
theorem isF_lt {L : List Tok} {a : Nat} {w : List UInt8} (h : isF L a w = true) : a < L.length := by
  unfold isF at h
  rw [Bool.and_eq_true] at h
  exact sign_lt h.1
theorem nextF_lt {L : List Tok} {a : Nat} {m : List (List UInt8 × Int)} (h : nextF L a m ≠ 0) : a < L.length := by
  unfold nextF at h
  split at h
  · rename_i h1; exact sign_lt h1
  · exact absurd rfl h
theorem kind_lt {L : List Tok} {a : Nat} (h : (peekF L a).1 ≠ 0) : a < L.length := by
  by_cases ha : a < L.length
  · exact ha
  · exfalso
    unfold peekF at h
    rw [if_neg ha] at h
    split at h <;> exact h rfl
theorem valueF_lt {L : List Tok} {a a' : Nat} {v : Int × Int × List UInt8 × Bool} (h : valueF L a = .ok (v, a')) : a < a' ∧ a' ≤ L.length := by
  unfold valueF at h
  split at h
  · rename_i hn
    unfold numbF at hn
    rw [Bool.and_eq_true, decide_eq_true_eq] at hn
    have hq : a ≤ (if isF L a [45] = true then a + 1 else a) := by split <;> omega
    dsimp only at h
    generalize (if isF L a [45] = true then a + 1 else a) = q at *
    generalize (if isF L a [45] = true ∧ (peekF L q).2.1 ≠ [48] then ([45] : List UInt8) else []) ++ (peekF L q).2.1 = t at *
    split at h
    · cases h
    · injection h with h
      injection h with h1 h2
      subst h2
      have h3 := hn.1
      omega
  · split at h
    · rename_i h1
      injection h with h; injection h with _ h2; subst h2
      have := kind_lt (L := L) (a := a) (by rw [h1]; decide)
      omega
    · split at h
      · rename_i h1
        injection h with h; injection h with _ h2; subst h2
        have := isF_lt h1
        omega
      · split at h
        · rename_i h1
          injection h with h; injection h with _ h2; subst h2
          have := isF_lt h1
          omega
        · cases h
theorem nodeF_ok {t : Tok} {x : Ex} {u : List Int} {s s' : St} (h : nodeF t x u s = .ok s') : s' = { s with o := s.o ++ [{ x with ln := t.2.2.1, cl := t.2.2.2 }], d := s.d ++ [deepF s.d u 1] } ∧ deepF s.d u 1 ≤ 64 := by
  unfold nodeF at h
  split at h
  · cases h
  · injection h with h
    exact ⟨h.symm, by omega⟩
/-- A node more, at a state that has read a token more than it has nodes. -/
theorem node_good {L : List Tok} {t : Tok} {x : Ex} {u : List Int} {s s1 s' : St} (ha : s.a ≤ s1.a) (hL : s1.a ≤ L.length) (hl : s1.o.length + 1 + s.a ≤ s1.a + s.o.length) (ho : s.o.length ≤ s1.o.length) (hd : s1.d.length = s1.o.length) (hk : s1.k = s.k) (hs : Okay L s)
    (h : nodeF t x u s1 = .ok s') : Okay L s' ∧ Grew s s' := by
  obtain ⟨rfl, _⟩ := nodeF_ok h
  have := hs.ho
  refine ⟨⟨hL, ?_, ?_, ?_⟩, ⟨ha, ?_, ?_, hk⟩⟩
  · simp only [List.length_append, List.length_cons, List.length_nil]; omega
  · simp only [List.length_append, List.length_cons, List.length_nil]; omega
  · rw [show ({ s1 with o := _, d := _ } : St).k = s1.k from rfl, hk]; exact hs.hk
  · simp only [List.length_append, List.length_cons, List.length_nil]; omega
  · simp only [List.length_append, List.length_cons, List.length_nil]; omega
theorem want_good {L : List Tok} {w : List UInt8} {s s1 s' : St} (h1 : Okay L s1) (h2 : Grew s s1) (h : wantF L w s1 = .ok s') : Okay L s' ∧ Grew s s' := by
  unfold wantF at h
  split at h
  · rename_i hw
    injection h with h
    subst h
    have := isF_lt hw
    exact ⟨⟨by simp only; omega, by simp only; have := h1.ho; omega, h1.hd, h1.hk⟩, ⟨by simp only; have := h2.a; omega, by simp only; have := h2.l; omega, h2.o, h2.k⟩⟩
  · cases h
/-- Behind an opening token. -/
def opened (s : St) : St := { s with a := s.a + 1, k := s.k + 1 }
theorem opened_okay {L : List Tok} {s : St} (h : Okay L s) (ha : s.a < L.length) (hk : s.k ≠ 128) : Okay L (opened s) :=
  ⟨by simp only [opened]; omega, by simp only [opened]; have := h.ho; omega, h.hd, by simp only [opened]; have := h.hk; omega⟩
theorem inside_good {L : List Tok} {F : St → Res St} {s : St} (hs : Okay L s) (ha : s.a < L.length) (hF : s.k ≠ 128 → Good L F (opened s)) : ∀ s', insideF L F s = .ok s' → Okay L s' ∧ Grew s s' ∧ s'.o.length + 1 + s.a ≤ s'.a + s.o.length := by
  intro s' h
  unfold insideF at h
  split at h
  · cases h
  · rename_i hk
    split at h
    · cases h
    · rename_i s1 h1
      injection h with h
      subst h
      obtain ⟨g1, g2⟩ := hF hk s1 h1
      have e1 := g2.a
      have e2 := g2.l
      have e3 := g2.o
      have e4 := g2.k
      simp only [opened] at e1 e2 e3 e4
      have := hs.hk
      exact ⟨⟨g1.ha, g1.ho, g1.hd, by simp only; omega⟩, ⟨by simp only; omega, by simp only; omega, by simp only; omega, by simp only; omega⟩, by simp only; omega⟩
theorem before_good {L : List Tok} {F : St → Res St} {op : Int} {s : St} (hs : Okay L s) (ha : s.a < L.length) (hF : s.k ≠ 128 → Good L F (opened s)) : Good L (beforeF L op F) s := by
  intro s' h
  unfold beforeF at h
  split at h
  · cases h
  · rename_i s1 h1
    obtain ⟨g1, g2, g3⟩ := inside_good hs ha hF s1 h1
    exact node_good g2.a g1.ha g3 (Nat.le_of_lt g2.o) g1.hd g2.k hs h
theorem chainL_good {L : List Tok} {m : List (List UInt8 × Int)} {F : St → Res St} : ∀ {n : Nat} {s s1 : St}, Okay L s → (s1 = s ∨ Grew s s1) → Okay L s1 → (∀ q : St, Okay L q → s.a ≤ q.a → Good L F q) → ∀ s', chainL L m F n s1 = .ok s' → Okay L s' ∧ (s' = s1 ∨ Grew s s')
  | 0, s, s1, hs, hg, h1, hF, s', h => by
    injection h with h; subst h; exact ⟨h1, .inl rfl⟩
  | n + 1, s, s1, hs, hg, h1, hF, s', h => by
    unfold chainL at h
    split at h
    · injection h with h; subst h; exact ⟨h1, .inl rfl⟩
    · rename_i hne
      have hlt := nextF_lt hne
      have hsa : s.a ≤ s1.a := by rcases hg with rfl | hg; exact Nat.le_refl _; exact hg.a
      have hso : s.o.length ≤ s1.o.length := by rcases hg with rfl | hg; exact Nat.le_refl _; exact Nat.le_of_lt hg.o
      have hsl : s1.o.length + s.a ≤ s1.a + s.o.length := by rcases hg with rfl | hg; omega; exact hg.l
      have hsk : s1.k = s.k := by rcases hg with rfl | hg; rfl; exact hg.k
      split at h
      · cases h
      · rename_i s2 h2
        obtain ⟨g1, g2⟩ := hF { s1 with a := s1.a + 1 } ⟨by simp only; omega, by simp only; have := h1.ho; omega, h1.hd, h1.hk⟩ (by simp only; omega) s2 h2
        have e1 := g2.a
        have e2 := g2.l
        have e3 := g2.o
        have e4 := g2.k
        simp only at e1 e2 e3 e4
        split at h
        · cases h
        · rename_i s3 h3
          obtain ⟨k1, k2⟩ := node_good (s := s) (by omega) g1.ha (by omega) (by omega) g1.hd (by omega) hs h3
          obtain ⟨k3, k4⟩ := chainL_good hs (.inr k2) k1 hF s' h
          refine ⟨k3, .inr ?_⟩
          rcases k4 with rfl | k4
          · exact k2
          · exact k4
theorem chain_good {L : List Tok} {m : List (List UInt8 × Int)} {F : St → Res St} {s : St} (hs : Okay L s) (hF : ∀ q : St, Okay L q → s.a ≤ q.a → Good L F q) : Good L (chainF L m F) s := by
  intro s' h
  unfold chainF at h
  split at h
  · cases h
  · rename_i s1 h1
    obtain ⟨g1, g2⟩ := hF s hs (Nat.le_refl _) s1 h1
    obtain ⟨k1, k2⟩ := chainL_good hs (.inr g2) g1 hF s' h
    refine ⟨k1, ?_⟩
    rcases k2 with rfl | k2
    · exact g2
    · exact k2
theorem turn_len {s : St} {f m : Nat} (h1 : f ≤ m) (h2 : m ≤ s.o.length) (hd : s.d.length = s.o.length) : (turnF s f m).o.length = s.o.length ∧ (turnF s f m).d.length = s.d.length := by
  unfold turnF
  simp only [List.length_append, List.length_take, List.length_map, List.length_drop]
  omega
theorem comp_good {L : List Tok} {F : St → Res St} {s : St} (hs : Okay L s) (hF : ∀ q : St, Okay L q → s.a ≤ q.a → Good L F q) : Good L (compF L F) s := by
  intro s' h
  unfold compF at h
  split at h
  · cases h
  · rename_i s1 h1
    obtain ⟨g1, g2⟩ := hF s hs (Nat.le_refl _) s1 h1
    split at h
    · injection h with h; subst h; exact ⟨g1, g2⟩
    · rename_i hne
      have hlt := nextF_lt hne
      split at h
      · cases h
      · rename_i s2 h2
        have f1 := g2.a
        have f2 := g2.l
        have f3 := g2.o
        have f4 := g2.k
        obtain ⟨k1, k2⟩ := hF { s1 with a := s1.a + 1 } ⟨by simp only; omega, by simp only; have := g1.ho; omega, g1.hd, g1.hk⟩ (by simp only; omega) s2 h2
        have e1 := k2.a
        have e2 := k2.l
        have e3 := k2.o
        have e4 := k2.k
        simp only at e1 e2 e3 e4
        split at h
        · obtain ⟨t1, t2⟩ := turn_len (s := s2) (f := s.o.length) (m := s1.o.length) (by omega) (by omega) k1.hd
          have tk : (turnF s2 s.o.length s1.o.length).k = s2.k := rfl
          have ta : (turnF s2 s.o.length s1.o.length).a = s2.a := rfl
          exact node_good (s := s) (by omega) (by rw [ta]; exact k1.ha) (by omega) (by omega) (by rw [t1, t2]; exact k1.hd) (by omega) hs h
        · exact node_good (s := s) (by omega) k1.ha (by omega) (by omega) k1.hd (by omega) hs h
theorem unary_good {L : List Tok} {E U : St → Res St} {s : St} (hs : Okay L s) (hE : s.a < L.length → s.k ≠ 128 → Good L E (opened s)) (hU : s.a < L.length → s.k ≠ 128 → Good L U (opened s)) : Good L (unaryF L E U) s := by
  intro s' h
  unfold unaryF at h
  split at h
  · rename_i h0
    have hlt := isF_lt h0
    obtain ⟨g1, g2, _⟩ := inside_good hs hlt (fun hk => fun q hq => by
      split at hq
      · cases hq
      · rename_i q1 hq1
        obtain ⟨k1, k2⟩ := hE hlt hk q1 hq1
        exact want_good k1 k2 hq) s' h
    exact ⟨g1, g2⟩
  · split at h
    · rename_i h1
      have hlt := kind_lt (L := L) (a := s.a) (by rw [h1.1]; decide)
      exact node_good (s := s) (s1 := { s with a := s.a + 1 }) (by simp only; omega) (by simp only; omega) (by simp only; omega) (Nat.le_refl _) hs.hd rfl hs h
    · split at h
      · rename_i h2
        have hlt := isF_lt h2.1
        exact before_good hs hlt (hU hlt) s' h
      · split at h
        · cases h
        · rename_i v a' hv
          obtain ⟨l1, l2⟩ := valueF_lt hv
          exact node_good (s := s) (s1 := { s with a := a' }) (by simp only; omega) (by simp only; omega) (by simp only; omega) (Nat.le_refl _) hs.hd rfl hs h
/-- How much fuel is enough. -/
def Enough (L : List Tok) (lv f : Nat) (s : St) : Prop := 7 * (L.length - s.a) + (6 - lv) < f
theorem ev_good {L : List Tok} : ∀ (f lv : Nat) (s : St), lv ≤ 6 → Okay L s → Enough L lv f s → Good L (ev L f lv) s
  | 0, _, _, _, _, h => absurd h (Nat.not_lt_zero _)
  | f + 1, lv, s, hl, hs, he => by
    have up : ∀ l2, lv < l2 → l2 ≤ 6 → ∀ q : St, Okay L q → s.a ≤ q.a → Good L (ev L f l2) q := fun l2 h1 h2 q hq ha => ev_good f l2 q h2 hq (by unfold Enough at *; omega)
    have op : ∀ l2, l2 ≤ 6 → (l2 = 0 → lv = 6) → (l2 ≠ 0 → l2 = lv) → s.a < L.length → s.k ≠ 128 → Good L (ev L f l2) (opened s) := fun l2 h1 h2 h3 ha hk => ev_good f l2 (opened s) h1 (opened_okay hs ha hk) (by
      unfold Enough at *
      simp only [opened]
      by_cases h0 : l2 = 0
      · have := h2 h0; omega
      · have := h3 h0; omega)
    rcases lv with _ | _ | _ | _ | _ | _ | _ | lv
    · exact chain_good hs (up 1 (by omega) (by omega))
    · exact chain_good hs (up 2 (by omega) (by omega))
    · intro s' h
      replace h : (if isF L s.a [110, 111, 116] = true then beforeF L 4 (ev L f 2) s else ev L f 3 s) = .ok s' := h
      split at h
      · rename_i h0
        exact before_good hs (isF_lt h0) (op 2 (by omega) (by omega) (by omega) (isF_lt h0)) s' h
      · exact up 3 (by omega) (by omega) s hs (Nat.le_refl _) s' h
    · exact comp_good hs (up 4 (by omega) (by omega))
    · exact chain_good hs (up 5 (by omega) (by omega))
    · exact chain_good hs (up 6 (by omega) (by omega))
    · exact unary_good hs (op 0 (by omega) (by omega) (by omega)) (op 6 (by omega) (by omega) (by omega))
    · omega
end Go.Proofs.YthpnfflkkmpejaaGreatDoor.Pa
namespace Go.Proofs.YthpnfflkkmpejaaGreatDoor.Pa
open Go Go.Ab Go.RowKit Go.Proofs.YthpnfflkkmpejaaGreatDoor.Lx
set_option maxRecDepth 10000
set_option maxHeartbeats 1000000
theorem two_eq {a b c d : Int} (h1 : a = c) (h2 : b = d) : [a, b] = [c, d] := by rw [h1, h2]
def exAt (o : List Ex) (i : Nat) : Ex := o.getD i ex0
def dAt (d : List Int) (i : Nat) : Int := d.getD i 0
/-- A node is in order: its children stand from lo on, ahead of it, and its depth is told. -/
def NodeOk (x : Ex) (d : List Int) (lo i : Nat) : Prop :=
  ((x.op = 1 ∨ x.op = 17) ∧ dAt d i = 1) ∨
  ((x.op = 4 ∨ x.op = 5) ∧ ∃ a : Nat, x.a = a ∧ lo ≤ a ∧ a < i ∧ dAt d i = dAt d a + 1) ∨
  ((6 ≤ x.op ∧ x.op ≤ 16) ∧ ∃ a b : Nat, x.a = a ∧ x.b = b ∧ lo ≤ a ∧ a < i ∧ lo ≤ b ∧ b < i ∧ dAt d i = (if dAt d b > dAt d a then dAt d b else dAt d a) + 1)
structure Tidy (o : List Ex) (d : List Int) (lo hi : Nat) : Prop where
  node : ∀ i, lo ≤ i → i < hi → NodeOk (exAt o i) d lo i
  low : ∀ i, lo ≤ i → i < hi → 1 ≤ dAt d i ∧ dAt d i ≤ 64
theorem NodeOk.agree {x : Ex} {d d' : List Int} {lo lo' i : Nat} (h : NodeOk x d lo i) (hl : lo' ≤ lo) (hi : lo ≤ i) (hd : ∀ k, lo ≤ k → k ≤ i → dAt d' k = dAt d k) : NodeOk x d' lo' i := by
  rcases h with ⟨h1, h2⟩ | ⟨h1, a, h2, h3, h4, h5⟩ | ⟨h1, a, b, h2, h3, h4, h5, h6, h7, h8⟩
  · exact .inl ⟨h1, (hd i hi (Nat.le_refl _)).trans h2⟩
  · exact .inr (.inl ⟨h1, a, h2, by omega, h4, by rw [hd i hi (Nat.le_refl _), hd a h3 (by omega)]; exact h5⟩)
  · exact .inr (.inr ⟨h1, a, b, h2, h3, by omega, h5, by omega, h7, by rw [hd i hi (Nat.le_refl _), hd a h4 (by omega), hd b h6 (by omega)]; exact h8⟩)
theorem NodeOk.move {x : Ex} {d d' : List Int} {lo lo' i i' : Nat} {by_ : Int} (h : NodeOk x d lo i) (hi : lo ≤ i) (hii : (i' : Int) = i + by_) (hl : (lo' : Int) ≤ lo + by_) (hi' : i < 1000000) (hbd : -1000000 ≤ by_ ∧ by_ ≤ 1000000)
    (hd : ∀ k k' : Nat, lo ≤ k → k ≤ i → (k' : Int) = k + by_ → dAt d' k' = dAt d k) : NodeOk (shiftX by_ x) d' lo' i' := by
  have hsh : ∀ a : Nat, lo ≤ a → a < i → IntKind.i64.wrap ((a : Int) + by_) = ((a + by_).toNat : Nat) := fun a h1 h2 => i64_of (by omega) (by omega) (by omega)
  rcases h with ⟨h1, h2⟩ | ⟨h1, a, h2, h3, h4, h5⟩ | ⟨h1, a, b, h2, h3, h4, h5, h6, h7, h8⟩
  · refine .inl ⟨?_, (hd i i' hi (Nat.le_refl _) hii).trans h2⟩
    unfold shiftX
    rw [if_pos (by omega)]
    exact h1
  · refine .inr (.inl ?_)
    unfold shiftX
    rw [if_neg (by omega), if_neg (by omega)]
    refine ⟨h1, ((a : Int) + by_).toNat, ?_, by omega, by omega, ?_⟩
    · show IntKind.i64.wrap (x.a + by_) = _
      rw [h2]; exact hsh a h3 h4
    · rw [hd i i' hi (Nat.le_refl _) hii, hd a ((a : Int) + by_).toNat h3 (by omega) (by omega)]; exact h5
  · refine .inr (.inr ?_)
    unfold shiftX
    rw [if_neg (by omega), if_pos (by omega)]
    refine ⟨h1, ((a : Int) + by_).toNat, ((b : Int) + by_).toNat, ?_, ?_, by omega, by omega, by omega, by omega, ?_⟩
    · show IntKind.i64.wrap (x.a + by_) = _
      rw [h2]; exact hsh a h4 h5
    · show IntKind.i64.wrap (x.b + by_) = _
      rw [h3]; exact hsh b h6 h7
    · rw [hd i i' hi (Nat.le_refl _) hii, hd a ((a : Int) + by_).toNat h4 (by omega) (by omega), hd b ((b : Int) + by_).toNat h6 (by omega) (by omega)]; exact h8
/-- What was there is there, at the same place. -/
structure Pre (s s' : St) : Prop where
  o : ∃ l, s'.o = s.o ++ l
  d : ∃ l, s'.d = s.d ++ l
theorem Pre.trans {a b c : St} (h : Pre a b) (k : Pre b c) : Pre a c := by
  obtain ⟨⟨l1, h1⟩, ⟨l2, h2⟩⟩ := h
  obtain ⟨⟨m1, k1⟩, ⟨m2, k2⟩⟩ := k
  exact ⟨⟨l1 ++ m1, by rw [k1, h1, List.append_assoc]⟩, ⟨l2 ++ m2, by rw [k2, h2, List.append_assoc]⟩⟩
theorem exAt_left {o l : List Ex} {i : Nat} (h : i < o.length) : exAt (o ++ l) i = exAt o i := by simp [exAt, List.getD, List.getElem?_append_left h]
theorem dAt_left {o l : List Int} {i : Nat} (h : i < o.length) : dAt (o ++ l) i = dAt o i := by simp [dAt, List.getD, List.getElem?_append_left h]
theorem exAt_right {o l : List Ex} {i : Nat} (h : o.length ≤ i) : exAt (o ++ l) i = exAt l (i - o.length) := by simp [exAt, List.getD, List.getElem?_append_right h]
theorem dAt_right {o l : List Int} {i : Nat} (h : o.length ≤ i) : dAt (o ++ l) i = dAt l (i - o.length) := by simp [dAt, List.getD, List.getElem?_append_right h]
theorem exAt_drop (o : List Ex) (m i : Nat) : exAt (o.drop m) i = exAt o (m + i) := by simp [exAt, List.getD]
theorem dAt_drop (o : List Int) (m i : Nat) : dAt (o.drop m) i = dAt o (m + i) := by simp [dAt, List.getD]
theorem exAt_take {o : List Ex} {m i : Nat} (h : i < m) : exAt (o.take m) i = exAt o i := by simp [exAt, List.getD, List.getElem?_take, h]
theorem dAt_take {o : List Int} {m i : Nat} (h : i < m) : dAt (o.take m) i = dAt o i := by simp [dAt, List.getD, List.getElem?_take, h]
theorem exAt_map {o : List Ex} {by_ : Int} {i : Nat} (h : i < o.length) : exAt (o.map (shiftX by_)) i = shiftX by_ (exAt o i) := by simp [exAt, List.getD, h]
/-- What a step of the reading leaves: a tree behind what was there. -/
structure Grown (s s' : St) : Prop where
  pre : Pre s s'
  tidy : Tidy s'.o s'.d s.o.length s'.o.length
theorem Tidy.left {o l : List Ex} {d m : List Int} {lo hi : Nat} (h : Tidy o d lo hi) (h1 : hi ≤ o.length) (h2 : hi ≤ d.length) {lo' : Nat} (hl : lo' ≤ lo) : ∀ i, lo ≤ i → i < hi → NodeOk (exAt (o ++ l) i) (d ++ m) lo' i ∧ 1 ≤ dAt (d ++ m) i ∧ dAt (d ++ m) i ≤ 64 := fun i hi1 hi2 => by
  rw [exAt_left (by omega), dAt_left (by omega)]
  exact ⟨(h.node i hi1 hi2).agree hl hi1 fun k _ hk => dAt_left (by omega), h.low i hi1 hi2⟩
theorem deepF_one {d : List Int} {a : Nat} (h : 1 ≤ dAt d a ∧ dAt d a ≤ 64) : deepF d [(a : Int)] 1 = dAt d a + 1 := by
  show (if IntKind.i64.wrap (d.getD ((a : Int)).toNat 0 + 1) > 1 then IntKind.i64.wrap (d.getD ((a : Int)).toNat 0 + 1) else 1) = _
  have e : IntKind.i64.wrap (d.getD ((a : Int)).toNat 0 + 1) = dAt d a + 1 := i64_of rfl (by unfold dAt at *; omega) (by unfold dAt at *; omega)
  rw [e, if_pos (by omega)]
theorem deepF_two {d : List Int} {a b : Nat} (h : 1 ≤ dAt d a ∧ dAt d a ≤ 64) (k : 1 ≤ dAt d b ∧ dAt d b ≤ 64) : deepF d [(a : Int), (b : Int)] 1 = (if dAt d b > dAt d a then dAt d b else dAt d a) + 1 := by
  have e : ∀ a : Nat, (1 ≤ dAt d a ∧ dAt d a ≤ 64) → IntKind.i64.wrap (d.getD ((a : Int)).toNat 0 + 1) = dAt d a + 1 := fun a h => i64_of rfl (by unfold dAt at *; omega) (by unfold dAt at *; omega)
  simp only [deepF]
  rw [e a h, e b k]
  rw [if_pos (show dAt d a + 1 > 1 by omega)]
  split <;> split <;> omega
/-- A node more. -/
theorem Grown.push {s s1 s' : St} {t : Tok} {x : Ex} {u : List Int} (hp : Pre s s1) (hd : s1.d.length = s1.o.length) (hl : s.o.length ≤ s1.o.length) (ht : ∀ i, s.o.length ≤ i → i < s1.o.length → NodeOk (exAt s1.o i) s1.d s.o.length i ∧ 1 ≤ dAt s1.d i ∧ dAt s1.d i ≤ 64)
    (hx : (u = [] ∧ (x.op = 1 ∨ x.op = 17)) ∨ (∃ a : Nat, u = [(a : Int)] ∧ x.a = a ∧ (x.op = 4 ∨ x.op = 5) ∧ s.o.length ≤ a ∧ a < s1.o.length) ∨ (∃ a b : Nat, u = [(a : Int), (b : Int)] ∧ x.a = a ∧ x.b = b ∧ (6 ≤ x.op ∧ x.op ≤ 16) ∧ s.o.length ≤ a ∧ a < s1.o.length ∧ s.o.length ≤ b ∧ b < s1.o.length))
    (h : nodeF t x u s1 = .ok s') : Grown s s' := by
  obtain ⟨rfl, h64⟩ := nodeF_ok h
  have hnew : ∀ y : Ex, exAt (s1.o ++ [y]) s1.o.length = y := fun y => by rw [exAt_right (Nat.le_refl _)]; simp [exAt]
  have hdn : dAt (s1.d ++ [deepF s1.d u 1]) s1.o.length = deepF s1.d u 1 := by rw [dAt_right (by omega)]; simp [dAt, hd]
  have hdl : ∀ k, k < s1.o.length → dAt (s1.d ++ [deepF s1.d u 1]) k = dAt s1.d k := fun k hk => dAt_left (by omega)
  have key : NodeOk { x with ln := t.2.2.1, cl := t.2.2.2 } (s1.d ++ [deepF s1.d u 1]) s.o.length s1.o.length ∧ 1 ≤ deepF s1.d u 1 := by
    rcases hx with ⟨rfl, h1⟩ | ⟨a, rfl, h1, h2, h3, h4⟩ | ⟨a, b, rfl, h1, h2, h3, h4, h5, h6, h7⟩
    · exact ⟨.inl ⟨h1, hdn⟩, by simp [deepF]⟩
    · have e := deepF_one (ht a h3 h4).2
      have := (ht a h3 h4).2.1
      exact ⟨.inr (.inl ⟨h2, a, h1, h3, h4, by rw [hdn, hdl a h4]; exact e⟩), by omega⟩
    · have e := deepF_two (ht a h4 h5).2 (ht b h6 h7).2
      have := (ht a h4 h5).2.1
      have := (ht b h6 h7).2.1
      exact ⟨.inr (.inr ⟨h3, a, b, h1, h2, h4, h5, h6, h7, by rw [hdn, hdl a h5, hdl b h7]; exact e⟩), by rw [e]; split <;> omega⟩
  refine ⟨?_, ⟨fun i h1 h2 => ?_, fun i h1 h2 => ?_⟩⟩
  · obtain ⟨⟨l1, k1⟩, ⟨l2, k2⟩⟩ := hp
    exact ⟨⟨l1 ++ [_], by rw [← List.append_assoc, ← k1]⟩, ⟨l2 ++ [_], by rw [← List.append_assoc, ← k2]⟩⟩
  · simp only [List.length_append, List.length_cons, List.length_nil] at h2
    by_cases hi : i = s1.o.length
    · subst hi
      show NodeOk (exAt (s1.o ++ [_]) s1.o.length) _ _ _
      rw [hnew]; exact key.1
    · show NodeOk (exAt (s1.o ++ [_]) i) _ _ _
      rw [exAt_left (by omega)]
      exact ((ht i h1 (by omega)).1).agree (Nat.le_refl _) h1 fun k _ hk => hdl k (by omega)
  · simp only [List.length_append, List.length_cons, List.length_nil] at h2
    show 1 ≤ dAt (s1.d ++ [_]) i ∧ dAt (s1.d ++ [_]) i ≤ 64
    by_cases hi : i = s1.o.length
    · subst hi
      rw [hdn]; exact ⟨key.2, h64⟩
    · rw [hdl i (by omega)]; exact (ht i h1 (by omega)).2
/-- Two expressions, one behind the other. -/
theorem Grown.two {s s1 s2 : St} (h : Grown s s1) (k : Grown s1 s2) (hl : s.o.length ≤ s1.o.length) (h1 : s1.d.length = s1.o.length) : ∀ i, s.o.length ≤ i → i < s2.o.length → NodeOk (exAt s2.o i) s2.d s.o.length i ∧ 1 ≤ dAt s2.d i ∧ dAt s2.d i ≤ 64 := fun i hi1 hi2 => by
  obtain ⟨⟨l1, e1⟩, ⟨l2, e2⟩⟩ := k.pre
  by_cases hi : i < s1.o.length
  · have := h.tidy.left (l := l1) (m := l2) (Nat.le_refl _) (by omega) (Nat.le_refl _) i hi1 hi
    rw [← e1, ← e2] at this
    exact this
  · exact ⟨(k.tidy.node i (by omega) hi2).agree hl (by omega) fun _ _ _ => rfl, k.tidy.low i (by omega) hi2⟩
/-- Two expressions that change places. -/
theorem turn_two {s s1 s2 : St} (h : Grown s s1) (k : Grown s1 s2) (hl : s.o.length ≤ s1.o.length) (hl2 : s1.o.length ≤ s2.o.length) (hd : s.d.length = s.o.length) (hd1 : s1.d.length = s1.o.length) (hd2 : s2.d.length = s2.o.length) (hm : s2.o.length < 1000000) :
    Pre s (turnF s2 s.o.length s1.o.length) ∧ ∀ i, s.o.length ≤ i → i < s2.o.length → NodeOk (exAt (turnF s2 s.o.length s1.o.length).o i) (turnF s2 s.o.length s1.o.length).d s.o.length i ∧ 1 ≤ dAt (turnF s2 s.o.length s1.o.length).d i ∧ dAt (turnF s2 s.o.length s1.o.length).d i ≤ 64 := by
  have hpre := h.pre.trans k.pre
  obtain ⟨⟨l1, e1⟩, ⟨l2, e2⟩⟩ := hpre
  obtain ⟨⟨m1, f1⟩, ⟨m2, f2⟩⟩ := k.pre
  have t1 : s2.o.take s.o.length = s.o := by rw [e1]; simp
  have t2 : s2.d.take s.o.length = s.d := by rw [e2, ← hd]; simp
  generalize hF : s.o.length = f at *
  generalize hM : s1.o.length = m at *
  generalize hN : s2.o.length = n at *
  have ho : (turnF s2 f m).o = s.o ++ ((s2.o.drop m).map (shiftX (-((m - f : Nat) : Int))) ++ ((s2.o.take m).drop f).map (shiftX ((n - m : Nat) : Int))) := by
    unfold turnF
    dsimp only
    rw [t1, hN, List.append_assoc]
  have hdd : (turnF s2 f m).d = s.d ++ (s2.d.drop m ++ (s2.d.take m).drop f) := by
    unfold turnF
    dsimp only
    rw [t2, List.append_assoc]
  have hL1 : (s2.o.drop m).length = n - m := by rw [List.length_drop, hN]
  have hL2 : (s2.d.drop m).length = n - m := by rw [List.length_drop, hd2]
  -- the depths
  have dA : ∀ i, f ≤ i → i < f + (n - m) → dAt (turnF s2 f m).d i = dAt s2.d (i + (m - f)) := fun i h1 h2 => by
    rw [hdd, dAt_right (by omega), dAt_left (by omega), dAt_drop]
    congr 1; omega
  have dB : ∀ i, f + (n - m) ≤ i → i < n → dAt (turnF s2 f m).d i = dAt s2.d (i - (n - m)) := fun i h1 h2 => by
    rw [hdd, dAt_right (by omega), dAt_right (by omega), dAt_drop, dAt_take (by omega)]
    congr 1; omega
  refine ⟨⟨⟨_, ho⟩, ⟨_, hdd⟩⟩, fun i h1 h2 => ?_⟩
  by_cases hi : i < f + (n - m)
  · have hx : exAt (turnF s2 f m).o i = shiftX (-((m - f : Nat) : Int)) (exAt s2.o (i + (m - f))) := by
      rw [ho, exAt_right (by omega), exAt_left (by rw [List.length_map, hL1]; omega), exAt_map (by omega), exAt_drop]
      congr 2; omega
    have hn := k.tidy.node (i + (m - f)) (by omega) (by omega)
    have hw := k.tidy.low (i + (m - f)) (by omega) (by omega)
    rw [hM] at hn
    refine ⟨?_, by rw [dA i h1 hi]; exact hw⟩
    rw [hx]
    refine hn.move (by omega) (by omega) (by omega) (by omega) (by omega) fun q q' h3 h4 h5 => ?_
    rw [dA q' (by omega) (by omega)]
    congr 1; omega
  · have hx : exAt (turnF s2 f m).o i = shiftX ((n - m : Nat) : Int) (exAt s2.o (i - (n - m))) := by
      rw [ho, exAt_right (by omega), exAt_right (by rw [List.length_map, hL1]; omega), List.length_map, hL1, exAt_map (by rw [List.length_drop, List.length_take, hN]; omega), exAt_drop, exAt_take (by omega)]
      congr 2; omega
    have hq := h.tidy.left (l := m1) (m := m2) (Nat.le_refl _) (by omega) (Nat.le_refl _) (i - (n - m)) (by omega) (by omega)
    rw [← f1, ← f2, hF] at hq
    refine ⟨?_, by rw [dB i (by omega) h2]; exact hq.2⟩
    rw [hx]
    refine hq.1.move (by omega) (by omega) (by omega) (by omega) (by omega) fun q q' h3 h4 h5 => ?_
    rw [dB q' (by omega) (by omega)]
    congr 1; omega
def Tree (F : St → Res St) (s : St) : Prop := ∀ s', F s = .ok s' → Grown s s'
theorem Grown.at_ {s s' : St} (a : Nat) (k : Int) (h : Grown { s with a := a, k := k } s') : Grown s s' := ⟨⟨h.pre.o, h.pre.d⟩, h.tidy⟩
theorem Grown.to {s s' : St} (a : Nat) (k : Int) (h : Grown s s') : Grown s { s' with a := a, k := k } := ⟨⟨h.pre.o, h.pre.d⟩, h.tidy⟩
theorem inside_tree {L : List Tok} {F : St → Res St} {s : St} (hF : s.k ≠ 128 → Tree F (opened s)) : Tree (insideF L F) s := by
  intro s' h
  unfold insideF at h
  split at h
  · cases h
  · rename_i hk
    split at h
    · cases h
    · rename_i s1 h1
      injection h with h
      subst h
      exact (Grown.at_ _ _ (hF hk s1 h1)).to _ _
theorem before_tree {L : List Tok} {F : St → Res St} {op : Int} {s : St} (hop : op = 4 ∨ op = 5) (hs : Okay L s) (ha : s.a < L.length) (hG : s.k ≠ 128 → Good L F (opened s)) (hF : s.k ≠ 128 → Tree F (opened s)) : Tree (beforeF L op F) s := by
  intro s' h
  unfold beforeF at h
  split at h
  · cases h
  · rename_i s1 h1
    obtain ⟨g1, g2, _⟩ := inside_good hs ha hG s1 h1
    have ht := inside_tree hF s1 h1
    have := g2.o
    exact Grown.push ht.pre g1.hd (by omega) (fun i h1 h2 => ⟨ht.tidy.node i h1 h2, ht.tidy.low i h1 h2⟩) (.inr (.inl ⟨s1.o.length - 1, by congr 1; omega, by show (s1.o.length : Int) - 1 = _; omega, hop, by omega, by omega⟩)) h
theorem mapA_mem {x : List UInt8} : ∀ {m : List (List UInt8 × Int)}, mapA x m ≠ 0 → ∃ y ∈ m, y.2 = mapA x m
  | [], h => absurd rfl h
  | y :: m, h => by
    unfold mapA at h ⊢
    split
    · exact ⟨y, List.mem_cons_self, rfl⟩
    · rename_i hn
      rw [if_neg hn] at h
      obtain ⟨z, h1, h2⟩ := mapA_mem h
      exact ⟨z, List.mem_cons_of_mem _ h1, h2⟩
theorem nextF_mem {L : List Tok} {a : Nat} {m : List (List UInt8 × Int)} (h : nextF L a m ≠ 0) : ∃ y ∈ m, y.2 = nextF L a m := by
  unfold nextF at h ⊢
  split
  · rename_i h1
    rw [if_pos h1] at h
    exact mapA_mem h
  · rename_i h1
    rw [if_neg h1] at h
    exact absurd rfl h
theorem chainL_tree {L : List Tok} {m : List (List UInt8 × Int)} {F : St → Res St} (hm : ∀ y ∈ m, 6 ≤ y.2 ∧ y.2 ≤ 16) : ∀ {n : Nat} {s s1 : St}, Okay L s → Grew s s1 → Grown s s1 → Okay L s1 → (∀ q : St, Okay L q → s.a ≤ q.a → Good L F q ∧ Tree F q) → ∀ s', chainL L m F n s1 = .ok s' → Grown s s'
  | 0, s, s1, hs, hg, ht, h1, hF, s', h => by
    injection h with h; subst h; exact ht
  | n + 1, s, s1, hs, hg, ht, h1, hF, s', h => by
    unfold chainL at h
    split at h
    · injection h with h; subst h; exact ht
    · rename_i hne
      have hlt := nextF_lt hne
      obtain ⟨y, hy1, hy2⟩ := nextF_mem hne
      have hop := hm y hy1
      rw [hy2] at hop
      have q1 := hg.a
      have q2 := hg.o
      have q3 := hg.l
      have q4 := hg.k
      split at h
      · cases h
      · rename_i s2 h2
        have hok : Okay L { s1 with a := s1.a + 1 } := ⟨by simp only; omega, by simp only; have := h1.ho; omega, h1.hd, h1.hk⟩
        obtain ⟨g1, g2⟩ := (hF { s1 with a := s1.a + 1 } hok (by simp only; omega)).1 s2 h2
        have g3 := Grown.at_ (s := s1) _ _ ((hF { s1 with a := s1.a + 1 } hok (by simp only; omega)).2 s2 h2)
        have e1 := g2.a
        have e2 := g2.l
        have e3 := g2.o
        have e4 := g2.k
        simp only at e1 e2 e3 e4
        split at h
        · cases h
        · rename_i s3 h3
          obtain ⟨k1, k2⟩ := node_good (s := s) (by omega) g1.ha (by omega) (by omega) g1.hd (by omega) hs h3
          have k3 := Grown.push (s := s) (ht.pre.trans g3.pre) g1.hd (by omega) (ht.two g3 (by omega) h1.hd) (.inr (.inr ⟨s1.o.length - 1, s2.o.length - 1, two_eq (by omega) (by omega), by show (s1.o.length : Int) - 1 = _; omega, by show (s2.o.length : Int) - 1 = _; omega, hop, by omega, by omega, by omega, by omega⟩)) h3
          exact chainL_tree hm hs k2 k3 k1 hF s' h
theorem chain_tree {L : List Tok} {m : List (List UInt8 × Int)} {F : St → Res St} {s : St} (hm : ∀ y ∈ m, 6 ≤ y.2 ∧ y.2 ≤ 16) (hs : Okay L s) (hF : ∀ q : St, Okay L q → s.a ≤ q.a → Good L F q ∧ Tree F q) : Tree (chainF L m F) s := by
  intro s' h
  unfold chainF at h
  split at h
  · cases h
  · rename_i s1 h1
    obtain ⟨g1, g2⟩ := (hF s hs (Nat.le_refl _)).1 s1 h1
    exact chainL_tree hm hs g2 ((hF s hs (Nat.le_refl _)).2 s1 h1) g1 hF s' h
theorem comp_tree {L : List Tok} {F : St → Res St} {s : St} (hL : L.length ≤ 90000) (hs : Okay L s) (hF : ∀ q : St, Okay L q → s.a ≤ q.a → Good L F q ∧ Tree F q) : Tree (compF L F) s := by
  intro s' h
  unfold compF at h
  split at h
  · cases h
  · rename_i s1 h1
    obtain ⟨g1, g2⟩ := (hF s hs (Nat.le_refl _)).1 s1 h1
    have g3 := (hF s hs (Nat.le_refl _)).2 s1 h1
    split at h
    · injection h with h; subst h; exact g3
    · rename_i hne
      have hlt := nextF_lt hne
      obtain ⟨y, hy1, hy2⟩ := nextF_mem hne
      have hop : (13 ≤ nextF L s1.a cmpM ∧ nextF L s1.a cmpM ≤ 16) ∨ (-16 ≤ nextF L s1.a cmpM ∧ nextF L s1.a cmpM ≤ -15) := by
        rw [← hy2]
        simp only [cmpM, List.mem_cons, List.not_mem_nil, or_false] at hy1
        rcases hy1 with rfl | rfl | rfl | rfl | rfl | rfl <;> simp
      split at h
      · cases h
      · rename_i s2 h2
        have f1 := g2.a
        have f2 := g2.l
        have f3 := g2.o
        have f4 := g2.k
        have hok : Okay L { s1 with a := s1.a + 1 } := ⟨by simp only; omega, by simp only; have := g1.ho; omega, g1.hd, g1.hk⟩
        obtain ⟨k1, k2⟩ := (hF _ hok (by simp only; omega)).1 s2 h2
        have k3 := Grown.at_ (s := s1) _ _ ((hF _ hok (by simp only; omega)).2 s2 h2)
        have e1 := k2.a
        have e2 := k2.l
        have e3 := k2.o
        have e4 := k2.k
        have e5 := k1.ho
        have e6 := k1.ha
        simp only at e1 e2 e3 e4
        split at h
        · rename_i hneg
          obtain ⟨t1, t2⟩ := turn_len (s := s2) (f := s.o.length) (m := s1.o.length) (by omega) (by omega) k1.hd
          obtain ⟨p1, p2⟩ := turn_two g3 k3 (by omega) (by omega) hs.hd g1.hd k1.hd (by omega)
          exact Grown.push (s := s) p1 (by rw [t1, t2]; exact k1.hd) (by omega) (by rw [t1]; exact p2) (.inr (.inr ⟨s.o.length + (s2.o.length - s1.o.length) - 1, s2.o.length - 1, two_eq (by omega) (by omega), by show ((s.o.length + (s2.o.length - s1.o.length) : Nat) : Int) - 1 = _; omega, by show (s2.o.length : Int) - 1 = _; omega, by show 6 ≤ -(nextF L s1.a cmpM) ∧ -(nextF L s1.a cmpM) ≤ 16; omega, by omega, by omega, by omega, by omega⟩)) h
        · rename_i hneg
          exact Grown.push (s := s) (g3.pre.trans k3.pre) k1.hd (by omega) (g3.two k3 (by omega) g1.hd) (.inr (.inr ⟨s1.o.length - 1, s2.o.length - 1, two_eq (by omega) (by omega), by show (s1.o.length : Int) - 1 = _; omega, by show (s2.o.length : Int) - 1 = _; omega, by show 6 ≤ nextF L s1.a cmpM ∧ nextF L s1.a cmpM ≤ 16; omega, by omega, by omega, by omega, by omega⟩)) h
theorem unary_tree {L : List Tok} {E U : St → Res St} {s : St} (hs : Okay L s) (hE : s.a < L.length → s.k ≠ 128 → Tree E (opened s)) (hG : s.a < L.length → s.k ≠ 128 → Good L U (opened s)) (hU : s.a < L.length → s.k ≠ 128 → Tree U (opened s)) : Tree (unaryF L E U) s := by
  intro s' h
  unfold unaryF at h
  split at h
  · rename_i h0
    have hlt := isF_lt h0
    refine inside_tree (fun hk => fun q hq => ?_) s' h
    split at hq
    · cases hq
    · rename_i q1 hq1
      have := hE hlt hk q1 hq1
      unfold wantF at hq
      split at hq
      · injection hq with hq; subst hq
        exact this.to _ _
      · cases hq
  · split at h
    · rename_i h1
      exact Grown.push (s := s) (s1 := { s with a := s.a + 1 }) ⟨⟨[], by simp⟩, ⟨[], by simp⟩⟩ hs.hd (Nat.le_refl _) (fun i h1 h2 => absurd h2 (by simp only; omega)) (.inl ⟨rfl, .inr rfl⟩) h
    · split at h
      · rename_i h2
        have hlt := isF_lt h2.1
        exact before_tree (.inr rfl) hs hlt (hG hlt) (hU hlt) s' h
      · split at h
        · cases h
        · rename_i v a' hv
          exact Grown.push (s := s) (s1 := { s with a := a' }) ⟨⟨[], by simp⟩, ⟨[], by simp⟩⟩ hs.hd (Nat.le_refl _) (fun i h1 h2 => absurd h2 (by simp only; omega)) (.inl ⟨rfl, .inl rfl⟩) h
theorem ev_tree {L : List Tok} (hL : L.length ≤ 90000) : ∀ (f lv : Nat) (s : St), lv ≤ 6 → Okay L s → Enough L lv f s → Tree (ev L f lv) s
  | 0, _, _, _, _, h => absurd h (Nat.not_lt_zero _)
  | f + 1, lv, s, hl, hs, he => by
    have up : ∀ l2, lv < l2 → l2 ≤ 6 → ∀ q : St, Okay L q → s.a ≤ q.a → Good L (ev L f l2) q ∧ Tree (ev L f l2) q := fun l2 h1 h2 q hq ha => ⟨ev_good f l2 q h2 hq (by unfold Enough at *; omega), ev_tree hL f l2 q h2 hq (by unfold Enough at *; omega)⟩
    have en : ∀ l2, l2 ≤ 6 → (l2 = 0 → lv = 6) → (l2 ≠ 0 → l2 = lv) → s.a < L.length → Enough L l2 f (opened s) := fun l2 h1 h2 h3 ha => by
      unfold Enough at *
      simp only [opened]
      by_cases h0 : l2 = 0
      · have := h2 h0; omega
      · have := h3 h0; omega
    rcases lv with _ | _ | _ | _ | _ | _ | _ | lv
    · exact chain_tree (by simp [orM]) hs (up 1 (by omega) (by omega))
    · exact chain_tree (by simp [andM]) hs (up 2 (by omega) (by omega))
    · intro s' h
      replace h : (if isF L s.a [110, 111, 116] = true then beforeF L 4 (ev L f 2) s else ev L f 3 s) = .ok s' := h
      split at h
      · rename_i h0
        have hlt := isF_lt h0
        have hen := en 2 (by omega) (by omega) (by omega) hlt
        exact before_tree (.inl rfl) hs hlt (fun hk => ev_good f 2 _ (by omega) (opened_okay hs hlt hk) hen) (fun hk => ev_tree hL f 2 _ (by omega) (opened_okay hs hlt hk) hen) s' h
      · exact (up 3 (by omega) (by omega) s hs (Nat.le_refl _)).2 s' h
    · exact comp_tree hL hs (up 4 (by omega) (by omega))
    · exact chain_tree (by simp [sumM]) hs (up 5 (by omega) (by omega))
    · exact chain_tree (by simp [prodM]) hs (up 6 (by omega) (by omega))
    · exact unary_tree hs (fun ha hk => ev_tree hL f 0 _ (by omega) (opened_okay hs ha hk) (en 0 (by omega) (by omega) (by omega) ha)) (fun ha hk => ev_good f 6 _ (by omega) (opened_okay hs ha hk) (en 6 (by omega) (by omega) (by omega) ha)) (fun ha hk => ev_tree hL f 6 _ (by omega) (opened_okay hs ha hk) (en 6 (by omega) (by omega) (by omega) ha))
    · omega
end Go.Proofs.YthpnfflkkmpejaaGreatDoor.Pa
namespace Go.Proofs.YthpnfflkkmpejaaGreatDoor.Pa
open Go Go.Ab Go.RowKit Go.Proofs.YthpnfflkkmpejaaGreatDoor.Lx
variable {Γ : Nat → AV}
attribute [local irreducible] APure Sto.set Sto.grow
set_option maxRecDepth 10000
set_option maxHeartbeats 1000000
/-- The document's place: how far, what is wrong, where, how much is open. -/
structure Pl where
  a : Int
  e : Int
  ln : Int
  cl : Int
  k : Int
def plA (p : Pl) : List AV := [.int .i64 p.a, .int .i64 p.e, .int .i64 p.ln, .int .i64 p.cl, .int .i64 p.k]
/-- A place at which nothing is wrong. -/
def alv (a : Nat) (k : Int) : Pl := ⟨a, 0, 0, 0, k⟩
/-- A place at which something is wrong. -/
def stopP (L : List Tok) (a : Nat) (k e : Int) : Pl := ⟨a, e, (peekF L a).2.2.1, (peekF L a).2.2.2, k⟩
theorem rSkip_ok (p : Pl) : APure Tryz.prog Γ 17 [.agg (plA p)] fun v => v = .agg (plA { p with a := IntKind.i64.wrap (p.a + 1) }) := by
  obtain ⟨a, e, ln, cl, k⟩ := p
  simp only [plA]
  refine APure.of_awp Tryz.func17 rfl (Nat.le_of_ble_eq_true (by kernel_rfl)) (by kernel_rfl) ?_
  intro s
  conv => whnf
  intro b1 hb1
  have k_b1 := hb1
  repeat replace k_b1 := none_of_set k_b1
  conv => whnf
  intro b2 hb2
  have k_b2 := hb2
  repeat replace k_b2 := none_of_set k_b2
  have n_b1_b2 : b1 ≠ b2 := by (have k := hb2; repeat (first | exact ne_set k | replace k := none_of_set k))
  have n_b2_b1 := n_b1_b2.symm
  conv => whnf
  repeat' ((first | (exfalso; first | omega | exact (by assumption : ¬ True) trivial | fail) | refine ⟨Sub.refl _, ?_⟩ | (refine brA_split (fun h => ?_) (fun h => ?_) <;> (try rw [h]) <;> (try simp only [bS, ↓reduceIte] at h)) | refine getB_a ?_ | refine getB_same ?_ | refine AWp.anyA ?_ | refine and_a ?_ | fail) <;> (conv => whnf))
  exact ⟨suba, rfl⟩
theorem rSkip_alv {a : Nat} (ha : a ≤ 1000000) (k : Int) : APure Tryz.prog Γ 17 [.agg (plA (alv a k))] fun v => v = .agg (plA (alv (a + 1) k)) := by
  have h := rSkip_ok (Γ := Γ) (alv a k)
  rwa [show ({ alv a k with a := IntKind.i64.wrap ((alv a k).a + 1) } : Pl) = alv (a + 1) k by unfold alv; simp only [Pl.mk.injEq, and_true]; exact i64_of (by omega) (by omega) (by omega)] at h
theorem rShut_ok (p : Pl) : APure Tryz.prog Γ 49 [.agg (plA p)] fun v => v = .agg (plA { p with k := IntKind.i64.wrap (p.k - 1) }) := by
  obtain ⟨a, e, ln, cl, k⟩ := p
  simp only [plA]
  refine APure.of_awp Tryz.func49 rfl (Nat.le_of_ble_eq_true (by kernel_rfl)) (by kernel_rfl) ?_
  intro s
  conv => whnf
  intro b1 hb1
  have k_b1 := hb1
  repeat replace k_b1 := none_of_set k_b1
  conv => whnf
  intro b2 hb2
  have k_b2 := hb2
  repeat replace k_b2 := none_of_set k_b2
  have n_b1_b2 : b1 ≠ b2 := by (have k := hb2; repeat (first | exact ne_set k | replace k := none_of_set k))
  have n_b2_b1 := n_b1_b2.symm
  conv => whnf
  repeat' ((first | (exfalso; first | omega | exact (by assumption : ¬ True) trivial | fail) | refine ⟨Sub.refl _, ?_⟩ | (refine brA_split (fun h => ?_) (fun h => ?_) <;> (try rw [h]) <;> (try simp only [bS, ↓reduceIte] at h)) | refine getB_a ?_ | refine getB_same ?_ | refine AWp.anyA ?_ | refine and_a ?_ | fail) <;> (conv => whnf))
  exact ⟨suba, rfl⟩
theorem rStop_dead (L : List Tok) {p : Pl} (hp : p.e ≠ 0) (tk : Nat) (e : Int) : APure Tryz.prog Γ 69 [.slice tk (toksA L), .agg (plA p), .int .i64 e] fun v => v = .agg (plA p) := by
  obtain ⟨a, e0, ln, cl, k⟩ := p
  simp only at hp
  simp only [plA]
  refine APure.of_awp Tryz.func69 rfl (Nat.le_of_ble_eq_true (by kernel_rfl)) (by kernel_rfl) ?_
  intro s
  conv => whnf
  intro b1 hb1
  have k_b1 := hb1
  repeat replace k_b1 := none_of_set k_b1
  conv => whnf
  intro b2 hb2
  have k_b2 := hb2
  repeat replace k_b2 := none_of_set k_b2
  have n_b1_b2 : b1 ≠ b2 := by (have k := hb2; repeat (first | exact ne_set k | replace k := none_of_set k))
  have n_b2_b1 := n_b1_b2.symm
  conv => whnf
  repeat' ((first | (exfalso; first | omega | exact (by assumption : ¬ True) trivial | fail) | refine ⟨Sub.refl _, ?_⟩ | (refine brA_split (fun h => ?_) (fun h => ?_) <;> (try rw [h]) <;> (try simp only [bS, ↓reduceIte] at h)) | refine getB_a ?_ | refine getB_same ?_ | refine AWp.anyA ?_ | refine and_a ?_ | fail) <;> (conv => whnf))
  exact ⟨suba, rfl⟩
theorem rStop_ok (L : List Tok) (hL : L.length ≤ 1000000) {a : Nat} (ha : a ≤ 1000000) (k : Int) (tk : Nat) (e : Int) : APure Tryz.prog Γ 69 [.slice tk (toksA L), .agg (plA (alv a k)), .int .i64 e] fun v => v = .agg (plA (stopP L a k e)) := by
  have htl := toksA_len L
  simp only [plA, alv, stopP]
  by_cases h0 : L.length = 0
  · have hw : IntKind.i64.wrap (((toksA L).length : Int) - 1) = -1 := i64_of (by omega) (by omega) (by omega)
    rw [peekF, if_neg (by omega), if_pos h0]
    refine APure.of_awp Tryz.func69 rfl (Nat.le_of_ble_eq_true (by kernel_rfl)) (by kernel_rfl) ?_
    intro s
    conv => whnf
    intro b1 hb1
    have k_b1 := hb1
    repeat replace k_b1 := none_of_set k_b1
    conv => whnf
    intro b2 hb2
    have k_b2 := hb2
    repeat replace k_b2 := none_of_set k_b2
    have n_b1_b2 : b1 ≠ b2 := by (have k := hb2; repeat (first | exact ne_set k | replace k := none_of_set k))
    have n_b2_b1 := n_b1_b2.symm
    conv => whnf
    repeat' ((first | (exfalso; first | omega | exact (by assumption : ¬ True) trivial | fail) | refine ⟨Sub.refl _, ?_⟩ | (refine brA_split (fun h => ?_) (fun h => ?_) <;> (try rw [h]) <;> (try simp only [bS, ↓reduceIte] at h)) | refine getB_a ?_ | (rw [hw]) | refine getB_same ?_ | refine AWp.anyA ?_ | refine and_a ?_ | fail) <;> (conv => whnf))
    exact ⟨suba, rfl⟩
  · have hw : IntKind.i64.wrap (((toksA L).length : Int) - 1) = ((L.length - 1 : Nat) : Int) := i64_of (by omega) (by omega) (by omega)
    obtain ⟨m, hm⟩ : ∃ m : Nat, m = if a < L.length then a else L.length - 1 := ⟨_, rfl⟩
    have hmin : (if ((L.length - 1 : Nat) : Int) < (a : Int) then ((L.length - 1 : Nat) : Int) else (a : Int)) = (m : Int) := by rw [hm]; split <;> split <;> omega
    have hpk : (peekF L a).2.2 = (L.getD m noTok).2.2 := by
      rw [peekF, hm]; split
      · rfl
      · rfl
    have hg := toksA_at (l := L) (i := m) (by rw [hm]; split <;> omega)
    rw [hpk]
    generalize L.getD m noTok = z at *
    obtain ⟨z1, z2, z3, z4⟩ := z
    simp only [tokA] at hg
    simp only
    have hml : m < L.length := by rw [hm]; split <;> omega
    refine APure.of_awp Tryz.func69 rfl (Nat.le_of_ble_eq_true (by kernel_rfl)) (by kernel_rfl) ?_
    intro s
    conv => whnf
    intro b1 hb1
    have k_b1 := hb1
    repeat replace k_b1 := none_of_set k_b1
    conv => whnf
    intro b2 hb2
    have k_b2 := hb2
    repeat replace k_b2 := none_of_set k_b2
    have n_b1_b2 : b1 ≠ b2 := by (have k := hb2; repeat (first | exact ne_set k | replace k := none_of_set k))
    have n_b2_b1 := n_b1_b2.symm
    conv => whnf
    repeat' ((first | (exfalso; first | omega | exact (by assumption : ¬ True) trivial | fail) | refine ⟨Sub.refl _, ?_⟩ | (refine brA_split (fun h => ?_) (fun h => ?_) <;> (try rw [h]) <;> (try simp only [bS, ↓reduceIte] at h)) | refine getB_a ?_ | (rw [hw, hmin]) | (rw [show (toksA L).getD ((m : Int)).toNat [] = _ from hg]) | refine getB_same ?_ | refine AWp.anyA ?_ | refine and_a ?_ | fail) <;> (conv => whnf))
    all_goals first | exact ⟨suba, rfl⟩ | fail
theorem rIs_dead (L : List Tok) {p : Pl} (hp : p.e ≠ 0) (tk : Nat) (w : List UInt8) : APure Tryz.prog Γ 16 [.slice tk (toksA L), .agg (plA p), .str w] fun v => v = .bool false := by
  obtain ⟨a, e0, ln, cl, k⟩ := p
  simp only at hp
  simp only [plA]
  refine APure.of_awp Tryz.func16 rfl (Nat.le_of_ble_eq_true (by kernel_rfl)) (by kernel_rfl) ?_
  intro s
  conv => whnf
  intro b1 hb1
  have k_b1 := hb1
  repeat replace k_b1 := none_of_set k_b1
  conv => whnf
  repeat' ((first | (exfalso; first | omega | exact (by assumption : ¬ True) trivial | fail) | refine ⟨Sub.refl _, ?_⟩ | (refine brA_split (fun h => ?_) (fun h => ?_) <;> (try rw [h]) <;> (try simp only [bS, ↓reduceIte] at h)) | refine getB_a ?_ | refine getB_same ?_ | refine AWp.anyA ?_ | refine and_a ?_ | fail) <;> (conv => whnf))
  all_goals first | exact ⟨suba, rfl⟩ | fail
theorem rIs_ok (L : List Tok) (hL : L.length ≤ 1000000) {a : Nat} (ha : a ≤ 1000000) (k : Int) (tk : Nat) (w : List UInt8) : APure Tryz.prog Γ 16 [.slice tk (toksA L), .agg (plA (alv a k)), .str w] fun v => v = .bool (isF L a w) := by
  have htl := toksA_len L
  simp only [plA, alv]
  have hg := fun h : a < L.length => toksA_at h
  have hpk : isF L a w = (decide (a < L.length) && ((decide ((L.getD a noTok).1 = 2) || decide ((L.getD a noTok).1 = 5)) && decide ((L.getD a noTok).2.1 = w))) := by
    unfold isF signK peekF
    by_cases h : a < L.length
    · simp only [if_pos h]; simp [h]
    · rw [decide_eq_false h]
      by_cases h0 : L.length = 0
      · simp only [if_neg h, if_pos h0]; rfl
      · simp only [if_neg h, if_neg h0]; rfl
  rw [hpk]
  generalize L.getD a noTok = z at *
  obtain ⟨z1, z2, z3, z4⟩ := z
  simp only [tokA] at hg
  simp only
  refine APure.of_awp Tryz.func16 rfl (Nat.le_of_ble_eq_true (by kernel_rfl)) (by kernel_rfl) ?_
  intro s
  conv => whnf
  intro b1 hb1
  have k_b1 := hb1
  repeat replace k_b1 := none_of_set k_b1
  conv => whnf
  repeat' ((first | (exfalso; first | omega | exact (by assumption : ¬ True) trivial | fail) | refine ⟨Sub.refl _, ?_⟩ | (refine brA_split (fun h => ?_) (fun h => ?_) <;> (try rw [h]) <;> (try simp only [bS, ↓reduceIte] at h)) | refine getB_a ?_ | (rw [show (toksA L).getD ((a : Int)).toNat [] = _ from hg (by omega)]) | refine getB_same ?_ | refine AWp.anyA ?_ | refine and_a ?_ | fail) <;> (conv => whnf))
  all_goals (refine ⟨suba, ?_⟩; refine congrArg AV.bool ?_; first | (rw [decide_eq_true (show a < L.length by omega)]; simp_all; done) | (rw [decide_eq_false (show ¬ a < L.length by omega)]; simp_all; done) | fail)
theorem rWant_dead (L : List Tok) {p : Pl} (hp : p.e ≠ 0) (tk : Nat) (w : List UInt8) : APure Tryz.prog Γ 132 [.slice tk (toksA L), .agg (plA p), .str w] fun v => v = .agg (plA p) := by
  have h1 := rIs_dead (Γ := Γ) L hp tk w
  have h2 := rStop_dead (Γ := Γ) L hp tk 16
  obtain ⟨a, e0, ln, cl, k⟩ := p
  simp only at hp
  simp only [plA] at *
  refine APure.of_awp Tryz.func132 rfl (Nat.le_of_ble_eq_true (by kernel_rfl)) (by kernel_rfl) ?_
  intro s
  conv => whnf
  intro b1 hb1
  have k_b1 := hb1
  repeat replace k_b1 := none_of_set k_b1
  conv => whnf
  intro b2 hb2
  have k_b2 := hb2
  repeat replace k_b2 := none_of_set k_b2
  have n_b1_b2 : b1 ≠ b2 := by (have k := hb2; repeat (first | exact ne_set k | replace k := none_of_set k))
  have n_b2_b1 := n_b1_b2.symm
  conv => whnf
  repeat' ((first | (exfalso; first | omega | exact (by assumption : ¬ True) trivial | fail) | refine ⟨Sub.refl _, ?_⟩ | (refine brA_split (fun h => ?_) (fun h => ?_) <;> (try rw [h]) <;> (try simp only [bS, ↓reduceIte] at h)) | refine getB_a ?_ | (refine ACalls.pure' ?_ (h1); rintro _ rfl) | refine DCall.pure ?_ (h1) | (refine ACalls.pure' ?_ (h2); rintro _ rfl) | refine DCall.pure ?_ (h2) | refine getB_same ?_ | refine AWp.anyA ?_ | refine and_a ?_ | fail) <;> (conv => whnf))
  all_goals first | exact ⟨suba, rfl⟩ | fail
theorem rWant_ok (L : List Tok) (hL : L.length ≤ 1000000) {a : Nat} (ha : a ≤ 100000) (k : Int) (tk : Nat) (w : List UInt8) : APure Tryz.prog Γ 132 [.slice tk (toksA L), .agg (plA (alv a k)), .str w] fun v => v = .agg (plA (if isF L a w = true then alv (a + 1) k else stopP L a k 16)) := by
  have h1 := rIs_ok (Γ := Γ) L hL (a := a) (by omega) k tk w
  have h2 := rStop_ok (Γ := Γ) L hL (a := a) (by omega) k tk 16
  have h3 := rSkip_alv (Γ := Γ) (a := a) (by omega) k
  generalize isF L a w = z at *
  cases z
  · rw [if_neg (by decide)]
    simp only [plA, alv, stopP] at *
    refine APure.of_awp Tryz.func132 rfl (Nat.le_of_ble_eq_true (by kernel_rfl)) (by kernel_rfl) ?_
    intro s
    conv => whnf
    intro b1 hb1
    have k_b1 := hb1
    repeat replace k_b1 := none_of_set k_b1
    conv => whnf
    intro b2 hb2
    have k_b2 := hb2
    repeat replace k_b2 := none_of_set k_b2
    have n_b1_b2 : b1 ≠ b2 := by (have k := hb2; repeat (first | exact ne_set k | replace k := none_of_set k))
    have n_b2_b1 := n_b1_b2.symm
    conv => whnf
    repeat' ((first | (exfalso; first | omega | exact (by assumption : ¬ True) trivial | fail) | refine ⟨Sub.refl _, ?_⟩ | (refine brA_split (fun h => ?_) (fun h => ?_) <;> (try rw [h]) <;> (try simp only [bS, ↓reduceIte] at h)) | refine getB_a ?_ | (refine ACalls.pure' ?_ (h1); rintro _ rfl) | refine DCall.pure ?_ (h1) | (refine ACalls.pure' ?_ (h2); rintro _ rfl) | refine DCall.pure ?_ (h2) | refine getB_same ?_ | refine AWp.anyA ?_ | refine and_a ?_ | fail) <;> (conv => whnf))
    all_goals first | exact ⟨suba, rfl⟩ | fail
  · rw [if_pos rfl]
    simp only [plA, alv, stopP] at *
    refine APure.of_awp Tryz.func132 rfl (Nat.le_of_ble_eq_true (by kernel_rfl)) (by kernel_rfl) ?_
    intro s
    conv => whnf
    intro b1 hb1
    have k_b1 := hb1
    repeat replace k_b1 := none_of_set k_b1
    conv => whnf
    intro b2 hb2
    have k_b2 := hb2
    repeat replace k_b2 := none_of_set k_b2
    have n_b1_b2 : b1 ≠ b2 := by (have k := hb2; repeat (first | exact ne_set k | replace k := none_of_set k))
    have n_b2_b1 := n_b1_b2.symm
    conv => whnf
    repeat' ((first | (exfalso; first | omega | exact (by assumption : ¬ True) trivial | fail) | refine ⟨Sub.refl _, ?_⟩ | (refine brA_split (fun h => ?_) (fun h => ?_) <;> (try rw [h]) <;> (try simp only [bS, ↓reduceIte] at h)) | refine getB_a ?_ | (refine ACalls.pure' ?_ (h1); rintro _ rfl) | refine DCall.pure ?_ (h1) | (refine ACalls.pure' ?_ (h3); rintro _ rfl) | refine DCall.pure ?_ (h3) | refine getB_same ?_ | refine AWp.anyA ?_ | refine and_a ?_ | fail) <;> (conv => whnf))
    all_goals first | exact ⟨suba, rfl⟩ | fail
theorem rOpen_ok (L : List Tok) (hL : L.length ≤ 1000000) {a : Nat} (ha : a ≤ 100000) {k : Int} (hk : 0 ≤ k ∧ k ≤ 128) (tk : Nat) : APure Tryz.prog Γ 48 [.slice tk (toksA L), .agg (plA (alv a k))] fun v => v = .agg (plA (if k = 128 then stopP L a k 13 else alv (a + 1) (k + 1))) := by
  have h2 := rStop_ok (Γ := Γ) L hL (a := a) (by omega) k tk 13
  have h3 := rSkip_alv (Γ := Γ) (a := a) (by omega) k
  have hw : IntKind.i64.wrap (k + 1) = k + 1 := i64_of rfl (by omega) (by omega)
  by_cases h : k = 128
  · rw [if_pos h]
    simp only [plA, alv, stopP] at *
    refine APure.of_awp Tryz.func48 rfl (Nat.le_of_ble_eq_true (by kernel_rfl)) (by kernel_rfl) ?_
    intro s
    conv => whnf
    intro b1 hb1
    have k_b1 := hb1
    repeat replace k_b1 := none_of_set k_b1
    conv => whnf
    intro b2 hb2
    have k_b2 := hb2
    repeat replace k_b2 := none_of_set k_b2
    have n_b1_b2 : b1 ≠ b2 := by (have k := hb2; repeat (first | exact ne_set k | replace k := none_of_set k))
    have n_b2_b1 := n_b1_b2.symm
    conv => whnf
    repeat' ((first | (exfalso; first | omega | exact (by assumption : ¬ True) trivial | fail) | refine ⟨Sub.refl _, ?_⟩ | (refine brA_split (fun h => ?_) (fun h => ?_) <;> (try rw [h]) <;> (try simp only [bS, ↓reduceIte] at h)) | refine getB_a ?_ | (refine ACalls.pure' ?_ (h2); rintro _ rfl) | refine DCall.pure ?_ (h2) | refine getB_same ?_ | refine AWp.anyA ?_ | refine and_a ?_ | fail) <;> (conv => whnf))
    all_goals first | exact ⟨suba, rfl⟩ | fail
  · rw [if_neg h]
    simp only [plA, alv, stopP] at *
    refine APure.of_awp Tryz.func48 rfl (Nat.le_of_ble_eq_true (by kernel_rfl)) (by kernel_rfl) ?_
    intro s
    conv => whnf
    intro b1 hb1
    have k_b1 := hb1
    repeat replace k_b1 := none_of_set k_b1
    conv => whnf
    intro b2 hb2
    have k_b2 := hb2
    repeat replace k_b2 := none_of_set k_b2
    have n_b1_b2 : b1 ≠ b2 := by (have k := hb2; repeat (first | exact ne_set k | replace k := none_of_set k))
    have n_b2_b1 := n_b1_b2.symm
    conv => whnf
    repeat' ((first | (exfalso; first | omega | exact (by assumption : ¬ True) trivial | fail) | refine ⟨Sub.refl _, ?_⟩ | (refine brA_split (fun h => ?_) (fun h => ?_) <;> (try rw [h]) <;> (try simp only [bS, ↓reduceIte] at h)) | refine getB_a ?_ | (refine ACalls.pure' ?_ (h3); rintro _ rfl) | refine DCall.pure ?_ (h3) | (rw [hw]) | refine getB_same ?_ | refine AWp.anyA ?_ | refine and_a ?_ | fail) <;> (conv => whnf))
    all_goals first | exact ⟨suba, rfl⟩ | fail
end Go.Proofs.YthpnfflkkmpejaaGreatDoor.Pa
namespace Go.Proofs.YthpnfflkkmpejaaGreatDoor.Pa
open Go Go.Ab Go.RowKit Go.Proofs.YthpnfflkkmpejaaGreatDoor.Lx
variable {Γ : Nat → AV}
attribute [local irreducible] APure Sto.set Sto.grow
set_option maxRecDepth 10000
set_option maxHeartbeats 2000000
theorem isF_kind {L : List Tok} {a : Nat} {w : List UInt8} (h : isF L a w = true) : ((peekF L a).1 = 2 ∨ (peekF L a).1 = 5) ∧ (peekF L a).2.1 = w := by
  unfold isF signK at h
  simpa using h
theorem peekF_in {L : List Tok} {a : Nat} (h : a < L.length) : peekF L a = L.getD a noTok := by unfold peekF; rw [if_pos h]
theorem peekF_out {L : List Tok} {a : Nat} (h : ¬ a < L.length) : (peekF L a).1 = 0 := by unfold peekF; rw [if_neg h]; split <;> rfl
theorem isF_no {L : List Tok} {a : Nat} {w : List UInt8} (h : (peekF L a).1 ≠ 2 ∧ (peekF L a).1 ≠ 5) : isF L a w = false := by
  cases hx : isF L a w
  · rfl
  · exact absurd (isF_kind hx).1 (fun hh => hh.elim h.1 h.2)
theorem isF_ne {L : List Tok} {a : Nat} {w v : List UInt8} (h : isF L a w = true) (hne : w ≠ v) : isF L a v = false := by
  cases hx : isF L a v
  · rfl
  · exact absurd ((isF_kind h).2.symm.trans (isF_kind hx).2) hne
/-- All numbers of a text's tokens are spelt as numbers. -/
def Nums (L : List Tok) : Prop := ∀ i, (L.getD i noTok).1 = 3 → 0 < (L.getD i noTok).2.1.length ∧ (L.getD i noTok).2.1.length ≤ 5000 ∧ (L.getD i noTok).2.1.all Nu.isD = true ∧ ¬ (byteAt (L.getD i noTok).2.1 0 = 48 ∧ 1 < (L.getD i noTok).2.1.length)
def signL (m : Bool) (g : List UInt8) : List UInt8 := (if m = true ∧ g ≠ [48] then [45] else []) ++ g
theorem num_err {L : List Tok} (hN : Nums L) {i : Nat} (h : (L.getD i noTok).1 = 3) (m : Bool) : Nu.numE (signL m (L.getD i noTok).2.1) = 0 ∨ Nu.numE (signL m (L.getD i noTok).2.1) = 5 := by
  obtain ⟨h0, h1, h2, h3⟩ := hN i h
  generalize (L.getD i noTok).2.1 = g at *
  have hf : Nu.formB (signL m g) = true := by
    rw [Nu.form_eq]
    unfold signL
    split
    · rename_i hm
      have e45 : byteAt ([45] ++ g) 0 = 45 := rfl
      have hfr : Nu.from_ ([45] ++ g) = 1 := by unfold Nu.from_; rw [e45]; rfl
      rw [hfr]
      have hd : ([45] ++ g).drop 1 = g := rfl
      have hb : byteAt ([45] ++ g) 1 = byteAt g 0 := rfl
      rw [hd, hb, h2]
      have h48 : ¬ byteAt g 0 = 48 := fun h48 => by
        by_cases hl : 1 < g.length
        · exact h3 ⟨h48, hl⟩
        · have : g.length = 1 := by omega
          obtain ⟨c, rfl⟩ := List.length_eq_one_iff.1 this
          exact hm.2 (by rw [show c = 48 from h48])
      have : ¬ (byteAt g 0).toNat = 48 := fun hh => h48 (UInt8.toNat_inj.1 hh)
      have e1 : decide (([45] ++ g).length ≤ 1) = false := decide_eq_false (by simp only [List.length_append, List.length_cons, List.length_nil]; omega)
      rw [e1, decide_eq_false this]
      rfl
    · rw [List.nil_append]
      have h45 : ¬ byteAt g 0 = 45 := by
        cases g with
        | nil => simp at h0
        | cons c g =>
          intro h45
          have h45 : c = 45 := h45
          subst h45
          simp only [List.all_cons, Bool.and_eq_true] at h2
          exact absurd h2.1 (by decide)
      have hfr : Nu.from_ g = 0 := by unfold Nu.from_; rw [if_neg h45]
      rw [hfr, List.drop_zero, h2]
      have : ¬ ((byteAt g 0).toNat = 48 ∧ 1 < g.length) := fun hh => h3 ⟨UInt8.toNat_inj.1 hh.1, hh.2⟩
      have h5 : (decide ((byteAt g 0).toNat = 48) && decide (1 < g.length)) = false := by
        cases hx : (decide ((byteAt g 0).toNat = 48) && decide (1 < g.length))
        · rfl
        · exact absurd (by simpa using hx) this
      rw [h5, decide_eq_false (show ¬ g.length ≤ 0 by omega)]
      rfl
  unfold Nu.numE
  rw [if_pos hf]
  have hs := Nu.no_syntax hf
  revert hs
  generalize Lib.parseIntB 64 _ = e
  intro hs
  cases e
  · exact .inl rfl
  · exact absurd rfl hs
  · exact .inr rfl
/-- What the document reads as a value. -/
def rValA (L : List Tok) (a : Nat) (k : Int) : AV :=
  match valueF L a with
  | .ok x => .tuple [.agg (vlA x.1), .agg (plA (alv x.2 k)), .bool true]
  | .error x => if numbF L a = true then .tuple [.agg (vlA (0, 0, [], false)), .agg (plA ⟨((if isF L a [45] = true then a + 1 else a : Nat) : Int), 5, x.2.1, x.2.2, k⟩), .bool true] else .tuple [.agg (vlA (0, 0, [], false)), .agg (plA (alv a k)), .bool false]
theorem rValA_none {L : List Tok} {a : Nat} {k : Int} (h1 : numbF L a = false) (h2 : (peekF L a).1 ≠ 4) (h3 : isF L a [116, 114, 117, 101] = false) (h4 : isF L a [102, 97, 108, 115, 101] = false) : rValA L a k = .tuple [.agg (vlA (0, 0, [], false)), .agg (plA (alv a k)), .bool false] := by
  unfold rValA valueF failF
  rw [h1, if_neg (by decide), if_neg h2, h3, if_neg (by decide), h4, if_neg (by decide)]
  rfl
theorem rValue_dead (L : List Tok) {p : Pl} (hp : p.e ≠ 0) (tk : Nat) : APure Tryz.prog Γ 122 [.slice tk (toksA L), .agg (plA p)] fun v => v = .tuple [.agg (vlA (0, 0, [], false)), .agg (plA p), .bool false] := by
  obtain ⟨a, e0, ln, cl, k⟩ := p
  simp only at hp
  simp only [plA, vlA]
  refine APure.of_awp Tryz.func122 rfl (Nat.le_of_ble_eq_true (by kernel_rfl)) (by kernel_rfl) ?_
  intro s
  conv => whnf
  intro b3 hb3
  have k_b3 := hb3
  repeat replace k_b3 := none_of_set k_b3
  conv => whnf
  intro b4 hb4
  have k_b4 := hb4
  repeat replace k_b4 := none_of_set k_b4
  have n_b3_b4 : b3 ≠ b4 := by (have k := hb4; repeat (first | exact ne_set k | replace k := none_of_set k))
  have n_b4_b3 := n_b3_b4.symm
  conv => whnf
  intro b5 hb5
  have k_b5 := hb5
  repeat replace k_b5 := none_of_set k_b5
  have n_b3_b5 : b3 ≠ b5 := by (have k := hb5; repeat (first | exact ne_set k | replace k := none_of_set k))
  have n_b5_b3 := n_b3_b5.symm
  have n_b4_b5 : b4 ≠ b5 := by (have k := hb5; repeat (first | exact ne_set k | replace k := none_of_set k))
  have n_b5_b4 := n_b4_b5.symm
  conv => whnf
  repeat' ((first | refine ⟨Sub.refl _, ?_⟩ | (refine brA_split (fun h => ?_) (fun h => ?_) <;> (try rw [h]) <;> (try simp only [bS, ↓reduceIte] at h) <;> (first | (exfalso; first | contradiction | omega | exact (by assumption : ¬ True) trivial | fail) | skip)) | refine getB_a ?_ | refine getB_same ?_ | refine AWp.anyA ?_ | refine and_a ?_ | fail) <;> (conv => whnf))
  intro b7 hb7
  have k_b7 := hb7
  repeat replace k_b7 := none_of_set k_b7
  have n_b3_b7 : b3 ≠ b7 := by (have k := hb7; repeat (first | exact ne_set k | replace k := none_of_set k))
  have n_b7_b3 := n_b3_b7.symm
  have n_b4_b7 : b4 ≠ b7 := by (have k := hb7; repeat (first | exact ne_set k | replace k := none_of_set k))
  have n_b7_b4 := n_b4_b7.symm
  have n_b5_b7 : b5 ≠ b7 := by (have k := hb7; repeat (first | exact ne_set k | replace k := none_of_set k))
  have n_b7_b5 := n_b5_b7.symm
  conv => whnf
  repeat' ((first | refine ⟨Sub.refl _, ?_⟩ | (refine brA_split (fun h => ?_) (fun h => ?_) <;> (try rw [h]) <;> (try simp only [bS, ↓reduceIte] at h) <;> (first | (exfalso; first | contradiction | omega | exact (by assumption : ¬ True) trivial | fail) | skip)) | refine getB_a ?_ | (refine AWp.anyP (id := 3) [(3, true), (4, false)] (fun k => cond k b3 b4) [0, 1, 2, 3, 4] n_b3_b4 (by kernel_rfl) (by kernel_rfl) (by kernel_rfl) (by kernel_rfl) ?_) | (refine ⟨(by first | exact trivial | exact ⟨_, rfl, rfl⟩), ?_⟩) | refine getB_same ?_ | refine AWp.anyA ?_ | refine and_a ?_ | fail) <;> (conv => whnf))
  all_goals first | exact ⟨suba, rfl⟩ | fail
section
variable {L : List Tok} {a : Nat} {k : Int} {tk : Nat} {z1 z3 z4 : Int} {z2 : List UInt8}
theorem rv_end (htl : (toksA L).length = L.length) (hlt : ¬ a < L.length) :
    APure Tryz.prog Γ 122 [.slice tk (toksA L), .agg (plA (alv a k))] fun v => v = .tuple [.agg (vlA (0, 0, [], false)), .agg (plA (alv a k)), .bool false] := by
  simp only [plA, alv, vlA]
  refine APure.of_awp Tryz.func122 rfl (Nat.le_of_ble_eq_true (by kernel_rfl)) (by kernel_rfl) ?_
  intro s
  conv => whnf
  intro b3 hb3
  have k_b3 := hb3
  repeat replace k_b3 := none_of_set k_b3
  conv => whnf
  intro b4 hb4
  have k_b4 := hb4
  repeat replace k_b4 := none_of_set k_b4
  have n_b3_b4 : b3 ≠ b4 := by (have k := hb4; repeat (first | exact ne_set k | replace k := none_of_set k))
  have n_b4_b3 := n_b3_b4.symm
  conv => whnf
  intro b5 hb5
  have k_b5 := hb5
  repeat replace k_b5 := none_of_set k_b5
  have n_b3_b5 : b3 ≠ b5 := by (have k := hb5; repeat (first | exact ne_set k | replace k := none_of_set k))
  have n_b5_b3 := n_b3_b5.symm
  have n_b4_b5 : b4 ≠ b5 := by (have k := hb5; repeat (first | exact ne_set k | replace k := none_of_set k))
  have n_b5_b4 := n_b4_b5.symm
  conv => whnf
  repeat' ((first | refine ⟨Sub.refl _, ?_⟩ | (refine brA_split (fun h => ?_) (fun h => ?_) <;> (try rw [h]) <;> (try simp only [bS, ↓reduceIte] at h) <;> (first | (exfalso; first | contradiction | omega | exact (by assumption : ¬ True) trivial | fail) | skip)) | refine getB_a ?_ | refine getB_same ?_ | refine AWp.anyA ?_ | refine and_a ?_ | fail) <;> (conv => whnf))
  intro b7 hb7
  have k_b7 := hb7
  repeat replace k_b7 := none_of_set k_b7
  have n_b3_b7 : b3 ≠ b7 := by (have k := hb7; repeat (first | exact ne_set k | replace k := none_of_set k))
  have n_b7_b3 := n_b3_b7.symm
  have n_b4_b7 : b4 ≠ b7 := by (have k := hb7; repeat (first | exact ne_set k | replace k := none_of_set k))
  have n_b7_b4 := n_b4_b7.symm
  have n_b5_b7 : b5 ≠ b7 := by (have k := hb7; repeat (first | exact ne_set k | replace k := none_of_set k))
  have n_b7_b5 := n_b5_b7.symm
  conv => whnf
  repeat' ((first | refine ⟨Sub.refl _, ?_⟩ | (refine brA_split (fun h => ?_) (fun h => ?_) <;> (try rw [h]) <;> (try simp only [bN, bS, ↓reduceIte] at h) <;> (first | (exfalso; first | contradiction | omega | exact (by assumption : ¬ True) trivial | fail) | skip)) | refine getB_a ?_ | (refine AWp.anyP (id := 3) [(3, true), (4, false)] (fun k => cond k b3 b4) [0, 1, 2, 3, 4] n_b3_b4 (by kernel_rfl) (by kernel_rfl) (by kernel_rfl) (by kernel_rfl) ?_) | (refine ⟨(by first | exact trivial | exact ⟨_, rfl, rfl⟩), ?_⟩) | refine getB_same ?_ | refine AWp.anyA ?_ | refine and_a ?_ | fail) <;> (conv => whnf))
  all_goals first | exact ⟨suba, rfl⟩ | fail
theorem rv_quoted (htl : (toksA L).length = L.length) (hlt : a < L.length) (hg : (toksA L).getD a [] = [.int .i64 4, .str z2, .int .i64 z3, .int .i64 z4])
    (hsk : APure Tryz.prog Γ 17 [.agg (plA (alv a k))] fun v => v = .agg (plA (alv (a + 1) k))) :
    APure Tryz.prog Γ 122 [.slice tk (toksA L), .agg (plA (alv a k))] fun v => v = .tuple [.agg (vlA (2, 0, z2, false)), .agg (plA (alv (a + 1) k)), .bool true] := by
  simp only [plA, alv, vlA] at *
  refine APure.of_awp Tryz.func122 rfl (Nat.le_of_ble_eq_true (by kernel_rfl)) (by kernel_rfl) ?_
  intro s
  conv => whnf
  intro b3 hb3
  have k_b3 := hb3
  repeat replace k_b3 := none_of_set k_b3
  conv => whnf
  intro b4 hb4
  have k_b4 := hb4
  repeat replace k_b4 := none_of_set k_b4
  have n_b3_b4 : b3 ≠ b4 := by (have k := hb4; repeat (first | exact ne_set k | replace k := none_of_set k))
  have n_b4_b3 := n_b3_b4.symm
  conv => whnf
  intro b5 hb5
  have k_b5 := hb5
  repeat replace k_b5 := none_of_set k_b5
  have n_b3_b5 : b3 ≠ b5 := by (have k := hb5; repeat (first | exact ne_set k | replace k := none_of_set k))
  have n_b5_b3 := n_b3_b5.symm
  have n_b4_b5 : b4 ≠ b5 := by (have k := hb5; repeat (first | exact ne_set k | replace k := none_of_set k))
  have n_b5_b4 := n_b4_b5.symm
  conv => whnf
  repeat' ((first | refine ⟨Sub.refl _, ?_⟩ | (refine brA_split (fun h => ?_) (fun h => ?_) <;> (try rw [h]) <;> (try simp only [bS, ↓reduceIte] at h) <;> (first | (exfalso; first | contradiction | omega | exact (by assumption : ¬ True) trivial | fail) | skip)) | refine getB_a ?_ | refine getB_same ?_ | refine AWp.anyA ?_ | refine and_a ?_ | fail) <;> (conv => whnf))
  intro b7 hb7
  have k_b7 := hb7
  repeat replace k_b7 := none_of_set k_b7
  have n_b3_b7 : b3 ≠ b7 := by (have k := hb7; repeat (first | exact ne_set k | replace k := none_of_set k))
  have n_b7_b3 := n_b3_b7.symm
  have n_b4_b7 : b4 ≠ b7 := by (have k := hb7; repeat (first | exact ne_set k | replace k := none_of_set k))
  have n_b7_b4 := n_b4_b7.symm
  have n_b5_b7 : b5 ≠ b7 := by (have k := hb7; repeat (first | exact ne_set k | replace k := none_of_set k))
  have n_b7_b5 := n_b5_b7.symm
  conv => whnf
  repeat' ((first | refine ⟨Sub.refl _, ?_⟩ | (refine brA_split (fun h => ?_) (fun h => ?_) <;> (try rw [h]) <;> (try simp only [bN, bS, ↓reduceIte] at h) <;> (first | (exfalso; first | contradiction | omega | exact (by assumption : ¬ True) trivial | fail) | skip)) | refine getB_a ?_ | refine ⟨len_of (hg) rfl, Go.Ab.frcL_of (hg) ?_⟩ | refine getB_same ?_ | refine AWp.anyA ?_ | refine and_a ?_ | fail) <;> (conv => whnf))
  intro b8 hb8
  have k_b8 := hb8
  repeat replace k_b8 := none_of_set k_b8
  have n_b3_b8 : b3 ≠ b8 := by (have k := hb8; repeat (first | exact ne_set k | replace k := none_of_set k))
  have n_b8_b3 := n_b3_b8.symm
  have n_b4_b8 : b4 ≠ b8 := by (have k := hb8; repeat (first | exact ne_set k | replace k := none_of_set k))
  have n_b8_b4 := n_b4_b8.symm
  have n_b5_b8 : b5 ≠ b8 := by (have k := hb8; repeat (first | exact ne_set k | replace k := none_of_set k))
  have n_b8_b5 := n_b5_b8.symm
  have n_b7_b8 : b7 ≠ b8 := by (have k := hb8; repeat (first | exact ne_set k | replace k := none_of_set k))
  have n_b8_b7 := n_b7_b8.symm
  conv => whnf
  repeat' ((first | refine ⟨Sub.refl _, ?_⟩ | (refine brA_split (fun h => ?_) (fun h => ?_) <;> (try rw [h]) <;> (try simp only [bN, bS, ↓reduceIte] at h) <;> (first | (exfalso; first | contradiction | omega | exact (by assumption : ¬ True) trivial | fail) | skip)) | refine getB_a ?_ | (refine ACalls.pure' ?_ (hsk); rintro _ rfl) | refine DCall.pure ?_ (hsk) | refine getB_same ?_ | refine AWp.anyA ?_ | refine and_a ?_ | fail) <;> (conv => whnf))
  all_goals first | exact ⟨suba, rfl⟩ | fail
theorem rv_bool {T F : Bool} (htl : (toksA L).length = L.length) (hlt : a < L.length) (hg : (toksA L).getD a [] = [.int .i64 z1, .str z2, .int .i64 z3, .int .i64 z4]) (h4 : z1 ≠ 4) (hTF : T = true ∨ F = true)
    (hT : APure Tryz.prog Γ 16 [.slice tk (toksA L), .agg (plA (alv a k)), .str [116, 114, 117, 101]] fun v => v = .bool T)
    (hF : APure Tryz.prog Γ 16 [.slice tk (toksA L), .agg (plA (alv a k)), .str [102, 97, 108, 115, 101]] fun v => v = .bool F)
    (hsk : APure Tryz.prog Γ 17 [.agg (plA (alv a k))] fun v => v = .agg (plA (alv (a + 1) k))) :
    APure Tryz.prog Γ 122 [.slice tk (toksA L), .agg (plA (alv a k))] fun v => v = .tuple [.agg (vlA (3, 0, [], decide (z2 = [116, 114, 117, 101]))), .agg (plA (alv (a + 1) k)), .bool true] := by
  simp only [plA, alv, vlA] at *
  cases T
  · obtain rfl : F = true := hTF.resolve_left (by decide)
    refine APure.of_awp Tryz.func122 rfl (Nat.le_of_ble_eq_true (by kernel_rfl)) (by kernel_rfl) ?_
    intro s
    conv => whnf
    intro b3 hb3
    have k_b3 := hb3
    repeat replace k_b3 := none_of_set k_b3
    conv => whnf
    intro b4 hb4
    have k_b4 := hb4
    repeat replace k_b4 := none_of_set k_b4
    have n_b3_b4 : b3 ≠ b4 := by (have k := hb4; repeat (first | exact ne_set k | replace k := none_of_set k))
    have n_b4_b3 := n_b3_b4.symm
    conv => whnf
    intro b5 hb5
    have k_b5 := hb5
    repeat replace k_b5 := none_of_set k_b5
    have n_b3_b5 : b3 ≠ b5 := by (have k := hb5; repeat (first | exact ne_set k | replace k := none_of_set k))
    have n_b5_b3 := n_b3_b5.symm
    have n_b4_b5 : b4 ≠ b5 := by (have k := hb5; repeat (first | exact ne_set k | replace k := none_of_set k))
    have n_b5_b4 := n_b4_b5.symm
    conv => whnf
    repeat' ((first | refine ⟨Sub.refl _, ?_⟩ | (refine brA_split (fun h => ?_) (fun h => ?_) <;> (try rw [h]) <;> (try simp only [bS, ↓reduceIte] at h) <;> (first | (exfalso; first | contradiction | omega | exact (by assumption : ¬ True) trivial | fail) | skip)) | refine getB_a ?_ | refine getB_same ?_ | refine AWp.anyA ?_ | refine and_a ?_ | fail) <;> (conv => whnf))
    intro b7 hb7
    have k_b7 := hb7
    repeat replace k_b7 := none_of_set k_b7
    have n_b3_b7 : b3 ≠ b7 := by (have k := hb7; repeat (first | exact ne_set k | replace k := none_of_set k))
    have n_b7_b3 := n_b3_b7.symm
    have n_b4_b7 : b4 ≠ b7 := by (have k := hb7; repeat (first | exact ne_set k | replace k := none_of_set k))
    have n_b7_b4 := n_b4_b7.symm
    have n_b5_b7 : b5 ≠ b7 := by (have k := hb7; repeat (first | exact ne_set k | replace k := none_of_set k))
    have n_b7_b5 := n_b5_b7.symm
    conv => whnf
    repeat' ((first | refine ⟨Sub.refl _, ?_⟩ | (refine brA_split (fun h => ?_) (fun h => ?_) <;> (try rw [h]) <;> (try simp only [bN, bS, ↓reduceIte] at h) <;> (first | (exfalso; first | contradiction | omega | exact (by assumption : ¬ True) trivial | fail) | skip)) | refine getB_a ?_ | refine ⟨len_of (hg) rfl, Go.Ab.frcL_of (hg) ?_⟩ | refine getB_same ?_ | refine AWp.anyA ?_ | refine and_a ?_ | fail) <;> (conv => whnf))
    intro b8 hb8
    have k_b8 := hb8
    repeat replace k_b8 := none_of_set k_b8
    have n_b3_b8 : b3 ≠ b8 := by (have k := hb8; repeat (first | exact ne_set k | replace k := none_of_set k))
    have n_b8_b3 := n_b3_b8.symm
    have n_b4_b8 : b4 ≠ b8 := by (have k := hb8; repeat (first | exact ne_set k | replace k := none_of_set k))
    have n_b8_b4 := n_b4_b8.symm
    have n_b5_b8 : b5 ≠ b8 := by (have k := hb8; repeat (first | exact ne_set k | replace k := none_of_set k))
    have n_b8_b5 := n_b5_b8.symm
    have n_b7_b8 : b7 ≠ b8 := by (have k := hb8; repeat (first | exact ne_set k | replace k := none_of_set k))
    have n_b8_b7 := n_b7_b8.symm
    conv => whnf
    repeat' ((first | refine ⟨Sub.refl _, ?_⟩ | (refine brA_split (fun h => ?_) (fun h => ?_) <;> (try rw [h]) <;> (try simp only [bN, bS, ↓reduceIte] at h) <;> (first | (exfalso; first | contradiction | omega | exact (by assumption : ¬ True) trivial | fail) | skip)) | refine getB_a ?_ | (refine ACalls.pure' ?_ (hT); rintro _ rfl) | refine DCall.pure ?_ (hT) | (refine ACalls.pure' ?_ (hF); rintro _ rfl) | refine DCall.pure ?_ (hF) | (refine ACalls.pure' ?_ (hsk); rintro _ rfl) | refine DCall.pure ?_ (hsk) | refine getB_same ?_ | refine AWp.anyA ?_ | refine and_a ?_ | fail) <;> (conv => whnf))
    all_goals first | exact ⟨suba, rfl⟩ | fail
  · refine APure.of_awp Tryz.func122 rfl (Nat.le_of_ble_eq_true (by kernel_rfl)) (by kernel_rfl) ?_
    intro s
    conv => whnf
    intro b3 hb3
    have k_b3 := hb3
    repeat replace k_b3 := none_of_set k_b3
    conv => whnf
    intro b4 hb4
    have k_b4 := hb4
    repeat replace k_b4 := none_of_set k_b4
    have n_b3_b4 : b3 ≠ b4 := by (have k := hb4; repeat (first | exact ne_set k | replace k := none_of_set k))
    have n_b4_b3 := n_b3_b4.symm
    conv => whnf
    intro b5 hb5
    have k_b5 := hb5
    repeat replace k_b5 := none_of_set k_b5
    have n_b3_b5 : b3 ≠ b5 := by (have k := hb5; repeat (first | exact ne_set k | replace k := none_of_set k))
    have n_b5_b3 := n_b3_b5.symm
    have n_b4_b5 : b4 ≠ b5 := by (have k := hb5; repeat (first | exact ne_set k | replace k := none_of_set k))
    have n_b5_b4 := n_b4_b5.symm
    conv => whnf
    repeat' ((first | refine ⟨Sub.refl _, ?_⟩ | (refine brA_split (fun h => ?_) (fun h => ?_) <;> (try rw [h]) <;> (try simp only [bS, ↓reduceIte] at h) <;> (first | (exfalso; first | contradiction | omega | exact (by assumption : ¬ True) trivial | fail) | skip)) | refine getB_a ?_ | refine getB_same ?_ | refine AWp.anyA ?_ | refine and_a ?_ | fail) <;> (conv => whnf))
    intro b7 hb7
    have k_b7 := hb7
    repeat replace k_b7 := none_of_set k_b7
    have n_b3_b7 : b3 ≠ b7 := by (have k := hb7; repeat (first | exact ne_set k | replace k := none_of_set k))
    have n_b7_b3 := n_b3_b7.symm
    have n_b4_b7 : b4 ≠ b7 := by (have k := hb7; repeat (first | exact ne_set k | replace k := none_of_set k))
    have n_b7_b4 := n_b4_b7.symm
    have n_b5_b7 : b5 ≠ b7 := by (have k := hb7; repeat (first | exact ne_set k | replace k := none_of_set k))
    have n_b7_b5 := n_b5_b7.symm
    conv => whnf
    repeat' ((first | refine ⟨Sub.refl _, ?_⟩ | (refine brA_split (fun h => ?_) (fun h => ?_) <;> (try rw [h]) <;> (try simp only [bN, bS, ↓reduceIte] at h) <;> (first | (exfalso; first | contradiction | omega | exact (by assumption : ¬ True) trivial | fail) | skip)) | refine getB_a ?_ | refine ⟨len_of (hg) rfl, Go.Ab.frcL_of (hg) ?_⟩ | refine getB_same ?_ | refine AWp.anyA ?_ | refine and_a ?_ | fail) <;> (conv => whnf))
    intro b8 hb8
    have k_b8 := hb8
    repeat replace k_b8 := none_of_set k_b8
    have n_b3_b8 : b3 ≠ b8 := by (have k := hb8; repeat (first | exact ne_set k | replace k := none_of_set k))
    have n_b8_b3 := n_b3_b8.symm
    have n_b4_b8 : b4 ≠ b8 := by (have k := hb8; repeat (first | exact ne_set k | replace k := none_of_set k))
    have n_b8_b4 := n_b4_b8.symm
    have n_b5_b8 : b5 ≠ b8 := by (have k := hb8; repeat (first | exact ne_set k | replace k := none_of_set k))
    have n_b8_b5 := n_b5_b8.symm
    have n_b7_b8 : b7 ≠ b8 := by (have k := hb8; repeat (first | exact ne_set k | replace k := none_of_set k))
    have n_b8_b7 := n_b7_b8.symm
    conv => whnf
    repeat' ((first | refine ⟨Sub.refl _, ?_⟩ | (refine brA_split (fun h => ?_) (fun h => ?_) <;> (try rw [h]) <;> (try simp only [bN, bS, ↓reduceIte] at h) <;> (first | (exfalso; first | contradiction | omega | exact (by assumption : ¬ True) trivial | fail) | skip)) | refine getB_a ?_ | (refine ACalls.pure' ?_ (hT); rintro _ rfl) | refine DCall.pure ?_ (hT) | (refine ACalls.pure' ?_ (hF); rintro _ rfl) | refine DCall.pure ?_ (hF) | (refine ACalls.pure' ?_ (hsk); rintro _ rfl) | refine DCall.pure ?_ (hsk) | refine getB_same ?_ | refine AWp.anyA ?_ | refine and_a ?_ | fail) <;> (conv => whnf))
    all_goals first | exact ⟨suba, rfl⟩ | fail
theorem rv_none0 (htl : (toksA L).length = L.length) (hlt : a < L.length) (hg : (toksA L).getD a [] = [.int .i64 z1, .str z2, .int .i64 z3, .int .i64 z4]) (h4 : z1 ≠ 4) (h3 : z1 ≠ 3)
    (hT : APure Tryz.prog Γ 16 [.slice tk (toksA L), .agg (plA (alv a k)), .str [116, 114, 117, 101]] fun v => v = .bool false)
    (hF : APure Tryz.prog Γ 16 [.slice tk (toksA L), .agg (plA (alv a k)), .str [102, 97, 108, 115, 101]] fun v => v = .bool false)
    (hM : APure Tryz.prog Γ 16 [.slice tk (toksA L), .agg (plA (alv a k)), .str [45]] fun v => v = .bool false)
    (hsk : APure Tryz.prog Γ 17 [.agg (plA (alv a k))] fun v => v = .agg (plA (alv (a + 1) k))) :
    APure Tryz.prog Γ 122 [.slice tk (toksA L), .agg (plA (alv a k))] fun v => v = .tuple [.agg (vlA (0, 0, [], false)), .agg (plA (alv a k)), .bool false] := by
  simp only [plA, alv, vlA] at *
  refine APure.of_awp Tryz.func122 rfl (Nat.le_of_ble_eq_true (by kernel_rfl)) (by kernel_rfl) ?_
  intro s
  conv => whnf
  intro b3 hb3
  have k_b3 := hb3
  repeat replace k_b3 := none_of_set k_b3
  conv => whnf
  intro b4 hb4
  have k_b4 := hb4
  repeat replace k_b4 := none_of_set k_b4
  have n_b3_b4 : b3 ≠ b4 := by (have k := hb4; repeat (first | exact ne_set k | replace k := none_of_set k))
  have n_b4_b3 := n_b3_b4.symm
  conv => whnf
  intro b5 hb5
  have k_b5 := hb5
  repeat replace k_b5 := none_of_set k_b5
  have n_b3_b5 : b3 ≠ b5 := by (have k := hb5; repeat (first | exact ne_set k | replace k := none_of_set k))
  have n_b5_b3 := n_b3_b5.symm
  have n_b4_b5 : b4 ≠ b5 := by (have k := hb5; repeat (first | exact ne_set k | replace k := none_of_set k))
  have n_b5_b4 := n_b4_b5.symm
  conv => whnf
  repeat' ((first | refine ⟨Sub.refl _, ?_⟩ | (refine brA_split (fun h => ?_) (fun h => ?_) <;> (try rw [h]) <;> (try simp only [bS, ↓reduceIte] at h) <;> (first | (exfalso; first | contradiction | omega | exact (by assumption : ¬ True) trivial | fail) | skip)) | refine getB_a ?_ | refine getB_same ?_ | refine AWp.anyA ?_ | refine and_a ?_ | fail) <;> (conv => whnf))
  intro b7 hb7
  have k_b7 := hb7
  repeat replace k_b7 := none_of_set k_b7
  have n_b3_b7 : b3 ≠ b7 := by (have k := hb7; repeat (first | exact ne_set k | replace k := none_of_set k))
  have n_b7_b3 := n_b3_b7.symm
  have n_b4_b7 : b4 ≠ b7 := by (have k := hb7; repeat (first | exact ne_set k | replace k := none_of_set k))
  have n_b7_b4 := n_b4_b7.symm
  have n_b5_b7 : b5 ≠ b7 := by (have k := hb7; repeat (first | exact ne_set k | replace k := none_of_set k))
  have n_b7_b5 := n_b5_b7.symm
  conv => whnf
  repeat' ((first | refine ⟨Sub.refl _, ?_⟩ | (refine brA_split (fun h => ?_) (fun h => ?_) <;> (try rw [h]) <;> (try simp only [bN, bS, ↓reduceIte] at h) <;> (first | (exfalso; first | contradiction | omega | exact (by assumption : ¬ True) trivial | fail) | skip)) | refine getB_a ?_ | refine ⟨len_of (hg) rfl, Go.Ab.frcL_of (hg) ?_⟩ | refine getB_same ?_ | refine AWp.anyA ?_ | refine and_a ?_ | fail) <;> (conv => whnf))
  intro b8 hb8
  have k_b8 := hb8
  repeat replace k_b8 := none_of_set k_b8
  have n_b3_b8 : b3 ≠ b8 := by (have k := hb8; repeat (first | exact ne_set k | replace k := none_of_set k))
  have n_b8_b3 := n_b3_b8.symm
  have n_b4_b8 : b4 ≠ b8 := by (have k := hb8; repeat (first | exact ne_set k | replace k := none_of_set k))
  have n_b8_b4 := n_b4_b8.symm
  have n_b5_b8 : b5 ≠ b8 := by (have k := hb8; repeat (first | exact ne_set k | replace k := none_of_set k))
  have n_b8_b5 := n_b5_b8.symm
  have n_b7_b8 : b7 ≠ b8 := by (have k := hb8; repeat (first | exact ne_set k | replace k := none_of_set k))
  have n_b8_b7 := n_b7_b8.symm
  conv => whnf
  repeat' ((first | refine ⟨Sub.refl _, ?_⟩ | (refine brA_split (fun h => ?_) (fun h => ?_) <;> (try rw [h]) <;> (try simp only [bN, bS, ↓reduceIte] at h) <;> (first | (exfalso; first | contradiction | omega | exact (by assumption : ¬ True) trivial | fail) | skip)) | refine getB_a ?_ | (refine ACalls.pure' ?_ (hT); rintro _ rfl) | refine DCall.pure ?_ (hT) | (refine ACalls.pure' ?_ (hF); rintro _ rfl) | refine DCall.pure ?_ (hF) | refine getB_same ?_ | refine AWp.anyA ?_ | refine and_a ?_ | fail) <;> (conv => whnf))
  intro b10 hb10
  have k_b10 := hb10
  repeat replace k_b10 := none_of_set k_b10
  have n_b3_b10 : b3 ≠ b10 := by (have k := hb10; repeat (first | exact ne_set k | replace k := none_of_set k))
  have n_b10_b3 := n_b3_b10.symm
  have n_b4_b10 : b4 ≠ b10 := by (have k := hb10; repeat (first | exact ne_set k | replace k := none_of_set k))
  have n_b10_b4 := n_b4_b10.symm
  have n_b5_b10 : b5 ≠ b10 := by (have k := hb10; repeat (first | exact ne_set k | replace k := none_of_set k))
  have n_b10_b5 := n_b5_b10.symm
  have n_b7_b10 : b7 ≠ b10 := by (have k := hb10; repeat (first | exact ne_set k | replace k := none_of_set k))
  have n_b10_b7 := n_b7_b10.symm
  have n_b8_b10 : b8 ≠ b10 := by (have k := hb10; repeat (first | exact ne_set k | replace k := none_of_set k))
  have n_b10_b8 := n_b8_b10.symm
  conv => whnf
  repeat' ((first | refine ⟨Sub.refl _, ?_⟩ | (refine brA_split (fun h => ?_) (fun h => ?_) <;> (try rw [h]) <;> (try simp only [bN, bS, ↓reduceIte] at h) <;> (first | (exfalso; first | contradiction | omega | exact (by assumption : ¬ True) trivial | fail) | skip)) | refine getB_a ?_ | (refine ACalls.pure' ?_ (hM); rintro _ rfl) | refine DCall.pure ?_ (hM) | refine ⟨len_of (hg) rfl, Go.Ab.frcL_of (hg) ?_⟩ | (refine AWp.anyP (id := 15) [(3, true), (4, false)] (fun k => cond k b3 b4) [0, 1, 2, 3, 4] n_b3_b4 (by kernel_rfl) (by kernel_rfl) (by kernel_rfl) (by kernel_rfl) ?_) | (refine ⟨(by first | exact trivial | exact ⟨_, rfl, rfl⟩), ?_⟩) | refine getB_same ?_ | refine AWp.anyA ?_ | refine and_a ?_ | fail) <;> (conv => whnf))
  all_goals first | exact ⟨suba, rfl⟩ | fail
theorem rv_none1 (htl : (toksA L).length = L.length) (hlt : a < L.length) (hg : (toksA L).getD a [] = [.int .i64 z1, .str z2, .int .i64 z3, .int .i64 z4]) (h4 : z1 ≠ 4) {y1 y3 y4 : Int} {y2 : List UInt8} (hgq : a + 1 < L.length → (toksA L).getD (a + 1) [] = [.int .i64 y1, .str y2, .int .i64 y3, .int .i64 y4]) (h3 : ¬ (a + 1 < L.length ∧ y1 = 3))
    (hT : APure Tryz.prog Γ 16 [.slice tk (toksA L), .agg (plA (alv a k)), .str [116, 114, 117, 101]] fun v => v = .bool false)
    (hF : APure Tryz.prog Γ 16 [.slice tk (toksA L), .agg (plA (alv a k)), .str [102, 97, 108, 115, 101]] fun v => v = .bool false)
    (hM : APure Tryz.prog Γ 16 [.slice tk (toksA L), .agg (plA (alv a k)), .str [45]] fun v => v = .bool true)
    (hsk : APure Tryz.prog Γ 17 [.agg (plA (alv a k))] fun v => v = .agg (plA (alv (a + 1) k))) :
    APure Tryz.prog Γ 122 [.slice tk (toksA L), .agg (plA (alv a k))] fun v => v = .tuple [.agg (vlA (0, 0, [], false)), .agg (plA (alv a k)), .bool false] := by
  simp only [plA, alv, vlA] at *
  by_cases hq : a + 1 < L.length
  · replace hgq := hgq hq
    have h3 : y1 ≠ 3 := fun h => h3 ⟨hq, h⟩
    refine APure.of_awp Tryz.func122 rfl (Nat.le_of_ble_eq_true (by kernel_rfl)) (by kernel_rfl) ?_
    intro s
    conv => whnf
    intro b3 hb3
    have k_b3 := hb3
    repeat replace k_b3 := none_of_set k_b3
    conv => whnf
    intro b4 hb4
    have k_b4 := hb4
    repeat replace k_b4 := none_of_set k_b4
    have n_b3_b4 : b3 ≠ b4 := by (have k := hb4; repeat (first | exact ne_set k | replace k := none_of_set k))
    have n_b4_b3 := n_b3_b4.symm
    conv => whnf
    intro b5 hb5
    have k_b5 := hb5
    repeat replace k_b5 := none_of_set k_b5
    have n_b3_b5 : b3 ≠ b5 := by (have k := hb5; repeat (first | exact ne_set k | replace k := none_of_set k))
    have n_b5_b3 := n_b3_b5.symm
    have n_b4_b5 : b4 ≠ b5 := by (have k := hb5; repeat (first | exact ne_set k | replace k := none_of_set k))
    have n_b5_b4 := n_b4_b5.symm
    conv => whnf
    repeat' ((first | refine ⟨Sub.refl _, ?_⟩ | (refine brA_split (fun h => ?_) (fun h => ?_) <;> (try rw [h]) <;> (try simp only [bS, ↓reduceIte] at h) <;> (first | (exfalso; first | contradiction | omega | exact (by assumption : ¬ True) trivial | fail) | skip)) | refine getB_a ?_ | refine getB_same ?_ | refine AWp.anyA ?_ | refine and_a ?_ | fail) <;> (conv => whnf))
    intro b7 hb7
    have k_b7 := hb7
    repeat replace k_b7 := none_of_set k_b7
    have n_b3_b7 : b3 ≠ b7 := by (have k := hb7; repeat (first | exact ne_set k | replace k := none_of_set k))
    have n_b7_b3 := n_b3_b7.symm
    have n_b4_b7 : b4 ≠ b7 := by (have k := hb7; repeat (first | exact ne_set k | replace k := none_of_set k))
    have n_b7_b4 := n_b4_b7.symm
    have n_b5_b7 : b5 ≠ b7 := by (have k := hb7; repeat (first | exact ne_set k | replace k := none_of_set k))
    have n_b7_b5 := n_b5_b7.symm
    conv => whnf
    repeat' ((first | refine ⟨Sub.refl _, ?_⟩ | (refine brA_split (fun h => ?_) (fun h => ?_) <;> (try rw [h]) <;> (try simp only [bN, bS, ↓reduceIte] at h) <;> (first | (exfalso; first | contradiction | omega | exact (by assumption : ¬ True) trivial | fail) | skip)) | refine getB_a ?_ | refine ⟨len_of (hg) rfl, Go.Ab.frcL_of (hg) ?_⟩ | refine getB_same ?_ | refine AWp.anyA ?_ | refine and_a ?_ | fail) <;> (conv => whnf))
    intro b8 hb8
    have k_b8 := hb8
    repeat replace k_b8 := none_of_set k_b8
    have n_b3_b8 : b3 ≠ b8 := by (have k := hb8; repeat (first | exact ne_set k | replace k := none_of_set k))
    have n_b8_b3 := n_b3_b8.symm
    have n_b4_b8 : b4 ≠ b8 := by (have k := hb8; repeat (first | exact ne_set k | replace k := none_of_set k))
    have n_b8_b4 := n_b4_b8.symm
    have n_b5_b8 : b5 ≠ b8 := by (have k := hb8; repeat (first | exact ne_set k | replace k := none_of_set k))
    have n_b8_b5 := n_b5_b8.symm
    have n_b7_b8 : b7 ≠ b8 := by (have k := hb8; repeat (first | exact ne_set k | replace k := none_of_set k))
    have n_b8_b7 := n_b7_b8.symm
    conv => whnf
    repeat' ((first | refine ⟨Sub.refl _, ?_⟩ | (refine brA_split (fun h => ?_) (fun h => ?_) <;> (try rw [h]) <;> (try simp only [bN, bS, ↓reduceIte] at h) <;> (first | (exfalso; first | contradiction | omega | exact (by assumption : ¬ True) trivial | fail) | skip)) | refine getB_a ?_ | (refine ACalls.pure' ?_ (hT); rintro _ rfl) | refine DCall.pure ?_ (hT) | (refine ACalls.pure' ?_ (hF); rintro _ rfl) | refine DCall.pure ?_ (hF) | refine getB_same ?_ | refine AWp.anyA ?_ | refine and_a ?_ | fail) <;> (conv => whnf))
    intro b10 hb10
    have k_b10 := hb10
    repeat replace k_b10 := none_of_set k_b10
    have n_b3_b10 : b3 ≠ b10 := by (have k := hb10; repeat (first | exact ne_set k | replace k := none_of_set k))
    have n_b10_b3 := n_b3_b10.symm
    have n_b4_b10 : b4 ≠ b10 := by (have k := hb10; repeat (first | exact ne_set k | replace k := none_of_set k))
    have n_b10_b4 := n_b4_b10.symm
    have n_b5_b10 : b5 ≠ b10 := by (have k := hb10; repeat (first | exact ne_set k | replace k := none_of_set k))
    have n_b10_b5 := n_b5_b10.symm
    have n_b7_b10 : b7 ≠ b10 := by (have k := hb10; repeat (first | exact ne_set k | replace k := none_of_set k))
    have n_b10_b7 := n_b7_b10.symm
    have n_b8_b10 : b8 ≠ b10 := by (have k := hb10; repeat (first | exact ne_set k | replace k := none_of_set k))
    have n_b10_b8 := n_b8_b10.symm
    conv => whnf
    repeat' ((first | refine ⟨Sub.refl _, ?_⟩ | (refine brA_split (fun h => ?_) (fun h => ?_) <;> (try rw [h]) <;> (try simp only [bN, bS, ↓reduceIte] at h) <;> (first | (exfalso; first | contradiction | omega | exact (by assumption : ¬ True) trivial | fail) | skip)) | refine getB_a ?_ | (refine ACalls.pure' ?_ (hM); rintro _ rfl) | refine DCall.pure ?_ (hM) | (refine ACalls.pure' ?_ (hsk); rintro _ rfl) | refine DCall.pure ?_ (hsk) | refine ⟨len_of (hgq) rfl, Go.Ab.frcL_of (hgq) ?_⟩ | (refine AWp.anyP (id := 15) [(3, true), (4, false)] (fun k => cond k b3 b4) [0, 1, 2, 3, 4] n_b3_b4 (by kernel_rfl) (by kernel_rfl) (by kernel_rfl) (by kernel_rfl) ?_) | (refine ⟨(by first | exact trivial | exact ⟨_, rfl, rfl⟩), ?_⟩) | refine getB_same ?_ | refine AWp.anyA ?_ | refine and_a ?_ | fail) <;> (conv => whnf))
    all_goals first | exact ⟨suba, rfl⟩ | fail
  · refine APure.of_awp Tryz.func122 rfl (Nat.le_of_ble_eq_true (by kernel_rfl)) (by kernel_rfl) ?_
    intro s
    conv => whnf
    intro b3 hb3
    have k_b3 := hb3
    repeat replace k_b3 := none_of_set k_b3
    conv => whnf
    intro b4 hb4
    have k_b4 := hb4
    repeat replace k_b4 := none_of_set k_b4
    have n_b3_b4 : b3 ≠ b4 := by (have k := hb4; repeat (first | exact ne_set k | replace k := none_of_set k))
    have n_b4_b3 := n_b3_b4.symm
    conv => whnf
    intro b5 hb5
    have k_b5 := hb5
    repeat replace k_b5 := none_of_set k_b5
    have n_b3_b5 : b3 ≠ b5 := by (have k := hb5; repeat (first | exact ne_set k | replace k := none_of_set k))
    have n_b5_b3 := n_b3_b5.symm
    have n_b4_b5 : b4 ≠ b5 := by (have k := hb5; repeat (first | exact ne_set k | replace k := none_of_set k))
    have n_b5_b4 := n_b4_b5.symm
    conv => whnf
    repeat' ((first | refine ⟨Sub.refl _, ?_⟩ | (refine brA_split (fun h => ?_) (fun h => ?_) <;> (try rw [h]) <;> (try simp only [bS, ↓reduceIte] at h) <;> (first | (exfalso; first | contradiction | omega | exact (by assumption : ¬ True) trivial | fail) | skip)) | refine getB_a ?_ | refine getB_same ?_ | refine AWp.anyA ?_ | refine and_a ?_ | fail) <;> (conv => whnf))
    intro b7 hb7
    have k_b7 := hb7
    repeat replace k_b7 := none_of_set k_b7
    have n_b3_b7 : b3 ≠ b7 := by (have k := hb7; repeat (first | exact ne_set k | replace k := none_of_set k))
    have n_b7_b3 := n_b3_b7.symm
    have n_b4_b7 : b4 ≠ b7 := by (have k := hb7; repeat (first | exact ne_set k | replace k := none_of_set k))
    have n_b7_b4 := n_b4_b7.symm
    have n_b5_b7 : b5 ≠ b7 := by (have k := hb7; repeat (first | exact ne_set k | replace k := none_of_set k))
    have n_b7_b5 := n_b5_b7.symm
    conv => whnf
    repeat' ((first | refine ⟨Sub.refl _, ?_⟩ | (refine brA_split (fun h => ?_) (fun h => ?_) <;> (try rw [h]) <;> (try simp only [bN, bS, ↓reduceIte] at h) <;> (first | (exfalso; first | contradiction | omega | exact (by assumption : ¬ True) trivial | fail) | skip)) | refine getB_a ?_ | refine ⟨len_of (hg) rfl, Go.Ab.frcL_of (hg) ?_⟩ | refine getB_same ?_ | refine AWp.anyA ?_ | refine and_a ?_ | fail) <;> (conv => whnf))
    intro b8 hb8
    have k_b8 := hb8
    repeat replace k_b8 := none_of_set k_b8
    have n_b3_b8 : b3 ≠ b8 := by (have k := hb8; repeat (first | exact ne_set k | replace k := none_of_set k))
    have n_b8_b3 := n_b3_b8.symm
    have n_b4_b8 : b4 ≠ b8 := by (have k := hb8; repeat (first | exact ne_set k | replace k := none_of_set k))
    have n_b8_b4 := n_b4_b8.symm
    have n_b5_b8 : b5 ≠ b8 := by (have k := hb8; repeat (first | exact ne_set k | replace k := none_of_set k))
    have n_b8_b5 := n_b5_b8.symm
    have n_b7_b8 : b7 ≠ b8 := by (have k := hb8; repeat (first | exact ne_set k | replace k := none_of_set k))
    have n_b8_b7 := n_b7_b8.symm
    conv => whnf
    repeat' ((first | refine ⟨Sub.refl _, ?_⟩ | (refine brA_split (fun h => ?_) (fun h => ?_) <;> (try rw [h]) <;> (try simp only [bN, bS, ↓reduceIte] at h) <;> (first | (exfalso; first | contradiction | omega | exact (by assumption : ¬ True) trivial | fail) | skip)) | refine getB_a ?_ | (refine ACalls.pure' ?_ (hT); rintro _ rfl) | refine DCall.pure ?_ (hT) | (refine ACalls.pure' ?_ (hF); rintro _ rfl) | refine DCall.pure ?_ (hF) | refine getB_same ?_ | refine AWp.anyA ?_ | refine and_a ?_ | fail) <;> (conv => whnf))
    intro b10 hb10
    have k_b10 := hb10
    repeat replace k_b10 := none_of_set k_b10
    have n_b3_b10 : b3 ≠ b10 := by (have k := hb10; repeat (first | exact ne_set k | replace k := none_of_set k))
    have n_b10_b3 := n_b3_b10.symm
    have n_b4_b10 : b4 ≠ b10 := by (have k := hb10; repeat (first | exact ne_set k | replace k := none_of_set k))
    have n_b10_b4 := n_b4_b10.symm
    have n_b5_b10 : b5 ≠ b10 := by (have k := hb10; repeat (first | exact ne_set k | replace k := none_of_set k))
    have n_b10_b5 := n_b5_b10.symm
    have n_b7_b10 : b7 ≠ b10 := by (have k := hb10; repeat (first | exact ne_set k | replace k := none_of_set k))
    have n_b10_b7 := n_b7_b10.symm
    have n_b8_b10 : b8 ≠ b10 := by (have k := hb10; repeat (first | exact ne_set k | replace k := none_of_set k))
    have n_b10_b8 := n_b8_b10.symm
    conv => whnf
    repeat' ((first | refine ⟨Sub.refl _, ?_⟩ | (refine brA_split (fun h => ?_) (fun h => ?_) <;> (try rw [h]) <;> (try simp only [bN, bS, ↓reduceIte] at h) <;> (first | (exfalso; first | contradiction | omega | exact (by assumption : ¬ True) trivial | fail) | skip)) | refine getB_a ?_ | (refine ACalls.pure' ?_ (hM); rintro _ rfl) | refine DCall.pure ?_ (hM) | (refine ACalls.pure' ?_ (hsk); rintro _ rfl) | refine DCall.pure ?_ (hsk) | (refine AWp.anyP (id := 15) [(3, true), (4, false)] (fun k => cond k b3 b4) [0, 1, 2, 3, 4] n_b3_b4 (by kernel_rfl) (by kernel_rfl) (by kernel_rfl) (by kernel_rfl) ?_) | (refine ⟨(by first | exact trivial | exact ⟨_, rfl, rfl⟩), ?_⟩) | refine getB_same ?_ | refine AWp.anyA ?_ | refine and_a ?_ | fail) <;> (conv => whnf))
    all_goals first | exact ⟨suba, rfl⟩ | fail
end
end Go.Proofs.YthpnfflkkmpejaaGreatDoor.Pa
