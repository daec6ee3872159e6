/- Part 2 of what the closing text needs: PaA, PaB, PaC. No condition of mine beyond those that the theorems name. -/
import Derived.Test.YthpnfflkkmpejaaGreatDoorG1
set_option linter.all false
namespace Go.Proofs.YthpnfflkkmpejaaGreatDoor.Pa
open Go Go.Ab Go.RowKit Go.Proofs.YthpnfflkkmpejaaGreatDoor.Lx
variable {Γ : Nat → AV}
attribute [local irreducible] APure Sto.set Sto.grow
set_option maxRecDepth 10000
set_option maxHeartbeats 1000000
def noTok : Tok := (0, [], 0, 0)
/-- The next token; without one the last one's place. -/
def peekF (L : List Tok) (a : Nat) : Tok := if a < L.length then L.getD a noTok else if L.length = 0 then (0, [], 1, 1) else (0, [], (L.getD (L.length - 1) noTok).2.2.1, (L.getD (L.length - 1) noTok).2.2.2)
theorem toksA_at {l : List Tok} {i : Nat} (h : i < l.length) : (toksA l).getD i [] = tokA (l.getD i noTok) := by simp [toksA, List.getD, h]
/-- The boxes of a parser: itself, and how far it has read. -/
structure Pst (s0 s : Sto) (bp bl : Nat) (L : List Tok) (a : Nat) (o : List Ex) (d : List Int) (k : Int) : Prop where
  np : s0.bx bp = none
  nl : s0.bx bl = none
  ne : bp ≠ bl
  pr : ∃ t1 t2, s.bx bp = some (53, [.ptr (some ⟨bl, 0, none⟩), .slice t1 (exsA o), .slice t2 (intsA .i64 d), .int .i64 k]) ∧ Own s0 s o.isEmpty t1 41 10 ∧ Own s0 s d.isEmpty t2 3 1 ∧ (t1 = t2 → t1 = 1)
  pl : s.bx bl = some (56, [.slice 0 (toksA L), .int .i64 a])
theorem Pst.sub {s0 s : Sto} {bp bl : Nat} {L : List Tok} {a : Nat} {o : List Ex} {d : List Int} {k : Int} (h : Pst s0 s bp bl L a o d k) : Sub s0 s := by
  obtain ⟨_, _, _, h1, _⟩ := h.pr
  exact h1.sub
theorem peek_ok {s : Sto} {bl : Nat} {L : List Tok} {a : Nat} (hb : s.bx bl = some (56, [.slice 0 (toksA L), .int .i64 a])) (hL : L.length ≤ 1000000) (ha : a ≤ 1000000) :
    ACalls Tryz.prog Γ 24 [.ptr (some ⟨bl, 0, none⟩)] s fun v s' => v = .agg (tokA (peekF L a)) ∧ s' = s := by
  have htl := toksA_len L
  by_cases h1 : a < L.length
  · have hg := toksA_at h1
    rw [peekF, if_pos h1]
    generalize L.getD a noTok = z at *
    rw [tokA] at hg
    refine ACalls.of_awp Tryz.func24 rfl (Nat.le_of_ble_eq_true (by kernel_rfl)) (awp_ok _ (by kernel_rfl) ?_)
    conv => whnf
    intro b2 hb2
    have n_bl_b2 : bl ≠ b2 := ne_of_none bxa hb2
    have n_b2_bl := n_bl_b2.symm
    conv => whnf
    repeat' ((first | (exfalso; first | omega | exact (by assumption : ¬ True) trivial | fail) | refine ⟨Sub.refl _, ?_⟩ | (refine brA_split (fun h => ?_) (fun h => ?_) <;> (try rw [h]) <;> (try simp only [bS, ↓reduceIte] at h)) | refine getB_a ?_ | (rw [show (toksA L).getD ((a : Int)).toNat [] = _ from hg]) | refine getB_same ?_ | refine AWp.anyA ?_ | refine and_a ?_ | fail) <;> (conv => whnf))
    · exfalso; revert h; rw [htl]; simp; rintro rfl; simp at *
    · exact ⟨s, ((Sub.refl _).set hb2 _ _).set hb2 _ _, rfl, rfl⟩
  · by_cases h0 : L.length = 0
    · rw [peekF, if_neg h1, if_pos h0]
      refine ACalls.of_awp Tryz.func24 rfl (Nat.le_of_ble_eq_true (by kernel_rfl)) (awp_ok _ (by kernel_rfl) ?_)
      conv => whnf
      intro b2 hb2
      have n_bl_b2 : bl ≠ b2 := ne_of_none bxa hb2
      have n_b2_bl := n_bl_b2.symm
      conv => whnf
      repeat' ((first | (exfalso; first | omega | exact (by assumption : ¬ True) trivial | fail) | refine ⟨Sub.refl _, ?_⟩ | (refine brA_split (fun h => ?_) (fun h => ?_) <;> (try rw [h]) <;> (try simp only [bS, ↓reduceIte] at h)) | refine getB_a ?_ | refine getB_same ?_ | refine AWp.anyA ?_ | refine and_a ?_ | fail) <;> (conv => whnf))
      · exact ⟨s, ((Sub.refl _).set hb2 _ _).set hb2 _ _, rfl, rfl⟩
      · rename_i hc; exfalso; revert hc; simp [htl, h0]
    · have hg := toksA_at (l := L) (i := L.length - 1) (by omega)
      rw [peekF, if_neg h1, if_neg h0]
      generalize L.getD (L.length - 1) noTok = z at *
      rw [tokA] at hg
      have hw : IntKind.i64.wrap (((toksA L).length : Int) - 1) = ((L.length - 1 : Nat) : Int) := i64_of (by omega) (by omega) (by omega)
      refine ACalls.of_awp Tryz.func24 rfl (Nat.le_of_ble_eq_true (by kernel_rfl)) (awp_ok _ (by kernel_rfl) ?_)
      conv => whnf
      intro b2 hb2
      have n_bl_b2 : bl ≠ b2 := ne_of_none bxa hb2
      have n_b2_bl := n_bl_b2.symm
      conv => whnf
      repeat' ((first | (exfalso; first | omega | exact (by assumption : ¬ True) trivial | fail) | refine ⟨Sub.refl _, ?_⟩ | (refine brA_split (fun h => ?_) (fun h => ?_) <;> (try rw [h]) <;> (try simp only [bS, ↓reduceIte] at h)) | refine getB_a ?_ | (rw [hw]) | (rw [show (toksA L).getD ((L.length - 1 : Nat) : Int).toNat [] = _ from hg]) | refine getB_same ?_ | refine AWp.anyA ?_ | refine and_a ?_ | fail) <;> (conv => whnf))
      · exfalso; revert h; rw [htl]; simp; rintro rfl; simp at *
      · intro b3 hb3
        have n_b2_b3 : b2 ≠ b3 := ne_of_none bxa hb3
        have n_b3_b2 : b3 ≠ b2 := fun h => n_b2_b3 h.symm
        have n_bl_b3 : bl ≠ b3 := ne_of_none bxa hb3
        have g3 : s.bx b3 = none := ((Sub.refl s).set hb2 _ _).none hb3
        conv => whnf
        repeat' ((first | (exfalso; first | omega | exact (by assumption : ¬ True) trivial | fail) | refine ⟨Sub.refl _, ?_⟩ | (refine brA_split (fun h => ?_) (fun h => ?_) <;> (try rw [h]) <;> (try simp only [bS, ↓reduceIte] at h)) | refine getB_a ?_ | refine getB_same ?_ | refine AWp.anyA ?_ | refine and_a ?_ | fail) <;> (conv => whnf))
        exact ⟨s, ((((Sub.refl _).set hb2 _ _).set g3 _ _).set g3 _ _).set hb2 _ _, rfl, rfl⟩
/-- What is wrong, and at which token. -/
def errA (t : Tok) (e : Int) : AV := .iface 67 (.cptr (tokA t ++ [.iface 24 (.int .i64 e)]))
theorem fail_ok {s0 s : Sto} {bp bl : Nat} {L : List Tok} {a : Nat} {o : List Ex} {d : List Int} {k : Int} (hP : Pst s0 s bp bl L a o d k) (hL : L.length ≤ 1000000) (ha : a ≤ 1000000) (e : Int) :
    ACalls Tryz.prog Γ 12 [.ptr (some ⟨bp, 0, none⟩), .int .i64 e] s fun v s' => v = errA (peekF L a) e ∧ s' = s := by
  obtain ⟨t1, t2, hb, _⟩ := hP.pr
  have hpk := peek_ok (Γ := Γ) hP.pl hL ha
  generalize peekF L a = q at *
  obtain ⟨p1, p2, p3, p4⟩ := q
  have h1 : ACalls Tryz.prog Γ 12 [.ptr (some ⟨bp, 0, none⟩), .int .i64 e] s fun v s' => ∃ b, v = .iface 67 (.ptr (some ⟨b, 0, none⟩)) ∧ s.bx b = none ∧ s'.bx b = some (73, tokA (p1, p2, p3, p4) ++ [.iface 24 (.int .i64 e)]) ∧ Sub s s' := by
    refine ACalls.of_awp Tryz.func12 rfl (Nat.le_of_ble_eq_true (by kernel_rfl)) (awp_ok _ (by kernel_rfl) ?_)
    conv => whnf
    repeat' ((first | (exfalso; first | omega | exact (by assumption : ¬ True) trivial | fail) | refine ⟨Sub.refl _, ?_⟩ | (refine brA_split (fun h => ?_) (fun h => ?_) <;> (try rw [h]) <;> (try simp only [bS, ↓reduceIte] at h)) | (refine getB_of hb ?_) | (refine ACalls.by hpk ?_; rintro _ _ ⟨rfl, rfl⟩) | refine getB_same ?_ | refine AWp.anyA ?_ | refine and_a ?_ | fail) <;> (conv => whnf))
    intro b13 hb13
    conv => whnf
    repeat' ((first | (exfalso; first | omega | exact (by assumption : ¬ True) trivial | fail) | refine ⟨Sub.refl _, ?_⟩ | (refine brA_split (fun h => ?_) (fun h => ?_) <;> (try rw [h]) <;> (try simp only [bS, ↓reduceIte] at h)) | refine getB_same ?_ | refine AWp.anyA ?_ | refine and_a ?_ | fail) <;> (conv => whnf))
    exact ⟨_, Sub.refl _, b13, rfl, hb13, set_bx_same, (Sub.refl _).set hb13 _ _⟩
  refine h1.frz ?_
  rintro v s' ⟨b, rfl, h2, h3, h4⟩
  refine ⟨fz1 b 0 (tokA (p1, p2, p3, p4) ++ [.iface 24 (.int .i64 e)]), s, fz1_of h2 h3, h4, ?_, rfl⟩
  simp only [fz, fzP, fz1_at, List.drop_zero, fg, errA, tokA, List.cons_append, List.nil_append, fgL]
theorem is_ok {s0 s : Sto} {bp bl : Nat} {L : List Tok} {a : Nat} {o : List Ex} {d : List Int} {k : Int} (hP : Pst s0 s bp bl L a o d k) (hL : L.length ≤ 1000000) (ha : a ≤ 1000000) (w : List UInt8) :
    ACalls Tryz.prog Γ 62 [.ptr (some ⟨bp, 0, none⟩), .str w] s fun v s' => v = .bool ((decide ((peekF L a).1 = 2) || decide ((peekF L a).1 = 5)) && decide ((peekF L a).2.1 = w)) ∧ s' = s := by
  obtain ⟨t1, t2, hb, _⟩ := hP.pr
  have hpk := peek_ok (Γ := Γ) hP.pl hL ha
  generalize peekF L a = q at *
  obtain ⟨p1, p2, p3, p4⟩ := q
  simp only [tokA] at hpk
  refine ACalls.of_awp Tryz.func62 rfl (Nat.le_of_ble_eq_true (by kernel_rfl)) (awp_ok _ (by kernel_rfl) ?_)
  conv => whnf
  repeat' ((first | (exfalso; first | omega | exact (by assumption : ¬ True) trivial | fail) | refine ⟨Sub.refl _, ?_⟩ | (refine brA_split (fun h => ?_) (fun h => ?_) <;> (try rw [h]) <;> (try simp only [bS, ↓reduceIte] at h)) | (refine getB_of hb ?_) | (refine ACalls.by hpk ?_; rintro _ _ ⟨rfl, rfl⟩) | refine getB_same ?_ | refine AWp.anyA ?_ | refine and_a ?_ | fail) <;> (conv => whnf))
  intro b5 hb5
  conv => whnf
  repeat' ((first | (exfalso; first | omega | exact (by assumption : ¬ True) trivial | fail) | refine ⟨Sub.refl _, ?_⟩ | (refine brA_split (fun h => ?_) (fun h => ?_) <;> (try rw [h]) <;> (try simp only [bS, ↓reduceIte] at h)) | refine getB_a ?_ | refine getB_same ?_ | refine AWp.anyA ?_ | refine and_a ?_ | fail) <;> (conv => whnf))
  all_goals (refine ⟨_, ((Sub.refl _).set hb5 _ _).set hb5 _ _, ?_, rfl⟩; refine congrArg AV.bool ?_; simp_all)
/-- Where a parser is a token farther. -/
theorem Pst.next {s0 s : Sto} {bp bl : Nat} {L : List Tok} {a : Nat} {o : List Ex} {d : List Int} {k : Int} (hP : Pst s0 s bp bl L a o d k) (a' : Nat) : Pst s0 (s.set bl 56 [.slice 0 (toksA L), .int .i64 a']) bp bl L a' o d k := by
  obtain ⟨np, nl, ne, ⟨t1, t2, h1, h2, h3, h4⟩, pl⟩ := hP
  exact ⟨np, nl, ne, ⟨t1, t2, (set_bx_other ne).trans h1, h2.set nl, h3.set nl, h4⟩, set_bx_same⟩
theorem take_ok {s0 s : Sto} {bp bl : Nat} {L : List Tok} {a : Nat} {o : List Ex} {d : List Int} {k : Int} (hP : Pst s0 s bp bl L a o d k) (hL : L.length ≤ 1000000) (ha : a ≤ 100000) (w : List UInt8) :
    ACalls Tryz.prog Γ 139 [.ptr (some ⟨bp, 0, none⟩), .str w] s fun v s' => v = .bool ((decide ((peekF L a).1 = 2) || decide ((peekF L a).1 = 5)) && decide ((peekF L a).2.1 = w)) ∧
      Pst s0 s' bp bl L (if ((decide ((peekF L a).1 = 2) || decide ((peekF L a).1 = 5)) && decide ((peekF L a).2.1 = w)) = true then a + 1 else a) o d k := by
  obtain ⟨t1, t2, hb, _⟩ := hP.pr
  have hi := is_ok (Γ := Γ) hP hL (by omega) w
  have hN := hP.next (a + 1)
  generalize ((decide ((peekF L a).1 = 2) || decide ((peekF L a).1 = 5)) && decide ((peekF L a).2.1 = w)) = z at *
  have hw : IntKind.i64.wrap ((a : Int) + 1) = ((a + 1 : Nat) : Int) := i64_of (by omega) (by omega) (by omega)
  refine ACalls.of_awp Tryz.func139 rfl (Nat.le_of_ble_eq_true (by kernel_rfl)) (awp_ok _ (by kernel_rfl) ?_)
  conv => whnf
  cases z
  · repeat' ((first | (exfalso; first | omega | exact (by assumption : ¬ True) trivial | fail) | refine ⟨Sub.refl _, ?_⟩ | (refine brA_split (fun h => ?_) (fun h => ?_) <;> (try rw [h]) <;> (try simp only [bS, ↓reduceIte] at h)) | (refine ACalls.by hi ?_; rintro _ _ ⟨rfl, rfl⟩) | refine getB_same ?_ | refine AWp.anyA ?_ | refine and_a ?_ | fail) <;> (conv => whnf))
    exact ⟨_, Sub.refl _, rfl, hP⟩
  · repeat' ((first | (exfalso; first | omega | exact (by assumption : ¬ True) trivial | fail) | refine ⟨Sub.refl _, ?_⟩ | (refine brA_split (fun h => ?_) (fun h => ?_) <;> (try rw [h]) <;> (try simp only [bS, ↓reduceIte] at h)) | (refine ACalls.by hi ?_; rintro _ _ ⟨rfl, rfl⟩) | (refine getB_of hb ?_) | (refine getB_of hP.pl ?_) | (rw [hw]) | refine getB_same ?_ | refine AWp.anyA ?_ | refine and_a ?_ | fail) <;> (conv => whnf))
    exact ⟨_, Sub.refl _, rfl, hN⟩
theorem last_ok {s0 s : Sto} {bp bl : Nat} {L : List Tok} {a : Nat} {o : List Ex} {d : List Int} {k : Int} (hP : Pst s0 s bp bl L a o d k) (ho : o.length ≤ 1000000) :
    ACalls Tryz.prog Γ 41 [.ptr (some ⟨bp, 0, none⟩)] s fun v s' => v = .int .i64 ((o.length : Int) - 1) ∧ s' = s := by
  obtain ⟨t1, t2, hb, _⟩ := hP.pr
  have hw : IntKind.i64.wrap (((exsA o).length : Int) - 1) = (o.length : Int) - 1 := i64_of (by rw [exsA_len]) (by omega) (by omega)
  refine ACalls.of_awp Tryz.func41 rfl (Nat.le_of_ble_eq_true (by kernel_rfl)) (awp_ok _ (by kernel_rfl) ?_)
  conv => whnf
  repeat' ((first | (exfalso; first | omega | exact (by assumption : ¬ True) trivial | fail) | refine ⟨Sub.refl _, ?_⟩ | (refine brA_split (fun h => ?_) (fun h => ?_) <;> (try rw [h]) <;> (try simp only [bS, ↓reduceIte] at h)) | (refine getB_of hb ?_) | (rw [hw]) | refine getB_same ?_ | refine AWp.anyA ?_ | refine and_a ?_ | fail) <;> (conv => whnf))
  exact ⟨s, Sub.refl _, rfl, rfl⟩
end Go.Proofs.YthpnfflkkmpejaaGreatDoor.Pa
namespace Go.Proofs.YthpnfflkkmpejaaGreatDoor.Pa
open Go Go.Ab Go.RowKit Go.Proofs.YthpnfflkkmpejaaGreatDoor.Lx
/-- How far a parser is: tokens read, nodes, how deep each is, how much is open. -/
structure St where
  a : Nat
  o : List Ex
  d : List Int
  k : Int
abbrev Res (α : Type) := Except (Int × Int × Int) α
def failF {α : Type} (L : List Tok) (a : Nat) (e : Int) : Res α := .error (e, (peekF L a).2.2.1, (peekF L a).2.2.2)
def signK (t : Tok) : Bool := decide (t.1 = 2) || decide (t.1 = 5)
def isF (L : List Tok) (a : Nat) (s : List UInt8) : Bool := signK (peekF L a) && decide ((peekF L a).2.1 = s)
def nextF (L : List Tok) (a : Nat) (m : List (List UInt8 × Int)) : Int := if signK (peekF L a) = true then mapA (peekF L a).2.1 m else 0
/-- How deep a node above these is. -/
def deepF (d : List Int) : List Int → Int → Int
  | [], m => m
  | i :: r, m => deepF d r (if IntKind.i64.wrap (d.getD i.toNat 0 + 1) > m then IntKind.i64.wrap (d.getD i.toNat 0 + 1) else m)
def nodeF (t : Tok) (x : Ex) (u : List Int) (s : St) : Res St :=
  if 64 < deepF s.d u 1 then .error (13, t.2.2.1, t.2.2.2) else .ok { s with o := s.o ++ [{ x with ln := t.2.2.1, cl := t.2.2.2 }], d := s.d ++ [deepF s.d u 1] }
def ex0 : Ex := ⟨0, 0, 0, [], 0, 0, [], false, 0, 0⟩
def insideF (L : List Tok) (one : St → Res St) (s : St) : Res St :=
  if s.k = 128 then failF L s.a 13 else match one { s with a := s.a + 1, k := s.k + 1 } with
    | .error e => .error e
    | .ok s' => .ok { s' with k := s'.k - 1 }
def beforeF (L : List Tok) (op : Int) (one : St → Res St) (s : St) : Res St :=
  match insideF L one s with
  | .error e => .error e
  | .ok s' => nodeF (peekF L s.a) { ex0 with op := op, a := (s'.o.length : Int) - 1 } [(s'.o.length : Int) - 1] s'
def chainL (L : List Tok) (m : List (List UInt8 × Int)) (one : St → Res St) : Nat → St → Res St
  | 0, s => .ok s
  | n + 1, s => if nextF L s.a m = 0 then .ok s else match one { s with a := s.a + 1 } with
    | .error e => .error e
    | .ok s2 => match nodeF (peekF L s.a) { ex0 with op := nextF L s.a m, a := (s.o.length : Int) - 1, b := (s2.o.length : Int) - 1 } [(s.o.length : Int) - 1, (s2.o.length : Int) - 1] s2 with
      | .error e => .error e
      | .ok s3 => chainL L m one n s3
def chainF (L : List Tok) (m : List (List UInt8 × Int)) (one : St → Res St) (s : St) : Res St :=
  match one s with
  | .error e => .error e
  | .ok s1 => chainL L m one (L.length + 1) s1
def turnF (s : St) (from_ mid : Nat) : St :=
  { s with
    o := s.o.take from_ ++ (s.o.drop mid).map (shiftX (-((mid - from_ : Nat) : Int))) ++ ((s.o.take mid).drop from_).map (shiftX ((s.o.length - mid : Nat) : Int))
    d := s.d.take from_ ++ s.d.drop mid ++ (s.d.take mid).drop from_ }
def cmpM : List (List UInt8 × Int) := [([61, 61], 13), ([33, 61], 14), ([60], 15), ([60, 61], 16), ([62], -15), ([62, 61], -16)]
def compF (L : List Tok) (one : St → Res St) (s : St) : Res St :=
  match one s with
  | .error e => .error e
  | .ok s1 => if nextF L s1.a cmpM = 0 then .ok s1 else match one { s1 with a := s1.a + 1 } with
    | .error e => .error e
    | .ok s2 => if nextF L s1.a cmpM < 0
      then nodeF (peekF L s1.a) { ex0 with op := -(nextF L s1.a cmpM), a := (s.o.length + (s2.o.length - s1.o.length) : Nat) - 1, b := (s2.o.length : Int) - 1 } [((s.o.length + (s2.o.length - s1.o.length) : Nat) : Int) - 1, (s2.o.length : Int) - 1] (turnF s2 s.o.length s1.o.length)
      else nodeF (peekF L s1.a) { ex0 with op := nextF L s1.a cmpM, a := (s1.o.length : Int) - 1, b := (s2.o.length : Int) - 1 } [(s1.o.length : Int) - 1, (s2.o.length : Int) - 1] s2
/-- Does a number come next, perhaps behind a sign? -/
def numbF (L : List Tok) (a : Nat) : Bool := decide ((if isF L a [45] = true then a + 1 else a) < L.length) && decide ((L.getD (if isF L a [45] = true then a + 1 else a) noTok).1 = 3)
/-- A value, and how far it goes. -/
def valueF (L : List Tok) (a : Nat) : Res ((Int × Int × List UInt8 × Bool) × Nat) :=
  if numbF L a = true then
    (let q := if isF L a [45] = true then a + 1 else a
     let g := (peekF L q).2.1
     let t := (if isF L a [45] = true ∧ g ≠ [48] then [45] else []) ++ g
     if Nu.numE t ≠ 0 then failF L q (Nu.numE t) else .ok ((1, Nu.numN t, [], false), q + 1))
  else if (peekF L a).1 = 4 then .ok ((2, 0, (peekF L a).2.1, false), a + 1)
  else if isF L a [116, 114, 117, 101] = true then .ok ((3, 0, [], true), a + 1)
  else if isF L a [102, 97, 108, 115, 101] = true then .ok ((3, 0, [], false), a + 1)
  else failF L a 16
def wantF (L : List Tok) (w : List UInt8) (s : St) : Res St := if isF L s.a w = true then .ok { s with a := s.a + 1 } else failF L s.a 16
def orM : List (List UInt8 × Int) := [([111, 114], 7)]
def andM : List (List UInt8 × Int) := [([97, 110, 100], 6)]
def sumM : List (List UInt8 × Int) := [([43], 8), ([45], 9)]
def prodM : List (List UInt8 × Int) := [([42], 10), ([47], 11), ([37], 12)]
def unaryF (L : List Tok) (expr una : St → Res St) (s : St) : Res St :=
  if isF L s.a [40] = true then insideF L (fun s => match expr s with | .error e => .error e | .ok s' => wantF L [41] s') s
  else if (peekF L s.a).1 = 1 ∧ (peekF L s.a).2.1 ≠ [95] then nodeF (peekF L s.a) { ex0 with op := 17, name := (peekF L s.a).2.1 } [] { s with a := s.a + 1 }
  else if isF L s.a [45] = true ∧ numbF L s.a = false then beforeF L 5 una s
  else match valueF L s.a with
    | .error e => .error e
    | .ok (v, a') => nodeF (peekF L s.a) { ex0 with op := 1, vk := v.1, vi := v.2.1, vs := v.2.2.1, vb := v.2.2.2 } [] { s with a := a' }
/-- The levels: 0 or, 1 and, 2 not, 3 compared, 4 sums, 5 products, 6 what stands behind signs. -/
def ev (L : List Tok) : Nat → Nat → St → Res St
  | 0, _, s => .ok s
  | f + 1, 0, s => chainF L orM (ev L f 1) s
  | f + 1, 1, s => chainF L andM (ev L f 2) s
  | f + 1, 2, s => if isF L s.a [110, 111, 116] = true then beforeF L 4 (ev L f 2) s else ev L f 3 s
  | f + 1, 3, s => compF L (ev L f 4) s
  | f + 1, 4, s => chainF L sumM (ev L f 5) s
  | f + 1, 5, s => chainF L prodM (ev L f 6) s
  | f + 1, _, s => unaryF L (ev L f 0) (ev L f 6) s
end Go.Proofs.YthpnfflkkmpejaaGreatDoor.Pa
namespace Go.Proofs.YthpnfflkkmpejaaGreatDoor.Pa
open Go Go.Ab Go.RowKit Go.Proofs.YthpnfflkkmpejaaGreatDoor.Lx
variable {Γ : Nat → AV}
attribute [local irreducible] APure Sto.set Sto.grow
set_option maxRecDepth 10000
set_option maxHeartbeats 1000000
section
variable {s0 s : Sto} {bp bl : Nat} {L : List Tok} {a : Nat} {o : List Ex} {d : List Int} {k : Int}
theorem isP (hP : Pst s0 s bp bl L a o d k) (hL : L.length ≤ 1000000) (ha : a ≤ 1000000) (w : List UInt8) :
    ACalls Tryz.prog Γ 62 [.ptr (some ⟨bp, 0, none⟩), .str w] s fun v s' => v = .bool (isF L a w) ∧ s' = s := is_ok hP hL ha w
theorem takeP (hP : Pst s0 s bp bl L a o d k) (hL : L.length ≤ 1000000) (ha : a ≤ 100000) (w : List UInt8) :
    ACalls Tryz.prog Γ 139 [.ptr (some ⟨bp, 0, none⟩), .str w] s fun v s' => v = .bool (isF L a w) ∧ Pst s0 s' bp bl L (if isF L a w = true then a + 1 else a) o d k := take_ok hP hL ha w
theorem next_ok (hP : Pst s0 s bp bl L a o d k) (hL : L.length ≤ 1000000) (ha : a ≤ 1000000) (m : List (List UInt8 × Int)) :
    ACalls Tryz.prog Γ 40 [.ptr (some ⟨bp, 0, none⟩), .cmap m] s fun v s' => v = .int .i64 (nextF L a m) ∧ s' = s := by
  obtain ⟨t1, t2, hb, _⟩ := hP.pr
  have hpk := peek_ok (Γ := Γ) hP.pl hL ha
  unfold nextF signK
  generalize peekF L a = q at *
  obtain ⟨p1, p2, p3, p4⟩ := q
  simp only [tokA] at hpk
  refine ACalls.of_awp Tryz.func40 rfl (Nat.le_of_ble_eq_true (by kernel_rfl)) (awp_ok _ (by kernel_rfl) ?_)
  conv => whnf
  repeat' ((first | (exfalso; first | omega | exact (by assumption : ¬ True) trivial | fail) | refine ⟨Sub.refl _, ?_⟩ | (refine brA_split (fun h => ?_) (fun h => ?_) <;> (try rw [h]) <;> (try simp only [bS, ↓reduceIte] at h)) | (refine getB_of hb ?_) | (refine ACalls.by hpk ?_; rintro _ _ ⟨rfl, rfl⟩) | refine getB_same ?_ | refine AWp.anyA ?_ | refine and_a ?_ | fail) <;> (conv => whnf))
  intro b5 hb5
  conv => whnf
  repeat' ((first | (exfalso; first | omega | exact (by assumption : ¬ True) trivial | fail) | refine ⟨Sub.refl _, ?_⟩ | (refine brA_split (fun h => ?_) (fun h => ?_) <;> (try rw [h]) <;> (try simp only [bS, ↓reduceIte] at h)) | refine getB_a ?_ | refine getB_same ?_ | refine AWp.anyA ?_ | refine and_a ?_ | fail) <;> (conv => whnf))
  all_goals (refine ⟨_, ((Sub.refl _).set hb5 _ _).set hb5 _ _, ?_, rfl⟩; simp_all [tupA])
theorem numbered_ok (hP : Pst s0 s bp bl L a o d k) (hL : L.length ≤ 1000000) (ha : a ≤ 100000) :
    ACalls Tryz.prog Γ 130 [.ptr (some ⟨bp, 0, none⟩)] s fun v s' => v = .bool (numbF L a) ∧ s' = s := by
  obtain ⟨t1, t2, hb, _⟩ := hP.pr
  have hi := isP (Γ := Γ) hP hL (by omega) [45]
  have htl := toksA_len L
  unfold numbF
  have hw : IntKind.i64.wrap ((a : Int) + 1) = ((a + 1 : Nat) : Int) := i64_of (by omega) (by omega) (by omega)
  cases hm : isF L a [45]
  · rw [hm] at hi
    simp only [Bool.false_eq_true, if_false]
    have hg := fun h : a < L.length => toksA_at h
    generalize L.getD a noTok = z at *
    simp only [tokA] at hg
    refine ACalls.of_awp Tryz.func130 rfl (Nat.le_of_ble_eq_true (by kernel_rfl)) (awp_ok _ (by kernel_rfl) ?_)
    conv => whnf
    repeat' ((first | (exfalso; first | omega | exact (by assumption : ¬ True) trivial | fail) | refine ⟨Sub.refl _, ?_⟩ | (refine brA_split (fun h => ?_) (fun h => ?_) <;> (try rw [h]) <;> (try simp only [bS, ↓reduceIte] at h)) | (refine getB_of hb ?_) | (refine getB_of hP.pl ?_) | (refine ACalls.by hi ?_; rintro _ _ ⟨rfl, rfl⟩) | (rw [show (toksA L).getD ((a : Int)).toNat [] = _ from hg (by omega)]) | refine getB_same ?_ | refine AWp.anyA ?_ | refine and_a ?_ | fail) <;> (conv => whnf))
    all_goals (refine ⟨_, Sub.refl _, ?_, rfl⟩; first | (rw [decide_eq_true (show a < L.length by omega)]; simp [tupA]; done) | (rw [decide_eq_false (show ¬ a < L.length by omega)]; simp [tupA]; done))
  · rw [hm] at hi
    simp only [if_true]
    have hg := fun h : a + 1 < L.length => toksA_at h
    generalize L.getD (a + 1) noTok = z at *
    simp only [tokA] at hg
    refine ACalls.of_awp Tryz.func130 rfl (Nat.le_of_ble_eq_true (by kernel_rfl)) (awp_ok _ (by kernel_rfl) ?_)
    conv => whnf
    repeat' ((first | (exfalso; first | omega | exact (by assumption : ¬ True) trivial | fail) | refine ⟨Sub.refl _, ?_⟩ | (refine brA_split (fun h => ?_) (fun h => ?_) <;> (try rw [h]) <;> (try simp only [bS, ↓reduceIte] at h)) | (refine getB_of hb ?_) | (refine getB_of hP.pl ?_) | (refine ACalls.by hi ?_; rintro _ _ ⟨rfl, rfl⟩) | (rw [hw]) | (rw [show (toksA L).getD (((a + 1 : Nat) : Int)).toNat [] = _ from hg (by omega)]) | refine getB_same ?_ | refine AWp.anyA ?_ | refine and_a ?_ | fail) <;> (conv => whnf))
    all_goals (refine ⟨_, Sub.refl _, ?_, rfl⟩; first | (rw [decide_eq_true (show a + 1 < L.length by omega)]; simp [tupA]; done) | (rw [decide_eq_false (show ¬ a + 1 < L.length by omega)]; simp [tupA]; done))
def vlA (v : Int × Int × List UInt8 × Bool) : List AV := [.int .i64 v.1, .int .i64 v.2.1, .str v.2.2.1, .bool v.2.2.2]
/-- An error that tells e, and where. -/
def ErrV (x : Int × Int × Int) (v : AV) : Prop := ∃ kd t, v = errA (kd, t, x.2.1, x.2.2) x.1
theorem errV_fail (L : List Tok) (a : Nat) (e : Int) : ErrV (e, (peekF L a).2.2.1, (peekF L a).2.2.2) (errA (peekF L a) e) := ⟨(peekF L a).1, (peekF L a).2.1, rfl⟩
/-- What a value's reading leaves. -/
def valA (s0 : Sto) (bp bl : Nat) (L : List Tok) (o : List Ex) (d : List Int) (k : Int) (r : Res ((Int × Int × List UInt8 × Bool) × Nat)) (v : AV) (s' : Sto) : Prop :=
  match r with
  | .ok (x, a') => v = .tuple [.agg (vlA x), .nilIface] ∧ Pst s0 s' bp bl L a' o d k
  | .error x => ∃ e a', v = .tuple [.agg (vlA (0, 0, [], false)), e] ∧ ErrV x e ∧ Pst s0 s' bp bl L a' o d k
theorem Pst.box (hP : Pst s0 s bp bl L a o d k) {b : Nat} (hb : s.bx b = none) (T : TypeId) (cs : List AV) : Pst s0 (s.set b T cs) bp bl L a o d k := by
  obtain ⟨np, nl, ne, ⟨t1, t2, h1, h2, h3, h4⟩, pl⟩ := hP
  exact ⟨np, nl, ne, ⟨t1, t2, (set_bx_other (ne_of_none h1 hb)).trans h1, h2.set (h2.sub.none hb), h3.set (h2.sub.none hb), h4⟩, (set_bx_other (ne_of_none pl hb)).trans pl⟩
theorem Pst.put (hP : Pst s0 s bp bl L a o d k) {b : Nat} (hb : s0.bx b = none) (h1 : b ≠ bp) (h2 : b ≠ bl) (T : TypeId) (cs : List AV) : Pst s0 (s.set b T cs) bp bl L a o d k := by
  obtain ⟨np, nl, ne, ⟨t1, t2, e1, e2, e3, e4⟩, pl⟩ := hP
  exact ⟨np, nl, ne, ⟨t1, t2, (set_bx_other h1.symm).trans e1, e2.set hb, e3.set hb, e4⟩, (set_bx_other h2.symm).trans pl⟩
/-- A box more that the caller keeps. -/
theorem Pst.keep (hP : Pst s0 s bp bl L a o d k) {b : Nat} {T : TypeId} {cs : List AV} (hb : s.bx b = some (T, cs)) (h1 : b ≠ bp) (h2 : b ≠ bl) : Pst (s0.set b T cs) s bp bl L a o d k := by
  obtain ⟨np, nl, ne, ⟨t1, t2, e1, e2, e3, e4⟩, pl⟩ := hP
  have hs : Sub (s0.set b T cs) s := ⟨fun c x hc => (by
    by_cases hcb : c = b
    · subst hcb; rw [set_bx_same] at hc; rw [← hc]; exact hb
    · rw [set_bx_other hcb] at hc; exact e2.sub.bx c x hc), fun t e m hx => e2.sub.lv t e m (by simpa [Sto.set] using hx)⟩
  exact ⟨(set_bx_other h1.symm).trans np, (set_bx_other h2.symm).trans nl, ne, ⟨t1, t2, e1, ⟨hs, e2.own.imp id fun h => ⟨h.1, h.2.1, fun e m hx => h.2.2 e m (by simpa [Sto.set] using hx)⟩⟩, ⟨hs, e3.own.imp id fun h => ⟨h.1, h.2.1, fun e m hx => h.2.2 e m (by simpa [Sto.set] using hx)⟩⟩, e4⟩, pl⟩
/-- Without what was kept. -/
theorem Pst.drop {b : Nat} {T : TypeId} {cs : List AV} (hP : Pst (s0.set b T cs) s bp bl L a o d k) (hb : s0.bx b = none) : Pst s0 s bp bl L a o d k ∧ s.bx b = some (T, cs) := by
  obtain ⟨np, nl, ne, ⟨t1, t2, e1, e2, e3, e4⟩, pl⟩ := hP
  have hsb : Sub s0 (s0.set b T cs) := (Sub.refl s0).set hb T cs
  have n1 : bp ≠ b := by rintro rfl; rw [set_bx_same] at np; cases np
  have n2 : bl ≠ b := by rintro rfl; rw [set_bx_same] at nl; cases nl
  exact ⟨⟨(set_bx_other n1).symm.trans np, (set_bx_other n2).symm.trans nl, ne, ⟨t1, t2, e1, e2.of_sub hsb, e3.of_sub hsb, e4⟩, pl⟩, e2.sub.bx _ _ set_bx_same⟩
theorem number_ok (hE : Nu.ErrR Γ) (hP : Pst s0 s bp bl L a o d k) (hL : L.length ≤ 100000) (ha : a ≤ 100000) (hT : ∀ i, (peekF L i).2.1.length ≤ 5000) (hn : numbF L a = true) :
    ACalls Tryz.prog Γ 138 [.ptr (some ⟨bp, 0, none⟩)] s (valA s0 bp bl L o d k (valueF L a)) := by
  unfold valueF
  rw [if_pos hn]
  dsimp only
  unfold failF
  have hq : (if isF L a [45] = true then a + 1 else a) ≤ 100001 := by split <;> omega
  have htk := fun {s0 s : Sto} (hP : Pst s0 s bp bl L a o d k) => takeP (Γ := Γ) hP (by omega) ha [45]
  generalize (if isF L a [45] = true then a + 1 else a) = q at *
  generalize isF L a [45] = mi at *
  have hTq := hT q
  have hfl := fun {s : Sto} (hP : Pst s0 s bp bl L q o d k) (e : Int) => fail_ok (Γ := Γ) hP (by omega) (by omega) e
  have hpk := fun {s : Sto} (hb : s.bx bl = some (56, [.slice 0 (toksA L), .int .i64 q])) => peek_ok (Γ := Γ) hb (by omega) (by omega)
  have hev := errV_fail L q
  generalize peekF L q = p at *
  obtain ⟨p1, p2, p3, p4⟩ := p
  simp only [tokA] at hpk
  simp only at hTq
  have hw : IntKind.i64.wrap ((q : Int) + 1) = ((q + 1 : Nat) : Int) := i64_of (by omega) (by omega) (by omega)
  have hpr := fun t (ht : t.length ≤ 5001) => Nu.parse_run (Γ := Γ) t (by omega) hE (fun h => Nu.no_syntax h)
  have hmi : ∀ g : List UInt8, (if mi = true ∧ g ≠ [48] then ([45] : List UInt8) else []) = if g = [48] then [] else if mi = true then [45] else [] := fun g => by
    by_cases hg : g = [48]
    · simp [hg]
    · cases mi <;> simp [hg]
  rw [hmi]
  clear hmi
  refine ACalls.of_awp Tryz.func138 rfl (Nat.le_of_ble_eq_true (by kernel_rfl)) (awp_ok _ (by kernel_rfl) ?_)
  conv => whnf
  intro b2 hb2
  conv => whnf
  have c0 : s0.bx b2 = none := hP.sub.none hb2
  have hn1 : b2 ≠ bp := by rintro rfl; obtain ⟨_, _, h, _⟩ := hP.pr; rw [hb2] at h; cases h
  have hn2 : b2 ≠ bl := by rintro rfl; rw [hP.pl] at hb2; cases hb2
  have hP2 := (hP.box hb2 39 [.int .i64 0, .int .i64 0, .str [], .bool false]).keep set_bx_same hn1 hn2
  cases mi
  · repeat' ((first | (exfalso; first | omega | exact (by assumption : ¬ True) trivial | fail) | refine ⟨Sub.refl _, ?_⟩ | (refine brA_split (fun h => ?_) (fun h => ?_) <;> (try rw [h]) <;> (try simp only [bS, ↓reduceIte] at h)) | (refine ACalls.by (htk hP2) ?_; rintro _ s3 ⟨rfl, hP3⟩) | refine getB_same ?_ | refine AWp.anyA ?_ | refine and_a ?_ | fail) <;> (conv => whnf))
    have hP3' := (hP3.drop c0).1
    have hb23 := (hP3.drop c0).2
    obtain ⟨t1, t2, hb3, _⟩ := hP3'.pr
    conv => whnf
    repeat' ((first | (exfalso; first | omega | exact (by assumption : ¬ True) trivial | fail) | refine ⟨Sub.refl _, ?_⟩ | (refine brA_split (fun h => ?_) (fun h => ?_) <;> (try rw [h]) <;> (try simp only [bS, ↓reduceIte] at h)) | (refine getB_of hb3 ?_) | (refine ACalls.by (hpk hP3'.pl) ?_; rintro _ s4 ⟨rfl, hs4⟩; subst s4) | refine getB_same ?_ | refine AWp.anyA ?_ | refine and_a ?_ | fail) <;> (conv => whnf))
    · have h48 := h
      have hpt := hpr ([] ++ p2) (by simp; omega)
      repeat' ((first | (exfalso; first | omega | exact (by assumption : ¬ True) trivial | fail) | refine ⟨Sub.refl _, ?_⟩ | (refine brA_split (fun h => ?_) (fun h => ?_) <;> (try rw [h]) <;> (try simp only [bS, ↓reduceIte] at h)) | (refine ACalls.pure' ?_ (hpt); rintro _ rfl) | refine DCall.pure ?_ (hpt) | refine getB_same ?_ | refine AWp.anyA ?_ | refine and_a ?_ | fail) <;> (conv => whnf))
      · have hbad := h
        repeat' ((first | (exfalso; first | omega | exact (by assumption : ¬ True) trivial | fail) | refine ⟨Sub.refl _, ?_⟩ | (refine brA_split (fun h => ?_) (fun h => ?_) <;> (try rw [h]) <;> (try simp only [bS, ↓reduceIte] at h)) | (refine ACalls.by (hfl hP3' _) ?_; rintro _ s5 ⟨rfl, hs5⟩; subst s5) | (refine getB_of hb23 ?_) | refine getB_same ?_ | refine AWp.anyA ?_ | refine and_a ?_ | fail) <;> (conv => whnf))
        refine ⟨_, Sub.refl _, ?_⟩
        simp only; rw [if_pos h48]
        rw [if_pos hbad]
        exact ⟨_, _, rfl, hev _, hP3'.put c0 hn1 hn2 _ _⟩
      · have hgood := h
        repeat' ((first | (exfalso; first | omega | exact (by assumption : ¬ True) trivial | fail) | refine ⟨Sub.refl _, ?_⟩ | (refine brA_split (fun h => ?_) (fun h => ?_) <;> (try rw [h]) <;> (try simp only [bS, ↓reduceIte] at h)) | (refine getB_of hb3 ?_) | (refine getB_of hP3'.pl ?_) | (rw [hw]) | (refine getB_of ((set_bx_other hn2).trans hb23) ?_) | refine getB_same ?_ | refine AWp.anyA ?_ | refine and_a ?_ | fail) <;> (conv => whnf))
        refine ⟨_, Sub.refl _, ?_⟩
        simp only; rw [if_pos h48]
        rw [if_neg (fun hh => hh hgood)]
        exact ⟨rfl, (hP3'.next (q + 1)).put c0 hn1 hn2 _ _⟩
    · have h48 := h
      have hpt := hpr ([] ++ p2) (by simp; omega)
      repeat' ((first | (exfalso; first | omega | exact (by assumption : ¬ True) trivial | fail) | refine ⟨Sub.refl _, ?_⟩ | (refine brA_split (fun h => ?_) (fun h => ?_) <;> (try rw [h]) <;> (try simp only [bS, ↓reduceIte] at h)) | (refine ACalls.pure' ?_ (hpt); rintro _ rfl) | refine DCall.pure ?_ (hpt) | refine getB_same ?_ | refine AWp.anyA ?_ | refine and_a ?_ | fail) <;> (conv => whnf))
      · have hbad := h
        repeat' ((first | (exfalso; first | omega | exact (by assumption : ¬ True) trivial | fail) | refine ⟨Sub.refl _, ?_⟩ | (refine brA_split (fun h => ?_) (fun h => ?_) <;> (try rw [h]) <;> (try simp only [bS, ↓reduceIte] at h)) | (refine ACalls.by (hfl hP3' _) ?_; rintro _ s5 ⟨rfl, hs5⟩; subst s5) | (refine getB_of hb23 ?_) | refine getB_same ?_ | refine AWp.anyA ?_ | refine and_a ?_ | fail) <;> (conv => whnf))
        refine ⟨_, Sub.refl _, ?_⟩
        simp only; rw [if_neg h48]; simp only [Bool.false_eq_true, if_false]
        rw [if_pos hbad]
        exact ⟨_, _, rfl, hev _, hP3'.put c0 hn1 hn2 _ _⟩
      · have hgood := h
        repeat' ((first | (exfalso; first | omega | exact (by assumption : ¬ True) trivial | fail) | refine ⟨Sub.refl _, ?_⟩ | (refine brA_split (fun h => ?_) (fun h => ?_) <;> (try rw [h]) <;> (try simp only [bS, ↓reduceIte] at h)) | (refine getB_of hb3 ?_) | (refine getB_of hP3'.pl ?_) | (rw [hw]) | (refine getB_of ((set_bx_other hn2).trans hb23) ?_) | refine getB_same ?_ | refine AWp.anyA ?_ | refine and_a ?_ | fail) <;> (conv => whnf))
        refine ⟨_, Sub.refl _, ?_⟩
        simp only; rw [if_neg h48]; simp only [Bool.false_eq_true, if_false]
        rw [if_neg (fun hh => hh hgood)]
        exact ⟨rfl, (hP3'.next (q + 1)).put c0 hn1 hn2 _ _⟩
  · repeat' ((first | (exfalso; first | omega | exact (by assumption : ¬ True) trivial | fail) | refine ⟨Sub.refl _, ?_⟩ | (refine brA_split (fun h => ?_) (fun h => ?_) <;> (try rw [h]) <;> (try simp only [bS, ↓reduceIte] at h)) | (refine ACalls.by (htk hP2) ?_; rintro _ s3 ⟨rfl, hP3⟩) | refine getB_same ?_ | refine AWp.anyA ?_ | refine and_a ?_ | fail) <;> (conv => whnf))
    have hP3' := (hP3.drop c0).1
    have hb23 := (hP3.drop c0).2
    obtain ⟨t1, t2, hb3, _⟩ := hP3'.pr
    conv => whnf
    repeat' ((first | (exfalso; first | omega | exact (by assumption : ¬ True) trivial | fail) | refine ⟨Sub.refl _, ?_⟩ | (refine brA_split (fun h => ?_) (fun h => ?_) <;> (try rw [h]) <;> (try simp only [bS, ↓reduceIte] at h)) | (refine getB_of hb3 ?_) | (refine ACalls.by (hpk hP3'.pl) ?_; rintro _ s4 ⟨rfl, hs4⟩; subst s4) | refine getB_same ?_ | refine AWp.anyA ?_ | refine and_a ?_ | fail) <;> (conv => whnf))
    · have h48 := h
      have hpt := hpr ([] ++ p2) (by simp; omega)
      repeat' ((first | (exfalso; first | omega | exact (by assumption : ¬ True) trivial | fail) | refine ⟨Sub.refl _, ?_⟩ | (refine brA_split (fun h => ?_) (fun h => ?_) <;> (try rw [h]) <;> (try simp only [bS, ↓reduceIte] at h)) | (refine ACalls.pure' ?_ (hpt); rintro _ rfl) | refine DCall.pure ?_ (hpt) | refine getB_same ?_ | refine AWp.anyA ?_ | refine and_a ?_ | fail) <;> (conv => whnf))
      · have hbad := h
        repeat' ((first | (exfalso; first | omega | exact (by assumption : ¬ True) trivial | fail) | refine ⟨Sub.refl _, ?_⟩ | (refine brA_split (fun h => ?_) (fun h => ?_) <;> (try rw [h]) <;> (try simp only [bS, ↓reduceIte] at h)) | (refine ACalls.by (hfl hP3' _) ?_; rintro _ s5 ⟨rfl, hs5⟩; subst s5) | (refine getB_of hb23 ?_) | refine getB_same ?_ | refine AWp.anyA ?_ | refine and_a ?_ | fail) <;> (conv => whnf))
        refine ⟨_, Sub.refl _, ?_⟩
        simp only; rw [if_pos h48]
        rw [if_pos hbad]
        exact ⟨_, _, rfl, hev _, hP3'.put c0 hn1 hn2 _ _⟩
      · have hgood := h
        repeat' ((first | (exfalso; first | omega | exact (by assumption : ¬ True) trivial | fail) | refine ⟨Sub.refl _, ?_⟩ | (refine brA_split (fun h => ?_) (fun h => ?_) <;> (try rw [h]) <;> (try simp only [bS, ↓reduceIte] at h)) | (refine getB_of hb3 ?_) | (refine getB_of hP3'.pl ?_) | (rw [hw]) | (refine getB_of ((set_bx_other hn2).trans hb23) ?_) | refine getB_same ?_ | refine AWp.anyA ?_ | refine and_a ?_ | fail) <;> (conv => whnf))
        refine ⟨_, Sub.refl _, ?_⟩
        simp only; rw [if_pos h48]
        rw [if_neg (fun hh => hh hgood)]
        exact ⟨rfl, (hP3'.next (q + 1)).put c0 hn1 hn2 _ _⟩
    · have h48 := h
      have hpt := hpr ([45] ++ p2) (by simp; omega)
      repeat' ((first | (exfalso; first | omega | exact (by assumption : ¬ True) trivial | fail) | refine ⟨Sub.refl _, ?_⟩ | (refine brA_split (fun h => ?_) (fun h => ?_) <;> (try rw [h]) <;> (try simp only [bS, ↓reduceIte] at h)) | (refine ACalls.pure' ?_ (hpt); rintro _ rfl) | refine DCall.pure ?_ (hpt) | refine getB_same ?_ | refine AWp.anyA ?_ | refine and_a ?_ | fail) <;> (conv => whnf))
      · have hbad := h
        repeat' ((first | (exfalso; first | omega | exact (by assumption : ¬ True) trivial | fail) | refine ⟨Sub.refl _, ?_⟩ | (refine brA_split (fun h => ?_) (fun h => ?_) <;> (try rw [h]) <;> (try simp only [bS, ↓reduceIte] at h)) | (refine ACalls.by (hfl hP3' _) ?_; rintro _ s5 ⟨rfl, hs5⟩; subst s5) | (refine getB_of hb23 ?_) | refine getB_same ?_ | refine AWp.anyA ?_ | refine and_a ?_ | fail) <;> (conv => whnf))
        refine ⟨_, Sub.refl _, ?_⟩
        simp only; rw [if_neg h48]; simp only [if_true]
        rw [if_pos hbad]
        exact ⟨_, _, rfl, hev _, hP3'.put c0 hn1 hn2 _ _⟩
      · have hgood := h
        repeat' ((first | (exfalso; first | omega | exact (by assumption : ¬ True) trivial | fail) | refine ⟨Sub.refl _, ?_⟩ | (refine brA_split (fun h => ?_) (fun h => ?_) <;> (try rw [h]) <;> (try simp only [bS, ↓reduceIte] at h)) | (refine getB_of hb3 ?_) | (refine getB_of hP3'.pl ?_) | (rw [hw]) | (refine getB_of ((set_bx_other hn2).trans hb23) ?_) | refine getB_same ?_ | refine AWp.anyA ?_ | refine and_a ?_ | fail) <;> (conv => whnf))
        refine ⟨_, Sub.refl _, ?_⟩
        simp only; rw [if_neg h48]; simp only [if_true]
        rw [if_neg (fun hh => hh hgood)]
        exact ⟨rfl, (hP3'.next (q + 1)).put c0 hn1 hn2 _ _⟩
end
end Go.Proofs.YthpnfflkkmpejaaGreatDoor.Pa
