/- Part 4 of what the closing text needs: PaK1, PaU, PaV, PaF, PaG, PaH, PaI, PaJ, Gr2, PaK2, PaL, PaM, AsP, IsP, PaN, PaW, PaX, PaZ1. No condition of mine beyond those that the theorems name. -/
import Derived.Test.YthpnfflkkmpejaaGreatDoorAb27
import Derived.Test.YthpnfflkkmpejaaGreatDoorProg
import Derived.Shelf.Spec.SlicesGrow
import Derived.Laws.AppendOwn
import Derived.Test.YthpnfflkkmpejaaGreatDoorChecked
import Derived.WalkKit
import Derived.LaidEql
import Derived.Stop.Asserts
import Derived.RowKitTokens
set_option linter.all false
namespace Go.Proofs.YthpnfflkkmpejaaGreatDoor.Pa
open Go Go.Ab Go.RowKit
variable {Γ : Nat → AV}
attribute [local irreducible] APure Sto.set Sto.grow
set_option maxRecDepth 10000
set_option maxHeartbeats 1000000
section
variable {s : Sto}
/-- A node of nothing. -/
def zx : List AV := [.int .i64 0, .int .i64 0, .int .i64 0, .str [], .int .i64 0, .int .i64 0, .str [], .bool false, .int .i64 0, .int .i64 0]
theorem clone_ok {tk : Nat} {l : List Ex} (hl : l ≠ []) (hn : l.length ≤ 1000000) :
    ACalls Tryz.prog Γ 119 [.slice tk (exsA l)] s fun v s' => ∃ b cap, v = .raw (some ⟨b, 0, none⟩) l.length cap ∧ l.length ≤ cap ∧ s.bx b = none ∧ s' = s.set b 41 ((exsA l).flatten ++ (List.replicate (cap - l.length) zx).flatten) := by
  cases l with
  | nil => exact absurd rfl hl
  | cons c l =>
  refine ACalls.of_awp Tryz.func119 rfl (Nat.le_of_ble_eq_true (by kernel_rfl)) ?_
  refine AWp.seq (awp_ok _ (by kernel_rfl) ?_)
  conv => whnf
  refine AWp.seq (awp_ok _ (by kernel_rfl) ?_)
  conv => whnf
  refine AWp.seq (AWp.regionS 1 (by kernel_rfl) ?_)
  conv => whnf
  refine ⟨Nat.le_of_ble_eq_true (by kernel_rfl), rfl, rfl, all_nil, ?_⟩
  conv => whnf
  refine Reread.raw 5 rfl fun a => ?_
  conv => whnf
  refine ⟨by simp [exsA], fun x hx => ?_, ?_, fun _ b cap h1 h2 => ?_, fun h => absurd ⟨rfl, rfl⟩ h⟩
  · obtain ⟨y, _, rfl⟩ := List.mem_map.1 hx
    exact ⟨rfl, rfl⟩
  · rw [exsA_len]
    show (0 + (c :: l).length) * (96 + 1) ≤ 140737488355328
    omega
  rw [exsA_len] at h1
  rw [exsA_len]
  conv => whnf
  refine awp_ok _ (by kernel_rfl) ?_
  conv => whnf
  exact ⟨_, Sub.refl _, b, cap, rfl, h1, h2, rfl⟩
theorem drop_at {P Q : List AV} {x : Ex} {i : Nat} (hP : P.length = i * 10) (j : Nat) : (P ++ (exA x ++ Q)).drop (0 + ((i : Nat) : Int).toNat * 10 + j) = (exA x ++ Q).drop j := by
  rw [show (0 + ((i : Nat) : Int).toNat * 10 + j) = P.length + j by rw [hP]; simp, ← List.drop_drop, List.drop_left]
theorem aload_of {P : Program} {T : TypeId} {K : AV → Prop} {cs r : List AV} {o : Nat} (h : cs.drop o = r) (k : aload P T r K) : aload P T (cs.drop o) K := h ▸ k
theorem frcL_of {K : List AV → Prop} {l r : List AV} (h : l = r) (k : K r) : frcL l K := by rw [frcL_eq, h]; exact k
theorem put_at {P Q : List AV} {x x' : Ex} {c : AV} {i : Nat} (hP : P.length = i * 10) (j : Nat) (hj : j < 10) (h : (exA x).set j c = exA x') :
    (P ++ (exA x ++ Q)).take (0 + ((i : Nat) : Int).toNat * 10 + j) ++ [c] ++ (P ++ (exA x ++ Q)).drop (0 + ((i : Nat) : Int).toNat * 10 + j + 1) = P ++ (exA x' ++ Q) := by
  rw [← h, show (0 + ((i : Nat) : Int).toNat * 10 + j) = P.length + j by rw [hP]; simp]
  have hx : (exA x).length = 10 := rfl
  rw [Nat.add_assoc, ← List.drop_drop, List.drop_left, List.take_append, List.take_of_length_le (by omega), Nat.add_sub_cancel_left, List.set_eq_take_append_cons_drop]
  rw [if_pos (by omega), List.take_append_of_le_length (by omega), List.drop_append_of_le_length (by omega)]
  simp
theorem chunks_exs (z : List AV) : ∀ l : List Ex, chunks 10 l.length ((exsA l).flatten ++ z) = exsA l
  | [] => rfl
  | x :: l => by
    have ih := chunks_exs z l
    rw [show (exsA (x :: l)).flatten ++ z = exA x ++ ((exsA l).flatten ++ z) by simp [exsA], List.length_cons]
    show (exA x ++ ((exsA l).flatten ++ z)).take 10 :: chunks 10 l.length ((exA x ++ ((exsA l).flatten ++ z)).drop 10) = _
    rw [List.take_left' (show (exA x).length = 10 from rfl), List.drop_left' (show (exA x).length = 10 from rfl), ih]
    rfl
theorem fgE_exs (l : List Ex) : fgE (exsA l) = exsA l := fgE_map (A := exA) (fun _ => rfl) l
theorem flat_len : ∀ m : List Ex, (exsA m).flatten.length = m.length * 10
  | [] => rfl
  | y :: m => by rw [show exsA (y :: m) = exA y :: exsA m from rfl, List.flatten_cons, List.length_append, flat_len m, List.length_cons, show (exA y).length = 10 from rfl]; omega
/-- A node in a box of nodes. -/
theorem shift_ok {tk : Nat} {l : List Ex} {by_ : Int} (hl : l ≠ []) (hn : l.length ≤ 100000) :
    APure Tryz.prog Γ 96 [.slice tk (exsA l), .int .i64 by_] fun v => v = .slice 0 (exsA (l.map (shiftX by_))) := by
  unfold APure; intro s
  have h1 : ACalls Tryz.prog Γ 96 [.slice tk (exsA l), .int .i64 by_] s fun v s' => ∃ b cap z, v = .raw (some ⟨b, 0, none⟩) l.length cap ∧ l.length ≤ cap ∧ s.bx b = none ∧ s'.bx b = some (41, (exsA (l.map (shiftX by_))).flatten ++ z) ∧ Sub s s' := by
    have hcl := clone_ok (Γ := Γ) (s := s) (tk := tk) hl (by omega)
    refine ACalls.of_awp Tryz.func96 rfl (Nat.le_of_ble_eq_true (by kernel_rfl)) (awp_ok _ (by kernel_rfl) ?_)
    conv => whnf
    repeat' ((first | (exfalso; first | omega | exact (by assumption : ¬ True) trivial | fail) | refine ⟨Sub.refl _, ?_⟩ | (refine brA_split (fun h => ?_) (fun h => ?_) <;> (try rw [h]) <;> (try simp only [bS, ↓reduceIte] at h)) | (refine ACalls.by hcl ?_; rintro _ s2 ⟨b, cap, rfl, hcap, hb, hs2⟩) | refine getB_same ?_ | refine AWp.anyA ?_ | refine and_a ?_ | fail) <;> (conv => whnf))
    have hs2' : Sub s s2 := by rw [hs2]; exact (Sub.refl s).set hb _ _
    have hb2 : s2.bx b = some (41, (exsA l).flatten ++ (List.replicate (cap - l.length) zx).flatten) := by rw [hs2]; exact set_bx_same
    generalize (List.replicate (cap - l.length) zx).flatten = z at *
    refine AWp.loopA [11] [12, 13, 6, 14, 15, 16, 17, 18, 19, 20, 21, 22, 23, 24, 25, 26, 27, 28, 29, 30, 31, 32, 33, 34, 35, 36, 37, 38, 39, 40, 41, 42, 43, 44, 45, 46, 47, 48, 49, 50, 51, 52] (fun i : Nat => [.int .i64 (i : Int)]) (fun i s' => i ≤ l.length ∧ s'.bx b = some (41, (exsA ((l.take i).map (shiftX by_))).flatten ++ ((exsA (l.drop i)).flatten ++ z)) ∧ Sub s s') (fun i => l.length - i) (0) (by kernel_rfl) (eqa) ?_ ?_
    · refine ⟨Nat.zero_le _, ?_, hs2'⟩
      rw [hb2]; rfl
    · rintro y i s' ⟨hi, hbx, hsub⟩
      show awp _ _ _ _ _ (updL _ _ [.int .i64 ((i : Nat) : Int)]) _
      conv => whnf
      by_cases hlt : i < l.length
      · rw [List.drop_eq_getElem_cons hlt] at hbx
        generalize hx : l[i] = x at *
        have hP : (exsA ((l.take i).map (shiftX by_))).flatten.length = i * 10 := by
          rw [flat_len, List.length_map, List.length_take]
          rw [Nat.min_eq_left hi]
        obtain ⟨Q, hQ⟩ : ∃ Q, (exsA (l.drop (i + 1))).flatten ++ z = Q := ⟨_, rfl⟩
        have hfin : ∀ {s'' : Sto} {x' : Ex}, s''.bx b = some (41, (exsA ((l.take i).map (shiftX by_))).flatten ++ (exA x' ++ Q)) → x' = shiftX by_ x → s''.bx b = some (41, (exsA ((l.take (i + 1)).map (shiftX by_))).flatten ++ ((exsA (l.drop (i + 1))).flatten ++ z)) := by
          rintro s'' x' h1 rfl
          rw [h1, ← hQ, List.take_succ_eq_append_getElem hlt, hx]
          simp [exsA]
        generalize (exsA ((l.take i).map (shiftX by_))).flatten = P at *
        replace hbx : s'.bx b = some (41, P ++ (exA x ++ Q)) := by rw [hbx, ← hQ]; simp [exsA]
        clear hQ
        have hlen : ∀ x : Ex, (P ++ (exA x ++ Q)).length = i * 10 + (10 + Q.length) := fun x => by rw [List.length_append, List.length_append, hP]; rfl
        have hfit : ∀ (x : Ex) (j : Nat), j < 10 → 0 + ((i : Nat) : Int).toNat * 10 + j + 1 ≤ (P ++ (exA x ++ Q)).length := fun x j hj => by rw [hlen]; simp; omega
        by_cases h4 : x.op < 4
        · have d4 : decide (x.op < 4) = true := by simp [h4]
          repeat' ((first | (exfalso; first | omega | exact (by assumption : ¬ True) trivial | fail) | refine ⟨Sub.refl _, ?_⟩ | (refine brA_split (fun h => ?_) (fun h => ?_) <;> (try rw [h]) <;> (try simp only [bS, ↓reduceIte] at h)) | (rw [d4]) | (refine getB_of hbx ?_; refine aload_of (drop_at hP _) ?_) | refine getB_same ?_ | refine AWp.anyA ?_ | refine and_a ?_ | fail) <;> (conv => whnf))
          exact ⟨i + 1, eqa, samea, ⟨hlt, hfin hbx (by simp [shiftX, h4]), hsub⟩, by omega⟩
        · have d4 : decide (x.op < 4) = false := by simp [h4]
          repeat' ((first | (exfalso; first | omega | exact (by assumption : ¬ True) trivial | fail) | refine ⟨Sub.refl _, ?_⟩ | (refine brA_split (fun h => ?_) (fun h => ?_) <;> (try rw [h]) <;> (try simp only [bS, ↓reduceIte] at h)) | (rw [d4]) | (refine getB_of hbx ?_; refine aload_of (drop_at hP _) ?_) | refine getB_same ?_ | refine AWp.anyA ?_ | refine and_a ?_ | fail) <;> (conv => whnf))
          · have h16 : 16 < x.op := by assumption
            exact ⟨i + 1, eqa, samea, ⟨hlt, hfin hbx (by simp [shiftX, h16]), hsub⟩, by omega⟩
          have h16 : ¬ 16 < x.op := by assumption
          refine getB_of hbx ?_
          conv => whnf
          refine ⟨rfl, rfl, hfit x 1 (by decide), frcL_of (put_at (x' := { x with a := IntKind.i64.wrap (x.a + by_) }) hP _ (by decide) rfl) ?_⟩
          conv => whnf
          have hsub2 := fun cs => hsub.set hb 41 cs
          repeat' ((first | (exfalso; first | omega | exact (by assumption : ¬ True) trivial | fail) | refine ⟨Sub.refl _, ?_⟩ | (refine brA_split (fun h => ?_) (fun h => ?_) <;> (try rw [h]) <;> (try simp only [bS, ↓reduceIte] at h)) | (refine getB_of set_bx_same ?_; refine aload_of (drop_at hP _) ?_) | refine getB_same ?_ | refine AWp.anyA ?_ | refine and_a ?_ | fail) <;> (conv => whnf))
          · have h5 : 5 < x.op := by assumption
            refine ⟨hfit _ 2 (by decide), frcL_of (put_at (x' := { x with a := IntKind.i64.wrap (x.a + by_), b := IntKind.i64.wrap (x.b + by_) }) hP _ (by decide) rfl) ?_⟩
            conv => whnf
            repeat' ((first | (exfalso; first | omega | exact (by assumption : ¬ True) trivial | fail) | refine ⟨Sub.refl _, ?_⟩ | (refine brA_split (fun h => ?_) (fun h => ?_) <;> (try rw [h]) <;> (try simp only [bS, ↓reduceIte] at h)) | refine getB_same ?_ | refine AWp.anyA ?_ | refine and_a ?_ | fail) <;> (conv => whnf))
            exact ⟨i + 1, eqa, samea, ⟨hlt, hfin (x' := { x with a := IntKind.i64.wrap (x.a + by_), b := IntKind.i64.wrap (x.b + by_) }) set_bx_same (by simp [shiftX, h4, h16, h5]), (hsub2 _).set hb _ _⟩, by omega⟩
          · have h5 : ¬ 5 < x.op := by assumption
            exact ⟨i + 1, eqa, samea, ⟨hlt, hfin (x' := { x with a := IntKind.i64.wrap (x.a + by_) }) set_bx_same (by simp [shiftX, h4, h16, h5]), hsub2 _⟩, by omega⟩
      · obtain rfl : i = l.length := by omega
        repeat' ((first | (exfalso; first | omega | exact (by assumption : ¬ True) trivial | fail) | refine ⟨Sub.refl _, ?_⟩ | (refine brA_split (fun h => ?_) (fun h => ?_) <;> (try rw [h]) <;> (try simp only [bS, ↓reduceIte] at h)) | refine getB_same ?_ | refine AWp.anyA ?_ | refine and_a ?_ | fail) <;> (conv => whnf))
        rw [List.take_length, List.drop_length] at hbx
        exact ⟨_, Sub.refl _, b, cap, z, rfl, hcap, hb, hbx, hsub⟩
  refine h1.frz ?_
  rintro v s' ⟨b, cap, z, rfl, hcap, hb, hbx, hsub⟩
  refine ⟨fz1 b 10 ((exsA (l.map (shiftX by_))).flatten ++ z), s, fz1_of hb hbx, hsub, ?_, rfl⟩
  have hch := chunks_exs z (l.map (shiftX by_))
  rw [List.length_map] at hch
  show fg (fz _ _) = _
  unfold fz fzW
  simp only [fz1_at]
  rw [if_pos ⟨hcap, by rw [List.drop_zero, List.length_append, flat_len, List.length_map]; omega⟩, List.drop_zero, hch]
  unfold fg
  rw [fgE_exs]
end
end Go.Proofs.YthpnfflkkmpejaaGreatDoor.Pa
namespace Go.Proofs.YthpnfflkkmpejaaGreatDoor.Pa
open Go Go.Ab Go.RowKit Go.Proofs.YthpnfflkkmpejaaGreatDoor.Lx
variable {Γ : Nat → AV}
attribute [local irreducible] APure Sto.set Sto.grow
set_option maxRecDepth 10000
set_option maxHeartbeats 2000000
theorem exsA_at {o : List Ex} {i : Nat} (h : i < o.length) : (exsA o).getD i [] = exA (exAt o i) := by simp [exsA, exAt, List.getD, h]
/-- How deep a node is, by the document: what the table says. -/
theorem rDeep_ok {o : List Ex} {d : List Int} {lo hi : Nat} (hlo : lo = 0) (ho : o.length ≤ 100000) (hhi : hi ≤ o.length) (hT : ∀ i, i < hi → NodeOk (exAt o i) d lo i) (hw : ∀ i, i < hi → 1 ≤ dAt d i ∧ dAt d i ≤ 65) (tk : Nat) :
    ∀ (m i : Nat), i < m → i < hi → APure Tryz.prog Γ 31 [.slice tk (exsA o), .int .i64 i] fun v => v = .int .i64 (dAt d i)
  | 0, i, h, _ => absurd h (Nat.not_lt_zero _)
  | m + 1, i, him, hi' => by
    have ih := fun j (h1 : j < m) (h2 : j < hi) => rDeep_ok hlo ho hhi hT hw tk m j h1 h2
    have hg := exsA_at (o := o) (i := i) (by omega)
    have hn := hT i hi'
    have hwi := hw i hi'
    have hol := exsA_len o
    have hil : i < (exsA o).length := by omega
    generalize exAt o i = x at *
    obtain ⟨x1, x2, x3, x4, x5, x6, x7, x8, x9, x10⟩ := x
    simp only [exA] at hg
    subst hlo
    rcases hn with ⟨h1, h2⟩ | ⟨h1, a, h2, h3, h4, h5⟩ | ⟨h1, a, b, h2, h3, h4, h5, h6, h7, h8⟩
    · simp only at h1
      rw [h2]
      clear ih hT hw
      refine APure.of_awp Tryz.func31 rfl (Nat.le_of_ble_eq_true (by kernel_rfl)) (by kernel_rfl) ?_
      intro s
      conv => whnf
      repeat' ((first | refine ⟨Sub.refl _, ?_⟩ | (refine brA_split (fun h => ?_) (fun h => ?_) <;> (try rw [h]) <;> (try simp only [bN, bS, ↓reduceIte] at h) <;> (first | (exfalso; first | contradiction | omega | exact (by assumption : ¬ True) trivial | fail) | skip)) | refine ⟨len_of (hg) rfl, Go.Ab.frcL_of (hg) ?_⟩ | refine getB_same ?_ | refine AWp.anyA ?_ | refine and_a ?_ | fail) <;> (conv => whnf))
      all_goals first | rfl | fail
    · simp only at h1 h2
      have ia := ih a (by omega) (by omega)
      have wa := hw a (by omega)
      have ew : IntKind.i64.wrap (dAt d a + 1) = dAt d i := i64_of (by omega) (by omega) (by omega)
      rw [← h2] at ia
      clear ih hT hw
      refine APure.of_awp Tryz.func31 rfl (Nat.le_of_ble_eq_true (by kernel_rfl)) (by kernel_rfl) ?_
      intro s
      conv => whnf
      repeat' ((first | refine ⟨Sub.refl _, ?_⟩ | (refine brA_split (fun h => ?_) (fun h => ?_) <;> (try rw [h]) <;> (try simp only [bN, bS, ↓reduceIte] at h) <;> (first | (exfalso; first | contradiction | omega | exact (by assumption : ¬ True) trivial | fail) | skip)) | refine ⟨len_of (hg) rfl, Go.Ab.frcL_of (hg) ?_⟩ | (refine ACalls.pure' ?_ (ia); rintro _ rfl) | refine DCall.pure ?_ (ia) | (rw [ew]) | refine getB_same ?_ | refine AWp.anyA ?_ | refine and_a ?_ | fail) <;> (conv => whnf))
      all_goals first | rfl | fail
    · simp only at h1 h2 h3
      have ia := ih a (by omega) (by omega)
      have ib := ih b (by omega) (by omega)
      have wa := hw a (by omega)
      have wb := hw b (by omega)
      have ew : IntKind.i64.wrap ((if dAt d b > dAt d a then dAt d b else dAt d a) + 1) = dAt d i := i64_of h8.symm (by omega) (by omega)
      rw [← h2] at ia
      rw [← h3] at ib
      clear ih hT hw
      refine APure.of_awp Tryz.func31 rfl (Nat.le_of_ble_eq_true (by kernel_rfl)) (by kernel_rfl) ?_
      intro s
      conv => whnf
      repeat' ((first | refine ⟨Sub.refl _, ?_⟩ | (refine brA_split (fun h => ?_) (fun h => ?_) <;> (try rw [h]) <;> (try simp only [bN, bS, ↓reduceIte] at h) <;> (first | (exfalso; first | contradiction | omega | exact (by assumption : ¬ True) trivial | fail) | skip)) | refine ⟨len_of (hg) rfl, Go.Ab.frcL_of (hg) ?_⟩ | (refine ACalls.pure' ?_ (ia); rintro _ rfl) | refine DCall.pure ?_ (ia) | (refine ACalls.pure' ?_ (ib); rintro _ rfl) | refine DCall.pure ?_ (ib) | (rw [ew]) | refine getB_same ?_ | refine AWp.anyA ?_ | refine and_a ?_ | fail) <;> (conv => whnf))
      all_goals first | rfl | fail
/-- A table of depths that fits its nodes. -/
structure Fit (o : List Ex) (d : List Int) : Prop where
  len : d.length = o.length
  ok : ∀ i, i < o.length → NodeOk (exAt o i) d 0 i
  low : ∀ i, i < o.length → 1 ≤ dAt d i ∧ dAt d i ≤ 64
/-- Where a node's children are. -/
def Kids (x : Ex) (u : List Int) (n : Nat) : Prop :=
  (u = [] ∧ (x.op = 1 ∨ x.op = 17)) ∨ (∃ a : Nat, u = [(a : Int)] ∧ x.a = a ∧ (x.op = 4 ∨ x.op = 5) ∧ a < n) ∨ (∃ a b : Nat, u = [(a : Int), (b : Int)] ∧ x.a = a ∧ x.b = b ∧ (6 ≤ x.op ∧ x.op ≤ 16) ∧ a < n ∧ b < n)
theorem fit_new {o : List Ex} {d u : List Int} {x : Ex} (ln cl : Int) (h : Fit o d) (hk : Kids x u o.length) : NodeOk { x with ln := ln, cl := cl } (d ++ [deepF d u 1]) 0 o.length ∧ 1 ≤ deepF d u 1 ∧ deepF d u 1 ≤ 65 := by
  have hdn : dAt (d ++ [deepF d u 1]) o.length = deepF d u 1 := by rw [dAt_right (Nat.le_of_eq h.len)]; simp [dAt, h.len]
  have hdl : ∀ k, k < o.length → dAt (d ++ [deepF d u 1]) k = dAt d k := fun k hk => dAt_left (by rw [h.len]; exact hk)
  rcases hk with ⟨rfl, h1⟩ | ⟨a, rfl, h1, h2, h3⟩ | ⟨a, b, rfl, h1, h2, h3, h4, h5⟩
  · exact ⟨.inl ⟨h1, hdn⟩, by simp [deepF], by simp [deepF]⟩
  · have e := deepF_one (h.low a h3)
    have := h.low a h3
    exact ⟨.inr (.inl ⟨h2, a, h1, Nat.zero_le _, h3, by rw [hdn, hdl a h3]; exact e⟩), by omega, by omega⟩
  · have e := deepF_two (h.low a h4) (h.low b h5)
    have := h.low a h4
    have := h.low b h5
    exact ⟨.inr (.inr ⟨h3, a, b, h1, h2, Nat.zero_le _, h4, Nat.zero_le _, h5, by rw [hdn, hdl a h4, hdl b h5]; exact e⟩), by rw [e]; split <;> omega, by rw [e]; split <;> omega⟩
theorem fit_push {o : List Ex} {d u : List Int} {x : Ex} (ln cl : Int) (h : Fit o d) (hk : Kids x u o.length) (h64 : ¬ 64 < deepF d u 1) : Fit (o ++ [{ x with ln := ln, cl := cl }]) (d ++ [deepF d u 1]) := by
  obtain ⟨n1, n2, _⟩ := fit_new ln cl h hk
  have hdn : dAt (d ++ [deepF d u 1]) o.length = deepF d u 1 := by rw [dAt_right (Nat.le_of_eq h.len)]; simp [dAt, h.len]
  have hdl : ∀ k, k < o.length → dAt (d ++ [deepF d u 1]) k = dAt d k := fun k hk => dAt_left (by rw [h.len]; exact hk)
  refine ⟨by simp [h.len], fun i hi => ?_, fun i hi => ?_⟩
  · simp only [List.length_append, List.length_cons, List.length_nil] at hi
    by_cases he : i = o.length
    · subst he; rw [exAt_right (Nat.le_refl _)]; simpa [exAt] using n1
    · rw [exAt_left (by omega)]
      exact (h.ok i (by omega)).agree (Nat.le_refl _) (Nat.zero_le _) fun k _ hk => hdl k (by omega)
  · simp only [List.length_append, List.length_cons, List.length_nil] at hi
    by_cases he : i = o.length
    · subst he; rw [hdn]; omega
    · rw [hdl i (by omega)]; exact h.low i (by omega)
theorem rNode_dead (L : List Tok) {p : Pl} (hp : p.e ≠ 0) (tk : Nat) (i : Int) (o : List Ex) (x : Ex) : APure Tryz.prog Γ 18 [.slice tk (toksA L), .agg (plA p), .int .i64 i, .slice 0 (exsA o), .agg (exA x)] fun v => v = .tuple [.slice 0 (exsA o), .agg (plA p)] := by
  obtain ⟨a, e0, ln, cl, k⟩ := p
  obtain ⟨x1, x2, x3, x4, x5, x6, x7, x8, x9, x10⟩ := x
  simp only at hp
  simp only [plA, exA]
  refine APure.of_awp Tryz.func18 rfl (Nat.le_of_ble_eq_true (by kernel_rfl)) (by kernel_rfl) ?_
  intro s
  conv => whnf
  intro b6 hb6
  have k_b6 := hb6
  repeat replace k_b6 := none_of_set k_b6
  conv => whnf
  intro b9 hb9
  have k_b9 := hb9
  repeat replace k_b9 := none_of_set k_b9
  have n_b6_b9 : b6 ≠ b9 := by (have k := hb9; repeat (first | exact ne_set k | replace k := none_of_set k))
  have n_b9_b6 := n_b6_b9.symm
  conv => whnf
  repeat' ((first | refine ⟨Sub.refl _, ?_⟩ | (refine brA_split (fun h => ?_) (fun h => ?_) <;> (try rw [h]) <;> (try simp only [bN, bS, ↓reduceIte] at h) <;> (first | (exfalso; first | contradiction | omega | exact (by assumption : ¬ True) trivial | fail) | skip)) | refine getB_a ?_ | refine getB_same ?_ | refine AWp.anyA ?_ | refine and_a ?_ | fail) <;> (conv => whnf))
  intro b11 hb11
  have k_b11 := hb11
  repeat replace k_b11 := none_of_set k_b11
  have n_b6_b11 : b6 ≠ b11 := by (have k := hb11; repeat (first | exact ne_set k | replace k := none_of_set k))
  have n_b11_b6 := n_b6_b11.symm
  have n_b9_b11 : b9 ≠ b11 := by (have k := hb11; repeat (first | exact ne_set k | replace k := none_of_set k))
  have n_b11_b9 := n_b9_b11.symm
  conv => whnf
  repeat' ((first | refine ⟨Sub.refl _, ?_⟩ | (refine brA_split (fun h => ?_) (fun h => ?_) <;> (try rw [h]) <;> (try simp only [bN, bS, ↓reduceIte] at h) <;> (first | (exfalso; first | contradiction | omega | exact (by assumption : ¬ True) trivial | fail) | skip)) | refine getB_a ?_ | refine getB_same ?_ | refine AWp.anyA ?_ | refine and_a ?_ | fail) <;> (conv => whnf))
  all_goals first | exact ⟨suba, rfl⟩ | fail
theorem rNode_ok (L : List Tok) {i : Nat} (hi : i < L.length) {o : List Ex} {d u : List Int} {x : Ex} (hf : Fit o d) (ho : o.length ≤ 90000) (hk : Kids x u o.length) (a : Nat) (k : Int) (tk : Nat) :
    APure Tryz.prog Γ 18 [.slice tk (toksA L), .agg (plA (alv a k)), .int .i64 i, .slice 0 (exsA o), .agg (exA x)] fun v => v = .tuple [.slice 0 (exsA (o ++ [{ x with ln := (L.getD i noTok).2.2.1, cl := (L.getD i noTok).2.2.2 }])), .agg (plA (if 64 < deepF d u 1 then ⟨a, 13, (L.getD i noTok).2.2.1, (L.getD i noTok).2.2.2, k⟩ else alv a k))] := by
  have htl := toksA_len L
  have hg := toksA_at hi
  generalize L.getD i noTok = z at *
  obtain ⟨z1, z2, z3, z4⟩ := z
  simp only [tokA] at hg
  simp only
  obtain ⟨n1, n2, n3⟩ := fit_new z3 z4 hf hk
  have hdl : (d ++ [deepF d u 1]).length = o.length + 1 := by simp [hf.len]
  have hde := fun tk => rDeep_ok (Γ := Γ) (o := o ++ [{ x with ln := z3, cl := z4 }]) (d := d ++ [deepF d u 1]) (lo := 0) (hi := o.length + 1) rfl (by simp; omega) (by simp) (fun j hj => by
    by_cases he : j = o.length
    · subst he; rw [exAt_right (Nat.le_refl _)]; simpa [exAt] using n1
    · rw [exAt_left (by omega)]
      exact (hf.ok j (by omega)).agree (Nat.le_refl _) (Nat.zero_le _) fun q _ hq => dAt_left (by rw [hf.len]; omega)) (fun j hj => by
    by_cases he : j = o.length
    · subst he; rw [dAt_right (Nat.le_of_eq hf.len)]; simp [dAt, hf.len]; omega
    · rw [dAt_left (by rw [hf.len]; omega)]; have := hf.low j (by omega); omega) tk (o.length + 1) o.length (by omega) (by omega)
  rw [show dAt (d ++ [deepF d u 1]) o.length = deepF d u 1 by rw [dAt_right (Nat.le_of_eq hf.len)]; simp [dAt, hf.len]] at hde
  have hol := exsA_len o
  have hln : IntKind.i64.wrap (((exsA (o ++ [{ x with ln := z3, cl := z4 }])).length : Int) - 1) = (o.length : Int) := i64_of (by simp [exsA]) (by omega) (by omega)
  have hoe : [] ++ exsA o ++ [exA { x with ln := z3, cl := z4 }] = exsA (o ++ [{ x with ln := z3, cl := z4 }]) := by simp [exsA]
  have hfg := fgE_exs (o ++ [{ x with ln := z3, cl := z4 }])
  clear n1 n2 hf hk hdl
  generalize deepF d u 1 = D at *
  obtain ⟨x1, x2, x3, x4, x5, x6, x7, x8, x9, x10⟩ := x
  simp only [plA, alv, exA] at *
  refine APure.fgt fun s => ?_
  refine ACalls.of_awp Tryz.func18 rfl (Nat.le_of_ble_eq_true (by kernel_rfl)) (awp_ok _ (by kernel_rfl) ?_)
  conv => whnf
  intro b6 hb6
  have k_b6 := hb6
  repeat replace k_b6 := none_of_set k_b6
  conv => whnf
  intro b9 hb9
  have k_b9 := hb9
  repeat replace k_b9 := none_of_set k_b9
  have n_b6_b9 : b6 ≠ b9 := by (have k := hb9; repeat (first | exact ne_set k | replace k := none_of_set k))
  have n_b9_b6 := n_b6_b9.symm
  conv => whnf
  repeat' ((first | refine ⟨Sub.refl _, ?_⟩ | (refine brA_split (fun h => ?_) (fun h => ?_) <;> (try rw [h]) <;> (try simp only [bN, bS, ↓reduceIte] at h) <;> (first | (exfalso; first | contradiction | omega | exact (by assumption : ¬ True) trivial | fail) | skip)) | refine getB_a ?_ | refine getB_same ?_ | refine AWp.anyA ?_ | refine and_a ?_ | fail) <;> (conv => whnf))
  intro b11 hb11
  have k_b11 := hb11
  repeat replace k_b11 := none_of_set k_b11
  have n_b6_b11 : b6 ≠ b11 := by (have k := hb11; repeat (first | exact ne_set k | replace k := none_of_set k))
  have n_b11_b6 := n_b6_b11.symm
  have n_b9_b11 : b9 ≠ b11 := by (have k := hb11; repeat (first | exact ne_set k | replace k := none_of_set k))
  have n_b11_b9 := n_b9_b11.symm
  conv => whnf
  repeat' ((first | refine ⟨Sub.refl _, ?_⟩ | (refine brA_split (fun h => ?_) (fun h => ?_) <;> (try rw [h]) <;> (try simp only [bN, bS, ↓reduceIte] at h) <;> (first | (exfalso; first | contradiction | omega | exact (by assumption : ¬ True) trivial | fail) | skip)) | refine getB_a ?_ | refine ⟨len_of (hg) rfl, Go.Ab.frcL_of (hg) ?_⟩ | (refine AWp.anyP (id := 5) [] (fun k => cond k b6 b9) [0, 1, 3, 4, 2, 5, 6] n_b6_b9 (by kernel_rfl) (by kernel_rfl) (by kernel_rfl) (by kernel_rfl) ?_) | (refine ⟨trivial, ?_⟩) | refine getB_same ?_ | refine AWp.anyA ?_ | refine and_a ?_ | fail) <;> (conv => whnf))
  refine ⟨fun c hc => by obtain ⟨z, _, rfl⟩ := List.mem_map.1 hc; exact ⟨rfl, rfl⟩, Nat.le_trans (Nat.mul_le_mul_right _ (show _ ≤ 100000 from by simp only [List.length_nil]; omega)) (Nat.le_of_ble_eq_true (by kernel_rfl)), ?_⟩
  intro t1 k1 k2
  conv => whnf
  have o1 := (Own.start (s := s) (by exact suba) 41 10).grow k1 k2
  repeat' ((first | refine ⟨Sub.refl _, ?_⟩ | (refine brA_split (fun h => ?_) (fun h => ?_) <;> (try rw [h]) <;> (try simp only [bN, bS, ↓reduceIte] at h) <;> (first | (exfalso; first | contradiction | omega | exact (by assumption : ¬ True) trivial | fail) | skip)) | refine getB_a ?_ | (refine ⟨trivial, ?_⟩) | refine getB_same ?_ | refine AWp.anyA ?_ | refine and_a ?_ | fail) <;> (conv => whnf))
  refine ⟨o1.may, fun c hc => by obtain ⟨z, _, rfl⟩ := List.mem_map.1 hc; rfl, all_cons ⟨rfl, rfl⟩ all_nil, Nat.le_trans (Nat.mul_le_mul_right _ (show _ ≤ 100000 from by show (exsA o).length + 1 ≤ _; omega)) (Nat.le_of_ble_eq_true (by kernel_rfl)), ?_⟩
  intro t2 k3 k4
  conv => whnf
  have o2 := o1.grow k3 k4
  have hs2 := o2.sub
  rw [hoe]
  have hln' := hln
  generalize exsA (o ++ _) = EO at *
  repeat' ((first | refine ⟨Sub.refl _, ?_⟩ | (refine brA_split (fun h => ?_) (fun h => ?_) <;> (try rw [h]) <;> (try simp only [bN, bS, ↓reduceIte] at h) <;> (first | (exfalso; first | contradiction | omega | exact (by assumption : ¬ True) trivial | fail) | skip)) | refine getB_a ?_ | (refine ⟨trivial, ?_⟩) | (rw [hln]) | (refine ACalls.pure' ?_ (hde _); rintro _ rfl) | refine DCall.pure ?_ (hde _) | refine getB_same ?_ | refine AWp.anyA ?_ | refine and_a ?_ | fail) <;> (conv => whnf))
  · rw [if_pos (by omega)]
    exact ⟨_, Sub.refl _, by simp only [tupA, fg, fgL, hfg], suba⟩
  · rw [if_neg (by omega)]
    exact ⟨_, Sub.refl _, by simp only [tupA, fg, fgL, hfg], suba⟩
end Go.Proofs.YthpnfflkkmpejaaGreatDoor.Pa
namespace Go.Proofs.YthpnfflkkmpejaaGreatDoor.Pa
open Go Go.Ab Go.RowKit Go.Proofs.YthpnfflkkmpejaaGreatDoor.Lx
variable {Γ : Nat → AV}
attribute [local irreducible] APure Sto.set Sto.grow
set_option maxRecDepth 10000
set_option maxHeartbeats 2000000
def sgF (L : List Tok) (a : Nat) : List (List UInt8 × Int) → Int
  | [] => 0
  | x :: r => if isF L a x.1 = true then x.2 else sgF L a r
theorem sgF_next (L : List Tok) (a : Nat) : ∀ m, sgF L a m = nextF L a m
  | [] => by unfold sgF nextF; split <;> rfl
  | x :: r => by
    have ih := sgF_next L a r
    unfold sgF
    rw [ih]
    unfold nextF isF
    cases signK (peekF L a)
    · rfl
    · simp only [Bool.true_and, decide_eq_true_eq, if_true]
      rw [mapA]
def sgS (m : List (List UInt8 × Int)) : List (List AV) := m.map fun x => [.str x.1]
def sgI (m : List (List UInt8 × Int)) : List (List AV) := m.map fun x => [.int .i64 x.2]
theorem sgS_at {m : List (List UInt8 × Int)} {i : Nat} (h : i < m.length) : (sgS m).getD i [] = [.str (m.getD i ([], 0)).1] := by simp [sgS, List.getD, h]
theorem sgI_at {m : List (List UInt8 × Int)} {i : Nat} (h : i < m.length) : (sgI m).getD i [] = [.int .i64 (m.getD i ([], 0)).2] := by simp [sgI, List.getD, h]
theorem sgF_at {L : List Tok} {a : Nat} {m : List (List UInt8 × Int)} {i : Nat} (h : i < m.length) : sgF L a (m.drop i) = if isF L a (m.getD i ([], 0)).1 = true then (m.getD i ([], 0)).2 else sgF L a (m.drop (i + 1)) := by
  rw [List.drop_eq_getElem_cons h, sgF]
  simp [List.getD, h]
theorem rSign_dead (L : List Tok) {p : Pl} (hp : p.e ≠ 0) (tk : Nat) (m : List (List UInt8 × Int)) (hm : m.length ≤ 100) : APure Tryz.prog Γ 67 [.slice tk (toksA L), .agg (plA p), .slice 1 (sgS m), .slice 1 (sgI m)] fun v => v = .int .i64 0 := by
  have hi := fun w => rIs_dead (Γ := Γ) L hp tk w
  have hsl : (sgS m).length = m.length := List.length_map ..
  obtain ⟨a, e0, ln, cl, k⟩ := p
  simp only at hp
  simp only [plA] at *
  refine APure.of_awp Tryz.func67 rfl (Nat.le_of_ble_eq_true (by kernel_rfl)) (by kernel_rfl) ?_
  intro s
  conv => whnf
  intro b5 hb5
  have k_b5 := hb5
  repeat replace k_b5 := none_of_set k_b5
  conv => whnf
  repeat' ((first | refine ⟨Sub.refl _, ?_⟩ | (refine brA_split (fun h => ?_) (fun h => ?_) <;> (try rw [h]) <;> (try simp only [bN, bS, ↓reduceIte] at h) <;> (first | (exfalso; first | contradiction | omega | exact (by assumption : ¬ True) trivial | fail) | skip)) | refine getB_a ?_ | refine getB_same ?_ | refine AWp.anyA ?_ | refine and_a ?_ | fail) <;> (conv => whnf))
  refine AWp.loopA [9] [10, 11, 12, 13, 16, 17, 18, 19, 20, 21, 22, 23, 24, 25, 26, 8, 14, 15] (fun i : Nat => [.int .i64 (i : Int)]) (fun i s' => i ≤ m.length ∧ s' = s.set b5 33 [.int .i64 a, .int .i64 e0, .int .i64 ln, .int .i64 cl, .int .i64 k]) (fun i => m.length - i) (0) (by kernel_rfl) (eqa) ?_ ?_
  · exact ⟨Nat.zero_le _, rfl⟩
  · rintro x i s' ⟨h1, rfl⟩
    show awp _ _ _ _ _ (updL _ _ [.int .i64 (i : Int)]) _
    conv => whnf
    by_cases hlt : i < m.length
    · have hat := sgS_at hlt
      repeat' ((first | refine ⟨Sub.refl _, ?_⟩ | (refine brA_split (fun h => ?_) (fun h => ?_) <;> (try rw [h]) <;> (try simp only [bN, bS, ↓reduceIte] at h) <;> (first | (exfalso; first | contradiction | omega | exact (by assumption : ¬ True) trivial | fail) | skip)) | refine getB_a ?_ | refine ⟨len_of (hat) rfl, Go.Ab.frcL_of (hat) ?_⟩ | (refine ACalls.pure' ?_ (hi _); rintro _ rfl) | refine DCall.pure ?_ (hi _) | refine getB_same ?_ | refine AWp.anyA ?_ | refine and_a ?_ | fail) <;> (conv => whnf))
      exact ⟨i + 1, eqa, samea, ⟨by omega, rfl⟩, by omega⟩
    · repeat' ((first | refine ⟨Sub.refl _, ?_⟩ | (refine brA_split (fun h => ?_) (fun h => ?_) <;> (try rw [h]) <;> (try simp only [bN, bS, ↓reduceIte] at h) <;> (first | (exfalso; first | contradiction | omega | exact (by assumption : ¬ True) trivial | fail) | skip)) | refine getB_a ?_ | refine getB_same ?_ | refine AWp.anyA ?_ | refine and_a ?_ | fail) <;> (conv => whnf))
      exact ⟨suba, rfl⟩
theorem rSign_ok (L : List Tok) (hL : L.length ≤ 1000000) {a : Nat} (ha : a ≤ 1000000) (k : Int) (tk : Nat) (m : List (List UInt8 × Int)) (hm : m.length ≤ 100) : APure Tryz.prog Γ 67 [.slice tk (toksA L), .agg (plA (alv a k)), .slice 1 (sgS m), .slice 1 (sgI m)] fun v => v = .int .i64 (nextF L a m) := by
  have hi := fun w => rIs_ok (Γ := Γ) L hL ha k tk w
  have hsl : (sgS m).length = m.length := List.length_map ..
  have hil : (sgI m).length = m.length := List.length_map ..
  rw [← sgF_next]
  simp only [plA, alv] at *
  refine APure.of_awp Tryz.func67 rfl (Nat.le_of_ble_eq_true (by kernel_rfl)) (by kernel_rfl) ?_
  intro s
  conv => whnf
  intro b5 hb5
  have k_b5 := hb5
  repeat replace k_b5 := none_of_set k_b5
  conv => whnf
  repeat' ((first | refine ⟨Sub.refl _, ?_⟩ | (refine brA_split (fun h => ?_) (fun h => ?_) <;> (try rw [h]) <;> (try simp only [bN, bS, ↓reduceIte] at h) <;> (first | (exfalso; first | contradiction | omega | exact (by assumption : ¬ True) trivial | fail) | skip)) | refine getB_a ?_ | refine getB_same ?_ | refine AWp.anyA ?_ | refine and_a ?_ | fail) <;> (conv => whnf))
  refine AWp.loopA [9] [10, 11, 12, 13, 16, 17, 18, 19, 20, 21, 22, 23, 24, 25, 26, 8, 14, 15] (fun i : Nat => [.int .i64 (i : Int)]) (fun i s' => i ≤ m.length ∧ s' = s.set b5 33 [.int .i64 (a : Int), .int .i64 0, .int .i64 0, .int .i64 0, .int .i64 k] ∧ sgF L a m = sgF L a (m.drop i)) (fun i => m.length - i) (0) (by kernel_rfl) (eqa) ?_ ?_
  · exact ⟨Nat.zero_le _, rfl, rfl⟩
  · rintro x i s' ⟨h1, rfl, h2⟩
    show awp _ _ _ _ _ (updL _ _ [.int .i64 (i : Int)]) _
    conv => whnf
    by_cases hlt : i < m.length
    · have hat := sgS_at hlt
      have hai := sgI_at hlt
      rw [sgF_at hlt] at h2
      have hi' := hi (m.getD i ([], 0)).1
      generalize m.getD i ([], 0) = y at *
      cases hz : isF L a y.1
      · rw [hz] at hi' h2
        rw [if_neg (by decide)] at h2
        repeat' ((first | refine ⟨Sub.refl _, ?_⟩ | (refine brA_split (fun h => ?_) (fun h => ?_) <;> (try rw [h]) <;> (try simp only [bN, bS, ↓reduceIte] at h) <;> (first | (exfalso; first | contradiction | omega | exact (by assumption : ¬ True) trivial | fail) | skip)) | refine getB_a ?_ | refine ⟨len_of (hat) rfl, Go.Ab.frcL_of (hat) ?_⟩ | (refine ACalls.pure' ?_ (hi'); rintro _ rfl) | refine DCall.pure ?_ (hi') | refine getB_same ?_ | refine AWp.anyA ?_ | refine and_a ?_ | fail) <;> (conv => whnf))
        exact ⟨i + 1, eqa, samea, ⟨by omega, rfl, h2⟩, by omega⟩
      · rw [hz] at hi' h2
        rw [if_pos rfl] at h2
        repeat' ((first | refine ⟨Sub.refl _, ?_⟩ | (refine brA_split (fun h => ?_) (fun h => ?_) <;> (try rw [h]) <;> (try simp only [bN, bS, ↓reduceIte] at h) <;> (first | (exfalso; first | contradiction | omega | exact (by assumption : ¬ True) trivial | fail) | skip)) | refine getB_a ?_ | refine ⟨len_of (hat) rfl, Go.Ab.frcL_of (hat) ?_⟩ | refine ⟨len_of (hai) rfl, Go.Ab.frcL_of (hai) ?_⟩ | (refine ACalls.pure' ?_ (hi'); rintro _ rfl) | refine DCall.pure ?_ (hi') | refine getB_same ?_ | refine AWp.anyA ?_ | refine and_a ?_ | fail) <;> (conv => whnf))
        rw [h2]
        exact ⟨suba, rfl⟩
    · rw [List.drop_of_length_le (by omega)] at h2
      rw [h2]
      repeat' ((first | refine ⟨Sub.refl _, ?_⟩ | (refine brA_split (fun h => ?_) (fun h => ?_) <;> (try rw [h]) <;> (try simp only [bN, bS, ↓reduceIte] at h) <;> (first | (exfalso; first | contradiction | omega | exact (by assumption : ¬ True) trivial | fail) | skip)) | refine getB_a ?_ | refine getB_same ?_ | refine AWp.anyA ?_ | refine and_a ?_ | fail) <;> (conv => whnf))
      exact ⟨suba, rfl⟩
theorem rMoved_ok (x : Ex) (by_ : Int) : APure Tryz.prog Γ 85 [.agg (exA x), .int .i64 by_] fun v => v = .agg (exA (shiftX by_ x)) := by
  obtain ⟨x1, x2, x3, x4, x5, x6, x7, x8, x9, x10⟩ := x
  by_cases h4 : x1 < 4 ∨ 16 < x1
  · have hs : shiftX by_ ⟨x1, x2, x3, x4, x5, x6, x7, x8, x9, x10⟩ = ⟨x1, x2, x3, x4, x5, x6, x7, x8, x9, x10⟩ := by unfold shiftX; rw [if_pos h4]
    rw [hs]
    simp only [exA]
    refine APure.of_awp Tryz.func85 rfl (Nat.le_of_ble_eq_true (by kernel_rfl)) (by kernel_rfl) ?_
    intro s
    conv => whnf
    intro b2 hb2
    have k_b2 := hb2
    repeat replace k_b2 := none_of_set k_b2
    conv => whnf
    intro b4 hb4
    have k_b4 := hb4
    repeat replace k_b4 := none_of_set k_b4
    have n_b2_b4 : b2 ≠ b4 := by (have k := hb4; repeat (first | exact ne_set k | replace k := none_of_set k))
    have n_b4_b2 := n_b2_b4.symm
    conv => whnf
    repeat' ((first | refine ⟨Sub.refl _, ?_⟩ | (refine brA_split (fun h => ?_) (fun h => ?_) <;> (try rw [h]) <;> (try simp only [bN, bS, ↓reduceIte] at h) <;> (first | (exfalso; first | contradiction | omega | exact (by assumption : ¬ True) trivial | fail) | skip)) | refine getB_a ?_ | refine getB_same ?_ | refine AWp.anyA ?_ | refine and_a ?_ | fail) <;> (conv => whnf))
    all_goals first | exact ⟨suba, rfl⟩ | fail
  · by_cases h5 : 5 < x1
    · have hs : shiftX by_ ⟨x1, x2, x3, x4, x5, x6, x7, x8, x9, x10⟩ = ⟨x1, IntKind.i64.wrap (x2 + by_), IntKind.i64.wrap (x3 + by_), x4, x5, x6, x7, x8, x9, x10⟩ := by unfold shiftX; rw [if_neg h4, if_pos h5]
      rw [hs]
      simp only [exA]
      refine APure.of_awp Tryz.func85 rfl (Nat.le_of_ble_eq_true (by kernel_rfl)) (by kernel_rfl) ?_
      intro s
      conv => whnf
      intro b2 hb2
      have k_b2 := hb2
      repeat replace k_b2 := none_of_set k_b2
      conv => whnf
      intro b4 hb4
      have k_b4 := hb4
      repeat replace k_b4 := none_of_set k_b4
      have n_b2_b4 : b2 ≠ b4 := by (have k := hb4; repeat (first | exact ne_set k | replace k := none_of_set k))
      have n_b4_b2 := n_b2_b4.symm
      conv => whnf
      repeat' ((first | refine ⟨Sub.refl _, ?_⟩ | (refine brA_split (fun h => ?_) (fun h => ?_) <;> (try rw [h]) <;> (try simp only [bN, bS, ↓reduceIte] at h) <;> (first | (exfalso; first | contradiction | omega | exact (by assumption : ¬ True) trivial | fail) | skip)) | refine getB_a ?_ | refine getB_same ?_ | refine AWp.anyA ?_ | refine and_a ?_ | fail) <;> (conv => whnf))
      all_goals first | exact ⟨suba, rfl⟩ | fail
    · have hs : shiftX by_ ⟨x1, x2, x3, x4, x5, x6, x7, x8, x9, x10⟩ = ⟨x1, IntKind.i64.wrap (x2 + by_), x3, x4, x5, x6, x7, x8, x9, x10⟩ := by unfold shiftX; rw [if_neg h4, if_neg h5]
      rw [hs]
      simp only [exA]
      refine APure.of_awp Tryz.func85 rfl (Nat.le_of_ble_eq_true (by kernel_rfl)) (by kernel_rfl) ?_
      intro s
      conv => whnf
      intro b2 hb2
      have k_b2 := hb2
      repeat replace k_b2 := none_of_set k_b2
      conv => whnf
      intro b4 hb4
      have k_b4 := hb4
      repeat replace k_b4 := none_of_set k_b4
      have n_b2_b4 : b2 ≠ b4 := by (have k := hb4; repeat (first | exact ne_set k | replace k := none_of_set k))
      have n_b4_b2 := n_b2_b4.symm
      conv => whnf
      repeat' ((first | refine ⟨Sub.refl _, ?_⟩ | (refine brA_split (fun h => ?_) (fun h => ?_) <;> (try rw [h]) <;> (try simp only [bN, bS, ↓reduceIte] at h) <;> (first | (exfalso; first | contradiction | omega | exact (by assumption : ¬ True) trivial | fail) | skip)) | refine getB_a ?_ | refine getB_same ?_ | refine AWp.anyA ?_ | refine and_a ?_ | fail) <;> (conv => whnf))
      all_goals first | exact ⟨suba, rfl⟩ | fail
theorem exs_all' (l : List Ex) : ∀ c ∈ exsA l, c.length = 10 := fun c hc => by obtain ⟨z, _, rfl⟩ := List.mem_map.1 hc; rfl
theorem le_len' {α : Type} {l : List α} {n a : Nat} (h : l.length = n) (k : a ≤ n) : a ≤ l.length := h ▸ k
theorem take_one {o : List Ex} {m j : Nat} (h : m + j < o.length) : (o.drop m).take (j + 1) = (o.drop m).take j ++ [exAt o (m + j)] := by
  rw [List.take_add_one]
  congr 1
  simp [exAt, List.getD, List.getElem?_drop, h]
theorem app_isE {α : Type} (l m : List α) : (l ++ m).isEmpty = (l.isEmpty && m.isEmpty) := by cases l <;> cases m <;> rfl
theorem rTurned_ok {o : List Ex} (ho : o.length ≤ 90000) {f m : Nat} (hfm : f ≤ m) (hm : m ≤ o.length) :
    APure Tryz.prog Γ 68 [.slice 0 (exsA o), .int .i64 f, .int .i64 m] fun v => v = .slice 0 (exsA (o.take f ++ (o.drop m).map (shiftX (-((m - f : Nat) : Int))) ++ ((o.take m).drop f).map (shiftX ((o.length - m : Nat) : Int)))) := by
  have hol := exsA_len o
  have hA : List.drop 0 (List.take ((f : Int)).toNat (exsA o)) = exsA (o.take f) := by simp [exsA, List.map_take]
  have hw1 : IntKind.i64.wrap ((f : Int) - (m : Int)) = -((m - f : Nat) : Int) := i64_of (by omega) (by omega) (by omega)
  have hw2 : IntKind.i64.wrap (((exsA o).length : Int) - (m : Int)) = ((o.length - m : Nat) : Int) := i64_of (by omega) (by omega) (by omega)
  have htl : (exsA (o.take f)).length = f := by rw [exsA_len, List.length_take]; omega
  refine APure.fgt fun s => ?_
  refine ACalls.of_awp Tryz.func68 rfl (Nat.le_of_ble_eq_true (by kernel_rfl)) (awp_ok _ (by kernel_rfl) ?_)
  conv => whnf
  repeat' ((first | refine ⟨Sub.refl _, ?_⟩ | (refine brA_split (fun h => ?_) (fun h => ?_) <;> (try rw [h]) <;> (try simp only [bN, bS, ↓reduceIte] at h) <;> (first | (exfalso; first | contradiction | omega | exact (by assumption : ¬ True) trivial | fail) | skip)) | (refine ⟨le_len' hol (by omega), ?_⟩) | (refine ⟨exs_all' _, ?_⟩) | (rw [hA]) | refine getB_same ?_ | refine AWp.anyA ?_ | refine and_a ?_ | fail) <;> (conv => whnf))
  refine ⟨fun c hc => by obtain ⟨z, _, rfl⟩ := List.mem_map.1 hc; exact ⟨rfl, rfl⟩, Nat.le_trans (Nat.mul_le_mul_right _ (show _ ≤ 100000 from by rw [htl]; simp only [List.length_nil]; omega)) (Nat.le_of_ble_eq_true (by kernel_rfl)), ?_⟩
  intro t0 k01 k02
  rw [List.nil_append]
  have o0 := (Own.nil s 41 10).grow k01 k02
  have o0' : Own s (s.grow 1 t0 41 10) (o.take f).isEmpty t0 41 10 := by
    rw [show (o.take f).isEmpty = (true && (exsA (o.take f)).isEmpty) by cases o.take f <;> rfl]; exact o0
  conv => whnf
  obtain ⟨b1, hb1⟩ : ∃ b1, b1 = -((m - f : Nat) : Int) := ⟨_, rfl⟩
  rw [← hb1] at hw1 ⊢
  obtain ⟨b2, hb2⟩ : ∃ b2, b2 = ((o.length - m : Nat) : Int) := ⟨_, rfl⟩
  rw [← hb2] at hw2 ⊢
  repeat' ((first | refine ⟨Sub.refl _, ?_⟩ | (refine brA_split (fun h => ?_) (fun h => ?_) <;> (try rw [h]) <;> (try simp only [bN, bS, ↓reduceIte] at h) <;> (first | (exfalso; first | contradiction | omega | exact (by assumption : ¬ True) trivial | fail) | skip)) | refine getB_same ?_ | refine AWp.anyA ?_ | refine and_a ?_ | fail) <;> (conv => whnf))
  refine AWp.loopA [7, 8] [16, 17, 18, 19, 22, 23, 24, 25, 26, 27, 28, 29, 30, 31, 32, 20, 21] (fun q : Nat × Nat => [.slice q.1 (exsA (o.take f ++ ((o.drop m).take q.2).map (shiftX b1))), .int .i64 ((m + q.2 : Nat) : Int)]) (fun q s' => q.2 ≤ o.length - m ∧ Own s s' (o.take f ++ ((o.drop m).take q.2).map (shiftX b1)).isEmpty q.1 41 10) (fun q => o.length - m - q.2) ((t0, 0)) (by kernel_rfl) ((by simp only [List.take_zero, List.map_nil, List.append_nil, Nat.add_zero]; exact cons_eq rfl (cons_eq rfl rfl))) ?_ ?_
  · refine ⟨Nat.zero_le _, ?_⟩
    simp only [List.take_zero, List.map_nil, List.append_nil]
    exact o0'
  · rintro x ⟨t, j⟩ s' ⟨hj, hown⟩
    simp only at hj hown
    have hone := fun h : j < o.length - m => show (o.take f ++ ((o.drop m).take (j + 1)).map (shiftX b1)) = (o.take f ++ ((o.drop m).take j).map (shiftX b1)) ++ [shiftX b1 (exAt o (m + j))] by rw [take_one (by omega)]; simp [List.append_assoc]
    obtain ⟨B, hB⟩ : ∃ B, B = o.take f ++ ((o.drop m).take j).map (shiftX b1) := ⟨_, rfl⟩
    have hBl : B.length ≤ 90000 := by rw [hB]; simp only [List.length_append, List.length_map, List.length_take, List.length_drop]; omega
    have hBl2 := exsA_len B
    show awp _ _ _ _ _ (updL _ _ [.slice t (exsA (o.take f ++ ((o.drop m).take j).map (shiftX b1))), .int .i64 ((m + j : Nat) : Int)]) _
    rw [← hB]
    rw [← hB] at hown
    conv => whnf
    by_cases hlt : j < o.length - m
    · have hat := exsA_at (o := o) (i := m + j) (by omega)
      have hmv := rMoved_ok (Γ := Γ) (exAt o (m + j)) (b1)
      have hst : exsA (B) ++ [exA (shiftX (b1) (exAt o (m + j)))] = exsA (B ++ [shiftX (b1) (exAt o (m + j))]) := by simp [exsA]
      have hil : (m + j) < (exsA o).length := by omega
      generalize exAt o (m + j) = y at *
      obtain ⟨y1, y2, y3, y4, y5, y6, y7, y8, y9, y10⟩ := y
      simp only [exA] at hat hmv
      rw [exA] at hst
      generalize shiftX (b1) ⟨y1, y2, y3, y4, y5, y6, y7, y8, y9, y10⟩ = y' at *
      obtain ⟨q1, q2, q3, q4, q5, q6, q7, q8, q9, q10⟩ := y'
      simp only at hmv hst
      have hw9 : IntKind.i64.wrap (((m + j : Nat) : Int) + 1) = (((m + j) + 1 : Nat) : Int) := i64_of (by omega) (by omega) (by omega)
      repeat' ((first | refine ⟨Sub.refl _, ?_⟩ | (refine brA_split (fun h => ?_) (fun h => ?_) <;> (try rw [h]) <;> (try simp only [bN, bS, ↓reduceIte] at h) <;> (first | (exfalso; first | contradiction | omega | exact (by assumption : ¬ True) trivial | fail) | skip)) | refine ⟨len_of (hat) rfl, Go.Ab.frcL_of (hat) ?_⟩ | (rw [hw1]) | (refine ACalls.pure' ?_ (hmv); rintro _ rfl) | refine DCall.pure ?_ (hmv) | refine getB_same ?_ | refine AWp.anyA ?_ | refine and_a ?_ | fail) <;> (conv => whnf))
      refine ⟨hown.may, fun c hc => exs_all' _ c hc, all_cons ⟨rfl, rfl⟩ all_nil, Nat.le_trans (Nat.mul_le_mul_right _ (show _ ≤ 100000 from by simp only [List.length_cons, List.length_nil]; omega)) (Nat.le_of_ble_eq_true (by kernel_rfl)), ?_⟩
      intro t2 k1 k2
      have k3 := hown.grow k1 k2
      conv => whnf
      repeat' ((first | refine ⟨Sub.refl _, ?_⟩ | (refine brA_split (fun h => ?_) (fun h => ?_) <;> (try rw [h]) <;> (try simp only [bN, bS, ↓reduceIte] at h) <;> (first | (exfalso; first | contradiction | omega | exact (by assumption : ¬ True) trivial | fail) | skip)) | (rw [hw9]) | refine getB_same ?_ | refine AWp.anyA ?_ | refine and_a ?_ | fail) <;> (conv => whnf))
      refine ⟨(t2, j + 1), ?_, samea, ⟨hlt, ?_⟩, by simp only; omega⟩
      · dsimp only
        rw [hone hlt, ← hB]
        exact cons_eq (congrArg (AV.slice t2) hst) (cons_eq rfl rfl)
      · dsimp only
        rw [hone hlt, ← hB, app_isE]
        exact k3
    · obtain rfl : j = o.length - m := by omega
      rw [show (o.drop m).take (o.length - m) = o.drop m from List.take_of_length_le (by rw [List.length_drop]; omega)] at hB
      obtain ⟨C, hC⟩ : ∃ C, C = B := ⟨_, rfl⟩
      rw [← hC] at hown hB ⊢
      have hCl : C.length = f + (o.length - m) := by rw [hB]; simp only [List.length_append, List.length_map, List.length_take, List.length_drop]; omega
      clear hone
      rw [← hB]
      repeat' ((first | refine ⟨Sub.refl _, ?_⟩ | (refine brA_split (fun h => ?_) (fun h => ?_) <;> (try rw [h]) <;> (try simp only [bN, bS, ↓reduceIte] at h) <;> (first | (exfalso; first | contradiction | omega | exact (by assumption : ¬ True) trivial | fail) | skip)) | refine getB_same ?_ | refine AWp.anyA ?_ | refine and_a ?_ | fail) <;> (conv => whnf))
      refine AWp.loopA [7, 9] [34, 35, 36, 39, 40, 41, 42, 43, 44, 45, 46, 47, 48, 49, 50, 37, 38] (fun q : Nat × Nat => [.slice q.1 (exsA (C ++ (((o.take m).drop f).take q.2).map (shiftX b2))), .int .i64 ((f + q.2 : Nat) : Int)]) (fun q s' => q.2 ≤ m - f ∧ Own s s' (C ++ (((o.take m).drop f).take q.2).map (shiftX b2)).isEmpty q.1 41 10) (fun q => m - f - q.2) ((t, 0)) (by kernel_rfl) ((by simp only [List.take_zero, List.map_nil, List.append_nil, Nat.add_zero]; exact cons_eq rfl (cons_eq rfl rfl))) ?_ ?_
      · refine ⟨Nat.zero_le _, ?_⟩
        simp only [List.take_zero, List.map_nil, List.append_nil]
        exact hown
      · clear hown hB hC hBl hBl2 B
        rintro x ⟨t, j⟩ s' ⟨hj, hown⟩
        simp only at hj hown
        have hone := fun h : j < m - f => show (C ++ (((o.take m).drop f).take (j + 1)).map (shiftX b2)) = (C ++ (((o.take m).drop f).take j).map (shiftX b2)) ++ [shiftX b2 (exAt o (f + j))] by rw [take_one (by rw [List.length_take]; omega), exAt_take (by omega)]; simp [List.append_assoc]
        obtain ⟨B, hB⟩ : ∃ B, B = C ++ (((o.take m).drop f).take j).map (shiftX b2) := ⟨_, rfl⟩
        have hBl : B.length ≤ 90000 := by rw [hB]; simp only [List.length_append, List.length_map, List.length_take, List.length_drop]; omega
        have hBl2 := exsA_len B
        show awp _ _ _ _ _ (updL _ _ [.slice t (exsA (C ++ (((o.take m).drop f).take j).map (shiftX b2))), .int .i64 ((f + j : Nat) : Int)]) _
        rw [← hB]
        rw [← hB] at hown
        conv => whnf
        by_cases hlt : j < m - f
        · have hat := exsA_at (o := o) (i := f + j) (by omega)
          have hmv := rMoved_ok (Γ := Γ) (exAt o (f + j)) (b2)
          have hst : exsA (B) ++ [exA (shiftX (b2) (exAt o (f + j)))] = exsA (B ++ [shiftX (b2) (exAt o (f + j))]) := by simp [exsA]
          have hil : (f + j) < (exsA o).length := by omega
          generalize exAt o (f + j) = y at *
          obtain ⟨y1, y2, y3, y4, y5, y6, y7, y8, y9, y10⟩ := y
          simp only [exA] at hat hmv
          rw [exA] at hst
          generalize shiftX (b2) ⟨y1, y2, y3, y4, y5, y6, y7, y8, y9, y10⟩ = y' at *
          obtain ⟨q1, q2, q3, q4, q5, q6, q7, q8, q9, q10⟩ := y'
          simp only at hmv hst
          have hw9 : IntKind.i64.wrap (((f + j : Nat) : Int) + 1) = (((f + j) + 1 : Nat) : Int) := i64_of (by omega) (by omega) (by omega)
          repeat' ((first | refine ⟨Sub.refl _, ?_⟩ | (refine brA_split (fun h => ?_) (fun h => ?_) <;> (try rw [h]) <;> (try simp only [bN, bS, ↓reduceIte] at h) <;> (first | (exfalso; first | contradiction | omega | exact (by assumption : ¬ True) trivial | fail) | skip)) | refine ⟨len_of (hat) rfl, Go.Ab.frcL_of (hat) ?_⟩ | (rw [hw2]) | (refine ACalls.pure' ?_ (hmv); rintro _ rfl) | refine DCall.pure ?_ (hmv) | refine getB_same ?_ | refine AWp.anyA ?_ | refine and_a ?_ | fail) <;> (conv => whnf))
          refine ⟨hown.may, fun c hc => exs_all' _ c hc, all_cons ⟨rfl, rfl⟩ all_nil, Nat.le_trans (Nat.mul_le_mul_right _ (show _ ≤ 100000 from by simp only [List.length_cons, List.length_nil]; omega)) (Nat.le_of_ble_eq_true (by kernel_rfl)), ?_⟩
          intro t2 k1 k2
          have k3 := hown.grow k1 k2
          conv => whnf
          repeat' ((first | refine ⟨Sub.refl _, ?_⟩ | (refine brA_split (fun h => ?_) (fun h => ?_) <;> (try rw [h]) <;> (try simp only [bN, bS, ↓reduceIte] at h) <;> (first | (exfalso; first | contradiction | omega | exact (by assumption : ¬ True) trivial | fail) | skip)) | (rw [hw9]) | refine getB_same ?_ | refine AWp.anyA ?_ | refine and_a ?_ | fail) <;> (conv => whnf))
          refine ⟨(t2, j + 1), ?_, samea, ⟨hlt, ?_⟩, by simp only; omega⟩
          · dsimp only
            rw [hone hlt, ← hB]
            exact cons_eq (congrArg (AV.slice t2) hst) (cons_eq rfl rfl)
          · dsimp only
            rw [hone hlt, ← hB, app_isE]
            exact k3
        · obtain rfl : j = m - f := by omega
          rw [show ((o.take m).drop f).take (m - f) = (o.take m).drop f from List.take_of_length_le (by rw [List.length_drop, List.length_take]; omega)] at hB
          repeat' ((first | refine ⟨Sub.refl _, ?_⟩ | (refine brA_split (fun h => ?_) (fun h => ?_) <;> (try rw [h]) <;> (try simp only [bN, bS, ↓reduceIte] at h) <;> (first | (exfalso; first | contradiction | omega | exact (by assumption : ¬ True) trivial | fail) | skip)) | refine getB_same ?_ | refine AWp.anyA ?_ | refine and_a ?_ | fail) <;> (conv => whnf))
          rw [← hB]
          have hfg := fgE_exs B
          exact ⟨_, Sub.refl _, by simp only [tupA, fg, hfg], hown.sub⟩
end Go.Proofs.YthpnfflkkmpejaaGreatDoor.Pa
namespace Go.Proofs.YthpnfflkkmpejaaGreatDoor.Pa
open Go Go.Ab Go.RowKit Go.Proofs.YthpnfflkkmpejaaGreatDoor.Lx
variable {Γ : Nat → AV}
attribute [local irreducible] APure Sto.set Sto.grow
set_option maxRecDepth 10000
set_option maxHeartbeats 1000000
section
variable {s0 s : Sto} {bp bl : Nat} {L : List Tok} {a : Nat} {o : List Ex} {d : List Int} {k : Int}
/-- What a method of the parser's does, where it may be asked. -/
def Does (Γ : Nat → AV) (n : FuncId) (L : List Tok) (F : St → Res St) (C : St → Prop) : Prop :=
  ∀ (s0 s : Sto) (bp bl : Nat) (st : St), Pst s0 s bp bl L st.a st.o st.d st.k → Okay L st → C st → ACalls Tryz.prog Γ n [.ptr (some ⟨bp, 0, none⟩)] s (stepA s0 bp bl L (F st))
theorem Pst.reopen {t1 t2 : Nat} (hP : Pst s0 s bp bl L a o d k) (hb : s.bx bp = some (53, [.ptr (some ⟨bl, 0, none⟩), .slice t1 (exsA o), .slice t2 (intsA .i64 d), .int .i64 k])) (k' : Int) :
    Pst s0 (s.set bp 53 [.ptr (some ⟨bl, 0, none⟩), .slice t1 (exsA o), .slice t2 (intsA .i64 d), .int .i64 k']) bp bl L a o d k' := by
  obtain ⟨np, nl, ne, ⟨u1, u2, h1, h2, h3, h4⟩, pl⟩ := hP
  rw [hb] at h1
  simp only [Option.some.injEq, Prod.mk.injEq, List.cons.injEq, AV.slice.injEq, true_and, and_true] at h1
  obtain ⟨rfl, rfl⟩ := h1
  exact ⟨np, nl, ne, ⟨t1, t2, set_bx_same, h2.set np, h3.set np, h4⟩, (set_bx_other ne.symm).trans pl⟩
theorem want_ok (hP : Pst s0 s bp bl L a o d k) (hL : L.length ≤ 100000) (ha : a ≤ 100000) (w : List UInt8) (tk : Nat) :
    ACalls Tryz.prog Γ 137 [.ptr (some ⟨bp, 0, none⟩), .slice tk [[.str w]]] s (stepA s0 bp bl L (wantF L w ⟨a, o, d, k⟩)) := by
  have htk := takeP (Γ := Γ) hP (by omega) ha w
  unfold wantF
  dsimp only
  refine ACalls.of_awp Tryz.func137 rfl (Nat.le_of_ble_eq_true (by kernel_rfl)) (awp_ok _ (by kernel_rfl) ?_)
  conv => whnf
  repeat' ((first | (exfalso; first | omega | exact (by assumption : ¬ True) trivial | fail) | refine ⟨Sub.refl _, ?_⟩ | (refine brA_split (fun h => ?_) (fun h => ?_) <;> (try rw [h]) <;> (try simp only [bS, ↓reduceIte] at h)) | refine getB_same ?_ | refine AWp.anyA ?_ | refine and_a ?_ | fail) <;> (conv => whnf))
  refine AWp.loopA [9] [10, 11, 12, 6, 13, 14, 15, 16, 17, 18, 4, 19] (fun i : Nat => [.int .i64 (i : Int)]) (fun i s' => (i = 0 ∧ s' = s) ∨ (i = 1 ∧ isF L a w = true ∧ Pst s0 s' bp bl L (a + 1) o d k)) (fun i => 1 - i) (0) (by kernel_rfl) (eqa) ?_ ?_
  · exact .inl ⟨rfl, rfl⟩
  · rintro x i s' (⟨rfl, rfl⟩ | ⟨rfl, h1, h2⟩)
    · show awp _ _ _ _ _ (updL _ _ [.int .i64 ((0 : Nat) : Int)]) _
      conv => whnf
      cases hi : isF L a w
      · rw [hi] at htk
        simp only [Bool.false_eq_true, if_false] at htk ⊢
        repeat' ((first | (exfalso; first | omega | exact (by assumption : ¬ True) trivial | fail) | refine ⟨Sub.refl _, ?_⟩ | (refine brA_split (fun h => ?_) (fun h => ?_) <;> (try rw [h]) <;> (try simp only [bS, ↓reduceIte] at h)) | (refine ACalls.by htk ?_; rintro _ s2 ⟨rfl, hP2⟩) | (refine ACalls.by (fail_ok (by assumption) (by omega) (by omega) 16) ?_; rintro _ s3 ⟨rfl, hs3⟩; subst s3) | refine getB_same ?_ | refine AWp.anyA ?_ | refine and_a ?_ | fail) <;> (conv => whnf))
        exact ⟨_, Sub.refl _, errV_fail L a 16, a, o, d, k, hP2⟩
      · rw [hi] at htk
        simp only [if_true] at htk ⊢
        repeat' ((first | (exfalso; first | omega | exact (by assumption : ¬ True) trivial | fail) | refine ⟨Sub.refl _, ?_⟩ | (refine brA_split (fun h => ?_) (fun h => ?_) <;> (try rw [h]) <;> (try simp only [bS, ↓reduceIte] at h)) | (refine ACalls.by htk ?_; rintro _ s2 ⟨rfl, hP2⟩) | refine getB_same ?_ | refine AWp.anyA ?_ | refine and_a ?_ | fail) <;> (conv => whnf))
        exact ⟨1, eqa, samea, .inr ⟨rfl, by first | trivial | exact hi, hP2⟩, by omega⟩
    · show awp _ _ _ _ _ (updL _ _ [.int .i64 ((1 : Nat) : Int)]) _
      conv => whnf
      rw [if_pos h1]
      repeat' ((first | (exfalso; first | omega | exact (by assumption : ¬ True) trivial | fail) | refine ⟨Sub.refl _, ?_⟩ | (refine brA_split (fun h => ?_) (fun h => ?_) <;> (try rw [h]) <;> (try simp only [bS, ↓reduceIte] at h)) | refine getB_same ?_ | refine AWp.anyA ?_ | refine and_a ?_ | fail) <;> (conv => whnf))
      exact ⟨_, Sub.refl _, rfl, h2⟩
theorem inside_ok {n : FuncId} {F : St → Res St} {C : St → Prop} (hn : callT Tryz.prog n = true) (hD : Does Γ n L F C) {st : St} (hP : Pst s0 s bp bl L st.a st.o st.d st.k) (hS : Okay L st) (hL : L.length ≤ 100000) (ha : st.a < L.length) (hC : C (opened st)) (hG : st.k ≠ 128 → ∀ x, F (opened st) = .ok x → 0 < x.k ∧ x.k ≤ 129) :
    ACalls Tryz.prog Γ 80 [.ptr (some ⟨bp, 0, none⟩), .func (.func n) [.ptr (some ⟨bp, 0, none⟩)] []] s (stepA s0 bp bl L (insideF L F st)) := by
  obtain ⟨t1, t2, hb, _⟩ := hP.pr
  have hw : IntKind.i64.wrap ((st.a : Int) + 1) = ((st.a + 1 : Nat) : Int) := i64_of (by omega) (by omega) (by omega)
  unfold insideF
  refine ACalls.of_awp Tryz.func80 rfl (Nat.le_of_ble_eq_true (by kernel_rfl)) (awp_ok _ (by kernel_rfl) ?_)
  conv => whnf
  by_cases hk : st.k = 128
  · rw [if_pos hk]
    repeat' ((first | (exfalso; first | omega | exact (by assumption : ¬ True) trivial | fail) | refine ⟨Sub.refl _, ?_⟩ | (refine brA_split (fun h => ?_) (fun h => ?_) <;> (try rw [h]) <;> (try simp only [bS, ↓reduceIte] at h)) | (refine getB_of hb ?_) | (refine ACalls.by (fail_ok hP (by omega) (by omega) 13) ?_; rintro _ s3 ⟨rfl, hs3⟩; subst s3) | refine getB_same ?_ | refine AWp.anyA ?_ | refine and_a ?_ | fail) <;> (conv => whnf))
    exact ⟨_, Sub.refl _, errV_fail L st.a 13, _, _, _, _, hP⟩
  · rw [if_neg hk]
    have hkk := hS.hk
    have hwk : IntKind.i64.wrap (st.k + 1) = st.k + 1 := i64_of rfl (by omega) (by omega)
    have hP1 := hP.next (st.a + 1)
    have hb1 := (set_bx_other (s := s) (T := 56) (cs := [.slice 0 (toksA L), .int .i64 ((st.a + 1 : Nat) : Int)]) hP.ne).trans hb
    have hP2 := hP1.reopen hb1 (st.k + 1)
    have h3 := hD _ _ _ _ (opened st) hP2 (opened_okay hS ha hk) hC
    repeat' ((first | (exfalso; first | omega | exact (by assumption : ¬ True) trivial | fail) | refine ⟨Sub.refl _, ?_⟩ | (refine brA_split (fun h => ?_) (fun h => ?_) <;> (try rw [h]) <;> (try simp only [bS, ↓reduceIte] at h)) | (refine getB_of hb ?_) | (refine getB_of hP.pl ?_) | (rw [hw]) | (refine getB_of hb1 ?_) | (rw [hwk]) | (refine ACalls.by h3 ?_; intro v s4 hv) | refine getB_same ?_ | refine AWp.anyA ?_ | refine and_a ?_ | fail) <;> (conv => whnf))
    rotate_left
    · rw [hn] at h; cases h
    have hopen : F { a := st.a + 1, o := st.o, d := st.d, k := st.k + 1 } = F (opened st) := rfl
    rcases hr : F (opened st) with x | x
    · rw [hr] at hv
      obtain ⟨⟨kd, tx, rfl⟩, a', o', d', k', hP4⟩ := hv
      obtain ⟨u1, u2, hb4, _⟩ := hP4.pr
      conv => whnf
      repeat' ((first | (exfalso; first | omega | exact (by assumption : ¬ True) trivial | fail) | refine ⟨Sub.refl _, ?_⟩ | (refine brA_split (fun h => ?_) (fun h => ?_) <;> (try rw [h]) <;> (try simp only [bS, ↓reduceIte] at h)) | (refine getB_of hb4 ?_) | refine getB_same ?_ | refine AWp.anyA ?_ | refine and_a ?_ | fail) <;> (conv => whnf))
      rw [hopen, hr]
      exact ⟨_, Sub.refl _, ⟨kd, tx, rfl⟩, _, _, _, _, hP4.reopen hb4 _⟩
    · rw [hr] at hv
      obtain ⟨rfl, hP4⟩ := hv
      obtain ⟨u1, u2, hb4, _⟩ := hP4.pr
      conv => whnf
      repeat' ((first | (exfalso; first | omega | exact (by assumption : ¬ True) trivial | fail) | refine ⟨Sub.refl _, ?_⟩ | (refine brA_split (fun h => ?_) (fun h => ?_) <;> (try rw [h]) <;> (try simp only [bS, ↓reduceIte] at h)) | (refine getB_of hb4 ?_) | refine getB_same ?_ | refine AWp.anyA ?_ | refine and_a ?_ | fail) <;> (conv => whnf))
      rw [hopen, hr]
      have hx := hG hk x hr
      rw [i64_of (show x.k - 1 = x.k - 1 from rfl) (by omega) (by omega)]
      exact ⟨_, Sub.refl _, rfl, hP4.reopen hb4 _⟩
/-- What a step hands back: nothing, or what is wrong. -/
theorem stepA_v {r : Res St} {v : AV} (h : stepA s0 bp bl L r v s) : v = .nilIface ∨ ∃ t e, v = errA t e := by
  unfold stepA at h
  split at h
  · exact .inl h.1
  · obtain ⟨⟨kd, tx, rfl⟩, _⟩ := h
    exact .inr ⟨_, _, rfl⟩
theorem opened_k {F : St → Res St} {st x : St} (hS : Okay L st) (hk : st.k ≠ 128) (hG : Good L F (opened st)) (h : F (opened st) = .ok x) : 0 < x.k ∧ x.k ≤ 129 := by
  have h1 := (hG x h).2.k
  have h2 := hS.hk
  have h3 : (opened st).k = st.k + 1 := rfl
  omega
theorem before_ok {n : FuncId} {F : St → Res St} {C : St → Prop} (hn : callT Tryz.prog n = true) (hD : Does Γ n L F C) {st : St} (hP : Pst s0 s bp bl L st.a st.o st.d st.k) (hS : Okay L st) (hL : L.length ≤ 100000) (ha : st.a < L.length) (hC : C (opened st)) (hG : st.k ≠ 128 → Good L F (opened st)) (op : Int) (p : Tok) (hp : peekF L st.a = p) :
    ACalls Tryz.prog Γ 63 [.ptr (some ⟨bp, 0, none⟩), .agg (tokA p), .int .i64 op, .func (.func n) [.ptr (some ⟨bp, 0, none⟩)] []] s (stepA s0 bp bl L (beforeF L op F st)) := by
  have hin := fun {s0 s : Sto} (hP : Pst s0 s bp bl L st.a st.o st.d st.k) => inside_ok (Γ := Γ) hn hD hP hS hL ha hC (fun hk x hx => opened_k hS hk (hG hk) hx)
  have hgo := inside_good hS ha hG
  unfold beforeF
  rw [hp]
  obtain ⟨p1, p2, p3, p4⟩ := p
  simp only [tokA]
  refine ACalls.of_awp Tryz.func63 rfl (Nat.le_of_ble_eq_true (by kernel_rfl)) (awp_ok _ (by kernel_rfl) ?_)
  conv => whnf
  intro b5 hb5
  conv => whnf
  obtain ⟨m1, m2⟩ := hP.nb hb5
  have c5 : s0.bx b5 = none := hP.sub.none hb5
  have hP5 := (hP.box hb5 71 [.int .i64 p1, .str p2, .int .i64 p3, .int .i64 p4]).keep set_bx_same m1 m2
  repeat' ((first | (exfalso; first | omega | exact (by assumption : ¬ True) trivial | fail) | refine ⟨Sub.refl _, ?_⟩ | (refine brA_split (fun h => ?_) (fun h => ?_) <;> (try rw [h]) <;> (try simp only [bS, ↓reduceIte] at h)) | (refine ACalls.by (hin hP5) ?_; intro v s4 hv) | refine getB_same ?_ | refine AWp.anyA ?_ | refine and_a ?_ | fail) <;> (conv => whnf))
  rcases hr : insideF L F st with x | x
  · rw [hr] at hv
    obtain ⟨⟨kd, tx, rfl⟩, a', o', d', k', hP4⟩ := hv
    conv => whnf
    repeat' ((first | (exfalso; first | omega | exact (by assumption : ¬ True) trivial | fail) | refine ⟨Sub.refl _, ?_⟩ | (refine brA_split (fun h => ?_) (fun h => ?_) <;> (try rw [h]) <;> (try simp only [bS, ↓reduceIte] at h)) | refine getB_same ?_ | refine AWp.anyA ?_ | refine and_a ?_ | fail) <;> (conv => whnf))
    exact ⟨_, Sub.refl _, ⟨kd, tx, rfl⟩, _, _, _, _, (hP4.drop c5).1⟩
  · rw [hr] at hv
    obtain ⟨rfl, hP4⟩ := hv
    obtain ⟨g1, g2, g3⟩ := hgo x hr
    obtain ⟨hP6, hb6⟩ := hP4.drop c5
    have hlen := g1.ho
    have hlen2 := g1.ha
    have hlen3 := g2.o
    have hla := last_ok (Γ := Γ) hP6 (by omega)
    have hno := node_ok (Γ := Γ) hP6 (by omega) g1.hd (p1, p2, p3, p4) { ex0 with op := op, a := (x.o.length : Int) - 1 } 1 [(x.o.length : Int) - 1] (by intro i hi; rw [List.mem_singleton] at hi; subst hi; rw [g1.hd]; omega) (by simp)
    conv => whnf
    repeat' ((first | (exfalso; first | omega | exact (by assumption : ¬ True) trivial | fail) | refine ⟨Sub.refl _, ?_⟩ | (refine brA_split (fun h => ?_) (fun h => ?_) <;> (try rw [h]) <;> (try simp only [bS, ↓reduceIte] at h)) | (refine AWp.anyC (id := 4) [20, 23] [25] (by kernel_rfl) (by kernel_rfl) (by kernel_rfl) (by kernel_rfl) ?_) | (refine ⟨trivial, ?_⟩) | (refine CCall.mk _ hla ?_) | (refine getB_of hb6 ?_) | (refine ACalls.by hno ?_; intro v s9 hv9) | refine getB_same ?_ | refine AWp.anyA ?_ | refine and_a ?_ | fail) <;> (conv => whnf))
    rcases stepA_v hv9 with rfl | ⟨t9, e9, rfl⟩
    · conv => whnf
      repeat' ((first | (exfalso; first | omega | exact (by assumption : ¬ True) trivial | fail) | refine ⟨Sub.refl _, ?_⟩ | (refine brA_split (fun h => ?_) (fun h => ?_) <;> (try rw [h]) <;> (try simp only [bS, ↓reduceIte] at h)) | (refine ⟨trivial, ?_⟩) | refine getB_same ?_ | refine AWp.anyA ?_ | refine and_a ?_ | fail) <;> (conv => whnf))
      exact ⟨_, Sub.refl _, hv9⟩
    · conv => whnf
      repeat' ((first | (exfalso; first | omega | exact (by assumption : ¬ True) trivial | fail) | refine ⟨Sub.refl _, ?_⟩ | (refine brA_split (fun h => ?_) (fun h => ?_) <;> (try rw [h]) <;> (try simp only [bS, ↓reduceIte] at h)) | (refine ⟨trivial, ?_⟩) | refine getB_same ?_ | refine AWp.anyA ?_ | refine and_a ?_ | fail) <;> (conv => whnf))
      exact ⟨_, Sub.refl _, hv9⟩
end
end Go.Proofs.YthpnfflkkmpejaaGreatDoor.Pa
namespace Go.Proofs.YthpnfflkkmpejaaGreatDoor.Pa
open Go Go.Ab Go.RowKit Go.Proofs.YthpnfflkkmpejaaGreatDoor.Lx
variable {Γ : Nat → AV}
attribute [local irreducible] APure Sto.set Sto.grow
set_option maxRecDepth 10000
set_option maxHeartbeats 1000000
section
variable {s0 s : Sto} {bp bl : Nat} {L : List Tok} {a : Nat} {o : List Ex} {d : List Int} {k : Int}
theorem chain_ok {n : FuncId} {F : St → Res St} {C : St → Prop} (hn : callT Tryz.prog n = true) (hD : Does Γ n L F C) {st : St} (hP : Pst s0 s bp bl L st.a st.o st.d st.k) (hS : Okay L st) (hL : L.length ≤ 90000) (hC : ∀ q, Okay L q → st.a ≤ q.a → C q) (hG : ∀ q, Okay L q → st.a ≤ q.a → Good L F q) (m : List (List UInt8 × Int)) :
    ACalls Tryz.prog Γ 22 [.ptr (some ⟨bp, 0, none⟩), .cmap m, .func (.func n) [.ptr (some ⟨bp, 0, none⟩)] []] s (stepA s0 bp bl L (chainF L m F st)) := by
  have h1 := hD _ _ _ _ st hP hS (hC st hS (Nat.le_refl _))
  refine ACalls.of_awp Tryz.func22 rfl (Nat.le_of_ble_eq_true (by kernel_rfl)) (awp_ok _ (by kernel_rfl) ?_)
  conv => whnf
  repeat' ((first | (exfalso; first | omega | exact (by assumption : ¬ True) trivial | fail) | refine ⟨Sub.refl _, ?_⟩ | (refine brA_split (fun h => ?_) (fun h => ?_) <;> (try rw [h]) <;> (try simp only [bS, ↓reduceIte] at h)) | (refine ACalls.by h1 ?_; intro v s1 hv) | refine getB_same ?_ | refine AWp.anyA ?_ | refine and_a ?_ | fail) <;> (conv => whnf))
  rotate_left
  · rw [hn] at h; cases h
  rcases hr : F st with x | x
  · rw [hr] at hv
    obtain ⟨⟨kd, tx, rfl⟩, a', o', d', k', hP4⟩ := hv
    conv => whnf
    repeat' ((first | (exfalso; first | omega | exact (by assumption : ¬ True) trivial | fail) | refine ⟨Sub.refl _, ?_⟩ | (refine brA_split (fun h => ?_) (fun h => ?_) <;> (try rw [h]) <;> (try simp only [bS, ↓reduceIte] at h)) | refine getB_same ?_ | refine AWp.anyA ?_ | refine and_a ?_ | fail) <;> (conv => whnf))
    rw [show chainF L m F st = .error x from by unfold chainF; rw [hr]]
    exact ⟨_, Sub.refl _, ⟨kd, tx, rfl⟩, _, _, _, _, hP4⟩
  · rw [hr] at hv
    obtain ⟨rfl, hP1⟩ := hv
    obtain ⟨g1, g2⟩ := hG st hS (Nat.le_refl _) x hr
    conv => whnf
    repeat' ((first | (exfalso; first | omega | exact (by assumption : ¬ True) trivial | fail) | refine ⟨Sub.refl _, ?_⟩ | (refine brA_split (fun h => ?_) (fun h => ?_) <;> (try rw [h]) <;> (try simp only [bS, ↓reduceIte] at h)) | refine getB_same ?_ | refine AWp.anyA ?_ | refine and_a ?_ | fail) <;> (conv => whnf))
    have hch : chainF L m F st = chainL L m F (L.length + 1) x := by unfold chainF; rw [hr]
    refine AWp.loopA [] [18, 19, 20, 21, 22, 23, 24, 25, 8, 9, 26, 27, 6, 28, 29, 10, 30, 31, 32, 33, 34, 35, 36, 37, 38, 39, 40, 41, 11, 42, 43, 44, 45, 46, 47, 48, 49, 50, 51, 52, 53, 54, 55, 56, 12, 57, 58, 59] (fun q : St × Nat => ([] : List AV)) (fun q s' => Pst s0 s' bp bl L q.1.a q.1.o q.1.d q.1.k ∧ Okay L q.1 ∧ Grew st q.1 ∧ chainF L m F st = chainL L m F q.2 q.1 ∧ L.length - q.1.a < q.2) (fun q => q.2) ((x, L.length + 1)) (by kernel_rfl) (eqa) ?_ ?_
    · exact ⟨hP1, g1, g2, hch, by omega⟩
    · rintro y ⟨q, f⟩ s' ⟨hQ, k1, k2, k3, k4⟩
      show awp _ _ _ _ _ (updL _ _ []) _
      conv => whnf
      cases f with
      | zero => omega
      | succ f =>
      replace hQ : Pst s0 s' bp bl L q.a q.o q.d q.k := hQ
      replace k1 : Okay L q := k1
      replace k2 : Grew st q := k2
      replace k4 : L.length - q.a < f + 1 := k4
      have hqa : q.a ≤ L.length := k1.ha
      have hqo : q.o.length ≤ q.a := k1.ho
      have k2a : st.a ≤ q.a := k2.a
      have k2o : st.o.length < q.o.length := k2.o
      obtain ⟨t1, t2, hb, _⟩ := hQ.pr
      have hpk := peek_ok (Γ := Γ) hQ.pl (by omega) (by omega)
      have hne := next_ok (Γ := Γ) hQ (by omega) (by omega) m
      have htok : ∃ p1 p2 p3 p4, peekF L q.a = (p1, p2, p3, p4) := ⟨_, _, _, _, rfl⟩
      obtain ⟨p1, p2, p3, p4, hp⟩ := htok
      replace k3 : chainF L m F st = (if nextF L q.a m = 0 then .ok q else match F { q with a := q.a + 1 } with
        | .error e => .error e
        | .ok s2 => match nodeF (peekF L q.a) { ex0 with op := nextF L q.a m, a := (q.o.length : Int) - 1, b := (s2.o.length : Int) - 1 } [(q.o.length : Int) - 1, (s2.o.length : Int) - 1] s2 with
          | .error e => .error e
          | .ok s3 => chainL L m F f s3) := k3
      rw [hp] at hpk k3
      simp only [tokA] at hpk
      repeat' ((first | (exfalso; first | omega | exact (by assumption : ¬ True) trivial | fail) | refine ⟨Sub.refl _, ?_⟩ | (refine brA_split (fun h => ?_) (fun h => ?_) <;> (try rw [h]) <;> (try simp only [bS, ↓reduceIte] at h)) | (refine getB_of hb ?_) | (refine ACalls.by hpk ?_; rintro _ s4 ⟨rfl, hs4⟩; subst s4) | (refine ACalls.by hne ?_; rintro _ s4 ⟨rfl, hs4⟩; subst s4) | refine getB_same ?_ | refine AWp.anyA ?_ | refine and_a ?_ | fail) <;> (conv => whnf))
      intro b8 hb8
      conv => whnf
      obtain ⟨m1, m2⟩ := hQ.nb hb8
      have c8 : s0.bx b8 = none := hQ.sub.none hb8
      have hQ2 := ((hQ.box hb8 71 [.int .i64 0, .str [], .int .i64 0, .int .i64 0]).put c8 m1 m2 71 [.int .i64 p1, .str p2, .int .i64 p3, .int .i64 p4]).keep set_bx_same m1 m2
      have hQ3 := (hQ.box hb8 71 [.int .i64 0, .str [], .int .i64 0, .int .i64 0]).put c8 m1 m2 71 [.int .i64 p1, .str p2, .int .i64 p3, .int .i64 p4]
      by_cases h0 : nextF L q.a m = 0
      · rw [if_pos h0] at k3
        repeat' ((first | (exfalso; first | omega | exact (by assumption : ¬ True) trivial | fail) | refine ⟨Sub.refl _, ?_⟩ | (refine brA_split (fun h => ?_) (fun h => ?_) <;> (try rw [h]) <;> (try simp only [bS, ↓reduceIte] at h)) | refine getB_a ?_ | refine getB_same ?_ | refine AWp.anyA ?_ | refine and_a ?_ | fail) <;> (conv => whnf))
        rw [k3]
        exact ⟨_, Sub.refl _, rfl, hQ3⟩
      · rw [if_neg h0] at k3
        have hlt := nextF_lt h0
        have hla := last_ok (Γ := Γ) hQ3 (by omega)
        obtain ⟨u1, u2, hb3, _⟩ := hQ3.pr
        have hw : IntKind.i64.wrap ((q.a : Int) + 1) = ((q.a + 1 : Nat) : Int) := i64_of (by omega) (by omega) (by omega)
        have hQ4 := hQ2.next (q.a + 1)
        have hokq : Okay L { q with a := q.a + 1 } := ⟨by simp only; omega, by simp only; omega, k1.hd, k1.hk⟩
        have hon := hD _ _ _ _ { q with a := q.a + 1 } hQ4 hokq (hC _ hokq (Nat.le_succ_of_le k2a))
        have hgo := hG _ hokq (Nat.le_succ_of_le k2a)
        repeat' ((first | (exfalso; first | omega | exact (by assumption : ¬ True) trivial | fail) | refine ⟨Sub.refl _, ?_⟩ | (refine brA_split (fun h => ?_) (fun h => ?_) <;> (try rw [h]) <;> (try simp only [bS, ↓reduceIte] at h)) | refine getB_a ?_ | (refine ACalls.by hla ?_; rintro _ s5 ⟨rfl, hs5⟩; subst s5) | (refine getB_of hb3 ?_) | (refine getB_of hQ3.pl ?_) | (rw [hw]) | (refine ACalls.by hon ?_; intro v s6 hv) | refine getB_same ?_ | refine AWp.anyA ?_ | refine and_a ?_ | fail) <;> (conv => whnf))
        rotate_left
        · rw [hn] at h; cases h
        rcases hr2 : F { q with a := q.a + 1 } with z | z
        · rw [hr2] at hv k3
          obtain ⟨⟨kd, tx, rfl⟩, a', o', d', k', hP4⟩ := hv
          conv => whnf
          repeat' ((first | (exfalso; first | omega | exact (by assumption : ¬ True) trivial | fail) | refine ⟨Sub.refl _, ?_⟩ | (refine brA_split (fun h => ?_) (fun h => ?_) <;> (try rw [h]) <;> (try simp only [bS, ↓reduceIte] at h)) | refine getB_same ?_ | refine AWp.anyA ?_ | refine and_a ?_ | fail) <;> (conv => whnf))
          rw [k3]
          exact ⟨_, Sub.refl _, ⟨kd, tx, rfl⟩, _, _, _, _, (hP4.drop c8).1⟩
        · rw [hr2] at hv k3
          dsimp only at k3
          obtain ⟨rfl, hP4⟩ := hv
          obtain ⟨z1, z2⟩ := hgo z hr2
          obtain ⟨hP6, hb6⟩ := hP4.drop c8
          have e1 := z2.a
          have e2 := z2.l
          have e3 := z2.o
          have e4 := z2.k
          have e5 := z1.ha
          have e6 := z1.ho
          simp only at e1 e2 e3 e4
          have hla2 := last_ok (Γ := Γ) hP6 (by omega)
          have hno := node_ok (Γ := Γ) hP6 (by omega) z1.hd (p1, p2, p3, p4) { ex0 with op := nextF L q.a m, a := (q.o.length : Int) - 1, b := (z.o.length : Int) - 1 } 1 [(q.o.length : Int) - 1, (z.o.length : Int) - 1] (by
            intro i hi; rw [z1.hd]; rcases List.mem_cons.1 hi with rfl | hi
            · omega
            · rw [List.mem_singleton] at hi; subst hi; omega) (by simp)
          conv => whnf
          repeat' ((first | (exfalso; first | omega | exact (by assumption : ¬ True) trivial | fail) | refine ⟨Sub.refl _, ?_⟩ | (refine brA_split (fun h => ?_) (fun h => ?_) <;> (try rw [h]) <;> (try simp only [bS, ↓reduceIte] at h)) | (refine AWp.anyC (id := 12) [50, 54] [56] (by kernel_rfl) (by kernel_rfl) (by kernel_rfl) (by kernel_rfl) ?_) | (refine ⟨trivial, ?_⟩) | (refine CCall.mk _ hla2 ?_) | (refine getB_of hb6 ?_) | (refine ACalls.by hno ?_; intro v s9 hv9) | refine getB_same ?_ | refine AWp.anyA ?_ | refine and_a ?_ | fail) <;> (conv => whnf))
          rcases hr3 : nodeF (p1, p2, p3, p4) { ex0 with op := nextF L q.a m, a := (q.o.length : Int) - 1, b := (z.o.length : Int) - 1 } [(q.o.length : Int) - 1, (z.o.length : Int) - 1] z with y3 | y3
          · rw [hr3] at hv9 k3
            obtain ⟨⟨kd, tx, rfl⟩, a', o', d', k', hP9⟩ := hv9
            conv => whnf
            repeat' ((first | (exfalso; first | omega | exact (by assumption : ¬ True) trivial | fail) | refine ⟨Sub.refl _, ?_⟩ | (refine brA_split (fun h => ?_) (fun h => ?_) <;> (try rw [h]) <;> (try simp only [bS, ↓reduceIte] at h)) | (refine ⟨trivial, ?_⟩) | refine getB_same ?_ | refine AWp.anyA ?_ | refine and_a ?_ | fail) <;> (conv => whnf))
            rw [k3]
            exact ⟨_, Sub.refl _, ⟨kd, tx, rfl⟩, _, _, _, _, hP9⟩
          · rw [hr3] at hv9 k3
            obtain ⟨rfl, hP9⟩ := hv9
            obtain ⟨j1, j2⟩ := node_good (s := st) (s1 := z) (by omega) z1.ha (by have := k2.l; omega) (by omega) z1.hd (e4.trans k2.k) hS hr3
            conv => whnf
            repeat' ((first | (exfalso; first | omega | exact (by assumption : ¬ True) trivial | fail) | refine ⟨Sub.refl _, ?_⟩ | (refine brA_split (fun h => ?_) (fun h => ?_) <;> (try rw [h]) <;> (try simp only [bS, ↓reduceIte] at h)) | (refine ⟨trivial, ?_⟩) | refine getB_same ?_ | refine AWp.anyA ?_ | refine and_a ?_ | fail) <;> (conv => whnf))
            refine ⟨(y3, f), eqa, samea, ⟨hP9, j1, j2, k3, ?_⟩, by first | omega | (simp only; omega)⟩
            have ja : q.a + 1 ≤ y3.a := by
              obtain ⟨rfl, _⟩ := nodeF_ok hr3
              exact e1
            simp only
            omega
end
end Go.Proofs.YthpnfflkkmpejaaGreatDoor.Pa
namespace Go.Proofs.YthpnfflkkmpejaaGreatDoor.Pa
open Go Go.Ab Go.RowKit Go.Proofs.YthpnfflkkmpejaaGreatDoor.Lx
variable {Γ : Nat → AV}
attribute [local irreducible] APure Sto.set Sto.grow
set_option maxRecDepth 10000
set_option maxHeartbeats 1000000
section
variable {s0 s : Sto} {bp bl : Nat} {L : List Tok} {a : Nat} {o : List Ex} {d : List Int} {k : Int}
/-- A level's method, with so much fuel. -/
def Lev (Γ : Nat → AV) (L : List Tok) (n : FuncId) (f lv : Nat) : Prop := Does Γ n L (ev L f lv) (Enough L lv f)
theorem up_enough {L : List Tok} {f lv l2 : Nat} {st : St} (h : Enough L lv (f + 1) st) (h1 : lv < l2) (h2 : l2 ≤ 6) : ∀ q, Okay L q → st.a ≤ q.a → Enough L l2 f q := fun q _ ha => by
  unfold Enough at *; omega
theorem prod_ok (hL : L.length ≤ 90000) {f : Nat} (h : Lev Γ L 117 f 6) : Lev Γ L 94 (f + 1) 5 := by
  intro s0 s bp bl st hP hS hE
  have hup := up_enough hE (l2 := 6) (by omega) (by omega)
  have hc := chain_ok (Γ := Γ) (by kernel_rfl) h hP hS hL hup (fun q hq ha => ev_good f 6 q (by omega) hq (hup q hq ha)) prodM
  refine ACalls.of_awp Tryz.func94 rfl (Nat.le_of_ble_eq_true (by kernel_rfl)) ?_
  refine AWp.seq (awp_ok _ (by kernel_rfl) ?_)
  conv => whnf
  refine AWp.seq ?_
  refine AWp.mapLit (id := 1) (kt := 9) (et := 3) (x0 := .tmp 0) (i0 := 3) (d := 4) (T := 76) (o0 := ?o0) (mk := ?mk) (rest := ?rest) (ins := [?a0, ?a1, ?a2]) prodM ?h1 ?h2 ?h3 ?h4 ?h5 ?h6 ?h7 ?h8 ?h9 (by kernel_rfl) (by kernel_rfl) (by decide) ?_
  case h1 => rfl
  case h2 => kernel_rfl
  case h3 => rfl
  case h4 => rfl
  case h5 => rfl
  case h6 => rfl
  case h7 => rfl
  case h8 => rfl
  case h9 => exact ⟨⟨rfl, rfl, rfl⟩, ⟨rfl, rfl, rfl⟩, ⟨rfl, rfl, rfl⟩, trivial⟩
  conv => whnf
  refine ACalls.by hc ?_
  intro v s1 hv
  rcases stepA_v hv with rfl | ⟨t9, e9, rfl⟩
  all_goals (conv => whnf)
  all_goals refine AWp.ret ?_
  all_goals (conv => whnf)
  all_goals exact ⟨_, Sub.refl _, hv⟩
theorem sum_ok (hL : L.length ≤ 90000) {f : Nat} (h : Lev Γ L 94 f 5) : Lev Γ L 81 (f + 1) 4 := by
  intro s0 s bp bl st hP hS hE
  have hup := up_enough hE (l2 := 5) (by omega) (by omega)
  have hc := chain_ok (Γ := Γ) (by kernel_rfl) h hP hS hL hup (fun q hq ha => ev_good f 5 q (by omega) hq (hup q hq ha)) sumM
  refine ACalls.of_awp Tryz.func81 rfl (Nat.le_of_ble_eq_true (by kernel_rfl)) ?_
  refine AWp.seq (awp_ok _ (by kernel_rfl) ?_)
  conv => whnf
  refine AWp.seq ?_
  refine AWp.mapLit (id := 1) (kt := 9) (et := 3) (x0 := .tmp 0) (i0 := 3) (d := 4) (T := 76) (o0 := ?o0) (mk := ?mk) (rest := ?rest) (ins := [?a0, ?a1]) sumM ?h1 ?h2 ?h3 ?h4 ?h5 ?h6 ?h7 ?h8 ?h9 (by kernel_rfl) (by kernel_rfl) (by decide) ?_
  case h1 => rfl
  case h2 => kernel_rfl
  case h3 => rfl
  case h4 => rfl
  case h5 => rfl
  case h6 => rfl
  case h7 => rfl
  case h8 => rfl
  case h9 => exact ⟨⟨rfl, rfl, rfl⟩, ⟨rfl, rfl, rfl⟩, trivial⟩
  conv => whnf
  refine ACalls.by hc ?_
  intro v s1 hv
  rcases stepA_v hv with rfl | ⟨t9, e9, rfl⟩
  all_goals (conv => whnf)
  all_goals refine AWp.ret ?_
  all_goals (conv => whnf)
  all_goals exact ⟨_, Sub.refl _, hv⟩
theorem and_ok (hL : L.length ≤ 90000) {f : Nat} (h : Lev Γ L 43 f 2) : Lev Γ L 23 (f + 1) 1 := by
  intro s0 s bp bl st hP hS hE
  have hup := up_enough hE (l2 := 2) (by omega) (by omega)
  have hc := chain_ok (Γ := Γ) (by kernel_rfl) h hP hS hL hup (fun q hq ha => ev_good f 2 q (by omega) hq (hup q hq ha)) andM
  refine ACalls.of_awp Tryz.func23 rfl (Nat.le_of_ble_eq_true (by kernel_rfl)) ?_
  refine AWp.seq (awp_ok _ (by kernel_rfl) ?_)
  conv => whnf
  refine AWp.seq ?_
  refine AWp.mapLit (id := 1) (kt := 9) (et := 3) (x0 := .tmp 0) (i0 := 3) (d := 4) (T := 76) (o0 := ?o0) (mk := ?mk) (rest := ?rest) (ins := [?a0]) andM ?h1 ?h2 ?h3 ?h4 ?h5 ?h6 ?h7 ?h8 ?h9 (by kernel_rfl) (by kernel_rfl) (by decide) ?_
  case h1 => rfl
  case h2 => kernel_rfl
  case h3 => rfl
  case h4 => rfl
  case h5 => rfl
  case h6 => rfl
  case h7 => rfl
  case h8 => rfl
  case h9 => exact ⟨⟨rfl, rfl, rfl⟩, trivial⟩
  conv => whnf
  refine ACalls.by hc ?_
  intro v s1 hv
  rcases stepA_v hv with rfl | ⟨t9, e9, rfl⟩
  all_goals (conv => whnf)
  all_goals refine AWp.ret ?_
  all_goals (conv => whnf)
  all_goals exact ⟨_, Sub.refl _, hv⟩
theorem expr_ok (hL : L.length ≤ 90000) {f : Nat} (h : Lev Γ L 23 f 1) : Lev Γ L 11 (f + 1) 0 := by
  intro s0 s bp bl st hP hS hE
  have hup := up_enough hE (l2 := 1) (by omega) (by omega)
  have hc := chain_ok (Γ := Γ) (by kernel_rfl) h hP hS hL hup (fun q hq ha => ev_good f 1 q (by omega) hq (hup q hq ha)) orM
  refine ACalls.of_awp Tryz.func11 rfl (Nat.le_of_ble_eq_true (by kernel_rfl)) ?_
  refine AWp.seq (awp_ok _ (by kernel_rfl) ?_)
  conv => whnf
  refine AWp.seq ?_
  refine AWp.mapLit (id := 1) (kt := 9) (et := 3) (x0 := .tmp 0) (i0 := 3) (d := 4) (T := 76) (o0 := ?o0) (mk := ?mk) (rest := ?rest) (ins := [?a0]) orM ?h1 ?h2 ?h3 ?h4 ?h5 ?h6 ?h7 ?h8 ?h9 (by kernel_rfl) (by kernel_rfl) (by decide) ?_
  case h1 => rfl
  case h2 => kernel_rfl
  case h3 => rfl
  case h4 => rfl
  case h5 => rfl
  case h6 => rfl
  case h7 => rfl
  case h8 => rfl
  case h9 => exact ⟨⟨rfl, rfl, rfl⟩, trivial⟩
  conv => whnf
  refine ACalls.by hc ?_
  intro v s1 hv
  rcases stepA_v hv with rfl | ⟨t9, e9, rfl⟩
  all_goals (conv => whnf)
  all_goals refine AWp.ret ?_
  all_goals (conv => whnf)
  all_goals exact ⟨_, Sub.refl _, hv⟩
theorem ev2 (L : List Tok) (f : Nat) (st : St) : ev L (f + 1) 2 st = if isF L st.a [110, 111, 116] = true then beforeF L 4 (ev L f 2) st else ev L f 3 st := rfl
theorem not_ok (hL : L.length ≤ 90000) {f : Nat} (hc : Lev Γ L 64 f 3) (hn : Lev Γ L 43 f 2) : Lev Γ L 43 (f + 1) 2 := by
  intro s0 s bp bl st hP hS hE
  have hup := up_enough hE (l2 := 3) (by omega) (by omega) st hS (Nat.le_refl _)
  have hsa := hS.ha
  have hi := isP (Γ := Γ) hP (by omega) (by omega) [110, 111, 116]
  have hcc := hc _ _ _ _ st hP hS hup
  have hpk := peek_ok (Γ := Γ) hP.pl (by omega) (by omega)
  obtain ⟨t1, t2, hb, _⟩ := hP.pr
  rw [ev2]
  cases hx : isF L st.a [110, 111, 116]
  · rw [hx] at hi
    simp only [Bool.false_eq_true, if_false]
    refine ACalls.of_awp Tryz.func43 rfl (Nat.le_of_ble_eq_true (by kernel_rfl)) (awp_ok _ (by kernel_rfl) ?_)
    conv => whnf
    repeat' ((first | (exfalso; first | omega | exact (by assumption : ¬ True) trivial | fail) | refine ⟨Sub.refl _, ?_⟩ | (refine brA_split (fun h => ?_) (fun h => ?_) <;> (try rw [h]) <;> (try simp only [bS, ↓reduceIte] at h)) | (refine ACalls.by hi ?_; rintro _ s4 ⟨rfl, hs4⟩; subst s4) | (refine ACalls.by hcc ?_; intro v s1 hv) | refine getB_same ?_ | refine AWp.anyA ?_ | refine and_a ?_ | fail) <;> (conv => whnf))
    rcases stepA_v hv with rfl | ⟨t9, e9, rfl⟩
    all_goals (conv => whnf)
    all_goals exact ⟨_, Sub.refl _, hv⟩
  · rw [hx] at hi
    simp only [if_true]
    have hlt := isF_lt hx
    have hen : st.k ≠ 128 → Enough L 2 f (opened st) := fun _ => by unfold Enough at *; simp only [opened]; omega
    have hen' : Enough L 2 f (opened st) := by unfold Enough at *; simp only [opened]; omega
    have hbe := before_ok (Γ := Γ) (by kernel_rfl) hn hP hS (by omega) hlt hen' (fun hk => ev_good f 2 _ (by omega) (opened_okay hS hlt hk) hen') 4 _ rfl
    refine ACalls.of_awp Tryz.func43 rfl (Nat.le_of_ble_eq_true (by kernel_rfl)) (awp_ok _ (by kernel_rfl) ?_)
    conv => whnf
    repeat' ((first | (exfalso; first | omega | exact (by assumption : ¬ True) trivial | fail) | refine ⟨Sub.refl _, ?_⟩ | (refine brA_split (fun h => ?_) (fun h => ?_) <;> (try rw [h]) <;> (try simp only [bS, ↓reduceIte] at h)) | (refine ACalls.by hi ?_; rintro _ s4 ⟨rfl, hs4⟩; subst s4) | (refine getB_of hb ?_) | (refine ACalls.by hpk ?_; rintro _ s4 ⟨rfl, hs4⟩; subst s4) | (refine ACalls.by hbe ?_; intro v s1 hv) | refine getB_same ?_ | refine AWp.anyA ?_ | refine and_a ?_ | fail) <;> (conv => whnf))
    rcases stepA_v hv with rfl | ⟨t9, e9, rfl⟩
    all_goals (conv => whnf)
    all_goals exact ⟨_, Sub.refl _, hv⟩
theorem bracket_ok (hL : L.length ≤ 90000) {f : Nat} (he : Lev Γ L 11 f 0) : Does Γ 129 L (fun s => match ev L f 0 s with | .error e => .error e | .ok s' => wantF L [41] s') (Enough L 0 f) := by
  intro s0 s bp bl st hP hS hE
  have h1 := he _ _ _ _ st hP hS hE
  have hg := ev_good f 0 st (by omega) hS hE
  refine ACalls.of_awp Tryz.func129 rfl (Nat.le_of_ble_eq_true (by kernel_rfl)) (awp_ok _ (by kernel_rfl) ?_)
  conv => whnf
  repeat' ((first | (exfalso; first | omega | exact (by assumption : ¬ True) trivial | fail) | refine ⟨Sub.refl _, ?_⟩ | (refine brA_split (fun h => ?_) (fun h => ?_) <;> (try rw [h]) <;> (try simp only [bS, ↓reduceIte] at h)) | (refine ACalls.by h1 ?_; intro v s1 hv) | refine getB_same ?_ | refine AWp.anyA ?_ | refine and_a ?_ | fail) <;> (conv => whnf))
  rcases hr : ev L f 0 st with x | x
  · rw [hr] at hv
    obtain ⟨⟨kd, tx, rfl⟩, a', o', d', k', hP4⟩ := hv
    conv => whnf
    repeat' ((first | (exfalso; first | omega | exact (by assumption : ¬ True) trivial | fail) | refine ⟨Sub.refl _, ?_⟩ | (refine brA_split (fun h => ?_) (fun h => ?_) <;> (try rw [h]) <;> (try simp only [bS, ↓reduceIte] at h)) | refine getB_same ?_ | refine AWp.anyA ?_ | refine and_a ?_ | fail) <;> (conv => whnf))
    dsimp only
    rw [hr]
    exact ⟨_, Sub.refl _, ⟨kd, tx, rfl⟩, _, _, _, _, hP4⟩
  · rw [hr] at hv
    obtain ⟨rfl, hP4⟩ := hv
    have hx := (hg x hr).1.ha
    have hwn := want_ok (Γ := Γ) hP4 (by omega) (by omega) [41] 1
    conv => whnf
    repeat' ((first | (exfalso; first | omega | exact (by assumption : ¬ True) trivial | fail) | refine ⟨Sub.refl _, ?_⟩ | (refine brA_split (fun h => ?_) (fun h => ?_) <;> (try rw [h]) <;> (try simp only [bS, ↓reduceIte] at h)) | (refine ACalls.by hwn ?_; intro v s2 hv2) | refine getB_same ?_ | refine AWp.anyA ?_ | refine and_a ?_ | fail) <;> (conv => whnf))
    rcases stepA_v hv2 with rfl | ⟨t9, e9, rfl⟩
    all_goals (conv => whnf)
    all_goals dsimp only
    all_goals rw [hr]
    all_goals exact ⟨_, Sub.refl _, hv2⟩
end
end Go.Proofs.YthpnfflkkmpejaaGreatDoor.Pa
namespace Go.Proofs.YthpnfflkkmpejaaGreatDoor.Pa
open Go Go.Ab Go.RowKit Go.Proofs.YthpnfflkkmpejaaGreatDoor.Lx
variable {Γ : Nat → AV}
attribute [local irreducible] APure Sto.set Sto.grow
set_option maxRecDepth 10000
set_option maxHeartbeats 1000000
section
variable {s0 s : Sto} {bp bl : Nat} {L : List Tok} {a : Nat} {o : List Ex} {d : List Int} {k : Int}
theorem unary_ok (hR : Nu.ErrR Γ) (hL : L.length ≤ 90000) (hT : ∀ i, (peekF L i).2.1.length ≤ 5000) {f : Nat} (he : Lev Γ L 11 f 0) (hu : Lev Γ L 117 f 6) : Lev Γ L 117 (f + 1) 6 := by
  intro s0 s bp bl st hP hS hE
  have hsa := hS.ha
  have hso := hS.ho
  have hbr := bracket_ok (Γ := Γ) hL he
  have htok : ∃ p1 p2 p3 p4, peekF L st.a = (p1, p2, p3, p4) := ⟨_, _, _, _, rfl⟩
  obtain ⟨p1, p2, p3, p4, hp⟩ := htok
  have hpk := peek_ok (Γ := Γ) hP.pl (by omega) (by omega)
  rw [hp] at hpk
  simp only [tokA] at hpk
  obtain ⟨t1, t2, hb, _⟩ := hP.pr
  refine ACalls.of_awp Tryz.func117 rfl (Nat.le_of_ble_eq_true (by kernel_rfl)) (awp_ok _ (by kernel_rfl) ?_)
  conv => whnf
  repeat' ((first | (exfalso; first | omega | exact (by assumption : ¬ True) trivial | fail) | refine ⟨Sub.refl _, ?_⟩ | (refine brA_split (fun h => ?_) (fun h => ?_) <;> (try rw [h]) <;> (try simp only [bS, ↓reduceIte] at h)) | (refine getB_of hb ?_) | (refine ACalls.by hpk ?_; rintro _ s4 ⟨rfl, hs4⟩; subst s4) | refine getB_same ?_ | refine AWp.anyA ?_ | refine and_a ?_ | fail) <;> (conv => whnf))
  intro b3 hb3
  conv => whnf
  obtain ⟨m1, m2⟩ := hP.nb hb3
  have c3 : s0.bx b3 = none := hP.sub.none hb3
  have hQ := (hP.box hb3 71 [.int .i64 0, .str [], .int .i64 0, .int .i64 0]).put c3 m1 m2 71 [.int .i64 p1, .str p2, .int .i64 p3, .int .i64 p4]
  have hq3 : ((s.set b3 71 [.int .i64 0, .str [], .int .i64 0, .int .i64 0]).set b3 71 [.int .i64 p1, .str p2, .int .i64 p3, .int .i64 p4]).bx b3 = some (71, [.int .i64 p1, .str p2, .int .i64 p3, .int .i64 p4]) := set_bx_same
  repeat' ((first | (exfalso; first | omega | exact (by assumption : ¬ True) trivial | fail) | refine ⟨Sub.refl _, ?_⟩ | (refine brA_split (fun h => ?_) (fun h => ?_) <;> (try rw [h]) <;> (try simp only [bS, ↓reduceIte] at h)) | refine getB_a ?_ | refine getB_same ?_ | refine AWp.anyA ?_ | refine and_a ?_ | fail) <;> (conv => whnf))
  generalize (s.set b3 71 [.int .i64 0, .str [], .int .i64 0, .int .i64 0]).set b3 71 [.int .i64 p1, .str p2, .int .i64 p3, .int .i64 p4] = sq at *
  obtain ⟨u1, u2, hb4, _⟩ := hQ.pr
  have hi1 := isP (Γ := Γ) hQ (by omega) (by omega) [40]
  have hi2 := isP (Γ := Γ) hQ (by omega) (by omega) [45]
  have hnu := numbered_ok (Γ := Γ) hQ (by omega) (by omega)
  have hkeep := hQ.keep hq3 m1 m2
  have hval := value_ok (Γ := Γ) hR hkeep (by omega) (by omega) hT
  have hev : ev L (f + 1) 6 st = unaryF L (ev L f 0) (ev L f 6) st := rfl
  rw [hev]
  unfold unaryF
  rw [hp]
  cases hx : isF L st.a [40]
  · rw [hx] at hi1
    rw [if_neg (by decide)]
    repeat' ((first | (exfalso; first | omega | exact (by assumption : ¬ True) trivial | fail) | refine ⟨Sub.refl _, ?_⟩ | (refine brA_split (fun h => ?_) (fun h => ?_) <;> (try rw [h]) <;> (try simp only [bS, ↓reduceIte] at h)) | (refine ACalls.by hi1 ?_; rintro _ s4 ⟨rfl, hs4⟩; subst s4) | (refine getB_of hq3 ?_) | refine getB_same ?_ | refine AWp.anyA ?_ | refine and_a ?_ | fail) <;> (conv => whnf))
    rotate_left
    · have hc1 : ¬ (p1 = 1 ∧ p2 ≠ [95]) := fun h => h.2 (by assumption)
      rw [if_neg hc1]
      cases hy : isF L st.a [45]
      · rw [hy] at hi2
        rw [if_neg (by simp)]
        repeat' ((first | (exfalso; first | omega | exact (by assumption : ¬ True) trivial | fail) | refine ⟨Sub.refl _, ?_⟩ | (refine brA_split (fun h => ?_) (fun h => ?_) <;> (try rw [h]) <;> (try simp only [bS, ↓reduceIte] at h)) | (refine ACalls.by hi2 ?_; rintro _ s4 ⟨rfl, hs4⟩; subst s4) | (refine ACalls.by hval ?_; intro v s2 hv2) | refine getB_same ?_ | refine AWp.anyA ?_ | refine and_a ?_ | fail) <;> (conv => whnf))
        unfold valA at hv2
        rcases hvf : valueF L st.a with x | ⟨⟨x1, x2, x3, x4⟩, a'⟩
        · rw [hvf] at hv2
          obtain ⟨e, a', rfl, ⟨kd, tx, rfl⟩, hP6⟩ := hv2
          obtain ⟨hP8, hb8⟩ := hP6.drop c3
          conv => whnf
          repeat' ((first | (exfalso; first | omega | exact (by assumption : ¬ True) trivial | fail) | refine ⟨Sub.refl _, ?_⟩ | (refine brA_split (fun h => ?_) (fun h => ?_) <;> (try rw [h]) <;> (try simp only [bS, ↓reduceIte] at h)) | refine getB_same ?_ | refine AWp.anyA ?_ | refine and_a ?_ | fail) <;> (conv => whnf))
          intro b4 hb4'
          conv => whnf
          have c4 : s0.bx b4 = none := hP8.sub.none hb4'
          obtain ⟨m3, m4⟩ := hP8.nb hb4'
          repeat' ((first | (exfalso; first | omega | exact (by assumption : ¬ True) trivial | fail) | refine ⟨Sub.refl _, ?_⟩ | (refine brA_split (fun h => ?_) (fun h => ?_) <;> (try rw [h]) <;> (try simp only [bS, ↓reduceIte] at h)) | refine getB_a ?_ | refine getB_same ?_ | refine AWp.anyA ?_ | refine and_a ?_ | fail) <;> (conv => whnf))
          exact ⟨_, Sub.refl _, ⟨kd, tx, rfl⟩, _, _, _, _, (hP8.box hb4' _ _).put c4 m3 m4 _ _⟩
        · rw [hvf] at hv2
          obtain ⟨rfl, hP6⟩ := hv2
          obtain ⟨hP8, hb8⟩ := hP6.drop c3
          conv => whnf
          repeat' ((first | (exfalso; first | omega | exact (by assumption : ¬ True) trivial | fail) | refine ⟨Sub.refl _, ?_⟩ | (refine brA_split (fun h => ?_) (fun h => ?_) <;> (try rw [h]) <;> (try simp only [bS, ↓reduceIte] at h)) | refine getB_same ?_ | refine AWp.anyA ?_ | refine and_a ?_ | fail) <;> (conv => whnf))
          intro b4 hb4'
          conv => whnf
          have c4 : s0.bx b4 = none := hP8.sub.none hb4'
          obtain ⟨m3, m4⟩ := hP8.nb hb4'
          have n34 : b3 ≠ b4 := ne_of_none hb8 hb4'
          have hP9 := (hP8.box hb4' 39 [.int .i64 0, .int .i64 0, .str [], .bool false]).put c4 m3 m4 39 (vlA (x1, x2, x3, x4))
          have hno := node_ok (Γ := Γ) hP9 (by omega) hS.hd (p1, p2, p3, p4) { ex0 with op := 1, vk := x1, vi := x2, vs := x3, vb := x4 } 1 [] (by simp) (by simp)
          repeat' ((first | (exfalso; first | omega | exact (by assumption : ¬ True) trivial | fail) | refine ⟨Sub.refl _, ?_⟩ | (refine brA_split (fun h => ?_) (fun h => ?_) <;> (try rw [h]) <;> (try simp only [bS, ↓reduceIte] at h)) | refine getB_a ?_ | (refine getB_of ((set_bx_other n34).trans ((set_bx_other n34).trans hb8)) ?_) | (refine ACalls.by hno ?_; intro v s2 hv2) | refine getB_same ?_ | refine AWp.anyA ?_ | refine and_a ?_ | fail) <;> (conv => whnf))
          rcases stepA_v hv2 with rfl | ⟨t9, e9, rfl⟩
          all_goals (conv => whnf)
          all_goals exact ⟨_, Sub.refl _, hv2⟩
      · rw [hy] at hi2
        have hlt := isF_lt hy
        cases hz : numbF L st.a
        · rw [hz] at hnu
          rw [if_pos (by simp)]
          have hen : Enough L 6 f (opened st) := by unfold Enough at *; simp only [opened]; omega
          have hbe := before_ok (Γ := Γ) (by kernel_rfl) hu hQ hS (by omega) hlt hen (fun hk => ev_good f 6 _ (by omega) (opened_okay hS hlt hk) hen) 5 (p1, p2, p3, p4) hp
          repeat' ((first | (exfalso; first | omega | exact (by assumption : ¬ True) trivial | fail) | refine ⟨Sub.refl _, ?_⟩ | (refine brA_split (fun h => ?_) (fun h => ?_) <;> (try rw [h]) <;> (try simp only [bS, ↓reduceIte] at h)) | (refine ACalls.by hi2 ?_; rintro _ s4 ⟨rfl, hs4⟩; subst s4) | (refine ACalls.by hnu ?_; rintro _ s4 ⟨rfl, hs4⟩; subst s4) | (refine getB_of hq3 ?_) | (refine ACalls.by hbe ?_; intro v s2 hv2) | refine getB_same ?_ | refine AWp.anyA ?_ | refine and_a ?_ | fail) <;> (conv => whnf))
          rcases stepA_v hv2 with rfl | ⟨t9, e9, rfl⟩
          all_goals (conv => whnf)
          all_goals exact ⟨_, Sub.refl _, hv2⟩
        · rw [hz] at hnu
          rw [if_neg (by simp)]
          repeat' ((first | (exfalso; first | omega | exact (by assumption : ¬ True) trivial | fail) | refine ⟨Sub.refl _, ?_⟩ | (refine brA_split (fun h => ?_) (fun h => ?_) <;> (try rw [h]) <;> (try simp only [bS, ↓reduceIte] at h)) | (refine ACalls.by hi2 ?_; rintro _ s4 ⟨rfl, hs4⟩; subst s4) | (refine ACalls.by hnu ?_; rintro _ s4 ⟨rfl, hs4⟩; subst s4) | (refine ACalls.by hval ?_; intro v s2 hv2) | refine getB_same ?_ | refine AWp.anyA ?_ | refine and_a ?_ | fail) <;> (conv => whnf))
          unfold valA at hv2
          rcases hvf : valueF L st.a with x | ⟨⟨x1, x2, x3, x4⟩, a'⟩
          · rw [hvf] at hv2
            obtain ⟨e, a', rfl, ⟨kd, tx, rfl⟩, hP6⟩ := hv2
            obtain ⟨hP8, hb8⟩ := hP6.drop c3
            conv => whnf
            repeat' ((first | (exfalso; first | omega | exact (by assumption : ¬ True) trivial | fail) | refine ⟨Sub.refl _, ?_⟩ | (refine brA_split (fun h => ?_) (fun h => ?_) <;> (try rw [h]) <;> (try simp only [bS, ↓reduceIte] at h)) | refine getB_same ?_ | refine AWp.anyA ?_ | refine and_a ?_ | fail) <;> (conv => whnf))
            intro b4 hb4'
            conv => whnf
            have c4 : s0.bx b4 = none := hP8.sub.none hb4'
            obtain ⟨m3, m4⟩ := hP8.nb hb4'
            repeat' ((first | (exfalso; first | omega | exact (by assumption : ¬ True) trivial | fail) | refine ⟨Sub.refl _, ?_⟩ | (refine brA_split (fun h => ?_) (fun h => ?_) <;> (try rw [h]) <;> (try simp only [bS, ↓reduceIte] at h)) | refine getB_a ?_ | refine getB_same ?_ | refine AWp.anyA ?_ | refine and_a ?_ | fail) <;> (conv => whnf))
            exact ⟨_, Sub.refl _, ⟨kd, tx, rfl⟩, _, _, _, _, (hP8.box hb4' _ _).put c4 m3 m4 _ _⟩
          · rw [hvf] at hv2
            obtain ⟨rfl, hP6⟩ := hv2
            obtain ⟨hP8, hb8⟩ := hP6.drop c3
            conv => whnf
            repeat' ((first | (exfalso; first | omega | exact (by assumption : ¬ True) trivial | fail) | refine ⟨Sub.refl _, ?_⟩ | (refine brA_split (fun h => ?_) (fun h => ?_) <;> (try rw [h]) <;> (try simp only [bS, ↓reduceIte] at h)) | refine getB_same ?_ | refine AWp.anyA ?_ | refine and_a ?_ | fail) <;> (conv => whnf))
            intro b4 hb4'
            conv => whnf
            have c4 : s0.bx b4 = none := hP8.sub.none hb4'
            obtain ⟨m3, m4⟩ := hP8.nb hb4'
            have n34 : b3 ≠ b4 := ne_of_none hb8 hb4'
            have hP9 := (hP8.box hb4' 39 [.int .i64 0, .int .i64 0, .str [], .bool false]).put c4 m3 m4 39 (vlA (x1, x2, x3, x4))
            have hno := node_ok (Γ := Γ) hP9 (by omega) hS.hd (p1, p2, p3, p4) { ex0 with op := 1, vk := x1, vi := x2, vs := x3, vb := x4 } 1 [] (by simp) (by simp)
            repeat' ((first | (exfalso; first | omega | exact (by assumption : ¬ True) trivial | fail) | refine ⟨Sub.refl _, ?_⟩ | (refine brA_split (fun h => ?_) (fun h => ?_) <;> (try rw [h]) <;> (try simp only [bS, ↓reduceIte] at h)) | refine getB_a ?_ | (refine getB_of ((set_bx_other n34).trans ((set_bx_other n34).trans hb8)) ?_) | (refine ACalls.by hno ?_; intro v s2 hv2) | refine getB_same ?_ | refine AWp.anyA ?_ | refine and_a ?_ | fail) <;> (conv => whnf))
            rcases stepA_v hv2 with rfl | ⟨t9, e9, rfl⟩
            all_goals (conv => whnf)
            all_goals exact ⟨_, Sub.refl _, hv2⟩
    · have hc1 : ¬ (p1 = 1 ∧ p2 ≠ [95]) := fun h => (by assumption : ¬ p1 = 1) h.1
      rw [if_neg hc1]
      cases hy : isF L st.a [45]
      · rw [hy] at hi2
        rw [if_neg (by simp)]
        repeat' ((first | (exfalso; first | omega | exact (by assumption : ¬ True) trivial | fail) | refine ⟨Sub.refl _, ?_⟩ | (refine brA_split (fun h => ?_) (fun h => ?_) <;> (try rw [h]) <;> (try simp only [bS, ↓reduceIte] at h)) | (refine ACalls.by hi2 ?_; rintro _ s4 ⟨rfl, hs4⟩; subst s4) | (refine ACalls.by hval ?_; intro v s2 hv2) | refine getB_same ?_ | refine AWp.anyA ?_ | refine and_a ?_ | fail) <;> (conv => whnf))
        unfold valA at hv2
        rcases hvf : valueF L st.a with x | ⟨⟨x1, x2, x3, x4⟩, a'⟩
        · rw [hvf] at hv2
          obtain ⟨e, a', rfl, ⟨kd, tx, rfl⟩, hP6⟩ := hv2
          obtain ⟨hP8, hb8⟩ := hP6.drop c3
          conv => whnf
          repeat' ((first | (exfalso; first | omega | exact (by assumption : ¬ True) trivial | fail) | refine ⟨Sub.refl _, ?_⟩ | (refine brA_split (fun h => ?_) (fun h => ?_) <;> (try rw [h]) <;> (try simp only [bS, ↓reduceIte] at h)) | refine getB_same ?_ | refine AWp.anyA ?_ | refine and_a ?_ | fail) <;> (conv => whnf))
          intro b4 hb4'
          conv => whnf
          have c4 : s0.bx b4 = none := hP8.sub.none hb4'
          obtain ⟨m3, m4⟩ := hP8.nb hb4'
          repeat' ((first | (exfalso; first | omega | exact (by assumption : ¬ True) trivial | fail) | refine ⟨Sub.refl _, ?_⟩ | (refine brA_split (fun h => ?_) (fun h => ?_) <;> (try rw [h]) <;> (try simp only [bS, ↓reduceIte] at h)) | refine getB_a ?_ | refine getB_same ?_ | refine AWp.anyA ?_ | refine and_a ?_ | fail) <;> (conv => whnf))
          exact ⟨_, Sub.refl _, ⟨kd, tx, rfl⟩, _, _, _, _, (hP8.box hb4' _ _).put c4 m3 m4 _ _⟩
        · rw [hvf] at hv2
          obtain ⟨rfl, hP6⟩ := hv2
          obtain ⟨hP8, hb8⟩ := hP6.drop c3
          conv => whnf
          repeat' ((first | (exfalso; first | omega | exact (by assumption : ¬ True) trivial | fail) | refine ⟨Sub.refl _, ?_⟩ | (refine brA_split (fun h => ?_) (fun h => ?_) <;> (try rw [h]) <;> (try simp only [bS, ↓reduceIte] at h)) | refine getB_same ?_ | refine AWp.anyA ?_ | refine and_a ?_ | fail) <;> (conv => whnf))
          intro b4 hb4'
          conv => whnf
          have c4 : s0.bx b4 = none := hP8.sub.none hb4'
          obtain ⟨m3, m4⟩ := hP8.nb hb4'
          have n34 : b3 ≠ b4 := ne_of_none hb8 hb4'
          have hP9 := (hP8.box hb4' 39 [.int .i64 0, .int .i64 0, .str [], .bool false]).put c4 m3 m4 39 (vlA (x1, x2, x3, x4))
          have hno := node_ok (Γ := Γ) hP9 (by omega) hS.hd (p1, p2, p3, p4) { ex0 with op := 1, vk := x1, vi := x2, vs := x3, vb := x4 } 1 [] (by simp) (by simp)
          repeat' ((first | (exfalso; first | omega | exact (by assumption : ¬ True) trivial | fail) | refine ⟨Sub.refl _, ?_⟩ | (refine brA_split (fun h => ?_) (fun h => ?_) <;> (try rw [h]) <;> (try simp only [bS, ↓reduceIte] at h)) | refine getB_a ?_ | (refine getB_of ((set_bx_other n34).trans ((set_bx_other n34).trans hb8)) ?_) | (refine ACalls.by hno ?_; intro v s2 hv2) | refine getB_same ?_ | refine AWp.anyA ?_ | refine and_a ?_ | fail) <;> (conv => whnf))
          rcases stepA_v hv2 with rfl | ⟨t9, e9, rfl⟩
          all_goals (conv => whnf)
          all_goals exact ⟨_, Sub.refl _, hv2⟩
      · rw [hy] at hi2
        have hlt := isF_lt hy
        cases hz : numbF L st.a
        · rw [hz] at hnu
          rw [if_pos (by simp)]
          have hen : Enough L 6 f (opened st) := by unfold Enough at *; simp only [opened]; omega
          have hbe := before_ok (Γ := Γ) (by kernel_rfl) hu hQ hS (by omega) hlt hen (fun hk => ev_good f 6 _ (by omega) (opened_okay hS hlt hk) hen) 5 (p1, p2, p3, p4) hp
          repeat' ((first | (exfalso; first | omega | exact (by assumption : ¬ True) trivial | fail) | refine ⟨Sub.refl _, ?_⟩ | (refine brA_split (fun h => ?_) (fun h => ?_) <;> (try rw [h]) <;> (try simp only [bS, ↓reduceIte] at h)) | (refine ACalls.by hi2 ?_; rintro _ s4 ⟨rfl, hs4⟩; subst s4) | (refine ACalls.by hnu ?_; rintro _ s4 ⟨rfl, hs4⟩; subst s4) | (refine getB_of hq3 ?_) | (refine ACalls.by hbe ?_; intro v s2 hv2) | refine getB_same ?_ | refine AWp.anyA ?_ | refine and_a ?_ | fail) <;> (conv => whnf))
          rcases stepA_v hv2 with rfl | ⟨t9, e9, rfl⟩
          all_goals (conv => whnf)
          all_goals exact ⟨_, Sub.refl _, hv2⟩
        · rw [hz] at hnu
          rw [if_neg (by simp)]
          repeat' ((first | (exfalso; first | omega | exact (by assumption : ¬ True) trivial | fail) | refine ⟨Sub.refl _, ?_⟩ | (refine brA_split (fun h => ?_) (fun h => ?_) <;> (try rw [h]) <;> (try simp only [bS, ↓reduceIte] at h)) | (refine ACalls.by hi2 ?_; rintro _ s4 ⟨rfl, hs4⟩; subst s4) | (refine ACalls.by hnu ?_; rintro _ s4 ⟨rfl, hs4⟩; subst s4) | (refine ACalls.by hval ?_; intro v s2 hv2) | refine getB_same ?_ | refine AWp.anyA ?_ | refine and_a ?_ | fail) <;> (conv => whnf))
          unfold valA at hv2
          rcases hvf : valueF L st.a with x | ⟨⟨x1, x2, x3, x4⟩, a'⟩
          · rw [hvf] at hv2
            obtain ⟨e, a', rfl, ⟨kd, tx, rfl⟩, hP6⟩ := hv2
            obtain ⟨hP8, hb8⟩ := hP6.drop c3
            conv => whnf
            repeat' ((first | (exfalso; first | omega | exact (by assumption : ¬ True) trivial | fail) | refine ⟨Sub.refl _, ?_⟩ | (refine brA_split (fun h => ?_) (fun h => ?_) <;> (try rw [h]) <;> (try simp only [bS, ↓reduceIte] at h)) | refine getB_same ?_ | refine AWp.anyA ?_ | refine and_a ?_ | fail) <;> (conv => whnf))
            intro b4 hb4'
            conv => whnf
            have c4 : s0.bx b4 = none := hP8.sub.none hb4'
            obtain ⟨m3, m4⟩ := hP8.nb hb4'
            repeat' ((first | (exfalso; first | omega | exact (by assumption : ¬ True) trivial | fail) | refine ⟨Sub.refl _, ?_⟩ | (refine brA_split (fun h => ?_) (fun h => ?_) <;> (try rw [h]) <;> (try simp only [bS, ↓reduceIte] at h)) | refine getB_a ?_ | refine getB_same ?_ | refine AWp.anyA ?_ | refine and_a ?_ | fail) <;> (conv => whnf))
            exact ⟨_, Sub.refl _, ⟨kd, tx, rfl⟩, _, _, _, _, (hP8.box hb4' _ _).put c4 m3 m4 _ _⟩
          · rw [hvf] at hv2
            obtain ⟨rfl, hP6⟩ := hv2
            obtain ⟨hP8, hb8⟩ := hP6.drop c3
            conv => whnf
            repeat' ((first | (exfalso; first | omega | exact (by assumption : ¬ True) trivial | fail) | refine ⟨Sub.refl _, ?_⟩ | (refine brA_split (fun h => ?_) (fun h => ?_) <;> (try rw [h]) <;> (try simp only [bS, ↓reduceIte] at h)) | refine getB_same ?_ | refine AWp.anyA ?_ | refine and_a ?_ | fail) <;> (conv => whnf))
            intro b4 hb4'
            conv => whnf
            have c4 : s0.bx b4 = none := hP8.sub.none hb4'
            obtain ⟨m3, m4⟩ := hP8.nb hb4'
            have n34 : b3 ≠ b4 := ne_of_none hb8 hb4'
            have hP9 := (hP8.box hb4' 39 [.int .i64 0, .int .i64 0, .str [], .bool false]).put c4 m3 m4 39 (vlA (x1, x2, x3, x4))
            have hno := node_ok (Γ := Γ) hP9 (by omega) hS.hd (p1, p2, p3, p4) { ex0 with op := 1, vk := x1, vi := x2, vs := x3, vb := x4 } 1 [] (by simp) (by simp)
            repeat' ((first | (exfalso; first | omega | exact (by assumption : ¬ True) trivial | fail) | refine ⟨Sub.refl _, ?_⟩ | (refine brA_split (fun h => ?_) (fun h => ?_) <;> (try rw [h]) <;> (try simp only [bS, ↓reduceIte] at h)) | refine getB_a ?_ | (refine getB_of ((set_bx_other n34).trans ((set_bx_other n34).trans hb8)) ?_) | (refine ACalls.by hno ?_; intro v s2 hv2) | refine getB_same ?_ | refine AWp.anyA ?_ | refine and_a ?_ | fail) <;> (conv => whnf))
            rcases stepA_v hv2 with rfl | ⟨t9, e9, rfl⟩
            all_goals (conv => whnf)
            all_goals exact ⟨_, Sub.refl _, hv2⟩
    · have hc1 : p1 = 1 ∧ p2 ≠ [95] := ⟨by assumption, by assumption⟩
      rw [if_pos hc1]
      have hlt := kind_lt (L := L) (a := st.a) (by rw [hp]; simp [hc1.1])
      have hw : IntKind.i64.wrap ((st.a : Int) + 1) = ((st.a + 1 : Nat) : Int) := i64_of (by omega) (by omega) (by omega)
      have hQn := hQ.next (st.a + 1)
      have hno := node_ok (Γ := Γ) hQn (by omega) hS.hd (p1, p2, p3, p4) { ex0 with op := 17, name := p2 } 1 [] (by simp) (by simp)
      repeat' ((first | (exfalso; first | omega | exact (by assumption : ¬ True) trivial | fail) | refine ⟨Sub.refl _, ?_⟩ | (refine brA_split (fun h => ?_) (fun h => ?_) <;> (try rw [h]) <;> (try simp only [bS, ↓reduceIte] at h)) | (refine getB_of hb4 ?_) | (refine getB_of hQ.pl ?_) | (rw [hw]) | (refine getB_of ((set_bx_other m2).trans hq3) ?_) | (refine ACalls.by hno ?_; intro v s2 hv2) | refine getB_same ?_ | refine AWp.anyA ?_ | refine and_a ?_ | fail) <;> (conv => whnf))
      rcases stepA_v hv2 with rfl | ⟨t9, e9, rfl⟩
      all_goals (conv => whnf)
      all_goals exact ⟨_, Sub.refl _, hv2⟩
  · rw [hx] at hi1
    rw [if_pos rfl]
    have hlt := isF_lt hx
    have hen : Enough L 0 f (opened st) := by unfold Enough at *; simp only [opened]; omega
    have hin := inside_ok (Γ := Γ) (by kernel_rfl) hbr hQ hS (by omega) hlt hen (fun hk x hx => by
      rcases hr : ev L f 0 (opened st) with y | y
      · rw [hr] at hx; cases hx
      · rw [hr] at hx
        obtain ⟨g1, g2⟩ := ev_good f 0 (opened st) (by omega) (opened_okay hS hlt hk) hen y hr
        have h1 := (want_good g1 g2 hx).2.k
        have h2 := hS.hk
        have h3 : (opened st).k = st.k + 1 := rfl
        omega)
    repeat' ((first | (exfalso; first | omega | exact (by assumption : ¬ True) trivial | fail) | refine ⟨Sub.refl _, ?_⟩ | (refine brA_split (fun h => ?_) (fun h => ?_) <;> (try rw [h]) <;> (try simp only [bS, ↓reduceIte] at h)) | (refine ACalls.by hi1 ?_; rintro _ s4 ⟨rfl, hs4⟩; subst s4) | (refine ACalls.by hin ?_; intro v s2 hv2) | refine getB_same ?_ | refine AWp.anyA ?_ | refine and_a ?_ | fail) <;> (conv => whnf))
    rcases stepA_v hv2 with rfl | ⟨t9, e9, rfl⟩
    all_goals (conv => whnf)
    all_goals exact ⟨_, Sub.refl _, hv2⟩
end
end Go.Proofs.YthpnfflkkmpejaaGreatDoor.Pa
namespace Go.Proofs.YthpnfflkkmpejaaGreatDoor.Pa
open Go Go.Ab Go.RowKit Go.Proofs.YthpnfflkkmpejaaGreatDoor.Lx
variable {Γ : Nat → AV}
attribute [local irreducible] APure Sto.set Sto.grow
set_option maxRecDepth 10000
set_option maxHeartbeats 1000000
section
variable {s0 s : Sto} {bp bl : Nat} {L : List Tok} {a : Nat} {o : List Ex} {d : List Int} {k : Int}
theorem cmp_range : -16 ≤ nextF L a cmpM ∧ nextF L a cmpM ≤ 16 := by
  unfold nextF
  split
  · generalize (peekF L a).2.1 = t
    simp only [cmpM, mapA]
    repeat' split
    all_goals omega
  · omega
/-- What turn does. -/
def Turns (Γ : Nat → AV) (L : List Tok) : Prop := ∀ (s0 s : Sto) (bp bl : Nat) (st : St) (i j : Nat), Pst s0 s bp bl L st.a st.o st.d st.k → Okay L st → i < j → j < st.o.length →
  ACalls Tryz.prog Γ 82 [.ptr (some ⟨bp, 0, none⟩), .int .i64 (i : Int), .int .i64 (j : Int)] s fun v s' => v = .tuple [] ∧ Pst s0 s' bp bl L st.a (turnF st i j).o (turnF st i j).d st.k
theorem comp_ok (hL : L.length ≤ 90000) (hT : Turns Γ L) {f : Nat} (h : Lev Γ L 81 f 4) : Lev Γ L 64 (f + 1) 3 := by
  intro s0 s bp bl st hP hS hE
  have hup := up_enough hE (l2 := 4) (by omega) (by omega)
  have h1 := h _ _ _ _ st hP hS (hup st hS (Nat.le_refl _))
  have hsa := hS.ha
  have hso := hS.ho
  obtain ⟨t1, t2, hb, _⟩ := hP.pr
  refine ACalls.of_awp Tryz.func64 rfl (Nat.le_of_ble_eq_true (by kernel_rfl)) ?_
  refine AWp.seq (awp_ok _ (by kernel_rfl) ?_)
  conv => whnf
  refine AWp.seq (awp_ok _ (by kernel_rfl) ?_)
  conv => whnf
  refine getB_of hb ?_
  conv => whnf
  refine AWp.seq (awp_ok _ (by kernel_rfl) ?_)
  conv => whnf
  refine ACalls.by h1 ?_
  intro v s1 hv
  rcases hr : ev L f 4 st with x | x
  · rw [hr] at hv
    obtain ⟨⟨kd, tx, rfl⟩, a', o', d', k', hP4⟩ := hv
    conv => whnf
    have hcx : ev L (f + 1) 3 st = .error x := by show compF L (ev L f 4) st = _; unfold compF; rw [hr]
    rw [hcx]
    exact ⟨_, Sub.refl _, ⟨kd, tx, rfl⟩, _, _, _, _, hP4⟩
  · rw [hr] at hv
    obtain ⟨rfl, hP4⟩ := hv
    obtain ⟨g1, g2⟩ := ev_good f 4 st (by omega) hS (hup st hS (Nat.le_refl _)) x hr
    have hxa := g1.ha
    have hxo := g1.ho
    have hpk := peek_ok (Γ := Γ) hP4.pl (by omega) (by omega)
    have htok : ∃ p1 p2 p3 p4, peekF L x.a = (p1, p2, p3, p4) := ⟨_, _, _, _, rfl⟩
    obtain ⟨p1, p2, p3, p4, hp⟩ := htok
    rw [hp] at hpk
    simp only [tokA] at hpk
    obtain ⟨u1, u2, hb4, _⟩ := hP4.pr
    conv => whnf
    refine AWp.seq (awp_ok _ (by kernel_rfl) ?_)
    conv => whnf
    repeat' ((first | (exfalso; first | omega | exact (by assumption : ¬ True) trivial | fail) | refine ⟨Sub.refl _, ?_⟩ | (refine brA_split (fun h => ?_) (fun h => ?_) <;> (try rw [h]) <;> (try simp only [bS, ↓reduceIte] at h)) | (refine getB_of hb4 ?_) | (refine ACalls.by hpk ?_; rintro _ s4 ⟨rfl, hs4⟩; subst s4) | refine getB_same ?_ | refine AWp.anyA ?_ | refine and_a ?_ | fail) <;> (conv => whnf))
    intro b5 hb5
    conv => whnf
    obtain ⟨m1, m2⟩ := hP4.nb hb5
    have c5 : s0.bx b5 = none := hP4.sub.none hb5
    have hQ := (hP4.box hb5 71 [.int .i64 0, .str [], .int .i64 0, .int .i64 0]).put c5 m1 m2 71 [.int .i64 p1, .str p2, .int .i64 p3, .int .i64 p4]
    repeat' ((first | (exfalso; first | omega | exact (by assumption : ¬ True) trivial | fail) | refine ⟨Sub.refl _, ?_⟩ | (refine brA_split (fun h => ?_) (fun h => ?_) <;> (try rw [h]) <;> (try simp only [bS, ↓reduceIte] at h)) | refine getB_a ?_ | refine getB_same ?_ | refine AWp.anyA ?_ | refine and_a ?_ | fail) <;> (conv => whnf))
    refine AWp.seq ?_
    refine AWp.mapLit (id := 6) (kt := 9) (et := 3) (x0 := .tmp 0) (i0 := 24) (d := 25) (T := 76) (o0 := ?o0) (mk := ?mk) (rest := ?rest) (ins := [?a1, ?a2, ?a3, ?a4, ?a5, ?a6]) cmpM ?h1 ?h2 ?h3 ?h4 ?h5 ?h6 ?h7 ?h8 ?h9 (by kernel_rfl) (by kernel_rfl) (by decide) ?_
    case h1 => rfl
    case h2 => kernel_rfl
    case h3 => rfl
    case h4 => rfl
    case h5 => rfl
    case h6 => rfl
    case h7 => rfl
    case h8 => rfl
    case h9 => exact ⟨⟨rfl, rfl, rfl⟩, ⟨rfl, rfl, rfl⟩, ⟨rfl, rfl, rfl⟩, ⟨rfl, rfl, rfl⟩, ⟨rfl, rfl, rfl⟩, ⟨rfl, rfl, rfl⟩, trivial⟩
    conv => whnf
    have hne := next_ok (Γ := Γ) hQ (by omega) (by omega) cmpM
    refine ACalls.by hne ?_
    rintro _ s4 ⟨rfl, hs4⟩
    subst s4
    conv => whnf
    refine awp_ok _ (by kernel_rfl) ?_
    conv => whnf
    have hcx : ev L (f + 1) 3 st = if nextF L x.a cmpM = 0 then .ok x else match ev L f 4 { x with a := x.a + 1 } with
      | .error e => .error e
      | .ok s2 => if nextF L x.a cmpM < 0
        then nodeF (p1, p2, p3, p4) { ex0 with op := -(nextF L x.a cmpM), a := (st.o.length + (s2.o.length - x.o.length) : Nat) - 1, b := (s2.o.length : Int) - 1 } [((st.o.length + (s2.o.length - x.o.length) : Nat) : Int) - 1, (s2.o.length : Int) - 1] (turnF s2 st.o.length x.o.length)
        else nodeF (p1, p2, p3, p4) { ex0 with op := nextF L x.a cmpM, a := (x.o.length : Int) - 1, b := (s2.o.length : Int) - 1 } [(x.o.length : Int) - 1, (s2.o.length : Int) - 1] s2 := by
      show compF L (ev L f 4) st = _
      unfold compF
      rw [hr]
      dsimp only
      rw [hp]
      rfl
    rw [hcx]
    clear hcx
    have hop := fun h : nextF L x.a cmpM ≠ 0 => nextF_lt h
    have hor : -16 ≤ nextF L x.a cmpM ∧ nextF L x.a cmpM ≤ 16 := cmp_range
    generalize nextF L x.a cmpM = op at *
    by_cases h0 : op = 0
    · rw [if_pos h0]
      repeat' ((first | (exfalso; first | omega | exact (by assumption : ¬ True) trivial | fail) | refine ⟨Sub.refl _, ?_⟩ | (refine brA_split (fun h => ?_) (fun h => ?_) <;> (try rw [h]) <;> (try simp only [bS, ↓reduceIte] at h)) | refine getB_a ?_ | refine getB_same ?_ | refine AWp.anyA ?_ | refine and_a ?_ | fail) <;> (conv => whnf))
      exact ⟨_, Sub.refl _, rfl, hQ⟩
    · rw [if_neg h0]
      have hlt : x.a < L.length := hop h0
      have hq5 : ((s1.set b5 71 [.int .i64 0, .str [], .int .i64 0, .int .i64 0]).set b5 71 [.int .i64 p1, .str p2, .int .i64 p3, .int .i64 p4]).bx b5 = some (71, [.int .i64 p1, .str p2, .int .i64 p3, .int .i64 p4]) := set_bx_same
      obtain ⟨w1, w2, hb6, _⟩ := hQ.pr
      have hw : IntKind.i64.wrap ((x.a : Int) + 1) = ((x.a + 1 : Nat) : Int) := i64_of (by omega) (by omega) (by omega)
      have hQn := (hQ.keep hq5 m1 m2).next (x.a + 1)
      have hokq : Okay L { x with a := x.a + 1 } := ⟨by simp only; omega, by simp only; omega, g1.hd, g1.hk⟩
      have hupq := hup { x with a := x.a + 1 } hokq (Nat.le_succ_of_le g2.a)
      have h2 := h _ _ _ _ { x with a := x.a + 1 } hQn hokq hupq
      have hgo := ev_good f 4 { x with a := x.a + 1 } (by omega) hokq hupq
      have hpl := hQ.pl
      generalize (s1.set b5 71 [.int .i64 0, .str [], .int .i64 0, .int .i64 0]).set b5 71 [.int .i64 p1, .str p2, .int .i64 p3, .int .i64 p4] = sq at *
      repeat' ((first | (exfalso; first | omega | exact (by assumption : ¬ True) trivial | fail) | refine ⟨Sub.refl _, ?_⟩ | (refine brA_split (fun h => ?_) (fun h => ?_) <;> (try rw [h]) <;> (try simp only [bS, ↓reduceIte] at h)) | (refine getB_of hb6 ?_) | (refine getB_of hpl ?_) | (rw [hw]) | (refine ACalls.by h2 ?_; intro v s6 hv6) | refine getB_same ?_ | refine AWp.anyA ?_ | refine and_a ?_ | fail) <;> (conv => whnf))
      rcases hr2 : ev L f 4 { x with a := x.a + 1 } with z | z
      · rw [hr2] at hv6
        obtain ⟨⟨kd, tx, rfl⟩, a', o', d', k', hP6⟩ := hv6
        conv => whnf
        repeat' ((first | (exfalso; first | omega | exact (by assumption : ¬ True) trivial | fail) | refine ⟨Sub.refl _, ?_⟩ | (refine brA_split (fun h => ?_) (fun h => ?_) <;> (try rw [h]) <;> (try simp only [bS, ↓reduceIte] at h)) | refine getB_same ?_ | refine AWp.anyA ?_ | refine and_a ?_ | fail) <;> (conv => whnf))
        exact ⟨_, Sub.refl _, ⟨kd, tx, rfl⟩, _, _, _, _, (hP6.drop c5).1⟩
      · rw [hr2] at hv6
        obtain ⟨rfl, hP6⟩ := hv6
        obtain ⟨z1, z2⟩ := hgo z hr2
        have e1 := z2.a
        have e2 := z2.l
        have e3 := z2.o
        have e4 := z2.k
        have e5 := z1.ha
        have e6 := z1.ho
        simp only at e1 e2 e3 e4
        have f3 := g2.o
        have hl1 := exsA_len st.o
        have hl2 := exsA_len x.o
        dsimp only
        conv => whnf
        by_cases hneg : op < 0
        · rw [if_pos hneg]
          have htu := hT _ _ _ _ z st.o.length x.o.length hP6 z1 (by omega) (by omega)
          repeat' ((first | (exfalso; first | omega | exact (by assumption : ¬ True) trivial | fail) | refine ⟨Sub.refl _, ?_⟩ | (refine brA_split (fun h => ?_) (fun h => ?_) <;> (try rw [h]) <;> (try simp only [bS, ↓reduceIte] at h)) | (rw [hl1]) | (rw [hl2]) | (refine ACalls.by htu ?_; rintro _ s7 ⟨rfl, hP7⟩) | refine getB_same ?_ | refine AWp.anyA ?_ | refine and_a ?_ | fail) <;> (conv => whnf))
          obtain ⟨hP8, hb8⟩ := hP7.drop c5
          obtain ⟨t7, t8⟩ := turn_len (s := z) (f := st.o.length) (m := x.o.length) (by omega) (by omega) z1.hd
          have hd8 : (turnF z st.o.length x.o.length).d.length = (turnF z st.o.length x.o.length).o.length := by rw [t7, t8]; exact z1.hd
          have ta : (turnF z st.o.length x.o.length).a = z.a := rfl
          have tk : (turnF z st.o.length x.o.length).k = z.k := rfl
          generalize turnF z st.o.length x.o.length = tz at *
          have hP8' : Pst s0 s7 bp bl L z.a tz.o tz.d z.k := hP8
          obtain ⟨y1, y2, hb9, _⟩ := hP8'.pr
          have hl3 := exsA_len tz.o
          have hla := last_ok (Γ := Γ) hP8' (by omega)
          have hwn : IntKind.i64.wrap (0 - op) = -op := i64_of (by omega) (by omega) (by omega)
          have hw1 : IntKind.i64.wrap ((st.o.length : Int) + (tz.o.length : Int)) = ((st.o.length + tz.o.length : Nat) : Int) := i64_of (by omega) (by omega) (by omega)
          have hw2 : IntKind.i64.wrap (((st.o.length + tz.o.length : Nat) : Int) - (x.o.length : Int)) = ((st.o.length + (z.o.length - x.o.length) : Nat) : Int) := i64_of (by omega) (by omega) (by omega)
          have hw3 : IntKind.i64.wrap (((st.o.length + (z.o.length - x.o.length) : Nat) : Int) - 1) = ((st.o.length + (z.o.length - x.o.length) : Nat) : Int) - 1 := i64_of rfl (by omega) (by omega)
          have hno := node_ok (Γ := Γ) hP8' (by omega) hd8 (p1, p2, p3, p4) { ex0 with op := -op, a := ((st.o.length + (z.o.length - x.o.length) : Nat) : Int) - 1, b := (tz.o.length : Int) - 1 } 1 [((st.o.length + (z.o.length - x.o.length) : Nat) : Int) - 1, (tz.o.length : Int) - 1] (by
            intro i hi; rw [hd8]; rcases List.mem_cons.1 hi with rfl | hi
            · omega
            · rw [List.mem_singleton] at hi; subst hi; omega) (by simp)
          repeat' ((first | (exfalso; first | omega | exact (by assumption : ¬ True) trivial | fail) | refine ⟨Sub.refl _, ?_⟩ | (refine brA_split (fun h => ?_) (fun h => ?_) <;> (try rw [h]) <;> (try simp only [bS, ↓reduceIte] at h)) | (refine getB_of hb9 ?_) | (rw [hl3]) | (rw [hwn]) | (rw [hw1]) | (rw [hw2]) | (refine AWp.anyC (id := 17) [73, 78] [80] (by kernel_rfl) (by kernel_rfl) (by kernel_rfl) (by kernel_rfl) ?_) | (refine ⟨trivial, ?_⟩) | (refine CCall.mk _ hla ?_) | (refine getB_of hb8 ?_) | (rw [hw3]) | (refine ACalls.by hno ?_; intro v s9 hv9) | refine getB_same ?_ | refine AWp.anyA ?_ | refine and_a ?_ | fail) <;> (conv => whnf))
          have hst : (⟨z.a, tz.o, tz.d, z.k⟩ : St) = tz := by rw [← ta, ← tk]
          rw [hst, t7] at hv9
          rcases stepA_v hv9 with rfl | ⟨t9, e9, rfl⟩
          · conv => whnf
            repeat' ((first | (exfalso; first | omega | exact (by assumption : ¬ True) trivial | fail) | refine ⟨Sub.refl _, ?_⟩ | (refine brA_split (fun h => ?_) (fun h => ?_) <;> (try rw [h]) <;> (try simp only [bS, ↓reduceIte] at h)) | (refine ⟨trivial, ?_⟩) | refine getB_same ?_ | refine AWp.anyA ?_ | refine and_a ?_ | fail) <;> (conv => whnf))
            exact ⟨_, Sub.refl _, hv9⟩
          · conv => whnf
            repeat' ((first | (exfalso; first | omega | exact (by assumption : ¬ True) trivial | fail) | refine ⟨Sub.refl _, ?_⟩ | (refine brA_split (fun h => ?_) (fun h => ?_) <;> (try rw [h]) <;> (try simp only [bS, ↓reduceIte] at h)) | (refine ⟨trivial, ?_⟩) | refine getB_same ?_ | refine AWp.anyA ?_ | refine and_a ?_ | fail) <;> (conv => whnf))
            exact ⟨_, Sub.refl _, hv9⟩
        · rw [if_neg hneg]
          obtain ⟨hP8, hb8⟩ := hP6.drop c5
          have hla := last_ok (Γ := Γ) hP8 (by omega)
          have hw9 : IntKind.i64.wrap ((x.o.length : Int) - 1) = (x.o.length : Int) - 1 := i64_of rfl (by omega) (by omega)
          have hno := node_ok (Γ := Γ) hP8 (by omega) z1.hd (p1, p2, p3, p4) { ex0 with op := op, a := (x.o.length : Int) - 1, b := (z.o.length : Int) - 1 } 1 [(x.o.length : Int) - 1, (z.o.length : Int) - 1] (by
            intro i hi; rw [z1.hd]; rcases List.mem_cons.1 hi with rfl | hi
            · omega
            · rw [List.mem_singleton] at hi; subst hi; omega) (by simp)
          repeat' ((first | (exfalso; first | omega | exact (by assumption : ¬ True) trivial | fail) | refine ⟨Sub.refl _, ?_⟩ | (refine brA_split (fun h => ?_) (fun h => ?_) <;> (try rw [h]) <;> (try simp only [bS, ↓reduceIte] at h)) | (refine AWp.anyC (id := 17) [73, 78] [80] (by kernel_rfl) (by kernel_rfl) (by kernel_rfl) (by kernel_rfl) ?_) | (refine ⟨trivial, ?_⟩) | (refine CCall.mk _ hla ?_) | (refine getB_of hb8 ?_) | (rw [hl2]) | (rw [hw9]) | (refine ACalls.by hno ?_; intro v s9 hv9) | refine getB_same ?_ | refine AWp.anyA ?_ | refine and_a ?_ | fail) <;> (conv => whnf))
          rcases stepA_v hv9 with rfl | ⟨t9, e9, rfl⟩
          · conv => whnf
            repeat' ((first | (exfalso; first | omega | exact (by assumption : ¬ True) trivial | fail) | refine ⟨Sub.refl _, ?_⟩ | (refine brA_split (fun h => ?_) (fun h => ?_) <;> (try rw [h]) <;> (try simp only [bS, ↓reduceIte] at h)) | (refine ⟨trivial, ?_⟩) | refine getB_same ?_ | refine AWp.anyA ?_ | refine and_a ?_ | fail) <;> (conv => whnf))
            exact ⟨_, Sub.refl _, hv9⟩
          · conv => whnf
            repeat' ((first | (exfalso; first | omega | exact (by assumption : ¬ True) trivial | fail) | refine ⟨Sub.refl _, ?_⟩ | (refine brA_split (fun h => ?_) (fun h => ?_) <;> (try rw [h]) <;> (try simp only [bS, ↓reduceIte] at h)) | (refine ⟨trivial, ?_⟩) | refine getB_same ?_ | refine AWp.anyA ?_ | refine and_a ?_ | fail) <;> (conv => whnf))
            exact ⟨_, Sub.refl _, hv9⟩
end
end Go.Proofs.YthpnfflkkmpejaaGreatDoor.Pa
namespace Go.Proofs.YthpnfflkkmpejaaGreatDoor
open Go Go.Ab Go.RowKit Go.Shelf
variable {Γ : Nat → AV}
set_option maxRecDepth 100000
def growX : Ren := ⟨fun | 4 => 118 | n => n, fun | 22 => 23 | 25 => 41 | 9 => 9 | 20 => 20 | 0 => 0 | 3 => 3 | 4 => 4 | n => n, fun | n => n⟩
theorem growX_lays : Lays8.n4 Tryz.prog growX where
  mixed := by kernel_rfl
  f4 := ⟨ "slices.Grow[[]proctor/api.Expr,proctor/api.Expr]", by decide, Tryz.func118.trans (congrArg some (by kernel_rfl))⟩
  t0 := Tryz.underlying0
  a0 := Tryz.isAgg0
  z0 := Tryz.sizeOf0
  v0 := Tryz.zeroValue0
  t3 := Tryz.underlying3
  a3 := Tryz.isAgg3
  z3 := Tryz.sizeOf3
  v3 := Tryz.zeroValue3
  t4 := Tryz.underlying4
  a4 := Tryz.isAgg4
  z4 := Tryz.sizeOf4
  v4 := Tryz.zeroValue4
  t9 := Tryz.underlying9
  a9 := Tryz.isAgg9
  z9 := Tryz.sizeOf9
  v9 := Tryz.zeroValue9
  t20 := Tryz.underlying20
  a20 := Tryz.isAgg20
  z20 := Tryz.sizeOf20
  v20 := Tryz.zeroValue20
  t22 := Tryz.underlying23
  a22 := Tryz.isAgg23
  z22 := Tryz.sizeOf23
  v22 := Tryz.zeroValue23
def growI : Ren := ⟨fun | 4 => 120 | n => n, fun | 22 => 51 | 25 => 3 | 9 => 9 | 20 => 20 | 0 => 0 | 3 => 3 | 4 => 4 | n => n, fun | n => n⟩
theorem growI_lays : Lays8.n4 Tryz.prog growI where
  mixed := by kernel_rfl
  f4 := ⟨ "slices.Grow[[]int,int]", by decide, Tryz.func120.trans (congrArg some (by kernel_rfl))⟩
  t0 := Tryz.underlying0
  a0 := Tryz.isAgg0
  z0 := Tryz.sizeOf0
  v0 := Tryz.zeroValue0
  t3 := Tryz.underlying3
  a3 := Tryz.isAgg3
  z3 := Tryz.sizeOf3
  v3 := Tryz.zeroValue3
  t4 := Tryz.underlying4
  a4 := Tryz.isAgg4
  z4 := Tryz.sizeOf4
  v4 := Tryz.zeroValue4
  t9 := Tryz.underlying9
  a9 := Tryz.isAgg9
  z9 := Tryz.sizeOf9
  v9 := Tryz.zeroValue9
  t20 := Tryz.underlying20
  a20 := Tryz.isAgg20
  z20 := Tryz.sizeOf20
  v20 := Tryz.zeroValue20
  t22 := Tryz.underlying51
  a22 := Tryz.isAgg51
  z22 := Tryz.sizeOf51
  v22 := Tryz.zeroValue51
theorem grow_of {f : FuncId} {e : TypeId} {k n : Nat} {s : Sto} {ρ : Ren} (L : Lays8.n4 Tryz.prog ρ) (hf : ρ.f 4 = f) (he : ρ.t 25 = e) {i0 : TypeInfo} {z : Value} (hi : Tryz.prog.info? e = some i0) (hz : i0.zero = some z) (hs : i0.size = k) (hzk : z.cells.size = k) (hk : 0 < k) (hb : i0.bytes ≤ 1000) (hn : n ≤ 10000000) :
    ACalls Tryz.prog Γ f [.slice 1 [], .int .i64 (n : Int)] s fun v s' => ∃ t, v = .slice t [] ∧ Own s s' true t e k := by
  subst hf he hs
  refine grow_nil (fun h0 a w => ?_) (fun h0 a w => ?_)
  · exact Any8.slices_Grow_room L a 0 0 0 w (Nat.le_refl _) (by omega) (by omega) (by omega)
  · refine ⟨_, _, ?_, Any8.slices_Grow_grow L i0 z hi hz hk a 0 0 n [] w (Nat.le_refl _) (by omega) ?_ (by omega) (by simp) (fun _ => rfl) (fun _ _ j v hj => by simp at hj)⟩
    · have := grownCap_ge w (0 + n) 0 (ρ.t 25)
      generalize grownCap w (0 + n) 0 (ρ.t 25) = g at *
      simp only [Array.size_append, size_zeroCells, hzk, List.size_toArray, List.length_nil]
      rw [show g = n + (g - n) by omega, Nat.add_mul]
      simp
    · calc (0 + n) * i0.bytes ≤ 10000000 * 1000 := Nat.mul_le_mul (by omega) hb
        _ ≤ _ := by decide
theorem growX_ok {n : Nat} {s : Sto} (hn : n ≤ 10000000) : ACalls Tryz.prog Γ 118 [.slice 1 [], .int .i64 (n : Int)] s fun v s' => ∃ t, v = .slice t [] ∧ Own s s' true t 41 10 :=
  grow_of (k := 10) growX_lays rfl rfl rfl rfl rfl rfl (by decide) (Nat.le_of_ble_eq_true (by kernel_rfl)) hn
theorem growI_ok {n : Nat} {s : Sto} (hn : n ≤ 10000000) : ACalls Tryz.prog Γ 120 [.slice 1 [], .int .i64 (n : Int)] s fun v s' => ∃ t, v = .slice t [] ∧ Own s s' true t 3 1 :=
  grow_of (k := 1) growI_lays rfl rfl rfl rfl rfl rfl (by decide) (Nat.le_of_ble_eq_true (by kernel_rfl)) hn
end Go.Proofs.YthpnfflkkmpejaaGreatDoor
namespace Go.Proofs.YthpnfflkkmpejaaGreatDoor.Pa
open Go Go.Ab Go.RowKit
variable {Γ : Nat → AV}
attribute [local irreducible] APure Sto.set Sto.grow
set_option maxRecDepth 10000
set_option maxHeartbeats 1000000
theorem _root_.Go.Ab.Own.later {a b c : Sto} {z : Bool} {t : Nat} {e : TypeId} {k : Nat} (h : Own a b z t e k) (hs : Sub b c) : Own a c z t e k :=
  ⟨h.sub.trans hs, h.own.imp id fun x => ⟨x.1, hs.lv _ _ _ x.2.1, x.2.2⟩⟩
def slA {α : Type} (A : α → List AV) (l : List α) : List AV := [.slice 0 (l.map A)]
theorem slA_at {α : Type} {A : α → List AV} {ls : List (List α)} {i : Nat} (h : i < ls.length) : (ls.map (slA A)).getD i [] = [.slice 0 ((ls.getD i []).map A)] := by simp [slA, List.getD, h]
theorem flat_take {α : Type} {ls : List (List α)} {i : Nat} (h : i < ls.length) : (ls.take (i + 1)).flatten = (ls.take i).flatten ++ ls.getD i [] := by
  rw [List.take_add_one, List.flatten_append]; simp [List.getD, h]
theorem flat_le {α : Type} (ls : List (List α)) (i : Nat) : (ls.take i).flatten.length ≤ ls.flatten.length := by
  rw [show ls.flatten = (ls.take i).flatten ++ (ls.drop i).flatten by rw [← List.flatten_append, List.take_append_drop], List.length_append]; omega
theorem isEmpty_app {α : Type} (l m : List α) : (l ++ m).isEmpty = (l.isEmpty && m.isEmpty) := by cases l <;> cases m <;> rfl
section
variable {s : Sto}
theorem concatX_ok {tk : Nat} {ls : List (List Ex)} (hn : ls.length ≤ 100) (hz : ls.flatten.length ≤ 1000000) :
    ACalls Tryz.prog Γ 95 [.slice tk (ls.map (slA exA))] s fun v s' => ∃ t, v = .slice t (ls.flatten.map exA) ∧ Own s s' ls.flatten.isEmpty t 41 10 := by
  have hlen : (ls.map (slA exA)).length = ls.length := List.length_map ..
  refine ACalls.of_awp Tryz.func95 rfl (Nat.le_of_ble_eq_true (by kernel_rfl)) (awp_ok _ (by kernel_rfl) ?_)
  conv => whnf
  repeat' ((first | (exfalso; first | omega | exact (by assumption : ¬ True) trivial | fail) | refine ⟨Sub.refl _, ?_⟩ | (refine brA_split (fun h => ?_) (fun h => ?_) <;> (try rw [h]) <;> (try simp only [bS, ↓reduceIte] at h)) | refine getB_same ?_ | refine AWp.anyA ?_ | refine and_a ?_ | fail) <;> (conv => whnf))
  refine AWp.loopA [3, 11] [12, 13, 14, 5, 15, 16, 17, 18, 19, 20, 21, 22] (fun i : Nat => [.int .i64 ((ls.take i).flatten.length : Int), .int .i64 (i : Int)]) (fun i s' => i ≤ ls.length ∧ s' = s) (fun i => ls.length - i) (0) (by kernel_rfl) (eqa) ?_ ?_
  · exact ⟨Nat.zero_le _, rfl⟩
  · rintro x i s' ⟨hi, hs'⟩
    subst s'
    show awp _ _ _ _ _ (updL _ _ [.int .i64 ((ls.take i).flatten.length : Int), .int .i64 (i : Int)]) _
    conv => whnf
    by_cases hlt : i < ls.length
    · have hat := slA_at (A := exA) hlt
      have hz : ((i : Int)).toNat = i := rfl
      have hle := flat_le ls (i + 1)
      rw [flat_take hlt, List.length_append] at hle
      have hw1 : IntKind.i64.wrap (((ls.take i).flatten.length : Int) + (((ls.getD i []).map exA).length : Int)) = ((ls.take (i + 1)).flatten.length : Int) := i64_of (by rw [flat_take hlt, List.length_append, List.length_map]; omega) (by omega) (by rw [flat_take hlt, List.length_append]; omega)
      have hw2 : IntKind.i64.wrap ((i : Int) + 1) = ((i + 1 : Nat) : Int) := i64_of (by omega) (by omega) (by omega)
      repeat' ((first | (exfalso; first | omega | exact (by assumption : ¬ True) trivial | fail) | refine ⟨Sub.refl _, ?_⟩ | (refine brA_split (fun h => ?_) (fun h => ?_) <;> (try rw [h]) <;> (try simp only [bS, ↓reduceIte] at h)) | (rw [hz]) | (rw [hat]) | (rw [hw1]) | (rw [hw2]) | refine getB_same ?_ | refine AWp.anyA ?_ | refine and_a ?_ | fail) <;> (conv => whnf))
      exact ⟨i + 1, eqa, samea, ⟨hlt, rfl⟩, by omega⟩
    · obtain rfl : i = ls.length := by omega
      rw [List.take_length]
      repeat' ((first | (exfalso; first | omega | exact (by assumption : ¬ True) trivial | fail) | refine ⟨Sub.refl _, ?_⟩ | (refine brA_split (fun h => ?_) (fun h => ?_) <;> (try rw [h]) <;> (try simp only [bS, ↓reduceIte] at h)) | (refine ACalls.by (growX_ok (by omega)) ?_; rintro _ s1 ⟨t0, rfl, ho⟩) | refine getB_same ?_ | refine AWp.anyA ?_ | refine and_a ?_ | fail) <;> (conv => whnf))
      refine AWp.loopA [6, 27] [28, 29, 30, 8, 31, 32, 33, 34] (fun q : Nat × Nat => [.slice q.2 ((ls.take q.1).flatten.map exA), .int .i64 (q.1 : Int)]) (fun q s' => q.1 ≤ ls.length ∧ Own s s' (ls.take q.1).flatten.isEmpty q.2 41 10) (fun q => ls.length - q.1) ((0, t0)) (by kernel_rfl) (eqa) ?_ ?_
      · exact ⟨Nat.zero_le _, ho⟩
      · rintro y ⟨i, t⟩ s' ⟨hi, hown⟩
        simp only at hi hown
        show awp _ _ _ _ _ (updL _ _ [.slice t ((ls.take i).flatten.map exA), .int .i64 (i : Int)]) _
        conv => whnf
        by_cases hlt : i < ls.length
        · have hat := slA_at (A := exA) hlt
          have hz : ((i : Int)).toNat = i := rfl
          have hle := flat_le ls (i + 1)
          rw [flat_take hlt, List.length_append] at hle
          have hw2 : IntKind.i64.wrap ((i : Int) + 1) = ((i + 1 : Nat) : Int) := i64_of (by omega) (by omega) (by omega)
          repeat' ((first | (exfalso; first | omega | exact (by assumption : ¬ True) trivial | fail) | refine ⟨Sub.refl _, ?_⟩ | (refine brA_split (fun h => ?_) (fun h => ?_) <;> (try rw [h]) <;> (try simp only [bS, ↓reduceIte] at h)) | (rw [hz]) | (rw [hat]) | refine getB_same ?_ | refine AWp.anyA ?_ | refine and_a ?_ | fail) <;> (conv => whnf))
          refine ⟨hown.may, fun c hc => by obtain ⟨z, _, rfl⟩ := List.mem_map.1 hc; rfl, fun c hc => by obtain ⟨z, _, rfl⟩ := List.mem_map.1 hc; exact ⟨rfl, rfl⟩, Nat.le_trans (Nat.mul_le_mul_right _ (show _ ≤ 1000000 from by simp only [List.length_map]; omega)) (Nat.le_of_ble_eq_true (by kernel_rfl)), ?_⟩
          intro t2 k1 k2
          have k3 := hown.grow k1 k2
          conv => whnf
          repeat' ((first | (exfalso; first | omega | exact (by assumption : ¬ True) trivial | fail) | refine ⟨Sub.refl _, ?_⟩ | (refine brA_split (fun h => ?_) (fun h => ?_) <;> (try rw [h]) <;> (try simp only [bS, ↓reduceIte] at h)) | (rw [hw2]) | refine getB_same ?_ | refine AWp.anyA ?_ | refine and_a ?_ | fail) <;> (conv => whnf))
          refine ⟨(i + 1, t2), ?_, samea, ⟨hlt, ?_⟩, by simp only; omega⟩
          · dsimp only
            exact cons_eq (congrArg (AV.slice t2) (show (ls.take i).flatten.map exA ++ (ls.getD i []).map exA = _ by rw [flat_take hlt, List.map_append])) (cons_eq rfl rfl)
          · dsimp only
            rw [flat_take hlt, isEmpty_app]
            rw [show ((ls.getD i []).map exA).isEmpty = (ls.getD i []).isEmpty by cases ls.getD i [] <;> rfl] at k3
            exact k3
        · obtain rfl : i = ls.length := by omega
          rw [List.take_length] at hown
          rw [List.take_length]
          repeat' ((first | (exfalso; first | omega | exact (by assumption : ¬ True) trivial | fail) | refine ⟨Sub.refl _, ?_⟩ | (refine brA_split (fun h => ?_) (fun h => ?_) <;> (try rw [h]) <;> (try simp only [bS, ↓reduceIte] at h)) | refine getB_same ?_ | refine AWp.anyA ?_ | refine and_a ?_ | fail) <;> (conv => whnf))
          exact ⟨_, Sub.refl _, t, rfl, hown⟩
def inA (x : Int) : List AV := [.int .i64 x]
theorem concatI_ok {tk : Nat} {ls : List (List Int)} (hn : ls.length ≤ 100) (hz : ls.flatten.length ≤ 1000000) :
    ACalls Tryz.prog Γ 97 [.slice tk (ls.map (slA inA))] s fun v s' => ∃ t, v = .slice t (ls.flatten.map inA) ∧ Own s s' ls.flatten.isEmpty t 3 1 := by
  have hlen : (ls.map (slA inA)).length = ls.length := List.length_map ..
  refine ACalls.of_awp Tryz.func97 rfl (Nat.le_of_ble_eq_true (by kernel_rfl)) (awp_ok _ (by kernel_rfl) ?_)
  conv => whnf
  repeat' ((first | (exfalso; first | omega | exact (by assumption : ¬ True) trivial | fail) | refine ⟨Sub.refl _, ?_⟩ | (refine brA_split (fun h => ?_) (fun h => ?_) <;> (try rw [h]) <;> (try simp only [bS, ↓reduceIte] at h)) | refine getB_same ?_ | refine AWp.anyA ?_ | refine and_a ?_ | fail) <;> (conv => whnf))
  refine AWp.loopA [3, 11] [12, 13, 14, 5, 15, 16, 17, 18, 19, 20, 21, 22] (fun i : Nat => [.int .i64 ((ls.take i).flatten.length : Int), .int .i64 (i : Int)]) (fun i s' => i ≤ ls.length ∧ s' = s) (fun i => ls.length - i) (0) (by kernel_rfl) (eqa) ?_ ?_
  · exact ⟨Nat.zero_le _, rfl⟩
  · rintro x i s' ⟨hi, hs'⟩
    subst s'
    show awp _ _ _ _ _ (updL _ _ [.int .i64 ((ls.take i).flatten.length : Int), .int .i64 (i : Int)]) _
    conv => whnf
    by_cases hlt : i < ls.length
    · have hat := slA_at (A := inA) hlt
      have hz : ((i : Int)).toNat = i := rfl
      have hle := flat_le ls (i + 1)
      rw [flat_take hlt, List.length_append] at hle
      have hw1 : IntKind.i64.wrap (((ls.take i).flatten.length : Int) + (((ls.getD i []).map inA).length : Int)) = ((ls.take (i + 1)).flatten.length : Int) := i64_of (by rw [flat_take hlt, List.length_append, List.length_map]; omega) (by omega) (by rw [flat_take hlt, List.length_append]; omega)
      have hw2 : IntKind.i64.wrap ((i : Int) + 1) = ((i + 1 : Nat) : Int) := i64_of (by omega) (by omega) (by omega)
      repeat' ((first | (exfalso; first | omega | exact (by assumption : ¬ True) trivial | fail) | refine ⟨Sub.refl _, ?_⟩ | (refine brA_split (fun h => ?_) (fun h => ?_) <;> (try rw [h]) <;> (try simp only [bS, ↓reduceIte] at h)) | (rw [hz]) | (rw [hat]) | (rw [hw1]) | (rw [hw2]) | refine getB_same ?_ | refine AWp.anyA ?_ | refine and_a ?_ | fail) <;> (conv => whnf))
      exact ⟨i + 1, eqa, samea, ⟨hlt, rfl⟩, by omega⟩
    · obtain rfl : i = ls.length := by omega
      rw [List.take_length]
      repeat' ((first | (exfalso; first | omega | exact (by assumption : ¬ True) trivial | fail) | refine ⟨Sub.refl _, ?_⟩ | (refine brA_split (fun h => ?_) (fun h => ?_) <;> (try rw [h]) <;> (try simp only [bS, ↓reduceIte] at h)) | (refine ACalls.by (growI_ok (by omega)) ?_; rintro _ s1 ⟨t0, rfl, ho⟩) | refine getB_same ?_ | refine AWp.anyA ?_ | refine and_a ?_ | fail) <;> (conv => whnf))
      refine AWp.loopA [6, 27] [28, 29, 30, 8, 31, 32, 33, 34] (fun q : Nat × Nat => [.slice q.2 ((ls.take q.1).flatten.map inA), .int .i64 (q.1 : Int)]) (fun q s' => q.1 ≤ ls.length ∧ Own s s' (ls.take q.1).flatten.isEmpty q.2 3 1) (fun q => ls.length - q.1) ((0, t0)) (by kernel_rfl) (eqa) ?_ ?_
      · exact ⟨Nat.zero_le _, ho⟩
      · rintro y ⟨i, t⟩ s' ⟨hi, hown⟩
        simp only at hi hown
        show awp _ _ _ _ _ (updL _ _ [.slice t ((ls.take i).flatten.map inA), .int .i64 (i : Int)]) _
        conv => whnf
        by_cases hlt : i < ls.length
        · have hat := slA_at (A := inA) hlt
          have hz : ((i : Int)).toNat = i := rfl
          have hle := flat_le ls (i + 1)
          rw [flat_take hlt, List.length_append] at hle
          have hw2 : IntKind.i64.wrap ((i : Int) + 1) = ((i + 1 : Nat) : Int) := i64_of (by omega) (by omega) (by omega)
          repeat' ((first | (exfalso; first | omega | exact (by assumption : ¬ True) trivial | fail) | refine ⟨Sub.refl _, ?_⟩ | (refine brA_split (fun h => ?_) (fun h => ?_) <;> (try rw [h]) <;> (try simp only [bS, ↓reduceIte] at h)) | (rw [hz]) | (rw [hat]) | refine getB_same ?_ | refine AWp.anyA ?_ | refine and_a ?_ | fail) <;> (conv => whnf))
          refine ⟨hown.may, fun c hc => by obtain ⟨z, _, rfl⟩ := List.mem_map.1 hc; rfl, fun c hc => by obtain ⟨z, _, rfl⟩ := List.mem_map.1 hc; exact ⟨rfl, rfl⟩, Nat.le_trans (Nat.mul_le_mul_right _ (show _ ≤ 1000000 from by simp only [List.length_map]; omega)) (Nat.le_of_ble_eq_true (by kernel_rfl)), ?_⟩
          intro t2 k1 k2
          have k3 := hown.grow k1 k2
          conv => whnf
          repeat' ((first | (exfalso; first | omega | exact (by assumption : ¬ True) trivial | fail) | refine ⟨Sub.refl _, ?_⟩ | (refine brA_split (fun h => ?_) (fun h => ?_) <;> (try rw [h]) <;> (try simp only [bS, ↓reduceIte] at h)) | (rw [hw2]) | refine getB_same ?_ | refine AWp.anyA ?_ | refine and_a ?_ | fail) <;> (conv => whnf))
          refine ⟨(i + 1, t2), ?_, samea, ⟨hlt, ?_⟩, by simp only; omega⟩
          · dsimp only
            exact cons_eq (congrArg (AV.slice t2) (show (ls.take i).flatten.map inA ++ (ls.getD i []).map inA = _ by rw [flat_take hlt, List.map_append])) (cons_eq rfl rfl)
          · dsimp only
            rw [flat_take hlt, isEmpty_app]
            rw [show ((ls.getD i []).map inA).isEmpty = (ls.getD i []).isEmpty by cases ls.getD i [] <;> rfl] at k3
            exact k3
        · obtain rfl : i = ls.length := by omega
          rw [List.take_length] at hown
          rw [List.take_length]
          repeat' ((first | (exfalso; first | omega | exact (by assumption : ¬ True) trivial | fail) | refine ⟨Sub.refl _, ?_⟩ | (refine brA_split (fun h => ?_) (fun h => ?_) <;> (try rw [h]) <;> (try simp only [bS, ↓reduceIte] at h)) | refine getB_same ?_ | refine AWp.anyA ?_ | refine and_a ?_ | fail) <;> (conv => whnf))
          exact ⟨_, Sub.refl _, t, rfl, hown⟩
end
end Go.Proofs.YthpnfflkkmpejaaGreatDoor.Pa
namespace Go.Proofs.YthpnfflkkmpejaaGreatDoor.Pa
open Go Go.Ab Go.RowKit Go.Proofs.YthpnfflkkmpejaaGreatDoor.Lx
variable {Γ : Nat → AV}
theorem own_apart {a b c : Sto} {z z2 : Bool} {t t2 : Nat} {e e2 : TypeId} {k k2 : Nat} (h : Own a b z t e k) (h2 : Own b c z2 t2 e2 k2) : t = t2 → t = 1 := fun ht => by
  rcases h.own with ⟨h1, _⟩ | ⟨h1, h3, _⟩
  · exact h1
  · rcases h2.own with ⟨h4, _⟩ | ⟨_, _, h5⟩
    · exact ht.trans h4
    · subst ht; exact absurd h3 (h5 _ _)
theorem exs_all (l : List Ex) : ∀ c ∈ exsA l, c.length = 10 := fun c hc => by obtain ⟨z, _, rfl⟩ := List.mem_map.1 hc; rfl
theorem ints_all (l : List Int) : ∀ c ∈ intsA .i64 l, c.length = 1 := fun c hc => by obtain ⟨z, _, rfl⟩ := List.mem_map.1 hc; rfl
theorem le_len {α : Type} {l : List α} {n a : Nat} (h : l.length = n) (k : a ≤ n) : a ≤ l.length := h ▸ k
attribute [local irreducible] APure Sto.set Sto.grow
set_option maxRecDepth 10000
set_option maxHeartbeats 1500000
theorem turn_ok (L : List Tok) (hL : L.length ≤ 90000) : Turns Γ L := by
  intro s0 s bp bl st i j hP hS hij hjl
  obtain ⟨t1, t2, hb, w1, w2, w3⟩ := hP.pr
  have hso := hS.ho
  have hsa := hS.ha
  have hd := hS.hd
  have hol := exsA_len st.o
  have hdl := intsA_len .i64 st.d
  have hA : List.drop ((i : Int)).toNat (List.take ((j : Int)).toNat (exsA st.o)) = exsA ((st.o.take j).drop i) := by simp [exsA, List.map_take, List.map_drop]
  have hB : List.drop ((j : Int)).toNat (List.take (exsA st.o).length (exsA st.o)) = exsA (st.o.drop j) := by rw [Int.toNat_natCast, drop_take_all]; simp [exsA, List.map_drop]
  have hC : List.drop 0 (List.take ((i : Int)).toNat (exsA st.o)) = exsA (st.o.take i) := by simp [exsA, List.map_take]
  have hD : List.drop 0 (List.take ((i : Int)).toNat (intsA .i64 st.d)) = intsA .i64 (st.d.take i) := by simp [intsA, List.map_take]
  have hE : List.drop ((j : Int)).toNat (List.take (intsA .i64 st.d).length (intsA .i64 st.d)) = intsA .i64 (st.d.drop j) := by rw [Int.toNat_natCast, drop_take_all]; simp [intsA, List.map_drop]
  have hF : List.drop ((i : Int)).toNat (List.take ((j : Int)).toNat (intsA .i64 st.d)) = intsA .i64 ((st.d.take j).drop i) := by simp [intsA, List.map_take, List.map_drop]
  have hz1 : ((i : Int)).toNat = i := rfl
  have hz2 : ((j : Int)).toNat = j := rfl
  have hl1 : (exsA ((st.o.take j).drop i)).length = j - i := by rw [exsA_len, List.length_drop, List.length_take]; omega
  have hl2 : (exsA (st.o.drop j)).length = st.o.length - j := by rw [exsA_len, List.length_drop]
  have hw1 : IntKind.i64.wrap (0 - ((j - i : Nat) : Int)) = -((j - i : Nat) : Int) := i64_of (by omega) (by omega) (by omega)
  have hs1 := fun tk => ACalls.pure' (s := s) (K := fun v s' => v = .slice 0 (exsA ((st.o.drop j).map (shiftX (-((j - i : Nat) : Int))))) ∧ s' = s) (fun v hv => ⟨hv, rfl⟩) (shift_ok (Γ := Γ) (tk := tk) (l := st.o.drop j) (by_ := -((j - i : Nat) : Int)) (by rw [Ne, ← List.length_eq_zero_iff, List.length_drop]; omega) (by rw [List.length_drop]; omega))
  have hs2 := fun tk => ACalls.pure' (s := s) (K := fun v s' => v = .slice 0 (exsA (((st.o.take j).drop i).map (shiftX ((st.o.length - j : Nat) : Int)))) ∧ s' = s) (fun v hv => ⟨hv, rfl⟩) (shift_ok (Γ := Γ) (tk := tk) (l := (st.o.take j).drop i) (by_ := ((st.o.length - j : Nat) : Int)) (by rw [Ne, ← List.length_eq_zero_iff, List.length_drop, List.length_take]; omega) (by rw [List.length_drop, List.length_take]; omega))
  have hc1 := concatX_ok (Γ := Γ) (s := s) (tk := 1) (ls := [st.o.take i, (st.o.drop j).map (shiftX (-((j - i : Nat) : Int))), ((st.o.take j).drop i).map (shiftX ((st.o.length - j : Nat) : Int))]) (by simp) (by simp only [List.flatten_cons, List.flatten_nil, List.length_append, List.length_map, List.length_take, List.length_drop, List.length_nil]; omega)
  refine ACalls.of_awp Tryz.func82 rfl (Nat.le_of_ble_eq_true (by kernel_rfl)) (awp_ok _ (by kernel_rfl) ?_)
  conv => whnf
  repeat' ((first | (exfalso; first | omega | exact (by assumption : ¬ True) trivial | fail) | refine ⟨Sub.refl _, ?_⟩ | (refine brA_split (fun h => ?_) (fun h => ?_) <;> (try rw [h]) <;> (try simp only [bS, ↓reduceIte] at h)) | (refine getB_of hb ?_) | (rw [hA]) | (rw [hB]) | (rw [hC]) | (refine ⟨exs_all _, ?_⟩) | (refine ⟨le_len hol (by omega), ?_⟩) | (refine AWp.anyC (id := 1) [32, 36] [38] (by kernel_rfl) (by kernel_rfl) (by kernel_rfl) (by kernel_rfl) ?_) | (refine ⟨trivial, ?_⟩) | (rw [hl1]) | (rw [hl2]) | (rw [hw1]) | (refine CCall.mk _ (hs1 _) ?_) | (refine CCall.mk _ (hs2 _) ?_) | (refine ACalls.by hc1 ?_; rintro _ s1 ⟨t3, rfl, ho1⟩) | refine getB_same ?_ | refine AWp.anyA ?_ | refine and_a ?_ | fail) <;> (conv => whnf))
  have hb1 := ho1.sub.bx _ _ hb
  have hl3 := ho1.sub.bx _ _ hP.pl
  obtain ⟨o', ho'⟩ : ∃ o', o' = [st.o.take i, (st.o.drop j).map (shiftX (-((j - i : Nat) : Int))), ((st.o.take j).drop i).map (shiftX ((st.o.length - j : Nat) : Int))].flatten := ⟨_, rfl⟩
  rw [← ho'] at ho1
  rw [← ho']
  have hc2 := concatI_ok (Γ := Γ) (s := s1.set bp 53 [.ptr (some ⟨bl, 0, none⟩), .slice t3 (o'.map exA), .slice t2 (intsA .i64 st.d), .int .i64 st.k]) (tk := 1) (ls := [st.d.take i, st.d.drop j, (st.d.take j).drop i]) (by simp) (by simp only [List.flatten_cons, List.flatten_nil, List.length_append, List.length_map, List.length_take, List.length_drop, List.length_nil]; omega)
  obtain ⟨d', hd'⟩ : ∃ d', d' = [st.d.take i, st.d.drop j, (st.d.take j).drop i].flatten := ⟨_, rfl⟩
  rw [← hd'] at hc2
  refine getB_of hb1 ?_
  conv => whnf
  refine ⟨rfl, rfl, Nat.le_of_ble_eq_true rfl, ?_⟩
  conv => whnf
  refine AWp.anyC (id := 2) [] [62] (by kernel_rfl) (by kernel_rfl) (by kernel_rfl) (by kernel_rfl) ?_
  conv => whnf
  repeat' ((first | (exfalso; first | omega | exact (by assumption : ¬ True) trivial | fail) | refine ⟨Sub.refl _, ?_⟩ | (refine brA_split (fun h => ?_) (fun h => ?_) <;> (try rw [h]) <;> (try simp only [bS, ↓reduceIte] at h)) | (refine ⟨trivial, ?_⟩) | (refine getB_of set_bx_same ?_) | (rw [hD]) | refine getB_same ?_ | refine AWp.anyA ?_ | refine and_a ?_ | fail) <;> (conv => whnf))
  refine ⟨ints_all _, ?_⟩
  conv => whnf
  repeat' ((first | (exfalso; first | omega | exact (by assumption : ¬ True) trivial | fail) | refine ⟨Sub.refl _, ?_⟩ | (refine brA_split (fun h => ?_) (fun h => ?_) <;> (try rw [h]) <;> (try simp only [bS, ↓reduceIte] at h)) | (refine ⟨trivial, ?_⟩) | (refine getB_of set_bx_same ?_) | refine getB_same ?_ | refine AWp.anyA ?_ | refine and_a ?_ | fail) <;> (conv => whnf))
  rw [hE]
  refine ⟨ints_all _, ?_⟩
  conv => whnf
  repeat' ((first | (exfalso; first | omega | exact (by assumption : ¬ True) trivial | fail) | refine ⟨Sub.refl _, ?_⟩ | (refine brA_split (fun h => ?_) (fun h => ?_) <;> (try rw [h]) <;> (try simp only [bS, ↓reduceIte] at h)) | (refine ⟨trivial, ?_⟩) | (refine getB_of set_bx_same ?_) | refine getB_same ?_ | refine AWp.anyA ?_ | refine and_a ?_ | fail) <;> (conv => whnf))
  rw [hF]
  refine ⟨ints_all _, ?_⟩
  conv => whnf
  repeat' ((first | (exfalso; first | omega | exact (by assumption : ¬ True) trivial | fail) | refine ⟨Sub.refl _, ?_⟩ | (refine brA_split (fun h => ?_) (fun h => ?_) <;> (try rw [h]) <;> (try simp only [bS, ↓reduceIte] at h)) | (refine ⟨trivial, ?_⟩) | refine getB_same ?_ | refine AWp.anyA ?_ | refine and_a ?_ | fail) <;> (conv => whnf))
  refine ACalls.by hc2 ?_
  rintro _ s2 ⟨t4, rfl, ho2⟩
  conv => whnf
  have hb2 := ho2.sub.bx _ _ set_bx_same
  have hl4 := ho2.sub.bx _ _ ((set_bx_other hP.ne.symm).trans hl3)
  repeat' ((first | (exfalso; first | omega | exact (by assumption : ¬ True) trivial | fail) | refine ⟨Sub.refl _, ?_⟩ | (refine brA_split (fun h => ?_) (fun h => ?_) <;> (try rw [h]) <;> (try simp only [bS, ↓reduceIte] at h)) | (refine getB_of hb2 ?_) | (refine ⟨trivial, ?_⟩) | refine getB_same ?_ | refine AWp.anyA ?_ | refine and_a ?_ | fail) <;> (conv => whnf))
  have w4 := ((ho1.of_sub hP.sub).set (T := 53) (cs := [.ptr (some ⟨bl, 0, none⟩), .slice t3 (o'.map exA), .slice t2 (intsA .i64 st.d), .int .i64 st.k]) hP.np)
  have w5 := w4.later ho2.sub
  have w6 := ho2.of_sub w4.sub
  have ho3 : (turnF st i j).o = o' := by rw [ho']; simp [turnF, List.append_assoc]
  have hd3 : (turnF st i j).d = d' := by rw [hd']; simp [turnF, List.append_assoc]
  rw [ho3, hd3]
  exact ⟨_, Sub.refl _, rfl, hP.np, hP.nl, hP.ne, ⟨t3, t4, set_bx_same, w5.set hP.np, w6.set hP.np, own_apart w4 ho2⟩, (set_bx_other hP.ne.symm).trans hl4⟩
end Go.Proofs.YthpnfflkkmpejaaGreatDoor.Pa
namespace Go.Proofs.YthpnfflkkmpejaaGreatDoor.Pa
open Go Go.Ab Go.RowKit Go.Proofs.YthpnfflkkmpejaaGreatDoor.Lx
variable {Γ : Nat → AV}
theorem lev_zero {L : List Tok} {n : FuncId} {lv : Nat} : Lev Γ L n 0 lv := fun _ _ _ _ _ _ _ hE => absurd hE (Nat.not_lt_zero _)
theorem levels (hR : Nu.ErrR Γ) {L : List Tok} (hL : L.length ≤ 90000) (hT : ∀ i, (peekF L i).2.1.length ≤ 5000) : ∀ f, Lev Γ L 11 f 0 ∧ Lev Γ L 23 f 1 ∧ Lev Γ L 43 f 2 ∧ Lev Γ L 64 f 3 ∧ Lev Γ L 81 f 4 ∧ Lev Γ L 94 f 5 ∧ Lev Γ L 117 f 6
  | 0 => ⟨lev_zero, lev_zero, lev_zero, lev_zero, lev_zero, lev_zero, lev_zero⟩
  | f + 1 => by
    obtain ⟨h0, h1, h2, h3, h4, h5, h6⟩ := levels hR hL hT f
    exact ⟨expr_ok hL h1, and_ok hL h2, not_ok hL h3 h2, comp_ok hL (turn_ok L hL) h4, sum_ok hL h5, prod_ok hL h6, unary_ok hR hL hT h0 h6⟩
/-- An expression, with fuel enough. -/
def fuelN (L : List Tok) : Nat := 7 * L.length + 7
theorem enough_all (L : List Tok) (st : St) : Enough L 0 (fuelN L) st := by unfold Enough fuelN; omega
end Go.Proofs.YthpnfflkkmpejaaGreatDoor.Pa
namespace Go.Proofs.YthpnfflkkmpejaaGreatDoor.AsP
open Go Go.RowKit Go.Extern.Stop Go.Stop Go.Extern
set_option maxRecDepth 10000
theorem valueOfPE (t : Addr) (w : World) : (ReflectliteValue.unpack (.iface 69 (.pointer (some t)))).run Tryz.prog w
    = .ok (.agg #[.pointer (some ⟨12, 69, none⟩), .pointer (some ⟨w.heap.size, 0, none⟩), .int .u64 150]) (w.alloc (.cells #[.pointer (some t)] 69)) := by kernel_rfl
theorem typePE (a : Addr) (w : World) : (ReflectliteValue.methodAny (ReflectliteValue.valueError "reflectlite.Value.Type" 0) (fun t _ _ _ => ReflectliteType.toType t) #[(.agg #[.pointer (some ⟨12, 69, none⟩), .pointer (some a), .int .u64 150])]).run Tryz.prog w
    = .ok (.iface 117 (.agg #[.pointer (some ⟨12, 69, none⟩)])) w := by kernel_rfl
theorem methodKind (h : Value) (w : World) : (Go.method 356 117 (.agg #[h]) "Kind").run Tryz.prog w = .ok (188, h) w := by kernel_rfl
theorem kindPE (w : World) : ((ReflectliteType.abiMethod fun t => (fun a : Nat => Value.int IntKind.u8 (a : Int)) <$> Rtype.kind t) #[.pointer (some ⟨12, 69, none⟩)]).run Tryz.prog w = .ok (.int .u8 22) w := by kernel_rfl
theorem kindE (w : World) : ((ReflectliteType.abiMethod fun t => (fun a : Nat => Value.int IntKind.u8 (a : Int)) <$> Rtype.kind t) #[.pointer (some ⟨12, 67, none⟩)]).run Tryz.prog w = .ok (.int .u8 22) w := by kernel_rfl
theorem rlm (z : Sem Value) (f : TypeId → Addr → Nat → Nat → Sem Value) (v : Value) :
    ReflectliteValue.method z f #[v] = (do match ← ReflectliteValue.parts v with | none => z | some (t, a, fl) => f t a fl (fl % 32)) := rfl
theorem partsPE (a : Addr) (w : World) : (ReflectliteValue.parts (.agg #[.pointer (some ⟨12, 69, none⟩), .pointer (some a), .int .u64 150])).run Tryz.prog w = .ok (some (69, a, 150)) w := by kernel_rfl
theorem isNilPE (a p : Addr) (W : World) (ha : W.cell? a = some (.pointer (some p))) :
    (ReflectliteValue.method (ReflectliteValue.valueError "reflectlite.Value.IsNil" 0) ReflectliteValue.isNil #[(.agg #[.pointer (some ⟨12, 69, none⟩), .pointer (some a), .int .u64 150])]).run Tryz.prog W = .ok (.bool false) W := by
  rw [rlm]
  simp only [Sem.run_bind, partsPE, Result.andThen]
  simp [ReflectliteValue.isNil, loadVar, isAgg, underlying, Tryz.underlying69, ha, Result.andThen]
theorem methodElem (h : Value) (w : World) : (Go.method 356 117 (.agg #[h]) "Elem").run Tryz.prog w = .ok (201, .agg #[h]) w := by kernel_rfl
theorem methodImplements (h : Value) (w : World) : (Go.method 356 117 (.agg #[h]) "Implements").run Tryz.prog w = .ok (202, .agg #[h]) w := by kernel_rfl
theorem methodAssignableTo (h : Value) (w : World) : (Go.method 356 117 (.agg #[h]) "AssignableTo").run Tryz.prog w = .ok (199, .agg #[h]) w := by kernel_rfl
theorem elemPE (w : World) : (ReflectliteType.method ReflectliteType.elem #[.agg #[.pointer (some ⟨12, 69, none⟩)]]).run Tryz.prog w = .ok (.iface 117 (.agg #[.pointer (some ⟨12, 67, none⟩)])) w := by kernel_rfl
theorem implementsE (w : World) : (ReflectliteType.relation "Implements" ReflectliteType.implements_ #[.agg #[.pointer (some ⟨12, 67, none⟩)], (.iface 117 (.agg #[.pointer (some ⟨12, 48, none⟩)]))]).run Tryz.prog w = .ok (.bool true) w := by kernel_rfl
theorem typeOfE (v : Value) (w : World) : (ReflectliteType.typeOf #[.iface 67 v]).run Tryz.prog w = .ok (.iface 117 (.agg #[.pointer (some ⟨12, 67, none⟩)])) w := by kernel_rfl
theorem assignableE (w : World) : (ReflectliteType.relation "AssignableTo" ReflectliteType.assignableTo #[.agg #[.pointer (some ⟨12, 67, none⟩)], (.iface 117 (.agg #[.pointer (some ⟨12, 67, none⟩)]))]).run Tryz.prog w = .ok (.bool true) w := by kernel_rfl
theorem valueOfE (e : Option Addr) (w : World) : (ReflectliteValue.unpack (.iface 67 (.pointer e))).run Tryz.prog w
    = .ok (.agg #[.pointer (some ⟨12, 67, none⟩), .pointer (some ⟨w.heap.size, 0, none⟩), .int .u64 150]) (w.alloc (.cells #[.pointer e] 67)) := by kernel_rfl
theorem elemOfPE (w : World) : (Rtype.elem? 69).run Tryz.prog w = .ok (some 67) w := by kernel_rfl
theorem mkE (p : Addr) (w : World) : (ReflectliteValue.mk 67 p ReflectliteValue.flagAddr).run Tryz.prog w = .ok (.agg #[.pointer (some ⟨12, 67, none⟩), .pointer (some p), .int .u64 406]) w := by kernel_rfl
theorem elemVPE (a p : Addr) (W : World) (ha : W.cell? a = some (.pointer (some p))) :
    (ReflectliteValue.method (ReflectliteValue.valueError "reflectlite.Value.Elem" 0) ReflectliteValue.elem #[(.agg #[.pointer (some ⟨12, 69, none⟩), .pointer (some a), .int .u64 150])]).run Tryz.prog W
      = .ok (.agg #[.pointer (some ⟨12, 67, none⟩), .pointer (some p), .int .u64 406]) W := by
  rw [rlm]
  simp only [Sem.run_bind, partsPE, Result.andThen]
  simp [ReflectliteValue.elem, loadVar, isAgg, underlying, Tryz.underlying69, ha, Result.andThen, elemOfPE, mkE]
theorem rls (v x : Value) : ReflectliteValue.set #[v, x] = (do
    let (some (dst, a, fl), some (src, b, _)) := (← ReflectliteValue.parts v, ← ReflectliteValue.parts x)
      | unsupported (.noEntry "extern/(internal/reflectlite.Value).Set.zeroValue")
    if fl / ReflectliteValue.flagAddr % 2 == 0 then unsupported (.noEntry "extern/(internal/reflectlite.Value).Set.unaddressable")
    let val ← loadVar src b
    if ← Rtype.directlyAssignable dst src then storeVar dst a val
    else if ← Rtype.implements dst src then
      if (← Rtype.kind src) == 20 then
        match val with
        | .nilIface => unsupported (.noEntry "extern/reflectlite: a nil value of one interface type handed on as a value of another")
        | _ => storeVar dst a val
      else storeVar dst a (.iface src val)
    else panicString ("reflectlite.Set: value of type " ++ (← Rtype.spelt src) ++ " is not assignable to type " ++ (← Rtype.spelt dst))
    pure (.tuple #[])) := rfl
theorem partsDst (a : Addr) (w : World) : (ReflectliteValue.parts (.agg #[.pointer (some ⟨12, 67, none⟩), .pointer (some a), .int .u64 406])).run Tryz.prog w = .ok (some (67, a, 406)) w := by kernel_rfl
theorem partsSrc (b : Addr) (w : World) : (ReflectliteValue.parts (.agg #[.pointer (some ⟨12, 67, none⟩), .pointer (some b), .int .u64 150])).run Tryz.prog w = .ok (some (67, b, 150)) w := by kernel_rfl
theorem directE (w : World) : (Rtype.directlyAssignable 67 67).run Tryz.prog w = .ok true w := by kernel_rfl
theorem setE (a b : Addr) (val : Value) (W W' : World) (hl : (loadVar 67 b).run Tryz.prog W = .ok val W) (hs : (storeVar 67 a val).run Tryz.prog W = .ok () W') :
    (ReflectliteValue.set #[(.agg #[.pointer (some ⟨12, 67, none⟩), .pointer (some a), .int .u64 406]), (.agg #[.pointer (some ⟨12, 67, none⟩), .pointer (some b), .int .u64 150])]).run Tryz.prog W = .ok (.tuple #[]) W' := by
  rw [rls]
  simp only [Sem.run_bind, partsDst, partsSrc, Result.andThen]
  simp [ReflectliteValue.flagAddr, hl, Result.andThen, directE, hs]
theorem as_nil (t : Value) (w : World) :
    Calls Tryz.prog 20 #[.nilIface, t] w fun e w' => e = .returned (.bool false) ∧ w' = w := by
  go_enter Tryz.func20, Tryz.ntmps20
  go_wp2
  go_ret
  exact ⟨rfl, rfl⟩
set_option maxHeartbeats 4000000 in
theorem as_hit (e : Option Addr) (t : Addr) (old val : Value) (w W' : World) (hg : w.cell? ⟨0, 0, none⟩ = some (.iface 117 (.agg #[.pointer (some ⟨12, 48, none⟩)]))) (ht0 : w.cell? t = some old)
    (hl : (loadVar 67 ⟨w.heap.size + 1 + 1 + 1, 0, none⟩).run Tryz.prog ((((w.alloc (.cells #[.pointer (some t)] 69)).alloc (.cells #[.pointer (some ⟨12, 69, none⟩), .pointer (some ⟨w.heap.size, 0, none⟩), .int .u64 150] 93)).alloc (.cells #[.pointer (some ⟨12, 69, none⟩), .pointer (some ⟨w.heap.size, 0, none⟩), .int .u64 150] 93)).alloc (.cells #[.pointer e] 67)) = .ok val ((((w.alloc (.cells #[.pointer (some t)] 69)).alloc (.cells #[.pointer (some ⟨12, 69, none⟩), .pointer (some ⟨w.heap.size, 0, none⟩), .int .u64 150] 93)).alloc (.cells #[.pointer (some ⟨12, 69, none⟩), .pointer (some ⟨w.heap.size, 0, none⟩), .int .u64 150] 93)).alloc (.cells #[.pointer e] 67))) (hs : (storeVar 67 t val).run Tryz.prog ((((w.alloc (.cells #[.pointer (some t)] 69)).alloc (.cells #[.pointer (some ⟨12, 69, none⟩), .pointer (some ⟨w.heap.size, 0, none⟩), .int .u64 150] 93)).alloc (.cells #[.pointer (some ⟨12, 69, none⟩), .pointer (some ⟨w.heap.size, 0, none⟩), .int .u64 150] 93)).alloc (.cells #[.pointer e] 67)) = .ok () W') :
    Calls Tryz.prog 20 #[.iface 67 (.pointer e), .iface 69 (.pointer (some t))] w fun ev w' => ev = .returned (.bool true) ∧ w' = W' := by
  have h6 := @run_callFunc_extern Tryz.prog 35 _ (fun args => ReflectliteValue.unpack (args.getD 0 (.tuple #[]))) Tryz.func35 (by kernel_rfl) (by kernel_rfl) (by kernel_rfl) (by kernel_rfl)
  have h7 := @run_callFunc_extern Tryz.prog 36 _ (ReflectliteValue.methodAny (ReflectliteValue.valueError "reflectlite.Value.Type" 0) (fun t _ _ _ => ReflectliteType.toType t)) Tryz.func36 (by kernel_rfl) (by kernel_rfl) (by kernel_rfl) (by kernel_rfl)
  have h8 := @run_callFunc_extern Tryz.prog 37 _ (ReflectliteValue.method (ReflectliteValue.valueError "reflectlite.Value.IsNil" 0) ReflectliteValue.isNil) Tryz.func37 (by kernel_rfl) (by kernel_rfl) (by kernel_rfl) (by kernel_rfl)
  have h27 := @run_callFunc_extern Tryz.prog 188 _ (ReflectliteType.abiMethod fun t => do pure (.int .u8 (← Rtype.kind t))) Tryz.func188 (by kernel_rfl) (by kernel_rfl) (by kernel_rfl) (by kernel_rfl)
  have h37 := @run_callFunc_extern Tryz.prog 201 _ (ReflectliteType.method ReflectliteType.elem) Tryz.func201 (by kernel_rfl) (by kernel_rfl) (by kernel_rfl) (by kernel_rfl)
  have h38 := @run_callFunc_extern Tryz.prog 202 _ (ReflectliteType.relation "Implements" ReflectliteType.implements_) Tryz.func202 (by kernel_rfl) (by kernel_rfl) (by kernel_rfl) (by kernel_rfl)
  have h10 := @run_callFunc_extern Tryz.prog 58 _ ReflectliteType.typeOf Tryz.func58 (by kernel_rfl) (by kernel_rfl) (by kernel_rfl) (by kernel_rfl)
  have h35 := @run_callFunc_extern Tryz.prog 199 _ (ReflectliteType.relation "AssignableTo" ReflectliteType.assignableTo) Tryz.func199 (by kernel_rfl) (by kernel_rfl) (by kernel_rfl) (by kernel_rfl)
  have h11 := @run_callFunc_extern Tryz.prog 59 _ (ReflectliteValue.method (ReflectliteValue.valueError "reflectlite.Value.Elem" 0) ReflectliteValue.elem) Tryz.func59 (by kernel_rfl) (by kernel_rfl) (by kernel_rfl) (by kernel_rfl)
  have h12 := @run_callFunc_extern Tryz.prog 60 _ ReflectliteValue.set Tryz.func60 (by kernel_rfl) (by kernel_rfl) (by kernel_rfl) (by kernel_rfl)
  have tO := typeOfE
  have mA := methodAssignableTo
  have aE := assignableE
  have vE := valueOfE
  have f6 := valueOfPE
  have f7 := typePE
  have mK := methodKind
  have mE := methodElem
  have mI := methodImplements
  have kP := kindPE
  have kE := kindE
  have eP := elemPE
  have iE := implementsE
  have n8 := isNilPE ⟨w.heap.size, 0, none⟩ t ((w.alloc (.cells #[.pointer (some t)] 69)).alloc (.cells #[.pointer (some ⟨12, 69, none⟩), .pointer (some ⟨w.heap.size, 0, none⟩), .int .u64 150] 93)) (by simp)
  have hlt : 0 < w.heap.size := by
    rcases Nat.lt_or_ge 0 w.heap.size with h | h
    · exact h
    · simp [World.cell?, Array.getElem?_eq_none h] at hg
  have hg2 : ((w.alloc (.cells #[.pointer (some t)] 69)).alloc (.cells #[.pointer (some ⟨12, 69, none⟩), .pointer (some ⟨w.heap.size, 0, none⟩), .int .u64 150] 93)).cell? ⟨0, 0, none⟩ = some (.iface 117 (.agg #[.pointer (some ⟨12, 48, none⟩)])) := by
    rw [World.cell?_alloc_lt _ _ ⟨0, 0, none⟩ (by first | (simp; done) | (simp; omega)), World.cell?_alloc_lt _ _ ⟨0, 0, none⟩ hlt]; exact hg
  have el := elemVPE ⟨w.heap.size, 0, none⟩ t (((w.alloc (.cells #[.pointer (some t)] 69)).alloc (.cells #[.pointer (some ⟨12, 69, none⟩), .pointer (some ⟨w.heap.size, 0, none⟩), .int .u64 150] 93)).alloc (.cells #[.pointer (some ⟨12, 69, none⟩), .pointer (some ⟨w.heap.size, 0, none⟩), .int .u64 150] 93)) (by rw [World.cell?_alloc_lt _ _ ⟨w.heap.size, 0, none⟩ (by simp; omega)]; simp)
  have st := setE t ⟨w.heap.size + 1 + 1 + 1, 0, none⟩ val ((((w.alloc (.cells #[.pointer (some t)] 69)).alloc (.cells #[.pointer (some ⟨12, 69, none⟩), .pointer (some ⟨w.heap.size, 0, none⟩), .int .u64 150] 93)).alloc (.cells #[.pointer (some ⟨12, 69, none⟩), .pointer (some ⟨w.heap.size, 0, none⟩), .int .u64 150] 93)).alloc (.cells #[.pointer e] 67)) W' hl hs
  clear hl hs
  go_enter Tryz.func20, Tryz.ntmps20
  go_wp2
  refine wp_loop_rounds 1 ?_
  rw [rounds_succ]
  go_wp2
  go_ret
  exact ⟨rfl, rfl⟩
open Go.Ab
variable {Γ : Nat → AV}
def ErrT (Γ : Nat → AV) : Prop := Γ 0 = .cptr [.iface 117 (.agg [.ptr (some ⟨12, 48, none⟩)])]
theorem errT_cell {G : Gh} {s : Sto} {w : World} (hE : ErrT Γ) (hm : Mod Γ G s w) : w.cell? ⟨0, 0, none⟩ = some (.iface 117 (.agg #[.pointer (some ⟨12, 48, none⟩)])) := by
  have h := (hm.glob 0).r
  rw [hE] at h
  obtain ⟨b, o, hp, hc⟩ := R_cptr.1 h
  simp only [Value.pointer.injEq, Option.some.injEq, Addr.mk.injEq] at hp
  obtain ⟨rfl, rfl, _⟩ := hp
  unfold RCells at hc
  obtain ⟨_, ⟨u, hu, hr⟩, _⟩ := hc
  obtain ⟨v, rfl, hv⟩ := R_iface.1 hr
  obtain ⟨us, rfl, hus⟩ := R_agg.1 hv
  obtain ⟨u1, us1, h1, h2, h3⟩ := RList_cons.1 hus
  rw [R_ptr] at h2
  rw [RList_nil] at h3
  subst h2 h3
  obtain rfl : us = #[.pointer (some ⟨12, 48, none⟩)] := by cases us; simp_all
  exact hu
theorem asNil_ok (x : AV) : APure Tryz.prog Γ 20 [.nilIface, x] fun v => v = .bool false := by
  refine fun s => ⟨fun G w vs hm hr => ?_⟩
  obtain ⟨u, us, rfl, hu, hus⟩ := RList_cons.1 hr
  obtain ⟨u1, us1, rfl, hu1, hus1⟩ := RList_cons.1 hus
  rw [RList_nil] at hus1; subst hus1
  rw [R_nilIface] at hu; subst hu
  refine (as_nil u1 w).mono ?_
  rintro e w' ⟨rfl, rfl⟩
  exact ⟨_, _, s, G, rfl, ⟨rfl, rfl⟩, R_bool.2 rfl, hm, Ext.refl _ _⟩
theorem asHit_ok (hE : ErrT Γ) (cs : List AV) {s : Sto} {b : Nat} {T0 : TypeId} {old : AV} (hb : s.bx b = some (T0, [old])) :
    ACalls Tryz.prog Γ 20 [.iface 67 (.cptr cs), .iface 69 (.ptr (some ⟨b, 0, none⟩))] s fun v s' => v = .bool true ∧ s' = s.set b T0 [.cptr cs] := by
  refine ⟨fun G w vs hm hr => ?_⟩
  obtain ⟨u, us, rfl, hu, hus⟩ := RList_cons.1 hr
  obtain ⟨u1, us1, rfl, hu1, hus1⟩ := RList_cons.1 hus
  rw [RList_nil] at hus1; subst hus1
  obtain ⟨e, rfl, he⟩ := R_iface.1 hu
  obtain ⟨p, rfl, hp⟩ := R_iface.1 hu1
  rw [R_ptr] at hp; subst hp
  obtain ⟨pb, po, rfl, hpc⟩ := R_cptr.1 he
  have hg := errT_cell hE hm
  obtain ⟨ws, hws, hcell⟩ := box_cells hm hb
  obtain ⟨w0, ws', rfl, _, _⟩ := RList_cons.1 hws
  have ht0 : w.cell? ⟨b, 0, none⟩ = some w0 := by rw [hcell]; rfl
  obtain ⟨m1, e1⟩ := hm.row_new (.cells #[.pointer (some ⟨b, 0, none⟩)] 69)
  obtain ⟨m2, e2⟩ := m1.row_new (.cells #[.pointer (some ⟨12, 69, none⟩), .pointer (some ⟨w.heap.size, 0, none⟩), .int .u64 150] 93)
  obtain ⟨m3, e3⟩ := m2.row_new (.cells #[.pointer (some ⟨12, 69, none⟩), .pointer (some ⟨w.heap.size, 0, none⟩), .int .u64 150] 93)
  obtain ⟨m4, e4⟩ := m3.row_new (.cells #[.pointer (some ⟨pb, po, none⟩)] 67)
  have X := ((e1.trans e2).trans e3).trans e4
  have hl : (loadVar 67 ⟨w.heap.size + 1 + 1 + 1, 0, none⟩).run Tryz.prog (((( w.alloc (.cells #[.pointer (some ⟨b, 0, none⟩)] 69)).alloc (.cells #[.pointer (some ⟨12, 69, none⟩), .pointer (some ⟨w.heap.size, 0, none⟩), .int .u64 150] 93)).alloc (.cells #[.pointer (some ⟨12, 69, none⟩), .pointer (some ⟨w.heap.size, 0, none⟩), .int .u64 150] 93)).alloc (.cells #[.pointer (some ⟨pb, po, none⟩)] 67)) = .ok (.pointer (some ⟨pb, po, none⟩)) (((( w.alloc (.cells #[.pointer (some ⟨b, 0, none⟩)] 69)).alloc (.cells #[.pointer (some ⟨12, 69, none⟩), .pointer (some ⟨w.heap.size, 0, none⟩), .int .u64 150] 93)).alloc (.cells #[.pointer (some ⟨12, 69, none⟩), .pointer (some ⟨w.heap.size, 0, none⟩), .int .u64 150] 93)).alloc (.cells #[.pointer (some ⟨pb, po, none⟩)] 67)) := by
    have hc : (((( w.alloc (.cells #[.pointer (some ⟨b, 0, none⟩)] 69)).alloc (.cells #[.pointer (some ⟨12, 69, none⟩), .pointer (some ⟨w.heap.size, 0, none⟩), .int .u64 150] 93)).alloc (.cells #[.pointer (some ⟨12, 69, none⟩), .pointer (some ⟨w.heap.size, 0, none⟩), .int .u64 150] 93)).alloc (.cells #[.pointer (some ⟨pb, po, none⟩)] 67)).cell? ⟨w.heap.size + 1 + 1 + 1, 0, none⟩ = some (.pointer (some ⟨pb, po, none⟩)) := by
      rw [World.cell?_alloc_at _ _ _ _ (by simp)]; rfl
    simp [loadVar, isAgg, underlying, Tryz.underlying67, hc, Result.andThen]
  obtain ⟨W', hs, hM', X'⟩ := store_ok (P := Tryz.prog) (T := 67) m4 hb (o := 0) (n := 1) (us := [.cptr cs]) (v := (.pointer (some ⟨pb, po, none⟩))) (by kernel_rfl) (RList_cons.2 ⟨_, _, rfl, R.mono X _ _ he, RList_nil.2 rfl⟩) rfl rfl (by simp)
  refine (as_hit (some ⟨pb, po, none⟩) ⟨b, 0, none⟩ w0 (.pointer (some ⟨pb, po, none⟩)) w W' hg ht0 hl hs).mono ?_
  rintro ev w' ⟨rfl, rfl⟩
  exact ⟨_, _, _, _, rfl, ⟨rfl, rfl⟩, R_bool.2 rfl, hM', X.trans X'⟩
end Go.Proofs.YthpnfflkkmpejaaGreatDoor.AsP
namespace Go.Proofs.YthpnfflkkmpejaaGreatDoor.IsP
open Go Go.RowKit Go.Extern.Stop Go.Stop Go.Extern
set_option maxRecDepth 10000
section
variable {P : Program} (w : World)
theorem run_equalIn_iface_int (d : Nat) {ti tn : TypeId} {ms : Array (String × TypeId)} {i : TypeInfo} {k : IntKind} (a b : Int)
    (hi : P.underlying ti = some (.interface ms)) (hn : P.underlying tn = some (.int k)) (hinfo : P.info? tn = some i) (hcomp : i.comparable = true) :
    (Op.equalIn (d + 2) ti (.iface tn (.int k a)) (.iface tn (.int k b))).run P w = .ok (a == b) w := by
  simp [Op.equalIn, run_underlying hi, run_underlying hn, typeInfo, hinfo, hcomp]
theorem run_eql_iface_int {ti tn : TypeId} {ms : Array (String × TypeId)} {i : TypeInfo} {k : IntKind} (a b : Int)
    (hi : P.underlying ti = some (.interface ms)) (hn : P.underlying tn = some (.int k)) (hinfo : P.info? tn = some i) (hcomp : i.comparable = true) :
    (binOp .eql ti (.iface tn (.int k a)) (.iface tn (.int k b))).run P w = .ok (.bool (a == b)) w := by
  simp only [binOp]
  simp [Op.equal, Op.maxDepth, run_equalIn_iface_int w 9998 a b hi hn hinfo hcomp]
end
theorem isTypeOf (v : Value) (w : World) : (Extern.ReflectliteType.typeOf #[.iface 24 v]).run Tryz.prog w = .ok (.iface 117 (.agg #[.pointer (some ⟨12, 24, none⟩)])) w := by kernel_rfl
theorem isComparable (w : World) : ((Extern.ReflectliteType.method fun t => do Extern.Rtype.noPackHeld "Comparable" t; (fun a => Value.bool a.comparable) <$> typeInfo t) #[.agg #[.pointer (some ⟨12, 24, none⟩)]]).run Tryz.prog w = .ok (.bool true) w := by kernel_rfl
theorem isMethodComparable (v : Value) (w : World) : (Go.method 356 117 v "Comparable").run Tryz.prog w = .ok (200, v) w := by kernel_rfl
theorem isComp : (Tryz.prog.info? 24).map (·.comparable) = some true := by kernel_rfl
theorem noIsW (v : Value) (xT : TypeId) (w : World) : (Instr.typeAssert (.iface 67 v) xT 139 true).run Tryz.prog w = .ok (.tuple #[.nilIface, .bool false]) w := run_typeAssert_lacksB Tryz.underlying139 (by kernel_rfl) (by kernel_rfl) v xT w
theorem noIsN (v : Value) (xT : TypeId) (w : World) : (Instr.typeAssert (.iface 24 v) xT 139 true).run Tryz.prog w = .ok (.tuple #[.nilIface, .bool false]) w := run_typeAssert_lacksB Tryz.underlying139 (by kernel_rfl) (by kernel_rfl) v xT w
theorem noUnN (v : Value) (xT : TypeId) (w : World) : (Instr.typeAssert (.iface 24 v) xT 125 true).run Tryz.prog w = .ok (.tuple #[.nilIface, .bool false]) w := run_typeAssert_lacksB Tryz.underlying125 (by kernel_rfl) (by kernel_rfl) v xT w
theorem noUlN (v : Value) (xT : TypeId) (w : World) : (Instr.typeAssert (.iface 24 v) xT 126 true).run Tryz.prog w = .ok (.tuple #[.nilIface, .bool false]) w := run_typeAssert_lacksB Tryz.underlying126 (by kernel_rfl) (by kernel_rfl) v xT w
theorem hasUnwrapW (v : Value) (xT : TypeId) (w : World) : (Instr.typeAssert (.iface 67 v) xT 125 true).run Tryz.prog w = .ok (.tuple #[.iface 67 v, .bool true]) w := run_typeAssert_hasB Tryz.underlying125 (by kernel_rfl) v xT w
theorem methodUnwrap (v : Value) (w : World) : (Go.method 356 67 v "Unwrap").run Tryz.prog w = .ok (193, v) w := by kernel_rfl
theorem is_run (pb po : Nat) (e k : Int) (w : World) (h1 : w.cell? ⟨pb, po + 4, none⟩ = some (.iface 24 (.int .i64 e))) :
    Calls Tryz.prog 39 #[.iface 67 (.pointer (some ⟨pb, po, none⟩)), .iface 24 (.int .i64 k)] w fun r w' => r = .returned (.bool (e == k)) ∧ w' = w := by
  obtain ⟨i, hi, hcmp⟩ := Option.map_eq_some_iff.1 isComp
  have h8 := @run_callFunc_extern Tryz.prog 58 _ Extern.ReflectliteType.typeOf Tryz.func58 (by kernel_rfl) (by kernel_rfl) (by kernel_rfl) (by kernel_rfl)
  have h32 := @run_callFunc_extern Tryz.prog 200 _ (Extern.ReflectliteType.method fun t => do Extern.Rtype.noPackHeld "Comparable" t; pure (.bool (← typeInfo t).comparable)) Tryz.func200 (by kernel_rfl) (by kernel_rfl) (by kernel_rfl) (by kernel_rfl)
  have tT := isTypeOf
  have cT := isComparable
  have mR := isMethodComparable
  have nW := noIsW
  have nN := noIsN
  have uN := noUnN
  have lN := noUlN
  have uW := hasUnwrapW
  have mU := methodUnwrap
  have heq := run_eql_iface_int (P := Tryz.prog) w e k Tryz.underlying48 Tryz.underlying24 hi hcmp
  have hty := run_eql_iface_types (P := Tryz.prog) 67 24 (.pointer (some ⟨pb, po, none⟩)) (.int .i64 k) Tryz.underlying48 (by decide) w
  cases hk : (e == k) <;> rw [hk] at heq <;> clear hk
  · go_enter Tryz.func39, Tryz.ntmps39
    go_wp2
    refine wp_loop_rounds 2 ?_
    rw [rounds_succ]
    go_wp2
    rw [rounds_succ]
    go_wp2
    go_ret
    exact ⟨rfl, rfl⟩
  · go_enter Tryz.func39, Tryz.ntmps39
    go_wp2
    refine wp_loop_rounds 2 ?_
    rw [rounds_succ]
    go_wp2
    rw [rounds_succ]
    go_wp2
    go_ret
    exact ⟨rfl, rfl⟩
open Go.Ab
variable {Γ : Nat → AV}
theorem is_ok (c0 c1 c2 c3 : AV) (e k : Int) : APure Tryz.prog Γ 39 [.iface 67 (.cptr [c0, c1, c2, c3, .iface 24 (.int .i64 e)]), .iface 24 (.int .i64 k)] fun v => v = .bool (e == k) := by
  refine fun s => ⟨fun G w vs hm hr => ?_⟩
  obtain ⟨u, us, rfl, hu, hus⟩ := RList_cons.1 hr
  obtain ⟨u1, us1, rfl, hu1, hus1⟩ := RList_cons.1 hus
  rw [RList_nil] at hus1; subst hus1
  obtain ⟨x, rfl, hx⟩ := R_iface.1 hu
  obtain ⟨p, rfl, hp⟩ := R_iface.1 hu1
  rw [R_int] at hp; subst hp
  obtain ⟨pb, po, rfl, hc⟩ := R_cptr.1 hx
  unfold RCells at hc
  obtain ⟨_, _, hc⟩ := hc
  unfold RCells at hc
  obtain ⟨_, _, hc⟩ := hc
  unfold RCells at hc
  obtain ⟨_, _, hc⟩ := hc
  unfold RCells at hc
  obtain ⟨_, _, hc⟩ := hc
  unfold RCells at hc
  obtain ⟨_, ⟨y, hy, hr1⟩, _⟩ := hc
  obtain ⟨z, rfl, hz⟩ := R_iface.1 hr1
  rw [R_int] at hz; subst hz
  refine (is_run pb po e k w hy).mono ?_
  rintro r w' ⟨rfl, rfl⟩
  exact ⟨_, _, s, G, rfl, ⟨rfl, rfl⟩, R_bool.2 rfl, hm, Ext.refl _ _⟩
end Go.Proofs.YthpnfflkkmpejaaGreatDoor.IsP
namespace Go.Proofs.YthpnfflkkmpejaaGreatDoor.Pa
open Go Go.Ab Go.RowKit Go.Proofs.YthpnfflkkmpejaaGreatDoor.Lx
variable {Γ : Nat → AV}
theorem _root_.Go.Ab.Stays.of_sub {B : Nat → Prop} {s s' : Sto} (h : Sub s s') : Stays B s s' := ⟨fun c z _ hz => h.bx c z hz, h.lv, fun _ hs _ => hs.trans h⟩
/-- Where a box of the caller's is written. -/
theorem Pst.reset {s0 s : Sto} {bp bl : Nat} {L : List Tok} {a : Nat} {o : List Ex} {d : List Int} {k : Int} (hP : Pst s0 s bp bl L a o d k) {b : Nat} (h1 : b ≠ bp) (h2 : b ≠ bl) (T : TypeId) (cs : List AV) : Pst (s0.set b T cs) (s.set b T cs) bp bl L a o d k := by
  obtain ⟨np, nl, ne, ⟨t1, t2, e1, e2, e3, e4⟩, pl⟩ := hP
  have hs : Sub (s0.set b T cs) (s.set b T cs) := ⟨fun c x hc => (by
    by_cases hcb : c = b
    · subst hcb; rw [set_bx_same] at hc ⊢; exact hc
    · rw [set_bx_other hcb] at hc ⊢; exact e2.sub.bx c x hc), fun t e m hx => e2.sub.lv t e m (by simpa [Sto.set] using hx)⟩
  exact ⟨(set_bx_other h1.symm).trans np, (set_bx_other h2.symm).trans nl, ne, ⟨t1, t2, (set_bx_other h1.symm).trans e1, ⟨hs, e2.own.imp id fun h => ⟨h.1, h.2.1, fun e m hx => h.2.2 e m (by simpa [Sto.set] using hx)⟩⟩, ⟨hs, e3.own.imp id fun h => ⟨h.1, h.2.1, fun e m hx => h.2.2 e m (by simpa [Sto.set] using hx)⟩⟩, e4⟩, (set_bx_other h2.symm).trans pl⟩
attribute [local irreducible] APure Sto.set Sto.grow
set_option maxRecDepth 10000
set_option maxHeartbeats 1000000
theorem _root_.Go.Ab.Stays.none1 {s s' : Sto} {bc b : Nat} {z : TypeId × List AV} (h : Stays (B1 bc) s s') (hc : s'.bx bc = some z) (hb : s'.bx b = none) : s.bx b = none := by
  cases hz : s.bx b with
  | none => rfl
  | some z =>
    have hne : b ≠ bc := by rintro rfl; rw [hc] at hb; cases hb
    rw [h.bx b z (fun h => hne h) hz] at hb; cases hb
/-- The number that is told of what is wrong. -/
def errF (e : Int) : Int := if e = 13 then 13 else if e = 5 then 5 else 16
theorem errno_ok (t : Tok) (e : Int) : APure Tryz.prog Γ 21 [errA t e] fun v => v = .int .i64 (errF e) := by
  obtain ⟨t1, t2, t3, t4⟩ := t
  simp only [errA, tokA, List.cons_append, List.nil_append]
  have h13 : e ≠ 13 → (e == 13) = false := fun h => by simp [h]
  have h5 : e ≠ 5 → (e == 5) = false := fun h => by simp [h]
  refine APure.of_awp Tryz.func21 rfl (Nat.le_of_ble_eq_true (by kernel_rfl)) (by kernel_rfl) ?_
  intro s
  conv => whnf
  repeat' ((first | (exfalso; first | omega | exact (by assumption : ¬ True) trivial | fail) | refine ⟨Sub.refl _, ?_⟩ | (refine brA_split (fun h => ?_) (fun h => ?_) <;> (try rw [h]) <;> (try simp only [bS, ↓reduceIte] at h)) | refine getB_same ?_ | refine AWp.anyA ?_ | refine and_a ?_ | fail) <;> (conv => whnf))
  refine AWp.loopA [7] [8, 9, 10, 4, 11, 12, 13, 14, 15, 2, 16] (fun i : Nat => [.int .i64 (i : Int)]) (fun i s' => s' = s ∧ (i = 0 ∨ (i = 1 ∧ e ≠ 13) ∨ (i = 2 ∧ e ≠ 13 ∧ e ≠ 5))) (fun i => 2 - i) (0) (by kernel_rfl) (eqa) ?_ ?_
  · exact ⟨rfl, .inl rfl⟩
  · rintro x i s' ⟨hs', hi⟩
    subst s'
    rcases hi with rfl | ⟨rfl, h1⟩ | ⟨rfl, h1, h2⟩
    · show awp _ _ _ _ _ (updL _ _ [.int .i64 ((0 : Nat) : Int)]) _
      conv => whnf
      by_cases h0 : e = 13
      · subst h0
        repeat' ((first | (exfalso; first | omega | exact (by assumption : ¬ True) trivial | fail) | refine ⟨Sub.refl _, ?_⟩ | (refine brA_split (fun h => ?_) (fun h => ?_) <;> (try rw [h]) <;> (try simp only [bS, ↓reduceIte] at h)) | (refine ACalls.pure' ?_ (IsP.is_ok _ _ _ _ 13 13); rintro _ rfl) | refine DCall.pure ?_ (IsP.is_ok _ _ _ _ 13 13) | refine getB_same ?_ | refine AWp.anyA ?_ | refine and_a ?_ | fail) <;> (conv => whnf))
        rfl
      · have hi := IsP.is_ok (Γ := Γ) (.int .i64 t1) (.str t2) (.int .i64 t3) (.int .i64 t4) e 13
        rw [h13 h0] at hi
        repeat' ((first | (exfalso; first | omega | exact (by assumption : ¬ True) trivial | fail) | refine ⟨Sub.refl _, ?_⟩ | (refine brA_split (fun h => ?_) (fun h => ?_) <;> (try rw [h]) <;> (try simp only [bS, ↓reduceIte] at h)) | (refine ACalls.pure' ?_ (hi); rintro _ rfl) | refine DCall.pure ?_ (hi) | refine getB_same ?_ | refine AWp.anyA ?_ | refine and_a ?_ | fail) <;> (conv => whnf))
        exact ⟨1, eqa, samea, ⟨rfl, .inr (.inl ⟨rfl, h0⟩)⟩, by omega⟩
    · show awp _ _ _ _ _ (updL _ _ [.int .i64 ((1 : Nat) : Int)]) _
      conv => whnf
      by_cases h0 : e = 5
      · subst h0
        repeat' ((first | (exfalso; first | omega | exact (by assumption : ¬ True) trivial | fail) | refine ⟨Sub.refl _, ?_⟩ | (refine brA_split (fun h => ?_) (fun h => ?_) <;> (try rw [h]) <;> (try simp only [bS, ↓reduceIte] at h)) | (refine ACalls.pure' ?_ (IsP.is_ok _ _ _ _ 5 5); rintro _ rfl) | refine DCall.pure ?_ (IsP.is_ok _ _ _ _ 5 5) | refine getB_same ?_ | refine AWp.anyA ?_ | refine and_a ?_ | fail) <;> (conv => whnf))
        rfl
      · have hi := IsP.is_ok (Γ := Γ) (.int .i64 t1) (.str t2) (.int .i64 t3) (.int .i64 t4) e 5
        rw [h5 h0] at hi
        repeat' ((first | (exfalso; first | omega | exact (by assumption : ¬ True) trivial | fail) | refine ⟨Sub.refl _, ?_⟩ | (refine brA_split (fun h => ?_) (fun h => ?_) <;> (try rw [h]) <;> (try simp only [bS, ↓reduceIte] at h)) | (refine ACalls.pure' ?_ (hi); rintro _ rfl) | refine DCall.pure ?_ (hi) | refine getB_same ?_ | refine AWp.anyA ?_ | refine and_a ?_ | fail) <;> (conv => whnf))
        exact ⟨2, eqa, samea, ⟨rfl, .inr (.inr ⟨rfl, h1, h0⟩)⟩, by omega⟩
    · show awp _ _ _ _ _ (updL _ _ [.int .i64 ((2 : Nat) : Int)]) _
      conv => whnf
      repeat' ((first | (exfalso; first | omega | exact (by assumption : ¬ True) trivial | fail) | refine ⟨Sub.refl _, ?_⟩ | (refine brA_split (fun h => ?_) (fun h => ?_) <;> (try rw [h]) <;> (try simp only [bS, ↓reduceIte] at h)) | refine getB_same ?_ | refine AWp.anyA ?_ | refine and_a ?_ | fail) <;> (conv => whnf))
      rw [errF, if_neg h1, if_neg h2]
      rfl
/-- What a text is read as, by what is read of its tokens. -/
def runR {α : Type} (S : List UInt8) (body : List Tok → Res α) : Res α :=
  match allT S with
  | .error x => .error x
  | .ok L => match body L with
    | .error x => .error (errF x.1, x.2.1, x.2.2)
    | .ok o => .ok o
/-- The expression of tokens. -/
def exprR (L : List Tok) : Res (List Ex) :=
  match ev L (fuelN L) 0 ⟨0, [], [], 0⟩ with
  | .error x => .error x
  | .ok st => if st.a < L.length then failF L st.a 16 else .ok st.o
/-- What a reader of tokens hands back, and what it leaves in its box. -/
def BodyR {α : Type} (K : α → List AV → Prop) (r : Res α) (v : AV) (cs : List AV) : Prop :=
  match r with
  | .error x => ErrV x v
  | .ok o => v = .nilIface ∧ K o cs
def RunR {α : Type} (K : α → List AV → Prop) (r : Res α) (v : AV) (cs : List AV) : Prop :=
  match r with
  | .error x => v = .agg [.int .i64 x.1, .int .i64 x.2.1, .int .i64 x.2.2]
  | .ok o => v = .agg [.int .i64 0, .int .i64 0, .int .i64 0] ∧ K o cs
def ExprK (o : List Ex) (cs : List AV) : Prop := ∃ t, cs = [.slice t (exsA o)]
theorem exprBody_ok (hR : Nu.ErrR Γ) {L : List Tok} (hL : L.length ≤ 90000) (hT : ∀ i, (peekF L i).2.1.length ≤ 5000) (bc : Nat) : ∀ (s0 s : Sto) (bp bl : Nat) (c : AV), Pst s0 s bp bl L 0 [] [] 0 → s0.bx bc = some (23, [c]) → ACalls Tryz.prog Γ 10 [.ptr (some ⟨bp, 0, none⟩), .ptr (some ⟨bc, 0, none⟩)] s fun v s' => Stays (B1 bc) s0 s' ∧ ∃ cs', s'.bx bc = some (23, cs') ∧ BodyR ExprK (exprR L) v cs' := by
  intro s0 s bp bl c hP hb
  have hok : Okay L ⟨0, [], [], 0⟩ := ⟨Nat.zero_le _, Nat.zero_le _, rfl, by decide⟩
  have he := (levels hR hL hT (fuelN L)).1 _ _ _ _ ⟨0, [], [], 0⟩ hP hok (enough_all L _)
  have hg := ev_good (fuelN L) 0 ⟨0, [], [], 0⟩ (by omega) hok (enough_all L _)
  refine ACalls.of_awp Tryz.func10 rfl (Nat.le_of_ble_eq_true (by kernel_rfl)) (awp_ok _ (by kernel_rfl) ?_)
  conv => whnf
  repeat' ((first | (exfalso; first | omega | exact (by assumption : ¬ True) trivial | fail) | refine ⟨Sub.refl _, ?_⟩ | (refine brA_split (fun h => ?_) (fun h => ?_) <;> (try rw [h]) <;> (try simp only [bS, ↓reduceIte] at h)) | (refine ACalls.by he ?_; intro v s1 hv) | refine getB_same ?_ | refine AWp.anyA ?_ | refine and_a ?_ | fail) <;> (conv => whnf))
  unfold exprR
  rcases hr : ev L (fuelN L) 0 ⟨0, [], [], 0⟩ with x | x
  · rw [hr] at hv
    obtain ⟨⟨kd, tx, rfl⟩, a', o', d', k', hP4⟩ := hv
    conv => whnf
    repeat' ((first | (exfalso; first | omega | exact (by assumption : ¬ True) trivial | fail) | refine ⟨Sub.refl _, ?_⟩ | (refine brA_split (fun h => ?_) (fun h => ?_) <;> (try rw [h]) <;> (try simp only [bS, ↓reduceIte] at h)) | refine getB_same ?_ | refine AWp.anyA ?_ | refine and_a ?_ | fail) <;> (conv => whnf))
    exact ⟨_, Sub.refl _, Stays.of_sub hP4.sub, _, hP4.sub.bx _ _ hb, ⟨kd, tx, rfl⟩⟩
  · rw [hr] at hv
    obtain ⟨rfl, hP4⟩ := hv
    obtain ⟨g1, g2⟩ := hg x hr
    have hxa := g1.ha
    obtain ⟨u1, u2, hb4, _⟩ := hP4.pr
    have hb5 := hP4.sub.bx _ _ hb
    have n1 : bp ≠ bc := by rintro rfl; rw [hP4.np] at hb; cases hb
    have n2 : bl ≠ bc := by rintro rfl; rw [hP4.nl] at hb; cases hb
    have htl := toksA_len L
    have hP6 := hP4.reset n1.symm n2.symm 23 [.slice u1 (exsA x.o)]
    have hst : Stays (B1 bc) s0 (s1.set bc 23 [.slice u1 (exsA x.o)]) := Stays.set (B := B1 bc) (b := bc) (Stays.of_sub hP4.sub) rfl _ _
    have hfl := fail_ok (Γ := Γ) hP6 (by omega) (by omega) 16
    conv => whnf
    repeat' ((first | (exfalso; first | omega | exact (by assumption : ¬ True) trivial | fail) | refine ⟨Sub.refl _, ?_⟩ | (refine brA_split (fun h => ?_) (fun h => ?_) <;> (try rw [h]) <;> (try simp only [bS, ↓reduceIte] at h)) | (refine getB_of hb4 ?_) | (refine getB_of hb5 ?_) | (refine getB_of ((set_bx_other n1).trans hb4) ?_) | (refine getB_of ((set_bx_other n2).trans hP4.pl) ?_) | (refine ACalls.by hfl ?_; rintro _ s5 ⟨rfl, hs5⟩; subst s5) | refine getB_same ?_ | refine AWp.anyA ?_ | refine and_a ?_ | fail) <;> (conv => whnf))
    · refine ⟨_, Sub.refl _, hst, _, set_bx_same, ?_⟩
      dsimp only
      rw [if_pos (by omega)]
      exact errV_fail L x.a 16
    · refine ⟨_, Sub.refl _, hst, _, set_bx_same, ?_⟩
      dsimp only
      rw [if_neg (by omega)]
      exact ⟨rfl, u1, rfl⟩
theorem run_ok {α : Type} (K : α → List AV → Prop) (hQ : Qu.Tabs Γ) (hW : Sc.Wds Γ) (hO : AsO.ErrT Γ) (hE : AsP.ErrT Γ) {n : FuncId} (hn : callT Tryz.prog n = true) {bc : Nat} {Tc : TypeId} (S : List UInt8) (hS : S.length ≤ 1048576) (r : List Tok → Res α) (hB : ∀ L, allT S = .ok L → ∀ (s0 s : Sto) (bp bl : Nat) (c : AV), Pst s0 s bp bl L 0 [] [] 0 → s0.bx bc = some (Tc, [c]) → ACalls Tryz.prog Γ n [.ptr (some ⟨bp, 0, none⟩), .ptr (some ⟨bc, 0, none⟩)] s fun v s' => Stays (B1 bc) s0 s' ∧ ∃ cs', s'.bx bc = some (Tc, cs') ∧ BodyR K (r L) v cs') {s : Sto} {c : AV} (hb : s.bx bc = some (Tc, [c])) :
    ACalls Tryz.prog Γ 9 [.str S, .func (.func n) [] [.ptr (some ⟨bc, 0, none⟩)]] s fun v s' => Stays (B1 bc) s s' ∧ ∃ cs', s'.bx bc = some (Tc, cs') ∧ RunR K (runR S r) v cs' := by
  have hl := progAll_ok hQ hW hO S hS
  rcases hx : allT S with ⟨e, a, b⟩ | L
  · rw [hx] at hl
    have he0 : e ≠ 0 := by
      unfold allT at hx
      split at hx
      · cases hx; decide
      · exact lexF_err _ _ _ _ _ _ hx
    have hrr : runR S r = .error (e, a, b) := by unfold runR; rw [hx]
    rw [hrr]
    simp only [allA] at hl
    refine ACalls.of_awp Tryz.func9 rfl (Nat.le_of_ble_eq_true (by kernel_rfl)) (awp_ok _ (by kernel_rfl) ?_)
    conv => whnf
    intro b4 hb4
    have m4 : bc ≠ b4 := ne_of_none hb hb4
    conv => whnf
    repeat' ((first | (exfalso; first | omega | exact (by assumption : ¬ True) trivial | fail) | refine ⟨Sub.refl _, ?_⟩ | (refine brA_split (fun h => ?_) (fun h => ?_) <;> (try rw [h]) <;> (try simp only [bS, ↓reduceIte] at h)) | (refine ACalls.pure' ?_ (hl); rintro _ rfl) | refine DCall.pure ?_ (hl) | refine getB_same ?_ | refine AWp.anyA ?_ | refine and_a ?_ | fail) <;> (conv => whnf))
    intro b6 hb6
    have n_b4_b6 : b4 ≠ b6 := ne_of_none bxa hb6
    have n_b6_b4 := n_b4_b6.symm
    conv => whnf
    repeat' ((first | (exfalso; first | omega | exact (by assumption : ¬ True) trivial | fail) | refine ⟨Sub.refl _, ?_⟩ | (refine brA_split (fun h => ?_) (fun h => ?_) <;> (try rw [h]) <;> (try simp only [bS, ↓reduceIte] at h)) | refine getB_a ?_ | (refine EqAgg.of grdFail planFail ?_) | refine getB_same ?_ | refine AWp.anyA ?_ | refine and_a ?_ | fail) <;> (conv => whnf))
    · have k6 := ((Sub.refl s).set hb4 _ _).none hb6
      have m6 : bc ≠ b6 := ne_of_none hb k6
      exact ⟨_, Sub.refl _, Stays.of_sub (((((Sub.refl _).set hb4 _ _).set k6 _ _).set k6 _ _).set hb4 _ _), [c], bxa, rfl⟩
    · exfalso; revert h; simp [he0]
  · rw [hx] at hl
    simp only [allA] at hl
    refine ACalls.of_awp Tryz.func9 rfl (Nat.le_of_ble_eq_true (by kernel_rfl)) (awp_ok _ (by kernel_rfl) ?_)
    conv => whnf
    intro b4 hb4
    have m4 : bc ≠ b4 := ne_of_none hb hb4
    conv => whnf
    repeat' ((first | (exfalso; first | omega | exact (by assumption : ¬ True) trivial | fail) | refine ⟨Sub.refl _, ?_⟩ | (refine brA_split (fun h => ?_) (fun h => ?_) <;> (try rw [h]) <;> (try simp only [bS, ↓reduceIte] at h)) | (refine ACalls.pure' ?_ (hl); rintro _ rfl) | refine DCall.pure ?_ (hl) | refine getB_same ?_ | refine AWp.anyA ?_ | refine and_a ?_ | fail) <;> (conv => whnf))
    intro b6 hb6
    have n_b4_b6 : b4 ≠ b6 := ne_of_none bxa hb6
    have n_b6_b4 := n_b4_b6.symm
    conv => whnf
    repeat' ((first | (exfalso; first | omega | exact (by assumption : ¬ True) trivial | fail) | refine ⟨Sub.refl _, ?_⟩ | (refine brA_split (fun h => ?_) (fun h => ?_) <;> (try rw [h]) <;> (try simp only [bS, ↓reduceIte] at h)) | refine getB_a ?_ | (refine EqAgg.of grdFail planFail ?_) | refine getB_same ?_ | refine AWp.anyA ?_ | refine and_a ?_ | fail) <;> (conv => whnf))
    all_goals first | (exfalso; revert h; simp; done) | skip
    have k6 := ((Sub.refl s).set hb4 _ _).none hb6
    have m6 : bc ≠ b6 := ne_of_none hb k6
    intro bl hbl
    have n_b4_bl : b4 ≠ bl := ne_of_none bxa hbl
    have n_bl_b4 := n_b4_bl.symm
    have n_b6_bl : b6 ≠ bl := ne_of_none bxa hbl
    have n_bl_b6 := n_b6_bl.symm
    have n_bc_bl : bc ≠ bl := ne_of_none bxa hbl
    have n_bl_bc := n_bc_bl.symm
    conv => whnf
    repeat' ((first | (exfalso; first | omega | exact (by assumption : ¬ True) trivial | fail) | refine ⟨Sub.refl _, ?_⟩ | (refine brA_split (fun h => ?_) (fun h => ?_) <;> (try rw [h]) <;> (try simp only [bS, ↓reduceIte] at h)) | refine getB_a ?_ | refine getB_same ?_ | refine AWp.anyA ?_ | refine and_a ?_ | fail) <;> (conv => whnf))
    intro bp hbp
    have n_b4_bp : b4 ≠ bp := ne_of_none bxa hbp
    have n_bp_b4 := n_b4_bp.symm
    have n_b6_bp : b6 ≠ bp := ne_of_none bxa hbp
    have n_bp_b6 := n_b6_bp.symm
    have n_bc_bp : bc ≠ bp := ne_of_none bxa hbp
    have n_bp_bc := n_bc_bp.symm
    have n_bl_bp : bl ≠ bp := ne_of_none bxa hbp
    have n_bp_bl := n_bl_bp.symm
    conv => whnf
    repeat' ((first | (exfalso; first | omega | exact (by assumption : ¬ True) trivial | fail) | refine ⟨Sub.refl _, ?_⟩ | (refine brA_split (fun h => ?_) (fun h => ?_) <;> (try rw [h]) <;> (try simp only [bS, ↓reduceIte] at h)) | refine getB_a ?_ | refine getB_same ?_ | refine AWp.anyA ?_ | refine and_a ?_ | fail) <;> (conv => whnf))
    rotate_left
    · rw [hn] at h; cases h
    have hsq : Sub s (((s.set b4 26 [.int .i64 0, .int .i64 0, .int .i64 0]).set b6 26 [.int .i64 0, .int .i64 0, .int .i64 0]).set b6 26 [.int .i64 0, .int .i64 0, .int .i64 0]) := (((Sub.refl _).set hb4 _ _).set k6 _ _).set k6 _ _
    have hq4 : (((s.set b4 26 [.int .i64 0, .int .i64 0, .int .i64 0]).set b6 26 [.int .i64 0, .int .i64 0, .int .i64 0]).set b6 26 [.int .i64 0, .int .i64 0, .int .i64 0]).bx b4 = some (26, [.int .i64 0, .int .i64 0, .int .i64 0]) := bxa
    generalize ((s.set b4 26 [.int .i64 0, .int .i64 0, .int .i64 0]).set b6 26 [.int .i64 0, .int .i64 0, .int .i64 0]).set b6 26 [.int .i64 0, .int .i64 0, .int .i64 0] = sq at *
    have kbp : sq.bx bp = none := ((Sub.refl sq).set hbl _ _).none hbp
    have hP : Pst sq ((sq.set bl 56 [.slice 0 (toksA L), .int .i64 0]).set bp 53 [.ptr (some ⟨bl, 0, none⟩), .slice 1 [], .slice 1 [], .int .i64 0]) bp bl L 0 [] [] 0 :=
      ⟨kbp, hbl, n_bp_bl, ⟨1, 1, set_bx_same, Own.start (((Sub.refl _).set hbl _ _).set kbp _ _) _ _, Own.start (((Sub.refl _).set hbl _ _).set kbp _ _) _ _, fun _ => rfl⟩, (set_bx_other n_bl_bp).trans set_bx_same⟩
    refine ACalls.by (hB L hx _ _ _ _ _ hP (hsq.bx _ _ hb)) ?_
    rintro v s5 ⟨hst, cs', hbc, hv⟩
    have hst2 : Stays (B1 bc) s s5 := (Stays.of_sub hsq).trans hst
    have h54 := hst.bx b4 _ (fun h => m4 (Eq.symm h)) hq4
    rcases hrl : r L with x | c0
    · rw [hrl] at hv
      rw [show runR S r = .error (errF x.1, x.2.1, x.2.2) by unfold runR; rw [hx]; dsimp only; rw [hrl]]
      obtain ⟨kd, tx, rfl⟩ := hv
      conv => whnf
      repeat' ((first | (exfalso; first | omega | exact (by assumption : ¬ True) trivial | fail) | refine ⟨Sub.refl _, ?_⟩ | (refine brA_split (fun h => ?_) (fun h => ?_) <;> (try rw [h]) <;> (try simp only [bS, ↓reduceIte] at h)) | refine getB_same ?_ | refine AWp.anyA ?_ | refine and_a ?_ | fail) <;> (conv => whnf))
      intro b8 hb8
      have k8 := hst2.none1 hbc hb8
      have n_b4_b8 : b4 ≠ b8 := ne_of_none bxa hb8
      have n_b8_b4 := n_b4_b8.symm
      have n_bc_b8 : bc ≠ b8 := ne_of_none bxa hb8
      have n_b8_bc := n_bc_b8.symm
      conv => whnf
      repeat' ((first | (exfalso; first | omega | exact (by assumption : ¬ True) trivial | fail) | refine ⟨Sub.refl _, ?_⟩ | (refine brA_split (fun h => ?_) (fun h => ?_) <;> (try rw [h]) <;> (try simp only [bS, ↓reduceIte] at h)) | refine getB_a ?_ | (refine ACalls.by (AsP.asHit_ok hE _ set_bx_same) ?_; rintro _ _ ⟨rfl, rfl⟩) | (refine ACalls.pure' ?_ (errno_ok (kd, tx, x.2.1, x.2.2) x.1); rintro _ rfl) | refine DCall.pure ?_ (errno_ok (kd, tx, x.2.1, x.2.2) x.1) | refine getB_same ?_ | refine AWp.anyA ?_ | refine and_a ?_ | fail) <;> (conv => whnf))
      exact ⟨_, Sub.refl _, ((hst2.fresh k8 _ _).fresh k8 _ _).fresh hb4 _ _, cs', bxa, rfl⟩
    · rw [hrl] at hv
      rw [show runR S r = .ok c0 by unfold runR; rw [hx]; dsimp only; rw [hrl]]
      obtain ⟨rfl, hv⟩ := hv
      conv => whnf
      repeat' ((first | (exfalso; first | omega | exact (by assumption : ¬ True) trivial | fail) | refine ⟨Sub.refl _, ?_⟩ | (refine brA_split (fun h => ?_) (fun h => ?_) <;> (try rw [h]) <;> (try simp only [bS, ↓reduceIte] at h)) | refine getB_same ?_ | refine AWp.anyA ?_ | refine and_a ?_ | fail) <;> (conv => whnf))
      intro b8 hb8
      have k8 := hst2.none1 hbc hb8
      have n_b4_b8 : b4 ≠ b8 := ne_of_none bxa hb8
      have n_b8_b4 := n_b4_b8.symm
      have n_bc_b8 : bc ≠ b8 := ne_of_none bxa hb8
      have n_b8_bc := n_bc_b8.symm
      conv => whnf
      repeat' ((first | (exfalso; first | omega | exact (by assumption : ¬ True) trivial | fail) | refine ⟨Sub.refl _, ?_⟩ | (refine brA_split (fun h => ?_) (fun h => ?_) <;> (try rw [h]) <;> (try simp only [bS, ↓reduceIte] at h)) | refine getB_a ?_ | (refine ACalls.pure' ?_ (AsP.asNil_ok _); rintro _ rfl) | refine DCall.pure ?_ (AsP.asNil_ok _) | refine getB_same ?_ | refine AWp.anyA ?_ | refine and_a ?_ | fail) <;> (conv => whnf))
      exact ⟨_, Sub.refl _, (hst2.fresh k8 _ _).fresh hb4 _ _, cs', bxa, rfl, hv⟩
def exprA : Res (List Ex) → AV
  | .ok o => .tuple [.slice 0 (exsA o), .agg [.int .i64 0, .int .i64 0, .int .i64 0]]
  | .error (e, a, b) => .tuple [.slice 0 [], .agg [.int .i64 e, .int .i64 a, .int .i64 b]]
theorem errF_ne (e : Int) : errF e ≠ 0 := by unfold errF; split; · decide
                                             · split <;> decide
theorem allT_err {S : List UInt8} {e a b : Int} (h : allT S = .error (e, a, b)) : e ≠ 0 := by
  unfold allT at h
  split at h
  · cases h; decide
  · exact lexF_err _ _ _ _ _ _ h
theorem runR_err {α : Type} {S : List UInt8} {r : List Tok → Res α} {e a b : Int} (h : runR S r = .error (e, a, b)) : e ≠ 0 := by
  unfold runR at h
  split at h
  · rename_i x hx
    injection h with h
    subst h
    exact allT_err hx
  · split at h
    · injection h with h
      simp only [Prod.mk.injEq] at h
      rw [← h.1]
      exact errF_ne _
    · cases h
theorem expr_top (hQ : Qu.Tabs Γ) (hW : Sc.Wds Γ) (hO : AsO.ErrT Γ) (hE : AsP.ErrT Γ) (hR : Nu.ErrR Γ) (S : List UInt8) (hS : S.length ≤ 65536) (hT : ∀ L, allT S = .ok L → ∀ i, (peekF L i).2.1.length ≤ 5000) :
    APure Tryz.prog Γ 6 [.str S] fun v => v = exprA (runR S exprR) := by
  have hlen : ∀ L, allT S = .ok L → L.length ≤ 90000 := fun L hL => by
    unfold allT at hL
    split at hL
    · cases hL
    · have := lexF_len _ _ _ _ hL; omega
  have hrun := fun {s : Sto} {bc : Nat} {c : AV} (hb : s.bx bc = some (23, [c])) => run_ok (Γ := Γ) ExprK hQ hW hO hE (n := 10) (by kernel_rfl) S (by omega) exprR (fun L hL => exprBody_ok hR (hlen L hL) (hT L hL) bc) hb
  refine APure.fgt fun s => ?_
  refine ACalls.of_awp Tryz.func6 rfl (Nat.le_of_ble_eq_true (by kernel_rfl)) (awp_ok _ (by kernel_rfl) ?_)
  conv => whnf
  intro b3 hb3
  conv => whnf
  intro b4 hb4
  have n_b3_b4 : b3 ≠ b4 := ne_of_none bxa hb4
  have n_b4_b3 := n_b3_b4.symm
  conv => whnf
  have k4 := ((Sub.refl s).set hb3 26 [.int .i64 0, .int .i64 0, .int .i64 0]).none hb4
  repeat' ((first | (exfalso; first | omega | exact (by assumption : ¬ True) trivial | fail) | refine ⟨Sub.refl _, ?_⟩ | (refine brA_split (fun h => ?_) (fun h => ?_) <;> (try rw [h]) <;> (try simp only [bS, ↓reduceIte] at h)) | (refine ACalls.by (hrun set_bx_same) ?_; rintro v s1 ⟨hst, cs, hbc, hv⟩) | refine getB_same ?_ | refine AWp.anyA ?_ | refine and_a ?_ | fail) <;> (conv => whnf))
  have h13 := hst.bx b3 _ (fun h => n_b3_b4 h) bxa
  have hb41 : ∀ s0, Sub s0 s → s0.bx b4 = none → s0.bx b3 = none → Sub s0 s1 := fun s0 h1 h2 h3 => hst.sub s0 ((h1.set h3 _ _).set h2 _ _) (fun c hc => by rw [show c = b4 from hc]; exact h2)
  rcases hr : runR S exprR with ⟨e, a, b⟩ | o
  · rw [hr] at hv
    have he0 := runR_err hr
    replace hv : v = .agg [.int .i64 e, .int .i64 a, .int .i64 b] := hv
    subst hv
    conv => whnf
    repeat' ((first | (exfalso; first | omega | exact (by assumption : ¬ True) trivial | fail) | refine ⟨Sub.refl _, ?_⟩ | (refine brA_split (fun h => ?_) (fun h => ?_) <;> (try rw [h]) <;> (try simp only [bS, ↓reduceIte] at h)) | refine getB_same ?_ | refine AWp.anyA ?_ | refine and_a ?_ | fail) <;> (conv => whnf))
    intro b5 hb5
    have k5 : s.bx b5 = none := ((Sub.refl s).set hb3 _ _ |>.set k4 _ _).none (hst.none1 hbc hb5)
    have n_b3_b5 : b3 ≠ b5 := ne_of_none bxa hb5
    have n_b5_b3 := n_b3_b5.symm
    have n_b4_b5 : b4 ≠ b5 := ne_of_none bxa hb5
    have n_b5_b4 := n_b4_b5.symm
    conv => whnf
    repeat' ((first | (exfalso; first | omega | exact (by assumption : ¬ True) trivial | fail) | refine ⟨Sub.refl _, ?_⟩ | (refine brA_split (fun h => ?_) (fun h => ?_) <;> (try rw [h]) <;> (try simp only [bS, ↓reduceIte] at h)) | refine getB_a ?_ | (refine EqAgg.of grdFail planFail ?_) | refine getB_same ?_ | refine AWp.anyA ?_ | refine and_a ?_ | fail) <;> (conv => whnf))
    · exact ⟨_, Sub.refl _, rfl, (((hb41 s (Sub.refl _) k4 hb3).set k5 _ _).set k5 _ _).set hb3 _ _⟩
    · exfalso; revert h; simp [he0]
  · rw [hr] at hv
    obtain ⟨rfl, t5, rfl⟩ := hv
    conv => whnf
    repeat' ((first | (exfalso; first | omega | exact (by assumption : ¬ True) trivial | fail) | refine ⟨Sub.refl _, ?_⟩ | (refine brA_split (fun h => ?_) (fun h => ?_) <;> (try rw [h]) <;> (try simp only [bS, ↓reduceIte] at h)) | refine getB_same ?_ | refine AWp.anyA ?_ | refine and_a ?_ | fail) <;> (conv => whnf))
    intro b5 hb5
    have k5 : s.bx b5 = none := ((Sub.refl s).set hb3 _ _ |>.set k4 _ _).none (hst.none1 hbc hb5)
    have n_b3_b5 : b3 ≠ b5 := ne_of_none bxa hb5
    have n_b5_b3 := n_b3_b5.symm
    have n_b4_b5 : b4 ≠ b5 := ne_of_none bxa hb5
    have n_b5_b4 := n_b4_b5.symm
    conv => whnf
    repeat' ((first | (exfalso; first | omega | exact (by assumption : ¬ True) trivial | fail) | refine ⟨Sub.refl _, ?_⟩ | (refine brA_split (fun h => ?_) (fun h => ?_) <;> (try rw [h]) <;> (try simp only [bS, ↓reduceIte] at h)) | refine getB_a ?_ | (refine EqAgg.of grdFail planFail ?_) | refine getB_same ?_ | refine AWp.anyA ?_ | refine and_a ?_ | fail) <;> (conv => whnf))
    all_goals first | (exfalso; revert h; simp; done) | skip
    exact ⟨_, Sub.refl _, by simp only [tupA, fg, fgL, fgE_exs, exprA], (((hb41 s (Sub.refl _) k4 hb3).set k5 _ _).set k5 _ _).set hb3 _ _⟩
end Go.Proofs.YthpnfflkkmpejaaGreatDoor.Pa
namespace Go.Proofs.YthpnfflkkmpejaaGreatDoor.Pa
open Go Go.Ab Go.RowKit Go.Proofs.YthpnfflkkmpejaaGreatDoor.Lx
variable {Γ : Nat → AV}
attribute [local irreducible] APure Sto.set Sto.grow
set_option maxRecDepth 10000
set_option maxHeartbeats 4000000
/-- What the document hands back, by what is read. -/
def RR (r : Res St) (o : List Ex) (p : Pl) : Prop :=
  match r with
  | .ok x => o = x.o ∧ p = alv x.a x.k
  | .error e => p.e = errF e.1 ∧ p.ln = e.2.1 ∧ p.cl = e.2.2
def RLev (Γ : Nat → AV) (L : List Tok) (n : FuncId) (f lv : Nat) : Prop :=
  ∀ (st : St) (tk : Nat), Okay L st → Fit st.o st.d → Enough L lv f st → APure Tryz.prog Γ n [.slice tk (toksA L), .agg (plA (alv st.a st.k)), .slice 0 (exsA st.o)] fun v => ∃ o p, v = .tuple [.slice 0 (exsA o), .agg (plA p)] ∧ RR (ev L f lv st) o p
def RDead (Γ : Nat → AV) (L : List Tok) (n : FuncId) : Prop :=
  ∀ (p : Pl) (o : List Ex) (tk : Nat), p.e ≠ 0 → APure Tryz.prog Γ n [.slice tk (toksA L), .agg (plA p), .slice 0 (exsA o)] fun v => v = .tuple [.slice 0 (exsA o), .agg (plA p)]
theorem Grown.fit {s s' : St} (h : Grown s s') (hf : Fit s.o s.d) (hl : s'.d.length = s'.o.length) : Fit s'.o s'.d := by
  obtain ⟨⟨l, e1⟩, ⟨l2, e2⟩⟩ := h.pre
  refine ⟨hl, fun i hi => ?_, fun i hi => ?_⟩
  · by_cases hs : i < s.o.length
    · rw [e1, e2, exAt_left hs]
      exact (hf.ok i hs).agree (Nat.le_refl _) (Nat.zero_le _) fun k _ hk => dAt_left (by rw [hf.len]; omega)
    · exact (h.tidy.node i (by omega) hi).agree (Nat.zero_le _) (by omega) fun _ _ _ => rfl
  · by_cases hs : i < s.o.length
    · rw [e2, dAt_left (by rw [hf.len]; exact hs)]; exact hf.low i hs
    · exact h.tidy.low i (by omega) hi
def andN (r : Res St) (g : St → Res St) : Res St :=
  match r with
  | .error e => .error e
  | .ok z => g z
/-- A node behind what was read. -/
theorem rNode_step {L : List Tok} {i : Nat} (hi : i < L.length) {rF : Res St} {o1 : List Ex} {p1 : Pl} (h : RR rF o1 p1) {x : Ex} {u : List Int} (hz : ∀ z, rF = .ok z → Fit z.o z.d ∧ z.o.length ≤ 90000 ∧ Kids x u z.o.length) (tk : Nat) :
    ∃ o2 p2, (APure Tryz.prog Γ 18 [.slice tk (toksA L), .agg (plA p1), .int .i64 i, .slice 0 (exsA o1), .agg (exA x)] fun v => v = .tuple [.slice 0 (exsA o2), .agg (plA p2)]) ∧
      RR (andN rF fun z => nodeF (peekF L i) x u z) o2 p2 := by
  rcases rF with e | z
  · obtain ⟨h1, h2, h3⟩ := h
    exact ⟨o1, p1, rNode_dead L (by rw [h1]; exact errF_ne _) tk i o1 x, h1, h2, h3⟩
  · obtain ⟨rfl, rfl⟩ := h
    obtain ⟨hf, hl, hk⟩ := hz z rfl
    refine ⟨_, _, rNode_ok L hi hf hl hk z.a z.k tk, ?_⟩
    show RR (nodeF (peekF L i) x u z) _ _
    unfold nodeF
    rw [peekF_in hi]
    by_cases h64 : 64 < deepF z.d u 1
    · rw [if_pos h64, if_pos h64]
      exact ⟨rfl, rfl, rfl⟩
    · rw [if_neg h64, if_neg h64]
      exact ⟨rfl, rfl⟩
def Chn (L : List Tok) (m : List (List UInt8 × Int)) (F : St → Res St) (st : St) (o : List Ex) (p : Pl) (n : Nat) : Prop :=
  (∃ q : St, o = q.o ∧ p = alv q.a q.k ∧ Okay L q ∧ Fit q.o q.d ∧ Grew st q ∧ chainF L m F st = chainL L m F n q ∧ L.length - q.a < n) ∨ (∃ e, chainF L m F st = .error e ∧ p.e = errF e.1 ∧ p.ln = e.2.1 ∧ p.cl = e.2.2)
theorem chn_start {L : List Tok} {m : List (List UInt8 × Int)} {F : St → Res St} {st : St} {o : List Ex} {p : Pl} (h : RR (F st) o p) (hg : ∀ x, F st = .ok x → Okay L x ∧ Grew st x ∧ Fit x.o x.d) : Chn L m F st o p (L.length + 1) := by
  unfold Chn chainF
  rcases hr : F st with e | x
  · rw [hr] at h
    exact .inr ⟨e, rfl, h⟩
  · rw [hr] at h
    obtain ⟨h1, h2⟩ := h
    obtain ⟨g1, g2, g3⟩ := hg x hr
    exact .inl ⟨x, h1, h2, g1, g3, g2, rfl, by omega⟩
/-- Behind one more operator. -/
theorem chn_next {L : List Tok} {m : List (List UInt8 × Int)} {F : St → Res St} {st q : St} {n : Nat} {o2 : List Ex} {p2 : Pl} (hS : Okay L st) (hne : nextF L q.a m ≠ 0) (h1 : Okay L q) (h3 : Grew st q) (h4 : chainF L m F st = chainL L m F (n + 1) q) (h5 : L.length - q.a < n + 1)
    (hz : ∀ z, F { q with a := q.a + 1 } = .ok z → Okay L z ∧ Grew { q with a := q.a + 1 } z ∧ Fit z.o z.d) (hm : ∀ y ∈ m, 6 ≤ y.2 ∧ y.2 ≤ 16)
    (h : RR (andN (F { q with a := q.a + 1 }) fun z => nodeF (peekF L q.a) { ex0 with op := nextF L q.a m, a := (q.o.length : Int) - 1, b := (z.o.length : Int) - 1 } [(q.o.length : Int) - 1, (z.o.length : Int) - 1] z) o2 p2) : Chn L m F st o2 p2 n := by
  have hlt := nextF_lt hne
  rw [chainL, if_neg hne] at h4
  rcases hr : F { q with a := q.a + 1 } with e | z
  · rw [hr] at h h4
    exact .inr ⟨e, h4, h⟩
  · rw [hr] at h h4
    dsimp only [andN] at h h4
    obtain ⟨z1, z2, z3⟩ := hz z hr
    have e1 := z2.a
    have e2 := z2.l
    have e3 := z2.o
    have e4 := z2.k
    simp only at e1 e2 e3 e4
    have q1 := h3.a
    have q2 := h3.o
    have q3 := h3.l
    rcases hr3 : nodeF (peekF L q.a) { ex0 with op := nextF L q.a m, a := (q.o.length : Int) - 1, b := (z.o.length : Int) - 1 } [(q.o.length : Int) - 1, (z.o.length : Int) - 1] z with e | y
    · rw [hr3] at h h4
      exact .inr ⟨e, h4, h⟩
    · rw [hr3] at h h4
      obtain ⟨k1, k2⟩ := node_good (s := st) (s1 := z) (by omega) z1.ha (by omega) (by omega) z1.hd (e4.trans h3.k) hS hr3
      obtain ⟨rfl, h64⟩ := nodeF_ok hr3
      obtain ⟨w, hw1, hw2⟩ := nextF_mem hne
      have hop := hm w hw1
      rw [hw2] at hop
      refine .inl ⟨_, h.1, h.2, k1, fit_push _ _ z3 (.inr (.inr ⟨q.o.length - 1, z.o.length - 1, two_eq (by omega) (by omega), by show (q.o.length : Int) - 1 = _; omega, by show (z.o.length : Int) - 1 = _; omega, hop, by omega, by omega⟩)) (by omega), k2, h4, by simp only; omega⟩
theorem chn_end {L : List Tok} {m : List (List UInt8 × Int)} {F : St → Res St} {st q : St} {n : Nat} (h0 : nextF L q.a m = 0) (h4 : chainF L m F st = chainL L m F (n + 1) q) : RR (chainF L m F st) q.o (alv q.a q.k) := by
  rw [h4, chainL, if_pos h0]
  exact ⟨rfl, rfl⟩
end Go.Proofs.YthpnfflkkmpejaaGreatDoor.Pa
namespace Go.Proofs.YthpnfflkkmpejaaGreatDoor.Pa
open Go Go.Ab Go.RowKit Go.Proofs.YthpnfflkkmpejaaGreatDoor.Lx
variable {Γ : Nat → AV}
attribute [local irreducible] APure Sto.set Sto.grow
set_option maxRecDepth 10000
set_option maxHeartbeats 4000000
theorem fit_of {L : List Tok} {f lv : Nat} {q z : St} (hL : L.length ≤ 90000) (hlv : lv ≤ 6) (hq : Okay L q) (he : Enough L lv f q) (hF : Fit q.o q.d) (h : ev L f lv q = .ok z) : Okay L z ∧ Grew q z ∧ Fit z.o z.d := by
  obtain ⟨g1, g2⟩ := ev_good f lv q hlv hq he z h
  exact ⟨g1, g2, (ev_tree hL f lv q hlv hq he z h).fit hF g1.hd⟩
theorem kids_two {n1 n2 : Nat} {x : Ex} {B : Int} (h1 : 0 < n1) (h2 : n1 < n2) (hop : 6 ≤ x.op ∧ x.op ≤ 16) (ha : x.a = (n1 : Int) - 1) (hb : x.b = B) (hB : B = (n2 : Int) - 1) : Kids x [(n1 : Int) - 1, B] n2 :=
  .inr (.inr ⟨n1 - 1, n2 - 1, two_eq (by omega) (by omega), by omega, by omega, hop, by omega, by omega⟩)
theorem nextF_op {L : List Tok} {a : Nat} {m : List (List UInt8 × Int)} (hm : ∀ y ∈ m, 6 ≤ y.2 ∧ y.2 ≤ 16) (h : nextF L a m ≠ 0) : 6 ≤ nextF L a m ∧ nextF L a m ≤ 16 := by
  obtain ⟨w, hw1, hw2⟩ := nextF_mem h
  rw [← hw2]; exact hm w hw1
theorem rTimes_dead (L : List Tok) (hsub : RDead Γ L 98) : RDead Γ L 84 := by
  intro p o tk hp
  have h1 := hsub p o tk hp
  have hsg := rSign_dead (Γ := Γ) L hp tk prodM (by decide)
  obtain ⟨a, e, ln, cl, k⟩ := p
  simp only at hp
  simp only [plA] at *
  refine APure.of_awp Tryz.func84 rfl (Nat.le_of_ble_eq_true (by kernel_rfl)) (by kernel_rfl) ?_
  intro s
  conv => whnf
  intro b4 hb4
  have k_b4 := hb4
  repeat replace k_b4 := none_of_set k_b4
  conv => whnf
  repeat' ((first | refine ⟨Sub.refl _, ?_⟩ | (refine brA_split (fun h => ?_) (fun h => ?_) <;> (try rw [h]) <;> (try simp only [bN, bS, ↓reduceIte] at h) <;> (first | (exfalso; first | contradiction | omega | exact (by assumption : ¬ True) trivial | fail) | skip)) | refine getB_a ?_ | refine getB_same ?_ | refine AWp.anyA ?_ | refine and_a ?_ | fail) <;> (conv => whnf))
  intro b7 hb7
  have k_b7 := hb7
  repeat replace k_b7 := none_of_set k_b7
  have n_b4_b7 : b4 ≠ b7 := by (have k := hb7; repeat (first | exact ne_set k | replace k := none_of_set k))
  have n_b7_b4 := n_b4_b7.symm
  conv => whnf
  repeat' ((first | refine ⟨Sub.refl _, ?_⟩ | (refine brA_split (fun h => ?_) (fun h => ?_) <;> (try rw [h]) <;> (try simp only [bN, bS, ↓reduceIte] at h) <;> (first | (exfalso; first | contradiction | omega | exact (by assumption : ¬ True) trivial | fail) | skip)) | refine getB_a ?_ | (refine ACalls.pure' ?_ (h1); rintro _ rfl) | refine DCall.pure ?_ (h1) | refine getB_same ?_ | refine AWp.anyA ?_ | refine and_a ?_ | fail) <;> (conv => whnf))
  refine AWp.loopA [2] [19, 20, 21, 22, 23, 8, 24, 25, 26, 27, 6, 28, 29, 30, 9, 32, 33, 34, 35, 36, 31, 37, 38, 11, 10, 40, 41, 42, 43, 44, 45, 46, 47, 48, 49, 50, 51, 39, 52, 53] (fun _ : Unit => [.slice 0 (exsA o)]) (fun _ s' => s'.bx b4 = some (33, [.int .i64 a, .int .i64 e, .int .i64 ln, .int .i64 cl, .int .i64 k]) ∧ s'.bx b7 = some (33, [.int .i64 0, .int .i64 0, .int .i64 0, .int .i64 0, .int .i64 0]) ∧ Sub s s') (fun _ => 0) (()) (by kernel_rfl) ((by exact cons_eq rfl rfl)) ?_ ?_
  · exact ⟨bxa, bxa, suba⟩
  · rintro x _ s' ⟨c4, c7, hs'⟩
    show awp _ _ _ _ _ (updL _ _ [.slice 0 (exsA o)]) _
    conv => whnf
    repeat' ((first | refine ⟨Sub.refl _, ?_⟩ | (refine brA_split (fun h => ?_) (fun h => ?_) <;> (try rw [h]) <;> (try simp only [bN, bS, ↓reduceIte] at h) <;> (first | (exfalso; first | contradiction | omega | exact (by assumption : ¬ True) trivial | fail) | skip)) | refine getB_a ?_ | (refine ACalls.pure' ?_ (hsg); rintro _ rfl) | refine DCall.pure ?_ (hsg) | refine getB_same ?_ | refine AWp.anyA ?_ | refine and_a ?_ | fail) <;> (conv => whnf))
    all_goals first | exact ⟨suba, rfl⟩ | fail
theorem rTimes_ok {L : List Tok} (hL : L.length ≤ 90000) {f : Nat} (h : RLev Γ L 98 f 6) (hd : RDead Γ L 98) : RLev Γ L 84 (f + 1) 5 := by
  intro st tk hS hF hE
  have hup := up_enough hE (l2 := 6) (by omega) (by omega)
  have h1 := h st tk hS hF (hup st hS (Nat.le_refl _))
  have hm : ∀ y ∈ prodM, 6 ≤ y.2 ∧ y.2 ≤ 16 := by simp [prodM]
  have hfo := fun x hx => fit_of hL (by omega) hS (hup st hS (Nat.le_refl _)) hF (z := x) hx
  rw [show ev L (f + 1) 5 st = chainF L prodM (ev L f 6) st from rfl]
  have hsgd := fun (p : Pl) (hp : p.e ≠ 0) => rSign_dead (Γ := Γ) L hp tk prodM (by decide)
  have hsta := hS.ha
  have hsto := hS.ho
  refine APure.of_awp Tryz.func84 rfl (Nat.le_of_ble_eq_true (by kernel_rfl)) (by kernel_rfl) ?_
  intro s
  conv => whnf
  intro b4 hb4
  have k_b4 := hb4
  repeat replace k_b4 := none_of_set k_b4
  conv => whnf
  repeat' ((first | refine ⟨Sub.refl _, ?_⟩ | (refine brA_split (fun h => ?_) (fun h => ?_) <;> (try rw [h]) <;> (try simp only [bN, bS, ↓reduceIte] at h) <;> (first | (exfalso; first | contradiction | omega | exact (by assumption : ¬ True) trivial | fail) | skip)) | refine getB_a ?_ | refine getB_same ?_ | refine AWp.anyA ?_ | refine and_a ?_ | fail) <;> (conv => whnf))
  intro b7 hb7
  have k_b7 := hb7
  repeat replace k_b7 := none_of_set k_b7
  have n_b4_b7 : b4 ≠ b7 := by (have k := hb7; repeat (first | exact ne_set k | replace k := none_of_set k))
  have n_b7_b4 := n_b4_b7.symm
  conv => whnf
  repeat' ((first | refine ⟨Sub.refl _, ?_⟩ | (refine brA_split (fun h => ?_) (fun h => ?_) <;> (try rw [h]) <;> (try simp only [bN, bS, ↓reduceIte] at h) <;> (first | (exfalso; first | contradiction | omega | exact (by assumption : ¬ True) trivial | fail) | skip)) | refine getB_a ?_ | (refine ACalls.pure' ?_ h1; rintro _ ⟨o1, ⟨y1, y2, y3, y4, y5⟩, rfl, hr1⟩) | refine getB_same ?_ | refine AWp.anyA ?_ | refine and_a ?_ | fail) <;> (conv => whnf))
  have hch := chn_start (m := prodM) hr1 hfo
  refine AWp.loopA [2] [19, 20, 21, 22, 23, 8, 24, 25, 26, 27, 6, 28, 29, 30, 9, 32, 33, 34, 35, 36, 31, 37, 38, 11, 10, 40, 41, 42, 43, 44, 45, 46, 47, 48, 49, 50, 51, 39, 52, 53] (fun q : List Ex × Pl × Nat => [.slice 0 (exsA q.1)]) (fun q s' => s'.bx b4 = some (33, plA q.2.1) ∧ s'.bx b7 = some (33, [.int .i64 0, .int .i64 0, .int .i64 0, .int .i64 0, .int .i64 0]) ∧ Sub s s' ∧ Chn L prodM (ev L f 6) st q.1 q.2.1 q.2.2) (fun q => q.2.2) ((o1, ⟨y1, y2, y3, y4, y5⟩, L.length + 1)) (by kernel_rfl) ((by exact cons_eq rfl rfl)) ?_ ?_
  · exact ⟨bxa, bxa, suba, hch⟩
  · clear hch hr1 h1 hfo
    rintro x ⟨o, ⟨p1, p2, p3, p4, p5⟩, n⟩ s' ⟨c4, c7, hs', hc⟩
    simp only [plA] at c4 c7 hc
    show awp _ _ _ _ _ (updL _ _ [.slice 0 (exsA o)]) _
    conv => whnf
    rcases hc with ⟨q, rfl, hp, k1, k2, k3, k4, k5⟩ | ⟨e, he, hpe, hpl, hpc⟩
    · simp only [alv, Pl.mk.injEq] at hp
      obtain ⟨rfl, rfl, rfl, rfl, rfl⟩ := hp
      have hqa := k1.ha
      have hqo := k1.ho
      have q1 := k3.a
      have q2 := k3.o
      have hsg := rSign_ok (Γ := Γ) L (by omega) (a := q.a) (by omega) q.k tk prodM (by decide)
      simp only [plA, alv] at hsg
      cases n with
      | zero => omega
      | succ n =>
      by_cases h0 : nextF L q.a prodM = 0
      · rw [h0] at hsg
        have hend := chn_end h0 k4
        clear k4 k5 k3 hup h
        repeat' ((first | refine ⟨Sub.refl _, ?_⟩ | (refine brA_split (fun h => ?_) (fun h => ?_) <;> (try rw [h]) <;> (try simp only [bN, bS, ↓reduceIte] at h) <;> (first | (exfalso; first | contradiction | omega | exact (by assumption : ¬ True) trivial | fail) | skip)) | refine getB_a ?_ | (refine ACalls.pure' ?_ (hsg); rintro _ rfl) | refine DCall.pure ?_ (hsg) | refine getB_same ?_ | refine AWp.anyA ?_ | refine and_a ?_ | fail) <;> (conv => whnf))
        all_goals first | exact ⟨suba, _, _, rfl, hend⟩ | fail
      · have hlt := nextF_lt h0
        have hokq : Okay L { q with a := q.a + 1 } := ⟨by simp only; omega, by simp only; omega, k1.hd, k1.hk⟩
        have henq := hup { q with a := q.a + 1 } hokq (Nat.le_succ_of_le q1)
        have h2 := h { q with a := q.a + 1 } tk hokq k2 henq
        have hfo2 := fun x hx => fit_of hL (by omega) hokq henq k2 (z := x) hx
        have hsk := rSkip_alv (Γ := Γ) (a := q.a) (by omega) q.k
        have hwA : IntKind.i64.wrap (((exsA q.o).length : Int) - 1) = (q.o.length : Int) - 1 := i64_of (by rw [exsA_len]) (by omega) (by omega)
        have hnx := fun {o2 : List Ex} {p2 : Pl} => chn_next (m := prodM) (F := ev L f 6) (n := n) (o2 := o2) (p2 := p2) hS h0 k1 k3 k4 k5 hfo2 hm
        have hop := nextF_op hm h0
        generalize nextF L q.a prodM = op at *
        simp only [plA, alv] at h2 hsk
        clear k4 hup h
        repeat' ((first | refine ⟨Sub.refl _, ?_⟩ | (refine brA_split (fun h => ?_) (fun h => ?_) <;> (try rw [h]) <;> (try simp only [bN, bS, ↓reduceIte] at h) <;> (first | (exfalso; first | contradiction | omega | exact (by assumption : ¬ True) trivial | fail) | skip)) | refine getB_a ?_ | (refine ACalls.pure' ?_ (hsg); rintro _ rfl) | refine DCall.pure ?_ (hsg) | (refine ACalls.pure' ?_ (hsk); rintro _ rfl) | refine DCall.pure ?_ (hsk) | (rw [hwA]) | (refine ACalls.pure' ?_ h2; rintro _ ⟨o1, ⟨y1, y2, y3, y4, y5⟩, rfl, hr1⟩) | refine getB_same ?_ | refine AWp.anyA ?_ | refine and_a ?_ | fail) <;> (conv => whnf))
        obtain ⟨B, hB⟩ : ∃ B, B = IntKind.i64.wrap (((exsA o1).length : Int) - 1) := ⟨_, rfl⟩
        have hBz : ∀ z, ev L f 6 { q with a := q.a + 1 } = .ok z → o1 = z.o ∧ B = (z.o.length : Int) - 1 := fun z hz => by
          rw [hz] at hr1
          obtain ⟨g1, g2, _⟩ := hfo2 z hz
          have e1 := g1.ho
          have e2 := g1.ha
          have e3 := g2.o
          simp only at e3
          refine ⟨hr1.1, ?_⟩
          rw [hB, hr1.1]
          exact i64_of (by rw [exsA_len]) (by omega) (by omega)
        obtain ⟨o2, ⟨w1, w2, w3, w4, w5⟩, hno, hrr⟩ := rNode_step (Γ := Γ) hlt hr1 (x := { ex0 with op := op, a := (q.o.length : Int) - 1, b := B }) (u := [(q.o.length : Int) - 1, B]) (fun z hz => by
          obtain ⟨g1, g2, g3⟩ := hfo2 z hz
          obtain ⟨_, hBe⟩ := hBz z hz
          have e1 := g1.ho
          have e2 := g1.ha
          have e3 := g2.o
          simp only at e3
          exact ⟨g3, by omega, kids_two (by omega) e3 hop rfl rfl hBe⟩) tk
        have hrr2 := hnx (o2 := o2) (p2 := ⟨w1, w2, w3, w4, w5⟩) (by
          rcases hz : ev L f 6 { q with a := q.a + 1 } with e | z
          · rw [hz] at hrr; exact hrr
          · rw [hz] at hrr
            obtain ⟨_, hBe⟩ := hBz z hz
            rw [hBe] at hrr
            exact hrr)
        simp only [plA, exA, ex0] at hno
        clear hnx hrr hBz h2 hfo2 henq hokq hsg hsk
        intro b11 hb11
        have k_b11 := hb11
        repeat replace k_b11 := none_of_set k_b11
        have n_b4_b11 : b4 ≠ b11 := ne_of_none bxa hb11
        have n_b11_b4 := n_b4_b11.symm
        have n_b7_b11 : b7 ≠ b11 := ne_of_none bxa hb11
        have n_b11_b7 := n_b7_b11.symm
        conv => whnf
        have kk := hs'.none k_b11
        repeat' ((first | refine ⟨Sub.refl _, ?_⟩ | (refine brA_split (fun h => ?_) (fun h => ?_) <;> (try rw [h]) <;> (try simp only [bN, bS, ↓reduceIte] at h) <;> (first | (exfalso; first | contradiction | omega | exact (by assumption : ¬ True) trivial | fail) | skip)) | refine getB_a ?_ | (rw [← hB]) | (refine ACalls.pure' ?_ (hno); rintro _ rfl) | refine DCall.pure ?_ (hno) | refine getB_same ?_ | refine AWp.anyA ?_ | refine and_a ?_ | fail) <;> (conv => whnf))
        refine ⟨(o2, ⟨w1, w2, w3, w4, w5⟩, n), eqb, samea, ⟨by first | exact bxa, bxa, ?_, hrr2⟩, by simp only; omega⟩
        have hs2 := hs'
        exact suba
    · have hsg := hsgd ⟨p1, p2, p3, p4, p5⟩ (by show p2 ≠ 0; rw [show p2 = errF e.1 from hpe]; exact errF_ne _)
      simp only [plA] at hsg
      have hend : RR (chainF L prodM (ev L f 6) st) o ⟨p1, p2, p3, p4, p5⟩ := by rw [he]; exact ⟨hpe, hpl, hpc⟩
      repeat' ((first | refine ⟨Sub.refl _, ?_⟩ | (refine brA_split (fun h => ?_) (fun h => ?_) <;> (try rw [h]) <;> (try simp only [bN, bS, ↓reduceIte] at h) <;> (first | (exfalso; first | contradiction | omega | exact (by assumption : ¬ True) trivial | fail) | skip)) | refine getB_a ?_ | (refine ACalls.pure' ?_ (hsg); rintro _ rfl) | refine DCall.pure ?_ (hsg) | refine getB_same ?_ | refine AWp.anyA ?_ | refine and_a ?_ | fail) <;> (conv => whnf))
      all_goals first | exact ⟨suba, _, _, rfl, hend⟩ | fail
end Go.Proofs.YthpnfflkkmpejaaGreatDoor.Pa
namespace Go.Proofs.YthpnfflkkmpejaaGreatDoor.Pa
open Go Go.Ab Go.RowKit Go.Proofs.YthpnfflkkmpejaaGreatDoor.Lx
variable {Γ : Nat → AV}
attribute [local irreducible] APure Sto.set Sto.grow
set_option maxRecDepth 10000
set_option maxHeartbeats 4000000
/-- What stood open is shut. -/
theorem shut_RR {L : List Tok} {F : St → Res St} {st : St} {o : List Ex} {p : Pl} (hS : Okay L st) (hk : st.k ≠ 128) (hG : ∀ z, F (opened st) = .ok z → z.k = st.k + 1) (h : RR (F (opened st)) o p) : RR (insideF L F st) o { p with k := IntKind.i64.wrap (p.k - 1) } := by
  have hkk := hS.hk
  unfold insideF
  rw [if_neg hk]
  show RR (match F (opened st) with | .error e => .error e | .ok s' => .ok { s' with k := s'.k - 1 }) o _
  rcases hr : F (opened st) with e | z
  · rw [hr] at h
    exact h
  · rw [hr] at h
    obtain ⟨rfl, rfl⟩ := h
    have hz := hG z hr
    refine ⟨rfl, ?_⟩
    show (⟨(z.a : Int), 0, 0, 0, IntKind.i64.wrap (z.k - 1)⟩ : Pl) = ⟨(z.a : Int), 0, 0, 0, z.k - 1⟩
    rw [i64_of (rfl : z.k - 1 = z.k - 1) (by omega) (by omega)]
theorem inside_fit {L : List Tok} {f lv : Nat} {st z : St} (hL : L.length ≤ 90000) (hlv : lv ≤ 6) (hS : Okay L st) (ha : st.a < L.length) (he : Enough L lv f (opened st)) (hF : Fit st.o st.d) (h : insideF L (ev L f lv) st = .ok z) : Okay L z ∧ Grew st z ∧ Fit z.o z.d := by
  obtain ⟨g1, g2, _⟩ := inside_good hS ha (fun hk => ev_good f lv _ hlv (opened_okay hS ha hk) he) z h
  exact ⟨g1, g2, (inside_tree (fun hk => ev_tree hL f lv _ hlv (opened_okay hS ha hk) he) z h).fit hF g1.hd⟩
theorem rNot_dead (L : List Tok) (hsub : RDead Γ L 47) : RDead Γ L 30 := by
  intro p o tk hp
  have h1 := hsub p o tk hp
  have hi := rIs_dead (Γ := Γ) L hp tk [110, 111, 116]
  obtain ⟨a, e, ln, cl, k⟩ := p
  simp only at hp
  simp only [plA] at *
  refine APure.of_awp Tryz.func30 rfl (Nat.le_of_ble_eq_true (by kernel_rfl)) (by kernel_rfl) ?_
  intro s
  conv => whnf
  intro b4 hb4
  have k_b4 := hb4
  repeat replace k_b4 := none_of_set k_b4
  conv => whnf
  repeat' ((first | refine ⟨Sub.refl _, ?_⟩ | (refine brA_split (fun h => ?_) (fun h => ?_) <;> (try rw [h]) <;> (try simp only [bN, bS, ↓reduceIte] at h) <;> (first | (exfalso; first | contradiction | omega | exact (by assumption : ¬ True) trivial | fail) | skip)) | refine getB_a ?_ | refine getB_same ?_ | refine AWp.anyA ?_ | refine and_a ?_ | fail) <;> (conv => whnf))
  intro b7 hb7
  have k_b7 := hb7
  repeat replace k_b7 := none_of_set k_b7
  have n_b4_b7 : b4 ≠ b7 := by (have k := hb7; repeat (first | exact ne_set k | replace k := none_of_set k))
  have n_b7_b4 := n_b4_b7.symm
  conv => whnf
  repeat' ((first | refine ⟨Sub.refl _, ?_⟩ | (refine brA_split (fun h => ?_) (fun h => ?_) <;> (try rw [h]) <;> (try simp only [bN, bS, ↓reduceIte] at h) <;> (first | (exfalso; first | contradiction | omega | exact (by assumption : ¬ True) trivial | fail) | skip)) | refine getB_a ?_ | (refine ACalls.pure' ?_ (hi); rintro _ rfl) | refine DCall.pure ?_ (hi) | (refine ACalls.pure' ?_ (h1); rintro _ rfl) | refine DCall.pure ?_ (h1) | refine getB_same ?_ | refine AWp.anyA ?_ | refine and_a ?_ | fail) <;> (conv => whnf))
  all_goals first | exact ⟨suba, rfl⟩ | fail
theorem rNot_ok {L : List Tok} (hL : L.length ≤ 90000) {f : Nat} (hc : RLev Γ L 47 f 3) (h : RLev Γ L 30 f 2) (hd : RDead Γ L 30) : RLev Γ L 30 (f + 1) 2 := by
  intro st tk hS hF hE
  have hup := up_enough hE (l2 := 3) (by omega) (by omega) st hS (Nat.le_refl _)
  have hsta := hS.ha
  have hsto := hS.ho
  have hstk := hS.hk
  have hi := rIs_ok (Γ := Γ) L (by omega) (a := st.a) (by omega) st.k tk [110, 111, 116]
  rw [show ev L (f + 1) 2 st = if isF L st.a [110, 111, 116] = true then beforeF L 4 (ev L f 2) st else ev L f 3 st from rfl]
  cases hx : isF L st.a [110, 111, 116]
  · rw [hx] at hi
    rw [if_neg (by decide)]
    have hcc := hc st tk hS hF hup
    simp only [plA, alv] at hi hcc ⊢
    clear hc h hd hE hup hF
    refine APure.of_awp Tryz.func30 rfl (Nat.le_of_ble_eq_true (by kernel_rfl)) (by kernel_rfl) ?_
    intro s
    conv => whnf
    intro b4 hb4
    have k_b4 := hb4
    repeat replace k_b4 := none_of_set k_b4
    conv => whnf
    repeat' ((first | refine ⟨Sub.refl _, ?_⟩ | (refine brA_split (fun h => ?_) (fun h => ?_) <;> (try rw [h]) <;> (try simp only [bN, bS, ↓reduceIte] at h) <;> (first | (exfalso; first | contradiction | omega | exact (by assumption : ¬ True) trivial | fail) | skip)) | refine getB_a ?_ | refine getB_same ?_ | refine AWp.anyA ?_ | refine and_a ?_ | fail) <;> (conv => whnf))
    intro b7 hb7
    have k_b7 := hb7
    repeat replace k_b7 := none_of_set k_b7
    have n_b4_b7 : b4 ≠ b7 := by (have k := hb7; repeat (first | exact ne_set k | replace k := none_of_set k))
    have n_b7_b4 := n_b4_b7.symm
    conv => whnf
    repeat' ((first | refine ⟨Sub.refl _, ?_⟩ | (refine brA_split (fun h => ?_) (fun h => ?_) <;> (try rw [h]) <;> (try simp only [bN, bS, ↓reduceIte] at h) <;> (first | (exfalso; first | contradiction | omega | exact (by assumption : ¬ True) trivial | fail) | skip)) | refine getB_a ?_ | (refine ACalls.pure' ?_ (hi); rintro _ rfl) | refine DCall.pure ?_ (hi) | (refine ACalls.pure' ?_ hcc; rintro _ ⟨o1, ⟨y1, y2, y3, y4, y5⟩, rfl, hr1⟩) | refine getB_same ?_ | refine AWp.anyA ?_ | refine and_a ?_ | fail) <;> (conv => whnf))
    exact ⟨suba, o1, ⟨y1, y2, y3, y4, y5⟩, rfl, hr1⟩
  · rw [hx] at hi
    rw [if_pos rfl]
    have hlt := isF_lt hx
    have hop := rOpen_ok (Γ := Γ) L (by omega) (a := st.a) (by omega) hstk tk
    have hen : Enough L 2 f (opened st) := by unfold Enough at *; simp only [opened]; omega
    by_cases hk : st.k = 128
    · rw [if_pos hk] at hop
      have hdd := hd (stopP L st.a st.k 13) st.o tk (by show (13 : Int) ≠ 0; decide)
      have hsh := rShut_ok (Γ := Γ) (stopP L st.a st.k 13)
      have hin : RR (insideF L (ev L f 2) st) st.o { stopP L st.a st.k 13 with k := IntKind.i64.wrap ((stopP L st.a st.k 13).k - 1) } := by
        unfold insideF; rw [if_pos hk]; exact ⟨rfl, rfl, rfl⟩
      generalize ho1 : st.o = o1 at hin
      rw [ho1] at hdd
      obtain ⟨B, hB⟩ : ∃ B, B = IntKind.i64.wrap (((exsA o1).length : Int) - 1) := ⟨_, rfl⟩
      have hBz : ∀ z, insideF L (ev L f 2) st = .ok z → B = (z.o.length : Int) - 1 := fun z hz => by
        rw [hz] at hin
        obtain ⟨g1, g2, _⟩ := inside_fit hL (by omega) hS hlt hen hF hz
        have e1 := g1.ho
        have e2 := g1.ha
        have e3 := g2.o
        rw [hB, hin.1]
        exact i64_of (by rw [exsA_len]) (by omega) (by omega)
      obtain ⟨o2, ⟨w1, w2, w3, w4, w5⟩, hno, hrr⟩ := rNode_step (Γ := Γ) hlt hin (x := { ex0 with op := 4, a := B }) (u := [B]) (fun z hz => by
        obtain ⟨g1, g2, g3⟩ := inside_fit hL (by omega) hS hlt hen hF hz
        have hBe := hBz z hz
        have e1 := g1.ho
        have e2 := g1.ha
        have e3 := g2.o
        exact ⟨g3, by omega, .inr (.inl ⟨z.o.length - 1, by rw [hBe]; congr 1; omega, by show B = _; omega, .inl rfl, by omega⟩)⟩) tk
      have hrr2 : RR (beforeF L 4 (ev L f 2) st) o2 ⟨w1, w2, w3, w4, w5⟩ := by
        unfold beforeF
        rcases hz : insideF L (ev L f 2) st with e | z
        · rw [hz] at hrr; exact hrr
        · rw [hz] at hrr
          have hBe := hBz z hz
          rw [hBe] at hrr
          exact hrr
      simp only [plA, exA, ex0] at hno
      clear hrr hBz
      simp only [plA, alv, stopP] at *
      try rw [ho1]
      clear hc h hd hE hup hF hen
      refine APure.of_awp Tryz.func30 rfl (Nat.le_of_ble_eq_true (by kernel_rfl)) (by kernel_rfl) ?_
      intro s
      conv => whnf
      intro b4 hb4
      have k_b4 := hb4
      repeat replace k_b4 := none_of_set k_b4
      conv => whnf
      repeat' ((first | refine ⟨Sub.refl _, ?_⟩ | (refine brA_split (fun h => ?_) (fun h => ?_) <;> (try rw [h]) <;> (try simp only [bN, bS, ↓reduceIte] at h) <;> (first | (exfalso; first | contradiction | omega | exact (by assumption : ¬ True) trivial | fail) | skip)) | refine getB_a ?_ | refine getB_same ?_ | refine AWp.anyA ?_ | refine and_a ?_ | fail) <;> (conv => whnf))
      intro b7 hb7
      have k_b7 := hb7
      repeat replace k_b7 := none_of_set k_b7
      have n_b4_b7 : b4 ≠ b7 := by (have k := hb7; repeat (first | exact ne_set k | replace k := none_of_set k))
      have n_b7_b4 := n_b4_b7.symm
      conv => whnf
      repeat' ((first | refine ⟨Sub.refl _, ?_⟩ | (refine brA_split (fun h => ?_) (fun h => ?_) <;> (try rw [h]) <;> (try simp only [bN, bS, ↓reduceIte] at h) <;> (first | (exfalso; first | contradiction | omega | exact (by assumption : ¬ True) trivial | fail) | skip)) | refine getB_a ?_ | (refine ACalls.pure' ?_ (hi); rintro _ rfl) | refine DCall.pure ?_ (hi) | (refine ACalls.pure' ?_ (hop); rintro _ rfl) | refine DCall.pure ?_ (hop) | (refine ACalls.pure' ?_ (hdd); rintro _ rfl) | refine DCall.pure ?_ (hdd) | refine getB_same ?_ | refine AWp.anyA ?_ | refine and_a ?_ | fail) <;> (conv => whnf))
      intro b9 hb9
      have k_b9 := hb9
      repeat replace k_b9 := none_of_set k_b9
      have n_b4_b9 : b4 ≠ b9 := by (have k := hb9; repeat (first | exact ne_set k | replace k := none_of_set k))
      have n_b9_b4 := n_b4_b9.symm
      have n_b7_b9 : b7 ≠ b9 := by (have k := hb9; repeat (first | exact ne_set k | replace k := none_of_set k))
      have n_b9_b7 := n_b7_b9.symm
      conv => whnf
      repeat' ((first | refine ⟨Sub.refl _, ?_⟩ | (refine brA_split (fun h => ?_) (fun h => ?_) <;> (try rw [h]) <;> (try simp only [bN, bS, ↓reduceIte] at h) <;> (first | (exfalso; first | contradiction | omega | exact (by assumption : ¬ True) trivial | fail) | skip)) | refine getB_a ?_ | (refine ACalls.pure' ?_ (hsh); rintro _ rfl) | refine DCall.pure ?_ (hsh) | (rw [← hB]) | (refine ACalls.pure' ?_ (hno); rintro _ rfl) | refine DCall.pure ?_ (hno) | refine getB_same ?_ | refine AWp.anyA ?_ | refine and_a ?_ | fail) <;> (conv => whnf))
      all_goals first | exact ⟨suba, o2, ⟨w1, w2, w3, w4, w5⟩, rfl, hrr2⟩ | fail
    · rw [if_neg hk] at hop
      have h2 := h (opened st) tk (opened_okay hS hlt hk) hF hen
      have hgk : ∀ z, ev L f 2 (opened st) = .ok z → z.k = st.k + 1 := fun z hz => (ev_good f 2 (opened st) (by omega) (opened_okay hS hlt hk) hen z hz).2.k
      rw [show plA (alv (opened st).a (opened st).k) = [.int .i64 ((st.a + 1 : Nat) : Int), .int .i64 0, .int .i64 0, .int .i64 0, .int .i64 (st.k + 1)] from rfl, show (opened st).o = st.o from rfl] at h2
      simp only [plA, alv] at hi hop ⊢
      clear hc h hd hE hup
      refine APure.of_awp Tryz.func30 rfl (Nat.le_of_ble_eq_true (by kernel_rfl)) (by kernel_rfl) ?_
      intro s
      conv => whnf
      intro b4 hb4
      have k_b4 := hb4
      repeat replace k_b4 := none_of_set k_b4
      conv => whnf
      repeat' ((first | refine ⟨Sub.refl _, ?_⟩ | (refine brA_split (fun h => ?_) (fun h => ?_) <;> (try rw [h]) <;> (try simp only [bN, bS, ↓reduceIte] at h) <;> (first | (exfalso; first | contradiction | omega | exact (by assumption : ¬ True) trivial | fail) | skip)) | refine getB_a ?_ | refine getB_same ?_ | refine AWp.anyA ?_ | refine and_a ?_ | fail) <;> (conv => whnf))
      intro b7 hb7
      have k_b7 := hb7
      repeat replace k_b7 := none_of_set k_b7
      have n_b4_b7 : b4 ≠ b7 := by (have k := hb7; repeat (first | exact ne_set k | replace k := none_of_set k))
      have n_b7_b4 := n_b4_b7.symm
      conv => whnf
      repeat' ((first | refine ⟨Sub.refl _, ?_⟩ | (refine brA_split (fun h => ?_) (fun h => ?_) <;> (try rw [h]) <;> (try simp only [bN, bS, ↓reduceIte] at h) <;> (first | (exfalso; first | contradiction | omega | exact (by assumption : ¬ True) trivial | fail) | skip)) | refine getB_a ?_ | (refine ACalls.pure' ?_ (hi); rintro _ rfl) | refine DCall.pure ?_ (hi) | (refine ACalls.pure' ?_ (hop); rintro _ rfl) | refine DCall.pure ?_ (hop) | (refine ACalls.pure' ?_ h2; rintro _ ⟨o1, ⟨y1, y2, y3, y4, y5⟩, rfl, hr1⟩) | refine getB_same ?_ | refine AWp.anyA ?_ | refine and_a ?_ | fail) <;> (conv => whnf))
      have hin := shut_RR hS hk hgk hr1
      have hsh := rShut_ok (Γ := Γ) ⟨y1, y2, y3, y4, y5⟩
      simp only [plA] at hsh hin
      obtain ⟨B, hB⟩ : ∃ B, B = IntKind.i64.wrap (((exsA o1).length : Int) - 1) := ⟨_, rfl⟩
      have hBz : ∀ z, insideF L (ev L f 2) st = .ok z → B = (z.o.length : Int) - 1 := fun z hz => by
        rw [hz] at hin
        obtain ⟨g1, g2, _⟩ := inside_fit hL (by omega) hS hlt hen hF hz
        have e1 := g1.ho
        have e2 := g1.ha
        have e3 := g2.o
        rw [hB, hin.1]
        exact i64_of (by rw [exsA_len]) (by omega) (by omega)
      obtain ⟨o2, ⟨w1, w2, w3, w4, w5⟩, hno, hrr⟩ := rNode_step (Γ := Γ) hlt hin (x := { ex0 with op := 4, a := B }) (u := [B]) (fun z hz => by
        obtain ⟨g1, g2, g3⟩ := inside_fit hL (by omega) hS hlt hen hF hz
        have hBe := hBz z hz
        have e1 := g1.ho
        have e2 := g1.ha
        have e3 := g2.o
        exact ⟨g3, by omega, .inr (.inl ⟨z.o.length - 1, by rw [hBe]; congr 1; omega, by show B = _; omega, .inl rfl, by omega⟩)⟩) tk
      have hrr2 : RR (beforeF L 4 (ev L f 2) st) o2 ⟨w1, w2, w3, w4, w5⟩ := by
        unfold beforeF
        rcases hz : insideF L (ev L f 2) st with e | z
        · rw [hz] at hrr; exact hrr
        · rw [hz] at hrr
          have hBe := hBz z hz
          rw [hBe] at hrr
          exact hrr
      simp only [plA, exA, ex0] at hno
      clear hrr hBz
      intro b9 hb9
      have k_b9 := hb9
      repeat replace k_b9 := none_of_set k_b9
      have n_b4_b9 : b4 ≠ b9 := by (have k := hb9; repeat (first | exact ne_set k | replace k := none_of_set k))
      have n_b9_b4 := n_b4_b9.symm
      have n_b7_b9 : b7 ≠ b9 := by (have k := hb9; repeat (first | exact ne_set k | replace k := none_of_set k))
      have n_b9_b7 := n_b7_b9.symm
      conv => whnf
      repeat' ((first | refine ⟨Sub.refl _, ?_⟩ | (refine brA_split (fun h => ?_) (fun h => ?_) <;> (try rw [h]) <;> (try simp only [bN, bS, ↓reduceIte] at h) <;> (first | (exfalso; first | contradiction | omega | exact (by assumption : ¬ True) trivial | fail) | skip)) | refine getB_a ?_ | (refine ACalls.pure' ?_ (hsh); rintro _ rfl) | refine DCall.pure ?_ (hsh) | (rw [← hB]) | (refine ACalls.pure' ?_ (hno); rintro _ rfl) | refine DCall.pure ?_ (hno) | refine getB_same ?_ | refine AWp.anyA ?_ | refine and_a ?_ | fail) <;> (conv => whnf))
      all_goals first | exact ⟨suba, o2, ⟨w1, w2, w3, w4, w5⟩, rfl, hrr2⟩ | fail
end Go.Proofs.YthpnfflkkmpejaaGreatDoor.Pa
