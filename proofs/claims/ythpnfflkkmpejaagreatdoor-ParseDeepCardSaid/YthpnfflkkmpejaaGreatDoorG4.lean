/- Part 4 of what the closing text needs: PaK1, Gr2, PaK2, PaL, PaM, AsP, IsP, PaN, PaR, PaDa, PaDb, PaO, PaDc, Cv1, PaDd, Ha1, Er2. No condition of mine beyond those that the theorems name. -/
import Derived.Test.YthpnfflkkmpejaaGreatDoorAb27
import Derived.Test.YthpnfflkkmpejaaGreatDoorProg
import Derived.Shelf.Spec.SlicesGrow
import Derived.Laws.AppendOwn
import Derived.Test.YthpnfflkkmpejaaGreatDoorChecked
import Derived.WalkKit
import Derived.LaidEql
import Derived.Stop.Asserts
import Derived.RowKitTokens
import Derived.Laws.IdiomStrings
import Derived.LaidHandle
import Derived.LaidLaws
import Derived.Lay
import Derived.Stop.LaidErr
set_option linter.all false
namespace Go.Proofs.YthpnfflkkmpejaaGreatDoor.Pa
open Go Go.Ab Go.RowKit
variable {Γ : Nat → AV}
attribute [local irreducible] APure Sto.set Sto.grow
set_option maxRecDepth 10000
set_option maxHeartbeats 1000000
section
variable {s : Sto}
/-- A node of nothing. -/
def zx : List AV := [.int .i64 0, .int .i64 0, .int .i64 0, .str [], .int .i64 0, .int .i64 0, .str [], .bool false, .int .i64 0, .int .i64 0]
theorem clone_ok {tk : Nat} {l : List Ex} (hl : l ≠ []) (hn : l.length ≤ 1000000) :
    ACalls Tryz.prog Γ 119 [.slice tk (exsA l)] s fun v s' => ∃ b cap, v = .raw (some ⟨b, 0, none⟩) l.length cap ∧ l.length ≤ cap ∧ s.bx b = none ∧ s' = s.set b 41 ((exsA l).flatten ++ (List.replicate (cap - l.length) zx).flatten) := by
  cases l with
  | nil => exact absurd rfl hl
  | cons c l =>
  refine ACalls.of_awp Tryz.func119 rfl (Nat.le_of_ble_eq_true (by kernel_rfl)) ?_
  refine AWp.seq (awp_ok _ (by kernel_rfl) ?_)
  conv => whnf
  refine AWp.seq (awp_ok _ (by kernel_rfl) ?_)
  conv => whnf
  refine AWp.seq (AWp.regionS 1 (by kernel_rfl) ?_)
  conv => whnf
  refine ⟨Nat.le_of_ble_eq_true (by kernel_rfl), rfl, rfl, all_nil, ?_⟩
  conv => whnf
  refine Reread.raw 5 rfl fun a => ?_
  conv => whnf
  refine ⟨by simp [exsA], fun x hx => ?_, ?_, fun _ b cap h1 h2 => ?_, fun h => absurd ⟨rfl, rfl⟩ h⟩
  · obtain ⟨y, _, rfl⟩ := List.mem_map.1 hx
    exact ⟨rfl, rfl⟩
  · rw [exsA_len]
    show (0 + (c :: l).length) * (96 + 1) ≤ 140737488355328
    omega
  rw [exsA_len] at h1
  rw [exsA_len]
  conv => whnf
  refine awp_ok _ (by kernel_rfl) ?_
  conv => whnf
  exact ⟨_, Sub.refl _, b, cap, rfl, h1, h2, rfl⟩
theorem drop_at {P Q : List AV} {x : Ex} {i : Nat} (hP : P.length = i * 10) (j : Nat) : (P ++ (exA x ++ Q)).drop (0 + ((i : Nat) : Int).toNat * 10 + j) = (exA x ++ Q).drop j := by
  rw [show (0 + ((i : Nat) : Int).toNat * 10 + j) = P.length + j by rw [hP]; simp, ← List.drop_drop, List.drop_left]
theorem aload_of {P : Program} {T : TypeId} {K : AV → Prop} {cs r : List AV} {o : Nat} (h : cs.drop o = r) (k : aload P T r K) : aload P T (cs.drop o) K := h ▸ k
theorem frcL_of {K : List AV → Prop} {l r : List AV} (h : l = r) (k : K r) : frcL l K := by rw [frcL_eq, h]; exact k
theorem put_at {P Q : List AV} {x x' : Ex} {c : AV} {i : Nat} (hP : P.length = i * 10) (j : Nat) (hj : j < 10) (h : (exA x).set j c = exA x') :
    (P ++ (exA x ++ Q)).take (0 + ((i : Nat) : Int).toNat * 10 + j) ++ [c] ++ (P ++ (exA x ++ Q)).drop (0 + ((i : Nat) : Int).toNat * 10 + j + 1) = P ++ (exA x' ++ Q) := by
  rw [← h, show (0 + ((i : Nat) : Int).toNat * 10 + j) = P.length + j by rw [hP]; simp]
  have hx : (exA x).length = 10 := rfl
  rw [Nat.add_assoc, ← List.drop_drop, List.drop_left, List.take_append, List.take_of_length_le (by omega), Nat.add_sub_cancel_left, List.set_eq_take_append_cons_drop]
  rw [if_pos (by omega), List.take_append_of_le_length (by omega), List.drop_append_of_le_length (by omega)]
  simp
theorem chunks_exs (z : List AV) : ∀ l : List Ex, chunks 10 l.length ((exsA l).flatten ++ z) = exsA l
  | [] => rfl
  | x :: l => by
    have ih := chunks_exs z l
    rw [show (exsA (x :: l)).flatten ++ z = exA x ++ ((exsA l).flatten ++ z) by simp [exsA], List.length_cons]
    show (exA x ++ ((exsA l).flatten ++ z)).take 10 :: chunks 10 l.length ((exA x ++ ((exsA l).flatten ++ z)).drop 10) = _
    rw [List.take_left' (show (exA x).length = 10 from rfl), List.drop_left' (show (exA x).length = 10 from rfl), ih]
    rfl
theorem fgE_exs (l : List Ex) : fgE (exsA l) = exsA l := fgE_map (A := exA) (fun _ => rfl) l
theorem flat_len : ∀ m : List Ex, (exsA m).flatten.length = m.length * 10
  | [] => rfl
  | y :: m => by rw [show exsA (y :: m) = exA y :: exsA m from rfl, List.flatten_cons, List.length_append, flat_len m, List.length_cons, show (exA y).length = 10 from rfl]; omega
/-- A node in a box of nodes. -/
theorem shift_ok {tk : Nat} {l : List Ex} {by_ : Int} (hl : l ≠ []) (hn : l.length ≤ 100000) :
    APure Tryz.prog Γ 96 [.slice tk (exsA l), .int .i64 by_] fun v => v = .slice 0 (exsA (l.map (shiftX by_))) := by
  unfold APure; intro s
  have h1 : ACalls Tryz.prog Γ 96 [.slice tk (exsA l), .int .i64 by_] s fun v s' => ∃ b cap z, v = .raw (some ⟨b, 0, none⟩) l.length cap ∧ l.length ≤ cap ∧ s.bx b = none ∧ s'.bx b = some (41, (exsA (l.map (shiftX by_))).flatten ++ z) ∧ Sub s s' := by
    have hcl := clone_ok (Γ := Γ) (s := s) (tk := tk) hl (by omega)
    refine ACalls.of_awp Tryz.func96 rfl (Nat.le_of_ble_eq_true (by kernel_rfl)) (awp_ok _ (by kernel_rfl) ?_)
    conv => whnf
    repeat' ((first | (exfalso; first | omega | exact (by assumption : ¬ True) trivial | fail) | refine ⟨Sub.refl _, ?_⟩ | (refine brA_split (fun h => ?_) (fun h => ?_) <;> (try rw [h]) <;> (try simp only [bS, ↓reduceIte] at h)) | (refine ACalls.by hcl ?_; rintro _ s2 ⟨b, cap, rfl, hcap, hb, hs2⟩) | refine getB_same ?_ | refine AWp.anyA ?_ | refine and_a ?_ | fail) <;> (conv => whnf))
    have hs2' : Sub s s2 := by rw [hs2]; exact (Sub.refl s).set hb _ _
    have hb2 : s2.bx b = some (41, (exsA l).flatten ++ (List.replicate (cap - l.length) zx).flatten) := by rw [hs2]; exact set_bx_same
    generalize (List.replicate (cap - l.length) zx).flatten = z at *
    refine AWp.loopA [11] [12, 13, 6, 14, 15, 16, 17, 18, 19, 20, 21, 22, 23, 24, 25, 26, 27, 28, 29, 30, 31, 32, 33, 34, 35, 36, 37, 38, 39, 40, 41, 42, 43, 44, 45, 46, 47, 48, 49, 50, 51, 52] (fun i : Nat => [.int .i64 (i : Int)]) (fun i s' => i ≤ l.length ∧ s'.bx b = some (41, (exsA ((l.take i).map (shiftX by_))).flatten ++ ((exsA (l.drop i)).flatten ++ z)) ∧ Sub s s') (fun i => l.length - i) (0) (by kernel_rfl) (eqa) ?_ ?_
    · refine ⟨Nat.zero_le _, ?_, hs2'⟩
      rw [hb2]; rfl
    · rintro y i s' ⟨hi, hbx, hsub⟩
      show awp _ _ _ _ _ (updL _ _ [.int .i64 ((i : Nat) : Int)]) _
      conv => whnf
      by_cases hlt : i < l.length
      · rw [List.drop_eq_getElem_cons hlt] at hbx
        generalize hx : l[i] = x at *
        have hP : (exsA ((l.take i).map (shiftX by_))).flatten.length = i * 10 := by
          rw [flat_len, List.length_map, List.length_take]
          rw [Nat.min_eq_left hi]
        obtain ⟨Q, hQ⟩ : ∃ Q, (exsA (l.drop (i + 1))).flatten ++ z = Q := ⟨_, rfl⟩
        have hfin : ∀ {s'' : Sto} {x' : Ex}, s''.bx b = some (41, (exsA ((l.take i).map (shiftX by_))).flatten ++ (exA x' ++ Q)) → x' = shiftX by_ x → s''.bx b = some (41, (exsA ((l.take (i + 1)).map (shiftX by_))).flatten ++ ((exsA (l.drop (i + 1))).flatten ++ z)) := by
          rintro s'' x' h1 rfl
          rw [h1, ← hQ, List.take_succ_eq_append_getElem hlt, hx]
          simp [exsA]
        generalize (exsA ((l.take i).map (shiftX by_))).flatten = P at *
        replace hbx : s'.bx b = some (41, P ++ (exA x ++ Q)) := by rw [hbx, ← hQ]; simp [exsA]
        clear hQ
        have hlen : ∀ x : Ex, (P ++ (exA x ++ Q)).length = i * 10 + (10 + Q.length) := fun x => by rw [List.length_append, List.length_append, hP]; rfl
        have hfit : ∀ (x : Ex) (j : Nat), j < 10 → 0 + ((i : Nat) : Int).toNat * 10 + j + 1 ≤ (P ++ (exA x ++ Q)).length := fun x j hj => by rw [hlen]; simp; omega
        by_cases h4 : x.op < 4
        · have d4 : decide (x.op < 4) = true := by simp [h4]
          repeat' ((first | (exfalso; first | omega | exact (by assumption : ¬ True) trivial | fail) | refine ⟨Sub.refl _, ?_⟩ | (refine brA_split (fun h => ?_) (fun h => ?_) <;> (try rw [h]) <;> (try simp only [bS, ↓reduceIte] at h)) | (rw [d4]) | (refine getB_of hbx ?_; refine aload_of (drop_at hP _) ?_) | refine getB_same ?_ | refine AWp.anyA ?_ | refine and_a ?_ | fail) <;> (conv => whnf))
          exact ⟨i + 1, eqa, samea, ⟨hlt, hfin hbx (by simp [shiftX, h4]), hsub⟩, by omega⟩
        · have d4 : decide (x.op < 4) = false := by simp [h4]
          repeat' ((first | (exfalso; first | omega | exact (by assumption : ¬ True) trivial | fail) | refine ⟨Sub.refl _, ?_⟩ | (refine brA_split (fun h => ?_) (fun h => ?_) <;> (try rw [h]) <;> (try simp only [bS, ↓reduceIte] at h)) | (rw [d4]) | (refine getB_of hbx ?_; refine aload_of (drop_at hP _) ?_) | refine getB_same ?_ | refine AWp.anyA ?_ | refine and_a ?_ | fail) <;> (conv => whnf))
          · have h16 : 16 < x.op := by assumption
            exact ⟨i + 1, eqa, samea, ⟨hlt, hfin hbx (by simp [shiftX, h16]), hsub⟩, by omega⟩
          have h16 : ¬ 16 < x.op := by assumption
          refine getB_of hbx ?_
          conv => whnf
          refine ⟨rfl, rfl, hfit x 1 (by decide), frcL_of (put_at (x' := { x with a := IntKind.i64.wrap (x.a + by_) }) hP _ (by decide) rfl) ?_⟩
          conv => whnf
          have hsub2 := fun cs => hsub.set hb 41 cs
          repeat' ((first | (exfalso; first | omega | exact (by assumption : ¬ True) trivial | fail) | refine ⟨Sub.refl _, ?_⟩ | (refine brA_split (fun h => ?_) (fun h => ?_) <;> (try rw [h]) <;> (try simp only [bS, ↓reduceIte] at h)) | (refine getB_of set_bx_same ?_; refine aload_of (drop_at hP _) ?_) | refine getB_same ?_ | refine AWp.anyA ?_ | refine and_a ?_ | fail) <;> (conv => whnf))
          · have h5 : 5 < x.op := by assumption
            refine ⟨hfit _ 2 (by decide), frcL_of (put_at (x' := { x with a := IntKind.i64.wrap (x.a + by_), b := IntKind.i64.wrap (x.b + by_) }) hP _ (by decide) rfl) ?_⟩
            conv => whnf
            repeat' ((first | (exfalso; first | omega | exact (by assumption : ¬ True) trivial | fail) | refine ⟨Sub.refl _, ?_⟩ | (refine brA_split (fun h => ?_) (fun h => ?_) <;> (try rw [h]) <;> (try simp only [bS, ↓reduceIte] at h)) | refine getB_same ?_ | refine AWp.anyA ?_ | refine and_a ?_ | fail) <;> (conv => whnf))
            exact ⟨i + 1, eqa, samea, ⟨hlt, hfin (x' := { x with a := IntKind.i64.wrap (x.a + by_), b := IntKind.i64.wrap (x.b + by_) }) set_bx_same (by simp [shiftX, h4, h16, h5]), (hsub2 _).set hb _ _⟩, by omega⟩
          · have h5 : ¬ 5 < x.op := by assumption
            exact ⟨i + 1, eqa, samea, ⟨hlt, hfin (x' := { x with a := IntKind.i64.wrap (x.a + by_) }) set_bx_same (by simp [shiftX, h4, h16, h5]), hsub2 _⟩, by omega⟩
      · obtain rfl : i = l.length := by omega
        repeat' ((first | (exfalso; first | omega | exact (by assumption : ¬ True) trivial | fail) | refine ⟨Sub.refl _, ?_⟩ | (refine brA_split (fun h => ?_) (fun h => ?_) <;> (try rw [h]) <;> (try simp only [bS, ↓reduceIte] at h)) | refine getB_same ?_ | refine AWp.anyA ?_ | refine and_a ?_ | fail) <;> (conv => whnf))
        rw [List.take_length, List.drop_length] at hbx
        exact ⟨_, Sub.refl _, b, cap, z, rfl, hcap, hb, hbx, hsub⟩
  refine h1.frz ?_
  rintro v s' ⟨b, cap, z, rfl, hcap, hb, hbx, hsub⟩
  refine ⟨fz1 b 10 ((exsA (l.map (shiftX by_))).flatten ++ z), s, fz1_of hb hbx, hsub, ?_, rfl⟩
  have hch := chunks_exs z (l.map (shiftX by_))
  rw [List.length_map] at hch
  show fg (fz _ _) = _
  unfold fz fzW
  simp only [fz1_at]
  rw [if_pos ⟨hcap, by rw [List.drop_zero, List.length_append, flat_len, List.length_map]; omega⟩, List.drop_zero, hch]
  unfold fg
  rw [fgE_exs]
end
end Go.Proofs.YthpnfflkkmpejaaGreatDoor.Pa
namespace Go.Proofs.YthpnfflkkmpejaaGreatDoor
open Go Go.Ab Go.RowKit Go.Shelf
variable {Γ : Nat → AV}
set_option maxRecDepth 100000
def growX : Ren := ⟨fun | 4 => 118 | n => n, fun | 22 => 23 | 25 => 41 | 9 => 9 | 20 => 20 | 0 => 0 | 3 => 3 | 4 => 4 | n => n, fun | n => n⟩
theorem growX_lays : Lays8.n4 Tryz.prog growX where
  mixed := by kernel_rfl
  f4 := ⟨ "slices.Grow[[]proctor/api.Expr,proctor/api.Expr]", by decide, Tryz.func118.trans (congrArg some (by kernel_rfl))⟩
  t0 := Tryz.underlying0
  a0 := Tryz.isAgg0
  z0 := Tryz.sizeOf0
  v0 := Tryz.zeroValue0
  t3 := Tryz.underlying3
  a3 := Tryz.isAgg3
  z3 := Tryz.sizeOf3
  v3 := Tryz.zeroValue3
  t4 := Tryz.underlying4
  a4 := Tryz.isAgg4
  z4 := Tryz.sizeOf4
  v4 := Tryz.zeroValue4
  t9 := Tryz.underlying9
  a9 := Tryz.isAgg9
  z9 := Tryz.sizeOf9
  v9 := Tryz.zeroValue9
  t20 := Tryz.underlying20
  a20 := Tryz.isAgg20
  z20 := Tryz.sizeOf20
  v20 := Tryz.zeroValue20
  t22 := Tryz.underlying23
  a22 := Tryz.isAgg23
  z22 := Tryz.sizeOf23
  v22 := Tryz.zeroValue23
def growI : Ren := ⟨fun | 4 => 120 | n => n, fun | 22 => 51 | 25 => 3 | 9 => 9 | 20 => 20 | 0 => 0 | 3 => 3 | 4 => 4 | n => n, fun | n => n⟩
theorem growI_lays : Lays8.n4 Tryz.prog growI where
  mixed := by kernel_rfl
  f4 := ⟨ "slices.Grow[[]int,int]", by decide, Tryz.func120.trans (congrArg some (by kernel_rfl))⟩
  t0 := Tryz.underlying0
  a0 := Tryz.isAgg0
  z0 := Tryz.sizeOf0
  v0 := Tryz.zeroValue0
  t3 := Tryz.underlying3
  a3 := Tryz.isAgg3
  z3 := Tryz.sizeOf3
  v3 := Tryz.zeroValue3
  t4 := Tryz.underlying4
  a4 := Tryz.isAgg4
  z4 := Tryz.sizeOf4
  v4 := Tryz.zeroValue4
  t9 := Tryz.underlying9
  a9 := Tryz.isAgg9
  z9 := Tryz.sizeOf9
  v9 := Tryz.zeroValue9
  t20 := Tryz.underlying20
  a20 := Tryz.isAgg20
  z20 := Tryz.sizeOf20
  v20 := Tryz.zeroValue20
  t22 := Tryz.underlying51
  a22 := Tryz.isAgg51
  z22 := Tryz.sizeOf51
  v22 := Tryz.zeroValue51
theorem grow_of {f : FuncId} {e : TypeId} {k n : Nat} {s : Sto} {ρ : Ren} (L : Lays8.n4 Tryz.prog ρ) (hf : ρ.f 4 = f) (he : ρ.t 25 = e) {i0 : TypeInfo} {z : Value} (hi : Tryz.prog.info? e = some i0) (hz : i0.zero = some z) (hs : i0.size = k) (hzk : z.cells.size = k) (hk : 0 < k) (hb : i0.bytes ≤ 1000) (hn : n ≤ 10000000) :
    ACalls Tryz.prog Γ f [.slice 1 [], .int .i64 (n : Int)] s fun v s' => ∃ t, v = .slice t [] ∧ Own s s' true t e k := by
  subst hf he hs
  refine grow_nil (fun h0 a w => ?_) (fun h0 a w => ?_)
  · exact Any8.slices_Grow_room L a 0 0 0 w (Nat.le_refl _) (by omega) (by omega) (by omega)
  · refine ⟨_, _, ?_, Any8.slices_Grow_grow L i0 z hi hz hk a 0 0 n [] w (Nat.le_refl _) (by omega) ?_ (by omega) (by simp) (fun _ => rfl) (fun _ _ j v hj => by simp at hj)⟩
    · have := grownCap_ge w (0 + n) 0 (ρ.t 25)
      generalize grownCap w (0 + n) 0 (ρ.t 25) = g at *
      simp only [Array.size_append, size_zeroCells, hzk, List.size_toArray, List.length_nil]
      rw [show g = n + (g - n) by omega, Nat.add_mul]
      simp
    · calc (0 + n) * i0.bytes ≤ 10000000 * 1000 := Nat.mul_le_mul (by omega) hb
        _ ≤ _ := by decide
theorem growX_ok {n : Nat} {s : Sto} (hn : n ≤ 10000000) : ACalls Tryz.prog Γ 118 [.slice 1 [], .int .i64 (n : Int)] s fun v s' => ∃ t, v = .slice t [] ∧ Own s s' true t 41 10 :=
  grow_of (k := 10) growX_lays rfl rfl rfl rfl rfl rfl (by decide) (Nat.le_of_ble_eq_true (by kernel_rfl)) hn
theorem growI_ok {n : Nat} {s : Sto} (hn : n ≤ 10000000) : ACalls Tryz.prog Γ 120 [.slice 1 [], .int .i64 (n : Int)] s fun v s' => ∃ t, v = .slice t [] ∧ Own s s' true t 3 1 :=
  grow_of (k := 1) growI_lays rfl rfl rfl rfl rfl rfl (by decide) (Nat.le_of_ble_eq_true (by kernel_rfl)) hn
end Go.Proofs.YthpnfflkkmpejaaGreatDoor
namespace Go.Proofs.YthpnfflkkmpejaaGreatDoor.Pa
open Go Go.Ab Go.RowKit
variable {Γ : Nat → AV}
attribute [local irreducible] APure Sto.set Sto.grow
set_option maxRecDepth 10000
set_option maxHeartbeats 1000000
theorem _root_.Go.Ab.Own.later {a b c : Sto} {z : Bool} {t : Nat} {e : TypeId} {k : Nat} (h : Own a b z t e k) (hs : Sub b c) : Own a c z t e k :=
  ⟨h.sub.trans hs, h.own.imp id fun x => ⟨x.1, hs.lv _ _ _ x.2.1, x.2.2⟩⟩
def slA {α : Type} (A : α → List AV) (l : List α) : List AV := [.slice 0 (l.map A)]
theorem slA_at {α : Type} {A : α → List AV} {ls : List (List α)} {i : Nat} (h : i < ls.length) : (ls.map (slA A)).getD i [] = [.slice 0 ((ls.getD i []).map A)] := by simp [slA, List.getD, h]
theorem flat_take {α : Type} {ls : List (List α)} {i : Nat} (h : i < ls.length) : (ls.take (i + 1)).flatten = (ls.take i).flatten ++ ls.getD i [] := by
  rw [List.take_add_one, List.flatten_append]; simp [List.getD, h]
theorem flat_le {α : Type} (ls : List (List α)) (i : Nat) : (ls.take i).flatten.length ≤ ls.flatten.length := by
  rw [show ls.flatten = (ls.take i).flatten ++ (ls.drop i).flatten by rw [← List.flatten_append, List.take_append_drop], List.length_append]; omega
theorem isEmpty_app {α : Type} (l m : List α) : (l ++ m).isEmpty = (l.isEmpty && m.isEmpty) := by cases l <;> cases m <;> rfl
section
variable {s : Sto}
theorem concatX_ok {tk : Nat} {ls : List (List Ex)} (hn : ls.length ≤ 100) (hz : ls.flatten.length ≤ 1000000) :
    ACalls Tryz.prog Γ 95 [.slice tk (ls.map (slA exA))] s fun v s' => ∃ t, v = .slice t (ls.flatten.map exA) ∧ Own s s' ls.flatten.isEmpty t 41 10 := by
  have hlen : (ls.map (slA exA)).length = ls.length := List.length_map ..
  refine ACalls.of_awp Tryz.func95 rfl (Nat.le_of_ble_eq_true (by kernel_rfl)) (awp_ok _ (by kernel_rfl) ?_)
  conv => whnf
  repeat' ((first | (exfalso; first | omega | exact (by assumption : ¬ True) trivial | fail) | refine ⟨Sub.refl _, ?_⟩ | (refine brA_split (fun h => ?_) (fun h => ?_) <;> (try rw [h]) <;> (try simp only [bS, ↓reduceIte] at h)) | refine getB_same ?_ | refine AWp.anyA ?_ | refine and_a ?_ | fail) <;> (conv => whnf))
  refine AWp.loopA [3, 11] [12, 13, 14, 5, 15, 16, 17, 18, 19, 20, 21, 22] (fun i : Nat => [.int .i64 ((ls.take i).flatten.length : Int), .int .i64 (i : Int)]) (fun i s' => i ≤ ls.length ∧ s' = s) (fun i => ls.length - i) (0) (by kernel_rfl) (eqa) ?_ ?_
  · exact ⟨Nat.zero_le _, rfl⟩
  · rintro x i s' ⟨hi, hs'⟩
    subst s'
    show awp _ _ _ _ _ (updL _ _ [.int .i64 ((ls.take i).flatten.length : Int), .int .i64 (i : Int)]) _
    conv => whnf
    by_cases hlt : i < ls.length
    · have hat := slA_at (A := exA) hlt
      have hz : ((i : Int)).toNat = i := rfl
      have hle := flat_le ls (i + 1)
      rw [flat_take hlt, List.length_append] at hle
      have hw1 : IntKind.i64.wrap (((ls.take i).flatten.length : Int) + (((ls.getD i []).map exA).length : Int)) = ((ls.take (i + 1)).flatten.length : Int) := i64_of (by rw [flat_take hlt, List.length_append, List.length_map]; omega) (by omega) (by rw [flat_take hlt, List.length_append]; omega)
      have hw2 : IntKind.i64.wrap ((i : Int) + 1) = ((i + 1 : Nat) : Int) := i64_of (by omega) (by omega) (by omega)
      repeat' ((first | (exfalso; first | omega | exact (by assumption : ¬ True) trivial | fail) | refine ⟨Sub.refl _, ?_⟩ | (refine brA_split (fun h => ?_) (fun h => ?_) <;> (try rw [h]) <;> (try simp only [bS, ↓reduceIte] at h)) | (rw [hz]) | (rw [hat]) | (rw [hw1]) | (rw [hw2]) | refine getB_same ?_ | refine AWp.anyA ?_ | refine and_a ?_ | fail) <;> (conv => whnf))
      exact ⟨i + 1, eqa, samea, ⟨hlt, rfl⟩, by omega⟩
    · obtain rfl : i = ls.length := by omega
      rw [List.take_length]
      repeat' ((first | (exfalso; first | omega | exact (by assumption : ¬ True) trivial | fail) | refine ⟨Sub.refl _, ?_⟩ | (refine brA_split (fun h => ?_) (fun h => ?_) <;> (try rw [h]) <;> (try simp only [bS, ↓reduceIte] at h)) | (refine ACalls.by (growX_ok (by omega)) ?_; rintro _ s1 ⟨t0, rfl, ho⟩) | refine getB_same ?_ | refine AWp.anyA ?_ | refine and_a ?_ | fail) <;> (conv => whnf))
      refine AWp.loopA [6, 27] [28, 29, 30, 8, 31, 32, 33, 34] (fun q : Nat × Nat => [.slice q.2 ((ls.take q.1).flatten.map exA), .int .i64 (q.1 : Int)]) (fun q s' => q.1 ≤ ls.length ∧ Own s s' (ls.take q.1).flatten.isEmpty q.2 41 10) (fun q => ls.length - q.1) ((0, t0)) (by kernel_rfl) (eqa) ?_ ?_
      · exact ⟨Nat.zero_le _, ho⟩
      · rintro y ⟨i, t⟩ s' ⟨hi, hown⟩
        simp only at hi hown
        show awp _ _ _ _ _ (updL _ _ [.slice t ((ls.take i).flatten.map exA), .int .i64 (i : Int)]) _
        conv => whnf
        by_cases hlt : i < ls.length
        · have hat := slA_at (A := exA) hlt
          have hz : ((i : Int)).toNat = i := rfl
          have hle := flat_le ls (i + 1)
          rw [flat_take hlt, List.length_append] at hle
          have hw2 : IntKind.i64.wrap ((i : Int) + 1) = ((i + 1 : Nat) : Int) := i64_of (by omega) (by omega) (by omega)
          repeat' ((first | (exfalso; first | omega | exact (by assumption : ¬ True) trivial | fail) | refine ⟨Sub.refl _, ?_⟩ | (refine brA_split (fun h => ?_) (fun h => ?_) <;> (try rw [h]) <;> (try simp only [bS, ↓reduceIte] at h)) | (rw [hz]) | (rw [hat]) | refine getB_same ?_ | refine AWp.anyA ?_ | refine and_a ?_ | fail) <;> (conv => whnf))
          refine ⟨hown.may, fun c hc => by obtain ⟨z, _, rfl⟩ := List.mem_map.1 hc; rfl, fun c hc => by obtain ⟨z, _, rfl⟩ := List.mem_map.1 hc; exact ⟨rfl, rfl⟩, Nat.le_trans (Nat.mul_le_mul_right _ (show _ ≤ 1000000 from by simp only [List.length_map]; omega)) (Nat.le_of_ble_eq_true (by kernel_rfl)), ?_⟩
          intro t2 k1 k2
          have k3 := hown.grow k1 k2
          conv => whnf
          repeat' ((first | (exfalso; first | omega | exact (by assumption : ¬ True) trivial | fail) | refine ⟨Sub.refl _, ?_⟩ | (refine brA_split (fun h => ?_) (fun h => ?_) <;> (try rw [h]) <;> (try simp only [bS, ↓reduceIte] at h)) | (rw [hw2]) | refine getB_same ?_ | refine AWp.anyA ?_ | refine and_a ?_ | fail) <;> (conv => whnf))
          refine ⟨(i + 1, t2), ?_, samea, ⟨hlt, ?_⟩, by simp only; omega⟩
          · dsimp only
            exact cons_eq (congrArg (AV.slice t2) (show (ls.take i).flatten.map exA ++ (ls.getD i []).map exA = _ by rw [flat_take hlt, List.map_append])) (cons_eq rfl rfl)
          · dsimp only
            rw [flat_take hlt, isEmpty_app]
            rw [show ((ls.getD i []).map exA).isEmpty = (ls.getD i []).isEmpty by cases ls.getD i [] <;> rfl] at k3
            exact k3
        · obtain rfl : i = ls.length := by omega
          rw [List.take_length] at hown
          rw [List.take_length]
          repeat' ((first | (exfalso; first | omega | exact (by assumption : ¬ True) trivial | fail) | refine ⟨Sub.refl _, ?_⟩ | (refine brA_split (fun h => ?_) (fun h => ?_) <;> (try rw [h]) <;> (try simp only [bS, ↓reduceIte] at h)) | refine getB_same ?_ | refine AWp.anyA ?_ | refine and_a ?_ | fail) <;> (conv => whnf))
          exact ⟨_, Sub.refl _, t, rfl, hown⟩
def inA (x : Int) : List AV := [.int .i64 x]
theorem concatI_ok {tk : Nat} {ls : List (List Int)} (hn : ls.length ≤ 100) (hz : ls.flatten.length ≤ 1000000) :
    ACalls Tryz.prog Γ 97 [.slice tk (ls.map (slA inA))] s fun v s' => ∃ t, v = .slice t (ls.flatten.map inA) ∧ Own s s' ls.flatten.isEmpty t 3 1 := by
  have hlen : (ls.map (slA inA)).length = ls.length := List.length_map ..
  refine ACalls.of_awp Tryz.func97 rfl (Nat.le_of_ble_eq_true (by kernel_rfl)) (awp_ok _ (by kernel_rfl) ?_)
  conv => whnf
  repeat' ((first | (exfalso; first | omega | exact (by assumption : ¬ True) trivial | fail) | refine ⟨Sub.refl _, ?_⟩ | (refine brA_split (fun h => ?_) (fun h => ?_) <;> (try rw [h]) <;> (try simp only [bS, ↓reduceIte] at h)) | refine getB_same ?_ | refine AWp.anyA ?_ | refine and_a ?_ | fail) <;> (conv => whnf))
  refine AWp.loopA [3, 11] [12, 13, 14, 5, 15, 16, 17, 18, 19, 20, 21, 22] (fun i : Nat => [.int .i64 ((ls.take i).flatten.length : Int), .int .i64 (i : Int)]) (fun i s' => i ≤ ls.length ∧ s' = s) (fun i => ls.length - i) (0) (by kernel_rfl) (eqa) ?_ ?_
  · exact ⟨Nat.zero_le _, rfl⟩
  · rintro x i s' ⟨hi, hs'⟩
    subst s'
    show awp _ _ _ _ _ (updL _ _ [.int .i64 ((ls.take i).flatten.length : Int), .int .i64 (i : Int)]) _
    conv => whnf
    by_cases hlt : i < ls.length
    · have hat := slA_at (A := inA) hlt
      have hz : ((i : Int)).toNat = i := rfl
      have hle := flat_le ls (i + 1)
      rw [flat_take hlt, List.length_append] at hle
      have hw1 : IntKind.i64.wrap (((ls.take i).flatten.length : Int) + (((ls.getD i []).map inA).length : Int)) = ((ls.take (i + 1)).flatten.length : Int) := i64_of (by rw [flat_take hlt, List.length_append, List.length_map]; omega) (by omega) (by rw [flat_take hlt, List.length_append]; omega)
      have hw2 : IntKind.i64.wrap ((i : Int) + 1) = ((i + 1 : Nat) : Int) := i64_of (by omega) (by omega) (by omega)
      repeat' ((first | (exfalso; first | omega | exact (by assumption : ¬ True) trivial | fail) | refine ⟨Sub.refl _, ?_⟩ | (refine brA_split (fun h => ?_) (fun h => ?_) <;> (try rw [h]) <;> (try simp only [bS, ↓reduceIte] at h)) | (rw [hz]) | (rw [hat]) | (rw [hw1]) | (rw [hw2]) | refine getB_same ?_ | refine AWp.anyA ?_ | refine and_a ?_ | fail) <;> (conv => whnf))
      exact ⟨i + 1, eqa, samea, ⟨hlt, rfl⟩, by omega⟩
    · obtain rfl : i = ls.length := by omega
      rw [List.take_length]
      repeat' ((first | (exfalso; first | omega | exact (by assumption : ¬ True) trivial | fail) | refine ⟨Sub.refl _, ?_⟩ | (refine brA_split (fun h => ?_) (fun h => ?_) <;> (try rw [h]) <;> (try simp only [bS, ↓reduceIte] at h)) | (refine ACalls.by (growI_ok (by omega)) ?_; rintro _ s1 ⟨t0, rfl, ho⟩) | refine getB_same ?_ | refine AWp.anyA ?_ | refine and_a ?_ | fail) <;> (conv => whnf))
      refine AWp.loopA [6, 27] [28, 29, 30, 8, 31, 32, 33, 34] (fun q : Nat × Nat => [.slice q.2 ((ls.take q.1).flatten.map inA), .int .i64 (q.1 : Int)]) (fun q s' => q.1 ≤ ls.length ∧ Own s s' (ls.take q.1).flatten.isEmpty q.2 3 1) (fun q => ls.length - q.1) ((0, t0)) (by kernel_rfl) (eqa) ?_ ?_
      · exact ⟨Nat.zero_le _, ho⟩
      · rintro y ⟨i, t⟩ s' ⟨hi, hown⟩
        simp only at hi hown
        show awp _ _ _ _ _ (updL _ _ [.slice t ((ls.take i).flatten.map inA), .int .i64 (i : Int)]) _
        conv => whnf
        by_cases hlt : i < ls.length
        · have hat := slA_at (A := inA) hlt
          have hz : ((i : Int)).toNat = i := rfl
          have hle := flat_le ls (i + 1)
          rw [flat_take hlt, List.length_append] at hle
          have hw2 : IntKind.i64.wrap ((i : Int) + 1) = ((i + 1 : Nat) : Int) := i64_of (by omega) (by omega) (by omega)
          repeat' ((first | (exfalso; first | omega | exact (by assumption : ¬ True) trivial | fail) | refine ⟨Sub.refl _, ?_⟩ | (refine brA_split (fun h => ?_) (fun h => ?_) <;> (try rw [h]) <;> (try simp only [bS, ↓reduceIte] at h)) | (rw [hz]) | (rw [hat]) | refine getB_same ?_ | refine AWp.anyA ?_ | refine and_a ?_ | fail) <;> (conv => whnf))
          refine ⟨hown.may, fun c hc => by obtain ⟨z, _, rfl⟩ := List.mem_map.1 hc; rfl, fun c hc => by obtain ⟨z, _, rfl⟩ := List.mem_map.1 hc; exact ⟨rfl, rfl⟩, Nat.le_trans (Nat.mul_le_mul_right _ (show _ ≤ 1000000 from by simp only [List.length_map]; omega)) (Nat.le_of_ble_eq_true (by kernel_rfl)), ?_⟩
          intro t2 k1 k2
          have k3 := hown.grow k1 k2
          conv => whnf
          repeat' ((first | (exfalso; first | omega | exact (by assumption : ¬ True) trivial | fail) | refine ⟨Sub.refl _, ?_⟩ | (refine brA_split (fun h => ?_) (fun h => ?_) <;> (try rw [h]) <;> (try simp only [bS, ↓reduceIte] at h)) | (rw [hw2]) | refine getB_same ?_ | refine AWp.anyA ?_ | refine and_a ?_ | fail) <;> (conv => whnf))
          refine ⟨(i + 1, t2), ?_, samea, ⟨hlt, ?_⟩, by simp only; omega⟩
          · dsimp only
            exact cons_eq (congrArg (AV.slice t2) (show (ls.take i).flatten.map inA ++ (ls.getD i []).map inA = _ by rw [flat_take hlt, List.map_append])) (cons_eq rfl rfl)
          · dsimp only
            rw [flat_take hlt, isEmpty_app]
            rw [show ((ls.getD i []).map inA).isEmpty = (ls.getD i []).isEmpty by cases ls.getD i [] <;> rfl] at k3
            exact k3
        · obtain rfl : i = ls.length := by omega
          rw [List.take_length] at hown
          rw [List.take_length]
          repeat' ((first | (exfalso; first | omega | exact (by assumption : ¬ True) trivial | fail) | refine ⟨Sub.refl _, ?_⟩ | (refine brA_split (fun h => ?_) (fun h => ?_) <;> (try rw [h]) <;> (try simp only [bS, ↓reduceIte] at h)) | refine getB_same ?_ | refine AWp.anyA ?_ | refine and_a ?_ | fail) <;> (conv => whnf))
          exact ⟨_, Sub.refl _, t, rfl, hown⟩
end
end Go.Proofs.YthpnfflkkmpejaaGreatDoor.Pa
namespace Go.Proofs.YthpnfflkkmpejaaGreatDoor.Pa
open Go Go.Ab Go.RowKit Go.Proofs.YthpnfflkkmpejaaGreatDoor.Lx
variable {Γ : Nat → AV}
theorem own_apart {a b c : Sto} {z z2 : Bool} {t t2 : Nat} {e e2 : TypeId} {k k2 : Nat} (h : Own a b z t e k) (h2 : Own b c z2 t2 e2 k2) : t = t2 → t = 1 := fun ht => by
  rcases h.own with ⟨h1, _⟩ | ⟨h1, h3, _⟩
  · exact h1
  · rcases h2.own with ⟨h4, _⟩ | ⟨_, _, h5⟩
    · exact ht.trans h4
    · subst ht; exact absurd h3 (h5 _ _)
theorem exs_all (l : List Ex) : ∀ c ∈ exsA l, c.length = 10 := fun c hc => by obtain ⟨z, _, rfl⟩ := List.mem_map.1 hc; rfl
theorem ints_all (l : List Int) : ∀ c ∈ intsA .i64 l, c.length = 1 := fun c hc => by obtain ⟨z, _, rfl⟩ := List.mem_map.1 hc; rfl
theorem le_len {α : Type} {l : List α} {n a : Nat} (h : l.length = n) (k : a ≤ n) : a ≤ l.length := h ▸ k
attribute [local irreducible] APure Sto.set Sto.grow
set_option maxRecDepth 10000
set_option maxHeartbeats 1500000
theorem turn_ok (L : List Tok) (hL : L.length ≤ 90000) : Turns Γ L := by
  intro s0 s bp bl st i j hP hS hij hjl
  obtain ⟨t1, t2, hb, w1, w2, w3⟩ := hP.pr
  have hso := hS.ho
  have hsa := hS.ha
  have hd := hS.hd
  have hol := exsA_len st.o
  have hdl := intsA_len .i64 st.d
  have hA : List.drop ((i : Int)).toNat (List.take ((j : Int)).toNat (exsA st.o)) = exsA ((st.o.take j).drop i) := by simp [exsA, List.map_take, List.map_drop]
  have hB : List.drop ((j : Int)).toNat (List.take (exsA st.o).length (exsA st.o)) = exsA (st.o.drop j) := by rw [Int.toNat_natCast, drop_take_all]; simp [exsA, List.map_drop]
  have hC : List.drop 0 (List.take ((i : Int)).toNat (exsA st.o)) = exsA (st.o.take i) := by simp [exsA, List.map_take]
  have hD : List.drop 0 (List.take ((i : Int)).toNat (intsA .i64 st.d)) = intsA .i64 (st.d.take i) := by simp [intsA, List.map_take]
  have hE : List.drop ((j : Int)).toNat (List.take (intsA .i64 st.d).length (intsA .i64 st.d)) = intsA .i64 (st.d.drop j) := by rw [Int.toNat_natCast, drop_take_all]; simp [intsA, List.map_drop]
  have hF : List.drop ((i : Int)).toNat (List.take ((j : Int)).toNat (intsA .i64 st.d)) = intsA .i64 ((st.d.take j).drop i) := by simp [intsA, List.map_take, List.map_drop]
  have hz1 : ((i : Int)).toNat = i := rfl
  have hz2 : ((j : Int)).toNat = j := rfl
  have hl1 : (exsA ((st.o.take j).drop i)).length = j - i := by rw [exsA_len, List.length_drop, List.length_take]; omega
  have hl2 : (exsA (st.o.drop j)).length = st.o.length - j := by rw [exsA_len, List.length_drop]
  have hw1 : IntKind.i64.wrap (0 - ((j - i : Nat) : Int)) = -((j - i : Nat) : Int) := i64_of (by omega) (by omega) (by omega)
  have hs1 := fun tk => ACalls.pure' (s := s) (K := fun v s' => v = .slice 0 (exsA ((st.o.drop j).map (shiftX (-((j - i : Nat) : Int))))) ∧ s' = s) (fun v hv => ⟨hv, rfl⟩) (shift_ok (Γ := Γ) (tk := tk) (l := st.o.drop j) (by_ := -((j - i : Nat) : Int)) (by rw [Ne, ← List.length_eq_zero_iff, List.length_drop]; omega) (by rw [List.length_drop]; omega))
  have hs2 := fun tk => ACalls.pure' (s := s) (K := fun v s' => v = .slice 0 (exsA (((st.o.take j).drop i).map (shiftX ((st.o.length - j : Nat) : Int)))) ∧ s' = s) (fun v hv => ⟨hv, rfl⟩) (shift_ok (Γ := Γ) (tk := tk) (l := (st.o.take j).drop i) (by_ := ((st.o.length - j : Nat) : Int)) (by rw [Ne, ← List.length_eq_zero_iff, List.length_drop, List.length_take]; omega) (by rw [List.length_drop, List.length_take]; omega))
  have hc1 := concatX_ok (Γ := Γ) (s := s) (tk := 1) (ls := [st.o.take i, (st.o.drop j).map (shiftX (-((j - i : Nat) : Int))), ((st.o.take j).drop i).map (shiftX ((st.o.length - j : Nat) : Int))]) (by simp) (by simp only [List.flatten_cons, List.flatten_nil, List.length_append, List.length_map, List.length_take, List.length_drop, List.length_nil]; omega)
  refine ACalls.of_awp Tryz.func82 rfl (Nat.le_of_ble_eq_true (by kernel_rfl)) (awp_ok _ (by kernel_rfl) ?_)
  conv => whnf
  repeat' ((first | (exfalso; first | omega | exact (by assumption : ¬ True) trivial | fail) | refine ⟨Sub.refl _, ?_⟩ | (refine brA_split (fun h => ?_) (fun h => ?_) <;> (try rw [h]) <;> (try simp only [bS, ↓reduceIte] at h)) | (refine getB_of hb ?_) | (rw [hA]) | (rw [hB]) | (rw [hC]) | (refine ⟨exs_all _, ?_⟩) | (refine ⟨le_len hol (by omega), ?_⟩) | (refine AWp.anyC (id := 1) [32, 36] [38] (by kernel_rfl) (by kernel_rfl) (by kernel_rfl) (by kernel_rfl) ?_) | (refine ⟨trivial, ?_⟩) | (rw [hl1]) | (rw [hl2]) | (rw [hw1]) | (refine CCall.mk _ (hs1 _) ?_) | (refine CCall.mk _ (hs2 _) ?_) | (refine ACalls.by hc1 ?_; rintro _ s1 ⟨t3, rfl, ho1⟩) | refine getB_same ?_ | refine AWp.anyA ?_ | refine and_a ?_ | fail) <;> (conv => whnf))
  have hb1 := ho1.sub.bx _ _ hb
  have hl3 := ho1.sub.bx _ _ hP.pl
  obtain ⟨o', ho'⟩ : ∃ o', o' = [st.o.take i, (st.o.drop j).map (shiftX (-((j - i : Nat) : Int))), ((st.o.take j).drop i).map (shiftX ((st.o.length - j : Nat) : Int))].flatten := ⟨_, rfl⟩
  rw [← ho'] at ho1
  rw [← ho']
  have hc2 := concatI_ok (Γ := Γ) (s := s1.set bp 53 [.ptr (some ⟨bl, 0, none⟩), .slice t3 (o'.map exA), .slice t2 (intsA .i64 st.d), .int .i64 st.k]) (tk := 1) (ls := [st.d.take i, st.d.drop j, (st.d.take j).drop i]) (by simp) (by simp only [List.flatten_cons, List.flatten_nil, List.length_append, List.length_map, List.length_take, List.length_drop, List.length_nil]; omega)
  obtain ⟨d', hd'⟩ : ∃ d', d' = [st.d.take i, st.d.drop j, (st.d.take j).drop i].flatten := ⟨_, rfl⟩
  rw [← hd'] at hc2
  refine getB_of hb1 ?_
  conv => whnf
  refine ⟨rfl, rfl, Nat.le_of_ble_eq_true rfl, ?_⟩
  conv => whnf
  refine AWp.anyC (id := 2) [] [62] (by kernel_rfl) (by kernel_rfl) (by kernel_rfl) (by kernel_rfl) ?_
  conv => whnf
  repeat' ((first | (exfalso; first | omega | exact (by assumption : ¬ True) trivial | fail) | refine ⟨Sub.refl _, ?_⟩ | (refine brA_split (fun h => ?_) (fun h => ?_) <;> (try rw [h]) <;> (try simp only [bS, ↓reduceIte] at h)) | (refine ⟨trivial, ?_⟩) | (refine getB_of set_bx_same ?_) | (rw [hD]) | refine getB_same ?_ | refine AWp.anyA ?_ | refine and_a ?_ | fail) <;> (conv => whnf))
  refine ⟨ints_all _, ?_⟩
  conv => whnf
  repeat' ((first | (exfalso; first | omega | exact (by assumption : ¬ True) trivial | fail) | refine ⟨Sub.refl _, ?_⟩ | (refine brA_split (fun h => ?_) (fun h => ?_) <;> (try rw [h]) <;> (try simp only [bS, ↓reduceIte] at h)) | (refine ⟨trivial, ?_⟩) | (refine getB_of set_bx_same ?_) | refine getB_same ?_ | refine AWp.anyA ?_ | refine and_a ?_ | fail) <;> (conv => whnf))
  rw [hE]
  refine ⟨ints_all _, ?_⟩
  conv => whnf
  repeat' ((first | (exfalso; first | omega | exact (by assumption : ¬ True) trivial | fail) | refine ⟨Sub.refl _, ?_⟩ | (refine brA_split (fun h => ?_) (fun h => ?_) <;> (try rw [h]) <;> (try simp only [bS, ↓reduceIte] at h)) | (refine ⟨trivial, ?_⟩) | (refine getB_of set_bx_same ?_) | refine getB_same ?_ | refine AWp.anyA ?_ | refine and_a ?_ | fail) <;> (conv => whnf))
  rw [hF]
  refine ⟨ints_all _, ?_⟩
  conv => whnf
  repeat' ((first | (exfalso; first | omega | exact (by assumption : ¬ True) trivial | fail) | refine ⟨Sub.refl _, ?_⟩ | (refine brA_split (fun h => ?_) (fun h => ?_) <;> (try rw [h]) <;> (try simp only [bS, ↓reduceIte] at h)) | (refine ⟨trivial, ?_⟩) | refine getB_same ?_ | refine AWp.anyA ?_ | refine and_a ?_ | fail) <;> (conv => whnf))
  refine ACalls.by hc2 ?_
  rintro _ s2 ⟨t4, rfl, ho2⟩
  conv => whnf
  have hb2 := ho2.sub.bx _ _ set_bx_same
  have hl4 := ho2.sub.bx _ _ ((set_bx_other hP.ne.symm).trans hl3)
  repeat' ((first | (exfalso; first | omega | exact (by assumption : ¬ True) trivial | fail) | refine ⟨Sub.refl _, ?_⟩ | (refine brA_split (fun h => ?_) (fun h => ?_) <;> (try rw [h]) <;> (try simp only [bS, ↓reduceIte] at h)) | (refine getB_of hb2 ?_) | (refine ⟨trivial, ?_⟩) | refine getB_same ?_ | refine AWp.anyA ?_ | refine and_a ?_ | fail) <;> (conv => whnf))
  have w4 := ((ho1.of_sub hP.sub).set (T := 53) (cs := [.ptr (some ⟨bl, 0, none⟩), .slice t3 (o'.map exA), .slice t2 (intsA .i64 st.d), .int .i64 st.k]) hP.np)
  have w5 := w4.later ho2.sub
  have w6 := ho2.of_sub w4.sub
  have ho3 : (turnF st i j).o = o' := by rw [ho']; simp [turnF, List.append_assoc]
  have hd3 : (turnF st i j).d = d' := by rw [hd']; simp [turnF, List.append_assoc]
  rw [ho3, hd3]
  exact ⟨_, Sub.refl _, rfl, hP.np, hP.nl, hP.ne, ⟨t3, t4, set_bx_same, w5.set hP.np, w6.set hP.np, own_apart w4 ho2⟩, (set_bx_other hP.ne.symm).trans hl4⟩
end Go.Proofs.YthpnfflkkmpejaaGreatDoor.Pa
namespace Go.Proofs.YthpnfflkkmpejaaGreatDoor.Pa
open Go Go.Ab Go.RowKit Go.Proofs.YthpnfflkkmpejaaGreatDoor.Lx
variable {Γ : Nat → AV}
theorem lev_zero {L : List Tok} {n : FuncId} {lv : Nat} : Lev Γ L n 0 lv := fun _ _ _ _ _ _ _ hE => absurd hE (Nat.not_lt_zero _)
theorem levels (hR : Nu.ErrR Γ) {L : List Tok} (hL : L.length ≤ 90000) (hT : ∀ i, (peekF L i).2.1.length ≤ 5000) : ∀ f, Lev Γ L 11 f 0 ∧ Lev Γ L 23 f 1 ∧ Lev Γ L 43 f 2 ∧ Lev Γ L 64 f 3 ∧ Lev Γ L 81 f 4 ∧ Lev Γ L 94 f 5 ∧ Lev Γ L 117 f 6
  | 0 => ⟨lev_zero, lev_zero, lev_zero, lev_zero, lev_zero, lev_zero, lev_zero⟩
  | f + 1 => by
    obtain ⟨h0, h1, h2, h3, h4, h5, h6⟩ := levels hR hL hT f
    exact ⟨expr_ok hL h1, and_ok hL h2, not_ok hL h3 h2, comp_ok hL (turn_ok L hL) h4, sum_ok hL h5, prod_ok hL h6, unary_ok hR hL hT h0 h6⟩
/-- An expression, with fuel enough. -/
def fuelN (L : List Tok) : Nat := 7 * L.length + 7
theorem enough_all (L : List Tok) (st : St) : Enough L 0 (fuelN L) st := by unfold Enough fuelN; omega
end Go.Proofs.YthpnfflkkmpejaaGreatDoor.Pa
namespace Go.Proofs.YthpnfflkkmpejaaGreatDoor.AsP
open Go Go.RowKit Go.Extern.Stop Go.Stop Go.Extern
set_option maxRecDepth 10000
theorem valueOfPE (t : Addr) (w : World) : (ReflectliteValue.unpack (.iface 69 (.pointer (some t)))).run Tryz.prog w
    = .ok (.agg #[.pointer (some ⟨12, 69, none⟩), .pointer (some ⟨w.heap.size, 0, none⟩), .int .u64 150]) (w.alloc (.cells #[.pointer (some t)] 69)) := by kernel_rfl
theorem typePE (a : Addr) (w : World) : (ReflectliteValue.methodAny (ReflectliteValue.valueError "reflectlite.Value.Type" 0) (fun t _ _ _ => ReflectliteType.toType t) #[(.agg #[.pointer (some ⟨12, 69, none⟩), .pointer (some a), .int .u64 150])]).run Tryz.prog w
    = .ok (.iface 117 (.agg #[.pointer (some ⟨12, 69, none⟩)])) w := by kernel_rfl
theorem methodKind (h : Value) (w : World) : (Go.method 356 117 (.agg #[h]) "Kind").run Tryz.prog w = .ok (188, h) w := by kernel_rfl
theorem kindPE (w : World) : ((ReflectliteType.abiMethod fun t => (fun a : Nat => Value.int IntKind.u8 (a : Int)) <$> Rtype.kind t) #[.pointer (some ⟨12, 69, none⟩)]).run Tryz.prog w = .ok (.int .u8 22) w := by kernel_rfl
theorem kindE (w : World) : ((ReflectliteType.abiMethod fun t => (fun a : Nat => Value.int IntKind.u8 (a : Int)) <$> Rtype.kind t) #[.pointer (some ⟨12, 67, none⟩)]).run Tryz.prog w = .ok (.int .u8 22) w := by kernel_rfl
theorem rlm (z : Sem Value) (f : TypeId → Addr → Nat → Nat → Sem Value) (v : Value) :
    ReflectliteValue.method z f #[v] = (do match ← ReflectliteValue.parts v with | none => z | some (t, a, fl) => f t a fl (fl % 32)) := rfl
theorem partsPE (a : Addr) (w : World) : (ReflectliteValue.parts (.agg #[.pointer (some ⟨12, 69, none⟩), .pointer (some a), .int .u64 150])).run Tryz.prog w = .ok (some (69, a, 150)) w := by kernel_rfl
theorem isNilPE (a p : Addr) (W : World) (ha : W.cell? a = some (.pointer (some p))) :
    (ReflectliteValue.method (ReflectliteValue.valueError "reflectlite.Value.IsNil" 0) ReflectliteValue.isNil #[(.agg #[.pointer (some ⟨12, 69, none⟩), .pointer (some a), .int .u64 150])]).run Tryz.prog W = .ok (.bool false) W := by
  rw [rlm]
  simp only [Sem.run_bind, partsPE, Result.andThen]
  simp [ReflectliteValue.isNil, loadVar, isAgg, underlying, Tryz.underlying69, ha, Result.andThen]
theorem methodElem (h : Value) (w : World) : (Go.method 356 117 (.agg #[h]) "Elem").run Tryz.prog w = .ok (201, .agg #[h]) w := by kernel_rfl
theorem methodImplements (h : Value) (w : World) : (Go.method 356 117 (.agg #[h]) "Implements").run Tryz.prog w = .ok (202, .agg #[h]) w := by kernel_rfl
theorem methodAssignableTo (h : Value) (w : World) : (Go.method 356 117 (.agg #[h]) "AssignableTo").run Tryz.prog w = .ok (199, .agg #[h]) w := by kernel_rfl
theorem elemPE (w : World) : (ReflectliteType.method ReflectliteType.elem #[.agg #[.pointer (some ⟨12, 69, none⟩)]]).run Tryz.prog w = .ok (.iface 117 (.agg #[.pointer (some ⟨12, 67, none⟩)])) w := by kernel_rfl
theorem implementsE (w : World) : (ReflectliteType.relation "Implements" ReflectliteType.implements_ #[.agg #[.pointer (some ⟨12, 67, none⟩)], (.iface 117 (.agg #[.pointer (some ⟨12, 48, none⟩)]))]).run Tryz.prog w = .ok (.bool true) w := by kernel_rfl
theorem typeOfE (v : Value) (w : World) : (ReflectliteType.typeOf #[.iface 67 v]).run Tryz.prog w = .ok (.iface 117 (.agg #[.pointer (some ⟨12, 67, none⟩)])) w := by kernel_rfl
theorem assignableE (w : World) : (ReflectliteType.relation "AssignableTo" ReflectliteType.assignableTo #[.agg #[.pointer (some ⟨12, 67, none⟩)], (.iface 117 (.agg #[.pointer (some ⟨12, 67, none⟩)]))]).run Tryz.prog w = .ok (.bool true) w := by kernel_rfl
theorem valueOfE (e : Option Addr) (w : World) : (ReflectliteValue.unpack (.iface 67 (.pointer e))).run Tryz.prog w
    = .ok (.agg #[.pointer (some ⟨12, 67, none⟩), .pointer (some ⟨w.heap.size, 0, none⟩), .int .u64 150]) (w.alloc (.cells #[.pointer e] 67)) := by kernel_rfl
theorem elemOfPE (w : World) : (Rtype.elem? 69).run Tryz.prog w = .ok (some 67) w := by kernel_rfl
theorem mkE (p : Addr) (w : World) : (ReflectliteValue.mk 67 p ReflectliteValue.flagAddr).run Tryz.prog w = .ok (.agg #[.pointer (some ⟨12, 67, none⟩), .pointer (some p), .int .u64 406]) w := by kernel_rfl
theorem elemVPE (a p : Addr) (W : World) (ha : W.cell? a = some (.pointer (some p))) :
    (ReflectliteValue.method (ReflectliteValue.valueError "reflectlite.Value.Elem" 0) ReflectliteValue.elem #[(.agg #[.pointer (some ⟨12, 69, none⟩), .pointer (some a), .int .u64 150])]).run Tryz.prog W
      = .ok (.agg #[.pointer (some ⟨12, 67, none⟩), .pointer (some p), .int .u64 406]) W := by
  rw [rlm]
  simp only [Sem.run_bind, partsPE, Result.andThen]
  simp [ReflectliteValue.elem, loadVar, isAgg, underlying, Tryz.underlying69, ha, Result.andThen, elemOfPE, mkE]
theorem rls (v x : Value) : ReflectliteValue.set #[v, x] = (do
    let (some (dst, a, fl), some (src, b, _)) := (← ReflectliteValue.parts v, ← ReflectliteValue.parts x)
      | unsupported (.noEntry "extern/(internal/reflectlite.Value).Set.zeroValue")
    if fl / ReflectliteValue.flagAddr % 2 == 0 then unsupported (.noEntry "extern/(internal/reflectlite.Value).Set.unaddressable")
    let val ← loadVar src b
    if ← Rtype.directlyAssignable dst src then storeVar dst a val
    else if ← Rtype.implements dst src then
      if (← Rtype.kind src) == 20 then
        match val with
        | .nilIface => unsupported (.noEntry "extern/reflectlite: a nil value of one interface type handed on as a value of another")
        | _ => storeVar dst a val
      else storeVar dst a (.iface src val)
    else panicString ("reflectlite.Set: value of type " ++ (← Rtype.spelt src) ++ " is not assignable to type " ++ (← Rtype.spelt dst))
    pure (.tuple #[])) := rfl
theorem partsDst (a : Addr) (w : World) : (ReflectliteValue.parts (.agg #[.pointer (some ⟨12, 67, none⟩), .pointer (some a), .int .u64 406])).run Tryz.prog w = .ok (some (67, a, 406)) w := by kernel_rfl
theorem partsSrc (b : Addr) (w : World) : (ReflectliteValue.parts (.agg #[.pointer (some ⟨12, 67, none⟩), .pointer (some b), .int .u64 150])).run Tryz.prog w = .ok (some (67, b, 150)) w := by kernel_rfl
theorem directE (w : World) : (Rtype.directlyAssignable 67 67).run Tryz.prog w = .ok true w := by kernel_rfl
theorem setE (a b : Addr) (val : Value) (W W' : World) (hl : (loadVar 67 b).run Tryz.prog W = .ok val W) (hs : (storeVar 67 a val).run Tryz.prog W = .ok () W') :
    (ReflectliteValue.set #[(.agg #[.pointer (some ⟨12, 67, none⟩), .pointer (some a), .int .u64 406]), (.agg #[.pointer (some ⟨12, 67, none⟩), .pointer (some b), .int .u64 150])]).run Tryz.prog W = .ok (.tuple #[]) W' := by
  rw [rls]
  simp only [Sem.run_bind, partsDst, partsSrc, Result.andThen]
  simp [ReflectliteValue.flagAddr, hl, Result.andThen, directE, hs]
theorem as_nil (t : Value) (w : World) :
    Calls Tryz.prog 20 #[.nilIface, t] w fun e w' => e = .returned (.bool false) ∧ w' = w := by
  go_enter Tryz.func20, Tryz.ntmps20
  go_wp2
  go_ret
  exact ⟨rfl, rfl⟩
set_option maxHeartbeats 4000000 in
theorem as_hit (e : Option Addr) (t : Addr) (old val : Value) (w W' : World) (hg : w.cell? ⟨0, 0, none⟩ = some (.iface 117 (.agg #[.pointer (some ⟨12, 48, none⟩)]))) (ht0 : w.cell? t = some old)
    (hl : (loadVar 67 ⟨w.heap.size + 1 + 1 + 1, 0, none⟩).run Tryz.prog ((((w.alloc (.cells #[.pointer (some t)] 69)).alloc (.cells #[.pointer (some ⟨12, 69, none⟩), .pointer (some ⟨w.heap.size, 0, none⟩), .int .u64 150] 93)).alloc (.cells #[.pointer (some ⟨12, 69, none⟩), .pointer (some ⟨w.heap.size, 0, none⟩), .int .u64 150] 93)).alloc (.cells #[.pointer e] 67)) = .ok val ((((w.alloc (.cells #[.pointer (some t)] 69)).alloc (.cells #[.pointer (some ⟨12, 69, none⟩), .pointer (some ⟨w.heap.size, 0, none⟩), .int .u64 150] 93)).alloc (.cells #[.pointer (some ⟨12, 69, none⟩), .pointer (some ⟨w.heap.size, 0, none⟩), .int .u64 150] 93)).alloc (.cells #[.pointer e] 67))) (hs : (storeVar 67 t val).run Tryz.prog ((((w.alloc (.cells #[.pointer (some t)] 69)).alloc (.cells #[.pointer (some ⟨12, 69, none⟩), .pointer (some ⟨w.heap.size, 0, none⟩), .int .u64 150] 93)).alloc (.cells #[.pointer (some ⟨12, 69, none⟩), .pointer (some ⟨w.heap.size, 0, none⟩), .int .u64 150] 93)).alloc (.cells #[.pointer e] 67)) = .ok () W') :
    Calls Tryz.prog 20 #[.iface 67 (.pointer e), .iface 69 (.pointer (some t))] w fun ev w' => ev = .returned (.bool true) ∧ w' = W' := by
  have h6 := @run_callFunc_extern Tryz.prog 35 _ (fun args => ReflectliteValue.unpack (args.getD 0 (.tuple #[]))) Tryz.func35 (by kernel_rfl) (by kernel_rfl) (by kernel_rfl) (by kernel_rfl)
  have h7 := @run_callFunc_extern Tryz.prog 36 _ (ReflectliteValue.methodAny (ReflectliteValue.valueError "reflectlite.Value.Type" 0) (fun t _ _ _ => ReflectliteType.toType t)) Tryz.func36 (by kernel_rfl) (by kernel_rfl) (by kernel_rfl) (by kernel_rfl)
  have h8 := @run_callFunc_extern Tryz.prog 37 _ (ReflectliteValue.method (ReflectliteValue.valueError "reflectlite.Value.IsNil" 0) ReflectliteValue.isNil) Tryz.func37 (by kernel_rfl) (by kernel_rfl) (by kernel_rfl) (by kernel_rfl)
  have h27 := @run_callFunc_extern Tryz.prog 188 _ (ReflectliteType.abiMethod fun t => do pure (.int .u8 (← Rtype.kind t))) Tryz.func188 (by kernel_rfl) (by kernel_rfl) (by kernel_rfl) (by kernel_rfl)
  have h37 := @run_callFunc_extern Tryz.prog 201 _ (ReflectliteType.method ReflectliteType.elem) Tryz.func201 (by kernel_rfl) (by kernel_rfl) (by kernel_rfl) (by kernel_rfl)
  have h38 := @run_callFunc_extern Tryz.prog 202 _ (ReflectliteType.relation "Implements" ReflectliteType.implements_) Tryz.func202 (by kernel_rfl) (by kernel_rfl) (by kernel_rfl) (by kernel_rfl)
  have h10 := @run_callFunc_extern Tryz.prog 58 _ ReflectliteType.typeOf Tryz.func58 (by kernel_rfl) (by kernel_rfl) (by kernel_rfl) (by kernel_rfl)
  have h35 := @run_callFunc_extern Tryz.prog 199 _ (ReflectliteType.relation "AssignableTo" ReflectliteType.assignableTo) Tryz.func199 (by kernel_rfl) (by kernel_rfl) (by kernel_rfl) (by kernel_rfl)
  have h11 := @run_callFunc_extern Tryz.prog 59 _ (ReflectliteValue.method (ReflectliteValue.valueError "reflectlite.Value.Elem" 0) ReflectliteValue.elem) Tryz.func59 (by kernel_rfl) (by kernel_rfl) (by kernel_rfl) (by kernel_rfl)
  have h12 := @run_callFunc_extern Tryz.prog 60 _ ReflectliteValue.set Tryz.func60 (by kernel_rfl) (by kernel_rfl) (by kernel_rfl) (by kernel_rfl)
  have tO := typeOfE
  have mA := methodAssignableTo
  have aE := assignableE
  have vE := valueOfE
  have f6 := valueOfPE
  have f7 := typePE
  have mK := methodKind
  have mE := methodElem
  have mI := methodImplements
  have kP := kindPE
  have kE := kindE
  have eP := elemPE
  have iE := implementsE
  have n8 := isNilPE ⟨w.heap.size, 0, none⟩ t ((w.alloc (.cells #[.pointer (some t)] 69)).alloc (.cells #[.pointer (some ⟨12, 69, none⟩), .pointer (some ⟨w.heap.size, 0, none⟩), .int .u64 150] 93)) (by simp)
  have hlt : 0 < w.heap.size := by
    rcases Nat.lt_or_ge 0 w.heap.size with h | h
    · exact h
    · simp [World.cell?, Array.getElem?_eq_none h] at hg
  have hg2 : ((w.alloc (.cells #[.pointer (some t)] 69)).alloc (.cells #[.pointer (some ⟨12, 69, none⟩), .pointer (some ⟨w.heap.size, 0, none⟩), .int .u64 150] 93)).cell? ⟨0, 0, none⟩ = some (.iface 117 (.agg #[.pointer (some ⟨12, 48, none⟩)])) := by
    rw [World.cell?_alloc_lt _ _ ⟨0, 0, none⟩ (by first | (simp; done) | (simp; omega)), World.cell?_alloc_lt _ _ ⟨0, 0, none⟩ hlt]; exact hg
  have el := elemVPE ⟨w.heap.size, 0, none⟩ t (((w.alloc (.cells #[.pointer (some t)] 69)).alloc (.cells #[.pointer (some ⟨12, 69, none⟩), .pointer (some ⟨w.heap.size, 0, none⟩), .int .u64 150] 93)).alloc (.cells #[.pointer (some ⟨12, 69, none⟩), .pointer (some ⟨w.heap.size, 0, none⟩), .int .u64 150] 93)) (by rw [World.cell?_alloc_lt _ _ ⟨w.heap.size, 0, none⟩ (by simp; omega)]; simp)
  have st := setE t ⟨w.heap.size + 1 + 1 + 1, 0, none⟩ val ((((w.alloc (.cells #[.pointer (some t)] 69)).alloc (.cells #[.pointer (some ⟨12, 69, none⟩), .pointer (some ⟨w.heap.size, 0, none⟩), .int .u64 150] 93)).alloc (.cells #[.pointer (some ⟨12, 69, none⟩), .pointer (some ⟨w.heap.size, 0, none⟩), .int .u64 150] 93)).alloc (.cells #[.pointer e] 67)) W' hl hs
  clear hl hs
  go_enter Tryz.func20, Tryz.ntmps20
  go_wp2
  refine wp_loop_rounds 1 ?_
  rw [rounds_succ]
  go_wp2
  go_ret
  exact ⟨rfl, rfl⟩
open Go.Ab
variable {Γ : Nat → AV}
def ErrT (Γ : Nat → AV) : Prop := Γ 0 = .cptr [.iface 117 (.agg [.ptr (some ⟨12, 48, none⟩)])]
theorem errT_cell {G : Gh} {s : Sto} {w : World} (hE : ErrT Γ) (hm : Mod Γ G s w) : w.cell? ⟨0, 0, none⟩ = some (.iface 117 (.agg #[.pointer (some ⟨12, 48, none⟩)])) := by
  have h := (hm.glob 0).r
  rw [hE] at h
  obtain ⟨b, o, hp, hc⟩ := R_cptr.1 h
  simp only [Value.pointer.injEq, Option.some.injEq, Addr.mk.injEq] at hp
  obtain ⟨rfl, rfl, _⟩ := hp
  unfold RCells at hc
  obtain ⟨_, ⟨u, hu, hr⟩, _⟩ := hc
  obtain ⟨v, rfl, hv⟩ := R_iface.1 hr
  obtain ⟨us, rfl, hus⟩ := R_agg.1 hv
  obtain ⟨u1, us1, h1, h2, h3⟩ := RList_cons.1 hus
  rw [R_ptr] at h2
  rw [RList_nil] at h3
  subst h2 h3
  obtain rfl : us = #[.pointer (some ⟨12, 48, none⟩)] := by cases us; simp_all
  exact hu
theorem asNil_ok (x : AV) : APure Tryz.prog Γ 20 [.nilIface, x] fun v => v = .bool false := by
  refine fun s => ⟨fun G w vs hm hr => ?_⟩
  obtain ⟨u, us, rfl, hu, hus⟩ := RList_cons.1 hr
  obtain ⟨u1, us1, rfl, hu1, hus1⟩ := RList_cons.1 hus
  rw [RList_nil] at hus1; subst hus1
  rw [R_nilIface] at hu; subst hu
  refine (as_nil u1 w).mono ?_
  rintro e w' ⟨rfl, rfl⟩
  exact ⟨_, _, s, G, rfl, ⟨rfl, rfl⟩, R_bool.2 rfl, hm, Ext.refl _ _⟩
theorem asHit_ok (hE : ErrT Γ) (cs : List AV) {s : Sto} {b : Nat} {T0 : TypeId} {old : AV} (hb : s.bx b = some (T0, [old])) :
    ACalls Tryz.prog Γ 20 [.iface 67 (.cptr cs), .iface 69 (.ptr (some ⟨b, 0, none⟩))] s fun v s' => v = .bool true ∧ s' = s.set b T0 [.cptr cs] := by
  refine ⟨fun G w vs hm hr => ?_⟩
  obtain ⟨u, us, rfl, hu, hus⟩ := RList_cons.1 hr
  obtain ⟨u1, us1, rfl, hu1, hus1⟩ := RList_cons.1 hus
  rw [RList_nil] at hus1; subst hus1
  obtain ⟨e, rfl, he⟩ := R_iface.1 hu
  obtain ⟨p, rfl, hp⟩ := R_iface.1 hu1
  rw [R_ptr] at hp; subst hp
  obtain ⟨pb, po, rfl, hpc⟩ := R_cptr.1 he
  have hg := errT_cell hE hm
  obtain ⟨ws, hws, hcell⟩ := box_cells hm hb
  obtain ⟨w0, ws', rfl, _, _⟩ := RList_cons.1 hws
  have ht0 : w.cell? ⟨b, 0, none⟩ = some w0 := by rw [hcell]; rfl
  obtain ⟨m1, e1⟩ := hm.row_new (.cells #[.pointer (some ⟨b, 0, none⟩)] 69)
  obtain ⟨m2, e2⟩ := m1.row_new (.cells #[.pointer (some ⟨12, 69, none⟩), .pointer (some ⟨w.heap.size, 0, none⟩), .int .u64 150] 93)
  obtain ⟨m3, e3⟩ := m2.row_new (.cells #[.pointer (some ⟨12, 69, none⟩), .pointer (some ⟨w.heap.size, 0, none⟩), .int .u64 150] 93)
  obtain ⟨m4, e4⟩ := m3.row_new (.cells #[.pointer (some ⟨pb, po, none⟩)] 67)
  have X := ((e1.trans e2).trans e3).trans e4
  have hl : (loadVar 67 ⟨w.heap.size + 1 + 1 + 1, 0, none⟩).run Tryz.prog (((( w.alloc (.cells #[.pointer (some ⟨b, 0, none⟩)] 69)).alloc (.cells #[.pointer (some ⟨12, 69, none⟩), .pointer (some ⟨w.heap.size, 0, none⟩), .int .u64 150] 93)).alloc (.cells #[.pointer (some ⟨12, 69, none⟩), .pointer (some ⟨w.heap.size, 0, none⟩), .int .u64 150] 93)).alloc (.cells #[.pointer (some ⟨pb, po, none⟩)] 67)) = .ok (.pointer (some ⟨pb, po, none⟩)) (((( w.alloc (.cells #[.pointer (some ⟨b, 0, none⟩)] 69)).alloc (.cells #[.pointer (some ⟨12, 69, none⟩), .pointer (some ⟨w.heap.size, 0, none⟩), .int .u64 150] 93)).alloc (.cells #[.pointer (some ⟨12, 69, none⟩), .pointer (some ⟨w.heap.size, 0, none⟩), .int .u64 150] 93)).alloc (.cells #[.pointer (some ⟨pb, po, none⟩)] 67)) := by
    have hc : (((( w.alloc (.cells #[.pointer (some ⟨b, 0, none⟩)] 69)).alloc (.cells #[.pointer (some ⟨12, 69, none⟩), .pointer (some ⟨w.heap.size, 0, none⟩), .int .u64 150] 93)).alloc (.cells #[.pointer (some ⟨12, 69, none⟩), .pointer (some ⟨w.heap.size, 0, none⟩), .int .u64 150] 93)).alloc (.cells #[.pointer (some ⟨pb, po, none⟩)] 67)).cell? ⟨w.heap.size + 1 + 1 + 1, 0, none⟩ = some (.pointer (some ⟨pb, po, none⟩)) := by
      rw [World.cell?_alloc_at _ _ _ _ (by simp)]; rfl
    simp [loadVar, isAgg, underlying, Tryz.underlying67, hc, Result.andThen]
  obtain ⟨W', hs, hM', X'⟩ := store_ok (P := Tryz.prog) (T := 67) m4 hb (o := 0) (n := 1) (us := [.cptr cs]) (v := (.pointer (some ⟨pb, po, none⟩))) (by kernel_rfl) (RList_cons.2 ⟨_, _, rfl, R.mono X _ _ he, RList_nil.2 rfl⟩) rfl rfl (by simp)
  refine (as_hit (some ⟨pb, po, none⟩) ⟨b, 0, none⟩ w0 (.pointer (some ⟨pb, po, none⟩)) w W' hg ht0 hl hs).mono ?_
  rintro ev w' ⟨rfl, rfl⟩
  exact ⟨_, _, _, _, rfl, ⟨rfl, rfl⟩, R_bool.2 rfl, hM', X.trans X'⟩
end Go.Proofs.YthpnfflkkmpejaaGreatDoor.AsP
namespace Go.Proofs.YthpnfflkkmpejaaGreatDoor.IsP
open Go Go.RowKit Go.Extern.Stop Go.Stop Go.Extern
set_option maxRecDepth 10000
section
variable {P : Program} (w : World)
theorem run_equalIn_iface_int (d : Nat) {ti tn : TypeId} {ms : Array (String × TypeId)} {i : TypeInfo} {k : IntKind} (a b : Int)
    (hi : P.underlying ti = some (.interface ms)) (hn : P.underlying tn = some (.int k)) (hinfo : P.info? tn = some i) (hcomp : i.comparable = true) :
    (Op.equalIn (d + 2) ti (.iface tn (.int k a)) (.iface tn (.int k b))).run P w = .ok (a == b) w := by
  simp [Op.equalIn, run_underlying hi, run_underlying hn, typeInfo, hinfo, hcomp]
theorem run_eql_iface_int {ti tn : TypeId} {ms : Array (String × TypeId)} {i : TypeInfo} {k : IntKind} (a b : Int)
    (hi : P.underlying ti = some (.interface ms)) (hn : P.underlying tn = some (.int k)) (hinfo : P.info? tn = some i) (hcomp : i.comparable = true) :
    (binOp .eql ti (.iface tn (.int k a)) (.iface tn (.int k b))).run P w = .ok (.bool (a == b)) w := by
  simp only [binOp]
  simp [Op.equal, Op.maxDepth, run_equalIn_iface_int w 9998 a b hi hn hinfo hcomp]
end
theorem isTypeOf (v : Value) (w : World) : (Extern.ReflectliteType.typeOf #[.iface 24 v]).run Tryz.prog w = .ok (.iface 117 (.agg #[.pointer (some ⟨12, 24, none⟩)])) w := by kernel_rfl
theorem isComparable (w : World) : ((Extern.ReflectliteType.method fun t => do Extern.Rtype.noPackHeld "Comparable" t; (fun a => Value.bool a.comparable) <$> typeInfo t) #[.agg #[.pointer (some ⟨12, 24, none⟩)]]).run Tryz.prog w = .ok (.bool true) w := by kernel_rfl
theorem isMethodComparable (v : Value) (w : World) : (Go.method 356 117 v "Comparable").run Tryz.prog w = .ok (200, v) w := by kernel_rfl
theorem isComp : (Tryz.prog.info? 24).map (·.comparable) = some true := by kernel_rfl
theorem noIsW (v : Value) (xT : TypeId) (w : World) : (Instr.typeAssert (.iface 67 v) xT 139 true).run Tryz.prog w = .ok (.tuple #[.nilIface, .bool false]) w := run_typeAssert_lacksB Tryz.underlying139 (by kernel_rfl) (by kernel_rfl) v xT w
theorem noIsN (v : Value) (xT : TypeId) (w : World) : (Instr.typeAssert (.iface 24 v) xT 139 true).run Tryz.prog w = .ok (.tuple #[.nilIface, .bool false]) w := run_typeAssert_lacksB Tryz.underlying139 (by kernel_rfl) (by kernel_rfl) v xT w
theorem noUnN (v : Value) (xT : TypeId) (w : World) : (Instr.typeAssert (.iface 24 v) xT 125 true).run Tryz.prog w = .ok (.tuple #[.nilIface, .bool false]) w := run_typeAssert_lacksB Tryz.underlying125 (by kernel_rfl) (by kernel_rfl) v xT w
theorem noUlN (v : Value) (xT : TypeId) (w : World) : (Instr.typeAssert (.iface 24 v) xT 126 true).run Tryz.prog w = .ok (.tuple #[.nilIface, .bool false]) w := run_typeAssert_lacksB Tryz.underlying126 (by kernel_rfl) (by kernel_rfl) v xT w
theorem hasUnwrapW (v : Value) (xT : TypeId) (w : World) : (Instr.typeAssert (.iface 67 v) xT 125 true).run Tryz.prog w = .ok (.tuple #[.iface 67 v, .bool true]) w := run_typeAssert_hasB Tryz.underlying125 (by kernel_rfl) v xT w
theorem methodUnwrap (v : Value) (w : World) : (Go.method 356 67 v "Unwrap").run Tryz.prog w = .ok (193, v) w := by kernel_rfl
theorem is_run (pb po : Nat) (e k : Int) (w : World) (h1 : w.cell? ⟨pb, po + 4, none⟩ = some (.iface 24 (.int .i64 e))) :
    Calls Tryz.prog 39 #[.iface 67 (.pointer (some ⟨pb, po, none⟩)), .iface 24 (.int .i64 k)] w fun r w' => r = .returned (.bool (e == k)) ∧ w' = w := by
  obtain ⟨i, hi, hcmp⟩ := Option.map_eq_some_iff.1 isComp
  have h8 := @run_callFunc_extern Tryz.prog 58 _ Extern.ReflectliteType.typeOf Tryz.func58 (by kernel_rfl) (by kernel_rfl) (by kernel_rfl) (by kernel_rfl)
  have h32 := @run_callFunc_extern Tryz.prog 200 _ (Extern.ReflectliteType.method fun t => do Extern.Rtype.noPackHeld "Comparable" t; pure (.bool (← typeInfo t).comparable)) Tryz.func200 (by kernel_rfl) (by kernel_rfl) (by kernel_rfl) (by kernel_rfl)
  have tT := isTypeOf
  have cT := isComparable
  have mR := isMethodComparable
  have nW := noIsW
  have nN := noIsN
  have uN := noUnN
  have lN := noUlN
  have uW := hasUnwrapW
  have mU := methodUnwrap
  have heq := run_eql_iface_int (P := Tryz.prog) w e k Tryz.underlying48 Tryz.underlying24 hi hcmp
  have hty := run_eql_iface_types (P := Tryz.prog) 67 24 (.pointer (some ⟨pb, po, none⟩)) (.int .i64 k) Tryz.underlying48 (by decide) w
  cases hk : (e == k) <;> rw [hk] at heq <;> clear hk
  · go_enter Tryz.func39, Tryz.ntmps39
    go_wp2
    refine wp_loop_rounds 2 ?_
    rw [rounds_succ]
    go_wp2
    rw [rounds_succ]
    go_wp2
    go_ret
    exact ⟨rfl, rfl⟩
  · go_enter Tryz.func39, Tryz.ntmps39
    go_wp2
    refine wp_loop_rounds 2 ?_
    rw [rounds_succ]
    go_wp2
    rw [rounds_succ]
    go_wp2
    go_ret
    exact ⟨rfl, rfl⟩
open Go.Ab
variable {Γ : Nat → AV}
theorem is_ok (c0 c1 c2 c3 : AV) (e k : Int) : APure Tryz.prog Γ 39 [.iface 67 (.cptr [c0, c1, c2, c3, .iface 24 (.int .i64 e)]), .iface 24 (.int .i64 k)] fun v => v = .bool (e == k) := by
  refine fun s => ⟨fun G w vs hm hr => ?_⟩
  obtain ⟨u, us, rfl, hu, hus⟩ := RList_cons.1 hr
  obtain ⟨u1, us1, rfl, hu1, hus1⟩ := RList_cons.1 hus
  rw [RList_nil] at hus1; subst hus1
  obtain ⟨x, rfl, hx⟩ := R_iface.1 hu
  obtain ⟨p, rfl, hp⟩ := R_iface.1 hu1
  rw [R_int] at hp; subst hp
  obtain ⟨pb, po, rfl, hc⟩ := R_cptr.1 hx
  unfold RCells at hc
  obtain ⟨_, _, hc⟩ := hc
  unfold RCells at hc
  obtain ⟨_, _, hc⟩ := hc
  unfold RCells at hc
  obtain ⟨_, _, hc⟩ := hc
  unfold RCells at hc
  obtain ⟨_, _, hc⟩ := hc
  unfold RCells at hc
  obtain ⟨_, ⟨y, hy, hr1⟩, _⟩ := hc
  obtain ⟨z, rfl, hz⟩ := R_iface.1 hr1
  rw [R_int] at hz; subst hz
  refine (is_run pb po e k w hy).mono ?_
  rintro r w' ⟨rfl, rfl⟩
  exact ⟨_, _, s, G, rfl, ⟨rfl, rfl⟩, R_bool.2 rfl, hm, Ext.refl _ _⟩
end Go.Proofs.YthpnfflkkmpejaaGreatDoor.IsP
namespace Go.Proofs.YthpnfflkkmpejaaGreatDoor.Pa
open Go Go.Ab Go.RowKit Go.Proofs.YthpnfflkkmpejaaGreatDoor.Lx
variable {Γ : Nat → AV}
theorem _root_.Go.Ab.Stays.of_sub {B : Nat → Prop} {s s' : Sto} (h : Sub s s') : Stays B s s' := ⟨fun c z _ hz => h.bx c z hz, h.lv, fun _ hs _ => hs.trans h⟩
/-- Where a box of the caller's is written. -/
theorem Pst.reset {s0 s : Sto} {bp bl : Nat} {L : List Tok} {a : Nat} {o : List Ex} {d : List Int} {k : Int} (hP : Pst s0 s bp bl L a o d k) {b : Nat} (h1 : b ≠ bp) (h2 : b ≠ bl) (T : TypeId) (cs : List AV) : Pst (s0.set b T cs) (s.set b T cs) bp bl L a o d k := by
  obtain ⟨np, nl, ne, ⟨t1, t2, e1, e2, e3, e4⟩, pl⟩ := hP
  have hs : Sub (s0.set b T cs) (s.set b T cs) := ⟨fun c x hc => (by
    by_cases hcb : c = b
    · subst hcb; rw [set_bx_same] at hc ⊢; exact hc
    · rw [set_bx_other hcb] at hc ⊢; exact e2.sub.bx c x hc), fun t e m hx => e2.sub.lv t e m (by simpa [Sto.set] using hx)⟩
  exact ⟨(set_bx_other h1.symm).trans np, (set_bx_other h2.symm).trans nl, ne, ⟨t1, t2, (set_bx_other h1.symm).trans e1, ⟨hs, e2.own.imp id fun h => ⟨h.1, h.2.1, fun e m hx => h.2.2 e m (by simpa [Sto.set] using hx)⟩⟩, ⟨hs, e3.own.imp id fun h => ⟨h.1, h.2.1, fun e m hx => h.2.2 e m (by simpa [Sto.set] using hx)⟩⟩, e4⟩, (set_bx_other h2.symm).trans pl⟩
attribute [local irreducible] APure Sto.set Sto.grow
set_option maxRecDepth 10000
set_option maxHeartbeats 1000000
theorem _root_.Go.Ab.Stays.none1 {s s' : Sto} {bc b : Nat} {z : TypeId × List AV} (h : Stays (B1 bc) s s') (hc : s'.bx bc = some z) (hb : s'.bx b = none) : s.bx b = none := by
  cases hz : s.bx b with
  | none => rfl
  | some z =>
    have hne : b ≠ bc := by rintro rfl; rw [hc] at hb; cases hb
    rw [h.bx b z (fun h => hne h) hz] at hb; cases hb
/-- The number that is told of what is wrong. -/
def errF (e : Int) : Int := if e = 13 then 13 else if e = 5 then 5 else 16
theorem errno_ok (t : Tok) (e : Int) : APure Tryz.prog Γ 21 [errA t e] fun v => v = .int .i64 (errF e) := by
  obtain ⟨t1, t2, t3, t4⟩ := t
  simp only [errA, tokA, List.cons_append, List.nil_append]
  have h13 : e ≠ 13 → (e == 13) = false := fun h => by simp [h]
  have h5 : e ≠ 5 → (e == 5) = false := fun h => by simp [h]
  refine APure.of_awp Tryz.func21 rfl (Nat.le_of_ble_eq_true (by kernel_rfl)) (by kernel_rfl) ?_
  intro s
  conv => whnf
  repeat' ((first | (exfalso; first | omega | exact (by assumption : ¬ True) trivial | fail) | refine ⟨Sub.refl _, ?_⟩ | (refine brA_split (fun h => ?_) (fun h => ?_) <;> (try rw [h]) <;> (try simp only [bS, ↓reduceIte] at h)) | refine getB_same ?_ | refine AWp.anyA ?_ | refine and_a ?_ | fail) <;> (conv => whnf))
  refine AWp.loopA [7] [8, 9, 10, 4, 11, 12, 13, 14, 15, 2, 16] (fun i : Nat => [.int .i64 (i : Int)]) (fun i s' => s' = s ∧ (i = 0 ∨ (i = 1 ∧ e ≠ 13) ∨ (i = 2 ∧ e ≠ 13 ∧ e ≠ 5))) (fun i => 2 - i) (0) (by kernel_rfl) (eqa) ?_ ?_
  · exact ⟨rfl, .inl rfl⟩
  · rintro x i s' ⟨hs', hi⟩
    subst s'
    rcases hi with rfl | ⟨rfl, h1⟩ | ⟨rfl, h1, h2⟩
    · show awp _ _ _ _ _ (updL _ _ [.int .i64 ((0 : Nat) : Int)]) _
      conv => whnf
      by_cases h0 : e = 13
      · subst h0
        repeat' ((first | (exfalso; first | omega | exact (by assumption : ¬ True) trivial | fail) | refine ⟨Sub.refl _, ?_⟩ | (refine brA_split (fun h => ?_) (fun h => ?_) <;> (try rw [h]) <;> (try simp only [bS, ↓reduceIte] at h)) | (refine ACalls.pure' ?_ (IsP.is_ok _ _ _ _ 13 13); rintro _ rfl) | refine DCall.pure ?_ (IsP.is_ok _ _ _ _ 13 13) | refine getB_same ?_ | refine AWp.anyA ?_ | refine and_a ?_ | fail) <;> (conv => whnf))
        rfl
      · have hi := IsP.is_ok (Γ := Γ) (.int .i64 t1) (.str t2) (.int .i64 t3) (.int .i64 t4) e 13
        rw [h13 h0] at hi
        repeat' ((first | (exfalso; first | omega | exact (by assumption : ¬ True) trivial | fail) | refine ⟨Sub.refl _, ?_⟩ | (refine brA_split (fun h => ?_) (fun h => ?_) <;> (try rw [h]) <;> (try simp only [bS, ↓reduceIte] at h)) | (refine ACalls.pure' ?_ (hi); rintro _ rfl) | refine DCall.pure ?_ (hi) | refine getB_same ?_ | refine AWp.anyA ?_ | refine and_a ?_ | fail) <;> (conv => whnf))
        exact ⟨1, eqa, samea, ⟨rfl, .inr (.inl ⟨rfl, h0⟩)⟩, by omega⟩
    · show awp _ _ _ _ _ (updL _ _ [.int .i64 ((1 : Nat) : Int)]) _
      conv => whnf
      by_cases h0 : e = 5
      · subst h0
        repeat' ((first | (exfalso; first | omega | exact (by assumption : ¬ True) trivial | fail) | refine ⟨Sub.refl _, ?_⟩ | (refine brA_split (fun h => ?_) (fun h => ?_) <;> (try rw [h]) <;> (try simp only [bS, ↓reduceIte] at h)) | (refine ACalls.pure' ?_ (IsP.is_ok _ _ _ _ 5 5); rintro _ rfl) | refine DCall.pure ?_ (IsP.is_ok _ _ _ _ 5 5) | refine getB_same ?_ | refine AWp.anyA ?_ | refine and_a ?_ | fail) <;> (conv => whnf))
        rfl
      · have hi := IsP.is_ok (Γ := Γ) (.int .i64 t1) (.str t2) (.int .i64 t3) (.int .i64 t4) e 5
        rw [h5 h0] at hi
        repeat' ((first | (exfalso; first | omega | exact (by assumption : ¬ True) trivial | fail) | refine ⟨Sub.refl _, ?_⟩ | (refine brA_split (fun h => ?_) (fun h => ?_) <;> (try rw [h]) <;> (try simp only [bS, ↓reduceIte] at h)) | (refine ACalls.pure' ?_ (hi); rintro _ rfl) | refine DCall.pure ?_ (hi) | refine getB_same ?_ | refine AWp.anyA ?_ | refine and_a ?_ | fail) <;> (conv => whnf))
        exact ⟨2, eqa, samea, ⟨rfl, .inr (.inr ⟨rfl, h1, h0⟩)⟩, by omega⟩
    · show awp _ _ _ _ _ (updL _ _ [.int .i64 ((2 : Nat) : Int)]) _
      conv => whnf
      repeat' ((first | (exfalso; first | omega | exact (by assumption : ¬ True) trivial | fail) | refine ⟨Sub.refl _, ?_⟩ | (refine brA_split (fun h => ?_) (fun h => ?_) <;> (try rw [h]) <;> (try simp only [bS, ↓reduceIte] at h)) | refine getB_same ?_ | refine AWp.anyA ?_ | refine and_a ?_ | fail) <;> (conv => whnf))
      rw [errF, if_neg h1, if_neg h2]
      rfl
/-- What a text is read as, by what is read of its tokens. -/
def runR {α : Type} (S : List UInt8) (body : List Tok → Res α) : Res α :=
  match allT S with
  | .error x => .error x
  | .ok L => match body L with
    | .error x => .error (errF x.1, x.2.1, x.2.2)
    | .ok o => .ok o
/-- The expression of tokens. -/
def exprR (L : List Tok) : Res (List Ex) :=
  match ev L (fuelN L) 0 ⟨0, [], [], 0⟩ with
  | .error x => .error x
  | .ok st => if st.a < L.length then failF L st.a 16 else .ok st.o
/-- What a reader of tokens hands back, and what it leaves in its box. -/
def BodyR {α : Type} (K : α → List AV → Prop) (r : Res α) (v : AV) (cs : List AV) : Prop :=
  match r with
  | .error x => ErrV x v
  | .ok o => v = .nilIface ∧ K o cs
def RunR {α : Type} (K : α → List AV → Prop) (r : Res α) (v : AV) (cs : List AV) : Prop :=
  match r with
  | .error x => v = .agg [.int .i64 x.1, .int .i64 x.2.1, .int .i64 x.2.2]
  | .ok o => v = .agg [.int .i64 0, .int .i64 0, .int .i64 0] ∧ K o cs
def ExprK (o : List Ex) (cs : List AV) : Prop := ∃ t, cs = [.slice t (exsA o)]
theorem exprBody_ok (hR : Nu.ErrR Γ) {L : List Tok} (hL : L.length ≤ 90000) (hT : ∀ i, (peekF L i).2.1.length ≤ 5000) (bc : Nat) : ∀ (s0 s : Sto) (bp bl : Nat) (c : AV), Pst s0 s bp bl L 0 [] [] 0 → s0.bx bc = some (23, [c]) → ACalls Tryz.prog Γ 10 [.ptr (some ⟨bp, 0, none⟩), .ptr (some ⟨bc, 0, none⟩)] s fun v s' => Stays (B1 bc) s0 s' ∧ ∃ cs', s'.bx bc = some (23, cs') ∧ BodyR ExprK (exprR L) v cs' := by
  intro s0 s bp bl c hP hb
  have hok : Okay L ⟨0, [], [], 0⟩ := ⟨Nat.zero_le _, Nat.zero_le _, rfl, by decide⟩
  have he := (levels hR hL hT (fuelN L)).1 _ _ _ _ ⟨0, [], [], 0⟩ hP hok (enough_all L _)
  have hg := ev_good (fuelN L) 0 ⟨0, [], [], 0⟩ (by omega) hok (enough_all L _)
  refine ACalls.of_awp Tryz.func10 rfl (Nat.le_of_ble_eq_true (by kernel_rfl)) (awp_ok _ (by kernel_rfl) ?_)
  conv => whnf
  repeat' ((first | (exfalso; first | omega | exact (by assumption : ¬ True) trivial | fail) | refine ⟨Sub.refl _, ?_⟩ | (refine brA_split (fun h => ?_) (fun h => ?_) <;> (try rw [h]) <;> (try simp only [bS, ↓reduceIte] at h)) | (refine ACalls.by he ?_; intro v s1 hv) | refine getB_same ?_ | refine AWp.anyA ?_ | refine and_a ?_ | fail) <;> (conv => whnf))
  unfold exprR
  rcases hr : ev L (fuelN L) 0 ⟨0, [], [], 0⟩ with x | x
  · rw [hr] at hv
    obtain ⟨⟨kd, tx, rfl⟩, a', o', d', k', hP4⟩ := hv
    conv => whnf
    repeat' ((first | (exfalso; first | omega | exact (by assumption : ¬ True) trivial | fail) | refine ⟨Sub.refl _, ?_⟩ | (refine brA_split (fun h => ?_) (fun h => ?_) <;> (try rw [h]) <;> (try simp only [bS, ↓reduceIte] at h)) | refine getB_same ?_ | refine AWp.anyA ?_ | refine and_a ?_ | fail) <;> (conv => whnf))
    exact ⟨_, Sub.refl _, Stays.of_sub hP4.sub, _, hP4.sub.bx _ _ hb, ⟨kd, tx, rfl⟩⟩
  · rw [hr] at hv
    obtain ⟨rfl, hP4⟩ := hv
    obtain ⟨g1, g2⟩ := hg x hr
    have hxa := g1.ha
    obtain ⟨u1, u2, hb4, _⟩ := hP4.pr
    have hb5 := hP4.sub.bx _ _ hb
    have n1 : bp ≠ bc := by rintro rfl; rw [hP4.np] at hb; cases hb
    have n2 : bl ≠ bc := by rintro rfl; rw [hP4.nl] at hb; cases hb
    have htl := toksA_len L
    have hP6 := hP4.reset n1.symm n2.symm 23 [.slice u1 (exsA x.o)]
    have hst : Stays (B1 bc) s0 (s1.set bc 23 [.slice u1 (exsA x.o)]) := Stays.set (B := B1 bc) (b := bc) (Stays.of_sub hP4.sub) rfl _ _
    have hfl := fail_ok (Γ := Γ) hP6 (by omega) (by omega) 16
    conv => whnf
    repeat' ((first | (exfalso; first | omega | exact (by assumption : ¬ True) trivial | fail) | refine ⟨Sub.refl _, ?_⟩ | (refine brA_split (fun h => ?_) (fun h => ?_) <;> (try rw [h]) <;> (try simp only [bS, ↓reduceIte] at h)) | (refine getB_of hb4 ?_) | (refine getB_of hb5 ?_) | (refine getB_of ((set_bx_other n1).trans hb4) ?_) | (refine getB_of ((set_bx_other n2).trans hP4.pl) ?_) | (refine ACalls.by hfl ?_; rintro _ s5 ⟨rfl, hs5⟩; subst s5) | refine getB_same ?_ | refine AWp.anyA ?_ | refine and_a ?_ | fail) <;> (conv => whnf))
    · refine ⟨_, Sub.refl _, hst, _, set_bx_same, ?_⟩
      dsimp only
      rw [if_pos (by omega)]
      exact errV_fail L x.a 16
    · refine ⟨_, Sub.refl _, hst, _, set_bx_same, ?_⟩
      dsimp only
      rw [if_neg (by omega)]
      exact ⟨rfl, u1, rfl⟩
theorem run_ok {α : Type} (K : α → List AV → Prop) (hQ : Qu.Tabs Γ) (hW : Sc.Wds Γ) (hO : AsO.ErrT Γ) (hE : AsP.ErrT Γ) {n : FuncId} (hn : callT Tryz.prog n = true) {bc : Nat} {Tc : TypeId} (S : List UInt8) (hS : S.length ≤ 1048576) (r : List Tok → Res α) (hB : ∀ L, allT S = .ok L → ∀ (s0 s : Sto) (bp bl : Nat) (c : AV), Pst s0 s bp bl L 0 [] [] 0 → s0.bx bc = some (Tc, [c]) → ACalls Tryz.prog Γ n [.ptr (some ⟨bp, 0, none⟩), .ptr (some ⟨bc, 0, none⟩)] s fun v s' => Stays (B1 bc) s0 s' ∧ ∃ cs', s'.bx bc = some (Tc, cs') ∧ BodyR K (r L) v cs') {s : Sto} {c : AV} (hb : s.bx bc = some (Tc, [c])) :
    ACalls Tryz.prog Γ 9 [.str S, .func (.func n) [] [.ptr (some ⟨bc, 0, none⟩)]] s fun v s' => Stays (B1 bc) s s' ∧ ∃ cs', s'.bx bc = some (Tc, cs') ∧ RunR K (runR S r) v cs' := by
  have hl := progAll_ok hQ hW hO S hS
  rcases hx : allT S with ⟨e, a, b⟩ | L
  · rw [hx] at hl
    have he0 : e ≠ 0 := by
      unfold allT at hx
      split at hx
      · cases hx; decide
      · exact lexF_err _ _ _ _ _ _ hx
    have hrr : runR S r = .error (e, a, b) := by unfold runR; rw [hx]
    rw [hrr]
    simp only [allA] at hl
    refine ACalls.of_awp Tryz.func9 rfl (Nat.le_of_ble_eq_true (by kernel_rfl)) (awp_ok _ (by kernel_rfl) ?_)
    conv => whnf
    intro b4 hb4
    have m4 : bc ≠ b4 := ne_of_none hb hb4
    conv => whnf
    repeat' ((first | (exfalso; first | omega | exact (by assumption : ¬ True) trivial | fail) | refine ⟨Sub.refl _, ?_⟩ | (refine brA_split (fun h => ?_) (fun h => ?_) <;> (try rw [h]) <;> (try simp only [bS, ↓reduceIte] at h)) | (refine ACalls.pure' ?_ (hl); rintro _ rfl) | refine DCall.pure ?_ (hl) | refine getB_same ?_ | refine AWp.anyA ?_ | refine and_a ?_ | fail) <;> (conv => whnf))
    intro b6 hb6
    have n_b4_b6 : b4 ≠ b6 := ne_of_none bxa hb6
    have n_b6_b4 := n_b4_b6.symm
    conv => whnf
    repeat' ((first | (exfalso; first | omega | exact (by assumption : ¬ True) trivial | fail) | refine ⟨Sub.refl _, ?_⟩ | (refine brA_split (fun h => ?_) (fun h => ?_) <;> (try rw [h]) <;> (try simp only [bS, ↓reduceIte] at h)) | refine getB_a ?_ | (refine EqAgg.of grdFail planFail ?_) | refine getB_same ?_ | refine AWp.anyA ?_ | refine and_a ?_ | fail) <;> (conv => whnf))
    · have k6 := ((Sub.refl s).set hb4 _ _).none hb6
      have m6 : bc ≠ b6 := ne_of_none hb k6
      exact ⟨_, Sub.refl _, Stays.of_sub (((((Sub.refl _).set hb4 _ _).set k6 _ _).set k6 _ _).set hb4 _ _), [c], bxa, rfl⟩
    · exfalso; revert h; simp [he0]
  · rw [hx] at hl
    simp only [allA] at hl
    refine ACalls.of_awp Tryz.func9 rfl (Nat.le_of_ble_eq_true (by kernel_rfl)) (awp_ok _ (by kernel_rfl) ?_)
    conv => whnf
    intro b4 hb4
    have m4 : bc ≠ b4 := ne_of_none hb hb4
    conv => whnf
    repeat' ((first | (exfalso; first | omega | exact (by assumption : ¬ True) trivial | fail) | refine ⟨Sub.refl _, ?_⟩ | (refine brA_split (fun h => ?_) (fun h => ?_) <;> (try rw [h]) <;> (try simp only [bS, ↓reduceIte] at h)) | (refine ACalls.pure' ?_ (hl); rintro _ rfl) | refine DCall.pure ?_ (hl) | refine getB_same ?_ | refine AWp.anyA ?_ | refine and_a ?_ | fail) <;> (conv => whnf))
    intro b6 hb6
    have n_b4_b6 : b4 ≠ b6 := ne_of_none bxa hb6
    have n_b6_b4 := n_b4_b6.symm
    conv => whnf
    repeat' ((first | (exfalso; first | omega | exact (by assumption : ¬ True) trivial | fail) | refine ⟨Sub.refl _, ?_⟩ | (refine brA_split (fun h => ?_) (fun h => ?_) <;> (try rw [h]) <;> (try simp only [bS, ↓reduceIte] at h)) | refine getB_a ?_ | (refine EqAgg.of grdFail planFail ?_) | refine getB_same ?_ | refine AWp.anyA ?_ | refine and_a ?_ | fail) <;> (conv => whnf))
    all_goals first | (exfalso; revert h; simp; done) | skip
    have k6 := ((Sub.refl s).set hb4 _ _).none hb6
    have m6 : bc ≠ b6 := ne_of_none hb k6
    intro bl hbl
    have n_b4_bl : b4 ≠ bl := ne_of_none bxa hbl
    have n_bl_b4 := n_b4_bl.symm
    have n_b6_bl : b6 ≠ bl := ne_of_none bxa hbl
    have n_bl_b6 := n_b6_bl.symm
    have n_bc_bl : bc ≠ bl := ne_of_none bxa hbl
    have n_bl_bc := n_bc_bl.symm
    conv => whnf
    repeat' ((first | (exfalso; first | omega | exact (by assumption : ¬ True) trivial | fail) | refine ⟨Sub.refl _, ?_⟩ | (refine brA_split (fun h => ?_) (fun h => ?_) <;> (try rw [h]) <;> (try simp only [bS, ↓reduceIte] at h)) | refine getB_a ?_ | refine getB_same ?_ | refine AWp.anyA ?_ | refine and_a ?_ | fail) <;> (conv => whnf))
    intro bp hbp
    have n_b4_bp : b4 ≠ bp := ne_of_none bxa hbp
    have n_bp_b4 := n_b4_bp.symm
    have n_b6_bp : b6 ≠ bp := ne_of_none bxa hbp
    have n_bp_b6 := n_b6_bp.symm
    have n_bc_bp : bc ≠ bp := ne_of_none bxa hbp
    have n_bp_bc := n_bc_bp.symm
    have n_bl_bp : bl ≠ bp := ne_of_none bxa hbp
    have n_bp_bl := n_bl_bp.symm
    conv => whnf
    repeat' ((first | (exfalso; first | omega | exact (by assumption : ¬ True) trivial | fail) | refine ⟨Sub.refl _, ?_⟩ | (refine brA_split (fun h => ?_) (fun h => ?_) <;> (try rw [h]) <;> (try simp only [bS, ↓reduceIte] at h)) | refine getB_a ?_ | refine getB_same ?_ | refine AWp.anyA ?_ | refine and_a ?_ | fail) <;> (conv => whnf))
    rotate_left
    · rw [hn] at h; cases h
    have hsq : Sub s (((s.set b4 26 [.int .i64 0, .int .i64 0, .int .i64 0]).set b6 26 [.int .i64 0, .int .i64 0, .int .i64 0]).set b6 26 [.int .i64 0, .int .i64 0, .int .i64 0]) := (((Sub.refl _).set hb4 _ _).set k6 _ _).set k6 _ _
    have hq4 : (((s.set b4 26 [.int .i64 0, .int .i64 0, .int .i64 0]).set b6 26 [.int .i64 0, .int .i64 0, .int .i64 0]).set b6 26 [.int .i64 0, .int .i64 0, .int .i64 0]).bx b4 = some (26, [.int .i64 0, .int .i64 0, .int .i64 0]) := bxa
    generalize ((s.set b4 26 [.int .i64 0, .int .i64 0, .int .i64 0]).set b6 26 [.int .i64 0, .int .i64 0, .int .i64 0]).set b6 26 [.int .i64 0, .int .i64 0, .int .i64 0] = sq at *
    have kbp : sq.bx bp = none := ((Sub.refl sq).set hbl _ _).none hbp
    have hP : Pst sq ((sq.set bl 56 [.slice 0 (toksA L), .int .i64 0]).set bp 53 [.ptr (some ⟨bl, 0, none⟩), .slice 1 [], .slice 1 [], .int .i64 0]) bp bl L 0 [] [] 0 :=
      ⟨kbp, hbl, n_bp_bl, ⟨1, 1, set_bx_same, Own.start (((Sub.refl _).set hbl _ _).set kbp _ _) _ _, Own.start (((Sub.refl _).set hbl _ _).set kbp _ _) _ _, fun _ => rfl⟩, (set_bx_other n_bl_bp).trans set_bx_same⟩
    refine ACalls.by (hB L hx _ _ _ _ _ hP (hsq.bx _ _ hb)) ?_
    rintro v s5 ⟨hst, cs', hbc, hv⟩
    have hst2 : Stays (B1 bc) s s5 := (Stays.of_sub hsq).trans hst
    have h54 := hst.bx b4 _ (fun h => m4 (Eq.symm h)) hq4
    rcases hrl : r L with x | c0
    · rw [hrl] at hv
      rw [show runR S r = .error (errF x.1, x.2.1, x.2.2) by unfold runR; rw [hx]; dsimp only; rw [hrl]]
      obtain ⟨kd, tx, rfl⟩ := hv
      conv => whnf
      repeat' ((first | (exfalso; first | omega | exact (by assumption : ¬ True) trivial | fail) | refine ⟨Sub.refl _, ?_⟩ | (refine brA_split (fun h => ?_) (fun h => ?_) <;> (try rw [h]) <;> (try simp only [bS, ↓reduceIte] at h)) | refine getB_same ?_ | refine AWp.anyA ?_ | refine and_a ?_ | fail) <;> (conv => whnf))
      intro b8 hb8
      have k8 := hst2.none1 hbc hb8
      have n_b4_b8 : b4 ≠ b8 := ne_of_none bxa hb8
      have n_b8_b4 := n_b4_b8.symm
      have n_bc_b8 : bc ≠ b8 := ne_of_none bxa hb8
      have n_b8_bc := n_bc_b8.symm
      conv => whnf
      repeat' ((first | (exfalso; first | omega | exact (by assumption : ¬ True) trivial | fail) | refine ⟨Sub.refl _, ?_⟩ | (refine brA_split (fun h => ?_) (fun h => ?_) <;> (try rw [h]) <;> (try simp only [bS, ↓reduceIte] at h)) | refine getB_a ?_ | (refine ACalls.by (AsP.asHit_ok hE _ set_bx_same) ?_; rintro _ _ ⟨rfl, rfl⟩) | (refine ACalls.pure' ?_ (errno_ok (kd, tx, x.2.1, x.2.2) x.1); rintro _ rfl) | refine DCall.pure ?_ (errno_ok (kd, tx, x.2.1, x.2.2) x.1) | refine getB_same ?_ | refine AWp.anyA ?_ | refine and_a ?_ | fail) <;> (conv => whnf))
      exact ⟨_, Sub.refl _, ((hst2.fresh k8 _ _).fresh k8 _ _).fresh hb4 _ _, cs', bxa, rfl⟩
    · rw [hrl] at hv
      rw [show runR S r = .ok c0 by unfold runR; rw [hx]; dsimp only; rw [hrl]]
      obtain ⟨rfl, hv⟩ := hv
      conv => whnf
      repeat' ((first | (exfalso; first | omega | exact (by assumption : ¬ True) trivial | fail) | refine ⟨Sub.refl _, ?_⟩ | (refine brA_split (fun h => ?_) (fun h => ?_) <;> (try rw [h]) <;> (try simp only [bS, ↓reduceIte] at h)) | refine getB_same ?_ | refine AWp.anyA ?_ | refine and_a ?_ | fail) <;> (conv => whnf))
      intro b8 hb8
      have k8 := hst2.none1 hbc hb8
      have n_b4_b8 : b4 ≠ b8 := ne_of_none bxa hb8
      have n_b8_b4 := n_b4_b8.symm
      have n_bc_b8 : bc ≠ b8 := ne_of_none bxa hb8
      have n_b8_bc := n_bc_b8.symm
      conv => whnf
      repeat' ((first | (exfalso; first | omega | exact (by assumption : ¬ True) trivial | fail) | refine ⟨Sub.refl _, ?_⟩ | (refine brA_split (fun h => ?_) (fun h => ?_) <;> (try rw [h]) <;> (try simp only [bS, ↓reduceIte] at h)) | refine getB_a ?_ | (refine ACalls.pure' ?_ (AsP.asNil_ok _); rintro _ rfl) | refine DCall.pure ?_ (AsP.asNil_ok _) | refine getB_same ?_ | refine AWp.anyA ?_ | refine and_a ?_ | fail) <;> (conv => whnf))
      exact ⟨_, Sub.refl _, (hst2.fresh k8 _ _).fresh hb4 _ _, cs', bxa, rfl, hv⟩
def exprA : Res (List Ex) → AV
  | .ok o => .tuple [.slice 0 (exsA o), .agg [.int .i64 0, .int .i64 0, .int .i64 0]]
  | .error (e, a, b) => .tuple [.slice 0 [], .agg [.int .i64 e, .int .i64 a, .int .i64 b]]
theorem errF_ne (e : Int) : errF e ≠ 0 := by unfold errF; split; · decide
                                             · split <;> decide
theorem allT_err {S : List UInt8} {e a b : Int} (h : allT S = .error (e, a, b)) : e ≠ 0 := by
  unfold allT at h
  split at h
  · cases h; decide
  · exact lexF_err _ _ _ _ _ _ h
theorem runR_err {α : Type} {S : List UInt8} {r : List Tok → Res α} {e a b : Int} (h : runR S r = .error (e, a, b)) : e ≠ 0 := by
  unfold runR at h
  split at h
  · rename_i x hx
    injection h with h
    subst h
    exact allT_err hx
  · split at h
    · injection h with h
      simp only [Prod.mk.injEq] at h
      rw [← h.1]
      exact errF_ne _
    · cases h
theorem expr_top (hQ : Qu.Tabs Γ) (hW : Sc.Wds Γ) (hO : AsO.ErrT Γ) (hE : AsP.ErrT Γ) (hR : Nu.ErrR Γ) (S : List UInt8) (hS : S.length ≤ 65536) (hT : ∀ L, allT S = .ok L → ∀ i, (peekF L i).2.1.length ≤ 5000) :
    APure Tryz.prog Γ 6 [.str S] fun v => v = exprA (runR S exprR) := by
  have hlen : ∀ L, allT S = .ok L → L.length ≤ 90000 := fun L hL => by
    unfold allT at hL
    split at hL
    · cases hL
    · have := lexF_len _ _ _ _ hL; omega
  have hrun := fun {s : Sto} {bc : Nat} {c : AV} (hb : s.bx bc = some (23, [c])) => run_ok (Γ := Γ) ExprK hQ hW hO hE (n := 10) (by kernel_rfl) S (by omega) exprR (fun L hL => exprBody_ok hR (hlen L hL) (hT L hL) bc) hb
  refine APure.fgt fun s => ?_
  refine ACalls.of_awp Tryz.func6 rfl (Nat.le_of_ble_eq_true (by kernel_rfl)) (awp_ok _ (by kernel_rfl) ?_)
  conv => whnf
  intro b3 hb3
  conv => whnf
  intro b4 hb4
  have n_b3_b4 : b3 ≠ b4 := ne_of_none bxa hb4
  have n_b4_b3 := n_b3_b4.symm
  conv => whnf
  have k4 := ((Sub.refl s).set hb3 26 [.int .i64 0, .int .i64 0, .int .i64 0]).none hb4
  repeat' ((first | (exfalso; first | omega | exact (by assumption : ¬ True) trivial | fail) | refine ⟨Sub.refl _, ?_⟩ | (refine brA_split (fun h => ?_) (fun h => ?_) <;> (try rw [h]) <;> (try simp only [bS, ↓reduceIte] at h)) | (refine ACalls.by (hrun set_bx_same) ?_; rintro v s1 ⟨hst, cs, hbc, hv⟩) | refine getB_same ?_ | refine AWp.anyA ?_ | refine and_a ?_ | fail) <;> (conv => whnf))
  have h13 := hst.bx b3 _ (fun h => n_b3_b4 h) bxa
  have hb41 : ∀ s0, Sub s0 s → s0.bx b4 = none → s0.bx b3 = none → Sub s0 s1 := fun s0 h1 h2 h3 => hst.sub s0 ((h1.set h3 _ _).set h2 _ _) (fun c hc => by rw [show c = b4 from hc]; exact h2)
  rcases hr : runR S exprR with ⟨e, a, b⟩ | o
  · rw [hr] at hv
    have he0 := runR_err hr
    replace hv : v = .agg [.int .i64 e, .int .i64 a, .int .i64 b] := hv
    subst hv
    conv => whnf
    repeat' ((first | (exfalso; first | omega | exact (by assumption : ¬ True) trivial | fail) | refine ⟨Sub.refl _, ?_⟩ | (refine brA_split (fun h => ?_) (fun h => ?_) <;> (try rw [h]) <;> (try simp only [bS, ↓reduceIte] at h)) | refine getB_same ?_ | refine AWp.anyA ?_ | refine and_a ?_ | fail) <;> (conv => whnf))
    intro b5 hb5
    have k5 : s.bx b5 = none := ((Sub.refl s).set hb3 _ _ |>.set k4 _ _).none (hst.none1 hbc hb5)
    have n_b3_b5 : b3 ≠ b5 := ne_of_none bxa hb5
    have n_b5_b3 := n_b3_b5.symm
    have n_b4_b5 : b4 ≠ b5 := ne_of_none bxa hb5
    have n_b5_b4 := n_b4_b5.symm
    conv => whnf
    repeat' ((first | (exfalso; first | omega | exact (by assumption : ¬ True) trivial | fail) | refine ⟨Sub.refl _, ?_⟩ | (refine brA_split (fun h => ?_) (fun h => ?_) <;> (try rw [h]) <;> (try simp only [bS, ↓reduceIte] at h)) | refine getB_a ?_ | (refine EqAgg.of grdFail planFail ?_) | refine getB_same ?_ | refine AWp.anyA ?_ | refine and_a ?_ | fail) <;> (conv => whnf))
    · exact ⟨_, Sub.refl _, rfl, (((hb41 s (Sub.refl _) k4 hb3).set k5 _ _).set k5 _ _).set hb3 _ _⟩
    · exfalso; revert h; simp [he0]
  · rw [hr] at hv
    obtain ⟨rfl, t5, rfl⟩ := hv
    conv => whnf
    repeat' ((first | (exfalso; first | omega | exact (by assumption : ¬ True) trivial | fail) | refine ⟨Sub.refl _, ?_⟩ | (refine brA_split (fun h => ?_) (fun h => ?_) <;> (try rw [h]) <;> (try simp only [bS, ↓reduceIte] at h)) | refine getB_same ?_ | refine AWp.anyA ?_ | refine and_a ?_ | fail) <;> (conv => whnf))
    intro b5 hb5
    have k5 : s.bx b5 = none := ((Sub.refl s).set hb3 _ _ |>.set k4 _ _).none (hst.none1 hbc hb5)
    have n_b3_b5 : b3 ≠ b5 := ne_of_none bxa hb5
    have n_b5_b3 := n_b3_b5.symm
    have n_b4_b5 : b4 ≠ b5 := ne_of_none bxa hb5
    have n_b5_b4 := n_b4_b5.symm
    conv => whnf
    repeat' ((first | (exfalso; first | omega | exact (by assumption : ¬ True) trivial | fail) | refine ⟨Sub.refl _, ?_⟩ | (refine brA_split (fun h => ?_) (fun h => ?_) <;> (try rw [h]) <;> (try simp only [bS, ↓reduceIte] at h)) | refine getB_a ?_ | (refine EqAgg.of grdFail planFail ?_) | refine getB_same ?_ | refine AWp.anyA ?_ | refine and_a ?_ | fail) <;> (conv => whnf))
    all_goals first | (exfalso; revert h; simp; done) | skip
    exact ⟨_, Sub.refl _, by simp only [tupA, fg, fgL, fgE_exs, exprA], (((hb41 s (Sub.refl _) k4 hb3).set k5 _ _).set k5 _ _).set hb3 _ _⟩
end Go.Proofs.YthpnfflkkmpejaaGreatDoor.Pa
namespace Go.Proofs.YthpnfflkkmpejaaGreatDoor.Pa
open Go Go.Ab Go.RowKit Go.Proofs.YthpnfflkkmpejaaGreatDoor.Lx
set_option maxRecDepth 10000
set_option maxHeartbeats 1000000
def dAt (d : List Int) (i : Nat) : Int := d.getD i 0
theorem dAt_left {o l : List Int} {i : Nat} (h : i < o.length) : dAt (o ++ l) i = dAt o i := by simp [dAt, List.getD, List.getElem?_append_left h]
theorem dAt_right {o l : List Int} {i : Nat} (h : o.length ≤ i) : dAt (o ++ l) i = dAt l (i - o.length) := by simp [dAt, List.getD, List.getElem?_append_right h]
theorem deepF_one {d : List Int} {a : Nat} (h : 1 ≤ dAt d a ∧ dAt d a ≤ 64) : deepF d [(a : Int)] 1 = dAt d a + 1 := by
  show (if IntKind.i64.wrap (d.getD ((a : Int)).toNat 0 + 1) > 1 then IntKind.i64.wrap (d.getD ((a : Int)).toNat 0 + 1) else 1) = _
  have e : IntKind.i64.wrap (d.getD ((a : Int)).toNat 0 + 1) = dAt d a + 1 := i64_of rfl (by unfold dAt at *; omega) (by unfold dAt at *; omega)
  rw [e, if_pos (by omega)]
theorem deepF_two {d : List Int} {a b : Nat} (h : 1 ≤ dAt d a ∧ dAt d a ≤ 64) (k : 1 ≤ dAt d b ∧ dAt d b ≤ 64) : deepF d [(a : Int), (b : Int)] 1 = (if dAt d b > dAt d a then dAt d b else dAt d a) + 1 := by
  have e : ∀ a : Nat, (1 ≤ dAt d a ∧ dAt d a ≤ 64) → IntKind.i64.wrap (d.getD ((a : Int)).toNat 0 + 1) = dAt d a + 1 := fun a h => i64_of rfl (by unfold dAt at *; omega) (by unfold dAt at *; omega)
  simp only [deepF]
  rw [e a h, e b k]
  rw [if_pos (show dAt d a + 1 > 1 by omega)]
  split <;> split <;> omega
end Go.Proofs.YthpnfflkkmpejaaGreatDoor.Pa
namespace Go.Proofs.YthpnfflkkmpejaaGreatDoor.Pa
open Go Go.Ab Go.RowKit Go.Proofs.YthpnfflkkmpejaaGreatDoor.Lx
set_option maxRecDepth 10000
set_option maxHeartbeats 1000000
def pr (t : Tok) : Int × List UInt8 := (t.1, t.2.1)
/-- The tokens from a place on, without their places. -/
def Tk (L : List Tok) (a : Nat) : List (Int × List UInt8) := (L.drop a).map pr
def Line1 (L : List Tok) : Prop := ∀ i, i < L.length → (L.getD i noTok).2.2.1 = 1
theorem Tk_cons {L : List Tok} {a : Nat} {x : Int × List UInt8} {r : List (Int × List UInt8)} (h : Tk L a = x :: r) : a < L.length ∧ pr (L.getD a noTok) = x ∧ Tk L (a + 1) = r := by
  unfold Tk at *
  have ha : a < L.length := by
    rcases Nat.lt_or_ge a L.length with hh | hh
    · exact hh
    · rw [List.drop_of_length_le hh] at h; cases h
  rw [List.drop_eq_getElem_cons ha, List.map_cons] at h
  injection h with h1 h2
  exact ⟨ha, by rw [List.getD_eq_getElem?_getD, List.getElem?_eq_getElem ha]; exact h1, h2⟩
theorem Tk_nil {L : List Tok} {a : Nat} (h : Tk L a = []) : L.length ≤ a := by
  unfold Tk at h
  have := congrArg List.length h
  simp at this
  omega
theorem peek_at {L : List Tok} {a : Nat} {x : Int × List UInt8} {r : List (Int × List UInt8)} (hl : Line1 L) (h : Tk L a = x :: r) : (peekF L a).1 = x.1 ∧ (peekF L a).2.1 = x.2 ∧ (peekF L a).2.2.1 = 1 := by
  obtain ⟨h1, h2, _⟩ := Tk_cons h
  unfold peekF
  rw [if_pos h1]
  exact ⟨congrArg Prod.fst h2, congrArg Prod.snd h2, hl a h1⟩
theorem isF_at {L : List Tok} {a : Nat} {x : Int × List UInt8} {r : List (Int × List UInt8)} (hl : Line1 L) (h : Tk L a = x :: r) (w : List UInt8) : isF L a w = ((decide (x.1 = 2) || decide (x.1 = 5)) && decide (x.2 = w)) := by
  obtain ⟨h1, h2, _⟩ := peek_at hl h
  unfold isF signK
  rw [h1, h2]
theorem nextF_at {L : List Tok} {a : Nat} {x : Int × List UInt8} {r : List (Int × List UInt8)} (hl : Line1 L) (h : Tk L a = x :: r) (m : List (List UInt8 × Int)) : nextF L a m = if (decide (x.1 = 2) || decide (x.1 = 5)) = true then mapA x.2 m else 0 := by
  obtain ⟨h1, h2, _⟩ := peek_at hl h
  unfold nextF signK
  rw [h1, h2]
theorem nextF_end {L : List Tok} {a : Nat} (h : Tk L a = []) (m : List (List UInt8 × Int)) : nextF L a m = 0 := by
  have := Tk_nil h
  cases hn : decide (nextF L a m = 0)
  · exact absurd (nextF_lt (of_decide_eq_false hn)) (by omega)
  · exact of_decide_eq_true hn
/-- What may stand behind an expression. -/
def Ends (R : List (Int × List UInt8)) : Prop := R = [] ∨ ∃ r, R = (5, [41]) :: r
theorem ends_next {L : List Tok} {a : Nat} (hl : Line1 L) (h : Ends (Tk L a)) {m : List (List UInt8 × Int)} (hm : mapA [41] m = 0) : nextF L a m = 0 := by
  rcases h with h | ⟨r, h⟩
  · exact nextF_end h m
  · rw [nextF_at hl h m]; exact hm
/-- What a level's reading comes to: too deep, or so far, with so many nodes, so deep. -/
def Out (r : Res St) (big : Prop) (a : Nat) (k : Int) (n : Nat) (D : Nat) : Prop :=
  (big → ∃ c, r = .error (13, 1, c)) ∧ (¬ big → ∃ z : St, r = .ok z ∧ z.a = a ∧ z.k = k ∧ z.o.length = n ∧ z.d.length = n ∧ dAt z.d (n - 1) = D)
theorem Out.same {r r' : Res St} {big : Prop} {a n D : Nat} {k : Int} (h : Out r big a k n D) (he : ∀ c, r = .error (13, 1, c) → r' = .error (13, 1, c)) (hk : ∀ z : St, r = .ok z → z.a = a → r' = .ok z) : Out r' big a k n D :=
  ⟨fun hb => by obtain ⟨c, hc⟩ := h.1 hb; exact ⟨c, he c hc⟩, fun hb => by obtain ⟨z, h1, h2, h3⟩ := h.2 hb; exact ⟨z, hk z h1 h2, h2, h3⟩⟩
theorem Out.chain {L : List Tok} {m : List (List UInt8 × Int)} {F : St → Res St} {st : St} {big : Prop} {a n D : Nat} {k : Int} (h : Out (F st) big a k n D) (hn : nextF L a m = 0) : Out (chainF L m F st) big a k n D :=
  h.same (fun c hc => by unfold chainF; rw [hc]) fun z hz ha => by unfold chainF; rw [hz]; dsimp only; unfold chainL; rw [ha, if_pos hn]
theorem Out.comp {L : List Tok} {F : St → Res St} {st : St} {big : Prop} {a n D : Nat} {k : Int} (h : Out (F st) big a k n D) (hn : nextF L a cmpM = 0) : Out (compF L F st) big a k n D :=
  h.same (fun c hc => by unfold compF; rw [hc]) fun z hz ha => by unfold compF; rw [hz]; dsimp only; rw [ha, if_pos hn]
/-- A name alone. -/
theorem leaf_out {L : List Tok} (hl : Line1 L) {st : St} {R : List (Int × List UInt8)} (h : Tk L st.a = (1, [120]) :: R) (hd : st.d.length = st.o.length) (f : Nat) : Out (ev L (f + 1) 6 st) False (st.a + 1) st.k (st.o.length + 1) 1 := by
  refine ⟨fun h => h.elim, fun _ => ?_⟩
  obtain ⟨h1, h2, h3⟩ := peek_at hl h
  have e : ev L (f + 1) 6 st = nodeF (peekF L st.a) { ex0 with op := 17, name := (peekF L st.a).2.1 } [] { st with a := st.a + 1 } := by
    show unaryF L (ev L f 0) (ev L f 6) st = _
    unfold unaryF
    rw [isF_at hl h, if_neg (by decide), if_pos ⟨h1, by rw [h2]; decide⟩]
  rw [e]
  refine ⟨_, rfl, rfl, rfl, by simp, by simp [deepF, hd], ?_⟩
  simp only [Nat.add_sub_cancel]
  rw [dAt_right (by rw [hd]; exact Nat.le_refl _)]
  simp [dAt, hd, deepF]
theorem prod_out {L : List Tok} (hl : Line1 L) {st : St} {R : List (Int × List UInt8)} (h : Tk L st.a = (1, [120]) :: R) (hd : st.d.length = st.o.length) (hR : nextF L (st.a + 1) prodM = 0) (f : Nat) : Out (ev L (f + 2) 5 st) False (st.a + 1) st.k (st.o.length + 1) 1 :=
  (leaf_out hl h hd f).chain hR
def chainT : Nat → List (Int × List UInt8)
  | 0 => []
  | c + 1 => (5, [43]) :: (1, [120]) :: chainT c
theorem sum_step {L : List Tok} (hl : Line1 L) {R : List (Int × List UInt8)} (hR : Ends R) {f : Nat} : ∀ (c n : Nat) (s1 : St) (D : Nat), Tk L s1.a = chainT c ++ R → s1.d.length = s1.o.length → 0 < s1.o.length → dAt s1.d (s1.o.length - 1) = D → 1 ≤ D → D ≤ 64 → c < n →
    Out (chainL L sumM (ev L (f + 2) 5) n s1) (64 < D + c) (s1.a + 2 * c) s1.k (s1.o.length + 2 * c) (D + c)
  | c, 0, s1, D, _, _, _, _, _, _, hn => absurd hn (Nat.not_lt_zero _)
  | 0, n + 1, s1, D, ht, hd, h0, hD, h1, h64, hn => by
    refine ⟨fun hb => absurd hb (by omega), fun _ => ⟨s1, ?_, rfl, rfl, rfl, hd, hD⟩⟩
    unfold chainL
    rw [if_pos (ends_next hl (by rw [ht]; exact hR) (by decide))]
  | c + 1, n + 1, s1, D, ht, hd, h0, hD, h1, h64, hn => by
    have ht : Tk L s1.a = (5, [43]) :: (1, [120]) :: (chainT c ++ R) := ht
    obtain ⟨_, _, ht2⟩ := Tk_cons ht
    obtain ⟨_, _, ht3⟩ := Tk_cons ht2
    have hop : nextF L s1.a sumM = 8 := by rw [nextF_at hl ht]; decide
    have hpr : nextF L (s1.a + 1 + 1) prodM = 0 := by
      cases c with
      | zero => exact ends_next hl (by rw [ht3]; exact hR) (by decide)
      | succ c => rw [nextF_at hl (show Tk L (s1.a + 1 + 1) = (5, [43]) :: (1, [120]) :: (chainT c ++ R) from ht3)]; decide
    obtain ⟨z, hz, z1, z2, z3, z4, z5⟩ := (prod_out hl (st := { s1 with a := s1.a + 1 }) ht2 hd hpr f).2 (fun h => h)
    simp only at z1 z2 z3 z4 z5
    have hgr : ∃ l2, z.d = s1.d ++ l2 := by
      have e : ev L (f + 2) 5 { s1 with a := s1.a + 1 } = .ok { s1 with a := s1.a + 1 + 1, o := s1.o ++ [{ ex0 with op := 17, name := (peekF L (s1.a + 1)).2.1, ln := (peekF L (s1.a + 1)).2.2.1, cl := (peekF L (s1.a + 1)).2.2.2 }], d := s1.d ++ [1] } := by
        obtain ⟨p1, p2, p3⟩ := peek_at hl ht2
        show chainF L prodM (ev L (f + 1) 6) { s1 with a := s1.a + 1 } = _
        have e6 : ev L (f + 1) 6 { s1 with a := s1.a + 1 } = .ok { s1 with a := s1.a + 1 + 1, o := s1.o ++ [{ ex0 with op := 17, name := (peekF L (s1.a + 1)).2.1, ln := (peekF L (s1.a + 1)).2.2.1, cl := (peekF L (s1.a + 1)).2.2.2 }], d := s1.d ++ [1] } := by
          show unaryF L (ev L f 0) (ev L f 6) { s1 with a := s1.a + 1 } = _
          unfold unaryF
          dsimp only
          rw [isF_at hl ht2, if_neg (by decide), if_pos ⟨p1, by rw [p2]; decide⟩]
          rfl
        unfold chainF
        rw [e6]
        dsimp only
        unfold chainL
        dsimp only
        rw [if_pos hpr]
      rw [e] at hz
      injection hz with hz
      exact ⟨[1], by rw [← hz]⟩
    obtain ⟨l2, hl2⟩ := hgr
    have hold : dAt z.d (s1.o.length - 1) = D := by rw [hl2, dAt_left (by omega)]; exact hD
    have hnew : dAt z.d (z.o.length - 1) = 1 := by rw [z3]; exact z5
    have hdp : deepF z.d [(s1.o.length : Int) - 1, (z.o.length : Int) - 1] 1 = (D : Int) + 1 := by
      have := deepF_two (d := z.d) (a := s1.o.length - 1) (b := z.o.length - 1) (by rw [hold]; omega) (by rw [hnew]; decide)
      rw [show ((s1.o.length - 1 : Nat) : Int) = (s1.o.length : Int) - 1 by omega, show ((z.o.length - 1 : Nat) : Int) = (z.o.length : Int) - 1 by omega] at this
      rw [this, hold, hnew]
      split <;> omega
    have hch : chainL L sumM (ev L (f + 2) 5) (n + 1) s1 = match nodeF (peekF L s1.a) { ex0 with op := 8, a := (s1.o.length : Int) - 1, b := (z.o.length : Int) - 1 } [(s1.o.length : Int) - 1, (z.o.length : Int) - 1] z with
      | .error e => .error e
      | .ok s3 => chainL L sumM (ev L (f + 2) 5) n s3 := by
      rw [chainL, if_neg (by rw [hop]; decide), hz, hop]
      rfl
    rw [hch]
    clear hch
    unfold nodeF
    rw [hdp]
    by_cases hbig : (64 : Int) < (D : Int) + 1
    · rw [if_pos hbig]
      refine ⟨fun _ => ⟨_, by rw [(peek_at hl ht).2.2]⟩, fun hb => absurd (show 64 < D + (c + 1) by omega) hb⟩
    · rw [if_neg hbig]
      dsimp only
      have ih := sum_step hl hR (f := f) c n { z with o := z.o ++ [{ ex0 with op := 8, a := (s1.o.length : Int) - 1, b := (z.o.length : Int) - 1, ln := (peekF L s1.a).2.2.1, cl := (peekF L s1.a).2.2.2 }], d := z.d ++ [(D : Int) + 1] } (D + 1) (by show Tk L z.a = _; rw [z1]; exact ht3) (by simp [z3, z4]) (by simp) (by
          show dAt (z.d ++ [(D : Int) + 1]) ((z.o ++ [_]).length - 1) = _
          rw [List.length_append, List.length_cons, List.length_nil, Nat.zero_add, Nat.add_sub_cancel, dAt_right (by omega)]
          simp [dAt, z3, z4]) (by omega) (by omega) (by omega)
      simp only [List.length_append, List.length_cons, List.length_nil] at ih
      have e1 : z.a + 2 * c = s1.a + 2 * (c + 1) := by omega
      have e2 : z.o.length + (0 + 1) + 2 * c = s1.o.length + 2 * (c + 1) := by omega
      have e3 : D + 1 + c = D + (c + 1) := by omega
      rw [e1, e2, e3] at ih
      rw [← z2]
      exact ih
end Go.Proofs.YthpnfflkkmpejaaGreatDoor.Pa
namespace Go.Proofs.YthpnfflkkmpejaaGreatDoor.Pa
open Go Go.Ab Go.RowKit Go.Proofs.YthpnfflkkmpejaaGreatDoor.Lx
set_option maxRecDepth 10000
set_option maxHeartbeats 1000000
variable {L : List Tok} {R : List (Int × List UInt8)}
theorem sum_out (hl : Line1 L) (hR : Ends R) {st : St} {c : Nat} (h : Tk L st.a = (1, [120]) :: (chainT c ++ R)) (hd : st.d.length = st.o.length) (hc : c ≤ L.length) (f : Nat) : Out (ev L (f + 3) 4 st) (64 < c + 1) (st.a + 1 + 2 * c) st.k (st.o.length + 1 + 2 * c) (c + 1) := by
  obtain ⟨_, _, ht⟩ := Tk_cons h
  have hpr : nextF L (st.a + 1) prodM = 0 := by
    cases c with
    | zero => exact ends_next hl (by rw [ht]; exact hR) (by decide)
    | succ c => rw [nextF_at hl (show Tk L (st.a + 1) = (5, [43]) :: (1, [120]) :: (chainT c ++ R) from ht)]; decide
  obtain ⟨z, hz, z1, z2, z3, z4, z5⟩ := (prod_out hl h hd hpr f).2 (fun h => h)
  have e : ev L (f + 3) 4 st = chainL L sumM (ev L (f + 2) 5) (L.length + 1) z := by
    show chainF L sumM (ev L (f + 2) 5) st = _
    unfold chainF
    rw [hz]
  rw [e]
  have := sum_step hl hR (f := f) c (L.length + 1) z 1 (by rw [z1]; exact ht) (by rw [z4, z3]) (by omega) (by rw [z3]; exact z5) (Nat.le_refl _) (by decide) (by omega)
  rw [z1, z2, z3] at this
  rw [show 1 + c = c + 1 by omega] at this
  exact this
theorem notF_other {f : Nat} {st : St} (hl : Line1 L) {x : Int × List UInt8} {r : List (Int × List UInt8)} (h : Tk L st.a = x :: r) (hx : x ≠ (2, [110, 111, 116]) ∧ x ≠ (5, [110, 111, 116])) : ev L (f + 1) 2 st = ev L f 3 st := by
  show (if isF L st.a [110, 111, 116] = true then beforeF L 4 (ev L f 2) st else ev L f 3 st) = _
  rw [if_neg]
  rw [isF_at hl h]
  intro hh
  simp only [Bool.and_eq_true, Bool.or_eq_true, decide_eq_true_eq] at hh
  obtain ⟨h1 | h1, h2⟩ := hh
  · exact hx.1 (Prod.ext h1 h2)
  · exact hx.2 (Prod.ext h1 h2)
/-- From sums up. -/
theorem up_out (hl : Line1 L) {st : St} {x : Int × List UInt8} {r : List (Int × List UInt8)} (h : Tk L st.a = x :: r) (hx : x ≠ (2, [110, 111, 116]) ∧ x ≠ (5, [110, 111, 116])) {big : Prop} {a n D : Nat} {k : Int} {f : Nat} (ho : Out (ev L f 4 st) big a k n D) (he : Ends (Tk L a)) : Out (ev L (f + 4) 0 st) big a k n D := by
  have h3 : Out (ev L (f + 1) 3 st) big a k n D := ho.comp (ends_next hl he (by decide))
  have h2 : Out (ev L (f + 2) 2 st) big a k n D := by rw [notF_other hl h hx]; exact h3
  have h1 : Out (ev L (f + 3) 1 st) big a k n D := h2.chain (ends_next hl he (by decide))
  exact h1.chain (ends_next hl he (by decide))
def rep {α : Type} (x : α) : Nat → List α
  | 0 => []
  | n + 1 => x :: rep x n
theorem rep_app {α : Type} (x : α) : ∀ (n : Nat) (l : List α), rep x n ++ x :: l = x :: (rep x n ++ l)
  | 0, l => rfl
  | n + 1, l => by show x :: (rep x n ++ x :: l) = _; rw [rep_app x n l]; rfl
theorem chain_tk : ∀ {c a : Nat}, Tk L a = chainT c ++ R → Tk L (a + 2 * c) = R
  | 0, a, h => h
  | c + 1, a, h => by
    have h : Tk L a = (5, [43]) :: (1, [120]) :: (chainT c ++ R) := h
    obtain ⟨_, _, h2⟩ := Tk_cons h
    obtain ⟨_, _, h3⟩ := Tk_cons h2
    have := chain_tk h3
    rw [show a + 2 * (c + 1) = a + 1 + 1 + 2 * c by omega]
    exact this
/-- So many brackets. -/
theorem paren_out (hl : Line1 L) {c : Nat} (hc : c ≤ L.length) : ∀ (j : Nat) (st : St) (R : List (Int × List UInt8)) (f : Nat), Ends R → Tk L st.a = rep (5, [40]) j ++ (1, [120]) :: (chainT c ++ (rep (5, [41]) j ++ R)) → st.d.length = st.o.length → st.k ≤ 128 → 7 * j + 7 ≤ f →
    Out (ev L f 0 st) (128 < st.k + j ∨ 64 < c + 1) (st.a + 1 + 2 * c + 2 * j) st.k (st.o.length + 1 + 2 * c) (c + 1)
  | 0, st, R, f, hR, h, hd, hk, hf => by
    obtain ⟨g, rfl⟩ : ∃ g, f = g + 3 + 4 := ⟨f - 7, by omega⟩
    have h : Tk L st.a = (1, [120]) :: (chainT c ++ R) := h
    obtain ⟨_, _, ht⟩ := Tk_cons h
    have hE : Tk L (st.a + 1 + 2 * c) = R := chain_tk ht
    have := up_out hl h (by decide) (sum_out hl hR h hd hc g) (by rw [hE]; exact hR)
    refine ⟨fun hb => this.1 (by omega), fun hb => ?_⟩
    exact this.2 (by omega)
  | j + 1, st, R, f, hR, h, hd, hk, hf => by
    obtain ⟨g, rfl⟩ : ∃ g, f = g + 1 + 1 + 1 + 4 := ⟨f - 7, by omega⟩
    have h : Tk L st.a = (5, [40]) :: (rep (5, [40]) j ++ (1, [120]) :: (chainT c ++ (rep (5, [41]) (j + 1) ++ R))) := h
    obtain ⟨hlt, _, ht⟩ := Tk_cons h
    have hrr : rep ((5 : Int), ([41] : List UInt8)) (j + 1) ++ R = rep (5, [41]) j ++ (5, [41]) :: R := by rw [rep_app]; rfl
    rw [hrr] at ht
    have hun : Out (ev L (g + 1) 6 st) (128 < st.k + (j + 1 : Nat) ∨ 64 < c + 1) (st.a + 1 + 2 * c + 2 * (j + 1)) st.k (st.o.length + 1 + 2 * c) (c + 1) := by
      have e : ev L (g + 1) 6 st = insideF L (fun s => match ev L g 0 s with | .error e => .error e | .ok s' => wantF L [41] s') st := by
        show unaryF L (ev L g 0) (ev L g 6) st = _
        unfold unaryF
        rw [isF_at hl h, if_pos (by decide)]
        rfl
      rw [e]
      unfold insideF
      by_cases h128 : st.k = 128
      · rw [if_pos h128]
        refine ⟨fun _ => ⟨_, by unfold failF; rw [(peek_at hl h).2.2]⟩, fun hb => absurd (.inl (by omega)) hb⟩
      · rw [if_neg h128]
        have ih := paren_out hl hc j { st with a := st.a + 1, k := st.k + 1 } ((5, [41]) :: R) g (.inr ⟨R, rfl⟩) ht hd (by show st.k + 1 ≤ 128; omega) (by omega)
        simp only at ih
        refine ⟨fun hb => ?_, fun hb => ?_⟩
        · obtain ⟨cc, hcc⟩ := ih.1 (by omega)
          exact ⟨cc, by dsimp only; rw [hcc]⟩
        · obtain ⟨z, hz, z1, z2, z3, z4, z5⟩ := ih.2 (by omega)
          have hza : z.a = st.a + 1 + 1 + 2 * c + 2 * j := by rw [z1]
          have htz : Tk L z.a = (5, [41]) :: R := by
            have skip : ∀ (j a : Nat) (x : Int × List UInt8) (r : List (Int × List UInt8)), Tk L a = rep x j ++ r → Tk L (a + j) = r := by
              intro j
              induction j with
              | zero => intro a x r h; exact h
              | succ j ihj =>
                intro a x r h
                obtain ⟨_, _, h2⟩ := Tk_cons (show Tk L a = x :: (rep x j ++ r) from h)
                have := ihj (a + 1) x r h2
                rwa [show a + 1 + j = a + (j + 1) by omega] at this
            have s1 := skip j (st.a + 1) _ _ ht
            obtain ⟨_, _, s2⟩ := Tk_cons s1
            have s3 := chain_tk s2
            have s4 := skip j _ _ _ s3
            rwa [show st.a + 1 + j + 1 + 2 * c + j = z.a by omega] at s4
          dsimp only
          rw [hz]
          dsimp only
          unfold wantF
          rw [isF_at hl htz, if_pos (by decide)]
          exact ⟨_, rfl, by show z.a + 1 = _; omega, by show z.k - 1 = _; omega, z3, z4, z5⟩
    have hE : Tk L (st.a + 1 + 2 * c + 2 * (j + 1)) = R := by
      have skip : ∀ (j a : Nat) (x : Int × List UInt8) (r : List (Int × List UInt8)), Tk L a = rep x j ++ r → Tk L (a + j) = r := by
        intro j
        induction j with
        | zero => intro a x r h; exact h
        | succ j ihj =>
          intro a x r h
          obtain ⟨_, _, h2⟩ := Tk_cons (show Tk L a = x :: (rep x j ++ r) from h)
          have := ihj (a + 1) x r h2
          rwa [show a + 1 + j = a + (j + 1) by omega] at this
      have s1 := skip j (st.a + 1) _ _ ht
      obtain ⟨_, _, s2⟩ := Tk_cons s1
      have s3 := chain_tk s2
      have s4 := skip j _ _ _ s3
      obtain ⟨_, _, s5⟩ := Tk_cons s4
      rwa [show st.a + 1 + j + 1 + 2 * c + j + 1 = st.a + 1 + 2 * c + 2 * (j + 1) by omega] at s5
    have h5 : Out (ev L (g + 1 + 1) 5 st) _ _ _ _ _ := hun.chain (ends_next hl (by rw [hE]; exact hR) (by decide))
    have h4 : Out (ev L (g + 1 + 1 + 1) 4 st) _ _ _ _ _ := h5.chain (ends_next hl (by rw [hE]; exact hR) (by decide))
    exact up_out hl h (by decide) h4 (by rw [hE]; exact hR)
/-- So many nots. -/
theorem not_out (hl : Line1 L) {c : Nat} (hc : c ≤ L.length) : ∀ (j : Nat) (st : St) (f : Nat), Tk L st.a = rep (2, [110, 111, 116]) j ++ (1, [120]) :: (chainT c ++ []) → st.d.length = st.o.length → st.k ≤ 128 → j + 5 ≤ f →
    Out (ev L f 2 st) (128 < st.k + j ∨ 64 < c + 1 + j) (st.a + 1 + 2 * c + j) st.k (st.o.length + 1 + 2 * c + j) (c + 1 + j)
  | 0, st, f, h, hd, hk, hf => by
    obtain ⟨g, rfl⟩ : ∃ g, f = g + 3 + 1 + 1 := ⟨f - 5, by omega⟩
    have h : Tk L st.a = (1, [120]) :: (chainT c ++ []) := h
    obtain ⟨_, _, ht⟩ := Tk_cons h
    have hE : Tk L (st.a + 1 + 2 * c) = [] := chain_tk ht
    rw [notF_other hl h (by decide)]
    have := (sum_out hl (.inl rfl) h hd hc g).comp (nextF_end hE cmpM)
    refine ⟨fun hb => this.1 (by omega), fun hb => this.2 (by omega)⟩
  | j + 1, st, f, h, hd, hk, hf => by
    obtain ⟨g, rfl⟩ : ∃ g, f = g + 1 := ⟨f - 1, by omega⟩
    have h : Tk L st.a = (2, [110, 111, 116]) :: (rep (2, [110, 111, 116]) j ++ (1, [120]) :: (chainT c ++ [])) := h
    obtain ⟨hlt, _, ht⟩ := Tk_cons h
    have e : ev L (g + 1) 2 st = beforeF L 4 (ev L g 2) st := by
      show (if isF L st.a [110, 111, 116] = true then beforeF L 4 (ev L g 2) st else ev L g 3 st) = _
      rw [isF_at hl h, if_pos (by decide)]
    rw [e]
    unfold beforeF insideF
    by_cases h128 : st.k = 128
    · rw [if_pos h128]
      refine ⟨fun _ => ⟨_, by unfold failF; dsimp only; rw [(peek_at hl h).2.2]⟩, fun hb => absurd (.inl (by omega)) hb⟩
    · rw [if_neg h128]
      have ih := not_out hl hc j { st with a := st.a + 1, k := st.k + 1 } g ht hd (by show st.k + 1 ≤ 128; omega) (by omega)
      simp only at ih
      by_cases hb' : 128 < st.k + 1 + j ∨ 64 < c + 1 + j
      · obtain ⟨cc, hcc⟩ := ih.1 hb'
        rw [hcc]
        exact ⟨fun _ => ⟨cc, rfl⟩, fun hb => absurd (by omega) hb⟩
      · obtain ⟨z, hz, z1, z2, z3, z4, z5⟩ := ih.2 hb'
        rw [hz]
        dsimp only
        have hdp : deepF z.d [(z.o.length : Int) - 1] 1 = ((c + 1 + j : Nat) : Int) + 1 := by
          have := deepF_one (d := z.d) (a := z.o.length - 1) (by rw [z3, z5]; omega)
          rw [show ((z.o.length - 1 : Nat) : Int) = (z.o.length : Int) - 1 by omega, z3, z5] at this
          rw [z3]; exact this
        unfold nodeF
        dsimp only
        rw [hdp]
        by_cases h64 : (64 : Int) < ((c + 1 + j : Nat) : Int) + 1
        · rw [if_pos h64]
          exact ⟨fun _ => ⟨_, by rw [(peek_at hl h).2.2]⟩, fun hb => absurd (by omega) hb⟩
        · rw [if_neg h64]
          refine ⟨fun hb => absurd hb (by omega), fun _ => ⟨_, rfl, by show z.a = _; omega, by show z.k - 1 = _; omega, by simp [z3]; omega, by simp [z4]; omega, ?_⟩⟩
          show dAt (z.d ++ [_]) _ = _
          rw [dAt_right (by omega)]
          rw [show st.o.length + 1 + 2 * c + (j + 1) - 1 - z.d.length = 0 by omega]
          show ((c + 1 + j : Nat) : Int) + 1 = _
          omega
end Go.Proofs.YthpnfflkkmpejaaGreatDoor.Pa
namespace Go.Proofs.YthpnfflkkmpejaaGreatDoor.Pa
open Go Go.Ab Go.RowKit Go.Proofs.YthpnfflkkmpejaaGreatDoor.Lx
variable {Γ : Nat → AV}
attribute [local irreducible] APure Sto.set Sto.grow
set_option maxRecDepth 10000
set_option maxHeartbeats 4000000
theorem digB_isD (c : UInt8) : digB c = Nu.isD c := by
  unfold digB digitc Nu.isD
  by_cases h1 : 48 ≤ c.toNat <;> by_cases h2 : c.toNat ≤ 57 <;> simp [h1, h2] <;> omega
/-- What a token is. -/
def TokOk (t : Tok) : Prop := t.2.1.length ≤ 5000 ∧ (t.1 = 3 → 0 < t.2.1.length ∧ t.2.1.all Nu.isD = true ∧ ¬ (byteAt t.2.1 0 = 48 ∧ 1 < t.2.1.length))
theorem sign_len (l : List UInt8) : (signOf l).length ≤ 5000 := by
  rcases signF_spec signsL l with h | ⟨h, _⟩
  · unfold signOf; rw [h]; decide
  · have := (by decide : ∀ x ∈ signsL, x.length ≤ 5000)
    exact this _ h
theorem letters_tok {l : List UInt8} {k : Int} {t : List UInt8} (h : lettersF l = .ok (k, t)) (a b : Int) : TokOk (k, t, a, b) := by
  unfold lettersF at h
  split at h
  · rename_i hd
    split at h
    · rename_i hn
      cases h
      unfold numE at hn
      split at hn
      · cases hn
      · rename_i hb
        split at hn
        · cases hn
        · rename_i h32
          refine ⟨by show l.length ≤ 5000; omega, fun _ => ⟨?_, ?_, fun hh => hb (.inr hh)⟩⟩
          · cases l with
            | nil => exact absurd hd (by decide)
            | cons c r => exact Nat.succ_pos _
          · have ha : l.all digB = true := by
              cases hx : l.all digB
              · exact absurd (.inl hx) hb
              · rfl
            show l.all Nu.isD = true
            rw [← ha]
            exact congrArg l.all (funext fun c => (digB_isD c).symm)
    · cases h
  · split at h
    · cases h
    · rename_i h32
      split at h
      · cases h
        exact ⟨by show l.length ≤ 5000; omega, fun h => by cases h⟩
      · cases h
        exact ⟨by show l.length ≤ 5000; omega, fun h => by cases h⟩
theorem first_tok {l : List UInt8} {k : Int} {t : List UInt8} {n : Nat} (h : firstF l = .ok (k, t, n)) (a b : Int) : TokOk (k, t, a, b) := by
  unfold firstF at h
  split at h
  · split at h
    · cases h
    · split at h
      · cases h
      · cases h
        exact ⟨by show t.length ≤ 5000; omega, fun h => by cases h⟩
  · split at h
    · split at h
      · cases h
      · cases h
        exact ⟨sign_len l, fun h => by cases h⟩
    · split at h
      · cases h
      · rename_i hl
        cases h
        exact letters_tok hl a b
theorem lexF_toks : ∀ (k : Nat) (p : Int × Int) (l : List UInt8) (m : List Tok), lexF k p l = .ok m → ∀ t ∈ m, TokOk t
  | 0, p, l, m => fun h => by cases h; exact fun _ h => nomatch h
  | k + 1, p, l, m => fun h => by
    by_cases hl : l.drop (blankN l) = []
    · rw [lexF_end hl] at h; cases h; exact fun _ h => nomatch h
    · rcases he : firstF (l.drop (blankN l)) with e' | ⟨kd, t, z⟩
      · rw [lexF_bad hl he] at h; cases h
      · rw [lexF_ok hl he] at h
        rcases hr : lexF k ((placeF p (l.take (blankN l))).1, (placeF p (l.take (blankN l))).2 + z) ((l.drop (blankN l)).drop z) with ⟨e', a', b'⟩ | m'
        · rw [hr] at h; cases h
        · rw [hr] at h
          have := lexF_toks k _ _ _ hr
          cases h
          intro x hx
          rcases List.mem_cons.1 hx with rfl | hx
          · exact first_tok he _ _
          · exact this x hx
theorem allT_toks {S : List UInt8} {L : List Tok} (h : allT S = .ok L) : ∀ i, TokOk (L.getD i noTok) := fun i => by
  unfold allT at h
  split at h
  · cases h
  · by_cases hi : i < L.length
    · exact lexF_toks _ _ _ _ h _ (by rw [List.getD_eq_getElem?_getD, List.getElem?_eq_getElem hi]; exact List.getElem_mem hi)
    · rw [List.getD_eq_getElem?_getD, List.getElem?_eq_none (by omega)]
      exact ⟨Nat.zero_le _, fun h => by cases h⟩
theorem allT_text {S : List UInt8} {L : List Tok} (h : allT S = .ok L) : ∀ i, (peekF L i).2.1.length ≤ 5000 := fun i => by
  unfold peekF
  split
  · exact (allT_toks h i).1
  · split <;> exact Nat.zero_le _
/-- The chapter's example. -/
def exS : List UInt8 := [97, 32, 43, 32, 50, 32, 62, 32, 45, 98]
def exL : List Ex := [{ ex0 with op := 17, name := [98], ln := 1, cl := 10 }, { ex0 with op := 5, ln := 1, cl := 9 }, { ex0 with op := 17, name := [97], ln := 1, cl := 1 }, { ex0 with op := 1, vk := 1, vi := 2, ln := 1, cl := 5 }, { ex0 with op := 8, a := 2, b := 3, ln := 1, cl := 3 }, { ex0 with op := 15, a := 1, b := 4, ln := 1, cl := 7 }]
theorem ex_read : runR exS exprR = .ok exL := by kernel_rfl
theorem awake_ok (hQ : Qu.Tabs Γ) (hW : Sc.Wds Γ) (hO : AsO.ErrT Γ) (hE : AsP.ErrT Γ) (hR : Nu.ErrR Γ) : APure Tryz.prog Γ 5 [] fun v => v = .bool true := by
  have h1 := expr_top hQ hW hO hE hR exS (by decide) (fun L hL => allT_text hL)
  rw [ex_read] at h1
  simp only [exprA] at h1
  refine APure.of_awp Tryz.func5 rfl (Nat.le_of_ble_eq_true (by kernel_rfl)) (by kernel_rfl) ?_
  intro s
  conv => whnf
  repeat' ((first | refine ⟨Sub.refl _, ?_⟩ | (refine brA_split (fun h => ?_) (fun h => ?_) <;> (try rw [h]) <;> (try simp only [bN, bS, ↓reduceIte] at h) <;> (first | (exfalso; first | contradiction | omega | exact (by assumption : ¬ True) trivial | fail) | skip)) | (refine ACalls.pure' ?_ (h1); rintro _ rfl) | refine DCall.pure ?_ (h1) | refine getB_same ?_ | refine AWp.anyA ?_ | refine and_a ?_ | fail) <;> (conv => whnf))
  intro b2 hb2
  have k_b2 := hb2
  repeat replace k_b2 := none_of_set k_b2
  conv => whnf
  repeat' ((first | refine ⟨Sub.refl _, ?_⟩ | (refine brA_split (fun h => ?_) (fun h => ?_) <;> (try rw [h]) <;> (try simp only [bN, bS, ↓reduceIte] at h) <;> (first | (exfalso; first | contradiction | omega | exact (by assumption : ¬ True) trivial | fail) | skip)) | refine getB_a ?_ | (refine EqAgg.of grdFail planFail ?_) | refine getB_same ?_ | refine AWp.anyA ?_ | refine and_a ?_ | fail) <;> (conv => whnf))
  exact ⟨suba, by kernel_rfl⟩
end Go.Proofs.YthpnfflkkmpejaaGreatDoor.Pa
namespace Go.Proofs.YthpnfflkkmpejaaGreatDoor.Pa
open Go Go.Ab Go.RowKit Go.Proofs.YthpnfflkkmpejaaGreatDoor.Lx
set_option maxRecDepth 10000
set_option maxHeartbeats 1000000
/-- A text's tokens, all in the first line. -/
def LexTo (S : List UInt8) (T : List (Int × List UInt8)) : Prop :=
  ∀ (k : Nat) (p : Int × Int), p.1 = 1 → S.length < k → ∃ L, lexF k p S = .ok L ∧ L.map pr = T ∧ ∀ t ∈ L, t.2.2.1 = 1
theorem lexTo_nil : LexTo [] [] := fun k p _ hk => by
  cases k with
  | zero => cases hk
  | succ k => exact ⟨[], lexF_end rfl, rfl, fun _ h => nomatch h⟩
theorem lexTo_step {S : List UInt8} {kd : Int} {tx : List UInt8} {z : Nat} {T : List (Int × List UInt8)} (hb : blankN S = 0) (hne : S ≠ []) (hf : firstF S = .ok (kd, tx, z)) (h : LexTo (S.drop z) T) : LexTo S ((kd, tx) :: T) := fun k p hp hk => by
  cases k with
  | zero => cases hk
  | succ k =>
    have hz := first_bound hf hne
    have hf' : firstF (S.drop (blankN S)) = .ok (kd, tx, z) := by rw [hb, List.drop_zero]; exact hf
    rw [lexF_ok (by rw [hb]; exact hne) hf']
    rw [hb, List.take_zero, List.drop_zero]
    have hpl : placeF p [] = p := by cases p; rfl
    rw [hpl]
    obtain ⟨L, h1, h2, h3⟩ := h k (p.1, p.2 + z) hp (by rw [List.length_drop]; omega)
    rw [h1]
    refine ⟨(kd, tx, p) :: L, rfl, by rw [List.map_cons, h2]; rfl, fun t ht => ?_⟩
    rcases List.mem_cons.1 ht with rfl | ht
    · exact hp
    · exact h3 t ht
theorem lexTo_blank {S : List UInt8} {T : List (Int × List UInt8)} (h : LexTo S T) : LexTo (32 :: S) T := fun k p hp hk => by
  obtain ⟨a, b⟩ := p
  simp only [List.length_cons] at hk
  obtain ⟨L, h1, h2, h3⟩ := h k (a, b + 1) hp (by omega)
  refine ⟨L, ?_, h2, h3⟩
  rw [← h1]
  cases k with
  | zero => omega
  | succ k =>
    have hbn : blankN (32 :: S) = blankN S + 1 := by unfold blankN; rw [blankF]; rfl
    have e1 : (32 :: S).drop (blankN (32 :: S)) = S.drop (blankN S) := by rw [hbn]; rfl
    have e2 : placeF (a, b) ((32 :: S).take (blankN (32 :: S))) = placeF (a, b + 1) (S.take (blankN S)) := by rw [hbn]; rfl
    unfold lexF
    rw [e1, e2]
theorem blank_zero {c : UInt8} {r : List UInt8} (h1 : blankc c.toNat = false) (h2 : c ≠ 35) : blankN (c :: r) = 0 := by
  unfold blankN
  rw [blankF]
  simp [h1, h2]
theorem lexTo_x {r : List UInt8} {T : List (Int × List UInt8)} (hr : letN r = 0) (h : LexTo r T) : LexTo (120 :: r) ((1, [120]) :: T) := by
  refine lexTo_step (z := 1) (blank_zero (by decide) (by decide)) (by simp) ?_ h
  have h1 : letN (120 :: r) = 1 := by rw [letN, if_pos (by decide), hr]
  unfold firstF
  rw [if_neg (by show ¬ (120 : UInt8) = 34; decide), h1, if_neg (by decide)]
  rw [show (120 :: r).take 1 = [120] from rfl, show lettersF [120] = .ok (1, [120]) by kernel_rfl]
theorem lexTo_not {r : List UInt8} {T : List (Int × List UInt8)} (h : LexTo r T) : LexTo (110 :: 111 :: 116 :: 32 :: r) ((2, [110, 111, 116]) :: T) := by
  refine lexTo_step (z := 3) (blank_zero (by decide) (by decide)) (by simp) ?_ (lexTo_blank h)
  have h1 : letN (110 :: 111 :: 116 :: 32 :: r) = 3 := by
    rw [letN, if_pos (by decide), letN, if_pos (by decide), letN, if_pos (by decide), letN, if_neg (by decide)]
  unfold firstF
  rw [if_neg (by show ¬ (110 : UInt8) = 34; decide), h1, if_neg (by decide)]
  rw [show (110 :: 111 :: 116 :: 32 :: r).take 3 = [110, 111, 116] from rfl, show lettersF [110, 111, 116] = .ok (2, [110, 111, 116]) by kernel_rfl]
theorem pfx_no {x y c : UInt8} {r : List UInt8} (h : x ≠ c) : pfx [x, y] (c :: r) = false := by
  unfold pfx
  rw [Bool.and_eq_false_iff]
  right
  rw [decide_eq_false_iff_not]
  intro hh
  rw [show [x, y].length = 2 from rfl, List.take_succ_cons] at hh
  injection hh with h1 _
  exact h h1.symm
theorem pfx_one {x c : UInt8} {r : List UInt8} : pfx [x] (c :: r) = decide (c = x) := by
  unfold pfx
  simp
theorem sign_40 {r : List UInt8} : signOf (40 :: r) = [40] := by
  unfold signOf signsL
  simp [signF, pfx_no, pfx_one]
theorem sign_41 {r : List UInt8} : signOf (41 :: r) = [41] := by
  unfold signOf signsL
  simp [signF, pfx_no, pfx_one]
theorem sign_43 {r : List UInt8} : signOf (43 :: r) = [43] := by
  unfold signOf signsL
  simp [signF, pfx_no, pfx_one]
theorem lexTo_sign {c : UInt8} {r : List UInt8} {T : List (Int × List UInt8)} (h1 : blankc c.toNat = false) (h2 : c ≠ 35) (h3 : c ≠ 34) (h4 : Sc.wordc c.toNat = false) (hs : signOf (c :: r) = [c]) (h : LexTo r T) : LexTo (c :: r) ((5, [c]) :: T) := by
  refine lexTo_step (z := 1) (blank_zero h1 h2) (by simp) ?_ h
  unfold firstF
  rw [if_neg (by show ¬ c = 34; exact h3), if_pos (by rw [letN, if_neg (by rw [h4]; decide)]), hs, if_neg (by simp)]
  rfl
/-- The texts. -/
def plusS : Nat → List UInt8
  | 0 => []
  | c + 1 => 43 :: 120 :: plusS c
def notS : Nat → List UInt8
  | 0 => []
  | j + 1 => 110 :: 111 :: 116 :: 32 :: notS j
theorem let_plus (c : Nat) (r : List UInt8) (hr : letN r = 0) : letN (plusS c ++ r) = 0 := by
  cases c with
  | zero => exact hr
  | succ c => show letN (43 :: _) = 0; rw [letN, if_neg (by decide)]
theorem lexTo_plus {r : List UInt8} {T : List (Int × List UInt8)} (hr : letN r = 0) (h : LexTo r T) : ∀ c, LexTo (plusS c ++ r) (chainT c ++ T)
  | 0 => h
  | c + 1 => lexTo_sign (by decide) (by decide) (by decide) (by decide) sign_43 (lexTo_x (let_plus c r hr) (lexTo_plus hr h c))
theorem let_shut : ∀ j, letN (rep 41 j) = 0
  | 0 => rfl
  | j + 1 => by show letN (41 :: _) = 0; rw [letN, if_neg (by decide)]
theorem lexTo_shut : ∀ j, LexTo (rep 41 j) (rep (5, [41]) j)
  | 0 => lexTo_nil
  | j + 1 => lexTo_sign (by decide) (by decide) (by decide) (by decide) sign_41 (lexTo_shut j)
theorem lexTo_open {r : List UInt8} {T : List (Int × List UInt8)} (h : LexTo r T) : ∀ j, LexTo (rep 40 j ++ r) (rep (5, [40]) j ++ T)
  | 0 => h
  | j + 1 => lexTo_sign (by decide) (by decide) (by decide) (by decide) sign_40 (lexTo_open h j)
theorem lexTo_nots {r : List UInt8} {T : List (Int × List UInt8)} (h : LexTo r T) : ∀ j, LexTo (notS j ++ r) (rep (2, [110, 111, 116]) j ++ T)
  | 0 => h
  | j + 1 => lexTo_not (lexTo_nots h j)
def parenS (j c : Nat) : List UInt8 := rep 40 j ++ 120 :: (plusS c ++ rep 41 j)
def notsS (j c : Nat) : List UInt8 := notS j ++ 120 :: plusS c
theorem parenS_lex (j c : Nat) : LexTo (parenS j c) (rep (5, [40]) j ++ (1, [120]) :: (chainT c ++ rep (5, [41]) j)) :=
  lexTo_open (lexTo_x (let_plus c _ (let_shut j)) (lexTo_plus (let_shut j) (lexTo_shut j) c)) j
theorem notsS_lex (j c : Nat) : LexTo (notsS j c) (rep (2, [110, 111, 116]) j ++ (1, [120]) :: (chainT c ++ [])) := by
  have := lexTo_nots (lexTo_x (let_plus c [] rfl) (lexTo_plus (r := []) rfl lexTo_nil c)) j
  simp only [List.append_nil] at this ⊢
  exact this
theorem rep_len {α : Type} (x : α) : ∀ n, (rep x n).length = n
  | 0 => rfl
  | n + 1 => by show (x :: rep x n).length = _; rw [List.length_cons, rep_len x n]
theorem plus_len : ∀ c, (plusS c).length = 2 * c
  | 0 => rfl
  | c + 1 => by show (43 :: 120 :: plusS c).length = _; simp only [List.length_cons, plus_len c]; omega
theorem chain_len : ∀ c, (chainT c).length = 2 * c
  | 0 => rfl
  | c + 1 => by show ((5, [43]) :: (1, [120]) :: chainT c).length = _; simp only [List.length_cons, chain_len c]; omega
theorem not_len : ∀ j, (notS j).length = 4 * j
  | 0 => rfl
  | j + 1 => by show (110 :: 111 :: 116 :: 32 :: notS j).length = _; simp only [List.length_cons, not_len j]; omega
theorem line_of {L : List Tok} (h : ∀ t ∈ L, t.2.2.1 = 1) : Line1 L := fun i hi => by
  rw [List.getD_eq_getElem?_getD, List.getElem?_eq_getElem hi]
  exact h _ (List.getElem_mem hi)
theorem lex_all {S : List UInt8} {T : List (Int × List UInt8)} (h : LexTo S T) (hS : S.length ≤ 65536) : ∃ L, allT S = .ok L ∧ Tk L 0 = T ∧ Line1 L ∧ L.length = T.length := by
  obtain ⟨L, h1, h2, h3⟩ := h (S.length + 1) (1, 1) rfl (by omega)
  refine ⟨L, ?_, h2, line_of h3, ?_⟩
  · unfold allT
    rw [if_neg (by omega)]
    exact h1
  · rw [← h2, List.length_map]
/-- What deep expressions are read as. -/
theorem deep_read {j c : Nat} {nots : Bool} (hj : j ≤ 140) (hc : c ≤ 140) :
    ((128 < j ∨ 64 < c + 1 + (if nots = true then j else 0)) → ∃ cl, runR (if nots = true then notsS j c else parenS j c) exprR = .error (13, 1, cl)) ∧
    (¬ (128 < j ∨ 64 < c + 1 + (if nots = true then j else 0)) → ∃ o, runR (if nots = true then notsS j c else parenS j c) exprR = .ok o ∧ o.length = 1 + 2 * c + (if nots = true then j else 0)) := by
  have fin : ∀ {S : List UInt8} {L : List Tok} {big : Prop} {n D : Nat}, allT S = .ok L → Out (ev L (fuelN L) 0 ⟨0, [], [], 0⟩) big L.length 0 n D → (big → ∃ cl, runR S exprR = .error (13, 1, cl)) ∧ (¬ big → ∃ o, runR S exprR = .ok o ∧ o.length = n) := by
    intro S L big n D hS ho
    refine ⟨fun hb => ?_, fun hb => ?_⟩
    · obtain ⟨cl, hcl⟩ := ho.1 hb
      exact ⟨cl, by unfold runR exprR; rw [hS]; dsimp only; rw [hcl]; rfl⟩
    · obtain ⟨z, hz, z1, z2, z3, _⟩ := ho.2 hb
      exact ⟨z.o, by unfold runR exprR; rw [hS]; dsimp only; rw [hz]; dsimp only; rw [if_neg (by omega)], z3⟩
  cases nots
  · simp only [Bool.false_eq_true, if_false]
    obtain ⟨L, h1, h2, h3, h4⟩ := lex_all (parenS_lex j c) (by unfold parenS; simp only [List.length_append, List.length_cons, rep_len, plus_len]; omega)
    have hlen : L.length = 1 + 2 * c + 2 * j := by rw [h4]; simp only [List.length_append, List.length_cons, rep_len, chain_len]; omega
    have hp := paren_out h3 (c := c) (by omega) j ⟨0, [], [], 0⟩ [] (fuelN L) (.inl rfl) (by rw [List.append_nil]; exact h2) rfl (by decide) (by unfold fuelN; omega)
    simp only [List.length_nil, Nat.zero_add] at hp
    rw [← hlen] at hp
    obtain ⟨f1, f2⟩ := fin h1 hp
    exact ⟨fun hb => f1 (by omega), fun hb => f2 (by omega)⟩
  · simp only [if_true]
    obtain ⟨L, h1, h2, h3, h4⟩ := lex_all (notsS_lex j c) (by unfold notsS; simp only [List.length_append, List.length_cons, not_len, plus_len]; omega)
    have hlen : L.length = 1 + 2 * c + j := by rw [h4]; simp only [List.length_append, List.length_cons, rep_len, chain_len, List.length_nil]; omega
    obtain ⟨g, hg⟩ : ∃ g, fuelN L = g + 2 := ⟨fuelN L - 2, by unfold fuelN; omega⟩
    have hn := not_out h3 (c := c) (by omega) j ⟨0, [], [], 0⟩ g h2 rfl (by decide) (by unfold fuelN at hg; omega)
    simp only [List.length_nil, Nat.zero_add] at hn
    have hend : Tk L (1 + 2 * c + j) = [] := by unfold Tk; rw [List.drop_of_length_le (by omega)]; rfl
    have h1' : Out (ev L (g + 1) 1 ⟨0, [], [], 0⟩) _ _ _ _ _ := hn.chain (nextF_end hend andM)
    have h0' : Out (ev L (g + 1 + 1) 0 ⟨0, [], [], 0⟩) _ _ _ _ _ := h1'.chain (nextF_end hend orM)
    rw [show g + 1 + 1 = fuelN L from hg.symm, ← hlen] at h0'
    obtain ⟨f1, f2⟩ := fin h1 h0'
    exact ⟨fun hb => f1 (by omega), fun hb => by obtain ⟨o, ho1, ho2⟩ := f2 (by omega); exact ⟨o, ho1, by omega⟩⟩
end Go.Proofs.YthpnfflkkmpejaaGreatDoor.Pa
namespace Go.Ab
open Go Go.RowKit
variable {P : Program} {Γ : Nat → AV} {n : Nat}
theorem freeze_alloc (w : World) (C : Array Value) (e : TypeId) (k : Nat) : (w.alloc (.cells C e)).freeze ⟨w.heap.size, k, none⟩ 1 = w.alloc (.cells C e (k, k + 1)) := by
  have hm : ∀ (a : Array Obj) (x : Obj) (f : Obj → Obj), (a.push x).modify a.size f = a.push (f x) := by
    intro a x f
    apply Array.ext
    · simp
    · intro i h1 h2
      simp only [Array.getElem_modify, Array.getElem_push]
      by_cases h : a.size = i
      · subst h
        simp
      · have hi : i < a.size := by simp at h1; omega
        simp [h, hi]
  unfold World.freeze
  rw [if_neg (by decide)]
  show ({ w.alloc (.cells C e) with heap := (w.heap.push (.cells C e)).modify w.heap.size _ } : World) = _
  rw [hm]
  rfl
theorem conv_same (w : World) {T e : TypeId} (C : Array Value) (k : Nat) (hT : P.underlying T = some (.slice e)) (he : P.underlying e = some (.int .u8)) :
    (convert T T (.slice (some ⟨w.heap.size, 0, none⟩) k k)).run P (w.alloc (.cells C e)) = .ok (.slice (some ⟨w.heap.size, 0, none⟩) k k) (w.alloc (.cells C e (C.size, C.size + 1))) := by
  have hsh : (w.alloc (.cells C e)).shape? w.heap.size = some (e, C.size) := by
    have : (w.alloc (.cells C e)).heap[w.heap.size]? = some (.cells C e) := by
      show (w.heap.push (.cells C e))[w.heap.size]? = _
      simp
    unfold World.shape?
    rw [this]
  simp [convert, run_underlying hT, run_underlying he, markStringish, hsh]
  exact freeze_alloc w C e C.size
theorem RList_bytes {G : Gh} {w : World} : ∀ bs : List UInt8, RList G w (bytesA bs).flatten (bs.map fun b => Value.int .u8 b.toNat)
  | [] => RList_nil.2 rfl
  | b :: r => RList_cons.2 ⟨_, _, rfl, R_int.2 rfl, RList_bytes r⟩
def byteV (bs : List UInt8) : Array Value := (bs.map fun b => Value.int .u8 b.toNat).toArray
/-- A region that writes bytes out, converts them, and goes on. -/
theorem AWp.regionConv {id : Nat} {o0 ob oc : Oper} {l : List Oper} {Q : Exit → Env → Sto → Prop} {e : Env} {s : Sto} {T e8 : TypeId} {d d2 : Nat} (bs : List UInt8) (hne : bs ≠ [])
    (hok : (List.toArray (o0 :: ob :: oc :: l)).toList.all (okOp n) = true) (hT : P.underlying T = some (.slice e8)) (he8 : P.underlying e8 = some (.int .u8)) (hs8 : ∃ i, P.info? e8 = some i ∧ i.size = 1)
    (hb : ob.dst = some d ∧ ob.guard = none ∧ ∀ (a : Act) (w : World), (execOp a.eval ob).run P w = .ok (.value (.slice (some ⟨w.heap.size, 0, none⟩) bs.length bs.length)) (w.alloc (.cells (byteV bs) e8)))
    (hc : oc.op = .convert T T (.tmp d) ∧ oc.dst = some d2 ∧ oc.guard = none)
    (h : awpOps P Γ (List.toArray (o0 :: ob :: oc :: l)) [o0] e s fun e1 s1 => awpOps P Γ (List.toArray (o0 :: ob :: oc :: l)) l (upd (upd e1 d (.slice 1 (bytesA bs))) d2 (.slice 1 (bytesA bs))) s1 fun e' s' => Q .normal e' s') :
    AWp P Γ n (.region id (List.toArray (o0 :: ob :: oc :: l)) false) Q e s := by
  refine ⟨fun G w a hm he => ?_⟩
  refine wp_region ?_
  obtain ⟨hb1, hb2, hb3⟩ := hb
  obtain ⟨hc1, hc2, hc3⟩ := hc
  generalize hops : (List.toArray (o0 :: ob :: oc :: l)) = ops at *
  have hsz : ops.size = l.length + 3 := by rw [← hops]; simp
  have h0 : ops[0]? = some o0 := by rw [← hops]; rfl
  have hi1 : ops[1]? = some ob := by rw [← hops]; rfl
  have hi2 : ops[2]? = some oc := by rw [← hops]; rfl
  have hdr : ops.toList.drop 3 = l := by rw [← hops]; rfl
  have hoo : ∀ i o, ops[i]? = some o → okOp n o = true := fun i o ho => List.all_eq_true.1 hok o (by rw [← Array.getElem?_toList] at ho; exact List.mem_of_getElem? ho)
  rw [List.range_eq_range', hsz]
  show wpOps P ops _ (0 :: 1 :: 2 :: List.range' 3 l.length) a w
  have rest : ∀ G1 w1 a1 e1 s1, Mod Γ G1 s1 w1 → EnvR G1 w1 n e1 a1 → Ext G w G1 w1 → awpOps P Γ ops l (upd (upd e1 d (.slice 1 (bytesA bs))) d2 (.slice 1 (bytesA bs))) s1 (fun e' s' => Q .normal e' s') → wpOps P ops (Behind Γ n G w Q) (1 :: 2 :: List.range' 3 l.length) a1 w1 := by
    intro G1 w1 a1 e1 s1 hm1 he1 X1 hk
    simp only [wpOps, hi1, hi2]
    have w1' : Region.wanted ob (yielded ops a1.tmps) = true := by unfold Region.wanted; rw [hb2]
    rw [if_pos w1']
    refine .inl ?_
    unfold Oper.wp
    rw [hb3]
    show (if Region.wanted oc (yielded ops (a1.put ob.dst _).tmps) then _ else _)
    have w2' : ∀ x, Region.wanted oc x = true := fun x => by unfold Region.wanted; rw [hc3]
    rw [if_pos (w2' _)]
    refine .inl ?_
    have hdn : d < n := okOp_dst (hoo 1 ob hi1) _ hb1
    have hev : (a1.put ob.dst (.slice (some ⟨w1.heap.size, 0, none⟩) bs.length bs.length)).eval (.tmp d) = .slice (some ⟨w1.heap.size, 0, none⟩) bs.length bs.length := by
      rw [hb1]
      have hs := he1.size
      simp [Act.put, Act.eval, hs, hdn]
    have hx : (execOp (a1.put ob.dst (.slice (some ⟨w1.heap.size, 0, none⟩) bs.length bs.length)).eval oc).run P (w1.alloc (.cells (byteV bs) e8)) = .ok (.value (.slice (some ⟨w1.heap.size, 0, none⟩) bs.length bs.length)) (w1.alloc (.cells (byteV bs) e8 ((byteV bs).size, (byteV bs).size + 1))) := by
      obtain ⟨dst, op, ty, pos, aft, grd⟩ := oc
      dsimp only at hc1
      subst hc1
      have := conv_same (P := P) w1 (byteV bs) bs.length hT he8
      simp [execOp, hev, this]
    rw [hx]
    show wpOps P ops (Behind Γ n G w Q) (List.range' 3 l.length) ((a1.put ob.dst (.slice (some ⟨w1.heap.size, 0, none⟩) bs.length bs.length)).put oc.dst (.slice (some ⟨w1.heap.size, 0, none⟩) bs.length bs.length)) (w1.alloc (.cells (byteV bs) e8 ((byteV bs).size, (byteV bs).size + 1)))
    have hbel : Below w1.heap.size w1 (w1.alloc (.cells (byteV bs) e8 ((byteV bs).size, (byteV bs).size + 1))) := ⟨rfl, rfl, rfl, by show w1.heap.size ≤ (w1.heap.push _).size; simp, fun k hk => by show (w1.heap.push _)[k]? = _; rw [Array.getElem?_push, if_neg (by omega)]⟩
    obtain ⟨m2, X2⟩ := Gh.fix_ok (g := w1.heap.size) hm1 hbel (Nat.le_refl _) (by show w1.heap.size < (w1.heap.push _).size; simp)
    have hat := heap_alloc_at w1 (.cells (byteV bs) e8 ((byteV bs).size, (byteV bs).size + 1))
    have hR : R (G1.fix w1.heap.size) (w1.alloc (.cells (byteV bs) e8 ((byteV bs).size, (byteV bs).size + 1))) (.slice 1 (bytesA bs)) (.slice (some ⟨w1.heap.size, 0, none⟩) bs.length bs.length) := by
      have := R_slice1 (G := G1.fix w1.heap.size) (w := w1.alloc (.cells (byteV bs) e8 ((byteV bs).size, (byteV bs).size + 1))) (es := bytesA bs) (a := some ⟨w1.heap.size, 0, none⟩) (cap := bs.length) (by simp [bytesA]) (fun h => by cases h) (fun _ => ⟨_, _, 1, rfl, ?_⟩)
      · rwa [bytesA_len] at this
      · refine RElems_mk _ 0 (bytesA_all bs) (RCells_new (by unfold Gh.fix; simp) _ (bs.map fun b => Value.int .u8 b.toNat) 0 ?_ fun j u hj => ?_)
        · exact RList_bytes bs
        · unfold World.cell?
          dsimp only
          rw [hat]
          simpa [byteV] using hj
    have hE := ((he1.mono X2).put (okOp_dst (hoo 1 ob hi1)) hR).put (okOp_dst (hoo 2 oc hi2)) hR
    rw [hb1, hc2] at hE ⊢
    exact ops_ok (Γ := Γ) (Q := Q) hok l 3 hdr (X1.trans X2) m2 hE hk
  have hw0 := hoo 0 o0 h0
  simp only [wpOps, h0]
  replace h : wantA ops e o0.guard (astep P Γ (evA Γ e) s o0.op fun v s' => frc v fun v' => putA o0.dst e v' fun e' => awpOps P Γ ops [] e' s' fun e1 s1 => awpOps P Γ ops l (upd (upd e1 d (.slice 1 (bytesA bs))) d2 (.slice 1 (bytesA bs))) s1 fun e' s' => Q .normal e' s') (putA o0.dst e undefA fun e' => awpOps P Γ ops [] e' s fun e1 s1 => awpOps P Γ ops l (upd (upd e1 d (.slice 1 (bytesA bs))) d2 (.slice 1 (bytesA bs))) s1 fun e' s' => Q .normal e' s') := h
  rcases wanted_of he h (dst_lt hok) with ⟨hw, h⟩ | ⟨hw, h⟩
  · rw [if_pos hw]
    refine .inl (astep_ok hm he (okOp_ops hw0) h ?_)
    intro v r s' G' w' hK hR hm' X'
    rw [frc_eq, putA_eq] at hK
    exact rest _ _ _ _ _ hm' ((he.mono X').put (okOp_dst hw0) hR) X' hK
  · rw [if_neg (by rw [hw]; simp)]
    rw [putA_eq] at h
    exact rest _ _ _ _ _ hm (he.put (okOp_dst hw0) R_undef) (Ext.refl _ _) h
section
variable {Q : Exit → Env → Sto → Prop} {e : Env} {s : Sto}
/-- The same, where a round is walked code by code. -/
theorem AWp.loopB {α : Type} {c : Code} (S J : List Nat) (vs : α → List AV) (I : α → Sto → Prop) (μ : α → Nat) (a0 : α) (h0 : S.map e = vs a0) (hI : I a0 s)
    (round : ∀ x a s', I a s' →
      AWp P Γ n c (thenA (fun e' s'' => ∃ a', S.map e' = vs a' ∧ Same (S ++ J) e e' ∧ I a' s'' ∧ μ a' < μ a) Q) (updL (havoc e J x) S (vs a)) s') : AWp P Γ n (.loop c) Q e s := by
  refine ⟨fun G w ac hm he => ?_⟩
  have key : ∀ m G1 w1 a1 e1 s1 a, μ a < m → I a s1 → S.map e1 = vs a → Same (S ++ J) e e1 → Mod Γ G1 s1 w1 → EnvR G1 w1 n e1 a1 → Ext G w G1 w1 →
      Code.rounds P c (fun x a' w' => ∃ e' s' G', Q x e' s' ∧ Mod Γ G' s' w' ∧ EnvR G' w' n e' a' ∧ Ext G w G' w') m a1 w1 := by
    intro m
    induction m with
    | zero => intro _ _ _ _ _ _ h; omega
    | succ m ih =>
      intro G1 w1 a1 e1 s1 a hmu hI1 hv hS hm1 he1 X1
      rw [rounds_succ]
      have hee : updL (havoc e J e1) S (vs a) = e1 := by
        rw [← hv]
        funext i
        cases hi : S.elem i with
        | true => exact updL_get S e1 i hi
        | false =>
          rw [updL_out S _ i hi]
          unfold havoc
          cases hj : J.elem i with
          | true => rfl
          | false =>
            refine (hS i ?_).symm
            have h1 : i ∉ S := by simpa using hi
            have h2 : i ∉ J := by simpa using hj
            simp [h1, h2]
      have hr := round e1 a s1 hI1
      rw [hee] at hr
      refine Code.wp_mono ?_ (hr.run G1 w1 a1 hm1 he1)
      rintro x a' w' ⟨e', s', G', q, hm', he', X⟩
      cases x with
      | normal =>
        obtain ⟨b, q1, q2, q3, q4⟩ := q
        exact ih G' w' a' e' s' b (by omega) q3 q1 q2 hm' he' (X1.trans X)
      | _ => exact ⟨e', s', G', q, hm', he', X1.trans X⟩
  exact wp_loop_rounds _ (key _ G w ac e s a0 (Nat.lt_succ_self _) hI h0 (Same.refl _ _) hm he (Ext.refl _ _))
theorem AWp.condT {c : Operand} {a b : Code} (hok : okX c = true) (hc : evA Γ e c = .bool true) (h : AWp P Γ n a Q e s) : AWp P Γ n (.cond c a b) Q e s := by
  refine ⟨fun G w act hm he => ?_⟩
  have hr := evA_ok hm he hok
  rw [hc, R_bool] at hr
  refine wp_cond hr ?_
  exact h.run G w act hm he
theorem AWp.condF {c : Operand} {a b : Code} (hok : okX c = true) (hc : evA Γ e c = .bool false) (h : AWp P Γ n b Q e s) : AWp P Γ n (.cond c a b) Q e s := by
  refine ⟨fun G w act hm he => ?_⟩
  have hr := evA_ok hm he hok
  rw [hc, R_bool] at hr
  refine wp_cond hr ?_
  exact h.run G w act hm he
end
end Go.Ab
namespace Go.Proofs.YthpnfflkkmpejaaGreatDoor.Pa
open Go Go.Ab Go.RowKit Go.Proofs.YthpnfflkkmpejaaGreatDoor.Lx
variable {Γ : Nat → AV}
attribute [local irreducible] APure Sto.set Sto.grow
set_option maxRecDepth 10000
set_option maxHeartbeats 4000000
theorem notS_app : ∀ i, notS i ++ [110, 111, 116, 32] = notS (i + 1)
  | 0 => rfl
  | i + 1 => by show 110 :: 111 :: 116 :: 32 :: (notS i ++ [110, 111, 116, 32]) = _; rw [notS_app i]; rfl
theorem rep_one {α : Type} (x : α) (i : Nat) : rep x i ++ [x] = rep x (i + 1) := by rw [rep_app]; show x :: (rep x i ++ []) = _; rw [List.append_nil]; rfl
theorem plusS_app : ∀ i, plusS i ++ [43, 120] = plusS (i + 1)
  | 0 => rfl
  | i + 1 => by show 43 :: 120 :: (plusS i ++ [43, 120]) = _; rw [plusS_app i]; rfl
def preS (nots : Bool) (i : Nat) : List UInt8 := if nots = true then notS i else rep 40 i
theorem preS_len (nots : Bool) (i : Nat) : (preS nots i).length ≤ 4 * i := by
  unfold preS; split
  · rw [not_len]; omega
  · rw [rep_len]; omega
theorem app_isE' {α : Type} (l m : List α) : (l ++ m).isEmpty = (l.isEmpty && m.isEmpty) := by cases l <;> cases m <;> rfl
theorem bytesA_isE (l : List UInt8) : (bytesA l).isEmpty = l.isEmpty := by cases l <;> rfl
theorem bytesA_all' (l : List UInt8) : ∀ c ∈ bytesA l, c.length = 1 ∧ c.all atomA = true := fun c hc => by obtain ⟨z, _, rfl⟩ := List.mem_map.1 hc; exact ⟨rfl, rfl⟩
theorem preS_app (nots : Bool) (i : Nat) : preS nots i ++ (if nots = true then [110, 111, 116, 32] else [40]) = preS nots (i + 1) := by
  cases nots
  · exact rep_one 40 i
  · exact notS_app i
theorem parseDeep_law (hQ : Qu.Tabs Γ) (hW : Sc.Wds Γ) (hO : AsO.ErrT Γ) (hE : AsP.ErrT Γ) (hR : Nu.ErrR Γ) (oj oc : Int) (nots : Bool) (h1 : -9223372036854775808 ≤ oj ∧ oj ≤ 9223372036854775807) (h2 : -9223372036854775808 ≤ oc ∧ oc ≤ 9223372036854775807) : APure Tryz.prog Γ 4 [.int .i64 oj, .int .i64 oc, .bool nots] fun v => v = .bool true := by
  have haw := awake_ok hQ hW hO hE hR
  by_cases hr : (0 ≤ oj ∧ oj ≤ 140) ∧ 0 ≤ oc ∧ oc ≤ 140
  · obtain ⟨⟨hj1, hj2⟩, hc1, hc2⟩ := hr
    obtain ⟨j, rfl⟩ : ∃ j : Nat, oj = j := ⟨oj.toNat, by omega⟩
    obtain ⟨c, rfl⟩ : ∃ c : Nat, oc = c := ⟨oc.toNat, by omega⟩
    have hrd := deep_read (nots := nots) (j := j) (c := c) (by omega) (by omega)
    have hex := fun S (hS : S.length ≤ 65536) => expr_top hQ hW hO hE hR S hS (fun L hL => allT_text hL)
    clear hQ hW hO hE hR h1 h2
    have hp0 : preS nots 0 = [] := by cases nots <;> rfl
    refine APure.of_awp Tryz.func4 rfl (Nat.le_of_ble_eq_true (by kernel_rfl)) (by kernel_rfl) ?_
    intro s
    conv => whnf
    repeat' ((first | refine ⟨Sub.refl _, ?_⟩ | (refine brA_split (fun h => ?_) (fun h => ?_) <;> (try rw [h]) <;> (try simp only [bN, bS, ↓reduceIte] at h) <;> (first | (exfalso; first | contradiction | omega | exact (by assumption : ¬ True) trivial | fail) | skip)) | refine getB_same ?_ | refine AWp.anyA ?_ | refine and_a ?_ | fail) <;> (conv => whnf))
    · exfalso; revert h; rw [if_neg (by omega)]; simp; omega
    · exfalso; revert h; rw [if_neg (by omega)]; simp; omega
    refine AWp.loopB [7, 8] [29, 30, 31, 34, 35, 36, 37, 38, 39, 40, 41, 32, 33] (fun q : Nat × Nat => [.slice q.1 (bytesA (preS nots q.2)), .int .i64 (q.2 : Int)]) (fun q s' => q.2 ≤ j ∧ Own s s' (preS nots q.2).isEmpty q.1 5 1) (fun q => j - q.2) (1, 0) (by show List.map _ [7, 8] = [AV.slice 1 (bytesA (preS nots 0)), .int .i64 ((0 : Nat) : Int)]; rw [hp0]; exact cons_eq rfl (cons_eq rfl rfl)) ?_ ?_
    · exact ⟨Nat.zero_le _, by rw [hp0]; exact Own.nil _ _ _⟩
    · rintro x ⟨t, i⟩ s' ⟨hi, hown⟩
      simp only at hi hown
      show AWp _ _ _ _ _ (updL _ _ [.slice t (bytesA (preS nots i)), .int .i64 (i : Int)]) _
      refine AWp.seq ?_
      by_cases hlt : i < j
      · refine AWp.seq (awp_ok _ (by kernel_rfl) ?_)
        conv => whnf
        refine awp_ok _ (by kernel_rfl) ?_
        conv => whnf
        repeat' ((first | refine ⟨Sub.refl _, ?_⟩ | (refine brA_split (fun h => ?_) (fun h => ?_) <;> (try rw [h]) <;> (try simp only [bN, bS, ↓reduceIte] at h) <;> (first | (exfalso; first | contradiction | omega | exact (by assumption : ¬ True) trivial | fail) | skip)) | refine getB_same ?_ | refine AWp.anyA ?_ | refine and_a ?_ | fail) <;> (conv => whnf))
        first | refine AWp.block ?_ | (refine AWp.seq ?_; refine AWp.block ?_)
        refine AWp.seq (awp_ok _ (by kernel_rfl) ?_)
        conv => whnf
        cases nots
        · refine AWp.condF rfl rfl (awp_ok _ (by kernel_rfl) ?_)
          conv => whnf
          repeat' ((first | refine ⟨Sub.refl _, ?_⟩ | (refine brA_split (fun h => ?_) (fun h => ?_) <;> (try rw [h]) <;> (try simp only [bN, bS, ↓reduceIte] at h) <;> (first | (exfalso; first | contradiction | omega | exact (by assumption : ¬ True) trivial | fail) | skip)) | refine getB_same ?_ | refine AWp.anyA ?_ | refine and_a ?_ | fail) <;> (conv => whnf))
          refine ⟨hown.may, bytesA_all _, bytesA_all' [40], Nat.le_trans (Nat.mul_le_mul_right _ (show _ ≤ 100000 from by have := preS_len false i; simp only [bytesA_len, List.length_cons, List.length_nil]; omega)) (Nat.le_of_ble_eq_true (by kernel_rfl)), ?_⟩
          intro t2 k1 k2
          have k3 := hown.grow k1 k2
          conv => whnf
          refine awp_ok _ (by kernel_rfl) ?_
          conv => whnf
          repeat' ((first | refine ⟨Sub.refl _, ?_⟩ | (refine brA_split (fun h => ?_) (fun h => ?_) <;> (try rw [h]) <;> (try simp only [bN, bS, ↓reduceIte] at h) <;> (first | (exfalso; first | contradiction | omega | exact (by assumption : ¬ True) trivial | fail) | skip)) | refine getB_same ?_ | refine AWp.anyA ?_ | refine and_a ?_ | fail) <;> (conv => whnf))
          refine ⟨(t2, i + 1), ?_, samea, ⟨hlt, ?_⟩, by simp only; omega⟩
          · exact cons_eq (congrArg (AV.slice t2) (show bytesA (preS false i) ++ bytesA [40] = _ by rw [← bytesA_append]; exact congrArg bytesA (preS_app false i))) (cons_eq (int64_of (by omega) (by omega) (by omega)) rfl)
          · have e : (preS false (i + 1)).isEmpty = ((preS false i).isEmpty && (bytesA [40]).isEmpty) := by rw [bytesA_isE, ← app_isE']; exact congrArg List.isEmpty (preS_app false i).symm
            rw [e]; exact k3
        · refine AWp.condT rfl rfl ?_
          refine AWp.regionConv (T := 43) (e8 := 5) (d := 36) (d2 := 37) [110, 111, 116, 32] (by simp) (by kernel_rfl) Tryz.underlying43 Tryz.underlying5 ⟨_, rfl, rfl⟩ ⟨rfl, rfl, fun a w => by kernel_rfl⟩ ⟨rfl, rfl, rfl⟩ ?_
          conv => whnf
          refine ⟨hown.may, bytesA_all _, bytesA_all' [110, 111, 116, 32], Nat.le_trans (Nat.mul_le_mul_right _ (show _ ≤ 100000 from by have := preS_len true i; simp only [bytesA_len, List.length_cons, List.length_nil]; omega)) (Nat.le_of_ble_eq_true (by kernel_rfl)), ?_⟩
          intro t2 k1 k2
          have k3 := hown.grow k1 k2
          conv => whnf
          refine awp_ok _ (by kernel_rfl) ?_
          conv => whnf
          repeat' ((first | refine ⟨Sub.refl _, ?_⟩ | (refine brA_split (fun h => ?_) (fun h => ?_) <;> (try rw [h]) <;> (try simp only [bN, bS, ↓reduceIte] at h) <;> (first | (exfalso; first | contradiction | omega | exact (by assumption : ¬ True) trivial | fail) | skip)) | refine getB_same ?_ | refine AWp.anyA ?_ | refine and_a ?_ | fail) <;> (conv => whnf))
          refine ⟨(t2, i + 1), ?_, samea, ⟨hlt, ?_⟩, by simp only; omega⟩
          · exact cons_eq (congrArg (AV.slice t2) (show bytesA (preS true i) ++ bytesA [110, 111, 116, 32] = _ by rw [← bytesA_append]; exact congrArg bytesA (preS_app true i))) (cons_eq (int64_of (by omega) (by omega) (by omega)) rfl)
          · have e : (preS true (i + 1)).isEmpty = ((preS true i).isEmpty && (bytesA [110, 111, 116, 32]).isEmpty) := by rw [bytesA_isE, ← app_isE']; exact congrArg List.isEmpty (preS_app true i).symm
            rw [e]; exact k3
      · refine AWp.seq (awp_ok _ (by kernel_rfl) ?_)
        conv => whnf
        refine awp_ok _ (by kernel_rfl) ?_
        conv => whnf
        repeat' ((first | refine ⟨Sub.refl _, ?_⟩ | (refine brA_split (fun h => ?_) (fun h => ?_) <;> (try rw [h]) <;> (try simp only [bN, bS, ↓reduceIte] at h) <;> (first | (exfalso; first | contradiction | omega | exact (by assumption : ¬ True) trivial | fail) | skip)) | refine getB_same ?_ | refine AWp.anyA ?_ | refine and_a ?_ | fail) <;> (conv => whnf))
        obtain rfl : i = j := by omega
        have hpl := preS_len nots i
        refine ⟨hown.may, fun c hc => (bytesA_all' _ c hc).1, all_cons ⟨rfl, rfl⟩ all_nil, Nat.le_trans (Nat.mul_le_mul_right _ (show _ ≤ 100000 from by simp only [bytesA_len, List.length_cons, List.length_nil]; omega)) (Nat.le_of_ble_eq_true (by kernel_rfl)), ?_⟩
        intro t0 k1 k2
        have o0 := hown.grow k1 k2
        conv => whnf
        have e0 : bytesA (preS nots i) ++ [[.int .u8 120]] = bytesA (preS nots i ++ 120 :: plusS 0) := by rw [bytesA_append]; rfl
        rw [e0]
        replace o0 : Own s (s'.grow t t0 5 1) (preS nots i ++ 120 :: plusS 0).isEmpty t0 5 1 := by
          rw [show (preS nots i ++ 120 :: plusS 0).isEmpty = ((preS nots i).isEmpty && false) by rw [app_isE']; rfl]; exact o0
        clear hown
        repeat' ((first | refine ⟨Sub.refl _, ?_⟩ | (refine brA_split (fun h => ?_) (fun h => ?_) <;> (try rw [h]) <;> (try simp only [bN, bS, ↓reduceIte] at h) <;> (first | (exfalso; first | contradiction | omega | exact (by assumption : ¬ True) trivial | fail) | skip)) | refine getB_same ?_ | refine AWp.anyA ?_ | refine and_a ?_ | fail) <;> (conv => whnf))
        refine AWp.loopA [7, 9] [45, 46, 47, 50, 51, 52, 48, 49] (fun q : Nat × Nat => [.slice q.1 (bytesA (preS nots i ++ 120 :: plusS q.2)), .int .i64 (q.2 : Int)]) (fun q s2 => q.2 ≤ c ∧ Own s s2 (preS nots i ++ 120 :: plusS q.2).isEmpty q.1 5 1) (fun q => c - q.2) ((t0, 0)) (by kernel_rfl) ((by exact cons_eq rfl (cons_eq rfl rfl))) ?_ ?_
        · exact ⟨Nat.zero_le _, o0⟩
        · clear o0 e0 k1 k2
          rintro x ⟨t, q⟩ s2 ⟨hq, hown⟩
          simp only at hq hown
          show awp _ _ _ _ _ (updL _ _ [.slice t (bytesA (preS nots i ++ 120 :: plusS q)), .int .i64 (q : Int)]) _
          conv => whnf
          have hbl : (preS nots i ++ 120 :: plusS q).length ≤ 1000 := by rw [List.length_append, List.length_cons, plus_len]; omega
          by_cases hlt2 : q < c
          · repeat' ((first | refine ⟨Sub.refl _, ?_⟩ | (refine brA_split (fun h => ?_) (fun h => ?_) <;> (try rw [h]) <;> (try simp only [bN, bS, ↓reduceIte] at h) <;> (first | (exfalso; first | contradiction | omega | exact (by assumption : ¬ True) trivial | fail) | skip)) | refine getB_same ?_ | refine AWp.anyA ?_ | refine and_a ?_ | fail) <;> (conv => whnf))
            refine ⟨hown.may, fun c hc => (bytesA_all' _ c hc).1, bytesA_all' [43, 120], Nat.le_trans (Nat.mul_le_mul_right _ (show _ ≤ 100000 from by rw [bytesA_len]; simp only [List.length_cons, List.length_nil]; omega)) (Nat.le_of_ble_eq_true (by kernel_rfl)), ?_⟩
            intro t2 k1 k2
            have k3 := hown.grow k1 k2
            conv => whnf
            repeat' ((first | refine ⟨Sub.refl _, ?_⟩ | (refine brA_split (fun h => ?_) (fun h => ?_) <;> (try rw [h]) <;> (try simp only [bN, bS, ↓reduceIte] at h) <;> (first | (exfalso; first | contradiction | omega | exact (by assumption : ¬ True) trivial | fail) | skip)) | refine getB_same ?_ | refine AWp.anyA ?_ | refine and_a ?_ | fail) <;> (conv => whnf))
            have ep : (preS nots i ++ 120 :: plusS q) ++ [43, 120] = preS nots i ++ 120 :: plusS (q + 1) := by rw [List.append_assoc, List.cons_append, plusS_app]
            refine ⟨(t2, q + 1), ?_, samea, ⟨hlt2, ?_⟩, by simp only; omega⟩
            · exact cons_eq (congrArg (AV.slice t2) (show bytesA (preS nots i ++ 120 :: plusS q) ++ bytesA [43, 120] = _ by rw [← bytesA_append]; exact congrArg bytesA ep)) (cons_eq (int64_of (by omega) (by omega) (by omega)) rfl)
            · have e : (preS nots i ++ 120 :: plusS (q + 1)).isEmpty = ((preS nots i ++ 120 :: plusS q).isEmpty && (bytesA [43, 120]).isEmpty) := by rw [bytesA_isE, ← app_isE']; exact congrArg List.isEmpty ep.symm
              rw [e]; exact k3
          · obtain rfl : q = c := by omega
            repeat' ((first | refine ⟨Sub.refl _, ?_⟩ | (refine brA_split (fun h => ?_) (fun h => ?_) <;> (try rw [h]) <;> (try simp only [bN, bS, ↓reduceIte] at h) <;> (first | (exfalso; first | contradiction | omega | exact (by assumption : ¬ True) trivial | fail) | skip)) | refine getB_same ?_ | refine AWp.anyA ?_ | refine and_a ?_ | fail) <;> (conv => whnf))
            have hsw : IntKind.i64.wrap ((q : Int) + 1) = ((q + 1 : Nat) : Int) := i64_of (by omega) (by omega) (by omega)
            have hsj : IntKind.i64.wrap (((q + 1 : Nat) : Int) + (i : Int)) = ((q + 1 + i : Nat) : Int) := i64_of (by omega) (by omega) (by omega)
            have hsj' : IntKind.i64.wrap (IntKind.i64.wrap ((q : Int) + 1) + (i : Int)) = ((q + 1 + i : Nat) : Int) := by rw [hsw]; exact hsj
            cases nots
            · refine AWp.loopA [7, 10] [53, 54, 55, 56, 57, 58, 59, 62, 63, 64, 60, 61] (fun r : Nat × Nat => [.slice r.1 (bytesA (preS false i ++ 120 :: plusS q ++ rep 41 r.2)), .int .i64 (r.2 : Int)]) (fun r s3 => r.2 ≤ i ∧ Own s s3 (preS false i ++ 120 :: plusS q ++ rep 41 r.2).isEmpty r.1 5 1) (fun r => i - r.2) ((t, 0)) (by kernel_rfl) ((by show List.map _ [7, 10] = [AV.slice t (bytesA (preS false i ++ 120 :: plusS q ++ [])), _]; rw [List.append_nil]; exact cons_eq rfl (cons_eq rfl rfl))) ?_ ?_
              · refine ⟨Nat.zero_le _, ?_⟩
                show Own s s2 (preS false i ++ 120 :: plusS q ++ []).isEmpty t 5 1
                rw [List.append_nil]; exact hown
              · clear hown
                rintro x ⟨t, r⟩ s3 ⟨hr, hown⟩
                simp only at hr hown
                show awp _ _ _ _ _ (updL _ _ [.slice t (bytesA (preS false i ++ 120 :: plusS q ++ rep 41 r)), .int .i64 (r : Int)]) _
                conv => whnf
                have hbl2 : (preS false i ++ 120 :: plusS q ++ rep 41 r).length ≤ 2000 := by rw [List.length_append, rep_len]; omega
                by_cases hlt3 : r < i
                · repeat' ((first | refine ⟨Sub.refl _, ?_⟩ | (refine brA_split (fun h => ?_) (fun h => ?_) <;> (try rw [h]) <;> (try simp only [bN, bS, ↓reduceIte] at h) <;> (first | (exfalso; first | contradiction | omega | exact (by assumption : ¬ True) trivial | fail) | skip)) | refine getB_same ?_ | refine AWp.anyA ?_ | refine and_a ?_ | fail) <;> (conv => whnf))
                  refine ⟨hown.may, fun c hc => (bytesA_all' _ c hc).1, bytesA_all' [41], Nat.le_trans (Nat.mul_le_mul_right _ (show _ ≤ 100000 from by rw [bytesA_len]; simp only [List.length_cons, List.length_nil]; omega)) (Nat.le_of_ble_eq_true (by kernel_rfl)), ?_⟩
                  intro t2 k1 k2
                  have k3 := hown.grow k1 k2
                  conv => whnf
                  repeat' ((first | refine ⟨Sub.refl _, ?_⟩ | (refine brA_split (fun h => ?_) (fun h => ?_) <;> (try rw [h]) <;> (try simp only [bN, bS, ↓reduceIte] at h) <;> (first | (exfalso; first | contradiction | omega | exact (by assumption : ¬ True) trivial | fail) | skip)) | refine getB_same ?_ | refine AWp.anyA ?_ | refine and_a ?_ | fail) <;> (conv => whnf))
                  have ep : (preS false i ++ 120 :: plusS q ++ rep 41 r) ++ [41] = preS false i ++ 120 :: plusS q ++ rep 41 (r + 1) := by rw [List.append_assoc, rep_one]
                  refine ⟨(t2, r + 1), ?_, samea, ⟨hlt3, ?_⟩, by simp only; omega⟩
                  · exact cons_eq (congrArg (AV.slice t2) (show bytesA (preS false i ++ 120 :: plusS q ++ rep 41 r) ++ bytesA [41] = _ by rw [← bytesA_append]; exact congrArg bytesA ep)) (cons_eq (int64_of (by omega) (by omega) (by omega)) rfl)
                  · have e : (preS false i ++ 120 :: plusS q ++ rep 41 (r + 1)).isEmpty = ((preS false i ++ 120 :: plusS q ++ rep 41 r).isEmpty && (bytesA [41]).isEmpty) := by rw [bytesA_isE, ← app_isE']; exact congrArg List.isEmpty ep.symm
                    rw [e]; exact k3
                · obtain rfl : r = i := by omega
                  have hS : preS false r ++ 120 :: plusS q ++ rep 41 r = parenS r q := by unfold parenS; rw [List.append_assoc]; rfl
                  rw [hS] at hown hbl2 ⊢
                  simp only [Bool.false_eq_true, if_false] at hrd
                  have hex := hex (parenS r q) (by omega)
                  have hs3 := hown.sub
                  rcases Classical.em (128 < _ ∨ 64 < _) with hb | hb
                  · obtain ⟨cl, hcl⟩ := hrd.1 hb
                    rw [hcl] at hex
                    simp only [exprA] at hex
                    repeat' ((first | refine ⟨Sub.refl _, ?_⟩ | (refine brA_split (fun h => ?_) (fun h => ?_) <;> (try rw [h]) <;> (try simp only [bN, bS, ↓reduceIte] at h) <;> (first | (exfalso; first | contradiction | omega | exact (by assumption : ¬ True) trivial | fail) | skip)) | (rw [unB_bytesA]) | (refine ACalls.pure' ?_ (hex); rintro _ rfl) | refine DCall.pure ?_ (hex) | refine getB_same ?_ | refine AWp.anyA ?_ | refine and_a ?_ | fail) <;> (conv => whnf))
                    all_goals
                      intro b12 hb12
                      have k12 := hs3.none hb12
                      conv => whnf
                      repeat' ((first | refine ⟨Sub.refl _, ?_⟩ | (refine brA_split (fun h => ?_) (fun h => ?_) <;> (try rw [h]) <;> (try simp only [bN, bS, ↓reduceIte] at h) <;> (first | (exfalso; first | contradiction | omega | exact (by assumption : ¬ True) trivial | fail) | skip)) | refine getB_a ?_ | (refine ACalls.pure' ?_ (haw); rintro _ rfl) | refine DCall.pure ?_ (haw) | refine getB_same ?_ | refine AWp.anyA ?_ | refine and_a ?_ | fail) <;> (conv => whnf))
                      all_goals first | exact ⟨(hs3.set k12 _ _).set k12 _ _, rfl⟩ | fail
                  · obtain ⟨o, ho, hol⟩ := hrd.2 hb
                    rw [ho] at hex
                    simp only [exprA] at hex
                    have hxl := exsA_len o
                    have hm1 : IntKind.i64.wrap (2 * (q : Int)) = ((2 * q : Nat) : Int) := i64_of (by omega) (by omega) (by omega)
                    have hm2 : IntKind.i64.wrap (1 + ((2 * q : Nat) : Int)) = ((1 + 2 * q : Nat) : Int) := i64_of (by omega) (by omega) (by omega)
                    have hm3 : IntKind.i64.wrap (((1 + 2 * q : Nat) : Int) + (((q + 1) : Nat) : Int)) = ((1 + 2 * q + (q + 1) : Nat) : Int) := i64_of (by omega) (by omega) (by omega)
                    have hm4 : IntKind.i64.wrap (((1 + 2 * q + (q + 1) : Nat) : Int) - (q : Int)) = ((1 + 2 * q + (q + 1) - q : Nat) : Int) := i64_of (by omega) (by omega) (by omega)
                    have hm5 : IntKind.i64.wrap (((1 + 2 * q + (q + 1) - q : Nat) : Int) - 1) = ((exsA o).length : Int) := i64_of (by omega) (by omega) (by omega)
                    have hmx : IntKind.i64.wrap (IntKind.i64.wrap (IntKind.i64.wrap (IntKind.i64.wrap (1 + IntKind.i64.wrap (2 * (q : Int))) + IntKind.i64.wrap ((q : Int) + 1)) - (q : Int)) - 1) = ((exsA o).length : Int) := by rw [hm1, hm2, hsw, hm3, hm4, hm5]
                    repeat' ((first | refine ⟨Sub.refl _, ?_⟩ | (refine brA_split (fun h => ?_) (fun h => ?_) <;> (try rw [h]) <;> (try simp only [bN, bS, ↓reduceIte] at h) <;> (first | (exfalso; first | contradiction | omega | exact (by assumption : ¬ True) trivial | fail) | skip)) | (rw [unB_bytesA]) | (refine ACalls.pure' ?_ (hex); rintro _ rfl) | refine DCall.pure ?_ (hex) | refine getB_same ?_ | refine AWp.anyA ?_ | refine and_a ?_ | fail) <;> (conv => whnf))
                    all_goals
                      intro b12 hb12
                      have k12 := hs3.none hb12
                      conv => whnf
                      repeat' ((first | refine ⟨Sub.refl _, ?_⟩ | (refine brA_split (fun h => ?_) (fun h => ?_) <;> (try rw [h]) <;> (try simp only [bN, bS, ↓reduceIte] at h) <;> (first | (exfalso; first | contradiction | omega | exact (by assumption : ¬ True) trivial | fail) | skip)) | refine getB_a ?_ | (refine ACalls.pure' ?_ (haw); rintro _ rfl) | refine DCall.pure ?_ (haw) | (refine EqAgg.of grdFail planFail ?_) | refine getB_same ?_ | refine AWp.anyA ?_ | refine and_a ?_ | fail) <;> (conv => whnf))
                      all_goals first | exact ⟨(hs3.set k12 _ _).set k12 _ _, rfl⟩ | (exfalso; omega) | (exfalso; revert h; simp; done) | (exfalso; revert h; simp; omega) | fail
            · refine AWp.loopA [7, 10] [53, 54, 55, 56, 57, 58, 59, 62, 63, 64, 60, 61] (fun r : Unit => [.slice t (bytesA (preS true i ++ 120 :: plusS q)), .int .i64 0]) (fun r s3 => Own s s3 (preS true i ++ 120 :: plusS q).isEmpty t 5 1) (fun r => 0) (()) (by kernel_rfl) ((by exact cons_eq rfl (cons_eq rfl rfl))) ?_ ?_
              · exact hown
              · clear hown
                rintro x _ s3 hown
                show awp _ _ _ _ _ (updL _ _ [.slice t (bytesA (preS true i ++ 120 :: plusS q)), .int .i64 0]) _
                conv => whnf
                have hS : preS true i ++ 120 :: plusS q = notsS i q := rfl
                rw [hS] at hown hbl ⊢
                simp only [if_true] at hrd
                have hex := hex (notsS i q) (by omega)
                have hs3 := hown.sub
                rcases Classical.em (128 < _ ∨ 64 < _) with hb | hb
                · obtain ⟨cl, hcl⟩ := hrd.1 hb
                  rw [hcl] at hex
                  simp only [exprA] at hex
                  repeat' ((first | refine ⟨Sub.refl _, ?_⟩ | (refine brA_split (fun h => ?_) (fun h => ?_) <;> (try rw [h]) <;> (try simp only [bN, bS, ↓reduceIte] at h) <;> (first | (exfalso; first | contradiction | omega | exact (by assumption : ¬ True) trivial | fail) | skip)) | (rw [unB_bytesA]) | (refine ACalls.pure' ?_ (hex); rintro _ rfl) | refine DCall.pure ?_ (hex) | refine getB_same ?_ | refine AWp.anyA ?_ | refine and_a ?_ | fail) <;> (conv => whnf))
                  all_goals
                    intro b12 hb12
                    have k12 := hs3.none hb12
                    conv => whnf
                    repeat' ((first | refine ⟨Sub.refl _, ?_⟩ | (refine brA_split (fun h => ?_) (fun h => ?_) <;> (try rw [h]) <;> (try simp only [bN, bS, ↓reduceIte] at h) <;> (first | (exfalso; first | contradiction | omega | exact (by assumption : ¬ True) trivial | fail) | skip)) | refine getB_a ?_ | (refine ACalls.pure' ?_ (haw); rintro _ rfl) | refine DCall.pure ?_ (haw) | refine getB_same ?_ | refine AWp.anyA ?_ | refine and_a ?_ | fail) <;> (conv => whnf))
                    all_goals first | exact ⟨(hs3.set k12 _ _).set k12 _ _, rfl⟩ | fail
                · obtain ⟨o, ho, hol⟩ := hrd.2 hb
                  rw [ho] at hex
                  simp only [exprA] at hex
                  have hxl := exsA_len o
                  have hm1 : IntKind.i64.wrap (2 * (q : Int)) = ((2 * q : Nat) : Int) := i64_of (by omega) (by omega) (by omega)
                  have hm2 : IntKind.i64.wrap (1 + ((2 * q : Nat) : Int)) = ((1 + 2 * q : Nat) : Int) := i64_of (by omega) (by omega) (by omega)
                  have hm3 : IntKind.i64.wrap (((1 + 2 * q : Nat) : Int) + (((q + 1 + i) : Nat) : Int)) = ((1 + 2 * q + (q + 1 + i) : Nat) : Int) := i64_of (by omega) (by omega) (by omega)
                  have hm4 : IntKind.i64.wrap (((1 + 2 * q + (q + 1 + i) : Nat) : Int) - (q : Int)) = ((1 + 2 * q + (q + 1 + i) - q : Nat) : Int) := i64_of (by omega) (by omega) (by omega)
                  have hm5 : IntKind.i64.wrap (((1 + 2 * q + (q + 1 + i) - q : Nat) : Int) - 1) = ((exsA o).length : Int) := i64_of (by omega) (by omega) (by omega)
                  have hmx : IntKind.i64.wrap (IntKind.i64.wrap (IntKind.i64.wrap (IntKind.i64.wrap (1 + IntKind.i64.wrap (2 * (q : Int))) + IntKind.i64.wrap (IntKind.i64.wrap ((q : Int) + 1) + (i : Int))) - (q : Int)) - 1) = ((exsA o).length : Int) := by rw [hm1, hm2, hsj', hm3, hm4, hm5]
                  repeat' ((first | refine ⟨Sub.refl _, ?_⟩ | (refine brA_split (fun h => ?_) (fun h => ?_) <;> (try rw [h]) <;> (try simp only [bN, bS, ↓reduceIte] at h) <;> (first | (exfalso; first | contradiction | omega | exact (by assumption : ¬ True) trivial | fail) | skip)) | (rw [unB_bytesA]) | (refine ACalls.pure' ?_ (hex); rintro _ rfl) | refine DCall.pure ?_ (hex) | refine getB_same ?_ | refine AWp.anyA ?_ | refine and_a ?_ | fail) <;> (conv => whnf))
                  all_goals
                    intro b12 hb12
                    have k12 := hs3.none hb12
                    conv => whnf
                    repeat' ((first | refine ⟨Sub.refl _, ?_⟩ | (refine brA_split (fun h => ?_) (fun h => ?_) <;> (try rw [h]) <;> (try simp only [bN, bS, ↓reduceIte] at h) <;> (first | (exfalso; first | contradiction | omega | exact (by assumption : ¬ True) trivial | fail) | skip)) | refine getB_a ?_ | (refine ACalls.pure' ?_ (haw); rintro _ rfl) | refine DCall.pure ?_ (haw) | (refine EqAgg.of grdFail planFail ?_) | refine getB_same ?_ | refine AWp.anyA ?_ | refine and_a ?_ | fail) <;> (conv => whnf))
                    all_goals first | exact ⟨(hs3.set k12 _ _).set k12 _ _, rfl⟩ | (exfalso; omega) | (exfalso; revert h; simp; done) | (exfalso; revert h; simp; omega) | fail
  · refine APure.of_awp Tryz.func4 rfl (Nat.le_of_ble_eq_true (by kernel_rfl)) (by kernel_rfl) ?_
    intro s
    conv => whnf
    repeat' ((first | refine ⟨Sub.refl _, ?_⟩ | (refine brA_split (fun h => ?_) (fun h => ?_) <;> (try rw [h]) <;> (try simp only [bN, bS, ↓reduceIte] at h) <;> (first | (exfalso; first | contradiction | omega | exact (by assumption : ¬ True) trivial | fail) | skip)) | (refine ACalls.pure' ?_ (haw); rintro _ rfl) | refine DCall.pure ?_ (haw) | refine getB_same ?_ | refine AWp.anyA ?_ | refine and_a ?_ | fail) <;> (conv => whnf))
    all_goals rfl
end Go.Proofs.YthpnfflkkmpejaaGreatDoor.Pa
namespace Go.Ab
open Go
theorem laid_handles {P : Program} {laid : List (String × DataW Unit)} {W : World} {x : String × DataW Unit} {hs : List (String × DataW Unit)} (h : laidMetH P laid W)
    (hf : (laid.filter fun x => x.2.handleName?.isSome) = x :: hs) : laidMet P (laid.filter fun x => x.2.handleName?.isNone) W ∧ handlesMet P (x :: hs) W := by
  unfold laidMetH at h
  rw [hf] at h
  exact h
theorem laid_vars' {P : Program} {laid : List (String × DataW Unit)} {W : World} (h : laidMet P laid W) : ∃ ps, DataW.LaidVars P W laid ps := by
  obtain ⟨ps, h, _⟩ := h
  exact ⟨ps, h⟩
theorem handle_glob {P : Program} {W : World} {n : String} {d : DataW Unit} {name : List UInt8} {g u ty : Nat} (h : handlesMet P [(n, d)] W) (hfn : d.funcsIn? = none) (hn : d.handleName? = some name) (hg : P.globalNamed n = some g)
    (hu : (P.cutTypes.find? (·.1 == "internal/reflectlite.rtype")).map (·.2) = some u) (hone : ((List.range P.types.size).filter fun t => P.rowNamed t name) = [ty]) :
    GlobR (startG W) W g (.cptr [.iface u (.agg [.ptr (some ⟨P.globals.size, ty, none⟩)])]) := by
  have h1 := h (n, d) (List.mem_singleton.2 rfl)
  simp only [hfn] at h1
  obtain ⟨nm, u', ty', e1, e2, e3, e4, hv⟩ := h1
  rw [hn] at e1
  obtain rfl := Option.some.inj e1
  rw [hu] at e2
  obtain rfl := Option.some.inj e2
  have hm : ty' ∈ (List.range P.types.size).filter fun t => P.rowNamed t name := List.mem_filter.2 ⟨List.mem_range.2 e3, e4⟩
  rw [hone] at hm
  obtain rfl := List.mem_singleton.1 hm
  have hblk : ∃ T fr, W.heap[g]? = some (.cells #[.iface u (.agg #[typeHandle P ty'])] T fr) := by
    simp only [World.var?, hg, Option.bind_some] at hv
    split at hv
    · rename_i c T fr hh
      simp only [Option.some.injEq] at hv
      subst hv
      exact ⟨T, fr, hh⟩
    · cases hv
  obtain ⟨T, fr, hblk⟩ := hblk
  have hlt : g < W.heap.size := (Array.getElem?_eq_some_iff.1 hblk).1
  have hgood : ∀ o, (startG W).good g o := fun o => by
    unfold Gh.good startG
    simp [hlt]
  refine ⟨by simp [startG, hlt], ⟨_, T, fr, hblk, rfl⟩, R_cptr.2 ⟨g, 0, rfl, ?_⟩⟩
  unfold RCells
  refine ⟨hgood _, ⟨.iface u (.agg #[typeHandle P ty']), by simp [World.cell?, hblk], R_iface.2 ⟨_, rfl, R_agg.2 ⟨_, rfl, ?_⟩⟩⟩, by unfold RCells; trivial⟩
  exact RList_cons.2 ⟨_, _, rfl, R_ptr.2 rfl, RList_nil.2 rfl⟩
/-- Listed variables laid over any world. -/
theorem laidMet_over {P : Program} {w0 : World} {laid : List (String × DataW Unit)} (args : Array Value) (hf : w0.layFits P laid [] = true) (hi : w0.layIfaces P laid (w0.layVars P laid) = true) :
    laidMet P laid ((w0.layVars P laid).forCall (fun _ _ => 0) ⟨#[], args, []⟩).memory := by
  have e1 : (laid.filter fun x => (laid.map (·.1)).contains x.1) = laid := List.filter_eq_self.2 fun x hx => List.contains_iff_mem.2 (List.mem_map.2 ⟨x, hx, rfl⟩)
  have e2 : (laid.filter fun x => !(laid.map (·.1)).contains x.1) = [] := List.filter_eq_nil_iff.2 fun x hx => by rw [List.contains_iff_mem.2 (List.mem_map.2 ⟨x, hx, rfl⟩)]; simp
  have h : laidMet P laid (w0.layVars P laid) := laidMet_layVars (w0 := w0) (laid.map (·.1)) [] (by rw [e1]) (by rw [e1]; exact hf) (by rw [e1]; exact hi) (by rw [e2]; exact LaidIn.none)
  exact h.of_heap (by simp [World.memory, World.forCall, Input.heap])
end Go.Ab
namespace Go.Ab
open Go
theorem laid_err {P : Program} {n nm : String} {text : List UInt8} {r : List (String × DataW Unit)} {W : World} {g : Nat} {ti tp te ts : TypeId} {ms : Array (String × TypeId)} {f : Field}
    (h : laidMet P ((n, .iface nm (.ptr (.agg [.lit (.string text)]))) :: r) W)
    (hg : P.globalNamed n = some g) (ht : (P.globals[g]?).map (·.type) = some ti) (hi : P.underlying ti = some (.interface ms)) (hrow : ∀ u, P.typeName? 3 u = some nm → u = tp)
    (hp : P.underlying tp = some (.pointer te)) (he : P.underlying te = some (.struct #[f])) (hft : f.type = ts) (hfo : f.offset = 0) (hs : P.underlying ts = some .string) (hc : P.cellsOf te = 1) (hcs : P.cellsOf ts = 1) :
    GlobR (startG W) W g (.cptr [.iface tp (.cptr [.str text])]) := by
  obtain ⟨a, s, hv, hcell, hst, _⟩ := laid_sentinel h hg ht hi hrow hp he hft hfo hs hc hcs
  have hcg := World.var?_cell hg hv 0
  have hlt : ∀ (x : Addr) (v : Value), W.cell? x = some v → x.block < W.heap.size ∧ x.spot = none := by
    intro x v hx
    unfold World.cell? at hx
    split at hx
    · rename_i hh
      split at hx
      · cases hx
      · rename_i hsp
        exact ⟨(Array.getElem?_eq_some_iff.1 hh).1, by simpa using hsp⟩
    · cases hx
  obtain ⟨hb1, hsp⟩ := hlt a _ hcell
  have hg0 : W.cell? ⟨g, 0, none⟩ = some (.iface tp (.pointer (some a))) := by rw [hcg]; rfl
  obtain ⟨hb0, _⟩ := hlt _ _ hg0
  obtain ⟨ab, ao, asp⟩ := a
  dsimp only at hsp hb1
  subst hsp
  have hgood : ∀ b o, b < W.heap.size → (startG W).good b o := fun b o hb => by
    unfold Gh.good startG
    simp [hb]
  have hblk : ∃ T fr, W.heap[g]? = some (.cells #[.iface tp (.pointer (some ⟨ab, ao, none⟩))] T fr) := by
    simp only [World.var?, hg, Option.bind_some] at hv
    split at hv
    · rename_i c T fr hh
      simp only [Option.some.injEq] at hv
      subst hv
      exact ⟨T, fr, hh⟩
    · cases hv
  obtain ⟨T, fr, hblk⟩ := hblk
  refine ⟨by simp [startG, hb0], ⟨_, T, fr, hblk, rfl⟩, R_cptr.2 ⟨g, 0, rfl, ?_⟩⟩
  have inner : R (startG W) W (.cptr [.str text]) (.pointer (some ⟨ab, ao, none⟩)) := by
    refine R_cptr.2 ⟨ab, ao, rfl, ?_⟩
    unfold RCells
    refine ⟨hgood _ _ hb1, ⟨_, hcell, R_str.2 ?_⟩, by unfold RCells; trivial⟩
    subst hst
    rfl
  unfold RCells
  exact ⟨hgood _ _ hb0, ⟨_, hg0, R_iface.2 ⟨_, rfl, inner⟩⟩, by unfold RCells; trivial⟩
end Go.Ab
