/- Part 4 of what the closing text needs: PaK1, Gr2, PaK2, PaL, PaM, AsP, IsP, PaN, PaR, PaDa, PaDb, PaOa, PaDc, Pr0, PrA, PrB, NuV, PrC, PrD, PrE, PrF, PrG, TrA, TrB, TrD, TrE, TrI, TrJ, TrK, TrL, TrM, VaA, VaB, VaC, VaE, VaF. No condition of mine beyond those that the theorems name. -/
import Derived.Test.YtdhgappjicpglaaGreatDoorAb27
import Derived.Test.YtdhgappjicpglaaGreatDoorProg
import Derived.Shelf.Spec.SlicesGrow
import Derived.Laws.AppendOwn
import Derived.Test.YtdhgappjicpglaaGreatDoorChecked
import Derived.WalkKit
import Derived.LaidEql
import Derived.Stop.Asserts
import Derived.RowKitTokens
import Derived.Lib.ItoaMem
set_option linter.all false
namespace Go.Proofs.YtdhgappjicpglaaGreatDoor.Pa
open Go Go.Ab Go.RowKit
variable {Γ : Nat → AV}
attribute [local irreducible] APure Sto.set Sto.grow
set_option maxRecDepth 10000
set_option maxHeartbeats 1000000
section
variable {s : Sto}
/-- A node of nothing. -/
def zx : List AV := [.int .i64 0, .int .i64 0, .int .i64 0, .str [], .int .i64 0, .int .i64 0, .str [], .bool false, .int .i64 0, .int .i64 0]
theorem clone_ok {tk : Nat} {l : List Ex} (hl : l ≠ []) (hn : l.length ≤ 1000000) :
    ACalls Tryz.prog Γ 140 [.slice tk (exsA l)] s fun v s' => ∃ b cap, v = .raw (some ⟨b, 0, none⟩) l.length cap ∧ l.length ≤ cap ∧ s.bx b = none ∧ s' = s.set b 51 ((exsA l).flatten ++ (List.replicate (cap - l.length) zx).flatten) := by
  cases l with
  | nil => exact absurd rfl hl
  | cons c l =>
  refine ACalls.of_awp Tryz.func140 rfl (Nat.le_of_ble_eq_true (by kernel_rfl)) ?_
  refine AWp.seq (awp_ok _ (by kernel_rfl) ?_)
  conv => whnf
  refine AWp.seq (awp_ok _ (by kernel_rfl) ?_)
  conv => whnf
  refine AWp.seq (AWp.regionS 1 (by kernel_rfl) ?_)
  conv => whnf
  refine ⟨Nat.le_of_ble_eq_true (by kernel_rfl), rfl, rfl, all_nil, ?_⟩
  conv => whnf
  refine Reread.raw 5 rfl fun a => ?_
  conv => whnf
  refine ⟨by simp [exsA], fun x hx => ?_, ?_, fun _ b cap h1 h2 => ?_, fun h => absurd ⟨rfl, rfl⟩ h⟩
  · obtain ⟨y, _, rfl⟩ := List.mem_map.1 hx
    exact ⟨rfl, rfl⟩
  · rw [exsA_len]
    show (0 + (c :: l).length) * (96 + 1) ≤ 140737488355328
    omega
  rw [exsA_len] at h1
  rw [exsA_len]
  conv => whnf
  refine awp_ok _ (by kernel_rfl) ?_
  conv => whnf
  exact ⟨_, Sub.refl _, b, cap, rfl, h1, h2, rfl⟩
theorem drop_at {P Q : List AV} {x : Ex} {i : Nat} (hP : P.length = i * 10) (j : Nat) : (P ++ (exA x ++ Q)).drop (0 + ((i : Nat) : Int).toNat * 10 + j) = (exA x ++ Q).drop j := by
  rw [show (0 + ((i : Nat) : Int).toNat * 10 + j) = P.length + j by rw [hP]; simp, ← List.drop_drop, List.drop_left]
theorem aload_of {P : Program} {T : TypeId} {K : AV → Prop} {cs r : List AV} {o : Nat} (h : cs.drop o = r) (k : aload P T r K) : aload P T (cs.drop o) K := h ▸ k
theorem frcL_of {K : List AV → Prop} {l r : List AV} (h : l = r) (k : K r) : frcL l K := by rw [frcL_eq, h]; exact k
theorem put_at {P Q : List AV} {x x' : Ex} {c : AV} {i : Nat} (hP : P.length = i * 10) (j : Nat) (hj : j < 10) (h : (exA x).set j c = exA x') :
    (P ++ (exA x ++ Q)).take (0 + ((i : Nat) : Int).toNat * 10 + j) ++ [c] ++ (P ++ (exA x ++ Q)).drop (0 + ((i : Nat) : Int).toNat * 10 + j + 1) = P ++ (exA x' ++ Q) := by
  rw [← h, show (0 + ((i : Nat) : Int).toNat * 10 + j) = P.length + j by rw [hP]; simp]
  have hx : (exA x).length = 10 := rfl
  rw [Nat.add_assoc, ← List.drop_drop, List.drop_left, List.take_append, List.take_of_length_le (by omega), Nat.add_sub_cancel_left, List.set_eq_take_append_cons_drop]
  rw [if_pos (by omega), List.take_append_of_le_length (by omega), List.drop_append_of_le_length (by omega)]
  simp
theorem chunks_exs (z : List AV) : ∀ l : List Ex, chunks 10 l.length ((exsA l).flatten ++ z) = exsA l
  | [] => rfl
  | x :: l => by
    have ih := chunks_exs z l
    rw [show (exsA (x :: l)).flatten ++ z = exA x ++ ((exsA l).flatten ++ z) by simp [exsA], List.length_cons]
    show (exA x ++ ((exsA l).flatten ++ z)).take 10 :: chunks 10 l.length ((exA x ++ ((exsA l).flatten ++ z)).drop 10) = _
    rw [List.take_left' (show (exA x).length = 10 from rfl), List.drop_left' (show (exA x).length = 10 from rfl), ih]
    rfl
theorem fgE_exs (l : List Ex) : fgE (exsA l) = exsA l := fgE_map (A := exA) (fun _ => rfl) l
theorem flat_len : ∀ m : List Ex, (exsA m).flatten.length = m.length * 10
  | [] => rfl
  | y :: m => by rw [show exsA (y :: m) = exA y :: exsA m from rfl, List.flatten_cons, List.length_append, flat_len m, List.length_cons, show (exA y).length = 10 from rfl]; omega
/-- A node in a box of nodes. -/
theorem shift_ok {tk : Nat} {l : List Ex} {by_ : Int} (hl : l ≠ []) (hn : l.length ≤ 100000) :
    APure Tryz.prog Γ 116 [.slice tk (exsA l), .int .i64 by_] fun v => v = .slice 0 (exsA (l.map (shiftX by_))) := by
  unfold APure; intro s
  have h1 : ACalls Tryz.prog Γ 116 [.slice tk (exsA l), .int .i64 by_] s fun v s' => ∃ b cap z, v = .raw (some ⟨b, 0, none⟩) l.length cap ∧ l.length ≤ cap ∧ s.bx b = none ∧ s'.bx b = some (51, (exsA (l.map (shiftX by_))).flatten ++ z) ∧ Sub s s' := by
    have hcl := clone_ok (Γ := Γ) (s := s) (tk := tk) hl (by omega)
    refine ACalls.of_awp Tryz.func116 rfl (Nat.le_of_ble_eq_true (by kernel_rfl)) (awp_ok _ (by kernel_rfl) ?_)
    conv => whnf
    repeat' ((first | (exfalso; first | omega | exact (by assumption : ¬ True) trivial | fail) | refine ⟨Sub.refl _, ?_⟩ | (refine brA_split (fun h => ?_) (fun h => ?_) <;> (try rw [h]) <;> (try simp only [bS, ↓reduceIte] at h)) | (refine ACalls.by hcl ?_; rintro _ s2 ⟨b, cap, rfl, hcap, hb, hs2⟩) | refine getB_same ?_ | refine AWp.anyA ?_ | refine and_a ?_ | fail) <;> (conv => whnf))
    have hs2' : Sub s s2 := by rw [hs2]; exact (Sub.refl s).set hb _ _
    have hb2 : s2.bx b = some (51, (exsA l).flatten ++ (List.replicate (cap - l.length) zx).flatten) := by rw [hs2]; exact set_bx_same
    generalize (List.replicate (cap - l.length) zx).flatten = z at *
    refine AWp.loopA [11] [12, 13, 6, 14, 15, 16, 17, 18, 19, 20, 21, 22, 23, 24, 25, 26, 27, 28, 29, 30, 31, 32, 33, 34, 35, 36, 37, 38, 39, 40, 41, 42, 43, 44, 45, 46, 47, 48, 49, 50, 51, 52] (fun i : Nat => [.int .i64 (i : Int)]) (fun i s' => i ≤ l.length ∧ s'.bx b = some (51, (exsA ((l.take i).map (shiftX by_))).flatten ++ ((exsA (l.drop i)).flatten ++ z)) ∧ Sub s s') (fun i => l.length - i) (0) (by kernel_rfl) (eqa) ?_ ?_
    · refine ⟨Nat.zero_le _, ?_, hs2'⟩
      rw [hb2]; rfl
    · rintro y i s' ⟨hi, hbx, hsub⟩
      show awp _ _ _ _ _ (updL _ _ [.int .i64 ((i : Nat) : Int)]) _
      conv => whnf
      by_cases hlt : i < l.length
      · rw [List.drop_eq_getElem_cons hlt] at hbx
        generalize hx : l[i] = x at *
        have hP : (exsA ((l.take i).map (shiftX by_))).flatten.length = i * 10 := by
          rw [flat_len, List.length_map, List.length_take]
          rw [Nat.min_eq_left hi]
        obtain ⟨Q, hQ⟩ : ∃ Q, (exsA (l.drop (i + 1))).flatten ++ z = Q := ⟨_, rfl⟩
        have hfin : ∀ {s'' : Sto} {x' : Ex}, s''.bx b = some (51, (exsA ((l.take i).map (shiftX by_))).flatten ++ (exA x' ++ Q)) → x' = shiftX by_ x → s''.bx b = some (51, (exsA ((l.take (i + 1)).map (shiftX by_))).flatten ++ ((exsA (l.drop (i + 1))).flatten ++ z)) := by
          rintro s'' x' h1 rfl
          rw [h1, ← hQ, List.take_succ_eq_append_getElem hlt, hx]
          simp [exsA]
        generalize (exsA ((l.take i).map (shiftX by_))).flatten = P at *
        replace hbx : s'.bx b = some (51, P ++ (exA x ++ Q)) := by rw [hbx, ← hQ]; simp [exsA]
        clear hQ
        have hlen : ∀ x : Ex, (P ++ (exA x ++ Q)).length = i * 10 + (10 + Q.length) := fun x => by rw [List.length_append, List.length_append, hP]; rfl
        have hfit : ∀ (x : Ex) (j : Nat), j < 10 → 0 + ((i : Nat) : Int).toNat * 10 + j + 1 ≤ (P ++ (exA x ++ Q)).length := fun x j hj => by rw [hlen]; simp; omega
        by_cases h4 : x.op < 4
        · have d4 : decide (x.op < 4) = true := by simp [h4]
          repeat' ((first | (exfalso; first | omega | exact (by assumption : ¬ True) trivial | fail) | refine ⟨Sub.refl _, ?_⟩ | (refine brA_split (fun h => ?_) (fun h => ?_) <;> (try rw [h]) <;> (try simp only [bS, ↓reduceIte] at h)) | (rw [d4]) | (refine getB_of hbx ?_; refine aload_of (drop_at hP _) ?_) | refine getB_same ?_ | refine AWp.anyA ?_ | refine and_a ?_ | fail) <;> (conv => whnf))
          exact ⟨i + 1, eqa, samea, ⟨hlt, hfin hbx (by simp [shiftX, h4]), hsub⟩, by omega⟩
        · have d4 : decide (x.op < 4) = false := by simp [h4]
          repeat' ((first | (exfalso; first | omega | exact (by assumption : ¬ True) trivial | fail) | refine ⟨Sub.refl _, ?_⟩ | (refine brA_split (fun h => ?_) (fun h => ?_) <;> (try rw [h]) <;> (try simp only [bS, ↓reduceIte] at h)) | (rw [d4]) | (refine getB_of hbx ?_; refine aload_of (drop_at hP _) ?_) | refine getB_same ?_ | refine AWp.anyA ?_ | refine and_a ?_ | fail) <;> (conv => whnf))
          · have h16 : 16 < x.op := by assumption
            exact ⟨i + 1, eqa, samea, ⟨hlt, hfin hbx (by simp [shiftX, h16]), hsub⟩, by omega⟩
          have h16 : ¬ 16 < x.op := by assumption
          refine getB_of hbx ?_
          conv => whnf
          refine ⟨rfl, rfl, hfit x 1 (by decide), frcL_of (put_at (x' := { x with a := IntKind.i64.wrap (x.a + by_) }) hP _ (by decide) rfl) ?_⟩
          conv => whnf
          have hsub2 := fun cs => hsub.set hb 51 cs
          repeat' ((first | (exfalso; first | omega | exact (by assumption : ¬ True) trivial | fail) | refine ⟨Sub.refl _, ?_⟩ | (refine brA_split (fun h => ?_) (fun h => ?_) <;> (try rw [h]) <;> (try simp only [bS, ↓reduceIte] at h)) | (refine getB_of set_bx_same ?_; refine aload_of (drop_at hP _) ?_) | refine getB_same ?_ | refine AWp.anyA ?_ | refine and_a ?_ | fail) <;> (conv => whnf))
          · have h5 : 5 < x.op := by assumption
            refine ⟨hfit _ 2 (by decide), frcL_of (put_at (x' := { x with a := IntKind.i64.wrap (x.a + by_), b := IntKind.i64.wrap (x.b + by_) }) hP _ (by decide) rfl) ?_⟩
            conv => whnf
            repeat' ((first | (exfalso; first | omega | exact (by assumption : ¬ True) trivial | fail) | refine ⟨Sub.refl _, ?_⟩ | (refine brA_split (fun h => ?_) (fun h => ?_) <;> (try rw [h]) <;> (try simp only [bS, ↓reduceIte] at h)) | refine getB_same ?_ | refine AWp.anyA ?_ | refine and_a ?_ | fail) <;> (conv => whnf))
            exact ⟨i + 1, eqa, samea, ⟨hlt, hfin (x' := { x with a := IntKind.i64.wrap (x.a + by_), b := IntKind.i64.wrap (x.b + by_) }) set_bx_same (by simp [shiftX, h4, h16, h5]), (hsub2 _).set hb _ _⟩, by omega⟩
          · have h5 : ¬ 5 < x.op := by assumption
            exact ⟨i + 1, eqa, samea, ⟨hlt, hfin (x' := { x with a := IntKind.i64.wrap (x.a + by_) }) set_bx_same (by simp [shiftX, h4, h16, h5]), hsub2 _⟩, by omega⟩
      · obtain rfl : i = l.length := by omega
        repeat' ((first | (exfalso; first | omega | exact (by assumption : ¬ True) trivial | fail) | refine ⟨Sub.refl _, ?_⟩ | (refine brA_split (fun h => ?_) (fun h => ?_) <;> (try rw [h]) <;> (try simp only [bS, ↓reduceIte] at h)) | refine getB_same ?_ | refine AWp.anyA ?_ | refine and_a ?_ | fail) <;> (conv => whnf))
        rw [List.take_length, List.drop_length] at hbx
        exact ⟨_, Sub.refl _, b, cap, z, rfl, hcap, hb, hbx, hsub⟩
  refine h1.frz ?_
  rintro v s' ⟨b, cap, z, rfl, hcap, hb, hbx, hsub⟩
  refine ⟨fz1 b 10 ((exsA (l.map (shiftX by_))).flatten ++ z), s, fz1_of hb hbx, hsub, ?_, rfl⟩
  have hch := chunks_exs z (l.map (shiftX by_))
  rw [List.length_map] at hch
  show fg (fz _ _) = _
  unfold fz fzW
  simp only [fz1_at]
  rw [if_pos ⟨hcap, by rw [List.drop_zero, List.length_append, flat_len, List.length_map]; omega⟩, List.drop_zero, hch]
  unfold fg
  rw [fgE_exs]
end
end Go.Proofs.YtdhgappjicpglaaGreatDoor.Pa
namespace Go.Proofs.YtdhgappjicpglaaGreatDoor
open Go Go.Ab Go.RowKit Go.Shelf
variable {Γ : Nat → AV}
set_option maxRecDepth 100000
def growX : Ren := ⟨fun | 4 => 139 | n => n, fun | 22 => 22 | 25 => 51 | 9 => 9 | 20 => 20 | 0 => 0 | 3 => 3 | 4 => 4 | n => n, fun | n => n⟩
theorem growX_lays : Lays8.n4 Tryz.prog growX where
  mixed := by kernel_rfl
  f4 := ⟨ "slices.Grow[[]proctor/api.Expr,proctor/api.Expr]", by decide, Tryz.func139.trans (congrArg some (by kernel_rfl))⟩
  t0 := Tryz.underlying0
  a0 := Tryz.isAgg0
  z0 := Tryz.sizeOf0
  v0 := Tryz.zeroValue0
  t3 := Tryz.underlying3
  a3 := Tryz.isAgg3
  z3 := Tryz.sizeOf3
  v3 := Tryz.zeroValue3
  t4 := Tryz.underlying4
  a4 := Tryz.isAgg4
  z4 := Tryz.sizeOf4
  v4 := Tryz.zeroValue4
  t9 := Tryz.underlying9
  a9 := Tryz.isAgg9
  z9 := Tryz.sizeOf9
  v9 := Tryz.zeroValue9
  t20 := Tryz.underlying20
  a20 := Tryz.isAgg20
  z20 := Tryz.sizeOf20
  v20 := Tryz.zeroValue20
  t22 := Tryz.underlying22
  a22 := Tryz.isAgg22
  z22 := Tryz.sizeOf22
  v22 := Tryz.zeroValue22
def growI : Ren := ⟨fun | 4 => 141 | n => n, fun | 22 => 53 | 25 => 3 | 9 => 9 | 20 => 20 | 0 => 0 | 3 => 3 | 4 => 4 | n => n, fun | n => n⟩
theorem growI_lays : Lays8.n4 Tryz.prog growI where
  mixed := by kernel_rfl
  f4 := ⟨ "slices.Grow[[]int,int]", by decide, Tryz.func141.trans (congrArg some (by kernel_rfl))⟩
  t0 := Tryz.underlying0
  a0 := Tryz.isAgg0
  z0 := Tryz.sizeOf0
  v0 := Tryz.zeroValue0
  t3 := Tryz.underlying3
  a3 := Tryz.isAgg3
  z3 := Tryz.sizeOf3
  v3 := Tryz.zeroValue3
  t4 := Tryz.underlying4
  a4 := Tryz.isAgg4
  z4 := Tryz.sizeOf4
  v4 := Tryz.zeroValue4
  t9 := Tryz.underlying9
  a9 := Tryz.isAgg9
  z9 := Tryz.sizeOf9
  v9 := Tryz.zeroValue9
  t20 := Tryz.underlying20
  a20 := Tryz.isAgg20
  z20 := Tryz.sizeOf20
  v20 := Tryz.zeroValue20
  t22 := Tryz.underlying53
  a22 := Tryz.isAgg53
  z22 := Tryz.sizeOf53
  v22 := Tryz.zeroValue53
theorem grow_of {f : FuncId} {e : TypeId} {k n : Nat} {s : Sto} {ρ : Ren} (L : Lays8.n4 Tryz.prog ρ) (hf : ρ.f 4 = f) (he : ρ.t 25 = e) {i0 : TypeInfo} {z : Value} (hi : Tryz.prog.info? e = some i0) (hz : i0.zero = some z) (hs : i0.size = k) (hzk : z.cells.size = k) (hk : 0 < k) (hb : i0.bytes ≤ 1000) (hn : n ≤ 10000000) :
    ACalls Tryz.prog Γ f [.slice 1 [], .int .i64 (n : Int)] s fun v s' => ∃ t, v = .slice t [] ∧ Own s s' true t e k := by
  subst hf he hs
  refine grow_nil (fun h0 a w => ?_) (fun h0 a w => ?_)
  · exact Any8.slices_Grow_room L a 0 0 0 w (Nat.le_refl _) (by omega) (by omega) (by omega)
  · refine ⟨_, _, ?_, Any8.slices_Grow_grow L i0 z hi hz hk a 0 0 n [] w (Nat.le_refl _) (by omega) ?_ (by omega) (by simp) (fun _ => rfl) (fun _ _ j v hj => by simp at hj)⟩
    · have := grownCap_ge w (0 + n) 0 (ρ.t 25)
      generalize grownCap w (0 + n) 0 (ρ.t 25) = g at *
      simp only [Array.size_append, size_zeroCells, hzk, List.size_toArray, List.length_nil]
      rw [show g = n + (g - n) by omega, Nat.add_mul]
      simp
    · calc (0 + n) * i0.bytes ≤ 10000000 * 1000 := Nat.mul_le_mul (by omega) hb
        _ ≤ _ := by decide
theorem growX_ok {n : Nat} {s : Sto} (hn : n ≤ 10000000) : ACalls Tryz.prog Γ 139 [.slice 1 [], .int .i64 (n : Int)] s fun v s' => ∃ t, v = .slice t [] ∧ Own s s' true t 51 10 :=
  grow_of (k := 10) growX_lays rfl rfl rfl rfl rfl rfl (by decide) (Nat.le_of_ble_eq_true (by kernel_rfl)) hn
theorem growI_ok {n : Nat} {s : Sto} (hn : n ≤ 10000000) : ACalls Tryz.prog Γ 141 [.slice 1 [], .int .i64 (n : Int)] s fun v s' => ∃ t, v = .slice t [] ∧ Own s s' true t 3 1 :=
  grow_of (k := 1) growI_lays rfl rfl rfl rfl rfl rfl (by decide) (Nat.le_of_ble_eq_true (by kernel_rfl)) hn
end Go.Proofs.YtdhgappjicpglaaGreatDoor
namespace Go.Proofs.YtdhgappjicpglaaGreatDoor.Pa
open Go Go.Ab Go.RowKit
variable {Γ : Nat → AV}
attribute [local irreducible] APure Sto.set Sto.grow
set_option maxRecDepth 10000
set_option maxHeartbeats 1000000
theorem _root_.Go.Ab.Own.later {a b c : Sto} {z : Bool} {t : Nat} {e : TypeId} {k : Nat} (h : Own a b z t e k) (hs : Sub b c) : Own a c z t e k :=
  ⟨h.sub.trans hs, h.own.imp id fun x => ⟨x.1, hs.lv _ _ _ x.2.1, x.2.2⟩⟩
def slA {α : Type} (A : α → List AV) (l : List α) : List AV := [.slice 0 (l.map A)]
theorem slA_at {α : Type} {A : α → List AV} {ls : List (List α)} {i : Nat} (h : i < ls.length) : (ls.map (slA A)).getD i [] = [.slice 0 ((ls.getD i []).map A)] := by simp [slA, List.getD, h]
theorem flat_take {α : Type} {ls : List (List α)} {i : Nat} (h : i < ls.length) : (ls.take (i + 1)).flatten = (ls.take i).flatten ++ ls.getD i [] := by
  rw [List.take_add_one, List.flatten_append]; simp [List.getD, h]
theorem flat_le {α : Type} (ls : List (List α)) (i : Nat) : (ls.take i).flatten.length ≤ ls.flatten.length := by
  rw [show ls.flatten = (ls.take i).flatten ++ (ls.drop i).flatten by rw [← List.flatten_append, List.take_append_drop], List.length_append]; omega
theorem isEmpty_app {α : Type} (l m : List α) : (l ++ m).isEmpty = (l.isEmpty && m.isEmpty) := by cases l <;> cases m <;> rfl
section
variable {s : Sto}
theorem concatX_ok {tk : Nat} {ls : List (List Ex)} (hn : ls.length ≤ 100) (hz : ls.flatten.length ≤ 1000000) :
    ACalls Tryz.prog Γ 115 [.slice tk (ls.map (slA exA))] s fun v s' => ∃ t, v = .slice t (ls.flatten.map exA) ∧ Own s s' ls.flatten.isEmpty t 51 10 := by
  have hlen : (ls.map (slA exA)).length = ls.length := List.length_map ..
  refine ACalls.of_awp Tryz.func115 rfl (Nat.le_of_ble_eq_true (by kernel_rfl)) (awp_ok _ (by kernel_rfl) ?_)
  conv => whnf
  repeat' ((first | (exfalso; first | omega | exact (by assumption : ¬ True) trivial | fail) | refine ⟨Sub.refl _, ?_⟩ | (refine brA_split (fun h => ?_) (fun h => ?_) <;> (try rw [h]) <;> (try simp only [bS, ↓reduceIte] at h)) | refine getB_same ?_ | refine AWp.anyA ?_ | refine and_a ?_ | fail) <;> (conv => whnf))
  refine AWp.loopA [3, 11] [12, 13, 14, 5, 15, 16, 17, 18, 19, 20, 21, 22] (fun i : Nat => [.int .i64 ((ls.take i).flatten.length : Int), .int .i64 (i : Int)]) (fun i s' => i ≤ ls.length ∧ s' = s) (fun i => ls.length - i) (0) (by kernel_rfl) (eqa) ?_ ?_
  · exact ⟨Nat.zero_le _, rfl⟩
  · rintro x i s' ⟨hi, hs'⟩
    subst s'
    show awp _ _ _ _ _ (updL _ _ [.int .i64 ((ls.take i).flatten.length : Int), .int .i64 (i : Int)]) _
    conv => whnf
    by_cases hlt : i < ls.length
    · have hat := slA_at (A := exA) hlt
      have hz : ((i : Int)).toNat = i := rfl
      have hle := flat_le ls (i + 1)
      rw [flat_take hlt, List.length_append] at hle
      have hw1 : IntKind.i64.wrap (((ls.take i).flatten.length : Int) + (((ls.getD i []).map exA).length : Int)) = ((ls.take (i + 1)).flatten.length : Int) := i64_of (by rw [flat_take hlt, List.length_append, List.length_map]; omega) (by omega) (by rw [flat_take hlt, List.length_append]; omega)
      have hw2 : IntKind.i64.wrap ((i : Int) + 1) = ((i + 1 : Nat) : Int) := i64_of (by omega) (by omega) (by omega)
      repeat' ((first | (exfalso; first | omega | exact (by assumption : ¬ True) trivial | fail) | refine ⟨Sub.refl _, ?_⟩ | (refine brA_split (fun h => ?_) (fun h => ?_) <;> (try rw [h]) <;> (try simp only [bS, ↓reduceIte] at h)) | (rw [hz]) | (rw [hat]) | (rw [hw1]) | (rw [hw2]) | refine getB_same ?_ | refine AWp.anyA ?_ | refine and_a ?_ | fail) <;> (conv => whnf))
      exact ⟨i + 1, eqa, samea, ⟨hlt, rfl⟩, by omega⟩
    · obtain rfl : i = ls.length := by omega
      rw [List.take_length]
      repeat' ((first | (exfalso; first | omega | exact (by assumption : ¬ True) trivial | fail) | refine ⟨Sub.refl _, ?_⟩ | (refine brA_split (fun h => ?_) (fun h => ?_) <;> (try rw [h]) <;> (try simp only [bS, ↓reduceIte] at h)) | (refine ACalls.by (growX_ok (by omega)) ?_; rintro _ s1 ⟨t0, rfl, ho⟩) | refine getB_same ?_ | refine AWp.anyA ?_ | refine and_a ?_ | fail) <;> (conv => whnf))
      refine AWp.loopA [6, 27] [28, 29, 30, 8, 31, 32, 33, 34] (fun q : Nat × Nat => [.slice q.2 ((ls.take q.1).flatten.map exA), .int .i64 (q.1 : Int)]) (fun q s' => q.1 ≤ ls.length ∧ Own s s' (ls.take q.1).flatten.isEmpty q.2 51 10) (fun q => ls.length - q.1) ((0, t0)) (by kernel_rfl) (eqa) ?_ ?_
      · exact ⟨Nat.zero_le _, ho⟩
      · rintro y ⟨i, t⟩ s' ⟨hi, hown⟩
        simp only at hi hown
        show awp _ _ _ _ _ (updL _ _ [.slice t ((ls.take i).flatten.map exA), .int .i64 (i : Int)]) _
        conv => whnf
        by_cases hlt : i < ls.length
        · have hat := slA_at (A := exA) hlt
          have hz : ((i : Int)).toNat = i := rfl
          have hle := flat_le ls (i + 1)
          rw [flat_take hlt, List.length_append] at hle
          have hw2 : IntKind.i64.wrap ((i : Int) + 1) = ((i + 1 : Nat) : Int) := i64_of (by omega) (by omega) (by omega)
          repeat' ((first | (exfalso; first | omega | exact (by assumption : ¬ True) trivial | fail) | refine ⟨Sub.refl _, ?_⟩ | (refine brA_split (fun h => ?_) (fun h => ?_) <;> (try rw [h]) <;> (try simp only [bS, ↓reduceIte] at h)) | (rw [hz]) | (rw [hat]) | refine getB_same ?_ | refine AWp.anyA ?_ | refine and_a ?_ | fail) <;> (conv => whnf))
          refine ⟨hown.may, fun c hc => by obtain ⟨z, _, rfl⟩ := List.mem_map.1 hc; rfl, fun c hc => by obtain ⟨z, _, rfl⟩ := List.mem_map.1 hc; exact ⟨rfl, rfl⟩, Nat.le_trans (Nat.mul_le_mul_right _ (show _ ≤ 1000000 from by simp only [List.length_map]; omega)) (Nat.le_of_ble_eq_true (by kernel_rfl)), ?_⟩
          intro t2 k1 k2
          have k3 := hown.grow k1 k2
          conv => whnf
          repeat' ((first | (exfalso; first | omega | exact (by assumption : ¬ True) trivial | fail) | refine ⟨Sub.refl _, ?_⟩ | (refine brA_split (fun h => ?_) (fun h => ?_) <;> (try rw [h]) <;> (try simp only [bS, ↓reduceIte] at h)) | (rw [hw2]) | refine getB_same ?_ | refine AWp.anyA ?_ | refine and_a ?_ | fail) <;> (conv => whnf))
          refine ⟨(i + 1, t2), ?_, samea, ⟨hlt, ?_⟩, by simp only; omega⟩
          · dsimp only
            exact cons_eq (congrArg (AV.slice t2) (show (ls.take i).flatten.map exA ++ (ls.getD i []).map exA = _ by rw [flat_take hlt, List.map_append])) (cons_eq rfl rfl)
          · dsimp only
            rw [flat_take hlt, isEmpty_app]
            rw [show ((ls.getD i []).map exA).isEmpty = (ls.getD i []).isEmpty by cases ls.getD i [] <;> rfl] at k3
            exact k3
        · obtain rfl : i = ls.length := by omega
          rw [List.take_length] at hown
          rw [List.take_length]
          repeat' ((first | (exfalso; first | omega | exact (by assumption : ¬ True) trivial | fail) | refine ⟨Sub.refl _, ?_⟩ | (refine brA_split (fun h => ?_) (fun h => ?_) <;> (try rw [h]) <;> (try simp only [bS, ↓reduceIte] at h)) | refine getB_same ?_ | refine AWp.anyA ?_ | refine and_a ?_ | fail) <;> (conv => whnf))
          exact ⟨_, Sub.refl _, t, rfl, hown⟩
def inA (x : Int) : List AV := [.int .i64 x]
theorem concatI_ok {tk : Nat} {ls : List (List Int)} (hn : ls.length ≤ 100) (hz : ls.flatten.length ≤ 1000000) :
    ACalls Tryz.prog Γ 117 [.slice tk (ls.map (slA inA))] s fun v s' => ∃ t, v = .slice t (ls.flatten.map inA) ∧ Own s s' ls.flatten.isEmpty t 3 1 := by
  have hlen : (ls.map (slA inA)).length = ls.length := List.length_map ..
  refine ACalls.of_awp Tryz.func117 rfl (Nat.le_of_ble_eq_true (by kernel_rfl)) (awp_ok _ (by kernel_rfl) ?_)
  conv => whnf
  repeat' ((first | (exfalso; first | omega | exact (by assumption : ¬ True) trivial | fail) | refine ⟨Sub.refl _, ?_⟩ | (refine brA_split (fun h => ?_) (fun h => ?_) <;> (try rw [h]) <;> (try simp only [bS, ↓reduceIte] at h)) | refine getB_same ?_ | refine AWp.anyA ?_ | refine and_a ?_ | fail) <;> (conv => whnf))
  refine AWp.loopA [3, 11] [12, 13, 14, 5, 15, 16, 17, 18, 19, 20, 21, 22] (fun i : Nat => [.int .i64 ((ls.take i).flatten.length : Int), .int .i64 (i : Int)]) (fun i s' => i ≤ ls.length ∧ s' = s) (fun i => ls.length - i) (0) (by kernel_rfl) (eqa) ?_ ?_
  · exact ⟨Nat.zero_le _, rfl⟩
  · rintro x i s' ⟨hi, hs'⟩
    subst s'
    show awp _ _ _ _ _ (updL _ _ [.int .i64 ((ls.take i).flatten.length : Int), .int .i64 (i : Int)]) _
    conv => whnf
    by_cases hlt : i < ls.length
    · have hat := slA_at (A := inA) hlt
      have hz : ((i : Int)).toNat = i := rfl
      have hle := flat_le ls (i + 1)
      rw [flat_take hlt, List.length_append] at hle
      have hw1 : IntKind.i64.wrap (((ls.take i).flatten.length : Int) + (((ls.getD i []).map inA).length : Int)) = ((ls.take (i + 1)).flatten.length : Int) := i64_of (by rw [flat_take hlt, List.length_append, List.length_map]; omega) (by omega) (by rw [flat_take hlt, List.length_append]; omega)
      have hw2 : IntKind.i64.wrap ((i : Int) + 1) = ((i + 1 : Nat) : Int) := i64_of (by omega) (by omega) (by omega)
      repeat' ((first | (exfalso; first | omega | exact (by assumption : ¬ True) trivial | fail) | refine ⟨Sub.refl _, ?_⟩ | (refine brA_split (fun h => ?_) (fun h => ?_) <;> (try rw [h]) <;> (try simp only [bS, ↓reduceIte] at h)) | (rw [hz]) | (rw [hat]) | (rw [hw1]) | (rw [hw2]) | refine getB_same ?_ | refine AWp.anyA ?_ | refine and_a ?_ | fail) <;> (conv => whnf))
      exact ⟨i + 1, eqa, samea, ⟨hlt, rfl⟩, by omega⟩
    · obtain rfl : i = ls.length := by omega
      rw [List.take_length]
      repeat' ((first | (exfalso; first | omega | exact (by assumption : ¬ True) trivial | fail) | refine ⟨Sub.refl _, ?_⟩ | (refine brA_split (fun h => ?_) (fun h => ?_) <;> (try rw [h]) <;> (try simp only [bS, ↓reduceIte] at h)) | (refine ACalls.by (growI_ok (by omega)) ?_; rintro _ s1 ⟨t0, rfl, ho⟩) | refine getB_same ?_ | refine AWp.anyA ?_ | refine and_a ?_ | fail) <;> (conv => whnf))
      refine AWp.loopA [6, 27] [28, 29, 30, 8, 31, 32, 33, 34] (fun q : Nat × Nat => [.slice q.2 ((ls.take q.1).flatten.map inA), .int .i64 (q.1 : Int)]) (fun q s' => q.1 ≤ ls.length ∧ Own s s' (ls.take q.1).flatten.isEmpty q.2 3 1) (fun q => ls.length - q.1) ((0, t0)) (by kernel_rfl) (eqa) ?_ ?_
      · exact ⟨Nat.zero_le _, ho⟩
      · rintro y ⟨i, t⟩ s' ⟨hi, hown⟩
        simp only at hi hown
        show awp _ _ _ _ _ (updL _ _ [.slice t ((ls.take i).flatten.map inA), .int .i64 (i : Int)]) _
        conv => whnf
        by_cases hlt : i < ls.length
        · have hat := slA_at (A := inA) hlt
          have hz : ((i : Int)).toNat = i := rfl
          have hle := flat_le ls (i + 1)
          rw [flat_take hlt, List.length_append] at hle
          have hw2 : IntKind.i64.wrap ((i : Int) + 1) = ((i + 1 : Nat) : Int) := i64_of (by omega) (by omega) (by omega)
          repeat' ((first | (exfalso; first | omega | exact (by assumption : ¬ True) trivial | fail) | refine ⟨Sub.refl _, ?_⟩ | (refine brA_split (fun h => ?_) (fun h => ?_) <;> (try rw [h]) <;> (try simp only [bS, ↓reduceIte] at h)) | (rw [hz]) | (rw [hat]) | refine getB_same ?_ | refine AWp.anyA ?_ | refine and_a ?_ | fail) <;> (conv => whnf))
          refine ⟨hown.may, fun c hc => by obtain ⟨z, _, rfl⟩ := List.mem_map.1 hc; rfl, fun c hc => by obtain ⟨z, _, rfl⟩ := List.mem_map.1 hc; exact ⟨rfl, rfl⟩, Nat.le_trans (Nat.mul_le_mul_right _ (show _ ≤ 1000000 from by simp only [List.length_map]; omega)) (Nat.le_of_ble_eq_true (by kernel_rfl)), ?_⟩
          intro t2 k1 k2
          have k3 := hown.grow k1 k2
          conv => whnf
          repeat' ((first | (exfalso; first | omega | exact (by assumption : ¬ True) trivial | fail) | refine ⟨Sub.refl _, ?_⟩ | (refine brA_split (fun h => ?_) (fun h => ?_) <;> (try rw [h]) <;> (try simp only [bS, ↓reduceIte] at h)) | (rw [hw2]) | refine getB_same ?_ | refine AWp.anyA ?_ | refine and_a ?_ | fail) <;> (conv => whnf))
          refine ⟨(i + 1, t2), ?_, samea, ⟨hlt, ?_⟩, by simp only; omega⟩
          · dsimp only
            exact cons_eq (congrArg (AV.slice t2) (show (ls.take i).flatten.map inA ++ (ls.getD i []).map inA = _ by rw [flat_take hlt, List.map_append])) (cons_eq rfl rfl)
          · dsimp only
            rw [flat_take hlt, isEmpty_app]
            rw [show ((ls.getD i []).map inA).isEmpty = (ls.getD i []).isEmpty by cases ls.getD i [] <;> rfl] at k3
            exact k3
        · obtain rfl : i = ls.length := by omega
          rw [List.take_length] at hown
          rw [List.take_length]
          repeat' ((first | (exfalso; first | omega | exact (by assumption : ¬ True) trivial | fail) | refine ⟨Sub.refl _, ?_⟩ | (refine brA_split (fun h => ?_) (fun h => ?_) <;> (try rw [h]) <;> (try simp only [bS, ↓reduceIte] at h)) | refine getB_same ?_ | refine AWp.anyA ?_ | refine and_a ?_ | fail) <;> (conv => whnf))
          exact ⟨_, Sub.refl _, t, rfl, hown⟩
end
end Go.Proofs.YtdhgappjicpglaaGreatDoor.Pa
namespace Go.Proofs.YtdhgappjicpglaaGreatDoor.Pa
open Go Go.Ab Go.RowKit Go.Proofs.YtdhgappjicpglaaGreatDoor.Lx
variable {Γ : Nat → AV}
theorem own_apart {a b c : Sto} {z z2 : Bool} {t t2 : Nat} {e e2 : TypeId} {k k2 : Nat} (h : Own a b z t e k) (h2 : Own b c z2 t2 e2 k2) : t = t2 → t = 1 := fun ht => by
  rcases h.own with ⟨h1, _⟩ | ⟨h1, h3, _⟩
  · exact h1
  · rcases h2.own with ⟨h4, _⟩ | ⟨_, _, h5⟩
    · exact ht.trans h4
    · subst ht; exact absurd h3 (h5 _ _)
theorem exs_all (l : List Ex) : ∀ c ∈ exsA l, c.length = 10 := fun c hc => by obtain ⟨z, _, rfl⟩ := List.mem_map.1 hc; rfl
theorem ints_all (l : List Int) : ∀ c ∈ intsA .i64 l, c.length = 1 := fun c hc => by obtain ⟨z, _, rfl⟩ := List.mem_map.1 hc; rfl
theorem le_len {α : Type} {l : List α} {n a : Nat} (h : l.length = n) (k : a ≤ n) : a ≤ l.length := h ▸ k
attribute [local irreducible] APure Sto.set Sto.grow
set_option maxRecDepth 10000
set_option maxHeartbeats 1500000
theorem turn_ok (L : List Tok) (hL : L.length ≤ 90000) : Turns Γ L := by
  intro s0 s bp bl st i j hP hS hij hjl
  obtain ⟨t1, t2, hb, w1, w2, w3⟩ := hP.pr
  have hso := hS.ho
  have hsa := hS.ha
  have hd := hS.hd
  have hol := exsA_len st.o
  have hdl := intsA_len .i64 st.d
  have hA : List.drop ((i : Int)).toNat (List.take ((j : Int)).toNat (exsA st.o)) = exsA ((st.o.take j).drop i) := by simp [exsA, List.map_take, List.map_drop]
  have hB : List.drop ((j : Int)).toNat (List.take (exsA st.o).length (exsA st.o)) = exsA (st.o.drop j) := by rw [Int.toNat_natCast, drop_take_all]; simp [exsA, List.map_drop]
  have hC : List.drop 0 (List.take ((i : Int)).toNat (exsA st.o)) = exsA (st.o.take i) := by simp [exsA, List.map_take]
  have hD : List.drop 0 (List.take ((i : Int)).toNat (intsA .i64 st.d)) = intsA .i64 (st.d.take i) := by simp [intsA, List.map_take]
  have hE : List.drop ((j : Int)).toNat (List.take (intsA .i64 st.d).length (intsA .i64 st.d)) = intsA .i64 (st.d.drop j) := by rw [Int.toNat_natCast, drop_take_all]; simp [intsA, List.map_drop]
  have hF : List.drop ((i : Int)).toNat (List.take ((j : Int)).toNat (intsA .i64 st.d)) = intsA .i64 ((st.d.take j).drop i) := by simp [intsA, List.map_take, List.map_drop]
  have hz1 : ((i : Int)).toNat = i := rfl
  have hz2 : ((j : Int)).toNat = j := rfl
  have hl1 : (exsA ((st.o.take j).drop i)).length = j - i := by rw [exsA_len, List.length_drop, List.length_take]; omega
  have hl2 : (exsA (st.o.drop j)).length = st.o.length - j := by rw [exsA_len, List.length_drop]
  have hw1 : IntKind.i64.wrap (0 - ((j - i : Nat) : Int)) = -((j - i : Nat) : Int) := i64_of (by omega) (by omega) (by omega)
  have hs1 := fun tk => ACalls.pure' (s := s) (K := fun v s' => v = .slice 0 (exsA ((st.o.drop j).map (shiftX (-((j - i : Nat) : Int))))) ∧ s' = s) (fun v hv => ⟨hv, rfl⟩) (shift_ok (Γ := Γ) (tk := tk) (l := st.o.drop j) (by_ := -((j - i : Nat) : Int)) (by rw [Ne, ← List.length_eq_zero_iff, List.length_drop]; omega) (by rw [List.length_drop]; omega))
  have hs2 := fun tk => ACalls.pure' (s := s) (K := fun v s' => v = .slice 0 (exsA (((st.o.take j).drop i).map (shiftX ((st.o.length - j : Nat) : Int)))) ∧ s' = s) (fun v hv => ⟨hv, rfl⟩) (shift_ok (Γ := Γ) (tk := tk) (l := (st.o.take j).drop i) (by_ := ((st.o.length - j : Nat) : Int)) (by rw [Ne, ← List.length_eq_zero_iff, List.length_drop, List.length_take]; omega) (by rw [List.length_drop, List.length_take]; omega))
  have hc1 := concatX_ok (Γ := Γ) (s := s) (tk := 1) (ls := [st.o.take i, (st.o.drop j).map (shiftX (-((j - i : Nat) : Int))), ((st.o.take j).drop i).map (shiftX ((st.o.length - j : Nat) : Int))]) (by simp) (by simp only [List.flatten_cons, List.flatten_nil, List.length_append, List.length_map, List.length_take, List.length_drop, List.length_nil]; omega)
  refine ACalls.of_awp Tryz.func99 rfl (Nat.le_of_ble_eq_true (by kernel_rfl)) (awp_ok _ (by kernel_rfl) ?_)
  conv => whnf
  repeat' ((first | (exfalso; first | omega | exact (by assumption : ¬ True) trivial | fail) | refine ⟨Sub.refl _, ?_⟩ | (refine brA_split (fun h => ?_) (fun h => ?_) <;> (try rw [h]) <;> (try simp only [bS, ↓reduceIte] at h)) | (refine getB_of hb ?_) | (rw [hA]) | (rw [hB]) | (rw [hC]) | (refine ⟨exs_all _, ?_⟩) | (refine ⟨le_len hol (by omega), ?_⟩) | (refine AWp.anyC (id := 1) [32, 36] [38] (by kernel_rfl) (by kernel_rfl) (by kernel_rfl) (by kernel_rfl) ?_) | (refine ⟨trivial, ?_⟩) | (rw [hl1]) | (rw [hl2]) | (rw [hw1]) | (refine CCall.mk _ (hs1 _) ?_) | (refine CCall.mk _ (hs2 _) ?_) | (refine ACalls.by hc1 ?_; rintro _ s1 ⟨t3, rfl, ho1⟩) | refine getB_same ?_ | refine AWp.anyA ?_ | refine and_a ?_ | fail) <;> (conv => whnf))
  have hb1 := ho1.sub.bx _ _ hb
  have hl3 := ho1.sub.bx _ _ hP.pl
  obtain ⟨o', ho'⟩ : ∃ o', o' = [st.o.take i, (st.o.drop j).map (shiftX (-((j - i : Nat) : Int))), ((st.o.take j).drop i).map (shiftX ((st.o.length - j : Nat) : Int))].flatten := ⟨_, rfl⟩
  rw [← ho'] at ho1
  rw [← ho']
  have hc2 := concatI_ok (Γ := Γ) (s := s1.set bp 70 [.ptr (some ⟨bl, 0, none⟩), .slice t3 (o'.map exA), .slice t2 (intsA .i64 st.d), .int .i64 st.k]) (tk := 1) (ls := [st.d.take i, st.d.drop j, (st.d.take j).drop i]) (by simp) (by simp only [List.flatten_cons, List.flatten_nil, List.length_append, List.length_map, List.length_take, List.length_drop, List.length_nil]; omega)
  obtain ⟨d', hd'⟩ : ∃ d', d' = [st.d.take i, st.d.drop j, (st.d.take j).drop i].flatten := ⟨_, rfl⟩
  rw [← hd'] at hc2
  refine getB_of hb1 ?_
  conv => whnf
  refine ⟨rfl, rfl, Nat.le_of_ble_eq_true rfl, ?_⟩
  conv => whnf
  refine AWp.anyC (id := 2) [] [62] (by kernel_rfl) (by kernel_rfl) (by kernel_rfl) (by kernel_rfl) ?_
  conv => whnf
  repeat' ((first | (exfalso; first | omega | exact (by assumption : ¬ True) trivial | fail) | refine ⟨Sub.refl _, ?_⟩ | (refine brA_split (fun h => ?_) (fun h => ?_) <;> (try rw [h]) <;> (try simp only [bS, ↓reduceIte] at h)) | (refine ⟨trivial, ?_⟩) | (refine getB_of set_bx_same ?_) | (rw [hD]) | refine getB_same ?_ | refine AWp.anyA ?_ | refine and_a ?_ | fail) <;> (conv => whnf))
  refine ⟨ints_all _, ?_⟩
  conv => whnf
  repeat' ((first | (exfalso; first | omega | exact (by assumption : ¬ True) trivial | fail) | refine ⟨Sub.refl _, ?_⟩ | (refine brA_split (fun h => ?_) (fun h => ?_) <;> (try rw [h]) <;> (try simp only [bS, ↓reduceIte] at h)) | (refine ⟨trivial, ?_⟩) | (refine getB_of set_bx_same ?_) | refine getB_same ?_ | refine AWp.anyA ?_ | refine and_a ?_ | fail) <;> (conv => whnf))
  rw [hE]
  refine ⟨ints_all _, ?_⟩
  conv => whnf
  repeat' ((first | (exfalso; first | omega | exact (by assumption : ¬ True) trivial | fail) | refine ⟨Sub.refl _, ?_⟩ | (refine brA_split (fun h => ?_) (fun h => ?_) <;> (try rw [h]) <;> (try simp only [bS, ↓reduceIte] at h)) | (refine ⟨trivial, ?_⟩) | (refine getB_of set_bx_same ?_) | refine getB_same ?_ | refine AWp.anyA ?_ | refine and_a ?_ | fail) <;> (conv => whnf))
  rw [hF]
  refine ⟨ints_all _, ?_⟩
  conv => whnf
  repeat' ((first | (exfalso; first | omega | exact (by assumption : ¬ True) trivial | fail) | refine ⟨Sub.refl _, ?_⟩ | (refine brA_split (fun h => ?_) (fun h => ?_) <;> (try rw [h]) <;> (try simp only [bS, ↓reduceIte] at h)) | (refine ⟨trivial, ?_⟩) | refine getB_same ?_ | refine AWp.anyA ?_ | refine and_a ?_ | fail) <;> (conv => whnf))
  refine ACalls.by hc2 ?_
  rintro _ s2 ⟨t4, rfl, ho2⟩
  conv => whnf
  have hb2 := ho2.sub.bx _ _ set_bx_same
  have hl4 := ho2.sub.bx _ _ ((set_bx_other hP.ne.symm).trans hl3)
  repeat' ((first | (exfalso; first | omega | exact (by assumption : ¬ True) trivial | fail) | refine ⟨Sub.refl _, ?_⟩ | (refine brA_split (fun h => ?_) (fun h => ?_) <;> (try rw [h]) <;> (try simp only [bS, ↓reduceIte] at h)) | (refine getB_of hb2 ?_) | (refine ⟨trivial, ?_⟩) | refine getB_same ?_ | refine AWp.anyA ?_ | refine and_a ?_ | fail) <;> (conv => whnf))
  have w4 := ((ho1.of_sub hP.sub).set (T := 70) (cs := [.ptr (some ⟨bl, 0, none⟩), .slice t3 (o'.map exA), .slice t2 (intsA .i64 st.d), .int .i64 st.k]) hP.np)
  have w5 := w4.later ho2.sub
  have w6 := ho2.of_sub w4.sub
  have ho3 : (turnF st i j).o = o' := by rw [ho']; simp [turnF, List.append_assoc]
  have hd3 : (turnF st i j).d = d' := by rw [hd']; simp [turnF, List.append_assoc]
  rw [ho3, hd3]
  exact ⟨_, Sub.refl _, rfl, hP.np, hP.nl, hP.ne, ⟨t3, t4, set_bx_same, w5.set hP.np, w6.set hP.np, own_apart w4 ho2⟩, (set_bx_other hP.ne.symm).trans hl4⟩
end Go.Proofs.YtdhgappjicpglaaGreatDoor.Pa
namespace Go.Proofs.YtdhgappjicpglaaGreatDoor.Pa
open Go Go.Ab Go.RowKit Go.Proofs.YtdhgappjicpglaaGreatDoor.Lx
variable {Γ : Nat → AV}
theorem lev_zero {L : List Tok} {n : FuncId} {lv : Nat} : Lev Γ L n 0 lv := fun _ _ _ _ _ _ _ hE => absurd hE (Nat.not_lt_zero _)
theorem levels (hR : Nu.ErrR Γ) {L : List Tok} (hL : L.length ≤ 90000) (hT : ∀ i, (peekF L i).2.1.length ≤ 5000) : ∀ f, Lev Γ L 19 f 0 ∧ Lev Γ L 36 f 1 ∧ Lev Γ L 55 f 2 ∧ Lev Γ L 80 f 3 ∧ Lev Γ L 98 f 4 ∧ Lev Γ L 114 f 5 ∧ Lev Γ L 138 f 6
  | 0 => ⟨lev_zero, lev_zero, lev_zero, lev_zero, lev_zero, lev_zero, lev_zero⟩
  | f + 1 => by
    obtain ⟨h0, h1, h2, h3, h4, h5, h6⟩ := levels hR hL hT f
    exact ⟨expr_ok hL h1, and_ok hL h2, not_ok hL h3 h2, comp_ok hL (turn_ok L hL) h4, sum_ok hL h5, prod_ok hL h6, unary_ok hR hL hT h0 h6⟩
/-- An expression, with fuel enough. -/
def fuelN (L : List Tok) : Nat := 7 * L.length + 7
theorem enough_all (L : List Tok) (st : St) : Enough L 0 (fuelN L) st := by unfold Enough fuelN; omega
end Go.Proofs.YtdhgappjicpglaaGreatDoor.Pa
namespace Go.Proofs.YtdhgappjicpglaaGreatDoor.AsP
open Go Go.RowKit Go.Extern.Stop Go.Stop Go.Extern
set_option maxRecDepth 10000
theorem valueOfPE (t : Addr) (w : World) : (ReflectliteValue.unpack (.iface 91 (.pointer (some t)))).run Tryz.prog w
    = .ok (.agg #[.pointer (some ⟨13, 91, none⟩), .pointer (some ⟨w.heap.size, 0, none⟩), .int .u64 150]) (w.alloc (.cells #[.pointer (some t)] 91)) := by kernel_rfl
theorem typePE (a : Addr) (w : World) : (ReflectliteValue.methodAny (ReflectliteValue.valueError "reflectlite.Value.Type" 0) (fun t _ _ _ => ReflectliteType.toType t) #[(.agg #[.pointer (some ⟨13, 91, none⟩), .pointer (some a), .int .u64 150])]).run Tryz.prog w
    = .ok (.iface 148 (.agg #[.pointer (some ⟨13, 91, none⟩)])) w := by kernel_rfl
theorem methodKind (h : Value) (w : World) : (Go.method 380 148 (.agg #[h]) "Kind").run Tryz.prog w = .ok (191, h) w := by kernel_rfl
theorem kindPE (w : World) : ((ReflectliteType.abiMethod fun t => (fun a : Nat => Value.int IntKind.u8 (a : Int)) <$> Rtype.kind t) #[.pointer (some ⟨13, 91, none⟩)]).run Tryz.prog w = .ok (.int .u8 22) w := by kernel_rfl
theorem kindE (w : World) : ((ReflectliteType.abiMethod fun t => (fun a : Nat => Value.int IntKind.u8 (a : Int)) <$> Rtype.kind t) #[.pointer (some ⟨13, 89, none⟩)]).run Tryz.prog w = .ok (.int .u8 22) w := by kernel_rfl
theorem rlm (z : Sem Value) (f : TypeId → Addr → Nat → Nat → Sem Value) (v : Value) :
    ReflectliteValue.method z f #[v] = (do match ← ReflectliteValue.parts v with | none => z | some (t, a, fl) => f t a fl (fl % 32)) := rfl
theorem partsPE (a : Addr) (w : World) : (ReflectliteValue.parts (.agg #[.pointer (some ⟨13, 91, none⟩), .pointer (some a), .int .u64 150])).run Tryz.prog w = .ok (some (91, a, 150)) w := by kernel_rfl
theorem isNilPE (a p : Addr) (W : World) (ha : W.cell? a = some (.pointer (some p))) :
    (ReflectliteValue.method (ReflectliteValue.valueError "reflectlite.Value.IsNil" 0) ReflectliteValue.isNil #[(.agg #[.pointer (some ⟨13, 91, none⟩), .pointer (some a), .int .u64 150])]).run Tryz.prog W = .ok (.bool false) W := by
  rw [rlm]
  simp only [Sem.run_bind, partsPE, Result.andThen]
  simp [ReflectliteValue.isNil, loadVar, isAgg, underlying, Tryz.underlying91, ha, Result.andThen]
theorem methodElem (h : Value) (w : World) : (Go.method 380 148 (.agg #[h]) "Elem").run Tryz.prog w = .ok (205, .agg #[h]) w := by kernel_rfl
theorem methodImplements (h : Value) (w : World) : (Go.method 380 148 (.agg #[h]) "Implements").run Tryz.prog w = .ok (206, .agg #[h]) w := by kernel_rfl
theorem methodAssignableTo (h : Value) (w : World) : (Go.method 380 148 (.agg #[h]) "AssignableTo").run Tryz.prog w = .ok (203, .agg #[h]) w := by kernel_rfl
theorem elemPE (w : World) : (ReflectliteType.method ReflectliteType.elem #[.agg #[.pointer (some ⟨13, 91, none⟩)]]).run Tryz.prog w = .ok (.iface 148 (.agg #[.pointer (some ⟨13, 89, none⟩)])) w := by kernel_rfl
theorem implementsE (w : World) : (ReflectliteType.relation "Implements" ReflectliteType.implements_ #[.agg #[.pointer (some ⟨13, 89, none⟩)], (.iface 148 (.agg #[.pointer (some ⟨13, 66, none⟩)]))]).run Tryz.prog w = .ok (.bool true) w := by kernel_rfl
theorem typeOfE (v : Value) (w : World) : (ReflectliteType.typeOf #[.iface 89 v]).run Tryz.prog w = .ok (.iface 148 (.agg #[.pointer (some ⟨13, 89, none⟩)])) w := by kernel_rfl
theorem assignableE (w : World) : (ReflectliteType.relation "AssignableTo" ReflectliteType.assignableTo #[.agg #[.pointer (some ⟨13, 89, none⟩)], (.iface 148 (.agg #[.pointer (some ⟨13, 89, none⟩)]))]).run Tryz.prog w = .ok (.bool true) w := by kernel_rfl
theorem valueOfE (e : Option Addr) (w : World) : (ReflectliteValue.unpack (.iface 89 (.pointer e))).run Tryz.prog w
    = .ok (.agg #[.pointer (some ⟨13, 89, none⟩), .pointer (some ⟨w.heap.size, 0, none⟩), .int .u64 150]) (w.alloc (.cells #[.pointer e] 89)) := by kernel_rfl
theorem elemOfPE (w : World) : (Rtype.elem? 91).run Tryz.prog w = .ok (some 89) w := by kernel_rfl
theorem mkE (p : Addr) (w : World) : (ReflectliteValue.mk 89 p ReflectliteValue.flagAddr).run Tryz.prog w = .ok (.agg #[.pointer (some ⟨13, 89, none⟩), .pointer (some p), .int .u64 406]) w := by kernel_rfl
theorem elemVPE (a p : Addr) (W : World) (ha : W.cell? a = some (.pointer (some p))) :
    (ReflectliteValue.method (ReflectliteValue.valueError "reflectlite.Value.Elem" 0) ReflectliteValue.elem #[(.agg #[.pointer (some ⟨13, 91, none⟩), .pointer (some a), .int .u64 150])]).run Tryz.prog W
      = .ok (.agg #[.pointer (some ⟨13, 89, none⟩), .pointer (some p), .int .u64 406]) W := by
  rw [rlm]
  simp only [Sem.run_bind, partsPE, Result.andThen]
  simp [ReflectliteValue.elem, loadVar, isAgg, underlying, Tryz.underlying91, ha, Result.andThen, elemOfPE, mkE]
theorem rls (v x : Value) : ReflectliteValue.set #[v, x] = (do
    let (some (dst, a, fl), some (src, b, _)) := (← ReflectliteValue.parts v, ← ReflectliteValue.parts x)
      | unsupported (.noEntry "extern/(internal/reflectlite.Value).Set.zeroValue")
    if fl / ReflectliteValue.flagAddr % 2 == 0 then unsupported (.noEntry "extern/(internal/reflectlite.Value).Set.unaddressable")
    let val ← loadVar src b
    if ← Rtype.directlyAssignable dst src then storeVar dst a val
    else if ← Rtype.implements dst src then
      if (← Rtype.kind src) == 20 then
        match val with
        | .nilIface => unsupported (.noEntry "extern/reflectlite: a nil value of one interface type handed on as a value of another")
        | _ => storeVar dst a val
      else storeVar dst a (.iface src val)
    else panicString ("reflectlite.Set: value of type " ++ (← Rtype.spelt src) ++ " is not assignable to type " ++ (← Rtype.spelt dst))
    pure (.tuple #[])) := rfl
theorem partsDst (a : Addr) (w : World) : (ReflectliteValue.parts (.agg #[.pointer (some ⟨13, 89, none⟩), .pointer (some a), .int .u64 406])).run Tryz.prog w = .ok (some (89, a, 406)) w := by kernel_rfl
theorem partsSrc (b : Addr) (w : World) : (ReflectliteValue.parts (.agg #[.pointer (some ⟨13, 89, none⟩), .pointer (some b), .int .u64 150])).run Tryz.prog w = .ok (some (89, b, 150)) w := by kernel_rfl
theorem directE (w : World) : (Rtype.directlyAssignable 89 89).run Tryz.prog w = .ok true w := by kernel_rfl
theorem setE (a b : Addr) (val : Value) (W W' : World) (hl : (loadVar 89 b).run Tryz.prog W = .ok val W) (hs : (storeVar 89 a val).run Tryz.prog W = .ok () W') :
    (ReflectliteValue.set #[(.agg #[.pointer (some ⟨13, 89, none⟩), .pointer (some a), .int .u64 406]), (.agg #[.pointer (some ⟨13, 89, none⟩), .pointer (some b), .int .u64 150])]).run Tryz.prog W = .ok (.tuple #[]) W' := by
  rw [rls]
  simp only [Sem.run_bind, partsDst, partsSrc, Result.andThen]
  simp [ReflectliteValue.flagAddr, hl, Result.andThen, directE, hs]
theorem as_nil (t : Value) (w : World) :
    Calls Tryz.prog 33 #[.nilIface, t] w fun e w' => e = .returned (.bool false) ∧ w' = w := by
  go_enter Tryz.func33, Tryz.ntmps33
  go_wp2
  go_ret
  exact ⟨rfl, rfl⟩
set_option maxHeartbeats 4000000 in
theorem as_hit (e : Option Addr) (t : Addr) (old val : Value) (w W' : World) (hg : w.cell? ⟨1, 0, none⟩ = some (.iface 148 (.agg #[.pointer (some ⟨13, 66, none⟩)]))) (ht0 : w.cell? t = some old)
    (hl : (loadVar 89 ⟨w.heap.size + 1 + 1 + 1, 0, none⟩).run Tryz.prog ((((w.alloc (.cells #[.pointer (some t)] 91)).alloc (.cells #[.pointer (some ⟨13, 91, none⟩), .pointer (some ⟨w.heap.size, 0, none⟩), .int .u64 150] 115)).alloc (.cells #[.pointer (some ⟨13, 91, none⟩), .pointer (some ⟨w.heap.size, 0, none⟩), .int .u64 150] 115)).alloc (.cells #[.pointer e] 89)) = .ok val ((((w.alloc (.cells #[.pointer (some t)] 91)).alloc (.cells #[.pointer (some ⟨13, 91, none⟩), .pointer (some ⟨w.heap.size, 0, none⟩), .int .u64 150] 115)).alloc (.cells #[.pointer (some ⟨13, 91, none⟩), .pointer (some ⟨w.heap.size, 0, none⟩), .int .u64 150] 115)).alloc (.cells #[.pointer e] 89))) (hs : (storeVar 89 t val).run Tryz.prog ((((w.alloc (.cells #[.pointer (some t)] 91)).alloc (.cells #[.pointer (some ⟨13, 91, none⟩), .pointer (some ⟨w.heap.size, 0, none⟩), .int .u64 150] 115)).alloc (.cells #[.pointer (some ⟨13, 91, none⟩), .pointer (some ⟨w.heap.size, 0, none⟩), .int .u64 150] 115)).alloc (.cells #[.pointer e] 89)) = .ok () W') :
    Calls Tryz.prog 33 #[.iface 89 (.pointer e), .iface 91 (.pointer (some t))] w fun ev w' => ev = .returned (.bool true) ∧ w' = W' := by
  have h6 := @run_callFunc_extern Tryz.prog 47 _ (fun args => ReflectliteValue.unpack (args.getD 0 (.tuple #[]))) Tryz.func47 (by kernel_rfl) (by kernel_rfl) (by kernel_rfl) (by kernel_rfl)
  have h7 := @run_callFunc_extern Tryz.prog 48 _ (ReflectliteValue.methodAny (ReflectliteValue.valueError "reflectlite.Value.Type" 0) (fun t _ _ _ => ReflectliteType.toType t)) Tryz.func48 (by kernel_rfl) (by kernel_rfl) (by kernel_rfl) (by kernel_rfl)
  have h8 := @run_callFunc_extern Tryz.prog 49 _ (ReflectliteValue.method (ReflectliteValue.valueError "reflectlite.Value.IsNil" 0) ReflectliteValue.isNil) Tryz.func49 (by kernel_rfl) (by kernel_rfl) (by kernel_rfl) (by kernel_rfl)
  have h27 := @run_callFunc_extern Tryz.prog 191 _ (ReflectliteType.abiMethod fun t => do pure (.int .u8 (← Rtype.kind t))) Tryz.func191 (by kernel_rfl) (by kernel_rfl) (by kernel_rfl) (by kernel_rfl)
  have h37 := @run_callFunc_extern Tryz.prog 205 _ (ReflectliteType.method ReflectliteType.elem) Tryz.func205 (by kernel_rfl) (by kernel_rfl) (by kernel_rfl) (by kernel_rfl)
  have h38 := @run_callFunc_extern Tryz.prog 206 _ (ReflectliteType.relation "Implements" ReflectliteType.implements_) Tryz.func206 (by kernel_rfl) (by kernel_rfl) (by kernel_rfl) (by kernel_rfl)
  have h10 := @run_callFunc_extern Tryz.prog 74 _ ReflectliteType.typeOf Tryz.func74 (by kernel_rfl) (by kernel_rfl) (by kernel_rfl) (by kernel_rfl)
  have h35 := @run_callFunc_extern Tryz.prog 203 _ (ReflectliteType.relation "AssignableTo" ReflectliteType.assignableTo) Tryz.func203 (by kernel_rfl) (by kernel_rfl) (by kernel_rfl) (by kernel_rfl)
  have h11 := @run_callFunc_extern Tryz.prog 75 _ (ReflectliteValue.method (ReflectliteValue.valueError "reflectlite.Value.Elem" 0) ReflectliteValue.elem) Tryz.func75 (by kernel_rfl) (by kernel_rfl) (by kernel_rfl) (by kernel_rfl)
  have h12 := @run_callFunc_extern Tryz.prog 76 _ ReflectliteValue.set Tryz.func76 (by kernel_rfl) (by kernel_rfl) (by kernel_rfl) (by kernel_rfl)
  have tO := typeOfE
  have mA := methodAssignableTo
  have aE := assignableE
  have vE := valueOfE
  have f6 := valueOfPE
  have f7 := typePE
  have mK := methodKind
  have mE := methodElem
  have mI := methodImplements
  have kP := kindPE
  have kE := kindE
  have eP := elemPE
  have iE := implementsE
  have n8 := isNilPE ⟨w.heap.size, 0, none⟩ t ((w.alloc (.cells #[.pointer (some t)] 91)).alloc (.cells #[.pointer (some ⟨13, 91, none⟩), .pointer (some ⟨w.heap.size, 0, none⟩), .int .u64 150] 115)) (by simp)
  have hlt : 1 < w.heap.size := by
    rcases Nat.lt_or_ge 1 w.heap.size with h | h
    · exact h
    · simp [World.cell?, Array.getElem?_eq_none h] at hg
  have hg2 : ((w.alloc (.cells #[.pointer (some t)] 91)).alloc (.cells #[.pointer (some ⟨13, 91, none⟩), .pointer (some ⟨w.heap.size, 0, none⟩), .int .u64 150] 115)).cell? ⟨1, 0, none⟩ = some (.iface 148 (.agg #[.pointer (some ⟨13, 66, none⟩)])) := by
    rw [World.cell?_alloc_lt _ _ ⟨1, 0, none⟩ (by first | (simp; done) | (simp; omega)), World.cell?_alloc_lt _ _ ⟨1, 0, none⟩ hlt]; exact hg
  have el := elemVPE ⟨w.heap.size, 0, none⟩ t (((w.alloc (.cells #[.pointer (some t)] 91)).alloc (.cells #[.pointer (some ⟨13, 91, none⟩), .pointer (some ⟨w.heap.size, 0, none⟩), .int .u64 150] 115)).alloc (.cells #[.pointer (some ⟨13, 91, none⟩), .pointer (some ⟨w.heap.size, 0, none⟩), .int .u64 150] 115)) (by rw [World.cell?_alloc_lt _ _ ⟨w.heap.size, 0, none⟩ (by simp; omega)]; simp)
  have st := setE t ⟨w.heap.size + 1 + 1 + 1, 0, none⟩ val ((((w.alloc (.cells #[.pointer (some t)] 91)).alloc (.cells #[.pointer (some ⟨13, 91, none⟩), .pointer (some ⟨w.heap.size, 0, none⟩), .int .u64 150] 115)).alloc (.cells #[.pointer (some ⟨13, 91, none⟩), .pointer (some ⟨w.heap.size, 0, none⟩), .int .u64 150] 115)).alloc (.cells #[.pointer e] 89)) W' hl hs
  clear hl hs
  go_enter Tryz.func33, Tryz.ntmps33
  go_wp2
  refine wp_loop_rounds 1 ?_
  rw [rounds_succ]
  go_wp2
  go_ret
  exact ⟨rfl, rfl⟩
open Go.Ab
variable {Γ : Nat → AV}
def ErrT (Γ : Nat → AV) : Prop := Γ 1 = .cptr [.iface 148 (.agg [.ptr (some ⟨13, 66, none⟩)])]
theorem errT_cell {G : Gh} {s : Sto} {w : World} (hE : ErrT Γ) (hm : Mod Γ G s w) : w.cell? ⟨1, 0, none⟩ = some (.iface 148 (.agg #[.pointer (some ⟨13, 66, none⟩)])) := by
  have h := (hm.glob 1).r
  rw [hE] at h
  obtain ⟨b, o, hp, hc⟩ := R_cptr.1 h
  simp only [Value.pointer.injEq, Option.some.injEq, Addr.mk.injEq] at hp
  obtain ⟨rfl, rfl, _⟩ := hp
  unfold RCells at hc
  obtain ⟨_, ⟨u, hu, hr⟩, _⟩ := hc
  obtain ⟨v, rfl, hv⟩ := R_iface.1 hr
  obtain ⟨us, rfl, hus⟩ := R_agg.1 hv
  obtain ⟨u1, us1, h1, h2, h3⟩ := RList_cons.1 hus
  rw [R_ptr] at h2
  rw [RList_nil] at h3
  subst h2 h3
  obtain rfl : us = #[.pointer (some ⟨13, 66, none⟩)] := by cases us; simp_all
  exact hu
theorem asNil_ok (x : AV) : APure Tryz.prog Γ 33 [.nilIface, x] fun v => v = .bool false := by
  refine fun s => ⟨fun G w vs hm hr => ?_⟩
  obtain ⟨u, us, rfl, hu, hus⟩ := RList_cons.1 hr
  obtain ⟨u1, us1, rfl, hu1, hus1⟩ := RList_cons.1 hus
  rw [RList_nil] at hus1; subst hus1
  rw [R_nilIface] at hu; subst hu
  refine (as_nil u1 w).mono ?_
  rintro e w' ⟨rfl, rfl⟩
  exact ⟨_, _, s, G, rfl, ⟨rfl, rfl⟩, R_bool.2 rfl, hm, Ext.refl _ _⟩
theorem asHit_ok (hE : ErrT Γ) (cs : List AV) {s : Sto} {b : Nat} {T0 : TypeId} {old : AV} (hb : s.bx b = some (T0, [old])) :
    ACalls Tryz.prog Γ 33 [.iface 89 (.cptr cs), .iface 91 (.ptr (some ⟨b, 0, none⟩))] s fun v s' => v = .bool true ∧ s' = s.set b T0 [.cptr cs] := by
  refine ⟨fun G w vs hm hr => ?_⟩
  obtain ⟨u, us, rfl, hu, hus⟩ := RList_cons.1 hr
  obtain ⟨u1, us1, rfl, hu1, hus1⟩ := RList_cons.1 hus
  rw [RList_nil] at hus1; subst hus1
  obtain ⟨e, rfl, he⟩ := R_iface.1 hu
  obtain ⟨p, rfl, hp⟩ := R_iface.1 hu1
  rw [R_ptr] at hp; subst hp
  obtain ⟨pb, po, rfl, hpc⟩ := R_cptr.1 he
  have hg := errT_cell hE hm
  obtain ⟨ws, hws, hcell⟩ := box_cells hm hb
  obtain ⟨w0, ws', rfl, _, _⟩ := RList_cons.1 hws
  have ht0 : w.cell? ⟨b, 0, none⟩ = some w0 := by rw [hcell]; rfl
  obtain ⟨m1, e1⟩ := hm.row_new (.cells #[.pointer (some ⟨b, 0, none⟩)] 91)
  obtain ⟨m2, e2⟩ := m1.row_new (.cells #[.pointer (some ⟨13, 91, none⟩), .pointer (some ⟨w.heap.size, 0, none⟩), .int .u64 150] 115)
  obtain ⟨m3, e3⟩ := m2.row_new (.cells #[.pointer (some ⟨13, 91, none⟩), .pointer (some ⟨w.heap.size, 0, none⟩), .int .u64 150] 115)
  obtain ⟨m4, e4⟩ := m3.row_new (.cells #[.pointer (some ⟨pb, po, none⟩)] 89)
  have X := ((e1.trans e2).trans e3).trans e4
  have hl : (loadVar 89 ⟨w.heap.size + 1 + 1 + 1, 0, none⟩).run Tryz.prog (((( w.alloc (.cells #[.pointer (some ⟨b, 0, none⟩)] 91)).alloc (.cells #[.pointer (some ⟨13, 91, none⟩), .pointer (some ⟨w.heap.size, 0, none⟩), .int .u64 150] 115)).alloc (.cells #[.pointer (some ⟨13, 91, none⟩), .pointer (some ⟨w.heap.size, 0, none⟩), .int .u64 150] 115)).alloc (.cells #[.pointer (some ⟨pb, po, none⟩)] 89)) = .ok (.pointer (some ⟨pb, po, none⟩)) (((( w.alloc (.cells #[.pointer (some ⟨b, 0, none⟩)] 91)).alloc (.cells #[.pointer (some ⟨13, 91, none⟩), .pointer (some ⟨w.heap.size, 0, none⟩), .int .u64 150] 115)).alloc (.cells #[.pointer (some ⟨13, 91, none⟩), .pointer (some ⟨w.heap.size, 0, none⟩), .int .u64 150] 115)).alloc (.cells #[.pointer (some ⟨pb, po, none⟩)] 89)) := by
    have hc : (((( w.alloc (.cells #[.pointer (some ⟨b, 0, none⟩)] 91)).alloc (.cells #[.pointer (some ⟨13, 91, none⟩), .pointer (some ⟨w.heap.size, 0, none⟩), .int .u64 150] 115)).alloc (.cells #[.pointer (some ⟨13, 91, none⟩), .pointer (some ⟨w.heap.size, 0, none⟩), .int .u64 150] 115)).alloc (.cells #[.pointer (some ⟨pb, po, none⟩)] 89)).cell? ⟨w.heap.size + 1 + 1 + 1, 0, none⟩ = some (.pointer (some ⟨pb, po, none⟩)) := by
      rw [World.cell?_alloc_at _ _ _ _ (by simp)]; rfl
    simp [loadVar, isAgg, underlying, Tryz.underlying89, hc, Result.andThen]
  obtain ⟨W', hs, hM', X'⟩ := store_ok (P := Tryz.prog) (T := 89) m4 hb (o := 0) (n := 1) (us := [.cptr cs]) (v := (.pointer (some ⟨pb, po, none⟩))) (by kernel_rfl) (RList_cons.2 ⟨_, _, rfl, R.mono X _ _ he, RList_nil.2 rfl⟩) rfl rfl (by simp)
  refine (as_hit (some ⟨pb, po, none⟩) ⟨b, 0, none⟩ w0 (.pointer (some ⟨pb, po, none⟩)) w W' hg ht0 hl hs).mono ?_
  rintro ev w' ⟨rfl, rfl⟩
  exact ⟨_, _, _, _, rfl, ⟨rfl, rfl⟩, R_bool.2 rfl, hM', X.trans X'⟩
end Go.Proofs.YtdhgappjicpglaaGreatDoor.AsP
namespace Go.Proofs.YtdhgappjicpglaaGreatDoor.IsP
open Go Go.RowKit Go.Extern.Stop Go.Stop Go.Extern
set_option maxRecDepth 10000
section
variable {P : Program} (w : World)
theorem run_equalIn_iface_int (d : Nat) {ti tn : TypeId} {ms : Array (String × TypeId)} {i : TypeInfo} {k : IntKind} (a b : Int)
    (hi : P.underlying ti = some (.interface ms)) (hn : P.underlying tn = some (.int k)) (hinfo : P.info? tn = some i) (hcomp : i.comparable = true) :
    (Op.equalIn (d + 2) ti (.iface tn (.int k a)) (.iface tn (.int k b))).run P w = .ok (a == b) w := by
  simp [Op.equalIn, run_underlying hi, run_underlying hn, typeInfo, hinfo, hcomp]
theorem run_eql_iface_int {ti tn : TypeId} {ms : Array (String × TypeId)} {i : TypeInfo} {k : IntKind} (a b : Int)
    (hi : P.underlying ti = some (.interface ms)) (hn : P.underlying tn = some (.int k)) (hinfo : P.info? tn = some i) (hcomp : i.comparable = true) :
    (binOp .eql ti (.iface tn (.int k a)) (.iface tn (.int k b))).run P w = .ok (.bool (a == b)) w := by
  simp only [binOp]
  simp [Op.equal, Op.maxDepth, run_equalIn_iface_int w 9998 a b hi hn hinfo hcomp]
end
theorem isTypeOf (v : Value) (w : World) : (Extern.ReflectliteType.typeOf #[.iface 43 v]).run Tryz.prog w = .ok (.iface 148 (.agg #[.pointer (some ⟨13, 43, none⟩)])) w := by kernel_rfl
theorem isComparable (w : World) : ((Extern.ReflectliteType.method fun t => do Extern.Rtype.noPackHeld "Comparable" t; (fun a => Value.bool a.comparable) <$> typeInfo t) #[.agg #[.pointer (some ⟨13, 43, none⟩)]]).run Tryz.prog w = .ok (.bool true) w := by kernel_rfl
theorem isMethodComparable (v : Value) (w : World) : (Go.method 380 148 v "Comparable").run Tryz.prog w = .ok (204, v) w := by kernel_rfl
theorem isComp : (Tryz.prog.info? 43).map (·.comparable) = some true := by kernel_rfl
theorem noIsW (v : Value) (xT : TypeId) (w : World) : (Instr.typeAssert (.iface 89 v) xT 171 true).run Tryz.prog w = .ok (.tuple #[.nilIface, .bool false]) w := run_typeAssert_lacksB Tryz.underlying171 (by kernel_rfl) (by kernel_rfl) v xT w
theorem noIsN (v : Value) (xT : TypeId) (w : World) : (Instr.typeAssert (.iface 43 v) xT 171 true).run Tryz.prog w = .ok (.tuple #[.nilIface, .bool false]) w := run_typeAssert_lacksB Tryz.underlying171 (by kernel_rfl) (by kernel_rfl) v xT w
theorem noUnN (v : Value) (xT : TypeId) (w : World) : (Instr.typeAssert (.iface 43 v) xT 156 true).run Tryz.prog w = .ok (.tuple #[.nilIface, .bool false]) w := run_typeAssert_lacksB Tryz.underlying156 (by kernel_rfl) (by kernel_rfl) v xT w
theorem noUlN (v : Value) (xT : TypeId) (w : World) : (Instr.typeAssert (.iface 43 v) xT 157 true).run Tryz.prog w = .ok (.tuple #[.nilIface, .bool false]) w := run_typeAssert_lacksB Tryz.underlying157 (by kernel_rfl) (by kernel_rfl) v xT w
theorem hasUnwrapW (v : Value) (xT : TypeId) (w : World) : (Instr.typeAssert (.iface 89 v) xT 156 true).run Tryz.prog w = .ok (.tuple #[.iface 89 v, .bool true]) w := run_typeAssert_hasB Tryz.underlying156 (by kernel_rfl) v xT w
theorem methodUnwrap (v : Value) (w : World) : (Go.method 380 89 v "Unwrap").run Tryz.prog w = .ok (196, v) w := by kernel_rfl
theorem is_run (pb po : Nat) (e k : Int) (w : World) (h1 : w.cell? ⟨pb, po + 4, none⟩ = some (.iface 43 (.int .i64 e))) :
    Calls Tryz.prog 51 #[.iface 89 (.pointer (some ⟨pb, po, none⟩)), .iface 43 (.int .i64 k)] w fun r w' => r = .returned (.bool (e == k)) ∧ w' = w := by
  obtain ⟨i, hi, hcmp⟩ := Option.map_eq_some_iff.1 isComp
  have h8 := @run_callFunc_extern Tryz.prog 74 _ Extern.ReflectliteType.typeOf Tryz.func74 (by kernel_rfl) (by kernel_rfl) (by kernel_rfl) (by kernel_rfl)
  have h32 := @run_callFunc_extern Tryz.prog 204 _ (Extern.ReflectliteType.method fun t => do Extern.Rtype.noPackHeld "Comparable" t; pure (.bool (← typeInfo t).comparable)) Tryz.func204 (by kernel_rfl) (by kernel_rfl) (by kernel_rfl) (by kernel_rfl)
  have tT := isTypeOf
  have cT := isComparable
  have mR := isMethodComparable
  have nW := noIsW
  have nN := noIsN
  have uN := noUnN
  have lN := noUlN
  have uW := hasUnwrapW
  have mU := methodUnwrap
  have heq := run_eql_iface_int (P := Tryz.prog) w e k Tryz.underlying66 Tryz.underlying43 hi hcmp
  have hty := run_eql_iface_types (P := Tryz.prog) 89 43 (.pointer (some ⟨pb, po, none⟩)) (.int .i64 k) Tryz.underlying66 (by decide) w
  cases hk : (e == k) <;> rw [hk] at heq <;> clear hk
  · go_enter Tryz.func51, Tryz.ntmps51
    go_wp2
    refine wp_loop_rounds 2 ?_
    rw [rounds_succ]
    go_wp2
    rw [rounds_succ]
    go_wp2
    go_ret
    exact ⟨rfl, rfl⟩
  · go_enter Tryz.func51, Tryz.ntmps51
    go_wp2
    refine wp_loop_rounds 2 ?_
    rw [rounds_succ]
    go_wp2
    rw [rounds_succ]
    go_wp2
    go_ret
    exact ⟨rfl, rfl⟩
open Go.Ab
variable {Γ : Nat → AV}
theorem is_ok (c0 c1 c2 c3 : AV) (e k : Int) : APure Tryz.prog Γ 51 [.iface 89 (.cptr [c0, c1, c2, c3, .iface 43 (.int .i64 e)]), .iface 43 (.int .i64 k)] fun v => v = .bool (e == k) := by
  refine fun s => ⟨fun G w vs hm hr => ?_⟩
  obtain ⟨u, us, rfl, hu, hus⟩ := RList_cons.1 hr
  obtain ⟨u1, us1, rfl, hu1, hus1⟩ := RList_cons.1 hus
  rw [RList_nil] at hus1; subst hus1
  obtain ⟨x, rfl, hx⟩ := R_iface.1 hu
  obtain ⟨p, rfl, hp⟩ := R_iface.1 hu1
  rw [R_int] at hp; subst hp
  obtain ⟨pb, po, rfl, hc⟩ := R_cptr.1 hx
  unfold RCells at hc
  obtain ⟨_, _, hc⟩ := hc
  unfold RCells at hc
  obtain ⟨_, _, hc⟩ := hc
  unfold RCells at hc
  obtain ⟨_, _, hc⟩ := hc
  unfold RCells at hc
  obtain ⟨_, _, hc⟩ := hc
  unfold RCells at hc
  obtain ⟨_, ⟨y, hy, hr1⟩, _⟩ := hc
  obtain ⟨z, rfl, hz⟩ := R_iface.1 hr1
  rw [R_int] at hz; subst hz
  refine (is_run pb po e k w hy).mono ?_
  rintro r w' ⟨rfl, rfl⟩
  exact ⟨_, _, s, G, rfl, ⟨rfl, rfl⟩, R_bool.2 rfl, hm, Ext.refl _ _⟩
end Go.Proofs.YtdhgappjicpglaaGreatDoor.IsP
namespace Go.Proofs.YtdhgappjicpglaaGreatDoor.Pa
open Go Go.Ab Go.RowKit Go.Proofs.YtdhgappjicpglaaGreatDoor.Lx
variable {Γ : Nat → AV}
theorem _root_.Go.Ab.Stays.of_sub {B : Nat → Prop} {s s' : Sto} (h : Sub s s') : Stays B s s' := ⟨fun c z _ hz => h.bx c z hz, h.lv, fun _ hs _ => hs.trans h⟩
/-- Where a box of the caller's is written. -/
theorem Pst.reset {s0 s : Sto} {bp bl : Nat} {L : List Tok} {a : Nat} {o : List Ex} {d : List Int} {k : Int} (hP : Pst s0 s bp bl L a o d k) {b : Nat} (h1 : b ≠ bp) (h2 : b ≠ bl) (T : TypeId) (cs : List AV) : Pst (s0.set b T cs) (s.set b T cs) bp bl L a o d k := by
  obtain ⟨np, nl, ne, ⟨t1, t2, e1, e2, e3, e4⟩, pl⟩ := hP
  have hs : Sub (s0.set b T cs) (s.set b T cs) := ⟨fun c x hc => (by
    by_cases hcb : c = b
    · subst hcb; rw [set_bx_same] at hc ⊢; exact hc
    · rw [set_bx_other hcb] at hc ⊢; exact e2.sub.bx c x hc), fun t e m hx => e2.sub.lv t e m (by simpa [Sto.set] using hx)⟩
  exact ⟨(set_bx_other h1.symm).trans np, (set_bx_other h2.symm).trans nl, ne, ⟨t1, t2, (set_bx_other h1.symm).trans e1, ⟨hs, e2.own.imp id fun h => ⟨h.1, h.2.1, fun e m hx => h.2.2 e m (by simpa [Sto.set] using hx)⟩⟩, ⟨hs, e3.own.imp id fun h => ⟨h.1, h.2.1, fun e m hx => h.2.2 e m (by simpa [Sto.set] using hx)⟩⟩, e4⟩, (set_bx_other h2.symm).trans pl⟩
attribute [local irreducible] APure Sto.set Sto.grow
set_option maxRecDepth 10000
set_option maxHeartbeats 1000000
theorem _root_.Go.Ab.Stays.none1 {s s' : Sto} {bc b : Nat} {z : TypeId × List AV} (h : Stays (B1 bc) s s') (hc : s'.bx bc = some z) (hb : s'.bx b = none) : s.bx b = none := by
  cases hz : s.bx b with
  | none => rfl
  | some z =>
    have hne : b ≠ bc := by rintro rfl; rw [hc] at hb; cases hb
    rw [h.bx b z (fun h => hne h) hz] at hb; cases hb
/-- The number that is told of what is wrong. -/
def errF (e : Int) : Int := if e = 13 then 13 else if e = 5 then 5 else 16
theorem errno_ok (t : Tok) (e : Int) : APure Tryz.prog Γ 34 [errA t e] fun v => v = .int .i64 (errF e) := by
  obtain ⟨t1, t2, t3, t4⟩ := t
  simp only [errA, tokA, List.cons_append, List.nil_append]
  have h13 : e ≠ 13 → (e == 13) = false := fun h => by simp [h]
  have h5 : e ≠ 5 → (e == 5) = false := fun h => by simp [h]
  refine APure.of_awp Tryz.func34 rfl (Nat.le_of_ble_eq_true (by kernel_rfl)) (by kernel_rfl) ?_
  intro s
  conv => whnf
  repeat' ((first | (exfalso; first | omega | exact (by assumption : ¬ True) trivial | fail) | refine ⟨Sub.refl _, ?_⟩ | (refine brA_split (fun h => ?_) (fun h => ?_) <;> (try rw [h]) <;> (try simp only [bS, ↓reduceIte] at h)) | refine getB_same ?_ | refine AWp.anyA ?_ | refine and_a ?_ | fail) <;> (conv => whnf))
  refine AWp.loopA [7] [8, 9, 10, 4, 11, 12, 13, 14, 15, 2, 16] (fun i : Nat => [.int .i64 (i : Int)]) (fun i s' => s' = s ∧ (i = 0 ∨ (i = 1 ∧ e ≠ 13) ∨ (i = 2 ∧ e ≠ 13 ∧ e ≠ 5))) (fun i => 2 - i) (0) (by kernel_rfl) (eqa) ?_ ?_
  · exact ⟨rfl, .inl rfl⟩
  · rintro x i s' ⟨hs', hi⟩
    subst s'
    rcases hi with rfl | ⟨rfl, h1⟩ | ⟨rfl, h1, h2⟩
    · show awp _ _ _ _ _ (updL _ _ [.int .i64 ((0 : Nat) : Int)]) _
      conv => whnf
      by_cases h0 : e = 13
      · subst h0
        repeat' ((first | (exfalso; first | omega | exact (by assumption : ¬ True) trivial | fail) | refine ⟨Sub.refl _, ?_⟩ | (refine brA_split (fun h => ?_) (fun h => ?_) <;> (try rw [h]) <;> (try simp only [bS, ↓reduceIte] at h)) | (refine ACalls.pure' ?_ (IsP.is_ok _ _ _ _ 13 13); rintro _ rfl) | refine DCall.pure ?_ (IsP.is_ok _ _ _ _ 13 13) | refine getB_same ?_ | refine AWp.anyA ?_ | refine and_a ?_ | fail) <;> (conv => whnf))
        rfl
      · have hi := IsP.is_ok (Γ := Γ) (.int .i64 t1) (.str t2) (.int .i64 t3) (.int .i64 t4) e 13
        rw [h13 h0] at hi
        repeat' ((first | (exfalso; first | omega | exact (by assumption : ¬ True) trivial | fail) | refine ⟨Sub.refl _, ?_⟩ | (refine brA_split (fun h => ?_) (fun h => ?_) <;> (try rw [h]) <;> (try simp only [bS, ↓reduceIte] at h)) | (refine ACalls.pure' ?_ (hi); rintro _ rfl) | refine DCall.pure ?_ (hi) | refine getB_same ?_ | refine AWp.anyA ?_ | refine and_a ?_ | fail) <;> (conv => whnf))
        exact ⟨1, eqa, samea, ⟨rfl, .inr (.inl ⟨rfl, h0⟩)⟩, by omega⟩
    · show awp _ _ _ _ _ (updL _ _ [.int .i64 ((1 : Nat) : Int)]) _
      conv => whnf
      by_cases h0 : e = 5
      · subst h0
        repeat' ((first | (exfalso; first | omega | exact (by assumption : ¬ True) trivial | fail) | refine ⟨Sub.refl _, ?_⟩ | (refine brA_split (fun h => ?_) (fun h => ?_) <;> (try rw [h]) <;> (try simp only [bS, ↓reduceIte] at h)) | (refine ACalls.pure' ?_ (IsP.is_ok _ _ _ _ 5 5); rintro _ rfl) | refine DCall.pure ?_ (IsP.is_ok _ _ _ _ 5 5) | refine getB_same ?_ | refine AWp.anyA ?_ | refine and_a ?_ | fail) <;> (conv => whnf))
        rfl
      · have hi := IsP.is_ok (Γ := Γ) (.int .i64 t1) (.str t2) (.int .i64 t3) (.int .i64 t4) e 5
        rw [h5 h0] at hi
        repeat' ((first | (exfalso; first | omega | exact (by assumption : ¬ True) trivial | fail) | refine ⟨Sub.refl _, ?_⟩ | (refine brA_split (fun h => ?_) (fun h => ?_) <;> (try rw [h]) <;> (try simp only [bS, ↓reduceIte] at h)) | (refine ACalls.pure' ?_ (hi); rintro _ rfl) | refine DCall.pure ?_ (hi) | refine getB_same ?_ | refine AWp.anyA ?_ | refine and_a ?_ | fail) <;> (conv => whnf))
        exact ⟨2, eqa, samea, ⟨rfl, .inr (.inr ⟨rfl, h1, h0⟩)⟩, by omega⟩
    · show awp _ _ _ _ _ (updL _ _ [.int .i64 ((2 : Nat) : Int)]) _
      conv => whnf
      repeat' ((first | (exfalso; first | omega | exact (by assumption : ¬ True) trivial | fail) | refine ⟨Sub.refl _, ?_⟩ | (refine brA_split (fun h => ?_) (fun h => ?_) <;> (try rw [h]) <;> (try simp only [bS, ↓reduceIte] at h)) | refine getB_same ?_ | refine AWp.anyA ?_ | refine and_a ?_ | fail) <;> (conv => whnf))
      rw [errF, if_neg h1, if_neg h2]
      rfl
/-- What a text is read as, by what is read of its tokens. -/
def runR {α : Type} (S : List UInt8) (body : List Tok → Res α) : Res α :=
  match allT S with
  | .error x => .error x
  | .ok L => match body L with
    | .error x => .error (errF x.1, x.2.1, x.2.2)
    | .ok o => .ok o
/-- The expression of tokens. -/
def exprR (L : List Tok) : Res (List Ex) :=
  match ev L (fuelN L) 0 ⟨0, [], [], 0⟩ with
  | .error x => .error x
  | .ok st => if st.a < L.length then failF L st.a 16 else .ok st.o
/-- What a reader of tokens hands back, and what it leaves in its box. -/
def BodyR {α : Type} (K : α → List AV → Prop) (r : Res α) (v : AV) (cs : List AV) : Prop :=
  match r with
  | .error x => ErrV x v
  | .ok o => v = .nilIface ∧ K o cs
def RunR {α : Type} (K : α → List AV → Prop) (r : Res α) (v : AV) (cs : List AV) : Prop :=
  match r with
  | .error x => v = .agg [.int .i64 x.1, .int .i64 x.2.1, .int .i64 x.2.2]
  | .ok o => v = .agg [.int .i64 0, .int .i64 0, .int .i64 0] ∧ K o cs
def ExprK (o : List Ex) (cs : List AV) : Prop := ∃ t, cs = [.slice t (exsA o)]
theorem exprBody_ok (hR : Nu.ErrR Γ) {L : List Tok} (hL : L.length ≤ 90000) (hT : ∀ i, (peekF L i).2.1.length ≤ 5000) (bc : Nat) : ∀ (s0 s : Sto) (bp bl : Nat) (c : AV), Pst s0 s bp bl L 0 [] [] 0 → s0.bx bc = some (22, [c]) → ACalls Tryz.prog Γ 18 [.ptr (some ⟨bp, 0, none⟩), .ptr (some ⟨bc, 0, none⟩)] s fun v s' => Stays (B1 bc) s0 s' ∧ ∃ cs', s'.bx bc = some (22, cs') ∧ BodyR ExprK (exprR L) v cs' := by
  intro s0 s bp bl c hP hb
  have hok : Okay L ⟨0, [], [], 0⟩ := ⟨Nat.zero_le _, Nat.zero_le _, rfl, by decide⟩
  have he := (levels hR hL hT (fuelN L)).1 _ _ _ _ ⟨0, [], [], 0⟩ hP hok (enough_all L _)
  have hg := ev_good (fuelN L) 0 ⟨0, [], [], 0⟩ (by omega) hok (enough_all L _)
  refine ACalls.of_awp Tryz.func18 rfl (Nat.le_of_ble_eq_true (by kernel_rfl)) (awp_ok _ (by kernel_rfl) ?_)
  conv => whnf
  repeat' ((first | (exfalso; first | omega | exact (by assumption : ¬ True) trivial | fail) | refine ⟨Sub.refl _, ?_⟩ | (refine brA_split (fun h => ?_) (fun h => ?_) <;> (try rw [h]) <;> (try simp only [bS, ↓reduceIte] at h)) | (refine ACalls.by he ?_; intro v s1 hv) | refine getB_same ?_ | refine AWp.anyA ?_ | refine and_a ?_ | fail) <;> (conv => whnf))
  unfold exprR
  rcases hr : ev L (fuelN L) 0 ⟨0, [], [], 0⟩ with x | x
  · rw [hr] at hv
    obtain ⟨⟨kd, tx, rfl⟩, a', o', d', k', hP4⟩ := hv
    conv => whnf
    repeat' ((first | (exfalso; first | omega | exact (by assumption : ¬ True) trivial | fail) | refine ⟨Sub.refl _, ?_⟩ | (refine brA_split (fun h => ?_) (fun h => ?_) <;> (try rw [h]) <;> (try simp only [bS, ↓reduceIte] at h)) | refine getB_same ?_ | refine AWp.anyA ?_ | refine and_a ?_ | fail) <;> (conv => whnf))
    exact ⟨_, Sub.refl _, Stays.of_sub hP4.sub, _, hP4.sub.bx _ _ hb, ⟨kd, tx, rfl⟩⟩
  · rw [hr] at hv
    obtain ⟨rfl, hP4⟩ := hv
    obtain ⟨g1, g2⟩ := hg x hr
    have hxa := g1.ha
    obtain ⟨u1, u2, hb4, _⟩ := hP4.pr
    have hb5 := hP4.sub.bx _ _ hb
    have n1 : bp ≠ bc := by rintro rfl; rw [hP4.np] at hb; cases hb
    have n2 : bl ≠ bc := by rintro rfl; rw [hP4.nl] at hb; cases hb
    have htl := toksA_len L
    have hP6 := hP4.reset n1.symm n2.symm 22 [.slice u1 (exsA x.o)]
    have hst : Stays (B1 bc) s0 (s1.set bc 22 [.slice u1 (exsA x.o)]) := Stays.set (B := B1 bc) (b := bc) (Stays.of_sub hP4.sub) rfl _ _
    have hfl := fail_ok (Γ := Γ) hP6 (by omega) (by omega) 16
    conv => whnf
    repeat' ((first | (exfalso; first | omega | exact (by assumption : ¬ True) trivial | fail) | refine ⟨Sub.refl _, ?_⟩ | (refine brA_split (fun h => ?_) (fun h => ?_) <;> (try rw [h]) <;> (try simp only [bS, ↓reduceIte] at h)) | (refine getB_of hb4 ?_) | (refine getB_of hb5 ?_) | (refine getB_of ((set_bx_other n1).trans hb4) ?_) | (refine getB_of ((set_bx_other n2).trans hP4.pl) ?_) | (refine ACalls.by hfl ?_; rintro _ s5 ⟨rfl, hs5⟩; subst s5) | refine getB_same ?_ | refine AWp.anyA ?_ | refine and_a ?_ | fail) <;> (conv => whnf))
    · refine ⟨_, Sub.refl _, hst, _, set_bx_same, ?_⟩
      dsimp only
      rw [if_pos (by omega)]
      exact errV_fail L x.a 16
    · refine ⟨_, Sub.refl _, hst, _, set_bx_same, ?_⟩
      dsimp only
      rw [if_neg (by omega)]
      exact ⟨rfl, u1, rfl⟩
theorem run_ok {α : Type} (K : α → List AV → Prop) (hQ : Qu.Tabs Γ) (hW : Sc.Wds Γ) (hO : AsO.ErrT Γ) (hE : AsP.ErrT Γ) {n : FuncId} (hn : callT Tryz.prog n = true) {bc : Nat} {Tc : TypeId} (S : List UInt8) (hS : S.length ≤ 1048576) (r : List Tok → Res α) (hB : ∀ L, allT S = .ok L → ∀ (s0 s : Sto) (bp bl : Nat) (c : AV), Pst s0 s bp bl L 0 [] [] 0 → s0.bx bc = some (Tc, [c]) → ACalls Tryz.prog Γ n [.ptr (some ⟨bp, 0, none⟩), .ptr (some ⟨bc, 0, none⟩)] s fun v s' => Stays (B1 bc) s0 s' ∧ ∃ cs', s'.bx bc = some (Tc, cs') ∧ BodyR K (r L) v cs') {s : Sto} {c : AV} (hb : s.bx bc = some (Tc, [c])) :
    ACalls Tryz.prog Γ 17 [.str S, .func (.func n) [] [.ptr (some ⟨bc, 0, none⟩)]] s fun v s' => Stays (B1 bc) s s' ∧ ∃ cs', s'.bx bc = some (Tc, cs') ∧ RunR K (runR S r) v cs' := by
  have hl := progAll_ok hQ hW hO S hS
  rcases hx : allT S with ⟨e, a, b⟩ | L
  · rw [hx] at hl
    have he0 : e ≠ 0 := by
      unfold allT at hx
      split at hx
      · cases hx; decide
      · exact lexF_err _ _ _ _ _ _ hx
    have hrr : runR S r = .error (e, a, b) := by unfold runR; rw [hx]
    rw [hrr]
    simp only [allA] at hl
    refine ACalls.of_awp Tryz.func17 rfl (Nat.le_of_ble_eq_true (by kernel_rfl)) (awp_ok _ (by kernel_rfl) ?_)
    conv => whnf
    intro b4 hb4
    have m4 : bc ≠ b4 := ne_of_none hb hb4
    conv => whnf
    repeat' ((first | (exfalso; first | omega | exact (by assumption : ¬ True) trivial | fail) | refine ⟨Sub.refl _, ?_⟩ | (refine brA_split (fun h => ?_) (fun h => ?_) <;> (try rw [h]) <;> (try simp only [bS, ↓reduceIte] at h)) | (refine ACalls.pure' ?_ (hl); rintro _ rfl) | refine DCall.pure ?_ (hl) | refine getB_same ?_ | refine AWp.anyA ?_ | refine and_a ?_ | fail) <;> (conv => whnf))
    intro b6 hb6
    have n_b4_b6 : b4 ≠ b6 := ne_of_none bxa hb6
    have n_b6_b4 := n_b4_b6.symm
    conv => whnf
    repeat' ((first | (exfalso; first | omega | exact (by assumption : ¬ True) trivial | fail) | refine ⟨Sub.refl _, ?_⟩ | (refine brA_split (fun h => ?_) (fun h => ?_) <;> (try rw [h]) <;> (try simp only [bS, ↓reduceIte] at h)) | refine getB_a ?_ | (refine EqAgg.of grdFail planFail ?_) | refine getB_same ?_ | refine AWp.anyA ?_ | refine and_a ?_ | fail) <;> (conv => whnf))
    · have k6 := ((Sub.refl s).set hb4 _ _).none hb6
      have m6 : bc ≠ b6 := ne_of_none hb k6
      exact ⟨_, Sub.refl _, Stays.of_sub (((((Sub.refl _).set hb4 _ _).set k6 _ _).set k6 _ _).set hb4 _ _), [c], bxa, rfl⟩
    · exfalso; revert h; simp [he0]
  · rw [hx] at hl
    simp only [allA] at hl
    refine ACalls.of_awp Tryz.func17 rfl (Nat.le_of_ble_eq_true (by kernel_rfl)) (awp_ok _ (by kernel_rfl) ?_)
    conv => whnf
    intro b4 hb4
    have m4 : bc ≠ b4 := ne_of_none hb hb4
    conv => whnf
    repeat' ((first | (exfalso; first | omega | exact (by assumption : ¬ True) trivial | fail) | refine ⟨Sub.refl _, ?_⟩ | (refine brA_split (fun h => ?_) (fun h => ?_) <;> (try rw [h]) <;> (try simp only [bS, ↓reduceIte] at h)) | (refine ACalls.pure' ?_ (hl); rintro _ rfl) | refine DCall.pure ?_ (hl) | refine getB_same ?_ | refine AWp.anyA ?_ | refine and_a ?_ | fail) <;> (conv => whnf))
    intro b6 hb6
    have n_b4_b6 : b4 ≠ b6 := ne_of_none bxa hb6
    have n_b6_b4 := n_b4_b6.symm
    conv => whnf
    repeat' ((first | (exfalso; first | omega | exact (by assumption : ¬ True) trivial | fail) | refine ⟨Sub.refl _, ?_⟩ | (refine brA_split (fun h => ?_) (fun h => ?_) <;> (try rw [h]) <;> (try simp only [bS, ↓reduceIte] at h)) | refine getB_a ?_ | (refine EqAgg.of grdFail planFail ?_) | refine getB_same ?_ | refine AWp.anyA ?_ | refine and_a ?_ | fail) <;> (conv => whnf))
    all_goals first | (exfalso; revert h; simp; done) | skip
    have k6 := ((Sub.refl s).set hb4 _ _).none hb6
    have m6 : bc ≠ b6 := ne_of_none hb k6
    intro bl hbl
    have n_b4_bl : b4 ≠ bl := ne_of_none bxa hbl
    have n_bl_b4 := n_b4_bl.symm
    have n_b6_bl : b6 ≠ bl := ne_of_none bxa hbl
    have n_bl_b6 := n_b6_bl.symm
    have n_bc_bl : bc ≠ bl := ne_of_none bxa hbl
    have n_bl_bc := n_bc_bl.symm
    conv => whnf
    repeat' ((first | (exfalso; first | omega | exact (by assumption : ¬ True) trivial | fail) | refine ⟨Sub.refl _, ?_⟩ | (refine brA_split (fun h => ?_) (fun h => ?_) <;> (try rw [h]) <;> (try simp only [bS, ↓reduceIte] at h)) | refine getB_a ?_ | refine getB_same ?_ | refine AWp.anyA ?_ | refine and_a ?_ | fail) <;> (conv => whnf))
    intro bp hbp
    have n_b4_bp : b4 ≠ bp := ne_of_none bxa hbp
    have n_bp_b4 := n_b4_bp.symm
    have n_b6_bp : b6 ≠ bp := ne_of_none bxa hbp
    have n_bp_b6 := n_b6_bp.symm
    have n_bc_bp : bc ≠ bp := ne_of_none bxa hbp
    have n_bp_bc := n_bc_bp.symm
    have n_bl_bp : bl ≠ bp := ne_of_none bxa hbp
    have n_bp_bl := n_bl_bp.symm
    conv => whnf
    repeat' ((first | (exfalso; first | omega | exact (by assumption : ¬ True) trivial | fail) | refine ⟨Sub.refl _, ?_⟩ | (refine brA_split (fun h => ?_) (fun h => ?_) <;> (try rw [h]) <;> (try simp only [bS, ↓reduceIte] at h)) | refine getB_a ?_ | refine getB_same ?_ | refine AWp.anyA ?_ | refine and_a ?_ | fail) <;> (conv => whnf))
    rotate_left
    · rw [hn] at h; cases h
    have hsq : Sub s (((s.set b4 45 [.int .i64 0, .int .i64 0, .int .i64 0]).set b6 45 [.int .i64 0, .int .i64 0, .int .i64 0]).set b6 45 [.int .i64 0, .int .i64 0, .int .i64 0]) := (((Sub.refl _).set hb4 _ _).set k6 _ _).set k6 _ _
    have hq4 : (((s.set b4 45 [.int .i64 0, .int .i64 0, .int .i64 0]).set b6 45 [.int .i64 0, .int .i64 0, .int .i64 0]).set b6 45 [.int .i64 0, .int .i64 0, .int .i64 0]).bx b4 = some (45, [.int .i64 0, .int .i64 0, .int .i64 0]) := bxa
    generalize ((s.set b4 45 [.int .i64 0, .int .i64 0, .int .i64 0]).set b6 45 [.int .i64 0, .int .i64 0, .int .i64 0]).set b6 45 [.int .i64 0, .int .i64 0, .int .i64 0] = sq at *
    have kbp : sq.bx bp = none := ((Sub.refl sq).set hbl _ _).none hbp
    have hP : Pst sq ((sq.set bl 73 [.slice 0 (toksA L), .int .i64 0]).set bp 70 [.ptr (some ⟨bl, 0, none⟩), .slice 1 [], .slice 1 [], .int .i64 0]) bp bl L 0 [] [] 0 :=
      ⟨kbp, hbl, n_bp_bl, ⟨1, 1, set_bx_same, Own.start (((Sub.refl _).set hbl _ _).set kbp _ _) _ _, Own.start (((Sub.refl _).set hbl _ _).set kbp _ _) _ _, fun _ => rfl⟩, (set_bx_other n_bl_bp).trans set_bx_same⟩
    refine ACalls.by (hB L hx _ _ _ _ _ hP (hsq.bx _ _ hb)) ?_
    rintro v s5 ⟨hst, cs', hbc, hv⟩
    have hst2 : Stays (B1 bc) s s5 := (Stays.of_sub hsq).trans hst
    have h54 := hst.bx b4 _ (fun h => m4 (Eq.symm h)) hq4
    rcases hrl : r L with x | c0
    · rw [hrl] at hv
      rw [show runR S r = .error (errF x.1, x.2.1, x.2.2) by unfold runR; rw [hx]; dsimp only; rw [hrl]]
      obtain ⟨kd, tx, rfl⟩ := hv
      conv => whnf
      repeat' ((first | (exfalso; first | omega | exact (by assumption : ¬ True) trivial | fail) | refine ⟨Sub.refl _, ?_⟩ | (refine brA_split (fun h => ?_) (fun h => ?_) <;> (try rw [h]) <;> (try simp only [bS, ↓reduceIte] at h)) | refine getB_same ?_ | refine AWp.anyA ?_ | refine and_a ?_ | fail) <;> (conv => whnf))
      intro b8 hb8
      have k8 := hst2.none1 hbc hb8
      have n_b4_b8 : b4 ≠ b8 := ne_of_none bxa hb8
      have n_b8_b4 := n_b4_b8.symm
      have n_bc_b8 : bc ≠ b8 := ne_of_none bxa hb8
      have n_b8_bc := n_bc_b8.symm
      conv => whnf
      repeat' ((first | (exfalso; first | omega | exact (by assumption : ¬ True) trivial | fail) | refine ⟨Sub.refl _, ?_⟩ | (refine brA_split (fun h => ?_) (fun h => ?_) <;> (try rw [h]) <;> (try simp only [bS, ↓reduceIte] at h)) | refine getB_a ?_ | (refine ACalls.by (AsP.asHit_ok hE _ set_bx_same) ?_; rintro _ _ ⟨rfl, rfl⟩) | (refine ACalls.pure' ?_ (errno_ok (kd, tx, x.2.1, x.2.2) x.1); rintro _ rfl) | refine DCall.pure ?_ (errno_ok (kd, tx, x.2.1, x.2.2) x.1) | refine getB_same ?_ | refine AWp.anyA ?_ | refine and_a ?_ | fail) <;> (conv => whnf))
      exact ⟨_, Sub.refl _, ((hst2.fresh k8 _ _).fresh k8 _ _).fresh hb4 _ _, cs', bxa, rfl⟩
    · rw [hrl] at hv
      rw [show runR S r = .ok c0 by unfold runR; rw [hx]; dsimp only; rw [hrl]]
      obtain ⟨rfl, hv⟩ := hv
      conv => whnf
      repeat' ((first | (exfalso; first | omega | exact (by assumption : ¬ True) trivial | fail) | refine ⟨Sub.refl _, ?_⟩ | (refine brA_split (fun h => ?_) (fun h => ?_) <;> (try rw [h]) <;> (try simp only [bS, ↓reduceIte] at h)) | refine getB_same ?_ | refine AWp.anyA ?_ | refine and_a ?_ | fail) <;> (conv => whnf))
      intro b8 hb8
      have k8 := hst2.none1 hbc hb8
      have n_b4_b8 : b4 ≠ b8 := ne_of_none bxa hb8
      have n_b8_b4 := n_b4_b8.symm
      have n_bc_b8 : bc ≠ b8 := ne_of_none bxa hb8
      have n_b8_bc := n_bc_b8.symm
      conv => whnf
      repeat' ((first | (exfalso; first | omega | exact (by assumption : ¬ True) trivial | fail) | refine ⟨Sub.refl _, ?_⟩ | (refine brA_split (fun h => ?_) (fun h => ?_) <;> (try rw [h]) <;> (try simp only [bS, ↓reduceIte] at h)) | refine getB_a ?_ | (refine ACalls.pure' ?_ (AsP.asNil_ok _); rintro _ rfl) | refine DCall.pure ?_ (AsP.asNil_ok _) | refine getB_same ?_ | refine AWp.anyA ?_ | refine and_a ?_ | fail) <;> (conv => whnf))
      exact ⟨_, Sub.refl _, (hst2.fresh k8 _ _).fresh hb4 _ _, cs', bxa, rfl, hv⟩
def exprA : Res (List Ex) → AV
  | .ok o => .tuple [.slice 0 (exsA o), .agg [.int .i64 0, .int .i64 0, .int .i64 0]]
  | .error (e, a, b) => .tuple [.slice 0 [], .agg [.int .i64 e, .int .i64 a, .int .i64 b]]
theorem errF_ne (e : Int) : errF e ≠ 0 := by unfold errF; split; · decide
                                             · split <;> decide
theorem allT_err {S : List UInt8} {e a b : Int} (h : allT S = .error (e, a, b)) : e ≠ 0 := by
  unfold allT at h
  split at h
  · cases h; decide
  · exact lexF_err _ _ _ _ _ _ h
theorem runR_err {α : Type} {S : List UInt8} {r : List Tok → Res α} {e a b : Int} (h : runR S r = .error (e, a, b)) : e ≠ 0 := by
  unfold runR at h
  split at h
  · rename_i x hx
    injection h with h
    subst h
    exact allT_err hx
  · split at h
    · injection h with h
      simp only [Prod.mk.injEq] at h
      rw [← h.1]
      exact errF_ne _
    · cases h
theorem expr_top (hQ : Qu.Tabs Γ) (hW : Sc.Wds Γ) (hO : AsO.ErrT Γ) (hE : AsP.ErrT Γ) (hR : Nu.ErrR Γ) (S : List UInt8) (hS : S.length ≤ 65536) (hT : ∀ L, allT S = .ok L → ∀ i, (peekF L i).2.1.length ≤ 5000) :
    APure Tryz.prog Γ 9 [.str S] fun v => v = exprA (runR S exprR) := by
  have hlen : ∀ L, allT S = .ok L → L.length ≤ 90000 := fun L hL => by
    unfold allT at hL
    split at hL
    · cases hL
    · have := lexF_len _ _ _ _ hL; omega
  have hrun := fun {s : Sto} {bc : Nat} {c : AV} (hb : s.bx bc = some (22, [c])) => run_ok (Γ := Γ) ExprK hQ hW hO hE (n := 18) (by kernel_rfl) S (by omega) exprR (fun L hL => exprBody_ok hR (hlen L hL) (hT L hL) bc) hb
  refine APure.fgt fun s => ?_
  refine ACalls.of_awp Tryz.func9 rfl (Nat.le_of_ble_eq_true (by kernel_rfl)) (awp_ok _ (by kernel_rfl) ?_)
  conv => whnf
  intro b3 hb3
  conv => whnf
  intro b4 hb4
  have n_b3_b4 : b3 ≠ b4 := ne_of_none bxa hb4
  have n_b4_b3 := n_b3_b4.symm
  conv => whnf
  have k4 := ((Sub.refl s).set hb3 45 [.int .i64 0, .int .i64 0, .int .i64 0]).none hb4
  repeat' ((first | (exfalso; first | omega | exact (by assumption : ¬ True) trivial | fail) | refine ⟨Sub.refl _, ?_⟩ | (refine brA_split (fun h => ?_) (fun h => ?_) <;> (try rw [h]) <;> (try simp only [bS, ↓reduceIte] at h)) | (refine ACalls.by (hrun set_bx_same) ?_; rintro v s1 ⟨hst, cs, hbc, hv⟩) | refine getB_same ?_ | refine AWp.anyA ?_ | refine and_a ?_ | fail) <;> (conv => whnf))
  have h13 := hst.bx b3 _ (fun h => n_b3_b4 h) bxa
  have hb41 : ∀ s0, Sub s0 s → s0.bx b4 = none → s0.bx b3 = none → Sub s0 s1 := fun s0 h1 h2 h3 => hst.sub s0 ((h1.set h3 _ _).set h2 _ _) (fun c hc => by rw [show c = b4 from hc]; exact h2)
  rcases hr : runR S exprR with ⟨e, a, b⟩ | o
  · rw [hr] at hv
    have he0 := runR_err hr
    replace hv : v = .agg [.int .i64 e, .int .i64 a, .int .i64 b] := hv
    subst hv
    conv => whnf
    repeat' ((first | (exfalso; first | omega | exact (by assumption : ¬ True) trivial | fail) | refine ⟨Sub.refl _, ?_⟩ | (refine brA_split (fun h => ?_) (fun h => ?_) <;> (try rw [h]) <;> (try simp only [bS, ↓reduceIte] at h)) | refine getB_same ?_ | refine AWp.anyA ?_ | refine and_a ?_ | fail) <;> (conv => whnf))
    intro b5 hb5
    have k5 : s.bx b5 = none := ((Sub.refl s).set hb3 _ _ |>.set k4 _ _).none (hst.none1 hbc hb5)
    have n_b3_b5 : b3 ≠ b5 := ne_of_none bxa hb5
    have n_b5_b3 := n_b3_b5.symm
    have n_b4_b5 : b4 ≠ b5 := ne_of_none bxa hb5
    have n_b5_b4 := n_b4_b5.symm
    conv => whnf
    repeat' ((first | (exfalso; first | omega | exact (by assumption : ¬ True) trivial | fail) | refine ⟨Sub.refl _, ?_⟩ | (refine brA_split (fun h => ?_) (fun h => ?_) <;> (try rw [h]) <;> (try simp only [bS, ↓reduceIte] at h)) | refine getB_a ?_ | (refine EqAgg.of grdFail planFail ?_) | refine getB_same ?_ | refine AWp.anyA ?_ | refine and_a ?_ | fail) <;> (conv => whnf))
    · exact ⟨_, Sub.refl _, rfl, (((hb41 s (Sub.refl _) k4 hb3).set k5 _ _).set k5 _ _).set hb3 _ _⟩
    · exfalso; revert h; simp [he0]
  · rw [hr] at hv
    obtain ⟨rfl, t5, rfl⟩ := hv
    conv => whnf
    repeat' ((first | (exfalso; first | omega | exact (by assumption : ¬ True) trivial | fail) | refine ⟨Sub.refl _, ?_⟩ | (refine brA_split (fun h => ?_) (fun h => ?_) <;> (try rw [h]) <;> (try simp only [bS, ↓reduceIte] at h)) | refine getB_same ?_ | refine AWp.anyA ?_ | refine and_a ?_ | fail) <;> (conv => whnf))
    intro b5 hb5
    have k5 : s.bx b5 = none := ((Sub.refl s).set hb3 _ _ |>.set k4 _ _).none (hst.none1 hbc hb5)
    have n_b3_b5 : b3 ≠ b5 := ne_of_none bxa hb5
    have n_b5_b3 := n_b3_b5.symm
    have n_b4_b5 : b4 ≠ b5 := ne_of_none bxa hb5
    have n_b5_b4 := n_b4_b5.symm
    conv => whnf
    repeat' ((first | (exfalso; first | omega | exact (by assumption : ¬ True) trivial | fail) | refine ⟨Sub.refl _, ?_⟩ | (refine brA_split (fun h => ?_) (fun h => ?_) <;> (try rw [h]) <;> (try simp only [bS, ↓reduceIte] at h)) | refine getB_a ?_ | (refine EqAgg.of grdFail planFail ?_) | refine getB_same ?_ | refine AWp.anyA ?_ | refine and_a ?_ | fail) <;> (conv => whnf))
    all_goals first | (exfalso; revert h; simp; done) | skip
    exact ⟨_, Sub.refl _, by simp only [tupA, fg, fgL, fgE_exs, exprA], (((hb41 s (Sub.refl _) k4 hb3).set k5 _ _).set k5 _ _).set hb3 _ _⟩
end Go.Proofs.YtdhgappjicpglaaGreatDoor.Pa
namespace Go.Proofs.YtdhgappjicpglaaGreatDoor.Pa
open Go Go.Ab Go.RowKit Go.Proofs.YtdhgappjicpglaaGreatDoor.Lx
set_option maxRecDepth 10000
set_option maxHeartbeats 1000000
def exAt (o : List Ex) (i : Nat) : Ex := o.getD i ex0
def dAt (d : List Int) (i : Nat) : Int := d.getD i 0
theorem dAt_left {o l : List Int} {i : Nat} (h : i < o.length) : dAt (o ++ l) i = dAt o i := by simp [dAt, List.getD, List.getElem?_append_left h]
theorem dAt_right {o l : List Int} {i : Nat} (h : o.length ≤ i) : dAt (o ++ l) i = dAt l (i - o.length) := by simp [dAt, List.getD, List.getElem?_append_right h]
theorem deepF_one {d : List Int} {a : Nat} (h : 1 ≤ dAt d a ∧ dAt d a ≤ 64) : deepF d [(a : Int)] 1 = dAt d a + 1 := by
  show (if IntKind.i64.wrap (d.getD ((a : Int)).toNat 0 + 1) > 1 then IntKind.i64.wrap (d.getD ((a : Int)).toNat 0 + 1) else 1) = _
  have e : IntKind.i64.wrap (d.getD ((a : Int)).toNat 0 + 1) = dAt d a + 1 := i64_of rfl (by unfold dAt at *; omega) (by unfold dAt at *; omega)
  rw [e, if_pos (by omega)]
theorem deepF_two {d : List Int} {a b : Nat} (h : 1 ≤ dAt d a ∧ dAt d a ≤ 64) (k : 1 ≤ dAt d b ∧ dAt d b ≤ 64) : deepF d [(a : Int), (b : Int)] 1 = (if dAt d b > dAt d a then dAt d b else dAt d a) + 1 := by
  have e : ∀ a : Nat, (1 ≤ dAt d a ∧ dAt d a ≤ 64) → IntKind.i64.wrap (d.getD ((a : Int)).toNat 0 + 1) = dAt d a + 1 := fun a h => i64_of rfl (by unfold dAt at *; omega) (by unfold dAt at *; omega)
  simp only [deepF]
  rw [e a h, e b k]
  rw [if_pos (show dAt d a + 1 > 1 by omega)]
  split <;> split <;> omega
end Go.Proofs.YtdhgappjicpglaaGreatDoor.Pa
namespace Go.Proofs.YtdhgappjicpglaaGreatDoor.Pa
open Go Go.Ab Go.RowKit Go.Proofs.YtdhgappjicpglaaGreatDoor.Lx
set_option maxRecDepth 10000
set_option maxHeartbeats 1000000
def pr (t : Tok) : Int × List UInt8 := (t.1, t.2.1)
/-- The tokens from a place on, without their places. -/
def Tk (L : List Tok) (a : Nat) : List (Int × List UInt8) := (L.drop a).map pr
def Line1 (L : List Tok) : Prop := ∀ i, i < L.length → (L.getD i noTok).2.2.1 = 1
theorem Tk_cons {L : List Tok} {a : Nat} {x : Int × List UInt8} {r : List (Int × List UInt8)} (h : Tk L a = x :: r) : a < L.length ∧ pr (L.getD a noTok) = x ∧ Tk L (a + 1) = r := by
  unfold Tk at *
  have ha : a < L.length := by
    rcases Nat.lt_or_ge a L.length with hh | hh
    · exact hh
    · rw [List.drop_of_length_le hh] at h; cases h
  rw [List.drop_eq_getElem_cons ha, List.map_cons] at h
  injection h with h1 h2
  exact ⟨ha, by rw [List.getD_eq_getElem?_getD, List.getElem?_eq_getElem ha]; exact h1, h2⟩
theorem Tk_nil {L : List Tok} {a : Nat} (h : Tk L a = []) : L.length ≤ a := by
  unfold Tk at h
  have := congrArg List.length h
  simp at this
  omega
theorem peek_at {L : List Tok} {a : Nat} {x : Int × List UInt8} {r : List (Int × List UInt8)} (hl : Line1 L) (h : Tk L a = x :: r) : (peekF L a).1 = x.1 ∧ (peekF L a).2.1 = x.2 ∧ (peekF L a).2.2.1 = 1 := by
  obtain ⟨h1, h2, _⟩ := Tk_cons h
  unfold peekF
  rw [if_pos h1]
  exact ⟨congrArg Prod.fst h2, congrArg Prod.snd h2, hl a h1⟩
theorem isF_at {L : List Tok} {a : Nat} {x : Int × List UInt8} {r : List (Int × List UInt8)} (hl : Line1 L) (h : Tk L a = x :: r) (w : List UInt8) : isF L a w = ((decide (x.1 = 2) || decide (x.1 = 5)) && decide (x.2 = w)) := by
  obtain ⟨h1, h2, _⟩ := peek_at hl h
  unfold isF signK
  rw [h1, h2]
theorem nextF_at {L : List Tok} {a : Nat} {x : Int × List UInt8} {r : List (Int × List UInt8)} (hl : Line1 L) (h : Tk L a = x :: r) (m : List (List UInt8 × Int)) : nextF L a m = if (decide (x.1 = 2) || decide (x.1 = 5)) = true then mapA x.2 m else 0 := by
  obtain ⟨h1, h2, _⟩ := peek_at hl h
  unfold nextF signK
  rw [h1, h2]
theorem nextF_end {L : List Tok} {a : Nat} (h : Tk L a = []) (m : List (List UInt8 × Int)) : nextF L a m = 0 := by
  have := Tk_nil h
  cases hn : decide (nextF L a m = 0)
  · exact absurd (nextF_lt (of_decide_eq_false hn)) (by omega)
  · exact of_decide_eq_true hn
end Go.Proofs.YtdhgappjicpglaaGreatDoor.Pa
namespace Go.Proofs.YtdhgappjicpglaaGreatDoor.Pa
open Go Go.Ab Go.RowKit Go.Proofs.YtdhgappjicpglaaGreatDoor.Lx
set_option maxRecDepth 10000
set_option maxHeartbeats 1000000
variable {L : List Tok} {R : List (Int × List UInt8)}
theorem notF_other {f : Nat} {st : St} (hl : Line1 L) {x : Int × List UInt8} {r : List (Int × List UInt8)} (h : Tk L st.a = x :: r) (hx : x ≠ (2, [110, 111, 116]) ∧ x ≠ (5, [110, 111, 116])) : ev L (f + 1) 2 st = ev L f 3 st := by
  show (if isF L st.a [110, 111, 116] = true then beforeF L 4 (ev L f 2) st else ev L f 3 st) = _
  rw [if_neg]
  rw [isF_at hl h]
  intro hh
  simp only [Bool.and_eq_true, Bool.or_eq_true, decide_eq_true_eq] at hh
  obtain ⟨h1 | h1, h2⟩ := hh
  · exact hx.1 (Prod.ext h1 h2)
  · exact hx.2 (Prod.ext h1 h2)
end Go.Proofs.YtdhgappjicpglaaGreatDoor.Pa
namespace Go.Proofs.YtdhgappjicpglaaGreatDoor.Pa
open Go Go.Ab Go.RowKit Go.Proofs.YtdhgappjicpglaaGreatDoor.Lx
set_option maxRecDepth 10000
set_option maxHeartbeats 4000000
theorem digB_isD (c : UInt8) : digB c = Nu.isD c := by
  unfold digB digitc Nu.isD
  by_cases h1 : 48 ≤ c.toNat <;> by_cases h2 : c.toNat ≤ 57 <;> simp [h1, h2] <;> omega
/-- What a token is. -/
def TokOk (t : Tok) : Prop := t.2.1.length ≤ 5000 ∧ (t.1 = 3 → 0 < t.2.1.length ∧ t.2.1.all Nu.isD = true ∧ ¬ (byteAt t.2.1 0 = 48 ∧ 1 < t.2.1.length))
theorem sign_len (l : List UInt8) : (signOf l).length ≤ 5000 := by
  rcases signF_spec signsL l with h | ⟨h, _⟩
  · unfold signOf; rw [h]; decide
  · have := (by decide : ∀ x ∈ signsL, x.length ≤ 5000)
    exact this _ h
theorem letters_tok {l : List UInt8} {k : Int} {t : List UInt8} (h : lettersF l = .ok (k, t)) (a b : Int) : TokOk (k, t, a, b) := by
  unfold lettersF at h
  split at h
  · rename_i hd
    split at h
    · rename_i hn
      cases h
      unfold numE at hn
      split at hn
      · cases hn
      · rename_i hb
        split at hn
        · cases hn
        · rename_i h32
          refine ⟨by show l.length ≤ 5000; omega, fun _ => ⟨?_, ?_, fun hh => hb (.inr hh)⟩⟩
          · cases l with
            | nil => exact absurd hd (by decide)
            | cons c r => exact Nat.succ_pos _
          · have ha : l.all digB = true := by
              cases hx : l.all digB
              · exact absurd (.inl hx) hb
              · rfl
            show l.all Nu.isD = true
            rw [← ha]
            exact congrArg l.all (funext fun c => (digB_isD c).symm)
    · cases h
  · split at h
    · cases h
    · rename_i h32
      split at h
      · cases h
        exact ⟨by show l.length ≤ 5000; omega, fun h => by cases h⟩
      · cases h
        exact ⟨by show l.length ≤ 5000; omega, fun h => by cases h⟩
theorem first_tok {l : List UInt8} {k : Int} {t : List UInt8} {n : Nat} (h : firstF l = .ok (k, t, n)) (a b : Int) : TokOk (k, t, a, b) := by
  unfold firstF at h
  split at h
  · split at h
    · cases h
    · split at h
      · cases h
      · cases h
        exact ⟨by show t.length ≤ 5000; omega, fun h => by cases h⟩
  · split at h
    · split at h
      · cases h
      · cases h
        exact ⟨sign_len l, fun h => by cases h⟩
    · split at h
      · cases h
      · rename_i hl
        cases h
        exact letters_tok hl a b
theorem lexF_toks : ∀ (k : Nat) (p : Int × Int) (l : List UInt8) (m : List Tok), lexF k p l = .ok m → ∀ t ∈ m, TokOk t
  | 0, p, l, m => fun h => by cases h; exact fun _ h => nomatch h
  | k + 1, p, l, m => fun h => by
    by_cases hl : l.drop (blankN l) = []
    · rw [lexF_end hl] at h; cases h; exact fun _ h => nomatch h
    · rcases he : firstF (l.drop (blankN l)) with e' | ⟨kd, t, z⟩
      · rw [lexF_bad hl he] at h; cases h
      · rw [lexF_ok hl he] at h
        rcases hr : lexF k ((placeF p (l.take (blankN l))).1, (placeF p (l.take (blankN l))).2 + z) ((l.drop (blankN l)).drop z) with ⟨e', a', b'⟩ | m'
        · rw [hr] at h; cases h
        · rw [hr] at h
          have := lexF_toks k _ _ _ hr
          cases h
          intro x hx
          rcases List.mem_cons.1 hx with rfl | hx
          · exact first_tok he _ _
          · exact this x hx
theorem allT_toks {S : List UInt8} {L : List Tok} (h : allT S = .ok L) : ∀ i, TokOk (L.getD i noTok) := fun i => by
  unfold allT at h
  split at h
  · cases h
  · by_cases hi : i < L.length
    · exact lexF_toks _ _ _ _ h _ (by rw [List.getD_eq_getElem?_getD, List.getElem?_eq_getElem hi]; exact List.getElem_mem hi)
    · rw [List.getD_eq_getElem?_getD, List.getElem?_eq_none (by omega)]
      exact ⟨Nat.zero_le _, fun h => by cases h⟩
theorem allT_text {S : List UInt8} {L : List Tok} (h : allT S = .ok L) : ∀ i, (peekF L i).2.1.length ≤ 5000 := fun i => by
  unfold peekF
  split
  · exact (allT_toks h i).1
  · split <;> exact Nat.zero_le _
end Go.Proofs.YtdhgappjicpglaaGreatDoor.Pa
namespace Go.Proofs.YtdhgappjicpglaaGreatDoor.Pa
open Go Go.Ab Go.RowKit Go.Proofs.YtdhgappjicpglaaGreatDoor.Lx
set_option maxRecDepth 10000
set_option maxHeartbeats 1000000
/-- A text's tokens, all in the first line. -/
def LexTo (S : List UInt8) (T : List (Int × List UInt8)) : Prop :=
  ∀ (k : Nat) (p : Int × Int), p.1 = 1 → S.length < k → ∃ L, lexF k p S = .ok L ∧ L.map pr = T ∧ ∀ t ∈ L, t.2.2.1 = 1
theorem lexTo_nil : LexTo [] [] := fun k p _ hk => by
  cases k with
  | zero => cases hk
  | succ k => exact ⟨[], lexF_end rfl, rfl, fun _ h => nomatch h⟩
theorem lexTo_step {S : List UInt8} {kd : Int} {tx : List UInt8} {z : Nat} {T : List (Int × List UInt8)} (hb : blankN S = 0) (hne : S ≠ []) (hf : firstF S = .ok (kd, tx, z)) (h : LexTo (S.drop z) T) : LexTo S ((kd, tx) :: T) := fun k p hp hk => by
  cases k with
  | zero => cases hk
  | succ k =>
    have hz := first_bound hf hne
    have hf' : firstF (S.drop (blankN S)) = .ok (kd, tx, z) := by rw [hb, List.drop_zero]; exact hf
    rw [lexF_ok (by rw [hb]; exact hne) hf']
    rw [hb, List.take_zero, List.drop_zero]
    have hpl : placeF p [] = p := by cases p; rfl
    rw [hpl]
    obtain ⟨L, h1, h2, h3⟩ := h k (p.1, p.2 + z) hp (by rw [List.length_drop]; omega)
    rw [h1]
    refine ⟨(kd, tx, p) :: L, rfl, by rw [List.map_cons, h2]; rfl, fun t ht => ?_⟩
    rcases List.mem_cons.1 ht with rfl | ht
    · exact hp
    · exact h3 t ht
theorem lexTo_blank {S : List UInt8} {T : List (Int × List UInt8)} (h : LexTo S T) : LexTo (32 :: S) T := fun k p hp hk => by
  obtain ⟨a, b⟩ := p
  simp only [List.length_cons] at hk
  obtain ⟨L, h1, h2, h3⟩ := h k (a, b + 1) hp (by omega)
  refine ⟨L, ?_, h2, h3⟩
  rw [← h1]
  cases k with
  | zero => omega
  | succ k =>
    have hbn : blankN (32 :: S) = blankN S + 1 := by unfold blankN; rw [blankF]; rfl
    have e1 : (32 :: S).drop (blankN (32 :: S)) = S.drop (blankN S) := by rw [hbn]; rfl
    have e2 : placeF (a, b) ((32 :: S).take (blankN (32 :: S))) = placeF (a, b + 1) (S.take (blankN S)) := by rw [hbn]; rfl
    unfold lexF
    rw [e1, e2]
theorem blank_zero {c : UInt8} {r : List UInt8} (h1 : blankc c.toNat = false) (h2 : c ≠ 35) : blankN (c :: r) = 0 := by
  unfold blankN
  rw [blankF]
  simp [h1, h2]
theorem lexTo_not {r : List UInt8} {T : List (Int × List UInt8)} (h : LexTo r T) : LexTo (110 :: 111 :: 116 :: 32 :: r) ((2, [110, 111, 116]) :: T) := by
  refine lexTo_step (z := 3) (blank_zero (by decide) (by decide)) (by simp) ?_ (lexTo_blank h)
  have h1 : letN (110 :: 111 :: 116 :: 32 :: r) = 3 := by
    rw [letN, if_pos (by decide), letN, if_pos (by decide), letN, if_pos (by decide), letN, if_neg (by decide)]
  unfold firstF
  rw [if_neg (by show ¬ (110 : UInt8) = 34; decide), h1, if_neg (by decide)]
  rw [show (110 :: 111 :: 116 :: 32 :: r).take 3 = [110, 111, 116] from rfl, show lettersF [110, 111, 116] = .ok (2, [110, 111, 116]) by kernel_rfl]
theorem pfx_no {x y c : UInt8} {r : List UInt8} (h : x ≠ c) : pfx [x, y] (c :: r) = false := by
  unfold pfx
  rw [Bool.and_eq_false_iff]
  right
  rw [decide_eq_false_iff_not]
  intro hh
  rw [show [x, y].length = 2 from rfl, List.take_succ_cons] at hh
  injection hh with h1 _
  exact h h1.symm
theorem pfx_one {x c : UInt8} {r : List UInt8} : pfx [x] (c :: r) = decide (c = x) := by
  unfold pfx
  simp
theorem sign_40 {r : List UInt8} : signOf (40 :: r) = [40] := by
  unfold signOf signsL
  simp [signF, pfx_no, pfx_one]
theorem sign_41 {r : List UInt8} : signOf (41 :: r) = [41] := by
  unfold signOf signsL
  simp [signF, pfx_no, pfx_one]
theorem lexTo_sign {c : UInt8} {r : List UInt8} {T : List (Int × List UInt8)} (h1 : blankc c.toNat = false) (h2 : c ≠ 35) (h3 : c ≠ 34) (h4 : Sc.wordc c.toNat = false) (hs : signOf (c :: r) = [c]) (h : LexTo r T) : LexTo (c :: r) ((5, [c]) :: T) := by
  refine lexTo_step (z := 1) (blank_zero h1 h2) (by simp) ?_ h
  unfold firstF
  rw [if_neg (by show ¬ c = 34; exact h3), if_pos (by rw [letN, if_neg (by rw [h4]; decide)]), hs, if_neg (by simp)]
  rfl
theorem line_of {L : List Tok} (h : ∀ t ∈ L, t.2.2.1 = 1) : Line1 L := fun i hi => by
  rw [List.getD_eq_getElem?_getD, List.getElem?_eq_getElem hi]
  exact h _ (List.getElem_mem hi)
theorem lex_all {S : List UInt8} {T : List (Int × List UInt8)} (h : LexTo S T) (hS : S.length ≤ 65536) : ∃ L, allT S = .ok L ∧ Tk L 0 = T ∧ Line1 L ∧ L.length = T.length := by
  obtain ⟨L, h1, h2, h3⟩ := h (S.length + 1) (1, 1) rfl (by omega)
  refine ⟨L, ?_, h2, line_of h3, ?_⟩
  · unfold allT
    rw [if_neg (by omega)]
    exact h1
  · rw [← h2, List.length_map]
end Go.Proofs.YtdhgappjicpglaaGreatDoor.Pa
namespace Go.Proofs.YtdhgappjicpglaaGreatDoor.Pr
open Go Go.Ab Go.RowKit Go.Proofs.YtdhgappjicpglaaGreatDoor.Lx Go.Proofs.YtdhgappjicpglaaGreatDoor.Pa
set_option maxRecDepth 10000
set_option maxHeartbeats 1000000
/-- Nothing is asked of the tokens' lines. -/
def Line1 (_ : List Tok) : Prop := True
theorem peek_at {L : List Tok} {a : Nat} {x : Int × List UInt8} {r : List (Int × List UInt8)} (_ : Line1 L) (h : Tk L a = x :: r) : (peekF L a).1 = x.1 ∧ (peekF L a).2.1 = x.2 ∧ True := by
  obtain ⟨h1, h2, _⟩ := Tk_cons h
  unfold peekF
  rw [if_pos h1]
  exact ⟨congrArg Prod.fst h2, congrArg Prod.snd h2, trivial⟩
theorem isF_at {L : List Tok} {a : Nat} {x : Int × List UInt8} {r : List (Int × List UInt8)} (hl : Line1 L) (h : Tk L a = x :: r) (w : List UInt8) : isF L a w = ((decide (x.1 = 2) || decide (x.1 = 5)) && decide (x.2 = w)) := by
  obtain ⟨h1, h2, _⟩ := peek_at hl h
  unfold isF signK
  rw [h1, h2]
theorem nextF_at {L : List Tok} {a : Nat} {x : Int × List UInt8} {r : List (Int × List UInt8)} (hl : Line1 L) (h : Tk L a = x :: r) (m : List (List UInt8 × Int)) : nextF L a m = if (decide (x.1 = 2) || decide (x.1 = 5)) = true then mapA x.2 m else 0 := by
  obtain ⟨h1, h2, _⟩ := peek_at hl h
  unfold nextF signK
  rw [h1, h2]
theorem notF_other {L : List Tok} {f : Nat} {st : St} (hl : Line1 L) {x : Int × List UInt8} {r : List (Int × List UInt8)} (h : Tk L st.a = x :: r) (hx : x ≠ (2, [110, 111, 116]) ∧ x ≠ (5, [110, 111, 116])) : ev L (f + 1) 2 st = ev L f 3 st := by
  show (if isF L st.a [110, 111, 116] = true then beforeF L 4 (ev L f 2) st else ev L f 3 st) = _
  rw [isF_at hl h, if_neg]
  intro hh
  rw [Bool.and_eq_true, Bool.or_eq_true, decide_eq_true_eq, decide_eq_true_eq, decide_eq_true_eq] at hh
  obtain ⟨x1, x2⟩ := x
  simp only at hh
  obtain ⟨h1, h2⟩ := hh
  subst h2
  rcases h1 with h1 | h1
  · exact hx.1 (by rw [h1])
  · exact hx.2 (by rw [h1])
/-- A text's tokens. -/
def LexTo (S : List UInt8) (T : List (Int × List UInt8)) : Prop :=
  ∀ (k : Nat) (p : Int × Int), S.length < k → ∃ L, lexF k p S = .ok L ∧ L.map pr = T
theorem lexTo_nil : LexTo [] [] := fun k p hk => by
  cases k with
  | zero => cases hk
  | succ k => exact ⟨[], lexF_end rfl, rfl⟩
theorem lexTo_step {S : List UInt8} {kd : Int} {tx : List UInt8} {z : Nat} {T : List (Int × List UInt8)} (hb : blankN S = 0) (hne : S ≠ []) (hf : firstF S = .ok (kd, tx, z)) (h : LexTo (S.drop z) T) : LexTo S ((kd, tx) :: T) := fun k p hk => by
  cases k with
  | zero => cases hk
  | succ k =>
    have hz := first_bound hf hne
    have hf' : firstF (S.drop (blankN S)) = .ok (kd, tx, z) := by rw [hb, List.drop_zero]; exact hf
    rw [lexF_ok (by rw [hb]; exact hne) hf']
    rw [hb, List.drop_zero]
    obtain ⟨L, h1, h2⟩ := h k ((placeF p (List.take 0 S)).1, (placeF p (List.take 0 S)).2 + z) (by rw [List.length_drop]; omega)
    rw [h1]
    exact ⟨_, rfl, by show (kd, tx) :: L.map pr = _; rw [h2]⟩
theorem lexTo_skip {c : UInt8} (hc : c = 32 ∨ c = 10) {S : List UInt8} {T : List (Int × List UInt8)} (h : LexTo S T) : LexTo (c :: S) T := fun k p hk => by
  simp only [List.length_cons] at hk
  obtain ⟨L, h1, h2⟩ := h k (placeF p [c]) (by omega)
  refine ⟨L, ?_, h2⟩
  rw [← h1]
  cases k with
  | zero => omega
  | succ k =>
    have hbn : blankN (c :: S) = blankN S + 1 := by rcases hc with rfl | rfl <;> (unfold blankN; rw [blankF]; rfl)
    have e1 : (c :: S).drop (blankN (c :: S)) = S.drop (blankN S) := by rw [hbn]; rfl
    have e2 : placeF p ((c :: S).take (blankN (c :: S))) = placeF (placeF p [c]) (S.take (blankN S)) := by rw [hbn]; rfl
    unfold lexF
    rw [e1, e2]
theorem lexTo_blank {S : List UInt8} {T : List (Int × List UInt8)} (h : LexTo S T) : LexTo (32 :: S) T := lexTo_skip (.inl rfl) h
theorem lexTo_not {r : List UInt8} {T : List (Int × List UInt8)} (h : LexTo r T) : LexTo (110 :: 111 :: 116 :: 32 :: r) ((2, [110, 111, 116]) :: T) := by
  refine lexTo_step (z := 3) (blank_zero (by decide) (by decide)) (by simp) ?_ (lexTo_blank h)
  have h1 : letN (110 :: 111 :: 116 :: 32 :: r) = 3 := by
    rw [letN, if_pos (by decide), letN, if_pos (by decide), letN, if_pos (by decide), letN, if_neg (by decide)]
  unfold firstF
  rw [if_neg (by show ¬ (110 : UInt8) = 34; decide), h1, if_neg (by decide)]
  rw [show (110 :: 111 :: 116 :: 32 :: r).take 3 = [110, 111, 116] from rfl, show lettersF [110, 111, 116] = .ok (2, [110, 111, 116]) by kernel_rfl]
theorem lexTo_sign {c : UInt8} {r : List UInt8} {T : List (Int × List UInt8)} (h1 : blankc c.toNat = false) (h2 : c ≠ 35) (h3 : c ≠ 34) (h4 : Sc.wordc c.toNat = false) (hs : signOf (c :: r) = [c]) (h : LexTo r T) : LexTo (c :: r) ((5, [c]) :: T) := by
  refine lexTo_step (z := 1) (blank_zero h1 h2) (by simp) ?_ h
  unfold firstF
  rw [if_neg (by show ¬ c = 34; exact h3), if_pos (by rw [letN, if_neg (by rw [h4]; decide)]), hs, if_neg (by simp)]
  rfl
theorem lex_all {S : List UInt8} {T : List (Int × List UInt8)} (h : LexTo S T) (hS : S.length ≤ 65536) : ∃ L, allT S = .ok L ∧ Tk L 0 = T ∧ Line1 L ∧ L.length = T.length := by
  obtain ⟨L, h1, h2⟩ := h (S.length + 1) (1, 1) (by omega)
  refine ⟨L, ?_, h2, trivial, ?_⟩
  · unfold allT
    rw [if_neg (by omega)]
    exact h1
  · rw [← h2, List.length_map]
end Go.Proofs.YtdhgappjicpglaaGreatDoor.Pr
namespace Go.Proofs.YtdhgappjicpglaaGreatDoor.Pr
open Go Go.Ab Go.RowKit Go.Proofs.YtdhgappjicpglaaGreatDoor.Lx Go.Proofs.YtdhgappjicpglaaGreatDoor.Pa
set_option maxRecDepth 10000
set_option maxHeartbeats 1000000
/-- An expression: a value, a name, one operand, two, one in brackets. -/
inductive Xt where
  | con (v : Int × Int × List UInt8 × Bool)
  | nam (s : List UInt8)
  | una (op : Int) (x : Xt)
  | bin (op : Int) (x y : Xt)
  | par (x : Xt)
/-- How strongly an operator holds together. -/
def lvl (op : Int) : Nat :=
  if op = 7 then 1 else if op = 6 then 2 else if op = 4 then 3 else if 13 ≤ op ∧ op ≤ 16 then 4 else if op = 8 ∨ op = 9 then 5 else if 10 ≤ op ∧ op ≤ 12 then 6 else if op = 5 then 7 else 8
def signT : List (List UInt8) := [[97, 110, 100], [111, 114], [43], [45], [42], [47], [37], [61, 61], [33, 61], [60], [60, 61]]
def signW (op : Int) : List UInt8 := signT.getD (op - 6).toNat []
/-- An operator's token. -/
def opT (op : Int) : Int × List UInt8 := (if op = 6 ∨ op = 7 then 2 else 5, signW op)
/-- A value's tokens. -/
def valT (v : Int × Int × List UInt8 × Bool) : List (Int × List UInt8) :=
  if v.1 = 1 then (if v.2.1 < 0 then [(5, [45]), (3, Lib.itoa (-v.2.1))] else [(3, Lib.itoa v.2.1)])
  else if v.1 = 2 then [(4, v.2.2.1)] else [(2, if v.2.2.2 = true then [116, 114, 117, 101] else [102, 97, 108, 115, 101])]
namespace Xt
def lev : Xt → Nat
  | con _ => 8
  | nam _ => 8
  | una op _ => lvl op
  | bin op _ _ => lvl op
  | par _ => 8
def toks : Xt → List (Int × List UInt8)
  | con v => valT v
  | nam s => [(1, s)]
  | una op x => (if op = 4 then (2, [110, 111, 116]) else (5, [45])) :: toks x
  | bin op x y => toks x ++ opT op :: toks y
  | par x => (5, [40]) :: (toks x ++ [(5, [41])])
/-- A node's operator, what it is for, name and value. -/
abbrev Core := Int × Int × Int × List UInt8 × (Int × Int × List UInt8 × Bool)
def none : Int × Int × List UInt8 × Bool := (0, 0, [], false)
/-- How many nodes it has. -/
def cnt : Xt → Nat
  | con _ => 1
  | nam _ => 1
  | una _ x => cnt x + 1
  | bin _ x y => cnt x + cnt y + 1
  | par x => cnt x
/-- Its nodes, behind n others. -/
def cores : Xt → Nat → List Core
  | con v, _ => [(1, 0, 0, [], v)]
  | nam s, _ => [(17, 0, 0, s, none)]
  | una op x, n => cores x n ++ [(op, ((n + cnt x : Nat) : Int) - 1, 0, [], none)]
  | bin op x y, n => cores x n ++ (cores y (n + cnt x) ++ [(op, ((n + cnt x : Nat) : Int) - 1, ((n + cnt x + cnt y : Nat) : Int) - 1, [], none)])
  | par x, n => cores x n
theorem cores_len : ∀ (x : Xt) (n : Nat), (cores x n).length = cnt x
  | con _, _ => rfl
  | nam _, _ => rfl
  | una op x, n => by unfold cores cnt; rw [List.length_append, cores_len x n]; rfl
  | bin op x y, n => by unfold cores cnt; rw [List.length_append, List.length_append, cores_len x n, cores_len y _]; rfl
  | par x, n => cores_len x n
def dep : Xt → Nat
  | con _ => 1
  | nam _ => 1
  | una _ x => dep x + 1
  | bin _ x y => (if dep y > dep x then dep y else dep x) + 1
  | par x => dep x
/-- How much is open in it. -/
def opn : Xt → Nat
  | con _ => 0
  | nam _ => 0
  | una _ x => opn x + 1
  | bin _ x y => if opn y > opn x then opn y else opn x
  | par x => opn x + 1
def siz : Xt → Nat
  | con _ => 1
  | nam _ => 1
  | una _ x => siz x + 1
  | bin _ x y => siz x + siz y + 1
  | par x => siz x + 2
/-- Is it a number that is not below 0? -/
def bare : Xt → Bool
  | con v => decide (v.1 = 1) && decide (0 ≤ v.2.1)
  | _ => false
/-- A value that may be. -/
def ValOk (v : Int × Int × List UInt8 × Bool) : Prop :=
  (v.1 = 1 ∧ -9223372036854775808 ≤ v.2.1 ∧ v.2.1 ≤ 9223372036854775807 ∧ v.2.2.1 = [] ∧ v.2.2.2 = false) ∨ (v.1 = 2 ∧ v.2.1 = 0 ∧ v.2.2.2 = false) ∨ (v.1 = 3 ∧ v.2.1 = 0 ∧ v.2.2.1 = [])
/-- Everything stands where it may. -/
def Ok : Xt → Prop
  | con v => ValOk v
  | nam s => s ≠ [95]
  | una op x => (op = 4 ∧ 3 ≤ lev x ∨ op = 5 ∧ 7 ≤ lev x ∧ bare x = false) ∧ Ok x
  | bin op x y => 6 ≤ op ∧ op ≤ 16 ∧ (if lvl op = 4 then 5 else lvl op) ≤ lev x ∧ lvl op + 1 ≤ lev y ∧ Ok x ∧ Ok y
  | par x => Ok x
end Xt
def coreOf (x : Ex) : Xt.Core := (x.op, x.a, x.b, x.name, x.vk, x.vi, x.vs, x.vb)
end Go.Proofs.YtdhgappjicpglaaGreatDoor.Pr
namespace Go.Proofs.YtdhgappjicpglaaGreatDoor.Pr
open Go Go.Ab Go.RowKit Go.Proofs.YtdhgappjicpglaaGreatDoor.Lx Go.Proofs.YtdhgappjicpglaaGreatDoor.Pa
set_option maxRecDepth 10000
set_option maxHeartbeats 1000000
variable {L : List Tok} {R : List (Int × List UInt8)}
def sgn (t : Int × List UInt8) : Bool := decide (t.1 = 2) || decide (t.1 = 5)
/-- The operators of each level. -/
def mapOf : Nat → List (List UInt8 × Int)
  | 0 => orM
  | 1 => andM
  | 2 => []
  | 3 => cmpM
  | 4 => sumM
  | 5 => prodM
  | _ => []
/-- No operator of the levels from l on comes next. -/
def EndsAt (l : Nat) (R : List (Int × List UInt8)) : Prop := ∀ t r, R = t :: r → sgn t = true → ∀ j, l ≤ j → mapA t.2 (mapOf j) = 0
theorem EndsAt.up {l l' : Nat} (h : EndsAt l R) (hl : l ≤ l') : EndsAt l' R := fun t r e hs j hj => h t r e hs j (Nat.le_trans hl hj)
theorem EndsAt.next (hl : Line1 L) {l j a : Nat} (h : EndsAt l (Tk L a)) (hj : l ≤ j) : nextF L a (mapOf j) = 0 := by
  cases e : Tk L a with
  | nil => exact nextF_end e _
  | cons t r =>
    rw [nextF_at hl e]
    cases hs : (decide (t.1 = 2) || decide (t.1 = 5))
    · rfl
    · exact h t r e hs j hj
theorem ends_nil (l : Nat) : EndsAt l [] := fun _ _ e => nomatch e
theorem map_big {j : Nat} (hj : 6 ≤ j) : mapOf j = [] := by
  match j, hj with
  | j + 6, _ => rfl
theorem ends_of {l : Nat} {t : Int × List UInt8} (h : ∀ j, j < 6 → l ≤ j → mapA t.2 (mapOf j) = 0) (r : List (Int × List UInt8)) : EndsAt l (t :: r) := by
  intro t' r' e _ j hj
  injection e with e1 e2
  subst e1
  rcases Nat.lt_or_ge j 6 with hh | hh
  · exact h j hh hj
  · rw [map_big hh]; rfl
theorem ends_shut (r : List (Int × List UInt8)) : EndsAt 0 ((5, [41]) :: r) := ends_of (by decide) r
theorem op_cases {op : Int} (h : 6 ≤ op ∧ op ≤ 16) : op = 6 ∨ op = 7 ∨ op = 8 ∨ op = 9 ∨ op = 10 ∨ op = 11 ∨ op = 12 ∨ op = 13 ∨ op = 14 ∨ op = 15 ∨ op = 16 := by omega
/-- An operator's token ends what is of the levels above its own. -/
theorem ends_op {op : Int} (h : 6 ≤ op ∧ op ≤ 16) (r : List (Int × List UInt8)) : EndsAt (lvl op) (opT op :: r) := by
  rcases op_cases h with rfl | rfl | rfl | rfl | rfl | rfl | rfl | rfl | rfl | rfl | rfl <;> exact ends_of (by decide) r
theorem op_next (hl : Line1 L) {op : Int} (h : 6 ≤ op ∧ op ≤ 16) {a : Nat} {r : List (Int × List UInt8)} (ht : Tk L a = opT op :: r) : nextF L a (mapOf (lvl op - 1)) = op := by
  rw [nextF_at hl ht]
  rcases op_cases h with rfl | rfl | rfl | rfl | rfl | rfl | rfl | rfl | rfl | rfl | rfl <;> decide
theorem op_lvl {op : Int} (h : 6 ≤ op ∧ op ≤ 16) : lvl op = 1 ∨ lvl op = 2 ∨ lvl op = 4 ∨ lvl op = 5 ∨ lvl op = 6 := by
  rcases op_cases h with rfl | rfl | rfl | rfl | rfl | rfl | rfl | rfl | rfl | rfl | rfl <;> decide
namespace Xt
theorem dep_pos : ∀ x : Xt, 1 ≤ dep x
  | con _ => Nat.le_refl _
  | nam _ => Nat.le_refl _
  | una _ x => Nat.le_add_left _ _
  | bin _ _ _ => Nat.le_add_left _ _
  | par x => dep_pos x
theorem siz_toks : ∀ {x : Xt}, x.siz ≤ x.toks.length
  | con v => by unfold toks valT siz; split <;> (try split) <;> simp
  | nam _ => Nat.le_refl _
  | una op x => by have := siz_toks (x := x); unfold toks siz; simp only [List.length_cons]; omega
  | bin op x y => by have := siz_toks (x := x); have := siz_toks (x := y); unfold toks siz; simp only [List.length_append, List.length_cons]; omega
  | par x => by have := siz_toks (x := x); unfold toks siz; simp only [List.length_append, List.length_cons, List.length_nil]; omega
/-- What holds together as strongly as what is compared does not begin with a 'not'. -/
theorem head_not : ∀ {x : Xt}, Ok x → 4 ≤ lev x → ∃ t r, toks x = t :: r ∧ t ≠ (2, [110, 111, 116]) ∧ t ≠ (5, [110, 111, 116])
  | con v, hx, _ => by
    unfold toks valT
    split
    · split
      · exact ⟨_, _, rfl, by decide, by decide⟩
      · exact ⟨_, _, rfl, by simp, by simp⟩
    · split
      · exact ⟨_, _, rfl, by simp, by simp⟩
      · refine ⟨_, _, rfl, ?_, ?_⟩ <;> split <;> decide
  | nam s, _, _ => ⟨_, _, rfl, by simp, by simp⟩
  | una op x, hx, hl => by
    obtain ⟨h | h, _⟩ := hx
    · rw [h.1] at hl; exact absurd (show 4 ≤ lvl 4 from hl) (by decide)
    · refine ⟨_, _, rfl, ?_, ?_⟩ <;> rw [h.1] <;> decide
  | bin op x y, hx, hl => by
    obtain ⟨h1, h2, h3, _, hx, _⟩ := hx
    have hl : 4 ≤ lvl op := hl
    obtain ⟨t, r, e, h⟩ := head_not hx (by split at h3 <;> omega)
    exact ⟨t, r ++ opT op :: toks y, by show toks x ++ _ = _; rw [e]; rfl, h⟩
  | par x, _, _ => ⟨_, _, rfl, by decide, by decide⟩
end Xt
end Go.Proofs.YtdhgappjicpglaaGreatDoor.Pr
namespace Go.Proofs.YtdhgappjicpglaaGreatDoor.Nu
open Go Go.Ab Go.RowKit
theorem nv_append : ∀ (x y : List UInt8) (a : Nat), nv (x ++ y) a = nv y (nv x a)
  | [], y, a => rfl
  | c :: r, y, a => nv_append r y _
theorem byte48 {u : Nat} (h : u < 10) : (UInt8.ofNat (48 + u)).toNat = 48 + u := by
  rw [UInt8.toNat_ofNat']; omega
theorem dec_facts : ∀ (k u : Nat), u < k → Lib.decDigits u ≠ [] ∧ (Lib.decDigits u).all isD = true ∧ nv (Lib.decDigits u) 0 = u ∧ ((byteAt (Lib.decDigits u) 0).toNat = 48 → u = 0)
  | 0, u => fun h => by omega
  | k + 1, u => fun h => by
    by_cases hu : u < 10
    · have e : Lib.decDigits u = [UInt8.ofNat (48 + u)] := by rw [Lib.decDigits, dif_pos hu]
      rw [e]
      refine ⟨by simp, ?_, ?_, ?_⟩
      · simp [isD, byte48 hu]; omega
      · show 0 * 10 + ((UInt8.ofNat (48 + u)).toNat - 48) = u
        rw [byte48 hu]; omega
      · show (UInt8.ofNat (48 + u)).toNat = 48 → u = 0
        rw [byte48 hu]; omega
    · obtain ⟨h1, h2, h3, h4⟩ := dec_facts k (u / 10) (by omega)
      have e : Lib.decDigits u = Lib.decDigits (u / 10) ++ [UInt8.ofNat (48 + u % 10)] := by rw [Lib.decDigits, dif_neg hu]
      have h10 : u % 10 < 10 := Nat.mod_lt _ (by omega)
      rw [e]
      refine ⟨by simp, ?_, ?_, ?_⟩
      · rw [List.all_append, h2]
        simp [isD, byte48 h10]; omega
      · rw [nv_append, h3]
        show u / 10 * 10 + ((UInt8.ofNat (48 + u % 10)).toNat - 48) = u
        rw [byte48 h10]; omega
      · have : byteAt (Lib.decDigits (u / 10) ++ [UInt8.ofNat (48 + u % 10)]) 0 = byteAt (Lib.decDigits (u / 10)) 0 := by
          unfold byteAt List.getD
          rw [List.getElem?_append_left (List.length_pos_iff.2 h1)]
        rw [this]
        intro h5
        have := h4 h5
        omega
theorem dec_unique : ∀ (k : Nat) (d : List UInt8), d.length ≤ k → d ≠ [] → d.all isD = true → ((byteAt d 0).toNat = 48 → d.length = 1) → Lib.decDigits (nv d 0) = d ∧ ((byteAt d 0).toNat ≠ 48 → 1 ≤ nv d 0)
  | 0, d => fun h h1 => absurd (List.eq_nil_of_length_eq_zero (by omega)) h1
  | k + 1, d => fun h h1 h2 h3 => by
    have hl : d.dropLast ++ [d.getLast h1] = d := List.dropLast_concat_getLast h1
    generalize d.getLast h1 = c at hl
    generalize d.dropLast = r at hl
    subst hl
    rw [List.all_append, Bool.and_eq_true] at h2
    have hc : 48 ≤ c.toNat ∧ c.toNat ≤ 57 := by simpa [isD] using h2.2
    have hcc : UInt8.ofNat c.toNat = c := UInt8.ofNat_toNat
    rw [nv_append]
    have hn : nv [c] (nv r 0) = nv r 0 * 10 + (c.toNat - 48) := rfl
    rw [hn]
    by_cases hr : r = []
    · subst hr
      have e0 : nv [] 0 = 0 := rfl
      rw [e0]
      have e1 : Lib.decDigits (0 * 10 + (c.toNat - 48)) = [UInt8.ofNat (48 + (0 * 10 + (c.toNat - 48)))] := by rw [Lib.decDigits, dif_pos (by omega)]
      rw [e1, show 48 + (0 * 10 + (c.toNat - 48)) = c.toNat by omega, hcc]
      refine ⟨rfl, fun h9 => ?_⟩
      have : c.toNat ≠ 48 := h9
      omega
    · have hb : byteAt (r ++ [c]) 0 = byteAt r 0 := by
        unfold byteAt List.getD
        rw [List.getElem?_append_left (List.length_pos_iff.2 hr)]
      rw [hb] at h3 ⊢
      have hrl := List.length_pos_iff.2 hr
      have hne : (byteAt r 0).toNat ≠ 48 := fun h9 => by
        have := h3 h9
        rw [List.length_append, List.length_singleton] at this
        omega
      rw [List.length_append, List.length_singleton] at h
      obtain ⟨i1, i2⟩ := dec_unique k r (by omega) hr h2.1 (fun h9 => absurd h9 hne)
      have i2 := i2 hne
      have e1 : Lib.decDigits (nv r 0 * 10 + (c.toNat - 48)) = Lib.decDigits ((nv r 0 * 10 + (c.toNat - 48)) / 10) ++ [UInt8.ofNat (48 + (nv r 0 * 10 + (c.toNat - 48)) % 10)] := by rw [Lib.decDigits, dif_neg (by omega)]
      rw [e1, show (nv r 0 * 10 + (c.toNat - 48)) / 10 = nv r 0 by omega, show 48 + (nv r 0 * 10 + (c.toNat - 48)) % 10 = c.toNat by omega, hcc, i1]
      exact ⟨rfl, fun _ => by omega⟩
/-- A number's text is parsed as that. -/
theorem parse_itoa (n : Int) (hn : Fits n) : formB (Lib.itoa n) = true ∧ numN (Lib.itoa n) = n ∧ numE (Lib.itoa n) = 0 := by
  unfold Fits at hn
  by_cases hneg : n < 0
  · have hu : n = -(n.natAbs : Int) := by omega
    generalize hua : n.natAbs = u at hu
    subst hu
    rw [Lib.itoa_neg u (by omega)]
    obtain ⟨d1, d2, d3, d4⟩ := dec_facts (u + 1) u (by omega)
    generalize Lib.decDigits u = d at *
    have hfr : from_ ((45 : UInt8) :: d) = 1 := rfl
    have hd : ((45 : UInt8) :: d).drop 1 = d := rfl
    have hform : formB (45 :: d) = true := by
      rw [form_eq, hfr, hd, d2]
      have hb : byteAt ((45 : UInt8) :: d) 1 = byteAt d 0 := rfl
      rw [hb]
      have h48 : ¬ (byteAt d 0).toNat = 48 := fun h => by have := d4 h; omega
      have := List.length_pos_iff.2 d1
      simp [h48]
      omega
    obtain ⟨e1, e2⟩ := num_form hform
    have hw : worthN (45 :: d) = u := by unfold worthN; rw [hfr, hd, d3]
    rw [hw, hfr, if_pos rfl, if_pos (by omega)] at e1 e2
    exact ⟨hform, e1, e2⟩
  · have hu : n = (n.toNat : Int) := by omega
    generalize hua : n.toNat = u at hu
    subst hu
    rw [Lib.itoa_nonneg]
    obtain ⟨d1, d2, d3, d4⟩ := dec_facts (u + 1) u (by omega)
    have huq := (dec_unique (Lib.decDigits u).length (Lib.decDigits u) (Nat.le_refl _) d1 d2)
    have hlen : u = 0 → (Lib.decDigits u).length = 1 := fun h => by subst h; rw [Lib.decDigits, dif_pos (by omega)]; rfl
    generalize Lib.decDigits u = d at *
    have hl1 := List.length_pos_iff.2 d1
    have hfr : from_ d = 0 := by
      have h9 : isD (byteAt d 0) = true := List.all_eq_true.1 d2 _ (by simp [byteAt, List.getD, hl1])
      unfold from_
      rw [if_neg]
      intro e
      rw [e] at h9
      cases h9
    have hd : d.drop 0 = d := rfl
    have hform : formB d = true := by
      rw [form_eq, hfr, hd, d2]
      by_cases h48 : (byteAt d 0).toNat = 48
      · have := hlen (d4 h48)
        simp [this]
      · simp [h48]
        omega
    obtain ⟨e1, e2⟩ := num_form hform
    have hw : worthN d = u := by unfold worthN; rw [hfr, hd, d3]
    rw [hw, hfr, if_neg (by omega), if_pos (by omega)] at e1 e2
    exact ⟨hform, e1, e2⟩
end Go.Proofs.YtdhgappjicpglaaGreatDoor.Nu
namespace Go.Proofs.YtdhgappjicpglaaGreatDoor.Pr
open Go Go.Ab Go.RowKit Go.Proofs.YtdhgappjicpglaaGreatDoor.Lx Go.Proofs.YtdhgappjicpglaaGreatDoor.Pa
set_option maxRecDepth 10000
set_option maxHeartbeats 1000000
variable {L : List Tok} {R : List (Int × List UInt8)}
/-- Read: so far, all that was, and the tree's own nodes. -/
structure Got (st z : St) (x : Xt) : Prop where
  a : z.a = st.a + x.toks.length
  k : z.k = st.k
  o : ∃ o2, z.o = st.o ++ o2 ∧ o2.map coreOf = x.cores st.o.length
  d : ∃ d2, z.d = st.d ++ d2
  dl : z.d.length = z.o.length
  pos : st.o.length < z.o.length
  top : dAt z.d (z.o.length - 1) = x.dep
theorem tk_skip : ∀ {l : List (Int × List UInt8)} {a : Nat} {R : List (Int × List UInt8)}, Tk L a = l ++ R → Tk L (a + l.length) = R
  | [], _, _, h => h
  | t :: l, a, R, h => by
    obtain ⟨_, _, h2⟩ := Tk_cons (show Tk L a = t :: (l ++ R) from h)
    have := tk_skip h2
    rw [List.length_cons, show a + (l.length + 1) = a + 1 + l.length by omega]
    exact this
theorem Got.cnt {st z : St} {x : Xt} (h : Got st z x) : z.o.length = st.o.length + x.cnt := by
  obtain ⟨o2, h1, h2⟩ := h.o
  have := congrArg List.length h2
  rw [List.length_map, Xt.cores_len] at this
  rw [h1, List.length_append, this]
/-- A node without children. -/
theorem leaf_got {st : St} {x : Xt} {t : Tok} {e : Ex} {n : Nat} (hd : st.d.length = st.o.length) (hn : x.toks.length = n) (hc : x.cores st.o.length = [coreOf { e with ln := t.2.2.1, cl := t.2.2.2 }]) (hx : x.dep = 1) : ∃ z, nodeF t e [] { st with a := st.a + n } = .ok z ∧ Got st z x := by
  refine ⟨_, rfl, ⟨by show st.a + n = _; rw [hn], rfl, ⟨_, rfl, by rw [hc]; rfl⟩, ⟨_, rfl⟩, by simp [hd], by simp, ?_⟩⟩
  show dAt (st.d ++ [_]) _ = _
  rw [dAt_right (by simp [hd])]
  simp [dAt, hd, deepF, hx]
/-- A node over one. -/
theorem una_got {st z : St} {x : Xt} {op : Int} (t : Tok) (hz : Got { st with a := st.a + 1, k := st.k + 1 } z x) (hd : x.dep + 1 ≤ 64) : ∃ z', nodeF t { ex0 with op := op, a := (z.o.length : Int) - 1 } [(z.o.length : Int) - 1] { z with k := z.k - 1 } = .ok z' ∧ Got st z' (.una op x) := by
  have hpos := hz.pos
  have hdp : deepF z.d [(z.o.length : Int) - 1] 1 = (x.dep : Int) + 1 := by
    have hp := Xt.dep_pos x
    have := deepF_one (d := z.d) (a := z.o.length - 1) (by rw [hz.top]; omega)
    rw [show ((z.o.length - 1 : Nat) : Int) = (z.o.length : Int) - 1 by omega, hz.top] at this
    exact this
  unfold nodeF
  dsimp only
  rw [hdp, if_neg (by omega)]
  have hcn := hz.cnt
  obtain ⟨o2, ho, hc⟩ := hz.o
  obtain ⟨d2, hd2⟩ := hz.d
  simp only at ho hd2 hpos hc hcn
  have ho' : ∀ e : Ex, z.o ++ [e] = st.o ++ (o2 ++ [e]) := fun e => by rw [ho, List.append_assoc]
  have hd' : ∀ e : Int, z.d ++ [e] = st.d ++ (d2 ++ [e]) := fun e => by rw [hd2, List.append_assoc]
  refine ⟨_, rfl, ⟨?_, ?_, ⟨_, ho' _, ?_⟩, ⟨_, hd' _⟩, ?_, ?_, ?_⟩⟩
  · show z.a = _
    rw [hz.a]; show st.a + 1 + x.toks.length = st.a + ((if op = 4 then (2, [110, 111, 116]) else (5, [45])) :: x.toks).length; rw [List.length_cons]; omega
  · show z.k - 1 = _
    rw [hz.k]; show st.k + 1 - 1 = _; omega
  · rw [List.map_append, hc]; show _ = x.cores st.o.length ++ [(op, ((st.o.length + x.cnt : Nat) : Int) - 1, 0, [], Xt.none)]; rw [← hcn]; rfl
  · show (z.d ++ [_]).length = (z.o ++ [_]).length
    rw [List.length_append, List.length_append, hz.dl]; rfl
  · show st.o.length < (z.o ++ [_]).length
    rw [List.length_append]; omega
  · show dAt (z.d ++ [_]) ((z.o ++ [_]).length - 1) = _
    rw [List.length_append, List.length_cons, List.length_nil, Nat.zero_add, Nat.add_sub_cancel, dAt_right (by rw [hz.dl]; exact Nat.le_refl _), hz.dl, Nat.sub_self]
    show (x.dep : Int) + 1 = ((x.dep + 1 : Nat) : Int)
    omega
/-- A node over two. -/
theorem bin_got {st z z2 : St} {x y : Xt} {op : Int} (t : Tok) (hz : Got st z x) (hz2 : Got { z with a := z.a + 1 } z2 y) (hd : (Xt.bin op x y).dep ≤ 64) : ∃ z', nodeF t { ex0 with op := op, a := (z.o.length : Int) - 1, b := (z2.o.length : Int) - 1 } [(z.o.length : Int) - 1, (z2.o.length : Int) - 1] z2 = .ok z' ∧ Got st z' (.bin op x y) := by
  have hpos := hz.pos
  have hpos2 := hz2.pos
  have hcn := hz.cnt
  have hcn2 := hz2.cnt
  simp only at hcn2
  obtain ⟨o2, ho, hc⟩ := hz.o
  obtain ⟨d2, hd2⟩ := hz.d
  obtain ⟨o3, ho3, hc3⟩ := hz2.o
  obtain ⟨d3, hd3⟩ := hz2.d
  simp only at ho3 hd3 hpos2 hc3
  have hxp := Xt.dep_pos x
  have hyp := Xt.dep_pos y
  have hdx : x.dep < (Xt.bin op x y).dep ∧ y.dep < (Xt.bin op x y).dep := by
    show x.dep < (if y.dep > x.dep then y.dep else x.dep) + 1 ∧ y.dep < (if y.dep > x.dep then y.dep else x.dep) + 1
    split <;> omega
  have hold : dAt z2.d (z.o.length - 1) = x.dep := by rw [hd3, dAt_left (by rw [hz.dl]; omega)]; exact hz.top
  have hdp : deepF z2.d [(z.o.length : Int) - 1, (z2.o.length : Int) - 1] 1 = ((Xt.bin op x y).dep : Int) := by
    have := deepF_two (d := z2.d) (a := z.o.length - 1) (b := z2.o.length - 1) (by rw [hold]; omega) (by rw [hz2.top]; omega)
    rw [show ((z.o.length - 1 : Nat) : Int) = (z.o.length : Int) - 1 by omega, show ((z2.o.length - 1 : Nat) : Int) = (z2.o.length : Int) - 1 by omega, hold, hz2.top] at this
    rw [this]
    show _ = (((if y.dep > x.dep then y.dep else x.dep) + 1 : Nat) : Int)
    split <;> split <;> omega
  unfold nodeF
  rw [hdp, if_neg (by omega)]
  have ho' : ∀ e : Ex, z2.o ++ [e] = st.o ++ (o2 ++ (o3 ++ [e])) := fun e => by rw [ho3, ho, List.append_assoc, List.append_assoc]
  have hd' : ∀ e : Int, z2.d ++ [e] = st.d ++ (d2 ++ (d3 ++ [e])) := fun e => by rw [hd3, hd2, List.append_assoc, List.append_assoc]
  refine ⟨_, rfl, ⟨?_, ?_, ⟨_, ho' _, ?_⟩, ⟨_, hd' _⟩, ?_, ?_, ?_⟩⟩
  · show z2.a = _
    rw [hz2.a]; show z.a + 1 + y.toks.length = _; rw [hz.a]; show st.a + x.toks.length + 1 + y.toks.length = st.a + (x.toks ++ opT op :: y.toks).length; rw [List.length_append, List.length_cons]; omega
  · show z2.k = _
    rw [hz2.k]; exact hz.k
  · rw [List.map_append, List.map_append, hc, hc3]; show _ = x.cores st.o.length ++ (y.cores (st.o.length + x.cnt) ++ [(op, ((st.o.length + x.cnt : Nat) : Int) - 1, ((st.o.length + x.cnt + y.cnt : Nat) : Int) - 1, [], Xt.none)]); rw [← hcn, ← hcn2]; rfl
  · show (z2.d ++ [_]).length = (z2.o ++ [_]).length
    rw [List.length_append, List.length_append, hz2.dl]; rfl
  · show st.o.length < (z2.o ++ [_]).length
    rw [List.length_append]; omega
  · show dAt (z2.d ++ [_]) ((z2.o ++ [_]).length - 1) = _
    rw [List.length_append, List.length_cons, List.length_nil, Nat.zero_add, Nat.add_sub_cancel, dAt_right (by rw [hz2.dl]; exact Nat.le_refl _), hz2.dl, Nat.sub_self]
    rfl
end Go.Proofs.YtdhgappjicpglaaGreatDoor.Pr
namespace Go.Proofs.YtdhgappjicpglaaGreatDoor.Pr
open Go Go.Ab Go.RowKit Go.Proofs.YtdhgappjicpglaaGreatDoor.Lx Go.Proofs.YtdhgappjicpglaaGreatDoor.Pa
set_option maxRecDepth 10000
set_option maxHeartbeats 1000000
variable {L : List Tok} {R : List (Int × List UInt8)}
theorem getD_at {a : Nat} {x : Int × List UInt8} {r : List (Int × List UInt8)} (h : Tk L a = x :: r) : a < L.length ∧ (L.getD a noTok).1 = x.1 := by
  obtain ⟨h1, h2, _⟩ := Tk_cons h
  exact ⟨h1, congrArg Prod.fst h2⟩
theorem value_int {v : Int} (hv : -9223372036854775808 ≤ v ∧ v ≤ 9223372036854775807) (hl : Line1 L) {a : Nat} (h : Tk L a = valT (1, v, [], false) ++ R) : isF L a [40] = false ∧ (peekF L a).1 ≠ 1 ∧ numbF L a = true ∧ valueF L a = .ok ((1, v, [], false), a + (valT (1, v, [], false)).length) := by
  obtain ⟨hF, hN, hE⟩ := Nu.parse_itoa v hv
  by_cases hn : v < 0
  · have e : valT (1, v, [], false) = [(5, [45]), (3, Lib.itoa (-v))] := by unfold valT; rw [if_pos rfl, if_pos hn]
    rw [e] at h ⊢
    have h : Tk L a = (5, [45]) :: (3, Lib.itoa (-v)) :: R := h
    obtain ⟨_, _, h'⟩ := Tk_cons h
    have hm : isF L a [45] = true := by rw [isF_at hl h]; decide
    have hb : numbF L a = true := by
      unfold numbF
      rw [if_pos hm, decide_eq_true (getD_at h').1, decide_eq_true (show _ = _ from (getD_at h').2)]; rfl
    have hp := peek_at hl h'
    refine ⟨by rw [isF_at hl h]; decide, by rw [(peek_at hl h).1]; decide, hb, ?_⟩
    unfold valueF
    rw [if_pos hb]
    dsimp only
    have hi : Lib.itoa v = 45 :: Lib.itoa (-v) := by
      unfold Lib.itoa
      rw [if_pos hn, if_neg (by omega), show v.natAbs = (-v).toNat by omega]
    have h0 : Lib.itoa (-v) ≠ [48] := fun hh => by
      rw [hi, hh] at hF
      exact absurd hF (by decide)
    rw [hm]
    simp only [if_true]
    rw [hp.2.1]
    dsimp only
    rw [if_pos (show True ∧ Lib.itoa (-v) ≠ [48] from ⟨trivial, h0⟩), show ([45] ++ Lib.itoa (-v) : List UInt8) = Lib.itoa v from hi.symm, hE, if_neg (by decide), hN]
    rfl
  · have e : valT (1, v, [], false) = [(3, Lib.itoa v)] := by unfold valT; rw [if_pos rfl, if_neg hn]
    rw [e] at h ⊢
    have h : Tk L a = (3, Lib.itoa v) :: R := h
    have hm : isF L a [45] = false := by rw [isF_at hl h]; rfl
    have hb : numbF L a = true := by
      unfold numbF
      rw [if_neg (by rw [hm]; decide), decide_eq_true (getD_at h).1, decide_eq_true (show _ = _ from (getD_at h).2)]; rfl
    have hp := peek_at hl h
    refine ⟨by rw [isF_at hl h]; rfl, by rw [hp.1]; simp, hb, ?_⟩
    unfold valueF
    rw [if_pos hb]
    dsimp only
    rw [hm]
    simp only [Bool.false_eq_true, if_false, false_and]
    rw [hp.2.1]
    dsimp only
    rw [show ([] ++ Lib.itoa v : List UInt8) = Lib.itoa v from rfl, hE, if_neg (by decide), hN]
    rfl
/-- A value is read as it. -/
theorem con_got (hl : Line1 L) {v : Int × Int × List UInt8 × Bool} (hv : Xt.ValOk v) {st : St} (h : Tk L st.a = valT v ++ R) (hd : st.d.length = st.o.length) (f : Nat) : ∃ z, ev L (f + 1) 6 st = .ok z ∧ Got st z (.con v) := by
  have main : ∀ n, isF L st.a [40] = false → ¬ ((peekF L st.a).1 = 1 ∧ (peekF L st.a).2.1 ≠ [95]) → ¬ (isF L st.a [45] = true ∧ numbF L st.a = false) → valueF L st.a = .ok (v, st.a + n) → (valT v).length = n → ∃ z, ev L (f + 1) 6 st = .ok z ∧ Got st z (.con v) := by
    intro n h1 h2 h3 h4 h5
    have e : ev L (f + 1) 6 st = nodeF (peekF L st.a) { ex0 with op := 1, vk := v.1, vi := v.2.1, vs := v.2.2.1, vb := v.2.2.2 } [] { st with a := st.a + n } := by
      show unaryF L (ev L f 0) (ev L f 6) st = _
      unfold unaryF
      rw [if_neg (by rw [h1]; decide), if_neg h2, if_neg h3, h4]
    rw [e]
    exact leaf_got hd h5 rfl rfl
  rcases hv with ⟨a1, a2, a3, a4, a5⟩ | ⟨a1, a2, a3⟩ | ⟨a1, a2, a3⟩
  · obtain ⟨vk, vi, vs, vb⟩ := v
    simp only at a1 a2 a3 a4 a5
    subst a1 a4 a5
    obtain ⟨b1, b2, b3, b4⟩ := value_int (R := R) ⟨a2, a3⟩ hl h
    exact main _ b1 (fun hh => b2 hh.1) (fun hh => by rw [b3] at hh; exact absurd hh.2 (by decide)) b4 rfl
  · obtain ⟨vk, vi, vs, vb⟩ := v
    simp only at a1 a2 a3
    subst a1 a2 a3
    have h : Tk L st.a = (4, vs) :: R := h
    have hp := peek_at hl h
    have hm : isF L st.a [45] = false := by rw [isF_at hl h]; rfl
    have hb : numbF L st.a = false := by
      unfold numbF
      rw [if_neg (by rw [hm]; decide), (getD_at h).2]; simp
    refine main 1 (by rw [isF_at hl h]; rfl) (by rw [hp.1]; simp) (by rw [hm]; simp) ?_ rfl
    unfold valueF
    rw [if_neg (by rw [hb]; decide), if_pos hp.1, hp.2.1]
  · obtain ⟨vk, vi, vs, vb⟩ := v
    simp only at a1 a2 a3
    subst a1 a2 a3
    cases vb
    · have h : Tk L st.a = (2, [102, 97, 108, 115, 101]) :: R := h
      have hp := peek_at hl h
      have hm : isF L st.a [45] = false := by rw [isF_at hl h]; decide
      have hb : numbF L st.a = false := by
        unfold numbF
        rw [if_neg (by rw [hm]; decide), (getD_at h).2]; simp
      refine main 1 (by rw [isF_at hl h]; decide) (by rw [hp.1]; simp) (by rw [hm]; simp) ?_ rfl
      unfold valueF
      rw [if_neg (by rw [hb]; decide), if_neg (by rw [hp.1]; decide), if_neg (by rw [isF_at hl h]; decide), if_pos (by rw [isF_at hl h]; decide)]
    · have h : Tk L st.a = (2, [116, 114, 117, 101]) :: R := h
      have hp := peek_at hl h
      have hm : isF L st.a [45] = false := by rw [isF_at hl h]; decide
      have hb : numbF L st.a = false := by
        unfold numbF
        rw [if_neg (by rw [hm]; decide), (getD_at h).2]; simp
      refine main 1 (by rw [isF_at hl h]; decide) (by rw [hp.1]; simp) (by rw [hm]; simp) ?_ rfl
      unfold valueF
      rw [if_neg (by rw [hb]; decide), if_neg (by rw [hp.1]; decide), if_pos (by rw [isF_at hl h]; decide)]
theorem nam_got (hl : Line1 L) {s : List UInt8} (hs : s ≠ [95]) {st : St} (h : Tk L st.a = (1, s) :: R) (hd : st.d.length = st.o.length) (f : Nat) : ∃ z, ev L (f + 1) 6 st = .ok z ∧ Got st z (.nam s) := by
  have hp := peek_at hl h
  have e : ev L (f + 1) 6 st = nodeF (peekF L st.a) { ex0 with op := 17, name := s } [] { st with a := st.a + 1 } := by
    show unaryF L (ev L f 0) (ev L f 6) st = _
    unfold unaryF
    rw [if_neg (by rw [isF_at hl h]; simp), if_pos (by rw [hp.1, hp.2.1]; exact ⟨rfl, hs⟩), hp.2.1]
  rw [e]
  exact leaf_got hd rfl rfl rfl
end Go.Proofs.YtdhgappjicpglaaGreatDoor.Pr
namespace Go.Proofs.YtdhgappjicpglaaGreatDoor.Pr
open Go Go.Ab Go.RowKit Go.Proofs.YtdhgappjicpglaaGreatDoor.Lx Go.Proofs.YtdhgappjicpglaaGreatDoor.Pa
set_option maxRecDepth 10000
set_option maxHeartbeats 1000000
variable {L : List Tok}
/-- What is asked of a place where a tree is read. -/
structure At (L : List Tok) (st : St) (x : Xt) (l : Nat) (R : List (Int × List UInt8)) : Prop where
  ok : x.Ok
  tk : Tk L st.a = x.toks ++ R
  len : st.d.length = st.o.length
  ends : EndsAt l R
  k : st.k + x.opn ≤ 128
  dep : x.dep ≤ 64
def Reads (L : List Tok) (f l : Nat) (x : Xt) : Prop := ∀ st R, At L st x l R → ∃ z, ev L f l st = .ok z ∧ Got st z x
/-- The chain of a level, ahead of what comes next. -/
def Chains (L : List Tok) (l : Nat) (one : St → Res St) (x : Xt) : Prop := ∀ st R, At L st x (l + 1) R → ∃ z n, chainF L (mapOf l) one st = chainL L (mapOf l) one n z ∧ L.length + 1 + st.a ≤ n + z.a ∧ Got st z x
theorem chain_reads {l : Nat} {one : St → Res St} {x : Xt} (hl : Line1 L) (h : Chains L l one x) {st : St} {R : List (Int × List UInt8)} (ha : At L st x l R) : ∃ z, chainF L (mapOf l) one st = .ok z ∧ Got st z x := by
  obtain ⟨z, n, e, hn, g⟩ := h st R ⟨ha.ok, ha.tk, ha.len, ha.ends.up (Nat.le_succ _), ha.k, ha.dep⟩
  refine ⟨z, ?_, g⟩
  rw [e]
  have ht : Tk L z.a = R := by rw [g.a]; exact tk_skip ha.tk
  cases n with
  | zero => rfl
  | succ n =>
    unfold chainL
    rw [if_pos (EndsAt.next hl (by rw [ht]; exact ha.ends) (Nat.le_refl _))]
theorem chain_one {l : Nat} {one : St → Res St} {x : Xt} (h : ∀ st R, At L st x (l + 1) R → ∃ z, one st = .ok z ∧ Got st z x) : Chains L l one x := fun st R ha => by
  obtain ⟨z, e, g⟩ := h st R ha
  refine ⟨z, L.length + 1, ?_, by rw [g.a]; omega, g⟩
  unfold chainF
  rw [e]
theorem At.left {st : St} {op : Int} {x y : Xt} {l l' : Nat} {R : List (Int × List UInt8)} (h : At L st (.bin op x y) l R) (he : lvl op ≤ l') : At L st x l' (opT op :: (y.toks ++ R)) := by
  obtain ⟨h1, h2, h3, h4, h5, h6⟩ := h
  refine ⟨h1.2.2.2.2.1, ?_, h3, (ends_op ⟨h1.1, h1.2.1⟩ _).up he, ?_, ?_⟩
  · rw [h2]; show (x.toks ++ opT op :: y.toks) ++ R = _; rw [List.append_assoc]; rfl
  · have : st.k + (if y.opn > x.opn then y.opn else x.opn : Nat) ≤ 128 := h5
    split at this <;> omega
  · have : (if y.dep > x.dep then y.dep else x.dep) + 1 ≤ 64 := h6
    split at this <;> omega
theorem At.right {st z : St} {op : Int} {x y : Xt} {l l' : Nat} {R : List (Int × List UInt8)} (h : At L st (.bin op x y) l R) (hz : Got st z x) (he : l ≤ l') : At L { z with a := z.a + 1 } y l' R := by
  obtain ⟨h1, h2, h3, h4, h5, h6⟩ := h
  refine ⟨h1.2.2.2.2.2, ?_, hz.dl, h4.up he, ?_, ?_⟩
  · have e : Tk L st.a = x.toks ++ (opT op :: (y.toks ++ R)) := by rw [h2]; show (x.toks ++ opT op :: y.toks) ++ R = _; rw [List.append_assoc]; rfl
    obtain ⟨_, _, h⟩ := Tk_cons (tk_skip e)
    rw [show z.a = st.a + x.toks.length from hz.a]
    exact h
  · have : st.k + (if y.opn > x.opn then y.opn else x.opn : Nat) ≤ 128 := h5
    show z.k + (y.opn : Nat) ≤ 128
    rw [hz.k]
    split at this <;> omega
  · have : (if y.dep > x.dep then y.dep else x.dep) + 1 ≤ 64 := h6
    split at this <;> omega
theorem At.op {st z : St} {op : Int} {x y : Xt} {l : Nat} {R : List (Int × List UInt8)} (h : At L st (.bin op x y) l R) (hz : Got st z x) : Tk L z.a = opT op :: (y.toks ++ R) := by
  rw [hz.a]
  refine tk_skip ?_
  rw [h.tk]; show (x.toks ++ opT op :: y.toks) ++ R = _; rw [List.append_assoc]; rfl
/-- One more of a chain. -/
theorem chain_bin {l : Nat} {one : St → Res St} {op : Int} {x y : Xt} (hl : Line1 L) (hop : 6 ≤ op ∧ op ≤ 16) (hlv : lvl op = l + 1) (hx : Chains L l one x) (hy : ∀ st R, At L st y (l + 1) R → ∃ z, one st = .ok z ∧ Got st z y) : Chains L l one (.bin op x y) := fun st R ha => by
  obtain ⟨z, n, e, hn, g⟩ := hx st _ (ha.left (by omega))
  have ht := ha.op g
  obtain ⟨hlt, _, _⟩ := Tk_cons ht
  have hnx := op_next hl hop ht
  rw [show lvl op - 1 = l by omega] at hnx
  obtain ⟨z2, e2, g2⟩ := hy _ _ (ha.right g (Nat.le_refl _))
  obtain ⟨z3, e3, g3⟩ := bin_got (op := op) (peekF L z.a) g g2 ha.dep
  obtain ⟨m, rfl⟩ : ∃ m, n = m + 1 := ⟨n - 1, by omega⟩
  refine ⟨z3, m, ?_, ?_, g3⟩
  · rw [e, chainL, if_neg (by rw [hnx]; omega), e2, hnx]
    dsimp only
    rw [e3]
  · have h1 := g3.a
    have h2 := g.a
    have h3 : (Xt.bin op x y).toks.length = x.toks.length + (y.toks.length + 1) := by show (x.toks ++ opT op :: y.toks).length = _; rw [List.length_append, List.length_cons]
    omega
end Go.Proofs.YtdhgappjicpglaaGreatDoor.Pr
namespace Go.Proofs.YtdhgappjicpglaaGreatDoor.Pr
open Go Go.Ab Go.RowKit Go.Proofs.YtdhgappjicpglaaGreatDoor.Lx Go.Proofs.YtdhgappjicpglaaGreatDoor.Pa
set_option maxRecDepth 10000
set_option maxHeartbeats 1000000
variable {L : List Tok}
theorem opn_una {op : Int} {x : Xt} : (Xt.una op x).opn = x.opn + 1 := rfl
theorem dep_una {op : Int} {x : Xt} : (Xt.una op x).dep = x.dep + 1 := rfl
/-- What stands behind a 'not' or a sign. -/
theorem At.una {st : St} {op : Int} {x : Xt} {l l' : Nat} {R : List (Int × List UInt8)} (h : At L st (.una op x) l R) (he : l ≤ l') : At L { st with a := st.a + 1, k := st.k + 1 } x l' R := by
  obtain ⟨h1, h2, h3, h4, h5, h6⟩ := h
  obtain ⟨_, _, h⟩ := Tk_cons (show Tk L st.a = _ :: (x.toks ++ R) from h2)
  rw [opn_una] at h5
  rw [dep_una] at h6
  refine ⟨h1.2, h, h3, h4.up he, ?_, by omega⟩
  show st.k + 1 + (x.opn : Nat) ≤ 128
  omega
theorem before_una {st : St} {op : Int} {x : Xt} {l : Nat} {R : List (Int × List UInt8)} {one : St → Res St} (h : At L st (.una op x) l R) (ho : ∃ z, one { st with a := st.a + 1, k := st.k + 1 } = .ok z ∧ Got { st with a := st.a + 1, k := st.k + 1 } z x) : ∃ z, beforeF L op one st = .ok z ∧ Got st z (.una op x) := by
  obtain ⟨z, e, g⟩ := ho
  have h5 := h.k
  rw [opn_una] at h5
  have h6 := h.dep
  rw [dep_una] at h6
  obtain ⟨z', e', g'⟩ := una_got (op := op) (peekF L st.a) g h6
  refine ⟨z', ?_, g'⟩
  unfold beforeF insideF
  rw [if_neg (by omega), e]
  exact e'
/-- One in brackets. -/
theorem par_got (hl : Line1 L) {st : St} {x : Xt} {R : List (Int × List UInt8)} {f : Nat} (h : At L st (.par x) 6 R) (ho : Reads L f 0 x) : ∃ z, ev L (f + 1) 6 st = .ok z ∧ Got st z (.par x) := by
  obtain ⟨h1, h2, h3, h4, h5, h6⟩ := h
  have h5 : st.k + ((x.opn + 1 : Nat) : Int) ≤ 128 := h5
  have h2 : Tk L st.a = (5, [40]) :: (x.toks ++ [(5, [41])] ++ R) := h2
  obtain ⟨_, _, ht⟩ := Tk_cons h2
  rw [List.append_assoc] at ht
  obtain ⟨z, e, g⟩ := ho { st with a := st.a + 1, k := st.k + 1 } ((5, [41]) :: R) ⟨h1, ht, h3, ends_shut _, by show st.k + 1 + (x.opn : Nat) ≤ 128; omega, h6⟩
  have htz : Tk L z.a = (5, [41]) :: R := by rw [g.a]; exact tk_skip ht
  refine ⟨{ z with a := z.a + 1, k := z.k - 1 }, ?_, ?_⟩
  · show unaryF L (ev L f 0) (ev L f 6) st = _
    unfold unaryF
    rw [if_pos (by rw [isF_at hl h2]; decide)]
    unfold insideF
    rw [if_neg (by omega)]
    dsimp only
    rw [e]
    dsimp only
    unfold wantF
    rw [if_pos (by rw [isF_at hl htz]; decide)]
  · refine ⟨?_, ?_, g.o, g.d, g.dl, g.pos, g.top⟩
    · show z.a + 1 = _
      rw [g.a]; show st.a + 1 + x.toks.length + 1 = st.a + ((5, [40]) :: (x.toks ++ [(5, [41])])).length
      rw [List.length_cons, List.length_append, List.length_cons, List.length_nil]; omega
    · show z.k - 1 = _
      rw [g.k]; show st.k + 1 - 1 = _; omega
/-- A sign: what stands behind it is no number. -/
theorem neg_numb (hl : Line1 L) {a : Nat} {x : Xt} {R : List (Int × List UInt8)} (h : Tk L a = (5, [45]) :: (x.toks ++ R)) (hx : x.Ok) (hv : 7 ≤ x.lev) (hb : x.bare = false) : isF L a [45] = true ∧ numbF L a = false := by
  have hm : isF L a [45] = true := by rw [isF_at hl h]; decide
  refine ⟨hm, ?_⟩
  obtain ⟨_, _, ht⟩ := Tk_cons h
  have key : ∀ t r, x.toks = t :: r → t.1 ≠ 3 → numbF L a = false := by
    intro t r e h3
    rw [e] at ht
    unfold numbF
    rw [if_pos hm, (getD_at (show Tk L (a + 1) = t :: (r ++ R) from ht)).2, decide_eq_false h3, Bool.and_false]
  match x, hx, hv, hb with
  | .con v, hx, _, hb =>
    rcases hx with ⟨a1, _⟩ | ⟨a1, _⟩ | ⟨a1, _⟩
    · have hn : v.2.1 < 0 := by
        have hb : (decide (v.1 = 1) && decide (0 ≤ v.2.1)) = false := hb
        rw [a1, decide_eq_true rfl, Bool.true_and] at hb
        have := of_decide_eq_false hb
        omega
      exact key (5, [45]) [(3, Lib.itoa (-v.2.1))] (by show valT v = _; unfold valT; rw [if_pos a1, if_pos hn]) (by decide)
    · exact key (4, v.2.2.1) [] (by show valT v = _; unfold valT; rw [if_neg (by rw [a1]; decide), if_pos a1]) (by simp)
    · exact key (2, _) [] (by show valT v = _; unfold valT; rw [if_neg (by rw [a1]; decide), if_neg (by rw [a1]; decide)]) (by simp)
  | .nam s, _, _, _ => exact key (1, s) [] rfl (by simp)
  | .una op y, hx, _, _ => exact key _ y.toks rfl (by split <;> decide)
  | .bin op y w, hx, hv, _ =>
    have := op_lvl ⟨hx.1, hx.2.1⟩
    have hv : 7 ≤ lvl op := hv
    omega
  | .par y, _, _, _ => exact key _ _ rfl (by decide)
theorem chains (hl : Line1 L) {f j : Nat} (hj : j ≤ 5 ∧ j ≠ 2 ∧ j ≠ 3) (ih : ∀ y : Xt, j + 2 ≤ y.lev → 7 * y.siz + 7 - (j + 1) ≤ f → Reads L f (j + 1) y) : ∀ x : Xt, x.Ok → j + 1 ≤ x.lev → 7 * x.siz + 7 - j ≤ f + 1 → Chains L j (ev L f (j + 1)) x
  | .con v, _, _, hf => chain_one (ih _ (by show j + 2 ≤ 8; omega) (by omega))
  | .nam s, _, _, hf => chain_one (ih _ (by show j + 2 ≤ 8; omega) (by omega))
  | .par x, _, _, hf => chain_one (ih _ (by show j + 2 ≤ 8; omega) (by omega))
  | .una op x, hx, hv, hf => by
    have hv : j + 1 ≤ lvl op := hv
    refine chain_one (ih _ ?_ (by omega))
    show j + 2 ≤ lvl op
    rcases hx.1 with ⟨h, _⟩ | ⟨h, _⟩
    · subst h
      have e : lvl 4 = 3 := by decide
      omega
    · subst h
      have e : lvl 5 = 7 := by decide
      omega
  | .bin op x y, hx, hv, hf => by
    have hv : j + 1 ≤ lvl op := hv
    by_cases h : j + 2 ≤ lvl op
    · exact chain_one (ih _ h (by omega))
    · obtain ⟨h1, h2, h3, h4, h5, h6⟩ := hx
      rw [if_neg (by omega)] at h3
      have hs : (Xt.bin op x y).siz = x.siz + y.siz + 1 := rfl
      exact chain_bin hl ⟨h1, h2⟩ (by omega) (chains hl hj ih x h5 (by omega) (by omega)) (ih y (by omega) (by omega))
theorem lev_pos : ∀ {x : Xt}, x.Ok → 1 ≤ x.lev
  | .con _, _ => by show 1 ≤ 8; decide
  | .nam _, _ => by show 1 ≤ 8; decide
  | .par _, _ => by show 1 ≤ 8; decide
  | .una op x, h => by
    show 1 ≤ lvl op
    rcases h.1 with ⟨h, _⟩ | ⟨h, _⟩ <;> subst h <;> decide
  | .bin op x y, h => by
    have := op_lvl ⟨h.1, h.2.1⟩
    show 1 ≤ lvl op
    omega
/-- WHAT IS PRINTED IS READ AS WHAT IT WAS. -/
theorem reads (hl : Line1 L) : ∀ (f l : Nat) (x : Xt), l ≤ 6 → l + 1 ≤ x.lev → 7 * x.siz + 7 - l ≤ f → Reads L f l x
  | 0, l, x, h6, _, hf => by
    have : 1 ≤ x.siz := by cases x <;> simp only [Xt.siz] <;> omega
    omega
  | f + 1, l, x, h6, hv, hf => by
    intro st R ha
    match l, h6 with
    | 0, _ => exact chain_reads hl (chains hl (j := 0) (by decide) (fun y h1 h2 => reads hl f 1 y (by decide) h1 h2) x ha.ok hv hf) ha
    | 1, _ => exact chain_reads hl (chains hl (j := 1) (by decide) (fun y h1 h2 => reads hl f 2 y (by decide) h1 h2) x ha.ok hv hf) ha
    | 4, _ => exact chain_reads hl (chains hl (j := 4) (by decide) (fun y h1 h2 => reads hl f 5 y (by decide) h1 h2) x ha.ok hv hf) ha
    | 5, _ => exact chain_reads hl (chains hl (j := 5) (by decide) (fun y h1 h2 => reads hl f 6 y (by decide) h1 h2) x ha.ok hv hf) ha
    | 2, _ =>
      by_cases h4 : 4 ≤ x.lev
      · obtain ⟨t, r, e, hn⟩ := Xt.head_not ha.ok h4
        rw [notF_other hl (show Tk L st.a = t :: (r ++ R) by rw [ha.tk, e]; rfl) hn]
        exact reads hl f 3 x (by decide) h4 (by omega) st R ⟨ha.ok, ha.tk, ha.len, ha.ends.up (by decide), ha.k, ha.dep⟩
      · match x, hv, h4, hf, ha with
        | .con _, _, h4, _, _ => exact absurd (show 4 ≤ 8 by decide) h4
        | .nam _, _, h4, _, _ => exact absurd (show 4 ≤ 8 by decide) h4
        | .par _, _, h4, _, _ => exact absurd (show 4 ≤ 8 by decide) h4
        | .bin op _ _, hv, h4, _, ha =>
          have := op_lvl ⟨ha.ok.1, ha.ok.2.1⟩
          have hv : 3 ≤ lvl op := hv
          have h4 : ¬ 4 ≤ lvl op := h4
          omega
        | .una op y, hv, h4, hf, ha =>
          rcases ha.ok.1 with ⟨h, hy⟩ | ⟨h, _⟩
          · subst h
            have hs : (Xt.una 4 y).siz = y.siz + 1 := rfl
            have ht : Tk L st.a = (2, [110, 111, 116]) :: (y.toks ++ R) := ha.tk
            have e : ev L (f + 1) 2 st = beforeF L 4 (ev L f 2) st := by
              show (if isF L st.a [110, 111, 116] = true then beforeF L 4 (ev L f 2) st else ev L f 3 st) = _
              rw [isF_at hl ht, if_pos (by decide)]
            rw [e]
            exact before_una ha (reads hl f 2 y (by decide) hy (by omega) _ R (ha.una (Nat.le_refl _)))
          · subst h; exact absurd (show 4 ≤ lvl 5 by decide) h4
    | 3, _ =>
      by_cases h5 : 5 ≤ x.lev
      · obtain ⟨z, e, g⟩ := reads hl f 4 x (by decide) h5 (by omega) st R ⟨ha.ok, ha.tk, ha.len, ha.ends.up (by decide), ha.k, ha.dep⟩
        refine ⟨z, ?_, g⟩
        have ht : Tk L z.a = R := by rw [g.a]; exact tk_skip ha.tk
        show compF L (ev L f 4) st = _
        unfold compF
        rw [e]
        dsimp only
        rw [if_pos (show nextF L z.a cmpM = 0 from EndsAt.next hl (j := 3) (by rw [ht]; exact ha.ends) (Nat.le_refl _))]
      · match x, hv, h5, hf, ha with
        | .con _, _, h4, _, _ => exact absurd (show 5 ≤ 8 by decide) h4
        | .nam _, _, h4, _, _ => exact absurd (show 5 ≤ 8 by decide) h4
        | .par _, _, h4, _, _ => exact absurd (show 5 ≤ 8 by decide) h4
        | .una op y, hv, h4, hf, ha =>
          rcases ha.ok.1 with ⟨h, hy⟩ | ⟨h, _⟩
          · subst h; exact absurd (show 3 + 1 ≤ lvl 4 from hv) (by decide)
          · subst h; exact absurd (show 5 ≤ lvl 5 by decide) h4
        | .bin op x y, hv, h5, hf, ha =>
          obtain ⟨h1, h2, h3, h4, _, _⟩ := ha.ok
          have hv : 4 ≤ lvl op := hv
          have h5 : ¬ 5 ≤ lvl op := h5
          rw [if_pos (by omega)] at h3
          have hs : (Xt.bin op x y).siz = x.siz + y.siz + 1 := rfl
          obtain ⟨z, e, g⟩ := reads hl f 4 x (by decide) h3 (by omega) st _ (ha.left (by omega))
          have ht := ha.op g
          have hnx := op_next hl ⟨h1, h2⟩ ht
          rw [show lvl op - 1 = 3 by omega] at hnx
          have hnx : nextF L z.a cmpM = op := hnx
          obtain ⟨z2, e2, g2⟩ := reads hl f 4 y (by decide) (by omega) (by omega) _ _ (ha.right g (by decide))
          obtain ⟨z3, e3, g3⟩ := bin_got (op := op) (peekF L z.a) g g2 ha.dep
          refine ⟨z3, ?_, g3⟩
          show compF L (ev L f 4) st = _
          unfold compF
          rw [e]
          dsimp only
          rw [hnx, if_neg (by omega), e2]
          dsimp only
          rw [if_neg (by omega)]
          exact e3
    | 6, _ =>
      match x, hv, hf, ha with
      | .con v, _, _, ha => exact con_got hl ha.ok ha.tk ha.len f
      | .nam s, _, _, ha => exact nam_got hl ha.ok ha.tk ha.len f
      | .par x, _, hf, ha =>
        have hs : (Xt.par x).siz = x.siz + 2 := rfl
        exact par_got hl ha (reads hl f 0 x (by decide) (lev_pos ha.ok) (by omega))
      | .bin op _ _, hv, _, ha =>
        have := op_lvl ⟨ha.ok.1, ha.ok.2.1⟩
        have hv : 7 ≤ lvl op := hv
        omega
      | .una op y, hv, hf, ha =>
        rcases ha.ok.1 with ⟨h, hy⟩ | ⟨h, hy, hb⟩
        · subst h; exact absurd (show 7 ≤ lvl 4 from hv) (by decide)
        · subst h
          have hs : (Xt.una 5 y).siz = y.siz + 1 := rfl
          have ht : Tk L st.a = (5, [45]) :: (y.toks ++ R) := ha.tk
          obtain ⟨n1, n2⟩ := neg_numb hl ht ha.ok.2 hy hb
          have e : ev L (f + 1) 6 st = beforeF L 5 (ev L f 6) st := by
            show unaryF L (ev L f 0) (ev L f 6) st = _
            unfold unaryF
            rw [if_neg (by rw [isF_at hl ht]; decide), if_neg (by rw [(peek_at hl ht).1]; simp), if_pos ⟨n1, n2⟩]
          rw [e]
          exact before_una ha (reads hl f 6 y (by decide) hy (by omega) _ R (ha.una (Nat.le_refl _)))
end Go.Proofs.YtdhgappjicpglaaGreatDoor.Pr
namespace Go.Proofs.YtdhgappjicpglaaGreatDoor.Pr
open Go Go.Ab Go.RowKit Go.Proofs.YtdhgappjicpglaaGreatDoor.Lx Go.Proofs.YtdhgappjicpglaaGreatDoor.Pa
set_option maxRecDepth 10000
set_option maxHeartbeats 1000000
theorem word_plain : ∀ n : Nat, n < 256 → Sc.wordc n = true → blankc n = false ∧ n ≠ 35 ∧ n ≠ 34 := by decide
theorem word_byte {c : UInt8} (h : Sc.wordc c.toNat = true) : blankc c.toNat = false ∧ c ≠ 35 ∧ c ≠ 34 := by
  obtain ⟨h1, h2, h3⟩ := word_plain c.toNat (UInt8.toNat_lt c) h
  exact ⟨h1, fun e => h2 (by rw [e]; rfl), fun e => h3 (by rw [e]; rfl)⟩
theorem let_word : ∀ (w r : List UInt8), w.all (fun c => Sc.wordc c.toNat) = true → letN r = 0 → letN (w ++ r) = w.length
  | [], r, _, h => h
  | c :: a, r, ha, h => by
    simp only [List.all_cons, Bool.and_eq_true] at ha
    rw [List.cons_append, letN, if_pos ha.1, let_word a r ha.2 h]; rfl
/-- A word, a name, a number. -/
theorem lexTo_word {w r : List UInt8} {k : Int} {T : List (Int × List UInt8)} (hw : w.all (fun c => Sc.wordc c.toNat) = true) (hne : w ≠ []) (hk : lettersF w = .ok (k, w)) (hr : letN r = 0) (h : LexTo r T) : LexTo (w ++ r) ((k, w) :: T) := by
  have hlen := let_word w r hw hr
  match w, hne with
  | c :: w, _ =>
    have hc : Sc.wordc c.toNat = true := by simp only [List.all_cons, Bool.and_eq_true] at hw; exact hw.1
    obtain ⟨b1, b2, b3⟩ := word_byte hc
    refine lexTo_step (z := (c :: w).length) (blank_zero b1 b2) (by simp) ?_ (by rw [List.drop_left]; exact h)
    unfold firstF
    rw [if_neg (by show ¬ c = 34; exact b3), hlen, if_neg (by simp), List.take_left, hk]
/-- A quoted text. -/
theorem lexTo_quote {t r : List UInt8} {T : List (Int × List UInt8)} (ht : t.length ≤ 4096) (h : LexTo r T) : LexTo (Qu.quote t ++ r) ((4, t) :: T) := by
  have hc := Qu.cut_quote t r
  have h34 : ∃ q, Qu.quote t = 34 :: q := ⟨_, rfl⟩
  obtain ⟨q, hq⟩ := h34
  refine lexTo_step (z := (Qu.quote t).length) (by rw [hq]; exact blank_zero (by decide) (by decide)) (by rw [hq]; simp) ?_ (by rw [List.drop_left]; exact h)
  unfold firstF
  rw [if_pos (by rw [hq]; rfl), hc]
  dsimp only
  rw [if_neg (by omega)]
theorem sign_45 {r : List UInt8} : signOf (45 :: r) = [45] := by
  unfold signOf signsL
  simp [signF, pfx_no, pfx_one]
/-- A value's text. -/
def valS (v : Int × Int × List UInt8 × Bool) : List UInt8 :=
  if v.1 = 1 then Lib.itoa v.2.1 else if v.1 = 2 then Qu.quote v.2.2.1 else if v.2.2.2 = true then [116, 114, 117, 101] else [102, 97, 108, 115, 101]
namespace Xt
def txt : Xt → List UInt8
  | con v => valS v
  | nam s => s
  | una op x => (if op = 4 then [110, 111, 116, 32] else [45]) ++ txt x
  | bin op x y => txt x ++ 32 :: (signW op ++ 32 :: txt y)
  | par x => 40 :: (txt x ++ [41])
/-- Names and texts are such as are told in one token. -/
def Lexed : Xt → Prop
  | con v => v.2.2.1.length ≤ 4096
  | nam s => s.all (fun c => Sc.wordc c.toNat) = true ∧ s ≠ [] ∧ lettersF s = .ok (1, s)
  | una _ x => Lexed x
  | bin _ x y => Lexed x ∧ Lexed y
  | par x => Lexed x
end Xt
theorem _root_.Go.Proofs.YtdhgappjicpglaaGreatDoor.Nu.dec_short : ∀ (k n : Nat), n < 10 ^ k → (Lib.decDigits n).length ≤ max k 1
  | 0, n, h => by
    have : n = 0 := by omega
    subst this
    rw [Lib.decDigits, dif_pos (by omega)]; simp
  | k + 1, n, h => by
    by_cases hu : n < 10
    · rw [Lib.decDigits, dif_pos hu]; show 1 ≤ _; omega
    · have := Nu.dec_short k (n / 10) (by rw [Nat.pow_succ] at h; omega)
      rw [Lib.decDigits, dif_neg hu, List.length_append, List.length_singleton]
      have : 1 ≤ k := by
        rcases Nat.eq_zero_or_pos k with rfl | h'
        · omega
        · exact h'
      omega
theorem isD_word : ∀ n : Nat, n < 256 → decide (48 ≤ n) && decide (n ≤ 57) = true → Sc.wordc n = true := by decide
theorem digits_word (n : Nat) : (Lib.decDigits n).all (fun c => Sc.wordc c.toNat) = true ∧ (Lib.decDigits n).all digB = true ∧ Lib.decDigits n ≠ [] ∧ ((byteAt (Lib.decDigits n) 0).toNat = 48 → n = 0) := by
  obtain ⟨h1, h2, _, h4⟩ := Nu.dec_facts (n + 1) n (by omega)
  have h3 : (Lib.decDigits n).all digB = true := by
    rw [← h2]
    exact congrArg (Lib.decDigits n).all (funext fun c => digB_isD c)
  refine ⟨?_, h3, h1, h4⟩
  rw [List.all_eq_true] at h3 ⊢
  intro c hc
  have := h3 c hc
  refine isD_word c.toNat (UInt8.toNat_lt c) ?_
  unfold digB digitc at this
  simp at this
  simp
  omega
theorem num_letters (n : Nat) (h : n ≤ 9223372036854775808) : lettersF (Lib.decDigits n) = .ok (3, Lib.decDigits n) := by
  obtain ⟨_, h2, h3, h4⟩ := digits_word n
  have hlen : (Lib.decDigits n).length ≤ 32 := by
    have := Nu.dec_short 20 n (by omega)
    omega
  have h0 : digB (byteAt (Lib.decDigits n) 0) = true := by
    rw [List.all_eq_true] at h2
    refine h2 _ ?_
    cases hd : Lib.decDigits n with
    | nil => exact absurd hd h3
    | cons c r => exact List.mem_cons_self
  refine lettersF_num0 h0 ?_
  unfold numE
  rw [if_neg, if_neg (by omega)]
  rintro (hh | ⟨h5, h6⟩)
  · rw [h2] at hh; cases hh
  · have := h4 (by rw [h5]; rfl)
    subst this
    rw [Lib.decDigits, dif_pos (by omega)] at h6
    exact absurd h6 (by decide)
theorem lexTo_num {n : Int} (h0 : 0 ≤ n) (h : n ≤ 9223372036854775808) {r : List UInt8} {T : List (Int × List UInt8)} (hr : letN r = 0) (hT : LexTo r T) : LexTo (Lib.itoa n ++ r) ((3, Lib.itoa n) :: T) := by
  have e : Lib.itoa n = Lib.decDigits n.toNat := by unfold Lib.itoa; rw [if_neg (by omega)]
  rw [e]
  obtain ⟨h1, _, h3, _⟩ := digits_word n.toNat
  exact lexTo_word h1 h3 (num_letters _ (by omega)) hr hT
theorem lexTo_val {v : Int × Int × List UInt8 × Bool} (hv : Xt.ValOk v) (hs : v.2.2.1.length ≤ 4096) {r : List UInt8} {T : List (Int × List UInt8)} (hr : letN r = 0) (h : LexTo r T) : LexTo (valS v ++ r) (valT v ++ T) := by
  unfold valS valT
  rcases hv with ⟨a1, a2, a3, _⟩ | ⟨a1, _⟩ | ⟨a1, _⟩
  · rw [if_pos a1, if_pos a1]
    by_cases hn : v.2.1 < 0
    · rw [if_pos hn]
      have hi : Lib.itoa v.2.1 = 45 :: Lib.itoa (-v.2.1) := by
        unfold Lib.itoa
        rw [if_pos hn, if_neg (by omega), show v.2.1.natAbs = (-v.2.1).toNat by omega]
      rw [hi]
      exact lexTo_sign (by decide) (by decide) (by decide) (by decide) sign_45 (lexTo_num (by omega) (by omega) hr h)
    · rw [if_neg hn]
      exact lexTo_num (by omega) (by omega) hr h
  · have n1 : ¬ v.1 = 1 := by rw [a1]; decide
    rw [if_neg n1, if_pos a1, if_neg n1, if_pos a1]
    exact lexTo_quote hs h
  · have n1 : ¬ v.1 = 1 := by rw [a1]; decide
    have n2 : ¬ v.1 = 2 := by rw [a1]; decide
    rw [if_neg n1, if_neg n2, if_neg n1, if_neg n2]
    cases v.2.2.2
    · exact lexTo_word (w := [102, 97, 108, 115, 101]) (by decide) (by decide) (by kernel_rfl) hr h
    · exact lexTo_word (w := [116, 114, 117, 101]) (by decide) (by decide) (by kernel_rfl) hr h
theorem lexTo_op {op : Int} (h : 6 ≤ op ∧ op ≤ 16) {r : List UInt8} {T : List (Int × List UInt8)} (hT : LexTo (32 :: r) T) : LexTo (signW op ++ 32 :: r) (opT op :: T) := by
  have hw : letN (32 :: r) = 0 := by rw [letN, if_neg (by decide)]
  have sg : ∀ (c : UInt8) (w : List UInt8), blankc c.toNat = false → c ≠ 35 → c ≠ 34 → Sc.wordc c.toNat = false → signOf (c :: w ++ 32 :: r) = c :: w → LexTo (c :: w ++ 32 :: r) ((5, c :: w) :: T) := by
    intro c w h1 h2 h3 h4 h5
    refine lexTo_step (z := (c :: w).length) (blank_zero h1 h2) (by simp) ?_ (by rw [List.drop_left]; exact hT)
    unfold firstF
    rw [if_neg (by show ¬ c = 34; exact h3), if_pos (by rw [List.cons_append, letN, if_neg (by rw [h4]; decide)]), h5, if_neg (by simp)]
  rcases op_cases h with rfl | rfl | rfl | rfl | rfl | rfl | rfl | rfl | rfl | rfl | rfl
  · exact lexTo_word (w := [97, 110, 100]) (by decide) (by decide) (by kernel_rfl) hw hT
  · exact lexTo_word (w := [111, 114]) (by decide) (by decide) (by kernel_rfl) hw hT
  all_goals exact sg _ _ (by decide) (by decide) (by decide) (by decide) (by simp [signOf, signF, signsL, pfx])
/-- THE TEXT OF A TREE HAS ITS TOKENS. -/
theorem lexTo_txt : ∀ (x : Xt), x.Ok → x.Lexed → ∀ (r : List UInt8) (T : List (Int × List UInt8)), letN r = 0 → LexTo r T → LexTo (x.txt ++ r) (x.toks ++ T)
  | .con v, hx, hs, r, T, hr, h => lexTo_val hx hs hr h
  | .nam s, _, hs, r, T, hr, h => lexTo_word hs.1 hs.2.1 hs.2.2 hr h
  | .una op x, hx, hs, r, T, hr, h => by
    have ih := lexTo_txt x hx.2 hs r T hr h
    rcases hx.1 with ⟨e, _⟩ | ⟨e, _⟩
    · subst e; exact lexTo_not ih
    · subst e; exact lexTo_sign (by decide) (by decide) (by decide) (by decide) sign_45 ih
  | .bin op x y, hx, hs, r, T, hr, h => by
    have ihy := lexTo_txt y hx.2.2.2.2.2 hs.2 r T hr h
    have h1 := lexTo_op ⟨hx.1, hx.2.1⟩ (lexTo_blank ihy)
    have h2 := lexTo_txt x hx.2.2.2.2.1 hs.1 (32 :: (signW op ++ 32 :: (y.txt ++ r))) _ (by rw [letN, if_neg (by decide)]) (lexTo_blank h1)
    have e1 : (Xt.bin op x y).txt ++ r = x.txt ++ 32 :: (signW op ++ 32 :: (y.txt ++ r)) := by
      show (x.txt ++ 32 :: (signW op ++ 32 :: y.txt)) ++ r = _
      rw [List.append_assoc, List.cons_append, List.append_assoc, List.cons_append]
    have e2 : (Xt.bin op x y).toks ++ T = x.toks ++ opT op :: (y.toks ++ T) := by
      show (x.toks ++ opT op :: y.toks) ++ T = _
      rw [List.append_assoc, List.cons_append]
    rw [e1, e2]; exact h2
  | .par x, hx, hs, r, T, hr, h => by
    have h1 : LexTo (41 :: r) ((5, [41]) :: T) := lexTo_sign (by decide) (by decide) (by decide) (by decide) sign_41 h
    have h2 := lexTo_txt x hx hs (41 :: r) _ (by rw [letN, if_neg (by decide)]) h1
    have h3 : LexTo (40 :: (x.txt ++ 41 :: r)) ((5, [40]) :: (x.toks ++ (5, [41]) :: T)) := lexTo_sign (by decide) (by decide) (by decide) (by decide) sign_40 h2
    have e1 : (Xt.par x).txt ++ r = 40 :: (x.txt ++ 41 :: r) := by
      show 40 :: (x.txt ++ [41]) ++ r = _
      rw [List.cons_append, List.append_assoc]; rfl
    have e2 : (Xt.par x).toks ++ T = (5, [40]) :: (x.toks ++ (5, [41]) :: T) := by
      show (5, [40]) :: (x.toks ++ [(5, [41])]) ++ T = _
      rw [List.cons_append, List.append_assoc]; rfl
    rw [e1, e2]; exact h3
end Go.Proofs.YtdhgappjicpglaaGreatDoor.Pr
namespace Go.Proofs.YtdhgappjicpglaaGreatDoor.Tr
open Go Go.Ab Go.RowKit
variable {Γ : Nat → AV}
attribute [local irreducible] APure Sto.set Sto.grow
set_option maxRecDepth 10000
abbrev Idn := List UInt8 × Int × Int
abbrev Vl := Int × Int × List UInt8 × Bool
abbrev Ex := Int × Int × Int × List UInt8 × Vl × Int × Int
abbrev Ar := Int × List UInt8 × Vl × Int × Int
abbrev Sy := List UInt8 × List Ar × Int × Int
abbrev De := Idn × List Int
abbrev Qu := Bool × Idn × Int
abbrev Fr := Idn × Vl
abbrev St := Idn × Bool × Bool
abbrev Se := Idn × Int
abbrev Tn := Idn × Idn × Sy × List Ex × Int × List Se
instance decVl : DecidableEq Vl := inferInstance
def noIdn : Idn := ([], 0, 0)
def noVl : Vl := (0, 0, [], false)
def noEx : Ex := (0, 0, 0, [], noVl, 0, 0)
def noAr : Ar := (0, [], noVl, 0, 0)
def noSy : Nat × Sy := (1, [], [], 0, 0)
def noDe : Nat × De := (1, noIdn, [])
def noFr : Fr := (noIdn, noVl)
def noTn : (Nat × Nat × Nat) × Tn := ((1, 1, 1), noIdn, noIdn, ([], [], 0, 0), [], 0, [])
def vlA (v : Vl) : List AV := [.int .i64 v.1, .int .i64 v.2.1, .str v.2.2.1, .bool v.2.2.2]
def exA (x : Ex) : List AV := [.int .i64 x.1, .int .i64 x.2.1, .int .i64 x.2.2.1, .str x.2.2.2.1, .int .i64 x.2.2.2.2.1.1, .int .i64 x.2.2.2.2.1.2.1, .str x.2.2.2.2.1.2.2.1, .bool x.2.2.2.2.1.2.2.2, .int .i64 x.2.2.2.2.2.1, .int .i64 x.2.2.2.2.2.2]
def arA (x : Ar) : List AV := [.int .i64 x.1, .str x.2.1, .int .i64 x.2.2.1.1, .int .i64 x.2.2.1.2.1, .str x.2.2.1.2.2.1, .bool x.2.2.1.2.2.2, .int .i64 x.2.2.2.1, .int .i64 x.2.2.2.2]
/-- A symbol, with the token of its arguments. -/
def syA (x : Nat × Sy) : List AV := [.str x.2.1, .slice x.1 (x.2.2.1.map arA), .int .i64 x.2.2.2.1, .int .i64 x.2.2.2.2]
def deA (x : Nat × De) : List AV := [.str x.2.1.1, .int .i64 x.2.1.2.1, .int .i64 x.2.1.2.2, .slice x.1 (intsA .i64 x.2.2)]
def quA (x : Qu) : List AV := [.bool x.1, .str x.2.1.1, .int .i64 x.2.1.2.1, .int .i64 x.2.1.2.2, .int .i64 x.2.2]
def frA (x : Fr) : List AV := [.str x.1.1, .int .i64 x.1.2.1, .int .i64 x.1.2.2, .int .i64 x.2.1, .int .i64 x.2.2.1, .str x.2.2.2.1, .bool x.2.2.2.2]
def stA (x : St) : List AV := [.str x.1.1, .int .i64 x.1.2.1, .int .i64 x.1.2.2, .bool x.2.1, .bool x.2.2]
def seA (x : Se) : List AV := [.str x.1.1, .int .i64 x.1.2.1, .int .i64 x.1.2.2, .int .i64 x.2]
/-- A transition, with the tokens of its symbol's arguments, its nodes and its sets. -/
def tnA (x : (Nat × Nat × Nat) × Tn) : List AV := [.str x.2.1.1, .int .i64 x.2.1.2.1, .int .i64 x.2.1.2.2, .str x.2.2.1.1, .int .i64 x.2.2.1.2.1, .int .i64 x.2.2.1.2.2,
  .str x.2.2.2.1.1, .slice x.1.1 (x.2.2.2.1.2.1.map arA), .int .i64 x.2.2.2.1.2.2.1, .int .i64 x.2.2.2.1.2.2.2,
  .slice x.1.2.1 (x.2.2.2.2.1.map exA), .int .i64 x.2.2.2.2.2.1, .slice x.1.2.2 (x.2.2.2.2.2.2.map seA)]
theorem eq_idn (x y : Idn) : (decide (x.1 = y.1) && (decide (x.2.1 = y.2.1) && (decide (x.2.2 = y.2.2) && true))) = decide (x = y) := by
  rw [Bool.eq_iff_iff]; simp [Prod.ext_iff]
theorem eq_vl (x y : Vl) : (decide (x.1 = y.1) && (decide (x.2.1 = y.2.1) && (decide (x.2.2.1 = y.2.2.1) && ((x.2.2.2 == y.2.2.2) && true)))) = decide (x = y) := by
  rw [Bool.eq_iff_iff]; simp [Prod.ext_iff]
theorem bool_eq {a b : Bool} (h : a = b) : AV.bool a = .bool b := by rw [h]
theorem map_get {α : Type} {f : α → List AV} {l : List α} (d : α) {i : Nat} (h : i < l.length) : (l.map f).getD i [] = f (l.getD i d) := by
  simp [List.getD, h]
theorem getD_mem {α : Type} {l : List α} (d : α) {i : Nat} (h : i < l.length) : l.getD i d ∈ l := by
  simp [List.getD, h]
end Go.Proofs.YtdhgappjicpglaaGreatDoor.Tr
namespace Go.Proofs.YtdhgappjicpglaaGreatDoor.Tr
open Go Go.Ab Go.RowKit
variable {Γ : Nat → AV}
attribute [local irreducible] APure Sto.set Sto.grow
set_option maxRecDepth 10000
theorem grdVl : (!Tryz.prog.eqGuardType Tryz.prog.depth 49) = true := by kernel_rfl
theorem planVl : planT Tryz.prog 9999 49 = some [(0, 0), (1, 0), (2, 1), (3, 2)] := by kernel_rfl
end Go.Proofs.YtdhgappjicpglaaGreatDoor.Tr
namespace Go.Proofs.YtdhgappjicpglaaGreatDoor.Tr
open Go Go.Ab Go.RowKit
variable {Γ : Nat → AV}
attribute [local irreducible] APure Sto.set Sto.grow
set_option maxRecDepth 10000
/-- A tree; beside some of its lists' elements stand tokens. -/
abbrev Tr0 := Idn × List (Nat × De) × List Qu × List Fr × List St × Idn × List (Nat × Sy) × List ((Nat × Nat × Nat) × Tn)
def trA (k : Nat → Nat) (x : Tr0) : List AV := [.str x.1.1, .int .i64 x.1.2.1, .int .i64 x.1.2.2, .slice (k 0) (x.2.1.map deA), .slice (k 1) (x.2.2.1.map quA), .slice (k 2) (x.2.2.2.1.map frA), .slice (k 3) (x.2.2.2.2.1.map stA),
  .str x.2.2.2.2.2.1.1, .int .i64 x.2.2.2.2.2.1.2.1, .int .i64 x.2.2.2.2.2.1.2.2, .slice (k 4) (x.2.2.2.2.2.2.1.map syA), .slice (k 5) (x.2.2.2.2.2.2.2.map tnA)]
end Go.Proofs.YtdhgappjicpglaaGreatDoor.Tr
namespace Go.Proofs.YtdhgappjicpglaaGreatDoor.Tr
open Go Go.Ab Go.RowKit
variable {Γ : Nat → AV}
attribute [local irreducible] APure Sto.set Sto.grow
set_option maxRecDepth 10000
theorem drop_all {α : Type} {l : List α} {p : α → Bool} (d : α) {i : Nat} (h : i < l.length) : (l.drop i).all p = (p (l.getD i d) && (l.drop (i + 1)).all p) := by
  rw [List.drop_eq_getElem_cons h, List.all_cons]
  simp [List.getD, h]
def arB (a : Ar) : Bool := decide ((a.2.2.1.2.2.1.length : Int) ≤ 100)
def exB (a : Ex) : Bool := decide ((a.2.2.2.2.1.2.2.1.length : Int) ≤ 100)
def frB (a : Fr) : Bool := decide ((a.2.2.2.1.length : Int) ≤ 100)
def deB (a : Nat × De) : Bool := decide ((a.2.2.length : Int) ≤ 12)
def syB (s : Nat × Sy) : Bool := decide ((s.2.2.1.length : Int) ≤ 12) && s.2.2.1.all arB
def tnB (t : (Nat × Nat × Nat) × Tn) : Bool := syB (t.1.1, t.2.2.2.1) && (decide ((t.2.2.2.2.1.length : Int) ≤ 40) && (decide ((t.2.2.2.2.2.2.length : Int) ≤ 12) && t.2.2.2.2.1.all exB))
def lensB (x : Tr0) : Bool := decide ((x.2.1.length : Int) ≤ 12) && (decide ((x.2.2.1.length : Int) ≤ 12) && (decide ((x.2.2.2.1.length : Int) ≤ 12) && (decide ((x.2.2.2.2.1.length : Int) ≤ 12) && (decide ((x.2.2.2.2.2.2.1.length : Int) ≤ 12) && decide ((x.2.2.2.2.2.2.2.length : Int) ≤ 12)))))
def fewB (x : Tr0) : Bool := lensB x && (x.2.1.all deB && (x.2.2.2.1.all frB && (x.2.2.2.2.2.2.1.all syB && x.2.2.2.2.2.2.2.all tnB)))
theorem short_ok (x : Nat × Sy) : APure Tryz.prog Γ 12 [.agg (syA x)] fun v => v = .bool (syB x) := by
  have hlx : (x.2.2.1.map arA).length = x.2.2.1.length := List.length_map ..
  refine APure.of_awp Tryz.func12 rfl (Nat.le_of_ble_eq_true (by kernel_rfl)) (by kernel_rfl) ?_
  intro s
  conv => whnf
  intro b hb
  conv => whnf
  repeat' (first
    | (refine ⟨Sub.refl _, ?_⟩)
    | (refine brA_split (fun h => ?_) (fun h => ?_) <;> (try rw [h]) <;> (try simp only [Bool.false_eq_true, Bool.true_eq_false, ↓reduceIte, decide_eq_true_eq, decide_eq_false_iff_not, Bool.not_eq_true', Bool.not_eq_false'] at h) <;> (conv => whnf))
    | (refine getB_same ?_; conv => whnf)
    | (refine AWp.any (by kernel_rfl) (by kernel_rfl) (by kernel_rfl) ?_; conv => whnf)
    | (apply And.intro; (focus (first | omega | rfl | decide | exact Nat.le_of_ble_eq_true rfl | ((repeat' (first | exact all_nil | refine all_cons ?_ ?_ | rfl | fail)); done) | (simp [-List.length_flatMap]; done) | (simp [-List.length_flatMap]; omega) | fail)); conv => whnf)
    | fail)
  · refine ⟨(Sub.refl _).set hb _ _, bool_eq ?_⟩
    unfold syB
    rw [decide_eq_false (by omega)]
    rfl
  refine AWp.loopA [3] [8, 9, 10, 11, 12, 15, 16, 17, 18, 19, 20, 21, 22, 23, 2, 13, 14] (fun i : Nat => [.int .i64 i]) (fun i s' => i ≤ x.2.2.1.length ∧ s'.bx b = some (28, syA x) ∧ Sub s s' ∧ syB x = (x.2.2.1.drop i).all arB) (fun i => x.2.2.1.length - i) (0) (by kernel_rfl) (by (repeat' (first | refine cons_eq ?_ ?_ | refine int64_of ?_ ?_ ?_ | rfl | omega))) ?_ ?_
  · refine ⟨by omega, set_bx_same, (Sub.refl _).set hb _ _, ?_⟩
    unfold syB
    rw [decide_eq_true (by omega), List.drop_zero, Bool.true_and]
  · rintro q i s1 ⟨hi, h1, hs1, hp⟩
    conv => whnf
    have hga := fun h : i < x.2.2.1.length => map_get (f := arA) (l := x.2.2.1) noAr h
    have hd := fun h : i < x.2.2.1.length => drop_all (p := arB) noAr h
    generalize x.2.2.1.getD i noAr = u at *
    repeat' (first
      | (refine ⟨Sub.refl _, ?_⟩)
      | (refine brA_split (fun h => ?_) (fun h => ?_) <;> (try rw [h]) <;> (try simp only [Bool.false_eq_true, Bool.true_eq_false, ↓reduceIte, decide_eq_true_eq, decide_eq_false_iff_not, Bool.not_eq_true', Bool.not_eq_false'] at h) <;> (conv => whnf))
      | (refine getB_of h1 ?_; conv => whnf)
      | (rw [show (x.2.2.1.map arA).getD ((i : Int)).toNat [] = _ from hga (by omega)]; conv => whnf)
      | (refine getB_same ?_; conv => whnf)
      | (refine AWp.any (by kernel_rfl) (by kernel_rfl) (by kernel_rfl) ?_; conv => whnf)
      | (apply And.intro; (focus (first | omega | rfl | decide | exact Nat.le_of_ble_eq_true rfl | ((repeat' (first | exact all_nil | refine all_cons ?_ ?_ | rfl | fail)); done) | (simp [-List.length_flatMap]; done) | (simp [-List.length_flatMap]; omega) | fail)); conv => whnf)
      | fail)
    · rename_i h
      first | refine ⟨hs1, bool_eq ?_⟩ | refine bool_eq ?_
      rw [hp, hd (by omega), show arB u = false from decide_eq_false (by omega)]
      rfl
    · rename_i h
      refine ⟨i + 1, by (repeat' (first | refine cons_eq ?_ ?_ | refine int64_of ?_ ?_ ?_ | rfl | omega)), by (repeat (first | exact Same.refl _ _ | refine Same.upd rfl ?_ | refine Same.updL rfl ?_ | refine Same.havoc rfl ?_)), ⟨by omega, h1, hs1, ?_⟩, by omega⟩
      rw [hp, hd (by omega), show arB u = true from decide_eq_true (by omega), Bool.true_and]
    · first | refine ⟨hs1, bool_eq ?_⟩ | refine bool_eq ?_
      rw [hp, drop_end (by omega)]
      rfl
end Go.Proofs.YtdhgappjicpglaaGreatDoor.Tr
namespace Go.Proofs.YtdhgappjicpglaaGreatDoor.Tr
open Go Go.Ab Go.RowKit
variable {Γ : Nat → AV}
attribute [local irreducible] APure Sto.set Sto.grow
set_option maxRecDepth 10000
set_option maxHeartbeats 1000000
theorem fewRef_ok (tk : Nat → Nat) (x : Tr0) : APure Tryz.prog Γ 5 [.agg (trA tk x)] fun v => v = .int .i64 (if fewB x = true then 1 else 0) := by
  have l1 : (x.2.1.map deA).length = x.2.1.length := List.length_map ..
  have l3 : (x.2.2.1.map quA).length = x.2.2.1.length := List.length_map ..
  have l5 : (x.2.2.2.1.map frA).length = x.2.2.2.1.length := List.length_map ..
  have l7 : (x.2.2.2.2.1.map stA).length = x.2.2.2.2.1.length := List.length_map ..
  have l9 : (x.2.2.2.2.2.2.1.map syA).length = x.2.2.2.2.2.2.1.length := List.length_map ..
  have l11 : (x.2.2.2.2.2.2.2.map tnA).length = x.2.2.2.2.2.2.2.length := List.length_map ..
  have no : ∀ t : Bool, fewB x = t → t = false → AV.int .i64 0 = .int .i64 (if fewB x = true then 1 else 0) := fun t h1 h2 => by rw [h1, h2]; rfl
  refine APure.of_awp Tryz.func5 rfl (Nat.le_of_ble_eq_true (by kernel_rfl)) (by kernel_rfl) ?_
  intro s
  conv => whnf
  intro b hb
  conv => whnf
  repeat' (first
    | (refine ⟨Sub.refl _, ?_⟩)
    | (refine brA_split (fun h => ?_) (fun h => ?_) <;> (try rw [h]) <;> (try simp only [Bool.false_eq_true, Bool.true_eq_false, ↓reduceIte, decide_eq_true_eq, decide_eq_false_iff_not, Bool.not_eq_true', Bool.not_eq_false'] at h) <;> (conv => whnf))
    | (refine getB_same ?_; conv => whnf)
    | (refine AWp.any (by kernel_rfl) (by kernel_rfl) (by kernel_rfl) ?_; conv => whnf)
    | (apply And.intro; (focus (first | omega | rfl | decide | exact Nat.le_of_ble_eq_true rfl | ((repeat' (first | exact all_nil | refine all_cons ?_ ?_ | rfl | fail)); done) | (simp [-List.length_flatMap]; done) | (simp [-List.length_flatMap]; omega) | fail)); conv => whnf)
    | fail)
  all_goals try (refine ⟨(Sub.refl _).set hb _ _, no (lensB x && (x.2.1.all deB && (x.2.2.2.1.all frB && (x.2.2.2.2.2.2.1.all syB && x.2.2.2.2.2.2.2.all tnB)))) rfl ?_⟩; rw [show lensB x = false from Bool.eq_false_iff.2 (fun hh => by simp only [lensB, Bool.and_eq_true, decide_eq_true_eq] at hh; omega)]; rfl)
  have hp0 : fewB x = (x.2.1.all deB && (x.2.2.2.1.all frB && (x.2.2.2.2.2.2.1.all syB && x.2.2.2.2.2.2.2.all tnB))) := by
    unfold fewB
    rw [show lensB x = true from by simp only [lensB, Bool.and_eq_true, decide_eq_true_eq]; omega]
    rfl
  refine AWp.loopA [3] [43, 44, 45, 46, 47, 50, 51, 52, 53, 54, 55, 56, 57, 2, 48, 49] (fun i : Nat => [.int .i64 i]) (fun i s' => i ≤ x.2.1.length ∧ s'.bx b = some (39, trA tk x) ∧ Sub s s' ∧ fewB x = ((x.2.1.drop i).all deB && (x.2.2.2.1.all frB && (x.2.2.2.2.2.2.1.all syB && x.2.2.2.2.2.2.2.all tnB)))) (fun i => x.2.1.length - i) (0) (by kernel_rfl) (by (repeat' (first | refine cons_eq ?_ ?_ | refine int64_of ?_ ?_ ?_ | rfl | omega))) ?_ ?_
  · exact ⟨by omega, set_bx_same, (Sub.refl _).set hb _ _, hp0⟩
  · rintro q i s1 ⟨hi, h1, hs1, hp⟩
    conv => whnf
    have hga := fun h : i < x.2.1.length => map_get (f := deA) (l := x.2.1) noDe h
    have hd := fun h : i < x.2.1.length => drop_all (p := deB) noDe h
    generalize x.2.1.getD i noDe = u at *
    have hu := intsA_len .i64 u.2.2
    repeat' (first
      | (refine ⟨Sub.refl _, ?_⟩)
      | (refine brA_split (fun h => ?_) (fun h => ?_) <;> (try rw [h]) <;> (try simp only [Bool.false_eq_true, Bool.true_eq_false, ↓reduceIte, decide_eq_true_eq, decide_eq_false_iff_not, Bool.not_eq_true', Bool.not_eq_false'] at h) <;> (conv => whnf))
      | (refine getB_of h1 ?_; conv => whnf)
      | (rw [show (x.2.1.map deA).getD ((i : Int)).toNat [] = _ from hga (by omega)]; conv => whnf)
      | (refine getB_same ?_; conv => whnf)
      | (refine AWp.any (by kernel_rfl) (by kernel_rfl) (by kernel_rfl) ?_; conv => whnf)
      | (apply And.intro; (focus (first | omega | rfl | decide | exact Nat.le_of_ble_eq_true rfl | ((repeat' (first | exact all_nil | refine all_cons ?_ ?_ | rfl | fail)); done) | (simp [-List.length_flatMap]; done) | (simp [-List.length_flatMap]; omega) | fail)); conv => whnf)
      | fail)
    · first | refine ⟨hs1, ?_⟩ | skip
      refine no _ hp ?_
      rw [hd (by omega), show deB u = false from decide_eq_false (by omega)]
      rfl
    · refine ⟨i + 1, by (repeat' (first | refine cons_eq ?_ ?_ | refine int64_of ?_ ?_ ?_ | rfl | omega)), by (repeat (first | exact Same.refl _ _ | refine Same.upd rfl ?_ | refine Same.updL rfl ?_ | refine Same.havoc rfl ?_)), ⟨by omega, h1, hs1, ?_⟩, by omega⟩
      rw [hp, hd (by omega), show deB u = true from decide_eq_true (by omega), Bool.true_and]
    · rw [drop_end (by omega), List.all_nil, Bool.true_and] at hp
      refine AWp.loopA [4] [58, 59, 60, 61, 62, 65, 66, 67, 68, 69, 70, 71, 72, 73, 2, 63, 64] (fun i : Nat => [.int .i64 i]) (fun i s' => i ≤ x.2.2.2.1.length ∧ s'.bx b = some (39, trA tk x) ∧ Sub s s' ∧ fewB x = ((x.2.2.2.1.drop i).all frB && (x.2.2.2.2.2.2.1.all syB && x.2.2.2.2.2.2.2.all tnB))) (fun i => x.2.2.2.1.length - i) (0) (by kernel_rfl) (by (repeat' (first | refine cons_eq ?_ ?_ | refine int64_of ?_ ?_ ?_ | rfl | omega))) ?_ ?_
      · exact ⟨by omega, h1, hs1, hp⟩
      · clear hp hga hd hi
        rintro q i s1 ⟨hi, h1, hs1, hp⟩
        conv => whnf
        have hga := fun h : i < x.2.2.2.1.length => map_get (f := frA) (l := x.2.2.2.1) noFr h
        have hd := fun h : i < x.2.2.2.1.length => drop_all (p := frB) noFr h
        generalize x.2.2.2.1.getD i noFr = u at *
        repeat' (first
          | (refine ⟨Sub.refl _, ?_⟩)
          | (refine brA_split (fun h => ?_) (fun h => ?_) <;> (try rw [h]) <;> (try simp only [Bool.false_eq_true, Bool.true_eq_false, ↓reduceIte, decide_eq_true_eq, decide_eq_false_iff_not, Bool.not_eq_true', Bool.not_eq_false'] at h) <;> (conv => whnf))
          | (refine getB_of h1 ?_; conv => whnf)
          | (rw [show (x.2.2.2.1.map frA).getD ((i : Int)).toNat [] = _ from hga (by omega)]; conv => whnf)
          | (refine getB_same ?_; conv => whnf)
          | (refine AWp.any (by kernel_rfl) (by kernel_rfl) (by kernel_rfl) ?_; conv => whnf)
          | (apply And.intro; (focus (first | omega | rfl | decide | exact Nat.le_of_ble_eq_true rfl | ((repeat' (first | exact all_nil | refine all_cons ?_ ?_ | rfl | fail)); done) | (simp [-List.length_flatMap]; done) | (simp [-List.length_flatMap]; omega) | fail)); conv => whnf)
          | fail)
        · first | refine ⟨hs1, ?_⟩ | skip
          refine no _ hp ?_
          rw [hd (by omega), show frB u = false from decide_eq_false (by omega)]
          rfl
        · refine ⟨i + 1, by (repeat' (first | refine cons_eq ?_ ?_ | refine int64_of ?_ ?_ ?_ | rfl | omega)), by (repeat (first | exact Same.refl _ _ | refine Same.upd rfl ?_ | refine Same.updL rfl ?_ | refine Same.havoc rfl ?_)), ⟨by omega, h1, hs1, ?_⟩, by omega⟩
          rw [hp, hd (by omega), show frB u = true from decide_eq_true (by omega), Bool.true_and]
        · rw [drop_end (by omega), List.all_nil, Bool.true_and] at hp
          refine AWp.loopA [5] [74, 75, 76, 77, 78, 81, 82, 83, 84, 85, 86, 87, 2, 79, 80] (fun i : Nat => [.int .i64 i]) (fun i s' => i ≤ x.2.2.2.2.2.2.1.length ∧ s'.bx b = some (39, trA tk x) ∧ Sub s s' ∧ fewB x = ((x.2.2.2.2.2.2.1.drop i).all syB && x.2.2.2.2.2.2.2.all tnB)) (fun i => x.2.2.2.2.2.2.1.length - i) (0) (by kernel_rfl) (by (repeat' (first | refine cons_eq ?_ ?_ | refine int64_of ?_ ?_ ?_ | rfl | omega))) ?_ ?_
          · exact ⟨by omega, h1, hs1, hp⟩
          · clear hp hga hd hi
            rintro q i s1 ⟨hi, h1, hs1, hp⟩
            conv => whnf
            have hga := fun h : i < x.2.2.2.2.2.2.1.length => map_get (f := syA) (l := x.2.2.2.2.2.2.1) noSy h
            have hd := fun h : i < x.2.2.2.2.2.2.1.length => drop_all (p := syB) noSy h
            generalize x.2.2.2.2.2.2.1.getD i noSy = u at *
            repeat' (first
              | (refine ⟨Sub.refl _, ?_⟩)
              | (refine brA_split (fun h => ?_) (fun h => ?_) <;> (try rw [h]) <;> (try simp only [Bool.false_eq_true, Bool.true_eq_false, ↓reduceIte, decide_eq_true_eq, decide_eq_false_iff_not, Bool.not_eq_true', Bool.not_eq_false'] at h) <;> (conv => whnf))
              | (refine getB_of h1 ?_; conv => whnf)
              | (rw [show (x.2.2.2.2.2.2.1.map syA).getD ((i : Int)).toNat [] = _ from hga (by omega)]; conv => whnf)
              | (refine ACalls.pure' ?_ (short_ok u); rintro _ rfl; conv => whnf)
              | (refine DCall.pure ?_ (short_ok u); conv => whnf)
              | (refine getB_same ?_; conv => whnf)
              | (refine AWp.any (by kernel_rfl) (by kernel_rfl) (by kernel_rfl) ?_; conv => whnf)
              | (apply And.intro; (focus (first | omega | rfl | decide | exact Nat.le_of_ble_eq_true rfl | ((repeat' (first | exact all_nil | refine all_cons ?_ ?_ | rfl | fail)); done) | (simp [-List.length_flatMap]; done) | (simp [-List.length_flatMap]; omega) | fail)); conv => whnf)
              | fail)
            · first | refine ⟨hs1, ?_⟩ | skip
              refine no _ hp ?_
              rw [hd (by omega), show syB u = false by assumption]
              rfl
            · refine ⟨i + 1, by (repeat' (first | refine cons_eq ?_ ?_ | refine int64_of ?_ ?_ ?_ | rfl | omega)), by (repeat (first | exact Same.refl _ _ | refine Same.upd rfl ?_ | refine Same.updL rfl ?_ | refine Same.havoc rfl ?_)), ⟨by omega, h1, hs1, ?_⟩, by omega⟩
              rw [hp, hd (by omega), show syB u = true by assumption, Bool.true_and]
            · rw [drop_end (by omega), List.all_nil, Bool.true_and] at hp
              refine AWp.loopA [6] [88, 89, 90, 91, 92, 95, 96, 97, 98, 99, 7, 100, 101, 102, 103, 104, 105, 106, 107, 108, 109, 110, 111, 112, 113, 114, 115, 2, 8, 116, 117, 118, 119, 120, 123, 124, 125, 126, 127, 128, 129, 130, 131, 121, 122, 93, 94] (fun i : Nat => [.int .i64 i]) (fun i s' => i ≤ x.2.2.2.2.2.2.2.length ∧ s'.bx b = some (39, trA tk x) ∧ Sub s s' ∧ fewB x = (x.2.2.2.2.2.2.2.drop i).all tnB) (fun i => x.2.2.2.2.2.2.2.length - i) (0) (by kernel_rfl) (by (repeat' (first | refine cons_eq ?_ ?_ | refine int64_of ?_ ?_ ?_ | rfl | omega))) ?_ ?_
              · exact ⟨by omega, h1, hs1, hp⟩
              · clear hp hga hd hi
                rintro q i s1 ⟨hi, h1, hs1, hp⟩
                conv => whnf
                have hga := fun h : i < x.2.2.2.2.2.2.2.length => map_get (f := tnA) (l := x.2.2.2.2.2.2.2) noTn h
                have hd := fun h : i < x.2.2.2.2.2.2.2.length => drop_all (p := tnB) noTn h
                generalize x.2.2.2.2.2.2.2.getD i noTn = u at *
                have lu : (u.2.2.2.2.1.map exA).length = u.2.2.2.2.1.length := List.length_map ..
                have lv : (u.2.2.2.2.2.2.map seA).length = u.2.2.2.2.2.2.length := List.length_map ..
                repeat' (first
                  | (refine ⟨Sub.refl _, ?_⟩)
                  | (refine brA_split (fun h => ?_) (fun h => ?_) <;> (try rw [h]) <;> (try simp only [Bool.false_eq_true, Bool.true_eq_false, ↓reduceIte, decide_eq_true_eq, decide_eq_false_iff_not, Bool.not_eq_true', Bool.not_eq_false'] at h) <;> (conv => whnf))
                  | (refine getB_of h1 ?_; conv => whnf)
                  | (rw [show (x.2.2.2.2.2.2.2.map tnA).getD ((i : Int)).toNat [] = _ from hga (by omega)]; conv => whnf)
                  | (refine getB_same ?_; conv => whnf)
                  | (refine AWp.any (by kernel_rfl) (by kernel_rfl) (by kernel_rfl) ?_; conv => whnf)
                  | (apply And.intro; (focus (first | omega | rfl | decide | exact Nat.le_of_ble_eq_true rfl | ((repeat' (first | exact all_nil | refine all_cons ?_ ?_ | rfl | fail)); done) | (simp [-List.length_flatMap]; done) | (simp [-List.length_flatMap]; omega) | fail)); conv => whnf)
                  | fail)
                · intro c hc
                  conv => whnf
                  refine getB_of set_bx_same ?_
                  repeat' (first
                    | (refine ⟨Sub.refl _, ?_⟩)
                    | (refine brA_split (fun h => ?_) (fun h => ?_) <;> (try rw [h]) <;> (try simp only [Bool.false_eq_true, Bool.true_eq_false, ↓reduceIte, decide_eq_true_eq, decide_eq_false_iff_not, Bool.not_eq_true', Bool.not_eq_false'] at h) <;> (conv => whnf))
                    | (refine getB_of set_bx_same ?_; conv => whnf)
                    | (refine ACalls.pure' ?_ (short_ok (u.1.1, u.2.2.2.1)); rintro _ rfl; conv => whnf)
                    | (refine DCall.pure ?_ (short_ok (u.1.1, u.2.2.2.1)); conv => whnf)
                    | (refine getB_same ?_; conv => whnf)
                    | (refine AWp.any (by kernel_rfl) (by kernel_rfl) (by kernel_rfl) ?_; conv => whnf)
                    | (apply And.intro; (focus (first | omega | rfl | decide | exact Nat.le_of_ble_eq_true rfl | ((repeat' (first | exact all_nil | refine all_cons ?_ ?_ | rfl | fail)); done) | (simp [-List.length_flatMap]; done) | (simp [-List.length_flatMap]; omega) | fail)); conv => whnf)
                    | fail)
                  · refine ⟨((hs1.set (hs1.none hc) _ _).set (hs1.none hc) _ _), ?_⟩
                    refine no _ hp ?_
                    rw [hd (by omega), show tnB u = false by { unfold tnB; rw [show syB (u.1.1, u.2.2.2.1) = false by assumption]; rfl }]
                    rfl
                  · refine ⟨((hs1.set (hs1.none hc) _ _).set (hs1.none hc) _ _), ?_⟩
                    refine no _ hp ?_
                    rw [hd (by omega), show tnB u = false by { unfold tnB; rw [decide_eq_false (p := (u.2.2.2.2.1.length : Int) ≤ 40) (by omega), Bool.false_and, Bool.and_false] }]
                    rfl
                  · refine ⟨((hs1.set (hs1.none hc) _ _).set (hs1.none hc) _ _), ?_⟩
                    refine no _ hp ?_
                    rw [hd (by omega), show tnB u = false by { unfold tnB; rw [decide_eq_false (p := (u.2.2.2.2.2.2.length : Int) ≤ 12) (by omega), Bool.false_and, Bool.and_false, Bool.and_false] }]
                    rfl
                  · have ht : tnB u = u.2.2.2.2.1.all exB := by
                      unfold tnB
                      rw [show syB (u.1.1, u.2.2.2.1) = true by assumption, decide_eq_true (p := (u.2.2.2.2.1.length : Int) ≤ 40) (by omega), decide_eq_true (p := (u.2.2.2.2.2.2.length : Int) ≤ 12) (by omega)]
                      rfl
                    have e1 := ne_of_none h1 hc
                    refine AWp.loopA [8] [116, 117, 118, 119, 120, 123, 124, 125, 126, 127, 128, 129, 130, 131, 2, 121, 122] (fun k : Nat => [.int .i64 k]) (fun k s' => k ≤ u.2.2.2.2.1.length ∧ s'.bx c = some (31, tnA u) ∧ s'.bx b = some (39, trA tk x) ∧ Sub s s' ∧ tnB u = (u.2.2.2.2.1.drop k).all exB) (fun k => u.2.2.2.2.1.length - k) (0) (by kernel_rfl) (by (repeat' (first | refine cons_eq ?_ ?_ | refine int64_of ?_ ?_ ?_ | rfl | omega))) ?_ ?_
                    · refine ⟨by omega, set_bx_same, ?_, ((hs1.set (hs1.none hc) _ _).set (hs1.none hc) _ _), ht⟩
                      rw [set_bx_other e1, set_bx_other e1]; exact h1
                    · rintro q2 k s2 ⟨hk, g1, g2, hs2, hq⟩
                      conv => whnf
                      have hgk := fun h : k < u.2.2.2.2.1.length => map_get (f := exA) (l := u.2.2.2.2.1) noEx h
                      have hdk := fun h : k < u.2.2.2.2.1.length => drop_all (p := exB) noEx h
                      generalize u.2.2.2.2.1.getD k noEx = z at *
                      repeat' (first
                        | (refine ⟨Sub.refl _, ?_⟩)
                        | (refine brA_split (fun h => ?_) (fun h => ?_) <;> (try rw [h]) <;> (try simp only [Bool.false_eq_true, Bool.true_eq_false, ↓reduceIte, decide_eq_true_eq, decide_eq_false_iff_not, Bool.not_eq_true', Bool.not_eq_false'] at h) <;> (conv => whnf))
                        | (refine getB_of g1 ?_; conv => whnf)
                        | (rw [show (u.2.2.2.2.1.map exA).getD ((k : Int)).toNat [] = _ from hgk (by omega)]; conv => whnf)
                        | (refine getB_same ?_; conv => whnf)
                        | (refine AWp.any (by kernel_rfl) (by kernel_rfl) (by kernel_rfl) ?_; conv => whnf)
                        | (apply And.intro; (focus (first | omega | rfl | decide | exact Nat.le_of_ble_eq_true rfl | ((repeat' (first | exact all_nil | refine all_cons ?_ ?_ | rfl | fail)); done) | (simp [-List.length_flatMap]; done) | (simp [-List.length_flatMap]; omega) | fail)); conv => whnf)
                        | fail)
                      · first | refine ⟨hs2, ?_⟩ | skip
                        refine no _ hp ?_
                        rw [hd (by omega), hq, hdk (by omega), show exB z = false from decide_eq_false (by omega)]
                        rfl
                      · refine ⟨k + 1, by (repeat' (first | refine cons_eq ?_ ?_ | refine int64_of ?_ ?_ ?_ | rfl | omega)), by (repeat (first | exact Same.refl _ _ | refine Same.upd rfl ?_ | refine Same.updL rfl ?_ | refine Same.havoc rfl ?_)), ⟨by omega, g1, g2, hs2, ?_⟩, by omega⟩
                        rw [hq, hdk (by omega), show exB z = true from decide_eq_true (by omega), Bool.true_and]
                      · rw [drop_end (by omega), List.all_nil] at hq
                        refine ⟨i + 1, by (repeat' (first | refine cons_eq ?_ ?_ | refine int64_of ?_ ?_ ?_ | rfl | omega)), by (repeat (first | exact Same.refl _ _ | refine Same.upd rfl ?_ | refine Same.updL rfl ?_ | refine Same.havoc rfl ?_)), ⟨by omega, g2, hs2, ?_⟩, by omega⟩
                        rw [hp, hd (by omega), hq, Bool.true_and]
                · rw [drop_end (by omega), List.all_nil] at hp
                  first | refine ⟨hs1, ?_⟩ | skip
                  rw [hp]
                  rfl
end Go.Proofs.YtdhgappjicpglaaGreatDoor.Tr
namespace Go.Proofs.YtdhgappjicpglaaGreatDoor.Tr
open Go Go.Ab Go.RowKit
variable {Γ : Nat → AV}
attribute [local irreducible] APure Sto.set Sto.grow
set_option maxRecDepth 10000
set_option maxHeartbeats 1000000
theorem valInt_ok (n : Int) : APure Tryz.prog Γ 58 [.int .i64 n] fun v => v = .agg (vlA (1, n, [], false)) := by
  refine APure.of_awp Tryz.func58 rfl (Nat.le_of_ble_eq_true (by kernel_rfl)) (by kernel_rfl) ?_
  intro s
  conv => whnf
  intro b hb
  conv => whnf
  repeat' (first
    | (refine ⟨Sub.refl _, ?_⟩)
    | (refine brA_split (fun h => ?_) (fun h => ?_) <;> (try rw [h]) <;> (try simp only [Bool.false_eq_true, Bool.true_eq_false, ↓reduceIte, decide_eq_true_eq, decide_eq_false_iff_not, Bool.not_eq_true', Bool.not_eq_false'] at h) <;> (conv => whnf))
    | (refine getB_of set_bx_same ?_; conv => whnf)
    | (refine getB_same ?_; conv => whnf)
    | (refine AWp.any (by kernel_rfl) (by kernel_rfl) (by kernel_rfl) ?_; conv => whnf)
    | (apply And.intro; (focus (first | omega | rfl | decide | exact Nat.le_of_ble_eq_true rfl | ((repeat' (first | exact all_nil | refine all_cons ?_ ?_ | rfl | fail)); done) | (simp [-List.length_flatMap]; done) | (simp [-List.length_flatMap]; omega) | fail)); conv => whnf)
    | fail)
  exact ⟨((Sub.refl _).set hb _ _).set hb _ _, rfl⟩
def e1 : Ex := (1, 0, 0, [], (1, 2, [], false), 0, 0)
def e2 : Ex := (1, 0, 0, [], (1, 3, [], false), 0, 0)
def e3 : Ex := (8, 0, 1, [], noVl, 0, 0)
end Go.Proofs.YtdhgappjicpglaaGreatDoor.Tr
namespace Go.Proofs.YtdhgappjicpglaaGreatDoor.Tr
open Go Go.Ab Go.RowKit
variable {Γ : Nat → AV}
attribute [local irreducible] APure Sto.set Sto.grow
set_option maxRecDepth 10000
set_option maxHeartbeats 1000000
def rightV (v : Vl) : Bool :=
  if v.1 = 1 then decide (v.2.2.1 = []) && !v.2.2.2
  else if v.1 = 2 then decide (v.2.1 = 0) && !v.2.2.2 && decide (v.2.2.1.length ≤ 4096)
  else decide (v.1 = 3) && decide (v.2.1 = 0) && decide (v.2.2.1 = [])
theorem valStr_ok (s : List UInt8) : APure Tryz.prog Γ 59 [.str s] fun v => v = .agg (vlA (2, 0, s, false)) := by
  refine APure.of_awp Tryz.func59 rfl (Nat.le_of_ble_eq_true (by kernel_rfl)) (by kernel_rfl) ?_
  intro s
  conv => whnf
  intro b hb
  conv => whnf
  repeat' (first
    | (refine ⟨Sub.refl _, ?_⟩)
    | (refine brA_split (fun h => ?_) (fun h => ?_) <;> (try rw [h]) <;> (try simp only [Bool.false_eq_true, Bool.true_eq_false, ↓reduceIte, decide_eq_true_eq, decide_eq_false_iff_not, Bool.not_eq_true', Bool.not_eq_false'] at h) <;> (conv => whnf))
    | (refine getB_of set_bx_same ?_; conv => whnf)
    | (refine getB_same ?_; conv => whnf)
    | (refine AWp.any (by kernel_rfl) (by kernel_rfl) (by kernel_rfl) ?_; conv => whnf)
    | (apply And.intro; (focus (first | omega | rfl | decide | exact Nat.le_of_ble_eq_true rfl | ((repeat' (first | exact all_nil | refine all_cons ?_ ?_ | rfl | fail)); done) | (simp [-List.length_flatMap]; done) | (simp [-List.length_flatMap]; omega) | fail)); conv => whnf)
    | fail)
  exact ⟨((Sub.refl _).set hb _ _).set hb _ _, rfl⟩
theorem valBool_ok (t : Bool) : APure Tryz.prog Γ 60 [.bool t] fun v => v = .agg (vlA (3, 0, [], t)) := by
  refine APure.of_awp Tryz.func60 rfl (Nat.le_of_ble_eq_true (by kernel_rfl)) (by kernel_rfl) ?_
  intro s
  conv => whnf
  intro b hb
  conv => whnf
  repeat' (first
    | (refine ⟨Sub.refl _, ?_⟩)
    | (refine brA_split (fun h => ?_) (fun h => ?_) <;> (try rw [h]) <;> (try simp only [Bool.false_eq_true, Bool.true_eq_false, ↓reduceIte, decide_eq_true_eq, decide_eq_false_iff_not, Bool.not_eq_true', Bool.not_eq_false'] at h) <;> (conv => whnf))
    | (refine getB_of set_bx_same ?_; conv => whnf)
    | (refine getB_same ?_; conv => whnf)
    | (refine AWp.any (by kernel_rfl) (by kernel_rfl) (by kernel_rfl) ?_; conv => whnf)
    | (apply And.intro; (focus (first | omega | rfl | decide | exact Nat.le_of_ble_eq_true rfl | ((repeat' (first | exact all_nil | refine all_cons ?_ ?_ | rfl | fail)); done) | (simp [-List.length_flatMap]; done) | (simp [-List.length_flatMap]; omega) | fail)); conv => whnf)
    | fail)
  exact ⟨((Sub.refl _).set hb _ _).set hb _ _, rfl⟩
theorem rightV_ok (v : Vl) : APure Tryz.prog Γ 41 [.agg (vlA v)] fun x => x = .bool (rightV v) := by
  obtain ⟨k, n, s, t⟩ := v
  refine APure.of_awp Tryz.func41 rfl (Nat.le_of_ble_eq_true (by kernel_rfl)) (by kernel_rfl) ?_
  intro s
  conv => whnf
  intro b hb
  conv => whnf
  repeat' (first
    | (refine ⟨Sub.refl _, ?_⟩)
    | (refine brA_split (fun h => ?_) (fun h => ?_) <;> (try rw [h]) <;> (try simp only [Bool.false_eq_true, Bool.true_eq_false, ↓reduceIte, decide_eq_true_eq, decide_eq_false_iff_not, Bool.not_eq_true', Bool.not_eq_false'] at h) <;> (conv => whnf))
    | (refine ACalls.pure' ?_ (valInt_ok _); rintro _ rfl; conv => whnf)
    | (refine DCall.pure ?_ (valInt_ok _); conv => whnf)
    | (refine ACalls.pure' ?_ (valStr_ok _); rintro _ rfl; conv => whnf)
    | (refine DCall.pure ?_ (valStr_ok _); conv => whnf)
    | (refine ACalls.pure' ?_ (valBool_ok _); rintro _ rfl; conv => whnf)
    | (refine DCall.pure ?_ (valBool_ok _); conv => whnf)
    | (refine EqAgg.of grdVl planVl ?_; conv => whnf)
    | (refine getB_same ?_; conv => whnf)
    | (refine AWp.any (by kernel_rfl) (by kernel_rfl) (by kernel_rfl) ?_; conv => whnf)
    | (apply And.intro; (focus (first | omega | rfl | decide | exact Nat.le_of_ble_eq_true rfl | ((repeat' (first | exact all_nil | refine all_cons ?_ ?_ | rfl | fail)); done) | (simp [-List.length_flatMap]; done) | (simp [-List.length_flatMap]; omega) | fail)); conv => whnf)
    | fail)
  all_goals refine ⟨(Sub.refl _).set hb _ _, bool_eq ?_⟩
  all_goals (try simp only [] at *)
  all_goals grind [rightV]
/-- A node that has no expressions, and may be; nm: which texts are names. -/
def loneB (nm : List UInt8 → Bool) (x : Ex) : Bool :=
  if x.2.1 ≠ 0 ∨ x.2.2.1 ≠ 0 then false
  else if x.1 = 1 then decide (x.2.2.2.1 = []) && rightV x.2.2.2.2.1
  else decide (x.1 = 17) && (decide (x.2.2.2.2.1 = noVl) && nm x.2.2.2.1)
theorem lone_ok (nm : List UInt8 → Bool) (x : Ex) (hn : APure Tryz.prog Γ 57 [.str x.2.2.2.1] fun v => v = .bool (nm x.2.2.2.1)) : APure Tryz.prog Γ 40 [.agg (exA x)] fun v => v = .bool (loneB nm x) := by
  have hev := eq_vl x.2.2.2.2.1 noVl
  refine APure.of_awp Tryz.func40 rfl (Nat.le_of_ble_eq_true (by kernel_rfl)) (by kernel_rfl) ?_
  intro s
  conv => whnf
  intro b hb
  conv => whnf
  repeat' (first
    | (exfalso; first | omega | exact (by assumption : ¬ True) trivial | fail)
    | (refine ⟨Sub.refl _, ?_⟩)
    | (refine brA_split (fun h => ?_) (fun h => ?_) <;> (try rw [h]) <;> (try simp only [Bool.false_eq_true, Bool.true_eq_false, ↓reduceIte, decide_eq_true_eq, decide_eq_false_iff_not, Bool.not_eq_true', Bool.not_eq_false'] at h) <;> (conv => whnf))
    | (refine ACalls.pure' ?_ (rightV_ok x.2.2.2.2.1); rintro _ rfl; conv => whnf)
    | (refine DCall.pure ?_ (rightV_ok x.2.2.2.2.1); conv => whnf)
    | (refine EqAgg.of grdVl planVl ?_; conv => whnf)
    | (refine ACalls.pure' ?_ (hn); rintro _ rfl; conv => whnf)
    | (refine DCall.pure ?_ (hn); conv => whnf)
    | (refine getB_same ?_; conv => whnf)
    | (refine AWp.any (by kernel_rfl) (by kernel_rfl) (by kernel_rfl) ?_; conv => whnf)
    | (apply And.intro; (focus (first | omega | rfl | decide | exact Nat.le_of_ble_eq_true rfl | ((repeat' (first | exact all_nil | refine all_cons ?_ ?_ | rfl | fail)); done) | (simp [-List.length_flatMap]; done) | (simp [-List.length_flatMap]; omega) | fail)); conv => whnf)
    | fail)
  all_goals refine ⟨(Sub.refl _).set hb _ _, bool_eq ?_⟩
  all_goals (unfold loneB; rw [← hev])
  all_goals grind [noVl]
end Go.Proofs.YtdhgappjicpglaaGreatDoor.Tr
namespace Go.Proofs.YtdhgappjicpglaaGreatDoor.Tr
open Go Go.Ab Go.RowKit
variable {Γ : Nat → AV}
attribute [local irreducible] APure Sto.set Sto.grow
set_option maxRecDepth 10000
set_option maxHeartbeats 1000000
/-- What is told of a node, of what was told of those ahead: of how many nodes, and how deep. -/
def nodeOf (nm : List UInt8 → Bool) (x : Ex) (i : Nat) (r : List (Int × Int)) : Int × Int :=
  if loneB nm x = true then (1, 1)
  else if x.1 < 4 ∨ 16 < x.1 ∨ x.2.2.2.1 ≠ [] ∨ x.2.2.2.2.1 ≠ noVl ∨ i = 0 ∨ (r.getD (i - 1) (0, 0)).1 = 0 then (0, 0)
  else if x.1 ≤ 5 then (if x.2.1 = (i : Int) - 1 ∧ x.2.2.1 = 0 then ((r.getD (i - 1) (0, 0)).1 + 1, (r.getD (i - 1) (0, 0)).2 + 1) else (0, 0))
  else if x.2.2.1 = (i : Int) - 1 ∧ x.2.1 = (i : Int) - 1 - (r.getD (i - 1) (0, 0)).1 ∧ 0 ≤ (i : Int) - 1 - (r.getD (i - 1) (0, 0)).1 ∧ 0 < (r.getD ((i : Int) - 1 - (r.getD (i - 1) (0, 0)).1).toNat (0, 0)).1 then
    ((r.getD ((i : Int) - 1 - (r.getD (i - 1) (0, 0)).1).toNat (0, 0)).1 + (r.getD (i - 1) (0, 0)).1 + 1, max (r.getD ((i : Int) - 1 - (r.getD (i - 1) (0, 0)).1).toNat (0, 0)).2 (r.getD (i - 1) (0, 0)).2 + 1)
  else (0, 0)
def tab (nm : List UInt8 → Bool) (l : List Ex) : Nat → List (Int × Int)
  | 0 => []
  | i + 1 => tab nm l i ++ [nodeOf nm (l.getD i noEx) i (tab nm l i)]
theorem tab_len (nm : List UInt8 → Bool) (l : List Ex) : ∀ i, (tab nm l i).length = i
  | 0 => rfl
  | i + 1 => by rw [tab, List.length_append, tab_len nm l i]; rfl
theorem getD_left {α : Type} {r : List α} {d p : α} {j : Nat} (h : j < r.length) : (r ++ [p]).getD j d = r.getD j d := by
  simp [List.getD, List.getElem?_append_left h]
theorem getD_last {α : Type} {r : List α} {d p : α} : (r ++ [p]).getD r.length d = p := by
  simp [List.getD]
theorem nodeOf_bound {nm : List UInt8 → Bool} {x : Ex} {i : Nat} {r : List (Int × Int)} (h : ∀ j : Nat, j < i → 0 ≤ (r.getD j (0, 0)).1 ∧ (r.getD j (0, 0)).1 ≤ j + 1 ∧ 0 ≤ (r.getD j (0, 0)).2 ∧ (r.getD j (0, 0)).2 ≤ j + 1) :
    0 ≤ (nodeOf nm x i r).1 ∧ (nodeOf nm x i r).1 ≤ i + 1 ∧ 0 ≤ (nodeOf nm x i r).2 ∧ (nodeOf nm x i r).2 ≤ i + 1 := by
  unfold nodeOf
  split
  · simp only []; omega
  split
  · simp only []; omega
  rename_i h1 h2
  have hp := h (i - 1) (by omega)
  generalize r.getD (i - 1) (0, 0) = p at *
  split
  · split
    · simp only []; omega
    · simp only []; omega
  · split
    · rename_i h4
      have hq := h ((i : Int) - 1 - p.1).toNat (by omega)
      generalize r.getD ((i : Int) - 1 - p.1).toNat (0, 0) = q at *
      simp only []
      omega
    · simp only []; omega
theorem tab_bound (nm : List UInt8 → Bool) (l : List Ex) : ∀ i j : Nat, j < i → 0 ≤ ((tab nm l i).getD j (0, 0)).1 ∧ ((tab nm l i).getD j (0, 0)).1 ≤ j + 1 ∧ 0 ≤ ((tab nm l i).getD j (0, 0)).2 ∧ ((tab nm l i).getD j (0, 0)).2 ≤ j + 1
  | 0, j, h => by omega
  | i + 1, j, h => by
    have hl := tab_len nm l i
    rw [tab]
    by_cases hj : j < i
    · rw [getD_left (by omega)]
      exact tab_bound nm l i j hj
    · rw [show j = (tab nm l i).length by omega, getD_last, hl]
      exact nodeOf_bound (tab_bound nm l i)
/-- A column of the table, and zeros behind it. -/
def col (f : Int × Int → Int) (r : List (Int × Int)) (n : Nat) : List AV := r.map (fun p => .int .i64 (f p)) ++ List.replicate (n - r.length) (.int .i64 0)
theorem col_len {f : Int × Int → Int} {r : List (Int × Int)} {n : Nat} (h : r.length ≤ n) : (col f r n).length = n := by simp [col]; omega
theorem col_get {f : Int × Int → Int} (hf : f (0, 0) = 0) {r : List (Int × Int)} {n j m : Nat} (h : j < n) (hr : r.length ≤ n) (hm : m = j) : (col f r n).drop m = .int .i64 (f (r.getD j (0, 0))) :: (col f r n).drop (j + 1) := by
  subst hm
  rw [List.drop_eq_getElem_cons (by rw [col_len hr]; exact h)]
  refine cons_eq ?_ rfl
  simp only [col]
  by_cases hj : m < r.length
  · rw [List.getElem_append_left (by simpa using hj)]
    simp [List.getD, hj]
  · rw [List.getElem_append_right (by simp; omega)]
    simp [List.getD, List.getElem?_eq_none (Nat.le_of_not_lt hj), hf]
theorem col_put {f : Int × Int → Int} {r : List (Int × Int)} {n i m k : Nat} {p : Int × Int} {v : Int} (h : r.length = i) (hi : i < n) (hm : m = i) (hk : k = i + 1) (hv : v = f p) :
    (col f r n).take m ++ [.int .i64 v] ++ (col f r n).drop k = col f (r ++ [p]) n := by
  subst hm hk hv h
  unfold col
  rw [List.take_append_of_le_length (by simp), List.take_of_length_le (by simp), List.drop_append, List.drop_of_length_le (by simp)]
  simp only [List.length_map, List.map_append, List.map_cons, List.map_nil, List.nil_append, List.length_append, List.length_cons, List.length_nil, List.drop_replicate]
  rw [show n - r.length - (r.length + 1 - r.length) = n - (r.length + (0 + 1)) by omega]
theorem col_zero {f : Int × Int → Int} {r : List (Int × Int)} {n : Nat} {p : Int × Int} (h : r.length < n) (hp : f p = 0) : col f r n = col f (r ++ [p]) n := by
  unfold col
  simp only [List.map_append, List.map_cons, List.map_nil, List.length_append, List.length_cons, List.length_nil, hp, List.append_assoc, List.singleton_append]
  rw [show n - r.length = (n - (r.length + (0 + 1))) + 1 by omega, List.replicate_succ]
theorem aload_eq {P : Program} {T : TypeId} {cs cs' : List AV} {K : AV → Prop} (h : cs = cs') (hk : aload P T cs' K) : aload P T cs K := h ▸ hk
theorem flat_zero (n : Nat) (z : AV) : (List.replicate n [z]).flatten = List.replicate n z := by
  induction n with
  | zero => rfl
  | succ n ih => rw [List.replicate_succ, List.flatten_cons, ih, List.replicate_succ]; rfl
structure Szc (s s' : Sto) (b1 b2 : Nat) (c1 c2 : List AV) : Prop where
  ne : b1 ≠ b2
  size : s'.bx b1 = some (3, c1)
  depth : s'.bx b2 = some (3, c2)
  sub : Sub s s'
  none1 : s.bx b1 = none
  none2 : s.bx b2 = none
theorem frcL_at {cs cs' : List AV} {K : List AV → Prop} (h : cs = cs') (hk : K cs') : frcL cs K := by rw [frcL_eq, h]; exact hk
theorem sized_ok (nm : List UInt8 → Bool) (t : Nat) (l : List Ex) (hl : l.length ≤ 1000000) (hn : ∀ x ∈ l, APure Tryz.prog Γ 57 [.str x.2.2.2.1] fun v => v = .bool (nm x.2.2.2.1)) (s : Sto) :
    ACalls Tryz.prog Γ 25 [.slice t (l.map exA)] s fun v s' => ∃ b1 b2, v = .tuple [.raw (some ⟨b1, 0, none⟩) l.length l.length, .raw (some ⟨b2, 0, none⟩) l.length l.length] ∧ Szc s s' b1 b2 (col Prod.fst (tab nm l l.length) l.length) (col Prod.snd (tab nm l l.length) l.length) := by
  have hml : (l.map exA).length = l.length := List.length_map ..
  have hroom : ((8 : Nat) : Int) * ((l.map exA).length : Int) ≤ 281474976710656 := by omega
  refine ACalls.of_awp Tryz.func25 rfl (Nat.le_of_ble_eq_true (by kernel_rfl)) (awp_ok _ (by kernel_rfl) ?_)
  conv => whnf
  repeat' (first
    | (refine ⟨Sub.refl _, ?_⟩)
    | (refine brA_split (fun h => ?_) (fun h => ?_) <;> (try rw [h]) <;> (try simp only [Bool.false_eq_true, Bool.true_eq_false, ↓reduceIte, decide_eq_true_eq, decide_eq_false_iff_not, Bool.not_eq_true', Bool.not_eq_false'] at h) <;> (conv => whnf))
    | (refine ⟨hroom, ?_⟩; conv => whnf)
    | (refine getB_same ?_; conv => whnf)
    | (refine AWp.any (by kernel_rfl) (by kernel_rfl) (by kernel_rfl) ?_; conv => whnf)
    | (apply And.intro; (focus (first | omega | rfl | decide | exact Nat.le_of_ble_eq_true rfl | ((repeat' (first | exact all_nil | refine all_cons ?_ ?_ | rfl | fail)); done) | (simp [-List.length_flatMap]; done) | (simp [-List.length_flatMap]; omega) | fail)); conv => whnf)
    | fail)
  intro b1 hb1
  conv => whnf
  repeat' (first
    | (refine ⟨Sub.refl _, ?_⟩)
    | (refine brA_split (fun h => ?_) (fun h => ?_) <;> (try rw [h]) <;> (try simp only [Bool.false_eq_true, Bool.true_eq_false, ↓reduceIte, decide_eq_true_eq, decide_eq_false_iff_not, Bool.not_eq_true', Bool.not_eq_false'] at h) <;> (conv => whnf))
    | (refine ⟨hroom, ?_⟩; conv => whnf)
    | (refine getB_same ?_; conv => whnf)
    | (refine AWp.any (by kernel_rfl) (by kernel_rfl) (by kernel_rfl) ?_; conv => whnf)
    | (apply And.intro; (focus (first | omega | rfl | decide | exact Nat.le_of_ble_eq_true rfl | ((repeat' (first | exact all_nil | refine all_cons ?_ ?_ | rfl | fail)); done) | (simp [-List.length_flatMap]; done) | (simp [-List.length_flatMap]; omega) | fail)); conv => whnf)
    | fail)
  intro b2 hb2
  conv => whnf
  repeat' (first
    | (refine ⟨Sub.refl _, ?_⟩)
    | (refine brA_split (fun h => ?_) (fun h => ?_) <;> (try rw [h]) <;> (try simp only [Bool.false_eq_true, Bool.true_eq_false, ↓reduceIte, decide_eq_true_eq, decide_eq_false_iff_not, Bool.not_eq_true', Bool.not_eq_false'] at h) <;> (conv => whnf))
    | (refine getB_same ?_; conv => whnf)
    | (refine AWp.any (by kernel_rfl) (by kernel_rfl) (by kernel_rfl) ?_; conv => whnf)
    | (apply And.intro; (focus (first | omega | rfl | decide | exact Nat.le_of_ble_eq_true rfl | ((repeat' (first | exact all_nil | refine all_cons ?_ ?_ | rfl | fail)); done) | (simp [-List.length_flatMap]; done) | (simp [-List.length_flatMap]; omega) | fail)); conv => whnf)
    | fail)
  refine AWp.loopA [15] [16, 17, 18, 19, 5, 4, 20, 21, 22, 23, 24, 25, 26, 27, 28, 29, 30, 31, 32, 33, 34, 35, 36, 37, 38, 39, 40, 41, 42, 43, 44, 45, 46, 47, 48, 49, 50, 51, 52, 53, 54, 55, 56, 57, 58, 59, 60, 61, 62, 63, 64, 65, 66, 67, 68, 69, 70, 71, 72, 73, 74, 75, 76, 77, 78, 79, 80, 81, 82, 83, 84, 85, 86, 87, 88, 89, 90, 91, 92, 93, 94, 95, 96, 97, 6, 98, 99, 100, 101, 102, 103, 104, 105, 106, 107, 108, 109, 110, 111, 112, 113, 114, 115, 116, 117, 118, 119, 120, 121, 122, 123, 124, 125, 126, 127, 128, 129, 130, 131, 132, 133, 134, 135, 136, 137, 138, 139, 140, 141, 142, 143, 144, 145, 146, 147, 148] (fun i : Nat => [.int .i64 i]) (fun i s' => i ≤ l.length ∧ Szc s s' b1 b2 (col Prod.fst (tab nm l i) l.length) (col Prod.snd (tab nm l i) l.length)) (fun i => l.length - i) (0) (by kernel_rfl) (by (repeat' (first | refine cons_eq ?_ ?_ | refine int64_of ?_ ?_ ?_ | rfl | omega))) ?_ ?_
  · refine ⟨by omega, ?_⟩
    obtain ⟨h1, h2⟩ := none_set hb2
    have hz : ∀ f : Int × Int → Int, (List.replicate ((l.map exA).length : Int).toNat [AV.int .i64 0]).flatten = col f (tab nm l 0) l.length := fun f => by
      rw [flat_zero, Int.toNat_natCast, hml]; rfl
    exact ⟨fun h => h1 h.symm, ((set_bx_other (fun h => h1 h.symm)).trans set_bx_same).trans (by rw [hz]), set_bx_same.trans (by rw [hz]), ((Sub.refl _).set hb1 _ _).set h2 _ _, hb1, h2⟩
  · rintro q i s1 ⟨hi, hz⟩
    conv => whnf
    have hga := fun h : i < l.length => map_get (f := exA) (l := l) noEx h
    have htab : tab nm l (i + 1) = tab nm l i ++ [nodeOf nm (l.getD i noEx) i (tab nm l i)] := rfl
    have htl := tab_len nm l i
    have hbd := tab_bound nm l i
    have hnx := fun h : i < l.length => hn (l.getD i noEx) (getD_mem noEx h)
    by_cases hlt : i < l.length
    · have hga := hga hlt
      have hnx := hnx hlt
      generalize l.getD i noEx = x at *
      generalize tab nm l i = r at *
      repeat' (first
        | (exfalso; first | omega | exact (by assumption : ¬ True) trivial | fail)
        | (refine ⟨Sub.refl _, ?_⟩)
        | (refine brA_split (fun h => ?_) (fun h => ?_) <;> (try rw [h]) <;> (try simp only [Bool.false_eq_true, Bool.true_eq_false, ↓reduceIte, decide_eq_true_eq, decide_eq_false_iff_not, Bool.not_eq_true', Bool.not_eq_false'] at h) <;> (conv => whnf))
        | (rw [show (l.map exA).getD ((i : Int)).toNat [] = _ from hga]; conv => whnf)
        | (refine getB_same ?_; conv => whnf)
        | (refine AWp.any (by kernel_rfl) (by kernel_rfl) (by kernel_rfl) ?_; conv => whnf)
        | (apply And.intro; (focus (first | omega | rfl | decide | exact Nat.le_of_ble_eq_true rfl | ((repeat' (first | exact all_nil | refine all_cons ?_ ?_ | rfl | fail)); done) | (simp [-List.length_flatMap]; done) | (simp [-List.length_flatMap]; omega) | fail)); conv => whnf)
        | fail)
      intro c hc
      conv => whnf
      refine getB_of set_bx_same ?_
      have n1 := ne_of_none hz.size hc
      have n2 := ne_of_none hz.depth hc
      have h5 := hz.sub.none hc
      have g1 := fun (T : TypeId) (x y : List AV) => (set_bx_other (s := s1.set c T x) (T := T) (cs := y) n1).trans ((set_bx_other n1).trans hz.size)
      have g2 := fun (T : TypeId) (x y : List AV) => (set_bx_other (s := s1.set c T x) (T := T) (cs := y) n2).trans ((set_bx_other n2).trans hz.depth)
      have st := fun (f : Int × Int → Int) (P : Int × Int) (v : Int) (m k : Nat) (hv : v = f P) (hm : m = i) (hk : k = i + 1) => col_put (f := f) (r := r) (n := l.length) (p := P) (v := v) htl hlt hm hk hv
      have ln := fun f : Int × Int → Int => col_len (f := f) (r := r) (n := l.length) (by omega)
      have zero : nodeOf nm x i r = (0, 0) → ∀ (T : TypeId) (y z : List AV), Szc s ((s1.set c T y).set c T z) b1 b2 (col Prod.fst (tab nm l (i + 1)) l.length) (col Prod.snd (tab nm l (i + 1)) l.length) := fun h0 T y z => by
        rw [htab, h0]
        exact ⟨hz.ne, (g1 _ _ _).trans (by rw [col_zero (p := (0, 0)) (by omega) rfl]), (g2 _ _ _).trans (by rw [col_zero (p := (0, 0)) (by omega) rfl]), (hz.sub.set h5 _ _).set h5 _ _, hz.none1, hz.none2⟩
      have put : ∀ P, nodeOf nm x i r = P → ∀ (T T' : TypeId) (y z : List AV), T' = 3 → Szc s ((((s1.set c T y).set c T z).set b1 T' (col Prod.fst (r ++ [P]) l.length)).set b2 T' (col Prod.snd (r ++ [P]) l.length)) b1 b2 (col Prod.fst (tab nm l (i + 1)) l.length) (col Prod.snd (tab nm l (i + 1)) l.length) := fun P h0 T T' y z hT => by
        subst hT
        rw [htab, h0]
        exact ⟨hz.ne, (set_bx_other hz.ne).trans set_bx_same, set_bx_same, (((hz.sub.set h5 _ _).set h5 _ _).set hz.none1 _ _).set hz.none2 _ _, hz.none1, hz.none2⟩
      by_cases hlo : loneB nm x = true
      · have hl1 : APure Tryz.prog Γ 40 [.agg (exA x)] fun v => v = .bool true := hlo ▸ lone_ok nm x hnx
        repeat' (first
          | (refine ⟨Sub.refl _, ?_⟩)
          | (refine brA_split (fun h => ?_) (fun h => ?_) <;> (try rw [h]) <;> (try simp only [Bool.false_eq_true, Bool.true_eq_false, ↓reduceIte, decide_eq_true_eq, decide_eq_false_iff_not, Bool.not_eq_true', Bool.not_eq_false'] at h) <;> (conv => whnf))
          | (refine getB_of set_bx_same ?_; conv => whnf)
          | (refine ACalls.pure' ?_ (hl1); rintro _ rfl; conv => whnf)
          | (refine DCall.pure ?_ (hl1); conv => whnf)
          | (refine getB_same ?_; conv => whnf)
          | (refine AWp.any (by kernel_rfl) (by kernel_rfl) (by kernel_rfl) ?_; conv => whnf)
          | (apply And.intro; (focus (first | omega | rfl | decide | exact Nat.le_of_ble_eq_true rfl | ((repeat' (first | exact all_nil | refine all_cons ?_ ?_ | rfl | fail)); done) | (simp [-List.length_flatMap]; done) | (simp [-List.length_flatMap]; omega) | fail)); conv => whnf)
          | fail)
        refine getB_of (g1 _ _ _) ?_
        refine ⟨rfl, rfl, by show 0 + ((i : Nat) : Int).toNat * 1 + 1 ≤ _; rw [ln]; omega, frcL_at (st Prod.fst (1, 1) _ _ _ rfl (by show 0 + ((i : Nat) : Int).toNat * 1 = i; omega) (by show 0 + ((i : Nat) : Int).toNat * 1 + 1 = i + 1; omega)) ?_⟩
        conv => whnf
        repeat' (first
          | (refine ⟨Sub.refl _, ?_⟩)
          | (refine brA_split (fun h => ?_) (fun h => ?_) <;> (try rw [h]) <;> (try simp only [Bool.false_eq_true, Bool.true_eq_false, ↓reduceIte, decide_eq_true_eq, decide_eq_false_iff_not, Bool.not_eq_true', Bool.not_eq_false'] at h) <;> (conv => whnf))
          | (refine getB_same ?_; conv => whnf)
          | (refine AWp.any (by kernel_rfl) (by kernel_rfl) (by kernel_rfl) ?_; conv => whnf)
          | (apply And.intro; (focus (first | omega | rfl | decide | exact Nat.le_of_ble_eq_true rfl | ((repeat' (first | exact all_nil | refine all_cons ?_ ?_ | rfl | fail)); done) | (simp [-List.length_flatMap]; done) | (simp [-List.length_flatMap]; omega) | fail)); conv => whnf)
          | fail)
        refine getB_of ((set_bx_other (fun h => hz.ne h.symm)).trans (g2 _ _ _)) ?_
        refine ⟨rfl, rfl, by show 0 + ((i : Nat) : Int).toNat * 1 + 1 ≤ _; rw [ln]; omega, frcL_at (st Prod.snd (1, 1) _ _ _ rfl (by show 0 + ((i : Nat) : Int).toNat * 1 = i; omega) (by show 0 + ((i : Nat) : Int).toNat * 1 + 1 = i + 1; omega)) ?_⟩
        conv => whnf
        repeat' (first
          | (refine ⟨Sub.refl _, ?_⟩)
          | (refine brA_split (fun h => ?_) (fun h => ?_) <;> (try rw [h]) <;> (try simp only [Bool.false_eq_true, Bool.true_eq_false, ↓reduceIte, decide_eq_true_eq, decide_eq_false_iff_not, Bool.not_eq_true', Bool.not_eq_false'] at h) <;> (conv => whnf))
          | (refine getB_same ?_; conv => whnf)
          | (refine AWp.any (by kernel_rfl) (by kernel_rfl) (by kernel_rfl) ?_; conv => whnf)
          | (apply And.intro; (focus (first | omega | rfl | decide | exact Nat.le_of_ble_eq_true rfl | ((repeat' (first | exact all_nil | refine all_cons ?_ ?_ | rfl | fail)); done) | (simp [-List.length_flatMap]; done) | (simp [-List.length_flatMap]; omega) | fail)); conv => whnf)
          | fail)
        exact ⟨i + 1, by (repeat' (first | refine cons_eq ?_ ?_ | refine int64_of ?_ ?_ ?_ | rfl | omega)), by (repeat (first | exact Same.refl _ _ | refine Same.upd rfl ?_ | refine Same.updL rfl ?_ | refine Same.havoc rfl ?_)), ⟨by omega, put (1, 1) (by unfold nodeOf; rw [if_pos hlo]) _ _ _ _ rfl⟩, by omega⟩
      have hlo' : loneB nm x = false := by simpa using hlo
      have hl0 : APure Tryz.prog Γ 40 [.agg (exA x)] fun v => v = .bool false := hlo' ▸ lone_ok nm x hnx
      have hev := eq_vl x.2.2.2.2.1 noVl
      simp only [noVl] at hev
      by_cases hi0 : i = 0
      · repeat' (first
          | (exfalso; first | omega | exact (by assumption : ¬ True) trivial | fail)
          | (refine ⟨Sub.refl _, ?_⟩)
          | (refine brA_split (fun h => ?_) (fun h => ?_) <;> (try rw [h]) <;> (try simp only [Bool.false_eq_true, Bool.true_eq_false, ↓reduceIte, decide_eq_true_eq, decide_eq_false_iff_not, Bool.not_eq_true', Bool.not_eq_false'] at h) <;> (conv => whnf))
          | (refine getB_of set_bx_same ?_; conv => whnf)
          | (refine ACalls.pure' ?_ (hl0); rintro _ rfl; conv => whnf)
          | (refine DCall.pure ?_ (hl0); conv => whnf)
          | (refine EqAgg.of grdVl planVl ?_; conv => whnf)
          | (refine getB_same ?_; conv => whnf)
          | (refine AWp.any (by kernel_rfl) (by kernel_rfl) (by kernel_rfl) ?_; conv => whnf)
          | (apply And.intro; (focus (first | omega | rfl | decide | exact Nat.le_of_ble_eq_true rfl | ((repeat' (first | exact all_nil | refine all_cons ?_ ?_ | rfl | fail)); done) | (simp [-List.length_flatMap]; done) | (simp [-List.length_flatMap]; omega) | fail)); conv => whnf)
          | fail)
        all_goals exact ⟨i + 1, by (repeat' (first | refine cons_eq ?_ ?_ | refine int64_of ?_ ?_ ?_ | rfl | omega)), by (repeat (first | exact Same.refl _ _ | refine Same.upd rfl ?_ | refine Same.updL rfl ?_ | refine Same.havoc rfl ?_)), ⟨by omega, zero (by unfold nodeOf; rw [if_neg hlo, if_pos (by simp [hi0])]) _ _ _⟩, by omega⟩
      obtain ⟨p, hp⟩ : ∃ p, r.getD (i - 1) (0, 0) = p := ⟨_, rfl⟩
      have hpb := hbd (i - 1) (by omega)
      rw [hp] at hpb
      obtain ⟨a, ha⟩ : ∃ a : Int, a = (i : Int) - 1 - p.1 := ⟨_, rfl⟩
      obtain ⟨q, hq⟩ : ∃ q, r.getD a.toNat (0, 0) = q := ⟨_, rfl⟩
      have hqb := fun h : 0 ≤ a => hbd a.toNat (by omega)
      rw [hq] at hqb
      have hnode : nodeOf nm x i r = if loneB nm x = true then (1, 1) else if x.1 < 4 ∨ 16 < x.1 ∨ x.2.2.2.1 ≠ [] ∨ x.2.2.2.2.1 ≠ noVl ∨ i = 0 ∨ p.1 = 0 then (0, 0) else if x.1 ≤ 5 then (if x.2.1 = (i : Int) - 1 ∧ x.2.2.1 = 0 then (p.1 + 1, p.2 + 1) else (0, 0)) else if x.2.2.1 = (i : Int) - 1 ∧ x.2.1 = a ∧ 0 ≤ a ∧ 0 < q.1 then (q.1 + p.1 + 1, max q.2 p.2 + 1) else (0, 0) := by
        unfold nodeOf; rw [hp, ← ha, hq]
      have hw1 : IntKind.i64.wrap ((i : Int) - 1) = ((i - 1 : Nat) : Int) := i64_of (by omega) (by omega) (by omega)
      have hwa : IntKind.i64.wrap (((i - 1 : Nat) : Int) - p.1) = a := i64_of (by omega) (by omega) (by omega)
      have ld1 : ∀ m, m = i - 1 → (col Prod.fst r l.length).drop m = .int .i64 p.1 :: (col Prod.fst r l.length).drop (i - 1 + 1) := fun m hm => hp ▸ col_get rfl (by omega) (by omega) hm
      have ld2 : ∀ m, m = i - 1 → (col Prod.snd r l.length).drop m = .int .i64 p.2 :: (col Prod.snd r l.length).drop (i - 1 + 1) := fun m hm => hp ▸ col_get rfl (by omega) (by omega) hm
      have la1 : 0 ≤ a → ∀ m, m = a.toNat → (col Prod.fst r l.length).drop m = .int .i64 q.1 :: (col Prod.fst r l.length).drop (a.toNat + 1) := fun h m hm => hq ▸ col_get rfl (by omega) (by omega) hm
      have la2 : 0 ≤ a → ∀ m, m = a.toNat → (col Prod.snd r l.length).drop m = .int .i64 q.2 :: (col Prod.snd r l.length).drop (a.toNat + 1) := fun h m hm => hq ▸ col_get rfl (by omega) (by omega) hm
      repeat' (first
        | (exfalso; first | omega | exact (by assumption : ¬ True) trivial | fail)
        | (refine ⟨Sub.refl _, ?_⟩)
        | (refine brA_split (fun h => ?_) (fun h => ?_) <;> (try rw [h]) <;> (try simp only [Bool.false_eq_true, Bool.true_eq_false, ↓reduceIte, decide_eq_true_eq, decide_eq_false_iff_not, Bool.not_eq_true', Bool.not_eq_false'] at h) <;> (conv => whnf))
        | (refine getB_of set_bx_same ?_; conv => whnf)
        | (refine ACalls.pure' ?_ (hl0); rintro _ rfl; conv => whnf)
        | (refine DCall.pure ?_ (hl0); conv => whnf)
        | (refine EqAgg.of grdVl planVl ?_; conv => whnf)
        | (rw [hw1]; conv => whnf)
        | (refine getB_of (g1 _ _ _) (aload_eq (ld1 _ (by show 0 + ((i - 1 : Nat) : Int).toNat * 1 = i - 1; omega)) ?_); conv => whnf)
        | (refine getB_of (g2 _ _ _) (aload_eq (ld2 _ (by show 0 + ((i - 1 : Nat) : Int).toNat * 1 = i - 1; omega)) ?_); conv => whnf)
        | (rw [hwa]; conv => whnf)
        | (refine getB_of (g1 _ _ _) (aload_eq (la1 (by omega) _ (by show 0 + a.toNat * 1 = a.toNat; omega)) ?_); conv => whnf)
        | (refine getB_of (g2 _ _ _) (aload_eq (la2 (by omega) _ (by show 0 + a.toNat * 1 = a.toNat; omega)) ?_); conv => whnf)
        | (refine getB_same ?_; conv => whnf)
        | (refine AWp.any (by kernel_rfl) (by kernel_rfl) (by kernel_rfl) ?_; conv => whnf)
        | (apply And.intro; (focus (first | omega | rfl | decide | exact Nat.le_of_ble_eq_true rfl | ((repeat' (first | exact all_nil | refine all_cons ?_ ?_ | rfl | fail)); done) | (simp [-List.length_flatMap]; done) | (simp [-List.length_flatMap]; omega) | fail)); conv => whnf)
        | fail)
      all_goals try exact ⟨i + 1, by (repeat' (first | refine cons_eq ?_ ?_ | refine int64_of ?_ ?_ ?_ | rfl | omega)), by (repeat (first | exact Same.refl _ _ | refine Same.upd rfl ?_ | refine Same.updL rfl ?_ | refine Same.havoc rfl ?_)), ⟨by omega, zero (by rw [hnode]; clear hn hz hc g1 g2 st ln zero put ld1 ld2 la1 la2; grind [noVl]) _ _ _⟩, by omega⟩
      · refine getB_of (g1 _ _ _) ?_
        refine ⟨rfl, rfl, by show 0 + ((i : Nat) : Int).toNat * 1 + 1 ≤ _; rw [ln]; omega, frcL_at (st Prod.fst (p.1 + 1, p.2 + 1) _ _ _ (i64_of rfl (by simp only []; omega) (by simp only []; omega)) (by show 0 + ((i : Nat) : Int).toNat * 1 = i; omega) (by show 0 + ((i : Nat) : Int).toNat * 1 + 1 = i + 1; omega)) ?_⟩
        conv => whnf
        repeat' (first
          | (refine ⟨Sub.refl _, ?_⟩)
          | (refine brA_split (fun h => ?_) (fun h => ?_) <;> (try rw [h]) <;> (try simp only [Bool.false_eq_true, Bool.true_eq_false, ↓reduceIte, decide_eq_true_eq, decide_eq_false_iff_not, Bool.not_eq_true', Bool.not_eq_false'] at h) <;> (conv => whnf))
          | (refine getB_same ?_; conv => whnf)
          | (refine AWp.any (by kernel_rfl) (by kernel_rfl) (by kernel_rfl) ?_; conv => whnf)
          | (apply And.intro; (focus (first | omega | rfl | decide | exact Nat.le_of_ble_eq_true rfl | ((repeat' (first | exact all_nil | refine all_cons ?_ ?_ | rfl | fail)); done) | (simp [-List.length_flatMap]; done) | (simp [-List.length_flatMap]; omega) | fail)); conv => whnf)
          | fail)
        refine getB_of ((set_bx_other (fun h => hz.ne h.symm)).trans (g2 _ _ _)) ?_
        refine ⟨rfl, rfl, by show 0 + ((i : Nat) : Int).toNat * 1 + 1 ≤ _; rw [ln]; omega, frcL_at (st Prod.snd (p.1 + 1, p.2 + 1) _ _ _ (i64_of rfl (by simp only []; omega) (by simp only []; omega)) (by show 0 + ((i : Nat) : Int).toNat * 1 = i; omega) (by show 0 + ((i : Nat) : Int).toNat * 1 + 1 = i + 1; omega)) ?_⟩
        conv => whnf
        repeat' (first
          | (refine ⟨Sub.refl _, ?_⟩)
          | (refine brA_split (fun h => ?_) (fun h => ?_) <;> (try rw [h]) <;> (try simp only [Bool.false_eq_true, Bool.true_eq_false, ↓reduceIte, decide_eq_true_eq, decide_eq_false_iff_not, Bool.not_eq_true', Bool.not_eq_false'] at h) <;> (conv => whnf))
          | (refine getB_same ?_; conv => whnf)
          | (refine AWp.any (by kernel_rfl) (by kernel_rfl) (by kernel_rfl) ?_; conv => whnf)
          | (apply And.intro; (focus (first | omega | rfl | decide | exact Nat.le_of_ble_eq_true rfl | ((repeat' (first | exact all_nil | refine all_cons ?_ ?_ | rfl | fail)); done) | (simp [-List.length_flatMap]; done) | (simp [-List.length_flatMap]; omega) | fail)); conv => whnf)
          | fail)
        exact ⟨i + 1, by (repeat' (first | refine cons_eq ?_ ?_ | refine int64_of ?_ ?_ ?_ | rfl | omega)), by (repeat (first | exact Same.refl _ _ | refine Same.upd rfl ?_ | refine Same.updL rfl ?_ | refine Same.havoc rfl ?_)), ⟨by omega, put (p.1 + 1, p.2 + 1) (by rw [hnode]; clear hn hz hc g1 g2 st ln zero put ld1 ld2 la1 la2; grind [noVl]) _ _ _ _ rfl⟩, by omega⟩
      · refine getB_of (g1 _ _ _) ?_
        refine ⟨rfl, rfl, by show 0 + ((i : Nat) : Int).toNat * 1 + 1 ≤ _; rw [ln]; omega, frcL_at (st Prod.fst (q.1 + p.1 + 1, max q.2 p.2 + 1) _ _ _ (by rw [i64_of (b := q.1 + p.1) rfl (by omega) (by omega)]; exact i64_of rfl (by simp only []; omega) (by simp only []; omega)) (by show 0 + ((i : Nat) : Int).toNat * 1 = i; omega) (by show 0 + ((i : Nat) : Int).toNat * 1 + 1 = i + 1; omega)) ?_⟩
        conv => whnf
        repeat' (first
          | (refine ⟨Sub.refl _, ?_⟩)
          | (refine brA_split (fun h => ?_) (fun h => ?_) <;> (try rw [h]) <;> (try simp only [Bool.false_eq_true, Bool.true_eq_false, ↓reduceIte, decide_eq_true_eq, decide_eq_false_iff_not, Bool.not_eq_true', Bool.not_eq_false'] at h) <;> (conv => whnf))
          | (refine getB_same ?_; conv => whnf)
          | (refine AWp.any (by kernel_rfl) (by kernel_rfl) (by kernel_rfl) ?_; conv => whnf)
          | (apply And.intro; (focus (first | omega | rfl | decide | exact Nat.le_of_ble_eq_true rfl | ((repeat' (first | exact all_nil | refine all_cons ?_ ?_ | rfl | fail)); done) | (simp [-List.length_flatMap]; done) | (simp [-List.length_flatMap]; omega) | fail)); conv => whnf)
          | fail)
        refine getB_of ((set_bx_other (fun h => hz.ne h.symm)).trans (g2 _ _ _)) ?_
        refine ⟨rfl, rfl, by show 0 + ((i : Nat) : Int).toNat * 1 + 1 ≤ _; rw [ln]; omega, frcL_at (st Prod.snd (q.1 + p.1 + 1, max q.2 p.2 + 1) _ _ _ (i64_of (by show (if p.2 > q.2 then p.2 else q.2) + 1 = max q.2 p.2 + 1; split <;> omega) (by simp only []; omega) (by simp only []; omega)) (by show 0 + ((i : Nat) : Int).toNat * 1 = i; omega) (by show 0 + ((i : Nat) : Int).toNat * 1 + 1 = i + 1; omega)) ?_⟩
        conv => whnf
        repeat' (first
          | (refine ⟨Sub.refl _, ?_⟩)
          | (refine brA_split (fun h => ?_) (fun h => ?_) <;> (try rw [h]) <;> (try simp only [Bool.false_eq_true, Bool.true_eq_false, ↓reduceIte, decide_eq_true_eq, decide_eq_false_iff_not, Bool.not_eq_true', Bool.not_eq_false'] at h) <;> (conv => whnf))
          | (refine getB_same ?_; conv => whnf)
          | (refine AWp.any (by kernel_rfl) (by kernel_rfl) (by kernel_rfl) ?_; conv => whnf)
          | (apply And.intro; (focus (first | omega | rfl | decide | exact Nat.le_of_ble_eq_true rfl | ((repeat' (first | exact all_nil | refine all_cons ?_ ?_ | rfl | fail)); done) | (simp [-List.length_flatMap]; done) | (simp [-List.length_flatMap]; omega) | fail)); conv => whnf)
          | fail)
        exact ⟨i + 1, by (repeat' (first | refine cons_eq ?_ ?_ | refine int64_of ?_ ?_ ?_ | rfl | omega)), by (repeat (first | exact Same.refl _ _ | refine Same.upd rfl ?_ | refine Same.updL rfl ?_ | refine Same.havoc rfl ?_)), ⟨by omega, put (q.1 + p.1 + 1, max q.2 p.2 + 1) (by rw [hnode]; clear hn hz hc g1 g2 st ln zero put ld1 ld2 la1 la2; grind [noVl]) _ _ _ _ rfl⟩, by omega⟩
    · have h0 : i = l.length := by omega
      subst h0
      repeat' (first
        | (exfalso; first | omega | exact (by assumption : ¬ True) trivial | fail)
        | (refine ⟨Sub.refl _, ?_⟩)
        | (refine brA_split (fun h => ?_) (fun h => ?_) <;> (try rw [h]) <;> (try simp only [Bool.false_eq_true, Bool.true_eq_false, ↓reduceIte, decide_eq_true_eq, decide_eq_false_iff_not, Bool.not_eq_true', Bool.not_eq_false'] at h) <;> (conv => whnf))
        | (refine getB_same ?_; conv => whnf)
        | (refine AWp.any (by kernel_rfl) (by kernel_rfl) (by kernel_rfl) ?_; conv => whnf)
        | (apply And.intro; (focus (first | omega | rfl | decide | exact Nat.le_of_ble_eq_true rfl | ((repeat' (first | exact all_nil | refine all_cons ?_ ?_ | rfl | fail)); done) | (simp [-List.length_flatMap]; done) | (simp [-List.length_flatMap]; omega) | fail)); conv => whnf)
        | fail)
      have e : ((l.map exA).length : Int).toNat = l.length := by rw [Int.toNat_natCast, hml]
      exact ⟨s1, Sub.refl _, b1, b2, by rw [e]; rfl, hz⟩
end Go.Proofs.YtdhgappjicpglaaGreatDoor.Tr
namespace Go.Proofs.YtdhgappjicpglaaGreatDoor.Tr
open Go Go.Ab Go.RowKit
variable {Γ : Nat → AV}
attribute [local irreducible] APure Sto.set Sto.grow
set_option maxRecDepth 10000
set_option maxHeartbeats 1000000
theorem refRight_ok (v : Vl) : APure Tryz.prog Γ 15 [.agg (vlA v)] fun x => x = .bool (rightV v) := by
  obtain ⟨k, n, s, t⟩ := v
  refine APure.of_awp Tryz.func15 rfl (Nat.le_of_ble_eq_true (by kernel_rfl)) (by kernel_rfl) ?_
  intro s
  conv => whnf
  intro b hb
  conv => whnf
  repeat' (first
    | (refine ⟨Sub.refl _, ?_⟩)
    | (refine brA_split (fun h => ?_) (fun h => ?_) <;> (try rw [h]) <;> (try simp only [Bool.false_eq_true, Bool.true_eq_false, ↓reduceIte, decide_eq_true_eq, decide_eq_false_iff_not, Bool.not_eq_true', Bool.not_eq_false'] at h) <;> (conv => whnf))
    | (refine getB_same ?_; conv => whnf)
    | (refine AWp.any (by kernel_rfl) (by kernel_rfl) (by kernel_rfl) ?_; conv => whnf)
    | (apply And.intro; (focus (first | omega | rfl | decide | exact Nat.le_of_ble_eq_true rfl | ((repeat' (first | exact all_nil | refine all_cons ?_ ?_ | rfl | fail)); done) | (simp [-List.length_flatMap]; done) | (simp [-List.length_flatMap]; omega) | fail)); conv => whnf)
    | fail)
  all_goals refine ⟨(Sub.refl _).set hb _ _, bool_eq ?_⟩
  all_goals (try simp only [] at *)
  all_goals grind [rightV]
theorem getD_pre {α : Type} {r q : List α} {d : α} {j : Nat} (h : j < r.length) : (r ++ q).getD j d = r.getD j d := by
  simp [List.getD, List.getElem?_append_left h]
theorem tab_get (nm : List UInt8 → Bool) (l : List Ex) {j m : Nat} : ∀ n : Nat, j < m → m ≤ n → (tab nm l n).getD j (0, 0) = (tab nm l m).getD j (0, 0)
  | 0 => fun h k => by omega
  | n + 1 => fun h k => by
    by_cases he : m = n + 1
    · rw [he]
    · rw [tab, getD_pre (by rw [tab_len]; omega)]
      exact tab_get nm l n h (by omega)
/-- Of how many nodes the expression of node i is, and how deep. -/
def nd (nm : List UInt8 → Bool) (l : List Ex) (i : Nat) : Int × Int := (tab nm l l.length).getD i (0, 0)
theorem nd_bound (nm : List UInt8 → Bool) (l : List Ex) {i : Nat} (h : i < l.length) : 0 ≤ (nd nm l i).1 ∧ (nd nm l i).1 ≤ i + 1 ∧ 0 ≤ (nd nm l i).2 ∧ (nd nm l i).2 ≤ i + 1 := tab_bound nm l l.length i h
theorem nd_eq {nm : List UInt8 → Bool} {l : List Ex} {i : Nat} {x : Ex} {p q : Int × Int} {a : Int} (hi : i < l.length) (hx : l.getD i noEx = x) (hp : nd nm l (i - 1) = p) (ha : a = (i : Int) - 1 - p.1) (hq : nd nm l a.toNat = q) :
    nd nm l i = if loneB nm x = true then (1, 1) else if x.1 < 4 ∨ 16 < x.1 ∨ x.2.2.2.1 ≠ [] ∨ x.2.2.2.2.1 ≠ noVl ∨ i = 0 ∨ p.1 = 0 then (0, 0) else if x.1 ≤ 5 then (if x.2.1 = (i : Int) - 1 ∧ x.2.2.1 = 0 then (p.1 + 1, p.2 + 1) else (0, 0)) else if x.2.2.1 = (i : Int) - 1 ∧ x.2.1 = a ∧ 0 ≤ a ∧ 0 < q.1 then (q.1 + p.1 + 1, max q.2 p.2 + 1) else (0, 0) := by
  have h1 : nd nm l i = nodeOf nm x i (tab nm l i) := by
    unfold nd
    rw [tab_get nm l (m := i + 1) l.length (by omega) (by omega), tab]
    have : i = (tab nm l i).length := (tab_len nm l i).symm
    rw [← hx]
    conv => lhs; arg 2; rw [this]
    rw [getD_last]
  rw [h1]
  unfold nodeOf
  by_cases h0 : i = 0
  · subst h0
    by_cases hlo : loneB nm x = true
    · rw [if_pos hlo, if_pos hlo]
    · rw [if_neg hlo, if_neg hlo, if_pos (by simp), if_pos (by simp)]
  have hp' : (tab nm l i).getD (i - 1) (0, 0) = p := by rw [← hp]; exact (tab_get nm l l.length (by omega) (by omega)).symm
  rw [hp', ← ha]
  have hb := nd_bound nm l (i := i - 1) (by omega)
  rw [hp] at hb
  have hq' : (tab nm l i).getD a.toNat (0, 0) = q := by rw [← hq]; exact (tab_get nm l l.length (by omega) (by omega)).symm
  rw [hq']
theorem refSize_out (t : Nat) (l : List Ex) {i : Int} (h : i < 0 ∨ (l.length : Int) ≤ i) : APure Tryz.prog Γ 8 [.slice t (l.map exA), .int .i64 i] fun v => v = .int .i64 0 := by
  have hml : (l.map exA).length = l.length := List.length_map ..
  refine APure.of_awp Tryz.func8 rfl (Nat.le_of_ble_eq_true (by kernel_rfl)) (by kernel_rfl) ?_
  intro s
  conv => whnf
  repeat' (first
    | (exfalso; first | omega | exact (by assumption : ¬ True) trivial | fail)
    | (refine ⟨Sub.refl _, ?_⟩)
    | (refine brA_split (fun h => ?_) (fun h => ?_) <;> (try rw [h]) <;> (try simp only [Bool.false_eq_true, Bool.true_eq_false, ↓reduceIte, decide_eq_true_eq, decide_eq_false_iff_not, Bool.not_eq_true', Bool.not_eq_false'] at h) <;> (conv => whnf))
    | (refine getB_same ?_; conv => whnf)
    | (refine AWp.any (by kernel_rfl) (by kernel_rfl) (by kernel_rfl) ?_; conv => whnf)
    | (apply And.intro; (focus (first | omega | rfl | decide | exact Nat.le_of_ble_eq_true rfl | ((repeat' (first | exact all_nil | refine all_cons ?_ ?_ | rfl | fail)); done) | (simp [-List.length_flatMap]; done) | (simp [-List.length_flatMap]; omega) | fail)); conv => whnf)
    | fail)
  all_goals rfl
def szI (nm : List UInt8 → Bool) (l : List Ex) (i : Int) : Int := if 0 ≤ i ∧ i < l.length then (nd nm l i.toNat).1 else 0
theorem refSize_ok (t : Nat) (l : List Ex) (hl : l.length ≤ 1000000) : ∀ (k i : Nat), i < k → i < l.length → ∀ Γ : Nat → AV, APure Tryz.prog Γ 8 [.slice t (l.map exA), .int .i64 i] fun v => v = .int .i64 (nd Sc.isName l i).1
  | 0, i => fun h => by omega
  | k + 1, i => fun h hi Γ => by
    have hml : (l.map exA).length = l.length := List.length_map ..
    have ih : ∀ j : Int, j < i → APure Tryz.prog Γ 8 [.slice t (l.map exA), .int .i64 j] fun v => v = .int .i64 (szI Sc.isName l j) := fun j hj => by
      by_cases h0 : 0 ≤ j
      · have := refSize_ok t l hl k j.toNat (by omega) (by omega) Γ
        rw [show ((j.toNat : Nat) : Int) = j by omega] at this
        unfold szI
        rw [if_pos ⟨h0, by omega⟩]
        exact this
      · unfold szI
        rw [if_neg (fun h => h0 h.1)]
        exact refSize_out t l (.inl (by omega))
    have hga := map_get (f := exA) (l := l) noEx hi
    obtain ⟨x, hx⟩ : ∃ x, l.getD i noEx = x := ⟨_, rfl⟩
    rw [hx] at hga
    obtain ⟨p, hp⟩ : ∃ p, nd Sc.isName l (i - 1) = p := ⟨_, rfl⟩
    obtain ⟨a, ha⟩ : ∃ a : Int, a = (i : Int) - 1 - p.1 := ⟨_, rfl⟩
    obtain ⟨q, hq⟩ : ∃ q, nd Sc.isName l a.toNat = q := ⟨_, rfl⟩
    have hnode := nd_eq (nm := Sc.isName) hi hx hp ha hq
    have hpb := nd_bound Sc.isName l (i := i - 1) (by omega)
    rw [hp] at hpb
    have hqb := fun h : 0 ≤ a => nd_bound Sc.isName l (i := a.toNat) (by omega)
    rw [hq] at hqb
    obtain ⟨P, hP⟩ : ∃ P, szI Sc.isName l ((i : Int) - 1) = P := ⟨_, rfl⟩
    have hP' : (i = 0 ∧ P = 0) ∨ (i ≠ 0 ∧ P = p.1) := by
      rw [← hP]; unfold szI
      by_cases h0 : i = 0
      · exact .inl ⟨h0, if_neg (by omega)⟩
      · refine .inr ⟨h0, ?_⟩
        rw [if_pos ⟨by omega, by omega⟩, show ((i : Int) - 1).toNat = i - 1 by omega, hp]
    have hPb : 0 ≤ P ∧ P ≤ i := by omega
    obtain ⟨Q, hQ⟩ : ∃ Q, szI Sc.isName l ((i : Int) - 1 - P) = Q := ⟨_, rfl⟩
    have hQ' : i ≠ 0 → (a < 0 ∧ Q = 0) ∨ (0 ≤ a ∧ Q = q.1) := fun h0 => by
      rcases hP' with hh | ⟨_, hh⟩
      · exact absurd hh.1 h0
      rw [← hQ, hh, ← ha]; unfold szI
      by_cases h1 : 0 ≤ a
      · exact .inr ⟨h1, by rw [if_pos ⟨h1, by omega⟩, hq]⟩
      · exact .inl ⟨by omega, if_neg (by omega)⟩
    have hw1 : IntKind.i64.wrap ((i : Int) - 1) = (i : Int) - 1 := i64_of rfl (by omega) (by omega)
    have hw2 : IntKind.i64.wrap (IntKind.i64.wrap ((i : Int) - 1) - P) = (i : Int) - 1 - P := by rw [hw1]; exact i64_of rfl (by omega) (by omega)
    have hQb : 0 ≤ Q ∧ Q ≤ i + 1 := by
      rw [← hQ]; unfold szI
      split
      · rename_i h0
        have := nd_bound Sc.isName l (i := ((i : Int) - 1 - P).toNat) (by omega)
        omega
      · omega
    have hw3 : IntKind.i64.wrap (P + 1) = P + 1 := i64_of rfl (by omega) (by omega)
    have hw4 : IntKind.i64.wrap (IntKind.i64.wrap (Q + P) + 1) = Q + P + 1 := by rw [i64_of (b := Q + P) rfl (by omega) (by omega)]; exact i64_of rfl (by omega) (by omega)
    have s1 : APure Tryz.prog Γ 8 [.slice t (l.map exA), .int .i64 (IntKind.i64.wrap ((i : Int) - 1))] fun v => v = .int .i64 P := by rw [hw1, ← hP]; exact ih _ (by omega)
    have s2 : APure Tryz.prog Γ 8 [.slice t (l.map exA), .int .i64 (IntKind.i64.wrap (IntKind.i64.wrap ((i : Int) - 1) - P))] fun v => v = .int .i64 Q := by rw [hw2, ← hQ]; exact ih _ (by omega)
    have hev := eq_vl x.2.2.2.2.1 noVl
    simp only [noVl] at hev
    refine APure.of_awp Tryz.func8 rfl (Nat.le_of_ble_eq_true (by kernel_rfl)) (by kernel_rfl) ?_
    intro s
    conv => whnf
    repeat' (first
      | (exfalso; first | omega | exact (by assumption : ¬ True) trivial | fail)
      | (refine ⟨Sub.refl _, ?_⟩)
      | (refine brA_split (fun h => ?_) (fun h => ?_) <;> (try rw [h]) <;> (try simp only [Bool.false_eq_true, Bool.true_eq_false, ↓reduceIte, decide_eq_true_eq, decide_eq_false_iff_not, Bool.not_eq_true', Bool.not_eq_false'] at h) <;> (conv => whnf))
      | (rw [show (l.map exA).getD ((i : Int)).toNat [] = _ from hga]; conv => whnf)
      | (refine getB_same ?_; conv => whnf)
      | (refine AWp.any (by kernel_rfl) (by kernel_rfl) (by kernel_rfl) ?_; conv => whnf)
      | (apply And.intro; (focus (first | omega | rfl | decide | exact Nat.le_of_ble_eq_true rfl | ((repeat' (first | exact all_nil | refine all_cons ?_ ?_ | rfl | fail)); done) | (simp [-List.length_flatMap]; done) | (simp [-List.length_flatMap]; omega) | fail)); conv => whnf)
      | fail)
    · exfalso
      rw [if_neg (by omega)] at h
      have := of_decide_eq_true h
      omega
    intro b hb
    conv => whnf
    refine getB_of set_bx_same ?_
    repeat' (first
      | (refine ⟨Sub.refl _, ?_⟩)
      | (refine brA_split (fun h => ?_) (fun h => ?_) <;> (try rw [h]) <;> (try simp only [Bool.false_eq_true, Bool.true_eq_false, ↓reduceIte, decide_eq_true_eq, decide_eq_false_iff_not, Bool.not_eq_true', Bool.not_eq_false'] at h) <;> (conv => whnf))
      | (refine getB_same ?_; conv => whnf)
      | (refine AWp.any (by kernel_rfl) (by kernel_rfl) (by kernel_rfl) ?_; conv => whnf)
      | (apply And.intro; (focus (first | omega | rfl | decide | exact Nat.le_of_ble_eq_true rfl | ((repeat' (first | exact all_nil | refine all_cons ?_ ?_ | rfl | fail)); done) | (simp [-List.length_flatMap]; done) | (simp [-List.length_flatMap]; omega) | fail)); conv => whnf)
      | fail)
    intro b2 hb2
    conv => whnf
    refine getB_of set_bx_same ?_
    have n2 := ne_of_none set_bx_same hb2
    have h2 := (none_set (none_set hb2).2).2
    repeat' (first
      | (exfalso; first | omega | exact (by assumption : ¬ True) trivial | fail)
      | (refine ⟨Sub.refl _, ?_⟩)
      | (refine brA_split (fun h => ?_) (fun h => ?_) <;> (try rw [h]) <;> (try simp only [Bool.false_eq_true, Bool.true_eq_false, ↓reduceIte, decide_eq_true_eq, decide_eq_false_iff_not, Bool.not_eq_true', Bool.not_eq_false'] at h) <;> (conv => whnf))
      | (refine getB_of set_bx_same ?_; conv => whnf)
      | (refine getB_of ((set_bx_other n2).trans ((set_bx_other n2).trans set_bx_same)) ?_; conv => whnf)
      | (refine ACalls.pure' ?_ (refRight_ok _); rintro _ rfl; conv => whnf)
      | (refine DCall.pure ?_ (refRight_ok _); conv => whnf)
      | (refine ACalls.pure' ?_ (Sc.refName_ok _); rintro _ rfl; conv => whnf)
      | (refine DCall.pure ?_ (Sc.refName_ok _); conv => whnf)
      | (refine EqAgg.of grdVl planVl ?_; conv => whnf)
      | (refine ACalls.pure' ?_ (s1); rintro _ rfl; conv => whnf)
      | (refine DCall.pure ?_ (s1); conv => whnf)
      | (refine ACalls.pure' ?_ (s2); rintro _ rfl; conv => whnf)
      | (refine DCall.pure ?_ (s2); conv => whnf)
      | (refine getB_same ?_; conv => whnf)
      | (refine AWp.any (by kernel_rfl) (by kernel_rfl) (by kernel_rfl) ?_; conv => whnf)
      | (apply And.intro; (focus (first | omega | rfl | decide | exact Nat.le_of_ble_eq_true rfl | ((repeat' (first | exact all_nil | refine all_cons ?_ ?_ | rfl | fail)); done) | (simp [-List.length_flatMap]; done) | (simp [-List.length_flatMap]; omega) | fail)); conv => whnf)
      | fail)
    all_goals refine ⟨((((Sub.refl _).set hb _ _).set hb _ _).set h2 _ _).set h2 _ _, int_eq ?_⟩
    all_goals (rw [hnode]; clear hga ih s1 s2 hnode hb hb2 n2 h2)
    all_goals (unfold loneB; grind [noVl])
end Go.Proofs.YtdhgappjicpglaaGreatDoor.Tr
namespace Go.Proofs.YtdhgappjicpglaaGreatDoor.Va
open Go Go.Ab Go.RowKit
abbrev Vl := Int × Int × List UInt8 × Bool
def vlA (v : Vl) : List AV := [.int .i64 v.1, .int .i64 v.2.1, .str v.2.2.1, .bool v.2.2.2]
def noVl : Vl := (0, 0, [], false)
def right (v : Vl) : Bool :=
  if v.1 = 1 then decide (v.2.2.1 = []) && !v.2.2.2
  else if v.1 = 2 then decide (v.2.1 = 0) && !v.2.2.2 && decide (v.2.2.1.length ≤ 4096)
  else decide (v.1 = 3) && decide (v.2.1 = 0) && decide (v.2.2.1 = [])
theorem bool_eq {a b : Bool} (h : a = b) : AV.bool a = .bool b := by rw [h]
theorem map_get {α : Type} {f : α → List AV} {l : List α} (d : α) {i : Nat} (h : i < l.length) : (l.map f).getD i [] = f (l.getD i d) := by
  simp [List.getD, h]
theorem getD_mem {α : Type} {l : List α} (d : α) {i : Nat} (h : i < l.length) : l.getD i d ∈ l := by
  simp [List.getD, h]
theorem eq_vl (x y : Vl) : (decide (x.1 = y.1) && (decide (x.2.1 = y.2.1) && (decide (x.2.2.1 = y.2.2.1) && ((x.2.2.2 == y.2.2.2) && true)))) = decide (x = y) := by
  rw [Bool.eq_iff_iff]; simp [Prod.ext_iff]
end Go.Proofs.YtdhgappjicpglaaGreatDoor.Va
namespace Go.Proofs.YtdhgappjicpglaaGreatDoor.Va
open Go Go.Ab Go.RowKit
variable {Γ : Nat → AV}
attribute [local irreducible] APure Sto.set Sto.grow
set_option maxRecDepth 10000
theorem grdVl : (!Tryz.prog.eqGuardType Tryz.prog.depth 49) = true := by kernel_rfl
theorem planVl : planT Tryz.prog 9999 49 = some [(0, 0), (1, 0), (2, 1), (3, 2)] := by kernel_rfl
theorem int_ok (n : Int) : APure Tryz.prog Γ 58 [.int .i64 n] fun v => v = .agg (vlA (1, n, [], false)) := by
  refine APure.of_awp Tryz.func58 rfl (Nat.le_of_ble_eq_true (by kernel_rfl)) (by kernel_rfl) ?_
  intro s
  conv => whnf
  intro b hb
  conv => whnf
  repeat' (first
    | (refine ⟨Sub.refl _, ?_⟩)
    | (refine brA_split (fun h => ?_) (fun h => ?_) <;> (try rw [h]) <;> (try simp only [Bool.false_eq_true, Bool.true_eq_false, ↓reduceIte, decide_eq_true_eq, decide_eq_false_iff_not, Bool.not_eq_true', Bool.not_eq_false'] at h) <;> (conv => whnf))
    | (refine getB_of set_bx_same ?_; conv => whnf)
    | (refine getB_same ?_; conv => whnf)
    | (refine AWp.any (by kernel_rfl) (by kernel_rfl) (by kernel_rfl) ?_; conv => whnf)
    | (apply And.intro; (focus (first | omega | rfl | decide | exact Nat.le_of_ble_eq_true rfl | ((repeat' (first | exact all_nil | refine all_cons ?_ ?_ | rfl | fail)); done) | (simp [-List.length_flatMap]; done) | (simp [-List.length_flatMap]; omega) | fail)); conv => whnf)
    | fail)
  exact ⟨((Sub.refl _).set hb _ _).set hb _ _, rfl⟩
theorem str_ok (s : List UInt8) : APure Tryz.prog Γ 59 [.str s] fun v => v = .agg (vlA (2, 0, s, false)) := by
  refine APure.of_awp Tryz.func59 rfl (Nat.le_of_ble_eq_true (by kernel_rfl)) (by kernel_rfl) ?_
  intro s
  conv => whnf
  intro b hb
  conv => whnf
  repeat' (first
    | (refine ⟨Sub.refl _, ?_⟩)
    | (refine brA_split (fun h => ?_) (fun h => ?_) <;> (try rw [h]) <;> (try simp only [Bool.false_eq_true, Bool.true_eq_false, ↓reduceIte, decide_eq_true_eq, decide_eq_false_iff_not, Bool.not_eq_true', Bool.not_eq_false'] at h) <;> (conv => whnf))
    | (refine getB_of set_bx_same ?_; conv => whnf)
    | (refine getB_same ?_; conv => whnf)
    | (refine AWp.any (by kernel_rfl) (by kernel_rfl) (by kernel_rfl) ?_; conv => whnf)
    | (apply And.intro; (focus (first | omega | rfl | decide | exact Nat.le_of_ble_eq_true rfl | ((repeat' (first | exact all_nil | refine all_cons ?_ ?_ | rfl | fail)); done) | (simp [-List.length_flatMap]; done) | (simp [-List.length_flatMap]; omega) | fail)); conv => whnf)
    | fail)
  exact ⟨((Sub.refl _).set hb _ _).set hb _ _, rfl⟩
theorem bool_ok (t : Bool) : APure Tryz.prog Γ 60 [.bool t] fun v => v = .agg (vlA (3, 0, [], t)) := by
  refine APure.of_awp Tryz.func60 rfl (Nat.le_of_ble_eq_true (by kernel_rfl)) (by kernel_rfl) ?_
  intro s
  conv => whnf
  intro b hb
  conv => whnf
  repeat' (first
    | (refine ⟨Sub.refl _, ?_⟩)
    | (refine brA_split (fun h => ?_) (fun h => ?_) <;> (try rw [h]) <;> (try simp only [Bool.false_eq_true, Bool.true_eq_false, ↓reduceIte, decide_eq_true_eq, decide_eq_false_iff_not, Bool.not_eq_true', Bool.not_eq_false'] at h) <;> (conv => whnf))
    | (refine getB_of set_bx_same ?_; conv => whnf)
    | (refine getB_same ?_; conv => whnf)
    | (refine AWp.any (by kernel_rfl) (by kernel_rfl) (by kernel_rfl) ?_; conv => whnf)
    | (apply And.intro; (focus (first | omega | rfl | decide | exact Nat.le_of_ble_eq_true rfl | ((repeat' (first | exact all_nil | refine all_cons ?_ ?_ | rfl | fail)); done) | (simp [-List.length_flatMap]; done) | (simp [-List.length_flatMap]; omega) | fail)); conv => whnf)
    | fail)
  exact ⟨((Sub.refl _).set hb _ _).set hb _ _, rfl⟩
theorem right_ok (v : Vl) : APure Tryz.prog Γ 41 [.agg (vlA v)] fun x => x = .bool (right v) := by
  obtain ⟨k, n, s, t⟩ := v
  refine APure.of_awp Tryz.func41 rfl (Nat.le_of_ble_eq_true (by kernel_rfl)) (by kernel_rfl) ?_
  intro s
  conv => whnf
  intro b hb
  conv => whnf
  repeat' (first
    | (refine ⟨Sub.refl _, ?_⟩)
    | (refine brA_split (fun h => ?_) (fun h => ?_) <;> (try rw [h]) <;> (try simp only [Bool.false_eq_true, Bool.true_eq_false, ↓reduceIte, decide_eq_true_eq, decide_eq_false_iff_not, Bool.not_eq_true', Bool.not_eq_false'] at h) <;> (conv => whnf))
    | (refine ACalls.pure' ?_ (int_ok _); rintro _ rfl; conv => whnf)
    | (refine DCall.pure ?_ (int_ok _); conv => whnf)
    | (refine ACalls.pure' ?_ (str_ok _); rintro _ rfl; conv => whnf)
    | (refine DCall.pure ?_ (str_ok _); conv => whnf)
    | (refine ACalls.pure' ?_ (bool_ok _); rintro _ rfl; conv => whnf)
    | (refine DCall.pure ?_ (bool_ok _); conv => whnf)
    | (refine EqAgg.of grdVl planVl ?_; conv => whnf)
    | (refine getB_same ?_; conv => whnf)
    | (refine AWp.any (by kernel_rfl) (by kernel_rfl) (by kernel_rfl) ?_; conv => whnf)
    | (apply And.intro; (focus (first | omega | rfl | decide | exact Nat.le_of_ble_eq_true rfl | ((repeat' (first | exact all_nil | refine all_cons ?_ ?_ | rfl | fail)); done) | (simp [-List.length_flatMap]; done) | (simp [-List.length_flatMap]; omega) | fail)); conv => whnf)
    | fail)
  all_goals refine ⟨(Sub.refl _).set hb _ _, bool_eq ?_⟩
  all_goals (try simp only [] at *)
  all_goals grind [right]
theorem refRight_ok (v : Vl) : APure Tryz.prog Γ 15 [.agg (vlA v)] fun x => x = .bool (right v) := by
  obtain ⟨k, n, s, t⟩ := v
  refine APure.of_awp Tryz.func15 rfl (Nat.le_of_ble_eq_true (by kernel_rfl)) (by kernel_rfl) ?_
  intro s
  conv => whnf
  intro b hb
  conv => whnf
  repeat' (first
    | (refine ⟨Sub.refl _, ?_⟩)
    | (refine brA_split (fun h => ?_) (fun h => ?_) <;> (try rw [h]) <;> (try simp only [Bool.false_eq_true, Bool.true_eq_false, ↓reduceIte, decide_eq_true_eq, decide_eq_false_iff_not, Bool.not_eq_true', Bool.not_eq_false'] at h) <;> (conv => whnf))
    | (refine getB_same ?_; conv => whnf)
    | (refine AWp.any (by kernel_rfl) (by kernel_rfl) (by kernel_rfl) ?_; conv => whnf)
    | (apply And.intro; (focus (first | omega | rfl | decide | exact Nat.le_of_ble_eq_true rfl | ((repeat' (first | exact all_nil | refine all_cons ?_ ?_ | rfl | fail)); done) | (simp [-List.length_flatMap]; done) | (simp [-List.length_flatMap]; omega) | fail)); conv => whnf)
    | fail)
  all_goals refine ⟨(Sub.refl _).set hb _ _, bool_eq ?_⟩
  all_goals (try simp only [] at *)
  all_goals grind [right]
end Go.Proofs.YtdhgappjicpglaaGreatDoor.Va
namespace Go.Proofs.YtdhgappjicpglaaGreatDoor.Va
open Go Go.Ab Go.RowKit
variable {Γ : Nat → AV}
attribute [local irreducible] APure Sto.set Sto.grow
set_option maxRecDepth 10000
set_option maxHeartbeats 1000000
abbrev Rs := Vl × Int
def resA (x : Rs) : AV := .tuple [.agg (vlA x.1), .int .i64 x.2]
end Go.Proofs.YtdhgappjicpglaaGreatDoor.Va
namespace Go.Proofs.YtdhgappjicpglaaGreatDoor.Va
open Go Go.Ab Go.RowKit
variable {Γ : Nat → AV}
attribute [local irreducible] APure Sto.set Sto.grow
set_option maxRecDepth 10000
set_option maxHeartbeats 1000000
theorem hasPrefix_ok (l p : List UInt8) (hp : p.length ≤ 1048576) : APure Tryz.prog Γ 96 [.str l, .str p] fun v => v = .bool (decide (p.length ≤ l.length) && decide (l.take p.length = p)) := by
  have inner : ∀ Γ : Nat → AV, APure Tryz.prog Γ 113 [.str l, .str p] fun v => v = .bool (decide (p.length ≤ l.length) && decide (l.take p.length = p)) := by
    intro Γ
    refine APure.of_awp Tryz.func113 rfl (Nat.le_of_ble_eq_true (by kernel_rfl)) (by kernel_rfl) ?_
    intro s
    conv => whnf
    repeat' (first
      | (exfalso; first | omega | exact (by assumption : ¬ True) trivial | fail)
      | (refine ⟨Sub.refl _, ?_⟩)
      | (refine brA_split (fun h => ?_) (fun h => ?_) <;> (try rw [h]) <;> (try simp only [Bool.false_eq_true, Bool.true_eq_false, ↓reduceIte, decide_eq_true_eq, decide_eq_false_iff_not, Bool.not_eq_true', Bool.not_eq_false'] at h) <;> (conv => whnf))
      | (refine getB_same ?_; conv => whnf)
      | (refine AWp.any (by kernel_rfl) (by kernel_rfl) (by kernel_rfl) ?_; conv => whnf)
      | (apply And.intro; (focus (first | omega | rfl | decide | exact Nat.le_of_ble_eq_true rfl | ((repeat' (first | exact all_nil | refine all_cons ?_ ?_ | rfl | fail)); done) | (simp [-List.length_flatMap]; done) | (simp [-List.length_flatMap]; omega) | fail)); conv => whnf)
      | fail)
    · refine bool_eq ?_
      rw [decide_eq_true (p := p.length ≤ l.length) (by omega), Bool.true_and]
      rfl
    · refine bool_eq ?_
      rw [decide_eq_false (p := p.length ≤ l.length) (by omega), Bool.false_and]
  refine APure.of_awp Tryz.func96 rfl (Nat.le_of_ble_eq_true (by kernel_rfl)) (by kernel_rfl) ?_
  intro s
  conv => whnf
  repeat' (first
    | (refine ⟨Sub.refl _, ?_⟩)
    | (refine brA_split (fun h => ?_) (fun h => ?_) <;> (try rw [h]) <;> (try simp only [Bool.false_eq_true, Bool.true_eq_false, ↓reduceIte, decide_eq_true_eq, decide_eq_false_iff_not, Bool.not_eq_true', Bool.not_eq_false'] at h) <;> (conv => whnf))
    | (refine ACalls.pure' ?_ (inner _); rintro _ rfl; conv => whnf)
    | (refine DCall.pure ?_ (inner _); conv => whnf)
    | (refine getB_same ?_; conv => whnf)
    | (refine AWp.any (by kernel_rfl) (by kernel_rfl) (by kernel_rfl) ?_; conv => whnf)
    | (apply And.intro; (focus (first | omega | rfl | decide | exact Nat.le_of_ble_eq_true rfl | ((repeat' (first | exact all_nil | refine all_cons ?_ ?_ | rfl | fail)); done) | (simp [-List.length_flatMap]; done) | (simp [-List.length_flatMap]; omega) | fail)); conv => whnf)
    | fail)
  rfl
end Go.Proofs.YtdhgappjicpglaaGreatDoor.Va
namespace Go.Proofs.YtdhgappjicpglaaGreatDoor.Va
open Go Go.Ab Go.RowKit
variable {bulk : ∀ H : Type, DataW H → Nat}
theorem opens_vl : Opens Tryz.prog bulk 49 vlA (fun v _ => Nu.Fits v.2.1) :=
  (opens_struct (bulk := bulk) Tryz.underlying49 (by kernel_rfl)
    (OpensF.cons (bulk := bulk) (k := 1) rfl (by kernel_rfl) (opens_int (bulk := bulk) Tryz.underlying3) (OpensF.cons (bulk := bulk) (k := 1) rfl (by kernel_rfl) (opens_int (bulk := bulk) Tryz.underlying2) (OpensF.cons (bulk := bulk) (k := 1) rfl (by kernel_rfl) (opens_str (bulk := bulk) Tryz.underlying9) (OpensF.cons (bulk := bulk) (k := 1) rfl (by kernel_rfl) (opens_bool (bulk := bulk) Tryz.underlying4) (OpensF.nil _)))))).map (fun x => (x.1, x.2.1, x.2.2.1, x.2.2.2.1)) (fun _ => rfl) (fun _ _ h => h.2.1.elim fun _ h => Nu.fits_of h)
end Go.Proofs.YtdhgappjicpglaaGreatDoor.Va
