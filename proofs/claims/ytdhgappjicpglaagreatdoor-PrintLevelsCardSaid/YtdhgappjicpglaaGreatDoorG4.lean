/- Part 4 of what the closing text needs: PaK1, Gr2, PaK2, PaL, PaM, AsP, IsP, PaN, PaOa, PrA, PrB, PrG, TrA, TrB, TrJ, TrK, TrL, TrM, VaA, VaB, VaI, NuW, PrH, PrI, PrJ, PrK, Ha1, Er2. No condition of mine beyond those that the theorems name. -/
import Derived.Test.YtdhgappjicpglaaGreatDoorAb27
import Derived.Test.YtdhgappjicpglaaGreatDoorProg
import Derived.Shelf.Spec.SlicesGrow
import Derived.Laws.AppendOwn
import Derived.Test.YtdhgappjicpglaaGreatDoorChecked
import Derived.WalkKit
import Derived.LaidEql
import Derived.Stop.Asserts
import Derived.RowKitTokens
import Derived.Lib.ItoaMem
import Derived.Lib.ItoaLen
import Derived.LaidHandle
import Derived.LaidLaws
import Derived.Lay
import Derived.Stop.LaidErr
set_option linter.all false
namespace Go.Proofs.YtdhgappjicpglaaGreatDoor.Pa
open Go Go.Ab Go.RowKit
variable {Γ : Nat → AV}
attribute [local irreducible] APure Sto.set Sto.grow
set_option maxRecDepth 10000
set_option maxHeartbeats 1000000
section
variable {s : Sto}
/-- A node of nothing. -/
def zx : List AV := [.int .i64 0, .int .i64 0, .int .i64 0, .str [], .int .i64 0, .int .i64 0, .str [], .bool false, .int .i64 0, .int .i64 0]
theorem clone_ok {tk : Nat} {l : List Ex} (hl : l ≠ []) (hn : l.length ≤ 1000000) :
    ACalls Tryz.prog Γ 140 [.slice tk (exsA l)] s fun v s' => ∃ b cap, v = .raw (some ⟨b, 0, none⟩) l.length cap ∧ l.length ≤ cap ∧ s.bx b = none ∧ s' = s.set b 51 ((exsA l).flatten ++ (List.replicate (cap - l.length) zx).flatten) := by
  cases l with
  | nil => exact absurd rfl hl
  | cons c l =>
  refine ACalls.of_awp Tryz.func140 rfl (Nat.le_of_ble_eq_true (by kernel_rfl)) ?_
  refine AWp.seq (awp_ok _ (by kernel_rfl) ?_)
  conv => whnf
  refine AWp.seq (awp_ok _ (by kernel_rfl) ?_)
  conv => whnf
  refine AWp.seq (AWp.regionS 1 (by kernel_rfl) ?_)
  conv => whnf
  refine ⟨Nat.le_of_ble_eq_true (by kernel_rfl), rfl, rfl, all_nil, ?_⟩
  conv => whnf
  refine Reread.raw 5 rfl fun a => ?_
  conv => whnf
  refine ⟨by simp [exsA], fun x hx => ?_, ?_, fun _ b cap h1 h2 => ?_, fun h => absurd ⟨rfl, rfl⟩ h⟩
  · obtain ⟨y, _, rfl⟩ := List.mem_map.1 hx
    exact ⟨rfl, rfl⟩
  · rw [exsA_len]
    show (0 + (c :: l).length) * (96 + 1) ≤ 140737488355328
    omega
  rw [exsA_len] at h1
  rw [exsA_len]
  conv => whnf
  refine awp_ok _ (by kernel_rfl) ?_
  conv => whnf
  exact ⟨_, Sub.refl _, b, cap, rfl, h1, h2, rfl⟩
theorem drop_at {P Q : List AV} {x : Ex} {i : Nat} (hP : P.length = i * 10) (j : Nat) : (P ++ (exA x ++ Q)).drop (0 + ((i : Nat) : Int).toNat * 10 + j) = (exA x ++ Q).drop j := by
  rw [show (0 + ((i : Nat) : Int).toNat * 10 + j) = P.length + j by rw [hP]; simp, ← List.drop_drop, List.drop_left]
theorem aload_of {P : Program} {T : TypeId} {K : AV → Prop} {cs r : List AV} {o : Nat} (h : cs.drop o = r) (k : aload P T r K) : aload P T (cs.drop o) K := h ▸ k
theorem frcL_of {K : List AV → Prop} {l r : List AV} (h : l = r) (k : K r) : frcL l K := by rw [frcL_eq, h]; exact k
theorem put_at {P Q : List AV} {x x' : Ex} {c : AV} {i : Nat} (hP : P.length = i * 10) (j : Nat) (hj : j < 10) (h : (exA x).set j c = exA x') :
    (P ++ (exA x ++ Q)).take (0 + ((i : Nat) : Int).toNat * 10 + j) ++ [c] ++ (P ++ (exA x ++ Q)).drop (0 + ((i : Nat) : Int).toNat * 10 + j + 1) = P ++ (exA x' ++ Q) := by
  rw [← h, show (0 + ((i : Nat) : Int).toNat * 10 + j) = P.length + j by rw [hP]; simp]
  have hx : (exA x).length = 10 := rfl
  rw [Nat.add_assoc, ← List.drop_drop, List.drop_left, List.take_append, List.take_of_length_le (by omega), Nat.add_sub_cancel_left, List.set_eq_take_append_cons_drop]
  rw [if_pos (by omega), List.take_append_of_le_length (by omega), List.drop_append_of_le_length (by omega)]
  simp
theorem chunks_exs (z : List AV) : ∀ l : List Ex, chunks 10 l.length ((exsA l).flatten ++ z) = exsA l
  | [] => rfl
  | x :: l => by
    have ih := chunks_exs z l
    rw [show (exsA (x :: l)).flatten ++ z = exA x ++ ((exsA l).flatten ++ z) by simp [exsA], List.length_cons]
    show (exA x ++ ((exsA l).flatten ++ z)).take 10 :: chunks 10 l.length ((exA x ++ ((exsA l).flatten ++ z)).drop 10) = _
    rw [List.take_left' (show (exA x).length = 10 from rfl), List.drop_left' (show (exA x).length = 10 from rfl), ih]
    rfl
theorem fgE_exs (l : List Ex) : fgE (exsA l) = exsA l := fgE_map (A := exA) (fun _ => rfl) l
theorem flat_len : ∀ m : List Ex, (exsA m).flatten.length = m.length * 10
  | [] => rfl
  | y :: m => by rw [show exsA (y :: m) = exA y :: exsA m from rfl, List.flatten_cons, List.length_append, flat_len m, List.length_cons, show (exA y).length = 10 from rfl]; omega
/-- A node in a box of nodes. -/
theorem shift_ok {tk : Nat} {l : List Ex} {by_ : Int} (hl : l ≠ []) (hn : l.length ≤ 100000) :
    APure Tryz.prog Γ 116 [.slice tk (exsA l), .int .i64 by_] fun v => v = .slice 0 (exsA (l.map (shiftX by_))) := by
  unfold APure; intro s
  have h1 : ACalls Tryz.prog Γ 116 [.slice tk (exsA l), .int .i64 by_] s fun v s' => ∃ b cap z, v = .raw (some ⟨b, 0, none⟩) l.length cap ∧ l.length ≤ cap ∧ s.bx b = none ∧ s'.bx b = some (51, (exsA (l.map (shiftX by_))).flatten ++ z) ∧ Sub s s' := by
    have hcl := clone_ok (Γ := Γ) (s := s) (tk := tk) hl (by omega)
    refine ACalls.of_awp Tryz.func116 rfl (Nat.le_of_ble_eq_true (by kernel_rfl)) (awp_ok _ (by kernel_rfl) ?_)
    conv => whnf
    repeat' ((first | (exfalso; first | omega | exact (by assumption : ¬ True) trivial | fail) | refine ⟨Sub.refl _, ?_⟩ | (refine brA_split (fun h => ?_) (fun h => ?_) <;> (try rw [h]) <;> (try simp only [bS, ↓reduceIte] at h)) | (refine ACalls.by hcl ?_; rintro _ s2 ⟨b, cap, rfl, hcap, hb, hs2⟩) | refine getB_same ?_ | refine AWp.anyA ?_ | refine and_a ?_ | fail) <;> (conv => whnf))
    have hs2' : Sub s s2 := by rw [hs2]; exact (Sub.refl s).set hb _ _
    have hb2 : s2.bx b = some (51, (exsA l).flatten ++ (List.replicate (cap - l.length) zx).flatten) := by rw [hs2]; exact set_bx_same
    generalize (List.replicate (cap - l.length) zx).flatten = z at *
    refine AWp.loopA [11] [12, 13, 6, 14, 15, 16, 17, 18, 19, 20, 21, 22, 23, 24, 25, 26, 27, 28, 29, 30, 31, 32, 33, 34, 35, 36, 37, 38, 39, 40, 41, 42, 43, 44, 45, 46, 47, 48, 49, 50, 51, 52] (fun i : Nat => [.int .i64 (i : Int)]) (fun i s' => i ≤ l.length ∧ s'.bx b = some (51, (exsA ((l.take i).map (shiftX by_))).flatten ++ ((exsA (l.drop i)).flatten ++ z)) ∧ Sub s s') (fun i => l.length - i) (0) (by kernel_rfl) (eqa) ?_ ?_
    · refine ⟨Nat.zero_le _, ?_, hs2'⟩
      rw [hb2]; rfl
    · rintro y i s' ⟨hi, hbx, hsub⟩
      show awp _ _ _ _ _ (updL _ _ [.int .i64 ((i : Nat) : Int)]) _
      conv => whnf
      by_cases hlt : i < l.length
      · rw [List.drop_eq_getElem_cons hlt] at hbx
        generalize hx : l[i] = x at *
        have hP : (exsA ((l.take i).map (shiftX by_))).flatten.length = i * 10 := by
          rw [flat_len, List.length_map, List.length_take]
          rw [Nat.min_eq_left hi]
        obtain ⟨Q, hQ⟩ : ∃ Q, (exsA (l.drop (i + 1))).flatten ++ z = Q := ⟨_, rfl⟩
        have hfin : ∀ {s'' : Sto} {x' : Ex}, s''.bx b = some (51, (exsA ((l.take i).map (shiftX by_))).flatten ++ (exA x' ++ Q)) → x' = shiftX by_ x → s''.bx b = some (51, (exsA ((l.take (i + 1)).map (shiftX by_))).flatten ++ ((exsA (l.drop (i + 1))).flatten ++ z)) := by
          rintro s'' x' h1 rfl
          rw [h1, ← hQ, List.take_succ_eq_append_getElem hlt, hx]
          simp [exsA]
        generalize (exsA ((l.take i).map (shiftX by_))).flatten = P at *
        replace hbx : s'.bx b = some (51, P ++ (exA x ++ Q)) := by rw [hbx, ← hQ]; simp [exsA]
        clear hQ
        have hlen : ∀ x : Ex, (P ++ (exA x ++ Q)).length = i * 10 + (10 + Q.length) := fun x => by rw [List.length_append, List.length_append, hP]; rfl
        have hfit : ∀ (x : Ex) (j : Nat), j < 10 → 0 + ((i : Nat) : Int).toNat * 10 + j + 1 ≤ (P ++ (exA x ++ Q)).length := fun x j hj => by rw [hlen]; simp; omega
        by_cases h4 : x.op < 4
        · have d4 : decide (x.op < 4) = true := by simp [h4]
          repeat' ((first | (exfalso; first | omega | exact (by assumption : ¬ True) trivial | fail) | refine ⟨Sub.refl _, ?_⟩ | (refine brA_split (fun h => ?_) (fun h => ?_) <;> (try rw [h]) <;> (try simp only [bS, ↓reduceIte] at h)) | (rw [d4]) | (refine getB_of hbx ?_; refine aload_of (drop_at hP _) ?_) | refine getB_same ?_ | refine AWp.anyA ?_ | refine and_a ?_ | fail) <;> (conv => whnf))
          exact ⟨i + 1, eqa, samea, ⟨hlt, hfin hbx (by simp [shiftX, h4]), hsub⟩, by omega⟩
        · have d4 : decide (x.op < 4) = false := by simp [h4]
          repeat' ((first | (exfalso; first | omega | exact (by assumption : ¬ True) trivial | fail) | refine ⟨Sub.refl _, ?_⟩ | (refine brA_split (fun h => ?_) (fun h => ?_) <;> (try rw [h]) <;> (try simp only [bS, ↓reduceIte] at h)) | (rw [d4]) | (refine getB_of hbx ?_; refine aload_of (drop_at hP _) ?_) | refine getB_same ?_ | refine AWp.anyA ?_ | refine and_a ?_ | fail) <;> (conv => whnf))
          · have h16 : 16 < x.op := by assumption
            exact ⟨i + 1, eqa, samea, ⟨hlt, hfin hbx (by simp [shiftX, h16]), hsub⟩, by omega⟩
          have h16 : ¬ 16 < x.op := by assumption
          refine getB_of hbx ?_
          conv => whnf
          refine ⟨rfl, rfl, hfit x 1 (by decide), frcL_of (put_at (x' := { x with a := IntKind.i64.wrap (x.a + by_) }) hP _ (by decide) rfl) ?_⟩
          conv => whnf
          have hsub2 := fun cs => hsub.set hb 51 cs
          repeat' ((first | (exfalso; first | omega | exact (by assumption : ¬ True) trivial | fail) | refine ⟨Sub.refl _, ?_⟩ | (refine brA_split (fun h => ?_) (fun h => ?_) <;> (try rw [h]) <;> (try simp only [bS, ↓reduceIte] at h)) | (refine getB_of set_bx_same ?_; refine aload_of (drop_at hP _) ?_) | refine getB_same ?_ | refine AWp.anyA ?_ | refine and_a ?_ | fail) <;> (conv => whnf))
          · have h5 : 5 < x.op := by assumption
            refine ⟨hfit _ 2 (by decide), frcL_of (put_at (x' := { x with a := IntKind.i64.wrap (x.a + by_), b := IntKind.i64.wrap (x.b + by_) }) hP _ (by decide) rfl) ?_⟩
            conv => whnf
            repeat' ((first | (exfalso; first | omega | exact (by assumption : ¬ True) trivial | fail) | refine ⟨Sub.refl _, ?_⟩ | (refine brA_split (fun h => ?_) (fun h => ?_) <;> (try rw [h]) <;> (try simp only [bS, ↓reduceIte] at h)) | refine getB_same ?_ | refine AWp.anyA ?_ | refine and_a ?_ | fail) <;> (conv => whnf))
            exact ⟨i + 1, eqa, samea, ⟨hlt, hfin (x' := { x with a := IntKind.i64.wrap (x.a + by_), b := IntKind.i64.wrap (x.b + by_) }) set_bx_same (by simp [shiftX, h4, h16, h5]), (hsub2 _).set hb _ _⟩, by omega⟩
          · have h5 : ¬ 5 < x.op := by assumption
            exact ⟨i + 1, eqa, samea, ⟨hlt, hfin (x' := { x with a := IntKind.i64.wrap (x.a + by_) }) set_bx_same (by simp [shiftX, h4, h16, h5]), hsub2 _⟩, by omega⟩
      · obtain rfl : i = l.length := by omega
        repeat' ((first | (exfalso; first | omega | exact (by assumption : ¬ True) trivial | fail) | refine ⟨Sub.refl _, ?_⟩ | (refine brA_split (fun h => ?_) (fun h => ?_) <;> (try rw [h]) <;> (try simp only [bS, ↓reduceIte] at h)) | refine getB_same ?_ | refine AWp.anyA ?_ | refine and_a ?_ | fail) <;> (conv => whnf))
        rw [List.take_length, List.drop_length] at hbx
        exact ⟨_, Sub.refl _, b, cap, z, rfl, hcap, hb, hbx, hsub⟩
  refine h1.frz ?_
  rintro v s' ⟨b, cap, z, rfl, hcap, hb, hbx, hsub⟩
  refine ⟨fz1 b 10 ((exsA (l.map (shiftX by_))).flatten ++ z), s, fz1_of hb hbx, hsub, ?_, rfl⟩
  have hch := chunks_exs z (l.map (shiftX by_))
  rw [List.length_map] at hch
  show fg (fz _ _) = _
  unfold fz fzW
  simp only [fz1_at]
  rw [if_pos ⟨hcap, by rw [List.drop_zero, List.length_append, flat_len, List.length_map]; omega⟩, List.drop_zero, hch]
  unfold fg
  rw [fgE_exs]
end
end Go.Proofs.YtdhgappjicpglaaGreatDoor.Pa
namespace Go.Proofs.YtdhgappjicpglaaGreatDoor
open Go Go.Ab Go.RowKit Go.Shelf
variable {Γ : Nat → AV}
set_option maxRecDepth 100000
def growX : Ren := ⟨fun | 4 => 139 | n => n, fun | 22 => 22 | 25 => 51 | 9 => 9 | 20 => 20 | 0 => 0 | 3 => 3 | 4 => 4 | n => n, fun | n => n⟩
theorem growX_lays : Lays8.n4 Tryz.prog growX where
  mixed := by kernel_rfl
  f4 := ⟨ "slices.Grow[[]proctor/api.Expr,proctor/api.Expr]", by decide, Tryz.func139.trans (congrArg some (by kernel_rfl))⟩
  t0 := Tryz.underlying0
  a0 := Tryz.isAgg0
  z0 := Tryz.sizeOf0
  v0 := Tryz.zeroValue0
  t3 := Tryz.underlying3
  a3 := Tryz.isAgg3
  z3 := Tryz.sizeOf3
  v3 := Tryz.zeroValue3
  t4 := Tryz.underlying4
  a4 := Tryz.isAgg4
  z4 := Tryz.sizeOf4
  v4 := Tryz.zeroValue4
  t9 := Tryz.underlying9
  a9 := Tryz.isAgg9
  z9 := Tryz.sizeOf9
  v9 := Tryz.zeroValue9
  t20 := Tryz.underlying20
  a20 := Tryz.isAgg20
  z20 := Tryz.sizeOf20
  v20 := Tryz.zeroValue20
  t22 := Tryz.underlying22
  a22 := Tryz.isAgg22
  z22 := Tryz.sizeOf22
  v22 := Tryz.zeroValue22
def growI : Ren := ⟨fun | 4 => 141 | n => n, fun | 22 => 53 | 25 => 3 | 9 => 9 | 20 => 20 | 0 => 0 | 3 => 3 | 4 => 4 | n => n, fun | n => n⟩
theorem growI_lays : Lays8.n4 Tryz.prog growI where
  mixed := by kernel_rfl
  f4 := ⟨ "slices.Grow[[]int,int]", by decide, Tryz.func141.trans (congrArg some (by kernel_rfl))⟩
  t0 := Tryz.underlying0
  a0 := Tryz.isAgg0
  z0 := Tryz.sizeOf0
  v0 := Tryz.zeroValue0
  t3 := Tryz.underlying3
  a3 := Tryz.isAgg3
  z3 := Tryz.sizeOf3
  v3 := Tryz.zeroValue3
  t4 := Tryz.underlying4
  a4 := Tryz.isAgg4
  z4 := Tryz.sizeOf4
  v4 := Tryz.zeroValue4
  t9 := Tryz.underlying9
  a9 := Tryz.isAgg9
  z9 := Tryz.sizeOf9
  v9 := Tryz.zeroValue9
  t20 := Tryz.underlying20
  a20 := Tryz.isAgg20
  z20 := Tryz.sizeOf20
  v20 := Tryz.zeroValue20
  t22 := Tryz.underlying53
  a22 := Tryz.isAgg53
  z22 := Tryz.sizeOf53
  v22 := Tryz.zeroValue53
theorem grow_of {f : FuncId} {e : TypeId} {k n : Nat} {s : Sto} {ρ : Ren} (L : Lays8.n4 Tryz.prog ρ) (hf : ρ.f 4 = f) (he : ρ.t 25 = e) {i0 : TypeInfo} {z : Value} (hi : Tryz.prog.info? e = some i0) (hz : i0.zero = some z) (hs : i0.size = k) (hzk : z.cells.size = k) (hk : 0 < k) (hb : i0.bytes ≤ 1000) (hn : n ≤ 10000000) :
    ACalls Tryz.prog Γ f [.slice 1 [], .int .i64 (n : Int)] s fun v s' => ∃ t, v = .slice t [] ∧ Own s s' true t e k := by
  subst hf he hs
  refine grow_nil (fun h0 a w => ?_) (fun h0 a w => ?_)
  · exact Any8.slices_Grow_room L a 0 0 0 w (Nat.le_refl _) (by omega) (by omega) (by omega)
  · refine ⟨_, _, ?_, Any8.slices_Grow_grow L i0 z hi hz hk a 0 0 n [] w (Nat.le_refl _) (by omega) ?_ (by omega) (by simp) (fun _ => rfl) (fun _ _ j v hj => by simp at hj)⟩
    · have := grownCap_ge w (0 + n) 0 (ρ.t 25)
      generalize grownCap w (0 + n) 0 (ρ.t 25) = g at *
      simp only [Array.size_append, size_zeroCells, hzk, List.size_toArray, List.length_nil]
      rw [show g = n + (g - n) by omega, Nat.add_mul]
      simp
    · calc (0 + n) * i0.bytes ≤ 10000000 * 1000 := Nat.mul_le_mul (by omega) hb
        _ ≤ _ := by decide
theorem growX_ok {n : Nat} {s : Sto} (hn : n ≤ 10000000) : ACalls Tryz.prog Γ 139 [.slice 1 [], .int .i64 (n : Int)] s fun v s' => ∃ t, v = .slice t [] ∧ Own s s' true t 51 10 :=
  grow_of (k := 10) growX_lays rfl rfl rfl rfl rfl rfl (by decide) (Nat.le_of_ble_eq_true (by kernel_rfl)) hn
theorem growI_ok {n : Nat} {s : Sto} (hn : n ≤ 10000000) : ACalls Tryz.prog Γ 141 [.slice 1 [], .int .i64 (n : Int)] s fun v s' => ∃ t, v = .slice t [] ∧ Own s s' true t 3 1 :=
  grow_of (k := 1) growI_lays rfl rfl rfl rfl rfl rfl (by decide) (Nat.le_of_ble_eq_true (by kernel_rfl)) hn
end Go.Proofs.YtdhgappjicpglaaGreatDoor
namespace Go.Proofs.YtdhgappjicpglaaGreatDoor.Pa
open Go Go.Ab Go.RowKit
variable {Γ : Nat → AV}
attribute [local irreducible] APure Sto.set Sto.grow
set_option maxRecDepth 10000
set_option maxHeartbeats 1000000
theorem _root_.Go.Ab.Own.later {a b c : Sto} {z : Bool} {t : Nat} {e : TypeId} {k : Nat} (h : Own a b z t e k) (hs : Sub b c) : Own a c z t e k :=
  ⟨h.sub.trans hs, h.own.imp id fun x => ⟨x.1, hs.lv _ _ _ x.2.1, x.2.2⟩⟩
def slA {α : Type} (A : α → List AV) (l : List α) : List AV := [.slice 0 (l.map A)]
theorem slA_at {α : Type} {A : α → List AV} {ls : List (List α)} {i : Nat} (h : i < ls.length) : (ls.map (slA A)).getD i [] = [.slice 0 ((ls.getD i []).map A)] := by simp [slA, List.getD, h]
theorem flat_take {α : Type} {ls : List (List α)} {i : Nat} (h : i < ls.length) : (ls.take (i + 1)).flatten = (ls.take i).flatten ++ ls.getD i [] := by
  rw [List.take_add_one, List.flatten_append]; simp [List.getD, h]
theorem flat_le {α : Type} (ls : List (List α)) (i : Nat) : (ls.take i).flatten.length ≤ ls.flatten.length := by
  rw [show ls.flatten = (ls.take i).flatten ++ (ls.drop i).flatten by rw [← List.flatten_append, List.take_append_drop], List.length_append]; omega
theorem isEmpty_app {α : Type} (l m : List α) : (l ++ m).isEmpty = (l.isEmpty && m.isEmpty) := by cases l <;> cases m <;> rfl
section
variable {s : Sto}
theorem concatX_ok {tk : Nat} {ls : List (List Ex)} (hn : ls.length ≤ 100) (hz : ls.flatten.length ≤ 1000000) :
    ACalls Tryz.prog Γ 115 [.slice tk (ls.map (slA exA))] s fun v s' => ∃ t, v = .slice t (ls.flatten.map exA) ∧ Own s s' ls.flatten.isEmpty t 51 10 := by
  have hlen : (ls.map (slA exA)).length = ls.length := List.length_map ..
  refine ACalls.of_awp Tryz.func115 rfl (Nat.le_of_ble_eq_true (by kernel_rfl)) (awp_ok _ (by kernel_rfl) ?_)
  conv => whnf
  repeat' ((first | (exfalso; first | omega | exact (by assumption : ¬ True) trivial | fail) | refine ⟨Sub.refl _, ?_⟩ | (refine brA_split (fun h => ?_) (fun h => ?_) <;> (try rw [h]) <;> (try simp only [bS, ↓reduceIte] at h)) | refine getB_same ?_ | refine AWp.anyA ?_ | refine and_a ?_ | fail) <;> (conv => whnf))
  refine AWp.loopA [3, 11] [12, 13, 14, 5, 15, 16, 17, 18, 19, 20, 21, 22] (fun i : Nat => [.int .i64 ((ls.take i).flatten.length : Int), .int .i64 (i : Int)]) (fun i s' => i ≤ ls.length ∧ s' = s) (fun i => ls.length - i) (0) (by kernel_rfl) (eqa) ?_ ?_
  · exact ⟨Nat.zero_le _, rfl⟩
  · rintro x i s' ⟨hi, hs'⟩
    subst s'
    show awp _ _ _ _ _ (updL _ _ [.int .i64 ((ls.take i).flatten.length : Int), .int .i64 (i : Int)]) _
    conv => whnf
    by_cases hlt : i < ls.length
    · have hat := slA_at (A := exA) hlt
      have hz : ((i : Int)).toNat = i := rfl
      have hle := flat_le ls (i + 1)
      rw [flat_take hlt, List.length_append] at hle
      have hw1 : IntKind.i64.wrap (((ls.take i).flatten.length : Int) + (((ls.getD i []).map exA).length : Int)) = ((ls.take (i + 1)).flatten.length : Int) := i64_of (by rw [flat_take hlt, List.length_append, List.length_map]; omega) (by omega) (by rw [flat_take hlt, List.length_append]; omega)
      have hw2 : IntKind.i64.wrap ((i : Int) + 1) = ((i + 1 : Nat) : Int) := i64_of (by omega) (by omega) (by omega)
      repeat' ((first | (exfalso; first | omega | exact (by assumption : ¬ True) trivial | fail) | refine ⟨Sub.refl _, ?_⟩ | (refine brA_split (fun h => ?_) (fun h => ?_) <;> (try rw [h]) <;> (try simp only [bS, ↓reduceIte] at h)) | (rw [hz]) | (rw [hat]) | (rw [hw1]) | (rw [hw2]) | refine getB_same ?_ | refine AWp.anyA ?_ | refine and_a ?_ | fail) <;> (conv => whnf))
      exact ⟨i + 1, eqa, samea, ⟨hlt, rfl⟩, by omega⟩
    · obtain rfl : i = ls.length := by omega
      rw [List.take_length]
      repeat' ((first | (exfalso; first | omega | exact (by assumption : ¬ True) trivial | fail) | refine ⟨Sub.refl _, ?_⟩ | (refine brA_split (fun h => ?_) (fun h => ?_) <;> (try rw [h]) <;> (try simp only [bS, ↓reduceIte] at h)) | (refine ACalls.by (growX_ok (by omega)) ?_; rintro _ s1 ⟨t0, rfl, ho⟩) | refine getB_same ?_ | refine AWp.anyA ?_ | refine and_a ?_ | fail) <;> (conv => whnf))
      refine AWp.loopA [6, 27] [28, 29, 30, 8, 31, 32, 33, 34] (fun q : Nat × Nat => [.slice q.2 ((ls.take q.1).flatten.map exA), .int .i64 (q.1 : Int)]) (fun q s' => q.1 ≤ ls.length ∧ Own s s' (ls.take q.1).flatten.isEmpty q.2 51 10) (fun q => ls.length - q.1) ((0, t0)) (by kernel_rfl) (eqa) ?_ ?_
      · exact ⟨Nat.zero_le _, ho⟩
      · rintro y ⟨i, t⟩ s' ⟨hi, hown⟩
        simp only at hi hown
        show awp _ _ _ _ _ (updL _ _ [.slice t ((ls.take i).flatten.map exA), .int .i64 (i : Int)]) _
        conv => whnf
        by_cases hlt : i < ls.length
        · have hat := slA_at (A := exA) hlt
          have hz : ((i : Int)).toNat = i := rfl
          have hle := flat_le ls (i + 1)
          rw [flat_take hlt, List.length_append] at hle
          have hw2 : IntKind.i64.wrap ((i : Int) + 1) = ((i + 1 : Nat) : Int) := i64_of (by omega) (by omega) (by omega)
          repeat' ((first | (exfalso; first | omega | exact (by assumption : ¬ True) trivial | fail) | refine ⟨Sub.refl _, ?_⟩ | (refine brA_split (fun h => ?_) (fun h => ?_) <;> (try rw [h]) <;> (try simp only [bS, ↓reduceIte] at h)) | (rw [hz]) | (rw [hat]) | refine getB_same ?_ | refine AWp.anyA ?_ | refine and_a ?_ | fail) <;> (conv => whnf))
          refine ⟨hown.may, fun c hc => by obtain ⟨z, _, rfl⟩ := List.mem_map.1 hc; rfl, fun c hc => by obtain ⟨z, _, rfl⟩ := List.mem_map.1 hc; exact ⟨rfl, rfl⟩, Nat.le_trans (Nat.mul_le_mul_right _ (show _ ≤ 1000000 from by simp only [List.length_map]; omega)) (Nat.le_of_ble_eq_true (by kernel_rfl)), ?_⟩
          intro t2 k1 k2
          have k3 := hown.grow k1 k2
          conv => whnf
          repeat' ((first | (exfalso; first | omega | exact (by assumption : ¬ True) trivial | fail) | refine ⟨Sub.refl _, ?_⟩ | (refine brA_split (fun h => ?_) (fun h => ?_) <;> (try rw [h]) <;> (try simp only [bS, ↓reduceIte] at h)) | (rw [hw2]) | refine getB_same ?_ | refine AWp.anyA ?_ | refine and_a ?_ | fail) <;> (conv => whnf))
          refine ⟨(i + 1, t2), ?_, samea, ⟨hlt, ?_⟩, by simp only; omega⟩
          · dsimp only
            exact cons_eq (congrArg (AV.slice t2) (show (ls.take i).flatten.map exA ++ (ls.getD i []).map exA = _ by rw [flat_take hlt, List.map_append])) (cons_eq rfl rfl)
          · dsimp only
            rw [flat_take hlt, isEmpty_app]
            rw [show ((ls.getD i []).map exA).isEmpty = (ls.getD i []).isEmpty by cases ls.getD i [] <;> rfl] at k3
            exact k3
        · obtain rfl : i = ls.length := by omega
          rw [List.take_length] at hown
          rw [List.take_length]
          repeat' ((first | (exfalso; first | omega | exact (by assumption : ¬ True) trivial | fail) | refine ⟨Sub.refl _, ?_⟩ | (refine brA_split (fun h => ?_) (fun h => ?_) <;> (try rw [h]) <;> (try simp only [bS, ↓reduceIte] at h)) | refine getB_same ?_ | refine AWp.anyA ?_ | refine and_a ?_ | fail) <;> (conv => whnf))
          exact ⟨_, Sub.refl _, t, rfl, hown⟩
def inA (x : Int) : List AV := [.int .i64 x]
theorem concatI_ok {tk : Nat} {ls : List (List Int)} (hn : ls.length ≤ 100) (hz : ls.flatten.length ≤ 1000000) :
    ACalls Tryz.prog Γ 117 [.slice tk (ls.map (slA inA))] s fun v s' => ∃ t, v = .slice t (ls.flatten.map inA) ∧ Own s s' ls.flatten.isEmpty t 3 1 := by
  have hlen : (ls.map (slA inA)).length = ls.length := List.length_map ..
  refine ACalls.of_awp Tryz.func117 rfl (Nat.le_of_ble_eq_true (by kernel_rfl)) (awp_ok _ (by kernel_rfl) ?_)
  conv => whnf
  repeat' ((first | (exfalso; first | omega | exact (by assumption : ¬ True) trivial | fail) | refine ⟨Sub.refl _, ?_⟩ | (refine brA_split (fun h => ?_) (fun h => ?_) <;> (try rw [h]) <;> (try simp only [bS, ↓reduceIte] at h)) | refine getB_same ?_ | refine AWp.anyA ?_ | refine and_a ?_ | fail) <;> (conv => whnf))
  refine AWp.loopA [3, 11] [12, 13, 14, 5, 15, 16, 17, 18, 19, 20, 21, 22] (fun i : Nat => [.int .i64 ((ls.take i).flatten.length : Int), .int .i64 (i : Int)]) (fun i s' => i ≤ ls.length ∧ s' = s) (fun i => ls.length - i) (0) (by kernel_rfl) (eqa) ?_ ?_
  · exact ⟨Nat.zero_le _, rfl⟩
  · rintro x i s' ⟨hi, hs'⟩
    subst s'
    show awp _ _ _ _ _ (updL _ _ [.int .i64 ((ls.take i).flatten.length : Int), .int .i64 (i : Int)]) _
    conv => whnf
    by_cases hlt : i < ls.length
    · have hat := slA_at (A := inA) hlt
      have hz : ((i : Int)).toNat = i := rfl
      have hle := flat_le ls (i + 1)
      rw [flat_take hlt, List.length_append] at hle
      have hw1 : IntKind.i64.wrap (((ls.take i).flatten.length : Int) + (((ls.getD i []).map inA).length : Int)) = ((ls.take (i + 1)).flatten.length : Int) := i64_of (by rw [flat_take hlt, List.length_append, List.length_map]; omega) (by omega) (by rw [flat_take hlt, List.length_append]; omega)
      have hw2 : IntKind.i64.wrap ((i : Int) + 1) = ((i + 1 : Nat) : Int) := i64_of (by omega) (by omega) (by omega)
      repeat' ((first | (exfalso; first | omega | exact (by assumption : ¬ True) trivial | fail) | refine ⟨Sub.refl _, ?_⟩ | (refine brA_split (fun h => ?_) (fun h => ?_) <;> (try rw [h]) <;> (try simp only [bS, ↓reduceIte] at h)) | (rw [hz]) | (rw [hat]) | (rw [hw1]) | (rw [hw2]) | refine getB_same ?_ | refine AWp.anyA ?_ | refine and_a ?_ | fail) <;> (conv => whnf))
      exact ⟨i + 1, eqa, samea, ⟨hlt, rfl⟩, by omega⟩
    · obtain rfl : i = ls.length := by omega
      rw [List.take_length]
      repeat' ((first | (exfalso; first | omega | exact (by assumption : ¬ True) trivial | fail) | refine ⟨Sub.refl _, ?_⟩ | (refine brA_split (fun h => ?_) (fun h => ?_) <;> (try rw [h]) <;> (try simp only [bS, ↓reduceIte] at h)) | (refine ACalls.by (growI_ok (by omega)) ?_; rintro _ s1 ⟨t0, rfl, ho⟩) | refine getB_same ?_ | refine AWp.anyA ?_ | refine and_a ?_ | fail) <;> (conv => whnf))
      refine AWp.loopA [6, 27] [28, 29, 30, 8, 31, 32, 33, 34] (fun q : Nat × Nat => [.slice q.2 ((ls.take q.1).flatten.map inA), .int .i64 (q.1 : Int)]) (fun q s' => q.1 ≤ ls.length ∧ Own s s' (ls.take q.1).flatten.isEmpty q.2 3 1) (fun q => ls.length - q.1) ((0, t0)) (by kernel_rfl) (eqa) ?_ ?_
      · exact ⟨Nat.zero_le _, ho⟩
      · rintro y ⟨i, t⟩ s' ⟨hi, hown⟩
        simp only at hi hown
        show awp _ _ _ _ _ (updL _ _ [.slice t ((ls.take i).flatten.map inA), .int .i64 (i : Int)]) _
        conv => whnf
        by_cases hlt : i < ls.length
        · have hat := slA_at (A := inA) hlt
          have hz : ((i : Int)).toNat = i := rfl
          have hle := flat_le ls (i + 1)
          rw [flat_take hlt, List.length_append] at hle
          have hw2 : IntKind.i64.wrap ((i : Int) + 1) = ((i + 1 : Nat) : Int) := i64_of (by omega) (by omega) (by omega)
          repeat' ((first | (exfalso; first | omega | exact (by assumption : ¬ True) trivial | fail) | refine ⟨Sub.refl _, ?_⟩ | (refine brA_split (fun h => ?_) (fun h => ?_) <;> (try rw [h]) <;> (try simp only [bS, ↓reduceIte] at h)) | (rw [hz]) | (rw [hat]) | refine getB_same ?_ | refine AWp.anyA ?_ | refine and_a ?_ | fail) <;> (conv => whnf))
          refine ⟨hown.may, fun c hc => by obtain ⟨z, _, rfl⟩ := List.mem_map.1 hc; rfl, fun c hc => by obtain ⟨z, _, rfl⟩ := List.mem_map.1 hc; exact ⟨rfl, rfl⟩, Nat.le_trans (Nat.mul_le_mul_right _ (show _ ≤ 1000000 from by simp only [List.length_map]; omega)) (Nat.le_of_ble_eq_true (by kernel_rfl)), ?_⟩
          intro t2 k1 k2
          have k3 := hown.grow k1 k2
          conv => whnf
          repeat' ((first | (exfalso; first | omega | exact (by assumption : ¬ True) trivial | fail) | refine ⟨Sub.refl _, ?_⟩ | (refine brA_split (fun h => ?_) (fun h => ?_) <;> (try rw [h]) <;> (try simp only [bS, ↓reduceIte] at h)) | (rw [hw2]) | refine getB_same ?_ | refine AWp.anyA ?_ | refine and_a ?_ | fail) <;> (conv => whnf))
          refine ⟨(i + 1, t2), ?_, samea, ⟨hlt, ?_⟩, by simp only; omega⟩
          · dsimp only
            exact cons_eq (congrArg (AV.slice t2) (show (ls.take i).flatten.map inA ++ (ls.getD i []).map inA = _ by rw [flat_take hlt, List.map_append])) (cons_eq rfl rfl)
          · dsimp only
            rw [flat_take hlt, isEmpty_app]
            rw [show ((ls.getD i []).map inA).isEmpty = (ls.getD i []).isEmpty by cases ls.getD i [] <;> rfl] at k3
            exact k3
        · obtain rfl : i = ls.length := by omega
          rw [List.take_length] at hown
          rw [List.take_length]
          repeat' ((first | (exfalso; first | omega | exact (by assumption : ¬ True) trivial | fail) | refine ⟨Sub.refl _, ?_⟩ | (refine brA_split (fun h => ?_) (fun h => ?_) <;> (try rw [h]) <;> (try simp only [bS, ↓reduceIte] at h)) | refine getB_same ?_ | refine AWp.anyA ?_ | refine and_a ?_ | fail) <;> (conv => whnf))
          exact ⟨_, Sub.refl _, t, rfl, hown⟩
end
end Go.Proofs.YtdhgappjicpglaaGreatDoor.Pa
namespace Go.Proofs.YtdhgappjicpglaaGreatDoor.Pa
open Go Go.Ab Go.RowKit Go.Proofs.YtdhgappjicpglaaGreatDoor.Lx
variable {Γ : Nat → AV}
theorem own_apart {a b c : Sto} {z z2 : Bool} {t t2 : Nat} {e e2 : TypeId} {k k2 : Nat} (h : Own a b z t e k) (h2 : Own b c z2 t2 e2 k2) : t = t2 → t = 1 := fun ht => by
  rcases h.own with ⟨h1, _⟩ | ⟨h1, h3, _⟩
  · exact h1
  · rcases h2.own with ⟨h4, _⟩ | ⟨_, _, h5⟩
    · exact ht.trans h4
    · subst ht; exact absurd h3 (h5 _ _)
theorem exs_all (l : List Ex) : ∀ c ∈ exsA l, c.length = 10 := fun c hc => by obtain ⟨z, _, rfl⟩ := List.mem_map.1 hc; rfl
theorem ints_all (l : List Int) : ∀ c ∈ intsA .i64 l, c.length = 1 := fun c hc => by obtain ⟨z, _, rfl⟩ := List.mem_map.1 hc; rfl
theorem le_len {α : Type} {l : List α} {n a : Nat} (h : l.length = n) (k : a ≤ n) : a ≤ l.length := h ▸ k
attribute [local irreducible] APure Sto.set Sto.grow
set_option maxRecDepth 10000
set_option maxHeartbeats 1500000
theorem turn_ok (L : List Tok) (hL : L.length ≤ 90000) : Turns Γ L := by
  intro s0 s bp bl st i j hP hS hij hjl
  obtain ⟨t1, t2, hb, w1, w2, w3⟩ := hP.pr
  have hso := hS.ho
  have hsa := hS.ha
  have hd := hS.hd
  have hol := exsA_len st.o
  have hdl := intsA_len .i64 st.d
  have hA : List.drop ((i : Int)).toNat (List.take ((j : Int)).toNat (exsA st.o)) = exsA ((st.o.take j).drop i) := by simp [exsA, List.map_take, List.map_drop]
  have hB : List.drop ((j : Int)).toNat (List.take (exsA st.o).length (exsA st.o)) = exsA (st.o.drop j) := by rw [Int.toNat_natCast, drop_take_all]; simp [exsA, List.map_drop]
  have hC : List.drop 0 (List.take ((i : Int)).toNat (exsA st.o)) = exsA (st.o.take i) := by simp [exsA, List.map_take]
  have hD : List.drop 0 (List.take ((i : Int)).toNat (intsA .i64 st.d)) = intsA .i64 (st.d.take i) := by simp [intsA, List.map_take]
  have hE : List.drop ((j : Int)).toNat (List.take (intsA .i64 st.d).length (intsA .i64 st.d)) = intsA .i64 (st.d.drop j) := by rw [Int.toNat_natCast, drop_take_all]; simp [intsA, List.map_drop]
  have hF : List.drop ((i : Int)).toNat (List.take ((j : Int)).toNat (intsA .i64 st.d)) = intsA .i64 ((st.d.take j).drop i) := by simp [intsA, List.map_take, List.map_drop]
  have hz1 : ((i : Int)).toNat = i := rfl
  have hz2 : ((j : Int)).toNat = j := rfl
  have hl1 : (exsA ((st.o.take j).drop i)).length = j - i := by rw [exsA_len, List.length_drop, List.length_take]; omega
  have hl2 : (exsA (st.o.drop j)).length = st.o.length - j := by rw [exsA_len, List.length_drop]
  have hw1 : IntKind.i64.wrap (0 - ((j - i : Nat) : Int)) = -((j - i : Nat) : Int) := i64_of (by omega) (by omega) (by omega)
  have hs1 := fun tk => ACalls.pure' (s := s) (K := fun v s' => v = .slice 0 (exsA ((st.o.drop j).map (shiftX (-((j - i : Nat) : Int))))) ∧ s' = s) (fun v hv => ⟨hv, rfl⟩) (shift_ok (Γ := Γ) (tk := tk) (l := st.o.drop j) (by_ := -((j - i : Nat) : Int)) (by rw [Ne, ← List.length_eq_zero_iff, List.length_drop]; omega) (by rw [List.length_drop]; omega))
  have hs2 := fun tk => ACalls.pure' (s := s) (K := fun v s' => v = .slice 0 (exsA (((st.o.take j).drop i).map (shiftX ((st.o.length - j : Nat) : Int)))) ∧ s' = s) (fun v hv => ⟨hv, rfl⟩) (shift_ok (Γ := Γ) (tk := tk) (l := (st.o.take j).drop i) (by_ := ((st.o.length - j : Nat) : Int)) (by rw [Ne, ← List.length_eq_zero_iff, List.length_drop, List.length_take]; omega) (by rw [List.length_drop, List.length_take]; omega))
  have hc1 := concatX_ok (Γ := Γ) (s := s) (tk := 1) (ls := [st.o.take i, (st.o.drop j).map (shiftX (-((j - i : Nat) : Int))), ((st.o.take j).drop i).map (shiftX ((st.o.length - j : Nat) : Int))]) (by simp) (by simp only [List.flatten_cons, List.flatten_nil, List.length_append, List.length_map, List.length_take, List.length_drop, List.length_nil]; omega)
  refine ACalls.of_awp Tryz.func99 rfl (Nat.le_of_ble_eq_true (by kernel_rfl)) (awp_ok _ (by kernel_rfl) ?_)
  conv => whnf
  repeat' ((first | (exfalso; first | omega | exact (by assumption : ¬ True) trivial | fail) | refine ⟨Sub.refl _, ?_⟩ | (refine brA_split (fun h => ?_) (fun h => ?_) <;> (try rw [h]) <;> (try simp only [bS, ↓reduceIte] at h)) | (refine getB_of hb ?_) | (rw [hA]) | (rw [hB]) | (rw [hC]) | (refine ⟨exs_all _, ?_⟩) | (refine ⟨le_len hol (by omega), ?_⟩) | (refine AWp.anyC (id := 1) [32, 36] [38] (by kernel_rfl) (by kernel_rfl) (by kernel_rfl) (by kernel_rfl) ?_) | (refine ⟨trivial, ?_⟩) | (rw [hl1]) | (rw [hl2]) | (rw [hw1]) | (refine CCall.mk _ (hs1 _) ?_) | (refine CCall.mk _ (hs2 _) ?_) | (refine ACalls.by hc1 ?_; rintro _ s1 ⟨t3, rfl, ho1⟩) | refine getB_same ?_ | refine AWp.anyA ?_ | refine and_a ?_ | fail) <;> (conv => whnf))
  have hb1 := ho1.sub.bx _ _ hb
  have hl3 := ho1.sub.bx _ _ hP.pl
  obtain ⟨o', ho'⟩ : ∃ o', o' = [st.o.take i, (st.o.drop j).map (shiftX (-((j - i : Nat) : Int))), ((st.o.take j).drop i).map (shiftX ((st.o.length - j : Nat) : Int))].flatten := ⟨_, rfl⟩
  rw [← ho'] at ho1
  rw [← ho']
  have hc2 := concatI_ok (Γ := Γ) (s := s1.set bp 70 [.ptr (some ⟨bl, 0, none⟩), .slice t3 (o'.map exA), .slice t2 (intsA .i64 st.d), .int .i64 st.k]) (tk := 1) (ls := [st.d.take i, st.d.drop j, (st.d.take j).drop i]) (by simp) (by simp only [List.flatten_cons, List.flatten_nil, List.length_append, List.length_map, List.length_take, List.length_drop, List.length_nil]; omega)
  obtain ⟨d', hd'⟩ : ∃ d', d' = [st.d.take i, st.d.drop j, (st.d.take j).drop i].flatten := ⟨_, rfl⟩
  rw [← hd'] at hc2
  refine getB_of hb1 ?_
  conv => whnf
  refine ⟨rfl, rfl, Nat.le_of_ble_eq_true rfl, ?_⟩
  conv => whnf
  refine AWp.anyC (id := 2) [] [62] (by kernel_rfl) (by kernel_rfl) (by kernel_rfl) (by kernel_rfl) ?_
  conv => whnf
  repeat' ((first | (exfalso; first | omega | exact (by assumption : ¬ True) trivial | fail) | refine ⟨Sub.refl _, ?_⟩ | (refine brA_split (fun h => ?_) (fun h => ?_) <;> (try rw [h]) <;> (try simp only [bS, ↓reduceIte] at h)) | (refine ⟨trivial, ?_⟩) | (refine getB_of set_bx_same ?_) | (rw [hD]) | refine getB_same ?_ | refine AWp.anyA ?_ | refine and_a ?_ | fail) <;> (conv => whnf))
  refine ⟨ints_all _, ?_⟩
  conv => whnf
  repeat' ((first | (exfalso; first | omega | exact (by assumption : ¬ True) trivial | fail) | refine ⟨Sub.refl _, ?_⟩ | (refine brA_split (fun h => ?_) (fun h => ?_) <;> (try rw [h]) <;> (try simp only [bS, ↓reduceIte] at h)) | (refine ⟨trivial, ?_⟩) | (refine getB_of set_bx_same ?_) | refine getB_same ?_ | refine AWp.anyA ?_ | refine and_a ?_ | fail) <;> (conv => whnf))
  rw [hE]
  refine ⟨ints_all _, ?_⟩
  conv => whnf
  repeat' ((first | (exfalso; first | omega | exact (by assumption : ¬ True) trivial | fail) | refine ⟨Sub.refl _, ?_⟩ | (refine brA_split (fun h => ?_) (fun h => ?_) <;> (try rw [h]) <;> (try simp only [bS, ↓reduceIte] at h)) | (refine ⟨trivial, ?_⟩) | (refine getB_of set_bx_same ?_) | refine getB_same ?_ | refine AWp.anyA ?_ | refine and_a ?_ | fail) <;> (conv => whnf))
  rw [hF]
  refine ⟨ints_all _, ?_⟩
  conv => whnf
  repeat' ((first | (exfalso; first | omega | exact (by assumption : ¬ True) trivial | fail) | refine ⟨Sub.refl _, ?_⟩ | (refine brA_split (fun h => ?_) (fun h => ?_) <;> (try rw [h]) <;> (try simp only [bS, ↓reduceIte] at h)) | (refine ⟨trivial, ?_⟩) | refine getB_same ?_ | refine AWp.anyA ?_ | refine and_a ?_ | fail) <;> (conv => whnf))
  refine ACalls.by hc2 ?_
  rintro _ s2 ⟨t4, rfl, ho2⟩
  conv => whnf
  have hb2 := ho2.sub.bx _ _ set_bx_same
  have hl4 := ho2.sub.bx _ _ ((set_bx_other hP.ne.symm).trans hl3)
  repeat' ((first | (exfalso; first | omega | exact (by assumption : ¬ True) trivial | fail) | refine ⟨Sub.refl _, ?_⟩ | (refine brA_split (fun h => ?_) (fun h => ?_) <;> (try rw [h]) <;> (try simp only [bS, ↓reduceIte] at h)) | (refine getB_of hb2 ?_) | (refine ⟨trivial, ?_⟩) | refine getB_same ?_ | refine AWp.anyA ?_ | refine and_a ?_ | fail) <;> (conv => whnf))
  have w4 := ((ho1.of_sub hP.sub).set (T := 70) (cs := [.ptr (some ⟨bl, 0, none⟩), .slice t3 (o'.map exA), .slice t2 (intsA .i64 st.d), .int .i64 st.k]) hP.np)
  have w5 := w4.later ho2.sub
  have w6 := ho2.of_sub w4.sub
  have ho3 : (turnF st i j).o = o' := by rw [ho']; simp [turnF, List.append_assoc]
  have hd3 : (turnF st i j).d = d' := by rw [hd']; simp [turnF, List.append_assoc]
  rw [ho3, hd3]
  exact ⟨_, Sub.refl _, rfl, hP.np, hP.nl, hP.ne, ⟨t3, t4, set_bx_same, w5.set hP.np, w6.set hP.np, own_apart w4 ho2⟩, (set_bx_other hP.ne.symm).trans hl4⟩
end Go.Proofs.YtdhgappjicpglaaGreatDoor.Pa
namespace Go.Proofs.YtdhgappjicpglaaGreatDoor.Pa
open Go Go.Ab Go.RowKit Go.Proofs.YtdhgappjicpglaaGreatDoor.Lx
variable {Γ : Nat → AV}
theorem lev_zero {L : List Tok} {n : FuncId} {lv : Nat} : Lev Γ L n 0 lv := fun _ _ _ _ _ _ _ hE => absurd hE (Nat.not_lt_zero _)
theorem levels (hR : Nu.ErrR Γ) {L : List Tok} (hL : L.length ≤ 90000) (hT : ∀ i, (peekF L i).2.1.length ≤ 5000) : ∀ f, Lev Γ L 19 f 0 ∧ Lev Γ L 36 f 1 ∧ Lev Γ L 55 f 2 ∧ Lev Γ L 80 f 3 ∧ Lev Γ L 98 f 4 ∧ Lev Γ L 114 f 5 ∧ Lev Γ L 138 f 6
  | 0 => ⟨lev_zero, lev_zero, lev_zero, lev_zero, lev_zero, lev_zero, lev_zero⟩
  | f + 1 => by
    obtain ⟨h0, h1, h2, h3, h4, h5, h6⟩ := levels hR hL hT f
    exact ⟨expr_ok hL h1, and_ok hL h2, not_ok hL h3 h2, comp_ok hL (turn_ok L hL) h4, sum_ok hL h5, prod_ok hL h6, unary_ok hR hL hT h0 h6⟩
/-- An expression, with fuel enough. -/
def fuelN (L : List Tok) : Nat := 7 * L.length + 7
theorem enough_all (L : List Tok) (st : St) : Enough L 0 (fuelN L) st := by unfold Enough fuelN; omega
end Go.Proofs.YtdhgappjicpglaaGreatDoor.Pa
namespace Go.Proofs.YtdhgappjicpglaaGreatDoor.AsP
open Go Go.RowKit Go.Extern.Stop Go.Stop Go.Extern
set_option maxRecDepth 10000
theorem valueOfPE (t : Addr) (w : World) : (ReflectliteValue.unpack (.iface 91 (.pointer (some t)))).run Tryz.prog w
    = .ok (.agg #[.pointer (some ⟨13, 91, none⟩), .pointer (some ⟨w.heap.size, 0, none⟩), .int .u64 150]) (w.alloc (.cells #[.pointer (some t)] 91)) := by kernel_rfl
theorem typePE (a : Addr) (w : World) : (ReflectliteValue.methodAny (ReflectliteValue.valueError "reflectlite.Value.Type" 0) (fun t _ _ _ => ReflectliteType.toType t) #[(.agg #[.pointer (some ⟨13, 91, none⟩), .pointer (some a), .int .u64 150])]).run Tryz.prog w
    = .ok (.iface 148 (.agg #[.pointer (some ⟨13, 91, none⟩)])) w := by kernel_rfl
theorem methodKind (h : Value) (w : World) : (Go.method 380 148 (.agg #[h]) "Kind").run Tryz.prog w = .ok (191, h) w := by kernel_rfl
theorem kindPE (w : World) : ((ReflectliteType.abiMethod fun t => (fun a : Nat => Value.int IntKind.u8 (a : Int)) <$> Rtype.kind t) #[.pointer (some ⟨13, 91, none⟩)]).run Tryz.prog w = .ok (.int .u8 22) w := by kernel_rfl
theorem kindE (w : World) : ((ReflectliteType.abiMethod fun t => (fun a : Nat => Value.int IntKind.u8 (a : Int)) <$> Rtype.kind t) #[.pointer (some ⟨13, 89, none⟩)]).run Tryz.prog w = .ok (.int .u8 22) w := by kernel_rfl
theorem rlm (z : Sem Value) (f : TypeId → Addr → Nat → Nat → Sem Value) (v : Value) :
    ReflectliteValue.method z f #[v] = (do match ← ReflectliteValue.parts v with | none => z | some (t, a, fl) => f t a fl (fl % 32)) := rfl
theorem partsPE (a : Addr) (w : World) : (ReflectliteValue.parts (.agg #[.pointer (some ⟨13, 91, none⟩), .pointer (some a), .int .u64 150])).run Tryz.prog w = .ok (some (91, a, 150)) w := by kernel_rfl
theorem isNilPE (a p : Addr) (W : World) (ha : W.cell? a = some (.pointer (some p))) :
    (ReflectliteValue.method (ReflectliteValue.valueError "reflectlite.Value.IsNil" 0) ReflectliteValue.isNil #[(.agg #[.pointer (some ⟨13, 91, none⟩), .pointer (some a), .int .u64 150])]).run Tryz.prog W = .ok (.bool false) W := by
  rw [rlm]
  simp only [Sem.run_bind, partsPE, Result.andThen]
  simp [ReflectliteValue.isNil, loadVar, isAgg, underlying, Tryz.underlying91, ha, Result.andThen]
theorem methodElem (h : Value) (w : World) : (Go.method 380 148 (.agg #[h]) "Elem").run Tryz.prog w = .ok (205, .agg #[h]) w := by kernel_rfl
theorem methodImplements (h : Value) (w : World) : (Go.method 380 148 (.agg #[h]) "Implements").run Tryz.prog w = .ok (206, .agg #[h]) w := by kernel_rfl
theorem methodAssignableTo (h : Value) (w : World) : (Go.method 380 148 (.agg #[h]) "AssignableTo").run Tryz.prog w = .ok (203, .agg #[h]) w := by kernel_rfl
theorem elemPE (w : World) : (ReflectliteType.method ReflectliteType.elem #[.agg #[.pointer (some ⟨13, 91, none⟩)]]).run Tryz.prog w = .ok (.iface 148 (.agg #[.pointer (some ⟨13, 89, none⟩)])) w := by kernel_rfl
theorem implementsE (w : World) : (ReflectliteType.relation "Implements" ReflectliteType.implements_ #[.agg #[.pointer (some ⟨13, 89, none⟩)], (.iface 148 (.agg #[.pointer (some ⟨13, 66, none⟩)]))]).run Tryz.prog w = .ok (.bool true) w := by kernel_rfl
theorem typeOfE (v : Value) (w : World) : (ReflectliteType.typeOf #[.iface 89 v]).run Tryz.prog w = .ok (.iface 148 (.agg #[.pointer (some ⟨13, 89, none⟩)])) w := by kernel_rfl
theorem assignableE (w : World) : (ReflectliteType.relation "AssignableTo" ReflectliteType.assignableTo #[.agg #[.pointer (some ⟨13, 89, none⟩)], (.iface 148 (.agg #[.pointer (some ⟨13, 89, none⟩)]))]).run Tryz.prog w = .ok (.bool true) w := by kernel_rfl
theorem valueOfE (e : Option Addr) (w : World) : (ReflectliteValue.unpack (.iface 89 (.pointer e))).run Tryz.prog w
    = .ok (.agg #[.pointer (some ⟨13, 89, none⟩), .pointer (some ⟨w.heap.size, 0, none⟩), .int .u64 150]) (w.alloc (.cells #[.pointer e] 89)) := by kernel_rfl
theorem elemOfPE (w : World) : (Rtype.elem? 91).run Tryz.prog w = .ok (some 89) w := by kernel_rfl
theorem mkE (p : Addr) (w : World) : (ReflectliteValue.mk 89 p ReflectliteValue.flagAddr).run Tryz.prog w = .ok (.agg #[.pointer (some ⟨13, 89, none⟩), .pointer (some p), .int .u64 406]) w := by kernel_rfl
theorem elemVPE (a p : Addr) (W : World) (ha : W.cell? a = some (.pointer (some p))) :
    (ReflectliteValue.method (ReflectliteValue.valueError "reflectlite.Value.Elem" 0) ReflectliteValue.elem #[(.agg #[.pointer (some ⟨13, 91, none⟩), .pointer (some a), .int .u64 150])]).run Tryz.prog W
      = .ok (.agg #[.pointer (some ⟨13, 89, none⟩), .pointer (some p), .int .u64 406]) W := by
  rw [rlm]
  simp only [Sem.run_bind, partsPE, Result.andThen]
  simp [ReflectliteValue.elem, loadVar, isAgg, underlying, Tryz.underlying91, ha, Result.andThen, elemOfPE, mkE]
theorem rls (v x : Value) : ReflectliteValue.set #[v, x] = (do
    let (some (dst, a, fl), some (src, b, _)) := (← ReflectliteValue.parts v, ← ReflectliteValue.parts x)
      | unsupported (.noEntry "extern/(internal/reflectlite.Value).Set.zeroValue")
    if fl / ReflectliteValue.flagAddr % 2 == 0 then unsupported (.noEntry "extern/(internal/reflectlite.Value).Set.unaddressable")
    let val ← loadVar src b
    if ← Rtype.directlyAssignable dst src then storeVar dst a val
    else if ← Rtype.implements dst src then
      if (← Rtype.kind src) == 20 then
        match val with
        | .nilIface => unsupported (.noEntry "extern/reflectlite: a nil value of one interface type handed on as a value of another")
        | _ => storeVar dst a val
      else storeVar dst a (.iface src val)
    else panicString ("reflectlite.Set: value of type " ++ (← Rtype.spelt src) ++ " is not assignable to type " ++ (← Rtype.spelt dst))
    pure (.tuple #[])) := rfl
theorem partsDst (a : Addr) (w : World) : (ReflectliteValue.parts (.agg #[.pointer (some ⟨13, 89, none⟩), .pointer (some a), .int .u64 406])).run Tryz.prog w = .ok (some (89, a, 406)) w := by kernel_rfl
theorem partsSrc (b : Addr) (w : World) : (ReflectliteValue.parts (.agg #[.pointer (some ⟨13, 89, none⟩), .pointer (some b), .int .u64 150])).run Tryz.prog w = .ok (some (89, b, 150)) w := by kernel_rfl
theorem directE (w : World) : (Rtype.directlyAssignable 89 89).run Tryz.prog w = .ok true w := by kernel_rfl
theorem setE (a b : Addr) (val : Value) (W W' : World) (hl : (loadVar 89 b).run Tryz.prog W = .ok val W) (hs : (storeVar 89 a val).run Tryz.prog W = .ok () W') :
    (ReflectliteValue.set #[(.agg #[.pointer (some ⟨13, 89, none⟩), .pointer (some a), .int .u64 406]), (.agg #[.pointer (some ⟨13, 89, none⟩), .pointer (some b), .int .u64 150])]).run Tryz.prog W = .ok (.tuple #[]) W' := by
  rw [rls]
  simp only [Sem.run_bind, partsDst, partsSrc, Result.andThen]
  simp [ReflectliteValue.flagAddr, hl, Result.andThen, directE, hs]
theorem as_nil (t : Value) (w : World) :
    Calls Tryz.prog 33 #[.nilIface, t] w fun e w' => e = .returned (.bool false) ∧ w' = w := by
  go_enter Tryz.func33, Tryz.ntmps33
  go_wp2
  go_ret
  exact ⟨rfl, rfl⟩
set_option maxHeartbeats 4000000 in
theorem as_hit (e : Option Addr) (t : Addr) (old val : Value) (w W' : World) (hg : w.cell? ⟨1, 0, none⟩ = some (.iface 148 (.agg #[.pointer (some ⟨13, 66, none⟩)]))) (ht0 : w.cell? t = some old)
    (hl : (loadVar 89 ⟨w.heap.size + 1 + 1 + 1, 0, none⟩).run Tryz.prog ((((w.alloc (.cells #[.pointer (some t)] 91)).alloc (.cells #[.pointer (some ⟨13, 91, none⟩), .pointer (some ⟨w.heap.size, 0, none⟩), .int .u64 150] 115)).alloc (.cells #[.pointer (some ⟨13, 91, none⟩), .pointer (some ⟨w.heap.size, 0, none⟩), .int .u64 150] 115)).alloc (.cells #[.pointer e] 89)) = .ok val ((((w.alloc (.cells #[.pointer (some t)] 91)).alloc (.cells #[.pointer (some ⟨13, 91, none⟩), .pointer (some ⟨w.heap.size, 0, none⟩), .int .u64 150] 115)).alloc (.cells #[.pointer (some ⟨13, 91, none⟩), .pointer (some ⟨w.heap.size, 0, none⟩), .int .u64 150] 115)).alloc (.cells #[.pointer e] 89))) (hs : (storeVar 89 t val).run Tryz.prog ((((w.alloc (.cells #[.pointer (some t)] 91)).alloc (.cells #[.pointer (some ⟨13, 91, none⟩), .pointer (some ⟨w.heap.size, 0, none⟩), .int .u64 150] 115)).alloc (.cells #[.pointer (some ⟨13, 91, none⟩), .pointer (some ⟨w.heap.size, 0, none⟩), .int .u64 150] 115)).alloc (.cells #[.pointer e] 89)) = .ok () W') :
    Calls Tryz.prog 33 #[.iface 89 (.pointer e), .iface 91 (.pointer (some t))] w fun ev w' => ev = .returned (.bool true) ∧ w' = W' := by
  have h6 := @run_callFunc_extern Tryz.prog 47 _ (fun args => ReflectliteValue.unpack (args.getD 0 (.tuple #[]))) Tryz.func47 (by kernel_rfl) (by kernel_rfl) (by kernel_rfl) (by kernel_rfl)
  have h7 := @run_callFunc_extern Tryz.prog 48 _ (ReflectliteValue.methodAny (ReflectliteValue.valueError "reflectlite.Value.Type" 0) (fun t _ _ _ => ReflectliteType.toType t)) Tryz.func48 (by kernel_rfl) (by kernel_rfl) (by kernel_rfl) (by kernel_rfl)
  have h8 := @run_callFunc_extern Tryz.prog 49 _ (ReflectliteValue.method (ReflectliteValue.valueError "reflectlite.Value.IsNil" 0) ReflectliteValue.isNil) Tryz.func49 (by kernel_rfl) (by kernel_rfl) (by kernel_rfl) (by kernel_rfl)
  have h27 := @run_callFunc_extern Tryz.prog 191 _ (ReflectliteType.abiMethod fun t => do pure (.int .u8 (← Rtype.kind t))) Tryz.func191 (by kernel_rfl) (by kernel_rfl) (by kernel_rfl) (by kernel_rfl)
  have h37 := @run_callFunc_extern Tryz.prog 205 _ (ReflectliteType.method ReflectliteType.elem) Tryz.func205 (by kernel_rfl) (by kernel_rfl) (by kernel_rfl) (by kernel_rfl)
  have h38 := @run_callFunc_extern Tryz.prog 206 _ (ReflectliteType.relation "Implements" ReflectliteType.implements_) Tryz.func206 (by kernel_rfl) (by kernel_rfl) (by kernel_rfl) (by kernel_rfl)
  have h10 := @run_callFunc_extern Tryz.prog 74 _ ReflectliteType.typeOf Tryz.func74 (by kernel_rfl) (by kernel_rfl) (by kernel_rfl) (by kernel_rfl)
  have h35 := @run_callFunc_extern Tryz.prog 203 _ (ReflectliteType.relation "AssignableTo" ReflectliteType.assignableTo) Tryz.func203 (by kernel_rfl) (by kernel_rfl) (by kernel_rfl) (by kernel_rfl)
  have h11 := @run_callFunc_extern Tryz.prog 75 _ (ReflectliteValue.method (ReflectliteValue.valueError "reflectlite.Value.Elem" 0) ReflectliteValue.elem) Tryz.func75 (by kernel_rfl) (by kernel_rfl) (by kernel_rfl) (by kernel_rfl)
  have h12 := @run_callFunc_extern Tryz.prog 76 _ ReflectliteValue.set Tryz.func76 (by kernel_rfl) (by kernel_rfl) (by kernel_rfl) (by kernel_rfl)
  have tO := typeOfE
  have mA := methodAssignableTo
  have aE := assignableE
  have vE := valueOfE
  have f6 := valueOfPE
  have f7 := typePE
  have mK := methodKind
  have mE := methodElem
  have mI := methodImplements
  have kP := kindPE
  have kE := kindE
  have eP := elemPE
  have iE := implementsE
  have n8 := isNilPE ⟨w.heap.size, 0, none⟩ t ((w.alloc (.cells #[.pointer (some t)] 91)).alloc (.cells #[.pointer (some ⟨13, 91, none⟩), .pointer (some ⟨w.heap.size, 0, none⟩), .int .u64 150] 115)) (by simp)
  have hlt : 1 < w.heap.size := by
    rcases Nat.lt_or_ge 1 w.heap.size with h | h
    · exact h
    · simp [World.cell?, Array.getElem?_eq_none h] at hg
  have hg2 : ((w.alloc (.cells #[.pointer (some t)] 91)).alloc (.cells #[.pointer (some ⟨13, 91, none⟩), .pointer (some ⟨w.heap.size, 0, none⟩), .int .u64 150] 115)).cell? ⟨1, 0, none⟩ = some (.iface 148 (.agg #[.pointer (some ⟨13, 66, none⟩)])) := by
    rw [World.cell?_alloc_lt _ _ ⟨1, 0, none⟩ (by first | (simp; done) | (simp; omega)), World.cell?_alloc_lt _ _ ⟨1, 0, none⟩ hlt]; exact hg
  have el := elemVPE ⟨w.heap.size, 0, none⟩ t (((w.alloc (.cells #[.pointer (some t)] 91)).alloc (.cells #[.pointer (some ⟨13, 91, none⟩), .pointer (some ⟨w.heap.size, 0, none⟩), .int .u64 150] 115)).alloc (.cells #[.pointer (some ⟨13, 91, none⟩), .pointer (some ⟨w.heap.size, 0, none⟩), .int .u64 150] 115)) (by rw [World.cell?_alloc_lt _ _ ⟨w.heap.size, 0, none⟩ (by simp; omega)]; simp)
  have st := setE t ⟨w.heap.size + 1 + 1 + 1, 0, none⟩ val ((((w.alloc (.cells #[.pointer (some t)] 91)).alloc (.cells #[.pointer (some ⟨13, 91, none⟩), .pointer (some ⟨w.heap.size, 0, none⟩), .int .u64 150] 115)).alloc (.cells #[.pointer (some ⟨13, 91, none⟩), .pointer (some ⟨w.heap.size, 0, none⟩), .int .u64 150] 115)).alloc (.cells #[.pointer e] 89)) W' hl hs
  clear hl hs
  go_enter Tryz.func33, Tryz.ntmps33
  go_wp2
  refine wp_loop_rounds 1 ?_
  rw [rounds_succ]
  go_wp2
  go_ret
  exact ⟨rfl, rfl⟩
open Go.Ab
variable {Γ : Nat → AV}
def ErrT (Γ : Nat → AV) : Prop := Γ 1 = .cptr [.iface 148 (.agg [.ptr (some ⟨13, 66, none⟩)])]
theorem errT_cell {G : Gh} {s : Sto} {w : World} (hE : ErrT Γ) (hm : Mod Γ G s w) : w.cell? ⟨1, 0, none⟩ = some (.iface 148 (.agg #[.pointer (some ⟨13, 66, none⟩)])) := by
  have h := (hm.glob 1).r
  rw [hE] at h
  obtain ⟨b, o, hp, hc⟩ := R_cptr.1 h
  simp only [Value.pointer.injEq, Option.some.injEq, Addr.mk.injEq] at hp
  obtain ⟨rfl, rfl, _⟩ := hp
  unfold RCells at hc
  obtain ⟨_, ⟨u, hu, hr⟩, _⟩ := hc
  obtain ⟨v, rfl, hv⟩ := R_iface.1 hr
  obtain ⟨us, rfl, hus⟩ := R_agg.1 hv
  obtain ⟨u1, us1, h1, h2, h3⟩ := RList_cons.1 hus
  rw [R_ptr] at h2
  rw [RList_nil] at h3
  subst h2 h3
  obtain rfl : us = #[.pointer (some ⟨13, 66, none⟩)] := by cases us; simp_all
  exact hu
theorem asNil_ok (x : AV) : APure Tryz.prog Γ 33 [.nilIface, x] fun v => v = .bool false := by
  refine fun s => ⟨fun G w vs hm hr => ?_⟩
  obtain ⟨u, us, rfl, hu, hus⟩ := RList_cons.1 hr
  obtain ⟨u1, us1, rfl, hu1, hus1⟩ := RList_cons.1 hus
  rw [RList_nil] at hus1; subst hus1
  rw [R_nilIface] at hu; subst hu
  refine (as_nil u1 w).mono ?_
  rintro e w' ⟨rfl, rfl⟩
  exact ⟨_, _, s, G, rfl, ⟨rfl, rfl⟩, R_bool.2 rfl, hm, Ext.refl _ _⟩
theorem asHit_ok (hE : ErrT Γ) (cs : List AV) {s : Sto} {b : Nat} {T0 : TypeId} {old : AV} (hb : s.bx b = some (T0, [old])) :
    ACalls Tryz.prog Γ 33 [.iface 89 (.cptr cs), .iface 91 (.ptr (some ⟨b, 0, none⟩))] s fun v s' => v = .bool true ∧ s' = s.set b T0 [.cptr cs] := by
  refine ⟨fun G w vs hm hr => ?_⟩
  obtain ⟨u, us, rfl, hu, hus⟩ := RList_cons.1 hr
  obtain ⟨u1, us1, rfl, hu1, hus1⟩ := RList_cons.1 hus
  rw [RList_nil] at hus1; subst hus1
  obtain ⟨e, rfl, he⟩ := R_iface.1 hu
  obtain ⟨p, rfl, hp⟩ := R_iface.1 hu1
  rw [R_ptr] at hp; subst hp
  obtain ⟨pb, po, rfl, hpc⟩ := R_cptr.1 he
  have hg := errT_cell hE hm
  obtain ⟨ws, hws, hcell⟩ := box_cells hm hb
  obtain ⟨w0, ws', rfl, _, _⟩ := RList_cons.1 hws
  have ht0 : w.cell? ⟨b, 0, none⟩ = some w0 := by rw [hcell]; rfl
  obtain ⟨m1, e1⟩ := hm.row_new (.cells #[.pointer (some ⟨b, 0, none⟩)] 91)
  obtain ⟨m2, e2⟩ := m1.row_new (.cells #[.pointer (some ⟨13, 91, none⟩), .pointer (some ⟨w.heap.size, 0, none⟩), .int .u64 150] 115)
  obtain ⟨m3, e3⟩ := m2.row_new (.cells #[.pointer (some ⟨13, 91, none⟩), .pointer (some ⟨w.heap.size, 0, none⟩), .int .u64 150] 115)
  obtain ⟨m4, e4⟩ := m3.row_new (.cells #[.pointer (some ⟨pb, po, none⟩)] 89)
  have X := ((e1.trans e2).trans e3).trans e4
  have hl : (loadVar 89 ⟨w.heap.size + 1 + 1 + 1, 0, none⟩).run Tryz.prog (((( w.alloc (.cells #[.pointer (some ⟨b, 0, none⟩)] 91)).alloc (.cells #[.pointer (some ⟨13, 91, none⟩), .pointer (some ⟨w.heap.size, 0, none⟩), .int .u64 150] 115)).alloc (.cells #[.pointer (some ⟨13, 91, none⟩), .pointer (some ⟨w.heap.size, 0, none⟩), .int .u64 150] 115)).alloc (.cells #[.pointer (some ⟨pb, po, none⟩)] 89)) = .ok (.pointer (some ⟨pb, po, none⟩)) (((( w.alloc (.cells #[.pointer (some ⟨b, 0, none⟩)] 91)).alloc (.cells #[.pointer (some ⟨13, 91, none⟩), .pointer (some ⟨w.heap.size, 0, none⟩), .int .u64 150] 115)).alloc (.cells #[.pointer (some ⟨13, 91, none⟩), .pointer (some ⟨w.heap.size, 0, none⟩), .int .u64 150] 115)).alloc (.cells #[.pointer (some ⟨pb, po, none⟩)] 89)) := by
    have hc : (((( w.alloc (.cells #[.pointer (some ⟨b, 0, none⟩)] 91)).alloc (.cells #[.pointer (some ⟨13, 91, none⟩), .pointer (some ⟨w.heap.size, 0, none⟩), .int .u64 150] 115)).alloc (.cells #[.pointer (some ⟨13, 91, none⟩), .pointer (some ⟨w.heap.size, 0, none⟩), .int .u64 150] 115)).alloc (.cells #[.pointer (some ⟨pb, po, none⟩)] 89)).cell? ⟨w.heap.size + 1 + 1 + 1, 0, none⟩ = some (.pointer (some ⟨pb, po, none⟩)) := by
      rw [World.cell?_alloc_at _ _ _ _ (by simp)]; rfl
    simp [loadVar, isAgg, underlying, Tryz.underlying89, hc, Result.andThen]
  obtain ⟨W', hs, hM', X'⟩ := store_ok (P := Tryz.prog) (T := 89) m4 hb (o := 0) (n := 1) (us := [.cptr cs]) (v := (.pointer (some ⟨pb, po, none⟩))) (by kernel_rfl) (RList_cons.2 ⟨_, _, rfl, R.mono X _ _ he, RList_nil.2 rfl⟩) rfl rfl (by simp)
  refine (as_hit (some ⟨pb, po, none⟩) ⟨b, 0, none⟩ w0 (.pointer (some ⟨pb, po, none⟩)) w W' hg ht0 hl hs).mono ?_
  rintro ev w' ⟨rfl, rfl⟩
  exact ⟨_, _, _, _, rfl, ⟨rfl, rfl⟩, R_bool.2 rfl, hM', X.trans X'⟩
end Go.Proofs.YtdhgappjicpglaaGreatDoor.AsP
namespace Go.Proofs.YtdhgappjicpglaaGreatDoor.IsP
open Go Go.RowKit Go.Extern.Stop Go.Stop Go.Extern
set_option maxRecDepth 10000
section
variable {P : Program} (w : World)
theorem run_equalIn_iface_int (d : Nat) {ti tn : TypeId} {ms : Array (String × TypeId)} {i : TypeInfo} {k : IntKind} (a b : Int)
    (hi : P.underlying ti = some (.interface ms)) (hn : P.underlying tn = some (.int k)) (hinfo : P.info? tn = some i) (hcomp : i.comparable = true) :
    (Op.equalIn (d + 2) ti (.iface tn (.int k a)) (.iface tn (.int k b))).run P w = .ok (a == b) w := by
  simp [Op.equalIn, run_underlying hi, run_underlying hn, typeInfo, hinfo, hcomp]
theorem run_eql_iface_int {ti tn : TypeId} {ms : Array (String × TypeId)} {i : TypeInfo} {k : IntKind} (a b : Int)
    (hi : P.underlying ti = some (.interface ms)) (hn : P.underlying tn = some (.int k)) (hinfo : P.info? tn = some i) (hcomp : i.comparable = true) :
    (binOp .eql ti (.iface tn (.int k a)) (.iface tn (.int k b))).run P w = .ok (.bool (a == b)) w := by
  simp only [binOp]
  simp [Op.equal, Op.maxDepth, run_equalIn_iface_int w 9998 a b hi hn hinfo hcomp]
end
theorem isTypeOf (v : Value) (w : World) : (Extern.ReflectliteType.typeOf #[.iface 43 v]).run Tryz.prog w = .ok (.iface 148 (.agg #[.pointer (some ⟨13, 43, none⟩)])) w := by kernel_rfl
theorem isComparable (w : World) : ((Extern.ReflectliteType.method fun t => do Extern.Rtype.noPackHeld "Comparable" t; (fun a => Value.bool a.comparable) <$> typeInfo t) #[.agg #[.pointer (some ⟨13, 43, none⟩)]]).run Tryz.prog w = .ok (.bool true) w := by kernel_rfl
theorem isMethodComparable (v : Value) (w : World) : (Go.method 380 148 v "Comparable").run Tryz.prog w = .ok (204, v) w := by kernel_rfl
theorem isComp : (Tryz.prog.info? 43).map (·.comparable) = some true := by kernel_rfl
theorem noIsW (v : Value) (xT : TypeId) (w : World) : (Instr.typeAssert (.iface 89 v) xT 171 true).run Tryz.prog w = .ok (.tuple #[.nilIface, .bool false]) w := run_typeAssert_lacksB Tryz.underlying171 (by kernel_rfl) (by kernel_rfl) v xT w
theorem noIsN (v : Value) (xT : TypeId) (w : World) : (Instr.typeAssert (.iface 43 v) xT 171 true).run Tryz.prog w = .ok (.tuple #[.nilIface, .bool false]) w := run_typeAssert_lacksB Tryz.underlying171 (by kernel_rfl) (by kernel_rfl) v xT w
theorem noUnN (v : Value) (xT : TypeId) (w : World) : (Instr.typeAssert (.iface 43 v) xT 156 true).run Tryz.prog w = .ok (.tuple #[.nilIface, .bool false]) w := run_typeAssert_lacksB Tryz.underlying156 (by kernel_rfl) (by kernel_rfl) v xT w
theorem noUlN (v : Value) (xT : TypeId) (w : World) : (Instr.typeAssert (.iface 43 v) xT 157 true).run Tryz.prog w = .ok (.tuple #[.nilIface, .bool false]) w := run_typeAssert_lacksB Tryz.underlying157 (by kernel_rfl) (by kernel_rfl) v xT w
theorem hasUnwrapW (v : Value) (xT : TypeId) (w : World) : (Instr.typeAssert (.iface 89 v) xT 156 true).run Tryz.prog w = .ok (.tuple #[.iface 89 v, .bool true]) w := run_typeAssert_hasB Tryz.underlying156 (by kernel_rfl) v xT w
theorem methodUnwrap (v : Value) (w : World) : (Go.method 380 89 v "Unwrap").run Tryz.prog w = .ok (196, v) w := by kernel_rfl
theorem is_run (pb po : Nat) (e k : Int) (w : World) (h1 : w.cell? ⟨pb, po + 4, none⟩ = some (.iface 43 (.int .i64 e))) :
    Calls Tryz.prog 51 #[.iface 89 (.pointer (some ⟨pb, po, none⟩)), .iface 43 (.int .i64 k)] w fun r w' => r = .returned (.bool (e == k)) ∧ w' = w := by
  obtain ⟨i, hi, hcmp⟩ := Option.map_eq_some_iff.1 isComp
  have h8 := @run_callFunc_extern Tryz.prog 74 _ Extern.ReflectliteType.typeOf Tryz.func74 (by kernel_rfl) (by kernel_rfl) (by kernel_rfl) (by kernel_rfl)
  have h32 := @run_callFunc_extern Tryz.prog 204 _ (Extern.ReflectliteType.method fun t => do Extern.Rtype.noPackHeld "Comparable" t; pure (.bool (← typeInfo t).comparable)) Tryz.func204 (by kernel_rfl) (by kernel_rfl) (by kernel_rfl) (by kernel_rfl)
  have tT := isTypeOf
  have cT := isComparable
  have mR := isMethodComparable
  have nW := noIsW
  have nN := noIsN
  have uN := noUnN
  have lN := noUlN
  have uW := hasUnwrapW
  have mU := methodUnwrap
  have heq := run_eql_iface_int (P := Tryz.prog) w e k Tryz.underlying66 Tryz.underlying43 hi hcmp
  have hty := run_eql_iface_types (P := Tryz.prog) 89 43 (.pointer (some ⟨pb, po, none⟩)) (.int .i64 k) Tryz.underlying66 (by decide) w
  cases hk : (e == k) <;> rw [hk] at heq <;> clear hk
  · go_enter Tryz.func51, Tryz.ntmps51
    go_wp2
    refine wp_loop_rounds 2 ?_
    rw [rounds_succ]
    go_wp2
    rw [rounds_succ]
    go_wp2
    go_ret
    exact ⟨rfl, rfl⟩
  · go_enter Tryz.func51, Tryz.ntmps51
    go_wp2
    refine wp_loop_rounds 2 ?_
    rw [rounds_succ]
    go_wp2
    rw [rounds_succ]
    go_wp2
    go_ret
    exact ⟨rfl, rfl⟩
open Go.Ab
variable {Γ : Nat → AV}
theorem is_ok (c0 c1 c2 c3 : AV) (e k : Int) : APure Tryz.prog Γ 51 [.iface 89 (.cptr [c0, c1, c2, c3, .iface 43 (.int .i64 e)]), .iface 43 (.int .i64 k)] fun v => v = .bool (e == k) := by
  refine fun s => ⟨fun G w vs hm hr => ?_⟩
  obtain ⟨u, us, rfl, hu, hus⟩ := RList_cons.1 hr
  obtain ⟨u1, us1, rfl, hu1, hus1⟩ := RList_cons.1 hus
  rw [RList_nil] at hus1; subst hus1
  obtain ⟨x, rfl, hx⟩ := R_iface.1 hu
  obtain ⟨p, rfl, hp⟩ := R_iface.1 hu1
  rw [R_int] at hp; subst hp
  obtain ⟨pb, po, rfl, hc⟩ := R_cptr.1 hx
  unfold RCells at hc
  obtain ⟨_, _, hc⟩ := hc
  unfold RCells at hc
  obtain ⟨_, _, hc⟩ := hc
  unfold RCells at hc
  obtain ⟨_, _, hc⟩ := hc
  unfold RCells at hc
  obtain ⟨_, _, hc⟩ := hc
  unfold RCells at hc
  obtain ⟨_, ⟨y, hy, hr1⟩, _⟩ := hc
  obtain ⟨z, rfl, hz⟩ := R_iface.1 hr1
  rw [R_int] at hz; subst hz
  refine (is_run pb po e k w hy).mono ?_
  rintro r w' ⟨rfl, rfl⟩
  exact ⟨_, _, s, G, rfl, ⟨rfl, rfl⟩, R_bool.2 rfl, hm, Ext.refl _ _⟩
end Go.Proofs.YtdhgappjicpglaaGreatDoor.IsP
namespace Go.Proofs.YtdhgappjicpglaaGreatDoor.Pa
open Go Go.Ab Go.RowKit Go.Proofs.YtdhgappjicpglaaGreatDoor.Lx
variable {Γ : Nat → AV}
theorem _root_.Go.Ab.Stays.of_sub {B : Nat → Prop} {s s' : Sto} (h : Sub s s') : Stays B s s' := ⟨fun c z _ hz => h.bx c z hz, h.lv, fun _ hs _ => hs.trans h⟩
/-- Where a box of the caller's is written. -/
theorem Pst.reset {s0 s : Sto} {bp bl : Nat} {L : List Tok} {a : Nat} {o : List Ex} {d : List Int} {k : Int} (hP : Pst s0 s bp bl L a o d k) {b : Nat} (h1 : b ≠ bp) (h2 : b ≠ bl) (T : TypeId) (cs : List AV) : Pst (s0.set b T cs) (s.set b T cs) bp bl L a o d k := by
  obtain ⟨np, nl, ne, ⟨t1, t2, e1, e2, e3, e4⟩, pl⟩ := hP
  have hs : Sub (s0.set b T cs) (s.set b T cs) := ⟨fun c x hc => (by
    by_cases hcb : c = b
    · subst hcb; rw [set_bx_same] at hc ⊢; exact hc
    · rw [set_bx_other hcb] at hc ⊢; exact e2.sub.bx c x hc), fun t e m hx => e2.sub.lv t e m (by simpa [Sto.set] using hx)⟩
  exact ⟨(set_bx_other h1.symm).trans np, (set_bx_other h2.symm).trans nl, ne, ⟨t1, t2, (set_bx_other h1.symm).trans e1, ⟨hs, e2.own.imp id fun h => ⟨h.1, h.2.1, fun e m hx => h.2.2 e m (by simpa [Sto.set] using hx)⟩⟩, ⟨hs, e3.own.imp id fun h => ⟨h.1, h.2.1, fun e m hx => h.2.2 e m (by simpa [Sto.set] using hx)⟩⟩, e4⟩, (set_bx_other h2.symm).trans pl⟩
attribute [local irreducible] APure Sto.set Sto.grow
set_option maxRecDepth 10000
set_option maxHeartbeats 1000000
theorem _root_.Go.Ab.Stays.none1 {s s' : Sto} {bc b : Nat} {z : TypeId × List AV} (h : Stays (B1 bc) s s') (hc : s'.bx bc = some z) (hb : s'.bx b = none) : s.bx b = none := by
  cases hz : s.bx b with
  | none => rfl
  | some z =>
    have hne : b ≠ bc := by rintro rfl; rw [hc] at hb; cases hb
    rw [h.bx b z (fun h => hne h) hz] at hb; cases hb
/-- The number that is told of what is wrong. -/
def errF (e : Int) : Int := if e = 13 then 13 else if e = 5 then 5 else 16
theorem errno_ok (t : Tok) (e : Int) : APure Tryz.prog Γ 34 [errA t e] fun v => v = .int .i64 (errF e) := by
  obtain ⟨t1, t2, t3, t4⟩ := t
  simp only [errA, tokA, List.cons_append, List.nil_append]
  have h13 : e ≠ 13 → (e == 13) = false := fun h => by simp [h]
  have h5 : e ≠ 5 → (e == 5) = false := fun h => by simp [h]
  refine APure.of_awp Tryz.func34 rfl (Nat.le_of_ble_eq_true (by kernel_rfl)) (by kernel_rfl) ?_
  intro s
  conv => whnf
  repeat' ((first | (exfalso; first | omega | exact (by assumption : ¬ True) trivial | fail) | refine ⟨Sub.refl _, ?_⟩ | (refine brA_split (fun h => ?_) (fun h => ?_) <;> (try rw [h]) <;> (try simp only [bS, ↓reduceIte] at h)) | refine getB_same ?_ | refine AWp.anyA ?_ | refine and_a ?_ | fail) <;> (conv => whnf))
  refine AWp.loopA [7] [8, 9, 10, 4, 11, 12, 13, 14, 15, 2, 16] (fun i : Nat => [.int .i64 (i : Int)]) (fun i s' => s' = s ∧ (i = 0 ∨ (i = 1 ∧ e ≠ 13) ∨ (i = 2 ∧ e ≠ 13 ∧ e ≠ 5))) (fun i => 2 - i) (0) (by kernel_rfl) (eqa) ?_ ?_
  · exact ⟨rfl, .inl rfl⟩
  · rintro x i s' ⟨hs', hi⟩
    subst s'
    rcases hi with rfl | ⟨rfl, h1⟩ | ⟨rfl, h1, h2⟩
    · show awp _ _ _ _ _ (updL _ _ [.int .i64 ((0 : Nat) : Int)]) _
      conv => whnf
      by_cases h0 : e = 13
      · subst h0
        repeat' ((first | (exfalso; first | omega | exact (by assumption : ¬ True) trivial | fail) | refine ⟨Sub.refl _, ?_⟩ | (refine brA_split (fun h => ?_) (fun h => ?_) <;> (try rw [h]) <;> (try simp only [bS, ↓reduceIte] at h)) | (refine ACalls.pure' ?_ (IsP.is_ok _ _ _ _ 13 13); rintro _ rfl) | refine DCall.pure ?_ (IsP.is_ok _ _ _ _ 13 13) | refine getB_same ?_ | refine AWp.anyA ?_ | refine and_a ?_ | fail) <;> (conv => whnf))
        rfl
      · have hi := IsP.is_ok (Γ := Γ) (.int .i64 t1) (.str t2) (.int .i64 t3) (.int .i64 t4) e 13
        rw [h13 h0] at hi
        repeat' ((first | (exfalso; first | omega | exact (by assumption : ¬ True) trivial | fail) | refine ⟨Sub.refl _, ?_⟩ | (refine brA_split (fun h => ?_) (fun h => ?_) <;> (try rw [h]) <;> (try simp only [bS, ↓reduceIte] at h)) | (refine ACalls.pure' ?_ (hi); rintro _ rfl) | refine DCall.pure ?_ (hi) | refine getB_same ?_ | refine AWp.anyA ?_ | refine and_a ?_ | fail) <;> (conv => whnf))
        exact ⟨1, eqa, samea, ⟨rfl, .inr (.inl ⟨rfl, h0⟩)⟩, by omega⟩
    · show awp _ _ _ _ _ (updL _ _ [.int .i64 ((1 : Nat) : Int)]) _
      conv => whnf
      by_cases h0 : e = 5
      · subst h0
        repeat' ((first | (exfalso; first | omega | exact (by assumption : ¬ True) trivial | fail) | refine ⟨Sub.refl _, ?_⟩ | (refine brA_split (fun h => ?_) (fun h => ?_) <;> (try rw [h]) <;> (try simp only [bS, ↓reduceIte] at h)) | (refine ACalls.pure' ?_ (IsP.is_ok _ _ _ _ 5 5); rintro _ rfl) | refine DCall.pure ?_ (IsP.is_ok _ _ _ _ 5 5) | refine getB_same ?_ | refine AWp.anyA ?_ | refine and_a ?_ | fail) <;> (conv => whnf))
        rfl
      · have hi := IsP.is_ok (Γ := Γ) (.int .i64 t1) (.str t2) (.int .i64 t3) (.int .i64 t4) e 5
        rw [h5 h0] at hi
        repeat' ((first | (exfalso; first | omega | exact (by assumption : ¬ True) trivial | fail) | refine ⟨Sub.refl _, ?_⟩ | (refine brA_split (fun h => ?_) (fun h => ?_) <;> (try rw [h]) <;> (try simp only [bS, ↓reduceIte] at h)) | (refine ACalls.pure' ?_ (hi); rintro _ rfl) | refine DCall.pure ?_ (hi) | refine getB_same ?_ | refine AWp.anyA ?_ | refine and_a ?_ | fail) <;> (conv => whnf))
        exact ⟨2, eqa, samea, ⟨rfl, .inr (.inr ⟨rfl, h1, h0⟩)⟩, by omega⟩
    · show awp _ _ _ _ _ (updL _ _ [.int .i64 ((2 : Nat) : Int)]) _
      conv => whnf
      repeat' ((first | (exfalso; first | omega | exact (by assumption : ¬ True) trivial | fail) | refine ⟨Sub.refl _, ?_⟩ | (refine brA_split (fun h => ?_) (fun h => ?_) <;> (try rw [h]) <;> (try simp only [bS, ↓reduceIte] at h)) | refine getB_same ?_ | refine AWp.anyA ?_ | refine and_a ?_ | fail) <;> (conv => whnf))
      rw [errF, if_neg h1, if_neg h2]
      rfl
/-- What a text is read as, by what is read of its tokens. -/
def runR {α : Type} (S : List UInt8) (body : List Tok → Res α) : Res α :=
  match allT S with
  | .error x => .error x
  | .ok L => match body L with
    | .error x => .error (errF x.1, x.2.1, x.2.2)
    | .ok o => .ok o
/-- The expression of tokens. -/
def exprR (L : List Tok) : Res (List Ex) :=
  match ev L (fuelN L) 0 ⟨0, [], [], 0⟩ with
  | .error x => .error x
  | .ok st => if st.a < L.length then failF L st.a 16 else .ok st.o
/-- What a reader of tokens hands back, and what it leaves in its box. -/
def BodyR {α : Type} (K : α → List AV → Prop) (r : Res α) (v : AV) (cs : List AV) : Prop :=
  match r with
  | .error x => ErrV x v
  | .ok o => v = .nilIface ∧ K o cs
def RunR {α : Type} (K : α → List AV → Prop) (r : Res α) (v : AV) (cs : List AV) : Prop :=
  match r with
  | .error x => v = .agg [.int .i64 x.1, .int .i64 x.2.1, .int .i64 x.2.2]
  | .ok o => v = .agg [.int .i64 0, .int .i64 0, .int .i64 0] ∧ K o cs
def ExprK (o : List Ex) (cs : List AV) : Prop := ∃ t, cs = [.slice t (exsA o)]
theorem exprBody_ok (hR : Nu.ErrR Γ) {L : List Tok} (hL : L.length ≤ 90000) (hT : ∀ i, (peekF L i).2.1.length ≤ 5000) (bc : Nat) : ∀ (s0 s : Sto) (bp bl : Nat) (c : AV), Pst s0 s bp bl L 0 [] [] 0 → s0.bx bc = some (22, [c]) → ACalls Tryz.prog Γ 18 [.ptr (some ⟨bp, 0, none⟩), .ptr (some ⟨bc, 0, none⟩)] s fun v s' => Stays (B1 bc) s0 s' ∧ ∃ cs', s'.bx bc = some (22, cs') ∧ BodyR ExprK (exprR L) v cs' := by
  intro s0 s bp bl c hP hb
  have hok : Okay L ⟨0, [], [], 0⟩ := ⟨Nat.zero_le _, Nat.zero_le _, rfl, by decide⟩
  have he := (levels hR hL hT (fuelN L)).1 _ _ _ _ ⟨0, [], [], 0⟩ hP hok (enough_all L _)
  have hg := ev_good (fuelN L) 0 ⟨0, [], [], 0⟩ (by omega) hok (enough_all L _)
  refine ACalls.of_awp Tryz.func18 rfl (Nat.le_of_ble_eq_true (by kernel_rfl)) (awp_ok _ (by kernel_rfl) ?_)
  conv => whnf
  repeat' ((first | (exfalso; first | omega | exact (by assumption : ¬ True) trivial | fail) | refine ⟨Sub.refl _, ?_⟩ | (refine brA_split (fun h => ?_) (fun h => ?_) <;> (try rw [h]) <;> (try simp only [bS, ↓reduceIte] at h)) | (refine ACalls.by he ?_; intro v s1 hv) | refine getB_same ?_ | refine AWp.anyA ?_ | refine and_a ?_ | fail) <;> (conv => whnf))
  unfold exprR
  rcases hr : ev L (fuelN L) 0 ⟨0, [], [], 0⟩ with x | x
  · rw [hr] at hv
    obtain ⟨⟨kd, tx, rfl⟩, a', o', d', k', hP4⟩ := hv
    conv => whnf
    repeat' ((first | (exfalso; first | omega | exact (by assumption : ¬ True) trivial | fail) | refine ⟨Sub.refl _, ?_⟩ | (refine brA_split (fun h => ?_) (fun h => ?_) <;> (try rw [h]) <;> (try simp only [bS, ↓reduceIte] at h)) | refine getB_same ?_ | refine AWp.anyA ?_ | refine and_a ?_ | fail) <;> (conv => whnf))
    exact ⟨_, Sub.refl _, Stays.of_sub hP4.sub, _, hP4.sub.bx _ _ hb, ⟨kd, tx, rfl⟩⟩
  · rw [hr] at hv
    obtain ⟨rfl, hP4⟩ := hv
    obtain ⟨g1, g2⟩ := hg x hr
    have hxa := g1.ha
    obtain ⟨u1, u2, hb4, _⟩ := hP4.pr
    have hb5 := hP4.sub.bx _ _ hb
    have n1 : bp ≠ bc := by rintro rfl; rw [hP4.np] at hb; cases hb
    have n2 : bl ≠ bc := by rintro rfl; rw [hP4.nl] at hb; cases hb
    have htl := toksA_len L
    have hP6 := hP4.reset n1.symm n2.symm 22 [.slice u1 (exsA x.o)]
    have hst : Stays (B1 bc) s0 (s1.set bc 22 [.slice u1 (exsA x.o)]) := Stays.set (B := B1 bc) (b := bc) (Stays.of_sub hP4.sub) rfl _ _
    have hfl := fail_ok (Γ := Γ) hP6 (by omega) (by omega) 16
    conv => whnf
    repeat' ((first | (exfalso; first | omega | exact (by assumption : ¬ True) trivial | fail) | refine ⟨Sub.refl _, ?_⟩ | (refine brA_split (fun h => ?_) (fun h => ?_) <;> (try rw [h]) <;> (try simp only [bS, ↓reduceIte] at h)) | (refine getB_of hb4 ?_) | (refine getB_of hb5 ?_) | (refine getB_of ((set_bx_other n1).trans hb4) ?_) | (refine getB_of ((set_bx_other n2).trans hP4.pl) ?_) | (refine ACalls.by hfl ?_; rintro _ s5 ⟨rfl, hs5⟩; subst s5) | refine getB_same ?_ | refine AWp.anyA ?_ | refine and_a ?_ | fail) <;> (conv => whnf))
    · refine ⟨_, Sub.refl _, hst, _, set_bx_same, ?_⟩
      dsimp only
      rw [if_pos (by omega)]
      exact errV_fail L x.a 16
    · refine ⟨_, Sub.refl _, hst, _, set_bx_same, ?_⟩
      dsimp only
      rw [if_neg (by omega)]
      exact ⟨rfl, u1, rfl⟩
theorem run_ok {α : Type} (K : α → List AV → Prop) (hQ : Qu.Tabs Γ) (hW : Sc.Wds Γ) (hO : AsO.ErrT Γ) (hE : AsP.ErrT Γ) {n : FuncId} (hn : callT Tryz.prog n = true) {bc : Nat} {Tc : TypeId} (S : List UInt8) (hS : S.length ≤ 1048576) (r : List Tok → Res α) (hB : ∀ L, allT S = .ok L → ∀ (s0 s : Sto) (bp bl : Nat) (c : AV), Pst s0 s bp bl L 0 [] [] 0 → s0.bx bc = some (Tc, [c]) → ACalls Tryz.prog Γ n [.ptr (some ⟨bp, 0, none⟩), .ptr (some ⟨bc, 0, none⟩)] s fun v s' => Stays (B1 bc) s0 s' ∧ ∃ cs', s'.bx bc = some (Tc, cs') ∧ BodyR K (r L) v cs') {s : Sto} {c : AV} (hb : s.bx bc = some (Tc, [c])) :
    ACalls Tryz.prog Γ 17 [.str S, .func (.func n) [] [.ptr (some ⟨bc, 0, none⟩)]] s fun v s' => Stays (B1 bc) s s' ∧ ∃ cs', s'.bx bc = some (Tc, cs') ∧ RunR K (runR S r) v cs' := by
  have hl := progAll_ok hQ hW hO S hS
  rcases hx : allT S with ⟨e, a, b⟩ | L
  · rw [hx] at hl
    have he0 : e ≠ 0 := by
      unfold allT at hx
      split at hx
      · cases hx; decide
      · exact lexF_err _ _ _ _ _ _ hx
    have hrr : runR S r = .error (e, a, b) := by unfold runR; rw [hx]
    rw [hrr]
    simp only [allA] at hl
    refine ACalls.of_awp Tryz.func17 rfl (Nat.le_of_ble_eq_true (by kernel_rfl)) (awp_ok _ (by kernel_rfl) ?_)
    conv => whnf
    intro b4 hb4
    have m4 : bc ≠ b4 := ne_of_none hb hb4
    conv => whnf
    repeat' ((first | (exfalso; first | omega | exact (by assumption : ¬ True) trivial | fail) | refine ⟨Sub.refl _, ?_⟩ | (refine brA_split (fun h => ?_) (fun h => ?_) <;> (try rw [h]) <;> (try simp only [bS, ↓reduceIte] at h)) | (refine ACalls.pure' ?_ (hl); rintro _ rfl) | refine DCall.pure ?_ (hl) | refine getB_same ?_ | refine AWp.anyA ?_ | refine and_a ?_ | fail) <;> (conv => whnf))
    intro b6 hb6
    have n_b4_b6 : b4 ≠ b6 := ne_of_none bxa hb6
    have n_b6_b4 := n_b4_b6.symm
    conv => whnf
    repeat' ((first | (exfalso; first | omega | exact (by assumption : ¬ True) trivial | fail) | refine ⟨Sub.refl _, ?_⟩ | (refine brA_split (fun h => ?_) (fun h => ?_) <;> (try rw [h]) <;> (try simp only [bS, ↓reduceIte] at h)) | refine getB_a ?_ | (refine EqAgg.of grdFail planFail ?_) | refine getB_same ?_ | refine AWp.anyA ?_ | refine and_a ?_ | fail) <;> (conv => whnf))
    · have k6 := ((Sub.refl s).set hb4 _ _).none hb6
      have m6 : bc ≠ b6 := ne_of_none hb k6
      exact ⟨_, Sub.refl _, Stays.of_sub (((((Sub.refl _).set hb4 _ _).set k6 _ _).set k6 _ _).set hb4 _ _), [c], bxa, rfl⟩
    · exfalso; revert h; simp [he0]
  · rw [hx] at hl
    simp only [allA] at hl
    refine ACalls.of_awp Tryz.func17 rfl (Nat.le_of_ble_eq_true (by kernel_rfl)) (awp_ok _ (by kernel_rfl) ?_)
    conv => whnf
    intro b4 hb4
    have m4 : bc ≠ b4 := ne_of_none hb hb4
    conv => whnf
    repeat' ((first | (exfalso; first | omega | exact (by assumption : ¬ True) trivial | fail) | refine ⟨Sub.refl _, ?_⟩ | (refine brA_split (fun h => ?_) (fun h => ?_) <;> (try rw [h]) <;> (try simp only [bS, ↓reduceIte] at h)) | (refine ACalls.pure' ?_ (hl); rintro _ rfl) | refine DCall.pure ?_ (hl) | refine getB_same ?_ | refine AWp.anyA ?_ | refine and_a ?_ | fail) <;> (conv => whnf))
    intro b6 hb6
    have n_b4_b6 : b4 ≠ b6 := ne_of_none bxa hb6
    have n_b6_b4 := n_b4_b6.symm
    conv => whnf
    repeat' ((first | (exfalso; first | omega | exact (by assumption : ¬ True) trivial | fail) | refine ⟨Sub.refl _, ?_⟩ | (refine brA_split (fun h => ?_) (fun h => ?_) <;> (try rw [h]) <;> (try simp only [bS, ↓reduceIte] at h)) | refine getB_a ?_ | (refine EqAgg.of grdFail planFail ?_) | refine getB_same ?_ | refine AWp.anyA ?_ | refine and_a ?_ | fail) <;> (conv => whnf))
    all_goals first | (exfalso; revert h; simp; done) | skip
    have k6 := ((Sub.refl s).set hb4 _ _).none hb6
    have m6 : bc ≠ b6 := ne_of_none hb k6
    intro bl hbl
    have n_b4_bl : b4 ≠ bl := ne_of_none bxa hbl
    have n_bl_b4 := n_b4_bl.symm
    have n_b6_bl : b6 ≠ bl := ne_of_none bxa hbl
    have n_bl_b6 := n_b6_bl.symm
    have n_bc_bl : bc ≠ bl := ne_of_none bxa hbl
    have n_bl_bc := n_bc_bl.symm
    conv => whnf
    repeat' ((first | (exfalso; first | omega | exact (by assumption : ¬ True) trivial | fail) | refine ⟨Sub.refl _, ?_⟩ | (refine brA_split (fun h => ?_) (fun h => ?_) <;> (try rw [h]) <;> (try simp only [bS, ↓reduceIte] at h)) | refine getB_a ?_ | refine getB_same ?_ | refine AWp.anyA ?_ | refine and_a ?_ | fail) <;> (conv => whnf))
    intro bp hbp
    have n_b4_bp : b4 ≠ bp := ne_of_none bxa hbp
    have n_bp_b4 := n_b4_bp.symm
    have n_b6_bp : b6 ≠ bp := ne_of_none bxa hbp
    have n_bp_b6 := n_b6_bp.symm
    have n_bc_bp : bc ≠ bp := ne_of_none bxa hbp
    have n_bp_bc := n_bc_bp.symm
    have n_bl_bp : bl ≠ bp := ne_of_none bxa hbp
    have n_bp_bl := n_bl_bp.symm
    conv => whnf
    repeat' ((first | (exfalso; first | omega | exact (by assumption : ¬ True) trivial | fail) | refine ⟨Sub.refl _, ?_⟩ | (refine brA_split (fun h => ?_) (fun h => ?_) <;> (try rw [h]) <;> (try simp only [bS, ↓reduceIte] at h)) | refine getB_a ?_ | refine getB_same ?_ | refine AWp.anyA ?_ | refine and_a ?_ | fail) <;> (conv => whnf))
    rotate_left
    · rw [hn] at h; cases h
    have hsq : Sub s (((s.set b4 45 [.int .i64 0, .int .i64 0, .int .i64 0]).set b6 45 [.int .i64 0, .int .i64 0, .int .i64 0]).set b6 45 [.int .i64 0, .int .i64 0, .int .i64 0]) := (((Sub.refl _).set hb4 _ _).set k6 _ _).set k6 _ _
    have hq4 : (((s.set b4 45 [.int .i64 0, .int .i64 0, .int .i64 0]).set b6 45 [.int .i64 0, .int .i64 0, .int .i64 0]).set b6 45 [.int .i64 0, .int .i64 0, .int .i64 0]).bx b4 = some (45, [.int .i64 0, .int .i64 0, .int .i64 0]) := bxa
    generalize ((s.set b4 45 [.int .i64 0, .int .i64 0, .int .i64 0]).set b6 45 [.int .i64 0, .int .i64 0, .int .i64 0]).set b6 45 [.int .i64 0, .int .i64 0, .int .i64 0] = sq at *
    have kbp : sq.bx bp = none := ((Sub.refl sq).set hbl _ _).none hbp
    have hP : Pst sq ((sq.set bl 73 [.slice 0 (toksA L), .int .i64 0]).set bp 70 [.ptr (some ⟨bl, 0, none⟩), .slice 1 [], .slice 1 [], .int .i64 0]) bp bl L 0 [] [] 0 :=
      ⟨kbp, hbl, n_bp_bl, ⟨1, 1, set_bx_same, Own.start (((Sub.refl _).set hbl _ _).set kbp _ _) _ _, Own.start (((Sub.refl _).set hbl _ _).set kbp _ _) _ _, fun _ => rfl⟩, (set_bx_other n_bl_bp).trans set_bx_same⟩
    refine ACalls.by (hB L hx _ _ _ _ _ hP (hsq.bx _ _ hb)) ?_
    rintro v s5 ⟨hst, cs', hbc, hv⟩
    have hst2 : Stays (B1 bc) s s5 := (Stays.of_sub hsq).trans hst
    have h54 := hst.bx b4 _ (fun h => m4 (Eq.symm h)) hq4
    rcases hrl : r L with x | c0
    · rw [hrl] at hv
      rw [show runR S r = .error (errF x.1, x.2.1, x.2.2) by unfold runR; rw [hx]; dsimp only; rw [hrl]]
      obtain ⟨kd, tx, rfl⟩ := hv
      conv => whnf
      repeat' ((first | (exfalso; first | omega | exact (by assumption : ¬ True) trivial | fail) | refine ⟨Sub.refl _, ?_⟩ | (refine brA_split (fun h => ?_) (fun h => ?_) <;> (try rw [h]) <;> (try simp only [bS, ↓reduceIte] at h)) | refine getB_same ?_ | refine AWp.anyA ?_ | refine and_a ?_ | fail) <;> (conv => whnf))
      intro b8 hb8
      have k8 := hst2.none1 hbc hb8
      have n_b4_b8 : b4 ≠ b8 := ne_of_none bxa hb8
      have n_b8_b4 := n_b4_b8.symm
      have n_bc_b8 : bc ≠ b8 := ne_of_none bxa hb8
      have n_b8_bc := n_bc_b8.symm
      conv => whnf
      repeat' ((first | (exfalso; first | omega | exact (by assumption : ¬ True) trivial | fail) | refine ⟨Sub.refl _, ?_⟩ | (refine brA_split (fun h => ?_) (fun h => ?_) <;> (try rw [h]) <;> (try simp only [bS, ↓reduceIte] at h)) | refine getB_a ?_ | (refine ACalls.by (AsP.asHit_ok hE _ set_bx_same) ?_; rintro _ _ ⟨rfl, rfl⟩) | (refine ACalls.pure' ?_ (errno_ok (kd, tx, x.2.1, x.2.2) x.1); rintro _ rfl) | refine DCall.pure ?_ (errno_ok (kd, tx, x.2.1, x.2.2) x.1) | refine getB_same ?_ | refine AWp.anyA ?_ | refine and_a ?_ | fail) <;> (conv => whnf))
      exact ⟨_, Sub.refl _, ((hst2.fresh k8 _ _).fresh k8 _ _).fresh hb4 _ _, cs', bxa, rfl⟩
    · rw [hrl] at hv
      rw [show runR S r = .ok c0 by unfold runR; rw [hx]; dsimp only; rw [hrl]]
      obtain ⟨rfl, hv⟩ := hv
      conv => whnf
      repeat' ((first | (exfalso; first | omega | exact (by assumption : ¬ True) trivial | fail) | refine ⟨Sub.refl _, ?_⟩ | (refine brA_split (fun h => ?_) (fun h => ?_) <;> (try rw [h]) <;> (try simp only [bS, ↓reduceIte] at h)) | refine getB_same ?_ | refine AWp.anyA ?_ | refine and_a ?_ | fail) <;> (conv => whnf))
      intro b8 hb8
      have k8 := hst2.none1 hbc hb8
      have n_b4_b8 : b4 ≠ b8 := ne_of_none bxa hb8
      have n_b8_b4 := n_b4_b8.symm
      have n_bc_b8 : bc ≠ b8 := ne_of_none bxa hb8
      have n_b8_bc := n_bc_b8.symm
      conv => whnf
      repeat' ((first | (exfalso; first | omega | exact (by assumption : ¬ True) trivial | fail) | refine ⟨Sub.refl _, ?_⟩ | (refine brA_split (fun h => ?_) (fun h => ?_) <;> (try rw [h]) <;> (try simp only [bS, ↓reduceIte] at h)) | refine getB_a ?_ | (refine ACalls.pure' ?_ (AsP.asNil_ok _); rintro _ rfl) | refine DCall.pure ?_ (AsP.asNil_ok _) | refine getB_same ?_ | refine AWp.anyA ?_ | refine and_a ?_ | fail) <;> (conv => whnf))
      exact ⟨_, Sub.refl _, (hst2.fresh k8 _ _).fresh hb4 _ _, cs', bxa, rfl, hv⟩
def exprA : Res (List Ex) → AV
  | .ok o => .tuple [.slice 0 (exsA o), .agg [.int .i64 0, .int .i64 0, .int .i64 0]]
  | .error (e, a, b) => .tuple [.slice 0 [], .agg [.int .i64 e, .int .i64 a, .int .i64 b]]
theorem errF_ne (e : Int) : errF e ≠ 0 := by unfold errF; split; · decide
                                             · split <;> decide
theorem allT_err {S : List UInt8} {e a b : Int} (h : allT S = .error (e, a, b)) : e ≠ 0 := by
  unfold allT at h
  split at h
  · cases h; decide
  · exact lexF_err _ _ _ _ _ _ h
theorem runR_err {α : Type} {S : List UInt8} {r : List Tok → Res α} {e a b : Int} (h : runR S r = .error (e, a, b)) : e ≠ 0 := by
  unfold runR at h
  split at h
  · rename_i x hx
    injection h with h
    subst h
    exact allT_err hx
  · split at h
    · injection h with h
      simp only [Prod.mk.injEq] at h
      rw [← h.1]
      exact errF_ne _
    · cases h
theorem expr_top (hQ : Qu.Tabs Γ) (hW : Sc.Wds Γ) (hO : AsO.ErrT Γ) (hE : AsP.ErrT Γ) (hR : Nu.ErrR Γ) (S : List UInt8) (hS : S.length ≤ 65536) (hT : ∀ L, allT S = .ok L → ∀ i, (peekF L i).2.1.length ≤ 5000) :
    APure Tryz.prog Γ 9 [.str S] fun v => v = exprA (runR S exprR) := by
  have hlen : ∀ L, allT S = .ok L → L.length ≤ 90000 := fun L hL => by
    unfold allT at hL
    split at hL
    · cases hL
    · have := lexF_len _ _ _ _ hL; omega
  have hrun := fun {s : Sto} {bc : Nat} {c : AV} (hb : s.bx bc = some (22, [c])) => run_ok (Γ := Γ) ExprK hQ hW hO hE (n := 18) (by kernel_rfl) S (by omega) exprR (fun L hL => exprBody_ok hR (hlen L hL) (hT L hL) bc) hb
  refine APure.fgt fun s => ?_
  refine ACalls.of_awp Tryz.func9 rfl (Nat.le_of_ble_eq_true (by kernel_rfl)) (awp_ok _ (by kernel_rfl) ?_)
  conv => whnf
  intro b3 hb3
  conv => whnf
  intro b4 hb4
  have n_b3_b4 : b3 ≠ b4 := ne_of_none bxa hb4
  have n_b4_b3 := n_b3_b4.symm
  conv => whnf
  have k4 := ((Sub.refl s).set hb3 45 [.int .i64 0, .int .i64 0, .int .i64 0]).none hb4
  repeat' ((first | (exfalso; first | omega | exact (by assumption : ¬ True) trivial | fail) | refine ⟨Sub.refl _, ?_⟩ | (refine brA_split (fun h => ?_) (fun h => ?_) <;> (try rw [h]) <;> (try simp only [bS, ↓reduceIte] at h)) | (refine ACalls.by (hrun set_bx_same) ?_; rintro v s1 ⟨hst, cs, hbc, hv⟩) | refine getB_same ?_ | refine AWp.anyA ?_ | refine and_a ?_ | fail) <;> (conv => whnf))
  have h13 := hst.bx b3 _ (fun h => n_b3_b4 h) bxa
  have hb41 : ∀ s0, Sub s0 s → s0.bx b4 = none → s0.bx b3 = none → Sub s0 s1 := fun s0 h1 h2 h3 => hst.sub s0 ((h1.set h3 _ _).set h2 _ _) (fun c hc => by rw [show c = b4 from hc]; exact h2)
  rcases hr : runR S exprR with ⟨e, a, b⟩ | o
  · rw [hr] at hv
    have he0 := runR_err hr
    replace hv : v = .agg [.int .i64 e, .int .i64 a, .int .i64 b] := hv
    subst hv
    conv => whnf
    repeat' ((first | (exfalso; first | omega | exact (by assumption : ¬ True) trivial | fail) | refine ⟨Sub.refl _, ?_⟩ | (refine brA_split (fun h => ?_) (fun h => ?_) <;> (try rw [h]) <;> (try simp only [bS, ↓reduceIte] at h)) | refine getB_same ?_ | refine AWp.anyA ?_ | refine and_a ?_ | fail) <;> (conv => whnf))
    intro b5 hb5
    have k5 : s.bx b5 = none := ((Sub.refl s).set hb3 _ _ |>.set k4 _ _).none (hst.none1 hbc hb5)
    have n_b3_b5 : b3 ≠ b5 := ne_of_none bxa hb5
    have n_b5_b3 := n_b3_b5.symm
    have n_b4_b5 : b4 ≠ b5 := ne_of_none bxa hb5
    have n_b5_b4 := n_b4_b5.symm
    conv => whnf
    repeat' ((first | (exfalso; first | omega | exact (by assumption : ¬ True) trivial | fail) | refine ⟨Sub.refl _, ?_⟩ | (refine brA_split (fun h => ?_) (fun h => ?_) <;> (try rw [h]) <;> (try simp only [bS, ↓reduceIte] at h)) | refine getB_a ?_ | (refine EqAgg.of grdFail planFail ?_) | refine getB_same ?_ | refine AWp.anyA ?_ | refine and_a ?_ | fail) <;> (conv => whnf))
    · exact ⟨_, Sub.refl _, rfl, (((hb41 s (Sub.refl _) k4 hb3).set k5 _ _).set k5 _ _).set hb3 _ _⟩
    · exfalso; revert h; simp [he0]
  · rw [hr] at hv
    obtain ⟨rfl, t5, rfl⟩ := hv
    conv => whnf
    repeat' ((first | (exfalso; first | omega | exact (by assumption : ¬ True) trivial | fail) | refine ⟨Sub.refl _, ?_⟩ | (refine brA_split (fun h => ?_) (fun h => ?_) <;> (try rw [h]) <;> (try simp only [bS, ↓reduceIte] at h)) | refine getB_same ?_ | refine AWp.anyA ?_ | refine and_a ?_ | fail) <;> (conv => whnf))
    intro b5 hb5
    have k5 : s.bx b5 = none := ((Sub.refl s).set hb3 _ _ |>.set k4 _ _).none (hst.none1 hbc hb5)
    have n_b3_b5 : b3 ≠ b5 := ne_of_none bxa hb5
    have n_b5_b3 := n_b3_b5.symm
    have n_b4_b5 : b4 ≠ b5 := ne_of_none bxa hb5
    have n_b5_b4 := n_b4_b5.symm
    conv => whnf
    repeat' ((first | (exfalso; first | omega | exact (by assumption : ¬ True) trivial | fail) | refine ⟨Sub.refl _, ?_⟩ | (refine brA_split (fun h => ?_) (fun h => ?_) <;> (try rw [h]) <;> (try simp only [bS, ↓reduceIte] at h)) | refine getB_a ?_ | (refine EqAgg.of grdFail planFail ?_) | refine getB_same ?_ | refine AWp.anyA ?_ | refine and_a ?_ | fail) <;> (conv => whnf))
    all_goals first | (exfalso; revert h; simp; done) | skip
    exact ⟨_, Sub.refl _, by simp only [tupA, fg, fgL, fgE_exs, exprA], (((hb41 s (Sub.refl _) k4 hb3).set k5 _ _).set k5 _ _).set hb3 _ _⟩
end Go.Proofs.YtdhgappjicpglaaGreatDoor.Pa
namespace Go.Proofs.YtdhgappjicpglaaGreatDoor.Pa
open Go Go.Ab Go.RowKit Go.Proofs.YtdhgappjicpglaaGreatDoor.Lx
set_option maxRecDepth 10000
set_option maxHeartbeats 4000000
theorem digB_isD (c : UInt8) : digB c = Nu.isD c := by
  unfold digB digitc Nu.isD
  by_cases h1 : 48 ≤ c.toNat <;> by_cases h2 : c.toNat ≤ 57 <;> simp [h1, h2] <;> omega
/-- What a token is. -/
def TokOk (t : Tok) : Prop := t.2.1.length ≤ 5000 ∧ (t.1 = 3 → 0 < t.2.1.length ∧ t.2.1.all Nu.isD = true ∧ ¬ (byteAt t.2.1 0 = 48 ∧ 1 < t.2.1.length))
theorem sign_len (l : List UInt8) : (signOf l).length ≤ 5000 := by
  rcases signF_spec signsL l with h | ⟨h, _⟩
  · unfold signOf; rw [h]; decide
  · have := (by decide : ∀ x ∈ signsL, x.length ≤ 5000)
    exact this _ h
theorem letters_tok {l : List UInt8} {k : Int} {t : List UInt8} (h : lettersF l = .ok (k, t)) (a b : Int) : TokOk (k, t, a, b) := by
  unfold lettersF at h
  split at h
  · rename_i hd
    split at h
    · rename_i hn
      cases h
      unfold numE at hn
      split at hn
      · cases hn
      · rename_i hb
        split at hn
        · cases hn
        · rename_i h32
          refine ⟨by show l.length ≤ 5000; omega, fun _ => ⟨?_, ?_, fun hh => hb (.inr hh)⟩⟩
          · cases l with
            | nil => exact absurd hd (by decide)
            | cons c r => exact Nat.succ_pos _
          · have ha : l.all digB = true := by
              cases hx : l.all digB
              · exact absurd (.inl hx) hb
              · rfl
            show l.all Nu.isD = true
            rw [← ha]
            exact congrArg l.all (funext fun c => (digB_isD c).symm)
    · cases h
  · split at h
    · cases h
    · rename_i h32
      split at h
      · cases h
        exact ⟨by show l.length ≤ 5000; omega, fun h => by cases h⟩
      · cases h
        exact ⟨by show l.length ≤ 5000; omega, fun h => by cases h⟩
theorem first_tok {l : List UInt8} {k : Int} {t : List UInt8} {n : Nat} (h : firstF l = .ok (k, t, n)) (a b : Int) : TokOk (k, t, a, b) := by
  unfold firstF at h
  split at h
  · split at h
    · cases h
    · split at h
      · cases h
      · cases h
        exact ⟨by show t.length ≤ 5000; omega, fun h => by cases h⟩
  · split at h
    · split at h
      · cases h
      · cases h
        exact ⟨sign_len l, fun h => by cases h⟩
    · split at h
      · cases h
      · rename_i hl
        cases h
        exact letters_tok hl a b
theorem lexF_toks : ∀ (k : Nat) (p : Int × Int) (l : List UInt8) (m : List Tok), lexF k p l = .ok m → ∀ t ∈ m, TokOk t
  | 0, p, l, m => fun h => by cases h; exact fun _ h => nomatch h
  | k + 1, p, l, m => fun h => by
    by_cases hl : l.drop (blankN l) = []
    · rw [lexF_end hl] at h; cases h; exact fun _ h => nomatch h
    · rcases he : firstF (l.drop (blankN l)) with e' | ⟨kd, t, z⟩
      · rw [lexF_bad hl he] at h; cases h
      · rw [lexF_ok hl he] at h
        rcases hr : lexF k ((placeF p (l.take (blankN l))).1, (placeF p (l.take (blankN l))).2 + z) ((l.drop (blankN l)).drop z) with ⟨e', a', b'⟩ | m'
        · rw [hr] at h; cases h
        · rw [hr] at h
          have := lexF_toks k _ _ _ hr
          cases h
          intro x hx
          rcases List.mem_cons.1 hx with rfl | hx
          · exact first_tok he _ _
          · exact this x hx
theorem allT_toks {S : List UInt8} {L : List Tok} (h : allT S = .ok L) : ∀ i, TokOk (L.getD i noTok) := fun i => by
  unfold allT at h
  split at h
  · cases h
  · by_cases hi : i < L.length
    · exact lexF_toks _ _ _ _ h _ (by rw [List.getD_eq_getElem?_getD, List.getElem?_eq_getElem hi]; exact List.getElem_mem hi)
    · rw [List.getD_eq_getElem?_getD, List.getElem?_eq_none (by omega)]
      exact ⟨Nat.zero_le _, fun h => by cases h⟩
theorem allT_text {S : List UInt8} {L : List Tok} (h : allT S = .ok L) : ∀ i, (peekF L i).2.1.length ≤ 5000 := fun i => by
  unfold peekF
  split
  · exact (allT_toks h i).1
  · split <;> exact Nat.zero_le _
end Go.Proofs.YtdhgappjicpglaaGreatDoor.Pa
namespace Go.Proofs.YtdhgappjicpglaaGreatDoor.Pr
open Go Go.Ab Go.RowKit Go.Proofs.YtdhgappjicpglaaGreatDoor.Lx Go.Proofs.YtdhgappjicpglaaGreatDoor.Pa
set_option maxRecDepth 10000
set_option maxHeartbeats 1000000
/-- An expression: a value, a name, one operand, two, one in brackets. -/
inductive Xt where
  | con (v : Int × Int × List UInt8 × Bool)
  | nam (s : List UInt8)
  | una (op : Int) (x : Xt)
  | bin (op : Int) (x y : Xt)
  | par (x : Xt)
/-- How strongly an operator holds together. -/
def lvl (op : Int) : Nat :=
  if op = 7 then 1 else if op = 6 then 2 else if op = 4 then 3 else if 13 ≤ op ∧ op ≤ 16 then 4 else if op = 8 ∨ op = 9 then 5 else if 10 ≤ op ∧ op ≤ 12 then 6 else if op = 5 then 7 else 8
def signT : List (List UInt8) := [[97, 110, 100], [111, 114], [43], [45], [42], [47], [37], [61, 61], [33, 61], [60], [60, 61]]
def signW (op : Int) : List UInt8 := signT.getD (op - 6).toNat []
namespace Xt
def lev : Xt → Nat
  | con _ => 8
  | nam _ => 8
  | una op _ => lvl op
  | bin op _ _ => lvl op
  | par _ => 8
/-- A node's operator, what it is for, name and value. -/
abbrev Core := Int × Int × Int × List UInt8 × (Int × Int × List UInt8 × Bool)
def none : Int × Int × List UInt8 × Bool := (0, 0, [], false)
/-- How many nodes it has. -/
def cnt : Xt → Nat
  | con _ => 1
  | nam _ => 1
  | una _ x => cnt x + 1
  | bin _ x y => cnt x + cnt y + 1
  | par x => cnt x
/-- Its nodes, behind n others. -/
def cores : Xt → Nat → List Core
  | con v, _ => [(1, 0, 0, [], v)]
  | nam s, _ => [(17, 0, 0, s, none)]
  | una op x, n => cores x n ++ [(op, ((n + cnt x : Nat) : Int) - 1, 0, [], none)]
  | bin op x y, n => cores x n ++ (cores y (n + cnt x) ++ [(op, ((n + cnt x : Nat) : Int) - 1, ((n + cnt x + cnt y : Nat) : Int) - 1, [], none)])
  | par x, n => cores x n
def dep : Xt → Nat
  | con _ => 1
  | nam _ => 1
  | una _ x => dep x + 1
  | bin _ x y => (if dep y > dep x then dep y else dep x) + 1
  | par x => dep x
/-- How much is open in it. -/
def opn : Xt → Nat
  | con _ => 0
  | nam _ => 0
  | una _ x => opn x + 1
  | bin _ x y => if opn y > opn x then opn y else opn x
  | par x => opn x + 1
/-- Is it a number that is not below 0? -/
def bare : Xt → Bool
  | con v => decide (v.1 = 1) && decide (0 ≤ v.2.1)
  | _ => false
/-- A value that may be. -/
def ValOk (v : Int × Int × List UInt8 × Bool) : Prop :=
  (v.1 = 1 ∧ -9223372036854775808 ≤ v.2.1 ∧ v.2.1 ≤ 9223372036854775807 ∧ v.2.2.1 = [] ∧ v.2.2.2 = false) ∨ (v.1 = 2 ∧ v.2.1 = 0 ∧ v.2.2.2 = false) ∨ (v.1 = 3 ∧ v.2.1 = 0 ∧ v.2.2.1 = [])
/-- Everything stands where it may. -/
def Ok : Xt → Prop
  | con v => ValOk v
  | nam s => s ≠ [95]
  | una op x => (op = 4 ∧ 3 ≤ lev x ∨ op = 5 ∧ 7 ≤ lev x ∧ bare x = false) ∧ Ok x
  | bin op x y => 6 ≤ op ∧ op ≤ 16 ∧ (if lvl op = 4 then 5 else lvl op) ≤ lev x ∧ lvl op + 1 ≤ lev y ∧ Ok x ∧ Ok y
  | par x => Ok x
end Xt
end Go.Proofs.YtdhgappjicpglaaGreatDoor.Pr
namespace Go.Proofs.YtdhgappjicpglaaGreatDoor.Pr
open Go Go.Ab Go.RowKit Go.Proofs.YtdhgappjicpglaaGreatDoor.Lx Go.Proofs.YtdhgappjicpglaaGreatDoor.Pa
set_option maxRecDepth 10000
set_option maxHeartbeats 1000000
variable {L : List Tok} {R : List (Int × List UInt8)}
theorem op_cases {op : Int} (h : 6 ≤ op ∧ op ≤ 16) : op = 6 ∨ op = 7 ∨ op = 8 ∨ op = 9 ∨ op = 10 ∨ op = 11 ∨ op = 12 ∨ op = 13 ∨ op = 14 ∨ op = 15 ∨ op = 16 := by omega
theorem op_lvl {op : Int} (h : 6 ≤ op ∧ op ≤ 16) : lvl op = 1 ∨ lvl op = 2 ∨ lvl op = 4 ∨ lvl op = 5 ∨ lvl op = 6 := by
  rcases op_cases h with rfl | rfl | rfl | rfl | rfl | rfl | rfl | rfl | rfl | rfl | rfl <;> decide
namespace Xt
end Xt
end Go.Proofs.YtdhgappjicpglaaGreatDoor.Pr
namespace Go.Proofs.YtdhgappjicpglaaGreatDoor.Pr
open Go Go.Ab Go.RowKit Go.Proofs.YtdhgappjicpglaaGreatDoor.Lx Go.Proofs.YtdhgappjicpglaaGreatDoor.Pa
set_option maxRecDepth 10000
set_option maxHeartbeats 1000000
/-- A value's text. -/
def valS (v : Int × Int × List UInt8 × Bool) : List UInt8 :=
  if v.1 = 1 then Lib.itoa v.2.1 else if v.1 = 2 then Qu.quote v.2.2.1 else if v.2.2.2 = true then [116, 114, 117, 101] else [102, 97, 108, 115, 101]
namespace Xt
def txt : Xt → List UInt8
  | con v => valS v
  | nam s => s
  | una op x => (if op = 4 then [110, 111, 116, 32] else [45]) ++ txt x
  | bin op x y => txt x ++ 32 :: (signW op ++ 32 :: txt y)
  | par x => 40 :: (txt x ++ [41])
/-- Names and texts are such as are told in one token. -/
def Lexed : Xt → Prop
  | con v => v.2.2.1.length ≤ 4096
  | nam s => s.all (fun c => Sc.wordc c.toNat) = true ∧ s ≠ [] ∧ lettersF s = .ok (1, s)
  | una _ x => Lexed x
  | bin _ x y => Lexed x ∧ Lexed y
  | par x => Lexed x
end Xt
end Go.Proofs.YtdhgappjicpglaaGreatDoor.Pr
namespace Go.Proofs.YtdhgappjicpglaaGreatDoor.Tr
open Go Go.Ab Go.RowKit
variable {Γ : Nat → AV}
attribute [local irreducible] APure Sto.set Sto.grow
set_option maxRecDepth 10000
abbrev Idn := List UInt8 × Int × Int
abbrev Vl := Int × Int × List UInt8 × Bool
abbrev Ex := Int × Int × Int × List UInt8 × Vl × Int × Int
abbrev Qu := Bool × Idn × Int
abbrev St := Idn × Bool × Bool
instance decVl : DecidableEq Vl := inferInstance
def noVl : Vl := (0, 0, [], false)
def noEx : Ex := (0, 0, 0, [], noVl, 0, 0)
def vlA (v : Vl) : List AV := [.int .i64 v.1, .int .i64 v.2.1, .str v.2.2.1, .bool v.2.2.2]
def exA (x : Ex) : List AV := [.int .i64 x.1, .int .i64 x.2.1, .int .i64 x.2.2.1, .str x.2.2.2.1, .int .i64 x.2.2.2.2.1.1, .int .i64 x.2.2.2.2.1.2.1, .str x.2.2.2.2.1.2.2.1, .bool x.2.2.2.2.1.2.2.2, .int .i64 x.2.2.2.2.2.1, .int .i64 x.2.2.2.2.2.2]
theorem eq_idn (x y : Idn) : (decide (x.1 = y.1) && (decide (x.2.1 = y.2.1) && (decide (x.2.2 = y.2.2) && true))) = decide (x = y) := by
  rw [Bool.eq_iff_iff]; simp [Prod.ext_iff]
theorem eq_vl (x y : Vl) : (decide (x.1 = y.1) && (decide (x.2.1 = y.2.1) && (decide (x.2.2.1 = y.2.2.1) && ((x.2.2.2 == y.2.2.2) && true)))) = decide (x = y) := by
  rw [Bool.eq_iff_iff]; simp [Prod.ext_iff]
theorem bool_eq {a b : Bool} (h : a = b) : AV.bool a = .bool b := by rw [h]
theorem map_get {α : Type} {f : α → List AV} {l : List α} (d : α) {i : Nat} (h : i < l.length) : (l.map f).getD i [] = f (l.getD i d) := by
  simp [List.getD, h]
theorem getD_mem {α : Type} {l : List α} (d : α) {i : Nat} (h : i < l.length) : l.getD i d ∈ l := by
  simp [List.getD, h]
end Go.Proofs.YtdhgappjicpglaaGreatDoor.Tr
namespace Go.Proofs.YtdhgappjicpglaaGreatDoor.Tr
open Go Go.Ab Go.RowKit
variable {Γ : Nat → AV}
attribute [local irreducible] APure Sto.set Sto.grow
set_option maxRecDepth 10000
theorem grdVl : (!Tryz.prog.eqGuardType Tryz.prog.depth 49) = true := by kernel_rfl
theorem planVl : planT Tryz.prog 9999 49 = some [(0, 0), (1, 0), (2, 1), (3, 2)] := by kernel_rfl
end Go.Proofs.YtdhgappjicpglaaGreatDoor.Tr
namespace Go.Proofs.YtdhgappjicpglaaGreatDoor.Tr
open Go Go.Ab Go.RowKit
variable {Γ : Nat → AV}
attribute [local irreducible] APure Sto.set Sto.grow
set_option maxRecDepth 10000
set_option maxHeartbeats 1000000
theorem valInt_ok (n : Int) : APure Tryz.prog Γ 58 [.int .i64 n] fun v => v = .agg (vlA (1, n, [], false)) := by
  refine APure.of_awp Tryz.func58 rfl (Nat.le_of_ble_eq_true (by kernel_rfl)) (by kernel_rfl) ?_
  intro s
  conv => whnf
  intro b hb
  conv => whnf
  repeat' (first
    | (refine ⟨Sub.refl _, ?_⟩)
    | (refine brA_split (fun h => ?_) (fun h => ?_) <;> (try rw [h]) <;> (try simp only [Bool.false_eq_true, Bool.true_eq_false, ↓reduceIte, decide_eq_true_eq, decide_eq_false_iff_not, Bool.not_eq_true', Bool.not_eq_false'] at h) <;> (conv => whnf))
    | (refine getB_of set_bx_same ?_; conv => whnf)
    | (refine getB_same ?_; conv => whnf)
    | (refine AWp.any (by kernel_rfl) (by kernel_rfl) (by kernel_rfl) ?_; conv => whnf)
    | (apply And.intro; (focus (first | omega | rfl | decide | exact Nat.le_of_ble_eq_true rfl | ((repeat' (first | exact all_nil | refine all_cons ?_ ?_ | rfl | fail)); done) | (simp [-List.length_flatMap]; done) | (simp [-List.length_flatMap]; omega) | fail)); conv => whnf)
    | fail)
  exact ⟨((Sub.refl _).set hb _ _).set hb _ _, rfl⟩
def e1 : Ex := (1, 0, 0, [], (1, 2, [], false), 0, 0)
def e2 : Ex := (1, 0, 0, [], (1, 3, [], false), 0, 0)
def e3 : Ex := (8, 0, 1, [], noVl, 0, 0)
end Go.Proofs.YtdhgappjicpglaaGreatDoor.Tr
namespace Go.Proofs.YtdhgappjicpglaaGreatDoor.Tr
open Go Go.Ab Go.RowKit
variable {Γ : Nat → AV}
attribute [local irreducible] APure Sto.set Sto.grow
set_option maxRecDepth 10000
set_option maxHeartbeats 1000000
def rightV (v : Vl) : Bool :=
  if v.1 = 1 then decide (v.2.2.1 = []) && !v.2.2.2
  else if v.1 = 2 then decide (v.2.1 = 0) && !v.2.2.2 && decide (v.2.2.1.length ≤ 4096)
  else decide (v.1 = 3) && decide (v.2.1 = 0) && decide (v.2.2.1 = [])
theorem valStr_ok (s : List UInt8) : APure Tryz.prog Γ 59 [.str s] fun v => v = .agg (vlA (2, 0, s, false)) := by
  refine APure.of_awp Tryz.func59 rfl (Nat.le_of_ble_eq_true (by kernel_rfl)) (by kernel_rfl) ?_
  intro s
  conv => whnf
  intro b hb
  conv => whnf
  repeat' (first
    | (refine ⟨Sub.refl _, ?_⟩)
    | (refine brA_split (fun h => ?_) (fun h => ?_) <;> (try rw [h]) <;> (try simp only [Bool.false_eq_true, Bool.true_eq_false, ↓reduceIte, decide_eq_true_eq, decide_eq_false_iff_not, Bool.not_eq_true', Bool.not_eq_false'] at h) <;> (conv => whnf))
    | (refine getB_of set_bx_same ?_; conv => whnf)
    | (refine getB_same ?_; conv => whnf)
    | (refine AWp.any (by kernel_rfl) (by kernel_rfl) (by kernel_rfl) ?_; conv => whnf)
    | (apply And.intro; (focus (first | omega | rfl | decide | exact Nat.le_of_ble_eq_true rfl | ((repeat' (first | exact all_nil | refine all_cons ?_ ?_ | rfl | fail)); done) | (simp [-List.length_flatMap]; done) | (simp [-List.length_flatMap]; omega) | fail)); conv => whnf)
    | fail)
  exact ⟨((Sub.refl _).set hb _ _).set hb _ _, rfl⟩
theorem valBool_ok (t : Bool) : APure Tryz.prog Γ 60 [.bool t] fun v => v = .agg (vlA (3, 0, [], t)) := by
  refine APure.of_awp Tryz.func60 rfl (Nat.le_of_ble_eq_true (by kernel_rfl)) (by kernel_rfl) ?_
  intro s
  conv => whnf
  intro b hb
  conv => whnf
  repeat' (first
    | (refine ⟨Sub.refl _, ?_⟩)
    | (refine brA_split (fun h => ?_) (fun h => ?_) <;> (try rw [h]) <;> (try simp only [Bool.false_eq_true, Bool.true_eq_false, ↓reduceIte, decide_eq_true_eq, decide_eq_false_iff_not, Bool.not_eq_true', Bool.not_eq_false'] at h) <;> (conv => whnf))
    | (refine getB_of set_bx_same ?_; conv => whnf)
    | (refine getB_same ?_; conv => whnf)
    | (refine AWp.any (by kernel_rfl) (by kernel_rfl) (by kernel_rfl) ?_; conv => whnf)
    | (apply And.intro; (focus (first | omega | rfl | decide | exact Nat.le_of_ble_eq_true rfl | ((repeat' (first | exact all_nil | refine all_cons ?_ ?_ | rfl | fail)); done) | (simp [-List.length_flatMap]; done) | (simp [-List.length_flatMap]; omega) | fail)); conv => whnf)
    | fail)
  exact ⟨((Sub.refl _).set hb _ _).set hb _ _, rfl⟩
theorem rightV_ok (v : Vl) : APure Tryz.prog Γ 41 [.agg (vlA v)] fun x => x = .bool (rightV v) := by
  obtain ⟨k, n, s, t⟩ := v
  refine APure.of_awp Tryz.func41 rfl (Nat.le_of_ble_eq_true (by kernel_rfl)) (by kernel_rfl) ?_
  intro s
  conv => whnf
  intro b hb
  conv => whnf
  repeat' (first
    | (refine ⟨Sub.refl _, ?_⟩)
    | (refine brA_split (fun h => ?_) (fun h => ?_) <;> (try rw [h]) <;> (try simp only [Bool.false_eq_true, Bool.true_eq_false, ↓reduceIte, decide_eq_true_eq, decide_eq_false_iff_not, Bool.not_eq_true', Bool.not_eq_false'] at h) <;> (conv => whnf))
    | (refine ACalls.pure' ?_ (valInt_ok _); rintro _ rfl; conv => whnf)
    | (refine DCall.pure ?_ (valInt_ok _); conv => whnf)
    | (refine ACalls.pure' ?_ (valStr_ok _); rintro _ rfl; conv => whnf)
    | (refine DCall.pure ?_ (valStr_ok _); conv => whnf)
    | (refine ACalls.pure' ?_ (valBool_ok _); rintro _ rfl; conv => whnf)
    | (refine DCall.pure ?_ (valBool_ok _); conv => whnf)
    | (refine EqAgg.of grdVl planVl ?_; conv => whnf)
    | (refine getB_same ?_; conv => whnf)
    | (refine AWp.any (by kernel_rfl) (by kernel_rfl) (by kernel_rfl) ?_; conv => whnf)
    | (apply And.intro; (focus (first | omega | rfl | decide | exact Nat.le_of_ble_eq_true rfl | ((repeat' (first | exact all_nil | refine all_cons ?_ ?_ | rfl | fail)); done) | (simp [-List.length_flatMap]; done) | (simp [-List.length_flatMap]; omega) | fail)); conv => whnf)
    | fail)
  all_goals refine ⟨(Sub.refl _).set hb _ _, bool_eq ?_⟩
  all_goals (try simp only [] at *)
  all_goals grind [rightV]
/-- A node that has no expressions, and may be; nm: which texts are names. -/
def loneB (nm : List UInt8 → Bool) (x : Ex) : Bool :=
  if x.2.1 ≠ 0 ∨ x.2.2.1 ≠ 0 then false
  else if x.1 = 1 then decide (x.2.2.2.1 = []) && rightV x.2.2.2.2.1
  else decide (x.1 = 17) && (decide (x.2.2.2.2.1 = noVl) && nm x.2.2.2.1)
theorem lone_ok (nm : List UInt8 → Bool) (x : Ex) (hn : APure Tryz.prog Γ 57 [.str x.2.2.2.1] fun v => v = .bool (nm x.2.2.2.1)) : APure Tryz.prog Γ 40 [.agg (exA x)] fun v => v = .bool (loneB nm x) := by
  have hev := eq_vl x.2.2.2.2.1 noVl
  refine APure.of_awp Tryz.func40 rfl (Nat.le_of_ble_eq_true (by kernel_rfl)) (by kernel_rfl) ?_
  intro s
  conv => whnf
  intro b hb
  conv => whnf
  repeat' (first
    | (exfalso; first | omega | exact (by assumption : ¬ True) trivial | fail)
    | (refine ⟨Sub.refl _, ?_⟩)
    | (refine brA_split (fun h => ?_) (fun h => ?_) <;> (try rw [h]) <;> (try simp only [Bool.false_eq_true, Bool.true_eq_false, ↓reduceIte, decide_eq_true_eq, decide_eq_false_iff_not, Bool.not_eq_true', Bool.not_eq_false'] at h) <;> (conv => whnf))
    | (refine ACalls.pure' ?_ (rightV_ok x.2.2.2.2.1); rintro _ rfl; conv => whnf)
    | (refine DCall.pure ?_ (rightV_ok x.2.2.2.2.1); conv => whnf)
    | (refine EqAgg.of grdVl planVl ?_; conv => whnf)
    | (refine ACalls.pure' ?_ (hn); rintro _ rfl; conv => whnf)
    | (refine DCall.pure ?_ (hn); conv => whnf)
    | (refine getB_same ?_; conv => whnf)
    | (refine AWp.any (by kernel_rfl) (by kernel_rfl) (by kernel_rfl) ?_; conv => whnf)
    | (apply And.intro; (focus (first | omega | rfl | decide | exact Nat.le_of_ble_eq_true rfl | ((repeat' (first | exact all_nil | refine all_cons ?_ ?_ | rfl | fail)); done) | (simp [-List.length_flatMap]; done) | (simp [-List.length_flatMap]; omega) | fail)); conv => whnf)
    | fail)
  all_goals refine ⟨(Sub.refl _).set hb _ _, bool_eq ?_⟩
  all_goals (unfold loneB; rw [← hev])
  all_goals grind [noVl]
end Go.Proofs.YtdhgappjicpglaaGreatDoor.Tr
namespace Go.Proofs.YtdhgappjicpglaaGreatDoor.Tr
open Go Go.Ab Go.RowKit
variable {Γ : Nat → AV}
attribute [local irreducible] APure Sto.set Sto.grow
set_option maxRecDepth 10000
set_option maxHeartbeats 1000000
/-- What is told of a node, of what was told of those ahead: of how many nodes, and how deep. -/
def nodeOf (nm : List UInt8 → Bool) (x : Ex) (i : Nat) (r : List (Int × Int)) : Int × Int :=
  if loneB nm x = true then (1, 1)
  else if x.1 < 4 ∨ 16 < x.1 ∨ x.2.2.2.1 ≠ [] ∨ x.2.2.2.2.1 ≠ noVl ∨ i = 0 ∨ (r.getD (i - 1) (0, 0)).1 = 0 then (0, 0)
  else if x.1 ≤ 5 then (if x.2.1 = (i : Int) - 1 ∧ x.2.2.1 = 0 then ((r.getD (i - 1) (0, 0)).1 + 1, (r.getD (i - 1) (0, 0)).2 + 1) else (0, 0))
  else if x.2.2.1 = (i : Int) - 1 ∧ x.2.1 = (i : Int) - 1 - (r.getD (i - 1) (0, 0)).1 ∧ 0 ≤ (i : Int) - 1 - (r.getD (i - 1) (0, 0)).1 ∧ 0 < (r.getD ((i : Int) - 1 - (r.getD (i - 1) (0, 0)).1).toNat (0, 0)).1 then
    ((r.getD ((i : Int) - 1 - (r.getD (i - 1) (0, 0)).1).toNat (0, 0)).1 + (r.getD (i - 1) (0, 0)).1 + 1, max (r.getD ((i : Int) - 1 - (r.getD (i - 1) (0, 0)).1).toNat (0, 0)).2 (r.getD (i - 1) (0, 0)).2 + 1)
  else (0, 0)
def tab (nm : List UInt8 → Bool) (l : List Ex) : Nat → List (Int × Int)
  | 0 => []
  | i + 1 => tab nm l i ++ [nodeOf nm (l.getD i noEx) i (tab nm l i)]
theorem tab_len (nm : List UInt8 → Bool) (l : List Ex) : ∀ i, (tab nm l i).length = i
  | 0 => rfl
  | i + 1 => by rw [tab, List.length_append, tab_len nm l i]; rfl
theorem getD_left {α : Type} {r : List α} {d p : α} {j : Nat} (h : j < r.length) : (r ++ [p]).getD j d = r.getD j d := by
  simp [List.getD, List.getElem?_append_left h]
theorem getD_last {α : Type} {r : List α} {d p : α} : (r ++ [p]).getD r.length d = p := by
  simp [List.getD]
theorem nodeOf_bound {nm : List UInt8 → Bool} {x : Ex} {i : Nat} {r : List (Int × Int)} (h : ∀ j : Nat, j < i → 0 ≤ (r.getD j (0, 0)).1 ∧ (r.getD j (0, 0)).1 ≤ j + 1 ∧ 0 ≤ (r.getD j (0, 0)).2 ∧ (r.getD j (0, 0)).2 ≤ j + 1) :
    0 ≤ (nodeOf nm x i r).1 ∧ (nodeOf nm x i r).1 ≤ i + 1 ∧ 0 ≤ (nodeOf nm x i r).2 ∧ (nodeOf nm x i r).2 ≤ i + 1 := by
  unfold nodeOf
  split
  · simp only []; omega
  split
  · simp only []; omega
  rename_i h1 h2
  have hp := h (i - 1) (by omega)
  generalize r.getD (i - 1) (0, 0) = p at *
  split
  · split
    · simp only []; omega
    · simp only []; omega
  · split
    · rename_i h4
      have hq := h ((i : Int) - 1 - p.1).toNat (by omega)
      generalize r.getD ((i : Int) - 1 - p.1).toNat (0, 0) = q at *
      simp only []
      omega
    · simp only []; omega
theorem tab_bound (nm : List UInt8 → Bool) (l : List Ex) : ∀ i j : Nat, j < i → 0 ≤ ((tab nm l i).getD j (0, 0)).1 ∧ ((tab nm l i).getD j (0, 0)).1 ≤ j + 1 ∧ 0 ≤ ((tab nm l i).getD j (0, 0)).2 ∧ ((tab nm l i).getD j (0, 0)).2 ≤ j + 1
  | 0, j, h => by omega
  | i + 1, j, h => by
    have hl := tab_len nm l i
    rw [tab]
    by_cases hj : j < i
    · rw [getD_left (by omega)]
      exact tab_bound nm l i j hj
    · rw [show j = (tab nm l i).length by omega, getD_last, hl]
      exact nodeOf_bound (tab_bound nm l i)
/-- A column of the table, and zeros behind it. -/
def col (f : Int × Int → Int) (r : List (Int × Int)) (n : Nat) : List AV := r.map (fun p => .int .i64 (f p)) ++ List.replicate (n - r.length) (.int .i64 0)
theorem col_len {f : Int × Int → Int} {r : List (Int × Int)} {n : Nat} (h : r.length ≤ n) : (col f r n).length = n := by simp [col]; omega
theorem col_get {f : Int × Int → Int} (hf : f (0, 0) = 0) {r : List (Int × Int)} {n j m : Nat} (h : j < n) (hr : r.length ≤ n) (hm : m = j) : (col f r n).drop m = .int .i64 (f (r.getD j (0, 0))) :: (col f r n).drop (j + 1) := by
  subst hm
  rw [List.drop_eq_getElem_cons (by rw [col_len hr]; exact h)]
  refine cons_eq ?_ rfl
  simp only [col]
  by_cases hj : m < r.length
  · rw [List.getElem_append_left (by simpa using hj)]
    simp [List.getD, hj]
  · rw [List.getElem_append_right (by simp; omega)]
    simp [List.getD, List.getElem?_eq_none (Nat.le_of_not_lt hj), hf]
theorem col_put {f : Int × Int → Int} {r : List (Int × Int)} {n i m k : Nat} {p : Int × Int} {v : Int} (h : r.length = i) (hi : i < n) (hm : m = i) (hk : k = i + 1) (hv : v = f p) :
    (col f r n).take m ++ [.int .i64 v] ++ (col f r n).drop k = col f (r ++ [p]) n := by
  subst hm hk hv h
  unfold col
  rw [List.take_append_of_le_length (by simp), List.take_of_length_le (by simp), List.drop_append, List.drop_of_length_le (by simp)]
  simp only [List.length_map, List.map_append, List.map_cons, List.map_nil, List.nil_append, List.length_append, List.length_cons, List.length_nil, List.drop_replicate]
  rw [show n - r.length - (r.length + 1 - r.length) = n - (r.length + (0 + 1)) by omega]
theorem col_zero {f : Int × Int → Int} {r : List (Int × Int)} {n : Nat} {p : Int × Int} (h : r.length < n) (hp : f p = 0) : col f r n = col f (r ++ [p]) n := by
  unfold col
  simp only [List.map_append, List.map_cons, List.map_nil, List.length_append, List.length_cons, List.length_nil, hp, List.append_assoc, List.singleton_append]
  rw [show n - r.length = (n - (r.length + (0 + 1))) + 1 by omega, List.replicate_succ]
theorem aload_eq {P : Program} {T : TypeId} {cs cs' : List AV} {K : AV → Prop} (h : cs = cs') (hk : aload P T cs' K) : aload P T cs K := h ▸ hk
theorem flat_zero (n : Nat) (z : AV) : (List.replicate n [z]).flatten = List.replicate n z := by
  induction n with
  | zero => rfl
  | succ n ih => rw [List.replicate_succ, List.flatten_cons, ih, List.replicate_succ]; rfl
structure Szc (s s' : Sto) (b1 b2 : Nat) (c1 c2 : List AV) : Prop where
  ne : b1 ≠ b2
  size : s'.bx b1 = some (3, c1)
  depth : s'.bx b2 = some (3, c2)
  sub : Sub s s'
  none1 : s.bx b1 = none
  none2 : s.bx b2 = none
theorem frcL_at {cs cs' : List AV} {K : List AV → Prop} (h : cs = cs') (hk : K cs') : frcL cs K := by rw [frcL_eq, h]; exact hk
theorem sized_ok (nm : List UInt8 → Bool) (t : Nat) (l : List Ex) (hl : l.length ≤ 1000000) (hn : ∀ x ∈ l, APure Tryz.prog Γ 57 [.str x.2.2.2.1] fun v => v = .bool (nm x.2.2.2.1)) (s : Sto) :
    ACalls Tryz.prog Γ 25 [.slice t (l.map exA)] s fun v s' => ∃ b1 b2, v = .tuple [.raw (some ⟨b1, 0, none⟩) l.length l.length, .raw (some ⟨b2, 0, none⟩) l.length l.length] ∧ Szc s s' b1 b2 (col Prod.fst (tab nm l l.length) l.length) (col Prod.snd (tab nm l l.length) l.length) := by
  have hml : (l.map exA).length = l.length := List.length_map ..
  have hroom : ((8 : Nat) : Int) * ((l.map exA).length : Int) ≤ 281474976710656 := by omega
  refine ACalls.of_awp Tryz.func25 rfl (Nat.le_of_ble_eq_true (by kernel_rfl)) (awp_ok _ (by kernel_rfl) ?_)
  conv => whnf
  repeat' (first
    | (refine ⟨Sub.refl _, ?_⟩)
    | (refine brA_split (fun h => ?_) (fun h => ?_) <;> (try rw [h]) <;> (try simp only [Bool.false_eq_true, Bool.true_eq_false, ↓reduceIte, decide_eq_true_eq, decide_eq_false_iff_not, Bool.not_eq_true', Bool.not_eq_false'] at h) <;> (conv => whnf))
    | (refine ⟨hroom, ?_⟩; conv => whnf)
    | (refine getB_same ?_; conv => whnf)
    | (refine AWp.any (by kernel_rfl) (by kernel_rfl) (by kernel_rfl) ?_; conv => whnf)
    | (apply And.intro; (focus (first | omega | rfl | decide | exact Nat.le_of_ble_eq_true rfl | ((repeat' (first | exact all_nil | refine all_cons ?_ ?_ | rfl | fail)); done) | (simp [-List.length_flatMap]; done) | (simp [-List.length_flatMap]; omega) | fail)); conv => whnf)
    | fail)
  intro b1 hb1
  conv => whnf
  repeat' (first
    | (refine ⟨Sub.refl _, ?_⟩)
    | (refine brA_split (fun h => ?_) (fun h => ?_) <;> (try rw [h]) <;> (try simp only [Bool.false_eq_true, Bool.true_eq_false, ↓reduceIte, decide_eq_true_eq, decide_eq_false_iff_not, Bool.not_eq_true', Bool.not_eq_false'] at h) <;> (conv => whnf))
    | (refine ⟨hroom, ?_⟩; conv => whnf)
    | (refine getB_same ?_; conv => whnf)
    | (refine AWp.any (by kernel_rfl) (by kernel_rfl) (by kernel_rfl) ?_; conv => whnf)
    | (apply And.intro; (focus (first | omega | rfl | decide | exact Nat.le_of_ble_eq_true rfl | ((repeat' (first | exact all_nil | refine all_cons ?_ ?_ | rfl | fail)); done) | (simp [-List.length_flatMap]; done) | (simp [-List.length_flatMap]; omega) | fail)); conv => whnf)
    | fail)
  intro b2 hb2
  conv => whnf
  repeat' (first
    | (refine ⟨Sub.refl _, ?_⟩)
    | (refine brA_split (fun h => ?_) (fun h => ?_) <;> (try rw [h]) <;> (try simp only [Bool.false_eq_true, Bool.true_eq_false, ↓reduceIte, decide_eq_true_eq, decide_eq_false_iff_not, Bool.not_eq_true', Bool.not_eq_false'] at h) <;> (conv => whnf))
    | (refine getB_same ?_; conv => whnf)
    | (refine AWp.any (by kernel_rfl) (by kernel_rfl) (by kernel_rfl) ?_; conv => whnf)
    | (apply And.intro; (focus (first | omega | rfl | decide | exact Nat.le_of_ble_eq_true rfl | ((repeat' (first | exact all_nil | refine all_cons ?_ ?_ | rfl | fail)); done) | (simp [-List.length_flatMap]; done) | (simp [-List.length_flatMap]; omega) | fail)); conv => whnf)
    | fail)
  refine AWp.loopA [15] [16, 17, 18, 19, 5, 4, 20, 21, 22, 23, 24, 25, 26, 27, 28, 29, 30, 31, 32, 33, 34, 35, 36, 37, 38, 39, 40, 41, 42, 43, 44, 45, 46, 47, 48, 49, 50, 51, 52, 53, 54, 55, 56, 57, 58, 59, 60, 61, 62, 63, 64, 65, 66, 67, 68, 69, 70, 71, 72, 73, 74, 75, 76, 77, 78, 79, 80, 81, 82, 83, 84, 85, 86, 87, 88, 89, 90, 91, 92, 93, 94, 95, 96, 97, 6, 98, 99, 100, 101, 102, 103, 104, 105, 106, 107, 108, 109, 110, 111, 112, 113, 114, 115, 116, 117, 118, 119, 120, 121, 122, 123, 124, 125, 126, 127, 128, 129, 130, 131, 132, 133, 134, 135, 136, 137, 138, 139, 140, 141, 142, 143, 144, 145, 146, 147, 148] (fun i : Nat => [.int .i64 i]) (fun i s' => i ≤ l.length ∧ Szc s s' b1 b2 (col Prod.fst (tab nm l i) l.length) (col Prod.snd (tab nm l i) l.length)) (fun i => l.length - i) (0) (by kernel_rfl) (by (repeat' (first | refine cons_eq ?_ ?_ | refine int64_of ?_ ?_ ?_ | rfl | omega))) ?_ ?_
  · refine ⟨by omega, ?_⟩
    obtain ⟨h1, h2⟩ := none_set hb2
    have hz : ∀ f : Int × Int → Int, (List.replicate ((l.map exA).length : Int).toNat [AV.int .i64 0]).flatten = col f (tab nm l 0) l.length := fun f => by
      rw [flat_zero, Int.toNat_natCast, hml]; rfl
    exact ⟨fun h => h1 h.symm, ((set_bx_other (fun h => h1 h.symm)).trans set_bx_same).trans (by rw [hz]), set_bx_same.trans (by rw [hz]), ((Sub.refl _).set hb1 _ _).set h2 _ _, hb1, h2⟩
  · rintro q i s1 ⟨hi, hz⟩
    conv => whnf
    have hga := fun h : i < l.length => map_get (f := exA) (l := l) noEx h
    have htab : tab nm l (i + 1) = tab nm l i ++ [nodeOf nm (l.getD i noEx) i (tab nm l i)] := rfl
    have htl := tab_len nm l i
    have hbd := tab_bound nm l i
    have hnx := fun h : i < l.length => hn (l.getD i noEx) (getD_mem noEx h)
    by_cases hlt : i < l.length
    · have hga := hga hlt
      have hnx := hnx hlt
      generalize l.getD i noEx = x at *
      generalize tab nm l i = r at *
      repeat' (first
        | (exfalso; first | omega | exact (by assumption : ¬ True) trivial | fail)
        | (refine ⟨Sub.refl _, ?_⟩)
        | (refine brA_split (fun h => ?_) (fun h => ?_) <;> (try rw [h]) <;> (try simp only [Bool.false_eq_true, Bool.true_eq_false, ↓reduceIte, decide_eq_true_eq, decide_eq_false_iff_not, Bool.not_eq_true', Bool.not_eq_false'] at h) <;> (conv => whnf))
        | (rw [show (l.map exA).getD ((i : Int)).toNat [] = _ from hga]; conv => whnf)
        | (refine getB_same ?_; conv => whnf)
        | (refine AWp.any (by kernel_rfl) (by kernel_rfl) (by kernel_rfl) ?_; conv => whnf)
        | (apply And.intro; (focus (first | omega | rfl | decide | exact Nat.le_of_ble_eq_true rfl | ((repeat' (first | exact all_nil | refine all_cons ?_ ?_ | rfl | fail)); done) | (simp [-List.length_flatMap]; done) | (simp [-List.length_flatMap]; omega) | fail)); conv => whnf)
        | fail)
      intro c hc
      conv => whnf
      refine getB_of set_bx_same ?_
      have n1 := ne_of_none hz.size hc
      have n2 := ne_of_none hz.depth hc
      have h5 := hz.sub.none hc
      have g1 := fun (T : TypeId) (x y : List AV) => (set_bx_other (s := s1.set c T x) (T := T) (cs := y) n1).trans ((set_bx_other n1).trans hz.size)
      have g2 := fun (T : TypeId) (x y : List AV) => (set_bx_other (s := s1.set c T x) (T := T) (cs := y) n2).trans ((set_bx_other n2).trans hz.depth)
      have st := fun (f : Int × Int → Int) (P : Int × Int) (v : Int) (m k : Nat) (hv : v = f P) (hm : m = i) (hk : k = i + 1) => col_put (f := f) (r := r) (n := l.length) (p := P) (v := v) htl hlt hm hk hv
      have ln := fun f : Int × Int → Int => col_len (f := f) (r := r) (n := l.length) (by omega)
      have zero : nodeOf nm x i r = (0, 0) → ∀ (T : TypeId) (y z : List AV), Szc s ((s1.set c T y).set c T z) b1 b2 (col Prod.fst (tab nm l (i + 1)) l.length) (col Prod.snd (tab nm l (i + 1)) l.length) := fun h0 T y z => by
        rw [htab, h0]
        exact ⟨hz.ne, (g1 _ _ _).trans (by rw [col_zero (p := (0, 0)) (by omega) rfl]), (g2 _ _ _).trans (by rw [col_zero (p := (0, 0)) (by omega) rfl]), (hz.sub.set h5 _ _).set h5 _ _, hz.none1, hz.none2⟩
      have put : ∀ P, nodeOf nm x i r = P → ∀ (T T' : TypeId) (y z : List AV), T' = 3 → Szc s ((((s1.set c T y).set c T z).set b1 T' (col Prod.fst (r ++ [P]) l.length)).set b2 T' (col Prod.snd (r ++ [P]) l.length)) b1 b2 (col Prod.fst (tab nm l (i + 1)) l.length) (col Prod.snd (tab nm l (i + 1)) l.length) := fun P h0 T T' y z hT => by
        subst hT
        rw [htab, h0]
        exact ⟨hz.ne, (set_bx_other hz.ne).trans set_bx_same, set_bx_same, (((hz.sub.set h5 _ _).set h5 _ _).set hz.none1 _ _).set hz.none2 _ _, hz.none1, hz.none2⟩
      by_cases hlo : loneB nm x = true
      · have hl1 : APure Tryz.prog Γ 40 [.agg (exA x)] fun v => v = .bool true := hlo ▸ lone_ok nm x hnx
        repeat' (first
          | (refine ⟨Sub.refl _, ?_⟩)
          | (refine brA_split (fun h => ?_) (fun h => ?_) <;> (try rw [h]) <;> (try simp only [Bool.false_eq_true, Bool.true_eq_false, ↓reduceIte, decide_eq_true_eq, decide_eq_false_iff_not, Bool.not_eq_true', Bool.not_eq_false'] at h) <;> (conv => whnf))
          | (refine getB_of set_bx_same ?_; conv => whnf)
          | (refine ACalls.pure' ?_ (hl1); rintro _ rfl; conv => whnf)
          | (refine DCall.pure ?_ (hl1); conv => whnf)
          | (refine getB_same ?_; conv => whnf)
          | (refine AWp.any (by kernel_rfl) (by kernel_rfl) (by kernel_rfl) ?_; conv => whnf)
          | (apply And.intro; (focus (first | omega | rfl | decide | exact Nat.le_of_ble_eq_true rfl | ((repeat' (first | exact all_nil | refine all_cons ?_ ?_ | rfl | fail)); done) | (simp [-List.length_flatMap]; done) | (simp [-List.length_flatMap]; omega) | fail)); conv => whnf)
          | fail)
        refine getB_of (g1 _ _ _) ?_
        refine ⟨rfl, rfl, by show 0 + ((i : Nat) : Int).toNat * 1 + 1 ≤ _; rw [ln]; omega, frcL_at (st Prod.fst (1, 1) _ _ _ rfl (by show 0 + ((i : Nat) : Int).toNat * 1 = i; omega) (by show 0 + ((i : Nat) : Int).toNat * 1 + 1 = i + 1; omega)) ?_⟩
        conv => whnf
        repeat' (first
          | (refine ⟨Sub.refl _, ?_⟩)
          | (refine brA_split (fun h => ?_) (fun h => ?_) <;> (try rw [h]) <;> (try simp only [Bool.false_eq_true, Bool.true_eq_false, ↓reduceIte, decide_eq_true_eq, decide_eq_false_iff_not, Bool.not_eq_true', Bool.not_eq_false'] at h) <;> (conv => whnf))
          | (refine getB_same ?_; conv => whnf)
          | (refine AWp.any (by kernel_rfl) (by kernel_rfl) (by kernel_rfl) ?_; conv => whnf)
          | (apply And.intro; (focus (first | omega | rfl | decide | exact Nat.le_of_ble_eq_true rfl | ((repeat' (first | exact all_nil | refine all_cons ?_ ?_ | rfl | fail)); done) | (simp [-List.length_flatMap]; done) | (simp [-List.length_flatMap]; omega) | fail)); conv => whnf)
          | fail)
        refine getB_of ((set_bx_other (fun h => hz.ne h.symm)).trans (g2 _ _ _)) ?_
        refine ⟨rfl, rfl, by show 0 + ((i : Nat) : Int).toNat * 1 + 1 ≤ _; rw [ln]; omega, frcL_at (st Prod.snd (1, 1) _ _ _ rfl (by show 0 + ((i : Nat) : Int).toNat * 1 = i; omega) (by show 0 + ((i : Nat) : Int).toNat * 1 + 1 = i + 1; omega)) ?_⟩
        conv => whnf
        repeat' (first
          | (refine ⟨Sub.refl _, ?_⟩)
          | (refine brA_split (fun h => ?_) (fun h => ?_) <;> (try rw [h]) <;> (try simp only [Bool.false_eq_true, Bool.true_eq_false, ↓reduceIte, decide_eq_true_eq, decide_eq_false_iff_not, Bool.not_eq_true', Bool.not_eq_false'] at h) <;> (conv => whnf))
          | (refine getB_same ?_; conv => whnf)
          | (refine AWp.any (by kernel_rfl) (by kernel_rfl) (by kernel_rfl) ?_; conv => whnf)
          | (apply And.intro; (focus (first | omega | rfl | decide | exact Nat.le_of_ble_eq_true rfl | ((repeat' (first | exact all_nil | refine all_cons ?_ ?_ | rfl | fail)); done) | (simp [-List.length_flatMap]; done) | (simp [-List.length_flatMap]; omega) | fail)); conv => whnf)
          | fail)
        exact ⟨i + 1, by (repeat' (first | refine cons_eq ?_ ?_ | refine int64_of ?_ ?_ ?_ | rfl | omega)), by (repeat (first | exact Same.refl _ _ | refine Same.upd rfl ?_ | refine Same.updL rfl ?_ | refine Same.havoc rfl ?_)), ⟨by omega, put (1, 1) (by unfold nodeOf; rw [if_pos hlo]) _ _ _ _ rfl⟩, by omega⟩
      have hlo' : loneB nm x = false := by simpa using hlo
      have hl0 : APure Tryz.prog Γ 40 [.agg (exA x)] fun v => v = .bool false := hlo' ▸ lone_ok nm x hnx
      have hev := eq_vl x.2.2.2.2.1 noVl
      simp only [noVl] at hev
      by_cases hi0 : i = 0
      · repeat' (first
          | (exfalso; first | omega | exact (by assumption : ¬ True) trivial | fail)
          | (refine ⟨Sub.refl _, ?_⟩)
          | (refine brA_split (fun h => ?_) (fun h => ?_) <;> (try rw [h]) <;> (try simp only [Bool.false_eq_true, Bool.true_eq_false, ↓reduceIte, decide_eq_true_eq, decide_eq_false_iff_not, Bool.not_eq_true', Bool.not_eq_false'] at h) <;> (conv => whnf))
          | (refine getB_of set_bx_same ?_; conv => whnf)
          | (refine ACalls.pure' ?_ (hl0); rintro _ rfl; conv => whnf)
          | (refine DCall.pure ?_ (hl0); conv => whnf)
          | (refine EqAgg.of grdVl planVl ?_; conv => whnf)
          | (refine getB_same ?_; conv => whnf)
          | (refine AWp.any (by kernel_rfl) (by kernel_rfl) (by kernel_rfl) ?_; conv => whnf)
          | (apply And.intro; (focus (first | omega | rfl | decide | exact Nat.le_of_ble_eq_true rfl | ((repeat' (first | exact all_nil | refine all_cons ?_ ?_ | rfl | fail)); done) | (simp [-List.length_flatMap]; done) | (simp [-List.length_flatMap]; omega) | fail)); conv => whnf)
          | fail)
        all_goals exact ⟨i + 1, by (repeat' (first | refine cons_eq ?_ ?_ | refine int64_of ?_ ?_ ?_ | rfl | omega)), by (repeat (first | exact Same.refl _ _ | refine Same.upd rfl ?_ | refine Same.updL rfl ?_ | refine Same.havoc rfl ?_)), ⟨by omega, zero (by unfold nodeOf; rw [if_neg hlo, if_pos (by simp [hi0])]) _ _ _⟩, by omega⟩
      obtain ⟨p, hp⟩ : ∃ p, r.getD (i - 1) (0, 0) = p := ⟨_, rfl⟩
      have hpb := hbd (i - 1) (by omega)
      rw [hp] at hpb
      obtain ⟨a, ha⟩ : ∃ a : Int, a = (i : Int) - 1 - p.1 := ⟨_, rfl⟩
      obtain ⟨q, hq⟩ : ∃ q, r.getD a.toNat (0, 0) = q := ⟨_, rfl⟩
      have hqb := fun h : 0 ≤ a => hbd a.toNat (by omega)
      rw [hq] at hqb
      have hnode : nodeOf nm x i r = if loneB nm x = true then (1, 1) else if x.1 < 4 ∨ 16 < x.1 ∨ x.2.2.2.1 ≠ [] ∨ x.2.2.2.2.1 ≠ noVl ∨ i = 0 ∨ p.1 = 0 then (0, 0) else if x.1 ≤ 5 then (if x.2.1 = (i : Int) - 1 ∧ x.2.2.1 = 0 then (p.1 + 1, p.2 + 1) else (0, 0)) else if x.2.2.1 = (i : Int) - 1 ∧ x.2.1 = a ∧ 0 ≤ a ∧ 0 < q.1 then (q.1 + p.1 + 1, max q.2 p.2 + 1) else (0, 0) := by
        unfold nodeOf; rw [hp, ← ha, hq]
      have hw1 : IntKind.i64.wrap ((i : Int) - 1) = ((i - 1 : Nat) : Int) := i64_of (by omega) (by omega) (by omega)
      have hwa : IntKind.i64.wrap (((i - 1 : Nat) : Int) - p.1) = a := i64_of (by omega) (by omega) (by omega)
      have ld1 : ∀ m, m = i - 1 → (col Prod.fst r l.length).drop m = .int .i64 p.1 :: (col Prod.fst r l.length).drop (i - 1 + 1) := fun m hm => hp ▸ col_get rfl (by omega) (by omega) hm
      have ld2 : ∀ m, m = i - 1 → (col Prod.snd r l.length).drop m = .int .i64 p.2 :: (col Prod.snd r l.length).drop (i - 1 + 1) := fun m hm => hp ▸ col_get rfl (by omega) (by omega) hm
      have la1 : 0 ≤ a → ∀ m, m = a.toNat → (col Prod.fst r l.length).drop m = .int .i64 q.1 :: (col Prod.fst r l.length).drop (a.toNat + 1) := fun h m hm => hq ▸ col_get rfl (by omega) (by omega) hm
      have la2 : 0 ≤ a → ∀ m, m = a.toNat → (col Prod.snd r l.length).drop m = .int .i64 q.2 :: (col Prod.snd r l.length).drop (a.toNat + 1) := fun h m hm => hq ▸ col_get rfl (by omega) (by omega) hm
      repeat' (first
        | (exfalso; first | omega | exact (by assumption : ¬ True) trivial | fail)
        | (refine ⟨Sub.refl _, ?_⟩)
        | (refine brA_split (fun h => ?_) (fun h => ?_) <;> (try rw [h]) <;> (try simp only [Bool.false_eq_true, Bool.true_eq_false, ↓reduceIte, decide_eq_true_eq, decide_eq_false_iff_not, Bool.not_eq_true', Bool.not_eq_false'] at h) <;> (conv => whnf))
        | (refine getB_of set_bx_same ?_; conv => whnf)
        | (refine ACalls.pure' ?_ (hl0); rintro _ rfl; conv => whnf)
        | (refine DCall.pure ?_ (hl0); conv => whnf)
        | (refine EqAgg.of grdVl planVl ?_; conv => whnf)
        | (rw [hw1]; conv => whnf)
        | (refine getB_of (g1 _ _ _) (aload_eq (ld1 _ (by show 0 + ((i - 1 : Nat) : Int).toNat * 1 = i - 1; omega)) ?_); conv => whnf)
        | (refine getB_of (g2 _ _ _) (aload_eq (ld2 _ (by show 0 + ((i - 1 : Nat) : Int).toNat * 1 = i - 1; omega)) ?_); conv => whnf)
        | (rw [hwa]; conv => whnf)
        | (refine getB_of (g1 _ _ _) (aload_eq (la1 (by omega) _ (by show 0 + a.toNat * 1 = a.toNat; omega)) ?_); conv => whnf)
        | (refine getB_of (g2 _ _ _) (aload_eq (la2 (by omega) _ (by show 0 + a.toNat * 1 = a.toNat; omega)) ?_); conv => whnf)
        | (refine getB_same ?_; conv => whnf)
        | (refine AWp.any (by kernel_rfl) (by kernel_rfl) (by kernel_rfl) ?_; conv => whnf)
        | (apply And.intro; (focus (first | omega | rfl | decide | exact Nat.le_of_ble_eq_true rfl | ((repeat' (first | exact all_nil | refine all_cons ?_ ?_ | rfl | fail)); done) | (simp [-List.length_flatMap]; done) | (simp [-List.length_flatMap]; omega) | fail)); conv => whnf)
        | fail)
      all_goals try exact ⟨i + 1, by (repeat' (first | refine cons_eq ?_ ?_ | refine int64_of ?_ ?_ ?_ | rfl | omega)), by (repeat (first | exact Same.refl _ _ | refine Same.upd rfl ?_ | refine Same.updL rfl ?_ | refine Same.havoc rfl ?_)), ⟨by omega, zero (by rw [hnode]; clear hn hz hc g1 g2 st ln zero put ld1 ld2 la1 la2; grind [noVl]) _ _ _⟩, by omega⟩
      · refine getB_of (g1 _ _ _) ?_
        refine ⟨rfl, rfl, by show 0 + ((i : Nat) : Int).toNat * 1 + 1 ≤ _; rw [ln]; omega, frcL_at (st Prod.fst (p.1 + 1, p.2 + 1) _ _ _ (i64_of rfl (by simp only []; omega) (by simp only []; omega)) (by show 0 + ((i : Nat) : Int).toNat * 1 = i; omega) (by show 0 + ((i : Nat) : Int).toNat * 1 + 1 = i + 1; omega)) ?_⟩
        conv => whnf
        repeat' (first
          | (refine ⟨Sub.refl _, ?_⟩)
          | (refine brA_split (fun h => ?_) (fun h => ?_) <;> (try rw [h]) <;> (try simp only [Bool.false_eq_true, Bool.true_eq_false, ↓reduceIte, decide_eq_true_eq, decide_eq_false_iff_not, Bool.not_eq_true', Bool.not_eq_false'] at h) <;> (conv => whnf))
          | (refine getB_same ?_; conv => whnf)
          | (refine AWp.any (by kernel_rfl) (by kernel_rfl) (by kernel_rfl) ?_; conv => whnf)
          | (apply And.intro; (focus (first | omega | rfl | decide | exact Nat.le_of_ble_eq_true rfl | ((repeat' (first | exact all_nil | refine all_cons ?_ ?_ | rfl | fail)); done) | (simp [-List.length_flatMap]; done) | (simp [-List.length_flatMap]; omega) | fail)); conv => whnf)
          | fail)
        refine getB_of ((set_bx_other (fun h => hz.ne h.symm)).trans (g2 _ _ _)) ?_
        refine ⟨rfl, rfl, by show 0 + ((i : Nat) : Int).toNat * 1 + 1 ≤ _; rw [ln]; omega, frcL_at (st Prod.snd (p.1 + 1, p.2 + 1) _ _ _ (i64_of rfl (by simp only []; omega) (by simp only []; omega)) (by show 0 + ((i : Nat) : Int).toNat * 1 = i; omega) (by show 0 + ((i : Nat) : Int).toNat * 1 + 1 = i + 1; omega)) ?_⟩
        conv => whnf
        repeat' (first
          | (refine ⟨Sub.refl _, ?_⟩)
          | (refine brA_split (fun h => ?_) (fun h => ?_) <;> (try rw [h]) <;> (try simp only [Bool.false_eq_true, Bool.true_eq_false, ↓reduceIte, decide_eq_true_eq, decide_eq_false_iff_not, Bool.not_eq_true', Bool.not_eq_false'] at h) <;> (conv => whnf))
          | (refine getB_same ?_; conv => whnf)
          | (refine AWp.any (by kernel_rfl) (by kernel_rfl) (by kernel_rfl) ?_; conv => whnf)
          | (apply And.intro; (focus (first | omega | rfl | decide | exact Nat.le_of_ble_eq_true rfl | ((repeat' (first | exact all_nil | refine all_cons ?_ ?_ | rfl | fail)); done) | (simp [-List.length_flatMap]; done) | (simp [-List.length_flatMap]; omega) | fail)); conv => whnf)
          | fail)
        exact ⟨i + 1, by (repeat' (first | refine cons_eq ?_ ?_ | refine int64_of ?_ ?_ ?_ | rfl | omega)), by (repeat (first | exact Same.refl _ _ | refine Same.upd rfl ?_ | refine Same.updL rfl ?_ | refine Same.havoc rfl ?_)), ⟨by omega, put (p.1 + 1, p.2 + 1) (by rw [hnode]; clear hn hz hc g1 g2 st ln zero put ld1 ld2 la1 la2; grind [noVl]) _ _ _ _ rfl⟩, by omega⟩
      · refine getB_of (g1 _ _ _) ?_
        refine ⟨rfl, rfl, by show 0 + ((i : Nat) : Int).toNat * 1 + 1 ≤ _; rw [ln]; omega, frcL_at (st Prod.fst (q.1 + p.1 + 1, max q.2 p.2 + 1) _ _ _ (by rw [i64_of (b := q.1 + p.1) rfl (by omega) (by omega)]; exact i64_of rfl (by simp only []; omega) (by simp only []; omega)) (by show 0 + ((i : Nat) : Int).toNat * 1 = i; omega) (by show 0 + ((i : Nat) : Int).toNat * 1 + 1 = i + 1; omega)) ?_⟩
        conv => whnf
        repeat' (first
          | (refine ⟨Sub.refl _, ?_⟩)
          | (refine brA_split (fun h => ?_) (fun h => ?_) <;> (try rw [h]) <;> (try simp only [Bool.false_eq_true, Bool.true_eq_false, ↓reduceIte, decide_eq_true_eq, decide_eq_false_iff_not, Bool.not_eq_true', Bool.not_eq_false'] at h) <;> (conv => whnf))
          | (refine getB_same ?_; conv => whnf)
          | (refine AWp.any (by kernel_rfl) (by kernel_rfl) (by kernel_rfl) ?_; conv => whnf)
          | (apply And.intro; (focus (first | omega | rfl | decide | exact Nat.le_of_ble_eq_true rfl | ((repeat' (first | exact all_nil | refine all_cons ?_ ?_ | rfl | fail)); done) | (simp [-List.length_flatMap]; done) | (simp [-List.length_flatMap]; omega) | fail)); conv => whnf)
          | fail)
        refine getB_of ((set_bx_other (fun h => hz.ne h.symm)).trans (g2 _ _ _)) ?_
        refine ⟨rfl, rfl, by show 0 + ((i : Nat) : Int).toNat * 1 + 1 ≤ _; rw [ln]; omega, frcL_at (st Prod.snd (q.1 + p.1 + 1, max q.2 p.2 + 1) _ _ _ (i64_of (by show (if p.2 > q.2 then p.2 else q.2) + 1 = max q.2 p.2 + 1; split <;> omega) (by simp only []; omega) (by simp only []; omega)) (by show 0 + ((i : Nat) : Int).toNat * 1 = i; omega) (by show 0 + ((i : Nat) : Int).toNat * 1 + 1 = i + 1; omega)) ?_⟩
        conv => whnf
        repeat' (first
          | (refine ⟨Sub.refl _, ?_⟩)
          | (refine brA_split (fun h => ?_) (fun h => ?_) <;> (try rw [h]) <;> (try simp only [Bool.false_eq_true, Bool.true_eq_false, ↓reduceIte, decide_eq_true_eq, decide_eq_false_iff_not, Bool.not_eq_true', Bool.not_eq_false'] at h) <;> (conv => whnf))
          | (refine getB_same ?_; conv => whnf)
          | (refine AWp.any (by kernel_rfl) (by kernel_rfl) (by kernel_rfl) ?_; conv => whnf)
          | (apply And.intro; (focus (first | omega | rfl | decide | exact Nat.le_of_ble_eq_true rfl | ((repeat' (first | exact all_nil | refine all_cons ?_ ?_ | rfl | fail)); done) | (simp [-List.length_flatMap]; done) | (simp [-List.length_flatMap]; omega) | fail)); conv => whnf)
          | fail)
        exact ⟨i + 1, by (repeat' (first | refine cons_eq ?_ ?_ | refine int64_of ?_ ?_ ?_ | rfl | omega)), by (repeat (first | exact Same.refl _ _ | refine Same.upd rfl ?_ | refine Same.updL rfl ?_ | refine Same.havoc rfl ?_)), ⟨by omega, put (q.1 + p.1 + 1, max q.2 p.2 + 1) (by rw [hnode]; clear hn hz hc g1 g2 st ln zero put ld1 ld2 la1 la2; grind [noVl]) _ _ _ _ rfl⟩, by omega⟩
    · have h0 : i = l.length := by omega
      subst h0
      repeat' (first
        | (exfalso; first | omega | exact (by assumption : ¬ True) trivial | fail)
        | (refine ⟨Sub.refl _, ?_⟩)
        | (refine brA_split (fun h => ?_) (fun h => ?_) <;> (try rw [h]) <;> (try simp only [Bool.false_eq_true, Bool.true_eq_false, ↓reduceIte, decide_eq_true_eq, decide_eq_false_iff_not, Bool.not_eq_true', Bool.not_eq_false'] at h) <;> (conv => whnf))
        | (refine getB_same ?_; conv => whnf)
        | (refine AWp.any (by kernel_rfl) (by kernel_rfl) (by kernel_rfl) ?_; conv => whnf)
        | (apply And.intro; (focus (first | omega | rfl | decide | exact Nat.le_of_ble_eq_true rfl | ((repeat' (first | exact all_nil | refine all_cons ?_ ?_ | rfl | fail)); done) | (simp [-List.length_flatMap]; done) | (simp [-List.length_flatMap]; omega) | fail)); conv => whnf)
        | fail)
      have e : ((l.map exA).length : Int).toNat = l.length := by rw [Int.toNat_natCast, hml]
      exact ⟨s1, Sub.refl _, b1, b2, by rw [e]; rfl, hz⟩
end Go.Proofs.YtdhgappjicpglaaGreatDoor.Tr
namespace Go.Proofs.YtdhgappjicpglaaGreatDoor.Tr
open Go Go.Ab Go.RowKit
variable {Γ : Nat → AV}
attribute [local irreducible] APure Sto.set Sto.grow
set_option maxRecDepth 10000
set_option maxHeartbeats 1000000
theorem getD_pre {α : Type} {r q : List α} {d : α} {j : Nat} (h : j < r.length) : (r ++ q).getD j d = r.getD j d := by
  simp [List.getD, List.getElem?_append_left h]
theorem tab_get (nm : List UInt8 → Bool) (l : List Ex) {j m : Nat} : ∀ n : Nat, j < m → m ≤ n → (tab nm l n).getD j (0, 0) = (tab nm l m).getD j (0, 0)
  | 0 => fun h k => by omega
  | n + 1 => fun h k => by
    by_cases he : m = n + 1
    · rw [he]
    · rw [tab, getD_pre (by rw [tab_len]; omega)]
      exact tab_get nm l n h (by omega)
/-- Of how many nodes the expression of node i is, and how deep. -/
def nd (nm : List UInt8 → Bool) (l : List Ex) (i : Nat) : Int × Int := (tab nm l l.length).getD i (0, 0)
theorem nd_bound (nm : List UInt8 → Bool) (l : List Ex) {i : Nat} (h : i < l.length) : 0 ≤ (nd nm l i).1 ∧ (nd nm l i).1 ≤ i + 1 ∧ 0 ≤ (nd nm l i).2 ∧ (nd nm l i).2 ≤ i + 1 := tab_bound nm l l.length i h
theorem nd_eq {nm : List UInt8 → Bool} {l : List Ex} {i : Nat} {x : Ex} {p q : Int × Int} {a : Int} (hi : i < l.length) (hx : l.getD i noEx = x) (hp : nd nm l (i - 1) = p) (ha : a = (i : Int) - 1 - p.1) (hq : nd nm l a.toNat = q) :
    nd nm l i = if loneB nm x = true then (1, 1) else if x.1 < 4 ∨ 16 < x.1 ∨ x.2.2.2.1 ≠ [] ∨ x.2.2.2.2.1 ≠ noVl ∨ i = 0 ∨ p.1 = 0 then (0, 0) else if x.1 ≤ 5 then (if x.2.1 = (i : Int) - 1 ∧ x.2.2.1 = 0 then (p.1 + 1, p.2 + 1) else (0, 0)) else if x.2.2.1 = (i : Int) - 1 ∧ x.2.1 = a ∧ 0 ≤ a ∧ 0 < q.1 then (q.1 + p.1 + 1, max q.2 p.2 + 1) else (0, 0) := by
  have h1 : nd nm l i = nodeOf nm x i (tab nm l i) := by
    unfold nd
    rw [tab_get nm l (m := i + 1) l.length (by omega) (by omega), tab]
    have : i = (tab nm l i).length := (tab_len nm l i).symm
    rw [← hx]
    conv => lhs; arg 2; rw [this]
    rw [getD_last]
  rw [h1]
  unfold nodeOf
  by_cases h0 : i = 0
  · subst h0
    by_cases hlo : loneB nm x = true
    · rw [if_pos hlo, if_pos hlo]
    · rw [if_neg hlo, if_neg hlo, if_pos (by simp), if_pos (by simp)]
  have hp' : (tab nm l i).getD (i - 1) (0, 0) = p := by rw [← hp]; exact (tab_get nm l l.length (by omega) (by omega)).symm
  rw [hp', ← ha]
  have hb := nd_bound nm l (i := i - 1) (by omega)
  rw [hp] at hb
  have hq' : (tab nm l i).getD a.toNat (0, 0) = q := by rw [← hq]; exact (tab_get nm l l.length (by omega) (by omega)).symm
  rw [hq']
end Go.Proofs.YtdhgappjicpglaaGreatDoor.Tr
namespace Go.Proofs.YtdhgappjicpglaaGreatDoor.Va
open Go Go.Ab Go.RowKit
abbrev Vl := Int × Int × List UInt8 × Bool
def vlA (v : Vl) : List AV := [.int .i64 v.1, .int .i64 v.2.1, .str v.2.2.1, .bool v.2.2.2]
def noVl : Vl := (0, 0, [], false)
def right (v : Vl) : Bool :=
  if v.1 = 1 then decide (v.2.2.1 = []) && !v.2.2.2
  else if v.1 = 2 then decide (v.2.1 = 0) && !v.2.2.2 && decide (v.2.2.1.length ≤ 4096)
  else decide (v.1 = 3) && decide (v.2.1 = 0) && decide (v.2.2.1 = [])
theorem bool_eq {a b : Bool} (h : a = b) : AV.bool a = .bool b := by rw [h]
theorem map_get {α : Type} {f : α → List AV} {l : List α} (d : α) {i : Nat} (h : i < l.length) : (l.map f).getD i [] = f (l.getD i d) := by
  simp [List.getD, h]
theorem getD_mem {α : Type} {l : List α} (d : α) {i : Nat} (h : i < l.length) : l.getD i d ∈ l := by
  simp [List.getD, h]
theorem eq_vl (x y : Vl) : (decide (x.1 = y.1) && (decide (x.2.1 = y.2.1) && (decide (x.2.2.1 = y.2.2.1) && ((x.2.2.2 == y.2.2.2) && true)))) = decide (x = y) := by
  rw [Bool.eq_iff_iff]; simp [Prod.ext_iff]
end Go.Proofs.YtdhgappjicpglaaGreatDoor.Va
namespace Go.Proofs.YtdhgappjicpglaaGreatDoor.Va
open Go Go.Ab Go.RowKit
variable {Γ : Nat → AV}
attribute [local irreducible] APure Sto.set Sto.grow
set_option maxRecDepth 10000
theorem grdVl : (!Tryz.prog.eqGuardType Tryz.prog.depth 49) = true := by kernel_rfl
theorem planVl : planT Tryz.prog 9999 49 = some [(0, 0), (1, 0), (2, 1), (3, 2)] := by kernel_rfl
theorem int_ok (n : Int) : APure Tryz.prog Γ 58 [.int .i64 n] fun v => v = .agg (vlA (1, n, [], false)) := by
  refine APure.of_awp Tryz.func58 rfl (Nat.le_of_ble_eq_true (by kernel_rfl)) (by kernel_rfl) ?_
  intro s
  conv => whnf
  intro b hb
  conv => whnf
  repeat' (first
    | (refine ⟨Sub.refl _, ?_⟩)
    | (refine brA_split (fun h => ?_) (fun h => ?_) <;> (try rw [h]) <;> (try simp only [Bool.false_eq_true, Bool.true_eq_false, ↓reduceIte, decide_eq_true_eq, decide_eq_false_iff_not, Bool.not_eq_true', Bool.not_eq_false'] at h) <;> (conv => whnf))
    | (refine getB_of set_bx_same ?_; conv => whnf)
    | (refine getB_same ?_; conv => whnf)
    | (refine AWp.any (by kernel_rfl) (by kernel_rfl) (by kernel_rfl) ?_; conv => whnf)
    | (apply And.intro; (focus (first | omega | rfl | decide | exact Nat.le_of_ble_eq_true rfl | ((repeat' (first | exact all_nil | refine all_cons ?_ ?_ | rfl | fail)); done) | (simp [-List.length_flatMap]; done) | (simp [-List.length_flatMap]; omega) | fail)); conv => whnf)
    | fail)
  exact ⟨((Sub.refl _).set hb _ _).set hb _ _, rfl⟩
theorem str_ok (s : List UInt8) : APure Tryz.prog Γ 59 [.str s] fun v => v = .agg (vlA (2, 0, s, false)) := by
  refine APure.of_awp Tryz.func59 rfl (Nat.le_of_ble_eq_true (by kernel_rfl)) (by kernel_rfl) ?_
  intro s
  conv => whnf
  intro b hb
  conv => whnf
  repeat' (first
    | (refine ⟨Sub.refl _, ?_⟩)
    | (refine brA_split (fun h => ?_) (fun h => ?_) <;> (try rw [h]) <;> (try simp only [Bool.false_eq_true, Bool.true_eq_false, ↓reduceIte, decide_eq_true_eq, decide_eq_false_iff_not, Bool.not_eq_true', Bool.not_eq_false'] at h) <;> (conv => whnf))
    | (refine getB_of set_bx_same ?_; conv => whnf)
    | (refine getB_same ?_; conv => whnf)
    | (refine AWp.any (by kernel_rfl) (by kernel_rfl) (by kernel_rfl) ?_; conv => whnf)
    | (apply And.intro; (focus (first | omega | rfl | decide | exact Nat.le_of_ble_eq_true rfl | ((repeat' (first | exact all_nil | refine all_cons ?_ ?_ | rfl | fail)); done) | (simp [-List.length_flatMap]; done) | (simp [-List.length_flatMap]; omega) | fail)); conv => whnf)
    | fail)
  exact ⟨((Sub.refl _).set hb _ _).set hb _ _, rfl⟩
theorem bool_ok (t : Bool) : APure Tryz.prog Γ 60 [.bool t] fun v => v = .agg (vlA (3, 0, [], t)) := by
  refine APure.of_awp Tryz.func60 rfl (Nat.le_of_ble_eq_true (by kernel_rfl)) (by kernel_rfl) ?_
  intro s
  conv => whnf
  intro b hb
  conv => whnf
  repeat' (first
    | (refine ⟨Sub.refl _, ?_⟩)
    | (refine brA_split (fun h => ?_) (fun h => ?_) <;> (try rw [h]) <;> (try simp only [Bool.false_eq_true, Bool.true_eq_false, ↓reduceIte, decide_eq_true_eq, decide_eq_false_iff_not, Bool.not_eq_true', Bool.not_eq_false'] at h) <;> (conv => whnf))
    | (refine getB_of set_bx_same ?_; conv => whnf)
    | (refine getB_same ?_; conv => whnf)
    | (refine AWp.any (by kernel_rfl) (by kernel_rfl) (by kernel_rfl) ?_; conv => whnf)
    | (apply And.intro; (focus (first | omega | rfl | decide | exact Nat.le_of_ble_eq_true rfl | ((repeat' (first | exact all_nil | refine all_cons ?_ ?_ | rfl | fail)); done) | (simp [-List.length_flatMap]; done) | (simp [-List.length_flatMap]; omega) | fail)); conv => whnf)
    | fail)
  exact ⟨((Sub.refl _).set hb _ _).set hb _ _, rfl⟩
theorem right_ok (v : Vl) : APure Tryz.prog Γ 41 [.agg (vlA v)] fun x => x = .bool (right v) := by
  obtain ⟨k, n, s, t⟩ := v
  refine APure.of_awp Tryz.func41 rfl (Nat.le_of_ble_eq_true (by kernel_rfl)) (by kernel_rfl) ?_
  intro s
  conv => whnf
  intro b hb
  conv => whnf
  repeat' (first
    | (refine ⟨Sub.refl _, ?_⟩)
    | (refine brA_split (fun h => ?_) (fun h => ?_) <;> (try rw [h]) <;> (try simp only [Bool.false_eq_true, Bool.true_eq_false, ↓reduceIte, decide_eq_true_eq, decide_eq_false_iff_not, Bool.not_eq_true', Bool.not_eq_false'] at h) <;> (conv => whnf))
    | (refine ACalls.pure' ?_ (int_ok _); rintro _ rfl; conv => whnf)
    | (refine DCall.pure ?_ (int_ok _); conv => whnf)
    | (refine ACalls.pure' ?_ (str_ok _); rintro _ rfl; conv => whnf)
    | (refine DCall.pure ?_ (str_ok _); conv => whnf)
    | (refine ACalls.pure' ?_ (bool_ok _); rintro _ rfl; conv => whnf)
    | (refine DCall.pure ?_ (bool_ok _); conv => whnf)
    | (refine EqAgg.of grdVl planVl ?_; conv => whnf)
    | (refine getB_same ?_; conv => whnf)
    | (refine AWp.any (by kernel_rfl) (by kernel_rfl) (by kernel_rfl) ?_; conv => whnf)
    | (apply And.intro; (focus (first | omega | rfl | decide | exact Nat.le_of_ble_eq_true rfl | ((repeat' (first | exact all_nil | refine all_cons ?_ ?_ | rfl | fail)); done) | (simp [-List.length_flatMap]; done) | (simp [-List.length_flatMap]; omega) | fail)); conv => whnf)
    | fail)
  all_goals refine ⟨(Sub.refl _).set hb _ _, bool_eq ?_⟩
  all_goals (try simp only [] at *)
  all_goals grind [right]
end Go.Proofs.YtdhgappjicpglaaGreatDoor.Va
namespace Go.Proofs.YtdhgappjicpglaaGreatDoor.Va
open Go Go.Ab Go.RowKit
variable {Γ : Nat → AV}
attribute [local irreducible] APure Sto.set Sto.grow
set_option maxRecDepth 10000
set_option maxHeartbeats 1000000
def tT : List UInt8 := [116, 114, 117, 101]
def tF : List UInt8 := [102, 97, 108, 115, 101]
def textOf (v : Vl) : List UInt8 := if right v = true then (if v.1 = 1 then Lib.itoa v.2.1 else if v.1 = 2 then Qu.quote v.2.2.1 else if v.2.2.2 = true then tT else tF) else []
theorem text_full (hT : Qu.Tabs Γ) (hN : Nu.Tens Γ) (v : Vl) (hv : Nu.Fits v.2.1) (hl : v.2.2.1.length ≤ 1048576) : APure Tryz.prog Γ 26 [.agg (vlA v)] fun x => x = .str (textOf v) := by
  refine APure.of_awp Tryz.func26 rfl (Nat.le_of_ble_eq_true (by kernel_rfl)) (by kernel_rfl) ?_
  intro s
  conv => whnf
  intro b hb
  conv => whnf
  repeat' (first
    | (refine ⟨Sub.refl _, ?_⟩)
    | (refine brA_split (fun h => ?_) (fun h => ?_) <;> (try rw [h]) <;> (try simp only [Bool.false_eq_true, Bool.true_eq_false, ↓reduceIte, decide_eq_true_eq, decide_eq_false_iff_not, Bool.not_eq_true', Bool.not_eq_false'] at h) <;> (conv => whnf))
    | (refine ACalls.pure' ?_ (right_ok v); rintro _ rfl; conv => whnf)
    | (refine DCall.pure ?_ (right_ok v); conv => whnf)
    | (refine ACalls.pure' ?_ (Nu.text_ok hN _ hv); rintro _ rfl; conv => whnf)
    | (refine DCall.pure ?_ (Nu.text_ok hN _ hv); conv => whnf)
    | (refine ACalls.pure' ?_ (Qu.progQuote_ok hT _ (by omega)); rintro _ rfl; conv => whnf)
    | (refine DCall.pure ?_ (Qu.progQuote_ok hT _ (by omega)); conv => whnf)
    | (refine getB_same ?_; conv => whnf)
    | (refine AWp.any (by kernel_rfl) (by kernel_rfl) (by kernel_rfl) ?_; conv => whnf)
    | (apply And.intro; (focus (first | omega | rfl | decide | exact Nat.le_of_ble_eq_true rfl | ((repeat' (first | exact all_nil | refine all_cons ?_ ?_ | rfl | fail)); done) | (simp [-List.length_flatMap]; done) | (simp [-List.length_flatMap]; omega) | fail)); conv => whnf)
    | fail)
  all_goals refine ⟨(Sub.refl _).set hb _ _, congrArg AV.str ?_⟩
  all_goals simp [textOf, *]
  all_goals rfl
end Go.Proofs.YtdhgappjicpglaaGreatDoor.Va
namespace Go.Proofs.YtdhgappjicpglaaGreatDoor.Nu
open Go Go.Ab Go.RowKit
attribute [local irreducible] APure Sto.set Sto.grow
set_option maxRecDepth 10000
set_option maxHeartbeats 1000000
theorem dec_one {u : Nat} (h : u < 10) : Lib.decDigits u = [UInt8.ofNat (48 + u)] := by rw [Lib.decDigits, dif_pos h]
end Go.Proofs.YtdhgappjicpglaaGreatDoor.Nu
namespace Go.Proofs.YtdhgappjicpglaaGreatDoor.Pr
open Go Go.Ab Go.RowKit Go.Proofs.YtdhgappjicpglaaGreatDoor.Lx Go.Proofs.YtdhgappjicpglaaGreatDoor.Pa
set_option maxRecDepth 10000
set_option maxHeartbeats 1000000
/-- In brackets, if it does not hold together as strongly as asked. -/
def wrapX (n : Nat) (t : Xt) : Xt := if t.lev < n then .par t else t
def nodeX (x : Tr.Ex) (A B : Xt) : Xt :=
  if x.1 = 1 then .con x.2.2.2.2.1
  else if x.1 = 17 then .nam x.2.2.2.1
  else if x.1 = 4 then .una 4 (wrapX 3 A)
  else if x.1 = 5 then .una 5 (if A.bare = true then .par A else wrapX 7 A)
  else .bin x.1 (wrapX (if lvl x.1 = 4 then 5 else lvl x.1) A) (wrapX (lvl x.1 + 1) B)
/-- The tree of node i. -/
def treeF (l : List Tr.Ex) : Nat → Nat → Xt
  | 0, _ => .nam []
  | f + 1, i => nodeX (l.getD i Tr.noEx) (treeF l f (l.getD i Tr.noEx).2.1.toNat) (treeF l f (l.getD i Tr.noEx).2.2.1.toNat)
def coreT (x : Tr.Ex) : Xt.Core := (x.1, x.2.1, x.2.2.1, x.2.2.2.1, x.2.2.2.2.1)
section
variable {n : Nat} {t : Xt}
theorem wrap_dep : (wrapX n t).dep = t.dep := by unfold wrapX; split <;> rfl
theorem wrap_cores {k : Nat} : (wrapX n t).cores k = t.cores k := by unfold wrapX; split <;> rfl
theorem wrap_cnt : (wrapX n t).cnt = t.cnt := by unfold wrapX; split <;> rfl
theorem wrap_ok (h : t.Ok) : (wrapX n t).Ok := by unfold wrapX; split <;> exact h
theorem wrap_lexed (h : t.Lexed) : (wrapX n t).Lexed := by unfold wrapX; split <;> exact h
theorem wrap_lev (h : n ≤ 8) : n ≤ (wrapX n t).lev := by
  unfold wrapX; split
  · exact h
  · omega
theorem wrap_opn : (wrapX n t).opn ≤ t.opn + 1 := by
  unfold wrapX; split
  · exact Nat.le_refl _
  · omega
theorem wrap_bare (h : t.bare = false) : (wrapX n t).bare = false := by
  unfold wrapX; split
  · rfl
  · exact h
theorem wrap_len : (wrapX n t).txt.length ≤ t.txt.length + 2 := by
  unfold wrapX; split
  · show (40 :: (t.txt ++ [41])).length ≤ _
    simp
  · omega
end
/-- A value that may be. -/
theorem rightV_ok' {v : Tr.Vl} (h : Tr.rightV v = true) (hf : Nu.Fits v.2.1) : Xt.ValOk v ∧ v.2.2.1.length ≤ 4096 ∧ valS v = Va.textOf v := by
  have hr : Va.right v = true := h
  have e : Va.textOf v = valS v := by
    unfold Va.textOf; rw [if_pos hr]; rfl
  refine ⟨?_, ?_, e.symm⟩
  · unfold Tr.rightV at h
    unfold Nu.Fits at hf
    obtain ⟨k, n, s, t⟩ := v
    unfold Xt.ValOk
    grind
  · unfold Tr.rightV at h
    obtain ⟨k, n, s, t⟩ := v
    grind
theorem valS_len {v : Tr.Vl} (h : Tr.rightV v = true) (hf : Nu.Fits v.2.1) {m : Nat} (hm : v.2.2.1.length ≤ m) : (valS v).length ≤ 4 * m + 30 := by
  unfold valS
  split
  · have := Lib.itoa_length_le v.2.1 hf.1 hf.2
    omega
  · split
    · have := Qu.quote_len v.2.2.1
      omega
    · split
      · show 4 ≤ _; omega
      · show 5 ≤ _; omega
theorem name_lexed {s : List UInt8} (h : Sc.isName s = true) : s ≠ [95] ∧ s.length ≤ 32 ∧ s.all (fun c => Sc.wordc c.toNat) = true ∧ s ≠ [] ∧ lettersF s = .ok (1, s) := by
  unfold Sc.isName at h
  simp only [Bool.and_eq_true, Bool.not_eq_true', decide_eq_false_iff_not] at h
  obtain ⟨⟨h1, h2⟩, h3⟩ := h
  unfold Sc.spelt at h1
  simp only [Bool.and_eq_true, decide_eq_true_eq, Bool.not_eq_true'] at h1
  obtain ⟨⟨⟨h4, h5⟩, h6⟩, h7⟩ := h1
  refine ⟨h3, h5, h7, fun e => by rw [e] at h4; exact absurd h4 (by decide), ?_⟩
  unfold lettersF
  have hd : digB (byteAt s 0) = false := by
    unfold digB digitc
    rw [Bool.and_eq_false_iff] at h6 ⊢
    simp only [decide_eq_false_iff_not] at h6 ⊢
    omega
  rw [if_neg (by rw [hd]; decide), if_neg (by omega), if_neg (by rw [h2]; decide)]
abbrev ndN (l : List Tr.Ex) (i : Nat) : Int × Int := Tr.nd Sc.isName l i
theorem ndN_bound {l : List Tr.Ex} {i : Nat} (h : i < l.length) : 0 ≤ (ndN l i).1 ∧ (ndN l i).1 ≤ i + 1 ∧ 0 ≤ (ndN l i).2 ∧ (ndN l i).2 ≤ i + 1 := Tr.nd_bound Sc.isName l h
/-- What a node may be. -/
theorem kinds {l : List Tr.Ex} {i : Nat} (hi : i < l.length) (hpos : 0 < (ndN l i).1) :
    (∃ v ln cl, l.getD i Tr.noEx = (1, 0, 0, [], v, ln, cl) ∧ Tr.rightV v = true ∧ ndN l i = (1, 1)) ∨
    (∃ s ln cl, l.getD i Tr.noEx = (17, 0, 0, s, Tr.noVl, ln, cl) ∧ Sc.isName s = true ∧ ndN l i = (1, 1)) ∨
    (∃ op ln cl, (op = 4 ∨ op = 5) ∧ l.getD i Tr.noEx = (op, ((i - 1 : Nat) : Int), 0, [], Tr.noVl, ln, cl) ∧ 1 ≤ i ∧ 0 < (ndN l (i - 1)).1 ∧ ndN l i = ((ndN l (i - 1)).1 + 1, (ndN l (i - 1)).2 + 1)) ∨
    (∃ op, ∃ j : Nat, ∃ ln cl, (6 ≤ op ∧ op ≤ 16) ∧ l.getD i Tr.noEx = (op, (j : Int), ((i - 1 : Nat) : Int), [], Tr.noVl, ln, cl) ∧ j < i ∧ 0 < (ndN l (i - 1)).1 ∧ 0 < (ndN l j).1 ∧ (j : Int) = (i : Int) - 1 - (ndN l (i - 1)).1 ∧ ndN l i = ((ndN l j).1 + (ndN l (i - 1)).1 + 1, max (ndN l j).2 (ndN l (i - 1)).2 + 1)) := by
  obtain ⟨x, hx⟩ : ∃ x, l.getD i Tr.noEx = x := ⟨_, rfl⟩
  obtain ⟨p, hp⟩ : ∃ p, ndN l (i - 1) = p := ⟨_, rfl⟩
  obtain ⟨a, ha⟩ : ∃ a : Int, a = (i : Int) - 1 - p.1 := ⟨_, rfl⟩
  obtain ⟨q, hq⟩ : ∃ q, ndN l a.toNat = q := ⟨_, rfl⟩
  have hnode := Tr.nd_eq (nm := Sc.isName) hi hx hp ha hq
  have hpb := ndN_bound (l := l) (i := i - 1) (by omega)
  rw [hp] at hpb
  have hnode : ndN l i = _ := hnode
  rw [hnode] at hpos ⊢
  rw [hx, hp]
  obtain ⟨xo, xa, xb, xn, xv, xl, xc⟩ := x
  simp only at hpos ⊢
  by_cases h1 : Tr.loneB Sc.isName (xo, xa, xb, xn, xv, xl, xc) = true
  · rw [if_pos h1]
    unfold Tr.loneB at h1
    simp only at h1
    split at h1
    · cases h1
    · rename_i h0
      have ha0 : xa = 0 := by omega
      have hb0 : xb = 0 := by omega
      split at h1
      · rename_i h2
        rw [Bool.and_eq_true, decide_eq_true_eq] at h1
        exact .inl ⟨xv, xl, xc, by rw [h2, ha0, hb0, h1.1], h1.2, rfl⟩
      · rw [Bool.and_eq_true, decide_eq_true_eq, Bool.and_eq_true, decide_eq_true_eq] at h1
        exact .inr (.inl ⟨xn, xl, xc, by rw [h1.1, ha0, hb0, h1.2.1], h1.2.2, rfl⟩)
  rw [if_neg h1] at hpos ⊢
  by_cases h2 : xo < 4 ∨ 16 < xo ∨ xn ≠ [] ∨ xv ≠ Tr.noVl ∨ i = 0 ∨ p.1 = 0
  · rw [if_pos h2] at hpos; exact absurd hpos (by decide)
  rw [if_neg h2] at hpos ⊢
  have hnm : xn = [] := Classical.byContradiction fun h => h2 (.inr (.inr (.inl h)))
  have hvl : xv = Tr.noVl := Classical.byContradiction fun h => h2 (.inr (.inr (.inr (.inl h))))
  have hi0 : ¬ i = 0 := by omega
  by_cases h3 : xo ≤ 5
  · rw [if_pos h3] at hpos ⊢
    by_cases h4 : xa = (i : Int) - 1 ∧ xb = 0
    · rw [if_pos h4]
      refine .inr (.inr (.inl ⟨xo, xl, xc, by omega, ?_, by omega, by omega, rfl⟩))
      rw [hnm, hvl, h4.2, h4.1, show (i : Int) - 1 = ((i - 1 : Nat) : Int) by omega]
    · rw [if_neg h4] at hpos; exact absurd hpos (by decide)
  · rw [if_neg h3] at hpos ⊢
    by_cases h4 : xb = (i : Int) - 1 ∧ xa = a ∧ 0 ≤ a ∧ 0 < q.1
    · rw [if_pos h4]
      obtain ⟨h41, h42, h43, h44⟩ := h4
      refine .inr (.inr (.inr ⟨xo, a.toNat, xl, xc, by omega, ?_, by omega, by omega, by rw [hq]; exact h44, by omega, by rw [hq]⟩))
      rw [hnm, hvl, h41, h42, show (i : Int) - 1 = ((i - 1 : Nat) : Int) by omega, show ((a.toNat : Nat) : Int) = a by omega]
    · rw [if_neg h4] at hpos; exact absurd hpos (by decide)
theorem nd_zero {l : List Tr.Ex} {i : Nat} (hi : i < l.length) (h0 : (ndN l i).1 = 0) : (ndN l i).2 = 0 := by
  obtain ⟨x, hx⟩ : ∃ x, l.getD i Tr.noEx = x := ⟨_, rfl⟩
  obtain ⟨p, hp⟩ : ∃ p, ndN l (i - 1) = p := ⟨_, rfl⟩
  obtain ⟨a, ha⟩ : ∃ a : Int, a = (i : Int) - 1 - p.1 := ⟨_, rfl⟩
  obtain ⟨q, hq⟩ : ∃ q, ndN l a.toNat = q := ⟨_, rfl⟩
  have hnode := Tr.nd_eq (nm := Sc.isName) hi hx hp ha hq
  have hpb := ndN_bound (l := l) (i := i - 1) (by omega)
  rw [hp] at hpb
  have hnode : ndN l i = _ := hnode
  rw [hnode] at h0 ⊢
  split
  · rename_i h; rw [if_pos h] at h0; cases h0
  · rename_i h
    rw [if_neg h] at h0
    split
    · rfl
    · rename_i h
      rw [if_neg h] at h0
      split
      · rename_i h
        rw [if_pos h] at h0
        split
        · rename_i h; rw [if_pos h] at h0; simp only at h0; omega
        · rfl
      · rename_i h
        rw [if_neg h] at h0
        split
        · rename_i h; rw [if_pos h] at h0; simp only at h0; omega
        · rfl
section
variable {l : List Tr.Ex} {f i j k : Nat} {op a b : Int} {nm : List UInt8} {v : Tr.Vl} {ln cl : Int}
theorem tree_con (h : l.getD i Tr.noEx = (1, a, b, nm, v, ln, cl)) : treeF l (f + 1) i = .con v := by
  show nodeX (l.getD i Tr.noEx) (treeF l f (l.getD i Tr.noEx).2.1.toNat) (treeF l f (l.getD i Tr.noEx).2.2.1.toNat) = _
  rw [h]; rfl
theorem tree_nam (h : l.getD i Tr.noEx = (17, a, b, nm, v, ln, cl)) : treeF l (f + 1) i = .nam nm := by
  show nodeX (l.getD i Tr.noEx) (treeF l f (l.getD i Tr.noEx).2.1.toNat) (treeF l f (l.getD i Tr.noEx).2.2.1.toNat) = _
  rw [h]; rfl
theorem tree_not (h : l.getD i Tr.noEx = (4, (j : Int), b, nm, v, ln, cl)) : treeF l (f + 1) i = .una 4 (wrapX 3 (treeF l f j)) := by
  show nodeX (l.getD i Tr.noEx) (treeF l f (l.getD i Tr.noEx).2.1.toNat) (treeF l f (l.getD i Tr.noEx).2.2.1.toNat) = _
  rw [h]; rfl
theorem tree_neg (h : l.getD i Tr.noEx = (5, (j : Int), b, nm, v, ln, cl)) : treeF l (f + 1) i = .una 5 (if (treeF l f j).bare = true then .par (treeF l f j) else wrapX 7 (treeF l f j)) := by
  show nodeX (l.getD i Tr.noEx) (treeF l f (l.getD i Tr.noEx).2.1.toNat) (treeF l f (l.getD i Tr.noEx).2.2.1.toNat) = _
  rw [h]; rfl
theorem tree_bin (hop : 6 ≤ op ∧ op ≤ 16) (h : l.getD i Tr.noEx = (op, (j : Int), (k : Int), nm, v, ln, cl)) : treeF l (f + 1) i = .bin op (wrapX (if lvl op = 4 then 5 else lvl op) (treeF l f j)) (wrapX (lvl op + 1) (treeF l f k)) := by
  show nodeX (l.getD i Tr.noEx) (treeF l f (l.getD i Tr.noEx).2.1.toNat) (treeF l f (l.getD i Tr.noEx).2.2.1.toNat) = _
  rw [h]
  unfold nodeX
  simp only
  rw [if_neg (by omega), if_neg (by omega), if_neg (by omega), if_neg (by omega)]; rfl
theorem lev_le (t : Xt) : t.lev < 9 := by
  have h : ∀ o : Int, lvl o < 9 := by
    intro o
    unfold lvl
    repeat' split
    all_goals decide
  cases t with
  | una o _ => exact h o
  | bin o _ _ => exact h o
  | _ => show 8 < 9; decide
end
/-- What is told of a tree. -/
structure Fine (l : List Tr.Ex) (i : Nat) (t : Xt) (n d : Int) (m : Nat) : Prop where
  ok : t.Ok
  lexed : t.Lexed
  op : (l.getD i Tr.noEx).1 = 1 ∨ (l.getD i Tr.noEx).1 = 17 ∨ (4 ≤ (l.getD i Tr.noEx).1 ∧ (l.getD i Tr.noEx).1 ≤ 16)
  lev : t.lev = lvl (l.getD i Tr.noEx).1
  bare : t.bare = (decide ((l.getD i Tr.noEx).1 = 1) && (decide ((l.getD i Tr.noEx).2.2.2.2.1.1 = 1) && decide (0 ≤ (l.getD i Tr.noEx).2.2.2.2.1.2.1)))
  cores : t.cores (i + 1 - n.toNat) = ((l.drop (i + 1 - n.toNat)).take n.toNat).map coreT
  cnt : (t.cnt : Int) = n
  fits : n ≤ i + 1
  dep : (t.dep : Int) = d
  opn : t.opn + 2 ≤ 2 * t.dep
  len : t.txt.length ≤ n.toNat * (4 * m + 40)
theorem take_one {α : Type} {l : List α} {i : Nat} (d : α) (h : i < l.length) : (l.drop i).take 1 = [l.getD i d] := by
  rw [List.drop_eq_getElem_cons h, List.take_succ_cons, List.take_zero, List.getD_eq_getElem?_getD, List.getElem?_eq_getElem h]; rfl
theorem sign_len3 (op : Int) : (signW op).length ≤ 3 := by
  unfold signW
  have : ∀ x ∈ signT, x.length ≤ 3 := by decide
  rw [List.getD_eq_getElem?_getD]
  cases h : signT[(op - 6).toNat]? with
  | none => decide
  | some x => exact this x (List.mem_of_getElem? h)
theorem lvl_le (op : Int) (h : 6 ≤ op ∧ op ≤ 16) : lvl op + 1 ≤ 8 ∧ (if lvl op = 4 then 5 else lvl op) ≤ 8 := by
  have := op_lvl h
  split <;> omega
theorem fine (l : List Tr.Ex) (m : Nat) (hm : 40 ≤ m) (hf : ∀ x ∈ l, Nu.Fits x.2.2.2.2.1.2.1 ∧ x.2.2.2.2.1.2.2.1.length ≤ m) : ∀ (f i : Nat), i < f → i < l.length → 0 < (ndN l i).1 → Fine l i (treeF l f i) (ndN l i).1 (ndN l i).2 m
  | 0, i, h, _, _ => by omega
  | f + 1, i, h, hi, hpos => by
    have ih := fun j (hj : j < i) (hp : 0 < (ndN l j).1) => fine l m hm hf f j (by omega) (by omega) hp
    have hmem := hf _ (Tr.getD_mem Tr.noEx hi)
    have hone : ((l.drop (i + 1 - (1 : Int).toNat)).take (1 : Int).toNat).map coreT = [coreT (l.getD i Tr.noEx)] := by
      rw [show i + 1 - (1 : Int).toNat = i from rfl, show (1 : Int).toNat = 1 from rfl, take_one Tr.noEx hi]; rfl
    have hcut := take_one Tr.noEx hi
    rcases kinds hi hpos with ⟨v, ln, cl, hx, hv, hn⟩ | ⟨s, ln, cl, hx, hs, hn⟩ | ⟨op, ln, cl, hop, hx, h1, hp, hn⟩ | ⟨op, j, ln, cl, hop, hx, hj, hp, hq, hjp, hn⟩
    · rw [hx] at hmem hone
      obtain ⟨h3, h4, _⟩ := rightV_ok' hv hmem.1
      rw [tree_con hx, hn]
      refine ⟨h3, h4, by rw [hx]; exact .inl rfl, by rw [hx]; rfl, by rw [hx]; rfl, by rw [hone]; rfl, rfl, by show (1 : Int) ≤ _; omega, rfl, by show 0 + 2 ≤ 2 * 1; decide, ?_⟩
      have := valS_len hv hmem.1 hmem.2
      show (valS v).length ≤ 1 * _
      omega
    · rw [hx] at hone
      obtain ⟨n1, n2, n3, n4, n5⟩ := name_lexed hs
      rw [tree_nam hx, hn]
      refine ⟨n1, ⟨n3, n4, n5⟩, by rw [hx]; exact .inr (.inl rfl), by rw [hx]; rfl, by rw [hx]; rfl, by rw [hone]; rfl, rfl, by show (1 : Int) ≤ _; omega, rfl, by show 0 + 2 ≤ 2 * 1; decide, ?_⟩
      show s.length ≤ 1 * _
      omega
    · have hB := ih (i - 1) (by omega) hp
      rw [hn]
      obtain ⟨p, hpp⟩ : ∃ p, ndN l (i - 1) = p := ⟨_, rfl⟩
      rw [hpp] at hB hp ⊢
      have hbf := hB.fits
      have hbc := hB.cnt
      have hdp := hB.dep
      have ho := hB.opn
      have hl := hB.len
      have hlen : (p.1 + 1).toNat * (4 * m + 40) = p.1.toNat * (4 * m + 40) + (4 * m + 40) := by
        rw [show (p.1 + 1).toNat = p.1.toNat + 1 by omega, Nat.succ_mul]
      have hcores : ∀ C : Xt, C.cores (i + 1 - (p.1 + 1).toNat) = (treeF l f (i - 1)).cores (i + 1 - (p.1 + 1).toNat) → C.cnt = (treeF l f (i - 1)).cnt → (Xt.una op C).cores (i + 1 - (p.1 + 1).toNat) = ((l.drop (i + 1 - (p.1 + 1).toNat)).take (p.1 + 1).toNat).map coreT := fun C hC hC2 => by
        show C.cores _ ++ [(op, ((i + 1 - (p.1 + 1).toNat + C.cnt : Nat) : Int) - 1, 0, [], Xt.none)] = _
        have hb := hB.cores
        rw [show i - 1 + 1 - p.1.toNat = i + 1 - (p.1 + 1).toNat by omega] at hb
        rw [hC, hC2, hb, show (p.1 + 1).toNat = p.1.toNat + 1 by omega, List.take_add, List.drop_drop, List.map_append, show i + 1 - (p.1.toNat + 1) + p.1.toNat = i by omega, hcut, hx]
        have e : ((i + 1 - (p.1.toNat + 1) + (treeF l f (i - 1)).cnt : Nat) : Int) - 1 = ((i - 1 : Nat) : Int) := by omega
        rw [e]; rfl
      rcases hop with rfl | rfl
      · rw [tree_not hx]
        generalize treeF l f (i - 1) = A at *
        have w1 := wrap_opn (n := 3) (t := A)
        have w2 := wrap_len (n := 3) (t := A)
        refine ⟨⟨.inl ⟨rfl, wrap_lev (by decide)⟩, wrap_ok hB.ok⟩, wrap_lexed hB.lexed, by rw [hx]; exact .inr (.inr ⟨by simp, by simp⟩), by rw [hx]; rfl, by rw [hx]; rfl, hcores _ wrap_cores wrap_cnt, ?_, by show p.1 + 1 ≤ _; omega, ?_, ?_, ?_⟩
        · show (((wrapX 3 A).cnt + 1 : Nat) : Int) = _
          rw [wrap_cnt]; omega
        · show (((wrapX 3 A).dep + 1 : Nat) : Int) = _
          rw [wrap_dep]; omega
        · show (wrapX 3 A).opn + 1 + 2 ≤ 2 * ((wrapX 3 A).dep + 1)
          rw [wrap_dep]; omega
        · show (110 :: 111 :: 116 :: 32 :: (wrapX 3 A).txt).length ≤ _
          simp only [List.length_cons]
          omega
      · rw [tree_neg hx]
        generalize treeF l f (i - 1) = A at *
        obtain ⟨C, hC, c1, c2, c3, c4, c5, c6, c7, c8, c9⟩ : ∃ C : Xt, (if A.bare = true then .par A else wrapX 7 A) = C ∧ 7 ≤ C.lev ∧ C.bare = false ∧ C.Ok ∧ C.Lexed ∧ (∀ k, C.cores k = A.cores k) ∧ C.dep = A.dep ∧ C.opn ≤ A.opn + 1 ∧ C.txt.length ≤ A.txt.length + 2 ∧ C.cnt = A.cnt := by
          refine ⟨_, rfl, ?_⟩
          by_cases hb : A.bare = true
          · rw [if_pos hb]
            exact ⟨by show 7 ≤ 8; decide, rfl, hB.ok, hB.lexed, fun _ => rfl, rfl, Nat.le_refl _, by show (40 :: (A.txt ++ [41])).length ≤ _; simp, rfl⟩
          · rw [if_neg hb]
            exact ⟨wrap_lev (by decide), wrap_bare (by simpa using hb), wrap_ok hB.ok, wrap_lexed hB.lexed, fun _ => wrap_cores, wrap_dep, wrap_opn, wrap_len, wrap_cnt⟩
        rw [hC]
        refine ⟨⟨.inr ⟨rfl, c1, c2⟩, c3⟩, c4, by rw [hx]; exact .inr (.inr ⟨by simp, by simp⟩), by rw [hx]; rfl, by rw [hx]; rfl, hcores _ (c5 _) c9, ?_, by show p.1 + 1 ≤ _; omega, ?_, ?_, ?_⟩
        · show ((C.cnt + 1 : Nat) : Int) = _
          rw [c9]; omega
        · show ((C.dep + 1 : Nat) : Int) = _
          rw [c6]; omega
        · show C.opn + 1 + 2 ≤ 2 * (C.dep + 1)
          omega
        · show (45 :: C.txt).length ≤ _
          simp only [List.length_cons]
          omega
    · have hB := ih (i - 1) (by omega) hp
      have hA := ih j hj hq
      rw [hn]
      obtain ⟨p, hpp⟩ : ∃ p, ndN l (i - 1) = p := ⟨_, rfl⟩
      obtain ⟨q, hqq⟩ : ∃ q, ndN l j = q := ⟨_, rfl⟩
      rw [hpp] at hB hp hjp ⊢
      rw [hqq] at hA hq ⊢
      rw [tree_bin hop hx]
      generalize treeF l f (i - 1) = B at *
      generalize treeF l f j = A at *
      obtain ⟨l1, l2⟩ := lvl_le op hop
      have hl := hB.len
      have ho := hB.opn
      have hd := hB.dep
      have hc := hB.cnt
      have hfi := hB.fits
      have kl := hA.len
      have ko := hA.opn
      have kd := hA.dep
      have kc := hA.cnt
      have kfi := hA.fits
      have s3 := sign_len3 op
      have hlen : (q.1 + p.1 + 1).toNat * (4 * m + 40) = q.1.toNat * (4 * m + 40) + (p.1.toNat * (4 * m + 40) + (4 * m + 40)) := by
        rw [show (q.1 + p.1 + 1).toNat = q.1.toNat + (p.1.toNat + 1) by omega]
        generalize 4 * m + 40 = K
        rw [Nat.add_mul, Nat.add_mul, Nat.one_mul]
      have w1 := wrap_opn (n := (if lvl op = 4 then 5 else lvl op)) (t := A)
      have w2 := wrap_len (n := (if lvl op = 4 then 5 else lvl op)) (t := A)
      have w3 := wrap_opn (n := lvl op + 1) (t := B)
      have w4 := wrap_len (n := lvl op + 1) (t := B)
      have w5 := wrap_dep (n := (if lvl op = 4 then 5 else lvl op)) (t := A)
      have w6 := wrap_dep (n := lvl op + 1) (t := B)
      have w7 := fun k => wrap_cores (n := (if lvl op = 4 then 5 else lvl op)) (t := A) (k := k)
      have w8 := fun k => wrap_cores (n := lvl op + 1) (t := B) (k := k)
      have w9 := wrap_lev (t := A) l2
      have w10 := wrap_lev (t := B) l1
      have w11 := wrap_ok (n := (if lvl op = 4 then 5 else lvl op)) hA.ok
      have w12 := wrap_ok (n := lvl op + 1) hB.ok
      have w13 := wrap_lexed (n := (if lvl op = 4 then 5 else lvl op)) hA.lexed
      have w14 := wrap_lexed (n := lvl op + 1) hB.lexed
      have w15 := wrap_cnt (n := (if lvl op = 4 then 5 else lvl op)) (t := A)
      have w16 := wrap_cnt (n := lvl op + 1) (t := B)
      generalize wrapX (if lvl op = 4 then 5 else lvl op) A = A' at *
      generalize wrapX (lvl op + 1) B = B' at *
      refine ⟨⟨hop.1, hop.2, w9, w10, w11, w12⟩, ⟨w13, w14⟩, by rw [hx]; exact .inr (.inr ⟨by simp only; omega, hop.2⟩), by rw [hx]; rfl, by rw [hx, decide_eq_false (by simp only; omega)]; rfl, ?_, ?_, by show q.1 + p.1 + 1 ≤ _; omega, ?_, ?_, ?_⟩
      · show A'.cores _ ++ (B'.cores (i + 1 - (q.1 + p.1 + 1).toNat + A'.cnt) ++ [(op, ((i + 1 - (q.1 + p.1 + 1).toNat + A'.cnt : Nat) : Int) - 1, ((i + 1 - (q.1 + p.1 + 1).toNat + A'.cnt + B'.cnt : Nat) : Int) - 1, [], Xt.none)]) = _
        have hbc := hB.cores
        have hac := hA.cores
        have e0 : i + 1 - (q.1 + p.1 + 1).toNat = j + 1 - q.1.toNat := by omega
        have e1 : j + 1 - q.1.toNat + A'.cnt = j + 1 := by omega
        have e2 : j + 1 + B'.cnt = i := by omega
        have e3 : i - 1 + 1 - p.1.toNat = j + 1 := by omega
        rw [e3] at hbc
        rw [e0, e1, e2, w7, w8, hac, hbc, show (q.1 + p.1 + 1).toNat = q.1.toNat + (p.1.toNat + 1) by omega, List.take_add, List.drop_drop, List.take_add, List.drop_drop, List.map_append, List.map_append, show j + 1 - q.1.toNat + q.1.toNat = j + 1 by omega, show j + 1 + p.1.toNat = i by omega, hcut, hx]
        have e4 : ((j + 1 : Nat) : Int) - 1 = (j : Int) := by omega
        have e5 : (i : Int) - 1 = ((i - 1 : Nat) : Int) := by omega
        rw [e4, e5]; rfl
      · show ((A'.cnt + B'.cnt + 1 : Nat) : Int) = _
        omega
      · show (((if B'.dep > A'.dep then B'.dep else A'.dep) + 1 : Nat) : Int) = _
        split <;> omega
      · show (if B'.opn > A'.opn then B'.opn else A'.opn) + 2 ≤ 2 * ((if B'.dep > A'.dep then B'.dep else A'.dep) + 1)
        split <;> split <;> omega
      · show (A'.txt ++ 32 :: (signW op ++ 32 :: B'.txt)).length ≤ _
        simp only [List.length_append, List.length_cons]
        omega
/-- A list whose values are numbers that fit and texts that are not long. -/
structure Listed (l : List Tr.Ex) (m : Nat) : Prop where
  lo : 40 ≤ m
  hi : m ≤ 5000
  len : l.length ≤ 1000000
  val : ∀ x ∈ l, Nu.Fits x.2.2.2.2.1.2.1 ∧ x.2.2.2.2.1.2.2.1.length ≤ m
theorem Listed.fine {l : List Tr.Ex} {m f i : Nat} (h : Listed l m) (hf : i < f) (hi : i < l.length) (hp : 0 < (ndN l i).1) : Fine l i (treeF l f i) (ndN l i).1 (ndN l i).2 m := Pr.fine l m h.lo h.val f i hf hi hp
theorem Listed.short {l : List Tr.Ex} {m f i : Nat} (h : Listed l m) (hf : i < f) (hi : i < l.length) (hp : 0 < (ndN l i).1) : (treeF l f i).txt.length ≤ 900000000000 := by
  have h1 := (h.fine hf hi hp).len
  have h2 := ndN_bound hi
  have h3 := h.len
  have h4 := h.hi
  have : (ndN l i).1.toNat * (4 * m + 40) ≤ 1000001 * 20040 := Nat.mul_le_mul (by omega) (by omega)
  omega
theorem Listed.wrap {l : List Tr.Ex} {m f i n : Nat} (h : Listed l m) (hf : i < f) (hi : i < l.length) (hp : 0 < (ndN l i).1) : (wrapX n (treeF l f i)).txt.length ≤ 1000000000000 := by
  have h1 := h.short hf hi hp
  have h2 := wrap_len (n := n) (t := treeF l f i)
  omega
end Go.Proofs.YtdhgappjicpglaaGreatDoor.Pr
namespace Go.Proofs.YtdhgappjicpglaaGreatDoor.Pr
open Go Go.Ab Go.RowKit Go.Proofs.YtdhgappjicpglaaGreatDoor.Lx Go.Proofs.YtdhgappjicpglaaGreatDoor.Pa
variable {Γ : Nat → AV}
attribute [local irreducible] APure Sto.set Sto.grow
set_option maxRecDepth 10000
set_option maxHeartbeats 4000000
def levP (op : Int) : Int := if op = 1 ∨ op = 17 then 8 else if 4 ≤ op ∧ op ≤ 16 then (lvl op : Int) else 0
theorem op17 {op : Int} (h : 1 ≤ op ∧ op ≤ 17) : op = 1 ∨ op = 2 ∨ op = 3 ∨ op = 4 ∨ op = 5 ∨ op = 6 ∨ op = 7 ∨ op = 8 ∨ op = 9 ∨ op = 10 ∨ op = 11 ∨ op = 12 ∨ op = 13 ∨ op = 14 ∨ op = 15 ∨ op = 16 ∨ op = 17 := by omega
theorem level_ok (op : Int) : APure Tryz.prog Γ 11 [.int .i64 op] fun v => v = .int .i64 (levP op) := by
  by_cases h : 1 ≤ op ∧ op ≤ 17
  · rcases op17 h with rfl | rfl | rfl | rfl | rfl | rfl | rfl | rfl | rfl | rfl | rfl | rfl | rfl | rfl | rfl | rfl | rfl
    all_goals
      refine APure.of_awp Tryz.func11 rfl (Nat.le_of_ble_eq_true (by kernel_rfl)) (by kernel_rfl) ?_
      intro s
      conv => whnf
      repeat' ((first | refine ⟨Sub.refl _, ?_⟩ | (refine brA_split (fun h => ?_) (fun h => ?_) <;> (try rw [h]) <;> (try simp only [bN, bS, ↓reduceIte] at h) <;> (first | (exfalso; first | contradiction | omega | exact (by assumption : ¬ True) trivial | fail) | skip)) | refine getB_same ?_ | refine AWp.anyA ?_ | refine and_a ?_ | fail) <;> (conv => whnf))
      all_goals rfl
  · have e : levP op = 0 := by unfold levP; rw [if_neg (by omega), if_neg (by omega)]
    rw [e]
    refine APure.of_awp Tryz.func11 rfl (Nat.le_of_ble_eq_true (by kernel_rfl)) (by kernel_rfl) ?_
    intro s
    conv => whnf
    repeat' ((first | refine ⟨Sub.refl _, ?_⟩ | (refine brA_split (fun h => ?_) (fun h => ?_) <;> (try rw [h]) <;> (try simp only [bN, bS, ↓reduceIte] at h) <;> (first | (exfalso; first | contradiction | omega | exact (by assumption : ¬ True) trivial | fail) | skip)) | refine getB_same ?_ | refine AWp.anyA ?_ | refine and_a ?_ | fail) <;> (conv => whnf))
    all_goals rfl
/-- The table of tokens. -/
def Toks (Γ : Nat → AV) : Prop := Γ 0 = .cptr (signT.map .str)
theorem token_ok (hK : Toks Γ) (op : Int) (h : 6 ≤ op ∧ op ≤ 16) : APure Tryz.prog Γ 29 [.int .i64 op] fun v => v = .str (signW op) := by
  rcases op_cases h with rfl | rfl | rfl | rfl | rfl | rfl | rfl | rfl | rfl | rfl | rfl
  all_goals
    refine APure.of_awp Tryz.func29 rfl (Nat.le_of_ble_eq_true (by kernel_rfl)) (by kernel_rfl) ?_
    intro s
    conv => whnf
    repeat' ((first | refine ⟨Sub.refl _, ?_⟩ | (refine brA_split (fun h => ?_) (fun h => ?_) <;> (try rw [h]) <;> (try simp only [bN, bS, ↓reduceIte] at h) <;> (first | (exfalso; first | contradiction | omega | exact (by assumption : ¬ True) trivial | fail) | skip)) | (rw [evA_glob, hK]) | refine getB_same ?_ | refine AWp.anyA ?_ | refine and_a ?_ | fail) <;> (conv => whnf))
    all_goals rfl
theorem plain_ok (x : Tr.Ex) : APure Tryz.prog Γ 28 [.agg (Tr.exA x)] fun v => v = .bool (decide (x.1 = 1) && (decide (x.2.2.2.2.1.1 = 1) && decide (0 ≤ x.2.2.2.2.1.2.1))) := by
  obtain ⟨op, a, b, nm, ⟨vk, vi, vs, vb⟩, ln, cl⟩ := x
  simp only [Tr.exA]
  refine APure.of_awp Tryz.func28 rfl (Nat.le_of_ble_eq_true (by kernel_rfl)) (by kernel_rfl) ?_
  intro s
  conv => whnf
  intro b1 hb1
  have k_b1 := hb1
  repeat replace k_b1 := none_of_set k_b1
  conv => whnf
  repeat' ((first | refine ⟨Sub.refl _, ?_⟩ | (refine brA_split (fun h => ?_) (fun h => ?_) <;> (try rw [h]) <;> (try simp only [bN, bS, ↓reduceIte] at h) <;> (first | (exfalso; first | contradiction | omega | exact (by assumption : ¬ True) trivial | fail) | skip)) | refine getB_a ?_ | refine getB_same ?_ | refine AWp.anyA ?_ | refine and_a ?_ | fail) <;> (conv => whnf))
  all_goals refine ⟨suba, Tr.bool_eq ?_⟩
  all_goals simp [*]
/-- Within another one. -/
theorem within_ok {t j n : Nat} {l : List Tr.Ex} {T : Xt} (hj : j < l.length) (hlev : levP (l.getD j Tr.noEx).1 = (T.lev : Int)) (hlen : T.txt.length ≤ 1000000000000) (ht : APure Tryz.prog Γ 14 [.slice t (l.map Tr.exA), .int .i64 (j : Int)] fun v => v = .str T.txt) :
    APure Tryz.prog Γ 27 [.slice t (l.map Tr.exA), .int .i64 (j : Int), .int .i64 (n : Int)] fun v => v = .str (wrapX n T).txt := by
  have hml : (l.map Tr.exA).length = l.length := List.length_map ..
  have hga := Tr.map_get (f := Tr.exA) (l := l) Tr.noEx hj
  have hlv := level_ok (Γ := Γ) (l.getD j Tr.noEx).1
  rw [hlev] at hlv
  generalize l.getD j Tr.noEx = x at *
  obtain ⟨op, a, b, nm, ⟨vk, vi, vs, vb⟩, ln, cl⟩ := x
  simp only [Tr.exA] at hga
  simp only at hlv
  by_cases hlt : T.lev < n
  · refine APure.of_awp Tryz.func27 rfl (Nat.le_of_ble_eq_true (by kernel_rfl)) (by kernel_rfl) ?_
    intro s
    conv => whnf
    repeat' ((first | refine ⟨Sub.refl _, ?_⟩ | (refine brA_split (fun h => ?_) (fun h => ?_) <;> (try rw [h]) <;> (try simp only [bN, bS, ↓reduceIte] at h) <;> (first | (exfalso; first | contradiction | omega | exact (by assumption : ¬ True) trivial | fail) | skip)) | refine ⟨len_of (hga) rfl, Go.Ab.frcL_of (hga) ?_⟩ | (refine ACalls.pure' ?_ (hlv); rintro _ rfl) | refine DCall.pure ?_ (hlv) | (refine ACalls.pure' ?_ (ht); rintro _ rfl) | refine DCall.pure ?_ (ht) | refine getB_same ?_ | refine AWp.anyA ?_ | refine and_a ?_ | fail) <;> (conv => whnf))
    all_goals (rw [show wrapX n T = .par T from if_pos hlt]; rfl)
  · refine APure.of_awp Tryz.func27 rfl (Nat.le_of_ble_eq_true (by kernel_rfl)) (by kernel_rfl) ?_
    intro s
    conv => whnf
    repeat' ((first | refine ⟨Sub.refl _, ?_⟩ | (refine brA_split (fun h => ?_) (fun h => ?_) <;> (try rw [h]) <;> (try simp only [bN, bS, ↓reduceIte] at h) <;> (first | (exfalso; first | contradiction | omega | exact (by assumption : ¬ True) trivial | fail) | skip)) | refine ⟨len_of (hga) rfl, Go.Ab.frcL_of (hga) ?_⟩ | (refine ACalls.pure' ?_ (hlv); rintro _ rfl) | refine DCall.pure ?_ (hlv) | (refine ACalls.pure' ?_ (ht); rintro _ rfl) | refine DCall.pure ?_ (ht) | refine getB_same ?_ | refine AWp.anyA ?_ | refine and_a ?_ | fail) <;> (conv => whnf))
    all_goals (rw [show wrapX n T = T from if_neg hlt]; rfl)
section
variable {t i j k : Nat} {l : List Tr.Ex} {op a b : Int} {nm : List UInt8} {v : Tr.Vl} {ln cl : Int} {A B : List UInt8}
theorem text_con (hT : Qu.Tabs Γ) (hN : Nu.Tens Γ) (hi : i < l.length) (hga : (l.map Tr.exA).getD i [] = Tr.exA (1, a, b, nm, v, ln, cl)) (hv : Nu.Fits v.2.1) (hs : v.2.2.1.length ≤ 1048576) :
    APure Tryz.prog Γ 14 [.slice t (l.map Tr.exA), .int .i64 (i : Int)] fun x => x = .str (Va.textOf v) := by
  have hml : (l.map Tr.exA).length = l.length := List.length_map ..
  have htx := Va.text_full hT hN v hv hs
  simp only [Tr.exA, Tr.vlA, Va.vlA] at hga htx
  refine APure.of_awp Tryz.func14 rfl (Nat.le_of_ble_eq_true (by kernel_rfl)) (by kernel_rfl) ?_
  intro s
  conv => whnf
  repeat' ((first | refine ⟨Sub.refl _, ?_⟩ | (refine brA_split (fun h => ?_) (fun h => ?_) <;> (try rw [h]) <;> (try simp only [bN, bS, ↓reduceIte] at h) <;> (first | (exfalso; first | contradiction | omega | exact (by assumption : ¬ True) trivial | fail) | skip)) | refine ⟨len_of (hga) rfl, Go.Ab.frcL_of (hga) ?_⟩ | refine getB_same ?_ | refine AWp.anyA ?_ | refine and_a ?_ | fail) <;> (conv => whnf))
  intro b1 hb1
  have k_b1 := hb1
  repeat replace k_b1 := none_of_set k_b1
  conv => whnf
  repeat' ((first | refine ⟨Sub.refl _, ?_⟩ | (refine brA_split (fun h => ?_) (fun h => ?_) <;> (try rw [h]) <;> (try simp only [bN, bS, ↓reduceIte] at h) <;> (first | (exfalso; first | contradiction | omega | exact (by assumption : ¬ True) trivial | fail) | skip)) | refine getB_a ?_ | (refine ACalls.pure' ?_ (level_ok _); rintro _ rfl) | refine DCall.pure ?_ (level_ok _) | (refine ACalls.pure' ?_ (htx); rintro _ rfl) | refine DCall.pure ?_ (htx) | refine getB_same ?_ | refine AWp.anyA ?_ | refine and_a ?_ | fail) <;> (conv => whnf))
  all_goals exact ⟨suba, rfl⟩
theorem text_nam (hi : i < l.length) (hga : (l.map Tr.exA).getD i [] = Tr.exA (17, a, b, nm, v, ln, cl)) :
    APure Tryz.prog Γ 14 [.slice t (l.map Tr.exA), .int .i64 (i : Int)] fun x => x = .str nm := by
  have hml : (l.map Tr.exA).length = l.length := List.length_map ..
  simp only [Tr.exA, Tr.vlA] at hga
  refine APure.of_awp Tryz.func14 rfl (Nat.le_of_ble_eq_true (by kernel_rfl)) (by kernel_rfl) ?_
  intro s
  conv => whnf
  repeat' ((first | refine ⟨Sub.refl _, ?_⟩ | (refine brA_split (fun h => ?_) (fun h => ?_) <;> (try rw [h]) <;> (try simp only [bN, bS, ↓reduceIte] at h) <;> (first | (exfalso; first | contradiction | omega | exact (by assumption : ¬ True) trivial | fail) | skip)) | refine ⟨len_of (hga) rfl, Go.Ab.frcL_of (hga) ?_⟩ | refine getB_same ?_ | refine AWp.anyA ?_ | refine and_a ?_ | fail) <;> (conv => whnf))
  intro b1 hb1
  have k_b1 := hb1
  repeat replace k_b1 := none_of_set k_b1
  conv => whnf
  repeat' ((first | refine ⟨Sub.refl _, ?_⟩ | (refine brA_split (fun h => ?_) (fun h => ?_) <;> (try rw [h]) <;> (try simp only [bN, bS, ↓reduceIte] at h) <;> (first | (exfalso; first | contradiction | omega | exact (by assumption : ¬ True) trivial | fail) | skip)) | refine getB_a ?_ | (refine ACalls.pure' ?_ (level_ok _); rintro _ rfl) | refine DCall.pure ?_ (level_ok _) | refine getB_same ?_ | refine AWp.anyA ?_ | refine and_a ?_ | fail) <;> (conv => whnf))
  all_goals exact ⟨suba, rfl⟩
theorem text_not (hi : i < l.length) (hga : (l.map Tr.exA).getD i [] = Tr.exA (4, (j : Int), b, nm, v, ln, cl)) (hA : A.length ≤ 1000000000000)
    (hw : APure Tryz.prog Γ 27 [.slice t (l.map Tr.exA), .int .i64 (j : Int), .int .i64 ((3 : Nat) : Int)] fun v => v = .str A) :
    APure Tryz.prog Γ 14 [.slice t (l.map Tr.exA), .int .i64 (i : Int)] fun x => x = .str ([110, 111, 116, 32] ++ A) := by
  have hml : (l.map Tr.exA).length = l.length := List.length_map ..
  simp only [Tr.exA, Tr.vlA] at hga
  refine APure.of_awp Tryz.func14 rfl (Nat.le_of_ble_eq_true (by kernel_rfl)) (by kernel_rfl) ?_
  intro s
  conv => whnf
  repeat' ((first | refine ⟨Sub.refl _, ?_⟩ | (refine brA_split (fun h => ?_) (fun h => ?_) <;> (try rw [h]) <;> (try simp only [bN, bS, ↓reduceIte] at h) <;> (first | (exfalso; first | contradiction | omega | exact (by assumption : ¬ True) trivial | fail) | skip)) | refine ⟨len_of (hga) rfl, Go.Ab.frcL_of (hga) ?_⟩ | refine getB_same ?_ | refine AWp.anyA ?_ | refine and_a ?_ | fail) <;> (conv => whnf))
  intro b1 hb1
  have k_b1 := hb1
  repeat replace k_b1 := none_of_set k_b1
  conv => whnf
  repeat' ((first | refine ⟨Sub.refl _, ?_⟩ | (refine brA_split (fun h => ?_) (fun h => ?_) <;> (try rw [h]) <;> (try simp only [bN, bS, ↓reduceIte] at h) <;> (first | (exfalso; first | contradiction | omega | exact (by assumption : ¬ True) trivial | fail) | skip)) | refine getB_a ?_ | (refine ACalls.pure' ?_ (level_ok _); rintro _ rfl) | refine DCall.pure ?_ (level_ok _) | (refine ACalls.pure' ?_ (hw); rintro _ rfl) | refine DCall.pure ?_ (hw) | refine getB_same ?_ | refine AWp.anyA ?_ | refine and_a ?_ | fail) <;> (conv => whnf))
  all_goals exact ⟨suba, rfl⟩
theorem text_neg (hi : i < l.length) (hj : j < l.length) (hga : (l.map Tr.exA).getD i [] = Tr.exA (5, (j : Int), b, nm, v, ln, cl)) {q : Bool} (hA : A.length ≤ 1000000000000) (hB : B.length ≤ 1000000000000)
    (hp : APure Tryz.prog Γ 28 [.agg ((l.map Tr.exA).getD j [])] fun v => v = .bool q)
    (hw : APure Tryz.prog Γ 27 [.slice t (l.map Tr.exA), .int .i64 (j : Int), .int .i64 ((9 : Nat) : Int)] fun v => v = .str A)
    (hw7 : APure Tryz.prog Γ 27 [.slice t (l.map Tr.exA), .int .i64 (j : Int), .int .i64 ((7 : Nat) : Int)] fun v => v = .str B) :
    APure Tryz.prog Γ 14 [.slice t (l.map Tr.exA), .int .i64 (i : Int)] fun x => x = .str ([45] ++ if q = true then A else B) := by
  have hml : (l.map Tr.exA).length = l.length := List.length_map ..
  have hgj := Tr.map_get (f := Tr.exA) (l := l) Tr.noEx hj
  rw [hgj] at hp
  generalize l.getD j Tr.noEx = y at *
  simp only [Tr.exA, Tr.vlA] at hga hgj hp
  cases q
  all_goals
    refine APure.of_awp Tryz.func14 rfl (Nat.le_of_ble_eq_true (by kernel_rfl)) (by kernel_rfl) ?_
    intro s
    conv => whnf
    repeat' ((first | refine ⟨Sub.refl _, ?_⟩ | (refine brA_split (fun h => ?_) (fun h => ?_) <;> (try rw [h]) <;> (try simp only [bN, bS, ↓reduceIte] at h) <;> (first | (exfalso; first | contradiction | omega | exact (by assumption : ¬ True) trivial | fail) | skip)) | refine ⟨len_of (hga) rfl, Go.Ab.frcL_of (hga) ?_⟩ | refine getB_same ?_ | refine AWp.anyA ?_ | refine and_a ?_ | fail) <;> (conv => whnf))
    intro b1 hb1
    have k_b1 := hb1
    repeat replace k_b1 := none_of_set k_b1
    conv => whnf
    repeat' ((first | refine ⟨Sub.refl _, ?_⟩ | (refine brA_split (fun h => ?_) (fun h => ?_) <;> (try rw [h]) <;> (try simp only [bN, bS, ↓reduceIte] at h) <;> (first | (exfalso; first | contradiction | omega | exact (by assumption : ¬ True) trivial | fail) | skip)) | refine getB_a ?_ | (refine ACalls.pure' ?_ (level_ok _); rintro _ rfl) | refine DCall.pure ?_ (level_ok _) | refine ⟨len_of (hgj) rfl, Go.Ab.frcL_of (hgj) ?_⟩ | (refine ACalls.pure' ?_ (hp); rintro _ rfl) | refine DCall.pure ?_ (hp) | (refine ACalls.pure' ?_ (hw); rintro _ rfl) | refine DCall.pure ?_ (hw) | (refine ACalls.pure' ?_ (hw7); rintro _ rfl) | refine DCall.pure ?_ (hw7) | refine getB_same ?_ | refine AWp.anyA ?_ | refine and_a ?_ | fail) <;> (conv => whnf))
    all_goals exact ⟨suba, rfl⟩
theorem text_bin (hK : Toks Γ) (hi : i < l.length) (hop : 6 ≤ op ∧ op ≤ 16) (hga : (l.map Tr.exA).getD i [] = Tr.exA (op, (j : Int), (k : Int), nm, v, ln, cl)) (hA : A.length ≤ 1000000000000) (hB : B.length ≤ 1000000000000)
    (hw : APure Tryz.prog Γ 27 [.slice t (l.map Tr.exA), .int .i64 (j : Int), .int .i64 ((if lvl op = 4 then 5 else lvl op : Nat) : Int)] fun v => v = .str A)
    (hw2 : APure Tryz.prog Γ 27 [.slice t (l.map Tr.exA), .int .i64 (k : Int), .int .i64 ((lvl op + 1 : Nat) : Int)] fun v => v = .str B) :
    APure Tryz.prog Γ 14 [.slice t (l.map Tr.exA), .int .i64 (i : Int)] fun x => x = .str (A ++ 32 :: (signW op ++ 32 :: B)) := by
  have hml : (l.map Tr.exA).length = l.length := List.length_map ..
  have htk := token_ok hK op hop
  have hs3 := sign_len3 op
  simp only [Tr.exA, Tr.vlA] at hga
  have fin : A ++ [32] ++ signW op ++ [32] ++ B = A ++ 32 :: (signW op ++ 32 :: B) := by simp
  rw [← fin]
  rcases op_cases hop with rfl | rfl | rfl | rfl | rfl | rfl | rfl | rfl | rfl | rfl | rfl
  all_goals
    refine APure.of_awp Tryz.func14 rfl (Nat.le_of_ble_eq_true (by kernel_rfl)) (by kernel_rfl) ?_
    intro s
    conv => whnf
    repeat' ((first | refine ⟨Sub.refl _, ?_⟩ | (refine brA_split (fun h => ?_) (fun h => ?_) <;> (try rw [h]) <;> (try simp only [bN, bS, ↓reduceIte] at h) <;> (first | (exfalso; first | contradiction | omega | exact (by assumption : ¬ True) trivial | fail) | skip)) | refine ⟨len_of (hga) rfl, Go.Ab.frcL_of (hga) ?_⟩ | refine getB_same ?_ | refine AWp.anyA ?_ | refine and_a ?_ | fail) <;> (conv => whnf))
    intro b1 hb1
    have k_b1 := hb1
    repeat replace k_b1 := none_of_set k_b1
    conv => whnf
    repeat' ((first | refine ⟨Sub.refl _, ?_⟩ | (refine brA_split (fun h => ?_) (fun h => ?_) <;> (try rw [h]) <;> (try simp only [bN, bS, ↓reduceIte] at h) <;> (first | (exfalso; first | contradiction | omega | exact (by assumption : ¬ True) trivial | fail) | skip)) | refine getB_a ?_ | (refine ACalls.pure' ?_ (level_ok _); rintro _ rfl) | refine DCall.pure ?_ (level_ok _) | (refine ACalls.pure' ?_ (hw); rintro _ rfl) | refine DCall.pure ?_ (hw) | (refine ACalls.pure' ?_ (hw2); rintro _ rfl) | refine DCall.pure ?_ (hw2) | (refine ACalls.pure' ?_ (htk); rintro _ rfl) | refine DCall.pure ?_ (htk) | refine getB_same ?_ | refine AWp.anyA ?_ | refine and_a ?_ | fail) <;> (conv => whnf))
    all_goals exact ⟨suba, rfl⟩
end
end Go.Proofs.YtdhgappjicpglaaGreatDoor.Pr
namespace Go.Proofs.YtdhgappjicpglaaGreatDoor.Pr
open Go Go.Ab Go.RowKit Go.Proofs.YtdhgappjicpglaaGreatDoor.Lx Go.Proofs.YtdhgappjicpglaaGreatDoor.Pa
variable {Γ : Nat → AV}
attribute [local irreducible] APure Sto.set Sto.grow
set_option maxRecDepth 10000
set_option maxHeartbeats 4000000
theorem levP_of {op : Int} (h : op = 1 ∨ op = 17 ∨ (4 ≤ op ∧ op ≤ 16)) : levP op = (lvl op : Int) := by
  unfold levP
  split
  · rename_i h1
    rcases h1 with rfl | rfl <;> rfl
  · rw [if_pos (by omega)]
theorem neg_txt {T : Xt} : ([45] ++ if T.bare = true then (wrapX 9 T).txt else (wrapX 7 T).txt) = (Xt.una 5 (if T.bare = true then .par T else wrapX 7 T)).txt := by
  have hw : wrapX 9 T = .par T := if_pos (lev_le T)
  rw [hw]
  show _ = [45] ++ (if T.bare = true then Xt.par T else wrapX 7 T).txt
  split <;> rfl
/-- The program's text of a node. -/
theorem text_ok (hK : Toks Γ) (hT : Qu.Tabs Γ) (hN : Nu.Tens Γ) (t : Nat) {l : List Tr.Ex} {m : Nat} (hl : Listed l m) : ∀ (k i f : Nat), i < k → i < f → i < l.length → 0 < (ndN l i).1 → APure Tryz.prog Γ 14 [.slice t (l.map Tr.exA), .int .i64 (i : Int)] fun v => v = .str (treeF l f i).txt
  | 0, i, f, h, _, _, _ => by omega
  | k + 1, i, f, hk, hf, hi, hpos => by
    obtain ⟨f, rfl⟩ : ∃ g, f = g + 1 := ⟨f - 1, by omega⟩
    have kid : ∀ (j n : Nat), j < i → 0 < (ndN l j).1 → APure Tryz.prog Γ 27 [.slice t (l.map Tr.exA), .int .i64 (j : Int), .int .i64 (n : Int)] fun v => v = .str (wrapX n (treeF l f j)).txt := fun j n hj hp => by
      have hF := hl.fine (f := f) (by omega) (by omega) hp
      have hS := hl.short (f := f) (by omega) (by omega) hp
      exact within_ok (by omega) (by rw [levP_of hF.op, hF.lev]) (by omega) (text_ok hK hT hN t hl k j f (by omega) (by omega) (by omega) hp)
    have hga := Tr.map_get (f := Tr.exA) (l := l) Tr.noEx hi
    rcases kinds hi hpos with ⟨v, ln, cl, hx, hv, _⟩ | ⟨s, ln, cl, hx, hs, _⟩ | ⟨op, ln, cl, hop, hx, h1, hp, _⟩ | ⟨op, j, ln, cl, hop, hx, hj, hp, hq, _, _⟩
    · rw [hx] at hga
      have hmem := hl.val _ (hx ▸ Tr.getD_mem Tr.noEx hi)
      have hhi := hl.hi
      rw [tree_con hx, show (Xt.con v).txt = Va.textOf v from (rightV_ok' hv hmem.1).2.2]
      exact text_con hT hN hi hga hmem.1 (Nat.le_trans hmem.2 (by omega))
    · rw [hx] at hga
      rw [tree_nam hx]
      exact text_nam hi hga
    · rw [hx] at hga
      rcases hop with rfl | rfl
      · rw [tree_not hx]
        exact text_not hi hga (hl.wrap (f := f) (by omega) (by omega) hp) (kid (i - 1) 3 (by omega) hp)
      · rw [tree_neg hx, ← neg_txt]
        have hF := hl.fine (f := f) (i := i - 1) (by omega) (by omega) hp
        have hpl := plain_ok (Γ := Γ) (l.getD (i - 1) Tr.noEx)
        rw [← hF.bare, ← Tr.map_get (f := Tr.exA) (l := l) Tr.noEx (show i - 1 < l.length by omega)] at hpl
        exact text_neg hi (by omega) hga (hl.wrap (f := f) (by omega) (by omega) hp) (hl.wrap (f := f) (by omega) (by omega) hp) hpl (kid (i - 1) 9 (by omega) hp) (kid (i - 1) 7 (by omega) hp)
    · rw [hx] at hga
      rw [tree_bin hop hx]
      exact text_bin hK hi hop hga (hl.wrap (f := f) (by omega) (by omega) hq) (hl.wrap (f := f) (by omega) (by omega) hp) (kid j _ (by omega) hq) (kid (i - 1) _ (by omega) hp)
section
variable {t i j k : Nat} {l : List Tr.Ex} {op a b : Int} {nm : List UInt8} {v : Tr.Vl} {ln cl : Int} {A B : List UInt8}
theorem rtext_neg (hi : i < l.length) (hj : j < l.length) (hga : (l.map Tr.exA).getD i [] = Tr.exA (5, (j : Int), b, nm, v, ln, cl)) {y : Tr.Ex} (hy : l.getD j Tr.noEx = y) (hA : A.length ≤ 1000000000000) (hB : B.length ≤ 1000000000000)
    (hw : APure Tryz.prog Γ 10 [.slice t (l.map Tr.exA), .int .i64 (j : Int)] fun v => v = .str A)
    (hw7 : APure Tryz.prog Γ 22 [.slice t (l.map Tr.exA), .int .i64 (j : Int), .int .i64 ((7 : Nat) : Int)] fun v => v = .str B) :
    APure Tryz.prog Γ 10 [.slice t (l.map Tr.exA), .int .i64 (i : Int)] fun x => x = .str (if (decide (y.1 = 1) && (decide (y.2.2.2.2.1.1 = 1) && decide (0 ≤ y.2.2.2.2.1.2.1))) = true then [45, 40] ++ A ++ [41] else [45] ++ B) := by
  have hml : (l.map Tr.exA).length = l.length := List.length_map ..
  have hgj := Tr.map_get (f := Tr.exA) (l := l) Tr.noEx hj
  rw [hy] at hgj
  obtain ⟨yo, ya, yb, yn, ⟨yk, yi, ys, yt⟩, yl, yc⟩ := y
  simp only [Tr.exA, Tr.vlA] at hga hgj
  simp only
  refine APure.of_awp Tryz.func10 rfl (Nat.le_of_ble_eq_true (by kernel_rfl)) (by kernel_rfl) ?_
  intro s
  conv => whnf
  repeat' ((first | refine ⟨Sub.refl _, ?_⟩ | (refine brA_split (fun h => ?_) (fun h => ?_) <;> (try rw [h]) <;> (try simp only [bN, bS, ↓reduceIte] at h) <;> (first | (exfalso; first | contradiction | omega | exact (by assumption : ¬ True) trivial | fail) | skip)) | refine ⟨len_of (hga) rfl, Go.Ab.frcL_of (hga) ?_⟩ | refine getB_same ?_ | refine AWp.anyA ?_ | refine and_a ?_ | fail) <;> (conv => whnf))
  intro b1 hb1
  have k_b1 := hb1
  repeat replace k_b1 := none_of_set k_b1
  conv => whnf
  repeat' ((first | refine ⟨Sub.refl _, ?_⟩ | (refine brA_split (fun h => ?_) (fun h => ?_) <;> (try rw [h]) <;> (try simp only [bN, bS, ↓reduceIte] at h) <;> (first | (exfalso; first | contradiction | omega | exact (by assumption : ¬ True) trivial | fail) | skip)) | refine getB_a ?_ | refine ⟨len_of (hgj) rfl, Go.Ab.frcL_of (hgj) ?_⟩ | refine getB_same ?_ | refine AWp.anyA ?_ | refine and_a ?_ | fail) <;> (conv => whnf))
  intro b2 hb2
  have k_b2 := hb2
  repeat replace k_b2 := none_of_set k_b2
  have n_b1_b2 : b1 ≠ b2 := by (have k := hb2; repeat (first | exact ne_set k | replace k := none_of_set k))
  have n_b2_b1 := n_b1_b2.symm
  conv => whnf
  repeat' ((first | refine ⟨Sub.refl _, ?_⟩ | (refine brA_split (fun h => ?_) (fun h => ?_) <;> (try rw [h]) <;> (try simp only [bN, bS, ↓reduceIte] at h) <;> (first | (exfalso; first | contradiction | omega | exact (by assumption : ¬ True) trivial | fail) | skip)) | refine getB_a ?_ | (refine ACalls.pure' ?_ (hw); rintro _ rfl) | refine DCall.pure ?_ (hw) | (refine ACalls.pure' ?_ (hw7); rintro _ rfl) | refine DCall.pure ?_ (hw7) | refine getB_same ?_ | refine AWp.anyA ?_ | refine and_a ?_ | fail) <;> (conv => whnf))
  all_goals refine ⟨suba, congrArg AV.str ?_⟩
  all_goals simp [*]
end
/-- How deep an expression is. -/
def dpI (l : List Tr.Ex) (at_ : Int) : Int := if 0 ≤ at_ ∧ at_ < l.length then (ndN l at_.toNat).2 else 0
theorem depth_ok (hW : Sc.Wds Γ) (t : Nat) (l : List Tr.Ex) (hl : l.length ≤ 1000000) (at_ : Int) : APure Tryz.prog Γ 13 [.slice t (l.map Tr.exA), .int .i64 at_] fun v => v = .int .i64 (dpI l at_) := by
  have hml : (l.map Tr.exA).length = l.length := List.length_map ..
  have hsz := Tr.sized_ok (Γ := Γ) Sc.isName t l hl (fun x _ => Sc.progName_any hW x.2.2.2.1)
  clear hW
  by_cases h : 0 ≤ at_ ∧ at_ < l.length
  · have e : dpI l at_ = (ndN l at_.toNat).2 := if_pos h
    have hcol := Tr.col_get (f := Prod.snd) rfl (r := Tr.tab Sc.isName l l.length) (n := l.length) (j := at_.toNat) (m := 0 + at_.toNat * 1) (by omega) (by rw [Tr.tab_len]; omega) (by omega)
    rw [e]
    refine APure.of_awp Tryz.func13 rfl (Nat.le_of_ble_eq_true (by kernel_rfl)) (by kernel_rfl) ?_
    intro s
    conv => whnf
    repeat' ((first | refine ⟨Sub.refl _, ?_⟩ | (refine brA_split (fun h => ?_) (fun h => ?_) <;> (try rw [h]) <;> (try simp only [bN, bS, ↓reduceIte] at h) <;> (first | (exfalso; first | contradiction | omega | exact (by assumption : ¬ True) trivial | fail) | skip)) | refine getB_same ?_ | refine AWp.anyA ?_ | refine and_a ?_ | fail) <;> (conv => whnf))
    refine ACalls.by (hsz _) ?_
    rintro v s' ⟨b1, b2, rfl, hz⟩
    conv => whnf
    repeat' ((first | refine ⟨Sub.refl _, ?_⟩ | (refine brA_split (fun h => ?_) (fun h => ?_) <;> (try rw [h]) <;> (try simp only [bN, bS, ↓reduceIte] at h) <;> (first | (exfalso; first | contradiction | omega | exact (by assumption : ¬ True) trivial | fail) | skip)) | (refine getB_of hz.depth (Tr.aload_eq hcol ?_)) | refine getB_same ?_ | refine AWp.anyA ?_ | refine and_a ?_ | fail) <;> (conv => whnf))
    all_goals exact ⟨hz.sub, rfl⟩
  · have e : dpI l at_ = 0 := if_neg h
    rw [e]
    clear hsz
    refine APure.of_awp Tryz.func13 rfl (Nat.le_of_ble_eq_true (by kernel_rfl)) (by kernel_rfl) ?_
    intro s
    conv => whnf
    repeat' ((first | refine ⟨Sub.refl _, ?_⟩ | (refine brA_split (fun h => ?_) (fun h => ?_) <;> (try rw [h]) <;> (try simp only [bN, bS, ↓reduceIte] at h) <;> (first | (exfalso; first | contradiction | omega | exact (by assumption : ¬ True) trivial | fail) | skip)) | refine getB_same ?_ | refine AWp.anyA ?_ | refine and_a ?_ | fail) <;> (conv => whnf))
    all_goals rfl
/-- The text that Expr tells. -/
def exprS (l : List Tr.Ex) (at_ : Int) : List UInt8 := if dpI l at_ = 0 ∨ 64 < dpI l at_ then [] else (treeF l (at_.toNat + 1) at_.toNat).txt
theorem dp_pos {l : List Tr.Ex} {at_ : Int} (h : dpI l at_ ≠ 0) : 0 ≤ at_ ∧ at_.toNat < l.length ∧ 0 < (ndN l at_.toNat).1 := by
  unfold dpI at h
  split at h
  · rename_i hh
    refine ⟨hh.1, by omega, ?_⟩
    have hb := ndN_bound (l := l) (i := at_.toNat) (by omega)
    have hz := fun h0 => nd_zero (l := l) (i := at_.toNat) (by omega) h0
    omega
  · exact absurd rfl h
theorem expr_ok (hK : Toks Γ) (hT : Qu.Tabs Γ) (hN : Nu.Tens Γ) (hW : Sc.Wds Γ) (t : Nat) {l : List Tr.Ex} {m : Nat} (hl : Listed l m) (at_ : Int) : APure Tryz.prog Γ 7 [.slice t (l.map Tr.exA), .int .i64 at_] fun v => v = .str (exprS l at_) := by
  have hd := depth_ok hW t l hl.len at_
  by_cases h : dpI l at_ = 0 ∨ 64 < dpI l at_
  · rw [show exprS l at_ = [] from if_pos h]
    refine APure.of_awp Tryz.func7 rfl (Nat.le_of_ble_eq_true (by kernel_rfl)) (by kernel_rfl) ?_
    intro s
    conv => whnf
    repeat' ((first | refine ⟨Sub.refl _, ?_⟩ | (refine brA_split (fun h => ?_) (fun h => ?_) <;> (try rw [h]) <;> (try simp only [bN, bS, ↓reduceIte] at h) <;> (first | (exfalso; first | contradiction | omega | exact (by assumption : ¬ True) trivial | fail) | skip)) | (refine ACalls.pure' ?_ (hd); rintro _ rfl) | refine DCall.pure ?_ (hd) | refine getB_same ?_ | refine AWp.anyA ?_ | refine and_a ?_ | fail) <;> (conv => whnf))
    all_goals rfl
  · obtain ⟨h1, h2, h3⟩ := dp_pos (fun e => h (.inl e))
    have htx := text_ok hK hT hN t hl (at_.toNat + 1) at_.toNat (at_.toNat + 1) (by omega) (by omega) h2 h3
    rw [show ((at_.toNat : Nat) : Int) = at_ by omega] at htx
    rw [show exprS l at_ = (treeF l (at_.toNat + 1) at_.toNat).txt from if_neg h]
    clear hK hT hN hW
    refine APure.of_awp Tryz.func7 rfl (Nat.le_of_ble_eq_true (by kernel_rfl)) (by kernel_rfl) ?_
    intro s
    conv => whnf
    repeat' ((first | refine ⟨Sub.refl _, ?_⟩ | (refine brA_split (fun h => ?_) (fun h => ?_) <;> (try rw [h]) <;> (try simp only [bN, bS, ↓reduceIte] at h) <;> (first | (exfalso; first | contradiction | omega | exact (by assumption : ¬ True) trivial | fail) | skip)) | (refine ACalls.pure' ?_ (hd); rintro _ rfl) | refine DCall.pure ?_ (hd) | (refine ACalls.pure' ?_ (htx); rintro _ rfl) | refine DCall.pure ?_ (htx) | refine getB_same ?_ | refine AWp.anyA ?_ | refine and_a ?_ | fail) <;> (conv => whnf))
    all_goals rfl
end Go.Proofs.YtdhgappjicpglaaGreatDoor.Pr
namespace Go.Proofs.YtdhgappjicpglaaGreatDoor.Pr
open Go Go.Ab Go.RowKit Go.Proofs.YtdhgappjicpglaaGreatDoor.Lx Go.Proofs.YtdhgappjicpglaaGreatDoor.Pa
variable {Γ : Nat → AV}
attribute [local irreducible] APure Sto.set Sto.grow
set_option maxRecDepth 10000
set_option maxHeartbeats 4000000
/-- The chapter's example. -/
def exS : List UInt8 := [40, 97, 43, 50, 41, 32, 42, 32, 45, 40, 51, 41]
def exO : List Ex := [{ ex0 with op := 17, name := [97], ln := 1, cl := 2 }, { ex0 with op := 1, vk := 1, vi := 2, ln := 1, cl := 4 }, { ex0 with op := 8, a := 0, b := 1, ln := 1, cl := 3 }, { ex0 with op := 1, vk := 1, vi := 3, ln := 1, cl := 11 }, { ex0 with op := 5, a := 3, ln := 1, cl := 9 }, { ex0 with op := 10, a := 2, b := 4, ln := 1, cl := 7 }]
def exT : List Tr.Ex := [(17, 0, 0, [97], Tr.noVl, 1, 2), (1, 0, 0, [], (1, 2, [], false), 1, 4), (8, 0, 1, [], Tr.noVl, 1, 3), (1, 0, 0, [], (1, 3, [], false), 1, 11), (5, 3, 0, [], Tr.noVl, 1, 9), (10, 2, 4, [], Tr.noVl, 1, 7)]
theorem ex_read : runR exS exprR = .ok exO := by kernel_rfl
theorem ex_same : exsA exO = exT.map Tr.exA := by rfl
theorem ex_listed : Listed exT 40 := ⟨by decide, by decide, by decide, fun x hx => by
  simp only [exT, List.mem_cons, List.not_mem_nil, or_false] at hx
  rcases hx with rfl | rfl | rfl | rfl | rfl | rfl <;> exact ⟨⟨by decide, by decide⟩, by decide⟩⟩
theorem ex_deep : dpI exT 5 = 3 := by kernel_rfl
theorem ex_tree : treeF exT 6 5 = .bin 10 (.par (.bin 8 (.nam [97]) (.con (1, 2, [], false)))) (.una 5 (.par (.con (1, 3, [], false)))) := by kernel_rfl
theorem itoa_dig (u : Nat) (h : u < 10) : Lib.itoa (u : Int) = [UInt8.ofNat (48 + u)] := by rw [Lib.itoa_nonneg, Nu.dec_one h]
theorem ex_text : exprS exT 5 = [40, 97, 32, 43, 32, 50, 41, 32, 42, 32, 45, 40, 51, 41] := by
  unfold exprS
  rw [ex_deep, if_neg (by decide), show (5 : Int).toNat + 1 = 6 from rfl, show (5 : Int).toNat = 5 from rfl, ex_tree]
  show (40 :: (([97] ++ 32 :: ([43] ++ 32 :: Lib.itoa ((2 : Nat) : Int))) ++ [41])) ++ 32 :: ([42] ++ 32 :: ([45] ++ 40 :: (Lib.itoa ((3 : Nat) : Int) ++ [41]))) = _
  rw [itoa_dig 2 (by decide), itoa_dig 3 (by decide)]
  rfl
theorem awake_ok (hK : Toks Γ) (hT : Qu.Tabs Γ) (hN : Nu.Tens Γ) (hW : Sc.Wds Γ) (hO : AsO.ErrT Γ) (hE : AsP.ErrT Γ) (hR : Nu.ErrR Γ) : APure Tryz.prog Γ 6 [] fun v => v = .bool true := by
  have h1 := expr_top hT hW hO hE hR exS (by decide) (fun L hL => allT_text hL)
  rw [ex_read] at h1
  simp only [exprA, ex_same] at h1
  have h2 := expr_ok hK hT hN hW 0 ex_listed 5
  rw [ex_text] at h2
  clear hK hT hN hW hO hE hR
  refine APure.of_awp Tryz.func6 rfl (Nat.le_of_ble_eq_true (by kernel_rfl)) (by kernel_rfl) ?_
  intro s
  conv => whnf
  repeat' ((first | refine ⟨Sub.refl _, ?_⟩ | (refine brA_split (fun h => ?_) (fun h => ?_) <;> (try rw [h]) <;> (try simp only [bN, bS, ↓reduceIte] at h) <;> (first | (exfalso; first | contradiction | omega | exact (by assumption : ¬ True) trivial | fail) | skip)) | (refine ACalls.pure' ?_ (h1); rintro _ rfl) | refine DCall.pure ?_ (h1) | refine getB_same ?_ | refine AWp.anyA ?_ | refine and_a ?_ | fail) <;> (conv => whnf))
  intro b2 hb2
  have k_b2 := hb2
  repeat replace k_b2 := none_of_set k_b2
  conv => whnf
  repeat' ((first | refine ⟨Sub.refl _, ?_⟩ | (refine brA_split (fun h => ?_) (fun h => ?_) <;> (try rw [h]) <;> (try simp only [bN, bS, ↓reduceIte] at h) <;> (first | (exfalso; first | contradiction | omega | exact (by assumption : ¬ True) trivial | fail) | skip)) | refine getB_a ?_ | (refine EqAgg.of grdFail planFail ?_) | (refine ACalls.pure' ?_ (h2); rintro _ rfl) | refine DCall.pure ?_ (h2) | (refine ACalls.pure' ?_ (level_ok _); rintro _ rfl) | refine DCall.pure ?_ (level_ok _) | refine getB_same ?_ | refine AWp.anyA ?_ | refine and_a ?_ | fail) <;> (conv => whnf))
  all_goals exact ⟨suba, by kernel_rfl⟩
theorem levels_law (hK : Toks Γ) (hT : Qu.Tabs Γ) (hN : Nu.Tens Γ) (hW : Sc.Wds Γ) (hO : AsO.ErrT Γ) (hE : AsP.ErrT Γ) (hR : Nu.ErrR Γ) (op : Int) : APure Tryz.prog Γ 4 [.int .i64 op] fun v => v = .bool true := by
  have haw := awake_ok hK hT hN hW hO hE hR
  clear hK hT hN hW hO hE hR
  by_cases h : 1 ≤ op ∧ op ≤ 17
  · rcases op17 h with rfl | rfl | rfl | rfl | rfl | rfl | rfl | rfl | rfl | rfl | rfl | rfl | rfl | rfl | rfl | rfl | rfl
    all_goals
      refine APure.of_awp Tryz.func4 rfl (Nat.le_of_ble_eq_true (by kernel_rfl)) (by kernel_rfl) ?_
      intro s
      conv => whnf
      repeat' ((first | refine ⟨Sub.refl _, ?_⟩ | (refine brA_split (fun h => ?_) (fun h => ?_) <;> (try rw [h]) <;> (try simp only [bN, bS, ↓reduceIte] at h) <;> (first | (exfalso; first | contradiction | omega | exact (by assumption : ¬ True) trivial | fail) | skip)) | (refine ACalls.pure' ?_ (level_ok _); rintro _ rfl) | refine DCall.pure ?_ (level_ok _) | (refine ACalls.pure' ?_ (haw); rintro _ rfl) | refine DCall.pure ?_ (haw) | refine getB_same ?_ | refine AWp.anyA ?_ | refine and_a ?_ | fail) <;> (conv => whnf))
      all_goals rfl
  · have e : levP op = 0 := by unfold levP; rw [if_neg (by omega), if_neg (by omega)]
    have hlv := level_ok (Γ := Γ) op
    rw [e] at hlv
    by_cases h0 : op = 0
    · subst h0
      refine APure.of_awp Tryz.func4 rfl (Nat.le_of_ble_eq_true (by kernel_rfl)) (by kernel_rfl) ?_
      intro s
      conv => whnf
      repeat' ((first | refine ⟨Sub.refl _, ?_⟩ | (refine brA_split (fun h => ?_) (fun h => ?_) <;> (try rw [h]) <;> (try simp only [bN, bS, ↓reduceIte] at h) <;> (first | (exfalso; first | contradiction | omega | exact (by assumption : ¬ True) trivial | fail) | skip)) | (refine ACalls.pure' ?_ (hlv); rintro _ rfl) | refine DCall.pure ?_ (hlv) | (refine ACalls.pure' ?_ (haw); rintro _ rfl) | refine DCall.pure ?_ (haw) | refine getB_same ?_ | refine AWp.anyA ?_ | refine and_a ?_ | fail) <;> (conv => whnf))
      all_goals rfl
    · refine APure.of_awp Tryz.func4 rfl (Nat.le_of_ble_eq_true (by kernel_rfl)) (by kernel_rfl) ?_
      intro s
      conv => whnf
      repeat' ((first | refine ⟨Sub.refl _, ?_⟩ | (refine brA_split (fun h => ?_) (fun h => ?_) <;> (try rw [h]) <;> (try simp only [bN, bS, ↓reduceIte] at h) <;> (first | (exfalso; first | contradiction | omega | exact (by assumption : ¬ True) trivial | fail) | skip)) | (refine ACalls.pure' ?_ (hlv); rintro _ rfl) | refine DCall.pure ?_ (hlv) | (refine ACalls.pure' ?_ (haw); rintro _ rfl) | refine DCall.pure ?_ (haw) | refine getB_same ?_ | refine AWp.anyA ?_ | refine and_a ?_ | fail) <;> (conv => whnf))
      all_goals first | rfl | (exfalso; have h9 : op < 18 := h; omega) | fail
end Go.Proofs.YtdhgappjicpglaaGreatDoor.Pr
namespace Go.Ab
open Go
theorem laid_handles {P : Program} {laid : List (String × DataW Unit)} {W : World} {x : String × DataW Unit} {hs : List (String × DataW Unit)} (h : laidMetH P laid W)
    (hf : (laid.filter fun x => x.2.handleName?.isSome) = x :: hs) : laidMet P (laid.filter fun x => x.2.handleName?.isNone) W ∧ handlesMet P (x :: hs) W := by
  unfold laidMetH at h
  rw [hf] at h
  exact h
theorem laid_vars' {P : Program} {laid : List (String × DataW Unit)} {W : World} (h : laidMet P laid W) : ∃ ps, DataW.LaidVars P W laid ps := by
  obtain ⟨ps, h, _⟩ := h
  exact ⟨ps, h⟩
theorem handle_glob {P : Program} {W : World} {n : String} {d : DataW Unit} {name : List UInt8} {g u ty : Nat} (h : handlesMet P [(n, d)] W) (hfn : d.funcsIn? = none) (hn : d.handleName? = some name) (hg : P.globalNamed n = some g)
    (hu : (P.cutTypes.find? (·.1 == "internal/reflectlite.rtype")).map (·.2) = some u) (hone : ((List.range P.types.size).filter fun t => P.rowNamed t name) = [ty]) :
    GlobR (startG W) W g (.cptr [.iface u (.agg [.ptr (some ⟨P.globals.size, ty, none⟩)])]) := by
  have h1 := h (n, d) (List.mem_singleton.2 rfl)
  simp only [hfn] at h1
  obtain ⟨nm, u', ty', e1, e2, e3, e4, hv⟩ := h1
  rw [hn] at e1
  obtain rfl := Option.some.inj e1
  rw [hu] at e2
  obtain rfl := Option.some.inj e2
  have hm : ty' ∈ (List.range P.types.size).filter fun t => P.rowNamed t name := List.mem_filter.2 ⟨List.mem_range.2 e3, e4⟩
  rw [hone] at hm
  obtain rfl := List.mem_singleton.1 hm
  have hblk : ∃ T fr, W.heap[g]? = some (.cells #[.iface u (.agg #[typeHandle P ty'])] T fr) := by
    simp only [World.var?, hg, Option.bind_some] at hv
    split at hv
    · rename_i c T fr hh
      simp only [Option.some.injEq] at hv
      subst hv
      exact ⟨T, fr, hh⟩
    · cases hv
  obtain ⟨T, fr, hblk⟩ := hblk
  have hlt : g < W.heap.size := (Array.getElem?_eq_some_iff.1 hblk).1
  have hgood : ∀ o, (startG W).good g o := fun o => by
    unfold Gh.good startG
    simp [hlt]
  refine ⟨by simp [startG, hlt], ⟨_, T, fr, hblk, rfl⟩, R_cptr.2 ⟨g, 0, rfl, ?_⟩⟩
  unfold RCells
  refine ⟨hgood _, ⟨.iface u (.agg #[typeHandle P ty']), by simp [World.cell?, hblk], R_iface.2 ⟨_, rfl, R_agg.2 ⟨_, rfl, ?_⟩⟩⟩, by unfold RCells; trivial⟩
  exact RList_cons.2 ⟨_, _, rfl, R_ptr.2 rfl, RList_nil.2 rfl⟩
/-- Listed variables laid over any world. -/
theorem laidMet_over {P : Program} {w0 : World} {laid : List (String × DataW Unit)} (args : Array Value) (hf : w0.layFits P laid [] = true) (hi : w0.layIfaces P laid (w0.layVars P laid) = true) :
    laidMet P laid ((w0.layVars P laid).forCall (fun _ _ => 0) ⟨#[], args, []⟩).memory := by
  have e1 : (laid.filter fun x => (laid.map (·.1)).contains x.1) = laid := List.filter_eq_self.2 fun x hx => List.contains_iff_mem.2 (List.mem_map.2 ⟨x, hx, rfl⟩)
  have e2 : (laid.filter fun x => !(laid.map (·.1)).contains x.1) = [] := List.filter_eq_nil_iff.2 fun x hx => by rw [List.contains_iff_mem.2 (List.mem_map.2 ⟨x, hx, rfl⟩)]; simp
  have h : laidMet P laid (w0.layVars P laid) := laidMet_layVars (w0 := w0) (laid.map (·.1)) [] (by rw [e1]) (by rw [e1]; exact hf) (by rw [e1]; exact hi) (by rw [e2]; exact LaidIn.none)
  exact h.of_heap (by simp [World.memory, World.forCall, Input.heap])
end Go.Ab
namespace Go.Ab
open Go
theorem laid_err {P : Program} {n nm : String} {text : List UInt8} {r : List (String × DataW Unit)} {W : World} {g : Nat} {ti tp te ts : TypeId} {ms : Array (String × TypeId)} {f : Field}
    (h : laidMet P ((n, .iface nm (.ptr (.agg [.lit (.string text)]))) :: r) W)
    (hg : P.globalNamed n = some g) (ht : (P.globals[g]?).map (·.type) = some ti) (hi : P.underlying ti = some (.interface ms)) (hrow : ∀ u, P.typeName? 3 u = some nm → u = tp)
    (hp : P.underlying tp = some (.pointer te)) (he : P.underlying te = some (.struct #[f])) (hft : f.type = ts) (hfo : f.offset = 0) (hs : P.underlying ts = some .string) (hc : P.cellsOf te = 1) (hcs : P.cellsOf ts = 1) :
    GlobR (startG W) W g (.cptr [.iface tp (.cptr [.str text])]) := by
  obtain ⟨a, s, hv, hcell, hst, _⟩ := laid_sentinel h hg ht hi hrow hp he hft hfo hs hc hcs
  have hcg := World.var?_cell hg hv 0
  have hlt : ∀ (x : Addr) (v : Value), W.cell? x = some v → x.block < W.heap.size ∧ x.spot = none := by
    intro x v hx
    unfold World.cell? at hx
    split at hx
    · rename_i hh
      split at hx
      · cases hx
      · rename_i hsp
        exact ⟨(Array.getElem?_eq_some_iff.1 hh).1, by simpa using hsp⟩
    · cases hx
  obtain ⟨hb1, hsp⟩ := hlt a _ hcell
  have hg0 : W.cell? ⟨g, 0, none⟩ = some (.iface tp (.pointer (some a))) := by rw [hcg]; rfl
  obtain ⟨hb0, _⟩ := hlt _ _ hg0
  obtain ⟨ab, ao, asp⟩ := a
  dsimp only at hsp hb1
  subst hsp
  have hgood : ∀ b o, b < W.heap.size → (startG W).good b o := fun b o hb => by
    unfold Gh.good startG
    simp [hb]
  have hblk : ∃ T fr, W.heap[g]? = some (.cells #[.iface tp (.pointer (some ⟨ab, ao, none⟩))] T fr) := by
    simp only [World.var?, hg, Option.bind_some] at hv
    split at hv
    · rename_i c T fr hh
      simp only [Option.some.injEq] at hv
      subst hv
      exact ⟨T, fr, hh⟩
    · cases hv
  obtain ⟨T, fr, hblk⟩ := hblk
  refine ⟨by simp [startG, hb0], ⟨_, T, fr, hblk, rfl⟩, R_cptr.2 ⟨g, 0, rfl, ?_⟩⟩
  have inner : R (startG W) W (.cptr [.str text]) (.pointer (some ⟨ab, ao, none⟩)) := by
    refine R_cptr.2 ⟨ab, ao, rfl, ?_⟩
    unfold RCells
    refine ⟨hgood _ _ hb1, ⟨_, hcell, R_str.2 ?_⟩, by unfold RCells; trivial⟩
    subst hst
    rfl
  unfold RCells
  exact ⟨hgood _ _ hb0, ⟨_, hg0, R_iface.2 ⟨_, rfl, inner⟩⟩, by unfold RCells; trivial⟩
end Go.Ab
