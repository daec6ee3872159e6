/- Part 5 of what the closing text needs: PaT2, PaT3, PaZ3, PaZ4, PaX2, PaZ2, PaY, PaY2, PaZ5, PaZ6, PaO, Ha1, Er2. No condition of mine beyond those that the theorems name. -/
import Derived.Test.YthpnfflkkmpejaaGreatDoorG4
import Derived.LaidHandle
import Derived.LaidLaws
import Derived.Lay
import Derived.Stop.LaidErr
set_option linter.all false
namespace Go.Proofs.YthpnfflkkmpejaaGreatDoor.Pa
open Go Go.Ab Go.RowKit Go.Proofs.YthpnfflkkmpejaaGreatDoor.Lx
variable {Γ : Nat → AV}
attribute [local irreducible] APure Sto.set Sto.grow
set_option maxRecDepth 10000
set_option maxHeartbeats 2000000
section
variable {L : List Tok} {a : Nat} {k : Int} {tk : Nat} {z1 z3 z4 : Int} {z2 : List UInt8}
theorem rv_num0 (htl : (toksA L).length = L.length) (hlt : a < L.length) (hg : (toksA L).getD a [] = [.int .i64 3, .str z2, .int .i64 z3, .int .i64 z4])
    (hT : APure Tryz.prog Γ 16 [.slice tk (toksA L), .agg (plA (alv a k)), .str [116, 114, 117, 101]] fun v => v = .bool false)
    (hF : APure Tryz.prog Γ 16 [.slice tk (toksA L), .agg (plA (alv a k)), .str [102, 97, 108, 115, 101]] fun v => v = .bool false)
    (hM : APure Tryz.prog Γ 16 [.slice tk (toksA L), .agg (plA (alv a k)), .str [45]] fun v => v = .bool false)
    (hsk : APure Tryz.prog Γ 17 [.agg (plA (alv a k))] fun v => v = .agg (plA (alv (a + 1) k)))
    (hsq : APure Tryz.prog Γ 17 [.agg (plA (alv (a) k))] fun v => v = .agg (plA (alv (a + 1) k)))
    {st : Pl} (hst : APure Tryz.prog Γ 69 [.slice tk (toksA L), .agg (plA (alv (a) k)), .int .i64 5] fun v => v = .agg (plA st))
    {n e : Int} (h0 : z2 = [48] → n = 0 ∧ e = 0) (hlen : z2.length ≤ 5000) (hnu : APure Tryz.prog Γ 133 [.str (signL false z2)] fun v => v = .tuple [.int .i64 n, .int .i64 e]) :
    APure Tryz.prog Γ 122 [.slice tk (toksA L), .agg (plA (alv a k))] fun v => v = if e ≠ 0 then .tuple [.agg (vlA (0, 0, [], false)), .agg (plA st), .bool true] else .tuple [.agg (vlA (1, n, [], false)), .agg (plA (alv (a + 1) k)), .bool true] := by
  obtain ⟨s1, s2, s3, s4, s5⟩ := st
  by_cases hd : z2 = [48]
  · obtain ⟨rfl, rfl⟩ := h0 hd
    subst hd
    rw [if_neg (by decide)]
    simp only [plA, alv, vlA] at *
    clear hnu hst hlen
    refine APure.of_awp Tryz.func122 rfl (Nat.le_of_ble_eq_true (by kernel_rfl)) (by kernel_rfl) ?_
    intro s
    conv => whnf
    intro b3 hb3
    have k_b3 := hb3
    repeat replace k_b3 := none_of_set k_b3
    conv => whnf
    intro b4 hb4
    have k_b4 := hb4
    repeat replace k_b4 := none_of_set k_b4
    have n_b3_b4 : b3 ≠ b4 := by (have k := hb4; repeat (first | exact ne_set k | replace k := none_of_set k))
    have n_b4_b3 := n_b3_b4.symm
    conv => whnf
    intro b5 hb5
    have k_b5 := hb5
    repeat replace k_b5 := none_of_set k_b5
    have n_b3_b5 : b3 ≠ b5 := by (have k := hb5; repeat (first | exact ne_set k | replace k := none_of_set k))
    have n_b5_b3 := n_b3_b5.symm
    have n_b4_b5 : b4 ≠ b5 := by (have k := hb5; repeat (first | exact ne_set k | replace k := none_of_set k))
    have n_b5_b4 := n_b4_b5.symm
    conv => whnf
    repeat' ((first | refine ⟨Sub.refl _, ?_⟩ | (refine brA_split (fun h => ?_) (fun h => ?_) <;> (try rw [h]) <;> (try simp only [bS, ↓reduceIte] at h) <;> (first | (exfalso; first | contradiction | omega | exact (by assumption : ¬ True) trivial | fail) | skip)) | refine getB_a ?_ | refine getB_same ?_ | refine AWp.anyA ?_ | refine and_a ?_ | fail) <;> (conv => whnf))
    intro b7 hb7
    have k_b7 := hb7
    repeat replace k_b7 := none_of_set k_b7
    have n_b3_b7 : b3 ≠ b7 := by (have k := hb7; repeat (first | exact ne_set k | replace k := none_of_set k))
    have n_b7_b3 := n_b3_b7.symm
    have n_b4_b7 : b4 ≠ b7 := by (have k := hb7; repeat (first | exact ne_set k | replace k := none_of_set k))
    have n_b7_b4 := n_b4_b7.symm
    have n_b5_b7 : b5 ≠ b7 := by (have k := hb7; repeat (first | exact ne_set k | replace k := none_of_set k))
    have n_b7_b5 := n_b5_b7.symm
    conv => whnf
    repeat' ((first | refine ⟨Sub.refl _, ?_⟩ | (refine brA_split (fun h => ?_) (fun h => ?_) <;> (try rw [h]) <;> (try simp only [bN, bS, ↓reduceIte] at h) <;> (first | (exfalso; first | contradiction | omega | exact (by assumption : ¬ True) trivial | fail) | skip)) | refine getB_a ?_ | refine ⟨len_of (hg) rfl, Go.Ab.frcL_of (hg) ?_⟩ | refine getB_same ?_ | refine AWp.anyA ?_ | refine and_a ?_ | fail) <;> (conv => whnf))
    intro b8 hb8
    have k_b8 := hb8
    repeat replace k_b8 := none_of_set k_b8
    have n_b3_b8 : b3 ≠ b8 := by (have k := hb8; repeat (first | exact ne_set k | replace k := none_of_set k))
    have n_b8_b3 := n_b3_b8.symm
    have n_b4_b8 : b4 ≠ b8 := by (have k := hb8; repeat (first | exact ne_set k | replace k := none_of_set k))
    have n_b8_b4 := n_b4_b8.symm
    have n_b5_b8 : b5 ≠ b8 := by (have k := hb8; repeat (first | exact ne_set k | replace k := none_of_set k))
    have n_b8_b5 := n_b5_b8.symm
    have n_b7_b8 : b7 ≠ b8 := by (have k := hb8; repeat (first | exact ne_set k | replace k := none_of_set k))
    have n_b8_b7 := n_b7_b8.symm
    conv => whnf
    repeat' ((first | refine ⟨Sub.refl _, ?_⟩ | (refine brA_split (fun h => ?_) (fun h => ?_) <;> (try rw [h]) <;> (try simp only [bN, bS, ↓reduceIte] at h) <;> (first | (exfalso; first | contradiction | omega | exact (by assumption : ¬ True) trivial | fail) | skip)) | refine getB_a ?_ | (refine ACalls.pure' ?_ (hT); rintro _ rfl) | refine DCall.pure ?_ (hT) | (refine ACalls.pure' ?_ (hF); rintro _ rfl) | refine DCall.pure ?_ (hF) | refine getB_same ?_ | refine AWp.anyA ?_ | refine and_a ?_ | fail) <;> (conv => whnf))
    intro b10 hb10
    have k_b10 := hb10
    repeat replace k_b10 := none_of_set k_b10
    have n_b3_b10 : b3 ≠ b10 := by (have k := hb10; repeat (first | exact ne_set k | replace k := none_of_set k))
    have n_b10_b3 := n_b3_b10.symm
    have n_b4_b10 : b4 ≠ b10 := by (have k := hb10; repeat (first | exact ne_set k | replace k := none_of_set k))
    have n_b10_b4 := n_b4_b10.symm
    have n_b5_b10 : b5 ≠ b10 := by (have k := hb10; repeat (first | exact ne_set k | replace k := none_of_set k))
    have n_b10_b5 := n_b5_b10.symm
    have n_b7_b10 : b7 ≠ b10 := by (have k := hb10; repeat (first | exact ne_set k | replace k := none_of_set k))
    have n_b10_b7 := n_b7_b10.symm
    have n_b8_b10 : b8 ≠ b10 := by (have k := hb10; repeat (first | exact ne_set k | replace k := none_of_set k))
    have n_b10_b8 := n_b8_b10.symm
    conv => whnf
    repeat' ((first | refine ⟨Sub.refl _, ?_⟩ | (refine brA_split (fun h => ?_) (fun h => ?_) <;> (try rw [h]) <;> (try simp only [bN, bS, ↓reduceIte] at h) <;> (first | (exfalso; first | contradiction | omega | exact (by assumption : ¬ True) trivial | fail) | skip)) | refine getB_a ?_ | (refine ACalls.pure' ?_ (hM); rintro _ rfl) | refine DCall.pure ?_ (hM) | (refine ACalls.pure' ?_ (hsk); rintro _ rfl) | refine DCall.pure ?_ (hsk) | (refine ACalls.pure' ?_ (hsq); rintro _ rfl) | refine DCall.pure ?_ (hsq) | refine ⟨len_of (hg) rfl, Go.Ab.frcL_of (hg) ?_⟩ | refine getB_same ?_ | refine AWp.anyA ?_ | refine and_a ?_ | fail) <;> (conv => whnf))
    all_goals first | exact ⟨suba, rfl⟩ | fail
  · have hsg : signL false z2 = [] ++ z2 := by unfold signL; simp [hd]
    rw [hsg] at hnu
    have hll : ([] : List UInt8).length + z2.length ≤ 9223372036854775807 := by simp only [List.length_cons, List.length_nil]; omega
    by_cases he : e ≠ 0
    · rw [if_pos he]
      simp only [plA, alv, vlA] at *
      refine APure.of_awp Tryz.func122 rfl (Nat.le_of_ble_eq_true (by kernel_rfl)) (by kernel_rfl) ?_
      intro s
      conv => whnf
      intro b3 hb3
      have k_b3 := hb3
      repeat replace k_b3 := none_of_set k_b3
      conv => whnf
      intro b4 hb4
      have k_b4 := hb4
      repeat replace k_b4 := none_of_set k_b4
      have n_b3_b4 : b3 ≠ b4 := by (have k := hb4; repeat (first | exact ne_set k | replace k := none_of_set k))
      have n_b4_b3 := n_b3_b4.symm
      conv => whnf
      intro b5 hb5
      have k_b5 := hb5
      repeat replace k_b5 := none_of_set k_b5
      have n_b3_b5 : b3 ≠ b5 := by (have k := hb5; repeat (first | exact ne_set k | replace k := none_of_set k))
      have n_b5_b3 := n_b3_b5.symm
      have n_b4_b5 : b4 ≠ b5 := by (have k := hb5; repeat (first | exact ne_set k | replace k := none_of_set k))
      have n_b5_b4 := n_b4_b5.symm
      conv => whnf
      repeat' ((first | refine ⟨Sub.refl _, ?_⟩ | (refine brA_split (fun h => ?_) (fun h => ?_) <;> (try rw [h]) <;> (try simp only [bS, ↓reduceIte] at h) <;> (first | (exfalso; first | contradiction | omega | exact (by assumption : ¬ True) trivial | fail) | skip)) | refine getB_a ?_ | refine getB_same ?_ | refine AWp.anyA ?_ | refine and_a ?_ | fail) <;> (conv => whnf))
      intro b7 hb7
      have k_b7 := hb7
      repeat replace k_b7 := none_of_set k_b7
      have n_b3_b7 : b3 ≠ b7 := by (have k := hb7; repeat (first | exact ne_set k | replace k := none_of_set k))
      have n_b7_b3 := n_b3_b7.symm
      have n_b4_b7 : b4 ≠ b7 := by (have k := hb7; repeat (first | exact ne_set k | replace k := none_of_set k))
      have n_b7_b4 := n_b4_b7.symm
      have n_b5_b7 : b5 ≠ b7 := by (have k := hb7; repeat (first | exact ne_set k | replace k := none_of_set k))
      have n_b7_b5 := n_b5_b7.symm
      conv => whnf
      repeat' ((first | refine ⟨Sub.refl _, ?_⟩ | (refine brA_split (fun h => ?_) (fun h => ?_) <;> (try rw [h]) <;> (try simp only [bN, bS, ↓reduceIte] at h) <;> (first | (exfalso; first | contradiction | omega | exact (by assumption : ¬ True) trivial | fail) | skip)) | refine getB_a ?_ | refine ⟨len_of (hg) rfl, Go.Ab.frcL_of (hg) ?_⟩ | refine getB_same ?_ | refine AWp.anyA ?_ | refine and_a ?_ | fail) <;> (conv => whnf))
      intro b8 hb8
      have k_b8 := hb8
      repeat replace k_b8 := none_of_set k_b8
      have n_b3_b8 : b3 ≠ b8 := by (have k := hb8; repeat (first | exact ne_set k | replace k := none_of_set k))
      have n_b8_b3 := n_b3_b8.symm
      have n_b4_b8 : b4 ≠ b8 := by (have k := hb8; repeat (first | exact ne_set k | replace k := none_of_set k))
      have n_b8_b4 := n_b4_b8.symm
      have n_b5_b8 : b5 ≠ b8 := by (have k := hb8; repeat (first | exact ne_set k | replace k := none_of_set k))
      have n_b8_b5 := n_b5_b8.symm
      have n_b7_b8 : b7 ≠ b8 := by (have k := hb8; repeat (first | exact ne_set k | replace k := none_of_set k))
      have n_b8_b7 := n_b7_b8.symm
      conv => whnf
      repeat' ((first | refine ⟨Sub.refl _, ?_⟩ | (refine brA_split (fun h => ?_) (fun h => ?_) <;> (try rw [h]) <;> (try simp only [bN, bS, ↓reduceIte] at h) <;> (first | (exfalso; first | contradiction | omega | exact (by assumption : ¬ True) trivial | fail) | skip)) | refine getB_a ?_ | (refine ACalls.pure' ?_ (hT); rintro _ rfl) | refine DCall.pure ?_ (hT) | (refine ACalls.pure' ?_ (hF); rintro _ rfl) | refine DCall.pure ?_ (hF) | refine getB_same ?_ | refine AWp.anyA ?_ | refine and_a ?_ | fail) <;> (conv => whnf))
      intro b10 hb10
      have k_b10 := hb10
      repeat replace k_b10 := none_of_set k_b10
      have n_b3_b10 : b3 ≠ b10 := by (have k := hb10; repeat (first | exact ne_set k | replace k := none_of_set k))
      have n_b10_b3 := n_b3_b10.symm
      have n_b4_b10 : b4 ≠ b10 := by (have k := hb10; repeat (first | exact ne_set k | replace k := none_of_set k))
      have n_b10_b4 := n_b4_b10.symm
      have n_b5_b10 : b5 ≠ b10 := by (have k := hb10; repeat (first | exact ne_set k | replace k := none_of_set k))
      have n_b10_b5 := n_b5_b10.symm
      have n_b7_b10 : b7 ≠ b10 := by (have k := hb10; repeat (first | exact ne_set k | replace k := none_of_set k))
      have n_b10_b7 := n_b7_b10.symm
      have n_b8_b10 : b8 ≠ b10 := by (have k := hb10; repeat (first | exact ne_set k | replace k := none_of_set k))
      have n_b10_b8 := n_b8_b10.symm
      conv => whnf
      repeat' ((first | refine ⟨Sub.refl _, ?_⟩ | (refine brA_split (fun h => ?_) (fun h => ?_) <;> (try rw [h]) <;> (try simp only [bN, bS, ↓reduceIte] at h) <;> (first | (exfalso; first | contradiction | omega | exact (by assumption : ¬ True) trivial | fail) | skip)) | refine getB_a ?_ | (refine ACalls.pure' ?_ (hM); rintro _ rfl) | refine DCall.pure ?_ (hM) | (refine ACalls.pure' ?_ (hsk); rintro _ rfl) | refine DCall.pure ?_ (hsk) | (refine ACalls.pure' ?_ (hnu); rintro _ rfl) | refine DCall.pure ?_ (hnu) | (refine ACalls.pure' ?_ (hst); rintro _ rfl) | refine DCall.pure ?_ (hst) | refine ⟨len_of (hg) rfl, Go.Ab.frcL_of (hg) ?_⟩ | (refine ⟨hll, ?_⟩) | refine getB_same ?_ | refine AWp.anyA ?_ | refine and_a ?_ | fail) <;> (conv => whnf))
      all_goals first | exact ⟨suba, rfl⟩ | fail
    · rw [if_neg he]
      simp only [plA, alv, vlA] at *
      refine APure.of_awp Tryz.func122 rfl (Nat.le_of_ble_eq_true (by kernel_rfl)) (by kernel_rfl) ?_
      intro s
      conv => whnf
      intro b3 hb3
      have k_b3 := hb3
      repeat replace k_b3 := none_of_set k_b3
      conv => whnf
      intro b4 hb4
      have k_b4 := hb4
      repeat replace k_b4 := none_of_set k_b4
      have n_b3_b4 : b3 ≠ b4 := by (have k := hb4; repeat (first | exact ne_set k | replace k := none_of_set k))
      have n_b4_b3 := n_b3_b4.symm
      conv => whnf
      intro b5 hb5
      have k_b5 := hb5
      repeat replace k_b5 := none_of_set k_b5
      have n_b3_b5 : b3 ≠ b5 := by (have k := hb5; repeat (first | exact ne_set k | replace k := none_of_set k))
      have n_b5_b3 := n_b3_b5.symm
      have n_b4_b5 : b4 ≠ b5 := by (have k := hb5; repeat (first | exact ne_set k | replace k := none_of_set k))
      have n_b5_b4 := n_b4_b5.symm
      conv => whnf
      repeat' ((first | refine ⟨Sub.refl _, ?_⟩ | (refine brA_split (fun h => ?_) (fun h => ?_) <;> (try rw [h]) <;> (try simp only [bS, ↓reduceIte] at h) <;> (first | (exfalso; first | contradiction | omega | exact (by assumption : ¬ True) trivial | fail) | skip)) | refine getB_a ?_ | refine getB_same ?_ | refine AWp.anyA ?_ | refine and_a ?_ | fail) <;> (conv => whnf))
      intro b7 hb7
      have k_b7 := hb7
      repeat replace k_b7 := none_of_set k_b7
      have n_b3_b7 : b3 ≠ b7 := by (have k := hb7; repeat (first | exact ne_set k | replace k := none_of_set k))
      have n_b7_b3 := n_b3_b7.symm
      have n_b4_b7 : b4 ≠ b7 := by (have k := hb7; repeat (first | exact ne_set k | replace k := none_of_set k))
      have n_b7_b4 := n_b4_b7.symm
      have n_b5_b7 : b5 ≠ b7 := by (have k := hb7; repeat (first | exact ne_set k | replace k := none_of_set k))
      have n_b7_b5 := n_b5_b7.symm
      conv => whnf
      repeat' ((first | refine ⟨Sub.refl _, ?_⟩ | (refine brA_split (fun h => ?_) (fun h => ?_) <;> (try rw [h]) <;> (try simp only [bN, bS, ↓reduceIte] at h) <;> (first | (exfalso; first | contradiction | omega | exact (by assumption : ¬ True) trivial | fail) | skip)) | refine getB_a ?_ | refine ⟨len_of (hg) rfl, Go.Ab.frcL_of (hg) ?_⟩ | refine getB_same ?_ | refine AWp.anyA ?_ | refine and_a ?_ | fail) <;> (conv => whnf))
      intro b8 hb8
      have k_b8 := hb8
      repeat replace k_b8 := none_of_set k_b8
      have n_b3_b8 : b3 ≠ b8 := by (have k := hb8; repeat (first | exact ne_set k | replace k := none_of_set k))
      have n_b8_b3 := n_b3_b8.symm
      have n_b4_b8 : b4 ≠ b8 := by (have k := hb8; repeat (first | exact ne_set k | replace k := none_of_set k))
      have n_b8_b4 := n_b4_b8.symm
      have n_b5_b8 : b5 ≠ b8 := by (have k := hb8; repeat (first | exact ne_set k | replace k := none_of_set k))
      have n_b8_b5 := n_b5_b8.symm
      have n_b7_b8 : b7 ≠ b8 := by (have k := hb8; repeat (first | exact ne_set k | replace k := none_of_set k))
      have n_b8_b7 := n_b7_b8.symm
      conv => whnf
      repeat' ((first | refine ⟨Sub.refl _, ?_⟩ | (refine brA_split (fun h => ?_) (fun h => ?_) <;> (try rw [h]) <;> (try simp only [bN, bS, ↓reduceIte] at h) <;> (first | (exfalso; first | contradiction | omega | exact (by assumption : ¬ True) trivial | fail) | skip)) | refine getB_a ?_ | (refine ACalls.pure' ?_ (hT); rintro _ rfl) | refine DCall.pure ?_ (hT) | (refine ACalls.pure' ?_ (hF); rintro _ rfl) | refine DCall.pure ?_ (hF) | refine getB_same ?_ | refine AWp.anyA ?_ | refine and_a ?_ | fail) <;> (conv => whnf))
      intro b10 hb10
      have k_b10 := hb10
      repeat replace k_b10 := none_of_set k_b10
      have n_b3_b10 : b3 ≠ b10 := by (have k := hb10; repeat (first | exact ne_set k | replace k := none_of_set k))
      have n_b10_b3 := n_b3_b10.symm
      have n_b4_b10 : b4 ≠ b10 := by (have k := hb10; repeat (first | exact ne_set k | replace k := none_of_set k))
      have n_b10_b4 := n_b4_b10.symm
      have n_b5_b10 : b5 ≠ b10 := by (have k := hb10; repeat (first | exact ne_set k | replace k := none_of_set k))
      have n_b10_b5 := n_b5_b10.symm
      have n_b7_b10 : b7 ≠ b10 := by (have k := hb10; repeat (first | exact ne_set k | replace k := none_of_set k))
      have n_b10_b7 := n_b7_b10.symm
      have n_b8_b10 : b8 ≠ b10 := by (have k := hb10; repeat (first | exact ne_set k | replace k := none_of_set k))
      have n_b10_b8 := n_b8_b10.symm
      conv => whnf
      repeat' ((first | refine ⟨Sub.refl _, ?_⟩ | (refine brA_split (fun h => ?_) (fun h => ?_) <;> (try rw [h]) <;> (try simp only [bN, bS, ↓reduceIte] at h) <;> (first | (exfalso; first | contradiction | omega | exact (by assumption : ¬ True) trivial | fail) | skip)) | refine getB_a ?_ | (refine ACalls.pure' ?_ (hM); rintro _ rfl) | refine DCall.pure ?_ (hM) | (refine ACalls.pure' ?_ (hsk); rintro _ rfl) | refine DCall.pure ?_ (hsk) | (refine ACalls.pure' ?_ (hnu); rintro _ rfl) | refine DCall.pure ?_ (hnu) | (refine ACalls.pure' ?_ (hsq); rintro _ rfl) | refine DCall.pure ?_ (hsq) | refine ⟨len_of (hg) rfl, Go.Ab.frcL_of (hg) ?_⟩ | (refine ⟨hll, ?_⟩) | refine getB_same ?_ | refine AWp.anyA ?_ | refine and_a ?_ | fail) <;> (conv => whnf))
      all_goals first | exact ⟨suba, rfl⟩ | fail
theorem rv_num1 (htl : (toksA L).length = L.length) (hlt : a + 1 < L.length) (hg : (toksA L).getD a [] = [.int .i64 z1, .str z2, .int .i64 z3, .int .i64 z4]) (h4 : z1 ≠ 4) {y3 y4 : Int} {y2 : List UInt8} (hgq : (toksA L).getD (a + 1) [] = [.int .i64 3, .str y2, .int .i64 y3, .int .i64 y4])
    (hT : APure Tryz.prog Γ 16 [.slice tk (toksA L), .agg (plA (alv a k)), .str [116, 114, 117, 101]] fun v => v = .bool false)
    (hF : APure Tryz.prog Γ 16 [.slice tk (toksA L), .agg (plA (alv a k)), .str [102, 97, 108, 115, 101]] fun v => v = .bool false)
    (hM : APure Tryz.prog Γ 16 [.slice tk (toksA L), .agg (plA (alv a k)), .str [45]] fun v => v = .bool true)
    (hsk : APure Tryz.prog Γ 17 [.agg (plA (alv a k))] fun v => v = .agg (plA (alv (a + 1) k)))
    (hsq : APure Tryz.prog Γ 17 [.agg (plA (alv (a + 1) k))] fun v => v = .agg (plA (alv (a + 1 + 1) k)))
    {st : Pl} (hst : APure Tryz.prog Γ 69 [.slice tk (toksA L), .agg (plA (alv (a + 1) k)), .int .i64 5] fun v => v = .agg (plA st))
    {n e : Int} (h0 : y2 = [48] → n = 0 ∧ e = 0) (hlen : y2.length ≤ 5000) (hnu : APure Tryz.prog Γ 133 [.str (signL true y2)] fun v => v = .tuple [.int .i64 n, .int .i64 e]) :
    APure Tryz.prog Γ 122 [.slice tk (toksA L), .agg (plA (alv a k))] fun v => v = if e ≠ 0 then .tuple [.agg (vlA (0, 0, [], false)), .agg (plA st), .bool true] else .tuple [.agg (vlA (1, n, [], false)), .agg (plA (alv (a + 1 + 1) k)), .bool true] := by
  obtain ⟨s1, s2, s3, s4, s5⟩ := st
  by_cases hd : y2 = [48]
  · obtain ⟨rfl, rfl⟩ := h0 hd
    subst hd
    rw [if_neg (by decide)]
    simp only [plA, alv, vlA] at *
    clear hnu hst hlen
    refine APure.of_awp Tryz.func122 rfl (Nat.le_of_ble_eq_true (by kernel_rfl)) (by kernel_rfl) ?_
    intro s
    conv => whnf
    intro b3 hb3
    have k_b3 := hb3
    repeat replace k_b3 := none_of_set k_b3
    conv => whnf
    intro b4 hb4
    have k_b4 := hb4
    repeat replace k_b4 := none_of_set k_b4
    have n_b3_b4 : b3 ≠ b4 := by (have k := hb4; repeat (first | exact ne_set k | replace k := none_of_set k))
    have n_b4_b3 := n_b3_b4.symm
    conv => whnf
    intro b5 hb5
    have k_b5 := hb5
    repeat replace k_b5 := none_of_set k_b5
    have n_b3_b5 : b3 ≠ b5 := by (have k := hb5; repeat (first | exact ne_set k | replace k := none_of_set k))
    have n_b5_b3 := n_b3_b5.symm
    have n_b4_b5 : b4 ≠ b5 := by (have k := hb5; repeat (first | exact ne_set k | replace k := none_of_set k))
    have n_b5_b4 := n_b4_b5.symm
    conv => whnf
    repeat' ((first | refine ⟨Sub.refl _, ?_⟩ | (refine brA_split (fun h => ?_) (fun h => ?_) <;> (try rw [h]) <;> (try simp only [bS, ↓reduceIte] at h) <;> (first | (exfalso; first | contradiction | omega | exact (by assumption : ¬ True) trivial | fail) | skip)) | refine getB_a ?_ | refine getB_same ?_ | refine AWp.anyA ?_ | refine and_a ?_ | fail) <;> (conv => whnf))
    intro b7 hb7
    have k_b7 := hb7
    repeat replace k_b7 := none_of_set k_b7
    have n_b3_b7 : b3 ≠ b7 := by (have k := hb7; repeat (first | exact ne_set k | replace k := none_of_set k))
    have n_b7_b3 := n_b3_b7.symm
    have n_b4_b7 : b4 ≠ b7 := by (have k := hb7; repeat (first | exact ne_set k | replace k := none_of_set k))
    have n_b7_b4 := n_b4_b7.symm
    have n_b5_b7 : b5 ≠ b7 := by (have k := hb7; repeat (first | exact ne_set k | replace k := none_of_set k))
    have n_b7_b5 := n_b5_b7.symm
    conv => whnf
    repeat' ((first | refine ⟨Sub.refl _, ?_⟩ | (refine brA_split (fun h => ?_) (fun h => ?_) <;> (try rw [h]) <;> (try simp only [bN, bS, ↓reduceIte] at h) <;> (first | (exfalso; first | contradiction | omega | exact (by assumption : ¬ True) trivial | fail) | skip)) | refine getB_a ?_ | refine ⟨len_of (hg) rfl, Go.Ab.frcL_of (hg) ?_⟩ | refine getB_same ?_ | refine AWp.anyA ?_ | refine and_a ?_ | fail) <;> (conv => whnf))
    intro b8 hb8
    have k_b8 := hb8
    repeat replace k_b8 := none_of_set k_b8
    have n_b3_b8 : b3 ≠ b8 := by (have k := hb8; repeat (first | exact ne_set k | replace k := none_of_set k))
    have n_b8_b3 := n_b3_b8.symm
    have n_b4_b8 : b4 ≠ b8 := by (have k := hb8; repeat (first | exact ne_set k | replace k := none_of_set k))
    have n_b8_b4 := n_b4_b8.symm
    have n_b5_b8 : b5 ≠ b8 := by (have k := hb8; repeat (first | exact ne_set k | replace k := none_of_set k))
    have n_b8_b5 := n_b5_b8.symm
    have n_b7_b8 : b7 ≠ b8 := by (have k := hb8; repeat (first | exact ne_set k | replace k := none_of_set k))
    have n_b8_b7 := n_b7_b8.symm
    conv => whnf
    repeat' ((first | refine ⟨Sub.refl _, ?_⟩ | (refine brA_split (fun h => ?_) (fun h => ?_) <;> (try rw [h]) <;> (try simp only [bN, bS, ↓reduceIte] at h) <;> (first | (exfalso; first | contradiction | omega | exact (by assumption : ¬ True) trivial | fail) | skip)) | refine getB_a ?_ | (refine ACalls.pure' ?_ (hT); rintro _ rfl) | refine DCall.pure ?_ (hT) | (refine ACalls.pure' ?_ (hF); rintro _ rfl) | refine DCall.pure ?_ (hF) | refine getB_same ?_ | refine AWp.anyA ?_ | refine and_a ?_ | fail) <;> (conv => whnf))
    intro b10 hb10
    have k_b10 := hb10
    repeat replace k_b10 := none_of_set k_b10
    have n_b3_b10 : b3 ≠ b10 := by (have k := hb10; repeat (first | exact ne_set k | replace k := none_of_set k))
    have n_b10_b3 := n_b3_b10.symm
    have n_b4_b10 : b4 ≠ b10 := by (have k := hb10; repeat (first | exact ne_set k | replace k := none_of_set k))
    have n_b10_b4 := n_b4_b10.symm
    have n_b5_b10 : b5 ≠ b10 := by (have k := hb10; repeat (first | exact ne_set k | replace k := none_of_set k))
    have n_b10_b5 := n_b5_b10.symm
    have n_b7_b10 : b7 ≠ b10 := by (have k := hb10; repeat (first | exact ne_set k | replace k := none_of_set k))
    have n_b10_b7 := n_b7_b10.symm
    have n_b8_b10 : b8 ≠ b10 := by (have k := hb10; repeat (first | exact ne_set k | replace k := none_of_set k))
    have n_b10_b8 := n_b8_b10.symm
    conv => whnf
    repeat' ((first | refine ⟨Sub.refl _, ?_⟩ | (refine brA_split (fun h => ?_) (fun h => ?_) <;> (try rw [h]) <;> (try simp only [bN, bS, ↓reduceIte] at h) <;> (first | (exfalso; first | contradiction | omega | exact (by assumption : ¬ True) trivial | fail) | skip)) | refine getB_a ?_ | (refine ACalls.pure' ?_ (hM); rintro _ rfl) | refine DCall.pure ?_ (hM) | (refine ACalls.pure' ?_ (hsk); rintro _ rfl) | refine DCall.pure ?_ (hsk) | (refine ACalls.pure' ?_ (hsq); rintro _ rfl) | refine DCall.pure ?_ (hsq) | refine ⟨len_of (hgq) rfl, Go.Ab.frcL_of (hgq) ?_⟩ | refine getB_same ?_ | refine AWp.anyA ?_ | refine and_a ?_ | fail) <;> (conv => whnf))
    all_goals first | exact ⟨suba, rfl⟩ | fail
  · have hsg : signL true y2 = [45] ++ y2 := by unfold signL; simp [hd]
    rw [hsg] at hnu
    have hll : ([45] : List UInt8).length + y2.length ≤ 9223372036854775807 := by simp only [List.length_cons, List.length_nil]; omega
    by_cases he : e ≠ 0
    · rw [if_pos he]
      simp only [plA, alv, vlA] at *
      refine APure.of_awp Tryz.func122 rfl (Nat.le_of_ble_eq_true (by kernel_rfl)) (by kernel_rfl) ?_
      intro s
      conv => whnf
      intro b3 hb3
      have k_b3 := hb3
      repeat replace k_b3 := none_of_set k_b3
      conv => whnf
      intro b4 hb4
      have k_b4 := hb4
      repeat replace k_b4 := none_of_set k_b4
      have n_b3_b4 : b3 ≠ b4 := by (have k := hb4; repeat (first | exact ne_set k | replace k := none_of_set k))
      have n_b4_b3 := n_b3_b4.symm
      conv => whnf
      intro b5 hb5
      have k_b5 := hb5
      repeat replace k_b5 := none_of_set k_b5
      have n_b3_b5 : b3 ≠ b5 := by (have k := hb5; repeat (first | exact ne_set k | replace k := none_of_set k))
      have n_b5_b3 := n_b3_b5.symm
      have n_b4_b5 : b4 ≠ b5 := by (have k := hb5; repeat (first | exact ne_set k | replace k := none_of_set k))
      have n_b5_b4 := n_b4_b5.symm
      conv => whnf
      repeat' ((first | refine ⟨Sub.refl _, ?_⟩ | (refine brA_split (fun h => ?_) (fun h => ?_) <;> (try rw [h]) <;> (try simp only [bS, ↓reduceIte] at h) <;> (first | (exfalso; first | contradiction | omega | exact (by assumption : ¬ True) trivial | fail) | skip)) | refine getB_a ?_ | refine getB_same ?_ | refine AWp.anyA ?_ | refine and_a ?_ | fail) <;> (conv => whnf))
      intro b7 hb7
      have k_b7 := hb7
      repeat replace k_b7 := none_of_set k_b7
      have n_b3_b7 : b3 ≠ b7 := by (have k := hb7; repeat (first | exact ne_set k | replace k := none_of_set k))
      have n_b7_b3 := n_b3_b7.symm
      have n_b4_b7 : b4 ≠ b7 := by (have k := hb7; repeat (first | exact ne_set k | replace k := none_of_set k))
      have n_b7_b4 := n_b4_b7.symm
      have n_b5_b7 : b5 ≠ b7 := by (have k := hb7; repeat (first | exact ne_set k | replace k := none_of_set k))
      have n_b7_b5 := n_b5_b7.symm
      conv => whnf
      repeat' ((first | refine ⟨Sub.refl _, ?_⟩ | (refine brA_split (fun h => ?_) (fun h => ?_) <;> (try rw [h]) <;> (try simp only [bN, bS, ↓reduceIte] at h) <;> (first | (exfalso; first | contradiction | omega | exact (by assumption : ¬ True) trivial | fail) | skip)) | refine getB_a ?_ | refine ⟨len_of (hg) rfl, Go.Ab.frcL_of (hg) ?_⟩ | refine getB_same ?_ | refine AWp.anyA ?_ | refine and_a ?_ | fail) <;> (conv => whnf))
      intro b8 hb8
      have k_b8 := hb8
      repeat replace k_b8 := none_of_set k_b8
      have n_b3_b8 : b3 ≠ b8 := by (have k := hb8; repeat (first | exact ne_set k | replace k := none_of_set k))
      have n_b8_b3 := n_b3_b8.symm
      have n_b4_b8 : b4 ≠ b8 := by (have k := hb8; repeat (first | exact ne_set k | replace k := none_of_set k))
      have n_b8_b4 := n_b4_b8.symm
      have n_b5_b8 : b5 ≠ b8 := by (have k := hb8; repeat (first | exact ne_set k | replace k := none_of_set k))
      have n_b8_b5 := n_b5_b8.symm
      have n_b7_b8 : b7 ≠ b8 := by (have k := hb8; repeat (first | exact ne_set k | replace k := none_of_set k))
      have n_b8_b7 := n_b7_b8.symm
      conv => whnf
      repeat' ((first | refine ⟨Sub.refl _, ?_⟩ | (refine brA_split (fun h => ?_) (fun h => ?_) <;> (try rw [h]) <;> (try simp only [bN, bS, ↓reduceIte] at h) <;> (first | (exfalso; first | contradiction | omega | exact (by assumption : ¬ True) trivial | fail) | skip)) | refine getB_a ?_ | (refine ACalls.pure' ?_ (hT); rintro _ rfl) | refine DCall.pure ?_ (hT) | (refine ACalls.pure' ?_ (hF); rintro _ rfl) | refine DCall.pure ?_ (hF) | refine getB_same ?_ | refine AWp.anyA ?_ | refine and_a ?_ | fail) <;> (conv => whnf))
      intro b10 hb10
      have k_b10 := hb10
      repeat replace k_b10 := none_of_set k_b10
      have n_b3_b10 : b3 ≠ b10 := by (have k := hb10; repeat (first | exact ne_set k | replace k := none_of_set k))
      have n_b10_b3 := n_b3_b10.symm
      have n_b4_b10 : b4 ≠ b10 := by (have k := hb10; repeat (first | exact ne_set k | replace k := none_of_set k))
      have n_b10_b4 := n_b4_b10.symm
      have n_b5_b10 : b5 ≠ b10 := by (have k := hb10; repeat (first | exact ne_set k | replace k := none_of_set k))
      have n_b10_b5 := n_b5_b10.symm
      have n_b7_b10 : b7 ≠ b10 := by (have k := hb10; repeat (first | exact ne_set k | replace k := none_of_set k))
      have n_b10_b7 := n_b7_b10.symm
      have n_b8_b10 : b8 ≠ b10 := by (have k := hb10; repeat (first | exact ne_set k | replace k := none_of_set k))
      have n_b10_b8 := n_b8_b10.symm
      conv => whnf
      repeat' ((first | refine ⟨Sub.refl _, ?_⟩ | (refine brA_split (fun h => ?_) (fun h => ?_) <;> (try rw [h]) <;> (try simp only [bN, bS, ↓reduceIte] at h) <;> (first | (exfalso; first | contradiction | omega | exact (by assumption : ¬ True) trivial | fail) | skip)) | refine getB_a ?_ | (refine ACalls.pure' ?_ (hM); rintro _ rfl) | refine DCall.pure ?_ (hM) | (refine ACalls.pure' ?_ (hsk); rintro _ rfl) | refine DCall.pure ?_ (hsk) | (refine ACalls.pure' ?_ (hnu); rintro _ rfl) | refine DCall.pure ?_ (hnu) | (refine ACalls.pure' ?_ (hst); rintro _ rfl) | refine DCall.pure ?_ (hst) | refine ⟨len_of (hgq) rfl, Go.Ab.frcL_of (hgq) ?_⟩ | (refine ⟨hll, ?_⟩) | refine getB_same ?_ | refine AWp.anyA ?_ | refine and_a ?_ | fail) <;> (conv => whnf))
      all_goals first | exact ⟨suba, rfl⟩ | fail
    · rw [if_neg he]
      simp only [plA, alv, vlA] at *
      refine APure.of_awp Tryz.func122 rfl (Nat.le_of_ble_eq_true (by kernel_rfl)) (by kernel_rfl) ?_
      intro s
      conv => whnf
      intro b3 hb3
      have k_b3 := hb3
      repeat replace k_b3 := none_of_set k_b3
      conv => whnf
      intro b4 hb4
      have k_b4 := hb4
      repeat replace k_b4 := none_of_set k_b4
      have n_b3_b4 : b3 ≠ b4 := by (have k := hb4; repeat (first | exact ne_set k | replace k := none_of_set k))
      have n_b4_b3 := n_b3_b4.symm
      conv => whnf
      intro b5 hb5
      have k_b5 := hb5
      repeat replace k_b5 := none_of_set k_b5
      have n_b3_b5 : b3 ≠ b5 := by (have k := hb5; repeat (first | exact ne_set k | replace k := none_of_set k))
      have n_b5_b3 := n_b3_b5.symm
      have n_b4_b5 : b4 ≠ b5 := by (have k := hb5; repeat (first | exact ne_set k | replace k := none_of_set k))
      have n_b5_b4 := n_b4_b5.symm
      conv => whnf
      repeat' ((first | refine ⟨Sub.refl _, ?_⟩ | (refine brA_split (fun h => ?_) (fun h => ?_) <;> (try rw [h]) <;> (try simp only [bS, ↓reduceIte] at h) <;> (first | (exfalso; first | contradiction | omega | exact (by assumption : ¬ True) trivial | fail) | skip)) | refine getB_a ?_ | refine getB_same ?_ | refine AWp.anyA ?_ | refine and_a ?_ | fail) <;> (conv => whnf))
      intro b7 hb7
      have k_b7 := hb7
      repeat replace k_b7 := none_of_set k_b7
      have n_b3_b7 : b3 ≠ b7 := by (have k := hb7; repeat (first | exact ne_set k | replace k := none_of_set k))
      have n_b7_b3 := n_b3_b7.symm
      have n_b4_b7 : b4 ≠ b7 := by (have k := hb7; repeat (first | exact ne_set k | replace k := none_of_set k))
      have n_b7_b4 := n_b4_b7.symm
      have n_b5_b7 : b5 ≠ b7 := by (have k := hb7; repeat (first | exact ne_set k | replace k := none_of_set k))
      have n_b7_b5 := n_b5_b7.symm
      conv => whnf
      repeat' ((first | refine ⟨Sub.refl _, ?_⟩ | (refine brA_split (fun h => ?_) (fun h => ?_) <;> (try rw [h]) <;> (try simp only [bN, bS, ↓reduceIte] at h) <;> (first | (exfalso; first | contradiction | omega | exact (by assumption : ¬ True) trivial | fail) | skip)) | refine getB_a ?_ | refine ⟨len_of (hg) rfl, Go.Ab.frcL_of (hg) ?_⟩ | refine getB_same ?_ | refine AWp.anyA ?_ | refine and_a ?_ | fail) <;> (conv => whnf))
      intro b8 hb8
      have k_b8 := hb8
      repeat replace k_b8 := none_of_set k_b8
      have n_b3_b8 : b3 ≠ b8 := by (have k := hb8; repeat (first | exact ne_set k | replace k := none_of_set k))
      have n_b8_b3 := n_b3_b8.symm
      have n_b4_b8 : b4 ≠ b8 := by (have k := hb8; repeat (first | exact ne_set k | replace k := none_of_set k))
      have n_b8_b4 := n_b4_b8.symm
      have n_b5_b8 : b5 ≠ b8 := by (have k := hb8; repeat (first | exact ne_set k | replace k := none_of_set k))
      have n_b8_b5 := n_b5_b8.symm
      have n_b7_b8 : b7 ≠ b8 := by (have k := hb8; repeat (first | exact ne_set k | replace k := none_of_set k))
      have n_b8_b7 := n_b7_b8.symm
      conv => whnf
      repeat' ((first | refine ⟨Sub.refl _, ?_⟩ | (refine brA_split (fun h => ?_) (fun h => ?_) <;> (try rw [h]) <;> (try simp only [bN, bS, ↓reduceIte] at h) <;> (first | (exfalso; first | contradiction | omega | exact (by assumption : ¬ True) trivial | fail) | skip)) | refine getB_a ?_ | (refine ACalls.pure' ?_ (hT); rintro _ rfl) | refine DCall.pure ?_ (hT) | (refine ACalls.pure' ?_ (hF); rintro _ rfl) | refine DCall.pure ?_ (hF) | refine getB_same ?_ | refine AWp.anyA ?_ | refine and_a ?_ | fail) <;> (conv => whnf))
      intro b10 hb10
      have k_b10 := hb10
      repeat replace k_b10 := none_of_set k_b10
      have n_b3_b10 : b3 ≠ b10 := by (have k := hb10; repeat (first | exact ne_set k | replace k := none_of_set k))
      have n_b10_b3 := n_b3_b10.symm
      have n_b4_b10 : b4 ≠ b10 := by (have k := hb10; repeat (first | exact ne_set k | replace k := none_of_set k))
      have n_b10_b4 := n_b4_b10.symm
      have n_b5_b10 : b5 ≠ b10 := by (have k := hb10; repeat (first | exact ne_set k | replace k := none_of_set k))
      have n_b10_b5 := n_b5_b10.symm
      have n_b7_b10 : b7 ≠ b10 := by (have k := hb10; repeat (first | exact ne_set k | replace k := none_of_set k))
      have n_b10_b7 := n_b7_b10.symm
      have n_b8_b10 : b8 ≠ b10 := by (have k := hb10; repeat (first | exact ne_set k | replace k := none_of_set k))
      have n_b10_b8 := n_b8_b10.symm
      conv => whnf
      repeat' ((first | refine ⟨Sub.refl _, ?_⟩ | (refine brA_split (fun h => ?_) (fun h => ?_) <;> (try rw [h]) <;> (try simp only [bN, bS, ↓reduceIte] at h) <;> (first | (exfalso; first | contradiction | omega | exact (by assumption : ¬ True) trivial | fail) | skip)) | refine getB_a ?_ | (refine ACalls.pure' ?_ (hM); rintro _ rfl) | refine DCall.pure ?_ (hM) | (refine ACalls.pure' ?_ (hsk); rintro _ rfl) | refine DCall.pure ?_ (hsk) | (refine ACalls.pure' ?_ (hnu); rintro _ rfl) | refine DCall.pure ?_ (hnu) | (refine ACalls.pure' ?_ (hsq); rintro _ rfl) | refine DCall.pure ?_ (hsq) | refine ⟨len_of (hgq) rfl, Go.Ab.frcL_of (hgq) ?_⟩ | (refine ⟨hll, ?_⟩) | refine getB_same ?_ | refine AWp.anyA ?_ | refine and_a ?_ | fail) <;> (conv => whnf))
      all_goals first | exact ⟨suba, rfl⟩ | fail
end
end Go.Proofs.YthpnfflkkmpejaaGreatDoor.Pa
namespace Go.Proofs.YthpnfflkkmpejaaGreatDoor.Pa
open Go Go.Ab Go.RowKit Go.Proofs.YthpnfflkkmpejaaGreatDoor.Lx
variable {Γ : Nat → AV}
attribute [local irreducible] APure Sto.set Sto.grow
theorem rValue_ok (L : List Tok) (hL : L.length ≤ 1000000) (hN : Nums L) {a : Nat} (ha : a ≤ 100000) (k : Int) (tk : Nat) : APure Tryz.prog Γ 122 [.slice tk (toksA L), .agg (plA (alv a k))] fun v => v = rValA L a k := by
  have htl := toksA_len L
  by_cases hlt : a < L.length
  · have hg := toksA_at hlt
    have hpk := peekF_in hlt
    have hT := rIs_ok (Γ := Γ) L hL (a := a) (by omega) k tk [116, 114, 117, 101]
    have hF := rIs_ok (Γ := Γ) L hL (a := a) (by omega) k tk [102, 97, 108, 115, 101]
    have hM := rIs_ok (Γ := Γ) L hL (a := a) (by omega) k tk [45]
    have hsk := rSkip_alv (Γ := Γ) (a := a) (by omega) k
    have hq := fun (i : Nat) => toksA_at (l := L) (i := i)
    by_cases h4 : (peekF L a).1 = 4
    · have hnb : numbF L a = false := by
        unfold numbF
        rw [isF_no (by rw [h4]; decide)]
        rw [hpk] at h4
        simp only [Bool.false_eq_true, if_false]
        rw [h4]
        exact Bool.and_false _
      have hr : rValA L a k = .tuple [.agg (vlA (2, 0, (L.getD a noTok).2.1, false)), .agg (plA (alv (a + 1) k)), .bool true] := by
        unfold rValA valueF
        rw [hnb, if_neg (by decide), if_pos h4, hpk]
      rw [hr]
      rw [hpk] at h4
      rw [tokA, h4] at hg
      exact rv_quoted htl hlt hg hsk
    · by_cases hTF : isF L a [116, 114, 117, 101] = true ∨ isF L a [102, 97, 108, 115, 101] = true
      · have hk : (peekF L a).1 = 2 ∨ (peekF L a).1 = 5 := hTF.elim (fun h => (isF_kind h).1) fun h => (isF_kind h).1
        have h45 : isF L a [45] = false := hTF.elim (fun h => isF_ne h (by decide)) fun h => isF_ne h (by decide)
        have hnb : numbF L a = false := by
          unfold numbF
          rw [h45]
          simp only [Bool.false_eq_true, if_false]
          rw [← hpk]
          rw [show decide ((peekF L a).1 = 3) = false from decide_eq_false (by omega)]
          exact Bool.and_false _
        have hr : rValA L a k = .tuple [.agg (vlA (3, 0, [], decide ((L.getD a noTok).2.1 = [116, 114, 117, 101]))), .agg (plA (alv (a + 1) k)), .bool true] := by
          unfold rValA valueF
          rw [hnb, if_neg (by decide), if_neg h4]
          rw [← hpk]
          rcases hTF with h | h
          · rw [h, if_pos rfl, (isF_kind h).2]; rfl
          · rw [isF_ne h (by decide : ([102, 97, 108, 115, 101] : List UInt8) ≠ [116, 114, 117, 101]), if_neg (by decide), h, if_pos rfl, (isF_kind h).2]; rfl
        rw [hr]
        rw [hpk] at h4
        exact rv_bool htl hlt hg h4 hTF hT hF hsk
      · have h5 : isF L a [116, 114, 117, 101] = false := by
          cases hx : isF L a [116, 114, 117, 101]
          · rfl
          · exact absurd (.inl hx) hTF
        have h6 : isF L a [102, 97, 108, 115, 101] = false := by
          cases hx : isF L a [102, 97, 108, 115, 101]
          · rfl
          · exact absurd (.inr hx) hTF
        rw [h5] at hT
        rw [h6] at hF
        obtain ⟨q, hqe⟩ : ∃ q, q = if isF L a [45] = true then a + 1 else a := ⟨_, rfl⟩
        have hsq := rSkip_alv (Γ := Γ) (a := q) (by rw [hqe]; split <;> omega) k
        have hst := rStop_ok (Γ := Γ) L hL (a := q) (by rw [hqe]; split <;> omega) k tk 5
        have hgq := hq q
        have hpq : ∀ h : q < L.length, peekF L q = L.getD q noTok := fun h => peekF_in h
        by_cases hn : q < L.length ∧ (L.getD q noTok).1 = 3
        · have hnb : numbF L a = true := by
            unfold numbF
            rw [← hqe, decide_eq_true hn.1, decide_eq_true hn.2]; rfl
          have hr : rValA L a k = if Nu.numE (signL (isF L a [45]) (L.getD q noTok).2.1) ≠ 0 then .tuple [.agg (vlA (0, 0, [], false)), .agg (plA (stopP L q k 5)), .bool true] else .tuple [.agg (vlA (1, Nu.numN (signL (isF L a [45]) (L.getD q noTok).2.1), [], false)), .agg (plA (alv (q + 1) k)), .bool true] := by
            by_cases he : Nu.numE (signL (isF L a [45]) (L.getD q noTok).2.1) ≠ 0
            · have hv : valueF L a = .error (Nu.numE (signL (isF L a [45]) (L.getD q noTok).2.1), (peekF L q).2.2.1, (peekF L q).2.2.2) := by
                unfold valueF
                rw [hnb, if_pos rfl]
                dsimp only
                rw [← hqe, hpq hn.1]
                exact (if_pos he).trans (by unfold failF; rw [hpq hn.1]; rfl)
              unfold rValA
              rw [hv, if_pos he]
              dsimp only
              rw [hnb, if_pos rfl, ← hqe]
              rfl
            · have hv : valueF L a = .ok ((1, Nu.numN (signL (isF L a [45]) (L.getD q noTok).2.1), [], false), q + 1) := by
                unfold valueF
                rw [hnb, if_pos rfl]
                dsimp only
                rw [← hqe, hpq hn.1]
                exact if_neg he
              unfold rValA
              rw [hv, if_neg he]
          have hlen := (hN q hn.2).2.1
          have hnu := fun m => Nu.refNumber_ok (Γ := Γ) (signL m (L.getD q noTok).2.1) (by
            unfold signL
            split <;> simp only [List.length_append, List.length_cons, List.length_nil] <;> omega)
          have h48 : ∀ m, Nu.numN (signL m [48]) = 0 ∧ Nu.numE (signL m [48]) = 0 := fun m => by cases m <;> exact ⟨by kernel_rfl, by kernel_rfl⟩
          rw [hr]
          have hgq := hgq hn.1
          rw [tokA, hn.2] at hgq
          rw [hpk] at h4
          cases hm : isF L a [45]
          · rw [hm] at hqe hM
            rw [if_neg (by decide)] at hqe
            subst hqe
            exact rv_num0 htl hlt hgq hT hF hM hsk hsq hst (fun h => by rw [h]; exact h48 false) hlen (hnu false)
          · rw [hm] at hqe hM
            rw [if_pos rfl] at hqe
            subst hqe
            exact rv_num1 htl hn.1 hg h4 hgq hT hF hM hsk hsq hst (fun h => by rw [h]; exact h48 true) hlen (hnu true)
        · have hnb : numbF L a = false := by
            unfold numbF
            rw [← hqe]
            by_cases h1 : q < L.length
            · rw [decide_eq_false (fun h3 => hn ⟨h1, h3⟩)]; exact Bool.and_false _
            · rw [decide_eq_false h1]; rfl
          rw [rValA_none hnb h4 h5 h6]
          rw [hpk] at h4
          cases hm : isF L a [45]
          · rw [hm] at hqe hM
            rw [if_neg (by decide)] at hqe
            subst hqe
            exact rv_none0 htl hlt hg h4 (fun h => hn ⟨hlt, h⟩) hT hF hM hsk
          · rw [hm] at hqe hM
            rw [if_pos rfl] at hqe
            subst hqe
            exact rv_none1 htl hlt hg h4 hgq hn hT hF hM hsk
  · have h0 := peekF_out hlt
    have hnb : numbF L a = false := by
      unfold numbF
      rw [isF_no (by rw [h0]; decide)]
      simp [hlt]
    rw [rValA_none hnb (by rw [h0]; decide) (isF_no (by rw [h0]; decide)) (isF_no (by rw [h0]; decide))]
    exact rv_end htl hlt
end Go.Proofs.YthpnfflkkmpejaaGreatDoor.Pa
namespace Go.Proofs.YthpnfflkkmpejaaGreatDoor.Pa
open Go Go.Ab Go.RowKit Go.Proofs.YthpnfflkkmpejaaGreatDoor.Lx
variable {Γ : Nat → AV}
attribute [local irreducible] APure Sto.set Sto.grow
set_option maxRecDepth 10000
set_option maxHeartbeats 4000000
theorem rPrimary_dead (L : List Tok) : RDead Γ L 121 := by
  intro p o tk hp
  have hi := fun w => rIs_dead (Γ := Γ) L hp tk w
  have hv := rValue_dead (Γ := Γ) L hp tk
  have hst := rStop_dead (Γ := Γ) L hp tk 16
  obtain ⟨a, e, ln, cl, k⟩ := p
  simp only at hp
  simp only [plA, vlA] at *
  refine APure.of_awp Tryz.func121 rfl (Nat.le_of_ble_eq_true (by kernel_rfl)) (by kernel_rfl) ?_
  intro s
  conv => whnf
  intro b4 hb4
  have k_b4 := hb4
  repeat replace k_b4 := none_of_set k_b4
  conv => whnf
  repeat' ((first | refine ⟨Sub.refl _, ?_⟩ | (refine brA_split (fun h => ?_) (fun h => ?_) <;> (try rw [h]) <;> (try simp only [bN, bS, ↓reduceIte] at h) <;> (first | (exfalso; first | contradiction | omega | exact (by assumption : ¬ True) trivial | fail) | skip)) | refine getB_a ?_ | refine getB_same ?_ | refine AWp.anyA ?_ | refine and_a ?_ | fail) <;> (conv => whnf))
  intro b7 hb7
  have k_b7 := hb7
  repeat replace k_b7 := none_of_set k_b7
  have n_b4_b7 : b4 ≠ b7 := by (have k := hb7; repeat (first | exact ne_set k | replace k := none_of_set k))
  have n_b7_b4 := n_b4_b7.symm
  conv => whnf
  repeat' ((first | refine ⟨Sub.refl _, ?_⟩ | (refine brA_split (fun h => ?_) (fun h => ?_) <;> (try rw [h]) <;> (try simp only [bN, bS, ↓reduceIte] at h) <;> (first | (exfalso; first | contradiction | omega | exact (by assumption : ¬ True) trivial | fail) | skip)) | refine getB_a ?_ | (refine ACalls.pure' ?_ (hi _); rintro _ rfl) | refine DCall.pure ?_ (hi _) | (refine ACalls.pure' ?_ (hv); rintro _ rfl) | refine DCall.pure ?_ (hv) | refine getB_same ?_ | refine AWp.anyA ?_ | refine and_a ?_ | fail) <;> (conv => whnf))
  intro b10 hb10
  have k_b10 := hb10
  repeat replace k_b10 := none_of_set k_b10
  have n_b4_b10 : b4 ≠ b10 := by (have k := hb10; repeat (first | exact ne_set k | replace k := none_of_set k))
  have n_b10_b4 := n_b4_b10.symm
  have n_b7_b10 : b7 ≠ b10 := by (have k := hb10; repeat (first | exact ne_set k | replace k := none_of_set k))
  have n_b10_b7 := n_b7_b10.symm
  conv => whnf
  repeat' ((first | refine ⟨Sub.refl _, ?_⟩ | (refine brA_split (fun h => ?_) (fun h => ?_) <;> (try rw [h]) <;> (try simp only [bN, bS, ↓reduceIte] at h) <;> (first | (exfalso; first | contradiction | omega | exact (by assumption : ¬ True) trivial | fail) | skip)) | refine getB_a ?_ | refine getB_same ?_ | refine AWp.anyA ?_ | refine and_a ?_ | fail) <;> (conv => whnf))
  intro b11 hb11
  have k_b11 := hb11
  repeat replace k_b11 := none_of_set k_b11
  have n_b4_b11 : b4 ≠ b11 := by (have k := hb11; repeat (first | exact ne_set k | replace k := none_of_set k))
  have n_b11_b4 := n_b4_b11.symm
  have n_b7_b11 : b7 ≠ b11 := by (have k := hb11; repeat (first | exact ne_set k | replace k := none_of_set k))
  have n_b11_b7 := n_b7_b11.symm
  have n_b10_b11 : b10 ≠ b11 := by (have k := hb11; repeat (first | exact ne_set k | replace k := none_of_set k))
  have n_b11_b10 := n_b10_b11.symm
  conv => whnf
  repeat' ((first | refine ⟨Sub.refl _, ?_⟩ | (refine brA_split (fun h => ?_) (fun h => ?_) <;> (try rw [h]) <;> (try simp only [bN, bS, ↓reduceIte] at h) <;> (first | (exfalso; first | contradiction | omega | exact (by assumption : ¬ True) trivial | fail) | skip)) | refine getB_a ?_ | (refine ACalls.pure' ?_ (hi _); rintro _ rfl) | refine DCall.pure ?_ (hi _) | (refine ACalls.pure' ?_ (hst); rintro _ rfl) | refine DCall.pure ?_ (hst) | refine getB_same ?_ | refine AWp.anyA ?_ | refine and_a ?_ | fail) <;> (conv => whnf))
  all_goals first | exact ⟨suba, rfl⟩ | fail
theorem rUnary_dead (L : List Tok) : RDead Γ L 98 := by
  intro p o tk hp
  have hi := rIs_dead (Γ := Γ) L hp tk [45]
  have h1 := rPrimary_dead (Γ := Γ) L p o tk hp
  obtain ⟨a, e, ln, cl, k⟩ := p
  simp only at hp
  simp only [plA] at *
  refine APure.of_awp Tryz.func98 rfl (Nat.le_of_ble_eq_true (by kernel_rfl)) (by kernel_rfl) ?_
  intro s
  conv => whnf
  intro b4 hb4
  have k_b4 := hb4
  repeat replace k_b4 := none_of_set k_b4
  conv => whnf
  repeat' ((first | refine ⟨Sub.refl _, ?_⟩ | (refine brA_split (fun h => ?_) (fun h => ?_) <;> (try rw [h]) <;> (try simp only [bN, bS, ↓reduceIte] at h) <;> (first | (exfalso; first | contradiction | omega | exact (by assumption : ¬ True) trivial | fail) | skip)) | refine getB_a ?_ | refine getB_same ?_ | refine AWp.anyA ?_ | refine and_a ?_ | fail) <;> (conv => whnf))
  intro b7 hb7
  have k_b7 := hb7
  repeat replace k_b7 := none_of_set k_b7
  have n_b4_b7 : b4 ≠ b7 := by (have k := hb7; repeat (first | exact ne_set k | replace k := none_of_set k))
  have n_b7_b4 := n_b4_b7.symm
  conv => whnf
  repeat' ((first | refine ⟨Sub.refl _, ?_⟩ | (refine brA_split (fun h => ?_) (fun h => ?_) <;> (try rw [h]) <;> (try simp only [bN, bS, ↓reduceIte] at h) <;> (first | (exfalso; first | contradiction | omega | exact (by assumption : ¬ True) trivial | fail) | skip)) | refine getB_a ?_ | (refine ACalls.pure' ?_ (hi); rintro _ rfl) | refine DCall.pure ?_ (hi) | (refine ACalls.pure' ?_ (h1); rintro _ rfl) | refine DCall.pure ?_ (h1) | refine getB_same ?_ | refine AWp.anyA ?_ | refine and_a ?_ | fail) <;> (conv => whnf))
  all_goals first | exact ⟨suba, rfl⟩ | fail
/-- What the document reads as a value, said anew: the value, the place, whether there is one. -/
theorem rVal_split {L : List Tok} (hN : Nums L) {a : Nat} {k : Int} : ∃ v p b, rValA L a k = .tuple [.agg (vlA v), .agg (plA p), .bool b] ∧
    match valueF L a with
    | .ok x => v = x.1 ∧ p = alv x.2 k ∧ b = true
    | .error e => (numbF L a = true ∧ b = true ∧ p.e = errF e.1 ∧ p.ln = e.2.1 ∧ p.cl = e.2.2) ∨ (numbF L a = false ∧ b = false ∧ p = alv a k ∧ e = (16, (peekF L a).2.2.1, (peekF L a).2.2.2)) := by
  unfold rValA
  rcases hv : valueF L a with e | x
  · dsimp only
    cases hn : numbF L a
    · rw [if_neg (by decide)]
      refine ⟨_, _, _, rfl, .inr ⟨rfl, rfl, rfl, ?_⟩⟩
      unfold valueF at hv
      rw [hn, if_neg (by decide)] at hv
      unfold failF at hv
      repeat' split at hv
      all_goals first | cases hv; rfl | cases hv
    · rw [if_pos rfl]
      refine ⟨_, _, _, rfl, .inl ⟨rfl, rfl, ?_, rfl, rfl⟩⟩
      show (5 : Int) = errF e.1
      have hq : (L.getD (if isF L a [45] = true then a + 1 else a) noTok).1 = 3 ∧ (if isF L a [45] = true then a + 1 else a) < L.length := by
        unfold numbF at hn
        simp only [Bool.and_eq_true, decide_eq_true_eq] at hn
        exact ⟨hn.2, hn.1⟩
      have hne := num_err hN hq.1 (isF L a [45])
      unfold valueF at hv
      rw [hn, if_pos rfl] at hv
      dsimp only at hv
      rw [peekF_in hq.2] at hv
      unfold failF at hv
      have hsg : (if isF L a [45] = true ∧ (L.getD (if isF L a [45] = true then a + 1 else a) noTok).2.1 ≠ [48] then [45] else []) ++ (L.getD (if isF L a [45] = true then a + 1 else a) noTok).2.1 = signL (isF L a [45]) (L.getD (if isF L a [45] = true then a + 1 else a) noTok).2.1 := rfl
      rw [hsg] at hv
      generalize Nu.numE (signL (isF L a [45]) (L.getD (if isF L a [45] = true then a + 1 else a) noTok).2.1) = E at *
      by_cases h0 : E ≠ 0
      · rw [if_pos h0] at hv
        injection hv with hv
        rcases hne with h | h
        · exact absurd h h0
        · rw [← hv, h]; rfl
      · rw [if_neg h0] at hv; cases hv
  · exact ⟨_, _, _, rfl, rfl, rfl, rfl⟩
theorem kids_leaf {x : Ex} {n : Nat} (h : x.op = 1 ∨ x.op = 17) : Kids x [] n := .inl ⟨rfl, h⟩
/-- A value's node. -/
theorem val_node {L : List Tok} (hN : Nums L) {st : St} {v : Int × Int × List UInt8 × Bool} {p : Pl} {b : Bool} (hS : Okay L st) (hF : Fit st.o st.d) (hL : L.length ≤ 90000) (hlt : st.a < L.length) (hm : match valueF L st.a with
    | .ok x => v = x.1 ∧ p = alv x.2 st.k ∧ b = true
    | .error e => (numbF L st.a = true ∧ b = true ∧ p.e = errF e.1 ∧ p.ln = e.2.1 ∧ p.cl = e.2.2) ∨ (numbF L st.a = false ∧ b = false ∧ p = alv st.a st.k ∧ e = (16, (peekF L st.a).2.2.1, (peekF L st.a).2.2.2))) (hb : b = true) (tk : Nat) :
    ∃ o2 p2, (APure Tryz.prog Γ 18 [.slice tk (toksA L), .agg (plA p), .int .i64 st.a, .slice 0 (exsA st.o), .agg (exA { ex0 with op := 1, vk := v.1, vi := v.2.1, vs := v.2.2.1, vb := v.2.2.2 })] fun w => w = .tuple [.slice 0 (exsA o2), .agg (plA p2)]) ∧
      RR (match valueF L st.a with
        | .error e => .error e
        | .ok (v, a') => nodeF (peekF L st.a) { ex0 with op := 1, vk := v.1, vi := v.2.1, vs := v.2.2.1, vb := v.2.2.2 } [] { st with a := a' }) o2 p2 := by
  rcases hv : valueF L st.a with e | ⟨v', a'⟩
  · rw [hv] at hm
    rcases hm with ⟨_, _, h⟩ | ⟨_, h, _⟩
    · exact rNode_step (rF := .error e) hlt h (u := []) (fun z hz => by cases hz) tk
    · rw [hb] at h; cases h
  · rw [hv] at hm
    obtain ⟨rfl, rfl, _⟩ := hm
    have hsa := hS.ha
    have hso := hS.ho
    exact rNode_step (rF := .ok { st with a := a' }) hlt ⟨rfl, rfl⟩ (u := []) (fun z hz => by
      injection hz with hz
      subst hz
      exact ⟨hF, by simp only; omega, kids_leaf (.inl rfl)⟩) tk
end Go.Proofs.YthpnfflkkmpejaaGreatDoor.Pa
namespace Go.Proofs.YthpnfflkkmpejaaGreatDoor.Pa
open Go Go.Ab Go.RowKit Go.Proofs.YthpnfflkkmpejaaGreatDoor.Lx
variable {Γ : Nat → AV}
attribute [local irreducible] APure Sto.set Sto.grow
set_option maxRecDepth 10000
set_option maxHeartbeats 4000000
section
variable {L : List Tok} {a : Nat} {k : Int} {tk : Nat} {o : List Ex}
theorem rp_paren {p1 : Pl} (φ : List Ex → Pl → Prop)
    (hi : APure Tryz.prog Γ 16 [.slice tk (toksA L), .agg (plA (alv a k)), .str [40]] fun v => v = .bool true)
    (hop : APure Tryz.prog Γ 48 [.slice tk (toksA L), .agg (plA (alv a k))] fun v => v = .agg (plA p1))
    (hor : APure Tryz.prog Γ 8 [.slice tk (toksA L), .agg (plA p1), .slice 0 (exsA o)] fun v => ∃ o2 p2, v = .tuple [.slice 0 (exsA o2), .agg (plA p2)] ∧ ∃ q1 q2 : Pl, φ o2 q2 ∧ (APure Tryz.prog Γ 132 [.slice tk (toksA L), .agg (plA p2), .str [41]] fun v => v = .agg (plA q1)) ∧ (APure Tryz.prog Γ 49 [.agg (plA q1)] fun v => v = .agg (plA q2))) :
    APure Tryz.prog Γ 121 [.slice tk (toksA L), .agg (plA (alv a k)), .slice 0 (exsA o)] fun v => ∃ o p, v = .tuple [.slice 0 (exsA o), .agg (plA p)] ∧ φ o p := by
  obtain ⟨u1, u2, u3, u4, u5⟩ := p1
  simp only [plA, alv] at hi hop hor ⊢
  refine APure.of_awp Tryz.func121 rfl (Nat.le_of_ble_eq_true (by kernel_rfl)) (by kernel_rfl) ?_
  intro s
  conv => whnf
  intro b4 hb4
  have k_b4 := hb4
  repeat replace k_b4 := none_of_set k_b4
  conv => whnf
  repeat' ((first | refine ⟨Sub.refl _, ?_⟩ | (refine brA_split (fun h => ?_) (fun h => ?_) <;> (try rw [h]) <;> (try simp only [bN, bS, ↓reduceIte] at h) <;> (first | (exfalso; first | contradiction | omega | exact (by assumption : ¬ True) trivial | fail) | skip)) | refine getB_a ?_ | refine getB_same ?_ | refine AWp.anyA ?_ | refine and_a ?_ | fail) <;> (conv => whnf))
  intro b7 hb7
  have k_b7 := hb7
  repeat replace k_b7 := none_of_set k_b7
  have n_b4_b7 : b4 ≠ b7 := by (have k := hb7; repeat (first | exact ne_set k | replace k := none_of_set k))
  have n_b7_b4 := n_b4_b7.symm
  conv => whnf
  repeat' ((first | refine ⟨Sub.refl _, ?_⟩ | (refine brA_split (fun h => ?_) (fun h => ?_) <;> (try rw [h]) <;> (try simp only [bN, bS, ↓reduceIte] at h) <;> (first | (exfalso; first | contradiction | omega | exact (by assumption : ¬ True) trivial | fail) | skip)) | refine getB_a ?_ | (refine ACalls.pure' ?_ (hi); rintro _ rfl) | refine DCall.pure ?_ (hi) | (refine ACalls.pure' ?_ (hop); rintro _ rfl) | refine DCall.pure ?_ (hop) | (refine ACalls.pure' ?_ hor; rintro _ ⟨o2, ⟨w1, w2, w3, w4, w5⟩, rfl, ⟨q1, q2, q3, q4, q5⟩, ⟨r1, r2, r3, r4, r5⟩, hφ, hwa, hsh⟩) | refine getB_same ?_ | refine AWp.anyA ?_ | refine and_a ?_ | fail) <;> (conv => whnf))
  simp only at hwa hsh
  intro b9 hb9
  have k_b9 := hb9
  repeat replace k_b9 := none_of_set k_b9
  have n_b4_b9 : b4 ≠ b9 := by (have k := hb9; repeat (first | exact ne_set k | replace k := none_of_set k))
  have n_b9_b4 := n_b4_b9.symm
  have n_b7_b9 : b7 ≠ b9 := by (have k := hb9; repeat (first | exact ne_set k | replace k := none_of_set k))
  have n_b9_b7 := n_b7_b9.symm
  conv => whnf
  repeat' ((first | refine ⟨Sub.refl _, ?_⟩ | (refine brA_split (fun h => ?_) (fun h => ?_) <;> (try rw [h]) <;> (try simp only [bN, bS, ↓reduceIte] at h) <;> (first | (exfalso; first | contradiction | omega | exact (by assumption : ¬ True) trivial | fail) | skip)) | refine getB_a ?_ | (refine ACalls.pure' ?_ (hwa); rintro _ rfl) | refine DCall.pure ?_ (hwa) | (refine ACalls.pure' ?_ (hsh); rintro _ rfl) | refine DCall.pure ?_ (hsh) | refine getB_same ?_ | refine AWp.anyA ?_ | refine and_a ?_ | fail) <;> (conv => whnf))
  all_goals first | exact ⟨suba, o2, ⟨r1, r2, r3, r4, r5⟩, rfl, hφ⟩ | fail
theorem rp_name {z2 : List UInt8} {z3 z4 : Int} {o2 : List Ex} {p2 : Pl} (htl : (toksA L).length = L.length) (hlt : a < L.length) (hg : (toksA L).getD a [] = [.int .i64 1, .str z2, .int .i64 z3, .int .i64 z4]) (hz : z2 ≠ [95])
    (hi : APure Tryz.prog Γ 16 [.slice tk (toksA L), .agg (plA (alv a k)), .str [40]] fun v => v = .bool false)
    (hsk : APure Tryz.prog Γ 17 [.agg (plA (alv a k))] fun v => v = .agg (plA (alv (a + 1) k)))
    (hno : APure Tryz.prog Γ 18 [.slice tk (toksA L), .agg (plA (alv (a + 1) k)), .int .i64 a, .slice 0 (exsA o), .agg (exA { ex0 with op := 17, name := z2 })] fun v => v = .tuple [.slice 0 (exsA o2), .agg (plA p2)]) :
    APure Tryz.prog Γ 121 [.slice tk (toksA L), .agg (plA (alv a k)), .slice 0 (exsA o)] fun v => v = .tuple [.slice 0 (exsA o2), .agg (plA p2)] := by
  obtain ⟨u1, u2, u3, u4, u5⟩ := p2
  simp only [plA, alv, exA, ex0] at hi hsk hno ⊢
  refine APure.of_awp Tryz.func121 rfl (Nat.le_of_ble_eq_true (by kernel_rfl)) (by kernel_rfl) ?_
  intro s
  conv => whnf
  intro b4 hb4
  have k_b4 := hb4
  repeat replace k_b4 := none_of_set k_b4
  conv => whnf
  repeat' ((first | refine ⟨Sub.refl _, ?_⟩ | (refine brA_split (fun h => ?_) (fun h => ?_) <;> (try rw [h]) <;> (try simp only [bN, bS, ↓reduceIte] at h) <;> (first | (exfalso; first | contradiction | omega | exact (by assumption : ¬ True) trivial | fail) | skip)) | refine getB_a ?_ | refine getB_same ?_ | refine AWp.anyA ?_ | refine and_a ?_ | fail) <;> (conv => whnf))
  intro b7 hb7
  have k_b7 := hb7
  repeat replace k_b7 := none_of_set k_b7
  have n_b4_b7 : b4 ≠ b7 := by (have k := hb7; repeat (first | exact ne_set k | replace k := none_of_set k))
  have n_b7_b4 := n_b4_b7.symm
  conv => whnf
  repeat' ((first | refine ⟨Sub.refl _, ?_⟩ | (refine brA_split (fun h => ?_) (fun h => ?_) <;> (try rw [h]) <;> (try simp only [bN, bS, ↓reduceIte] at h) <;> (first | (exfalso; first | contradiction | omega | exact (by assumption : ¬ True) trivial | fail) | skip)) | refine getB_a ?_ | (refine ACalls.pure' ?_ (hi); rintro _ rfl) | refine DCall.pure ?_ (hi) | refine ⟨len_of (hg) rfl, Go.Ab.frcL_of (hg) ?_⟩ | (refine ACalls.pure' ?_ (hsk); rintro _ rfl) | refine DCall.pure ?_ (hsk) | (refine ACalls.pure' ?_ (hno); rintro _ rfl) | refine DCall.pure ?_ (hno) | refine getB_same ?_ | refine AWp.anyA ?_ | refine and_a ?_ | fail) <;> (conv => whnf))
  all_goals first | exact ⟨suba, rfl⟩ | fail
theorem rp_val0 {v : Int × Int × List UInt8 × Bool} {p p2 : Pl} {b : Bool} {o2 : List Ex} (htl : (toksA L).length = L.length) (hlt : ¬ a < L.length)
    (hi : APure Tryz.prog Γ 16 [.slice tk (toksA L), .agg (plA (alv a k)), .str [40]] fun v => v = .bool false)
    (hi45 : APure Tryz.prog Γ 16 [.slice tk (toksA L), .agg (plA (alv a k)), .str [45]] fun v => v = .bool false)
    (hv : APure Tryz.prog Γ 122 [.slice tk (toksA L), .agg (plA (alv a k))] fun w => w = .tuple [.agg (vlA v), .agg (plA p), .bool b])
    (hst : b = false → APure Tryz.prog Γ 69 [.slice tk (toksA L), .agg (plA (alv a k)), .int .i64 16] fun w => w = .agg (plA p2))
    (hno : b = true → APure Tryz.prog Γ 18 [.slice tk (toksA L), .agg (plA p), .int .i64 a, .slice 0 (exsA o), .agg (exA { ex0 with op := 1, vk := v.1, vi := v.2.1, vs := v.2.2.1, vb := v.2.2.2 })] fun w => w = .tuple [.slice 0 (exsA o2), .agg (plA p2)]) :
    APure Tryz.prog Γ 121 [.slice tk (toksA L), .agg (plA (alv a k)), .slice 0 (exsA o)] fun w => w = .tuple [.slice 0 (exsA (if b = true then o2 else o)), .agg (plA p2)] := by
  obtain ⟨u1, u2, u3, u4, u5⟩ := p
  obtain ⟨t1, t2, t3, t4, t5⟩ := p2
  obtain ⟨v1, v2, v3, v4⟩ := v
  cases b
  · have hst := hst rfl
    clear hno
    simp only [plA, alv, vlA] at hi hv hst hi45 ⊢
    refine APure.of_awp Tryz.func121 rfl (Nat.le_of_ble_eq_true (by kernel_rfl)) (by kernel_rfl) ?_
    intro s
    conv => whnf
    intro b4 hb4
    have k_b4 := hb4
    repeat replace k_b4 := none_of_set k_b4
    conv => whnf
    repeat' ((first | refine ⟨Sub.refl _, ?_⟩ | (refine brA_split (fun h => ?_) (fun h => ?_) <;> (try rw [h]) <;> (try simp only [bN, bS, ↓reduceIte] at h) <;> (first | (exfalso; first | contradiction | omega | exact (by assumption : ¬ True) trivial | fail) | skip)) | refine getB_a ?_ | refine getB_same ?_ | refine AWp.anyA ?_ | refine and_a ?_ | fail) <;> (conv => whnf))
    intro b7 hb7
    have k_b7 := hb7
    repeat replace k_b7 := none_of_set k_b7
    have n_b4_b7 : b4 ≠ b7 := by (have k := hb7; repeat (first | exact ne_set k | replace k := none_of_set k))
    have n_b7_b4 := n_b4_b7.symm
    conv => whnf
    repeat' ((first | refine ⟨Sub.refl _, ?_⟩ | (refine brA_split (fun h => ?_) (fun h => ?_) <;> (try rw [h]) <;> (try simp only [bN, bS, ↓reduceIte] at h) <;> (first | (exfalso; first | contradiction | omega | exact (by assumption : ¬ True) trivial | fail) | skip)) | refine getB_a ?_ | (refine ACalls.pure' ?_ (hi); rintro _ rfl) | refine DCall.pure ?_ (hi) | (refine ACalls.pure' ?_ (hv); rintro _ rfl) | refine DCall.pure ?_ (hv) | (refine ACalls.pure' ?_ (hv); rintro _ rfl) | refine DCall.pure ?_ (hv) | refine getB_same ?_ | refine AWp.anyA ?_ | refine and_a ?_ | fail) <;> (conv => whnf))
    intro b10 hb10
    have k_b10 := hb10
    repeat replace k_b10 := none_of_set k_b10
    have n_b4_b10 : b4 ≠ b10 := by (have k := hb10; repeat (first | exact ne_set k | replace k := none_of_set k))
    have n_b10_b4 := n_b4_b10.symm
    have n_b7_b10 : b7 ≠ b10 := by (have k := hb10; repeat (first | exact ne_set k | replace k := none_of_set k))
    have n_b10_b7 := n_b7_b10.symm
    conv => whnf
    repeat' ((first | refine ⟨Sub.refl _, ?_⟩ | (refine brA_split (fun h => ?_) (fun h => ?_) <;> (try rw [h]) <;> (try simp only [bN, bS, ↓reduceIte] at h) <;> (first | (exfalso; first | contradiction | omega | exact (by assumption : ¬ True) trivial | fail) | skip)) | refine getB_a ?_ | refine getB_same ?_ | refine AWp.anyA ?_ | refine and_a ?_ | fail) <;> (conv => whnf))
    intro b11 hb11
    have k_b11 := hb11
    repeat replace k_b11 := none_of_set k_b11
    have n_b4_b11 : b4 ≠ b11 := by (have k := hb11; repeat (first | exact ne_set k | replace k := none_of_set k))
    have n_b11_b4 := n_b4_b11.symm
    have n_b7_b11 : b7 ≠ b11 := by (have k := hb11; repeat (first | exact ne_set k | replace k := none_of_set k))
    have n_b11_b7 := n_b7_b11.symm
    have n_b10_b11 : b10 ≠ b11 := by (have k := hb11; repeat (first | exact ne_set k | replace k := none_of_set k))
    have n_b11_b10 := n_b10_b11.symm
    conv => whnf
    repeat' ((first | refine ⟨Sub.refl _, ?_⟩ | (refine brA_split (fun h => ?_) (fun h => ?_) <;> (try rw [h]) <;> (try simp only [bN, bS, ↓reduceIte] at h) <;> (first | (exfalso; first | contradiction | omega | exact (by assumption : ¬ True) trivial | fail) | skip)) | refine getB_a ?_ | (refine ACalls.pure' ?_ (hst); rintro _ rfl) | refine DCall.pure ?_ (hst) | refine getB_same ?_ | refine AWp.anyA ?_ | refine and_a ?_ | fail) <;> (conv => whnf))
    all_goals first | exact ⟨suba, rfl⟩ | fail
  · have hno := hno rfl
    clear hst
    simp only [plA, alv, vlA, exA, ex0] at hi hv hno hi45 ⊢
    refine APure.of_awp Tryz.func121 rfl (Nat.le_of_ble_eq_true (by kernel_rfl)) (by kernel_rfl) ?_
    intro s
    conv => whnf
    intro b4 hb4
    have k_b4 := hb4
    repeat replace k_b4 := none_of_set k_b4
    conv => whnf
    repeat' ((first | refine ⟨Sub.refl _, ?_⟩ | (refine brA_split (fun h => ?_) (fun h => ?_) <;> (try rw [h]) <;> (try simp only [bN, bS, ↓reduceIte] at h) <;> (first | (exfalso; first | contradiction | omega | exact (by assumption : ¬ True) trivial | fail) | skip)) | refine getB_a ?_ | refine getB_same ?_ | refine AWp.anyA ?_ | refine and_a ?_ | fail) <;> (conv => whnf))
    intro b7 hb7
    have k_b7 := hb7
    repeat replace k_b7 := none_of_set k_b7
    have n_b4_b7 : b4 ≠ b7 := by (have k := hb7; repeat (first | exact ne_set k | replace k := none_of_set k))
    have n_b7_b4 := n_b4_b7.symm
    conv => whnf
    repeat' ((first | refine ⟨Sub.refl _, ?_⟩ | (refine brA_split (fun h => ?_) (fun h => ?_) <;> (try rw [h]) <;> (try simp only [bN, bS, ↓reduceIte] at h) <;> (first | (exfalso; first | contradiction | omega | exact (by assumption : ¬ True) trivial | fail) | skip)) | refine getB_a ?_ | (refine ACalls.pure' ?_ (hi); rintro _ rfl) | refine DCall.pure ?_ (hi) | (refine ACalls.pure' ?_ (hv); rintro _ rfl) | refine DCall.pure ?_ (hv) | (refine ACalls.pure' ?_ (hv); rintro _ rfl) | refine DCall.pure ?_ (hv) | refine getB_same ?_ | refine AWp.anyA ?_ | refine and_a ?_ | fail) <;> (conv => whnf))
    intro b10 hb10
    have k_b10 := hb10
    repeat replace k_b10 := none_of_set k_b10
    have n_b4_b10 : b4 ≠ b10 := by (have k := hb10; repeat (first | exact ne_set k | replace k := none_of_set k))
    have n_b10_b4 := n_b4_b10.symm
    have n_b7_b10 : b7 ≠ b10 := by (have k := hb10; repeat (first | exact ne_set k | replace k := none_of_set k))
    have n_b10_b7 := n_b7_b10.symm
    conv => whnf
    repeat' ((first | refine ⟨Sub.refl _, ?_⟩ | (refine brA_split (fun h => ?_) (fun h => ?_) <;> (try rw [h]) <;> (try simp only [bN, bS, ↓reduceIte] at h) <;> (first | (exfalso; first | contradiction | omega | exact (by assumption : ¬ True) trivial | fail) | skip)) | refine getB_a ?_ | refine getB_same ?_ | refine AWp.anyA ?_ | refine and_a ?_ | fail) <;> (conv => whnf))
    intro b11 hb11
    have k_b11 := hb11
    repeat replace k_b11 := none_of_set k_b11
    have n_b4_b11 : b4 ≠ b11 := by (have k := hb11; repeat (first | exact ne_set k | replace k := none_of_set k))
    have n_b11_b4 := n_b4_b11.symm
    have n_b7_b11 : b7 ≠ b11 := by (have k := hb11; repeat (first | exact ne_set k | replace k := none_of_set k))
    have n_b11_b7 := n_b7_b11.symm
    have n_b10_b11 : b10 ≠ b11 := by (have k := hb11; repeat (first | exact ne_set k | replace k := none_of_set k))
    have n_b11_b10 := n_b10_b11.symm
    conv => whnf
    repeat' ((first | refine ⟨Sub.refl _, ?_⟩ | (refine brA_split (fun h => ?_) (fun h => ?_) <;> (try rw [h]) <;> (try simp only [bN, bS, ↓reduceIte] at h) <;> (first | (exfalso; first | contradiction | omega | exact (by assumption : ¬ True) trivial | fail) | skip)) | refine getB_a ?_ | (refine ACalls.pure' ?_ (hi45); rintro _ rfl) | refine DCall.pure ?_ (hi45) | (refine ACalls.pure' ?_ (hno); rintro _ rfl) | refine DCall.pure ?_ (hno) | refine getB_same ?_ | refine AWp.anyA ?_ | refine and_a ?_ | fail) <;> (conv => whnf))
    all_goals first | exact ⟨suba, rfl⟩ | fail
theorem rp_val1 {z1 z3 z4 : Int} {z2 : List UInt8} {v : Int × Int × List UInt8 × Bool} {p p2 : Pl} {b : Bool} {o2 : List Ex} (htl : (toksA L).length = L.length) (hlt : a < L.length) (hg : (toksA L).getD a [] = [.int .i64 z1, .str z2, .int .i64 z3, .int .i64 z4]) (hz : ¬ z1 = 1)
    (hi : APure Tryz.prog Γ 16 [.slice tk (toksA L), .agg (plA (alv a k)), .str [40]] fun v => v = .bool false)
    (hi45 : APure Tryz.prog Γ 16 [.slice tk (toksA L), .agg (plA (alv a k)), .str [45]] fun v => v = .bool false)
    (hv : APure Tryz.prog Γ 122 [.slice tk (toksA L), .agg (plA (alv a k))] fun w => w = .tuple [.agg (vlA v), .agg (plA p), .bool b])
    (hst : b = false → APure Tryz.prog Γ 69 [.slice tk (toksA L), .agg (plA (alv a k)), .int .i64 16] fun w => w = .agg (plA p2))
    (hno : b = true → APure Tryz.prog Γ 18 [.slice tk (toksA L), .agg (plA p), .int .i64 a, .slice 0 (exsA o), .agg (exA { ex0 with op := 1, vk := v.1, vi := v.2.1, vs := v.2.2.1, vb := v.2.2.2 })] fun w => w = .tuple [.slice 0 (exsA o2), .agg (plA p2)]) :
    APure Tryz.prog Γ 121 [.slice tk (toksA L), .agg (plA (alv a k)), .slice 0 (exsA o)] fun w => w = .tuple [.slice 0 (exsA (if b = true then o2 else o)), .agg (plA p2)] := by
  obtain ⟨u1, u2, u3, u4, u5⟩ := p
  obtain ⟨t1, t2, t3, t4, t5⟩ := p2
  obtain ⟨v1, v2, v3, v4⟩ := v
  cases b
  · have hst := hst rfl
    clear hno
    simp only [plA, alv, vlA] at hi hv hst hi45 ⊢
    refine APure.of_awp Tryz.func121 rfl (Nat.le_of_ble_eq_true (by kernel_rfl)) (by kernel_rfl) ?_
    intro s
    conv => whnf
    intro b4 hb4
    have k_b4 := hb4
    repeat replace k_b4 := none_of_set k_b4
    conv => whnf
    repeat' ((first | refine ⟨Sub.refl _, ?_⟩ | (refine brA_split (fun h => ?_) (fun h => ?_) <;> (try rw [h]) <;> (try simp only [bN, bS, ↓reduceIte] at h) <;> (first | (exfalso; first | contradiction | omega | exact (by assumption : ¬ True) trivial | fail) | skip)) | refine getB_a ?_ | refine getB_same ?_ | refine AWp.anyA ?_ | refine and_a ?_ | fail) <;> (conv => whnf))
    intro b7 hb7
    have k_b7 := hb7
    repeat replace k_b7 := none_of_set k_b7
    have n_b4_b7 : b4 ≠ b7 := by (have k := hb7; repeat (first | exact ne_set k | replace k := none_of_set k))
    have n_b7_b4 := n_b4_b7.symm
    conv => whnf
    repeat' ((first | refine ⟨Sub.refl _, ?_⟩ | (refine brA_split (fun h => ?_) (fun h => ?_) <;> (try rw [h]) <;> (try simp only [bN, bS, ↓reduceIte] at h) <;> (first | (exfalso; first | contradiction | omega | exact (by assumption : ¬ True) trivial | fail) | skip)) | refine getB_a ?_ | (refine ACalls.pure' ?_ (hi); rintro _ rfl) | refine DCall.pure ?_ (hi) | refine ⟨len_of (hg) rfl, Go.Ab.frcL_of (hg) ?_⟩ | (refine ACalls.pure' ?_ (hv); rintro _ rfl) | refine DCall.pure ?_ (hv) | refine getB_same ?_ | refine AWp.anyA ?_ | refine and_a ?_ | fail) <;> (conv => whnf))
    intro b10 hb10
    have k_b10 := hb10
    repeat replace k_b10 := none_of_set k_b10
    have n_b4_b10 : b4 ≠ b10 := by (have k := hb10; repeat (first | exact ne_set k | replace k := none_of_set k))
    have n_b10_b4 := n_b4_b10.symm
    have n_b7_b10 : b7 ≠ b10 := by (have k := hb10; repeat (first | exact ne_set k | replace k := none_of_set k))
    have n_b10_b7 := n_b7_b10.symm
    conv => whnf
    repeat' ((first | refine ⟨Sub.refl _, ?_⟩ | (refine brA_split (fun h => ?_) (fun h => ?_) <;> (try rw [h]) <;> (try simp only [bN, bS, ↓reduceIte] at h) <;> (first | (exfalso; first | contradiction | omega | exact (by assumption : ¬ True) trivial | fail) | skip)) | refine getB_a ?_ | refine getB_same ?_ | refine AWp.anyA ?_ | refine and_a ?_ | fail) <;> (conv => whnf))
    intro b11 hb11
    have k_b11 := hb11
    repeat replace k_b11 := none_of_set k_b11
    have n_b4_b11 : b4 ≠ b11 := by (have k := hb11; repeat (first | exact ne_set k | replace k := none_of_set k))
    have n_b11_b4 := n_b4_b11.symm
    have n_b7_b11 : b7 ≠ b11 := by (have k := hb11; repeat (first | exact ne_set k | replace k := none_of_set k))
    have n_b11_b7 := n_b7_b11.symm
    have n_b10_b11 : b10 ≠ b11 := by (have k := hb11; repeat (first | exact ne_set k | replace k := none_of_set k))
    have n_b11_b10 := n_b10_b11.symm
    conv => whnf
    repeat' ((first | refine ⟨Sub.refl _, ?_⟩ | (refine brA_split (fun h => ?_) (fun h => ?_) <;> (try rw [h]) <;> (try simp only [bN, bS, ↓reduceIte] at h) <;> (first | (exfalso; first | contradiction | omega | exact (by assumption : ¬ True) trivial | fail) | skip)) | refine getB_a ?_ | (refine ACalls.pure' ?_ (hst); rintro _ rfl) | refine DCall.pure ?_ (hst) | refine getB_same ?_ | refine AWp.anyA ?_ | refine and_a ?_ | fail) <;> (conv => whnf))
    all_goals first | exact ⟨suba, rfl⟩ | fail
  · have hno := hno rfl
    clear hst
    simp only [plA, alv, vlA, exA, ex0] at hi hv hno hi45 ⊢
    refine APure.of_awp Tryz.func121 rfl (Nat.le_of_ble_eq_true (by kernel_rfl)) (by kernel_rfl) ?_
    intro s
    conv => whnf
    intro b4 hb4
    have k_b4 := hb4
    repeat replace k_b4 := none_of_set k_b4
    conv => whnf
    repeat' ((first | refine ⟨Sub.refl _, ?_⟩ | (refine brA_split (fun h => ?_) (fun h => ?_) <;> (try rw [h]) <;> (try simp only [bN, bS, ↓reduceIte] at h) <;> (first | (exfalso; first | contradiction | omega | exact (by assumption : ¬ True) trivial | fail) | skip)) | refine getB_a ?_ | refine getB_same ?_ | refine AWp.anyA ?_ | refine and_a ?_ | fail) <;> (conv => whnf))
    intro b7 hb7
    have k_b7 := hb7
    repeat replace k_b7 := none_of_set k_b7
    have n_b4_b7 : b4 ≠ b7 := by (have k := hb7; repeat (first | exact ne_set k | replace k := none_of_set k))
    have n_b7_b4 := n_b4_b7.symm
    conv => whnf
    repeat' ((first | refine ⟨Sub.refl _, ?_⟩ | (refine brA_split (fun h => ?_) (fun h => ?_) <;> (try rw [h]) <;> (try simp only [bN, bS, ↓reduceIte] at h) <;> (first | (exfalso; first | contradiction | omega | exact (by assumption : ¬ True) trivial | fail) | skip)) | refine getB_a ?_ | (refine ACalls.pure' ?_ (hi); rintro _ rfl) | refine DCall.pure ?_ (hi) | refine ⟨len_of (hg) rfl, Go.Ab.frcL_of (hg) ?_⟩ | (refine ACalls.pure' ?_ (hv); rintro _ rfl) | refine DCall.pure ?_ (hv) | refine getB_same ?_ | refine AWp.anyA ?_ | refine and_a ?_ | fail) <;> (conv => whnf))
    intro b10 hb10
    have k_b10 := hb10
    repeat replace k_b10 := none_of_set k_b10
    have n_b4_b10 : b4 ≠ b10 := by (have k := hb10; repeat (first | exact ne_set k | replace k := none_of_set k))
    have n_b10_b4 := n_b4_b10.symm
    have n_b7_b10 : b7 ≠ b10 := by (have k := hb10; repeat (first | exact ne_set k | replace k := none_of_set k))
    have n_b10_b7 := n_b7_b10.symm
    conv => whnf
    repeat' ((first | refine ⟨Sub.refl _, ?_⟩ | (refine brA_split (fun h => ?_) (fun h => ?_) <;> (try rw [h]) <;> (try simp only [bN, bS, ↓reduceIte] at h) <;> (first | (exfalso; first | contradiction | omega | exact (by assumption : ¬ True) trivial | fail) | skip)) | refine getB_a ?_ | refine getB_same ?_ | refine AWp.anyA ?_ | refine and_a ?_ | fail) <;> (conv => whnf))
    intro b11 hb11
    have k_b11 := hb11
    repeat replace k_b11 := none_of_set k_b11
    have n_b4_b11 : b4 ≠ b11 := by (have k := hb11; repeat (first | exact ne_set k | replace k := none_of_set k))
    have n_b11_b4 := n_b4_b11.symm
    have n_b7_b11 : b7 ≠ b11 := by (have k := hb11; repeat (first | exact ne_set k | replace k := none_of_set k))
    have n_b11_b7 := n_b7_b11.symm
    have n_b10_b11 : b10 ≠ b11 := by (have k := hb11; repeat (first | exact ne_set k | replace k := none_of_set k))
    have n_b11_b10 := n_b10_b11.symm
    conv => whnf
    repeat' ((first | refine ⟨Sub.refl _, ?_⟩ | (refine brA_split (fun h => ?_) (fun h => ?_) <;> (try rw [h]) <;> (try simp only [bN, bS, ↓reduceIte] at h) <;> (first | (exfalso; first | contradiction | omega | exact (by assumption : ¬ True) trivial | fail) | skip)) | refine getB_a ?_ | (refine ACalls.pure' ?_ (hi45); rintro _ rfl) | refine DCall.pure ?_ (hi45) | (refine ACalls.pure' ?_ (hno); rintro _ rfl) | refine DCall.pure ?_ (hno) | refine getB_same ?_ | refine AWp.anyA ?_ | refine and_a ?_ | fail) <;> (conv => whnf))
    all_goals first | exact ⟨suba, rfl⟩ | fail
theorem rp_val2 {z3 z4 : Int} {v : Int × Int × List UInt8 × Bool} {p p2 : Pl} {b : Bool} {o2 : List Ex} (htl : (toksA L).length = L.length) (hlt : a < L.length) (hg : (toksA L).getD a [] = [.int .i64 1, .str [95], .int .i64 z3, .int .i64 z4])
    (hi : APure Tryz.prog Γ 16 [.slice tk (toksA L), .agg (plA (alv a k)), .str [40]] fun v => v = .bool false)
    (hi45 : APure Tryz.prog Γ 16 [.slice tk (toksA L), .agg (plA (alv a k)), .str [45]] fun v => v = .bool false)
    (hv : APure Tryz.prog Γ 122 [.slice tk (toksA L), .agg (plA (alv a k))] fun w => w = .tuple [.agg (vlA v), .agg (plA p), .bool b])
    (hst : b = false → APure Tryz.prog Γ 69 [.slice tk (toksA L), .agg (plA (alv a k)), .int .i64 16] fun w => w = .agg (plA p2))
    (hno : b = true → APure Tryz.prog Γ 18 [.slice tk (toksA L), .agg (plA p), .int .i64 a, .slice 0 (exsA o), .agg (exA { ex0 with op := 1, vk := v.1, vi := v.2.1, vs := v.2.2.1, vb := v.2.2.2 })] fun w => w = .tuple [.slice 0 (exsA o2), .agg (plA p2)]) :
    APure Tryz.prog Γ 121 [.slice tk (toksA L), .agg (plA (alv a k)), .slice 0 (exsA o)] fun w => w = .tuple [.slice 0 (exsA (if b = true then o2 else o)), .agg (plA p2)] := by
  obtain ⟨u1, u2, u3, u4, u5⟩ := p
  obtain ⟨t1, t2, t3, t4, t5⟩ := p2
  obtain ⟨v1, v2, v3, v4⟩ := v
  cases b
  · have hst := hst rfl
    clear hno
    simp only [plA, alv, vlA] at hi hv hst hi45 ⊢
    refine APure.of_awp Tryz.func121 rfl (Nat.le_of_ble_eq_true (by kernel_rfl)) (by kernel_rfl) ?_
    intro s
    conv => whnf
    intro b4 hb4
    have k_b4 := hb4
    repeat replace k_b4 := none_of_set k_b4
    conv => whnf
    repeat' ((first | refine ⟨Sub.refl _, ?_⟩ | (refine brA_split (fun h => ?_) (fun h => ?_) <;> (try rw [h]) <;> (try simp only [bN, bS, ↓reduceIte] at h) <;> (first | (exfalso; first | contradiction | omega | exact (by assumption : ¬ True) trivial | fail) | skip)) | refine getB_a ?_ | refine getB_same ?_ | refine AWp.anyA ?_ | refine and_a ?_ | fail) <;> (conv => whnf))
    intro b7 hb7
    have k_b7 := hb7
    repeat replace k_b7 := none_of_set k_b7
    have n_b4_b7 : b4 ≠ b7 := by (have k := hb7; repeat (first | exact ne_set k | replace k := none_of_set k))
    have n_b7_b4 := n_b4_b7.symm
    conv => whnf
    repeat' ((first | refine ⟨Sub.refl _, ?_⟩ | (refine brA_split (fun h => ?_) (fun h => ?_) <;> (try rw [h]) <;> (try simp only [bN, bS, ↓reduceIte] at h) <;> (first | (exfalso; first | contradiction | omega | exact (by assumption : ¬ True) trivial | fail) | skip)) | refine getB_a ?_ | (refine ACalls.pure' ?_ (hi); rintro _ rfl) | refine DCall.pure ?_ (hi) | refine ⟨len_of (hg) rfl, Go.Ab.frcL_of (hg) ?_⟩ | (refine ACalls.pure' ?_ (hv); rintro _ rfl) | refine DCall.pure ?_ (hv) | refine getB_same ?_ | refine AWp.anyA ?_ | refine and_a ?_ | fail) <;> (conv => whnf))
    intro b10 hb10
    have k_b10 := hb10
    repeat replace k_b10 := none_of_set k_b10
    have n_b4_b10 : b4 ≠ b10 := by (have k := hb10; repeat (first | exact ne_set k | replace k := none_of_set k))
    have n_b10_b4 := n_b4_b10.symm
    have n_b7_b10 : b7 ≠ b10 := by (have k := hb10; repeat (first | exact ne_set k | replace k := none_of_set k))
    have n_b10_b7 := n_b7_b10.symm
    conv => whnf
    repeat' ((first | refine ⟨Sub.refl _, ?_⟩ | (refine brA_split (fun h => ?_) (fun h => ?_) <;> (try rw [h]) <;> (try simp only [bN, bS, ↓reduceIte] at h) <;> (first | (exfalso; first | contradiction | omega | exact (by assumption : ¬ True) trivial | fail) | skip)) | refine getB_a ?_ | refine getB_same ?_ | refine AWp.anyA ?_ | refine and_a ?_ | fail) <;> (conv => whnf))
    intro b11 hb11
    have k_b11 := hb11
    repeat replace k_b11 := none_of_set k_b11
    have n_b4_b11 : b4 ≠ b11 := by (have k := hb11; repeat (first | exact ne_set k | replace k := none_of_set k))
    have n_b11_b4 := n_b4_b11.symm
    have n_b7_b11 : b7 ≠ b11 := by (have k := hb11; repeat (first | exact ne_set k | replace k := none_of_set k))
    have n_b11_b7 := n_b7_b11.symm
    have n_b10_b11 : b10 ≠ b11 := by (have k := hb11; repeat (first | exact ne_set k | replace k := none_of_set k))
    have n_b11_b10 := n_b10_b11.symm
    conv => whnf
    repeat' ((first | refine ⟨Sub.refl _, ?_⟩ | (refine brA_split (fun h => ?_) (fun h => ?_) <;> (try rw [h]) <;> (try simp only [bN, bS, ↓reduceIte] at h) <;> (first | (exfalso; first | contradiction | omega | exact (by assumption : ¬ True) trivial | fail) | skip)) | refine getB_a ?_ | (refine ACalls.pure' ?_ (hst); rintro _ rfl) | refine DCall.pure ?_ (hst) | refine getB_same ?_ | refine AWp.anyA ?_ | refine and_a ?_ | fail) <;> (conv => whnf))
    all_goals first | exact ⟨suba, rfl⟩ | fail
  · have hno := hno rfl
    clear hst
    simp only [plA, alv, vlA, exA, ex0] at hi hv hno hi45 ⊢
    refine APure.of_awp Tryz.func121 rfl (Nat.le_of_ble_eq_true (by kernel_rfl)) (by kernel_rfl) ?_
    intro s
    conv => whnf
    intro b4 hb4
    have k_b4 := hb4
    repeat replace k_b4 := none_of_set k_b4
    conv => whnf
    repeat' ((first | refine ⟨Sub.refl _, ?_⟩ | (refine brA_split (fun h => ?_) (fun h => ?_) <;> (try rw [h]) <;> (try simp only [bN, bS, ↓reduceIte] at h) <;> (first | (exfalso; first | contradiction | omega | exact (by assumption : ¬ True) trivial | fail) | skip)) | refine getB_a ?_ | refine getB_same ?_ | refine AWp.anyA ?_ | refine and_a ?_ | fail) <;> (conv => whnf))
    intro b7 hb7
    have k_b7 := hb7
    repeat replace k_b7 := none_of_set k_b7
    have n_b4_b7 : b4 ≠ b7 := by (have k := hb7; repeat (first | exact ne_set k | replace k := none_of_set k))
    have n_b7_b4 := n_b4_b7.symm
    conv => whnf
    repeat' ((first | refine ⟨Sub.refl _, ?_⟩ | (refine brA_split (fun h => ?_) (fun h => ?_) <;> (try rw [h]) <;> (try simp only [bN, bS, ↓reduceIte] at h) <;> (first | (exfalso; first | contradiction | omega | exact (by assumption : ¬ True) trivial | fail) | skip)) | refine getB_a ?_ | (refine ACalls.pure' ?_ (hi); rintro _ rfl) | refine DCall.pure ?_ (hi) | refine ⟨len_of (hg) rfl, Go.Ab.frcL_of (hg) ?_⟩ | (refine ACalls.pure' ?_ (hv); rintro _ rfl) | refine DCall.pure ?_ (hv) | refine getB_same ?_ | refine AWp.anyA ?_ | refine and_a ?_ | fail) <;> (conv => whnf))
    intro b10 hb10
    have k_b10 := hb10
    repeat replace k_b10 := none_of_set k_b10
    have n_b4_b10 : b4 ≠ b10 := by (have k := hb10; repeat (first | exact ne_set k | replace k := none_of_set k))
    have n_b10_b4 := n_b4_b10.symm
    have n_b7_b10 : b7 ≠ b10 := by (have k := hb10; repeat (first | exact ne_set k | replace k := none_of_set k))
    have n_b10_b7 := n_b7_b10.symm
    conv => whnf
    repeat' ((first | refine ⟨Sub.refl _, ?_⟩ | (refine brA_split (fun h => ?_) (fun h => ?_) <;> (try rw [h]) <;> (try simp only [bN, bS, ↓reduceIte] at h) <;> (first | (exfalso; first | contradiction | omega | exact (by assumption : ¬ True) trivial | fail) | skip)) | refine getB_a ?_ | refine getB_same ?_ | refine AWp.anyA ?_ | refine and_a ?_ | fail) <;> (conv => whnf))
    intro b11 hb11
    have k_b11 := hb11
    repeat replace k_b11 := none_of_set k_b11
    have n_b4_b11 : b4 ≠ b11 := by (have k := hb11; repeat (first | exact ne_set k | replace k := none_of_set k))
    have n_b11_b4 := n_b4_b11.symm
    have n_b7_b11 : b7 ≠ b11 := by (have k := hb11; repeat (first | exact ne_set k | replace k := none_of_set k))
    have n_b11_b7 := n_b7_b11.symm
    have n_b10_b11 : b10 ≠ b11 := by (have k := hb11; repeat (first | exact ne_set k | replace k := none_of_set k))
    have n_b11_b10 := n_b10_b11.symm
    conv => whnf
    repeat' ((first | refine ⟨Sub.refl _, ?_⟩ | (refine brA_split (fun h => ?_) (fun h => ?_) <;> (try rw [h]) <;> (try simp only [bN, bS, ↓reduceIte] at h) <;> (first | (exfalso; first | contradiction | omega | exact (by assumption : ¬ True) trivial | fail) | skip)) | refine getB_a ?_ | (refine ACalls.pure' ?_ (hi45); rintro _ rfl) | refine DCall.pure ?_ (hi45) | (refine ACalls.pure' ?_ (hno); rintro _ rfl) | refine DCall.pure ?_ (hno) | refine getB_same ?_ | refine AWp.anyA ?_ | refine and_a ?_ | fail) <;> (conv => whnf))
    all_goals first | exact ⟨suba, rfl⟩ | fail
end
end Go.Proofs.YthpnfflkkmpejaaGreatDoor.Pa
namespace Go.Proofs.YthpnfflkkmpejaaGreatDoor.Pa
open Go Go.Ab Go.RowKit Go.Proofs.YthpnfflkkmpejaaGreatDoor.Lx
variable {Γ : Nat → AV}
attribute [local irreducible] APure Sto.set Sto.grow
set_option maxRecDepth 10000
set_option maxHeartbeats 4000000
theorem rPlus_dead (L : List Tok) (hsub : RDead Γ L 84) : RDead Γ L 66 := by
  intro p o tk hp
  have h1 := hsub p o tk hp
  have hsg := rSign_dead (Γ := Γ) L hp tk sumM (by decide)
  obtain ⟨a, e, ln, cl, k⟩ := p
  simp only at hp
  simp only [plA] at *
  refine APure.of_awp Tryz.func66 rfl (Nat.le_of_ble_eq_true (by kernel_rfl)) (by kernel_rfl) ?_
  intro s
  conv => whnf
  intro b4 hb4
  have k_b4 := hb4
  repeat replace k_b4 := none_of_set k_b4
  conv => whnf
  repeat' ((first | refine ⟨Sub.refl _, ?_⟩ | (refine brA_split (fun h => ?_) (fun h => ?_) <;> (try rw [h]) <;> (try simp only [bN, bS, ↓reduceIte] at h) <;> (first | (exfalso; first | contradiction | omega | exact (by assumption : ¬ True) trivial | fail) | skip)) | refine getB_a ?_ | refine getB_same ?_ | refine AWp.anyA ?_ | refine and_a ?_ | fail) <;> (conv => whnf))
  intro b7 hb7
  have k_b7 := hb7
  repeat replace k_b7 := none_of_set k_b7
  have n_b4_b7 : b4 ≠ b7 := by (have k := hb7; repeat (first | exact ne_set k | replace k := none_of_set k))
  have n_b7_b4 := n_b4_b7.symm
  conv => whnf
  repeat' ((first | refine ⟨Sub.refl _, ?_⟩ | (refine brA_split (fun h => ?_) (fun h => ?_) <;> (try rw [h]) <;> (try simp only [bN, bS, ↓reduceIte] at h) <;> (first | (exfalso; first | contradiction | omega | exact (by assumption : ¬ True) trivial | fail) | skip)) | refine getB_a ?_ | (refine ACalls.pure' ?_ (h1); rintro _ rfl) | refine DCall.pure ?_ (h1) | refine getB_same ?_ | refine AWp.anyA ?_ | refine and_a ?_ | fail) <;> (conv => whnf))
  refine AWp.loopA [2] [19, 20, 21, 22, 23, 8, 24, 25, 26, 27, 6, 28, 29, 30, 9, 32, 33, 34, 35, 36, 31, 37, 38, 11, 10, 40, 41, 42, 43, 44, 45, 46, 47, 48, 49, 50, 51, 39, 52, 53] (fun _ : Unit => [.slice 0 (exsA o)]) (fun _ s' => s'.bx b4 = some (33, [.int .i64 a, .int .i64 e, .int .i64 ln, .int .i64 cl, .int .i64 k]) ∧ s'.bx b7 = some (33, [.int .i64 0, .int .i64 0, .int .i64 0, .int .i64 0, .int .i64 0]) ∧ Sub s s') (fun _ => 0) (()) (by kernel_rfl) ((by exact cons_eq rfl rfl)) ?_ ?_
  · exact ⟨bxa, bxa, suba⟩
  · rintro x _ s' ⟨c4, c7, hs'⟩
    show awp _ _ _ _ _ (updL _ _ [.slice 0 (exsA o)]) _
    conv => whnf
    repeat' ((first | refine ⟨Sub.refl _, ?_⟩ | (refine brA_split (fun h => ?_) (fun h => ?_) <;> (try rw [h]) <;> (try simp only [bN, bS, ↓reduceIte] at h) <;> (first | (exfalso; first | contradiction | omega | exact (by assumption : ¬ True) trivial | fail) | skip)) | refine getB_a ?_ | (refine ACalls.pure' ?_ (hsg); rintro _ rfl) | refine DCall.pure ?_ (hsg) | refine getB_same ?_ | refine AWp.anyA ?_ | refine and_a ?_ | fail) <;> (conv => whnf))
    all_goals first | exact ⟨suba, rfl⟩ | fail
theorem rPlus_ok {L : List Tok} (hL : L.length ≤ 90000) {f : Nat} (h : RLev Γ L 84 f 5) (hd : RDead Γ L 84) : RLev Γ L 66 (f + 1) 4 := by
  intro st tk hS hF hE
  have hup := up_enough hE (l2 := 5) (by omega) (by omega)
  have h1 := h st tk hS hF (hup st hS (Nat.le_refl _))
  have hm : ∀ y ∈ sumM, 6 ≤ y.2 ∧ y.2 ≤ 16 := by simp [sumM]
  have hfo := fun x hx => fit_of hL (by omega) hS (hup st hS (Nat.le_refl _)) hF (z := x) hx
  rw [show ev L (f + 1) 4 st = chainF L sumM (ev L f 5) st from rfl]
  have hsgd := fun (p : Pl) (hp : p.e ≠ 0) => rSign_dead (Γ := Γ) L hp tk sumM (by decide)
  have hsta := hS.ha
  have hsto := hS.ho
  refine APure.of_awp Tryz.func66 rfl (Nat.le_of_ble_eq_true (by kernel_rfl)) (by kernel_rfl) ?_
  intro s
  conv => whnf
  intro b4 hb4
  have k_b4 := hb4
  repeat replace k_b4 := none_of_set k_b4
  conv => whnf
  repeat' ((first | refine ⟨Sub.refl _, ?_⟩ | (refine brA_split (fun h => ?_) (fun h => ?_) <;> (try rw [h]) <;> (try simp only [bN, bS, ↓reduceIte] at h) <;> (first | (exfalso; first | contradiction | omega | exact (by assumption : ¬ True) trivial | fail) | skip)) | refine getB_a ?_ | refine getB_same ?_ | refine AWp.anyA ?_ | refine and_a ?_ | fail) <;> (conv => whnf))
  intro b7 hb7
  have k_b7 := hb7
  repeat replace k_b7 := none_of_set k_b7
  have n_b4_b7 : b4 ≠ b7 := by (have k := hb7; repeat (first | exact ne_set k | replace k := none_of_set k))
  have n_b7_b4 := n_b4_b7.symm
  conv => whnf
  repeat' ((first | refine ⟨Sub.refl _, ?_⟩ | (refine brA_split (fun h => ?_) (fun h => ?_) <;> (try rw [h]) <;> (try simp only [bN, bS, ↓reduceIte] at h) <;> (first | (exfalso; first | contradiction | omega | exact (by assumption : ¬ True) trivial | fail) | skip)) | refine getB_a ?_ | (refine ACalls.pure' ?_ h1; rintro _ ⟨o1, ⟨y1, y2, y3, y4, y5⟩, rfl, hr1⟩) | refine getB_same ?_ | refine AWp.anyA ?_ | refine and_a ?_ | fail) <;> (conv => whnf))
  have hch := chn_start (m := sumM) hr1 hfo
  refine AWp.loopA [2] [19, 20, 21, 22, 23, 8, 24, 25, 26, 27, 6, 28, 29, 30, 9, 32, 33, 34, 35, 36, 31, 37, 38, 11, 10, 40, 41, 42, 43, 44, 45, 46, 47, 48, 49, 50, 51, 39, 52, 53] (fun q : List Ex × Pl × Nat => [.slice 0 (exsA q.1)]) (fun q s' => s'.bx b4 = some (33, plA q.2.1) ∧ s'.bx b7 = some (33, [.int .i64 0, .int .i64 0, .int .i64 0, .int .i64 0, .int .i64 0]) ∧ Sub s s' ∧ Chn L sumM (ev L f 5) st q.1 q.2.1 q.2.2) (fun q => q.2.2) ((o1, ⟨y1, y2, y3, y4, y5⟩, L.length + 1)) (by kernel_rfl) ((by exact cons_eq rfl rfl)) ?_ ?_
  · exact ⟨bxa, bxa, suba, hch⟩
  · clear hch hr1 h1 hfo
    rintro x ⟨o, ⟨p1, p2, p3, p4, p5⟩, n⟩ s' ⟨c4, c7, hs', hc⟩
    simp only [plA] at c4 c7 hc
    show awp _ _ _ _ _ (updL _ _ [.slice 0 (exsA o)]) _
    conv => whnf
    rcases hc with ⟨q, rfl, hp, k1, k2, k3, k4, k5⟩ | ⟨e, he, hpe, hpl, hpc⟩
    · simp only [alv, Pl.mk.injEq] at hp
      obtain ⟨rfl, rfl, rfl, rfl, rfl⟩ := hp
      have hqa := k1.ha
      have hqo := k1.ho
      have q1 := k3.a
      have q2 := k3.o
      have hsg := rSign_ok (Γ := Γ) L (by omega) (a := q.a) (by omega) q.k tk sumM (by decide)
      simp only [plA, alv] at hsg
      cases n with
      | zero => omega
      | succ n =>
      by_cases h0 : nextF L q.a sumM = 0
      · rw [h0] at hsg
        have hend := chn_end h0 k4
        clear k4 k5 k3 hup h
        repeat' ((first | refine ⟨Sub.refl _, ?_⟩ | (refine brA_split (fun h => ?_) (fun h => ?_) <;> (try rw [h]) <;> (try simp only [bN, bS, ↓reduceIte] at h) <;> (first | (exfalso; first | contradiction | omega | exact (by assumption : ¬ True) trivial | fail) | skip)) | refine getB_a ?_ | (refine ACalls.pure' ?_ (hsg); rintro _ rfl) | refine DCall.pure ?_ (hsg) | refine getB_same ?_ | refine AWp.anyA ?_ | refine and_a ?_ | fail) <;> (conv => whnf))
        all_goals first | exact ⟨suba, _, _, rfl, hend⟩ | fail
      · have hlt := nextF_lt h0
        have hokq : Okay L { q with a := q.a + 1 } := ⟨by simp only; omega, by simp only; omega, k1.hd, k1.hk⟩
        have henq := hup { q with a := q.a + 1 } hokq (Nat.le_succ_of_le q1)
        have h2 := h { q with a := q.a + 1 } tk hokq k2 henq
        have hfo2 := fun x hx => fit_of hL (by omega) hokq henq k2 (z := x) hx
        have hsk := rSkip_alv (Γ := Γ) (a := q.a) (by omega) q.k
        have hwA : IntKind.i64.wrap (((exsA q.o).length : Int) - 1) = (q.o.length : Int) - 1 := i64_of (by rw [exsA_len]) (by omega) (by omega)
        have hnx := fun {o2 : List Ex} {p2 : Pl} => chn_next (m := sumM) (F := ev L f 5) (n := n) (o2 := o2) (p2 := p2) hS h0 k1 k3 k4 k5 hfo2 hm
        have hop := nextF_op hm h0
        generalize nextF L q.a sumM = op at *
        simp only [plA, alv] at h2 hsk
        clear k4 hup h
        repeat' ((first | refine ⟨Sub.refl _, ?_⟩ | (refine brA_split (fun h => ?_) (fun h => ?_) <;> (try rw [h]) <;> (try simp only [bN, bS, ↓reduceIte] at h) <;> (first | (exfalso; first | contradiction | omega | exact (by assumption : ¬ True) trivial | fail) | skip)) | refine getB_a ?_ | (refine ACalls.pure' ?_ (hsg); rintro _ rfl) | refine DCall.pure ?_ (hsg) | (refine ACalls.pure' ?_ (hsk); rintro _ rfl) | refine DCall.pure ?_ (hsk) | (rw [hwA]) | (refine ACalls.pure' ?_ h2; rintro _ ⟨o1, ⟨y1, y2, y3, y4, y5⟩, rfl, hr1⟩) | refine getB_same ?_ | refine AWp.anyA ?_ | refine and_a ?_ | fail) <;> (conv => whnf))
        obtain ⟨B, hB⟩ : ∃ B, B = IntKind.i64.wrap (((exsA o1).length : Int) - 1) := ⟨_, rfl⟩
        have hBz : ∀ z, ev L f 5 { q with a := q.a + 1 } = .ok z → o1 = z.o ∧ B = (z.o.length : Int) - 1 := fun z hz => by
          rw [hz] at hr1
          obtain ⟨g1, g2, _⟩ := hfo2 z hz
          have e1 := g1.ho
          have e2 := g1.ha
          have e3 := g2.o
          simp only at e3
          refine ⟨hr1.1, ?_⟩
          rw [hB, hr1.1]
          exact i64_of (by rw [exsA_len]) (by omega) (by omega)
        obtain ⟨o2, ⟨w1, w2, w3, w4, w5⟩, hno, hrr⟩ := rNode_step (Γ := Γ) hlt hr1 (x := { ex0 with op := op, a := (q.o.length : Int) - 1, b := B }) (u := [(q.o.length : Int) - 1, B]) (fun z hz => by
          obtain ⟨g1, g2, g3⟩ := hfo2 z hz
          obtain ⟨_, hBe⟩ := hBz z hz
          have e1 := g1.ho
          have e2 := g1.ha
          have e3 := g2.o
          simp only at e3
          exact ⟨g3, by omega, kids_two (by omega) e3 hop rfl rfl hBe⟩) tk
        have hrr2 := hnx (o2 := o2) (p2 := ⟨w1, w2, w3, w4, w5⟩) (by
          rcases hz : ev L f 5 { q with a := q.a + 1 } with e | z
          · rw [hz] at hrr; exact hrr
          · rw [hz] at hrr
            obtain ⟨_, hBe⟩ := hBz z hz
            rw [hBe] at hrr
            exact hrr)
        simp only [plA, exA, ex0] at hno
        clear hnx hrr hBz h2 hfo2 henq hokq hsg hsk
        intro b11 hb11
        have k_b11 := hb11
        repeat replace k_b11 := none_of_set k_b11
        have n_b4_b11 : b4 ≠ b11 := ne_of_none bxa hb11
        have n_b11_b4 := n_b4_b11.symm
        have n_b7_b11 : b7 ≠ b11 := ne_of_none bxa hb11
        have n_b11_b7 := n_b7_b11.symm
        conv => whnf
        have kk := hs'.none k_b11
        repeat' ((first | refine ⟨Sub.refl _, ?_⟩ | (refine brA_split (fun h => ?_) (fun h => ?_) <;> (try rw [h]) <;> (try simp only [bN, bS, ↓reduceIte] at h) <;> (first | (exfalso; first | contradiction | omega | exact (by assumption : ¬ True) trivial | fail) | skip)) | refine getB_a ?_ | (rw [← hB]) | (refine ACalls.pure' ?_ (hno); rintro _ rfl) | refine DCall.pure ?_ (hno) | refine getB_same ?_ | refine AWp.anyA ?_ | refine and_a ?_ | fail) <;> (conv => whnf))
        refine ⟨(o2, ⟨w1, w2, w3, w4, w5⟩, n), eqb, samea, ⟨by first | exact bxa, bxa, ?_, hrr2⟩, by simp only; omega⟩
        have hs2 := hs'
        exact suba
    · have hsg := hsgd ⟨p1, p2, p3, p4, p5⟩ (by show p2 ≠ 0; rw [show p2 = errF e.1 from hpe]; exact errF_ne _)
      simp only [plA] at hsg
      have hend : RR (chainF L sumM (ev L f 5) st) o ⟨p1, p2, p3, p4, p5⟩ := by rw [he]; exact ⟨hpe, hpl, hpc⟩
      repeat' ((first | refine ⟨Sub.refl _, ?_⟩ | (refine brA_split (fun h => ?_) (fun h => ?_) <;> (try rw [h]) <;> (try simp only [bN, bS, ↓reduceIte] at h) <;> (first | (exfalso; first | contradiction | omega | exact (by assumption : ¬ True) trivial | fail) | skip)) | refine getB_a ?_ | (refine ACalls.pure' ?_ (hsg); rintro _ rfl) | refine DCall.pure ?_ (hsg) | refine getB_same ?_ | refine AWp.anyA ?_ | refine and_a ?_ | fail) <;> (conv => whnf))
      all_goals first | exact ⟨suba, _, _, rfl, hend⟩ | fail
end Go.Proofs.YthpnfflkkmpejaaGreatDoor.Pa
namespace Go.Proofs.YthpnfflkkmpejaaGreatDoor.Pa
open Go Go.Ab Go.RowKit Go.Proofs.YthpnfflkkmpejaaGreatDoor.Lx
variable {Γ : Nat → AV}
attribute [local irreducible] APure Sto.set Sto.grow
set_option maxRecDepth 10000
set_option maxHeartbeats 4000000
def cmpR : List (List UInt8 × Int) := [([61, 61], 13), ([33, 61], 14), ([60], 15), ([60, 61], 16), ([62], 115), ([62, 61], 116)]
theorem cmp_two {L : List Tok} {a : Nat} : (nextF L a cmpR = 0 ∧ nextF L a cmpM = 0) ∨ (13 ≤ nextF L a cmpR ∧ nextF L a cmpR ≤ 16 ∧ nextF L a cmpM = nextF L a cmpR) ∨ (115 ≤ nextF L a cmpR ∧ nextF L a cmpR ≤ 116 ∧ nextF L a cmpM = -(nextF L a cmpR - 100)) := by
  unfold nextF
  split
  · generalize (peekF L a).2.1 = t
    simp only [cmpM, cmpR, mapA]
    repeat' split
    all_goals first | (exact .inl ⟨rfl, rfl⟩) | (exact .inr (.inl ⟨by decide, by decide, rfl⟩)) | (exact .inr (.inr ⟨by decide, by decide, rfl⟩))
  · exact .inl ⟨rfl, rfl⟩
theorem turn_fit {s s1 s2 : St} (h : Grown s s1) (k : Grown s1 s2) (hF : Fit s.o s.d) (hl : s.o.length < s1.o.length) (hl2 : s1.o.length < s2.o.length) (hd1 : s1.d.length = s1.o.length) (hd2 : s2.d.length = s2.o.length) (hm : s2.o.length < 1000000) : Fit (turnF s2 s.o.length s1.o.length).o (turnF s2 s.o.length s1.o.length).d := by
  obtain ⟨p1, p2⟩ := turn_two h k (by omega) (by omega) hF.len hd1 hd2 hm
  obtain ⟨t1, t2⟩ := turn_len (s := s2) (f := s.o.length) (m := s1.o.length) (by omega) (by omega) hd2
  exact Grown.fit ⟨p1, ⟨fun i h1 h2 => (p2 i h1 (by omega)).1, fun i h1 h2 => (p2 i h1 (by omega)).2⟩⟩ hF (by rw [t1, t2]; exact hd2)
theorem rCompare_dead (L : List Tok) (hsub : RDead Γ L 66) : RDead Γ L 47 := by
  intro p o tk hp
  have h1 := hsub p o tk hp
  have hsg := rSign_dead (Γ := Γ) L hp tk cmpR (by decide)
  obtain ⟨a, e, ln, cl, k⟩ := p
  simp only at hp
  simp only [plA] at *
  refine APure.of_awp Tryz.func47 rfl (Nat.le_of_ble_eq_true (by kernel_rfl)) (by kernel_rfl) ?_
  intro s
  conv => whnf
  intro b4 hb4
  have k_b4 := hb4
  repeat replace k_b4 := none_of_set k_b4
  conv => whnf
  repeat' ((first | refine ⟨Sub.refl _, ?_⟩ | (refine brA_split (fun h => ?_) (fun h => ?_) <;> (try rw [h]) <;> (try simp only [bN, bS, ↓reduceIte] at h) <;> (first | (exfalso; first | contradiction | omega | exact (by assumption : ¬ True) trivial | fail) | skip)) | refine getB_a ?_ | refine getB_same ?_ | refine AWp.anyA ?_ | refine and_a ?_ | fail) <;> (conv => whnf))
  intro b7 hb7
  have k_b7 := hb7
  repeat replace k_b7 := none_of_set k_b7
  have n_b4_b7 : b4 ≠ b7 := by (have k := hb7; repeat (first | exact ne_set k | replace k := none_of_set k))
  have n_b7_b4 := n_b4_b7.symm
  conv => whnf
  repeat' ((first | refine ⟨Sub.refl _, ?_⟩ | (refine brA_split (fun h => ?_) (fun h => ?_) <;> (try rw [h]) <;> (try simp only [bN, bS, ↓reduceIte] at h) <;> (first | (exfalso; first | contradiction | omega | exact (by assumption : ¬ True) trivial | fail) | skip)) | refine getB_a ?_ | (refine ACalls.pure' ?_ (hsg); rintro _ rfl) | refine DCall.pure ?_ (hsg) | (refine ACalls.pure' ?_ (h1); rintro _ rfl) | refine DCall.pure ?_ (h1) | refine getB_same ?_ | refine AWp.anyA ?_ | refine and_a ?_ | fail) <;> (conv => whnf))
  all_goals first | exact ⟨suba, rfl⟩ | fail
theorem rCompare_ok {L : List Tok} (hL : L.length ≤ 90000) {f : Nat} (h : RLev Γ L 66 f 4) : RLev Γ L 47 (f + 1) 3 := by
  intro st tk hS hF hE
  have hup := up_enough hE (l2 := 4) (by omega) (by omega)
  have h1 := h st tk hS hF (hup st hS (Nat.le_refl _))
  have hfo := fun x hx => fit_of hL (by omega) hS (hup st hS (Nat.le_refl _)) hF (z := x) hx
  have hgr := fun x hx => ev_tree hL f 4 st (by omega) hS (hup st hS (Nat.le_refl _)) x hx
  have hsta := hS.ha
  have hsto := hS.ho
  rw [show ev L (f + 1) 3 st = compF L (ev L f 4) st from rfl]
  refine APure.of_awp Tryz.func47 rfl (Nat.le_of_ble_eq_true (by kernel_rfl)) (by kernel_rfl) ?_
  intro s
  conv => whnf
  intro b4 hb4
  have k_b4 := hb4
  repeat replace k_b4 := none_of_set k_b4
  conv => whnf
  repeat' ((first | refine ⟨Sub.refl _, ?_⟩ | (refine brA_split (fun h => ?_) (fun h => ?_) <;> (try rw [h]) <;> (try simp only [bN, bS, ↓reduceIte] at h) <;> (first | (exfalso; first | contradiction | omega | exact (by assumption : ¬ True) trivial | fail) | skip)) | refine getB_a ?_ | refine getB_same ?_ | refine AWp.anyA ?_ | refine and_a ?_ | fail) <;> (conv => whnf))
  intro b7 hb7
  have k_b7 := hb7
  repeat replace k_b7 := none_of_set k_b7
  have n_b4_b7 : b4 ≠ b7 := by (have k := hb7; repeat (first | exact ne_set k | replace k := none_of_set k))
  have n_b7_b4 := n_b4_b7.symm
  conv => whnf
  repeat' ((first | refine ⟨Sub.refl _, ?_⟩ | (refine brA_split (fun h => ?_) (fun h => ?_) <;> (try rw [h]) <;> (try simp only [bN, bS, ↓reduceIte] at h) <;> (first | (exfalso; first | contradiction | omega | exact (by assumption : ¬ True) trivial | fail) | skip)) | refine getB_a ?_ | (refine ACalls.pure' ?_ h1; rintro _ ⟨o1, ⟨y1, y2, y3, y4, y5⟩, rfl, hr1⟩) | refine getB_same ?_ | refine AWp.anyA ?_ | refine and_a ?_ | fail) <;> (conv => whnf))
  rcases hr : ev L f 4 st with e | x
  · rw [hr] at hr1
    have hsg := rSign_dead (Γ := Γ) L (p := ⟨y1, y2, y3, y4, y5⟩) (by rw [hr1.1]; exact errF_ne _) tk cmpR (by decide)
    simp only [plA] at hsg
    have hend : RR (compF L (ev L f 4) st) o1 ⟨y1, y2, y3, y4, y5⟩ := by unfold compF; rw [hr]; exact hr1
    clear h1 hfo hgr hup h
    repeat' ((first | refine ⟨Sub.refl _, ?_⟩ | (refine brA_split (fun h => ?_) (fun h => ?_) <;> (try rw [h]) <;> (try simp only [bN, bS, ↓reduceIte] at h) <;> (first | (exfalso; first | contradiction | omega | exact (by assumption : ¬ True) trivial | fail) | skip)) | refine getB_a ?_ | (refine ACalls.pure' ?_ (hsg); rintro _ rfl) | refine DCall.pure ?_ (hsg) | refine getB_same ?_ | refine AWp.anyA ?_ | refine and_a ?_ | fail) <;> (conv => whnf))
    all_goals first | exact ⟨suba, _, _, rfl, hend⟩ | fail
  · rw [hr] at hr1
    obtain ⟨rfl, hp⟩ := hr1
    simp only [alv, Pl.mk.injEq] at hp
    obtain ⟨rfl, rfl, rfl, rfl, rfl⟩ := hp
    obtain ⟨g1, g2, g3⟩ := hfo x hr
    have g4 := hgr x hr
    have hxa := g1.ha
    have hxo := g1.ho
    have x1 := g2.a
    have x2 := g2.o
    have hsg := rSign_ok (Γ := Γ) L (by omega) (a := x.a) (by omega) x.k tk cmpR (by decide)
    simp only [plA, alv] at hsg
    have hcf : compF L (ev L f 4) st = if nextF L x.a cmpM = 0 then .ok x else match ev L f 4 { x with a := x.a + 1 } with
        | .error e => .error e
        | .ok s2 => if nextF L x.a cmpM < 0
          then nodeF (peekF L x.a) { ex0 with op := -(nextF L x.a cmpM), a := (st.o.length + (s2.o.length - x.o.length) : Nat) - 1, b := (s2.o.length : Int) - 1 } [((st.o.length + (s2.o.length - x.o.length) : Nat) : Int) - 1, (s2.o.length : Int) - 1] (turnF s2 st.o.length x.o.length)
          else nodeF (peekF L x.a) { ex0 with op := nextF L x.a cmpM, a := (x.o.length : Int) - 1, b := (s2.o.length : Int) - 1 } [(x.o.length : Int) - 1, (s2.o.length : Int) - 1] s2 := by
      unfold compF; rw [hr]; rfl
    rw [hcf]
    clear hcf
    have hnl : nextF L x.a cmpR ≠ 0 → x.a < L.length := fun hn => nextF_lt hn
    have htwo := cmp_two (L := L) (a := x.a)
    generalize nextF L x.a cmpR = opR at *
    generalize nextF L x.a cmpM = opM at *
    have hol := exsA_len st.o
    have hxl := exsA_len x.o
    clear h1 hfo hgr
    by_cases h0 : opR = 0
    · have hM0 : opM = 0 := by omega
      rw [if_pos hM0]
      subst h0
      clear h hup
      repeat' ((first | refine ⟨Sub.refl _, ?_⟩ | (refine brA_split (fun h => ?_) (fun h => ?_) <;> (try rw [h]) <;> (try simp only [bN, bS, ↓reduceIte] at h) <;> (first | (exfalso; first | contradiction | omega | exact (by assumption : ¬ True) trivial | fail) | skip)) | refine getB_a ?_ | (refine ACalls.pure' ?_ (hsg); rintro _ rfl) | refine DCall.pure ?_ (hsg) | refine getB_same ?_ | refine AWp.anyA ?_ | refine and_a ?_ | fail) <;> (conv => whnf))
      all_goals first | exact ⟨suba, _, _, rfl, rfl, rfl⟩ | fail
    · have hMn : opM ≠ 0 := by omega
      rw [if_neg hMn]
      have hlt := hnl h0
      have hokq : Okay L { x with a := x.a + 1 } := ⟨by simp only; omega, by simp only; omega, g1.hd, g1.hk⟩
      have henq := hup { x with a := x.a + 1 } hokq (Nat.le_succ_of_le x1)
      have h2 := h { x with a := x.a + 1 } tk hokq g3 henq
      have hfo2 := fun z hz => fit_of hL (by omega) hokq henq g3 (z := z) hz
      have hgr2 := fun z hz => Grown.at_ (s := x) _ _ (ev_tree hL f 4 { x with a := x.a + 1 } (by omega) hokq henq z hz)
      have hsk := rSkip_alv (Γ := Γ) (a := x.a) (by omega) x.k
      simp only [plA, alv] at h2 hsk
      clear h hup henq
      repeat' ((first | refine ⟨Sub.refl _, ?_⟩ | (refine brA_split (fun h => ?_) (fun h => ?_) <;> (try rw [h]) <;> (try simp only [bN, bS, ↓reduceIte] at h) <;> (first | (exfalso; first | contradiction | omega | exact (by assumption : ¬ True) trivial | fail) | skip)) | refine getB_a ?_ | (refine ACalls.pure' ?_ (hsg); rintro _ rfl) | refine DCall.pure ?_ (hsg) | (refine ACalls.pure' ?_ (hsk); rintro _ rfl) | refine DCall.pure ?_ (hsk) | (refine ACalls.pure' ?_ h2; rintro _ ⟨o2, ⟨y1, y2, y3, y4, y5⟩, rfl, hr2⟩) | refine getB_same ?_ | refine AWp.anyA ?_ | refine and_a ?_ | fail) <;> (conv => whnf))
      intro b12 hb12
      have k_b12 := hb12
      repeat replace k_b12 := none_of_set k_b12
      have n_b4_b12 : b4 ≠ b12 := by (have k := hb12; repeat (first | exact ne_set k | replace k := none_of_set k))
      have n_b12_b4 := n_b4_b12.symm
      have n_b7_b12 : b7 ≠ b12 := by (have k := hb12; repeat (first | exact ne_set k | replace k := none_of_set k))
      have n_b12_b7 := n_b7_b12.symm
      conv => whnf
      rcases hr3 : ev L f 4 { x with a := x.a + 1 } with e | z
      · rw [hr3] at hr2
        have hne : y2 ≠ 0 := by rw [show y2 = errF e.1 from hr2.1]; exact errF_ne _
        clear h2
        repeat' ((first | refine ⟨Sub.refl _, ?_⟩ | (refine brA_split (fun h => ?_) (fun h => ?_) <;> (try rw [h]) <;> (try simp only [bN, bS, ↓reduceIte] at h) <;> (first | (exfalso; first | contradiction | omega | exact (by assumption : ¬ True) trivial | fail) | skip)) | refine getB_a ?_ | refine getB_same ?_ | refine AWp.anyA ?_ | refine and_a ?_ | fail) <;> (conv => whnf))
        all_goals first | exact ⟨suba, _, _, rfl, hr2⟩ | fail
      · rw [hr3] at hr2
        obtain ⟨rfl, hp⟩ := hr2
        simp only [alv, Pl.mk.injEq] at hp
        obtain ⟨rfl, rfl, rfl, rfl, rfl⟩ := hp
        obtain ⟨z1, z2, z3⟩ := hfo2 z hr3
        have z4 := hgr2 z hr3
        have e1 := z2.a
        have e2 := z2.l
        have e3 := z2.o
        have e5 := z1.ha
        have e6 := z1.ho
        simp only at e1 e2 e3
        have hzl := exsA_len z.o
        have hwA : IntKind.i64.wrap ((x.o.length : Int) - 1) = (x.o.length : Int) - 1 := i64_of rfl (by omega) (by omega)
        dsimp only
        clear h2 hsg hsk hfo2 hgr2
        by_cases hbig : 100 < opR
        · have hneg : opM < 0 := by omega
          rw [if_pos hneg]
          have hTF := turn_fit g4 z4 hF x2 e3 g1.hd z1.hd (by omega)
          have htu := rTurned_ok (Γ := Γ) (o := z.o) (by omega) (f := st.o.length) (m := x.o.length) (by omega) (by omega)
          have hto : (turnF z st.o.length x.o.length).o = z.o.take st.o.length ++ (z.o.drop x.o.length).map (shiftX (-((x.o.length - st.o.length : Nat) : Int))) ++ ((z.o.take x.o.length).drop st.o.length).map (shiftX ((z.o.length - x.o.length : Nat) : Int)) := rfl
          rw [← hto] at htu
          obtain ⟨t1, t2⟩ := turn_len (s := z) (f := st.o.length) (m := x.o.length) (by omega) (by omega) z1.hd
          have hrr0 : RR (.ok (turnF z st.o.length x.o.length)) (turnF z st.o.length x.o.length).o (alv z.a z.k) := ⟨rfl, rfl⟩
          have htl := exsA_len (turnF z st.o.length x.o.length).o
          obtain ⟨o3, ⟨w1, w2, w3, w4, w5⟩, hno, hrr⟩ := rNode_step (Γ := Γ) hlt hrr0 (x := { ex0 with op := -opM, a := (st.o.length + (z.o.length - x.o.length) : Nat) - 1, b := (z.o.length : Int) - 1 }) (u := [((st.o.length + (z.o.length - x.o.length) : Nat) : Int) - 1, (z.o.length : Int) - 1]) (fun y hy => by
            injection hy with hy
            subst hy
            exact ⟨hTF, by omega, .inr (.inr ⟨st.o.length + (z.o.length - x.o.length) - 1, z.o.length - 1, two_eq (by omega) (by omega), by show ((st.o.length + (z.o.length - x.o.length) : Nat) : Int) - 1 = _; omega, by show (z.o.length : Int) - 1 = _; omega, by show 6 ≤ -opM ∧ -opM ≤ 16; omega, by omega, by omega⟩)⟩) tk
          have hw1 : IntKind.i64.wrap ((st.o.length : Int) + (z.o.length : Int)) = ((st.o.length + z.o.length : Nat) : Int) := i64_of (by omega) (by omega) (by omega)
          have hw2 : IntKind.i64.wrap (((st.o.length + z.o.length : Nat) : Int) - (x.o.length : Int)) = ((st.o.length + (z.o.length - x.o.length) : Nat) : Int) := i64_of (by omega) (by omega) (by omega)
          have hw3 : IntKind.i64.wrap (((st.o.length + (z.o.length - x.o.length) : Nat) : Int) - 1) = ((st.o.length + (z.o.length - x.o.length) : Nat) : Int) - 1 := i64_of rfl (by omega) (by omega)
          have hw4 : IntKind.i64.wrap (opR - 100) = -opM := i64_of (by omega) (by omega) (by omega)
          have hw5 : IntKind.i64.wrap ((z.o.length : Int) - 1) = (z.o.length : Int) - 1 := i64_of rfl (by omega) (by omega)
          simp only [plA, exA, ex0, alv] at hno
          generalize turnF z st.o.length x.o.length = T at *
          clear hTF hF z4 g4 g3 hto hrr0
          repeat' ((first | refine ⟨Sub.refl _, ?_⟩ | (refine brA_split (fun h => ?_) (fun h => ?_) <;> (try rw [h]) <;> (try simp only [bN, bS, ↓reduceIte] at h) <;> (first | (exfalso; first | contradiction | omega | exact (by assumption : ¬ True) trivial | fail) | skip)) | refine getB_a ?_ | (rw [hol]) | (rw [hxl]) | (rw [hzl]) | (rw [htl]) | (rw [t1]) | (rw [hwA]) | (rw [hw1]) | (rw [hw2]) | (rw [hw3]) | (refine ACalls.pure' ?_ (htu); rintro _ rfl) | refine DCall.pure ?_ (htu) | (rw [hw4]) | (rw [hw5]) | (refine ACalls.pure' ?_ (hno); rintro _ rfl) | refine DCall.pure ?_ (hno) | refine getB_same ?_ | refine AWp.anyA ?_ | refine and_a ?_ | fail) <;> (conv => whnf))
          all_goals first | exact ⟨suba, _, _, rfl, hrr⟩ | fail
        · have hneg : ¬ opM < 0 := by omega
          have hMR : opM = opR := by omega
          rw [if_neg hneg]
          subst hMR
          have hrr0 : RR (.ok z) z.o (alv z.a z.k) := ⟨rfl, rfl⟩
          obtain ⟨o3, ⟨w1, w2, w3, w4, w5⟩, hno, hrr⟩ := rNode_step (Γ := Γ) hlt hrr0 (x := { ex0 with op := opM, a := (x.o.length : Int) - 1, b := (z.o.length : Int) - 1 }) (u := [(x.o.length : Int) - 1, (z.o.length : Int) - 1]) (fun y hy => by
            injection hy with hy
            subst hy
            exact ⟨z3, by omega, .inr (.inr ⟨x.o.length - 1, z.o.length - 1, two_eq (by omega) (by omega), by show (x.o.length : Int) - 1 = _; omega, by show (z.o.length : Int) - 1 = _; omega, by show 6 ≤ opM ∧ opM ≤ 16; omega, by omega, by omega⟩)⟩) tk
          have hw5 : IntKind.i64.wrap ((z.o.length : Int) - 1) = (z.o.length : Int) - 1 := i64_of rfl (by omega) (by omega)
          simp only [plA, exA, ex0, alv] at hno
          clear hF z4 g4 g3 z3 hrr0
          repeat' ((first | refine ⟨Sub.refl _, ?_⟩ | (refine brA_split (fun h => ?_) (fun h => ?_) <;> (try rw [h]) <;> (try simp only [bN, bS, ↓reduceIte] at h) <;> (first | (exfalso; first | contradiction | omega | exact (by assumption : ¬ True) trivial | fail) | skip)) | refine getB_a ?_ | (rw [hxl]) | (rw [hzl]) | (rw [hwA]) | (rw [hw5]) | (refine ACalls.pure' ?_ (hno); rintro _ rfl) | refine DCall.pure ?_ (hno) | refine getB_same ?_ | refine AWp.anyA ?_ | refine and_a ?_ | fail) <;> (conv => whnf))
          all_goals first | exact ⟨suba, _, _, rfl, hrr⟩ | fail
end Go.Proofs.YthpnfflkkmpejaaGreatDoor.Pa
namespace Go.Proofs.YthpnfflkkmpejaaGreatDoor.Pa
open Go Go.Ab Go.RowKit Go.Proofs.YthpnfflkkmpejaaGreatDoor.Lx
variable {Γ : Nat → AV}
attribute [local irreducible] APure Sto.set Sto.grow
set_option maxRecDepth 10000
set_option maxHeartbeats 4000000
theorem next_one {L : List Tok} {a : Nat} {w : List UInt8} {c : Int} (hc : c ≠ 0) : (nextF L a [(w, c)] = 0 → isF L a w = false) ∧ (nextF L a [(w, c)] ≠ 0 → isF L a w = true ∧ nextF L a [(w, c)] = c) := by
  have h := sgF_next L a [(w, c)]
  unfold sgF at h
  cases hx : isF L a w
  · rw [hx, if_neg (by decide)] at h
    exact ⟨fun _ => rfl, fun hn => absurd h.symm hn⟩
  · rw [hx, if_pos rfl] at h
    exact ⟨fun h0 => absurd (h.trans h0) hc, fun _ => ⟨rfl, h.symm⟩⟩
theorem rAnd_dead (L : List Tok) (hsub : RDead Γ L 30) : RDead Γ L 15 := by
  intro p o tk hp
  have h1 := hsub p o tk hp
  have hsg := rIs_dead (Γ := Γ) L hp tk [97, 110, 100]
  obtain ⟨a, e, ln, cl, k⟩ := p
  simp only at hp
  simp only [plA] at *
  refine APure.of_awp Tryz.func15 rfl (Nat.le_of_ble_eq_true (by kernel_rfl)) (by kernel_rfl) ?_
  intro s
  conv => whnf
  intro b4 hb4
  have k_b4 := hb4
  repeat replace k_b4 := none_of_set k_b4
  conv => whnf
  repeat' ((first | refine ⟨Sub.refl _, ?_⟩ | (refine brA_split (fun h => ?_) (fun h => ?_) <;> (try rw [h]) <;> (try simp only [bN, bS, ↓reduceIte] at h) <;> (first | (exfalso; first | contradiction | omega | exact (by assumption : ¬ True) trivial | fail) | skip)) | refine getB_a ?_ | refine getB_same ?_ | refine AWp.anyA ?_ | refine and_a ?_ | fail) <;> (conv => whnf))
  intro b7 hb7
  have k_b7 := hb7
  repeat replace k_b7 := none_of_set k_b7
  have n_b4_b7 : b4 ≠ b7 := by (have k := hb7; repeat (first | exact ne_set k | replace k := none_of_set k))
  have n_b7_b4 := n_b4_b7.symm
  conv => whnf
  repeat' ((first | refine ⟨Sub.refl _, ?_⟩ | (refine brA_split (fun h => ?_) (fun h => ?_) <;> (try rw [h]) <;> (try simp only [bN, bS, ↓reduceIte] at h) <;> (first | (exfalso; first | contradiction | omega | exact (by assumption : ¬ True) trivial | fail) | skip)) | refine getB_a ?_ | (refine ACalls.pure' ?_ (h1); rintro _ rfl) | refine DCall.pure ?_ (h1) | refine getB_same ?_ | refine AWp.anyA ?_ | refine and_a ?_ | fail) <;> (conv => whnf))
  refine AWp.loopA [2] [18, 19, 20, 21, 22, 23, 8, 25, 26, 27, 28, 29, 24, 30, 31, 10, 9, 33, 34, 35, 36, 37, 38, 39, 40, 41, 42, 43, 32, 44, 45] (fun _ : Unit => [.slice 0 (exsA o)]) (fun _ s' => s'.bx b4 = some (33, [.int .i64 a, .int .i64 e, .int .i64 ln, .int .i64 cl, .int .i64 k]) ∧ s'.bx b7 = some (33, [.int .i64 0, .int .i64 0, .int .i64 0, .int .i64 0, .int .i64 0]) ∧ Sub s s') (fun _ => 0) (()) (by kernel_rfl) ((by exact cons_eq rfl rfl)) ?_ ?_
  · exact ⟨bxa, bxa, suba⟩
  · rintro x _ s' ⟨c4, c7, hs'⟩
    show awp _ _ _ _ _ (updL _ _ [.slice 0 (exsA o)]) _
    conv => whnf
    repeat' ((first | refine ⟨Sub.refl _, ?_⟩ | (refine brA_split (fun h => ?_) (fun h => ?_) <;> (try rw [h]) <;> (try simp only [bN, bS, ↓reduceIte] at h) <;> (first | (exfalso; first | contradiction | omega | exact (by assumption : ¬ True) trivial | fail) | skip)) | refine getB_a ?_ | (refine ACalls.pure' ?_ (hsg); rintro _ rfl) | refine DCall.pure ?_ (hsg) | refine getB_same ?_ | refine AWp.anyA ?_ | refine and_a ?_ | fail) <;> (conv => whnf))
    all_goals first | exact ⟨suba, rfl⟩ | fail
theorem rAnd_ok {L : List Tok} (hL : L.length ≤ 90000) {f : Nat} (h : RLev Γ L 30 f 2) (hd : RDead Γ L 30) : RLev Γ L 15 (f + 1) 1 := by
  intro st tk hS hF hE
  have hup := up_enough hE (l2 := 2) (by omega) (by omega)
  have h1 := h st tk hS hF (hup st hS (Nat.le_refl _))
  have hm : ∀ y ∈ andM, 6 ≤ y.2 ∧ y.2 ≤ 16 := by simp [andM]
  have hfo := fun x hx => fit_of hL (by omega) hS (hup st hS (Nat.le_refl _)) hF (z := x) hx
  rw [show ev L (f + 1) 1 st = chainF L andM (ev L f 2) st from rfl]
  have hsgd := fun (p : Pl) (hp : p.e ≠ 0) => rIs_dead (Γ := Γ) L hp tk [97, 110, 100]
  have hsta := hS.ha
  have hsto := hS.ho
  refine APure.of_awp Tryz.func15 rfl (Nat.le_of_ble_eq_true (by kernel_rfl)) (by kernel_rfl) ?_
  intro s
  conv => whnf
  intro b4 hb4
  have k_b4 := hb4
  repeat replace k_b4 := none_of_set k_b4
  conv => whnf
  repeat' ((first | refine ⟨Sub.refl _, ?_⟩ | (refine brA_split (fun h => ?_) (fun h => ?_) <;> (try rw [h]) <;> (try simp only [bN, bS, ↓reduceIte] at h) <;> (first | (exfalso; first | contradiction | omega | exact (by assumption : ¬ True) trivial | fail) | skip)) | refine getB_a ?_ | refine getB_same ?_ | refine AWp.anyA ?_ | refine and_a ?_ | fail) <;> (conv => whnf))
  intro b7 hb7
  have k_b7 := hb7
  repeat replace k_b7 := none_of_set k_b7
  have n_b4_b7 : b4 ≠ b7 := by (have k := hb7; repeat (first | exact ne_set k | replace k := none_of_set k))
  have n_b7_b4 := n_b4_b7.symm
  conv => whnf
  repeat' ((first | refine ⟨Sub.refl _, ?_⟩ | (refine brA_split (fun h => ?_) (fun h => ?_) <;> (try rw [h]) <;> (try simp only [bN, bS, ↓reduceIte] at h) <;> (first | (exfalso; first | contradiction | omega | exact (by assumption : ¬ True) trivial | fail) | skip)) | refine getB_a ?_ | (refine ACalls.pure' ?_ h1; rintro _ ⟨o1, ⟨y1, y2, y3, y4, y5⟩, rfl, hr1⟩) | refine getB_same ?_ | refine AWp.anyA ?_ | refine and_a ?_ | fail) <;> (conv => whnf))
  have hch := chn_start (m := andM) hr1 hfo
  refine AWp.loopA [2] [18, 19, 20, 21, 22, 23, 8, 25, 26, 27, 28, 29, 24, 30, 31, 10, 9, 33, 34, 35, 36, 37, 38, 39, 40, 41, 42, 43, 32, 44, 45] (fun q : List Ex × Pl × Nat => [.slice 0 (exsA q.1)]) (fun q s' => s'.bx b4 = some (33, plA q.2.1) ∧ s'.bx b7 = some (33, [.int .i64 0, .int .i64 0, .int .i64 0, .int .i64 0, .int .i64 0]) ∧ Sub s s' ∧ Chn L andM (ev L f 2) st q.1 q.2.1 q.2.2) (fun q => q.2.2) ((o1, ⟨y1, y2, y3, y4, y5⟩, L.length + 1)) (by kernel_rfl) ((by exact cons_eq rfl rfl)) ?_ ?_
  · exact ⟨bxa, bxa, suba, hch⟩
  · clear hch hr1 h1 hfo
    rintro x ⟨o, ⟨p1, p2, p3, p4, p5⟩, n⟩ s' ⟨c4, c7, hs', hc⟩
    simp only [plA] at c4 c7 hc
    show awp _ _ _ _ _ (updL _ _ [.slice 0 (exsA o)]) _
    conv => whnf
    rcases hc with ⟨q, rfl, hp, k1, k2, k3, k4, k5⟩ | ⟨e, he, hpe, hpl, hpc⟩
    · simp only [alv, Pl.mk.injEq] at hp
      obtain ⟨rfl, rfl, rfl, rfl, rfl⟩ := hp
      have hqa := k1.ha
      have hqo := k1.ho
      have q1 := k3.a
      have q2 := k3.o
      have hsg := rIs_ok (Γ := Γ) L (by omega) (a := q.a) (by omega) q.k tk [97, 110, 100]
      have hone := next_one (L := L) (a := q.a) (w := [97, 110, 100]) (c := 6) (by decide)
      simp only [plA, alv] at hsg
      cases n with
      | zero => omega
      | succ n =>
      by_cases h0 : nextF L q.a andM = 0
      · rw [hone.1 h0] at hsg
        have hend := chn_end h0 k4
        clear k4 k5 k3 hup h
        repeat' ((first | refine ⟨Sub.refl _, ?_⟩ | (refine brA_split (fun h => ?_) (fun h => ?_) <;> (try rw [h]) <;> (try simp only [bN, bS, ↓reduceIte] at h) <;> (first | (exfalso; first | contradiction | omega | exact (by assumption : ¬ True) trivial | fail) | skip)) | refine getB_a ?_ | (refine ACalls.pure' ?_ (hsg); rintro _ rfl) | refine DCall.pure ?_ (hsg) | refine getB_same ?_ | refine AWp.anyA ?_ | refine and_a ?_ | fail) <;> (conv => whnf))
        all_goals first | exact ⟨suba, _, _, rfl, hend⟩ | fail
      · have hlt := nextF_lt h0
        have hokq : Okay L { q with a := q.a + 1 } := ⟨by simp only; omega, by simp only; omega, k1.hd, k1.hk⟩
        have henq := hup { q with a := q.a + 1 } hokq (Nat.le_succ_of_le q1)
        have h2 := h { q with a := q.a + 1 } tk hokq k2 henq
        have hfo2 := fun x hx => fit_of hL (by omega) hokq henq k2 (z := x) hx
        have hsk := rSkip_alv (Γ := Γ) (a := q.a) (by omega) q.k
        have hwA : IntKind.i64.wrap (((exsA q.o).length : Int) - 1) = (q.o.length : Int) - 1 := i64_of (by rw [exsA_len]) (by omega) (by omega)
        have hnx := fun {o2 : List Ex} {p2 : Pl} => chn_next (m := andM) (F := ev L f 2) (n := n) (o2 := o2) (p2 := p2) hS h0 k1 k3 k4 k5 hfo2 hm
        have hop := nextF_op hm h0
        rw [(hone.2 h0).1] at hsg
        have hc : nextF L q.a andM = 6 := (hone.2 h0).2
        rw [hc] at hnx hop
        simp only [plA, alv] at h2 hsk
        clear k4 hup h
        repeat' ((first | refine ⟨Sub.refl _, ?_⟩ | (refine brA_split (fun h => ?_) (fun h => ?_) <;> (try rw [h]) <;> (try simp only [bN, bS, ↓reduceIte] at h) <;> (first | (exfalso; first | contradiction | omega | exact (by assumption : ¬ True) trivial | fail) | skip)) | refine getB_a ?_ | (refine ACalls.pure' ?_ (hsg); rintro _ rfl) | refine DCall.pure ?_ (hsg) | (refine ACalls.pure' ?_ (hsk); rintro _ rfl) | refine DCall.pure ?_ (hsk) | (rw [hwA]) | (refine ACalls.pure' ?_ h2; rintro _ ⟨o1, ⟨y1, y2, y3, y4, y5⟩, rfl, hr1⟩) | refine getB_same ?_ | refine AWp.anyA ?_ | refine and_a ?_ | fail) <;> (conv => whnf))
        obtain ⟨B, hB⟩ : ∃ B, B = IntKind.i64.wrap (((exsA o1).length : Int) - 1) := ⟨_, rfl⟩
        have hBz : ∀ z, ev L f 2 { q with a := q.a + 1 } = .ok z → o1 = z.o ∧ B = (z.o.length : Int) - 1 := fun z hz => by
          rw [hz] at hr1
          obtain ⟨g1, g2, _⟩ := hfo2 z hz
          have e1 := g1.ho
          have e2 := g1.ha
          have e3 := g2.o
          simp only at e3
          refine ⟨hr1.1, ?_⟩
          rw [hB, hr1.1]
          exact i64_of (by rw [exsA_len]) (by omega) (by omega)
        obtain ⟨o2, ⟨w1, w2, w3, w4, w5⟩, hno, hrr⟩ := rNode_step (Γ := Γ) hlt hr1 (x := { ex0 with op := 6, a := (q.o.length : Int) - 1, b := B }) (u := [(q.o.length : Int) - 1, B]) (fun z hz => by
          obtain ⟨g1, g2, g3⟩ := hfo2 z hz
          obtain ⟨_, hBe⟩ := hBz z hz
          have e1 := g1.ho
          have e2 := g1.ha
          have e3 := g2.o
          simp only at e3
          exact ⟨g3, by omega, kids_two (by omega) e3 hop rfl rfl hBe⟩) tk
        have hrr2 := hnx (o2 := o2) (p2 := ⟨w1, w2, w3, w4, w5⟩) (by
          rcases hz : ev L f 2 { q with a := q.a + 1 } with e | z
          · rw [hz] at hrr; exact hrr
          · rw [hz] at hrr
            obtain ⟨_, hBe⟩ := hBz z hz
            rw [hBe] at hrr
            exact hrr)
        simp only [plA, exA, ex0] at hno
        clear hnx hrr hBz h2 hfo2 henq hokq hsg hsk
        intro b11 hb11
        have k_b11 := hb11
        repeat replace k_b11 := none_of_set k_b11
        have n_b4_b11 : b4 ≠ b11 := ne_of_none bxa hb11
        have n_b11_b4 := n_b4_b11.symm
        have n_b7_b11 : b7 ≠ b11 := ne_of_none bxa hb11
        have n_b11_b7 := n_b7_b11.symm
        conv => whnf
        have kk := hs'.none k_b11
        repeat' ((first | refine ⟨Sub.refl _, ?_⟩ | (refine brA_split (fun h => ?_) (fun h => ?_) <;> (try rw [h]) <;> (try simp only [bN, bS, ↓reduceIte] at h) <;> (first | (exfalso; first | contradiction | omega | exact (by assumption : ¬ True) trivial | fail) | skip)) | refine getB_a ?_ | (rw [← hB]) | (refine ACalls.pure' ?_ (hno); rintro _ rfl) | refine DCall.pure ?_ (hno) | refine getB_same ?_ | refine AWp.anyA ?_ | refine and_a ?_ | fail) <;> (conv => whnf))
        refine ⟨(o2, ⟨w1, w2, w3, w4, w5⟩, n), eqb, samea, ⟨by first | exact bxa, bxa, ?_, hrr2⟩, by simp only; omega⟩
        have hs2 := hs'
        exact suba
    · have hsg := hsgd ⟨p1, p2, p3, p4, p5⟩ (by show p2 ≠ 0; rw [show p2 = errF e.1 from hpe]; exact errF_ne _)
      simp only [plA] at hsg
      have hend : RR (chainF L andM (ev L f 2) st) o ⟨p1, p2, p3, p4, p5⟩ := by rw [he]; exact ⟨hpe, hpl, hpc⟩
      repeat' ((first | refine ⟨Sub.refl _, ?_⟩ | (refine brA_split (fun h => ?_) (fun h => ?_) <;> (try rw [h]) <;> (try simp only [bN, bS, ↓reduceIte] at h) <;> (first | (exfalso; first | contradiction | omega | exact (by assumption : ¬ True) trivial | fail) | skip)) | refine getB_a ?_ | (refine ACalls.pure' ?_ (hsg); rintro _ rfl) | refine DCall.pure ?_ (hsg) | refine getB_same ?_ | refine AWp.anyA ?_ | refine and_a ?_ | fail) <;> (conv => whnf))
      all_goals first | exact ⟨suba, _, _, rfl, hend⟩ | fail
end Go.Proofs.YthpnfflkkmpejaaGreatDoor.Pa
namespace Go.Proofs.YthpnfflkkmpejaaGreatDoor.Pa
open Go Go.Ab Go.RowKit Go.Proofs.YthpnfflkkmpejaaGreatDoor.Lx
variable {Γ : Nat → AV}
attribute [local irreducible] APure Sto.set Sto.grow
set_option maxRecDepth 10000
set_option maxHeartbeats 4000000
theorem rOr_dead (L : List Tok) (hsub : RDead Γ L 15) : RDead Γ L 8 := by
  intro p o tk hp
  have h1 := hsub p o tk hp
  have hsg := rIs_dead (Γ := Γ) L hp tk [111, 114]
  obtain ⟨a, e, ln, cl, k⟩ := p
  simp only at hp
  simp only [plA] at *
  refine APure.of_awp Tryz.func8 rfl (Nat.le_of_ble_eq_true (by kernel_rfl)) (by kernel_rfl) ?_
  intro s
  conv => whnf
  intro b4 hb4
  have k_b4 := hb4
  repeat replace k_b4 := none_of_set k_b4
  conv => whnf
  repeat' ((first | refine ⟨Sub.refl _, ?_⟩ | (refine brA_split (fun h => ?_) (fun h => ?_) <;> (try rw [h]) <;> (try simp only [bN, bS, ↓reduceIte] at h) <;> (first | (exfalso; first | contradiction | omega | exact (by assumption : ¬ True) trivial | fail) | skip)) | refine getB_a ?_ | refine getB_same ?_ | refine AWp.anyA ?_ | refine and_a ?_ | fail) <;> (conv => whnf))
  intro b7 hb7
  have k_b7 := hb7
  repeat replace k_b7 := none_of_set k_b7
  have n_b4_b7 : b4 ≠ b7 := by (have k := hb7; repeat (first | exact ne_set k | replace k := none_of_set k))
  have n_b7_b4 := n_b4_b7.symm
  conv => whnf
  repeat' ((first | refine ⟨Sub.refl _, ?_⟩ | (refine brA_split (fun h => ?_) (fun h => ?_) <;> (try rw [h]) <;> (try simp only [bN, bS, ↓reduceIte] at h) <;> (first | (exfalso; first | contradiction | omega | exact (by assumption : ¬ True) trivial | fail) | skip)) | refine getB_a ?_ | (refine ACalls.pure' ?_ (h1); rintro _ rfl) | refine DCall.pure ?_ (h1) | refine getB_same ?_ | refine AWp.anyA ?_ | refine and_a ?_ | fail) <;> (conv => whnf))
  refine AWp.loopA [2] [18, 19, 20, 21, 22, 23, 8, 25, 26, 27, 28, 29, 24, 30, 31, 10, 9, 33, 34, 35, 36, 37, 38, 39, 40, 41, 42, 43, 32, 44, 45] (fun _ : Unit => [.slice 0 (exsA o)]) (fun _ s' => s'.bx b4 = some (33, [.int .i64 a, .int .i64 e, .int .i64 ln, .int .i64 cl, .int .i64 k]) ∧ s'.bx b7 = some (33, [.int .i64 0, .int .i64 0, .int .i64 0, .int .i64 0, .int .i64 0]) ∧ Sub s s') (fun _ => 0) (()) (by kernel_rfl) ((by exact cons_eq rfl rfl)) ?_ ?_
  · exact ⟨bxa, bxa, suba⟩
  · rintro x _ s' ⟨c4, c7, hs'⟩
    show awp _ _ _ _ _ (updL _ _ [.slice 0 (exsA o)]) _
    conv => whnf
    repeat' ((first | refine ⟨Sub.refl _, ?_⟩ | (refine brA_split (fun h => ?_) (fun h => ?_) <;> (try rw [h]) <;> (try simp only [bN, bS, ↓reduceIte] at h) <;> (first | (exfalso; first | contradiction | omega | exact (by assumption : ¬ True) trivial | fail) | skip)) | refine getB_a ?_ | (refine ACalls.pure' ?_ (hsg); rintro _ rfl) | refine DCall.pure ?_ (hsg) | refine getB_same ?_ | refine AWp.anyA ?_ | refine and_a ?_ | fail) <;> (conv => whnf))
    all_goals first | exact ⟨suba, rfl⟩ | fail
theorem rOr_ok {L : List Tok} (hL : L.length ≤ 90000) {f : Nat} (h : RLev Γ L 15 f 1) (hd : RDead Γ L 15) : RLev Γ L 8 (f + 1) 0 := by
  intro st tk hS hF hE
  have hup := up_enough hE (l2 := 1) (by omega) (by omega)
  have h1 := h st tk hS hF (hup st hS (Nat.le_refl _))
  have hm : ∀ y ∈ orM, 6 ≤ y.2 ∧ y.2 ≤ 16 := by simp [orM]
  have hfo := fun x hx => fit_of hL (by omega) hS (hup st hS (Nat.le_refl _)) hF (z := x) hx
  rw [show ev L (f + 1) 0 st = chainF L orM (ev L f 1) st from rfl]
  have hsgd := fun (p : Pl) (hp : p.e ≠ 0) => rIs_dead (Γ := Γ) L hp tk [111, 114]
  have hsta := hS.ha
  have hsto := hS.ho
  refine APure.of_awp Tryz.func8 rfl (Nat.le_of_ble_eq_true (by kernel_rfl)) (by kernel_rfl) ?_
  intro s
  conv => whnf
  intro b4 hb4
  have k_b4 := hb4
  repeat replace k_b4 := none_of_set k_b4
  conv => whnf
  repeat' ((first | refine ⟨Sub.refl _, ?_⟩ | (refine brA_split (fun h => ?_) (fun h => ?_) <;> (try rw [h]) <;> (try simp only [bN, bS, ↓reduceIte] at h) <;> (first | (exfalso; first | contradiction | omega | exact (by assumption : ¬ True) trivial | fail) | skip)) | refine getB_a ?_ | refine getB_same ?_ | refine AWp.anyA ?_ | refine and_a ?_ | fail) <;> (conv => whnf))
  intro b7 hb7
  have k_b7 := hb7
  repeat replace k_b7 := none_of_set k_b7
  have n_b4_b7 : b4 ≠ b7 := by (have k := hb7; repeat (first | exact ne_set k | replace k := none_of_set k))
  have n_b7_b4 := n_b4_b7.symm
  conv => whnf
  repeat' ((first | refine ⟨Sub.refl _, ?_⟩ | (refine brA_split (fun h => ?_) (fun h => ?_) <;> (try rw [h]) <;> (try simp only [bN, bS, ↓reduceIte] at h) <;> (first | (exfalso; first | contradiction | omega | exact (by assumption : ¬ True) trivial | fail) | skip)) | refine getB_a ?_ | (refine ACalls.pure' ?_ h1; rintro _ ⟨o1, ⟨y1, y2, y3, y4, y5⟩, rfl, hr1⟩) | refine getB_same ?_ | refine AWp.anyA ?_ | refine and_a ?_ | fail) <;> (conv => whnf))
  have hch := chn_start (m := orM) hr1 hfo
  refine AWp.loopA [2] [18, 19, 20, 21, 22, 23, 8, 25, 26, 27, 28, 29, 24, 30, 31, 10, 9, 33, 34, 35, 36, 37, 38, 39, 40, 41, 42, 43, 32, 44, 45] (fun q : List Ex × Pl × Nat => [.slice 0 (exsA q.1)]) (fun q s' => s'.bx b4 = some (33, plA q.2.1) ∧ s'.bx b7 = some (33, [.int .i64 0, .int .i64 0, .int .i64 0, .int .i64 0, .int .i64 0]) ∧ Sub s s' ∧ Chn L orM (ev L f 1) st q.1 q.2.1 q.2.2) (fun q => q.2.2) ((o1, ⟨y1, y2, y3, y4, y5⟩, L.length + 1)) (by kernel_rfl) ((by exact cons_eq rfl rfl)) ?_ ?_
  · exact ⟨bxa, bxa, suba, hch⟩
  · clear hch hr1 h1 hfo
    rintro x ⟨o, ⟨p1, p2, p3, p4, p5⟩, n⟩ s' ⟨c4, c7, hs', hc⟩
    simp only [plA] at c4 c7 hc
    show awp _ _ _ _ _ (updL _ _ [.slice 0 (exsA o)]) _
    conv => whnf
    rcases hc with ⟨q, rfl, hp, k1, k2, k3, k4, k5⟩ | ⟨e, he, hpe, hpl, hpc⟩
    · simp only [alv, Pl.mk.injEq] at hp
      obtain ⟨rfl, rfl, rfl, rfl, rfl⟩ := hp
      have hqa := k1.ha
      have hqo := k1.ho
      have q1 := k3.a
      have q2 := k3.o
      have hsg := rIs_ok (Γ := Γ) L (by omega) (a := q.a) (by omega) q.k tk [111, 114]
      have hone := next_one (L := L) (a := q.a) (w := [111, 114]) (c := 7) (by decide)
      simp only [plA, alv] at hsg
      cases n with
      | zero => omega
      | succ n =>
      by_cases h0 : nextF L q.a orM = 0
      · rw [hone.1 h0] at hsg
        have hend := chn_end h0 k4
        clear k4 k5 k3 hup h
        repeat' ((first | refine ⟨Sub.refl _, ?_⟩ | (refine brA_split (fun h => ?_) (fun h => ?_) <;> (try rw [h]) <;> (try simp only [bN, bS, ↓reduceIte] at h) <;> (first | (exfalso; first | contradiction | omega | exact (by assumption : ¬ True) trivial | fail) | skip)) | refine getB_a ?_ | (refine ACalls.pure' ?_ (hsg); rintro _ rfl) | refine DCall.pure ?_ (hsg) | refine getB_same ?_ | refine AWp.anyA ?_ | refine and_a ?_ | fail) <;> (conv => whnf))
        all_goals first | exact ⟨suba, _, _, rfl, hend⟩ | fail
      · have hlt := nextF_lt h0
        have hokq : Okay L { q with a := q.a + 1 } := ⟨by simp only; omega, by simp only; omega, k1.hd, k1.hk⟩
        have henq := hup { q with a := q.a + 1 } hokq (Nat.le_succ_of_le q1)
        have h2 := h { q with a := q.a + 1 } tk hokq k2 henq
        have hfo2 := fun x hx => fit_of hL (by omega) hokq henq k2 (z := x) hx
        have hsk := rSkip_alv (Γ := Γ) (a := q.a) (by omega) q.k
        have hwA : IntKind.i64.wrap (((exsA q.o).length : Int) - 1) = (q.o.length : Int) - 1 := i64_of (by rw [exsA_len]) (by omega) (by omega)
        have hnx := fun {o2 : List Ex} {p2 : Pl} => chn_next (m := orM) (F := ev L f 1) (n := n) (o2 := o2) (p2 := p2) hS h0 k1 k3 k4 k5 hfo2 hm
        have hop := nextF_op hm h0
        rw [(hone.2 h0).1] at hsg
        have hc : nextF L q.a orM = 7 := (hone.2 h0).2
        rw [hc] at hnx hop
        simp only [plA, alv] at h2 hsk
        clear k4 hup h
        repeat' ((first | refine ⟨Sub.refl _, ?_⟩ | (refine brA_split (fun h => ?_) (fun h => ?_) <;> (try rw [h]) <;> (try simp only [bN, bS, ↓reduceIte] at h) <;> (first | (exfalso; first | contradiction | omega | exact (by assumption : ¬ True) trivial | fail) | skip)) | refine getB_a ?_ | (refine ACalls.pure' ?_ (hsg); rintro _ rfl) | refine DCall.pure ?_ (hsg) | (refine ACalls.pure' ?_ (hsk); rintro _ rfl) | refine DCall.pure ?_ (hsk) | (rw [hwA]) | (refine ACalls.pure' ?_ h2; rintro _ ⟨o1, ⟨y1, y2, y3, y4, y5⟩, rfl, hr1⟩) | refine getB_same ?_ | refine AWp.anyA ?_ | refine and_a ?_ | fail) <;> (conv => whnf))
        obtain ⟨B, hB⟩ : ∃ B, B = IntKind.i64.wrap (((exsA o1).length : Int) - 1) := ⟨_, rfl⟩
        have hBz : ∀ z, ev L f 1 { q with a := q.a + 1 } = .ok z → o1 = z.o ∧ B = (z.o.length : Int) - 1 := fun z hz => by
          rw [hz] at hr1
          obtain ⟨g1, g2, _⟩ := hfo2 z hz
          have e1 := g1.ho
          have e2 := g1.ha
          have e3 := g2.o
          simp only at e3
          refine ⟨hr1.1, ?_⟩
          rw [hB, hr1.1]
          exact i64_of (by rw [exsA_len]) (by omega) (by omega)
        obtain ⟨o2, ⟨w1, w2, w3, w4, w5⟩, hno, hrr⟩ := rNode_step (Γ := Γ) hlt hr1 (x := { ex0 with op := 7, a := (q.o.length : Int) - 1, b := B }) (u := [(q.o.length : Int) - 1, B]) (fun z hz => by
          obtain ⟨g1, g2, g3⟩ := hfo2 z hz
          obtain ⟨_, hBe⟩ := hBz z hz
          have e1 := g1.ho
          have e2 := g1.ha
          have e3 := g2.o
          simp only at e3
          exact ⟨g3, by omega, kids_two (by omega) e3 hop rfl rfl hBe⟩) tk
        have hrr2 := hnx (o2 := o2) (p2 := ⟨w1, w2, w3, w4, w5⟩) (by
          rcases hz : ev L f 1 { q with a := q.a + 1 } with e | z
          · rw [hz] at hrr; exact hrr
          · rw [hz] at hrr
            obtain ⟨_, hBe⟩ := hBz z hz
            rw [hBe] at hrr
            exact hrr)
        simp only [plA, exA, ex0] at hno
        clear hnx hrr hBz h2 hfo2 henq hokq hsg hsk
        intro b11 hb11
        have k_b11 := hb11
        repeat replace k_b11 := none_of_set k_b11
        have n_b4_b11 : b4 ≠ b11 := ne_of_none bxa hb11
        have n_b11_b4 := n_b4_b11.symm
        have n_b7_b11 : b7 ≠ b11 := ne_of_none bxa hb11
        have n_b11_b7 := n_b7_b11.symm
        conv => whnf
        have kk := hs'.none k_b11
        repeat' ((first | refine ⟨Sub.refl _, ?_⟩ | (refine brA_split (fun h => ?_) (fun h => ?_) <;> (try rw [h]) <;> (try simp only [bN, bS, ↓reduceIte] at h) <;> (first | (exfalso; first | contradiction | omega | exact (by assumption : ¬ True) trivial | fail) | skip)) | refine getB_a ?_ | (rw [← hB]) | (refine ACalls.pure' ?_ (hno); rintro _ rfl) | refine DCall.pure ?_ (hno) | refine getB_same ?_ | refine AWp.anyA ?_ | refine and_a ?_ | fail) <;> (conv => whnf))
        refine ⟨(o2, ⟨w1, w2, w3, w4, w5⟩, n), eqb, samea, ⟨by first | exact bxa, bxa, ?_, hrr2⟩, by simp only; omega⟩
        have hs2 := hs'
        exact suba
    · have hsg := hsgd ⟨p1, p2, p3, p4, p5⟩ (by show p2 ≠ 0; rw [show p2 = errF e.1 from hpe]; exact errF_ne _)
      simp only [plA] at hsg
      have hend : RR (chainF L orM (ev L f 1) st) o ⟨p1, p2, p3, p4, p5⟩ := by rw [he]; exact ⟨hpe, hpl, hpc⟩
      repeat' ((first | refine ⟨Sub.refl _, ?_⟩ | (refine brA_split (fun h => ?_) (fun h => ?_) <;> (try rw [h]) <;> (try simp only [bN, bS, ↓reduceIte] at h) <;> (first | (exfalso; first | contradiction | omega | exact (by assumption : ¬ True) trivial | fail) | skip)) | refine getB_a ?_ | (refine ACalls.pure' ?_ (hsg); rintro _ rfl) | refine DCall.pure ?_ (hsg) | refine getB_same ?_ | refine AWp.anyA ?_ | refine and_a ?_ | fail) <;> (conv => whnf))
      all_goals first | exact ⟨suba, _, _, rfl, hend⟩ | fail
end Go.Proofs.YthpnfflkkmpejaaGreatDoor.Pa
namespace Go.Proofs.YthpnfflkkmpejaaGreatDoor.Pa
open Go Go.Ab Go.RowKit Go.Proofs.YthpnfflkkmpejaaGreatDoor.Lx
variable {Γ : Nat → AV}
attribute [local irreducible] APure Sto.set Sto.grow
set_option maxRecDepth 10000
set_option maxHeartbeats 4000000
/-- An expression and its closing bracket. -/
def brF (L : List Tok) (E : St → Res St) (s : St) : Res St := match E s with | .error e => .error e | .ok s' => wantF L [41] s'
theorem unaryF_paren {L : List Tok} {E U : St → Res St} {st : St} (h : isF L st.a [40] = true) : unaryF L E U st = insideF L (brF L E) st := by unfold unaryF; rw [if_pos h]; rfl
theorem unaryF_name {L : List Tok} {E U : St → Res St} {st : St} (h : isF L st.a [40] = false) (h1 : (peekF L st.a).1 = 1 ∧ (peekF L st.a).2.1 ≠ [95]) : unaryF L E U st = nodeF (peekF L st.a) { ex0 with op := 17, name := (peekF L st.a).2.1 } [] { st with a := st.a + 1 } := by unfold unaryF; rw [h, if_neg (by decide), if_pos h1]
theorem unaryF_val {L : List Tok} {E U : St → Res St} {st : St} (h : isF L st.a [40] = false) (h1 : ¬ ((peekF L st.a).1 = 1 ∧ (peekF L st.a).2.1 ≠ [95])) (h2 : isF L st.a [45] = true → numbF L st.a = true) : unaryF L E U st = (match valueF L st.a with
    | .error e => .error e
    | .ok (v, a') => nodeF (peekF L st.a) { ex0 with op := 1, vk := v.1, vi := v.2.1, vs := v.2.2.1, vb := v.2.2.2 } [] { st with a := a' }) := by
  unfold unaryF
  rw [h, if_neg (by decide), if_neg h1, if_neg (fun hh => by rw [h2 hh.1] at hh; cases hh.2)]
  rfl
theorem unaryF_neg {L : List Tok} {E U : St → Res St} {st : St} (h : isF L st.a [45] = true) (h2 : numbF L st.a = false) : unaryF L E U st = beforeF L 5 U st := by
  unfold unaryF
  rw [isF_ne h (by decide), if_neg (by decide), if_neg (fun hh => by have := (isF_kind h).1; omega), if_pos ⟨h, h2⟩]
theorem rPrimary_ok {L : List Tok} (hL : L.length ≤ 90000) (hN : Nums L) {f : Nat} (he : RLev Γ L 8 f 0) (hd : RDead Γ L 8) {st : St} (tk : Nat) (hS : Okay L st) (hF : Fit st.o st.d) (hen : st.a < L.length → Enough L 0 f (opened st)) (h45 : isF L st.a [45] = false) (U : St → Res St) :
    APure Tryz.prog Γ 121 [.slice tk (toksA L), .agg (plA (alv st.a st.k)), .slice 0 (exsA st.o)] fun v => ∃ o p, v = .tuple [.slice 0 (exsA o), .agg (plA p)] ∧ RR (unaryF L (ev L f 0) U st) o p := by
  have hsta := hS.ha
  have hsto := hS.ho
  have hstk := hS.hk
  have htl := toksA_len L
  have hi := rIs_ok (Γ := Γ) L (by omega) (a := st.a) (by omega) st.k tk [40]
  have hi45 := rIs_ok (Γ := Γ) L (by omega) (a := st.a) (by omega) st.k tk [45]
  rw [h45] at hi45
  cases hx : isF L st.a [40]
  · rw [hx] at hi
    by_cases hnm : (peekF L st.a).1 = 1 ∧ (peekF L st.a).2.1 ≠ [95]
    · have hlt := kind_lt (L := L) (a := st.a) (by rw [hnm.1]; decide)
      rw [unaryF_name hx hnm]
      have hpk := peekF_in hlt
      have hg := toksA_at hlt
      obtain ⟨o2, p2, hno, hrr⟩ := rNode_step (Γ := Γ) (rF := .ok { st with a := st.a + 1 }) hlt (o1 := st.o) (p1 := alv (st.a + 1) st.k) ⟨rfl, rfl⟩ (x := { ex0 with op := 17, name := (peekF L st.a).2.1 }) (u := []) (fun z hz => by
        injection hz with hz
        subst hz
        exact ⟨hF, by simp only; omega, kids_leaf (.inr rfl)⟩) tk
      have hsk := rSkip_alv (Γ := Γ) (a := st.a) (by omega) st.k
      rw [← hpk, tokA, hnm.1] at hg
      exact (rp_name htl hlt hg hnm.2 hi hsk hno).mono fun v hv => ⟨o2, p2, hv, hrr⟩
    · rw [unaryF_val hx hnm (fun h => by rw [h45] at h; cases h)]
      obtain ⟨v, p, b, hv, hm⟩ := rVal_split (L := L) hN (a := st.a) (k := st.k)
      have hvo := rValue_ok (Γ := Γ) L (by omega) hN (a := st.a) (by omega) st.k tk
      rw [hv] at hvo
      have hst := rStop_ok (Γ := Γ) L (by omega) (a := st.a) (by omega) st.k tk 16
      have fin : ∃ o2 p2, (b = false → APure Tryz.prog Γ 69 [.slice tk (toksA L), .agg (plA (alv st.a st.k)), .int .i64 16] fun w => w = .agg (plA p2)) ∧ (b = true → APure Tryz.prog Γ 18 [.slice tk (toksA L), .agg (plA p), .int .i64 st.a, .slice 0 (exsA st.o), .agg (exA { ex0 with op := 1, vk := v.1, vi := v.2.1, vs := v.2.2.1, vb := v.2.2.2 })] fun w => w = .tuple [.slice 0 (exsA o2), .agg (plA p2)]) ∧
          RR (match valueF L st.a with
            | .error e => .error e
            | .ok (v, a') => nodeF (peekF L st.a) { ex0 with op := 1, vk := v.1, vi := v.2.1, vs := v.2.2.1, vb := v.2.2.2 } [] { st with a := a' }) (if b = true then o2 else st.o) p2 := by
        cases b
        · refine ⟨[], stopP L st.a st.k 16, fun _ => hst, (fun h => by cases h), ?_⟩
          rcases hvf : valueF L st.a with e | x
          · rw [hvf] at hm
            rcases hm with ⟨_, h, _⟩ | ⟨_, _, _, rfl⟩
            · cases h
            · exact ⟨rfl, rfl, rfl⟩
          · rw [hvf] at hm
            cases hm.2.2
        · have hlt : st.a < L.length := by
            rcases hvf : valueF L st.a with e | x
            · rw [hvf] at hm
              rcases hm with ⟨h, _⟩ | ⟨_, h, _⟩
              · by_cases hh : st.a < L.length
                · exact hh
                · unfold numbF at h
                  rw [h45] at h
                  simp [hh] at h
              · cases h
            · have := valueF_lt hvf
              omega
          obtain ⟨o2, p2, h1, h2⟩ := val_node (Γ := Γ) hN hS hF hL hlt hm rfl tk
          exact ⟨o2, p2, (fun h => by cases h), fun _ => h1, h2⟩
      obtain ⟨o2, p2, h1, h2, h3⟩ := fin
      have wrap : (APure Tryz.prog Γ 121 [.slice tk (toksA L), .agg (plA (alv st.a st.k)), .slice 0 (exsA st.o)] fun w => w = .tuple [.slice 0 (exsA (if b = true then o2 else st.o)), .agg (plA p2)]) → _ := fun h => h.mono fun w hw => (⟨_, p2, hw, h3⟩ : ∃ o p, w = AV.tuple [.slice 0 (exsA o), .agg (plA p)] ∧ RR (match valueF L st.a with
            | .error e => .error e
            | .ok (v, a') => nodeF (peekF L st.a) { ex0 with op := 1, vk := v.1, vi := v.2.1, vs := v.2.2.1, vb := v.2.2.2 } [] { st with a := a' }) o p)
      refine wrap ?_
      by_cases hlt : st.a < L.length
      · have hpk := peekF_in hlt
        have hg := toksA_at hlt
        rw [← hpk] at hg
        by_cases h1k : (peekF L st.a).1 = 1
        · have h95 : (peekF L st.a).2.1 = [95] := Classical.byContradiction fun h => hnm ⟨h1k, h⟩
          rw [tokA, h1k, h95] at hg
          exact rp_val2 htl hlt hg hi hi45 hvo h1 h2
        · exact rp_val1 htl hlt hg h1k hi hi45 hvo h1 h2
      · exact rp_val0 htl hlt hi hi45 hvo h1 h2
  · rw [hx] at hi
    rw [unaryF_paren hx]
    have hlt := isF_lt hx
    have hen := hen hlt
    have hop := rOpen_ok (Γ := Γ) L (by omega) (a := st.a) (by omega) hstk tk
    by_cases hk : st.k = 128
    · rw [if_pos hk] at hop
      have hne : (stopP L st.a st.k 13).e ≠ 0 := by show (13 : Int) ≠ 0; decide
      refine rp_paren (fun o p => RR (insideF L (brF L (ev L f 0)) st) o p) hi hop ((hd _ st.o tk hne).mono fun v hv => ⟨_, _, hv, stopP L st.a st.k 13, _, ?_, rWant_dead L hne tk [41], rShut_ok _⟩)
      unfold insideF
      rw [if_pos hk]
      exact ⟨rfl, rfl, rfl⟩
    · rw [if_neg hk] at hop
      have h2 := he (opened st) tk (opened_okay hS hlt hk) hF hen
      refine rp_paren (fun o p => RR (insideF L (brF L (ev L f 0)) st) o p) hi hop (h2.mono fun v hv => ?_)
      obtain ⟨o1, p1, hv, hr⟩ := hv
      have hgo := ev_good f 0 (opened st) (by omega) (opened_okay hS hlt hk) hen
      have key : ∃ q1, RR (brF L (ev L f 0) (opened st)) o1 q1 ∧ APure Tryz.prog Γ 132 [.slice tk (toksA L), .agg (plA p1), .str [41]] fun v => v = .agg (plA q1) := by
        unfold brF
        rcases hrr : ev L f 0 (opened st) with e | z
        · rw [hrr] at hr
          exact ⟨p1, hr, rWant_dead L (by rw [hr.1]; exact errF_ne _) tk [41]⟩
        · rw [hrr] at hr
          obtain ⟨rfl, rfl⟩ := hr
          obtain ⟨g1, g2⟩ := hgo z hrr
          have := g1.ha
          refine ⟨_, ?_, rWant_ok L (by omega) (by omega) z.k tk [41]⟩
          show RR (wantF L [41] z) z.o _
          unfold wantF
          split
          · exact ⟨rfl, rfl⟩
          · exact ⟨rfl, rfl, rfl⟩
      obtain ⟨q1, hq1, hq2⟩ := key
      refine ⟨o1, p1, hv, q1, _, shut_RR hS hk (fun z hz => ?_) hq1, hq2, rShut_ok _⟩
      unfold brF at hz
      rcases hrr : ev L f 0 (opened st) with e | y
      · rw [hrr] at hz; cases hz
      · rw [hrr] at hz
        obtain ⟨g1, g2⟩ := hgo y hrr
        have h3 := g2.k
        have h4 : (opened st).k = st.k + 1 := rfl
        dsimp only at hz
        unfold wantF at hz
        split at hz
        · injection hz with hz; subst hz; show y.k = _; omega
        · cases hz
end Go.Proofs.YthpnfflkkmpejaaGreatDoor.Pa
namespace Go.Proofs.YthpnfflkkmpejaaGreatDoor.Pa
open Go Go.Ab Go.RowKit Go.Proofs.YthpnfflkkmpejaaGreatDoor.Lx
variable {Γ : Nat → AV}
attribute [local irreducible] APure Sto.set Sto.grow
set_option maxRecDepth 10000
set_option maxHeartbeats 4000000
section
variable {L : List Tok} {a : Nat} {k : Int} {tk : Nat} {o : List Ex}
theorem ru_prim (φ : List Ex → Pl → Prop)
    (hi : APure Tryz.prog Γ 16 [.slice tk (toksA L), .agg (plA (alv a k)), .str [45]] fun v => v = .bool false)
    (hp : APure Tryz.prog Γ 121 [.slice tk (toksA L), .agg (plA (alv a k)), .slice 0 (exsA o)] fun v => ∃ o p, v = .tuple [.slice 0 (exsA o), .agg (plA p)] ∧ φ o p) :
    APure Tryz.prog Γ 98 [.slice tk (toksA L), .agg (plA (alv a k)), .slice 0 (exsA o)] fun v => ∃ o p, v = .tuple [.slice 0 (exsA o), .agg (plA p)] ∧ φ o p := by
  simp only [plA, alv] at hi hp ⊢
  refine APure.of_awp Tryz.func98 rfl (Nat.le_of_ble_eq_true (by kernel_rfl)) (by kernel_rfl) ?_
  intro s
  conv => whnf
  intro b4 hb4
  have k_b4 := hb4
  repeat replace k_b4 := none_of_set k_b4
  conv => whnf
  repeat' ((first | refine ⟨Sub.refl _, ?_⟩ | (refine brA_split (fun h => ?_) (fun h => ?_) <;> (try rw [h]) <;> (try simp only [bN, bS, ↓reduceIte] at h) <;> (first | (exfalso; first | contradiction | omega | exact (by assumption : ¬ True) trivial | fail) | skip)) | refine getB_a ?_ | refine getB_same ?_ | refine AWp.anyA ?_ | refine and_a ?_ | fail) <;> (conv => whnf))
  intro b7 hb7
  have k_b7 := hb7
  repeat replace k_b7 := none_of_set k_b7
  have n_b4_b7 : b4 ≠ b7 := by (have k := hb7; repeat (first | exact ne_set k | replace k := none_of_set k))
  have n_b7_b4 := n_b4_b7.symm
  conv => whnf
  repeat' ((first | refine ⟨Sub.refl _, ?_⟩ | (refine brA_split (fun h => ?_) (fun h => ?_) <;> (try rw [h]) <;> (try simp only [bN, bS, ↓reduceIte] at h) <;> (first | (exfalso; first | contradiction | omega | exact (by assumption : ¬ True) trivial | fail) | skip)) | refine getB_a ?_ | (refine ACalls.pure' ?_ (hi); rintro _ rfl) | refine DCall.pure ?_ (hi) | (refine ACalls.pure' ?_ hp; rintro _ ⟨o2, ⟨w1, w2, w3, w4, w5⟩, rfl, hφ⟩) | refine getB_same ?_ | refine AWp.anyA ?_ | refine and_a ?_ | fail) <;> (conv => whnf))
  all_goals first | exact ⟨suba, o2, ⟨w1, w2, w3, w4, w5⟩, rfl, hφ⟩ | fail
theorem ru_val {v : Int × Int × List UInt8 × Bool} {p p2 : Pl} {o2 : List Ex}
    (hi : APure Tryz.prog Γ 16 [.slice tk (toksA L), .agg (plA (alv a k)), .str [45]] fun v => v = .bool true)
    (hv : APure Tryz.prog Γ 122 [.slice tk (toksA L), .agg (plA (alv a k))] fun w => w = .tuple [.agg (vlA v), .agg (plA p), .bool true])
    (hno : APure Tryz.prog Γ 18 [.slice tk (toksA L), .agg (plA p), .int .i64 a, .slice 0 (exsA o), .agg (exA { ex0 with op := 1, vk := v.1, vi := v.2.1, vs := v.2.2.1, vb := v.2.2.2 })] fun w => w = .tuple [.slice 0 (exsA o2), .agg (plA p2)]) :
    APure Tryz.prog Γ 98 [.slice tk (toksA L), .agg (plA (alv a k)), .slice 0 (exsA o)] fun w => w = .tuple [.slice 0 (exsA o2), .agg (plA p2)] := by
  obtain ⟨u1, u2, u3, u4, u5⟩ := p
  obtain ⟨t1, t2, t3, t4, t5⟩ := p2
  obtain ⟨v1, v2, v3, v4⟩ := v
  simp only [plA, alv, vlA, exA, ex0] at hi hv hno ⊢
  refine APure.of_awp Tryz.func98 rfl (Nat.le_of_ble_eq_true (by kernel_rfl)) (by kernel_rfl) ?_
  intro s
  conv => whnf
  intro b4 hb4
  have k_b4 := hb4
  repeat replace k_b4 := none_of_set k_b4
  conv => whnf
  repeat' ((first | refine ⟨Sub.refl _, ?_⟩ | (refine brA_split (fun h => ?_) (fun h => ?_) <;> (try rw [h]) <;> (try simp only [bN, bS, ↓reduceIte] at h) <;> (first | (exfalso; first | contradiction | omega | exact (by assumption : ¬ True) trivial | fail) | skip)) | refine getB_a ?_ | refine getB_same ?_ | refine AWp.anyA ?_ | refine and_a ?_ | fail) <;> (conv => whnf))
  intro b7 hb7
  have k_b7 := hb7
  repeat replace k_b7 := none_of_set k_b7
  have n_b4_b7 : b4 ≠ b7 := by (have k := hb7; repeat (first | exact ne_set k | replace k := none_of_set k))
  have n_b7_b4 := n_b4_b7.symm
  conv => whnf
  repeat' ((first | refine ⟨Sub.refl _, ?_⟩ | (refine brA_split (fun h => ?_) (fun h => ?_) <;> (try rw [h]) <;> (try simp only [bN, bS, ↓reduceIte] at h) <;> (first | (exfalso; first | contradiction | omega | exact (by assumption : ¬ True) trivial | fail) | skip)) | refine getB_a ?_ | (refine ACalls.pure' ?_ (hi); rintro _ rfl) | refine DCall.pure ?_ (hi) | (refine ACalls.pure' ?_ (hv); rintro _ rfl) | refine DCall.pure ?_ (hv) | refine getB_same ?_ | refine AWp.anyA ?_ | refine and_a ?_ | fail) <;> (conv => whnf))
  intro b8 hb8
  have k_b8 := hb8
  repeat replace k_b8 := none_of_set k_b8
  have n_b4_b8 : b4 ≠ b8 := by (have k := hb8; repeat (first | exact ne_set k | replace k := none_of_set k))
  have n_b8_b4 := n_b4_b8.symm
  have n_b7_b8 : b7 ≠ b8 := by (have k := hb8; repeat (first | exact ne_set k | replace k := none_of_set k))
  have n_b8_b7 := n_b7_b8.symm
  conv => whnf
  repeat' ((first | refine ⟨Sub.refl _, ?_⟩ | (refine brA_split (fun h => ?_) (fun h => ?_) <;> (try rw [h]) <;> (try simp only [bN, bS, ↓reduceIte] at h) <;> (first | (exfalso; first | contradiction | omega | exact (by assumption : ¬ True) trivial | fail) | skip)) | refine getB_a ?_ | refine getB_same ?_ | refine AWp.anyA ?_ | refine and_a ?_ | fail) <;> (conv => whnf))
  intro b9 hb9
  have k_b9 := hb9
  repeat replace k_b9 := none_of_set k_b9
  have n_b4_b9 : b4 ≠ b9 := by (have k := hb9; repeat (first | exact ne_set k | replace k := none_of_set k))
  have n_b9_b4 := n_b4_b9.symm
  have n_b7_b9 : b7 ≠ b9 := by (have k := hb9; repeat (first | exact ne_set k | replace k := none_of_set k))
  have n_b9_b7 := n_b7_b9.symm
  have n_b8_b9 : b8 ≠ b9 := by (have k := hb9; repeat (first | exact ne_set k | replace k := none_of_set k))
  have n_b9_b8 := n_b8_b9.symm
  conv => whnf
  repeat' ((first | refine ⟨Sub.refl _, ?_⟩ | (refine brA_split (fun h => ?_) (fun h => ?_) <;> (try rw [h]) <;> (try simp only [bN, bS, ↓reduceIte] at h) <;> (first | (exfalso; first | contradiction | omega | exact (by assumption : ¬ True) trivial | fail) | skip)) | refine getB_a ?_ | (refine ACalls.pure' ?_ (hno); rintro _ rfl) | refine DCall.pure ?_ (hno) | refine getB_same ?_ | refine AWp.anyA ?_ | refine and_a ?_ | fail) <;> (conv => whnf))
  all_goals first | exact ⟨suba, rfl⟩ | fail
theorem ru_neg {v : Int × Int × List UInt8 × Bool} {p p1 : Pl} (φ : List Ex → Pl → Prop)
    (hi : APure Tryz.prog Γ 16 [.slice tk (toksA L), .agg (plA (alv a k)), .str [45]] fun v => v = .bool true)
    (hv : APure Tryz.prog Γ 122 [.slice tk (toksA L), .agg (plA (alv a k))] fun w => w = .tuple [.agg (vlA v), .agg (plA p), .bool false])
    (hop : APure Tryz.prog Γ 48 [.slice tk (toksA L), .agg (plA (alv a k))] fun v => v = .agg (plA p1))
    (hun : APure Tryz.prog Γ 98 [.slice tk (toksA L), .agg (plA p1), .slice 0 (exsA o)] fun v => ∃ o2 p2, v = .tuple [.slice 0 (exsA o2), .agg (plA p2)] ∧ ∃ (q1 q2 : Pl) (o3 : List Ex), φ o3 q2 ∧ (APure Tryz.prog Γ 49 [.agg (plA p2)] fun v => v = .agg (plA q1)) ∧ (APure Tryz.prog Γ 18 [.slice tk (toksA L), .agg (plA q1), .int .i64 a, .slice 0 (exsA o2), .agg (exA { ex0 with op := 5, a := IntKind.i64.wrap (((exsA o2).length : Int) - 1) })] fun w => w = .tuple [.slice 0 (exsA o3), .agg (plA q2)])) :
    APure Tryz.prog Γ 98 [.slice tk (toksA L), .agg (plA (alv a k)), .slice 0 (exsA o)] fun v => ∃ o p, v = .tuple [.slice 0 (exsA o), .agg (plA p)] ∧ φ o p := by
  obtain ⟨u1, u2, u3, u4, u5⟩ := p
  obtain ⟨t1, t2, t3, t4, t5⟩ := p1
  obtain ⟨v1, v2, v3, v4⟩ := v
  simp only [plA, alv, vlA, exA, ex0] at hi hv hop hun ⊢
  refine APure.of_awp Tryz.func98 rfl (Nat.le_of_ble_eq_true (by kernel_rfl)) (by kernel_rfl) ?_
  intro s
  conv => whnf
  intro b4 hb4
  have k_b4 := hb4
  repeat replace k_b4 := none_of_set k_b4
  conv => whnf
  repeat' ((first | refine ⟨Sub.refl _, ?_⟩ | (refine brA_split (fun h => ?_) (fun h => ?_) <;> (try rw [h]) <;> (try simp only [bN, bS, ↓reduceIte] at h) <;> (first | (exfalso; first | contradiction | omega | exact (by assumption : ¬ True) trivial | fail) | skip)) | refine getB_a ?_ | refine getB_same ?_ | refine AWp.anyA ?_ | refine and_a ?_ | fail) <;> (conv => whnf))
  intro b7 hb7
  have k_b7 := hb7
  repeat replace k_b7 := none_of_set k_b7
  have n_b4_b7 : b4 ≠ b7 := by (have k := hb7; repeat (first | exact ne_set k | replace k := none_of_set k))
  have n_b7_b4 := n_b4_b7.symm
  conv => whnf
  repeat' ((first | refine ⟨Sub.refl _, ?_⟩ | (refine brA_split (fun h => ?_) (fun h => ?_) <;> (try rw [h]) <;> (try simp only [bN, bS, ↓reduceIte] at h) <;> (first | (exfalso; first | contradiction | omega | exact (by assumption : ¬ True) trivial | fail) | skip)) | refine getB_a ?_ | (refine ACalls.pure' ?_ (hi); rintro _ rfl) | refine DCall.pure ?_ (hi) | (refine ACalls.pure' ?_ (hv); rintro _ rfl) | refine DCall.pure ?_ (hv) | refine getB_same ?_ | refine AWp.anyA ?_ | refine and_a ?_ | fail) <;> (conv => whnf))
  intro b8 hb8
  have k_b8 := hb8
  repeat replace k_b8 := none_of_set k_b8
  have n_b4_b8 : b4 ≠ b8 := by (have k := hb8; repeat (first | exact ne_set k | replace k := none_of_set k))
  have n_b8_b4 := n_b4_b8.symm
  have n_b7_b8 : b7 ≠ b8 := by (have k := hb8; repeat (first | exact ne_set k | replace k := none_of_set k))
  have n_b8_b7 := n_b7_b8.symm
  conv => whnf
  repeat' ((first | refine ⟨Sub.refl _, ?_⟩ | (refine brA_split (fun h => ?_) (fun h => ?_) <;> (try rw [h]) <;> (try simp only [bN, bS, ↓reduceIte] at h) <;> (first | (exfalso; first | contradiction | omega | exact (by assumption : ¬ True) trivial | fail) | skip)) | refine getB_a ?_ | refine getB_same ?_ | refine AWp.anyA ?_ | refine and_a ?_ | fail) <;> (conv => whnf))
  intro b9 hb9
  have k_b9 := hb9
  repeat replace k_b9 := none_of_set k_b9
  have n_b4_b9 : b4 ≠ b9 := by (have k := hb9; repeat (first | exact ne_set k | replace k := none_of_set k))
  have n_b9_b4 := n_b4_b9.symm
  have n_b7_b9 : b7 ≠ b9 := by (have k := hb9; repeat (first | exact ne_set k | replace k := none_of_set k))
  have n_b9_b7 := n_b7_b9.symm
  have n_b8_b9 : b8 ≠ b9 := by (have k := hb9; repeat (first | exact ne_set k | replace k := none_of_set k))
  have n_b9_b8 := n_b8_b9.symm
  conv => whnf
  repeat' ((first | refine ⟨Sub.refl _, ?_⟩ | (refine brA_split (fun h => ?_) (fun h => ?_) <;> (try rw [h]) <;> (try simp only [bN, bS, ↓reduceIte] at h) <;> (first | (exfalso; first | contradiction | omega | exact (by assumption : ¬ True) trivial | fail) | skip)) | refine getB_a ?_ | (refine ACalls.pure' ?_ (hop); rintro _ rfl) | refine DCall.pure ?_ (hop) | (refine ACalls.pure' ?_ hun; rintro _ ⟨o2, ⟨w1, w2, w3, w4, w5⟩, rfl, ⟨q1, q2, q3, q4, q5⟩, ⟨r1, r2, r3, r4, r5⟩, o3, hφ, hsh, hno⟩) | refine getB_same ?_ | refine AWp.anyA ?_ | refine and_a ?_ | fail) <;> (conv => whnf))
  simp only at hsh hno
  intro b12 hb12
  have k_b12 := hb12
  repeat replace k_b12 := none_of_set k_b12
  have n_b4_b12 : b4 ≠ b12 := by (have k := hb12; repeat (first | exact ne_set k | replace k := none_of_set k))
  have n_b12_b4 := n_b4_b12.symm
  have n_b7_b12 : b7 ≠ b12 := by (have k := hb12; repeat (first | exact ne_set k | replace k := none_of_set k))
  have n_b12_b7 := n_b7_b12.symm
  have n_b8_b12 : b8 ≠ b12 := by (have k := hb12; repeat (first | exact ne_set k | replace k := none_of_set k))
  have n_b12_b8 := n_b8_b12.symm
  have n_b9_b12 : b9 ≠ b12 := by (have k := hb12; repeat (first | exact ne_set k | replace k := none_of_set k))
  have n_b12_b9 := n_b9_b12.symm
  conv => whnf
  repeat' ((first | refine ⟨Sub.refl _, ?_⟩ | (refine brA_split (fun h => ?_) (fun h => ?_) <;> (try rw [h]) <;> (try simp only [bN, bS, ↓reduceIte] at h) <;> (first | (exfalso; first | contradiction | omega | exact (by assumption : ¬ True) trivial | fail) | skip)) | refine getB_a ?_ | (refine ACalls.pure' ?_ (hsh); rintro _ rfl) | refine DCall.pure ?_ (hsh) | (refine ACalls.pure' ?_ (hno); rintro _ rfl) | refine DCall.pure ?_ (hno) | refine getB_same ?_ | refine AWp.anyA ?_ | refine and_a ?_ | fail) <;> (conv => whnf))
  all_goals first | exact ⟨suba, o3, ⟨r1, r2, r3, r4, r5⟩, rfl, hφ⟩ | fail
end
theorem rUnary_ok {L : List Tok} (hL : L.length ≤ 90000) (hN : Nums L) {f : Nat} (he : RLev Γ L 8 f 0) (hd : RDead Γ L 8) (h : RLev Γ L 98 f 6) : RLev Γ L 98 (f + 1) 6 := by
  intro st tk hS hF hE
  have hsta := hS.ha
  have hsto := hS.ho
  have hstk := hS.hk
  have hi := rIs_ok (Γ := Γ) L (by omega) (a := st.a) (by omega) st.k tk [45]
  rw [show ev L (f + 1) 6 st = unaryF L (ev L f 0) (ev L f 6) st from rfl]
  cases hx : isF L st.a [45]
  · rw [hx] at hi
    exact ru_prim _ hi (rPrimary_ok hL hN he hd tk hS hF (fun hlt => by unfold Enough at *; simp only [opened]; omega) hx _)
  · rw [hx] at hi
    have hlt := isF_lt hx
    obtain ⟨v, p, b, hv, hm⟩ := rVal_split (L := L) hN (a := st.a) (k := st.k)
    have hvo := rValue_ok (Γ := Γ) L (by omega) hN (a := st.a) (by omega) st.k tk
    rw [hv] at hvo
    cases hn : numbF L st.a
    · rw [unaryF_neg hx hn]
      have hb : b = false ∧ True := by
        rcases hvf : valueF L st.a with e | x
        · rw [hvf] at hm
          rcases hm with ⟨h, _⟩ | ⟨_, h, _⟩
          · rw [hn] at h; cases h
          · exact ⟨h, trivial⟩
        · exfalso
          have hk := isF_kind hx
          unfold valueF at hvf
          rw [hn, if_neg (by decide), if_neg (by omega), isF_ne hx (by decide), if_neg (by decide), isF_ne hx (by decide), if_neg (by decide)] at hvf
          cases hvf
      obtain ⟨rfl, _⟩ := hb
      have hop := rOpen_ok (Γ := Γ) L (by omega) (a := st.a) (by omega) hstk tk
      have hen : Enough L 6 f (opened st) := by unfold Enough at *; simp only [opened]; omega
      have fin : ∀ o1 p1, RR (insideF L (ev L f 6) st) o1 p1 → ∃ (q2 : Pl) (o3 : List Ex), RR (beforeF L 5 (ev L f 6) st) o3 q2 ∧ (APure Tryz.prog Γ 18 [.slice tk (toksA L), .agg (plA p1), .int .i64 st.a, .slice 0 (exsA o1), .agg (exA { ex0 with op := 5, a := IntKind.i64.wrap (((exsA o1).length : Int) - 1) })] fun w => w = .tuple [.slice 0 (exsA o3), .agg (plA q2)]) := fun o1 p1 hin => by
        have hBz : ∀ z, insideF L (ev L f 6) st = .ok z → IntKind.i64.wrap (((exsA o1).length : Int) - 1) = (z.o.length : Int) - 1 := fun z hz => by
          rw [hz] at hin
          obtain ⟨g1, g2, _⟩ := inside_fit hL (by omega) hS hlt hen hF hz
          have e1 := g1.ho
          have e2 := g1.ha
          have e3 := g2.o
          rw [hin.1]
          exact i64_of (by rw [exsA_len]) (by omega) (by omega)
        obtain ⟨B, hB⟩ : ∃ B, B = IntKind.i64.wrap (((exsA o1).length : Int) - 1) := ⟨_, rfl⟩
        rw [← hB] at hBz
        rw [← hB]
        obtain ⟨o2, p2, hno, hrr⟩ := rNode_step (Γ := Γ) hlt hin (x := { ex0 with op := 5, a := B }) (u := [B]) (fun z hz => by
          obtain ⟨g1, g2, g3⟩ := inside_fit hL (by omega) hS hlt hen hF hz
          have hBe := hBz z hz
          have e1 := g1.ho
          have e2 := g1.ha
          have e3 := g2.o
          exact ⟨g3, by omega, .inr (.inl ⟨z.o.length - 1, by rw [hBe]; congr 1; omega, by show B = _; omega, .inr rfl, by omega⟩)⟩) tk
        refine ⟨p2, o2, ?_, hno⟩
        unfold beforeF
        rcases hz : insideF L (ev L f 6) st with e | z
        · rw [hz] at hrr; exact hrr
        · rw [hz] at hrr
          rw [hBz z hz] at hrr
          exact hrr
      by_cases hk : st.k = 128
      · rw [if_pos hk] at hop
        have hne : (stopP L st.a st.k 13).e ≠ 0 := by show (13 : Int) ≠ 0; decide
        refine ru_neg (fun o p => RR (beforeF L 5 (ev L f 6) st) o p) hi hvo hop ((rUnary_dead L _ st.o tk hne).mono fun v hv => ⟨_, _, hv, ?_⟩)
        obtain ⟨q2, o3, h1, h2⟩ := fin st.o { stopP L st.a st.k 13 with k := IntKind.i64.wrap ((stopP L st.a st.k 13).k - 1) } (by unfold insideF; rw [if_pos hk]; exact ⟨rfl, rfl, rfl⟩)
        exact ⟨_, q2, o3, h1, rShut_ok _, h2⟩
      · rw [if_neg hk] at hop
        have h2 := h (opened st) tk (opened_okay hS hlt hk) hF hen
        refine ru_neg (fun o p => RR (beforeF L 5 (ev L f 6) st) o p) hi hvo hop (h2.mono fun v hv => ?_)
        obtain ⟨o1, p1, hv, hr⟩ := hv
        refine ⟨o1, p1, hv, ?_⟩
        obtain ⟨q2, o3, h1, h2⟩ := fin o1 _ (shut_RR hS hk (fun z hz => (ev_good f 6 (opened st) (by omega) (opened_okay hS hlt hk) hen z hz).2.k) hr)
        exact ⟨_, q2, o3, h1, rShut_ok _, h2⟩
    · have hb : b = true := by
        rcases hvf : valueF L st.a with e | x
        · rw [hvf] at hm
          rcases hm with ⟨_, h, _⟩ | ⟨h, _⟩
          · exact h
          · rw [hn] at h; cases h
        · rw [hvf] at hm
          exact hm.2.2
      subst hb
      have hnm : ¬ ((peekF L st.a).1 = 1 ∧ (peekF L st.a).2.1 ≠ [95]) := fun hh => by have := (isF_kind hx).1; omega
      rw [unaryF_val (isF_ne hx (by decide)) hnm (fun _ => hn)]
      obtain ⟨o2, p2, h1, h2⟩ := val_node (Γ := Γ) hN hS hF hL hlt hm rfl tk
      exact (ru_val hi hvo h1).mono fun v hv => ⟨o2, p2, hv, h2⟩
theorem deads (L : List Tok) : RDead Γ L 8 ∧ RDead Γ L 15 ∧ RDead Γ L 30 ∧ RDead Γ L 47 ∧ RDead Γ L 66 ∧ RDead Γ L 84 ∧ RDead Γ L 98 := by
  have h6 := rUnary_dead (Γ := Γ) L
  have h5 := rTimes_dead L h6
  have h4 := rPlus_dead L h5
  have h3 := rCompare_dead L h4
  have h2 := rNot_dead L h3
  have h1 := rAnd_dead L h2
  exact ⟨rOr_dead L h1, h1, h2, h3, h4, h5, h6⟩
theorem rlev_zero {L : List Tok} {n : FuncId} {lv : Nat} : RLev Γ L n 0 lv := fun _ _ _ _ hE => absurd hE (Nat.not_lt_zero _)
theorem rlevels {L : List Tok} (hL : L.length ≤ 90000) (hN : Nums L) : ∀ f, RLev Γ L 8 f 0 ∧ RLev Γ L 15 f 1 ∧ RLev Γ L 30 f 2 ∧ RLev Γ L 47 f 3 ∧ RLev Γ L 66 f 4 ∧ RLev Γ L 84 f 5 ∧ RLev Γ L 98 f 6
  | 0 => ⟨rlev_zero, rlev_zero, rlev_zero, rlev_zero, rlev_zero, rlev_zero, rlev_zero⟩
  | f + 1 => by
    obtain ⟨h0, h1, h2, h3, h4, h5, h6⟩ := rlevels hL hN f
    obtain ⟨d0, d1, d2, d3, d4, d5, d6⟩ := deads (Γ := Γ) L
    exact ⟨rOr_ok hL h1 d1, rAnd_ok hL h2 d2, rNot_ok hL h3 h2 d2, rCompare_ok hL h4, rPlus_ok hL h5 d5, rTimes_ok hL h6 d6, rUnary_ok hL hN h0 d0 h6⟩
end Go.Proofs.YthpnfflkkmpejaaGreatDoor.Pa
namespace Go.Proofs.YthpnfflkkmpejaaGreatDoor.Pa
open Go Go.Ab Go.RowKit Go.Proofs.YthpnfflkkmpejaaGreatDoor.Lx
variable {Γ : Nat → AV}
theorem _root_.Go.Ab.APure.weak' {P : Program} {Γ : Nat → AV} {f : FuncId} {args args' : List AV} {φ : AV → Prop} (ha : LeL args args') (h : APure P Γ f args' φ) : APure P Γ f args φ := fun s => ACalls.weak (Weak.refl s) ha (h s)
attribute [local irreducible] APure Sto.set Sto.grow
set_option maxRecDepth 10000
set_option maxHeartbeats 4000000
theorem digB_isD (c : UInt8) : digB c = Nu.isD c := by
  unfold digB digitc Nu.isD
  by_cases h1 : 48 ≤ c.toNat <;> by_cases h2 : c.toNat ≤ 57 <;> simp [h1, h2] <;> omega
/-- What a token is. -/
def TokOk (t : Tok) : Prop := t.2.1.length ≤ 5000 ∧ (t.1 = 3 → 0 < t.2.1.length ∧ t.2.1.all Nu.isD = true ∧ ¬ (byteAt t.2.1 0 = 48 ∧ 1 < t.2.1.length))
theorem sign_len (l : List UInt8) : (signOf l).length ≤ 5000 := by
  rcases signF_spec signsL l with h | ⟨h, _⟩
  · unfold signOf; rw [h]; decide
  · have := (by decide : ∀ x ∈ signsL, x.length ≤ 5000)
    exact this _ h
theorem letters_tok {l : List UInt8} {k : Int} {t : List UInt8} (h : lettersF l = .ok (k, t)) (a b : Int) : TokOk (k, t, a, b) := by
  unfold lettersF at h
  split at h
  · rename_i hd
    split at h
    · rename_i hn
      cases h
      unfold numE at hn
      split at hn
      · cases hn
      · rename_i hb
        split at hn
        · cases hn
        · rename_i h32
          refine ⟨by show l.length ≤ 5000; omega, fun _ => ⟨?_, ?_, fun hh => hb (.inr hh)⟩⟩
          · cases l with
            | nil => exact absurd hd (by decide)
            | cons c r => exact Nat.succ_pos _
          · have ha : l.all digB = true := by
              cases hx : l.all digB
              · exact absurd (.inl hx) hb
              · rfl
            show l.all Nu.isD = true
            rw [← ha]
            exact congrArg l.all (funext fun c => (digB_isD c).symm)
    · cases h
  · split at h
    · cases h
    · rename_i h32
      split at h
      · cases h
        exact ⟨by show l.length ≤ 5000; omega, fun h => by cases h⟩
      · cases h
        exact ⟨by show l.length ≤ 5000; omega, fun h => by cases h⟩
theorem first_tok {l : List UInt8} {k : Int} {t : List UInt8} {n : Nat} (h : firstF l = .ok (k, t, n)) (a b : Int) : TokOk (k, t, a, b) := by
  unfold firstF at h
  split at h
  · split at h
    · cases h
    · split at h
      · cases h
      · cases h
        exact ⟨by show t.length ≤ 5000; omega, fun h => by cases h⟩
  · split at h
    · split at h
      · cases h
      · cases h
        exact ⟨sign_len l, fun h => by cases h⟩
    · split at h
      · cases h
      · rename_i hl
        cases h
        exact letters_tok hl a b
theorem lexF_toks : ∀ (k : Nat) (p : Int × Int) (l : List UInt8) (m : List Tok), lexF k p l = .ok m → ∀ t ∈ m, TokOk t
  | 0, p, l, m => fun h => by cases h; exact fun _ h => nomatch h
  | k + 1, p, l, m => fun h => by
    by_cases hl : l.drop (blankN l) = []
    · rw [lexF_end hl] at h; cases h; exact fun _ h => nomatch h
    · rcases he : firstF (l.drop (blankN l)) with e' | ⟨kd, t, z⟩
      · rw [lexF_bad hl he] at h; cases h
      · rw [lexF_ok hl he] at h
        rcases hr : lexF k ((placeF p (l.take (blankN l))).1, (placeF p (l.take (blankN l))).2 + z) ((l.drop (blankN l)).drop z) with ⟨e', a', b'⟩ | m'
        · rw [hr] at h; cases h
        · rw [hr] at h
          have := lexF_toks k _ _ _ hr
          cases h
          intro x hx
          rcases List.mem_cons.1 hx with rfl | hx
          · exact first_tok he _ _
          · exact this x hx
theorem allT_toks {S : List UInt8} {L : List Tok} (h : allT S = .ok L) : ∀ i, TokOk (L.getD i noTok) := fun i => by
  unfold allT at h
  split at h
  · cases h
  · by_cases hi : i < L.length
    · exact lexF_toks _ _ _ _ h _ (by rw [List.getD_eq_getElem?_getD, List.getElem?_eq_getElem hi]; exact List.getElem_mem hi)
    · rw [List.getD_eq_getElem?_getD, List.getElem?_eq_none (by omega)]
      exact ⟨Nat.zero_le _, fun h => by cases h⟩
theorem allT_nums {S : List UInt8} {L : List Tok} (h : allT S = .ok L) : Nums L := fun i hi => by
  obtain ⟨h1, h2⟩ := allT_toks h i
  obtain ⟨h3, h4, h5⟩ := h2 hi
  exact ⟨h3, h1, h4, h5⟩
theorem allT_text {S : List UInt8} {L : List Tok} (h : allT S = .ok L) : ∀ i, (peekF L i).2.1.length ≤ 5000 := fun i => by
  unfold peekF
  split
  · exact (allT_toks h i).1
  · split <;> exact Nat.zero_le _
theorem allT_len {S : List UInt8} {L : List Tok} (h : allT S = .ok L) : L.length ≤ S.length := by
  unfold allT at h
  split at h
  · cases h
  · exact lexF_len _ _ _ _ h
/-- The chapter's example. -/
def exS : List UInt8 := [97, 32, 43, 32, 50, 32, 62, 32, 45, 98]
def exL : List Ex := [{ ex0 with op := 17, name := [98], ln := 1, cl := 10 }, { ex0 with op := 5, ln := 1, cl := 9 }, { ex0 with op := 17, name := [97], ln := 1, cl := 1 }, { ex0 with op := 1, vk := 1, vi := 2, ln := 1, cl := 5 }, { ex0 with op := 8, a := 2, b := 3, ln := 1, cl := 3 }, { ex0 with op := 15, a := 1, b := 4, ln := 1, cl := 7 }]
theorem ex_read : runR exS exprR = .ok exL := by kernel_rfl
theorem awake_ok (hQ : Qu.Tabs Γ) (hW : Sc.Wds Γ) (hO : AsO.ErrT Γ) (hE : AsP.ErrT Γ) (hR : Nu.ErrR Γ) : APure Tryz.prog Γ 5 [] fun v => v = .bool true := by
  have h1 := expr_top hQ hW hO hE hR exS (by decide) (fun L hL => allT_text hL)
  rw [ex_read] at h1
  simp only [exprA] at h1
  refine APure.of_awp Tryz.func5 rfl (Nat.le_of_ble_eq_true (by kernel_rfl)) (by kernel_rfl) ?_
  intro s
  conv => whnf
  repeat' ((first | refine ⟨Sub.refl _, ?_⟩ | (refine brA_split (fun h => ?_) (fun h => ?_) <;> (try rw [h]) <;> (try simp only [bN, bS, ↓reduceIte] at h) <;> (first | (exfalso; first | contradiction | omega | exact (by assumption : ¬ True) trivial | fail) | skip)) | (refine ACalls.pure' ?_ (h1); rintro _ rfl) | refine DCall.pure ?_ (h1) | refine getB_same ?_ | refine AWp.anyA ?_ | refine and_a ?_ | fail) <;> (conv => whnf))
  intro b2 hb2
  have k_b2 := hb2
  repeat replace k_b2 := none_of_set k_b2
  conv => whnf
  repeat' ((first | refine ⟨Sub.refl _, ?_⟩ | (refine brA_split (fun h => ?_) (fun h => ?_) <;> (try rw [h]) <;> (try simp only [bN, bS, ↓reduceIte] at h) <;> (first | (exfalso; first | contradiction | omega | exact (by assumption : ¬ True) trivial | fail) | skip)) | refine getB_a ?_ | (refine EqAgg.of grdFail planFail ?_) | refine getB_same ?_ | refine AWp.anyA ?_ | refine and_a ?_ | fail) <;> (conv => whnf))
  exact ⟨suba, by kernel_rfl⟩
theorem grdX : (!Tryz.prog.eqGuardType Tryz.prog.depth 41) = true := by kernel_rfl
theorem planX : planT Tryz.prog 9999 41 = some [(0, 0), (1, 0), (2, 0), (3, 1), (4, 0), (5, 0), (6, 1), (7, 2), (8, 0), (9, 0)] := by kernel_rfl
theorem parseExprs_law (hQ : Qu.Tabs Γ) (hW : Sc.Wds Γ) (hO : AsO.ErrT Γ) (hE : AsP.ErrT Γ) (hR : Nu.ErrR Γ) (S : List UInt8) (hl : S.length ≤ 9223372036854775807) : APure Tryz.prog Γ 3 [.str S] fun v => v = .bool true := by
  have haw := awake_ok hQ hW hO hE hR
  by_cases hS : (3000 : Int) < S.length
  · clear hQ hW hO hE hR
    refine APure.of_awp Tryz.func3 rfl (Nat.le_of_ble_eq_true (by kernel_rfl)) (by kernel_rfl) ?_
    intro s
    conv => whnf
    repeat' ((first | refine ⟨Sub.refl _, ?_⟩ | (refine brA_split (fun h => ?_) (fun h => ?_) <;> (try rw [h]) <;> (try simp only [bN, bS, ↓reduceIte] at h) <;> (first | (exfalso; first | contradiction | omega | exact (by assumption : ¬ True) trivial | fail) | skip)) | (refine ACalls.pure' ?_ (haw); rintro _ rfl) | refine DCall.pure ?_ (haw) | refine getB_same ?_ | refine AWp.anyA ?_ | refine and_a ?_ | fail) <;> (conv => whnf))
    rfl
  · have h1 := expr_top hQ hW hO hE hR S (by omega) (fun L hL => allT_text hL)
    have h2 := refAll_ok (Γ := Γ) S (by omega)
    clear hQ hW hO hE hR
    rcases hx : allT S with ⟨e, a, b⟩ | L
    · have he0 := allT_err hx
      have hrr : runR S exprR = .error (e, a, b) := by unfold runR; rw [hx]
      rw [hrr] at h1
      rw [hx] at h2
      simp only [exprA, refAllA] at h1 h2
      refine APure.of_awp Tryz.func3 rfl (Nat.le_of_ble_eq_true (by kernel_rfl)) (by kernel_rfl) ?_
      intro s
      conv => whnf
      repeat' ((first | refine ⟨Sub.refl _, ?_⟩ | (refine brA_split (fun h => ?_) (fun h => ?_) <;> (try rw [h]) <;> (try simp only [bN, bS, ↓reduceIte] at h) <;> (first | (exfalso; first | contradiction | omega | exact (by assumption : ¬ True) trivial | fail) | skip)) | (refine ACalls.pure' ?_ (h1); rintro _ rfl) | refine DCall.pure ?_ (h1) | refine getB_same ?_ | refine AWp.anyA ?_ | refine and_a ?_ | fail) <;> (conv => whnf))
      intro b4 hb4
      have k_b4 := hb4
      repeat replace k_b4 := none_of_set k_b4
      conv => whnf
      repeat' ((first | refine ⟨Sub.refl _, ?_⟩ | (refine brA_split (fun h => ?_) (fun h => ?_) <;> (try rw [h]) <;> (try simp only [bN, bS, ↓reduceIte] at h) <;> (first | (exfalso; first | contradiction | omega | exact (by assumption : ¬ True) trivial | fail) | skip)) | refine getB_a ?_ | (refine ACalls.pure' ?_ (h2); rintro _ rfl) | refine DCall.pure ?_ (h2) | (refine ACalls.pure' ?_ (haw); rintro _ rfl) | refine DCall.pure ?_ (haw) | refine getB_same ?_ | refine AWp.anyA ?_ | refine and_a ?_ | fail) <;> (conv => whnf))
      all_goals first | exact ⟨suba, rfl⟩ | fail
    · have hLl := allT_len hx
      have hrl := (rlevels (Γ := Γ) (L := L) (by omega) (allT_nums hx) (fuelN L)).1 ⟨0, [], [], 0⟩ 0 ⟨Nat.zero_le _, Nat.zero_le _, rfl, by decide⟩ ⟨rfl, fun i hi => absurd hi (Nat.not_lt_zero _), fun i hi => absurd hi (Nat.not_lt_zero _)⟩ (enough_all L _)
      have hrl := APure.weak' (args := [.slice 0 (toksA L), .agg (plA (alv 0 0)), .slice 1 (exsA [])]) (LeL.cons (Le.refl _) (LeL.cons (Le.refl _) (LeL.cons (Le.slice0 _ _) LeL.nil))) hrl
      rw [hx] at h2
      simp only [refAllA] at h2
      have htl := toksA_len L
      rcases hev : ev L (fuelN L) 0 ⟨0, [], [], 0⟩ with x | st
      · have hrr : runR S exprR = .error (errF x.1, x.2.1, x.2.2) := by unfold runR exprR; rw [hx]; dsimp only; rw [hev]
        rw [hrr] at h1
        rw [hev] at hrl
        have hne := errF_ne x.1
        simp only [exprA] at h1
        simp only [plA, alv] at hrl
        refine APure.of_awp Tryz.func3 rfl (Nat.le_of_ble_eq_true (by kernel_rfl)) (by kernel_rfl) ?_
        intro s
        conv => whnf
        repeat' ((first | refine ⟨Sub.refl _, ?_⟩ | (refine brA_split (fun h => ?_) (fun h => ?_) <;> (try rw [h]) <;> (try simp only [bN, bS, ↓reduceIte] at h) <;> (first | (exfalso; first | contradiction | omega | exact (by assumption : ¬ True) trivial | fail) | skip)) | (refine ACalls.pure' ?_ (h1); rintro _ rfl) | refine DCall.pure ?_ (h1) | refine getB_same ?_ | refine AWp.anyA ?_ | refine and_a ?_ | fail) <;> (conv => whnf))
        intro b4 hb4
        have k_b4 := hb4
        repeat replace k_b4 := none_of_set k_b4
        conv => whnf
        repeat' ((first | refine ⟨Sub.refl _, ?_⟩ | (refine brA_split (fun h => ?_) (fun h => ?_) <;> (try rw [h]) <;> (try simp only [bN, bS, ↓reduceIte] at h) <;> (first | (exfalso; first | contradiction | omega | exact (by assumption : ¬ True) trivial | fail) | skip)) | refine getB_a ?_ | (refine ACalls.pure' ?_ (h2); rintro _ rfl) | refine DCall.pure ?_ (h2) | (refine ACalls.pure' ?_ hrl; rintro _ ⟨o, ⟨p1, p2, p3, p4, p5⟩, rfl, hr1, hr2, hr3⟩) | refine getB_same ?_ | refine AWp.anyA ?_ | refine and_a ?_ | fail) <;> (conv => whnf))
        simp only at hr1 hr2 hr3
        subst hr1 hr2 hr3
        intro b11 hb11
        have k_b11 := hb11
        repeat replace k_b11 := none_of_set k_b11
        have n_b4_b11 : b4 ≠ b11 := by (have k := hb11; repeat (first | exact ne_set k | replace k := none_of_set k))
        have n_b11_b4 := n_b4_b11.symm
        conv => whnf
        repeat' ((first | refine ⟨Sub.refl _, ?_⟩ | (refine brA_split (fun h => ?_) (fun h => ?_) <;> (try rw [h]) <;> (try simp only [bN, bS, ↓reduceIte] at h) <;> (first | (exfalso; first | contradiction | omega | exact (by assumption : ¬ True) trivial | fail) | skip)) | refine getB_a ?_ | (refine ACalls.pure' ?_ (haw); rintro _ rfl) | refine DCall.pure ?_ (haw) | refine getB_same ?_ | refine AWp.anyA ?_ | refine and_a ?_ | fail) <;> (conv => whnf))
        all_goals first | exact ⟨suba, rfl⟩ | fail
      · rw [hev] at hrl
        simp only [plA, alv] at hrl
        by_cases hlt : st.a < L.length
        · have hrr : runR S exprR = .error (16, (L.getD st.a noTok).2.2.1, (L.getD st.a noTok).2.2.2) := by
            unfold runR exprR; rw [hx]; dsimp only; rw [hev]; dsimp only; rw [if_pos hlt]; unfold failF; dsimp only; rw [peekF_in hlt]; rfl
          have hg := toksA_at hlt
          rw [hrr] at h1
          clear hrr
          generalize L.getD st.a noTok = z at *
          obtain ⟨z1, z2, z3, z4⟩ := z
          simp only [tokA] at hg
          simp only [exprA] at h1
          refine APure.of_awp Tryz.func3 rfl (Nat.le_of_ble_eq_true (by kernel_rfl)) (by kernel_rfl) ?_
          intro s
          conv => whnf
          repeat' ((first | refine ⟨Sub.refl _, ?_⟩ | (refine brA_split (fun h => ?_) (fun h => ?_) <;> (try rw [h]) <;> (try simp only [bN, bS, ↓reduceIte] at h) <;> (first | (exfalso; first | contradiction | omega | exact (by assumption : ¬ True) trivial | fail) | skip)) | (refine ACalls.pure' ?_ (h1); rintro _ rfl) | refine DCall.pure ?_ (h1) | refine getB_same ?_ | refine AWp.anyA ?_ | refine and_a ?_ | fail) <;> (conv => whnf))
          intro b4 hb4
          have k_b4 := hb4
          repeat replace k_b4 := none_of_set k_b4
          conv => whnf
          repeat' ((first | refine ⟨Sub.refl _, ?_⟩ | (refine brA_split (fun h => ?_) (fun h => ?_) <;> (try rw [h]) <;> (try simp only [bN, bS, ↓reduceIte] at h) <;> (first | (exfalso; first | contradiction | omega | exact (by assumption : ¬ True) trivial | fail) | skip)) | refine getB_a ?_ | (refine ACalls.pure' ?_ (h2); rintro _ rfl) | refine DCall.pure ?_ (h2) | (refine ACalls.pure' ?_ hrl; rintro _ ⟨o, ⟨p1, p2, p3, p4, p5⟩, rfl, rfl, hp⟩) | refine getB_same ?_ | refine AWp.anyA ?_ | refine and_a ?_ | fail) <;> (conv => whnf))
          simp only [alv, Pl.mk.injEq] at hp
          obtain ⟨rfl, rfl, rfl, rfl, rfl⟩ := hp
          intro b11 hb11
          have k_b11 := hb11
          repeat replace k_b11 := none_of_set k_b11
          have n_b4_b11 : b4 ≠ b11 := by (have k := hb11; repeat (first | exact ne_set k | replace k := none_of_set k))
          have n_b11_b4 := n_b4_b11.symm
          conv => whnf
          repeat' ((first | refine ⟨Sub.refl _, ?_⟩ | (refine brA_split (fun h => ?_) (fun h => ?_) <;> (try rw [h]) <;> (try simp only [bN, bS, ↓reduceIte] at h) <;> (first | (exfalso; first | contradiction | omega | exact (by assumption : ¬ True) trivial | fail) | skip)) | refine getB_a ?_ | (refine ACalls.pure' ?_ (haw); rintro _ rfl) | refine DCall.pure ?_ (haw) | refine ⟨len_of (hg) rfl, Go.Ab.frcL_of (hg) ?_⟩ | refine getB_same ?_ | refine AWp.anyA ?_ | refine and_a ?_ | fail) <;> (conv => whnf))
          all_goals first | exact ⟨suba, rfl⟩ | fail
        · have hrr : runR S exprR = .ok st.o := by
            unfold runR exprR; rw [hx]; dsimp only; rw [hev]; dsimp only; rw [if_neg hlt]
          rw [hrr] at h1
          clear hrr
          have hol := exsA_len st.o
          have hgd := (ev_good (fuelN L) 0 ⟨0, [], [], 0⟩ (by omega) ⟨Nat.zero_le _, Nat.zero_le _, rfl, by decide⟩ (enough_all L _) st hev).1
          have hgo := hgd.ho
          have hga := hgd.ha
          simp only [exprA] at h1
          refine APure.of_awp Tryz.func3 rfl (Nat.le_of_ble_eq_true (by kernel_rfl)) (by kernel_rfl) ?_
          intro s
          conv => whnf
          repeat' ((first | refine ⟨Sub.refl _, ?_⟩ | (refine brA_split (fun h => ?_) (fun h => ?_) <;> (try rw [h]) <;> (try simp only [bN, bS, ↓reduceIte] at h) <;> (first | (exfalso; first | contradiction | omega | exact (by assumption : ¬ True) trivial | fail) | skip)) | (refine ACalls.pure' ?_ (h1); rintro _ rfl) | refine DCall.pure ?_ (h1) | refine getB_same ?_ | refine AWp.anyA ?_ | refine and_a ?_ | fail) <;> (conv => whnf))
          intro b4 hb4
          have k_b4 := hb4
          repeat replace k_b4 := none_of_set k_b4
          conv => whnf
          repeat' ((first | refine ⟨Sub.refl _, ?_⟩ | (refine brA_split (fun h => ?_) (fun h => ?_) <;> (try rw [h]) <;> (try simp only [bN, bS, ↓reduceIte] at h) <;> (first | (exfalso; first | contradiction | omega | exact (by assumption : ¬ True) trivial | fail) | skip)) | refine getB_a ?_ | (refine ACalls.pure' ?_ (h2); rintro _ rfl) | refine DCall.pure ?_ (h2) | (refine ACalls.pure' ?_ hrl; rintro _ ⟨o, ⟨p1, p2, p3, p4, p5⟩, rfl, rfl, hp⟩) | refine getB_same ?_ | refine AWp.anyA ?_ | refine and_a ?_ | fail) <;> (conv => whnf))
          simp only [alv, Pl.mk.injEq] at hp
          obtain ⟨rfl, rfl, rfl, rfl, rfl⟩ := hp
          intro b11 hb11
          have k_b11 := hb11
          repeat replace k_b11 := none_of_set k_b11
          have n_b4_b11 : b4 ≠ b11 := by (have k := hb11; repeat (first | exact ne_set k | replace k := none_of_set k))
          have n_b11_b4 := n_b4_b11.symm
          conv => whnf
          repeat' ((first | refine ⟨Sub.refl _, ?_⟩ | (refine brA_split (fun h => ?_) (fun h => ?_) <;> (try rw [h]) <;> (try simp only [bN, bS, ↓reduceIte] at h) <;> (first | (exfalso; first | contradiction | omega | exact (by assumption : ¬ True) trivial | fail) | skip)) | refine getB_a ?_ | refine getB_same ?_ | refine AWp.anyA ?_ | refine and_a ?_ | fail) <;> (conv => whnf))
          refine AWp.loopA [12] [94, 95, 96, 97, 100, 101, 102, 103, 104, 105, 106, 107, 108, 2, 98, 99] (fun i : Nat => [.int .i64 (i : Int)]) (fun i s' => i ≤ st.o.length ∧ Sub s s') (fun i => st.o.length - i) (0) (by kernel_rfl) (eqa) ?_ ?_
          · exact ⟨Nat.zero_le _, suba⟩
          · rintro x i s' ⟨hi, hs'⟩
            show awp _ _ _ _ _ (updL _ _ [.int .i64 (i : Int)]) _
            conv => whnf
            by_cases hil : i < st.o.length
            · have hat := exsA_at (o := st.o) (i := i) hil
              generalize exAt st.o i = y at hat
              obtain ⟨y1, y2, y3, y4, y5, y6, y7, y8, y9, y10⟩ := y
              simp only [exA] at hat
              have hlen : i < (exsA st.o).length := by omega
              repeat' ((first | refine ⟨Sub.refl _, ?_⟩ | (refine brA_split (fun h => ?_) (fun h => ?_) <;> (try rw [h]) <;> (try simp only [bN, bS, ↓reduceIte] at h) <;> (first | (exfalso; first | contradiction | omega | exact (by assumption : ¬ True) trivial | fail) | skip)) | refine getB_a ?_ | refine ⟨len_of (hat) rfl, Go.Ab.frcL_of (hat) ?_⟩ | (refine EqAgg.of grdX planX ?_) | refine getB_same ?_ | refine AWp.anyA ?_ | refine and_a ?_ | fail) <;> (conv => whnf))
              · exfalso; revert h; simp
              · exact ⟨i + 1, eqa, samea, ⟨by omega, hs'⟩, by omega⟩
            · repeat' ((first | refine ⟨Sub.refl _, ?_⟩ | (refine brA_split (fun h => ?_) (fun h => ?_) <;> (try rw [h]) <;> (try simp only [bN, bS, ↓reduceIte] at h) <;> (first | (exfalso; first | contradiction | omega | exact (by assumption : ¬ True) trivial | fail) | skip)) | refine getB_a ?_ | (refine ACalls.pure' ?_ (haw); rintro _ rfl) | refine DCall.pure ?_ (haw) | refine getB_same ?_ | refine AWp.anyA ?_ | refine and_a ?_ | fail) <;> (conv => whnf))
              all_goals first | rfl | exact ⟨suba, rfl⟩ | fail
end Go.Proofs.YthpnfflkkmpejaaGreatDoor.Pa
namespace Go.Ab
open Go
theorem laid_handles {P : Program} {laid : List (String × DataW Unit)} {W : World} {x : String × DataW Unit} {hs : List (String × DataW Unit)} (h : laidMetH P laid W)
    (hf : (laid.filter fun x => x.2.handleName?.isSome) = x :: hs) : laidMet P (laid.filter fun x => x.2.handleName?.isNone) W ∧ handlesMet P (x :: hs) W := by
  unfold laidMetH at h
  rw [hf] at h
  exact h
theorem laid_vars' {P : Program} {laid : List (String × DataW Unit)} {W : World} (h : laidMet P laid W) : ∃ ps, DataW.LaidVars P W laid ps := by
  obtain ⟨ps, h, _⟩ := h
  exact ⟨ps, h⟩
theorem handle_glob {P : Program} {W : World} {n : String} {d : DataW Unit} {name : List UInt8} {g u ty : Nat} (h : handlesMet P [(n, d)] W) (hfn : d.funcsIn? = none) (hn : d.handleName? = some name) (hg : P.globalNamed n = some g)
    (hu : (P.cutTypes.find? (·.1 == "internal/reflectlite.rtype")).map (·.2) = some u) (hone : ((List.range P.types.size).filter fun t => P.rowNamed t name) = [ty]) :
    GlobR (startG W) W g (.cptr [.iface u (.agg [.ptr (some ⟨P.globals.size, ty, none⟩)])]) := by
  have h1 := h (n, d) (List.mem_singleton.2 rfl)
  simp only [hfn] at h1
  obtain ⟨nm, u', ty', e1, e2, e3, e4, hv⟩ := h1
  rw [hn] at e1
  obtain rfl := Option.some.inj e1
  rw [hu] at e2
  obtain rfl := Option.some.inj e2
  have hm : ty' ∈ (List.range P.types.size).filter fun t => P.rowNamed t name := List.mem_filter.2 ⟨List.mem_range.2 e3, e4⟩
  rw [hone] at hm
  obtain rfl := List.mem_singleton.1 hm
  have hblk : ∃ T fr, W.heap[g]? = some (.cells #[.iface u (.agg #[typeHandle P ty'])] T fr) := by
    simp only [World.var?, hg, Option.bind_some] at hv
    split at hv
    · rename_i c T fr hh
      simp only [Option.some.injEq] at hv
      subst hv
      exact ⟨T, fr, hh⟩
    · cases hv
  obtain ⟨T, fr, hblk⟩ := hblk
  have hlt : g < W.heap.size := (Array.getElem?_eq_some_iff.1 hblk).1
  have hgood : ∀ o, (startG W).good g o := fun o => by
    unfold Gh.good startG
    simp [hlt]
  refine ⟨by simp [startG, hlt], ⟨_, T, fr, hblk, rfl⟩, R_cptr.2 ⟨g, 0, rfl, ?_⟩⟩
  unfold RCells
  refine ⟨hgood _, ⟨.iface u (.agg #[typeHandle P ty']), by simp [World.cell?, hblk], R_iface.2 ⟨_, rfl, R_agg.2 ⟨_, rfl, ?_⟩⟩⟩, by unfold RCells; trivial⟩
  exact RList_cons.2 ⟨_, _, rfl, R_ptr.2 rfl, RList_nil.2 rfl⟩
/-- Listed variables laid over any world. -/
theorem laidMet_over {P : Program} {w0 : World} {laid : List (String × DataW Unit)} (args : Array Value) (hf : w0.layFits P laid [] = true) (hi : w0.layIfaces P laid (w0.layVars P laid) = true) :
    laidMet P laid ((w0.layVars P laid).forCall (fun _ _ => 0) ⟨#[], args, []⟩).memory := by
  have e1 : (laid.filter fun x => (laid.map (·.1)).contains x.1) = laid := List.filter_eq_self.2 fun x hx => List.contains_iff_mem.2 (List.mem_map.2 ⟨x, hx, rfl⟩)
  have e2 : (laid.filter fun x => !(laid.map (·.1)).contains x.1) = [] := List.filter_eq_nil_iff.2 fun x hx => by rw [List.contains_iff_mem.2 (List.mem_map.2 ⟨x, hx, rfl⟩)]; simp
  have h : laidMet P laid (w0.layVars P laid) := laidMet_layVars (w0 := w0) (laid.map (·.1)) [] (by rw [e1]) (by rw [e1]; exact hf) (by rw [e1]; exact hi) (by rw [e2]; exact LaidIn.none)
  exact h.of_heap (by simp [World.memory, World.forCall, Input.heap])
end Go.Ab
namespace Go.Ab
open Go
theorem laid_err {P : Program} {n nm : String} {text : List UInt8} {r : List (String × DataW Unit)} {W : World} {g : Nat} {ti tp te ts : TypeId} {ms : Array (String × TypeId)} {f : Field}
    (h : laidMet P ((n, .iface nm (.ptr (.agg [.lit (.string text)]))) :: r) W)
    (hg : P.globalNamed n = some g) (ht : (P.globals[g]?).map (·.type) = some ti) (hi : P.underlying ti = some (.interface ms)) (hrow : ∀ u, P.typeName? 3 u = some nm → u = tp)
    (hp : P.underlying tp = some (.pointer te)) (he : P.underlying te = some (.struct #[f])) (hft : f.type = ts) (hfo : f.offset = 0) (hs : P.underlying ts = some .string) (hc : P.cellsOf te = 1) (hcs : P.cellsOf ts = 1) :
    GlobR (startG W) W g (.cptr [.iface tp (.cptr [.str text])]) := by
  obtain ⟨a, s, hv, hcell, hst, _⟩ := laid_sentinel h hg ht hi hrow hp he hft hfo hs hc hcs
  have hcg := World.var?_cell hg hv 0
  have hlt : ∀ (x : Addr) (v : Value), W.cell? x = some v → x.block < W.heap.size ∧ x.spot = none := by
    intro x v hx
    unfold World.cell? at hx
    split at hx
    · rename_i hh
      split at hx
      · cases hx
      · rename_i hsp
        exact ⟨(Array.getElem?_eq_some_iff.1 hh).1, by simpa using hsp⟩
    · cases hx
  obtain ⟨hb1, hsp⟩ := hlt a _ hcell
  have hg0 : W.cell? ⟨g, 0, none⟩ = some (.iface tp (.pointer (some a))) := by rw [hcg]; rfl
  obtain ⟨hb0, _⟩ := hlt _ _ hg0
  obtain ⟨ab, ao, asp⟩ := a
  dsimp only at hsp hb1
  subst hsp
  have hgood : ∀ b o, b < W.heap.size → (startG W).good b o := fun b o hb => by
    unfold Gh.good startG
    simp [hb]
  have hblk : ∃ T fr, W.heap[g]? = some (.cells #[.iface tp (.pointer (some ⟨ab, ao, none⟩))] T fr) := by
    simp only [World.var?, hg, Option.bind_some] at hv
    split at hv
    · rename_i c T fr hh
      simp only [Option.some.injEq] at hv
      subst hv
      exact ⟨T, fr, hh⟩
    · cases hv
  obtain ⟨T, fr, hblk⟩ := hblk
  refine ⟨by simp [startG, hb0], ⟨_, T, fr, hblk, rfl⟩, R_cptr.2 ⟨g, 0, rfl, ?_⟩⟩
  have inner : R (startG W) W (.cptr [.str text]) (.pointer (some ⟨ab, ao, none⟩)) := by
    refine R_cptr.2 ⟨ab, ao, rfl, ?_⟩
    unfold RCells
    refine ⟨hgood _ _ hb1, ⟨_, hcell, R_str.2 ?_⟩, by unfold RCells; trivial⟩
    subst hst
    rfl
  unfold RCells
  exact ⟨hgood _ _ hb0, ⟨_, hg0, R_iface.2 ⟨_, rfl, inner⟩⟩, by unfold RCells; trivial⟩
end Go.Ab
