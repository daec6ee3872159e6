
/- Chapter 10: which trees are small; the example; the law of the same trees. -/
import Derived.Test.YtbhemiimdfhjbaaGreatDoorTrH
namespace Go.Proofs.YtbhemiimdfhjbaaGreatDoor.Tr
open Go Go.Ab Go.RowKit
variable {Γ : Nat → AV}
attribute [local irreducible] APure Sto.set Sto.grow
set_option maxRecDepth 10000
set_option maxHeartbeats 1000000

theorem fewRef_ok (tk : Nat → Nat) (x : Tr0) : APure Tryz.prog Γ 4 [.agg (trA tk x)] fun v => v = .int .i64 (if fewB x = true then 1 else 0) := by
  have l1 : (x.2.1.map deA).length = x.2.1.length := List.length_map ..
  have l3 : (x.2.2.1.map quA).length = x.2.2.1.length := List.length_map ..
  have l5 : (x.2.2.2.1.map frA).length = x.2.2.2.1.length := List.length_map ..
  have l7 : (x.2.2.2.2.1.map stA).length = x.2.2.2.2.1.length := List.length_map ..
  have l9 : (x.2.2.2.2.2.2.1.map syA).length = x.2.2.2.2.2.2.1.length := List.length_map ..
  have l11 : (x.2.2.2.2.2.2.2.map tnA).length = x.2.2.2.2.2.2.2.length := List.length_map ..
  have no : ∀ t : Bool, fewB x = t → t = false → AV.int .i64 0 = .int .i64 (if fewB x = true then 1 else 0) := fun t h1 h2 => by rw [h1, h2]; rfl
  refine APure.of_awp Tryz.func4 rfl (Nat.le_of_ble_eq_true (by kernel_rfl)) (by kernel_rfl) ?_
  intro s
  conv => whnf
  intro b hb
  conv => whnf
  repeat' (first
    | (refine ⟨Sub.refl _, ?_⟩)
    | (refine brA_split (fun h => ?_) (fun h => ?_) <;> (try rw [h]) <;> (try simp only [Bool.false_eq_true, Bool.true_eq_false, ↓reduceIte, decide_eq_true_eq, decide_eq_false_iff_not, Bool.not_eq_true', Bool.not_eq_false'] at h) <;> (conv => whnf))
    | (refine getB_same ?_; conv => whnf)
    | (refine AWp.any (by kernel_rfl) (by kernel_rfl) (by kernel_rfl) ?_; conv => whnf)
    | (apply And.intro; (focus (first | omega | rfl | decide | exact Nat.le_of_ble_eq_true rfl | ((repeat' (first | exact all_nil | refine all_cons ?_ ?_ | rfl | fail)); done) | (simp [-List.length_flatMap]; done) | (simp [-List.length_flatMap]; omega) | fail)); conv => whnf)
    | fail)
  all_goals try (refine ⟨(Sub.refl _).set hb _ _, no (lensB x && (x.2.1.all deB && (x.2.2.2.1.all frB && (x.2.2.2.2.2.2.1.all syB && x.2.2.2.2.2.2.2.all tnB)))) rfl ?_⟩; rw [show lensB x = false from Bool.eq_false_iff.2 (fun hh => by simp only [lensB, Bool.and_eq_true, decide_eq_true_eq] at hh; omega)]; rfl)
  have hp0 : fewB x = (x.2.1.all deB && (x.2.2.2.1.all frB && (x.2.2.2.2.2.2.1.all syB && x.2.2.2.2.2.2.2.all tnB))) := by
    unfold fewB
    rw [show lensB x = true from by simp only [lensB, Bool.and_eq_true, decide_eq_true_eq]; omega]
    rfl
  refine AWp.loopA [3] [43, 44, 45, 46, 47, 50, 51, 52, 53, 54, 55, 56, 57, 2, 48, 49] (fun i : Nat => [.int .i64 i]) (fun i s' => i ≤ x.2.1.length ∧ s'.bx b = some (31, trA tk x) ∧ Sub s s' ∧ fewB x = ((x.2.1.drop i).all deB && (x.2.2.2.1.all frB && (x.2.2.2.2.2.2.1.all syB && x.2.2.2.2.2.2.2.all tnB)))) (fun i => x.2.1.length - i) (0) (by kernel_rfl) (by (repeat' (first | refine cons_eq ?_ ?_ | refine int64_of ?_ ?_ ?_ | rfl | omega))) ?_ ?_
  · exact ⟨by omega, set_bx_same, (Sub.refl _).set hb _ _, hp0⟩
  · rintro q i s1 ⟨hi, h1, hs1, hp⟩
    conv => whnf
    have hga := fun h : i < x.2.1.length => map_get (f := deA) (l := x.2.1) noDe h
    have hd := fun h : i < x.2.1.length => drop_all (p := deB) noDe h
    generalize x.2.1.getD i noDe = u at *
    have hu := intsA_len .i64 u.2.2
    repeat' (first
      | (refine ⟨Sub.refl _, ?_⟩)
      | (refine brA_split (fun h => ?_) (fun h => ?_) <;> (try rw [h]) <;> (try simp only [Bool.false_eq_true, Bool.true_eq_false, ↓reduceIte, decide_eq_true_eq, decide_eq_false_iff_not, Bool.not_eq_true', Bool.not_eq_false'] at h) <;> (conv => whnf))
      | (refine getB_of h1 ?_; conv => whnf)
      | (rw [show (x.2.1.map deA).getD ((i : Int)).toNat [] = _ from hga (by omega)]; conv => whnf)
      | (refine getB_same ?_; conv => whnf)
      | (refine AWp.any (by kernel_rfl) (by kernel_rfl) (by kernel_rfl) ?_; conv => whnf)
      | (apply And.intro; (focus (first | omega | rfl | decide | exact Nat.le_of_ble_eq_true rfl | ((repeat' (first | exact all_nil | refine all_cons ?_ ?_ | rfl | fail)); done) | (simp [-List.length_flatMap]; done) | (simp [-List.length_flatMap]; omega) | fail)); conv => whnf)
      | fail)
    · first | refine ⟨hs1, ?_⟩ | skip
      refine no _ hp ?_
      rw [hd (by omega), show deB u = false from decide_eq_false (by omega)]
      rfl
    · refine ⟨i + 1, by (repeat' (first | refine cons_eq ?_ ?_ | refine int64_of ?_ ?_ ?_ | rfl | omega)), by (repeat (first | exact Same.refl _ _ | refine Same.upd rfl ?_ | refine Same.updL rfl ?_ | refine Same.havoc rfl ?_)), ⟨by omega, h1, hs1, ?_⟩, by omega⟩
      rw [hp, hd (by omega), show deB u = true from decide_eq_true (by omega), Bool.true_and]
    · rw [drop_end (by omega), List.all_nil, Bool.true_and] at hp
      refine AWp.loopA [4] [58, 59, 60, 61, 62, 65, 66, 67, 68, 69, 70, 71, 72, 73, 2, 63, 64] (fun i : Nat => [.int .i64 i]) (fun i s' => i ≤ x.2.2.2.1.length ∧ s'.bx b = some (31, trA tk x) ∧ Sub s s' ∧ fewB x = ((x.2.2.2.1.drop i).all frB && (x.2.2.2.2.2.2.1.all syB && x.2.2.2.2.2.2.2.all tnB))) (fun i => x.2.2.2.1.length - i) (0) (by kernel_rfl) (by (repeat' (first | refine cons_eq ?_ ?_ | refine int64_of ?_ ?_ ?_ | rfl | omega))) ?_ ?_
      · exact ⟨by omega, h1, hs1, hp⟩
      · clear hp hga hd hi
        rintro q i s1 ⟨hi, h1, hs1, hp⟩
        conv => whnf
        have hga := fun h : i < x.2.2.2.1.length => map_get (f := frA) (l := x.2.2.2.1) noFr h
        have hd := fun h : i < x.2.2.2.1.length => drop_all (p := frB) noFr h
        generalize x.2.2.2.1.getD i noFr = u at *
        repeat' (first
          | (refine ⟨Sub.refl _, ?_⟩)
          | (refine brA_split (fun h => ?_) (fun h => ?_) <;> (try rw [h]) <;> (try simp only [Bool.false_eq_true, Bool.true_eq_false, ↓reduceIte, decide_eq_true_eq, decide_eq_false_iff_not, Bool.not_eq_true', Bool.not_eq_false'] at h) <;> (conv => whnf))
          | (refine getB_of h1 ?_; conv => whnf)
          | (rw [show (x.2.2.2.1.map frA).getD ((i : Int)).toNat [] = _ from hga (by omega)]; conv => whnf)
          | (refine getB_same ?_; conv => whnf)
          | (refine AWp.any (by kernel_rfl) (by kernel_rfl) (by kernel_rfl) ?_; conv => whnf)
          | (apply And.intro; (focus (first | omega | rfl | decide | exact Nat.le_of_ble_eq_true rfl | ((repeat' (first | exact all_nil | refine all_cons ?_ ?_ | rfl | fail)); done) | (simp [-List.length_flatMap]; done) | (simp [-List.length_flatMap]; omega) | fail)); conv => whnf)
          | fail)
        · first | refine ⟨hs1, ?_⟩ | skip
          refine no _ hp ?_
          rw [hd (by omega), show frB u = false from decide_eq_false (by omega)]
          rfl
        · refine ⟨i + 1, by (repeat' (first | refine cons_eq ?_ ?_ | refine int64_of ?_ ?_ ?_ | rfl | omega)), by (repeat (first | exact Same.refl _ _ | refine Same.upd rfl ?_ | refine Same.updL rfl ?_ | refine Same.havoc rfl ?_)), ⟨by omega, h1, hs1, ?_⟩, by omega⟩
          rw [hp, hd (by omega), show frB u = true from decide_eq_true (by omega), Bool.true_and]
        · rw [drop_end (by omega), List.all_nil, Bool.true_and] at hp
          refine AWp.loopA [5] [74, 75, 76, 77, 78, 81, 82, 83, 84, 85, 86, 87, 2, 79, 80] (fun i : Nat => [.int .i64 i]) (fun i s' => i ≤ x.2.2.2.2.2.2.1.length ∧ s'.bx b = some (31, trA tk x) ∧ Sub s s' ∧ fewB x = ((x.2.2.2.2.2.2.1.drop i).all syB && x.2.2.2.2.2.2.2.all tnB)) (fun i => x.2.2.2.2.2.2.1.length - i) (0) (by kernel_rfl) (by (repeat' (first | refine cons_eq ?_ ?_ | refine int64_of ?_ ?_ ?_ | rfl | omega))) ?_ ?_
          · exact ⟨by omega, h1, hs1, hp⟩
          · clear hp hga hd hi
            rintro q i s1 ⟨hi, h1, hs1, hp⟩
            conv => whnf
            have hga := fun h : i < x.2.2.2.2.2.2.1.length => map_get (f := syA) (l := x.2.2.2.2.2.2.1) noSy h
            have hd := fun h : i < x.2.2.2.2.2.2.1.length => drop_all (p := syB) noSy h
            generalize x.2.2.2.2.2.2.1.getD i noSy = u at *
            repeat' (first
              | (refine ⟨Sub.refl _, ?_⟩)
              | (refine brA_split (fun h => ?_) (fun h => ?_) <;> (try rw [h]) <;> (try simp only [Bool.false_eq_true, Bool.true_eq_false, ↓reduceIte, decide_eq_true_eq, decide_eq_false_iff_not, Bool.not_eq_true', Bool.not_eq_false'] at h) <;> (conv => whnf))
              | (refine getB_of h1 ?_; conv => whnf)
              | (rw [show (x.2.2.2.2.2.2.1.map syA).getD ((i : Int)).toNat [] = _ from hga (by omega)]; conv => whnf)
              | (refine ACalls.pure' ?_ (short_ok u); rintro _ rfl; conv => whnf)
              | (refine DCall.pure ?_ (short_ok u); conv => whnf)
              | (refine getB_same ?_; conv => whnf)
              | (refine AWp.any (by kernel_rfl) (by kernel_rfl) (by kernel_rfl) ?_; conv => whnf)
              | (apply And.intro; (focus (first | omega | rfl | decide | exact Nat.le_of_ble_eq_true rfl | ((repeat' (first | exact all_nil | refine all_cons ?_ ?_ | rfl | fail)); done) | (simp [-List.length_flatMap]; done) | (simp [-List.length_flatMap]; omega) | fail)); conv => whnf)
              | fail)
            · first | refine ⟨hs1, ?_⟩ | skip
              refine no _ hp ?_
              rw [hd (by omega), show syB u = false by assumption]
              rfl
            · refine ⟨i + 1, by (repeat' (first | refine cons_eq ?_ ?_ | refine int64_of ?_ ?_ ?_ | rfl | omega)), by (repeat (first | exact Same.refl _ _ | refine Same.upd rfl ?_ | refine Same.updL rfl ?_ | refine Same.havoc rfl ?_)), ⟨by omega, h1, hs1, ?_⟩, by omega⟩
              rw [hp, hd (by omega), show syB u = true by assumption, Bool.true_and]
            · rw [drop_end (by omega), List.all_nil, Bool.true_and] at hp
              refine AWp.loopA [6] [88, 89, 90, 91, 92, 95, 96, 97, 98, 99, 7, 100, 101, 102, 103, 104, 105, 106, 107, 108, 109, 110, 111, 112, 113, 114, 115, 2, 8, 116, 117, 118, 119, 120, 123, 124, 125, 126, 127, 128, 129, 130, 131, 121, 122, 93, 94] (fun i : Nat => [.int .i64 i]) (fun i s' => i ≤ x.2.2.2.2.2.2.2.length ∧ s'.bx b = some (31, trA tk x) ∧ Sub s s' ∧ fewB x = (x.2.2.2.2.2.2.2.drop i).all tnB) (fun i => x.2.2.2.2.2.2.2.length - i) (0) (by kernel_rfl) (by (repeat' (first | refine cons_eq ?_ ?_ | refine int64_of ?_ ?_ ?_ | rfl | omega))) ?_ ?_
              · exact ⟨by omega, h1, hs1, hp⟩
              · clear hp hga hd hi
                rintro q i s1 ⟨hi, h1, hs1, hp⟩
                conv => whnf
                have hga := fun h : i < x.2.2.2.2.2.2.2.length => map_get (f := tnA) (l := x.2.2.2.2.2.2.2) noTn h
                have hd := fun h : i < x.2.2.2.2.2.2.2.length => drop_all (p := tnB) noTn h
                generalize x.2.2.2.2.2.2.2.getD i noTn = u at *
                have lu : (u.2.2.2.2.1.map exA).length = u.2.2.2.2.1.length := List.length_map ..
                have lv : (u.2.2.2.2.2.2.map seA).length = u.2.2.2.2.2.2.length := List.length_map ..
                repeat' (first
                  | (refine ⟨Sub.refl _, ?_⟩)
                  | (refine brA_split (fun h => ?_) (fun h => ?_) <;> (try rw [h]) <;> (try simp only [Bool.false_eq_true, Bool.true_eq_false, ↓reduceIte, decide_eq_true_eq, decide_eq_false_iff_not, Bool.not_eq_true', Bool.not_eq_false'] at h) <;> (conv => whnf))
                  | (refine getB_of h1 ?_; conv => whnf)
                  | (rw [show (x.2.2.2.2.2.2.2.map tnA).getD ((i : Int)).toNat [] = _ from hga (by omega)]; conv => whnf)
                  | (refine getB_same ?_; conv => whnf)
                  | (refine AWp.any (by kernel_rfl) (by kernel_rfl) (by kernel_rfl) ?_; conv => whnf)
                  | (apply And.intro; (focus (first | omega | rfl | decide | exact Nat.le_of_ble_eq_true rfl | ((repeat' (first | exact all_nil | refine all_cons ?_ ?_ | rfl | fail)); done) | (simp [-List.length_flatMap]; done) | (simp [-List.length_flatMap]; omega) | fail)); conv => whnf)
                  | fail)
                · intro c hc
                  conv => whnf
                  refine getB_of set_bx_same ?_
                  repeat' (first
                    | (refine ⟨Sub.refl _, ?_⟩)
                    | (refine brA_split (fun h => ?_) (fun h => ?_) <;> (try rw [h]) <;> (try simp only [Bool.false_eq_true, Bool.true_eq_false, ↓reduceIte, decide_eq_true_eq, decide_eq_false_iff_not, Bool.not_eq_true', Bool.not_eq_false'] at h) <;> (conv => whnf))
                    | (refine getB_of set_bx_same ?_; conv => whnf)
                    | (refine ACalls.pure' ?_ (short_ok (u.1.1, u.2.2.2.1)); rintro _ rfl; conv => whnf)
                    | (refine DCall.pure ?_ (short_ok (u.1.1, u.2.2.2.1)); conv => whnf)
                    | (refine getB_same ?_; conv => whnf)
                    | (refine AWp.any (by kernel_rfl) (by kernel_rfl) (by kernel_rfl) ?_; conv => whnf)
                    | (apply And.intro; (focus (first | omega | rfl | decide | exact Nat.le_of_ble_eq_true rfl | ((repeat' (first | exact all_nil | refine all_cons ?_ ?_ | rfl | fail)); done) | (simp [-List.length_flatMap]; done) | (simp [-List.length_flatMap]; omega) | fail)); conv => whnf)
                    | fail)
                  · refine ⟨((hs1.set (hs1.none hc) _ _).set (hs1.none hc) _ _), ?_⟩
                    refine no _ hp ?_
                    rw [hd (by omega), show tnB u = false by { unfold tnB; rw [show syB (u.1.1, u.2.2.2.1) = false by assumption]; rfl }]
                    rfl
                  · refine ⟨((hs1.set (hs1.none hc) _ _).set (hs1.none hc) _ _), ?_⟩
                    refine no _ hp ?_
                    rw [hd (by omega), show tnB u = false by { unfold tnB; rw [decide_eq_false (p := (u.2.2.2.2.1.length : Int) ≤ 40) (by omega), Bool.false_and, Bool.and_false] }]
                    rfl
                  · refine ⟨((hs1.set (hs1.none hc) _ _).set (hs1.none hc) _ _), ?_⟩
                    refine no _ hp ?_
                    rw [hd (by omega), show tnB u = false by { unfold tnB; rw [decide_eq_false (p := (u.2.2.2.2.2.2.length : Int) ≤ 12) (by omega), Bool.false_and, Bool.and_false, Bool.and_false] }]
                    rfl
                  · have ht : tnB u = u.2.2.2.2.1.all exB := by
                      unfold tnB
                      rw [show syB (u.1.1, u.2.2.2.1) = true by assumption, decide_eq_true (p := (u.2.2.2.2.1.length : Int) ≤ 40) (by omega), decide_eq_true (p := (u.2.2.2.2.2.2.length : Int) ≤ 12) (by omega)]
                      rfl
                    have e1 := ne_of_none h1 hc
                    refine AWp.loopA [8] [116, 117, 118, 119, 120, 123, 124, 125, 126, 127, 128, 129, 130, 131, 2, 121, 122] (fun k : Nat => [.int .i64 k]) (fun k s' => k ≤ u.2.2.2.2.1.length ∧ s'.bx c = some (51, tnA u) ∧ s'.bx b = some (31, trA tk x) ∧ Sub s s' ∧ tnB u = (u.2.2.2.2.1.drop k).all exB) (fun k => u.2.2.2.2.1.length - k) (0) (by kernel_rfl) (by (repeat' (first | refine cons_eq ?_ ?_ | refine int64_of ?_ ?_ ?_ | rfl | omega))) ?_ ?_
                    · refine ⟨by omega, set_bx_same, ?_, ((hs1.set (hs1.none hc) _ _).set (hs1.none hc) _ _), ht⟩
                      rw [set_bx_other e1, set_bx_other e1]; exact h1
                    · rintro q2 k s2 ⟨hk, g1, g2, hs2, hq⟩
                      conv => whnf
                      have hgk := fun h : k < u.2.2.2.2.1.length => map_get (f := exA) (l := u.2.2.2.2.1) noEx h
                      have hdk := fun h : k < u.2.2.2.2.1.length => drop_all (p := exB) noEx h
                      generalize u.2.2.2.2.1.getD k noEx = z at *
                      repeat' (first
                        | (refine ⟨Sub.refl _, ?_⟩)
                        | (refine brA_split (fun h => ?_) (fun h => ?_) <;> (try rw [h]) <;> (try simp only [Bool.false_eq_true, Bool.true_eq_false, ↓reduceIte, decide_eq_true_eq, decide_eq_false_iff_not, Bool.not_eq_true', Bool.not_eq_false'] at h) <;> (conv => whnf))
                        | (refine getB_of g1 ?_; conv => whnf)
                        | (rw [show (u.2.2.2.2.1.map exA).getD ((k : Int)).toNat [] = _ from hgk (by omega)]; conv => whnf)
                        | (refine getB_same ?_; conv => whnf)
                        | (refine AWp.any (by kernel_rfl) (by kernel_rfl) (by kernel_rfl) ?_; conv => whnf)
                        | (apply And.intro; (focus (first | omega | rfl | decide | exact Nat.le_of_ble_eq_true rfl | ((repeat' (first | exact all_nil | refine all_cons ?_ ?_ | rfl | fail)); done) | (simp [-List.length_flatMap]; done) | (simp [-List.length_flatMap]; omega) | fail)); conv => whnf)
                        | fail)
                      · first | refine ⟨hs2, ?_⟩ | skip
                        refine no _ hp ?_
                        rw [hd (by omega), hq, hdk (by omega), show exB z = false from decide_eq_false (by omega)]
                        rfl
                      · refine ⟨k + 1, by (repeat' (first | refine cons_eq ?_ ?_ | refine int64_of ?_ ?_ ?_ | rfl | omega)), by (repeat (first | exact Same.refl _ _ | refine Same.upd rfl ?_ | refine Same.updL rfl ?_ | refine Same.havoc rfl ?_)), ⟨by omega, g1, g2, hs2, ?_⟩, by omega⟩
                        rw [hq, hdk (by omega), show exB z = true from decide_eq_true (by omega), Bool.true_and]
                      · rw [drop_end (by omega), List.all_nil] at hq
                        refine ⟨i + 1, by (repeat' (first | refine cons_eq ?_ ?_ | refine int64_of ?_ ?_ ?_ | rfl | omega)), by (repeat (first | exact Same.refl _ _ | refine Same.upd rfl ?_ | refine Same.updL rfl ?_ | refine Same.havoc rfl ?_)), ⟨by omega, g2, hs2, ?_⟩, by omega⟩
                        rw [hp, hd (by omega), hq, Bool.true_and]
                · rw [drop_end (by omega), List.all_nil] at hp
                  first | refine ⟨hs1, ?_⟩ | skip
                  rw [hp]
                  rfl
end Go.Proofs.YtbhemiimdfhjbaaGreatDoor.Tr
