
/- Chapter 32: texts, the example. -/
import Derived.Test.YtecjpdcoghfmiaaGreatDoorVnB
import Derived.Test.YtecjpdcoghfmiaaGreatDoorBd1
import Derived.Test.YtecjpdcoghfmiaaGreatDoorNuA
set_option linter.all false
namespace Go.Proofs.YtecjpdcoghfmiaaGreatDoor.Vn
open Go Go.Ab Go.RowKit Bd
variable {Γ : Nat → AV}
attribute [local irreducible] APure Sto.set Sto.grow
set_option maxRecDepth 10000

def exL : List UInt8 := [50, 32, 110, 111, 119, 45, 116, 114, 117, 101, 10, 49, 32, 115, 117, 114, 101, 45, 102, 97, 108, 115, 101, 10]
theorem sub_set_lv {s : Sto} {b c : Nat} {T T' : TypeId} {cs cs' : List AV} {t : Nat} {e : TypeId} {k : Nat} (_ : s.bx b = none) (h : (s.set c T cs).lv t e k) : (s.set b T' cs').lv t e k := by
  simpa [Sto.set] using h
theorem text2 (hT : Nu.Tens Γ) : APure Tryz.prog Γ 17 [.int .i64 2] fun v => v = .str [50] := by
  have h := Nu.text_ok hT 2 ⟨by omega, by omega⟩
  rwa [show Lib.itoa 2 = [50] by kernel_rfl] at h
theorem text1 (hT : Nu.Tens Γ) : APure Tryz.prog Γ 17 [.int .i64 1] fun v => v = .str [49] := by
  have h := Nu.text_ok hT 1 ⟨by omega, by omega⟩
  rwa [show Lib.itoa 1 = [49] by kernel_rfl] at h
theorem text_ex (hN : Nms Γ) (hT : Nu.Tens Γ) : APure Tryz.prog Γ 6 [.slice 1 (intsA .i64 [2, 2, 4])] fun v => v = .str exL := by
  refine APure.of_awp Tryz.func6 rfl (Nat.le_of_ble_eq_true (by kernel_rfl)) (by kernel_rfl) ?_
  intro s
  conv => whnf
  intro b hb
  conv => whnf
  repeat' (first
    | (refine ⟨Sub.refl _, ?_⟩)
    | (refine brA_split (fun h => ?_) (fun h => ?_) <;> (try rw [h]) <;> (try simp only [Bool.false_eq_true, Bool.true_eq_false, ↓reduceIte, decide_eq_true_eq, decide_eq_false_iff_not, Bool.not_eq_true', Bool.not_eq_false'] at h) <;> (conv => whnf))
    | (refine ACalls.by (runs_ok 1 [2, 2, 4] (by decide) _) ?_; rintro _ s2 ⟨t, a, cap, rfl, hs2, hof⟩; conv => whnf)
    | (refine getB_same ?_; conv => whnf)
    | (refine AWp.any (by kernel_rfl) (by kernel_rfl) (by kernel_rfl) ?_; conv => whnf)
    | (apply And.intro; (focus (first | omega | rfl | decide | exact Nat.le_of_ble_eq_true rfl | ((repeat' (first | exact all_nil | refine all_cons ?_ ?_ | rfl | fail)); done) | (simp [-List.length_flatMap]; done) | (simp [-List.length_flatMap]; omega) | fail)); conv => whnf)
    | fail)
  have hr : runsOf [2, 2, 4] = [(2, 2), (4, 1)] := by decide
  rw [hr] at hof ⊢
  obtain ⟨b2, rest, ha, hb0, hb1, hlen⟩ := hof.some (by simp)
  subst ha
  obtain ⟨hne, hb2⟩ := none_set hb0
  have hB : Bld (s.set b2 3 ([(2, 2), (4, 1)].map cnt ++ rest)) s2 b [] := by
    have hsub : Sub (s.set b2 3 ([(2, 2), (4, 1)].map cnt ++ rest)) s2 := by
      refine ⟨fun c x hc => ?_, fun t e k h => hs2.lv t e k (sub_set_lv hb h)⟩
      by_cases hcb : c = b2
      · subst hcb
        rw [set_bx_same] at hc
        rw [← hc]; exact hb1
      · rw [set_bx_other hcb] at hc
        exact (((Sub.refl s).set hb _ _).trans hs2).bx c x hc
    exact ⟨by rw [set_bx_other (Ne.symm hne)]; exact hb, none, 1, hs2.bx _ _ set_bx_same, .inl rfl, Own.start hsub _ _⟩
  refine AWp.loopA [15] [16, 17, 18, 19, 6, 7, 20, 21, 22, 2, 23, 24, 25, 26, 27, 28, 29, 30, 31, 32, 33, 34] (fun i : Nat => [.int .i64 i]) (fun i s' => i ≤ 2 ∧ Bld (s.set b2 3 ([(2, 2), (4, 1)].map cnt ++ rest)) s' b (exL.take (if i = 0 then 0 else if i = 1 then 11 else 24))) (fun i => 2 - i) (0) (by kernel_rfl) (by (repeat' (first | refine cons_eq ?_ ?_ | refine int64_of ?_ ?_ ?_ | rfl | omega))) ?_ ?_
  · exact ⟨by omega, hB⟩
  · rintro y i s4 ⟨hi, hB⟩
    obtain ⟨p, tt, hbb, hp, ho⟩ := hB.at_
    obtain rfl | rfl | rfl : i = 0 ∨ i = 1 ∨ i = 2 := by omega
    · conv => whnf
      repeat' (first
        | (refine ⟨Sub.refl _, ?_⟩)
        | (refine brA_split (fun h => ?_) (fun h => ?_) <;> (try rw [h]) <;> (try simp only [Bool.false_eq_true, Bool.true_eq_false, ↓reduceIte, decide_eq_true_eq, decide_eq_false_iff_not, Bool.not_eq_true', Bool.not_eq_false'] at h) <;> (conv => whnf))
        | (refine ACalls.pure' ?_ (name_ok hN _); rintro _ rfl; conv => whnf)
        | (refine DCall.pure ?_ (name_ok hN _); conv => whnf)
        | (refine getB_of (ho.sub.bx _ _ set_bx_same) ?_; conv => whnf)
        | (refine ACalls.pure' ?_ (text2 hT); rintro _ rfl; conv => whnf)
        | (refine ACalls.by (WriteString_ok _ hB (by decide)) ?_; rintro _ s5 ⟨rfl, hB5⟩; conv => whnf)
        | (refine getB_same ?_; conv => whnf)
        | (refine AWp.any (by kernel_rfl) (by kernel_rfl) (by kernel_rfl) ?_; conv => whnf)
        | (apply And.intro; (focus (first | omega | rfl | decide | exact Nat.le_of_ble_eq_true rfl | ((repeat' (first | exact all_nil | refine all_cons ?_ ?_ | rfl | fail)); done) | (simp [-List.length_flatMap]; done) | (simp [-List.length_flatMap]; omega) | fail)); conv => whnf)
        | fail)
      exact ⟨1, by (repeat' (first | refine cons_eq ?_ ?_ | refine int64_of ?_ ?_ ?_ | rfl | omega)), by (repeat (first | exact Same.refl _ _ | refine Same.upd rfl ?_ | refine Same.updL rfl ?_ | refine Same.havoc rfl ?_)), ⟨by omega, hB5⟩, by omega⟩
    · conv => whnf
      repeat' (first
        | (refine ⟨Sub.refl _, ?_⟩)
        | (refine brA_split (fun h => ?_) (fun h => ?_) <;> (try rw [h]) <;> (try simp only [Bool.false_eq_true, Bool.true_eq_false, ↓reduceIte, decide_eq_true_eq, decide_eq_false_iff_not, Bool.not_eq_true', Bool.not_eq_false'] at h) <;> (conv => whnf))
        | (refine ACalls.pure' ?_ (name_ok hN _); rintro _ rfl; conv => whnf)
        | (refine DCall.pure ?_ (name_ok hN _); conv => whnf)
        | (refine getB_of (ho.sub.bx _ _ set_bx_same) ?_; conv => whnf)
        | (refine ACalls.pure' ?_ (text1 hT); rintro _ rfl; conv => whnf)
        | (refine ACalls.by (WriteString_ok _ hB (by decide)) ?_; rintro _ s5 ⟨rfl, hB5⟩; conv => whnf)
        | (refine getB_same ?_; conv => whnf)
        | (refine AWp.any (by kernel_rfl) (by kernel_rfl) (by kernel_rfl) ?_; conv => whnf)
        | (apply And.intro; (focus (first | omega | rfl | decide | exact Nat.le_of_ble_eq_true rfl | ((repeat' (first | exact all_nil | refine all_cons ?_ ?_ | rfl | fail)); done) | (simp [-List.length_flatMap]; done) | (simp [-List.length_flatMap]; omega) | fail)); conv => whnf)
        | fail)
      exact ⟨2, by (repeat' (first | refine cons_eq ?_ ?_ | refine int64_of ?_ ?_ ?_ | rfl | omega)), by (repeat (first | exact Same.refl _ _ | refine Same.upd rfl ?_ | refine Same.updL rfl ?_ | refine Same.havoc rfl ?_)), ⟨by omega, hB5⟩, by omega⟩
    · conv => whnf
      repeat' (first
        | (refine ⟨Sub.refl _, ?_⟩)
        | (refine brA_split (fun h => ?_) (fun h => ?_) <;> (try rw [h]) <;> (try simp only [Bool.false_eq_true, Bool.true_eq_false, ↓reduceIte, decide_eq_true_eq, decide_eq_false_iff_not, Bool.not_eq_true', Bool.not_eq_false'] at h) <;> (conv => whnf))
        | (refine ACalls.by (String_ok hB (by decide) (by decide)) ?_; rintro _ s5 ⟨rfl, hs5⟩; conv => whnf)
        | (refine getB_same ?_; conv => whnf)
        | (refine AWp.any (by kernel_rfl) (by kernel_rfl) (by kernel_rfl) ?_; conv => whnf)
        | (apply And.intro; (focus (first | omega | rfl | decide | exact Nat.le_of_ble_eq_true rfl | ((repeat' (first | exact all_nil | refine all_cons ?_ ?_ | rfl | fail)); done) | (simp [-List.length_flatMap]; done) | (simp [-List.length_flatMap]; omega) | fail)); conv => whnf)
        | fail)
      exact ⟨((Sub.refl s).set hb2 _ _).trans hs5, rfl⟩
theorem awake_ok (hN : Nms Γ) (hT : Nu.Tens Γ) : APure Tryz.prog Γ 5 [] fun v => v = .bool true := by
  refine APure.of_awp Tryz.func5 rfl (Nat.le_of_ble_eq_true (by kernel_rfl)) (by kernel_rfl) ?_
  intro s
  conv => whnf
  repeat' (first
    | (refine ⟨Sub.refl _, ?_⟩)
    | (refine brA_split (fun h => ?_) (fun h => ?_) <;> (try rw [h]) <;> (try simp only [Bool.false_eq_true, Bool.true_eq_false, ↓reduceIte, decide_eq_true_eq, decide_eq_false_iff_not, Bool.not_eq_true', Bool.not_eq_false'] at h) <;> (conv => whnf))
    | (refine ACalls.pure' ?_ (text_ex hN hT); rintro _ rfl; conv => whnf)
    | (refine DCall.pure ?_ (text_ex hN hT); conv => whnf)
    | (refine ACalls.pure' ?_ (isSure_ok _); rintro _ rfl; conv => whnf)
    | (refine DCall.pure ?_ (isSure_ok _); conv => whnf)
    | (refine getB_same ?_; conv => whnf)
    | (refine AWp.any (by kernel_rfl) (by kernel_rfl) (by kernel_rfl) ?_; conv => whnf)
    | (apply And.intro; (focus (first | omega | rfl | decide | exact Nat.le_of_ble_eq_true rfl | ((repeat' (first | exact all_nil | refine all_cons ?_ ?_ | rfl | fail)); done) | (simp [-List.length_flatMap]; done) | (simp [-List.length_flatMap]; omega) | fail)); conv => whnf)
    | fail)
  all_goals first | rfl | kernel_rfl
theorem mayB_no {v w : Int} (q : ¬ (1 ≤ v ∧ v ≤ 4 ∧ 1 ≤ w ∧ w ≤ 4)) : mayB v w = false := by
  unfold mayB
  by_cases q1 : 1 ≤ v ∧ v ≤ 4
  · rw [decide_eq_false (p := 1 ≤ w ∧ w ≤ 4) (by omega), Bool.and_false, Bool.false_and]
  · rw [decide_eq_false (p := 1 ≤ v ∧ v ≤ 4) q1, Bool.false_and, Bool.false_and]
end Go.Proofs.YtecjpdcoghfmiaaGreatDoor.Vn
