
/- Chapter 10: trees are compared by the program. -/
import Derived.Test.YtbhemiimdfhjbaaGreatDoorTrB
namespace Go.Proofs.YtbhemiimdfhjbaaGreatDoor.Tr
open Go Go.Ab Go.RowKit
variable {Γ : Nat → AV}
attribute [local irreducible] APure Sto.set Sto.grow
set_option maxRecDepth 10000

theorem eq_de (x y : De) : decide (x = y) = (decide (x.1 = y.1) && decide (x.2 = y.2)) := by
  rw [Bool.eq_iff_iff]; simp [Prod.ext_iff]
theorem eq_sy (x y : Sy) : decide (x = y) = (decide (x.1 = y.1) && (decide (x.2.2.1 = y.2.2.1) && (decide (x.2.2.2 = y.2.2.2) && decide (x.2.1 = y.2.1)))) := by
  rw [Bool.eq_iff_iff]; simp [Prod.ext_iff]; try grind
theorem eq_tn (x y : Tn) : decide (x = y) = (decide (x.1 = y.1) && (decide (x.2.1 = y.2.1) && (decide (x.2.2.1 = y.2.2.1) && (decide (x.2.2.2.1 = y.2.2.2.1) && (decide (x.2.2.2.2.1 = y.2.2.2.2.1) && decide (x.2.2.2.2.2 = y.2.2.2.2.2)))))) := by
  rw [Bool.eq_iff_iff]; simp [Prod.ext_iff]; try grind

theorem sameDe_ok (x y : Nat × De) (hl : x.2.2.length ≤ 140737488355328) : APure Tryz.prog Γ 55 [.agg (deA x), .agg (deA y)] fun v => v = .bool (decide (x.2 = y.2)) := by
  refine APure.of_awp Tryz.func55 rfl (Nat.le_of_ble_eq_true (by kernel_rfl)) (by kernel_rfl) ?_
  intro s
  conv => whnf
  intro b hb
  conv => whnf
  intro b2 hb2
  conv => whnf
  repeat' (first
    | (refine ⟨Sub.refl _, ?_⟩)
    | (refine brA_split (fun h => ?_) (fun h => ?_) <;> (try rw [h]) <;> (try simp only [Bool.false_eq_true, Bool.true_eq_false, ↓reduceIte, decide_eq_true_eq, decide_eq_false_iff_not, Bool.not_eq_true', Bool.not_eq_false'] at h) <;> (conv => whnf))
    | (refine getB_other (ne_of_none set_bx_same hb2) (getB_of set_bx_same ?_); conv => whnf)
    | (refine EqAgg.of grdIdn planIdn ?_; conv => whnf)
    | (refine ACalls.pure' ?_ (equalInts_ok _ _ _ _ hl); rintro _ rfl; conv => whnf)
    | (refine DCall.pure ?_ (equalInts_ok _ _ _ _ hl); conv => whnf)
    | (refine getB_same ?_; conv => whnf)
    | (refine AWp.any (by kernel_rfl) (by kernel_rfl) (by kernel_rfl) ?_; conv => whnf)
    | (apply And.intro; (focus (first | omega | rfl | decide | exact Nat.le_of_ble_eq_true rfl | ((repeat' (first | exact all_nil | refine all_cons ?_ ?_ | rfl | fail)); done) | (simp [-List.length_flatMap]; done) | (simp [-List.length_flatMap]; omega) | fail)); conv => whnf)
    | fail)
  all_goals refine ⟨((Sub.refl _).set hb _ _).set (none_set hb2).2 _ _, ?_⟩
  all_goals refine bool_eq ?_
  all_goals simp only [eq_idn] at *
  all_goals simp [eq_de, *]
theorem sameSy_ok (x y : Nat × Sy) (hl : x.2.2.1.length ≤ 140737488355328) : APure Tryz.prog Γ 61 [.agg (syA x), .agg (syA y)] fun v => v = .bool (decide (x.2 = y.2)) := by
  refine APure.of_awp Tryz.func61 rfl (Nat.le_of_ble_eq_true (by kernel_rfl)) (by kernel_rfl) ?_
  intro s
  conv => whnf
  intro b hb
  conv => whnf
  intro b2 hb2
  conv => whnf
  repeat' (first
    | (refine ⟨Sub.refl _, ?_⟩)
    | (refine brA_split (fun h => ?_) (fun h => ?_) <;> (try rw [h]) <;> (try simp only [Bool.false_eq_true, Bool.true_eq_false, ↓reduceIte, decide_eq_true_eq, decide_eq_false_iff_not, Bool.not_eq_true', Bool.not_eq_false'] at h) <;> (conv => whnf))
    | (refine getB_other (ne_of_none set_bx_same hb2) (getB_of set_bx_same ?_); conv => whnf)
    | (refine ACalls.pure' ?_ (equalAr_ok _ _ _ _ hl); rintro _ rfl; conv => whnf)
    | (refine DCall.pure ?_ (equalAr_ok _ _ _ _ hl); conv => whnf)
    | (refine getB_same ?_; conv => whnf)
    | (refine AWp.any (by kernel_rfl) (by kernel_rfl) (by kernel_rfl) ?_; conv => whnf)
    | (apply And.intro; (focus (first | omega | rfl | decide | exact Nat.le_of_ble_eq_true rfl | ((repeat' (first | exact all_nil | refine all_cons ?_ ?_ | rfl | fail)); done) | (simp [-List.length_flatMap]; done) | (simp [-List.length_flatMap]; omega) | fail)); conv => whnf)
    | fail)
  all_goals refine ⟨((Sub.refl _).set hb _ _).set (none_set hb2).2 _ _, ?_⟩
  all_goals refine bool_eq ?_
  all_goals simp [eq_sy, *]
theorem sameTn_ok (x y : (Nat × Nat × Nat) × Tn) (hl : x.2.2.2.1.2.1.length ≤ 140737488355328) (hn : x.2.2.2.2.1.length ≤ 140737488355328) (hs : x.2.2.2.2.2.2.length ≤ 140737488355328) : APure Tryz.prog Γ 63 [.agg (tnA x), .agg (tnA y)] fun v => v = .bool (decide (x.2 = y.2)) := by
  refine APure.of_awp Tryz.func63 rfl (Nat.le_of_ble_eq_true (by kernel_rfl)) (by kernel_rfl) ?_
  intro s
  conv => whnf
  intro b hb
  conv => whnf
  intro b2 hb2
  conv => whnf
  repeat' (first
    | (refine ⟨Sub.refl _, ?_⟩)
    | (refine brA_split (fun h => ?_) (fun h => ?_) <;> (try rw [h]) <;> (try simp only [Bool.false_eq_true, Bool.true_eq_false, ↓reduceIte, decide_eq_true_eq, decide_eq_false_iff_not, Bool.not_eq_true', Bool.not_eq_false'] at h) <;> (conv => whnf))
    | (refine getB_other (ne_of_none set_bx_same hb2) (getB_of set_bx_same ?_); conv => whnf)
    | (refine EqAgg.of grdIdn planIdn ?_; conv => whnf)
    | (refine ACalls.pure' ?_ (sameSy_ok (x.1.1, x.2.2.2.1) (y.1.1, y.2.2.2.1) hl); rintro _ rfl; conv => whnf)
    | (refine DCall.pure ?_ (sameSy_ok (x.1.1, x.2.2.2.1) (y.1.1, y.2.2.2.1) hl); conv => whnf)
    | (refine ACalls.pure' ?_ (equalEx_ok _ _ _ _ hn); rintro _ rfl; conv => whnf)
    | (refine DCall.pure ?_ (equalEx_ok _ _ _ _ hn); conv => whnf)
    | (refine ACalls.pure' ?_ (equalSe_ok _ _ _ _ hs); rintro _ rfl; conv => whnf)
    | (refine DCall.pure ?_ (equalSe_ok _ _ _ _ hs); conv => whnf)
    | (refine getB_same ?_; conv => whnf)
    | (refine AWp.any (by kernel_rfl) (by kernel_rfl) (by kernel_rfl) ?_; conv => whnf)
    | (apply And.intro; (focus (first | omega | rfl | decide | exact Nat.le_of_ble_eq_true rfl | ((repeat' (first | exact all_nil | refine all_cons ?_ ?_ | rfl | fail)); done) | (simp [-List.length_flatMap]; done) | (simp [-List.length_flatMap]; omega) | fail)); conv => whnf)
    | fail)
  all_goals refine ⟨((Sub.refl _).set hb _ _).set (none_set hb2).2 _ _, ?_⟩
  all_goals refine bool_eq ?_
  all_goals simp only [eq_idn] at *
  all_goals simp [eq_tn, *]

theorem equalDes_ok (ta tb : Nat) (a b : List (Nat × De)) (hm : ∀ x ∈ a, x.2.2.length ≤ 140737488355328) (hl : a.length ≤ 140737488355328) : APure Tryz.prog Γ 54 [.slice ta (a.map deA), .slice tb (b.map deA), .func (.func 55) [] []] fun v => v = .bool (decide (a.map Prod.snd = b.map Prod.snd)) := by
  have hla : (a.map deA).length = a.length := List.length_map ..
  have hlb : (b.map deA).length = b.length := List.length_map ..
  refine APure.of_awp Tryz.func54 rfl (Nat.le_of_ble_eq_true (by kernel_rfl)) (by kernel_rfl) ?_
  intro s
  conv => whnf
  repeat' (first
    | (refine ⟨Sub.refl _, ?_⟩)
    | (refine brA_split (fun h => ?_) (fun h => ?_) <;> (try rw [h]) <;> (try simp only [Bool.false_eq_true, Bool.true_eq_false, ↓reduceIte, decide_eq_true_eq, decide_eq_false_iff_not, Bool.not_eq_true', Bool.not_eq_false'] at h) <;> (conv => whnf))
    | (refine getB_same ?_; conv => whnf)
    | (refine AWp.any (by kernel_rfl) (by kernel_rfl) (by kernel_rfl) ?_; conv => whnf)
    | (apply And.intro; (focus (first | omega | rfl | decide | exact Nat.le_of_ble_eq_true rfl | ((repeat' (first | exact all_nil | refine all_cons ?_ ?_ | rfl | fail)); done) | (simp [-List.length_flatMap]; done) | (simp [-List.length_flatMap]; omega) | fail)); conv => whnf)
    | fail)
  · refine bool_eq (decide_eq_false ?_).symm
    intro he
    have := keys_len he
    omega
  refine AWp.loopA [17] [18, 19, 20, 21, 8, 7, 22, 23, 24, 25, 9, 26, 27, 28, 29, 30, 6, 31] (fun i : Nat => [.int .i64 i]) (fun i s' => i ≤ a.length ∧ Sub s s' ∧ decide (a.map Prod.snd = b.map Prod.snd) = decide ((a.map Prod.snd).drop i = (b.map Prod.snd).drop i)) (fun i => a.length - i) (0) (by kernel_rfl) (by (repeat' (first | refine cons_eq ?_ ?_ | refine int64_of ?_ ?_ ?_ | rfl | omega))) ?_ ?_
  · exact ⟨by omega, Sub.refl _, by simp⟩
  · rintro y i s1 ⟨hi, hs1, hp⟩
    conv => whnf
    repeat' (first
      | (refine ⟨Sub.refl _, ?_⟩)
      | (refine brA_split (fun h => ?_) (fun h => ?_) <;> (try rw [h]) <;> (try simp only [Bool.false_eq_true, Bool.true_eq_false, ↓reduceIte, decide_eq_true_eq, decide_eq_false_iff_not, Bool.not_eq_true', Bool.not_eq_false'] at h) <;> (conv => whnf))
      | (rw [map_get noDe (by omega)]; conv => whnf)
      | (refine getB_same ?_; conv => whnf)
      | (refine AWp.any (by kernel_rfl) (by kernel_rfl) (by kernel_rfl) ?_; conv => whnf)
      | (apply And.intro; (focus (first | omega | rfl | decide | exact Nat.le_of_ble_eq_true rfl | ((repeat' (first | exact all_nil | refine all_cons ?_ ?_ | rfl | fail)); done) | (simp [-List.length_flatMap]; done) | (simp [-List.length_flatMap]; omega) | fail)); conv => whnf)
      | fail)
    · intro c hc
      conv => whnf
      refine getB_of set_bx_same ?_
      repeat' (first
        | (refine ⟨Sub.refl _, ?_⟩)
        | (refine brA_split (fun h => ?_) (fun h => ?_) <;> (try rw [h]) <;> (try simp only [Bool.false_eq_true, Bool.true_eq_false, ↓reduceIte, decide_eq_true_eq, decide_eq_false_iff_not, Bool.not_eq_true', Bool.not_eq_false'] at h) <;> (conv => whnf))
        | (rw [map_get noDe (by omega)]; conv => whnf)
        | (refine getB_same ?_; conv => whnf)
        | (refine AWp.any (by kernel_rfl) (by kernel_rfl) (by kernel_rfl) ?_; conv => whnf)
        | (apply And.intro; (focus (first | omega | rfl | decide | exact Nat.le_of_ble_eq_true rfl | ((repeat' (first | exact all_nil | refine all_cons ?_ ?_ | rfl | fail)); done) | (simp [-List.length_flatMap]; done) | (simp [-List.length_flatMap]; omega) | fail)); conv => whnf)
        | fail)
      intro c2 hc2
      conv => whnf
      refine getB_of set_bx_same ?_
      have hda : (a.getD i noDe).2.2.length ≤ 140737488355328 := hm _ (getD_mem _ (by omega))
      repeat' (first
        | (refine ⟨Sub.refl _, ?_⟩)
        | (refine brA_split (fun h => ?_) (fun h => ?_) <;> (try rw [h]) <;> (try simp only [Bool.false_eq_true, Bool.true_eq_false, ↓reduceIte, decide_eq_true_eq, decide_eq_false_iff_not, Bool.not_eq_true', Bool.not_eq_false'] at h) <;> (conv => whnf))
        | (rw [map_get noDe (by omega)]; conv => whnf)
        | (refine getB_of ((set_bx_other (ne_of_none set_bx_same hc2)).trans ((set_bx_other (ne_of_none set_bx_same hc2)).trans set_bx_same)) ?_; conv => whnf)
        | (refine getB_of set_bx_same ?_; conv => whnf)
        | (refine ACalls.pure' ?_ (sameDe_ok _ _ hda); rintro _ rfl; conv => whnf)
        | (refine DCall.pure ?_ (sameDe_ok _ _ hda); conv => whnf)
        | (refine getB_same ?_; conv => whnf)
        | (refine AWp.any (by kernel_rfl) (by kernel_rfl) (by kernel_rfl) ?_; conv => whnf)
        | (apply And.intro; (focus (first | omega | rfl | decide | exact Nat.le_of_ble_eq_true rfl | ((repeat' (first | exact all_nil | refine all_cons ?_ ?_ | rfl | fail)); done) | (simp [-List.length_flatMap]; done) | (simp [-List.length_flatMap]; omega) | fail)); conv => whnf)
        | fail)
      all_goals try simp only [Int.toNat_natCast] at *
      all_goals have h5 := hs1.none hc
      all_goals have h6 := hs1.none (none_set (none_set hc2).2).2
      · refine ⟨(((hs1.set h5 _ _).set h5 _ _).set h6 _ _).set h6 _ _, bool_eq ?_⟩
        rw [hp, drop_keys (d := noDe) (by omega) (by omega), decide_eq_false h]
        rfl
      · refine ⟨i + 1, by (repeat' (first | refine cons_eq ?_ ?_ | refine int64_of ?_ ?_ ?_ | rfl | omega)), by (repeat (first | exact Same.refl _ _ | refine Same.upd rfl ?_ | refine Same.updL rfl ?_ | refine Same.havoc rfl ?_)), ⟨by omega, (((hs1.set h5 _ _).set h5 _ _).set h6 _ _).set h6 _ _, ?_⟩, by omega⟩
        rw [hp, drop_keys (d := noDe) (by omega) (by omega), decide_eq_true h, Bool.true_and]
    · rw [hp, drop_end (by rw [List.length_map]; omega), drop_end (by rw [List.length_map]; omega)]
      rfl

theorem equalSys_ok (ta tb : Nat) (a b : List (Nat × Sy)) (hm : ∀ x ∈ a, x.2.2.1.length ≤ 140737488355328) (hl : a.length ≤ 140737488355328) : APure Tryz.prog Γ 60 [.slice ta (a.map syA), .slice tb (b.map syA), .func (.func 61) [] []] fun v => v = .bool (decide (a.map Prod.snd = b.map Prod.snd)) := by
  have hla : (a.map syA).length = a.length := List.length_map ..
  have hlb : (b.map syA).length = b.length := List.length_map ..
  refine APure.of_awp Tryz.func60 rfl (Nat.le_of_ble_eq_true (by kernel_rfl)) (by kernel_rfl) ?_
  intro s
  conv => whnf
  repeat' (first
    | (refine ⟨Sub.refl _, ?_⟩)
    | (refine brA_split (fun h => ?_) (fun h => ?_) <;> (try rw [h]) <;> (try simp only [Bool.false_eq_true, Bool.true_eq_false, ↓reduceIte, decide_eq_true_eq, decide_eq_false_iff_not, Bool.not_eq_true', Bool.not_eq_false'] at h) <;> (conv => whnf))
    | (refine getB_same ?_; conv => whnf)
    | (refine AWp.any (by kernel_rfl) (by kernel_rfl) (by kernel_rfl) ?_; conv => whnf)
    | (apply And.intro; (focus (first | omega | rfl | decide | exact Nat.le_of_ble_eq_true rfl | ((repeat' (first | exact all_nil | refine all_cons ?_ ?_ | rfl | fail)); done) | (simp [-List.length_flatMap]; done) | (simp [-List.length_flatMap]; omega) | fail)); conv => whnf)
    | fail)
  · refine bool_eq (decide_eq_false ?_).symm
    intro he
    have := keys_len he
    omega
  refine AWp.loopA [17] [18, 19, 20, 21, 8, 7, 22, 23, 24, 25, 9, 26, 27, 28, 29, 30, 6, 31] (fun i : Nat => [.int .i64 i]) (fun i s' => i ≤ a.length ∧ Sub s s' ∧ decide (a.map Prod.snd = b.map Prod.snd) = decide ((a.map Prod.snd).drop i = (b.map Prod.snd).drop i)) (fun i => a.length - i) (0) (by kernel_rfl) (by (repeat' (first | refine cons_eq ?_ ?_ | refine int64_of ?_ ?_ ?_ | rfl | omega))) ?_ ?_
  · exact ⟨by omega, Sub.refl _, by simp⟩
  · rintro y i s1 ⟨hi, hs1, hp⟩
    conv => whnf
    repeat' (first
      | (refine ⟨Sub.refl _, ?_⟩)
      | (refine brA_split (fun h => ?_) (fun h => ?_) <;> (try rw [h]) <;> (try simp only [Bool.false_eq_true, Bool.true_eq_false, ↓reduceIte, decide_eq_true_eq, decide_eq_false_iff_not, Bool.not_eq_true', Bool.not_eq_false'] at h) <;> (conv => whnf))
      | (rw [map_get noSy (by omega)]; conv => whnf)
      | (refine getB_same ?_; conv => whnf)
      | (refine AWp.any (by kernel_rfl) (by kernel_rfl) (by kernel_rfl) ?_; conv => whnf)
      | (apply And.intro; (focus (first | omega | rfl | decide | exact Nat.le_of_ble_eq_true rfl | ((repeat' (first | exact all_nil | refine all_cons ?_ ?_ | rfl | fail)); done) | (simp [-List.length_flatMap]; done) | (simp [-List.length_flatMap]; omega) | fail)); conv => whnf)
      | fail)
    · intro c hc
      conv => whnf
      refine getB_of set_bx_same ?_
      repeat' (first
        | (refine ⟨Sub.refl _, ?_⟩)
        | (refine brA_split (fun h => ?_) (fun h => ?_) <;> (try rw [h]) <;> (try simp only [Bool.false_eq_true, Bool.true_eq_false, ↓reduceIte, decide_eq_true_eq, decide_eq_false_iff_not, Bool.not_eq_true', Bool.not_eq_false'] at h) <;> (conv => whnf))
        | (rw [map_get noSy (by omega)]; conv => whnf)
        | (refine getB_same ?_; conv => whnf)
        | (refine AWp.any (by kernel_rfl) (by kernel_rfl) (by kernel_rfl) ?_; conv => whnf)
        | (apply And.intro; (focus (first | omega | rfl | decide | exact Nat.le_of_ble_eq_true rfl | ((repeat' (first | exact all_nil | refine all_cons ?_ ?_ | rfl | fail)); done) | (simp [-List.length_flatMap]; done) | (simp [-List.length_flatMap]; omega) | fail)); conv => whnf)
        | fail)
      intro c2 hc2
      conv => whnf
      refine getB_of set_bx_same ?_
      have hda : (a.getD i noSy).2.2.1.length ≤ 140737488355328 := hm _ (getD_mem _ (by omega))
      repeat' (first
        | (refine ⟨Sub.refl _, ?_⟩)
        | (refine brA_split (fun h => ?_) (fun h => ?_) <;> (try rw [h]) <;> (try simp only [Bool.false_eq_true, Bool.true_eq_false, ↓reduceIte, decide_eq_true_eq, decide_eq_false_iff_not, Bool.not_eq_true', Bool.not_eq_false'] at h) <;> (conv => whnf))
        | (rw [map_get noSy (by omega)]; conv => whnf)
        | (refine getB_of ((set_bx_other (ne_of_none set_bx_same hc2)).trans ((set_bx_other (ne_of_none set_bx_same hc2)).trans set_bx_same)) ?_; conv => whnf)
        | (refine getB_of set_bx_same ?_; conv => whnf)
        | (refine ACalls.pure' ?_ (sameSy_ok _ _ hda); rintro _ rfl; conv => whnf)
        | (refine DCall.pure ?_ (sameSy_ok _ _ hda); conv => whnf)
        | (refine getB_same ?_; conv => whnf)
        | (refine AWp.any (by kernel_rfl) (by kernel_rfl) (by kernel_rfl) ?_; conv => whnf)
        | (apply And.intro; (focus (first | omega | rfl | decide | exact Nat.le_of_ble_eq_true rfl | ((repeat' (first | exact all_nil | refine all_cons ?_ ?_ | rfl | fail)); done) | (simp [-List.length_flatMap]; done) | (simp [-List.length_flatMap]; omega) | fail)); conv => whnf)
        | fail)
      all_goals try simp only [Int.toNat_natCast] at *
      all_goals have h5 := hs1.none hc
      all_goals have h6 := hs1.none (none_set (none_set hc2).2).2
      · refine ⟨(((hs1.set h5 _ _).set h5 _ _).set h6 _ _).set h6 _ _, bool_eq ?_⟩
        rw [hp, drop_keys (d := noSy) (by omega) (by omega), decide_eq_false h]
        rfl
      · refine ⟨i + 1, by (repeat' (first | refine cons_eq ?_ ?_ | refine int64_of ?_ ?_ ?_ | rfl | omega)), by (repeat (first | exact Same.refl _ _ | refine Same.upd rfl ?_ | refine Same.updL rfl ?_ | refine Same.havoc rfl ?_)), ⟨by omega, (((hs1.set h5 _ _).set h5 _ _).set h6 _ _).set h6 _ _, ?_⟩, by omega⟩
        rw [hp, drop_keys (d := noSy) (by omega) (by omega), decide_eq_true h, Bool.true_and]
    · rw [hp, drop_end (by rw [List.length_map]; omega), drop_end (by rw [List.length_map]; omega)]
      rfl

theorem equalTns_ok (ta tb : Nat) (a b : List ((Nat × Nat × Nat) × Tn)) (hm : ∀ x ∈ a, x.2.2.2.1.2.1.length ≤ 140737488355328 ∧ x.2.2.2.2.1.length ≤ 140737488355328 ∧ x.2.2.2.2.2.2.length ≤ 140737488355328) (hl : a.length ≤ 140737488355328) : APure Tryz.prog Γ 62 [.slice ta (a.map tnA), .slice tb (b.map tnA), .func (.func 63) [] []] fun v => v = .bool (decide (a.map Prod.snd = b.map Prod.snd)) := by
  have hla : (a.map tnA).length = a.length := List.length_map ..
  have hlb : (b.map tnA).length = b.length := List.length_map ..
  refine APure.of_awp Tryz.func62 rfl (Nat.le_of_ble_eq_true (by kernel_rfl)) (by kernel_rfl) ?_
  intro s
  conv => whnf
  repeat' (first
    | (refine ⟨Sub.refl _, ?_⟩)
    | (refine brA_split (fun h => ?_) (fun h => ?_) <;> (try rw [h]) <;> (try simp only [Bool.false_eq_true, Bool.true_eq_false, ↓reduceIte, decide_eq_true_eq, decide_eq_false_iff_not, Bool.not_eq_true', Bool.not_eq_false'] at h) <;> (conv => whnf))
    | (refine getB_same ?_; conv => whnf)
    | (refine AWp.any (by kernel_rfl) (by kernel_rfl) (by kernel_rfl) ?_; conv => whnf)
    | (apply And.intro; (focus (first | omega | rfl | decide | exact Nat.le_of_ble_eq_true rfl | ((repeat' (first | exact all_nil | refine all_cons ?_ ?_ | rfl | fail)); done) | (simp [-List.length_flatMap]; done) | (simp [-List.length_flatMap]; omega) | fail)); conv => whnf)
    | fail)
  · refine bool_eq (decide_eq_false ?_).symm
    intro he
    have := keys_len he
    omega
  refine AWp.loopA [17] [18, 19, 20, 21, 8, 7, 22, 23, 24, 25, 9, 26, 27, 28, 29, 30, 6, 31] (fun i : Nat => [.int .i64 i]) (fun i s' => i ≤ a.length ∧ Sub s s' ∧ decide (a.map Prod.snd = b.map Prod.snd) = decide ((a.map Prod.snd).drop i = (b.map Prod.snd).drop i)) (fun i => a.length - i) (0) (by kernel_rfl) (by (repeat' (first | refine cons_eq ?_ ?_ | refine int64_of ?_ ?_ ?_ | rfl | omega))) ?_ ?_
  · exact ⟨by omega, Sub.refl _, by simp⟩
  · rintro y i s1 ⟨hi, hs1, hp⟩
    conv => whnf
    repeat' (first
      | (refine ⟨Sub.refl _, ?_⟩)
      | (refine brA_split (fun h => ?_) (fun h => ?_) <;> (try rw [h]) <;> (try simp only [Bool.false_eq_true, Bool.true_eq_false, ↓reduceIte, decide_eq_true_eq, decide_eq_false_iff_not, Bool.not_eq_true', Bool.not_eq_false'] at h) <;> (conv => whnf))
      | (rw [map_get noTn (by omega)]; conv => whnf)
      | (refine getB_same ?_; conv => whnf)
      | (refine AWp.any (by kernel_rfl) (by kernel_rfl) (by kernel_rfl) ?_; conv => whnf)
      | (apply And.intro; (focus (first | omega | rfl | decide | exact Nat.le_of_ble_eq_true rfl | ((repeat' (first | exact all_nil | refine all_cons ?_ ?_ | rfl | fail)); done) | (simp [-List.length_flatMap]; done) | (simp [-List.length_flatMap]; omega) | fail)); conv => whnf)
      | fail)
    · intro c hc
      conv => whnf
      refine getB_of set_bx_same ?_
      repeat' (first
        | (refine ⟨Sub.refl _, ?_⟩)
        | (refine brA_split (fun h => ?_) (fun h => ?_) <;> (try rw [h]) <;> (try simp only [Bool.false_eq_true, Bool.true_eq_false, ↓reduceIte, decide_eq_true_eq, decide_eq_false_iff_not, Bool.not_eq_true', Bool.not_eq_false'] at h) <;> (conv => whnf))
        | (rw [map_get noTn (by omega)]; conv => whnf)
        | (refine getB_same ?_; conv => whnf)
        | (refine AWp.any (by kernel_rfl) (by kernel_rfl) (by kernel_rfl) ?_; conv => whnf)
        | (apply And.intro; (focus (first | omega | rfl | decide | exact Nat.le_of_ble_eq_true rfl | ((repeat' (first | exact all_nil | refine all_cons ?_ ?_ | rfl | fail)); done) | (simp [-List.length_flatMap]; done) | (simp [-List.length_flatMap]; omega) | fail)); conv => whnf)
        | fail)
      intro c2 hc2
      conv => whnf
      refine getB_of set_bx_same ?_
      have hda : (a.getD i noTn).2.2.2.1.2.1.length ≤ 140737488355328 ∧ (a.getD i noTn).2.2.2.2.1.length ≤ 140737488355328 ∧ (a.getD i noTn).2.2.2.2.2.2.length ≤ 140737488355328 := hm _ (getD_mem _ (by omega))
      repeat' (first
        | (refine ⟨Sub.refl _, ?_⟩)
        | (refine brA_split (fun h => ?_) (fun h => ?_) <;> (try rw [h]) <;> (try simp only [Bool.false_eq_true, Bool.true_eq_false, ↓reduceIte, decide_eq_true_eq, decide_eq_false_iff_not, Bool.not_eq_true', Bool.not_eq_false'] at h) <;> (conv => whnf))
        | (rw [map_get noTn (by omega)]; conv => whnf)
        | (refine getB_of ((set_bx_other (ne_of_none set_bx_same hc2)).trans ((set_bx_other (ne_of_none set_bx_same hc2)).trans set_bx_same)) ?_; conv => whnf)
        | (refine getB_of set_bx_same ?_; conv => whnf)
        | (refine ACalls.pure' ?_ (sameTn_ok _ _ hda.1 hda.2.1 hda.2.2); rintro _ rfl; conv => whnf)
        | (refine DCall.pure ?_ (sameTn_ok _ _ hda.1 hda.2.1 hda.2.2); conv => whnf)
        | (refine getB_same ?_; conv => whnf)
        | (refine AWp.any (by kernel_rfl) (by kernel_rfl) (by kernel_rfl) ?_; conv => whnf)
        | (apply And.intro; (focus (first | omega | rfl | decide | exact Nat.le_of_ble_eq_true rfl | ((repeat' (first | exact all_nil | refine all_cons ?_ ?_ | rfl | fail)); done) | (simp [-List.length_flatMap]; done) | (simp [-List.length_flatMap]; omega) | fail)); conv => whnf)
        | fail)
      all_goals try simp only [Int.toNat_natCast] at *
      all_goals have h5 := hs1.none hc
      all_goals have h6 := hs1.none (none_set (none_set hc2).2).2
      · refine ⟨(((hs1.set h5 _ _).set h5 _ _).set h6 _ _).set h6 _ _, bool_eq ?_⟩
        rw [hp, drop_keys (d := noTn) (by omega) (by omega), decide_eq_false h]
        rfl
      · refine ⟨i + 1, by (repeat' (first | refine cons_eq ?_ ?_ | refine int64_of ?_ ?_ ?_ | rfl | omega)), by (repeat (first | exact Same.refl _ _ | refine Same.upd rfl ?_ | refine Same.updL rfl ?_ | refine Same.havoc rfl ?_)), ⟨by omega, (((hs1.set h5 _ _).set h5 _ _).set h6 _ _).set h6 _ _, ?_⟩, by omega⟩
        rw [hp, drop_keys (d := noTn) (by omega) (by omega), decide_eq_true h, Bool.true_and]
    · rw [hp, drop_end (by rw [List.length_map]; omega), drop_end (by rw [List.length_map]; omega)]
      rfl

end Go.Proofs.YtbhemiimdfhjbaaGreatDoor.Tr
