/- Chapter 7: the law of the same schemas. -/
import Derived.Test.YtcngoammgmcbfaaDoorScF
namespace Go.Proofs.YtcngoammgmcbfaaDoor.Sc
open Go Go.Ab Go.RowKit
variable {Γ : Nat → AV}
attribute [local irreducible] APure Sto.set Sto.grow
set_option maxRecDepth 10000

theorem drop_eq_iff {α : Type} [DecidableEq α] {a b : List α} {d : α} {i : Nat} (ha : i < a.length) (hb : i < b.length) :
    decide (a.drop i = b.drop i) = (decide (a.getD i d = b.getD i d) && decide (a.drop (i + 1) = b.drop (i + 1))) := by
  rw [List.drop_eq_getElem_cons ha, List.drop_eq_getElem_cons hb, ← Bool.decide_and]
  refine decide_eq_decide.2 ?_
  rw [List.cons.injEq]
  simp only [List.getD, List.getElem?_eq_getElem ha, List.getElem?_eq_getElem hb, Option.getD_some]

theorem equalInts_ok (ta tb : Nat) (a b : List Int) (hl : a.length ≤ 140737488355328) : APure Tryd.prog Γ 59 [.slice ta (intsA .i64 a), .slice tb (intsA .i64 b)] fun v => v = .bool (decide (a = b)) := by
  have hla := intsA_len .i64 a
  have hlb := intsA_len .i64 b
  refine APure.of_awp Tryd.func59 rfl (Nat.le_of_ble_eq_true (by kernel_rfl)) (by kernel_rfl) ?_
  intro s
  conv => whnf
  repeat' (first
    | (refine ⟨Sub.refl _, ?_⟩)
    | (refine brA_split (fun h => ?_) (fun h => ?_) <;> (try rw [h]) <;> (try simp only [Bool.false_eq_true, Bool.true_eq_false, ↓reduceIte, decide_eq_true_eq, decide_eq_false_iff_not, Bool.not_eq_true', Bool.not_eq_false'] at h) <;> (conv => whnf))
    | (refine getB_same ?_; conv => whnf)
    | (refine AWp.any (by kernel_rfl) (by kernel_rfl) (by kernel_rfl) ?_; conv => whnf)
    | (apply And.intro; (focus (first | omega | rfl | decide | exact Nat.le_of_ble_eq_true rfl | ((repeat' (first | exact all_nil | refine all_cons ?_ ?_ | rfl | fail)); done) | (simp [-List.length_flatMap]; done) | (simp [-List.length_flatMap]; omega) | fail)); conv => whnf)
    | fail)
  · refine bool_eq (decide_eq_false ?_).symm
    rintro rfl
    omega
  refine AWp.loopA [13] [14, 15, 5, 16, 17, 18, 19, 20, 21, 22, 23, 24, 4, 25] (fun i : Nat => [.int .i64 i]) (fun i s' => i ≤ a.length ∧ s' = s ∧ decide (a = b) = decide (a.drop i = b.drop i)) (fun i => a.length - i) (0) (by kernel_rfl) (by (repeat' (first | refine cons_eq ?_ ?_ | refine int64_of ?_ ?_ ?_ | rfl | omega))) ?_ ?_
  · exact ⟨by omega, rfl, by simp⟩
  · rintro y i s1 ⟨hi, rfl, hp⟩
    conv => whnf
    repeat' (first
      | (refine ⟨Sub.refl _, ?_⟩)
      | (refine brA_split (fun h => ?_) (fun h => ?_) <;> (try rw [h]) <;> (try simp only [Bool.false_eq_true, Bool.true_eq_false, ↓reduceIte, decide_eq_true_eq, decide_eq_false_iff_not, Bool.not_eq_true', Bool.not_eq_false'] at h) <;> (conv => whnf))
      | (rw [intsA_get (by omega)]; conv => whnf)
      | (rw [intsA_get (by omega)]; conv => whnf)
      | (refine getB_same ?_; conv => whnf)
      | (refine AWp.any (by kernel_rfl) (by kernel_rfl) (by kernel_rfl) ?_; conv => whnf)
      | (apply And.intro; (focus (first | omega | rfl | decide | exact Nat.le_of_ble_eq_true rfl | ((repeat' (first | exact all_nil | refine all_cons ?_ ?_ | rfl | fail)); done) | (simp [-List.length_flatMap]; done) | (simp [-List.length_flatMap]; omega) | fail)); conv => whnf)
      | fail)
    all_goals try simp only [Int.toNat_natCast] at *
    · refine bool_eq ?_
      rw [hp, drop_eq_iff (d := 0) (by omega) (by omega), decide_eq_false h]
      rfl
    · refine ⟨i + 1, by (repeat' (first | refine cons_eq ?_ ?_ | refine int64_of ?_ ?_ ?_ | rfl | omega)), by (repeat (first | exact Same.refl _ _ | refine Same.upd rfl ?_ | refine Same.updL rfl ?_ | refine Same.havoc rfl ?_)), ⟨by omega, (by first | rfl | trivial), ?_⟩, by omega⟩
      rw [hp, drop_eq_iff (d := 0) (by omega) (by omega), decide_eq_true h, Bool.true_and]
    · rw [hp, drop_end (by omega), drop_end (by omega)]
      rfl

def keyD (d : D) : List UInt8 × List Int := (d.1, d.2.2)
theorem drop_keys {a b : List D} {i : Nat} (ha : i < a.length) (hb : i < b.length) :
    decide ((a.map keyD).drop i = (b.map keyD).drop i) = (decide (keyD (a.getD i noD) = keyD (b.getD i noD)) && decide ((a.map keyD).drop (i + 1) = (b.map keyD).drop (i + 1))) := by
  rw [drop_eq_iff (d := keyD noD) (by rwa [List.length_map]) (by rwa [List.length_map])]
  simp [List.getD, ha, hb]
theorem sameFn_ok (d e : D) (hl : d.2.2.length ≤ 140737488355328) : APure Tryd.prog Γ 79 [.agg [.str d.1, .slice d.2.1 (intsA .i64 d.2.2)], .agg [.str e.1, .slice e.2.1 (intsA .i64 e.2.2)]] fun v => v = .bool (decide (keyD d = keyD e)) := by
  refine APure.of_awp Tryd.func79 rfl (Nat.le_of_ble_eq_true (by kernel_rfl)) (by kernel_rfl) ?_
  intro s
  conv => whnf
  intro b hb
  conv => whnf
  intro b2 hb2
  conv => whnf
  refine getB_other (ne_of_none set_bx_same hb2) (getB_of set_bx_same ?_)
  conv => whnf
  refine getB_of set_bx_same ?_
  repeat' (first
    | (refine ⟨Sub.refl _, ?_⟩)
    | (refine brA_split (fun h => ?_) (fun h => ?_) <;> (try rw [h]) <;> (try simp only [Bool.false_eq_true, Bool.true_eq_false, ↓reduceIte, decide_eq_true_eq, decide_eq_false_iff_not, Bool.not_eq_true', Bool.not_eq_false'] at h) <;> (conv => whnf))
    | (refine getB_other (ne_of_none set_bx_same hb2) (getB_of set_bx_same ?_); conv => whnf)
    | (refine getB_of set_bx_same ?_; conv => whnf)
    | (refine ACalls.pure' ?_ (equalInts_ok _ _ _ _ hl); rintro _ rfl; conv => whnf)
    | (refine DCall.pure ?_ (equalInts_ok _ _ _ _ hl); conv => whnf)
    | (refine getB_same ?_; conv => whnf)
    | (refine AWp.any (by kernel_rfl) (by kernel_rfl) (by kernel_rfl) ?_; conv => whnf)
    | (apply And.intro; (focus (first | omega | rfl | decide | exact Nat.le_of_ble_eq_true rfl | ((repeat' (first | exact all_nil | refine all_cons ?_ ?_ | rfl | fail)); done) | (simp [-List.length_flatMap]; done) | (simp [-List.length_flatMap]; omega) | fail)); conv => whnf)
    | fail)
  · refine ⟨((Sub.refl _).set hb _ _).set (none_set hb2).2 _ _, ?_⟩
    simp [tupA, keyD, h]
  · refine ⟨((Sub.refl _).set hb _ _).set (none_set hb2).2 _ _, ?_⟩
    simp [tupA, keyD, h]
theorem equalDecls_ok (ta tb : Nat) (a b : List D) (hm : ∀ d ∈ a, d.2.2.length ≤ 140737488355328) (hl : a.length ≤ 140737488355328) : APure Tryd.prog Γ 78 [.slice ta (declsA a), .slice tb (declsA b), .func (.func 79) [] []] fun v => v = .bool (decide (a.map keyD = b.map keyD)) := by
  have hla := declsA_len a
  have hlb := declsA_len b
  refine APure.of_awp Tryd.func78 rfl (Nat.le_of_ble_eq_true (by kernel_rfl)) (by kernel_rfl) ?_
  intro s
  conv => whnf
  repeat' (first
    | (refine ⟨Sub.refl _, ?_⟩)
    | (refine brA_split (fun h => ?_) (fun h => ?_) <;> (try rw [h]) <;> (try simp only [Bool.false_eq_true, Bool.true_eq_false, ↓reduceIte, decide_eq_true_eq, decide_eq_false_iff_not, Bool.not_eq_true', Bool.not_eq_false'] at h) <;> (conv => whnf))
    | (refine getB_same ?_; conv => whnf)
    | (refine AWp.any (by kernel_rfl) (by kernel_rfl) (by kernel_rfl) ?_; conv => whnf)
    | (apply And.intro; (focus (first | omega | rfl | decide | exact Nat.le_of_ble_eq_true rfl | ((repeat' (first | exact all_nil | refine all_cons ?_ ?_ | rfl | fail)); done) | (simp [-List.length_flatMap]; done) | (simp [-List.length_flatMap]; omega) | fail)); conv => whnf)
    | fail)
  · refine bool_eq (decide_eq_false ?_).symm
    intro he
    have := congrArg List.length he
    rw [List.length_map, List.length_map] at this
    omega
  refine AWp.loopA [17] [18, 19, 20, 21, 8, 7, 22, 23, 24, 25, 9, 26, 27, 28, 29, 30, 6, 31] (fun i : Nat => [.int .i64 i]) (fun i s' => i ≤ a.length ∧ Sub s s' ∧ decide (a.map keyD = b.map keyD) = decide ((a.map keyD).drop i = (b.map keyD).drop i)) (fun i => a.length - i) (0) (by kernel_rfl) (by (repeat' (first | refine cons_eq ?_ ?_ | refine int64_of ?_ ?_ ?_ | rfl | omega))) ?_ ?_
  · exact ⟨by omega, Sub.refl _, by simp⟩
  · rintro y i s1 ⟨hi, hs1, hp⟩
    conv => whnf
    repeat' (first
      | (refine ⟨Sub.refl _, ?_⟩)
      | (refine brA_split (fun h => ?_) (fun h => ?_) <;> (try rw [h]) <;> (try simp only [Bool.false_eq_true, Bool.true_eq_false, ↓reduceIte, decide_eq_true_eq, decide_eq_false_iff_not, Bool.not_eq_true', Bool.not_eq_false'] at h) <;> (conv => whnf))
      | (rw [declsA_get (by omega)]; conv => whnf)
      | (refine getB_same ?_; conv => whnf)
      | (refine AWp.any (by kernel_rfl) (by kernel_rfl) (by kernel_rfl) ?_; conv => whnf)
      | (apply And.intro; (focus (first | omega | rfl | decide | exact Nat.le_of_ble_eq_true rfl | ((repeat' (first | exact all_nil | refine all_cons ?_ ?_ | rfl | fail)); done) | (simp [-List.length_flatMap]; done) | (simp [-List.length_flatMap]; omega) | fail)); conv => whnf)
      | fail)
    · intro c hc
      conv => whnf
      refine getB_of set_bx_same ?_
      repeat' (first
        | (refine ⟨Sub.refl _, ?_⟩)
        | (refine brA_split (fun h => ?_) (fun h => ?_) <;> (try rw [h]) <;> (try simp only [Bool.false_eq_true, Bool.true_eq_false, ↓reduceIte, decide_eq_true_eq, decide_eq_false_iff_not, Bool.not_eq_true', Bool.not_eq_false'] at h) <;> (conv => whnf))
        | (rw [declsA_get (by omega)]; conv => whnf)
        | (refine getB_same ?_; conv => whnf)
        | (refine AWp.any (by kernel_rfl) (by kernel_rfl) (by kernel_rfl) ?_; conv => whnf)
        | (apply And.intro; (focus (first | omega | rfl | decide | exact Nat.le_of_ble_eq_true rfl | ((repeat' (first | exact all_nil | refine all_cons ?_ ?_ | rfl | fail)); done) | (simp [-List.length_flatMap]; done) | (simp [-List.length_flatMap]; omega) | fail)); conv => whnf)
        | fail)
      intro c2 hc2
      conv => whnf
      refine getB_of set_bx_same ?_
      have hda : ((a.getD i noD).2.2).length ≤ 140737488355328 := hm _ (getD_decl (by omega))
      repeat' (first
        | (refine ⟨Sub.refl _, ?_⟩)
        | (refine brA_split (fun h => ?_) (fun h => ?_) <;> (try rw [h]) <;> (try simp only [Bool.false_eq_true, Bool.true_eq_false, ↓reduceIte, decide_eq_true_eq, decide_eq_false_iff_not, Bool.not_eq_true', Bool.not_eq_false'] at h) <;> (conv => whnf))
        | (rw [declsA_get (by omega)]; conv => whnf)
        | (refine getB_of ((set_bx_other (ne_of_none set_bx_same hc2)).trans ((set_bx_other (ne_of_none set_bx_same hc2)).trans set_bx_same)) ?_; conv => whnf)
        | (refine getB_of set_bx_same ?_; conv => whnf)
        | (refine ACalls.pure' ?_ (sameFn_ok _ _ hda); rintro _ rfl; conv => whnf)
        | (refine DCall.pure ?_ (sameFn_ok _ _ hda); conv => whnf)
        | (refine getB_same ?_; conv => whnf)
        | (refine AWp.any (by kernel_rfl) (by kernel_rfl) (by kernel_rfl) ?_; conv => whnf)
        | (apply And.intro; (focus (first | omega | rfl | decide | exact Nat.le_of_ble_eq_true rfl | ((repeat' (first | exact all_nil | refine all_cons ?_ ?_ | rfl | fail)); done) | (simp [-List.length_flatMap]; done) | (simp [-List.length_flatMap]; omega) | fail)); conv => whnf)
        | fail)
      all_goals try simp only [Int.toNat_natCast] at *
      all_goals have h5 := hs1.none hc
      all_goals have h6 := hs1.none (none_set (none_set hc2).2).2
      all_goals have h7 := ((((hs1.set h5 48 [AV.str [], AV.slice 1 []]).set h5 48 (declC (a.getD i noD))).set h6 48 [AV.str [], AV.slice 1 []]).set h6 48 (declC (b.getD i noD)))
      · refine ⟨h7, bool_eq ?_⟩
        rw [hp, drop_keys (by omega) (by omega), decide_eq_false h]
        rfl
      · refine ⟨i + 1, by (repeat' (first | refine cons_eq ?_ ?_ | refine int64_of ?_ ?_ ?_ | rfl | omega)), by (repeat (first | exact Same.refl _ _ | refine Same.upd rfl ?_ | refine Same.updL rfl ?_ | refine Same.havoc rfl ?_)), ⟨by omega, h7, ?_⟩, by omega⟩
        rw [hp, drop_keys (by omega) (by omega), decide_eq_true h, Bool.true_and]
    · rw [hp, drop_end (by rw [List.length_map]; omega), drop_end (by rw [List.length_map]; omega)]
      rfl

theorem keys_len {a b : List D} (h : a.map keyD = b.map keyD) : a.length = b.length := by
  have := congrArg List.length h
  rwa [List.length_map, List.length_map] at this
theorem sameProg_ok (ta tb : Nat) (a b : List D) (hs : Small a) : APure Tryd.prog Γ 30 [.slice ta (declsA a), .slice tb (declsA b)] fun v => v = .bool (decide (a.map keyD = b.map keyD)) := by
  refine APure.of_awp Tryd.func30 rfl (Nat.le_of_ble_eq_true (by kernel_rfl)) (by kernel_rfl) ?_
  intro s
  conv => whnf
  repeat' (first
    | (refine ⟨Sub.refl _, ?_⟩)
    | (refine brA_split (fun h => ?_) (fun h => ?_) <;> (try rw [h]) <;> (try simp only [Bool.false_eq_true, Bool.true_eq_false, ↓reduceIte, decide_eq_true_eq, decide_eq_false_iff_not, Bool.not_eq_true', Bool.not_eq_false'] at h) <;> (conv => whnf))
    | (refine ACalls.pure' ?_ (equalDecls_ok _ _ _ _ (fun d h => (hs.2 d h).2) hs.1); rintro _ rfl; conv => whnf)
    | (refine DCall.pure ?_ (equalDecls_ok _ _ _ _ (fun d h => (hs.2 d h).2) hs.1); conv => whnf)
    | (refine getB_same ?_; conv => whnf)
    | (refine AWp.any (by kernel_rfl) (by kernel_rfl) (by kernel_rfl) ?_; conv => whnf)
    | (apply And.intro; (focus (first | omega | rfl | decide | exact Nat.le_of_ble_eq_true rfl | ((repeat' (first | exact all_nil | refine all_cons ?_ ?_ | rfl | fail)); done) | (simp [-List.length_flatMap]; done) | (simp [-List.length_flatMap]; omega) | fail)); conv => whnf)
    | fail)
  rfl

theorem sameRef_ok (ta tb : Nat) (a b : List D) (ha : fewB a = true) (hb : fewB b = true) : APure Tryd.prog Γ 31 [.slice ta (declsA a), .slice tb (declsA b)] fun v => v = .bool (decide (a.map keyD = b.map keyD)) := by
  have hla := declsA_len a
  have hlb := declsA_len b
  have hma := few_mem ha
  have hmb := few_mem hb
  refine APure.of_awp Tryd.func31 rfl (Nat.le_of_ble_eq_true (by kernel_rfl)) (by kernel_rfl) ?_
  intro s
  conv => whnf
  repeat' (first
    | (refine ⟨Sub.refl _, ?_⟩)
    | (refine brA_split (fun h => ?_) (fun h => ?_) <;> (try rw [h]) <;> (try simp only [Bool.false_eq_true, Bool.true_eq_false, ↓reduceIte, decide_eq_true_eq, decide_eq_false_iff_not, Bool.not_eq_true', Bool.not_eq_false'] at h) <;> (conv => whnf))
    | (refine getB_same ?_; conv => whnf)
    | (refine AWp.any (by kernel_rfl) (by kernel_rfl) (by kernel_rfl) ?_; conv => whnf)
    | (apply And.intro; (focus (first | omega | rfl | decide | exact Nat.le_of_ble_eq_true rfl | ((repeat' (first | exact all_nil | refine all_cons ?_ ?_ | rfl | fail)); done) | (simp [-List.length_flatMap]; done) | (simp [-List.length_flatMap]; omega) | fail)); conv => whnf)
    | fail)
  · refine bool_eq (decide_eq_false ?_).symm
    intro he
    have := keys_len he
    omega
  refine AWp.loopA [5] [12, 13, 14, 15, 18, 19, 20, 21, 22, 23, 24, 25, 26, 27, 28, 29, 30, 31, 32, 33, 34, 35, 36, 37, 38, 39, 40, 41, 42, 43, 4, 6, 44, 45, 46, 47, 48, 49, 50, 51, 54, 55, 56, 57, 58, 59, 60, 61, 62, 63, 64, 65, 66, 67, 68, 69, 70, 52, 53, 16, 17] (fun i : Nat => [.int .i64 i]) (fun i s' => i ≤ a.length ∧ s' = s ∧ decide (a.map keyD = b.map keyD) = decide ((a.map keyD).drop i = (b.map keyD).drop i)) (fun i => a.length - i) (0) (by kernel_rfl) (by (repeat' (first | refine cons_eq ?_ ?_ | refine int64_of ?_ ?_ ?_ | rfl | omega))) ?_ ?_
  · exact ⟨by omega, rfl, by simp⟩
  · rintro y i s1 ⟨hi, rfl, hp⟩
    conv => whnf
    have hga := fun h : i < a.length => declsA_get h
    have hma := fun h : i < a.length => hma.2 _ (getD_decl h)
    have hgb := fun h : i < b.length => declsA_get h
    have hmb := fun h : i < b.length => hmb.2 _ (getD_decl h)
    have hk := fun (h : i < a.length) (h' : i < b.length) => drop_keys h h'
    generalize hd : a.getD i noD = d at *
    generalize hd : b.getD i noD = e at *
    have hil := intsA_len .i64 d.2.2
    have hie := intsA_len .i64 e.2.2
    repeat' (first
      | (refine ⟨Sub.refl _, ?_⟩)
      | (refine brA_split (fun h => ?_) (fun h => ?_) <;> (try rw [h]) <;> (try simp only [Bool.false_eq_true, Bool.true_eq_false, ↓reduceIte, decide_eq_true_eq, decide_eq_false_iff_not, Bool.not_eq_true', Bool.not_eq_false'] at h) <;> (conv => whnf))
      | (rw [show (declsA a).getD ((i : Int)).toNat [] = _ from hga (by omega)]; conv => whnf)
      | (rw [show (declsA b).getD ((i : Int)).toNat [] = _ from hgb (by omega)]; conv => whnf)
      | (refine ACalls.pure' ?_ (refText_ok _ _ _ (by have := hma (by omega); omega) (by have := hma (by omega); omega)); rintro _ rfl; conv => whnf)
      | (refine DCall.pure ?_ (refText_ok _ _ _ (by have := hma (by omega); omega) (by have := hma (by omega); omega)); conv => whnf)
      | (refine ACalls.pure' ?_ (refText_ok _ _ _ (by have := hmb (by omega); omega) (by have := hmb (by omega); omega)); rintro _ rfl; conv => whnf)
      | (refine DCall.pure ?_ (refText_ok _ _ _ (by have := hmb (by omega); omega) (by have := hmb (by omega); omega)); conv => whnf)
      | (refine getB_same ?_; conv => whnf)
      | (refine AWp.any (by kernel_rfl) (by kernel_rfl) (by kernel_rfl) ?_; conv => whnf)
      | (apply And.intro; (focus (first | omega | rfl | decide | exact Nat.le_of_ble_eq_true rfl | ((repeat' (first | exact all_nil | refine all_cons ?_ ?_ | rfl | fail)); done) | (simp [-List.length_flatMap]; done) | (simp [-List.length_flatMap]; omega) | fail)); conv => whnf)
      | fail)
    all_goals try simp only [Int.toNat_natCast] at *
    · refine bool_eq ?_
      rw [hp, hk (by omega) (by omega), decide_eq_false (fun he => h (by rw [(Prod.mk.inj he).1, (Prod.mk.inj he).2]))]
      rfl
    · refine bool_eq ?_
      rw [hp, hk (by omega) (by omega), decide_eq_false (fun he => h (by rw [hil, hie, (Prod.mk.inj he).2]))]
      rfl
    · rename_i ht
      refine AWp.loopA [6] [44, 45, 46, 47, 48, 49, 50, 51, 54, 55, 56, 57, 58, 59, 60, 61, 62, 63, 64, 65, 66, 67, 68, 69, 70, 4, 52, 53] (fun k : Nat => [.int .i64 k]) (fun k s' => k ≤ d.2.2.length ∧ s' = s1 ∧ decide (d.2.2 = e.2.2) = decide (d.2.2.drop k = e.2.2.drop k)) (fun k => d.2.2.length - k) (0) (by kernel_rfl) (by (repeat' (first | refine cons_eq ?_ ?_ | refine int64_of ?_ ?_ ?_ | rfl | omega))) ?_ ?_
      · exact ⟨by omega, rfl, by simp⟩
      · rintro y k _ ⟨hkk, rfl, hq⟩
        conv => whnf
        repeat' (first
          | (refine ⟨Sub.refl _, ?_⟩)
          | (refine brA_split (fun h => ?_) (fun h => ?_) <;> (try rw [h]) <;> (try simp only [Bool.false_eq_true, Bool.true_eq_false, ↓reduceIte, decide_eq_true_eq, decide_eq_false_iff_not, Bool.not_eq_true', Bool.not_eq_false'] at h) <;> (conv => whnf))
          | (rw [show (declsA a).getD ((i : Int)).toNat [] = _ from hga (by omega)]; conv => whnf)
          | (rw [show (declsA b).getD ((i : Int)).toNat [] = _ from hgb (by omega)]; conv => whnf)
          | (rw [intsA_get (by omega)]; conv => whnf)
          | (rw [intsA_get (by omega)]; conv => whnf)
          | (refine getB_same ?_; conv => whnf)
          | (refine AWp.any (by kernel_rfl) (by kernel_rfl) (by kernel_rfl) ?_; conv => whnf)
          | (apply And.intro; (focus (first | omega | rfl | decide | exact Nat.le_of_ble_eq_true rfl | ((repeat' (first | exact all_nil | refine all_cons ?_ ?_ | rfl | fail)); done) | (simp [-List.length_flatMap]; done) | (simp [-List.length_flatMap]; omega) | fail)); conv => whnf)
          | fail)
        all_goals try simp only [Int.toNat_natCast] at *
        · have hn : decide (d.2.2 = e.2.2) = false := by
            rw [hq, drop_eq_iff (d := 0) (by omega) (by omega), decide_eq_false h]
            rfl
          refine bool_eq ?_
          rw [hp, hk (by omega) (by omega), decide_eq_false (p := keyD d = keyD e) (fun he => of_decide_eq_false hn (Prod.mk.inj he).2)]
          rfl
        · refine ⟨k + 1, by (repeat' (first | refine cons_eq ?_ ?_ | refine int64_of ?_ ?_ ?_ | rfl | omega)), by (repeat (first | exact Same.refl _ _ | refine Same.upd rfl ?_ | refine Same.updL rfl ?_ | refine Same.havoc rfl ?_)), ⟨by omega, (by first | rfl | trivial), ?_⟩, by omega⟩
          rw [hq, drop_eq_iff (d := 0) (by omega) (by omega), decide_eq_true h, Bool.true_and]
        · have hn : decide (d.2.2 = e.2.2) = true := by
            rw [hq, drop_end (by omega), drop_end (by omega)]
            rfl
          have hn := of_decide_eq_true hn
          have ht : d.1 = e.1 := by
            rw [hn] at ht
            simpa [txtD] using ht
          refine ⟨i + 1, by (repeat' (first | refine cons_eq ?_ ?_ | refine int64_of ?_ ?_ ?_ | rfl | omega)), by (repeat (first | exact Same.refl _ _ | refine Same.upd rfl ?_ | refine Same.updL rfl ?_ | refine Same.havoc rfl ?_)), ⟨by omega, (by first | rfl | trivial), ?_⟩, by omega⟩
          rw [hp, hk (by omega) (by omega), decide_eq_true (p := keyD d = keyD e) (by unfold keyD; rw [hn, ht]), Bool.true_and]
    · rw [hp, drop_end (by rw [List.length_map]; omega), drop_end (by rw [List.length_map]; omega)]
      rfl

theorem sames_ok (hT : Wds Γ) (ta : Nat) (a : List D) (tb : Nat) (b : List D) : APure Tryd.prog Γ 6 [.slice ta (declsA a), .slice tb (declsA b)] fun v => v = .bool true := by
  have hla := declsA_len a
  have hlb := declsA_len b
  refine APure.of_awp Tryd.func6 rfl (Nat.le_of_ble_eq_true (by kernel_rfl)) (by kernel_rfl) ?_
  intro s
  conv => whnf
  repeat' (first
    | (refine ⟨Sub.refl _, ?_⟩)
    | (refine brA_split (fun h => ?_) (fun h => ?_) <;> (try rw [h]) <;> (try simp only [Bool.false_eq_true, Bool.true_eq_false, ↓reduceIte, decide_eq_true_eq, decide_eq_false_iff_not, Bool.not_eq_true', Bool.not_eq_false'] at h) <;> (conv => whnf))
    | (refine ACalls.pure' ?_ (few_ok _ _); rintro _ rfl; conv => whnf)
    | (refine DCall.pure ?_ (few_ok _ _); conv => whnf)
    | (refine ACalls.pure' ?_ (few_ok _ _); rintro _ rfl; conv => whnf)
    | (refine DCall.pure ?_ (few_ok _ _); conv => whnf)
    | (refine ACalls.pure' ?_ (awake_ok hT); rintro _ rfl; conv => whnf)
    | (refine DCall.pure ?_ (awake_ok hT); conv => whnf)
    | (refine getB_same ?_; conv => whnf)
    | (refine AWp.any (by kernel_rfl) (by kernel_rfl) (by kernel_rfl) ?_; conv => whnf)
    | (apply And.intro; (focus (first | omega | rfl | decide | exact Nat.le_of_ble_eq_true rfl | ((repeat' (first | exact all_nil | refine all_cons ?_ ?_ | rfl | fail)); done) | (simp [-List.length_flatMap]; done) | (simp [-List.length_flatMap]; omega) | fail)); conv => whnf)
    | fail)
  · rfl
  · rfl
  rename_i ha
  have hs := few_small ha
  repeat' (first
    | (refine ⟨Sub.refl _, ?_⟩)
    | (refine brA_split (fun h => ?_) (fun h => ?_) <;> (try rw [h]) <;> (try simp only [Bool.false_eq_true, Bool.true_eq_false, ↓reduceIte, decide_eq_true_eq, decide_eq_false_iff_not, Bool.not_eq_true', Bool.not_eq_false'] at h) <;> (conv => whnf))
    | (refine ACalls.pure' ?_ (sameProg_ok _ _ _ _ hs); rintro _ rfl; conv => whnf)
    | (refine DCall.pure ?_ (sameProg_ok _ _ _ _ hs); conv => whnf)
    | (refine ACalls.pure' ?_ (sameRef_ok _ _ _ _ ha h); rintro _ rfl; conv => whnf)
    | (refine DCall.pure ?_ (sameRef_ok _ _ _ _ ha h); conv => whnf)
    | (refine ACalls.pure' ?_ (sameProg_ok _ _ _ _ hs); rintro _ rfl; conv => whnf)
    | (refine DCall.pure ?_ (sameProg_ok _ _ _ _ hs); conv => whnf)
    | (refine ACalls.pure' ?_ (awake_ok hT); rintro _ rfl; conv => whnf)
    | (refine DCall.pure ?_ (awake_ok hT); conv => whnf)
    | (refine getB_same ?_; conv => whnf)
    | (refine AWp.any (by kernel_rfl) (by kernel_rfl) (by kernel_rfl) ?_; conv => whnf)
    | (apply And.intro; (focus (first | omega | rfl | decide | exact Nat.le_of_ble_eq_true rfl | ((repeat' (first | exact all_nil | refine all_cons ?_ ?_ | rfl | fail)); done) | (simp [-List.length_flatMap]; done) | (simp [-List.length_flatMap]; omega) | fail)); conv => whnf)
    | fail)
  · rfl
  · exact absurd trivial h
  · simp at h
end Go.Proofs.YtcngoammgmcbfaaDoor.Sc
