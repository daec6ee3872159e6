/- Chapter 7: SchemaNames. -/
import Derived.Test.YtcngoammgmcbfaaDoorScC
namespace Go.Proofs.YtcngoammgmcbfaaDoor.Sc
open Go Go.Ab Go.RowKit
variable {Γ : Nat → AV}
attribute [local irreducible] APure Sto.set Sto.grow
set_option maxRecDepth 10000

def awakeD : D := ([111, 112, 101, 110], 1, [2, 1])
theorem awake_small : Small [awakeD] := by
  refine ⟨by decide, fun d hd => ?_⟩
  rw [List.mem_singleton.1 hd]
  decide
theorem awake_check (hT : Wds Γ) : APure Tryd.prog Γ 24 [.slice 1 (declsA [awakeD])] fun v => v = .tuple [.int .i64 (-1), .int .i64 0] := by
  have h := progCheck_ok hT 1 [awakeD] awake_small
  have e : chkD [awakeD] = (-1, 0) := by decide +kernel
  rw [e] at h
  exact h
theorem awake_text : APure Tryd.prog Γ 26 [.agg [.str [111, 112, 101, 110], .slice 1 (intsA .i64 [2, 1])]] fun v => v = .str [111, 112, 101, 110, 40, 115, 116, 114, 105, 110, 103, 44, 32, 105, 110, 116, 41] := by
  have h := progText_ok (Γ := Γ) [111, 112, 101, 110] 1 [2, 1] (by decide) (by decide)
  have e : txtD [111, 112, 101, 110] [2, 1] = [111, 112, 101, 110, 40, 115, 116, 114, 105, 110, 103, 44, 32, 105, 110, 116, 41] := by decide +kernel
  rw [e] at h
  exact h
theorem awake_word (hT : Wds Γ) : APure Tryd.prog Γ 20 [.str [102, 111, 114, 97, 108, 108]] fun v => v = .bool true := by
  have h := progWord_ok hT [102, 111, 114, 97, 108, 108] (by decide)
  have e : isWord [102, 111, 114, 97, 108, 108] = true := by decide +kernel
  rw [e] at h
  exact h
theorem awake_ok (hT : Wds Γ) : APure Tryd.prog Γ 16 [] fun v => v = .bool true := by
  refine APure.of_awp Tryd.func16 rfl (Nat.le_of_ble_eq_true (by kernel_rfl)) (by kernel_rfl) ?_
  intro s
  conv => whnf
  repeat' (first
    | (refine ⟨Sub.refl _, ?_⟩)
    | (refine brA_split (fun h => ?_) (fun h => ?_) <;> (try rw [h]) <;> (try simp only [Bool.false_eq_true, Bool.true_eq_false, ↓reduceIte, decide_eq_true_eq, decide_eq_false_iff_not, Bool.not_eq_true', Bool.not_eq_false'] at h) <;> (conv => whnf))
    | (refine getB_same ?_; conv => whnf)
    | (refine AWp.any (by kernel_rfl) (by kernel_rfl) (by kernel_rfl) ?_; conv => whnf)
    | (apply And.intro; (focus (first | omega | rfl | decide | exact Nat.le_of_ble_eq_true rfl | ((repeat' (first | exact all_nil | refine all_cons ?_ ?_ | rfl | fail)); done) | (simp [-List.length_flatMap]; done) | (simp [-List.length_flatMap]; omega) | fail)); conv => whnf)
    | fail)
  intro b hb
  conv => whnf
  repeat' (first
    | (refine ⟨Sub.refl _, ?_⟩)
    | (refine brA_split (fun h => ?_) (fun h => ?_) <;> (try rw [h]) <;> (try simp only [Bool.false_eq_true, Bool.true_eq_false, ↓reduceIte, decide_eq_true_eq, decide_eq_false_iff_not, Bool.not_eq_true', Bool.not_eq_false'] at h) <;> (conv => whnf))
    | (refine ACalls.pure' ?_ (awake_check hT); rintro _ rfl; conv => whnf)
    | (refine DCall.pure ?_ (awake_check hT); conv => whnf)
    | (refine ACalls.pure' ?_ (awake_text); rintro _ rfl; conv => whnf)
    | (refine DCall.pure ?_ (awake_text); conv => whnf)
    | (refine ACalls.pure' ?_ (awake_word hT); rintro _ rfl; conv => whnf)
    | (refine DCall.pure ?_ (awake_word hT); conv => whnf)
    | (refine getB_same ?_; conv => whnf)
    | (refine AWp.any (by kernel_rfl) (by kernel_rfl) (by kernel_rfl) ?_; conv => whnf)
    | (apply And.intro; (focus (first | omega | rfl | decide | exact Nat.le_of_ble_eq_true rfl | ((repeat' (first | exact all_nil | refine all_cons ?_ ?_ | rfl | fail)); done) | (simp [-List.length_flatMap]; done) | (simp [-List.length_flatMap]; omega) | fail)); conv => whnf)
    | fail)
  · exact ⟨((Sub.refl _).set hb _ _).set hb _ _, rfl⟩
  · have hk : buildT Tryd.prog 48 = true := by kernel_rfl
    rw [hk] at h
    cases h

theorem take_mem {i : Nat} {l : List UInt8} (hi : i < words.length) : l ∈ words.take (i + 1) ↔ l ∈ words.take i ∨ words.getD i [] = l := by
  rw [List.take_add_one, List.mem_append]
  simp only [List.getD, List.getElem?_eq_getElem hi, Option.toList_some, Option.getD_some, List.mem_singleton]
  exact or_congr Iff.rfl eq_comm
theorem names_ok (hT : Wds Γ) (l : List UInt8) : APure Tryd.prog Γ 4 [.str l] fun v => v = .bool true := by
  have hwl : (strsA words).length = words.length := strsA_len words
  have hw : words.length = 22 := rfl
  refine APure.of_awp Tryd.func4 rfl (Nat.le_of_ble_eq_true (by kernel_rfl)) (by kernel_rfl) ?_
  intro s
  conv => whnf
  repeat' (first
    | (refine ⟨Sub.refl _, ?_⟩)
    | (refine brA_split (fun h => ?_) (fun h => ?_) <;> (try rw [h]) <;> (try simp only [Bool.false_eq_true, Bool.true_eq_false, ↓reduceIte, decide_eq_true_eq, decide_eq_false_iff_not, Bool.not_eq_true', Bool.not_eq_false'] at h) <;> (conv => whnf))
    | (refine ACalls.pure' ?_ (awake_ok hT); rintro _ rfl; conv => whnf)
    | (refine DCall.pure ?_ (awake_ok hT); conv => whnf)
    | (refine ACalls.pure' ?_ (refWords_ok); rintro _ rfl; conv => whnf)
    | (refine DCall.pure ?_ (refWords_ok); conv => whnf)
    | (refine getB_same ?_; conv => whnf)
    | (refine AWp.any (by kernel_rfl) (by kernel_rfl) (by kernel_rfl) ?_; conv => whnf)
    | (apply And.intro; (focus (first | omega | rfl | decide | exact Nat.le_of_ble_eq_true rfl | ((repeat' (first | exact all_nil | refine all_cons ?_ ?_ | rfl | fail)); done) | (simp [-List.length_flatMap]; done) | (simp [-List.length_flatMap]; omega) | fail)); conv => whnf)
    | fail)
  · rfl
  refine AWp.loopA [3, 5] [11, 12, 13, 14, 17, 18, 19, 20, 21, 22, 23, 24, 25, 15, 16] (fun i : Nat => [.bool (decide (l ∈ words.take i)), .int .i64 i]) (fun i s' => i ≤ 22 ∧ s' = s) (fun i => 22 - i) (0) (by kernel_rfl) (by (repeat' (first | refine cons_eq ?_ ?_ | refine int64_of ?_ ?_ ?_ | rfl | omega))) ?_ ?_
  · exact ⟨by omega, rfl⟩
  · rintro y i _ ⟨hi, rfl⟩
    conv => whnf
    repeat' (first
      | (refine ⟨Sub.refl _, ?_⟩)
      | (refine brA_split (fun h => ?_) (fun h => ?_) <;> (try rw [h]) <;> (try simp only [Bool.false_eq_true, Bool.true_eq_false, ↓reduceIte, decide_eq_true_eq, decide_eq_false_iff_not, Bool.not_eq_true', Bool.not_eq_false'] at h) <;> (conv => whnf))
      | (rw [strsA_get (by omega)]; conv => whnf)
      | (refine ACalls.pure' ?_ (progSpelt_ok _ (by omega)); rintro _ rfl; conv => whnf)
      | (refine DCall.pure ?_ (progSpelt_ok _ (by omega)); conv => whnf)
      | (refine ACalls.pure' ?_ (refSpelt_ok _); rintro _ rfl; conv => whnf)
      | (refine DCall.pure ?_ (refSpelt_ok _); conv => whnf)
      | (refine ACalls.pure' ?_ (progWord_ok hT _ (by omega)); rintro _ rfl; conv => whnf)
      | (refine DCall.pure ?_ (progWord_ok hT _ (by omega)); conv => whnf)
      | (refine ACalls.pure' ?_ (progName_ok hT _ (by omega)); rintro _ rfl; conv => whnf)
      | (refine DCall.pure ?_ (progName_ok hT _ (by omega)); conv => whnf)
      | (refine ACalls.pure' ?_ (refName_ok _); rintro _ rfl; conv => whnf)
      | (refine DCall.pure ?_ (refName_ok _); conv => whnf)
      | (refine ACalls.pure' ?_ (awake_ok hT); rintro _ rfl; conv => whnf)
      | (refine DCall.pure ?_ (awake_ok hT); conv => whnf)
      | (refine getB_same ?_; conv => whnf)
      | (refine AWp.any (by kernel_rfl) (by kernel_rfl) (by kernel_rfl) ?_; conv => whnf)
      | (apply And.intro; (focus (first | omega | rfl | decide | exact Nat.le_of_ble_eq_true rfl | ((repeat' (first | exact all_nil | refine all_cons ?_ ?_ | rfl | fail)); done) | (simp [-List.length_flatMap]; done) | (simp [-List.length_flatMap]; omega) | fail)); conv => whnf)
      | fail)
    · refine ⟨i + 1, ?_, by (repeat (first | exact Same.refl _ _ | refine Same.upd rfl ?_ | refine Same.updL rfl ?_ | refine Same.havoc rfl ?_)), ⟨by omega, rfl⟩, by omega⟩
      refine cons_eq (bool_eq ?_) ?_
      · exact (decide_eq_true ((take_mem (by omega)).2 (.inl h))).symm
      · exact by (repeat' (first | refine cons_eq ?_ ?_ | refine int64_of ?_ ?_ ?_ | rfl | omega))
    · refine ⟨i + 1, ?_, by (repeat (first | exact Same.refl _ _ | refine Same.upd rfl ?_ | refine Same.updL rfl ?_ | refine Same.havoc rfl ?_)), ⟨by omega, rfl⟩, by omega⟩
      refine cons_eq ?_ ?_
      · show AV.bool (decide (words.getD ((i : Int)).toNat [] = l)) = _
        refine bool_eq ?_
        simp only [Int.toNat_natCast]
        refine decide_eq_decide.2 ?_
        rw [take_mem (by omega)]
        exact ⟨.inr, fun h' => h'.resolve_left h⟩
      · exact by (repeat' (first | refine cons_eq ?_ ?_ | refine int64_of ?_ ?_ ?_ | rfl | omega))
    · rfl
    · simp at h
    · rw [word_mem, show words.take i = words from List.take_of_length_le (by omega)] at h
      simp at h
    · simp at h
end Go.Proofs.YtcngoammgmcbfaaDoor.Sc
