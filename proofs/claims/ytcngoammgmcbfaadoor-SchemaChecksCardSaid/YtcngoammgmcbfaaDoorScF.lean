/- Chapter 7: the law of the declarations. -/
import Derived.Test.YtcngoammgmcbfaaDoorScE
namespace Go.Proofs.YtcngoammgmcbfaaDoor.Sc
open Go Go.Ab Go.RowKit
variable {Γ : Nat → AV}
attribute [local irreducible] APure Sto.set Sto.grow
set_option maxRecDepth 10000

theorem checks_ok (hT : Wds Γ) (t : Nat) (l : List D) (name : List UInt8) : APure Tryd.prog Γ 5 [.slice t (declsA l), .str name] fun v => v = .bool true := by
  have hbl := declsA_len l
  refine APure.of_awp Tryd.func5 rfl (Nat.le_of_ble_eq_true (by kernel_rfl)) (by kernel_rfl) ?_
  intro s
  conv => whnf
  repeat' (first
    | (refine ⟨Sub.refl _, ?_⟩)
    | (refine brA_split (fun h => ?_) (fun h => ?_) <;> (try rw [h]) <;> (try simp only [Bool.false_eq_true, Bool.true_eq_false, ↓reduceIte, decide_eq_true_eq, decide_eq_false_iff_not, Bool.not_eq_true', Bool.not_eq_false'] at h) <;> (conv => whnf))
    | (refine ACalls.pure' ?_ (few_ok _ _); rintro _ rfl; conv => whnf)
    | (refine DCall.pure ?_ (few_ok _ _); conv => whnf)
    | (refine ACalls.pure' ?_ (awake_ok hT); rintro _ rfl; conv => whnf)
    | (refine DCall.pure ?_ (awake_ok hT); conv => whnf)
    | (refine getB_same ?_; conv => whnf)
    | (refine AWp.any (by kernel_rfl) (by kernel_rfl) (by kernel_rfl) ?_; conv => whnf)
    | (apply And.intro; (focus (first | omega | rfl | decide | exact Nat.le_of_ble_eq_true rfl | ((repeat' (first | exact all_nil | refine all_cons ?_ ?_ | rfl | fail)); done) | (simp [-List.length_flatMap]; done) | (simp [-List.length_flatMap]; omega) | fail)); conv => whnf)
    | fail)
  · rfl
  · rfl
  rename_i hf
  have hs := few_small hf
  have hm := few_mem hf
  have h3 := hs.1
  repeat' (first
    | (refine ⟨Sub.refl _, ?_⟩)
    | (refine brA_split (fun h => ?_) (fun h => ?_) <;> (try rw [h]) <;> (try simp only [Bool.false_eq_true, Bool.true_eq_false, ↓reduceIte, decide_eq_true_eq, decide_eq_false_iff_not, Bool.not_eq_true', Bool.not_eq_false'] at h) <;> (conv => whnf))
    | (refine ACalls.pure' ?_ (progCheck_ok hT _ _ hs); rintro _ rfl; conv => whnf)
    | (refine DCall.pure ?_ (progCheck_ok hT _ _ hs); conv => whnf)
    | (refine ACalls.pure' ?_ (refCheck_ok _ _ hs); rintro _ rfl; conv => whnf)
    | (refine DCall.pure ?_ (refCheck_ok _ _ hs); conv => whnf)
    | (refine getB_same ?_; conv => whnf)
    | (refine AWp.any (by kernel_rfl) (by kernel_rfl) (by kernel_rfl) ?_; conv => whnf)
    | (apply And.intro; (focus (first | omega | rfl | decide | exact Nat.le_of_ble_eq_true rfl | ((repeat' (first | exact all_nil | refine all_cons ?_ ?_ | rfl | fail)); done) | (simp [-List.length_flatMap]; done) | (simp [-List.length_flatMap]; omega) | fail)); conv => whnf)
    | fail)
  all_goals try simp at h
  all_goals try trivial
  refine AWp.loopA [9] [40, 41, 42, 43, 46, 47, 48, 49, 50, 51, 52, 53, 54, 55, 56, 4, 44, 45] (fun i : Nat => [.int .i64 i]) (fun i s' => i ≤ l.length ∧ s' = s) (fun i => l.length - i) (0) (by kernel_rfl) (by (repeat' (first | refine cons_eq ?_ ?_ | refine int64_of ?_ ?_ ?_ | rfl | omega))) ?_ ?_
  · exact ⟨by omega, rfl⟩
  · rintro y i s1 ⟨hi, rfl⟩
    conv => whnf
    have hg := fun h : i < l.length => declsA_get h
    have hm := fun h : i < l.length => hm.2 _ (getD_decl h)
    generalize hd : l.getD i noD = d at *
    repeat' (first
      | (refine ⟨Sub.refl _, ?_⟩)
      | (refine brA_split (fun h => ?_) (fun h => ?_) <;> (try rw [h]) <;> (try simp only [Bool.false_eq_true, Bool.true_eq_false, ↓reduceIte, decide_eq_true_eq, decide_eq_false_iff_not, Bool.not_eq_true', Bool.not_eq_false'] at h) <;> (conv => whnf))
      | (rw [show (declsA l).getD ((i : Int)).toNat [] = _ from hg (by omega)]; conv => whnf)
      | (refine ACalls.pure' ?_ (progText_ok _ _ _ (by have := hm (by omega); omega) (by have := hm (by omega); omega)); rintro _ rfl; conv => whnf)
      | (refine DCall.pure ?_ (progText_ok _ _ _ (by have := hm (by omega); omega) (by have := hm (by omega); omega)); conv => whnf)
      | (refine ACalls.pure' ?_ (refText_ok _ _ _ (by have := hm (by omega); omega) (by have := hm (by omega); omega)); rintro _ rfl; conv => whnf)
      | (refine DCall.pure ?_ (refText_ok _ _ _ (by have := hm (by omega); omega) (by have := hm (by omega); omega)); conv => whnf)
      | (refine ACalls.pure' ?_ (find_ok _ _ _ h3); rintro _ rfl; conv => whnf)
      | (refine DCall.pure ?_ (find_ok _ _ _ h3); conv => whnf)
      | (refine ACalls.pure' ?_ (refFind_ok _ _ _ h3); rintro _ rfl; conv => whnf)
      | (refine DCall.pure ?_ (refFind_ok _ _ _ h3); conv => whnf)
      | (refine ACalls.pure' ?_ (awake_ok hT); rintro _ rfl; conv => whnf)
      | (refine DCall.pure ?_ (awake_ok hT); conv => whnf)
      | (refine getB_same ?_; conv => whnf)
      | (refine AWp.any (by kernel_rfl) (by kernel_rfl) (by kernel_rfl) ?_; conv => whnf)
      | (apply And.intro; (focus (first | omega | rfl | decide | exact Nat.le_of_ble_eq_true rfl | ((repeat' (first | exact all_nil | refine all_cons ?_ ?_ | rfl | fail)); done) | (simp [-List.length_flatMap]; done) | (simp [-List.length_flatMap]; omega) | fail)); conv => whnf)
      | fail)
    all_goals try simp only [Int.toNat_natCast] at *
    · exact absurd trivial h
    · exact ⟨i + 1, by (repeat' (first | refine cons_eq ?_ ?_ | refine int64_of ?_ ?_ ?_ | rfl | omega)), by (repeat (first | exact Same.refl _ _ | refine Same.upd rfl ?_ | refine Same.updL rfl ?_ | refine Same.havoc rfl ?_)), ⟨by omega, (by first | rfl | trivial)⟩, by omega⟩
    · simp [tupA]
    · rename_i h0
      exact absurd (by grind [firstOf]) h
    · simp [tupA]
    · rename_i h0
      exact absurd (by grind [firstOf]) h
    · simp at h
end Go.Proofs.YtcngoammgmcbfaaDoor.Sc
