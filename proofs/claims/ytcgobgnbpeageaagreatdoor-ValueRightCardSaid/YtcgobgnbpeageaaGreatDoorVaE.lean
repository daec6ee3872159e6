/- Chapter 3: the example, and the laws of the order, the least, the names and the operators. -/
import Derived.Test.YtcgobgnbpeageaaGreatDoorVaD
import Derived.Test.YtcgobgnbpeageaaGreatDoorQuF
set_option linter.all false
namespace Go.Proofs.YtcgobgnbpeageaaGreatDoor.Va
open Go Go.Ab Go.RowKit
variable {Γ : Nat → AV}
attribute [local irreducible] APure Sto.set Sto.grow
set_option maxRecDepth 10000
set_option maxHeartbeats 1000000

theorem hasPrefix_ok (l p : List UInt8) (hp : p.length ≤ 1048576) : APure Tryz.prog Γ 31 [.str l, .str p] fun v => v = .bool (decide (p.length ≤ l.length) && decide (l.take p.length = p)) := by
  have inner : ∀ Γ : Nat → AV, APure Tryz.prog Γ 50 [.str l, .str p] fun v => v = .bool (decide (p.length ≤ l.length) && decide (l.take p.length = p)) := by
    intro Γ
    refine APure.of_awp Tryz.func50 rfl (Nat.le_of_ble_eq_true (by kernel_rfl)) (by kernel_rfl) ?_
    intro s
    conv => whnf
    repeat' (first
      | (exfalso; omega)
      | (refine ⟨Sub.refl _, ?_⟩)
      | (refine brA_split (fun h => ?_) (fun h => ?_) <;> (try rw [h]) <;> (try simp only [Bool.false_eq_true, Bool.true_eq_false, ↓reduceIte, decide_eq_true_eq, decide_eq_false_iff_not, Bool.not_eq_true', Bool.not_eq_false'] at h) <;> (conv => whnf))
      | (refine getB_same ?_; conv => whnf)
      | (refine AWp.any (by kernel_rfl) (by kernel_rfl) (by kernel_rfl) ?_; conv => whnf)
      | (apply And.intro; (focus (first | omega | rfl | decide | exact Nat.le_of_ble_eq_true rfl | ((repeat' (first | exact all_nil | refine all_cons ?_ ?_ | rfl | fail)); done) | (simp [-List.length_flatMap]; done) | (simp [-List.length_flatMap]; omega) | fail)); conv => whnf)
      | fail)
    · refine bool_eq ?_
      rw [decide_eq_true (p := p.length ≤ l.length) (by omega), Bool.true_and]
      rfl
    · refine bool_eq ?_
      rw [decide_eq_false (p := p.length ≤ l.length) (by omega), Bool.false_and]
  refine APure.of_awp Tryz.func31 rfl (Nat.le_of_ble_eq_true (by kernel_rfl)) (by kernel_rfl) ?_
  intro s
  conv => whnf
  repeat' (first
    | (refine ⟨Sub.refl _, ?_⟩)
    | (refine brA_split (fun h => ?_) (fun h => ?_) <;> (try rw [h]) <;> (try simp only [Bool.false_eq_true, Bool.true_eq_false, ↓reduceIte, decide_eq_true_eq, decide_eq_false_iff_not, Bool.not_eq_true', Bool.not_eq_false'] at h) <;> (conv => whnf))
    | (refine ACalls.pure' ?_ (inner _); rintro _ rfl; conv => whnf)
    | (refine DCall.pure ?_ (inner _); conv => whnf)
    | (refine getB_same ?_; conv => whnf)
    | (refine AWp.any (by kernel_rfl) (by kernel_rfl) (by kernel_rfl) ?_; conv => whnf)
    | (apply And.intro; (focus (first | omega | rfl | decide | exact Nat.le_of_ble_eq_true rfl | ((repeat' (first | exact all_nil | refine all_cons ?_ ?_ | rfl | fail)); done) | (simp [-List.length_flatMap]; done) | (simp [-List.length_flatMap]; omega) | fail)); conv => whnf)
    | fail)
  rfl
theorem few_ok (v : Vl) : APure Tryz.prog Γ 9 [.agg (vlA v)] fun x => x = .bool (decide ((v.2.2.1.length : Int) ≤ 5000)) := by
  refine APure.of_awp Tryz.func9 rfl (Nat.le_of_ble_eq_true (by kernel_rfl)) (by kernel_rfl) ?_
  intro s
  conv => whnf
  intro b hb
  conv => whnf
  repeat' (first
    | (refine ⟨Sub.refl _, ?_⟩)
    | (refine brA_split (fun h => ?_) (fun h => ?_) <;> (try rw [h]) <;> (try simp only [Bool.false_eq_true, Bool.true_eq_false, ↓reduceIte, decide_eq_true_eq, decide_eq_false_iff_not, Bool.not_eq_true', Bool.not_eq_false'] at h) <;> (conv => whnf))
    | (refine getB_same ?_; conv => whnf)
    | (refine AWp.any (by kernel_rfl) (by kernel_rfl) (by kernel_rfl) ?_; conv => whnf)
    | (apply And.intro; (focus (first | omega | rfl | decide | exact Nat.le_of_ble_eq_true rfl | ((repeat' (first | exact all_nil | refine all_cons ?_ ?_ | rfl | fail)); done) | (simp [-List.length_flatMap]; done) | (simp [-List.length_flatMap]; omega) | fail)); conv => whnf)
    | fail)
  exact ⟨(Sub.refl _).set hb _ _, rfl⟩
theorem itoa5 : Lib.itoa 5 = [53] := by kernel_rfl
theorem fits5 : Nu.Fits 5 := by unfold Nu.Fits; omega
theorem text5 (hN : Nu.Tens Γ) : APure Tryz.prog Γ 13 [.agg (vlA (1, 5, [], false))] fun v => v = .str [53] := by
  refine APure.of_awp Tryz.func13 rfl (Nat.le_of_ble_eq_true (by kernel_rfl)) (by kernel_rfl) ?_
  intro s
  conv => whnf
  intro b hb
  conv => whnf
  repeat' (first
    | (refine ⟨Sub.refl _, ?_⟩)
    | (refine brA_split (fun h => ?_) (fun h => ?_) <;> (try rw [h]) <;> (try simp only [Bool.false_eq_true, Bool.true_eq_false, ↓reduceIte, decide_eq_true_eq, decide_eq_false_iff_not, Bool.not_eq_true', Bool.not_eq_false'] at h) <;> (conv => whnf))
    | (refine ACalls.pure' ?_ (right_ok (1, 5, [], false)); rintro _ rfl; conv => whnf)
    | (refine DCall.pure ?_ (right_ok (1, 5, [], false)); conv => whnf)
    | (refine ACalls.pure' ?_ (Nu.text_ok hN 5 fits5); rintro _ rfl; conv => whnf)
    | (refine DCall.pure ?_ (Nu.text_ok hN 5 fits5); conv => whnf)
    | (refine getB_same ?_; conv => whnf)
    | (refine AWp.any (by kernel_rfl) (by kernel_rfl) (by kernel_rfl) ?_; conv => whnf)
    | (apply And.intro; (focus (first | omega | rfl | decide | exact Nat.le_of_ble_eq_true rfl | ((repeat' (first | exact all_nil | refine all_cons ?_ ?_ | rfl | fail)); done) | (simp [-List.length_flatMap]; done) | (simp [-List.length_flatMap]; omega) | fail)); conv => whnf)
    | fail)
  refine ⟨(Sub.refl _).set hb _ _, ?_⟩
  exact congrArg AV.str itoa5
theorem cut5 : Qu.cut [34, 53, 34] = some ([53], [34, 53, 34].length) := by kernel_rfl
theorem parse5 (hT : Qu.Tabs Γ) : APure Tryz.prog Γ 14 [.str [34, 53, 34]] fun v => v = resA ((2, 0, [53], false), 0) := by
  refine APure.of_awp Tryz.func14 rfl (Nat.le_of_ble_eq_true (by kernel_rfl)) (by kernel_rfl) ?_
  intro s
  conv => whnf
  intro b hb
  conv => whnf
  repeat' (first
    | (refine ⟨Sub.refl _, ?_⟩)
    | (refine brA_split (fun h => ?_) (fun h => ?_) <;> (try rw [h]) <;> (try simp only [Bool.false_eq_true, Bool.true_eq_false, ↓reduceIte, decide_eq_true_eq, decide_eq_false_iff_not, Bool.not_eq_true', Bool.not_eq_false'] at h) <;> (conv => whnf))
    | (refine getB_of set_bx_same ?_; conv => whnf)
    | (refine ACalls.pure' ?_ (hasPrefix_ok [34, 53, 34] [34] (by decide)); rintro _ rfl; conv => whnf)
    | (refine DCall.pure ?_ (hasPrefix_ok [34, 53, 34] [34] (by decide)); conv => whnf)
    | (refine ACalls.pure' ?_ (Qu.unquote_whole hT [34, 53, 34] (by decide) cut5); rintro _ rfl; conv => whnf)
    | (refine DCall.pure ?_ (Qu.unquote_whole hT [34, 53, 34] (by decide) cut5); conv => whnf)
    | (refine ACalls.pure' ?_ (text_ok [53]); rintro _ rfl; conv => whnf)
    | (refine DCall.pure ?_ (text_ok [53]); conv => whnf)
    | (refine getB_same ?_; conv => whnf)
    | (refine AWp.any (by kernel_rfl) (by kernel_rfl) (by kernel_rfl) ?_; conv => whnf)
    | (apply And.intro; (focus (first | omega | rfl | decide | exact Nat.le_of_ble_eq_true rfl | ((repeat' (first | exact all_nil | refine all_cons ?_ ?_ | rfl | fail)); done) | (simp [-List.length_flatMap]; done) | (simp [-List.length_flatMap]; omega) | fail)); conv => whnf)
    | fail)
  exact ⟨((Sub.refl _).set hb _ _).set hb _ _, rfl⟩
theorem kindBool : kindOf [98, 111, 111, 108] = 3 := by decide
theorem awake_ok (hT : Qu.Tabs Γ) (hN : Nu.Tens Γ) : APure Tryz.prog Γ 10 [] fun v => v = .bool true := by
  refine APure.of_awp Tryz.func10 rfl (Nat.le_of_ble_eq_true (by kernel_rfl)) (by kernel_rfl) ?_
  intro s
  conv => whnf
  repeat' (first
    | (refine ⟨Sub.refl _, ?_⟩)
    | (refine brA_split (fun h => ?_) (fun h => ?_) <;> (try rw [h]) <;> (try simp only [Bool.false_eq_true, Bool.true_eq_false, ↓reduceIte, decide_eq_true_eq, decide_eq_false_iff_not, Bool.not_eq_true', Bool.not_eq_false'] at h) <;> (conv => whnf))
    | (refine ACalls.pure' ?_ (parse5 hT); rintro _ rfl; conv => whnf)
    | (refine DCall.pure ?_ (parse5 hT); conv => whnf)
    | (refine getB_same ?_; conv => whnf)
    | (refine AWp.any (by kernel_rfl) (by kernel_rfl) (by kernel_rfl) ?_; conv => whnf)
    | (apply And.intro; (focus (first | omega | rfl | decide | exact Nat.le_of_ble_eq_true rfl | ((repeat' (first | exact all_nil | refine all_cons ?_ ?_ | rfl | fail)); done) | (simp [-List.length_flatMap]; done) | (simp [-List.length_flatMap]; omega) | fail)); conv => whnf)
    | fail)
  intro b hb
  conv => whnf
  repeat' (first
    | (refine ⟨Sub.refl _, ?_⟩)
    | (refine brA_split (fun h => ?_) (fun h => ?_) <;> (try rw [h]) <;> (try simp only [Bool.false_eq_true, Bool.true_eq_false, ↓reduceIte, decide_eq_true_eq, decide_eq_false_iff_not, Bool.not_eq_true', Bool.not_eq_false'] at h) <;> (conv => whnf))
    | (refine getB_of set_bx_same ?_; conv => whnf)
    | (refine ACalls.pure' ?_ (int_ok _); rintro _ rfl; conv => whnf)
    | (refine DCall.pure ?_ (int_ok _); conv => whnf)
    | (refine ACalls.pure' ?_ (text5 hN); rintro _ rfl; conv => whnf)
    | (refine DCall.pure ?_ (text5 hN); conv => whnf)
    | (refine ACalls.pure' ?_ (str_ok _); rintro _ rfl; conv => whnf)
    | (refine DCall.pure ?_ (str_ok _); conv => whnf)
    | (refine ACalls.pure' ?_ (kind_ok _); rintro _ rfl; conv => whnf)
    | (refine DCall.pure ?_ (kind_ok _); conv => whnf)
    | (refine EqAgg.of grdVl planVl ?_; conv => whnf)
    | (refine getB_same ?_; conv => whnf)
    | (refine AWp.any (by kernel_rfl) (by kernel_rfl) (by kernel_rfl) ?_; conv => whnf)
    | (apply And.intro; (focus (first | omega | rfl | decide | exact Nat.le_of_ble_eq_true rfl | ((repeat' (first | exact all_nil | refine all_cons ?_ ?_ | rfl | fail)); done) | (simp [-List.length_flatMap]; done) | (simp [-List.length_flatMap]; omega) | fail)); conv => whnf)
    | fail)
  exact ⟨((Sub.refl _).set hb _ _).set hb _ _, rfl⟩

theorem order_law (hT : Qu.Tabs Γ) (hN : Nu.Tens Γ) (a b c : Vl) : APure Tryz.prog Γ 5 [.agg (vlA a), .agg (vlA b), .agg (vlA c)] fun v => v = .bool true := by
  refine APure.of_awp Tryz.func5 rfl (Nat.le_of_ble_eq_true (by kernel_rfl)) (by kernel_rfl) ?_
  intro s
  conv => whnf
  intro c1 h1
  conv => whnf
  intro c2 h2
  conv => whnf
  intro c3 h3
  conv => whnf
  have n12 := ne_of_none set_bx_same h2
  have n23 := ne_of_none set_bx_same h3
  have n13 := ne_of_none ((set_bx_other n12).trans set_bx_same) h3
  repeat' (first
    | (refine ⟨Sub.refl _, ?_⟩)
    | (refine brA_split (fun h => ?_) (fun h => ?_) <;> (try rw [h]) <;> (try simp only [Bool.false_eq_true, Bool.true_eq_false, ↓reduceIte, decide_eq_true_eq, decide_eq_false_iff_not, Bool.not_eq_true', Bool.not_eq_false'] at h) <;> (conv => whnf))
    | (refine getB_of set_bx_same ?_; conv => whnf)
    | (refine getB_of ((set_bx_other n13).trans ((set_bx_other n12).trans set_bx_same)) ?_; conv => whnf)
    | (refine getB_of ((set_bx_other n23).trans set_bx_same) ?_; conv => whnf)
    | (refine ACalls.pure' ?_ (few_ok a); rintro _ rfl; conv => whnf)
    | (refine DCall.pure ?_ (few_ok a); conv => whnf)
    | (refine ACalls.pure' ?_ (few_ok b); rintro _ rfl; conv => whnf)
    | (refine DCall.pure ?_ (few_ok b); conv => whnf)
    | (refine ACalls.pure' ?_ (few_ok c); rintro _ rfl; conv => whnf)
    | (refine DCall.pure ?_ (few_ok c); conv => whnf)
    | (refine ACalls.pure' ?_ (refRight_ok a); rintro _ rfl; conv => whnf)
    | (refine DCall.pure ?_ (refRight_ok a); conv => whnf)
    | (refine ACalls.pure' ?_ (refRight_ok b); rintro _ rfl; conv => whnf)
    | (refine DCall.pure ?_ (refRight_ok b); conv => whnf)
    | (refine ACalls.pure' ?_ (refRight_ok c); rintro _ rfl; conv => whnf)
    | (refine DCall.pure ?_ (refRight_ok c); conv => whnf)
    | (refine ACalls.pure' ?_ (awake_ok hT hN); rintro _ rfl; conv => whnf)
    | (refine DCall.pure ?_ (awake_ok hT hN); conv => whnf)
    | (refine getB_same ?_; conv => whnf)
    | (refine AWp.any (by kernel_rfl) (by kernel_rfl) (by kernel_rfl) ?_; conv => whnf)
    | (apply And.intro; (focus (first | omega | rfl | decide | exact Nat.le_of_ble_eq_true rfl | ((repeat' (first | exact all_nil | refine all_cons ?_ ?_ | rfl | fail)); done) | (simp [-List.length_flatMap]; done) | (simp [-List.length_flatMap]; omega) | fail)); conv => whnf)
    | fail)
  all_goals try exact ⟨(((Sub.refl _).set h1 _ _).set (none_set h2).2 _ _).set (none_set (none_set h3).2).2 _ _, rfl⟩
  have ra : right a = true := by assumption
  have rb : right b = true := by assumption
  have k1 := fun h : less a b = true => less_asymm h
  have k2 := fun (h : less a b = false) (h' : less b a = false) => less_total ra rb h h'
  have k3 := fun (h : less a b = true) (h' : less b c = true) => less_trans h h'
  have k4 : a = b → less a b = false := fun e => by rw [e]; exact less_self b
  repeat' (first
    | (refine ⟨Sub.refl _, ?_⟩)
    | (refine brA_split (fun h => ?_) (fun h => ?_) <;> (try rw [h]) <;> (try simp only [Bool.false_eq_true, Bool.true_eq_false, ↓reduceIte, decide_eq_true_eq, decide_eq_false_iff_not, Bool.not_eq_true', Bool.not_eq_false'] at h) <;> (conv => whnf))
    | (refine getB_of set_bx_same ?_; conv => whnf)
    | (refine getB_of ((set_bx_other n13).trans ((set_bx_other n12).trans set_bx_same)) ?_; conv => whnf)
    | (refine getB_of ((set_bx_other n23).trans set_bx_same) ?_; conv => whnf)
    | (refine ACalls.pure' ?_ (less_ok a b); rintro _ rfl; conv => whnf)
    | (refine DCall.pure ?_ (less_ok a b); conv => whnf)
    | (refine ACalls.pure' ?_ (less_ok b a); rintro _ rfl; conv => whnf)
    | (refine DCall.pure ?_ (less_ok b a); conv => whnf)
    | (refine ACalls.pure' ?_ (less_ok b c); rintro _ rfl; conv => whnf)
    | (refine DCall.pure ?_ (less_ok b c); conv => whnf)
    | (refine ACalls.pure' ?_ (less_ok a c); rintro _ rfl; conv => whnf)
    | (refine DCall.pure ?_ (less_ok a c); conv => whnf)
    | (refine ACalls.pure' ?_ (refLess_ok a b (by omega)); rintro _ rfl; conv => whnf)
    | (refine DCall.pure ?_ (refLess_ok a b (by omega)); conv => whnf)
    | (refine EqAgg.of grdVl planVl ?_; conv => whnf)
    | (refine ACalls.pure' ?_ (awake_ok hT hN); rintro _ rfl; conv => whnf)
    | (refine DCall.pure ?_ (awake_ok hT hN); conv => whnf)
    | (refine getB_same ?_; conv => whnf)
    | (refine AWp.any (by kernel_rfl) (by kernel_rfl) (by kernel_rfl) ?_; conv => whnf)
    | (apply And.intro; (focus (first | omega | rfl | decide | exact Nat.le_of_ble_eq_true rfl | ((repeat' (first | exact all_nil | refine all_cons ?_ ?_ | rfl | fail)); done) | (simp [-List.length_flatMap]; done) | (simp [-List.length_flatMap]; omega) | fail)); conv => whnf)
    | fail)
  all_goals refine ⟨(((Sub.refl _).set h1 _ _).set (none_set h2).2 _ _).set (none_set (none_set h3).2).2 _ _, ?_⟩
  all_goals try simp only [eq_vl] at *
  all_goals first | rfl | (refine bool_eq ?_; grind) | (simp [tupA]; done)

theorem opErr_range {op a b : Int} (h : op = 5 ∨ 8 ≤ op ∧ op ≤ 12) : opErr op a b = 0 ∨ opErr op a b = 6 ∨ opErr op a b = 7 := by
  unfold opErr Nu.err Nu.quoErr Nu.lftErr
  grind [Nu.err]
theorem right_kinds {a : Vl} (h : right a = true) : Kinds a := by
  unfold right at h; unfold Kinds; grind
theorem ops_fact (op : Int) (a b : Vl) (ka : Kinds a) : (((opV op a b).2 = 1 ∨ (opV op a b).2 = 8) → typeOf op a.1 b.1 = 0) ∧
    (¬ ((opV op a b).2 = 1 ∨ (opV op a b).2 = 8) → typeOf op a.1 b.1 = (opV op a b).1.1 ∨ ((opV op a b).2 ≠ 0 ∧ (typeOf op a.1 b.1 = 1 ∨ typeOf op a.1 b.1 = 2))) := by
  by_cases ho : op < 4 ∨ 16 < op
  · have e : opV op a b = (noVl, 1) := by unfold opV; rw [if_pos ho]
    have t0 : typeOf op a.1 b.1 = 0 := by unfold typeOf; grind
    rw [e, t0]
    exact ⟨fun _ => rfl, fun h => absurd (Or.inl rfl) h⟩
  by_cases h0 : typeOf op a.1 b.1 = 0
  · rw [opV_none ho h0, h0]
    exact ⟨fun _ => rfl, fun h => absurd (Or.inr rfl) h⟩
  unfold Kinds at ka
  have hc : op = 4 ∨ op = 6 ∨ op = 7 ∨ op = 13 ∨ op = 14 ∨ op = 15 ∨ op = 16 ∨ (op = 5 ∨ 8 ≤ op ∧ op ≤ 12) := by omega
  have tr : ∀ t : Bool, (truthV t).2 = 0 ∧ (truthV t).1.1 = 3 := fun t => ⟨rfl, rfl⟩
  rcases hc with rfl | rfl | rfl | rfl | rfl | rfl | rfl | hc
  · rw [opV_not h0]; refine ⟨fun h => by simp [truthV] at h, fun _ => .inl ?_⟩; revert h0; unfold typeOf; simp [truthV]
  · rw [opV_and h0]; refine ⟨fun h => by simp [truthV] at h, fun _ => .inl ?_⟩; revert h0; unfold typeOf; simp [truthV]
  · rw [opV_or h0]; refine ⟨fun h => by simp [truthV] at h, fun _ => .inl ?_⟩; revert h0; unfold typeOf; simp [truthV]
  · rw [opV_eq h0]; refine ⟨fun h => by simp [truthV] at h, fun _ => .inl ?_⟩; revert h0; unfold typeOf; simp [truthV]
  · rw [opV_ne h0]; refine ⟨fun h => by simp [truthV] at h, fun _ => .inl ?_⟩; revert h0; unfold typeOf; simp [truthV]
  · rw [opV_lt h0]; refine ⟨fun h => by simp [truthV] at h, fun _ => .inl ?_⟩; revert h0; unfold typeOf; simp [truthV]
  · rw [opV_le h0]; refine ⟨fun h => by simp [truthV] at h, fun _ => .inl ?_⟩; revert h0; unfold typeOf; simp [truthV]
  · by_cases hk : a.1 = 2
    · have h8 : op = 8 := Classical.byContradiction fun h8 => type_two h0 (by omega) h8 hk
      rw [opV_text h8 h0 hk]
      have t2 : typeOf op a.1 b.1 = 2 := by subst h8; revert h0; unfold typeOf; grind
      unfold textV
      split
      · exact ⟨fun h => by simp at h, fun _ => .inl t2⟩
      · exact ⟨fun h => by simp at h, fun _ => .inr ⟨by simp, .inr t2⟩⟩
    · have t1 : typeOf op a.1 b.1 = 1 := by revert h0; unfold typeOf; grind
      have hr := opErr_range (a := a.2.1) (b := b.2.1) hc
      rw [opV_num hc h0 hk]
      unfold numV
      split
      · exact ⟨fun h => by simp at h, fun _ => .inl t1⟩
      · rename_i he
        exact ⟨fun h => by dsimp only at h; omega, fun _ => .inr ⟨he, .inl t1⟩⟩

theorem ops_law (hT : Qu.Tabs Γ) (hN : Nu.Tens Γ) (op : Int) (a b : Vl) (ha : Nu.Fits a.2.1) (hb : Nu.Fits b.2.1) : APure Tryz.prog Γ 8 [.int .i64 op, .agg (vlA a), .agg (vlA b)] fun v => v = .bool true := by
  refine APure.of_awp Tryz.func8 rfl (Nat.le_of_ble_eq_true (by kernel_rfl)) (by kernel_rfl) ?_
  intro s
  conv => whnf
  intro c1 h1
  conv => whnf
  intro c2 h2
  conv => whnf
  have n12 := ne_of_none set_bx_same h2
  repeat' (first
    | (refine ⟨Sub.refl _, ?_⟩)
    | (refine brA_split (fun h => ?_) (fun h => ?_) <;> (try rw [h]) <;> (try simp only [Bool.false_eq_true, Bool.true_eq_false, ↓reduceIte, decide_eq_true_eq, decide_eq_false_iff_not, Bool.not_eq_true', Bool.not_eq_false'] at h) <;> (conv => whnf))
    | (refine getB_of set_bx_same ?_; conv => whnf)
    | (refine getB_of ((set_bx_other n12).trans set_bx_same) ?_; conv => whnf)
    | (refine ACalls.pure' ?_ (few_ok a); rintro _ rfl; conv => whnf)
    | (refine DCall.pure ?_ (few_ok a); conv => whnf)
    | (refine ACalls.pure' ?_ (few_ok b); rintro _ rfl; conv => whnf)
    | (refine DCall.pure ?_ (few_ok b); conv => whnf)
    | (refine ACalls.pure' ?_ (refRight_ok a); rintro _ rfl; conv => whnf)
    | (refine DCall.pure ?_ (refRight_ok a); conv => whnf)
    | (refine ACalls.pure' ?_ (refRight_ok b); rintro _ rfl; conv => whnf)
    | (refine DCall.pure ?_ (refRight_ok b); conv => whnf)
    | (refine ACalls.pure' ?_ (awake_ok hT hN); rintro _ rfl; conv => whnf)
    | (refine DCall.pure ?_ (awake_ok hT hN); conv => whnf)
    | (refine getB_same ?_; conv => whnf)
    | (refine AWp.any (by kernel_rfl) (by kernel_rfl) (by kernel_rfl) ?_; conv => whnf)
    | (apply And.intro; (focus (first | omega | rfl | decide | exact Nat.le_of_ble_eq_true rfl | ((repeat' (first | exact all_nil | refine all_cons ?_ ?_ | rfl | fail)); done) | (simp [-List.length_flatMap]; done) | (simp [-List.length_flatMap]; omega) | fail)); conv => whnf)
    | fail)
  all_goals try exact ⟨((Sub.refl _).set h1 _ _).set (none_set h2).2 _ _, rfl⟩
  have ra : right a = true := by assumption
  have rb : right b = true := by assumption
  have ka := right_kinds ra
  have kb := right_kinds rb
  have hf := ops_fact op a b ka
  have o1 := fun Γ => op_ok (Γ := Γ) op a b ha hb (by omega) (by omega) ka
  have o2 := fun Γ => refOp_ok (Γ := Γ) op a b ha hb (by omega) (by omega) ka kb
  generalize opV op a b = r at *
  repeat' (first
    | (refine ⟨Sub.refl _, ?_⟩)
    | (refine brA_split (fun h => ?_) (fun h => ?_) <;> (try rw [h]) <;> (try simp only [Bool.false_eq_true, Bool.true_eq_false, ↓reduceIte, decide_eq_true_eq, decide_eq_false_iff_not, Bool.not_eq_true', Bool.not_eq_false'] at h) <;> (conv => whnf))
    | (refine getB_of set_bx_same ?_; conv => whnf)
    | (refine getB_of ((set_bx_other n12).trans set_bx_same) ?_; conv => whnf)
    | (refine ACalls.pure' ?_ (o1 _); rintro _ rfl; conv => whnf)
    | (refine DCall.pure ?_ (o1 _); conv => whnf)
    | (refine getB_same ?_; conv => whnf)
    | (refine AWp.any (by kernel_rfl) (by kernel_rfl) (by kernel_rfl) ?_; conv => whnf)
    | (apply And.intro; (focus (first | omega | rfl | decide | exact Nat.le_of_ble_eq_true rfl | ((repeat' (first | exact all_nil | refine all_cons ?_ ?_ | rfl | fail)); done) | (simp [-List.length_flatMap]; done) | (simp [-List.length_flatMap]; omega) | fail)); conv => whnf)
    | fail)
  intro c3 h3
  conv => whnf
  have n23 := ne_of_none set_bx_same h3
  have n13 := ne_of_none ((set_bx_other n12).trans set_bx_same) h3
  refine getB_of set_bx_same ?_
  repeat' (first
    | (refine ⟨Sub.refl _, ?_⟩)
    | (refine brA_split (fun h => ?_) (fun h => ?_) <;> (try rw [h]) <;> (try simp only [Bool.false_eq_true, Bool.true_eq_false, ↓reduceIte, decide_eq_true_eq, decide_eq_false_iff_not, Bool.not_eq_true', Bool.not_eq_false'] at h) <;> (conv => whnf))
    | (refine getB_of ((set_bx_other n13).trans ((set_bx_other n13).trans ((set_bx_other n12).trans set_bx_same))) ?_; conv => whnf)
    | (refine getB_of ((set_bx_other n23).trans ((set_bx_other n23).trans set_bx_same)) ?_; conv => whnf)
    | (refine ACalls.pure' ?_ (o2 _); rintro _ rfl; conv => whnf)
    | (refine DCall.pure ?_ (o2 _); conv => whnf)
    | (refine getB_same ?_; conv => whnf)
    | (refine AWp.any (by kernel_rfl) (by kernel_rfl) (by kernel_rfl) ?_; conv => whnf)
    | (apply And.intro; (focus (first | omega | rfl | decide | exact Nat.le_of_ble_eq_true rfl | ((repeat' (first | exact all_nil | refine all_cons ?_ ?_ | rfl | fail)); done) | (simp [-List.length_flatMap]; done) | (simp [-List.length_flatMap]; omega) | fail)); conv => whnf)
    | fail)
  intro c4 h4
  conv => whnf
  have m34 := ne_of_none set_bx_same h4
  have m24 := ne_of_none ((set_bx_other n23).trans ((set_bx_other n23).trans set_bx_same)) h4
  have m14 := ne_of_none ((set_bx_other n13).trans ((set_bx_other n13).trans ((set_bx_other n12).trans set_bx_same))) h4
  refine getB_of set_bx_same ?_
  repeat' (first
    | (refine ⟨Sub.refl _, ?_⟩)
    | (refine brA_split (fun h => ?_) (fun h => ?_) <;> (try rw [h]) <;> (try simp only [Bool.false_eq_true, Bool.true_eq_false, ↓reduceIte, decide_eq_true_eq, decide_eq_false_iff_not, Bool.not_eq_true', Bool.not_eq_false'] at h) <;> (conv => whnf))
    | (refine getB_of set_bx_same ?_; conv => whnf)
    | (refine getB_of ((set_bx_other m34).trans ((set_bx_other m34).trans set_bx_same)) ?_; conv => whnf)
    | (refine getB_of ((set_bx_other m14).trans ((set_bx_other m14).trans ((set_bx_other n13).trans ((set_bx_other n13).trans ((set_bx_other n12).trans set_bx_same))))) ?_; conv => whnf)
    | (refine getB_of ((set_bx_other m24).trans ((set_bx_other m24).trans ((set_bx_other n23).trans ((set_bx_other n23).trans set_bx_same)))) ?_; conv => whnf)
    | (refine ACalls.pure' ?_ (type_ok _ _ _); rintro _ rfl; conv => whnf)
    | (refine DCall.pure ?_ (type_ok _ _ _); conv => whnf)
    | (refine EqAgg.of grdVl planVl ?_; conv => whnf)
    | (refine ACalls.pure' ?_ (awake_ok hT hN); rintro _ rfl; conv => whnf)
    | (refine DCall.pure ?_ (awake_ok hT hN); conv => whnf)
    | (refine getB_same ?_; conv => whnf)
    | (refine AWp.any (by kernel_rfl) (by kernel_rfl) (by kernel_rfl) ?_; conv => whnf)
    | (apply And.intro; (focus (first | omega | rfl | decide | exact Nat.le_of_ble_eq_true rfl | ((repeat' (first | exact all_nil | refine all_cons ?_ ?_ | rfl | fail)); done) | (simp [-List.length_flatMap]; done) | (simp [-List.length_flatMap]; omega) | fail)); conv => whnf)
    | fail)
  all_goals have g3 := (none_set (none_set h3).2).2
  all_goals have g4 := (none_set (none_set (none_set (none_set h4).2).2).2).2
  all_goals try refine ⟨((((((Sub.refl _).set h1 _ _).set (none_set h2).2 _ _).set g3 _ _).set g3 _ _).set g4 _ _).set g4 _ _, ?_⟩
  all_goals try simp only [eq_vl] at *
  all_goals first | rfl | (refine bool_eq ?_; grind) | (simp [tupA]; done)
end Go.Proofs.YtcgobgnbpeageaaGreatDoor.Va
