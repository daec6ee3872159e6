
/- Chapter 6: rows of fields: one row, by the program. -/
import Derived.Test.YthgpipfkcbekiaaDoorCvA
set_option linter.all false
namespace Go.Proofs.YthgpipfkcbekiaaDoor.Cv
open Go Go.Ab Go.RowKit
variable {Γ : Nat → AV}
attribute [local irreducible] APure Sto.set Sto.grow
set_option maxRecDepth 10000
set_option maxHeartbeats 1000000

theorem field_quote (r : List UInt8) : fieldF (34 :: r) = (qtF r).map fun x => (x.1, x.2 + 1) := rfl
theorem field_else {l : List UInt8} (h : ∀ r, l ≠ 34 :: r) : fieldF l = if l.drop (bareN l) ≠ [] ∧ byteAt l (bareN l) = 34 then none else some (l.take (bareN l), bareN l) := by
  unfold fieldF
  split
  · exact absurd rfl (h _)
  · rfl
/-- Begins a text with a quote? -/
def startsQ (l : List UInt8) : Bool := decide ([34].length ≤ l.length) && decide (l.take [34].length = [34])
theorem startsQ_iff {l : List UInt8} : startsQ l = true ↔ ∃ r, l = 34 :: r := by
  unfold startsQ
  constructor
  · intro h
    simp only [Bool.and_eq_true, decide_eq_true_eq] at h
    match l, h with
    | c :: r, h => exact ⟨r, by simpa using h.2⟩
  · rintro ⟨r, rfl⟩
    simp
theorem field_bound {l f : List UInt8} {n : Nat} (h : fieldF l = some (f, n)) : f.length ≤ n ∧ n ≤ l.length := by
  by_cases hq : ∃ r, l = 34 :: r
  · obtain ⟨r, rfl⟩ := hq
    rw [field_quote] at h
    obtain ⟨⟨a, b⟩, hy, he⟩ := Option.map_eq_some_iff.1 h
    have := qt_bound _ r (Nat.le_refl _) _ hy
    simp only [Prod.mk.injEq] at he
    simp only at this
    simp only [List.length_cons]
    obtain ⟨rfl, rfl⟩ := he
    omega
  · rw [field_else (fun r hr => hq ⟨r, hr⟩)] at h
    split at h
    · cases h
    · simp only [Option.some.injEq, Prod.mk.injEq] at h
      obtain ⟨rfl, rfl⟩ := h
      have := bareN_le l
      simp only [List.length_take]
      omega
theorem bareN_at {l : List UInt8} {i : Nat} (h : i < l.length) (hb : bareB (byteAt l i) = true) : bareN (l.drop i) = bareN (l.drop (i + 1)) + 1 := by
  rw [drop_byte h, bareN, if_pos hb]
theorem bareN_stop {l : List UInt8} {i : Nat} (h : i < l.length) (hb : bareB (byteAt l i) = false) : bareN (l.drop i) = 0 := by
  rw [drop_byte h, bareN, if_neg (by rw [hb]; decide)]
theorem not_startsQ {l : List UInt8} (h : startsQ l = false) : ∀ r, l ≠ 34 :: r := fun r hr => by
  have := startsQ_iff.2 ⟨r, hr⟩
  rw [this] at h
  cases h
theorem fieldA_split (x : Option (List UInt8 × Nat)) : (∃ f n, x = some (f, n) ∧ fieldA x = .tuple [.str f, .int .i64 n, .nilIface]) ∨ (x = none ∧ fieldA x = .tuple [.str [], .int .i64 0, errA 17]) := by
  rcases x with _ | ⟨f, n⟩
  · exact .inr ⟨rfl, rfl⟩
  · exact .inl ⟨f, n, rfl, rfl⟩
theorem progField_ok (l : List UInt8) (hl : l.length ≤ 4194304) : APure Tryd.prog Γ 31 [.str l] fun v => v = fieldA (fieldF l) := by
  by_cases hs : startsQ l = true
  · obtain ⟨r, rfl⟩ := startsQ_iff.1 hs
    have hq := progQuoted_ok (Γ := Γ) (34 :: r) (by simp) hl
    rw [field_quote]
    simp only [List.drop_succ_cons, List.drop_zero] at hq
    generalize (qtF r).map (fun x => (x.1, x.2 + 1)) = y at hq ⊢
    refine APure.of_awp Tryd.func31 rfl (Nat.le_of_ble_eq_true (by kernel_rfl)) (by kernel_rfl) ?_
    intro s
    conv => whnf
    rcases fieldA_split y with ⟨f, n, rfl, he⟩ | ⟨rfl, he⟩
    · rw [he] at hq
      repeat' (first
        | (refine ⟨Sub.refl _, ?_⟩)
        | (refine brA_split (fun h => ?_) (fun h => ?_) <;> (try rw [h]) <;> (try simp only [Bool.false_eq_true, Bool.true_eq_false, ↓reduceIte, decide_eq_true_eq, decide_eq_false_iff_not, Bool.not_eq_true', Bool.not_eq_false'] at h) <;> (conv => whnf))
        | (refine ACalls.pure' ?_ (hasPrefix_ok (34 :: r) [34] (by simp)); rintro _ rfl; conv => whnf)
        | (refine DCall.pure ?_ (hasPrefix_ok (34 :: r) [34] (by simp)); conv => whnf)
        | (refine ACalls.pure' ?_ (hq); rintro _ rfl; conv => whnf)
        | (refine DCall.pure ?_ (hq); conv => whnf)
        | (refine getB_same ?_; conv => whnf)
        | (refine AWp.any (by kernel_rfl) (by kernel_rfl) (by kernel_rfl) ?_; conv => whnf)
        | (apply And.intro; (focus (first | omega | rfl | decide | exact Nat.le_of_ble_eq_true rfl | ((repeat' (first | exact all_nil | refine all_cons ?_ ?_ | rfl | fail)); done) | (simp [-List.length_flatMap]; done) | (simp [-List.length_flatMap]; omega) | fail)); conv => whnf)
        | fail)
      rfl
    · rw [he] at hq
      repeat' (first
        | (refine ⟨Sub.refl _, ?_⟩)
        | (refine brA_split (fun h => ?_) (fun h => ?_) <;> (try rw [h]) <;> (try simp only [Bool.false_eq_true, Bool.true_eq_false, ↓reduceIte, decide_eq_true_eq, decide_eq_false_iff_not, Bool.not_eq_true', Bool.not_eq_false'] at h) <;> (conv => whnf))
        | (refine ACalls.pure' ?_ (hasPrefix_ok (34 :: r) [34] (by simp)); rintro _ rfl; conv => whnf)
        | (refine DCall.pure ?_ (hasPrefix_ok (34 :: r) [34] (by simp)); conv => whnf)
        | (refine ACalls.pure' ?_ (hq); rintro _ rfl; conv => whnf)
        | (refine DCall.pure ?_ (hq); conv => whnf)
        | (refine getB_same ?_; conv => whnf)
        | (refine AWp.any (by kernel_rfl) (by kernel_rfl) (by kernel_rfl) ?_; conv => whnf)
        | (apply And.intro; (focus (first | omega | rfl | decide | exact Nat.le_of_ble_eq_true rfl | ((repeat' (first | exact all_nil | refine all_cons ?_ ?_ | rfl | fail)); done) | (simp [-List.length_flatMap]; done) | (simp [-List.length_flatMap]; omega) | fail)); conv => whnf)
        | fail)
      rfl
  · have hs' : startsQ l = false := by simpa using hs
    have hq := not_startsQ hs'
    refine APure.of_awp Tryd.func31 rfl (Nat.le_of_ble_eq_true (by kernel_rfl)) (by kernel_rfl) ?_
    intro s
    conv => whnf
    repeat' (first
      | (refine ⟨Sub.refl _, ?_⟩)
      | (refine brA_split (fun h => ?_) (fun h => ?_) <;> (try rw [h]) <;> (try simp only [Bool.false_eq_true, Bool.true_eq_false, ↓reduceIte, decide_eq_true_eq, decide_eq_false_iff_not, Bool.not_eq_true', Bool.not_eq_false'] at h) <;> (conv => whnf))
      | (refine ACalls.pure' ?_ (hasPrefix_ok l [34] (by simp)); rintro _ rfl; conv => whnf)
      | (refine DCall.pure ?_ (hasPrefix_ok l [34] (by simp)); conv => whnf)
      | (refine getB_same ?_; conv => whnf)
      | (refine AWp.any (by kernel_rfl) (by kernel_rfl) (by kernel_rfl) ?_; conv => whnf)
      | (apply And.intro; (focus (first | omega | rfl | decide | exact Nat.le_of_ble_eq_true rfl | ((repeat' (first | exact all_nil | refine all_cons ?_ ?_ | rfl | fail)); done) | (simp [-List.length_flatMap]; done) | (simp [-List.length_flatMap]; omega) | fail)); conv => whnf)
      | fail)
    · exact absurd h hs
    · refine AWp.loopA [5] [13, 14, 15, 16, 17, 18, 19, 20, 21, 22, 23, 24] (fun i : Nat => [.int .i64 i]) (fun i s' => i ≤ l.length ∧ s' = s ∧ bareN l = i + bareN (l.drop i)) (fun i => l.length - i) (0) (by kernel_rfl) (by (repeat' (first | refine cons_eq ?_ ?_ | refine int64_of ?_ ?_ ?_ | rfl | omega))) ?_ ?_
      · exact ⟨by omega, rfl, by simp⟩
      · rintro x i _ ⟨h1, rfl, h2⟩
        show awp _ _ _ _ _ (updL _ _ [.int .i64 (i : Int)]) _
        conv => whnf
        have hb := b34 (b := byteAt l i)
        by_cases hlt : i < l.length
        · repeat' (first
            | (exfalso; first | omega | exact (by assumption : ¬ True) trivial | fail)
            | (refine ⟨Sub.refl _, ?_⟩)
            | (refine brA_split (fun h => ?_) (fun h => ?_) <;> (try rw [h]) <;> (try simp only [Bool.false_eq_true, Bool.true_eq_false, ↓reduceIte, decide_eq_true_eq, decide_eq_false_iff_not, Bool.not_eq_true', Bool.not_eq_false'] at h) <;> (conv => whnf))
            | (refine ACalls.pure' ?_ (progBare_ok _); rintro _ rfl; conv => whnf)
            | (refine DCall.pure ?_ (progBare_ok _); conv => whnf)
            | (refine getB_same ?_; conv => whnf)
            | (refine AWp.any (by kernel_rfl) (by kernel_rfl) (by kernel_rfl) ?_; conv => whnf)
            | (apply And.intro; (focus (first | omega | rfl | decide | exact Nat.le_of_ble_eq_true rfl | ((repeat' (first | exact all_nil | refine all_cons ?_ ?_ | rfl | fail)); done) | (simp [-List.length_flatMap]; done) | (simp [-List.length_flatMap]; omega) | fail)); conv => whnf)
            | fail)
          all_goals (try simp only [Int.toNat_natCast] at *)
          · refine ⟨i + 1, by (repeat' (first | refine cons_eq ?_ ?_ | refine int64_of ?_ ?_ ?_ | rfl | omega)), by (repeat (first | exact Same.refl _ _ | refine Same.upd rfl ?_ | refine Same.updL rfl ?_ | refine Same.havoc rfl ?_)), ⟨by omega, by first | rfl | trivial, ?_⟩, by omega⟩
            rw [h2, bareN_at hlt h]
            omega
          · rw [bareN_stop hlt (by assumption)] at h2
            rw [field_else hq, h2, Nat.add_zero, if_pos ⟨by rw [drop_byte hlt]; simp, hb.1 h⟩]
            rfl
          · rw [bareN_stop hlt (by assumption)] at h2
            rw [field_else hq, h2, Nat.add_zero, if_neg (fun hh => h (hb.2 hh.2))]
            rfl
        · repeat' (first
            | (exfalso; first | omega | exact (by assumption : ¬ True) trivial | fail)
            | (refine ⟨Sub.refl _, ?_⟩)
            | (refine brA_split (fun h => ?_) (fun h => ?_) <;> (try rw [h]) <;> (try simp only [Bool.false_eq_true, Bool.true_eq_false, ↓reduceIte, decide_eq_true_eq, decide_eq_false_iff_not, Bool.not_eq_true', Bool.not_eq_false'] at h) <;> (conv => whnf))
            | (refine getB_same ?_; conv => whnf)
            | (refine AWp.any (by kernel_rfl) (by kernel_rfl) (by kernel_rfl) ?_; conv => whnf)
            | (apply And.intro; (focus (first | omega | rfl | decide | exact Nat.le_of_ble_eq_true rfl | ((repeat' (first | exact all_nil | refine all_cons ?_ ?_ | rfl | fail)); done) | (simp [-List.length_flatMap]; done) | (simp [-List.length_flatMap]; omega) | fail)); conv => whnf)
            | fail)
          rw [drop_end hlt] at h2
          rw [field_else hq, h2, if_neg (by rw [show bareN [] = 0 from rfl, Nat.add_zero, drop_end hlt]; simp)]
          rfl
/-- What is wrong behind a field: an error's number, or 0. -/
def chkF (f rest : List UInt8) (q : Bool) : Int :=
  if (4096 : Int) < f.length then 3
  else if rest = [] ∨ ((byteAt rest 0).toNat : Int) = 44 ∨ (decide ([13, 10].length ≤ rest.length) && decide (rest.take [13, 10].length = [13, 10])) = true then 0
  else if q = true then 17 else 15
def errV (n : Int) : AV := if n = 0 then .nilIface else errA n
theorem errV0 : errV 0 = .nilIface := rfl
theorem progCheck_ok (f rest : List UInt8) (q : Bool) : APure Tryd.prog Γ 32 [.str f, .str rest, .bool q] fun v => v = errV (chkF f rest q) := by
  cases rest with
  | nil =>
    refine APure.of_awp Tryd.func32 rfl (Nat.le_of_ble_eq_true (by kernel_rfl)) (by kernel_rfl) ?_
    intro s
    conv => whnf
    repeat' (first
      | (refine ⟨Sub.refl _, ?_⟩)
      | (refine brA_split (fun h => ?_) (fun h => ?_) <;> (try rw [h]) <;> (try simp only [Bool.false_eq_true, Bool.true_eq_false, ↓reduceIte, decide_eq_true_eq, decide_eq_false_iff_not, Bool.not_eq_true', Bool.not_eq_false'] at h) <;> (conv => whnf))
      | (refine ACalls.pure' ?_ (hasPrefix_ok [] [13, 10] (by simp)); rintro _ rfl; conv => whnf)
      | (refine DCall.pure ?_ (hasPrefix_ok [] [13, 10] (by simp)); conv => whnf)
      | (refine getB_same ?_; conv => whnf)
      | (refine AWp.any (by kernel_rfl) (by kernel_rfl) (by kernel_rfl) ?_; conv => whnf)
      | (apply And.intro; (focus (first | omega | rfl | decide | exact Nat.le_of_ble_eq_true rfl | ((repeat' (first | exact all_nil | refine all_cons ?_ ?_ | rfl | fail)); done) | (simp [-List.length_flatMap]; done) | (simp [-List.length_flatMap]; omega) | fail)); conv => whnf)
      | fail)
    all_goals (unfold chkF)
    all_goals simp_all [tupA, errV, errA]
  | cons c r =>
    refine APure.of_awp Tryd.func32 rfl (Nat.le_of_ble_eq_true (by kernel_rfl)) (by kernel_rfl) ?_
    intro s
    conv => whnf
    repeat' (first
      | (refine ⟨Sub.refl _, ?_⟩)
      | (refine brA_split (fun h => ?_) (fun h => ?_) <;> (try rw [h]) <;> (try simp only [Bool.false_eq_true, Bool.true_eq_false, ↓reduceIte, decide_eq_true_eq, decide_eq_false_iff_not, Bool.not_eq_true', Bool.not_eq_false'] at h) <;> (conv => whnf))
      | (refine ACalls.pure' ?_ (hasPrefix_ok (c :: r) [13, 10] (by simp)); rintro _ rfl; conv => whnf)
      | (refine DCall.pure ?_ (hasPrefix_ok (c :: r) [13, 10] (by simp)); conv => whnf)
      | (refine getB_same ?_; conv => whnf)
      | (refine AWp.any (by kernel_rfl) (by kernel_rfl) (by kernel_rfl) ?_; conv => whnf)
      | (apply And.intro; (focus (first | omega | rfl | decide | exact Nat.le_of_ble_eq_true rfl | ((repeat' (first | exact all_nil | refine all_cons ?_ ?_ | rfl | fail)); done) | (simp [-List.length_flatMap]; done) | (simp [-List.length_flatMap]; omega) | fail)); conv => whnf)
      | fail)
    all_goals (unfold chkF)
    all_goals simp_all [tupA, errV, errA]
    all_goals (have e1 : ¬ (4096 : Int) < f.length := by omega)
    all_goals (have e2 : ¬ (1 ≤ r.length ∧ c = 13 ∧ List.take 1 r = [10]) := fun hh => (by assumption : 1 ≤ r.length → c = 13 → ¬ List.take 1 r = [10]) hh.1 hh.2.1 hh.2.2)
    all_goals simp [e1, e2]
theorem chkF_bound (f rest : List UInt8) (q : Bool) : chkF f rest q = 0 ∨ chkF f rest q = 3 ∨ chkF f rest q = 15 ∨ chkF f rest q = 17 := by
  unfold chkF
  split
  · simp
  · split
    · simp
    · split <;> simp
/-- The row that a text begins with, and of how many bytes it is; or an error's number, and in which field. -/
def rowF : Nat → List UInt8 → Except (Int × Int) (List (List UInt8) × Nat)
  | 0, _ => .error (0, 0)
  | k + 1, l => match fieldF l with
    | none => .error (17, 1)
    | some (f, n) =>
      if chkF f (l.drop n) (startsQ l) ≠ 0 then .error (chkF f (l.drop n) (startsQ l), 1)
      else if n = l.length then .ok ([f], n)
      else if byteAt l n ≠ 44 then .ok ([f], n + 2)
      else match rowF k (l.drop (n + 1)) with
        | .error (e, c) => .error (e, c + 1)
        | .ok (m, z) => .ok (f :: m, n + 1 + z)
/-- A row behind fields that were read. -/
def addR (o : List (List UInt8)) (a : Nat) : Except (Int × Int) (List (List UInt8) × Nat) → Except (Int × Int) (List (List UInt8) × Nat)
  | .error (e, c) => .error (e, c + o.length)
  | .ok (m, z) => .ok (o ++ m, a + z)
theorem addR_add (o p : List (List UInt8)) (a b : Nat) (x : Except (Int × Int) (List (List UInt8) × Nat)) : addR o a (addR p b x) = addR (o ++ p) (a + b) x := by
  rcases x with ⟨e, c⟩ | ⟨m, z⟩
  · simp only [addR, List.length_append]
    congr 2
    omega
  · simp only [addR, List.append_assoc]
    congr 2
    omega
theorem addR_nil (x : Except (Int × Int) (List (List UInt8) × Nat)) : addR [] 0 x = x := by
  rcases x with ⟨e, c⟩ | ⟨m, z⟩
  · simp [addR]
  · simp [addR]
theorem rowF_none {k : Nat} {l : List UInt8} (h : fieldF l = none) : rowF (k + 1) l = .error (17, 1) := by rw [rowF, h]
theorem rowF_bad {k : Nat} {l f : List UInt8} {n : Nat} (h : fieldF l = some (f, n)) (hc : chkF f (l.drop n) (startsQ l) ≠ 0) : rowF (k + 1) l = .error (chkF f (l.drop n) (startsQ l), 1) := by rw [rowF, h]; simp only; rw [if_pos hc]
theorem rowF_end {k : Nat} {l f : List UInt8} {n : Nat} (h : fieldF l = some (f, n)) (hc : chkF f (l.drop n) (startsQ l) = 0) (hn : n = l.length) : rowF (k + 1) l = .ok ([f], n) := by
  rw [rowF, h]; simp only; rw [if_neg (by rw [hc]; simp), if_pos hn]
theorem rowF_line {k : Nat} {l f : List UInt8} {n : Nat} (h : fieldF l = some (f, n)) (hc : chkF f (l.drop n) (startsQ l) = 0) (hn : n ≠ l.length) (hb : byteAt l n ≠ 44) : rowF (k + 1) l = .ok ([f], n + 2) := by
  rw [rowF, h]; simp only; rw [if_neg (by rw [hc]; simp), if_neg hn, if_pos hb]
theorem rowF_more {k : Nat} {l f : List UInt8} {n : Nat} (h : fieldF l = some (f, n)) (hc : chkF f (l.drop n) (startsQ l) = 0) (hn : n ≠ l.length) (hb : byteAt l n = 44) : rowF (k + 1) l = addR [f] (n + 1) (rowF k (l.drop (n + 1))) := by
  rw [rowF, h]; simp only; rw [if_neg (by rw [hc]; simp), if_neg hn, if_neg (by rw [hb]; simp)]
  rcases rowF k (l.drop (n + 1)) with ⟨e, c⟩ | ⟨m, z⟩ <;> rfl
/-- It does not matter how long it may go on. -/
theorem rowF_fuel : ∀ (k j : Nat) (l : List UInt8), l.length < k → l.length < j → rowF k l = rowF j l
  | 0, _, l => fun h => by omega
  | _, 0, l => fun _ h => by omega
  | k + 1, j + 1, l => fun h h' => by
    cases hf : fieldF l with
    | none => rw [rowF_none hf, rowF_none hf]
    | some x =>
      obtain ⟨f, n⟩ := x
      by_cases hc : chkF f (l.drop n) (startsQ l) = 0
      · by_cases hn : n = l.length
        · rw [rowF_end hf hc hn, rowF_end hf hc hn]
        · by_cases hb : byteAt l n = 44
          · have := (field_bound hf).2
            rw [rowF_more hf hc hn hb, rowF_more hf hc hn hb, rowF_fuel k j (l.drop (n + 1)) (by rw [List.length_drop]; omega) (by rw [List.length_drop]; omega)]
          · rw [rowF_line hf hc hn hb, rowF_line hf hc hn hb]
      · rw [rowF_bad hf hc, rowF_bad hf hc]
/-- The row that a text begins with. -/
def row (l : List UInt8) : Except (Int × Int) (List (List UInt8) × Nat) := rowF (l.length + 1) l
def rowA : Except (Int × Int) (List (List UInt8) × Nat) → AV
  | .error (e, c) => .tuple [.slice 0 [], .int .i64 0, .iface 62 (.cptr [.int .i64 c, errA e])]
  | .ok (m, z) => .tuple [.slice 0 (strsA m), .int .i64 z, .nilIface]
theorem fgE_strs (l : List (List UInt8)) : fgE (strsA l) = strsA l := fgE_map (A := fun s => [AV.str s]) (fun _ => rfl) l
theorem progFields_ok (l : List UInt8) (hl : l.length ≤ 4194304) : APure Tryd.prog Γ 23 [.str l] fun v => v = rowA (row l) := by
  refine APure.frz fun s => ?_
  refine ACalls.of_awp Tryd.func23 rfl (Nat.le_of_ble_eq_true (by kernel_rfl)) (awp_ok _ (by kernel_rfl) ?_)
  conv => whnf
  repeat' (first
    | (refine ⟨Sub.refl _, ?_⟩)
    | (refine brA_split (fun h => ?_) (fun h => ?_) <;> (try rw [h]) <;> (try simp only [Bool.false_eq_true, Bool.true_eq_false, ↓reduceIte, decide_eq_true_eq, decide_eq_false_iff_not, Bool.not_eq_true', Bool.not_eq_false'] at h) <;> (conv => whnf))
    | (refine getB_same ?_; conv => whnf)
    | (refine AWp.any (by kernel_rfl) (by kernel_rfl) (by kernel_rfl) ?_; conv => whnf)
    | (apply And.intro; (focus (first | omega | rfl | decide | exact Nat.le_of_ble_eq_true rfl | ((repeat' (first | exact all_nil | refine all_cons ?_ ?_ | rfl | fail)); done) | (simp [-List.length_flatMap]; done) | (simp [-List.length_flatMap]; omega) | fail)); conv => whnf)
    | fail)
  refine AWp.loopA [5, 6] [11, 12, 13, 14, 10, 15, 16, 17, 7, 8, 9, 18, 19, 20, 21, 22, 23, 24, 25, 26, 27, 28, 29, 30, 31, 32, 33, 34, 35, 36, 37, 38, 39, 2, 3, 4, 40, 41, 42, 43, 44, 45, 46, 47, 48, 49, 50, 51, 52, 53, 54, 55, 56, 57, 58, 59, 60, 61] (fun x : List (List UInt8) × Nat × Nat => [.slice x.2.2 (strsA x.1), .int .i64 x.2.1]) (fun x s' => (x.2.1 ≤ l.length ∧ x.1.length ≤ x.2.1) ∧ Own s s' x.1.isEmpty x.2.2 9 1 ∧ row l = addR x.1 x.2.1 (row (l.drop x.2.1))) (fun x => l.length - x.2.1) (([], 0, 1)) (by kernel_rfl) (by (repeat' (first | refine cons_eq ?_ ?_ | refine int64_of ?_ ?_ ?_ | rfl | omega))) ?_ ?_
  · exact ⟨⟨by simp, by simp⟩, Own.nil _ _ _, by rw [List.drop_zero, addR_nil]⟩
  · rintro x ⟨o, i, t⟩ s' ⟨⟨h1, h2⟩, h3, h4⟩
    simp only at h1 h2 h3 h4
    show awp _ _ _ _ _ (updL _ _ [.slice t (strsA o), .int .i64 (i : Int)]) _
    conv => whnf
    have hfi := progField_ok (Γ := Γ) (l.drop i) (by rw [List.length_drop]; omega)
    have hst := strsA_len o
    have hA : List.drop ((i : Int)).toNat (List.take l.length l) = l.drop i := by rw [Int.toNat_natCast, drop_take_all]
    rcases hff : fieldF (l.drop i) with _ | ⟨f, n⟩
    · rw [hff] at hfi
      repeat' (first
        | (exfalso; first | omega | exact (by assumption : ¬ True) trivial | fail)
        | (refine ⟨Sub.refl _, ?_⟩)
        | (refine brA_split (fun h => ?_) (fun h => ?_) <;> (try rw [h]) <;> (try simp only [Bool.false_eq_true, Bool.true_eq_false, ↓reduceIte, decide_eq_true_eq, decide_eq_false_iff_not, Bool.not_eq_true', Bool.not_eq_false'] at h) <;> (conv => whnf))
        | (rw [hA]; conv => whnf)
        | (refine ACalls.pure' ?_ (hfi); rintro _ rfl; conv => whnf)
        | (refine DCall.pure ?_ (hfi); conv => whnf)
        | (refine getB_same ?_; conv => whnf)
        | (refine AWp.any (by kernel_rfl) (by kernel_rfl) (by kernel_rfl) ?_; conv => whnf)
        | (apply And.intro; (focus (first | omega | rfl | decide | exact Nat.le_of_ble_eq_true rfl | ((repeat' (first | exact all_nil | refine all_cons ?_ ?_ | rfl | fail)); done) | (simp [-List.length_flatMap]; done) | (simp [-List.length_flatMap]; omega) | fail)); conv => whnf)
        | fail)
      intro b hb
      conv => whnf
      repeat' (first
        | (refine ⟨Sub.refl _, ?_⟩)
        | (refine brA_split (fun h => ?_) (fun h => ?_) <;> (try rw [h]) <;> (try simp only [Bool.false_eq_true, Bool.true_eq_false, ↓reduceIte, decide_eq_true_eq, decide_eq_false_iff_not, Bool.not_eq_true', Bool.not_eq_false'] at h) <;> (conv => whnf))
        | (refine getB_same ?_; conv => whnf)
        | (refine AWp.any (by kernel_rfl) (by kernel_rfl) (by kernel_rfl) ?_; conv => whnf)
        | (apply And.intro; (focus (first | omega | rfl | decide | exact Nat.le_of_ble_eq_true rfl | ((repeat' (first | exact all_nil | refine all_cons ?_ ?_ | rfl | fail)); done) | (simp [-List.length_flatMap]; done) | (simp [-List.length_flatMap]; omega) | fail)); conv => whnf)
        | fail)
      refine ⟨_, Sub.refl _, fz1 b 2 [.int .i64 ((o.length : Int) + 1), errA 17], fz1_of (T := 67) (h3.sub.none hb) ?_, ?_, h3.sub.set (h3.sub.none hb) _ _⟩
      · refine set_bx_same.trans (congrArg (fun z => some (67, [z, errA 17])) ?_)
        exact int64_of (by omega) (by omega) (by omega)
      · show fg (fz _ (.tuple [.slice 1 [], .int .i64 0, .iface _ (.ptr (some ⟨b, 0, none⟩))])) = _
        rw [h4, row, rowF_none hff]
        simp only [fz, fzL, fzE, fzP, fz1_at, fg, fgL, fgE, List.drop_zero, addR, rowA, errA]
        rw [show (1 : Int) + o.length = o.length + 1 by omega]
    · rw [hff] at hfi
      have hfb := field_bound hff
      rw [List.length_drop] at hfb
      have hch := progCheck_ok (Γ := Γ) f ((l.drop i).drop n) (startsQ (l.drop i))
      have hpr := hasPrefix_ok (Γ := Γ) (l.drop i) [34] (by simp)
      have hw : IntKind.i64.wrap ((i : Int) + n) = ((i + n : Nat) : Int) := i64_of (by omega) (by omega) (by omega)
      have hB : List.drop (((i + n : Nat) : Int)).toNat (List.take l.length l) = (l.drop i).drop n := by rw [Int.toNat_natCast, drop_take_all, List.drop_drop]
      by_cases hc : chkF f ((l.drop i).drop n) (startsQ (l.drop i)) = 0
      · rw [hc, errV0] at hch
        have hb := b44 (b := byteAt l (i + n))
        have hbd := byteAt_drop l i n
        have hw1 : IntKind.i64.wrap (((i + n : Nat) : Int) + 1) = ((i + n + 1 : Nat) : Int) := i64_of (by omega) (by omega) (by omega)
        have hw2 : IntKind.i64.wrap (((i + n : Nat) : Int) + 2) = ((i + n + 2 : Nat) : Int) := i64_of (by omega) (by omega) (by omega)
        repeat' (first
          | (exfalso; first | omega | exact (by assumption : ¬ True) trivial | fail)
          | (refine ⟨Sub.refl _, ?_⟩)
          | (refine brA_split (fun h => ?_) (fun h => ?_) <;> (try rw [h]) <;> (try simp only [Bool.false_eq_true, Bool.true_eq_false, ↓reduceIte, decide_eq_true_eq, decide_eq_false_iff_not, Bool.not_eq_true', Bool.not_eq_false'] at h) <;> (conv => whnf))
          | (rw [hA]; conv => whnf)
          | (rw [hB]; conv => whnf)
          | (refine ACalls.pure' ?_ (hfi); rintro _ rfl; conv => whnf)
          | (refine DCall.pure ?_ (hfi); conv => whnf)
          | (rw [hw]; conv => whnf)
          | (refine ACalls.pure' ?_ (hpr); rintro _ rfl; conv => whnf)
          | (refine DCall.pure ?_ (hpr); conv => whnf)
          | (refine ACalls.pure' ?_ (hch); rintro _ rfl; conv => whnf)
          | (refine DCall.pure ?_ (hch); conv => whnf)
          | (refine getB_same ?_; conv => whnf)
          | (refine AWp.any (by kernel_rfl) (by kernel_rfl) (by kernel_rfl) ?_; conv => whnf)
          | (apply And.intro; (focus (first | omega | rfl | decide | exact Nat.le_of_ble_eq_true rfl | ((repeat' (first | exact all_nil | refine all_cons ?_ ?_ | rfl | fail)); done) | (simp [-List.length_flatMap]; done) | (simp [-List.length_flatMap]; omega) | fail)); conv => whnf)
          | fail)
        refine ⟨h3.may, fun c hc => ?_, all_cons ⟨rfl, rfl⟩ all_nil, ?_, ?_⟩
        · obtain ⟨z, _, rfl⟩ := List.mem_map.1 hc; rfl
        · show ((strsA o).length + 1) * (16 + 1) ≤ _
          rw [hst]; omega
        intro t' k1 k2
        have k3 := h3.grow k1 k2
        conv => whnf
        repeat' (first
          | (exfalso; first | omega | exact (by assumption : ¬ True) trivial | fail)
          | (refine ⟨Sub.refl _, ?_⟩)
          | (refine brA_split (fun h => ?_) (fun h => ?_) <;> (try rw [h]) <;> (try simp only [Bool.false_eq_true, Bool.true_eq_false, ↓reduceIte, decide_eq_true_eq, decide_eq_false_iff_not, Bool.not_eq_true', Bool.not_eq_false'] at h) <;> (conv => whnf))
          | (rw [hw]; conv => whnf)
          | (refine getB_same ?_; conv => whnf)
          | (refine AWp.any (by kernel_rfl) (by kernel_rfl) (by kernel_rfl) ?_; conv => whnf)
          | (apply And.intro; (focus (first | omega | rfl | decide | exact Nat.le_of_ble_eq_true rfl | ((repeat' (first | exact all_nil | refine all_cons ?_ ?_ | rfl | fail)); done) | (simp [-List.length_flatMap]; done) | (simp [-List.length_flatMap]; omega) | fail)); conv => whnf)
          | fail)
        · refine ⟨_, Sub.refl _, fz0, fz0_of, ?_, k3.sub⟩
          rw [fz0_id, h4, row, rowF_end hff hc (by rw [List.length_drop]; omega)]
          show fg (.tuple [.slice t' (strsA o ++ [[AV.str f]]), .int .i64 ((i + n : Nat) : Int), .nilIface]) = _
          rw [show strsA o ++ [[AV.str f]] = strsA (o ++ [f]) from by simp [strsA]]
          simp only [fg, fgL, fgE_strs, addR, rowA]
        · have hnb : byteAt (l.drop i) n ≠ 44 := fun hh => h (by rw [Int.toNat_natCast]; exact hb.2 (hbd ▸ hh))
          refine ⟨_, Sub.refl _, fz0, fz0_of, ?_, k3.sub⟩
          rw [fz0_id, h4, row, rowF_line hff hc (by rw [List.length_drop]; omega) hnb]
          show fg (.tuple [.slice t' (strsA o ++ [[AV.str f]]), .int .i64 (IntKind.i64.wrap (((i + n : Nat) : Int) + 2)), .nilIface]) = _
          rw [show strsA o ++ [[AV.str f]] = strsA (o ++ [f]) from by simp [strsA]]
          simp only [fg, fgL, fgE_strs, addR, rowA]
          rw [hw2, Nat.add_assoc]
        · have hnb : byteAt (l.drop i) n = 44 := hbd.trans (hb.1 (by rw [Int.toNat_natCast] at h; exact h))
          have hlt : i + n < l.length := by
            have : ((i : Int) + n) ≠ l.length := by rw [hw] at *; omega
            omega
          refine ⟨(o ++ [f], i + n + 1, t'), ?_, by (repeat (first | exact Same.refl _ _ | refine Same.upd rfl ?_ | refine Same.updL rfl ?_ | refine Same.havoc rfl ?_)), ⟨⟨by simp only; omega, by simp; omega⟩, ?_, ?_⟩, by simp only; omega⟩
          · exact cons_eq (by show AV.slice t' (strsA o ++ [[AV.str f]]) = _; simp [strsA]) (cons_eq (by show AV.int .i64 (IntKind.i64.wrap (((i + n : Nat) : Int) + 1)) = .int .i64 ((i + n + 1 : Nat) : Int); rw [hw1]) rfl)
          · show Own _ _ (o ++ [f]).isEmpty _ _ _
            rw [show (o ++ [f]).isEmpty = (o.isEmpty && [[AV.str f]].isEmpty) by cases o <;> rfl]
            exact k3
          · rw [h4, row, rowF_more hff hc (by rw [List.length_drop]; omega) hnb, addR_add, List.drop_drop, rowF_fuel _ _ _ (by simp only [List.length_drop]; omega) (Nat.lt_succ_self _)]
            rfl
      · have hce : chkF f ((l.drop i).drop n) (startsQ (l.drop i)) ≠ 0 := hc
        generalize hE : chkF f ((l.drop i).drop n) (startsQ (l.drop i)) = E at *
        have hev : errV E = errA E := if_neg hc
        rw [hev] at hch
        unfold errA at hch
        repeat' (first
          | (exfalso; first | omega | exact (by assumption : ¬ True) trivial | fail)
          | (refine ⟨Sub.refl _, ?_⟩)
          | (refine brA_split (fun h => ?_) (fun h => ?_) <;> (try rw [h]) <;> (try simp only [Bool.false_eq_true, Bool.true_eq_false, ↓reduceIte, decide_eq_true_eq, decide_eq_false_iff_not, Bool.not_eq_true', Bool.not_eq_false'] at h) <;> (conv => whnf))
          | (rw [hA]; conv => whnf)
          | (rw [hB]; conv => whnf)
          | (refine ACalls.pure' ?_ (hfi); rintro _ rfl; conv => whnf)
          | (refine DCall.pure ?_ (hfi); conv => whnf)
          | (rw [hw]; conv => whnf)
          | (refine ACalls.pure' ?_ (hpr); rintro _ rfl; conv => whnf)
          | (refine DCall.pure ?_ (hpr); conv => whnf)
          | (refine ACalls.pure' ?_ (hch); rintro _ rfl; conv => whnf)
          | (refine DCall.pure ?_ (hch); conv => whnf)
          | (refine getB_same ?_; conv => whnf)
          | (refine AWp.any (by kernel_rfl) (by kernel_rfl) (by kernel_rfl) ?_; conv => whnf)
          | (apply And.intro; (focus (first | omega | rfl | decide | exact Nat.le_of_ble_eq_true rfl | ((repeat' (first | exact all_nil | refine all_cons ?_ ?_ | rfl | fail)); done) | (simp [-List.length_flatMap]; done) | (simp [-List.length_flatMap]; omega) | fail)); conv => whnf)
          | fail)
        intro b hb
        conv => whnf
        repeat' (first
          | (refine ⟨Sub.refl _, ?_⟩)
          | (refine brA_split (fun h => ?_) (fun h => ?_) <;> (try rw [h]) <;> (try simp only [Bool.false_eq_true, Bool.true_eq_false, ↓reduceIte, decide_eq_true_eq, decide_eq_false_iff_not, Bool.not_eq_true', Bool.not_eq_false'] at h) <;> (conv => whnf))
          | (refine getB_same ?_; conv => whnf)
          | (refine AWp.any (by kernel_rfl) (by kernel_rfl) (by kernel_rfl) ?_; conv => whnf)
          | (apply And.intro; (focus (first | omega | rfl | decide | exact Nat.le_of_ble_eq_true rfl | ((repeat' (first | exact all_nil | refine all_cons ?_ ?_ | rfl | fail)); done) | (simp [-List.length_flatMap]; done) | (simp [-List.length_flatMap]; omega) | fail)); conv => whnf)
          | fail)
        refine ⟨_, Sub.refl _, fz1 b 2 [.int .i64 ((o.length : Int) + 1), errA E], fz1_of (T := 67) (h3.sub.none hb) ?_, ?_, h3.sub.set (h3.sub.none hb) _ _⟩
        · refine set_bx_same.trans (congrArg (fun z => some (67, [z, errA E])) ?_)
          exact int64_of (by omega) (by omega) (by omega)
        · show fg (fz _ (.tuple [.slice 1 [], .int .i64 0, .iface _ (.ptr (some ⟨b, 0, none⟩))])) = _
          rw [h4, row, rowF_bad hff (by rw [hE]; exact hc), hE]
          simp only [fz, fzL, fzE, fzP, fz1_at, fg, fgL, fgE, List.drop_zero, addR, rowA, errA]
          rw [show (1 : Int) + o.length = o.length + 1 by omega]
end Go.Proofs.YthgpipfkcbekiaaDoor.Cv
