
/- Chapter 6: rows of fields: what a text begins with, by the program. -/
import Derived.Test.YthgpipfkcbekiaaDoorFg4
import Derived.Test.YthgpipfkcbekiaaDoorChecked
set_option linter.all false
namespace Go.Proofs.YthgpipfkcbekiaaDoor.Cv
open Go Go.Ab Go.RowKit
variable {Γ : Nat → AV}
attribute [local irreducible] APure Sto.set Sto.grow
set_option maxRecDepth 10000
set_option maxHeartbeats 1000000

/-- A byte that may stand without quotes. -/
def bareB (c : UInt8) : Bool := decide ((32 : Int) ≤ c.toNat) && (decide ((c.toNat : Int) ≤ 126) && (!decide ((c.toNat : Int) = 34) && !decide ((c.toNat : Int) = 44)))
/-- The field behind an opening quote, and of how many bytes it is there. -/
def qtF : List UInt8 → Option (List UInt8 × Nat)
  | [] => none
  | [c] => if c = 34 then some ([], 1) else none
  | c :: d :: r => if c = 34 then (if d = 34 then (qtF r).map fun x => (34 :: x.1, x.2 + 2) else some ([], 1)) else (qtF (d :: r)).map fun x => (c :: x.1, x.2 + 1)
theorem qt_other {c : UInt8} {r : List UInt8} (h : c ≠ 34) : qtF (c :: r) = (qtF r).map fun x => (c :: x.1, x.2 + 1) := by
  cases r with
  | nil => simp [qtF, h]
  | cons d r => rw [qtF, if_neg h]
theorem qt_two (r : List UInt8) : qtF (34 :: 34 :: r) = (qtF r).map fun x => (34 :: x.1, x.2 + 2) := by rw [qtF, if_pos rfl, if_pos rfl]
theorem qt_end {r : List UInt8} (h : ∀ r', r ≠ 34 :: r') : qtF (34 :: r) = some ([], 1) := by
  cases r with
  | nil => rfl
  | cons d r =>
    rw [qtF, if_pos rfl, if_neg]
    rintro rfl
    exact h r rfl
theorem qt_bound : ∀ (n : Nat) (l : List UInt8), l.length ≤ n → ∀ x, qtF l = some x → x.1.length < x.2 ∧ x.2 ≤ l.length
  | 0, l, h => by
    obtain rfl := List.eq_nil_of_length_eq_zero (Nat.le_zero.1 h)
    intro x hx; cases hx
  | n + 1, l, h => by
    intro x hx
    match l, h, hx with
    | c :: r, h, hx =>
      simp only [List.length_cons] at h ⊢
      by_cases hc : c = 34
      · subst hc
        by_cases hr : ∃ r', r = 34 :: r'
        · obtain ⟨r', rfl⟩ := hr
          rw [qt_two] at hx
          obtain ⟨y, hy, rfl⟩ := Option.map_eq_some_iff.1 hx
          have := qt_bound n r' (by simp only [List.length_cons] at h; omega) y hy
          simp only [List.length_cons]
          omega
        · rw [qt_end (fun r' hr' => hr ⟨r', hr'⟩)] at hx
          cases hx
          simp
      · rw [qt_other hc] at hx
        obtain ⟨y, hy, rfl⟩ := Option.map_eq_some_iff.1 hx
        have := qt_bound n r (by omega) y hy
        simp only [List.length_cons]
        omega
/-- How many bytes from the beginning may stand without quotes. -/
def bareN : List UInt8 → Nat
  | [] => 0
  | c :: r => if bareB c = true then bareN r + 1 else 0
theorem bareN_le : ∀ l : List UInt8, bareN l ≤ l.length
  | [] => Nat.le_refl _
  | c :: r => by
    unfold bareN
    split
    · have := bareN_le r; simp only [List.length_cons]; omega
    · simp
/-- The field that a text begins with, and of how many bytes it is; none: a quote is amiss. -/
def fieldF : List UInt8 → Option (List UInt8 × Nat)
  | 34 :: r => (qtF r).map fun x => (x.1, x.2 + 1)
  | l => if l.drop (bareN l) ≠ [] ∧ byteAt l (bareN l) = 34 then none else some (l.take (bareN l), bareN l)
theorem byteAt_lit {b : UInt8} {n : Nat} (hn : n < 256) : (b.toNat : Int) = n ↔ b = UInt8.ofNat n := by
  constructor
  · intro h
    have : b.toNat = n := Int.ofNat.inj h
    rw [← this]; simp
  · rintro rfl
    simp [Nat.mod_eq_of_lt hn]
theorem b34 {b : UInt8} : (b.toNat : Int) = 34 ↔ b = 34 := byteAt_lit (n := 34) (by decide)
theorem b44 {b : UInt8} : (b.toNat : Int) = 44 ↔ b = 44 := byteAt_lit (n := 44) (by decide)
theorem bool_eq {a b : Bool} (h : a = b) : AV.bool a = .bool b := by rw [h]
theorem progBare_ok (c : UInt8) : APure Tryd.prog Γ 12 [.int .u8 c.toNat] fun v => v = .bool (bareB c) := by
  refine APure.of_awp Tryd.func12 rfl (Nat.le_of_ble_eq_true (by kernel_rfl)) (by kernel_rfl) ?_
  intro s
  conv => whnf
  repeat' (first
    | (refine ⟨Sub.refl _, ?_⟩)
    | (refine brA_split (fun h => ?_) (fun h => ?_) <;> (try rw [h]) <;> (try simp only [Bool.false_eq_true, Bool.true_eq_false, ↓reduceIte, decide_eq_true_eq, decide_eq_false_iff_not, Bool.not_eq_true', Bool.not_eq_false'] at h) <;> (conv => whnf))
    | (refine getB_same ?_; conv => whnf)
    | (refine AWp.any (by kernel_rfl) (by kernel_rfl) (by kernel_rfl) ?_; conv => whnf)
    | (apply And.intro; (focus (first | omega | rfl | decide | exact Nat.le_of_ble_eq_true rfl | ((repeat' (first | exact all_nil | refine all_cons ?_ ?_ | rfl | fail)); done) | (simp [-List.length_flatMap]; done) | (simp [-List.length_flatMap]; omega) | fail)); conv => whnf)
    | fail)
  all_goals refine bool_eq ?_
  all_goals unfold bareB
  all_goals simp [*]
theorem hasPrefix_ok (l p : List UInt8) (hp : p.length ≤ 4194304) : APure Tryd.prog Γ 33 [.str l, .str p] fun v => v = .bool (decide (p.length ≤ l.length) && decide (l.take p.length = p)) := by
  have inner : ∀ Γ : Nat → AV, APure Tryd.prog Γ 46 [.str l, .str p] fun v => v = .bool (decide (p.length ≤ l.length) && decide (l.take p.length = p)) := by
    intro Γ
    refine APure.of_awp Tryd.func46 rfl (Nat.le_of_ble_eq_true (by kernel_rfl)) (by kernel_rfl) ?_
    intro s
    conv => whnf
    repeat' (first
      | (exfalso; first | omega | exact (by assumption : ¬ True) trivial | fail)
      | (refine ⟨Sub.refl _, ?_⟩)
      | (refine brA_split (fun h => ?_) (fun h => ?_) <;> (try rw [h]) <;> (try simp only [Bool.false_eq_true, Bool.true_eq_false, ↓reduceIte, decide_eq_true_eq, decide_eq_false_iff_not, Bool.not_eq_true', Bool.not_eq_false'] at h) <;> (conv => whnf))
      | (refine getB_same ?_; conv => whnf)
      | (refine AWp.any (by kernel_rfl) (by kernel_rfl) (by kernel_rfl) ?_; conv => whnf)
      | (apply And.intro; (focus (first | omega | rfl | decide | exact Nat.le_of_ble_eq_true rfl | ((repeat' (first | exact all_nil | refine all_cons ?_ ?_ | rfl | fail)); done) | (simp [-List.length_flatMap]; done) | (simp [-List.length_flatMap]; omega) | fail)); conv => whnf)
      | fail)
    · refine bool_eq ?_
      rw [decide_eq_true (p := p.length ≤ l.length) (by omega), Bool.true_and]
      rfl
    · refine bool_eq ?_
      rw [decide_eq_false (p := p.length ≤ l.length) (by omega), Bool.false_and]
  refine APure.of_awp Tryd.func33 rfl (Nat.le_of_ble_eq_true (by kernel_rfl)) (by kernel_rfl) ?_
  intro s
  conv => whnf
  repeat' (first
    | (refine ⟨Sub.refl _, ?_⟩)
    | (refine brA_split (fun h => ?_) (fun h => ?_) <;> (try rw [h]) <;> (try simp only [Bool.false_eq_true, Bool.true_eq_false, ↓reduceIte, decide_eq_true_eq, decide_eq_false_iff_not, Bool.not_eq_true', Bool.not_eq_false'] at h) <;> (conv => whnf))
    | (refine ACalls.pure' ?_ (inner _); rintro _ rfl; conv => whnf)
    | (refine DCall.pure ?_ (inner _); conv => whnf)
    | (refine getB_same ?_; conv => whnf)
    | (refine AWp.any (by kernel_rfl) (by kernel_rfl) (by kernel_rfl) ?_; conv => whnf)
    | (apply And.intro; (focus (first | omega | rfl | decide | exact Nat.le_of_ble_eq_true rfl | ((repeat' (first | exact all_nil | refine all_cons ?_ ?_ | rfl | fail)); done) | (simp [-List.length_flatMap]; done) | (simp [-List.length_flatMap]; omega) | fail)); conv => whnf)
    | fail)
  rfl
/-- How the program says what is wrong. -/
def errA (n : Int) : AV := .iface 28 (.int .i64 n)
def fieldA (x : Option (List UInt8 × Nat)) : AV :=
  match x with
  | some (f, n) => .tuple [.str f, .int .i64 n, .nilIface]
  | none => .tuple [.str [], .int .i64 0, errA 17]
theorem progQuoted_ok (l : List UInt8) (h0 : 0 < l.length) (hl : l.length ≤ 4194304) : APure Tryd.prog Γ 45 [.str l] fun v => v = fieldA ((qtF (l.drop 1)).map fun x => (x.1, x.2 + 1)) := by
  refine APure.of_awp Tryd.func45 rfl (Nat.le_of_ble_eq_true (by kernel_rfl)) (by kernel_rfl) ?_
  intro s
  conv => whnf
  repeat' (first
    | (refine ⟨Sub.refl _, ?_⟩)
    | (refine brA_split (fun h => ?_) (fun h => ?_) <;> (try rw [h]) <;> (try simp only [Bool.false_eq_true, Bool.true_eq_false, ↓reduceIte, decide_eq_true_eq, decide_eq_false_iff_not, Bool.not_eq_true', Bool.not_eq_false'] at h) <;> (conv => whnf))
    | (refine getB_same ?_; conv => whnf)
    | (refine AWp.any (by kernel_rfl) (by kernel_rfl) (by kernel_rfl) ?_; conv => whnf)
    | (apply And.intro; (focus (first | omega | rfl | decide | exact Nat.le_of_ble_eq_true rfl | ((repeat' (first | exact all_nil | refine all_cons ?_ ?_ | rfl | fail)); done) | (simp [-List.length_flatMap]; done) | (simp [-List.length_flatMap]; omega) | fail)); conv => whnf)
    | fail)
  refine AWp.loopA [5, 6] [7, 8, 9, 10, 18, 19, 20, 21, 17, 23, 24, 25, 26, 27, 28, 29, 30, 31, 32, 33, 34, 22, 35, 36, 13, 14, 15, 16, 2, 3, 4, 37, 38, 39, 40, 41, 42, 11, 12] (fun x : List UInt8 × Nat × Nat => [.slice x.2.2 (bytesA x.1), .int .i64 x.2.1]) (fun x s' => (1 ≤ x.2.1 ∧ x.2.1 ≤ l.length) ∧ x.1.length ≤ x.2.1 ∧ Own s s' x.1.isEmpty x.2.2 5 1 ∧ qtF (l.drop 1) = (qtF (l.drop x.2.1)).map fun y => (x.1 ++ y.1, x.2.1 - 1 + y.2)) (fun x => l.length - x.2.1) (([], 1, 1)) (by kernel_rfl) (by (repeat' (first | refine cons_eq ?_ ?_ | refine int64_of ?_ ?_ ?_ | rfl | omega))) ?_ ?_
  · exact ⟨⟨by simp, by simp only; omega⟩, by simp, Own.nil _ _ _, by simp⟩
  · rintro x ⟨o, i, t⟩ s' ⟨⟨h1, h2⟩, h3, h4, h5⟩
    simp only at h1 h2 h3 h4 h5
    have hd := fun h : i < l.length => drop_byte h
    have hd2 := fun h : i + 1 < l.length => drop_byte h
    have hb := b34 (b := byteAt l i)
    have hb2 := b34 (b := byteAt l (i + 1))
    have hw : IntKind.i64.wrap ((i : Int) + 1) = ((i + 1 : Nat) : Int) := i64_of (by omega) (by omega) (by omega)
    have hw2 : IntKind.i64.wrap (((i + 1 : Nat) : Int) + 1) = ((i + 2 : Nat) : Int) := i64_of (by omega) (by omega) (by omega)
    show awp _ _ _ _ _ (updL _ _ [.slice t (bytesA o), .int .i64 (i : Int)]) _
    conv => whnf
    by_cases hlt : i < l.length
    · have hd := hd hlt
      repeat' (first
        | (exfalso; first | omega | exact (by assumption : ¬ True) trivial | fail)
        | (refine ⟨Sub.refl _, ?_⟩)
        | (refine brA_split (fun h => ?_) (fun h => ?_) <;> (try rw [h]) <;> (try simp only [Bool.false_eq_true, Bool.true_eq_false, ↓reduceIte, decide_eq_true_eq, decide_eq_false_iff_not, Bool.not_eq_true', Bool.not_eq_false'] at h) <;> (conv => whnf))
        | (rw [hw]; conv => whnf)
        | (refine getB_same ?_; conv => whnf)
        | (refine AWp.any (by kernel_rfl) (by kernel_rfl) (by kernel_rfl) ?_; conv => whnf)
        | (apply And.intro; (focus (first | omega | rfl | decide | exact Nat.le_of_ble_eq_true rfl | ((repeat' (first | exact all_nil | refine all_cons ?_ ?_ | rfl | fail)); done) | (simp [-List.length_flatMap]; done) | (simp [-List.length_flatMap]; omega) | fail)); conv => whnf)
        | fail)
      all_goals (try simp only [Int.toNat_natCast] at *)
      · refine ⟨h4.may, bytesA_all o, all_cons ⟨rfl, rfl⟩ all_nil, ?_, ?_⟩
        · show ((bytesA o).length + 1) * (1 + 1) ≤ _
          rw [bytesA_len]; omega
        intro t' k1 k2
        have k3 := h4.grow k1 k2
        conv => whnf
        repeat' (first
          | (refine ⟨Sub.refl _, ?_⟩)
          | (refine brA_split (fun h => ?_) (fun h => ?_) <;> (try rw [h]) <;> (try simp only [Bool.false_eq_true, Bool.true_eq_false, ↓reduceIte, decide_eq_true_eq, decide_eq_false_iff_not, Bool.not_eq_true', Bool.not_eq_false'] at h) <;> (conv => whnf))
          | (rw [hw2]; conv => whnf)
          | (refine getB_same ?_; conv => whnf)
          | (refine AWp.any (by kernel_rfl) (by kernel_rfl) (by kernel_rfl) ?_; conv => whnf)
          | (apply And.intro; (focus (first | omega | rfl | decide | exact Nat.le_of_ble_eq_true rfl | ((repeat' (first | exact all_nil | refine all_cons ?_ ?_ | rfl | fail)); done) | (simp [-List.length_flatMap]; done) | (simp [-List.length_flatMap]; omega) | fail)); conv => whnf)
          | fail)
        refine ⟨(o ++ [byteAt l i], i + 1, t'), ?_, by (repeat (first | exact Same.refl _ _ | refine Same.upd rfl ?_ | refine Same.updL rfl ?_ | refine Same.havoc rfl ?_)), ⟨⟨by simp only; omega, by simp only; omega⟩, by simp; omega, ?_, ?_⟩, by simp only; omega⟩
        · exact cons_eq (by rw [bytesA_append]; rfl) (cons_eq (by show AV.int .i64 (IntKind.i64.wrap ((i : Int) + 1)) = .int .i64 ((i + 1 : Nat) : Int); rw [hw]) rfl)
        · show Own _ _ (o ++ [byteAt l i]).isEmpty _ _ _
          rw [show (o ++ [byteAt l i]).isEmpty = (o.isEmpty && [[AV.int IntKind.u8 ((byteAt l i).toNat : Int)]].isEmpty) by cases o <;> rfl]
          exact k3
        · rw [h5, hd, qt_other (fun hc => h (hb.2 hc)), Option.map_map]
          congr 1
          funext y
          simp
          omega
      · have h7 := hb.1 (by assumption)
        have h8 := hb2.1 h
        have hlt2 : i + 1 < l.length := by omega
        refine ⟨h4.may, bytesA_all o, all_cons ⟨rfl, rfl⟩ all_nil, ?_, ?_⟩
        · show ((bytesA o).length + 1) * (1 + 1) ≤ _
          rw [bytesA_len]; omega
        intro t' k1 k2
        have k3 := h4.grow k1 k2
        conv => whnf
        repeat' (first
          | (refine ⟨Sub.refl _, ?_⟩)
          | (refine brA_split (fun h => ?_) (fun h => ?_) <;> (try rw [h]) <;> (try simp only [Bool.false_eq_true, Bool.true_eq_false, ↓reduceIte, decide_eq_true_eq, decide_eq_false_iff_not, Bool.not_eq_true', Bool.not_eq_false'] at h) <;> (conv => whnf))
          | (rw [hw2]; conv => whnf)
          | (refine getB_same ?_; conv => whnf)
          | (refine AWp.any (by kernel_rfl) (by kernel_rfl) (by kernel_rfl) ?_; conv => whnf)
          | (apply And.intro; (focus (first | omega | rfl | decide | exact Nat.le_of_ble_eq_true rfl | ((repeat' (first | exact all_nil | refine all_cons ?_ ?_ | rfl | fail)); done) | (simp [-List.length_flatMap]; done) | (simp [-List.length_flatMap]; omega) | fail)); conv => whnf)
          | fail)
        refine ⟨(o ++ [byteAt l (i + 1)], i + 2, t'), ?_, by (repeat (first | exact Same.refl _ _ | refine Same.upd rfl ?_ | refine Same.updL rfl ?_ | refine Same.havoc rfl ?_)), ⟨⟨by simp only; omega, by simp only; omega⟩, by simp; omega, ?_, ?_⟩, by simp only; omega⟩
        · exact cons_eq (by rw [bytesA_append]; rfl) (cons_eq (by first | rfl | (show AV.int .i64 (IntKind.i64.wrap (((i + 1 : Nat) : Int) + 1)) = .int .i64 ((i + 2 : Nat) : Int); rw [hw2])) rfl)
        · show Own _ _ (o ++ [byteAt l (i + 1)]).isEmpty _ _ _
          rw [show (o ++ [byteAt l (i + 1)]).isEmpty = (o.isEmpty && [[AV.int IntKind.u8 ((byteAt l (i + 1)).toNat : Int)]].isEmpty) by cases o <;> rfl]
          exact k3
        · rw [h5, hd, h7, hd2 hlt2, h8, qt_two, Option.map_map]
          congr 1
          funext y
          simp
          omega
      all_goals (
        have h7 := hb.1 (by assumption)
        have h9 : qtF (l.drop i) = some ([], 1) := by
          rw [hd, h7, qt_end]
          intro r hr
          by_cases hlt2 : i + 1 < l.length
          · rw [hd2 hlt2] at hr
            injection hr with hr _
            have := hb2.2 hr
            omega
          · rw [drop_end hlt2] at hr
            cases hr
        rw [h9] at h5
        rw [unB_bytesA]
        conv => whnf
        repeat' (first
          | (refine ⟨Sub.refl _, ?_⟩)
          | (refine brA_split (fun h => ?_) (fun h => ?_) <;> (try rw [h]) <;> (try simp only [Bool.false_eq_true, Bool.true_eq_false, ↓reduceIte, decide_eq_true_eq, decide_eq_false_iff_not, Bool.not_eq_true', Bool.not_eq_false'] at h) <;> (conv => whnf))
          | (rw [hw]; conv => whnf)
          | (refine getB_same ?_; conv => whnf)
          | (refine AWp.any (by kernel_rfl) (by kernel_rfl) (by kernel_rfl) ?_; conv => whnf)
          | (apply And.intro; (focus (first | omega | rfl | decide | exact Nat.le_of_ble_eq_true rfl | ((repeat' (first | exact all_nil | refine all_cons ?_ ?_ | rfl | fail)); done) | (simp [-List.length_flatMap]; done) | (simp [-List.length_flatMap]; omega) | fail)); conv => whnf)
          | fail)
        refine ⟨h4.sub, ?_⟩
        rw [h5]
        simp only [Option.map_some, fieldA, List.append_nil]
        exact congrArg (fun x => AV.tuple [.str o, .int .i64 x, .nilIface]) (by omega))
    · repeat' (first
        | (exfalso; first | omega | exact (by assumption : ¬ True) trivial | fail)
        | (refine ⟨Sub.refl _, ?_⟩)
        | (refine brA_split (fun h => ?_) (fun h => ?_) <;> (try rw [h]) <;> (try simp only [Bool.false_eq_true, Bool.true_eq_false, ↓reduceIte, decide_eq_true_eq, decide_eq_false_iff_not, Bool.not_eq_true', Bool.not_eq_false'] at h) <;> (conv => whnf))
        | (refine getB_same ?_; conv => whnf)
        | (refine AWp.any (by kernel_rfl) (by kernel_rfl) (by kernel_rfl) ?_; conv => whnf)
        | (apply And.intro; (focus (first | omega | rfl | decide | exact Nat.le_of_ble_eq_true rfl | ((repeat' (first | exact all_nil | refine all_cons ?_ ?_ | rfl | fail)); done) | (simp [-List.length_flatMap]; done) | (simp [-List.length_flatMap]; omega) | fail)); conv => whnf)
        | fail)
      refine ⟨h4.sub, ?_⟩
      rw [h5, drop_end hlt]
      rfl
end Go.Proofs.YthgpipfkcbekiaaDoor.Cv
