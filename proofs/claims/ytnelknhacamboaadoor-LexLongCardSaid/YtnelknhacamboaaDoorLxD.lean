
/- Chapter 9: numbers, words, names, quoted texts. -/
import Derived.Test.YtnelknhacamboaaDoorLxC
set_option linter.all false
namespace Go.Proofs.YtnelknhacamboaaDoor.Lx
open Go Go.Ab Go.RowKit Go.Proofs.YtnelknhacamboaaDoor.Sc
variable {Γ : Nat → AV}
attribute [local irreducible] APure Sto.set Sto.grow tabB
set_option maxRecDepth 10000
set_option maxHeartbeats 1000000

theorem tab_drop (c : UInt8) : (tabB 10).drop c.toNat = .bool (digitc c.toNat) :: (tabB 10).drop (c.toNat + 1) := by
  have hc : c.toNat < 256 := c.toNat_lt
  have hlen := tab_len 10
  rw [List.drop_eq_getElem_cons (by omega)]
  congr 1
  unfold tabB digitc
  simp only [List.getElem_map, List.getElem_range]
  refine congrArg AV.bool ?_
  rw [Bool.eq_iff_iff]
  simp
  omega
theorem contains_ok {s : Sto} {b : Nat} (hb : s.bx b = some (105, tabB 10)) (c : UInt8) :
    ACalls Tryd.prog Γ 76 [.ptr (some ⟨b, 0, none⟩), .int .u8 c.toNat] s fun v s' => v = .bool (digitc c.toNat) ∧ s' = s := by
  have hd : (tabB 10).drop (0 + ((c.toNat : Int)).toNat * (fun x => x.size) Tryd.prog.types[4]) = .bool (digitc c.toNat) :: (tabB 10).drop (c.toNat + 1) := by
    rw [show 0 + ((c.toNat : Int)).toNat * (fun x => x.size) Tryd.prog.types[4] = c.toNat by show 0 + ((c.toNat : Nat) : Int).toNat * 1 = _; omega]
    exact tab_drop c
  have hc : c.toNat < 256 := c.toNat_lt
  refine ACalls.of_awp Tryd.func76 rfl (Nat.le_of_ble_eq_true (by kernel_rfl)) (awp_ok _ (by kernel_rfl) ?_)
  conv => whnf
  repeat' (first
    | (exfalso; first | omega | exact (by assumption : ¬ True) trivial | fail)
    | (refine ⟨Sub.refl _, ?_⟩)
    | (refine brA_split (fun h => ?_) (fun h => ?_) <;> (try rw [h]) <;> (try simp only [Bool.false_eq_true, Bool.true_eq_false, ↓reduceIte, decide_eq_true_eq, decide_eq_false_iff_not, Bool.not_eq_true', Bool.not_eq_false'] at h) <;> (conv => whnf))
    | (refine getB_of (by ((repeat (first | exact set_bx_same | assumption | refine (set_bx_other (by assumption)).trans ?_ | refine grow_bx.trans ?_)); done)) ?_; conv => whnf)
    | (rw [hd]; conv => whnf)
    | (refine getB_same ?_; conv => whnf)
    | (refine AWp.any (by kernel_rfl) (by kernel_rfl) (by kernel_rfl) ?_; conv => whnf)
    | (apply And.intro; (focus (first | omega | rfl | decide | exact Nat.le_of_ble_eq_true rfl | ((repeat' (first | exact all_nil | refine all_cons ?_ ?_ | rfl | fail)); done) | (simp [-List.length_flatMap]; done) | (simp [-List.length_flatMap]; omega) | fail)); conv => whnf)
    | fail)
  exact ⟨_, Sub.refl _, rfl, rfl⟩
def digB (c : UInt8) : Bool := digitc c.toNat
/-- Without the digits at its beginning, and at its end. -/
def trimLf (l : List UInt8) : List UInt8 := l.dropWhile digB
def trimRf (l : List UInt8) : List UInt8 := (l.reverse.dropWhile digB).reverse
theorem trimRf_app (l : List UInt8) (c : UInt8) : trimRf (l ++ [c]) = if digB c = true then trimRf l else l ++ [c] := by
  unfold trimRf
  rw [List.reverse_append, List.reverse_singleton, List.singleton_append, List.dropWhile_cons]
  split <;> simp
theorem trimRf_len (l : List UInt8) : (trimRf l).length ≤ l.length := by
  unfold trimRf
  rw [List.length_reverse]
  have := (List.dropWhile_sublist (p := digB) (l := l.reverse)).length_le
  rw [List.length_reverse] at this
  exact this
theorem trimLeft_ok {s : Sto} {b : Nat} (hb : s.bx b = some (105, tabB 10)) (l : List UInt8) (hl : l.length ≤ 1048576) :
    ACalls Tryd.prog Γ 66 [.str l, .ptr (some ⟨b, 0, none⟩)] s fun v s' => v = .str (trimLf l) ∧ s' = s := by
  refine ACalls.of_awp Tryd.func66 rfl (Nat.le_of_ble_eq_true (by kernel_rfl)) (awp_ok _ (by kernel_rfl) ?_)
  conv => whnf
  repeat' (first
    | (refine ⟨Sub.refl _, ?_⟩)
    | (refine brA_split (fun h => ?_) (fun h => ?_) <;> (try rw [h]) <;> (try simp only [Bool.false_eq_true, Bool.true_eq_false, ↓reduceIte, decide_eq_true_eq, decide_eq_false_iff_not, Bool.not_eq_true', Bool.not_eq_false'] at h) <;> (conv => whnf))
    | (refine getB_same ?_; conv => whnf)
    | (refine AWp.any (by kernel_rfl) (by kernel_rfl) (by kernel_rfl) ?_; conv => whnf)
    | (apply And.intro; (focus (first | omega | rfl | decide | exact Nat.le_of_ble_eq_true rfl | ((repeat' (first | exact all_nil | refine all_cons ?_ ?_ | rfl | fail)); done) | (simp [-List.length_flatMap]; done) | (simp [-List.length_flatMap]; omega) | fail)); conv => whnf)
    | fail)
  refine AWp.loopA [0] [5, 6, 7, 8, 9, 10, 11, 12, 13, 14] (fun q : List UInt8 => [.str q]) (fun q s' => q.length ≤ l.length ∧ s' = s ∧ trimLf l = trimLf q) (fun q => q.length) (l) (by kernel_rfl) (by (repeat' (first | refine cons_eq ?_ ?_ | refine int64_of ?_ ?_ ?_ | rfl | omega))) ?_ ?_
  · exact ⟨Nat.le_refl _, rfl, rfl⟩
  · rintro x q s1 ⟨h1, rfl, h2⟩
    show awp _ _ _ _ _ (updL _ _ [.str q]) _
    conv => whnf
    cases q with
    | nil =>
      repeat' (first
        | (exfalso; first | omega | exact (by assumption : ¬ True) trivial | fail)
        | (refine ⟨Sub.refl _, ?_⟩)
        | (refine brA_split (fun h => ?_) (fun h => ?_) <;> (try rw [h]) <;> (try simp only [Bool.false_eq_true, Bool.true_eq_false, ↓reduceIte, decide_eq_true_eq, decide_eq_false_iff_not, Bool.not_eq_true', Bool.not_eq_false'] at h) <;> (conv => whnf))
        | (refine getB_same ?_; conv => whnf)
        | (refine AWp.any (by kernel_rfl) (by kernel_rfl) (by kernel_rfl) ?_; conv => whnf)
        | (apply And.intro; (focus (first | omega | rfl | decide | exact Nat.le_of_ble_eq_true rfl | ((repeat' (first | exact all_nil | refine all_cons ?_ ?_ | rfl | fail)); done) | (simp [-List.length_flatMap]; done) | (simp [-List.length_flatMap]; omega) | fail)); conv => whnf)
        | fail)
      exact ⟨_, Sub.refl _, by rw [h2]; rfl, rfl⟩
    | cons c q =>
      have hz : byteAt (c :: q) (0 : Int).toNat = c := rfl
      have hp : 0 < (c :: q).length := by simp
      repeat' (first
        | (exfalso; first | omega | exact (by assumption : ¬ True) trivial | fail)
        | (refine ⟨Sub.refl _, ?_⟩)
        | (refine brA_split (fun h => ?_) (fun h => ?_) <;> (try rw [h]) <;> (try simp only [Bool.false_eq_true, Bool.true_eq_false, ↓reduceIte, decide_eq_true_eq, decide_eq_false_iff_not, Bool.not_eq_true', Bool.not_eq_false'] at h) <;> (conv => whnf))
        | (rw [hz]; conv => whnf)
        | (refine ACalls.by (contains_ok hb c) ?_; rintro _ _ ⟨rfl, rfl⟩; conv => whnf)
        | (refine getB_same ?_; conv => whnf)
        | (refine AWp.any (by kernel_rfl) (by kernel_rfl) (by kernel_rfl) ?_; conv => whnf)
        | (apply And.intro; (focus (first | omega | rfl | decide | exact Nat.le_of_ble_eq_true rfl | ((repeat' (first | exact all_nil | refine all_cons ?_ ?_ | rfl | fail)); done) | (simp [-List.length_flatMap]; done) | (simp [-List.length_flatMap]; omega) | fail)); conv => whnf)
        | fail)
      · exact ⟨_, Sub.refl _, by rw [h2, trimLf, List.dropWhile_cons, if_neg (by unfold digB; simp [h])]; rfl, rfl⟩
      · refine ⟨q, ?_, by (repeat (first | exact Same.refl _ _ | refine Same.upd rfl ?_ | refine Same.updL rfl ?_ | refine Same.havoc rfl ?_)), ⟨by simp only [List.length_cons] at h1; omega, by first | rfl | trivial, ?_⟩, by simp⟩
        · exact cons_eq (by show AV.str (List.drop (1 : Int).toNat (List.take (c :: q).length (c :: q))) = _; rw [List.take_length]; rfl) rfl
        · rw [h2, trimLf, List.dropWhile_cons, if_pos (by unfold digB; exact h)]; rfl
theorem trimRight_ok {s : Sto} {b : Nat} (hb : s.bx b = some (105, tabB 10)) (l : List UInt8) (hl : l.length ≤ 1048576) :
    ACalls Tryd.prog Γ 67 [.str l, .ptr (some ⟨b, 0, none⟩)] s fun v s' => v = .str (trimRf l) ∧ s' = s := by
  refine ACalls.of_awp Tryd.func67 rfl (Nat.le_of_ble_eq_true (by kernel_rfl)) (awp_ok _ (by kernel_rfl) ?_)
  conv => whnf
  repeat' (first
    | (refine ⟨Sub.refl _, ?_⟩)
    | (refine brA_split (fun h => ?_) (fun h => ?_) <;> (try rw [h]) <;> (try simp only [Bool.false_eq_true, Bool.true_eq_false, ↓reduceIte, decide_eq_true_eq, decide_eq_false_iff_not, Bool.not_eq_true', Bool.not_eq_false'] at h) <;> (conv => whnf))
    | (refine getB_same ?_; conv => whnf)
    | (refine AWp.any (by kernel_rfl) (by kernel_rfl) (by kernel_rfl) ?_; conv => whnf)
    | (apply And.intro; (focus (first | omega | rfl | decide | exact Nat.le_of_ble_eq_true rfl | ((repeat' (first | exact all_nil | refine all_cons ?_ ?_ | rfl | fail)); done) | (simp [-List.length_flatMap]; done) | (simp [-List.length_flatMap]; omega) | fail)); conv => whnf)
    | fail)
  refine AWp.loopA [0] [5, 6, 7, 8, 9, 10, 11, 12, 13, 14, 15, 16, 17, 18, 19, 20] (fun k : Nat => [.str (l.take k)]) (fun k s' => k ≤ l.length ∧ s' = s ∧ trimRf l = trimRf (l.take k)) (fun k => k) (l.length) (by kernel_rfl) (cons_eq (by rw [List.take_length]; rfl) rfl) ?_ ?_
  · exact ⟨Nat.le_refl _, rfl, by rw [List.take_length]⟩
  · rintro x k s1 ⟨h1, rfl, h2⟩
    show awp _ _ _ _ _ (updL _ _ [.str (l.take k)]) _
    conv => whnf
    have hlen : (l.take k).length = k := by rw [List.length_take]; omega
    cases k with
    | zero =>
      repeat' (first
        | (exfalso; first | omega | exact (by assumption : ¬ True) trivial | fail)
        | (refine ⟨Sub.refl _, ?_⟩)
        | (refine brA_split (fun h => ?_) (fun h => ?_) <;> (try rw [h]) <;> (try simp only [Bool.false_eq_true, Bool.true_eq_false, ↓reduceIte, decide_eq_true_eq, decide_eq_false_iff_not, Bool.not_eq_true', Bool.not_eq_false'] at h) <;> (conv => whnf))
        | (refine getB_same ?_; conv => whnf)
        | (refine AWp.any (by kernel_rfl) (by kernel_rfl) (by kernel_rfl) ?_; conv => whnf)
        | (apply And.intro; (focus (first | omega | rfl | decide | exact Nat.le_of_ble_eq_true rfl | ((repeat' (first | exact all_nil | refine all_cons ?_ ?_ | rfl | fail)); done) | (simp [-List.length_flatMap]; done) | (simp [-List.length_flatMap]; omega) | fail)); conv => whnf)
        | fail)
      exact ⟨_, Sub.refl _, by rw [h2]; rfl, rfl⟩
    | succ k =>
      have ht : l.take (k + 1) = l.take k ++ [byteAt l k] := take_byte (by omega)
      have hw : IntKind.i64.wrap (((l.take (k + 1)).length : Int) - 1) = (k : Int) := i64_of (by omega) (by omega) (by omega)
      have hz : byteAt (l.take (k + 1)) ((k : Int)).toNat = byteAt l k := by
        rw [Int.toNat_natCast, ht]
        have := byteAt_drop (l.take k ++ [byteAt l k]) (l.take k).length 0
        rw [List.drop_left, Nat.add_zero, List.length_take, Nat.min_eq_left (by omega)] at this
        exact this.symm
      repeat' (first
        | (exfalso; first | omega | exact (by assumption : ¬ True) trivial | fail)
        | (refine ⟨Sub.refl _, ?_⟩)
        | (refine brA_split (fun h => ?_) (fun h => ?_) <;> (try rw [h]) <;> (try simp only [Bool.false_eq_true, Bool.true_eq_false, ↓reduceIte, decide_eq_true_eq, decide_eq_false_iff_not, Bool.not_eq_true', Bool.not_eq_false'] at h) <;> (conv => whnf))
        | (rw [hw]; conv => whnf)
        | (rw [hz]; conv => whnf)
        | (refine ACalls.by (contains_ok hb (byteAt l k)) ?_; rintro _ _ ⟨rfl, rfl⟩; conv => whnf)
        | (refine getB_same ?_; conv => whnf)
        | (refine AWp.any (by kernel_rfl) (by kernel_rfl) (by kernel_rfl) ?_; conv => whnf)
        | (apply And.intro; (focus (first | omega | rfl | decide | exact Nat.le_of_ble_eq_true rfl | ((repeat' (first | exact all_nil | refine all_cons ?_ ?_ | rfl | fail)); done) | (simp [-List.length_flatMap]; done) | (simp [-List.length_flatMap]; omega) | fail)); conv => whnf)
        | fail)
      · exact ⟨_, Sub.refl _, by rw [h2, ht, trimRf_app, if_neg (by unfold digB; simp [h]), ← ht]; rfl, rfl⟩
      · refine ⟨k, ?_, by (repeat (first | exact Same.refl _ _ | refine Same.upd rfl ?_ | refine Same.updL rfl ?_ | refine Same.havoc rfl ?_)), ⟨by omega, by first | rfl | trivial, ?_⟩, by omega⟩
        · exact cons_eq (by show AV.str (List.drop 0 (List.take ((k : Int)).toNat (l.take (k + 1)))) = _; rw [Int.toNat_natCast, List.drop_zero, List.take_take, Nat.min_eq_left (by omega)]) rfl
        · rw [h2, ht, trimRf_app, if_pos (by unfold digB; exact h)]
theorem dw_nil {p : UInt8 → Bool} : ∀ l : List UInt8, l.dropWhile p = [] ↔ l.all p = true
  | [] => by simp
  | c :: r => by
    rw [List.dropWhile_cons, List.all_cons]
    by_cases h : p c = true
    · rw [if_pos h, dw_nil r, h, Bool.true_and]
    · rw [if_neg h]
      simp [h]
theorem dw_head {p : UInt8 → Bool} {x : UInt8} {r : List UInt8} : ∀ l : List UInt8, l.dropWhile p = x :: r → p x = false
  | [] => by simp
  | c :: q => by
    rw [List.dropWhile_cons]
    by_cases h : p c = true
    · rw [if_pos h]; exact dw_head q
    · rw [if_neg h]
      intro he
      injection he with he _
      rw [← he]; simpa using h
/-- Of a text something is left just if it is not all digits. -/
theorem trim_nil (l : List UInt8) : trimLf (trimRf l) = [] ↔ l.all digB = true := by
  have hr : ∀ m : List UInt8, m.reverse.all digB = m.all digB := fun m => List.all_reverse
  constructor
  · intro h
    have h1 := (dw_nil _).1 h
    rw [← hr, ← dw_nil]
    unfold trimRf at h1
    rw [hr] at h1
    rcases hd : l.reverse.dropWhile digB with _ | ⟨x, r⟩
    · rfl
    · have h2 := dw_head _ hd
      rw [hd, List.all_cons, h2] at h1
      cases h1
  · intro h
    rw [← hr, ← dw_nil] at h
    unfold trimRf
    rw [h]; rfl
theorem tab_atom : (tabB 10).all atomA = true := by
  unfold tabB
  rw [List.all_map, List.all_eq_true]
  exact fun _ _ => rfl
theorem trim_ok (l : List UInt8) (hl : l.length ≤ 1048576) : APure Tryd.prog Γ 50 [.str l, .str digitsB] fun v => v = .str (trimLf (trimRf l)) := by
  have hr := trimRf_len l
  refine APure.of_awp Tryd.func50 rfl (Nat.le_of_ble_eq_true (by kernel_rfl)) (by kernel_rfl) ?_
  intro s
  conv => whnf
  repeat' (first
    | (exfalso; first | omega | exact (by assumption : ¬ True) trivial | fail)
    | (refine ⟨Sub.refl _, ?_⟩)
    | (refine brA_split (fun h => ?_) (fun h => ?_) <;> (try rw [h]) <;> (try simp only [Bool.false_eq_true, Bool.true_eq_false, ↓reduceIte, decide_eq_true_eq, decide_eq_false_iff_not, Bool.not_eq_true', Bool.not_eq_false'] at h) <;> (conv => whnf))
    | (refine ACalls.pure' ?_ (makeSet_ok); rintro _ rfl; conv => whnf)
    | (refine DCall.pure ?_ (makeSet_ok); conv => whnf)
    | (refine getB_same ?_; conv => whnf)
    | (refine AWp.any (by kernel_rfl) (by kernel_rfl) (by kernel_rfl) ?_; conv => whnf)
    | (apply And.intro; (focus (first | omega | rfl | decide | exact Nat.le_of_ble_eq_true rfl | ((repeat' (first | exact all_nil | refine all_cons ?_ ?_ | rfl | fail)); done) | (simp [-List.length_flatMap]; done) | (simp [-List.length_flatMap]; omega) | fail)); conv => whnf)
    | fail)
  · rw [h]; rfl
  · intro b hb
    conv => whnf
    refine getB_of set_bx_same ?_
    conv => whnf
    refine ⟨tab_len 10, tab_atom, Nat.le_of_ble_eq_true (by kernel_rfl), frcL_at (cs' := tabB 10) (List.append_nil _) ?_⟩
    conv => whnf
    repeat' (first
      | (exfalso; first | omega | exact (by assumption : ¬ True) trivial | fail)
      | (refine ⟨Sub.refl _, ?_⟩)
      | (refine brA_split (fun h => ?_) (fun h => ?_) <;> (try rw [h]) <;> (try simp only [Bool.false_eq_true, Bool.true_eq_false, ↓reduceIte, decide_eq_true_eq, decide_eq_false_iff_not, Bool.not_eq_true', Bool.not_eq_false'] at h) <;> (conv => whnf))
      | (refine getB_of (by ((repeat (first | exact set_bx_same | assumption | refine (set_bx_other (by assumption)).trans ?_ | refine grow_bx.trans ?_)); done)) ?_; conv => whnf)
      | (refine ACalls.by (trimRight_ok set_bx_same l hl) ?_; rintro _ _ ⟨rfl, rfl⟩; conv => whnf)
      | (refine ACalls.by (trimLeft_ok set_bx_same (trimRf l) (by omega)) ?_; rintro _ _ ⟨rfl, rfl⟩; conv => whnf)
      | (refine getB_same ?_; conv => whnf)
      | (refine AWp.any (by kernel_rfl) (by kernel_rfl) (by kernel_rfl) ?_; conv => whnf)
      | (apply And.intro; (focus (first | omega | rfl | decide | exact Nat.le_of_ble_eq_true rfl | ((repeat' (first | exact all_nil | refine all_cons ?_ ?_ | rfl | fail)); done) | (simp [-List.length_flatMap]; done) | (simp [-List.length_flatMap]; omega) | fail)); conv => whnf)
      | fail)
    exact ⟨((Sub.refl _).set hb _ _).set hb _ _, rfl⟩
/-- What is wrong with a text of letters that begins with a digit; 0: nothing. -/
def numE (l : List UInt8) : Int := if l.all digB = false ∨ (byteAt l 0 = 48 ∧ 1 < l.length) then 4 else if 32 < l.length then 3 else 0
def tokC (k : Int) (t : List UInt8) : AV := .agg [.int .i64 k, .str t, .int .i64 0, .int .i64 0]
def oddA (e : Int) : AV := .iface 46 (.agg [.int .i64 e])
def numA (l : List UInt8) : AV := if numE l = 0 then .tuple [tokC 3 l, .nilIface] else .tuple [tokC 0 [], oddA (numE l)]
theorem b48 {b : UInt8} : (b.toNat : Int) = 48 ↔ b = 48 := byte_lit (n := 48) (by decide)
theorem numA_bad {l : List UInt8} {e : Int} (h : numE l = e) (he : e ≠ 0) : numA l = .tuple [tokC 0 [], oddA e] := by rw [numA, if_neg (by rw [h]; exact he), h]
theorem numA_good {l : List UInt8} (h : numE l = 0) : numA l = .tuple [tokC 3 l, .nilIface] := by rw [numA, if_pos h]
theorem number_ok (l : List UInt8) (h0 : 0 < l.length) (hl : l.length ≤ 1048576) : APure Tryd.prog Γ 37 [.str l] fun v => v = numA l := by
  have htr := trim_ok (Γ := Γ) l hl
  have hnil := trim_nil l
  generalize trimLf (trimRf l) = T at htr hnil
  have h48 := b48 (b := byteAt l 0)
  have hz : byteAt l (0 : Int).toNat = byteAt l 0 := rfl
  have fine : T = [] → ¬ (byteAt l 0 = 48 ∧ 1 < l.length) → ¬ (l.all digB = false ∨ (byteAt l 0 = 48 ∧ 1 < l.length)) := fun hT hn hh => hh.elim (fun ha => by rw [hnil.1 hT] at ha; cases ha) hn
  refine APure.of_awp Tryd.func37 rfl (Nat.le_of_ble_eq_true (by kernel_rfl)) (by kernel_rfl) ?_
  intro s
  conv => whnf
  intro b hb
  conv => whnf
  repeat' (first
    | (exfalso; first | omega | exact (by assumption : ¬ True) trivial | fail)
    | (refine ⟨Sub.refl _, ?_⟩)
    | (refine brA_split (fun h => ?_) (fun h => ?_) <;> (try rw [h]) <;> (try simp only [Bool.false_eq_true, Bool.true_eq_false, ↓reduceIte, decide_eq_true_eq, decide_eq_false_iff_not, Bool.not_eq_true', Bool.not_eq_false'] at h) <;> (conv => whnf))
    | (refine getB_of (by ((repeat (first | exact set_bx_same | assumption | refine (set_bx_other (by assumption)).trans ?_ | refine grow_bx.trans ?_)); done)) ?_; conv => whnf)
    | (refine ACalls.pure' ?_ (htr); rintro _ rfl; conv => whnf)
    | (refine DCall.pure ?_ (htr); conv => whnf)
    | (rw [hz]; conv => whnf)
    | (refine getB_same ?_; conv => whnf)
    | (refine AWp.any (by kernel_rfl) (by kernel_rfl) (by kernel_rfl) ?_; conv => whnf)
    | (apply And.intro; (focus (first | omega | rfl | decide | exact Nat.le_of_ble_eq_true rfl | ((repeat' (first | exact all_nil | refine all_cons ?_ ?_ | rfl | fail)); done) | (simp [-List.length_flatMap]; done) | (simp [-List.length_flatMap]; omega) | fail)); conv => whnf)
    | fail)
  all_goals refine ⟨((Sub.refl _).set hb _ _).set hb _ _, ?_⟩
  · rw [numA_bad (e := 4) (if_pos (.inl (by simpa using mt hnil.2 h))) (by decide)]
    rfl
  · rw [numA_bad (e := 4) (if_pos (.inr ⟨h48.1 (by assumption), by omega⟩)) (by decide)]
    rfl
  · rw [numA_good (by rw [numE, if_neg (fine (by assumption) (by omega)), if_neg (by omega)])]
    rfl
  · rw [numA_bad (e := 3) (by rw [numE, if_neg (fine (by assumption) (fun hh => by have := h48.2 hh.1; omega)), if_pos (by omega)]) (by decide)]
    rfl
  · rw [numA_good (by rw [numE, if_neg (fine (by assumption) (fun hh => by have := h48.2 hh.1; omega)), if_neg (by omega)])]
    rfl
/-- The token of a text of letters; or what is wrong with it. -/
def lettersF (l : List UInt8) : Except Int (Int × List UInt8) :=
  if digB (byteAt l 0) = true then (if numE l = 0 then .ok (3, l) else .error (numE l)) else if 32 < l.length then .error 3 else if isWord l = true then .ok (2, l) else .ok (1, l)
def resA : Except Int (Int × List UInt8) → AV
  | .ok (k, t) => .tuple [tokC k t, .nilIface]
  | .error e => .tuple [tokC 0 [], oddA e]
theorem numA_res (l : List UInt8) : numA l = resA (if numE l = 0 then .ok (3, l) else .error (numE l)) := by
  unfold numA
  split <;> rfl
theorem resA_eq (x : Except Int (Int × List UInt8)) : ∃ k t e, resA x = .tuple [tokC k t, e] := by
  rcases x with e | ⟨k, t⟩
  · exact ⟨_, _, _, rfl⟩
  · exact ⟨_, _, _, rfl⟩
theorem letters_ok (hT : Wds Γ) (l : List UInt8) (h0 : 0 < l.length) (hl : l.length ≤ 1048576) : APure Tryd.prog Γ 20 [.str l] fun v => v = resA (lettersF l) := by
  have hw := progWord_any hT l
  have hn := number_ok (Γ := Γ) l h0 hl
  have hz : byteAt l (0 : Int).toNat = byteAt l 0 := rfl
  have hd : digB (byteAt l 0) = true ↔ (48 : Int) ≤ (byteAt l 0).toNat ∧ ((byteAt l 0).toNat : Int) ≤ 57 := by unfold digB digitc; simp
  by_cases hE : numE l = 0
  · rw [numA_good hE] at hn
    unfold tokC at hn
    refine APure.of_awp Tryd.func20 rfl (Nat.le_of_ble_eq_true (by kernel_rfl)) (by kernel_rfl) ?_
    intro s
    conv => whnf
    intro b hb
    conv => whnf
    repeat' (first
      | (exfalso; first | omega | exact (by assumption : ¬ True) trivial | fail)
      | (refine ⟨Sub.refl _, ?_⟩)
      | (refine brA_split (fun h => ?_) (fun h => ?_) <;> (try rw [h]) <;> (try simp only [Bool.false_eq_true, Bool.true_eq_false, ↓reduceIte, decide_eq_true_eq, decide_eq_false_iff_not, Bool.not_eq_true', Bool.not_eq_false'] at h) <;> (conv => whnf))
      | (refine getB_of (by ((repeat (first | exact set_bx_same | assumption | refine (set_bx_other (by assumption)).trans ?_ | refine grow_bx.trans ?_)); done)) ?_; conv => whnf)
      | (refine ACalls.pure' ?_ (hn); rintro _ rfl; conv => whnf)
      | (refine DCall.pure ?_ (hn); conv => whnf)
      | (refine ACalls.pure' ?_ (hw); rintro _ rfl; conv => whnf)
      | (refine DCall.pure ?_ (hw); conv => whnf)
      | (rw [hz]; conv => whnf)
      | (refine getB_same ?_; conv => whnf)
      | (refine AWp.any (by kernel_rfl) (by kernel_rfl) (by kernel_rfl) ?_; conv => whnf)
      | (apply And.intro; (focus (first | omega | rfl | decide | exact Nat.le_of_ble_eq_true rfl | ((repeat' (first | exact all_nil | refine all_cons ?_ ?_ | rfl | fail)); done) | (simp [-List.length_flatMap]; done) | (simp [-List.length_flatMap]; omega) | fail)); conv => whnf)
      | fail)
    all_goals refine ⟨((Sub.refl _).set hb _ _).set hb _ _, ?_⟩
    · rw [lettersF, if_pos (hd.2 ⟨by omega, by omega⟩), if_pos hE]
      rfl
    · rw [lettersF, if_neg (fun hh => by have := hd.1 hh; omega), if_pos (by omega)]
      rfl
    · rw [lettersF, if_neg (fun hh => by have := hd.1 hh; omega), if_neg (by omega), if_pos (by assumption)]
      rfl
    · rw [lettersF, if_neg (fun hh => by have := hd.1 hh; omega), if_neg (by omega), if_neg (by simp_all)]
      rfl
    · rw [lettersF, if_neg (fun hh => by have := hd.1 hh; omega), if_pos (by omega)]
      rfl
    · rw [lettersF, if_neg (fun hh => by have := hd.1 hh; omega), if_neg (by omega), if_pos (by assumption)]
      rfl
    · rw [lettersF, if_neg (fun hh => by have := hd.1 hh; omega), if_neg (by omega), if_neg (by simp_all)]
      rfl
  · rw [numA_bad rfl hE] at hn
    unfold tokC oddA at hn
    refine APure.of_awp Tryd.func20 rfl (Nat.le_of_ble_eq_true (by kernel_rfl)) (by kernel_rfl) ?_
    intro s
    conv => whnf
    intro b hb
    conv => whnf
    repeat' (first
      | (exfalso; first | omega | exact (by assumption : ¬ True) trivial | fail)
      | (refine ⟨Sub.refl _, ?_⟩)
      | (refine brA_split (fun h => ?_) (fun h => ?_) <;> (try rw [h]) <;> (try simp only [Bool.false_eq_true, Bool.true_eq_false, ↓reduceIte, decide_eq_true_eq, decide_eq_false_iff_not, Bool.not_eq_true', Bool.not_eq_false'] at h) <;> (conv => whnf))
      | (refine getB_of (by ((repeat (first | exact set_bx_same | assumption | refine (set_bx_other (by assumption)).trans ?_ | refine grow_bx.trans ?_)); done)) ?_; conv => whnf)
      | (refine ACalls.pure' ?_ (hn); rintro _ rfl; conv => whnf)
      | (refine DCall.pure ?_ (hn); conv => whnf)
      | (refine ACalls.pure' ?_ (hw); rintro _ rfl; conv => whnf)
      | (refine DCall.pure ?_ (hw); conv => whnf)
      | (rw [hz]; conv => whnf)
      | (refine getB_same ?_; conv => whnf)
      | (refine AWp.any (by kernel_rfl) (by kernel_rfl) (by kernel_rfl) ?_; conv => whnf)
      | (apply And.intro; (focus (first | omega | rfl | decide | exact Nat.le_of_ble_eq_true rfl | ((repeat' (first | exact all_nil | refine all_cons ?_ ?_ | rfl | fail)); done) | (simp [-List.length_flatMap]; done) | (simp [-List.length_flatMap]; omega) | fail)); conv => whnf)
      | fail)
    all_goals refine ⟨((Sub.refl _).set hb _ _).set hb _ _, ?_⟩
    · rw [lettersF, if_pos (hd.2 ⟨by omega, by omega⟩), if_neg hE]
      rfl
    · rw [lettersF, if_neg (fun hh => by have := hd.1 hh; omega), if_pos (by omega)]
      rfl
    · rw [lettersF, if_neg (fun hh => by have := hd.1 hh; omega), if_neg (by omega), if_pos (by assumption)]
      rfl
    · rw [lettersF, if_neg (fun hh => by have := hd.1 hh; omega), if_neg (by omega), if_neg (by simp_all)]
      rfl
    · rw [lettersF, if_neg (fun hh => by have := hd.1 hh; omega), if_pos (by omega)]
      rfl
    · rw [lettersF, if_neg (fun hh => by have := hd.1 hh; omega), if_neg (by omega), if_pos (by assumption)]
      rfl
    · rw [lettersF, if_neg (fun hh => by have := hd.1 hh; omega), if_neg (by omega), if_neg (by simp_all)]
      rfl
/-- How many letters a text begins with. -/
def letN : List UInt8 → Nat
  | [] => 0
  | c :: r => if wordc c.toNat = true then letN r + 1 else 0
theorem letN_le : ∀ l : List UInt8, letN l ≤ l.length
  | [] => Nat.le_refl _
  | c :: r => by
    have := letN_le r
    unfold letN
    split
    · simp only [List.length_cons]; omega
    · omega
theorem letN_at {l : List UInt8} {i : Nat} (h : i < l.length) : letN (l.drop i) = if wordc (byteAt l i).toNat = true then letN (l.drop (i + 1)) + 1 else 0 := by rw [drop_byte h, letN]
/-- The token that a text begins with, and of how many bytes; or what is wrong with it. -/
def firstF (l : List UInt8) : Except Int (Int × List UInt8 × Nat) :=
  if byteAt l 0 = 34 then (match Qu.cut l with
    | none => .error 17
    | some (t, k) => if 4096 < t.length then .error 3 else .ok (4, t, k))
  else if letN l = 0 then (if signOf l = [] then .error 15 else .ok (5, signOf l, (signOf l).length))
  else match lettersF (l.take (letN l)) with
    | .error e => .error e
    | .ok (k, t) => .ok (k, t, letN l)
def firstA (l : List UInt8) : AV :=
  match firstF l with
  | .ok (k, t, n) => .tuple [tokC k t, .int .i64 n, .nilIface]
  | .error e => .tuple [tokC 0 [], .int .i64 (if byteAt l 0 = 34 then 0 else letN l : Nat), oddA e]
def QTabs (Γ : Nat → AV) : Prop := Qu.Tabs Γ
theorem quoted_ok (hQ : Qu.Tabs Γ) (l : List UInt8) (hl : l.length ≤ 1048576) (h34 : byteAt l 0 = 34) : APure Tryd.prog Γ 18 [.str l] fun v => v = firstA l := by
  rcases hc : Qu.cut l with _ | ⟨t, k⟩
  · have hq := Qu.progCut_none hQ l hl hc
    have hf : firstA l = .tuple [tokC 0 [], .int .i64 0, oddA 17] := by unfold firstA firstF; rw [if_pos h34, hc]; simp only [if_pos h34]; rfl
    rw [hf]
    refine APure.of_awp Tryd.func18 rfl (Nat.le_of_ble_eq_true (by kernel_rfl)) (by kernel_rfl) ?_
    intro s
    conv => whnf
    intro b hb
    conv => whnf
    repeat' (first
      | (exfalso; first | omega | exact (by assumption : ¬ True) trivial | fail)
      | (refine ⟨Sub.refl _, ?_⟩)
      | (refine brA_split (fun h => ?_) (fun h => ?_) <;> (try rw [h]) <;> (try simp only [Bool.false_eq_true, Bool.true_eq_false, ↓reduceIte, decide_eq_true_eq, decide_eq_false_iff_not, Bool.not_eq_true', Bool.not_eq_false'] at h) <;> (conv => whnf))
      | (refine getB_of (by ((repeat (first | exact set_bx_same | assumption | refine (set_bx_other (by assumption)).trans ?_ | refine grow_bx.trans ?_)); done)) ?_; conv => whnf)
      | (refine ACalls.pure' ?_ (hq); rintro _ rfl; conv => whnf)
      | (refine DCall.pure ?_ (hq); conv => whnf)
      | (refine getB_same ?_; conv => whnf)
      | (refine AWp.any (by kernel_rfl) (by kernel_rfl) (by kernel_rfl) ?_; conv => whnf)
      | (apply And.intro; (focus (first | omega | rfl | decide | exact Nat.le_of_ble_eq_true rfl | ((repeat' (first | exact all_nil | refine all_cons ?_ ?_ | rfl | fail)); done) | (simp [-List.length_flatMap]; done) | (simp [-List.length_flatMap]; omega) | fail)); conv => whnf)
      | fail)
    exact ⟨((Sub.refl _).set hb _ _).set hb _ _, rfl⟩
  · have hq := Qu.progCut_some hQ l hl hc
    by_cases ht : 4096 < t.length
    · have hf : firstA l = .tuple [tokC 0 [], .int .i64 0, oddA 3] := by unfold firstA firstF; rw [if_pos h34, hc]; simp only [if_pos ht, if_pos h34]; rfl
      rw [hf]
      refine APure.of_awp Tryd.func18 rfl (Nat.le_of_ble_eq_true (by kernel_rfl)) (by kernel_rfl) ?_
      intro s
      conv => whnf
      intro b hb
      conv => whnf
      repeat' (first
        | (exfalso; first | omega | exact (by assumption : ¬ True) trivial | fail)
        | (refine ⟨Sub.refl _, ?_⟩)
        | (refine brA_split (fun h => ?_) (fun h => ?_) <;> (try rw [h]) <;> (try simp only [Bool.false_eq_true, Bool.true_eq_false, ↓reduceIte, decide_eq_true_eq, decide_eq_false_iff_not, Bool.not_eq_true', Bool.not_eq_false'] at h) <;> (conv => whnf))
        | (refine getB_of (by ((repeat (first | exact set_bx_same | assumption | refine (set_bx_other (by assumption)).trans ?_ | refine grow_bx.trans ?_)); done)) ?_; conv => whnf)
        | (refine ACalls.pure' ?_ (hq); rintro _ rfl; conv => whnf)
        | (refine DCall.pure ?_ (hq); conv => whnf)
        | (refine getB_same ?_; conv => whnf)
        | (refine AWp.any (by kernel_rfl) (by kernel_rfl) (by kernel_rfl) ?_; conv => whnf)
        | (apply And.intro; (focus (first | omega | rfl | decide | exact Nat.le_of_ble_eq_true rfl | ((repeat' (first | exact all_nil | refine all_cons ?_ ?_ | rfl | fail)); done) | (simp [-List.length_flatMap]; done) | (simp [-List.length_flatMap]; omega) | fail)); conv => whnf)
        | fail)
      exact ⟨((Sub.refl _).set hb _ _).set hb _ _, rfl⟩
    · have hf : firstA l = .tuple [tokC 4 t, .int .i64 k, .nilIface] := by unfold firstA firstF; rw [if_pos h34, hc]; simp only [if_neg ht]
      rw [hf]
      refine APure.of_awp Tryd.func18 rfl (Nat.le_of_ble_eq_true (by kernel_rfl)) (by kernel_rfl) ?_
      intro s
      conv => whnf
      intro b hb
      conv => whnf
      repeat' (first
        | (exfalso; first | omega | exact (by assumption : ¬ True) trivial | fail)
        | (refine ⟨Sub.refl _, ?_⟩)
        | (refine brA_split (fun h => ?_) (fun h => ?_) <;> (try rw [h]) <;> (try simp only [Bool.false_eq_true, Bool.true_eq_false, ↓reduceIte, decide_eq_true_eq, decide_eq_false_iff_not, Bool.not_eq_true', Bool.not_eq_false'] at h) <;> (conv => whnf))
        | (refine getB_of (by ((repeat (first | exact set_bx_same | assumption | refine (set_bx_other (by assumption)).trans ?_ | refine grow_bx.trans ?_)); done)) ?_; conv => whnf)
        | (refine ACalls.pure' ?_ (hq); rintro _ rfl; conv => whnf)
        | (refine DCall.pure ?_ (hq); conv => whnf)
        | (refine getB_same ?_; conv => whnf)
        | (refine AWp.any (by kernel_rfl) (by kernel_rfl) (by kernel_rfl) ?_; conv => whnf)
        | (apply And.intro; (focus (first | omega | rfl | decide | exact Nat.le_of_ble_eq_true rfl | ((repeat' (first | exact all_nil | refine all_cons ?_ ?_ | rfl | fail)); done) | (simp [-List.length_flatMap]; done) | (simp [-List.length_flatMap]; omega) | fail)); conv => whnf)
        | fail)
      exact ⟨((Sub.refl _).set hb _ _).set hb _ _, rfl⟩
end Go.Proofs.YtnelknhacamboaaDoor.Lx
