
/- Chapter 2: the program's Cut and Unquote, the reference's Cut. -/
import Derived.Test.YtcgobgnbpeageaaGreatDoorQuD
set_option linter.all false
namespace Go.Proofs.YtcgobgnbpeageaaGreatDoor.Qu
open Go Go.Ab Go.Proofs.YtcgobgnbpeageaaGreatDoor.Bd Go.Proofs.YtcgobgnbpeageaaGreatDoor.Ix
attribute [local irreducible] APure Sto.set Sto.grow
set_option maxRecDepth 10000
variable {Γ : Nat → AV}

/-- What is cut behind the first quote, and of how many bytes. -/
def cutR : List UInt8 → Option (List UInt8 × Nat)
  | [] => none
  | b :: r => if b = 34 then some ([], 1) else if (tk (b :: r)).2 = 0 then none
    else (cutR (r.drop ((tk (b :: r)).2.toNat - 1))).map fun x => (UInt8.ofNat (tk (b :: r)).1.toNat :: x.1, x.2 + (tk (b :: r)).2.toNat)
termination_by l => l.length
decreasing_by simp only [List.length_drop, List.length_cons]; omega
def cut : List UInt8 → Option (List UInt8 × Nat)
  | [] => none
  | b :: r => if b = 34 then (cutR r).map fun x => (x.1, x.2 + 1) else none

theorem tk_bounds (l : List UInt8) (h : l ≠ []) : (tk l).1 = (UInt8.ofNat (tk l).1.toNat).toNat ∧ (tk l = (0, 0) ∨ 1 ≤ (tk l).2 ∧ (tk l).2 ≤ l.length) := by
  rcases tk_cases l h with ht | ⟨m, hm, r, rfl⟩
  · rw [ht]; exact ⟨rfl, .inl rfl⟩
  · rw [tk_of m hm]
    have : 1 ≤ (one (m : Int)).length := by
      have := one_pos (UInt8.ofNat m)
      simpa [Nat.mod_eq_of_lt hm] using this
    refine ⟨by simp [Nat.mod_eq_of_lt hm], .inr ⟨by simp; omega, by simp; omega⟩⟩

def pre (o : List UInt8) (i : Nat) (x : Option (List UInt8 × Nat)) : Option (List UInt8 × Nat) := x.map fun y => (o ++ y.1, i + y.2)

/-- One round. -/
theorem cut_round {l : List UInt8} {o : List UInt8} {i : Nat} (hi : i < l.length) (hq : byteAt l i ≠ 34) :
    ((tk (l.drop i)).2 = 0 → pre o i (cutR (l.drop i)) = none) ∧
    ((tk (l.drop i)).2 ≠ 0 → pre o i (cutR (l.drop i)) = pre (o ++ [UInt8.ofNat (tk (l.drop i)).1.toNat]) (i + (tk (l.drop i)).2.toNat) (cutR (l.drop (i + (tk (l.drop i)).2.toNat)))) := by
  have hd := drop_byte hi
  have hb := tk_bounds (l.drop i) (by rw [hd]; simp)
  constructor
  · intro h
    rw [hd] at h ⊢
    rw [cutR, if_neg hq, if_pos h]
    rfl
  · intro h
    have h2 : 1 ≤ (tk (l.drop i)).2 := by
      rcases hb.2 with hb | hb
      · rw [hb] at h; exact absurd rfl h
      · exact hb.1
    have e : l.drop (i + (tk (l.drop i)).2.toNat) = (l.drop (i + 1)).drop ((tk (l.drop i)).2.toNat - 1) := by
      rw [List.drop_drop]; congr 1; omega
    rw [e]
    rw [hd] at h ⊢
    rw [cutR, if_neg hq, if_neg h]
    simp only [pre, Option.map_map]
    congr 1
    funext y
    simp
    omega

/-- The cut of a text as an answer. -/
def cutA (b : Bool) (l : List UInt8) : List AV :=
  match cut l with
  | none => [.str [], .int .i64 0] ++ (if b then [.bool false] else [])
  | some (t, k) => [.str t, .int .i64 k] ++ (if b then [.bool true] else [])

theorem cutA_none {b : Bool} {l : List UInt8} (h : cut l = none) : cutA b l = [.str [], .int .i64 0] ++ (if b then [.bool false] else []) := by unfold cutA; rw [h]
theorem cutA_some {b : Bool} {l t : List UInt8} {k : Nat} (h : cut l = some (t, k)) : cutA b l = [.str t, .int .i64 k] ++ (if b then [.bool true] else []) := by unfold cutA; rw [h]
theorem cut_of {l : List UInt8} (h : 0 < l.length) : cut l = if byteAt l 0 = 34 then pre [] 1 (cutR (l.drop 1)) else none := by
  cases l with
  | nil => simp at h
  | cons b r =>
    show (if b = 34 then _ else none) = (if b = 34 then _ else none)
    split
    · simp only [pre, List.drop_succ_cons, List.drop_zero]
      congr 1
      funext y
      simp; omega
    · rfl
theorem byte_eq {b : UInt8} {n : Nat} (hn : n < 256) : (b.toNat : Int) = n ↔ b = UInt8.ofNat n := by
  constructor
  · intro h
    have : b.toNat = n := Int.ofNat.inj h
    rw [← this]; simp
  · rintro rfl
    simp [Nat.mod_eq_of_lt hn]

structure CutI (l : List UInt8) (s s' : Sto) (x : List UInt8 × Nat × Nat) : Prop where
  lo : 1 ≤ x.2.1
  hi : x.2.1 ≤ l.length
  len : x.1.length ≤ x.2.1
  own : Own s s' x.1.isEmpty x.2.2 5 1
  eq : cut l = pre x.1 x.2.1 (cutR (l.drop x.2.1))

theorem progCut_ok (hT : Tabs Γ) (l : List UInt8) (hl : l.length ≤ 1048576) : APure Tryz.prog Γ 51 [.str l] fun v => v = .tuple (cutA true l) := by
  refine APure.of_awp Tryz.func51 rfl (Nat.le_of_ble_eq_true (by kernel_rfl)) (by kernel_rfl) ?_
  intro s
  conv => whnf
  rcases Nat.eq_zero_or_pos l.length with hz | hpos
  · obtain rfl := List.eq_nil_of_length_eq_zero hz
    conv => whnf
    repeat' (first
      | (refine ⟨Sub.refl _, ?_⟩)
      | (refine brA_split (fun h => ?_) (fun h => ?_) <;> (try rw [h]) <;> (try simp only [Bool.false_eq_true, Bool.true_eq_false, ↓reduceIte, decide_eq_true_eq, decide_eq_false_iff_not, Bool.not_eq_true', Bool.not_eq_false'] at h) <;> (conv => whnf))
      | (refine getB_same ?_; conv => whnf)
      | (refine AWp.any (by kernel_rfl) (by kernel_rfl) (by kernel_rfl) ?_; conv => whnf)
      | (apply And.intro; (focus (first | omega | rfl | decide | exact Nat.le_of_ble_eq_true rfl | ((repeat' (first | exact all_nil | refine all_cons ?_ ?_ | rfl | fail)); done) | (simp [-List.length_flatMap]; done) | (simp [-List.length_flatMap]; omega) | fail)); conv => whnf)
      | fail)
    rfl
  repeat' (first
    | (refine ⟨Sub.refl _, ?_⟩)
    | (refine brA_split (fun h => ?_) (fun h => ?_) <;> (try rw [h]) <;> (try simp only [Bool.false_eq_true, Bool.true_eq_false, ↓reduceIte, decide_eq_true_eq, decide_eq_false_iff_not, Bool.not_eq_true', Bool.not_eq_false'] at h) <;> (conv => whnf))
    | (refine getB_same ?_; conv => whnf)
    | (refine AWp.any (by kernel_rfl) (by kernel_rfl) (by kernel_rfl) ?_; conv => whnf)
    | (apply And.intro; (focus (first | omega | rfl | decide | exact Nat.le_of_ble_eq_true rfl | ((repeat' (first | exact all_nil | refine all_cons ?_ ?_ | rfl | fail)); done) | (simp [-List.length_flatMap]; done) | (simp [-List.length_flatMap]; omega) | fail)); conv => whnf)
    | fail)
  · subst h; simp at hpos
  · rw [cutA_none (b := true)]
    · rfl
    rw [cut_of hpos, if_neg]
    intro hq
    apply h
    show ((byteAt l 0).toNat : Int) = 34
    rw [hq]; rfl
  · rename_i h1
    have hq : byteAt l 0 = 34 := (byte_eq (n := 34) (by decide)).1 h
    refine AWp.loopA [5, 6] [16, 17, 18, 19, 20, 21, 22, 23, 24, 25, 27, 28, 29, 30, 26, 31, 32, 7, 8, 33, 34, 2, 3, 4, 35, 36, 37, 38, 39, 40, 41] (fun x : List UInt8 × Nat × Nat => [.slice x.2.2 (bytesA x.1), .int .i64 x.2.1]) (fun x s' => CutI l s s' x) (fun x => l.length - x.2.1) (([], 1, 1)) (by kernel_rfl) (by (repeat' (first | refine cons_eq ?_ ?_ | refine int64_of ?_ ?_ ?_ | rfl | omega))) ?_ ?_
    · exact ⟨by simp, hpos, by simp, Own.nil _ _ _, by rw [cut_of hpos, if_pos hq]⟩
    · rintro x ⟨o, i, t⟩ s' ⟨h1, h2, h3, h4, h5⟩
      simp only at h1 h2 h3 h4 h5
      conv => whnf
      repeat' (first
        | (refine ⟨Sub.refl _, ?_⟩)
        | (refine brA_split (fun h => ?_) (fun h => ?_) <;> (try rw [h]) <;> (try simp only [Bool.false_eq_true, Bool.true_eq_false, ↓reduceIte, decide_eq_true_eq, decide_eq_false_iff_not, Bool.not_eq_true', Bool.not_eq_false'] at h) <;> (conv => whnf))
        | (refine ACalls.pure' ?_ (take_ok hT _ ?_ ?_); rintro _ rfl; conv => whnf)
        | (refine getB_same ?_; conv => whnf)
        | (refine AWp.any (by kernel_rfl) (by kernel_rfl) (by kernel_rfl) ?_; conv => whnf)
        | (apply And.intro; (focus (first | omega | rfl | decide | exact Nat.le_of_ble_eq_true rfl | ((repeat' (first | exact all_nil | refine all_cons ?_ ?_ | rfl | fail)); done) | (simp [-List.length_flatMap]; done) | (simp [-List.length_flatMap]; omega) | fail)); conv => whnf)
        | fail)
      · rename_i h6 h7
        simp only [Int.toNat_natCast, List.take_length] at h h7
        refine ⟨h4.sub, ?_⟩
        rw [cutA_none (b := true)]
        · rfl
        rw [h5]
        exact (cut_round (by omega) (fun hq => h7 ((byte_eq (n := 34) (by decide)).2 hq))).1 h
      · rename_i h6 h7
        simp only [Int.toNat_natCast, List.take_length] at h h7 ⊢
        have hr := (cut_round (o := o) (l := l) (i := i) (by omega) (fun hq => h7 ((byte_eq (n := 34) (by decide)).2 hq))).2 h
        have hb := tk_bounds (l.drop i) (by rw [drop_byte (by omega)]; simp)
        have hb2 : 1 ≤ (tk (l.drop i)).2 ∧ (tk (l.drop i)).2 ≤ (l.drop i).length := by
          rcases hb.2 with hb | hb
          · rw [hb] at h; exact absurd rfl h
          · exact hb
        have hb3 := hb2.2
        simp only [List.length_drop] at hb3
        refine ⟨h4.may, bytesA_all o, all_cons ⟨rfl, rfl⟩ all_nil, ?_, ?_⟩
        · show ((bytesA o).length + 1) * (1 + 1) ≤ _
          rw [bytesA_len]; omega
        intro t' k1 k2
        have k3 := h4.grow k1 k2
        conv => whnf
        refine ⟨(o ++ [UInt8.ofNat (tk (l.drop i)).1.toNat], i + (tk (l.drop i)).2.toNat, t'), ?_, by (repeat (first | exact Same.refl _ _ | refine Same.upd rfl ?_ | refine Same.updL rfl ?_ | refine Same.havoc rfl ?_)), ⟨by simp only; omega, by simp only; omega, by simp; omega, ?_, ?_⟩, by simp only; omega⟩
        · refine cons_eq ?_ (cons_eq (int64_of ?_ ?_ ?_) rfl)
          · show AV.slice t' _ = AV.slice t' _
            rw [bytesA_append]
            congr 2
            show [[AV.int .u8 (tk (List.drop _ _)).1]] = [[AV.int .u8 _]]
            rw [← hb.1]
          · show (i : Int) + _ = ((i + (tk (l.drop i)).2.toNat : Nat) : Int)
            omega
          · show _ ≤ ((i + (tk (l.drop i)).2.toNat : Nat) : Int)
            omega
          · show ((i + (tk (l.drop i)).2.toNat : Nat) : Int) ≤ _
            omega
        · have e : (o ++ [UInt8.ofNat (tk (l.drop i)).1.toNat]).isEmpty = (o.isEmpty && [[AV.int .u8 (tk (l.drop i)).1]].isEmpty) := by simp
          simp only
          rw [e]
          exact k3
        · exact h5.trans hr
      · simp; omega
      · simp; omega
      · exfalso; omega
      · rename_i h6 h7
        simp only [Int.toNat_natCast] at h7
        rw [unB_bytesA]
        conv => whnf
        refine ⟨h4.sub, ?_⟩
        rw [cutA_some (b := true) (t := o) (k := i + 1)]
        · show AV.tuple [.str o, .int .i64 (IntKind.i64.wrap (i + 1)), .bool true] = .tuple [.str o, .int .i64 ((i + 1 : Nat) : Int), .bool true]
          rw [i64_of (b := ((i + 1 : Nat) : Int)) (by omega) (by omega) (by omega)]
        · have hq' : byteAt l i = 34 := (byte_eq (n := 34) (by decide)).1 h7
          rw [h5, drop_byte (by omega), hq', cutR, if_pos rfl]
          simp [pre]
      · refine ⟨h4.sub, ?_⟩
        rw [cutA_none (b := true)]
        · rfl
        rw [h5, drop_end (by omega), cutR]
        rfl
      · exfalso; omega

theorem refCut_ok (l : List UInt8) (hl : l.length ≤ 1048576) : APure Tryz.prog Γ 37 [.str l] fun v => v = .tuple (cutA false l) := by
  refine APure.of_awp Tryz.func37 rfl (Nat.le_of_ble_eq_true (by kernel_rfl)) (by kernel_rfl) ?_
  intro s
  conv => whnf
  rcases Nat.eq_zero_or_pos l.length with hz | hpos
  · obtain rfl := List.eq_nil_of_length_eq_zero hz
    conv => whnf
    repeat' (first
      | (refine ⟨Sub.refl _, ?_⟩)
      | (refine brA_split (fun h => ?_) (fun h => ?_) <;> (try rw [h]) <;> (try simp only [Bool.false_eq_true, Bool.true_eq_false, ↓reduceIte, decide_eq_true_eq, decide_eq_false_iff_not, Bool.not_eq_true', Bool.not_eq_false'] at h) <;> (conv => whnf))
      | (refine getB_same ?_; conv => whnf)
      | (refine AWp.any (by kernel_rfl) (by kernel_rfl) (by kernel_rfl) ?_; conv => whnf)
      | (apply And.intro; (focus (first | omega | rfl | decide | exact Nat.le_of_ble_eq_true rfl | ((repeat' (first | exact all_nil | refine all_cons ?_ ?_ | rfl | fail)); done) | (simp [-List.length_flatMap]; done) | (simp [-List.length_flatMap]; omega) | fail)); conv => whnf)
      | fail)
    rfl
  repeat' (first
    | (refine ⟨Sub.refl _, ?_⟩)
    | (refine brA_split (fun h => ?_) (fun h => ?_) <;> (try rw [h]) <;> (try simp only [Bool.false_eq_true, Bool.true_eq_false, ↓reduceIte, decide_eq_true_eq, decide_eq_false_iff_not, Bool.not_eq_true', Bool.not_eq_false'] at h) <;> (conv => whnf))
    | (refine getB_same ?_; conv => whnf)
    | (refine AWp.any (by kernel_rfl) (by kernel_rfl) (by kernel_rfl) ?_; conv => whnf)
    | (apply And.intro; (focus (first | omega | rfl | decide | exact Nat.le_of_ble_eq_true rfl | ((repeat' (first | exact all_nil | refine all_cons ?_ ?_ | rfl | fail)); done) | (simp [-List.length_flatMap]; done) | (simp [-List.length_flatMap]; omega) | fail)); conv => whnf)
    | fail)
  · omega
  · rw [cutA_none (b := false)]
    · rfl
    rw [cut_of hpos, if_neg]
    intro hq
    apply h
    show ((byteAt l 0).toNat : Int) = 34
    rw [hq]; rfl
  · rename_i h1
    have hq : byteAt l 0 = 34 := (byte_eq (n := 34) (by decide)).1 h
    refine AWp.loopA [4, 5] [16, 17, 18, 19, 20, 21, 22, 23, 24, 25, 27, 28, 29, 30, 26, 31, 32, 6, 7, 33, 34, 2, 3, 35, 36, 37, 38, 39, 40, 41] (fun x : List UInt8 × Nat × Nat => [.slice x.2.2 (bytesA x.1), .int .i64 x.2.1]) (fun x s' => CutI l s s' x) (fun x => l.length - x.2.1) (([], 1, 1)) (by kernel_rfl) (by (repeat' (first | refine cons_eq ?_ ?_ | refine int64_of ?_ ?_ ?_ | rfl | omega))) ?_ ?_
    · exact ⟨by simp, hpos, by simp, Own.nil _ _ _, by rw [cut_of hpos, if_pos hq]⟩
    · rintro x ⟨o, i, t⟩ s' ⟨h1, h2, h3, h4, h5⟩
      simp only at h1 h2 h3 h4 h5
      conv => whnf
      repeat' (first
        | (refine ⟨Sub.refl _, ?_⟩)
        | (refine brA_split (fun h => ?_) (fun h => ?_) <;> (try rw [h]) <;> (try simp only [Bool.false_eq_true, Bool.true_eq_false, ↓reduceIte, decide_eq_true_eq, decide_eq_false_iff_not, Bool.not_eq_true', Bool.not_eq_false'] at h) <;> (conv => whnf))
        | (refine ACalls.pure' ?_ (byteOf_ok _ ?_ ?_); rintro _ rfl; conv => whnf)
        | (refine getB_same ?_; conv => whnf)
        | (refine AWp.any (by kernel_rfl) (by kernel_rfl) (by kernel_rfl) ?_; conv => whnf)
        | (apply And.intro; (focus (first | omega | rfl | decide | exact Nat.le_of_ble_eq_true rfl | ((repeat' (first | exact all_nil | refine all_cons ?_ ?_ | rfl | fail)); done) | (simp [-List.length_flatMap]; done) | (simp [-List.length_flatMap]; omega) | fail)); conv => whnf)
        | fail)
      · rename_i h6 h7
        simp only [Int.toNat_natCast, List.take_length] at h h7
        refine ⟨h4.sub, ?_⟩
        rw [cutA_none (b := false)]
        · rfl
        rw [h5]
        exact (cut_round (by omega) (fun hq => h7 ((byte_eq (n := 34) (by decide)).2 hq))).1 h
      · rename_i h6 h7
        simp only [Int.toNat_natCast, List.take_length] at h h7 ⊢
        have hr := (cut_round (o := o) (l := l) (i := i) (by omega) (fun hq => h7 ((byte_eq (n := 34) (by decide)).2 hq))).2 h
        have hb := tk_bounds (l.drop i) (by rw [drop_byte (by omega)]; simp)
        have hb2 : 1 ≤ (tk (l.drop i)).2 ∧ (tk (l.drop i)).2 ≤ (l.drop i).length := by
          rcases hb.2 with hb | hb
          · rw [hb] at h; exact absurd rfl h
          · exact hb
        have hb3 := hb2.2
        simp only [List.length_drop] at hb3
        refine ⟨h4.may, bytesA_all o, all_cons ⟨rfl, rfl⟩ all_nil, ?_, ?_⟩
        · show ((bytesA o).length + 1) * (1 + 1) ≤ _
          rw [bytesA_len]; omega
        intro t' k1 k2
        have k3 := h4.grow k1 k2
        conv => whnf
        refine ⟨(o ++ [UInt8.ofNat (tk (l.drop i)).1.toNat], i + (tk (l.drop i)).2.toNat, t'), ?_, by (repeat (first | exact Same.refl _ _ | refine Same.upd rfl ?_ | refine Same.updL rfl ?_ | refine Same.havoc rfl ?_)), ⟨by simp only; omega, by simp only; omega, by simp; omega, ?_, ?_⟩, by simp only; omega⟩
        · refine cons_eq ?_ (cons_eq (int64_of ?_ ?_ ?_) rfl)
          · show AV.slice t' _ = AV.slice t' _
            rw [bytesA_append]
            congr 2
            show [[AV.int .u8 (tk (List.drop _ _)).1]] = [[AV.int .u8 _]]
            rw [← hb.1]
          · show (i : Int) + _ = ((i + (tk (l.drop i)).2.toNat : Nat) : Int)
            omega
          · show _ ≤ ((i + (tk (l.drop i)).2.toNat : Nat) : Int)
            omega
          · show ((i + (tk (l.drop i)).2.toNat : Nat) : Int) ≤ _
            omega
        · have e : (o ++ [UInt8.ofNat (tk (l.drop i)).1.toNat]).isEmpty = (o.isEmpty && [[AV.int .u8 (tk (l.drop i)).1]].isEmpty) := by simp
          simp only
          rw [e]
          exact k3
        · exact h5.trans hr
      · intro hn; have := congrArg List.length hn; simp at this; omega
      · simp; omega
      · exfalso; omega
      · rename_i h6 h7
        simp only [Int.toNat_natCast] at h7
        rw [unB_bytesA]
        conv => whnf
        refine ⟨h4.sub, ?_⟩
        rw [cutA_some (b := false) (t := o) (k := i + 1)]
        · show AV.tuple [.str o, .int .i64 (IntKind.i64.wrap (i + 1))] = .tuple [.str o, .int .i64 ((i + 1 : Nat) : Int)]
          rw [i64_of (b := ((i + 1 : Nat) : Int)) (by omega) (by omega) (by omega)]
        · have hq' : byteAt l i = 34 := (byte_eq (n := 34) (by decide)).1 h7
          rw [h5, drop_byte (by omega), hq', cutR, if_pos rfl]
          simp [pre]
      · refine ⟨h4.sub, ?_⟩
        rw [cutA_none (b := false)]
        · rfl
        rw [h5, drop_end (by omega), cutR]
        rfl
      · exfalso; omega

end Go.Proofs.YtcgobgnbpeageaaGreatDoor.Qu
