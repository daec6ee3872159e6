
/- Chapter 2: what is cut from a text. -/
import Derived.Test.YtcgobgnbpeageaaGreatDoorQuB
import Derived.Test.YtcgobgnbpeageaaGreatDoorIx1
set_option linter.all false
namespace Go.Proofs.YtcgobgnbpeageaaGreatDoor.Qu
open Go Go.Ab Go.Proofs.YtcgobgnbpeageaaGreatDoor.Bd Go.Proofs.YtcgobgnbpeageaaGreatDoor.Ix
attribute [local irreducible] APure Sto.set Sto.grow
set_option maxRecDepth 10000
variable {Γ : Nat → AV}

theorem contains_ok (t : Nat) (l : List UInt8) (n : Int) (hl : l.length ≤ 140737488355328) : APure Tryz.prog Γ 90 [.slice t (bytesA l), .int .u8 n] fun v => v = .bool (decide (0 ≤ idxOf l n)) := by
  refine APure.of_awp Tryz.func90 rfl (Nat.le_of_ble_eq_true (by kernel_rfl)) (by kernel_rfl) ?_
  intro s
  conv => whnf
  repeat' (first
    | (refine ⟨Sub.refl _, ?_⟩)
    | (refine brA_split (fun h => ?_) (fun h => ?_) <;> (try rw [h]) <;> (try simp only [Bool.false_eq_true, Bool.true_eq_false, ↓reduceIte, decide_eq_true_eq, decide_eq_false_iff_not, Bool.not_eq_true', Bool.not_eq_false'] at h) <;> (conv => whnf))
    | (refine ACalls.pure' ?_ (index_ok _ _ _ hl); rintro _ rfl; conv => whnf)
    | (refine DCall.pure ?_ (index_ok _ _ _ hl); conv => whnf)
    | (refine getB_same ?_; conv => whnf)
    | (refine AWp.any (by kernel_rfl) (by kernel_rfl) (by kernel_rfl) ?_; conv => whnf)
    | (apply And.intro; (focus (first | omega | rfl | decide | exact Nat.le_of_ble_eq_true rfl | ((repeat' (first | exact all_nil | refine all_cons ?_ ?_ | rfl | fail)); done) | (simp [-List.length_flatMap]; done) | (simp [-List.length_flatMap]; omega) | fail)); conv => whnf)
    | fail)
  rfl

/-- A digit's worth, or -1. -/
def worth (b : UInt8) : Int := Lib.indexByte digits b
theorem worth_ge (b : UInt8) : -1 ≤ worth b := Lib.indexByte_ge digits b
theorem worth_lt (b : UInt8) : worth b < 16 := by
  have h : ∀ n : Nat, n < 256 → worth (UInt8.ofNat n) < 16 := by decide +kernel
  simpa using h b.toNat (u8_lt b)

theorem takeDigit_ok {s : Sto} {b : Nat} {l : List UInt8} (k : Nat) (hk : k < l.length) (hb : s.bx b = some (9, [.str l])) :
    ACalls Tryz.prog Γ 88 [.int .i64 k, .ptr (some ⟨b, 0, none⟩)] s fun v s' => v = .int .i64 (worth (byteAt l k)) ∧ s' = s := by
  refine ACalls.of_awp Tryz.func88 rfl (Nat.le_of_ble_eq_true (by kernel_rfl)) (awp_ok _ (by kernel_rfl) ?_)
  conv => whnf
  rw [hb]
  conv => whnf
  repeat' (first
    | (refine ⟨Sub.refl _, ?_⟩)
    | (refine brA_split (fun h => ?_) (fun h => ?_) <;> (try rw [h]) <;> (try simp only [Bool.false_eq_true, Bool.true_eq_false, ↓reduceIte, decide_eq_true_eq, decide_eq_false_iff_not, Bool.not_eq_true', Bool.not_eq_false'] at h) <;> (conv => whnf))
    | (refine ACalls.pure' ?_ (indexByte_ok _ _); rintro _ rfl; conv => whnf)
    | (refine DCall.pure ?_ (indexByte_ok _ _); conv => whnf)
    | (refine getB_same ?_; conv => whnf)
    | (refine AWp.any (by kernel_rfl) (by kernel_rfl) (by kernel_rfl) ?_; conv => whnf)
    | (apply And.intro; (focus (first | omega | rfl | decide | exact Nat.le_of_ble_eq_true rfl | ((repeat' (first | exact all_nil | refine all_cons ?_ ?_ | rfl | fail)); done) | (simp [-List.length_flatMap]; done) | (simp [-List.length_flatMap]; omega) | fail)); conv => whnf)
    | fail)
  refine ⟨_, Sub.refl _, ?_, rfl⟩
  show AV.int .i64 (Lib.indexByte digits _) = _
  simp [worth]

/-- The byte that stands at the beginning, and of how many; 0: there is none. -/
def tk (l : List UInt8) : Int × Int :=
  if shown (byteAt l 0).toNat then ((byteAt l 0).toNat, 1)
  else if ¬ ((byteAt l 0).toNat : Int) = 92 ∨ l.length < 2 then (0, 0)
  else if ¬ ((byteAt l 1).toNat : Int) = 120 then
    (if idxOf letters (byteAt l 1).toNat < 0 then (0, 0) else ((byteAt marks (idxOf letters (byteAt l 1).toNat).toNat).toNat, 2))
  else if l.length < 4 ∨ worth (byteAt l 2) < 0 ∨ worth (byteAt l 3) < 0 then (0, 0)
  else if shown (worth (byteAt l 2) * 16 + worth (byteAt l 3)) ∨ 0 ≤ idxOf marks (worth (byteAt l 2) * 16 + worth (byteAt l 3)) then (0, 0)
  else (worth (byteAt l 2) * 16 + worth (byteAt l 3), 4)

theorem comb : ∀ a : Nat, a < 16 → ∀ b : Nat, b < 16 → IntKind.u8.wrap (IntKind.i64.wrap (BitVec.ofInt IntKind.i64.bits (IntKind.i64.wrap ((a : Int) * 2 ^ min (Int.toNat 4) IntKind.i64.bits)) ||| BitVec.ofInt IntKind.i64.bits (b : Int)).toNat) = ((a * 16 + b : Nat) : Int) := by decide +kernel
theorem comb_worth {x y : UInt8} (hx : ¬ worth x < 0) (hy : ¬ worth y < 0) :
    IntKind.u8.wrap (IntKind.i64.wrap (BitVec.ofInt IntKind.i64.bits (IntKind.i64.wrap (worth x * 2 ^ min (Int.toNat 4) IntKind.i64.bits)) ||| BitVec.ofInt IntKind.i64.bits (worth y)).toNat) = worth x * 16 + worth y := by
  have h1 := worth_lt x
  have h2 := worth_lt y
  obtain ⟨a, ha⟩ : ∃ a : Nat, worth x = a := ⟨(worth x).toNat, by omega⟩
  obtain ⟨b, hb⟩ : ∃ b : Nat, worth y = b := ⟨(worth y).toNat, by omega⟩
  rw [ha] at h1 hx ⊢
  rw [hb] at h2 hy ⊢
  rw [comb a (by omega) b (by omega)]
  simp
theorem take_ok (hT : Tabs Γ) (l : List UInt8) (h0 : 0 < l.length) (hl : l.length ≤ 140737488355328) :
    APure Tryz.prog Γ 72 [.str l] fun v => v = .tuple [.int .u8 (tk l).1, .int .i64 (tk l).2] := by
  refine APure.of_awp Tryz.func72 rfl (Nat.le_of_ble_eq_true (by kernel_rfl)) (by kernel_rfl) ?_
  intro s
  conv => whnf
  intro b hb
  conv => whnf
  have hi5 : idxOf letters (byteAt l (Int.toNat 1)).toNat < 5 := (idxOf_ge letters _).2
  repeat' (first
    | (refine ⟨Sub.refl _, ?_⟩)
    | (refine brA_split (fun h => ?_) (fun h => ?_) <;> (try rw [h]) <;> (try simp only [Bool.false_eq_true, Bool.true_eq_false, ↓reduceIte, decide_eq_true_eq, decide_eq_false_iff_not, Bool.not_eq_true', Bool.not_eq_false'] at h) <;> (conv => whnf))
    | (refine ACalls.pure' ?_ (shown_ok _); rintro _ rfl; conv => whnf)
    | (refine DCall.pure ?_ (shown_ok _); conv => whnf)
    | (rw [evA_glob, hT.marks]; conv => whnf)
    | (rw [evA_glob, hT.letters]; conv => whnf)
    | (refine ACalls.pure' ?_ (index_ok 0 letters _ (by decide)); rintro _ rfl; conv => whnf)
    | (refine DCall.pure ?_ (index_ok 0 letters _ (by decide)); conv => whnf)
    | (refine ACalls.pure' ?_ (contains_ok 0 marks _ (by decide)); rintro _ rfl; conv => whnf)
    | (refine DCall.pure ?_ (contains_ok 0 marks _ (by decide)); conv => whnf)
    | (refine ACalls.by (takeDigit_ok 2 (by omega) set_bx_same) ?_; rintro _ _ ⟨rfl, rfl⟩; conv => whnf)
    | (refine ACalls.by (takeDigit_ok 3 (by omega) set_bx_same) ?_; rintro _ _ ⟨rfl, rfl⟩; conv => whnf)
    | (refine getB_same ?_; conv => whnf)
    | (refine AWp.any (by kernel_rfl) (by kernel_rfl) (by kernel_rfl) ?_; conv => whnf)
    | (apply And.intro; (focus (first | omega | rfl | decide | exact Nat.le_of_ble_eq_true rfl | ((repeat' (first | exact all_nil | refine all_cons ?_ ?_ | rfl | fail)); done) | (simp [-List.length_flatMap]; done) | (simp [-List.length_flatMap]; omega) | fail)); conv => whnf)
    | fail)
  case right.right.refine_2.right.right.refine_2.refine_2.right.right.refine_1.right.right.right.right.right.refine_2.right.right =>
    have hc : idxOf letters (byteAt l (Int.toNat 1)).toNat = 0 ∨ idxOf letters (byteAt l (Int.toNat 1)).toNat = 1 ∨ idxOf letters (byteAt l (Int.toNat 1)).toNat = 2 ∨ idxOf letters (byteAt l (Int.toNat 1)).toNat = 3 ∨ idxOf letters (byteAt l (Int.toNat 1)).toNat = 4 := by omega
    simp only [show Int.toNat 0 = 0 from rfl, show Int.toNat 1 = 1 from rfl] at *
    rcases hc with hc | hc | hc | hc | hc
    all_goals
      rw [hc]
      conv => whnf
      refine ⟨(Sub.refl _).set hb _ _, ?_⟩
      have e0 : shown 92 = false := rfl
      have m0 : ((byteAt marks 0).toNat : Int) = 34 := rfl
      have m1 : ((byteAt marks 1).toNat : Int) = 92 := rfl
      have m2 : ((byteAt marks 2).toNat : Int) = 10 := rfl
      have m3 : ((byteAt marks 3).toNat : Int) = 13 := rfl
      have m4 : ((byteAt marks 4).toNat : Int) = 9 := rfl
      grind [tk, tupA]
  all_goals refine ⟨(Sub.refl _).set hb _ _, ?_⟩
  all_goals simp only [show Int.toNat 0 = 0 from rfl, show Int.toNat 1 = 1 from rfl] at *
  all_goals try simp only [comb_worth, *, not_false_eq_true] at *
  all_goals grind [tk, tupA, comb_worth]
end Go.Proofs.YtcgobgnbpeageaaGreatDoor.Qu
