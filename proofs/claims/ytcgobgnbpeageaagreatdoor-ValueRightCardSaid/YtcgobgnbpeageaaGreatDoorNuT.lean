/- Chapter 1: the number of a text: what the program calls of the library. -/
import Derived.Test.YtcgobgnbpeageaaGreatDoorEr1
import Derived.Test.YtcgobgnbpeageaaGreatDoorShelf
import Derived.Test.YtcgobgnbpeageaaGreatDoorAb25
import Derived.Shelf.Strings.SlTrimAscii
import Derived.Handy
import Derived.Lib.AtoiErrMem
import Derived.Test.YtcgobgnbpeageaaGreatDoorNuB
import Derived.Test.YtcgobgnbpeageaaGreatDoorNuE
set_option linter.all false
namespace Go.Proofs.YtcgobgnbpeageaaGreatDoor.Nu
open Go Go.Ab Go.RowKit
set_option maxRecDepth 10000

def digs : List UInt8 := [48, 49, 50, 51, 52, 53, 54, 55, 56, 57]
def formB (l : List UInt8) : Bool :=
  let d := Lib.trimPrefix l [45]
  !decide (d = []) && !(decide ((byteAt d 0).toNat = 48) && decide (1 < l.length)) && decide (Lib.trimS d digs = [])
variable {Γ : Nat → AV}
theorem arr_toList (l : List UInt8) : (⟨l.toArray⟩ : ByteArray).data.toList = l := rfl
theorem trimPrefix_ok (l : List UInt8) : APure Tryz.prog Γ 73 [.str l, .str [45]] fun v => v = .str (Lib.trimPrefix l [45]) := by
  intro s
  refine ACalls.of_below fun G w vs hm hr => ?_
  obtain ⟨u, us, rfl, hu, hus⟩ := RList_cons.1 hr
  obtain ⟨u1, us1, rfl, hu1, hus1⟩ := RList_cons.1 hus
  rw [RList_nil] at hus1; subst hus1
  rw [R_str] at hu hu1; subst hu hu1
  exact ⟨_, fun G' w' => R_str.2 rfl, (Tryz.strings_TrimPrefix ⟨l.toArray⟩ ⟨#[45]⟩ w).mono fun e w' ⟨he, hw⟩ => ⟨he, by subst hw; exact Below.refl _ _⟩⟩
theorem trim_ok (l : List UInt8) (hl : l.length ≤ 1048576) : APure Tryz.prog Γ 74 [.str l, .str digs] fun v => v = .str (Lib.trimS l digs) := by
  intro s
  refine ACalls.of_below fun G w vs hm hr => ?_
  obtain ⟨u, us, rfl, hu, hus⟩ := RList_cons.1 hr
  obtain ⟨u1, us1, rfl, hu1, hus1⟩ := RList_cons.1 hus
  rw [RList_nil] at hus1; subst hus1
  rw [R_str] at hu hu1; subst hu hu1
  exact ⟨_, fun G' w' => R_str.2 rfl, Any.strings_Trim_laid Tryz.lays160 (by kernel_rfl) ⟨l.toArray⟩ ⟨digs.toArray⟩ w (by show l.length ≤ _; omega) (by decide) (ascii_of_all (by decide))⟩
theorem trimPrefix_len (l : List UInt8) : (Lib.trimPrefix l [45]).length ≤ l.length := by
  unfold Lib.trimPrefix; split
  · simp
  · exact Nat.le_refl _
attribute [local irreducible] APure Sto.set Sto.grow
theorem bool_eq' {a b : Bool} (h : a = b) : AV.bool a = .bool b := by rw [h]
theorem form_ok (l : List UInt8) (hl : l.length ≤ 1048576) : APure Tryz.prog Γ 52 [.str l] fun v => v = .bool (formB l) := by
  have hd := trimPrefix_len l
  have hf : formB l = (!decide (Lib.trimPrefix l [45] = []) && !(decide ((byteAt (Lib.trimPrefix l [45]) 0).toNat = 48) && decide (1 < l.length)) && decide (Lib.trimS (Lib.trimPrefix l [45]) digs = [])) := rfl
  refine APure.of_awp Tryz.func52 rfl (Nat.le_of_ble_eq_true (by kernel_rfl)) (by kernel_rfl) ?_
  intro s
  conv => whnf
  have h0 : ¬ Lib.trimPrefix l [45] = [] → 0 < (Lib.trimPrefix l [45]).length := fun h => List.length_pos_iff.2 h
  have tk := fun Γ => trimPrefix_ok (Γ := Γ) l
  generalize Lib.trimPrefix l [45] = d at *
  repeat' (first
    | (refine ⟨Sub.refl _, ?_⟩)
    | (refine brA_split (fun h => ?_) (fun h => ?_) <;> (try rw [h]) <;> (try simp only [Bool.false_eq_true, Bool.true_eq_false, ↓reduceIte, decide_eq_true_eq, decide_eq_false_iff_not, Bool.not_eq_true', Bool.not_eq_false'] at h) <;> (conv => whnf))
    | (refine ACalls.pure' ?_ (tk _); rintro _ rfl; conv => whnf)
    | (refine DCall.pure ?_ (tk _); conv => whnf)
    | (refine ⟨by have := h0 h; (show (0 : Int).toNat < d.length); omega, ?_⟩; conv => whnf)
    | (refine ACalls.pure' ?_ (trim_ok d (by omega)); rintro _ rfl; conv => whnf)
    | (refine DCall.pure ?_ (trim_ok d (by omega)); conv => whnf)
    | (refine getB_same ?_; conv => whnf)
    | (refine AWp.any (by kernel_rfl) (by kernel_rfl) (by kernel_rfl) ?_; conv => whnf)
    | (apply And.intro; (focus (first | omega | rfl | decide | exact Nat.le_of_ble_eq_true rfl | ((repeat' (first | exact all_nil | refine all_cons ?_ ?_ | rfl | fail)); done) | (simp [-List.length_flatMap]; done) | (simp [-List.length_flatMap]; omega) | fail)); conv => whnf)
    | fail)
  all_goals refine bool_eq' ?_
  all_goals rw [hf]
  all_goals try simp only [show Int.toNat 0 = 0 from rfl] at *
  all_goals simp [*]
  all_goals omega
end Go.Proofs.YtcgobgnbpeageaaGreatDoor.Nu
/- Chapter 1: the number of a text, by the program. -/
namespace Go.Proofs.YtcgobgnbpeageaaGreatDoor.Nu
open Go Go.Ab Go.RowKit
variable {Γ : Nat → AV}
set_option maxRecDepth 10000
set_option maxHeartbeats 1000000

/-- What is known of the library's variable: an error of errors.New's. -/
def ErrR (Γ : Nat → AV) : Prop := ∃ txt, Γ 0 = .cptr [.iface 156 (.cptr [.str txt])]
theorem errR_cell (hE : ErrR Γ) {G : Gh} {s : Sto} {w : World} (hm : Mod Γ G s w) : ∃ b : Addr, w.cell? ⟨0, 0, none⟩ = some (.iface 156 (.pointer (some b))) := by
  obtain ⟨txt, hE⟩ := hE
  have h := (hm.glob 0).r
  rw [hE] at h
  obtain ⟨b, o, e, hc⟩ := R_cptr.1 h
  injection e with e; injection e with e; injection e with e1 e2 e3
  subst e1 e2
  unfold RCells at hc
  obtain ⟨_, ⟨u, hu, hr⟩, _⟩ := hc
  obtain ⟨z, rfl, hz⟩ := R_iface.1 hr
  obtain ⟨b, o, rfl, _⟩ := R_cptr.1 hz
  exact ⟨_, hu⟩
def numE (l : List UInt8) : Int := if formB l = true then (match Lib.parseIntB 64 l with | .ok _ => 0 | .range => 5 | Lib.NumEnd.syntax => 4) else 4
def numN (l : List UInt8) : Int := if formB l = true then (match Lib.parseIntB 64 l with | .ok v => v | _ => 0) else 0
theorem parse_run (l : List UInt8) (hl : l.length ≤ 1048576) (hE : ErrR Γ) (hs : formB l = true → Lib.parseIntB 64 l ≠ Lib.NumEnd.syntax) : APure Tryz.prog Γ 34 [.str l] fun v => v = .tuple [.int .i64 (numN l), .int .i64 (numE l)] := by
  intro s
  refine ⟨fun G w vs hm hr => ?_⟩
  obtain ⟨u, us, rfl, hu, hus⟩ := RList_cons.1 hr
  rw [RList_nil] at hus; subst hus
  rw [R_str] at hu; subst hu
  have cf := (form_ok l hl s).run G w [.string ⟨l.toArray⟩] hm (RList_cons.2 ⟨_, [], rfl, R_str.2 rfl, RList_nil.2 rfl⟩)
  go_enter Tryz.func34, Tryz.ntmps34
  go_wp2_with fail
  refine cf.mono ?_
  rintro e w1 ⟨v, av, s', G1, rfl, ⟨rfl, rfl⟩, hR, hm1, hX1⟩
  rw [R_bool] at hR; subst hR
  have done : ∀ (n e : Int) (w2 : World), numN l = n → numE l = e → Below w1.heap.size w1 w2 → ∃ v av s2 G', Ending.returned (.tuple #[.int .i64 n, .int .i64 e]) = Ending.returned v ∧ (av = AV.tuple [.int .i64 (numN l), .int .i64 (numE l)] ∧ s2 = s') ∧ R G' w2 av v ∧ Mod Γ G' s2 w2 ∧ Ext G w G' w2 := by
    rintro n e w2 rfl rfl hb2
    obtain ⟨m1, m2⟩ := hm1.below hb2
    exact ⟨_, _, _, G1, rfl, ⟨rfl, rfl⟩, R_tuple.2 ⟨_, rfl, RList_cons.2 ⟨_, _, rfl, R_int.2 rfl, RList_cons.2 ⟨_, _, rfl, R_int.2 rfl, RList_nil.2 rfl⟩⟩⟩, m1, hX1.trans m2⟩
  cases hf : formB l
  · go_wp2_with fail
    go_returns
    exact done 0 4 w1 (by unfold numN; rw [hf]; rfl) (by unfold numE; rw [hf]; rfl) (Below.refl _ _)
  · obtain ⟨b, hb⟩ := errR_cell hE hm1
    have hb0 : 0 < w1.heap.size := Nat.lt_of_not_le fun hge => by
      unfold World.cell? at hb
      rw [Array.getElem?_eq_none (by exact hge)] at hb
      cases hb
    cases hp : Lib.parseIntB 64 l with
    | ok n =>
      have cp := Tryz.strconv_ParseInt_10_at64_ok ⟨l.toArray⟩ (by show l.length ≤ _; omega) n hp w1
      go_wp2_with fail
      refine cp.mono ?_
      rintro e w2 ⟨rfl, hw2⟩
      have hB : Below w1.heap.size w1 w2 := by
        rcases hw2 with rfl | ⟨t, rfl⟩
        · exact Below.refl _ _
        · exact Lib.bytesWorld_below _ _ _
      have hb2 := (hB.cell (p := ⟨0, 0, none⟩) hb0).trans hb
      have ci := Er.is_nil b w2
      go_wp2_with fail
      refine ci.mono ?_
      rintro e w3 ⟨rfl, rfl⟩
      go_wp2_with fail
      go_returns
      exact done n 0 _ (by unfold numN; rw [hf, hp]; rfl) (by unfold numE; rw [hf, hp]; rfl) hB
    | range =>
      have cp := Tryz.strconv_ParseInt_10_at64_range ⟨l.toArray⟩ (by show l.length ≤ _; omega) hp _ w1 hb (.inr ⟨_, _, rfl⟩)
      go_wp2_with fail
      refine cp.mono ?_
      rintro e w2 ⟨N, rfl, hN1, hN2, hB⟩
      have hb2 := (hB.cell (p := ⟨0, 0, none⟩) hb0).trans hb
      have ci := Er.is_num N b _ _ _ w2 hN2
      go_wp2_with fail
      refine ci.mono ?_
      rintro e w3 ⟨rfl, rfl⟩
      go_wp2_with fail
      go_returns
      exact done 0 5 _ (by unfold numN; rw [hf, hp]; rfl) (by unfold numE; rw [hf, hp]; rfl) hB
    | _ => exact absurd hp (hs hf)
end Go.Proofs.YtcgobgnbpeageaaGreatDoor.Nu
/- Chapter 1: the number of a text: what it is. -/
namespace Go.Proofs.YtcgobgnbpeageaaGreatDoor.Nu
open Go Go.Ab Go.RowKit

def isD (c : UInt8) : Bool := decide (48 ≤ c.toNat) && decide (c.toNat ≤ 57)
theorem digs_contains : ∀ c : UInt8, digs.contains c = isD c := by
  intro c
  have : ∀ n : Nat, n < 256 → digs.contains (UInt8.ofNat n) = isD (UInt8.ofNat n) := by decide +kernel
  have h := this c.toNat c.toNat_lt
  rwa [UInt8.ofNat_toNat] at h
theorem dw_nil {p : UInt8 → Bool} : ∀ l : List UInt8, l.dropWhile p = [] ↔ ∀ x ∈ l, p x = true
  | [] => by simp
  | c :: r => by
    have ih := dw_nil (p := p) r
    rw [List.dropWhile_cons]
    cases h : p c
    · simp [h]
    · rw [if_pos rfl, ih]
      simp [h]
theorem trimS_nil (l : List UInt8) : (Lib.trimS l digs = []) ↔ l.all isD = true := by
  have hc : (fun c => digs.contains c) = isD := funext digs_contains
  unfold Lib.trimS Lib.trimLeftS Lib.trimRightS
  rw [hc]
  constructor
  · intro h
    rw [dw_nil] at h
    by_cases hn : l.reverse.dropWhile isD = []
    · rw [dw_nil] at hn
      exact List.all_eq_true.2 fun x hx => hn x (List.mem_reverse.2 hx)
    · have h1 := List.head_dropWhile_not isD hn
      have h2 := h _ (List.mem_reverse.2 (List.head_mem hn))
      rw [h1] at h2
      cases h2
  · intro h
    have : l.reverse.dropWhile isD = [] := (dw_nil _).2 fun x hx => List.all_eq_true.1 h x (List.mem_reverse.1 hx)
    rw [this]
    rfl
/-- Where the digits begin. -/
def from_ (l : List UInt8) : Nat := if byteAt l 0 = 45 then 1 else 0
theorem trimPrefix_drop (l : List UInt8) : Lib.trimPrefix l [45] = l.drop (from_ l) := by
  unfold Lib.trimPrefix Lib.hasPrefix from_
  cases l with
  | nil => rfl
  | cons c r =>
    by_cases h : c = 45
    · subst h; rfl
    · have h1 : ([45] : List UInt8).isPrefixOf (c :: r) = false := by
        simp [List.isPrefixOf, h]
        exact fun e => h e.symm
      rw [h1]
      simp [byteAt, h]
theorem form_eq (l : List UInt8) : formB l = (!decide (l.length ≤ from_ l) && !(decide ((byteAt l (from_ l)).toNat = 48) && decide (1 < l.length)) && (l.drop (from_ l)).all isD) := by
  unfold formB
  simp only [trimPrefix_drop]
  have h1 : decide (l.drop (from_ l) = []) = decide (l.length ≤ from_ l) := decide_eq_decide.2 List.drop_eq_nil_iff
  have h2 : byteAt (l.drop (from_ l)) 0 = byteAt l (from_ l) := by simp [byteAt, List.getD]
  have h3 : decide (Lib.trimS (l.drop (from_ l)) digs = []) = (l.drop (from_ l)).all isD := by
    rw [Bool.eq_iff_iff, decide_eq_true_iff]; exact trimS_nil _
  rw [h1, h2, h3]

def nv : List UInt8 → Nat → Nat
  | [], a => a
  | c :: r, a => nv r (a * 10 + (c.toNat - 48))
theorem nv_ge : ∀ (l : List UInt8) (a : Nat), a ≤ nv l a
  | [], a => Nat.le_refl _
  | c :: r, a => by
    have := nv_ge r (a * 10 + (c.toNat - 48))
    show a ≤ nv r _
    omega
theorem pu_digits : ∀ (d : List UInt8) (a : Nat), d.all isD = true → a ≤ 18446744073709551615 → Lib.parseUintM 18446744073709551615 a d = if nv d a ≤ 18446744073709551615 then .ok (nv d a) else .range
  | [], a => fun _ h => by unfold Lib.parseUintM nv; rw [if_pos h]
  | c :: r, a => fun h ha => by
    rw [List.all_cons, Bool.and_eq_true] at h
    have hd : 48 ≤ c.toNat ∧ c.toNat ≤ 57 := by simpa [isD] using h.1
    have hg := nv_ge r (a * 10 + (c.toNat - 48))
    unfold Lib.parseUintM nv
    rw [if_pos hd]
    split
    · rw [if_neg (by omega)]
    · split
      · rw [if_neg (by omega)]
      · exact pu_digits r _ h.2 (by omega)
/-- A text of a number's form: its digits' worth. -/
def worthN (l : List UInt8) : Nat := nv (l.drop (from_ l)) 0
theorem parse_form {l : List UInt8} (h : formB l = true) : Lib.parseIntB 64 l = if from_ l = 1 then (if worthN l ≤ 9223372036854775808 then .ok (-(worthN l : Int)) else .range) else (if worthN l < 9223372036854775808 then .ok (worthN l : Int) else .range) := by
  rw [form_eq, Bool.and_eq_true, Bool.and_eq_true] at h
  obtain ⟨⟨h1, h2⟩, h3⟩ := h
  have h1 : ¬ l.length ≤ from_ l := by simpa using h1
  have hne : l.drop (from_ l) ≠ [] := fun e => h1 (List.drop_eq_nil_iff.1 e)
  cases l with
  | nil => simp at h1
  | cons c r =>
    have hp := pu_digits ((c :: r).drop (from_ (c :: r))) 0 h3 (by omega)
    unfold Lib.parseIntB worthN
    by_cases hc : c = 45
    · subst hc
      have hf : from_ ((45 : UInt8) :: r) = 1 := rfl
      rw [hf] at hp hne ⊢
      simp only [List.drop_succ_cons, List.drop_zero] at hp hne ⊢
      have e1 : (if (45 : UInt8).toNat = 43 ∨ (45 : UInt8).toNat = 45 then r else (45 : UInt8) :: r) = r := rfl
      simp only [e1]
      unfold Lib.parseUintB
      rw [if_neg hne]
      rw [show 2 ^ 64 - 1 = 18446744073709551615 from rfl, hp]
      by_cases hv : nv r 0 ≤ 18446744073709551615
      · rw [if_pos hv]
        dsimp only
        have e2 : ¬ (¬ (45 : UInt8).toNat = 45 ∧ 2 ^ (64 - 1) ≤ nv r 0) := fun h => h.1 rfl
        rw [if_neg e2]
        by_cases h9 : nv r 0 ≤ 9223372036854775808
        · have e3 : ¬ ((45 : UInt8).toNat = 45 ∧ 2 ^ (64 - 1) < nv r 0) := fun h => by
            have h2 : 9223372036854775808 < nv r 0 := h.2
            omega
          rw [if_neg e3]
          simp only [if_true, h9]
          rfl
        · have e3 : (45 : UInt8).toNat = 45 ∧ 2 ^ (64 - 1) < nv r 0 := ⟨rfl, by show 9223372036854775808 < nv r 0; omega⟩
          rw [if_pos e3]
          simp only [if_true, h9, if_false]
      · have h9 : ¬ nv r 0 ≤ 9223372036854775808 := by omega
        rw [if_neg hv]
        simp only [if_true, h9, if_false]
    · have hf : from_ (c :: r) = 0 := by simp [from_, byteAt, hc]
      rw [hf] at hp hne h3 ⊢
      simp only [List.drop_zero] at hp hne h3 ⊢
      have hd : 48 ≤ c.toNat ∧ c.toNat ≤ 57 := by
        rw [List.all_cons, Bool.and_eq_true] at h3
        simpa [isD] using h3.1
      have e1 : (if c.toNat = 43 ∨ c.toNat = 45 then r else c :: r) = c :: r := if_neg (by omega)
      simp only [e1]
      unfold Lib.parseUintB
      rw [if_neg (by simp)]
      rw [show 2 ^ 64 - 1 = 18446744073709551615 from rfl, hp]
      have hn : ¬ c.toNat = 45 := by omega
      by_cases hv : nv (c :: r) 0 ≤ 18446744073709551615
      · rw [if_pos hv]
        dsimp only
        rw [if_neg (show ¬ (0 : Nat) = 1 by omega)]
        by_cases h9 : nv (c :: r) 0 < 9223372036854775808
        · rw [if_neg (by simp; omega), if_neg (by simp [hn]), if_neg hn, if_pos h9]
        · rw [if_pos (by simp [hn]; omega), if_neg h9]
      · rw [if_neg hv, if_neg (show ¬ (0 : Nat) = 1 by omega), if_neg (by omega)]
theorem no_syntax {l : List UInt8} (h : formB l = true) : Lib.parseIntB 64 l ≠ Lib.NumEnd.syntax := by
  rw [parse_form h]
  split <;> split <;> simp
end Go.Proofs.YtcgobgnbpeageaaGreatDoor.Nu
/- Chapter 1: the number of a text, by the document. -/
namespace Go.Proofs.YtcgobgnbpeageaaGreatDoor.Nu
open Go Go.Ab Go.RowKit
variable {Γ : Nat → AV}
attribute [local irreducible] APure Sto.set Sto.grow
set_option maxRecDepth 10000
set_option maxHeartbeats 1000000

theorem byte_eq45 (b : UInt8) : b = 45 ↔ (b.toNat : Int) = 45 := by
  constructor
  · rintro rfl; rfl
  · intro h
    exact UInt8.toNat_inj.1 (by have : b.toNat = 45 := by omega
                                exact this)
theorem drop_isD {l : List UInt8} {i : Nat} (h : i < l.length) : (l.drop i).all isD = (isD (byteAt l i) && (l.drop (i + 1)).all isD) := by
  rw [List.drop_eq_getElem_cons h, List.all_cons]
  simp [byteAt, List.getD, h]
theorem refForm_ok (l : List UInt8) (hl : l.length ≤ 1048576) : APure Tryz.prog Γ 57 [.str l] fun v => v = .bool (formB l) := by
  have hf := form_eq l
  have h45 := byte_eq45 (byteAt l 0)
  have hfr : from_ l = (if byteAt l 0 = 45 then 1 else 0) := rfl
  by_cases hb : byteAt l 0 = 45
  · have hbi := h45.1 hb
    rw [if_pos hb] at hfr
    rw [hfr] at hf
    clear h45 hb
    refine APure.of_awp Tryz.func57 rfl (Nat.le_of_ble_eq_true (by kernel_rfl)) (by kernel_rfl) ?_
    intro s
    conv => whnf
    repeat' (first
      | (exfalso; omega)
      | (refine ⟨Sub.refl _, ?_⟩)
      | (refine brA_split (fun h => ?_) (fun h => ?_) <;> (try rw [h]) <;> (try simp only [Bool.false_eq_true, Bool.true_eq_false, ↓reduceIte, decide_eq_true_eq, decide_eq_false_iff_not, Bool.not_eq_true', Bool.not_eq_false'] at h) <;> (conv => whnf))
      | (refine getB_same ?_; conv => whnf)
      | (refine AWp.any (by kernel_rfl) (by kernel_rfl) (by kernel_rfl) ?_; conv => whnf)
      | (apply And.intro; (focus (first | omega | rfl | decide | exact Nat.le_of_ble_eq_true rfl | ((repeat' (first | exact all_nil | refine all_cons ?_ ?_ | rfl | fail)); done) | (simp [-List.length_flatMap]; done) | (simp [-List.length_flatMap]; omega) | fail)); conv => whnf)
      | fail)
    all_goals try simp only [show Int.toNat 0 = 0 from rfl, show Int.toNat 1 = 1 from rfl] at *
    all_goals try (refine bool_eq' ?_; rw [hf]; first | (rw [decide_eq_true (p := l.length ≤ 1) (by omega)]; rfl) | (rw [decide_eq_true (p := (byteAt l 1).toNat = 48) (by omega), decide_eq_true (p := 1 < l.length) (by omega)]; simp))
    all_goals
      have hfd : formB l = (l.drop 1).all isD := by
        rw [hf, decide_eq_false (p := l.length ≤ 1) (by omega)]
        first
          | (rw [decide_eq_false (p := (byteAt l 1).toNat = 48) (by omega)]; simp)
          | (rw [decide_eq_false (p := 1 < l.length) (by omega)]; simp)
      refine AWp.loopA [4] [29, 30, 31, 32, 35, 36, 37, 38, 39, 40, 41, 42, 43, 44, 2, 33, 34] (fun i : Nat => [.int .i64 i]) (fun i s' => i ≤ l.length ∧ s' = s ∧ formB l = (l.drop i).all isD) (fun i => l.length - i) (1) (by kernel_rfl) (by (repeat' (first | refine cons_eq ?_ ?_ | refine int64_of ?_ ?_ ?_ | rfl | omega))) ?_ ?_
      · exact ⟨by omega, rfl, hfd⟩
      · rintro y i s1 ⟨hi, rfl, hp⟩
        conv => whnf
        repeat' (first
          | (exfalso; omega)
          | (refine ⟨Sub.refl _, ?_⟩)
          | (refine brA_split (fun h => ?_) (fun h => ?_) <;> (try rw [h]) <;> (try simp only [Bool.false_eq_true, Bool.true_eq_false, ↓reduceIte, decide_eq_true_eq, decide_eq_false_iff_not, Bool.not_eq_true', Bool.not_eq_false'] at h) <;> (conv => whnf))
          | (refine getB_same ?_; conv => whnf)
          | (refine AWp.any (by kernel_rfl) (by kernel_rfl) (by kernel_rfl) ?_; conv => whnf)
          | (apply And.intro; (focus (first | omega | rfl | decide | exact Nat.le_of_ble_eq_true rfl | ((repeat' (first | exact all_nil | refine all_cons ?_ ?_ | rfl | fail)); done) | (simp [-List.length_flatMap]; done) | (simp [-List.length_flatMap]; omega) | fail)); conv => whnf)
          | fail)
        all_goals try simp only [Int.toNat_natCast] at *
        all_goals first
          | (refine bool_eq' ?_
             rw [hp, drop_isD (by omega), show isD (byteAt l i) = false from by (unfold isD; simp; omega)]
             rfl)
          | (refine ⟨i + 1, by (repeat' (first | refine cons_eq ?_ ?_ | refine int64_of ?_ ?_ ?_ | rfl | omega)), by (repeat (first | exact Same.refl _ _ | refine Same.upd rfl ?_ | refine Same.updL rfl ?_ | refine Same.havoc rfl ?_)), ⟨by omega, (by first | rfl | trivial), ?_⟩, by omega⟩
             rw [hp, drop_isD (by omega), show isD (byteAt l i) = true from by (unfold isD; simp; omega), Bool.true_and])
          | (refine bool_eq' ?_
             rw [hp, drop_end (by omega)]
             rfl)
  · have hbi : ¬ ((byteAt l 0).toNat : Int) = 45 := fun h => hb (h45.2 h)
    rw [if_neg hb] at hfr
    rw [hfr] at hf
    clear h45 hb
    refine APure.of_awp Tryz.func57 rfl (Nat.le_of_ble_eq_true (by kernel_rfl)) (by kernel_rfl) ?_
    intro s
    conv => whnf
    repeat' (first
      | (exfalso; omega)
      | (refine ⟨Sub.refl _, ?_⟩)
      | (refine brA_split (fun h => ?_) (fun h => ?_) <;> (try rw [h]) <;> (try simp only [Bool.false_eq_true, Bool.true_eq_false, ↓reduceIte, decide_eq_true_eq, decide_eq_false_iff_not, Bool.not_eq_true', Bool.not_eq_false'] at h) <;> (conv => whnf))
      | (refine getB_same ?_; conv => whnf)
      | (refine AWp.any (by kernel_rfl) (by kernel_rfl) (by kernel_rfl) ?_; conv => whnf)
      | (apply And.intro; (focus (first | omega | rfl | decide | exact Nat.le_of_ble_eq_true rfl | ((repeat' (first | exact all_nil | refine all_cons ?_ ?_ | rfl | fail)); done) | (simp [-List.length_flatMap]; done) | (simp [-List.length_flatMap]; omega) | fail)); conv => whnf)
      | fail)
    all_goals try simp only [show Int.toNat 0 = 0 from rfl, show Int.toNat 1 = 1 from rfl] at *
    all_goals try (refine bool_eq' ?_; rw [hf]; first | (rw [decide_eq_true (p := l.length ≤ 0) (by omega)]; rfl) | (rw [decide_eq_true (p := (byteAt l 0).toNat = 48) (by omega), decide_eq_true (p := 1 < l.length) (by omega)]; simp))
    all_goals
      have hfd : formB l = (l.drop 0).all isD := by
        rw [hf, decide_eq_false (p := l.length ≤ 0) (by omega)]
        first
          | (rw [decide_eq_false (p := (byteAt l 0).toNat = 48) (by omega)]; simp)
          | (rw [decide_eq_false (p := 1 < l.length) (by omega)]; simp)
      refine AWp.loopA [4] [29, 30, 31, 32, 35, 36, 37, 38, 39, 40, 41, 42, 43, 44, 2, 33, 34] (fun i : Nat => [.int .i64 i]) (fun i s' => i ≤ l.length ∧ s' = s ∧ formB l = (l.drop i).all isD) (fun i => l.length - i) (0) (by kernel_rfl) (by (repeat' (first | refine cons_eq ?_ ?_ | refine int64_of ?_ ?_ ?_ | rfl | omega))) ?_ ?_
      · exact ⟨by omega, rfl, hfd⟩
      · rintro y i s1 ⟨hi, rfl, hp⟩
        conv => whnf
        repeat' (first
          | (exfalso; omega)
          | (refine ⟨Sub.refl _, ?_⟩)
          | (refine brA_split (fun h => ?_) (fun h => ?_) <;> (try rw [h]) <;> (try simp only [Bool.false_eq_true, Bool.true_eq_false, ↓reduceIte, decide_eq_true_eq, decide_eq_false_iff_not, Bool.not_eq_true', Bool.not_eq_false'] at h) <;> (conv => whnf))
          | (refine getB_same ?_; conv => whnf)
          | (refine AWp.any (by kernel_rfl) (by kernel_rfl) (by kernel_rfl) ?_; conv => whnf)
          | (apply And.intro; (focus (first | omega | rfl | decide | exact Nat.le_of_ble_eq_true rfl | ((repeat' (first | exact all_nil | refine all_cons ?_ ?_ | rfl | fail)); done) | (simp [-List.length_flatMap]; done) | (simp [-List.length_flatMap]; omega) | fail)); conv => whnf)
          | fail)
        all_goals try simp only [Int.toNat_natCast] at *
        all_goals first
          | (refine bool_eq' ?_
             rw [hp, drop_isD (by omega), show isD (byteAt l i) = false from by (unfold isD; simp; omega)]
             rfl)
          | (refine ⟨i + 1, by (repeat' (first | refine cons_eq ?_ ?_ | refine int64_of ?_ ?_ ?_ | rfl | omega)), by (repeat (first | exact Same.refl _ _ | refine Same.upd rfl ?_ | refine Same.updL rfl ?_ | refine Same.havoc rfl ?_)), ⟨by omega, (by first | rfl | trivial), ?_⟩, by omega⟩
             rw [hp, drop_isD (by omega), show isD (byteAt l i) = true from by (unfold isD; simp; omega), Bool.true_and])
          | (refine bool_eq' ?_
             rw [hp, drop_end (by omega)]
             rfl)
end Go.Proofs.YtcgobgnbpeageaaGreatDoor.Nu
/- Chapter 1: the number of a text, by the document. -/
namespace Go.Proofs.YtcgobgnbpeageaaGreatDoor.Nu
open Go Go.Ab Go.RowKit
variable {Γ : Nat → AV}
attribute [local irreducible] APure Sto.set Sto.grow
set_option maxRecDepth 10000
set_option maxHeartbeats 1000000

theorem num_form {l : List UInt8} (h : formB l = true) :
    numN l = (if from_ l = 1 then (if worthN l ≤ 9223372036854775808 then -(worthN l : Int) else 0) else (if worthN l < 9223372036854775808 then (worthN l : Int) else 0)) ∧
    numE l = (if from_ l = 1 then (if worthN l ≤ 9223372036854775808 then 0 else 5) else (if worthN l < 9223372036854775808 then 0 else 5)) := by
  unfold numN numE
  rw [if_pos h, if_pos h, parse_form h]
  by_cases h1 : from_ l = 1 <;> by_cases h2 : worthN l ≤ 9223372036854775808 <;> by_cases h3 : worthN l < 9223372036854775808 <;> simp [h1, h2, h3]
theorem num_over {l : List UInt8} (h : formB l = true) (hw : 9223372036854775808 < worthN l) : numN l = 0 ∧ numE l = 5 := by
  obtain ⟨h1, h2⟩ := num_form h
  rw [h1, h2]
  constructor
  · split
    · rw [if_neg (by omega)]
    · rw [if_neg (by omega)]
  · split
    · rw [if_neg (by omega)]
    · rw [if_neg (by omega)]
theorem form_digit {l : List UInt8} (h : formB l = true) {i : Nat} (h1 : from_ l ≤ i) (h2 : i < l.length) : 48 ≤ (byteAt l i).toNat ∧ (byteAt l i).toNat ≤ 57 := by
  rw [form_eq, Bool.and_eq_true] at h
  have := List.all_eq_true.1 h.2 (byteAt l i) (by
    rw [List.mem_iff_getElem]
    refine ⟨i - from_ l, by rw [List.length_drop]; omega, ?_⟩
    rw [List.getElem_drop]
    simp [byteAt, List.getD, show from_ l + (i - from_ l) = i by omega, h2])
  simpa [isD] using this
theorem form_long {l : List UInt8} (h : formB l = true) : from_ l < l.length := by
  rw [form_eq, Bool.and_eq_true, Bool.and_eq_true] at h
  have := h.1.1
  simp at this
  omega
theorem nv_drop {l : List UInt8} {i a : Nat} (h : i < l.length) : nv (l.drop i) a = nv (l.drop (i + 1)) (a * 10 + ((byteAt l i).toNat - 48)) := by
  rw [List.drop_eq_getElem_cons h]
  simp [nv, byteAt, List.getD, h]
theorem tup2 {a b c d : Int} (h : a = c ∧ b = d) : AV.tuple [.int .i64 a, .int .i64 b] = .tuple [.int .i64 c, .int .i64 d] := by rw [h.1, h.2]
theorem fine_false {x : Int} (h : fine x = false) : x < -9223372036854775808 ∨ 9223372036854775807 < x := by
  unfold fine at h; simp at h; omega
theorem refNumber_ok (l : List UInt8) (hl : l.length ≤ 1048576) : APure Tryz.prog Γ 38 [.str l] fun v => v = .tuple [.int .i64 (numN l), .int .i64 (numE l)] := by
  have f10 : Fits 10 := by unfold Fits; omega
  refine APure.of_awp Tryz.func38 rfl (Nat.le_of_ble_eq_true (by kernel_rfl)) (by kernel_rfl) ?_
  intro s
  conv => whnf
  repeat' (first
    | (refine ⟨Sub.refl _, ?_⟩)
    | (refine brA_split (fun h => ?_) (fun h => ?_) <;> (try rw [h]) <;> (try simp only [Bool.false_eq_true, Bool.true_eq_false, ↓reduceIte, decide_eq_true_eq, decide_eq_false_iff_not, Bool.not_eq_true', Bool.not_eq_false'] at h) <;> (conv => whnf))
    | (refine ACalls.pure' ?_ (refForm_ok l hl); rintro _ rfl; conv => whnf)
    | (refine DCall.pure ?_ (refForm_ok l hl); conv => whnf)
    | (refine getB_same ?_; conv => whnf)
    | (refine AWp.any (by kernel_rfl) (by kernel_rfl) (by kernel_rfl) ?_; conv => whnf)
    | (apply And.intro; (focus (first | omega | rfl | decide | exact Nat.le_of_ble_eq_true rfl | ((repeat' (first | exact all_nil | refine all_cons ?_ ?_ | rfl | fail)); done) | (simp [-List.length_flatMap]; done) | (simp [-List.length_flatMap]; omega) | fail)); conv => whnf)
    | fail)
  · refine tup2 ?_
    unfold numN numE
    rw [h]
    exact ⟨rfl, rfl⟩
  have hform : formB l = true := by assumption
  have hlong := form_long hform
  have hfr : from_ l = (if byteAt l 0 = 45 then 1 else 0) := rfl
  have h45 := byte_eq45 (byteAt l 0)
  have hfr1 : from_ l ≤ 1 := by rw [hfr]; split <;> omega
  have hfrm : from_ l = 1 ↔ ((byteAt l 0).toNat : Int) = 45 := by
    rw [← h45, hfr]
    split <;> simp_all
  clear h45 hfr
  refine AWp.loopA [5, 4] [15, 16, 17, 18, 21, 22, 23, 24, 26, 27, 25, 28, 29, 6, 7, 31, 32, 33, 34, 35, 36, 37, 30, 38, 39, 8, 9, 40, 41, 42, 43, 44, 45, 2, 3, 46, 19, 20] (fun p : Nat × Nat => [.int .i64 p.1, .int .i64 (-(p.2 : Int))]) (fun p s' => p.1 ≤ l.length ∧ s' = s ∧ p.2 ≤ 9223372036854775808 ∧ (p.1 < from_ l → p.2 = 0) ∧ nv (l.drop (max p.1 (from_ l))) p.2 = worthN l) (fun p => l.length - p.1) ((0, 0)) (by kernel_rfl) (by (repeat' (first | refine cons_eq ?_ ?_ | refine int64_of ?_ ?_ ?_ | rfl | omega))) ?_ ?_
  · exact ⟨by omega, rfl, by omega, fun _ => rfl, by unfold worthN; rw [Nat.max_eq_right (by omega)]⟩
  · rintro y ⟨i, a⟩ s1 ⟨hi, rfl, ha, hz, hv⟩
    dsimp only at hi ha hz hv
    have hfa : Fits (-(a : Int)) := by unfold Fits; omega
    have hdig := fun (h1 : from_ l ≤ i) (h2 : i < l.length) => form_digit hform h1 h2
    have hfd : Fits (IntKind.i64.wrap (IntKind.i64.wrap ((byteAt l i).toNat : Int) - 48)) := by
      have := u8_lt (byteAt l i)
      rw [show IntKind.i64.wrap ((byteAt l i).toNat : Int) = ((byteAt l i).toNat : Int) from i64_of rfl (by omega) (by omega), show IntKind.i64.wrap (((byteAt l i).toNat : Int) - 48) = ((byteAt l i).toNat : Int) - 48 from i64_of rfl (by omega) (by omega)]
      unfold Fits; omega
    have hwd : from_ l ≤ i → i < l.length → IntKind.i64.wrap (IntKind.i64.wrap ((byteAt l i).toNat : Int) - 48) = (((byteAt l i).toNat - 48 : Nat) : Int) := fun h1 h2 => by
      have := hdig h1 h2
      rw [show IntKind.i64.wrap ((byteAt l i).toNat : Int) = ((byteAt l i).toNat : Int) from i64_of rfl (by omega) (by omega), show IntKind.i64.wrap (((byteAt l i).toNat : Int) - 48) = ((byteAt l i).toNat : Int) - 48 from i64_of rfl (by omega) (by omega)]
      omega
    have hge : i < l.length → ¬ ((byteAt l i).toNat : Int) = 45 → from_ l ≤ i := fun h2 h3 => by
      refine Classical.byContradiction fun h4 => ?_
      have e : i = 0 := by omega
      subst e
      exact h3 (hfrm.1 (by omega))
    have hstep : from_ l ≤ i → i < l.length → nv (l.drop (i + 1)) (a * 10 + ((byteAt l i).toNat - 48)) = worthN l := fun h1 h2 => by
      rw [← nv_drop h2, ← hv, Nat.max_eq_left h1]
    have hend : ¬ i < l.length → a = worthN l := fun h2 => by
      rw [← hv, drop_end (by omega)]
      rfl
    conv => whnf
    repeat' (first
      | (exfalso; omega)
      | (refine ⟨Sub.refl _, ?_⟩)
      | (refine brA_split (fun h => ?_) (fun h => ?_) <;> (try rw [h]) <;> (try simp only [Bool.false_eq_true, Bool.true_eq_false, ↓reduceIte, decide_eq_true_eq, decide_eq_false_iff_not, Bool.not_eq_true', Bool.not_eq_false'] at h) <;> (conv => whnf))
      | (refine ACalls.pure' ?_ (refMul_ok _ _ hfa f10); rintro _ rfl; conv => whnf)
      | (refine DCall.pure ?_ (refMul_ok _ _ hfa f10); conv => whnf)
      | (refine ACalls.pure' ?_ (refSub_ok _ _ (fits_val _) hfd); rintro _ rfl; conv => whnf)
      | (refine DCall.pure ?_ (refSub_ok _ _ (fits_val _) hfd); conv => whnf)
      | (refine ACalls.pure' ?_ (refSub_ok _ _ fits0 hfa); rintro _ rfl; conv => whnf)
      | (refine DCall.pure ?_ (refSub_ok _ _ fits0 hfa); conv => whnf)
      | (refine getB_same ?_; conv => whnf)
      | (refine AWp.any (by kernel_rfl) (by kernel_rfl) (by kernel_rfl) ?_; conv => whnf)
      | (apply And.intro; (focus (first | omega | rfl | decide | exact Nat.le_of_ble_eq_true rfl | ((repeat' (first | exact all_nil | refine all_cons ?_ ?_ | rfl | fail)); done) | (simp [-List.length_flatMap]; done) | (simp [-List.length_flatMap]; omega) | fail)); conv => whnf)
      | fail)
    all_goals try simp only [Int.toNat_natCast] at *
    · have h9 : i < from_ l := Classical.byContradiction fun h4 => by
        have := hdig (by omega) (by omega)
        omega
      refine ⟨(i + 1, a), by (repeat' (first | refine cons_eq ?_ ?_ | refine int64_of ?_ ?_ ?_ | rfl | omega)), by (repeat (first | exact Same.refl _ _ | refine Same.upd rfl ?_ | refine Same.updL rfl ?_ | refine Same.havoc rfl ?_)), ⟨by dsimp only; omega, (by first | rfl | trivial), ha, fun _ => hz h9, ?_⟩, by dsimp only; omega⟩
      dsimp only
      rw [show max (i + 1) (from_ l) = max i (from_ l) by omega]
      exact hv
    · have h1 := hge (by omega) (by assumption)
      have h2 := nv_ge (l.drop (i + 1)) (a * 10 + ((byteAt l i).toNat - 48))
      rw [hstep h1 (by omega)] at h2
      have h3 := fine_false h
      obtain ⟨e1, e2⟩ := num_over hform (by omega)
      rw [e1, e2]
      rfl
    · have h1 := hge (by omega) (by assumption)
      have h2 := nv_ge (l.drop (i + 1)) (a * 10 + ((byteAt l i).toNat - 48))
      rw [hstep h1 (by omega)] at h2
      rw [hwd h1 (by omega)] at h
      rw [(fine_val (x := -(a : Int) * 10) (by assumption)).1] at h
      have h3 := fine_false h
      obtain ⟨e1, e2⟩ := num_over hform (by omega)
      rw [e1, e2]
      rfl
    · have h1 := hge (by omega) (by assumption)
      have hw := hwd h1 (by omega)
      rw [hw, (fine_val (x := -(a : Int) * 10) (by assumption)).1] at h
      obtain ⟨v1, v2, v3⟩ := fine_val h
      unfold Fits at v3
      refine ⟨(i + 1, a * 10 + ((byteAt l i).toNat - 48)), (by
        refine cons_eq (int64_of ?_ ?_ ?_) (cons_eq ?_ rfl)
        · dsimp only; omega
        · dsimp only; omega
        · dsimp only; omega
        · refine congrArg (AV.int .i64) ?_
          rw [hw, (fine_val (x := -(a : Int) * 10) (by assumption)).1, v1]
          dsimp only
          omega), by (repeat (first | exact Same.refl _ _ | refine Same.upd rfl ?_ | refine Same.updL rfl ?_ | refine Same.havoc rfl ?_)), ⟨by dsimp only; omega, (by first | rfl | trivial), by dsimp only; omega, fun h5 => by dsimp only at h5; omega, ?_⟩, by dsimp only; omega⟩
      dsimp only
      rw [Nat.max_eq_left (by omega)]
      exact hstep h1 (by omega)
    · have h0 : ((byteAt l 0).toNat : Int) = 45 := h
      have e := hend (by omega)
      obtain ⟨e1, e2⟩ := num_form hform
      rw [if_pos (hfrm.2 h0), if_pos (by omega)] at e1 e2
      rw [e1, e2, e]
      rfl
    · have h0 : ¬ ((byteAt l 0).toNat : Int) = 45 := by assumption
      have e := hend (by omega)
      have h3 := fine_false h
      obtain ⟨e1, e2⟩ := num_form hform
      rw [if_neg (fun h => h0 (hfrm.1 h)), if_neg (by omega)] at e1 e2
      rw [e1, e2]
      rfl
    · have h0 : ¬ ((byteAt l 0).toNat : Int) = 45 := by assumption
      have e := hend (by omega)
      obtain ⟨v1, v2, v3⟩ := fine_val h
      unfold Fits at v3
      obtain ⟨e1, e2⟩ := num_form hform
      rw [if_neg (fun h => h0 (hfrm.1 h)), if_pos (by omega)] at e1 e2
      rw [e1, e2, v1, ← e]
      refine congrArg (fun x => AV.tuple [.int .i64 x, .int .i64 0]) ?_
      omega
end Go.Proofs.YtcgobgnbpeageaaGreatDoor.Nu
