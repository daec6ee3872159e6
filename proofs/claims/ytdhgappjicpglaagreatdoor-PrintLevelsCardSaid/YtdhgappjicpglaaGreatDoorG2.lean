/- Part 2 of what the closing text needs: Er1, NuP, NuQ, NuR, NuA, Gr1, Pa0, PaA, PaB, PaC. No condition of mine beyond those that the theorems name. -/
import Derived.Test.YtdhgappjicpglaaGreatDoorG1
import Derived.Test.YtdhgappjicpglaaGreatDoorChecked
import Derived.WalkKit
import Derived.LaidEql
import Derived.Stop.Asserts
import Derived.RowKitTokens
import Derived.Shelf.Strings.SlTrimAscii
import Derived.Handy
import Derived.Lib.AtoiErrMem
import Derived.Lib.AppendIntMem
import Derived.Test.YtdhgappjicpglaaGreatDoorProg
set_option linter.all false
namespace Go.Proofs.YtdhgappjicpglaaGreatDoor.Er
open Go Go.RowKit Go.Extern.Stop Go.Stop Go.Extern
set_option maxRecDepth 10000
theorem isTypeOf (v : Value) (w : World) : (Extern.ReflectliteType.typeOf #[.iface 245 v]).run Tryz.prog w = .ok (.iface 148 (.agg #[.pointer (some ⟨13, 245, none⟩)])) w := by kernel_rfl
theorem isComparable (w : World) : ((Extern.ReflectliteType.method fun t => do Extern.Rtype.noPackHeld "Comparable" t; (fun a => Value.bool a.comparable) <$> typeInfo t) #[.agg #[.pointer (some ⟨13, 245, none⟩)]]).run Tryz.prog w = .ok (.bool true) w := by kernel_rfl
theorem isMethodComparable (v : Value) (w : World) : (Go.method 380 148 v "Comparable").run Tryz.prog w = .ok (204, v) w := by kernel_rfl
theorem isComp : (Tryz.prog.info? 245).map (·.comparable) = some true := by kernel_rfl
theorem isSize : (Tryz.prog.info? 247).map (·.size) = some 1 := by kernel_rfl
theorem noIsW (v : Value) (xT : TypeId) (w : World) : (Instr.typeAssert (.iface 238 v) xT 171 true).run Tryz.prog w = .ok (.tuple #[.nilIface, .bool false]) w := run_typeAssert_lacksB Tryz.underlying171 (by kernel_rfl) (by kernel_rfl) v xT w
theorem hasUnwrapW (v : Value) (xT : TypeId) (w : World) : (Instr.typeAssert (.iface 238 v) xT 156 true).run Tryz.prog w = .ok (.tuple #[.iface 238 v, .bool true]) w := run_typeAssert_hasB Tryz.underlying156 (by kernel_rfl) v xT w
theorem methodUnwrap (v : Value) (w : World) : (Go.method 380 238 v "Unwrap").run Tryz.prog w = .ok (215, v) w := by kernel_rfl
theorem is_nil (b : Addr) (w : World) :
    Calls Tryz.prog 51 #[.nilIface, .iface 245 (.pointer (some b))] w fun e w' => e = .returned (.bool false) ∧ w' = w := by
  have hn := run_eql_iface_nil_left (P := Tryz.prog) w 245 (.pointer (some b)) Tryz.underlying66
  go_enter Tryz.func51, Tryz.ntmps51
  go_wp2
  go_ret
  exact ⟨rfl, rfl⟩
theorem is_num (pb : Nat) (b : Addr) (c0 c1 : Value) (T : TypeId) (w : World) (h1 : w.heap[pb]? = some (.cells #[c0, c1, .iface 245 (.pointer (some b))] T (0, 0))) :
    Calls Tryz.prog 51 #[.iface 238 (.pointer (some ⟨pb, 0, none⟩)), .iface 245 (.pointer (some b))] w fun e w' => e = .returned (.bool true) ∧ w' = w := by
  have hc2 : w.cell? ⟨pb, 0 + 2, none⟩ = some (.iface 245 (.pointer (some b))) := by
    simp [World.cell?, h1]
  obtain ⟨i, hi, hcmp⟩ := Option.map_eq_some_iff.1 isComp
  obtain ⟨j, hj, hjs⟩ := Option.map_eq_some_iff.1 isSize
  have h8 := @run_callFunc_extern Tryz.prog 74 _ Extern.ReflectliteType.typeOf Tryz.func74 (by kernel_rfl) (by kernel_rfl) (by kernel_rfl) (by kernel_rfl)
  have h32 := @run_callFunc_extern Tryz.prog 204 _ (Extern.ReflectliteType.method fun t => do Extern.Rtype.noPackHeld "Comparable" t; pure (.bool (← typeInfo t).comparable)) Tryz.func204 (by kernel_rfl) (by kernel_rfl) (by kernel_rfl) (by kernel_rfl)
  have tT := isTypeOf
  have cT := isComparable
  have mR := isMethodComparable
  have nW := noIsW
  have uW := hasUnwrapW
  have mU := methodUnwrap
  have heq := run_eql_iface_ptr_same (P := Tryz.prog) w b Tryz.underlying66 Tryz.underlying245 hi hcmp hj
  have hty := run_eql_iface_types (P := Tryz.prog) 238 245 (.pointer (some ⟨pb, 0, none⟩)) (.pointer (some b)) Tryz.underlying66 (by decide) w
  go_enter Tryz.func51, Tryz.ntmps51
  go_wp2
  refine wp_loop_rounds 2 ?_
  rw [rounds_succ]
  go_wp2
  rw [rounds_succ]
  go_wp2
  go_ret
  exact ⟨rfl, rfl⟩
end Go.Proofs.YtdhgappjicpglaaGreatDoor.Er
namespace Go.Proofs.YtdhgappjicpglaaGreatDoor.Nu
open Go Go.Ab Go.RowKit
set_option maxRecDepth 10000
def digs : List UInt8 := [48, 49, 50, 51, 52, 53, 54, 55, 56, 57]
def formB (l : List UInt8) : Bool :=
  let d := Lib.trimPrefix l [45]
  !decide (d = []) && !(decide ((byteAt d 0).toNat = 48) && decide (1 < l.length)) && decide (Lib.trimS d digs = [])
variable {Γ : Nat → AV}
theorem trimPrefix_ok (l : List UInt8) : APure Tryz.prog Γ 162 [.str l, .str [45]] fun v => v = .str (Lib.trimPrefix l [45]) := by
  intro s
  refine ACalls.of_below fun G w vs hm hr => ?_
  obtain ⟨u, us, rfl, hu, hus⟩ := RList_cons.1 hr
  obtain ⟨u1, us1, rfl, hu1, hus1⟩ := RList_cons.1 hus
  rw [RList_nil] at hus1; subst hus1
  rw [R_str] at hu hu1; subst hu hu1
  exact ⟨_, fun G' w' => R_str.2 rfl, (Tryz.strings_TrimPrefix ⟨l.toArray⟩ ⟨#[45]⟩ w).mono fun e w' ⟨he, hw⟩ => ⟨he, by subst hw; exact Below.refl _ _⟩⟩
theorem trim_ok (l : List UInt8) (hl : l.length ≤ 1048576) : APure Tryz.prog Γ 111 [.str l, .str digs] fun v => v = .str (Lib.trimS l digs) := by
  intro s
  refine ACalls.of_below fun G w vs hm hr => ?_
  obtain ⟨u, us, rfl, hu, hus⟩ := RList_cons.1 hr
  obtain ⟨u1, us1, rfl, hu1, hus1⟩ := RList_cons.1 hus
  rw [RList_nil] at hus1; subst hus1
  rw [R_str] at hu hu1; subst hu hu1
  exact ⟨_, fun G' w' => R_str.2 rfl, Any.strings_Trim_laid Tryz.lays160 (by kernel_rfl) ⟨l.toArray⟩ ⟨digs.toArray⟩ w (by show l.length ≤ _; omega) (by decide) (ascii_of_all (by decide))⟩
theorem trimPrefix_len (l : List UInt8) : (Lib.trimPrefix l [45]).length ≤ l.length := by
  unfold Lib.trimPrefix; split
  · simp
  · exact Nat.le_refl _
attribute [local irreducible] APure Sto.set Sto.grow
theorem bool_eq' {a b : Bool} (h : a = b) : AV.bool a = .bool b := by rw [h]
theorem form_ok (l : List UInt8) (hl : l.length ≤ 1048576) : APure Tryz.prog Γ 160 [.str l] fun v => v = .bool (formB l) := by
  have hd := trimPrefix_len l
  have hf : formB l = (!decide (Lib.trimPrefix l [45] = []) && !(decide ((byteAt (Lib.trimPrefix l [45]) 0).toNat = 48) && decide (1 < l.length)) && decide (Lib.trimS (Lib.trimPrefix l [45]) digs = [])) := rfl
  refine APure.of_awp Tryz.func160 rfl (Nat.le_of_ble_eq_true (by kernel_rfl)) (by kernel_rfl) ?_
  intro s
  conv => whnf
  have h0 : ¬ Lib.trimPrefix l [45] = [] → 0 < (Lib.trimPrefix l [45]).length := fun h => List.length_pos_iff.2 h
  have tk := fun Γ => trimPrefix_ok (Γ := Γ) l
  generalize Lib.trimPrefix l [45] = d at *
  repeat' (first
    | (refine ⟨Sub.refl _, ?_⟩)
    | (refine brA_split (fun h => ?_) (fun h => ?_) <;> (try rw [h]) <;> (try simp only [Bool.false_eq_true, Bool.true_eq_false, ↓reduceIte, decide_eq_true_eq, decide_eq_false_iff_not, Bool.not_eq_true', Bool.not_eq_false'] at h) <;> (conv => whnf))
    | (refine ACalls.pure' ?_ (tk _); rintro _ rfl; conv => whnf)
    | (refine DCall.pure ?_ (tk _); conv => whnf)
    | (refine ⟨by have := h0 h; (show (0 : Int).toNat < d.length); omega, ?_⟩; conv => whnf)
    | (refine ACalls.pure' ?_ (trim_ok d (by omega)); rintro _ rfl; conv => whnf)
    | (refine DCall.pure ?_ (trim_ok d (by omega)); conv => whnf)
    | (refine getB_same ?_; conv => whnf)
    | (refine AWp.any (by kernel_rfl) (by kernel_rfl) (by kernel_rfl) ?_; conv => whnf)
    | (apply And.intro; (focus (first | omega | rfl | decide | exact Nat.le_of_ble_eq_true rfl | ((repeat' (first | exact all_nil | refine all_cons ?_ ?_ | rfl | fail)); done) | (simp [-List.length_flatMap]; done) | (simp [-List.length_flatMap]; omega) | fail)); conv => whnf)
    | fail)
  all_goals refine bool_eq' ?_
  all_goals rw [hf]
  all_goals try simp only [show Int.toNat 0 = 0 from rfl] at *
  all_goals simp [*]
  all_goals omega
end Go.Proofs.YtdhgappjicpglaaGreatDoor.Nu
namespace Go.Proofs.YtdhgappjicpglaaGreatDoor.Nu
open Go Go.Ab Go.RowKit
variable {Γ : Nat → AV}
set_option maxRecDepth 10000
set_option maxHeartbeats 1000000
/-- What is known of the library's variable: an error of errors.New's. -/
def ErrR (Γ : Nat → AV) : Prop := ∃ txt, Γ 11 = .cptr [.iface 245 (.cptr [.str txt])]
theorem errR_cell (hE : ErrR Γ) {G : Gh} {s : Sto} {w : World} (hm : Mod Γ G s w) : ∃ b : Addr, w.cell? ⟨11, 0, none⟩ = some (.iface 245 (.pointer (some b))) := by
  obtain ⟨txt, hE⟩ := hE
  have h := (hm.glob 11).r
  rw [hE] at h
  obtain ⟨b, o, e, hc⟩ := R_cptr.1 h
  injection e with e; injection e with e; injection e with e1 e2 e3
  subst e1 e2
  unfold RCells at hc
  obtain ⟨_, ⟨u, hu, hr⟩, _⟩ := hc
  obtain ⟨z, rfl, hz⟩ := R_iface.1 hr
  obtain ⟨b, o, rfl, _⟩ := R_cptr.1 hz
  exact ⟨_, hu⟩
def numE (l : List UInt8) : Int := if formB l = true then (match Lib.parseIntB 64 l with | .ok _ => 0 | .range => 5 | _ => 4) else 4
def numN (l : List UInt8) : Int := if formB l = true then (match Lib.parseIntB 64 l with | .ok v => v | _ => 0) else 0
theorem parse_run (l : List UInt8) (hl : l.length ≤ 1048576) (hE : ErrR Γ) (hs : formB l = true → Lib.parseIntB 64 l ≠ Lib.NumEnd.syntax) : APure Tryz.prog Γ 159 [.str l] fun v => v = .tuple [.int .i64 (numN l), .int .i64 (numE l)] := by
  intro s
  refine ⟨fun G w vs hm hr => ?_⟩
  obtain ⟨u, us, rfl, hu, hus⟩ := RList_cons.1 hr
  rw [RList_nil] at hus; subst hus
  rw [R_str] at hu; subst hu
  have cf := (form_ok l hl s).run G w [.string ⟨l.toArray⟩] hm (RList_cons.2 ⟨_, [], rfl, R_str.2 rfl, RList_nil.2 rfl⟩)
  go_enter Tryz.func159, Tryz.ntmps159
  go_wp2_with fail
  refine cf.mono ?_
  rintro e w1 ⟨v, av, s', G1, rfl, ⟨rfl, rfl⟩, hR, hm1, hX1⟩
  rw [R_bool] at hR; subst hR
  have done : ∀ (n e : Int) (w2 : World), numN l = n → numE l = e → Below w1.heap.size w1 w2 → ∃ v av s2 G', Ending.returned (.tuple #[.int .i64 n, .int .i64 e]) = Ending.returned v ∧ (av = AV.tuple [.int .i64 (numN l), .int .i64 (numE l)] ∧ s2 = s') ∧ R G' w2 av v ∧ Mod Γ G' s2 w2 ∧ Ext G w G' w2 := by
    rintro n e w2 rfl rfl hb2
    obtain ⟨m1, m2⟩ := hm1.below hb2
    exact ⟨_, _, _, G1, rfl, ⟨rfl, rfl⟩, R_tuple.2 ⟨_, rfl, RList_cons.2 ⟨_, _, rfl, R_int.2 rfl, RList_cons.2 ⟨_, _, rfl, R_int.2 rfl, RList_nil.2 rfl⟩⟩⟩, m1, hX1.trans m2⟩
  cases hf : formB l
  · go_wp2_with fail
    go_returns
    exact done 0 4 w1 (by unfold numN; rw [hf]; rfl) (by unfold numE; rw [hf]; rfl) (Below.refl _ _)
  · obtain ⟨b, hb⟩ := errR_cell hE hm1
    have hb0 : 11 < w1.heap.size := Nat.lt_of_not_le fun hge => by
      unfold World.cell? at hb
      rw [Array.getElem?_eq_none (by exact hge)] at hb
      cases hb
    cases hp : Lib.parseIntB 64 l with
    | ok n =>
      have cp := Tryz.strconv_ParseInt_10_at64_ok ⟨l.toArray⟩ (by show l.length ≤ _; omega) n hp w1
      go_wp2_with fail
      refine cp.mono ?_
      rintro e w2 ⟨rfl, hw2⟩
      have hB : Below w1.heap.size w1 w2 := by
        rcases hw2 with rfl | ⟨t, rfl⟩
        · exact Below.refl _ _
        · exact Lib.bytesWorld_below _ _ _
      have hb2 := (hB.cell (p := ⟨11, 0, none⟩) hb0).trans hb
      have ci := Er.is_nil b w2
      go_wp2_with fail
      refine ci.mono ?_
      rintro e w3 ⟨rfl, rfl⟩
      go_wp2_with fail
      go_returns
      exact done n 0 _ (by unfold numN; rw [hf, hp]; rfl) (by unfold numE; rw [hf, hp]; rfl) hB
    | range =>
      have cp := Tryz.strconv_ParseInt_10_at64_range ⟨l.toArray⟩ (by show l.length ≤ _; omega) hp _ w1 hb (.inr ⟨_, _, rfl⟩)
      go_wp2_with fail
      refine cp.mono ?_
      rintro e w2 ⟨N, rfl, hN1, hN2, hB⟩
      have hb2 := (hB.cell (p := ⟨11, 0, none⟩) hb0).trans hb
      have ci := Er.is_num N b _ _ _ w2 hN2
      go_wp2_with fail
      refine ci.mono ?_
      rintro e w3 ⟨rfl, rfl⟩
      go_wp2_with fail
      go_returns
      exact done 0 5 _ (by unfold numN; rw [hf, hp]; rfl) (by unfold numE; rw [hf, hp]; rfl) hB
    | _ => exact absurd hp (hs hf)
end Go.Proofs.YtdhgappjicpglaaGreatDoor.Nu
namespace Go.Proofs.YtdhgappjicpglaaGreatDoor.Nu
open Go Go.Ab Go.RowKit
def isD (c : UInt8) : Bool := decide (48 ≤ c.toNat) && decide (c.toNat ≤ 57)
theorem digs_contains : ∀ c : UInt8, digs.contains c = isD c := by
  intro c
  have : ∀ n : Nat, n < 256 → digs.contains (UInt8.ofNat n) = isD (UInt8.ofNat n) := by decide +kernel
  have h := this c.toNat c.toNat_lt
  rwa [UInt8.ofNat_toNat] at h
theorem dw_nil {p : UInt8 → Bool} : ∀ l : List UInt8, l.dropWhile p = [] ↔ ∀ x ∈ l, p x = true
  | [] => by simp
  | c :: r => by
    have ih := dw_nil (p := p) r
    rw [List.dropWhile_cons]
    cases h : p c
    · simp [h]
    · rw [if_pos rfl, ih]
      simp [h]
theorem trimS_nil (l : List UInt8) : (Lib.trimS l digs = []) ↔ l.all isD = true := by
  have hc : (fun c => digs.contains c) = isD := funext digs_contains
  unfold Lib.trimS Lib.trimLeftS Lib.trimRightS
  rw [hc]
  constructor
  · intro h
    rw [dw_nil] at h
    by_cases hn : l.reverse.dropWhile isD = []
    · rw [dw_nil] at hn
      exact List.all_eq_true.2 fun x hx => hn x (List.mem_reverse.2 hx)
    · have h1 := List.head_dropWhile_not isD hn
      have h2 := h _ (List.mem_reverse.2 (List.head_mem hn))
      rw [h1] at h2
      cases h2
  · intro h
    have : l.reverse.dropWhile isD = [] := (dw_nil _).2 fun x hx => List.all_eq_true.1 h x (List.mem_reverse.1 hx)
    rw [this]
    rfl
/-- Where the digits begin. -/
def from_ (l : List UInt8) : Nat := if byteAt l 0 = 45 then 1 else 0
theorem trimPrefix_drop (l : List UInt8) : Lib.trimPrefix l [45] = l.drop (from_ l) := by
  unfold Lib.trimPrefix Lib.hasPrefix from_
  cases l with
  | nil => rfl
  | cons c r =>
    by_cases h : c = 45
    · subst h; rfl
    · have h1 : ([45] : List UInt8).isPrefixOf (c :: r) = false := by
        simp [List.isPrefixOf, h]
        exact fun e => h e.symm
      rw [h1]
      simp [byteAt, h]
theorem form_eq (l : List UInt8) : formB l = (!decide (l.length ≤ from_ l) && !(decide ((byteAt l (from_ l)).toNat = 48) && decide (1 < l.length)) && (l.drop (from_ l)).all isD) := by
  unfold formB
  simp only [trimPrefix_drop]
  have h1 : decide (l.drop (from_ l) = []) = decide (l.length ≤ from_ l) := decide_eq_decide.2 List.drop_eq_nil_iff
  have h2 : byteAt (l.drop (from_ l)) 0 = byteAt l (from_ l) := by simp [byteAt, List.getD]
  have h3 : decide (Lib.trimS (l.drop (from_ l)) digs = []) = (l.drop (from_ l)).all isD := by
    rw [Bool.eq_iff_iff, decide_eq_true_iff]; exact trimS_nil _
  rw [h1, h2, h3]
def nv : List UInt8 → Nat → Nat
  | [], a => a
  | c :: r, a => nv r (a * 10 + (c.toNat - 48))
theorem nv_ge : ∀ (l : List UInt8) (a : Nat), a ≤ nv l a
  | [], a => Nat.le_refl _
  | c :: r, a => by
    have := nv_ge r (a * 10 + (c.toNat - 48))
    show a ≤ nv r _
    omega
theorem pu_digits : ∀ (d : List UInt8) (a : Nat), d.all isD = true → a ≤ 18446744073709551615 → Lib.parseUintM 18446744073709551615 a d = if nv d a ≤ 18446744073709551615 then .ok (nv d a) else .range
  | [], a => fun _ h => by unfold Lib.parseUintM nv; rw [if_pos h]
  | c :: r, a => fun h ha => by
    rw [List.all_cons, Bool.and_eq_true] at h
    have hd : 48 ≤ c.toNat ∧ c.toNat ≤ 57 := by simpa [isD] using h.1
    have hg := nv_ge r (a * 10 + (c.toNat - 48))
    unfold Lib.parseUintM nv
    rw [if_pos hd]
    split
    · rw [if_neg (by omega)]
    · split
      · rw [if_neg (by omega)]
      · exact pu_digits r _ h.2 (by omega)
/-- A text of a number's form: its digits' worth. -/
def worthN (l : List UInt8) : Nat := nv (l.drop (from_ l)) 0
theorem parse_form {l : List UInt8} (h : formB l = true) : Lib.parseIntB 64 l = if from_ l = 1 then (if worthN l ≤ 9223372036854775808 then .ok (-(worthN l : Int)) else .range) else (if worthN l < 9223372036854775808 then .ok (worthN l : Int) else .range) := by
  rw [form_eq, Bool.and_eq_true, Bool.and_eq_true] at h
  obtain ⟨⟨h1, h2⟩, h3⟩ := h
  have h1 : ¬ l.length ≤ from_ l := by simpa using h1
  have hne : l.drop (from_ l) ≠ [] := fun e => h1 (List.drop_eq_nil_iff.1 e)
  cases l with
  | nil => simp at h1
  | cons c r =>
    have hp := pu_digits ((c :: r).drop (from_ (c :: r))) 0 h3 (by omega)
    unfold Lib.parseIntB worthN
    by_cases hc : c = 45
    · subst hc
      have hf : from_ ((45 : UInt8) :: r) = 1 := rfl
      rw [hf] at hp hne ⊢
      simp only [List.drop_succ_cons, List.drop_zero] at hp hne ⊢
      have e1 : (if (45 : UInt8).toNat = 43 ∨ (45 : UInt8).toNat = 45 then r else (45 : UInt8) :: r) = r := rfl
      simp only [e1]
      unfold Lib.parseUintB
      rw [if_neg hne]
      rw [show 2 ^ 64 - 1 = 18446744073709551615 from rfl, hp]
      by_cases hv : nv r 0 ≤ 18446744073709551615
      · rw [if_pos hv]
        dsimp only
        have e2 : ¬ (¬ (45 : UInt8).toNat = 45 ∧ 2 ^ (64 - 1) ≤ nv r 0) := fun h => h.1 rfl
        rw [if_neg e2]
        by_cases h9 : nv r 0 ≤ 9223372036854775808
        · have e3 : ¬ ((45 : UInt8).toNat = 45 ∧ 2 ^ (64 - 1) < nv r 0) := fun h => by
            have h2 : 9223372036854775808 < nv r 0 := h.2
            omega
          rw [if_neg e3]
          simp only [if_true, h9]
          rfl
        · have e3 : (45 : UInt8).toNat = 45 ∧ 2 ^ (64 - 1) < nv r 0 := ⟨rfl, by show 9223372036854775808 < nv r 0; omega⟩
          rw [if_pos e3]
          simp only [if_true, h9, if_false]
      · have h9 : ¬ nv r 0 ≤ 9223372036854775808 := by omega
        rw [if_neg hv]
        simp only [if_true, h9, if_false]
    · have hf : from_ (c :: r) = 0 := by simp [from_, byteAt, hc]
      rw [hf] at hp hne h3 ⊢
      simp only [List.drop_zero] at hp hne h3 ⊢
      have hd : 48 ≤ c.toNat ∧ c.toNat ≤ 57 := by
        rw [List.all_cons, Bool.and_eq_true] at h3
        simpa [isD] using h3.1
      have e1 : (if c.toNat = 43 ∨ c.toNat = 45 then r else c :: r) = c :: r := if_neg (by omega)
      simp only [e1]
      unfold Lib.parseUintB
      rw [if_neg (by simp)]
      rw [show 2 ^ 64 - 1 = 18446744073709551615 from rfl, hp]
      have hn : ¬ c.toNat = 45 := by omega
      by_cases hv : nv (c :: r) 0 ≤ 18446744073709551615
      · rw [if_pos hv]
        dsimp only
        rw [if_neg (show ¬ (0 : Nat) = 1 by omega)]
        by_cases h9 : nv (c :: r) 0 < 9223372036854775808
        · rw [if_neg (by simp; omega), if_neg (by simp [hn]), if_neg hn, if_pos h9]
        · rw [if_pos (by simp [hn]; omega), if_neg h9]
      · rw [if_neg hv, if_neg (show ¬ (0 : Nat) = 1 by omega), if_neg (by omega)]
theorem no_syntax {l : List UInt8} (h : formB l = true) : Lib.parseIntB 64 l ≠ Lib.NumEnd.syntax := by
  rw [parse_form h]
  split <;> split <;> simp
end Go.Proofs.YtdhgappjicpglaaGreatDoor.Nu
namespace Go.Proofs.YtdhgappjicpglaaGreatDoor.Nu
open Go Go.Ab Go.RowKit
variable {Γ : Nat → AV}
/-- What the library's table of tens holds. -/
def Tens (Γ : Nat → AV) : Prop := Γ 6 = .cptr (Lib.pow10Tab.map (.int .u64))
def Fits (n : Int) : Prop := -9223372036854775808 ≤ n ∧ n ≤ 9223372036854775807
theorem format_ok (hT : Tens Γ) (n : Int) (hn : Fits n) : APure Tryz.prog Γ 84 [.int .i64 n, .int .i64 10] fun v => v = .str (Lib.itoa n) := by
  intro s
  refine ACalls.of_below fun G w vs hm hr => ?_
  obtain ⟨u, us, rfl, hu, hus⟩ := RList_cons.1 hr
  obtain ⟨u1, us1, rfl, hu1, hus1⟩ := RList_cons.1 hus
  rw [RList_nil] at hus1; subst hus1
  rw [R_int] at hu hu1; subst hu hu1
  refine ⟨_, fun G' w' => R_str.2 rfl, (Tryz.internal_strconv_FormatInt_10 n hn.1 hn.2 w (tab_of hm (by kernel_rfl) hT)).mono ?_⟩
  rintro e w' ⟨rfl, k, os, rfl⟩
  exact ⟨rfl, Lib.below_grow _ _ (Nat.le_refl _) _ _⟩
attribute [local irreducible] APure Sto.set Sto.grow
set_option maxRecDepth 10000
theorem strconv_ok (hT : Tens Γ) (n : Int) (hn : Fits n) : APure Tryz.prog Γ 61 [.int .i64 n, .int .i64 10] fun v => v = .str (Lib.itoa n) := by
  refine APure.of_awp Tryz.func61 rfl (Nat.le_of_ble_eq_true (by kernel_rfl)) (by kernel_rfl) ?_
  intro s
  conv => whnf
  repeat' (first
    | (refine ⟨Sub.refl _, ?_⟩)
    | (refine brA_split (fun h => ?_) (fun h => ?_) <;> (try rw [h]) <;> (try simp only [Bool.false_eq_true, Bool.true_eq_false, ↓reduceIte, decide_eq_true_eq, decide_eq_false_iff_not, Bool.not_eq_true', Bool.not_eq_false'] at h) <;> (conv => whnf))
    | (refine ACalls.pure' ?_ (format_ok hT _ hn); rintro _ rfl; conv => whnf)
    | (refine DCall.pure ?_ (format_ok hT _ hn); conv => whnf)
    | (refine getB_same ?_; conv => whnf)
    | (refine AWp.any (by kernel_rfl) (by kernel_rfl) (by kernel_rfl) ?_; conv => whnf)
    | (apply And.intro; (focus (first | omega | rfl | decide | exact Nat.le_of_ble_eq_true rfl | ((repeat' (first | exact all_nil | refine all_cons ?_ ?_ | rfl | fail)); done) | (simp [-List.length_flatMap]; done) | (simp [-List.length_flatMap]; omega) | fail)); conv => whnf)
    | fail)
  rfl
theorem text_ok (hT : Tens Γ) (n : Int) (hn : Fits n) : APure Tryz.prog Γ 42 [.int .i64 n] fun v => v = .str (Lib.itoa n) := by
  refine APure.of_awp Tryz.func42 rfl (Nat.le_of_ble_eq_true (by kernel_rfl)) (by kernel_rfl) ?_
  intro s
  conv => whnf
  repeat' (first
    | (refine ⟨Sub.refl _, ?_⟩)
    | (refine brA_split (fun h => ?_) (fun h => ?_) <;> (try rw [h]) <;> (try simp only [Bool.false_eq_true, Bool.true_eq_false, ↓reduceIte, decide_eq_true_eq, decide_eq_false_iff_not, Bool.not_eq_true', Bool.not_eq_false'] at h) <;> (conv => whnf))
    | (refine ACalls.pure' ?_ (strconv_ok hT _ hn); rintro _ rfl; conv => whnf)
    | (refine DCall.pure ?_ (strconv_ok hT _ hn); conv => whnf)
    | (refine getB_same ?_; conv => whnf)
    | (refine AWp.any (by kernel_rfl) (by kernel_rfl) (by kernel_rfl) ?_; conv => whnf)
    | (apply And.intro; (focus (first | omega | rfl | decide | exact Nat.le_of_ble_eq_true rfl | ((repeat' (first | exact all_nil | refine all_cons ?_ ?_ | rfl | fail)); done) | (simp [-List.length_flatMap]; done) | (simp [-List.length_flatMap]; omega) | fail)); conv => whnf)
    | fail)
  rfl
def val (x : Int) : Int := if -9223372036854775808 ≤ x ∧ x ≤ 9223372036854775807 then x else 0
def fine (x : Int) : Bool := decide (-9223372036854775808 ≤ x ∧ x ≤ 9223372036854775807)
end Go.Proofs.YtdhgappjicpglaaGreatDoor.Nu
namespace Go.Ab
open Go Go.RowKit
variable {P : Program} {Γ : Nat → AV}
theorem grow_nil {f : FuncId} {e : TypeId} {k n : Nat} {s : Sto}
    (h0 : n = 0 → ∀ a w, Calls P f #[.slice a 0 0, .int .i64 (0 : Nat)] w fun r w' => r = .returned (.slice a 0 0) ∧ w' = w)
    (h1 : 0 < n → ∀ a w, ∃ (cells : Array Value) (cap : Nat), cells.size = cap * k ∧ Calls P f #[.slice a 0 0, .int .i64 (n : Int)] w fun r w' => r = .returned (.slice (some ⟨w.heap.size, 0, none⟩) 0 cap) ∧ w' = w.drew.alloc (.cells cells e)) :
    ACalls P Γ f [.slice 1 [], .int .i64 (n : Int)] s fun v s' => ∃ t, v = .slice t [] ∧ Own s s' true t e k := by
  refine ⟨fun G w vs hm hr => ?_⟩
  obtain ⟨v1, vs1, rfl, hr1, hr⟩ := RList_cons.1 hr
  obtain ⟨v2, vs2, rfl, hr2, hr⟩ := RList_cons.1 hr
  have hr := RList_nil.1 hr
  subst hr
  rw [R_int] at hr2
  subst hr2
  obtain ⟨a, cap, hv, hc, _, _, hc1⟩ := slice_val hr1
  have hc0 : cap = 0 := hc1 rfl
  subst hc0
  simp only [List.length_nil] at hv
  subst hv
  by_cases hn : n = 0
  · subst hn
    refine (h0 rfl a w).mono ?_
    rintro _ _ ⟨rfl, rfl⟩
    exact ⟨_, .slice 1 [], s, G, rfl, ⟨1, rfl, Own.nil s e k⟩, hr1, hm, Ext.refl _ _⟩
  · obtain ⟨cells, cap, hsz, hrun⟩ := h1 (by omega) a w
    refine hrun.mono ?_
    rintro _ _ ⟨rfl, rfl⟩
    obtain ⟨t, G', hm', X, t0, t1, htk, hkd, hlv⟩ := hm.row_own 1 (cells := cells) (e := e) (k := k) (need := 0) (cap := cap) hsz (Nat.zero_le _)
    refine ⟨_, .slice t [], _, G', rfl, ⟨t, rfl, (Sub.refl s).grow (.inl rfl) t e k, .inr ⟨t1, .inl ⟨rfl, t1, rfl, rfl⟩, hlv⟩⟩, ?_, hm', X⟩
    rw [R_slice]
    exact ⟨fun _ _ => htk.symm, .inl ⟨rfl, _, cap, rfl, fun h => absurd h t1, fun h => by cases h⟩⟩
end Go.Ab
namespace Go.Proofs.YtdhgappjicpglaaGreatDoor.Pa
open Go Go.Ab Go.RowKit
/-- A node of an expression. -/
structure Ex where
  op : Int
  a : Int
  b : Int
  name : List UInt8
  vk : Int
  vi : Int
  vs : List UInt8
  vb : Bool
  ln : Int
  cl : Int
def exA (x : Ex) : List AV := [.int .i64 x.op, .int .i64 x.a, .int .i64 x.b, .str x.name, .int .i64 x.vk, .int .i64 x.vi, .str x.vs, .bool x.vb, .int .i64 x.ln, .int .i64 x.cl]
def exsA (l : List Ex) : List (List AV) := l.map exA
theorem exsA_len (l : List Ex) : (exsA l).length = l.length := List.length_map ..
def shiftX (by_ : Int) (x : Ex) : Ex := if x.op < 4 ∨ 16 < x.op then x else if 5 < x.op then { x with a := IntKind.i64.wrap (x.a + by_), b := IntKind.i64.wrap (x.b + by_) } else { x with a := IntKind.i64.wrap (x.a + by_) }
end Go.Proofs.YtdhgappjicpglaaGreatDoor.Pa
namespace Go.Proofs.YtdhgappjicpglaaGreatDoor.Pa
open Go Go.Ab Go.RowKit Go.Proofs.YtdhgappjicpglaaGreatDoor.Lx
variable {Γ : Nat → AV}
attribute [local irreducible] APure Sto.set Sto.grow
set_option maxRecDepth 10000
set_option maxHeartbeats 1000000
def noTok : Tok := (0, [], 0, 0)
/-- The next token; without one the last one's place. -/
def peekF (L : List Tok) (a : Nat) : Tok := if a < L.length then L.getD a noTok else if L.length = 0 then (0, [], 1, 1) else (0, [], (L.getD (L.length - 1) noTok).2.2.1, (L.getD (L.length - 1) noTok).2.2.2)
theorem toksA_at {l : List Tok} {i : Nat} (h : i < l.length) : (toksA l).getD i [] = tokA (l.getD i noTok) := by simp [toksA, List.getD, h]
/-- The boxes of a parser: itself, and how far it has read. -/
structure Pst (s0 s : Sto) (bp bl : Nat) (L : List Tok) (a : Nat) (o : List Ex) (d : List Int) (k : Int) : Prop where
  np : s0.bx bp = none
  nl : s0.bx bl = none
  ne : bp ≠ bl
  pr : ∃ t1 t2, s.bx bp = some (70, [.ptr (some ⟨bl, 0, none⟩), .slice t1 (exsA o), .slice t2 (intsA .i64 d), .int .i64 k]) ∧ Own s0 s o.isEmpty t1 51 10 ∧ Own s0 s d.isEmpty t2 3 1 ∧ (t1 = t2 → t1 = 1)
  pl : s.bx bl = some (73, [.slice 0 (toksA L), .int .i64 a])
theorem Pst.sub {s0 s : Sto} {bp bl : Nat} {L : List Tok} {a : Nat} {o : List Ex} {d : List Int} {k : Int} (h : Pst s0 s bp bl L a o d k) : Sub s0 s := by
  obtain ⟨_, _, _, h1, _⟩ := h.pr
  exact h1.sub
theorem peek_ok {s : Sto} {bl : Nat} {L : List Tok} {a : Nat} (hb : s.bx bl = some (73, [.slice 0 (toksA L), .int .i64 a])) (hL : L.length ≤ 1000000) (ha : a ≤ 1000000) :
    ACalls Tryz.prog Γ 37 [.ptr (some ⟨bl, 0, none⟩)] s fun v s' => v = .agg (tokA (peekF L a)) ∧ s' = s := by
  have htl := toksA_len L
  by_cases h1 : a < L.length
  · have hg := toksA_at h1
    rw [peekF, if_pos h1]
    generalize L.getD a noTok = z at *
    rw [tokA] at hg
    refine ACalls.of_awp Tryz.func37 rfl (Nat.le_of_ble_eq_true (by kernel_rfl)) (awp_ok _ (by kernel_rfl) ?_)
    conv => whnf
    intro b2 hb2
    have n_bl_b2 : bl ≠ b2 := ne_of_none bxa hb2
    have n_b2_bl := n_bl_b2.symm
    conv => whnf
    repeat' ((first | (exfalso; first | omega | exact (by assumption : ¬ True) trivial | fail) | refine ⟨Sub.refl _, ?_⟩ | (refine brA_split (fun h => ?_) (fun h => ?_) <;> (try rw [h]) <;> (try simp only [bS, ↓reduceIte] at h)) | refine getB_a ?_ | (rw [show (toksA L).getD ((a : Int)).toNat [] = _ from hg]) | refine getB_same ?_ | refine AWp.anyA ?_ | refine and_a ?_ | fail) <;> (conv => whnf))
    · exfalso; revert h; rw [htl]; simp; rintro rfl; simp at *
    · exact ⟨s, ((Sub.refl _).set hb2 _ _).set hb2 _ _, rfl, rfl⟩
  · by_cases h0 : L.length = 0
    · rw [peekF, if_neg h1, if_pos h0]
      refine ACalls.of_awp Tryz.func37 rfl (Nat.le_of_ble_eq_true (by kernel_rfl)) (awp_ok _ (by kernel_rfl) ?_)
      conv => whnf
      intro b2 hb2
      have n_bl_b2 : bl ≠ b2 := ne_of_none bxa hb2
      have n_b2_bl := n_bl_b2.symm
      conv => whnf
      repeat' ((first | (exfalso; first | omega | exact (by assumption : ¬ True) trivial | fail) | refine ⟨Sub.refl _, ?_⟩ | (refine brA_split (fun h => ?_) (fun h => ?_) <;> (try rw [h]) <;> (try simp only [bS, ↓reduceIte] at h)) | refine getB_a ?_ | refine getB_same ?_ | refine AWp.anyA ?_ | refine and_a ?_ | fail) <;> (conv => whnf))
      · exact ⟨s, ((Sub.refl _).set hb2 _ _).set hb2 _ _, rfl, rfl⟩
      · rename_i hc; exfalso; revert hc; simp [htl, h0]
    · have hg := toksA_at (l := L) (i := L.length - 1) (by omega)
      rw [peekF, if_neg h1, if_neg h0]
      generalize L.getD (L.length - 1) noTok = z at *
      rw [tokA] at hg
      have hw : IntKind.i64.wrap (((toksA L).length : Int) - 1) = ((L.length - 1 : Nat) : Int) := i64_of (by omega) (by omega) (by omega)
      refine ACalls.of_awp Tryz.func37 rfl (Nat.le_of_ble_eq_true (by kernel_rfl)) (awp_ok _ (by kernel_rfl) ?_)
      conv => whnf
      intro b2 hb2
      have n_bl_b2 : bl ≠ b2 := ne_of_none bxa hb2
      have n_b2_bl := n_bl_b2.symm
      conv => whnf
      repeat' ((first | (exfalso; first | omega | exact (by assumption : ¬ True) trivial | fail) | refine ⟨Sub.refl _, ?_⟩ | (refine brA_split (fun h => ?_) (fun h => ?_) <;> (try rw [h]) <;> (try simp only [bS, ↓reduceIte] at h)) | refine getB_a ?_ | (rw [hw]) | (rw [show (toksA L).getD ((L.length - 1 : Nat) : Int).toNat [] = _ from hg]) | refine getB_same ?_ | refine AWp.anyA ?_ | refine and_a ?_ | fail) <;> (conv => whnf))
      · exfalso; revert h; rw [htl]; simp; rintro rfl; simp at *
      · intro b3 hb3
        have n_b2_b3 : b2 ≠ b3 := ne_of_none bxa hb3
        have n_b3_b2 : b3 ≠ b2 := fun h => n_b2_b3 h.symm
        have n_bl_b3 : bl ≠ b3 := ne_of_none bxa hb3
        have g3 : s.bx b3 = none := ((Sub.refl s).set hb2 _ _).none hb3
        conv => whnf
        repeat' ((first | (exfalso; first | omega | exact (by assumption : ¬ True) trivial | fail) | refine ⟨Sub.refl _, ?_⟩ | (refine brA_split (fun h => ?_) (fun h => ?_) <;> (try rw [h]) <;> (try simp only [bS, ↓reduceIte] at h)) | refine getB_a ?_ | refine getB_same ?_ | refine AWp.anyA ?_ | refine and_a ?_ | fail) <;> (conv => whnf))
        exact ⟨s, ((((Sub.refl _).set hb2 _ _).set g3 _ _).set g3 _ _).set hb2 _ _, rfl, rfl⟩
/-- What is wrong, and at which token. -/
def errA (t : Tok) (e : Int) : AV := .iface 89 (.cptr (tokA t ++ [.iface 43 (.int .i64 e)]))
theorem fail_ok {s0 s : Sto} {bp bl : Nat} {L : List Tok} {a : Nat} {o : List Ex} {d : List Int} {k : Int} (hP : Pst s0 s bp bl L a o d k) (hL : L.length ≤ 1000000) (ha : a ≤ 1000000) (e : Int) :
    ACalls Tryz.prog Γ 20 [.ptr (some ⟨bp, 0, none⟩), .int .i64 e] s fun v s' => v = errA (peekF L a) e ∧ s' = s := by
  obtain ⟨t1, t2, hb, _⟩ := hP.pr
  have hpk := peek_ok (Γ := Γ) hP.pl hL ha
  generalize peekF L a = q at *
  obtain ⟨p1, p2, p3, p4⟩ := q
  have h1 : ACalls Tryz.prog Γ 20 [.ptr (some ⟨bp, 0, none⟩), .int .i64 e] s fun v s' => ∃ b, v = .iface 89 (.ptr (some ⟨b, 0, none⟩)) ∧ s.bx b = none ∧ s'.bx b = some (96, tokA (p1, p2, p3, p4) ++ [.iface 43 (.int .i64 e)]) ∧ Sub s s' := by
    refine ACalls.of_awp Tryz.func20 rfl (Nat.le_of_ble_eq_true (by kernel_rfl)) (awp_ok _ (by kernel_rfl) ?_)
    conv => whnf
    repeat' ((first | (exfalso; first | omega | exact (by assumption : ¬ True) trivial | fail) | refine ⟨Sub.refl _, ?_⟩ | (refine brA_split (fun h => ?_) (fun h => ?_) <;> (try rw [h]) <;> (try simp only [bS, ↓reduceIte] at h)) | (refine getB_of hb ?_) | (refine ACalls.by hpk ?_; rintro _ _ ⟨rfl, rfl⟩) | refine getB_same ?_ | refine AWp.anyA ?_ | refine and_a ?_ | fail) <;> (conv => whnf))
    intro b13 hb13
    conv => whnf
    repeat' ((first | (exfalso; first | omega | exact (by assumption : ¬ True) trivial | fail) | refine ⟨Sub.refl _, ?_⟩ | (refine brA_split (fun h => ?_) (fun h => ?_) <;> (try rw [h]) <;> (try simp only [bS, ↓reduceIte] at h)) | refine getB_same ?_ | refine AWp.anyA ?_ | refine and_a ?_ | fail) <;> (conv => whnf))
    exact ⟨_, Sub.refl _, b13, rfl, hb13, set_bx_same, (Sub.refl _).set hb13 _ _⟩
  refine h1.frz ?_
  rintro v s' ⟨b, rfl, h2, h3, h4⟩
  refine ⟨fz1 b 0 (tokA (p1, p2, p3, p4) ++ [.iface 43 (.int .i64 e)]), s, fz1_of h2 h3, h4, ?_, rfl⟩
  simp only [fz, fzP, fz1_at, List.drop_zero, fg, errA, tokA, List.cons_append, List.nil_append, fgL]
theorem is_ok {s0 s : Sto} {bp bl : Nat} {L : List Tok} {a : Nat} {o : List Ex} {d : List Int} {k : Int} (hP : Pst s0 s bp bl L a o d k) (hL : L.length ≤ 1000000) (ha : a ≤ 1000000) (w : List UInt8) :
    ACalls Tryz.prog Γ 78 [.ptr (some ⟨bp, 0, none⟩), .str w] s fun v s' => v = .bool ((decide ((peekF L a).1 = 2) || decide ((peekF L a).1 = 5)) && decide ((peekF L a).2.1 = w)) ∧ s' = s := by
  obtain ⟨t1, t2, hb, _⟩ := hP.pr
  have hpk := peek_ok (Γ := Γ) hP.pl hL ha
  generalize peekF L a = q at *
  obtain ⟨p1, p2, p3, p4⟩ := q
  simp only [tokA] at hpk
  refine ACalls.of_awp Tryz.func78 rfl (Nat.le_of_ble_eq_true (by kernel_rfl)) (awp_ok _ (by kernel_rfl) ?_)
  conv => whnf
  repeat' ((first | (exfalso; first | omega | exact (by assumption : ¬ True) trivial | fail) | refine ⟨Sub.refl _, ?_⟩ | (refine brA_split (fun h => ?_) (fun h => ?_) <;> (try rw [h]) <;> (try simp only [bS, ↓reduceIte] at h)) | (refine getB_of hb ?_) | (refine ACalls.by hpk ?_; rintro _ _ ⟨rfl, rfl⟩) | refine getB_same ?_ | refine AWp.anyA ?_ | refine and_a ?_ | fail) <;> (conv => whnf))
  intro b5 hb5
  conv => whnf
  repeat' ((first | (exfalso; first | omega | exact (by assumption : ¬ True) trivial | fail) | refine ⟨Sub.refl _, ?_⟩ | (refine brA_split (fun h => ?_) (fun h => ?_) <;> (try rw [h]) <;> (try simp only [bS, ↓reduceIte] at h)) | refine getB_a ?_ | refine getB_same ?_ | refine AWp.anyA ?_ | refine and_a ?_ | fail) <;> (conv => whnf))
  all_goals (refine ⟨_, ((Sub.refl _).set hb5 _ _).set hb5 _ _, ?_, rfl⟩; refine congrArg AV.bool ?_; simp_all)
/-- Where a parser is a token farther. -/
theorem Pst.next {s0 s : Sto} {bp bl : Nat} {L : List Tok} {a : Nat} {o : List Ex} {d : List Int} {k : Int} (hP : Pst s0 s bp bl L a o d k) (a' : Nat) : Pst s0 (s.set bl 73 [.slice 0 (toksA L), .int .i64 a']) bp bl L a' o d k := by
  obtain ⟨np, nl, ne, ⟨t1, t2, h1, h2, h3, h4⟩, pl⟩ := hP
  exact ⟨np, nl, ne, ⟨t1, t2, (set_bx_other ne).trans h1, h2.set nl, h3.set nl, h4⟩, set_bx_same⟩
theorem take_ok {s0 s : Sto} {bp bl : Nat} {L : List Tok} {a : Nat} {o : List Ex} {d : List Int} {k : Int} (hP : Pst s0 s bp bl L a o d k) (hL : L.length ≤ 1000000) (ha : a ≤ 100000) (w : List UInt8) :
    ACalls Tryz.prog Γ 157 [.ptr (some ⟨bp, 0, none⟩), .str w] s fun v s' => v = .bool ((decide ((peekF L a).1 = 2) || decide ((peekF L a).1 = 5)) && decide ((peekF L a).2.1 = w)) ∧
      Pst s0 s' bp bl L (if ((decide ((peekF L a).1 = 2) || decide ((peekF L a).1 = 5)) && decide ((peekF L a).2.1 = w)) = true then a + 1 else a) o d k := by
  obtain ⟨t1, t2, hb, _⟩ := hP.pr
  have hi := is_ok (Γ := Γ) hP hL (by omega) w
  have hN := hP.next (a + 1)
  generalize ((decide ((peekF L a).1 = 2) || decide ((peekF L a).1 = 5)) && decide ((peekF L a).2.1 = w)) = z at *
  have hw : IntKind.i64.wrap ((a : Int) + 1) = ((a + 1 : Nat) : Int) := i64_of (by omega) (by omega) (by omega)
  refine ACalls.of_awp Tryz.func157 rfl (Nat.le_of_ble_eq_true (by kernel_rfl)) (awp_ok _ (by kernel_rfl) ?_)
  conv => whnf
  cases z
  · repeat' ((first | (exfalso; first | omega | exact (by assumption : ¬ True) trivial | fail) | refine ⟨Sub.refl _, ?_⟩ | (refine brA_split (fun h => ?_) (fun h => ?_) <;> (try rw [h]) <;> (try simp only [bS, ↓reduceIte] at h)) | (refine ACalls.by hi ?_; rintro _ _ ⟨rfl, rfl⟩) | refine getB_same ?_ | refine AWp.anyA ?_ | refine and_a ?_ | fail) <;> (conv => whnf))
    exact ⟨_, Sub.refl _, rfl, hP⟩
  · repeat' ((first | (exfalso; first | omega | exact (by assumption : ¬ True) trivial | fail) | refine ⟨Sub.refl _, ?_⟩ | (refine brA_split (fun h => ?_) (fun h => ?_) <;> (try rw [h]) <;> (try simp only [bS, ↓reduceIte] at h)) | (refine ACalls.by hi ?_; rintro _ _ ⟨rfl, rfl⟩) | (refine getB_of hb ?_) | (refine getB_of hP.pl ?_) | (rw [hw]) | refine getB_same ?_ | refine AWp.anyA ?_ | refine and_a ?_ | fail) <;> (conv => whnf))
    exact ⟨_, Sub.refl _, rfl, hN⟩
theorem last_ok {s0 s : Sto} {bp bl : Nat} {L : List Tok} {a : Nat} {o : List Ex} {d : List Int} {k : Int} (hP : Pst s0 s bp bl L a o d k) (ho : o.length ≤ 1000000) :
    ACalls Tryz.prog Γ 53 [.ptr (some ⟨bp, 0, none⟩)] s fun v s' => v = .int .i64 ((o.length : Int) - 1) ∧ s' = s := by
  obtain ⟨t1, t2, hb, _⟩ := hP.pr
  have hw : IntKind.i64.wrap (((exsA o).length : Int) - 1) = (o.length : Int) - 1 := i64_of (by rw [exsA_len]) (by omega) (by omega)
  refine ACalls.of_awp Tryz.func53 rfl (Nat.le_of_ble_eq_true (by kernel_rfl)) (awp_ok _ (by kernel_rfl) ?_)
  conv => whnf
  repeat' ((first | (exfalso; first | omega | exact (by assumption : ¬ True) trivial | fail) | refine ⟨Sub.refl _, ?_⟩ | (refine brA_split (fun h => ?_) (fun h => ?_) <;> (try rw [h]) <;> (try simp only [bS, ↓reduceIte] at h)) | (refine getB_of hb ?_) | (rw [hw]) | refine getB_same ?_ | refine AWp.anyA ?_ | refine and_a ?_ | fail) <;> (conv => whnf))
  exact ⟨s, Sub.refl _, rfl, rfl⟩
end Go.Proofs.YtdhgappjicpglaaGreatDoor.Pa
namespace Go.Proofs.YtdhgappjicpglaaGreatDoor.Pa
open Go Go.Ab Go.RowKit Go.Proofs.YtdhgappjicpglaaGreatDoor.Lx
/-- How far a parser is: tokens read, nodes, how deep each is, how much is open. -/
structure St where
  a : Nat
  o : List Ex
  d : List Int
  k : Int
abbrev Res (α : Type) := Except (Int × Int × Int) α
def failF {α : Type} (L : List Tok) (a : Nat) (e : Int) : Res α := .error (e, (peekF L a).2.2.1, (peekF L a).2.2.2)
def signK (t : Tok) : Bool := decide (t.1 = 2) || decide (t.1 = 5)
def isF (L : List Tok) (a : Nat) (s : List UInt8) : Bool := signK (peekF L a) && decide ((peekF L a).2.1 = s)
def nextF (L : List Tok) (a : Nat) (m : List (List UInt8 × Int)) : Int := if signK (peekF L a) = true then mapA (peekF L a).2.1 m else 0
/-- How deep a node above these is. -/
def deepF (d : List Int) : List Int → Int → Int
  | [], m => m
  | i :: r, m => deepF d r (if IntKind.i64.wrap (d.getD i.toNat 0 + 1) > m then IntKind.i64.wrap (d.getD i.toNat 0 + 1) else m)
def nodeF (t : Tok) (x : Ex) (u : List Int) (s : St) : Res St :=
  if 64 < deepF s.d u 1 then .error (13, t.2.2.1, t.2.2.2) else .ok { s with o := s.o ++ [{ x with ln := t.2.2.1, cl := t.2.2.2 }], d := s.d ++ [deepF s.d u 1] }
def ex0 : Ex := ⟨0, 0, 0, [], 0, 0, [], false, 0, 0⟩
def insideF (L : List Tok) (one : St → Res St) (s : St) : Res St :=
  if s.k = 128 then failF L s.a 13 else match one { s with a := s.a + 1, k := s.k + 1 } with
    | .error e => .error e
    | .ok s' => .ok { s' with k := s'.k - 1 }
def beforeF (L : List Tok) (op : Int) (one : St → Res St) (s : St) : Res St :=
  match insideF L one s with
  | .error e => .error e
  | .ok s' => nodeF (peekF L s.a) { ex0 with op := op, a := (s'.o.length : Int) - 1 } [(s'.o.length : Int) - 1] s'
def chainL (L : List Tok) (m : List (List UInt8 × Int)) (one : St → Res St) : Nat → St → Res St
  | 0, s => .ok s
  | n + 1, s => if nextF L s.a m = 0 then .ok s else match one { s with a := s.a + 1 } with
    | .error e => .error e
    | .ok s2 => match nodeF (peekF L s.a) { ex0 with op := nextF L s.a m, a := (s.o.length : Int) - 1, b := (s2.o.length : Int) - 1 } [(s.o.length : Int) - 1, (s2.o.length : Int) - 1] s2 with
      | .error e => .error e
      | .ok s3 => chainL L m one n s3
def chainF (L : List Tok) (m : List (List UInt8 × Int)) (one : St → Res St) (s : St) : Res St :=
  match one s with
  | .error e => .error e
  | .ok s1 => chainL L m one (L.length + 1) s1
def turnF (s : St) (from_ mid : Nat) : St :=
  { s with
    o := s.o.take from_ ++ (s.o.drop mid).map (shiftX (-((mid - from_ : Nat) : Int))) ++ ((s.o.take mid).drop from_).map (shiftX ((s.o.length - mid : Nat) : Int))
    d := s.d.take from_ ++ s.d.drop mid ++ (s.d.take mid).drop from_ }
def cmpM : List (List UInt8 × Int) := [([61, 61], 13), ([33, 61], 14), ([60], 15), ([60, 61], 16), ([62], -15), ([62, 61], -16)]
def compF (L : List Tok) (one : St → Res St) (s : St) : Res St :=
  match one s with
  | .error e => .error e
  | .ok s1 => if nextF L s1.a cmpM = 0 then .ok s1 else match one { s1 with a := s1.a + 1 } with
    | .error e => .error e
    | .ok s2 => if nextF L s1.a cmpM < 0
      then nodeF (peekF L s1.a) { ex0 with op := -(nextF L s1.a cmpM), a := (s.o.length + (s2.o.length - s1.o.length) : Nat) - 1, b := (s2.o.length : Int) - 1 } [((s.o.length + (s2.o.length - s1.o.length) : Nat) : Int) - 1, (s2.o.length : Int) - 1] (turnF s2 s.o.length s1.o.length)
      else nodeF (peekF L s1.a) { ex0 with op := nextF L s1.a cmpM, a := (s1.o.length : Int) - 1, b := (s2.o.length : Int) - 1 } [(s1.o.length : Int) - 1, (s2.o.length : Int) - 1] s2
/-- Does a number come next, perhaps behind a sign? -/
def numbF (L : List Tok) (a : Nat) : Bool := decide ((if isF L a [45] = true then a + 1 else a) < L.length) && decide ((L.getD (if isF L a [45] = true then a + 1 else a) noTok).1 = 3)
/-- A value, and how far it goes. -/
def valueF (L : List Tok) (a : Nat) : Res ((Int × Int × List UInt8 × Bool) × Nat) :=
  if numbF L a = true then
    (let q := if isF L a [45] = true then a + 1 else a
     let g := (peekF L q).2.1
     let t := (if isF L a [45] = true ∧ g ≠ [48] then [45] else []) ++ g
     if Nu.numE t ≠ 0 then failF L q (Nu.numE t) else .ok ((1, Nu.numN t, [], false), q + 1))
  else if (peekF L a).1 = 4 then .ok ((2, 0, (peekF L a).2.1, false), a + 1)
  else if isF L a [116, 114, 117, 101] = true then .ok ((3, 0, [], true), a + 1)
  else if isF L a [102, 97, 108, 115, 101] = true then .ok ((3, 0, [], false), a + 1)
  else failF L a 16
def wantF (L : List Tok) (w : List UInt8) (s : St) : Res St := if isF L s.a w = true then .ok { s with a := s.a + 1 } else failF L s.a 16
def orM : List (List UInt8 × Int) := [([111, 114], 7)]
def andM : List (List UInt8 × Int) := [([97, 110, 100], 6)]
def sumM : List (List UInt8 × Int) := [([43], 8), ([45], 9)]
def prodM : List (List UInt8 × Int) := [([42], 10), ([47], 11), ([37], 12)]
def unaryF (L : List Tok) (expr una : St → Res St) (s : St) : Res St :=
  if isF L s.a [40] = true then insideF L (fun s => match expr s with | .error e => .error e | .ok s' => wantF L [41] s') s
  else if (peekF L s.a).1 = 1 ∧ (peekF L s.a).2.1 ≠ [95] then nodeF (peekF L s.a) { ex0 with op := 17, name := (peekF L s.a).2.1 } [] { s with a := s.a + 1 }
  else if isF L s.a [45] = true ∧ numbF L s.a = false then beforeF L 5 una s
  else match valueF L s.a with
    | .error e => .error e
    | .ok (v, a') => nodeF (peekF L s.a) { ex0 with op := 1, vk := v.1, vi := v.2.1, vs := v.2.2.1, vb := v.2.2.2 } [] { s with a := a' }
/-- The levels: 0 or, 1 and, 2 not, 3 compared, 4 sums, 5 products, 6 what stands behind signs. -/
def ev (L : List Tok) : Nat → Nat → St → Res St
  | 0, _, s => .ok s
  | f + 1, 0, s => chainF L orM (ev L f 1) s
  | f + 1, 1, s => chainF L andM (ev L f 2) s
  | f + 1, 2, s => if isF L s.a [110, 111, 116] = true then beforeF L 4 (ev L f 2) s else ev L f 3 s
  | f + 1, 3, s => compF L (ev L f 4) s
  | f + 1, 4, s => chainF L sumM (ev L f 5) s
  | f + 1, 5, s => chainF L prodM (ev L f 6) s
  | f + 1, _, s => unaryF L (ev L f 0) (ev L f 6) s
end Go.Proofs.YtdhgappjicpglaaGreatDoor.Pa
namespace Go.Proofs.YtdhgappjicpglaaGreatDoor.Pa
open Go Go.Ab Go.RowKit Go.Proofs.YtdhgappjicpglaaGreatDoor.Lx
variable {Γ : Nat → AV}
attribute [local irreducible] APure Sto.set Sto.grow
set_option maxRecDepth 10000
set_option maxHeartbeats 1000000
section
variable {s0 s : Sto} {bp bl : Nat} {L : List Tok} {a : Nat} {o : List Ex} {d : List Int} {k : Int}
theorem isP (hP : Pst s0 s bp bl L a o d k) (hL : L.length ≤ 1000000) (ha : a ≤ 1000000) (w : List UInt8) :
    ACalls Tryz.prog Γ 78 [.ptr (some ⟨bp, 0, none⟩), .str w] s fun v s' => v = .bool (isF L a w) ∧ s' = s := is_ok hP hL ha w
theorem takeP (hP : Pst s0 s bp bl L a o d k) (hL : L.length ≤ 1000000) (ha : a ≤ 100000) (w : List UInt8) :
    ACalls Tryz.prog Γ 157 [.ptr (some ⟨bp, 0, none⟩), .str w] s fun v s' => v = .bool (isF L a w) ∧ Pst s0 s' bp bl L (if isF L a w = true then a + 1 else a) o d k := take_ok hP hL ha w
theorem next_ok (hP : Pst s0 s bp bl L a o d k) (hL : L.length ≤ 1000000) (ha : a ≤ 1000000) (m : List (List UInt8 × Int)) :
    ACalls Tryz.prog Γ 52 [.ptr (some ⟨bp, 0, none⟩), .cmap m] s fun v s' => v = .int .i64 (nextF L a m) ∧ s' = s := by
  obtain ⟨t1, t2, hb, _⟩ := hP.pr
  have hpk := peek_ok (Γ := Γ) hP.pl hL ha
  unfold nextF signK
  generalize peekF L a = q at *
  obtain ⟨p1, p2, p3, p4⟩ := q
  simp only [tokA] at hpk
  refine ACalls.of_awp Tryz.func52 rfl (Nat.le_of_ble_eq_true (by kernel_rfl)) (awp_ok _ (by kernel_rfl) ?_)
  conv => whnf
  repeat' ((first | (exfalso; first | omega | exact (by assumption : ¬ True) trivial | fail) | refine ⟨Sub.refl _, ?_⟩ | (refine brA_split (fun h => ?_) (fun h => ?_) <;> (try rw [h]) <;> (try simp only [bS, ↓reduceIte] at h)) | (refine getB_of hb ?_) | (refine ACalls.by hpk ?_; rintro _ _ ⟨rfl, rfl⟩) | refine getB_same ?_ | refine AWp.anyA ?_ | refine and_a ?_ | fail) <;> (conv => whnf))
  intro b5 hb5
  conv => whnf
  repeat' ((first | (exfalso; first | omega | exact (by assumption : ¬ True) trivial | fail) | refine ⟨Sub.refl _, ?_⟩ | (refine brA_split (fun h => ?_) (fun h => ?_) <;> (try rw [h]) <;> (try simp only [bS, ↓reduceIte] at h)) | refine getB_a ?_ | refine getB_same ?_ | refine AWp.anyA ?_ | refine and_a ?_ | fail) <;> (conv => whnf))
  all_goals (refine ⟨_, ((Sub.refl _).set hb5 _ _).set hb5 _ _, ?_, rfl⟩; simp_all [tupA])
theorem numbered_ok (hP : Pst s0 s bp bl L a o d k) (hL : L.length ≤ 1000000) (ha : a ≤ 100000) :
    ACalls Tryz.prog Γ 150 [.ptr (some ⟨bp, 0, none⟩)] s fun v s' => v = .bool (numbF L a) ∧ s' = s := by
  obtain ⟨t1, t2, hb, _⟩ := hP.pr
  have hi := isP (Γ := Γ) hP hL (by omega) [45]
  have htl := toksA_len L
  unfold numbF
  have hw : IntKind.i64.wrap ((a : Int) + 1) = ((a + 1 : Nat) : Int) := i64_of (by omega) (by omega) (by omega)
  cases hm : isF L a [45]
  · rw [hm] at hi
    simp only [Bool.false_eq_true, if_false]
    have hg := fun h : a < L.length => toksA_at h
    generalize L.getD a noTok = z at *
    simp only [tokA] at hg
    refine ACalls.of_awp Tryz.func150 rfl (Nat.le_of_ble_eq_true (by kernel_rfl)) (awp_ok _ (by kernel_rfl) ?_)
    conv => whnf
    repeat' ((first | (exfalso; first | omega | exact (by assumption : ¬ True) trivial | fail) | refine ⟨Sub.refl _, ?_⟩ | (refine brA_split (fun h => ?_) (fun h => ?_) <;> (try rw [h]) <;> (try simp only [bS, ↓reduceIte] at h)) | (refine getB_of hb ?_) | (refine getB_of hP.pl ?_) | (refine ACalls.by hi ?_; rintro _ _ ⟨rfl, rfl⟩) | (rw [show (toksA L).getD ((a : Int)).toNat [] = _ from hg (by omega)]) | refine getB_same ?_ | refine AWp.anyA ?_ | refine and_a ?_ | fail) <;> (conv => whnf))
    all_goals (refine ⟨_, Sub.refl _, ?_, rfl⟩; first | (rw [decide_eq_true (show a < L.length by omega)]; simp [tupA]; done) | (rw [decide_eq_false (show ¬ a < L.length by omega)]; simp [tupA]; done))
  · rw [hm] at hi
    simp only [if_true]
    have hg := fun h : a + 1 < L.length => toksA_at h
    generalize L.getD (a + 1) noTok = z at *
    simp only [tokA] at hg
    refine ACalls.of_awp Tryz.func150 rfl (Nat.le_of_ble_eq_true (by kernel_rfl)) (awp_ok _ (by kernel_rfl) ?_)
    conv => whnf
    repeat' ((first | (exfalso; first | omega | exact (by assumption : ¬ True) trivial | fail) | refine ⟨Sub.refl _, ?_⟩ | (refine brA_split (fun h => ?_) (fun h => ?_) <;> (try rw [h]) <;> (try simp only [bS, ↓reduceIte] at h)) | (refine getB_of hb ?_) | (refine getB_of hP.pl ?_) | (refine ACalls.by hi ?_; rintro _ _ ⟨rfl, rfl⟩) | (rw [hw]) | (rw [show (toksA L).getD (((a + 1 : Nat) : Int)).toNat [] = _ from hg (by omega)]) | refine getB_same ?_ | refine AWp.anyA ?_ | refine and_a ?_ | fail) <;> (conv => whnf))
    all_goals (refine ⟨_, Sub.refl _, ?_, rfl⟩; first | (rw [decide_eq_true (show a + 1 < L.length by omega)]; simp [tupA]; done) | (rw [decide_eq_false (show ¬ a + 1 < L.length by omega)]; simp [tupA]; done))
def vlA (v : Int × Int × List UInt8 × Bool) : List AV := [.int .i64 v.1, .int .i64 v.2.1, .str v.2.2.1, .bool v.2.2.2]
/-- An error that tells e, and where. -/
def ErrV (x : Int × Int × Int) (v : AV) : Prop := ∃ kd t, v = errA (kd, t, x.2.1, x.2.2) x.1
theorem errV_fail (L : List Tok) (a : Nat) (e : Int) : ErrV (e, (peekF L a).2.2.1, (peekF L a).2.2.2) (errA (peekF L a) e) := ⟨(peekF L a).1, (peekF L a).2.1, rfl⟩
/-- What a value's reading leaves. -/
def valA (s0 : Sto) (bp bl : Nat) (L : List Tok) (o : List Ex) (d : List Int) (k : Int) (r : Res ((Int × Int × List UInt8 × Bool) × Nat)) (v : AV) (s' : Sto) : Prop :=
  match r with
  | .ok (x, a') => v = .tuple [.agg (vlA x), .nilIface] ∧ Pst s0 s' bp bl L a' o d k
  | .error x => ∃ e a', v = .tuple [.agg (vlA (0, 0, [], false)), e] ∧ ErrV x e ∧ Pst s0 s' bp bl L a' o d k
theorem Pst.box (hP : Pst s0 s bp bl L a o d k) {b : Nat} (hb : s.bx b = none) (T : TypeId) (cs : List AV) : Pst s0 (s.set b T cs) bp bl L a o d k := by
  obtain ⟨np, nl, ne, ⟨t1, t2, h1, h2, h3, h4⟩, pl⟩ := hP
  exact ⟨np, nl, ne, ⟨t1, t2, (set_bx_other (ne_of_none h1 hb)).trans h1, h2.set (h2.sub.none hb), h3.set (h2.sub.none hb), h4⟩, (set_bx_other (ne_of_none pl hb)).trans pl⟩
theorem Pst.put (hP : Pst s0 s bp bl L a o d k) {b : Nat} (hb : s0.bx b = none) (h1 : b ≠ bp) (h2 : b ≠ bl) (T : TypeId) (cs : List AV) : Pst s0 (s.set b T cs) bp bl L a o d k := by
  obtain ⟨np, nl, ne, ⟨t1, t2, e1, e2, e3, e4⟩, pl⟩ := hP
  exact ⟨np, nl, ne, ⟨t1, t2, (set_bx_other h1.symm).trans e1, e2.set hb, e3.set hb, e4⟩, (set_bx_other h2.symm).trans pl⟩
/-- A box more that the caller keeps. -/
theorem Pst.keep (hP : Pst s0 s bp bl L a o d k) {b : Nat} {T : TypeId} {cs : List AV} (hb : s.bx b = some (T, cs)) (h1 : b ≠ bp) (h2 : b ≠ bl) : Pst (s0.set b T cs) s bp bl L a o d k := by
  obtain ⟨np, nl, ne, ⟨t1, t2, e1, e2, e3, e4⟩, pl⟩ := hP
  have hs : Sub (s0.set b T cs) s := ⟨fun c x hc => (by
    by_cases hcb : c = b
    · subst hcb; rw [set_bx_same] at hc; rw [← hc]; exact hb
    · rw [set_bx_other hcb] at hc; exact e2.sub.bx c x hc), fun t e m hx => e2.sub.lv t e m (by simpa [Sto.set] using hx)⟩
  exact ⟨(set_bx_other h1.symm).trans np, (set_bx_other h2.symm).trans nl, ne, ⟨t1, t2, e1, ⟨hs, e2.own.imp id fun h => ⟨h.1, h.2.1, fun e m hx => h.2.2 e m (by simpa [Sto.set] using hx)⟩⟩, ⟨hs, e3.own.imp id fun h => ⟨h.1, h.2.1, fun e m hx => h.2.2 e m (by simpa [Sto.set] using hx)⟩⟩, e4⟩, pl⟩
/-- Without what was kept. -/
theorem Pst.drop {b : Nat} {T : TypeId} {cs : List AV} (hP : Pst (s0.set b T cs) s bp bl L a o d k) (hb : s0.bx b = none) : Pst s0 s bp bl L a o d k ∧ s.bx b = some (T, cs) := by
  obtain ⟨np, nl, ne, ⟨t1, t2, e1, e2, e3, e4⟩, pl⟩ := hP
  have hsb : Sub s0 (s0.set b T cs) := (Sub.refl s0).set hb T cs
  have n1 : bp ≠ b := by rintro rfl; rw [set_bx_same] at np; cases np
  have n2 : bl ≠ b := by rintro rfl; rw [set_bx_same] at nl; cases nl
  exact ⟨⟨(set_bx_other n1).symm.trans np, (set_bx_other n2).symm.trans nl, ne, ⟨t1, t2, e1, e2.of_sub hsb, e3.of_sub hsb, e4⟩, pl⟩, e2.sub.bx _ _ set_bx_same⟩
theorem number_ok (hE : Nu.ErrR Γ) (hP : Pst s0 s bp bl L a o d k) (hL : L.length ≤ 100000) (ha : a ≤ 100000) (hT : ∀ i, (peekF L i).2.1.length ≤ 5000) (hn : numbF L a = true) :
    ACalls Tryz.prog Γ 156 [.ptr (some ⟨bp, 0, none⟩)] s (valA s0 bp bl L o d k (valueF L a)) := by
  unfold valueF
  rw [if_pos hn]
  dsimp only
  unfold failF
  have hq : (if isF L a [45] = true then a + 1 else a) ≤ 100001 := by split <;> omega
  have htk := fun {s0 s : Sto} (hP : Pst s0 s bp bl L a o d k) => takeP (Γ := Γ) hP (by omega) ha [45]
  generalize (if isF L a [45] = true then a + 1 else a) = q at *
  generalize isF L a [45] = mi at *
  have hTq := hT q
  have hfl := fun {s : Sto} (hP : Pst s0 s bp bl L q o d k) (e : Int) => fail_ok (Γ := Γ) hP (by omega) (by omega) e
  have hpk := fun {s : Sto} (hb : s.bx bl = some (73, [.slice 0 (toksA L), .int .i64 q])) => peek_ok (Γ := Γ) hb (by omega) (by omega)
  have hev := errV_fail L q
  generalize peekF L q = p at *
  obtain ⟨p1, p2, p3, p4⟩ := p
  simp only [tokA] at hpk
  simp only at hTq
  have hw : IntKind.i64.wrap ((q : Int) + 1) = ((q + 1 : Nat) : Int) := i64_of (by omega) (by omega) (by omega)
  have hpr := fun t (ht : t.length ≤ 5001) => Nu.parse_run (Γ := Γ) t (by omega) hE (fun h => Nu.no_syntax h)
  have hmi : ∀ g : List UInt8, (if mi = true ∧ g ≠ [48] then ([45] : List UInt8) else []) = if g = [48] then [] else if mi = true then [45] else [] := fun g => by
    by_cases hg : g = [48]
    · simp [hg]
    · cases mi <;> simp [hg]
  rw [hmi]
  clear hmi
  refine ACalls.of_awp Tryz.func156 rfl (Nat.le_of_ble_eq_true (by kernel_rfl)) (awp_ok _ (by kernel_rfl) ?_)
  conv => whnf
  intro b2 hb2
  conv => whnf
  have c0 : s0.bx b2 = none := hP.sub.none hb2
  have hn1 : b2 ≠ bp := by rintro rfl; obtain ⟨_, _, h, _⟩ := hP.pr; rw [hb2] at h; cases h
  have hn2 : b2 ≠ bl := by rintro rfl; rw [hP.pl] at hb2; cases hb2
  have hP2 := (hP.box hb2 49 [.int .i64 0, .int .i64 0, .str [], .bool false]).keep set_bx_same hn1 hn2
  cases mi
  · repeat' ((first | (exfalso; first | omega | exact (by assumption : ¬ True) trivial | fail) | refine ⟨Sub.refl _, ?_⟩ | (refine brA_split (fun h => ?_) (fun h => ?_) <;> (try rw [h]) <;> (try simp only [bS, ↓reduceIte] at h)) | (refine ACalls.by (htk hP2) ?_; rintro _ s3 ⟨rfl, hP3⟩) | refine getB_same ?_ | refine AWp.anyA ?_ | refine and_a ?_ | fail) <;> (conv => whnf))
    have hP3' := (hP3.drop c0).1
    have hb23 := (hP3.drop c0).2
    obtain ⟨t1, t2, hb3, _⟩ := hP3'.pr
    conv => whnf
    repeat' ((first | (exfalso; first | omega | exact (by assumption : ¬ True) trivial | fail) | refine ⟨Sub.refl _, ?_⟩ | (refine brA_split (fun h => ?_) (fun h => ?_) <;> (try rw [h]) <;> (try simp only [bS, ↓reduceIte] at h)) | (refine getB_of hb3 ?_) | (refine ACalls.by (hpk hP3'.pl) ?_; rintro _ s4 ⟨rfl, hs4⟩; subst s4) | refine getB_same ?_ | refine AWp.anyA ?_ | refine and_a ?_ | fail) <;> (conv => whnf))
    · have h48 := h
      have hpt := hpr ([] ++ p2) (by simp; omega)
      repeat' ((first | (exfalso; first | omega | exact (by assumption : ¬ True) trivial | fail) | refine ⟨Sub.refl _, ?_⟩ | (refine brA_split (fun h => ?_) (fun h => ?_) <;> (try rw [h]) <;> (try simp only [bS, ↓reduceIte] at h)) | (refine ACalls.pure' ?_ (hpt); rintro _ rfl) | refine DCall.pure ?_ (hpt) | refine getB_same ?_ | refine AWp.anyA ?_ | refine and_a ?_ | fail) <;> (conv => whnf))
      · have hbad := h
        repeat' ((first | (exfalso; first | omega | exact (by assumption : ¬ True) trivial | fail) | refine ⟨Sub.refl _, ?_⟩ | (refine brA_split (fun h => ?_) (fun h => ?_) <;> (try rw [h]) <;> (try simp only [bS, ↓reduceIte] at h)) | (refine ACalls.by (hfl hP3' _) ?_; rintro _ s5 ⟨rfl, hs5⟩; subst s5) | (refine getB_of hb23 ?_) | refine getB_same ?_ | refine AWp.anyA ?_ | refine and_a ?_ | fail) <;> (conv => whnf))
        refine ⟨_, Sub.refl _, ?_⟩
        simp only; rw [if_pos h48]
        rw [if_pos hbad]
        exact ⟨_, _, rfl, hev _, hP3'.put c0 hn1 hn2 _ _⟩
      · have hgood := h
        repeat' ((first | (exfalso; first | omega | exact (by assumption : ¬ True) trivial | fail) | refine ⟨Sub.refl _, ?_⟩ | (refine brA_split (fun h => ?_) (fun h => ?_) <;> (try rw [h]) <;> (try simp only [bS, ↓reduceIte] at h)) | (refine getB_of hb3 ?_) | (refine getB_of hP3'.pl ?_) | (rw [hw]) | (refine getB_of ((set_bx_other hn2).trans hb23) ?_) | refine getB_same ?_ | refine AWp.anyA ?_ | refine and_a ?_ | fail) <;> (conv => whnf))
        refine ⟨_, Sub.refl _, ?_⟩
        simp only; rw [if_pos h48]
        rw [if_neg (fun hh => hh hgood)]
        exact ⟨rfl, (hP3'.next (q + 1)).put c0 hn1 hn2 _ _⟩
    · have h48 := h
      have hpt := hpr ([] ++ p2) (by simp; omega)
      repeat' ((first | (exfalso; first | omega | exact (by assumption : ¬ True) trivial | fail) | refine ⟨Sub.refl _, ?_⟩ | (refine brA_split (fun h => ?_) (fun h => ?_) <;> (try rw [h]) <;> (try simp only [bS, ↓reduceIte] at h)) | (refine ACalls.pure' ?_ (hpt); rintro _ rfl) | refine DCall.pure ?_ (hpt) | refine getB_same ?_ | refine AWp.anyA ?_ | refine and_a ?_ | fail) <;> (conv => whnf))
      · have hbad := h
        repeat' ((first | (exfalso; first | omega | exact (by assumption : ¬ True) trivial | fail) | refine ⟨Sub.refl _, ?_⟩ | (refine brA_split (fun h => ?_) (fun h => ?_) <;> (try rw [h]) <;> (try simp only [bS, ↓reduceIte] at h)) | (refine ACalls.by (hfl hP3' _) ?_; rintro _ s5 ⟨rfl, hs5⟩; subst s5) | (refine getB_of hb23 ?_) | refine getB_same ?_ | refine AWp.anyA ?_ | refine and_a ?_ | fail) <;> (conv => whnf))
        refine ⟨_, Sub.refl _, ?_⟩
        simp only; rw [if_neg h48]; simp only [Bool.false_eq_true, if_false]
        rw [if_pos hbad]
        exact ⟨_, _, rfl, hev _, hP3'.put c0 hn1 hn2 _ _⟩
      · have hgood := h
        repeat' ((first | (exfalso; first | omega | exact (by assumption : ¬ True) trivial | fail) | refine ⟨Sub.refl _, ?_⟩ | (refine brA_split (fun h => ?_) (fun h => ?_) <;> (try rw [h]) <;> (try simp only [bS, ↓reduceIte] at h)) | (refine getB_of hb3 ?_) | (refine getB_of hP3'.pl ?_) | (rw [hw]) | (refine getB_of ((set_bx_other hn2).trans hb23) ?_) | refine getB_same ?_ | refine AWp.anyA ?_ | refine and_a ?_ | fail) <;> (conv => whnf))
        refine ⟨_, Sub.refl _, ?_⟩
        simp only; rw [if_neg h48]; simp only [Bool.false_eq_true, if_false]
        rw [if_neg (fun hh => hh hgood)]
        exact ⟨rfl, (hP3'.next (q + 1)).put c0 hn1 hn2 _ _⟩
  · repeat' ((first | (exfalso; first | omega | exact (by assumption : ¬ True) trivial | fail) | refine ⟨Sub.refl _, ?_⟩ | (refine brA_split (fun h => ?_) (fun h => ?_) <;> (try rw [h]) <;> (try simp only [bS, ↓reduceIte] at h)) | (refine ACalls.by (htk hP2) ?_; rintro _ s3 ⟨rfl, hP3⟩) | refine getB_same ?_ | refine AWp.anyA ?_ | refine and_a ?_ | fail) <;> (conv => whnf))
    have hP3' := (hP3.drop c0).1
    have hb23 := (hP3.drop c0).2
    obtain ⟨t1, t2, hb3, _⟩ := hP3'.pr
    conv => whnf
    repeat' ((first | (exfalso; first | omega | exact (by assumption : ¬ True) trivial | fail) | refine ⟨Sub.refl _, ?_⟩ | (refine brA_split (fun h => ?_) (fun h => ?_) <;> (try rw [h]) <;> (try simp only [bS, ↓reduceIte] at h)) | (refine getB_of hb3 ?_) | (refine ACalls.by (hpk hP3'.pl) ?_; rintro _ s4 ⟨rfl, hs4⟩; subst s4) | refine getB_same ?_ | refine AWp.anyA ?_ | refine and_a ?_ | fail) <;> (conv => whnf))
    · have h48 := h
      have hpt := hpr ([] ++ p2) (by simp; omega)
      repeat' ((first | (exfalso; first | omega | exact (by assumption : ¬ True) trivial | fail) | refine ⟨Sub.refl _, ?_⟩ | (refine brA_split (fun h => ?_) (fun h => ?_) <;> (try rw [h]) <;> (try simp only [bS, ↓reduceIte] at h)) | (refine ACalls.pure' ?_ (hpt); rintro _ rfl) | refine DCall.pure ?_ (hpt) | refine getB_same ?_ | refine AWp.anyA ?_ | refine and_a ?_ | fail) <;> (conv => whnf))
      · have hbad := h
        repeat' ((first | (exfalso; first | omega | exact (by assumption : ¬ True) trivial | fail) | refine ⟨Sub.refl _, ?_⟩ | (refine brA_split (fun h => ?_) (fun h => ?_) <;> (try rw [h]) <;> (try simp only [bS, ↓reduceIte] at h)) | (refine ACalls.by (hfl hP3' _) ?_; rintro _ s5 ⟨rfl, hs5⟩; subst s5) | (refine getB_of hb23 ?_) | refine getB_same ?_ | refine AWp.anyA ?_ | refine and_a ?_ | fail) <;> (conv => whnf))
        refine ⟨_, Sub.refl _, ?_⟩
        simp only; rw [if_pos h48]
        rw [if_pos hbad]
        exact ⟨_, _, rfl, hev _, hP3'.put c0 hn1 hn2 _ _⟩
      · have hgood := h
        repeat' ((first | (exfalso; first | omega | exact (by assumption : ¬ True) trivial | fail) | refine ⟨Sub.refl _, ?_⟩ | (refine brA_split (fun h => ?_) (fun h => ?_) <;> (try rw [h]) <;> (try simp only [bS, ↓reduceIte] at h)) | (refine getB_of hb3 ?_) | (refine getB_of hP3'.pl ?_) | (rw [hw]) | (refine getB_of ((set_bx_other hn2).trans hb23) ?_) | refine getB_same ?_ | refine AWp.anyA ?_ | refine and_a ?_ | fail) <;> (conv => whnf))
        refine ⟨_, Sub.refl _, ?_⟩
        simp only; rw [if_pos h48]
        rw [if_neg (fun hh => hh hgood)]
        exact ⟨rfl, (hP3'.next (q + 1)).put c0 hn1 hn2 _ _⟩
    · have h48 := h
      have hpt := hpr ([45] ++ p2) (by simp; omega)
      repeat' ((first | (exfalso; first | omega | exact (by assumption : ¬ True) trivial | fail) | refine ⟨Sub.refl _, ?_⟩ | (refine brA_split (fun h => ?_) (fun h => ?_) <;> (try rw [h]) <;> (try simp only [bS, ↓reduceIte] at h)) | (refine ACalls.pure' ?_ (hpt); rintro _ rfl) | refine DCall.pure ?_ (hpt) | refine getB_same ?_ | refine AWp.anyA ?_ | refine and_a ?_ | fail) <;> (conv => whnf))
      · have hbad := h
        repeat' ((first | (exfalso; first | omega | exact (by assumption : ¬ True) trivial | fail) | refine ⟨Sub.refl _, ?_⟩ | (refine brA_split (fun h => ?_) (fun h => ?_) <;> (try rw [h]) <;> (try simp only [bS, ↓reduceIte] at h)) | (refine ACalls.by (hfl hP3' _) ?_; rintro _ s5 ⟨rfl, hs5⟩; subst s5) | (refine getB_of hb23 ?_) | refine getB_same ?_ | refine AWp.anyA ?_ | refine and_a ?_ | fail) <;> (conv => whnf))
        refine ⟨_, Sub.refl _, ?_⟩
        simp only; rw [if_neg h48]; simp only [if_true]
        rw [if_pos hbad]
        exact ⟨_, _, rfl, hev _, hP3'.put c0 hn1 hn2 _ _⟩
      · have hgood := h
        repeat' ((first | (exfalso; first | omega | exact (by assumption : ¬ True) trivial | fail) | refine ⟨Sub.refl _, ?_⟩ | (refine brA_split (fun h => ?_) (fun h => ?_) <;> (try rw [h]) <;> (try simp only [bS, ↓reduceIte] at h)) | (refine getB_of hb3 ?_) | (refine getB_of hP3'.pl ?_) | (rw [hw]) | (refine getB_of ((set_bx_other hn2).trans hb23) ?_) | refine getB_same ?_ | refine AWp.anyA ?_ | refine and_a ?_ | fail) <;> (conv => whnf))
        refine ⟨_, Sub.refl _, ?_⟩
        simp only; rw [if_neg h48]; simp only [if_true]
        rw [if_neg (fun hh => hh hgood)]
        exact ⟨rfl, (hP3'.next (q + 1)).put c0 hn1 hn2 _ _⟩
end
end Go.Proofs.YtdhgappjicpglaaGreatDoor.Pa
