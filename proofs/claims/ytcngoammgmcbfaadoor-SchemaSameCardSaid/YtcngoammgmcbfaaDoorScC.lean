/- Chapter 7: declarations. -/
import Derived.Test.YtcngoammgmcbfaaDoorScB
namespace Go.Proofs.YtcngoammgmcbfaaDoor.Sc
open Go Go.Ab Go.RowKit
variable {Γ : Nat → AV}

/-- A declaration: its name, its kinds (and what is known of their room). -/
abbrev D := List UInt8 × Nat × List Int
def declC (d : D) : List AV := [.str d.1, .slice d.2.1 (intsA .i64 d.2.2)]
def declsA (l : List D) : List (List AV) := l.map declC
theorem declsA_len (l : List D) : (declsA l).length = l.length := by simp [declsA]
def noD : D := ([], 0, [])
theorem declsA_get {l : List D} {i : Nat} (h : i < l.length) : (declsA l).getD i [] = [.str (l.getD i noD).1, .slice (l.getD i noD).2.1 (intsA .i64 (l.getD i noD).2.2)] := by
  simp [declsA, List.getD, h, declC]
theorem drop_decl {l : List D} {i : Nat} (h : i < l.length) : l.drop i = l.getD i noD :: l.drop (i + 1) := by
  rw [List.drop_eq_getElem_cons h]
  simp [List.getD, h]

def idxBy {α : Type} (p : α → Bool) : List α → Int
  | [] => -1
  | x :: l => if p x = true then 0 else if idxBy p l = -1 then -1 else idxBy p l + 1
theorem idxBy_ge {α : Type} (p : α → Bool) : ∀ l : List α, -1 ≤ idxBy p l ∧ idxBy p l < l.length
  | [] => by simp [idxBy]
  | x :: l => by have := idxBy_ge p l; simp only [idxBy, List.length_cons]; split <;> (try split) <;> omega

theorem str_cells {G : Gh} {W : World} {b : Nat} : ∀ (xs : List (List UInt8)) (o : Nat) (k : Nat), RElems G W k b o (strsA xs) → xs ≠ [] → k = 1 ∧ ∀ (j : Nat) (x : List UInt8), xs[j]? = some x → W.cell? ⟨b, o + j, none⟩ = some (.string ⟨x.toArray⟩)
  | [], _, _, _, h => absurd rfl h
  | x :: xs, o, k, h, _ => by
    have h : RElems G W k b o ([.str x] :: strsA xs) := h
    unfold RElems at h
    obtain ⟨hk, hc, hs⟩ := h
    have hk : k = 1 := hk.symm
    subst hk
    refine ⟨rfl, fun j y hj => ?_⟩
    cases j with
    | zero =>
      simp only [List.getElem?_cons_zero, Option.some.injEq] at hj
      subst hj
      unfold RCells at hc
      obtain ⟨_, ⟨u, hu, hR⟩, _⟩ := hc
      rw [R_str] at hR
      subst hR
      exact hu
    | succ j =>
      by_cases hx : xs = []
      · subst hx; simp at hj
      · have := (str_cells xs (o + 1) 1 hs hx).2 j y (by simpa using hj)
        rwa [show o + (j + 1) = o + 1 + j by omega]

theorem join_ok (t : Nat) (xs : List (List UInt8)) (sep : List UInt8) (hN : xs.length ≤ 140737488355328) (hlen : (Lib.join xs sep).length ≤ 140737488355328) :
    APure Tryd.prog Γ 75 [.slice t (strsA xs), .str sep] fun v => v = .str (Lib.join xs sep) := by
  intro s
  refine ACalls.of_below fun G w vs hm hr => ?_
  obtain ⟨u, us, rfl, hu, hus⟩ := RList_cons.1 hr
  obtain ⟨u1, us1, rfl, hu1, hus1⟩ := RList_cons.1 hus
  rw [RList_nil] at hus1; subst hus1
  rw [R_str] at hu1; subst hu1
  obtain ⟨a, cap, rfl, hcap, hnil, hels, _⟩ := slice_val hu
  rw [strsA_len] at *
  by_cases hx : xs = []
  · subst hx
    refine ⟨_, fun G' w' => R_str.2 rfl, (Tryd.strings_Join_none a cap ⟨sep.toArray⟩ w).mono ?_⟩
    rintro e w' ⟨rfl, rfl⟩
    exact ⟨rfl, Below.refl _ _⟩
  · obtain ⟨b, o, k, rfl, hel⟩ := hels (by intro hn; have := congrArg List.length hn; rw [strsA_len] at this; exact hx (List.eq_nil_of_length_eq_zero this))
    have hc := (str_cells xs o k hel hx).2
    have hmap : (xs.map fun l => (⟨l.toArray⟩ : ByteArray)).map (·.data.toList) = xs := by
      rw [List.map_map]
      show xs.map (fun l => l.toArray.toList) = xs
      simp
    have hj := Tryd.strings_Join b o cap (xs.map fun l => (⟨l.toArray⟩ : ByteArray)) ⟨sep.toArray⟩ w (fun j x hjx => by
        rw [List.getElem?_map] at hjx
        obtain ⟨l, hl, rfl⟩ := Option.map_eq_some_iff.1 hjx
        exact hc j l hl) (by
        obtain ⟨x, hx0⟩ : ∃ x, xs[0]? = some x := by cases xs with
          | nil => exact absurd rfl hx
          | cons x l => exact ⟨x, rfl⟩
        exact (cell_lt (hc 0 x hx0)).1) (by simpa using hN) (by simpa using hcap) (by rw [hmap]; exact hlen)
    rw [hmap, List.length_map] at hj
    exact ⟨_, fun G' w' => R_str.2 rfl, hj⟩

attribute [local irreducible] APure Sto.set Sto.grow
set_option maxRecDepth 10000

def kname (k : Int) : List UInt8 := if k = 1 then [105, 110, 116] else if k = 2 then [115, 116, 114, 105, 110, 103] else if k = 3 then [98, 111, 111, 108] else []
theorem kname_ok (k : Int) : APure Tryd.prog Γ 74 [.int .i64 k] fun v => v = .str (kname k) := by
  refine APure.of_awp Tryd.func74 rfl (Nat.le_of_ble_eq_true (by kernel_rfl)) (by kernel_rfl) ?_
  intro s
  conv => whnf
  repeat' (first
    | (refine ⟨Sub.refl _, ?_⟩)
    | (refine brA_split (fun h => ?_) (fun h => ?_) <;> (try rw [h]) <;> (try simp only [Bool.false_eq_true, Bool.true_eq_false, ↓reduceIte, decide_eq_true_eq, decide_eq_false_iff_not, Bool.not_eq_true', Bool.not_eq_false'] at h) <;> (conv => whnf))
    | (refine getB_same ?_; conv => whnf)
    | (refine AWp.any (by kernel_rfl) (by kernel_rfl) (by kernel_rfl) ?_; conv => whnf)
    | (apply And.intro; (focus (first | omega | rfl | decide | exact Nat.le_of_ble_eq_true rfl | ((repeat' (first | exact all_nil | refine all_cons ?_ ?_ | rfl | fail)); done) | (simp [-List.length_flatMap]; done) | (simp [-List.length_flatMap]; omega) | fail)); conv => whnf)
    | fail)
  all_goals simp [tupA, kname, *]
def noKind (k : Int) : Bool := decide (kname k = [])
theorem noKind_ok (k : Int) : APure Tryd.prog Γ 91 [.int .i64 k] fun v => v = .bool (noKind k) := by
  refine APure.of_awp Tryd.func91 rfl (Nat.le_of_ble_eq_true (by kernel_rfl)) (by kernel_rfl) ?_
  intro s
  conv => whnf
  repeat' (first
    | (refine ⟨Sub.refl _, ?_⟩)
    | (refine brA_split (fun h => ?_) (fun h => ?_) <;> (try rw [h]) <;> (try simp only [Bool.false_eq_true, Bool.true_eq_false, ↓reduceIte, decide_eq_true_eq, decide_eq_false_iff_not, Bool.not_eq_true', Bool.not_eq_false'] at h) <;> (conv => whnf))
    | (refine ACalls.pure' ?_ (kname_ok _); rintro _ rfl; conv => whnf)
    | (refine DCall.pure ?_ (kname_ok _); conv => whnf)
    | (refine getB_same ?_; conv => whnf)
    | (refine AWp.any (by kernel_rfl) (by kernel_rfl) (by kernel_rfl) ?_; conv => whnf)
    | (apply And.intro; (focus (first | omega | rfl | decide | exact Nat.le_of_ble_eq_true rfl | ((repeat' (first | exact all_nil | refine all_cons ?_ ?_ | rfl | fail)); done) | (simp [-List.length_flatMap]; done) | (simp [-List.length_flatMap]; omega) | fail)); conv => whnf)
    | fail)
  rfl

theorem indexInts_ok (t : Nat) (l : List Int) (hl : l.length ≤ 140737488355328) : APure Tryd.prog Γ 98 [.slice t (intsA .i64 l), .func (.func 91) [] []] fun v => v = .int .i64 (idxBy noKind l) := by
  have hbl := intsA_len .i64 l
  refine APure.of_awp Tryd.func98 rfl (Nat.le_of_ble_eq_true (by kernel_rfl)) (by kernel_rfl) ?_
  intro s
  conv => whnf
  refine AWp.loopA [8] [9, 10, 5, 11, 12, 13, 14, 15, 16, 17, 4, 18] (fun i : Nat => [.int .i64 i]) (fun i s' => i ≤ l.length ∧ s' = s ∧ idxBy noKind l = addIdx i (idxBy noKind (l.drop i))) (fun i => l.length - i) (0) (by kernel_rfl) (by (repeat' (first | refine cons_eq ?_ ?_ | refine int64_of ?_ ?_ ?_ | rfl | omega))) ?_ ?_
  · exact ⟨by omega, rfl, by simp [addIdx]⟩
  · rintro y i _ ⟨hi, rfl, hp⟩
    conv => whnf
    repeat' (first
      | (refine ⟨Sub.refl _, ?_⟩)
      | (refine brA_split (fun h => ?_) (fun h => ?_) <;> (try rw [h]) <;> (try simp only [Bool.false_eq_true, Bool.true_eq_false, ↓reduceIte, decide_eq_true_eq, decide_eq_false_iff_not, Bool.not_eq_true', Bool.not_eq_false'] at h) <;> (conv => whnf))
      | (rw [intsA_get (by omega)]; conv => whnf)
      | (refine ACalls.pure' ?_ (noKind_ok _); rintro _ rfl; conv => whnf)
      | (refine DCall.pure ?_ (noKind_ok _); conv => whnf)
      | (refine getB_same ?_; conv => whnf)
      | (refine AWp.any (by kernel_rfl) (by kernel_rfl) (by kernel_rfl) ?_; conv => whnf)
      | (apply And.intro; (focus (first | omega | rfl | decide | exact Nat.le_of_ble_eq_true rfl | ((repeat' (first | exact all_nil | refine all_cons ?_ ?_ | rfl | fail)); done) | (simp [-List.length_flatMap]; done) | (simp [-List.length_flatMap]; omega) | fail)); conv => whnf)
      | fail)
    · simp only [Int.toNat_natCast] at h
      rw [hp, drop_int (by omega), idxBy, if_pos h]
      simp [tupA, addIdx]
    · simp only [Int.toNat_natCast] at h
      refine ⟨i + 1, by (repeat' (first | refine cons_eq ?_ ?_ | refine int64_of ?_ ?_ ?_ | rfl | omega)), by (repeat (first | exact Same.refl _ _ | refine Same.upd rfl ?_ | refine Same.updL rfl ?_ | refine Same.havoc rfl ?_)), ⟨by omega, rfl, ?_⟩, by omega⟩
      rw [hp, drop_int (i := i) (by omega), idxBy, if_neg (by rw [h]; decide)]
      have := idxBy_ge noKind (l.drop (i + 1))
      grind [addIdx]
    · rw [hp, drop_end (by omega)]
      simp [tupA, addIdx, idxBy]
theorem containsInts_ok (t : Nat) (l : List Int) (hl : l.length ≤ 140737488355328) : APure Tryd.prog Γ 90 [.slice t (intsA .i64 l), .func (.func 91) [] []] fun v => v = .bool (decide (0 ≤ idxBy noKind l)) := by
  refine APure.of_awp Tryd.func90 rfl (Nat.le_of_ble_eq_true (by kernel_rfl)) (by kernel_rfl) ?_
  intro s
  conv => whnf
  repeat' (first
    | (refine ⟨Sub.refl _, ?_⟩)
    | (refine brA_split (fun h => ?_) (fun h => ?_) <;> (try rw [h]) <;> (try simp only [Bool.false_eq_true, Bool.true_eq_false, ↓reduceIte, decide_eq_true_eq, decide_eq_false_iff_not, Bool.not_eq_true', Bool.not_eq_false'] at h) <;> (conv => whnf))
    | (refine ACalls.pure' ?_ (indexInts_ok _ _ hl); rintro _ rfl; conv => whnf)
    | (refine DCall.pure ?_ (indexInts_ok _ _ hl); conv => whnf)
    | (refine getB_same ?_; conv => whnf)
    | (refine AWp.any (by kernel_rfl) (by kernel_rfl) (by kernel_rfl) ?_; conv => whnf)
    | (apply And.intro; (focus (first | omega | rfl | decide | exact Nat.le_of_ble_eq_true rfl | ((repeat' (first | exact all_nil | refine all_cons ?_ ?_ | rfl | fail)); done) | (simp [-List.length_flatMap]; done) | (simp [-List.length_flatMap]; omega) | fail)); conv => whnf)
    | fail)
  rfl

theorem findFn_ok {s : Sto} {b : Nat} {name : List UInt8} (d : D) (hb : s.bx b = some (9, [.str name])) :
    ACalls Tryd.prog Γ 77 [.agg [.str d.1, .slice d.2.1 (intsA .i64 d.2.2)], .ptr (some ⟨b, 0, none⟩)] s fun v s' => v = .bool (decide (d.1 = name)) ∧ s' = s := by
  refine ACalls.of_awp Tryd.func77 rfl (Nat.le_of_ble_eq_true (by kernel_rfl)) (awp_ok _ (by kernel_rfl) ?_)
  conv => whnf
  intro b2 hb2
  conv => whnf
  repeat' (first
    | (refine ⟨Sub.refl _, ?_⟩)
    | (refine brA_split (fun h => ?_) (fun h => ?_) <;> (try rw [h]) <;> (try simp only [Bool.false_eq_true, Bool.true_eq_false, ↓reduceIte, decide_eq_true_eq, decide_eq_false_iff_not, Bool.not_eq_true', Bool.not_eq_false'] at h) <;> (conv => whnf))
    | (refine getB_same ?_; conv => whnf)
    | (refine AWp.any (by kernel_rfl) (by kernel_rfl) (by kernel_rfl) ?_; conv => whnf)
    | (apply And.intro; (focus (first | omega | rfl | decide | exact Nat.le_of_ble_eq_true rfl | ((repeat' (first | exact all_nil | refine all_cons ?_ ?_ | rfl | fail)); done) | (simp [-List.length_flatMap]; done) | (simp [-List.length_flatMap]; omega) | fail)); conv => whnf)
    | fail)
  refine getB_other (ne_of_none hb hb2) (getB_of hb ?_)
  conv => whnf
  exact ⟨_, (Sub.refl _).set hb2 _ _, rfl, rfl⟩

theorem indexDecls_ok {s : Sto} {b : Nat} {name : List UInt8} (t : Nat) (l : List D) (hl : l.length ≤ 140737488355328) (hb : s.bx b = some (9, [.str name])) :
    ACalls Tryd.prog Γ 76 [.slice t (declsA l), .func (.func 77) [] [.ptr (some ⟨b, 0, none⟩)]] s fun v s' => v = .int .i64 (idxBy (fun d : D => decide (d.1 = name)) l) ∧ s' = s := by
  have hbl := declsA_len l
  refine ACalls.of_awp Tryd.func76 rfl (Nat.le_of_ble_eq_true (by kernel_rfl)) (awp_ok _ (by kernel_rfl) ?_)
  conv => whnf
  refine AWp.loopA [8] [9, 10, 5, 11, 12, 13, 14, 15, 16, 17, 4, 18] (fun i : Nat => [.int .i64 i]) (fun i s' => i ≤ l.length ∧ s' = s ∧ idxBy (fun d : D => decide (d.1 = name)) l = addIdx i (idxBy (fun d : D => decide (d.1 = name)) (l.drop i))) (fun i => l.length - i) (0) (by kernel_rfl) (by (repeat' (first | refine cons_eq ?_ ?_ | refine int64_of ?_ ?_ ?_ | rfl | omega))) ?_ ?_
  · exact ⟨by omega, rfl, by simp [addIdx]⟩
  · rintro y i _ ⟨hi, rfl, hp⟩
    conv => whnf
    repeat' (first
      | (refine ⟨Sub.refl _, ?_⟩)
      | (refine brA_split (fun h => ?_) (fun h => ?_) <;> (try rw [h]) <;> (try simp only [Bool.false_eq_true, Bool.true_eq_false, ↓reduceIte, decide_eq_true_eq, decide_eq_false_iff_not, Bool.not_eq_true', Bool.not_eq_false'] at h) <;> (conv => whnf))
      | (rw [declsA_get (by omega)]; conv => whnf)
      | (refine ACalls.by (findFn_ok _ hb) ?_; rintro _ _ ⟨rfl, rfl⟩; conv => whnf)
      | (refine getB_same ?_; conv => whnf)
      | (refine AWp.any (by kernel_rfl) (by kernel_rfl) (by kernel_rfl) ?_; conv => whnf)
      | (apply And.intro; (focus (first | omega | rfl | decide | exact Nat.le_of_ble_eq_true rfl | ((repeat' (first | exact all_nil | refine all_cons ?_ ?_ | rfl | fail)); done) | (simp [-List.length_flatMap]; done) | (simp [-List.length_flatMap]; omega) | fail)); conv => whnf)
      | fail)
    · simp only [Int.toNat_natCast] at h
      refine ⟨_, Sub.refl _, ?_, rfl⟩
      rw [hp, drop_decl (by omega), idxBy, if_pos (by simpa using h)]
      simp [tupA, addIdx]
    · simp only [Int.toNat_natCast] at h
      refine ⟨i + 1, by (repeat' (first | refine cons_eq ?_ ?_ | refine int64_of ?_ ?_ ?_ | rfl | omega)), by (repeat (first | exact Same.refl _ _ | refine Same.upd rfl ?_ | refine Same.updL rfl ?_ | refine Same.havoc rfl ?_)), ⟨by omega, rfl, ?_⟩, by omega⟩
      rw [hp, drop_decl (i := i) (by omega), idxBy, if_neg (by simpa using h)]
      have := idxBy_ge (fun d : D => decide (d.1 = name)) (l.drop (i + 1))
      grind [addIdx]
    · refine ⟨_, Sub.refl _, ?_, rfl⟩
      rw [hp, drop_end (by omega)]
      simp [tupA, addIdx, idxBy]

def findIdx (l : List D) (name : List UInt8) : Int := idxBy (fun d : D => decide (d.1 = name)) l
def firstOf (l : List D) (name : List UInt8) : Int := if 0 > findIdx l name then 0 else findIdx l name
theorem find_ok (t : Nat) (l : List D) (name : List UInt8) (hl : l.length ≤ 140737488355328) :
    APure Tryd.prog Γ 28 [.slice t (declsA l), .str name] fun v => v = .tuple [.int .i64 (firstOf l name), .bool (decide (0 ≤ findIdx l name))] := by
  refine APure.of_awp Tryd.func28 rfl (Nat.le_of_ble_eq_true (by kernel_rfl)) (by kernel_rfl) ?_
  intro s
  conv => whnf
  intro b hb
  conv => whnf
  repeat' (first
    | (refine ⟨Sub.refl _, ?_⟩)
    | (refine brA_split (fun h => ?_) (fun h => ?_) <;> (try rw [h]) <;> (try simp only [Bool.false_eq_true, Bool.true_eq_false, ↓reduceIte, decide_eq_true_eq, decide_eq_false_iff_not, Bool.not_eq_true', Bool.not_eq_false'] at h) <;> (conv => whnf))
    | (refine ACalls.by (indexDecls_ok _ _ hl set_bx_same) ?_; rintro _ _ ⟨rfl, rfl⟩; conv => whnf)
    | (refine getB_same ?_; conv => whnf)
    | (refine AWp.any (by kernel_rfl) (by kernel_rfl) (by kernel_rfl) ?_; conv => whnf)
    | (apply And.intro; (focus (first | omega | rfl | decide | exact Nat.le_of_ble_eq_true rfl | ((repeat' (first | exact all_nil | refine all_cons ?_ ?_ | rfl | fail)); done) | (simp [-List.length_flatMap]; done) | (simp [-List.length_flatMap]; omega) | fail)); conv => whnf)
    | fail)
  exact ⟨(Sub.refl _).set hb _ _, rfl⟩

/-- What is wrong with a declaration. -/
def oneE (l : List D) (i : Nat) : Int :=
  if isName (l.getD i noD).1 = false then 11 else if firstOf l (l.getD i noD).1 < i then 10 else if 8 < ((l.getD i noD).2.2.length : Int) then 14
  else if 0 ≤ idxBy noKind (l.getD i noD).2.2 then 8 else 0
theorem getD_decl {l : List D} {i : Nat} (h : i < l.length) : l.getD i noD ∈ l := by
  simp [List.getD, h]
/-- Of a size that a machine has. -/
def Small (l : List D) : Prop := l.length ≤ 140737488355328 ∧ ∀ d ∈ l, d.1.length ≤ 9223372036854775807 ∧ d.2.2.length ≤ 140737488355328

theorem oneP_ok (hT : Wds Γ) (t : Nat) (l : List D) (i : Nat) (hi : i < l.length) (hl : Small l) : APure Tryd.prog Γ 73 [.slice t (declsA l), .int .i64 i] fun v => v = .int .i64 (oneE l i) := by
  have hbl := declsA_len l
  obtain ⟨h1, h2⟩ := hl.2 _ (getD_decl hi)
  have h3 := hl.1
  have hg : (declsA l).getD ((i : Int)).toNat [] = [.str (l.getD i noD).1, .slice (l.getD i noD).2.1 (intsA .i64 (l.getD i noD).2.2)] := by simpa using declsA_get hi
  unfold oneE
  have h4 := intsA_len .i64 (l.getD i noD).2.2
  generalize l.getD i noD = d at *
  refine APure.of_awp Tryd.func73 rfl (Nat.le_of_ble_eq_true (by kernel_rfl)) (by kernel_rfl) ?_
  intro s
  conv => whnf
  repeat' (first
    | (refine ⟨Sub.refl _, ?_⟩)
    | (refine brA_split (fun h => ?_) (fun h => ?_) <;> (try rw [h]) <;> (try simp only [Bool.false_eq_true, Bool.true_eq_false, ↓reduceIte, decide_eq_true_eq, decide_eq_false_iff_not, Bool.not_eq_true', Bool.not_eq_false'] at h) <;> (conv => whnf))
    | (rw [hg]; conv => whnf)
    | (refine getB_same ?_; conv => whnf)
    | (refine AWp.any (by kernel_rfl) (by kernel_rfl) (by kernel_rfl) ?_; conv => whnf)
    | (apply And.intro; (focus (first | omega | rfl | decide | exact Nat.le_of_ble_eq_true rfl | ((repeat' (first | exact all_nil | refine all_cons ?_ ?_ | rfl | fail)); done) | (simp [-List.length_flatMap]; done) | (simp [-List.length_flatMap]; omega) | fail)); conv => whnf)
    | fail)
  intro b hb
  conv => whnf
  repeat' (first
    | (refine ⟨Sub.refl _, ?_⟩)
    | (refine brA_split (fun h => ?_) (fun h => ?_) <;> (try rw [h]) <;> (try simp only [Bool.false_eq_true, Bool.true_eq_false, ↓reduceIte, decide_eq_true_eq, decide_eq_false_iff_not, Bool.not_eq_true', Bool.not_eq_false'] at h) <;> (conv => whnf))
    | (refine ACalls.pure' ?_ (find_ok _ _ _ h3); rintro _ rfl; conv => whnf)
    | (refine DCall.pure ?_ (find_ok _ _ _ h3); conv => whnf)
    | (refine ACalls.pure' ?_ (progName_ok hT _ h1); rintro _ rfl; conv => whnf)
    | (refine DCall.pure ?_ (progName_ok hT _ h1); conv => whnf)
    | (refine ACalls.pure' ?_ (containsInts_ok _ _ h2); rintro _ rfl; conv => whnf)
    | (refine DCall.pure ?_ (containsInts_ok _ _ h2); conv => whnf)
    | (refine getB_same ?_; conv => whnf)
    | (refine AWp.any (by kernel_rfl) (by kernel_rfl) (by kernel_rfl) ?_; conv => whnf)
    | (apply And.intro; (focus (first | omega | rfl | decide | exact Nat.le_of_ble_eq_true rfl | ((repeat' (first | exact all_nil | refine all_cons ?_ ?_ | rfl | fail)); done) | (simp [-List.length_flatMap]; done) | (simp [-List.length_flatMap]; omega) | fail)); conv => whnf)
    | fail)
  all_goals refine ⟨((Sub.refl _).set hb _ _).set hb _ _, ?_⟩
  all_goals grind [tupA]

def chkFrom (l : List D) : Nat → Nat → Int × Int
  | 0, _ => (-1, 0)
  | f + 1, i => if oneE l i ≠ 0 then ((i : Int), oneE l i) else chkFrom l f (i + 1)
/-- What is wrong with declarations, and where. -/
def chkD (l : List D) : Int × Int := if 32 < (l.length : Int) then (32, 14) else chkFrom l l.length 0
theorem progCheck_ok (hT : Wds Γ) (t : Nat) (l : List D) (hl : Small l) : APure Tryd.prog Γ 24 [.slice t (declsA l)] fun v => v = .tuple [.int .i64 (chkD l).1, .int .i64 (chkD l).2] := by
  have hbl := declsA_len l
  have h3 := hl.1
  refine APure.of_awp Tryd.func24 rfl (Nat.le_of_ble_eq_true (by kernel_rfl)) (by kernel_rfl) ?_
  intro s
  conv => whnf
  repeat' (first
    | (refine ⟨Sub.refl _, ?_⟩)
    | (refine brA_split (fun h => ?_) (fun h => ?_) <;> (try rw [h]) <;> (try simp only [Bool.false_eq_true, Bool.true_eq_false, ↓reduceIte, decide_eq_true_eq, decide_eq_false_iff_not, Bool.not_eq_true', Bool.not_eq_false'] at h) <;> (conv => whnf))
    | (refine getB_same ?_; conv => whnf)
    | (refine AWp.any (by kernel_rfl) (by kernel_rfl) (by kernel_rfl) ?_; conv => whnf)
    | (apply And.intro; (focus (first | omega | rfl | decide | exact Nat.le_of_ble_eq_true rfl | ((repeat' (first | exact all_nil | refine all_cons ?_ ?_ | rfl | fail)); done) | (simp [-List.length_flatMap]; done) | (simp [-List.length_flatMap]; omega) | fail)); conv => whnf)
    | fail)
  · have : chkD l = (32, 14) := if_pos (by omega)
    rw [this]; rfl
  have hc : chkD l = chkFrom l l.length 0 := if_neg (by omega)
  rw [hc]
  refine AWp.loopA [11] [12, 13, 4, 14, 15, 16, 5, 17, 18, 19, 20, 2, 3, 21] (fun i : Nat => [.int .i64 i]) (fun i s' => i ≤ l.length ∧ s' = s ∧ chkFrom l l.length 0 = chkFrom l (l.length - i) i) (fun i => l.length - i) (0) (by kernel_rfl) (by (repeat' (first | refine cons_eq ?_ ?_ | refine int64_of ?_ ?_ ?_ | rfl | omega))) ?_ ?_
  · exact ⟨by omega, rfl, by simp⟩
  · rintro y i _ ⟨hi, rfl, hp⟩
    conv => whnf
    repeat' (first
      | (refine ⟨Sub.refl _, ?_⟩)
      | (refine brA_split (fun h => ?_) (fun h => ?_) <;> (try rw [h]) <;> (try simp only [Bool.false_eq_true, Bool.true_eq_false, ↓reduceIte, decide_eq_true_eq, decide_eq_false_iff_not, Bool.not_eq_true', Bool.not_eq_false'] at h) <;> (conv => whnf))
      | (refine ACalls.pure' ?_ (oneP_ok hT _ _ _ (by omega) hl); rintro _ rfl; conv => whnf)
      | (refine getB_same ?_; conv => whnf)
      | (refine AWp.any (by kernel_rfl) (by kernel_rfl) (by kernel_rfl) ?_; conv => whnf)
      | (apply And.intro; (focus (first | omega | rfl | decide | exact Nat.le_of_ble_eq_true rfl | ((repeat' (first | exact all_nil | refine all_cons ?_ ?_ | rfl | fail)); done) | (simp [-List.length_flatMap]; done) | (simp [-List.length_flatMap]; omega) | fail)); conv => whnf)
      | fail)
    · rw [hp]
      obtain ⟨f, hf⟩ : ∃ f, l.length - i = f + 1 := ⟨l.length - i - 1, by omega⟩
      rw [hf, chkFrom, if_pos h]
      rfl
    · refine ⟨i + 1, by (repeat' (first | refine cons_eq ?_ ?_ | refine int64_of ?_ ?_ ?_ | rfl | omega)), by (repeat (first | exact Same.refl _ _ | refine Same.upd rfl ?_ | refine Same.updL rfl ?_ | refine Same.havoc rfl ?_)), ⟨by omega, rfl, ?_⟩, by omega⟩
      rw [hp]
      obtain ⟨f, hf⟩ : ∃ f, l.length - i = f + 1 := ⟨l.length - i - 1, by omega⟩
      rw [hf, chkFrom, if_neg (by simpa using h), show l.length - (i + 1) = f by omega]
    · rw [hp, show l.length - i = 0 by omega, chkFrom]
      rfl

def txtD (nm : List UInt8) (ks : List Int) : List UInt8 := nm ++ [40] ++ Lib.join (ks.map kname) [44, 32] ++ [41]
theorem kname_len (k : Int) : (kname k).length ≤ 6 := by
  unfold kname
  split
  · decide
  · split
    · decide
    · split <;> decide
theorem join_two (sep x y : List UInt8) (r : List (List UInt8)) : Lib.join (x :: y :: r) sep = x ++ sep ++ Lib.join (y :: r) sep := by
  simp [Lib.join, List.intercalate, List.intersperse]
theorem join_len (sep : List UInt8) : ∀ l : List Int, (Lib.join (l.map kname) sep).length ≤ (6 + sep.length) * l.length
  | [] => by simp [Lib.join, List.intercalate]
  | [x] => by
    have := kname_len x
    simp [Lib.join, List.intercalate]; omega
  | x :: y :: l => by
    have := kname_len x
    have ih := join_len sep (y :: l)
    simp only [List.map_cons] at ih ⊢
    rw [join_two]
    simp only [List.length_append, List.length_cons] at ih ⊢
    rw [Nat.mul_succ]
    omega
theorem progText_ok (nm : List UInt8) (tk : Nat) (ks : List Int) (h1 : nm.length ≤ 1048576) (h2 : ks.length ≤ 1048576) :
    APure Tryd.prog Γ 26 [.agg [.str nm, .slice tk (intsA .i64 ks)]] fun v => v = .str (txtD nm ks) := by
  have hbl := intsA_len .i64 ks
  refine APure.of_awp Tryd.func26 rfl (Nat.le_of_ble_eq_true (by kernel_rfl)) (by kernel_rfl) ?_
  intro s
  conv => whnf
  intro b hb
  conv => whnf
  repeat' (first
    | (refine ⟨Sub.refl _, ?_⟩)
    | (refine brA_split (fun h => ?_) (fun h => ?_) <;> (try rw [h]) <;> (try simp only [Bool.false_eq_true, Bool.true_eq_false, ↓reduceIte, decide_eq_true_eq, decide_eq_false_iff_not, Bool.not_eq_true', Bool.not_eq_false'] at h) <;> (conv => whnf))
    | (refine getB_same ?_; conv => whnf)
    | (refine AWp.any (by kernel_rfl) (by kernel_rfl) (by kernel_rfl) ?_; conv => whnf)
    | (apply And.intro; (focus (first | omega | rfl | decide | exact Nat.le_of_ble_eq_true rfl | ((repeat' (first | exact all_nil | refine all_cons ?_ ?_ | rfl | fail)); done) | (simp [-List.length_flatMap]; done) | (simp [-List.length_flatMap]; omega) | fail)); conv => whnf)
    | fail)
  refine AWp.loopA [3, 9] [10, 11, 12, 5, 13, 14, 15, 16, 17, 18] (fun x : Nat × Nat => [.slice x.2 (strsA ((ks.take x.1).map kname)), .int .i64 x.1]) (fun x s' => x.1 ≤ ks.length ∧ Own (s.set b 48 [.str nm, .slice tk (intsA .i64 ks)]) s' (x.1 == 0) x.2 9 1) (fun x => ks.length - x.1) ((0, 1)) (by kernel_rfl) (by (repeat' (first | refine cons_eq ?_ ?_ | refine int64_of ?_ ?_ ?_ | rfl | omega))) ?_ ?_
  · exact ⟨by simp, Own.nil _ _ _⟩
  · rintro y ⟨i, t⟩ s' ⟨hi, ho⟩
    simp only at hi ho
    conv => whnf
    repeat' (first
      | (refine ⟨Sub.refl _, ?_⟩)
      | (refine brA_split (fun h => ?_) (fun h => ?_) <;> (try rw [h]) <;> (try simp only [Bool.false_eq_true, Bool.true_eq_false, ↓reduceIte, decide_eq_true_eq, decide_eq_false_iff_not, Bool.not_eq_true', Bool.not_eq_false'] at h) <;> (conv => whnf))
      | (rw [intsA_get (i := (i : Int).toNat) (by omega)]; conv => whnf)
      | (refine ACalls.pure' ?_ (kname_ok _); rintro _ rfl; conv => whnf)
      | (refine DCall.pure ?_ (kname_ok _); conv => whnf)
      | (refine getB_same ?_; conv => whnf)
      | (refine AWp.any (by kernel_rfl) (by kernel_rfl) (by kernel_rfl) ?_; conv => whnf)
      | (apply And.intro; (focus (first | omega | rfl | decide | exact Nat.le_of_ble_eq_true rfl | ((repeat' (first | exact all_nil | refine all_cons ?_ ?_ | rfl | fail)); done) | (simp [-List.length_flatMap]; done) | (simp [-List.length_flatMap]; omega) | fail)); conv => whnf)
      | fail)
    · simp only [Int.toNat_natCast]
      have hn : ((ks.take i).map kname).length = i := by simp; omega
      have hsl := strsA_len ((ks.take i).map kname)
      refine ⟨ho.may, fun c hc => by obtain ⟨x, _, rfl⟩ := List.mem_map.1 hc; rfl, all_cons ⟨rfl, rfl⟩ all_nil, ?_, ?_⟩
      · show ((strsA ((ks.take i).map kname)).length + 1) * (16 + 1) ≤ _
        rw [hsl, hn]; omega
      intro t' k1 k2
      have k3 := ho.grow k1 k2
      conv => whnf
      refine ⟨(i + 1, t'), ?_, by (repeat (first | exact Same.refl _ _ | refine Same.upd rfl ?_ | refine Same.updL rfl ?_ | refine Same.havoc rfl ?_)), ⟨by simp only; omega, ?_⟩, by simp only; omega⟩
      · refine cons_eq ?_ (cons_eq (show AV.int .i64 (IntKind.i64.wrap ((i : Int) + 1)) = .int .i64 ((i + 1 : Nat) : Int) from int64_of (by omega) (by omega) (by omega)) rfl)
        show AV.slice t' _ = AV.slice t' _
        congr 1
        rw [show ks.take (i + 1) = ks.take i ++ [ks.getD i 0] by rw [List.take_add_one]; simp [List.getD, show i < ks.length by omega]]
        simp [strsA]
      · have e : ((i + 1, t').1 == 0) = ((i == 0) && [[AV.str (kname (ks.getD i 0))]].isEmpty) := by simp
        rw [e]
        exact k3
    · have ht : ks.take i = ks := List.take_of_length_le (by omega)
      rw [ht] at *
      have hj : (Lib.join (ks.map kname) [44, 32]).length ≤ 16777216 := by
        have := join_len [44, 32] ks
        simp only [List.length_cons, List.length_nil] at this
        omega
      refine getB_of (ho.sub.bx _ _ set_bx_same) ?_
      conv => whnf
      repeat' (first
        | (refine ⟨Sub.refl _, ?_⟩)
        | (refine brA_split (fun h => ?_) (fun h => ?_) <;> (try rw [h]) <;> (try simp only [Bool.false_eq_true, Bool.true_eq_false, ↓reduceIte, decide_eq_true_eq, decide_eq_false_iff_not, Bool.not_eq_true', Bool.not_eq_false'] at h) <;> (conv => whnf))
        | (refine ACalls.pure' ?_ (join_ok _ _ _ (by simp; omega) (by simp only [Int.toNat_natCast] at *; omega)); rintro _ rfl; conv => whnf)
        | (refine DCall.pure ?_ (join_ok _ _ _ (by simp; omega) (by simp only [Int.toNat_natCast] at *; omega)); conv => whnf)
        | (refine getB_same ?_; conv => whnf)
        | (refine AWp.any (by kernel_rfl) (by kernel_rfl) (by kernel_rfl) ?_; conv => whnf)
        | (apply And.intro; (focus (first | omega | rfl | decide | exact Nat.le_of_ble_eq_true rfl | ((repeat' (first | exact all_nil | refine all_cons ?_ ?_ | rfl | fail)); done) | (simp [-List.length_flatMap]; done) | (simp [-List.length_flatMap]; omega) | fail)); conv => whnf)
        | fail)
      exact ⟨((Sub.refl _).set hb _ _).trans ho.sub, rfl⟩
end Go.Proofs.YtcngoammgmcbfaaDoor.Sc
