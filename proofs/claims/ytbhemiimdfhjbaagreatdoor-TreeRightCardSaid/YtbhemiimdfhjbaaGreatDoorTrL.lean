/- Chapter 10: of how many nodes each node's expression is, and how deep: for any list. -/
import Derived.Test.YtbhemiimdfhjbaaGreatDoorTrK
namespace Go.Proofs.YtbhemiimdfhjbaaGreatDoor.Tr
open Go Go.Ab Go.RowKit
variable {Γ : Nat → AV}
attribute [local irreducible] APure Sto.set Sto.grow
set_option maxRecDepth 10000
set_option maxHeartbeats 1000000

/-- What is told of a node, of what was told of those ahead: of how many nodes, and how deep. -/
def nodeOf (nm : List UInt8 → Bool) (x : Ex) (i : Nat) (r : List (Int × Int)) : Int × Int :=
  if loneB nm x = true then (1, 1)
  else if x.1 < 4 ∨ 16 < x.1 ∨ x.2.2.2.1 ≠ [] ∨ x.2.2.2.2.1 ≠ noVl ∨ i = 0 ∨ (r.getD (i - 1) (0, 0)).1 = 0 then (0, 0)
  else if x.1 ≤ 5 then (if x.2.1 = (i : Int) - 1 ∧ x.2.2.1 = 0 then ((r.getD (i - 1) (0, 0)).1 + 1, (r.getD (i - 1) (0, 0)).2 + 1) else (0, 0))
  else if x.2.2.1 = (i : Int) - 1 ∧ x.2.1 = (i : Int) - 1 - (r.getD (i - 1) (0, 0)).1 ∧ 0 ≤ (i : Int) - 1 - (r.getD (i - 1) (0, 0)).1 ∧ 0 < (r.getD ((i : Int) - 1 - (r.getD (i - 1) (0, 0)).1).toNat (0, 0)).1 then
    ((r.getD ((i : Int) - 1 - (r.getD (i - 1) (0, 0)).1).toNat (0, 0)).1 + (r.getD (i - 1) (0, 0)).1 + 1, max (r.getD ((i : Int) - 1 - (r.getD (i - 1) (0, 0)).1).toNat (0, 0)).2 (r.getD (i - 1) (0, 0)).2 + 1)
  else (0, 0)
def tab (nm : List UInt8 → Bool) (l : List Ex) : Nat → List (Int × Int)
  | 0 => []
  | i + 1 => tab nm l i ++ [nodeOf nm (l.getD i noEx) i (tab nm l i)]
theorem tab_len (nm : List UInt8 → Bool) (l : List Ex) : ∀ i, (tab nm l i).length = i
  | 0 => rfl
  | i + 1 => by rw [tab, List.length_append, tab_len nm l i]; rfl
theorem getD_left {α : Type} {r : List α} {d p : α} {j : Nat} (h : j < r.length) : (r ++ [p]).getD j d = r.getD j d := by
  simp [List.getD, List.getElem?_append_left h]
theorem getD_last {α : Type} {r : List α} {d p : α} : (r ++ [p]).getD r.length d = p := by
  simp [List.getD]
theorem nodeOf_bound {nm : List UInt8 → Bool} {x : Ex} {i : Nat} {r : List (Int × Int)} (h : ∀ j : Nat, j < i → 0 ≤ (r.getD j (0, 0)).1 ∧ (r.getD j (0, 0)).1 ≤ j + 1 ∧ 0 ≤ (r.getD j (0, 0)).2 ∧ (r.getD j (0, 0)).2 ≤ j + 1) :
    0 ≤ (nodeOf nm x i r).1 ∧ (nodeOf nm x i r).1 ≤ i + 1 ∧ 0 ≤ (nodeOf nm x i r).2 ∧ (nodeOf nm x i r).2 ≤ i + 1 := by
  unfold nodeOf
  split
  · simp only []; omega
  split
  · simp only []; omega
  rename_i h1 h2
  have hp := h (i - 1) (by omega)
  generalize r.getD (i - 1) (0, 0) = p at *
  split
  · split
    · simp only []; omega
    · simp only []; omega
  · split
    · rename_i h4
      have hq := h ((i : Int) - 1 - p.1).toNat (by omega)
      generalize r.getD ((i : Int) - 1 - p.1).toNat (0, 0) = q at *
      simp only []
      omega
    · simp only []; omega
theorem tab_bound (nm : List UInt8 → Bool) (l : List Ex) : ∀ i j : Nat, j < i → 0 ≤ ((tab nm l i).getD j (0, 0)).1 ∧ ((tab nm l i).getD j (0, 0)).1 ≤ j + 1 ∧ 0 ≤ ((tab nm l i).getD j (0, 0)).2 ∧ ((tab nm l i).getD j (0, 0)).2 ≤ j + 1
  | 0, j, h => by omega
  | i + 1, j, h => by
    have hl := tab_len nm l i
    rw [tab]
    by_cases hj : j < i
    · rw [getD_left (by omega)]
      exact tab_bound nm l i j hj
    · rw [show j = (tab nm l i).length by omega, getD_last, hl]
      exact nodeOf_bound (tab_bound nm l i)

/-- A column of the table, and zeros behind it. -/
def col (f : Int × Int → Int) (r : List (Int × Int)) (n : Nat) : List AV := r.map (fun p => .int .i64 (f p)) ++ List.replicate (n - r.length) (.int .i64 0)
theorem col_len {f : Int × Int → Int} {r : List (Int × Int)} {n : Nat} (h : r.length ≤ n) : (col f r n).length = n := by simp [col]; omega
theorem col_get {f : Int × Int → Int} (hf : f (0, 0) = 0) {r : List (Int × Int)} {n j m : Nat} (h : j < n) (hr : r.length ≤ n) (hm : m = j) : (col f r n).drop m = .int .i64 (f (r.getD j (0, 0))) :: (col f r n).drop (j + 1) := by
  subst hm
  rw [List.drop_eq_getElem_cons (by rw [col_len hr]; exact h)]
  refine cons_eq ?_ rfl
  simp only [col]
  by_cases hj : m < r.length
  · rw [List.getElem_append_left (by simpa using hj)]
    simp [List.getD, hj]
  · rw [List.getElem_append_right (by simp; omega)]
    simp [List.getD, List.getElem?_eq_none (Nat.le_of_not_lt hj), hf]
theorem col_put {f : Int × Int → Int} {r : List (Int × Int)} {n i m k : Nat} {p : Int × Int} {v : Int} (h : r.length = i) (hi : i < n) (hm : m = i) (hk : k = i + 1) (hv : v = f p) :
    (col f r n).take m ++ [.int .i64 v] ++ (col f r n).drop k = col f (r ++ [p]) n := by
  subst hm hk hv h
  unfold col
  rw [List.take_append_of_le_length (by simp), List.take_of_length_le (by simp), List.drop_append, List.drop_of_length_le (by simp)]
  simp only [List.length_map, List.map_append, List.map_cons, List.map_nil, List.nil_append, List.length_append, List.length_cons, List.length_nil, List.drop_replicate]
  rw [show n - r.length - (r.length + 1 - r.length) = n - (r.length + (0 + 1)) by omega]
theorem col_zero {f : Int × Int → Int} {r : List (Int × Int)} {n : Nat} {p : Int × Int} (h : r.length < n) (hp : f p = 0) : col f r n = col f (r ++ [p]) n := by
  unfold col
  simp only [List.map_append, List.map_cons, List.map_nil, List.length_append, List.length_cons, List.length_nil, hp, List.append_assoc, List.singleton_append]
  rw [show n - r.length = (n - (r.length + (0 + 1))) + 1 by omega, List.replicate_succ]
theorem aload_eq {P : Program} {T : TypeId} {cs cs' : List AV} {K : AV → Prop} (h : cs = cs') (hk : aload P T cs' K) : aload P T cs K := h ▸ hk
theorem flat_zero (n : Nat) (z : AV) : (List.replicate n [z]).flatten = List.replicate n z := by
  induction n with
  | zero => rfl
  | succ n ih => rw [List.replicate_succ, List.flatten_cons, ih, List.replicate_succ]; rfl
structure Szc (s s' : Sto) (b1 b2 : Nat) (c1 c2 : List AV) : Prop where
  ne : b1 ≠ b2
  size : s'.bx b1 = some (3, c1)
  depth : s'.bx b2 = some (3, c2)
  sub : Sub s s'
  none1 : s.bx b1 = none
  none2 : s.bx b2 = none
theorem frcL_at {cs cs' : List AV} {K : List AV → Prop} (h : cs = cs') (hk : K cs') : frcL cs K := by rw [frcL_eq, h]; exact hk
theorem sized_ok (nm : List UInt8 → Bool) (t : Nat) (l : List Ex) (hl : l.length ≤ 1000000) (hn : ∀ x ∈ l, APure Tryz.prog Γ 74 [.str x.2.2.2.1] fun v => v = .bool (nm x.2.2.2.1)) (s : Sto) :
    ACalls Tryz.prog Γ 64 [.slice t (l.map exA)] s fun v s' => ∃ b1 b2, v = .tuple [.raw (some ⟨b1, 0, none⟩) l.length l.length, .raw (some ⟨b2, 0, none⟩) l.length l.length] ∧ Szc s s' b1 b2 (col Prod.fst (tab nm l l.length) l.length) (col Prod.snd (tab nm l l.length) l.length) := by
  have hml : (l.map exA).length = l.length := List.length_map ..
  have hroom : ((8 : Nat) : Int) * ((l.map exA).length : Int) ≤ 281474976710656 := by omega
  refine ACalls.of_awp Tryz.func64 rfl (Nat.le_of_ble_eq_true (by kernel_rfl)) (awp_ok _ (by kernel_rfl) ?_)
  conv => whnf
  repeat' (first
    | (refine ⟨Sub.refl _, ?_⟩)
    | (refine brA_split (fun h => ?_) (fun h => ?_) <;> (try rw [h]) <;> (try simp only [Bool.false_eq_true, Bool.true_eq_false, ↓reduceIte, decide_eq_true_eq, decide_eq_false_iff_not, Bool.not_eq_true', Bool.not_eq_false'] at h) <;> (conv => whnf))
    | (refine ⟨hroom, ?_⟩; conv => whnf)
    | (refine getB_same ?_; conv => whnf)
    | (refine AWp.any (by kernel_rfl) (by kernel_rfl) (by kernel_rfl) ?_; conv => whnf)
    | (apply And.intro; (focus (first | omega | rfl | decide | exact Nat.le_of_ble_eq_true rfl | ((repeat' (first | exact all_nil | refine all_cons ?_ ?_ | rfl | fail)); done) | (simp [-List.length_flatMap]; done) | (simp [-List.length_flatMap]; omega) | fail)); conv => whnf)
    | fail)
  intro b1 hb1
  conv => whnf
  repeat' (first
    | (refine ⟨Sub.refl _, ?_⟩)
    | (refine brA_split (fun h => ?_) (fun h => ?_) <;> (try rw [h]) <;> (try simp only [Bool.false_eq_true, Bool.true_eq_false, ↓reduceIte, decide_eq_true_eq, decide_eq_false_iff_not, Bool.not_eq_true', Bool.not_eq_false'] at h) <;> (conv => whnf))
    | (refine ⟨hroom, ?_⟩; conv => whnf)
    | (refine getB_same ?_; conv => whnf)
    | (refine AWp.any (by kernel_rfl) (by kernel_rfl) (by kernel_rfl) ?_; conv => whnf)
    | (apply And.intro; (focus (first | omega | rfl | decide | exact Nat.le_of_ble_eq_true rfl | ((repeat' (first | exact all_nil | refine all_cons ?_ ?_ | rfl | fail)); done) | (simp [-List.length_flatMap]; done) | (simp [-List.length_flatMap]; omega) | fail)); conv => whnf)
    | fail)
  intro b2 hb2
  conv => whnf
  repeat' (first
    | (refine ⟨Sub.refl _, ?_⟩)
    | (refine brA_split (fun h => ?_) (fun h => ?_) <;> (try rw [h]) <;> (try simp only [Bool.false_eq_true, Bool.true_eq_false, ↓reduceIte, decide_eq_true_eq, decide_eq_false_iff_not, Bool.not_eq_true', Bool.not_eq_false'] at h) <;> (conv => whnf))
    | (refine getB_same ?_; conv => whnf)
    | (refine AWp.any (by kernel_rfl) (by kernel_rfl) (by kernel_rfl) ?_; conv => whnf)
    | (apply And.intro; (focus (first | omega | rfl | decide | exact Nat.le_of_ble_eq_true rfl | ((repeat' (first | exact all_nil | refine all_cons ?_ ?_ | rfl | fail)); done) | (simp [-List.length_flatMap]; done) | (simp [-List.length_flatMap]; omega) | fail)); conv => whnf)
    | fail)
  refine AWp.loopA [15] [16, 17, 18, 19, 5, 4, 20, 21, 22, 23, 24, 25, 26, 27, 28, 29, 30, 31, 32, 33, 34, 35, 36, 37, 38, 39, 40, 41, 42, 43, 44, 45, 46, 47, 48, 49, 50, 51, 52, 53, 54, 55, 56, 57, 58, 59, 60, 61, 62, 63, 64, 65, 66, 67, 68, 69, 70, 71, 72, 73, 74, 75, 76, 77, 78, 79, 80, 81, 82, 83, 84, 85, 86, 87, 88, 89, 90, 91, 92, 93, 94, 95, 96, 97, 6, 98, 99, 100, 101, 102, 103, 104, 105, 106, 107, 108, 109, 110, 111, 112, 113, 114, 115, 116, 117, 118, 119, 120, 121, 122, 123, 124, 125, 126, 127, 128, 129, 130, 131, 132, 133, 134, 135, 136, 137, 138, 139, 140, 141, 142, 143, 144, 145, 146, 147, 148] (fun i : Nat => [.int .i64 i]) (fun i s' => i ≤ l.length ∧ Szc s s' b1 b2 (col Prod.fst (tab nm l i) l.length) (col Prod.snd (tab nm l i) l.length)) (fun i => l.length - i) (0) (by kernel_rfl) (by (repeat' (first | refine cons_eq ?_ ?_ | refine int64_of ?_ ?_ ?_ | rfl | omega))) ?_ ?_
  · refine ⟨by omega, ?_⟩
    obtain ⟨h1, h2⟩ := none_set hb2
    have hz : ∀ f : Int × Int → Int, (List.replicate ((l.map exA).length : Int).toNat [AV.int .i64 0]).flatten = col f (tab nm l 0) l.length := fun f => by
      rw [flat_zero, Int.toNat_natCast, hml]; rfl
    exact ⟨fun h => h1 h.symm, ((set_bx_other (fun h => h1 h.symm)).trans set_bx_same).trans (by rw [hz]), set_bx_same.trans (by rw [hz]), ((Sub.refl _).set hb1 _ _).set h2 _ _, hb1, h2⟩
  · rintro q i s1 ⟨hi, hz⟩
    conv => whnf
    have hga := fun h : i < l.length => map_get (f := exA) (l := l) noEx h
    have htab : tab nm l (i + 1) = tab nm l i ++ [nodeOf nm (l.getD i noEx) i (tab nm l i)] := rfl
    have htl := tab_len nm l i
    have hbd := tab_bound nm l i
    have hnx := fun h : i < l.length => hn (l.getD i noEx) (getD_mem noEx h)
    by_cases hlt : i < l.length
    · have hga := hga hlt
      have hnx := hnx hlt
      generalize l.getD i noEx = x at *
      generalize tab nm l i = r at *
      repeat' (first
        | (exfalso; omega)
        | (refine ⟨Sub.refl _, ?_⟩)
        | (refine brA_split (fun h => ?_) (fun h => ?_) <;> (try rw [h]) <;> (try simp only [Bool.false_eq_true, Bool.true_eq_false, ↓reduceIte, decide_eq_true_eq, decide_eq_false_iff_not, Bool.not_eq_true', Bool.not_eq_false'] at h) <;> (conv => whnf))
        | (rw [show (l.map exA).getD ((i : Int)).toNat [] = _ from hga]; conv => whnf)
        | (refine getB_same ?_; conv => whnf)
        | (refine AWp.any (by kernel_rfl) (by kernel_rfl) (by kernel_rfl) ?_; conv => whnf)
        | (apply And.intro; (focus (first | omega | rfl | decide | exact Nat.le_of_ble_eq_true rfl | ((repeat' (first | exact all_nil | refine all_cons ?_ ?_ | rfl | fail)); done) | (simp [-List.length_flatMap]; done) | (simp [-List.length_flatMap]; omega) | fail)); conv => whnf)
        | fail)
      intro c hc
      conv => whnf
      refine getB_of set_bx_same ?_
      have n1 := ne_of_none hz.size hc
      have n2 := ne_of_none hz.depth hc
      have h5 := hz.sub.none hc
      have g1 := fun (T : TypeId) (x y : List AV) => (set_bx_other (s := s1.set c T x) (T := T) (cs := y) n1).trans ((set_bx_other n1).trans hz.size)
      have g2 := fun (T : TypeId) (x y : List AV) => (set_bx_other (s := s1.set c T x) (T := T) (cs := y) n2).trans ((set_bx_other n2).trans hz.depth)
      have st := fun (f : Int × Int → Int) (P : Int × Int) (v : Int) (m k : Nat) (hv : v = f P) (hm : m = i) (hk : k = i + 1) => col_put (f := f) (r := r) (n := l.length) (p := P) (v := v) htl hlt hm hk hv
      have ln := fun f : Int × Int → Int => col_len (f := f) (r := r) (n := l.length) (by omega)
      have zero : nodeOf nm x i r = (0, 0) → ∀ (T : TypeId) (y z : List AV), Szc s ((s1.set c T y).set c T z) b1 b2 (col Prod.fst (tab nm l (i + 1)) l.length) (col Prod.snd (tab nm l (i + 1)) l.length) := fun h0 T y z => by
        rw [htab, h0]
        exact ⟨hz.ne, (g1 _ _ _).trans (by rw [col_zero (p := (0, 0)) (by omega) rfl]), (g2 _ _ _).trans (by rw [col_zero (p := (0, 0)) (by omega) rfl]), (hz.sub.set h5 _ _).set h5 _ _, hz.none1, hz.none2⟩
      have put : ∀ P, nodeOf nm x i r = P → ∀ (T T' : TypeId) (y z : List AV), T' = 3 → Szc s ((((s1.set c T y).set c T z).set b1 T' (col Prod.fst (r ++ [P]) l.length)).set b2 T' (col Prod.snd (r ++ [P]) l.length)) b1 b2 (col Prod.fst (tab nm l (i + 1)) l.length) (col Prod.snd (tab nm l (i + 1)) l.length) := fun P h0 T T' y z hT => by
        subst hT
        rw [htab, h0]
        exact ⟨hz.ne, (set_bx_other hz.ne).trans set_bx_same, set_bx_same, (((hz.sub.set h5 _ _).set h5 _ _).set hz.none1 _ _).set hz.none2 _ _, hz.none1, hz.none2⟩
      by_cases hlo : loneB nm x = true
      · have hl1 : APure Tryz.prog Γ 101 [.agg (exA x)] fun v => v = .bool true := hlo ▸ lone_ok nm x hnx
        repeat' (first
          | (refine ⟨Sub.refl _, ?_⟩)
          | (refine brA_split (fun h => ?_) (fun h => ?_) <;> (try rw [h]) <;> (try simp only [Bool.false_eq_true, Bool.true_eq_false, ↓reduceIte, decide_eq_true_eq, decide_eq_false_iff_not, Bool.not_eq_true', Bool.not_eq_false'] at h) <;> (conv => whnf))
          | (refine getB_of set_bx_same ?_; conv => whnf)
          | (refine ACalls.pure' ?_ (hl1); rintro _ rfl; conv => whnf)
          | (refine DCall.pure ?_ (hl1); conv => whnf)
          | (refine getB_same ?_; conv => whnf)
          | (refine AWp.any (by kernel_rfl) (by kernel_rfl) (by kernel_rfl) ?_; conv => whnf)
          | (apply And.intro; (focus (first | omega | rfl | decide | exact Nat.le_of_ble_eq_true rfl | ((repeat' (first | exact all_nil | refine all_cons ?_ ?_ | rfl | fail)); done) | (simp [-List.length_flatMap]; done) | (simp [-List.length_flatMap]; omega) | fail)); conv => whnf)
          | fail)
        refine getB_of (g1 _ _ _) ?_
        refine ⟨rfl, rfl, by show 0 + ((i : Nat) : Int).toNat * 1 + 1 ≤ _; rw [ln]; omega, frcL_at (st Prod.fst (1, 1) _ _ _ rfl (by show 0 + ((i : Nat) : Int).toNat * 1 = i; omega) (by show 0 + ((i : Nat) : Int).toNat * 1 + 1 = i + 1; omega)) ?_⟩
        conv => whnf
        repeat' (first
          | (refine ⟨Sub.refl _, ?_⟩)
          | (refine brA_split (fun h => ?_) (fun h => ?_) <;> (try rw [h]) <;> (try simp only [Bool.false_eq_true, Bool.true_eq_false, ↓reduceIte, decide_eq_true_eq, decide_eq_false_iff_not, Bool.not_eq_true', Bool.not_eq_false'] at h) <;> (conv => whnf))
          | (refine getB_same ?_; conv => whnf)
          | (refine AWp.any (by kernel_rfl) (by kernel_rfl) (by kernel_rfl) ?_; conv => whnf)
          | (apply And.intro; (focus (first | omega | rfl | decide | exact Nat.le_of_ble_eq_true rfl | ((repeat' (first | exact all_nil | refine all_cons ?_ ?_ | rfl | fail)); done) | (simp [-List.length_flatMap]; done) | (simp [-List.length_flatMap]; omega) | fail)); conv => whnf)
          | fail)
        refine getB_of ((set_bx_other (fun h => hz.ne h.symm)).trans (g2 _ _ _)) ?_
        refine ⟨rfl, rfl, by show 0 + ((i : Nat) : Int).toNat * 1 + 1 ≤ _; rw [ln]; omega, frcL_at (st Prod.snd (1, 1) _ _ _ rfl (by show 0 + ((i : Nat) : Int).toNat * 1 = i; omega) (by show 0 + ((i : Nat) : Int).toNat * 1 + 1 = i + 1; omega)) ?_⟩
        conv => whnf
        repeat' (first
          | (refine ⟨Sub.refl _, ?_⟩)
          | (refine brA_split (fun h => ?_) (fun h => ?_) <;> (try rw [h]) <;> (try simp only [Bool.false_eq_true, Bool.true_eq_false, ↓reduceIte, decide_eq_true_eq, decide_eq_false_iff_not, Bool.not_eq_true', Bool.not_eq_false'] at h) <;> (conv => whnf))
          | (refine getB_same ?_; conv => whnf)
          | (refine AWp.any (by kernel_rfl) (by kernel_rfl) (by kernel_rfl) ?_; conv => whnf)
          | (apply And.intro; (focus (first | omega | rfl | decide | exact Nat.le_of_ble_eq_true rfl | ((repeat' (first | exact all_nil | refine all_cons ?_ ?_ | rfl | fail)); done) | (simp [-List.length_flatMap]; done) | (simp [-List.length_flatMap]; omega) | fail)); conv => whnf)
          | fail)
        exact ⟨i + 1, by (repeat' (first | refine cons_eq ?_ ?_ | refine int64_of ?_ ?_ ?_ | rfl | omega)), by (repeat (first | exact Same.refl _ _ | refine Same.upd rfl ?_ | refine Same.updL rfl ?_ | refine Same.havoc rfl ?_)), ⟨by omega, put (1, 1) (by unfold nodeOf; rw [if_pos hlo]) _ _ _ _ rfl⟩, by omega⟩
      have hlo' : loneB nm x = false := by simpa using hlo
      have hl0 : APure Tryz.prog Γ 101 [.agg (exA x)] fun v => v = .bool false := hlo' ▸ lone_ok nm x hnx
      have hev := eq_vl x.2.2.2.2.1 noVl
      simp only [noVl] at hev
      by_cases hi0 : i = 0
      · repeat' (first
          | (exfalso; omega)
          | (refine ⟨Sub.refl _, ?_⟩)
          | (refine brA_split (fun h => ?_) (fun h => ?_) <;> (try rw [h]) <;> (try simp only [Bool.false_eq_true, Bool.true_eq_false, ↓reduceIte, decide_eq_true_eq, decide_eq_false_iff_not, Bool.not_eq_true', Bool.not_eq_false'] at h) <;> (conv => whnf))
          | (refine getB_of set_bx_same ?_; conv => whnf)
          | (refine ACalls.pure' ?_ (hl0); rintro _ rfl; conv => whnf)
          | (refine DCall.pure ?_ (hl0); conv => whnf)
          | (refine EqAgg.of grdVl planVl ?_; conv => whnf)
          | (refine getB_same ?_; conv => whnf)
          | (refine AWp.any (by kernel_rfl) (by kernel_rfl) (by kernel_rfl) ?_; conv => whnf)
          | (apply And.intro; (focus (first | omega | rfl | decide | exact Nat.le_of_ble_eq_true rfl | ((repeat' (first | exact all_nil | refine all_cons ?_ ?_ | rfl | fail)); done) | (simp [-List.length_flatMap]; done) | (simp [-List.length_flatMap]; omega) | fail)); conv => whnf)
          | fail)
        all_goals exact ⟨i + 1, by (repeat' (first | refine cons_eq ?_ ?_ | refine int64_of ?_ ?_ ?_ | rfl | omega)), by (repeat (first | exact Same.refl _ _ | refine Same.upd rfl ?_ | refine Same.updL rfl ?_ | refine Same.havoc rfl ?_)), ⟨by omega, zero (by unfold nodeOf; rw [if_neg hlo, if_pos (by simp [hi0])]) _ _ _⟩, by omega⟩
      obtain ⟨p, hp⟩ : ∃ p, r.getD (i - 1) (0, 0) = p := ⟨_, rfl⟩
      have hpb := hbd (i - 1) (by omega)
      rw [hp] at hpb
      obtain ⟨a, ha⟩ : ∃ a : Int, a = (i : Int) - 1 - p.1 := ⟨_, rfl⟩
      obtain ⟨q, hq⟩ : ∃ q, r.getD a.toNat (0, 0) = q := ⟨_, rfl⟩
      have hqb := fun h : 0 ≤ a => hbd a.toNat (by omega)
      rw [hq] at hqb
      have hnode : nodeOf nm x i r = if loneB nm x = true then (1, 1) else if x.1 < 4 ∨ 16 < x.1 ∨ x.2.2.2.1 ≠ [] ∨ x.2.2.2.2.1 ≠ noVl ∨ i = 0 ∨ p.1 = 0 then (0, 0) else if x.1 ≤ 5 then (if x.2.1 = (i : Int) - 1 ∧ x.2.2.1 = 0 then (p.1 + 1, p.2 + 1) else (0, 0)) else if x.2.2.1 = (i : Int) - 1 ∧ x.2.1 = a ∧ 0 ≤ a ∧ 0 < q.1 then (q.1 + p.1 + 1, max q.2 p.2 + 1) else (0, 0) := by
        unfold nodeOf; rw [hp, ← ha, hq]
      have hw1 : IntKind.i64.wrap ((i : Int) - 1) = ((i - 1 : Nat) : Int) := i64_of (by omega) (by omega) (by omega)
      have hwa : IntKind.i64.wrap (((i - 1 : Nat) : Int) - p.1) = a := i64_of (by omega) (by omega) (by omega)
      have ld1 : ∀ m, m = i - 1 → (col Prod.fst r l.length).drop m = .int .i64 p.1 :: (col Prod.fst r l.length).drop (i - 1 + 1) := fun m hm => hp ▸ col_get rfl (by omega) (by omega) hm
      have ld2 : ∀ m, m = i - 1 → (col Prod.snd r l.length).drop m = .int .i64 p.2 :: (col Prod.snd r l.length).drop (i - 1 + 1) := fun m hm => hp ▸ col_get rfl (by omega) (by omega) hm
      have la1 : 0 ≤ a → ∀ m, m = a.toNat → (col Prod.fst r l.length).drop m = .int .i64 q.1 :: (col Prod.fst r l.length).drop (a.toNat + 1) := fun h m hm => hq ▸ col_get rfl (by omega) (by omega) hm
      have la2 : 0 ≤ a → ∀ m, m = a.toNat → (col Prod.snd r l.length).drop m = .int .i64 q.2 :: (col Prod.snd r l.length).drop (a.toNat + 1) := fun h m hm => hq ▸ col_get rfl (by omega) (by omega) hm
      repeat' (first
        | (exfalso; omega)
        | (refine ⟨Sub.refl _, ?_⟩)
        | (refine brA_split (fun h => ?_) (fun h => ?_) <;> (try rw [h]) <;> (try simp only [Bool.false_eq_true, Bool.true_eq_false, ↓reduceIte, decide_eq_true_eq, decide_eq_false_iff_not, Bool.not_eq_true', Bool.not_eq_false'] at h) <;> (conv => whnf))
        | (refine getB_of set_bx_same ?_; conv => whnf)
        | (refine ACalls.pure' ?_ (hl0); rintro _ rfl; conv => whnf)
        | (refine DCall.pure ?_ (hl0); conv => whnf)
        | (refine EqAgg.of grdVl planVl ?_; conv => whnf)
        | (rw [hw1]; conv => whnf)
        | (refine getB_of (g1 _ _ _) (aload_eq (ld1 _ (by show 0 + ((i - 1 : Nat) : Int).toNat * 1 = i - 1; omega)) ?_); conv => whnf)
        | (refine getB_of (g2 _ _ _) (aload_eq (ld2 _ (by show 0 + ((i - 1 : Nat) : Int).toNat * 1 = i - 1; omega)) ?_); conv => whnf)
        | (rw [hwa]; conv => whnf)
        | (refine getB_of (g1 _ _ _) (aload_eq (la1 (by omega) _ (by show 0 + a.toNat * 1 = a.toNat; omega)) ?_); conv => whnf)
        | (refine getB_of (g2 _ _ _) (aload_eq (la2 (by omega) _ (by show 0 + a.toNat * 1 = a.toNat; omega)) ?_); conv => whnf)
        | (refine getB_same ?_; conv => whnf)
        | (refine AWp.any (by kernel_rfl) (by kernel_rfl) (by kernel_rfl) ?_; conv => whnf)
        | (apply And.intro; (focus (first | omega | rfl | decide | exact Nat.le_of_ble_eq_true rfl | ((repeat' (first | exact all_nil | refine all_cons ?_ ?_ | rfl | fail)); done) | (simp [-List.length_flatMap]; done) | (simp [-List.length_flatMap]; omega) | fail)); conv => whnf)
        | fail)
      all_goals try exact ⟨i + 1, by (repeat' (first | refine cons_eq ?_ ?_ | refine int64_of ?_ ?_ ?_ | rfl | omega)), by (repeat (first | exact Same.refl _ _ | refine Same.upd rfl ?_ | refine Same.updL rfl ?_ | refine Same.havoc rfl ?_)), ⟨by omega, zero (by rw [hnode]; clear hn hz hc g1 g2 st ln zero put ld1 ld2 la1 la2; grind [noVl]) _ _ _⟩, by omega⟩
      · refine getB_of (g1 _ _ _) ?_
        refine ⟨rfl, rfl, by show 0 + ((i : Nat) : Int).toNat * 1 + 1 ≤ _; rw [ln]; omega, frcL_at (st Prod.fst (p.1 + 1, p.2 + 1) _ _ _ (i64_of rfl (by simp only []; omega) (by simp only []; omega)) (by show 0 + ((i : Nat) : Int).toNat * 1 = i; omega) (by show 0 + ((i : Nat) : Int).toNat * 1 + 1 = i + 1; omega)) ?_⟩
        conv => whnf
        repeat' (first
          | (refine ⟨Sub.refl _, ?_⟩)
          | (refine brA_split (fun h => ?_) (fun h => ?_) <;> (try rw [h]) <;> (try simp only [Bool.false_eq_true, Bool.true_eq_false, ↓reduceIte, decide_eq_true_eq, decide_eq_false_iff_not, Bool.not_eq_true', Bool.not_eq_false'] at h) <;> (conv => whnf))
          | (refine getB_same ?_; conv => whnf)
          | (refine AWp.any (by kernel_rfl) (by kernel_rfl) (by kernel_rfl) ?_; conv => whnf)
          | (apply And.intro; (focus (first | omega | rfl | decide | exact Nat.le_of_ble_eq_true rfl | ((repeat' (first | exact all_nil | refine all_cons ?_ ?_ | rfl | fail)); done) | (simp [-List.length_flatMap]; done) | (simp [-List.length_flatMap]; omega) | fail)); conv => whnf)
          | fail)
        refine getB_of ((set_bx_other (fun h => hz.ne h.symm)).trans (g2 _ _ _)) ?_
        refine ⟨rfl, rfl, by show 0 + ((i : Nat) : Int).toNat * 1 + 1 ≤ _; rw [ln]; omega, frcL_at (st Prod.snd (p.1 + 1, p.2 + 1) _ _ _ (i64_of rfl (by simp only []; omega) (by simp only []; omega)) (by show 0 + ((i : Nat) : Int).toNat * 1 = i; omega) (by show 0 + ((i : Nat) : Int).toNat * 1 + 1 = i + 1; omega)) ?_⟩
        conv => whnf
        repeat' (first
          | (refine ⟨Sub.refl _, ?_⟩)
          | (refine brA_split (fun h => ?_) (fun h => ?_) <;> (try rw [h]) <;> (try simp only [Bool.false_eq_true, Bool.true_eq_false, ↓reduceIte, decide_eq_true_eq, decide_eq_false_iff_not, Bool.not_eq_true', Bool.not_eq_false'] at h) <;> (conv => whnf))
          | (refine getB_same ?_; conv => whnf)
          | (refine AWp.any (by kernel_rfl) (by kernel_rfl) (by kernel_rfl) ?_; conv => whnf)
          | (apply And.intro; (focus (first | omega | rfl | decide | exact Nat.le_of_ble_eq_true rfl | ((repeat' (first | exact all_nil | refine all_cons ?_ ?_ | rfl | fail)); done) | (simp [-List.length_flatMap]; done) | (simp [-List.length_flatMap]; omega) | fail)); conv => whnf)
          | fail)
        exact ⟨i + 1, by (repeat' (first | refine cons_eq ?_ ?_ | refine int64_of ?_ ?_ ?_ | rfl | omega)), by (repeat (first | exact Same.refl _ _ | refine Same.upd rfl ?_ | refine Same.updL rfl ?_ | refine Same.havoc rfl ?_)), ⟨by omega, put (p.1 + 1, p.2 + 1) (by rw [hnode]; clear hn hz hc g1 g2 st ln zero put ld1 ld2 la1 la2; grind [noVl]) _ _ _ _ rfl⟩, by omega⟩
      · refine getB_of (g1 _ _ _) ?_
        refine ⟨rfl, rfl, by show 0 + ((i : Nat) : Int).toNat * 1 + 1 ≤ _; rw [ln]; omega, frcL_at (st Prod.fst (q.1 + p.1 + 1, max q.2 p.2 + 1) _ _ _ (by rw [i64_of (b := q.1 + p.1) rfl (by omega) (by omega)]; exact i64_of rfl (by simp only []; omega) (by simp only []; omega)) (by show 0 + ((i : Nat) : Int).toNat * 1 = i; omega) (by show 0 + ((i : Nat) : Int).toNat * 1 + 1 = i + 1; omega)) ?_⟩
        conv => whnf
        repeat' (first
          | (refine ⟨Sub.refl _, ?_⟩)
          | (refine brA_split (fun h => ?_) (fun h => ?_) <;> (try rw [h]) <;> (try simp only [Bool.false_eq_true, Bool.true_eq_false, ↓reduceIte, decide_eq_true_eq, decide_eq_false_iff_not, Bool.not_eq_true', Bool.not_eq_false'] at h) <;> (conv => whnf))
          | (refine getB_same ?_; conv => whnf)
          | (refine AWp.any (by kernel_rfl) (by kernel_rfl) (by kernel_rfl) ?_; conv => whnf)
          | (apply And.intro; (focus (first | omega | rfl | decide | exact Nat.le_of_ble_eq_true rfl | ((repeat' (first | exact all_nil | refine all_cons ?_ ?_ | rfl | fail)); done) | (simp [-List.length_flatMap]; done) | (simp [-List.length_flatMap]; omega) | fail)); conv => whnf)
          | fail)
        refine getB_of ((set_bx_other (fun h => hz.ne h.symm)).trans (g2 _ _ _)) ?_
        refine ⟨rfl, rfl, by show 0 + ((i : Nat) : Int).toNat * 1 + 1 ≤ _; rw [ln]; omega, frcL_at (st Prod.snd (q.1 + p.1 + 1, max q.2 p.2 + 1) _ _ _ (i64_of (by show (if p.2 > q.2 then p.2 else q.2) + 1 = max q.2 p.2 + 1; split <;> omega) (by simp only []; omega) (by simp only []; omega)) (by show 0 + ((i : Nat) : Int).toNat * 1 = i; omega) (by show 0 + ((i : Nat) : Int).toNat * 1 + 1 = i + 1; omega)) ?_⟩
        conv => whnf
        repeat' (first
          | (refine ⟨Sub.refl _, ?_⟩)
          | (refine brA_split (fun h => ?_) (fun h => ?_) <;> (try rw [h]) <;> (try simp only [Bool.false_eq_true, Bool.true_eq_false, ↓reduceIte, decide_eq_true_eq, decide_eq_false_iff_not, Bool.not_eq_true', Bool.not_eq_false'] at h) <;> (conv => whnf))
          | (refine getB_same ?_; conv => whnf)
          | (refine AWp.any (by kernel_rfl) (by kernel_rfl) (by kernel_rfl) ?_; conv => whnf)
          | (apply And.intro; (focus (first | omega | rfl | decide | exact Nat.le_of_ble_eq_true rfl | ((repeat' (first | exact all_nil | refine all_cons ?_ ?_ | rfl | fail)); done) | (simp [-List.length_flatMap]; done) | (simp [-List.length_flatMap]; omega) | fail)); conv => whnf)
          | fail)
        exact ⟨i + 1, by (repeat' (first | refine cons_eq ?_ ?_ | refine int64_of ?_ ?_ ?_ | rfl | omega)), by (repeat (first | exact Same.refl _ _ | refine Same.upd rfl ?_ | refine Same.updL rfl ?_ | refine Same.havoc rfl ?_)), ⟨by omega, put (q.1 + p.1 + 1, max q.2 p.2 + 1) (by rw [hnode]; clear hn hz hc g1 g2 st ln zero put ld1 ld2 la1 la2; grind [noVl]) _ _ _ _ rfl⟩, by omega⟩
    · have h0 : i = l.length := by omega
      subst h0
      repeat' (first
        | (exfalso; omega)
        | (refine ⟨Sub.refl _, ?_⟩)
        | (refine brA_split (fun h => ?_) (fun h => ?_) <;> (try rw [h]) <;> (try simp only [Bool.false_eq_true, Bool.true_eq_false, ↓reduceIte, decide_eq_true_eq, decide_eq_false_iff_not, Bool.not_eq_true', Bool.not_eq_false'] at h) <;> (conv => whnf))
        | (refine getB_same ?_; conv => whnf)
        | (refine AWp.any (by kernel_rfl) (by kernel_rfl) (by kernel_rfl) ?_; conv => whnf)
        | (apply And.intro; (focus (first | omega | rfl | decide | exact Nat.le_of_ble_eq_true rfl | ((repeat' (first | exact all_nil | refine all_cons ?_ ?_ | rfl | fail)); done) | (simp [-List.length_flatMap]; done) | (simp [-List.length_flatMap]; omega) | fail)); conv => whnf)
        | fail)
      have e : ((l.map exA).length : Int).toNat = l.length := by rw [Int.toNat_natCast, hml]
      exact ⟨s1, Sub.refl _, b1, b2, by rw [e]; rfl, hz⟩
end Go.Proofs.YtbhemiimdfhjbaaGreatDoor.Tr
