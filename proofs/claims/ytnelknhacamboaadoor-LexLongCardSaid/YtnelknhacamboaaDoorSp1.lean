
/- strings.Split at a separator of one byte, said of abstract values. -/
import Derived.Test.YtnelknhacamboaaDoorFg4
import Derived.Test.YtnelknhacamboaaDoorShelf
set_option linter.all false
namespace Go.Proofs.YtnelknhacamboaaDoor.Sp
open Go Go.Ab Go.RowKit
variable {Γ : Nat → AV}
set_option maxRecDepth 10000
set_option maxHeartbeats 1000000

theorem count_ok (l : List UInt8) (c : UInt8) : APure Tryd.prog Γ 16 [.str l, .str [c]] fun v => v = .int .i64 (l.count c) := by
  refine fun s => ⟨fun G w vs hm hr => ?_⟩
  obtain ⟨u, us, rfl, hu, hus⟩ := RList_cons.1 hr
  obtain ⟨u1, us1, rfl, hu1, hus1⟩ := RList_cons.1 hus
  rw [RList_nil] at hus1; subst hus1
  rw [R_str] at hu; subst hu
  rw [R_str] at hu1; subst hu1
  refine Calls.mono (Tryd.strings_Count_one ⟨l.toArray⟩ c w) ?_
  rintro e w' ⟨rfl, rfl⟩
  exact ⟨_, _, s, G, rfl, ⟨rfl, rfl⟩, R_int.2 (by simp [Lib.countByte]), hm, Ext.refl _ _⟩
theorem index_ok (l : List UInt8) (c : UInt8) : APure Tryd.prog Γ 34 [.str l, .str [c]] fun v => v = .int .i64 (Lib.indexByte l c) := by
  refine fun s => ⟨fun G w vs hm hr => ?_⟩
  obtain ⟨u, us, rfl, hu, hus⟩ := RList_cons.1 hr
  obtain ⟨u1, us1, rfl, hu1, hus1⟩ := RList_cons.1 hus
  rw [RList_nil] at hus1; subst hus1
  rw [R_str] at hu; subst hu
  rw [R_str] at hu1; subst hu1
  refine Calls.mono (Tryd.strings_Index_one ⟨l.toArray⟩ c w) ?_
  rintro e w' ⟨rfl, rfl⟩
  exact ⟨_, _, s, G, rfl, ⟨rfl, rfl⟩, R_int.2 (by simp), hm, Ext.refl _ _⟩
attribute [local irreducible] APure Sto.set Sto.grow
/-- The parts of a text between a byte's places. -/
def splitL : List UInt8 → UInt8 → List (List UInt8)
  | [], _ => [[]]
  | b :: r, c => if b = c then [] :: splitL r c else match splitL r c with
    | [] => [[b]]
    | x :: xs => (b :: x) :: xs
theorem split_ne : ∀ (l : List UInt8) (c : UInt8), splitL l c ≠ []
  | [], _ => by simp [splitL]
  | b :: r, c => by
    unfold splitL
    split
    · simp
    · split <;> simp
theorem split_len : ∀ (l : List UInt8) (c : UInt8), (splitL l c).length = l.count c + 1
  | [], _ => rfl
  | b :: r, c => by
    have ih := split_len r c
    have hne := split_ne r c
    unfold splitL
    rw [List.count_cons]
    by_cases hb : b = c
    · simp [hb, ih]
    · have hbb : (b == c) = false := by simpa using hb
      rw [if_neg hb, hbb]
      rcases hs : splitL r c with _ | ⟨x, xs⟩
      · exact absurd hs hne
      · rw [hs] at ih
        simpa using ih
theorem split_none : ∀ {l : List UInt8} {c : UInt8}, Lib.indexByte l c = -1 → splitL l c = [l]
  | [], _, _ => rfl
  | b :: r, c, h => by
    have hge := Lib.indexByte_ge r c
    unfold Lib.indexByte at h
    by_cases hb : b = c
    · simp [hb] at h
    · have hbb : (b == c) = false := by simpa using hb
      rw [hbb] at h
      simp only [Bool.false_eq_true, if_false] at h
      have hr : Lib.indexByte r c = -1 := by
        split at h
        · rename_i h1; simpa using h1
        · omega
      unfold splitL
      rw [if_neg hb, split_none hr]
theorem split_some : ∀ {l : List UInt8} {c : UInt8} {n : Nat}, Lib.indexByte l c = n → splitL l c = l.take n :: splitL (l.drop (n + 1)) c
  | [], _, n, h => by unfold Lib.indexByte at h; omega
  | b :: r, c, n, h => by
    have hge := Lib.indexByte_ge r c
    unfold Lib.indexByte at h
    by_cases hb : b = c
    · simp [hb] at h
      have : n = 0 := by omega
      subst this
      simp [splitL, hb]
    · have hbb : (b == c) = false := by simpa using hb
      rw [hbb] at h
      simp only [Bool.false_eq_true, if_false] at h
      split at h
      · exact absurd h (by omega)
      · rename_i h1
        have h1 : Lib.indexByte r c ≠ -1 := by simpa using h1
        obtain ⟨m, rfl⟩ : ∃ m, n = m + 1 := ⟨n - 1, by omega⟩
        have e : Lib.indexByte r c = (m : Int) := by omega
        have hs := split_some e
        rw [splitL, if_neg hb, hs]
        simp
theorem idx_lt {l : List UInt8} {c : UInt8} {n : Nat} (h : Lib.indexByte l c = n) : n < l.length := by
  have h2 := (Lib.indexByte_some (l := l) (c := c) (o := n) h).1
  exact (List.getElem?_eq_some_iff.1 h2).1
/-- The next cell of a row that fills. -/
theorem fill_next (d : List (List UInt8)) (x : List UInt8) (k : Nat) :
    (d.map AV.str ++ List.replicate (k + 1) (AV.str [])).take d.length ++ [AV.str x] ++ (d.map AV.str ++ List.replicate (k + 1) (AV.str [])).drop (d.length + 1) = (d ++ [x]).map AV.str ++ List.replicate k (AV.str []) := by
  have h1 : (d.map AV.str ++ List.replicate (k + 1) (AV.str [])).take d.length = d.map AV.str := by
    rw [List.take_append_of_le_length (by simp)]
    rw [List.take_of_length_le (by simp)]
  have h2 : (d.map AV.str ++ List.replicate (k + 1) (AV.str [])).drop (d.length + 1) = List.replicate k (AV.str []) := by
    rw [show d.length + 1 = (d.map AV.str).length + 1 by simp, List.drop_append]
    simp
  rw [h1, h2]
  simp
theorem chunks_strs : ∀ d : List (List UInt8), chunks 1 d.length (d.map AV.str) = strsA d
  | [] => rfl
  | x :: d => by
    have := chunks_strs d
    simp only [List.length_cons, List.map_cons, chunks, strsA] at *
    simpa using this
theorem frcL_at {cs cs' : List AV} {K : List AV → Prop} (h : cs = cs') (hk : K cs') : frcL cs K := by rw [frcL_eq, h]; exact hk
theorem fgE_strs (l : List (List UInt8)) : fgE (strsA l) = strsA l := fgE_map (A := fun s => [AV.str s]) (fun _ => rfl) l
theorem repl_flat (n : Nat) : (List.replicate n [AV.str []]).flatten = List.replicate n (AV.str []) := by
  induction n with
  | zero => rfl
  | succ n ih => rw [List.replicate_succ, List.flatten_cons, ih]; rfl
theorem genSplit_ok (l : List UInt8) (c : UInt8) (hl : l.length ≤ 1048576) : APure Tryd.prog Γ 53 [.str l, .str [c], .int .i64 0, .int .i64 (-1)] fun v => v = .slice 0 (strsA (splitL l c)) := by
  refine APure.frz fun s => ?_
  have hcnt := List.count_le_length (a := c) (l := l)
  have hlen := split_len l c
  have hw : IntKind.i64.wrap ((l.count c : Int) + 1) = ((l.count c + 1 : Nat) : Int) := i64_of (by omega) (by omega) (by omega)
  have hw2 : IntKind.i64.wrap ((l.length : Int) + 1) = ((l.length + 1 : Nat) : Int) := i64_of (by omega) (by omega) (by omega)
  have hw3 : IntKind.i64.wrap (((l.count c + 1 : Nat) : Int) - 1) = (l.count c : Int) := i64_of (by omega) (by omega) (by omega)
  refine ACalls.of_awp Tryd.func53 rfl (Nat.le_of_ble_eq_true (by kernel_rfl)) (awp_ok _ (by kernel_rfl) ?_)
  conv => whnf
  repeat' (first
    | (exfalso; first | omega | exact (by assumption : ¬ True) trivial | fail)
    | (refine ⟨Sub.refl _, ?_⟩)
    | (refine brA_split (fun h => ?_) (fun h => ?_) <;> (try rw [h]) <;> (try simp only [Bool.false_eq_true, Bool.true_eq_false, ↓reduceIte, decide_eq_true_eq, decide_eq_false_iff_not, Bool.not_eq_true', Bool.not_eq_false'] at h) <;> (conv => whnf))
    | (refine ACalls.pure' ?_ (count_ok l c); rintro _ rfl; conv => whnf)
    | (refine DCall.pure ?_ (count_ok l c); conv => whnf)
    | (rw [hw]; conv => whnf)
    | (rw [hw2]; conv => whnf)
    | (refine getB_same ?_; conv => whnf)
    | (refine AWp.any (by kernel_rfl) (by kernel_rfl) (by kernel_rfl) ?_; conv => whnf)
    | (apply And.intro; (focus (first | omega | rfl | decide | exact Nat.le_of_ble_eq_true rfl | ((repeat' (first | exact all_nil | refine all_cons ?_ ?_ | rfl | fail)); done) | (simp [-List.length_flatMap]; done) | (simp [-List.length_flatMap]; omega) | fail)); conv => whnf)
    | fail)
  have hN : (if ((l.length + 1 : Nat) : Int) < ((l.count c + 1 : Nat) : Int) then ((l.length + 1 : Nat) : Int) else ((l.count c + 1 : Nat) : Int)) = ((l.count c + 1 : Nat) : Int) := if_neg (by omega)
  rw [hN]
  refine ⟨?_, rfl, ?_⟩
  · show ((16 : Nat) : Int) * _ ≤ _
    omega
  intro b hb
  conv => whnf
  repeat' (first
    | (exfalso; first | omega | exact (by assumption : ¬ True) trivial | fail)
    | (refine ⟨Sub.refl _, ?_⟩)
    | (refine brA_split (fun h => ?_) (fun h => ?_) <;> (try rw [h]) <;> (try simp only [Bool.false_eq_true, Bool.true_eq_false, ↓reduceIte, decide_eq_true_eq, decide_eq_false_iff_not, Bool.not_eq_true', Bool.not_eq_false'] at h) <;> (conv => whnf))
    | (refine getB_same ?_; conv => whnf)
    | (refine AWp.any (by kernel_rfl) (by kernel_rfl) (by kernel_rfl) ?_; conv => whnf)
    | (apply And.intro; (focus (first | omega | rfl | decide | exact Nat.le_of_ble_eq_true rfl | ((repeat' (first | exact all_nil | refine all_cons ?_ ?_ | rfl | fail)); done) | (simp [-List.length_flatMap]; done) | (simp [-List.length_flatMap]; omega) | fail)); conv => whnf)
    | fail)
  refine AWp.loopA [0, 10] [34, 35, 36, 37, 38, 39, 11, 40, 41, 42, 43, 44, 45, 46, 47, 48, 49, 50, 51, 52, 53, 54, 55, 56, 57] (fun x : List (List UInt8) × List UInt8 => [.str x.2, .int .i64 x.1.length]) (fun x s' => (splitL l c = x.1 ++ splitL x.2 c ∧ x.2.length ≤ l.length) ∧ s'.bx b = some (9, x.1.map AV.str ++ List.replicate (l.count c + 1 - x.1.length) (AV.str [])) ∧ Sub s s') (fun x => l.count c - x.1.length) (([], l)) (by kernel_rfl) (by (repeat' (first | refine cons_eq ?_ ?_ | refine int64_of ?_ ?_ ?_ | rfl | omega))) ?_ ?_
  · refine ⟨⟨rfl, Nat.le_refl _⟩, ?_, (Sub.refl _).set hb _ _⟩
    refine set_bx_same.trans ?_
    rw [Int.toNat_natCast]
    exact congrArg (fun z => some (9, z)) (repl_flat _)
  · rintro x ⟨d, q⟩ s1 ⟨⟨i1, i2⟩, i3, i4⟩
    simp only at i1 i2 i3 i4
    show awp _ _ _ _ _ (updL _ _ [.str q, .int .i64 (d.length : Int)]) _
    conv => whnf
    have hlen2 := split_len q c
    have hd : d.length + (splitL q c).length = l.count c + 1 := by rw [← hlen, i1, List.length_append]
    have hix := index_ok (Γ := Γ) q c
    by_cases hn : Lib.indexByte q c = -1
    · have hq := split_none hn
      rw [hq] at i1 hd
      rw [hn] at hix
      simp only [List.length_cons, List.length_nil] at hd
      repeat' (first
        | (exfalso; first | omega | exact (by assumption : ¬ True) trivial | fail)
        | (refine ⟨Sub.refl _, ?_⟩)
        | (refine brA_split (fun h => ?_) (fun h => ?_) <;> (try rw [h]) <;> (try simp only [Bool.false_eq_true, Bool.true_eq_false, ↓reduceIte, decide_eq_true_eq, decide_eq_false_iff_not, Bool.not_eq_true', Bool.not_eq_false'] at h) <;> (conv => whnf))
        | (rw [hw3]; conv => whnf)
        | (refine ACalls.pure' ?_ (hix); rintro _ rfl; conv => whnf)
        | (refine DCall.pure ?_ (hix); conv => whnf)
        | (refine getB_of (by ((repeat (first | exact set_bx_same | assumption | refine (set_bx_other (by assumption)).trans ?_ | refine grow_bx.trans ?_)); done)) ?_; conv => whnf)
        | (refine getB_same ?_; conv => whnf)
        | (refine AWp.any (by kernel_rfl) (by kernel_rfl) (by kernel_rfl) ?_; conv => whnf)
        | (apply And.intro; (focus (first | omega | rfl | decide | exact Nat.le_of_ble_eq_true rfl | ((repeat' (first | exact all_nil | refine all_cons ?_ ?_ | rfl | fail)); done) | (simp [-List.length_flatMap]; done) | (simp [-List.length_flatMap]; omega) | fail)); conv => whnf)
        | fail)
      have hk : l.count c + 1 - d.length = 0 + 1 := by omega
      rw [hk]
      refine ⟨by show 0 + ((d.length : Nat) : Int).toNat * 1 + 1 ≤ _; simp <;> omega, frcL_at (cs' := (d ++ [q]).map AV.str ++ List.replicate 0 (AV.str [])) ?_ ?_⟩
      · rw [show 0 + ((d.length : Nat) : Int).toNat * (fun x => x.size) Tryd.prog.types[9] = d.length by show 0 + ((d.length : Nat) : Int).toNat * 1 = _; omega]
        exact fill_next d q 0
      have hwd : IntKind.i64.wrap ((d.length : Int) + 1) = ((d.length + 1 : Nat) : Int) := i64_of (by omega) (by omega) (by omega)
      conv => whnf
      repeat' (first
        | (exfalso; first | omega | exact (by assumption : ¬ True) trivial | fail)
        | (refine ⟨Sub.refl _, ?_⟩)
        | (refine brA_split (fun h => ?_) (fun h => ?_) <;> (try rw [h]) <;> (try simp only [Bool.false_eq_true, Bool.true_eq_false, ↓reduceIte, decide_eq_true_eq, decide_eq_false_iff_not, Bool.not_eq_true', Bool.not_eq_false'] at h) <;> (conv => whnf))
        | (refine getB_of (by ((repeat (first | exact set_bx_same | assumption | refine (set_bx_other (by assumption)).trans ?_ | refine grow_bx.trans ?_)); done)) ?_; conv => whnf)
        | (refine getB_same ?_; conv => whnf)
        | (refine AWp.any (by kernel_rfl) (by kernel_rfl) (by kernel_rfl) ?_; conv => whnf)
        | (apply And.intro; (focus (first | omega | rfl | decide | exact Nat.le_of_ble_eq_true rfl | ((repeat' (first | exact all_nil | refine all_cons ?_ ?_ | rfl | fail)); done) | (simp [-List.length_flatMap]; done) | (simp [-List.length_flatMap]; omega) | fail)); conv => whnf)
        | fail)
      refine ⟨_, Sub.refl _, fz1 b 1 ((d ++ [q]).map AV.str ++ List.replicate 0 (AV.str [])), fz1_of hb set_bx_same, ?_, i4.set hb _ _⟩
      rw [hwd, i1]
      show fg (fz _ (AV.raw (some ⟨b, if ((l.count c + 1 : Nat) : Int).toNat = 0 then 0 else 0 + 0 * 1, none⟩) (((d.length + 1 : Nat) : Int).toNat - 0) (((l.count c + 1 : Nat) : Int).toNat - 0))) = _
      rw [show (if ((l.count c + 1 : Nat) : Int).toNat = 0 then 0 else 0 + 0 * 1) = 0 by split <;> rfl, Int.toNat_natCast, Int.toNat_natCast, Nat.sub_zero, Nat.sub_zero]
      have hm : fzW (fz1 b 1 ((d ++ [q]).map AV.str ++ List.replicate 0 (AV.str []))) (some ⟨b, 0, none⟩) (d.length + 1) (l.count c + 1) = .slice 0 (strsA (d ++ [q])) := by
        unfold fzW
        simp only [fz1_at]
        rw [if_pos ⟨by omega, by simp⟩, List.replicate_zero, List.append_nil, List.drop_zero]
        have := chunks_strs (d ++ [q])
        rw [List.length_append] at this
        exact congrArg (AV.slice 0) this
      unfold fz
      rw [hm]
      unfold fg
      rw [fgE_strs]
    · obtain ⟨n, hn1⟩ : ∃ n : Nat, Lib.indexByte q c = n := ⟨(Lib.indexByte q c).toNat, by have := Lib.indexByte_ge q c; omega⟩
      have hnl := idx_lt hn1
      have hq := split_some hn1
      rw [hq] at i1 hd
      rw [hn1] at hix
      have hs2 := split_len (q.drop (n + 1)) c
      simp only [List.length_cons] at hd
      have hwn : IntKind.i64.wrap ((n : Int) + 0) = (n : Int) := i64_of (by omega) (by omega) (by omega)
      have hwn1 : IntKind.i64.wrap ((n : Int) + ([c].length : Nat)) = ((n + 1 : Nat) : Int) := i64_of rfl (by simp <;> omega) (by simp <;> omega)
      repeat' (first
        | (exfalso; first | omega | exact (by assumption : ¬ True) trivial | fail)
        | (refine ⟨Sub.refl _, ?_⟩)
        | (refine brA_split (fun h => ?_) (fun h => ?_) <;> (try rw [h]) <;> (try simp only [Bool.false_eq_true, Bool.true_eq_false, ↓reduceIte, decide_eq_true_eq, decide_eq_false_iff_not, Bool.not_eq_true', Bool.not_eq_false'] at h) <;> (conv => whnf))
        | (rw [hw3]; conv => whnf)
        | (refine ACalls.pure' ?_ (hix); rintro _ rfl; conv => whnf)
        | (refine DCall.pure ?_ (hix); conv => whnf)
        | (refine getB_of (by ((repeat (first | exact set_bx_same | assumption | refine (set_bx_other (by assumption)).trans ?_ | refine grow_bx.trans ?_)); done)) ?_; conv => whnf)
        | (rw [hwn]; conv => whnf)
        | (rw [hwn1]; conv => whnf)
        | (refine getB_same ?_; conv => whnf)
        | (refine AWp.any (by kernel_rfl) (by kernel_rfl) (by kernel_rfl) ?_; conv => whnf)
        | (apply And.intro; (focus (first | omega | rfl | decide | exact Nat.le_of_ble_eq_true rfl | ((repeat' (first | exact all_nil | refine all_cons ?_ ?_ | rfl | fail)); done) | (simp [-List.length_flatMap]; done) | (simp [-List.length_flatMap]; omega) | fail)); conv => whnf)
        | fail)
      obtain ⟨k, hk⟩ : ∃ k, l.count c + 1 - d.length = k + 1 := ⟨l.count c - d.length, by omega⟩
      rw [hk]
      refine ⟨by show 0 + ((d.length : Nat) : Int).toNat * 1 + 1 ≤ _; simp <;> omega, frcL_at (cs' := (d ++ [q.take n]).map AV.str ++ List.replicate k (AV.str [])) ?_ ?_⟩
      · rw [show 0 + ((d.length : Nat) : Int).toNat * (fun x => x.size) Tryd.prog.types[9] = d.length by show 0 + ((d.length : Nat) : Int).toNat * 1 = _; omega]
        exact fill_next d (q.take n) k
      conv => whnf
      repeat' (first
        | (exfalso; first | omega | exact (by assumption : ¬ True) trivial | fail)
        | (refine ⟨Sub.refl _, ?_⟩)
        | (refine brA_split (fun h => ?_) (fun h => ?_) <;> (try rw [h]) <;> (try simp only [Bool.false_eq_true, Bool.true_eq_false, ↓reduceIte, decide_eq_true_eq, decide_eq_false_iff_not, Bool.not_eq_true', Bool.not_eq_false'] at h) <;> (conv => whnf))
        | (refine getB_of (by ((repeat (first | exact set_bx_same | assumption | refine (set_bx_other (by assumption)).trans ?_ | refine grow_bx.trans ?_)); done)) ?_; conv => whnf)
        | (rw [hwn1]; conv => whnf)
        | (refine getB_same ?_; conv => whnf)
        | (refine AWp.any (by kernel_rfl) (by kernel_rfl) (by kernel_rfl) ?_; conv => whnf)
        | (apply And.intro; (focus (first | omega | rfl | decide | exact Nat.le_of_ble_eq_true rfl | ((repeat' (first | exact all_nil | refine all_cons ?_ ?_ | rfl | fail)); done) | (simp [-List.length_flatMap]; done) | (simp [-List.length_flatMap]; omega) | fail)); conv => whnf)
        | fail)
      refine ⟨(d ++ [q.take n], q.drop (n + 1)), ?_, by (repeat (first | exact Same.refl _ _ | refine Same.upd rfl ?_ | refine Same.updL rfl ?_ | refine Same.havoc rfl ?_)), ⟨⟨by rw [i1]; simp, by simp only [List.length_drop]; omega⟩, set_bx_same.trans ?_, i4.set hb _ _⟩, by simp; omega⟩
      · refine cons_eq ?_ (cons_eq ?_ rfl)
        · show AV.str (List.drop (((n + 1 : Nat) : Int)).toNat (List.take q.length q)) = _
          rw [Int.toNat_natCast, drop_take_all]
        · show AV.int .i64 (IntKind.i64.wrap ((d.length : Int) + 1)) = .int .i64 (((d ++ [q.take n]).length : Nat) : Int)
          rw [i64_of (b := (d.length : Int) + 1) rfl (by omega) (by omega)]
          simp
      · rw [show l.count c + 1 - (d ++ [q.take n]).length = k by simp; omega]
theorem split_ok (l : List UInt8) (c : UInt8) (hl : l.length ≤ 1048576) : APure Tryd.prog Γ 39 [.str l, .str [c]] fun v => v = .slice 0 (strsA (splitL l c)) := by
  refine APure.of_awp Tryd.func39 rfl (Nat.le_of_ble_eq_true (by kernel_rfl)) (by kernel_rfl) ?_
  intro s
  conv => whnf
  repeat' (first
    | (refine ⟨Sub.refl _, ?_⟩)
    | (refine brA_split (fun h => ?_) (fun h => ?_) <;> (try rw [h]) <;> (try simp only [Bool.false_eq_true, Bool.true_eq_false, ↓reduceIte, decide_eq_true_eq, decide_eq_false_iff_not, Bool.not_eq_true', Bool.not_eq_false'] at h) <;> (conv => whnf))
    | (refine ACalls.pure' ?_ (genSplit_ok l c hl); rintro _ rfl; conv => whnf)
    | (refine DCall.pure ?_ (genSplit_ok l c hl); conv => whnf)
    | (refine getB_same ?_; conv => whnf)
    | (refine AWp.any (by kernel_rfl) (by kernel_rfl) (by kernel_rfl) ?_; conv => whnf)
    | (apply And.intro; (focus (first | omega | rfl | decide | exact Nat.le_of_ble_eq_true rfl | ((repeat' (first | exact all_nil | refine all_cons ?_ ?_ | rfl | fail)); done) | (simp [-List.length_flatMap]; done) | (simp [-List.length_flatMap]; omega) | fail)); conv => whnf)
    | fail)
  rfl
end Go.Proofs.YtnelknhacamboaaDoor.Sp
