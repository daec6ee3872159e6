
/- Chapter 32: runs. -/
import Derived.Test.YtecjpdcoghfmiaaGreatDoorVnA
import Derived.Test.YtecjpdcoghfmiaaGreatDoorAb25
set_option linter.all false
namespace Go.Proofs.YtecjpdcoghfmiaaGreatDoor.Vn
open Go Go.Ab Go.RowKit
variable {Γ : Nat → AV}
attribute [local irreducible] APure Sto.set Sto.grow
set_option maxRecDepth 10000

/-- One more verdict behind the runs. -/
def runStep (r : List (Int × Int)) (x : Int) : List (Int × Int) :=
  match r.getLast? with
  | some (v, n) => if v = x then r.dropLast ++ [(v, n + 1)] else r ++ [(x, 1)]
  | none => [(x, 1)]
def runsOf (l : List Int) : List (Int × Int) := l.foldl runStep []
theorem runs_step {l : List Int} {i : Nat} (h : i < l.length) : runsOf (l.take (i + 1)) = runStep (runsOf (l.take i)) (l.getD i 0) := by
  unfold runsOf
  rw [List.take_add_one, List.foldl_append]
  simp [List.getD, h]

theorem aload_eq {P : Program} {T : TypeId} {cs cs' : List AV} {K : AV → Prop} (h : cs = cs') (hk : aload P T cs' K) : aload P T cs K := h ▸ hk
def cnt (r : Int × Int) : AV := .int .i64 r.2
theorem frcL_of {cs cs' : List AV} {K : List AV → Prop} (h : cs = cs') (hk : K cs') : frcL cs K := by rw [frcL_eq, h]; exact hk
theorem put_cnt {r : List (Int × Int)} {rest c : List AV} {v n : Int} {k : Nat} (hk : k = 1) (hc : c = [AV.int .i64 (IntKind.i64.wrap (n + 1))]) (h1 : 1 ≤ n) (h2 : n ≤ 1000000) :
    ((r ++ [(v, n)]).map cnt ++ rest).take (0 + ((r.length : Nat) : Int).toNat * k) ++ c ++ ((r ++ [(v, n)]).map cnt ++ rest).drop (0 + ((r.length : Nat) : Int).toNat * k + k) = (r ++ [(v, n + 1)]).map cnt ++ rest := by
  subst hk hc
  rw [Int.toNat_natCast, Nat.zero_add, Nat.mul_one, i64_of rfl (by omega) (by omega), List.map_append, List.map_append]
  have e1 : (List.map cnt r ++ List.map cnt [(v, n)] ++ rest).take r.length = List.map cnt r := by
    rw [List.append_assoc, List.take_append_of_le_length (by simp), List.take_of_length_le (by simp)]
  have e2 : (List.map cnt r ++ List.map cnt [(v, n)] ++ rest).drop (r.length + 1) = rest := by
    rw [List.drop_append_of_le_length (by simp), List.drop_of_length_le (by simp), List.nil_append]
  rw [e1, e2]
  rfl
theorem more_cnt {r : List (Int × Int)} {rest : List AV} {x : Int} {k m : Nat} (hk : k = 1) (hm : m = 1) :
    (r.map cnt ++ rest).take (r.length * k) ++ [[AV.int .i64 1]].flatten ++ (r.map cnt ++ rest).drop (r.length * k + m * k) = (r ++ [(x, 1)]).map cnt ++ rest.drop 1 := by
  subst hk hm
  rw [Nat.mul_one, Nat.mul_one, List.take_append_of_le_length (by simp), List.take_of_length_le (by simp), List.drop_append, List.length_map, List.drop_of_length_le (by simp), show r.length + 1 - r.length = 1 by omega]
  simp [cnt]
theorem new_cnt {r : List (Int × Int)} {rest zs : List AV} {x : Int} {k : Nat} (hk : k = 1) :
    (r.map cnt ++ rest).take (r.length * k) ++ [[AV.int .i64 1]].flatten ++ zs = (r ++ [(x, 1)]).map cnt ++ zs := by
  subst hk
  rw [Nat.mul_one, List.take_append_of_le_length (by simp), List.take_of_length_le (by simp)]
  simp [cnt]
theorem zeros_len (z : AV) (m : Nat) : (List.replicate m [z]).flatten.length = m := by simp
theorem runStep_same {r : List (Int × Int)} {v n x : Int} (h : v = x) : runStep (r ++ [(v, n)]) x = r ++ [(v, n + 1)] := by subst h; simp [runStep]
theorem runStep_other {r : List (Int × Int)} {v n x : Int} (h : ¬ v = x) : runStep (r ++ [(v, n)]) x = r ++ [(v, n)] ++ [(x, 1)] := by simp [runStep, h]
/-- The counts stand in a box of their own. -/
structure Often (s s' : Sto) (r : List (Int × Int)) (a : Option Addr) (cap : Nat) : Prop where
  none : r = [] → cap = 0
  some : r ≠ [] → ∃ b rest, a = some ⟨b, 0, Option.none⟩ ∧ s.bx b = Option.none ∧ s'.bx b = Option.some (3, r.map cnt ++ rest) ∧ r.length + rest.length = cap
theorem runs_len (l : List Int) : (runsOf l).length ≤ l.length := by
  have : ∀ (l : List Int) (r : List (Int × Int)), (l.foldl runStep r).length ≤ r.length + l.length := by
    intro l
    induction l with
    | nil => intro r; simp
    | cons x l ih =>
      intro r
      have h1 := ih (runStep r x)
      have h2 : (runStep r x).length ≤ r.length + 1 := by
        unfold runStep
        split
        · split
          · rw [List.length_append, List.length_dropLast, List.length_singleton]
            omega
          · simp
        · simp
      simp only [List.foldl_cons, List.length_cons]
      omega
  have := this l []
  simpa [runsOf] using this
theorem runs_last {l : List Int} : ∀ {i : Nat}, 0 < i → i ≤ l.length → ∃ (r : List (Int × Int)) (n : Int), runsOf (l.take i) = r ++ [(l.getD (i - 1) 0, n)] ∧ 1 ≤ n ∧ n ≤ i
  | 0, h, _ => absurd h (by omega)
  | 1, _, h => by
    refine ⟨[], 1, ?_, by omega, by omega⟩
    rw [runs_step (i := 0) (by omega)]
    rfl
  | i + 2, _, h => by
    obtain ⟨r, n, h1, h2, h3⟩ := runs_last (l := l) (i := i + 1) (by omega) (by omega)
    rw [runs_step (i := i + 1) (by omega), h1]
    by_cases he : l.getD i 0 = l.getD (i + 1) 0
    · exact ⟨r, n + 1, (runStep_same he).trans (by rw [he]; rfl), by omega, by omega⟩
    · exact ⟨_, 1, runStep_other he, by omega, by omega⟩

theorem runs_ok (t0 : Nat) (l : List Int) (hl : l.length ≤ 1000000) (s : Sto) :
    ACalls Tryz.prog Γ 7 [.slice t0 (intsA .i64 l)] s fun v s' => ∃ t a cap, v = .tuple [.slice t (intsA .i64 ((runsOf l).map (·.1))), .raw a (runsOf l).length cap] ∧ Sub s s' ∧ Often s s' (runsOf l) a cap := by
  have hbl := intsA_len .i64 l
  refine ACalls.of_awp Tryz.func7 rfl (Nat.le_of_ble_eq_true (by kernel_rfl)) (awp_ok _ (by kernel_rfl) ?_)
  conv => whnf
  repeat' (first
    | (refine ⟨Sub.refl _, ?_⟩)
    | (refine brA_split (fun h => ?_) (fun h => ?_) <;> (try rw [h]) <;> (try simp only [Bool.false_eq_true, Bool.true_eq_false, ↓reduceIte, decide_eq_true_eq, decide_eq_false_iff_not, Bool.not_eq_true', Bool.not_eq_false'] at h) <;> (conv => whnf))
    | (refine getB_same ?_; conv => whnf)
    | (refine AWp.any (by kernel_rfl) (by kernel_rfl) (by kernel_rfl) ?_; conv => whnf)
    | (apply And.intro; (focus (first | omega | rfl | decide | exact Nat.le_of_ble_eq_true rfl | ((repeat' (first | exact all_nil | refine all_cons ?_ ?_ | rfl | fail)); done) | (simp [-List.length_flatMap]; done) | (simp [-List.length_flatMap]; omega) | fail)); conv => whnf)
    | fail)
  refine AWp.nilRaw 5 rfl fun a0 => ?_
  refine AWp.loopA [4, 5, 10] [11, 12, 13, 14, 6, 7, 15, 16, 17, 18, 19, 20, 21, 22, 23, 24, 25, 26, 27, 28, 29, 30, 31, 32, 33, 34, 35, 36, 37, 38, 39, 40, 41] (fun x : Nat × Nat × Option Addr × Nat => [.slice x.2.1 (intsA .i64 ((runsOf (l.take x.1)).map (·.1))), .raw x.2.2.1 (runsOf (l.take x.1)).length x.2.2.2, .int .i64 x.1]) (fun x s' => x.1 ≤ l.length ∧ Own s s' (x.1 == 0) x.2.1 3 1 ∧ Often s s' (runsOf (l.take x.1)) x.2.2.1 x.2.2.2) (fun x => l.length - x.1) ((0, 1, a0, 0)) (by kernel_rfl) (by (repeat' (first | refine cons_eq ?_ ?_ | refine int64_of ?_ ?_ ?_ | rfl | omega))) ?_ ?_
  · exact ⟨by simp, Own.nil _ _ _, fun _ => rfl, fun h => absurd rfl h⟩
  · rintro y ⟨i, t, a, cap⟩ s1 ⟨hi, ho, hof⟩
    simp only at hi ho hof
    conv => whnf
    repeat' (first
      | (refine ⟨Sub.refl _, ?_⟩)
      | (refine brA_split (fun h => ?_) (fun h => ?_) <;> (try rw [h]) <;> (try simp only [Bool.false_eq_true, Bool.true_eq_false, ↓reduceIte, decide_eq_true_eq, decide_eq_false_iff_not, Bool.not_eq_true', Bool.not_eq_false'] at h) <;> (conv => whnf))
      | (rw [show IntKind.i64.wrap (((i, t, a, cap).1 : Int) - 1) = ((i - 1 : Nat) : Int) from i64_of (by simp only; omega) (by omega) (by omega)]; conv => whnf)
      | (rw [intsA_get (by omega)]; conv => whnf)
      | (rw [intsA_get (by omega)]; conv => whnf)
      | (refine getB_same ?_; conv => whnf)
      | (refine AWp.any (by kernel_rfl) (by kernel_rfl) (by kernel_rfl) ?_; conv => whnf)
      | (apply And.intro; (focus (first | omega | rfl | decide | exact Nat.le_of_ble_eq_true rfl | ((repeat' (first | exact all_nil | refine all_cons ?_ ?_ | rfl | fail)); done) | (simp [-List.length_flatMap]; done) | (simp [-List.length_flatMap]; omega) | fail)); conv => whnf)
      | fail)
    all_goals try simp only [Int.toNat_natCast] at *
    · -- one more of the same
      have hlt : i < l.length := by omega
      obtain ⟨r, n, hr, hn1, hn2⟩ := runs_last (l := l) (i := i) (by omega) (by omega)
      have hst : runsOf (l.take (i + 1)) = r ++ [(l.getD (i - 1) 0, n + 1)] := by
        rw [runs_step hlt, hr, runStep_same h]
      obtain ⟨b, rest, ha, hb0, hb1, hb2⟩ := hof.some (by rw [hr]; simp)
      subst ha
      rw [hr] at hb1 hb2
      simp only [List.length_append, List.length_singleton] at hb2
      rw [hr]
      simp only [List.length_append, List.length_singleton]
      conv => whnf
      have hrl := runs_len (l.take i)
      rw [hr, List.length_take, List.length_append, List.length_singleton] at hrl
      have hw : IntKind.i64.wrap (((r.length + 1 : Nat) : Int) - 1) = (r.length : Int) := i64_of (by omega) (by omega) (by omega)
      rw [hw]
      refine ⟨by omega, by omega, ?_⟩
      conv => whnf
      refine getB_of hb1 ?_
      have hdr : ∀ k, k = 1 → ((r ++ [(l.getD (i - 1) 0, n)]).map cnt ++ rest).drop (0 + ((r.length : Nat) : Int).toNat * k) = .int .i64 n :: rest := by
        rintro _ rfl
        rw [Int.toNat_natCast, Nat.zero_add, Nat.mul_one, List.map_append, List.append_assoc, List.drop_append_of_le_length (by simp), List.drop_of_length_le (by simp)]
        rfl
      refine aload_eq (hdr _ rfl) ?_
      repeat' (first
        | (refine ⟨Sub.refl _, ?_⟩)
        | (refine brA_split (fun h => ?_) (fun h => ?_) <;> (try rw [h]) <;> (try simp only [Bool.false_eq_true, Bool.true_eq_false, ↓reduceIte, decide_eq_true_eq, decide_eq_false_iff_not, Bool.not_eq_true', Bool.not_eq_false'] at h) <;> (conv => whnf))
        | (refine getB_of hb1 ?_; conv => whnf)
        | (refine getB_same ?_; conv => whnf)
        | (refine AWp.any (by kernel_rfl) (by kernel_rfl) (by kernel_rfl) ?_; conv => whnf)
        | (apply And.intro; (focus (first | omega | rfl | decide | exact Nat.le_of_ble_eq_true rfl | ((repeat' (first | exact all_nil | refine all_cons ?_ ?_ | rfl | fail)); done) | (simp [-List.length_flatMap]; done) | (simp [-List.length_flatMap]; omega) | fail)); conv => whnf)
        | fail)
      refine ⟨?_, ?_⟩
      · show 0 + ((r.length : Nat) : Int).toNat * 1 + 1 ≤ _
        rw [List.length_append, List.length_map, List.length_append, List.length_singleton, Int.toNat_natCast]
        omega
      refine frcL_of (put_cnt rfl rfl hn1 (by omega)) ?_
      conv => whnf
      refine ⟨(i + 1, t, some ⟨b, 0, none⟩, cap), ?_, by (repeat (first | exact Same.refl _ _ | refine Same.upd rfl ?_ | refine Same.updL rfl ?_ | refine Same.havoc rfl ?_)), ⟨by simp only; omega, ?_, ?_⟩, by simp only; omega⟩
      · refine cons_eq ?_ (cons_eq ?_ (cons_eq (show AV.int .i64 (IntKind.i64.wrap ((i : Int) + 1)) = .int .i64 ((i + 1 : Nat) : Int) from int64_of (by omega) (by omega) (by omega)) rfl))
        · show AV.slice _ (intsA .i64 ((r ++ [(l.getD (i - 1) 0, n)]).map (·.1))) = .slice _ (intsA .i64 ((runsOf (l.take (i + 1))).map (·.1)))
          rw [hst]; simp [intsA]
        · show AV.raw _ (r.length + 1) _ = .raw _ (runsOf (l.take (i + 1))).length _
          rw [hst]; simp
      · have ez : (i == 0) = false := by simp; omega
        rw [ez] at ho
        exact ho.set hb0
      · show Often s _ (runsOf (l.take (i + 1))) (some ⟨b, 0, none⟩) cap
        rw [hst]
        exact ⟨fun h => absurd h (by simp), fun _ => ⟨b, rest, rfl, hb0, set_bx_same, by simp; omega⟩⟩
    · have hlt : i < l.length := by omega
      obtain ⟨r, n, hr, hn1, hn2⟩ := runs_last (l := l) (i := i) (by omega) (by omega)
      have hst : runsOf (l.take (i + 1)) = runsOf (l.take i) ++ [(l.getD i 0, 1)] := by
        rw [runs_step hlt, hr, runStep_other h]
      refine ⟨ho.may, fun c hc => by obtain ⟨x, _, rfl⟩ := List.mem_map.1 hc; rfl, all_cons ⟨rfl, rfl⟩ all_nil, ?_, ?_⟩
      · have := runs_len (l.take i)
        rw [intsA_len, List.length_map]
        rw [List.length_take] at this
        show ((runsOf (l.take i)).length + 1) * (8 + 1) ≤ _
        omega
      intro t' k1 k2
      have k3 := ho.grow k1 k2
      repeat' (first
        | (refine ⟨Sub.refl _, ?_⟩)
        | (refine brA_split (fun h => ?_) (fun h => ?_) <;> (try rw [h]) <;> (try simp only [Bool.false_eq_true, Bool.true_eq_false, ↓reduceIte, decide_eq_true_eq, decide_eq_false_iff_not, Bool.not_eq_true', Bool.not_eq_false'] at h) <;> (conv => whnf))
        | (refine getB_same ?_; conv => whnf)
        | (refine AWp.any (by kernel_rfl) (by kernel_rfl) (by kernel_rfl) ?_; conv => whnf)
        | (apply And.intro; (focus (first | omega | rfl | decide | exact Nat.le_of_ble_eq_true rfl | ((repeat' (first | exact all_nil | refine all_cons ?_ ?_ | rfl | fail)); done) | (simp [-List.length_flatMap]; done) | (simp [-List.length_flatMap]; omega) | fail)); conv => whnf)
        | fail)
      have hrl := runs_len (l.take i)
      rw [List.length_take] at hrl
      refine ⟨?_, fun h0 => ?_, fun h0 => ?_⟩
      · show ((runsOf (l.take i)).length + 1) * (8 + 1) ≤ _
        omega
      · exact absurd h0.1 (by rw [hr]; simp)
      · obtain ⟨b, rest, ha, hb0, hb1, hb2⟩ := hof.some (by rw [hr]; simp)
        subst ha
        refine getB_of (grow_bx.trans hb1) ⟨rfl, by omega, ?_, fun hroom => ?_, fun hmore b' cap' hge hb' => ?_⟩
        · show (List.map cnt (runsOf (l.take i)) ++ rest).length = cap * 1
          simp; omega
        · conv => whnf
          refine ⟨(i + 1, t', some ⟨b, 0, none⟩, cap), ?_, by (repeat (first | exact Same.refl _ _ | refine Same.upd rfl ?_ | refine Same.updL rfl ?_ | refine Same.havoc rfl ?_)), ⟨by simp only; omega, ?_, ?_⟩, by simp only; omega⟩
          · refine cons_eq ?_ (cons_eq ?_ (cons_eq (show AV.int .i64 (IntKind.i64.wrap ((i : Int) + 1)) = .int .i64 ((i + 1 : Nat) : Int) from int64_of (by omega) (by omega) (by omega)) rfl))
            · show AV.slice _ (intsA .i64 ((runsOf (l.take i)).map (·.1)) ++ [[.int .i64 (l.getD i 0)]]) = .slice _ (intsA .i64 ((runsOf (l.take (i + 1))).map (·.1)))
              rw [hst]; simp [intsA]
            · show AV.raw _ ((runsOf (l.take i)).length + 1) _ = .raw _ (runsOf (l.take (i + 1))).length _
              rw [hst]; simp
          · have ez : ((i == 0) && [[AV.int .i64 (l.getD i 0)]].isEmpty) = false := by simp
            rw [ez] at k3
            exact k3.set hb0
          · show Often s _ (runsOf (l.take (i + 1))) (some ⟨b, 0, none⟩) cap
            rw [hst]
            refine ⟨fun h => absurd h (by simp), fun _ => ⟨b, rest.drop 1, rfl, hb0, ?_, ?_⟩⟩
            · rw [← more_cnt (k := 1) (m := 1) rfl rfl]
              exact set_bx_same
            · first
                | (have hr1 : (runsOf (l.take i)).length + 1 ≤ cap := hroom
                   simp
                   omega)
                | (have hr1 : (runsOf (l.take i)).length + 1 ≤ cap' := hge
                   simp
                   omega)
        · conv => whnf
          refine ⟨(i + 1, t', some ⟨b', 0, none⟩, cap'), ?_, by (repeat (first | exact Same.refl _ _ | refine Same.upd rfl ?_ | refine Same.updL rfl ?_ | refine Same.havoc rfl ?_)), ⟨by simp only; omega, ?_, ?_⟩, by simp only; omega⟩
          · refine cons_eq ?_ (cons_eq ?_ (cons_eq (show AV.int .i64 (IntKind.i64.wrap ((i : Int) + 1)) = .int .i64 ((i + 1 : Nat) : Int) from int64_of (by omega) (by omega) (by omega)) rfl))
            · show AV.slice _ (intsA .i64 ((runsOf (l.take i)).map (·.1)) ++ [[.int .i64 (l.getD i 0)]]) = .slice _ (intsA .i64 ((runsOf (l.take (i + 1))).map (·.1)))
              rw [hst]; simp [intsA]
            · show AV.raw _ ((runsOf (l.take i)).length + 1) _ = .raw _ (runsOf (l.take (i + 1))).length _
              rw [hst]; simp
          · have ez : ((i == 0) && [[AV.int .i64 (l.getD i 0)]].isEmpty) = false := by simp
            rw [ez] at k3
            exact k3.set (k3.sub.none hb')
          · show Often s _ (runsOf (l.take (i + 1))) (some ⟨b', 0, none⟩) cap'
            rw [hst]
            refine ⟨fun h => absurd h (by simp), fun _ => ⟨b', (List.replicate (cap' - ((runsOf (l.take i)).length + 1)) [AV.int .i64 0]).flatten, rfl, (k3.sub.none hb'), ?_, ?_⟩⟩
            · rw [← new_cnt (k := 1) (rest := rest) rfl]
              exact set_bx_same
            · first
                | (have hr1 : (runsOf (l.take i)).length + 1 ≤ cap := hroom
                   simp
                   omega)
                | (have hr1 : (runsOf (l.take i)).length + 1 ≤ cap' := hge
                   simp
                   omega)
    · have hlt : i < l.length := by omega
      have hst : runsOf (l.take (i + 1)) = runsOf (l.take i) ++ [(l.getD i 0, 1)] := by
        rw [runs_step hlt, show i = 0 by omega]
        rfl
      have h0 : runsOf (l.take i) = [] := by rw [show i = 0 by omega]; rfl
      have hc0 := hof.none h0
      subst hc0
      rw [h0] at hst ⊢
      refine ⟨ho.may, fun c hc => absurd hc (by simp [intsA]), all_cons ⟨rfl, rfl⟩ all_nil, ?_, ?_⟩
      · show (0 + 1) * (8 + 1) ≤ 140737488355328
        omega
      intro t' k1 k2
      have k3 := ho.grow k1 k2
      repeat' (first
        | (refine ⟨Sub.refl _, ?_⟩)
        | (refine brA_split (fun h => ?_) (fun h => ?_) <;> (try rw [h]) <;> (try simp only [Bool.false_eq_true, Bool.true_eq_false, ↓reduceIte, decide_eq_true_eq, decide_eq_false_iff_not, Bool.not_eq_true', Bool.not_eq_false'] at h) <;> (conv => whnf))
        | (refine getB_same ?_; conv => whnf)
        | (refine AWp.any (by kernel_rfl) (by kernel_rfl) (by kernel_rfl) ?_; conv => whnf)
        | (apply And.intro; (focus (first | omega | rfl | decide | exact Nat.le_of_ble_eq_true rfl | ((repeat' (first | exact all_nil | refine all_cons ?_ ?_ | rfl | fail)); done) | (simp [-List.length_flatMap]; done) | (simp [-List.length_flatMap]; omega) | fail)); conv => whnf)
        | fail)
      refine ⟨fun _ b' cap' hge hb' => ?_, fun h1 => (h1 ⟨rfl, rfl⟩).elim⟩
      conv => whnf
      refine ⟨(i + 1, t', some ⟨b', 0, none⟩, cap'), ?_, by (repeat (first | exact Same.refl _ _ | refine Same.upd rfl ?_ | refine Same.updL rfl ?_ | refine Same.havoc rfl ?_)), ⟨by simp only; omega, ?_, ?_⟩, by simp only; omega⟩
      · refine cons_eq ?_ (cons_eq ?_ (cons_eq (show AV.int .i64 (IntKind.i64.wrap ((i : Int) + 1)) = .int .i64 ((i + 1 : Nat) : Int) from int64_of (by omega) (by omega) (by omega)) rfl))
        · show AV.slice _ ([[.int .i64 (l.getD i 0)]]) = .slice _ (intsA .i64 ((runsOf (l.take (i + 1))).map (·.1)))
          rw [hst]; simp [intsA]
        · show AV.raw _ (1) _ = .raw _ (runsOf (l.take (i + 1))).length _
          rw [hst]; simp
      · have ez : ((i == 0) && [[AV.int .i64 (l.getD i 0)]].isEmpty) = false := by simp
        rw [ez] at k3
        exact k3.set (k3.sub.none hb')
      · show Often s _ (runsOf (l.take (i + 1))) (some ⟨b', 0, none⟩) cap'
        rw [hst]
        refine ⟨fun h => absurd h (by simp), fun _ => ⟨b', (List.replicate (cap' - 1) [AV.int .i64 0]).flatten, rfl, k3.sub.none hb', ?_, ?_⟩⟩
        · exact set_bx_same
        · have hr1 : 1 ≤ cap' := hge
          simp
          omega
    · have ht : l.take i = l := List.take_of_length_le (by omega)
      rw [ht] at hof
      rw [ht]
      exact ⟨s1, Sub.refl _, t, a, cap, rfl, ho.sub, hof⟩
end Go.Proofs.YtecjpdcoghfmiaaGreatDoor.Vn
