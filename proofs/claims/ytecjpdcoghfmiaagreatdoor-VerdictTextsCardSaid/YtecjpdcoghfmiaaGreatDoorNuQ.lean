
/- Chapter 1: the number of a text, by the program. -/
import Derived.Test.YtecjpdcoghfmiaaGreatDoorNuP
import Derived.Handy
import Derived.Lib.AtoiErrMem
set_option linter.all false
namespace Go.Proofs.YtecjpdcoghfmiaaGreatDoor.Nu
open Go Go.Ab Go.RowKit
variable {Γ : Nat → AV}
set_option maxRecDepth 10000
set_option maxHeartbeats 1000000

/-- What is known of the library's variable: an error of errors.New's. -/
def ErrR (Γ : Nat → AV) : Prop := ∃ txt, Γ 3 = .cptr [.iface 158 (.cptr [.str txt])]
theorem errR_cell (hE : ErrR Γ) {G : Gh} {s : Sto} {w : World} (hm : Mod Γ G s w) : ∃ b : Addr, w.cell? ⟨3, 0, none⟩ = some (.iface 158 (.pointer (some b))) := by
  obtain ⟨txt, hE⟩ := hE
  have h := (hm.glob 3).r
  rw [hE] at h
  obtain ⟨b, o, e, hc⟩ := R_cptr.1 h
  injection e with e; injection e with e; injection e with e1 e2 e3
  subst e1 e2
  unfold RCells at hc
  obtain ⟨_, ⟨u, hu, hr⟩, _⟩ := hc
  obtain ⟨z, rfl, hz⟩ := R_iface.1 hr
  obtain ⟨b, o, rfl, _⟩ := R_cptr.1 hz
  exact ⟨_, hu⟩
def numE (l : List UInt8) : Int := if formB l = true then (match Lib.parseIntB 64 l with | .ok _ => 0 | .range => 5 | Lib.NumEnd.syntax => 4) else 4
def numN (l : List UInt8) : Int := if formB l = true then (match Lib.parseIntB 64 l with | .ok v => v | _ => 0) else 0
theorem parse_run (l : List UInt8) (hl : l.length ≤ 1048576) (hE : ErrR Γ) (hs : formB l = true → Lib.parseIntB 64 l ≠ Lib.NumEnd.syntax) : APure Tryz.prog Γ 38 [.str l] fun v => v = .tuple [.int .i64 (numN l), .int .i64 (numE l)] := by
  intro s
  refine ⟨fun G w vs hm hr => ?_⟩
  obtain ⟨u, us, rfl, hu, hus⟩ := RList_cons.1 hr
  rw [RList_nil] at hus; subst hus
  rw [R_str] at hu; subst hu
  have cf := (form_ok l hl s).run G w [.string ⟨l.toArray⟩] hm (RList_cons.2 ⟨_, [], rfl, R_str.2 rfl, RList_nil.2 rfl⟩)
  go_enter Tryz.func38, Tryz.ntmps38
  go_wp2_with fail
  refine cf.mono ?_
  rintro e w1 ⟨v, av, s', G1, rfl, ⟨rfl, rfl⟩, hR, hm1, hX1⟩
  rw [R_bool] at hR; subst hR
  have done : ∀ (n e : Int) (w2 : World), numN l = n → numE l = e → Below w1.heap.size w1 w2 → ∃ v av s2 G', Ending.returned (.tuple #[.int .i64 n, .int .i64 e]) = Ending.returned v ∧ (av = AV.tuple [.int .i64 (numN l), .int .i64 (numE l)] ∧ s2 = s') ∧ R G' w2 av v ∧ Mod Γ G' s2 w2 ∧ Ext G w G' w2 := by
    rintro n e w2 rfl rfl hb2
    obtain ⟨m1, m2⟩ := hm1.below hb2
    exact ⟨_, _, _, G1, rfl, ⟨rfl, rfl⟩, R_tuple.2 ⟨_, rfl, RList_cons.2 ⟨_, _, rfl, R_int.2 rfl, RList_cons.2 ⟨_, _, rfl, R_int.2 rfl, RList_nil.2 rfl⟩⟩⟩, m1, hX1.trans m2⟩
  cases hf : formB l
  · go_wp2_with fail
    go_returns
    exact done 0 4 w1 (by unfold numN; rw [hf]; rfl) (by unfold numE; rw [hf]; rfl) (Below.refl _ _)
  · obtain ⟨b, hb⟩ := errR_cell hE hm1
    have hb0 : 3 < w1.heap.size := Nat.lt_of_not_le fun hge => by
      unfold World.cell? at hb
      rw [Array.getElem?_eq_none (by exact hge)] at hb
      cases hb
    cases hp : Lib.parseIntB 64 l with
    | ok n =>
      have cp := Tryz.strconv_ParseInt_10_at64_ok ⟨l.toArray⟩ (by show l.length ≤ _; omega) n hp w1
      go_wp2_with fail
      refine cp.mono ?_
      rintro e w2 ⟨rfl, hw2⟩
      have hB : Below w1.heap.size w1 w2 := by
        rcases hw2 with rfl | ⟨t, rfl⟩
        · exact Below.refl _ _
        · exact Lib.bytesWorld_below _ _ _
      have hb2 := (hB.cell (p := ⟨3, 0, none⟩) hb0).trans hb
      have ci := Er.is_nil b w2
      go_wp2_with fail
      refine ci.mono ?_
      rintro e w3 ⟨rfl, rfl⟩
      go_wp2_with fail
      go_returns
      exact done n 0 _ (by unfold numN; rw [hf, hp]; rfl) (by unfold numE; rw [hf, hp]; rfl) hB
    | range =>
      have cp := Tryz.strconv_ParseInt_10_at64_range ⟨l.toArray⟩ (by show l.length ≤ _; omega) hp _ w1 hb (.inr ⟨_, _, rfl⟩)
      go_wp2_with fail
      refine cp.mono ?_
      rintro e w2 ⟨N, rfl, hN1, hN2, hB⟩
      have hb2 := (hB.cell (p := ⟨3, 0, none⟩) hb0).trans hb
      have ci := Er.is_num N b _ _ _ w2 hN2
      go_wp2_with fail
      refine ci.mono ?_
      rintro e w3 ⟨rfl, rfl⟩
      go_wp2_with fail
      go_returns
      exact done 0 5 _ (by unfold numN; rw [hf, hp]; rfl) (by unfold numE; rw [hf, hp]; rfl) hB
    | _ => exact absurd hp (hs hf)
end Go.Proofs.YtecjpdcoghfmiaaGreatDoor.Nu
