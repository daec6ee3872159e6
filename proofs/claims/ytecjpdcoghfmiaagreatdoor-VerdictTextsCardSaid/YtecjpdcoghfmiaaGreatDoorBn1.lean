/- A builder into which nothing was written. -/
import Derived.Test.YtecjpdcoghfmiaaGreatDoorBd1
set_option linter.all false
namespace Go.Ab
open Go
variable {P : Program} {Γ : Nat → AV} {n : Nat} {Q : Exit → Env → Sto → Prop} {e : Env} {s : Sto}
/-- A new variable, whose zero value is read as one likes. -/
theorem AWp.allocTo {id i : Nat} {o : Oper} {T : TypeId} {zi : TypeInfo} {zv : Value} {cs : List AV} (ho : o.op = .alloc T) (hd : o.dst = some i) (hg : o.guard = none) (hi : P.info? T = some zi) (hz : zi.zero = some zv) (hin : i < n)
    (hr : ∀ (G : Gh) (w : World), RList G w cs zv.cells.toList) (h : ∀ b, s.bx b = none → Q .normal (upd e i (.ptr (some ⟨b, 0, none⟩))) (s.set b T cs)) :
    AWp P Γ n (.region id #[o] false) Q e s := by
  refine ⟨fun G w a hm he => wp_region ?_⟩
  have hzero : (zeroValue T).run P w = .ok zv w := by simp [zeroValue, typeInfo, hi, hz]
  obtain ⟨hm', hb⟩ := Mod.box_new hm (T := T) (hr G w)
  show wpOps P #[o] _ [0] a w
  obtain ⟨dst, op, ty, pos, aft, grd⟩ := o
  dsimp only at ho hd hg
  subst ho hd hg
  have hw : ∀ t, Region.wanted (⟨some i, .alloc T, ty, pos, aft, none⟩ : Oper) t = true := fun t => rfl
  simp only [wpOps, List.getElem?_toArray, List.getElem?_cons_zero, hw, if_true]
  refine .inl (StepOK.wp (P := P) (Γ := Γ) (K := fun r s' => r = .ptr (some ⟨w.heap.size, 0, none⟩) ∧ s' = s.set w.heap.size T cs) ⟨.value (.pointer (some ⟨w.heap.size, 0, none⟩)), _, _, _, _, G, ?_, .inl rfl, ⟨rfl, rfl⟩, R_ptr.2 rfl, hm', Ext.alloc hm _⟩ ?_)
  · simp [execOp, Instr.alloc, hzero, newVar, newRow]
  · rintro v r s' G' w' ⟨rfl, rfl⟩ hR hM hX
    obtain ⟨e2, s2, G2, q1, q2, q3, q4⟩ : ∃ e2 s2 G2, Q .normal e2 s2 ∧ Mod Γ G2 s2 w' ∧ EnvR G2 w' n e2 (a.put (some i) v) ∧ Ext G w G2 w' :=
      ⟨_, _, G', h _ hb, hM, (he.mono hX).put (d := some i) (fun j hj => (by cases hj; exact hin)) hR, hX⟩
    exact ⟨e2, s2, G2, q1, q2, q3, q4⟩
end Go.Ab
namespace Go.Proofs.YtecjpdcoghfmiaaGreatDoor.Bd
open Go Go.Ab Go.RowKit
variable {Γ : Nat → AV}
theorem StringNil_ok {s : Sto} {b : Nat} {p : Option Addr} (hb : s.bx b = some (45, [.ptr p, .raw none 0 0])) :
    ACalls Tryz.prog Γ 18 [.ptr (some ⟨b, 0, none⟩)] s fun v s' => v = .str [] ∧ Sub s s' := by
  refine ⟨fun G w vs hm hr => ?_⟩
  obtain ⟨u, us, rfl, hu, hus⟩ := RList_cons.1 hr
  rw [RList_nil] at hus; subst hus
  rw [R_ptr] at hu; subst hu
  obtain ⟨_, cs, hh, hcs⟩ := hm.box b _ _ hb
  obtain ⟨c0, cs', rfl, hc0, h1⟩ := RList_cons.1 hcs
  obtain ⟨c1, cs'', rfl, hx, h2⟩ := RList_cons.1 h1
  rw [RList_nil] at h2; subst h2
  rw [R_ptr] at hc0; subst hc0
  rw [R_raw] at hx; subst hx
  have hhd : w.drew.heap[b]? = some (.cells #[.pointer p, .slice none 0 0] 45 (0, 0)) := hh
  have hc1 : w.drew.cell? ⟨b, 1, none⟩ = some (.slice none 0 0) := by rw [Lib.cell_of_heap hhd]; rfl
  have hSD : (Builtin.unsafeSliceData_ #[43] 66 #[.slice none 0 0]).run Tryz.prog w.drew = .ok (.pointer none) w.drew := Lib.run_unsafeSliceData_nil _ _ _ _ _
  have hUS : (Builtin.unsafeString_ #[66, 3] 9 #[.pointer none, .int .i64 0]).run Tryz.prog w.drew = .ok (.string .empty) w.drew := Lib.run_unsafeString_none _ _ _ _ _
  refine Calls.mono (R := fun e w' => e = .returned (.string .empty) ∧ w' = w.drew) ?_ ?_
  · have mixed : Tryz.prog.follows .mixedOrders = true := by kernel_rfl
    go_enter Tryz.func18, Tryz.ntmps18
    go_wp2
    go_region_o
    all_goals (go_wp2; go_ret; exact ⟨rfl, rfl⟩)
  · rintro e w' ⟨rfl, rfl⟩
    obtain ⟨md, Xd⟩ := hm.drew
    exact ⟨_, .str [], s, G, rfl, ⟨rfl, Sub.refl _⟩, R_str.2 rfl, md, Xd⟩
end Go.Proofs.YtecjpdcoghfmiaaGreatDoor.Bd
