
/- strings.IndexByte, said of abstract values. -/
import Derived.Test.YtcgobgnbpeageaaGreatDoorAb21
import Derived.Test.YtcgobgnbpeageaaGreatDoorChecked
import Derived.Lib.Bytealg
import Derived.Laws.Externs
set_option linter.all false
namespace Go.Proofs.YtcgobgnbpeageaaGreatDoor.Ix
open Go Go.Ab Go.RowKit
variable {Γ : Nat → AV}
set_option maxRecDepth 10000

theorem lite_ok (l : List UInt8) (n : Int) : APure Tryz.prog Γ 109 [.str l, .int .u8 n] fun v => v = .int .i64 (Lib.indexByte l n.toNat.toUInt8) := by
  refine fun s => ⟨fun G w vs hm hr => ?_⟩
  obtain ⟨u, us, rfl, hu, hus⟩ := RList_cons.1 hr
  obtain ⟨u1, us1, rfl, hu1, hus1⟩ := RList_cons.1 hus
  rw [RList_nil] at hus1; subst hus1
  rw [R_str] at hu; subst hu
  rw [R_int] at hu1; subst hu1
  refine Calls.mono (R := fun e w' => e = .returned (.int .i64 (Lib.indexByte l n.toNat.toUInt8)) ∧ w' = w) ?_ ?_
  · go_enter Tryz.func109, Tryz.ntmps109
    go_wp2
    rw [run_callFunc_extern Tryz.func121 (by kernel_rfl) (by kernel_rfl) (by kernel_rfl) (e := Extern.BytealgIndexByte.indexByte) (by kernel_rfl)]
    rw [Lib.run_indexByteString]
    simp only [Result.andThen]
    rw [Oper.upon_value]
    go_wp2
    go_ret
    exact ⟨rfl, rfl⟩
  · rintro e w' ⟨rfl, rfl⟩
    exact ⟨_, _, s, G, rfl, ⟨rfl, rfl⟩, R_int.2 rfl, hm, Ext.refl _ _⟩
attribute [local irreducible] APure Sto.set Sto.grow
set_option maxRecDepth 10000
theorem indexByte_ok (l : List UInt8) (n : Int) : APure Tryz.prog Γ 89 [.str l, .int .u8 n] fun v => v = .int .i64 (Lib.indexByte l n.toNat.toUInt8) := by
  refine APure.of_awp Tryz.func89 rfl (Nat.le_of_ble_eq_true (by kernel_rfl)) (by kernel_rfl) ?_
  intro s
  conv => whnf
  repeat' (first
    | (refine ⟨Sub.refl _, ?_⟩)
    | (refine brA_split (fun h => ?_) (fun h => ?_) <;> (try rw [h]) <;> (try simp only [Bool.false_eq_true, Bool.true_eq_false, ↓reduceIte, decide_eq_true_eq, decide_eq_false_iff_not, Bool.not_eq_true', Bool.not_eq_false'] at h) <;> (conv => whnf))
    | (refine ACalls.pure' ?_ (lite_ok _ _); rintro _ rfl; conv => whnf)
    | (refine DCall.pure ?_ (lite_ok _ _); conv => whnf)
    | (refine getB_same ?_; conv => whnf)
    | (refine AWp.any (by kernel_rfl) (by kernel_rfl) (by kernel_rfl) ?_; conv => whnf)
    | (apply And.intro; (focus (first | omega | rfl | decide | exact Nat.le_of_ble_eq_true rfl | ((repeat' (first | exact all_nil | refine all_cons ?_ ?_ | rfl | fail)); done) | (simp [-List.length_flatMap]; done) | (simp [-List.length_flatMap]; omega) | fail)); conv => whnf)
    | fail)
  rfl
end Go.Proofs.YtcgobgnbpeageaaGreatDoor.Ix
