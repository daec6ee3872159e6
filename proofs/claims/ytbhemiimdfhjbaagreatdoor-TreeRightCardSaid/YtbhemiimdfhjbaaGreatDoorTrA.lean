
/- Chapter 10: trees as data, and lists that are compared. -/
import Derived.Test.YtbhemiimdfhjbaaGreatDoorAb25
import Derived.Test.YtbhemiimdfhjbaaGreatDoorChecked
namespace Go.Proofs.YtbhemiimdfhjbaaGreatDoor.Tr
open Go Go.Ab Go.RowKit
variable {Γ : Nat → AV}
attribute [local irreducible] APure Sto.set Sto.grow
set_option maxRecDepth 10000

abbrev Idn := List UInt8 × Int × Int
abbrev Vl := Int × Int × List UInt8 × Bool
abbrev Ex := Int × Int × Int × List UInt8 × Vl × Int × Int
abbrev Ar := Int × List UInt8 × Vl × Int × Int
abbrev Sy := List UInt8 × List Ar × Int × Int
abbrev De := Idn × List Int
abbrev Qu := Bool × Idn × Int
abbrev Fr := Idn × Vl
abbrev St := Idn × Bool × Bool
abbrev Se := Idn × Int
abbrev Tn := Idn × Idn × Sy × List Ex × Int × List Se

instance decIdn : DecidableEq Idn := inferInstance
instance decVl : DecidableEq Vl := inferInstance
instance decVl2 : DecidableEq (Vl × Int × Int) := instDecidableEqProd
instance decAr2 : DecidableEq (List UInt8 × Vl × Int × Int) := instDecidableEqProd
instance decEx2 : DecidableEq (Int × List UInt8 × Vl × Int × Int) := instDecidableEqProd
instance decEx3 : DecidableEq (Int × Int × List UInt8 × Vl × Int × Int) := instDecidableEqProd
instance decEx : DecidableEq Ex := instDecidableEqProd
instance decAr : DecidableEq Ar := instDecidableEqProd
instance decSy : DecidableEq Sy := inferInstance
instance decSe : DecidableEq Se := inferInstance
instance decTn3 : DecidableEq (List Ex × Int × List Se) := inferInstance
instance decTn2 : DecidableEq (Sy × List Ex × Int × List Se) := instDecidableEqProd
instance decTn1 : DecidableEq (Idn × Sy × List Ex × Int × List Se) := instDecidableEqProd
instance decTn : DecidableEq Tn := instDecidableEqProd
instance decQu : DecidableEq Qu := inferInstance
instance decFr : DecidableEq Fr := instDecidableEqProd
instance decSt : DecidableEq St := inferInstance
instance decDe : DecidableEq De := instDecidableEqProd
instance decH5 : DecidableEq (List Fr × List St) := instDecidableEqProd
instance decH4 : DecidableEq (List Qu × List Fr × List St) := instDecidableEqProd
instance decH3 : DecidableEq (List (Idn × List Int) × List Qu × List Fr × List St) := instDecidableEqProd
instance decH2 : DecidableEq (Idn × List (Idn × List Int) × List Qu × List Fr × List St) := instDecidableEqProd
instance decH1 : DecidableEq (Idn × Idn × List (Idn × List Int) × List Qu × List Fr × List St) := instDecidableEqProd
def noIdn : Idn := ([], 0, 0)
def noVl : Vl := (0, 0, [], false)
def noEx : Ex := (0, 0, 0, [], noVl, 0, 0)
def noAr : Ar := (0, [], noVl, 0, 0)
def noSy : Nat × Sy := (1, [], [], 0, 0)
def noDe : Nat × De := (1, noIdn, [])
def noQu : Qu := (false, noIdn, 0)
def noFr : Fr := (noIdn, noVl)
def noSt : St := (noIdn, false, false)
def noSe : Se := (noIdn, 0)
def noTn : (Nat × Nat × Nat) × Tn := ((1, 1, 1), noIdn, noIdn, ([], [], 0, 0), [], 0, [])
def idnA (x : Idn) : List AV := [.str x.1, .int .i64 x.2.1, .int .i64 x.2.2]
def vlA (v : Vl) : List AV := [.int .i64 v.1, .int .i64 v.2.1, .str v.2.2.1, .bool v.2.2.2]
def exA (x : Ex) : List AV := [.int .i64 x.1, .int .i64 x.2.1, .int .i64 x.2.2.1, .str x.2.2.2.1, .int .i64 x.2.2.2.2.1.1, .int .i64 x.2.2.2.2.1.2.1, .str x.2.2.2.2.1.2.2.1, .bool x.2.2.2.2.1.2.2.2, .int .i64 x.2.2.2.2.2.1, .int .i64 x.2.2.2.2.2.2]
def arA (x : Ar) : List AV := [.int .i64 x.1, .str x.2.1, .int .i64 x.2.2.1.1, .int .i64 x.2.2.1.2.1, .str x.2.2.1.2.2.1, .bool x.2.2.1.2.2.2, .int .i64 x.2.2.2.1, .int .i64 x.2.2.2.2]
/-- A symbol, with the token of its arguments. -/
def syA (x : Nat × Sy) : List AV := [.str x.2.1, .slice x.1 (x.2.2.1.map arA), .int .i64 x.2.2.2.1, .int .i64 x.2.2.2.2]
def deA (x : Nat × De) : List AV := [.str x.2.1.1, .int .i64 x.2.1.2.1, .int .i64 x.2.1.2.2, .slice x.1 (intsA .i64 x.2.2)]
def quA (x : Qu) : List AV := [.bool x.1, .str x.2.1.1, .int .i64 x.2.1.2.1, .int .i64 x.2.1.2.2, .int .i64 x.2.2]
def frA (x : Fr) : List AV := [.str x.1.1, .int .i64 x.1.2.1, .int .i64 x.1.2.2, .int .i64 x.2.1, .int .i64 x.2.2.1, .str x.2.2.2.1, .bool x.2.2.2.2]
def stA (x : St) : List AV := [.str x.1.1, .int .i64 x.1.2.1, .int .i64 x.1.2.2, .bool x.2.1, .bool x.2.2]
def seA (x : Se) : List AV := [.str x.1.1, .int .i64 x.1.2.1, .int .i64 x.1.2.2, .int .i64 x.2]
/-- A transition, with the tokens of its symbol's arguments, its nodes and its sets. -/
def tnA (x : (Nat × Nat × Nat) × Tn) : List AV := [.str x.2.1.1, .int .i64 x.2.1.2.1, .int .i64 x.2.1.2.2, .str x.2.2.1.1, .int .i64 x.2.2.1.2.1, .int .i64 x.2.2.1.2.2,
  .str x.2.2.2.1.1, .slice x.1.1 (x.2.2.2.1.2.1.map arA), .int .i64 x.2.2.2.1.2.2.1, .int .i64 x.2.2.2.1.2.2.2,
  .slice x.1.2.1 (x.2.2.2.2.1.map exA), .int .i64 x.2.2.2.2.2.1, .slice x.1.2.2 (x.2.2.2.2.2.2.map seA)]

theorem eq_idn (x y : Idn) : (decide (x.1 = y.1) && (decide (x.2.1 = y.2.1) && (decide (x.2.2 = y.2.2) && true))) = decide (x = y) := by
  rw [Bool.eq_iff_iff]; simp [Prod.ext_iff]
theorem eq_vl (x y : Vl) : (decide (x.1 = y.1) && (decide (x.2.1 = y.2.1) && (decide (x.2.2.1 = y.2.2.1) && ((x.2.2.2 == y.2.2.2) && true)))) = decide (x = y) := by
  rw [Bool.eq_iff_iff]; simp [Prod.ext_iff]
theorem eq_ex (x y : Ex) : (decide (x.1 = y.1) && (decide (x.2.1 = y.2.1) && (decide (x.2.2.1 = y.2.2.1) && (decide (x.2.2.2.1 = y.2.2.2.1) && (decide (x.2.2.2.2.1.1 = y.2.2.2.2.1.1) && (decide (x.2.2.2.2.1.2.1 = y.2.2.2.2.1.2.1) && (decide (x.2.2.2.2.1.2.2.1 = y.2.2.2.2.1.2.2.1) && ((x.2.2.2.2.1.2.2.2 == y.2.2.2.2.1.2.2.2) && (decide (x.2.2.2.2.2.1 = y.2.2.2.2.2.1) && (decide (x.2.2.2.2.2.2 = y.2.2.2.2.2.2) && true)))))))))) = decide (x = y) := by
  rw [Bool.eq_iff_iff]; simp [Prod.ext_iff, and_assoc]
theorem eq_ar (x y : Ar) : (decide (x.1 = y.1) && (decide (x.2.1 = y.2.1) && (decide (x.2.2.1.1 = y.2.2.1.1) && (decide (x.2.2.1.2.1 = y.2.2.1.2.1) && (decide (x.2.2.1.2.2.1 = y.2.2.1.2.2.1) && ((x.2.2.1.2.2.2 == y.2.2.1.2.2.2) && (decide (x.2.2.2.1 = y.2.2.2.1) && (decide (x.2.2.2.2 = y.2.2.2.2) && true)))))))) = decide (x = y) := by
  rw [Bool.eq_iff_iff]; simp [Prod.ext_iff, and_assoc]
theorem eq_qu (x y : Qu) : ((x.1 == y.1) && (decide (x.2.1.1 = y.2.1.1) && (decide (x.2.1.2.1 = y.2.1.2.1) && (decide (x.2.1.2.2 = y.2.1.2.2) && (decide (x.2.2 = y.2.2) && true))))) = decide (x = y) := by
  rw [Bool.eq_iff_iff]; simp [Prod.ext_iff, and_assoc]
theorem eq_fr (x y : Fr) : (decide (x.1.1 = y.1.1) && (decide (x.1.2.1 = y.1.2.1) && (decide (x.1.2.2 = y.1.2.2) && (decide (x.2.1 = y.2.1) && (decide (x.2.2.1 = y.2.2.1) && (decide (x.2.2.2.1 = y.2.2.2.1) && ((x.2.2.2.2 == y.2.2.2.2) && true))))))) = decide (x = y) := by
  rw [Bool.eq_iff_iff]; simp [Prod.ext_iff, and_assoc]
theorem eq_st (x y : St) : (decide (x.1.1 = y.1.1) && (decide (x.1.2.1 = y.1.2.1) && (decide (x.1.2.2 = y.1.2.2) && ((x.2.1 == y.2.1) && ((x.2.2 == y.2.2) && true))))) = decide (x = y) := by
  rw [Bool.eq_iff_iff]; simp [Prod.ext_iff, and_assoc]
theorem eq_se (x y : Se) : (decide (x.1.1 = y.1.1) && (decide (x.1.2.1 = y.1.2.1) && (decide (x.1.2.2 = y.1.2.2) && (decide (x.2 = y.2) && true)))) = decide (x = y) := by
  rw [Bool.eq_iff_iff]; simp [Prod.ext_iff, and_assoc]

theorem bool_eq {a b : Bool} (h : a = b) : AV.bool a = .bool b := by rw [h]
theorem map_get {α : Type} {f : α → List AV} {l : List α} (d : α) {i : Nat} (h : i < l.length) : (l.map f).getD i [] = f (l.getD i d) := by
  simp [List.getD, h]
theorem getD_mem {α : Type} {l : List α} (d : α) {i : Nat} (h : i < l.length) : l.getD i d ∈ l := by
  simp [List.getD, h]
theorem drop_eq_iff {α : Type} [DecidableEq α] {a b : List α} {d : α} {i : Nat} (ha : i < a.length) (hb : i < b.length) :
    decide (a.drop i = b.drop i) = (decide (a.getD i d = b.getD i d) && decide (a.drop (i + 1) = b.drop (i + 1))) := by
  rw [List.drop_eq_getElem_cons ha, List.drop_eq_getElem_cons hb, ← Bool.decide_and]
  refine decide_eq_decide.2 ?_
  rw [List.cons.injEq]
  simp only [List.getD, List.getElem?_eq_getElem ha, List.getElem?_eq_getElem hb, Option.getD_some]
/-- Elements with something beside them that does not count. -/
theorem drop_keys {α β : Type} [DecidableEq β] {k : α → β} {a b : List α} {d : α} {i : Nat} (ha : i < a.length) (hb : i < b.length) :
    decide ((a.map k).drop i = (b.map k).drop i) = (decide (k (a.getD i d) = k (b.getD i d)) && decide ((a.map k).drop (i + 1) = (b.map k).drop (i + 1))) := by
  rw [drop_eq_iff (d := k d) (by rwa [List.length_map]) (by rwa [List.length_map])]
  simp [List.getD, ha, hb]
theorem keys_len {α β : Type} {k : α → β} {a b : List α} (h : a.map k = b.map k) : a.length = b.length := by
  have := congrArg List.length h
  rwa [List.length_map, List.length_map] at this
theorem bool_beq (a b : Bool) : (a == b) = decide (a = b) := by cases a <;> cases b <;> rfl

end Go.Proofs.YtbhemiimdfhjbaaGreatDoor.Tr
