
/- Chapter 1: quotients; the example. -/
import Derived.Test.YtecjpdcoghfmiaaGreatDoorNuB
set_option linter.all false
namespace Go.Proofs.YtecjpdcoghfmiaaGreatDoor.Nu
open Go Go.Ab Go.RowKit
variable {Γ : Nat → AV}
attribute [local irreducible] APure Sto.set Sto.grow
set_option maxRecDepth 10000

/-- A quotient, toward nought. -/
def quo (a b : Int) : Int := if b = 0 then 0 else if b = -1 then val (0 - a) else IntKind.i64.wrap (a.tdiv b)
def quoErr (a b : Int) : Int := if b = 0 then 7 else if b = -1 then err (0 - a) else 0
def lft (a b : Int) : Int := if b = 0 then 0 else if b = -1 then 0 else a.tmod b
def lftErr (b : Int) : Int := if b = 0 then 7 else 0
end Go.Proofs.YtecjpdcoghfmiaaGreatDoor.Nu
