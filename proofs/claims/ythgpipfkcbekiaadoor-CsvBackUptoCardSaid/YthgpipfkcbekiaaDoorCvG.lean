
/- Chapter 6: nobody's reader; row by row. -/
import Derived.Test.YthgpipfkcbekiaaDoorCvF
set_option linter.all false
namespace Go.Proofs.YthgpipfkcbekiaaDoor.Cv
open Go Go.Ab Go.RowKit
variable {Γ : Nat → AV}
attribute [local irreducible] APure Sto.set Sto.grow
set_option maxRecDepth 10000
set_option maxHeartbeats 1000000

theorem Rd.fresh {s : Sto} {br bp : Nat} {S : List UInt8} {a : Nat} {r : Int} {e : Int × Int × Int} (h : Rd s br bp S a r e) {b : Nat} (hb : s.bx b = none) (T : TypeId) (cs : List AV) : Rd (s.set b T cs) br bp S a r e :=
  ⟨(set_bx_other (ne_of_none h.rd hb)).trans h.rd, (set_bx_other (ne_of_none h.pl hb)).trans h.pl, h.ne⟩
theorem Rd.again {s : Sto} {br bp b : Nat} {S : List UInt8} {a : Nat} {r : Int} {e : Int × Int × Int} (h : Rd s br bp S a r e) (h1 : br ≠ b) (h2 : bp ≠ b) (T : TypeId) (cs : List AV) : Rd (s.set b T cs) br bp S a r e :=
  ⟨(set_bx_other h1).trans h.rd, (set_bx_other h2).trans h.pl, h.ne⟩
end Go.Proofs.YthgpipfkcbekiaaDoor.Cv
