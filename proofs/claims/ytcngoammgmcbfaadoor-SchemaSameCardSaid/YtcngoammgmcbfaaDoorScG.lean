/- Chapter 7: declarations that stand behind an argument. -/
import Derived.Test.YtcngoammgmcbfaaDoorScC
import Derived.Test.YtcngoammgmcbfaaDoorAb24
namespace Go.Proofs.YtcngoammgmcbfaaDoor.Sc
open Go Go.Ab Go.RowKit
variable {bulk : ∀ H : Type, DataW H → Nat}

theorem opens_ints : Opens Tryd.prog bulk 46 (fun l : List Int => [.slice 0 (intsA .i64 l)]) (fun _ _ => True) :=
  (opens_slice (bulk := bulk) Tryd.underlying46 (k := 1) (by kernel_rfl) (by decide) (opens_int (bulk := bulk) Tryd.underlying3) (fun _ => rfl)).map (fun l => l) (fun _ => rfl) (fun _ _ _ => trivial)
theorem opens_decl : Opens Tryd.prog bulk 48 declC (fun _ _ => True) :=
  (opens_struct (bulk := bulk) Tryd.underlying48 (by kernel_rfl)
    (OpensF.cons (bulk := bulk) (k := 1) rfl (by kernel_rfl) (opens_str (bulk := bulk) Tryd.underlying9) (OpensF.cons (bulk := bulk) (k := 1) rfl (by kernel_rfl) opens_ints (OpensF.nil _)))).map (fun x => (x.1, 0, x.2.1)) (fun _ => rfl) (fun _ _ _ => trivial)
theorem opens_decls : Opens Tryd.prog bulk 38 (fun l : List D => [.slice 0 (declsA l)]) (fun _ _ => True) :=
  (opens_slice (bulk := bulk) Tryd.underlying38 (k := 2) (by kernel_rfl) (by decide) opens_decl (fun _ => rfl)).map (fun l => l) (fun _ => rfl) (fun _ _ _ => trivial)
end Go.Proofs.YtcngoammgmcbfaaDoor.Sc
