/- Chapter 3: how values are read. -/
import Derived.Test.YtcgobgnbpeageaaGreatDoorVaE
set_option linter.all false
namespace Go.Proofs.YtcgobgnbpeageaaGreatDoor.Va
open Go Go.Ab Go.RowKit
variable {bulk : ∀ H : Type, DataW H → Nat}

theorem opens_vl : Opens Tryz.prog bulk 23 vlA (fun v _ => Nu.Fits v.2.1) :=
  (opens_struct (bulk := bulk) Tryz.underlying23 (by kernel_rfl)
    (OpensF.cons (bulk := bulk) (k := 1) rfl (by kernel_rfl) (opens_int (bulk := bulk) Tryz.underlying3) (OpensF.cons (bulk := bulk) (k := 1) rfl (by kernel_rfl) (opens_int (bulk := bulk) Tryz.underlying2) (OpensF.cons (bulk := bulk) (k := 1) rfl (by kernel_rfl) (opens_str (bulk := bulk) Tryz.underlying9) (OpensF.cons (bulk := bulk) (k := 1) rfl (by kernel_rfl) (opens_bool (bulk := bulk) Tryz.underlying4) (OpensF.nil _)))))).map (fun x => (x.1, x.2.1, x.2.2.1, x.2.2.2.1)) (fun _ => rfl) (fun _ _ h => h.2.1.elim fun _ h => Nu.fits_of h)
theorem opens_vls : Opens Tryz.prog bulk 35 (fun l : List Vl => [.slice 0 (l.map vlA)]) (fun _ _ => True) :=
  (opens_slice (bulk := bulk) Tryz.underlying35 (k := 4) (by kernel_rfl) (by decide) opens_vl (fun _ => rfl)).map (fun l => l) (fun _ => rfl) (fun _ _ _ => trivial)
end Go.Proofs.YtcgobgnbpeageaaGreatDoor.Va
