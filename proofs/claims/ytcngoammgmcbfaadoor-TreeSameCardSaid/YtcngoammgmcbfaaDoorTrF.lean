/- Chapter 10: how trees are read. -/
import Derived.Test.YtcngoammgmcbfaaDoorTrE
namespace Go.Proofs.YtcngoammgmcbfaaDoor.Tr
open Go Go.Ab Go.RowKit
variable {bulk : ∀ H : Type, DataW H → Nat}

theorem opens_ints : Opens Tryd.prog bulk 46 (fun l : List Int => [.slice 0 (intsA .i64 l)]) (fun _ _ => True) :=
  (opens_slice (bulk := bulk) Tryd.underlying46 (k := 1) (by kernel_rfl) (by decide) (opens_int (bulk := bulk) Tryd.underlying3) (fun _ => rfl)).map (fun l => l) (fun _ => rfl) (fun _ _ _ => trivial)
theorem opens_idn : Opens Tryd.prog bulk 23 idnA (fun _ _ => True) :=
  (opens_struct (bulk := bulk) Tryd.underlying23 (by kernel_rfl)
    (OpensF.cons (bulk := bulk) (k := 1) rfl (by kernel_rfl) (opens_str (bulk := bulk) Tryd.underlying9) (OpensF.cons (bulk := bulk) (k := 1) rfl (by kernel_rfl) (opens_int (bulk := bulk) Tryd.underlying3) (OpensF.cons (bulk := bulk) (k := 1) rfl (by kernel_rfl) (opens_int (bulk := bulk) Tryd.underlying3) (OpensF.nil _))))).map (fun x => (x.1, x.2.1, x.2.2.1)) (fun _ => rfl) (fun _ _ _ => trivial)
theorem opens_vl : Opens Tryd.prog bulk 76 vlA (fun _ _ => True) :=
  (opens_struct (bulk := bulk) Tryd.underlying76 (by kernel_rfl)
    (OpensF.cons (bulk := bulk) (k := 1) rfl (by kernel_rfl) (opens_int (bulk := bulk) Tryd.underlying3) (OpensF.cons (bulk := bulk) (k := 1) rfl (by kernel_rfl) (opens_int (bulk := bulk) Tryd.underlying2) (OpensF.cons (bulk := bulk) (k := 1) rfl (by kernel_rfl) (opens_str (bulk := bulk) Tryd.underlying9) (OpensF.cons (bulk := bulk) (k := 1) rfl (by kernel_rfl) (opens_bool (bulk := bulk) Tryd.underlying4) (OpensF.nil _)))))).map (fun x => (x.1, x.2.1, x.2.2.1, x.2.2.2.1)) (fun _ => rfl) (fun _ _ _ => trivial)
theorem opens_ex : Opens Tryd.prog bulk 88 exA (fun _ _ => True) :=
  (opens_struct (bulk := bulk) Tryd.underlying88 (by kernel_rfl)
    (OpensF.cons (bulk := bulk) (k := 1) rfl (by kernel_rfl) (opens_int (bulk := bulk) Tryd.underlying3) (OpensF.cons (bulk := bulk) (k := 1) rfl (by kernel_rfl) (opens_int (bulk := bulk) Tryd.underlying3) (OpensF.cons (bulk := bulk) (k := 1) rfl (by kernel_rfl) (opens_int (bulk := bulk) Tryd.underlying3) (OpensF.cons (bulk := bulk) (k := 1) rfl (by kernel_rfl) (opens_str (bulk := bulk) Tryd.underlying9) (OpensF.cons (bulk := bulk) (k := 4) rfl (by kernel_rfl) (opens_vl) (OpensF.cons (bulk := bulk) (k := 1) rfl (by kernel_rfl) (opens_int (bulk := bulk) Tryd.underlying3) (OpensF.cons (bulk := bulk) (k := 1) rfl (by kernel_rfl) (opens_int (bulk := bulk) Tryd.underlying3) (OpensF.nil _))))))))).map (fun x => (x.1, x.2.1, x.2.2.1, x.2.2.2.1, x.2.2.2.2.1, x.2.2.2.2.2.1, x.2.2.2.2.2.2.1)) (fun _ => rfl) (fun _ _ _ => trivial)
theorem opens_ar : Opens Tryd.prog bulk 122 arA (fun _ _ => True) :=
  (opens_struct (bulk := bulk) Tryd.underlying122 (by kernel_rfl)
    (OpensF.cons (bulk := bulk) (k := 1) rfl (by kernel_rfl) (opens_int (bulk := bulk) Tryd.underlying3) (OpensF.cons (bulk := bulk) (k := 1) rfl (by kernel_rfl) (opens_str (bulk := bulk) Tryd.underlying9) (OpensF.cons (bulk := bulk) (k := 4) rfl (by kernel_rfl) (opens_vl) (OpensF.cons (bulk := bulk) (k := 1) rfl (by kernel_rfl) (opens_int (bulk := bulk) Tryd.underlying3) (OpensF.cons (bulk := bulk) (k := 1) rfl (by kernel_rfl) (opens_int (bulk := bulk) Tryd.underlying3) (OpensF.nil _))))))).map (fun x => (x.1, x.2.1, x.2.2.1, x.2.2.2.1, x.2.2.2.2.1)) (fun _ => rfl) (fun _ _ _ => trivial)
theorem opens_ars : Opens Tryd.prog bulk 80 (fun l : List Ar => [.slice 0 (l.map arA)]) (fun _ _ => True) :=
  (opens_slice (bulk := bulk) Tryd.underlying80 (k := 8) (by kernel_rfl) (by decide) opens_ar (fun _ => rfl)).map (fun l => l) (fun _ => rfl) (fun _ _ _ => trivial)
theorem opens_sy : Opens Tryd.prog bulk 82 syA (fun _ _ => True) :=
  (opens_struct (bulk := bulk) Tryd.underlying82 (by kernel_rfl)
    (OpensF.cons (bulk := bulk) (k := 1) rfl (by kernel_rfl) (opens_str (bulk := bulk) Tryd.underlying9) (OpensF.cons (bulk := bulk) (k := 1) rfl (by kernel_rfl) (opens_ars) (OpensF.cons (bulk := bulk) (k := 1) rfl (by kernel_rfl) (opens_int (bulk := bulk) Tryd.underlying3) (OpensF.cons (bulk := bulk) (k := 1) rfl (by kernel_rfl) (opens_int (bulk := bulk) Tryd.underlying3) (OpensF.nil _)))))).map (fun x => (0, x.1, x.2.1, x.2.2.1, x.2.2.2.1)) (fun _ => rfl) (fun _ _ _ => trivial)
theorem opens_de : Opens Tryd.prog bulk 74 deA (fun _ _ => True) :=
  (opens_struct (bulk := bulk) Tryd.underlying74 (by kernel_rfl)
    (OpensF.cons (bulk := bulk) (k := 3) rfl (by kernel_rfl) (opens_idn) (OpensF.cons (bulk := bulk) (k := 1) rfl (by kernel_rfl) (opens_ints) (OpensF.nil _)))).map (fun x => (0, x.1, x.2.1)) (fun _ => rfl) (fun _ _ _ => trivial)
theorem opens_qu : Opens Tryd.prog bulk 95 quA (fun _ _ => True) :=
  (opens_struct (bulk := bulk) Tryd.underlying95 (by kernel_rfl)
    (OpensF.cons (bulk := bulk) (k := 1) rfl (by kernel_rfl) (opens_bool (bulk := bulk) Tryd.underlying4) (OpensF.cons (bulk := bulk) (k := 3) rfl (by kernel_rfl) (opens_idn) (OpensF.cons (bulk := bulk) (k := 1) rfl (by kernel_rfl) (opens_int (bulk := bulk) Tryd.underlying3) (OpensF.nil _))))).map (fun x => (x.1, x.2.1, x.2.2.1)) (fun _ => rfl) (fun _ _ _ => trivial)
theorem opens_fr : Opens Tryd.prog bulk 78 frA (fun _ _ => True) :=
  (opens_struct (bulk := bulk) Tryd.underlying78 (by kernel_rfl)
    (OpensF.cons (bulk := bulk) (k := 3) rfl (by kernel_rfl) (opens_idn) (OpensF.cons (bulk := bulk) (k := 4) rfl (by kernel_rfl) (opens_vl) (OpensF.nil _)))).map (fun x => (x.1, x.2.1)) (fun _ => rfl) (fun _ _ _ => trivial)
theorem opens_st : Opens Tryd.prog bulk 99 stA (fun _ _ => True) :=
  (opens_struct (bulk := bulk) Tryd.underlying99 (by kernel_rfl)
    (OpensF.cons (bulk := bulk) (k := 3) rfl (by kernel_rfl) (opens_idn) (OpensF.cons (bulk := bulk) (k := 1) rfl (by kernel_rfl) (opens_bool (bulk := bulk) Tryd.underlying4) (OpensF.cons (bulk := bulk) (k := 1) rfl (by kernel_rfl) (opens_bool (bulk := bulk) Tryd.underlying4) (OpensF.nil _))))).map (fun x => (x.1, x.2.1, x.2.2.1)) (fun _ => rfl) (fun _ _ _ => trivial)
theorem opens_se : Opens Tryd.prog bulk 129 seA (fun _ _ => True) :=
  (opens_struct (bulk := bulk) Tryd.underlying129 (by kernel_rfl)
    (OpensF.cons (bulk := bulk) (k := 3) rfl (by kernel_rfl) (opens_idn) (OpensF.cons (bulk := bulk) (k := 1) rfl (by kernel_rfl) (opens_int (bulk := bulk) Tryd.underlying3) (OpensF.nil _)))).map (fun x => (x.1, x.2.1)) (fun _ => rfl) (fun _ _ _ => trivial)
theorem opens_exs : Opens Tryd.prog bulk 83 (fun l : List Ex => [.slice 0 (l.map exA)]) (fun _ _ => True) :=
  (opens_slice (bulk := bulk) Tryd.underlying83 (k := 10) (by kernel_rfl) (by decide) opens_ex (fun _ => rfl)).map (fun l => l) (fun _ => rfl) (fun _ _ _ => trivial)
theorem opens_ses : Opens Tryd.prog bulk 84 (fun l : List Se => [.slice 0 (l.map seA)]) (fun _ _ => True) :=
  (opens_slice (bulk := bulk) Tryd.underlying84 (k := 4) (by kernel_rfl) (by decide) opens_se (fun _ => rfl)).map (fun l => l) (fun _ => rfl) (fun _ _ _ => trivial)
theorem opens_tn : Opens Tryd.prog bulk 86 tnA (fun _ _ => True) :=
  (opens_struct (bulk := bulk) Tryd.underlying86 (by kernel_rfl)
    (OpensF.cons (bulk := bulk) (k := 3) rfl (by kernel_rfl) (opens_idn) (OpensF.cons (bulk := bulk) (k := 3) rfl (by kernel_rfl) (opens_idn) (OpensF.cons (bulk := bulk) (k := 4) rfl (by kernel_rfl) (opens_sy) (OpensF.cons (bulk := bulk) (k := 1) rfl (by kernel_rfl) (opens_exs) (OpensF.cons (bulk := bulk) (k := 1) rfl (by kernel_rfl) (opens_int (bulk := bulk) Tryd.underlying3) (OpensF.cons (bulk := bulk) (k := 1) rfl (by kernel_rfl) (opens_ses) (OpensF.nil _)))))))).map (fun x => ((x.2.2.1.1, 0, 0), x.1, x.2.1, x.2.2.1.2, x.2.2.2.1, x.2.2.2.2.1, x.2.2.2.2.2.1)) (fun _ => rfl) (fun _ _ _ => trivial)
theorem opens_des : Opens Tryd.prog bulk 24 (fun l : List (Nat × De) => [.slice 0 (l.map deA)]) (fun _ _ => True) :=
  (opens_slice (bulk := bulk) Tryd.underlying24 (k := 4) (by kernel_rfl) (by decide) opens_de (fun _ => rfl)).map (fun l => l) (fun _ => rfl) (fun _ _ _ => trivial)
theorem opens_qus : Opens Tryd.prog bulk 25 (fun l : List Qu => [.slice 0 (l.map quA)]) (fun _ _ => True) :=
  (opens_slice (bulk := bulk) Tryd.underlying25 (k := 5) (by kernel_rfl) (by decide) opens_qu (fun _ => rfl)).map (fun l => l) (fun _ => rfl) (fun _ _ _ => trivial)
theorem opens_frs : Opens Tryd.prog bulk 26 (fun l : List Fr => [.slice 0 (l.map frA)]) (fun _ _ => True) :=
  (opens_slice (bulk := bulk) Tryd.underlying26 (k := 7) (by kernel_rfl) (by decide) opens_fr (fun _ => rfl)).map (fun l => l) (fun _ => rfl) (fun _ _ _ => trivial)
theorem opens_sts : Opens Tryd.prog bulk 27 (fun l : List St => [.slice 0 (l.map stA)]) (fun _ _ => True) :=
  (opens_slice (bulk := bulk) Tryd.underlying27 (k := 5) (by kernel_rfl) (by decide) opens_st (fun _ => rfl)).map (fun l => l) (fun _ => rfl) (fun _ _ _ => trivial)
theorem opens_sys : Opens Tryd.prog bulk 28 (fun l : List (Nat × Sy) => [.slice 0 (l.map syA)]) (fun _ _ => True) :=
  (opens_slice (bulk := bulk) Tryd.underlying28 (k := 4) (by kernel_rfl) (by decide) opens_sy (fun _ => rfl)).map (fun l => l) (fun _ => rfl) (fun _ _ _ => trivial)
theorem opens_tns : Opens Tryd.prog bulk 29 (fun l : List ((Nat × Nat × Nat) × Tn) => [.slice 0 (l.map tnA)]) (fun _ _ => True) :=
  (opens_slice (bulk := bulk) Tryd.underlying29 (k := 13) (by kernel_rfl) (by decide) opens_tn (fun _ => rfl)).map (fun l => l) (fun _ => rfl) (fun _ _ _ => trivial)
theorem opens_tr : Opens Tryd.prog bulk 31 (trA fun _ => 0) (fun _ _ => True) :=
  (opens_struct (bulk := bulk) Tryd.underlying31 (by kernel_rfl)
    (OpensF.cons (bulk := bulk) (k := 3) rfl (by kernel_rfl) (opens_idn) (OpensF.cons (bulk := bulk) (k := 1) rfl (by kernel_rfl) (opens_des) (OpensF.cons (bulk := bulk) (k := 1) rfl (by kernel_rfl) (opens_qus) (OpensF.cons (bulk := bulk) (k := 1) rfl (by kernel_rfl) (opens_frs) (OpensF.cons (bulk := bulk) (k := 1) rfl (by kernel_rfl) (opens_sts) (OpensF.cons (bulk := bulk) (k := 3) rfl (by kernel_rfl) (opens_idn) (OpensF.cons (bulk := bulk) (k := 1) rfl (by kernel_rfl) (opens_sys) (OpensF.cons (bulk := bulk) (k := 1) rfl (by kernel_rfl) (opens_tns) (OpensF.nil _)))))))))).map (fun x => (x.1, x.2.1, x.2.2.1, x.2.2.2.1, x.2.2.2.2.1, x.2.2.2.2.2.1, x.2.2.2.2.2.2.1, x.2.2.2.2.2.2.2.1)) (fun _ => rfl) (fun _ _ _ => trivial)
end Go.Proofs.YtcngoammgmcbfaaDoor.Tr
