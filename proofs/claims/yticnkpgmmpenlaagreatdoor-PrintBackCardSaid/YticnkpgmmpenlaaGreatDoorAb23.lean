/- How slices and structs are read. -/
import Derived.Test.YticnkpgmmpenlaaGreatDoorAb22
set_option maxRecDepth 10000
set_option maxHeartbeats 60000000
set_option linter.all false
namespace Go.Ab
open Go
theorem C6q {W:World} {a:Addr} {v:Value} (h:W.cell? a=some v):a.block < W.heap.size∧a.spot=none:=by
 unfold World.cell? at h
 split at h
 ·rename_i c T fr hb
  refine ⟨?_,?_⟩
  ·rcases Nat.lt_or_ge a.block W.heap.size with hh|hh
   ·exact hh
   ·rw [Array.getElem?_eq_none hh] at hb;cases hb
  ·cases hs:a.spot with
   | none=>rfl
   | some x=>rw [hs] at h;simp at h
 ·cases h
section
variable {P:Program} {bulk:∀ H:Type,DataW H→Nat} {α:Type} {av:α→List AV} {ok:α→Nat→Prop}
end
def G7 (k:IntKind) (l:List Int):List (List AV):=l.map fun n=>[.int k n]
theorem M8 (k:IntKind) (l:List Int):(G7 k l).length=l.length:=by simp [G7]
theorem A5e {k:IntKind} {l:List Int} {i:Nat} (h:i < l.length):(G7 k l).getD i []=[.int k (l.getD i 0)]:=by
 simp [G7,List.getD,h]
theorem E4 {l:List Int} {i:Nat} (h:i < l.length):l.getD i 0 ∈ l:=by
 simp [List.getD,h]
def B8 (l:List (List UInt8)):List (List AV):=l.map fun s=>[.str s]
theorem A14 (l:List (List UInt8)):(B8 l).length=l.length:=by simp [B8]
theorem B2j {l:List (List UInt8)} {i:Nat} (h:i < l.length):(B8 l).getD i []=[.str (l.getD i [])]:=by
 simp [B8,List.getD,h]
theorem C2e {l:List (List UInt8)} {i:Nat} (h:i < l.length):l.drop i=l.getD i []::l.drop (i+1):=by
 rw [List.drop_eq_getElem_cons h]
 simp [List.getD,h]
end Go.Ab
