/- How slices and structs are read. -/
import Derived.Test.YtaammejliikieaaGreatDoorAb22
set_option maxRecDepth 10000
set_option maxHeartbeats 60000000
set_option linter.all false
namespace Go.Ab
open Go
section
variable {P:Program} {bulk:∀ H:Type,DataW H→Nat} {α:Type} {av:α→List AV} {ok:α→Nat→Prop}
end
def G9 (k:IntKind) (l:List Int):List (List AV):=l.map fun n=>[.int k n]
theorem H8 (k:IntKind) (l:List Int):(G9 k l).length=l.length:=by simp [G9]
theorem A0t {k:IntKind} {l:List Int} {i:Nat} (h:i < l.length):(G9 k l).getD i []=[.int k (l.getD i 0)]:=by
 simp [G9,List.getD,h]
def J5 (l:List (List UInt8)):List (List AV):=l.map fun s=>[.str s]
theorem B3x (l:List (List UInt8)):(J5 l).length=l.length:=by simp [J5]
theorem B3w {l:List (List UInt8)} {i:Nat} (h:i < l.length):(J5 l).getD i []=[.str (l.getD i [])]:=by
 simp [J5,List.getD,h]
theorem B6i {l:List (List UInt8)} {i:Nat} (h:i < l.length):l.drop i=l.getD i []::l.drop (i+1):=by
 rw [List.drop_eq_getElem_cons h]
 simp [List.getD,h]
end Go.Ab
