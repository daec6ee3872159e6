/- How slices and structs are read. -/
import Derived.Test.YtdhgappjicpglaaGreatDoorAb22
set_option linter.all false
namespace Go.Ab
open Go
section
variable {P : Program} {bulk : ∀ H : Type, DataW H → Nat} {α : Type} {av : α → List AV} {ok : α → Nat → Prop}
end
/-- Whole numbers as a slice's elements. -/
def intsA (k : IntKind) (l : List Int) : List (List AV) := l.map fun n => [.int k n]
theorem intsA_len (k : IntKind) (l : List Int) : (intsA k l).length = l.length := by simp [intsA]
theorem intsA_get {k : IntKind} {l : List Int} {i : Nat} (h : i < l.length) : (intsA k l).getD i [] = [.int k (l.getD i 0)] := by
  simp [intsA, List.getD, h]
theorem getD_mem {l : List Int} {i : Nat} (h : i < l.length) : l.getD i 0 ∈ l := by
  simp [List.getD, h]
/-- Texts as a slice's elements. -/
def strsA (l : List (List UInt8)) : List (List AV) := l.map fun s => [.str s]
theorem strsA_len (l : List (List UInt8)) : (strsA l).length = l.length := by simp [strsA]
theorem strsA_get {l : List (List UInt8)} {i : Nat} (h : i < l.length) : (strsA l).getD i [] = [.str (l.getD i [])] := by
  simp [strsA, List.getD, h]
theorem drop_str {l : List (List UInt8)} {i : Nat} (h : i < l.length) : l.drop i = l.getD i [] :: l.drop (i + 1) := by
  rw [List.drop_eq_getElem_cons h]
  simp [List.getD, h]
end Go.Ab
