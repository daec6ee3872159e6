/- How structs are read: field by field. -/
import Derived.Test.YtcgobgnbpeageaaDoorAb23
set_option linter.all false
namespace Go.Ab
open Go

section
variable {P : Program} {bulk : ∀ H : Type, DataW H → Nat}

/-- The fields of a struct from cell o on. -/
def OpensF (P : Program) (fs : List Field) (o n : Nat) {α : Type} (av : α → List AV) (ok : α → Prop) : Prop :=
  ∀ (H : Type) (enc : TypeId × Value → H) (W : World) (fuel : Nat) (cs : List Value) (xs : List (DataW H × List MemPlace)),
    (fs.mapM fun f => DataW.trod enc P W 0 (fun _ => true) true fuel f.type ((cs.drop f.offset).take (P.cellsOf f.type))) = some xs →
    ∃ x, ok x ∧ RList (startG W) W (av x) ((cs.drop o).take n) ∧
      ∀ W', Kept W W' → (fs.mapM fun f => DataW.trod enc P W' 0 (fun b => decide (b < W.heap.size)) true fuel f.type ((cs.drop f.offset).take (P.cellsOf f.type))) = some xs

theorem OpensF.nil (o : Nat) : OpensF P [] o 0 (fun _ : Unit => []) (fun _ => True) := by
  intro H enc W fuel cs xs h
  exact ⟨(), trivial, by simp [RList_nil], fun _ _ => by simpa using h⟩
theorem OpensF.cons {f : Field} {fs : List Field} {o n k : Nat} {α β : Type} {av : α → List AV} {ok : α → Nat → Prop} {bv : β → List AV} {okb : β → Prop}
    (ho : f.offset = o) (hk : P.cellsOf f.type = k) (hf : Opens P bulk f.type av ok) (hs : OpensF P fs (o + k) n bv okb) :
    OpensF P (f :: fs) o (k + n) (fun x : α × β => av x.1 ++ bv x.2) (fun x => (∃ m, ok x.1 m) ∧ okb x.2) := by
  intro H enc W fuel cs xs h
  rw [List.mapM_cons] at h
  obtain ⟨y, hy, h⟩ := Option.bind_eq_some_iff.1 h
  obtain ⟨ys, hys, h⟩ := Option.bind_eq_some_iff.1 h
  simp only [Option.pure_def, Option.some.injEq] at h
  subst h
  obtain ⟨x, h1, h2, h3⟩ := hf H enc W fuel _ y.1 y.2 hy
  obtain ⟨z, k1, k2, k3⟩ := hs H enc W fuel cs ys hys
  refine ⟨(x, z), ⟨⟨_, h1⟩, k1⟩, ?_, fun W' K => ?_⟩
  · rw [ho, hk] at h2
    have e : (cs.drop o).take (k + n) = (cs.drop o).take k ++ (cs.drop (o + k)).take n := by rw [List.take_add, List.drop_drop]
    rw [e]
    exact RList_append h2 k2
  · rw [List.mapM_cons]
    rw [show DataW.trod enc P W' 0 (fun b => decide (b < W.heap.size)) true fuel f.type ((cs.drop f.offset).take (P.cellsOf f.type)) = some y from h3 W' K]
    rw [Option.bind_eq_bind, Option.bind_some, k3 W' K]
    rfl
theorem opens_struct {t : TypeId} {fs : Array Field} {n : Nat} {α : Type} {av : α → List AV} {ok : α → Prop} (ht : P.underlying t = some (.struct fs)) (hn : P.cellsOf t = n)
    (h : OpensF P fs.toList 0 n av ok) : Opens P bulk t av (fun x _ => ok x) := by
  intro H enc W fuel cs d ps htr
  cases fuel with
  | zero => simp [DataW.trod] at htr
  | succ fuel =>
    unfold DataW.trod at htr
    rw [ht] at htr
    simp only at htr
    split at htr
    · rename_i hl
      obtain ⟨xs, hxs, hx⟩ := Option.map_eq_some_iff.1 htr
      obtain ⟨x, h1, h2, h3⟩ := h H enc W fuel cs xs hxs
      refine ⟨x, h1, ?_, fun W' K => ?_⟩
      · have e : (cs.drop 0).take n = cs := by rw [List.drop_zero, List.take_of_length_le (by omega)]
        rwa [e] at h2
      · unfold DataW.trod
        rw [ht]
        simp only
        rw [if_pos hl, h3 W' K]
        exact htr ▸ (by rw [hxs])
    · cases htr
/-- The same, said of values of another make. -/
theorem Opens.map {t : TypeId} {α β : Type} {av : α → List AV} {ok : α → Nat → Prop} {bv : β → List AV} {okb : β → Nat → Prop} (ho : Opens P bulk t av ok) (f : α → β)
    (hf : ∀ x, bv (f x) = av x) (hok : ∀ x n, ok x n → okb (f x) n) : Opens P bulk t bv okb := by
  intro H enc W fuel cs d ps h
  obtain ⟨x, h1, h2, h3⟩ := ho H enc W fuel cs d ps h
  exact ⟨f x, hok x _ h1, by rw [hf]; exact h2, h3⟩
end
end Go.Ab
