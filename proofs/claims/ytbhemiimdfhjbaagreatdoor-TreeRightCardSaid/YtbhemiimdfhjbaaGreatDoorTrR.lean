/- Chapter 10: which trees may be, in plain words; places do not count. No program in sight. -/
import Derived.Test.YtbhemiimdfhjbaaGreatDoorTrO
import Derived.Test.YtbhemiimdfhjbaaGreatDoorTrM
import Derived.Test.YtbhemiimdfhjbaaGreatDoorTrE
namespace Go.Proofs.YtbhemiimdfhjbaaGreatDoor.Tr
open Go Go.Ab Go.RowKit
set_option maxRecDepth 10000

def argB (a : Ar) : Bool :=
  if a.1 = 1 then decide (a.2.1 = []) && rightV a.2.2.1
  else if a.1 = 2 then Sc.isName a.2.1 && decide (a.2.2.1 = noVl)
  else decide (a.1 = 3) && (decide (a.2.1 = []) && decide (a.2.2.1 = noVl))
def symB (s : Nat × Sy) : Bool := Sc.isName s.2.1 && s.2.2.1.all argB
def kindB (k : Int) : Bool := decide (1 ≤ k) && decide (k ≤ 3)
def nameB (x : Idn) : Bool := Sc.isName x.1
/-- An expression begins at a place, ends with a node, and is not too deep. -/
def whB (l : List Ex) (f root : Int) : Bool := decide (f ≤ root) && (decide (root < l.length) && (decide ((nd Sc.isName l root.toNat).1 = root - f + 1) && decide ((nd Sc.isName l root.toNat).2 ≤ 64)))
/-- One expression behind the other, from a place on: where the last one ends. -/
def setsO (l : List Ex) : List Se → Int → Option Int
  | [], f => some f
  | x :: r, f => if (nameB x.1 && whB l f x.2) = true then setsO l r (x.2 + 1) else none
def guardO (l : List Ex) (g : Int) : Option Int := if g = -1 then some 0 else if whB l 0 g = true then some (g + 1) else none
def trB (x : (Nat × Nat × Nat) × Tn) : Bool :=
  nameB x.2.1 && (nameB x.2.2.1 && (symB (0, x.2.2.2.1) && decide ((guardO x.2.2.2.2.1 x.2.2.2.2.2.1).bind (setsO x.2.2.2.2.1 x.2.2.2.2.2.2) = some (x.2.2.2.2.1.length : Int))))
def rightB (x : Tr0) : Bool :=
  nameB x.1 && (nameB x.2.2.2.2.2.1 && (x.2.1.all (fun d => nameB d.2.1 && d.2.2.all kindB) && (x.2.2.1.all (fun q => nameB q.2.1 && kindB q.2.2) && (x.2.2.2.1.all (fun f => nameB f.1 && rightV f.2) &&
    (x.2.2.2.2.1.all (fun s => nameB s.1) && (x.2.2.2.2.2.2.1.all symB && x.2.2.2.2.2.2.2.all trB))))))

theorem pl_getD {l : List Ex} (i : Nat) : (l.map plEx).getD i noEx = plEx (l.getD i noEx) := by
  simp only [List.getD, List.getElem?_map]
  cases l[i]? <;> rfl
theorem pl_tab (nm : List UInt8 → Bool) (l : List Ex) : ∀ n, tab nm (l.map plEx) n = tab nm l n
  | 0 => rfl
  | n + 1 => by rw [tab, tab, pl_tab nm l n, pl_getD]; rfl
theorem pl_nd (nm : List UInt8 → Bool) (l : List Ex) (i : Nat) : nd nm (l.map plEx) i = nd nm l i := by
  unfold nd
  rw [pl_tab, List.length_map]
theorem pl_wh (l : List Ex) (f r : Int) : whB (l.map plEx) f r = whB l f r := by
  unfold whB
  rw [pl_nd, List.length_map]
theorem pl_sets (l : List Ex) : ∀ (s : List Se) (f : Int), setsO (l.map plEx) (s.map plSe) f = setsO l s f
  | [], f => rfl
  | x :: r, f => by
    rw [List.map_cons, setsO, setsO, pl_wh, pl_sets l r]
    rfl
theorem pl_guard (l : List Ex) (g : Int) : guardO (l.map plEx) g = guardO l g := by
  unfold guardO
  rw [pl_wh]
theorem all_of {α β : Type} {f : α → β} {p : β → Bool} {q : α → Bool} (h : ∀ x, p (f x) = q x) : ∀ l : List α, (l.map f).all p = l.all q
  | [] => rfl
  | x :: l => by rw [List.map_cons, List.all_cons, List.all_cons, h, all_of h l]
theorem pl_sym (s : Nat × Sy) : symB (plSy s) = symB s := by
  show (Sc.isName s.2.1 && (s.2.2.1.map plAr).all argB) = _
  rw [all_of (f := plAr) (p := argB) (q := argB) (fun _ => rfl)]
  rfl
theorem pl_tr (x : (Nat × Nat × Nat) × Tn) : trB (plTn x) = trB x := by
  have h1 := pl_sym (0, x.2.2.2.1)
  show (nameB x.2.1 && (nameB x.2.2.1 && (symB (plSy (0, x.2.2.2.1)) && decide ((guardO (x.2.2.2.2.1.map plEx) x.2.2.2.2.2.1).bind (setsO (x.2.2.2.2.1.map plEx) (x.2.2.2.2.2.2.map plSe)) = some (((x.2.2.2.2.1.map plEx).length : Nat) : Int))))) = _
  rw [h1, pl_guard, List.length_map, show setsO (x.2.2.2.2.1.map plEx) (x.2.2.2.2.2.2.map plSe) = setsO x.2.2.2.2.1 x.2.2.2.2.2.2 from funext (pl_sets _ _)]
  rfl
def plTr (x : Tr0) : Tr0 := (plIdn x.1, x.2.1.map plDe, x.2.2.1.map plQu, x.2.2.2.1.map plFr, x.2.2.2.2.1.map plSt, plIdn x.2.2.2.2.2.1, x.2.2.2.2.2.2.1.map plSy, x.2.2.2.2.2.2.2.map plTn)
theorem pl_right (x : Tr0) : rightB (plTr x) = rightB x := by
  show (nameB x.1 && (nameB x.2.2.2.2.2.1 && ((x.2.1.map plDe).all (fun d => nameB d.2.1 && d.2.2.all kindB) && ((x.2.2.1.map plQu).all (fun q => nameB q.2.1 && kindB q.2.2) && ((x.2.2.2.1.map plFr).all (fun f => nameB f.1 && rightV f.2) &&
    ((x.2.2.2.2.1.map plSt).all (fun s => nameB s.1) && ((x.2.2.2.2.2.2.1.map plSy).all symB && (x.2.2.2.2.2.2.2.map plTn).all trB))))))) = _
  rw [all_of (f := plDe) (p := fun d => nameB d.2.1 && d.2.2.all kindB) (q := fun d => nameB d.2.1 && d.2.2.all kindB) (fun _ => rfl) x.2.1,
    all_of (f := plQu) (p := fun q => nameB q.2.1 && kindB q.2.2) (q := fun q => nameB q.2.1 && kindB q.2.2) (fun _ => rfl) x.2.2.1,
    all_of (f := plFr) (p := fun f => nameB f.1 && rightV f.2) (q := fun f => nameB f.1 && rightV f.2) (fun _ => rfl) x.2.2.2.1,
    all_of (f := plSt) (p := fun s => nameB s.1) (q := fun s => nameB s.1) (fun _ => rfl) x.2.2.2.2.1, all_of pl_sym, all_of pl_tr]
  rfl
theorem pl_small {x : Tr0} (h : Small x) : Small (plTr x) := by
  obtain ⟨⟨h1, h2, h3, h4, h5, h6⟩, hd, hs, ht⟩ := h
  refine ⟨⟨by simpa [plTr] using h1, by simpa [plTr] using h2, by simpa [plTr] using h3, by simpa [plTr] using h4, by simpa [plTr] using h5, by simpa [plTr] using h6⟩, ?_, ?_, ?_⟩
  · intro d hm
    obtain ⟨z, hz, rfl⟩ := List.mem_map.1 (show d ∈ x.2.1.map plDe from hm)
    exact hd z hz
  · intro d hm
    obtain ⟨z, hz, rfl⟩ := List.mem_map.1 (show d ∈ x.2.2.2.2.2.2.1.map plSy from hm)
    show (z.2.2.1.map plAr).length ≤ 12
    rw [List.length_map]
    exact hs z hz
  · intro d hm
    obtain ⟨z, hz, rfl⟩ := List.mem_map.1 (show d ∈ x.2.2.2.2.2.2.2.map plTn from hm)
    show (z.2.2.2.1.2.1.map plAr).length ≤ 12 ∧ (z.2.2.2.2.1.map plEx).length ≤ 40 ∧ (z.2.2.2.2.2.2.map plSe).length ≤ 12
    rw [List.length_map, List.length_map, List.length_map]
    exact ht z hz
theorem pl_again (x : Tr0) : plTr (plTr x) = plTr x := by
  unfold plTr
  simp only [List.map_map]
  have e := fun {α : Type} (f : α → α) (h : ∀ z, f (f z) = f z) (l : List α) => show l.map (f ∘ f) = l.map f from List.map_congr_left fun z _ => h z
  rw [e plDe (fun _ => rfl), e plQu (fun _ => rfl), e plFr (fun _ => rfl), e plSt (fun _ => rfl)]
  have ea : ∀ z : Nat × Sy, plSy (plSy z) = plSy z := fun z => by unfold plSy; simp only [List.map_map]; rw [e plAr (fun _ => rfl)]
  rw [e plSy ea, e plTn]
  · rfl
  · intro z
    unfold plTn
    simp only [List.map_map]
    rw [e plEx (fun _ => rfl), e plSe (fun _ => rfl)]
    have := ea (0, z.2.2.2.1)
    unfold plSy at this ⊢
    simp only [List.map_map] at this ⊢
    rw [e plAr (fun _ => rfl)]
    rfl
end Go.Proofs.YtbhemiimdfhjbaaGreatDoor.Tr
