/- Loops; calls by contract. -/
import Derived.Test.YtcgobgnbpeageaaDoorAb14
set_option linter.all false
namespace Go.Ab
open Go

def updL (e : Env) : List Nat → List AV → Env
  | i :: S, v :: vs => upd (updL e S vs) i v
  | _, _ => e
/-- The slots of J may hold anything. -/
def havoc (e : Env) (J : List Nat) (x : Env) : Env := fun i => bif J.elem i then x i else e i
/-- But for the slots of M all is as it was. -/
def Same (M : List Nat) (e e' : Env) : Prop := ∀ i, M.elem i = false → e' i = e i
def natA : AV → Nat
  | .int _ n => n.toNat
  | _ => 0

theorem Same.refl (M : List Nat) (e : Env) : Same M e e := fun _ _ => rfl
theorem Same.upd {M : List Nat} {e e' : Env} {d : Nat} {v : AV} (h : M.elem d = true) (k : Same M e e') : Same M e (upd e' d v) := fun i hi => by
  unfold Ab.upd
  split
  · rename_i hd; subst hd; rw [h] at hi; cases hi
  · exact k i hi
theorem Same.havoc {M J : List Nat} {e e' x : Env} (h : J.all (M.elem ·) = true) (k : Same M e e') : Same M e (havoc e' J x) := fun i hi => by
  unfold Ab.havoc
  cases hj : J.elem i with
  | false => simpa using k i hi
  | true =>
    have := List.all_eq_true.1 h i (by simpa using hj)
    rw [this] at hi; cases hi
theorem Same.updL {M : List Nat} {e e' : Env} : ∀ {S : List Nat} {vs : List AV}, S.all (M.elem ·) = true → Same M e e' → Same M e (updL e' S vs)
  | [], _, _, k => by simpa [Ab.updL] using k
  | i :: S, [], _, k => by simpa [Ab.updL] using k
  | i :: S, v :: vs, h, k => by
    simp only [List.all_cons, Bool.and_eq_true] at h
    exact Same.upd h.1 (Same.updL h.2 k)

section
variable {P : Program} {Γ : Nat → AV} {n : Nat} {Q : Exit → Env → Sto → Prop} {e : Env} {s : Sto}

theorem updL_get : ∀ (S : List Nat) (e' : Env) (i : Nat), S.elem i = true → updL e S (S.map e') i = e' i
  | [], _, _, h => by simp at h
  | j :: S, e', i, h => by
    simp only [List.map_cons, updL, upd]
    split
    · rename_i hj; rw [hj]
    · rename_i hj
      refine updL_get S e' i ?_
      simpa [hj] using h
theorem updL_out : ∀ (S : List Nat) (vs : List AV) (i : Nat), S.elem i = false → updL e S vs i = e i
  | [], _, _, _ => by simp [updL]
  | _ :: _, [], _, _ => by simp [updL]
  | j :: S, v :: vs, i, h => by
    have h' : ¬ i = j ∧ S.elem i = false := by simpa [not_or] using h
    simp only [updL, upd]
    rw [if_neg h'.1]
    exact updL_out S vs i h'.2

/-- A LOOP: S: the slots that it carries from round to round; J: those that it writes besides. -/
theorem AWp.loopS {c : Code} (S J : List Nat) (I : List AV → Sto → Prop) (μ : List AV → Sto → Nat) (hok : okCode n c = true) (h0 : I (S.map e) s)
    (round : ∀ x vs s', I vs s' →
      awp P Γ n c (thenA (fun e' s'' => I (S.map e') s'' ∧ μ (S.map e') s'' < μ vs s' ∧ Same (S ++ J) e e') Q) (updL (havoc e J x) S vs) s') : AWp P Γ n (.loop c) Q e s := by
  refine AWp.loop (fun e' s' => I (S.map e') s' ∧ Same (S ++ J) e e') (fun e' s' => μ (S.map e') s') ⟨h0, Same.refl _ _⟩ ?_
  rintro e1 s1 ⟨hI, hS⟩
  have he : updL (havoc e J e1) S (S.map e1) = e1 := by
    funext i
    cases hi : S.elem i with
    | true => exact updL_get S e1 i hi
    | false =>
      rw [updL_out S _ i hi]
      unfold havoc
      cases hj : J.elem i with
      | true => rfl
      | false =>
        refine (hS i ?_).symm
        have h1 : i ∉ S := by simpa using hi
        have h2 : i ∉ J := by simpa using hj
        simp [h1, h2]
  have := round e1 (S.map e1) s1 hI
  rw [he] at this
  refine (awp_ok c hok this).mono ?_
  intro x e' s' q
  cases x with
  | normal => exact ⟨⟨q.1, q.2.2⟩, q.2.1⟩
  | _ => exact q

theorem ACalls.pure {f : FuncId} {args : List AV} {φ : AV → Prop} {K : AV → Sto → Prop} (h : APure P Γ f args φ) (hk : ∀ v, φ v → K v s) : ACalls P Γ f args s K :=
  (h s).mono fun v s' ⟨h1, h2⟩ => by subst h2; exact hk v h1

theorem ACalls.by {f : FuncId} {args : List AV} {φ K : AV → Sto → Prop} (h : ACalls P Γ f args s φ) (hk : ∀ v s', φ v s' → K v s') : ACalls P Γ f args s K := h.mono hk

theorem i64_of {a b : Int} (h : a = b) (h1 : -9223372036854775808 ≤ b) (h2 : b ≤ 9223372036854775807) : IntKind.i64.wrap a = b := by
  subst h; exact IntWalk.i64_in _ ⟨h1, h2⟩
theorem int64_of {a b : Int} (h : a = b) (h1 : -9223372036854775808 ≤ b) (h2 : b ≤ 9223372036854775807) : AV.int .i64 (IntKind.i64.wrap a) = .int .i64 b := by
  rw [i64_of h h1 h2]

theorem getB_same {b : Nat} {T : TypeId} {cs : List AV} {K : TypeId → List AV → Prop} (h : K T cs) : getB ((s.set b T cs).bx b) K := by
  simp only [Sto.set, if_true, getB]; exact h
theorem getB_other {b b' : Nat} {T : TypeId} {cs : List AV} {K : TypeId → List AV → Prop} (hne : b' ≠ b) (h : getB (s.bx b') K) : getB ((s.set b T cs).bx b') K := by
  simp only [Sto.set, if_neg hne]; exact h
theorem getB_of {x : Option (TypeId × List AV)} {T : TypeId} {cs : List AV} {K : TypeId → List AV → Prop} (hx : x = some (T, cs)) (h : K T cs) : getB x K := by
  subst hx; exact h
theorem set_bx_same {b : Nat} {T : TypeId} {cs : List AV} : (s.set b T cs).bx b = some (T, cs) := by simp [Sto.set]
theorem set_bx_other {b b' : Nat} {T : TypeId} {cs : List AV} (hne : b' ≠ b) : (s.set b T cs).bx b' = s.bx b' := by simp [Sto.set, hne]
theorem ne_of_none {b b' : Nat} {x : TypeId × List AV} (h : s.bx b = some x) (h' : s.bx b' = none) : b ≠ b' := by rintro rfl; rw [h] at h'; cases h'
theorem none_set {b b' : Nat} {T : TypeId} {cs : List AV} (h : (s.set b T cs).bx b' = none) : b' ≠ b ∧ s.bx b' = none := by
  have hne : b' ≠ b := by rintro rfl; rw [set_bx_same] at h; cases h
  exact ⟨hne, by rwa [set_bx_other hne] at h⟩
end
end Go.Ab
