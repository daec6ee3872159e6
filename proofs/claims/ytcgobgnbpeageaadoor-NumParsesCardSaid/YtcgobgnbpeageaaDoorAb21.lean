/- Aids: bytes of a text at a place; who owns a row that grows. -/
import Derived.Test.YtcgobgnbpeageaaDoorAb20
set_option linter.all false
namespace Go.Ab
open Go

theorem drop_byte {l : List UInt8} {i : Nat} (h : i < l.length) : l.drop i = byteAt l i :: l.drop (i + 1) := by
  rw [List.drop_eq_getElem_cons h]
  simp [byteAt, List.getD, h]
theorem drop_end {α : Type} {l : List α} {i : Nat} (h : ¬ i < l.length) : l.drop i = [] := List.drop_of_length_le (by omega)
theorem byteAt_drop (l : List UInt8) (i j : Nat) : byteAt (l.drop i) j = byteAt l (i + j) := by simp [byteAt, List.getD]
theorem take_byte {l : List UInt8} {i : Nat} (h : i < l.length) : l.take (i + 1) = l.take i ++ [byteAt l i] := by
  rw [List.take_add_one]
  simp [byteAt, List.getD, h]
theorem flatMap_len {α β : Type} (f : α → List β) (k : Nat) (hf : ∀ x, (f x).length ≤ k) : ∀ l : List α, (l.flatMap f).length ≤ k * l.length
  | [] => by simp
  | x :: l => by
    have h1 := hf x
    have h2 := flatMap_len f k hf l
    simp only [List.flatMap_cons, List.length_append, List.length_cons, Nat.mul_add]
    omega
theorem bytesA_get {l : List UInt8} {i : Nat} (h : i < l.length) : (bytesA l).getD i [] = [.int .u8 (byteAt l i).toNat] := by
  simp [bytesA, byteAt, List.getD, h]
theorem evA_glob {Γ : Nat → AV} {e : Env} {g : Nat} : evA Γ e (.global g) = Γ g := rfl
theorem unB_bytesA : ∀ l : List UInt8, unB (bytesA l) = some l
  | [] => rfl
  | b :: l => by
    have ih := unB_bytesA l
    simp only [bytesA, List.map_cons, unB] at ih ⊢
    rw [ih]
    simp [byteOfA]
theorem bytesA_all (l : List UInt8) : ∀ c ∈ bytesA l, c.length = 1 := by
  intro c hc
  obtain ⟨x, _, rfl⟩ := List.mem_map.1 hc
  rfl
theorem bytesA_len (l : List UInt8) : (bytesA l).length = l.length := by simp [bytesA]
theorem bytesA_append (l m : List UInt8) : bytesA (l ++ m) = bytesA l ++ bytesA m := by simp [bytesA]
theorem drop_take_all {α : Type} (l : List α) (i : Nat) : (l.take l.length).drop i = l.drop i := by simp
theorem u8_lt (b : UInt8) : b.toNat < 256 := b.toNat_lt

/-- What is of s is of s' yet, and the token's row is the call's own; z: nothing is in it. -/
structure Own (s s' : Sto) (z : Bool) (t : Nat) (e : TypeId) (k : Nat) : Prop where
  sub : Sub s s'
  own : (t = 1 ∧ z = true) ∨ (t ≠ 1 ∧ s'.lv t e k ∧ ∀ e k, ¬ s.lv t e k)

theorem Own.nil (s : Sto) (e : TypeId) (k : Nat) : Own s s true 1 e k := ⟨Sub.refl s, .inl ⟨rfl, rfl⟩⟩
theorem Own.start {s s' : Sto} (h : Sub s s') (e : TypeId) (k : Nat) : Own s s' true 1 e k := ⟨h, .inl ⟨rfl, rfl⟩⟩
theorem Own.may {s s' : Sto} {z : Bool} {t : Nat} {e : TypeId} {k : Nat} (h : Own s s' z t e k) : t = 1 ∨ s'.lv t e k := h.own.imp (·.1) (·.2.1)
/-- Behind an append. -/
theorem Own.grow {α : Type} {s s' : Sto} {z : Bool} {t t' : Nat} {e : TypeId} {k : Nat} {l : List α} (h : Own s s' z t e k) (h1 : (t' = 1 ∧ t = 1 ∧ l = []) ∨ (t' ≠ 1 ∧ (s'.grow t t' e k).lv t' e k)) (h2 : t' ≠ t → ∀ e' k', ¬ s'.lv t' e' k') :
    Own s (s'.grow t t' e k) (z && l.isEmpty) t' e k := by
  refine ⟨h.sub.grow (h.own.imp (·.1) fun x => x.2.2) t' e k, ?_⟩
  rcases h1 with ⟨h1, h3, rfl⟩ | ⟨h0, h1⟩
  · rcases h.own with ⟨_, hz⟩ | ⟨h', _⟩
    · exact .inl ⟨h1, by simp [hz]⟩
    · exact absurd h3 h'
  · refine .inr ⟨h0, h1, ?_⟩
    by_cases ht : t' = t
    · subst ht
      rcases h.own with h' | h'
      · exact absurd h'.1 h0
      · exact h'.2.2
    · exact fun e k hx => h2 ht e k (h.sub.lv _ _ _ hx)
theorem Own.set {s s' : Sto} {z : Bool} {t b : Nat} {e T : TypeId} {k : Nat} {cs : List AV} (h : Own s s' z t e k) (hb : s.bx b = none) : Own s (s'.set b T cs) z t e k :=
  ⟨h.sub.set hb T cs, h.own⟩
theorem getB_grow {s : Sto} {t t' b : Nat} {e : TypeId} {k : Nat} {K : TypeId → List AV → Prop} (h : getB (s.bx b) K) : getB ((s.grow t t' e k).bx b) K := h
theorem grow_bx {s : Sto} {t t' b : Nat} {e : TypeId} {k : Nat} : (s.grow t t' e k).bx b = s.bx b := rfl
theorem Own.of_sub {a s s' : Sto} {z : Bool} {t : Nat} {e : TypeId} {k : Nat} (h : Own s s' z t e k) (ha : Sub a s) : Own a s' z t e k :=
  ⟨ha.trans h.sub, h.own.imp id fun x => ⟨x.1, x.2.1, fun e k hx => x.2.2 e k (ha.lv _ _ _ hx)⟩⟩

theorem all_nil {α : Type} {p : α → Prop} : ∀ c ∈ ([] : List α), p c := fun _ h => nomatch h
theorem all_cons {α : Type} {p : α → Prop} {a : α} {l : List α} (h : p a) (k : ∀ c ∈ l, p c) : ∀ c ∈ a :: l, p c := List.forall_mem_cons.2 ⟨h, k⟩
theorem cons_eq {α : Type} {a b : α} {l m : List α} (h : a = b) (k : l = m) : a :: l = b :: m := by rw [h, k]
theorem int_eq {k : IntKind} {a b : Int} (h : a = b) : AV.int k a = .int k b := by rw [h]

section
variable {P : Program} {Γ : Nat → AV} {n : Nat} {Q : Exit → Env → Sto → Prop} {e : Env} {s : Sto}
theorem ACalls.pure' {f : FuncId} {args : List AV} {φ : AV → Prop} {K : AV → Sto → Prop} (hk : ∀ v, φ v → K v s) (h : APure P Γ f args φ) : ACalls P Γ f args s K := ACalls.pure h hk
theorem DCall.pure {f : FuncId} {args : List AV} {r : AV} {K : AV → Sto → Prop} (hk : K r s) (h : APure P Γ f args fun v => v = r) : DCall P Γ f args s K := ⟨r, h, hk⟩
/-- A LOOP whose rounds go through states of a type of their own. -/
theorem AWp.loopA {α : Type} {c : Code} (S J : List Nat) (vs : α → List AV) (I : α → Sto → Prop) (μ : α → Nat) (a0 : α) (hok : okCode n c = true) (h0 : S.map e = vs a0) (hI : I a0 s)
    (round : ∀ x a s', I a s' →
      awp P Γ n c (thenA (fun e' s'' => ∃ a', S.map e' = vs a' ∧ Same (S ++ J) e e' ∧ I a' s'' ∧ μ a' < μ a) Q) (updL (havoc e J x) S (vs a)) s') : AWp P Γ n (.loop c) Q e s := by
  refine ⟨fun G w ac hm he => ?_⟩
  have key : ∀ m G1 w1 a1 e1 s1 a, μ a < m → I a s1 → S.map e1 = vs a → Same (S ++ J) e e1 → Mod Γ G1 s1 w1 → EnvR G1 w1 n e1 a1 → Ext G w G1 w1 →
      Code.rounds P c (fun x a' w' => ∃ e' s' G', Q x e' s' ∧ Mod Γ G' s' w' ∧ EnvR G' w' n e' a' ∧ Ext G w G' w') m a1 w1 := by
    intro m
    induction m with
    | zero => intro _ _ _ _ _ _ h; omega
    | succ m ih =>
      intro G1 w1 a1 e1 s1 a hmu hI1 hv hS hm1 he1 X1
      rw [rounds_succ]
      have hee : updL (havoc e J e1) S (vs a) = e1 := by
        rw [← hv]
        funext i
        cases hi : S.elem i with
        | true => exact updL_get S e1 i hi
        | false =>
          rw [updL_out S _ i hi]
          unfold havoc
          cases hj : J.elem i with
          | true => rfl
          | false =>
            refine (hS i ?_).symm
            have h1 : i ∉ S := by simpa using hi
            have h2 : i ∉ J := by simpa using hj
            simp [h1, h2]
      have hr := round e1 a s1 hI1
      rw [hee] at hr
      refine Code.wp_mono ?_ ((awp_ok c hok hr).run G1 w1 a1 hm1 he1)
      rintro x a' w' ⟨e', s', G', q, hm', he', X⟩
      cases x with
      | normal =>
        obtain ⟨b, q1, q2, q3, q4⟩ := q
        exact ih G' w' a' e' s' b (by omega) q3 q1 q2 hm' he' (X1.trans X)
      | _ => exact ⟨e', s', G', q, hm', he', X1.trans X⟩
  exact wp_loop_rounds _ (key _ G w ac e s a0 (Nat.lt_succ_self _) hI h0 (Same.refl _ _) hm he (Ext.refl _ _))
end
end Go.Ab
