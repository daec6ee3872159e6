/- What is known may be forgotten in the midst of a walk: values, boxes, the tokens of rows. -/
import Derived.Test.YtecjpdcoghfmiaaGreatDoorFg3
set_option linter.all false
namespace Go.Ab
open Go Go.RowKit
variable {P : Program} {Γ : Nat → AV}
/-- Memory that is as s says is as s' says. -/
def Weak (Γ : Nat → AV) (s s' : Sto) : Prop := ∀ G w, Mod Γ G s w → Mod Γ G s' w
theorem Weak.refl (s : Sto) : Weak Γ s s := fun _ _ h => h
theorem Weak.trans {a b c : Sto} (h : Weak Γ a b) (k : Weak Γ b c) : Weak Γ a c := fun G w hm => k G w (h G w hm)
theorem Weak.sub {s s' : Sto} (h : Sub s' s) : Weak Γ s s' := fun _ _ hm => hm.sub h
/-- What reads as a reads as b. -/
def Le (a b : AV) : Prop := ∀ G w v, R G w a v → R G w b v
theorem Le.refl (a : AV) : Le a a := fun _ _ _ h => h
theorem Le.of_eq {a b : AV} (h : a = b) : Le a b := by rw [h]; exact Le.refl b
theorem Le.trans {a b c : AV} (h : Le a b) (k : Le b c) : Le a c := fun G w v hr => k G w v (h G w v hr)
theorem Le.fg (a : AV) : Le a (fg a) := fun _ _ v h => R.fg a v h
theorem Le.slice0 (t : Nat) (es : List (List AV)) : Le (.slice t es) (.slice 0 es) := fun _ _ _ h => R_forget h
/-- The tokens in a slice's elements are forgotten, its own is not. -/
theorem Le.inner (t : Nat) (es : List (List AV)) : Le (.slice t es) (.slice t (fgE es)) := by
  intro G w v h
  unfold R at h ⊢
  refine ⟨h.1, ?_⟩
  rcases h.2 with ⟨he, a, cap, hv, h1, h2⟩ | ⟨b, o, cap, k, hv, h1, h2, h3, h4⟩
  · exact .inl ⟨by rw [he, fgE_nil], a, cap, hv, h1, h2⟩
  · exact .inr ⟨b, o, cap, k, by rw [fgE_len]; exact hv, by rw [fgE_len]; exact h1, (fun h => by rw [fgE_len]; exact h2 h), fgE_ne h3, RElems.fg es k b o h4⟩
theorem Le.inner' {t : Nat} {es es' : List (List AV)} (h : fgE es = es') : Le (.slice t es) (.slice t es') := h ▸ Le.inner t es
def LeL : List AV → List AV → Prop
  | [], [] => True
  | a :: l, b :: m => Le a b ∧ LeL l m
  | _, _ => False
theorem LeL.refl : ∀ l : List AV, LeL l l
  | [] => trivial
  | a :: l => ⟨Le.refl a, LeL.refl l⟩
theorem LeL.nil : LeL [] [] := trivial
theorem LeL.cons {a b : AV} {l m : List AV} (h : Le a b) (k : LeL l m) : LeL (a :: l) (b :: m) := ⟨h, k⟩
theorem LeL.run {G : Gh} {w : World} : ∀ {l m : List AV} {vs : List Value}, LeL l m → RList G w l vs → RList G w m vs
  | [], [], _, _, h => h
  | a :: l, b :: m, vs, hl, h => by
    obtain ⟨u, us, rfl, h1, h2⟩ := RList_cons.1 h
    exact RList_cons.2 ⟨u, us, rfl, hl.1 G w u h1, LeL.run hl.2 h2⟩
  | [], _ :: _, _, hl, _ => hl.elim
  | _ :: _, [], _, hl, _ => hl.elim
/-- Of a box less may be known. -/
theorem Weak.box {s : Sto} {b : Nat} {T : TypeId} {cs cs' : List AV} (hb : s.bx b = some (T, cs)) (h : LeL cs cs') : Weak Γ s (s.set b T cs') := by
  intro G w hm
  refine ⟨hm.glob, ?_, hm.dom, hm.live, hm.apart, hm.fin⟩
  intro c T' ds hc
  by_cases he : c = b
  · subst he
    rw [set_bx_same] at hc
    simp only [Option.some.injEq, Prod.mk.injEq] at hc
    obtain ⟨rfl, rfl⟩ := hc
    obtain ⟨h1, vs, h2, h3⟩ := hm.box c T cs hb
    exact ⟨h1, vs, h2, h.run h3⟩
  · rw [set_bx_other he] at hc
    exact hm.box c T' ds hc
section
variable {n : Nat} {Q : Exit → Env → Sto → Prop} {e : Env} {s : Sto}
theorem AWp.weak {c : Code} {s' : Sto} (h : Weak Γ s s') (k : AWp P Γ n c Q e s') : AWp P Γ n c Q e s :=
  ⟨fun G w a hm he => k.run G w a (h G w hm) he⟩
/-- The slots hold what reads as these. -/
def LeS (e : Env) : List Nat → List AV → Prop
  | [], [] => True
  | i :: S, v :: vs => Le (e i) v ∧ LeS e S vs
  | _, _ => False
theorem LeS.nil {e : Env} : LeS e [] [] := trivial
theorem LeS.cons {e : Env} {i : Nat} {S : List Nat} {v : AV} {vs : List AV} (h : Le (e i) v) (k : LeS e S vs) : LeS e (i :: S) (v :: vs) := ⟨h, k⟩
theorem LeS.env {G : Gh} {w : World} {e : Env} {a : Act} (he : EnvR G w n e a) : ∀ {S : List Nat} {vs : List AV}, LeS e S vs → EnvR G w n (updL e S vs) a
  | [], [], _ => by simpa [updL] using he
  | i :: S, v :: vs, h => by
    have ih := LeS.env he h.2
    refine ⟨ih.size, fun j => ?_, ih.defers⟩
    simp only [updL, upd]
    split
    · rename_i hj
      subst hj
      exact h.1 G w _ (he.at_ j)
    · exact ih.at_ j
  | [], _ :: _, h => h.elim
  | _ :: _, [], h => h.elim
theorem LeS.map {e : Env} : ∀ {S : List Nat} {vs : List AV}, S.Nodup → LeS e S vs → S.map (updL e S vs) = vs
  | [], [], _, _ => rfl
  | i :: S, v :: vs, hn, h => by
    obtain ⟨h1, h2⟩ := List.nodup_cons.1 hn
    rw [List.map_cons]
    refine cons_eq (by simp [updL, upd]) ?_
    have hm : S.map (updL e (i :: S) (v :: vs)) = S.map (updL e S vs) := List.map_congr_left fun j hj => by
      simp only [updL, upd]
      exact if_neg (fun (hji : j = i) => h1 (hji ▸ hj))
    rw [hm]
    exact LeS.map h2 h.2
  | [], _ :: _, _, h => h.elim
  | _ :: _, [], _, h => h.elim
theorem updL_same {e e' : Env} {M : List Nat} {S : List Nat} {vs : List AV} (hs : Same M e e') (h : S.all (M.elem ·) = true) : Same M e (updL e' S vs) := Same.updL h hs
/-- A LOOP whose rounds may forget. -/
theorem AWp.loopW {α : Type} {c : Code} (S J : List Nat) (vs : α → List AV) (I : α → Sto → Prop) (μ : α → Nat) (a0 : α) (s0 : Sto) (hok : okCode n c = true) (hnd : S.Nodup) (h0 : LeS e S (vs a0)) (hw : Weak Γ s s0) (hI : I a0 s0)
    (round : ∀ x a s', I a s' →
      awp P Γ n c (thenA (fun e' s'' => ∃ a' s3, LeS e' S (vs a') ∧ Same (S ++ J) e e' ∧ Weak Γ s'' s3 ∧ I a' s3 ∧ μ a' < μ a) Q) (updL (havoc e J x) S (vs a)) s') : AWp P Γ n (.loop c) Q e s := by
  refine ⟨fun G w ac hm he => ?_⟩
  have hall : S.all ((S ++ J).elem ·) = true := by
    rw [List.all_eq_true]
    intro i hi
    simp [hi]
  have key : ∀ m G1 w1 a1 e1 s1 a, μ a < m → I a s1 → S.map e1 = vs a → Same (S ++ J) e e1 → Mod Γ G1 s1 w1 → EnvR G1 w1 n e1 a1 → Ext G w G1 w1 →
      Code.rounds P c (fun x a' w' => ∃ e' s' G', Q x e' s' ∧ Mod Γ G' s' w' ∧ EnvR G' w' n e' a' ∧ Ext G w G' w') m a1 w1 := by
    intro m
    induction m with
    | zero => intro _ _ _ _ _ _ h; omega
    | succ m ih =>
      intro G1 w1 a1 e1 s1 a hmu hI1 hv hS hm1 he1 X1
      rw [rounds_succ]
      have hee : updL (havoc e J e1) S (vs a) = e1 := by
        rw [← hv]
        funext i
        cases hi : S.elem i with
        | true => exact updL_get S e1 i hi
        | false =>
          rw [updL_out S _ i hi]
          unfold havoc
          cases hj : J.elem i with
          | true => rfl
          | false =>
            refine (hS i ?_).symm
            have h1 : i ∉ S := by simpa using hi
            have h2 : i ∉ J := by simpa using hj
            simp [h1, h2]
      have hr := round e1 a s1 hI1
      rw [hee] at hr
      refine Code.wp_mono ?_ ((awp_ok c hok hr).run G1 w1 a1 hm1 he1)
      rintro x a' w' ⟨e', s', G', q, hm', he', X⟩
      cases x with
      | normal =>
        obtain ⟨b, s3, q1, q2, q3, q4, q5⟩ := q
        exact ih G' w' a' (updL e' S (vs b)) s3 b (by omega) q4 (LeS.map hnd q1) (updL_same q2 hall) (q3 G' w' hm') (q1.env he') (X1.trans X)
      | _ => exact ⟨e', s', G', q, hm', he', X1.trans X⟩
  exact wp_loop_rounds _ (key _ G w ac (updL e S (vs a0)) s0 a0 (Nat.lt_succ_self _) hI (LeS.map hnd h0) (updL_same (Same.refl _ _) hall) (hw G w hm) (h0.env he) (Ext.refl _ _))
end
/-- What a call does, from less that is known. -/
theorem ACalls.weak {f : FuncId} {args args' : List AV} {s s' : Sto} {φ : AV → Sto → Prop} (hw : Weak Γ s s') (ha : LeL args args') (h : ACalls P Γ f args' s' φ) : ACalls P Γ f args s φ :=
  ⟨fun G w vs hm hr => h.run G w vs (hw G w hm) (ha.run hr)⟩
/-- What a call does, more of it forgotten. -/
theorem ACalls.less {f : FuncId} {args : List AV} {s : Sto} {φ ψ : AV → Sto → Prop} (h : ACalls P Γ f args s φ) (hk : ∀ v s', φ v s' → ∃ v' s'', Le v v' ∧ Weak Γ s' s'' ∧ ψ v' s'') : ACalls P Γ f args s ψ :=
  ⟨fun G w vs hm hr => (h.run G w vs hm hr).mono fun _ _ ⟨v, av, s', G', he, hφ, hR, hM, hX⟩ => by
    obtain ⟨v', s'', h1, h2, h3⟩ := hk av s' hφ
    exact ⟨v, v', s'', G', he, h3, h1 G' _ v hR, h2 G' _ hM, hX⟩⟩
end Go.Ab
