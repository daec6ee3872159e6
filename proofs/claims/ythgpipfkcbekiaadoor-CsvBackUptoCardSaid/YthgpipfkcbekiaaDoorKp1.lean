/- What a call leaves as it was: all boxes but some. -/
import Derived.Test.YthgpipfkcbekiaaDoorFg4
set_option linter.all false
namespace Go.Ab
open Go
/-- All boxes but those of B are as they were; live tokens are live. -/
structure Stays (B : Nat → Prop) (s s' : Sto) : Prop where
  bx : ∀ c z, ¬ B c → s.bx c = some z → s'.bx c = some z
  lv : ∀ t e k, s.lv t e k → s'.lv t e k
  sub : ∀ s0, Sub s0 s → (∀ c, B c → s0.bx c = none) → Sub s0 s'
theorem Stays.refl (B : Nat → Prop) (s : Sto) : Stays B s s := ⟨fun _ _ _ h => h, fun _ _ _ h => h, fun _ h _ => h⟩
theorem Stays.trans {B : Nat → Prop} {a b c : Sto} (h : Stays B a b) (k : Stays B b c) : Stays B a c :=
  ⟨fun d z hd hz => k.bx d z hd (h.bx d z hd hz), fun t e j ht => k.lv t e j (h.lv t e j ht), fun s0 hs hn => k.sub s0 (h.sub s0 hs hn) hn⟩
theorem Stays.wide {B C : Nat → Prop} {s s' : Sto} (h : Stays B s s') (hBC : ∀ c, B c → C c) : Stays C s s' :=
  ⟨fun d z hd hz => h.bx d z (fun hb => hd (hBC d hb)) hz, h.lv, fun s0 hs hn => h.sub s0 hs fun c hc => hn c (hBC c hc)⟩
theorem Stays.set {B : Nat → Prop} {s s' : Sto} (h : Stays B s s') {b : Nat} (hb : B b) (T : TypeId) (cs : List AV) : Stays B s (s'.set b T cs) :=
  ⟨fun d z hd hz => (set_bx_other (show d ≠ b from fun he => hd (by rw [he]; exact hb))).trans (h.bx d z hd hz), h.lv, fun s0 hs hn => (h.sub s0 hs hn).set (hn b hb) T cs⟩
theorem Stays.fresh {B : Nat → Prop} {s s' : Sto} (h : Stays B s s') {b : Nat} (hb : s.bx b = none) (T : TypeId) (cs : List AV) : Stays B s (s'.set b T cs) :=
  ⟨fun d z hd hz => (set_bx_other (ne_of_none hz hb)).trans (h.bx d z hd hz), h.lv, fun s0 hs hn => (h.sub s0 hs hn).set (hs.none hb) T cs⟩
theorem Stays.grow {B : Nat → Prop} {s s' : Sto} (h : Stays B s s') (t' : Nat) (e : TypeId) (k : Nat) : Stays B s (s'.grow 1 t' e k) :=
  ⟨h.bx, fun u e' k' hu => .inr ⟨h.lv u e' k' hu, .inr rfl⟩, fun s0 hs hn => (h.sub s0 hs hn).grow (.inl rfl) t' e k⟩
theorem Stays.own {B : Nat → Prop} {s0 s s' : Sto} {z : Bool} {t : Nat} {e : TypeId} {k : Nat} (h : Stays B s s') (ho : Own s0 s z t e k) (hn : ∀ c, B c → s0.bx c = none) : Own s0 s' z t e k :=
  ⟨h.sub s0 ho.sub hn, ho.own.imp id fun x => ⟨x.1, h.lv _ _ _ x.2.1, x.2.2⟩⟩
/-- One box, two boxes. -/
def B1 (a : Nat) : Nat → Prop := fun c => c = a
def B2 (a b : Nat) : Nat → Prop := fun c => c = a ∨ c = b
theorem B2.none {s : Sto} {a b : Nat} (h1 : s.bx a = none) (h2 : s.bx b = none) : ∀ c, B2 a b c → s.bx c = none := by
  rintro c (rfl | rfl)
  · exact h1
  · exact h2
end Go.Ab
