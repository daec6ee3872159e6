/- Loops; calls by C19. -/
import Derived.Test.YticnkpgmmpenlaaGreatDoorAb14
set_option maxRecDepth 10000
set_option maxHeartbeats 60000000
set_option linter.all false
namespace Go.Ab
open Go
def updL (e:Env):List Nat→List AV→Env
 | i::S,v::vs=>upd (updL e S vs) i v
 | _,_=>e
def havoc (e:Env) (J:List Nat) (x:Env):Env:=fun i=>bif J.elem i then x i else e i
def M1 (M:List Nat) (e e':Env):Prop:=∀ i,M.elem i=false→e' i=e i
theorem M1.refl (M:List Nat) (e:Env):M1 M e e:=fun _ _=>rfl
theorem M1.upd {M:List Nat} {e e':Env} {d:Nat} {v:AV} (h:M.elem d=true) (k:M1 M e e'):M1 M e (upd e' d v):=fun i hi=>by
 unfold Ab.upd
 split
 ·rename_i hd;subst hd;rw [h] at hi;cases hi
 ·exact k i hi
theorem M1.havoc {M J:List Nat} {e e' x:Env} (h:J.all (M.elem ·)=true) (k:M1 M e e'):M1 M e (havoc e' J x):=fun i hi=>by
 unfold Ab.havoc
 cases hj:J.elem i with
 | false=>simpa using k i hi
 | true =>
  have:=List.all_eq_true.1 h i (by simpa using hj)
  rw [this] at hi;cases hi
theorem M1.updL {M:List Nat} {e e':Env}:∀ {S:List Nat} {vs:List AV},S.all (M.elem ·)=true→M1 M e e'→M1 M e (updL e' S vs)
 | [],_,_,k=>by simpa [Ab.updL] using k
 | i::S,[],_,k=>by simpa [Ab.updL] using k
 | i::S,v::vs,h,k=>by
  simp only [List.all_cons,Bool.and_eq_true] at h
  exact M1.upd h.1 (M1.updL h.2 k)
section
variable {P:Program} {Γ:Nat→AV} {n:Nat} {Q:Exit→Env→Sto→Prop} {e:Env} {s:Sto}
theorem C4j:∀ (S:List Nat) (e':Env) (i:Nat),S.elem i=true→updL e S (S.map e') i=e' i
 | [],_,_,h=>by simp at h
 | j::S,e',i,h=>by
  simp only [List.map_cons,updL,upd]
  split
  ·rename_i hj;rw [hj]
  ·rename_i hj
   refine C4j S e' i ?_
   simpa [hj] using h
theorem C4k:∀ (S:List Nat) (vs:List AV) (i:Nat),S.elem i=false→updL e S vs i=e i
 | [],_,_,_=>by simp [updL]
 | _::_,[],_,_=>by simp [updL]
 | j::S,v::vs,i,h=>by
  have h':¬ i=j∧S.elem i=false:=by simpa [not_or] using h
  simp only [updL,upd]
  rw [if_neg h'.1]
  exact C4k S vs i h'.2
theorem A0.pure {f:FuncId} {args:List AV} {φ:AV→Prop} {K:AV→Sto→Prop} (h:A5 P Γ f args φ) (hk:∀ v,φ v→K v s):A0 P Γ f args s K :=
 (h s).mono fun v s' ⟨h1,h2⟩=>by subst h2;exact hk v h1
theorem A0.by {f:FuncId} {args:List AV} {φ K:AV→Sto→Prop} (h:A0 P Γ f args s φ) (hk:∀ v s',φ v s'→K v s'):A0 P Γ f args s K:=h.mono hk
theorem C3 {a b:Int} (h:a=b) (h1:-9223372036854775808≤b) (h2:b≤9223372036854775807):IntKind.i64.wrap a=b:=by
 subst h;exact IntWalk.i64_in _ ⟨h1,h2⟩
theorem D4 {a b:Int} (h:a=b) (h1:-9223372036854775808≤b) (h2:b≤9223372036854775807):AV.int .i64 (IntKind.i64.wrap a)=.int .i64 b:=by
 rw [C3 h h1 h2]
theorem D8 {b:Nat} {T:TypeId} {cs:List AV} {K:TypeId→List AV→Prop} (h:K T cs):getB ((s.set b T cs).bx b) K:=by
 simp only [Sto.set,if_true,getB];exact h
theorem L7 {b b':Nat} {T:TypeId} {cs:List AV} {K:TypeId→List AV→Prop} (hne:b'≠b) (h:getB (s.bx b') K):getB ((s.set b T cs).bx b') K:=by
 simp only [Sto.set,if_neg hne];exact h
theorem A4 {x:Option (TypeId × List AV)} {T:TypeId} {cs:List AV} {K:TypeId→List AV→Prop} (hx:x=some (T,cs)) (h:K T cs):getB x K:=by
 subst hx;exact h
theorem A1 {b:Nat} {T:TypeId} {cs:List AV}:(s.set b T cs).bx b=some (T,cs):=by simp [Sto.set]
theorem A2 {b b':Nat} {T:TypeId} {cs:List AV} (hne:b'≠b):(s.set b T cs).bx b'=s.bx b':=by simp [Sto.set,hne]
theorem A3 {b b':Nat} {x:TypeId × List AV} (h:s.bx b=some x) (h':s.bx b'=none):b≠b':=by rintro rfl;rw [h] at h';cases h'
theorem D0 {b b':Nat} {T:TypeId} {cs:List AV} (h:(s.set b T cs).bx b'=none):b'≠b∧s.bx b'=none:=by
 have hne:b'≠b:=by rintro rfl;rw [A1] at h;cases h
 exact ⟨hne,by rwa [A2 hne] at h⟩
end
end Go.Ab
