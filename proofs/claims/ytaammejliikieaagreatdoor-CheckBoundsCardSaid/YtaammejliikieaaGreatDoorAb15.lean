/- Loops; calls by B6h. -/
import Derived.Test.YtaammejliikieaaGreatDoorAb14
set_option maxRecDepth 10000
set_option maxHeartbeats 60000000
set_option linter.all false
namespace Go.Ab
open Go
def updL (e:Env):List Nat→List AV→Env
 | i::S,v::vs=>upd (updL e S vs) i v
 | _,_=>e
def havoc (e:Env) (J:List Nat) (x:Env):Env:=fun i=>bif J.elem i then x i else e i
def L0 (M:List Nat) (e e':Env):Prop:=∀ i,M.elem i=false→e' i=e i
theorem L0.refl (M:List Nat) (e:Env):L0 M e e:=fun _ _=>rfl
theorem L0.upd {M:List Nat} {e e':Env} {d:Nat} {v:AV} (h:M.elem d=true) (k:L0 M e e'):L0 M e (upd e' d v):=fun i hi=>by
 unfold Ab.upd
 split
 ·rename_i hd;subst hd;rw [h] at hi;cases hi
 ·exact k i hi
theorem L0.havoc {M J:List Nat} {e e' x:Env} (h:J.all (M.elem ·)=true) (k:L0 M e e'):L0 M e (havoc e' J x):=fun i hi=>by
 unfold Ab.havoc
 cases hj:J.elem i with
 | false=>simpa using k i hi
 | true =>
  have:=List.all_eq_true.1 h i (by simpa using hj)
  rw [this] at hi;cases hi
theorem L0.updL {M:List Nat} {e e':Env}:∀ {S:List Nat} {vs:List AV},S.all (M.elem ·)=true→L0 M e e'→L0 M e (updL e' S vs)
 | [],_,_,k=>by simpa [Ab.updL] using k
 | i::S,[],_,k=>by simpa [Ab.updL] using k
 | i::S,v::vs,h,k=>by
  simp only [List.all_cons,Bool.and_eq_true] at h
  exact L0.upd h.1 (L0.updL h.2 k)
section
variable {P:Program} {Γ:Nat→AV} {n:Nat} {Q:Exit→Env→Sto→Prop} {e:Env} {s:Sto}
theorem B11:∀ (S:List Nat) (e':Env) (i:Nat),S.elem i=true→updL e S (S.map e') i=e' i
 | [],_,_,h=>by simp at h
 | j::S,e',i,h=>by
  simp only [List.map_cons,updL,upd]
  split
  ·rename_i hj;rw [hj]
  ·rename_i hj
   refine B11 S e' i ?_
   simpa [hj] using h
theorem B12:∀ (S:List Nat) (vs:List AV) (i:Nat),S.elem i=false→updL e S vs i=e i
 | [],_,_,_=>by simp [updL]
 | _::_,[],_,_=>by simp [updL]
 | j::S,v::vs,i,h=>by
  have h':¬ i=j∧S.elem i=false:=by simpa [not_or] using h
  simp only [updL,upd]
  rw [if_neg h'.1]
  exact B12 S vs i h'.2
theorem A2.pure {f:FuncId} {args:List AV} {φ:AV→Prop} {K:AV→Sto→Prop} (h:A8 P Γ f args φ) (hk:∀ v,φ v→K v s):A2 P Γ f args s K :=
 (h s).mono fun v s' ⟨h1,h2⟩=>by subst h2;exact hk v h1
theorem A2.by {f:FuncId} {args:List AV} {φ K:AV→Sto→Prop} (h:A2 P Γ f args s φ) (hk:∀ v s',φ v s'→K v s'):A2 P Γ f args s K:=h.mono hk
theorem D5 {a b:Int} (h:a=b) (h1:-9223372036854775808≤b) (h2:b≤9223372036854775807):IntKind.i64.wrap a=b:=by
 subst h;exact IntWalk.i64_in _ ⟨h1,h2⟩
theorem G2 {a b:Int} (h:a=b) (h1:-9223372036854775808≤b) (h2:b≤9223372036854775807):AV.int .i64 (IntKind.i64.wrap a)=.int .i64 b:=by
 rw [D5 h h1 h2]
theorem L4 {b:Nat} {T:TypeId} {cs:List AV} {K:TypeId→List AV→Prop} (h:K T cs):getB ((s.set b T cs).bx b) K:=by
 simp only [Sto.set,if_true,getB];exact h
theorem Q4 {b b':Nat} {T:TypeId} {cs:List AV} {K:TypeId→List AV→Prop} (hne:b'≠b) (h:getB (s.bx b') K):getB ((s.set b T cs).bx b') K:=by
 simp only [Sto.set,if_neg hne];exact h
theorem B5 {x:Option (TypeId × List AV)} {T:TypeId} {cs:List AV} {K:TypeId→List AV→Prop} (hx:x=some (T,cs)) (h:K T cs):getB x K:=by
 subst hx;exact h
theorem A3 {b:Nat} {T:TypeId} {cs:List AV}:(s.set b T cs).bx b=some (T,cs):=by simp [Sto.set]
theorem A4 {b b':Nat} {T:TypeId} {cs:List AV} (hne:b'≠b):(s.set b T cs).bx b'=s.bx b':=by simp [Sto.set,hne]
theorem A1 {b b':Nat} {x:TypeId × List AV} (h:s.bx b=some x) (h':s.bx b'=none):b≠b':=by rintro rfl;rw [h] at h';cases h'
theorem N0 {b b':Nat} {T:TypeId} {cs:List AV} (h:(s.set b T cs).bx b'=none):b'≠b∧s.bx b'=none:=by
 have hne:b'≠b:=by rintro rfl;rw [A3] at h;cases h
 exact ⟨hne,by rwa [A4 hne] at h⟩
end
end Go.Ab
