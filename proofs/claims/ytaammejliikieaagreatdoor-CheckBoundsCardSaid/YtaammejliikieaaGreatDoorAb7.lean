/- The operations that leave the store as it is are as the abstract ones say. -/
import Derived.Test.YtaammejliikieaaGreatDoorAb6
set_option maxRecDepth 10000
set_option maxHeartbeats 60000000
set_option linter.all false
namespace Go.Ab
open Go
section
variable {P:Program} {Γ:Nat→AV} {G:Gh} {w:World}
def B91 (P:Program) (G:Gh) (w:World) (x:Sem Value) (K:AV→Prop):Prop:=∃ v r,x.run P w=.ok v w∧K r∧R G w r v
theorem A9t:∀ (es:List (List AV)) {k b o:Nat} (i:Nat),D1 G w k b o es→i < es.length→(es.getD i []).length=k∧C6 G w b (o+i * k) (es.getD i [])
 | [],k,b,o,i,_,h=>by simp at h
 | e::es,k,b,o,0,h,_=>by unfold D1 at h;simpa using ⟨h.1,h.2.1⟩
 | e::es,k,b,o,i+1,h,hi=>by
  unfold D1 at h
  have:=A9t es i h.2.2 (by simpa using hi)
  rw [show o+k+i * k=o+(i+1) * k by rw [Nat.succ_mul];omega] at this
  simpa using this
theorem A3g:∀ (i:Nat) (es:List (List AV)) {k b o:Nat},D1 G w k b o es→D1 G w k b (o+i * k) (es.drop i)
 | 0,es,k,b,o,h=>by simpa using h
 | i+1,[],k,b,o,_=>by unfold D1;trivial
 | i+1,e::es,k,b,o,h=>by
  unfold D1 at h
  have:=A3g i es h.2.2
  rw [show o+k+i * k=o+(i+1) * k by rw [Nat.succ_mul];omega] at this
  exact this
theorem A3h:∀ (i:Nat) (es:List (List AV)) {k b o:Nat},D1 G w k b o es→D1 G w k b o (es.take i)
 | 0,es,k,b,o,h=>by rw [List.take_zero];unfold D1;trivial
 | i+1,[],k,b,o,_=>by unfold D1;trivial
 | i+1,e::es,k,b,o,h=>by
  rw [List.take_succ_cons]
  unfold D1 at h ⊢
  exact ⟨h.1,h.2.1,A3h i es h.2.2⟩
theorem W3 (k:Nat):∀ (n:Nat) (cs:List AV),(N9 k n cs).length=n
 | 0,_=>rfl
 | n+1,cs=>by simp [N9,W3 k n]
theorem A1n (k:Nat):∀ (n:Nat) (cs:List AV) {b o:Nat},C6 G w b o cs→n * k≤cs.length→D1 G w k b o (N9 k n cs)
 | 0,cs,b,o,_,_=>by unfold N9 D1;trivial
 | n+1,cs,b,o,h,hl=>by
  rw [Nat.succ_mul] at hl
  unfold N9 D1
  refine ⟨by rw [List.length_take];omega,A3f k cs b o h,A1n k n _ (U2 k cs b o h) (by rw [List.length_drop];omega)⟩
theorem U9:∀ (es:List (List AV)) {k b o:Nat},D1 G w k b o es→∃ us:List Value,us.length=es.length * k∧B7 G w es.flatten us∧∀ i v,us[i]?=some v→w.cell? ⟨b,o+i,none⟩=some v
 | [],k,b,o,_=>⟨[],by simp,B4.2 rfl,fun i v h=>by simp at h⟩
 | e::es,k,b,o,h=>by
  unfold D1 at h
  obtain ⟨us,h1,h2,h3⟩:=A2g e b o h.2.1
  obtain ⟨vs,k1,k2,k3⟩:=U9 es h.2.2
  refine ⟨us++vs,by rw [List.length_append,h1,k1,h.1,List.length_cons,Nat.succ_mul];omega,by rw [List.flatten_cons];exact E4 h2 k2,?_⟩
  intro i v hi
  by_cases hl:i < us.length
  ·rw [List.getElem?_append_left hl] at hi
   exact h3 i v hi
  ·rw [List.getElem?_append_right (by omega)] at hi
   have:=k3 _ v hi
   rw [h1,h.1] at this
   have hl':k≤i:=by rw [h1,h.1] at hl;omega
   rwa [show o+k+(i - k)=o+i by omega] at this
theorem N1 {t:TypeId} {e:TypeId} (h:L9 P t=some e):P.underlying t=some (.slice e):=by
 unfold L9 at h
 split at h
 ·rename_i x hx;injection h with h;subst h;exact hx
 ·cases h
theorem B4e {t:TypeId} {n:Nat} {e:TypeId} (h:B2b P t=some (n,e)):P.underlying t=some (.array n e):=by
 unfold B2b at h
 split at h
 ·rename_i n' x hx;injection h with h;injection h with h1 h2;subst h1 h2;exact hx
 ·cases h
theorem A4c {t:Nat} {es:List (List AV)} {v:Value}:R G w (.slice t es) v↔(t≠0→t≠1→v=G.tk t) ∧
      ((es=[]∧∃ a cap,v=.slice a 0 cap∧(t=1→cap=0)∧(a=none→cap=0)) ∨
       (∃ b o cap k,v=.slice (some ⟨b,o,none⟩) es.length cap∧es.length≤cap∧(t=1→cap=es.length)∧es≠[]∧D1 G w k b o es)):=by rw [R]
theorem L5 {t:Nat} {es:List (List AV)} {v:Value} (h:R G w (.slice t es) v):∃ a cap,v=.slice a es.length cap∧es.length≤cap∧(a=none→cap=0) ∧
  (es≠[]→∃ b o k,a=some ⟨b,o,none⟩∧D1 G w k b o es)∧(t=1→cap=es.length):=by
 obtain ⟨_,h⟩:=A4c.1 h
 rcases h with ⟨rfl,a,cap,rfl,h1,h2⟩|⟨b,o,cap,k,rfl,h1,h2,h3,h4⟩
 ·exact ⟨a,cap,rfl,Nat.zero_le _,h2,fun h=>absurd rfl h,h1⟩
 ·exact ⟨_,cap,rfl,h1,(fun h=>by cases h),fun _=>⟨b,o,k,rfl,h4⟩,h2⟩
theorem A51 {es:List (List AV)} {a:Option Addr} {cap:Nat} (h1:es.length≤cap) (h2:a=none→cap=0)
  (h4:es≠[]→∃ b o k,a=some ⟨b,o,none⟩∧D1 G w k b o es):R G w (.slice 0 es) (.slice a es.length cap):=by
 rw [A4c]
 refine ⟨fun h=>absurd rfl h,?_⟩
 by_cases he:es=[]
 ·subst he
  exact .inl ⟨rfl,a,cap,rfl,(fun h=>by cases h),h2⟩
 ·obtain ⟨b,o,k,rfl,h⟩:=h4 he
  exact .inr ⟨b,o,cap,k,rfl,h1,(fun h=>by cases h),he,h⟩
theorem B51 {es:List (List AV)} {a:Option Addr} {cap:Nat} (h1:es.length=cap) (h2:a=none→cap=0)
  (h4:es≠[]→∃ b o k,a=some ⟨b,o,none⟩∧D1 G w k b o es):R G w (.slice 1 es) (.slice a es.length cap):=by
 rw [A4c]
 refine ⟨fun _ h=>absurd rfl h,?_⟩
 by_cases he:es=[]
 ·subst he
  exact .inl ⟨rfl,a,cap,rfl,fun _=>by simpa using h1.symm,h2⟩
 ·obtain ⟨b,o,k,rfl,h⟩:=h4 he
  exact .inr ⟨b,o,cap,k,rfl,by omega,fun _=>h1.symm,he,h⟩
theorem A12 {lo:Option AV} {lv:Option Value} {d:Nat} {K:Nat→Prop} (h:N5 lo d K) (hr:(lo=none∧lv=none)∨∃ x v,lo=some x∧lv=some v∧R G w x v) :
  (lo=none∧lv=none∧K d)∨∃ k n,lv=some (.int k n)∧lo≠none∧0≤n∧K n.toNat:=by
 rcases hr with ⟨rfl,rfl⟩|⟨x,v,rfl,rfl,hr⟩
 ·exact .inl ⟨rfl,rfl,h⟩
 ·cases x<;>try exact h.elim
  rw [F5] at hr;subst hr
  exact .inr ⟨_,_,rfl,by simp,h.1,h.2⟩
theorem A08 (isSlice:Bool) (len cap:Nat) {lo hi:Option AV} {lv hv:Option Value} {C:Nat→Nat→Prop} (h:N5 hi len fun h=>N5 lo 0 fun a=>C a h)
  (hh:(hi=none∧hv=none)∨∃ x v,hi=some x∧hv=some v∧R G w x v) (hl:(lo=none∧lv=none)∨∃ x v,lo=some x∧lv=some v∧R G w x v)
  (hc:∀ a h,C a h→a≤h∧h≤cap) :
  ∃ a h,C a h∧(Instr.sliceBounds isSlice len cap lv hv none).run P w=.ok (a,h,cap) w∧(lo=none→a=0)∧(hi=none→h=len):=by
 rcases A12 h hh with ⟨h1,rfl,h⟩|⟨k,n,rfl,h1,hn,h⟩
 ·rcases A12 h hl with ⟨l1,rfl,h⟩|⟨k',m,rfl,l1,hm,h⟩
  ·exact ⟨0,len,h,by simp [Instr.sliceBounds],fun _=>rfl,fun _=>rfl⟩
  ·have:=hc _ _ h
   refine ⟨m.toNat,len,h,?_,fun h=>absurd h l1,fun _=>rfl⟩
   simp only [Instr.sliceBounds,Sem.run_bind,Sem.run_pure,Result.andThen_ok,Option.isSome_none]
   rw [run_sliceBound w k' m len _ hm (by omega)];rfl
 ·rcases A12 h hl with ⟨l1,rfl,h⟩|⟨k',m,rfl,l1,hm,h⟩
  ·have:=hc _ _ h
   refine ⟨0,n.toNat,h,?_,fun _=>rfl,fun h=>absurd h h1⟩
   simp only [Instr.sliceBounds,Sem.run_bind,Sem.run_pure,Result.andThen_ok]
   rw [run_sliceBound w k n cap _ hn (by omega)];rfl
  ·have:=hc _ _ h
   refine ⟨m.toNat,n.toNat,h,?_,fun h=>absurd h l1,fun h=>absurd h h1⟩
   simp only [Instr.sliceBounds,Sem.run_bind,Sem.run_pure,Result.andThen_ok,Option.isSome_none]
   rw [run_sliceBound w k n cap _ hn (by omega)]
   simp only [Result.andThen_ok]
   rw [run_sliceBound w k' m n.toNat _ hm (by omega)];rfl
theorem B7p (len cap:Nat) {lo hi mx:Option AV} {lv hv mv:Option Value} {C:Nat→Nat→Nat→Prop} (h:N5 mx 0 fun m=>N5 hi 0 fun h=>N5 lo 0 fun a=>C a h m)
  (hmx:mx≠none) (hhi:hi≠none)
  (hm:(mx=none∧mv=none)∨∃ x v,mx=some x∧mv=some v∧R G w x v)
  (hh:(hi=none∧hv=none)∨∃ x v,hi=some x∧hv=some v∧R G w x v) (hl:(lo=none∧lv=none)∨∃ x v,lo=some x∧lv=some v∧R G w x v)
  (hc:∀ a h m,C a h m→a≤h∧h≤m∧m≤cap) :
  ∃ a h m,C a h m∧(Instr.sliceBounds true len cap lv hv mv).run P w=.ok (a,h,m) w:=by
 rcases A12 h hm with ⟨h0,_,_⟩|⟨km,nm,rfl,_,hnm,h⟩
 ·exact absurd h0 hmx
 rcases A12 h hh with ⟨h1,_,_⟩|⟨k,n,rfl,h1,hn,h⟩
 ·exact absurd h1 hhi
 rcases A12 h hl with ⟨l1,rfl,h⟩|⟨k',m,rfl,l1,hm',h⟩
 ·have:=hc _ _ _ h
  refine ⟨0,n.toNat,nm.toNat,h,?_⟩
  simp only [Instr.sliceBounds,Sem.run_bind,Sem.run_pure,Result.andThen_ok]
  rw [run_sliceBound w km nm cap _ hnm (by omega)]
  simp only [Result.andThen_ok]
  rw [run_sliceBound w k n nm.toNat _ hn (by omega)];rfl
 ·have:=hc _ _ _ h
  refine ⟨m.toNat,n.toNat,nm.toNat,h,?_⟩
  simp only [Instr.sliceBounds,Sem.run_bind,Sem.run_pure]
  rw [run_sliceBound w km nm cap _ hnm (by omega)]
  simp only [Result.andThen_ok]
  rw [run_sliceBound w k n nm.toNat _ hn (by omega)]
  simp only [Result.andThen_ok]
  rw [run_sliceBound w k' m n.toNat _ hm' (by omega)];rfl
end
end Go.Ab
