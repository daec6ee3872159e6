/- The operations that leave the store as it is are as the abstract ones say. -/
import Derived.Test.YticnkpgmmpenlaaGreatDoorAb4
set_option maxRecDepth 10000
set_option maxHeartbeats 60000000
set_option linter.all false
namespace Go.Ab
open Go
section
variable {P:Program} {Γ:Nat→AV} {G:Gh} {w:World}
theorem B8a {v:Value} {c:AV} (h:C0b v=some c):R G w c v:=by
 unfold C0b at h
 split at h<;>first|(cases h;done)|(injection h with h;subst h)
 ·exact E9.2 rfl
 ·exact G9.2 rfl
 ·rename_i s;rw [H9]
 ·exact P4.2 rfl
 ·unfold R;exact ⟨fun _ h=>absurd rfl h,.inl ⟨rfl,none,0,rfl,fun _=>rfl,fun _=>rfl⟩⟩
 ·exact R7.2 rfl
 ·exact A8d.2 rfl
theorem A50:∀ {vs:List Value} {cs:List AV},A5z vs=some cs→B6 G w cs vs
 | [],cs,h=>by simp only [A5z,Option.some.injEq] at h;subst h;exact A9.2 rfl
 | v::vs,cs,h=>by
  simp only [A5z] at h
  split at h
  ·rename_i x xs h1 h2
   injection h with h;subst h
   exact A6.2 ⟨v,vs,rfl,B8a h1,A50 h2⟩
  ·cases h
theorem C44 {v:Value} {c:AV} (h:B3o v=some c):R G w c v:=by
 unfold B3o at h
 split at h
 ·rename_i cs
  simp only [Option.map_eq_some_iff] at h
  obtain ⟨xs,h1,rfl⟩:=h
  exact A41.2 ⟨cs,rfl,A50 h1⟩
 ·rename_i cs
  simp only [Option.map_eq_some_iff] at h
  obtain ⟨xs,h1,rfl⟩:=h
  exact A2a.2 ⟨cs,rfl,A50 h1⟩
 ·exact B8a h
theorem B44 {s:Sto} {n:Nat} {e:Env} {a:Act} (hm:Mod Γ G s w) (he:A1y G w n e a) {x:Operand} (hx:okX x=true):R G w (evA Γ e x) (a.eval x):=by
 cases x with
 | tmp t=>exact he.at_ t
 | const v =>
  simp only [okX,Option.isSome_iff_exists] at hx
  obtain ⟨c,hc⟩:=hx
  simp only [evA,Act.eval,hc,Option.getD_some]
  exact C44 hc
 | global g=>exact (hm.glob g).r
 | func f=>exact A9e.2 ⟨#[],#[],rfl,A9.2 rfl,A9.2 rfl⟩
theorem W9:∀ (k:Nat) (cs:List AV) (b o:Nat),C2 G w b o cs→C2 G w b (o+k) (cs.drop k)
 | 0,cs,b,o,h=>h
 | k+1,[],b,o,_=>by unfold C2;trivial
 | k+1,c::cs,b,o,h=>by
  unfold C2 at h
  have:=W9 k cs b (o+1) h.2.2
  rw [show o+1+k=o+(k+1) by omega] at this
  exact this
theorem A62:∀ (k:Nat) (cs:List AV) (b o:Nat),C2 G w b o cs→C2 G w b o (cs.take k)
 | 0,cs,b,o,_=>by rw [List.take_zero];unfold C2;trivial
 | k+1,[],b,o,_=>by unfold C2;trivial
 | k+1,c::cs,b,o,h=>by
  rw [List.take_succ_cons]
  unfold C2 at h ⊢
  exact ⟨h.1,h.2.1,A62 k cs b (o+1) h.2.2⟩
theorem A3o:∀ (cs:List AV) (b o:Nat),C2 G w b o cs→∃ us:List Value,us.length=cs.length∧B6 G w cs us∧∀ i v,us[i]?=some v→w.cell? ⟨b,o+i,none⟩=some v
 | [],b,o,_=>⟨[],rfl,A9.2 rfl,fun i v h=>by simp at h⟩
 | c::cs,b,o,h=>by
  unfold C2 at h
  obtain ⟨_,⟨u,hu,hr⟩,hs⟩:=h
  obtain ⟨us,hl,hR,hc⟩:=A3o cs b (o+1) hs
  refine ⟨u::us,by simp [hl],A6.2 ⟨u,us,rfl,hr,hR⟩,?_⟩
  intro i v hi
  cases i with
  | zero=>simp only [List.getElem?_cons_zero,Option.some.injEq] at hi;subst hi;exact hu
  | succ i =>
   have:=hc i v (by simpa using hi)
   rw [show o+1+i=o+(i+1) by omega] at this
   exact this
theorem D9:∀ {cs:List AV} {us:List Value},B6 G w cs us→us.length=cs.length
 | [],us,h=>by rw [A9.1 h];rfl
 | c::cs,us,h=>by
  obtain ⟨u,us',rfl,_,h2⟩:=A6.1 h
  simp [D9 h2]
theorem V1:∀ (k:Nat) {cs:List AV} {us:List Value},B6 G w cs us→B6 G w (cs.take k) (us.take k)
 | 0,cs,us,_=>by simp only [List.take_zero];exact A9.2 rfl
 | k+1,[],us,h=>by rw [A9.1 h];exact A9.2 rfl
 | k+1,c::cs,us,h=>by
  obtain ⟨u,us',rfl,h1,h2⟩:=A6.1 h
  exact A6.2 ⟨u,us'.take k,rfl,h1,V1 k h2⟩
theorem V0:∀ (k:Nat) {cs:List AV} {us:List Value},B6 G w cs us→B6 G w (cs.drop k) (us.drop k)
 | 0,cs,us,h=>h
 | k+1,[],us,h=>by rw [A9.1 h];exact A9.2 rfl
 | k+1,c::cs,us,h=>by
  obtain ⟨u,us',rfl,h1,h2⟩:=A6.1 h
  exact V0 k h2
theorem E5:∀ {cs:List AV} {us:List Value} {ds:List AV} {vs:List Value},B6 G w cs us→B6 G w ds vs→B6 G w (cs++ds) (us++vs)
 | [],us,ds,vs,h,k=>by rw [A9.1 h];exact k
 | c::cs,us,ds,vs,h,k=>by
  obtain ⟨u,us',rfl,h1,h2⟩:=A6.1 h
  exact A6.2 ⟨u,us'++vs,rfl,h1,E5 h2 k⟩
theorem A3g:∀ {cs:List AV} {us:List Value} {i:Nat} {c:AV},B6 G w cs us→cs[i]?=some c→∃ u,us[i]?=some u∧R G w c u
 | [],us,i,c,_,h=>by simp at h
 | d::cs,us,0,c,h,hi=>by
  obtain ⟨u,us',rfl,h1,h2⟩:=A6.1 h
  simp only [List.getElem?_cons_zero,Option.some.injEq] at hi
  subst hi
  exact ⟨u,rfl,h1⟩
 | d::cs,us,i+1,c,h,hi=>by
  obtain ⟨u,us',rfl,h1,h2⟩:=A6.1 h
  simp only [List.getElem?_cons_succ] at hi ⊢
  exact A3g h2 hi
theorem A1z {α:Type} {f:α→AV} {g:α→Value}:∀ (l:List α),(∀ x ∈ l,R G w (f x) (g x))→B6 G w (l.map f) (l.map g)
 | [],_=>A9.2 rfl
 | x::l,h=>A6.2 ⟨g x,l.map g,rfl,h x List.mem_cons_self,A1z l fun y hy=>h y (List.mem_cons_of_mem _ hy)⟩
theorem A8r {t:TypeId} {d:TypeDesc} (h:P.underlying t=some d):(isAgg t).run P w=.ok (A2s P t) w:=by
 simp only [isAgg,Sem.run_bind,B7 h,Result.andThen_ok,A2s,h]
 cases d<;>rfl
theorem F7 {t:TypeId} {i:TypeInfo} (h:P.info? t=some i):(sizeOf t).run P w=.ok i.size w:=by
 simp [sizeOf,typeInfo,h]
theorem C56 {t:TypeId} {n:Nat} (h:A73 P t=some (some n)):(∃ d,P.underlying t=some d)∧A2s P t=true∧∃ i,P.info? t=some i∧i.size=n:=by
 unfold A73 at h
 split at h
 ·cases h
 ·rename_i h0
  obtain ⟨i,hi,h⟩:=Option.map_eq_some_iff.1 h
  exact ⟨⟨_,h0⟩,by simp [A2s,h0],i,hi,by simpa using h⟩
 ·rename_i h0
  obtain ⟨i,hi,h⟩:=Option.map_eq_some_iff.1 h
  exact ⟨⟨_,h0⟩,by simp [A2s,h0],i,hi,by simpa using h⟩
 ·cases h
theorem B6v {t:TypeId} (h:A73 P t=some none):(∃ d,P.underlying t=some d)∧A2s P t=false:=by
 unfold A73 at h
 split at h
 ·cases h
 ·obtain ⟨i,hi,h⟩:=Option.map_eq_some_iff.1 h;cases h
 ·obtain ⟨i,hi,h⟩:=Option.map_eq_some_iff.1 h;cases h
 ·rename_i d h1 h2 h0
  refine ⟨⟨_,h0⟩,?_⟩
  unfold A2s
  rw [h0]
  split<;>simp_all
theorem X9 {t:TypeId} {cs:List AV} {us:List Value} {b o:Nat} {K:AV→Prop} (h:A3s P t cs K) (hR:B6 G w cs us)
  (hc:∀ i v,us[i]?=some v→w.cell? ⟨b,o+i,none⟩=some v) :
  ∃ v r,(loadVar t ⟨b,o,none⟩).run P w=.ok v w∧K r∧R G w r v:=by
 unfold A3s at h
 have hlen:=D9 hR
 cases hs:A73 P t with
 | none=>rw [hs] at h;exact h.elim
 | some sh =>
  rw [hs] at h
  cases sh with
  | some n =>
   obtain ⟨⟨d,hu⟩,hag,i,hi,hsz⟩:=C56 hs
   obtain ⟨hn,hK⟩:=h
   rw [D2] at hK
   refine ⟨.agg (us.take n).toArray,_,?_,hK,A41.2 ⟨_,rfl,by simpa using V1 n hR⟩⟩
   have hl:(us.take n).length=n:=by rw [List.length_take];omega
   have:=run_loadCells_list (P:=P) w ⟨b,o,none⟩ (us.take n) (fun j v hj=>by
    rw [Addr.add_lit]
    refine hc j v ?_
    rw [List.getElem?_take] at hj
    split at hj
    ·exact hj
    ·cases hj)
   rw [hl] at this
   simp only [loadVar,Sem.run_bind,A8r hu,hag,Result.andThen_ok,if_true,F7 hi,hsz,this,Sem.run_pure]
  | none =>
   obtain ⟨⟨d,hu⟩,hag⟩:=B6v hs
   cases cs with
   | nil=>exact h.elim
   | cons c cs =>
    obtain ⟨u,us',rfl,h1,h2⟩:=A6.1 hR
    refine ⟨u,c,?_,by simpa only [K3] using h,h1⟩
    have hc0:=hc 0 u rfl
    simp only [Nat.add_zero] at hc0
    simp [loadVar,Sem.run_bind,A8r hu,hag,hc0]
theorem A45 {s:Sto} (hm:Mod Γ G s w) {b:Nat} {T:TypeId} {cs:List AV} (hb:s.bx b=some (T,cs)) :
  ∃ us:List Value,B6 G w cs us∧∀ i,w.cell? ⟨b,i,none⟩=us[i]?:=by
 obtain ⟨_,vs,hh,hr⟩:=hm.box b T cs hb
 exact ⟨vs,hr,fun i=>by simp [World.cell?,hh]⟩
end
end Go.Ab
