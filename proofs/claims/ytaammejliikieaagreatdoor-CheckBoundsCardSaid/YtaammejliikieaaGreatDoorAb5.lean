/- The operations that leave the store as it is are as the abstract ones say. -/
import Derived.Test.YtaammejliikieaaGreatDoorAb4
set_option maxRecDepth 10000
set_option maxHeartbeats 60000000
set_option linter.all false
namespace Go.Ab
open Go
section
variable {P:Program} {Γ:Nat→AV} {G:Gh} {w:World}
theorem B20 {v:Value} {c:AV} (h:B4f v=some c):R G w c v:=by
 unfold B4f at h
 split at h<;>first|(cases h;done)|(injection h with h;subst h)
 ·exact F5.2 rfl
 ·exact F7.2 rfl
 ·rename_i s;rw [M3]
 ·exact N8.2 rfl
 ·unfold R;exact ⟨fun _ h=>absurd rfl h,.inl ⟨rfl,none,0,rfl,fun _=>rfl,fun _=>rfl⟩⟩
 ·exact L6.2 rfl
 ·exact A4b.2 rfl
 ·exact A5f.2 rfl
theorem A2l:∀ {vs:List Value} {cs:List AV},A2k vs=some cs→B7 G w cs vs
 | [],cs,h=>by simp only [A2k,Option.some.injEq] at h;subst h;exact B4.2 rfl
 | v::vs,cs,h=>by
  simp only [A2k] at h
  split at h
  ·rename_i x xs h1 h2
   injection h with h;subst h
   exact A9.2 ⟨v,vs,rfl,B20 h1,A2l h2⟩
  ·cases h
theorem B0b {v:Value} {c:AV} (h:A6c v=some c):R G w c v:=by
 unfold A6c at h
 split at h
 ·rename_i cs
  simp only [Option.map_eq_some_iff] at h
  obtain ⟨xs,h1,rfl⟩:=h
  exact A1x.2 ⟨cs,rfl,A2l h1⟩
 ·rename_i cs
  simp only [Option.map_eq_some_iff] at h
  obtain ⟨xs,h1,rfl⟩:=h
  exact A0k.2 ⟨cs,rfl,A2l h1⟩
 ·exact B20 h
theorem B4p {s:Sto} {n:Nat} {e:Env} {a:Act} (hm:Mod Γ G s w) (he:Y6 G w n e a) {x:Operand} (hx:okX x=true):R G w (evA Γ e x) (a.eval x):=by
 cases x with
 | tmp t=>exact he.at_ t
 | const v =>
  simp only [okX,Option.isSome_iff_exists] at hx
  obtain ⟨c,hc⟩:=hx
  simp only [evA,Act.eval,hc,Option.getD_some]
  exact B0b hc
 | global g=>exact (hm.glob g).r
 | func f=>exact A5e.2 ⟨#[],#[],rfl,B4.2 rfl,B4.2 rfl⟩
theorem U2:∀ (k:Nat) (cs:List AV) (b o:Nat),C6 G w b o cs→C6 G w b (o+k) (cs.drop k)
 | 0,cs,b,o,h=>h
 | k+1,[],b,o,_=>by unfold C6;trivial
 | k+1,c::cs,b,o,h=>by
  unfold C6 at h
  have:=U2 k cs b (o+1) h.2.2
  rw [show o+1+k=o+(k+1) by omega] at this
  exact this
theorem A3f:∀ (k:Nat) (cs:List AV) (b o:Nat),C6 G w b o cs→C6 G w b o (cs.take k)
 | 0,cs,b,o,_=>by rw [List.take_zero];unfold C6;trivial
 | k+1,[],b,o,_=>by unfold C6;trivial
 | k+1,c::cs,b,o,h=>by
  rw [List.take_succ_cons]
  unfold C6 at h ⊢
  exact ⟨h.1,h.2.1,A3f k cs b (o+1) h.2.2⟩
theorem A2g:∀ (cs:List AV) (b o:Nat),C6 G w b o cs→∃ us:List Value,us.length=cs.length∧B7 G w cs us∧∀ i v,us[i]?=some v→w.cell? ⟨b,o+i,none⟩=some v
 | [],b,o,_=>⟨[],rfl,B4.2 rfl,fun i v h=>by simp at h⟩
 | c::cs,b,o,h=>by
  unfold C6 at h
  obtain ⟨_,⟨u,hu,hr⟩,hs⟩:=h
  obtain ⟨us,hl,hR,hc⟩:=A2g cs b (o+1) hs
  refine ⟨u::us,by simp [hl],A9.2 ⟨u,us,rfl,hr,hR⟩,?_⟩
  intro i v hi
  cases i with
  | zero=>simp only [List.getElem?_cons_zero,Option.some.injEq] at hi;subst hi;exact hu
  | succ i =>
   have:=hc i v (by simpa using hi)
   rw [show o+1+i=o+(i+1) by omega] at this
   exact this
theorem D8:∀ {cs:List AV} {us:List Value},B7 G w cs us→us.length=cs.length
 | [],us,h=>by rw [B4.1 h];rfl
 | c::cs,us,h=>by
  obtain ⟨u,us',rfl,_,h2⟩:=A9.1 h
  simp [D8 h2]
theorem Q3:∀ (k:Nat) {cs:List AV} {us:List Value},B7 G w cs us→B7 G w (cs.take k) (us.take k)
 | 0,cs,us,_=>by simp only [List.take_zero];exact B4.2 rfl
 | k+1,[],us,h=>by rw [B4.1 h];exact B4.2 rfl
 | k+1,c::cs,us,h=>by
  obtain ⟨u,us',rfl,h1,h2⟩:=A9.1 h
  exact A9.2 ⟨u,us'.take k,rfl,h1,Q3 k h2⟩
theorem Q2:∀ (k:Nat) {cs:List AV} {us:List Value},B7 G w cs us→B7 G w (cs.drop k) (us.drop k)
 | 0,cs,us,h=>h
 | k+1,[],us,h=>by rw [B4.1 h];exact B4.2 rfl
 | k+1,c::cs,us,h=>by
  obtain ⟨u,us',rfl,h1,h2⟩:=A9.1 h
  exact Q2 k h2
theorem E4:∀ {cs:List AV} {us:List Value} {ds:List AV} {vs:List Value},B7 G w cs us→B7 G w ds vs→B7 G w (cs++ds) (us++vs)
 | [],us,ds,vs,h,k=>by rw [B4.1 h];exact k
 | c::cs,us,ds,vs,h,k=>by
  obtain ⟨u,us',rfl,h1,h2⟩:=A9.1 h
  exact A9.2 ⟨u,us'++vs,rfl,h1,E4 h2 k⟩
theorem A0q:∀ {cs:List AV} {us:List Value} {i:Nat} {c:AV},B7 G w cs us→cs[i]?=some c→∃ u,us[i]?=some u∧R G w c u
 | [],us,i,c,_,h=>by simp at h
 | d::cs,us,0,c,h,hi=>by
  obtain ⟨u,us',rfl,h1,h2⟩:=A9.1 h
  simp only [List.getElem?_cons_zero,Option.some.injEq] at hi
  subst hi
  exact ⟨u,rfl,h1⟩
 | d::cs,us,i+1,c,h,hi=>by
  obtain ⟨u,us',rfl,h1,h2⟩:=A9.1 h
  simp only [List.getElem?_cons_succ] at hi ⊢
  exact A0q h2 hi
theorem Z1 {α:Type} {f:α→AV} {g:α→Value}:∀ (l:List α),(∀ x ∈ l,R G w (f x) (g x))→B7 G w (l.map f) (l.map g)
 | [],_=>B4.2 rfl
 | x::l,h=>A9.2 ⟨g x,l.map g,rfl,h x List.mem_cons_self,Z1 l fun y hy=>h y (List.mem_cons_of_mem _ hy)⟩
theorem A4r {t:TypeId} {d:TypeDesc} (h:P.underlying t=some d):(isAgg t).run P w=.ok (A0g P t) w:=by
 simp only [isAgg,Sem.run_bind,B6 h,Result.andThen_ok,A0g,h]
 cases d<;>rfl
theorem F3 {t:TypeId} {i:TypeInfo} (h:P.info? t=some i):(sizeOf t).run P w=.ok i.size w:=by
 simp [sizeOf,typeInfo,h]
theorem B9r {t:TypeId} {n:Nat} (h:A36 P t=some (some n)):(∃ d,P.underlying t=some d)∧A0g P t=true∧∃ i,P.info? t=some i∧i.size=n:=by
 unfold A36 at h
 split at h
 ·cases h
 ·rename_i h0
  obtain ⟨i,hi,h⟩:=Option.map_eq_some_iff.1 h
  exact ⟨⟨_,h0⟩,by simp [A0g,h0],i,hi,by simpa using h⟩
 ·rename_i h0
  obtain ⟨i,hi,h⟩:=Option.map_eq_some_iff.1 h
  exact ⟨⟨_,h0⟩,by simp [A0g,h0],i,hi,by simpa using h⟩
 ·cases h
theorem B1p {t:TypeId} (h:A36 P t=some none):(∃ d,P.underlying t=some d)∧A0g P t=false:=by
 unfold A36 at h
 split at h
 ·cases h
 ·obtain ⟨i,hi,h⟩:=Option.map_eq_some_iff.1 h;cases h
 ·obtain ⟨i,hi,h⟩:=Option.map_eq_some_iff.1 h;cases h
 ·rename_i d h1 h2 h0
  refine ⟨⟨_,h0⟩,?_⟩
  unfold A0g
  rw [h0]
  split<;>simp_all
theorem U8 {t:TypeId} {cs:List AV} {us:List Value} {b o:Nat} {K:AV→Prop} (h:A1y P t cs K) (hR:B7 G w cs us)
  (hc:∀ i v,us[i]?=some v→w.cell? ⟨b,o+i,none⟩=some v) :
  ∃ v r,(loadVar t ⟨b,o,none⟩).run P w=.ok v w∧K r∧R G w r v:=by
 unfold A1y at h
 have hlen:=D8 hR
 cases hs:A36 P t with
 | none=>rw [hs] at h;exact h.elim
 | some sh =>
  rw [hs] at h
  cases sh with
  | some n =>
   obtain ⟨⟨d,hu⟩,hag,i,hi,hsz⟩:=B9r hs
   obtain ⟨hn,hK⟩:=h
   rw [C8] at hK
   refine ⟨.agg (us.take n).toArray,_,?_,hK,A1x.2 ⟨_,rfl,by simpa using Q3 n hR⟩⟩
   have hl:(us.take n).length=n:=by rw [List.length_take];omega
   have:=run_loadCells_list (P:=P) w ⟨b,o,none⟩ (us.take n) (fun j v hj=>by
    rw [Addr.add_lit]
    refine hc j v ?_
    rw [List.getElem?_take] at hj
    split at hj
    ·exact hj
    ·cases hj)
   rw [hl] at this
   simp only [loadVar,Sem.run_bind,A4r hu,hag,Result.andThen_ok,if_true,F3 hi,hsz,this,Sem.run_pure]
  | none =>
   obtain ⟨⟨d,hu⟩,hag⟩:=B1p hs
   cases cs with
   | nil=>exact h.elim
   | cons c cs =>
    obtain ⟨u,us',rfl,h1,h2⟩:=A9.1 hR
    refine ⟨u,c,?_,by simpa only [F8] using h,h1⟩
    have hc0:=hc 0 u rfl
    simp only [Nat.add_zero] at hc0
    simp [loadVar,Sem.run_bind,A4r hu,hag,hc0]
theorem A13 {s:Sto} (hm:Mod Γ G s w) {b:Nat} {T:TypeId} {cs:List AV} (hb:s.bx b=some (T,cs)) :
  ∃ us:List Value,B7 G w cs us∧∀ i,w.cell? ⟨b,i,none⟩=us[i]?:=by
 obtain ⟨_,vs,hh,hr⟩:=hm.box b T cs hb
 exact ⟨vs,hr,fun i=>by simp [World.cell?,hh]⟩
end
end Go.Ab
