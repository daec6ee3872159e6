/- Part 1 of what the closing text needs: Fg1, Fg2, Fg3, Fg4, Kp1, Co1, Co2, Ix1, Shelf, ScA, ScB, QuA, Bd1, QuB, QuC, QuD, QuE, QuF, LxA, LxB, Sp1, LxC, LxD, LxE, AsO, LxF, LxG, LxH. No condition of mine beyond those that the theorems name. -/
import Derived.Test.YticnkpgmmpenlaaGreatDoorAb24
import Derived.Laws.AppendOwn
import Derived.Below
import Derived.Test.YticnkpgmmpenlaaGreatDoorChecked
import Derived.Lib.Bytealg
import Derived.Laws.Externs
import Derived.Shelf.Strings.Builder1
import Derived.Shelf.Strings.Builder2
import Derived.Shelf.Strings.OnBuilder
import Derived.Shelf.Strings.Trim
import Derived.Shelf.Small.Utf8
import Derived.Shelf.Small.Strs
import Derived.Shelf.Strings.BuilderF
import Derived.Shelf.Utf8.RuneCount
import Derived.Shelf.Strconv.Itoa0
import Derived.Shelf.Strconv.Itoa1
import Derived.Shelf.LaysM
import Derived.Shelf.Strconv.Itoa2
import Derived.Shelf.Strconv.Itoa3
import Derived.Shelf.Strconv.Itoa4
import Derived.Shelf.Strconv.ParseIntEmpty
import Derived.Shelf.Strconv.Clone
import Derived.Shelf.Strconv.SyntaxError
import Derived.Shelf.LaysC
import Derived.Shelf.Strconv.ToError
import Derived.Shelf.Strconv.Lower
import Derived.Shelf.Strconv.ParseUint10
import Derived.Shelf.Strconv.ParseUint10Empty
import Derived.Shelf.Strconv.ParseUint10Any
import Derived.Shelf.Strconv.ParseInt10
import Derived.Shelf.Strconv.RangeError
import Derived.Shelf.Strconv.ToErrorRange
import Derived.Shelf.Strconv.ParseUintEmpty
import Derived.Shelf.Strconv.ParseUint10b64
import Derived.Shelf.Strconv.ParseUint10b32
import Derived.Shelf.Strconv.ParseUint10b16
import Derived.Shelf.Strconv.ParseUint10b8
import Derived.Shelf.Strconv.ParseUint10At
import Derived.Shelf.Strconv.ParseInt10At64
import Derived.Shelf.Strconv.ParseInt10At32
import Derived.Shelf.Strconv.ParseInt10At16
import Derived.Shelf.Strconv.ParseInt10At8
import Derived.Shelf.Strconv.ParseInt10All
import Derived.Shelf.Strconv.ParseIntPublic10
import Derived.Shelf.Strconv.ErrVarParseInt
import Derived.Shelf.Strings.Search1
import Derived.Shelf.Strings.Search2
import Derived.Shelf.Strings.Search3
import Derived.Shelf.Strings.Count
import Derived.Shelf.Strings.Shaped
import Derived.Shelf.Strings.LastIndex
import Derived.Shelf.GgClosure.StringsIndexFunc
import Derived.Ground.GgwProg
import Derived.Shelf.GgClosure.StringsIndexFuncTop
import Derived.Shelf.GgClosure.StringsRunes
import Derived.Shelf.Strings.Prefix
import Derived.Shelf.Strings.Split
import Derived.Shelf.Strings.SplitShaped
import Derived.Shelf.Unicode.Decode
import Derived.Shelf.Strings.Runes
import Derived.Shelf.Strings.RuneCount
import Derived.Shelf.Strings.AsciiSet
import Derived.Shelf.Strings.Explode
import Derived.Shelf.Unicode.DecodeSlow
import Derived.Shelf.Unicode.DecodeAny
import Derived.Shelf.Unicode.DecodeLast
import Derived.Shelf.Slices.Turned
import Derived.Ground.Names2Prog
import Derived.Shelf.Slices.Clone
import Derived.Test.YticnkpgmmpenlaaGreatDoorProg
import Derived.Laws.RangeAny
import Derived.Lib.Builder
import Derived.Lib.UnsafeStr
import Derived.Shelf.RegionOpenPlain
import Derived.WalkKit
import Derived.LaidEql
import Derived.Stop.Asserts
import Derived.RowKitTokens
set_option maxRecDepth 10000
set_option maxHeartbeats 60000000
set_option linter.all false
namespace Go.Ab
open Go Go.RowKit
variable {P:Program} {Γ:Nat→AV}
theorem C1m {G:Gh} {w:World} {t:Nat} {es:List (List AV)} {v:Value} (h:R G w (.slice t es) v):R G w (.slice 0 es) v:=by
 unfold R at h ⊢
 refine ⟨fun h0=>absurd rfl h0,?_⟩
 rcases h.2 with ⟨he,a,cap,hv,_,h2⟩|⟨b,o,cap,k,hv,h1,_,h3⟩
 ·exact .inl ⟨he,a,cap,hv,(fun h=>by cases h),h2⟩
 ·exact .inr ⟨b,o,cap,k,hv,h1,(fun h=>by cases h),h3⟩
theorem B7.forget {f:FuncId} {args:List AV} {es:List (List AV)} (h:∀ s,A6 P Γ f args s fun v s'=>(∃ t,v=.slice t es)∧Sub s s'):B7 P Γ f args fun v=>v=.slice 0 es :=
 fun s=>⟨fun G w vs hm hr=>((h s).run G w vs hm hr).mono fun e w' ⟨v,av,s',G',he,⟨⟨t,ht⟩,hsub⟩,hR,hM,hX⟩ =>
  ⟨v,.slice 0 es,s,G',he,⟨rfl,rfl⟩,C1m (t:=t) (by rw [← ht];exact hR),hM.sub hsub,hX⟩⟩
def Gh.fix (G:Gh) (g:Nat):Gh:=⟨fun b=>if b=g then .fixd else G.kd b,G.tk⟩
theorem A9l {G:Gh} {w:World} {g:Nat} (hg:G.kd g=.fixd):∀ (cs:List AV) (us:List Value) (o:Nat),C9 G w cs us→(∀ j u,us[j]?=some u→w.cell? ⟨g,o+j,none⟩=some u)→D6 G w g o cs
 | [],us,o=>fun _ _=>by unfold D6;trivial
 | c::cs,us,o=>fun h hc=>by
  obtain ⟨u,us',rfl,hu,hs⟩:=B8.1 h
  unfold D6
  refine ⟨by unfold Gh.good;rw [hg];trivial,⟨u,hc 0 u rfl,hu⟩,A9l hg cs us' (o+1) hs fun j v hv=>?_⟩
  have:=hc (j+1) v (by simpa using hv)
  rwa [show o+(j+1)=o+1+j by omega] at this
theorem Gh.fix_ok {G:Gh} {s:Sto} {w w':World} {g:Nat} (hm:Mod Γ G s w) (hb:Below w.heap.size w w') (hg:w.heap.size≤g) (hlt:g < w'.heap.size):Mod Γ (G.fix g) s w'∧Ext G w (G.fix g) w':=by
 have other:∀ b,b < w.heap.size→(G.fix g).kd b=G.kd b:=fun b h=>if_neg (by omega)
 have hfree:G.kd g=.free:=by
  cases h:G.kd g with
  | free=>rfl
  | fixd=>exact absurd (hm.dom g (by rw [h];simp)) (by omega)
  | row n=>exact absurd (hm.dom g (by rw [h];simp)) (by omega)
 have X:Ext G w (G.fix g) w':=Ext.of_same hm hb.os hb.tape hb.output hb.size other (fun _ _=>rfl) fun k hk _=>hb.block k hk
 have kdrow:∀ b n,(G.fix g).kd b=.row n→G.kd b=.row n:=fun b n h=>by
  unfold Gh.fix at h
  by_cases he:b=g
  ·simp only [if_pos he] at h;cases h
  ·simpa only [if_neg he] using h
 have rowlt:∀ b n,G.kd b=.row n→b < w.heap.size:=fun b n h=>hm.dom b (by rw [h];simp)
 refine ⟨⟨fun x=>(hm.glob x).mono X,?_,?_,?_,?_,hm.fin⟩,X⟩
 ·intro b T cs hx
  obtain ⟨h1,vs,h2,h3⟩:=hm.box b T cs hx
  have hl:=A7m hm hx
  exact ⟨(other b hl).trans h1,vs,(hb.block b hl).trans h2,h3.mono X _ _⟩
 ·intro b hx
  by_cases he:b=g
  ·rw [he];exact hlt
  ·have:G.kd b≠.free:=fun h=>hx (by unfold Gh.fix;simp only [if_neg he];exact h)
   exact Nat.lt_of_lt_of_le (hm.dom b this) hb.size
 ·intro t e k ht
  obtain ⟨h0,h1,b,len,cap,c,h2,h3,h4,h5,h6⟩:=hm.live t e k ht
  have hl:=rowlt b _ h4
  exact ⟨h0,h1,b,len,cap,c,h2,h3,(other b hl).trans h4,(hb.block b hl).trans h5,h6⟩
 ·intro t u b e k e' k' ht hu h1 h2
  have back:∀ {t:Nat} {e:TypeId} {k:Nat},Top (G.fix g) w' t b e k→Top G w t b e k:=by
   rintro t e k ⟨len,cap,c,h2,h3,h4,h5,h6⟩
   have h4':=kdrow b _ h4
   exact ⟨len,cap,c,h2,h3,h4',(hb.block b (rowlt b _ h4')).symm.trans h5,h6⟩
  exact hm.apart t u b e k e' k' ht hu (back h1) (back h2)
theorem B7.of_row {f:FuncId} {args:List AV} {es:List (List AV)} {T:TypeId} {k:Nat} (hk:∀ c ∈ es,c.length=k)
  (h:∀ G w vs s,Mod Γ G s w→C9 G w args vs→∃ xs,C9 G w es.flatten xs∧Calls P f vs.toArray w fun e w'=>∃ v',e=.returned v'∧w'.ownsRow w.heap.size T k v' es.length xs∧Below w.heap.size w w') :
  B7 P Γ f args fun v=>v=.slice 0 es:=by
 intro s
 refine ⟨fun G w vs hm hr=>?_⟩
 obtain ⟨xs,hxs,hc⟩:=h G w vs s hm hr
 refine hc.mono ?_
 rintro e w' ⟨v',rfl,⟨hl,ho⟩,hb⟩
 by_cases hn:es=[]
 ·subst hn
  obtain ⟨m1,m2⟩:=hm.below hb
  refine ⟨v',_,s,G,rfl,⟨rfl,rfl⟩,?_,m1,m2⟩
  unfold R
  refine ⟨fun h0=>absurd rfl h0,.inl ⟨rfl,?_⟩⟩
  rcases ho with ⟨rfl,_⟩|⟨g,cap,cur,rfl,_⟩
  ·exact ⟨none,0,rfl,fun _=>rfl,fun _=>rfl⟩
  ·exact ⟨_,cap,rfl,(fun h=>by cases h),(fun h=>by cases h)⟩
 ·rcases ho with ⟨_,h0⟩|⟨g,cap,cur,rfl,hge,hh,hcap,_,hsz,htake⟩
  ·exact absurd (List.eq_nil_of_length_eq_zero h0) hn
  ·have hlt:g < w'.heap.size:=by
    rcases Nat.lt_or_ge g w'.heap.size with h|h
    ·exact h
    ·rw [Array.getElem?_eq_none h] at hh;cases hh
   obtain ⟨m1,m2⟩:=Gh.fix_ok hm hb hge hlt
   refine ⟨_,_,s,G.fix g,rfl,⟨rfl,rfl⟩,?_,m1,m2⟩
   unfold R
   refine ⟨fun h0=>absurd rfl h0,.inr ⟨g,0,cap,k,rfl,hcap,(fun h=>by cases h),hn,?_⟩⟩
   refine A5g es 0 hk (A9l (by unfold Gh.fix;simp) es.flatten xs 0 (hxs.mono m2 _ _) fun j u hj=>?_)
   rw [← htake] at hj
   have hj':cur[j]?=some u:=by
    rw [List.getElem?_take] at hj
    split at hj
    ·rwa [Array.getElem?_toList] at hj
    ·cases hj
   simp [World.cell?,hh,hj']
mutual
def fg:AV→AV
 | .int k n=>.int k n
 | .bool b=>.bool b
 | .str l=>.str l
 | .ptr a=>.ptr a
 | .cptr cs=>.cptr (fgL cs)
 | .slice _ es=>.slice 0 (fgE es)
 | .raw a l c=>.raw a l c
 | .iface t v=>.iface t (fg v)
 | .nilIface=>.nilIface
 | .func fn fs cs=>.func fn (fgL fs) (fgL cs)
 | .nilFunc=>.nilFunc
 | .agg cs=>.agg (fgL cs)
 | .tuple vs=>.tuple (fgL vs)
 | .cmap es=>.cmap es
def fgL:List AV→List AV
 | []=>[]
 | c::cs=>fg c::fgL cs
def fgE:List (List AV)→List (List AV)
 | []=>[]
 | e::es=>fgL e::fgE es
end
theorem C6q:∀ l:List AV,(fgL l).length=l.length
 | []=>by unfold fgL;rfl
 | c::cs=>by unfold fgL;rw [List.length_cons,List.length_cons,C6q cs]
theorem A6j:∀ l:List (List AV),(fgE l).length=l.length
 | []=>by unfold fgE;rfl
 | c::cs=>by unfold fgE;rw [List.length_cons,List.length_cons,A6j cs]
theorem A8o:fgE []=[]:=by unfold fgE;rfl
theorem D1p {l:List (List AV)} (h:l≠[]):fgE l≠[]:=fun hn=>h (List.eq_nil_of_length_eq_zero (by rw [← A6j,hn];rfl))
theorem A4t {α:Type} {A B:α→List AV} (h:∀ x,fgL (A x)=B x):∀ l:List α,fgE (l.map A)=l.map B
 | []=>by rw [List.map_nil,List.map_nil,A8o]
 | x::l=>by rw [List.map_cons,List.map_cons,fgE,h,A4t h l]
section
variable {G:Gh} {w:World}
mutual
theorem R.fg:∀ (c:AV) (v:Value),R G w c v→R G w (fg c) v
 | .int k n,v=>fun h=>by unfold Go.Ab.fg;exact h
 | .bool b,v=>fun h=>by unfold Go.Ab.fg;exact h
 | .str l,v=>fun h=>by unfold Go.Ab.fg;exact h
 | .ptr a,v=>fun h=>by unfold Go.Ab.fg;exact h
 | .cptr cs,v=>fun h=>by
  unfold Go.Ab.fg
  unfold R at h ⊢
  obtain ⟨b,o,hv,hc⟩:=h
  exact ⟨b,o,hv,D6.fg cs b o hc⟩
 | .slice t es,v=>fun h=>by
  unfold Go.Ab.fg
  unfold R at h ⊢
  refine ⟨fun h0=>absurd rfl h0,?_⟩
  rcases h.2 with ⟨he,a,cap,hv,_,h2⟩|⟨b,o,cap,k,hv,h1,_,h3,h4⟩
  ·exact .inl ⟨by rw [he,A8o],a,cap,hv,(fun h=>by cases h),h2⟩
  ·exact .inr ⟨b,o,cap,k,by rw [A6j];exact hv,by rw [A6j];exact h1,(fun h=>by cases h),D1p h3,E2.fg es k b o h4⟩
 | .raw a len cap,v=>fun h=>by unfold Go.Ab.fg;exact h
 | .iface t x,v=>fun h=>by
  unfold Go.Ab.fg
  unfold R at h ⊢
  obtain ⟨u,hv,hx⟩:=h
  exact ⟨u,hv,R.fg x u hx⟩
 | .nilIface,v=>fun h=>by unfold Go.Ab.fg;exact h
 | .func fn fs cs,v=>fun h=>by
  unfold Go.Ab.fg
  unfold R at h ⊢
  obtain ⟨us,vs,hv,h1,h2⟩:=h
  exact ⟨us,vs,hv,C9.fg fs _ h1,C9.fg cs _ h2⟩
 | .nilFunc,v=>fun h=>by unfold Go.Ab.fg;exact h
 | .agg cs,v=>fun h=>by
  unfold Go.Ab.fg
  unfold R at h ⊢
  obtain ⟨us,hv,h1⟩:=h
  exact ⟨us,hv,C9.fg cs _ h1⟩
 | .tuple vs,v=>fun h=>by
  unfold Go.Ab.fg
  unfold R at h ⊢
  obtain ⟨us,hv,h1⟩:=h
  exact ⟨us,hv,C9.fg vs _ h1⟩
 | .cmap es,v=>fun h=>by unfold Go.Ab.fg;exact h
theorem D6.fg:∀ (cs:List AV) (b o:Nat),D6 G w b o cs→D6 G w b o (fgL cs)
 | [],b,o=>fun _=>by unfold fgL;unfold D6;trivial
 | c::cs,b,o=>fun h=>by
  unfold fgL
  unfold D6 at h ⊢
  obtain ⟨hg,⟨u,hu,hr⟩,hs⟩:=h
  exact ⟨hg,⟨u,hu,R.fg c u hr⟩,D6.fg cs b (o+1) hs⟩
theorem E2.fg:∀ (es:List (List AV)) (k b o:Nat),E2 G w k b o es→E2 G w k b o (fgE es)
 | [],k,b,o=>fun _=>by unfold fgE;unfold E2;trivial
 | e::es,k,b,o=>fun h=>by
  unfold fgE
  unfold E2 at h ⊢
  obtain ⟨hl,hc,hs⟩:=h
  exact ⟨(C6q e).trans hl,D6.fg e b o hc,E2.fg es k b (o+k) hs⟩
theorem C9.fg:∀ (cs:List AV) (vs:List Value),C9 G w cs vs→C9 G w (fgL cs) vs
 | [],vs=>fun h=>by unfold fgL;exact h
 | c::cs,vs=>fun h=>by
  unfold fgL
  unfold C9 at h ⊢
  obtain ⟨u,us,hv,h1,h2⟩:=h
  exact ⟨u,us,hv,R.fg c u h1,C9.fg cs us h2⟩
end
end
theorem B7.fgt {f:FuncId} {args:List AV} {r:AV} (h:∀ s,A6 P Γ f args s fun v s'=>fg v=r∧Sub s s'):B7 P Γ f args fun v=>v=r :=
 fun s=>⟨fun G w vs hm hr=>((h s).run G w vs hm hr).mono fun e w' ⟨v,av,s',G',he,⟨ht,hsub⟩,hR,hM,hX⟩ =>
  ⟨v,r,s,G',he,⟨rfl,rfl⟩,by rw [← ht];exact R.fg _ _ hR,hM.sub hsub,hX⟩⟩
abbrev Frz:=Nat→Option (Nat × List AV)
def fzP (m:Frz):Option Addr→AV
 | some ⟨b,o,none⟩=>(match m b with|some (_,cs)=>.cptr (cs.drop o)|none=>.ptr (some ⟨b,o,none⟩))
 | a=>.ptr a
def fzW (m:Frz):Option Addr→Nat→Nat→AV
 | some ⟨b,o,none⟩,len,cap=>(match m b with
  | some (k,cs)=>if len≤cap∧len * k≤(cs.drop o).length then .slice 0 (U3 k len (cs.drop o)) else .raw (some ⟨b,o,none⟩) len cap
  | none=>.raw (some ⟨b,o,none⟩) len cap)
 | a,len,cap=>.raw a len cap
mutual
def fz (m:Frz):AV→AV
 | .int k n=>.int k n
 | .bool b=>.bool b
 | .str l=>.str l
 | .ptr a=>fzP m a
 | .cptr cs=>.cptr (fzL m cs)
 | .slice t es=>.slice t (fzE m es)
 | .raw a l c=>fzW m a l c
 | .iface t v=>.iface t (fz m v)
 | .nilIface=>.nilIface
 | .func fn fs cs=>.func fn (fzL m fs) (fzL m cs)
 | .nilFunc=>.nilFunc
 | .agg cs=>.agg (fzL m cs)
 | .tuple vs=>.tuple (fzL m vs)
 | .cmap es=>.cmap es
def fzL (m:Frz):List AV→List AV
 | []=>[]
 | c::cs=>fz m c::fzL m cs
def fzE (m:Frz):List (List AV)→List (List AV)
 | []=>[]
 | e::es=>fzL m e::fzE m es
end
theorem C6u (m:Frz):∀ l:List AV,(fzL m l).length=l.length
 | []=>by unfold fzL;rfl
 | c::cs=>by unfold fzL;rw [List.length_cons,List.length_cons,C6u m cs]
theorem B0r (m:Frz):∀ l:List (List AV),(fzE m l).length=l.length
 | []=>by unfold fzE;rfl
 | c::cs=>by unfold fzE;rw [List.length_cons,List.length_cons,B0r m cs]
theorem D5x (m:Frz):fzE m []=[]:=by unfold fzE;rfl
theorem D7s {m:Frz} {l:List (List AV)} (h:l≠[]):fzE m l≠[]:=fun hn=>h (List.eq_nil_of_length_eq_zero (by rw [← B0r m,hn];rfl))
section
variable {G:Gh} {w:World} {m:Frz}
theorem R.fzP (hm:∀ b k cs,m b=some (k,cs)→D6 G w b 0 cs) {a:Option Addr} {v:Value} (h:R G w (.ptr a) v):R G w (fzP m a) v:=by
 unfold Go.Ab.fzP
 split
 ·rename_i b o
  split
  ·rename_i k cs hb
   rw [Q2] at h
   subst h
   have:=Y2 o cs b 0 (hm b k cs hb)
   rw [Nat.zero_add] at this
   exact P0.2 ⟨b,o,rfl,this⟩
  ·exact h
 ·exact h
theorem R.fzW (hm:∀ b k cs,m b=some (k,cs)→D6 G w b 0 cs) {a:Option Addr} {len cap:Nat} {v:Value} (h:R G w (.raw a len cap) v):R G w (fzW m a len cap) v:=by
 unfold Go.Ab.fzW
 split
 ·rename_i b o
  split
  ·rename_i k cs hb
   split
   ·rename_i hl
    rw [A1t] at h
    subst h
    have hc:=Y2 o cs b 0 (hm b k cs hb)
    rw [Nat.zero_add] at hc
    have:=B4d (G:=G) (w:=w) (es:=U3 k len (cs.drop o)) (a:=some ⟨b,o,none⟩) (cap:=cap) (by rw [A0m];exact hl.1) (fun h=>by cases h) (fun _=>⟨b,o,k,rfl,A44 k len _ hc hl.2⟩)
    rwa [A0m] at this
   ·exact h
  ·exact h
 ·exact h
mutual
theorem R.fz (hm:∀ b k cs,m b=some (k,cs)→D6 G w b 0 cs):∀ (c:AV) (v:Value),R G w c v→R G w (fz m c) v
 | .int k n,v=>fun h=>by unfold Go.Ab.fz;exact h
 | .bool b,v=>fun h=>by unfold Go.Ab.fz;exact h
 | .str l,v=>fun h=>by unfold Go.Ab.fz;exact h
 | .ptr a,v=>fun h=>by unfold Go.Ab.fz;exact R.fzP hm h
 | .cptr cs,v=>fun h=>by
  unfold Go.Ab.fz
  unfold R at h ⊢
  obtain ⟨b,o,hv,hc⟩:=h
  exact ⟨b,o,hv,D6.fz hm cs b o hc⟩
 | .slice t es,v=>fun h=>by
  unfold Go.Ab.fz
  unfold R at h ⊢
  refine ⟨h.1,?_⟩
  rcases h.2 with ⟨he,a,cap,hv,h1,h2⟩|⟨b,o,cap,k,hv,h1,h2,h3,h4⟩
  ·exact .inl ⟨by rw [he,D5x],a,cap,hv,h1,h2⟩
  ·exact .inr ⟨b,o,cap,k,by rw [B0r];exact hv,by rw [B0r];exact h1,(fun h=>by rw [B0r];exact h2 h),D7s h3,E2.fz hm es k b o h4⟩
 | .raw a len cap,v=>fun h=>by unfold Go.Ab.fz;exact R.fzW hm h
 | .iface t x,v=>fun h=>by
  unfold Go.Ab.fz
  unfold R at h ⊢
  obtain ⟨u,hv,hx⟩:=h
  exact ⟨u,hv,R.fz hm x u hx⟩
 | .nilIface,v=>fun h=>by unfold Go.Ab.fz;exact h
 | .func fn fs cs,v=>fun h=>by
  unfold Go.Ab.fz
  unfold R at h ⊢
  obtain ⟨us,vs,hv,h1,h2⟩:=h
  exact ⟨us,vs,hv,C9.fz hm fs _ h1,C9.fz hm cs _ h2⟩
 | .nilFunc,v=>fun h=>by unfold Go.Ab.fz;exact h
 | .agg cs,v=>fun h=>by
  unfold Go.Ab.fz
  unfold R at h ⊢
  obtain ⟨us,hv,h1⟩:=h
  exact ⟨us,hv,C9.fz hm cs _ h1⟩
 | .tuple vs,v=>fun h=>by
  unfold Go.Ab.fz
  unfold R at h ⊢
  obtain ⟨us,hv,h1⟩:=h
  exact ⟨us,hv,C9.fz hm vs _ h1⟩
 | .cmap es,v=>fun h=>by unfold Go.Ab.fz;exact h
theorem D6.fz (hm:∀ b k cs,m b=some (k,cs)→D6 G w b 0 cs):∀ (cs:List AV) (b o:Nat),D6 G w b o cs→D6 G w b o (fzL m cs)
 | [],b,o=>fun _=>by unfold fzL;unfold D6;trivial
 | c::cs,b,o=>fun h=>by
  unfold fzL
  unfold D6 at h ⊢
  obtain ⟨hg,⟨u,hu,hr⟩,hs⟩:=h
  exact ⟨hg,⟨u,hu,R.fz hm c u hr⟩,D6.fz hm cs b (o+1) hs⟩
theorem E2.fz (hm:∀ b k cs,m b=some (k,cs)→D6 G w b 0 cs):∀ (es:List (List AV)) (k b o:Nat),E2 G w k b o es→E2 G w k b o (fzE m es)
 | [],k,b,o=>fun _=>by unfold fzE;unfold E2;trivial
 | e::es,k,b,o=>fun h=>by
  unfold fzE
  unfold E2 at h ⊢
  obtain ⟨hl,hc,hs⟩:=h
  exact ⟨(C6u m e).trans hl,D6.fz hm e b o hc,E2.fz hm es k b (o+k) hs⟩
theorem C9.fz (hm:∀ b k cs,m b=some (k,cs)→D6 G w b 0 cs):∀ (cs:List AV) (vs:List Value),C9 G w cs vs→C9 G w (fzL m cs) vs
 | [],vs=>fun h=>by unfold fzL;exact h
 | c::cs,vs=>fun h=>by
  unfold fzL
  unfold C9 at h ⊢
  obtain ⟨u,us,hv,h1,h2⟩:=h
  exact ⟨u,us,hv,R.fz hm c u h1,C9.fz hm cs us h2⟩
end
end
theorem Mod.freeze {G:Gh} {w:World} {s s':Sto} {m:Frz} (hM:Mod Γ G s' w) (hs:Sub s s') (hf:∀ b k cs,m b=some (k,cs)→s.bx b=none∧∃ T,s'.bx b=some (T,cs)) :
  ∃ G',Mod Γ G' s w∧Ext G w G' w∧∀ b k cs,m b=some (k,cs)→D6 G' w b 0 cs:=by
 let G':Gh:=⟨fun b=>if (m b).isSome then .fixd else G.kd b,G.tk⟩
 have e1:∀ b,(m b).isSome=true→G'.kd b=.fixd:=fun b h=>by show (if (m b).isSome then Kd.fixd else _)=_;rw [if_pos h]
 have e2:∀ b,¬ (m b).isSome=true→G'.kd b=G.kd b:=fun b h=>by show (if (m b).isSome then Kd.fixd else _)=_;rw [if_neg h]
 have hfree:∀ b,(m b).isSome=true→G.kd b=.free:=fun b h=>by
  obtain ⟨⟨k,cs⟩,hx⟩:=Option.isSome_iff_exists.1 h
  obtain ⟨_,T,hT⟩:=hf b k cs hx
  exact (hM.box b T cs hT).1
 have hrow:∀ b n,G'.kd b=.row n→G.kd b=.row n:=fun b n h=>by
  by_cases hb:(m b).isSome=true
  ·rw [e1 b hb] at h;cases h
  ·rwa [e2 b hb] at h
 have hrow':∀ b n,G.kd b=.row n→G'.kd b=.row n:=fun b n h=>by
  by_cases hb:(m b).isSome=true
  ·rw [hfree b hb] at h;cases h
  ·rwa [e2 b hb]
 have X:Ext G w G' w:=⟨rfl,rfl,rfl,Nat.le_refl _,fun b h=>⟨by
   by_cases hb:(m b).isSome=true
   ·exact e1 b hb
   ·rwa [e2 b hb],rfl⟩,fun b n h=>⟨.inr ⟨n,Nat.le_refl _,hrow' b n h⟩,fun _ _=>rfl⟩,fun _ _=>rfl⟩
 have hm0:=hM.sub hs
 have top:∀ {t b:Nat} {e:TypeId} {k:Nat},Top G' w t b e k↔Top G w t b e k:=fun {t b e k} =>
  ⟨fun ⟨len,cap,c,h1,h2,h3,h4,h5⟩=>⟨len,cap,c,h1,h2,hrow _ _ h3,h4,h5⟩,fun ⟨len,cap,c,h1,h2,h3,h4,h5⟩=>⟨len,cap,c,h1,h2,hrow' _ _ h3,h4,h5⟩⟩
 refine ⟨G',⟨fun g=>(hm0.glob g).mono X,?_,?_,?_,?_,hm0.fin⟩,X,?_⟩
 ·intro b T cs hb
  obtain ⟨h1,vs,h2,h3⟩:=hm0.box b T cs hb
  have hn:¬ (m b).isSome=true:=fun h=>by
   obtain ⟨⟨k,cs⟩,hx⟩:=Option.isSome_iff_exists.1 h
   rw [(hf b k cs hx).1] at hb
   cases hb
  exact ⟨(e2 b hn).trans h1,vs,h2,h3.mono X _ _⟩
 ·intro b hb
  by_cases h:(m b).isSome=true
  ·obtain ⟨⟨k,cs⟩,hx⟩:=Option.isSome_iff_exists.1 h
   obtain ⟨_,T,hT⟩:=hf b k cs hx
   exact A7m hM hT
  ·rw [e2 b h] at hb
   exact hm0.dom b hb
 ·intro t e k ht
  obtain ⟨h0,h1,b,h2⟩:=hm0.live t e k ht
  exact ⟨h0,h1,b,top.2 h2⟩
 ·intro t u b e k e' k' ht hu h1 h2
  exact hm0.apart t u b e k e' k' ht hu (top.1 h1) (top.1 h2)
 ·intro b k cs hb
  obtain ⟨_,T,hT⟩:=hf b k cs hb
  obtain ⟨_,vs,h2,h3⟩:=hM.box b T cs hT
  refine A9l (e1 b (by rw [hb];rfl)) cs vs 0 (h3.mono X _ _) fun j u hj=>?_
  rw [Nat.zero_add]
  simp [World.cell?,h2,hj]
theorem A6.frz {f:FuncId} {args:List AV} {s:Sto} {φ ψ:AV→Sto→Prop} (h:A6 P Γ f args s φ)
  (hk:∀ v s',φ v s'→∃ m s'',(∀ b k cs,m b=some (k,cs)→s''.bx b=none∧∃ T,s'.bx b=some (T,cs))∧Sub s'' s'∧ψ (fg (fz m v)) s''):A6 P Γ f args s ψ :=
 ⟨fun G w vs hm hr=>(h.run G w vs hm hr).mono fun e w' ⟨v,av,s',G',he,hφ,hR,hM,hX⟩=>by
  obtain ⟨m,s'',h1,h2,h3⟩:=hk av s' hφ
  obtain ⟨G'',hM',X',hc⟩:=hM.freeze h2 h1
  exact ⟨v,_,s'',G'',he,h3,R.fg _ _ (R.fz hc _ _ (hR.mono X' _ _)),hM',hX.trans X'⟩⟩
theorem B7.frz {f:FuncId} {args:List AV} {r:AV} (h:∀ s,A6 P Γ f args s fun v s'=>∃ m,(∀ b k cs,m b=some (k,cs)→s.bx b=none∧∃ T,s'.bx b=some (T,cs))∧fg (fz m v)=r∧Sub s s'):B7 P Γ f args fun v=>v=r :=
 fun s=>(h s).frz fun _ _ ⟨m,h1,h2,h3⟩=>⟨m,s,h1,h3,h2,rfl⟩
def fz1 (b k:Nat) (cs:List AV):Frz:=fun c=>if c=b then some (k,cs) else none
theorem C0e (b k:Nat) (cs:List AV):fz1 b k cs b=some (k,cs):=if_pos rfl
theorem C0f {s s':Sto} {b k:Nat} {T:TypeId} {cs:List AV} (h:s.bx b=none) (h':s'.bx b=some (T,cs)):∀ c j ds,fz1 b k cs c=some (j,ds)→s.bx c=none∧∃ T,s'.bx c=some (T,ds):=by
 intro c j ds hc
 unfold fz1 at hc
 split at hc
 ·rename_i he
  subst he
  simp only [Option.some.injEq,Prod.mk.injEq] at hc
  obtain ⟨_,rfl⟩:=hc
  exact ⟨h,T,h'⟩
 ·cases hc
def fz0:Frz:=fun _=>none
theorem D7r {s s':Sto}:∀ c j ds,fz0 c=some (j,ds)→s.bx c=none∧∃ T,s'.bx c=some (T,ds):=fun _ _ _ h=>by cases h
def A2k (Γ:Nat→AV) (s s':Sto):Prop:=∀ G w,Mod Γ G s w→Mod Γ G s' w
theorem A2k.refl (s:Sto):A2k Γ s s:=fun _ _ h=>h
def Le (a b:AV):Prop:=∀ G w v,R G w a v→R G w b v
theorem Le.refl (a:AV):Le a a:=fun _ _ _ h=>h
theorem Le.of_eq {a b:AV} (h:a=b):Le a b:=by rw [h];exact Le.refl b
theorem Le.slice0 (t:Nat) (es:List (List AV)):Le (.slice t es) (.slice 0 es):=fun _ _ _ h=>C1m h
theorem Le.inner (t:Nat) (es:List (List AV)):Le (.slice t es) (.slice t (fgE es)):=by
 intro G w v h
 unfold R at h ⊢
 refine ⟨h.1,?_⟩
 rcases h.2 with ⟨he,a,cap,hv,h1,h2⟩|⟨b,o,cap,k,hv,h1,h2,h3,h4⟩
 ·exact .inl ⟨by rw [he,A8o],a,cap,hv,h1,h2⟩
 ·exact .inr ⟨b,o,cap,k,by rw [A6j];exact hv,by rw [A6j];exact h1,(fun h=>by rw [A6j];exact h2 h),D1p h3,E2.fg es k b o h4⟩
theorem Le.inner' {t:Nat} {es es':List (List AV)} (h:fgE es=es'):Le (.slice t es) (.slice t es'):=h ▸ Le.inner t es
def LeL:List AV→List AV→Prop
 | [],[]=>True
 | a::l,b::m=>Le a b∧LeL l m
 | _,_=>False
theorem LeL.refl:∀ l:List AV,LeL l l
 | []=>trivial
 | a::l=>⟨Le.refl a,LeL.refl l⟩
theorem LeL.nil:LeL [] []:=trivial
theorem LeL.cons {a b:AV} {l m:List AV} (h:Le a b) (k:LeL l m):LeL (a::l) (b::m):=⟨h,k⟩
theorem LeL.run {G:Gh} {w:World}:∀ {l m:List AV} {vs:List Value},LeL l m→C9 G w l vs→C9 G w m vs
 | [],[],_,_,h=>h
 | a::l,b::m,vs,hl,h=>by
  obtain ⟨u,us,rfl,h1,h2⟩:=B8.1 h
  exact B8.2 ⟨u,us,rfl,hl.1 G w u h1,LeL.run hl.2 h2⟩
 | [],_::_,_,hl,_=>hl.elim
 | _::_,[],_,hl,_=>hl.elim
theorem A2k.box {s:Sto} {b:Nat} {T:TypeId} {cs cs':List AV} (hb:s.bx b=some (T,cs)) (h:LeL cs cs'):A2k Γ s (s.set b T cs'):=by
 intro G w hm
 refine ⟨hm.glob,?_,hm.dom,hm.live,hm.apart,hm.fin⟩
 intro c T' ds hc
 by_cases he:c=b
 ·subst he
  rw [A7] at hc
  simp only [Option.some.injEq,Prod.mk.injEq] at hc
  obtain ⟨rfl,rfl⟩:=hc
  obtain ⟨h1,vs,h2,h3⟩:=hm.box c T cs hb
  exact ⟨h1,vs,h2,h.run h3⟩
 ·rw [A9 he] at hc
  exact hm.box c T' ds hc
section
variable {n:Nat} {Q:Exit→Env→Sto→Prop} {e:Env} {s:Sto}
theorem AWp.weak {c:Code} {s':Sto} (h:A2k Γ s s') (k:AWp P Γ n c Q e s'):AWp P Γ n c Q e s :=
 ⟨fun G w a hm he=>k.run G w a (h G w hm) he⟩
def LeS (e:Env):List Nat→List AV→Prop
 | [],[]=>True
 | i::S,v::vs=>Le (e i) v∧LeS e S vs
 | _,_=>False
theorem LeS.nil {e:Env}:LeS e [] []:=trivial
theorem LeS.cons {e:Env} {i:Nat} {S:List Nat} {v:AV} {vs:List AV} (h:Le (e i) v) (k:LeS e S vs):LeS e (i::S) (v::vs):=⟨h,k⟩
theorem LeS.env {G:Gh} {w:World} {e:Env} {a:Act} (he:A0v G w n e a):∀ {S:List Nat} {vs:List AV},LeS e S vs→A0v G w n (updL e S vs) a
 | [],[],_=>by simpa [updL] using he
 | i::S,v::vs,h=>by
  have ih:=LeS.env he h.2
  refine ⟨ih.size,fun j=>?_,ih.defers⟩
  simp only [updL,upd]
  split
  ·rename_i hj
   subst hj
   exact h.1 G w _ (he.at_ j)
  ·exact ih.at_ j
 | [],_::_,h=>h.elim
 | _::_,[],h=>h.elim
theorem LeS.map {e:Env}:∀ {S:List Nat} {vs:List AV},S.Nodup→LeS e S vs→S.map (updL e S vs)=vs
 | [],[],_,_=>rfl
 | i::S,v::vs,hn,h=>by
  obtain ⟨h1,h2⟩:=List.nodup_cons.1 hn
  rw [List.map_cons]
  refine C1 (by simp [updL,upd]) ?_
  have hm:S.map (updL e (i::S) (v::vs))=S.map (updL e S vs):=List.map_congr_left fun j hj=>by
   simp only [updL,upd]
   exact if_neg (fun (hji:j=i)=>h1 (hji ▸ hj))
  rw [hm]
  exact LeS.map h2 h.2
 | [],_::_,_,h=>h.elim
 | _::_,[],_,h=>h.elim
theorem B9q {e e':Env} {M:List Nat} {S:List Nat} {vs:List AV} (hs:L0 M e e') (h:S.all (M.elem ·)=true):L0 M e (updL e' S vs):=L0.updL h hs
theorem AWp.loopW {α:Type} {c:Code} (S J:List Nat) (vs:α→List AV) (I:α→Sto→Prop) (μ:α→Nat) (a0:α) (s0:Sto) (hok:A0g n c=true) (hnd:S.Nodup) (h0:LeS e S (vs a0)) (hw:A2k Γ s s0) (hI:I a0 s0)
  (round:∀ x a s',I a s' →
   awp P Γ n c (C7q (fun e' s''=>∃ a' s3,LeS e' S (vs a')∧L0 (S++J) e e'∧A2k Γ s'' s3∧I a' s3∧μ a' < μ a) Q) (updL (havoc e J x) S (vs a)) s'):AWp P Γ n (.loop c) Q e s:=by
 refine ⟨fun G w ac hm he=>?_⟩
 have hall:S.all ((S++J).elem ·)=true:=by
  rw [List.all_eq_true]
  intro i hi
  simp [hi]
 have key:∀ m G1 w1 a1 e1 s1 a,μ a < m→I a s1→S.map e1=vs a→L0 (S++J) e e1→Mod Γ G1 s1 w1→A0v G1 w1 n e1 a1→Ext G w G1 w1 →
   Code.rounds P c (fun x a' w'=>∃ e' s' G',Q x e' s'∧Mod Γ G' s' w'∧A0v G' w' n e' a'∧Ext G w G' w') m a1 w1:=by
  intro m
  induction m with
  | zero=>intro _ _ _ _ _ _ h;omega
  | succ m ih =>
   intro G1 w1 a1 e1 s1 a hmu hI1 hv hS hm1 he1 X1
   rw [rounds_succ]
   have hee:updL (havoc e J e1) S (vs a)=e1:=by
    rw [← hv]
    funext i
    cases hi:S.elem i with
    | true=>exact B7a S e1 i hi
    | false =>
     rw [B7b S _ i hi]
     unfold havoc
     cases hj:J.elem i with
     | true=>rfl
     | false =>
      refine (hS i ?_).symm
      have h1:i ∉ S:=by simpa using hi
      have h2:i ∉ J:=by simpa using hj
      simp [h1,h2]
   have hr:=round e1 a s1 hI1
   rw [hee] at hr
   refine Code.wp_mono ?_ ((S0 c hok hr).run G1 w1 a1 hm1 he1)
   rintro x a' w' ⟨e',s',G',q,hm',he',X⟩
   cases x with
   | normal =>
    obtain ⟨b,s3,q1,q2,q3,q4,q5⟩:=q
    exact ih G' w' a' (updL e' S (vs b)) s3 b (by omega) q4 (LeS.map hnd q1) (B9q q2 hall) (q3 G' w' hm') (q1.env he') (X1.trans X)
   | _=>exact ⟨e',s',G',q,hm',he',X1.trans X⟩
 exact wp_loop_rounds _ (key _ G w ac (updL e S (vs a0)) s0 a0 (Nat.lt_succ_self _) hI (LeS.map hnd h0) (B9q (L0.refl _ _) hall) (hw G w hm) (h0.env he) (Ext.refl _ _))
end
theorem A6.weak {f:FuncId} {args args':List AV} {s s':Sto} {φ:AV→Sto→Prop} (hw:A2k Γ s s') (ha:LeL args args') (h:A6 P Γ f args' s' φ):A6 P Γ f args s φ :=
 ⟨fun G w vs hm hr=>h.run G w vs (hw G w hm) (ha.run hr)⟩
theorem A6.less {f:FuncId} {args:List AV} {s:Sto} {φ ψ:AV→Sto→Prop} (h:A6 P Γ f args s φ) (hk:∀ v s',φ v s'→∃ v' s'',Le v v'∧A2k Γ s' s''∧ψ v' s''):A6 P Γ f args s ψ :=
 ⟨fun G w vs hm hr=>(h.run G w vs hm hr).mono fun _ _ ⟨v,av,s',G',he,hφ,hR,hM,hX⟩=>by
  obtain ⟨v',s'',h1,h2,h3⟩:=hk av s' hφ
  exact ⟨v,v',s'',G',he,h3,h1 G' _ v hR,h2 G' _ hM,hX⟩⟩
end Go.Ab
namespace Go.Ab
open Go
structure N5 (B:Nat→Prop) (s s':Sto):Prop where
 bx:∀ c z,¬ B c→s.bx c=some z→s'.bx c=some z
 lv:∀ t e k,s.lv t e k→s'.lv t e k
 sub:∀ s0,Sub s0 s→(∀ c,B c→s0.bx c=none)→Sub s0 s'
theorem N5.trans {B:Nat→Prop} {a b c:Sto} (h:N5 B a b) (k:N5 B b c):N5 B a c :=
 ⟨fun d z hd hz=>k.bx d z hd (h.bx d z hd hz),fun t e j ht=>k.lv t e j (h.lv t e j ht),fun s0 hs hn=>k.sub s0 (h.sub s0 hs hn) hn⟩
theorem N5.set {B:Nat→Prop} {s s':Sto} (h:N5 B s s') {b:Nat} (hb:B b) (T:TypeId) (cs:List AV):N5 B s (s'.set b T cs) :=
 ⟨fun d z hd hz=>(A9 (show d≠b from fun he=>hd (by rw [he];exact hb))).trans (h.bx d z hd hz),h.lv,fun s0 hs hn=>(h.sub s0 hs hn).set (hn b hb) T cs⟩
theorem N5.fresh {B:Nat→Prop} {s s':Sto} (h:N5 B s s') {b:Nat} (hb:s.bx b=none) (T:TypeId) (cs:List AV):N5 B s (s'.set b T cs) :=
 ⟨fun d z hd hz=>(A9 (A8 hz hb)).trans (h.bx d z hd hz),h.lv,fun s0 hs hn=>(h.sub s0 hs hn).set (hs.none hb) T cs⟩
def B1 (a:Nat):Nat→Prop:=fun c=>c=a
def B2 (a b:Nat):Nat→Prop:=fun c=>c=a∨c=b
theorem bS:((false=true)=False)∧((true=false)=False)∧(∀ (p:Prop) [Decidable p],(decide p=true)=p)∧(∀ (p:Prop) [Decidable p],(decide p=false) = ¬p)∧(∀ b:Bool,((!b)=true)=(b=false))∧(∀ b:Bool,((!b)=false)=(b=true)) :=
 ⟨by simp,by simp,fun p _=>by simp,fun p _=>by simp,fun b=>by simp,fun b=>by simp⟩
theorem bN:((¬True)=False)∧((¬False)=True):=⟨by simp,by simp⟩
theorem E6 {s:Sto} {b c:Nat} {T:TypeId} {cs:List AV} (h:(s.set b T cs).bx c=none):s.bx c=none:=by
 by_cases hc:c=b
 ·subst hc;rw [A7] at h;cases h
 ·rwa [A9 hc] at h
theorem D75 {s:Sto} {b c:Nat} {T:TypeId} {cs:List AV} (h:(s.set b T cs).bx c=none):b≠c:=by
 rintro rfl;rw [A7] at h;cases h
theorem A9u {α:Type} {l l':List α} {n:Nat} (h:l=l') (k:l'.length=n):l.length=n:=h ▸ k
theorem E0d {p q:Prop} (k:q) (h:p:=by first|omega|rfl|decide|exact Nat.le_of_ble_eq_true rfl|((repeat' (first|exact all_nil|refine all_cons ?_ ?_|rfl|fail));done)|(simp [-List.length_flatMap];done)|(simp [-List.length_flatMap];omega)|fail):p∧q:=⟨h,k⟩
theorem E9 {x:Option (TypeId × List AV)} {T:TypeId} {cs:List AV} {K:TypeId→List AV→Prop} (k:K T cs) (hx:x=some (T,cs):=by ((repeat (first|exact A7|assumption|refine (A9 (by assumption)).trans ?_|refine L8.trans ?_));done)):getB x K:=B6 hx k
theorem bxa {α:Type} {x y:Option α} (h:x=y:=by ((repeat (first|exact A7|assumption|refine (A9 (by assumption)).trans ?_|refine L8.trans ?_));done)):x=y:=h
theorem A4n {s s':Sto} (h:Sub s s':=by ((repeat (first|exact Sub.refl _|assumption|refine Sub.set ?_ (by assumption) _ _));done)):Sub s s':=h
theorem eqa {α:Type} {a b:α} (h:a=b:=by (repeat' (first|refine C1 ?_ ?_|refine E3 ?_ ?_ ?_|rfl|omega))):a=b:=h
theorem eqb {α:Type} {a b:α} (h:a=b:=by ((try dsimp only);(repeat' (first|refine C1 ?_ ?_|refine E3 ?_ ?_ ?_|rfl|omega)))):a=b:=h
theorem C5 {M:List Nat} {e e':Env} (h:L0 M e e':=by (repeat (first|exact L0.refl _ _|refine L0.upd rfl ?_|refine L0.updL rfl ?_|refine L0.havoc rfl ?_))):L0 M e e':=h
theorem AWp.anyA {P:Program} {Γ:Nat→AV} {n id:Nat} {ops:Array Oper} {Q:Exit→Env→Sto→Prop} {e:Env} {s:Sto} (h:D49 P Γ ops ops.toList e s fun e' s'=>Q .normal e' s') (hmix:P.follows .mixedOrders=true:=by kernel_rfl) (hok:ops.toList.all (A1r n)=true:=by kernel_rfl) (hd:B2k P ops=true:=by kernel_rfl):AWp P Γ n (.region id ops true) Q e s:=AWp.any hmix hok hd h
structure D8t (q:Prop):Prop where
 run:q
theorem pru {p:Prop} (h:False:=by first|omega|exact (by assumption:¬ True) trivial|fail):p:=h.elim
theorem prc {p:Prop} (h:False:=by first|contradiction|omega|exact (by assumption:¬ True) trivial|fail):p:=h.elim
theorem brS {b:Bool} {yes no:Prop} (h1:b=true→yes) (h2:b=false→no):brA b yes no:=E7 h1 h2
theorem nA {p q:Prop} (k:q) (h:p:=by first|exact Sub.refl _|omega|rfl|decide|exact Nat.le_of_ble_eq_true rfl|((repeat' (first|exact all_nil|refine all_cons ?_ ?_|rfl|fail));done)|(simp [-List.length_flatMap];done)|(simp [-List.length_flatMap];omega)|fail):p∧q:=⟨h,k⟩
theorem gS {s:Sto} {b:Nat} {T:TypeId} {cs:List AV} {K:TypeId→List AV→Prop} (h:K T cs):getB ((s.set b T cs).bx b) K:=E1 h
theorem aA {P:Program} {Γ:Nat→AV} {n id:Nat} {ops:Array Oper} {Q:Exit→Env→Sto→Prop} {e:Env} {s:Sto} (h:D49 P Γ ops ops.toList e s fun e' s'=>Q .normal e' s') (hmix:P.follows .mixedOrders=true:=by kernel_rfl) (hok:ops.toList.all (A1r n)=true:=by kernel_rfl) (hd:B2k P ops=true:=by kernel_rfl):AWp P Γ n (.region id ops true) Q e s:=AWp.any hmix hok hd h
theorem wp {p q:Prop} (k:q) (h:D8t q→p:=by (intro k;(try (conv=>whnf));(repeat' ((first|(exfalso;first|omega|exact (by assumption:¬ True) trivial|fail)|(refine brS (fun h=>?_) (fun h=>?_)<;>(try rw [h])<;>(try simp only [bN,bS,↓reduceIte] at h))|(refine A6.pure' ?_ (by assumption);rintro _ rfl)|refine C0.pure ?_ (by assumption)|refine B6 (by ((repeat (first|exact A7|assumption|refine (A9 (by assumption)).trans ?_|refine L8.trans ?_));done)) ?_|refine ⟨A9u (by assumption) rfl,Go.Ab.A2g (by assumption) ?_⟩|refine gS ?_|refine AWp.any (by kernel_rfl) (by kernel_rfl) (by kernel_rfl) ?_|refine ⟨Sub.refl _,?_⟩|refine And.intro (by first|omega|rfl|decide|exact Nat.le_of_ble_eq_true rfl|((repeat' (first|exact all_nil|refine all_cons ?_ ?_|rfl|fail));done)|(simp [-List.length_flatMap];done)|(simp [-List.length_flatMap];omega)|fail) ?_|fail)<;>(conv=>whnf)));all_goals exact k.run)):p:=h ⟨k⟩
theorem wr {p q:Prop} (k:q) (h:D8t q→p:=by (intro k;(try (conv=>whnf));(repeat' ((first|(refine brS (fun h=>?_) (fun h=>?_)<;>(try rw [h])<;>(try simp only [bN,bS,↓reduceIte] at h)<;>(first|(exfalso;first|contradiction|omega|exact (by assumption:¬ True) trivial|fail)|skip))|(refine A6.pure' ?_ (by assumption);rintro _ rfl)|refine C0.pure ?_ (by assumption)|refine B6 (by ((repeat (first|exact A7|assumption|refine (A9 (by assumption)).trans ?_|refine L8.trans ?_));done)) ?_|refine ⟨A9u (by assumption) rfl,Go.Ab.A2g (by assumption) ?_⟩|refine gS ?_|refine AWp.any (by kernel_rfl) (by kernel_rfl) (by kernel_rfl) ?_|refine ⟨Sub.refl _,?_⟩|refine And.intro (by first|omega|rfl|decide|exact Nat.le_of_ble_eq_true rfl|((repeat' (first|exact all_nil|refine all_cons ?_ ?_|rfl|fail));done)|(simp [-List.length_flatMap];done)|(simp [-List.length_flatMap];omega)|fail) ?_|fail)<;>(conv=>whnf)));all_goals exact k.run)):p:=h ⟨k⟩
theorem acs {P:Program} {Γ:Nat→AV} {f:FuncId} {fn:Func} {c:Code} {args:List AV} {s:Sto} {φ:AV→Sto→Prop} (hf:P.funcs[f]?=some fn) (k:awp P Γ fn.ntmps c (C99 P fn.results fun v s'=>∃ s'',Sub s'' s'∧φ v s'') (B8b args) s) (hb:fn.body=some c:=by rfl) (hn:args.length≤fn.ntmps:=by exact Nat.le_of_ble_eq_true (by kernel_rfl)) (hok:A0g fn.ntmps c=true:=by kernel_rfl):A6 P Γ f args s φ:=A6.of_awp hf hb hn (S0 _ hok k)
theorem aps {P:Program} {Γ:Nat→AV} {f:FuncId} {fn:Func} {c:Code} {args:List AV} {φ:AV→Prop} (hf:P.funcs[f]?=some fn) (k:∀ s,awp P Γ fn.ntmps c (C99 P fn.results fun v s'=>Sub s s'∧φ v) (B8b args) s) (hb:fn.body=some c:=by rfl) (hn:args.length≤fn.ntmps:=by exact Nat.le_of_ble_eq_true (by kernel_rfl)) (hok:A0g fn.ntmps c=true:=by kernel_rfl):B7 P Γ f args φ:=B7.of_awp hf hb hn hok k
end Go.Ab
namespace Go.Proofs.YticnkpgmmpenlaaGreatDoor.Ix
open Go Go.Ab Go.RowKit
variable {Γ:Nat→AV}
theorem C64 (l:List UInt8) (n:Int):B7 Tryz.prog Γ 246 [.str l,.int .u8 n] fun v=>v=.int .i64 (Lib.indexByte l n.toNat.toUInt8):=by
 refine fun s=>⟨fun G w vs hm hr=>?_⟩
 obtain ⟨u,us,rfl,hu,hus⟩:=B8.1 hr
 obtain ⟨u1,us1,rfl,hu1,hus1⟩:=B8.1 hus
 rw [C2] at hus1;subst hus1
 rw [K4] at hu;subst hu
 rw [G3] at hu1;subst hu1
 refine Calls.mono (R:=fun e w'=>e=.returned (.int .i64 (Lib.indexByte l n.toNat.toUInt8))∧w'=w) ?_ ?_
 ·go_enter Tryz.func246,Tryz.ntmps246
  go_wp2
  rw [run_callFunc_extern Tryz.func267 (by kernel_rfl) (by kernel_rfl) (by kernel_rfl) (e:=Extern.BytealgIndexByte.indexByte) (by kernel_rfl)]
  rw [Lib.run_indexByteString]
  simp only [Result.andThen]
  rw [Oper.upon_value]
  go_wp2
  go_ret
  exact ⟨rfl,rfl⟩
 ·rintro e w' ⟨rfl,rfl⟩
  exact ⟨_,_,s,G,rfl,⟨rfl,rfl⟩,G3.2 rfl,hm,Ext.refl _ _⟩
attribute [local irreducible] B7 Sto.set Sto.grow
theorem A6k (l:List UInt8) (n:Int):B7 Tryz.prog Γ 216 [.str l,.int .u8 n] fun v=>v=.int .i64 (Lib.indexByte l n.toNat.toUInt8):=by
 refine aps Tryz.func216 ?_
 intro s
 refine wr ?_;(first|(refine A6.pure' ?_ (C64 _ _);rintro _ rfl)|refine C0.pure ?_ (C64 _ _));refine wr ?_
 rfl
end Go.Proofs.YticnkpgmmpenlaaGreatDoor.Ix
namespace Go.Proofs
open Go.Shelf
def Tryz.lays156_ren:Go.Shelf.Ren:=⟨fun|156=>38|165=>93|166=>94|169=>95|240=>146|241=>147|276=>212|277=>213|n=>n,fun|31=>66|9=>9|3=>3|4=>4|0=>0|20=>20|72=>149|76=>151|70=>146|37=>147|75=>98|127=>192|164=>202|5=>5|80=>153|n=>n,fun|n=>n⟩
theorem Tryz.lays156:Go.Proofs.Lays.n156 Tryz.prog Tryz.lays156_ren:={
 mixed:=by kernel_rfl
 f156:=Tryz.func38.trans (congrArg some (by kernel_rfl))
 f165:=Tryz.func93.trans (congrArg some (by kernel_rfl))
 f166:=Tryz.func94.trans (congrArg some (by kernel_rfl))
 f169:=Tryz.func95.trans (congrArg some (by kernel_rfl))
 f240:=Tryz.func146.trans (congrArg some (by kernel_rfl))
 f241:=Tryz.func147.trans (congrArg some (by kernel_rfl))
 f276:=Tryz.func212.trans (congrArg some (by kernel_rfl))
 f277:=Tryz.func213.trans (congrArg some (by kernel_rfl))
 t0:=Tryz.underlying0
 a0:=Tryz.isAgg0
 z0:=Tryz.sizeOf0
 v0:=Tryz.zeroValue0
 t3:=Tryz.underlying3
 a3:=Tryz.isAgg3
 z3:=Tryz.sizeOf3
 v3:=Tryz.zeroValue3
 t4:=Tryz.underlying4
 a4:=Tryz.isAgg4
 z4:=Tryz.sizeOf4
 v4:=Tryz.zeroValue4
 t9:=Tryz.underlying9
 a9:=Tryz.isAgg9
 z9:=Tryz.sizeOf9
 v9:=Tryz.zeroValue9
 t20:=Tryz.underlying20
 a20:=Tryz.isAgg20
 z20:=Tryz.sizeOf20
 v20:=Tryz.zeroValue20
 t31:=Tryz.underlying66
 a31:=Tryz.isAgg66
 z31:=Tryz.sizeOf66
 v31:=Tryz.zeroValue66
 t37:=Tryz.underlying147
 a37:=Tryz.isAgg147
 z37:=Tryz.sizeOf147
 v37:=Tryz.zeroValue147
 t70:=Tryz.underlying146
 a70:=Tryz.isAgg146
 z70:=Tryz.sizeOf146
 v70:=Tryz.zeroValue146
 t72:=Tryz.underlying149
 a72:=Tryz.isAgg149
 z72:=Tryz.sizeOf149
 v72:=Tryz.zeroValue149
 t75:=Tryz.underlying98
 a75:=Tryz.isAgg98
 z75:=Tryz.sizeOf98
 v75:=Tryz.zeroValue98
 t76:=Tryz.underlying151
 a76:=Tryz.isAgg151
 z76:=Tryz.sizeOf151
 v76:=Tryz.zeroValue151
 t127:=Tryz.underlying192
 a127:=Tryz.isAgg192
 z127:=Tryz.sizeOf192
 v127:=Tryz.zeroValue192
 t164:=Tryz.underlying202
 a164:=Tryz.isAgg202
 z164:=Tryz.sizeOf202
 v164:=Tryz.zeroValue202 }
theorem Tryz.Builder_Extra_156:Builder.Extra Tryz.prog Tryz.lays156_ren:={
 sizeBuilder:=by kernel_rfl
 liesBuilder:=by kernel_rfl
 t5:=Tryz.underlying5
 a5:=Tryz.isAgg5
 z5:=Tryz.sizeOf5
 v5:=Tryz.zeroValue5
 infoByte:=by kernel_rfl
 cellsByte:=by kernel_rfl
 sizeByte:=by kernel_rfl
 neB5:=by decide }
open Go.RowKit in
theorem Tryz.strings_Join_none (a:Option Addr) (c:Nat) (sep:ByteArray) (w:World) :
  Calls Tryz.prog 38 #[.slice a 0 c,.string sep] w fun e w'=>e=.returned (.string ⟨#[]⟩)∧w'=w:=Any.strings_Join_none Tryz.lays156 Tryz.Builder_Extra_156 a c sep w
open Go.RowKit in
theorem Tryz.strings_Join (bk o c:Nat) (xs:List ByteArray) (sep:ByteArray) (w:World) (hcells:∀ (j:Nat) x,xs[j]?=some x→w.cell? ⟨bk,o+j,none⟩=some (.string x)) (hbk:bk < w.heap.size) (hN:xs.length≤140737488355328) (hcap:xs.length≤c) (hlen:(Lib.join (xs.map (·.data.toList)) sep.data.toList).length≤140737488355328) :
  Calls Tryz.prog 38 #[.slice (some ⟨bk,o,none⟩) xs.length c,.string sep] w fun e w'=>e=.returned (.string ⟨(Lib.join (xs.map (·.data.toList)) sep.data.toList).toArray⟩)∧Below w.heap.size w w':=Any.strings_Join Tryz.lays156 Tryz.Builder_Extra_156 bk o c xs sep w hcells hbk hN hcap hlen
def Tryz.lays160_ren:Go.Shelf.Ren:=⟨fun|160=>270|232=>286|231=>285|227=>287|234=>289|233=>288|236=>291|235=>290|228=>300|271=>303|151=>302|197=>301|120=>310|152=>309|260=>308|137=>216|119=>317|224=>281|225=>280|217=>246|266=>267|n=>n,fun|9=>9|4=>4|3=>3|5=>5|117=>334|116=>333|0=>0|124=>337|21=>21|105=>349|46=>262|119=>360|139=>363|138=>362|n=>n,fun|3=>10|4=>11|n=>n⟩
theorem Tryz.lays160:Go.Proofs.Lays.n160 Tryz.prog Tryz.lays160_ren:={
 mixed:=by kernel_rfl
 f119:=Tryz.func317.trans (congrArg some (by kernel_rfl))
 f120:=Tryz.func310.trans (congrArg some (by kernel_rfl))
 f137:=Tryz.func216.trans (congrArg some (by kernel_rfl))
 f151:=Tryz.func302.trans (congrArg some (by kernel_rfl))
 f152:=Tryz.func309.trans (congrArg some (by kernel_rfl))
 f160:=Tryz.func270.trans (congrArg some (by kernel_rfl))
 f197:=Tryz.func301.trans (congrArg some (by kernel_rfl))
 f217:=Tryz.func246.trans (congrArg some (by kernel_rfl))
 f224:=Tryz.func281.trans (congrArg some (by kernel_rfl))
 f225:=Tryz.func280.trans (congrArg some (by kernel_rfl))
 f227:=Tryz.func287.trans (congrArg some (by kernel_rfl))
 f228:=Tryz.func300.trans (congrArg some (by kernel_rfl))
 f231:=Tryz.func285.trans (congrArg some (by kernel_rfl))
 f232:=Tryz.func286.trans (congrArg some (by kernel_rfl))
 f233:=Tryz.func288.trans (congrArg some (by kernel_rfl))
 f234:=Tryz.func289.trans (congrArg some (by kernel_rfl))
 f235:=Tryz.func290.trans (congrArg some (by kernel_rfl))
 f236:=Tryz.func291.trans (congrArg some (by kernel_rfl))
 f260:=Tryz.func308.trans (congrArg some (by kernel_rfl))
 f266:=Tryz.func267.trans (congrArg some (by kernel_rfl))
 f271:=Tryz.func303.trans (congrArg some (by kernel_rfl))
 t0:=Tryz.underlying0
 a0:=Tryz.isAgg0
 z0:=Tryz.sizeOf0
 v0:=Tryz.zeroValue0
 t3:=Tryz.underlying3
 a3:=Tryz.isAgg3
 z3:=Tryz.sizeOf3
 v3:=Tryz.zeroValue3
 t4:=Tryz.underlying4
 a4:=Tryz.isAgg4
 z4:=Tryz.sizeOf4
 v4:=Tryz.zeroValue4
 t5:=Tryz.underlying5
 a5:=Tryz.isAgg5
 z5:=Tryz.sizeOf5
 v5:=Tryz.zeroValue5
 t9:=Tryz.underlying9
 a9:=Tryz.isAgg9
 z9:=Tryz.sizeOf9
 v9:=Tryz.zeroValue9
 t21:=Tryz.underlying21
 a21:=Tryz.isAgg21
 z21:=Tryz.sizeOf21
 v21:=Tryz.zeroValue21
 t46:=Tryz.underlying262
 a46:=Tryz.isAgg262
 z46:=Tryz.sizeOf262
 v46:=Tryz.zeroValue262
 t105:=Tryz.underlying349
 a105:=Tryz.isAgg349
 z105:=Tryz.sizeOf349
 v105:=Tryz.zeroValue349
 t116:=Tryz.underlying333
 a116:=Tryz.isAgg333
 z116:=Tryz.sizeOf333
 t117:=Tryz.underlying334
 a117:=Tryz.isAgg334
 z117:=Tryz.sizeOf334
 v117:=Tryz.zeroValue334
 t119:=Tryz.underlying360
 a119:=Tryz.isAgg360
 z119:=Tryz.sizeOf360
 t124:=Tryz.underlying337
 a124:=Tryz.isAgg337
 z124:=Tryz.sizeOf337
 v124:=Tryz.zeroValue337
 t138:=Tryz.underlying362
 a138:=Tryz.isAgg362
 z138:=Tryz.sizeOf362
 v138:=Tryz.zeroValue362
 t139:=Tryz.underlying363
 a139:=Tryz.isAgg363
 z139:=Tryz.sizeOf363
 v139:=Tryz.zeroValue363
 g3:=by kernel_rfl
 g4:=by kernel_rfl }
def Tryz.laysM246_ren:Go.Shelf.Ren:=⟨fun|246=>209|283=>242|284=>243|285=>244|286=>245|129=>263|317=>262|318=>264|319=>265|320=>266|337=>278|338=>279|n=>n,fun|2=>2|3=>3|9=>9|4=>4|171=>299|0=>0|53=>300|37=>147|5=>5|173=>303|212=>316|51=>317|20=>20|213=>318|46=>262|232=>345|233=>346|n=>n,fun|17=>6|18=>8|19=>9|n=>n⟩
theorem Tryz.laysM246:Go.Proofs.LaysM.n246 Tryz.prog Tryz.laysM246_ren:={
 mixed:=by kernel_rfl
 f129:=Tryz.func263.trans (congrArg some (by kernel_rfl))
 f246:=Tryz.func209.trans (congrArg some (by kernel_rfl))
 f283:=Tryz.func242.trans (congrArg some (by kernel_rfl))
 f284:=Tryz.func243.trans (congrArg some (by kernel_rfl))
 f285:=Tryz.func244.trans (congrArg some (by kernel_rfl))
 f286:=Tryz.func245.trans (congrArg some (by kernel_rfl))
 f317:=Tryz.func262.trans (congrArg some (by kernel_rfl))
 f318:=Tryz.func264.trans (congrArg some (by kernel_rfl))
 f319:=Tryz.func265.trans (congrArg some (by kernel_rfl))
 f320:=Tryz.func266.trans (congrArg some (by kernel_rfl))
 f337:=Tryz.func278.trans (congrArg some (by kernel_rfl))
 f338:=Tryz.func279.trans (congrArg some (by kernel_rfl))
 t0:=Tryz.underlying0
 a0:=Tryz.isAgg0
 z0:=Tryz.sizeOf0
 v0:=Tryz.zeroValue0
 t2:=Tryz.underlying2
 a2:=Tryz.isAgg2
 z2:=Tryz.sizeOf2
 v2:=Tryz.zeroValue2
 t3:=Tryz.underlying3
 a3:=Tryz.isAgg3
 z3:=Tryz.sizeOf3
 v3:=Tryz.zeroValue3
 t4:=Tryz.underlying4
 a4:=Tryz.isAgg4
 z4:=Tryz.sizeOf4
 v4:=Tryz.zeroValue4
 t5:=Tryz.underlying5
 a5:=Tryz.isAgg5
 z5:=Tryz.sizeOf5
 v5:=Tryz.zeroValue5
 t9:=Tryz.underlying9
 a9:=Tryz.isAgg9
 z9:=Tryz.sizeOf9
 v9:=Tryz.zeroValue9
 t20:=Tryz.underlying20
 a20:=Tryz.isAgg20
 z20:=Tryz.sizeOf20
 v20:=Tryz.zeroValue20
 t37:=Tryz.underlying147
 a37:=Tryz.isAgg147
 z37:=Tryz.sizeOf147
 v37:=Tryz.zeroValue147
 t46:=Tryz.underlying262
 a46:=Tryz.isAgg262
 z46:=Tryz.sizeOf262
 v46:=Tryz.zeroValue262
 t51:=Tryz.underlying317
 a51:=Tryz.isAgg317
 z51:=Tryz.sizeOf317
 v51:=Tryz.zeroValue317
 t53:=Tryz.underlying300
 a53:=Tryz.isAgg300
 z53:=Tryz.sizeOf300
 v53:=Tryz.zeroValue300
 t171:=Tryz.underlying299
 a171:=Tryz.isAgg299
 z171:=Tryz.sizeOf299
 v171:=Tryz.zeroValue299
 t173:=Tryz.underlying303
 a173:=Tryz.isAgg303
 z173:=Tryz.sizeOf303
 v173:=Tryz.zeroValue303
 t212:=Tryz.underlying316
 a212:=Tryz.isAgg316
 z212:=Tryz.sizeOf316
 v212:=Tryz.zeroValue316
 t213:=Tryz.underlying318
 a213:=Tryz.isAgg318
 z213:=Tryz.sizeOf318
 t232:=Tryz.underlying345
 a232:=Tryz.isAgg345
 z232:=Tryz.sizeOf345
 v232:=Tryz.zeroValue345
 t233:=Tryz.underlying346
 a233:=Tryz.isAgg346
 z233:=Tryz.sizeOf346
 v233:=Tryz.zeroValue346
 g17:=by kernel_rfl
 g18:=by kernel_rfl
 g19:=by kernel_rfl
 i0:=by kernel_rfl
 i2:=by kernel_rfl
 i3:=by kernel_rfl
 i4:=by kernel_rfl
 i5:=by kernel_rfl
 i9:=by kernel_rfl
 i20:=by kernel_rfl
 i37:=by kernel_rfl
 i46:=by kernel_rfl
 i51:=by kernel_rfl
 i53:=by kernel_rfl
 i171:=by kernel_rfl
 i173:=by kernel_rfl
 i212:=by kernel_rfl
 i232:=by kernel_rfl
 i233:=by kernel_rfl
 m17:=by kernel_rfl
 m18:=by kernel_rfl
 m19:=by kernel_rfl }
open Go.RowKit Go.Sort Go.Lib in
theorem Tryz.internal_strconv_FormatInt_10 (n : Int) (h0 : -9223372036854775808 ≤ n) (h1 : n ≤ 9223372036854775807) (w : World) (htab : Lib.TabIs Tryz.prog w "internal/strconv.uint64pow10" .u64 Lib.pow10Tab) :
  Calls Tryz.prog 209 #[.int .i64 n,.int .i64 10] w fun e w'=>e=.returned (.string ⟨(Lib.itoa n).toArray⟩)∧∃ k os,w'=grow (w.drewN k) os:=Any.internal_strconv_FormatInt_10 Tryz.laysM246 n h0 h1 w htab
def Tryz.laysC245_ren:Go.Shelf.Ren:=⟨fun|245=>306|279=>313|280=>314|281=>315|282=>316|316=>320|171=>322|205=>321|243=>323|246=>209|283=>242|284=>243|285=>244|286=>245|129=>263|317=>262|318=>264|319=>265|320=>266|337=>278|338=>279|n=>n,fun|9=>9|3=>3|75=>98|167=>354|4=>4|168=>357|210=>366|37=>147|0=>0|127=>192|145=>370|143=>368|2=>2|171=>299|53=>300|5=>5|173=>303|212=>316|51=>317|20=>20|213=>318|46=>262|232=>345|233=>346|80=>153|n=>n,fun|15=>12|16=>7|17=>6|18=>8|19=>9|n=>n⟩
def Tryz.laysC174_ren:Go.Shelf.Ren:=⟨fun|174=>294|247=>305|245=>306|287=>312|279=>313|280=>314|281=>315|282=>316|321=>318|322=>319|316=>320|171=>322|205=>321|243=>323|246=>209|283=>242|284=>243|285=>244|286=>245|129=>263|317=>262|318=>264|319=>265|320=>266|337=>278|338=>279|n=>n,fun|9=>9|3=>3|2=>2|75=>98|85=>339|4=>4|167=>354|5=>5|53=>300|175=>355|46=>262|168=>357|37=>147|0=>0|210=>366|21=>21|127=>192|145=>370|143=>368|171=>299|173=>303|212=>316|51=>317|20=>20|213=>318|232=>345|233=>346|80=>153|n=>n,fun|15=>12|16=>7|17=>6|18=>8|19=>9|n=>n⟩
theorem Tryz.laysC174:Go.Proofs.LaysC.n174 Tryz.prog Tryz.laysC174_ren:={
 mixed:=by kernel_rfl
 f129:=Tryz.func263.trans (congrArg some (by kernel_rfl))
 f171:=Tryz.func322.trans (congrArg some (by kernel_rfl))
 f174:=Tryz.func294.trans (congrArg some (by kernel_rfl))
 f205:=Tryz.func321.trans (congrArg some (by kernel_rfl))
 f243:=Tryz.func323.trans (congrArg some (by kernel_rfl))
 f245:=Tryz.func306.trans (congrArg some (by kernel_rfl))
 f246:=Tryz.func209.trans (congrArg some (by kernel_rfl))
 f247:=Tryz.func305.trans (congrArg some (by kernel_rfl))
 f279:=Tryz.func313.trans (congrArg some (by kernel_rfl))
 f280:=Tryz.func314.trans (congrArg some (by kernel_rfl))
 f281:=Tryz.func315.trans (congrArg some (by kernel_rfl))
 f282:=Tryz.func316.trans (congrArg some (by kernel_rfl))
 f283:=Tryz.func242.trans (congrArg some (by kernel_rfl))
 f284:=Tryz.func243.trans (congrArg some (by kernel_rfl))
 f285:=Tryz.func244.trans (congrArg some (by kernel_rfl))
 f286:=Tryz.func245.trans (congrArg some (by kernel_rfl))
 f287:=Tryz.func312.trans (congrArg some (by kernel_rfl))
 f316:=Tryz.func320.trans (congrArg some (by kernel_rfl))
 f317:=Tryz.func262.trans (congrArg some (by kernel_rfl))
 f318:=Tryz.func264.trans (congrArg some (by kernel_rfl))
 f319:=Tryz.func265.trans (congrArg some (by kernel_rfl))
 f320:=Tryz.func266.trans (congrArg some (by kernel_rfl))
 f321:=Tryz.func318.trans (congrArg some (by kernel_rfl))
 f322:=Tryz.func319.trans (congrArg some (by kernel_rfl))
 f337:=Tryz.func278.trans (congrArg some (by kernel_rfl))
 f338:=Tryz.func279.trans (congrArg some (by kernel_rfl))
 t0:=Tryz.underlying0
 a0:=Tryz.isAgg0
 z0:=Tryz.sizeOf0
 v0:=Tryz.zeroValue0
 t2:=Tryz.underlying2
 a2:=Tryz.isAgg2
 z2:=Tryz.sizeOf2
 v2:=Tryz.zeroValue2
 t3:=Tryz.underlying3
 a3:=Tryz.isAgg3
 z3:=Tryz.sizeOf3
 v3:=Tryz.zeroValue3
 t4:=Tryz.underlying4
 a4:=Tryz.isAgg4
 z4:=Tryz.sizeOf4
 v4:=Tryz.zeroValue4
 t5:=Tryz.underlying5
 a5:=Tryz.isAgg5
 z5:=Tryz.sizeOf5
 v5:=Tryz.zeroValue5
 t9:=Tryz.underlying9
 a9:=Tryz.isAgg9
 z9:=Tryz.sizeOf9
 v9:=Tryz.zeroValue9
 t20:=Tryz.underlying20
 a20:=Tryz.isAgg20
 z20:=Tryz.sizeOf20
 v20:=Tryz.zeroValue20
 t21:=Tryz.underlying21
 a21:=Tryz.isAgg21
 z21:=Tryz.sizeOf21
 v21:=Tryz.zeroValue21
 t37:=Tryz.underlying147
 a37:=Tryz.isAgg147
 z37:=Tryz.sizeOf147
 v37:=Tryz.zeroValue147
 t46:=Tryz.underlying262
 a46:=Tryz.isAgg262
 z46:=Tryz.sizeOf262
 v46:=Tryz.zeroValue262
 t51:=Tryz.underlying317
 a51:=Tryz.isAgg317
 z51:=Tryz.sizeOf317
 v51:=Tryz.zeroValue317
 t53:=Tryz.underlying300
 a53:=Tryz.isAgg300
 z53:=Tryz.sizeOf300
 v53:=Tryz.zeroValue300
 t75:=Tryz.underlying98
 a75:=Tryz.isAgg98
 z75:=Tryz.sizeOf98
 v75:=Tryz.zeroValue98
 t85:=Tryz.underlying339
 a85:=Tryz.isAgg339
 z85:=Tryz.sizeOf339
 v85:=Tryz.zeroValue339
 t127:=Tryz.underlying192
 a127:=Tryz.isAgg192
 z127:=Tryz.sizeOf192
 v127:=Tryz.zeroValue192
 t143:=Tryz.underlying368
 a143:=Tryz.isAgg368
 z143:=Tryz.sizeOf368
 v143:=Tryz.zeroValue368
 t145:=Tryz.underlying370
 a145:=Tryz.isAgg370
 z145:=Tryz.sizeOf370
 v145:=Tryz.zeroValue370
 t167:=Tryz.underlying354
 a167:=Tryz.isAgg354
 z167:=Tryz.sizeOf354
 v167:=Tryz.zeroValue354
 t168:=Tryz.underlying357
 a168:=Tryz.isAgg357
 z168:=Tryz.sizeOf357
 v168:=Tryz.zeroValue357
 t171:=Tryz.underlying299
 a171:=Tryz.isAgg299
 z171:=Tryz.sizeOf299
 v171:=Tryz.zeroValue299
 t173:=Tryz.underlying303
 a173:=Tryz.isAgg303
 z173:=Tryz.sizeOf303
 v173:=Tryz.zeroValue303
 t175:=Tryz.underlying355
 a175:=Tryz.isAgg355
 z175:=Tryz.sizeOf355
 v175:=Tryz.zeroValue355
 t210:=Tryz.underlying366
 a210:=Tryz.isAgg366
 z210:=Tryz.sizeOf366
 v210:=Tryz.zeroValue366
 t212:=Tryz.underlying316
 a212:=Tryz.isAgg316
 z212:=Tryz.sizeOf316
 v212:=Tryz.zeroValue316
 t213:=Tryz.underlying318
 a213:=Tryz.isAgg318
 z213:=Tryz.sizeOf318
 t232:=Tryz.underlying345
 a232:=Tryz.isAgg345
 z232:=Tryz.sizeOf345
 v232:=Tryz.zeroValue345
 t233:=Tryz.underlying346
 a233:=Tryz.isAgg346
 z233:=Tryz.sizeOf346
 v233:=Tryz.zeroValue346
 g15:=by kernel_rfl
 g16:=by kernel_rfl
 g17:=by kernel_rfl
 g18:=by kernel_rfl
 g19:=by kernel_rfl
 t80:=Tryz.underlying153
 a80:=Tryz.isAgg153
 z80:=Tryz.sizeOf153
 v80:=Tryz.zeroValue153
 i0:=by kernel_rfl
 i2:=by kernel_rfl
 i3:=by kernel_rfl
 i4:=by kernel_rfl
 i5:=by kernel_rfl
 i9:=by kernel_rfl
 i20:=by kernel_rfl
 i21:=by kernel_rfl
 i37:=by kernel_rfl
 i46:=by kernel_rfl
 i51:=by kernel_rfl
 i53:=by kernel_rfl
 i75:=by kernel_rfl
 i80:=by kernel_rfl
 i85:=by kernel_rfl
 i127:=by kernel_rfl
 i143:=by kernel_rfl
 i145:=by kernel_rfl
 i167:=by kernel_rfl
 i168:=by kernel_rfl
 i171:=by kernel_rfl
 i173:=by kernel_rfl
 i175:=by kernel_rfl
 i210:=by kernel_rfl
 i212:=by kernel_rfl
 i232:=by kernel_rfl
 i233:=by kernel_rfl
 m15:=by kernel_rfl
 m16:=by kernel_rfl
 m17:=by kernel_rfl
 m18:=by kernel_rfl
 m19:=by kernel_rfl
 c0:=by kernel_rfl
 c2:=by kernel_rfl
 c3:=by kernel_rfl
 c4:=by kernel_rfl
 c5:=by kernel_rfl
 c9:=by kernel_rfl
 c20:=by kernel_rfl
 c21:=by kernel_rfl
 c37:=by kernel_rfl
 c46:=by kernel_rfl
 c51:=by kernel_rfl
 c53:=by kernel_rfl
 c75:=by kernel_rfl
 c80:=by kernel_rfl
 c85:=by kernel_rfl
 c127:=by kernel_rfl
 c143:=by kernel_rfl
 c145:=by kernel_rfl
 c167:=by kernel_rfl
 c168:=by kernel_rfl
 c171:=by kernel_rfl
 c173:=by kernel_rfl
 c175:=by kernel_rfl
 c210:=by kernel_rfl
 c212:=by kernel_rfl
 c213:=by kernel_rfl
 c232:=by kernel_rfl
 c233:=by kernel_rfl }
open Go.RowKit in
theorem Tryz.strconv_ParseInt_10_at64_ok (s:ByteArray) (hmax:s.size≤9223372036854775806) (v:Int) (h:Lib.parseIntB 64 s.data.toList=.ok v) (w:World) :
  Calls Tryz.prog 294 #[.string s,.int .i64 10,.int .i64 64] w fun e w'=>e=.returned (.tuple #[.int .i64 v,.nilIface])∧(w'=w∨∃ t,w'=Lib.bytesWorld w 5 t):=Any.strconv_ParseInt_10_at64_ok Tryz.laysC174 s hmax v h w
open Go.RowKit in
theorem Tryz.strconv_ParseInt_10_at64_range (s:ByteArray) (hlim:s.size≤281474976710656) (h:Lib.parseIntB 64 s.data.toList=.range) (ev:Value) (w:World) (hv:w.cell? ⟨7,0,none⟩=some ev) (hev:ev=.nilIface∨∃ te pe,ev=.iface te pe) :
  Calls Tryz.prog 294 #[.string s,.int .i64 10,.int .i64 64] w fun e w'=>∃ N,e=.returned (.tuple #[.int .i64 (Lib.intSat 64 s.data.toList),.iface 357 (.pointer (some ⟨N,0,none⟩))])∧w.heap.size≤N∧w'.heap[N]?=some (.cells #[.string ⟨#[80,97,114,115,101,73,110,116]⟩,.string s,ev] 366 (0,0))∧Below w.heap.size w w':=Any.strconv_ParseInt_10_at64_range Tryz.laysC174 s hlim h ev w hv hev
def Tryz.lays219_ren:Go.Shelf.Ren:=⟨fun|219=>268|217=>246|225=>280|224=>281|267=>282|266=>267|314=>299|n=>n,fun|9=>9|3=>3|4=>4|5=>5|46=>262|146=>347|51=>317|n=>n,fun|1=>5|n=>n⟩
def Tryz.lays143_ren:Go.Shelf.Ren:=⟨fun|143=>249|219=>268|217=>246|225=>280|224=>281|267=>282|266=>267|314=>299|n=>n,fun|9=>9|3=>3|4=>4|5=>5|46=>262|146=>347|51=>317|n=>n,fun|1=>5|n=>n⟩
theorem Tryz.lays143:Go.Proofs.Lays.n143 Tryz.prog Tryz.lays143_ren:={
 mixed:=by kernel_rfl
 f143:=Tryz.func249.trans (congrArg some (by kernel_rfl))
 f217:=Tryz.func246.trans (congrArg some (by kernel_rfl))
 f219:=Tryz.func268.trans (congrArg some (by kernel_rfl))
 f224:=Tryz.func281.trans (congrArg some (by kernel_rfl))
 f225:=Tryz.func280.trans (congrArg some (by kernel_rfl))
 f266:=Tryz.func267.trans (congrArg some (by kernel_rfl))
 f267:=Tryz.func282.trans (congrArg some (by kernel_rfl))
 f314:=Tryz.func299.trans (congrArg some (by kernel_rfl))
 t3:=Tryz.underlying3
 a3:=Tryz.isAgg3
 z3:=Tryz.sizeOf3
 v3:=Tryz.zeroValue3
 t4:=Tryz.underlying4
 a4:=Tryz.isAgg4
 z4:=Tryz.sizeOf4
 v4:=Tryz.zeroValue4
 t5:=Tryz.underlying5
 a5:=Tryz.isAgg5
 z5:=Tryz.sizeOf5
 v5:=Tryz.zeroValue5
 t9:=Tryz.underlying9
 a9:=Tryz.isAgg9
 z9:=Tryz.sizeOf9
 v9:=Tryz.zeroValue9
 t46:=Tryz.underlying262
 a46:=Tryz.isAgg262
 z46:=Tryz.sizeOf262
 v46:=Tryz.zeroValue262
 t51:=Tryz.underlying317
 a51:=Tryz.isAgg317
 z51:=Tryz.sizeOf317
 v51:=Tryz.zeroValue317
 t146:=Tryz.underlying347
 a146:=Tryz.isAgg347
 z146:=Tryz.sizeOf347
 v146:=Tryz.zeroValue347
 g1:=by kernel_rfl }
open Go.RowKit Go.Lib in
theorem Tryz.strings_Index_one (s:ByteArray) (c:UInt8) (w:World) :
  Calls Tryz.prog 249 #[.string s,.string ⟨#[c]⟩] w fun e w'=>e=.returned (.int .i64 (Lib.indexByte s.data.toList c))∧w'=w:=Any.strings_Index_one Tryz.lays143 s c w
def Tryz.lays138_ren:Go.Shelf.Ren:=⟨fun|138=>217|195=>247|218=>248|143=>249|219=>268|217=>246|225=>280|224=>281|267=>282|266=>267|314=>299|n=>n,fun|9=>9|3=>3|4=>4|5=>5|0=>0|46=>262|146=>347|51=>317|n=>n,fun|1=>5|n=>n⟩
theorem Tryz.lays138:Go.Proofs.Lays.n138 Tryz.prog Tryz.lays138_ren:={
 mixed:=by kernel_rfl
 f138:=Tryz.func217.trans (congrArg some (by kernel_rfl))
 f143:=Tryz.func249.trans (congrArg some (by kernel_rfl))
 f195:=Tryz.func247.trans (congrArg some (by kernel_rfl))
 f217:=Tryz.func246.trans (congrArg some (by kernel_rfl))
 f218:=Tryz.func248.trans (congrArg some (by kernel_rfl))
 f219:=Tryz.func268.trans (congrArg some (by kernel_rfl))
 f224:=Tryz.func281.trans (congrArg some (by kernel_rfl))
 f225:=Tryz.func280.trans (congrArg some (by kernel_rfl))
 f266:=Tryz.func267.trans (congrArg some (by kernel_rfl))
 f267:=Tryz.func282.trans (congrArg some (by kernel_rfl))
 f314:=Tryz.func299.trans (congrArg some (by kernel_rfl))
 t0:=Tryz.underlying0
 a0:=Tryz.isAgg0
 z0:=Tryz.sizeOf0
 v0:=Tryz.zeroValue0
 t3:=Tryz.underlying3
 a3:=Tryz.isAgg3
 z3:=Tryz.sizeOf3
 v3:=Tryz.zeroValue3
 t4:=Tryz.underlying4
 a4:=Tryz.isAgg4
 z4:=Tryz.sizeOf4
 v4:=Tryz.zeroValue4
 t5:=Tryz.underlying5
 a5:=Tryz.isAgg5
 z5:=Tryz.sizeOf5
 v5:=Tryz.zeroValue5
 t9:=Tryz.underlying9
 a9:=Tryz.isAgg9
 z9:=Tryz.sizeOf9
 v9:=Tryz.zeroValue9
 t46:=Tryz.underlying262
 a46:=Tryz.isAgg262
 z46:=Tryz.sizeOf262
 v46:=Tryz.zeroValue262
 t51:=Tryz.underlying317
 a51:=Tryz.isAgg317
 z51:=Tryz.sizeOf317
 v51:=Tryz.zeroValue317
 t146:=Tryz.underlying347
 a146:=Tryz.isAgg347
 z146:=Tryz.sizeOf347
 v146:=Tryz.zeroValue347
 g1:=by kernel_rfl }
open Go.RowKit Go.Lib in
theorem Tryz.strings_Count_one (s:ByteArray) (c:UInt8) (w:World) :
  Calls Tryz.prog 217 #[.string s,.string ⟨#[c]⟩] w fun e w'=>e=.returned (.int .i64 (Lib.countByte s.data.toList c))∧w'=w:=Any.strings_Count_one Tryz.lays138 s c w
def Tryz.laysGw15_ren:Go.Shelf.Ren:=⟨fun|15=>238|20=>260|n=>n,fun|9=>9|23=>293|3=>3|4=>4|0=>0|21=>21|n=>n,fun|n=>n⟩
theorem Tryz.laysGw15:Go.Proofs.LaysGw.n15 Tryz.prog Tryz.laysGw15_ren:={
 mixed:=by kernel_rfl
 f15:=Tryz.func238.trans (congrArg some (by kernel_rfl))
 f20:=Tryz.func260.trans (congrArg some (by kernel_rfl))
 t0:=Tryz.underlying0
 a0:=Tryz.isAgg0
 z0:=Tryz.sizeOf0
 v0:=Tryz.zeroValue0
 i0:=by kernel_rfl
 t3:=Tryz.underlying3
 a3:=Tryz.isAgg3
 z3:=Tryz.sizeOf3
 v3:=Tryz.zeroValue3
 i3:=by kernel_rfl
 t4:=Tryz.underlying4
 a4:=Tryz.isAgg4
 z4:=Tryz.sizeOf4
 v4:=Tryz.zeroValue4
 i4:=by kernel_rfl
 t9:=Tryz.underlying9
 a9:=Tryz.isAgg9
 z9:=Tryz.sizeOf9
 v9:=Tryz.zeroValue9
 i9:=by kernel_rfl
 t21:=Tryz.underlying21
 a21:=Tryz.isAgg21
 z21:=Tryz.sizeOf21
 v21:=Tryz.zeroValue21
 i21:=by kernel_rfl
 t23:=Tryz.underlying293
 a23:=Tryz.isAgg293
 z23:=Tryz.sizeOf293
 v23:=Tryz.zeroValue293
 i23:=by kernel_rfl }
open Go.RowKit Go.Lib in
theorem Tryz.strings_IndexFunc (g:Nat) (lb:Array Value) (eg:∀ args w,(callFunc g args).run Tryz.prog w=.ok (.enter g args) w) (p:Nat→Bool) (s:ByteArray) (w:World) (hp:PredAt Tryz.prog g lb encR p w) :
  Calls Tryz.prog 238 #[.string s,.func (.func g) #[] lb] w fun e w'=>e=.returned (.int .i64 (Lib.idxFunc p true s))∧Below w.heap.size w w':=Any.strings_IndexFunc Tryz.laysGw15 g lb eg p s w hp
def Tryz.lays206_ren:Go.Shelf.Ren:=⟨fun|206=>272|n=>n,fun|9=>9|4=>4|3=>3|n=>n,fun|n=>n⟩
def Tryz.lays101_ren:Go.Shelf.Ren:=⟨fun|101=>304|208=>311|206=>272|n=>n,fun|9=>9|4=>4|3=>3|n=>n,fun|n=>n⟩
theorem Tryz.lays101:Go.Proofs.Lays.n101 Tryz.prog Tryz.lays101_ren:={
 mixed:=by kernel_rfl
 f101:=Tryz.func304.trans (congrArg some (by kernel_rfl))
 f206:=Tryz.func272.trans (congrArg some (by kernel_rfl))
 f208:=Tryz.func311.trans (congrArg some (by kernel_rfl))
 t3:=Tryz.underlying3
 a3:=Tryz.isAgg3
 z3:=Tryz.sizeOf3
 v3:=Tryz.zeroValue3
 t4:=Tryz.underlying4
 a4:=Tryz.isAgg4
 z4:=Tryz.sizeOf4
 v4:=Tryz.zeroValue4
 t9:=Tryz.underlying9
 a9:=Tryz.isAgg9
 z9:=Tryz.sizeOf9
 v9:=Tryz.zeroValue9 }
open Go.RowKit Go.Lib in
theorem Tryz.strings_TrimPrefix (s p:ByteArray) (w:World) :
  Calls Tryz.prog 304 #[.string s,.string p] w fun e w'=>e=.returned (.string ⟨(Lib.trimPrefix s.data.toList p.data.toList).toArray⟩)∧w'=w:=Any.strings_TrimPrefix Tryz.lays101 s p w
def Tryz.laysNm215_ren:Go.Shelf.Ren:=⟨fun|15=>56|n=>n,fun|22=>52|3=>3|4=>4|n=>n,fun|n=>n⟩
theorem Tryz.laysNm215:Go.Proofs.Lays2.n15 Tryz.prog Tryz.laysNm215_ren:={
 mixed:=by kernel_rfl
 f15:=Tryz.func56.trans (congrArg some (by kernel_rfl))
 t3:=Tryz.underlying3
 a3:=Tryz.isAgg3
 z3:=Tryz.sizeOf3
 v3:=Tryz.zeroValue3
 t4:=Tryz.underlying4
 a4:=Tryz.isAgg4
 z4:=Tryz.sizeOf4
 v4:=Tryz.zeroValue4
 t22:=Tryz.underlying52
 a22:=Tryz.isAgg52
 z22:=Tryz.sizeOf52
 v22:=Tryz.zeroValue52
 i3:=by kernel_rfl }
open Go.RowKit Go.Lib in
theorem Tryz.slices_Clone_int (b off n c:Nat) (zs:List Int) (w:World) (hz:n≤zs.length) (hbig:n * 8≤140737488355328) (hc:∀ j,j < zs.length→w.cell? ⟨b,off+j,none⟩=some (.int .i64 (zs.getD j 0))) :
  Calls Tryz.prog 56 #[.slice (some ⟨b,off,none⟩) n c] w fun e w'=>∃ v',e=.returned v'∧w'.ownsRow w.heap.size 3 1 v' n ((zs.take n).map (Value.int .i64))∧v'≠.slice none 0 0∧Below w.heap.size w w':=Any.slices_Clone_int Tryz.laysNm215 b off n c zs w hz hbig hc
open Go.RowKit Go.Lib in
theorem Tryz.slices_Clone_int_nil (n c:Nat) (w:World) :
  Calls Tryz.prog 56 #[.slice none n c] w fun e w'=>e=.returned (.slice none 0 0)∧w'=w:=Any.slices_Clone_int_nil Tryz.laysNm215 n c w
open Go.RowKit Go.Lib in
theorem Tryz.slices_Clone_int_zero (a:Addr) (c:Nat) (w:World) :
  Calls Tryz.prog 56 #[.slice (some a) 0 c] w fun e w'=>∃ v',e=.returned v'∧w'.ownsRow w.heap.size 3 1 v' 0 []∧v'≠.slice none 0 0∧Below w.heap.size w w':=Any.slices_Clone_int_zero Tryz.laysNm215 a c w
end Go.Proofs
namespace Go.Proofs.YticnkpgmmpenlaaGreatDoor.Sc
open Go Go.Ab Go.RowKit
variable {Γ:Nat→AV}
def K9 (n:Int):Bool:=decide (n=95) || (decide (48≤n) && decide (n≤57)) || (decide (65≤n) && decide (n≤90)) || (decide (97≤n) && decide (n≤122))
theorem B7i {n:Int} (h:128≤n):K9 n=false:=by
 simp [K9];omega
theorem D77 (x:Nat) (W:World):FnGives Tryz.prog 237 #[] #[encR x] (.bool (!K9 x)) W:=by
 unfold FnGives encR
 go_enter Tryz.func237,Tryz.ntmps237
 go_wp2
 all_goals go_ret
 all_goals refine ⟨congrArg (fun b=>Ending.returned (Value.bool b)) ?_,0,rfl⟩
 all_goals grind [K9]
theorem C84 (l:List UInt8):Lib.idxFunc (fun x=>!K9 x) true ⟨l.toArray⟩ < 0↔(l.all fun c=>K9 c.toNat)=true:=by
 have key:∀ (f pos:Nat),l.length≤pos+f→(Lib.idxFuncFrom (fun x=>!K9 x) true ⟨l.toArray⟩ f pos < 0↔((l.drop pos).all fun c=>K9 c.toNat)=true):=by
  intro f
  induction f with
  | zero =>
   intro pos h
   rw [D5 (by omega)]
   simp [Lib.idxFuncFrom]
  | succ f ih =>
   intro pos h
   simp only [Lib.idxFuncFrom]
   have hsz:(⟨l.toArray⟩:ByteArray).size=l.length:=rfl
   by_cases hp:pos < l.length
   ·rw [if_pos (by rw [hsz];exact hp),A08 hp]
    have hget:((⟨l.toArray⟩:ByteArray)[pos]'(by rw [hsz];exact hp))=B9 l pos:=by
     simp [B9,List.getD,hp]
     rfl
    by_cases ha:(B9 l pos).toNat < 128
    ·have hd:=decode_ascii ⟨l.toArray⟩ pos (by rw [hsz];exact hp) (by rw [hget];exact ha)
     rw [hget] at hd
     rw [hd]
     simp only [List.all_cons]
     cases hw:K9 ((B9 l pos).toNat:Int) with
     | true =>
      simp only [Bool.not_true,Bool.false_eq_true,if_false,Bool.true_and]
      exact ih (pos+1) (by omega)
     | false=>simp
    ·have hd:=decode_high ⟨l.toArray⟩ pos (by rw [hsz];exact hp) (by rw [hget];omega)
     have h1:K9 ((Utf8.decode ⟨l.toArray⟩ pos).1:Int)=false:=B7i (by omega)
     have h2:K9 ((B9 l pos).toNat:Int)=false:=B7i (by omega)
     rw [if_pos (by rw [h1];rfl)]
     simp [h2]
   ·rw [if_neg (by rw [hsz];exact hp),D5 hp]
    simp
 have:=key l.length 0 (by omega)
 rw [List.drop_zero] at this
 exact this
theorem B0v (l:List UInt8):B7 Tryz.prog Γ 238 [.str l,.func (.func 237) [] []] fun v=>v=.int .i64 (Lib.idxFunc (fun x=>!K9 x) true ⟨l.toArray⟩):=by
 intro s
 refine A6.of_below fun G w vs hm hr=>?_
 obtain ⟨u,us,rfl,hu,hus⟩:=B8.1 hr
 obtain ⟨u1,us1,rfl,hu1,hus1⟩:=B8.1 hus
 rw [C2] at hus1;subst hus1
 rw [K4] at hu;subst hu
 obtain ⟨a,b,rfl,ha,hb⟩:=A9m.1 hu1
 rw [C2] at ha hb
 obtain rfl:a = #[]:=by cases a;simp_all
 obtain rfl:b = #[]:=by cases b;simp_all
 exact ⟨_,fun G' w'=>G3.2 rfl,Tryz.strings_IndexFunc 237 #[] (enters_of Tryz.func237 (by kernel_rfl) rfl) (fun x=>!K9 x) ⟨l.toArray⟩ w fun W x _=>D77 x W⟩
attribute [local irreducible] B7 Sto.set Sto.grow
def spelt (l:List UInt8):Bool:=decide (1≤l.length) && decide (l.length≤32) && !(decide (48≤(B9 l 0).toNat) && decide ((B9 l 0).toNat≤57)) && l.all fun c=>K9 c.toNat
theorem C3 {a b:Bool} (h:a=b):AV.bool a=.bool b:=by rw [h]
theorem B3m {l:List UInt8} (h1:(48:Int)≤(B9 l 0).toNat) (h2:((B9 l 0).toNat:Int)≤57):spelt l=false:=by
 simp [spelt];intro _ _ h;omega
theorem A92 {l:List UInt8} (h1:1≤l.length) (h2:l.length≤32) (h3:¬ ((48:Int)≤(B9 l 0).toNat∧((B9 l 0).toNat:Int)≤57)):spelt l=l.all fun c=>K9 c.toNat:=by
 unfold spelt
 rw [decide_eq_true h1,decide_eq_true h2]
 have:(decide (48≤(B9 l 0).toNat) && decide ((B9 l 0).toNat≤57))=false:=by
  rw [← Bool.not_eq_true,Bool.and_eq_true,decide_eq_true_iff,decide_eq_true_iff];omega
 rw [this]
 rfl
theorem C55 {l:List UInt8} {i:Nat} (hi:i < l.length) (h:K9 (B9 l i).toNat=false):spelt l=false:=by
 have:(l.all fun c=>K9 c.toNat)=false:=by
  rw [← Bool.not_eq_true,List.all_eq_true]
  intro hh
  have hm:B9 l i ∈ l:=by simp [B9,List.getD,hi]
  rw [hh _ hm] at h
  cases h
 unfold spelt
 rw [this,Bool.and_false]
theorem A2i (l:List UInt8):B7 Tryz.prog Γ 196 [.str l] fun v=>v=.bool (spelt l):=by
 have hb:decide (Lib.idxFunc (fun x=>!K9 x) true ⟨l.toArray⟩ < 0)=l.all fun c=>K9 c.toNat:=by
  rw [Bool.eq_iff_iff,decide_eq_true_iff];exact C84 l
 rcases Nat.eq_zero_or_pos l.length with hz|hpos
 ·obtain rfl:=List.eq_nil_of_length_eq_zero hz
  refine aps Tryz.func196 ?_
  intro s
  refine wr ?_
  all_goals rfl
 refine aps Tryz.func196 ?_
 intro s
 conv=>whnf
 repeat' (first
  | (refine ⟨Sub.refl _,?_⟩)
  | (refine E7 (fun h=>?_) (fun h=>?_)<;>(try rw [h])<;>(try simp only [Bool.false_eq_true,Bool.true_eq_false,↓reduceIte,decide_eq_true_eq,decide_eq_false_iff_not,Bool.not_eq_true',Bool.not_eq_false'] at h)<;>(conv=>whnf))
  | (refine A6.pure' ?_ (B0v _);rintro _ rfl;conv=>whnf)
  | (refine C0.pure ?_ (B0v _);conv=>whnf)
  | (refine E1 ?_;conv=>whnf)
  | (refine AWp.any (by kernel_rfl) (by kernel_rfl) (by kernel_rfl) ?_;conv=>whnf)
  | (apply And.intro;(focus (first|omega|rfl|decide|exact Nat.le_of_ble_eq_true rfl|((repeat' (first|exact all_nil|refine all_cons ?_ ?_|rfl|fail));done)|(simp [-List.length_flatMap];done)|(simp [-List.length_flatMap];omega)|fail));conv=>whnf)
  | fail)
 all_goals simp only [show Int.toNat 0=0 from rfl,A20] at *
 ·subst h;simp at hpos
 ·refine C3 ?_
  simp [spelt];omega
 ·exact C3 (B3m (by omega) (by omega)).symm
 ·refine C3 ?_
  rw [hb,A92 (by omega) (by omega) (by omega)]
 ·refine C3 ?_
  rw [hb,A92 (by omega) (by omega) (by omega)]
theorem B3i (l:List UInt8):B7 Tryz.prog Γ 97 [.str l] fun v=>v=.bool (spelt l):=by
  refine aps Tryz.func97 ?_
  intro s
  conv=>whnf
  repeat' (first
    | (refine ⟨Sub.refl _,?_⟩)
    | (refine E7 (fun h=>?_) (fun h=>?_)<;>(try rw [h])<;>(try simp only [Bool.false_eq_true,Bool.true_eq_false,↓reduceIte,decide_eq_true_eq,decide_eq_false_iff_not,Bool.not_eq_true',Bool.not_eq_false'] at h)<;>(conv=>whnf))
    | (refine E1 ?_;conv=>whnf)
    | (refine AWp.any (by kernel_rfl) (by kernel_rfl) (by kernel_rfl) ?_;conv=>whnf)
    | (apply And.intro;(focus (first|omega|rfl|decide|exact Nat.le_of_ble_eq_true rfl|((repeat' (first|exact all_nil|refine all_cons ?_ ?_|rfl|fail));done)|(simp [-List.length_flatMap];done)|(simp [-List.length_flatMap];omega)|fail));conv=>whnf)
    | fail)
  · refine C3 ?_
    simp [spelt];omega
  · refine C3 ?_
    simp [spelt];omega
  refine AWp.loopA [3] [14,15,16,17,20,21,22,4,23,24,25,26,27,28,29,30,31,32,33,34,35,36,37,38,39,40,5,41,42,43,44,45,46,47,48,49,50,51,52,53,54,2,18,19] (fun i:Nat=>[.int .i64 i]) (fun i s'=>i≤l.length∧s'=s∧((l.take i).all fun c=>K9 c.toNat)=true∧(0 < i→¬ ((48:Int)≤(B9 l 0).toNat∧((B9 l 0).toNat:Int)≤57))) (fun i=>l.length - i) (0) (by kernel_rfl) (by (repeat' (first|refine C1 ?_ ?_|refine E3 ?_ ?_ ?_|rfl|omega))) ?_ ?_
  · exact ⟨by omega,rfl,rfl,fun h=>by omega⟩
  · rintro y i _ ⟨hi,rfl,hp,hq⟩
    have hb:=A9h (B9 l i)
    conv=>whnf
    repeat' (first
      | (exfalso;first|omega|exact (by assumption:¬ True) trivial|fail)
      | (refine ⟨Sub.refl _,?_⟩)
      | (refine E7 (fun h=>?_) (fun h=>?_)<;>(try rw [h])<;>(try simp only [Bool.false_eq_true,Bool.true_eq_false,↓reduceIte,decide_eq_true_eq,decide_eq_false_iff_not,Bool.not_eq_true',Bool.not_eq_false'] at h)<;>(conv=>whnf))
      | (refine E1 ?_;conv=>whnf)
      | (refine AWp.any (by kernel_rfl) (by kernel_rfl) (by kernel_rfl) ?_;conv=>whnf)
      | (apply And.intro;(focus (first|omega|rfl|decide|exact Nat.le_of_ble_eq_true rfl|((repeat' (first|exact all_nil|refine all_cons ?_ ?_|rfl|fail));done)|(simp [-List.length_flatMap];done)|(simp [-List.length_flatMap];omega)|fail));conv=>whnf)
      | fail)
    all_goals try simp only [Int.toNat_natCast] at *
    all_goals first
      | (refine ⟨i+1,by (repeat' (first|refine C1 ?_ ?_|refine E3 ?_ ?_ ?_|rfl|omega)),by (repeat (first|exact L0.refl _ _|refine L0.upd rfl ?_|refine L0.updL rfl ?_|refine L0.havoc rfl ?_)),⟨by omega,(by first|rfl|trivial),?_,?_⟩,by omega⟩
         · rw [A54 (by omega),List.all_append,hp]
           simp [K9];omega
         · intro _
           rcases Nat.eq_zero_or_pos i with h0|h0
           · subst h0;omega
           · exact hq h0)
      | (refine C3 ?_
         cases hw:K9 (B9 l i).toNat
         · exact (C55 (by omega) hw).symm
         · simp [K9] at hw
           have h0:i=0:=by omega
           subst h0
           exact (B3m (by omega) (by omega)).symm)
      | (refine C3 ?_
         have ht:l.take i=l:=List.take_of_length_le (by omega)
         rw [ht] at hp
         rw [A92 (by omega) (by omega) (hq (by omega))]
         exact hp.symm)
def words:List (List UInt8):=[[97,99,99,101,112,116],[97,108,115,111],[97,110,100],[98,111,111,108],[100,111],[101,118,101,110,116],[101,120,105,115,116,115],[102,97,108,115,101],[102,111,114,97,108,108],[102,114,101,101],[105,102],[105,110,116],[110,101,120,116],[110,111,116],[111,110],[111,114],[113,101,97],[115,107,105,112],[115,116,97,114,116],[115,116,114,105,110,103],[116,111],[116,114,117,101]]
def A7u:List (List UInt8)→List UInt8→Int
 | [],_=>-1
 | b::l,s=>if s=b then 0 else if A7u l s = -1 then -1 else A7u l s+1
theorem C0j:∀ (l:List (List UInt8)) (s:List UInt8),-1≤A7u l s∧A7u l s < l.length
 | [],s=>by simp [A7u]
 | b::l,s=>by have:=C0j l s;simp only [A7u,List.length_cons];split<;>(try split)<;>omega
theorem B5h:∀ (l:List (List UInt8)) (s:List UInt8),0≤A7u l s↔s ∈ l
 | [],s=>by simp [A7u]
 | b::l,s=>by
  have ih:=B5h l s
  have:=C0j l s
  simp only [A7u,List.mem_cons]
  split
  ·simp [*]
  ·rename_i hne
   split
   ·rename_i h1
    rw [h1] at ih
    constructor
    ·intro h;omega
    ·rintro (h|h)
     ·exact absurd h hne
     ·exact absurd (ih.2 h) (by omega)
   ·rw [← ih]
    constructor
    ·intro h;right;omega
    ·rintro (h|h)
     ·exact absurd h hne
     ·omega
def A35 (i:Nat) (k:Int):Int:=if k = -1 then -1 else i+k
theorem Y5 (t:Nat) (l:List (List UInt8)) (x:List UInt8) (hl:l.length≤140737488355328):B7 Tryz.prog Γ 261 [.slice t (D3 l),.str x] fun v=>v=.int .i64 (A7u l x):=by
 have hbl:=A18 l
 refine aps Tryz.func261 ?_
 intro s
 conv=>whnf
 refine AWp.loopA [8] [9,10,5,11,12,13,14,15,16,17,4,18] (fun i:Nat=>[.int .i64 i]) (fun i s'=>i≤l.length∧s'=s∧A7u l x=A35 i (A7u (l.drop i) x)) (fun i=>l.length - i) (0) (by kernel_rfl) (by (repeat' (first|refine C1 ?_ ?_|refine E3 ?_ ?_ ?_|rfl|omega))) ?_ ?_
 ·exact ⟨by omega,rfl,by simp [A35]⟩
 ·rintro y i _ ⟨hi,rfl,hp⟩
  conv=>whnf
  repeat' (first
   | (refine ⟨Sub.refl _,?_⟩)
   | (refine E7 (fun h=>?_) (fun h=>?_)<;>(try rw [h])<;>(try simp only [Bool.false_eq_true,Bool.true_eq_false,↓reduceIte,decide_eq_true_eq,decide_eq_false_iff_not,Bool.not_eq_true',Bool.not_eq_false'] at h)<;>(conv=>whnf))
   | (rw [B2q (by omega)];conv=>whnf)
   | (refine E1 ?_;conv=>whnf)
   | (refine AWp.any (by kernel_rfl) (by kernel_rfl) (by kernel_rfl) ?_;conv=>whnf)
   | (apply And.intro;(focus (first|omega|rfl|decide|exact Nat.le_of_ble_eq_true rfl|((repeat' (first|exact all_nil|refine all_cons ?_ ?_|rfl|fail));done)|(simp [-List.length_flatMap];done)|(simp [-List.length_flatMap];omega)|fail));conv=>whnf)
   | fail)
  ·simp only [Int.toNat_natCast] at h
   rw [hp,C13 (by omega),A7u,if_pos h]
   simp [A20,A35]
  ·simp only [Int.toNat_natCast] at h
   refine ⟨i+1,by (repeat' (first|refine C1 ?_ ?_|refine E3 ?_ ?_ ?_|rfl|omega)),by (repeat (first|exact L0.refl _ _|refine L0.upd rfl ?_|refine L0.updL rfl ?_|refine L0.havoc rfl ?_)),⟨by omega,rfl,?_⟩,by omega⟩
   rw [hp,C13 (i:=i) (by omega),A7u,if_neg h]
   have:=C0j (l.drop (i+1)) x
   grind [A35]
  ·rw [hp,D5 (by omega)]
   simp [A20,A35,A7u]
theorem V0 (t:Nat) (l:List (List UInt8)) (x:List UInt8) (hl:l.length≤140737488355328):B7 Tryz.prog Γ 239 [.slice t (D3 l),.str x] fun v=>v=.bool (decide (0≤A7u l x)):=by
 refine aps Tryz.func239 ?_
 intro s
 refine wr ?_;(first|(refine A6.pure' ?_ (Y5 _ _ _ hl);rintro _ rfl)|refine C0.pure ?_ (Y5 _ _ _ hl));refine wr ?_
 rfl
end Go.Proofs.YticnkpgmmpenlaaGreatDoor.Sc
namespace Go.Proofs.YticnkpgmmpenlaaGreatDoor.Sc
open Go Go.Ab Go.RowKit
variable {Γ:Nat→AV}
attribute [local irreducible] B7 Sto.set Sto.grow
def Wds (Γ:Nat→AV):Prop:=Γ 4=.cptr (words.map .str)
def B2c (l:List UInt8):Bool:=spelt l && decide (0≤A7u words l)
def D4 (l:List UInt8):Bool:=spelt l && !B2c l && !decide (l=[95])
theorem A6u (hT:Wds Γ) (l:List UInt8):B7 Tryz.prog Γ 197 [.str l] fun v=>v=.bool (B2c l):=by
 refine aps Tryz.func197 ?_
 intro s
 conv=>whnf
 repeat' (first
  | (refine ⟨Sub.refl _,?_⟩)
  | (refine E7 (fun h=>?_) (fun h=>?_)<;>(try rw [h])<;>(try simp only [Bool.false_eq_true,Bool.true_eq_false,↓reduceIte,decide_eq_true_eq,decide_eq_false_iff_not,Bool.not_eq_true',Bool.not_eq_false'] at h)<;>(conv=>whnf))
  | (refine A6.pure' ?_ (A2i _);rintro _ rfl;conv=>whnf)
  | (refine C0.pure ?_ (A2i _);conv=>whnf)
  | (rw [A5o,hT];conv=>whnf)
  | (refine A6.pure' ?_ (V0 0 words _ (by decide));rintro _ rfl;conv=>whnf)
  | (refine C0.pure ?_ (V0 0 words _ (by decide));conv=>whnf)
  | (refine E1 ?_;conv=>whnf)
  | (refine AWp.any (by kernel_rfl) (by kernel_rfl) (by kernel_rfl) ?_;conv=>whnf)
  | (apply And.intro;(focus (first|omega|rfl|decide|exact Nat.le_of_ble_eq_true rfl|((repeat' (first|exact all_nil|refine all_cons ?_ ?_|rfl|fail));done)|(simp [-List.length_flatMap];done)|(simp [-List.length_flatMap];omega)|fail));conv=>whnf)
  | fail)
 all_goals simp [A20,B2c, *]
theorem Q0 (hT:Wds Γ) (l:List UInt8):B7 Tryz.prog Γ 120 [.str l] fun v=>v=.bool (D4 l):=by
 refine aps Tryz.func120 ?_
 intro s
 conv=>whnf
 repeat' (first
  | (refine ⟨Sub.refl _,?_⟩)
  | (refine E7 (fun h=>?_) (fun h=>?_)<;>(try rw [h])<;>(try simp only [Bool.false_eq_true,Bool.true_eq_false,↓reduceIte,decide_eq_true_eq,decide_eq_false_iff_not,Bool.not_eq_true',Bool.not_eq_false'] at h)<;>(conv=>whnf))
  | (refine A6.pure' ?_ (A2i _);rintro _ rfl;conv=>whnf)
  | (refine C0.pure ?_ (A2i _);conv=>whnf)
  | (refine A6.pure' ?_ (A6u hT _);rintro _ rfl;conv=>whnf)
  | (refine C0.pure ?_ (A6u hT _);conv=>whnf)
  | (refine E1 ?_;conv=>whnf)
  | (refine AWp.any (by kernel_rfl) (by kernel_rfl) (by kernel_rfl) ?_;conv=>whnf)
  | (apply And.intro;(focus (first|omega|rfl|decide|exact Nat.le_of_ble_eq_true rfl|((repeat' (first|exact all_nil|refine all_cons ?_ ?_|rfl|fail));done)|(simp [-List.length_flatMap];done)|(simp [-List.length_flatMap];omega)|fail));conv=>whnf)
  | fail)
 all_goals simp [A20,D4, *]
theorem G4 (hT:Wds Γ) (l:List UInt8) (_:l.length≤9223372036854775807):B7 Tryz.prog Γ 120 [.str l] fun v=>v=.bool (D4 l):=Q0 hT l
theorem B3k:B7 Tryz.prog Γ 96 [] fun v=>v=.slice 1 (D3 words):=by
 refine aps Tryz.func96 ?_
 intro s
 refine wr ?_
 rfl
theorem C2n {l:List UInt8} (h:l ∈ words):D4 l=false:=by
 unfold D4 B2c
 rw [decide_eq_true ((B5h words l).2 h)]
 cases spelt l<;>rfl
theorem B29 {l:List UInt8} (h:¬ l ∈ words):D4 l=(spelt l && !decide (l=[95])):=by
 unfold D4 B2c
 rw [decide_eq_false (fun hh=>h ((B5h words l).1 hh))]
 simp
theorem D2x {l:List UInt8} (h:∀ j,j < words.length→¬ words.getD j []=l):¬ l ∈ words:=by
 intro hm
 obtain ⟨j,hj,he⟩:=List.getElem_of_mem hm
 refine h j hj ?_
 simp [List.getD,hj,he]
theorem F9 (l:List UInt8):B7 Tryz.prog Γ 39 [.str l] fun v=>v=.bool (D4 l):=by
 have hwl:(D3 words).length=words.length:=A18 words
 have hw:words.length=22:=rfl
 refine aps Tryz.func39 ?_
 intro s
 conv=>whnf
 repeat' (first
  | (refine ⟨Sub.refl _,?_⟩)
  | (refine E7 (fun h=>?_) (fun h=>?_)<;>(try rw [h])<;>(try simp only [Bool.false_eq_true,Bool.true_eq_false,↓reduceIte,decide_eq_true_eq,decide_eq_false_iff_not,Bool.not_eq_true',Bool.not_eq_false'] at h)<;>(conv=>whnf))
  | (refine A6.pure' ?_ (B3k);rintro _ rfl;conv=>whnf)
  | (refine C0.pure ?_ (B3k);conv=>whnf)
  | (refine E1 ?_;conv=>whnf)
  | (refine AWp.any (by kernel_rfl) (by kernel_rfl) (by kernel_rfl) ?_;conv=>whnf)
  | (apply And.intro;(focus (first|omega|rfl|decide|exact Nat.le_of_ble_eq_true rfl|((repeat' (first|exact all_nil|refine all_cons ?_ ?_|rfl|fail));done)|(simp [-List.length_flatMap];done)|(simp [-List.length_flatMap];omega)|fail));conv=>whnf)
  | fail)
 refine AWp.loopA [4] [6,7,8,9,12,13,14,15,16,17,2,10,11] (fun i:Nat=>[.int .i64 i]) (fun i s'=>i≤22∧s'=s∧∀ j,j < i→¬ words.getD j []=l) (fun i=>22 - i) (0) (by kernel_rfl) (by (repeat' (first|refine C1 ?_ ?_|refine E3 ?_ ?_ ?_|rfl|omega))) ?_ ?_
 ·exact ⟨by omega,rfl,fun j hj=>by omega⟩
 ·rintro y i _ ⟨hi,rfl,hp⟩
  conv=>whnf
  repeat' (first
   | (refine ⟨Sub.refl _,?_⟩)
   | (refine E7 (fun h=>?_) (fun h=>?_)<;>(try rw [h])<;>(try simp only [Bool.false_eq_true,Bool.true_eq_false,↓reduceIte,decide_eq_true_eq,decide_eq_false_iff_not,Bool.not_eq_true',Bool.not_eq_false'] at h)<;>(conv=>whnf))
   | (rw [B2q (by omega)];conv=>whnf)
   | (refine A6.pure' ?_ (B3i _);rintro _ rfl;conv=>whnf)
   | (refine C0.pure ?_ (B3i _);conv=>whnf)
   | (refine E1 ?_;conv=>whnf)
   | (refine AWp.any (by kernel_rfl) (by kernel_rfl) (by kernel_rfl) ?_;conv=>whnf)
   | (apply And.intro;(focus (first|omega|rfl|decide|exact Nat.le_of_ble_eq_true rfl|((repeat' (first|exact all_nil|refine all_cons ?_ ?_|rfl|fail));done)|(simp [-List.length_flatMap];done)|(simp [-List.length_flatMap];omega)|fail));conv=>whnf)
   | fail)
  ·simp only [Int.toNat_natCast] at h
   have hm:l ∈ words:=by
    rw [← h]
    simp only [List.getD,List.getElem?_eq_getElem (show i < words.length by omega),Option.getD_some]
    exact List.getElem_mem _
   rw [C2n hm]
   rfl
  ·simp only [Int.toNat_natCast] at h
   refine ⟨i+1,by (repeat' (first|refine C1 ?_ ?_|refine E3 ?_ ?_ ?_|rfl|omega)),by (repeat (first|exact L0.refl _ _|refine L0.upd rfl ?_|refine L0.updL rfl ?_|refine L0.havoc rfl ?_)),⟨by omega,rfl,fun j hj=>?_⟩,by omega⟩
   by_cases hji:j=i
   ·subst hji;exact h
   ·exact hp j (by omega)
  ·have hn:¬ l ∈ words:=D2x (fun j hj=>hp j (by omega))
   rw [B29 hn,h]
   rfl
  ·have hn:¬ l ∈ words:=D2x (fun j hj=>hp j (by omega))
   rw [B29 hn,h]
   rfl
end Go.Proofs.YticnkpgmmpenlaaGreatDoor.Sc
namespace Go.Proofs.YticnkpgmmpenlaaGreatDoor.Qu
open Go Go.Ab
attribute [local irreducible] B7 Sto.set Sto.grow
variable {Γ:Nat→AV}
def A41 (n:Int):Bool:=decide (32≤n) && decide (n≤126) && !decide (n=34) && !decide (n=92)
theorem B1m (n:Int):B7 Tryz.prog Γ 210 [.int .u8 n] fun v=>v=.bool (A41 n):=by
 refine aps Tryz.func210 ?_
 intro s
 conv=>whnf
 repeat' (first
  | (refine ⟨Sub.refl _,?_⟩)
  | (refine E7 (fun h=>?_) (fun h=>?_)<;>(try rw [h])<;>(try simp only [Bool.false_eq_true,Bool.true_eq_false,↓reduceIte,decide_eq_true_eq,decide_eq_false_iff_not,Bool.not_eq_true',Bool.not_eq_false'] at h)<;>(conv=>whnf))
  | (refine E1 ?_;conv=>whnf)
  | (refine AWp.any (by kernel_rfl) (by kernel_rfl) (by kernel_rfl) ?_;conv=>whnf)
  | (apply And.intro;(focus (first|omega|rfl|decide|exact Nat.le_of_ble_eq_true rfl|((repeat' (first|exact all_nil|refine all_cons ?_ ?_|rfl|fail));done)|(simp [-List.length_flatMap];done)|(simp [-List.length_flatMap];omega)|fail));conv=>whnf)
  | fail)
 all_goals grind [A41,A20]
def X7 (l:List UInt8):Bool:=l.all fun c=>A41 c.toNat
def A26:List UInt8:=[48,49,50,51,52,53,54,55,56,57,97,98,99,100,101,102]
def D1j (n:Int):UInt8:=B9 A26 n.toNat
theorem C8g:∀ n:Nat,n < 16→(A26.take (n+1)).drop n=[B9 A26 n]:=by decide
theorem D19 (n:Int) (h0:0≤n) (h1:n < 16):B7 Tryz.prog Γ 214 [.int .i64 n] fun v=>v=.str [D1j n]:=by
 refine aps Tryz.func214 ?_
 intro s
 conv=>whnf
 rw [C7 (a:=n+1) rfl (by omega) (by omega)]
 refine wr ?_
 show AV.str ((A26.take (n+1).toNat).drop n.toNat)=_
 rw [show (n+1).toNat=n.toNat+1 by omega,C8g _ (by omega)]
 rfl
def one (n:Int):List UInt8 :=
 if n=34 then [92,34] else if n=92 then [92,92] else if n=10 then [92,110] else if n=13 then [92,114] else if n=9 then [92,116]
 else if n < 32∨126 < n then [92,120,D1j (n / 16),D1j (n % 16)] else [UInt8.ofNat n.toNat]
theorem D26 (n:Int) (h0:0≤n) (h1:n < 256):B7 Tryz.prog Γ 150 [.int .u8 n] fun v=>v=.str (one n):=by
 have e0:IntKind.i64.wrap n=n:=C7 rfl (by omega) (by omega)
 have e1:IntKind.i64.wrap ((IntKind.i64.wrap n).tdiv 16)=n / 16:=by
  rw [e0,Int.tdiv_eq_ediv_of_nonneg h0];exact C7 rfl (by omega) (by omega)
 have e2:(IntKind.i64.wrap n).tmod 16=n % 16:=by
  rw [e0,Int.tmod_eq_emod_of_nonneg h0]
 refine aps Tryz.func150 ?_
 intro s
 conv=>whnf
 repeat' (first
  | (refine ⟨Sub.refl _,?_⟩)
  | (refine E7 (fun h=>?_) (fun h=>?_)<;>(try rw [h])<;>(try simp only [Bool.false_eq_true,Bool.true_eq_false,↓reduceIte,decide_eq_true_eq,decide_eq_false_iff_not,Bool.not_eq_true',Bool.not_eq_false'] at h)<;>(conv=>whnf))
  | (refine A6.pure' ?_ (D19 _ ?_ ?_);rintro _ rfl;conv=>whnf)
  | (refine C0.pure ?_ (D19 _ ?_ ?_);conv=>whnf)
  | (refine E1 ?_;conv=>whnf)
  | (refine AWp.any (by kernel_rfl) (by kernel_rfl) (by kernel_rfl) ?_;conv=>whnf)
  | (apply And.intro;(focus (first|omega|rfl|decide|exact Nat.le_of_ble_eq_true rfl|((repeat' (first|exact all_nil|refine all_cons ?_ ?_|rfl|fail));done)|(simp [-List.length_flatMap];done)|(simp [-List.length_flatMap];omega)|fail));conv=>whnf)
  | fail)
 all_goals first|(rw [e1];omega)|(rw [e2];omega)|skip
 all_goals (simp only [e1,e2,A20];grind [one])
theorem C9k (c:UInt8):A41 c.toNat=true→one c.toNat=[c]:=by
 intro h
 have:UInt8.ofNat ((c.toNat:Int).toNat)=c:=by simp
 grind [one,A41]
theorem C7d (c:UInt8):1≤(one c.toNat).length:=by grind [one]
theorem B05 (n:Int):(one n).length≤4:=by grind [one]
def A2x (l:List UInt8):List UInt8:=34::l.flatMap (fun c=>one c.toNat)++[34]
theorem B3g (l:List UInt8) (hl:l.length≤140737488355328):B7 Tryz.prog Γ 100 [.str l] fun v=>v=.str (A2x l):=by
 have hlen:∀ i,((l.take i).flatMap fun c=>one c.toNat).length≤4 * l.length:=fun i=>by
  have:=A4u (fun c:UInt8=>one c.toNat) 4 (fun c=>B05 _) (l.take i)
  simp only [List.length_take] at this
  omega
 refine aps Tryz.func100 ?_
 intro s
 conv=>whnf
 refine AWp.loopA [3,4] [5,6,7,8,11,12,13,14,15,16,9,10] (fun i:Nat=>[.str (34::(l.take i).flatMap fun c=>one c.toNat),.int .i64 i]) (fun i s'=>i≤l.length∧s'=s) (fun i=>l.length - i) (0) (by kernel_rfl) (by (repeat' (first|refine C1 ?_ ?_|refine E3 ?_ ?_ ?_|rfl|omega))) ?_ ?_
 ·exact ⟨by omega,rfl⟩
 ·rintro x i _ ⟨hi,rfl⟩
  have h1:=hlen i
  have h2:=B05 (B9 l i).toNat
  have h3:=A9h (B9 l i)
  conv=>whnf
  repeat' (first
   | (refine ⟨Sub.refl _,?_⟩)
   | (refine E7 (fun h=>?_) (fun h=>?_)<;>(try rw [h])<;>(try simp only [Bool.false_eq_true,Bool.true_eq_false,↓reduceIte,decide_eq_true_eq,decide_eq_false_iff_not,Bool.not_eq_true',Bool.not_eq_false'] at h)<;>(conv=>whnf))
   | (refine A6.pure' ?_ (D26 _ ?_ ?_);rintro _ rfl;conv=>whnf)
   | (refine C0.pure ?_ (D26 _ ?_ ?_);conv=>whnf)
   | (refine E1 ?_;conv=>whnf)
   | (refine AWp.any (by kernel_rfl) (by kernel_rfl) (by kernel_rfl) ?_;conv=>whnf)
   | (apply And.intro;(focus (first|omega|rfl|decide|exact Nat.le_of_ble_eq_true rfl|((repeat' (first|exact all_nil|refine all_cons ?_ ?_|rfl|fail));done)|(simp [-List.length_flatMap];done)|(simp [-List.length_flatMap];omega)|fail));conv=>whnf)
   | fail)
  ·refine ⟨i+1,?_,by (repeat (first|exact L0.refl _ _|refine L0.upd rfl ?_|refine L0.updL rfl ?_|refine L0.havoc rfl ?_)),⟨by omega,rfl⟩,by omega⟩
   refine C1 ?_ ?_
   ·show AV.str _=_
    rw [A54 (by omega)]
    simp
   ·exact by (repeat' (first|refine C1 ?_ ?_|refine E3 ?_ ?_ ?_|rfl|omega))
  ·omega
  ·simp;omega
  ·have:l.take i=l:=List.take_of_length_le (by omega)
   simp only [A20,this]
   rfl
end Go.Proofs.YticnkpgmmpenlaaGreatDoor.Qu
namespace Go.Proofs.YticnkpgmmpenlaaGreatDoor.Bd
open Go Go.Ab Go.RowKit
variable {Γ:Nat→AV}
structure Bld (s s':Sto) (b:Nat) (l:List UInt8):Prop where
 new:s.bx b=none
 at_:∃ p t,s'.bx b=some (149,[.ptr p,.slice t (J9 l)])∧(p=none∨p=some ⟨b,0,none⟩)∧Own s s' l.isEmpty t 5 1
section
variable {G:Gh} {s:Sto} {w:World}
theorem B6s {b:Nat} {T:TypeId} {cs:List AV} (h:s.bx b=some (T,cs)):s.set b T cs=s:=by
 cases s
 simp only [Sto.set,Sto.mk.injEq,and_true]
 funext i
 split
 ·rename_i hi;subst hi;exact h.symm
 ·rfl
theorem B0g {b:Nat} {p:Option Addr} {x:AV} (hb:s.bx b=some (149,[.ptr p,x])) (hp:p=none∨p=some ⟨b,0,none⟩) :
  A6 Tryz.prog Γ 146 [.ptr (some ⟨b,0,none⟩)] s fun v s'=>v=.tuple []∧s'=s.set b 149 [.ptr (some ⟨b,0,none⟩),x]:=by
 refine ⟨fun G w vs hm hr=>?_⟩
 obtain ⟨u,us,rfl,hu,hus⟩:=B8.1 hr
 rw [C2] at hus;subst hus
 rw [Q2] at hu;subst hu
 obtain ⟨_,cs,hh,hcs⟩:=hm.box b _ _ hb
 obtain ⟨c0,cs',rfl,h0,h1⟩:=B8.1 hcs
 obtain ⟨c1,cs'',rfl,hx,h2⟩:=B8.1 h1
 rw [C2] at h2;subst h2
 rw [Q2] at h0;subst h0
 have hcell:w.cell? ⟨b,0,none⟩=some (.pointer p):=by rw [Lib.cell_of_heap hh];rfl
 have hsh:w.shape? b=some (149,2):=by simp [World.shape?,hh]
 have hfz:w.frozen? ⟨b,0,none⟩=false:=Lib.frozen_of_heap hh 0
 have hsz:(Tryz.prog.info? 149).map (·.size)=some 2:=by kernel_rfl
 obtain ⟨j,hj,hjs⟩:=Option.map_eq_some_iff.1 hsz
 rcases hp with rfl|rfl
 ·refine Calls.mono (R:=fun e w'=>e=.returned (.tuple #[])∧w'=w.setCell ⟨b,0,none⟩ (.pointer (some ⟨b,0,none⟩))) ?_ ?_
  ·go_enter Tryz.func146,Tryz.ntmps146
   go_wp2
   rw [Lib.run_to_unsafe w ⟨b,0,none⟩ Tryz.underlying146 Tryz.underlying202 hj (by rw [hjs];decide) hsh (Nat.zero_lt_succ 1)]
   simp only [Result.andThen]
   rw [Oper.upon_value]
   go_wp2
   rw [run_callFunc_extern Tryz.func212 (by kernel_rfl) (by kernel_rfl) (by kernel_rfl) (e:=Extern.AbiNoEscape.same) (by kernel_rfl)]
   rw [Lib.run_noEscape]
   simp only [Result.andThen]
   rw [Oper.upon_value]
   go_wp2
   rw [Lib.run_from_unsafe w ⟨b,0,none⟩ Tryz.underlying202 Tryz.underlying146 hj hsh (by kernel_rfl)]
   simp only [Result.andThen]
   rw [Oper.upon_value]
   go_wp2
   go_end0
   exact ⟨rfl,rfl⟩
  ·rintro e w' ⟨rfl,rfl⟩
   have hlt:=A7m hm hb
   obtain ⟨m1,m2⟩:=hm.box_set (w':=w.setCell ⟨b,0,none⟩ (.pointer (some ⟨b,0,none⟩))) (T:=149) (cs':=[.ptr (some ⟨b,0,none⟩),x]) (vs:=[.pointer (some ⟨b,0,none⟩),c1]) hb
    (B8.2 ⟨_,_,rfl,Q2.2 rfl,B8.2 ⟨_,_,rfl,hx,C2.2 rfl⟩⟩) rfl rfl rfl (by simp [World.setCell])
    (by simp [World.setCell,Array.getElem?_modify,hh]) (fun k hk=>by simp [World.setCell,Array.getElem?_modify,Ne.symm hk])
   exact ⟨_,_,_,G,rfl,⟨rfl,rfl⟩,A2f.2 ⟨#[],rfl,C2.2 rfl⟩,m1,m2⟩
 ·refine Calls.mono (R:=fun e w'=>e=.returned (.tuple #[])∧w'=w) ?_ ?_
  ·go_enter Tryz.func146,Tryz.ntmps146
   go_wp2
   rw [Lib.run_neq_ptr_same w _ Tryz.underlying146 hj]
   go_wp2
   go_end0
   exact ⟨rfl,rfl⟩
  ·rintro e w' ⟨rfl,rfl⟩
   exact ⟨_,.tuple [],s,G,rfl,⟨rfl,(B6s hb).symm⟩,A2f.2 ⟨#[],rfl,C2.2 rfl⟩,hm,Ext.refl _ _⟩
end
section
variable {G:Gh} {s:Sto} {w:World}
def Sto.spend (s:Sto) (t:Nat):Sto:={ s with lv:=fun u e k=>s.lv u e k∧u≠t }
theorem C2e (w:World) (a:Addr) (n:Nat) (x:Addr):(w.freeze a n).cell? x=w.cell? x:=by
 unfold World.freeze
 split
 ·rfl
 ·unfold World.cell?
  simp only [Array.getElem?_modify]
  by_cases h:a.block=x.block
  ·rw [if_pos h]
   cases w.heap[x.block]? with
   | none=>rfl
   | some o=>cases o<;>simp
  ·rw [if_neg h]
theorem A3j (w:World) (a:Addr) (n:Nat) (b:Nat) (h:b≠a.block):(w.freeze a n).heap[b]?=w.heap[b]?:=by
 unfold World.freeze
 split
 ·rfl
 ·simp only [Array.getElem?_modify]
  rw [if_neg (fun e=>h e.symm)]
theorem B27 (w:World) (a:Addr) (n:Nat):(w.freeze a n).heap.size=w.heap.size:=by
 unfold World.freeze
 split<;>simp
theorem C8x (w:World) (a:Addr) (n:Nat):(w.freeze a n).os=w.os∧(w.freeze a n).tape=w.tape∧(w.freeze a n).output=w.output:=by
 unfold World.freeze
 split<;>exact ⟨rfl,rfl,rfl⟩
theorem Mod.frozen (hm:Mod Γ G s w) {t g n:Nat} {e:TypeId} {k:Nat} (hl:s.lv t e k) (ht:Top G w t g e k):Mod Γ G (Sto.spend s t) (w.freeze ⟨g,0,none⟩ n)∧Ext G w G (w.freeze ⟨g,0,none⟩ n):=by
 have hkd:∃ r,G.kd g=.row r:=by
  obtain ⟨_,_,_,_,_,h3,_⟩:=ht
  exact ⟨_,h3⟩
 obtain ⟨r,hkd⟩:=hkd
 obtain ⟨o1,o2,o3⟩:=C8x w ⟨g,0,none⟩ n
 have X:Ext G w G (w.freeze ⟨g,0,none⟩ n):=⟨o1,o2,o3,by rw [B27];exact Nat.le_refl _,
  fun b hb=>⟨hb,A3j _ _ _ _ (by rintro rfl;rw [hkd] at hb;cases hb)⟩,
  fun b h hb=>⟨.inr ⟨h,Nat.le_refl _,hb⟩,fun o _=>C2e _ _ _ _⟩,fun _ _=>rfl⟩
 have other:∀ {u b e' k'},s.lv u e' k'→u≠t→Top G w u b e' k'→b≠g:=by
  rintro u b e' k' hu hne h rfl
  exact hne (hm.apart u t b e' k' e k hu hl h ht)
 refine ⟨⟨fun i=>(hm.glob i).mono X,?_,?_,?_,?_,hm.fin⟩,X⟩
 ·intro b T cs hb
  obtain ⟨h1,vs,h2,h3⟩:=hm.box b T cs hb
  exact ⟨h1,vs,(A3j _ _ _ _ (by rintro rfl;rw [hkd] at h1;cases h1)).trans h2,h3.mono X _ _⟩
 ·intro b hb
  rw [B27];exact hm.dom b hb
 ·rintro u e' k' ⟨hu,hne⟩
  obtain ⟨h0,h1,b,h2⟩:=hm.live u e' k' hu
  exact ⟨h0,h1,b,h2.mono rfl rfl (A3j _ _ _ _ (other hu hne h2))⟩
 ·rintro u v b e1 k1 e2 k2 ⟨hu,hne⟩ ⟨hv,hne'⟩ h1 h2
  by_cases hb:b=g
  ·subst hb
   exfalso
   obtain ⟨_,_,b',h3⟩:=hm.live u e1 k1 hu
   have hb':=other hu hne h3
   obtain ⟨_,_,_,h4,_⟩:=h1
   obtain ⟨_,_,_,h5,_⟩:=h3
   rw [h4] at h5
   injection h5 with h5;injection h5 with h5;injection h5 with h5
   exact hb' h5.symm
  ·have hh:=A3j w ⟨g,0,none⟩ n b hb
   exact hm.apart u v b e1 k1 e2 k2 hu hv (h1.mono rfl rfl hh.symm) (h2.mono rfl rfl hh.symm)
theorem B8e:∀ {l:List UInt8} {os:List Value},C9 G w (J9 l).flatten os→os=Lib.byteCells l
 | [],os,h=>C2.1 h
 | x::l,os,h=>by
  have h:C9 G w (.int .u8 x.toNat::(J9 l).flatten) os:=h
  obtain ⟨u,us,rfl,hu,hus⟩:=B8.1 h
  rw [G3] at hu
  rw [hu,B8e hus]
  rfl
end
theorem C7u {s s':Sto} {b:Nat} {l:List UInt8} (h:Bld s s' b l) (h0:l≠[]) (hmax:l.length≤9223372036854775807) :
  A6 Tryz.prog Γ 95 [.ptr (some ⟨b,0,none⟩)] s' fun v s''=>v=.str l∧Sub s s'':=by
 obtain ⟨hnew,p,t,hb,hp,ho⟩:=h
 refine ⟨fun G w vs hm hr=>?_⟩
 obtain ⟨u,us,rfl,hu,hus⟩:=B8.1 hr
 rw [C2] at hus;subst hus
 rw [Q2] at hu;subst hu
 obtain ⟨_,cs,hh,hcs⟩:=hm.box b _ _ hb
 obtain ⟨c0,cs',rfl,hc0,h1⟩:=B8.1 hcs
 obtain ⟨c1,cs'',rfl,hx,h2⟩:=B8.1 h1
 rw [C2] at h2;subst h2
 rw [Q2] at hc0;subst hc0
 obtain ⟨ht1,hlv,hno⟩:t≠1∧s'.lv t 5 1∧∀ e k,¬ s.lv t e k:=by
  rcases ho.own with ⟨_,hz⟩|h
  ·exact absurd (List.isEmpty_iff.1 hz) h0
  ·exact h
 obtain ⟨ht0,_,g,htop⟩:=hm.live t _ _ hlv
 have htop':=htop
 obtain ⟨len,cap,c,htk,hle,hkd,hhg,hcsz⟩:=htop
 have hval:=(A2e.1 hx).1 ht0 ht1
 rw [htk] at hval
 subst hval
 obtain ⟨a,cap',hv,_,_,hels,_⟩:=L7 hx
 injection hv with e1 e2 e3
 subst e1 e2 e3
 have hbl:(J9 l).length=l.length:=A4a l
 obtain ⟨b',o',k',ha,hel⟩:=hels (by intro hn;rw [hn] at hbl;exact h0 (List.eq_nil_of_length_eq_zero hbl.symm))
 injection ha with ha;injection ha with ha1 ha2;subst ha1 ha2
 obtain ⟨os,h3,h4,h5⟩:=S4 _ hel
 have hos:os=Lib.byteCells l:=B8e h4
 subst hos
 have hhd:w.drew.heap[b]?=some (.cells #[.pointer p,.slice (some ⟨g,0,none⟩) (J9 l).length cap] 149 (0,0)):=hh
 have hc1:w.drew.cell? ⟨b,1,none⟩=some (.slice (some ⟨g,0,none⟩) l.length cap):=by rw [Lib.cell_of_heap hhd,hbl];rfl
 have hpos:0 < l.length:=List.length_pos_iff.2 h0
 have hcap:l.length≤cap:=by rw [← hbl];exact hle
 have hSD:(Builtin.unsafeSliceData_ #[147] 192 #[.slice (some ⟨g,0,none⟩) l.length cap]).run Tryz.prog w.drew=.ok (.pointer (some ⟨g,0,none⟩)) w.drew :=
  Lib.run_unsafeSliceData_row _ _ _ _ _ _ (by omega)
 have hgd:w.drew.heap[g]?=some (.cells c 5 (0,0)):=hhg
 have hmaxc:l.length≤9223372036854775807:=hmax
 have hUS:(Builtin.unsafeString_ #[192,3] 9 #[.pointer (some ⟨g,0,none⟩),.int .i64 l.length]).run Tryz.prog w.drew=.ok (.string ⟨l.toArray⟩) (w.drew.freeze ⟨g,0,none⟩ l.length):=by
  refine Lib.run_unsafeString_row w.drew 192 3 9 5 Tryz.underlying192 (by kernel_rfl) g c.size (by simp [World.shape?,hgd]) l h0 (by omega) hmaxc ?_
  intro j x hxj
  have:=h5 j (.int .u8 x.toNat) (by simp [Lib.byteCells,hxj])
  rw [Addr.add_lit];exact this
 refine Calls.mono (R:=fun e w'=>e=.returned (.string ⟨l.toArray⟩)∧w'=w.drew.freeze ⟨g,0,none⟩ l.length) ?_ ?_
 ·have mixed:Tryz.prog.follows .mixedOrders=true:=by kernel_rfl
  go_enter Tryz.func95,Tryz.ntmps95
  go_wp2
  go_region_o
  all_goals (go_wp2;go_ret;exact ⟨rfl,rfl⟩)
 ·rintro e w' ⟨rfl,rfl⟩
  obtain ⟨md,Xd⟩:=hm.drew
  obtain ⟨m1,m2⟩:=Mod.frozen md (n:=l.length) hlv (htop'.mono (w':=w.drew) (G':=G) rfl rfl rfl)
  exact ⟨_,.str l,Sto.spend s' t,G,rfl,⟨rfl,fun b x hx=>ho.sub.bx b x hx,fun u e k hu=>⟨ho.sub.lv u e k hu,by rintro rfl;exact hno _ _ hu⟩⟩,K4.2 rfl,m1,Xd.trans m2⟩
attribute [local irreducible] B7 Sto.set Sto.grow
theorem Bld.start {s:Sto} {b:Nat} (hb:s.bx b=none):Bld s (s.set b 149 [.ptr none,.slice 1 []]) b [] :=
 ⟨hb,none,1,A7,.inl rfl,Own.start ((Sub.refl s).set hb _ _) _ _⟩
theorem A95 {s s':Sto} {b:Nat} {l:List UInt8} (c:UInt8) (n:Int) (hn:n=c.toNat) (h:Bld s s' b l) (hl:l.length+1≤70368744177664) :
  A6 Tryz.prog Γ 144 [.ptr (some ⟨b,0,none⟩),.int .u8 n] s' fun v s''=>v=.nilIface∧Bld s s'' b (l++[c]):=by
 subst hn
 obtain ⟨h0,p,t,hb,hp,ho⟩:=h
 refine acs Tryz.func144 ?_
 conv=>whnf
 refine A6.by (B0g hb hp) ?_
 rintro _ _ ⟨rfl,rfl⟩
 conv=>whnf
 refine E1 ?_
 refine wr ?_
 have ho':Own s (s'.set b 149 [.ptr (some ⟨b,0,none⟩),.slice t (J9 l)]) l.isEmpty t 5 1:=ho.set h0
 refine ⟨ho'.may,A9p l,all_cons ⟨rfl,rfl⟩ all_nil,?_,?_⟩
 ·show ((J9 l).length+1) * (1+1)≤_
  rw [A4a];omega
 intro t' h1 h2
 have ho2:=ho'.grow h1 h2
 conv=>whnf
 refine W8 (E1 ?_)
 refine wr ?_
 refine ⟨_,Sub.refl _,rfl,h0,_,t',by rw [A46];exact A7,.inr rfl,?_⟩
 have e:(l++[c]).isEmpty=(l.isEmpty && [[AV.int .u8 c.toNat]].isEmpty):=by simp
 rw [e]
 exact ho2.set h0
theorem B4h {s s':Sto} {b:Nat} {l:List UInt8} (m:List UInt8) (h:Bld s s' b l) (hl:l.length+m.length≤70368744177664) :
  A6 Tryz.prog Γ 94 [.ptr (some ⟨b,0,none⟩),.str m] s' fun v s''=>v=.tuple [.int .i64 m.length,.nilIface]∧Bld s s'' b (l++m):=by
 obtain ⟨h0,p,t,hb,hp,ho⟩:=h
 refine acs Tryz.func94 ?_
 conv=>whnf
 refine A6.by (B0g hb hp) ?_
 rintro _ _ ⟨rfl,rfl⟩
 conv=>whnf
 refine E1 ?_
 refine wr ?_
 have ho':Own s (s'.set b 149 [.ptr (some ⟨b,0,none⟩),.slice t (J9 l)]) l.isEmpty t 5 1:=ho.set h0
 refine ⟨ho'.may,A9p l,?_,?_⟩
 ·show ((J9 l).length+m.length) * (1+1)≤_
  rw [A4a];omega
 intro t' h1 h2
 have ho2:=ho'.grow h1 h2
 conv=>whnf
 refine W8 (E1 ?_)
 refine wr ?_
 refine ⟨_,Sub.refl _,rfl,h0,_,t',by rw [A46];exact A7,.inr rfl,?_⟩
 have e:(l++m).isEmpty=(l.isEmpty && m.isEmpty):=by cases l<;>simp
 rw [e]
 exact ho2.set h0
end Go.Proofs.YticnkpgmmpenlaaGreatDoor.Bd
namespace Go.Proofs.YticnkpgmmpenlaaGreatDoor.Qu
open Go Go.Ab Go.Proofs.YticnkpgmmpenlaaGreatDoor.Bd
attribute [local irreducible] B7 Sto.set Sto.grow
variable {Γ:Nat→AV}
def N6:List UInt8→Int→Int
 | [],_=>-1
 | b::l,n=>if n=b.toNat then 0 else if N6 l n = -1 then -1 else N6 l n+1
theorem B5g:∀ (l:List UInt8) (n:Int),-1≤N6 l n∧N6 l n < l.length
 | [],n=>by simp [N6]
 | b::l,n=>by have:=B5g l n;simp only [N6,List.length_cons];split<;>(try split)<;>omega
def A35 (i:Nat) (k:Int):Int:=if k = -1 then -1 else i+k
theorem Y5 (t:Nat) (l:List UInt8) (n:Int) (hl:l.length≤140737488355328):B7 Tryz.prog Γ 211 [.slice t (J9 l),.int .u8 n] fun v=>v=.int .i64 (N6 l n):=by
 have hbl:(J9 l).length=l.length:=A4a l
 refine aps Tryz.func211 ?_
 intro s
 conv=>whnf
 refine AWp.loopA [8] [9,10,5,11,12,13,14,15,16,17,4,18] (fun i:Nat=>[.int .i64 i]) (fun i s'=>i≤l.length∧s'=s∧N6 l n=A35 i (N6 (l.drop i) n)) (fun i=>l.length - i) (0) (by kernel_rfl) (by (repeat' (first|refine C1 ?_ ?_|refine E3 ?_ ?_ ?_|rfl|omega))) ?_ ?_
 ·exact ⟨by omega,rfl,by simp [A35]⟩
 ·rintro x i _ ⟨hi,rfl,hp⟩
  conv=>whnf
  repeat' (first
   | (refine ⟨Sub.refl _,?_⟩)
   | (refine E7 (fun h=>?_) (fun h=>?_)<;>(try rw [h])<;>(try simp only [Bool.false_eq_true,Bool.true_eq_false,↓reduceIte,decide_eq_true_eq,decide_eq_false_iff_not,Bool.not_eq_true',Bool.not_eq_false'] at h)<;>(conv=>whnf))
   | (rw [C4l (by omega)];conv=>whnf)
   | (refine E1 ?_;conv=>whnf)
   | (refine AWp.any (by kernel_rfl) (by kernel_rfl) (by kernel_rfl) ?_;conv=>whnf)
   | (apply And.intro;(focus (first|omega|rfl|decide|exact Nat.le_of_ble_eq_true rfl|((repeat' (first|exact all_nil|refine all_cons ?_ ?_|rfl|fail));done)|(simp [-List.length_flatMap];done)|(simp [-List.length_flatMap];omega)|fail));conv=>whnf)
   | fail)
  ·rw [hp,A08 (by omega),N6,if_pos (by simp at h;exact h)]
   simp [A20,A35]
  ·refine ⟨i+1,by (repeat' (first|refine C1 ?_ ?_|refine E3 ?_ ?_ ?_|rfl|omega)),by (repeat (first|exact L0.refl _ _|refine L0.upd rfl ?_|refine L0.updL rfl ?_|refine L0.havoc rfl ?_)),⟨by omega,rfl,?_⟩,by omega⟩
   rw [hp,A08 (i:=i) (by omega),N6,if_neg (by simp at h;exact h)]
   have:=B5g (l.drop (i+1)) n
   grind [A35]
  ·rw [hp,D5 (by omega)]
   simp [A20,A35,N6]
def marks:List UInt8:=[34,92,10,13,9]
def letters:List UInt8:=[34,92,110,114,116]
structure A10 (Γ:Nat→AV):Prop where
 marks:Γ 2=.cptr [.int .u8 34,.int .u8 92,.int .u8 10,.int .u8 13,.int .u8 9]
 letters:Γ 3=.cptr [.int .u8 34,.int .u8 92,.int .u8 110,.int .u8 114,.int .u8 116]
theorem D9i:∀ m:Nat,m < 256→(m:Int).fdiv (2 ^ min (Int.toNat 4) IntKind.u8.bits)=((m / 16:Nat):Int):=by decide +kernel
theorem D9l:∀ m:Nat,m < 256→IntKind.u8.wrap ((BitVec.ofInt IntKind.u8.bits (m:Int) &&& BitVec.ofInt IntKind.u8.bits 15).toNat:Nat)=((m % 16:Nat):Int):=by decide +kernel
theorem B44:∀ m:Nat,m < 16→UInt8.ofNat (Int.toNat ((B9 A26 m).toNat:Nat))=B9 A26 m:=by decide +kernel
theorem C27:∀ m:Nat,m < 256→A41 (m:Int)=false→¬ 0≤N6 marks (m:Int)→one (m:Int)=[92,120,B9 A26 (m / 16),B9 A26 (m % 16)]:=by decide +kernel
theorem B6k (hT:A10 Γ) (n:Int) (h0:0≤n) (h1:n < 256):B7 Tryz.prog Γ 145 [.int .u8 n] fun v=>v=.str (one n):=by
 obtain ⟨m,rfl⟩:∃ m:Nat,n=m:=⟨n.toNat,by omega⟩
 have hm:m < 256:=by omega
 refine aps Tryz.func145 ?_
 intro s
 conv=>whnf
 repeat' (first
  | (refine ⟨Sub.refl _,?_⟩)
  | (refine E7 (fun h=>?_) (fun h=>?_)<;>(try rw [h])<;>(try simp only [Bool.false_eq_true,Bool.true_eq_false,↓reduceIte,decide_eq_true_eq,decide_eq_false_iff_not,Bool.not_eq_true',Bool.not_eq_false'] at h)<;>(conv=>whnf))
  | (refine A6.pure' ?_ (B1m _);rintro _ rfl;conv=>whnf)
  | (refine C0.pure ?_ (B1m _);conv=>whnf)
  | (refine A6.pure' ?_ (Y5 0 marks _ (by decide));rintro _ rfl;conv=>whnf)
  | (refine C0.pure ?_ (Y5 0 marks _ (by decide));conv=>whnf)
  | (rw [A5o,hT.marks];conv=>whnf)
  | (rw [A5o,hT.letters];conv=>whnf)
  | (refine E1 ?_;conv=>whnf)
  | (refine AWp.any (by kernel_rfl) (by kernel_rfl) (by kernel_rfl) ?_;conv=>whnf)
  | (apply And.intro;(focus (first|omega|rfl|decide|exact Nat.le_of_ble_eq_true rfl|((repeat' (first|exact all_nil|refine all_cons ?_ ?_|rfl|fail));done)|(simp [-List.length_flatMap];done)|(simp [-List.length_flatMap];omega)|fail));conv=>whnf)
  | fail)
 ·grind [A20,one,A41]
 ·have hm5:m=34∨m=92∨m=10∨m=13∨m=9:=by grind [N6,marks]
  rcases hm5 with rfl|rfl|rfl|rfl|rfl
  all_goals refine wr ?_
  all_goals rfl
 rw [D9i m hm]
 refine wr ?_;(rw [D9l m hm]);refine wr ?_
 intro b hb
 refine wr ?_
 refine ⟨((Sub.refl _).set hb _ _).set hb _ _,?_⟩
 rename_i hs
 rw [C27 m hm hs h,← B44 (m / 16) (by omega),← B44 (m % 16) (by omega)]
 rfl
theorem B1a (hT:A10 Γ) (l:List UInt8) (hl:l.length≤4398046511104):B7 Tryz.prog Γ 92 [.str l] fun v=>v=.str (A2x l):=by
 have hlen:∀ i,((l.take i).flatMap fun c=>one c.toNat).length≤4 * l.length:=fun i=>by
  have:=A4u (fun c:UInt8=>one c.toNat) 4 (fun c=>B05 _) (l.take i)
  simp only [List.length_take] at this
  omega
 refine aps Tryz.func92 ?_
 intro s
 conv=>whnf
 intro b hb
 conv=>whnf
 refine A6.by (A95 34 34 rfl (Bld.start hb) (by simp)) ?_
 rintro _ s1 ⟨rfl,hB⟩
 conv=>whnf
 refine AWp.loopA [8] [9,10,4,11,12,13,14,15,16] (fun i:Nat=>[.int .i64 i]) (fun i s'=>i≤l.length∧Bld s s' b (34::(l.take i).flatMap fun c=>one c.toNat)) (fun i=>l.length - i) (0) (by kernel_rfl) (by (repeat' (first|refine C1 ?_ ?_|refine E3 ?_ ?_ ?_|rfl|omega))) ?_ ?_
 ·exact ⟨by omega,hB⟩
 ·rintro x i s' ⟨hi,hB'⟩
  have h1:=hlen i
  have h2:=B05 (B9 l i).toNat
  have h3:=A9h (B9 l i)
  conv=>whnf
  repeat' (first
   | (refine ⟨Sub.refl _,?_⟩)
   | (refine E7 (fun h=>?_) (fun h=>?_)<;>(try rw [h])<;>(try simp only [Bool.false_eq_true,Bool.true_eq_false,↓reduceIte,decide_eq_true_eq,decide_eq_false_iff_not,Bool.not_eq_true',Bool.not_eq_false'] at h)<;>(conv=>whnf))
   | (refine A6.pure' ?_ (B6k hT _ ?_ ?_);rintro _ rfl;conv=>whnf)
   | (refine C0.pure ?_ (B6k hT _ ?_ ?_);conv=>whnf)
   | (refine E1 ?_;conv=>whnf)
   | (refine AWp.any (by kernel_rfl) (by kernel_rfl) (by kernel_rfl) ?_;conv=>whnf)
   | (apply And.intro;(focus (first|omega|rfl|decide|exact Nat.le_of_ble_eq_true rfl|((repeat' (first|exact all_nil|refine all_cons ?_ ?_|rfl|fail));done)|(simp [-List.length_flatMap];done)|(simp [-List.length_flatMap];omega)|fail));conv=>whnf)
   | fail)
  ·refine A6.by (B4h _ hB' (by simp [-List.length_flatMap];omega)) ?_
   rintro _ s2 ⟨rfl,hB2⟩
   conv=>whnf
   refine ⟨i+1,by (repeat' (first|refine C1 ?_ ?_|refine E3 ?_ ?_ ?_|rfl|omega)),by (repeat (first|exact L0.refl _ _|refine L0.upd rfl ?_|refine L0.updL rfl ?_|refine L0.havoc rfl ?_)),⟨by omega,?_⟩,by omega⟩
   rw [A54 (by omega)]
   simpa using hB2
  ·omega
  ·simp;omega
  ·have ht:l.take i=l:=List.take_of_length_le (by omega)
   rw [ht] at hB' h1
   refine A6.by (A95 34 34 rfl hB' (by simp [-List.length_flatMap];omega)) ?_
   rintro _ s2 ⟨rfl,hB2⟩
   conv=>whnf
   refine A6.by (C7u hB2 (by simp) (by simp [-List.length_flatMap];omega)) ?_
   rintro _ s3 ⟨rfl,hs⟩
   conv=>whnf
   exact ⟨hs,rfl⟩
end Go.Proofs.YticnkpgmmpenlaaGreatDoor.Qu
namespace Go.Proofs.YticnkpgmmpenlaaGreatDoor.Qu
open Go Go.Ab Go.Proofs.YticnkpgmmpenlaaGreatDoor.Bd Go.Proofs.YticnkpgmmpenlaaGreatDoor.Ix
attribute [local irreducible] B7 Sto.set Sto.grow
variable {Γ:Nat→AV}
theorem V0 (t:Nat) (l:List UInt8) (n:Int) (hl:l.length≤140737488355328):B7 Tryz.prog Γ 284 [.slice t (J9 l),.int .u8 n] fun v=>v=.bool (decide (0≤N6 l n)):=by
 refine aps Tryz.func284 ?_
 intro s
 refine wr ?_;(first|(refine A6.pure' ?_ (Y5 _ _ _ hl);rintro _ rfl)|refine C0.pure ?_ (Y5 _ _ _ hl));refine wr ?_
 rfl
def J2 (b:UInt8):Int:=Lib.indexByte A26 b
theorem B1t (b:UInt8):J2 b < 16:=by
 have h:∀ n:Nat,n < 256→J2 (UInt8.ofNat n) < 16:=by decide +kernel
 simpa using h b.toNat (A9h b)
theorem B1o {s:Sto} {b:Nat} {l:List UInt8} (k:Nat) (hk:k < l.length) (hb:s.bx b=some (9,[.str l])) :
  A6 Tryz.prog Γ 283 [.int .i64 k,.ptr (some ⟨b,0,none⟩)] s fun v s'=>v=.int .i64 (J2 (B9 l k))∧s'=s:=by
 refine acs Tryz.func283 ?_
 conv=>whnf
 rw [hb]
 refine wr ?_;(first|(refine A6.pure' ?_ (A6k _ _);rintro _ rfl)|refine C0.pure ?_ (A6k _ _));refine wr ?_
 refine ⟨_,Sub.refl _,?_,rfl⟩
 show AV.int .i64 (Lib.indexByte A26 _)=_
 simp [J2]
def tk (l:List UInt8):Int × Int :=
 if A41 (B9 l 0).toNat then ((B9 l 0).toNat,1)
 else if ¬ ((B9 l 0).toNat:Int)=92∨l.length < 2 then (0,0)
 else if ¬ ((B9 l 1).toNat:Int)=120 then
  (if N6 letters (B9 l 1).toNat < 0 then (0,0) else ((B9 marks (N6 letters (B9 l 1).toNat).toNat).toNat,2))
 else if l.length < 4∨J2 (B9 l 2) < 0∨J2 (B9 l 3) < 0 then (0,0)
 else if A41 (J2 (B9 l 2) * 16+J2 (B9 l 3))∨0≤N6 marks (J2 (B9 l 2) * 16+J2 (B9 l 3)) then (0,0)
 else (J2 (B9 l 2) * 16+J2 (B9 l 3),4)
theorem D96:∀ a:Nat,a < 16→∀ b:Nat,b < 16→IntKind.u8.wrap (IntKind.i64.wrap (BitVec.ofInt IntKind.i64.bits (IntKind.i64.wrap ((a:Int) * 2 ^ min (Int.toNat 4) IntKind.i64.bits)) ||| BitVec.ofInt IntKind.i64.bits (b:Int)).toNat)=((a * 16+b:Nat):Int):=by decide +kernel
theorem B4y {x y:UInt8} (hx:¬ J2 x < 0) (hy:¬ J2 y < 0) :
  IntKind.u8.wrap (IntKind.i64.wrap (BitVec.ofInt IntKind.i64.bits (IntKind.i64.wrap (J2 x * 2 ^ min (Int.toNat 4) IntKind.i64.bits)) ||| BitVec.ofInt IntKind.i64.bits (J2 y)).toNat)=J2 x * 16+J2 y:=by
 have h1:=B1t x
 have h2:=B1t y
 obtain ⟨a,ha⟩:∃ a:Nat,J2 x=a:=⟨(J2 x).toNat,by omega⟩
 obtain ⟨b,hb⟩:∃ b:Nat,J2 y=b:=⟨(J2 y).toNat,by omega⟩
 rw [ha] at h1 hx ⊢
 rw [hb] at h2 hy ⊢
 rw [D96 a (by omega) b (by omega)]
 simp
theorem C1g (hT:A10 Γ) (l:List UInt8) (h0:0 < l.length) (hl:l.length≤140737488355328) :
  B7 Tryz.prog Γ 269 [.str l] fun v=>v=.tuple [.int .u8 (tk l).1,.int .i64 (tk l).2]:=by
 refine aps Tryz.func269 ?_
 intro s
 conv=>whnf
 intro b hb
 conv=>whnf
 have hi5:N6 letters (B9 l (Int.toNat 1)).toNat < 5:=(B5g letters _).2
 repeat' (first
  | (refine ⟨Sub.refl _,?_⟩)
  | (refine E7 (fun h=>?_) (fun h=>?_)<;>(try rw [h])<;>(try simp only [Bool.false_eq_true,Bool.true_eq_false,↓reduceIte,decide_eq_true_eq,decide_eq_false_iff_not,Bool.not_eq_true',Bool.not_eq_false'] at h)<;>(conv=>whnf))
  | (refine A6.pure' ?_ (B1m _);rintro _ rfl;conv=>whnf)
  | (refine C0.pure ?_ (B1m _);conv=>whnf)
  | (rw [A5o,hT.marks];conv=>whnf)
  | (rw [A5o,hT.letters];conv=>whnf)
  | (refine A6.pure' ?_ (Y5 0 letters _ (by decide));rintro _ rfl;conv=>whnf)
  | (refine C0.pure ?_ (Y5 0 letters _ (by decide));conv=>whnf)
  | (refine A6.pure' ?_ (V0 0 marks _ (by decide));rintro _ rfl;conv=>whnf)
  | (refine C0.pure ?_ (V0 0 marks _ (by decide));conv=>whnf)
  | (refine A6.by (B1o 2 (by omega) A7) ?_;rintro _ _ ⟨rfl,rfl⟩;conv=>whnf)
  | (refine A6.by (B1o 3 (by omega) A7) ?_;rintro _ _ ⟨rfl,rfl⟩;conv=>whnf)
  | (refine E1 ?_;conv=>whnf)
  | (refine AWp.any (by kernel_rfl) (by kernel_rfl) (by kernel_rfl) ?_;conv=>whnf)
  | (apply And.intro;(focus (first|omega|rfl|decide|exact Nat.le_of_ble_eq_true rfl|((repeat' (first|exact all_nil|refine all_cons ?_ ?_|rfl|fail));done)|(simp [-List.length_flatMap];done)|(simp [-List.length_flatMap];omega)|fail));conv=>whnf)
  | fail)
 case right.right.refine_2.right.right.refine_2.refine_2.right.right.refine_1.right.right.right.right.right.refine_2.right.right =>
  have hc:N6 letters (B9 l (Int.toNat 1)).toNat=0∨N6 letters (B9 l (Int.toNat 1)).toNat=1∨N6 letters (B9 l (Int.toNat 1)).toNat=2∨N6 letters (B9 l (Int.toNat 1)).toNat=3∨N6 letters (B9 l (Int.toNat 1)).toNat=4:=by omega
  simp only [show Int.toNat 0=0 from rfl,show Int.toNat 1=1 from rfl] at *
  rcases hc with hc|hc|hc|hc|hc
  all_goals
   rw [hc]
   conv=>whnf
   refine ⟨(Sub.refl _).set hb _ _,?_⟩
   have e0:A41 92=false:=rfl
   have m0:((B9 marks 0).toNat:Int)=34:=rfl
   have m1:((B9 marks 1).toNat:Int)=92:=rfl
   have m2:((B9 marks 2).toNat:Int)=10:=rfl
   have m3:((B9 marks 3).toNat:Int)=13:=rfl
   have m4:((B9 marks 4).toNat:Int)=9:=rfl
   grind [tk,A20]
 all_goals refine ⟨(Sub.refl _).set hb _ _,?_⟩
 all_goals simp only [show Int.toNat 0=0 from rfl,show Int.toNat 1=1 from rfl] at *
 all_goals try simp only [B4y, *,not_false_eq_true] at *
 all_goals grind [tk,A20,B4y]
def fine (m:Nat):Bool :=
 (A41 m && decide (one m=[UInt8.ofNat m])) ||
 (match one m with
 | [a,x]=>decide (a=92) && decide (x≠120) && decide (0≤N6 letters x.toNat) && decide (((B9 marks (N6 letters x.toNat).toNat).toNat:Int)=m)
 | [a,b,x,y]=>decide (a=92) && decide (b=120) && decide (0≤J2 x) && decide (0≤J2 y) && decide (J2 x * 16+J2 y=m) && !A41 m && decide (N6 marks m < 0)
 | _=>false)
theorem D1u:∀ m:Nat,m < 256→fine m=true:=by decide +kernel
theorem D4l (m:Nat) (hm:m < 256) (r:List UInt8):tk (one m++r)=((m:Int),((one m).length:Int)):=by
 have h:=D1u m hm
 unfold fine at h
 rw [Bool.or_eq_true] at h
 rcases h with h|h
 ·simp only [Bool.and_eq_true,decide_eq_true_eq] at h
  rw [h.2]
  have e:((UInt8.ofNat m).toNat:Int)=m:=by simp [Nat.mod_eq_of_lt hm]
  unfold tk
  have e1:B9 ([UInt8.ofNat m]++r) 0=UInt8.ofNat m:=rfl
  rw [e1,e,if_pos h.1]
  rfl
 ·split at h
  ·rename_i a x hx
   simp only [Bool.and_eq_true,decide_eq_true_eq] at h
   obtain ⟨⟨⟨rfl,h2⟩,h3⟩,h4⟩:=h
   rw [hx]
   unfold tk
   have e0:B9 ([92,x]++r) 0=92:=rfl
   have e1:B9 ([92,x]++r) 1=x:=rfl
   have e2:¬ (x.toNat:Int)=120:=fun hh=>h2 (UInt8.toNat_inj.1 (by simpa using Int.ofNat.inj hh))
   rw [e0,e1,if_neg (by decide),if_neg (by simp),if_pos e2,if_neg (by omega),h4]
   rfl
  ·rename_i a b x y hx
   simp only [Bool.and_eq_true,decide_eq_true_eq,Bool.not_eq_true'] at h
   obtain ⟨⟨⟨⟨⟨⟨rfl,rfl⟩,h3⟩,h4⟩,h5⟩,h6⟩,h7⟩:=h
   rw [hx]
   unfold tk
   have e0:B9 ([92,120,x,y]++r) 0=92:=rfl
   have e1:B9 ([92,120,x,y]++r) 1=120:=rfl
   have e2:B9 ([92,120,x,y]++r) 2=x:=rfl
   have e3:B9 ([92,120,x,y]++r) 3=y:=rfl
   rw [e0,e1,e2,e3,if_neg (by decide),if_neg (by simp),if_neg (by decide),if_neg (by simp;omega),h5,if_neg (by simp [h6];omega)]
   rfl
  ·cases h
theorem B7j (b:UInt8) (h:0≤J2 b):B9 A26 (J2 b).toNat=b:=by
 have key:∀ n:Nat,n < 256→0≤J2 (UInt8.ofNat n)→B9 A26 (J2 (UInt8.ofNat n)).toNat=UInt8.ofNat n:=by decide +kernel
 simpa using key b.toNat (A9h b) (by simpa using h)
theorem C0s (b:UInt8) (h:0≤N6 letters b.toNat):one (B9 marks (N6 letters b.toNat).toNat).toNat=[92,b]:=by
 have key:∀ n:Nat,n < 256→0≤N6 letters (UInt8.ofNat n).toNat→one (B9 marks (N6 letters (UInt8.ofNat n).toNat).toNat).toNat=[92,UInt8.ofNat n]:=by decide +kernel
 simpa using key b.toNat (A9h b) (by simpa using h)
theorem C30:∀ l:List UInt8,l≠[]→tk l=(0,0)∨∃ m:Nat,m < 256∧∃ r,l=one m++r
 | [],h=>absurd rfl h
 | a::l,_=>by
  by_cases h1:A41 (B9 (a::l) 0).toNat=true
  ·have e:B9 (a::l) 0=a:=rfl
   rw [e] at h1
   exact .inr ⟨a.toNat,A9h a,l,by rw [C9k a h1];rfl⟩
  ·by_cases h2:¬ ((B9 (a::l) 0).toNat:Int)=92∨(a::l).length < 2
   ·left;unfold tk;rw [if_neg h1,if_pos h2]
   ·simp only [not_or,Decidable.not_not] at h2
    have ea:a=92:=UInt8.toNat_inj.1 (show a.toNat=92 from Int.ofNat.inj h2.1)
    subst ea
    match l,h2 with
    | [],h2=>simp at h2
    | b::l,_ =>
     have e1:B9 (92::b::l) 1=b:=rfl
     by_cases h3:¬ ((B9 (92::b::l) 1).toNat:Int)=120
     ·by_cases h4:N6 letters (B9 (92::b::l) 1).toNat < 0
      ·left;unfold tk;rw [if_neg h1,if_neg (by simp [B9]),if_pos h3,if_pos h4]
      ·rw [e1] at h4
       exact .inr ⟨(B9 marks (N6 letters b.toNat).toNat).toNat,A9h _,l,by rw [C0s b (by omega)];rfl⟩
     ·have eb:b=120:=UInt8.toNat_inj.1 (show b.toNat=120 from Int.ofNat.inj (Decidable.not_not.1 h3))
      subst eb
      match l with
      | []=>left;unfold tk;rw [if_neg h1,if_neg (by simp [B9]),if_neg h3,if_pos (by simp)]
      | [c]=>left;unfold tk;rw [if_neg h1,if_neg (by simp [B9]),if_neg h3,if_pos (by simp)]
      | c::d::l =>
       have e2:B9 (92::120::c::d::l) 2=c:=rfl
       have e3:B9 (92::120::c::d::l) 3=d:=rfl
       by_cases h4:J2 c < 0∨J2 d < 0
       ·left;unfold tk;rw [e2,e3,if_neg h1,if_neg (by simp [B9]),if_neg h3,if_pos (.inr h4)]
       ·by_cases h5:A41 (J2 c * 16+J2 d)=true∨0≤N6 marks (J2 c * 16+J2 d)
        ·left;unfold tk;rw [e2,e3,if_neg h1,if_neg (by simp [B9]),if_neg h3,if_neg (by simp;omega),if_pos h5]
        ·have b1:=B1t c
         have b2:=B1t d
         have hm:(((J2 c).toNat * 16+(J2 d).toNat:Nat):Int)=J2 c * 16+J2 d:=by omega
         refine .inr ⟨(J2 c).toNat * 16+(J2 d).toNat,by omega,l,?_⟩
         rw [C27 _ (by omega) (by rw [hm];simpa using (not_or.1 h5).1) (by rw [hm];exact (not_or.1 h5).2)]
         rw [show ((J2 c).toNat * 16+(J2 d).toNat) / 16=(J2 c).toNat by omega,show ((J2 c).toNat * 16+(J2 d).toNat) % 16=(J2 d).toNat by omega,B7j c (by omega),B7j d (by omega)]
         rfl
def A7o:List UInt8→Option (List UInt8 × Nat)
 | []=>none
 | b::r=>if b=34 then some ([],1) else if (tk (b::r)).2=0 then none
  else (A7o (r.drop ((tk (b::r)).2.toNat - 1))).map fun x=>(UInt8.ofNat (tk (b::r)).1.toNat::x.1,x.2+(tk (b::r)).2.toNat)
termination_by l=>l.length
decreasing_by simp only [List.length_drop,List.length_cons];omega
def cut:List UInt8→Option (List UInt8 × Nat)
 | []=>none
 | b::r=>if b=34 then (A7o r).map fun x=>(x.1,x.2+1) else none
theorem B9n (l:List UInt8) (h:l≠[]):(tk l).1=(UInt8.ofNat (tk l).1.toNat).toNat∧(tk l=(0,0)∨1≤(tk l).2∧(tk l).2≤l.length):=by
 rcases C30 l h with ht|⟨m,hm,r,rfl⟩
 ·rw [ht];exact ⟨rfl,.inl rfl⟩
 ·rw [D4l m hm]
  have:1≤(one (m:Int)).length:=by
   have:=C7d (UInt8.ofNat m)
   simpa [Nat.mod_eq_of_lt hm] using this
  refine ⟨by simp [Nat.mod_eq_of_lt hm],.inr ⟨by simp;omega,by simp;omega⟩⟩
def pre (o:List UInt8) (i:Nat) (x:Option (List UInt8 × Nat)):Option (List UInt8 × Nat):=x.map fun y=>(o++y.1,i+y.2)
theorem B8i {l:List UInt8} {o:List UInt8} {i:Nat} (hi:i < l.length) (hq:B9 l i≠34) :
  ((tk (l.drop i)).2=0→pre o i (A7o (l.drop i))=none) ∧
  ((tk (l.drop i)).2≠0→pre o i (A7o (l.drop i))=pre (o++[UInt8.ofNat (tk (l.drop i)).1.toNat]) (i+(tk (l.drop i)).2.toNat) (A7o (l.drop (i+(tk (l.drop i)).2.toNat)))):=by
 have hd:=A08 hi
 have hb:=B9n (l.drop i) (by rw [hd];simp)
 constructor
 ·intro h
  rw [hd] at h ⊢
  rw [A7o,if_neg hq,if_pos h]
  rfl
 ·intro h
  have h2:1≤(tk (l.drop i)).2:=by
   rcases hb.2 with hb|hb
   ·rw [hb] at h;exact absurd rfl h
   ·exact hb.1
  have e:l.drop (i+(tk (l.drop i)).2.toNat)=(l.drop (i+1)).drop ((tk (l.drop i)).2.toNat - 1):=by
   rw [List.drop_drop];congr 1;omega
  rw [e]
  rw [hd] at h ⊢
  rw [A7o,if_neg hq,if_neg h]
  simp only [pre,Option.map_map]
  congr 1
  funext y
  simp
  omega
def D1d (b:Bool) (l:List UInt8):List AV :=
 match cut l with
 | none=>[.str [],.int .i64 0]++(if b then [.bool false] else [])
 | some (t,k)=>[.str t,.int .i64 k]++(if b then [.bool true] else [])
theorem A8k {b:Bool} {l:List UInt8} (h:cut l=none):D1d b l=[.str [],.int .i64 0]++(if b then [.bool false] else []):=by unfold D1d;rw [h]
theorem B8g {b:Bool} {l t:List UInt8} {k:Nat} (h:cut l=some (t,k)):D1d b l=[.str t,.int .i64 k]++(if b then [.bool true] else []):=by unfold D1d;rw [h]
theorem D1f {l:List UInt8} (h:0 < l.length):cut l=if B9 l 0=34 then pre [] 1 (A7o (l.drop 1)) else none:=by
 cases l with
 | nil=>simp at h
 | cons b r =>
  show (if b=34 then _ else none)=(if b=34 then _ else none)
  split
  ·simp only [pre,List.drop_succ_cons,List.drop_zero]
   congr 1
   funext y
   simp;omega
  ·rfl
theorem B3w {b:UInt8} {n:Nat} (hn:n < 256):(b.toNat:Int)=n↔b=UInt8.ofNat n:=by
 constructor
 ·intro h
  have:b.toNat=n:=Int.ofNat.inj h
  rw [← this];simp
 ·rintro rfl
  simp [Nat.mod_eq_of_lt hn]
structure D92 (l:List UInt8) (s s':Sto) (x:List UInt8 × Nat × Nat):Prop where
 lo:1≤x.2.1
 hi:x.2.1≤l.length
 len:x.1.length≤x.2.1
 own:Own s s' x.1.isEmpty x.2.2 5 1
 eq:cut l=pre x.1 x.2.1 (A7o (l.drop x.2.1))
theorem B6j (hT:A10 Γ) (l:List UInt8) (hl:l.length≤1048576):B7 Tryz.prog Γ 251 [.str l] fun v=>v=.tuple (D1d true l):=by
 refine aps Tryz.func251 ?_
 intro s
 conv=>whnf
 rcases Nat.eq_zero_or_pos l.length with hz|hpos
 ·obtain rfl:=List.eq_nil_of_length_eq_zero hz
  refine wr ?_
  rfl
 repeat' (first
  | (refine ⟨Sub.refl _,?_⟩)
  | (refine E7 (fun h=>?_) (fun h=>?_)<;>(try rw [h])<;>(try simp only [Bool.false_eq_true,Bool.true_eq_false,↓reduceIte,decide_eq_true_eq,decide_eq_false_iff_not,Bool.not_eq_true',Bool.not_eq_false'] at h)<;>(conv=>whnf))
  | (refine E1 ?_;conv=>whnf)
  | (refine AWp.any (by kernel_rfl) (by kernel_rfl) (by kernel_rfl) ?_;conv=>whnf)
  | (apply And.intro;(focus (first|omega|rfl|decide|exact Nat.le_of_ble_eq_true rfl|((repeat' (first|exact all_nil|refine all_cons ?_ ?_|rfl|fail));done)|(simp [-List.length_flatMap];done)|(simp [-List.length_flatMap];omega)|fail));conv=>whnf)
  | fail)
 ·subst h;simp at hpos
 ·rw [A8k (b:=true)]
  ·rfl
  rw [D1f hpos,if_neg]
  intro hq
  apply h
  show ((B9 l 0).toNat:Int)=34
  rw [hq];rfl
 ·rename_i h1
  have hq:B9 l 0=34:=(B3w (n:=34) (by decide)).1 h
  refine AWp.loopA [5,6] [16,17,18,19,20,21,22,23,24,25,27,28,29,30,26,31,32,7,8,33,34,2,3,4,35,36,37,38,39,40,41] (fun x:List UInt8 × Nat × Nat=>[.slice x.2.2 (J9 x.1),.int .i64 x.2.1]) (fun x s'=>D92 l s s' x) (fun x=>l.length - x.2.1) (([],1,1)) (by kernel_rfl) (by (repeat' (first|refine C1 ?_ ?_|refine E3 ?_ ?_ ?_|rfl|omega))) ?_ ?_
  ·exact ⟨by simp,hpos,by simp,Own.nil _ _ _,by rw [D1f hpos,if_pos hq]⟩
  ·rintro x ⟨o,i,t⟩ s' ⟨h1,h2,h3,h4,h5⟩
   simp only at h1 h2 h3 h4 h5
   conv=>whnf
   repeat' (first
    | (refine ⟨Sub.refl _,?_⟩)
    | (refine E7 (fun h=>?_) (fun h=>?_)<;>(try rw [h])<;>(try simp only [Bool.false_eq_true,Bool.true_eq_false,↓reduceIte,decide_eq_true_eq,decide_eq_false_iff_not,Bool.not_eq_true',Bool.not_eq_false'] at h)<;>(conv=>whnf))
    | (refine A6.pure' ?_ (C1g hT _ ?_ ?_);rintro _ rfl;conv=>whnf)
    | (refine E1 ?_;conv=>whnf)
    | (refine AWp.any (by kernel_rfl) (by kernel_rfl) (by kernel_rfl) ?_;conv=>whnf)
    | (apply And.intro;(focus (first|omega|rfl|decide|exact Nat.le_of_ble_eq_true rfl|((repeat' (first|exact all_nil|refine all_cons ?_ ?_|rfl|fail));done)|(simp [-List.length_flatMap];done)|(simp [-List.length_flatMap];omega)|fail));conv=>whnf)
    | fail)
   ·rename_i h6 h7
    simp only [Int.toNat_natCast,List.take_length] at h h7
    refine ⟨h4.sub,?_⟩
    rw [A8k (b:=true)]
    ·rfl
    rw [h5]
    exact (B8i (by omega) (fun hq=>h7 ((B3w (n:=34) (by decide)).2 hq))).1 h
   ·rename_i h6 h7
    simp only [Int.toNat_natCast,List.take_length] at h h7 ⊢
    have hr:=(B8i (o:=o) (l:=l) (i:=i) (by omega) (fun hq=>h7 ((B3w (n:=34) (by decide)).2 hq))).2 h
    have hb:=B9n (l.drop i) (by rw [A08 (by omega)];simp)
    have hb2:1≤(tk (l.drop i)).2∧(tk (l.drop i)).2≤(l.drop i).length:=by
     rcases hb.2 with hb|hb
     ·rw [hb] at h;exact absurd rfl h
     ·exact hb
    have hb3:=hb2.2
    simp only [List.length_drop] at hb3
    refine ⟨h4.may,A9p o,all_cons ⟨rfl,rfl⟩ all_nil,?_,?_⟩
    ·show ((J9 o).length+1) * (1+1)≤_
     rw [A4a];omega
    intro t' k1 k2
    have k3:=h4.grow k1 k2
    conv=>whnf
    refine ⟨(o++[UInt8.ofNat (tk (l.drop i)).1.toNat],i+(tk (l.drop i)).2.toNat,t'),?_,by (repeat (first|exact L0.refl _ _|refine L0.upd rfl ?_|refine L0.updL rfl ?_|refine L0.havoc rfl ?_)),⟨by simp only;omega,by simp only;omega,by simp;omega,?_,?_⟩,by simp only;omega⟩
    ·refine C1 ?_ (C1 (E3 ?_ ?_ ?_) rfl)
     ·show AV.slice t' _=AV.slice t' _
      rw [A46]
      congr 2
      show [[AV.int .u8 (tk (List.drop _ _)).1]]=[[AV.int .u8 _]]
      rw [← hb.1]
     ·show (i:Int)+_=((i+(tk (l.drop i)).2.toNat:Nat):Int)
      omega
     ·show _≤((i+(tk (l.drop i)).2.toNat:Nat):Int)
      omega
     ·show ((i+(tk (l.drop i)).2.toNat:Nat):Int)≤_
      omega
    ·have e:(o++[UInt8.ofNat (tk (l.drop i)).1.toNat]).isEmpty=(o.isEmpty && [[AV.int .u8 (tk (l.drop i)).1]].isEmpty):=by simp
     simp only
     rw [e]
     exact k3
    ·exact h5.trans hr
   ·simp;omega
   ·simp;omega
   ·exfalso;omega
   ·rename_i h6 h7
    simp only [Int.toNat_natCast] at h7
    rw [B69]
    conv=>whnf
    refine ⟨h4.sub,?_⟩
    rw [B8g (b:=true) (t:=o) (k:=i+1)]
    ·show AV.tuple [.str o,.int .i64 (IntKind.i64.wrap (i+1)),.bool true]=.tuple [.str o,.int .i64 ((i+1:Nat):Int),.bool true]
     rw [C7 (b:=((i+1:Nat):Int)) (by omega) (by omega) (by omega)]
    ·have hq':B9 l i=34:=(B3w (n:=34) (by decide)).1 h7
     rw [h5,A08 (by omega),hq',A7o,if_pos rfl]
     simp [pre]
   ·refine ⟨h4.sub,?_⟩
    rw [A8k (b:=true)]
    ·rfl
    rw [h5,D5 (by omega),A7o]
    rfl
   ·exfalso;omega
theorem C05 (hT:A10 Γ) (l:List UInt8) (hl:l.length≤1048576) (h:cut l=none):B7 Tryz.prog Γ 251 [.str l] fun v=>v=.tuple [.str [],.int .i64 0,.bool false]:=by
 have:=B6j hT l hl
 rw [A8k h] at this
 exact this
theorem C06 (hT:A10 Γ) (l:List UInt8) (hl:l.length≤1048576) {t:List UInt8} {k:Nat} (h:cut l=some (t,k)):B7 Tryz.prog Γ 251 [.str l] fun v=>v=.tuple [.str t,.int .i64 k,.bool true]:=by
 have:=B6j hT l hl
 rw [B8g h] at this
 exact this
theorem D24 (c:UInt8):∃ b r,one c.toNat=b::r∧b≠34:=by
 have key:∀ n:Nat,n < 256→(match one (n:Int) with | []=>false|b::_=>decide (b≠34))=true:=by decide +kernel
 have:=key c.toNat (A9h c)
 split at this
 ·cases this
 ·rename_i b r hb
  exact ⟨b,r,hb,by simpa using this⟩
theorem B42 (more:List UInt8):∀ l:List UInt8,A7o ((l.flatMap fun c=>one c.toNat)++34::more)=some (l,(l.flatMap fun c=>one c.toNat).length+1)
 | []=>by simp [A7o]
 | c::l=>by
  have ih:=B42 more l
  obtain ⟨b,r,hb,hne⟩:=D24 c
  have ht:=D4l c.toNat (A9h c) ((l.flatMap fun c=>one c.toNat)++34::more)
  simp only [List.flatMap_cons,List.append_assoc]
  rw [hb] at ht ⊢
  simp only [List.cons_append] at ht ⊢
  rw [A7o,if_neg hne,ht]
  rw [if_neg (by simp;omega)]
  have e:((r.length+1:Nat):Int).toNat - 1=r.length:=by omega
  have e2:(r++((l.flatMap fun c=>one c.toNat)++34::more)).drop r.length=(l.flatMap fun c=>one c.toNat)++34::more:=by simp
  simp only [List.length_cons,e]
  rw [e2,ih]
  simp
  omega
theorem C8c (l more:List UInt8):cut (A2x l++more)=some (l,(A2x l).length):=by
 have:=B42 more l
 unfold A2x
 simp only [List.cons_append,List.append_assoc,List.nil_append]
 simp only [cut,if_true]
 rw [this]
 simp
theorem C94 (l:List UInt8):(A2x l).length≤4 * l.length+2:=by
 have:=A4u (fun c:UInt8=>one c.toNat) 4 (fun c=>B05 _) l
 simp only [A2x,List.length_append,List.length_cons,List.length_nil]
 omega
theorem B8h:∀ (n:Nat) (l:List UInt8),l.length≤n→∀ t k,A7o l=some (t,k)→k≤l.length∧l.take k=(t.flatMap fun c=>one c.toNat)++[34]
 | _,[],_,t,k,h=>by rw [A7o] at h;cases h
 | 0,_::_,hn,_,_,_=>by simp at hn
 | n+1,b::r,hn,t,k,h=>by
  rw [A7o] at h
  split at h
  ·rename_i hb
   simp only [Option.some.injEq,Prod.mk.injEq] at h
   obtain ⟨rfl,rfl⟩:=h
   subst hb
   simp
  ·split at h
   ·cases h
   ·rename_i hb hz
    obtain ⟨x,hx,he⟩:=Option.map_eq_some_iff.1 h
    obtain ⟨t',k'⟩:=x
    simp only [Prod.mk.injEq] at he
    obtain ⟨rfl,rfl⟩:=he
    rcases C30 (b::r) (by simp) with ht|⟨m,hm,r',hr⟩
    ·rw [ht] at hz;exact absurd rfl hz
    ·have ht:=D4l m hm r'
     rw [← hr] at ht
     have hpos:1≤(one (m:Int)).length:=by
      have:=C7d (UInt8.ofNat m)
      simpa [Nat.mod_eq_of_lt hm] using this
     rw [ht] at hx ⊢
     have hd:r.drop ((one (m:Int)).length - 1)=r':=by
      have h1:(b::r).drop (one (m:Int)).length=r':=by rw [hr];simp
      obtain ⟨p,hp⟩:∃ p,(one (m:Int)).length=p+1:=⟨(one (m:Int)).length - 1,by omega⟩
      rw [hp] at h1 ⊢
      simpa using h1
     simp only [Int.toNat_natCast] at hx ⊢
     rw [hd] at hx
     have hlen:=congrArg List.length hr
     simp only [List.length_cons,List.length_append] at hlen hn
     obtain ⟨h1,h2⟩:=B8h n r' (by omega) t' k' hx
     refine ⟨by rw [hr];simp;omega,?_⟩
     rw [hr,show k'+(one (m:Int)).length=(one (m:Int)).length+k' by omega,List.take_length_add_append,h2]
     have e:((UInt8.ofNat m).toNat:Int)=m:=by simp [Nat.mod_eq_of_lt hm]
     simp only [List.flatMap_cons,e,List.append_assoc]
theorem D1e {l t:List UInt8} {k:Nat} (h:cut l=some (t,k)):0 < k∧k≤l.length∧A2x t=l.take k:=by
 cases l with
 | nil=>cases h
 | cons b r =>
  have h:(if b=34 then _ else none)=some (t,k):=h
  split at h
  ·rename_i hb
   subst hb
   obtain ⟨⟨t',k'⟩,hx,he⟩:=Option.map_eq_some_iff.1 h
   simp only [Prod.mk.injEq] at he
   obtain ⟨rfl,rfl⟩:=he
   obtain ⟨h1,h2⟩:=B8h _ r (Nat.le_refl _) _ _ hx
   refine ⟨by omega,by simp;omega,?_⟩
   rw [List.take_succ_cons,h2]
   simp [A2x]
  ·cases h
end Go.Proofs.YticnkpgmmpenlaaGreatDoor.Qu
namespace Go.Proofs.YticnkpgmmpenlaaGreatDoor.Lx
open Go Go.Ab Go.RowKit Go.Proofs.YticnkpgmmpenlaaGreatDoor.Sc
variable {Γ:Nat→AV}
attribute [local irreducible] B7 Sto.set Sto.grow
theorem B0a {b:UInt8} {n:Nat} (hn:n < 256):(b.toNat:Int)=n↔b=UInt8.ofNat n:=by
 constructor
 ·intro h
  have:b.toNat=n:=Int.ofNat.inj h
  rw [← this];simp
 ·rintro rfl
  simp [Nat.mod_eq_of_lt hn]
theorem b10 {b:UInt8}:(b.toNat:Int)=10↔b=10:=B0a (n:=10) (by decide)
theorem b34 {b:UInt8}:(b.toNat:Int)=34↔b=34:=B0a (n:=34) (by decide)
theorem b35 {b:UInt8}:(b.toNat:Int)=35↔b=35:=B0a (n:=35) (by decide)
theorem B71 (n:Int):B7 Tryz.prog Γ 220 [.int .u8 n] fun v=>v=.bool (K9 n):=by
 refine aps Tryz.func220 ?_
 intro s
 conv=>whnf
 repeat' ((first|exact pru|(refine brS (fun h=>?_) (fun h=>?_)<;>(try rw [h])<;>(try simp only [bS,↓reduceIte] at h))|refine gS ?_|refine aA ?_|refine nA ?_|fail)<;>(conv=>whnf))
 all_goals refine C3 ?_
 all_goals unfold K9
 all_goals simp [*]
 all_goals omega
def A6h (n:Int):Bool:=decide (48≤n) && decide (n≤57)
def A45 (n:Int):Bool:=decide (n=32) || decide (n=9) || decide (n=10) || decide (n=13)
theorem B5l (n:Int):B7 Tryz.prog Γ 215 [.int .u8 n] fun v=>v=.bool (A45 n):=by
 refine aps Tryz.func215 ?_
 intro s
 conv=>whnf
 repeat' ((first|(refine brS (fun h=>?_) (fun h=>?_)<;>(try rw [h])<;>(try simp only [bS,↓reduceIte] at h))|refine gS ?_|refine aA ?_|refine nA ?_|fail)<;>(conv=>whnf))
 all_goals refine C3 ?_
 all_goals unfold A45
 all_goals simp [*]
def P1:Bool→List UInt8→Nat
 | _,[]=>0
 | true,c::r=>if c=10 then P1 false r+1 else P1 true r+1
 | false,c::r=>if c=35 then P1 true r+1 else if A45 c.toNat=true then P1 false r+1 else 0
def D1 (l:List UInt8):Nat:=P1 false l
theorem B1z:∀ (l:List UInt8) (b:Bool),P1 b l≤l.length
 | [],b=>by cases b<;>exact Nat.le_refl _
 | c::r,b=>by
  have h1:=B1z r true
  have h2:=B1z r false
  cases b
  ·rw [P1]
   split
   ·simp only [List.length_cons];omega
   ·split
    ·simp only [List.length_cons];omega
    ·omega
  ·rw [P1]
   split
   ·simp only [List.length_cons];omega
   ·simp only [List.length_cons];omega
theorem C76 (l:List UInt8):D1 l≤l.length:=B1z l false
theorem B20:∀ q:List UInt8,(Lib.indexByte q 10 = -1→P1 true q=q.length)∧∀ n:Nat,Lib.indexByte q 10=n→P1 true q=n+P1 false (q.drop n)
 | []=>⟨fun _=>rfl,fun n h=>by unfold Lib.indexByte at h;omega⟩
 | c::r=>by
  have ih:=B20 r
  have hge:=Lib.indexByte_ge r 10
  unfold Lib.indexByte
  by_cases hc:c=10
  ·subst hc
   refine ⟨fun h=>by simp at h,fun n h=>?_⟩
   simp at h
   have:n=0:=by omega
   subst this
   simp [P1,A45]
  ·have hcb:(c == 10)=false:=by simpa using hc
   rw [hcb]
   simp only [Bool.false_eq_true,if_false]
   rw [P1,if_neg hc]
   by_cases hr:Lib.indexByte r 10 = -1
   ·rw [hr]
    refine ⟨fun _=>by rw [ih.1 hr,List.length_cons],fun n h=>by simp at h<;>omega⟩
   ·have:(Lib.indexByte r 10 == -1)=false:=by simpa using hr
    rw [this]
    simp only [Bool.false_eq_true,if_false]
    refine ⟨fun h=>by omega,fun n h=>?_⟩
    obtain ⟨m,rfl⟩:∃ m,n=m+1:=⟨n - 1,by omega⟩
    rw [ih.2 m (by omega)]
    simp only [List.drop_succ_cons]
    omega
theorem C75 (r:List UInt8):P1 false (35::r)=P1 true (35::r):=by rw [P1,P1,if_pos rfl,if_neg (by decide)]
theorem C83 (q:List UInt8) (h:Lib.indexByte q 10≠-1):∃ n:Nat,Lib.indexByte q 10=n∧n < q.length:=by
 have:=Lib.indexByte_ge q 10
 refine ⟨(Lib.indexByte q 10).toNat,by omega,?_⟩
 have h2:=(Lib.indexByte_some (l:=q) (c:=10) (o:=(Lib.indexByte q 10).toNat) (by omega)).1
 exact (List.getElem?_eq_some_iff.1 h2).1
theorem C04 (l:List UInt8) (hl:l.length≤1048576):B7 Tryz.prog Γ 154 [.str l] fun v=>v=.int .i64 (D1 l):=by
 refine aps Tryz.func154 ?_
 intro s
 refine wr ?_
 refine AWp.loopA [4] [6,7,8,9,10,11,12,13,14,15,16,17,5,18,19,20,21,2,22,23,24,25,26,27,28,29,30,31,32] (fun i:Nat=>[.int .i64 i]) (fun i s'=>i≤l.length∧s'=s∧D1 l=i+P1 false (l.drop i)) (fun i=>l.length - i) (0) (by kernel_rfl) (eqa) ?_ ?_
 ·exact ⟨by omega,rfl,by rw [List.drop_zero];simp [D1]⟩
 ·rintro x i _ ⟨h1,rfl,h2⟩
  show awp _ _ _ _ _ (updL _ _ [.int .i64 (i:Int)]) _
  conv=>whnf
  have hb:=b35 (b:=B9 l i)
  have hA:List.drop ((i:Int)).toNat (List.take l.length l)=l.drop i:=by rw [Int.toNat_natCast,W7]
  have hw:∀ n:Nat,n≤l.length→IntKind.i64.wrap ((i:Int)+n)=((i+n:Nat):Int):=fun n hn=>C7 (by omega) (by omega) (by omega)
  by_cases hlt:i < l.length
  ·have hd:=A08 hlt
   by_cases h35:B9 l i=35
   ·have h35':=hb.2 h35
    have h35'':((B9 l ((i:Int)).toNat).toNat:Int)=35:=h35'
    have ht:=B20 (l.drop i)
    have hlen:(l.drop i).length=l.length - i:=List.length_drop
    have hx:P1 false (l.drop i)=P1 true (l.drop i):=by rw [hd,h35,C75]
    have hix:=Ix.A6k (Γ:=Γ) (l.drop i) 10
    rw [show ((10:Int).toNat.toUInt8)=10 from rfl] at hix
    by_cases hn:Lib.indexByte (l.drop i) 10 = -1
    ·rw [hn] at hix
     refine wp ?_;(rw [hA]);refine wp ?_
     rw [h2,hx,ht.1 hn,hlen]
     exact congrArg (AV.int .i64) (by omega)
    ·obtain ⟨n,hn1,hn2⟩:=C83 _ hn
     rw [hn1] at hix
     have hpos:n≠0:=by
      rintro rfl
      have:=(Lib.indexByte_some (l:=l.drop i) (c:=10) (o:=0) hn1).1
      rw [hd,h35] at this
      cases this
     refine wp ?_;(rw [hA]);refine wp ?_
     refine ⟨i+n,?_,C5,⟨by omega,by first|rfl|trivial,?_⟩,by omega⟩
     ·exact C1 (by show AV.int .i64 (IntKind.i64.wrap ((i:Int)+n))=_;rw [hw n (by omega)]) rfl
     ·rw [h2,hx,ht.2 n hn1,List.drop_drop];omega
   ·have h35':¬ ((B9 l i).toNat:Int)=35:=fun hh=>h35 (hb.1 hh)
    have h35'':¬ ((B9 l ((i:Int)).toNat).toNat:Int)=35:=h35'
    repeat' ((first|exact pru|(refine brS (fun h=>?_) (fun h=>?_)<;>(try rw [h])<;>(try simp only [bS,↓reduceIte] at h))|(refine A6.pure' ?_ (B5l _);rintro _ rfl)|refine C0.pure ?_ (B5l _)|refine gS ?_|refine aA ?_|refine nA ?_|fail)<;>(conv=>whnf))
    all_goals (try simp only [Int.toNat_natCast] at *)
    ·rw [h2,hd,P1,if_neg h35,if_neg (by simp_all)]
     rfl
    ·refine ⟨i+1,?_,C5,⟨by omega,by first|rfl|trivial,?_⟩,by omega⟩
     ·exact C1 (by show AV.int .i64 (IntKind.i64.wrap ((i:Int)+1))=_;rw [show ((i:Int)+1)=(i:Int)+(1:Nat) by rfl,hw 1 (by omega)]) rfl
     ·rw [h2,hd,P1,if_neg h35,if_pos (by simp_all)];omega
  ·refine wp ?_
   rw [h2,D5 hlt]
   rfl
end Go.Proofs.YticnkpgmmpenlaaGreatDoor.Lx
namespace Go.Proofs.YticnkpgmmpenlaaGreatDoor.Lx
open Go Go.Ab Go.RowKit Go.Proofs.YticnkpgmmpenlaaGreatDoor.Sc
variable {Γ:Nat→AV}
theorem B0h (l:List UInt8):B7 Tryz.prog Γ 217 [.str l,.str [10]] fun v=>v=.int .i64 (l.count 10):=by
 refine fun s=>⟨fun G w vs hm hr=>?_⟩
 obtain ⟨u,us,rfl,hu,hus⟩:=B8.1 hr
 obtain ⟨u1,us1,rfl,hu1,hus1⟩:=B8.1 hus
 rw [C2] at hus1;subst hus1
 rw [K4] at hu;subst hu
 rw [K4] at hu1;subst hu1
 refine Calls.mono (Tryz.strings_Count_one ⟨l.toArray⟩ 10 w) ?_
 rintro e w' ⟨rfl,rfl⟩
 exact ⟨_,_,s,G,rfl,⟨rfl,rfl⟩,G3.2 (by simp [Lib.countByte]),hm,Ext.refl _ _⟩
attribute [local irreducible] B7 Sto.set Sto.grow
def A0b:List UInt8→UInt8→Int
 | [],_=>-1
 | b::r,c=>if A0b r c≠-1 then A0b r c+1 else if b=c then 0 else -1
theorem A70:∀ (l:List UInt8) (c:UInt8),-1≤A0b l c∧A0b l c < l.length
 | [],c=>⟨Int.le_refl _,by simp [A0b]⟩
 | b::r,c=>by
  have:=A70 r c
  unfold A0b
  split
  ·simp only [List.length_cons];omega
  ·split<;>simp only [List.length_cons]<;>omega
theorem B2e:∀ (l:List UInt8) (b c:UInt8),A0b (l++[b]) c=if b=c then (l.length:Int) else A0b l c
 | [],b,c=>by simp [A0b]
 | a::r,b,c=>by
  rw [List.cons_append,A0b,B2e r b c,A0b]
  by_cases hb:b=c
  ·simp [hb]
  ·simp [hb]
theorem B5t:∀ (l:List UInt8) (c:UInt8),A0b l c = -1↔l.count c=0
 | [],c=>by simp [A0b]
 | b::r,c=>by
  have:=B5t r c
  have hg:=(A70 r c).1
  rw [A0b,List.count_cons]
  by_cases hr:A0b r c = -1
  ·have h0:=this.1 hr
   by_cases hb:b=c<;>simp [hr,h0,hb]
  ·have h0:List.count c r≠0:=fun h=>hr (this.2 h)
   rw [if_pos hr]
   constructor
   ·intro h;omega
   ·intro h;omega
theorem C2q (l:List UInt8) (c:UInt8) (hl:l.length≤1048576):B7 Tryz.prog Γ 218 [.str l,.int .u8 c.toNat] fun v=>v=.int .i64 (A0b l c):=by
 have inner:∀ Γ:Nat→AV,B7 Tryz.prog Γ 250 [.str l,.int .u8 c.toNat] fun v=>v=.int .i64 (A0b l c):=by
  intro Γ
  refine aps Tryz.func250 ?_
  intro s
  refine wp ?_
  refine AWp.loopA [5] [9,10,13,14,15,16,17,18,4,11,12] (fun i:Nat=>[.int .i64 ((i:Int) - 1)]) (fun i s'=>i≤l.length∧s'=s∧A0b l c=A0b (l.take i) c) (fun i=>i) (l.length) (by kernel_rfl) (eqa) ?_ ?_
  ·exact ⟨by omega,rfl,by rw [List.take_length]⟩
  ·rintro x i s1 ⟨h1,rfl,h2⟩
   show awp _ _ _ _ _ (updL _ _ [.int .i64 ((i:Int) - 1)]) _
   conv=>whnf
   by_cases hi:i=0
   ·subst hi
    refine wp ?_
    rw [h2];rfl
   ·obtain ⟨k,rfl⟩:∃ k,i=k+1:=⟨i - 1,by omega⟩
    have hz:(((k+1:Nat):Int) - 1)=(k:Int):=by omega
    have ht:l.take (k+1)=l.take k++[B9 l k]:=A54 (by omega)
    rw [hz]
    repeat' ((first|exact pru|(refine brS (fun h=>?_) (fun h=>?_)<;>(try rw [h])<;>(try simp only [bS,↓reduceIte] at h))|refine gS ?_|refine aA ?_|refine nA ?_|fail)<;>(conv=>whnf))
    all_goals (try simp only [Int.toNat_natCast] at *)
    ·rw [h2,ht,B2e,if_pos (UInt8.toNat.inj (by omega)),List.length_take]
     exact congrArg (AV.int .i64) (by omega)
    ·refine ⟨k,?_,C5,⟨by omega,by first|rfl|trivial,?_⟩,by omega⟩
     ·exact C1 (by show AV.int .i64 (IntKind.i64.wrap ((k:Int) - 1))=_;rw [C7 (b:=(k:Int) - 1) rfl (by omega) (by omega)]) rfl
     ·rw [h2,ht,B2e,if_neg]
      rintro hh
      rename_i h
      exact h (by rw [hh])
 refine aps Tryz.func218 ?_
 intro s
 refine wr ?_;(first|(refine A6.pure' ?_ (inner _);rintro _ rfl)|refine C0.pure ?_ (inner _));refine wr ?_
 rfl
def F8:Int × Int→List UInt8→Int × Int
 | p,[]=>p
 | p,c::r=>F8 (if c=10 then (p.1+1,1) else (p.1,p.2+1)) r
theorem A5x:∀ (l:List UInt8) (a b:Int),F8 (a,b) l=if l.count 10=0 then (a,b+l.length) else (a+l.count 10,l.length - A0b l 10)
 | [],a,b=>by simp [F8]
 | c::r,a,b=>by
  have hn:=B5t r 10
  have hg:=A70 r 10
  rw [F8,A0b,List.count_cons]
  by_cases hc:c=10
  ·subst hc
   simp only [if_true,BEq.rfl]
   rw [A5x r,if_neg (by omega:¬ r.count 10+1=0)]
   by_cases h0:r.count 10=0
   ·rw [if_pos h0,if_neg (by simp [hn.2 h0])]
    simp only [h0,List.length_cons]
    refine Prod.ext ?_ ?_<;>simp<;>omega
   ·rw [if_neg h0,if_pos (fun h=>h0 (hn.1 h))]
    simp only [List.length_cons]
    refine Prod.ext ?_ ?_<;>simp<;>omega
  ·have hcb:(c == 10)=false:=by simpa using hc
   simp only [if_neg hc,hcb]
   rw [A5x r]
   by_cases h0:r.count 10=0
   ·rw [if_pos h0,if_pos (by simp [h0])]
    simp only [List.length_cons]
    refine Prod.ext ?_ ?_<;>simp<;>omega
   ·rw [if_neg h0,if_neg (by simp [h0]),if_pos (fun h=>h0 (hn.1 h))]
    simp only [List.length_cons]
    refine Prod.ext ?_ ?_<;>simp<;>omega
theorem C02 (l:List UInt8) (a b:Int) (ha:0≤a) (hb:0≤b):(0≤(F8 (a,b) l).1∧(F8 (a,b) l).1≤a+l.length)∧0≤(F8 (a,b) l).2∧(F8 (a,b) l).2≤b+l.length+1:=by
 have:=List.count_le_length (a:=(10:UInt8)) (l:=l)
 have hg:=A70 l 10
 rw [A5x]
 split
 ·simp only;omega
 ·simp only;omega
theorem C68 (a b:Int) (l:List UInt8) (hl:l.length≤1048576) (ha:0≤a∧a≤100000000) (hb:0≤b∧b≤100000000) :
  B7 Tryz.prog Γ 155 [.int .i64 a,.int .i64 b,.str l] fun v=>v=.tuple [.int .i64 (F8 (a,b) l).1,.int .i64 (F8 (a,b) l).2]:=by
 have h1:=B0h (Γ:=Γ) l
 have h2:=C2q (Γ:=Γ) l 10 hl
 have h3:=List.count_le_length (a:=(10:UInt8)) (l:=l)
 have hg:=A70 l 10
 rw [A5x]
 refine aps Tryz.func155 ?_
 intro s
 conv=>whnf
 repeat' ((first|exact pru|(refine brS (fun h=>?_) (fun h=>?_)<;>(try rw [h])<;>(try simp only [bS,↓reduceIte] at h))|(refine A6.pure' ?_ (h1);rintro _ rfl)|refine C0.pure ?_ (h1)|(refine A6.pure' ?_ (h2);rintro _ rfl)|refine C0.pure ?_ (h2)|refine gS ?_|refine aA ?_|refine nA ?_|fail)<;>(conv=>whnf))
 ·rw [if_pos (by omega),C7 (b:=b+l.length) rfl (by omega) (by omega)]
  rfl
 ·rw [if_neg (by omega),C7 (b:=a+l.count 10) rfl (by omega) (by omega),C7 (b:=l.length - A0b l 10) rfl (by omega) (by omega)]
  rfl
end Go.Proofs.YticnkpgmmpenlaaGreatDoor.Lx
namespace Go.Proofs.YticnkpgmmpenlaaGreatDoor.Sp
open Go Go.Ab Go.RowKit
variable {Γ:Nat→AV}
theorem B0h (l:List UInt8) (c:UInt8):B7 Tryz.prog Γ 217 [.str l,.str [c]] fun v=>v=.int .i64 (l.count c):=by
 refine fun s=>⟨fun G w vs hm hr=>?_⟩
 obtain ⟨u,us,rfl,hu,hus⟩:=B8.1 hr
 obtain ⟨u1,us1,rfl,hu1,hus1⟩:=B8.1 hus
 rw [C2] at hus1;subst hus1
 rw [K4] at hu;subst hu
 rw [K4] at hu1;subst hu1
 refine Calls.mono (Tryz.strings_Count_one ⟨l.toArray⟩ c w) ?_
 rintro e w' ⟨rfl,rfl⟩
 exact ⟨_,_,s,G,rfl,⟨rfl,rfl⟩,G3.2 (by simp [Lib.countByte]),hm,Ext.refl _ _⟩
theorem Y5 (l:List UInt8) (c:UInt8):B7 Tryz.prog Γ 249 [.str l,.str [c]] fun v=>v=.int .i64 (Lib.indexByte l c):=by
 refine fun s=>⟨fun G w vs hm hr=>?_⟩
 obtain ⟨u,us,rfl,hu,hus⟩:=B8.1 hr
 obtain ⟨u1,us1,rfl,hu1,hus1⟩:=B8.1 hus
 rw [C2] at hus1;subst hus1
 rw [K4] at hu;subst hu
 rw [K4] at hu1;subst hu1
 refine Calls.mono (Tryz.strings_Index_one ⟨l.toArray⟩ c w) ?_
 rintro e w' ⟨rfl,rfl⟩
 exact ⟨_,_,s,G,rfl,⟨rfl,rfl⟩,G3.2 (by simp),hm,Ext.refl _ _⟩
attribute [local irreducible] B7 Sto.set Sto.grow
def U7:List UInt8→UInt8→List (List UInt8)
 | [],_=>[[]]
 | b::r,c=>if b=c then []::U7 r c else match U7 r c with
  | []=>[[b]]
  | x::xs=>(b::x)::xs
theorem D3z:∀ (l:List UInt8) (c:UInt8),U7 l c≠[]
 | [],_=>by simp [U7]
 | b::r,c=>by
  unfold U7
  split
  ·simp
  ·split<;>simp
theorem A81:∀ (l:List UInt8) (c:UInt8),(U7 l c).length=l.count c+1
 | [],_=>rfl
 | b::r,c=>by
  have ih:=A81 r c
  have hne:=D3z r c
  unfold U7
  rw [List.count_cons]
  by_cases hb:b=c
  ·simp [hb,ih]
  ·have hbb:(b == c)=false:=by simpa using hb
   rw [if_neg hb,hbb]
   rcases hs:U7 r c with _|⟨x,xs⟩
   ·exact absurd hs hne
   ·rw [hs] at ih
    simpa using ih
theorem B6u:∀ {l:List UInt8} {c:UInt8},Lib.indexByte l c = -1→U7 l c=[l]
 | [],_,_=>rfl
 | b::r,c,h=>by
  have hge:=Lib.indexByte_ge r c
  unfold Lib.indexByte at h
  by_cases hb:b=c
  ·simp [hb] at h
  ·have hbb:(b == c)=false:=by simpa using hb
   rw [hbb] at h
   simp only [Bool.false_eq_true,if_false] at h
   have hr:Lib.indexByte r c = -1:=by
    split at h
    ·rename_i h1;simpa using h1
    ·omega
   unfold U7
   rw [if_neg hb,B6u hr]
theorem B6v:∀ {l:List UInt8} {c:UInt8} {n:Nat},Lib.indexByte l c=n→U7 l c=l.take n::U7 (l.drop (n+1)) c
 | [],_,n,h=>by unfold Lib.indexByte at h;omega
 | b::r,c,n,h=>by
  have hge:=Lib.indexByte_ge r c
  unfold Lib.indexByte at h
  by_cases hb:b=c
  ·simp [hb] at h
   have:n=0:=by omega
   subst this
   simp [U7,hb]
  ·have hbb:(b == c)=false:=by simpa using hb
   rw [hbb] at h
   simp only [Bool.false_eq_true,if_false] at h
   split at h
   ·exact absurd h (by omega)
   ·rename_i h1
    have h1:Lib.indexByte r c≠-1:=by simpa using h1
    obtain ⟨m,rfl⟩:∃ m,n=m+1:=⟨n - 1,by omega⟩
    have e:Lib.indexByte r c=(m:Int):=by omega
    have hs:=B6v e
    rw [U7,if_neg hb,hs]
    simp
theorem D7t {l:List UInt8} {c:UInt8} {n:Nat} (h:Lib.indexByte l c=n):n < l.length:=by
 have h2:=(Lib.indexByte_some (l:=l) (c:=c) (o:=n) h).1
 exact (List.getElem?_eq_some_iff.1 h2).1
theorem B8u (d:List (List UInt8)) (x:List UInt8) (k:Nat) :
  (d.map AV.str++List.replicate (k+1) (AV.str [])).take d.length++[AV.str x]++(d.map AV.str++List.replicate (k+1) (AV.str [])).drop (d.length+1)=(d++[x]).map AV.str++List.replicate k (AV.str []):=by
 have h1:(d.map AV.str++List.replicate (k+1) (AV.str [])).take d.length=d.map AV.str:=by
  rw [List.take_append_of_le_length (by simp)]
  rw [List.take_of_length_le (by simp)]
 have h2:(d.map AV.str++List.replicate (k+1) (AV.str [])).drop (d.length+1)=List.replicate k (AV.str []):=by
  rw [show d.length+1=(d.map AV.str).length+1 by simp,List.drop_append]
  simp
 rw [h1,h2]
 simp
theorem B23:∀ d:List (List UInt8),U3 1 d.length (d.map AV.str)=D3 d
 | []=>rfl
 | x::d=>by
  have:=B23 d
  simp only [List.length_cons,List.map_cons,U3,D3] at *
  simpa using this
theorem A0t {cs cs':List AV} {K:List AV→Prop} (h:cs=cs') (hk:K cs'):A5p cs K:=by rw [E8,h];exact hk
theorem D1q (l:List (List UInt8)):fgE (D3 l)=D3 l:=A4t (A:=fun s=>[AV.str s]) (fun _=>rfl) l
theorem C97 (n:Nat):(List.replicate n [AV.str []]).flatten=List.replicate n (AV.str []):=by
 induction n with
 | zero=>rfl
 | succ n ih=>rw [List.replicate_succ,List.flatten_cons,ih];rfl
theorem B28 (l:List UInt8) (c:UInt8) (hl:l.length≤1048576):B7 Tryz.prog Γ 271 [.str l,.str [c],.int .i64 0,.int .i64 (-1)] fun v=>v=.slice 0 (D3 (U7 l c)):=by
 refine B7.frz fun s=>?_
 have hcnt:=List.count_le_length (a:=c) (l:=l)
 have hlen:=A81 l c
 have hw:IntKind.i64.wrap ((l.count c:Int)+1)=((l.count c+1:Nat):Int):=C7 (by omega) (by omega) (by omega)
 have hw2:IntKind.i64.wrap ((l.length:Int)+1)=((l.length+1:Nat):Int):=C7 (by omega) (by omega) (by omega)
 have hw3:IntKind.i64.wrap (((l.count c+1:Nat):Int) - 1)=(l.count c:Int):=C7 (by omega) (by omega) (by omega)
 refine acs Tryz.func271 ?_
 refine wp ?_;(first|(refine A6.pure' ?_ (B0h l c);rintro _ rfl)|refine C0.pure ?_ (B0h l c));refine wp ?_;(rw [hw]);refine wp ?_;(rw [hw2]);refine wp ?_
 have hN:(if ((l.length+1:Nat):Int) < ((l.count c+1:Nat):Int) then ((l.length+1:Nat):Int) else ((l.count c+1:Nat):Int))=((l.count c+1:Nat):Int):=if_neg (by omega)
 rw [hN]
 refine ⟨?_,rfl,?_⟩
 ·show ((16:Nat):Int) * _≤_
  omega
 intro b hb
 refine wp ?_
 refine AWp.loopA [0,10] [34,35,36,37,38,39,11,40,41,42,43,44,45,46,47,48,49,50,51,52,53,54,55,56,57] (fun x:List (List UInt8) × List UInt8=>[.str x.2,.int .i64 x.1.length]) (fun x s'=>(U7 l c=x.1++U7 x.2 c∧x.2.length≤l.length)∧s'.bx b=some (9,x.1.map AV.str++List.replicate (l.count c+1 - x.1.length) (AV.str []))∧Sub s s') (fun x=>l.count c - x.1.length) (([],l)) (by kernel_rfl) (by (repeat' (first|refine C1 ?_ ?_|refine E3 ?_ ?_ ?_|rfl|omega))) ?_ ?_
 ·refine ⟨⟨rfl,Nat.le_refl _⟩,?_,(Sub.refl _).set hb _ _⟩
  refine A7.trans ?_
  rw [Int.toNat_natCast]
  exact congrArg (fun z=>some (9,z)) (C97 _)
 ·rintro x ⟨d,q⟩ s1 ⟨⟨i1,i2⟩,i3,i4⟩
  simp only at i1 i2 i3 i4
  show awp _ _ _ _ _ (updL _ _ [.str q,.int .i64 (d.length:Int)]) _
  conv=>whnf
  have hlen2:=A81 q c
  have hd:d.length+(U7 q c).length=l.count c+1:=by rw [← hlen,i1,List.length_append]
  have hix:=Y5 (Γ:=Γ) q c
  by_cases hn:Lib.indexByte q c = -1
  ·have hq:=B6u hn
   rw [hq] at i1 hd
   rw [hn] at hix
   simp only [List.length_cons,List.length_nil] at hd
   refine wp ?_;(rw [hw3]);refine wp ?_
   have hk:l.count c+1 - d.length=0+1:=by omega
   rw [hk]
   refine ⟨by show 0+((d.length:Nat):Int).toNat * 1+1≤_;simp<;>omega,A0t (cs':=(d++[q]).map AV.str++List.replicate 0 (AV.str [])) ?_ ?_⟩
   ·rw [show 0+((d.length:Nat):Int).toNat * (fun x=>x.size) Tryz.prog.types[9]=d.length by show 0+((d.length:Nat):Int).toNat * 1=_;omega]
    exact B8u d q 0
   have hwd:IntKind.i64.wrap ((d.length:Int)+1)=((d.length+1:Nat):Int):=C7 (by omega) (by omega) (by omega)
   refine wp ?_
   refine ⟨_,Sub.refl _,fz1 b 1 ((d++[q]).map AV.str++List.replicate 0 (AV.str [])),C0f hb A7,?_,i4.set hb _ _⟩
   rw [hwd,i1]
   show fg (fz _ (AV.raw (some ⟨b,if ((l.count c+1:Nat):Int).toNat=0 then 0 else 0+0 * 1,none⟩) (((d.length+1:Nat):Int).toNat - 0) (((l.count c+1:Nat):Int).toNat - 0)))=_
   rw [show (if ((l.count c+1:Nat):Int).toNat=0 then 0 else 0+0 * 1)=0 by split<;>rfl,Int.toNat_natCast,Int.toNat_natCast,Nat.sub_zero,Nat.sub_zero]
   have hm:fzW (fz1 b 1 ((d++[q]).map AV.str++List.replicate 0 (AV.str []))) (some ⟨b,0,none⟩) (d.length+1) (l.count c+1)=.slice 0 (D3 (d++[q])):=by
    unfold fzW
    simp only [C0e]
    rw [if_pos ⟨by omega,by simp⟩,List.replicate_zero,List.append_nil,List.drop_zero]
    have:=B23 (d++[q])
    rw [List.length_append] at this
    exact congrArg (AV.slice 0) this
   unfold fz
   rw [hm]
   unfold fg
   rw [D1q]
  ·obtain ⟨n,hn1⟩:∃ n:Nat,Lib.indexByte q c=n:=⟨(Lib.indexByte q c).toNat,by have:=Lib.indexByte_ge q c;omega⟩
   have hnl:=D7t hn1
   have hq:=B6v hn1
   rw [hq] at i1 hd
   rw [hn1] at hix
   have hs2:=A81 (q.drop (n+1)) c
   simp only [List.length_cons] at hd
   have hwn:IntKind.i64.wrap ((n:Int)+0)=(n:Int):=C7 (by omega) (by omega) (by omega)
   have hwn1:IntKind.i64.wrap ((n:Int)+([c].length:Nat))=((n+1:Nat):Int):=C7 rfl (by simp<;>omega) (by simp<;>omega)
   repeat' (first
    | (exfalso;first|omega|exact (by assumption:¬ True) trivial|fail)
    | (refine ⟨Sub.refl _,?_⟩)
    | (refine E7 (fun h=>?_) (fun h=>?_)<;>(try rw [h])<;>(try simp only [Bool.false_eq_true,Bool.true_eq_false,↓reduceIte,decide_eq_true_eq,decide_eq_false_iff_not,Bool.not_eq_true',Bool.not_eq_false'] at h)<;>(conv=>whnf))
    | (rw [hw3];conv=>whnf)
    | (refine A6.pure' ?_ (hix);rintro _ rfl;conv=>whnf)
    | (refine C0.pure ?_ (hix);conv=>whnf)
    | (refine B6 (by ((repeat (first|exact A7|assumption|refine (A9 (by assumption)).trans ?_|refine L8.trans ?_));done)) ?_;conv=>whnf)
    | (rw [hwn];conv=>whnf)
    | (rw [hwn1];conv=>whnf)
    | (refine E1 ?_;conv=>whnf)
    | (refine AWp.any (by kernel_rfl) (by kernel_rfl) (by kernel_rfl) ?_;conv=>whnf)
    | (apply And.intro;(focus (first|omega|rfl|decide|exact Nat.le_of_ble_eq_true rfl|((repeat' (first|exact all_nil|refine all_cons ?_ ?_|rfl|fail));done)|(simp [-List.length_flatMap];done)|(simp [-List.length_flatMap];omega)|fail));conv=>whnf)
    | fail)
   obtain ⟨k,hk⟩:∃ k,l.count c+1 - d.length=k+1:=⟨l.count c - d.length,by omega⟩
   rw [hk]
   refine ⟨by show 0+((d.length:Nat):Int).toNat * 1+1≤_;simp<;>omega,A0t (cs':=(d++[q.take n]).map AV.str++List.replicate k (AV.str [])) ?_ ?_⟩
   ·rw [show 0+((d.length:Nat):Int).toNat * (fun x=>x.size) Tryz.prog.types[9]=d.length by show 0+((d.length:Nat):Int).toNat * 1=_;omega]
    exact B8u d (q.take n) k
   refine wp ?_;(rw [hwn1]);refine wp ?_
   refine ⟨(d++[q.take n],q.drop (n+1)),?_,by (repeat (first|exact L0.refl _ _|refine L0.upd rfl ?_|refine L0.updL rfl ?_|refine L0.havoc rfl ?_)),⟨⟨by rw [i1];simp,by simp only [List.length_drop];omega⟩,A7.trans ?_,i4.set hb _ _⟩,by simp;omega⟩
   ·refine C1 ?_ (C1 ?_ rfl)
    ·show AV.str (List.drop (((n+1:Nat):Int)).toNat (List.take q.length q))=_
     rw [Int.toNat_natCast,W7]
    ·show AV.int .i64 (IntKind.i64.wrap ((d.length:Int)+1))=.int .i64 (((d++[q.take n]).length:Nat):Int)
     rw [C7 (b:=(d.length:Int)+1) rfl (by omega) (by omega)]
     simp
   ·rw [show l.count c+1 - (d++[q.take n]).length=k by simp;omega]
theorem D30 (l:List UInt8) (c:UInt8) (hl:l.length≤1048576):B7 Tryz.prog Γ 253 [.str l,.str [c]] fun v=>v=.slice 0 (D3 (U7 l c)):=by
 refine aps Tryz.func253 ?_
 intro s
 refine wr ?_;(first|(refine A6.pure' ?_ (B28 l c hl);rintro _ rfl)|refine C0.pure ?_ (B28 l c hl));refine wr ?_
 rfl
end Go.Proofs.YticnkpgmmpenlaaGreatDoor.Sp
namespace Go.Proofs.YticnkpgmmpenlaaGreatDoor.Lx
open Go Go.Ab Go.RowKit Go.Proofs.YticnkpgmmpenlaaGreatDoor.Sc
variable {Γ:Nat→AV}
attribute [local irreducible] B7 Sto.set Sto.grow
def pfx (x l:List UInt8):Bool:=decide (x.length≤l.length) && decide (l.take x.length=x)
theorem B0t (l p:List UInt8) (hp:p.length≤1048576):B7 Tryz.prog Γ 254 [.str l,.str p] fun v=>v=.bool (pfx p l):=by
 have inner:∀ Γ:Nat→AV,B7 Tryz.prog Γ 272 [.str l,.str p] fun v=>v=.bool (pfx p l):=by
  intro Γ
  refine aps Tryz.func272 ?_
  intro s
  conv=>whnf
  repeat' ((first|exact pru|(refine brS (fun h=>?_) (fun h=>?_)<;>(try rw [h])<;>(try simp only [bS,↓reduceIte] at h))|refine gS ?_|refine aA ?_|refine nA ?_|fail)<;>(conv=>whnf))
  ·refine C3 ?_
   rw [pfx,decide_eq_true (p:=p.length≤l.length) (by omega),Bool.true_and]
   rfl
  ·refine C3 ?_
   rw [pfx,decide_eq_false (p:=p.length≤l.length) (by omega),Bool.false_and]
 refine aps Tryz.func254 ?_
 intro s
 refine wr ?_;(first|(refine A6.pure' ?_ (inner _);rintro _ rfl)|refine C0.pure ?_ (inner _));refine wr ?_
 rfl
def signsL:List (List UInt8):=[[61,61],[33,61],[60,61],[62,61],[60],[62],[61],[40],[41],[44],[58],[43],[45],[42],[47],[37]]
def A1n:List (List UInt8)→List UInt8→List UInt8
 | [],_=>[]
 | x::r,l=>if pfx x l=true then x else A1n r l
def M0 (l:List UInt8):List UInt8:=A1n signsL l
theorem C3w:Sp.U7 [61,61,32,33,61,32,60,61,32,62,61,32,60,32,62,32,61,32,40,32,41,32,44,32,58,32,43,32,45,32,42,32,47,32,37] 32=signsL:=by decide
theorem C3u:∀ x ∈ signsL,x.length≤1048576:=by decide
theorem D3x {L:List (List UInt8)} {l:List UInt8} {i:Nat} (h:i < L.length):A1n (L.drop i) l=if pfx (L.getD i []) l=true then L.getD i [] else A1n (L.drop (i+1)) l:=by
 rw [show L.drop i=L.getD i []::L.drop (i+1) by simp [List.getD,h],A1n]
theorem D9 {L:List (List UInt8)} {i:Nat} (h:i < L.length):L.getD i [] ∈ L:=by simp [List.getD,h]
theorem C3c (l:List UInt8):B7 Tryz.prog Γ 222 [.str l] fun v=>v=.str (M0 l):=by
 have hsp:=Sp.D30 (Γ:=Γ) [61,61,32,33,61,32,60,61,32,62,61,32,60,32,62,32,61,32,40,32,41,32,44,32,58,32,43,32,45,32,42,32,47,32,37] 32 (by simp)
 rw [C3w] at hsp
 have hsm:=C3u
 unfold M0
 generalize hL:signsL=L at *
 have hlen:L.length=16:=by rw [← hL];rfl
 have hll:=A18 L
 refine aps Tryz.func222 ?_
 intro s
 refine wr ?_
 refine AWp.loopA [7] [8,9,10,4,11,12,13,14,2,15] (fun i:Nat=>[.int .i64 i]) (fun i s'=>i≤L.length∧s'=s∧A1n L l=A1n (L.drop i) l) (fun i=>L.length - i) (0) (by kernel_rfl) (eqa) ?_ ?_
 ·exact ⟨by omega,rfl,by rw [List.drop_zero]⟩
 ·rintro x i s1 ⟨h1,rfl,h2⟩
  show awp _ _ _ _ _ (updL _ _ [.int .i64 (i:Int)]) _
  conv=>whnf
  by_cases hlt:i < L.length
  ·have hg:=B2q hlt
   have hat:=D3x (l:=l) hlt
   have hm:=hsm _ (D9 hlt)
   generalize L.getD i []=g at *
   repeat' ((first|exact pru|(refine brS (fun h=>?_) (fun h=>?_)<;>(try rw [h])<;>(try simp only [bS,↓reduceIte] at h))|(rw [show (D3 L).getD ((i:Int)).toNat []=_ from hg])|(refine A6.pure' ?_ (B0t l g hm);rintro _ rfl)|refine C0.pure ?_ (B0t l g hm)|refine gS ?_|refine aA ?_|refine nA ?_|fail)<;>(conv=>whnf))
   ·rw [h2,hat,if_pos h]
    rfl
   ·refine ⟨i+1,eqa,C5,⟨by omega,by first|rfl|trivial,?_⟩,by omega⟩
    rw [h2,hat,if_neg (by simp_all)]
  ·refine wp ?_
   rw [h2,List.drop_of_length_le (by omega)]
   rfl
def B30:List UInt8:=[48,49,50,51,52,53,54,55,56,57]
def A53 (k:Nat):List AV:=(List.range 256).map fun c=>.bool (decide (48≤c) && decide (c < 48+k))
theorem D4f:∀ k:Nat,k < 10→(A53 k).take (48+k)++[.bool true]++(A53 k).drop (48+k+1)=A53 (k+1)
 | 0,_=>by kernel_rfl
 | 1,_=>by kernel_rfl
 | 2,_=>by kernel_rfl
 | 3,_=>by kernel_rfl
 | 4,_=>by kernel_rfl
 | 5,_=>by kernel_rfl
 | 6,_=>by kernel_rfl
 | 7,_=>by kernel_rfl
 | 8,_=>by kernel_rfl
 | 9,_=>by kernel_rfl
 | k+10,h=>by omega
theorem D1k:∀ k:Nat,k < 10→((B9 B30 k).toNat:Int)=((48+k:Nat):Int)
 | 0,_=>by kernel_rfl
 | 1,_=>by kernel_rfl
 | 2,_=>by kernel_rfl
 | 3,_=>by kernel_rfl
 | 4,_=>by kernel_rfl
 | 5,_=>by kernel_rfl
 | 6,_=>by kernel_rfl
 | 7,_=>by kernel_rfl
 | 8,_=>by kernel_rfl
 | 9,_=>by kernel_rfl
 | k+10,h=>by omega
theorem A1o (k:Nat):(A53 k).length=256:=by unfold A53;simp
theorem A0t {cs cs':List AV} {K:List AV→Prop} (h:cs=cs') (hk:K cs'):A5p cs K:=by rw [E8,h];exact hk
theorem B5w:B7 Tryz.prog Γ 287 [.str B30] fun v=>v=.tuple [.agg (A53 10),.bool true]:=by
 generalize hD:B30=D
 have hlen:D.length=10:=by rw [← hD];rfl
 have hda:=fun k h=>D1k k h
 rw [hD] at hda
 refine aps Tryz.func287 ?_
 intro s
 refine wr ?_
 intro b hb
 refine wr ?_
 refine AWp.loopA [4] [6,7,8,9,12,13,14,5,15,16,17,3,18,19,10,11] (fun i:Nat=>[.int .i64 i]) (fun i s'=>i≤10∧s'.bx b=some (333,A53 i)∧Sub s s') (fun i=>10 - i) (0) (by kernel_rfl) (eqa) ?_ ?_
 ·exact ⟨by omega,A7,(Sub.refl _).set hb _ _⟩
 ·rintro x i s1 ⟨h1,h2,h3⟩
  show awp _ _ _ _ _ (updL _ _ [.int .i64 (i:Int)]) _
  conv=>whnf
  by_cases hlt:i < 10
  ·have hd:=hda i hlt
   have hz:B9 D ((i:Int)).toNat=B9 D i:=rfl
   repeat' ((first|exact pru|(refine brS (fun h=>?_) (fun h=>?_)<;>(try rw [h])<;>(try simp only [bS,↓reduceIte] at h))|refine E9 ?_|(rw [hz])|(rw [hd])|refine gS ?_|refine aA ?_|refine nA ?_|fail)<;>(conv=>whnf))
   refine ⟨?_,A0t (cs':=A53 (i+1)) ?_ ?_⟩
   ·rw [A1o]
    show 0+((48+i:Nat):Int).toNat * 1+1≤256
    omega
   ·rw [show 0+((48+i:Nat):Int).toNat * (fun x=>x.size) Tryz.prog.types[4]=48+i by show 0+((48+i:Nat):Int).toNat * 1=_;omega]
    exact D4f i hlt
   refine wp ?_
   exact ⟨i+1,eqa,C5,⟨by omega,A7,h3.set hb _ _⟩,by omega⟩
  ·obtain rfl:i=10:=by omega
   refine wp ?_
   exact ⟨h3.set hb _ _,by kernel_rfl⟩
end Go.Proofs.YticnkpgmmpenlaaGreatDoor.Lx
namespace Go.Proofs.YticnkpgmmpenlaaGreatDoor.Lx
open Go Go.Ab Go.RowKit Go.Proofs.YticnkpgmmpenlaaGreatDoor.Sc
variable {Γ:Nat→AV}
attribute [local irreducible] B7 Sto.set Sto.grow A53
theorem D4e (c:UInt8):(A53 10).drop c.toNat=.bool (A6h c.toNat)::(A53 10).drop (c.toNat+1):=by
 have hc:c.toNat < 256:=c.toNat_lt
 have hlen:=A1o 10
 rw [List.drop_eq_getElem_cons (by omega)]
 congr 1
 unfold A53 A6h
 simp only [List.getElem_map,List.getElem_range]
 refine congrArg AV.bool ?_
 rw [Bool.eq_iff_iff]
 simp
 omega
theorem V0 {s:Sto} {b:Nat} (hb:s.bx b=some (333,A53 10)) (c:UInt8) :
  A6 Tryz.prog Γ 300 [.ptr (some ⟨b,0,none⟩),.int .u8 c.toNat] s fun v s'=>v=.bool (A6h c.toNat)∧s'=s:=by
 have hd:(A53 10).drop (0+((c.toNat:Int)).toNat * (fun x=>x.size) Tryz.prog.types[4])=.bool (A6h c.toNat)::(A53 10).drop (c.toNat+1):=by
  rw [show 0+((c.toNat:Int)).toNat * (fun x=>x.size) Tryz.prog.types[4]=c.toNat by show 0+((c.toNat:Nat):Int).toNat * 1=_;omega]
  exact D4e c
 have hc:c.toNat < 256:=c.toNat_lt
 refine acs Tryz.func300 ?_
 refine wp ?_;(rw [hd]);refine wp ?_
 exact ⟨_,Sub.refl _,rfl,rfl⟩
def digB (c:UInt8):Bool:=A6h c.toNat
def A8c (l:List UInt8):List UInt8:=l.dropWhile digB
def A1p (l:List UInt8):List UInt8:=(l.reverse.dropWhile digB).reverse
theorem B68 (l:List UInt8) (c:UInt8):A1p (l++[c])=if digB c=true then A1p l else l++[c]:=by
 unfold A1p
 rw [List.reverse_append,List.reverse_singleton,List.singleton_append,List.dropWhile_cons]
 split<;>simp
theorem C57 (l:List UInt8):(A1p l).length≤l.length:=by
 unfold A1p
 rw [List.length_reverse]
 have:=(List.dropWhile_sublist (p:=digB) (l:=l.reverse)).length_le
 rw [List.length_reverse] at this
 exact this
theorem C33 {s:Sto} {b:Nat} (hb:s.bx b=some (333,A53 10)) (l:List UInt8) (hl:l.length≤1048576) :
  A6 Tryz.prog Γ 288 [.str l,.ptr (some ⟨b,0,none⟩)] s fun v s'=>v=.str (A8c l)∧s'=s:=by
 refine acs Tryz.func288 ?_
 refine wr ?_
 refine AWp.loopA [0] [5,6,7,8,9,10,11,12,13,14] (fun q:List UInt8=>[.str q]) (fun q s'=>q.length≤l.length∧s'=s∧A8c l=A8c q) (fun q=>q.length) (l) (by kernel_rfl) (eqa) ?_ ?_
 ·exact ⟨Nat.le_refl _,rfl,rfl⟩
 ·rintro x q s1 ⟨h1,rfl,h2⟩
  show awp _ _ _ _ _ (updL _ _ [.str q]) _
  conv=>whnf
  cases q with
  | nil =>
   refine wp ?_
   exact ⟨_,Sub.refl _,by rw [h2];rfl,rfl⟩
  | cons c q =>
   have hz:B9 (c::q) (0:Int).toNat=c:=rfl
   have hp:0 < (c::q).length:=by simp
   repeat' ((first|exact pru|(refine brS (fun h=>?_) (fun h=>?_)<;>(try rw [h])<;>(try simp only [bS,↓reduceIte] at h))|(rw [hz])|(refine A6.by (V0 hb c) ?_;rintro _ _ ⟨rfl,rfl⟩)|refine gS ?_|refine aA ?_|refine nA ?_|fail)<;>(conv=>whnf))
   ·exact ⟨_,Sub.refl _,by rw [h2,A8c,List.dropWhile_cons,if_neg (by unfold digB;simp [h])];rfl,rfl⟩
   ·refine ⟨q,?_,C5,⟨by simp only [List.length_cons] at h1;omega,by first|rfl|trivial,?_⟩,by simp⟩
    ·exact C1 (by show AV.str (List.drop (1:Int).toNat (List.take (c::q).length (c::q)))=_;rw [List.take_length];rfl) rfl
    ·rw [h2,A8c,List.dropWhile_cons,if_pos (by unfold digB;exact h)];rfl
theorem C1i {s:Sto} {b:Nat} (hb:s.bx b=some (333,A53 10)) (l:List UInt8) (hl:l.length≤1048576) :
  A6 Tryz.prog Γ 289 [.str l,.ptr (some ⟨b,0,none⟩)] s fun v s'=>v=.str (A1p l)∧s'=s:=by
 refine acs Tryz.func289 ?_
 refine wr ?_
 refine AWp.loopA [0] [5,6,7,8,9,10,11,12,13,14,15,16,17,18,19,20] (fun k:Nat=>[.str (l.take k)]) (fun k s'=>k≤l.length∧s'=s∧A1p l=A1p (l.take k)) (fun k=>k) (l.length) (by kernel_rfl) (C1 (by rw [List.take_length];rfl) rfl) ?_ ?_
 ·exact ⟨Nat.le_refl _,rfl,by rw [List.take_length]⟩
 ·rintro x k s1 ⟨h1,rfl,h2⟩
  show awp _ _ _ _ _ (updL _ _ [.str (l.take k)]) _
  conv=>whnf
  have hlen:(l.take k).length=k:=by rw [List.length_take];omega
  cases k with
  | zero =>
   refine wp ?_
   exact ⟨_,Sub.refl _,by rw [h2];rfl,rfl⟩
  | succ k =>
   have ht:l.take (k+1)=l.take k++[B9 l k]:=A54 (by omega)
   have hw:IntKind.i64.wrap (((l.take (k+1)).length:Int) - 1)=(k:Int):=C7 (by omega) (by omega) (by omega)
   have hz:B9 (l.take (k+1)) ((k:Int)).toNat=B9 l k:=by
    rw [Int.toNat_natCast,ht]
    have:=C1x (l.take k++[B9 l k]) (l.take k).length 0
    rw [List.drop_left,Nat.add_zero,List.length_take,Nat.min_eq_left (by omega)] at this
    exact this.symm
   repeat' ((first|exact pru|(refine brS (fun h=>?_) (fun h=>?_)<;>(try rw [h])<;>(try simp only [bS,↓reduceIte] at h))|(rw [hw])|(rw [hz])|(refine A6.by (V0 hb (B9 l k)) ?_;rintro _ _ ⟨rfl,rfl⟩)|refine gS ?_|refine aA ?_|refine nA ?_|fail)<;>(conv=>whnf))
   ·exact ⟨_,Sub.refl _,by rw [h2,ht,B68,if_neg (by unfold digB;simp [h]),← ht];rfl,rfl⟩
   ·refine ⟨k,?_,C5,⟨by omega,by first|rfl|trivial,?_⟩,by omega⟩
    ·exact C1 (by show AV.str (List.drop 0 (List.take ((k:Int)).toNat (l.take (k+1))))=_;rw [Int.toNat_natCast,List.drop_zero,List.take_take,Nat.min_eq_left (by omega)]) rfl
    ·rw [h2,ht,B68,if_pos (by unfold digB;exact h)]
theorem A6i {p:UInt8→Bool}:∀ l:List UInt8,l.dropWhile p=[]↔l.all p=true
 | []=>by simp
 | c::r=>by
  rw [List.dropWhile_cons,List.all_cons]
  by_cases h:p c=true
  ·rw [if_pos h,A6i r,h,Bool.true_and]
  ·rw [if_neg h]
   simp [h]
theorem C6m {p:UInt8→Bool} {x:UInt8} {r:List UInt8}:∀ l:List UInt8,l.dropWhile p=x::r→p x=false
 | []=>by simp
 | c::q=>by
  rw [List.dropWhile_cons]
  by_cases h:p c=true
  ·rw [if_pos h];exact C6m q
  ·rw [if_neg h]
   intro he
   injection he with he _
   rw [← he];simpa using h
theorem D4r (l:List UInt8):A8c (A1p l)=[]↔l.all digB=true:=by
 have hr:∀ m:List UInt8,m.reverse.all digB=m.all digB:=fun m=>List.all_reverse
 constructor
 ·intro h
  have h1:=(A6i _).1 h
  rw [← hr,← A6i]
  unfold A1p at h1
  rw [hr] at h1
  rcases hd:l.reverse.dropWhile digB with _|⟨x,r⟩
  ·rfl
  ·have h2:=C6m _ hd
   rw [hd,List.all_cons,h2] at h1
   cases h1
 ·intro h
  rw [← hr,← A6i] at h
  unfold A1p
  rw [h];rfl
theorem D4d:(A53 10).all A99=true:=by
 unfold A53
 rw [List.all_map,List.all_eq_true]
 exact fun _ _=>rfl
theorem B37 (l:List UInt8) (hl:l.length≤1048576):B7 Tryz.prog Γ 270 [.str l,.str B30] fun v=>v=.str (A8c (A1p l)):=by
 have hr:=C57 l
 refine aps Tryz.func270 ?_
 intro s
 conv=>whnf
 repeat' ((first|exact pru|(refine brS (fun h=>?_) (fun h=>?_)<;>(try rw [h])<;>(try simp only [bS,↓reduceIte] at h))|(refine A6.pure' ?_ (B5w);rintro _ rfl)|refine C0.pure ?_ (B5w)|refine gS ?_|refine aA ?_|refine nA ?_|fail)<;>(conv=>whnf))
 ·rw [h];rfl
 ·intro b hb
  conv=>whnf
  refine B6 A7 ?_
  conv=>whnf
  refine ⟨A1o 10,D4d,Nat.le_of_ble_eq_true (by kernel_rfl),A0t (cs':=A53 10) (List.append_nil _) ?_⟩
  refine wp ?_;(refine A6.by (C1i A7 l hl) ?_;rintro _ _ ⟨rfl,rfl⟩);refine wp ?_;(refine A6.by (C33 A7 (A1p l) (by omega)) ?_;rintro _ _ ⟨rfl,rfl⟩);refine wp ?_
  exact ⟨((Sub.refl _).set hb _ _).set hb _ _,rfl⟩
def A28 (l:List UInt8):Int:=if l.all digB=false∨(B9 l 0=48∧1 < l.length) then 4 else if 32 < l.length then 3 else 0
def A2a (k:Int) (t:List UInt8):AV:=.agg [.int .i64 k,.str t,.int .i64 0,.int .i64 0]
def B04 (e:Int):AV:=.iface 200 (.agg [.int .i64 e])
def D2y (l:List UInt8):AV:=if A28 l=0 then .tuple [A2a 3 l,.nilIface] else .tuple [A2a 0 [],B04 (A28 l)]
theorem b48 {b:UInt8}:(b.toNat:Int)=48↔b=48:=B0a (n:=48) (by decide)
theorem B03 {l:List UInt8} {e:Int} (h:A28 l=e) (he:e≠0):D2y l=.tuple [A2a 0 [],B04 e]:=by rw [D2y,if_neg (by rw [h];exact he),h]
theorem B2h {l:List UInt8} (h:A28 l=0):D2y l=.tuple [A2a 3 l,.nilIface]:=by rw [D2y,if_pos h]
theorem B2i (l:List UInt8) (h0:0 < l.length) (hl:l.length≤1048576):B7 Tryz.prog Γ 252 [.str l] fun v=>v=D2y l:=by
 have htr:=B37 (Γ:=Γ) l hl
 have hnil:=D4r l
 generalize A8c (A1p l)=T at htr hnil
 have h48:=b48 (b:=B9 l 0)
 have hz:B9 l (0:Int).toNat=B9 l 0:=rfl
 have fine:T=[]→¬ (B9 l 0=48∧1 < l.length)→¬ (l.all digB=false∨(B9 l 0=48∧1 < l.length)):=fun hT hn hh=>hh.elim (fun ha=>by rw [hnil.1 hT] at ha;cases ha) hn
 refine aps Tryz.func252 ?_
 intro s
 conv=>whnf
 intro b hb
 conv=>whnf
 repeat' ((first|exact pru|(refine brS (fun h=>?_) (fun h=>?_)<;>(try rw [h])<;>(try simp only [bS,↓reduceIte] at h))|refine E9 ?_|(refine A6.pure' ?_ (htr);rintro _ rfl)|refine C0.pure ?_ (htr)|(rw [hz])|refine gS ?_|refine aA ?_|refine nA ?_|fail)<;>(conv=>whnf))
 all_goals refine ⟨((Sub.refl _).set hb _ _).set hb _ _,?_⟩
 ·rw [B03 (e:=4) (if_pos (.inl (by simpa using mt hnil.2 h))) (by decide)]
  rfl
 ·rw [B03 (e:=4) (if_pos (.inr ⟨h48.1 (by assumption),by omega⟩)) (by decide)]
  rfl
 ·rw [B2h (by rw [A28,if_neg (fine (by assumption) (by omega)),if_neg (by omega)])]
  rfl
 ·rw [B03 (e:=3) (by rw [A28,if_neg (fine (by assumption) (fun hh=>by have:=h48.2 hh.1;omega)),if_pos (by omega)]) (by decide)]
  rfl
 ·rw [B2h (by rw [A28,if_neg (fine (by assumption) (fun hh=>by have:=h48.2 hh.1;omega)),if_neg (by omega)])]
  rfl
def F4 (l:List UInt8):Except Int (Int × List UInt8) :=
 if digB (B9 l 0)=true then (if A28 l=0 then .ok (3,l) else .error (A28 l)) else if 32 < l.length then .error 3 else if B2c l=true then .ok (2,l) else .ok (1,l)
def D3r:Except Int (Int × List UInt8)→AV
 | .ok (k,t)=>.tuple [A2a k t,.nilIface]
 | .error e=>.tuple [A2a 0 [],B04 e]
theorem B5u (hT:Wds Γ) (l:List UInt8) (h0:0 < l.length) (hl:l.length≤1048576):B7 Tryz.prog Γ 221 [.str l] fun v=>v=D3r (F4 l):=by
 have hw:=A6u hT l
 have hn:=B2i (Γ:=Γ) l h0 hl
 have hz:B9 l (0:Int).toNat=B9 l 0:=rfl
 have hd:digB (B9 l 0)=true↔(48:Int)≤(B9 l 0).toNat∧((B9 l 0).toNat:Int)≤57:=by unfold digB A6h;simp
 by_cases hE:A28 l=0
 ·rw [B2h hE] at hn
  unfold A2a at hn
  refine aps Tryz.func221 ?_
  intro s
  conv=>whnf
  intro b hb
  conv=>whnf
  repeat' ((first|exact pru|(refine brS (fun h=>?_) (fun h=>?_)<;>(try rw [h])<;>(try simp only [bS,↓reduceIte] at h))|refine E9 ?_|(refine A6.pure' ?_ (hn);rintro _ rfl)|refine C0.pure ?_ (hn)|(refine A6.pure' ?_ (hw);rintro _ rfl)|refine C0.pure ?_ (hw)|(rw [hz])|refine gS ?_|refine aA ?_|refine nA ?_|fail)<;>(conv=>whnf))
  all_goals refine ⟨((Sub.refl _).set hb _ _).set hb _ _,?_⟩
  ·rw [F4,if_pos (hd.2 ⟨by omega,by omega⟩),if_pos hE]
   rfl
  ·rw [F4,if_neg (fun hh=>by have:=hd.1 hh;omega),if_pos (by omega)]
   rfl
  ·rw [F4,if_neg (fun hh=>by have:=hd.1 hh;omega),if_neg (by omega),if_pos (by assumption)]
   rfl
  ·rw [F4,if_neg (fun hh=>by have:=hd.1 hh;omega),if_neg (by omega),if_neg (by simp_all)]
   rfl
  ·rw [F4,if_neg (fun hh=>by have:=hd.1 hh;omega),if_pos (by omega)]
   rfl
  ·rw [F4,if_neg (fun hh=>by have:=hd.1 hh;omega),if_neg (by omega),if_pos (by assumption)]
   rfl
  ·rw [F4,if_neg (fun hh=>by have:=hd.1 hh;omega),if_neg (by omega),if_neg (by simp_all)]
   rfl
 ·rw [B03 rfl hE] at hn
  unfold A2a B04 at hn
  refine aps Tryz.func221 ?_
  intro s
  conv=>whnf
  intro b hb
  conv=>whnf
  repeat' ((first|exact pru|(refine brS (fun h=>?_) (fun h=>?_)<;>(try rw [h])<;>(try simp only [bS,↓reduceIte] at h))|refine E9 ?_|(refine A6.pure' ?_ (hn);rintro _ rfl)|refine C0.pure ?_ (hn)|(refine A6.pure' ?_ (hw);rintro _ rfl)|refine C0.pure ?_ (hw)|(rw [hz])|refine gS ?_|refine aA ?_|refine nA ?_|fail)<;>(conv=>whnf))
  all_goals refine ⟨((Sub.refl _).set hb _ _).set hb _ _,?_⟩
  ·rw [F4,if_pos (hd.2 ⟨by omega,by omega⟩),if_neg hE]
   rfl
  ·rw [F4,if_neg (fun hh=>by have:=hd.1 hh;omega),if_pos (by omega)]
   rfl
  ·rw [F4,if_neg (fun hh=>by have:=hd.1 hh;omega),if_neg (by omega),if_pos (by assumption)]
   rfl
  ·rw [F4,if_neg (fun hh=>by have:=hd.1 hh;omega),if_neg (by omega),if_neg (by simp_all)]
   rfl
  ·rw [F4,if_neg (fun hh=>by have:=hd.1 hh;omega),if_pos (by omega)]
   rfl
  ·rw [F4,if_neg (fun hh=>by have:=hd.1 hh;omega),if_neg (by omega),if_pos (by assumption)]
   rfl
  ·rw [F4,if_neg (fun hh=>by have:=hd.1 hh;omega),if_neg (by omega),if_neg (by simp_all)]
   rfl
def K5:List UInt8→Nat
 | []=>0
 | c::r=>if K9 c.toNat=true then K5 r+1 else 0
theorem C0r:∀ l:List UInt8,K5 l≤l.length
 | []=>Nat.le_refl _
 | c::r=>by
  have:=C0r r
  unfold K5
  split
  ·simp only [List.length_cons];omega
  ·omega
theorem D54 {l:List UInt8} {i:Nat} (h:i < l.length):K5 (l.drop i)=if K9 (B9 l i).toNat=true then K5 (l.drop (i+1))+1 else 0:=by rw [A08 h,K5]
def J4 (l:List UInt8):Except Int (Int × List UInt8 × Nat) :=
 if B9 l 0=34 then (match Qu.cut l with
  | none=>.error 17
  | some (t,k)=>if 4096 < t.length then .error 3 else .ok (4,t,k))
 else if K5 l=0 then (if M0 l=[] then .error 15 else .ok (5,M0 l,(M0 l).length))
 else match F4 (l.take (K5 l)) with
  | .error e=>.error e
  | .ok (k,t)=>.ok (k,t,K5 l)
def T7 (l:List UInt8):AV :=
 match J4 l with
 | .ok (k,t,n)=>.tuple [A2a k t,.int .i64 n,.nilIface]
 | .error e=>.tuple [A2a 0 [],.int .i64 (if B9 l 0=34 then 0 else K5 l:Nat),B04 e]
theorem C95 (hQ:Qu.A10 Γ) (l:List UInt8) (hl:l.length≤1048576) (h34:B9 l 0=34):B7 Tryz.prog Γ 219 [.str l] fun v=>v=T7 l:=by
 rcases hc:Qu.cut l with _|⟨t,k⟩
 ·have hq:=Qu.C05 hQ l hl hc
  have hf:T7 l=.tuple [A2a 0 [],.int .i64 0,B04 17]:=by unfold T7 J4;rw [if_pos h34,hc];simp only [if_pos h34];rfl
  rw [hf]
  refine aps Tryz.func219 ?_
  intro s
  conv=>whnf
  intro b hb
  refine wp ?_
  exact ⟨((Sub.refl _).set hb _ _).set hb _ _,rfl⟩
 ·have hq:=Qu.C06 hQ l hl hc
  by_cases ht:4096 < t.length
  ·have hf:T7 l=.tuple [A2a 0 [],.int .i64 0,B04 3]:=by unfold T7 J4;rw [if_pos h34,hc];simp only [if_pos ht,if_pos h34];rfl
   rw [hf]
   refine aps Tryz.func219 ?_
   intro s
   conv=>whnf
   intro b hb
   refine wp ?_
   exact ⟨((Sub.refl _).set hb _ _).set hb _ _,rfl⟩
  ·have hf:T7 l=.tuple [A2a 4 t,.int .i64 k,.nilIface]:=by unfold T7 J4;rw [if_pos h34,hc];simp only [if_neg ht]
   rw [hf]
   refine aps Tryz.func219 ?_
   intro s
   conv=>whnf
   intro b hb
   refine wp ?_
   exact ⟨((Sub.refl _).set hb _ _).set hb _ _,rfl⟩
end Go.Proofs.YticnkpgmmpenlaaGreatDoor.Lx
namespace Go.Proofs.YticnkpgmmpenlaaGreatDoor.Lx
open Go Go.Ab Go.RowKit Go.Proofs.YticnkpgmmpenlaaGreatDoor.Sc
variable {Γ:Nat→AV}
attribute [local irreducible] B7 Sto.set Sto.grow
theorem B0o {l:List UInt8} (h:B9 l 0≠34) (h0:K5 l=0) (hg:M0 l=[]):T7 l=.tuple [A2a 0 [],.int .i64 0,B04 15]:=by
 unfold T7 J4
 rw [if_neg h,if_pos h0,if_pos hg]
 simp only [if_neg h,h0]
 rfl
theorem B26 {l:List UInt8} (h:B9 l 0≠34) (h0:K5 l=0) (hg:M0 l≠[]):T7 l=.tuple [A2a 5 (M0 l),.int .i64 (M0 l).length,.nilIface]:=by
 unfold T7 J4
 rw [if_neg h,if_pos h0,if_neg hg]
theorem B5c {l:List UInt8} {e:Int} (h:B9 l 0≠34) (h0:K5 l≠0) (he:F4 (l.take (K5 l))=.error e):T7 l=.tuple [A2a 0 [],.int .i64 (K5 l),B04 e]:=by
 unfold T7 J4
 rw [if_neg h,if_neg h0,he]
 simp only [if_neg h]
theorem B25 {l:List UInt8} {k:Int} {t:List UInt8} (h:B9 l 0≠34) (h0:K5 l≠0) (he:F4 (l.take (K5 l))=.ok (k,t)):T7 l=.tuple [A2a k t,.int .i64 (K5 l),.nilIface]:=by
 unfold T7 J4
 rw [if_neg h,if_neg h0,he]
theorem C8q (l:List UInt8):(∃ k t n,T7 l=.tuple [A2a k t,.int .i64 n,.nilIface])∨∃ n e,T7 l=.tuple [A2a 0 [],.int .i64 n,B04 e]:=by
 unfold T7
 rcases J4 l with e|⟨k,t,n⟩
 ·exact .inr ⟨_,_,rfl⟩
 ·exact .inl ⟨_,_,_,rfl⟩
theorem D1v (hQ:Qu.A10 Γ) (hT:Wds Γ) (l:List UInt8) (h0:0 < l.length) (hl:l.length≤1048576):B7 Tryz.prog Γ 156 [.str l] fun v=>v=T7 l:=by
 have hz:B9 l (0:Int).toNat=B9 l 0:=rfl
 have h34:=b34 (b:=B9 l 0)
 by_cases hq:B9 l 0=34
 ·have hq':=h34.2 hq
  have hqq:=C95 hQ l hl hq
  rcases C8q l with ⟨k,t,n,he⟩|⟨n,e,he⟩
  ·rw [he] at hqq ⊢
   unfold A2a at hqq
   refine aps Tryz.func156 ?_
   intro s
   conv=>whnf
   intro b hb
   conv=>whnf
   repeat' ((first|exact pru|(refine brS (fun h=>?_) (fun h=>?_)<;>(try rw [h])<;>(try simp only [bS,↓reduceIte] at h))|refine E9 ?_|(refine A6.pure' ?_ (hqq);rintro _ rfl)|refine C0.pure ?_ (hqq)|(rw [hz])|refine gS ?_|refine aA ?_|refine nA ?_|fail)<;>(conv=>whnf))
   ·exact ⟨((Sub.refl _).set hb _ _).set hb _ _,rfl⟩
  ·rw [he] at hqq ⊢
   unfold A2a B04 at hqq
   refine aps Tryz.func156 ?_
   intro s
   conv=>whnf
   intro b hb
   conv=>whnf
   repeat' ((first|exact pru|(refine brS (fun h=>?_) (fun h=>?_)<;>(try rw [h])<;>(try simp only [bS,↓reduceIte] at h))|refine E9 ?_|(refine A6.pure' ?_ (hqq);rintro _ rfl)|refine C0.pure ?_ (hqq)|(rw [hz])|refine gS ?_|refine aA ?_|refine nA ?_|fail)<;>(conv=>whnf))
   ·exact ⟨((Sub.refl _).set hb _ _).set hb _ _,rfl⟩
 ·have hq':¬ ((B9 l 0).toNat:Int)=34:=fun h=>hq (h34.1 h)
  have hs:=C3c (Γ:=Γ) l
  have hlt:=C0r l
  refine aps Tryz.func156 ?_
  intro s
  conv=>whnf
  intro b hb
  conv=>whnf
  repeat' ((first|exact pru|(refine brS (fun h=>?_) (fun h=>?_)<;>(try rw [h])<;>(try simp only [bS,↓reduceIte] at h))|refine E9 ?_|(rw [hz])|refine gS ?_|refine aA ?_|refine nA ?_|fail)<;>(conv=>whnf))
  refine AWp.loopA [5] [17,18,19,20,21,22,23,24,25,26,27,28] (fun i:Nat=>[.int .i64 i]) (fun i s'=>i≤l.length∧s'=s.set b 163 [.int .i64 0,.str [],.int .i64 0,.int .i64 0]∧K5 l=i+K5 (l.drop i)) (fun i=>l.length - i) (0) (by kernel_rfl) (eqa) ?_ ?_
  ·exact ⟨by omega,rfl,by rw [List.drop_zero];simp⟩
  ·rintro x i _ ⟨i1,rfl,i2⟩
   show awp _ _ _ _ _ (updL _ _ [.int .i64 (i:Int)]) _
   conv=>whnf
   have hA:List.drop 0 (List.take ((i:Int)).toNat l)=l.take i:=by rw [Int.toNat_natCast,List.drop_zero]
   have hzi:B9 l ((i:Int)).toNat=B9 l i:=rfl
   by_cases hlt:i < l.length
   ·have hat:=D54 hlt
    have hpl:=B71 (Γ:=Γ) ((B9 l i).toNat:Int)
    by_cases hw:K9 (B9 l i).toNat=true
    ·rw [if_pos hw] at hat
     rw [hw] at hpl
     refine wp ?_;(rw [hzi]);refine wp ?_
     refine ⟨i+1,eqa,C5,⟨by omega,by first|rfl|trivial,by omega⟩,by omega⟩
    ·rw [if_neg hw] at hat
     rw [Bool.eq_false_iff.2 hw] at hpl
     have hN:K5 l=i:=by omega
     by_cases hi0:i=0
     ·subst hi0
      by_cases hg:M0 l=[]
      ·rw [B0o hq hN hg]
       rw [hg] at hs
       repeat' ((first|exact pru|(refine brS (fun h=>?_) (fun h=>?_)<;>(try rw [h])<;>(try simp only [bS,↓reduceIte] at h))|(rw [hzi])|(refine A6.pure' ?_ (hpl);rintro _ rfl)|refine C0.pure ?_ (hpl)|(refine A6.pure' ?_ (hs);rintro _ rfl)|refine C0.pure ?_ (hs)|refine E9 ?_|refine gS ?_|refine aA ?_|refine nA ?_|fail)<;>(conv=>whnf))
       all_goals (first|exact ⟨((Sub.refl _).set hb _ _).set hb _ _,rfl⟩|exact absurd (by assumption) hg)
      ·rw [B26 hq hN hg]
       repeat' ((first|exact pru|(refine brS (fun h=>?_) (fun h=>?_)<;>(try rw [h])<;>(try simp only [bS,↓reduceIte] at h))|(rw [hzi])|(refine A6.pure' ?_ (hpl);rintro _ rfl)|refine C0.pure ?_ (hpl)|(refine A6.pure' ?_ (hs);rintro _ rfl)|refine C0.pure ?_ (hs)|refine E9 ?_|refine gS ?_|refine aA ?_|refine nA ?_|fail)<;>(conv=>whnf))
       all_goals (first|exact ⟨((Sub.refl _).set hb _ _).set hb _ _,rfl⟩|exact absurd (by assumption) hg)
     ·have hle:=B5u hT (l.take i) (by rw [List.length_take];omega) (by rw [List.length_take];omega)
      have hN0:K5 l≠0:=by omega
      rcases hL:F4 (l.take i) with e|⟨k,t⟩
      ·rw [B5c hq hN0 (by rw [hN];exact hL),hN]
       rw [hL] at hle
       simp only [D3r,A2a,B04] at hle
       refine wp ?_;(rw [hzi]);refine wp ?_;(rw [hA]);refine wp ?_
       intro b2 hb2
       have n_b_b2:b≠b2:=A8 bxa hb2
       have n_b2_b:=n_b_b2.symm
       refine wp ?_
       exact ⟨((((Sub.refl _).set hb _ _).set (D7 hb2).2 _ _).set (D7 hb2).2 _ _).set hb _ _,rfl⟩
      ·rw [B25 hq hN0 (by rw [hN];exact hL),hN]
       rw [hL] at hle
       simp only [D3r,A2a] at hle
       refine wp ?_;(rw [hzi]);refine wp ?_;(rw [hA]);refine wp ?_
       intro b2 hb2
       have n_b_b2:b≠b2:=A8 bxa hb2
       have n_b2_b:=n_b_b2.symm
       refine wp ?_
       exact ⟨((((Sub.refl _).set hb _ _).set (D7 hb2).2 _ _).set (D7 hb2).2 _ _).set hb _ _,rfl⟩
   ·have hN:K5 l=i:=by rw [D5 hlt] at i2;exact i2
    by_cases hi0:i=0
    ·subst hi0
     by_cases hg:M0 l=[]
     ·rw [B0o hq hN hg]
      rw [hg] at hs
      repeat' ((first|exact pru|(refine brS (fun h=>?_) (fun h=>?_)<;>(try rw [h])<;>(try simp only [bS,↓reduceIte] at h))|(rw [hzi])|(refine A6.pure' ?_ (hs);rintro _ rfl)|refine C0.pure ?_ (hs)|(refine A6.pure' ?_ (hs);rintro _ rfl)|refine C0.pure ?_ (hs)|refine E9 ?_|refine gS ?_|refine aA ?_|refine nA ?_|fail)<;>(conv=>whnf))
      all_goals (first|exact ⟨((Sub.refl _).set hb _ _).set hb _ _,rfl⟩|exact absurd (by assumption) hg)
     ·rw [B26 hq hN hg]
      repeat' ((first|exact pru|(refine brS (fun h=>?_) (fun h=>?_)<;>(try rw [h])<;>(try simp only [bS,↓reduceIte] at h))|(rw [hzi])|(refine A6.pure' ?_ (hs);rintro _ rfl)|refine C0.pure ?_ (hs)|(refine A6.pure' ?_ (hs);rintro _ rfl)|refine C0.pure ?_ (hs)|refine E9 ?_|refine gS ?_|refine aA ?_|refine nA ?_|fail)<;>(conv=>whnf))
      all_goals (first|exact ⟨((Sub.refl _).set hb _ _).set hb _ _,rfl⟩|exact absurd (by assumption) hg)
    ·have hle:=B5u hT (l.take i) (by rw [List.length_take];omega) (by rw [List.length_take];omega)
     have hN0:K5 l≠0:=by omega
     rcases hL:F4 (l.take i) with e|⟨k,t⟩
     ·rw [B5c hq hN0 (by rw [hN];exact hL),hN]
      rw [hL] at hle
      simp only [D3r,A2a,B04] at hle
      repeat' ((first|exact pru|(refine brS (fun h=>?_) (fun h=>?_)<;>(try rw [h])<;>(try simp only [bS,↓reduceIte] at h))|(rw [hzi])|(refine A6.pure' ?_ (hs);rintro _ rfl)|refine C0.pure ?_ (hs)|(rw [hA])|(refine A6.pure' ?_ (hle);rintro _ rfl)|refine C0.pure ?_ (hle)|refine gS ?_|refine aA ?_|refine nA ?_|fail)<;>(conv=>whnf))
      intro b2 hb2
      have n_b_b2:b≠b2:=A8 bxa hb2
      have n_b2_b:=n_b_b2.symm
      refine wp ?_
      exact ⟨((((Sub.refl _).set hb _ _).set (D7 hb2).2 _ _).set (D7 hb2).2 _ _).set hb _ _,rfl⟩
     ·rw [B25 hq hN0 (by rw [hN];exact hL),hN]
      rw [hL] at hle
      simp only [D3r,A2a] at hle
      repeat' ((first|exact pru|(refine brS (fun h=>?_) (fun h=>?_)<;>(try rw [h])<;>(try simp only [bS,↓reduceIte] at h))|(rw [hzi])|(refine A6.pure' ?_ (hs);rintro _ rfl)|refine C0.pure ?_ (hs)|(rw [hA])|(refine A6.pure' ?_ (hle);rintro _ rfl)|refine C0.pure ?_ (hle)|refine gS ?_|refine aA ?_|refine nA ?_|fail)<;>(conv=>whnf))
      intro b2 hb2
      have n_b_b2:b≠b2:=A8 bxa hb2
      have n_b2_b:=n_b_b2.symm
      refine wp ?_
      exact ⟨((((Sub.refl _).set hb _ _).set (D7 hb2).2 _ _).set (D7 hb2).2 _ _).set hb _ _,rfl⟩
theorem C2u:∀ l:List UInt8,(l.take (K5 l)).all (fun c=>K9 c.toNat)=true
 | []=>rfl
 | c::r=>by
  unfold K5
  split
  ·rename_i h
   rw [List.take_succ_cons,List.all_cons,h,C2u r];rfl
  ·rfl
theorem B7y {t:List UInt8} (h:digB (B9 t 0)=true) (he:A28 t=0):F4 t=.ok (3,t):=by rw [F4,if_pos h,if_pos he]
end Go.Proofs.YticnkpgmmpenlaaGreatDoor.Lx
namespace Go.Proofs.YticnkpgmmpenlaaGreatDoor.AsO
open Go Go.RowKit Go.Extern.Stop Go.Stop Go.Extern
theorem B2u (t:Addr) (w:World):(ReflectliteValue.unpack (.iface 201 (.pointer (some t)))).run Tryz.prog w
  = .ok (.agg #[.pointer (some ⟨13,201,none⟩),.pointer (some ⟨w.heap.size,0,none⟩),.int .u64 150]) (w.alloc (.cells #[.pointer (some t)] 201)):=by kernel_rfl
theorem C58 (a : Addr) (w : World) : (ReflectliteValue.methodAny (ReflectliteValue.valueError "reflectlite.Value.Type" 0) (fun t _ _ _ => ReflectliteType.toType t) #[(.agg #[.pointer (some ⟨13, 201, none⟩), .pointer (some a), .int .u64 150])]).run Tryz.prog w
  = .ok (.iface 271 (.agg #[.pointer (some ⟨13,201,none⟩)])) w:=by kernel_rfl
theorem A9x (h : Value) (w : World) : (Go.method 497 271 (.agg #[h]) "Kind").run Tryz.prog w = .ok (338, h) w := by kernel_rfl
theorem C49 (w:World):((ReflectliteType.abiMethod fun t=>(fun a:Nat=>Value.int IntKind.u8 (a:Int)) <$> Rtype.kind t) #[.pointer (some ⟨13,201,none⟩)]).run Tryz.prog w=.ok (.int .u8 22) w:=by kernel_rfl
theorem D2g (w:World):((ReflectliteType.abiMethod fun t=>(fun a:Nat=>Value.int IntKind.u8 (a:Int)) <$> Rtype.kind t) #[.pointer (some ⟨13,200,none⟩)]).run Tryz.prog w=.ok (.int .u8 25) w:=by kernel_rfl
theorem rlm (z:Sem Value) (f:TypeId→Addr→Nat→Nat→Sem Value) (v:Value) :
  ReflectliteValue.method z f #[v]=(do match ← ReflectliteValue.parts v with|none=>z|some (t,a,fl)=>f t a fl (fl % 32)):=rfl
theorem B06 (a:Addr) (w:World):(ReflectliteValue.parts (.agg #[.pointer (some ⟨13,201,none⟩),.pointer (some a),.int .u64 150])).run Tryz.prog w=.ok (some (201,a,150)) w:=by kernel_rfl
theorem C0o (a p:Addr) (W:World) (ha:W.cell? a=some (.pointer (some p))) :
  (ReflectliteValue.method (ReflectliteValue.valueError "reflectlite.Value.IsNil" 0) ReflectliteValue.isNil #[(.agg #[.pointer (some ⟨13, 201, none⟩), .pointer (some a), .int .u64 150])]).run Tryz.prog W = .ok (.bool false) W := by
 rw [rlm]
 simp only [Sem.run_bind,B06,Result.andThen]
 simp [ReflectliteValue.isNil,loadVar,isAgg,underlying,Tryz.underlying201,ha,Result.andThen]
theorem A9w (h : Value) (w : World) : (Go.method 497 271 (.agg #[h]) "Elem").run Tryz.prog w = .ok (352, .agg #[h]) w := by kernel_rfl
theorem A14 (h : Value) (w : World) : (Go.method 497 271 (.agg #[h]) "Implements").run Tryz.prog w = .ok (353, .agg #[h]) w := by kernel_rfl
theorem A01 (h : Value) (w : World) : (Go.method 497 271 (.agg #[h]) "AssignableTo").run Tryz.prog w = .ok (350, .agg #[h]) w := by kernel_rfl
theorem C4s (w:World):(ReflectliteType.method ReflectliteType.elem #[.agg #[.pointer (some ⟨13,201,none⟩)]]).run Tryz.prog w=.ok (.iface 271 (.agg #[.pointer (some ⟨13,200,none⟩)])) w:=by kernel_rfl
theorem A7v (w : World) : (ReflectliteType.relation "Implements" ReflectliteType.implements_ #[.agg #[.pointer (some ⟨13, 200, none⟩)], (.iface 271 (.agg #[.pointer (some ⟨13, 98, none⟩)]))]).run Tryz.prog w = .ok (.bool true) w := by kernel_rfl
theorem C1j (v:Value) (w:World):(ReflectliteType.typeOf #[.iface 200 v]).run Tryz.prog w=.ok (.iface 271 (.agg #[.pointer (some ⟨13,200,none⟩)])) w:=by kernel_rfl
theorem A7k (w : World) : (ReflectliteType.relation "AssignableTo" ReflectliteType.assignableTo #[.agg #[.pointer (some ⟨13, 200, none⟩)], (.iface 271 (.agg #[.pointer (some ⟨13, 200, none⟩)]))]).run Tryz.prog w = .ok (.bool true) w := by kernel_rfl
theorem B7e (x0:Value) (w:World):(ReflectliteValue.unpack (.iface 200 (.agg #[x0]))).run Tryz.prog w
  = .ok (.agg #[.pointer (some ⟨13,200,none⟩),.pointer (some ⟨w.heap.size,0,none⟩),.int .u64 153]) (w.alloc (.cells #[x0] 200)):=by kernel_rfl
theorem B46 (w:World):(Rtype.elem? 201).run Tryz.prog w=.ok (some 200) w:=by kernel_rfl
theorem mkE (p:Addr) (w:World):(ReflectliteValue.mk 200 p ReflectliteValue.flagAddr).run Tryz.prog w=.ok (.agg #[.pointer (some ⟨13,200,none⟩),.pointer (some p),.int .u64 409]) w:=by kernel_rfl
theorem C0a (a p:Addr) (W:World) (ha:W.cell? a=some (.pointer (some p))) :
  (ReflectliteValue.method (ReflectliteValue.valueError "reflectlite.Value.Elem" 0) ReflectliteValue.elem #[(.agg #[.pointer (some ⟨13, 201, none⟩), .pointer (some a), .int .u64 150])]).run Tryz.prog W
   = .ok (.agg #[.pointer (some ⟨13,200,none⟩),.pointer (some p),.int .u64 409]) W:=by
 rw [rlm]
 simp only [Sem.run_bind,B06,Result.andThen]
 simp [ReflectliteValue.elem,loadVar,isAgg,underlying,Tryz.underlying201,ha,Result.andThen,B46,mkE]
theorem rls (v x:Value):ReflectliteValue.set #[v,x]=(do
  let (some (dst,a,fl),some (src,b,_)):=(← ReflectliteValue.parts v,← ReflectliteValue.parts x)
   | unsupported (.noEntry "extern/(internal/reflectlite.Value).Set.zeroValue")
  if fl / ReflectliteValue.flagAddr % 2 == 0 then unsupported (.noEntry "extern/(internal/reflectlite.Value).Set.unaddressable")
  let val ← loadVar src b
  if ← Rtype.directlyAssignable dst src then storeVar dst a val
  else if ← Rtype.implements dst src then
   if (← Rtype.kind src) == 20 then
    match val with
    | .nilIface => unsupported (.noEntry "extern/reflectlite: a nil value of one interface type handed on as a value of another")
    | _=>storeVar dst a val
   else storeVar dst a (.iface src val)
  else panicString ("reflectlite.Set: value of type " ++ (← Rtype.spelt src) ++ " is not assignable to type " ++ (← Rtype.spelt dst))
  pure (.tuple #[])):=rfl
theorem B55 (a:Addr) (w:World):(ReflectliteValue.parts (.agg #[.pointer (some ⟨13,200,none⟩),.pointer (some a),.int .u64 409])).run Tryz.prog w=.ok (some (200,a,409)) w:=by kernel_rfl
theorem B56 (b:Addr) (w:World):(ReflectliteValue.parts (.agg #[.pointer (some ⟨13,200,none⟩),.pointer (some b),.int .u64 153])).run Tryz.prog w=.ok (some (200,b,153)) w:=by kernel_rfl
theorem B96 (w:World):(Rtype.directlyAssignable 200 200).run Tryz.prog w=.ok true w:=by kernel_rfl
theorem D8h (a b:Addr) (val:Value) (W W':World) (hl:(loadVar 200 b).run Tryz.prog W=.ok val W) (hs:(storeVar 200 a val).run Tryz.prog W=.ok () W') :
  (ReflectliteValue.set #[(.agg #[.pointer (some ⟨13,200,none⟩),.pointer (some a),.int .u64 409]),(.agg #[.pointer (some ⟨13,200,none⟩),.pointer (some b),.int .u64 153])]).run Tryz.prog W=.ok (.tuple #[]) W':=by
 rw [rls]
 simp only [Sem.run_bind,B55,B56,Result.andThen]
 simp [ReflectliteValue.flagAddr,hl,Result.andThen,B96,hs]
theorem C4f (t:Value) (w:World) :
  Calls Tryz.prog 103 #[.nilIface,t] w fun e w'=>e=.returned (.bool false)∧w'=w:=by
 go_enter Tryz.func103,Tryz.ntmps103
 go_wp2
 go_ret
 exact ⟨rfl,rfl⟩
theorem C4e (x0:Value) (t:Addr) (old val:Value) (w W':World) (hg:w.cell? ⟨0,0,none⟩=some (.iface 271 (.agg #[.pointer (some ⟨13,98,none⟩)]))) (ht0:w.cell? t=some old)
  (hl:(loadVar 200 ⟨w.heap.size+1+1+1,0,none⟩).run Tryz.prog ((((w.alloc (.cells #[.pointer (some t)] 201)).alloc (.cells #[.pointer (some ⟨13,201,none⟩),.pointer (some ⟨w.heap.size,0,none⟩),.int .u64 150] 205)).alloc (.cells #[.pointer (some ⟨13,201,none⟩),.pointer (some ⟨w.heap.size,0,none⟩),.int .u64 150] 205)).alloc (.cells #[x0] 200))=.ok val ((((w.alloc (.cells #[.pointer (some t)] 201)).alloc (.cells #[.pointer (some ⟨13,201,none⟩),.pointer (some ⟨w.heap.size,0,none⟩),.int .u64 150] 205)).alloc (.cells #[.pointer (some ⟨13,201,none⟩),.pointer (some ⟨w.heap.size,0,none⟩),.int .u64 150] 205)).alloc (.cells #[x0] 200))) (hs:(storeVar 200 t val).run Tryz.prog ((((w.alloc (.cells #[.pointer (some t)] 201)).alloc (.cells #[.pointer (some ⟨13,201,none⟩),.pointer (some ⟨w.heap.size,0,none⟩),.int .u64 150] 205)).alloc (.cells #[.pointer (some ⟨13,201,none⟩),.pointer (some ⟨w.heap.size,0,none⟩),.int .u64 150] 205)).alloc (.cells #[x0] 200))=.ok () W') :
  Calls Tryz.prog 103 #[.iface 200 (.agg #[x0]),.iface 201 (.pointer (some t))] w fun ev w'=>ev=.returned (.bool true)∧w'=W':=by
 have h6:=@run_callFunc_extern Tryz.prog 157 _ (fun args=>ReflectliteValue.unpack (args.getD 0 (.tuple #[]))) Tryz.func157 (by kernel_rfl) (by kernel_rfl) (by kernel_rfl) (by kernel_rfl)
 have h7 := @run_callFunc_extern Tryz.prog 158 _ (ReflectliteValue.methodAny (ReflectliteValue.valueError "reflectlite.Value.Type" 0) (fun t _ _ _ => ReflectliteType.toType t)) Tryz.func158 (by kernel_rfl) (by kernel_rfl) (by kernel_rfl) (by kernel_rfl)
 have h8 := @run_callFunc_extern Tryz.prog 159 _ (ReflectliteValue.method (ReflectliteValue.valueError "reflectlite.Value.IsNil" 0) ReflectliteValue.isNil) Tryz.func159 (by kernel_rfl) (by kernel_rfl) (by kernel_rfl) (by kernel_rfl)
 have h27:=@run_callFunc_extern Tryz.prog 338 _ (ReflectliteType.abiMethod fun t=>do pure (.int .u8 (← Rtype.kind t))) Tryz.func338 (by kernel_rfl) (by kernel_rfl) (by kernel_rfl) (by kernel_rfl)
 have h37:=@run_callFunc_extern Tryz.prog 352 _ (ReflectliteType.method ReflectliteType.elem) Tryz.func352 (by kernel_rfl) (by kernel_rfl) (by kernel_rfl) (by kernel_rfl)
 have h38 := @run_callFunc_extern Tryz.prog 353 _ (ReflectliteType.relation "Implements" ReflectliteType.implements_) Tryz.func353 (by kernel_rfl) (by kernel_rfl) (by kernel_rfl) (by kernel_rfl)
 have h10:=@run_callFunc_extern Tryz.prog 223 _ ReflectliteType.typeOf Tryz.func223 (by kernel_rfl) (by kernel_rfl) (by kernel_rfl) (by kernel_rfl)
 have h35 := @run_callFunc_extern Tryz.prog 350 _ (ReflectliteType.relation "AssignableTo" ReflectliteType.assignableTo) Tryz.func350 (by kernel_rfl) (by kernel_rfl) (by kernel_rfl) (by kernel_rfl)
 have h11 := @run_callFunc_extern Tryz.prog 224 _ (ReflectliteValue.method (ReflectliteValue.valueError "reflectlite.Value.Elem" 0) ReflectliteValue.elem) Tryz.func224 (by kernel_rfl) (by kernel_rfl) (by kernel_rfl) (by kernel_rfl)
 have h12:=@run_callFunc_extern Tryz.prog 225 _ ReflectliteValue.set Tryz.func225 (by kernel_rfl) (by kernel_rfl) (by kernel_rfl) (by kernel_rfl)
 have tO:=C1j
 have mA:=A01
 have aE:=A7k
 have vE:=B7e
 have f6:=B2u
 have f7:=C58
 have mK:=A9x
 have mE:=A9w
 have mI:=A14
 have kP:=C49
 have kE:=D2g
 have eP:=C4s
 have iE:=A7v
 have n8:=C0o ⟨w.heap.size,0,none⟩ t ((w.alloc (.cells #[.pointer (some t)] 201)).alloc (.cells #[.pointer (some ⟨13,201,none⟩),.pointer (some ⟨w.heap.size,0,none⟩),.int .u64 150] 205)) (by simp)
 have hlt:0 < w.heap.size:=by
  rcases Nat.lt_or_ge 0 w.heap.size with h|h
  ·exact h
  ·simp [World.cell?,Array.getElem?_eq_none h] at hg
 have hg2:((w.alloc (.cells #[.pointer (some t)] 201)).alloc (.cells #[.pointer (some ⟨13,201,none⟩),.pointer (some ⟨w.heap.size,0,none⟩),.int .u64 150] 205)).cell? ⟨0,0,none⟩=some (.iface 271 (.agg #[.pointer (some ⟨13,98,none⟩)])):=by
  rw [World.cell?_alloc_lt _ _ ⟨0,0,none⟩ (by first|(simp;done)|(simp;omega)),World.cell?_alloc_lt _ _ ⟨0,0,none⟩ hlt];exact hg
 have el:=C0a ⟨w.heap.size,0,none⟩ t (((w.alloc (.cells #[.pointer (some t)] 201)).alloc (.cells #[.pointer (some ⟨13,201,none⟩),.pointer (some ⟨w.heap.size,0,none⟩),.int .u64 150] 205)).alloc (.cells #[.pointer (some ⟨13,201,none⟩),.pointer (some ⟨w.heap.size,0,none⟩),.int .u64 150] 205)) (by rw [World.cell?_alloc_lt _ _ ⟨w.heap.size,0,none⟩ (by simp;omega)];simp)
 have st:=D8h t ⟨w.heap.size+1+1+1,0,none⟩ val ((((w.alloc (.cells #[.pointer (some t)] 201)).alloc (.cells #[.pointer (some ⟨13,201,none⟩),.pointer (some ⟨w.heap.size,0,none⟩),.int .u64 150] 205)).alloc (.cells #[.pointer (some ⟨13,201,none⟩),.pointer (some ⟨w.heap.size,0,none⟩),.int .u64 150] 205)).alloc (.cells #[x0] 200)) W' hl hs
 clear hl hs
 go_enter Tryz.func103,Tryz.ntmps103
 go_wp2
 refine wp_loop_rounds 1 ?_
 rw [rounds_succ]
 go_wp2
 go_ret
 exact ⟨rfl,rfl⟩
open Go.Ab
variable {Γ:Nat→AV}
def A5f (Γ:Nat→AV):Prop:=Γ 0=.cptr [.iface 271 (.agg [.ptr (some ⟨13,98,none⟩)])]
theorem B17 {G:Gh} {s:Sto} {w:World} (hE:A5f Γ) (hm:Mod Γ G s w):w.cell? ⟨0,0,none⟩=some (.iface 271 (.agg #[.pointer (some ⟨13,98,none⟩)])):=by
 have h:=(hm.glob 0).r
 rw [hE] at h
 obtain ⟨b,o,hp,hc⟩:=P0.1 h
 simp only [Value.pointer.injEq,Option.some.injEq,Addr.mk.injEq] at hp
 obtain ⟨rfl,rfl,_⟩:=hp
 unfold D6 at hc
 obtain ⟨_,⟨u,hu,hr⟩,_⟩:=hc
 obtain ⟨v,rfl,hv⟩:=R1.1 hr
 obtain ⟨us,rfl,hus⟩:=A4o.1 hv
 obtain ⟨u1,us1,h1,h2,h3⟩:=B8.1 hus
 rw [Q2] at h2
 rw [C2] at h3
 subst h2 h3
 obtain rfl:us = #[.pointer (some ⟨13,98,none⟩)]:=by cases us;simp_all
 exact hu
theorem A38 (x:AV):B7 Tryz.prog Γ 103 [.nilIface,x] fun v=>v=.bool false:=by
 refine fun s=>⟨fun G w vs hm hr=>?_⟩
 obtain ⟨u,us,rfl,hu,hus⟩:=B8.1 hr
 obtain ⟨u1,us1,rfl,hu1,hus1⟩:=B8.1 hus
 rw [C2] at hus1;subst hus1
 rw [S9] at hu;subst hu
 refine (C4f u1 w).mono ?_
 rintro e w' ⟨rfl,rfl⟩
 exact ⟨_,_,s,G,rfl,⟨rfl,rfl⟩,H5.2 rfl,hm,Ext.refl _ _⟩
theorem A98 (hE:A5f Γ) (x0:Int) {s:Sto} {b:Nat} {T0:TypeId} {o0:AV} (hb:s.bx b=some (T0,[o0])) :
  A6 Tryz.prog Γ 103 [.iface 200 (.agg [.int .i64 x0]),.iface 201 (.ptr (some ⟨b,0,none⟩))] s fun v s'=>v=.bool true∧s'=s.set b T0 [.int .i64 x0]:=by
 refine ⟨fun G w vs hm hr=>?_⟩
 obtain ⟨u,us,rfl,hu,hus⟩:=B8.1 hr
 obtain ⟨u1,us1,rfl,hu1,hus1⟩:=B8.1 hus
 rw [C2] at hus1;subst hus1
 obtain ⟨e,rfl,he⟩:=R1.1 hu
 obtain ⟨p,rfl,hp⟩:=R1.1 hu1
 rw [Q2] at hp;subst hp
 obtain ⟨vs,rfl,hvs⟩:=A4o.1 he
 obtain ⟨v0,r0,h0,hv0,hr0⟩:=B8.1 hvs
 rw [C2] at hr0
 obtain rfl:vs = #[v0]:=by cases vs;simp_all
 have hg:=B17 hE hm
 obtain ⟨ws,hws,hcell⟩:=A5j hm hb
 obtain ⟨w0,ws',rfl,_,_⟩:=B8.1 hws
 have ht0:w.cell? ⟨b,0,none⟩=some w0:=by rw [hcell];rfl
 obtain ⟨m1,e1⟩:=hm.row_new (.cells #[.pointer (some ⟨b,0,none⟩)] 201)
 obtain ⟨m2,e2⟩:=m1.row_new (.cells #[.pointer (some ⟨13,201,none⟩),.pointer (some ⟨w.heap.size,0,none⟩),.int .u64 150] 205)
 obtain ⟨m3,e3⟩:=m2.row_new (.cells #[.pointer (some ⟨13,201,none⟩),.pointer (some ⟨w.heap.size,0,none⟩),.int .u64 150] 205)
 obtain ⟨m4,e4⟩:=m3.row_new (.cells #[v0] 200)
 have X:=((e1.trans e2).trans e3).trans e4
 obtain ⟨val,r,hl,hk,hrr⟩:=Z1 (P:=Tryz.prog) (t:=200) (cs:=[.int .i64 x0]) (us:=[v0]) (b:=w.heap.size+1+1+1) (o:=0) (w:=(((( w.alloc (.cells #[.pointer (some ⟨b,0,none⟩)] 201)).alloc (.cells #[.pointer (some ⟨13,201,none⟩),.pointer (some ⟨w.heap.size,0,none⟩),.int .u64 150] 205)).alloc (.cells #[.pointer (some ⟨13,201,none⟩),.pointer (some ⟨w.heap.size,0,none⟩),.int .u64 150] 205)).alloc (.cells #[v0] 200))) (K:=fun r=>r=.agg [.int .i64 x0]) (by (conv=>whnf);exact ⟨Nat.le_of_ble_eq_true (by kernel_rfl),by first|(conv=>whnf;done)|(conv=>whnf;rfl)|rfl⟩) (B8.2 ⟨v0,_,rfl,R.mono X _ _ hv0,C2.2 rfl⟩) (fun i v hi=>by
  rw [World.cell?_alloc_at _ _ _ _ (by simp)]
  simpa using hi)
 subst hk
 obtain ⟨zs,rfl,hval⟩:=A4o.1 hrr
 obtain ⟨W',hs,hM',X'⟩:=B6x (P:=Tryz.prog) (T:=200) m4 hb (o:=0) (n:=1) (us:=[.int .i64 x0]) (v:=(.agg zs)) (by kernel_rfl) hval rfl rfl (by simp)
 refine (C4e v0 ⟨b,0,none⟩ w0 (.agg zs) w W' hg ht0 hl hs).mono ?_
 rintro ev w' ⟨rfl,rfl⟩
 exact ⟨_,_,_,_,rfl,⟨rfl,rfl⟩,H5.2 rfl,hM',X.trans X'⟩
end Go.Proofs.YticnkpgmmpenlaaGreatDoor.AsO
namespace Go.Proofs.YticnkpgmmpenlaaGreatDoor.Lx
open Go Go.Ab Go.RowKit Go.Proofs.YticnkpgmmpenlaaGreatDoor.Sc
variable {Γ:Nat→AV}
attribute [local irreducible] B7 Sto.set Sto.grow
theorem D25:∀ m:Nat,m < 256→(Qu.one (m:Int)).count 10=0:=by decide +kernel
theorem C5x (t:List UInt8):(Qu.A2x t).count 10=0:=by
 unfold Qu.A2x
 have h:(t.flatMap fun c=>Qu.one c.toNat).count 10=0:=by
  induction t with
  | nil=>rfl
  | cons c t ih=>rw [List.flatMap_cons,List.count_append,ih,D25 c.toNat c.toNat_lt]
 simp [h]
theorem C53:∀ x ∈ signsL,x.count 10=0:=by decide
theorem A91:∀ (L:List (List UInt8)) (l:List UInt8),A1n L l=[]∨(A1n L l ∈ L∧pfx (A1n L l) l=true)
 | [],l=>.inl rfl
 | x::L,l=>by
  unfold A1n
  split
  ·rename_i h;exact .inr ⟨by simp,h⟩
  ·rcases A91 L l with h|h
   ·exact .inl h
   ·exact .inr ⟨by simp [h.1],h.2⟩
theorem D3c {x l:List UInt8} (h:pfx x l=true):x.length≤l.length∧l.take x.length=x:=by
 unfold pfx at h
 simpa using h
theorem D0q (l:List UInt8) (h:l.all (fun c=>K9 c.toNat)=true):l.count 10=0:=by
 rw [List.count_eq_zero]
 intro hm
 have:=List.all_eq_true.1 h 10 hm
 revert this
 decide
theorem A2o {l t:List UInt8} {k:Int} {n:Nat} (h:J4 l=.ok (k,t,n)) (h0:l≠[]):1≤n∧n≤l.length∧(l.take n).count 10=0:=by
 unfold J4 at h
 split at h
 ·split at h
  ·cases h
  ·rename_i t' k' hc
   have hb:=Qu.D1e hc
   split at h
   ·cases h
   ·cases h
    exact ⟨hb.1,hb.2.1,by rw [← hb.2.2];exact C5x _⟩
 ·split at h
  ·split at h
   ·cases h
   ·rename_i hg
    cases h
    rcases A91 signsL l with hs|hs
    ·exact absurd hs hg
    ·have hp:=D3c hs.2
     refine ⟨List.length_pos_iff.2 hg,hp.1,?_⟩
     rw [show M0 l=A1n signsL l from rfl,hp.2]
     exact C53 _ hs.1
  ·rename_i h1
   split at h
   ·cases h
   ·cases h
    exact ⟨Nat.pos_of_ne_zero h1,C0r l,D0q _ (C2u l)⟩
theorem C3b {l:List UInt8} (h:l.count 10=0) (p:Int × Int):F8 p l=(p.1,p.2+l.length):=by
 obtain ⟨a,b⟩:=p
 rw [A5x,if_pos h]
abbrev Tok:=Int × List UInt8 × Int × Int
def A3o:Nat→Int × Int→List UInt8→Except (Int × Int × Int) (List Tok)
 | 0,_,_=>.ok []
 | k+1,p,l=>if l.drop (D1 l)=[] then .ok [] else match J4 (l.drop (D1 l)) with
  | .error e=>.error (e,F8 p (l.take (D1 l)))
  | .ok (kd,t,z)=>match A3o k ((F8 p (l.take (D1 l))).1,(F8 p (l.take (D1 l))).2+z) ((l.drop (D1 l)).drop z) with
   | .error e=>.error e
   | .ok m=>.ok ((kd,t,F8 p (l.take (D1 l)))::m)
def B6g (o:List Tok):Except (Int × Int × Int) (List Tok)→Except (Int × Int × Int) (List Tok)
 | .error e=>.error e
 | .ok m=>.ok (o++m)
theorem D3g (o p:List Tok) (x:Except (Int × Int × Int) (List Tok)):B6g o (B6g p x)=B6g (o++p) x:=by cases x<;>simp [B6g]
theorem D3f (x:Except (Int × Int × Int) (List Tok)):B6g [] x=x:=by cases x<;>simp [B6g]
theorem A2s {k:Nat} {p:Int × Int} {l:List UInt8} (h:l.drop (D1 l)=[]):A3o (k+1) p l=.ok []:=by rw [A3o,if_pos h]
theorem A5t {k:Nat} {p:Int × Int} {l:List UInt8} {e:Int} (h:l.drop (D1 l)≠[]) (he:J4 (l.drop (D1 l))=.error e):A3o (k+1) p l=.error (e,F8 p (l.take (D1 l))):=by rw [A3o,if_neg h,he]
theorem A4w {k:Nat} {p:Int × Int} {l t:List UInt8} {kd:Int} {z:Nat} (h:l.drop (D1 l)≠[]) (he:J4 (l.drop (D1 l))=.ok (kd,t,z)) :
  A3o (k+1) p l=B6g [(kd,t,F8 p (l.take (D1 l)))] (A3o k ((F8 p (l.take (D1 l))).1,(F8 p (l.take (D1 l))).2+z) ((l.drop (D1 l)).drop z)):=by
 rw [A3o,if_neg h,he]
 simp only
 cases A3o k ((F8 p (l.take (D1 l))).1,(F8 p (l.take (D1 l))).2+z) ((l.drop (D1 l)).drop z)<;>rfl
theorem B82:∀ (k j:Nat) (p:Int × Int) (l:List UInt8),l.length < k→l.length < j→A3o k p l=A3o j p l
 | 0,_,p,l=>fun h=>by omega
 | _,0,p,l=>fun _ h=>by omega
 | k+1,j+1,p,l=>fun h h'=>by
  by_cases hl:l.drop (D1 l)=[]
  ·rw [A2s hl,A2s hl]
  ·rcases he:J4 (l.drop (D1 l)) with e|⟨kd,t,z⟩
   ·rw [A5t hl he,A5t hl he]
   ·have hb:=A2o he hl
    rw [List.length_drop] at hb
    rw [A4w hl he,A4w hl he,B82 k j _ _ (by simp only [List.length_drop];omega) (by simp only [List.length_drop];omega)]
def A11 (l:List UInt8):Except (Int × Int × Int) (List Tok):=if 65536 < l.length then .error (3,1,1) else A3o (l.length+1) (1,1) l
def Q1 (t:Tok):List AV:=[.int .i64 t.1,.str t.2.1,.int .i64 t.2.2.1,.int .i64 t.2.2.2]
def X8 (l:List Tok):List (List AV):=l.map Q1
theorem A55 (l:List Tok):(X8 l).length=l.length:=List.length_map ..
theorem D1r (l:List Tok):fgE (X8 l)=X8 l:=A4t (A:=Q1) (fun _=>rfl) l
theorem D0k (o:List Tok) (m:Tok):X8 o++[Q1 m]=X8 (o++[m]):=by simp [X8]
def C4c:Except (Int × Int × Int) (List Tok)→AV
 | .ok m=>.tuple [.slice 0 (X8 m),.agg [.int .i64 0,.int .i64 0,.int .i64 0]]
 | .error (e,a,b)=>.tuple [.slice 0 [],.agg [.int .i64 e,.int .i64 a,.int .i64 b]]
structure D94 (s s':Sto) (S:List UInt8) (T:TypeId) (o:List Tok) (t:Nat) (q:List UInt8) (p:Int × Int):Prop where
 le:q.length≤S.length∧o.length+q.length≤S.length
 pl:(0≤p.1∧p.1≤1+(S.length - q.length:Nat))∧0≤p.2∧p.2≤1+2 * ((S.length - q.length:Nat):Int)
 own:Own s s' o.isEmpty t T 4
 is:A3o (S.length+1) (1,1) S=B6g o (A3o (S.length+1) p q)
theorem B6h (hQ:Qu.A10 Γ) (hT:Wds Γ) (hE:AsO.A5f Γ) (S:List UInt8) (hl:S.length≤1048576):B7 Tryz.prog Γ 102 [.str S] fun v=>v=C4c (A11 S):=by
 refine B7.fgt fun s=>?_
 by_cases hbig:65536 < S.length
 ·rw [A11,if_pos hbig]
  refine acs Tryz.func102 ?_
  conv=>whnf
  intro b3 hb3
  refine wp ?_
  exact ⟨_,Sub.refl _,rfl,((Sub.refl _).set hb3 _ _).set hb3 _ _⟩
 ·rw [A11,if_neg hbig]
  refine acs Tryz.func102 ?_
  conv=>whnf
  intro b3 hb3
  refine wp ?_
  refine AWp.loopA [0,4,5,6] [15,16,7,18,19,20,21,22,23,17,24,25,26,27,28,29,30,31,32,2,34,35,33,36,37,38,8,9,10,39,40,41,42,43,44,45,46,47,48,49,50,51,52,53,54,56,57,58,59,60,61,55,62,63,64,65,66] (fun x:List Tok × Nat × List UInt8 × (Int × Int)=>[.str x.2.2.1,.slice x.2.1 (X8 x.1),.int .i64 x.2.2.2.1,.int .i64 x.2.2.2.2]) (fun x s'=>D94 s s' S 163 x.1 x.2.1 x.2.2.1 x.2.2.2∧s'.bx b3=some (46,[.int .i64 0,.int .i64 0,.int .i64 0])) (fun x=>x.2.2.1.length) (([],1,S,(1,1))) (by kernel_rfl) (eqa) ?_ ?_
  ·exact ⟨⟨⟨Nat.le_refl _,by simp⟩,⟨by simp,by simp⟩,Own.start ((Sub.refl _).set hb3 _ _) _ _,(D3f _).symm⟩,A7⟩
  ·rintro x ⟨o,t,q,p⟩ s1 ⟨⟨i1,i2,i3,i4⟩,i5⟩
   simp only at i1 i2 i3 i4 i5
   show awp _ _ _ _ _ (updL _ _ [.str q,.slice t (X8 o),.int .i64 p.1,.int .i64 p.2]) _
   conv=>whnf
   have hbl:=C04 (Γ:=Γ) q (by omega)
   have hbn:=C76 q
   have hA:List.drop 0 (List.take ((D1 q:Int)).toNat q)=q.take (D1 q):=by rw [Int.toNat_natCast,List.drop_zero]
   have hB:List.drop ((D1 q:Int)).toNat (List.take q.length q)=q.drop (D1 q):=by rw [Int.toNat_natCast,W7]
   have hmv:=C68 (Γ:=Γ) p.1 p.2 (q.take (D1 q)) (by rw [List.length_take];omega) (by omega) (by omega)
   have hpb:=C02 (q.take (D1 q)) p.1 p.2 (by omega) (by omega)
   have hdl:(q.drop (D1 q)).length=q.length - D1 q:=List.length_drop
   rw [List.length_take,Nat.min_eq_left hbn] at hpb
   repeat' ((first|exact pru|(refine brS (fun h=>?_) (fun h=>?_)<;>(try rw [h])<;>(try simp only [bS,↓reduceIte] at h))|(refine A6.pure' ?_ (hbl);rintro _ rfl)|refine C0.pure ?_ (hbl)|(rw [hA])|(rw [hB])|(refine A6.pure' ?_ (hmv);rintro _ rfl)|refine C0.pure ?_ (hmv)|refine gS ?_|refine aA ?_|refine nA ?_|fail)<;>(conv=>whnf))
   ·refine wp ?_
    refine ⟨_,Sub.refl _,?_,i3.sub.set hb3 _ _⟩
    rw [i4,A2s h]
    simp only [A20,fg,fgL,D1r,C4c,B6g,List.append_nil]
   ·have hpos:0 < (q.drop (D1 q)).length:=List.length_pos_iff.2 h
    have hfi:=D1v hQ hT (q.drop (D1 q)) hpos (by omega)
    rcases hf:J4 (q.drop (D1 q)) with e|⟨kd,t',z⟩
    ·simp only [T7,hf,A2a,B04] at hfi
     refine wp ?_
     intro b8 hb8
     have n_b3_b8:b3≠b8:=A8 bxa hb8
     have n_b8_b3:=n_b3_b8.symm
     refine wp ?_
     intro b10 hb10
     have n_b8_b10:b8≠b10:=A8 bxa hb10
     have n_b10_b8:b10≠b8:=fun h=>n_b8_b10 h.symm
     have n_b3_b10:b3≠b10:=A8 bxa hb10
     have n_b10_b3:b10≠b3:=fun h=>n_b3_b10 h.symm
     refine wp ?_;(refine A6.by (AsO.A98 hE e A7) ?_;rintro _ _ ⟨rfl,rfl⟩);refine wp ?_
     have k8:=fun T1 c1 T2 c2=>(i3.sub.set (i3.sub.none hb8) T1 c1).set (i3.sub.none hb8) T2 c2
     have g10:=(k8 _ _ _ _).none hb10
     refine ⟨_,Sub.refl _,?_,((((k8 _ _ _ _).set g10 _ _).set g10 _ _).set hb3 _ _)⟩
     rw [i4,A5t h hf]
     simp only [A20,fg,fgL,fgE,C4c,B6g]
    ·simp only [T7,hf,A2a] at hfi
     have hfb:=A2o hf h
     refine wp ?_
     intro b8 hb8
     have n_b3_b8:b3≠b8:=A8 bxa hb8
     have n_b8_b3:=n_b3_b8.symm
     refine wp ?_
     intro b10 hb10
     have n_b8_b10:b8≠b10:=A8 bxa hb10
     have n_b10_b8:b10≠b8:=fun h=>n_b8_b10 h.symm
     have n_b3_b10:b3≠b10:=A8 bxa hb10
     have n_b10_b3:b10≠b3:=fun h=>n_b3_b10 h.symm
     refine wp ?_;(first|(refine A6.pure' ?_ (AsO.A38 _);rintro _ rfl)|refine C0.pure ?_ (AsO.A38 _));refine wp ?_
     have g8:=i3.sub.none hb8
     have k8:=fun T1 c1 T2 c2=>(i3.sub.set g8 T1 c1).set g8 T2 c2
     have g10:=(k8 _ _ _ _).none hb10
     have kk:=fun T1 c1 T2 c2 T3 c3 T4 c4 T5 c5=>((((i3.set (T:=T1) (cs:=c1) g8).set (T:=T2) (cs:=c2) g8).set (T:=T3) (cs:=c3) g10).set (T:=T4) (cs:=c4) g8).set (T:=T5) (cs:=c5) g8
     have hol:=A55 o
     refine ⟨(kk _ _ _ _ _ _ _ _ _ _).may,fun c hc=>?_,all_cons ⟨rfl,rfl⟩ all_nil,?_,?_⟩
     ·obtain ⟨w,_,rfl⟩:=List.mem_map.1 hc;rfl
     ·show ((X8 o).length+1) * (40+1)≤_
      rw [hol];omega
     intro t2 k1 k2
     have k3:=(kk _ _ _ _ _ _ _ _ _ _).grow k1 k2
     have hq2:=C3b hfb.2.2 (F8 (p.1,p.2) (q.take (D1 q)))
     have htl:((q.drop (D1 q)).take z).length=z:=by rw [List.length_take];omega
     rw [htl] at hq2
     have hmv2:=C68 (Γ:=Γ) (F8 (p.1,p.2) (q.take (D1 q))).1 (F8 (p.1,p.2) (q.take (D1 q))).2 ((q.drop (D1 q)).take z) (by omega) (by omega) (by omega)
     rw [hq2] at hmv2
     have hC:List.drop 0 (List.take ((z:Int)).toNat (q.drop (D1 q)))=(q.drop (D1 q)).take z:=by rw [Int.toNat_natCast,List.drop_zero]
     have hD:List.drop ((z:Int)).toNat (List.take (q.drop (D1 q)).length (q.drop (D1 q)))=(q.drop (D1 q)).drop z:=by rw [Int.toNat_natCast,W7]
     refine wp ?_;(rw [hC]);refine wp ?_;(rw [hD]);refine wp ?_
     have hrl:((q.drop (D1 q)).drop z).length=q.length - D1 q - z:=by rw [List.length_drop,List.length_drop]
     rw [List.length_drop] at hfb
     refine ⟨(o++[(kd,t',F8 (p.1,p.2) (q.take (D1 q)))],t2,(q.drop (D1 q)).drop z,((F8 (p.1,p.2) (q.take (D1 q))).1,(F8 (p.1,p.2) (q.take (D1 q))).2+z)),?_,C5,⟨⟨⟨by simp only;omega,by simp only [List.length_append,List.length_cons,List.length_nil];omega⟩,⟨by simp only;omega,by simp only;omega⟩,?_,?_⟩,bxa⟩,by simp only;omega⟩
     ·exact C1 rfl (C1 (congrArg (AV.slice t2) (D0k o (kd,t',F8 (p.1,p.2) (q.take (D1 q))))) (C1 rfl (C1 rfl rfl)))
     ·rw [show (o++[(kd,t',F8 (p.1,p.2) (q.take (D1 q)))]).isEmpty=(o.isEmpty && [Q1 (kd,t',F8 (p.1,p.2) (q.take (D1 q)))].isEmpty) by cases o<;>rfl]
      exact k3
     ·rw [i4,A4w h hf,D3g,B82 S.length (S.length+1) _ _ (by omega) (by omega)]
theorem C8r {l:List UInt8} {e:Int} (h:J4 l=.error e):e≠0:=by
 unfold J4 at h
 split at h
 ·split at h
  ·cases h;decide
  ·split at h
   ·cases h;decide
   ·cases h
 ·split at h
  ·split at h
   ·cases h;decide
   ·cases h
  ·split at h
   ·rename_i e' he
    cases h
    unfold F4 at he
    split at he
    ·split at he
     ·cases he
     ·rename_i hn
      cases he
      exact hn
    ·split at he
     ·cases he;decide
     ·split at he<;>cases he
   ·cases h
theorem A2h:(!Tryz.prog.eqGuardType Tryz.prog.depth 46)=true:=by kernel_rfl
theorem A0r:A2w Tryz.prog 9999 46=some [(0,0),(1,0),(2,0)]:=by kernel_rfl
theorem B0z:∀ (k:Nat) (p:Int × Int) (l:List UInt8) (e a b:Int),A3o k p l=.error (e,a,b)→e≠0
 | 0,p,l,e,a,b=>fun h=>by cases h
 | k+1,p,l,e,a,b=>fun h=>by
  by_cases hl:l.drop (D1 l)=[]
  ·rw [A2s hl] at h;cases h
  ·rcases he:J4 (l.drop (D1 l)) with e'|⟨kd,t,z⟩
   ·rw [A5t hl he] at h
    simp only [Except.error.injEq,Prod.mk.injEq] at h
    rw [← h.1]
    exact C8r he
   ·rw [A4w hl he] at h
    rcases hr:A3o k ((F8 p (l.take (D1 l))).1,(F8 p (l.take (D1 l))).2+z) ((l.drop (D1 l)).drop z) with ⟨e',a',b'⟩|m
    ·rw [hr] at h
     simp only [B6g,Except.error.injEq,Prod.mk.injEq] at h
     rw [← h.1]
     exact B0z k _ _ _ _ _ hr
    ·rw [hr] at h;cases h
theorem B00:∀ (k:Nat) (p:Int × Int) (l:List UInt8) (m:List Tok),A3o k p l=.ok m→m.length≤l.length
 | 0,p,l,m=>fun h=>by cases h;exact Nat.zero_le _
 | k+1,p,l,m=>fun h=>by
  by_cases hl:l.drop (D1 l)=[]
  ·rw [A2s hl] at h;cases h;exact Nat.zero_le _
  ·rcases he:J4 (l.drop (D1 l)) with e'|⟨kd,t,z⟩
   ·rw [A5t hl he] at h;cases h
   ·rw [A4w hl he] at h
    have hb:=A2o he hl
    rw [List.length_drop] at hb
    rcases hr:A3o k ((F8 p (l.take (D1 l))).1,(F8 p (l.take (D1 l))).2+z) ((l.drop (D1 l)).drop z) with ⟨e',a',b'⟩|m'
    ·rw [hr] at h;cases h
    ·rw [hr] at h
     have:=B00 k _ _ _ hr
     rw [List.length_drop,List.length_drop] at this
     cases h
     simp only [List.length_append,List.length_cons,List.length_nil]
     omega
end Go.Proofs.YticnkpgmmpenlaaGreatDoor.Lx
