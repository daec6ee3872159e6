/- Part 1 of what the closing text needs: Fg1, Fg2, Fg3, Fg4, Kp1, Co1, Co2, TrA, TrB, TrD, TrE, TrJ, TrK, TrL, Shelf, ScA, ScB, TrM. No condition of mine beyond those that the theorems name. -/
import Derived.Laws.AppendOwn
import Derived.Below
import Derived.Test.YtaammejliikieaaGreatDoorAb23
import Derived.Test.YtaammejliikieaaGreatDoorChecked
import Derived.Shelf.Strings.Trim
import Derived.Shelf.Small.Utf8
import Derived.Shelf.Small.Strs
import Derived.Shelf.Utf8.RuneCount
import Derived.Shelf.Strconv.Itoa0
import Derived.Shelf.Strconv.Itoa1
import Derived.Shelf.LaysM
import Derived.Shelf.Strconv.Itoa2
import Derived.Shelf.Strconv.Itoa3
import Derived.Shelf.Strconv.ParseIntEmpty
import Derived.Shelf.Strconv.Clone
import Derived.Shelf.Strconv.SyntaxError
import Derived.Shelf.LaysC
import Derived.Shelf.Strconv.ToError
import Derived.Shelf.Strconv.Lower
import Derived.Shelf.Strconv.ParseUint10
import Derived.Shelf.Strconv.ParseUint10Empty
import Derived.Shelf.Strconv.ParseUint10Any
import Derived.Shelf.Strconv.ParseInt10
import Derived.Shelf.Strconv.RangeError
import Derived.Shelf.Strconv.ToErrorRange
import Derived.Shelf.Strconv.ParseUintEmpty
import Derived.Shelf.Strconv.ParseUint10b64
import Derived.Shelf.Strconv.ParseUint10b32
import Derived.Shelf.Strconv.ParseUint10b16
import Derived.Shelf.Strconv.ParseUint10b8
import Derived.Shelf.Strconv.ParseUint10At
import Derived.Shelf.Strconv.ParseInt10At64
import Derived.Shelf.Strconv.ParseInt10At32
import Derived.Shelf.Strconv.ParseInt10At16
import Derived.Shelf.Strconv.ParseInt10At8
import Derived.Shelf.Strconv.ParseInt10All
import Derived.Shelf.Strconv.ParseIntPublic10
import Derived.Shelf.Strconv.ErrVarParseInt
import Derived.Shelf.Strings.Search1
import Derived.Shelf.Strings.Search2
import Derived.Shelf.Strings.Search3
import Derived.Shelf.Strings.Count
import Derived.Shelf.Strings.Shaped
import Derived.Shelf.Strings.LastIndex
import Derived.Shelf.GgClosure.StringsIndexFunc
import Derived.Ground.GgwProg
import Derived.Shelf.GgClosure.StringsIndexFuncTop
import Derived.Shelf.GgClosure.StringsRunes
import Derived.Shelf.Strings.Prefix
import Derived.Shelf.Strings.Split
import Derived.Shelf.Strings.SplitShaped
import Derived.Shelf.Unicode.Decode
import Derived.Shelf.Strings.Runes
import Derived.Shelf.Strings.RuneCount
import Derived.Shelf.Strings.AsciiSet
import Derived.Shelf.Strings.Explode
import Derived.Shelf.Unicode.DecodeSlow
import Derived.Shelf.Unicode.DecodeAny
import Derived.Shelf.Unicode.DecodeLast
import Derived.Shelf.Slices.Turned
import Derived.Ground.Names2Prog
import Derived.Shelf.Slices.Clone
import Derived.Test.YtaammejliikieaaGreatDoorProg
import Derived.Laws.RangeAny
set_option maxRecDepth 10000
set_option maxHeartbeats 60000000
set_option linter.all false
namespace Go.Ab
open Go Go.RowKit
variable {P:Program} {Γ:Nat→AV}
theorem C3m {G:Gh} {w:World} {t:Nat} {es:List (List AV)} {v:Value} (h:R G w (.slice t es) v):R G w (.slice 0 es) v:=by
 unfold R at h ⊢
 refine ⟨fun h0=>absurd rfl h0,?_⟩
 rcases h.2 with ⟨he,a,cap,hv,_,h2⟩|⟨b,o,cap,k,hv,h1,_,h3⟩
 ·exact .inl ⟨he,a,cap,hv,(fun h=>by cases h),h2⟩
 ·exact .inr ⟨b,o,cap,k,hv,h1,(fun h=>by cases h),h3⟩
def Gh.fix (G:Gh) (g:Nat):Gh:=⟨fun b=>if b=g then .fixd else G.kd b,G.tk⟩
theorem A5d {G:Gh} {w:World} {g:Nat} (hg:G.kd g=.fixd):∀ (cs:List AV) (us:List Value) (o:Nat),B7 G w cs us→(∀ j u,us[j]?=some u→w.cell? ⟨g,o+j,none⟩=some u)→C6 G w g o cs
 | [],us,o=>fun _ _=>by unfold C6;trivial
 | c::cs,us,o=>fun h hc=>by
  obtain ⟨u,us',rfl,hu,hs⟩:=A9.1 h
  unfold C6
  refine ⟨by unfold Gh.good;rw [hg];trivial,⟨u,hc 0 u rfl,hu⟩,A5d hg cs us' (o+1) hs fun j v hv=>?_⟩
  have:=hc (j+1) v (by simpa using hv)
  rwa [show o+(j+1)=o+1+j by omega] at this
theorem Gh.fix_ok {G:Gh} {s:Sto} {w w':World} {g:Nat} (hm:Mod Γ G s w) (hb:Below w.heap.size w w') (hg:w.heap.size≤g) (hlt:g < w'.heap.size):Mod Γ (G.fix g) s w'∧Ext G w (G.fix g) w':=by
 have other:∀ b,b < w.heap.size→(G.fix g).kd b=G.kd b:=fun b h=>if_neg (by omega)
 have hfree:G.kd g=.free:=by
  cases h:G.kd g with
  | free=>rfl
  | fixd=>exact absurd (hm.dom g (by rw [h];simp)) (by omega)
  | row n=>exact absurd (hm.dom g (by rw [h];simp)) (by omega)
 have X:Ext G w (G.fix g) w':=Ext.of_same hm hb.os hb.tape hb.output hb.size other (fun _ _=>rfl) fun k hk _=>hb.block k hk
 have kdrow:∀ b n,(G.fix g).kd b=.row n→G.kd b=.row n:=fun b n h=>by
  unfold Gh.fix at h
  by_cases he:b=g
  ·simp only [if_pos he] at h;cases h
  ·simpa only [if_neg he] using h
 have rowlt:∀ b n,G.kd b=.row n→b < w.heap.size:=fun b n h=>hm.dom b (by rw [h];simp)
 refine ⟨⟨fun x=>(hm.glob x).mono X,?_,?_,?_,?_,hm.fin,fun c es hc=>(hm.mp c es hc).mono X (other c (hm.mp c es hc).lt) (hb.block c (hm.mp c es hc).lt)⟩,X⟩
 ·intro b T cs hx
  obtain ⟨h1,vs,h2,h3⟩:=hm.box b T cs hx
  have hl:=A2n hm hx
  exact ⟨(other b hl).trans h1,vs,(hb.block b hl).trans h2,h3.mono X _ _⟩
 ·intro b hx
  by_cases he:b=g
  ·rw [he];exact hlt
  ·have:G.kd b≠.free:=fun h=>hx (by unfold Gh.fix;simp only [if_neg he];exact h)
   exact Nat.lt_of_lt_of_le (hm.dom b this) hb.size
 ·intro t e k ht
  obtain ⟨h0,h1,b,len,cap,c,h2,h3,h4,h5,h6⟩:=hm.live t e k ht
  have hl:=rowlt b _ h4
  exact ⟨h0,h1,b,len,cap,c,h2,h3,(other b hl).trans h4,(hb.block b hl).trans h5,h6⟩
 ·intro t u b e k e' k' ht hu h1 h2
  have back:∀ {t:Nat} {e:TypeId} {k:Nat},Top (G.fix g) w' t b e k→Top G w t b e k:=by
   rintro t e k ⟨len,cap,c,h2,h3,h4,h5,h6⟩
   have h4':=kdrow b _ h4
   exact ⟨len,cap,c,h2,h3,h4',(hb.block b (rowlt b _ h4')).symm.trans h5,h6⟩
  exact hm.apart t u b e k e' k' ht hu (back h1) (back h2)
theorem A8.of_row {f:FuncId} {args:List AV} {es:List (List AV)} {T:TypeId} {k:Nat} (hk:∀ c ∈ es,c.length=k)
  (h:∀ G w vs s,Mod Γ G s w→B7 G w args vs→∃ xs,B7 G w es.flatten xs∧Calls P f vs.toArray w fun e w'=>∃ v',e=.returned v'∧w'.ownsRow w.heap.size T k v' es.length xs∧Below w.heap.size w w') :
  A8 P Γ f args fun v=>v=.slice 0 es:=by
 intro s
 refine ⟨fun G w vs hm hr=>?_⟩
 obtain ⟨xs,hxs,hc⟩:=h G w vs s hm hr
 refine hc.mono ?_
 rintro e w' ⟨v',rfl,⟨hl,ho⟩,hb⟩
 by_cases hn:es=[]
 ·subst hn
  obtain ⟨m1,m2⟩:=hm.below hb
  refine ⟨v',_,s,G,rfl,⟨rfl,rfl⟩,?_,m1,m2⟩
  unfold R
  refine ⟨fun h0=>absurd rfl h0,.inl ⟨rfl,?_⟩⟩
  rcases ho with ⟨rfl,_⟩|⟨g,cap,cur,rfl,_⟩
  ·exact ⟨none,0,rfl,fun _=>rfl,fun _=>rfl⟩
  ·exact ⟨_,cap,rfl,(fun h=>by cases h),(fun h=>by cases h)⟩
 ·rcases ho with ⟨_,h0⟩|⟨g,cap,cur,rfl,hge,hh,hcap,_,hsz,htake⟩
  ·exact absurd (List.eq_nil_of_length_eq_zero h0) hn
  ·have hlt:g < w'.heap.size:=by
    rcases Nat.lt_or_ge g w'.heap.size with h|h
    ·exact h
    ·rw [Array.getElem?_eq_none h] at hh;cases hh
   obtain ⟨m1,m2⟩:=Gh.fix_ok hm hb hge hlt
   refine ⟨_,_,s,G.fix g,rfl,⟨rfl,rfl⟩,?_,m1,m2⟩
   unfold R
   refine ⟨fun h0=>absurd rfl h0,.inr ⟨g,0,cap,k,rfl,hcap,(fun h=>by cases h),hn,?_⟩⟩
   refine A1w es 0 hk (A5d (by unfold Gh.fix;simp) es.flatten xs 0 (hxs.mono m2 _ _) fun j u hj=>?_)
   rw [← htake] at hj
   have hj':cur[j]?=some u:=by
    rw [List.getElem?_take] at hj
    split at hj
    ·rwa [Array.getElem?_toList] at hj
    ·cases hj
   simp [World.cell?,hh,hj']
mutual
def fg:AV→AV
 | .int k n=>.int k n
 | .bool b=>.bool b
 | .str l=>.str l
 | .ptr a=>.ptr a
 | .cptr cs=>.cptr (fgL cs)
 | .slice _ es=>.slice 0 (fgE es)
 | .raw a l c=>.raw a l c
 | .iface t v=>.iface t (fg v)
 | .nilIface=>.nilIface
 | .func fn fs cs=>.func fn (fgL fs) (fgL cs)
 | .nilFunc=>.nilFunc
 | .agg cs=>.agg (fgL cs)
 | .tuple vs=>.tuple (fgL vs)
 | .cmap es=>.cmap es
 | .mref a=>.mref a
def fgL:List AV→List AV
 | []=>[]
 | c::cs=>fg c::fgL cs
def fgE:List (List AV)→List (List AV)
 | []=>[]
 | e::es=>fgL e::fgE es
end
theorem C0a:∀ l:List AV,(fgL l).length=l.length
 | []=>by unfold fgL;rfl
 | c::cs=>by unfold fgL;rw [List.length_cons,List.length_cons,C0a cs]
theorem A2q:∀ l:List (List AV),(fgE l).length=l.length
 | []=>by unfold fgE;rfl
 | c::cs=>by unfold fgE;rw [List.length_cons,List.length_cons,A2q cs]
theorem A4l:fgE []=[]:=by unfold fgE;rfl
theorem C4c {l:List (List AV)} (h:l≠[]):fgE l≠[]:=fun hn=>h (List.eq_nil_of_length_eq_zero (by rw [← A2q,hn];rfl))
theorem Z7 {α:Type} {A B:α→List AV} (h:∀ x,fgL (A x)=B x):∀ l:List α,fgE (l.map A)=l.map B
 | []=>by rw [List.map_nil,List.map_nil,A4l]
 | x::l=>by rw [List.map_cons,List.map_cons,fgE,h,Z7 h l]
section
variable {G:Gh} {w:World}
mutual
theorem R.fg:∀ (c:AV) (v:Value),R G w c v→R G w (fg c) v
 | .int k n,v=>fun h=>by unfold Go.Ab.fg;exact h
 | .bool b,v=>fun h=>by unfold Go.Ab.fg;exact h
 | .str l,v=>fun h=>by unfold Go.Ab.fg;exact h
 | .ptr a,v=>fun h=>by unfold Go.Ab.fg;exact h
 | .cptr cs,v=>fun h=>by
  unfold Go.Ab.fg
  unfold R at h ⊢
  obtain ⟨b,o,hv,hc⟩:=h
  exact ⟨b,o,hv,C6.fg cs b o hc⟩
 | .slice t es,v=>fun h=>by
  unfold Go.Ab.fg
  unfold R at h ⊢
  refine ⟨fun h0=>absurd rfl h0,?_⟩
  rcases h.2 with ⟨he,a,cap,hv,_,h2⟩|⟨b,o,cap,k,hv,h1,_,h3,h4⟩
  ·exact .inl ⟨by rw [he,A4l],a,cap,hv,(fun h=>by cases h),h2⟩
  ·exact .inr ⟨b,o,cap,k,by rw [A2q];exact hv,by rw [A2q];exact h1,(fun h=>by cases h),C4c h3,D1.fg es k b o h4⟩
 | .raw a len cap,v=>fun h=>by unfold Go.Ab.fg;exact h
 | .iface t x,v=>fun h=>by
  unfold Go.Ab.fg
  unfold R at h ⊢
  obtain ⟨u,hv,hx⟩:=h
  exact ⟨u,hv,R.fg x u hx⟩
 | .nilIface,v=>fun h=>by unfold Go.Ab.fg;exact h
 | .func fn fs cs,v=>fun h=>by
  unfold Go.Ab.fg
  unfold R at h ⊢
  obtain ⟨us,vs,hv,h1,h2⟩:=h
  exact ⟨us,vs,hv,B7.fg fs _ h1,B7.fg cs _ h2⟩
 | .nilFunc,v=>fun h=>by unfold Go.Ab.fg;exact h
 | .agg cs,v=>fun h=>by
  unfold Go.Ab.fg
  unfold R at h ⊢
  obtain ⟨us,hv,h1⟩:=h
  exact ⟨us,hv,B7.fg cs _ h1⟩
 | .tuple vs,v=>fun h=>by
  unfold Go.Ab.fg
  unfold R at h ⊢
  obtain ⟨us,hv,h1⟩:=h
  exact ⟨us,hv,B7.fg vs _ h1⟩
 | .cmap es,v=>fun h=>by unfold Go.Ab.fg;exact h
 | .mref a,v=>fun h=>by unfold Go.Ab.fg;exact h
theorem C6.fg:∀ (cs:List AV) (b o:Nat),C6 G w b o cs→C6 G w b o (fgL cs)
 | [],b,o=>fun _=>by unfold fgL;unfold C6;trivial
 | c::cs,b,o=>fun h=>by
  unfold fgL
  unfold C6 at h ⊢
  obtain ⟨hg,⟨u,hu,hr⟩,hs⟩:=h
  exact ⟨hg,⟨u,hu,R.fg c u hr⟩,C6.fg cs b (o+1) hs⟩
theorem D1.fg:∀ (es:List (List AV)) (k b o:Nat),D1 G w k b o es→D1 G w k b o (fgE es)
 | [],k,b,o=>fun _=>by unfold fgE;unfold D1;trivial
 | e::es,k,b,o=>fun h=>by
  unfold fgE
  unfold D1 at h ⊢
  obtain ⟨hl,hc,hs⟩:=h
  exact ⟨(C0a e).trans hl,C6.fg e b o hc,D1.fg es k b (o+k) hs⟩
theorem B7.fg:∀ (cs:List AV) (vs:List Value),B7 G w cs vs→B7 G w (fgL cs) vs
 | [],vs=>fun h=>by unfold fgL;exact h
 | c::cs,vs=>fun h=>by
  unfold fgL
  unfold B7 at h ⊢
  obtain ⟨u,us,hv,h1,h2⟩:=h
  exact ⟨u,us,hv,R.fg c u h1,B7.fg cs us h2⟩
end
end
theorem A8.fgt {f:FuncId} {args:List AV} {r:AV} (h:∀ s,A2 P Γ f args s fun v s'=>fg v=r∧Sub s s'):A8 P Γ f args fun v=>v=r :=
 fun s=>⟨fun G w vs hm hr=>((h s).run G w vs hm hr).mono fun e w' ⟨v,av,s',G',he,⟨ht,hsub⟩,hR,hM,hX⟩ =>
  ⟨v,r,s,G',he,⟨rfl,rfl⟩,by rw [← ht];exact R.fg _ _ hR,hM.sub hsub,hX⟩⟩
abbrev Frz:=Nat→Option (Nat × List AV)
def fzP (m:Frz):Option Addr→AV
 | some ⟨b,o,none⟩=>(match m b with|some (_,cs)=>.cptr (cs.drop o)|none=>.ptr (some ⟨b,o,none⟩))
 | a=>.ptr a
def fzW (m:Frz):Option Addr→Nat→Nat→AV
 | some ⟨b,o,none⟩,len,cap=>(match m b with
  | some (k,cs)=>if len≤cap∧len * k≤(cs.drop o).length then .slice 0 (N9 k len (cs.drop o)) else .raw (some ⟨b,o,none⟩) len cap
  | none=>.raw (some ⟨b,o,none⟩) len cap)
 | a,len,cap=>.raw a len cap
mutual
def fz (m:Frz):AV→AV
 | .int k n=>.int k n
 | .bool b=>.bool b
 | .str l=>.str l
 | .ptr a=>fzP m a
 | .cptr cs=>.cptr (fzL m cs)
 | .slice t es=>.slice t (fzE m es)
 | .raw a l c=>fzW m a l c
 | .iface t v=>.iface t (fz m v)
 | .nilIface=>.nilIface
 | .func fn fs cs=>.func fn (fzL m fs) (fzL m cs)
 | .nilFunc=>.nilFunc
 | .agg cs=>.agg (fzL m cs)
 | .tuple vs=>.tuple (fzL m vs)
 | .cmap es=>.cmap es
 | .mref a=>.mref a
def fzL (m:Frz):List AV→List AV
 | []=>[]
 | c::cs=>fz m c::fzL m cs
def fzE (m:Frz):List (List AV)→List (List AV)
 | []=>[]
 | e::es=>fzL m e::fzE m es
end
theorem C0h (m:Frz):∀ l:List AV,(fzL m l).length=l.length
 | []=>by unfold fzL;rfl
 | c::cs=>by unfold fzL;rw [List.length_cons,List.length_cons,C0h m cs]
theorem A6q (m:Frz):∀ l:List (List AV),(fzE m l).length=l.length
 | []=>by unfold fzE;rfl
 | c::cs=>by unfold fzE;rw [List.length_cons,List.length_cons,A6q m cs]
theorem C0g (m:Frz):fzE m []=[]:=by unfold fzE;rfl
theorem C9q {m:Frz} {l:List (List AV)} (h:l≠[]):fzE m l≠[]:=fun hn=>h (List.eq_nil_of_length_eq_zero (by rw [← A6q m,hn];rfl))
theorem C0f {m:Frz} {α:Type} {A:α→List AV} (h:∀ x,fzL m (A x)=A x):∀ l:List α,fzE m (l.map A)=l.map A
 | []=>by rw [List.map_nil,C0g]
 | x::l=>by rw [List.map_cons,fzE,h,C0f h l]
section
variable {G:Gh} {w:World} {m:Frz}
theorem R.fzP (hm:∀ b k cs,m b=some (k,cs)→C6 G w b 0 cs) {a:Option Addr} {v:Value} (h:R G w (.ptr a) v):R G w (fzP m a) v:=by
 unfold Go.Ab.fzP
 split
 ·rename_i b o
  split
  ·rename_i k cs hb
   rw [N8] at h
   subst h
   have:=U2 o cs b 0 (hm b k cs hb)
   rw [Nat.zero_add] at this
   exact M4.2 ⟨b,o,rfl,this⟩
  ·exact h
 ·exact h
theorem R.fzW (hm:∀ b k cs,m b=some (k,cs)→C6 G w b 0 cs) {a:Option Addr} {len cap:Nat} {v:Value} (h:R G w (.raw a len cap) v):R G w (fzW m a len cap) v:=by
 unfold Go.Ab.fzW
 split
 ·rename_i b o
  split
  ·rename_i k cs hb
   split
   ·rename_i hl
    rw [X6] at h
    subst h
    have hc:=U2 o cs b 0 (hm b k cs hb)
    rw [Nat.zero_add] at hc
    have:=A51 (G:=G) (w:=w) (es:=N9 k len (cs.drop o)) (a:=some ⟨b,o,none⟩) (cap:=cap) (by rw [W3];exact hl.1) (fun h=>by cases h) (fun _=>⟨b,o,k,rfl,A1n k len _ hc hl.2⟩)
    rwa [W3] at this
   ·exact h
  ·exact h
 ·exact h
mutual
theorem R.fz (hm:∀ b k cs,m b=some (k,cs)→C6 G w b 0 cs):∀ (c:AV) (v:Value),R G w c v→R G w (fz m c) v
 | .int k n,v=>fun h=>by unfold Go.Ab.fz;exact h
 | .bool b,v=>fun h=>by unfold Go.Ab.fz;exact h
 | .str l,v=>fun h=>by unfold Go.Ab.fz;exact h
 | .ptr a,v=>fun h=>by unfold Go.Ab.fz;exact R.fzP hm h
 | .cptr cs,v=>fun h=>by
  unfold Go.Ab.fz
  unfold R at h ⊢
  obtain ⟨b,o,hv,hc⟩:=h
  exact ⟨b,o,hv,C6.fz hm cs b o hc⟩
 | .slice t es,v=>fun h=>by
  unfold Go.Ab.fz
  unfold R at h ⊢
  refine ⟨h.1,?_⟩
  rcases h.2 with ⟨he,a,cap,hv,h1,h2⟩|⟨b,o,cap,k,hv,h1,h2,h3,h4⟩
  ·exact .inl ⟨by rw [he,C0g],a,cap,hv,h1,h2⟩
  ·exact .inr ⟨b,o,cap,k,by rw [A6q];exact hv,by rw [A6q];exact h1,(fun h=>by rw [A6q];exact h2 h),C9q h3,D1.fz hm es k b o h4⟩
 | .raw a len cap,v=>fun h=>by unfold Go.Ab.fz;exact R.fzW hm h
 | .iface t x,v=>fun h=>by
  unfold Go.Ab.fz
  unfold R at h ⊢
  obtain ⟨u,hv,hx⟩:=h
  exact ⟨u,hv,R.fz hm x u hx⟩
 | .nilIface,v=>fun h=>by unfold Go.Ab.fz;exact h
 | .func fn fs cs,v=>fun h=>by
  unfold Go.Ab.fz
  unfold R at h ⊢
  obtain ⟨us,vs,hv,h1,h2⟩:=h
  exact ⟨us,vs,hv,B7.fz hm fs _ h1,B7.fz hm cs _ h2⟩
 | .nilFunc,v=>fun h=>by unfold Go.Ab.fz;exact h
 | .agg cs,v=>fun h=>by
  unfold Go.Ab.fz
  unfold R at h ⊢
  obtain ⟨us,hv,h1⟩:=h
  exact ⟨us,hv,B7.fz hm cs _ h1⟩
 | .tuple vs,v=>fun h=>by
  unfold Go.Ab.fz
  unfold R at h ⊢
  obtain ⟨us,hv,h1⟩:=h
  exact ⟨us,hv,B7.fz hm vs _ h1⟩
 | .cmap es,v=>fun h=>by unfold Go.Ab.fz;exact h
 | .mref a,v=>fun h=>by unfold Go.Ab.fz;exact h
theorem C6.fz (hm:∀ b k cs,m b=some (k,cs)→C6 G w b 0 cs):∀ (cs:List AV) (b o:Nat),C6 G w b o cs→C6 G w b o (fzL m cs)
 | [],b,o=>fun _=>by unfold fzL;unfold C6;trivial
 | c::cs,b,o=>fun h=>by
  unfold fzL
  unfold C6 at h ⊢
  obtain ⟨hg,⟨u,hu,hr⟩,hs⟩:=h
  exact ⟨hg,⟨u,hu,R.fz hm c u hr⟩,C6.fz hm cs b (o+1) hs⟩
theorem D1.fz (hm:∀ b k cs,m b=some (k,cs)→C6 G w b 0 cs):∀ (es:List (List AV)) (k b o:Nat),D1 G w k b o es→D1 G w k b o (fzE m es)
 | [],k,b,o=>fun _=>by unfold fzE;unfold D1;trivial
 | e::es,k,b,o=>fun h=>by
  unfold fzE
  unfold D1 at h ⊢
  obtain ⟨hl,hc,hs⟩:=h
  exact ⟨(C0h m e).trans hl,C6.fz hm e b o hc,D1.fz hm es k b (o+k) hs⟩
theorem B7.fz (hm:∀ b k cs,m b=some (k,cs)→C6 G w b 0 cs):∀ (cs:List AV) (vs:List Value),B7 G w cs vs→B7 G w (fzL m cs) vs
 | [],vs=>fun h=>by unfold fzL;exact h
 | c::cs,vs=>fun h=>by
  unfold fzL
  unfold B7 at h ⊢
  obtain ⟨u,us,hv,h1,h2⟩:=h
  exact ⟨u,us,hv,R.fz hm c u h1,B7.fz hm cs us h2⟩
end
end
theorem Mod.freeze {G:Gh} {w:World} {s s':Sto} {m:Frz} (hM:Mod Γ G s' w) (hs:Sub s s') (hf:∀ b k cs,m b=some (k,cs)→s.bx b=none∧∃ T,s'.bx b=some (T,cs)) :
  ∃ G',Mod Γ G' s w∧Ext G w G' w∧∀ b k cs,m b=some (k,cs)→C6 G' w b 0 cs:=by
 let G':Gh:=⟨fun b=>if (m b).isSome then .fixd else G.kd b,G.tk⟩
 have e1:∀ b,(m b).isSome=true→G'.kd b=.fixd:=fun b h=>by show (if (m b).isSome then Kd.fixd else _)=_;rw [if_pos h]
 have e2:∀ b,¬ (m b).isSome=true→G'.kd b=G.kd b:=fun b h=>by show (if (m b).isSome then Kd.fixd else _)=_;rw [if_neg h]
 have hfree:∀ b,(m b).isSome=true→G.kd b=.free:=fun b h=>by
  obtain ⟨⟨k,cs⟩,hx⟩:=Option.isSome_iff_exists.1 h
  obtain ⟨_,T,hT⟩:=hf b k cs hx
  exact (hM.box b T cs hT).1
 have hrow:∀ b n,G'.kd b=.row n→G.kd b=.row n:=fun b n h=>by
  by_cases hb:(m b).isSome=true
  ·rw [e1 b hb] at h;cases h
  ·rwa [e2 b hb] at h
 have hrow':∀ b n,G.kd b=.row n→G'.kd b=.row n:=fun b n h=>by
  by_cases hb:(m b).isSome=true
  ·rw [hfree b hb] at h;cases h
  ·rwa [e2 b hb]
 have X:Ext G w G' w:=⟨rfl,rfl,rfl,Nat.le_refl _,fun b h=>⟨by
   by_cases hb:(m b).isSome=true
   ·exact e1 b hb
   ·rwa [e2 b hb],rfl⟩,fun b n h=>⟨.inr ⟨n,Nat.le_refl _,hrow' b n h⟩,fun _ _=>rfl⟩,fun _ _=>rfl⟩
 have hm0:=hM.sub hs
 have top:∀ {t b:Nat} {e:TypeId} {k:Nat},Top G' w t b e k↔Top G w t b e k:=fun {t b e k} =>
  ⟨fun ⟨len,cap,c,h1,h2,h3,h4,h5⟩=>⟨len,cap,c,h1,h2,hrow _ _ h3,h4,h5⟩,fun ⟨len,cap,c,h1,h2,h3,h4,h5⟩=>⟨len,cap,c,h1,h2,hrow' _ _ h3,h4,h5⟩⟩
 have e3:∀ c es,s.mp c=some es→¬ (m c).isSome=true:=fun c es hc h=>by
  obtain ⟨⟨k,cs⟩,hx⟩:=Option.isSome_iff_exists.1 h
  obtain ⟨_,T,hT⟩:=hf c k cs hx
  obtain ⟨_,vs,hh,_⟩:=hM.box c T cs hT
  exact (hm0.mp c es hc).ne_cells hh rfl
 refine ⟨G',⟨fun g=>(hm0.glob g).mono X,?_,?_,?_,?_,hm0.fin,fun c es hc=>(hm0.mp c es hc).mono X (e2 c (e3 c es hc)) rfl⟩,X,?_⟩
 ·intro b T cs hb
  obtain ⟨h1,vs,h2,h3⟩:=hm0.box b T cs hb
  have hn:¬ (m b).isSome=true:=fun h=>by
   obtain ⟨⟨k,cs⟩,hx⟩:=Option.isSome_iff_exists.1 h
   rw [(hf b k cs hx).1] at hb
   cases hb
  exact ⟨(e2 b hn).trans h1,vs,h2,h3.mono X _ _⟩
 ·intro b hb
  by_cases h:(m b).isSome=true
  ·obtain ⟨⟨k,cs⟩,hx⟩:=Option.isSome_iff_exists.1 h
   obtain ⟨_,T,hT⟩:=hf b k cs hx
   exact A2n hM hT
  ·rw [e2 b h] at hb
   exact hm0.dom b hb
 ·intro t e k ht
  obtain ⟨h0,h1,b,h2⟩:=hm0.live t e k ht
  exact ⟨h0,h1,b,top.2 h2⟩
 ·intro t u b e k e' k' ht hu h1 h2
  exact hm0.apart t u b e k e' k' ht hu (top.1 h1) (top.1 h2)
 ·intro b k cs hb
  obtain ⟨_,T,hT⟩:=hf b k cs hb
  obtain ⟨_,vs,h2,h3⟩:=hM.box b T cs hT
  refine A5d (e1 b (by rw [hb];rfl)) cs vs 0 (h3.mono X _ _) fun j u hj=>?_
  rw [Nat.zero_add]
  simp [World.cell?,h2,hj]
theorem A2.frz {f:FuncId} {args:List AV} {s:Sto} {φ ψ:AV→Sto→Prop} (h:A2 P Γ f args s φ)
  (hk:∀ v s',φ v s'→∃ m s'',(∀ b k cs,m b=some (k,cs)→s''.bx b=none∧∃ T,s'.bx b=some (T,cs))∧Sub s'' s'∧ψ (fg (fz m v)) s''):A2 P Γ f args s ψ :=
 ⟨fun G w vs hm hr=>(h.run G w vs hm hr).mono fun e w' ⟨v,av,s',G',he,hφ,hR,hM,hX⟩=>by
  obtain ⟨m,s'',h1,h2,h3⟩:=hk av s' hφ
  obtain ⟨G'',hM',X',hc⟩:=hM.freeze h2 h1
  exact ⟨v,_,s'',G'',he,h3,R.fg _ _ (R.fz hc _ _ (hR.mono X' _ _)),hM',hX.trans X'⟩⟩
theorem A8.frz {f:FuncId} {args:List AV} {r:AV} (h:∀ s,A2 P Γ f args s fun v s'=>∃ m,(∀ b k cs,m b=some (k,cs)→s.bx b=none∧∃ T,s'.bx b=some (T,cs))∧fg (fz m v)=r∧Sub s s'):A8 P Γ f args fun v=>v=r :=
 fun s=>(h s).frz fun _ _ ⟨m,h1,h2,h3⟩=>⟨m,s,h1,h3,h2,rfl⟩
def fz1 (b k:Nat) (cs:List AV):Frz:=fun c=>if c=b then some (k,cs) else none
theorem A75 (b k:Nat) (cs:List AV):fz1 b k cs b=some (k,cs):=if_pos rfl
theorem A76 {s s':Sto} {b k:Nat} {T:TypeId} {cs:List AV} (h:s.bx b=none) (h':s'.bx b=some (T,cs)):∀ c j ds,fz1 b k cs c=some (j,ds)→s.bx c=none∧∃ T,s'.bx c=some (T,ds):=by
 intro c j ds hc
 unfold fz1 at hc
 split at hc
 ·rename_i he
  subst he
  simp only [Option.some.injEq,Prod.mk.injEq] at hc
  obtain ⟨_,rfl⟩:=hc
  exact ⟨h,T,h'⟩
 ·cases hc
def fz0:Frz:=fun _=>none
theorem A74 {s s':Sto}:∀ c j ds,fz0 c=some (j,ds)→s.bx c=none∧∃ T,s'.bx c=some (T,ds):=fun _ _ _ h=>by cases h
mutual
theorem A3s:∀ v:AV,fz fz0 v=v
 | .int _ _=>by unfold fz;rfl
 | .bool _=>by unfold fz;rfl
 | .str _=>by unfold fz;rfl
 | .ptr a=>by
  unfold fz fzP
  split<;>rfl
 | .cptr cs=>by unfold fz;rw [A2w cs]
 | .slice t es=>by unfold fz;rw [C0e es]
 | .raw a l c=>by
  unfold fz fzW
  split<;>rfl
 | .iface t v=>by unfold fz;rw [A3s v]
 | .nilIface=>by unfold fz;rfl
 | .func fn fs cs=>by unfold fz;rw [A2w fs,A2w cs]
 | .nilFunc=>by unfold fz;rfl
 | .agg cs=>by unfold fz;rw [A2w cs]
 | .tuple vs=>by unfold fz;rw [A2w vs]
 | .cmap es=>by unfold fz;rfl
 | .mref a=>by unfold fz;rfl
theorem A2w:∀ l:List AV,fzL fz0 l=l
 | []=>by unfold fzL;rfl
 | c::cs=>by unfold fzL;rw [A3s c,A2w cs]
theorem C0e:∀ l:List (List AV),fzE fz0 l=l
 | []=>by unfold fzE;rfl
 | c::cs=>by unfold fzE;rw [A2w c,C0e cs]
end
def R7 (Γ:Nat→AV) (s s':Sto):Prop:=∀ G w,Mod Γ G s w→Mod Γ G s' w
theorem R7.refl (s:Sto):R7 Γ s s:=fun _ _ h=>h
def Le (a b:AV):Prop:=∀ G w v,R G w a v→R G w b v
theorem Le.refl (a:AV):Le a a:=fun _ _ _ h=>h
theorem Le.of_eq {a b:AV} (h:a=b):Le a b:=by rw [h];exact Le.refl b
theorem Le.trans {a b c:AV} (h:Le a b) (k:Le b c):Le a c:=fun G w v hr=>k G w v (h G w v hr)
theorem Le.slice0 (t:Nat) (es:List (List AV)):Le (.slice t es) (.slice 0 es):=fun _ _ _ h=>C3m h
theorem Le.inner (t:Nat) (es:List (List AV)):Le (.slice t es) (.slice t (fgE es)):=by
 intro G w v h
 unfold R at h ⊢
 refine ⟨h.1,?_⟩
 rcases h.2 with ⟨he,a,cap,hv,h1,h2⟩|⟨b,o,cap,k,hv,h1,h2,h3,h4⟩
 ·exact .inl ⟨by rw [he,A4l],a,cap,hv,h1,h2⟩
 ·exact .inr ⟨b,o,cap,k,by rw [A2q];exact hv,by rw [A2q];exact h1,(fun h=>by rw [A2q];exact h2 h),C4c h3,D1.fg es k b o h4⟩
theorem Le.inner' {t:Nat} {es es':List (List AV)} (h:fgE es=es'):Le (.slice t es) (.slice t es'):=h ▸ Le.inner t es
def LeL:List AV→List AV→Prop
 | [],[]=>True
 | a::l,b::m=>Le a b∧LeL l m
 | _,_=>False
theorem LeL.refl:∀ l:List AV,LeL l l
 | []=>trivial
 | a::l=>⟨Le.refl a,LeL.refl l⟩
theorem LeL.nil:LeL [] []:=trivial
theorem LeL.cons {a b:AV} {l m:List AV} (h:Le a b) (k:LeL l m):LeL (a::l) (b::m):=⟨h,k⟩
theorem LeL.run {G:Gh} {w:World}:∀ {l m:List AV} {vs:List Value},LeL l m→B7 G w l vs→B7 G w m vs
 | [],[],_,_,h=>h
 | a::l,b::m,vs,hl,h=>by
  obtain ⟨u,us,rfl,h1,h2⟩:=A9.1 h
  exact A9.2 ⟨u,us,rfl,hl.1 G w u h1,LeL.run hl.2 h2⟩
 | [],_::_,_,hl,_=>hl.elim
 | _::_,[],_,hl,_=>hl.elim
theorem R7.box {s:Sto} {b:Nat} {T:TypeId} {cs cs':List AV} (hb:s.bx b=some (T,cs)) (h:LeL cs cs'):R7 Γ s (s.set b T cs'):=by
 intro G w hm
 refine ⟨hm.glob,?_,hm.dom,hm.live,hm.apart,hm.fin,hm.mp⟩
 intro c T' ds hc
 by_cases he:c=b
 ·subst he
  rw [A3] at hc
  simp only [Option.some.injEq,Prod.mk.injEq] at hc
  obtain ⟨rfl,rfl⟩:=hc
  obtain ⟨h1,vs,h2,h3⟩:=hm.box c T cs hb
  exact ⟨h1,vs,h2,h.run h3⟩
 ·rw [A4 he] at hc
  exact hm.box c T' ds hc
section
variable {n:Nat} {Q:Exit→Env→Sto→Prop} {e:Env} {s:Sto}
theorem AWp.weak {c:Code} {s':Sto} (h:R7 Γ s s') (k:AWp P Γ n c Q e s'):AWp P Γ n c Q e s :=
 ⟨fun G w a hm he=>k.run G w a (h G w hm) he⟩
def LeS (e:Env):List Nat→List AV→Prop
 | [],[]=>True
 | i::S,v::vs=>Le (e i) v∧LeS e S vs
 | _,_=>False
theorem LeS.nil {e:Env}:LeS e [] []:=trivial
theorem LeS.cons {e:Env} {i:Nat} {S:List Nat} {v:AV} {vs:List AV} (h:Le (e i) v) (k:LeS e S vs):LeS e (i::S) (v::vs):=⟨h,k⟩
theorem LeS.env {G:Gh} {w:World} {e:Env} {a:Act} (he:Y6 G w n e a):∀ {S:List Nat} {vs:List AV},LeS e S vs→Y6 G w n (updL e S vs) a
 | [],[],_=>by simpa [updL] using he
 | i::S,v::vs,h=>by
  have ih:=LeS.env he h.2
  refine ⟨ih.size,fun j=>?_,ih.defers⟩
  simp only [updL,upd]
  split
  ·rename_i hj
   subst hj
   exact h.1 G w _ (he.at_ j)
  ·exact ih.at_ j
 | [],_::_,h=>h.elim
 | _::_,[],h=>h.elim
theorem LeS.map {e:Env}:∀ {S:List Nat} {vs:List AV},S.Nodup→LeS e S vs→S.map (updL e S vs)=vs
 | [],[],_,_=>rfl
 | i::S,v::vs,hn,h=>by
  obtain ⟨h1,h2⟩:=List.nodup_cons.1 hn
  rw [List.map_cons]
  refine G6 (by simp [updL,upd]) ?_
  have hm:S.map (updL e (i::S) (v::vs))=S.map (updL e S vs):=List.map_congr_left fun j hj=>by
   simp only [updL,upd]
   exact if_neg (fun (hji:j=i)=>h1 (hji ▸ hj))
  rw [hm]
  exact LeS.map h2 h.2
 | [],_::_,_,h=>h.elim
 | _::_,[],_,h=>h.elim
theorem B33 {e e':Env} {M:List Nat} {S:List Nat} {vs:List AV} (hs:L0 M e e') (h:S.all (M.elem ·)=true):L0 M e (updL e' S vs):=L0.updL h hs
theorem AWp.loopW {α:Type} {c:Code} (S J:List Nat) (vs:α→List AV) (I:α→Sto→Prop) (μ:α→Nat) (a0:α) (s0:Sto) (hok:V8 n c=true) (hnd:S.Nodup) (h0:LeS e S (vs a0)) (hw:R7 Γ s s0) (hI:I a0 s0)
  (round:∀ x a s',I a s' →
   awp P Γ n c (C00 (fun e' s''=>∃ a' s3,LeS e' S (vs a')∧L0 (S++J) e e'∧R7 Γ s'' s3∧I a' s3∧μ a' < μ a) Q) (updL (havoc e J x) S (vs a)) s'):AWp P Γ n (.loop c) Q e s:=by
 refine ⟨fun G w ac hm he=>?_⟩
 have hall:S.all ((S++J).elem ·)=true:=by
  rw [List.all_eq_true]
  intro i hi
  simp [hi]
 have key:∀ m G1 w1 a1 e1 s1 a,μ a < m→I a s1→S.map e1=vs a→L0 (S++J) e e1→Mod Γ G1 s1 w1→Y6 G1 w1 n e1 a1→Ext G w G1 w1 →
   Code.rounds P c (fun x a' w'=>∃ e' s' G',Q x e' s'∧Mod Γ G' s' w'∧Y6 G' w' n e' a'∧Ext G w G' w') m a1 w1:=by
  intro m
  induction m with
  | zero=>intro _ _ _ _ _ _ h;omega
  | succ m ih =>
   intro G1 w1 a1 e1 s1 a hmu hI1 hv hS hm1 he1 X1
   rw [rounds_succ]
   have hee:updL (havoc e J e1) S (vs a)=e1:=by
    rw [← hv]
    funext i
    cases hi:S.elem i with
    | true=>exact B11 S e1 i hi
    | false =>
     rw [B12 S _ i hi]
     unfold havoc
     cases hj:J.elem i with
     | true=>rfl
     | false =>
      refine (hS i ?_).symm
      have h1:i ∉ S:=by simpa using hi
      have h2:i ∉ J:=by simpa using hj
      simp [h1,h2]
   have hr:=round e1 a s1 hI1
   rw [hee] at hr
   refine Code.wp_mono ?_ ((A1o c hok hr).run G1 w1 a1 hm1 he1)
   rintro x a' w' ⟨e',s',G',q,hm',he',X⟩
   cases x with
   | normal =>
    obtain ⟨b,s3,q1,q2,q3,q4,q5⟩:=q
    exact ih G' w' a' (updL e' S (vs b)) s3 b (by omega) q4 (LeS.map hnd q1) (B33 q2 hall) (q3 G' w' hm') (q1.env he') (X1.trans X)
   | _=>exact ⟨e',s',G',q,hm',he',X1.trans X⟩
 exact wp_loop_rounds _ (key _ G w ac (updL e S (vs a0)) s0 a0 (Nat.lt_succ_self _) hI (LeS.map hnd h0) (B33 (L0.refl _ _) hall) (hw G w hm) (h0.env he) (Ext.refl _ _))
end
theorem A2.weak {f:FuncId} {args args':List AV} {s s':Sto} {φ:AV→Sto→Prop} (hw:R7 Γ s s') (ha:LeL args args') (h:A2 P Γ f args' s' φ):A2 P Γ f args s φ :=
 ⟨fun G w vs hm hr=>h.run G w vs (hw G w hm) (ha.run hr)⟩
theorem A2.less {f:FuncId} {args:List AV} {s:Sto} {φ ψ:AV→Sto→Prop} (h:A2 P Γ f args s φ) (hk:∀ v s',φ v s'→∃ v' s'',Le v v'∧R7 Γ s' s''∧ψ v' s''):A2 P Γ f args s ψ :=
 ⟨fun G w vs hm hr=>(h.run G w vs hm hr).mono fun _ _ ⟨v,av,s',G',he,hφ,hR,hM,hX⟩=>by
  obtain ⟨v',s'',h1,h2,h3⟩:=hk av s' hφ
  exact ⟨v,v',s'',G',he,h3,h1 G' _ v hR,h2 G' _ hM,hX⟩⟩
end Go.Ab
namespace Go.Ab
open Go
structure X2 (B:Nat→Prop) (s s':Sto):Prop where
 bx:∀ c z,¬ B c→s.bx c=some z→s'.bx c=some z
 lv:∀ t e k,s.lv t e k→s'.lv t e k
 sub:∀ s0,Sub s0 s→(∀ c,B c→s0.bx c=none)→Sub s0 s'
theorem X2.trans {B:Nat→Prop} {a b c:Sto} (h:X2 B a b) (k:X2 B b c):X2 B a c :=
 ⟨fun d z hd hz=>k.bx d z hd (h.bx d z hd hz),fun t e j ht=>k.lv t e j (h.lv t e j ht),fun s0 hs hn=>k.sub s0 (h.sub s0 hs hn) hn⟩
theorem X2.set {B:Nat→Prop} {s s':Sto} (h:X2 B s s') {b:Nat} (hb:B b) (T:TypeId) (cs:List AV):X2 B s (s'.set b T cs) :=
 ⟨fun d z hd hz=>(A4 (show d≠b from fun he=>hd (by rw [he];exact hb))).trans (h.bx d z hd hz),h.lv,fun s0 hs hn=>(h.sub s0 hs hn).set (hn b hb) T cs⟩
theorem X2.fresh {B:Nat→Prop} {s s':Sto} (h:X2 B s s') {b:Nat} (hb:s.bx b=none) (T:TypeId) (cs:List AV):X2 B s (s'.set b T cs) :=
 ⟨fun d z hd hz=>(A4 (A1 hz hb)).trans (h.bx d z hd hz),h.lv,fun s0 hs hn=>(h.sub s0 hs hn).set (hs.none hb) T cs⟩
def B1 (a:Nat):Nat→Prop:=fun c=>c=a
theorem A0o {s:Sto} {b c:Nat} {es:List (List UInt8 × AV)}:(s.setM b es).bx c=s.bx c:=rfl
theorem bS:((false=true)=False)∧((true=false)=False)∧(∀ (p:Prop) [Decidable p],(decide p=true)=p)∧(∀ (p:Prop) [Decidable p],(decide p=false) = ¬p)∧(∀ b:Bool,((!b)=true)=(b=false))∧(∀ b:Bool,((!b)=false)=(b=true)) :=
 ⟨by simp,by simp,fun p _=>by simp,fun p _=>by simp,fun b=>by simp,fun b=>by simp⟩
theorem bN:((¬True)=False)∧((¬False)=True):=⟨by simp,by simp⟩
theorem A0 {s:Sto} {b c:Nat} {T:TypeId} {cs:List AV} (h:(s.set b T cs).bx c=none):s.bx c=none:=by
 by_cases hc:c=b
 ·subst hc;rw [A3] at h;cases h
 ·rwa [A4 hc] at h
theorem A6 {s:Sto} {b c:Nat} {T:TypeId} {cs:List AV} (h:(s.set b T cs).bx c=none):b≠c:=by
 rintro rfl;rw [A3] at h;cases h
theorem D3 {α:Type} {l l':List α} {n:Nat} (h:l=l') (k:l'.length=n):l.length=n:=h ▸ k
theorem D2z {p q:Prop} (k:q) (h:p:=by first|omega|rfl|decide|exact Nat.le_of_ble_eq_true rfl|((repeat' (first|exact C3|refine all_cons ?_ ?_|rfl|fail));done)|(simp [-List.length_flatMap];done)|(simp [-List.length_flatMap];omega)|fail):p∧q:=⟨h,k⟩
theorem oA {p q:Prop} (k:q) (h:p:=by first|exact trivial|exact .inl ⟨_,rfl,rfl⟩|exact .inr (.inl ⟨rfl,_,rfl⟩)|exact .inr (.inr ⟨rfl,rfl,_,rfl,by assumption⟩)|exact ⟨_,rfl,by assumption,by assumption⟩):p∧q:=⟨h,k⟩
theorem A5 {x:Option (TypeId × List AV)} {T:TypeId} {cs:List AV} {K:TypeId→List AV→Prop} (k:K T cs) (hx:x=some (T,cs):=by ((repeat (first|exact A3|assumption|refine (A4 (by assumption)).trans ?_|refine Q5.trans ?_|refine A0o.trans ?_));done)):getB x K:=B5 hx k
theorem bxa {α:Type} {x y:Option α} (h:x=y:=by ((repeat (first|exact A3|assumption|refine (A4 (by assumption)).trans ?_|refine Q5.trans ?_|refine A0o.trans ?_));done)):x=y:=h
theorem N2 {s s':Sto} (h:Sub s s':=by ((repeat (first|exact Sub.refl _|assumption|refine Sub.set ?_ (by assumption) _ _));done)):Sub s s':=h
theorem eqa {α:Type} {a b:α} (h:a=b:=by (repeat' (first|refine G6 ?_ ?_|refine G2 ?_ ?_ ?_|rfl|omega))):a=b:=h
theorem eqb {α:Type} {a b:α} (h:a=b:=by ((try dsimp only);(repeat' (first|refine G6 ?_ ?_|refine G2 ?_ ?_ ?_|rfl|omega)))):a=b:=h
theorem B8 {M:List Nat} {e e':Env} (h:L0 M e e':=by (repeat (first|exact L0.refl _ _|refine L0.upd rfl ?_|refine L0.updL rfl ?_|refine L0.havoc rfl ?_))):L0 M e e':=h
theorem AWp.anyA {P:Program} {Γ:Nat→AV} {n id:Nat} {ops:Array Oper} {Q:Exit→Env→Sto→Prop} {e:Env} {s:Sto} (h:C65 P Γ ops ops.toList e s fun e' s'=>Q .normal e' s') (hmix:P.follows .mixedOrders=true:=by kernel_rfl) (hok:ops.toList.all (A1b n)=true:=by kernel_rfl) (hd:A8b P ops=true:=by kernel_rfl):AWp P Γ n (.region id ops true) Q e s:=AWp.any hmix hok hd h
structure D0z (q:Prop):Prop where
 run:q
theorem pru {p:Prop} (h:False:=by first|omega|exact (by assumption:¬ True) trivial|fail):p:=h.elim
theorem prc {p:Prop} (h:False:=by first|contradiction|omega|exact (by assumption:¬ True) trivial|fail):p:=h.elim
theorem brS {b:Bool} {yes no:Prop} (h1:b=true→yes) (h2:b=false→no):brA b yes no:=L3 h1 h2
theorem nA {p q:Prop} (k:q) (h:p:=by first|exact Sub.refl _|omega|rfl|decide|exact Nat.le_of_ble_eq_true rfl|((repeat' (first|exact C3|refine all_cons ?_ ?_|rfl|fail));done)|(simp [-List.length_flatMap];done)|(simp [-List.length_flatMap];omega)|fail):p∧q:=⟨h,k⟩
theorem gS {s:Sto} {b:Nat} {T:TypeId} {cs:List AV} {K:TypeId→List AV→Prop} (h:K T cs):getB ((s.set b T cs).bx b) K:=L4 h
theorem aA {P:Program} {Γ:Nat→AV} {n id:Nat} {ops:Array Oper} {Q:Exit→Env→Sto→Prop} {e:Env} {s:Sto} (h:C65 P Γ ops ops.toList e s fun e' s'=>Q .normal e' s') (hmix:P.follows .mixedOrders=true:=by kernel_rfl) (hok:ops.toList.all (A1b n)=true:=by kernel_rfl) (hd:A8b P ops=true:=by kernel_rfl):AWp P Γ n (.region id ops true) Q e s:=AWp.any hmix hok hd h
theorem wp {p q:Prop} (k:q) (h:D0z q→p:=by (intro k;(try (conv=>whnf));(repeat' ((first|(exfalso;first|omega|exact (by assumption:¬ True) trivial|fail)|(refine brS (fun h=>?_) (fun h=>?_)<;>(try rw [h])<;>(try simp only [bN,bS,↓reduceIte] at h))|(refine A2.pure' ?_ (by assumption);rintro _ rfl)|refine A7.pure ?_ (by assumption)|refine B5 (by ((repeat (first|exact A3|assumption|refine (A4 (by assumption)).trans ?_|refine Q5.trans ?_));done)) ?_|refine ⟨D3 (by assumption) rfl,Go.Ab.C5 (by assumption) ?_⟩|refine gS ?_|refine AWp.any (by kernel_rfl) (by kernel_rfl) (by kernel_rfl) ?_|refine ⟨Sub.refl _,?_⟩|refine And.intro (by first|omega|rfl|decide|exact Nat.le_of_ble_eq_true rfl|((repeat' (first|exact C3|refine all_cons ?_ ?_|rfl|fail));done)|(simp [-List.length_flatMap];done)|(simp [-List.length_flatMap];omega)|fail) ?_|fail)<;>(conv=>whnf)));all_goals exact k.run)):p:=h ⟨k⟩
theorem wr {p q:Prop} (k:q) (h:D0z q→p:=by (intro k;(try (conv=>whnf));(repeat' ((first|(refine brS (fun h=>?_) (fun h=>?_)<;>(try rw [h])<;>(try simp only [bN,bS,↓reduceIte] at h)<;>(first|(exfalso;first|contradiction|omega|exact (by assumption:¬ True) trivial|fail)|skip))|(refine A2.pure' ?_ (by assumption);rintro _ rfl)|refine A7.pure ?_ (by assumption)|refine B5 (by ((repeat (first|exact A3|assumption|refine (A4 (by assumption)).trans ?_|refine Q5.trans ?_));done)) ?_|refine ⟨D3 (by assumption) rfl,Go.Ab.C5 (by assumption) ?_⟩|refine gS ?_|refine AWp.any (by kernel_rfl) (by kernel_rfl) (by kernel_rfl) ?_|refine ⟨Sub.refl _,?_⟩|refine And.intro (by first|omega|rfl|decide|exact Nat.le_of_ble_eq_true rfl|((repeat' (first|exact C3|refine all_cons ?_ ?_|rfl|fail));done)|(simp [-List.length_flatMap];done)|(simp [-List.length_flatMap];omega)|fail) ?_|fail)<;>(conv=>whnf)));all_goals exact k.run)):p:=h ⟨k⟩
theorem acs {P:Program} {Γ:Nat→AV} {f:FuncId} {fn:Func} {c:Code} {args:List AV} {s:Sto} {φ:AV→Sto→Prop} (hf:P.funcs[f]?=some fn) (k:awp P Γ fn.ntmps c (C2v P fn.results fun v s'=>∃ s'',Sub s'' s'∧φ v s'') (B2x args) s) (hb:fn.body=some c:=by rfl) (hn:args.length≤fn.ntmps:=by exact Nat.le_of_ble_eq_true (by kernel_rfl)) (hok:V8 fn.ntmps c=true:=by kernel_rfl):A2 P Γ f args s φ:=A2.of_awp hf hb hn (A1o _ hok k)
theorem aps {P:Program} {Γ:Nat→AV} {f:FuncId} {fn:Func} {c:Code} {args:List AV} {φ:AV→Prop} (hf:P.funcs[f]?=some fn) (k:∀ s,awp P Γ fn.ntmps c (C2v P fn.results fun v s'=>Sub s s'∧φ v) (B2x args) s) (hb:fn.body=some c:=by rfl) (hn:args.length≤fn.ntmps:=by exact Nat.le_of_ble_eq_true (by kernel_rfl)) (hok:V8 fn.ntmps c=true:=by kernel_rfl):A8 P Γ f args φ:=A8.of_awp hf hb hn hok k
end Go.Ab
namespace Go.Proofs.YtaammejliikieaaGreatDoor.Tr
open Go Go.Ab Go.RowKit
variable {Γ:Nat→AV}
attribute [local irreducible] A8 Sto.set Sto.grow
abbrev Idn:=List UInt8 × Int × Int
abbrev Vl:=Int × Int × List UInt8 × Bool
abbrev Ex:=Int × Int × Int × List UInt8 × Vl × Int × Int
abbrev Ar:=Int × List UInt8 × Vl × Int × Int
abbrev Sy:=List UInt8 × List Ar × Int × Int
abbrev De:=Idn × List Int
abbrev Qu:=Bool × Idn × Int
abbrev Fr:=Idn × Vl
abbrev St:=Idn × Bool × Bool
abbrev Se:=Idn × Int
abbrev Tn:=Idn × Idn × Sy × List Ex × Int × List Se
instance decVl:DecidableEq Vl:=inferInstance
def A62:Idn:=([],0,0)
def H9:Vl:=(0,0,[],false)
def A5q:Ex:=(0,0,0,[],H9,0,0)
def A60:Ar:=(0,[],H9,0,0)
def C7y:Nat × Sy:=(1,[],[],0,0)
def C7x:Nat × De:=(1,A62,[])
def C97:Qu:=(false,A62,0)
def C95:Fr:=(A62,H9)
def C99:St:=(A62,false,false)
def C98:Se:=(A62,0)
def C7z:(Nat × Nat × Nat) × Tn:=((1,1,1),A62,A62,([],[],0,0),[],0,[])
def S1 (x:Idn):List AV:=[.str x.1,.int .i64 x.2.1,.int .i64 x.2.2]
def vlA (v:Vl):List AV:=[.int .i64 v.1,.int .i64 v.2.1,.str v.2.2.1,.bool v.2.2.2]
def exA (x:Ex):List AV:=[.int .i64 x.1,.int .i64 x.2.1,.int .i64 x.2.2.1,.str x.2.2.2.1,.int .i64 x.2.2.2.2.1.1,.int .i64 x.2.2.2.2.1.2.1,.str x.2.2.2.2.1.2.2.1,.bool x.2.2.2.2.1.2.2.2,.int .i64 x.2.2.2.2.2.1,.int .i64 x.2.2.2.2.2.2]
def arA (x:Ar):List AV:=[.int .i64 x.1,.str x.2.1,.int .i64 x.2.2.1.1,.int .i64 x.2.2.1.2.1,.str x.2.2.1.2.2.1,.bool x.2.2.1.2.2.2,.int .i64 x.2.2.2.1,.int .i64 x.2.2.2.2]
def syA (x:Nat × Sy):List AV:=[.str x.2.1,.slice x.1 (x.2.2.1.map arA),.int .i64 x.2.2.2.1,.int .i64 x.2.2.2.2]
def deA (x:Nat × De):List AV:=[.str x.2.1.1,.int .i64 x.2.1.2.1,.int .i64 x.2.1.2.2,.slice x.1 (G9 .i64 x.2.2)]
def quA (x:Qu):List AV:=[.bool x.1,.str x.2.1.1,.int .i64 x.2.1.2.1,.int .i64 x.2.1.2.2,.int .i64 x.2.2]
def frA (x:Fr):List AV:=[.str x.1.1,.int .i64 x.1.2.1,.int .i64 x.1.2.2,.int .i64 x.2.1,.int .i64 x.2.2.1,.str x.2.2.2.1,.bool x.2.2.2.2]
def stA (x:St):List AV:=[.str x.1.1,.int .i64 x.1.2.1,.int .i64 x.1.2.2,.bool x.2.1,.bool x.2.2]
def seA (x:Se):List AV:=[.str x.1.1,.int .i64 x.1.2.1,.int .i64 x.1.2.2,.int .i64 x.2]
def tnA (x:(Nat × Nat × Nat) × Tn):List AV:=[.str x.2.1.1,.int .i64 x.2.1.2.1,.int .i64 x.2.1.2.2,.str x.2.2.1.1,.int .i64 x.2.2.1.2.1,.int .i64 x.2.2.1.2.2,
 .str x.2.2.2.1.1,.slice x.1.1 (x.2.2.2.1.2.1.map arA),.int .i64 x.2.2.2.1.2.2.1,.int .i64 x.2.2.2.1.2.2.2,
 .slice x.1.2.1 (x.2.2.2.2.1.map exA),.int .i64 x.2.2.2.2.2.1,.slice x.1.2.2 (x.2.2.2.2.2.2.map seA)]
theorem C4b (x y:Vl):(decide (x.1=y.1) && (decide (x.2.1=y.2.1) && (decide (x.2.2.1=y.2.2.1) && ((x.2.2.2 == y.2.2.2) && true))))=decide (x=y):=by
 rw [Bool.eq_iff_iff];simp [Prod.ext_iff]
theorem C4 {a b:Bool} (h:a=b):AV.bool a=.bool b:=by rw [h]
theorem B9 {α:Type} {f:α→List AV} {l:List α} (d:α) {i:Nat} (h:i < l.length):(l.map f).getD i []=f (l.getD i d):=by
 simp [List.getD,h]
theorem D4 {α:Type} {l:List α} (d:α) {i:Nat} (h:i < l.length):l.getD i d ∈ l:=by
 simp [List.getD,h]
theorem A8v {α:Type} [DecidableEq α] {a b:List α} {d:α} {i:Nat} (ha:i < a.length) (hb:i < b.length) :
  decide (a.drop i=b.drop i)=(decide (a.getD i d=b.getD i d) && decide (a.drop (i+1)=b.drop (i+1))):=by
 rw [List.drop_eq_getElem_cons ha,List.drop_eq_getElem_cons hb,← Bool.decide_and]
 refine decide_eq_decide.2 ?_
 rw [List.cons.injEq]
 simp only [List.getD,List.getElem?_eq_getElem ha,List.getElem?_eq_getElem hb,Option.getD_some]
theorem B6t:(!Tryz.prog.eqGuardType Tryz.prog.depth 41)=true:=by kernel_rfl
theorem B1e:A05 Tryz.prog 9999 41=some [(0,0),(1,0),(2,1),(3,2)]:=by kernel_rfl
abbrev Tr0:=Idn × List (Nat × De) × List Qu × List Fr × List St × Idn × List (Nat × Sy) × List ((Nat × Nat × Nat) × Tn)
def trA (k:Nat→Nat) (x:Tr0):List AV:=[.str x.1.1,.int .i64 x.1.2.1,.int .i64 x.1.2.2,.slice (k 0) (x.2.1.map deA),.slice (k 1) (x.2.2.1.map quA),.slice (k 2) (x.2.2.2.1.map frA),.slice (k 3) (x.2.2.2.2.1.map stA),
 .str x.2.2.2.2.2.1.1,.int .i64 x.2.2.2.2.2.1.2.1,.int .i64 x.2.2.2.2.2.1.2.2,.slice (k 4) (x.2.2.2.2.2.2.1.map syA),.slice (k 5) (x.2.2.2.2.2.2.2.map tnA)]
def C3n (x:Tr0):Prop:=(x.2.1.length≤100000∧x.2.2.1.length≤100000∧x.2.2.2.1.length≤100000∧x.2.2.2.2.1.length≤100000∧x.2.2.2.2.2.2.1.length≤100000∧x.2.2.2.2.2.2.2.length≤100000) ∧
 (∀ d ∈ x.2.1,d.2.2.length≤100000)∧(∀ s ∈ x.2.2.2.2.2.2.1,s.2.2.1.length≤100000)∧∀ t ∈ x.2.2.2.2.2.2.2,t.2.2.2.1.2.1.length≤100000∧t.2.2.2.2.1.length≤100000∧t.2.2.2.2.2.2.length≤100000
theorem A0b {α:Type} {l:List α} {p:α→Bool} (d:α) {i:Nat} (h:i < l.length):(l.drop i).all p=(p (l.getD i d) && (l.drop (i+1)).all p):=by
 rw [List.drop_eq_getElem_cons h,List.all_cons]
 simp [List.getD,h]
theorem B34 (n:Int):A8 Tryz.prog Γ 90 [.int .i64 n] fun v=>v=.agg (vlA (1,n,[],false)):=by
 refine aps Tryz.func90 ?_
 intro s
 conv=>whnf
 intro b hb
 refine wr ?_
 exact ⟨((Sub.refl _).set hb _ _).set hb _ _,rfl⟩
def A8e (v:Vl):Bool :=
 if v.1=1 then decide (v.2.2.1=[]) && !v.2.2.2
 else if v.1=2 then decide (v.2.1=0) && !v.2.2.2 && decide (v.2.2.1.length≤4096)
 else decide (v.1=3) && decide (v.2.1=0) && decide (v.2.2.1=[])
theorem B35 (s:List UInt8):A8 Tryz.prog Γ 91 [.str s] fun v=>v=.agg (vlA (2,0,s,false)):=by
 refine aps Tryz.func91 ?_
 intro s
 conv=>whnf
 intro b hb
 refine wr ?_
 exact ⟨((Sub.refl _).set hb _ _).set hb _ _,rfl⟩
theorem B13 (t:Bool):A8 Tryz.prog Γ 92 [.bool t] fun v=>v=.agg (vlA (3,0,[],t)):=by
 refine aps Tryz.func92 ?_
 intro s
 conv=>whnf
 intro b hb
 refine wr ?_
 exact ⟨((Sub.refl _).set hb _ _).set hb _ _,rfl⟩
theorem A0w (v:Vl):A8 Tryz.prog Γ 34 [.agg (vlA v)] fun x=>x=.bool (A8e v):=by
 obtain ⟨k,n,s,t⟩:=v
 refine aps Tryz.func34 ?_
 intro s
 conv=>whnf
 intro b hb
 conv=>whnf
 repeat' ((first|(refine brS (fun h=>?_) (fun h=>?_)<;>(try rw [h])<;>(try simp only [bS,↓reduceIte] at h))|(refine A2.pure' ?_ (B34 _);rintro _ rfl)|refine A7.pure ?_ (B34 _)|(refine A2.pure' ?_ (B35 _);rintro _ rfl)|refine A7.pure ?_ (B35 _)|(refine A2.pure' ?_ (B13 _);rintro _ rfl)|refine A7.pure ?_ (B13 _)|(refine P9.of B6t B1e ?_)|refine gS ?_|refine aA ?_|refine nA ?_|fail)<;>(conv=>whnf))
 all_goals refine ⟨(Sub.refl _).set hb _ _,C4 ?_⟩
 all_goals (try simp only [] at *)
 all_goals grind [A8e]
def B05 (nm:List UInt8→Bool) (x:Ex):Bool :=
 if x.2.1≠0∨x.2.2.1≠0 then false
 else if x.1=1 then decide (x.2.2.2.1=[]) && A8e x.2.2.2.2.1
 else decide (x.1=17) && (decide (x.2.2.2.2.1=H9) && nm x.2.2.2.1)
theorem C0n (nm:List UInt8→Bool) (x:Ex) (hn:A8 Tryz.prog Γ 80 [.str x.2.2.2.1] fun v=>v=.bool (nm x.2.2.2.1)):A8 Tryz.prog Γ 140 [.agg (exA x)] fun v=>v=.bool (B05 nm x):=by
 have hev:=C4b x.2.2.2.2.1 H9
 refine aps Tryz.func140 ?_
 intro s
 conv=>whnf
 intro b hb
 conv=>whnf
 repeat' ((first|exact pru|(refine brS (fun h=>?_) (fun h=>?_)<;>(try rw [h])<;>(try simp only [bS,↓reduceIte] at h))|(refine A2.pure' ?_ (A0w x.2.2.2.2.1);rintro _ rfl)|refine A7.pure ?_ (A0w x.2.2.2.2.1)|(refine P9.of B6t B1e ?_)|(refine A2.pure' ?_ (hn);rintro _ rfl)|refine A7.pure ?_ (hn)|refine gS ?_|refine aA ?_|refine nA ?_|fail)<;>(conv=>whnf))
 all_goals refine ⟨(Sub.refl _).set hb _ _,C4 ?_⟩
 all_goals (unfold B05;rw [← hev])
 all_goals grind [H9]
def V7 (nm:List UInt8→Bool) (x:Ex) (i:Nat) (r:List (Int × Int)):Int × Int :=
 if B05 nm x=true then (1,1)
 else if x.1 < 4∨16 < x.1∨x.2.2.2.1≠[]∨x.2.2.2.2.1≠H9∨i=0∨(r.getD (i - 1) (0,0)).1=0 then (0,0)
 else if x.1≤5 then (if x.2.1=(i:Int) - 1∧x.2.2.1=0 then ((r.getD (i - 1) (0,0)).1+1,(r.getD (i - 1) (0,0)).2+1) else (0,0))
 else if x.2.2.1=(i:Int) - 1∧x.2.1=(i:Int) - 1 - (r.getD (i - 1) (0,0)).1∧0≤(i:Int) - 1 - (r.getD (i - 1) (0,0)).1∧0 < (r.getD ((i:Int) - 1 - (r.getD (i - 1) (0,0)).1).toNat (0,0)).1 then
  ((r.getD ((i:Int) - 1 - (r.getD (i - 1) (0,0)).1).toNat (0,0)).1+(r.getD (i - 1) (0,0)).1+1,max (r.getD ((i:Int) - 1 - (r.getD (i - 1) (0,0)).1).toNat (0,0)).2 (r.getD (i - 1) (0,0)).2+1)
 else (0,0)
def tab (nm:List UInt8→Bool) (l:List Ex):Nat→List (Int × Int)
 | 0=>[]
 | i+1=>tab nm l i++[V7 nm (l.getD i A5q) i (tab nm l i)]
theorem A0p (nm:List UInt8→Bool) (l:List Ex):∀ i,(tab nm l i).length=i
 | 0=>rfl
 | i+1=>by rw [tab,List.length_append,A0p nm l i];rfl
theorem B3d {α:Type} {r:List α} {d p:α} {j:Nat} (h:j < r.length):(r++[p]).getD j d=r.getD j d:=by
 simp [List.getD,List.getElem?_append_left h]
theorem B3c {α:Type} {r:List α} {d p:α}:(r++[p]).getD r.length d=p:=by
 simp [List.getD]
theorem B5b {nm:List UInt8→Bool} {x:Ex} {i:Nat} {r:List (Int × Int)} (h:∀ j:Nat,j < i→0≤(r.getD j (0,0)).1∧(r.getD j (0,0)).1≤j+1∧0≤(r.getD j (0,0)).2∧(r.getD j (0,0)).2≤j+1) :
  0≤(V7 nm x i r).1∧(V7 nm x i r).1≤i+1∧0≤(V7 nm x i r).2∧(V7 nm x i r).2≤i+1:=by
 unfold V7
 split
 ·simp only [];omega
 split
 ·simp only [];omega
 rename_i h1 h2
 have hp:=h (i - 1) (by omega)
 generalize r.getD (i - 1) (0,0)=p at *
 split
 ·split
  ·simp only [];omega
  ·simp only [];omega
 ·split
  ·rename_i h4
   have hq:=h ((i:Int) - 1 - p.1).toNat (by omega)
   generalize r.getD ((i:Int) - 1 - p.1).toNat (0,0)=q at *
   simp only []
   omega
  ·simp only [];omega
theorem A2a (nm:List UInt8→Bool) (l:List Ex):∀ i j:Nat,j < i→0≤((tab nm l i).getD j (0,0)).1∧((tab nm l i).getD j (0,0)).1≤j+1∧0≤((tab nm l i).getD j (0,0)).2∧((tab nm l i).getD j (0,0)).2≤j+1
 | 0,j,h=>by omega
 | i+1,j,h=>by
  have hl:=A0p nm l i
  rw [tab]
  by_cases hj:j < i
  ·rw [B3d (by omega)]
   exact A2a nm l i j hj
  ·rw [show j=(tab nm l i).length by omega,B3c,hl]
   exact B5b (A2a nm l i)
def col (f:Int × Int→Int) (r:List (Int × Int)) (n:Nat):List AV:=r.map (fun p=>.int .i64 (f p))++List.replicate (n - r.length) (.int .i64 0)
theorem B96 {f:Int × Int→Int} {r:List (Int × Int)} {n:Nat} (h:r.length≤n):(col f r n).length=n:=by simp [col];omega
theorem A4g {f:Int × Int→Int} (hf:f (0,0)=0) {r:List (Int × Int)} {n j m:Nat} (h:j < n) (hr:r.length≤n) (hm:m=j):(col f r n).drop m=.int .i64 (f (r.getD j (0,0)))::(col f r n).drop (j+1):=by
 subst hm
 rw [List.drop_eq_getElem_cons (by rw [B96 hr];exact h)]
 refine G6 ?_ rfl
 simp only [col]
 by_cases hj:m < r.length
 ·rw [List.getElem_append_left (by simpa using hj)]
  simp [List.getD,hj]
 ·rw [List.getElem_append_right (by simp;omega)]
  simp [List.getD,List.getElem?_eq_none (Nat.le_of_not_lt hj),hf]
theorem C68 {f:Int × Int→Int} {r:List (Int × Int)} {n i m k:Nat} {p:Int × Int} {v:Int} (h:r.length=i) (hi:i < n) (hm:m=i) (hk:k=i+1) (hv:v=f p) :
  (col f r n).take m++[.int .i64 v]++(col f r n).drop k=col f (r++[p]) n:=by
 subst hm hk hv h
 unfold col
 rw [List.take_append_of_le_length (by simp),List.take_of_length_le (by simp),List.drop_append,List.drop_of_length_le (by simp)]
 simp only [List.length_map,List.map_append,List.map_cons,List.map_nil,List.nil_append,List.length_append,List.length_cons,List.length_nil,List.drop_replicate]
 rw [show n - r.length - (r.length+1 - r.length)=n - (r.length+(0+1)) by omega]
theorem B6g {f:Int × Int→Int} {r:List (Int × Int)} {n:Nat} {p:Int × Int} (h:r.length < n) (hp:f p=0):col f r n=col f (r++[p]) n:=by
 unfold col
 simp only [List.map_append,List.map_cons,List.map_nil,List.length_append,List.length_cons,List.length_nil,hp,List.append_assoc,List.singleton_append]
 rw [show n - r.length=(n - (r.length+(0+1)))+1 by omega,List.replicate_succ]
theorem A1z {P:Program} {T:TypeId} {cs cs':List AV} {K:AV→Prop} (h:cs=cs') (hk:A1y P T cs' K):A1y P T cs K:=h ▸ hk
theorem C12 (n:Nat) (z:AV):(List.replicate n [z]).flatten=List.replicate n z:=by
 induction n with
 | zero=>rfl
 | succ n ih=>rw [List.replicate_succ,List.flatten_cons,ih,List.replicate_succ];rfl
structure Szc (s s':Sto) (b1 b2:Nat) (c1 c2:List AV):Prop where
 ne:b1≠b2
 size:s'.bx b1=some (3,c1)
 depth:s'.bx b2=some (3,c2)
 sub:Sub s s'
 none1:s.bx b1=none
 none2:s.bx b2=none
theorem W5 {cs cs':List AV} {K:List AV→Prop} (h:cs=cs') (hk:K cs'):A2v cs K:=by rw [C8,h];exact hk
theorem C5y (nm:List UInt8→Bool) (t:Nat) (l:List Ex) (hl:l.length≤1000000) (hn:∀ x ∈ l,A8 Tryz.prog Γ 80 [.str x.2.2.2.1] fun v=>v=.bool (nm x.2.2.2.1)) (s:Sto) :
  A2 Tryz.prog Γ 101 [.slice t (l.map exA)] s fun v s'=>∃ b1 b2,v=.tuple [.raw (some ⟨b1,0,none⟩) l.length l.length,.raw (some ⟨b2,0,none⟩) l.length l.length]∧Szc s s' b1 b2 (col Prod.fst (tab nm l l.length) l.length) (col Prod.snd (tab nm l l.length) l.length):=by
 have hml:(l.map exA).length=l.length:=List.length_map ..
 have hroom:((8:Nat):Int) * ((l.map exA).length:Int)≤281474976710656:=by omega
 refine acs Tryz.func101 ?_
 refine wr ?_;(refine ⟨hroom,?_⟩);refine wr ?_
 intro b1 hb1
 refine wr ?_;(refine ⟨hroom,?_⟩);refine wr ?_
 intro b2 hb2
 refine wr ?_
 refine AWp.loopA [15] [16,17,18,19,5,4,20,21,22,23,24,25,26,27,28,29,30,31,32,33,34,35,36,37,38,39,40,41,42,43,44,45,46,47,48,49,50,51,52,53,54,55,56,57,58,59,60,61,62,63,64,65,66,67,68,69,70,71,72,73,74,75,76,77,78,79,80,81,82,83,84,85,86,87,88,89,90,91,92,93,94,95,96,97,6,98,99,100,101,102,103,104,105,106,107,108,109,110,111,112,113,114,115,116,117,118,119,120,121,122,123,124,125,126,127,128,129,130,131,132,133,134,135,136,137,138,139,140,141,142,143,144,145,146,147,148] (fun i:Nat=>[.int .i64 i]) (fun i s'=>i≤l.length∧Szc s s' b1 b2 (col Prod.fst (tab nm l i) l.length) (col Prod.snd (tab nm l i) l.length)) (fun i=>l.length - i) (0) (by kernel_rfl) (eqa) ?_ ?_
 ·refine ⟨by omega,?_⟩
  obtain ⟨h1,h2⟩:=N0 hb2
  have hz:∀ f:Int × Int→Int,(List.replicate ((l.map exA).length:Int).toNat [AV.int .i64 0]).flatten=col f (tab nm l 0) l.length:=fun f=>by
   rw [C12,Int.toNat_natCast,hml];rfl
  exact ⟨fun h=>h1 h.symm,((A4 (fun h=>h1 h.symm)).trans A3).trans (by rw [hz]),A3.trans (by rw [hz]),((Sub.refl _).set hb1 _ _).set h2 _ _,hb1,h2⟩
 ·rintro q i s1 ⟨hi,hz⟩
  conv=>whnf
  have hga:=fun h:i < l.length=>B9 (f:=exA) (l:=l) A5q h
  have htab:tab nm l (i+1)=tab nm l i++[V7 nm (l.getD i A5q) i (tab nm l i)]:=rfl
  have htl:=A0p nm l i
  have hbd:=A2a nm l i
  have hnx:=fun h:i < l.length=>hn (l.getD i A5q) (D4 A5q h)
  by_cases hlt:i < l.length
  ·have hga:=hga hlt
   have hnx:=hnx hlt
   generalize l.getD i A5q=x at *
   generalize tab nm l i=r at *
   repeat' ((first|exact pru|(refine brS (fun h=>?_) (fun h=>?_)<;>(try rw [h])<;>(try simp only [bS,↓reduceIte] at h))|(rw [show (l.map exA).getD ((i:Int)).toNat []=_ from hga])|refine gS ?_|refine aA ?_|refine nA ?_|fail)<;>(conv=>whnf))
   intro c hc
   conv=>whnf
   refine B5 A3 ?_
   have n1:=A1 hz.size hc
   have n2:=A1 hz.depth hc
   have h5:=hz.sub.none hc
   have g1:=fun (T:TypeId) (x y:List AV)=>(A4 (s:=s1.set c T x) (T:=T) (cs:=y) n1).trans ((A4 n1).trans hz.size)
   have g2:=fun (T:TypeId) (x y:List AV)=>(A4 (s:=s1.set c T x) (T:=T) (cs:=y) n2).trans ((A4 n2).trans hz.depth)
   have st:=fun (f:Int × Int→Int) (P:Int × Int) (v:Int) (m k:Nat) (hv:v=f P) (hm:m=i) (hk:k=i+1)=>C68 (f:=f) (r:=r) (n:=l.length) (p:=P) (v:=v) htl hlt hm hk hv
   have ln:=fun f:Int × Int→Int=>B96 (f:=f) (r:=r) (n:=l.length) (by omega)
   have zero:V7 nm x i r=(0,0)→∀ (T:TypeId) (y z:List AV),Szc s ((s1.set c T y).set c T z) b1 b2 (col Prod.fst (tab nm l (i+1)) l.length) (col Prod.snd (tab nm l (i+1)) l.length):=fun h0 T y z=>by
    rw [htab,h0]
    exact ⟨hz.ne,(g1 _ _ _).trans (by rw [B6g (p:=(0,0)) (by omega) rfl]),(g2 _ _ _).trans (by rw [B6g (p:=(0,0)) (by omega) rfl]),(hz.sub.set h5 _ _).set h5 _ _,hz.none1,hz.none2⟩
   have put:∀ P,V7 nm x i r=P→∀ (T T':TypeId) (y z:List AV),T'=3→Szc s ((((s1.set c T y).set c T z).set b1 T' (col Prod.fst (r++[P]) l.length)).set b2 T' (col Prod.snd (r++[P]) l.length)) b1 b2 (col Prod.fst (tab nm l (i+1)) l.length) (col Prod.snd (tab nm l (i+1)) l.length):=fun P h0 T T' y z hT=>by
    subst hT
    rw [htab,h0]
    exact ⟨hz.ne,(A4 hz.ne).trans A3,A3,(((hz.sub.set h5 _ _).set h5 _ _).set hz.none1 _ _).set hz.none2 _ _,hz.none1,hz.none2⟩
   by_cases hlo:B05 nm x=true
   ·have hl1:A8 Tryz.prog Γ 140 [.agg (exA x)] fun v=>v=.bool true:=hlo ▸ C0n nm x hnx
    refine wr ?_
    refine B5 (g1 _ _ _) ?_
    refine ⟨rfl,rfl,by show 0+((i:Nat):Int).toNat * 1+1≤_;rw [ln];omega,W5 (st Prod.fst (1,1) _ _ _ rfl (by show 0+((i:Nat):Int).toNat * 1=i;omega) (by show 0+((i:Nat):Int).toNat * 1+1=i+1;omega)) ?_⟩
    refine wr ?_
    refine B5 ((A4 (fun h=>hz.ne h.symm)).trans (g2 _ _ _)) ?_
    refine ⟨rfl,rfl,by show 0+((i:Nat):Int).toNat * 1+1≤_;rw [ln];omega,W5 (st Prod.snd (1,1) _ _ _ rfl (by show 0+((i:Nat):Int).toNat * 1=i;omega) (by show 0+((i:Nat):Int).toNat * 1+1=i+1;omega)) ?_⟩
    refine wr ?_
    exact ⟨i+1,eqa,B8,⟨by omega,put (1,1) (by unfold V7;rw [if_pos hlo]) _ _ _ _ rfl⟩,by omega⟩
   have hlo':B05 nm x=false:=by simpa using hlo
   have hl0:A8 Tryz.prog Γ 140 [.agg (exA x)] fun v=>v=.bool false:=hlo' ▸ C0n nm x hnx
   have hev:=C4b x.2.2.2.2.1 H9
   simp only [H9] at hev
   by_cases hi0:i=0
   ·repeat' ((first|exact pru|(refine brS (fun h=>?_) (fun h=>?_)<;>(try rw [h])<;>(try simp only [bS,↓reduceIte] at h))|(refine B5 A3 ?_)|(refine A2.pure' ?_ (hl0);rintro _ rfl)|refine A7.pure ?_ (hl0)|(refine P9.of B6t B1e ?_)|refine gS ?_|refine aA ?_|refine nA ?_|fail)<;>(conv=>whnf))
    all_goals exact ⟨i+1,eqa,B8,⟨by omega,zero (by unfold V7;rw [if_neg hlo,if_pos (by simp [hi0])]) _ _ _⟩,by omega⟩
   obtain ⟨p,hp⟩:∃ p,r.getD (i - 1) (0,0)=p:=⟨_,rfl⟩
   have hpb:=hbd (i - 1) (by omega)
   rw [hp] at hpb
   obtain ⟨a,ha⟩:∃ a:Int,a=(i:Int) - 1 - p.1:=⟨_,rfl⟩
   obtain ⟨q,hq⟩:∃ q,r.getD a.toNat (0,0)=q:=⟨_,rfl⟩
   have hqb:=fun h:0≤a=>hbd a.toNat (by omega)
   rw [hq] at hqb
   have hnode:V7 nm x i r=if B05 nm x=true then (1,1) else if x.1 < 4∨16 < x.1∨x.2.2.2.1≠[]∨x.2.2.2.2.1≠H9∨i=0∨p.1=0 then (0,0) else if x.1≤5 then (if x.2.1=(i:Int) - 1∧x.2.2.1=0 then (p.1+1,p.2+1) else (0,0)) else if x.2.2.1=(i:Int) - 1∧x.2.1=a∧0≤a∧0 < q.1 then (q.1+p.1+1,max q.2 p.2+1) else (0,0):=by
    unfold V7;rw [hp,← ha,hq]
   have hw1:IntKind.i64.wrap ((i:Int) - 1)=((i - 1:Nat):Int):=D5 (by omega) (by omega) (by omega)
   have hwa:IntKind.i64.wrap (((i - 1:Nat):Int) - p.1)=a:=D5 (by omega) (by omega) (by omega)
   have ld1:∀ m,m=i - 1→(col Prod.fst r l.length).drop m=.int .i64 p.1::(col Prod.fst r l.length).drop (i - 1+1):=fun m hm=>hp ▸ A4g rfl (by omega) (by omega) hm
   have ld2:∀ m,m=i - 1→(col Prod.snd r l.length).drop m=.int .i64 p.2::(col Prod.snd r l.length).drop (i - 1+1):=fun m hm=>hp ▸ A4g rfl (by omega) (by omega) hm
   have la1:0≤a→∀ m,m=a.toNat→(col Prod.fst r l.length).drop m=.int .i64 q.1::(col Prod.fst r l.length).drop (a.toNat+1):=fun h m hm=>hq ▸ A4g rfl (by omega) (by omega) hm
   have la2:0≤a→∀ m,m=a.toNat→(col Prod.snd r l.length).drop m=.int .i64 q.2::(col Prod.snd r l.length).drop (a.toNat+1):=fun h m hm=>hq ▸ A4g rfl (by omega) (by omega) hm
   repeat' ((first|exact pru|(refine brS (fun h=>?_) (fun h=>?_)<;>(try rw [h])<;>(try simp only [bS,↓reduceIte] at h))|(refine B5 A3 ?_)|(refine A2.pure' ?_ (hl0);rintro _ rfl)|refine A7.pure ?_ (hl0)|(refine P9.of B6t B1e ?_)|(rw [hw1])|(refine B5 (g1 _ _ _) (A1z (ld1 _ (by show 0+((i - 1:Nat):Int).toNat * 1=i - 1;omega)) ?_))|(refine B5 (g2 _ _ _) (A1z (ld2 _ (by show 0+((i - 1:Nat):Int).toNat * 1=i - 1;omega)) ?_))|(rw [hwa])|(refine B5 (g1 _ _ _) (A1z (la1 (by omega) _ (by show 0+a.toNat * 1=a.toNat;omega)) ?_))|(refine B5 (g2 _ _ _) (A1z (la2 (by omega) _ (by show 0+a.toNat * 1=a.toNat;omega)) ?_))|refine gS ?_|refine aA ?_|refine nA ?_|fail)<;>(conv=>whnf))
   all_goals try exact ⟨i+1,eqa,B8,⟨by omega,zero (by rw [hnode];clear hn hz hc g1 g2 st ln zero put ld1 ld2 la1 la2;grind [H9]) _ _ _⟩,by omega⟩
   ·refine B5 (g1 _ _ _) ?_
    refine ⟨rfl,rfl,by show 0+((i:Nat):Int).toNat * 1+1≤_;rw [ln];omega,W5 (st Prod.fst (p.1+1,p.2+1) _ _ _ (D5 rfl (by simp only [];omega) (by simp only [];omega)) (by show 0+((i:Nat):Int).toNat * 1=i;omega) (by show 0+((i:Nat):Int).toNat * 1+1=i+1;omega)) ?_⟩
    refine wr ?_
    refine B5 ((A4 (fun h=>hz.ne h.symm)).trans (g2 _ _ _)) ?_
    refine ⟨rfl,rfl,by show 0+((i:Nat):Int).toNat * 1+1≤_;rw [ln];omega,W5 (st Prod.snd (p.1+1,p.2+1) _ _ _ (D5 rfl (by simp only [];omega) (by simp only [];omega)) (by show 0+((i:Nat):Int).toNat * 1=i;omega) (by show 0+((i:Nat):Int).toNat * 1+1=i+1;omega)) ?_⟩
    refine wr ?_
    exact ⟨i+1,eqa,B8,⟨by omega,put (p.1+1,p.2+1) (by rw [hnode];clear hn hz hc g1 g2 st ln zero put ld1 ld2 la1 la2;grind [H9]) _ _ _ _ rfl⟩,by omega⟩
   ·refine B5 (g1 _ _ _) ?_
    refine ⟨rfl,rfl,by show 0+((i:Nat):Int).toNat * 1+1≤_;rw [ln];omega,W5 (st Prod.fst (q.1+p.1+1,max q.2 p.2+1) _ _ _ (by rw [D5 (b:=q.1+p.1) rfl (by omega) (by omega)];exact D5 rfl (by simp only [];omega) (by simp only [];omega)) (by show 0+((i:Nat):Int).toNat * 1=i;omega) (by show 0+((i:Nat):Int).toNat * 1+1=i+1;omega)) ?_⟩
    refine wr ?_
    refine B5 ((A4 (fun h=>hz.ne h.symm)).trans (g2 _ _ _)) ?_
    refine ⟨rfl,rfl,by show 0+((i:Nat):Int).toNat * 1+1≤_;rw [ln];omega,W5 (st Prod.snd (q.1+p.1+1,max q.2 p.2+1) _ _ _ (D5 (by show (if p.2 > q.2 then p.2 else q.2)+1=max q.2 p.2+1;split<;>omega) (by simp only [];omega) (by simp only [];omega)) (by show 0+((i:Nat):Int).toNat * 1=i;omega) (by show 0+((i:Nat):Int).toNat * 1+1=i+1;omega)) ?_⟩
    refine wr ?_
    exact ⟨i+1,eqa,B8,⟨by omega,put (q.1+p.1+1,max q.2 p.2+1) (by rw [hnode];clear hn hz hc g1 g2 st ln zero put ld1 ld2 la1 la2;grind [H9]) _ _ _ _ rfl⟩,by omega⟩
  ·have h0:i=l.length:=by omega
   subst h0
   refine wp ?_
   have e:((l.map exA).length:Int).toNat=l.length:=by rw [Int.toNat_natCast,hml]
   exact ⟨s1,Sub.refl _,b1,b2,by rw [e];rfl,hz⟩
end Go.Proofs.YtaammejliikieaaGreatDoor.Tr
namespace Go.Proofs
open Go.Shelf
def Tryz.lays143_ren:Go.Shelf.Ren:=⟨fun|143=>221|219=>239|217=>218|225=>247|224=>248|267=>249|266=>238|314=>267|n=>n,fun|9=>9|3=>3|4=>4|5=>5|46=>361|146=>377|51=>376|n=>n,fun|1=>2|n=>n⟩
theorem Tryz.lays143:Go.Proofs.Lays.n143 Tryz.prog Tryz.lays143_ren:={
 mixed:=by kernel_rfl
 f143:=Tryz.func221.trans (congrArg some (by kernel_rfl))
 f217:=Tryz.func218.trans (congrArg some (by kernel_rfl))
 f219:=Tryz.func239.trans (congrArg some (by kernel_rfl))
 f224:=Tryz.func248.trans (congrArg some (by kernel_rfl))
 f225:=Tryz.func247.trans (congrArg some (by kernel_rfl))
 f266:=Tryz.func238.trans (congrArg some (by kernel_rfl))
 f267:=Tryz.func249.trans (congrArg some (by kernel_rfl))
 f314:=Tryz.func267.trans (congrArg some (by kernel_rfl))
 t3:=Tryz.underlying3
 a3:=Tryz.isAgg3
 z3:=Tryz.sizeOf3
 v3:=Tryz.zeroValue3
 t4:=Tryz.underlying4
 a4:=Tryz.isAgg4
 z4:=Tryz.sizeOf4
 v4:=Tryz.zeroValue4
 t5:=Tryz.underlying5
 a5:=Tryz.isAgg5
 z5:=Tryz.sizeOf5
 v5:=Tryz.zeroValue5
 t9:=Tryz.underlying9
 a9:=Tryz.isAgg9
 z9:=Tryz.sizeOf9
 v9:=Tryz.zeroValue9
 t46:=Tryz.underlying361
 a46:=Tryz.isAgg361
 z46:=Tryz.sizeOf361
 v46:=Tryz.zeroValue361
 t51:=Tryz.underlying376
 a51:=Tryz.isAgg376
 z51:=Tryz.sizeOf376
 v51:=Tryz.zeroValue376
 t146:=Tryz.underlying377
 a146:=Tryz.isAgg377
 z146:=Tryz.sizeOf377
 v146:=Tryz.zeroValue377
 g1:=by kernel_rfl }
open Go.RowKit Go.Lib in
theorem Tryz.strings_Index_one (s:ByteArray) (c:UInt8) (w:World) :
  Calls Tryz.prog 221 #[.string s,.string ⟨#[c]⟩] w fun e w'=>e=.returned (.int .i64 (Lib.indexByte s.data.toList c))∧w'=w:=Any.strings_Index_one Tryz.lays143 s c w
def Tryz.lays138_ren:Go.Shelf.Ren:=⟨fun|138=>194|195=>219|218=>220|143=>221|219=>239|217=>218|225=>247|224=>248|267=>249|266=>238|314=>267|n=>n,fun|9=>9|3=>3|4=>4|5=>5|0=>0|46=>361|146=>377|51=>376|n=>n,fun|1=>2|n=>n⟩
theorem Tryz.lays138:Go.Proofs.Lays.n138 Tryz.prog Tryz.lays138_ren:={
 mixed:=by kernel_rfl
 f138:=Tryz.func194.trans (congrArg some (by kernel_rfl))
 f143:=Tryz.func221.trans (congrArg some (by kernel_rfl))
 f195:=Tryz.func219.trans (congrArg some (by kernel_rfl))
 f217:=Tryz.func218.trans (congrArg some (by kernel_rfl))
 f218:=Tryz.func220.trans (congrArg some (by kernel_rfl))
 f219:=Tryz.func239.trans (congrArg some (by kernel_rfl))
 f224:=Tryz.func248.trans (congrArg some (by kernel_rfl))
 f225:=Tryz.func247.trans (congrArg some (by kernel_rfl))
 f266:=Tryz.func238.trans (congrArg some (by kernel_rfl))
 f267:=Tryz.func249.trans (congrArg some (by kernel_rfl))
 f314:=Tryz.func267.trans (congrArg some (by kernel_rfl))
 t0:=Tryz.underlying0
 a0:=Tryz.isAgg0
 z0:=Tryz.sizeOf0
 v0:=Tryz.zeroValue0
 t3:=Tryz.underlying3
 a3:=Tryz.isAgg3
 z3:=Tryz.sizeOf3
 v3:=Tryz.zeroValue3
 t4:=Tryz.underlying4
 a4:=Tryz.isAgg4
 z4:=Tryz.sizeOf4
 v4:=Tryz.zeroValue4
 t5:=Tryz.underlying5
 a5:=Tryz.isAgg5
 z5:=Tryz.sizeOf5
 v5:=Tryz.zeroValue5
 t9:=Tryz.underlying9
 a9:=Tryz.isAgg9
 z9:=Tryz.sizeOf9
 v9:=Tryz.zeroValue9
 t46:=Tryz.underlying361
 a46:=Tryz.isAgg361
 z46:=Tryz.sizeOf361
 v46:=Tryz.zeroValue361
 t51:=Tryz.underlying376
 a51:=Tryz.isAgg376
 z51:=Tryz.sizeOf376
 v51:=Tryz.zeroValue376
 t146:=Tryz.underlying377
 a146:=Tryz.isAgg377
 z146:=Tryz.sizeOf377
 v146:=Tryz.zeroValue377
 g1:=by kernel_rfl }
open Go.RowKit Go.Lib in
theorem Tryz.strings_Count_one (s:ByteArray) (c:UInt8) (w:World) :
  Calls Tryz.prog 194 #[.string s,.string ⟨#[c]⟩] w fun e w'=>e=.returned (.int .i64 (Lib.countByte s.data.toList c))∧w'=w:=Any.strings_Count_one Tryz.lays138 s c w
def Tryz.laysGw15_ren:Go.Shelf.Ren:=⟨fun|15=>184|20=>212|n=>n,fun|9=>9|23=>307|3=>3|4=>4|0=>0|21=>21|n=>n,fun|n=>n⟩
theorem Tryz.laysGw15:Go.Proofs.LaysGw.n15 Tryz.prog Tryz.laysGw15_ren:={
 mixed:=by kernel_rfl
 f15:=Tryz.func184.trans (congrArg some (by kernel_rfl))
 f20:=Tryz.func212.trans (congrArg some (by kernel_rfl))
 t0:=Tryz.underlying0
 a0:=Tryz.isAgg0
 z0:=Tryz.sizeOf0
 v0:=Tryz.zeroValue0
 i0:=by kernel_rfl
 t3:=Tryz.underlying3
 a3:=Tryz.isAgg3
 z3:=Tryz.sizeOf3
 v3:=Tryz.zeroValue3
 i3:=by kernel_rfl
 t4:=Tryz.underlying4
 a4:=Tryz.isAgg4
 z4:=Tryz.sizeOf4
 v4:=Tryz.zeroValue4
 i4:=by kernel_rfl
 t9:=Tryz.underlying9
 a9:=Tryz.isAgg9
 z9:=Tryz.sizeOf9
 v9:=Tryz.zeroValue9
 i9:=by kernel_rfl
 t21:=Tryz.underlying21
 a21:=Tryz.isAgg21
 z21:=Tryz.sizeOf21
 v21:=Tryz.zeroValue21
 i21:=by kernel_rfl
 t23:=Tryz.underlying307
 a23:=Tryz.isAgg307
 z23:=Tryz.sizeOf307
 v23:=Tryz.zeroValue307
 i23:=by kernel_rfl }
open Go.RowKit Go.Lib in
theorem Tryz.strings_IndexFunc (g:Nat) (lb:Array Value) (eg:∀ args w,(callFunc g args).run Tryz.prog w=.ok (.enter g args) w) (p:Nat→Bool) (s:ByteArray) (w:World) (hp:PredAt Tryz.prog g lb encR p w) :
  Calls Tryz.prog 184 #[.string s,.func (.func g) #[] lb] w fun e w'=>e=.returned (.int .i64 (Lib.idxFunc p true s))∧Below w.heap.size w w':=Any.strings_IndexFunc Tryz.laysGw15 g lb eg p s w hp
def Tryz.laysNm215_ren:Go.Shelf.Ren:=⟨fun|15=>110|n=>n,fun|22=>35|3=>3|4=>4|n=>n,fun|n=>n⟩
theorem Tryz.laysNm215:Go.Proofs.Lays2.n15 Tryz.prog Tryz.laysNm215_ren:={
 mixed:=by kernel_rfl
 f15:=Tryz.func110.trans (congrArg some (by kernel_rfl))
 t3:=Tryz.underlying3
 a3:=Tryz.isAgg3
 z3:=Tryz.sizeOf3
 v3:=Tryz.zeroValue3
 t4:=Tryz.underlying4
 a4:=Tryz.isAgg4
 z4:=Tryz.sizeOf4
 v4:=Tryz.zeroValue4
 t22:=Tryz.underlying35
 a22:=Tryz.isAgg35
 z22:=Tryz.sizeOf35
 v22:=Tryz.zeroValue35
 i3:=by kernel_rfl }
open Go.RowKit Go.Lib in
theorem Tryz.slices_Clone_int (b off n c:Nat) (zs:List Int) (w:World) (hz:n≤zs.length) (hbig:n * 8≤140737488355328) (hc:∀ j,j < zs.length→w.cell? ⟨b,off+j,none⟩=some (.int .i64 (zs.getD j 0))) :
  Calls Tryz.prog 110 #[.slice (some ⟨b,off,none⟩) n c] w fun e w'=>∃ v',e=.returned v'∧w'.ownsRow w.heap.size 3 1 v' n ((zs.take n).map (Value.int .i64))∧v'≠.slice none 0 0∧Below w.heap.size w w':=Any.slices_Clone_int Tryz.laysNm215 b off n c zs w hz hbig hc
open Go.RowKit Go.Lib in
theorem Tryz.slices_Clone_int_nil (n c:Nat) (w:World) :
  Calls Tryz.prog 110 #[.slice none n c] w fun e w'=>e=.returned (.slice none 0 0)∧w'=w:=Any.slices_Clone_int_nil Tryz.laysNm215 n c w
open Go.RowKit Go.Lib in
theorem Tryz.slices_Clone_int_zero (a:Addr) (c:Nat) (w:World) :
  Calls Tryz.prog 110 #[.slice (some a) 0 c] w fun e w'=>∃ v',e=.returned v'∧w'.ownsRow w.heap.size 3 1 v' 0 []∧v'≠.slice none 0 0∧Below w.heap.size w w':=Any.slices_Clone_int_zero Tryz.laysNm215 a c w
end Go.Proofs
namespace Go.Proofs.YtaammejliikieaaGreatDoor.Sc
open Go Go.Ab Go.RowKit
variable {Γ:Nat→AV}
def T9 (n:Int):Bool:=decide (n=95) || (decide (48≤n) && decide (n≤57)) || (decide (65≤n) && decide (n≤90)) || (decide (97≤n) && decide (n≤122))
theorem B15 {n:Int} (h:128≤n):T9 n=false:=by
 simp [T9];omega
theorem D0a (x:Nat) (W:World):FnGives Tryz.prog 183 #[] #[encR x] (.bool (!T9 x)) W:=by
 unfold FnGives encR
 go_enter Tryz.func183,Tryz.ntmps183
 go_wp2
 all_goals go_ret
 all_goals refine ⟨congrArg (fun b=>Ending.returned (Value.bool b)) ?_,0,rfl⟩
 all_goals grind [T9]
theorem C19 (l:List UInt8):Lib.idxFunc (fun x=>!T9 x) true ⟨l.toArray⟩ < 0↔(l.all fun c=>T9 c.toNat)=true:=by
 have key:∀ (f pos:Nat),l.length≤pos+f→(Lib.idxFuncFrom (fun x=>!T9 x) true ⟨l.toArray⟩ f pos < 0↔((l.drop pos).all fun c=>T9 c.toNat)=true):=by
  intro f
  induction f with
  | zero =>
   intro pos h
   rw [C0 (by omega)]
   simp [Lib.idxFuncFrom]
  | succ f ih =>
   intro pos h
   simp only [Lib.idxFuncFrom]
   have hsz:(⟨l.toArray⟩:ByteArray).size=l.length:=rfl
   by_cases hp:pos < l.length
   ·rw [if_pos (by rw [hsz];exact hp),X3 hp]
    have hget:((⟨l.toArray⟩:ByteArray)[pos]'(by rw [hsz];exact hp))=B0 l pos:=by
     simp [B0,List.getD,hp]
     rfl
    by_cases ha:(B0 l pos).toNat < 128
    ·have hd:=decode_ascii ⟨l.toArray⟩ pos (by rw [hsz];exact hp) (by rw [hget];exact ha)
     rw [hget] at hd
     rw [hd]
     simp only [List.all_cons]
     cases hw:T9 ((B0 l pos).toNat:Int) with
     | true =>
      simp only [Bool.not_true,Bool.false_eq_true,if_false,Bool.true_and]
      exact ih (pos+1) (by omega)
     | false=>simp
    ·have hd:=decode_high ⟨l.toArray⟩ pos (by rw [hsz];exact hp) (by rw [hget];omega)
     have h1:T9 ((Utf8.decode ⟨l.toArray⟩ pos).1:Int)=false:=B15 (by omega)
     have h2:T9 ((B0 l pos).toNat:Int)=false:=B15 (by omega)
     rw [if_pos (by rw [h1];rfl)]
     simp [h2]
   ·rw [if_neg (by rw [hsz];exact hp),C0 hp]
    simp
 have:=key l.length 0 (by omega)
 rw [List.drop_zero] at this
 exact this
theorem A6u (l:List UInt8):A8 Tryz.prog Γ 184 [.str l,.func (.func 183) [] []] fun v=>v=.int .i64 (Lib.idxFunc (fun x=>!T9 x) true ⟨l.toArray⟩):=by
 intro s
 refine A2.of_below fun G w vs hm hr=>?_
 obtain ⟨u,us,rfl,hu,hus⟩:=A9.1 hr
 obtain ⟨u1,us1,rfl,hu1,hus1⟩:=A9.1 hus
 rw [B4] at hus1;subst hus1
 rw [M3] at hu;subst hu
 obtain ⟨a,b,rfl,ha,hb⟩:=A5e.1 hu1
 rw [B4] at ha hb
 obtain rfl:a = #[]:=by cases a;simp_all
 obtain rfl:b = #[]:=by cases b;simp_all
 exact ⟨_,fun G' w'=>F5.2 rfl,Tryz.strings_IndexFunc 183 #[] (enters_of Tryz.func183 (by kernel_rfl) rfl) (fun x=>!T9 x) ⟨l.toArray⟩ w fun W x _=>D0a x W⟩
attribute [local irreducible] A8 Sto.set Sto.grow
def spelt (l:List UInt8):Bool:=decide (1≤l.length) && decide (l.length≤32) && !(decide (48≤(B0 l 0).toNat) && decide ((B0 l 0).toNat≤57)) && l.all fun c=>T9 c.toNat
theorem C4 {a b:Bool} (h:a=b):AV.bool a=.bool b:=by rw [h]
theorem B7u {l:List UInt8} (h1:(48:Int)≤(B0 l 0).toNat) (h2:((B0 l 0).toNat:Int)≤57):spelt l=false:=by
 simp [spelt];intro _ _ h;omega
theorem B1q {l:List UInt8} (h1:1≤l.length) (h2:l.length≤32) (h3:¬ ((48:Int)≤(B0 l 0).toNat∧((B0 l 0).toNat:Int)≤57)):spelt l=l.all fun c=>T9 c.toNat:=by
 unfold spelt
 rw [decide_eq_true h1,decide_eq_true h2]
 have:(decide (48≤(B0 l 0).toNat) && decide ((B0 l 0).toNat≤57))=false:=by
  rw [← Bool.not_eq_true,Bool.and_eq_true,decide_eq_true_iff,decide_eq_true_iff];omega
 rw [this]
 rfl
theorem Z9 (l:List UInt8):A8 Tryz.prog Γ 129 [.str l] fun v=>v=.bool (spelt l):=by
 have hb:decide (Lib.idxFunc (fun x=>!T9 x) true ⟨l.toArray⟩ < 0)=l.all fun c=>T9 c.toNat:=by
  rw [Bool.eq_iff_iff,decide_eq_true_iff];exact C19 l
 rcases Nat.eq_zero_or_pos l.length with hz|hpos
 ·obtain rfl:=List.eq_nil_of_length_eq_zero hz
  refine aps Tryz.func129 ?_
  intro s
  refine wr ?_
  all_goals rfl
 refine aps Tryz.func129 ?_
 intro s
 conv=>whnf
 repeat' (first
  | (refine ⟨Sub.refl _,?_⟩)
  | (refine L3 (fun h=>?_) (fun h=>?_)<;>(try rw [h])<;>(try simp only [Bool.false_eq_true,Bool.true_eq_false,↓reduceIte,decide_eq_true_eq,decide_eq_false_iff_not,Bool.not_eq_true',Bool.not_eq_false'] at h)<;>(conv=>whnf))
  | (refine A2.pure' ?_ (A6u _);rintro _ rfl;conv=>whnf)
  | (refine A7.pure ?_ (A6u _);conv=>whnf)
  | (refine L4 ?_;conv=>whnf)
  | (refine AWp.any (by kernel_rfl) (by kernel_rfl) (by kernel_rfl) ?_;conv=>whnf)
  | (apply And.intro;(focus (first|omega|rfl|decide|exact Nat.le_of_ble_eq_true rfl|((repeat' (first|exact C3|refine all_cons ?_ ?_|rfl|fail));done)|(simp [-List.length_flatMap];done)|(simp [-List.length_flatMap];omega)|fail));conv=>whnf)
  | fail)
 all_goals simp only [show Int.toNat 0=0 from rfl,A1v] at *
 ·subst h;simp at hpos
 ·refine C4 ?_
  simp [spelt];omega
 ·exact C4 (B7u (by omega) (by omega)).symm
 ·refine C4 ?_
  rw [hb,B1q (by omega) (by omega) (by omega)]
 ·refine C4 ?_
  rw [hb,B1q (by omega) (by omega) (by omega)]
def B38:List (List UInt8):=[[97,99,99,101,112,116],[97,108,115,111],[97,110,100],[98,111,111,108],[100,111],[101,118,101,110,116],[101,120,105,115,116,115],[102,97,108,115,101],[102,111,114,97,108,108],[102,114,101,101],[105,102],[105,110,116],[110,101,120,116],[110,111,116],[111,110],[111,114],[113,101,97],[115,107,105,112],[115,116,97,114,116],[115,116,114,105,110,103],[116,111],[116,114,117,101]]
def A6t:List (List UInt8)→List UInt8→Int
 | [],_=>-1
 | b::l,s=>if s=b then 0 else if A6t l s = -1 then -1 else A6t l s+1
theorem C0i:∀ (l:List (List UInt8)) (s:List UInt8),-1≤A6t l s∧A6t l s < l.length
 | [],s=>by simp [A6t]
 | b::l,s=>by have:=C0i l s;simp only [A6t,List.length_cons];split<;>(try split)<;>omega
def A02 (i:Nat) (k:Int):Int:=if k = -1 then -1 else i+k
theorem X9 (t:Nat) (l:List (List UInt8)) (x:List UInt8) (hl:l.length≤140737488355328):A8 Tryz.prog Γ 213 [.slice t (J5 l),.str x] fun v=>v=.int .i64 (A6t l x):=by
 have hbl:=B3x l
 refine aps Tryz.func213 ?_
 intro s
 conv=>whnf
 refine AWp.loopA [8] [9,10,5,11,12,13,14,15,16,17,4,18] (fun i:Nat=>[.int .i64 i]) (fun i s'=>i≤l.length∧s'=s∧A6t l x=A02 i (A6t (l.drop i) x)) (fun i=>l.length - i) (0) (by kernel_rfl) (by (repeat' (first|refine G6 ?_ ?_|refine G2 ?_ ?_ ?_|rfl|omega))) ?_ ?_
 ·exact ⟨by omega,rfl,by simp [A02]⟩
 ·rintro y i _ ⟨hi,rfl,hp⟩
  conv=>whnf
  repeat' (first
   | (refine ⟨Sub.refl _,?_⟩)
   | (refine L3 (fun h=>?_) (fun h=>?_)<;>(try rw [h])<;>(try simp only [Bool.false_eq_true,Bool.true_eq_false,↓reduceIte,decide_eq_true_eq,decide_eq_false_iff_not,Bool.not_eq_true',Bool.not_eq_false'] at h)<;>(conv=>whnf))
   | (rw [B3w (by omega)];conv=>whnf)
   | (refine L4 ?_;conv=>whnf)
   | (refine AWp.any (by kernel_rfl) (by kernel_rfl) (by kernel_rfl) ?_;conv=>whnf)
   | (apply And.intro;(focus (first|omega|rfl|decide|exact Nat.le_of_ble_eq_true rfl|((repeat' (first|exact C3|refine all_cons ?_ ?_|rfl|fail));done)|(simp [-List.length_flatMap];done)|(simp [-List.length_flatMap];omega)|fail));conv=>whnf)
   | fail)
  ·simp only [Int.toNat_natCast] at h
   rw [hp,B6i (by omega),A6t,if_pos h]
   simp [A1v,A02]
  ·simp only [Int.toNat_natCast] at h
   refine ⟨i+1,by (repeat' (first|refine G6 ?_ ?_|refine G2 ?_ ?_ ?_|rfl|omega)),by (repeat (first|exact L0.refl _ _|refine L0.upd rfl ?_|refine L0.updL rfl ?_|refine L0.havoc rfl ?_)),⟨by omega,rfl,?_⟩,by omega⟩
   rw [hp,B6i (i:=i) (by omega),A6t,if_neg h]
   have:=C0i (l.drop (i+1)) x
   grind [A02]
  ·rw [hp,C0 (by omega)]
   simp [A1v,A02,A6t]
theorem Q0 (t:Nat) (l:List (List UInt8)) (x:List UInt8) (hl:l.length≤140737488355328):A8 Tryz.prog Γ 185 [.slice t (J5 l),.str x] fun v=>v=.bool (decide (0≤A6t l x)):=by
 refine aps Tryz.func185 ?_
 intro s
 refine wr ?_;(first|(refine A2.pure' ?_ (X9 _ _ _ hl);rintro _ rfl)|refine A7.pure ?_ (X9 _ _ _ hl));refine wr ?_
 rfl
end Go.Proofs.YtaammejliikieaaGreatDoor.Sc
namespace Go.Proofs.YtaammejliikieaaGreatDoor.Sc
open Go Go.Ab Go.RowKit
variable {Γ:Nat→AV}
attribute [local irreducible] A8 Sto.set Sto.grow
def Wds (Γ:Nat→AV):Prop:=Γ 1=.cptr (B38.map .str)
def B43 (l:List UInt8):Bool:=spelt l && decide (0≤A6t B38 l)
def L8 (l:List UInt8):Bool:=spelt l && !B43 l && !decide (l=[95])
theorem A20 (hT:Wds Γ) (l:List UInt8):A8 Tryz.prog Γ 130 [.str l] fun v=>v=.bool (B43 l):=by
 refine aps Tryz.func130 ?_
 intro s
 conv=>whnf
 repeat' (first
  | (refine ⟨Sub.refl _,?_⟩)
  | (refine L3 (fun h=>?_) (fun h=>?_)<;>(try rw [h])<;>(try simp only [Bool.false_eq_true,Bool.true_eq_false,↓reduceIte,decide_eq_true_eq,decide_eq_false_iff_not,Bool.not_eq_true',Bool.not_eq_false'] at h)<;>(conv=>whnf))
  | (refine A2.pure' ?_ (Z9 _);rintro _ rfl;conv=>whnf)
  | (refine A7.pure ?_ (Z9 _);conv=>whnf)
  | (rw [B0i,hT];conv=>whnf)
  | (refine A2.pure' ?_ (Q0 0 B38 _ (by decide));rintro _ rfl;conv=>whnf)
  | (refine A7.pure ?_ (Q0 0 B38 _ (by decide));conv=>whnf)
  | (refine L4 ?_;conv=>whnf)
  | (refine AWp.any (by kernel_rfl) (by kernel_rfl) (by kernel_rfl) ?_;conv=>whnf)
  | (apply And.intro;(focus (first|omega|rfl|decide|exact Nat.le_of_ble_eq_true rfl|((repeat' (first|exact C3|refine all_cons ?_ ?_|rfl|fail));done)|(simp [-List.length_flatMap];done)|(simp [-List.length_flatMap];omega)|fail));conv=>whnf)
  | fail)
 all_goals simp [A1v,B43, *]
theorem Q7 (hT:Wds Γ) (l:List UInt8):A8 Tryz.prog Γ 80 [.str l] fun v=>v=.bool (L8 l):=by
 refine aps Tryz.func80 ?_
 intro s
 conv=>whnf
 repeat' (first
  | (refine ⟨Sub.refl _,?_⟩)
  | (refine L3 (fun h=>?_) (fun h=>?_)<;>(try rw [h])<;>(try simp only [Bool.false_eq_true,Bool.true_eq_false,↓reduceIte,decide_eq_true_eq,decide_eq_false_iff_not,Bool.not_eq_true',Bool.not_eq_false'] at h)<;>(conv=>whnf))
  | (refine A2.pure' ?_ (Z9 _);rintro _ rfl;conv=>whnf)
  | (refine A7.pure ?_ (Z9 _);conv=>whnf)
  | (refine A2.pure' ?_ (A20 hT _);rintro _ rfl;conv=>whnf)
  | (refine A7.pure ?_ (A20 hT _);conv=>whnf)
  | (refine L4 ?_;conv=>whnf)
  | (refine AWp.any (by kernel_rfl) (by kernel_rfl) (by kernel_rfl) ?_;conv=>whnf)
  | (apply And.intro;(focus (first|omega|rfl|decide|exact Nat.le_of_ble_eq_true rfl|((repeat' (first|exact C3|refine all_cons ?_ ?_|rfl|fail));done)|(simp [-List.length_flatMap];done)|(simp [-List.length_flatMap];omega)|fail));conv=>whnf)
  | fail)
 all_goals simp [A1v,L8, *]
end Go.Proofs.YtaammejliikieaaGreatDoor.Sc
namespace Go.Proofs.YtaammejliikieaaGreatDoor.Tr
open Go Go.Ab Go.RowKit
variable {Γ:Nat→AV}
attribute [local irreducible] A8 Sto.set Sto.grow
def nd (nm:List UInt8→Bool) (l:List Ex) (i:Nat):Int × Int:=(tab nm l l.length).getD i (0,0)
theorem C4z (nm:List UInt8→Bool) (l:List Ex) {i:Nat} (h:i < l.length):0≤(nd nm l i).1∧(nd nm l i).1≤i+1∧0≤(nd nm l i).2∧(nd nm l i).2≤i+1:=A2a nm l l.length i h
end Go.Proofs.YtaammejliikieaaGreatDoor.Tr
