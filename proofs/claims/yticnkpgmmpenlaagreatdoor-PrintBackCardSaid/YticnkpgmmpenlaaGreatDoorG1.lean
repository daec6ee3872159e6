/- Part 1 of what the closing text needs: Fg1, Fg2, Fg3, Fg4, Kp1, Co1, Co2, Ix1, Shelf, ScA, ScB, QuA, Bd1, QuB, QuC, QuD, QuE, QuP, QuF, LxA, LxB, Sp1, LxC, LxD, LxE, AsO, LxF, LxG, LxH, Mp1, Er1. No condition of mine beyond those that the theorems name. -/
import Derived.Test.YticnkpgmmpenlaaGreatDoorAb23
import Derived.Laws.AppendOwn
import Derived.Below
import Derived.Test.YticnkpgmmpenlaaGreatDoorChecked
import Derived.Lib.Bytealg
import Derived.Laws.Externs
import Derived.Shelf.Strings.Builder1
import Derived.Shelf.Strings.Builder2
import Derived.Shelf.Strings.OnBuilder
import Derived.Shelf.Strings.Trim
import Derived.Shelf.Small.Utf8
import Derived.Shelf.Small.Strs
import Derived.Shelf.Strings.BuilderF
import Derived.Shelf.Utf8.RuneCount
import Derived.Shelf.Strconv.Itoa0
import Derived.Shelf.Strconv.Itoa1
import Derived.Shelf.LaysM
import Derived.Shelf.Strconv.Itoa2
import Derived.Shelf.Strconv.Itoa3
import Derived.Shelf.Strconv.Itoa4
import Derived.Shelf.Strconv.ParseIntEmpty
import Derived.Shelf.Strconv.Clone
import Derived.Shelf.Strconv.SyntaxError
import Derived.Shelf.LaysC
import Derived.Shelf.Strconv.ToError
import Derived.Shelf.Strconv.Lower
import Derived.Shelf.Strconv.ParseUint10
import Derived.Shelf.Strconv.ParseUint10Empty
import Derived.Shelf.Strconv.ParseUint10Any
import Derived.Shelf.Strconv.ParseInt10
import Derived.Shelf.Strconv.RangeError
import Derived.Shelf.Strconv.ToErrorRange
import Derived.Shelf.Strconv.ParseUintEmpty
import Derived.Shelf.Strconv.ParseUint10b64
import Derived.Shelf.Strconv.ParseUint10b32
import Derived.Shelf.Strconv.ParseUint10b16
import Derived.Shelf.Strconv.ParseUint10b8
import Derived.Shelf.Strconv.ParseUint10At
import Derived.Shelf.Strconv.ParseInt10At64
import Derived.Shelf.Strconv.ParseInt10At32
import Derived.Shelf.Strconv.ParseInt10At16
import Derived.Shelf.Strconv.ParseInt10At8
import Derived.Shelf.Strconv.ParseInt10All
import Derived.Shelf.Strconv.ParseIntPublic10
import Derived.Shelf.Strconv.ErrVarParseInt
import Derived.Shelf.Strings.Search1
import Derived.Shelf.Strings.Search2
import Derived.Shelf.Strings.Search3
import Derived.Shelf.Strings.Count
import Derived.Shelf.Strings.Shaped
import Derived.Shelf.Strings.LastIndex
import Derived.Shelf.GgClosure.StringsIndexFunc
import Derived.Ground.GgwProg
import Derived.Shelf.GgClosure.StringsIndexFuncTop
import Derived.Shelf.GgClosure.StringsRunes
import Derived.Shelf.Strings.Prefix
import Derived.Shelf.Strings.Split
import Derived.Shelf.Strings.SplitShaped
import Derived.Shelf.Unicode.Decode
import Derived.Shelf.Strings.Runes
import Derived.Shelf.Strings.RuneCount
import Derived.Shelf.Strings.AsciiSet
import Derived.Shelf.Strings.Explode
import Derived.Shelf.Unicode.DecodeSlow
import Derived.Shelf.Unicode.DecodeAny
import Derived.Shelf.Unicode.DecodeLast
import Derived.Shelf.Slices.Turned
import Derived.Ground.Names2Prog
import Derived.Shelf.Slices.Clone
import Derived.Test.YticnkpgmmpenlaaGreatDoorProg
import Derived.Laws.RangeAny
import Derived.Lib.Builder
import Derived.Lib.UnsafeStr
import Derived.Shelf.RegionOpenPlain
import Derived.WalkKit
import Derived.LaidEql
import Derived.Stop.Asserts
import Derived.RowKitTokens
set_option maxRecDepth 10000
set_option maxHeartbeats 60000000
set_option linter.all false
namespace Go.Ab
open Go Go.RowKit
variable {P:Program} {Γ:Nat→AV}
theorem C1t {G:Gh} {w:World} {t:Nat} {es:List (List AV)} {v:Value} (h:R G w (.slice t es) v):R G w (.slice 0 es) v:=by
 unfold R at h ⊢
 refine ⟨fun h0=>absurd rfl h0,?_⟩
 rcases h.2 with ⟨he,a,cap,hv,_,h2⟩|⟨b,o,cap,k,hv,h1,_,h3⟩
 ·exact .inl ⟨he,a,cap,hv,(fun h=>by cases h),h2⟩
 ·exact .inr ⟨b,o,cap,k,hv,h1,(fun h=>by cases h),h3⟩
theorem A5.forget {f:FuncId} {args:List AV} {es:List (List AV)} (h:∀ s,A0 P Γ f args s fun v s'=>(∃ t,v=.slice t es)∧Sub s s'):A5 P Γ f args fun v=>v=.slice 0 es :=
 fun s=>⟨fun G w vs hm hr=>((h s).run G w vs hm hr).mono fun e w' ⟨v,av,s',G',he,⟨⟨t,ht⟩,hsub⟩,hR,hM,hX⟩ =>
  ⟨v,.slice 0 es,s,G',he,⟨rfl,rfl⟩,C1t (t:=t) (by rw [← ht];exact hR),hM.sub hsub,hX⟩⟩
def Gh.fix (G:Gh) (g:Nat):Gh:=⟨fun b=>if b=g then .fixd else G.kd b,G.tk⟩
theorem A9d {G:Gh} {w:World} {g:Nat} (hg:G.kd g=.fixd):∀ (cs:List AV) (us:List Value) (o:Nat),B6 G w cs us→(∀ j u,us[j]?=some u→w.cell? ⟨g,o+j,none⟩=some u)→C2 G w g o cs
 | [],us,o=>fun _ _=>by unfold C2;trivial
 | c::cs,us,o=>fun h hc=>by
  obtain ⟨u,us',rfl,hu,hs⟩:=A6.1 h
  unfold C2
  refine ⟨by unfold Gh.good;rw [hg];trivial,⟨u,hc 0 u rfl,hu⟩,A9d hg cs us' (o+1) hs fun j v hv=>?_⟩
  have:=hc (j+1) v (by simpa using hv)
  rwa [show o+(j+1)=o+1+j by omega] at this
theorem Gh.fix_ok {G:Gh} {s:Sto} {w w':World} {g:Nat} (hm:Mod Γ G s w) (hb:Below w.heap.size w w') (hg:w.heap.size≤g) (hlt:g < w'.heap.size):Mod Γ (G.fix g) s w'∧Ext G w (G.fix g) w':=by
 have other:∀ b,b < w.heap.size→(G.fix g).kd b=G.kd b:=fun b h=>if_neg (by omega)
 have hfree:G.kd g=.free:=by
  cases h:G.kd g with
  | free=>rfl
  | fixd=>exact absurd (hm.dom g (by rw [h];simp)) (by omega)
  | row n=>exact absurd (hm.dom g (by rw [h];simp)) (by omega)
 have X:Ext G w (G.fix g) w':=Ext.of_same hm hb.os hb.tape hb.output hb.size other (fun _ _=>rfl) fun k hk _=>hb.block k hk
 have kdrow:∀ b n,(G.fix g).kd b=.row n→G.kd b=.row n:=fun b n h=>by
  unfold Gh.fix at h
  by_cases he:b=g
  ·simp only [if_pos he] at h;cases h
  ·simpa only [if_neg he] using h
 have rowlt:∀ b n,G.kd b=.row n→b < w.heap.size:=fun b n h=>hm.dom b (by rw [h];simp)
 refine ⟨⟨fun x=>(hm.glob x).mono X,?_,?_,?_,?_,hm.fin⟩,X⟩
 ·intro b T cs hx
  obtain ⟨h1,vs,h2,h3⟩:=hm.box b T cs hx
  have hl:=A7c hm hx
  exact ⟨(other b hl).trans h1,vs,(hb.block b hl).trans h2,h3.mono X _ _⟩
 ·intro b hx
  by_cases he:b=g
  ·rw [he];exact hlt
  ·have:G.kd b≠.free:=fun h=>hx (by unfold Gh.fix;simp only [if_neg he];exact h)
   exact Nat.lt_of_lt_of_le (hm.dom b this) hb.size
 ·intro t e k ht
  obtain ⟨h0,h1,b,len,cap,c,h2,h3,h4,h5,h6⟩:=hm.live t e k ht
  have hl:=rowlt b _ h4
  exact ⟨h0,h1,b,len,cap,c,h2,h3,(other b hl).trans h4,(hb.block b hl).trans h5,h6⟩
 ·intro t u b e k e' k' ht hu h1 h2
  have back:∀ {t:Nat} {e:TypeId} {k:Nat},Top (G.fix g) w' t b e k→Top G w t b e k:=by
   rintro t e k ⟨len,cap,c,h2,h3,h4,h5,h6⟩
   have h4':=kdrow b _ h4
   exact ⟨len,cap,c,h2,h3,h4',(hb.block b (rowlt b _ h4')).symm.trans h5,h6⟩
  exact hm.apart t u b e k e' k' ht hu (back h1) (back h2)
theorem A5.of_row {f:FuncId} {args:List AV} {es:List (List AV)} {T:TypeId} {k:Nat} (hk:∀ c ∈ es,c.length=k)
  (h:∀ G w vs s,Mod Γ G s w→B6 G w args vs→∃ xs,B6 G w es.flatten xs∧Calls P f vs.toArray w fun e w'=>∃ v',e=.returned v'∧w'.ownsRow w.heap.size T k v' es.length xs∧Below w.heap.size w w') :
  A5 P Γ f args fun v=>v=.slice 0 es:=by
 intro s
 refine ⟨fun G w vs hm hr=>?_⟩
 obtain ⟨xs,hxs,hc⟩:=h G w vs s hm hr
 refine hc.mono ?_
 rintro e w' ⟨v',rfl,⟨hl,ho⟩,hb⟩
 by_cases hn:es=[]
 ·subst hn
  obtain ⟨m1,m2⟩:=hm.below hb
  refine ⟨v',_,s,G,rfl,⟨rfl,rfl⟩,?_,m1,m2⟩
  unfold R
  refine ⟨fun h0=>absurd rfl h0,.inl ⟨rfl,?_⟩⟩
  rcases ho with ⟨rfl,_⟩|⟨g,cap,cur,rfl,_⟩
  ·exact ⟨none,0,rfl,fun _=>rfl,fun _=>rfl⟩
  ·exact ⟨_,cap,rfl,(fun h=>by cases h),(fun h=>by cases h)⟩
 ·rcases ho with ⟨_,h0⟩|⟨g,cap,cur,rfl,hge,hh,hcap,_,hsz,htake⟩
  ·exact absurd (List.eq_nil_of_length_eq_zero h0) hn
  ·have hlt:g < w'.heap.size:=by
    rcases Nat.lt_or_ge g w'.heap.size with h|h
    ·exact h
    ·rw [Array.getElem?_eq_none h] at hh;cases hh
   obtain ⟨m1,m2⟩:=Gh.fix_ok hm hb hge hlt
   refine ⟨_,_,s,G.fix g,rfl,⟨rfl,rfl⟩,?_,m1,m2⟩
   unfold R
   refine ⟨fun h0=>absurd rfl h0,.inr ⟨g,0,cap,k,rfl,hcap,(fun h=>by cases h),hn,?_⟩⟩
   refine A40 es 0 hk (A9d (by unfold Gh.fix;simp) es.flatten xs 0 (hxs.mono m2 _ _) fun j u hj=>?_)
   rw [← htake] at hj
   have hj':cur[j]?=some u:=by
    rw [List.getElem?_take] at hj
    split at hj
    ·rwa [Array.getElem?_toList] at hj
    ·cases hj
   simp [World.cell?,hh,hj']
mutual
def fg:AV→AV
 | .int k n=>.int k n
 | .bool b=>.bool b
 | .str l=>.str l
 | .ptr a=>.ptr a
 | .cptr cs=>.cptr (fgL cs)
 | .slice _ es=>.slice 0 (fgE es)
 | .raw a l c=>.raw a l c
 | .iface t v=>.iface t (fg v)
 | .nilIface=>.nilIface
 | .func fn fs cs=>.func fn (fgL fs) (fgL cs)
 | .nilFunc=>.nilFunc
 | .agg cs=>.agg (fgL cs)
 | .tuple vs=>.tuple (fgL vs)
 | .cmap es=>.cmap es
def fgL:List AV→List AV
 | []=>[]
 | c::cs=>fg c::fgL cs
def fgE:List (List AV)→List (List AV)
 | []=>[]
 | e::es=>fgL e::fgE es
end
theorem C6y:∀ l:List AV,(fgL l).length=l.length
 | []=>by unfold fgL;rfl
 | c::cs=>by unfold fgL;rw [List.length_cons,List.length_cons,C6y cs]
theorem A57:∀ l:List (List AV),(fgE l).length=l.length
 | []=>by unfold fgE;rfl
 | c::cs=>by unfold fgE;rw [List.length_cons,List.length_cons,A57 cs]
theorem C0k:fgE []=[]:=by unfold fgE;rfl
theorem D1j {l:List (List AV)} (h:l≠[]):fgE l≠[]:=fun hn=>h (List.eq_nil_of_length_eq_zero (by rw [← A57,hn];rfl))
theorem A58 {α:Type} {A B:α→List AV} (h:∀ x,fgL (A x)=B x):∀ l:List α,fgE (l.map A)=l.map B
 | []=>by rw [List.map_nil,List.map_nil,C0k]
 | x::l=>by rw [List.map_cons,List.map_cons,fgE,h,A58 h l]
section
variable {G:Gh} {w:World}
mutual
theorem R.fg:∀ (c:AV) (v:Value),R G w c v→R G w (fg c) v
 | .int k n,v=>fun h=>by unfold Go.Ab.fg;exact h
 | .bool b,v=>fun h=>by unfold Go.Ab.fg;exact h
 | .str l,v=>fun h=>by unfold Go.Ab.fg;exact h
 | .ptr a,v=>fun h=>by unfold Go.Ab.fg;exact h
 | .cptr cs,v=>fun h=>by
  unfold Go.Ab.fg
  unfold R at h ⊢
  obtain ⟨b,o,hv,hc⟩:=h
  exact ⟨b,o,hv,C2.fg cs b o hc⟩
 | .slice t es,v=>fun h=>by
  unfold Go.Ab.fg
  unfold R at h ⊢
  refine ⟨fun h0=>absurd rfl h0,?_⟩
  rcases h.2 with ⟨he,a,cap,hv,_,h2⟩|⟨b,o,cap,k,hv,h1,_,h3,h4⟩
  ·exact .inl ⟨by rw [he,C0k],a,cap,hv,(fun h=>by cases h),h2⟩
  ·exact .inr ⟨b,o,cap,k,by rw [A57];exact hv,by rw [A57];exact h1,(fun h=>by cases h),D1j h3,C9.fg es k b o h4⟩
 | .raw a len cap,v=>fun h=>by unfold Go.Ab.fg;exact h
 | .iface t x,v=>fun h=>by
  unfold Go.Ab.fg
  unfold R at h ⊢
  obtain ⟨u,hv,hx⟩:=h
  exact ⟨u,hv,R.fg x u hx⟩
 | .nilIface,v=>fun h=>by unfold Go.Ab.fg;exact h
 | .func fn fs cs,v=>fun h=>by
  unfold Go.Ab.fg
  unfold R at h ⊢
  obtain ⟨us,vs,hv,h1,h2⟩:=h
  exact ⟨us,vs,hv,B6.fg fs _ h1,B6.fg cs _ h2⟩
 | .nilFunc,v=>fun h=>by unfold Go.Ab.fg;exact h
 | .agg cs,v=>fun h=>by
  unfold Go.Ab.fg
  unfold R at h ⊢
  obtain ⟨us,hv,h1⟩:=h
  exact ⟨us,hv,B6.fg cs _ h1⟩
 | .tuple vs,v=>fun h=>by
  unfold Go.Ab.fg
  unfold R at h ⊢
  obtain ⟨us,hv,h1⟩:=h
  exact ⟨us,hv,B6.fg vs _ h1⟩
 | .cmap es,v=>fun h=>by unfold Go.Ab.fg;exact h
theorem C2.fg:∀ (cs:List AV) (b o:Nat),C2 G w b o cs→C2 G w b o (fgL cs)
 | [],b,o=>fun _=>by unfold fgL;unfold C2;trivial
 | c::cs,b,o=>fun h=>by
  unfold fgL
  unfold C2 at h ⊢
  obtain ⟨hg,⟨u,hu,hr⟩,hs⟩:=h
  exact ⟨hg,⟨u,hu,R.fg c u hr⟩,C2.fg cs b (o+1) hs⟩
theorem C9.fg:∀ (es:List (List AV)) (k b o:Nat),C9 G w k b o es→C9 G w k b o (fgE es)
 | [],k,b,o=>fun _=>by unfold fgE;unfold C9;trivial
 | e::es,k,b,o=>fun h=>by
  unfold fgE
  unfold C9 at h ⊢
  obtain ⟨hl,hc,hs⟩:=h
  exact ⟨(C6y e).trans hl,C2.fg e b o hc,C9.fg es k b (o+k) hs⟩
theorem B6.fg:∀ (cs:List AV) (vs:List Value),B6 G w cs vs→B6 G w (fgL cs) vs
 | [],vs=>fun h=>by unfold fgL;exact h
 | c::cs,vs=>fun h=>by
  unfold fgL
  unfold B6 at h ⊢
  obtain ⟨u,us,hv,h1,h2⟩:=h
  exact ⟨u,us,hv,R.fg c u h1,B6.fg cs us h2⟩
end
end
theorem A5.fgt {f:FuncId} {args:List AV} {r:AV} (h:∀ s,A0 P Γ f args s fun v s'=>fg v=r∧Sub s s'):A5 P Γ f args fun v=>v=r :=
 fun s=>⟨fun G w vs hm hr=>((h s).run G w vs hm hr).mono fun e w' ⟨v,av,s',G',he,⟨ht,hsub⟩,hR,hM,hX⟩ =>
  ⟨v,r,s,G',he,⟨rfl,rfl⟩,by rw [← ht];exact R.fg _ _ hR,hM.sub hsub,hX⟩⟩
abbrev Frz:=Nat→Option (Nat × List AV)
def fzP (m:Frz):Option Addr→AV
 | some ⟨b,o,none⟩=>(match m b with|some (_,cs)=>.cptr (cs.drop o)|none=>.ptr (some ⟨b,o,none⟩))
 | a=>.ptr a
def fzW (m:Frz):Option Addr→Nat→Nat→AV
 | some ⟨b,o,none⟩,len,cap=>(match m b with
  | some (k,cs)=>if len≤cap∧len * k≤(cs.drop o).length then .slice 0 (T9 k len (cs.drop o)) else .raw (some ⟨b,o,none⟩) len cap
  | none=>.raw (some ⟨b,o,none⟩) len cap)
 | a,len,cap=>.raw a len cap
mutual
def fz (m:Frz):AV→AV
 | .int k n=>.int k n
 | .bool b=>.bool b
 | .str l=>.str l
 | .ptr a=>fzP m a
 | .cptr cs=>.cptr (fzL m cs)
 | .slice t es=>.slice t (fzE m es)
 | .raw a l c=>fzW m a l c
 | .iface t v=>.iface t (fz m v)
 | .nilIface=>.nilIface
 | .func fn fs cs=>.func fn (fzL m fs) (fzL m cs)
 | .nilFunc=>.nilFunc
 | .agg cs=>.agg (fzL m cs)
 | .tuple vs=>.tuple (fzL m vs)
 | .cmap es=>.cmap es
def fzL (m:Frz):List AV→List AV
 | []=>[]
 | c::cs=>fz m c::fzL m cs
def fzE (m:Frz):List (List AV)→List (List AV)
 | []=>[]
 | e::es=>fzL m e::fzE m es
end
theorem C62 (m:Frz):∀ l:List AV,(fzL m l).length=l.length
 | []=>by unfold fzL;rfl
 | c::cs=>by unfold fzL;rw [List.length_cons,List.length_cons,C62 m cs]
theorem B0k (m:Frz):∀ l:List (List AV),(fzE m l).length=l.length
 | []=>by unfold fzE;rfl
 | c::cs=>by unfold fzE;rw [List.length_cons,List.length_cons,B0k m cs]
theorem D5r (m:Frz):fzE m []=[]:=by unfold fzE;rfl
theorem D7s {m:Frz} {l:List (List AV)} (h:l≠[]):fzE m l≠[]:=fun hn=>h (List.eq_nil_of_length_eq_zero (by rw [← B0k m,hn];rfl))
section
variable {G:Gh} {w:World} {m:Frz}
theorem R.fzP (hm:∀ b k cs,m b=some (k,cs)→C2 G w b 0 cs) {a:Option Addr} {v:Value} (h:R G w (.ptr a) v):R G w (fzP m a) v:=by
 unfold Go.Ab.fzP
 split
 ·rename_i b o
  split
  ·rename_i k cs hb
   rw [P4] at h
   subst h
   have:=W9 o cs b 0 (hm b k cs hb)
   rw [Nat.zero_add] at this
   exact N3.2 ⟨b,o,rfl,this⟩
  ·exact h
 ·exact h
theorem R.fzW (hm:∀ b k cs,m b=some (k,cs)→C2 G w b 0 cs) {a:Option Addr} {len cap:Nat} {v:Value} (h:R G w (.raw a len cap) v):R G w (fzW m a len cap) v:=by
 unfold Go.Ab.fzW
 split
 ·rename_i b o
  split
  ·rename_i k cs hb
   split
   ·rename_i hl
    rw [A1t] at h
    subst h
    have hc:=W9 o cs b 0 (hm b k cs hb)
    rw [Nat.zero_add] at hc
    have:=B36 (G:=G) (w:=w) (es:=T9 k len (cs.drop o)) (a:=some ⟨b,o,none⟩) (cap:=cap) (by rw [A0c];exact hl.1) (fun h=>by cases h) (fun _=>⟨b,o,k,rfl,A4r k len _ hc hl.2⟩)
    rwa [A0c] at this
   ·exact h
  ·exact h
 ·exact h
mutual
theorem R.fz (hm:∀ b k cs,m b=some (k,cs)→C2 G w b 0 cs):∀ (c:AV) (v:Value),R G w c v→R G w (fz m c) v
 | .int k n,v=>fun h=>by unfold Go.Ab.fz;exact h
 | .bool b,v=>fun h=>by unfold Go.Ab.fz;exact h
 | .str l,v=>fun h=>by unfold Go.Ab.fz;exact h
 | .ptr a,v=>fun h=>by unfold Go.Ab.fz;exact R.fzP hm h
 | .cptr cs,v=>fun h=>by
  unfold Go.Ab.fz
  unfold R at h ⊢
  obtain ⟨b,o,hv,hc⟩:=h
  exact ⟨b,o,hv,C2.fz hm cs b o hc⟩
 | .slice t es,v=>fun h=>by
  unfold Go.Ab.fz
  unfold R at h ⊢
  refine ⟨h.1,?_⟩
  rcases h.2 with ⟨he,a,cap,hv,h1,h2⟩|⟨b,o,cap,k,hv,h1,h2,h3,h4⟩
  ·exact .inl ⟨by rw [he,D5r],a,cap,hv,h1,h2⟩
  ·exact .inr ⟨b,o,cap,k,by rw [B0k];exact hv,by rw [B0k];exact h1,(fun h=>by rw [B0k];exact h2 h),D7s h3,C9.fz hm es k b o h4⟩
 | .raw a len cap,v=>fun h=>by unfold Go.Ab.fz;exact R.fzW hm h
 | .iface t x,v=>fun h=>by
  unfold Go.Ab.fz
  unfold R at h ⊢
  obtain ⟨u,hv,hx⟩:=h
  exact ⟨u,hv,R.fz hm x u hx⟩
 | .nilIface,v=>fun h=>by unfold Go.Ab.fz;exact h
 | .func fn fs cs,v=>fun h=>by
  unfold Go.Ab.fz
  unfold R at h ⊢
  obtain ⟨us,vs,hv,h1,h2⟩:=h
  exact ⟨us,vs,hv,B6.fz hm fs _ h1,B6.fz hm cs _ h2⟩
 | .nilFunc,v=>fun h=>by unfold Go.Ab.fz;exact h
 | .agg cs,v=>fun h=>by
  unfold Go.Ab.fz
  unfold R at h ⊢
  obtain ⟨us,hv,h1⟩:=h
  exact ⟨us,hv,B6.fz hm cs _ h1⟩
 | .tuple vs,v=>fun h=>by
  unfold Go.Ab.fz
  unfold R at h ⊢
  obtain ⟨us,hv,h1⟩:=h
  exact ⟨us,hv,B6.fz hm vs _ h1⟩
 | .cmap es,v=>fun h=>by unfold Go.Ab.fz;exact h
theorem C2.fz (hm:∀ b k cs,m b=some (k,cs)→C2 G w b 0 cs):∀ (cs:List AV) (b o:Nat),C2 G w b o cs→C2 G w b o (fzL m cs)
 | [],b,o=>fun _=>by unfold fzL;unfold C2;trivial
 | c::cs,b,o=>fun h=>by
  unfold fzL
  unfold C2 at h ⊢
  obtain ⟨hg,⟨u,hu,hr⟩,hs⟩:=h
  exact ⟨hg,⟨u,hu,R.fz hm c u hr⟩,C2.fz hm cs b (o+1) hs⟩
theorem C9.fz (hm:∀ b k cs,m b=some (k,cs)→C2 G w b 0 cs):∀ (es:List (List AV)) (k b o:Nat),C9 G w k b o es→C9 G w k b o (fzE m es)
 | [],k,b,o=>fun _=>by unfold fzE;unfold C9;trivial
 | e::es,k,b,o=>fun h=>by
  unfold fzE
  unfold C9 at h ⊢
  obtain ⟨hl,hc,hs⟩:=h
  exact ⟨(C62 m e).trans hl,C2.fz hm e b o hc,C9.fz hm es k b (o+k) hs⟩
theorem B6.fz (hm:∀ b k cs,m b=some (k,cs)→C2 G w b 0 cs):∀ (cs:List AV) (vs:List Value),B6 G w cs vs→B6 G w (fzL m cs) vs
 | [],vs=>fun h=>by unfold fzL;exact h
 | c::cs,vs=>fun h=>by
  unfold fzL
  unfold B6 at h ⊢
  obtain ⟨u,us,hv,h1,h2⟩:=h
  exact ⟨u,us,hv,R.fz hm c u h1,B6.fz hm cs us h2⟩
end
end
theorem Mod.freeze {G:Gh} {w:World} {s s':Sto} {m:Frz} (hM:Mod Γ G s' w) (hs:Sub s s') (hf:∀ b k cs,m b=some (k,cs)→s.bx b=none∧∃ T,s'.bx b=some (T,cs)) :
  ∃ G',Mod Γ G' s w∧Ext G w G' w∧∀ b k cs,m b=some (k,cs)→C2 G' w b 0 cs:=by
 let G':Gh:=⟨fun b=>if (m b).isSome then .fixd else G.kd b,G.tk⟩
 have e1:∀ b,(m b).isSome=true→G'.kd b=.fixd:=fun b h=>by show (if (m b).isSome then Kd.fixd else _)=_;rw [if_pos h]
 have e2:∀ b,¬ (m b).isSome=true→G'.kd b=G.kd b:=fun b h=>by show (if (m b).isSome then Kd.fixd else _)=_;rw [if_neg h]
 have hfree:∀ b,(m b).isSome=true→G.kd b=.free:=fun b h=>by
  obtain ⟨⟨k,cs⟩,hx⟩:=Option.isSome_iff_exists.1 h
  obtain ⟨_,T,hT⟩:=hf b k cs hx
  exact (hM.box b T cs hT).1
 have hrow:∀ b n,G'.kd b=.row n→G.kd b=.row n:=fun b n h=>by
  by_cases hb:(m b).isSome=true
  ·rw [e1 b hb] at h;cases h
  ·rwa [e2 b hb] at h
 have hrow':∀ b n,G.kd b=.row n→G'.kd b=.row n:=fun b n h=>by
  by_cases hb:(m b).isSome=true
  ·rw [hfree b hb] at h;cases h
  ·rwa [e2 b hb]
 have X:Ext G w G' w:=⟨rfl,rfl,rfl,Nat.le_refl _,fun b h=>⟨by
   by_cases hb:(m b).isSome=true
   ·exact e1 b hb
   ·rwa [e2 b hb],rfl⟩,fun b n h=>⟨.inr ⟨n,Nat.le_refl _,hrow' b n h⟩,fun _ _=>rfl⟩,fun _ _=>rfl⟩
 have hm0:=hM.sub hs
 have top:∀ {t b:Nat} {e:TypeId} {k:Nat},Top G' w t b e k↔Top G w t b e k:=fun {t b e k} =>
  ⟨fun ⟨len,cap,c,h1,h2,h3,h4,h5⟩=>⟨len,cap,c,h1,h2,hrow _ _ h3,h4,h5⟩,fun ⟨len,cap,c,h1,h2,h3,h4,h5⟩=>⟨len,cap,c,h1,h2,hrow' _ _ h3,h4,h5⟩⟩
 refine ⟨G',⟨fun g=>(hm0.glob g).mono X,?_,?_,?_,?_,hm0.fin⟩,X,?_⟩
 ·intro b T cs hb
  obtain ⟨h1,vs,h2,h3⟩:=hm0.box b T cs hb
  have hn:¬ (m b).isSome=true:=fun h=>by
   obtain ⟨⟨k,cs⟩,hx⟩:=Option.isSome_iff_exists.1 h
   rw [(hf b k cs hx).1] at hb
   cases hb
  exact ⟨(e2 b hn).trans h1,vs,h2,h3.mono X _ _⟩
 ·intro b hb
  by_cases h:(m b).isSome=true
  ·obtain ⟨⟨k,cs⟩,hx⟩:=Option.isSome_iff_exists.1 h
   obtain ⟨_,T,hT⟩:=hf b k cs hx
   exact A7c hM hT
  ·rw [e2 b h] at hb
   exact hm0.dom b hb
 ·intro t e k ht
  obtain ⟨h0,h1,b,h2⟩:=hm0.live t e k ht
  exact ⟨h0,h1,b,top.2 h2⟩
 ·intro t u b e k e' k' ht hu h1 h2
  exact hm0.apart t u b e k e' k' ht hu (top.1 h1) (top.1 h2)
 ·intro b k cs hb
  obtain ⟨_,T,hT⟩:=hf b k cs hb
  obtain ⟨_,vs,h2,h3⟩:=hM.box b T cs hT
  refine A9d (e1 b (by rw [hb];rfl)) cs vs 0 (h3.mono X _ _) fun j u hj=>?_
  rw [Nat.zero_add]
  simp [World.cell?,h2,hj]
theorem A0.frz {f:FuncId} {args:List AV} {s:Sto} {φ ψ:AV→Sto→Prop} (h:A0 P Γ f args s φ)
  (hk:∀ v s',φ v s'→∃ m s'',(∀ b k cs,m b=some (k,cs)→s''.bx b=none∧∃ T,s'.bx b=some (T,cs))∧Sub s'' s'∧ψ (fg (fz m v)) s''):A0 P Γ f args s ψ :=
 ⟨fun G w vs hm hr=>(h.run G w vs hm hr).mono fun e w' ⟨v,av,s',G',he,hφ,hR,hM,hX⟩=>by
  obtain ⟨m,s'',h1,h2,h3⟩:=hk av s' hφ
  obtain ⟨G'',hM',X',hc⟩:=hM.freeze h2 h1
  exact ⟨v,_,s'',G'',he,h3,R.fg _ _ (R.fz hc _ _ (hR.mono X' _ _)),hM',hX.trans X'⟩⟩
theorem A5.frz {f:FuncId} {args:List AV} {r:AV} (h:∀ s,A0 P Γ f args s fun v s'=>∃ m,(∀ b k cs,m b=some (k,cs)→s.bx b=none∧∃ T,s'.bx b=some (T,cs))∧fg (fz m v)=r∧Sub s s'):A5 P Γ f args fun v=>v=r :=
 fun s=>(h s).frz fun _ _ ⟨m,h1,h2,h3⟩=>⟨m,s,h1,h3,h2,rfl⟩
def fz1 (b k:Nat) (cs:List AV):Frz:=fun c=>if c=b then some (k,cs) else none
theorem C0m (b k:Nat) (cs:List AV):fz1 b k cs b=some (k,cs):=if_pos rfl
theorem C0n {s s':Sto} {b k:Nat} {T:TypeId} {cs:List AV} (h:s.bx b=none) (h':s'.bx b=some (T,cs)):∀ c j ds,fz1 b k cs c=some (j,ds)→s.bx c=none∧∃ T,s'.bx c=some (T,ds):=by
 intro c j ds hc
 unfold fz1 at hc
 split at hc
 ·rename_i he
  subst he
  simp only [Option.some.injEq,Prod.mk.injEq] at hc
  obtain ⟨_,rfl⟩:=hc
  exact ⟨h,T,h'⟩
 ·cases hc
def fz0:Frz:=fun _=>none
theorem D7r {s s':Sto}:∀ c j ds,fz0 c=some (j,ds)→s.bx c=none∧∃ T,s'.bx c=some (T,ds):=fun _ _ _ h=>by cases h
def B4b (Γ:Nat→AV) (s s':Sto):Prop:=∀ G w,Mod Γ G s w→Mod Γ G s' w
theorem B4b.refl (s:Sto):B4b Γ s s:=fun _ _ h=>h
def Le (a b:AV):Prop:=∀ G w v,R G w a v→R G w b v
theorem Le.refl (a:AV):Le a a:=fun _ _ _ h=>h
theorem Le.slice0 (t:Nat) (es:List (List AV)):Le (.slice t es) (.slice 0 es):=fun _ _ _ h=>C1t h
theorem Le.inner (t:Nat) (es:List (List AV)):Le (.slice t es) (.slice t (fgE es)):=by
 intro G w v h
 unfold R at h ⊢
 refine ⟨h.1,?_⟩
 rcases h.2 with ⟨he,a,cap,hv,h1,h2⟩|⟨b,o,cap,k,hv,h1,h2,h3,h4⟩
 ·exact .inl ⟨by rw [he,C0k],a,cap,hv,h1,h2⟩
 ·exact .inr ⟨b,o,cap,k,by rw [A57];exact hv,by rw [A57];exact h1,(fun h=>by rw [A57];exact h2 h),D1j h3,C9.fg es k b o h4⟩
theorem Le.inner' {t:Nat} {es es':List (List AV)} (h:fgE es=es'):Le (.slice t es) (.slice t es'):=h ▸ Le.inner t es
def LeL:List AV→List AV→Prop
 | [],[]=>True
 | a::l,b::m=>Le a b∧LeL l m
 | _,_=>False
theorem LeL.nil:LeL [] []:=trivial
theorem LeL.cons {a b:AV} {l m:List AV} (h:Le a b) (k:LeL l m):LeL (a::l) (b::m):=⟨h,k⟩
theorem LeL.run {G:Gh} {w:World}:∀ {l m:List AV} {vs:List Value},LeL l m→B6 G w l vs→B6 G w m vs
 | [],[],_,_,h=>h
 | a::l,b::m,vs,hl,h=>by
  obtain ⟨u,us,rfl,h1,h2⟩:=A6.1 h
  exact A6.2 ⟨u,us,rfl,hl.1 G w u h1,LeL.run hl.2 h2⟩
 | [],_::_,_,hl,_=>hl.elim
 | _::_,[],_,hl,_=>hl.elim
section
variable {n:Nat} {Q:Exit→Env→Sto→Prop} {e:Env} {s:Sto}
end
theorem A0.weak {f:FuncId} {args args':List AV} {s s':Sto} {φ:AV→Sto→Prop} (hw:B4b Γ s s') (ha:LeL args args') (h:A0 P Γ f args' s' φ):A0 P Γ f args s φ :=
 ⟨fun G w vs hm hr=>h.run G w vs (hw G w hm) (ha.run hr)⟩
theorem A0.less {f:FuncId} {args:List AV} {s:Sto} {φ ψ:AV→Sto→Prop} (h:A0 P Γ f args s φ) (hk:∀ v s',φ v s'→∃ v' s'',Le v v'∧B4b Γ s' s''∧ψ v' s''):A0 P Γ f args s ψ :=
 ⟨fun G w vs hm hr=>(h.run G w vs hm hr).mono fun _ _ ⟨v,av,s',G',he,hφ,hR,hM,hX⟩=>by
  obtain ⟨v',s'',h1,h2,h3⟩:=hk av s' hφ
  exact ⟨v,v',s'',G',he,h3,h1 G' _ v hR,h2 G' _ hM,hX⟩⟩
end Go.Ab
namespace Go.Ab
open Go
structure M6 (B:Nat→Prop) (s s':Sto):Prop where
 bx:∀ c z,¬ B c→s.bx c=some z→s'.bx c=some z
 lv:∀ t e k,s.lv t e k→s'.lv t e k
 sub:∀ s0,Sub s0 s→(∀ c,B c→s0.bx c=none)→Sub s0 s'
theorem M6.trans {B:Nat→Prop} {a b c:Sto} (h:M6 B a b) (k:M6 B b c):M6 B a c :=
 ⟨fun d z hd hz=>k.bx d z hd (h.bx d z hd hz),fun t e j ht=>k.lv t e j (h.lv t e j ht),fun s0 hs hn=>k.sub s0 (h.sub s0 hs hn) hn⟩
theorem M6.set {B:Nat→Prop} {s s':Sto} (h:M6 B s s') {b:Nat} (hb:B b) (T:TypeId) (cs:List AV):M6 B s (s'.set b T cs) :=
 ⟨fun d z hd hz=>(A2 (show d≠b from fun he=>hd (by rw [he];exact hb))).trans (h.bx d z hd hz),h.lv,fun s0 hs hn=>(h.sub s0 hs hn).set (hn b hb) T cs⟩
theorem M6.fresh {B:Nat→Prop} {s s':Sto} (h:M6 B s s') {b:Nat} (hb:s.bx b=none) (T:TypeId) (cs:List AV):M6 B s (s'.set b T cs) :=
 ⟨fun d z hd hz=>(A2 (A3 hz hb)).trans (h.bx d z hd hz),h.lv,fun s0 hs hn=>(h.sub s0 hs hn).set (hs.none hb) T cs⟩
def B1 (a:Nat):Nat→Prop:=fun c=>c=a
theorem bS:((false=true)=False)∧((true=false)=False)∧(∀ (p:Prop) [Decidable p],(decide p=true)=p)∧(∀ (p:Prop) [Decidable p],(decide p=false) = ¬p)∧(∀ b:Bool,((!b)=true)=(b=false))∧(∀ b:Bool,((!b)=false)=(b=true)) :=
 ⟨by simp,by simp,fun p _=>by simp,fun p _=>by simp,fun b=>by simp,fun b=>by simp⟩
theorem bN:((¬True)=False)∧((¬False)=True):=⟨by simp,by simp⟩
theorem C0 {s:Sto} {b c:Nat} {T:TypeId} {cs:List AV} (h:(s.set b T cs).bx c=none):s.bx c=none:=by
 by_cases hc:c=b
 ·subst hc;rw [A1] at h;cases h
 ·rwa [A2 hc] at h
theorem A7s {s:Sto} {b c:Nat} {T:TypeId} {cs:List AV} (h:(s.set b T cs).bx c=none):b≠c:=by
 rintro rfl;rw [A1] at h;cases h
theorem A6d {α:Type} {l l':List α} {n:Nat} (h:l=l') (k:l'.length=n):l.length=n:=h ▸ k
theorem E0c {p q:Prop} (k:q) (h:p:=by first|omega|rfl|decide|exact Nat.le_of_ble_eq_true rfl|((repeat' (first|exact all_nil|refine all_cons ?_ ?_|rfl|fail));done)|(simp [-List.length_flatMap];done)|(simp [-List.length_flatMap];omega)|fail):p∧q:=⟨h,k⟩
theorem D3 {x:Option (TypeId × List AV)} {T:TypeId} {cs:List AV} {K:TypeId→List AV→Prop} (k:K T cs) (hx:x=some (T,cs):=by ((repeat (first|exact A1|assumption|refine (A2 (by assumption)).trans ?_|refine Q4.trans ?_));done)):getB x K:=A4 hx k
theorem bxa {α:Type} {x y:Option α} (h:x=y:=by ((repeat (first|exact A1|assumption|refine (A2 (by assumption)).trans ?_|refine Q4.trans ?_));done)):x=y:=h
theorem A6r {s s':Sto} (h:Sub s s':=by ((repeat (first|exact Sub.refl _|assumption|refine Sub.set ?_ (by assumption) _ _));done)):Sub s s':=h
theorem eqa {α:Type} {a b:α} (h:a=b:=by (repeat' (first|refine B5 ?_ ?_|refine D4 ?_ ?_ ?_|rfl|omega))):a=b:=h
theorem eqb {α:Type} {a b:α} (h:a=b:=by ((try dsimp only);(repeat' (first|refine B5 ?_ ?_|refine D4 ?_ ?_ ?_|rfl|omega)))):a=b:=h
theorem B9 {M:List Nat} {e e':Env} (h:M1 M e e':=by (repeat (first|exact M1.refl _ _|refine M1.upd rfl ?_|refine M1.updL rfl ?_|refine M1.havoc rfl ?_))):M1 M e e':=h
theorem AWp.anyA {P:Program} {Γ:Nat→AV} {n id:Nat} {ops:Array Oper} {Q:Exit→Env→Sto→Prop} {e:Env} {s:Sto} (h:D42 P Γ ops ops.toList e s fun e' s'=>Q .normal e' s') (hmix:P.follows .mixedOrders=true:=by kernel_rfl) (hok:ops.toList.all (A1r n)=true:=by kernel_rfl) (hd:B2a P ops=true:=by kernel_rfl):AWp P Γ n (.region id ops true) Q e s:=AWp.any hmix hok hd h
structure D8t (q:Prop):Prop where
 run:q
theorem pru {p:Prop} (h:False:=by first|omega|exact (by assumption:¬ True) trivial|fail):p:=h.elim
theorem prc {p:Prop} (h:False:=by first|contradiction|omega|exact (by assumption:¬ True) trivial|fail):p:=h.elim
theorem brS {b:Bool} {yes no:Prop} (h1:b=true→yes) (h2:b=false→no):brA b yes no:=F2 h1 h2
theorem nA {p q:Prop} (k:q) (h:p:=by first|exact Sub.refl _|omega|rfl|decide|exact Nat.le_of_ble_eq_true rfl|((repeat' (first|exact all_nil|refine all_cons ?_ ?_|rfl|fail));done)|(simp [-List.length_flatMap];done)|(simp [-List.length_flatMap];omega)|fail):p∧q:=⟨h,k⟩
theorem gS {s:Sto} {b:Nat} {T:TypeId} {cs:List AV} {K:TypeId→List AV→Prop} (h:K T cs):getB ((s.set b T cs).bx b) K:=D8 h
theorem aA {P:Program} {Γ:Nat→AV} {n id:Nat} {ops:Array Oper} {Q:Exit→Env→Sto→Prop} {e:Env} {s:Sto} (h:D42 P Γ ops ops.toList e s fun e' s'=>Q .normal e' s') (hmix:P.follows .mixedOrders=true:=by kernel_rfl) (hok:ops.toList.all (A1r n)=true:=by kernel_rfl) (hd:B2a P ops=true:=by kernel_rfl):AWp P Γ n (.region id ops true) Q e s:=AWp.any hmix hok hd h
theorem wp {p q:Prop} (k:q) (h:D8t q→p:=by (intro k;(try (conv=>whnf));(repeat' ((first|(exfalso;first|omega|exact (by assumption:¬ True) trivial|fail)|(refine brS (fun h=>?_) (fun h=>?_)<;>(try rw [h])<;>(try simp only [bN,bS,↓reduceIte] at h))|(refine A0.pure' ?_ (by assumption);rintro _ rfl)|refine A8.pure ?_ (by assumption)|refine A4 (by ((repeat (first|exact A1|assumption|refine (A2 (by assumption)).trans ?_|refine Q4.trans ?_));done)) ?_|refine ⟨A6d (by assumption) rfl,Go.Ab.A0i (by assumption) ?_⟩|refine gS ?_|refine AWp.any (by kernel_rfl) (by kernel_rfl) (by kernel_rfl) ?_|refine ⟨Sub.refl _,?_⟩|refine And.intro (by first|omega|rfl|decide|exact Nat.le_of_ble_eq_true rfl|((repeat' (first|exact all_nil|refine all_cons ?_ ?_|rfl|fail));done)|(simp [-List.length_flatMap];done)|(simp [-List.length_flatMap];omega)|fail) ?_|fail)<;>(conv=>whnf)));all_goals exact k.run)):p:=h ⟨k⟩
theorem wr {p q:Prop} (k:q) (h:D8t q→p:=by (intro k;(try (conv=>whnf));(repeat' ((first|(refine brS (fun h=>?_) (fun h=>?_)<;>(try rw [h])<;>(try simp only [bN,bS,↓reduceIte] at h)<;>(first|(exfalso;first|contradiction|omega|exact (by assumption:¬ True) trivial|fail)|skip))|(refine A0.pure' ?_ (by assumption);rintro _ rfl)|refine A8.pure ?_ (by assumption)|refine A4 (by ((repeat (first|exact A1|assumption|refine (A2 (by assumption)).trans ?_|refine Q4.trans ?_));done)) ?_|refine ⟨A6d (by assumption) rfl,Go.Ab.A0i (by assumption) ?_⟩|refine gS ?_|refine AWp.any (by kernel_rfl) (by kernel_rfl) (by kernel_rfl) ?_|refine ⟨Sub.refl _,?_⟩|refine And.intro (by first|omega|rfl|decide|exact Nat.le_of_ble_eq_true rfl|((repeat' (first|exact all_nil|refine all_cons ?_ ?_|rfl|fail));done)|(simp [-List.length_flatMap];done)|(simp [-List.length_flatMap];omega)|fail) ?_|fail)<;>(conv=>whnf)));all_goals exact k.run)):p:=h ⟨k⟩
theorem acs {P:Program} {Γ:Nat→AV} {f:FuncId} {fn:Func} {c:Code} {args:List AV} {s:Sto} {φ:AV→Sto→Prop} (hf:P.funcs[f]?=some fn) (k:awp P Γ fn.ntmps c (C98 P fn.results fun v s'=>∃ s'',Sub s'' s'∧φ v s'') (B79 args) s) (hb:fn.body=some c:=by rfl) (hn:args.length≤fn.ntmps:=by exact Nat.le_of_ble_eq_true (by kernel_rfl)) (hok:A0s fn.ntmps c=true:=by kernel_rfl):A0 P Γ f args s φ:=A0.of_awp hf hb hn (R8 _ hok k)
theorem aps {P:Program} {Γ:Nat→AV} {f:FuncId} {fn:Func} {c:Code} {args:List AV} {φ:AV→Prop} (hf:P.funcs[f]?=some fn) (k:∀ s,awp P Γ fn.ntmps c (C98 P fn.results fun v s'=>Sub s s'∧φ v) (B79 args) s) (hb:fn.body=some c:=by rfl) (hn:args.length≤fn.ntmps:=by exact Nat.le_of_ble_eq_true (by kernel_rfl)) (hok:A0s fn.ntmps c=true:=by kernel_rfl):A5 P Γ f args φ:=A5.of_awp hf hb hn hok k
end Go.Ab
namespace Go.Proofs.YticnkpgmmpenlaaGreatDoor.Ix
open Go Go.Ab Go.RowKit
variable {Γ:Nat→AV}
theorem C7g (l:List UInt8) (n:Int):A5 Tryz.prog Γ 246 [.str l,.int .u8 n] fun v=>v=.int .i64 (Lib.indexByte l n.toNat.toUInt8):=by
 refine fun s=>⟨fun G w vs hm hr=>?_⟩
 obtain ⟨u,us,rfl,hu,hus⟩:=A6.1 hr
 obtain ⟨u1,us1,rfl,hu1,hus1⟩:=A6.1 hus
 rw [A9] at hus1;subst hus1
 rw [H9] at hu;subst hu
 rw [E9] at hu1;subst hu1
 refine Calls.mono (R:=fun e w'=>e=.returned (.int .i64 (Lib.indexByte l n.toNat.toUInt8))∧w'=w) ?_ ?_
 ·go_enter Tryz.func246,Tryz.ntmps246
  go_wp2
  rw [run_callFunc_extern Tryz.func267 (by kernel_rfl) (by kernel_rfl) (by kernel_rfl) (e:=Extern.BytealgIndexByte.indexByte) (by kernel_rfl)]
  rw [Lib.run_indexByteString]
  simp only [Result.andThen]
  rw [Oper.upon_value]
  go_wp2
  go_ret
  exact ⟨rfl,rfl⟩
 ·rintro e w' ⟨rfl,rfl⟩
  exact ⟨_,_,s,G,rfl,⟨rfl,rfl⟩,E9.2 rfl,hm,Ext.refl _ _⟩
attribute [local irreducible] A5 Sto.set Sto.grow
theorem A59 (l:List UInt8) (n:Int):A5 Tryz.prog Γ 216 [.str l,.int .u8 n] fun v=>v=.int .i64 (Lib.indexByte l n.toNat.toUInt8):=by
 refine aps Tryz.func216 ?_
 intro s
 refine wr ?_;(first|(refine A0.pure' ?_ (C7g _ _);rintro _ rfl)|refine A8.pure ?_ (C7g _ _));refine wr ?_
 rfl
end Go.Proofs.YticnkpgmmpenlaaGreatDoor.Ix
namespace Go.Proofs
open Go.Shelf
def Tryz.lays156_ren:Go.Shelf.Ren:=⟨fun|156=>38|165=>93|166=>94|169=>95|240=>146|241=>147|276=>212|277=>213|n=>n,fun|31=>66|9=>9|3=>3|4=>4|0=>0|20=>20|72=>149|76=>151|70=>146|37=>147|75=>98|127=>192|164=>202|5=>5|80=>153|n=>n,fun|n=>n⟩
theorem Tryz.lays156:Go.Proofs.Lays.n156 Tryz.prog Tryz.lays156_ren:={
 mixed:=by kernel_rfl
 f156:=Tryz.func38.trans (congrArg some (by kernel_rfl))
 f165:=Tryz.func93.trans (congrArg some (by kernel_rfl))
 f166:=Tryz.func94.trans (congrArg some (by kernel_rfl))
 f169:=Tryz.func95.trans (congrArg some (by kernel_rfl))
 f240:=Tryz.func146.trans (congrArg some (by kernel_rfl))
 f241:=Tryz.func147.trans (congrArg some (by kernel_rfl))
 f276:=Tryz.func212.trans (congrArg some (by kernel_rfl))
 f277:=Tryz.func213.trans (congrArg some (by kernel_rfl))
 t0:=Tryz.underlying0
 a0:=Tryz.isAgg0
 z0:=Tryz.sizeOf0
 v0:=Tryz.zeroValue0
 t3:=Tryz.underlying3
 a3:=Tryz.isAgg3
 z3:=Tryz.sizeOf3
 v3:=Tryz.zeroValue3
 t4:=Tryz.underlying4
 a4:=Tryz.isAgg4
 z4:=Tryz.sizeOf4
 v4:=Tryz.zeroValue4
 t9:=Tryz.underlying9
 a9:=Tryz.isAgg9
 z9:=Tryz.sizeOf9
 v9:=Tryz.zeroValue9
 t20:=Tryz.underlying20
 a20:=Tryz.isAgg20
 z20:=Tryz.sizeOf20
 v20:=Tryz.zeroValue20
 t31:=Tryz.underlying66
 a31:=Tryz.isAgg66
 z31:=Tryz.sizeOf66
 v31:=Tryz.zeroValue66
 t37:=Tryz.underlying147
 a37:=Tryz.isAgg147
 z37:=Tryz.sizeOf147
 v37:=Tryz.zeroValue147
 t70:=Tryz.underlying146
 a70:=Tryz.isAgg146
 z70:=Tryz.sizeOf146
 v70:=Tryz.zeroValue146
 t72:=Tryz.underlying149
 a72:=Tryz.isAgg149
 z72:=Tryz.sizeOf149
 v72:=Tryz.zeroValue149
 t75:=Tryz.underlying98
 a75:=Tryz.isAgg98
 z75:=Tryz.sizeOf98
 v75:=Tryz.zeroValue98
 t76:=Tryz.underlying151
 a76:=Tryz.isAgg151
 z76:=Tryz.sizeOf151
 v76:=Tryz.zeroValue151
 t127:=Tryz.underlying192
 a127:=Tryz.isAgg192
 z127:=Tryz.sizeOf192
 v127:=Tryz.zeroValue192
 t164:=Tryz.underlying202
 a164:=Tryz.isAgg202
 z164:=Tryz.sizeOf202
 v164:=Tryz.zeroValue202 }
theorem Tryz.Builder_Extra_156:Builder.Extra Tryz.prog Tryz.lays156_ren:={
 sizeBuilder:=by kernel_rfl
 liesBuilder:=by kernel_rfl
 t5:=Tryz.underlying5
 a5:=Tryz.isAgg5
 z5:=Tryz.sizeOf5
 v5:=Tryz.zeroValue5
 infoByte:=by kernel_rfl
 cellsByte:=by kernel_rfl
 sizeByte:=by kernel_rfl
 neB5:=by decide }
open Go.RowKit in
theorem Tryz.strings_Join_none (a:Option Addr) (c:Nat) (sep:ByteArray) (w:World) :
  Calls Tryz.prog 38 #[.slice a 0 c,.string sep] w fun e w'=>e=.returned (.string ⟨#[]⟩)∧w'=w:=Any.strings_Join_none Tryz.lays156 Tryz.Builder_Extra_156 a c sep w
open Go.RowKit in
theorem Tryz.strings_Join (bk o c:Nat) (xs:List ByteArray) (sep:ByteArray) (w:World) (hcells:∀ (j:Nat) x,xs[j]?=some x→w.cell? ⟨bk,o+j,none⟩=some (.string x)) (hbk:bk < w.heap.size) (hN:xs.length≤140737488355328) (hcap:xs.length≤c) (hlen:(Lib.join (xs.map (·.data.toList)) sep.data.toList).length≤140737488355328) :
  Calls Tryz.prog 38 #[.slice (some ⟨bk,o,none⟩) xs.length c,.string sep] w fun e w'=>e=.returned (.string ⟨(Lib.join (xs.map (·.data.toList)) sep.data.toList).toArray⟩)∧Below w.heap.size w w':=Any.strings_Join Tryz.lays156 Tryz.Builder_Extra_156 bk o c xs sep w hcells hbk hN hcap hlen
def Tryz.lays160_ren:Go.Shelf.Ren:=⟨fun|160=>270|232=>286|231=>285|227=>287|234=>289|233=>288|236=>291|235=>290|228=>300|271=>303|151=>302|197=>301|120=>310|152=>309|260=>308|137=>216|119=>317|224=>281|225=>280|217=>246|266=>267|n=>n,fun|9=>9|4=>4|3=>3|5=>5|117=>334|116=>333|0=>0|124=>337|21=>21|105=>349|46=>262|119=>360|139=>363|138=>362|n=>n,fun|3=>10|4=>11|n=>n⟩
theorem Tryz.lays160:Go.Proofs.Lays.n160 Tryz.prog Tryz.lays160_ren:={
 mixed:=by kernel_rfl
 f119:=Tryz.func317.trans (congrArg some (by kernel_rfl))
 f120:=Tryz.func310.trans (congrArg some (by kernel_rfl))
 f137:=Tryz.func216.trans (congrArg some (by kernel_rfl))
 f151:=Tryz.func302.trans (congrArg some (by kernel_rfl))
 f152:=Tryz.func309.trans (congrArg some (by kernel_rfl))
 f160:=Tryz.func270.trans (congrArg some (by kernel_rfl))
 f197:=Tryz.func301.trans (congrArg some (by kernel_rfl))
 f217:=Tryz.func246.trans (congrArg some (by kernel_rfl))
 f224:=Tryz.func281.trans (congrArg some (by kernel_rfl))
 f225:=Tryz.func280.trans (congrArg some (by kernel_rfl))
 f227:=Tryz.func287.trans (congrArg some (by kernel_rfl))
 f228:=Tryz.func300.trans (congrArg some (by kernel_rfl))
 f231:=Tryz.func285.trans (congrArg some (by kernel_rfl))
 f232:=Tryz.func286.trans (congrArg some (by kernel_rfl))
 f233:=Tryz.func288.trans (congrArg some (by kernel_rfl))
 f234:=Tryz.func289.trans (congrArg some (by kernel_rfl))
 f235:=Tryz.func290.trans (congrArg some (by kernel_rfl))
 f236:=Tryz.func291.trans (congrArg some (by kernel_rfl))
 f260:=Tryz.func308.trans (congrArg some (by kernel_rfl))
 f266:=Tryz.func267.trans (congrArg some (by kernel_rfl))
 f271:=Tryz.func303.trans (congrArg some (by kernel_rfl))
 t0:=Tryz.underlying0
 a0:=Tryz.isAgg0
 z0:=Tryz.sizeOf0
 v0:=Tryz.zeroValue0
 t3:=Tryz.underlying3
 a3:=Tryz.isAgg3
 z3:=Tryz.sizeOf3
 v3:=Tryz.zeroValue3
 t4:=Tryz.underlying4
 a4:=Tryz.isAgg4
 z4:=Tryz.sizeOf4
 v4:=Tryz.zeroValue4
 t5:=Tryz.underlying5
 a5:=Tryz.isAgg5
 z5:=Tryz.sizeOf5
 v5:=Tryz.zeroValue5
 t9:=Tryz.underlying9
 a9:=Tryz.isAgg9
 z9:=Tryz.sizeOf9
 v9:=Tryz.zeroValue9
 t21:=Tryz.underlying21
 a21:=Tryz.isAgg21
 z21:=Tryz.sizeOf21
 v21:=Tryz.zeroValue21
 t46:=Tryz.underlying262
 a46:=Tryz.isAgg262
 z46:=Tryz.sizeOf262
 v46:=Tryz.zeroValue262
 t105:=Tryz.underlying349
 a105:=Tryz.isAgg349
 z105:=Tryz.sizeOf349
 v105:=Tryz.zeroValue349
 t116:=Tryz.underlying333
 a116:=Tryz.isAgg333
 z116:=Tryz.sizeOf333
 t117:=Tryz.underlying334
 a117:=Tryz.isAgg334
 z117:=Tryz.sizeOf334
 v117:=Tryz.zeroValue334
 t119:=Tryz.underlying360
 a119:=Tryz.isAgg360
 z119:=Tryz.sizeOf360
 t124:=Tryz.underlying337
 a124:=Tryz.isAgg337
 z124:=Tryz.sizeOf337
 v124:=Tryz.zeroValue337
 t138:=Tryz.underlying362
 a138:=Tryz.isAgg362
 z138:=Tryz.sizeOf362
 v138:=Tryz.zeroValue362
 t139:=Tryz.underlying363
 a139:=Tryz.isAgg363
 z139:=Tryz.sizeOf363
 v139:=Tryz.zeroValue363
 g3:=by kernel_rfl
 g4:=by kernel_rfl }
def Tryz.laysM246_ren:Go.Shelf.Ren:=⟨fun|246=>209|283=>242|284=>243|285=>244|286=>245|129=>263|317=>262|318=>264|319=>265|320=>266|337=>278|338=>279|n=>n,fun|2=>2|3=>3|9=>9|4=>4|171=>299|0=>0|53=>300|37=>147|5=>5|173=>303|212=>316|51=>317|20=>20|213=>318|46=>262|232=>345|233=>346|n=>n,fun|17=>6|18=>8|19=>9|n=>n⟩
theorem Tryz.laysM246:Go.Proofs.LaysM.n246 Tryz.prog Tryz.laysM246_ren:={
 mixed:=by kernel_rfl
 f129:=Tryz.func263.trans (congrArg some (by kernel_rfl))
 f246:=Tryz.func209.trans (congrArg some (by kernel_rfl))
 f283:=Tryz.func242.trans (congrArg some (by kernel_rfl))
 f284:=Tryz.func243.trans (congrArg some (by kernel_rfl))
 f285:=Tryz.func244.trans (congrArg some (by kernel_rfl))
 f286:=Tryz.func245.trans (congrArg some (by kernel_rfl))
 f317:=Tryz.func262.trans (congrArg some (by kernel_rfl))
 f318:=Tryz.func264.trans (congrArg some (by kernel_rfl))
 f319:=Tryz.func265.trans (congrArg some (by kernel_rfl))
 f320:=Tryz.func266.trans (congrArg some (by kernel_rfl))
 f337:=Tryz.func278.trans (congrArg some (by kernel_rfl))
 f338:=Tryz.func279.trans (congrArg some (by kernel_rfl))
 t0:=Tryz.underlying0
 a0:=Tryz.isAgg0
 z0:=Tryz.sizeOf0
 v0:=Tryz.zeroValue0
 t2:=Tryz.underlying2
 a2:=Tryz.isAgg2
 z2:=Tryz.sizeOf2
 v2:=Tryz.zeroValue2
 t3:=Tryz.underlying3
 a3:=Tryz.isAgg3
 z3:=Tryz.sizeOf3
 v3:=Tryz.zeroValue3
 t4:=Tryz.underlying4
 a4:=Tryz.isAgg4
 z4:=Tryz.sizeOf4
 v4:=Tryz.zeroValue4
 t5:=Tryz.underlying5
 a5:=Tryz.isAgg5
 z5:=Tryz.sizeOf5
 v5:=Tryz.zeroValue5
 t9:=Tryz.underlying9
 a9:=Tryz.isAgg9
 z9:=Tryz.sizeOf9
 v9:=Tryz.zeroValue9
 t20:=Tryz.underlying20
 a20:=Tryz.isAgg20
 z20:=Tryz.sizeOf20
 v20:=Tryz.zeroValue20
 t37:=Tryz.underlying147
 a37:=Tryz.isAgg147
 z37:=Tryz.sizeOf147
 v37:=Tryz.zeroValue147
 t46:=Tryz.underlying262
 a46:=Tryz.isAgg262
 z46:=Tryz.sizeOf262
 v46:=Tryz.zeroValue262
 t51:=Tryz.underlying317
 a51:=Tryz.isAgg317
 z51:=Tryz.sizeOf317
 v51:=Tryz.zeroValue317
 t53:=Tryz.underlying300
 a53:=Tryz.isAgg300
 z53:=Tryz.sizeOf300
 v53:=Tryz.zeroValue300
 t171:=Tryz.underlying299
 a171:=Tryz.isAgg299
 z171:=Tryz.sizeOf299
 v171:=Tryz.zeroValue299
 t173:=Tryz.underlying303
 a173:=Tryz.isAgg303
 z173:=Tryz.sizeOf303
 v173:=Tryz.zeroValue303
 t212:=Tryz.underlying316
 a212:=Tryz.isAgg316
 z212:=Tryz.sizeOf316
 v212:=Tryz.zeroValue316
 t213:=Tryz.underlying318
 a213:=Tryz.isAgg318
 z213:=Tryz.sizeOf318
 t232:=Tryz.underlying345
 a232:=Tryz.isAgg345
 z232:=Tryz.sizeOf345
 v232:=Tryz.zeroValue345
 t233:=Tryz.underlying346
 a233:=Tryz.isAgg346
 z233:=Tryz.sizeOf346
 v233:=Tryz.zeroValue346
 g17:=by kernel_rfl
 g18:=by kernel_rfl
 g19:=by kernel_rfl
 i0:=by kernel_rfl
 i2:=by kernel_rfl
 i3:=by kernel_rfl
 i4:=by kernel_rfl
 i5:=by kernel_rfl
 i9:=by kernel_rfl
 i20:=by kernel_rfl
 i37:=by kernel_rfl
 i46:=by kernel_rfl
 i51:=by kernel_rfl
 i53:=by kernel_rfl
 i171:=by kernel_rfl
 i173:=by kernel_rfl
 i212:=by kernel_rfl
 i232:=by kernel_rfl
 i233:=by kernel_rfl
 m17:=by kernel_rfl
 m18:=by kernel_rfl
 m19:=by kernel_rfl }
open Go.RowKit Go.Sort Go.Lib in
theorem Tryz.internal_strconv_FormatInt_10 (n : Int) (h0 : -9223372036854775808 ≤ n) (h1 : n ≤ 9223372036854775807) (w : World) (htab : Lib.TabIs Tryz.prog w "internal/strconv.uint64pow10" .u64 Lib.pow10Tab) :
  Calls Tryz.prog 209 #[.int .i64 n,.int .i64 10] w fun e w'=>e=.returned (.string ⟨(Lib.itoa n).toArray⟩)∧∃ k os,w'=grow (w.drewN k) os:=Any.internal_strconv_FormatInt_10 Tryz.laysM246 n h0 h1 w htab
def Tryz.laysC245_ren:Go.Shelf.Ren:=⟨fun|245=>306|279=>313|280=>314|281=>315|282=>316|316=>320|171=>322|205=>321|243=>323|246=>209|283=>242|284=>243|285=>244|286=>245|129=>263|317=>262|318=>264|319=>265|320=>266|337=>278|338=>279|n=>n,fun|9=>9|3=>3|75=>98|167=>354|4=>4|168=>357|210=>366|37=>147|0=>0|127=>192|145=>370|143=>368|2=>2|171=>299|53=>300|5=>5|173=>303|212=>316|51=>317|20=>20|213=>318|46=>262|232=>345|233=>346|80=>153|n=>n,fun|15=>12|16=>7|17=>6|18=>8|19=>9|n=>n⟩
def Tryz.laysC174_ren:Go.Shelf.Ren:=⟨fun|174=>294|247=>305|245=>306|287=>312|279=>313|280=>314|281=>315|282=>316|321=>318|322=>319|316=>320|171=>322|205=>321|243=>323|246=>209|283=>242|284=>243|285=>244|286=>245|129=>263|317=>262|318=>264|319=>265|320=>266|337=>278|338=>279|n=>n,fun|9=>9|3=>3|2=>2|75=>98|85=>339|4=>4|167=>354|5=>5|53=>300|175=>355|46=>262|168=>357|37=>147|0=>0|210=>366|21=>21|127=>192|145=>370|143=>368|171=>299|173=>303|212=>316|51=>317|20=>20|213=>318|232=>345|233=>346|80=>153|n=>n,fun|15=>12|16=>7|17=>6|18=>8|19=>9|n=>n⟩
theorem Tryz.laysC174:Go.Proofs.LaysC.n174 Tryz.prog Tryz.laysC174_ren:={
 mixed:=by kernel_rfl
 f129:=Tryz.func263.trans (congrArg some (by kernel_rfl))
 f171:=Tryz.func322.trans (congrArg some (by kernel_rfl))
 f174:=Tryz.func294.trans (congrArg some (by kernel_rfl))
 f205:=Tryz.func321.trans (congrArg some (by kernel_rfl))
 f243:=Tryz.func323.trans (congrArg some (by kernel_rfl))
 f245:=Tryz.func306.trans (congrArg some (by kernel_rfl))
 f246:=Tryz.func209.trans (congrArg some (by kernel_rfl))
 f247:=Tryz.func305.trans (congrArg some (by kernel_rfl))
 f279:=Tryz.func313.trans (congrArg some (by kernel_rfl))
 f280:=Tryz.func314.trans (congrArg some (by kernel_rfl))
 f281:=Tryz.func315.trans (congrArg some (by kernel_rfl))
 f282:=Tryz.func316.trans (congrArg some (by kernel_rfl))
 f283:=Tryz.func242.trans (congrArg some (by kernel_rfl))
 f284:=Tryz.func243.trans (congrArg some (by kernel_rfl))
 f285:=Tryz.func244.trans (congrArg some (by kernel_rfl))
 f286:=Tryz.func245.trans (congrArg some (by kernel_rfl))
 f287:=Tryz.func312.trans (congrArg some (by kernel_rfl))
 f316:=Tryz.func320.trans (congrArg some (by kernel_rfl))
 f317:=Tryz.func262.trans (congrArg some (by kernel_rfl))
 f318:=Tryz.func264.trans (congrArg some (by kernel_rfl))
 f319:=Tryz.func265.trans (congrArg some (by kernel_rfl))
 f320:=Tryz.func266.trans (congrArg some (by kernel_rfl))
 f321:=Tryz.func318.trans (congrArg some (by kernel_rfl))
 f322:=Tryz.func319.trans (congrArg some (by kernel_rfl))
 f337:=Tryz.func278.trans (congrArg some (by kernel_rfl))
 f338:=Tryz.func279.trans (congrArg some (by kernel_rfl))
 t0:=Tryz.underlying0
 a0:=Tryz.isAgg0
 z0:=Tryz.sizeOf0
 v0:=Tryz.zeroValue0
 t2:=Tryz.underlying2
 a2:=Tryz.isAgg2
 z2:=Tryz.sizeOf2
 v2:=Tryz.zeroValue2
 t3:=Tryz.underlying3
 a3:=Tryz.isAgg3
 z3:=Tryz.sizeOf3
 v3:=Tryz.zeroValue3
 t4:=Tryz.underlying4
 a4:=Tryz.isAgg4
 z4:=Tryz.sizeOf4
 v4:=Tryz.zeroValue4
 t5:=Tryz.underlying5
 a5:=Tryz.isAgg5
 z5:=Tryz.sizeOf5
 v5:=Tryz.zeroValue5
 t9:=Tryz.underlying9
 a9:=Tryz.isAgg9
 z9:=Tryz.sizeOf9
 v9:=Tryz.zeroValue9
 t20:=Tryz.underlying20
 a20:=Tryz.isAgg20
 z20:=Tryz.sizeOf20
 v20:=Tryz.zeroValue20
 t21:=Tryz.underlying21
 a21:=Tryz.isAgg21
 z21:=Tryz.sizeOf21
 v21:=Tryz.zeroValue21
 t37:=Tryz.underlying147
 a37:=Tryz.isAgg147
 z37:=Tryz.sizeOf147
 v37:=Tryz.zeroValue147
 t46:=Tryz.underlying262
 a46:=Tryz.isAgg262
 z46:=Tryz.sizeOf262
 v46:=Tryz.zeroValue262
 t51:=Tryz.underlying317
 a51:=Tryz.isAgg317
 z51:=Tryz.sizeOf317
 v51:=Tryz.zeroValue317
 t53:=Tryz.underlying300
 a53:=Tryz.isAgg300
 z53:=Tryz.sizeOf300
 v53:=Tryz.zeroValue300
 t75:=Tryz.underlying98
 a75:=Tryz.isAgg98
 z75:=Tryz.sizeOf98
 v75:=Tryz.zeroValue98
 t85:=Tryz.underlying339
 a85:=Tryz.isAgg339
 z85:=Tryz.sizeOf339
 v85:=Tryz.zeroValue339
 t127:=Tryz.underlying192
 a127:=Tryz.isAgg192
 z127:=Tryz.sizeOf192
 v127:=Tryz.zeroValue192
 t143:=Tryz.underlying368
 a143:=Tryz.isAgg368
 z143:=Tryz.sizeOf368
 v143:=Tryz.zeroValue368
 t145:=Tryz.underlying370
 a145:=Tryz.isAgg370
 z145:=Tryz.sizeOf370
 v145:=Tryz.zeroValue370
 t167:=Tryz.underlying354
 a167:=Tryz.isAgg354
 z167:=Tryz.sizeOf354
 v167:=Tryz.zeroValue354
 t168:=Tryz.underlying357
 a168:=Tryz.isAgg357
 z168:=Tryz.sizeOf357
 v168:=Tryz.zeroValue357
 t171:=Tryz.underlying299
 a171:=Tryz.isAgg299
 z171:=Tryz.sizeOf299
 v171:=Tryz.zeroValue299
 t173:=Tryz.underlying303
 a173:=Tryz.isAgg303
 z173:=Tryz.sizeOf303
 v173:=Tryz.zeroValue303
 t175:=Tryz.underlying355
 a175:=Tryz.isAgg355
 z175:=Tryz.sizeOf355
 v175:=Tryz.zeroValue355
 t210:=Tryz.underlying366
 a210:=Tryz.isAgg366
 z210:=Tryz.sizeOf366
 v210:=Tryz.zeroValue366
 t212:=Tryz.underlying316
 a212:=Tryz.isAgg316
 z212:=Tryz.sizeOf316
 v212:=Tryz.zeroValue316
 t213:=Tryz.underlying318
 a213:=Tryz.isAgg318
 z213:=Tryz.sizeOf318
 t232:=Tryz.underlying345
 a232:=Tryz.isAgg345
 z232:=Tryz.sizeOf345
 v232:=Tryz.zeroValue345
 t233:=Tryz.underlying346
 a233:=Tryz.isAgg346
 z233:=Tryz.sizeOf346
 v233:=Tryz.zeroValue346
 g15:=by kernel_rfl
 g16:=by kernel_rfl
 g17:=by kernel_rfl
 g18:=by kernel_rfl
 g19:=by kernel_rfl
 t80:=Tryz.underlying153
 a80:=Tryz.isAgg153
 z80:=Tryz.sizeOf153
 v80:=Tryz.zeroValue153
 i0:=by kernel_rfl
 i2:=by kernel_rfl
 i3:=by kernel_rfl
 i4:=by kernel_rfl
 i5:=by kernel_rfl
 i9:=by kernel_rfl
 i20:=by kernel_rfl
 i21:=by kernel_rfl
 i37:=by kernel_rfl
 i46:=by kernel_rfl
 i51:=by kernel_rfl
 i53:=by kernel_rfl
 i75:=by kernel_rfl
 i80:=by kernel_rfl
 i85:=by kernel_rfl
 i127:=by kernel_rfl
 i143:=by kernel_rfl
 i145:=by kernel_rfl
 i167:=by kernel_rfl
 i168:=by kernel_rfl
 i171:=by kernel_rfl
 i173:=by kernel_rfl
 i175:=by kernel_rfl
 i210:=by kernel_rfl
 i212:=by kernel_rfl
 i232:=by kernel_rfl
 i233:=by kernel_rfl
 m15:=by kernel_rfl
 m16:=by kernel_rfl
 m17:=by kernel_rfl
 m18:=by kernel_rfl
 m19:=by kernel_rfl
 c0:=by kernel_rfl
 c2:=by kernel_rfl
 c3:=by kernel_rfl
 c4:=by kernel_rfl
 c5:=by kernel_rfl
 c9:=by kernel_rfl
 c20:=by kernel_rfl
 c21:=by kernel_rfl
 c37:=by kernel_rfl
 c46:=by kernel_rfl
 c51:=by kernel_rfl
 c53:=by kernel_rfl
 c75:=by kernel_rfl
 c80:=by kernel_rfl
 c85:=by kernel_rfl
 c127:=by kernel_rfl
 c143:=by kernel_rfl
 c145:=by kernel_rfl
 c167:=by kernel_rfl
 c168:=by kernel_rfl
 c171:=by kernel_rfl
 c173:=by kernel_rfl
 c175:=by kernel_rfl
 c210:=by kernel_rfl
 c212:=by kernel_rfl
 c213:=by kernel_rfl
 c232:=by kernel_rfl
 c233:=by kernel_rfl }
open Go.RowKit in
theorem Tryz.strconv_ParseInt_10_at64_ok (s:ByteArray) (hmax:s.size≤9223372036854775806) (v:Int) (h:Lib.parseIntB 64 s.data.toList=.ok v) (w:World) :
  Calls Tryz.prog 294 #[.string s,.int .i64 10,.int .i64 64] w fun e w'=>e=.returned (.tuple #[.int .i64 v,.nilIface])∧(w'=w∨∃ t,w'=Lib.bytesWorld w 5 t):=Any.strconv_ParseInt_10_at64_ok Tryz.laysC174 s hmax v h w
open Go.RowKit in
theorem Tryz.strconv_ParseInt_10_at64_range (s:ByteArray) (hlim:s.size≤281474976710656) (h:Lib.parseIntB 64 s.data.toList=.range) (ev:Value) (w:World) (hv:w.cell? ⟨7,0,none⟩=some ev) (hev:ev=.nilIface∨∃ te pe,ev=.iface te pe) :
  Calls Tryz.prog 294 #[.string s,.int .i64 10,.int .i64 64] w fun e w'=>∃ N,e=.returned (.tuple #[.int .i64 (Lib.intSat 64 s.data.toList),.iface 357 (.pointer (some ⟨N,0,none⟩))])∧w.heap.size≤N∧w'.heap[N]?=some (.cells #[.string ⟨#[80,97,114,115,101,73,110,116]⟩,.string s,ev] 366 (0,0))∧Below w.heap.size w w':=Any.strconv_ParseInt_10_at64_range Tryz.laysC174 s hlim h ev w hv hev
def Tryz.lays219_ren:Go.Shelf.Ren:=⟨fun|219=>268|217=>246|225=>280|224=>281|267=>282|266=>267|314=>299|n=>n,fun|9=>9|3=>3|4=>4|5=>5|46=>262|146=>347|51=>317|n=>n,fun|1=>5|n=>n⟩
def Tryz.lays143_ren:Go.Shelf.Ren:=⟨fun|143=>249|219=>268|217=>246|225=>280|224=>281|267=>282|266=>267|314=>299|n=>n,fun|9=>9|3=>3|4=>4|5=>5|46=>262|146=>347|51=>317|n=>n,fun|1=>5|n=>n⟩
theorem Tryz.lays143:Go.Proofs.Lays.n143 Tryz.prog Tryz.lays143_ren:={
 mixed:=by kernel_rfl
 f143:=Tryz.func249.trans (congrArg some (by kernel_rfl))
 f217:=Tryz.func246.trans (congrArg some (by kernel_rfl))
 f219:=Tryz.func268.trans (congrArg some (by kernel_rfl))
 f224:=Tryz.func281.trans (congrArg some (by kernel_rfl))
 f225:=Tryz.func280.trans (congrArg some (by kernel_rfl))
 f266:=Tryz.func267.trans (congrArg some (by kernel_rfl))
 f267:=Tryz.func282.trans (congrArg some (by kernel_rfl))
 f314:=Tryz.func299.trans (congrArg some (by kernel_rfl))
 t3:=Tryz.underlying3
 a3:=Tryz.isAgg3
 z3:=Tryz.sizeOf3
 v3:=Tryz.zeroValue3
 t4:=Tryz.underlying4
 a4:=Tryz.isAgg4
 z4:=Tryz.sizeOf4
 v4:=Tryz.zeroValue4
 t5:=Tryz.underlying5
 a5:=Tryz.isAgg5
 z5:=Tryz.sizeOf5
 v5:=Tryz.zeroValue5
 t9:=Tryz.underlying9
 a9:=Tryz.isAgg9
 z9:=Tryz.sizeOf9
 v9:=Tryz.zeroValue9
 t46:=Tryz.underlying262
 a46:=Tryz.isAgg262
 z46:=Tryz.sizeOf262
 v46:=Tryz.zeroValue262
 t51:=Tryz.underlying317
 a51:=Tryz.isAgg317
 z51:=Tryz.sizeOf317
 v51:=Tryz.zeroValue317
 t146:=Tryz.underlying347
 a146:=Tryz.isAgg347
 z146:=Tryz.sizeOf347
 v146:=Tryz.zeroValue347
 g1:=by kernel_rfl }
open Go.RowKit Go.Lib in
theorem Tryz.strings_Index_one (s:ByteArray) (c:UInt8) (w:World) :
  Calls Tryz.prog 249 #[.string s,.string ⟨#[c]⟩] w fun e w'=>e=.returned (.int .i64 (Lib.indexByte s.data.toList c))∧w'=w:=Any.strings_Index_one Tryz.lays143 s c w
def Tryz.lays138_ren:Go.Shelf.Ren:=⟨fun|138=>217|195=>247|218=>248|143=>249|219=>268|217=>246|225=>280|224=>281|267=>282|266=>267|314=>299|n=>n,fun|9=>9|3=>3|4=>4|5=>5|0=>0|46=>262|146=>347|51=>317|n=>n,fun|1=>5|n=>n⟩
theorem Tryz.lays138:Go.Proofs.Lays.n138 Tryz.prog Tryz.lays138_ren:={
 mixed:=by kernel_rfl
 f138:=Tryz.func217.trans (congrArg some (by kernel_rfl))
 f143:=Tryz.func249.trans (congrArg some (by kernel_rfl))
 f195:=Tryz.func247.trans (congrArg some (by kernel_rfl))
 f217:=Tryz.func246.trans (congrArg some (by kernel_rfl))
 f218:=Tryz.func248.trans (congrArg some (by kernel_rfl))
 f219:=Tryz.func268.trans (congrArg some (by kernel_rfl))
 f224:=Tryz.func281.trans (congrArg some (by kernel_rfl))
 f225:=Tryz.func280.trans (congrArg some (by kernel_rfl))
 f266:=Tryz.func267.trans (congrArg some (by kernel_rfl))
 f267:=Tryz.func282.trans (congrArg some (by kernel_rfl))
 f314:=Tryz.func299.trans (congrArg some (by kernel_rfl))
 t0:=Tryz.underlying0
 a0:=Tryz.isAgg0
 z0:=Tryz.sizeOf0
 v0:=Tryz.zeroValue0
 t3:=Tryz.underlying3
 a3:=Tryz.isAgg3
 z3:=Tryz.sizeOf3
 v3:=Tryz.zeroValue3
 t4:=Tryz.underlying4
 a4:=Tryz.isAgg4
 z4:=Tryz.sizeOf4
 v4:=Tryz.zeroValue4
 t5:=Tryz.underlying5
 a5:=Tryz.isAgg5
 z5:=Tryz.sizeOf5
 v5:=Tryz.zeroValue5
 t9:=Tryz.underlying9
 a9:=Tryz.isAgg9
 z9:=Tryz.sizeOf9
 v9:=Tryz.zeroValue9
 t46:=Tryz.underlying262
 a46:=Tryz.isAgg262
 z46:=Tryz.sizeOf262
 v46:=Tryz.zeroValue262
 t51:=Tryz.underlying317
 a51:=Tryz.isAgg317
 z51:=Tryz.sizeOf317
 v51:=Tryz.zeroValue317
 t146:=Tryz.underlying347
 a146:=Tryz.isAgg347
 z146:=Tryz.sizeOf347
 v146:=Tryz.zeroValue347
 g1:=by kernel_rfl }
open Go.RowKit Go.Lib in
theorem Tryz.strings_Count_one (s:ByteArray) (c:UInt8) (w:World) :
  Calls Tryz.prog 217 #[.string s,.string ⟨#[c]⟩] w fun e w'=>e=.returned (.int .i64 (Lib.countByte s.data.toList c))∧w'=w:=Any.strings_Count_one Tryz.lays138 s c w
def Tryz.laysGw15_ren:Go.Shelf.Ren:=⟨fun|15=>238|20=>260|n=>n,fun|9=>9|23=>293|3=>3|4=>4|0=>0|21=>21|n=>n,fun|n=>n⟩
theorem Tryz.laysGw15:Go.Proofs.LaysGw.n15 Tryz.prog Tryz.laysGw15_ren:={
 mixed:=by kernel_rfl
 f15:=Tryz.func238.trans (congrArg some (by kernel_rfl))
 f20:=Tryz.func260.trans (congrArg some (by kernel_rfl))
 t0:=Tryz.underlying0
 a0:=Tryz.isAgg0
 z0:=Tryz.sizeOf0
 v0:=Tryz.zeroValue0
 i0:=by kernel_rfl
 t3:=Tryz.underlying3
 a3:=Tryz.isAgg3
 z3:=Tryz.sizeOf3
 v3:=Tryz.zeroValue3
 i3:=by kernel_rfl
 t4:=Tryz.underlying4
 a4:=Tryz.isAgg4
 z4:=Tryz.sizeOf4
 v4:=Tryz.zeroValue4
 i4:=by kernel_rfl
 t9:=Tryz.underlying9
 a9:=Tryz.isAgg9
 z9:=Tryz.sizeOf9
 v9:=Tryz.zeroValue9
 i9:=by kernel_rfl
 t21:=Tryz.underlying21
 a21:=Tryz.isAgg21
 z21:=Tryz.sizeOf21
 v21:=Tryz.zeroValue21
 i21:=by kernel_rfl
 t23:=Tryz.underlying293
 a23:=Tryz.isAgg293
 z23:=Tryz.sizeOf293
 v23:=Tryz.zeroValue293
 i23:=by kernel_rfl }
open Go.RowKit Go.Lib in
theorem Tryz.strings_IndexFunc (g:Nat) (lb:Array Value) (eg:∀ args w,(callFunc g args).run Tryz.prog w=.ok (.enter g args) w) (p:Nat→Bool) (s:ByteArray) (w:World) (hp:PredAt Tryz.prog g lb encR p w) :
  Calls Tryz.prog 238 #[.string s,.func (.func g) #[] lb] w fun e w'=>e=.returned (.int .i64 (Lib.idxFunc p true s))∧Below w.heap.size w w':=Any.strings_IndexFunc Tryz.laysGw15 g lb eg p s w hp
def Tryz.lays206_ren:Go.Shelf.Ren:=⟨fun|206=>272|n=>n,fun|9=>9|4=>4|3=>3|n=>n,fun|n=>n⟩
def Tryz.lays101_ren:Go.Shelf.Ren:=⟨fun|101=>304|208=>311|206=>272|n=>n,fun|9=>9|4=>4|3=>3|n=>n,fun|n=>n⟩
theorem Tryz.lays101:Go.Proofs.Lays.n101 Tryz.prog Tryz.lays101_ren:={
 mixed:=by kernel_rfl
 f101:=Tryz.func304.trans (congrArg some (by kernel_rfl))
 f206:=Tryz.func272.trans (congrArg some (by kernel_rfl))
 f208:=Tryz.func311.trans (congrArg some (by kernel_rfl))
 t3:=Tryz.underlying3
 a3:=Tryz.isAgg3
 z3:=Tryz.sizeOf3
 v3:=Tryz.zeroValue3
 t4:=Tryz.underlying4
 a4:=Tryz.isAgg4
 z4:=Tryz.sizeOf4
 v4:=Tryz.zeroValue4
 t9:=Tryz.underlying9
 a9:=Tryz.isAgg9
 z9:=Tryz.sizeOf9
 v9:=Tryz.zeroValue9 }
open Go.RowKit Go.Lib in
theorem Tryz.strings_TrimPrefix (s p:ByteArray) (w:World) :
  Calls Tryz.prog 304 #[.string s,.string p] w fun e w'=>e=.returned (.string ⟨(Lib.trimPrefix s.data.toList p.data.toList).toArray⟩)∧w'=w:=Any.strings_TrimPrefix Tryz.lays101 s p w
def Tryz.laysNm215_ren:Go.Shelf.Ren:=⟨fun|15=>56|n=>n,fun|22=>52|3=>3|4=>4|n=>n,fun|n=>n⟩
theorem Tryz.laysNm215:Go.Proofs.Lays2.n15 Tryz.prog Tryz.laysNm215_ren:={
 mixed:=by kernel_rfl
 f15:=Tryz.func56.trans (congrArg some (by kernel_rfl))
 t3:=Tryz.underlying3
 a3:=Tryz.isAgg3
 z3:=Tryz.sizeOf3
 v3:=Tryz.zeroValue3
 t4:=Tryz.underlying4
 a4:=Tryz.isAgg4
 z4:=Tryz.sizeOf4
 v4:=Tryz.zeroValue4
 t22:=Tryz.underlying52
 a22:=Tryz.isAgg52
 z22:=Tryz.sizeOf52
 v22:=Tryz.zeroValue52
 i3:=by kernel_rfl }
open Go.RowKit Go.Lib in
theorem Tryz.slices_Clone_int (b off n c:Nat) (zs:List Int) (w:World) (hz:n≤zs.length) (hbig:n * 8≤140737488355328) (hc:∀ j,j < zs.length→w.cell? ⟨b,off+j,none⟩=some (.int .i64 (zs.getD j 0))) :
  Calls Tryz.prog 56 #[.slice (some ⟨b,off,none⟩) n c] w fun e w'=>∃ v',e=.returned v'∧w'.ownsRow w.heap.size 3 1 v' n ((zs.take n).map (Value.int .i64))∧v'≠.slice none 0 0∧Below w.heap.size w w':=Any.slices_Clone_int Tryz.laysNm215 b off n c zs w hz hbig hc
open Go.RowKit Go.Lib in
theorem Tryz.slices_Clone_int_nil (n c:Nat) (w:World) :
  Calls Tryz.prog 56 #[.slice none n c] w fun e w'=>e=.returned (.slice none 0 0)∧w'=w:=Any.slices_Clone_int_nil Tryz.laysNm215 n c w
open Go.RowKit Go.Lib in
theorem Tryz.slices_Clone_int_zero (a:Addr) (c:Nat) (w:World) :
  Calls Tryz.prog 56 #[.slice (some a) 0 c] w fun e w'=>∃ v',e=.returned v'∧w'.ownsRow w.heap.size 3 1 v' 0 []∧v'≠.slice none 0 0∧Below w.heap.size w w':=Any.slices_Clone_int_zero Tryz.laysNm215 a c w
end Go.Proofs
namespace Go.Proofs.YticnkpgmmpenlaaGreatDoor.Sc
open Go Go.Ab Go.RowKit
variable {Γ:Nat→AV}
def J0 (n:Int):Bool:=decide (n=95) || (decide (48≤n) && decide (n≤57)) || (decide (65≤n) && decide (n≤90)) || (decide (97≤n) && decide (n≤122))
theorem B7i {n:Int} (h:128≤n):J0 n=false:=by
 simp [J0];omega
theorem D76 (x:Nat) (W:World):FnGives Tryz.prog 237 #[] #[encR x] (.bool (!J0 x)) W:=by
 unfold FnGives encR
 go_enter Tryz.func237,Tryz.ntmps237
 go_wp2
 all_goals go_ret
 all_goals refine ⟨congrArg (fun b=>Ending.returned (Value.bool b)) ?_,0,rfl⟩
 all_goals grind [J0]
theorem C9c (l:List UInt8):Lib.idxFunc (fun x=>!J0 x) true ⟨l.toArray⟩ < 0↔(l.all fun c=>J0 c.toNat)=true:=by
 have key:∀ (f pos:Nat),l.length≤pos+f→(Lib.idxFuncFrom (fun x=>!J0 x) true ⟨l.toArray⟩ f pos < 0↔((l.drop pos).all fun c=>J0 c.toNat)=true):=by
  intro f
  induction f with
  | zero =>
   intro pos h
   rw [C6 (by omega)]
   simp [Lib.idxFuncFrom]
  | succ f ih =>
   intro pos h
   simp only [Lib.idxFuncFrom]
   have hsz:(⟨l.toArray⟩:ByteArray).size=l.length:=rfl
   by_cases hp:pos < l.length
   ·rw [if_pos (by rw [hsz];exact hp),A0x hp]
    have hget:((⟨l.toArray⟩:ByteArray)[pos]'(by rw [hsz];exact hp))=A7 l pos:=by
     simp [A7,List.getD,hp]
     rfl
    by_cases ha:(A7 l pos).toNat < 128
    ·have hd:=decode_ascii ⟨l.toArray⟩ pos (by rw [hsz];exact hp) (by rw [hget];exact ha)
     rw [hget] at hd
     rw [hd]
     simp only [List.all_cons]
     cases hw:J0 ((A7 l pos).toNat:Int) with
     | true =>
      simp only [Bool.not_true,Bool.false_eq_true,if_false,Bool.true_and]
      exact ih (pos+1) (by omega)
     | false=>simp
    ·have hd:=decode_high ⟨l.toArray⟩ pos (by rw [hsz];exact hp) (by rw [hget];omega)
     have h1:J0 ((Utf8.decode ⟨l.toArray⟩ pos).1:Int)=false:=B7i (by omega)
     have h2:J0 ((A7 l pos).toNat:Int)=false:=B7i (by omega)
     rw [if_pos (by rw [h1];rfl)]
     simp [h2]
   ·rw [if_neg (by rw [hsz];exact hp),C6 hp]
    simp
 have:=key l.length 0 (by omega)
 rw [List.drop_zero] at this
 exact this
theorem B0n (l:List UInt8):A5 Tryz.prog Γ 238 [.str l,.func (.func 237) [] []] fun v=>v=.int .i64 (Lib.idxFunc (fun x=>!J0 x) true ⟨l.toArray⟩):=by
 intro s
 refine A0.of_below fun G w vs hm hr=>?_
 obtain ⟨u,us,rfl,hu,hus⟩:=A6.1 hr
 obtain ⟨u1,us1,rfl,hu1,hus1⟩:=A6.1 hus
 rw [A9] at hus1;subst hus1
 rw [H9] at hu;subst hu
 obtain ⟨a,b,rfl,ha,hb⟩:=A9e.1 hu1
 rw [A9] at ha hb
 obtain rfl:a = #[]:=by cases a;simp_all
 obtain rfl:b = #[]:=by cases b;simp_all
 exact ⟨_,fun G' w'=>E9.2 rfl,Tryz.strings_IndexFunc 237 #[] (enters_of Tryz.func237 (by kernel_rfl) rfl) (fun x=>!J0 x) ⟨l.toArray⟩ w fun W x _=>D76 x W⟩
attribute [local irreducible] A5 Sto.set Sto.grow
def spelt (l:List UInt8):Bool:=decide (1≤l.length) && decide (l.length≤32) && !(decide (48≤(A7 l 0).toNat) && decide ((A7 l 0).toNat≤57)) && l.all fun c=>J0 c.toNat
theorem B2 {a b:Bool} (h:a=b):AV.bool a=.bool b:=by rw [h]
theorem B3b {l:List UInt8} (h1:(48:Int)≤(A7 l 0).toNat) (h2:((A7 l 0).toNat:Int)≤57):spelt l=false:=by
 simp [spelt];intro _ _ h;omega
theorem A9v {l:List UInt8} (h1:1≤l.length) (h2:l.length≤32) (h3:¬ ((48:Int)≤(A7 l 0).toNat∧((A7 l 0).toNat:Int)≤57)):spelt l=l.all fun c=>J0 c.toNat:=by
 unfold spelt
 rw [decide_eq_true h1,decide_eq_true h2]
 have:(decide (48≤(A7 l 0).toNat) && decide ((A7 l 0).toNat≤57))=false:=by
  rw [← Bool.not_eq_true,Bool.and_eq_true,decide_eq_true_iff,decide_eq_true_iff];omega
 rw [this]
 rfl
theorem C6a {l:List UInt8} {i:Nat} (hi:i < l.length) (h:J0 (A7 l i).toNat=false):spelt l=false:=by
 have:(l.all fun c=>J0 c.toNat)=false:=by
  rw [← Bool.not_eq_true,List.all_eq_true]
  intro hh
  have hm:A7 l i ∈ l:=by simp [A7,List.getD,hi]
  rw [hh _ hm] at h
  cases h
 unfold spelt
 rw [this,Bool.and_false]
theorem A2c (l:List UInt8):A5 Tryz.prog Γ 196 [.str l] fun v=>v=.bool (spelt l):=by
 have hb:decide (Lib.idxFunc (fun x=>!J0 x) true ⟨l.toArray⟩ < 0)=l.all fun c=>J0 c.toNat:=by
  rw [Bool.eq_iff_iff,decide_eq_true_iff];exact C9c l
 rcases Nat.eq_zero_or_pos l.length with hz|hpos
 ·obtain rfl:=List.eq_nil_of_length_eq_zero hz
  refine aps Tryz.func196 ?_
  intro s
  refine wr ?_
  all_goals rfl
 refine aps Tryz.func196 ?_
 intro s
 conv=>whnf
 repeat' (first
  | (refine ⟨Sub.refl _,?_⟩)
  | (refine F2 (fun h=>?_) (fun h=>?_)<;>(try rw [h])<;>(try simp only [Bool.false_eq_true,Bool.true_eq_false,↓reduceIte,decide_eq_true_eq,decide_eq_false_iff_not,Bool.not_eq_true',Bool.not_eq_false'] at h)<;>(conv=>whnf))
  | (refine A0.pure' ?_ (B0n _);rintro _ rfl;conv=>whnf)
  | (refine A8.pure ?_ (B0n _);conv=>whnf)
  | (refine D8 ?_;conv=>whnf)
  | (refine AWp.any (by kernel_rfl) (by kernel_rfl) (by kernel_rfl) ?_;conv=>whnf)
  | (apply And.intro;(focus (first|omega|rfl|decide|exact Nat.le_of_ble_eq_true rfl|((repeat' (first|exact all_nil|refine all_cons ?_ ?_|rfl|fail));done)|(simp [-List.length_flatMap];done)|(simp [-List.length_flatMap];omega)|fail));conv=>whnf)
  | fail)
 all_goals simp only [show Int.toNat 0=0 from rfl,A3e] at *
 ·subst h;simp at hpos
 ·refine B2 ?_
  simp [spelt];omega
 ·exact B2 (B3b (by omega) (by omega)).symm
 ·refine B2 ?_
  rw [hb,A9v (by omega) (by omega) (by omega)]
 ·refine B2 ?_
  rw [hb,A9v (by omega) (by omega) (by omega)]
theorem B28 (l:List UInt8):A5 Tryz.prog Γ 97 [.str l] fun v=>v=.bool (spelt l):=by
  refine aps Tryz.func97 ?_
  intro s
  conv=>whnf
  repeat' (first
    | (refine ⟨Sub.refl _,?_⟩)
    | (refine F2 (fun h=>?_) (fun h=>?_)<;>(try rw [h])<;>(try simp only [Bool.false_eq_true,Bool.true_eq_false,↓reduceIte,decide_eq_true_eq,decide_eq_false_iff_not,Bool.not_eq_true',Bool.not_eq_false'] at h)<;>(conv=>whnf))
    | (refine D8 ?_;conv=>whnf)
    | (refine AWp.any (by kernel_rfl) (by kernel_rfl) (by kernel_rfl) ?_;conv=>whnf)
    | (apply And.intro;(focus (first|omega|rfl|decide|exact Nat.le_of_ble_eq_true rfl|((repeat' (first|exact all_nil|refine all_cons ?_ ?_|rfl|fail));done)|(simp [-List.length_flatMap];done)|(simp [-List.length_flatMap];omega)|fail));conv=>whnf)
    | fail)
  · refine B2 ?_
    simp [spelt];omega
  · refine B2 ?_
    simp [spelt];omega
  refine AWp.loopA [3] [14,15,16,17,20,21,22,4,23,24,25,26,27,28,29,30,31,32,33,34,35,36,37,38,39,40,5,41,42,43,44,45,46,47,48,49,50,51,52,53,54,2,18,19] (fun i:Nat=>[.int .i64 i]) (fun i s'=>i≤l.length∧s'=s∧((l.take i).all fun c=>J0 c.toNat)=true∧(0 < i→¬ ((48:Int)≤(A7 l 0).toNat∧((A7 l 0).toNat:Int)≤57))) (fun i=>l.length - i) (0) (by kernel_rfl) (by (repeat' (first|refine B5 ?_ ?_|refine D4 ?_ ?_ ?_|rfl|omega))) ?_ ?_
  · exact ⟨by omega,rfl,rfl,fun h=>by omega⟩
  · rintro y i _ ⟨hi,rfl,hp,hq⟩
    have hb:=B1j (A7 l i)
    conv=>whnf
    repeat' (first
      | (exfalso;first|omega|exact (by assumption:¬ True) trivial|fail)
      | (refine ⟨Sub.refl _,?_⟩)
      | (refine F2 (fun h=>?_) (fun h=>?_)<;>(try rw [h])<;>(try simp only [Bool.false_eq_true,Bool.true_eq_false,↓reduceIte,decide_eq_true_eq,decide_eq_false_iff_not,Bool.not_eq_true',Bool.not_eq_false'] at h)<;>(conv=>whnf))
      | (refine D8 ?_;conv=>whnf)
      | (refine AWp.any (by kernel_rfl) (by kernel_rfl) (by kernel_rfl) ?_;conv=>whnf)
      | (apply And.intro;(focus (first|omega|rfl|decide|exact Nat.le_of_ble_eq_true rfl|((repeat' (first|exact all_nil|refine all_cons ?_ ?_|rfl|fail));done)|(simp [-List.length_flatMap];done)|(simp [-List.length_flatMap];omega)|fail));conv=>whnf)
      | fail)
    all_goals try simp only [Int.toNat_natCast] at *
    all_goals first
      | (refine ⟨i+1,by (repeat' (first|refine B5 ?_ ?_|refine D4 ?_ ?_ ?_|rfl|omega)),by (repeat (first|exact M1.refl _ _|refine M1.upd rfl ?_|refine M1.updL rfl ?_|refine M1.havoc rfl ?_)),⟨by omega,(by first|rfl|trivial),?_,?_⟩,by omega⟩
         · rw [A8u (by omega),List.all_append,hp]
           simp [J0];omega
         · intro _
           rcases Nat.eq_zero_or_pos i with h0|h0
           · subst h0;omega
           · exact hq h0)
      | (refine B2 ?_
         cases hw:J0 (A7 l i).toNat
         · exact (C6a (by omega) hw).symm
         · simp [J0] at hw
           have h0:i=0:=by omega
           subst h0
           exact (B3b (by omega) (by omega)).symm)
      | (refine B2 ?_
         have ht:l.take i=l:=List.take_of_length_le (by omega)
         rw [ht] at hp
         rw [A9v (by omega) (by omega) (hq (by omega))]
         exact hp.symm)
def words:List (List UInt8):=[[97,99,99,101,112,116],[97,108,115,111],[97,110,100],[98,111,111,108],[100,111],[101,118,101,110,116],[101,120,105,115,116,115],[102,97,108,115,101],[102,111,114,97,108,108],[102,114,101,101],[105,102],[105,110,116],[110,101,120,116],[110,111,116],[111,110],[111,114],[113,101,97],[115,107,105,112],[115,116,97,114,116],[115,116,114,105,110,103],[116,111],[116,114,117,101]]
def A7l:List (List UInt8)→List UInt8→Int
 | [],_=>-1
 | b::l,s=>if s=b then 0 else if A7l l s = -1 then -1 else A7l l s+1
theorem C0r:∀ (l:List (List UInt8)) (s:List UInt8),-1≤A7l l s∧A7l l s < l.length
 | [],s=>by simp [A7l]
 | b::l,s=>by have:=C0r l s;simp only [A7l,List.length_cons];split<;>(try split)<;>omega
theorem B5b:∀ (l:List (List UInt8)) (s:List UInt8),0≤A7l l s↔s ∈ l
 | [],s=>by simp [A7l]
 | b::l,s=>by
  have ih:=B5b l s
  have:=C0r l s
  simp only [A7l,List.mem_cons]
  split
  ·simp [*]
  ·rename_i hne
   split
   ·rename_i h1
    rw [h1] at ih
    constructor
    ·intro h;omega
    ·rintro (h|h)
     ·exact absurd h hne
     ·exact absurd (ih.2 h) (by omega)
   ·rw [← ih]
    constructor
    ·intro h;right;omega
    ·rintro (h|h)
     ·exact absurd h hne
     ·omega
def A3r (i:Nat) (k:Int):Int:=if k = -1 then -1 else i+k
theorem X4 (t:Nat) (l:List (List UInt8)) (x:List UInt8) (hl:l.length≤140737488355328):A5 Tryz.prog Γ 261 [.slice t (B8 l),.str x] fun v=>v=.int .i64 (A7l l x):=by
 have hbl:=A14 l
 refine aps Tryz.func261 ?_
 intro s
 conv=>whnf
 refine AWp.loopA [8] [9,10,5,11,12,13,14,15,16,17,4,18] (fun i:Nat=>[.int .i64 i]) (fun i s'=>i≤l.length∧s'=s∧A7l l x=A3r i (A7l (l.drop i) x)) (fun i=>l.length - i) (0) (by kernel_rfl) (by (repeat' (first|refine B5 ?_ ?_|refine D4 ?_ ?_ ?_|rfl|omega))) ?_ ?_
 ·exact ⟨by omega,rfl,by simp [A3r]⟩
 ·rintro y i _ ⟨hi,rfl,hp⟩
  conv=>whnf
  repeat' (first
   | (refine ⟨Sub.refl _,?_⟩)
   | (refine F2 (fun h=>?_) (fun h=>?_)<;>(try rw [h])<;>(try simp only [Bool.false_eq_true,Bool.true_eq_false,↓reduceIte,decide_eq_true_eq,decide_eq_false_iff_not,Bool.not_eq_true',Bool.not_eq_false'] at h)<;>(conv=>whnf))
   | (rw [B2j (by omega)];conv=>whnf)
   | (refine D8 ?_;conv=>whnf)
   | (refine AWp.any (by kernel_rfl) (by kernel_rfl) (by kernel_rfl) ?_;conv=>whnf)
   | (apply And.intro;(focus (first|omega|rfl|decide|exact Nat.le_of_ble_eq_true rfl|((repeat' (first|exact all_nil|refine all_cons ?_ ?_|rfl|fail));done)|(simp [-List.length_flatMap];done)|(simp [-List.length_flatMap];omega)|fail));conv=>whnf)
   | fail)
  ·simp only [Int.toNat_natCast] at h
   rw [hp,C2e (by omega),A7l,if_pos h]
   simp [A3e,A3r]
  ·simp only [Int.toNat_natCast] at h
   refine ⟨i+1,by (repeat' (first|refine B5 ?_ ?_|refine D4 ?_ ?_ ?_|rfl|omega)),by (repeat (first|exact M1.refl _ _|refine M1.upd rfl ?_|refine M1.updL rfl ?_|refine M1.havoc rfl ?_)),⟨by omega,rfl,?_⟩,by omega⟩
   rw [hp,C2e (i:=i) (by omega),A7l,if_neg h]
   have:=C0r (l.drop (i+1)) x
   grind [A3r]
  ·rw [hp,C6 (by omega)]
   simp [A3e,A3r,A7l]
theorem U8 (t:Nat) (l:List (List UInt8)) (x:List UInt8) (hl:l.length≤140737488355328):A5 Tryz.prog Γ 239 [.slice t (B8 l),.str x] fun v=>v=.bool (decide (0≤A7l l x)):=by
 refine aps Tryz.func239 ?_
 intro s
 refine wr ?_;(first|(refine A0.pure' ?_ (X4 _ _ _ hl);rintro _ rfl)|refine A8.pure ?_ (X4 _ _ _ hl));refine wr ?_
 rfl
end Go.Proofs.YticnkpgmmpenlaaGreatDoor.Sc
namespace Go.Proofs.YticnkpgmmpenlaaGreatDoor.Sc
open Go Go.Ab Go.RowKit
variable {Γ:Nat→AV}
attribute [local irreducible] A5 Sto.set Sto.grow
def Wds (Γ:Nat→AV):Prop:=Γ 4=.cptr (words.map .str)
def A9m (l:List UInt8):Bool:=spelt l && decide (0≤A7l words l)
def C4 (l:List UInt8):Bool:=spelt l && !A9m l && !decide (l=[95])
theorem A6l (hT:Wds Γ) (l:List UInt8):A5 Tryz.prog Γ 197 [.str l] fun v=>v=.bool (A9m l):=by
 refine aps Tryz.func197 ?_
 intro s
 conv=>whnf
 repeat' (first
  | (refine ⟨Sub.refl _,?_⟩)
  | (refine F2 (fun h=>?_) (fun h=>?_)<;>(try rw [h])<;>(try simp only [Bool.false_eq_true,Bool.true_eq_false,↓reduceIte,decide_eq_true_eq,decide_eq_false_iff_not,Bool.not_eq_true',Bool.not_eq_false'] at h)<;>(conv=>whnf))
  | (refine A0.pure' ?_ (A2c _);rintro _ rfl;conv=>whnf)
  | (refine A8.pure ?_ (A2c _);conv=>whnf)
  | (rw [A5a,hT];conv=>whnf)
  | (refine A0.pure' ?_ (U8 0 words _ (by decide));rintro _ rfl;conv=>whnf)
  | (refine A8.pure ?_ (U8 0 words _ (by decide));conv=>whnf)
  | (refine D8 ?_;conv=>whnf)
  | (refine AWp.any (by kernel_rfl) (by kernel_rfl) (by kernel_rfl) ?_;conv=>whnf)
  | (apply And.intro;(focus (first|omega|rfl|decide|exact Nat.le_of_ble_eq_true rfl|((repeat' (first|exact all_nil|refine all_cons ?_ ?_|rfl|fail));done)|(simp [-List.length_flatMap];done)|(simp [-List.length_flatMap];omega)|fail));conv=>whnf)
  | fail)
 all_goals simp [A3e,A9m, *]
theorem P2 (hT:Wds Γ) (l:List UInt8):A5 Tryz.prog Γ 120 [.str l] fun v=>v=.bool (C4 l):=by
 refine aps Tryz.func120 ?_
 intro s
 conv=>whnf
 repeat' (first
  | (refine ⟨Sub.refl _,?_⟩)
  | (refine F2 (fun h=>?_) (fun h=>?_)<;>(try rw [h])<;>(try simp only [Bool.false_eq_true,Bool.true_eq_false,↓reduceIte,decide_eq_true_eq,decide_eq_false_iff_not,Bool.not_eq_true',Bool.not_eq_false'] at h)<;>(conv=>whnf))
  | (refine A0.pure' ?_ (A2c _);rintro _ rfl;conv=>whnf)
  | (refine A8.pure ?_ (A2c _);conv=>whnf)
  | (refine A0.pure' ?_ (A6l hT _);rintro _ rfl;conv=>whnf)
  | (refine A8.pure ?_ (A6l hT _);conv=>whnf)
  | (refine D8 ?_;conv=>whnf)
  | (refine AWp.any (by kernel_rfl) (by kernel_rfl) (by kernel_rfl) ?_;conv=>whnf)
  | (apply And.intro;(focus (first|omega|rfl|decide|exact Nat.le_of_ble_eq_true rfl|((repeat' (first|exact all_nil|refine all_cons ?_ ?_|rfl|fail));done)|(simp [-List.length_flatMap];done)|(simp [-List.length_flatMap];omega)|fail));conv=>whnf)
  | fail)
 all_goals simp [A3e,C4, *]
theorem E6 (hT:Wds Γ) (l:List UInt8) (_:l.length≤9223372036854775807):A5 Tryz.prog Γ 120 [.str l] fun v=>v=.bool (C4 l):=P2 hT l
theorem B29:A5 Tryz.prog Γ 96 [] fun v=>v=.slice 1 (B8 words):=by
 refine aps Tryz.func96 ?_
 intro s
 refine wr ?_
 rfl
theorem C2z {l:List UInt8} (h:l ∈ words):C4 l=false:=by
 unfold C4 A9m
 rw [decide_eq_true ((B5b words l).2 h)]
 cases spelt l<;>rfl
theorem B22 {l:List UInt8} (h:¬ l ∈ words):C4 l=(spelt l && !decide (l=[95])):=by
 unfold C4 A9m
 rw [decide_eq_false (fun hh=>h ((B5b words l).1 hh))]
 simp
theorem D2o {l:List UInt8} (h:∀ j,j < words.length→¬ words.getD j []=l):¬ l ∈ words:=by
 intro hm
 obtain ⟨j,hj,he⟩:=List.getElem_of_mem hm
 refine h j hj ?_
 simp [List.getD,hj,he]
theorem S9 (l:List UInt8):A5 Tryz.prog Γ 39 [.str l] fun v=>v=.bool (C4 l):=by
 have hwl:(B8 words).length=words.length:=A14 words
 have hw:words.length=22:=rfl
 refine aps Tryz.func39 ?_
 intro s
 conv=>whnf
 repeat' (first
  | (refine ⟨Sub.refl _,?_⟩)
  | (refine F2 (fun h=>?_) (fun h=>?_)<;>(try rw [h])<;>(try simp only [Bool.false_eq_true,Bool.true_eq_false,↓reduceIte,decide_eq_true_eq,decide_eq_false_iff_not,Bool.not_eq_true',Bool.not_eq_false'] at h)<;>(conv=>whnf))
  | (refine A0.pure' ?_ (B29);rintro _ rfl;conv=>whnf)
  | (refine A8.pure ?_ (B29);conv=>whnf)
  | (refine D8 ?_;conv=>whnf)
  | (refine AWp.any (by kernel_rfl) (by kernel_rfl) (by kernel_rfl) ?_;conv=>whnf)
  | (apply And.intro;(focus (first|omega|rfl|decide|exact Nat.le_of_ble_eq_true rfl|((repeat' (first|exact all_nil|refine all_cons ?_ ?_|rfl|fail));done)|(simp [-List.length_flatMap];done)|(simp [-List.length_flatMap];omega)|fail));conv=>whnf)
  | fail)
 refine AWp.loopA [4] [6,7,8,9,12,13,14,15,16,17,2,10,11] (fun i:Nat=>[.int .i64 i]) (fun i s'=>i≤22∧s'=s∧∀ j,j < i→¬ words.getD j []=l) (fun i=>22 - i) (0) (by kernel_rfl) (by (repeat' (first|refine B5 ?_ ?_|refine D4 ?_ ?_ ?_|rfl|omega))) ?_ ?_
 ·exact ⟨by omega,rfl,fun j hj=>by omega⟩
 ·rintro y i _ ⟨hi,rfl,hp⟩
  conv=>whnf
  repeat' (first
   | (refine ⟨Sub.refl _,?_⟩)
   | (refine F2 (fun h=>?_) (fun h=>?_)<;>(try rw [h])<;>(try simp only [Bool.false_eq_true,Bool.true_eq_false,↓reduceIte,decide_eq_true_eq,decide_eq_false_iff_not,Bool.not_eq_true',Bool.not_eq_false'] at h)<;>(conv=>whnf))
   | (rw [B2j (by omega)];conv=>whnf)
   | (refine A0.pure' ?_ (B28 _);rintro _ rfl;conv=>whnf)
   | (refine A8.pure ?_ (B28 _);conv=>whnf)
   | (refine D8 ?_;conv=>whnf)
   | (refine AWp.any (by kernel_rfl) (by kernel_rfl) (by kernel_rfl) ?_;conv=>whnf)
   | (apply And.intro;(focus (first|omega|rfl|decide|exact Nat.le_of_ble_eq_true rfl|((repeat' (first|exact all_nil|refine all_cons ?_ ?_|rfl|fail));done)|(simp [-List.length_flatMap];done)|(simp [-List.length_flatMap];omega)|fail));conv=>whnf)
   | fail)
  ·simp only [Int.toNat_natCast] at h
   have hm:l ∈ words:=by
    rw [← h]
    simp only [List.getD,List.getElem?_eq_getElem (show i < words.length by omega),Option.getD_some]
    exact List.getElem_mem _
   rw [C2z hm]
   rfl
  ·simp only [Int.toNat_natCast] at h
   refine ⟨i+1,by (repeat' (first|refine B5 ?_ ?_|refine D4 ?_ ?_ ?_|rfl|omega)),by (repeat (first|exact M1.refl _ _|refine M1.upd rfl ?_|refine M1.updL rfl ?_|refine M1.havoc rfl ?_)),⟨by omega,rfl,fun j hj=>?_⟩,by omega⟩
   by_cases hji:j=i
   ·subst hji;exact h
   ·exact hp j (by omega)
  ·have hn:¬ l ∈ words:=D2o (fun j hj=>hp j (by omega))
   rw [B22 hn,h]
   rfl
  ·have hn:¬ l ∈ words:=D2o (fun j hj=>hp j (by omega))
   rw [B22 hn,h]
   rfl
end Go.Proofs.YticnkpgmmpenlaaGreatDoor.Sc
namespace Go.Proofs.YticnkpgmmpenlaaGreatDoor.Qu
open Go Go.Ab
attribute [local irreducible] A5 Sto.set Sto.grow
variable {Γ:Nat→AV}
def A4n (n:Int):Bool:=decide (32≤n) && decide (n≤126) && !decide (n=34) && !decide (n=92)
theorem B1e (n:Int):A5 Tryz.prog Γ 210 [.int .u8 n] fun v=>v=.bool (A4n n):=by
 refine aps Tryz.func210 ?_
 intro s
 conv=>whnf
 repeat' (first
  | (refine ⟨Sub.refl _,?_⟩)
  | (refine F2 (fun h=>?_) (fun h=>?_)<;>(try rw [h])<;>(try simp only [Bool.false_eq_true,Bool.true_eq_false,↓reduceIte,decide_eq_true_eq,decide_eq_false_iff_not,Bool.not_eq_true',Bool.not_eq_false'] at h)<;>(conv=>whnf))
  | (refine D8 ?_;conv=>whnf)
  | (refine AWp.any (by kernel_rfl) (by kernel_rfl) (by kernel_rfl) ?_;conv=>whnf)
  | (apply And.intro;(focus (first|omega|rfl|decide|exact Nat.le_of_ble_eq_true rfl|((repeat' (first|exact all_nil|refine all_cons ?_ ?_|rfl|fail));done)|(simp [-List.length_flatMap];done)|(simp [-List.length_flatMap];omega)|fail));conv=>whnf)
  | fail)
 all_goals grind [A4n,A3e]
def W6 (l:List UInt8):Bool:=l.all fun c=>A4n c.toNat
def A55:List UInt8:=[48,49,50,51,52,53,54,55,56,57,97,98,99,100,101,102]
def D6z (n:Int):UInt8:=A7 A55 n.toNat
def one (n:Int):List UInt8 :=
 if n=34 then [92,34] else if n=92 then [92,92] else if n=10 then [92,110] else if n=13 then [92,114] else if n=9 then [92,116]
 else if n < 32∨126 < n then [92,120,D6z (n / 16),D6z (n % 16)] else [UInt8.ofNat n.toNat]
theorem C9u (c:UInt8):A4n c.toNat=true→one c.toNat=[c]:=by
 intro h
 have:UInt8.ofNat ((c.toNat:Int).toNat)=c:=by simp
 grind [one,A4n]
theorem C06 (c:UInt8):1≤(one c.toNat).length:=by grind [one]
theorem C05 (n:Int):(one n).length≤4:=by grind [one]
def A1w (l:List UInt8):List UInt8:=34::l.flatMap (fun c=>one c.toNat)++[34]
end Go.Proofs.YticnkpgmmpenlaaGreatDoor.Qu
namespace Go.Proofs.YticnkpgmmpenlaaGreatDoor.Bd
open Go Go.Ab Go.RowKit
variable {Γ:Nat→AV}
structure Bld (s s':Sto) (b:Nat) (l:List UInt8):Prop where
 new:s.bx b=none
 at_:∃ p t,s'.bx b=some (149,[.ptr p,.slice t (H8 l)])∧(p=none∨p=some ⟨b,0,none⟩)∧Own s s' l.isEmpty t 5 1
section
variable {G:Gh} {s:Sto} {w:World}
theorem B6t {b:Nat} {T:TypeId} {cs:List AV} (h:s.bx b=some (T,cs)):s.set b T cs=s:=by
 cases s
 simp only [Sto.set,Sto.mk.injEq,and_true]
 funext i
 split
 ·rename_i hi;subst hi;exact h.symm
 ·rfl
theorem A99 {b:Nat} {p:Option Addr} {x:AV} (hb:s.bx b=some (149,[.ptr p,x])) (hp:p=none∨p=some ⟨b,0,none⟩) :
  A0 Tryz.prog Γ 146 [.ptr (some ⟨b,0,none⟩)] s fun v s'=>v=.tuple []∧s'=s.set b 149 [.ptr (some ⟨b,0,none⟩),x]:=by
 refine ⟨fun G w vs hm hr=>?_⟩
 obtain ⟨u,us,rfl,hu,hus⟩:=A6.1 hr
 rw [A9] at hus;subst hus
 rw [P4] at hu;subst hu
 obtain ⟨_,cs,hh,hcs⟩:=hm.box b _ _ hb
 obtain ⟨c0,cs',rfl,h0,h1⟩:=A6.1 hcs
 obtain ⟨c1,cs'',rfl,hx,h2⟩:=A6.1 h1
 rw [A9] at h2;subst h2
 rw [P4] at h0;subst h0
 have hcell:w.cell? ⟨b,0,none⟩=some (.pointer p):=by rw [Lib.cell_of_heap hh];rfl
 have hsh:w.shape? b=some (149,2):=by simp [World.shape?,hh]
 have hfz:w.frozen? ⟨b,0,none⟩=false:=Lib.frozen_of_heap hh 0
 have hsz:(Tryz.prog.info? 149).map (·.size)=some 2:=by kernel_rfl
 obtain ⟨j,hj,hjs⟩:=Option.map_eq_some_iff.1 hsz
 rcases hp with rfl|rfl
 ·refine Calls.mono (R:=fun e w'=>e=.returned (.tuple #[])∧w'=w.setCell ⟨b,0,none⟩ (.pointer (some ⟨b,0,none⟩))) ?_ ?_
  ·go_enter Tryz.func146,Tryz.ntmps146
   go_wp2
   rw [Lib.run_to_unsafe w ⟨b,0,none⟩ Tryz.underlying146 Tryz.underlying202 hj (by rw [hjs];decide) hsh (Nat.zero_lt_succ 1)]
   simp only [Result.andThen]
   rw [Oper.upon_value]
   go_wp2
   rw [run_callFunc_extern Tryz.func212 (by kernel_rfl) (by kernel_rfl) (by kernel_rfl) (e:=Extern.AbiNoEscape.same) (by kernel_rfl)]
   rw [Lib.run_noEscape]
   simp only [Result.andThen]
   rw [Oper.upon_value]
   go_wp2
   rw [Lib.run_from_unsafe w ⟨b,0,none⟩ Tryz.underlying202 Tryz.underlying146 hj hsh (by kernel_rfl)]
   simp only [Result.andThen]
   rw [Oper.upon_value]
   go_wp2
   go_end0
   exact ⟨rfl,rfl⟩
  ·rintro e w' ⟨rfl,rfl⟩
   have hlt:=A7c hm hb
   obtain ⟨m1,m2⟩:=hm.box_set (w':=w.setCell ⟨b,0,none⟩ (.pointer (some ⟨b,0,none⟩))) (T:=149) (cs':=[.ptr (some ⟨b,0,none⟩),x]) (vs:=[.pointer (some ⟨b,0,none⟩),c1]) hb
    (A6.2 ⟨_,_,rfl,P4.2 rfl,A6.2 ⟨_,_,rfl,hx,A9.2 rfl⟩⟩) rfl rfl rfl (by simp [World.setCell])
    (by simp [World.setCell,Array.getElem?_modify,hh]) (fun k hk=>by simp [World.setCell,Array.getElem?_modify,Ne.symm hk])
   exact ⟨_,_,_,G,rfl,⟨rfl,rfl⟩,A2a.2 ⟨#[],rfl,A9.2 rfl⟩,m1,m2⟩
 ·refine Calls.mono (R:=fun e w'=>e=.returned (.tuple #[])∧w'=w) ?_ ?_
  ·go_enter Tryz.func146,Tryz.ntmps146
   go_wp2
   rw [Lib.run_neq_ptr_same w _ Tryz.underlying146 hj]
   go_wp2
   go_end0
   exact ⟨rfl,rfl⟩
  ·rintro e w' ⟨rfl,rfl⟩
   exact ⟨_,.tuple [],s,G,rfl,⟨rfl,(B6t hb).symm⟩,A2a.2 ⟨#[],rfl,A9.2 rfl⟩,hm,Ext.refl _ _⟩
end
section
variable {G:Gh} {s:Sto} {w:World}
def Sto.spend (s:Sto) (t:Nat):Sto:={ s with lv:=fun u e k=>s.lv u e k∧u≠t }
theorem C2q (w:World) (a:Addr) (n:Nat) (x:Addr):(w.freeze a n).cell? x=w.cell? x:=by
 unfold World.freeze
 split
 ·rfl
 ·unfold World.cell?
  simp only [Array.getElem?_modify]
  by_cases h:a.block=x.block
  ·rw [if_pos h]
   cases w.heap[x.block]? with
   | none=>rfl
   | some o=>cases o<;>simp
  ·rw [if_neg h]
theorem A25 (w:World) (a:Addr) (n:Nat) (b:Nat) (h:b≠a.block):(w.freeze a n).heap[b]?=w.heap[b]?:=by
 unfold World.freeze
 split
 ·rfl
 ·simp only [Array.getElem?_modify]
  rw [if_neg (fun e=>h e.symm)]
theorem B20 (w:World) (a:Addr) (n:Nat):(w.freeze a n).heap.size=w.heap.size:=by
 unfold World.freeze
 split<;>simp
theorem C85 (w:World) (a:Addr) (n:Nat):(w.freeze a n).os=w.os∧(w.freeze a n).tape=w.tape∧(w.freeze a n).output=w.output:=by
 unfold World.freeze
 split<;>exact ⟨rfl,rfl,rfl⟩
theorem Mod.frozen (hm:Mod Γ G s w) {t g n:Nat} {e:TypeId} {k:Nat} (hl:s.lv t e k) (ht:Top G w t g e k):Mod Γ G (Sto.spend s t) (w.freeze ⟨g,0,none⟩ n)∧Ext G w G (w.freeze ⟨g,0,none⟩ n):=by
 have hkd:∃ r,G.kd g=.row r:=by
  obtain ⟨_,_,_,_,_,h3,_⟩:=ht
  exact ⟨_,h3⟩
 obtain ⟨r,hkd⟩:=hkd
 obtain ⟨o1,o2,o3⟩:=C85 w ⟨g,0,none⟩ n
 have X:Ext G w G (w.freeze ⟨g,0,none⟩ n):=⟨o1,o2,o3,by rw [B20];exact Nat.le_refl _,
  fun b hb=>⟨hb,A25 _ _ _ _ (by rintro rfl;rw [hkd] at hb;cases hb)⟩,
  fun b h hb=>⟨.inr ⟨h,Nat.le_refl _,hb⟩,fun o _=>C2q _ _ _ _⟩,fun _ _=>rfl⟩
 have other:∀ {u b e' k'},s.lv u e' k'→u≠t→Top G w u b e' k'→b≠g:=by
  rintro u b e' k' hu hne h rfl
  exact hne (hm.apart u t b e' k' e k hu hl h ht)
 refine ⟨⟨fun i=>(hm.glob i).mono X,?_,?_,?_,?_,hm.fin⟩,X⟩
 ·intro b T cs hb
  obtain ⟨h1,vs,h2,h3⟩:=hm.box b T cs hb
  exact ⟨h1,vs,(A25 _ _ _ _ (by rintro rfl;rw [hkd] at h1;cases h1)).trans h2,h3.mono X _ _⟩
 ·intro b hb
  rw [B20];exact hm.dom b hb
 ·rintro u e' k' ⟨hu,hne⟩
  obtain ⟨h0,h1,b,h2⟩:=hm.live u e' k' hu
  exact ⟨h0,h1,b,h2.mono rfl rfl (A25 _ _ _ _ (other hu hne h2))⟩
 ·rintro u v b e1 k1 e2 k2 ⟨hu,hne⟩ ⟨hv,hne'⟩ h1 h2
  by_cases hb:b=g
  ·subst hb
   exfalso
   obtain ⟨_,_,b',h3⟩:=hm.live u e1 k1 hu
   have hb':=other hu hne h3
   obtain ⟨_,_,_,h4,_⟩:=h1
   obtain ⟨_,_,_,h5,_⟩:=h3
   rw [h4] at h5
   injection h5 with h5;injection h5 with h5;injection h5 with h5
   exact hb' h5.symm
  ·have hh:=A25 w ⟨g,0,none⟩ n b hb
   exact hm.apart u v b e1 k1 e2 k2 hu hv (h1.mono rfl rfl hh.symm) (h2.mono rfl rfl hh.symm)
theorem B8c:∀ {l:List UInt8} {os:List Value},B6 G w (H8 l).flatten os→os=Lib.byteCells l
 | [],os,h=>A9.1 h
 | x::l,os,h=>by
  have h:B6 G w (.int .u8 x.toNat::(H8 l).flatten) os:=h
  obtain ⟨u,us,rfl,hu,hus⟩:=A6.1 h
  rw [E9] at hu
  rw [hu,B8c hus]
  rfl
end
theorem C75 {s s':Sto} {b:Nat} {l:List UInt8} (h:Bld s s' b l) (h0:l≠[]) (hmax:l.length≤9223372036854775807) :
  A0 Tryz.prog Γ 95 [.ptr (some ⟨b,0,none⟩)] s' fun v s''=>v=.str l∧Sub s s'':=by
 obtain ⟨hnew,p,t,hb,hp,ho⟩:=h
 refine ⟨fun G w vs hm hr=>?_⟩
 obtain ⟨u,us,rfl,hu,hus⟩:=A6.1 hr
 rw [A9] at hus;subst hus
 rw [P4] at hu;subst hu
 obtain ⟨_,cs,hh,hcs⟩:=hm.box b _ _ hb
 obtain ⟨c0,cs',rfl,hc0,h1⟩:=A6.1 hcs
 obtain ⟨c1,cs'',rfl,hx,h2⟩:=A6.1 h1
 rw [A9] at h2;subst h2
 rw [P4] at hc0;subst hc0
 obtain ⟨ht1,hlv,hno⟩:t≠1∧s'.lv t 5 1∧∀ e k,¬ s.lv t e k:=by
  rcases ho.own with ⟨_,hz⟩|h
  ·exact absurd (List.isEmpty_iff.1 hz) h0
  ·exact h
 obtain ⟨ht0,_,g,htop⟩:=hm.live t _ _ hlv
 have htop':=htop
 obtain ⟨len,cap,c,htk,hle,hkd,hhg,hcsz⟩:=htop
 have hval:=(A4d.1 hx).1 ht0 ht1
 rw [htk] at hval
 subst hval
 obtain ⟨a,cap',hv,_,_,hels,_⟩:=J7 hx
 injection hv with e1 e2 e3
 subst e1 e2 e3
 have hbl:(H8 l).length=l.length:=A3w l
 obtain ⟨b',o',k',ha,hel⟩:=hels (by intro hn;rw [hn] at hbl;exact h0 (List.eq_nil_of_length_eq_zero hbl.symm))
 injection ha with ha;injection ha with ha1 ha2;subst ha1 ha2
 obtain ⟨os,h3,h4,h5⟩:=Q9 _ hel
 have hos:os=Lib.byteCells l:=B8c h4
 subst hos
 have hhd:w.drew.heap[b]?=some (.cells #[.pointer p,.slice (some ⟨g,0,none⟩) (H8 l).length cap] 149 (0,0)):=hh
 have hc1:w.drew.cell? ⟨b,1,none⟩=some (.slice (some ⟨g,0,none⟩) l.length cap):=by rw [Lib.cell_of_heap hhd,hbl];rfl
 have hpos:0 < l.length:=List.length_pos_iff.2 h0
 have hcap:l.length≤cap:=by rw [← hbl];exact hle
 have hSD:(Builtin.unsafeSliceData_ #[147] 192 #[.slice (some ⟨g,0,none⟩) l.length cap]).run Tryz.prog w.drew=.ok (.pointer (some ⟨g,0,none⟩)) w.drew :=
  Lib.run_unsafeSliceData_row _ _ _ _ _ _ (by omega)
 have hgd:w.drew.heap[g]?=some (.cells c 5 (0,0)):=hhg
 have hmaxc:l.length≤9223372036854775807:=hmax
 have hUS:(Builtin.unsafeString_ #[192,3] 9 #[.pointer (some ⟨g,0,none⟩),.int .i64 l.length]).run Tryz.prog w.drew=.ok (.string ⟨l.toArray⟩) (w.drew.freeze ⟨g,0,none⟩ l.length):=by
  refine Lib.run_unsafeString_row w.drew 192 3 9 5 Tryz.underlying192 (by kernel_rfl) g c.size (by simp [World.shape?,hgd]) l h0 (by omega) hmaxc ?_
  intro j x hxj
  have:=h5 j (.int .u8 x.toNat) (by simp [Lib.byteCells,hxj])
  rw [Addr.add_lit];exact this
 refine Calls.mono (R:=fun e w'=>e=.returned (.string ⟨l.toArray⟩)∧w'=w.drew.freeze ⟨g,0,none⟩ l.length) ?_ ?_
 ·have mixed:Tryz.prog.follows .mixedOrders=true:=by kernel_rfl
  go_enter Tryz.func95,Tryz.ntmps95
  go_wp2
  go_region_o
  all_goals (go_wp2;go_ret;exact ⟨rfl,rfl⟩)
 ·rintro e w' ⟨rfl,rfl⟩
  obtain ⟨md,Xd⟩:=hm.drew
  obtain ⟨m1,m2⟩:=Mod.frozen md (n:=l.length) hlv (htop'.mono (w':=w.drew) (G':=G) rfl rfl rfl)
  exact ⟨_,.str l,Sto.spend s' t,G,rfl,⟨rfl,fun b x hx=>ho.sub.bx b x hx,fun u e k hu=>⟨ho.sub.lv u e k hu,by rintro rfl;exact hno _ _ hu⟩⟩,H9.2 rfl,m1,Xd.trans m2⟩
attribute [local irreducible] A5 Sto.set Sto.grow
theorem Bld.start {s:Sto} {b:Nat} (hb:s.bx b=none):Bld s (s.set b 149 [.ptr none,.slice 1 []]) b [] :=
 ⟨hb,none,1,A1,.inl rfl,Own.start ((Sub.refl s).set hb _ _) _ _⟩
theorem A9y {s s':Sto} {b:Nat} {l:List UInt8} (c:UInt8) (n:Int) (hn:n=c.toNat) (h:Bld s s' b l) (hl:l.length+1≤70368744177664) :
  A0 Tryz.prog Γ 144 [.ptr (some ⟨b,0,none⟩),.int .u8 n] s' fun v s''=>v=.nilIface∧Bld s s'' b (l++[c]):=by
 subst hn
 obtain ⟨h0,p,t,hb,hp,ho⟩:=h
 refine acs Tryz.func144 ?_
 conv=>whnf
 refine A0.by (A99 hb hp) ?_
 rintro _ _ ⟨rfl,rfl⟩
 conv=>whnf
 refine D8 ?_
 refine wr ?_
 have ho':Own s (s'.set b 149 [.ptr (some ⟨b,0,none⟩),.slice t (H8 l)]) l.isEmpty t 5 1:=ho.set h0
 refine ⟨ho'.may,A9g l,all_cons ⟨rfl,rfl⟩ all_nil,?_,?_⟩
 ·show ((H8 l).length+1) * (1+1)≤_
  rw [A3w];omega
 intro t' h1 h2
 have ho2:=ho'.grow h1 h2
 conv=>whnf
 refine B8y (D8 ?_)
 refine wr ?_
 refine ⟨_,Sub.refl _,rfl,h0,_,t',by rw [A4t];exact A1,.inr rfl,?_⟩
 have e:(l++[c]).isEmpty=(l.isEmpty && [[AV.int .u8 c.toNat]].isEmpty):=by simp
 rw [e]
 exact ho2.set h0
theorem B4c {s s':Sto} {b:Nat} {l:List UInt8} (m:List UInt8) (h:Bld s s' b l) (hl:l.length+m.length≤70368744177664) :
  A0 Tryz.prog Γ 94 [.ptr (some ⟨b,0,none⟩),.str m] s' fun v s''=>v=.tuple [.int .i64 m.length,.nilIface]∧Bld s s'' b (l++m):=by
 obtain ⟨h0,p,t,hb,hp,ho⟩:=h
 refine acs Tryz.func94 ?_
 conv=>whnf
 refine A0.by (A99 hb hp) ?_
 rintro _ _ ⟨rfl,rfl⟩
 conv=>whnf
 refine D8 ?_
 refine wr ?_
 have ho':Own s (s'.set b 149 [.ptr (some ⟨b,0,none⟩),.slice t (H8 l)]) l.isEmpty t 5 1:=ho.set h0
 refine ⟨ho'.may,A9g l,?_,?_⟩
 ·show ((H8 l).length+m.length) * (1+1)≤_
  rw [A3w];omega
 intro t' h1 h2
 have ho2:=ho'.grow h1 h2
 conv=>whnf
 refine B8y (D8 ?_)
 refine wr ?_
 refine ⟨_,Sub.refl _,rfl,h0,_,t',by rw [A4t];exact A1,.inr rfl,?_⟩
 have e:(l++m).isEmpty=(l.isEmpty && m.isEmpty):=by cases l<;>simp
 rw [e]
 exact ho2.set h0
end Go.Proofs.YticnkpgmmpenlaaGreatDoor.Bd
namespace Go.Proofs.YticnkpgmmpenlaaGreatDoor.Qu
open Go Go.Ab Go.Proofs.YticnkpgmmpenlaaGreatDoor.Bd
attribute [local irreducible] A5 Sto.set Sto.grow
variable {Γ:Nat→AV}
def M7:List UInt8→Int→Int
 | [],_=>-1
 | b::l,n=>if n=b.toNat then 0 else if M7 l n = -1 then -1 else M7 l n+1
theorem B5a:∀ (l:List UInt8) (n:Int),-1≤M7 l n∧M7 l n < l.length
 | [],n=>by simp [M7]
 | b::l,n=>by have:=B5a l n;simp only [M7,List.length_cons];split<;>(try split)<;>omega
def A3r (i:Nat) (k:Int):Int:=if k = -1 then -1 else i+k
theorem X4 (t:Nat) (l:List UInt8) (n:Int) (hl:l.length≤140737488355328):A5 Tryz.prog Γ 211 [.slice t (H8 l),.int .u8 n] fun v=>v=.int .i64 (M7 l n):=by
 have hbl:(H8 l).length=l.length:=A3w l
 refine aps Tryz.func211 ?_
 intro s
 conv=>whnf
 refine AWp.loopA [8] [9,10,5,11,12,13,14,15,16,17,4,18] (fun i:Nat=>[.int .i64 i]) (fun i s'=>i≤l.length∧s'=s∧M7 l n=A3r i (M7 (l.drop i) n)) (fun i=>l.length - i) (0) (by kernel_rfl) (by (repeat' (first|refine B5 ?_ ?_|refine D4 ?_ ?_ ?_|rfl|omega))) ?_ ?_
 ·exact ⟨by omega,rfl,by simp [A3r]⟩
 ·rintro x i _ ⟨hi,rfl,hp⟩
  conv=>whnf
  repeat' (first
   | (refine ⟨Sub.refl _,?_⟩)
   | (refine F2 (fun h=>?_) (fun h=>?_)<;>(try rw [h])<;>(try simp only [Bool.false_eq_true,Bool.true_eq_false,↓reduceIte,decide_eq_true_eq,decide_eq_false_iff_not,Bool.not_eq_true',Bool.not_eq_false'] at h)<;>(conv=>whnf))
   | (rw [C40 (by omega)];conv=>whnf)
   | (refine D8 ?_;conv=>whnf)
   | (refine AWp.any (by kernel_rfl) (by kernel_rfl) (by kernel_rfl) ?_;conv=>whnf)
   | (apply And.intro;(focus (first|omega|rfl|decide|exact Nat.le_of_ble_eq_true rfl|((repeat' (first|exact all_nil|refine all_cons ?_ ?_|rfl|fail));done)|(simp [-List.length_flatMap];done)|(simp [-List.length_flatMap];omega)|fail));conv=>whnf)
   | fail)
  ·rw [hp,A0x (by omega),M7,if_pos (by simp at h;exact h)]
   simp [A3e,A3r]
  ·refine ⟨i+1,by (repeat' (first|refine B5 ?_ ?_|refine D4 ?_ ?_ ?_|rfl|omega)),by (repeat (first|exact M1.refl _ _|refine M1.upd rfl ?_|refine M1.updL rfl ?_|refine M1.havoc rfl ?_)),⟨by omega,rfl,?_⟩,by omega⟩
   rw [hp,A0x (i:=i) (by omega),M7,if_neg (by simp at h;exact h)]
   have:=B5a (l.drop (i+1)) n
   grind [A3r]
  ·rw [hp,C6 (by omega)]
   simp [A3e,A3r,M7]
def marks:List UInt8:=[34,92,10,13,9]
def letters:List UInt8:=[34,92,110,114,116]
structure A1q (Γ:Nat→AV):Prop where
 marks:Γ 2=.cptr [.int .u8 34,.int .u8 92,.int .u8 10,.int .u8 13,.int .u8 9]
 letters:Γ 3=.cptr [.int .u8 34,.int .u8 92,.int .u8 110,.int .u8 114,.int .u8 116]
theorem D9h:∀ m:Nat,m < 256→(m:Int).fdiv (2 ^ min (Int.toNat 4) IntKind.u8.bits)=((m / 16:Nat):Int):=by decide +kernel
theorem D9k:∀ m:Nat,m < 256→IntKind.u8.wrap ((BitVec.ofInt IntKind.u8.bits (m:Int) &&& BitVec.ofInt IntKind.u8.bits 15).toNat:Nat)=((m % 16:Nat):Int):=by decide +kernel
theorem B4z:∀ m:Nat,m < 16→UInt8.ofNat (Int.toNat ((A7 A55 m).toNat:Nat))=A7 A55 m:=by decide +kernel
theorem C3k:∀ m:Nat,m < 256→A4n (m:Int)=false→¬ 0≤M7 marks (m:Int)→one (m:Int)=[92,120,A7 A55 (m / 16),A7 A55 (m % 16)]:=by decide +kernel
theorem B6i (hT:A1q Γ) (n:Int) (h0:0≤n) (h1:n < 256):A5 Tryz.prog Γ 145 [.int .u8 n] fun v=>v=.str (one n):=by
 obtain ⟨m,rfl⟩:∃ m:Nat,n=m:=⟨n.toNat,by omega⟩
 have hm:m < 256:=by omega
 refine aps Tryz.func145 ?_
 intro s
 conv=>whnf
 repeat' (first
  | (refine ⟨Sub.refl _,?_⟩)
  | (refine F2 (fun h=>?_) (fun h=>?_)<;>(try rw [h])<;>(try simp only [Bool.false_eq_true,Bool.true_eq_false,↓reduceIte,decide_eq_true_eq,decide_eq_false_iff_not,Bool.not_eq_true',Bool.not_eq_false'] at h)<;>(conv=>whnf))
  | (refine A0.pure' ?_ (B1e _);rintro _ rfl;conv=>whnf)
  | (refine A8.pure ?_ (B1e _);conv=>whnf)
  | (refine A0.pure' ?_ (X4 0 marks _ (by decide));rintro _ rfl;conv=>whnf)
  | (refine A8.pure ?_ (X4 0 marks _ (by decide));conv=>whnf)
  | (rw [A5a,hT.marks];conv=>whnf)
  | (rw [A5a,hT.letters];conv=>whnf)
  | (refine D8 ?_;conv=>whnf)
  | (refine AWp.any (by kernel_rfl) (by kernel_rfl) (by kernel_rfl) ?_;conv=>whnf)
  | (apply And.intro;(focus (first|omega|rfl|decide|exact Nat.le_of_ble_eq_true rfl|((repeat' (first|exact all_nil|refine all_cons ?_ ?_|rfl|fail));done)|(simp [-List.length_flatMap];done)|(simp [-List.length_flatMap];omega)|fail));conv=>whnf)
  | fail)
 ·grind [A3e,one,A4n]
 ·have hm5:m=34∨m=92∨m=10∨m=13∨m=9:=by grind [M7,marks]
  rcases hm5 with rfl|rfl|rfl|rfl|rfl
  all_goals refine wr ?_
  all_goals rfl
 rw [D9h m hm]
 refine wr ?_;(rw [D9k m hm]);refine wr ?_
 intro b hb
 refine wr ?_
 refine ⟨((Sub.refl _).set hb _ _).set hb _ _,?_⟩
 rename_i hs
 rw [C3k m hm hs h,← B4z (m / 16) (by omega),← B4z (m % 16) (by omega)]
 rfl
theorem B03 (hT:A1q Γ) (l:List UInt8) (hl:l.length≤4398046511104):A5 Tryz.prog Γ 92 [.str l] fun v=>v=.str (A1w l):=by
 have hlen:∀ i,((l.take i).flatMap fun c=>one c.toNat).length≤4 * l.length:=fun i=>by
  have:=A7j (fun c:UInt8=>one c.toNat) 4 (fun c=>C05 _) (l.take i)
  simp only [List.length_take] at this
  omega
 refine aps Tryz.func92 ?_
 intro s
 conv=>whnf
 intro b hb
 conv=>whnf
 refine A0.by (A9y 34 34 rfl (Bld.start hb) (by simp)) ?_
 rintro _ s1 ⟨rfl,hB⟩
 conv=>whnf
 refine AWp.loopA [8] [9,10,4,11,12,13,14,15,16] (fun i:Nat=>[.int .i64 i]) (fun i s'=>i≤l.length∧Bld s s' b (34::(l.take i).flatMap fun c=>one c.toNat)) (fun i=>l.length - i) (0) (by kernel_rfl) (by (repeat' (first|refine B5 ?_ ?_|refine D4 ?_ ?_ ?_|rfl|omega))) ?_ ?_
 ·exact ⟨by omega,hB⟩
 ·rintro x i s' ⟨hi,hB'⟩
  have h1:=hlen i
  have h2:=C05 (A7 l i).toNat
  have h3:=B1j (A7 l i)
  conv=>whnf
  repeat' (first
   | (refine ⟨Sub.refl _,?_⟩)
   | (refine F2 (fun h=>?_) (fun h=>?_)<;>(try rw [h])<;>(try simp only [Bool.false_eq_true,Bool.true_eq_false,↓reduceIte,decide_eq_true_eq,decide_eq_false_iff_not,Bool.not_eq_true',Bool.not_eq_false'] at h)<;>(conv=>whnf))
   | (refine A0.pure' ?_ (B6i hT _ ?_ ?_);rintro _ rfl;conv=>whnf)
   | (refine A8.pure ?_ (B6i hT _ ?_ ?_);conv=>whnf)
   | (refine D8 ?_;conv=>whnf)
   | (refine AWp.any (by kernel_rfl) (by kernel_rfl) (by kernel_rfl) ?_;conv=>whnf)
   | (apply And.intro;(focus (first|omega|rfl|decide|exact Nat.le_of_ble_eq_true rfl|((repeat' (first|exact all_nil|refine all_cons ?_ ?_|rfl|fail));done)|(simp [-List.length_flatMap];done)|(simp [-List.length_flatMap];omega)|fail));conv=>whnf)
   | fail)
  ·refine A0.by (B4c _ hB' (by simp [-List.length_flatMap];omega)) ?_
   rintro _ s2 ⟨rfl,hB2⟩
   conv=>whnf
   refine ⟨i+1,by (repeat' (first|refine B5 ?_ ?_|refine D4 ?_ ?_ ?_|rfl|omega)),by (repeat (first|exact M1.refl _ _|refine M1.upd rfl ?_|refine M1.updL rfl ?_|refine M1.havoc rfl ?_)),⟨by omega,?_⟩,by omega⟩
   rw [A8u (by omega)]
   simpa using hB2
  ·omega
  ·simp;omega
  ·have ht:l.take i=l:=List.take_of_length_le (by omega)
   rw [ht] at hB' h1
   refine A0.by (A9y 34 34 rfl hB' (by simp [-List.length_flatMap];omega)) ?_
   rintro _ s2 ⟨rfl,hB2⟩
   conv=>whnf
   refine A0.by (C75 hB2 (by simp) (by simp [-List.length_flatMap];omega)) ?_
   rintro _ s3 ⟨rfl,hs⟩
   conv=>whnf
   exact ⟨hs,rfl⟩
end Go.Proofs.YticnkpgmmpenlaaGreatDoor.Qu
namespace Go.Proofs.YticnkpgmmpenlaaGreatDoor.Qu
open Go Go.Ab Go.Proofs.YticnkpgmmpenlaaGreatDoor.Bd Go.Proofs.YticnkpgmmpenlaaGreatDoor.Ix
attribute [local irreducible] A5 Sto.set Sto.grow
variable {Γ:Nat→AV}
theorem U8 (t:Nat) (l:List UInt8) (n:Int) (hl:l.length≤140737488355328):A5 Tryz.prog Γ 284 [.slice t (H8 l),.int .u8 n] fun v=>v=.bool (decide (0≤M7 l n)):=by
 refine aps Tryz.func284 ?_
 intro s
 refine wr ?_;(first|(refine A0.pure' ?_ (X4 _ _ _ hl);rintro _ rfl)|refine A8.pure ?_ (X4 _ _ _ hl));refine wr ?_
 rfl
def H4 (b:UInt8):Int:=Lib.indexByte A55 b
theorem B1m (b:UInt8):H4 b < 16:=by
 have h:∀ n:Nat,n < 256→H4 (UInt8.ofNat n) < 16:=by decide +kernel
 simpa using h b.toNat (B1j b)
theorem B1g {s:Sto} {b:Nat} {l:List UInt8} (k:Nat) (hk:k < l.length) (hb:s.bx b=some (9,[.str l])) :
  A0 Tryz.prog Γ 283 [.int .i64 k,.ptr (some ⟨b,0,none⟩)] s fun v s'=>v=.int .i64 (H4 (A7 l k))∧s'=s:=by
 refine acs Tryz.func283 ?_
 conv=>whnf
 rw [hb]
 refine wr ?_;(first|(refine A0.pure' ?_ (A59 _ _);rintro _ rfl)|refine A8.pure ?_ (A59 _ _));refine wr ?_
 refine ⟨_,Sub.refl _,?_,rfl⟩
 show AV.int .i64 (Lib.indexByte A55 _)=_
 simp [H4]
def tk (l:List UInt8):Int × Int :=
 if A4n (A7 l 0).toNat then ((A7 l 0).toNat,1)
 else if ¬ ((A7 l 0).toNat:Int)=92∨l.length < 2 then (0,0)
 else if ¬ ((A7 l 1).toNat:Int)=120 then
  (if M7 letters (A7 l 1).toNat < 0 then (0,0) else ((A7 marks (M7 letters (A7 l 1).toNat).toNat).toNat,2))
 else if l.length < 4∨H4 (A7 l 2) < 0∨H4 (A7 l 3) < 0 then (0,0)
 else if A4n (H4 (A7 l 2) * 16+H4 (A7 l 3))∨0≤M7 marks (H4 (A7 l 2) * 16+H4 (A7 l 3)) then (0,0)
 else (H4 (A7 l 2) * 16+H4 (A7 l 3),4)
theorem D95:∀ a:Nat,a < 16→∀ b:Nat,b < 16→IntKind.u8.wrap (IntKind.i64.wrap (BitVec.ofInt IntKind.i64.bits (IntKind.i64.wrap ((a:Int) * 2 ^ min (Int.toNat 4) IntKind.i64.bits)) ||| BitVec.ofInt IntKind.i64.bits (b:Int)).toNat)=((a * 16+b:Nat):Int):=by decide +kernel
theorem B4u {x y:UInt8} (hx:¬ H4 x < 0) (hy:¬ H4 y < 0) :
  IntKind.u8.wrap (IntKind.i64.wrap (BitVec.ofInt IntKind.i64.bits (IntKind.i64.wrap (H4 x * 2 ^ min (Int.toNat 4) IntKind.i64.bits)) ||| BitVec.ofInt IntKind.i64.bits (H4 y)).toNat)=H4 x * 16+H4 y:=by
 have h1:=B1m x
 have h2:=B1m y
 obtain ⟨a,ha⟩:∃ a:Nat,H4 x=a:=⟨(H4 x).toNat,by omega⟩
 obtain ⟨b,hb⟩:∃ b:Nat,H4 y=b:=⟨(H4 y).toNat,by omega⟩
 rw [ha] at h1 hx ⊢
 rw [hb] at h2 hy ⊢
 rw [D95 a (by omega) b (by omega)]
 simp
theorem C1l (hT:A1q Γ) (l:List UInt8) (h0:0 < l.length) (hl:l.length≤140737488355328) :
  A5 Tryz.prog Γ 269 [.str l] fun v=>v=.tuple [.int .u8 (tk l).1,.int .i64 (tk l).2]:=by
 refine aps Tryz.func269 ?_
 intro s
 conv=>whnf
 intro b hb
 conv=>whnf
 have hi5:M7 letters (A7 l (Int.toNat 1)).toNat < 5:=(B5a letters _).2
 repeat' (first
  | (refine ⟨Sub.refl _,?_⟩)
  | (refine F2 (fun h=>?_) (fun h=>?_)<;>(try rw [h])<;>(try simp only [Bool.false_eq_true,Bool.true_eq_false,↓reduceIte,decide_eq_true_eq,decide_eq_false_iff_not,Bool.not_eq_true',Bool.not_eq_false'] at h)<;>(conv=>whnf))
  | (refine A0.pure' ?_ (B1e _);rintro _ rfl;conv=>whnf)
  | (refine A8.pure ?_ (B1e _);conv=>whnf)
  | (rw [A5a,hT.marks];conv=>whnf)
  | (rw [A5a,hT.letters];conv=>whnf)
  | (refine A0.pure' ?_ (X4 0 letters _ (by decide));rintro _ rfl;conv=>whnf)
  | (refine A8.pure ?_ (X4 0 letters _ (by decide));conv=>whnf)
  | (refine A0.pure' ?_ (U8 0 marks _ (by decide));rintro _ rfl;conv=>whnf)
  | (refine A8.pure ?_ (U8 0 marks _ (by decide));conv=>whnf)
  | (refine A0.by (B1g 2 (by omega) A1) ?_;rintro _ _ ⟨rfl,rfl⟩;conv=>whnf)
  | (refine A0.by (B1g 3 (by omega) A1) ?_;rintro _ _ ⟨rfl,rfl⟩;conv=>whnf)
  | (refine D8 ?_;conv=>whnf)
  | (refine AWp.any (by kernel_rfl) (by kernel_rfl) (by kernel_rfl) ?_;conv=>whnf)
  | (apply And.intro;(focus (first|omega|rfl|decide|exact Nat.le_of_ble_eq_true rfl|((repeat' (first|exact all_nil|refine all_cons ?_ ?_|rfl|fail));done)|(simp [-List.length_flatMap];done)|(simp [-List.length_flatMap];omega)|fail));conv=>whnf)
  | fail)
 case right.right.refine_2.right.right.refine_2.refine_2.right.right.refine_1.right.right.right.right.right.refine_2.right.right =>
  have hc:M7 letters (A7 l (Int.toNat 1)).toNat=0∨M7 letters (A7 l (Int.toNat 1)).toNat=1∨M7 letters (A7 l (Int.toNat 1)).toNat=2∨M7 letters (A7 l (Int.toNat 1)).toNat=3∨M7 letters (A7 l (Int.toNat 1)).toNat=4:=by omega
  simp only [show Int.toNat 0=0 from rfl,show Int.toNat 1=1 from rfl] at *
  rcases hc with hc|hc|hc|hc|hc
  all_goals
   rw [hc]
   conv=>whnf
   refine ⟨(Sub.refl _).set hb _ _,?_⟩
   have e0:A4n 92=false:=rfl
   have m0:((A7 marks 0).toNat:Int)=34:=rfl
   have m1:((A7 marks 1).toNat:Int)=92:=rfl
   have m2:((A7 marks 2).toNat:Int)=10:=rfl
   have m3:((A7 marks 3).toNat:Int)=13:=rfl
   have m4:((A7 marks 4).toNat:Int)=9:=rfl
   grind [tk,A3e]
 all_goals refine ⟨(Sub.refl _).set hb _ _,?_⟩
 all_goals simp only [show Int.toNat 0=0 from rfl,show Int.toNat 1=1 from rfl] at *
 all_goals try simp only [B4u, *,not_false_eq_true] at *
 all_goals grind [tk,A3e,B4u]
def fine (m:Nat):Bool :=
 (A4n m && decide (one m=[UInt8.ofNat m])) ||
 (match one m with
 | [a,x]=>decide (a=92) && decide (x≠120) && decide (0≤M7 letters x.toNat) && decide (((A7 marks (M7 letters x.toNat).toNat).toNat:Int)=m)
 | [a,b,x,y]=>decide (a=92) && decide (b=120) && decide (0≤H4 x) && decide (0≤H4 y) && decide (H4 x * 16+H4 y=m) && !A4n m && decide (M7 marks m < 0)
 | _=>false)
theorem D1m:∀ m:Nat,m < 256→fine m=true:=by decide +kernel
theorem D4c (m:Nat) (hm:m < 256) (r:List UInt8):tk (one m++r)=((m:Int),((one m).length:Int)):=by
 have h:=D1m m hm
 unfold fine at h
 rw [Bool.or_eq_true] at h
 rcases h with h|h
 ·simp only [Bool.and_eq_true,decide_eq_true_eq] at h
  rw [h.2]
  have e:((UInt8.ofNat m).toNat:Int)=m:=by simp [Nat.mod_eq_of_lt hm]
  unfold tk
  have e1:A7 ([UInt8.ofNat m]++r) 0=UInt8.ofNat m:=rfl
  rw [e1,e,if_pos h.1]
  rfl
 ·split at h
  ·rename_i a x hx
   simp only [Bool.and_eq_true,decide_eq_true_eq] at h
   obtain ⟨⟨⟨rfl,h2⟩,h3⟩,h4⟩:=h
   rw [hx]
   unfold tk
   have e0:A7 ([92,x]++r) 0=92:=rfl
   have e1:A7 ([92,x]++r) 1=x:=rfl
   have e2:¬ (x.toNat:Int)=120:=fun hh=>h2 (UInt8.toNat_inj.1 (by simpa using Int.ofNat.inj hh))
   rw [e0,e1,if_neg (by decide),if_neg (by simp),if_pos e2,if_neg (by omega),h4]
   rfl
  ·rename_i a b x y hx
   simp only [Bool.and_eq_true,decide_eq_true_eq,Bool.not_eq_true'] at h
   obtain ⟨⟨⟨⟨⟨⟨rfl,rfl⟩,h3⟩,h4⟩,h5⟩,h6⟩,h7⟩:=h
   rw [hx]
   unfold tk
   have e0:A7 ([92,120,x,y]++r) 0=92:=rfl
   have e1:A7 ([92,120,x,y]++r) 1=120:=rfl
   have e2:A7 ([92,120,x,y]++r) 2=x:=rfl
   have e3:A7 ([92,120,x,y]++r) 3=y:=rfl
   rw [e0,e1,e2,e3,if_neg (by decide),if_neg (by simp),if_neg (by decide),if_neg (by simp;omega),h5,if_neg (by simp [h6];omega)]
   rfl
  ·cases h
theorem B7j (b:UInt8) (h:0≤H4 b):A7 A55 (H4 b).toNat=b:=by
 have key:∀ n:Nat,n < 256→0≤H4 (UInt8.ofNat n)→A7 A55 (H4 (UInt8.ofNat n)).toNat=UInt8.ofNat n:=by decide +kernel
 simpa using key b.toNat (B1j b) (by simpa using h)
theorem C0z (b:UInt8) (h:0≤M7 letters b.toNat):one (A7 marks (M7 letters b.toNat).toNat).toNat=[92,b]:=by
 have key:∀ n:Nat,n < 256→0≤M7 letters (UInt8.ofNat n).toNat→one (A7 marks (M7 letters (UInt8.ofNat n).toNat).toNat).toNat=[92,UInt8.ofNat n]:=by decide +kernel
 simpa using key b.toNat (B1j b) (by simpa using h)
theorem C4d:∀ l:List UInt8,l≠[]→tk l=(0,0)∨∃ m:Nat,m < 256∧∃ r,l=one m++r
 | [],h=>absurd rfl h
 | a::l,_=>by
  by_cases h1:A4n (A7 (a::l) 0).toNat=true
  ·have e:A7 (a::l) 0=a:=rfl
   rw [e] at h1
   exact .inr ⟨a.toNat,B1j a,l,by rw [C9u a h1];rfl⟩
  ·by_cases h2:¬ ((A7 (a::l) 0).toNat:Int)=92∨(a::l).length < 2
   ·left;unfold tk;rw [if_neg h1,if_pos h2]
   ·simp only [not_or,Decidable.not_not] at h2
    have ea:a=92:=UInt8.toNat_inj.1 (show a.toNat=92 from Int.ofNat.inj h2.1)
    subst ea
    match l,h2 with
    | [],h2=>simp at h2
    | b::l,_ =>
     have e1:A7 (92::b::l) 1=b:=rfl
     by_cases h3:¬ ((A7 (92::b::l) 1).toNat:Int)=120
     ·by_cases h4:M7 letters (A7 (92::b::l) 1).toNat < 0
      ·left;unfold tk;rw [if_neg h1,if_neg (by simp [A7]),if_pos h3,if_pos h4]
      ·rw [e1] at h4
       exact .inr ⟨(A7 marks (M7 letters b.toNat).toNat).toNat,B1j _,l,by rw [C0z b (by omega)];rfl⟩
     ·have eb:b=120:=UInt8.toNat_inj.1 (show b.toNat=120 from Int.ofNat.inj (Decidable.not_not.1 h3))
      subst eb
      match l with
      | []=>left;unfold tk;rw [if_neg h1,if_neg (by simp [A7]),if_neg h3,if_pos (by simp)]
      | [c]=>left;unfold tk;rw [if_neg h1,if_neg (by simp [A7]),if_neg h3,if_pos (by simp)]
      | c::d::l =>
       have e2:A7 (92::120::c::d::l) 2=c:=rfl
       have e3:A7 (92::120::c::d::l) 3=d:=rfl
       by_cases h4:H4 c < 0∨H4 d < 0
       ·left;unfold tk;rw [e2,e3,if_neg h1,if_neg (by simp [A7]),if_neg h3,if_pos (.inr h4)]
       ·by_cases h5:A4n (H4 c * 16+H4 d)=true∨0≤M7 marks (H4 c * 16+H4 d)
        ·left;unfold tk;rw [e2,e3,if_neg h1,if_neg (by simp [A7]),if_neg h3,if_neg (by simp;omega),if_pos h5]
        ·have b1:=B1m c
         have b2:=B1m d
         have hm:(((H4 c).toNat * 16+(H4 d).toNat:Nat):Int)=H4 c * 16+H4 d:=by omega
         refine .inr ⟨(H4 c).toNat * 16+(H4 d).toNat,by omega,l,?_⟩
         rw [C3k _ (by omega) (by rw [hm];simpa using (not_or.1 h5).1) (by rw [hm];exact (not_or.1 h5).2)]
         rw [show ((H4 c).toNat * 16+(H4 d).toNat) / 16=(H4 c).toNat by omega,show ((H4 c).toNat * 16+(H4 d).toNat) % 16=(H4 d).toNat by omega,B7j c (by omega),B7j d (by omega)]
         rfl
def A7d:List UInt8→Option (List UInt8 × Nat)
 | []=>none
 | b::r=>if b=34 then some ([],1) else if (tk (b::r)).2=0 then none
  else (A7d (r.drop ((tk (b::r)).2.toNat - 1))).map fun x=>(UInt8.ofNat (tk (b::r)).1.toNat::x.1,x.2+(tk (b::r)).2.toNat)
termination_by l=>l.length
decreasing_by simp only [List.length_drop,List.length_cons];omega
def cut:List UInt8→Option (List UInt8 × Nat)
 | []=>none
 | b::r=>if b=34 then (A7d r).map fun x=>(x.1,x.2+1) else none
theorem B9s (l:List UInt8) (h:l≠[]):(tk l).1=(UInt8.ofNat (tk l).1.toNat).toNat∧(tk l=(0,0)∨1≤(tk l).2∧(tk l).2≤l.length):=by
 rcases C4d l h with ht|⟨m,hm,r,rfl⟩
 ·rw [ht];exact ⟨rfl,.inl rfl⟩
 ·rw [D4c m hm]
  have:1≤(one (m:Int)).length:=by
   have:=C06 (UInt8.ofNat m)
   simpa [Nat.mod_eq_of_lt hm] using this
  refine ⟨by simp [Nat.mod_eq_of_lt hm],.inr ⟨by simp;omega,by simp;omega⟩⟩
def pre (o:List UInt8) (i:Nat) (x:Option (List UInt8 × Nat)):Option (List UInt8 × Nat):=x.map fun y=>(o++y.1,i+y.2)
theorem B8g {l:List UInt8} {o:List UInt8} {i:Nat} (hi:i < l.length) (hq:A7 l i≠34) :
  ((tk (l.drop i)).2=0→pre o i (A7d (l.drop i))=none) ∧
  ((tk (l.drop i)).2≠0→pre o i (A7d (l.drop i))=pre (o++[UInt8.ofNat (tk (l.drop i)).1.toNat]) (i+(tk (l.drop i)).2.toNat) (A7d (l.drop (i+(tk (l.drop i)).2.toNat)))):=by
 have hd:=A0x hi
 have hb:=B9s (l.drop i) (by rw [hd];simp)
 constructor
 ·intro h
  rw [hd] at h ⊢
  rw [A7d,if_neg hq,if_pos h]
  rfl
 ·intro h
  have h2:1≤(tk (l.drop i)).2:=by
   rcases hb.2 with hb|hb
   ·rw [hb] at h;exact absurd rfl h
   ·exact hb.1
  have e:l.drop (i+(tk (l.drop i)).2.toNat)=(l.drop (i+1)).drop ((tk (l.drop i)).2.toNat - 1):=by
   rw [List.drop_drop];congr 1;omega
  rw [e]
  rw [hd] at h ⊢
  rw [A7d,if_neg hq,if_neg h]
  simp only [pre,Option.map_map]
  congr 1
  funext y
  simp
  omega
def D1a (b:Bool) (l:List UInt8):List AV :=
 match cut l with
 | none=>[.str [],.int .i64 0]++(if b then [.bool false] else [])
 | some (t,k)=>[.str t,.int .i64 k]++(if b then [.bool true] else [])
theorem A8h {b:Bool} {l:List UInt8} (h:cut l=none):D1a b l=[.str [],.int .i64 0]++(if b then [.bool false] else []):=by unfold D1a;rw [h]
theorem B8e {b:Bool} {l t:List UInt8} {k:Nat} (h:cut l=some (t,k)):D1a b l=[.str t,.int .i64 k]++(if b then [.bool true] else []):=by unfold D1a;rw [h]
theorem D1b {l:List UInt8} (h:0 < l.length):cut l=if A7 l 0=34 then pre [] 1 (A7d (l.drop 1)) else none:=by
 cases l with
 | nil=>simp at h
 | cons b r =>
  show (if b=34 then _ else none)=(if b=34 then _ else none)
  split
  ·simp only [pre,List.drop_succ_cons,List.drop_zero]
   congr 1
   funext y
   simp;omega
  ·rfl
theorem B3n {b:UInt8} {n:Nat} (hn:n < 256):(b.toNat:Int)=n↔b=UInt8.ofNat n:=by
 constructor
 ·intro h
  have:b.toNat=n:=Int.ofNat.inj h
  rw [← this];simp
 ·rintro rfl
  simp [Nat.mod_eq_of_lt hn]
structure D91 (l:List UInt8) (s s':Sto) (x:List UInt8 × Nat × Nat):Prop where
 lo:1≤x.2.1
 hi:x.2.1≤l.length
 len:x.1.length≤x.2.1
 own:Own s s' x.1.isEmpty x.2.2 5 1
 eq:cut l=pre x.1 x.2.1 (A7d (l.drop x.2.1))
theorem B6h (hT:A1q Γ) (l:List UInt8) (hl:l.length≤1048576):A5 Tryz.prog Γ 251 [.str l] fun v=>v=.tuple (D1a true l):=by
 refine aps Tryz.func251 ?_
 intro s
 conv=>whnf
 rcases Nat.eq_zero_or_pos l.length with hz|hpos
 ·obtain rfl:=List.eq_nil_of_length_eq_zero hz
  refine wr ?_
  rfl
 repeat' (first
  | (refine ⟨Sub.refl _,?_⟩)
  | (refine F2 (fun h=>?_) (fun h=>?_)<;>(try rw [h])<;>(try simp only [Bool.false_eq_true,Bool.true_eq_false,↓reduceIte,decide_eq_true_eq,decide_eq_false_iff_not,Bool.not_eq_true',Bool.not_eq_false'] at h)<;>(conv=>whnf))
  | (refine D8 ?_;conv=>whnf)
  | (refine AWp.any (by kernel_rfl) (by kernel_rfl) (by kernel_rfl) ?_;conv=>whnf)
  | (apply And.intro;(focus (first|omega|rfl|decide|exact Nat.le_of_ble_eq_true rfl|((repeat' (first|exact all_nil|refine all_cons ?_ ?_|rfl|fail));done)|(simp [-List.length_flatMap];done)|(simp [-List.length_flatMap];omega)|fail));conv=>whnf)
  | fail)
 ·subst h;simp at hpos
 ·rw [A8h (b:=true)]
  ·rfl
  rw [D1b hpos,if_neg]
  intro hq
  apply h
  show ((A7 l 0).toNat:Int)=34
  rw [hq];rfl
 ·rename_i h1
  have hq:A7 l 0=34:=(B3n (n:=34) (by decide)).1 h
  refine AWp.loopA [5,6] [16,17,18,19,20,21,22,23,24,25,27,28,29,30,26,31,32,7,8,33,34,2,3,4,35,36,37,38,39,40,41] (fun x:List UInt8 × Nat × Nat=>[.slice x.2.2 (H8 x.1),.int .i64 x.2.1]) (fun x s'=>D91 l s s' x) (fun x=>l.length - x.2.1) (([],1,1)) (by kernel_rfl) (by (repeat' (first|refine B5 ?_ ?_|refine D4 ?_ ?_ ?_|rfl|omega))) ?_ ?_
  ·exact ⟨by simp,hpos,by simp,Own.nil _ _ _,by rw [D1b hpos,if_pos hq]⟩
  ·rintro x ⟨o,i,t⟩ s' ⟨h1,h2,h3,h4,h5⟩
   simp only at h1 h2 h3 h4 h5
   conv=>whnf
   repeat' (first
    | (refine ⟨Sub.refl _,?_⟩)
    | (refine F2 (fun h=>?_) (fun h=>?_)<;>(try rw [h])<;>(try simp only [Bool.false_eq_true,Bool.true_eq_false,↓reduceIte,decide_eq_true_eq,decide_eq_false_iff_not,Bool.not_eq_true',Bool.not_eq_false'] at h)<;>(conv=>whnf))
    | (refine A0.pure' ?_ (C1l hT _ ?_ ?_);rintro _ rfl;conv=>whnf)
    | (refine D8 ?_;conv=>whnf)
    | (refine AWp.any (by kernel_rfl) (by kernel_rfl) (by kernel_rfl) ?_;conv=>whnf)
    | (apply And.intro;(focus (first|omega|rfl|decide|exact Nat.le_of_ble_eq_true rfl|((repeat' (first|exact all_nil|refine all_cons ?_ ?_|rfl|fail));done)|(simp [-List.length_flatMap];done)|(simp [-List.length_flatMap];omega)|fail));conv=>whnf)
    | fail)
   ·rename_i h6 h7
    simp only [Int.toNat_natCast,List.take_length] at h h7
    refine ⟨h4.sub,?_⟩
    rw [A8h (b:=true)]
    ·rfl
    rw [h5]
    exact (B8g (by omega) (fun hq=>h7 ((B3n (n:=34) (by decide)).2 hq))).1 h
   ·rename_i h6 h7
    simp only [Int.toNat_natCast,List.take_length] at h h7 ⊢
    have hr:=(B8g (o:=o) (l:=l) (i:=i) (by omega) (fun hq=>h7 ((B3n (n:=34) (by decide)).2 hq))).2 h
    have hb:=B9s (l.drop i) (by rw [A0x (by omega)];simp)
    have hb2:1≤(tk (l.drop i)).2∧(tk (l.drop i)).2≤(l.drop i).length:=by
     rcases hb.2 with hb|hb
     ·rw [hb] at h;exact absurd rfl h
     ·exact hb
    have hb3:=hb2.2
    simp only [List.length_drop] at hb3
    refine ⟨h4.may,A9g o,all_cons ⟨rfl,rfl⟩ all_nil,?_,?_⟩
    ·show ((H8 o).length+1) * (1+1)≤_
     rw [A3w];omega
    intro t' k1 k2
    have k3:=h4.grow k1 k2
    conv=>whnf
    refine ⟨(o++[UInt8.ofNat (tk (l.drop i)).1.toNat],i+(tk (l.drop i)).2.toNat,t'),?_,by (repeat (first|exact M1.refl _ _|refine M1.upd rfl ?_|refine M1.updL rfl ?_|refine M1.havoc rfl ?_)),⟨by simp only;omega,by simp only;omega,by simp;omega,?_,?_⟩,by simp only;omega⟩
    ·refine B5 ?_ (B5 (D4 ?_ ?_ ?_) rfl)
     ·show AV.slice t' _=AV.slice t' _
      rw [A4t]
      congr 2
      show [[AV.int .u8 (tk (List.drop _ _)).1]]=[[AV.int .u8 _]]
      rw [← hb.1]
     ·show (i:Int)+_=((i+(tk (l.drop i)).2.toNat:Nat):Int)
      omega
     ·show _≤((i+(tk (l.drop i)).2.toNat:Nat):Int)
      omega
     ·show ((i+(tk (l.drop i)).2.toNat:Nat):Int)≤_
      omega
    ·have e:(o++[UInt8.ofNat (tk (l.drop i)).1.toNat]).isEmpty=(o.isEmpty && [[AV.int .u8 (tk (l.drop i)).1]].isEmpty):=by simp
     simp only
     rw [e]
     exact k3
    ·exact h5.trans hr
   ·simp;omega
   ·simp;omega
   ·exfalso;omega
   ·rename_i h6 h7
    simp only [Int.toNat_natCast] at h7
    rw [B7d]
    conv=>whnf
    refine ⟨h4.sub,?_⟩
    rw [B8e (b:=true) (t:=o) (k:=i+1)]
    ·show AV.tuple [.str o,.int .i64 (IntKind.i64.wrap (i+1)),.bool true]=.tuple [.str o,.int .i64 ((i+1:Nat):Int),.bool true]
     rw [C3 (b:=((i+1:Nat):Int)) (by omega) (by omega) (by omega)]
    ·have hq':A7 l i=34:=(B3n (n:=34) (by decide)).1 h7
     rw [h5,A0x (by omega),hq',A7d,if_pos rfl]
     simp [pre]
   ·refine ⟨h4.sub,?_⟩
    rw [A8h (b:=true)]
    ·rfl
    rw [h5,C6 (by omega),A7d]
    rfl
   ·exfalso;omega
end Go.Proofs.YticnkpgmmpenlaaGreatDoor.Qu
namespace Go.Proofs.YticnkpgmmpenlaaGreatDoor.Qu
open Go Go.Ab Go.Proofs.YticnkpgmmpenlaaGreatDoor.Bd
attribute [local irreducible] A5 Sto.set Sto.grow
variable {Γ:Nat→AV}
theorem A5b:∀ l:List UInt8,l.length≤(l.flatMap fun c=>one c.toNat).length
 | []=>by simp
 | c::l=>by
  have:=C06 c
  have:=A5b l
  simp only [List.flatMap_cons,List.length_append,List.length_cons]
  omega
end Go.Proofs.YticnkpgmmpenlaaGreatDoor.Qu
namespace Go.Proofs.YticnkpgmmpenlaaGreatDoor.Qu
open Go Go.Ab Go.Proofs.YticnkpgmmpenlaaGreatDoor.Bd Go.Proofs.YticnkpgmmpenlaaGreatDoor.Ix
attribute [local irreducible] A5 Sto.set Sto.grow
variable {Γ:Nat→AV}
theorem C1e (hT:A1q Γ) (l:List UInt8) (hl:l.length≤1048576) (h:cut l=none):A5 Tryz.prog Γ 251 [.str l] fun v=>v=.tuple [.str [],.int .i64 0,.bool false]:=by
 have:=B6h hT l hl
 rw [A8h h] at this
 exact this
theorem C1f (hT:A1q Γ) (l:List UInt8) (hl:l.length≤1048576) {t:List UInt8} {k:Nat} (h:cut l=some (t,k)):A5 Tryz.prog Γ 251 [.str l] fun v=>v=.tuple [.str t,.int .i64 k,.bool true]:=by
 have:=B6h hT l hl
 rw [B8e h] at this
 exact this
theorem D2v (c:UInt8):∃ b r,one c.toNat=b::r∧b≠34:=by
 have key:∀ n:Nat,n < 256→(match one (n:Int) with | []=>false|b::_=>decide (b≠34))=true:=by decide +kernel
 have:=key c.toNat (B1j c)
 split at this
 ·cases this
 ·rename_i b r hb
  exact ⟨b,r,hb,by simpa using this⟩
theorem B4y (more:List UInt8):∀ l:List UInt8,A7d ((l.flatMap fun c=>one c.toNat)++34::more)=some (l,(l.flatMap fun c=>one c.toNat).length+1)
 | []=>by simp [A7d]
 | c::l=>by
  have ih:=B4y more l
  obtain ⟨b,r,hb,hne⟩:=D2v c
  have ht:=D4c c.toNat (B1j c) ((l.flatMap fun c=>one c.toNat)++34::more)
  simp only [List.flatMap_cons,List.append_assoc]
  rw [hb] at ht ⊢
  simp only [List.cons_append] at ht ⊢
  rw [A7d,if_neg hne,ht]
  rw [if_neg (by simp;omega)]
  have e:((r.length+1:Nat):Int).toNat - 1=r.length:=by omega
  have e2:(r++((l.flatMap fun c=>one c.toNat)++34::more)).drop r.length=(l.flatMap fun c=>one c.toNat)++34::more:=by simp
  simp only [List.length_cons,e]
  rw [e2,ih]
  simp
  omega
theorem C8m (l more:List UInt8):cut (A1w l++more)=some (l,(A1w l).length):=by
 have:=B4y more l
 unfold A1w
 simp only [List.cons_append,List.append_assoc,List.nil_append]
 simp only [cut,if_true]
 rw [this]
 simp
theorem B9k (l:List UInt8):(A1w l).length≤4 * l.length+2:=by
 have:=A7j (fun c:UInt8=>one c.toNat) 4 (fun c=>C05 _) l
 simp only [A1w,List.length_append,List.length_cons,List.length_nil]
 omega
theorem B8f:∀ (n:Nat) (l:List UInt8),l.length≤n→∀ t k,A7d l=some (t,k)→k≤l.length∧l.take k=(t.flatMap fun c=>one c.toNat)++[34]
 | _,[],_,t,k,h=>by rw [A7d] at h;cases h
 | 0,_::_,hn,_,_,_=>by simp at hn
 | n+1,b::r,hn,t,k,h=>by
  rw [A7d] at h
  split at h
  ·rename_i hb
   simp only [Option.some.injEq,Prod.mk.injEq] at h
   obtain ⟨rfl,rfl⟩:=h
   subst hb
   simp
  ·split at h
   ·cases h
   ·rename_i hb hz
    obtain ⟨x,hx,he⟩:=Option.map_eq_some_iff.1 h
    obtain ⟨t',k'⟩:=x
    simp only [Prod.mk.injEq] at he
    obtain ⟨rfl,rfl⟩:=he
    rcases C4d (b::r) (by simp) with ht|⟨m,hm,r',hr⟩
    ·rw [ht] at hz;exact absurd rfl hz
    ·have ht:=D4c m hm r'
     rw [← hr] at ht
     have hpos:1≤(one (m:Int)).length:=by
      have:=C06 (UInt8.ofNat m)
      simpa [Nat.mod_eq_of_lt hm] using this
     rw [ht] at hx ⊢
     have hd:r.drop ((one (m:Int)).length - 1)=r':=by
      have h1:(b::r).drop (one (m:Int)).length=r':=by rw [hr];simp
      obtain ⟨p,hp⟩:∃ p,(one (m:Int)).length=p+1:=⟨(one (m:Int)).length - 1,by omega⟩
      rw [hp] at h1 ⊢
      simpa using h1
     simp only [Int.toNat_natCast] at hx ⊢
     rw [hd] at hx
     have hlen:=congrArg List.length hr
     simp only [List.length_cons,List.length_append] at hlen hn
     obtain ⟨h1,h2⟩:=B8f n r' (by omega) t' k' hx
     refine ⟨by rw [hr];simp;omega,?_⟩
     rw [hr,show k'+(one (m:Int)).length=(one (m:Int)).length+k' by omega,List.take_length_add_append,h2]
     have e:((UInt8.ofNat m).toNat:Int)=m:=by simp [Nat.mod_eq_of_lt hm]
     simp only [List.flatMap_cons,e,List.append_assoc]
theorem C2b {l t:List UInt8} {k:Nat} (h:cut l=some (t,k)):0 < k∧k≤l.length∧A1w t=l.take k:=by
 cases l with
 | nil=>cases h
 | cons b r =>
  have h:(if b=34 then _ else none)=some (t,k):=h
  split at h
  ·rename_i hb
   subst hb
   obtain ⟨⟨t',k'⟩,hx,he⟩:=Option.map_eq_some_iff.1 h
   simp only [Prod.mk.injEq] at he
   obtain ⟨rfl,rfl⟩:=he
   obtain ⟨h1,h2⟩:=B8f _ r (Nat.le_refl _) _ _ hx
   refine ⟨by omega,by simp;omega,?_⟩
   rw [List.take_succ_cons,h2]
   simp [A1w]
  ·cases h
end Go.Proofs.YticnkpgmmpenlaaGreatDoor.Qu
namespace Go.Proofs.YticnkpgmmpenlaaGreatDoor.Lx
open Go Go.Ab Go.RowKit Go.Proofs.YticnkpgmmpenlaaGreatDoor.Sc
variable {Γ:Nat→AV}
attribute [local irreducible] A5 Sto.set Sto.grow
theorem A93 {b:UInt8} {n:Nat} (hn:n < 256):(b.toNat:Int)=n↔b=UInt8.ofNat n:=by
 constructor
 ·intro h
  have:b.toNat=n:=Int.ofNat.inj h
  rw [← this];simp
 ·rintro rfl
  simp [Nat.mod_eq_of_lt hn]
theorem b10 {b:UInt8}:(b.toNat:Int)=10↔b=10:=A93 (n:=10) (by decide)
theorem b34 {b:UInt8}:(b.toNat:Int)=34↔b=34:=A93 (n:=34) (by decide)
theorem b35 {b:UInt8}:(b.toNat:Int)=35↔b=35:=A93 (n:=35) (by decide)
theorem B7z (n:Int):A5 Tryz.prog Γ 220 [.int .u8 n] fun v=>v=.bool (J0 n):=by
 refine aps Tryz.func220 ?_
 intro s
 conv=>whnf
 repeat' ((first|exact pru|(refine brS (fun h=>?_) (fun h=>?_)<;>(try rw [h])<;>(try simp only [bS,↓reduceIte] at h))|refine gS ?_|refine aA ?_|refine nA ?_|fail)<;>(conv=>whnf))
 all_goals refine B2 ?_
 all_goals unfold J0
 all_goals simp [*]
 all_goals omega
def A4u (n:Int):Bool:=decide (48≤n) && decide (n≤57)
def A4s (n:Int):Bool:=decide (n=32) || decide (n=9) || decide (n=10) || decide (n=13)
theorem B5g (n:Int):A5 Tryz.prog Γ 215 [.int .u8 n] fun v=>v=.bool (A4s n):=by
 refine aps Tryz.func215 ?_
 intro s
 conv=>whnf
 repeat' ((first|(refine brS (fun h=>?_) (fun h=>?_)<;>(try rw [h])<;>(try simp only [bS,↓reduceIte] at h))|refine gS ?_|refine aA ?_|refine nA ?_|fail)<;>(conv=>whnf))
 all_goals refine B2 ?_
 all_goals unfold A4s
 all_goals simp [*]
def N4:Bool→List UInt8→Nat
 | _,[]=>0
 | true,c::r=>if c=10 then N4 false r+1 else N4 true r+1
 | false,c::r=>if c=35 then N4 true r+1 else if A4s c.toNat=true then N4 false r+1 else 0
def B3 (l:List UInt8):Nat:=N4 false l
theorem B1s:∀ (l:List UInt8) (b:Bool),N4 b l≤l.length
 | [],b=>by cases b<;>exact Nat.le_refl _
 | c::r,b=>by
  have h1:=B1s r true
  have h2:=B1s r false
  cases b
  ·rw [N4]
   split
   ·simp only [List.length_cons];omega
   ·split
    ·simp only [List.length_cons];omega
    ·omega
  ·rw [N4]
   split
   ·simp only [List.length_cons];omega
   ·simp only [List.length_cons];omega
theorem C8h (l:List UInt8):B3 l≤l.length:=B1s l false
theorem B2s:∀ q:List UInt8,(Lib.indexByte q 10 = -1→N4 true q=q.length)∧∀ n:Nat,Lib.indexByte q 10=n→N4 true q=n+N4 false (q.drop n)
 | []=>⟨fun _=>rfl,fun n h=>by unfold Lib.indexByte at h;omega⟩
 | c::r=>by
  have ih:=B2s r
  have hge:=Lib.indexByte_ge r 10
  unfold Lib.indexByte
  by_cases hc:c=10
  ·subst hc
   refine ⟨fun h=>by simp at h,fun n h=>?_⟩
   simp at h
   have:n=0:=by omega
   subst this
   simp [N4,A4s]
  ·have hcb:(c == 10)=false:=by simpa using hc
   rw [hcb]
   simp only [Bool.false_eq_true,if_false]
   rw [N4,if_neg hc]
   by_cases hr:Lib.indexByte r 10 = -1
   ·rw [hr]
    refine ⟨fun _=>by rw [ih.1 hr,List.length_cons],fun n h=>by simp at h<;>omega⟩
   ·have:(Lib.indexByte r 10 == -1)=false:=by simpa using hr
    rw [this]
    simp only [Bool.false_eq_true,if_false]
    refine ⟨fun h=>by omega,fun n h=>?_⟩
    obtain ⟨m,rfl⟩:∃ m,n=m+1:=⟨n - 1,by omega⟩
    rw [ih.2 m (by omega)]
    simp only [List.drop_succ_cons]
    omega
theorem C8g (r:List UInt8):N4 false (35::r)=N4 true (35::r):=by rw [N4,N4,if_pos rfl,if_neg (by decide)]
theorem C9b (q:List UInt8) (h:Lib.indexByte q 10≠-1):∃ n:Nat,Lib.indexByte q 10=n∧n < q.length:=by
 have:=Lib.indexByte_ge q 10
 refine ⟨(Lib.indexByte q 10).toNat,by omega,?_⟩
 have h2:=(Lib.indexByte_some (l:=q) (c:=10) (o:=(Lib.indexByte q 10).toNat) (by omega)).1
 exact (List.getElem?_eq_some_iff.1 h2).1
theorem C1d (l:List UInt8) (hl:l.length≤1048576):A5 Tryz.prog Γ 154 [.str l] fun v=>v=.int .i64 (B3 l):=by
 refine aps Tryz.func154 ?_
 intro s
 refine wr ?_
 refine AWp.loopA [4] [6,7,8,9,10,11,12,13,14,15,16,17,5,18,19,20,21,2,22,23,24,25,26,27,28,29,30,31,32] (fun i:Nat=>[.int .i64 i]) (fun i s'=>i≤l.length∧s'=s∧B3 l=i+N4 false (l.drop i)) (fun i=>l.length - i) (0) (by kernel_rfl) (eqa) ?_ ?_
 ·exact ⟨by omega,rfl,by rw [List.drop_zero];simp [B3]⟩
 ·rintro x i _ ⟨h1,rfl,h2⟩
  show awp _ _ _ _ _ (updL _ _ [.int .i64 (i:Int)]) _
  conv=>whnf
  have hb:=b35 (b:=A7 l i)
  have hA:List.drop ((i:Int)).toNat (List.take l.length l)=l.drop i:=by rw [Int.toNat_natCast,W0]
  have hw:∀ n:Nat,n≤l.length→IntKind.i64.wrap ((i:Int)+n)=((i+n:Nat):Int):=fun n hn=>C3 (by omega) (by omega) (by omega)
  by_cases hlt:i < l.length
  ·have hd:=A0x hlt
   by_cases h35:A7 l i=35
   ·have h35':=hb.2 h35
    have h35'':((A7 l ((i:Int)).toNat).toNat:Int)=35:=h35'
    have ht:=B2s (l.drop i)
    have hlen:(l.drop i).length=l.length - i:=List.length_drop
    have hx:N4 false (l.drop i)=N4 true (l.drop i):=by rw [hd,h35,C8g]
    have hix:=Ix.A59 (Γ:=Γ) (l.drop i) 10
    rw [show ((10:Int).toNat.toUInt8)=10 from rfl] at hix
    by_cases hn:Lib.indexByte (l.drop i) 10 = -1
    ·rw [hn] at hix
     refine wp ?_;(rw [hA]);refine wp ?_
     rw [h2,hx,ht.1 hn,hlen]
     exact congrArg (AV.int .i64) (by omega)
    ·obtain ⟨n,hn1,hn2⟩:=C9b _ hn
     rw [hn1] at hix
     have hpos:n≠0:=by
      rintro rfl
      have:=(Lib.indexByte_some (l:=l.drop i) (c:=10) (o:=0) hn1).1
      rw [hd,h35] at this
      cases this
     refine wp ?_;(rw [hA]);refine wp ?_
     refine ⟨i+n,?_,B9,⟨by omega,by first|rfl|trivial,?_⟩,by omega⟩
     ·exact B5 (by show AV.int .i64 (IntKind.i64.wrap ((i:Int)+n))=_;rw [hw n (by omega)]) rfl
     ·rw [h2,hx,ht.2 n hn1,List.drop_drop];omega
   ·have h35':¬ ((A7 l i).toNat:Int)=35:=fun hh=>h35 (hb.1 hh)
    have h35'':¬ ((A7 l ((i:Int)).toNat).toNat:Int)=35:=h35'
    repeat' ((first|exact pru|(refine brS (fun h=>?_) (fun h=>?_)<;>(try rw [h])<;>(try simp only [bS,↓reduceIte] at h))|(refine A0.pure' ?_ (B5g _);rintro _ rfl)|refine A8.pure ?_ (B5g _)|refine gS ?_|refine aA ?_|refine nA ?_|fail)<;>(conv=>whnf))
    all_goals (try simp only [Int.toNat_natCast] at *)
    ·rw [h2,hd,N4,if_neg h35,if_neg (by simp_all)]
     rfl
    ·refine ⟨i+1,?_,B9,⟨by omega,by first|rfl|trivial,?_⟩,by omega⟩
     ·exact B5 (by show AV.int .i64 (IntKind.i64.wrap ((i:Int)+1))=_;rw [show ((i:Int)+1)=(i:Int)+(1:Nat) by rfl,hw 1 (by omega)]) rfl
     ·rw [h2,hd,N4,if_neg h35,if_pos (by simp_all)];omega
  ·refine wp ?_
   rw [h2,C6 hlt]
   rfl
end Go.Proofs.YticnkpgmmpenlaaGreatDoor.Lx
namespace Go.Proofs.YticnkpgmmpenlaaGreatDoor.Lx
open Go Go.Ab Go.RowKit Go.Proofs.YticnkpgmmpenlaaGreatDoor.Sc
variable {Γ:Nat→AV}
theorem B0a (l:List UInt8):A5 Tryz.prog Γ 217 [.str l,.str [10]] fun v=>v=.int .i64 (l.count 10):=by
 refine fun s=>⟨fun G w vs hm hr=>?_⟩
 obtain ⟨u,us,rfl,hu,hus⟩:=A6.1 hr
 obtain ⟨u1,us1,rfl,hu1,hus1⟩:=A6.1 hus
 rw [A9] at hus1;subst hus1
 rw [H9] at hu;subst hu
 rw [H9] at hu1;subst hu1
 refine Calls.mono (Tryz.strings_Count_one ⟨l.toArray⟩ 10 w) ?_
 rintro e w' ⟨rfl,rfl⟩
 exact ⟨_,_,s,G,rfl,⟨rfl,rfl⟩,E9.2 (by simp [Lib.countByte]),hm,Ext.refl _ _⟩
attribute [local irreducible] A5 Sto.set Sto.grow
def Z5:List UInt8→UInt8→Int
 | [],_=>-1
 | b::r,c=>if Z5 r c≠-1 then Z5 r c+1 else if b=c then 0 else -1
theorem A7r:∀ (l:List UInt8) (c:UInt8),-1≤Z5 l c∧Z5 l c < l.length
 | [],c=>⟨Int.le_refl _,by simp [Z5]⟩
 | b::r,c=>by
  have:=A7r r c
  unfold Z5
  split
  ·simp only [List.length_cons];omega
  ·split<;>simp only [List.length_cons]<;>omega
theorem B15:∀ (l:List UInt8) (b c:UInt8),Z5 (l++[b]) c=if b=c then (l.length:Int) else Z5 l c
 | [],b,c=>by simp [Z5]
 | a::r,b,c=>by
  rw [List.cons_append,Z5,B15 r b c,Z5]
  by_cases hb:b=c
  ·simp [hb]
  ·simp [hb]
theorem B5o:∀ (l:List UInt8) (c:UInt8),Z5 l c = -1↔l.count c=0
 | [],c=>by simp [Z5]
 | b::r,c=>by
  have:=B5o r c
  have hg:=(A7r r c).1
  rw [Z5,List.count_cons]
  by_cases hr:Z5 r c = -1
  ·have h0:=this.1 hr
   by_cases hb:b=c<;>simp [hr,h0,hb]
  ·have h0:List.count c r≠0:=fun h=>hr (this.2 h)
   rw [if_pos hr]
   constructor
   ·intro h;omega
   ·intro h;omega
theorem C21 (l:List UInt8) (c:UInt8) (hl:l.length≤1048576):A5 Tryz.prog Γ 218 [.str l,.int .u8 c.toNat] fun v=>v=.int .i64 (Z5 l c):=by
 have inner:∀ Γ:Nat→AV,A5 Tryz.prog Γ 250 [.str l,.int .u8 c.toNat] fun v=>v=.int .i64 (Z5 l c):=by
  intro Γ
  refine aps Tryz.func250 ?_
  intro s
  refine wp ?_
  refine AWp.loopA [5] [9,10,13,14,15,16,17,18,4,11,12] (fun i:Nat=>[.int .i64 ((i:Int) - 1)]) (fun i s'=>i≤l.length∧s'=s∧Z5 l c=Z5 (l.take i) c) (fun i=>i) (l.length) (by kernel_rfl) (eqa) ?_ ?_
  ·exact ⟨by omega,rfl,by rw [List.take_length]⟩
  ·rintro x i s1 ⟨h1,rfl,h2⟩
   show awp _ _ _ _ _ (updL _ _ [.int .i64 ((i:Int) - 1)]) _
   conv=>whnf
   by_cases hi:i=0
   ·subst hi
    refine wp ?_
    rw [h2];rfl
   ·obtain ⟨k,rfl⟩:∃ k,i=k+1:=⟨i - 1,by omega⟩
    have hz:(((k+1:Nat):Int) - 1)=(k:Int):=by omega
    have ht:l.take (k+1)=l.take k++[A7 l k]:=A8u (by omega)
    rw [hz]
    repeat' ((first|exact pru|(refine brS (fun h=>?_) (fun h=>?_)<;>(try rw [h])<;>(try simp only [bS,↓reduceIte] at h))|refine gS ?_|refine aA ?_|refine nA ?_|fail)<;>(conv=>whnf))
    all_goals (try simp only [Int.toNat_natCast] at *)
    ·rw [h2,ht,B15,if_pos (UInt8.toNat.inj (by omega)),List.length_take]
     exact congrArg (AV.int .i64) (by omega)
    ·refine ⟨k,?_,B9,⟨by omega,by first|rfl|trivial,?_⟩,by omega⟩
     ·exact B5 (by show AV.int .i64 (IntKind.i64.wrap ((k:Int) - 1))=_;rw [C3 (b:=(k:Int) - 1) rfl (by omega) (by omega)]) rfl
     ·rw [h2,ht,B15,if_neg]
      rintro hh
      rename_i h
      exact h (by rw [hh])
 refine aps Tryz.func218 ?_
 intro s
 refine wr ?_;(first|(refine A0.pure' ?_ (inner _);rintro _ rfl)|refine A8.pure ?_ (inner _));refine wr ?_
 rfl
def D5:Int × Int→List UInt8→Int × Int
 | p,[]=>p
 | p,c::r=>D5 (if c=10 then (p.1+1,1) else (p.1,p.2+1)) r
theorem A5n:∀ (l:List UInt8) (a b:Int),D5 (a,b) l=if l.count 10=0 then (a,b+l.length) else (a+l.count 10,l.length - Z5 l 10)
 | [],a,b=>by simp [D5]
 | c::r,a,b=>by
  have hn:=B5o r 10
  have hg:=A7r r 10
  rw [D5,Z5,List.count_cons]
  by_cases hc:c=10
  ·subst hc
   simp only [if_true,BEq.rfl]
   rw [A5n r,if_neg (by omega:¬ r.count 10+1=0)]
   by_cases h0:r.count 10=0
   ·rw [if_pos h0,if_neg (by simp [hn.2 h0])]
    simp only [h0,List.length_cons]
    refine Prod.ext ?_ ?_<;>simp<;>omega
   ·rw [if_neg h0,if_pos (fun h=>h0 (hn.1 h))]
    simp only [List.length_cons]
    refine Prod.ext ?_ ?_<;>simp<;>omega
  ·have hcb:(c == 10)=false:=by simpa using hc
   simp only [if_neg hc,hcb]
   rw [A5n r]
   by_cases h0:r.count 10=0
   ·rw [if_pos h0,if_pos (by simp [h0])]
    simp only [List.length_cons]
    refine Prod.ext ?_ ?_<;>simp<;>omega
   ·rw [if_neg h0,if_neg (by simp [h0]),if_pos (fun h=>h0 (hn.1 h))]
    simp only [List.length_cons]
    refine Prod.ext ?_ ?_<;>simp<;>omega
theorem C1b (l:List UInt8) (a b:Int) (ha:0≤a) (hb:0≤b):(0≤(D5 (a,b) l).1∧(D5 (a,b) l).1≤a+l.length)∧0≤(D5 (a,b) l).2∧(D5 (a,b) l).2≤b+l.length+1:=by
 have:=List.count_le_length (a:=(10:UInt8)) (l:=l)
 have hg:=A7r l 10
 rw [A5n]
 split
 ·simp only;omega
 ·simp only;omega
theorem C7k (a b:Int) (l:List UInt8) (hl:l.length≤1048576) (ha:0≤a∧a≤100000000) (hb:0≤b∧b≤100000000) :
  A5 Tryz.prog Γ 155 [.int .i64 a,.int .i64 b,.str l] fun v=>v=.tuple [.int .i64 (D5 (a,b) l).1,.int .i64 (D5 (a,b) l).2]:=by
 have h1:=B0a (Γ:=Γ) l
 have h2:=C21 (Γ:=Γ) l 10 hl
 have h3:=List.count_le_length (a:=(10:UInt8)) (l:=l)
 have hg:=A7r l 10
 rw [A5n]
 refine aps Tryz.func155 ?_
 intro s
 conv=>whnf
 repeat' ((first|exact pru|(refine brS (fun h=>?_) (fun h=>?_)<;>(try rw [h])<;>(try simp only [bS,↓reduceIte] at h))|(refine A0.pure' ?_ (h1);rintro _ rfl)|refine A8.pure ?_ (h1)|(refine A0.pure' ?_ (h2);rintro _ rfl)|refine A8.pure ?_ (h2)|refine gS ?_|refine aA ?_|refine nA ?_|fail)<;>(conv=>whnf))
 ·rw [if_pos (by omega),C3 (b:=b+l.length) rfl (by omega) (by omega)]
  rfl
 ·rw [if_neg (by omega),C3 (b:=a+l.count 10) rfl (by omega) (by omega),C3 (b:=l.length - Z5 l 10) rfl (by omega) (by omega)]
  rfl
end Go.Proofs.YticnkpgmmpenlaaGreatDoor.Lx
namespace Go.Proofs.YticnkpgmmpenlaaGreatDoor.Sp
open Go Go.Ab Go.RowKit
variable {Γ:Nat→AV}
theorem B0a (l:List UInt8) (c:UInt8):A5 Tryz.prog Γ 217 [.str l,.str [c]] fun v=>v=.int .i64 (l.count c):=by
 refine fun s=>⟨fun G w vs hm hr=>?_⟩
 obtain ⟨u,us,rfl,hu,hus⟩:=A6.1 hr
 obtain ⟨u1,us1,rfl,hu1,hus1⟩:=A6.1 hus
 rw [A9] at hus1;subst hus1
 rw [H9] at hu;subst hu
 rw [H9] at hu1;subst hu1
 refine Calls.mono (Tryz.strings_Count_one ⟨l.toArray⟩ c w) ?_
 rintro e w' ⟨rfl,rfl⟩
 exact ⟨_,_,s,G,rfl,⟨rfl,rfl⟩,E9.2 (by simp [Lib.countByte]),hm,Ext.refl _ _⟩
theorem X4 (l:List UInt8) (c:UInt8):A5 Tryz.prog Γ 249 [.str l,.str [c]] fun v=>v=.int .i64 (Lib.indexByte l c):=by
 refine fun s=>⟨fun G w vs hm hr=>?_⟩
 obtain ⟨u,us,rfl,hu,hus⟩:=A6.1 hr
 obtain ⟨u1,us1,rfl,hu1,hus1⟩:=A6.1 hus
 rw [A9] at hus1;subst hus1
 rw [H9] at hu;subst hu
 rw [H9] at hu1;subst hu1
 refine Calls.mono (Tryz.strings_Index_one ⟨l.toArray⟩ c w) ?_
 rintro e w' ⟨rfl,rfl⟩
 exact ⟨_,_,s,G,rfl,⟨rfl,rfl⟩,E9.2 (by simp),hm,Ext.refl _ _⟩
attribute [local irreducible] A5 Sto.set Sto.grow
def U5:List UInt8→UInt8→List (List UInt8)
 | [],_=>[[]]
 | b::r,c=>if b=c then []::U5 r c else match U5 r c with
  | []=>[[b]]
  | x::xs=>(b::x)::xs
theorem D3l:∀ (l:List UInt8) (c:UInt8),U5 l c≠[]
 | [],_=>by simp [U5]
 | b::r,c=>by
  unfold U5
  split
  ·simp
  ·split<;>simp
theorem A8s:∀ (l:List UInt8) (c:UInt8),(U5 l c).length=l.count c+1
 | [],_=>rfl
 | b::r,c=>by
  have ih:=A8s r c
  have hne:=D3l r c
  unfold U5
  rw [List.count_cons]
  by_cases hb:b=c
  ·simp [hb,ih]
  ·have hbb:(b == c)=false:=by simpa using hb
   rw [if_neg hb,hbb]
   rcases hs:U5 r c with _|⟨x,xs⟩
   ·exact absurd hs hne
   ·rw [hs] at ih
    simpa using ih
theorem B6w:∀ {l:List UInt8} {c:UInt8},Lib.indexByte l c = -1→U5 l c=[l]
 | [],_,_=>rfl
 | b::r,c,h=>by
  have hge:=Lib.indexByte_ge r c
  unfold Lib.indexByte at h
  by_cases hb:b=c
  ·simp [hb] at h
  ·have hbb:(b == c)=false:=by simpa using hb
   rw [hbb] at h
   simp only [Bool.false_eq_true,if_false] at h
   have hr:Lib.indexByte r c = -1:=by
    split at h
    ·rename_i h1;simpa using h1
    ·omega
   unfold U5
   rw [if_neg hb,B6w hr]
theorem B6x:∀ {l:List UInt8} {c:UInt8} {n:Nat},Lib.indexByte l c=n→U5 l c=l.take n::U5 (l.drop (n+1)) c
 | [],_,n,h=>by unfold Lib.indexByte at h;omega
 | b::r,c,n,h=>by
  have hge:=Lib.indexByte_ge r c
  unfold Lib.indexByte at h
  by_cases hb:b=c
  ·simp [hb] at h
   have:n=0:=by omega
   subst this
   simp [U5,hb]
  ·have hbb:(b == c)=false:=by simpa using hb
   rw [hbb] at h
   simp only [Bool.false_eq_true,if_false] at h
   split at h
   ·exact absurd h (by omega)
   ·rename_i h1
    have h1:Lib.indexByte r c≠-1:=by simpa using h1
    obtain ⟨m,rfl⟩:∃ m,n=m+1:=⟨n - 1,by omega⟩
    have e:Lib.indexByte r c=(m:Int):=by omega
    have hs:=B6x e
    rw [U5,if_neg hb,hs]
    simp
theorem D7t {l:List UInt8} {c:UInt8} {n:Nat} (h:Lib.indexByte l c=n):n < l.length:=by
 have h2:=(Lib.indexByte_some (l:=l) (c:=c) (o:=n) h).1
 exact (List.getElem?_eq_some_iff.1 h2).1
theorem B8v (d:List (List UInt8)) (x:List UInt8) (k:Nat) :
  (d.map AV.str++List.replicate (k+1) (AV.str [])).take d.length++[AV.str x]++(d.map AV.str++List.replicate (k+1) (AV.str [])).drop (d.length+1)=(d++[x]).map AV.str++List.replicate k (AV.str []):=by
 have h1:(d.map AV.str++List.replicate (k+1) (AV.str [])).take d.length=d.map AV.str:=by
  rw [List.take_append_of_le_length (by simp)]
  rw [List.take_of_length_le (by simp)]
 have h2:(d.map AV.str++List.replicate (k+1) (AV.str [])).drop (d.length+1)=List.replicate k (AV.str []):=by
  rw [show d.length+1=(d.map AV.str).length+1 by simp,List.drop_append]
  simp
 rw [h1,h2]
 simp
theorem B2v:∀ d:List (List UInt8),T9 1 d.length (d.map AV.str)=B8 d
 | []=>rfl
 | x::d=>by
  have:=B2v d
  simp only [List.length_cons,List.map_cons,T9,B8] at *
  simpa using this
theorem A0h {cs cs':List AV} {K:List AV→Prop} (h:cs=cs') (hk:K cs'):A5c cs K:=by rw [D2,h];exact hk
theorem D1k (l:List (List UInt8)):fgE (B8 l)=B8 l:=A58 (A:=fun s=>[AV.str s]) (fun _=>rfl) l
theorem C96 (n:Nat):(List.replicate n [AV.str []]).flatten=List.replicate n (AV.str []):=by
 induction n with
 | zero=>rfl
 | succ n ih=>rw [List.replicate_succ,List.flatten_cons,ih];rfl
theorem B21 (l:List UInt8) (c:UInt8) (hl:l.length≤1048576):A5 Tryz.prog Γ 271 [.str l,.str [c],.int .i64 0,.int .i64 (-1)] fun v=>v=.slice 0 (B8 (U5 l c)):=by
 refine A5.frz fun s=>?_
 have hcnt:=List.count_le_length (a:=c) (l:=l)
 have hlen:=A8s l c
 have hw:IntKind.i64.wrap ((l.count c:Int)+1)=((l.count c+1:Nat):Int):=C3 (by omega) (by omega) (by omega)
 have hw2:IntKind.i64.wrap ((l.length:Int)+1)=((l.length+1:Nat):Int):=C3 (by omega) (by omega) (by omega)
 have hw3:IntKind.i64.wrap (((l.count c+1:Nat):Int) - 1)=(l.count c:Int):=C3 (by omega) (by omega) (by omega)
 refine acs Tryz.func271 ?_
 refine wp ?_;(first|(refine A0.pure' ?_ (B0a l c);rintro _ rfl)|refine A8.pure ?_ (B0a l c));refine wp ?_;(rw [hw]);refine wp ?_;(rw [hw2]);refine wp ?_
 have hN:(if ((l.length+1:Nat):Int) < ((l.count c+1:Nat):Int) then ((l.length+1:Nat):Int) else ((l.count c+1:Nat):Int))=((l.count c+1:Nat):Int):=if_neg (by omega)
 rw [hN]
 refine ⟨?_,rfl,?_⟩
 ·show ((16:Nat):Int) * _≤_
  omega
 intro b hb
 refine wp ?_
 refine AWp.loopA [0,10] [34,35,36,37,38,39,11,40,41,42,43,44,45,46,47,48,49,50,51,52,53,54,55,56,57] (fun x:List (List UInt8) × List UInt8=>[.str x.2,.int .i64 x.1.length]) (fun x s'=>(U5 l c=x.1++U5 x.2 c∧x.2.length≤l.length)∧s'.bx b=some (9,x.1.map AV.str++List.replicate (l.count c+1 - x.1.length) (AV.str []))∧Sub s s') (fun x=>l.count c - x.1.length) (([],l)) (by kernel_rfl) (by (repeat' (first|refine B5 ?_ ?_|refine D4 ?_ ?_ ?_|rfl|omega))) ?_ ?_
 ·refine ⟨⟨rfl,Nat.le_refl _⟩,?_,(Sub.refl _).set hb _ _⟩
  refine A1.trans ?_
  rw [Int.toNat_natCast]
  exact congrArg (fun z=>some (9,z)) (C96 _)
 ·rintro x ⟨d,q⟩ s1 ⟨⟨i1,i2⟩,i3,i4⟩
  simp only at i1 i2 i3 i4
  show awp _ _ _ _ _ (updL _ _ [.str q,.int .i64 (d.length:Int)]) _
  conv=>whnf
  have hlen2:=A8s q c
  have hd:d.length+(U5 q c).length=l.count c+1:=by rw [← hlen,i1,List.length_append]
  have hix:=X4 (Γ:=Γ) q c
  by_cases hn:Lib.indexByte q c = -1
  ·have hq:=B6w hn
   rw [hq] at i1 hd
   rw [hn] at hix
   simp only [List.length_cons,List.length_nil] at hd
   refine wp ?_;(rw [hw3]);refine wp ?_
   have hk:l.count c+1 - d.length=0+1:=by omega
   rw [hk]
   refine ⟨by show 0+((d.length:Nat):Int).toNat * 1+1≤_;simp<;>omega,A0h (cs':=(d++[q]).map AV.str++List.replicate 0 (AV.str [])) ?_ ?_⟩
   ·rw [show 0+((d.length:Nat):Int).toNat * (fun x=>x.size) Tryz.prog.types[9]=d.length by show 0+((d.length:Nat):Int).toNat * 1=_;omega]
    exact B8v d q 0
   have hwd:IntKind.i64.wrap ((d.length:Int)+1)=((d.length+1:Nat):Int):=C3 (by omega) (by omega) (by omega)
   refine wp ?_
   refine ⟨_,Sub.refl _,fz1 b 1 ((d++[q]).map AV.str++List.replicate 0 (AV.str [])),C0n hb A1,?_,i4.set hb _ _⟩
   rw [hwd,i1]
   show fg (fz _ (AV.raw (some ⟨b,if ((l.count c+1:Nat):Int).toNat=0 then 0 else 0+0 * 1,none⟩) (((d.length+1:Nat):Int).toNat - 0) (((l.count c+1:Nat):Int).toNat - 0)))=_
   rw [show (if ((l.count c+1:Nat):Int).toNat=0 then 0 else 0+0 * 1)=0 by split<;>rfl,Int.toNat_natCast,Int.toNat_natCast,Nat.sub_zero,Nat.sub_zero]
   have hm:fzW (fz1 b 1 ((d++[q]).map AV.str++List.replicate 0 (AV.str []))) (some ⟨b,0,none⟩) (d.length+1) (l.count c+1)=.slice 0 (B8 (d++[q])):=by
    unfold fzW
    simp only [C0m]
    rw [if_pos ⟨by omega,by simp⟩,List.replicate_zero,List.append_nil,List.drop_zero]
    have:=B2v (d++[q])
    rw [List.length_append] at this
    exact congrArg (AV.slice 0) this
   unfold fz
   rw [hm]
   unfold fg
   rw [D1k]
  ·obtain ⟨n,hn1⟩:∃ n:Nat,Lib.indexByte q c=n:=⟨(Lib.indexByte q c).toNat,by have:=Lib.indexByte_ge q c;omega⟩
   have hnl:=D7t hn1
   have hq:=B6x hn1
   rw [hq] at i1 hd
   rw [hn1] at hix
   have hs2:=A8s (q.drop (n+1)) c
   simp only [List.length_cons] at hd
   have hwn:IntKind.i64.wrap ((n:Int)+0)=(n:Int):=C3 (by omega) (by omega) (by omega)
   have hwn1:IntKind.i64.wrap ((n:Int)+([c].length:Nat))=((n+1:Nat):Int):=C3 rfl (by simp<;>omega) (by simp<;>omega)
   repeat' (first
    | (exfalso;first|omega|exact (by assumption:¬ True) trivial|fail)
    | (refine ⟨Sub.refl _,?_⟩)
    | (refine F2 (fun h=>?_) (fun h=>?_)<;>(try rw [h])<;>(try simp only [Bool.false_eq_true,Bool.true_eq_false,↓reduceIte,decide_eq_true_eq,decide_eq_false_iff_not,Bool.not_eq_true',Bool.not_eq_false'] at h)<;>(conv=>whnf))
    | (rw [hw3];conv=>whnf)
    | (refine A0.pure' ?_ (hix);rintro _ rfl;conv=>whnf)
    | (refine A8.pure ?_ (hix);conv=>whnf)
    | (refine A4 (by ((repeat (first|exact A1|assumption|refine (A2 (by assumption)).trans ?_|refine Q4.trans ?_));done)) ?_;conv=>whnf)
    | (rw [hwn];conv=>whnf)
    | (rw [hwn1];conv=>whnf)
    | (refine D8 ?_;conv=>whnf)
    | (refine AWp.any (by kernel_rfl) (by kernel_rfl) (by kernel_rfl) ?_;conv=>whnf)
    | (apply And.intro;(focus (first|omega|rfl|decide|exact Nat.le_of_ble_eq_true rfl|((repeat' (first|exact all_nil|refine all_cons ?_ ?_|rfl|fail));done)|(simp [-List.length_flatMap];done)|(simp [-List.length_flatMap];omega)|fail));conv=>whnf)
    | fail)
   obtain ⟨k,hk⟩:∃ k,l.count c+1 - d.length=k+1:=⟨l.count c - d.length,by omega⟩
   rw [hk]
   refine ⟨by show 0+((d.length:Nat):Int).toNat * 1+1≤_;simp<;>omega,A0h (cs':=(d++[q.take n]).map AV.str++List.replicate k (AV.str [])) ?_ ?_⟩
   ·rw [show 0+((d.length:Nat):Int).toNat * (fun x=>x.size) Tryz.prog.types[9]=d.length by show 0+((d.length:Nat):Int).toNat * 1=_;omega]
    exact B8v d (q.take n) k
   refine wp ?_;(rw [hwn1]);refine wp ?_
   refine ⟨(d++[q.take n],q.drop (n+1)),?_,by (repeat (first|exact M1.refl _ _|refine M1.upd rfl ?_|refine M1.updL rfl ?_|refine M1.havoc rfl ?_)),⟨⟨by rw [i1];simp,by simp only [List.length_drop];omega⟩,A1.trans ?_,i4.set hb _ _⟩,by simp;omega⟩
   ·refine B5 ?_ (B5 ?_ rfl)
    ·show AV.str (List.drop (((n+1:Nat):Int)).toNat (List.take q.length q))=_
     rw [Int.toNat_natCast,W0]
    ·show AV.int .i64 (IntKind.i64.wrap ((d.length:Int)+1))=.int .i64 (((d++[q.take n]).length:Nat):Int)
     rw [C3 (b:=(d.length:Int)+1) rfl (by omega) (by omega)]
     simp
   ·rw [show l.count c+1 - (d++[q.take n]).length=k by simp;omega]
theorem D3m (l:List UInt8) (c:UInt8) (hl:l.length≤1048576):A5 Tryz.prog Γ 253 [.str l,.str [c]] fun v=>v=.slice 0 (B8 (U5 l c)):=by
 refine aps Tryz.func253 ?_
 intro s
 refine wr ?_;(first|(refine A0.pure' ?_ (B21 l c hl);rintro _ rfl)|refine A8.pure ?_ (B21 l c hl));refine wr ?_
 rfl
end Go.Proofs.YticnkpgmmpenlaaGreatDoor.Sp
namespace Go.Proofs.YticnkpgmmpenlaaGreatDoor.Lx
open Go Go.Ab Go.RowKit Go.Proofs.YticnkpgmmpenlaaGreatDoor.Sc
variable {Γ:Nat→AV}
attribute [local irreducible] A5 Sto.set Sto.grow
def pfx (x l:List UInt8):Bool:=decide (x.length≤l.length) && decide (l.take x.length=x)
theorem B0l (l p:List UInt8) (hp:p.length≤1048576):A5 Tryz.prog Γ 254 [.str l,.str p] fun v=>v=.bool (pfx p l):=by
 have inner:∀ Γ:Nat→AV,A5 Tryz.prog Γ 272 [.str l,.str p] fun v=>v=.bool (pfx p l):=by
  intro Γ
  refine aps Tryz.func272 ?_
  intro s
  conv=>whnf
  repeat' ((first|exact pru|(refine brS (fun h=>?_) (fun h=>?_)<;>(try rw [h])<;>(try simp only [bS,↓reduceIte] at h))|refine gS ?_|refine aA ?_|refine nA ?_|fail)<;>(conv=>whnf))
  ·refine B2 ?_
   rw [pfx,decide_eq_true (p:=p.length≤l.length) (by omega),Bool.true_and]
   rfl
  ·refine B2 ?_
   rw [pfx,decide_eq_false (p:=p.length≤l.length) (by omega),Bool.false_and]
 refine aps Tryz.func254 ?_
 intro s
 refine wr ?_;(first|(refine A0.pure' ?_ (inner _);rintro _ rfl)|refine A8.pure ?_ (inner _));refine wr ?_
 rfl
def signsL:List (List UInt8):=[[61,61],[33,61],[60,61],[62,61],[60],[62],[61],[40],[41],[44],[58],[43],[45],[42],[47],[37]]
def A1j:List (List UInt8)→List UInt8→List UInt8
 | [],_=>[]
 | x::r,l=>if pfx x l=true then x else A1j r l
def J5 (l:List UInt8):List UInt8:=A1j signsL l
theorem C39:Sp.U5 [61,61,32,33,61,32,60,61,32,62,61,32,60,32,62,32,61,32,40,32,41,32,44,32,58,32,43,32,45,32,42,32,47,32,37] 32=signsL:=by decide
theorem C37:∀ x ∈ signsL,x.length≤1048576:=by decide
theorem D3j {L:List (List UInt8)} {l:List UInt8} {i:Nat} (h:i < L.length):A1j (L.drop i) l=if pfx (L.getD i []) l=true then L.getD i [] else A1j (L.drop (i+1)) l:=by
 rw [show L.drop i=L.getD i []::L.drop (i+1) by simp [List.getD,h],A1j]
theorem E4 {L:List (List UInt8)} {i:Nat} (h:i < L.length):L.getD i [] ∈ L:=by simp [List.getD,h]
theorem C3r (l:List UInt8):A5 Tryz.prog Γ 222 [.str l] fun v=>v=.str (J5 l):=by
 have hsp:=Sp.D3m (Γ:=Γ) [61,61,32,33,61,32,60,61,32,62,61,32,60,32,62,32,61,32,40,32,41,32,44,32,58,32,43,32,45,32,42,32,47,32,37] 32 (by simp)
 rw [C39] at hsp
 have hsm:=C37
 unfold J5
 generalize hL:signsL=L at *
 have hlen:L.length=16:=by rw [← hL];rfl
 have hll:=A14 L
 refine aps Tryz.func222 ?_
 intro s
 refine wr ?_
 refine AWp.loopA [7] [8,9,10,4,11,12,13,14,2,15] (fun i:Nat=>[.int .i64 i]) (fun i s'=>i≤L.length∧s'=s∧A1j L l=A1j (L.drop i) l) (fun i=>L.length - i) (0) (by kernel_rfl) (eqa) ?_ ?_
 ·exact ⟨by omega,rfl,by rw [List.drop_zero]⟩
 ·rintro x i s1 ⟨h1,rfl,h2⟩
  show awp _ _ _ _ _ (updL _ _ [.int .i64 (i:Int)]) _
  conv=>whnf
  by_cases hlt:i < L.length
  ·have hg:=B2j hlt
   have hat:=D3j (l:=l) hlt
   have hm:=hsm _ (E4 hlt)
   generalize L.getD i []=g at *
   repeat' ((first|exact pru|(refine brS (fun h=>?_) (fun h=>?_)<;>(try rw [h])<;>(try simp only [bS,↓reduceIte] at h))|(rw [show (B8 L).getD ((i:Int)).toNat []=_ from hg])|(refine A0.pure' ?_ (B0l l g hm);rintro _ rfl)|refine A8.pure ?_ (B0l l g hm)|refine gS ?_|refine aA ?_|refine nA ?_|fail)<;>(conv=>whnf))
   ·rw [h2,hat,if_pos h]
    rfl
   ·refine ⟨i+1,eqa,B9,⟨by omega,by first|rfl|trivial,?_⟩,by omega⟩
    rw [h2,hat,if_neg (by simp_all)]
  ·refine wp ?_
   rw [h2,List.drop_of_length_le (by omega)]
   rfl
def B3q:List UInt8:=[48,49,50,51,52,53,54,55,56,57]
def A5s (k:Nat):List AV:=(List.range 256).map fun c=>.bool (decide (48≤c) && decide (c < 48+k))
theorem D35:∀ k:Nat,k < 10→(A5s k).take (48+k)++[.bool true]++(A5s k).drop (48+k+1)=A5s (k+1)
 | 0,_=>by kernel_rfl
 | 1,_=>by kernel_rfl
 | 2,_=>by kernel_rfl
 | 3,_=>by kernel_rfl
 | 4,_=>by kernel_rfl
 | 5,_=>by kernel_rfl
 | 6,_=>by kernel_rfl
 | 7,_=>by kernel_rfl
 | 8,_=>by kernel_rfl
 | 9,_=>by kernel_rfl
 | k+10,h=>by omega
theorem D1f:∀ k:Nat,k < 10→((A7 B3q k).toNat:Int)=((48+k:Nat):Int)
 | 0,_=>by kernel_rfl
 | 1,_=>by kernel_rfl
 | 2,_=>by kernel_rfl
 | 3,_=>by kernel_rfl
 | 4,_=>by kernel_rfl
 | 5,_=>by kernel_rfl
 | 6,_=>by kernel_rfl
 | 7,_=>by kernel_rfl
 | 8,_=>by kernel_rfl
 | 9,_=>by kernel_rfl
 | k+10,h=>by omega
theorem A1k (k:Nat):(A5s k).length=256:=by unfold A5s;simp
theorem A0h {cs cs':List AV} {K:List AV→Prop} (h:cs=cs') (hk:K cs'):A5c cs K:=by rw [D2,h];exact hk
theorem B5r:A5 Tryz.prog Γ 287 [.str B3q] fun v=>v=.tuple [.agg (A5s 10),.bool true]:=by
 generalize hD:B3q=D
 have hlen:D.length=10:=by rw [← hD];rfl
 have hda:=fun k h=>D1f k h
 rw [hD] at hda
 refine aps Tryz.func287 ?_
 intro s
 refine wr ?_
 intro b hb
 refine wr ?_
 refine AWp.loopA [4] [6,7,8,9,12,13,14,5,15,16,17,3,18,19,10,11] (fun i:Nat=>[.int .i64 i]) (fun i s'=>i≤10∧s'.bx b=some (333,A5s i)∧Sub s s') (fun i=>10 - i) (0) (by kernel_rfl) (eqa) ?_ ?_
 ·exact ⟨by omega,A1,(Sub.refl _).set hb _ _⟩
 ·rintro x i s1 ⟨h1,h2,h3⟩
  show awp _ _ _ _ _ (updL _ _ [.int .i64 (i:Int)]) _
  conv=>whnf
  by_cases hlt:i < 10
  ·have hd:=hda i hlt
   have hz:A7 D ((i:Int)).toNat=A7 D i:=rfl
   repeat' ((first|exact pru|(refine brS (fun h=>?_) (fun h=>?_)<;>(try rw [h])<;>(try simp only [bS,↓reduceIte] at h))|refine D3 ?_|(rw [hz])|(rw [hd])|refine gS ?_|refine aA ?_|refine nA ?_|fail)<;>(conv=>whnf))
   refine ⟨?_,A0h (cs':=A5s (i+1)) ?_ ?_⟩
   ·rw [A1k]
    show 0+((48+i:Nat):Int).toNat * 1+1≤256
    omega
   ·rw [show 0+((48+i:Nat):Int).toNat * (fun x=>x.size) Tryz.prog.types[4]=48+i by show 0+((48+i:Nat):Int).toNat * 1=_;omega]
    exact D35 i hlt
   refine wp ?_
   exact ⟨i+1,eqa,B9,⟨by omega,A1,h3.set hb _ _⟩,by omega⟩
  ·obtain rfl:i=10:=by omega
   refine wp ?_
   exact ⟨h3.set hb _ _,by kernel_rfl⟩
end Go.Proofs.YticnkpgmmpenlaaGreatDoor.Lx
namespace Go.Proofs.YticnkpgmmpenlaaGreatDoor.Lx
open Go Go.Ab Go.RowKit Go.Proofs.YticnkpgmmpenlaaGreatDoor.Sc
variable {Γ:Nat→AV}
attribute [local irreducible] A5 Sto.set Sto.grow A5s
theorem D34 (c:UInt8):(A5s 10).drop c.toNat=.bool (A4u c.toNat)::(A5s 10).drop (c.toNat+1):=by
 have hc:c.toNat < 256:=c.toNat_lt
 have hlen:=A1k 10
 rw [List.drop_eq_getElem_cons (by omega)]
 congr 1
 unfold A5s A4u
 simp only [List.getElem_map,List.getElem_range]
 refine congrArg AV.bool ?_
 rw [Bool.eq_iff_iff]
 simp
 omega
theorem U8 {s:Sto} {b:Nat} (hb:s.bx b=some (333,A5s 10)) (c:UInt8) :
  A0 Tryz.prog Γ 300 [.ptr (some ⟨b,0,none⟩),.int .u8 c.toNat] s fun v s'=>v=.bool (A4u c.toNat)∧s'=s:=by
 have hd:(A5s 10).drop (0+((c.toNat:Int)).toNat * (fun x=>x.size) Tryz.prog.types[4])=.bool (A4u c.toNat)::(A5s 10).drop (c.toNat+1):=by
  rw [show 0+((c.toNat:Int)).toNat * (fun x=>x.size) Tryz.prog.types[4]=c.toNat by show 0+((c.toNat:Nat):Int).toNat * 1=_;omega]
  exact D34 c
 have hc:c.toNat < 256:=c.toNat_lt
 refine acs Tryz.func300 ?_
 refine wp ?_;(rw [hd]);refine wp ?_
 exact ⟨_,Sub.refl _,rfl,rfl⟩
def digB (c:UInt8):Bool:=A4u c.toNat
def A78 (l:List UInt8):List UInt8:=l.dropWhile digB
def A1m (l:List UInt8):List UInt8:=(l.reverse.dropWhile digB).reverse
theorem B7b (l:List UInt8) (c:UInt8):A1m (l++[c])=if digB c=true then A1m l else l++[c]:=by
 unfold A1m
 rw [List.reverse_append,List.reverse_singleton,List.singleton_append,List.dropWhile_cons]
 split<;>simp
theorem C6c (l:List UInt8):(A1m l).length≤l.length:=by
 unfold A1m
 rw [List.length_reverse]
 have:=(List.dropWhile_sublist (p:=digB) (l:=l.reverse)).length_le
 rw [List.length_reverse] at this
 exact this
theorem C4i {s:Sto} {b:Nat} (hb:s.bx b=some (333,A5s 10)) (l:List UInt8) (hl:l.length≤1048576) :
  A0 Tryz.prog Γ 288 [.str l,.ptr (some ⟨b,0,none⟩)] s fun v s'=>v=.str (A78 l)∧s'=s:=by
 refine acs Tryz.func288 ?_
 refine wr ?_
 refine AWp.loopA [0] [5,6,7,8,9,10,11,12,13,14] (fun q:List UInt8=>[.str q]) (fun q s'=>q.length≤l.length∧s'=s∧A78 l=A78 q) (fun q=>q.length) (l) (by kernel_rfl) (eqa) ?_ ?_
 ·exact ⟨Nat.le_refl _,rfl,rfl⟩
 ·rintro x q s1 ⟨h1,rfl,h2⟩
  show awp _ _ _ _ _ (updL _ _ [.str q]) _
  conv=>whnf
  cases q with
  | nil =>
   refine wp ?_
   exact ⟨_,Sub.refl _,by rw [h2];rfl,rfl⟩
  | cons c q =>
   have hz:A7 (c::q) (0:Int).toNat=c:=rfl
   have hp:0 < (c::q).length:=by simp
   repeat' ((first|exact pru|(refine brS (fun h=>?_) (fun h=>?_)<;>(try rw [h])<;>(try simp only [bS,↓reduceIte] at h))|(rw [hz])|(refine A0.by (U8 hb c) ?_;rintro _ _ ⟨rfl,rfl⟩)|refine gS ?_|refine aA ?_|refine nA ?_|fail)<;>(conv=>whnf))
   ·exact ⟨_,Sub.refl _,by rw [h2,A78,List.dropWhile_cons,if_neg (by unfold digB;simp [h])];rfl,rfl⟩
   ·refine ⟨q,?_,B9,⟨by simp only [List.length_cons] at h1;omega,by first|rfl|trivial,?_⟩,by simp⟩
    ·exact B5 (by show AV.str (List.drop (1:Int).toNat (List.take (c::q).length (c::q)))=_;rw [List.take_length];rfl) rfl
    ·rw [h2,A78,List.dropWhile_cons,if_pos (by unfold digB;exact h)];rfl
theorem C1o {s:Sto} {b:Nat} (hb:s.bx b=some (333,A5s 10)) (l:List UInt8) (hl:l.length≤1048576) :
  A0 Tryz.prog Γ 289 [.str l,.ptr (some ⟨b,0,none⟩)] s fun v s'=>v=.str (A1m l)∧s'=s:=by
 refine acs Tryz.func289 ?_
 refine wr ?_
 refine AWp.loopA [0] [5,6,7,8,9,10,11,12,13,14,15,16,17,18,19,20] (fun k:Nat=>[.str (l.take k)]) (fun k s'=>k≤l.length∧s'=s∧A1m l=A1m (l.take k)) (fun k=>k) (l.length) (by kernel_rfl) (B5 (by rw [List.take_length];rfl) rfl) ?_ ?_
 ·exact ⟨Nat.le_refl _,rfl,by rw [List.take_length]⟩
 ·rintro x k s1 ⟨h1,rfl,h2⟩
  show awp _ _ _ _ _ (updL _ _ [.str (l.take k)]) _
  conv=>whnf
  have hlen:(l.take k).length=k:=by rw [List.length_take];omega
  cases k with
  | zero =>
   refine wp ?_
   exact ⟨_,Sub.refl _,by rw [h2];rfl,rfl⟩
  | succ k =>
   have ht:l.take (k+1)=l.take k++[A7 l k]:=A8u (by omega)
   have hw:IntKind.i64.wrap (((l.take (k+1)).length:Int) - 1)=(k:Int):=C3 (by omega) (by omega) (by omega)
   have hz:A7 (l.take (k+1)) ((k:Int)).toNat=A7 l k:=by
    rw [Int.toNat_natCast,ht]
    have:=C17 (l.take k++[A7 l k]) (l.take k).length 0
    rw [List.drop_left,Nat.add_zero,List.length_take,Nat.min_eq_left (by omega)] at this
    exact this.symm
   repeat' ((first|exact pru|(refine brS (fun h=>?_) (fun h=>?_)<;>(try rw [h])<;>(try simp only [bS,↓reduceIte] at h))|(rw [hw])|(rw [hz])|(refine A0.by (U8 hb (A7 l k)) ?_;rintro _ _ ⟨rfl,rfl⟩)|refine gS ?_|refine aA ?_|refine nA ?_|fail)<;>(conv=>whnf))
   ·exact ⟨_,Sub.refl _,by rw [h2,ht,B7b,if_neg (by unfold digB;simp [h]),← ht];rfl,rfl⟩
   ·refine ⟨k,?_,B9,⟨by omega,by first|rfl|trivial,?_⟩,by omega⟩
    ·exact B5 (by show AV.str (List.drop 0 (List.take ((k:Int)).toNat (l.take (k+1))))=_;rw [Int.toNat_natCast,List.drop_zero,List.take_take,Nat.min_eq_left (by omega)]) rfl
    ·rw [h2,ht,B7b,if_pos (by unfold digB;exact h)]
theorem A56 {p:UInt8→Bool}:∀ l:List UInt8,l.dropWhile p=[]↔l.all p=true
 | []=>by simp
 | c::r=>by
  rw [List.dropWhile_cons,List.all_cons]
  by_cases h:p c=true
  ·rw [if_pos h,A56 r,h,Bool.true_and]
  ·rw [if_neg h]
   simp [h]
theorem C6t {p:UInt8→Bool} {x:UInt8} {r:List UInt8}:∀ l:List UInt8,l.dropWhile p=x::r→p x=false
 | []=>by simp
 | c::q=>by
  rw [List.dropWhile_cons]
  by_cases h:p c=true
  ·rw [if_pos h];exact C6t q
  ·rw [if_neg h]
   intro he
   injection he with he _
   rw [← he];simpa using h
theorem D4i (l:List UInt8):A78 (A1m l)=[]↔l.all digB=true:=by
 have hr:∀ m:List UInt8,m.reverse.all digB=m.all digB:=fun m=>List.all_reverse
 constructor
 ·intro h
  have h1:=(A56 _).1 h
  rw [← hr,← A56]
  unfold A1m at h1
  rw [hr] at h1
  rcases hd:l.reverse.dropWhile digB with _|⟨x,r⟩
  ·rfl
  ·have h2:=C6t _ hd
   rw [hd,List.all_cons,h2] at h1
   cases h1
 ·intro h
  rw [← hr,← A56] at h
  unfold A1m
  rw [h];rfl
theorem D33:(A5s 10).all A92=true:=by
 unfold A5s
 rw [List.all_map,List.all_eq_true]
 exact fun _ _=>rfl
theorem B3y (l:List UInt8) (hl:l.length≤1048576):A5 Tryz.prog Γ 270 [.str l,.str B3q] fun v=>v=.str (A78 (A1m l)):=by
 have hr:=C6c l
 refine aps Tryz.func270 ?_
 intro s
 conv=>whnf
 repeat' ((first|exact pru|(refine brS (fun h=>?_) (fun h=>?_)<;>(try rw [h])<;>(try simp only [bS,↓reduceIte] at h))|(refine A0.pure' ?_ (B5r);rintro _ rfl)|refine A8.pure ?_ (B5r)|refine gS ?_|refine aA ?_|refine nA ?_|fail)<;>(conv=>whnf))
 ·rw [h];rfl
 ·intro b hb
  conv=>whnf
  refine A4 A1 ?_
  conv=>whnf
  refine ⟨A1k 10,D33,Nat.le_of_ble_eq_true (by kernel_rfl),A0h (cs':=A5s 10) (List.append_nil _) ?_⟩
  refine wp ?_;(refine A0.by (C1o A1 l hl) ?_;rintro _ _ ⟨rfl,rfl⟩);refine wp ?_;(refine A0.by (C4i A1 (A1m l) (by omega)) ?_;rintro _ _ ⟨rfl,rfl⟩);refine wp ?_
  exact ⟨((Sub.refl _).set hb _ _).set hb _ _,rfl⟩
def A1g (l:List UInt8):Int:=if l.all digB=false∨(A7 l 0=48∧1 < l.length) then 4 else if 32 < l.length then 3 else 0
def A16 (k:Int) (t:List UInt8):AV:=.agg [.int .i64 k,.str t,.int .i64 0,.int .i64 0]
def B0x (e:Int):AV:=.iface 200 (.agg [.int .i64 e])
def D2p (l:List UInt8):AV:=if A1g l=0 then .tuple [A16 3 l,.nilIface] else .tuple [A16 0 [],B0x (A1g l)]
theorem b48 {b:UInt8}:(b.toNat:Int)=48↔b=48:=A93 (n:=48) (by decide)
theorem B0v {l:List UInt8} {e:Int} (h:A1g l=e) (he:e≠0):D2p l=.tuple [A16 0 [],B0x e]:=by rw [D2p,if_neg (by rw [h];exact he),h]
theorem B17 {l:List UInt8} (h:A1g l=0):D2p l=.tuple [A16 3 l,.nilIface]:=by rw [D2p,if_pos h]
theorem B18 (l:List UInt8) (h0:0 < l.length) (hl:l.length≤1048576):A5 Tryz.prog Γ 252 [.str l] fun v=>v=D2p l:=by
 have htr:=B3y (Γ:=Γ) l hl
 have hnil:=D4i l
 generalize A78 (A1m l)=T at htr hnil
 have h48:=b48 (b:=A7 l 0)
 have hz:A7 l (0:Int).toNat=A7 l 0:=rfl
 have fine:T=[]→¬ (A7 l 0=48∧1 < l.length)→¬ (l.all digB=false∨(A7 l 0=48∧1 < l.length)):=fun hT hn hh=>hh.elim (fun ha=>by rw [hnil.1 hT] at ha;cases ha) hn
 refine aps Tryz.func252 ?_
 intro s
 conv=>whnf
 intro b hb
 conv=>whnf
 repeat' ((first|exact pru|(refine brS (fun h=>?_) (fun h=>?_)<;>(try rw [h])<;>(try simp only [bS,↓reduceIte] at h))|refine D3 ?_|(refine A0.pure' ?_ (htr);rintro _ rfl)|refine A8.pure ?_ (htr)|(rw [hz])|refine gS ?_|refine aA ?_|refine nA ?_|fail)<;>(conv=>whnf))
 all_goals refine ⟨((Sub.refl _).set hb _ _).set hb _ _,?_⟩
 ·rw [B0v (e:=4) (if_pos (.inl (by simpa using mt hnil.2 h))) (by decide)]
  rfl
 ·rw [B0v (e:=4) (if_pos (.inr ⟨h48.1 (by assumption),by omega⟩)) (by decide)]
  rfl
 ·rw [B17 (by rw [A1g,if_neg (fine (by assumption) (by omega)),if_neg (by omega)])]
  rfl
 ·rw [B0v (e:=3) (by rw [A1g,if_neg (fine (by assumption) (fun hh=>by have:=h48.2 hh.1;omega)),if_pos (by omega)]) (by decide)]
  rfl
 ·rw [B17 (by rw [A1g,if_neg (fine (by assumption) (fun hh=>by have:=h48.2 hh.1;omega)),if_neg (by omega)])]
  rfl
def D7 (l:List UInt8):Except Int (Int × List UInt8) :=
 if digB (A7 l 0)=true then (if A1g l=0 then .ok (3,l) else .error (A1g l)) else if 32 < l.length then .error 3 else if A9m l=true then .ok (2,l) else .ok (1,l)
def D3f:Except Int (Int × List UInt8)→AV
 | .ok (k,t)=>.tuple [A16 k t,.nilIface]
 | .error e=>.tuple [A16 0 [],B0x e]
theorem B5p (hT:Wds Γ) (l:List UInt8) (h0:0 < l.length) (hl:l.length≤1048576):A5 Tryz.prog Γ 221 [.str l] fun v=>v=D3f (D7 l):=by
 have hw:=A6l hT l
 have hn:=B18 (Γ:=Γ) l h0 hl
 have hz:A7 l (0:Int).toNat=A7 l 0:=rfl
 have hd:digB (A7 l 0)=true↔(48:Int)≤(A7 l 0).toNat∧((A7 l 0).toNat:Int)≤57:=by unfold digB A4u;simp
 by_cases hE:A1g l=0
 ·rw [B17 hE] at hn
  unfold A16 at hn
  refine aps Tryz.func221 ?_
  intro s
  conv=>whnf
  intro b hb
  conv=>whnf
  repeat' ((first|exact pru|(refine brS (fun h=>?_) (fun h=>?_)<;>(try rw [h])<;>(try simp only [bS,↓reduceIte] at h))|refine D3 ?_|(refine A0.pure' ?_ (hn);rintro _ rfl)|refine A8.pure ?_ (hn)|(refine A0.pure' ?_ (hw);rintro _ rfl)|refine A8.pure ?_ (hw)|(rw [hz])|refine gS ?_|refine aA ?_|refine nA ?_|fail)<;>(conv=>whnf))
  all_goals refine ⟨((Sub.refl _).set hb _ _).set hb _ _,?_⟩
  ·rw [D7,if_pos (hd.2 ⟨by omega,by omega⟩),if_pos hE]
   rfl
  ·rw [D7,if_neg (fun hh=>by have:=hd.1 hh;omega),if_pos (by omega)]
   rfl
  ·rw [D7,if_neg (fun hh=>by have:=hd.1 hh;omega),if_neg (by omega),if_pos (by assumption)]
   rfl
  ·rw [D7,if_neg (fun hh=>by have:=hd.1 hh;omega),if_neg (by omega),if_neg (by simp_all)]
   rfl
  ·rw [D7,if_neg (fun hh=>by have:=hd.1 hh;omega),if_pos (by omega)]
   rfl
  ·rw [D7,if_neg (fun hh=>by have:=hd.1 hh;omega),if_neg (by omega),if_pos (by assumption)]
   rfl
  ·rw [D7,if_neg (fun hh=>by have:=hd.1 hh;omega),if_neg (by omega),if_neg (by simp_all)]
   rfl
 ·rw [B0v rfl hE] at hn
  unfold A16 B0x at hn
  refine aps Tryz.func221 ?_
  intro s
  conv=>whnf
  intro b hb
  conv=>whnf
  repeat' ((first|exact pru|(refine brS (fun h=>?_) (fun h=>?_)<;>(try rw [h])<;>(try simp only [bS,↓reduceIte] at h))|refine D3 ?_|(refine A0.pure' ?_ (hn);rintro _ rfl)|refine A8.pure ?_ (hn)|(refine A0.pure' ?_ (hw);rintro _ rfl)|refine A8.pure ?_ (hw)|(rw [hz])|refine gS ?_|refine aA ?_|refine nA ?_|fail)<;>(conv=>whnf))
  all_goals refine ⟨((Sub.refl _).set hb _ _).set hb _ _,?_⟩
  ·rw [D7,if_pos (hd.2 ⟨by omega,by omega⟩),if_neg hE]
   rfl
  ·rw [D7,if_neg (fun hh=>by have:=hd.1 hh;omega),if_pos (by omega)]
   rfl
  ·rw [D7,if_neg (fun hh=>by have:=hd.1 hh;omega),if_neg (by omega),if_pos (by assumption)]
   rfl
  ·rw [D7,if_neg (fun hh=>by have:=hd.1 hh;omega),if_neg (by omega),if_neg (by simp_all)]
   rfl
  ·rw [D7,if_neg (fun hh=>by have:=hd.1 hh;omega),if_pos (by omega)]
   rfl
  ·rw [D7,if_neg (fun hh=>by have:=hd.1 hh;omega),if_neg (by omega),if_pos (by assumption)]
   rfl
  ·rw [D7,if_neg (fun hh=>by have:=hd.1 hh;omega),if_neg (by omega),if_neg (by simp_all)]
   rfl
def G6:List UInt8→Nat
 | []=>0
 | c::r=>if J0 c.toNat=true then G6 r+1 else 0
theorem B3t:∀ l:List UInt8,G6 l≤l.length
 | []=>Nat.le_refl _
 | c::r=>by
  have:=B3t r
  unfold G6
  split
  ·simp only [List.length_cons];omega
  ·omega
theorem D5y {l:List UInt8} {i:Nat} (h:i < l.length):G6 (l.drop i)=if J0 (A7 l i).toNat=true then G6 (l.drop (i+1))+1 else 0:=by rw [A0x h,G6]
def H0 (l:List UInt8):Except Int (Int × List UInt8 × Nat) :=
 if A7 l 0=34 then (match Qu.cut l with
  | none=>.error 17
  | some (t,k)=>if 4096 < t.length then .error 3 else .ok (4,t,k))
 else if G6 l=0 then (if J5 l=[] then .error 15 else .ok (5,J5 l,(J5 l).length))
 else match D7 (l.take (G6 l)) with
  | .error e=>.error e
  | .ok (k,t)=>.ok (k,t,G6 l)
def S6 (l:List UInt8):AV :=
 match H0 l with
 | .ok (k,t,n)=>.tuple [A16 k t,.int .i64 n,.nilIface]
 | .error e=>.tuple [A16 0 [],.int .i64 (if A7 l 0=34 then 0 else G6 l:Nat),B0x e]
theorem C94 (hQ:Qu.A1q Γ) (l:List UInt8) (hl:l.length≤1048576) (h34:A7 l 0=34):A5 Tryz.prog Γ 219 [.str l] fun v=>v=S6 l:=by
 rcases hc:Qu.cut l with _|⟨t,k⟩
 ·have hq:=Qu.C1e hQ l hl hc
  have hf:S6 l=.tuple [A16 0 [],.int .i64 0,B0x 17]:=by unfold S6 H0;rw [if_pos h34,hc];simp only [if_pos h34];rfl
  rw [hf]
  refine aps Tryz.func219 ?_
  intro s
  conv=>whnf
  intro b hb
  refine wp ?_
  exact ⟨((Sub.refl _).set hb _ _).set hb _ _,rfl⟩
 ·have hq:=Qu.C1f hQ l hl hc
  by_cases ht:4096 < t.length
  ·have hf:S6 l=.tuple [A16 0 [],.int .i64 0,B0x 3]:=by unfold S6 H0;rw [if_pos h34,hc];simp only [if_pos ht,if_pos h34];rfl
   rw [hf]
   refine aps Tryz.func219 ?_
   intro s
   conv=>whnf
   intro b hb
   refine wp ?_
   exact ⟨((Sub.refl _).set hb _ _).set hb _ _,rfl⟩
  ·have hf:S6 l=.tuple [A16 4 t,.int .i64 k,.nilIface]:=by unfold S6 H0;rw [if_pos h34,hc];simp only [if_neg ht]
   rw [hf]
   refine aps Tryz.func219 ?_
   intro s
   conv=>whnf
   intro b hb
   refine wp ?_
   exact ⟨((Sub.refl _).set hb _ _).set hb _ _,rfl⟩
end Go.Proofs.YticnkpgmmpenlaaGreatDoor.Lx
namespace Go.Proofs.YticnkpgmmpenlaaGreatDoor.Lx
open Go Go.Ab Go.RowKit Go.Proofs.YticnkpgmmpenlaaGreatDoor.Sc
variable {Γ:Nat→AV}
attribute [local irreducible] A5 Sto.set Sto.grow
theorem B0g {l:List UInt8} (h:A7 l 0≠34) (h0:G6 l=0) (hg:J5 l=[]):S6 l=.tuple [A16 0 [],.int .i64 0,B0x 15]:=by
 unfold S6 H0
 rw [if_neg h,if_pos h0,if_pos hg]
 simp only [if_neg h,h0]
 rfl
theorem B2z {l:List UInt8} (h:A7 l 0≠34) (h0:G6 l=0) (hg:J5 l≠[]):S6 l=.tuple [A16 5 (J5 l),.int .i64 (J5 l).length,.nilIface]:=by
 unfold S6 H0
 rw [if_neg h,if_pos h0,if_neg hg]
theorem B46 {l:List UInt8} {e:Int} (h:A7 l 0≠34) (h0:G6 l≠0) (he:D7 (l.take (G6 l))=.error e):S6 l=.tuple [A16 0 [],.int .i64 (G6 l),B0x e]:=by
 unfold S6 H0
 rw [if_neg h,if_neg h0,he]
 simp only [if_neg h]
theorem B2y {l:List UInt8} {k:Int} {t:List UInt8} (h:A7 l 0≠34) (h0:G6 l≠0) (he:D7 (l.take (G6 l))=.ok (k,t)):S6 l=.tuple [A16 k t,.int .i64 (G6 l),.nilIface]:=by
 unfold S6 H0
 rw [if_neg h,if_neg h0,he]
theorem C8x (l:List UInt8):(∃ k t n,S6 l=.tuple [A16 k t,.int .i64 n,.nilIface])∨∃ n e,S6 l=.tuple [A16 0 [],.int .i64 n,B0x e]:=by
 unfold S6
 rcases H0 l with e|⟨k,t,n⟩
 ·exact .inr ⟨_,_,rfl⟩
 ·exact .inl ⟨_,_,_,rfl⟩
theorem D1n (hQ:Qu.A1q Γ) (hT:Wds Γ) (l:List UInt8) (h0:0 < l.length) (hl:l.length≤1048576):A5 Tryz.prog Γ 156 [.str l] fun v=>v=S6 l:=by
 have hz:A7 l (0:Int).toNat=A7 l 0:=rfl
 have h34:=b34 (b:=A7 l 0)
 by_cases hq:A7 l 0=34
 ·have hq':=h34.2 hq
  have hqq:=C94 hQ l hl hq
  rcases C8x l with ⟨k,t,n,he⟩|⟨n,e,he⟩
  ·rw [he] at hqq ⊢
   unfold A16 at hqq
   refine aps Tryz.func156 ?_
   intro s
   conv=>whnf
   intro b hb
   conv=>whnf
   repeat' ((first|exact pru|(refine brS (fun h=>?_) (fun h=>?_)<;>(try rw [h])<;>(try simp only [bS,↓reduceIte] at h))|refine D3 ?_|(refine A0.pure' ?_ (hqq);rintro _ rfl)|refine A8.pure ?_ (hqq)|(rw [hz])|refine gS ?_|refine aA ?_|refine nA ?_|fail)<;>(conv=>whnf))
   ·exact ⟨((Sub.refl _).set hb _ _).set hb _ _,rfl⟩
  ·rw [he] at hqq ⊢
   unfold A16 B0x at hqq
   refine aps Tryz.func156 ?_
   intro s
   conv=>whnf
   intro b hb
   conv=>whnf
   repeat' ((first|exact pru|(refine brS (fun h=>?_) (fun h=>?_)<;>(try rw [h])<;>(try simp only [bS,↓reduceIte] at h))|refine D3 ?_|(refine A0.pure' ?_ (hqq);rintro _ rfl)|refine A8.pure ?_ (hqq)|(rw [hz])|refine gS ?_|refine aA ?_|refine nA ?_|fail)<;>(conv=>whnf))
   ·exact ⟨((Sub.refl _).set hb _ _).set hb _ _,rfl⟩
 ·have hq':¬ ((A7 l 0).toNat:Int)=34:=fun h=>hq (h34.1 h)
  have hs:=C3r (Γ:=Γ) l
  have hlt:=B3t l
  refine aps Tryz.func156 ?_
  intro s
  conv=>whnf
  intro b hb
  conv=>whnf
  repeat' ((first|exact pru|(refine brS (fun h=>?_) (fun h=>?_)<;>(try rw [h])<;>(try simp only [bS,↓reduceIte] at h))|refine D3 ?_|(rw [hz])|refine gS ?_|refine aA ?_|refine nA ?_|fail)<;>(conv=>whnf))
  refine AWp.loopA [5] [17,18,19,20,21,22,23,24,25,26,27,28] (fun i:Nat=>[.int .i64 i]) (fun i s'=>i≤l.length∧s'=s.set b 163 [.int .i64 0,.str [],.int .i64 0,.int .i64 0]∧G6 l=i+G6 (l.drop i)) (fun i=>l.length - i) (0) (by kernel_rfl) (eqa) ?_ ?_
  ·exact ⟨by omega,rfl,by rw [List.drop_zero];simp⟩
  ·rintro x i _ ⟨i1,rfl,i2⟩
   show awp _ _ _ _ _ (updL _ _ [.int .i64 (i:Int)]) _
   conv=>whnf
   have hA:List.drop 0 (List.take ((i:Int)).toNat l)=l.take i:=by rw [Int.toNat_natCast,List.drop_zero]
   have hzi:A7 l ((i:Int)).toNat=A7 l i:=rfl
   by_cases hlt:i < l.length
   ·have hat:=D5y hlt
    have hpl:=B7z (Γ:=Γ) ((A7 l i).toNat:Int)
    by_cases hw:J0 (A7 l i).toNat=true
    ·rw [if_pos hw] at hat
     rw [hw] at hpl
     refine wp ?_;(rw [hzi]);refine wp ?_
     refine ⟨i+1,eqa,B9,⟨by omega,by first|rfl|trivial,by omega⟩,by omega⟩
    ·rw [if_neg hw] at hat
     rw [Bool.eq_false_iff.2 hw] at hpl
     have hN:G6 l=i:=by omega
     by_cases hi0:i=0
     ·subst hi0
      by_cases hg:J5 l=[]
      ·rw [B0g hq hN hg]
       rw [hg] at hs
       repeat' ((first|exact pru|(refine brS (fun h=>?_) (fun h=>?_)<;>(try rw [h])<;>(try simp only [bS,↓reduceIte] at h))|(rw [hzi])|(refine A0.pure' ?_ (hpl);rintro _ rfl)|refine A8.pure ?_ (hpl)|(refine A0.pure' ?_ (hs);rintro _ rfl)|refine A8.pure ?_ (hs)|refine D3 ?_|refine gS ?_|refine aA ?_|refine nA ?_|fail)<;>(conv=>whnf))
       all_goals (first|exact ⟨((Sub.refl _).set hb _ _).set hb _ _,rfl⟩|exact absurd (by assumption) hg)
      ·rw [B2z hq hN hg]
       repeat' ((first|exact pru|(refine brS (fun h=>?_) (fun h=>?_)<;>(try rw [h])<;>(try simp only [bS,↓reduceIte] at h))|(rw [hzi])|(refine A0.pure' ?_ (hpl);rintro _ rfl)|refine A8.pure ?_ (hpl)|(refine A0.pure' ?_ (hs);rintro _ rfl)|refine A8.pure ?_ (hs)|refine D3 ?_|refine gS ?_|refine aA ?_|refine nA ?_|fail)<;>(conv=>whnf))
       all_goals (first|exact ⟨((Sub.refl _).set hb _ _).set hb _ _,rfl⟩|exact absurd (by assumption) hg)
     ·have hle:=B5p hT (l.take i) (by rw [List.length_take];omega) (by rw [List.length_take];omega)
      have hN0:G6 l≠0:=by omega
      rcases hL:D7 (l.take i) with e|⟨k,t⟩
      ·rw [B46 hq hN0 (by rw [hN];exact hL),hN]
       rw [hL] at hle
       simp only [D3f,A16,B0x] at hle
       refine wp ?_;(rw [hzi]);refine wp ?_;(rw [hA]);refine wp ?_
       intro b2 hb2
       have n_b_b2:b≠b2:=A3 bxa hb2
       have n_b2_b:=n_b_b2.symm
       refine wp ?_
       exact ⟨((((Sub.refl _).set hb _ _).set (D0 hb2).2 _ _).set (D0 hb2).2 _ _).set hb _ _,rfl⟩
      ·rw [B2y hq hN0 (by rw [hN];exact hL),hN]
       rw [hL] at hle
       simp only [D3f,A16] at hle
       refine wp ?_;(rw [hzi]);refine wp ?_;(rw [hA]);refine wp ?_
       intro b2 hb2
       have n_b_b2:b≠b2:=A3 bxa hb2
       have n_b2_b:=n_b_b2.symm
       refine wp ?_
       exact ⟨((((Sub.refl _).set hb _ _).set (D0 hb2).2 _ _).set (D0 hb2).2 _ _).set hb _ _,rfl⟩
   ·have hN:G6 l=i:=by rw [C6 hlt] at i2;exact i2
    by_cases hi0:i=0
    ·subst hi0
     by_cases hg:J5 l=[]
     ·rw [B0g hq hN hg]
      rw [hg] at hs
      repeat' ((first|exact pru|(refine brS (fun h=>?_) (fun h=>?_)<;>(try rw [h])<;>(try simp only [bS,↓reduceIte] at h))|(rw [hzi])|(refine A0.pure' ?_ (hs);rintro _ rfl)|refine A8.pure ?_ (hs)|(refine A0.pure' ?_ (hs);rintro _ rfl)|refine A8.pure ?_ (hs)|refine D3 ?_|refine gS ?_|refine aA ?_|refine nA ?_|fail)<;>(conv=>whnf))
      all_goals (first|exact ⟨((Sub.refl _).set hb _ _).set hb _ _,rfl⟩|exact absurd (by assumption) hg)
     ·rw [B2z hq hN hg]
      repeat' ((first|exact pru|(refine brS (fun h=>?_) (fun h=>?_)<;>(try rw [h])<;>(try simp only [bS,↓reduceIte] at h))|(rw [hzi])|(refine A0.pure' ?_ (hs);rintro _ rfl)|refine A8.pure ?_ (hs)|(refine A0.pure' ?_ (hs);rintro _ rfl)|refine A8.pure ?_ (hs)|refine D3 ?_|refine gS ?_|refine aA ?_|refine nA ?_|fail)<;>(conv=>whnf))
      all_goals (first|exact ⟨((Sub.refl _).set hb _ _).set hb _ _,rfl⟩|exact absurd (by assumption) hg)
    ·have hle:=B5p hT (l.take i) (by rw [List.length_take];omega) (by rw [List.length_take];omega)
     have hN0:G6 l≠0:=by omega
     rcases hL:D7 (l.take i) with e|⟨k,t⟩
     ·rw [B46 hq hN0 (by rw [hN];exact hL),hN]
      rw [hL] at hle
      simp only [D3f,A16,B0x] at hle
      repeat' ((first|exact pru|(refine brS (fun h=>?_) (fun h=>?_)<;>(try rw [h])<;>(try simp only [bS,↓reduceIte] at h))|(rw [hzi])|(refine A0.pure' ?_ (hs);rintro _ rfl)|refine A8.pure ?_ (hs)|(rw [hA])|(refine A0.pure' ?_ (hle);rintro _ rfl)|refine A8.pure ?_ (hle)|refine gS ?_|refine aA ?_|refine nA ?_|fail)<;>(conv=>whnf))
      intro b2 hb2
      have n_b_b2:b≠b2:=A3 bxa hb2
      have n_b2_b:=n_b_b2.symm
      refine wp ?_
      exact ⟨((((Sub.refl _).set hb _ _).set (D0 hb2).2 _ _).set (D0 hb2).2 _ _).set hb _ _,rfl⟩
     ·rw [B2y hq hN0 (by rw [hN];exact hL),hN]
      rw [hL] at hle
      simp only [D3f,A16] at hle
      repeat' ((first|exact pru|(refine brS (fun h=>?_) (fun h=>?_)<;>(try rw [h])<;>(try simp only [bS,↓reduceIte] at h))|(rw [hzi])|(refine A0.pure' ?_ (hs);rintro _ rfl)|refine A8.pure ?_ (hs)|(rw [hA])|(refine A0.pure' ?_ (hle);rintro _ rfl)|refine A8.pure ?_ (hle)|refine gS ?_|refine aA ?_|refine nA ?_|fail)<;>(conv=>whnf))
      intro b2 hb2
      have n_b_b2:b≠b2:=A3 bxa hb2
      have n_b2_b:=n_b_b2.symm
      refine wp ?_
      exact ⟨((((Sub.refl _).set hb _ _).set (D0 hb2).2 _ _).set (D0 hb2).2 _ _).set hb _ _,rfl⟩
theorem C25:∀ l:List UInt8,(l.take (G6 l)).all (fun c=>J0 c.toNat)=true
 | []=>rfl
 | c::r=>by
  unfold G6
  split
  ·rename_i h
   rw [List.take_succ_cons,List.all_cons,h,C25 r];rfl
  ·rfl
theorem B7x {t:List UInt8} (h:digB (A7 t 0)=true) (he:A1g t=0):D7 t=.ok (3,t):=by rw [D7,if_pos h,if_pos he]
end Go.Proofs.YticnkpgmmpenlaaGreatDoor.Lx
namespace Go.Proofs.YticnkpgmmpenlaaGreatDoor.AsO
open Go Go.RowKit Go.Extern.Stop Go.Stop Go.Extern
theorem B2l (t:Addr) (w:World):(ReflectliteValue.unpack (.iface 201 (.pointer (some t)))).run Tryz.prog w
  = .ok (.agg #[.pointer (some ⟨13,201,none⟩),.pointer (some ⟨w.heap.size,0,none⟩),.int .u64 150]) (w.alloc (.cells #[.pointer (some t)] 201)):=by kernel_rfl
theorem C6e (a : Addr) (w : World) : (ReflectliteValue.methodAny (ReflectliteValue.valueError "reflectlite.Value.Type" 0) (fun t _ _ _ => ReflectliteType.toType t) #[(.agg #[.pointer (some ⟨13, 201, none⟩), .pointer (some a), .int .u64 150])]).run Tryz.prog w
  = .ok (.iface 271 (.agg #[.pointer (some ⟨13,201,none⟩)])) w:=by kernel_rfl
theorem A9p (h : Value) (w : World) : (Go.method 497 271 (.agg #[h]) "Kind").run Tryz.prog w = .ok (338, h) w := by kernel_rfl
theorem C5p (w:World):((ReflectliteType.abiMethod fun t=>(fun a:Nat=>Value.int IntKind.u8 (a:Int)) <$> Rtype.kind t) #[.pointer (some ⟨13,201,none⟩)]).run Tryz.prog w=.ok (.int .u8 22) w:=by kernel_rfl
theorem D17 (w:World):((ReflectliteType.abiMethod fun t=>(fun a:Nat=>Value.int IntKind.u8 (a:Int)) <$> Rtype.kind t) #[.pointer (some ⟨13,200,none⟩)]).run Tryz.prog w=.ok (.int .u8 25) w:=by kernel_rfl
theorem rlm (z:Sem Value) (f:TypeId→Addr→Nat→Nat→Sem Value) (v:Value) :
  ReflectliteValue.method z f #[v]=(do match ← ReflectliteValue.parts v with|none=>z|some (t,a,fl)=>f t a fl (fl % 32)):=rfl
theorem B0z (a:Addr) (w:World):(ReflectliteValue.parts (.agg #[.pointer (some ⟨13,201,none⟩),.pointer (some a),.int .u64 150])).run Tryz.prog w=.ok (some (201,a,150)) w:=by kernel_rfl
theorem C0w (a p:Addr) (W:World) (ha:W.cell? a=some (.pointer (some p))) :
  (ReflectliteValue.method (ReflectliteValue.valueError "reflectlite.Value.IsNil" 0) ReflectliteValue.isNil #[(.agg #[.pointer (some ⟨13, 201, none⟩), .pointer (some a), .int .u64 150])]).run Tryz.prog W = .ok (.bool false) W := by
 rw [rlm]
 simp only [Sem.run_bind,B0z,Result.andThen]
 simp [ReflectliteValue.isNil,loadVar,isAgg,underlying,Tryz.underlying201,ha,Result.andThen]
theorem A9o (h : Value) (w : World) : (Go.method 497 271 (.agg #[h]) "Elem").run Tryz.prog w = .ok (352, .agg #[h]) w := by kernel_rfl
theorem A13 (h : Value) (w : World) : (Go.method 497 271 (.agg #[h]) "Implements").run Tryz.prog w = .ok (353, .agg #[h]) w := by kernel_rfl
theorem A0p (h : Value) (w : World) : (Go.method 497 271 (.agg #[h]) "AssignableTo").run Tryz.prog w = .ok (350, .agg #[h]) w := by kernel_rfl
theorem C47 (w:World):(ReflectliteType.method ReflectliteType.elem #[.agg #[.pointer (some ⟨13,201,none⟩)]]).run Tryz.prog w=.ok (.iface 271 (.agg #[.pointer (some ⟨13,200,none⟩)])) w:=by kernel_rfl
theorem A7m (w : World) : (ReflectliteType.relation "Implements" ReflectliteType.implements_ #[.agg #[.pointer (some ⟨13, 200, none⟩)], (.iface 271 (.agg #[.pointer (some ⟨13, 98, none⟩)]))]).run Tryz.prog w = .ok (.bool true) w := by kernel_rfl
theorem C1p (v:Value) (w:World):(ReflectliteType.typeOf #[.iface 200 v]).run Tryz.prog w=.ok (.iface 271 (.agg #[.pointer (some ⟨13,200,none⟩)])) w:=by kernel_rfl
theorem A7a (w : World) : (ReflectliteType.relation "AssignableTo" ReflectliteType.assignableTo #[.agg #[.pointer (some ⟨13, 200, none⟩)], (.iface 271 (.agg #[.pointer (some ⟨13, 200, none⟩)]))]).run Tryz.prog w = .ok (.bool true) w := by kernel_rfl
theorem B7g (x0:Value) (w:World):(ReflectliteValue.unpack (.iface 200 (.agg #[x0]))).run Tryz.prog w
  = .ok (.agg #[.pointer (some ⟨13,200,none⟩),.pointer (some ⟨w.heap.size,0,none⟩),.int .u64 153]) (w.alloc (.cells #[x0] 200)):=by kernel_rfl
theorem B41 (w:World):(Rtype.elem? 201).run Tryz.prog w=.ok (some 200) w:=by kernel_rfl
theorem mkE (p:Addr) (w:World):(ReflectliteValue.mk 200 p ReflectliteValue.flagAddr).run Tryz.prog w=.ok (.agg #[.pointer (some ⟨13,200,none⟩),.pointer (some p),.int .u64 409]) w:=by kernel_rfl
theorem C0h (a p:Addr) (W:World) (ha:W.cell? a=some (.pointer (some p))) :
  (ReflectliteValue.method (ReflectliteValue.valueError "reflectlite.Value.Elem" 0) ReflectliteValue.elem #[(.agg #[.pointer (some ⟨13, 201, none⟩), .pointer (some a), .int .u64 150])]).run Tryz.prog W
   = .ok (.agg #[.pointer (some ⟨13,200,none⟩),.pointer (some p),.int .u64 409]) W:=by
 rw [rlm]
 simp only [Sem.run_bind,B0z,Result.andThen]
 simp [ReflectliteValue.elem,loadVar,isAgg,underlying,Tryz.underlying201,ha,Result.andThen,B41,mkE]
theorem rls (v x:Value):ReflectliteValue.set #[v,x]=(do
  let (some (dst,a,fl),some (src,b,_)):=(← ReflectliteValue.parts v,← ReflectliteValue.parts x)
   | unsupported (.noEntry "extern/(internal/reflectlite.Value).Set.zeroValue")
  if fl / ReflectliteValue.flagAddr % 2 == 0 then unsupported (.noEntry "extern/(internal/reflectlite.Value).Set.unaddressable")
  let val ← loadVar src b
  if ← Rtype.directlyAssignable dst src then storeVar dst a val
  else if ← Rtype.implements dst src then
   if (← Rtype.kind src) == 20 then
    match val with
    | .nilIface => unsupported (.noEntry "extern/reflectlite: a nil value of one interface type handed on as a value of another")
    | _=>storeVar dst a val
   else storeVar dst a (.iface src val)
  else panicString ("reflectlite.Set: value of type " ++ (← Rtype.spelt src) ++ " is not assignable to type " ++ (← Rtype.spelt dst))
  pure (.tuple #[])):=rfl
theorem B51 (a:Addr) (w:World):(ReflectliteValue.parts (.agg #[.pointer (some ⟨13,200,none⟩),.pointer (some a),.int .u64 409])).run Tryz.prog w=.ok (some (200,a,409)) w:=by kernel_rfl
theorem B52 (b:Addr) (w:World):(ReflectliteValue.parts (.agg #[.pointer (some ⟨13,200,none⟩),.pointer (some b),.int .u64 153])).run Tryz.prog w=.ok (some (200,b,153)) w:=by kernel_rfl
theorem C0d (w:World):(Rtype.directlyAssignable 200 200).run Tryz.prog w=.ok true w:=by kernel_rfl
theorem D8h (a b:Addr) (val:Value) (W W':World) (hl:(loadVar 200 b).run Tryz.prog W=.ok val W) (hs:(storeVar 200 a val).run Tryz.prog W=.ok () W') :
  (ReflectliteValue.set #[(.agg #[.pointer (some ⟨13,200,none⟩),.pointer (some a),.int .u64 409]),(.agg #[.pointer (some ⟨13,200,none⟩),.pointer (some b),.int .u64 153])]).run Tryz.prog W=.ok (.tuple #[]) W':=by
 rw [rls]
 simp only [Sem.run_bind,B51,B52,Result.andThen]
 simp [ReflectliteValue.flagAddr,hl,Result.andThen,C0d,hs]
theorem C4u (t:Value) (w:World) :
  Calls Tryz.prog 103 #[.nilIface,t] w fun e w'=>e=.returned (.bool false)∧w'=w:=by
 go_enter Tryz.func103,Tryz.ntmps103
 go_wp2
 go_ret
 exact ⟨rfl,rfl⟩
theorem C4t (x0:Value) (t:Addr) (old val:Value) (w W':World) (hg:w.cell? ⟨0,0,none⟩=some (.iface 271 (.agg #[.pointer (some ⟨13,98,none⟩)]))) (ht0:w.cell? t=some old)
  (hl:(loadVar 200 ⟨w.heap.size+1+1+1,0,none⟩).run Tryz.prog ((((w.alloc (.cells #[.pointer (some t)] 201)).alloc (.cells #[.pointer (some ⟨13,201,none⟩),.pointer (some ⟨w.heap.size,0,none⟩),.int .u64 150] 205)).alloc (.cells #[.pointer (some ⟨13,201,none⟩),.pointer (some ⟨w.heap.size,0,none⟩),.int .u64 150] 205)).alloc (.cells #[x0] 200))=.ok val ((((w.alloc (.cells #[.pointer (some t)] 201)).alloc (.cells #[.pointer (some ⟨13,201,none⟩),.pointer (some ⟨w.heap.size,0,none⟩),.int .u64 150] 205)).alloc (.cells #[.pointer (some ⟨13,201,none⟩),.pointer (some ⟨w.heap.size,0,none⟩),.int .u64 150] 205)).alloc (.cells #[x0] 200))) (hs:(storeVar 200 t val).run Tryz.prog ((((w.alloc (.cells #[.pointer (some t)] 201)).alloc (.cells #[.pointer (some ⟨13,201,none⟩),.pointer (some ⟨w.heap.size,0,none⟩),.int .u64 150] 205)).alloc (.cells #[.pointer (some ⟨13,201,none⟩),.pointer (some ⟨w.heap.size,0,none⟩),.int .u64 150] 205)).alloc (.cells #[x0] 200))=.ok () W') :
  Calls Tryz.prog 103 #[.iface 200 (.agg #[x0]),.iface 201 (.pointer (some t))] w fun ev w'=>ev=.returned (.bool true)∧w'=W':=by
 have h6:=@run_callFunc_extern Tryz.prog 157 _ (fun args=>ReflectliteValue.unpack (args.getD 0 (.tuple #[]))) Tryz.func157 (by kernel_rfl) (by kernel_rfl) (by kernel_rfl) (by kernel_rfl)
 have h7 := @run_callFunc_extern Tryz.prog 158 _ (ReflectliteValue.methodAny (ReflectliteValue.valueError "reflectlite.Value.Type" 0) (fun t _ _ _ => ReflectliteType.toType t)) Tryz.func158 (by kernel_rfl) (by kernel_rfl) (by kernel_rfl) (by kernel_rfl)
 have h8 := @run_callFunc_extern Tryz.prog 159 _ (ReflectliteValue.method (ReflectliteValue.valueError "reflectlite.Value.IsNil" 0) ReflectliteValue.isNil) Tryz.func159 (by kernel_rfl) (by kernel_rfl) (by kernel_rfl) (by kernel_rfl)
 have h27:=@run_callFunc_extern Tryz.prog 338 _ (ReflectliteType.abiMethod fun t=>do pure (.int .u8 (← Rtype.kind t))) Tryz.func338 (by kernel_rfl) (by kernel_rfl) (by kernel_rfl) (by kernel_rfl)
 have h37:=@run_callFunc_extern Tryz.prog 352 _ (ReflectliteType.method ReflectliteType.elem) Tryz.func352 (by kernel_rfl) (by kernel_rfl) (by kernel_rfl) (by kernel_rfl)
 have h38 := @run_callFunc_extern Tryz.prog 353 _ (ReflectliteType.relation "Implements" ReflectliteType.implements_) Tryz.func353 (by kernel_rfl) (by kernel_rfl) (by kernel_rfl) (by kernel_rfl)
 have h10:=@run_callFunc_extern Tryz.prog 223 _ ReflectliteType.typeOf Tryz.func223 (by kernel_rfl) (by kernel_rfl) (by kernel_rfl) (by kernel_rfl)
 have h35 := @run_callFunc_extern Tryz.prog 350 _ (ReflectliteType.relation "AssignableTo" ReflectliteType.assignableTo) Tryz.func350 (by kernel_rfl) (by kernel_rfl) (by kernel_rfl) (by kernel_rfl)
 have h11 := @run_callFunc_extern Tryz.prog 224 _ (ReflectliteValue.method (ReflectliteValue.valueError "reflectlite.Value.Elem" 0) ReflectliteValue.elem) Tryz.func224 (by kernel_rfl) (by kernel_rfl) (by kernel_rfl) (by kernel_rfl)
 have h12:=@run_callFunc_extern Tryz.prog 225 _ ReflectliteValue.set Tryz.func225 (by kernel_rfl) (by kernel_rfl) (by kernel_rfl) (by kernel_rfl)
 have tO:=C1p
 have mA:=A0p
 have aE:=A7a
 have vE:=B7g
 have f6:=B2l
 have f7:=C6e
 have mK:=A9p
 have mE:=A9o
 have mI:=A13
 have kP:=C5p
 have kE:=D17
 have eP:=C47
 have iE:=A7m
 have n8:=C0w ⟨w.heap.size,0,none⟩ t ((w.alloc (.cells #[.pointer (some t)] 201)).alloc (.cells #[.pointer (some ⟨13,201,none⟩),.pointer (some ⟨w.heap.size,0,none⟩),.int .u64 150] 205)) (by simp)
 have hlt:0 < w.heap.size:=by
  rcases Nat.lt_or_ge 0 w.heap.size with h|h
  ·exact h
  ·simp [World.cell?,Array.getElem?_eq_none h] at hg
 have hg2:((w.alloc (.cells #[.pointer (some t)] 201)).alloc (.cells #[.pointer (some ⟨13,201,none⟩),.pointer (some ⟨w.heap.size,0,none⟩),.int .u64 150] 205)).cell? ⟨0,0,none⟩=some (.iface 271 (.agg #[.pointer (some ⟨13,98,none⟩)])):=by
  rw [World.cell?_alloc_lt _ _ ⟨0,0,none⟩ (by first|(simp;done)|(simp;omega)),World.cell?_alloc_lt _ _ ⟨0,0,none⟩ hlt];exact hg
 have el:=C0h ⟨w.heap.size,0,none⟩ t (((w.alloc (.cells #[.pointer (some t)] 201)).alloc (.cells #[.pointer (some ⟨13,201,none⟩),.pointer (some ⟨w.heap.size,0,none⟩),.int .u64 150] 205)).alloc (.cells #[.pointer (some ⟨13,201,none⟩),.pointer (some ⟨w.heap.size,0,none⟩),.int .u64 150] 205)) (by rw [World.cell?_alloc_lt _ _ ⟨w.heap.size,0,none⟩ (by simp;omega)];simp)
 have st:=D8h t ⟨w.heap.size+1+1+1,0,none⟩ val ((((w.alloc (.cells #[.pointer (some t)] 201)).alloc (.cells #[.pointer (some ⟨13,201,none⟩),.pointer (some ⟨w.heap.size,0,none⟩),.int .u64 150] 205)).alloc (.cells #[.pointer (some ⟨13,201,none⟩),.pointer (some ⟨w.heap.size,0,none⟩),.int .u64 150] 205)).alloc (.cells #[x0] 200)) W' hl hs
 clear hl hs
 go_enter Tryz.func103,Tryz.ntmps103
 go_wp2
 refine wp_loop_rounds 1 ?_
 rw [rounds_succ]
 go_wp2
 go_ret
 exact ⟨rfl,rfl⟩
open Go.Ab
variable {Γ:Nat→AV}
def A4b (Γ:Nat→AV):Prop:=Γ 0=.cptr [.iface 271 (.agg [.ptr (some ⟨13,98,none⟩)])]
theorem B1z {G:Gh} {s:Sto} {w:World} (hE:A4b Γ) (hm:Mod Γ G s w):w.cell? ⟨0,0,none⟩=some (.iface 271 (.agg #[.pointer (some ⟨13,98,none⟩)])):=by
 have h:=(hm.glob 0).r
 rw [hE] at h
 obtain ⟨b,o,hp,hc⟩:=N3.1 h
 simp only [Value.pointer.injEq,Option.some.injEq,Addr.mk.injEq] at hp
 obtain ⟨rfl,rfl,_⟩:=hp
 unfold C2 at hc
 obtain ⟨_,⟨u,hu,hr⟩,_⟩:=hc
 obtain ⟨v,rfl,hv⟩:=Q2.1 hr
 obtain ⟨us,rfl,hus⟩:=A41.1 hv
 obtain ⟨u1,us1,h1,h2,h3⟩:=A6.1 hus
 rw [P4] at h2
 rw [A9] at h3
 subst h2 h3
 obtain rfl:us = #[.pointer (some ⟨13,98,none⟩)]:=by cases us;simp_all
 exact hu
theorem A3u (x:AV):A5 Tryz.prog Γ 103 [.nilIface,x] fun v=>v=.bool false:=by
 refine fun s=>⟨fun G w vs hm hr=>?_⟩
 obtain ⟨u,us,rfl,hu,hus⟩:=A6.1 hr
 obtain ⟨u1,us1,rfl,hu1,hus1⟩:=A6.1 hus
 rw [A9] at hus1;subst hus1
 rw [R7] at hu;subst hu
 refine (C4u u1 w).mono ?_
 rintro e w' ⟨rfl,rfl⟩
 exact ⟨_,_,s,G,rfl,⟨rfl,rfl⟩,G9.2 rfl,hm,Ext.refl _ _⟩
theorem A91 (hE:A4b Γ) (x0:Int) {s:Sto} {b:Nat} {T0:TypeId} {o0:AV} (hb:s.bx b=some (T0,[o0])) :
  A0 Tryz.prog Γ 103 [.iface 200 (.agg [.int .i64 x0]),.iface 201 (.ptr (some ⟨b,0,none⟩))] s fun v s'=>v=.bool true∧s'=s.set b T0 [.int .i64 x0]:=by
 refine ⟨fun G w vs hm hr=>?_⟩
 obtain ⟨u,us,rfl,hu,hus⟩:=A6.1 hr
 obtain ⟨u1,us1,rfl,hu1,hus1⟩:=A6.1 hus
 rw [A9] at hus1;subst hus1
 obtain ⟨e,rfl,he⟩:=Q2.1 hu
 obtain ⟨p,rfl,hp⟩:=Q2.1 hu1
 rw [P4] at hp;subst hp
 obtain ⟨vs,rfl,hvs⟩:=A41.1 he
 obtain ⟨v0,r0,h0,hv0,hr0⟩:=A6.1 hvs
 rw [A9] at hr0
 obtain rfl:vs = #[v0]:=by cases vs;simp_all
 have hg:=B1z hE hm
 obtain ⟨ws,hws,hcell⟩:=A45 hm hb
 obtain ⟨w0,ws',rfl,_,_⟩:=A6.1 hws
 have ht0:w.cell? ⟨b,0,none⟩=some w0:=by rw [hcell];rfl
 obtain ⟨m1,e1⟩:=hm.row_new (.cells #[.pointer (some ⟨b,0,none⟩)] 201)
 obtain ⟨m2,e2⟩:=m1.row_new (.cells #[.pointer (some ⟨13,201,none⟩),.pointer (some ⟨w.heap.size,0,none⟩),.int .u64 150] 205)
 obtain ⟨m3,e3⟩:=m2.row_new (.cells #[.pointer (some ⟨13,201,none⟩),.pointer (some ⟨w.heap.size,0,none⟩),.int .u64 150] 205)
 obtain ⟨m4,e4⟩:=m3.row_new (.cells #[v0] 200)
 have X:=((e1.trans e2).trans e3).trans e4
 obtain ⟨val,r,hl,hk,hrr⟩:=X9 (P:=Tryz.prog) (t:=200) (cs:=[.int .i64 x0]) (us:=[v0]) (b:=w.heap.size+1+1+1) (o:=0) (w:=(((( w.alloc (.cells #[.pointer (some ⟨b,0,none⟩)] 201)).alloc (.cells #[.pointer (some ⟨13,201,none⟩),.pointer (some ⟨w.heap.size,0,none⟩),.int .u64 150] 205)).alloc (.cells #[.pointer (some ⟨13,201,none⟩),.pointer (some ⟨w.heap.size,0,none⟩),.int .u64 150] 205)).alloc (.cells #[v0] 200))) (K:=fun r=>r=.agg [.int .i64 x0]) (by (conv=>whnf);exact ⟨Nat.le_of_ble_eq_true (by kernel_rfl),by first|(conv=>whnf;done)|(conv=>whnf;rfl)|rfl⟩) (A6.2 ⟨v0,_,rfl,R.mono X _ _ hv0,A9.2 rfl⟩) (fun i v hi=>by
  rw [World.cell?_alloc_at _ _ _ _ (by simp)]
  simpa using hi)
 subst hk
 obtain ⟨zs,rfl,hval⟩:=A41.1 hrr
 obtain ⟨W',hs,hM',X'⟩:=B6z (P:=Tryz.prog) (T:=200) m4 hb (o:=0) (n:=1) (us:=[.int .i64 x0]) (v:=(.agg zs)) (by kernel_rfl) hval rfl rfl (by simp)
 refine (C4t v0 ⟨b,0,none⟩ w0 (.agg zs) w W' hg ht0 hl hs).mono ?_
 rintro ev w' ⟨rfl,rfl⟩
 exact ⟨_,_,_,_,rfl,⟨rfl,rfl⟩,G9.2 rfl,hM',X.trans X'⟩
end Go.Proofs.YticnkpgmmpenlaaGreatDoor.AsO
namespace Go.Proofs.YticnkpgmmpenlaaGreatDoor.Lx
open Go Go.Ab Go.RowKit Go.Proofs.YticnkpgmmpenlaaGreatDoor.Sc
variable {Γ:Nat→AV}
attribute [local irreducible] A5 Sto.set Sto.grow
theorem D2w:∀ m:Nat,m < 256→(Qu.one (m:Int)).count 10=0:=by decide +kernel
theorem C53 (t:List UInt8):(Qu.A1w t).count 10=0:=by
 unfold Qu.A1w
 have h:(t.flatMap fun c=>Qu.one c.toNat).count 10=0:=by
  induction t with
  | nil=>rfl
  | cons c t ih=>rw [List.flatMap_cons,List.count_append,ih,D2w c.toNat c.toNat_lt]
 simp [h]
theorem C58:∀ x ∈ signsL,x.count 10=0:=by decide
theorem A9u:∀ (L:List (List UInt8)) (l:List UInt8),A1j L l=[]∨(A1j L l ∈ L∧pfx (A1j L l) l=true)
 | [],l=>.inl rfl
 | x::L,l=>by
  unfold A1j
  split
  ·rename_i h;exact .inr ⟨by simp,h⟩
  ·rcases A9u L l with h|h
   ·exact .inl h
   ·exact .inr ⟨by simp [h.1],h.2⟩
theorem D2y {x l:List UInt8} (h:pfx x l=true):x.length≤l.length∧l.take x.length=x:=by
 unfold pfx at h
 simpa using h
theorem D0m (l:List UInt8) (h:l.all (fun c=>J0 c.toNat)=true):l.count 10=0:=by
 rw [List.count_eq_zero]
 intro hm
 have:=List.all_eq_true.1 h 10 hm
 revert this
 decide
theorem A0y {l t:List UInt8} {k:Int} {n:Nat} (h:H0 l=.ok (k,t,n)) (h0:l≠[]):1≤n∧n≤l.length∧(l.take n).count 10=0:=by
 unfold H0 at h
 split at h
 ·split at h
  ·cases h
  ·rename_i t' k' hc
   have hb:=Qu.C2b hc
   split at h
   ·cases h
   ·cases h
    exact ⟨hb.1,hb.2.1,by rw [← hb.2.2];exact C53 _⟩
 ·split at h
  ·split at h
   ·cases h
   ·rename_i hg
    cases h
    rcases A9u signsL l with hs|hs
    ·exact absurd hs hg
    ·have hp:=D2y hs.2
     refine ⟨List.length_pos_iff.2 hg,hp.1,?_⟩
     rw [show J5 l=A1j signsL l from rfl,hp.2]
     exact C58 _ hs.1
  ·rename_i h1
   split at h
   ·cases h
   ·cases h
    exact ⟨Nat.pos_of_ne_zero h1,B3t l,D0m _ (C25 l)⟩
theorem C3o {l:List UInt8} (h:l.count 10=0) (p:Int × Int):D5 p l=(p.1,p.2+l.length):=by
 obtain ⟨a,b⟩:=p
 rw [A5n,if_pos h]
abbrev Tok:=Int × List UInt8 × Int × Int
def A2i:Nat→Int × Int→List UInt8→Except (Int × Int × Int) (List Tok)
 | 0,_,_=>.ok []
 | k+1,p,l=>if l.drop (B3 l)=[] then .ok [] else match H0 (l.drop (B3 l)) with
  | .error e=>.error (e,D5 p (l.take (B3 l)))
  | .ok (kd,t,z)=>match A2i k ((D5 p (l.take (B3 l))).1,(D5 p (l.take (B3 l))).2+z) ((l.drop (B3 l)).drop z) with
   | .error e=>.error e
   | .ok m=>.ok ((kd,t,D5 p (l.take (B3 l)))::m)
def B6e (o:List Tok):Except (Int × Int × Int) (List Tok)→Except (Int × Int × Int) (List Tok)
 | .error e=>.error e
 | .ok m=>.ok (o++m)
theorem D22 (o p:List Tok) (x:Except (Int × Int × Int) (List Tok)):B6e o (B6e p x)=B6e (o++p) x:=by cases x<;>simp [B6e]
theorem D21 (x:Except (Int × Int × Int) (List Tok)):B6e [] x=x:=by cases x<;>simp [B6e]
theorem A1c {k:Nat} {p:Int × Int} {l:List UInt8} (h:l.drop (B3 l)=[]):A2i (k+1) p l=.ok []:=by rw [A2i,if_pos h]
theorem A31 {k:Nat} {p:Int × Int} {l:List UInt8} {e:Int} (h:l.drop (B3 l)≠[]) (he:H0 (l.drop (B3 l))=.error e):A2i (k+1) p l=.error (e,D5 p (l.take (B3 l))):=by rw [A2i,if_neg h,he]
theorem A28 {k:Nat} {p:Int × Int} {l t:List UInt8} {kd:Int} {z:Nat} (h:l.drop (B3 l)≠[]) (he:H0 (l.drop (B3 l))=.ok (kd,t,z)) :
  A2i (k+1) p l=B6e [(kd,t,D5 p (l.take (B3 l)))] (A2i k ((D5 p (l.take (B3 l))).1,(D5 p (l.take (B3 l))).2+z) ((l.drop (B3 l)).drop z)):=by
 rw [A2i,if_neg h,he]
 simp only
 cases A2i k ((D5 p (l.take (B3 l))).1,(D5 p (l.take (B3 l))).2+z) ((l.drop (B3 l)).drop z)<;>rfl
theorem B86:∀ (k j:Nat) (p:Int × Int) (l:List UInt8),l.length < k→l.length < j→A2i k p l=A2i j p l
 | 0,_,p,l=>fun h=>by omega
 | _,0,p,l=>fun _ h=>by omega
 | k+1,j+1,p,l=>fun h h'=>by
  by_cases hl:l.drop (B3 l)=[]
  ·rw [A1c hl,A1c hl]
  ·rcases he:H0 (l.drop (B3 l)) with e|⟨kd,t,z⟩
   ·rw [A31 hl he,A31 hl he]
   ·have hb:=A0y he hl
    rw [List.length_drop] at hb
    rw [A28 hl he,A28 hl he,B86 k j _ _ (by simp only [List.length_drop];omega) (by simp only [List.length_drop];omega)]
def A03 (l:List UInt8):Except (Int × Int × Int) (List Tok):=if 65536 < l.length then .error (3,1,1) else A2i (l.length+1) (1,1) l
def P3 (t:Tok):List AV:=[.int .i64 t.1,.str t.2.1,.int .i64 t.2.2.1,.int .i64 t.2.2.2]
def W7 (l:List Tok):List (List AV):=l.map P3
theorem A5t (l:List Tok):(W7 l).length=l.length:=List.length_map ..
theorem D1l (l:List Tok):fgE (W7 l)=W7 l:=A58 (A:=P3) (fun _=>rfl) l
theorem D0f (o:List Tok) (m:Tok):W7 o++[P3 m]=W7 (o++[m]):=by simp [W7]
def C4s:Except (Int × Int × Int) (List Tok)→AV
 | .ok m=>.tuple [.slice 0 (W7 m),.agg [.int .i64 0,.int .i64 0,.int .i64 0]]
 | .error (e,a,b)=>.tuple [.slice 0 [],.agg [.int .i64 e,.int .i64 a,.int .i64 b]]
structure D93 (s s':Sto) (S:List UInt8) (T:TypeId) (o:List Tok) (t:Nat) (q:List UInt8) (p:Int × Int):Prop where
 le:q.length≤S.length∧o.length+q.length≤S.length
 pl:(0≤p.1∧p.1≤1+(S.length - q.length:Nat))∧0≤p.2∧p.2≤1+2 * ((S.length - q.length:Nat):Int)
 own:Own s s' o.isEmpty t T 4
 is:A2i (S.length+1) (1,1) S=B6e o (A2i (S.length+1) p q)
theorem B6f (hQ:Qu.A1q Γ) (hT:Wds Γ) (hE:AsO.A4b Γ) (S:List UInt8) (hl:S.length≤1048576):A5 Tryz.prog Γ 102 [.str S] fun v=>v=C4s (A03 S):=by
 refine A5.fgt fun s=>?_
 by_cases hbig:65536 < S.length
 ·rw [A03,if_pos hbig]
  refine acs Tryz.func102 ?_
  conv=>whnf
  intro b3 hb3
  refine wp ?_
  exact ⟨_,Sub.refl _,rfl,((Sub.refl _).set hb3 _ _).set hb3 _ _⟩
 ·rw [A03,if_neg hbig]
  refine acs Tryz.func102 ?_
  conv=>whnf
  intro b3 hb3
  refine wp ?_
  refine AWp.loopA [0,4,5,6] [15,16,7,18,19,20,21,22,23,17,24,25,26,27,28,29,30,31,32,2,34,35,33,36,37,38,8,9,10,39,40,41,42,43,44,45,46,47,48,49,50,51,52,53,54,56,57,58,59,60,61,55,62,63,64,65,66] (fun x:List Tok × Nat × List UInt8 × (Int × Int)=>[.str x.2.2.1,.slice x.2.1 (W7 x.1),.int .i64 x.2.2.2.1,.int .i64 x.2.2.2.2]) (fun x s'=>D93 s s' S 163 x.1 x.2.1 x.2.2.1 x.2.2.2∧s'.bx b3=some (46,[.int .i64 0,.int .i64 0,.int .i64 0])) (fun x=>x.2.2.1.length) (([],1,S,(1,1))) (by kernel_rfl) (eqa) ?_ ?_
  ·exact ⟨⟨⟨Nat.le_refl _,by simp⟩,⟨by simp,by simp⟩,Own.start ((Sub.refl _).set hb3 _ _) _ _,(D21 _).symm⟩,A1⟩
  ·rintro x ⟨o,t,q,p⟩ s1 ⟨⟨i1,i2,i3,i4⟩,i5⟩
   simp only at i1 i2 i3 i4 i5
   show awp _ _ _ _ _ (updL _ _ [.str q,.slice t (W7 o),.int .i64 p.1,.int .i64 p.2]) _
   conv=>whnf
   have hbl:=C1d (Γ:=Γ) q (by omega)
   have hbn:=C8h q
   have hA:List.drop 0 (List.take ((B3 q:Int)).toNat q)=q.take (B3 q):=by rw [Int.toNat_natCast,List.drop_zero]
   have hB:List.drop ((B3 q:Int)).toNat (List.take q.length q)=q.drop (B3 q):=by rw [Int.toNat_natCast,W0]
   have hmv:=C7k (Γ:=Γ) p.1 p.2 (q.take (B3 q)) (by rw [List.length_take];omega) (by omega) (by omega)
   have hpb:=C1b (q.take (B3 q)) p.1 p.2 (by omega) (by omega)
   have hdl:(q.drop (B3 q)).length=q.length - B3 q:=List.length_drop
   rw [List.length_take,Nat.min_eq_left hbn] at hpb
   repeat' ((first|exact pru|(refine brS (fun h=>?_) (fun h=>?_)<;>(try rw [h])<;>(try simp only [bS,↓reduceIte] at h))|(refine A0.pure' ?_ (hbl);rintro _ rfl)|refine A8.pure ?_ (hbl)|(rw [hA])|(rw [hB])|(refine A0.pure' ?_ (hmv);rintro _ rfl)|refine A8.pure ?_ (hmv)|refine gS ?_|refine aA ?_|refine nA ?_|fail)<;>(conv=>whnf))
   ·refine wp ?_
    refine ⟨_,Sub.refl _,?_,i3.sub.set hb3 _ _⟩
    rw [i4,A1c h]
    simp only [A3e,fg,fgL,D1l,C4s,B6e,List.append_nil]
   ·have hpos:0 < (q.drop (B3 q)).length:=List.length_pos_iff.2 h
    have hfi:=D1n hQ hT (q.drop (B3 q)) hpos (by omega)
    rcases hf:H0 (q.drop (B3 q)) with e|⟨kd,t',z⟩
    ·simp only [S6,hf,A16,B0x] at hfi
     refine wp ?_
     intro b8 hb8
     have n_b3_b8:b3≠b8:=A3 bxa hb8
     have n_b8_b3:=n_b3_b8.symm
     refine wp ?_
     intro b10 hb10
     have n_b8_b10:b8≠b10:=A3 bxa hb10
     have n_b10_b8:b10≠b8:=fun h=>n_b8_b10 h.symm
     have n_b3_b10:b3≠b10:=A3 bxa hb10
     have n_b10_b3:b10≠b3:=fun h=>n_b3_b10 h.symm
     refine wp ?_;(refine A0.by (AsO.A91 hE e A1) ?_;rintro _ _ ⟨rfl,rfl⟩);refine wp ?_
     have k8:=fun T1 c1 T2 c2=>(i3.sub.set (i3.sub.none hb8) T1 c1).set (i3.sub.none hb8) T2 c2
     have g10:=(k8 _ _ _ _).none hb10
     refine ⟨_,Sub.refl _,?_,((((k8 _ _ _ _).set g10 _ _).set g10 _ _).set hb3 _ _)⟩
     rw [i4,A31 h hf]
     simp only [A3e,fg,fgL,fgE,C4s,B6e]
    ·simp only [S6,hf,A16] at hfi
     have hfb:=A0y hf h
     refine wp ?_
     intro b8 hb8
     have n_b3_b8:b3≠b8:=A3 bxa hb8
     have n_b8_b3:=n_b3_b8.symm
     refine wp ?_
     intro b10 hb10
     have n_b8_b10:b8≠b10:=A3 bxa hb10
     have n_b10_b8:b10≠b8:=fun h=>n_b8_b10 h.symm
     have n_b3_b10:b3≠b10:=A3 bxa hb10
     have n_b10_b3:b10≠b3:=fun h=>n_b3_b10 h.symm
     refine wp ?_;(first|(refine A0.pure' ?_ (AsO.A3u _);rintro _ rfl)|refine A8.pure ?_ (AsO.A3u _));refine wp ?_
     have g8:=i3.sub.none hb8
     have k8:=fun T1 c1 T2 c2=>(i3.sub.set g8 T1 c1).set g8 T2 c2
     have g10:=(k8 _ _ _ _).none hb10
     have kk:=fun T1 c1 T2 c2 T3 c3 T4 c4 T5 c5=>((((i3.set (T:=T1) (cs:=c1) g8).set (T:=T2) (cs:=c2) g8).set (T:=T3) (cs:=c3) g10).set (T:=T4) (cs:=c4) g8).set (T:=T5) (cs:=c5) g8
     have hol:=A5t o
     refine ⟨(kk _ _ _ _ _ _ _ _ _ _).may,fun c hc=>?_,all_cons ⟨rfl,rfl⟩ all_nil,?_,?_⟩
     ·obtain ⟨w,_,rfl⟩:=List.mem_map.1 hc;rfl
     ·show ((W7 o).length+1) * (40+1)≤_
      rw [hol];omega
     intro t2 k1 k2
     have k3:=(kk _ _ _ _ _ _ _ _ _ _).grow k1 k2
     have hq2:=C3o hfb.2.2 (D5 (p.1,p.2) (q.take (B3 q)))
     have htl:((q.drop (B3 q)).take z).length=z:=by rw [List.length_take];omega
     rw [htl] at hq2
     have hmv2:=C7k (Γ:=Γ) (D5 (p.1,p.2) (q.take (B3 q))).1 (D5 (p.1,p.2) (q.take (B3 q))).2 ((q.drop (B3 q)).take z) (by omega) (by omega) (by omega)
     rw [hq2] at hmv2
     have hC:List.drop 0 (List.take ((z:Int)).toNat (q.drop (B3 q)))=(q.drop (B3 q)).take z:=by rw [Int.toNat_natCast,List.drop_zero]
     have hD:List.drop ((z:Int)).toNat (List.take (q.drop (B3 q)).length (q.drop (B3 q)))=(q.drop (B3 q)).drop z:=by rw [Int.toNat_natCast,W0]
     refine wp ?_;(rw [hC]);refine wp ?_;(rw [hD]);refine wp ?_
     have hrl:((q.drop (B3 q)).drop z).length=q.length - B3 q - z:=by rw [List.length_drop,List.length_drop]
     rw [List.length_drop] at hfb
     refine ⟨(o++[(kd,t',D5 (p.1,p.2) (q.take (B3 q)))],t2,(q.drop (B3 q)).drop z,((D5 (p.1,p.2) (q.take (B3 q))).1,(D5 (p.1,p.2) (q.take (B3 q))).2+z)),?_,B9,⟨⟨⟨by simp only;omega,by simp only [List.length_append,List.length_cons,List.length_nil];omega⟩,⟨by simp only;omega,by simp only;omega⟩,?_,?_⟩,bxa⟩,by simp only;omega⟩
     ·exact B5 rfl (B5 (congrArg (AV.slice t2) (D0f o (kd,t',D5 (p.1,p.2) (q.take (B3 q))))) (B5 rfl (B5 rfl rfl)))
     ·rw [show (o++[(kd,t',D5 (p.1,p.2) (q.take (B3 q)))]).isEmpty=(o.isEmpty && [P3 (kd,t',D5 (p.1,p.2) (q.take (B3 q)))].isEmpty) by cases o<;>rfl]
      exact k3
     ·rw [i4,A28 h hf,D22,B86 S.length (S.length+1) _ _ (by omega) (by omega)]
theorem C8y {l:List UInt8} {e:Int} (h:H0 l=.error e):e≠0:=by
 unfold H0 at h
 split at h
 ·split at h
  ·cases h;decide
  ·split at h
   ·cases h;decide
   ·cases h
 ·split at h
  ·split at h
   ·cases h;decide
   ·cases h
  ·split at h
   ·rename_i e' he
    cases h
    unfold D7 at he
    split at he
    ·split at he
     ·cases he
     ·rename_i hn
      cases he
      exact hn
    ·split at he
     ·cases he;decide
     ·split at he<;>cases he
   ·cases h
theorem Y8:(!Tryz.prog.eqGuardType Tryz.prog.depth 46)=true:=by kernel_rfl
theorem U4:A2m Tryz.prog 9999 46=some [(0,0),(1,0),(2,0)]:=by kernel_rfl
theorem B0p:∀ (k:Nat) (p:Int × Int) (l:List UInt8) (e a b:Int),A2i k p l=.error (e,a,b)→e≠0
 | 0,p,l,e,a,b=>fun h=>by cases h
 | k+1,p,l,e,a,b=>fun h=>by
  by_cases hl:l.drop (B3 l)=[]
  ·rw [A1c hl] at h;cases h
  ·rcases he:H0 (l.drop (B3 l)) with e'|⟨kd,t,z⟩
   ·rw [A31 hl he] at h
    simp only [Except.error.injEq,Prod.mk.injEq] at h
    rw [← h.1]
    exact C8y he
   ·rw [A28 hl he] at h
    rcases hr:A2i k ((D5 p (l.take (B3 l))).1,(D5 p (l.take (B3 l))).2+z) ((l.drop (B3 l)).drop z) with ⟨e',a',b'⟩|m
    ·rw [hr] at h
     simp only [B6e,Except.error.injEq,Prod.mk.injEq] at h
     rw [← h.1]
     exact B0p k _ _ _ _ _ hr
    ·rw [hr] at h;cases h
theorem B0q:∀ (k:Nat) (p:Int × Int) (l:List UInt8) (m:List Tok),A2i k p l=.ok m→m.length≤l.length
 | 0,p,l,m=>fun h=>by cases h;exact Nat.zero_le _
 | k+1,p,l,m=>fun h=>by
  by_cases hl:l.drop (B3 l)=[]
  ·rw [A1c hl] at h;cases h;exact Nat.zero_le _
  ·rcases he:H0 (l.drop (B3 l)) with e'|⟨kd,t,z⟩
   ·rw [A31 hl he] at h;cases h
   ·rw [A28 hl he] at h
    have hb:=A0y he hl
    rw [List.length_drop] at hb
    rcases hr:A2i k ((D5 p (l.take (B3 l))).1,(D5 p (l.take (B3 l))).2+z) ((l.drop (B3 l)).drop z) with ⟨e',a',b'⟩|m'
    ·rw [hr] at h;cases h
    ·rw [hr] at h
     have:=B0q k _ _ _ hr
     rw [List.length_drop,List.length_drop] at this
     cases h
     simp only [List.length_append,List.length_cons,List.length_nil]
     omega
end Go.Proofs.YticnkpgmmpenlaaGreatDoor.Lx
namespace Go.Ab
open Go
variable {P:Program} {Γ:Nat→AV} {n:Nat} {Q:Exit→Env→Sto→Prop} {e:Env} {s:Sto}
def D9s (T:TypeId) (d:Nat) (x:List UInt8 × Int) (o:Oper):Prop :=
 o.op=.insert T (.tmp d) (.const (.string ⟨x.1.toArray⟩)) (.const (.int .i64 x.2))∧o.dst=none∧o.guard=none
theorem B0f (l:List UInt8):∀ (ents:List MapEntry) (es:List (List UInt8 × Int)) (i:Nat),ents.map (fun e=>(e.key,e.val))=es.map (fun x=>(Value.string ⟨x.1.toArray⟩,Value.int .i64 x.2))→(∀ x ∈ es,x.1≠l) →
  Instr.findNow .string (.string ⟨l.toArray⟩) ents i=some none
 | [],_,_,_,_=>rfl
 | e::ents,es,i,h,hn=>by
  cases es with
  | nil=>simp at h
  | cons x es =>
   simp only [List.map_cons,List.cons.injEq,Prod.mk.injEq] at h
   obtain ⟨⟨h1,h2⟩,h3⟩:=h
   unfold Instr.findNow
   rw [h1]
   have hb:Instr.sameNow .string (.string ⟨l.toArray⟩) (.string ⟨x.1.toArray⟩)=some false:=by
    refine congrArg some ?_
    rw [Bool.eq_false_iff]
    intro hh
    have hh:l.toArray=x.1.toArray:=eq_of_beq (show (l.toArray == x.1.toArray)=true from hh)
    exact hn x (by simp) (by simpa using (congrArg Array.toList hh).symm)
   rw [hb]
   exact B0f l ents es (i+1) h3 (fun y hy=>hn y (by simp [hy]))
theorem D6j {T kt et:TypeId} {w:World} {r c:Nat} {ents:Array MapEntry} {es:List (List UInt8 × Int)} (x:List UInt8 × Int) (hT:P.underlying T=some (.map kt et)) (hk:P.underlying kt=some .string)
  (hb:w.heap[r]?=some (.map ents c)) (he:ents.toList.map (fun e=>(e.key,e.val))=es.map (fun x=>(Value.string ⟨x.1.toArray⟩,Value.int .i64 x.2))) (hn:∀ y ∈ es,y.1≠x.1) :
  (Instr.mapUpdate T (.map (some r)) (.string ⟨x.1.toArray⟩) (.int .i64 x.2)).run P w=.ok () ({ w with heap:=w.heap.setIfInBounds r (.map (ents.push { key:=.string ⟨x.1.toArray⟩,val:=.int .i64 x.2,born:=c }) (c+1)) }):=by
 have hobj:(getObj r:Sem Obj).run P w=.ok (.map ents c) w:=by simp [getObj,Sem.run,hb]
 have hck:(Instr.checkKey false 10000 kt (.string ⟨x.1.toArray⟩)).run P w=.ok () w:=by
  unfold Instr.checkKey
  simp [B7 hk]
 have hfk:(Instr.findKey kt (.string ⟨x.1.toArray⟩) ents.toList).run P w=.ok none w:=by
  unfold Instr.findKey
  simp only [Sem.run_bind,B7 hk,Result.andThen_ok,B0f x.1 ents.toList es 0 he hn,Sem.run_pure]
 have hset:(setObj r (.map (ents.push { key:=.string ⟨x.1.toArray⟩,val:=.int .i64 x.2,born:=c }) (c+1)):Sem Unit).run P w=.ok () ({ w with heap:=w.heap.setIfInBounds r (.map (ents.push { key:=.string ⟨x.1.toArray⟩,val:=.int .i64 x.2,born:=c }) (c+1)) }):=by
  simp [setObj,Sem.run,hb]
 unfold Instr.mapUpdate
 simp only [Sem.run_bind,B7 hT,Result.andThen_ok,hobj,hck,hfk,hset]
theorem C92 (w:World) (o o':Obj):{ (w.alloc o) with heap:=(w.alloc o).heap.setIfInBounds w.heap.size o' } = w.alloc o':=by
 have h:(w.alloc o).heap.setIfInBounds w.heap.size o'=(w.alloc o').heap:=by
  refine Array.ext (by simp) fun i h1 h2=>?_
  have e1:=S7 w o'
  rw [Array.getElem_setIfInBounds (by simpa using h1)]
  split
  ·rename_i hi
   subst hi
   exact ((Array.getElem?_eq_some_iff.1 e1).2).symm
  ·rename_i hi
   have hlt:i < w.heap.size:=by simp at h2;omega
   have a1:=J3 w o hlt
   have a2:=J3 w o' hlt
   have a3:(w.alloc o).heap[i]?=(w.alloc o').heap[i]?:=a1.trans a2.symm
   rw [Array.getElem?_eq_getElem (by simpa using h1),Array.getElem?_eq_getElem h2] at a3
   exact Option.some.inj a3
 rw [h]
 rfl
def C52 (T:TypeId) (d:Nat):List (List UInt8 × Int)→List Oper→Prop
 | [],[]=>True
 | x::es,o::ins=>D9s T d x o∧C52 T d es ins
 | _,_=>False
theorem D11 {ops:Array Oper} {B:Exit→Act→World→Prop} {T kt et:TypeId} {d:Nat} {rest:List Oper} {w:World} {a:Act} (hT:P.underlying T=some (.map kt et)) (hk:P.underlying kt=some .string)
  (ha:a.eval (.tmp d)=.map (some w.heap.size)):∀ (ins:List Oper) (es1 es2:List (List UInt8 × Int)) (i:Nat) (ents:Array MapEntry) (c:Nat),ops.toList.drop i=ins++rest→C52 T d es2 ins →
  ents.toList.map (fun e=>(e.key,e.val))=es1.map (fun x=>(Value.string ⟨x.1.toArray⟩,Value.int .i64 x.2))→((es1++es2).map (·.1)).Nodup →
  (∀ ents' c',ents'.toList.map (fun e=>(e.key,e.val))=(es1++es2).map (fun x=>(Value.string ⟨x.1.toArray⟩,Value.int .i64 x.2))→wpOps P ops B (List.range' (i+ins.length) rest.length) a (w.alloc (.map ents' c'))) →
  wpOps P ops B (List.range' i (ins.length+rest.length)) a (w.alloc (.map ents c))
 | [],es1,es2,i,ents,c,hd,hf,he,hn,h=>by
  cases es2 with
  | cons x es2=>exact hf.elim
  | nil =>
   rw [List.append_nil] at h
   have:=h ents c he
   simpa using this
 | o::ins,es1,es2,i,ents,c,hd,hf,he,hn,h=>by
  cases es2 with
  | nil=>exact hf.elim
  | cons x es2 =>
   obtain ⟨⟨p1,p2,p3⟩,hf⟩:=hf
   have hlt:i < ops.toList.length:=by
    rcases Nat.lt_or_ge i ops.toList.length with hh|hh
    ·exact hh
    ·rw [List.drop_of_length_le hh] at hd;cases hd
   have hd':=hd
   rw [List.drop_eq_getElem_cons hlt] at hd'
   injection hd' with ho hd2
   have hoi:ops[i]?=some o:=by rw [← Array.getElem?_toList,List.getElem?_eq_getElem hlt,ho]
   rw [show (o::ins).length+rest.length=(ins.length+rest.length)+1 by simp only [List.length_cons];omega,List.range'_succ]
   have hw:∀ t,Region.wanted o t=true:=fun t=>by unfold Region.wanted;rw [p3]
   simp only [wpOps,hoi,hw,if_true]
   refine .inl ?_
   have hat:=S7 w (.map ents c)
   have hne:∀ y ∈ es1,y.1≠x.1:=by
    intro y hy hh
    rw [List.map_append,List.nodup_append] at hn
    exact hn.2.2 y.1 (List.mem_map.2 ⟨y,hy,rfl⟩) x.1 (by simp) hh
   have hrun:=D6j (P:=P) (w:=w.alloc (.map ents c)) x hT hk hat he hne
   rw [C92] at hrun
   have hx:(execOp a.eval o).run P (w.alloc (.map ents c))=.ok .skip (w.alloc (.map (ents.push { key:=.string ⟨x.1.toArray⟩,val:=.int .i64 x.2,born:=c }) (c+1))):=by
    obtain ⟨dst,op,ty,pos,aft,grd⟩:=o
    simp only at p1 p2 p3
    subst p1
    have ha':a.tmps[d]?.getD undef=.map (some w.heap.size):=by simpa [Act.eval] using ha
    simp [execOp,Act.eval,ha',hrun]
   unfold Oper.wp
   rw [hx,Oper.upon_skip,p2]
   show wpOps P ops B (List.range' (i+1) (ins.length+rest.length)) a _
   refine D11 hT hk ha ins (es1++[x]) es2 (i+1) _ _ hd2 hf (by simp [he]) (by simpa using hn) fun ents' c' he'=>?_
   have:=h ents' c' (by simpa using he')
   rwa [show i+(o::ins).length=i+1+ins.length by simp only [List.length_cons];omega] at this
theorem B3e {o:Oper} (h:o.guard=none):∀ t,Region.wanted o t=true:=fun t=>by unfold Region.wanted;rw [h]
theorem AWp.mapLit {id:Nat} {ops:Array Oper} {o0 mk:Oper} {ins rest:List Oper} (es:List (List UInt8 × Int)) {T kt et:TypeId} {d i0:Nat} {x0:Operand} (hops:ops.toList=o0::mk::(ins++rest)) (hok:ops.toList.all (A1r n)=true)
  (h0:o0.op=.move x0) (hd0:o0.dst=some i0) (hg0:o0.guard=none) (hmk:mk.op=.makeMap T none) (hmd:mk.dst=some d) (hmg:mk.guard=none) (hins:C52 T d es ins)
  (hT:P.underlying T=some (.map kt et)) (hk:P.underlying kt=some .string) (hnd:(es.map (·.1)).Nodup)
  (h:A3v P Γ ops rest (upd (upd e i0 (evA Γ e x0)) d (.cmap es)) s fun e' s'=>Q .normal e' s'):AWp P Γ n (.region id ops false) Q e s:=by
 refine ⟨fun G w a hm he=>wp_region ?_⟩
 have hok0:A1r n o0=true:=List.all_eq_true.1 hok o0 (by rw [hops];simp)
 have hok1:A1r n mk=true:=List.all_eq_true.1 hok mk (by rw [hops];simp)
 have hi0:i0 < n:=A0e hok0 i0 hd0
 have hdn:d < n:=A0e hok1 d hmd
 have hsz:ops.size=(ins.length+rest.length)+2:=by
  have:=congrArg List.length hops
  simpa using this
 rw [List.range_eq_range',hsz,List.range'_succ,List.range'_succ]
 have e0:ops[0]?=some o0:=by rw [← Array.getElem?_toList,hops];rfl
 have e1:ops[1]?=some mk:=by rw [← Array.getElem?_toList,hops];rfl
 simp only [wpOps,e0,B3e hg0,if_true]
 refine .inl ?_
 have hx0:okX x0=true:=by
  have:=A5l hok0 x0
  rw [h0] at this
  exact this (by simp [Op.operands])
 have hr0:=B44 hm he hx0
 have he0:=he.put (d:=some i0) (fun j hj=>by cases hj;exact hi0) hr0
 have hrun0:(execOp a.eval o0).run P w=.ok (.value (a.eval x0)) w:=by
  obtain ⟨dst,op,ty,pos,aft,grd⟩:=o0
  simp only at h0
  subst h0
  rfl
 unfold Oper.wp
 rw [hrun0,Oper.upon_value,hd0]
 simp only [wpOps,show (0+1:Nat)=1 from rfl,e1,B3e hmg,if_true]
 refine .inl ?_
 have hrun1:(execOp (a.put (some i0) (a.eval x0)).eval mk).run P w=.ok (.value (.map (some w.heap.size))) (w.alloc (.map #[] 0)):=by
  obtain ⟨dst,op,ty,pos,aft,grd⟩:=mk
  simp only at hmk
  subst hmk
  rfl
 rw [hrun1,Oper.upon_value,hmd]
 have hev:((a.put (some i0) (a.eval x0)).put (some d) (.map (some w.heap.size))).eval (.tmp d)=.map (some w.heap.size):=by
  have hs:(a.put (some i0) (a.eval x0)).tmps.size=n:=he0.size
  simp only [Act.put,Act.eval] at hs ⊢
  have h1:d < ((a.tmps.setIfInBounds i0 (a.eval x0)).setIfInBounds d (Value.map (some w.heap.size))).size:=by simpa using (by simpa using hs:a.tmps.size=n) ▸ hdn
  have h2:d < a.tmps.size:=by simpa using h1
  simp [Array.getD_eq_getD_getElem?,Array.getElem?_eq_getElem h1]
  intro hh
  omega
 refine D11 hT hk hev ins [] es 2 #[] 0 (by rw [hops];rfl) hins rfl (by simpa using hnd) fun ents c hents=>?_
 rw [List.nil_append] at hents
 obtain ⟨hm2,X2⟩:=hm.row_new (.map ents c)
 have hR:R (G.setKd w.heap.size .fixd) (w.alloc (.map ents c)) (.cmap es) (.map (some w.heap.size)):=B94.2 ⟨_,ents,c,rfl,by simp [Gh.setKd],S7 w _,hents⟩
 have he2:=(he0.mono X2).put (d:=some d) (fun j hj=>by cases hj;exact hdn) hR
 exact B5w (P:=P) (Γ:=Γ) (Q:=Q) (n:=n) hok rest (2+ins.length) (by rw [hops,show 2+ins.length=ins.length+2 by omega];show (ins++rest).drop ins.length=rest;rw [List.drop_left]) X2 hm2 he2 h
end Go.Ab
namespace Go.Proofs.YticnkpgmmpenlaaGreatDoor.Er
open Go Go.RowKit Go.Extern.Stop Go.Stop Go.Extern
theorem B5i (v:Value) (w:World):(Extern.ReflectliteType.typeOf #[.iface 368 v]).run Tryz.prog w=.ok (.iface 271 (.agg #[.pointer (some ⟨13,368,none⟩)])) w:=by kernel_rfl
theorem A6a (w : World) : ((Extern.ReflectliteType.method fun t => do Extern.Rtype.noPackHeld "Comparable" t; (fun a => Value.bool a.comparable) <$> typeInfo t) #[.agg #[.pointer (some ⟨13, 368, none⟩)]]).run Tryz.prog w = .ok (.bool true) w := by kernel_rfl
theorem A0o (v : Value) (w : World) : (Go.method 497 271 v "Comparable").run Tryz.prog w = .ok (351, v) w := by kernel_rfl
theorem C5m:(Tryz.prog.info? 368).map (·.comparable)=some true:=by kernel_rfl
theorem D7v:(Tryz.prog.info? 370).map (·.size)=some 1:=by kernel_rfl
theorem D2n (v:Value) (xT:TypeId) (w:World):(Instr.typeAssert (.iface 357 v) xT 309 true).run Tryz.prog w=.ok (.tuple #[.nilIface,.bool false]) w:=run_typeAssert_lacksB Tryz.underlying309 (by kernel_rfl) (by kernel_rfl) v xT w
theorem A9j (v:Value) (xT:TypeId) (w:World):(Instr.typeAssert (.iface 357 v) xT 279 true).run Tryz.prog w=.ok (.tuple #[.iface 357 v,.bool true]) w:=run_typeAssert_hasB Tryz.underlying279 (by kernel_rfl) v xT w
theorem A6e (v : Value) (w : World) : (Go.method 497 357 v "Unwrap").run Tryz.prog w = .ok (362, v) w := by kernel_rfl
theorem D7w (b:Addr) (w:World) :
  Calls Tryz.prog 161 #[.nilIface,.iface 368 (.pointer (some b))] w fun e w'=>e=.returned (.bool false)∧w'=w:=by
 have hn:=run_eql_iface_nil_left (P:=Tryz.prog) w 368 (.pointer (some b)) Tryz.underlying98
 go_enter Tryz.func161,Tryz.ntmps161
 go_wp2
 go_ret
 exact ⟨rfl,rfl⟩
theorem D7x (pb:Nat) (b:Addr) (c0 c1:Value) (T:TypeId) (w:World) (h1:w.heap[pb]?=some (.cells #[c0,c1,.iface 368 (.pointer (some b))] T (0,0))) :
  Calls Tryz.prog 161 #[.iface 357 (.pointer (some ⟨pb,0,none⟩)),.iface 368 (.pointer (some b))] w fun e w'=>e=.returned (.bool true)∧w'=w:=by
 have hc2:w.cell? ⟨pb,0+2,none⟩=some (.iface 368 (.pointer (some b))):=by
  simp [World.cell?,h1]
 obtain ⟨i,hi,hcmp⟩:=Option.map_eq_some_iff.1 C5m
 obtain ⟨j,hj,hjs⟩:=Option.map_eq_some_iff.1 D7v
 have h8:=@run_callFunc_extern Tryz.prog 223 _ Extern.ReflectliteType.typeOf Tryz.func223 (by kernel_rfl) (by kernel_rfl) (by kernel_rfl) (by kernel_rfl)
 have h32 := @run_callFunc_extern Tryz.prog 351 _ (Extern.ReflectliteType.method fun t => do Extern.Rtype.noPackHeld "Comparable" t; pure (.bool (← typeInfo t).comparable)) Tryz.func351 (by kernel_rfl) (by kernel_rfl) (by kernel_rfl) (by kernel_rfl)
 have tT:=B5i
 have cT:=A6a
 have mR:=A0o
 have nW:=D2n
 have uW:=A9j
 have mU:=A6e
 have heq:=run_eql_iface_ptr_same (P:=Tryz.prog) w b Tryz.underlying98 Tryz.underlying368 hi hcmp hj
 have hty:=run_eql_iface_types (P:=Tryz.prog) 357 368 (.pointer (some ⟨pb,0,none⟩)) (.pointer (some b)) Tryz.underlying98 (by decide) w
 go_enter Tryz.func161,Tryz.ntmps161
 go_wp2
 refine wp_loop_rounds 2 ?_
 rw [rounds_succ]
 go_wp2
 rw [rounds_succ]
 go_wp2
 go_ret
 exact ⟨rfl,rfl⟩
end Go.Proofs.YticnkpgmmpenlaaGreatDoor.Er
