/- From what a call does, said of abstract values, to the rows: the start; what is read; what is left. -/
import Derived.ProofKit
import Derived.OpenShut
import Derived.ShutString
import Derived.MakeChecks
import Derived.FnData
import Derived.Test.YtaammejliikieaaGreatDoorAb19
set_option maxRecDepth 10000
set_option maxHeartbeats 60000000
set_option linter.all false
namespace Go.Ab
open Go Go.ChangeShapes Go.WideShapes Go.RowKit
def J0 (W:World):Gh:={ kd:=fun b=>if b < W.heap.size then .fixd else .free,tk:=fun _=>.nilFunc }
def s0:Sto:=⟨fun _=>none,fun _ _ _=>False,fun _=>none,⟨0,fun _ _=>rfl⟩⟩
theorem Mod.start {Γ:Nat→AV} {W:World} (hg:∀ g,A0z (J0 W) W g (Γ g)):Mod Γ (J0 W) s0 W where
 glob:=hg
 box b T cs h:=by cases h
 dom b h:=by
  unfold J0 at h
  dsimp only at h
  by_cases hb:b < W.heap.size
  ·exact hb
  ·rw [if_neg hb] at h;exact absurd rfl h
 live t e k h:=h.elim
 apart t u b e k e' k' h:=h.elim
 fin:=⟨0,fun _ _=>rfl⟩
 mp b es h:=by cases h
structure A9s (W w':World):Prop where
 os:w'.os=W.os
 output:w'.output=W.output
 size:W.heap.size≤w'.heap.size
 at_:∀ b,b < W.heap.size→w'.heap[b]?=W.heap[b]?
theorem A9s.of_ext {W w':World} {G':Gh} (X:Ext (J0 W) W G' w'):A9s W w' :=
 ⟨X.os,X.output,X.size,fun b hb=>(X.fixd b (by simp [J0,hb])).2⟩
theorem A9s.but {W w':World} (h:A9s W w') (may:MemPlace→Prop):W.keptBut w' may:=by
 refine ⟨h.os,h.output,fun i hi=>?_⟩
 rw [h.at_ i hi]
 exact (World.keptBut_refl W may).2.2 i hi
theorem B4i {P:Program} {Γ:Nat→AV} {f:FuncId} {avs:List AV} {args:Array Value} {W:World} (hc:A2 P Γ f avs s0 fun v _=>v=.bool true)
  (hg:∀ g,A0z (J0 W) W g (Γ g)) (hR:B7 (J0 W) W avs args.toList) :
  Calls P f args W fun e w'=>e=.returned (.bool true)∧A9s W w':=by
 have h:=hc.run (J0 W) W args.toList (Mod.start hg) hR
 have e:args.toList.toArray=args:=by simp
 rw [e] at h
 refine h.mono ?_
 rintro e w' ⟨v,av,s',G',rfl,rfl,hr,_,X⟩
 rw [F7] at hr
 exact ⟨by rw [hr],A9s.of_ext X⟩
theorem C2p {H:Type} {enc:TypeId × Value→H} {P:Program} {f:Func} {s:ChangeSpec} {W W':World} {args:Array Value} {ds gs:List (DataW H)} {before:List MemPlace} {tb:TypeId}
  (hvars:s.vars=[]) (hfn:s.fn H (ds++gs) = { results:=[.lit (.bool true)],args:=ds })
  (hW:DataW.Whole enc P f.params.toList s.vars false W args.toList ds gs before) (hres:f.resultTypes = #[tb]) (htb:P.underlying tb=some .bool)
  (hargs:∀ p,DataW.TrodAll enc P W 0 (fun _=>true) true f.params.toList args.toList ds p→DataW.TrodAll enc P W' 0 (fun b=>decide (b < W.heap.size)) true f.params.toList args.toList ds p)
  (K:A9s W W'):s.post enc P f false true false false W args (.bool true) W':=by
 have hW':=hW
 obtain ⟨p,q,hA,hV,rfl,_,_⟩:=hW
 rw [hvars] at hV
 obtain ⟨rfl,rfl⟩:=trodVars_none hV
 refine ⟨ds,[],p++[],[],p,[],hW',?_,?_,?_,World.keptBut_mono (fun p hp=>⟨hp,.inr (.inl (by simpa using hp))⟩) (K.but (· ∈ p++[])),fun h=>by cases h⟩
 ·rw [hfn,hres]
  exact trodAll_mk1 (shut_bool htb true)
 ·rw [hfn];exact hargs p hA
 ·rw [hfn,hvars];exact rfl
def B5z (P:Program) (bulk:∀ H:Type,DataW H→Nat) (t:TypeId) {α:Type} (av:α→List AV) (ok:α→Nat→Prop):Prop :=
 ∀ (H:Type) (enc:TypeId × Value→H) (W:World) (fuel:Nat) (cs:List Value) (d:DataW H) (ps:List MemPlace),
  DataW.trod enc P W 0 (fun _=>true) true fuel t cs=some (d,ps) →
  ∃ x,ok x (bulk H d)∧B7 (J0 W) W (av x) cs ∧
   ∀ W',A9s W W'→DataW.trod enc P W' 0 (fun b=>decide (b < W.heap.size)) true fuel t cs=some (d,ps)
section
variable {P:Program} {bulk:∀ H:Type,DataW H→Nat} {t:TypeId}
theorem M7 {k:IntKind} (ht:P.underlying t=some (.int k)):B5z P bulk t (fun n:Int=>[.int k n]) (fun n _=>(Lit.int k n).wf=true):=by
 intro H enc W fuel cs d ps h
 obtain ⟨n,rfl,hx,hw⟩:=DataW.trod_int ht h
 simp only [Prod.mk.injEq] at hx
 obtain ⟨rfl,rfl⟩:=hx
 refine ⟨n,hw,A9.2 ⟨_,_,rfl,F5.2 rfl,B4.2 rfl⟩,fun W' _=>?_⟩
 cases fuel with
 | zero=>exact h
 | succ m =>
  unfold DataW.trod at h ⊢
  rw [ht] at h ⊢
  exact h
theorem B5z.arg {α:Type} {av:α→List AV} {ok:α→Nat→Prop} (ho:B5z P bulk t av ok) {H:Type} {enc:TypeId × Value→H} {W:World} {v:Value} {d:DataW H} {ps:List MemPlace}
  (h:DataW.Trod enc P W 0 (fun _=>true) true t v d ps):∃ x,ok x (bulk H d)∧B7 (J0 W) W (av x) v.cells.toList ∧
   ∀ W',A9s W W'→DataW.Trod enc P W' 0 (fun b=>decide (b < W.heap.size)) true t v d ps:=by
 obtain ⟨fuel,h⟩:=h
 obtain ⟨x,h1,h2,h3⟩:=ho H enc W fuel _ d ps h
 exact ⟨x,h1,h2,fun W' K=>⟨fuel,h3 W' K⟩⟩
end
def C8r (P:Program) (t:TypeId):Prop :=
 ∀ (H:Type) (enc:TypeId × Value→H) (W W':World) (v:Value) (d:DataW H) (ps:List MemPlace),A9s W W'→DataW.Trod enc P W 0 (fun _=>true) true t v d ps →
  DataW.Trod enc P W' 0 (fun b=>decide (b < W.heap.size)) true t v d ps
theorem B5z.keeps {P:Program} {bulk:∀ H:Type,DataW H→Nat} {t:TypeId} {α:Type} {av:α→List AV} {ok:α→Nat→Prop} (ho:B5z P bulk t av ok):C8r P t :=
 fun _ _ _ W' _ _ _ K h=>by
  obtain ⟨_,_,_,h3⟩:=ho.arg h
  exact h3 W' K
theorem A7l {P:Program} {H:Type} {enc:TypeId × Value→H} {W W':World} (K:A9s W W'):∀ {ts:List TypeId} {vs:List Value} {ds:List (DataW H)} {ps:List MemPlace},(∀ t ∈ ts,C8r P t) →
  DataW.TrodAll enc P W 0 (fun _=>true) true ts vs ds ps→DataW.TrodAll enc P W' 0 (fun b=>decide (b < W.heap.size)) true ts vs ds ps
 | [],[],[],_,_,h=>h
 | t::ts,v::vs,d::ds,ps,hk,⟨p,q,h,hs,e⟩=>⟨p,q,hk t (List.mem_cons_self ..) H enc W W' v d p K h,A7l K (fun t ht=>hk t (List.mem_cons_of_mem _ ht)) hs,e⟩
 | [],_::_,_,_,_,h=>h.elim
 | [],[],_::_,_,_,h=>h.elim
 | _::_,[],_,_,_,h=>h.elim
 | _::_,_::_,[],_,_,h=>h.elim
section
variable {P:Program} {G:Gh} {W:World} {r:Reach} {b0:Nat} {t:TypeId} {v:Value} {x:AV}
theorem A4e {k:IntKind} (ht:P.underlying t=some (.int k)) (hv:Value.okWide P W r b0 t v) (h:B7 G W [x] v.cells.toList):R G W x v:=by
 obtain ⟨s,rfl⟩:=okWide_int ht hv
 obtain ⟨u,us,hu,hr,_⟩:=A9.1 h
 simp only [Value.cells,List.cons.injEq] at hu
 rw [hu.1];exact hr
theorem C3x:B7 G W [] []:=B4.2 rfl
theorem A0r {xs:List AV} {vs:List Value} (h:R G W x v) (k:B7 G W xs vs):B7 G W (x::xs) (v::vs):=A9.2 ⟨v,vs,rfl,h,k⟩
end
def C1o {H:Type} (f:TypeId→DataW H→Option (List AV)):List TypeId→List (DataW H)→Option (List AV)
 | [],[]=>some []
 | t::ts,d::ds=>match f t d,C1o f ts ds with
  | some a,some l=>some (a++l)
  | _,_=>none
 | _,_=>none
def A7u (P:Program):Nat→List (TypeId × Nat)→Option Nat
 | o,[]=>some o
 | o,(t,o')::l=>if o'=o then A7u P (o+P.cellsOf t) l else none
def dav {H:Type} (P:Program):Nat→TypeId→DataW H→Option (List AV)
 | 0,_,_=>none
 | n+1,t,d =>
  match P.underlying t,d with
  | some .bool,.lit (.bool b)=>some [.bool b]
  | some (.int k),.lit (.int _ m)=>some [.int k m]
  | some .string,.lit (.string l)=>some [.str l]
  | some (.struct fs),.agg ds=>if A7u P 0 (fs.toList.map fun f=>(f.type,f.offset))=some (P.cellsOf t) then C1o (dav P n) (fs.toList.map (·.type)) ds else none
  | some (.array m e),.agg ds=>if A7u P 0 ((List.range m).map fun i=>(e,i * P.cellsOf e))=some (P.cellsOf t) then C1o (dav P n) ((List.range m).map fun _=>e) ds else none
  | _,_=>none
theorem B5i {H:Type} {G:Gh} {w:World} {P:Program} {f:TypeId→DataW H→Option (List AV)} {r:TypeId→List Value→Option (DataW H × List MemPlace)} {cs:List Value}
  (ih:∀ t us d ps avs,r t us=some (d,ps)→f t d=some avs→B7 G w avs us) :
  ∀ (l:List (TypeId × Nat)) (o k:Nat) (xs:List (DataW H × List MemPlace)) (avs:List AV),(l.mapM fun p=>r p.1 ((cs.drop p.2).take (P.cellsOf p.1)))=some xs →
   A7u P o l=some k→C1o f (l.map (·.1)) (xs.map (·.1))=some avs→k≤cs.length→B7 G w avs ((cs.drop o).take (k - o))∧o≤k
 | [],o,k,xs,avs,hm,hk,hd,hle=>by
  simp only [List.mapM_nil,Option.pure_def,Option.some.injEq] at hm
  subst hm
  simp only [A7u,Option.some.injEq] at hk
  subst hk
  simp only [List.map_nil,C1o,Option.some.injEq] at hd
  subst hd
  simp [B4]
 | (t,o')::l,o,k,xs,avs,hm,hk,hd,hle=>by
  simp only [A7u] at hk
  split at hk
  ·rename_i ho
   subst ho
   rw [List.mapM_cons] at hm
   obtain ⟨x,hx,hm⟩:=Option.bind_eq_some_iff.1 hm
   obtain ⟨ys,hy,hm⟩:=Option.bind_eq_some_iff.1 hm
   simp only [Option.pure_def,Option.some.injEq] at hm
   subst hm
   simp only [List.map_cons,C1o] at hd
   split at hd
   ·rename_i a l' ha hl
    simp only [Option.some.injEq] at hd
    subst hd
    obtain ⟨h1,h2⟩:=B5i ih l (o'+P.cellsOf t) k ys l' hy hk hl hle
    have h3:=ih t _ x.1 x.2 a hx ha
    refine ⟨?_,by omega⟩
    have e:(cs.drop o').take (k - o')=(cs.drop o').take (P.cellsOf t)++(cs.drop (o'+P.cellsOf t)).take (k - (o'+P.cellsOf t)):=by
     rw [show k - o'=P.cellsOf t+(k - (o'+P.cellsOf t)) by omega,List.take_add,List.drop_drop]
    rw [e]
    exact E4 h3 h1
   ·cases hd
  ·cases hk
theorem B8t {H:Type} {enc:TypeId × Value→H} {P:Program} {W:World} {G:Gh} {base:Nat} {sp:Nat→Bool} {hd:Bool} :
  ∀ (n:Nat) (t:TypeId) (cs:List Value) (fuel:Nat) (d:DataW H) (ps:List MemPlace) (avs:List AV),DataW.trod enc P W base sp hd fuel t cs=some (d,ps)→dav P n t d=some avs→B7 G W avs cs
 | 0,_,_,_,_,_,_,_,h=>by simp [dav] at h
 | n+1,t,cs,0,d,ps,avs,h,_=>by simp [DataW.trod] at h
 | n+1,t,cs,fuel+1,d,ps,avs,h,hv=>by
  have h0:=h
  unfold dav at hv
  split at hv
  ·rename_i b ht
   obtain ⟨b',rfl,hx⟩:=DataW.trod_bool ht h
   simp only [Prod.mk.injEq,DataW.lit.injEq,Lit.bool.injEq] at hx
   obtain ⟨rfl,_⟩:=hx
   cases hv
   exact A9.2 ⟨_,_,rfl,F7.2 rfl,B4.2 rfl⟩
  ·rename_i k k' m ht
   obtain ⟨m',rfl,hx,_⟩:=DataW.trod_int ht h
   simp only [Prod.mk.injEq,DataW.lit.injEq,Lit.int.injEq] at hx
   obtain ⟨⟨_,rfl⟩,_⟩:=hx
   cases hv
   exact A9.2 ⟨_,_,rfl,F5.2 rfl,B4.2 rfl⟩
  ·rename_i l ht
   cases hv
   unfold DataW.trod at h
   rw [ht] at h
   match cs,h with
   | [.string s],h =>
    simp only at h
    split at h
    ·simp only [Option.some.injEq,Prod.mk.injEq,DataW.lit.injEq,Lit.string.injEq] at h
     obtain ⟨rfl,_⟩:=h
     exact A9.2 ⟨_,_,rfl,M3.2 (by simp),B4.2 rfl⟩
    ·cases h
  ·rename_i fs ds ht
   split at hv
   ·rename_i hc
    unfold DataW.trod at h
    rw [ht] at h
    simp only at h
    split at h
    ·rename_i hl
     obtain ⟨xs,hxs,hx⟩:=Option.map_eq_some_iff.1 h
     simp only [Prod.mk.injEq,DataW.agg.injEq] at hx
     obtain ⟨rfl,_⟩:=hx
     have hm:((fs.toList.map fun f=>(f.type,f.offset)).mapM fun p=>DataW.trod enc P W base sp hd fuel p.1 ((cs.drop p.2).take (P.cellsOf p.1)))=some xs:=by
      rw [List.mapM_map];exact hxs
     have:=(B5i (P:=P) (f:=dav P n) (r:=DataW.trod enc P W base sp hd fuel) (cs:=cs) (G:=G) (w:=W) (fun t us d ps avs h1 h2=>B8t n t us fuel d ps avs h1 h2) _ 0 _ xs avs hm hc (by simpa [List.map_map,Function.comp_def] using hv) (by omega)).1
     simpa [← hl] using this
    ·cases h
   ·cases hv
  ·rename_i m e ds ht
   split at hv
   ·rename_i hc
    unfold DataW.trod at h
    rw [ht] at h
    simp only at h
    split at h
    ·rename_i hl
     obtain ⟨xs,hxs,hx⟩:=Option.map_eq_some_iff.1 h
     simp only [Prod.mk.injEq,DataW.agg.injEq] at hx
     obtain ⟨rfl,_⟩:=hx
     have hm:(((List.range m).map fun i=>(e,i * P.cellsOf e)).mapM fun p=>DataW.trod enc P W base sp hd fuel p.1 ((cs.drop p.2).take (P.cellsOf p.1)))=some xs:=by
      rw [List.mapM_map];exact hxs
     have:=(B5i (P:=P) (f:=dav P n) (r:=DataW.trod enc P W base sp hd fuel) (cs:=cs) (G:=G) (w:=W) (fun t us d ps avs h1 h2=>B8t n t us fuel d ps avs h1 h2) _ 0 _ xs avs hm hc (by simpa [List.map_map,Function.comp_def] using hv) (by omega)).1
     simpa [← hl] using this
    ·cases h
   ·cases hv
  ·cases hv
theorem A4o {P:Program} {W:World} {name:String} {d:DataW Unit} {rest:List (String × DataW Unit)} {g:Nat} {t:TypeId} (n:Nat) {avs:List AV} {ps:List MemPlace}
  (h:DataW.LaidVars P W ((name,d)::rest) ps) (hg:P.globalNamed name=some g) (ht:(P.globals[g]?).map (·.type)=some t) (hd:dav P n t d=some avs) :
  A0z (J0 W) W g (.cptr avs)∧∃ qs,DataW.LaidVars P W rest qs:=by
 obtain ⟨g',t',cs,fuel,p,q,hg',ht',hv,htr,hr,_⟩:=h
 obtain rfl:=Option.some.inj (hg.symm.trans hg')
 obtain rfl:=Option.some.inj (ht.symm.trans ht')
 refine ⟨?_,q,hr⟩
 have hR:=B8t (G:=J0 W) n t cs.toList fuel d p avs htr hd
 have hcell:=fun i=>World.var?_cell hg hv i
 have key:∀ (avs:List AV) (o:Nat),B7 (J0 W) W avs (cs.toList.drop o)→C6 (J0 W) W g o avs:=by
  intro avs
  induction avs with
  | nil=>intro o _;unfold C6;trivial
  | cons a avs ih =>
   intro o h
   obtain ⟨u,us,hu,hr,hrs⟩:=A9.1 h
   have ho:cs[o]?=some u:=by
    have:=congrArg (·[0]?) hu
    simpa [List.getElem?_drop] using this
   have hc:W.cell? ⟨g,o,none⟩=some u:=(hcell o).trans ho
   unfold C6
   refine ⟨?_,⟨u,hc,hr⟩,ih (o+1) ?_⟩
   ·unfold Gh.good J0
    have hlt:g < W.heap.size:=by
     rcases Nat.lt_or_ge g W.heap.size with hh|hh
     ·exact hh
     ·simp [World.cell?,Array.getElem?_eq_none hh] at hc
    simp [hlt]
   ·have:cs.toList.drop (o+1)=us:=by
     have:=congrArg List.tail hu
     simpa [List.tail_drop] using this
    rw [this];exact hrs
 have hlen:=D8 hR
 have hblk:∃ T fr,W.heap[g]?=some (.cells cs T fr):=by
  simp only [World.var?,hg,Option.bind_some] at hv
  split at hv
  ·rename_i c T fr hh
   simp only [Option.some.injEq] at hv
   subst hv
   exact ⟨T,fr,hh⟩
  ·cases hv
 obtain ⟨T,fr,hblk⟩:=hblk
 have hlt:g < W.heap.size:=by
  rcases Nat.lt_or_ge g W.heap.size with hh|hh
  ·exact hh
  ·rw [Array.getElem?_eq_none hh] at hblk;cases hblk
 exact ⟨by simp [J0,hlt],⟨cs,T,fr,hblk,by simpa using hlen⟩,M4.2 ⟨g,0,rfl,key avs 0 (by simpa using hR)⟩⟩
theorem C16 {G:Gh} {w:World} {g:Nat}:A0z G w g (.ptr (some ⟨g,0,none⟩)):=by
 show R G w (.ptr (some ⟨g,0,none⟩)) _
 exact N8.2 rfl
end Go.Ab
