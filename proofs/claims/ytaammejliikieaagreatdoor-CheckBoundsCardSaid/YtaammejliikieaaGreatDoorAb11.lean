/- The operations that turn the store, and calls. -/
import Derived.Lib.AppendStr
import Derived.Test.YtaammejliikieaaGreatDoorAb10
set_option maxRecDepth 10000
set_option maxHeartbeats 60000000
set_option linter.all false
namespace Go.Ab
open Go
def C0c:List (List AV)→(List (List AV)→Prop)→Prop
 | [],K=>K []
 | c::cs,K=>A2v c fun c'=>C0c cs fun cs'=>K (c'::cs')
theorem A0c:∀ (cs:List (List AV)) (K:List (List AV)→Prop),C0c cs K=K cs
 | [],_=>rfl
 | c::cs,K=>by unfold C0c;rw [C8,A0c cs]
def A6a (P:Program) (f:FuncId):Bool :=
 match P.funcs[f]? with
 | some fn => fn.body.isSome && !(fn.name == "runtime.NumGoroutine")
 | none=>false
def D0p (P:Program) (t:TypeId):Bool:=match P.underlying t with|some .string=>true|_=>false
def C60 (s:Sto) (e:TypeId) (k:Nat) (z:List AV) (a:Option Addr) (len cap:Nat) (es2:List (List AV)) (K:AV→Sto→Prop):Prop :=
 (len=0∧cap=0→∀ b' cap',es2.length≤cap'→s.bx b'=none→K (.raw (some ⟨b',0,none⟩) es2.length cap') (s.set b' e (es2.flatten++(List.replicate (cap' - es2.length) z).flatten))) ∧
 (¬ (len=0∧cap=0)→match a with
  | some ⟨b,0,none⟩=>getB (s.bx b) fun T cs=>T=e∧len≤cap∧cs.length=cap * k ∧
    (len+es2.length≤cap→K (.raw (some ⟨b,0,none⟩) (len+es2.length) cap) (s.set b e (cs.take (len * k)++es2.flatten++cs.drop (len * k+es2.length * k)))) ∧
    (cap < len+es2.length→∀ b' cap',len+es2.length≤cap'→s.bx b'=none →
     K (.raw (some ⟨b',0,none⟩) (len+es2.length) cap') (s.set b' e (cs.take (len * k)++es2.flatten++(List.replicate (cap' - (len+es2.length)) z).flatten)))
  | _=>False)
def A1c (P:Program) (s:Sto) (ts:List TypeId) (x y:AV) (K:AV→Sto→Prop):Prop :=
 match ts,x,y with
 | [T,T'],.slice t es,.slice _ es2 =>
  match L9 P T with
  | some e=>(match J9 P e,A2o P e,Z0 P e with
   | some k,some bs,some z=>chk (decide (T'=T) && decide (0 < k) && decide (z.length=k)) ( (t=1∨s.lv t e k)∧(∀ c ∈ es,c.length=k)∧(∀ c ∈ es2,c.length=k∧c.all A57=true) ∧
     (es.length+es2.length) * (bs+1)≤140737488355328∧∀ t',((t'=1∧t=1∧es2=[])∨(t'≠1∧(s.grow t t' e k).lv t' e k))→(t'≠t→∀ e' k',¬ s.lv t' e' k')→K (.slice t' (es++es2)) (s.grow t t' e k))
   | _,_,_=>False)
  | none=>False
 | [T,T'],.slice t es,.str l =>
  match L9 P T with
  | some e=>(match A2o P e,Z0 P e with
   | some bs,some z=>chk (D0p P T' && decide (J9 P e=some 1) && decide (z.length=1)) ( (t=1∨s.lv t e 1)∧(∀ c ∈ es,c.length=1) ∧
     (es.length+l.length) * (bs+1)≤140737488355328∧∀ t',((t'=1∧t=1∧l=[])∨(t'≠1∧(s.grow t t' e 1).lv t' e 1))→(t'≠t→∀ e' k',¬ s.lv t' e' k')→K (.slice t' (es++K6 l)) (s.grow t t' e 1))
   | _,_=>False)
  | none=>False
 | [T,T'],.raw a len cap,.slice _ es2 =>
  match L9 P T with
  | some e=>(match J9 P e,A2o P e,Z0 P e with
   | some k,some bs,some z=>chk (decide (T'=T) && decide (0 < k) && decide (z.length=k)) (es2≠[]∧(∀ c ∈ es2,c.length=k∧c.all A57=true) ∧
     (len+es2.length) * (bs+1)≤140737488355328∧C60 s e k z a len cap es2 K)
   | _,_,_=>False)
  | none=>False
 | _,_,_=>False
def D2 (P:Program) (Γ:Nat→AV) (ev:Operand→AV) (s:Sto) (op:Op) (K:AV→Sto→Prop):Prop :=
 match op with
 | .alloc T=>(match Z0 P T with
  | some z=>∀ b,s.bx b=none→K (.ptr (some ⟨b,0,none⟩)) (s.set b T z)
  | none=>False)
 | .box T x=>A2v (K7 (ev x)) fun cs=>∀ b,s.bx b=none→K (.ptr (some ⟨b,0,none⟩)) (s.set b T cs)
 | .store T x v=>(match ev x with
  | .ptr (some ⟨b,o,none⟩)=>getB (s.bx b) fun T' cs=>(match J9 P T with
   | some n=>(K7 (ev v)).length=n∧(K7 (ev v)).all A57=true∧o+n≤cs.length∧A2v (cs.take o++K7 (ev v)++cs.drop (o+n)) fun l=>K undefA (s.set b T' l)
   | none=>False)
  | _=>False)
 | .buildSlice T len parts=>(match L9 P T with
  | some e=>(match J9 P e,Z0 P e with
   | some k,some z=>len * k≤16777216∧z.length=k∧parts.toList.map (·.1)=List.range len∧(∀ c ∈ parts.toList.map (fun p=>K7 (ev p.2)),c.length=k) ∧
     C0c (parts.toList.map fun p=>K7 (ev p.2)) fun l=>K (.slice 1 l) s
   | _,_=>False)
  | none=>False)
 | .makeMap T r=>chk (r.isNone && (B69 P T).isSome) (∀ b,s.mp b=none→K (.mref (some b)) (s.setM b []))
 | .mapUpdate T m k x=>chk (B69 P T).isSome (match ev m,ev k with
  | .mref (some b),.str l=>C7i (s.mp b) fun es=>P0 l es=none∧frc (ev x) fun v=>K undefA (s.setM b (es++[(l,v)]))
  | _,_=>False)
 | .makeSlice T l c=>(match ev l,ev c with
  | .int .i64 n,.int .i64 m=>(match L9 P T with
   | some e=>(match J9 P e,A2o P e,Z0 P e with
    | some k,some bs,some z=>0≤n∧n≤m∧m≤9223372036854775807∧bs * m≤281474976710656∧z.length=k ∧
     ∀ b,s.bx b=none→K (.raw (some ⟨b,0,none⟩) n.toNat m.toNat) (s.set b e (List.replicate m.toNat z).flatten)
    | _,_,_=>False)
   | none=>False)
  | _,_=>False)
 | .call c=>(match c.callee with
  | .builtin .append=>(match c.args.toList with
   | [x,y]=>A1c P s c.argTypes.toList (ev x) (ev y) K
   | _=>False)
  | .value f=>(match ev f with
   | .func (.func fn) fs cs=>chk (A6a P fn) (A2v (fs++c.args.toList.map ev++cs) fun l=>A2 P Γ fn l s K)
   | _=>False)
  | _=>H6 P ev s op (fun v=>K v s))
 | _=>H6 P ev s op (fun v=>K v s)
section
variable {P:Program} {Γ:Nat→AV} {G:Gh} {w:World} {s:Sto}
def A00 (P:Program) (Γ:Nat→AV) (G:Gh) (w:World) (x:Sem Next) (K:AV→Sto→Prop):Prop :=
 ∃ nx w' v r s' G',x.run P w=.ok nx w'∧(nx=.value v∨nx=.skip∧v=undef)∧K r s'∧R G' w' r v∧Mod Γ G' s' w'∧Ext G w G' w'
theorem A00.wp {o:Oper} {a:Act} {K:AV→Sto→Prop} (h:A00 P Γ G w (execOp a.eval o) K) {next:Act→World→Prop} {Q:Exit→Act→World→Prop}
  (hn:∀ v r s' G' w',K r s'→R G' w' r v→Mod Γ G' s' w'→Ext G w G' w'→next (a.put o.dst v) w'):o.wp P a w next Q:=by
 obtain ⟨nx,w',v,r,s',G',h1,h2,h3,h4,h5,h6⟩:=h
 unfold Oper.wp
 rw [h1]
 rcases h2 with rfl|⟨rfl,rfl⟩
 ·exact hn v r s' G' w' h3 h4 h5 h6
 ·exact hn undef r s' G' w' h3 h4 h5 h6
theorem B7c {c:AV} {v:Value} (h:R G w c v) (hc:A57 c=true):v.oneCell'=true:=by
 cases c with
 | agg cs=>cases hc
 | tuple cs=>cases hc
 | cmap es=>obtain ⟨b,ents,c,rfl,_⟩:=B8b.1 h;rfl
 | mref a=>rw [A5f] at h;subst h;rfl
 | int=>rw [F5] at h;subst h;rfl
 | bool=>rw [F7] at h;subst h;rfl
 | str=>rw [M3] at h;subst h;rfl
 | ptr=>rw [N8] at h;subst h;rfl
 | raw=>rw [X6] at h;subst h;rfl
 | nilIface=>rw [L6] at h;subst h;rfl
 | nilFunc=>rw [A4b] at h;subst h;rfl
 | cptr cs=>obtain ⟨b,o,rfl,_⟩:=M4.1 h;rfl
 | slice t es=>obtain ⟨a,cap,rfl,_⟩:=L5 h;rfl
 | iface t x=>obtain ⟨u,rfl,_⟩:=M9.1 h;rfl
 | func fn fs cs=>obtain ⟨u,x,rfl,_⟩:=A5e.1 h;rfl
theorem A9q:∀ {cs:List AV} {vs:List Value},B7 G w cs vs→cs.all A57=true→∀ v ∈ vs,v.oneCell'=true
 | [],vs,h,_,v,hv=>by rw [B4.1 h] at hv;simp at hv
 | c::cs,vs,h,hc,v,hv=>by
  obtain ⟨u,us,rfl,h1,h2⟩:=A9.1 h
  simp only [List.all_cons,Bool.and_eq_true] at hc
  rcases List.mem_cons.1 hv with rfl|hv
  ·exact B7c h1 hc.1
  ·exact A9q h2 hc.2 v hv
theorem B1x (hm:Mod Γ G s w) {T T':TypeId} {b o n:Nat} {cs us:List AV} {v:Value} (hb:s.bx b=some (T',cs)) (hn:J9 P T=some n) (hus:B7 G w us v.cells.toList)
  (h1:us.length=n) (h2:us.all A57=true) (h3:o+n≤cs.length) :
  ∃ w',(storeVar T ⟨b,o,none⟩ v).run P w=.ok () w'∧Mod Γ G (s.set b T' (cs.take o++us++cs.drop (o+n))) w'∧Ext G w G w':=by
 obtain ⟨_,i,hi,hsz⟩:=Q9 hn
 obtain ⟨_,vs,hh,hr⟩:=hm.box b T' cs hb
 have hvl:v.cells.toList.length=n:=(D8 hus).trans h1
 have hcl:vs.length=cs.length:=D8 hr
 have hst:=run_storeCells_at P b o T' v.cells.toList 0 vs.toArray w hh (by simp only [Nat.add_zero,List.size_toArray];omega) (A9q hus h2)
 simp only [Nat.add_zero] at hst
 refine ⟨w.setRow b (vs.take o++v.cells.toList++vs.drop (o+v.cells.toList.length)).toArray,?_,Mod.box_set (w':=w.setRow b (vs.take o++v.cells.toList++vs.drop (o+v.cells.toList.length)).toArray) (T:=T') hm hb (vs:=vs.take o++v.cells.toList++vs.drop (o+v.cells.toList.length)) ?_ rfl rfl rfl (by simp) (setRow_heap w b _ _ T' (0,0) hh) (fun k hk=>setRow_other w b k _ hk)⟩
 ·have hsize:v.cells.size=i.size:=by rw [hsz,← hvl];simp
  simp only [storeVar,Sem.run_bind,F3 hi,Result.andThen_ok]
  rw [if_neg (by simpa using hsize)]
  exact hst
 ·rw [hvl]
  exact E4 (E4 (Q3 o hr) hus) (Q2 _ hr)
theorem A59 {t:TypeId} {n:Nat} {i:TypeInfo} (h:A2o P t=some n) (hi:P.info? t=some i):i.bytes=n:=by
 unfold A2o at h
 rw [hi] at h
 simpa using h
theorem A9i {T e:TypeId} {i:TypeInfo} (hT:P.underlying T=some (.slice e)) (hi:P.info? e=some i) (ty:TypeId) (a a2:Option Addr) (n cap c2:Nat) (hle:n≤cap) :
  (Builtin.append_ #[T,T] ty #[.slice a n cap,.slice a2 0 c2]).run P w=.ok (.slice a n cap) w:=by
 have hf:(Builtin.firstCells i.size 0 (.slice a2 0 c2)).run P w=.ok #[] w:=by
  cases a2<;>simp [Builtin.firstCells,loadCells,loadCellsFrom]
 cases a with
 | none=>simp [Builtin.append_,B6 hT,F3 hi,Builtin.lenOf,hle,hf]
 | some a=>simp [Builtin.append_,B6 hT,F3 hi,Builtin.lenOf,hle,hf,storeCells]
theorem D0q {t:TypeId} (h:D0p P t=true):P.underlying t=some .string:=by
 unfold D0p at h
 split at h
 ·assumption
 ·cases h
theorem B95:∀ (l:List UInt8),B7 G w (K6 l).flatten (Lib.strCells ⟨l.toArray⟩)
 | []=>by simp [K6,Lib.strCells,B7]
 | b::l=>by
  have:=B95 l
  simp only [K6,Lib.strCells,List.map_cons,List.flatten_cons,List.singleton_append] at this ⊢
  exact A9.2 ⟨_,_,rfl,F5.2 rfl,this⟩
theorem A8q (hm:Mod Γ G s w) {T' T2 ty e:TypeId} {i:TypeInfo} {zv v2:Value} {t:Nat} {es es2:List (List AV)} {a:Option Addr} {cap k2:Nat} {K:AV→Sto→Prop}
  (hsi:i.size=k2) (hzc:zv.cells.size=k2) (hlive:t=1∨s.lv t e k2) (hes:∀ c ∈ es,c.length=k2) (hes2:∀ c ∈ es2,c.length=k2) (hes2n:es2≠[])
  (hx:R G w (.slice t es) (.slice a es.length cap)) {news:List Value} (hnl:news.length=es2.length * k2) (hnr:B7 G w es2.flatten news)
  (hK:∀ t',t'≠1∧(s.grow t t' e k2).lv t' e k2→(t'≠t→∀ e' k',¬ s.lv t' e' k')→K (.slice t' (es++es2)) (s.grow t t' e k2))
  (Hroom:∀ b c,a=some ⟨b,0,none⟩→w.heap[b]?=some (.cells c e (0,0))→es.length+es2.length≤cap→es.length * i.size+news.length≤c.size →
   (Builtin.append_ #[T',T2] ty #[.slice a es.length cap,v2]).run P w=.ok (.slice (some ⟨b,0,none⟩) (es.length+es2.length) cap) (w.setRow b (c.toList.take (es.length * i.size)++news++c.toList.drop (es.length * i.size+news.length)).toArray))
  (Hgrow:∀ (a':Addr) (os:List Value),a=some a'→os.length=es.length * i.size→(∀ j u,os[j]?=some u→w.cell? (a'.add j)=some u)→cap < es.length+es2.length →
   (Builtin.append_ #[T',T2] ty #[.slice a es.length cap,v2]).run P w=.ok (.slice (some ⟨w.heap.size,0,none⟩) (es.length+es2.length) (grownCap w (es.length+es2.length) cap e))
    (w.drew.alloc (.cells (os.toArray++news.toArray++Builtin.zeroCells zv.cells (grownCap w (es.length+es2.length) cap e - (es.length+es2.length))) e)))
  (Hnil:a=none→es=[]→cap=0→(Builtin.append_ #[T',T2] ty #[.slice a es.length cap,v2]).run P w=.ok (.slice (some ⟨w.heap.size,0,none⟩) es2.length (grownCap w es2.length 0 e))
    (w.drew.alloc (.cells (news.toArray++Builtin.zeroCells zv.cells (grownCap w es2.length 0 e - es2.length)) e))) :
  ∃ z w' r s' G',(Builtin.append_ #[T',T2] ty #[.slice a es.length cap,v2]).run P w=.ok z w'∧K r s'∧R G' w' r z∧Mod Γ G' s' w'∧Ext G w G' w':=by
 obtain ⟨a0,cap0,hval0,hcap,hnil,hels,ht1⟩:=L5 hx
 injection hval0 with e1 e2 e3
 subst e1 e3
 have hnpos:0 < es2.length:=List.length_pos_iff.2 hes2n
 have hnl':news.length=es2.length * i.size:=by rw [hnl,hsi]
 -- the old cells
 have olds:∃ os:List Value,os.length=es.length * i.size∧B7 G w es.flatten os∧(es≠[]→∃ b o,a=some ⟨b,o,none⟩∧∀ j u,os[j]?=some u→w.cell? ⟨b,o+j,none⟩=some u):=by
  by_cases hes0:es=[]
  ·subst hes0
   exact ⟨[],by simp,B4.2 rfl,fun h=>absurd rfl h⟩
  ·obtain ⟨b,o,k',rfl,hel⟩:=hels hes0
   obtain ⟨os,h1,h2,h3⟩:=U9 es hel
   have:k'=k2:=by
    cases es with
    | nil=>exact absurd rfl hes0
    | cons c cs=>unfold D1 at hel;exact hel.1.symm.trans (hes c List.mem_cons_self)
   subst this
   exact ⟨os,by rw [h1,hsi],h2,fun _=>⟨b,o,rfl,h3⟩⟩
 obtain ⟨os,hol,hor,hoc⟩:=olds
 have hallk:∀ c ∈ es++es2,c.length=k2:=fun c hc=>by
  rcases List.mem_append.1 hc with hc|hc
  ·exact hes c hc
  ·exact hes2 c hc
 have hne:es++es2≠[]:=by simp [hes2n]
 -- what it means that the row is new
 have grow:∀ old,cap < es.length+es2.length →
   (Builtin.append_ #[T',T2] ty #[.slice a es.length cap,v2]).run P w =
    .ok (.slice (some ⟨w.heap.size,0,none⟩) (es.length+es2.length) (grownCap w (es.length+es2.length) old e))
     (w.drew.alloc (.cells (os.toArray++news.toArray++Builtin.zeroCells zv.cells (grownCap w (es.length+es2.length) old e - (es.length+es2.length))) e)) →
   ∃ z w' r s' G',(Builtin.append_ #[T',T2] ty #[.slice a es.length cap,v2]).run P w=.ok z w'∧K r s'∧R G' w' r z∧Mod Γ G' s' w'∧Ext G w G' w':=by
  intro old _ hrun
  have hge:=grownCap_ge w (es.length+es2.length) old e
  obtain ⟨t',G',hm',X,h0,h1,htk,hkd,hfr⟩:=Mod.row_own hm t (cells:=os.toArray++news.toArray++Builtin.zeroCells zv.cells (grownCap w (es.length+es2.length) old e - (es.length+es2.length))) (e:=e) (k:=k2) (need:=es.length+es2.length) (cap:=grownCap w (es.length+es2.length) old e) (by
   simp only [Array.size_append,List.size_toArray,size_zeroCells,hzc,hol,hnl',hsi,← Nat.add_mul]
   congr 1
   omega) hge
  refine ⟨_,_,_,_,G',hrun,hK t' ⟨h1,.inl ⟨rfl,h1,rfl,rfl⟩⟩ (fun _=>hfr),?_,hm',X⟩
  rw [A4c]
  refine ⟨fun _ _=>htk.symm,.inr ⟨_,0,_,k2,by rw [List.length_append],by rw [List.length_append];exact hge,fun h=>absurd h h1,hne,?_⟩⟩
  refine A1w _ _ hallk ?_
  have hflat:(es++es2).flatten=es.flatten++es2.flatten:=by simp
  rw [hflat]
  refine A4a (us:=os++news) ?_ ?_ _ 0 (os++news) rfl ((E4 hor hnr).mono X _ _)
  ·intro j u hj
   have hat:(w.drew.alloc (.cells (os.toArray++news.toArray++Builtin.zeroCells zv.cells (grownCap w (es.length+es2.length) old e - (es.length+es2.length))) e)).heap[w.heap.size]?=some (.cells _ e):=W1 w.drew _
   simp only [World.cell?,hat,Option.isSome_none,Bool.false_eq_true,if_false]
   have hjl:j < (os++news).length:=by
    rcases Nat.lt_or_ge j (os++news).length with hh|hh
    ·exact hh
    ·rw [List.getElem?_eq_none hh] at hj;cases hj
   rw [Array.getElem?_append_left (by simpa using hjl)]
   rw [List.append_toArray,List.getElem?_toArray]
   exact hj
  ·intro j hj
   unfold Gh.good
   rw [hkd]
   show j < (es.length+es2.length) * k2
   rw [List.length_append,hol,hnl',hsi,← Nat.add_mul] at hj
   exact hj
 by_cases hroom:es.length+es2.length≤cap
 · -- in place: the token is live
  have hl:s.lv t e k2:=by
   rcases hlive with rfl|hl
   ·have:=ht1 rfl;omega
   ·exact hl
  obtain ⟨h0,h1,b,htop⟩:=hm.live t e k2 hl
  obtain ⟨len,cap',c,htk,_,hkd,hhb,hcs⟩:=htop
  have hval:=(A4c.1 hx).1 h0 h1
  rw [htk] at hval
  injection hval with ha hb' hc'
  subst ha hb' hc'
  have hroomcells:es.length * i.size+news.length≤c.size:=by
   rw [hnl',hsi,hcs,← Nat.add_mul];exact Nat.mul_le_mul_right _ hroom
  have hrun:=Hroom b c rfl hhb hroom hroomcells
  rw [hsi] at hrun
  obtain ⟨t',G',hm',X,h0',h1',htk',hkd',hfr⟩:=Mod.row_more hm hl htk hkd hhb hcs (news:=news) hnl hroom
  refine ⟨_,_,_,_,G',hrun,hK t' ⟨h1',.inl ⟨rfl,h1',rfl,rfl⟩⟩ (fun _=>hfr),?_,hm',X⟩
  rw [A4c]
  refine ⟨fun _ _=>htk'.symm,.inr ⟨b,0,cap,k2,by rw [List.length_append],by rw [List.length_append];exact hroom,fun h=>absurd h h1',hne,?_⟩⟩
  refine A1w _ _ hallk ?_
  have hflat:(es++es2).flatten=es.flatten++es2.flatten:=by simp
  rw [hflat]
  have hat:(w.setRow b (c.toList.take (es.length * k2)++news++c.toList.drop (es.length * k2+news.length)).toArray).heap[b]?=some (.cells _ e (0,0)):=setRow_heap w b c _ e (0,0) hhb
  refine A4a (us:=os++news) ?_ ?_ _ 0 (os++news) rfl ((E4 hor hnr).mono X _ _)
  ·intro j u hj
   simp only [World.cell?,hat,Option.isSome_none,Bool.false_eq_true,if_false,List.getElem?_toArray]
   have hosl:os.length=es.length * k2:=by rw [hol,hsi]
   have htl:(c.toList.take (es.length * k2)).length=es.length * k2:=by
    rw [List.length_take,Array.length_toList]
    rw [hsi] at hroomcells
    exact Nat.min_eq_left (Nat.le_trans (Nat.le_add_right _ _) hroomcells)
   rcases Nat.lt_or_ge j os.length with hj1|hj1
   ·rw [List.getElem?_append_left hj1] at hj
    have hes0:es≠[]:=by
     rintro rfl
     have:os=[]:=List.eq_nil_of_length_eq_zero (by simpa using hol)
     subst this;simp at hj1
    obtain ⟨b',o',hbo,hcc⟩:=hoc hes0
    injection hbo with hbo;injection hbo with hb1 ho1;subst hb1 ho1
    have:=hcc j u hj
    simp only [World.cell?,hhb,Option.isSome_none,Bool.false_eq_true,if_false,Nat.zero_add] at this
    rw [List.append_assoc,List.getElem?_append_left (by omega),List.getElem?_take,if_pos (by omega)]
    simpa using this
   ·rw [List.getElem?_append_right hj1] at hj
    have hjn:j - os.length < news.length:=by
     rcases Nat.lt_or_ge (j - os.length) news.length with hh|hh
     ·exact hh
     ·rw [List.getElem?_eq_none hh] at hj;cases hj
    rw [List.append_assoc,List.getElem?_append_right (by omega),htl,List.getElem?_append_left (by omega)]
    rw [← hosl];exact hj
  ·intro j hj
   unfold Gh.good
   rw [hkd']
   show j < (es.length+es2.length) * k2
   rw [List.length_append,hol,hnl',hsi,← Nat.add_mul] at hj
   exact hj
 · -- a new row
  cases a with
  | some a =>
   refine grow cap (by omega) (Hgrow a os rfl hol ?_ (by omega))
   intro j u hj
   have hes0:es≠[]:=by
    rintro rfl
    have:os=[]:=List.eq_nil_of_length_eq_zero (by simpa using hol)
    subst this;simp at hj
   obtain ⟨b',o',hbo,hcc⟩:=hoc hes0
   injection hbo with hbo;subst hbo
   rw [Addr.add_lit];exact hcc j u hj
  | none =>
   have hc0:=hnil rfl
   subst hc0
   have hes0:es=[]:=List.eq_nil_of_length_eq_zero (by omega)
   subst hes0
   have hos:os=[]:=List.eq_nil_of_length_eq_zero (by simpa using hol)
   subst hos
   have hr:=Hnil rfl rfl rfl
   refine grow 0 (by omega) ?_
   simp only [List.length_nil,Nat.zero_add]
   simpa using hr
theorem S9 (z:List Value) (k:Nat) (hk:z.length=k):∀ (m j:Nat),j < m * k→(List.replicate m z).flatten[j]?=z[j % k]?
 | 0,j,h=>by simp at h
 | m+1,j,h=>by
  rw [List.replicate_succ,List.flatten_cons]
  rcases Nat.lt_or_ge j k with hj|hj
  ·rw [List.getElem?_append_left (by omega),Nat.mod_eq_of_lt hj]
  ·rw [List.getElem?_append_right (by omega),hk,S9 z k hk m (j - k) (by rw [Nat.succ_mul] at h;omega)]
   rw [← Nat.mod_eq_sub_mod hj]
theorem A0f {z:List AV} {vs:List Value} (h:B7 G w z vs):∀ m,B7 G w (List.replicate m z).flatten (List.replicate m vs).flatten
 | 0=>B4.2 rfl
 | m+1=>by simp only [List.replicate_succ,List.flatten_cons];exact E4 h (A0f h m)
theorem B50 {z:List AV} {zs:Array Value} {k:Nat} (hk:zs.size=k) (h:B7 G w z zs.toList) (m:Nat):B7 G w (List.replicate m z).flatten (Builtin.zeroCells zs m).toList:=by
 have e:(Builtin.zeroCells zs m).toList=(List.replicate m zs.toList).flatten:=by
  have hl:((List.replicate m zs.toList).flatten).length=m * k:=by simp [hk]
  apply List.ext_getElem?
  intro j
  rcases Nat.lt_or_ge j (m * k) with hj|hj
  ·have hkp:0 < k:=Nat.pos_of_ne_zero fun h=>by rw [h,Nat.mul_zero] at hj;omega
   rw [S9 _ k (by simpa using hk) _ _ hj]
   unfold Builtin.zeroCells
   simp only [Array.toList_map,List.getElem?_map,Array.toList_range,hk,List.getElem?_range hj,Option.map_some]
   have hlt:j % k < zs.size:=by rw [hk];exact Nat.mod_lt _ hkp
   rw [getElem!_pos zs (j % k) hlt]
   simp [hlt]
  ·rw [List.getElem?_eq_none (by rw [Array.length_toList,size_zeroCells,hk];exact hj),List.getElem?_eq_none (by rw [hl];exact hj)]
 rw [e]
 exact A0f h m
theorem C61 (hm:Mod Γ G s w) {T ty e:TypeId} {i:TypeInfo} {zv:Value} {z:List AV} {k len cap bs:Nat} {a:Option Addr} {b2 o2 c2:Nat} {es2:List (List AV)} {K:AV→Sto→Prop}
  (hT:P.underlying T=some (.slice e)) (hi:P.info? e=some i) (hsi:i.size=k) (hbi:i.bytes=bs) (hzv:i.zero=some zv) (hzr:B7 G w z zv.cells.toList) (hzl:z.length=k)
  (hn:es2≠[]) (hby:(len+es2.length) * (bs+1)≤140737488355328) {news:List Value} (hnl:news.length=es2.length * k) (hnr:B7 G w es2.flatten news)
  (hnc:∀ j u,news[j]?=some u→w.cell? ((⟨b2,o2,none⟩:Addr).add j)=some u) (hone:∀ u ∈ news,u.oneCell'=true)
  (h:C60 s e k z a len cap es2 K) :
  ∃ zz w' r s' G',(Builtin.append_ #[T,T] ty #[.slice a len cap,.slice (some ⟨b2,o2,none⟩) es2.length c2]).run P w=.ok zz w'∧K r s'∧R G' w' r zz∧Mod Γ G' s' w'∧Ext G w G' w':=by
 subst hsi hbi
 have hnpos:0 < es2.length:=List.length_pos_iff.2 hn
 have hzc:zv.cells.size=i.size:=by rw [← hzl,← D8 hzr];simp
 have hby':(len+es2.length) * i.bytes≤140737488355328:=Nat.le_trans (Nat.mul_le_mul_left _ (Nat.le_succ _)) hby
 have hlen':len+es2.length≤140737488355328:=by
  have:(len+es2.length) * 1≤(len+es2.length) * (i.bytes+1):=Nat.mul_le_mul_left _ (by omega)
  omega
 obtain ⟨hd,Xd⟩:=Mod.drew hm
 -- a new row of these cells
 have fresh:∀ (cs:List AV) (vs:List Value) (g:Nat),B7 G w cs vs →
   Mod Γ G (s.set w.heap.size e (cs++(List.replicate g z).flatten)) (w.drew.alloc (.cells (vs.toArray++Builtin.zeroCells zv.cells g) e))∧s.bx w.heap.size=none∧Ext G w G (w.drew.alloc (.cells (vs.toArray++Builtin.zeroCells zv.cells g) e)):=by
  intro cs vs g hr
  have hr2:B7 G w.drew (cs++(List.replicate g z).flatten) (vs++(Builtin.zeroCells zv.cells g).toList):=(E4 hr (B50 hzc hzr g)).mono Xd _ _
  have e1:vs.toArray++Builtin.zeroCells zv.cells g=(vs++(Builtin.zeroCells zv.cells g).toList).toArray:=by simp
  rw [e1]
  obtain ⟨h1,h2⟩:=Mod.box_new hd (T:=e) hr2
  exact ⟨h1,h2,Xd.trans (Ext.alloc hd _)⟩
 by_cases h0:len=0∧cap=0
 ·obtain ⟨rfl,rfl⟩:=h0
  have hK:=h.1 ⟨rfl,rfl⟩
  have hge:=grownCap_ge w es2.length 0 e
  obtain ⟨h1,h2,h3⟩:=fresh es2.flatten news (grownCap w es2.length 0 e - es2.length) hnr
  refine ⟨_,_,_,_,G,?_,hK w.heap.size (grownCap w es2.length 0 e) hge h2,X6.2 rfl,h1,h3⟩
  cases a with
  | none =>
   exact run_append_nil (P:=P) w T ty e i zv hT hi hzv ⟨b2,o2,none⟩ es2.length c2 news hnl hnc hnpos (by omega) (by have:=hby';simp only [Nat.zero_add] at this;omega)
  | some a =>
   have:=run_append_grow (P:=P) w T ty e i zv hT hi hzv a 0 0 [] (by simp) (by simp) ⟨b2,o2,none⟩ es2.length c2 news hnl hnc (by omega) (by omega) (growslice_fits (by omega) hby')
   simpa using this
 ·replace h:=h.2 h0
  split at h
  ·rename_i b
   cases hb:s.bx b with
   | none=>rw [hb] at h;exact h.elim
   | some x =>
    obtain ⟨T0,cs⟩:=x
    rw [hb] at h
    obtain ⟨rfl,hlc,hcl,hroom,hgrow⟩:T0=e∧len≤cap∧cs.length=cap * i.size∧_∧_:=h
    obtain ⟨_,vs,hh,hr⟩:=hm.box b _ cs hb
    have hvl:vs.length=cap * i.size:=(D8 hr).trans hcl
    have hle:len * i.size≤vs.length:=by rw [hvl];exact Nat.mul_le_mul_right _ hlc
    by_cases hr1:len+es2.length≤cap
    ·have hK:=hroom hr1
     have hfit:len * i.size+news.length≤vs.toArray.size:=by
      rw [hnl,List.size_toArray,hvl,← Nat.add_mul]
      exact Nat.mul_le_mul_right _ hr1
     have hrun:=run_append_room (P:=P) w T ty _ i hT hi b len cap vs.toArray hh ⟨b2,o2,none⟩ es2.length c2 news hnl hnc hone hr1 hfit
     have hm2:=Mod.box_set (w':=w.setRow b (vs.take (len * i.size)++news++vs.drop (len * i.size+news.length)).toArray) (T:=T0) hm hb (E4 (E4 (Q3 (len * i.size) hr) hnr) (Q2 (len * i.size+news.length) hr)) rfl rfl rfl (by simp) (setRow_heap w b _ _ T0 (0,0) hh) (fun k hk=>setRow_other w b k _ hk)
     rw [hnl] at hm2
     refine ⟨_,_,_,_,G,hrun,hK,X6.2 rfl,?_,?_⟩
     ·simpa [hnl] using hm2.1
     ·simpa [hnl] using hm2.2
    ·have hge:=grownCap_ge w (len+es2.length) cap T0
     obtain ⟨h1,h2,h3⟩:=fresh (cs.take (len * i.size)++es2.flatten) (vs.take (len * i.size)++news) (grownCap w (len+es2.length) cap T0 - (len+es2.length)) (E4 (Q3 _ hr) hnr)
     have hrun:=run_append_grow (P:=P) w T ty _ i zv hT hi hzv ⟨b,0,none⟩ len cap (vs.take (len * i.size)) (by rw [List.length_take];omega) (fun j u hj=>by
      rw [Addr.add_lit]
      have hjl:j < len * i.size:=by
       rcases Nat.lt_or_ge j (len * i.size) with hx|hx
       ·exact hx
       ·rw [List.getElem?_take,if_neg (by omega)] at hj;cases hj
      rw [List.getElem?_take,if_pos hjl] at hj
      simpa [World.cell?,hh] using hj) ⟨b2,o2,none⟩ es2.length c2 news hnl hnc (by omega) (by omega) (growslice_fits (by omega) hby')
     refine ⟨_,_,_,_,G,hrun,hgrow (by omega) w.heap.size (grownCap w (len+es2.length) cap T0) hge h2,X6.2 rfl,?_,?_⟩
     ·simpa using h1
     ·simpa using h3
  ·exact h.elim
theorem B8c (hm:Mod Γ G s w) {ts:List TypeId} {x y:AV} {K:AV→Sto→Prop} (h:A1c P s ts x y K) (ty:TypeId) {u v:Value} (hx:R G w x u) (hy:R G w y v) :
  ∃ z w' r s' G',(Builtin.append_ ts.toArray ty #[u,v]).run P w=.ok z w'∧K r s'∧R G' w' r z∧Mod Γ G' s' w'∧Ext G w G' w':=by
 unfold A1c at h
 split at h
 ·rename_i T T' t es t2 es2
  split at h
  ·rename_i e he
   split at h
   ·rename_i k bs z hk hbs hz
    obtain ⟨hck,hlive,hes,hes2,hby,hK⟩:=B2.1 h
    simp only [Bool.and_eq_true,decide_eq_true_eq] at hck
    obtain ⟨⟨hTT,hk0⟩,hzl⟩:=hck
    subst hTT
    obtain ⟨⟨d,_⟩,i,hi,hsi⟩:=Q9 hk
    obtain ⟨i',zv,hi',hzv,hzr⟩:=A27 (G:=G) (w:=w) hz
    rw [hi] at hi';injection hi' with hi';subst hi'
    have hbi:=A59 hbs hi
    have hT:=N1 he
    obtain ⟨a,cap,rfl,hcap,hnil,hels,ht1⟩:=L5 hx
    obtain ⟨a2,cap2,rfl,_,_,hels2,_⟩:=L5 hy
    by_cases hes2n:es2=[]
    ·subst hes2n
     have hrun:=A9i (P:=P) (w:=w) hT hi ty a a2 es.length cap cap2 hcap
     have hkeep:∀ u' e' k',(s.grow t t e k).lv u' e' k'→s.lv u' e' k':=by
      intro u' e' k' hl
      rcases hl with ⟨rfl,h1,rfl,rfl⟩|⟨hl,_⟩
      ·exact hlive.resolve_left h1
      ·exact hl
     refine ⟨_,w,_,_,G,hrun,hK t (by
      rcases hlive with rfl|hl
      ·exact .inl ⟨rfl,rfl,rfl⟩
      ·exact .inr ⟨(hm.live t e k hl).2.1,.inl ⟨rfl,(hm.live t e k hl).2.1,rfl,rfl⟩⟩) (fun h=>absurd rfl h),by simpa using hx,?_,Ext.refl _ _⟩
     exact ⟨hm.glob,hm.box,hm.dom,fun u' e' k' hl=>hm.live u' e' k' (hkeep _ _ _ hl),fun u' v' b e1 k1 e2 k2 hu hv h1 h2=>hm.apart u' v' b e1 k1 e2 k2 (hkeep _ _ _ hu) (hkeep _ _ _ hv) h1 h2,hm.fin,hm.mp⟩
    ·obtain ⟨b2,o2,k2,rfl,hel2⟩:=hels2 hes2n
     obtain ⟨news,hnl,hnr,hnc⟩:=U9 es2 hel2
     have hk2:k2=k:=by
      cases es2 with
      | nil=>exact absurd rfl hes2n
      | cons c cs=>unfold D1 at hel2;exact hel2.1.symm.trans (hes2 c List.mem_cons_self).1
     subst hk2
     have hnpos:0 < es2.length:=List.length_pos_iff.2 hes2n
     have hnl':news.length=es2.length * i.size:=by rw [hnl,hsi]
     have hatom:es2.flatten.all A57=true:=by
      rw [List.all_eq_true]
      intro c hc
      obtain ⟨l,hl,hcl⟩:=List.mem_flatten.1 hc
      exact (List.all_eq_true.1 (hes2 l hl).2) c hcl
     have hone:=A9q hnr hatom
     have hby':(es.length+es2.length) * i.bytes≤140737488355328:=by
      rw [hbi]
      exact Nat.le_trans (Nat.mul_le_mul_left _ (Nat.le_succ _)) hby
     have hlen':es.length+es2.length≤140737488355328:=by
      have:(es.length+es2.length) * 1≤(es.length+es2.length) * (bs+1):=Nat.mul_le_mul_left _ (by omega)
      omega
     have hcells:∀ j u,news[j]?=some u→w.cell? ((⟨b2,o2,none⟩:Addr).add j)=some u:=fun j u hj=>by rw [Addr.add_lit];exact hnc j u hj
     have hzc:zv.cells.size=k2:=by rw [← hzl,← D8 hzr];simp
     have hnpos:0 < es2.length:=List.length_pos_iff.2 hes2n
     refine A8q hm (i:=i) (zv:=zv) hsi hzc hlive hes (fun c hc=>(hes2 c hc).1) hes2n hx (news:=news) hnl hnr (fun t' h1 h2=>hK t' (.inr h1) h2) ?_ ?_ ?_
     ·rintro b c rfl hhb hroom hrc
      exact run_append_room (P:=P) w T' ty e i hT hi b es.length cap c hhb ⟨b2,o2,none⟩ es2.length cap2 news hnl' hcells hone hroom hrc
     ·rintro a' os rfl hol hoc hlt
      exact run_append_grow (P:=P) w T' ty e i zv hT hi hzv a' es.length cap os hol hoc ⟨b2,o2,none⟩ es2.length cap2 news hnl' hcells (by omega) (by omega) (growslice_fits (by omega) hby')
     ·rintro rfl rfl rfl
      exact run_append_nil (P:=P) w T' ty e i zv hT hi hzv ⟨b2,o2,none⟩ es2.length cap2 news hnl' hcells hnpos (by omega) (by
       have:=hby';simp only [List.length_nil,Nat.zero_add] at this;omega)
   ·exact h.elim
  ·exact h.elim
 ·rename_i T' T2 t es l
  split at h
  ·rename_i e he
   split at h
   ·rename_i bs z hbs hz
    obtain ⟨hck,hlive,hes,hby,hK⟩:=B2.1 h
    simp only [Bool.and_eq_true,decide_eq_true_eq] at hck
    obtain ⟨⟨hT2,hk⟩,hzl⟩:=hck
    obtain ⟨⟨d,_⟩,i,hi,hsi⟩:=Q9 hk
    obtain ⟨i',zv,hi',hzv,hzr⟩:=A27 (G:=G) (w:=w) hz
    rw [hi] at hi';injection hi' with hi';subst hi'
    have hbi:=A59 hbs hi
    have hT:=N1 he
    have hu:=D0q hT2
    obtain ⟨a,cap,rfl,hcap,hnil,hels,ht1⟩:=L5 hx
    rw [M3] at hy
    subst hy
    have hby':(es.length+l.length) * i.bytes≤140737488355328:=by
     rw [hbi]
     exact Nat.le_trans (Nat.mul_le_mul_left _ (Nat.le_succ _)) hby
    have hlen':es.length+l.length≤140737488355328:=by
     have:(es.length+l.length) * 1≤(es.length+l.length) * (bs+1):=Nat.mul_le_mul_left _ (by omega)
     omega
    have hsz:(⟨l.toArray⟩:ByteArray).size=l.length:=rfl
    have hbl:(K6 l).length=l.length:=by simp [K6]
    by_cases hl:l=[]
    ·subst hl
     have hrun:(Builtin.append_ #[T',T2] ty #[.slice a es.length cap,.string ⟨#[]⟩]).run P w=.ok (.slice a es.length cap) w:=by
      have hf:=Lib.run_firstCells_string (P:=P) w i.size ⟨#[]⟩
      have h0:(⟨#[]⟩:ByteArray).size=0:=rfl
      rw [h0] at hf
      cases a with
      | none=>simp [Builtin.append_,B6 hT,B6 hu,F3 hi,Builtin.lenOf,h0,hcap,hf]
      | some a=>simp [Builtin.append_,B6 hT,B6 hu,F3 hi,Builtin.lenOf,h0,hcap,hf,storeCells,Lib.strCells]
     have hkeep:∀ u' e' k',(s.grow t t e 1).lv u' e' k'→s.lv u' e' k':=by
      intro u' e' k' hl
      rcases hl with ⟨rfl,h1,rfl,rfl⟩|⟨hl,_⟩
      ·exact hlive.resolve_left h1
      ·exact hl
     refine ⟨_,w,_,_,G,hrun,hK t (by
      rcases hlive with rfl|hl
      ·exact .inl ⟨rfl,rfl,rfl⟩
      ·exact .inr ⟨(hm.live t e 1 hl).2.1,.inl ⟨rfl,(hm.live t e 1 hl).2.1,rfl,rfl⟩⟩) (fun h=>absurd rfl h),by simpa [K6] using hx,?_,Ext.refl _ _⟩
     exact ⟨hm.glob,hm.box,hm.dom,fun u' e' k' hl=>hm.live u' e' k' (hkeep _ _ _ hl),fun u' v' b e1 k1 e2 k2 hu hv h1 h2=>hm.apart u' v' b e1 k1 e2 k2 (hkeep _ _ _ hu) (hkeep _ _ _ hv) h1 h2,hm.fin,hm.mp⟩
    ·have hzc:zv.cells.size=1:=by rw [← hzl,← D8 hzr];simp
     have hpos:0 < l.length:=List.length_pos_iff.2 hl
     refine A8q hm (i:=i) (zv:=zv) (es2:=K6 l) hsi hzc hlive hes (fun c hc=>by
      obtain ⟨b,_,rfl⟩:=List.mem_map.1 hc;rfl) (fun h=>hl (List.eq_nil_of_length_eq_zero (by rw [← hbl,h];rfl))) hx (news:=Lib.strCells ⟨l.toArray⟩) (by rw [Lib.strCells_length,hbl,Nat.mul_one];exact hsz) (B95 l) (fun t' h1 h2=>hK t' (.inr h1) h2) ?_ ?_ ?_
     ·rintro b c rfl hhb hroom hrc
      rw [hbl] at hroom ⊢
      rw [Lib.strCells_length,hsi,hsz,Nat.mul_one] at hrc
      have:=Lib.run_append_room_string (P:=P) w T' T2 ty e i hT hu hi hsi b es.length cap c hhb ⟨l.toArray⟩ hroom hrc
      rw [Lib.strCells_length,hsi,hsz,Nat.mul_one]
      exact this
     ·rintro a' os rfl hol hoc hlt
      rw [hbl] at hlt ⊢
      exact Lib.run_append_grow_string (P:=P) w T' T2 ty e i zv hT hu hi hzv a' es.length cap os hol hoc ⟨l.toArray⟩ hlt (by rw [hsz];omega) (growslice_fits hlt hby')
     ·rintro rfl rfl rfl
      rw [hbl]
      have:=run_append_nil_string (P:=P) w T' T2 ty e i zv hT hu hi hzv ⟨l.toArray⟩ hpos (by rw [hsz];omega) (by
       have:=hby';simp only [List.length_nil,Nat.zero_add] at this;rw [hsz];omega)
      rw [hsz] at this
      refine Eq.trans this ?_
      simp [Lib.strCells]
   ·exact h.elim
  ·exact h.elim
 ·rename_i T' T a len cap t2 es2
  split at h
  ·rename_i e he
   split at h
   ·rename_i k bs z hk hbs hz
    obtain ⟨hck,hn,hes2,hby,hK⟩:=B2.1 h
    simp only [Bool.and_eq_true,decide_eq_true_eq] at hck
    obtain ⟨⟨hTT,hk0⟩,hzl⟩:=hck
    subst hTT
    obtain ⟨⟨d,_⟩,i,hi,hsi⟩:=Q9 hk
    obtain ⟨i',zv,hi',hzv,hzr⟩:=A27 (G:=G) (w:=w) hz
    rw [hi] at hi';injection hi' with hi';subst hi'
    rw [X6] at hx;subst hx
    obtain ⟨a2,cap2,rfl,_,_,hels2,_⟩:=L5 hy
    obtain ⟨b2,o2,k2,rfl,hel2⟩:=hels2 hn
    obtain ⟨news,hnl,hnr,hnc⟩:=U9 es2 hel2
    have hk2:k2=k:=by
     cases es2 with
     | nil=>exact absurd rfl hn
     | cons c cs=>unfold D1 at hel2;exact hel2.1.symm.trans (hes2 c List.mem_cons_self).1
    subst hk2
    have hatom:es2.flatten.all A57=true:=by
     rw [List.all_eq_true]
     intro c hc
     obtain ⟨l,hl,hcl⟩:=List.mem_flatten.1 hc
     exact (List.all_eq_true.1 (hes2 l hl).2) c hcl
    exact C61 hm (N1 he) hi hsi (A59 hbs hi) hzv hzr hzl hn hby hnl hnr (fun j u hj=>by rw [Addr.add_lit];exact hnc j u hj) (A9q hnr hatom) hK
   ·exact h.elim
  ·exact h.elim
 ·exact h.elim
end
end Go.Ab
