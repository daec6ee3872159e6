/- Each operation, whatever it is, is as the abstract one says. -/
import Derived.Test.YtaammejliikieaaGreatDoorAb11
set_option maxRecDepth 10000
set_option maxHeartbeats 60000000
set_option linter.all false
namespace Go.Ab
open Go
section
variable {P:Program} {Γ:Nat→AV} {G:Gh} {w:World} {s:Sto}
theorem B17 {t:TypeId} {k:Nat} {z:List AV} (hz:Z0 P t=some z) (hl:z.length=k):∃ v,(zeroValue t).run P w=.ok v w∧v.cells.size=k∧B7 G w z v.cells.toList:=by
 obtain ⟨i,v,hi,hv,hr⟩:=A27 (G:=G) (w:=w) hz
 exact ⟨v,by simp [zeroValue,typeInfo,hi,hv],by rw [← hl,← D8 hr];simp,hr⟩
theorem B6n (k:Nat):∀ (ps:List (Nat × Value)) (j:Nat) (cells:Array Value),ps.map (·.1)=List.range' j ps.length→(∀ p ∈ ps,p.2.cells.size=k)→cells.size=(j+ps.length) * k →
  ∃ out,Instr.fill (fun i=>some (i * k,k)) cells ps=some out∧out.toList=cells.toList.take (j * k)++(ps.map fun p=>p.2.cells.toList).flatten
 | [],j,cells,_,_,hs=>⟨cells,rfl,by simp only [List.length_nil,Nat.add_zero] at hs;simp [List.take_of_length_le,hs]⟩
 | (i,v)::ps,j,cells,hi,hk,hs=>by
  simp only [List.map_cons,List.length_cons,List.range'_succ,List.cons.injEq] at hi
  obtain ⟨rfl,hi⟩:=hi
  have hv:=hk (i,v) List.mem_cons_self
  simp only at hv
  simp only [List.length_cons] at hs
  have hs':i * k+(k+ps.length * k)=cells.size:=by rw [hs,Nat.add_mul,Nat.add_mul];omega
  have hset:(v.cells.zipIdx.foldl (fun cs (x:Value × Nat)=>cs.setIfInBounds (i * k+x.2) x.1) cells).toList=cells.toList.take (i * k)++v.cells.toList++cells.toList.drop (i * k+k):=by
   rw [← Array.foldl_toList,Array.toList_zipIdx]
   have:=A73 v.cells.toList 0 (i * k) cells (by simp;omega)
   simp only [Nat.add_zero,Array.length_toList,hv] at this
   exact this
  have hsz':(v.cells.zipIdx.foldl (fun cs (x:Value × Nat)=>cs.setIfInBounds (i * k+x.2) x.1) cells).size=(i+1+ps.length) * k:=by
   rw [← Array.length_toList,hset]
   simp only [List.length_append,List.length_take,List.length_drop,Array.length_toList,hv]
   rw [Nat.add_mul,Nat.add_mul];omega
  obtain ⟨out,h1,h2⟩:=B6n k ps (i+1) _ hi (fun p hp=>hk p (List.mem_cons_of_mem _ hp)) hsz'
  refine ⟨out,?_,?_⟩
  ·simp only [Instr.fill]
   rw [if_neg (by simp [hv];omega)]
   exact h1
  ·rw [h2,hset]
   have hl:(cells.toList.take (i * k)).length=i * k:=by rw [List.length_take,Array.length_toList];omega
   rw [List.take_append_of_le_length (by
    rw [List.length_append,hl,Array.length_toList,hv,Nat.add_mul];omega)]
   rw [List.take_of_length_le (by rw [List.length_append,hl,Array.length_toList,hv,Nat.add_mul];omega)]
   simp
theorem B2c (hm:Mod Γ G s w) {T e:TypeId} {k:Nat} {z:List AV} {len:Nat} {cs:List AV} {ps:List (Nat × Value)} (he:L9 P T=some e) (hk:J9 P e=some k) (hz:Z0 P e=some z)
  (hzl:z.length=k) (hlen:len * k≤16777216) (hi:ps.map (·.1)=List.range len) (hr:B7 G w cs (ps.map (·.2))) (hcs:∀ c ∈ cs.map K7,c.length=k) :
  ∃ v w' G',(Instr.buildSlice T len ps.toArray).run P w=.ok v w'∧R G' w' (.slice 1 (cs.map K7)) v∧Mod Γ G' s w'∧Ext G w G' w':=by
 obtain ⟨_,i,hinfo,hsz⟩:=Q9 hk
 obtain ⟨zv,hzr,hzc,_⟩:=B17 (P:=P) (G:=G) (w:=w) hz hzl
 have hpl:ps.length=len:=by have:=congrArg List.length hi;simpa using this
 have hcl:cs.length=len:=by rw [← hpl];have:=D8 hr;simpa using this.symm
 have hvk:∀ {cs:List AV} {ps:List (Nat × Value)},B7 G w cs (ps.map (·.2))→(∀ c ∈ cs.map K7,c.length=k)→(∀ p ∈ ps,p.2.cells.size=k)∧B7 G w (cs.map K7).flatten (ps.map fun p=>p.2.cells.toList).flatten:=by
  intro cs
  induction cs with
  | nil =>
   intro ps h _
   have:ps=[]:=by simpa using B4.1 h
   subst this
   exact ⟨by simp,B4.2 rfl⟩
  | cons c cs ih =>
   intro ps h hl
   cases ps with
   | nil=>have:=D8 h;simp at this
   | cons p ps =>
    rw [List.map_cons] at h
    obtain ⟨u,us,hu,h1,h2⟩:=A9.1 h
    injection hu with hu1 hu2;subst hu1 hu2
    have hc:=A6b h1
    obtain ⟨k1,k2⟩:=ih h2 (fun x hx=>hl x (by simp only [List.map_cons];exact List.mem_cons_of_mem _ hx))
    refine ⟨?_,?_⟩
    ·intro q hq
     rcases List.mem_cons.1 hq with rfl|hq
     ·have:=D8 hc
      rw [hl (K7 c) (by simp)] at this
      simpa using this
     ·exact k1 q hq
    ·simp only [List.map_cons,List.flatten_cons]
     exact E4 hc k2
 obtain ⟨hvk1,hflat⟩:=hvk hr hcs
 have hrange:ps.map (·.1)=List.range' 0 ps.length:=by rw [hi,hpl,List.range_eq_range']
 obtain ⟨mm,X⟩:=Mod.row_new hm (.cells ((ps.map fun p=>p.2.cells.toList).flatten).toArray e)
 refine ⟨.slice (some ⟨w.heap.size,0,none⟩) len len,_,_,?_,?_,mm,X⟩
 ·have hfill:∀ cells:Array Value,cells.size=len * k→Instr.fill (fun i=>some (i * k,k)) cells ps=some ((ps.map fun p=>p.2.cells.toList).flatten).toArray:=by
   intro cells hcs
   obtain ⟨out,h1,h2⟩:=B6n k ps 0 cells hrange hvk1 (by rw [hpl,Nat.zero_add];exact hcs)
   rw [h1]
   congr 1
   apply Array.ext'
   rw [h2];simp
  have hif:¬ len * k > 2 ^ 24:=by simpa using hlen
  simp only [Instr.buildSlice,Sem.run_bind,B6 (N1 he),Result.andThen_ok,F3 hinfo,hsz,Sem.run_ite,if_neg hif]
  by_cases h0:len * k=0
  ·simp only [h0,if_true,Sem.run_pure,Result.andThen_ok]
   rw [hfill _ (by simp [h0])]
   simp only [newRow,Sem.run_bind,run_newObj,Result.andThen_ok,Sem.run_pure]
   rfl
  ·simp only [if_neg h0,hzr,Sem.run_pure,Result.andThen_ok]
   rw [hfill _ (by simp)]
   simp only [newRow,Sem.run_bind,run_newObj,Result.andThen_ok,Sem.run_pure]
   rfl
 ·have hl:(cs.map K7).length=len:=by rw [List.length_map,hcl]
  have:=B51 (G:=G.setKd w.heap.size .fixd) (w:=w.alloc (.cells ((ps.map fun p=>p.2.cells.toList).flatten).toArray e)) (es:=cs.map K7) (a:=some ⟨w.heap.size,0,none⟩) (cap:=len) hl (fun h=>by cases h)
   (fun _=>⟨_,_,k,rfl,?_⟩)
  ·rwa [hl] at this
  ·refine A1w _ _ hcs ?_
   refine A4a (us:=(ps.map fun p=>p.2.cells.toList).flatten) ?_ ?_ _ 0 (ps.map fun p=>p.2.cells.toList).flatten rfl (hflat.mono X _ _)
   ·intro j u hj
    have hat:=W1 w (.cells ((ps.map fun p=>p.2.cells.toList).flatten).toArray e)
    simp only [World.cell?,hat,Option.isSome_none,Bool.false_eq_true,if_false,List.getElem?_toArray]
    exact hj
   ·intro j _
    simp [Gh.good,Gh.setKd]
theorem B2l {T e:TypeId} {k bs:Nat} {z:List AV} {kl kc:IntKind} {n m:Int} (he:L9 P T=some e) (hk:J9 P e=some k) (hbs:A2o P e=some bs) (hz:Z0 P e=some z) (hzl:z.length=k)
  (h0:0≤n) (hnm:n≤m) (hm:m≤9223372036854775807) (hb:bs * m≤281474976710656) :
  ∃ vs:List Value,(Instr.makeSlice T (.int kl n) (.int kc m)).run P w=.ok (.slice (some ⟨w.heap.size,0,none⟩) n.toNat m.toNat) (w.alloc (.cells vs.toArray e))∧B7 G w (List.replicate m.toNat z).flatten vs:=by
 obtain ⟨_,i,hinfo,hsz⟩:=Q9 hk
 have hbi:=A59 hbs hinfo
 obtain ⟨i',zv,hi',hzv,hzrl⟩:=A27 (G:=G) (w:=w) hz
 rw [hinfo] at hi';injection hi' with hi';subst hi'
 have hzc:zv.cells.size=k:=by rw [← hzl,← D8 hzrl];simp
 refine ⟨(List.replicate m.toNat zv.cells.toList).flatten,?_,A0f hzrl _⟩
 rw [run_make w T e i zv (N1 he) hinfo hzv kl kc n m h0 hnm (by rw [hbi];exact hb) hm]
 congr 3
 apply Array.ext'
 apply List.ext_getElem?
 intro j
 rw [hsz]
 have hl:((List.replicate m.toNat zv.cells.toList).flatten).length=m.toNat * k:=by simp [hzc]
 rcases Nat.lt_or_ge j (m.toNat * k) with hj|hj
 ·have hkp:0 < k:=Nat.pos_of_ne_zero fun h=>by rw [h,Nat.mul_zero] at hj;omega
  rw [List.toList_toArray,S9 _ k (by simpa using hzc) _ _ hj]
  unfold madeCells
  simp only [Array.toList_map,List.getElem?_map,Array.toList_range,List.getElem?_range hj,Option.map_some,hzc]
  have hlt:j % k < zv.cells.size:=by rw [hzc];exact Nat.mod_lt _ hkp
  rw [getElem!_pos zv.cells (j % k) hlt]
  simp [hlt]
 ·rw [List.getElem?_eq_none (by rw [Array.length_toList,size_madeCells];exact hj),List.getElem?_eq_none (by rw [List.toList_toArray,hl];exact hj)]
theorem C5t {T:TypeId} {b:Nat} {l:List UInt8} {v:Value} {x z:AV} {es:List (List UInt8 × AV)} (hT:B69 P T=some z) (hm:Mod Γ G s w) (hb:s.mp b=some es) (hn:P0 l es=none) (hx:R G w x v) :
  ∃ w',(Instr.mapUpdate T (.map (some b)) (.string ⟨l.toArray⟩) v).run P w=.ok () w'∧Mod Γ G (s.setM b (es++[(l,x)])) w'∧Ext G w G w':=by
 obtain ⟨k,e,zv,hu,hks,_,_⟩:=C0p (G:=G) (w:=w) hT
 obtain ⟨_,ents,c,hh,h1,h2⟩:=hm.mp b es hb
 obtain ⟨r,r1,r2⟩:=A71 l ents.toList es 0 h1 h2
 rcases r2 with ⟨rfl,_⟩|⟨j,v,x,rfl,r2,r3⟩
 case inr=>rw [hn] at r2;cases r2
 have hobj:(getObj b:Sem Obj).run P w=.ok (.map ents c) w:=by simp [getObj,Sem.run,hh]
 have hck:(Instr.checkKey false 10000 k (.string ⟨l.toArray⟩)).run P w=.ok () w:=by
  unfold Instr.checkKey
  simp [B6 hks]
 have hfk:(Instr.findKey k (.string ⟨l.toArray⟩) ents.toList).run P w=.ok none w:=by
  unfold Instr.findKey
  simp only [Sem.run_bind,B6 hks,Result.andThen_ok,r1,Sem.run_pure]
 have hlt:b < w.heap.size:=(hm.mp b es hb).lt
 have hset:(setObj b (.map (ents.push { key:=.string ⟨l.toArray⟩,val:=v,born:=c }) (c+1)):Sem Unit).run P w=.ok () ({ w with heap:=w.heap.setIfInBounds b (.map (ents.push { key:=.string ⟨l.toArray⟩,val:=v,born:=c }) (c+1)) }):=by
  simp [setObj,Sem.run,hh]
 obtain ⟨mm,X⟩:=Mod.map_set (w':={ w with heap:=w.heap.setIfInBounds b (.map (ents.push { key:=.string ⟨l.toArray⟩,val:=v,born:=c }) (c+1)) }) (es':=es++[(l,x)]) (ents:=ents.push { key:=.string ⟨l.toArray⟩,val:=v,born:=c }) (c:=c+1) hm hb
  ⟨by simp [h1],by simp only [Array.toList_push,List.map_append,List.map_cons,List.map_nil];exact E4 h2 (A9.2 ⟨_,_,rfl,hx,B4.2 rfl⟩)⟩ rfl rfl rfl (by simp)
  (by simp [hlt]) (fun j hj=>by simp only [Array.getElem?_setIfInBounds];rw [if_neg (fun h=>hj h.symm)])
 refine ⟨_,?_,mm,X⟩
 unfold Instr.mapUpdate
 simp only [Sem.run_bind,B6 hu,Result.andThen_ok,hobj,hck,hfk,hset]
theorem C31 {fn:FuncId} (h:A6a P fn=true) (args:Array Value):(callFunc fn args).run P w=.ok (.enter fn args) w:=by
 unfold A6a at h
 split at h
 ·rename_i f hf
  simp only [Bool.and_eq_true,Bool.not_eq_true'] at h
  obtain ⟨b,hb⟩:=Option.isSome_iff_exists.1 h.1
  simp only [callFunc,Sem.run_bind,run_program,Result.andThen_ok,hf,h.2,Bool.false_eq_true,if_false,hb,Option.isNone_some,Sem.run_pure]
 ·cases h
theorem A56 {n:Nat} {e:Env} {a:Act} {o:Oper} {K:AV→Sto→Prop} (hm:Mod Γ G s w) (he:Y6 G w n e a) (hok:∀ x ∈ o.op.operands.toList,okX x=true)
  (h:D2 P Γ (evA Γ e) s o.op K) {next:Act→World→Prop} {Q:Exit→Act→World→Prop}
  (hn:∀ v r s' G' w',K r s'→R G' w' r v→Mod Γ G' s' w'→Ext G w G' w'→next (a.put o.dst v) w'):o.wp P a w next Q:=by
 have ev1:∀ x,okX x=true→R G w (evA Γ e x) (a.eval x):=fun x hx=>B4p hm he hx
 have plain:H6 P (evA Γ e) s o.op (fun v=>K v s)→o.wp P a w next Q:=fun h=>by
  obtain ⟨v,r,h1,h2,h3⟩:=C64 hm he hok h
  exact A00.wp (K:=K) ⟨_,w,v,r,s,G,h1,.inl rfl,h2,h3,hm,Ext.refl _ _⟩ hn
 obtain ⟨dst,op,ty,pos,aft,grd⟩:=o
 dsimp only at h hok hn plain
 cases op with
 | alloc T =>
  dsimp only [D2] at h
  split at h
  ·rename_i z hz
   obtain ⟨i,zv,hi,hzv,hzr⟩:=A27 (G:=G) (w:=w) hz
   have hzero:(zeroValue T).run P w=.ok zv w:=by simp [zeroValue,typeInfo,hi,hzv]
   obtain ⟨hm',hb⟩:=Mod.box_new hm (T:=T) hzr
   refine A00.wp (K:=K) ⟨.value (.pointer (some ⟨w.heap.size,0,none⟩)),_,_,_,_,G,?_,.inl rfl,h _ hb,N8.2 rfl,hm',Ext.alloc hm _⟩ hn
   simp [execOp,Instr.alloc,hzero,newVar,newRow]
  ·exact h.elim
 | box T x =>
  dsimp only [D2] at h
  rw [C8] at h
  have hx:=ev1 x (hok x (by simp [Op.operands]))
  obtain ⟨hm',hb⟩:=Mod.box_new hm (T:=T) (A6b hx)
  refine A00.wp (K:=K) ⟨.value (.pointer (some ⟨w.heap.size,0,none⟩)),_,_,_,_,G,?_,.inl rfl,h _ hb,N8.2 rfl,hm',Ext.alloc hm _⟩ hn
  simp [execOp,Instr.box,newVar,newRow]
 | store T x v =>
  dsimp only [D2] at h
  have hx:=ev1 x (hok x (by simp [Op.operands]))
  have hv:=ev1 v (hok v (by simp [Op.operands]))
  split at h
  ·rename_i b o hxv
   rw [hxv,N8] at hx
   obtain ⟨T',cs,hb,h⟩:=X8 h
   split at h
   ·rename_i n hs
    obtain ⟨h1,h2,h3,h⟩:=h
    rw [C8] at h
    obtain ⟨w',hrun,hm',X⟩:=B1x (P:=P) hm hb hs (A6b hv) h1 h2 h3
    refine A00.wp (K:=K) ⟨.skip,w',undef,_,_,G,?_,.inr ⟨rfl,rfl⟩,h,A2i,hm',X⟩ hn
    simp [execOp,hx,Instr.storeAt,Instr.sureAddr,hrun]
   ·exact h.elim
  ·exact h.elim
 | buildSlice T len parts =>
  dsimp only [D2] at h
  split at h
  ·rename_i el hel
   split at h
   ·rename_i k z hk hz
    obtain ⟨hlen,hzl,hi,hcs,h⟩:=h
    rw [A0c] at h
    have hr:B7 G w (parts.toList.map fun p=>evA Γ e p.2) ((parts.toList.map fun p=>(p.1,a.eval p.2)).map (·.2)):=by
     rw [List.map_map]
     exact Z1 (f:=fun p:Nat × Operand=>evA Γ e p.2) (g:=fun p:Nat × Operand=>a.eval p.2) _ fun p hp=>ev1 p.2 (hok p.2 (by simp [Op.operands];exact ⟨p.1,by simpa using hp⟩))
    have hcs':(parts.toList.map fun p=>evA Γ e p.2).map K7=parts.toList.map fun p=>K7 (evA Γ e p.2):=by rw [List.map_map];rfl
    obtain ⟨v,w',G',h1,h2,h3,h4⟩:=B2c (P:=P) hm (ps:=parts.toList.map fun p=>(p.1,a.eval p.2)) hel hk hz hzl hlen (by rw [List.map_map];exact hi) hr (by rw [hcs'];exact hcs)
    rw [hcs'] at h2
    refine A00.wp (K:=K) ⟨.value v,w',v,_,s,G',?_,.inl rfl,h,h2,h3,h4⟩ hn
    have e1:(parts.toList.map fun p=>(p.1,a.eval p.2)).toArray=parts.map fun (i,x)=>(i,a.eval x):=by
     rw [← Array.toList_map,Array.toArray_toList]
    rw [e1] at h1
    simp [execOp,h1]
   ·exact h.elim
  ·exact h.elim
 | makeMap T r =>
  dsimp only [D2] at h
  obtain ⟨hr,h1⟩:=B2.1 h
  rw [Bool.and_eq_true] at hr
  obtain rfl:=Option.isNone_iff_eq_none.1 hr.1
  obtain ⟨hm',_,hb⟩:=Mod.map_new hm
  refine A00.wp (K:=K) ⟨.value (.map (some w.heap.size)),_,_,_,_,G,?_,.inl rfl,h1 _ hb,A5f.2 rfl,hm',Ext.alloc hm _⟩ hn
  rfl
 | mapUpdate T m k x =>
  dsimp only [D2] at h
  obtain ⟨hz,h⟩:=B2.1 h
  obtain ⟨z,hz⟩:=Option.isSome_iff_exists.1 hz
  have hmv:=ev1 m (hok m (by simp [Op.operands]))
  have hk:=ev1 k (hok k (by simp [Op.operands]))
  have hx:=ev1 x (hok x (by simp [Op.operands]))
  split at h
  ·rename_i b l hme hke
   rw [hme,A5f] at hmv
   rw [hke,M3] at hk
   obtain ⟨es,hes,hf,h⟩:=A6r h
   rw [F8] at h
   obtain ⟨w',hrun,hm',X⟩:=C5t hz hm hes hf hx
   refine A00.wp (K:=K) ⟨.skip,w',undef,_,_,G,?_,.inr ⟨rfl,rfl⟩,h,A2i,hm',X⟩ hn
   simp [execOp,hmv,hk,hrun]
  ·exact h.elim
 | makeSlice T l c =>
  dsimp only [D2] at h
  have hl:=ev1 l (hok l (by simp [Op.operands]))
  have hc:=ev1 c (hok c (by simp [Op.operands]))
  split at h
  ·rename_i n m hln hcm
   rw [hln,F5] at hl
   rw [hcm,F5] at hc
   split at h
   ·rename_i el hel
    split at h
    ·rename_i k bs z hk hbs hz
     obtain ⟨h0,hnm,hm',hb,hzl,h⟩:=h
     obtain ⟨vs,h1,h2⟩:=B2l (P:=P) (G:=G) (w:=w) (kl:=.i64) (kc:=.i64) hel hk hbs hz hzl h0 hnm hm' hb
     obtain ⟨hmm,hbx⟩:=Mod.box_new hm (T:=el) h2
     refine A00.wp (K:=K) ⟨.value _,_,_,_,_,G,?_,.inl rfl,h _ hbx,X6.2 rfl,hmm,Ext.alloc hm _⟩ hn
     simp [execOp,hl,hc,h1]
    ·exact h.elim
   ·exact h.elim
  ·exact h.elim
 | call c =>
  obtain ⟨callee,args,ts⟩:=c
  cases callee with
  | value f =>
   dsimp only [D2] at h
   have hf:=ev1 f (hok f (by simp [Op.operands,Call.operands]))
   have hargs:B7 G w (args.toList.map (evA Γ e)) (args.map a.eval).toList:=by
    rw [Array.toList_map]
    exact Z1 _ fun x hx=>ev1 x (hok x (by simp [Op.operands,Call.operands] at hx ⊢;exact .inr hx))
   split at h
   ·rename_i fn fs cs hfv
    obtain ⟨hcall,h⟩:=B2.1 h
    rw [C8] at h
    rw [hfv] at hf
    obtain ⟨us,vs,hf,hus,hvs⟩:=A5e.1 hf
    have hall:B7 G w (fs++args.toList.map (evA Γ e)++cs) (us++args.map a.eval++vs).toList:=by
     simp only [Array.toList_append]
     exact E4 (E4 hus hargs) hvs
    have hrun:(execOp a.eval ⟨dst,.call ⟨.value f,args,ts⟩,ty,pos,aft,grd⟩).run P w=.ok (.enter fn (us++args.map a.eval++vs)) w:=by
     simp [execOp,resolve,hf,Deferred.ofValue,invoke,C31 hcall]
    unfold Oper.wp
    rw [hrun]
    have hc:=h.run G w _ hm hall
    simp only [Array.toArray_toList] at hc
    show Calls P fn (us++args.map a.eval++vs) w _
    refine hc.mono ?_
    rintro en w' ⟨v,av,s',G',rfl,hK,hR,hm',X⟩
    exact hn v av s' G' w' hK hR hm' X
   ·exact h.elim
  | invoke r m=>exact plain h
  | builtin b =>
   by_cases hb:b=.append
   ·subst hb
    dsimp only [D2] at h
    split at h
    ·rename_i x y hargs
     have hx:=ev1 x (hok x (by simp [Op.operands,Call.operands,hargs]))
     have hy:=ev1 y (hok y (by simp [Op.operands,Call.operands,hargs]))
     obtain ⟨z,w',r,s',G',h1,h2,h3,h4,h5⟩:=B8c (P:=P) hm h ty hx hy
     refine A00.wp (K:=K) ⟨.value z,w',z,r,s',G',?_,.inl rfl,h2,h3,h4,h5⟩ hn
     have ha:args = #[x,y]:=by apply Array.ext';rw [hargs]
     subst ha
     rw [Array.toArray_toList] at h1
     simp only [execOp,resolve,Sem.run_bind,Sem.run_pure,Result.andThen_ok,invoke]
     rw [show #[x,y].map a.eval = #[a.eval x,a.eval y] by simp]
     refine Eq.trans (congrArg (fun x:Sem Next=>x.run P w) (show _=(do pure (.value (← Builtin.append_ ts ty #[a.eval x,a.eval y])):Sem Next) from rfl)) ?_
     simp [h1]
    ·exact h.elim
   ·refine plain ?_
    cases b<;>first|exact absurd rfl hb|exact h
 | _=>exact plain h
end
end Go.Ab
