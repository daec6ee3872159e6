/- Structs and arrays out of their parts; all operations that leave the store as it is. -/
import Derived.Test.YtaammejliikieaaGreatDoorAb8
set_option maxRecDepth 10000
set_option maxHeartbeats 60000000
set_option linter.all false
namespace Go.Ab
open Go
section
variable {P:Program} {Γ:Nat→AV} {G:Gh} {w:World}
theorem A6b {c:AV} {v:Value} (h:R G w c v):B7 G w (K7 c) v.cells.toList:=by
 have one:∀ u:Value,R G w c u→B7 G w [c] [u]:=fun u hu=>A9.2 ⟨u,[],rfl,hu,B4.2 rfl⟩
 cases c with
 | agg cs=>obtain ⟨us,rfl,hr⟩:=A1x.1 h;exact hr
 | int=>rw [F5] at h;subst h;exact one _ (F5.2 rfl)
 | bool=>rw [F7] at h;subst h;exact one _ (F7.2 rfl)
 | str=>rw [M3] at h;subst h;exact one _ (M3.2 rfl)
 | ptr=>rw [N8] at h;subst h;exact one _ (N8.2 rfl)
 | raw=>rw [X6] at h;subst h;exact one _ (X6.2 rfl)
 | nilIface=>rw [L6] at h;subst h;exact one _ (L6.2 rfl)
 | nilFunc=>rw [A4b] at h;subst h;exact one _ (A4b.2 rfl)
 | cptr cs=>have h':=h;obtain ⟨b,o,rfl,_⟩:=M4.1 h;exact one _ h'
 | slice t es=>have h':=h;obtain ⟨a,cap,rfl,_⟩:=L5 h;exact one _ h'
 | iface t x=>have h':=h;obtain ⟨u,rfl,_⟩:=M9.1 h;exact one _ h'
 | func fn fs cs=>have h':=h;obtain ⟨u,x,rfl,_⟩:=A5e.1 h;exact one _ h'
 | tuple vs=>have h':=h;obtain ⟨u,rfl,_⟩:=A0k.1 h;exact one _ h'
 | cmap es=>have h':=h;obtain ⟨b,ents,c,rfl,_⟩:=B8b.1 h;exact one _ h'
 | mref a=>rw [A5f] at h;subst h;exact one _ (A5f.2 rfl)
theorem A73:∀ (vs:List Value) (k off:Nat) (cells:Array Value),off+k+vs.length≤cells.size →
  ((vs.zipIdx k).foldl (fun cs (x:Value × Nat)=>cs.setIfInBounds (off+x.2) x.1) cells).toList=cells.toList.take (off+k)++vs++cells.toList.drop (off+k+vs.length)
 | [],k,off,cells,_=>by simp
 | v::vs,k,off,cells,h=>by
  simp only [List.zipIdx_cons,List.foldl_cons]
  rw [A73 vs (k+1) off _ (by simp only [Array.size_setIfInBounds,List.length_cons] at h ⊢;omega)]
  simp only [List.length_cons] at h
  have hn:off+k < cells.toList.length:=by simp;omega
  have hl:(cells.toList.take (off+k)).length=off+k:=by rw [List.length_take];omega
  simp only [Array.toList_setIfInBounds,List.set_eq_take_append_cons_drop,if_pos hn]
  generalize cells.toList.take (off+k)=l1 at hl ⊢
  rw [List.take_append,List.drop_append,hl,List.take_of_length_le (l:=l1) (by omega),List.drop_of_length_le (l:=l1) (by omega)]
  rw [show off+(k+1) - (off+k)=1 by omega,show off+(k+1)+vs.length - (off+k)=vs.length+1 by omega]
  simp only [List.take_succ_cons,List.take_zero,List.drop_succ_cons,List.drop_drop,List.nil_append,List.append_assoc,List.singleton_append,List.length_cons]
  rw [show off+k+1+vs.length=off+k+(vs.length+1) by omega]
theorem B4t {t:TypeId}:∀ (parts:List (Nat × AV)) {ps:List (Nat × Value)} {cs:List AV} {cells:Array Value} {K:List AV→Prop} {f:Nat→Option (Nat × Nat)},A4p P t=some f →
  A42 P t cs parts K→B7 G w cs cells.toList→(ps.map (·.1)=parts.map (·.1))→B7 G w (parts.map (·.2)) (ps.map (·.2)) →
  ∃ out ds,Instr.fill f cells ps=some out∧K ds∧B7 G w ds out.toList
 | [],ps,cs,cells,K,f,_,h,hr,hi,_=>by
  have:ps=[]:=by simpa using hi
  subst this
  exact ⟨cells,cs,rfl,by simpa only [A42,C8] using h,hr⟩
 | (i,c)::parts,ps,cs,cells,K,f,hf,h,hr,hi,hv=>by
  cases ps with
  | nil=>simp at hi
  | cons p ps =>
   obtain ⟨j,v⟩:=p
   simp only [List.map_cons,List.cons.injEq] at hi
   obtain ⟨hj,hi⟩:=hi
   subst hj
   simp only [List.map_cons] at hv
   obtain ⟨u,us,hu,hvc,hvs⟩:=A9.1 hv
   simp only [List.cons.injEq] at hu
   obtain ⟨rfl,rfl⟩:=hu
   simp only [A42] at h
   unfold B5l at h
   rw [hf] at h
   simp only [Option.bind_some] at h
   cases hp:f j with
   | none=>rw [hp] at h;exact h.elim
   | some x =>
    obtain ⟨off,n⟩:=x
    rw [hp] at h
    obtain ⟨hn,hle,h⟩:=h
    have hc:=A6b hvc
    have hsz:v.cells.size=n:=by rw [← hn,← D8 hc];simp
    have hcs:cells.size=cs.length:=by rw [← D8 hr];simp
    have hset:(v.cells.zipIdx.foldl (fun cs (x:Value × Nat)=>cs.setIfInBounds (off+x.2) x.1) cells).toList=cells.toList.take off++v.cells.toList++cells.toList.drop (off+n):=by
     rw [← Array.foldl_toList,Array.toList_zipIdx]
     have:=A73 v.cells.toList 0 off cells (by simp;omega)
     simp only [Nat.add_zero,Array.length_toList,hsz] at this
     exact this
    have hr':B7 G w (cs.take off++K7 c++cs.drop (off+n)) (v.cells.zipIdx.foldl (fun cs (x:Value × Nat)=>cs.setIfInBounds (off+x.2) x.1) cells).toList:=by
     rw [hset]
     exact E4 (E4 (Q3 off hr) hc) (Q2 _ hr)
    obtain ⟨out,ds,h1,h2,h3⟩:=B4t parts hf h hr' hi hvs
    refine ⟨out,ds,?_,h2,h3⟩
    simp only [Instr.fill,hp]
    rw [if_neg (by simp;omega)]
    exact h1
theorem C0o {α β:Type} (f:α→Sem β) (g:α→β):∀ (l:List α),(∀ x ∈ l,(f x).run P w=.ok (g x) w)→(l.mapM f).run P w=.ok (l.map g) w
 | [],_=>by simp
 | x::l,h=>by
  have h1:=h x List.mem_cons_self
  have h2:=C0o f g l fun y hy=>h y (List.mem_cons_of_mem _ hy)
  simp [List.mapM_cons,h1,h2]
theorem A27 {t:TypeId} {z:List AV} (h:Z0 P t=some z):∃ i v,P.info? t=some i∧i.zero=some v∧B7 G w z v.cells.toList:=by
 unfold Z0 at h
 split at h
 ·rename_i i hi
  split at h
  ·rename_i v hv
   exact ⟨i,v,hi,hv,A2l h⟩
  ·cases h
 ·cases h
theorem C09 {t:TypeId} {parts:List (Nat × AV)} {ps:List (Nat × Value)} {K:AV→Prop} (h:A9x P t parts K) (hi:ps.map (·.1)=parts.map (·.1))
  (hr:B7 G w (parts.map (·.2)) (ps.map (·.2))):B91 P G w (Instr.build t ps.toArray) K:=by
 obtain ⟨hb,h⟩:=B2.1 h
 cases hz:Z0 P t with
 | none=>rw [hz] at h;exact h.elim
 | some z =>
  rw [hz] at h
  obtain ⟨i,v,hinfo,hzv,hzr⟩:=A27 (G:=G) (w:=w) hz
  have hzero:(zeroValue t).run P w=.ok v w:=by simp [zeroValue,typeInfo,hinfo,hzv]
  unfold B8q at hb
  split at hb
  ·rename_i fs hu
   have hinf:∀ f ∈ fs.toList,∃ x,P.info? f.type=some x:=by
    intro f hf
    rw [List.all_eq_true] at hb
    exact Option.isSome_iff_exists.1 (hb f hf)
   have hp:A4p P t=some fun i=>match fs[i]? with|some f=>(P.info? f.type).map fun x=>(f.offset,x.size)|none=>none:=by
    unfold A4p;simp only [hu];rfl
   obtain ⟨out,ds,h1,h2,h3⟩:=B4t parts hp h hzr hi hr
   have hm:(fs.mapM fun (f:Field)=>do pure (f.offset,← sizeOf f.type)).run P w=.ok (fs.map fun (f:Field)=>(f.offset,((P.info? f.type).map (·.size)).getD 0)) w:=by
    rw [← Array.toArray_toList (xs:=fs),List.mapM_toArray,Sem.run_map]
    rw [C0o _ (fun f:Field=>(f.offset,((P.info? f.type).map (·.size)).getD 0)) fs.toList]
    ·simp only [Result.andThen_ok];rw [← Array.toList_map,Array.toArray_toList]
    ·intro f hf
     obtain ⟨x,hx⟩:=hinf f hf
     simp [F3 hx,hx]
   refine ⟨.agg out,_,?_,h2,A1x.2 ⟨_,rfl,h3⟩⟩
   have hfe:Instr.fill (fun i=>(fs.map fun (f:Field)=>(f.offset,((P.info? f.type).map (·.size)).getD 0))[i]?) v.cells ps=some out:=by
    rw [← h1]
    congr 1
    funext i
    simp only [Array.getElem?_map]
    cases hfi:fs[i]? with
    | none=>rfl
    | some f =>
     have hmem:f ∈ fs.toList:=by
      rw [Array.getElem?_eq_some_iff] at hfi
      obtain ⟨hlt,rfl⟩:=hfi
      exact Array.getElem_mem_toList hlt
     obtain ⟨x,hx⟩:=hinf f hmem
     simp [hx]
   simp only [Instr.build,Sem.run_bind,hzero,B6 hu,Result.andThen_ok,hm]
   simp only [hfe,Sem.run_pure]
  ·rename_i n e hu
   obtain ⟨x,hx⟩:=Option.isSome_iff_exists.1 hb
   have hp:A4p P t=some fun i=>some (i * x.size,x.size):=by
    unfold A4p;rw [hu];simp [hx]
   obtain ⟨out,ds,h1,h2,h3⟩:=B4t parts hp h hzr hi hr
   refine ⟨.agg out,_,?_,h2,A1x.2 ⟨_,rfl,h3⟩⟩
   simp only [Instr.build,Sem.run_bind,hzero,B6 hu,Result.andThen_ok,F3 hx,h1,Sem.run_pure]
  ·cases hb
theorem C21 {t:TypeId} (h:P.underlying t=some .string) (ty:TypeId) (l:List UInt8):(Builtin.len_ #[t] ty #[.string ⟨l.toArray⟩]).run P w=.ok (.int .i64 l.length) w:=by
 have:=run_len_string (P:=P) w t ty ⟨l.toArray⟩ h
 rw [this];simp [goInt,ByteArray.size_data.symm]
theorem B1n {t e:TypeId} (h:P.underlying t=some (.slice e)) (ty:TypeId) (a:Option Addr) (n c:Nat):(Builtin.len_ #[t] ty #[.slice a n c]).run P w=.ok (.int .i64 n) w:=by
 unfold Builtin.len_
 simp [B6 h,goInt]
theorem B9q {t e:TypeId} (h:P.underlying t=some (.slice e)) (ty:TypeId) (a:Option Addr) (n c:Nat):(Builtin.cap_ #[t] ty #[.slice a n c]).run P w=.ok (.int .i64 c) w:=by
 unfold Builtin.cap_
 simp [B6 h,goInt]
theorem C5d {t:Bool} {x y:AV} {K:AV→Prop} (h:B7h t x y K):K (if t then x else y):=by
 unfold B7h at h
 split at h
 ·cases t<;>exact h
 ·cases t
  ·have h:frc y K:=h
   rw [F8] at h;exact h
  ·have h:frc x K:=h
   rw [F8] at h;exact h
theorem B6p (l:List UInt8):∀ (ents:List MapEntry) (es:List (List UInt8 × Int)) (i:Nat),ents.map (fun e=>(e.key,e.val))=es.map (fun x=>(Value.string ⟨x.1.toArray⟩,Value.int .i64 x.2)) →
  ∃ r,Instr.findNow .string (.string ⟨l.toArray⟩) ents i=some r∧((r=none∧B9g l es=0)∨∃ j,r=some (j,.int .i64 (B9g l es)))
 | [],es,i,h=>by
  cases es with
  | nil=>exact ⟨none,rfl,.inl ⟨rfl,rfl⟩⟩
  | cons x es=>simp at h
 | e::ents,es,i,h=>by
  cases es with
  | nil=>simp at h
  | cons x es =>
   simp only [List.map_cons,List.cons.injEq,Prod.mk.injEq] at h
   obtain ⟨⟨h1,h2⟩,h3⟩:=h
   have hbeq:∀ a b:ByteArray,(a == b)=true↔a=b:=fun a b=>by
    constructor
    ·intro h
     cases a;cases b
     exact congrArg ByteArray.mk (eq_of_beq h)
    ·rintro rfl
     cases a
     exact beq_self_eq_true (_:Array UInt8)
   unfold Instr.findNow
   rw [h1]
   by_cases hl:l=x.1
   ·have hb:Instr.sameNow .string (.string ⟨l.toArray⟩) (.string ⟨x.1.toArray⟩)=some true:=congrArg some ((hbeq _ _).2 (by rw [hl]))
    rw [hb]
    exact ⟨some (i,e.val),rfl,.inr ⟨i,by rw [h2,B9g,if_pos hl]⟩⟩
   ·have hb:Instr.sameNow .string (.string ⟨l.toArray⟩) (.string ⟨x.1.toArray⟩)=some false:=by
     refine congrArg some ?_
     rw [Bool.eq_false_iff]
     intro hh
     have hh:=(hbeq _ _).1 hh
     injection hh with hh
     exact hl (by simpa using congrArg Array.toList hh)
    rw [hb]
    obtain ⟨r,r1,r2⟩:=B6p l ents es (i+1) h3
    exact ⟨r,r1,by rw [B9g,if_neg hl];exact r2⟩
theorem C2a {t:TypeId} {l:List UInt8} {es:List (List UInt8 × Int)} {v:Value} (ht:C93 P t=true) (hv:R G w (.cmap es) v) :
  (Instr.lookup t v (.string ⟨l.toArray⟩) false).run P w=.ok (.int .i64 (B9g l es)) w:=by
 obtain ⟨b,ents,c,rfl,_,hh,he⟩:=B8b.1 hv
 unfold C93 at ht
 split at ht
 ·rename_i k e hu
  simp only [Bool.and_eq_true] at ht
  obtain ⟨hk,he2⟩:=ht
  have hks:P.underlying k=some .string:=by
   rcases Z8 (eq_of_beq hk) with ⟨h0,_⟩|⟨_,hi⟩|⟨h0,_⟩
   ·omega
   ·exact hi
   ·omega
  split at he2
  ·rename_i i hue hie
   split at he2
   ·rename_i hz
    obtain ⟨r,r1,r2⟩:=B6p l ents.toList es 0 he
    have hobj:(getObj b:Sem Obj).run P w=.ok (.map ents c) w:=by simp [getObj,Sem.run,hh]
    have hck:∀ em,(Instr.checkKey em 10000 k (.string ⟨l.toArray⟩)).run P w=.ok () w:=fun em=>by
     unfold Instr.checkKey
     simp [B6 hks]
    have hfk:(Instr.findKey k (.string ⟨l.toArray⟩) ents.toList).run P w=.ok r w:=by
     unfold Instr.findKey
     simp only [Sem.run_bind,B6 hks,Result.andThen_ok,r1,Sem.run_pure]
    unfold Instr.lookup
    simp only [Sem.run_bind,B6 hu,Result.andThen_ok,hobj,Sem.run_pure,hck,hfk]
    rcases r2 with ⟨rfl,r2⟩|⟨j,rfl⟩
    ·have hzv:(zeroValue e).run P w=.ok (.int .i64 0) w:=by simp [zeroValue,typeInfo,hie,hz]
     simp [hzv,r2]
    ·simp
   ·cases he2
  ·cases he2
 ·cases ht
theorem A71 (l:List UInt8):∀ (ents:List MapEntry) (es:List (List UInt8 × AV)) (i:Nat),ents.map (·.key)=es.map (fun x=>Value.string ⟨x.1.toArray⟩)→B7 G w (es.map (·.2)) (ents.map (·.val)) →
  ∃ r,Instr.findNow .string (.string ⟨l.toArray⟩) ents i=some r∧((r=none∧P0 l es=none)∨∃ j v x,r=some (j,v)∧P0 l es=some x∧R G w x v)
 | [],es,i,h,_=>by
  cases es with
  | nil=>exact ⟨none,rfl,.inl ⟨rfl,rfl⟩⟩
  | cons x es=>simp at h
 | e::ents,es,i,h,hr=>by
  cases es with
  | nil=>simp at h
  | cons x es =>
   simp only [List.map_cons,List.cons.injEq] at h
   obtain ⟨h1,h3⟩:=h
   rw [List.map_cons,List.map_cons] at hr
   obtain ⟨u,us,hu,hx,hr⟩:=A9.1 hr
   injection hu with hu1 hu2
   subst hu1 hu2
   have hbeq:∀ a b:ByteArray,(a == b)=true↔a=b:=fun a b=>by
    constructor
    ·intro h
     cases a;cases b
     exact congrArg ByteArray.mk (eq_of_beq h)
    ·rintro rfl
     cases a
     exact beq_self_eq_true (_:Array UInt8)
   unfold Instr.findNow
   rw [h1]
   by_cases hl:l=x.1
   ·have hb:Instr.sameNow .string (.string ⟨l.toArray⟩) (.string ⟨x.1.toArray⟩)=some true:=congrArg some ((hbeq _ _).2 (by rw [hl]))
    rw [hb]
    exact ⟨some (i,e.val),rfl,.inr ⟨i,e.val,x.2,rfl,by rw [P0,if_pos hl],hx⟩⟩
   ·have hb:Instr.sameNow .string (.string ⟨l.toArray⟩) (.string ⟨x.1.toArray⟩)=some false:=by
     refine congrArg some ?_
     rw [Bool.eq_false_iff]
     intro hh
     have hh:=(hbeq _ _).1 hh
     injection hh with hh
     exact hl (by simpa using congrArg Array.toList hh)
    rw [hb]
    obtain ⟨r,r1,r2⟩:=A71 l ents es (i+1) h3 hr
    exact ⟨r,r1,by rw [P0,if_neg hl];exact r2⟩
theorem C0p {t:TypeId} {z:AV} (h:B69 P t=some z):∃ k e v,P.underlying t=some (.map k e)∧P.underlying k=some .string∧(zeroValue e:Sem Value).run P w=.ok v w∧R G w z v:=by
 unfold B69 at h
 split at h
 ·rename_i k e hu
  split at h
  ·rename_i i hk hi
   split at h
   ·rename_i v hv
    have hks:P.underlying k=some .string:=by
     rcases Z8 hk with ⟨h0,_⟩|⟨_,hi⟩|⟨h0,_⟩
     ·omega
     ·exact hi
     ·omega
    exact ⟨k,e,v,hu,hks,by simp [zeroValue,typeInfo,hi,hv],B0b h⟩
   ·cases h
  ·cases h
 ·cases h
theorem B9b {t:TypeId} {b:Nat} {l:List UInt8} {es:List (List UInt8 × AV)} {z:AV} {ok:Bool} (hz:B69 P t=some z) (hm:A50 G w b es) :
  (∃ v x,P0 l es=some x∧R G w x v∧(Instr.lookup t (.map (some b)) (.string ⟨l.toArray⟩) ok).run P w=.ok (if ok then .tuple #[v,.bool true] else v) w) ∨
  (∃ v,P0 l es=none∧R G w z v∧(Instr.lookup t (.map (some b)) (.string ⟨l.toArray⟩) ok).run P w=.ok (if ok then .tuple #[v,.bool false] else v) w):=by
 obtain ⟨k,e,zv,hu,hks,hzv,hzr⟩:=C0p (G:=G) (w:=w) hz
 obtain ⟨_,ents,c,hh,h1,h2⟩:=hm
 obtain ⟨r,r1,r2⟩:=A71 l ents.toList es 0 h1 h2
 have hobj:(getObj b:Sem Obj).run P w=.ok (.map ents c) w:=by simp [getObj,Sem.run,hh]
 have hck:∀ em,(Instr.checkKey em 10000 k (.string ⟨l.toArray⟩)).run P w=.ok () w:=fun em=>by
  unfold Instr.checkKey
  simp [B6 hks]
 have hfk:(Instr.findKey k (.string ⟨l.toArray⟩) ents.toList).run P w=.ok r w:=by
  unfold Instr.findKey
  simp only [Sem.run_bind,B6 hks,Result.andThen_ok,r1,Sem.run_pure]
 unfold Instr.lookup
 simp only [Sem.run_bind,B6 hu,Result.andThen_ok,hobj,Sem.run_pure,hck,hfk]
 rcases r2 with ⟨rfl,r2⟩|⟨j,v,x,rfl,r2,r3⟩
 ·exact .inr ⟨zv,r2,hzr,by simp [hzv]⟩
 ·exact .inl ⟨v,x,r2,r3,by simp⟩
theorem C64 {s:Sto} {n:Nat} {e:Env} {a:Act} {o:Oper} {K:AV→Prop} (hm:Mod Γ G s w) (he:Y6 G w n e a) (hok:∀ x ∈ o.op.operands.toList,okX x=true)
  (h:H6 P (evA Γ e) s o.op K):∃ v r,(execOp a.eval o).run P w=.ok (.value v) w∧K r∧R G w r v:=by
 obtain ⟨dst,op,ty,pos,aft,grd⟩:=o
 simp only at h hok
 have ev1:∀ x,okX x=true→R G w (evA Γ e x) (a.eval x):=fun x hx=>B4p hm he hx
 cases op<;>dsimp only [H6] at h<;>dsimp only [Op.operands] at hok<;>try exact h.elim
 case move x=>rw [F8] at h;exact ⟨_,_,rfl,h,ev1 x (hok x (by simp))⟩
 case assign x=>rw [F8] at h;exact ⟨_,_,rfl,h,ev1 x (hok x (by simp))⟩
 case pick c x y =>
  have hc:=ev1 c (hok c (by simp))
  cases hcv:evA Γ e c<;>rw [hcv] at h hc<;>try exact h.elim
  rename_i t
  rw [F7] at hc
  have h:K (if t then evA Γ e x else evA Γ e y):=C5d h
  refine ⟨if t then a.eval x else a.eval y,_,?_,h,?_⟩
  ·simp [execOp,hc,asBool]
  ·cases t
   ·exact ev1 y (hok y (by simp))
   ·exact ev1 x (hok x (by simp))
 case binOp op t x y yt =>
  replace h:A55 P op t y (C1n x || C1n y) (evA Γ e x) (evA Γ e y) K:=h
  unfold A55 at h
  split at h
  ·rename_i b hb
   obtain ⟨ho,hy,hu⟩:=B9i hb
   obtain ⟨ht,hk⟩:=B2.1 h
   obtain ⟨et,hst⟩:=Option.isSome_iff_exists.1 ht
   have hun:=N1 hst
   have ex:=ev1 x (hok x (by simp))
   obtain ⟨a1,n1,c1,hx1⟩:∃ a1 n1 c1,a.eval x=.slice (some a1) n1 c1:=by
    revert ex hu
    generalize evA Γ e x=u
    intro hu ex
    cases u<;>try (exfalso;cases hu;done)
    ·rename_i tk es
     cases es with
     | nil=>exact absurd hu Bool.false_ne_true
     | cons c es =>
      obtain ⟨a,cap,hv,_,_,hne,_⟩:=L5 ex
      obtain ⟨bb,o,k,rfl,_⟩:=hne (by simp)
      exact ⟨_,_,_,hv⟩
    ·rename_i ad n2 c2
     cases ad with
     | none=>exact absurd hu Bool.false_ne_true
     | some ad=>exact ⟨_,_,_,X6.1 ex⟩
   obtain ⟨n2,c2,hy1⟩:∃ n2 c2,y=.const (.slice none n2 c2):=by
    revert hy
    unfold C41
    split
    ·intro _;exact ⟨_,_,rfl⟩
    ·intro hh;cases hh
   subst hy1
   have hyv:a.eval (.const (.slice none n2 c2))=.slice none n2 c2:=rfl
   have hg:∀ o:BinOp,(eqGuard o t x (.const (.slice none n2 c2)) (.slice (some a1) n1 c1) (.slice none n2 c2)).run P w=.ok () w:=fun o=>by
    unfold eqGuard
    cases o<;>rfl
   have he:(Op.equalIn 10000 t (.slice (some a1) n1 c1) (.slice none n2 c2)).run P w=.ok false w:=by
    exact B1m 9999 hun
   rcases ho with ⟨rfl,rfl⟩|⟨rfl,rfl⟩
   ·refine ⟨_,_,?_,hk,F7.2 rfl⟩
    simp [execOp,hx1,hyv,hg,binOp,Op.equal,Op.maxDepth,he]
   ·refine ⟨_,_,?_,hk,F7.2 rfl⟩
    simp [execOp,hx1,hyv,hg,binOp,Op.equal,Op.maxDepth,he]
  rcases B19 h with ⟨hx,hy,hc,ht,ho⟩|h
  ·have ex:=ev1 x (hok x (by simp))
   have ey:=ev1 y (hok y (by simp))
   rw [hx,L6] at ex
   rw [hy,L6] at ey
   obtain ⟨ms,hu⟩:=A5m ht
   have hg:∀ o:BinOp,(eqGuard o t x y .nilIface .nilIface).run P w=.ok () w:=fun o=>by
    unfold eqGuard
    rcases Bool.or_eq_true _ _ |>.mp hc with hc|hc
    ·cases x<;>first|(cases o<;>rfl)|exact absurd hc (by simp [C1n])
    ·cases y<;>first|(cases o<;>cases x<;>rfl)|exact absurd hc (by simp [C1n])
   have he:(Op.equalIn 10000 t .nilIface .nilIface).run P w=.ok true w:=A8h 9999 hu
   rcases ho with ⟨rfl,hk⟩|⟨rfl,hk⟩
   ·refine ⟨_,_,?_,hk,F7.2 rfl⟩
    simp [execOp,ex,ey,hg,binOp,Op.equal,Op.maxDepth,he]
   ·refine ⟨_,_,?_,hk,F7.2 rfl⟩
    simp [execOp,ex,ey,hg,binOp,Op.equal,Op.maxDepth,he]
  obtain ⟨z,r,⟨h1,h2⟩,hk,hr⟩:=C08 h (ev1 x (hok x (by simp))) (ev1 y (hok y (by simp)))
  refine ⟨z,r,?_,hk,hr⟩
  unfold J1 at h1
  simp [execOp,h2,h1]
 case unOp op t x =>
  obtain ⟨z,r,h1,hk,hr⟩:=C9h (P:=P) h (ev1 x (hok x (by simp)))
  refine ⟨z,r,?_,hk,hr⟩
  unfold J1 at h1
  simp [execOp,h1]
 case convert src dst x =>
  obtain ⟨z,r,h1,hk,hr⟩:=C3t hm h (ev1 x (hok x (by simp)))
  exact ⟨z,r,by simp [execOp,h1],hk,hr⟩
 case makeInterface t x =>
  obtain ⟨ht,h⟩:=B2.1 h
  rw [F8] at h
  obtain ⟨d,hu,hd⟩:=B7a (eq_of_beq ht)
  refine ⟨_,_,?_,h,M9.2 ⟨_,rfl,ev1 x (hok x (by simp))⟩⟩
  have:(Instr.makeInterface t (a.eval x)).run P w=.ok (.iface t (a.eval x)) w:=by
   simp only [Instr.makeInterface,Sem.run_bind,B6 hu,Result.andThen_ok]
   cases d<;>first|rfl|exact absurd rfl (hd _)
  simp [execOp,this]
 case makeFunc fn first captured =>
  refine ⟨.func fn (first.map a.eval) (captured.map a.eval),_,?_,h,A5e.2 ⟨_,_,rfl,?_,?_⟩⟩
  ·simp only [execOp,Instr.makeFunc];rfl
  ·rw [Array.toList_map]
   exact Z1 _ fun x hx=>ev1 x (hok x (by simp at hx ⊢;exact .inl hx))
  ·rw [Array.toList_map]
   exact Z1 _ fun x hx=>ev1 x (hok x (by simp at hx ⊢;exact .inr hx))
 case field t x f =>
  have hx:=ev1 x (hok x (by simp))
  split at h
  ·rename_i off ft hf
   obtain ⟨hs,h⟩:=B2.1 h
   obtain ⟨⟨d,hd⟩,ha⟩:=B1p (eq_of_beq hs)
   obtain ⟨fs,y,i,hu,hy,hi,hn,ho,hty⟩:=B6m hf
   split at h
   ·rename_i cs hv
    split at h
    ·rename_i c hc
     rw [F8] at h
     rw [hv] at hx
     obtain ⟨us,hx,hr⟩:=A1x.1 hx
     obtain ⟨u,hu2,hru⟩:=A0q hr hc
     refine ⟨u,c,?_,h,hru⟩
     have hp:=A1t (w:=w) hd ha hu2
     have:(Instr.field t (.agg us) f).run P w=.ok u w:=by
      simp only [Instr.field,Sem.run_bind,B6 hu,Result.andThen_ok,hy,asAgg,Sem.run_pure,ho,hty]
      exact hp
     simp [execOp,hx,this]
    ·exact h.elim
   ·exact h.elim
  ·exact h.elim
 case lookup t x i ok =>
  have hx:=ev1 x (hok x (by simp))
  have hi:=ev1 i (hok i (by simp))
  split at h
  ·rename_i es l hv hl
   obtain ⟨ht,hk⟩:=B2.1 h
   rw [Bool.and_eq_true] at ht
   obtain ⟨ho,ht⟩:=ht
   cases ok
   case true=>cases ho
   rw [hv] at hx
   rw [hl,M3] at hi
   refine ⟨_,_,?_,hk,F5.2 rfl⟩
   simp [execOp,hi,C2a ht hx]
  ·rename_i b l hv hl
   rw [hv,A5f] at hx
   rw [hl,M3] at hi
   split at h
   ·rename_i z hz
    obtain ⟨es,hes,hg⟩:=A6r h
    have hr:=hg.run
    rcases B9b (l:=l) (ok:=ok) hz (hm.mp b es hes) with ⟨v,x,h1,h2,h3⟩|⟨v,h1,h2,h3⟩
    ·rw [h1] at hr
     dsimp only at hr
     rw [F8] at hr
     refine ⟨if ok then .tuple #[v,.bool true] else v,_,by simp only [execOp,hx,hi,Sem.run_bind,h3,Result.andThen_ok,Sem.run_pure],hr,?_⟩
     cases ok
     ·exact h2
     ·exact A0k.2 ⟨_,rfl,A9.2 ⟨_,_,rfl,h2,A9.2 ⟨_,_,rfl,F7.2 rfl,B4.2 rfl⟩⟩⟩
    ·rw [h1] at hr
     dsimp only at hr
     rw [F8] at hr
     refine ⟨if ok then .tuple #[v,.bool false] else v,_,by simp only [execOp,hx,hi,Sem.run_bind,h3,Result.andThen_ok,Sem.run_pure],hr,?_⟩
     cases ok
     ·exact h2
     ·exact A0k.2 ⟨_,rfl,A9.2 ⟨_,_,rfl,h2,A9.2 ⟨_,_,rfl,F7.2 rfl,B4.2 rfl⟩⟩⟩
   ·exact h.elim
  ·exact h.elim
 case slice t x lo hi mx =>
  have hx:=ev1 x (hok x (by simp))
  obtain ⟨z,r,h1,hk,hr⟩:=C1g h hx (B9k hm he fun y hy=>hok y (by simp [hy])) (B9k hm he fun y hy=>hok y (by simp [hy])) (B9k hm he fun y hy=>hok y (by simp [hy]))
  exact ⟨z,r,by simp [execOp,h1],hk,hr⟩
 case fieldAddr t x f =>
  have hx:=ev1 x (hok x (by simp))
  split at h
  ·rename_i off ft hf
   split at h
   ·rename_i b o hv
    rw [hv,N8] at hx
    exact ⟨_,_,by simp [execOp,hx,A88 hf],h,N8.2 rfl⟩
   ·rename_i cs hv
    rw [hv] at hx
    obtain ⟨b,o,hx,hc⟩:=M4.1 hx
    rw [C8] at h
    exact ⟨_,_,by simp [execOp,hx,A88 hf],h,M4.2 ⟨b,_,rfl,U2 _ _ _ _ hc⟩⟩
   ·exact h.elim
  ·exact h.elim
 case indexAddr t x i =>
  have hx:=ev1 x (hok x (by simp))
  have hi:=ev1 i (hok i (by simp))
  cases hiv:evA Γ e i<;>rw [hiv] at h hi<;>try exact h.elim
  rw [F5] at hi
  obtain ⟨z,r,h1,hk,hr⟩:=B2a (k:=_) h hx
  exact ⟨z,r,by rw [← hi] at h1;simp [execOp,h1],hk,hr⟩
 case index t x i =>
  have hx:=ev1 x (hok x (by simp))
  have hi:=ev1 i (hok i (by simp))
  cases hiv:evA Γ e i<;>rw [hiv] at h hi<;>try exact h.elim
  rename_i k m
  rw [F5] at hi
  simp only [asI] at h
  split at h
  ·rename_i l hv
   obtain ⟨hst,h0,hlt,hk⟩:=B2.1 h
   have hu:P.underlying t=some .string:=by
    rcases Z8 (eq_of_beq hst) with ⟨h0,_⟩|⟨_,hi⟩|⟨h0,_⟩
    ·omega
    ·exact hi
    ·omega
   rw [hv,M3] at hx
   refine ⟨_,_,?_,hk,F5.2 rfl⟩
   have hb:(ByteArray.mk l.toArray)[m.toNat]?=some (B0 l m.toNat):=by
    have hs:m.toNat < (ByteArray.mk l.toArray).size:=by simp [ByteArray.size];omega
    rw [getElem?_pos (ByteArray.mk l.toArray) m.toNat hs]
    simp [B0,List.getD,List.getElem?_eq_getElem hlt,ByteArray.getElem_eq_getElem_data]
   have:(Instr.index t (.string ⟨l.toArray⟩) (.int k m)).run P w=.ok (.int .u8 (B0 l m.toNat).toNat) w:=by
    simp only [Instr.index,asIntOf,Sem.run_bind,Sem.run_pure,Result.andThen_ok,B6 hu,if_pos h0,hb]
   simp [execOp,hx,hi,this]
  ·exact h.elim
 case nilCheck x =>
  have hx:=ev1 x (hok x (by simp))
  split at h
  ·rename_i ad hv;rw [hv] at hx;rw [N8] at hx
   exact ⟨_,_,by simp only [execOp,hx];rfl,h,N8.2 rfl⟩
  ·rename_i cs hv;rw [hv] at hx
   have hx':=hx
   obtain ⟨b,o,hx,hc⟩:=M4.1 hx
   rw [hx] at hx'
   exact ⟨_,_,by simp only [execOp,hx];rfl,h,hx'⟩
  ·rename_i t y hv;rw [hv] at hx
   have hx':=hx
   obtain ⟨u,hx,hc⟩:=M9.1 hx
   rw [hx] at hx'
   exact ⟨_,_,by simp only [execOp,hx];rfl,h,hx'⟩
  ·rename_i f fs cs hv;rw [hv] at hx
   have hx':=hx
   obtain ⟨us,vs,hx,hc⟩:=A5e.1 hx
   rw [hx] at hx'
   exact ⟨_,_,by simp only [execOp,hx];rfl,h,hx'⟩
  ·exact h.elim
 case extract x i =>
  have hx:=ev1 x (hok x (by simp))
  split at h
  ·rename_i vs hv
   split at h
   ·rename_i c hc
    rw [F8] at h
    rw [hv] at hx
    obtain ⟨us,hx,hr⟩:=A0k.1 hx
    obtain ⟨u,hu,hru⟩:=A0q hr hc
    exact ⟨u,c,by simp at hu;simp [execOp,hx,Instr.extract,hu],h,hru⟩
   ·exact h.elim
  ·exact h.elim
 case build t parts =>
  have:=C09 (G:=G) (w:=w) (ps:=parts.toList.map fun (i,x)=>(i,a.eval x)) h (by simp) (by
   simp only [List.map_map]
   refine Z1 (f:=fun x:Nat × Operand=>evA Γ e x.2) (g:=fun x:Nat × Operand=>a.eval x.2) _ ?_
   rintro ⟨i,x⟩ hx
   exact ev1 x (hok x (by simp;exact ⟨i,by simpa using hx⟩)))
  obtain ⟨z,r,h1,hk,hr⟩:=this
  refine ⟨z,r,?_,hk,hr⟩
  have e1:(parts.toList.map fun (i,x)=>(i,a.eval x)).toArray=parts.map fun (i,x)=>(i,a.eval x):=by
   rw [← Array.toList_map,Array.toArray_toList]
  rw [e1] at h1
  simp [execOp,h1]
 case load t x =>
  have hx:=ev1 x (hok x (by simp))
  split at h
  ·rename_i cs hv
   rw [hv] at hx
   obtain ⟨b,o,hx,hc⟩:=M4.1 hx
   obtain ⟨us,_,hr,hcell⟩:=A2g cs b o hc
   obtain ⟨z,r,h1,hk,hr⟩:=U8 (P:=P) h hr hcell
   exact ⟨z,r,by simp [execOp,hx,Instr.loadAt,Instr.sureAddr,h1],hk,hr⟩
  ·rename_i b o hv
   rw [hv,N8] at hx
   obtain ⟨T,cs,hb,h⟩:=X8 h
   obtain ⟨us,hr,hcell⟩:=A13 hm hb
   obtain ⟨z,r,h1,hk,hr⟩:=U8 (P:=P) (b:=b) (o:=o) h (Q2 o hr) (fun i v hi=>by rw [hcell];rw [List.getElem?_drop] at hi;exact hi)
   exact ⟨z,r,by simp [execOp,hx,Instr.loadAt,Instr.sureAddr,h1],hk,hr⟩
  ·exact h.elim
 case call c =>
  obtain ⟨callee,args,ts⟩:=c
  cases callee<;>simp only at h<;>try exact h.elim
  rename_i b
  have hargs:B7 G w (args.toList.map (evA Γ e)) (args.map a.eval).toList:=by
   rw [Array.toList_map]
   exact Z1 _ fun x hx=>ev1 x (hok x (by simp [Call.operands] at hx ⊢;exact hx))
  have hrun:∀ {sem:Sem Value} {z:Value},sem.run P w=.ok z w→(∀ cs,builtin b ts ty cs (args.map a.eval)=(do pure (.value (← sem)))) →
    (execOp a.eval ⟨dst,.call ⟨.builtin b,args,ts⟩,ty,pos,aft,grd⟩).run P w=.ok (.value z) w:=by
   intro sem z h1 h2
   simp only [execOp,resolve,Sem.run_bind,Sem.run_pure,Result.andThen_ok,invoke]
   refine Eq.trans (congrArg (fun x:Sem Next=>x.run P w) (h2 _)) ?_
   simp [h1]
  generalize args.toList.map (evA Γ e)=xs at h hargs
  generalize hav:args.map a.eval=vs at hargs hrun
  obtain ⟨vs⟩:=vs
  simp only at hargs
  obtain ⟨ts⟩:=ts
  unfold A0a at h
  split at h
  ·rename_i t l hts
   simp only at hts;subst hts
   obtain ⟨ht,hk⟩:=B2.1 h
   have ht:=eq_of_beq ht
   obtain ⟨u,us,rfl,hu,hus⟩:=A9.1 hargs
   rw [B4] at hus;subst hus
   rw [M3] at hu;subst hu
   have hs:P.underlying t=some .string:=by
    rcases Z8 ht with ⟨h0,_⟩|⟨_,hi⟩|⟨h0,_⟩
    ·omega
    ·exact hi
    ·omega
   refine ⟨_,_,hrun (sem:=Builtin.len_ #[t] ty #[.string ⟨l.toArray⟩]) (z:=.int .i64 l.length) ?_ (fun _=>rfl),hk,F5.2 rfl⟩
   exact C21 hs _ _
  ·rename_i t tk es hts
   simp only at hts;subst hts
   obtain ⟨ht,hk⟩:=B2.1 h
   obtain ⟨el,hel⟩:=Option.isSome_iff_exists.1 ht
   obtain ⟨u,us,rfl,hu,hus⟩:=A9.1 hargs
   rw [B4] at hus;subst hus
   obtain ⟨ad,cap,rfl,_⟩:=L5 hu
   refine ⟨_,_,hrun (sem:=Builtin.len_ #[t] ty #[.slice ad es.length cap]) (z:=.int .i64 es.length) ?_ (fun _=>rfl),hk,F5.2 rfl⟩
   exact B1n (N1 hel) _ _ _ _
  ·rename_i t ad m cap hts
   simp only at hts;subst hts
   obtain ⟨ht,hk⟩:=B2.1 h
   obtain ⟨el,hel⟩:=Option.isSome_iff_exists.1 ht
   obtain ⟨u,us,rfl,hu,hus⟩:=A9.1 hargs
   rw [B4] at hus;subst hus
   rw [X6] at hu;subst hu
   refine ⟨_,_,hrun (sem:=Builtin.len_ #[t] ty #[.slice ad m cap]) (z:=.int .i64 m) ?_ (fun _=>rfl),hk,F5.2 rfl⟩
   exact B1n (N1 hel) _ _ _ _
  ·rename_i t ad m cap hts
   simp only at hts;subst hts
   obtain ⟨ht,hk⟩:=B2.1 h
   obtain ⟨el,hel⟩:=Option.isSome_iff_exists.1 ht
   obtain ⟨u,us,rfl,hu,hus⟩:=A9.1 hargs
   rw [B4] at hus;subst hus
   rw [X6] at hu;subst hu
   refine ⟨_,_,hrun (sem:=Builtin.cap_ #[t] ty #[.slice ad m cap]) (z:=.int .i64 cap) ?_ (fun _=>rfl),hk,F5.2 rfl⟩
   exact B9q (N1 hel) _ _ _ _
  ·rename_i k x k' y
   obtain ⟨u,us,rfl,hu,hus⟩:=A9.1 hargs
   obtain ⟨u',us',rfl,hu',hus'⟩:=A9.1 hus
   rw [B4] at hus';subst hus'
   rw [F5] at hu hu';subst hu hu'
   exact ⟨_,_,hrun (sem:=Builtin.max_ _ ty #[.int k x,.int k' y]) (z:=.int k (if y > x then y else x)) (by simp [Builtin.max_,Builtin.max2]) (fun _=>rfl),h,F5.2 rfl⟩
  ·rename_i k x k' y
   obtain ⟨u,us,rfl,hu,hus⟩:=A9.1 hargs
   obtain ⟨u',us',rfl,hu',hus'⟩:=A9.1 hus
   rw [B4] at hus';subst hus'
   rw [F5] at hu hu';subst hu hu'
   exact ⟨_,_,hrun (sem:=Builtin.min_ _ ty #[.int k x,.int k' y]) (z:=.int k (if y < x then y else x)) (by simp [Builtin.min_,Builtin.min2]) (fun _=>rfl),h,F5.2 rfl⟩
  ·exact h.elim
end
end Go.Ab
