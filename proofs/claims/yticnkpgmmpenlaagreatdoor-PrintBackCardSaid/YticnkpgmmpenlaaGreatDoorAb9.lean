/- Structs and arrays out of their parts; all operations that leave the store as it is. -/
import Derived.Test.YticnkpgmmpenlaaGreatDoorAb8
set_option maxRecDepth 10000
set_option maxHeartbeats 60000000
set_option linter.all false
namespace Go.Ab
open Go
section
variable {P:Program} {Γ:Nat→AV} {G:Gh} {w:World}
theorem A95 {c:AV} {v:Value} (h:R G w c v):B6 G w (Q6 c) v.cells.toList:=by
 have one:∀ u:Value,R G w c u→B6 G w [c] [u]:=fun u hu=>A6.2 ⟨u,[],rfl,hu,A9.2 rfl⟩
 cases c with
 | agg cs=>obtain ⟨us,rfl,hr⟩:=A41.1 h;exact hr
 | int=>rw [E9] at h;subst h;exact one _ (E9.2 rfl)
 | bool=>rw [G9] at h;subst h;exact one _ (G9.2 rfl)
 | str=>rw [H9] at h;subst h;exact one _ (H9.2 rfl)
 | ptr=>rw [P4] at h;subst h;exact one _ (P4.2 rfl)
 | raw=>rw [A1t] at h;subst h;exact one _ (A1t.2 rfl)
 | nilIface=>rw [R7] at h;subst h;exact one _ (R7.2 rfl)
 | nilFunc=>rw [A8d] at h;subst h;exact one _ (A8d.2 rfl)
 | cptr cs=>have h':=h;obtain ⟨b,o,rfl,_⟩:=N3.1 h;exact one _ h'
 | slice t es=>have h':=h;obtain ⟨a,cap,rfl,_⟩:=J7 h;exact one _ h'
 | iface t x=>have h':=h;obtain ⟨u,rfl,_⟩:=Q2.1 h;exact one _ h'
 | func fn fs cs=>have h':=h;obtain ⟨u,x,rfl,_⟩:=A9e.1 h;exact one _ h'
 | tuple vs=>have h':=h;obtain ⟨u,rfl,_⟩:=A2a.1 h;exact one _ h'
 | cmap es=>have h':=h;obtain ⟨b,ents,c,rfl,_⟩:=B94.1 h;exact one _ h'
theorem B12:∀ (vs:List Value) (k off:Nat) (cells:Array Value),off+k+vs.length≤cells.size →
  ((vs.zipIdx k).foldl (fun cs (x:Value × Nat)=>cs.setIfInBounds (off+x.2) x.1) cells).toList=cells.toList.take (off+k)++vs++cells.toList.drop (off+k+vs.length)
 | [],k,off,cells,_=>by simp
 | v::vs,k,off,cells,h=>by
  simp only [List.zipIdx_cons,List.foldl_cons]
  rw [B12 vs (k+1) off _ (by simp only [Array.size_setIfInBounds,List.length_cons] at h ⊢;omega)]
  simp only [List.length_cons] at h
  have hn:off+k < cells.toList.length:=by simp;omega
  have hl:(cells.toList.take (off+k)).length=off+k:=by rw [List.length_take];omega
  simp only [Array.toList_setIfInBounds,List.set_eq_take_append_cons_drop,if_pos hn]
  generalize cells.toList.take (off+k)=l1 at hl ⊢
  rw [List.take_append,List.drop_append,hl,List.take_of_length_le (l:=l1) (by omega),List.drop_of_length_le (l:=l1) (by omega)]
  rw [show off+(k+1) - (off+k)=1 by omega,show off+(k+1)+vs.length - (off+k)=vs.length+1 by omega]
  simp only [List.take_succ_cons,List.take_zero,List.drop_succ_cons,List.drop_drop,List.nil_append,List.append_assoc,List.singleton_append,List.length_cons]
  rw [show off+k+1+vs.length=off+k+(vs.length+1) by omega]
theorem C0l {t:TypeId}:∀ (parts:List (Nat × AV)) {ps:List (Nat × Value)} {cs:List AV} {cells:Array Value} {K:List AV→Prop} {f:Nat→Option (Nat × Nat)},A8q P t=some f →
  B4e P t cs parts K→B6 G w cs cells.toList→(ps.map (·.1)=parts.map (·.1))→B6 G w (parts.map (·.2)) (ps.map (·.2)) →
  ∃ out ds,Instr.fill f cells ps=some out∧K ds∧B6 G w ds out.toList
 | [],ps,cs,cells,K,f,_,h,hr,hi,_=>by
  have:ps=[]:=by simpa using hi
  subst this
  exact ⟨cells,cs,rfl,by simpa only [B4e,D2] using h,hr⟩
 | (i,c)::parts,ps,cs,cells,K,f,hf,h,hr,hi,hv=>by
  cases ps with
  | nil=>simp at hi
  | cons p ps =>
   obtain ⟨j,v⟩:=p
   simp only [List.map_cons,List.cons.injEq] at hi
   obtain ⟨hj,hi⟩:=hi
   subst hj
   simp only [List.map_cons] at hv
   obtain ⟨u,us,hu,hvc,hvs⟩:=A6.1 hv
   simp only [List.cons.injEq] at hu
   obtain ⟨rfl,rfl⟩:=hu
   simp only [B4e] at h
   unfold C51 at h
   rw [hf] at h
   simp only [Option.bind_some] at h
   cases hp:f j with
   | none=>rw [hp] at h;exact h.elim
   | some x =>
    obtain ⟨off,n⟩:=x
    rw [hp] at h
    obtain ⟨hn,hle,h⟩:=h
    have hc:=A95 hvc
    have hsz:v.cells.size=n:=by rw [← hn,← D9 hc];simp
    have hcs:cells.size=cs.length:=by rw [← D9 hr];simp
    have hset:(v.cells.zipIdx.foldl (fun cs (x:Value × Nat)=>cs.setIfInBounds (off+x.2) x.1) cells).toList=cells.toList.take off++v.cells.toList++cells.toList.drop (off+n):=by
     rw [← Array.foldl_toList,Array.toList_zipIdx]
     have:=B12 v.cells.toList 0 off cells (by simp;omega)
     simp only [Nat.add_zero,Array.length_toList,hsz] at this
     exact this
    have hr':B6 G w (cs.take off++Q6 c++cs.drop (off+n)) (v.cells.zipIdx.foldl (fun cs (x:Value × Nat)=>cs.setIfInBounds (off+x.2) x.1) cells).toList:=by
     rw [hset]
     exact E5 (E5 (V1 off hr) hc) (V0 _ hr)
    obtain ⟨out,ds,h1,h2,h3⟩:=C0l parts hf h hr' hi hvs
    refine ⟨out,ds,?_,h2,h3⟩
    simp only [Instr.fill,hp]
    rw [if_neg (by simp;omega)]
    exact h1
theorem C7j {α β:Type} (f:α→Sem β) (g:α→β):∀ (l:List α),(∀ x ∈ l,(f x).run P w=.ok (g x) w)→(l.mapM f).run P w=.ok (l.map g) w
 | [],_=>by simp
 | x::l,h=>by
  have h1:=h x List.mem_cons_self
  have h2:=C7j f g l fun y hy=>h y (List.mem_cons_of_mem _ hy)
  simp [List.mapM_cons,h1,h2]
theorem A6v {t:TypeId} {z:List AV} (h:A2o P t=some z):∃ i v,P.info? t=some i∧i.zero=some v∧B6 G w z v.cells.toList:=by
 unfold A2o at h
 split at h
 ·rename_i i hi
  split at h
  ·rename_i v hv
   exact ⟨i,v,hi,hv,A50 h⟩
  ·cases h
 ·cases h
theorem C79 {t:TypeId} {parts:List (Nat × AV)} {ps:List (Nat × Value)} {K:AV→Prop} (h:B98 P t parts K) (hi:ps.map (·.1)=parts.map (·.1))
  (hr:B6 G w (parts.map (·.2)) (ps.map (·.2))):C6l P G w (Instr.build t ps.toArray) K:=by
 obtain ⟨hb,h⟩:=B4.1 h
 cases hz:A2o P t with
 | none=>rw [hz] at h;exact h.elim
 | some z =>
  rw [hz] at h
  obtain ⟨i,v,hinfo,hzv,hzr⟩:=A6v (G:=G) (w:=w) hz
  have hzero:(zeroValue t).run P w=.ok v w:=by simp [zeroValue,typeInfo,hinfo,hzv]
  unfold D07 at hb
  split at hb
  ·rename_i fs hu
   have hinf:∀ f ∈ fs.toList,∃ x,P.info? f.type=some x:=by
    intro f hf
    rw [List.all_eq_true] at hb
    exact Option.isSome_iff_exists.1 (hb f hf)
   have hp:A8q P t=some fun i=>match fs[i]? with|some f=>(P.info? f.type).map fun x=>(f.offset,x.size)|none=>none:=by
    unfold A8q;simp only [hu];rfl
   obtain ⟨out,ds,h1,h2,h3⟩:=C0l parts hp h hzr hi hr
   have hm:(fs.mapM fun (f:Field)=>do pure (f.offset,← sizeOf f.type)).run P w=.ok (fs.map fun (f:Field)=>(f.offset,((P.info? f.type).map (·.size)).getD 0)) w:=by
    rw [← Array.toArray_toList (xs:=fs),List.mapM_toArray,Sem.run_map]
    rw [C7j _ (fun f:Field=>(f.offset,((P.info? f.type).map (·.size)).getD 0)) fs.toList]
    ·simp only [Result.andThen_ok];rw [← Array.toList_map,Array.toArray_toList]
    ·intro f hf
     obtain ⟨x,hx⟩:=hinf f hf
     simp [F7 hx,hx]
   refine ⟨.agg out,_,?_,h2,A41.2 ⟨_,rfl,h3⟩⟩
   have hfe:Instr.fill (fun i=>(fs.map fun (f:Field)=>(f.offset,((P.info? f.type).map (·.size)).getD 0))[i]?) v.cells ps=some out:=by
    rw [← h1]
    congr 1
    funext i
    simp only [Array.getElem?_map]
    cases hfi:fs[i]? with
    | none=>rfl
    | some f =>
     have hmem:f ∈ fs.toList:=by
      rw [Array.getElem?_eq_some_iff] at hfi
      obtain ⟨hlt,rfl⟩:=hfi
      exact Array.getElem_mem_toList hlt
     obtain ⟨x,hx⟩:=hinf f hmem
     simp [hx]
   simp only [Instr.build,Sem.run_bind,hzero,B7 hu,Result.andThen_ok,hm]
   simp only [hfe,Sem.run_pure]
  ·rename_i n e hu
   obtain ⟨x,hx⟩:=Option.isSome_iff_exists.1 hb
   have hp:A8q P t=some fun i=>some (i * x.size,x.size):=by
    unfold A8q;rw [hu];simp [hx]
   obtain ⟨out,ds,h1,h2,h3⟩:=C0l parts hp h hzr hi hr
   refine ⟨.agg out,_,?_,h2,A41.2 ⟨_,rfl,h3⟩⟩
   simp only [Instr.build,Sem.run_bind,hzero,B7 hu,Result.andThen_ok,F7 hx,h1,Sem.run_pure]
  ·cases hb
theorem C99 {t:TypeId} (h:P.underlying t=some .string) (ty:TypeId) (l:List UInt8):(Builtin.len_ #[t] ty #[.string ⟨l.toArray⟩]).run P w=.ok (.int .i64 l.length) w:=by
 have:=run_len_string (P:=P) w t ty ⟨l.toArray⟩ h
 rw [this];simp [goInt,ByteArray.size_data.symm]
theorem B6q {t e:TypeId} (h:P.underlying t=some (.slice e)) (ty:TypeId) (a:Option Addr) (n c:Nat):(Builtin.len_ #[t] ty #[.slice a n c]).run P w=.ok (.int .i64 n) w:=by
 unfold Builtin.len_
 simp [B7 h,goInt]
theorem C55 {t e:TypeId} (h:P.underlying t=some (.slice e)) (ty:TypeId) (a:Option Addr) (n c:Nat):(Builtin.cap_ #[t] ty #[.slice a n c]).run P w=.ok (.int .i64 c) w:=by
 unfold Builtin.cap_
 simp [B7 h,goInt]
theorem D2z {t:Bool} {x y:AV} {K:AV→Prop} (h:C3n t x y K):K (if t then x else y):=by
 unfold C3n at h
 split at h
 ·cases t<;>exact h
 ·cases t
  ·have h:frc y K:=h
   rw [K3] at h;exact h
  ·have h:frc x K:=h
   rw [K3] at h;exact h
theorem C2m (l:List UInt8):∀ (ents:List MapEntry) (es:List (List UInt8 × Int)) (i:Nat),ents.map (fun e=>(e.key,e.val))=es.map (fun x=>(Value.string ⟨x.1.toArray⟩,Value.int .i64 x.2)) →
  ∃ r,Instr.findNow .string (.string ⟨l.toArray⟩) ents i=some r∧((r=none∧A8z l es=0)∨∃ j,r=some (j,.int .i64 (A8z l es)))
 | [],es,i,h=>by
  cases es with
  | nil=>exact ⟨none,rfl,.inl ⟨rfl,rfl⟩⟩
  | cons x es=>simp at h
 | e::ents,es,i,h=>by
  cases es with
  | nil=>simp at h
  | cons x es =>
   simp only [List.map_cons,List.cons.injEq,Prod.mk.injEq] at h
   obtain ⟨⟨h1,h2⟩,h3⟩:=h
   have hbeq:∀ a b:ByteArray,(a == b)=true↔a=b:=fun a b=>by
    constructor
    ·intro h
     cases a;cases b
     exact congrArg ByteArray.mk (eq_of_beq h)
    ·rintro rfl
     cases a
     exact beq_self_eq_true (_:Array UInt8)
   unfold Instr.findNow
   rw [h1]
   by_cases hl:l=x.1
   ·have hb:Instr.sameNow .string (.string ⟨l.toArray⟩) (.string ⟨x.1.toArray⟩)=some true:=congrArg some ((hbeq _ _).2 (by rw [hl]))
    rw [hb]
    exact ⟨some (i,e.val),rfl,.inr ⟨i,by rw [h2,A8z,if_pos hl]⟩⟩
   ·have hb:Instr.sameNow .string (.string ⟨l.toArray⟩) (.string ⟨x.1.toArray⟩)=some false:=by
     refine congrArg some ?_
     rw [Bool.eq_false_iff]
     intro hh
     have hh:=(hbeq _ _).1 hh
     injection hh with hh
     exact hl (by simpa using congrArg Array.toList hh)
    rw [hb]
    obtain ⟨r,r1,r2⟩:=C2m l ents es (i+1) h3
    exact ⟨r,r1,by rw [A8z,if_neg hl];exact r2⟩
theorem C9k {t:TypeId} {l:List UInt8} {es:List (List UInt8 × Int)} {v:Value} (ht:D74 P t=true) (hv:R G w (.cmap es) v) :
  (Instr.lookup t v (.string ⟨l.toArray⟩) false).run P w=.ok (.int .i64 (A8z l es)) w:=by
 obtain ⟨b,ents,c,rfl,_,hh,he⟩:=B94.1 hv
 unfold D74 at ht
 split at ht
 ·rename_i k e hu
  simp only [Bool.and_eq_true] at ht
  obtain ⟨hk,he2⟩:=ht
  have hks:P.underlying k=some .string:=by
   rcases A27 (eq_of_beq hk) with ⟨h0,_⟩|⟨_,hi⟩|⟨h0,_⟩
   ·omega
   ·exact hi
   ·omega
  split at he2
  ·rename_i i hue hie
   split at he2
   ·rename_i hz
    obtain ⟨r,r1,r2⟩:=C2m l ents.toList es 0 he
    have hobj:(getObj b:Sem Obj).run P w=.ok (.map ents c) w:=by simp [getObj,Sem.run,hh]
    have hck:∀ em,(Instr.checkKey em 10000 k (.string ⟨l.toArray⟩)).run P w=.ok () w:=fun em=>by
     unfold Instr.checkKey
     simp [B7 hks]
    have hfk:(Instr.findKey k (.string ⟨l.toArray⟩) ents.toList).run P w=.ok r w:=by
     unfold Instr.findKey
     simp only [Sem.run_bind,B7 hks,Result.andThen_ok,r1,Sem.run_pure]
    unfold Instr.lookup
    simp only [Sem.run_bind,B7 hu,Result.andThen_ok,hobj,Sem.run_pure,hck,hfk]
    rcases r2 with ⟨rfl,r2⟩|⟨j,rfl⟩
    ·have hzv:(zeroValue e).run P w=.ok (.int .i64 0) w:=by simp [zeroValue,typeInfo,hie,hz]
     simp [hzv,r2]
    ·simp
   ·cases he2
  ·cases he2
 ·cases ht
theorem D41 {s:Sto} {n:Nat} {e:Env} {a:Act} {o:Oper} {K:AV→Prop} (hm:Mod Γ G s w) (he:A1y G w n e a) (hok:∀ x ∈ o.op.operands.toList,okX x=true)
  (h:M4 P (evA Γ e) s o.op K):∃ v r,(execOp a.eval o).run P w=.ok (.value v) w∧K r∧R G w r v:=by
 obtain ⟨dst,op,ty,pos,aft,grd⟩:=o
 simp only at h hok
 have ev1:∀ x,okX x=true→R G w (evA Γ e x) (a.eval x):=fun x hx=>B44 hm he hx
 cases op<;>dsimp only [M4] at h<;>dsimp only [Op.operands] at hok<;>try exact h.elim
 case move x=>rw [K3] at h;exact ⟨_,_,rfl,h,ev1 x (hok x (by simp))⟩
 case assign x=>rw [K3] at h;exact ⟨_,_,rfl,h,ev1 x (hok x (by simp))⟩
 case pick c x y =>
  have hc:=ev1 c (hok c (by simp))
  cases hcv:evA Γ e c<;>rw [hcv] at h hc<;>try exact h.elim
  rename_i t
  rw [G9] at hc
  have h:K (if t then evA Γ e x else evA Γ e y):=D2z h
  refine ⟨if t then a.eval x else a.eval y,_,?_,h,?_⟩
  ·simp [execOp,hc,asBool]
  ·cases t
   ·exact ev1 y (hok y (by simp))
   ·exact ev1 x (hok x (by simp))
 case binOp op t x y yt =>
  replace h:A90 P op t y (C8l x || C8l y) (evA Γ e x) (evA Γ e y) K:=h
  unfold A90 at h
  split at h
  ·rename_i b hb
   obtain ⟨ho,hy,hu⟩:=C5x hb
   obtain ⟨ht,hk⟩:=B4.1 h
   obtain ⟨et,hst⟩:=Option.isSome_iff_exists.1 ht
   have hun:=R4 hst
   have ex:=ev1 x (hok x (by simp))
   obtain ⟨a1,n1,c1,hx1⟩:∃ a1 n1 c1,a.eval x=.slice (some a1) n1 c1:=by
    revert ex hu
    generalize evA Γ e x=u
    intro hu ex
    cases u<;>try (exfalso;cases hu;done)
    ·rename_i tk es
     cases es with
     | nil=>exact absurd hu Bool.false_ne_true
     | cons c es =>
      obtain ⟨a,cap,hv,_,_,hne,_⟩:=J7 ex
      obtain ⟨bb,o,k,rfl,_⟩:=hne (by simp)
      exact ⟨_,_,_,hv⟩
    ·rename_i ad n2 c2
     cases ad with
     | none=>exact absurd hu Bool.false_ne_true
     | some ad=>exact ⟨_,_,_,A1t.1 ex⟩
   obtain ⟨n2,c2,hy1⟩:∃ n2 c2,y=.const (.slice none n2 c2):=by
    revert hy
    unfold D2l
    split
    ·intro _;exact ⟨_,_,rfl⟩
    ·intro hh;cases hh
   subst hy1
   have hyv:a.eval (.const (.slice none n2 c2))=.slice none n2 c2:=rfl
   have hg:∀ o:BinOp,(eqGuard o t x (.const (.slice none n2 c2)) (.slice (some a1) n1 c1) (.slice none n2 c2)).run P w=.ok () w:=fun o=>by
    unfold eqGuard
    cases o<;>rfl
   have he:(Op.equalIn 10000 t (.slice (some a1) n1 c1) (.slice none n2 c2)).run P w=.ok false w:=by
    exact B6p 9999 hun
   rcases ho with ⟨rfl,rfl⟩|⟨rfl,rfl⟩
   ·refine ⟨_,_,?_,hk,G9.2 rfl⟩
    simp [execOp,hx1,hyv,hg,binOp,Op.equal,Op.maxDepth,he]
   ·refine ⟨_,_,?_,hk,G9.2 rfl⟩
    simp [execOp,hx1,hyv,hg,binOp,Op.equal,Op.maxDepth,he]
  rcases B7m h with ⟨hx,hy,hc,ht,ho⟩|h
  ·have ex:=ev1 x (hok x (by simp))
   have ey:=ev1 y (hok y (by simp))
   rw [hx,R7] at ex
   rw [hy,R7] at ey
   obtain ⟨ms,hu⟩:=A9l ht
   have hg:∀ o:BinOp,(eqGuard o t x y .nilIface .nilIface).run P w=.ok () w:=fun o=>by
    unfold eqGuard
    rcases Bool.or_eq_true _ _ |>.mp hc with hc|hc
    ·cases x<;>first|(cases o<;>rfl)|exact absurd hc (by simp [C8l])
    ·cases y<;>first|(cases o<;>cases x<;>rfl)|exact absurd hc (by simp [C8l])
   have he:(Op.equalIn 10000 t .nilIface .nilIface).run P w=.ok true w:=B2e 9999 hu
   rcases ho with ⟨rfl,hk⟩|⟨rfl,hk⟩
   ·refine ⟨_,_,?_,hk,G9.2 rfl⟩
    simp [execOp,ex,ey,hg,binOp,Op.equal,Op.maxDepth,he]
   ·refine ⟨_,_,?_,hk,G9.2 rfl⟩
    simp [execOp,ex,ey,hg,binOp,Op.equal,Op.maxDepth,he]
  obtain ⟨z,r,⟨h1,h2⟩,hk,hr⟩:=C78 h (ev1 x (hok x (by simp))) (ev1 y (hok y (by simp)))
  refine ⟨z,r,?_,hk,hr⟩
  unfold K8 at h1
  simp [execOp,h2,h1]
 case unOp op t x =>
  obtain ⟨z,r,h1,hk,hr⟩:=D7i (P:=P) h (ev1 x (hok x (by simp)))
  refine ⟨z,r,?_,hk,hr⟩
  unfold K8 at h1
  simp [execOp,h1]
 case convert src dst x =>
  obtain ⟨z,r,h1,hk,hr⟩:=D0x hm h (ev1 x (hok x (by simp)))
  exact ⟨z,r,by simp [execOp,h1],hk,hr⟩
 case makeInterface t x =>
  obtain ⟨ht,h⟩:=B4.1 h
  rw [K3] at h
  obtain ⟨d,hu,hd⟩:=C3i (eq_of_beq ht)
  refine ⟨_,_,?_,h,Q2.2 ⟨_,rfl,ev1 x (hok x (by simp))⟩⟩
  have:(Instr.makeInterface t (a.eval x)).run P w=.ok (.iface t (a.eval x)) w:=by
   simp only [Instr.makeInterface,Sem.run_bind,B7 hu,Result.andThen_ok]
   cases d<;>first|rfl|exact absurd rfl (hd _)
  simp [execOp,this]
 case makeFunc fn first captured =>
  refine ⟨.func fn (first.map a.eval) (captured.map a.eval),_,?_,h,A9e.2 ⟨_,_,rfl,?_,?_⟩⟩
  ·simp only [execOp,Instr.makeFunc];rfl
  ·rw [Array.toList_map]
   exact A1z _ fun x hx=>ev1 x (hok x (by simp at hx ⊢;exact .inl hx))
  ·rw [Array.toList_map]
   exact A1z _ fun x hx=>ev1 x (hok x (by simp at hx ⊢;exact .inr hx))
 case field t x f =>
  have hx:=ev1 x (hok x (by simp))
  split at h
  ·rename_i off ft hf
   obtain ⟨hs,h⟩:=B4.1 h
   obtain ⟨⟨d,hd⟩,ha⟩:=B6v (eq_of_beq hs)
   obtain ⟨fs,y,i,hu,hy,hi,hn,ho,hty⟩:=C2k hf
   split at h
   ·rename_i cs hv
    split at h
    ·rename_i c hc
     rw [K3] at h
     rw [hv] at hx
     obtain ⟨us,hx,hr⟩:=A41.1 hx
     obtain ⟨u,hu2,hru⟩:=A3g hr hc
     refine ⟨u,c,?_,h,hru⟩
     have hp:=A4y (w:=w) hd ha hu2
     have:(Instr.field t (.agg us) f).run P w=.ok u w:=by
      simp only [Instr.field,Sem.run_bind,B7 hu,Result.andThen_ok,hy,asAgg,Sem.run_pure,ho,hty]
      exact hp
     simp [execOp,hx,this]
    ·exact h.elim
   ·exact h.elim
  ·exact h.elim
 case lookup t x i ok =>
  have hx:=ev1 x (hok x (by simp))
  have hi:=ev1 i (hok i (by simp))
  split at h
  ·rename_i es l hv hl
   obtain ⟨ht,hk⟩:=B4.1 h
   rw [hv] at hx
   rw [hl,H9] at hi
   refine ⟨_,_,?_,hk,E9.2 rfl⟩
   simp [execOp,hi,C9k ht hx]
  ·exact h.elim
 case slice t x lo hi mx =>
  have hx:=ev1 x (hok x (by simp))
  obtain ⟨z,r,h1,hk,hr⟩:=C8f h hx (C5z hm he fun y hy=>hok y (by simp [hy])) (C5z hm he fun y hy=>hok y (by simp [hy])) (C5z hm he fun y hy=>hok y (by simp [hy]))
  exact ⟨z,r,by simp [execOp,h1],hk,hr⟩
 case fieldAddr t x f =>
  have hx:=ev1 x (hok x (by simp))
  split at h
  ·rename_i off ft hf
   split at h
   ·rename_i b o hv
    rw [hv,P4] at hx
    exact ⟨_,_,by simp [execOp,hx,B3a hf],h,P4.2 rfl⟩
   ·rename_i cs hv
    rw [hv] at hx
    obtain ⟨b,o,hx,hc⟩:=N3.1 hx
    rw [D2] at h
    exact ⟨_,_,by simp [execOp,hx,B3a hf],h,N3.2 ⟨b,_,rfl,W9 _ _ _ _ hc⟩⟩
   ·exact h.elim
  ·exact h.elim
 case indexAddr t x i =>
  have hx:=ev1 x (hok x (by simp))
  have hi:=ev1 i (hok i (by simp))
  cases hiv:evA Γ e i<;>rw [hiv] at h hi<;>try exact h.elim
  rw [E9] at hi
  obtain ⟨z,r,h1,hk,hr⟩:=B7n (k:=_) h hx
  exact ⟨z,r,by rw [← hi] at h1;simp [execOp,h1],hk,hr⟩
 case index t x i =>
  have hx:=ev1 x (hok x (by simp))
  have hi:=ev1 i (hok i (by simp))
  cases hiv:evA Γ e i<;>rw [hiv] at h hi<;>try exact h.elim
  rename_i k m
  rw [E9] at hi
  simp only [asI] at h
  split at h
  ·rename_i l hv
   obtain ⟨hst,h0,hlt,hk⟩:=B4.1 h
   have hu:P.underlying t=some .string:=by
    rcases A27 (eq_of_beq hst) with ⟨h0,_⟩|⟨_,hi⟩|⟨h0,_⟩
    ·omega
    ·exact hi
    ·omega
   rw [hv,H9] at hx
   refine ⟨_,_,?_,hk,E9.2 rfl⟩
   have hb:(ByteArray.mk l.toArray)[m.toNat]?=some (A7 l m.toNat):=by
    have hs:m.toNat < (ByteArray.mk l.toArray).size:=by simp [ByteArray.size];omega
    rw [getElem?_pos (ByteArray.mk l.toArray) m.toNat hs]
    simp [A7,List.getD,List.getElem?_eq_getElem hlt,ByteArray.getElem_eq_getElem_data]
   have:(Instr.index t (.string ⟨l.toArray⟩) (.int k m)).run P w=.ok (.int .u8 (A7 l m.toNat).toNat) w:=by
    simp only [Instr.index,asIntOf,Sem.run_bind,Sem.run_pure,Result.andThen_ok,B7 hu,if_pos h0,hb]
   simp [execOp,hx,hi,this]
  ·exact h.elim
 case nilCheck x =>
  have hx:=ev1 x (hok x (by simp))
  split at h
  ·rename_i ad hv;rw [hv] at hx;rw [P4] at hx
   exact ⟨_,_,by simp only [execOp,hx];rfl,h,P4.2 rfl⟩
  ·rename_i cs hv;rw [hv] at hx
   have hx':=hx
   obtain ⟨b,o,hx,hc⟩:=N3.1 hx
   rw [hx] at hx'
   exact ⟨_,_,by simp only [execOp,hx];rfl,h,hx'⟩
  ·rename_i t y hv;rw [hv] at hx
   have hx':=hx
   obtain ⟨u,hx,hc⟩:=Q2.1 hx
   rw [hx] at hx'
   exact ⟨_,_,by simp only [execOp,hx];rfl,h,hx'⟩
  ·rename_i f fs cs hv;rw [hv] at hx
   have hx':=hx
   obtain ⟨us,vs,hx,hc⟩:=A9e.1 hx
   rw [hx] at hx'
   exact ⟨_,_,by simp only [execOp,hx];rfl,h,hx'⟩
  ·exact h.elim
 case extract x i =>
  have hx:=ev1 x (hok x (by simp))
  split at h
  ·rename_i vs hv
   split at h
   ·rename_i c hc
    rw [K3] at h
    rw [hv] at hx
    obtain ⟨us,hx,hr⟩:=A2a.1 hx
    obtain ⟨u,hu,hru⟩:=A3g hr hc
    exact ⟨u,c,by simp at hu;simp [execOp,hx,Instr.extract,hu],h,hru⟩
   ·exact h.elim
  ·exact h.elim
 case build t parts =>
  have:=C79 (G:=G) (w:=w) (ps:=parts.toList.map fun (i,x)=>(i,a.eval x)) h (by simp) (by
   simp only [List.map_map]
   refine A1z (f:=fun x:Nat × Operand=>evA Γ e x.2) (g:=fun x:Nat × Operand=>a.eval x.2) _ ?_
   rintro ⟨i,x⟩ hx
   exact ev1 x (hok x (by simp;exact ⟨i,by simpa using hx⟩)))
  obtain ⟨z,r,h1,hk,hr⟩:=this
  refine ⟨z,r,?_,hk,hr⟩
  have e1:(parts.toList.map fun (i,x)=>(i,a.eval x)).toArray=parts.map fun (i,x)=>(i,a.eval x):=by
   rw [← Array.toList_map,Array.toArray_toList]
  rw [e1] at h1
  simp [execOp,h1]
 case load t x =>
  have hx:=ev1 x (hok x (by simp))
  split at h
  ·rename_i cs hv
   rw [hv] at hx
   obtain ⟨b,o,hx,hc⟩:=N3.1 hx
   obtain ⟨us,_,hr,hcell⟩:=A3o cs b o hc
   obtain ⟨z,r,h1,hk,hr⟩:=X9 (P:=P) h hr hcell
   exact ⟨z,r,by simp [execOp,hx,Instr.loadAt,Instr.sureAddr,h1],hk,hr⟩
  ·rename_i b o hv
   rw [hv,P4] at hx
   obtain ⟨T,cs,hb,h⟩:=A2h h
   obtain ⟨us,hr,hcell⟩:=A45 hm hb
   obtain ⟨z,r,h1,hk,hr⟩:=X9 (P:=P) (b:=b) (o:=o) h (V0 o hr) (fun i v hi=>by rw [hcell];rw [List.getElem?_drop] at hi;exact hi)
   exact ⟨z,r,by simp [execOp,hx,Instr.loadAt,Instr.sureAddr,h1],hk,hr⟩
  ·exact h.elim
 case call c =>
  obtain ⟨callee,args,ts⟩:=c
  cases callee<;>simp only at h<;>try exact h.elim
  rename_i b
  have hargs:B6 G w (args.toList.map (evA Γ e)) (args.map a.eval).toList:=by
   rw [Array.toList_map]
   exact A1z _ fun x hx=>ev1 x (hok x (by simp [Call.operands] at hx ⊢;exact hx))
  have hrun:∀ {sem:Sem Value} {z:Value},sem.run P w=.ok z w→(∀ cs,builtin b ts ty cs (args.map a.eval)=(do pure (.value (← sem)))) →
    (execOp a.eval ⟨dst,.call ⟨.builtin b,args,ts⟩,ty,pos,aft,grd⟩).run P w=.ok (.value z) w:=by
   intro sem z h1 h2
   simp only [execOp,resolve,Sem.run_bind,Sem.run_pure,Result.andThen_ok,invoke]
   refine Eq.trans (congrArg (fun x:Sem Next=>x.run P w) (h2 _)) ?_
   simp [h1]
  generalize args.toList.map (evA Γ e)=xs at h hargs
  generalize hav:args.map a.eval=vs at hargs hrun
  obtain ⟨vs⟩:=vs
  simp only at hargs
  obtain ⟨ts⟩:=ts
  unfold A2e at h
  split at h
  ·rename_i t l hts
   simp only at hts;subst hts
   obtain ⟨ht,hk⟩:=B4.1 h
   have ht:=eq_of_beq ht
   obtain ⟨u,us,rfl,hu,hus⟩:=A6.1 hargs
   rw [A9] at hus;subst hus
   rw [H9] at hu;subst hu
   have hs:P.underlying t=some .string:=by
    rcases A27 ht with ⟨h0,_⟩|⟨_,hi⟩|⟨h0,_⟩
    ·omega
    ·exact hi
    ·omega
   refine ⟨_,_,hrun (sem:=Builtin.len_ #[t] ty #[.string ⟨l.toArray⟩]) (z:=.int .i64 l.length) ?_ (fun _=>rfl),hk,E9.2 rfl⟩
   exact C99 hs _ _
  ·rename_i t tk es hts
   simp only at hts;subst hts
   obtain ⟨ht,hk⟩:=B4.1 h
   obtain ⟨el,hel⟩:=Option.isSome_iff_exists.1 ht
   obtain ⟨u,us,rfl,hu,hus⟩:=A6.1 hargs
   rw [A9] at hus;subst hus
   obtain ⟨ad,cap,rfl,_⟩:=J7 hu
   refine ⟨_,_,hrun (sem:=Builtin.len_ #[t] ty #[.slice ad es.length cap]) (z:=.int .i64 es.length) ?_ (fun _=>rfl),hk,E9.2 rfl⟩
   exact B6q (R4 hel) _ _ _ _
  ·rename_i t ad m cap hts
   simp only at hts;subst hts
   obtain ⟨ht,hk⟩:=B4.1 h
   obtain ⟨el,hel⟩:=Option.isSome_iff_exists.1 ht
   obtain ⟨u,us,rfl,hu,hus⟩:=A6.1 hargs
   rw [A9] at hus;subst hus
   rw [A1t] at hu;subst hu
   refine ⟨_,_,hrun (sem:=Builtin.len_ #[t] ty #[.slice ad m cap]) (z:=.int .i64 m) ?_ (fun _=>rfl),hk,E9.2 rfl⟩
   exact B6q (R4 hel) _ _ _ _
  ·rename_i t ad m cap hts
   simp only at hts;subst hts
   obtain ⟨ht,hk⟩:=B4.1 h
   obtain ⟨el,hel⟩:=Option.isSome_iff_exists.1 ht
   obtain ⟨u,us,rfl,hu,hus⟩:=A6.1 hargs
   rw [A9] at hus;subst hus
   rw [A1t] at hu;subst hu
   refine ⟨_,_,hrun (sem:=Builtin.cap_ #[t] ty #[.slice ad m cap]) (z:=.int .i64 cap) ?_ (fun _=>rfl),hk,E9.2 rfl⟩
   exact C55 (R4 hel) _ _ _ _
  ·rename_i k x k' y
   obtain ⟨u,us,rfl,hu,hus⟩:=A6.1 hargs
   obtain ⟨u',us',rfl,hu',hus'⟩:=A6.1 hus
   rw [A9] at hus';subst hus'
   rw [E9] at hu hu';subst hu hu'
   exact ⟨_,_,hrun (sem:=Builtin.max_ _ ty #[.int k x,.int k' y]) (z:=.int k (if y > x then y else x)) (by simp [Builtin.max_,Builtin.max2]) (fun _=>rfl),h,E9.2 rfl⟩
  ·rename_i k x k' y
   obtain ⟨u,us,rfl,hu,hus⟩:=A6.1 hargs
   obtain ⟨u',us',rfl,hu',hus'⟩:=A6.1 hus
   rw [A9] at hus';subst hus'
   rw [E9] at hu hu';subst hu hu'
   exact ⟨_,_,hrun (sem:=Builtin.min_ _ ty #[.int k x,.int k' y]) (z:=.int k (if y < x then y else x)) (by simp [Builtin.min_,Builtin.min2]) (fun _=>rfl),h,E9.2 rfl⟩
  ·exact h.elim
end
end Go.Ab
