/- Part 2 of what the closing text needs: Mp1, Er1, NuP, NuQ, NuR, NuA, NuT, Gr1, Pa0, PaA, PaB, PaC. No condition of mine beyond those that the theorems name. -/
import Derived.Test.YticnkpgmmpenlaaGreatDoorG1
import Derived.Test.YticnkpgmmpenlaaGreatDoorChecked
import Derived.WalkKit
import Derived.LaidEql
import Derived.Stop.Asserts
import Derived.RowKitTokens
import Derived.Shelf.Strings.SlTrimAscii
import Derived.Handy
import Derived.Lib.AtoiErrMem
import Derived.Lib.AppendIntMem
import Derived.Test.YticnkpgmmpenlaaGreatDoorProg
set_option maxRecDepth 10000
set_option maxHeartbeats 60000000
set_option linter.all false
namespace Go.Ab
open Go
variable {P:Program} {Γ:Nat→AV} {n:Nat} {Q:Exit→Env→Sto→Prop} {e:Env} {s:Sto}
def D9u (T:TypeId) (d:Nat) (x:List UInt8 × Int) (o:Oper):Prop :=
 o.op=.insert T (.tmp d) (.const (.string ⟨x.1.toArray⟩)) (.const (.int .i64 x.2))∧o.dst=none∧o.guard=none
theorem B0n (l:List UInt8):∀ (ents:List MapEntry) (es:List (List UInt8 × Int)) (i:Nat),ents.map (fun e=>(e.key,e.val))=es.map (fun x=>(Value.string ⟨x.1.toArray⟩,Value.int .i64 x.2))→(∀ x ∈ es,x.1≠l) →
  Instr.findNow .string (.string ⟨l.toArray⟩) ents i=some none
 | [],_,_,_,_=>rfl
 | e::ents,es,i,h,hn=>by
  cases es with
  | nil=>simp at h
  | cons x es =>
   simp only [List.map_cons,List.cons.injEq,Prod.mk.injEq] at h
   obtain ⟨⟨h1,h2⟩,h3⟩:=h
   unfold Instr.findNow
   rw [h1]
   have hb:Instr.sameNow .string (.string ⟨l.toArray⟩) (.string ⟨x.1.toArray⟩)=some false:=by
    refine congrArg some ?_
    rw [Bool.eq_false_iff]
    intro hh
    have hh:l.toArray=x.1.toArray:=eq_of_beq (show (l.toArray == x.1.toArray)=true from hh)
    exact hn x (by simp) (by simpa using (congrArg Array.toList hh).symm)
   rw [hb]
   exact B0n l ents es (i+1) h3 (fun y hy=>hn y (by simp [hy]))
theorem D6o {T kt et:TypeId} {w:World} {r c:Nat} {ents:Array MapEntry} {es:List (List UInt8 × Int)} (x:List UInt8 × Int) (hT:P.underlying T=some (.map kt et)) (hk:P.underlying kt=some .string)
  (hb:w.heap[r]?=some (.map ents c)) (he:ents.toList.map (fun e=>(e.key,e.val))=es.map (fun x=>(Value.string ⟨x.1.toArray⟩,Value.int .i64 x.2))) (hn:∀ y ∈ es,y.1≠x.1) :
  (Instr.mapUpdate T (.map (some r)) (.string ⟨x.1.toArray⟩) (.int .i64 x.2)).run P w=.ok () ({ w with heap:=w.heap.setIfInBounds r (.map (ents.push { key:=.string ⟨x.1.toArray⟩,val:=.int .i64 x.2,born:=c }) (c+1)) }):=by
 have hobj:(getObj r:Sem Obj).run P w=.ok (.map ents c) w:=by simp [getObj,Sem.run,hb]
 have hck:(Instr.checkKey false 10000 kt (.string ⟨x.1.toArray⟩)).run P w=.ok () w:=by
  unfold Instr.checkKey
  simp [D2 hk]
 have hfk:(Instr.findKey kt (.string ⟨x.1.toArray⟩) ents.toList).run P w=.ok none w:=by
  unfold Instr.findKey
  simp only [Sem.run_bind,D2 hk,Result.andThen_ok,B0n x.1 ents.toList es 0 he hn,Sem.run_pure]
 have hset:(setObj r (.map (ents.push { key:=.string ⟨x.1.toArray⟩,val:=.int .i64 x.2,born:=c }) (c+1)):Sem Unit).run P w=.ok () ({ w with heap:=w.heap.setIfInBounds r (.map (ents.push { key:=.string ⟨x.1.toArray⟩,val:=.int .i64 x.2,born:=c }) (c+1)) }):=by
  simp [setObj,Sem.run,hb]
 unfold Instr.mapUpdate
 simp only [Sem.run_bind,D2 hT,Result.andThen_ok,hobj,hck,hfk,hset]
theorem C92 (w:World) (o o':Obj):{ (w.alloc o) with heap:=(w.alloc o).heap.setIfInBounds w.heap.size o' } = w.alloc o':=by
 have h:(w.alloc o).heap.setIfInBounds w.heap.size o'=(w.alloc o').heap:=by
  refine Array.ext (by simp) fun i h1 h2=>?_
  have e1:=T8 w o'
  rw [Array.getElem_setIfInBounds (by simpa using h1)]
  split
  ·rename_i hi
   subst hi
   exact ((Array.getElem?_eq_some_iff.1 e1).2).symm
  ·rename_i hi
   have hlt:i < w.heap.size:=by simp at h2;omega
   have a1:=K8 w o hlt
   have a2:=K8 w o' hlt
   have a3:(w.alloc o).heap[i]?=(w.alloc o').heap[i]?:=a1.trans a2.symm
   rw [Array.getElem?_eq_getElem (by simpa using h1),Array.getElem?_eq_getElem h2] at a3
   exact Option.some.inj a3
 rw [h]
 rfl
def C5w (T:TypeId) (d:Nat):List (List UInt8 × Int)→List Oper→Prop
 | [],[]=>True
 | x::es,o::ins=>D9u T d x o∧C5w T d es ins
 | _,_=>False
theorem D2a {ops:Array Oper} {B:Exit→Act→World→Prop} {T kt et:TypeId} {d:Nat} {rest:List Oper} {w:World} {a:Act} (hT:P.underlying T=some (.map kt et)) (hk:P.underlying kt=some .string)
  (ha:a.eval (.tmp d)=.map (some w.heap.size)):∀ (ins:List Oper) (es1 es2:List (List UInt8 × Int)) (i:Nat) (ents:Array MapEntry) (c:Nat),ops.toList.drop i=ins++rest→C5w T d es2 ins →
  ents.toList.map (fun e=>(e.key,e.val))=es1.map (fun x=>(Value.string ⟨x.1.toArray⟩,Value.int .i64 x.2))→((es1++es2).map (·.1)).Nodup →
  (∀ ents' c',ents'.toList.map (fun e=>(e.key,e.val))=(es1++es2).map (fun x=>(Value.string ⟨x.1.toArray⟩,Value.int .i64 x.2))→wpOps P ops B (List.range' (i+ins.length) rest.length) a (w.alloc (.map ents' c'))) →
  wpOps P ops B (List.range' i (ins.length+rest.length)) a (w.alloc (.map ents c))
 | [],es1,es2,i,ents,c,hd,hf,he,hn,h=>by
  cases es2 with
  | cons x es2=>exact hf.elim
  | nil =>
   rw [List.append_nil] at h
   have:=h ents c he
   simpa using this
 | o::ins,es1,es2,i,ents,c,hd,hf,he,hn,h=>by
  cases es2 with
  | nil=>exact hf.elim
  | cons x es2 =>
   obtain ⟨⟨p1,p2,p3⟩,hf⟩:=hf
   have hlt:i < ops.toList.length:=by
    rcases Nat.lt_or_ge i ops.toList.length with hh|hh
    ·exact hh
    ·rw [List.drop_of_length_le hh] at hd;cases hd
   have hd':=hd
   rw [List.drop_eq_getElem_cons hlt] at hd'
   injection hd' with ho hd2
   have hoi:ops[i]?=some o:=by rw [← Array.getElem?_toList,List.getElem?_eq_getElem hlt,ho]
   rw [show (o::ins).length+rest.length=(ins.length+rest.length)+1 by simp only [List.length_cons];omega,List.range'_succ]
   have hw:∀ t,Region.wanted o t=true:=fun t=>by unfold Region.wanted;rw [p3]
   simp only [wpOps,hoi,hw,if_true]
   refine .inl ?_
   have hat:=T8 w (.map ents c)
   have hne:∀ y ∈ es1,y.1≠x.1:=by
    intro y hy hh
    rw [List.map_append,List.nodup_append] at hn
    exact hn.2.2 y.1 (List.mem_map.2 ⟨y,hy,rfl⟩) x.1 (by simp) hh
   have hrun:=D6o (P:=P) (w:=w.alloc (.map ents c)) x hT hk hat he hne
   rw [C92] at hrun
   have hx:(execOp a.eval o).run P (w.alloc (.map ents c))=.ok .skip (w.alloc (.map (ents.push { key:=.string ⟨x.1.toArray⟩,val:=.int .i64 x.2,born:=c }) (c+1))):=by
    obtain ⟨dst,op,ty,pos,aft,grd⟩:=o
    simp only at p1 p2 p3
    subst p1
    have ha':a.tmps[d]?.getD undef=.map (some w.heap.size):=by simpa [Act.eval] using ha
    simp [execOp,Act.eval,ha',hrun]
   unfold Oper.wp
   rw [hx,Oper.upon_skip,p2]
   show wpOps P ops B (List.range' (i+1) (ins.length+rest.length)) a _
   refine D2a hT hk ha ins (es1++[x]) es2 (i+1) _ _ hd2 hf (by simp [he]) (by simpa using hn) fun ents' c' he'=>?_
   have:=h ents' c' (by simpa using he')
   rwa [show i+(o::ins).length=i+1+ins.length by simp only [List.length_cons];omega] at this
theorem B3o {o:Oper} (h:o.guard=none):∀ t,Region.wanted o t=true:=fun t=>by unfold Region.wanted;rw [h]
theorem AWp.mapLit {id:Nat} {ops:Array Oper} {o0 mk:Oper} {ins rest:List Oper} (es:List (List UInt8 × Int)) {T kt et:TypeId} {d i0:Nat} {x0:Operand} (hops:ops.toList=o0::mk::(ins++rest)) (hok:ops.toList.all (A1r n)=true)
  (h0:o0.op=.move x0) (hd0:o0.dst=some i0) (hg0:o0.guard=none) (hmk:mk.op=.makeMap T none) (hmd:mk.dst=some d) (hmg:mk.guard=none) (hins:C5w T d es ins)
  (hT:P.underlying T=some (.map kt et)) (hk:P.underlying kt=some .string) (hnd:(es.map (·.1)).Nodup)
  (h:A39 P Γ ops rest (upd (upd e i0 (evA Γ e x0)) d (.cmap es)) s fun e' s'=>Q .normal e' s'):AWp P Γ n (.region id ops false) Q e s:=by
 refine ⟨fun G w a hm he=>wp_region ?_⟩
 have hok0:A1r n o0=true:=List.all_eq_true.1 hok o0 (by rw [hops];simp)
 have hok1:A1r n mk=true:=List.all_eq_true.1 hok mk (by rw [hops];simp)
 have hi0:i0 < n:=A0p hok0 i0 hd0
 have hdn:d < n:=A0p hok1 d hmd
 have hsz:ops.size=(ins.length+rest.length)+2:=by
  have:=congrArg List.length hops
  simpa using this
 rw [List.range_eq_range',hsz,List.range'_succ,List.range'_succ]
 have e0:ops[0]?=some o0:=by rw [← Array.getElem?_toList,hops];rfl
 have e1:ops[1]?=some mk:=by rw [← Array.getElem?_toList,hops];rfl
 simp only [wpOps,e0,B3o hg0,if_true]
 refine .inl ?_
 have hx0:okX x0=true:=by
  have:=A5w hok0 x0
  rw [h0] at this
  exact this (by simp [Op.operands])
 have hr0:=B49 hm he hx0
 have he0:=he.put (d:=some i0) (fun j hj=>by cases hj;exact hi0) hr0
 have hrun0:(execOp a.eval o0).run P w=.ok (.value (a.eval x0)) w:=by
  obtain ⟨dst,op,ty,pos,aft,grd⟩:=o0
  simp only at h0
  subst h0
  rfl
 unfold Oper.wp
 rw [hrun0,Oper.upon_value,hd0]
 simp only [wpOps,show (0+1:Nat)=1 from rfl,e1,B3o hmg,if_true]
 refine .inl ?_
 have hrun1:(execOp (a.put (some i0) (a.eval x0)).eval mk).run P w=.ok (.value (.map (some w.heap.size))) (w.alloc (.map #[] 0)):=by
  obtain ⟨dst,op,ty,pos,aft,grd⟩:=mk
  simp only at hmk
  subst hmk
  rfl
 rw [hrun1,Oper.upon_value,hmd]
 have hev:((a.put (some i0) (a.eval x0)).put (some d) (.map (some w.heap.size))).eval (.tmp d)=.map (some w.heap.size):=by
  have hs:(a.put (some i0) (a.eval x0)).tmps.size=n:=he0.size
  simp only [Act.put,Act.eval] at hs ⊢
  have h1:d < ((a.tmps.setIfInBounds i0 (a.eval x0)).setIfInBounds d (Value.map (some w.heap.size))).size:=by simpa using (by simpa using hs:a.tmps.size=n) ▸ hdn
  have h2:d < a.tmps.size:=by simpa using h1
  simp [Array.getD_eq_getD_getElem?,Array.getElem?_eq_getElem h1]
  intro hh
  omega
 refine D2a hT hk hev ins [] es 2 #[] 0 (by rw [hops];rfl) hins rfl (by simpa using hnd) fun ents c hents=>?_
 rw [List.nil_append] at hents
 obtain ⟨hm2,X2⟩:=hm.row_new (.map ents c)
 have hR:R (G.setKd w.heap.size .fixd) (w.alloc (.map ents c)) (.cmap es) (.map (some w.heap.size)):=B9x.2 ⟨_,ents,c,rfl,by simp [Gh.setKd],T8 w _,hents⟩
 have he2:=(he0.mono X2).put (d:=some d) (fun j hj=>by cases hj;exact hdn) hR
 exact B51 (P:=P) (Γ:=Γ) (Q:=Q) (n:=n) hok rest (2+ins.length) (by rw [hops,show 2+ins.length=ins.length+2 by omega];show (ins++rest).drop ins.length=rest;rw [List.drop_left]) X2 hm2 he2 h
end Go.Ab
namespace Go.Proofs.YticnkpgmmpenlaaGreatDoor.Er
open Go Go.RowKit Go.Extern.Stop Go.Stop Go.Extern
theorem B5n (v:Value) (w:World):(Extern.ReflectliteType.typeOf #[.iface 368 v]).run Tryz.prog w=.ok (.iface 271 (.agg #[.pointer (some ⟨13,368,none⟩)])) w:=by kernel_rfl
theorem A6l (w : World) : ((Extern.ReflectliteType.method fun t => do Extern.Rtype.noPackHeld "Comparable" t; (fun a => Value.bool a.comparable) <$> typeInfo t) #[.agg #[.pointer (some ⟨13, 368, none⟩)]]).run Tryz.prog w = .ok (.bool true) w := by kernel_rfl
theorem A00 (v : Value) (w : World) : (Go.method 497 271 v "Comparable").run Tryz.prog w = .ok (351, v) w := by kernel_rfl
theorem C47:(Tryz.prog.info? 368).map (·.comparable)=some true:=by kernel_rfl
theorem D7v:(Tryz.prog.info? 370).map (·.size)=some 1:=by kernel_rfl
theorem D2w (v:Value) (xT:TypeId) (w:World):(Instr.typeAssert (.iface 357 v) xT 309 true).run Tryz.prog w=.ok (.tuple #[.nilIface,.bool false]) w:=run_typeAssert_lacksB Tryz.underlying309 (by kernel_rfl) (by kernel_rfl) v xT w
theorem A9r (v:Value) (xT:TypeId) (w:World):(Instr.typeAssert (.iface 357 v) xT 279 true).run Tryz.prog w=.ok (.tuple #[.iface 357 v,.bool true]) w:=run_typeAssert_hasB Tryz.underlying279 (by kernel_rfl) v xT w
theorem A6o (v : Value) (w : World) : (Go.method 497 357 v "Unwrap").run Tryz.prog w = .ok (362, v) w := by kernel_rfl
theorem D7w (b:Addr) (w:World) :
  Calls Tryz.prog 161 #[.nilIface,.iface 368 (.pointer (some b))] w fun e w'=>e=.returned (.bool false)∧w'=w:=by
 have hn:=run_eql_iface_nil_left (P:=Tryz.prog) w 368 (.pointer (some b)) Tryz.underlying98
 go_enter Tryz.func161,Tryz.ntmps161
 go_wp2
 go_ret
 exact ⟨rfl,rfl⟩
theorem D7x (pb:Nat) (b:Addr) (c0 c1:Value) (T:TypeId) (w:World) (h1:w.heap[pb]?=some (.cells #[c0,c1,.iface 368 (.pointer (some b))] T (0,0))) :
  Calls Tryz.prog 161 #[.iface 357 (.pointer (some ⟨pb,0,none⟩)),.iface 368 (.pointer (some b))] w fun e w'=>e=.returned (.bool true)∧w'=w:=by
 have hc2:w.cell? ⟨pb,0+2,none⟩=some (.iface 368 (.pointer (some b))):=by
  simp [World.cell?,h1]
 obtain ⟨i,hi,hcmp⟩:=Option.map_eq_some_iff.1 C47
 obtain ⟨j,hj,hjs⟩:=Option.map_eq_some_iff.1 D7v
 have h8:=@run_callFunc_extern Tryz.prog 223 _ Extern.ReflectliteType.typeOf Tryz.func223 (by kernel_rfl) (by kernel_rfl) (by kernel_rfl) (by kernel_rfl)
 have h32 := @run_callFunc_extern Tryz.prog 351 _ (Extern.ReflectliteType.method fun t => do Extern.Rtype.noPackHeld "Comparable" t; pure (.bool (← typeInfo t).comparable)) Tryz.func351 (by kernel_rfl) (by kernel_rfl) (by kernel_rfl) (by kernel_rfl)
 have tT:=B5n
 have cT:=A6l
 have mR:=A00
 have nW:=D2w
 have uW:=A9r
 have mU:=A6o
 have heq:=run_eql_iface_ptr_same (P:=Tryz.prog) w b Tryz.underlying98 Tryz.underlying368 hi hcmp hj
 have hty:=run_eql_iface_types (P:=Tryz.prog) 357 368 (.pointer (some ⟨pb,0,none⟩)) (.pointer (some b)) Tryz.underlying98 (by decide) w
 go_enter Tryz.func161,Tryz.ntmps161
 go_wp2
 refine wp_loop_rounds 2 ?_
 rw [rounds_succ]
 go_wp2
 rw [rounds_succ]
 go_wp2
 go_ret
 exact ⟨rfl,rfl⟩
end Go.Proofs.YticnkpgmmpenlaaGreatDoor.Er
namespace Go.Proofs.YticnkpgmmpenlaaGreatDoor.Nu
open Go Go.Ab Go.RowKit
def A48:List UInt8:=[48,49,50,51,52,53,54,55,56,57]
def A4v (l:List UInt8):Bool :=
 let d:=Lib.trimPrefix l [45]
 !decide (d=[]) && !(decide ((B9 d 0).toNat=48) && decide (1 < l.length)) && decide (Lib.trimS d A48=[])
variable {Γ:Nat→AV}
theorem B72 (l:List UInt8):B7 Tryz.prog Γ 304 [.str l,.str [45]] fun v=>v=.str (Lib.trimPrefix l [45]):=by
 intro s
 refine A6.of_below fun G w vs hm hr=>?_
 obtain ⟨u,us,rfl,hu,hus⟩:=B8.1 hr
 obtain ⟨u1,us1,rfl,hu1,hus1⟩:=B8.1 hus
 rw [C2] at hus1;subst hus1
 rw [K4] at hu hu1;subst hu hu1
 exact ⟨_,fun G' w'=>K4.2 rfl,(Tryz.strings_TrimPrefix ⟨l.toArray⟩ ⟨#[45]⟩ w).mono fun e w' ⟨he,hw⟩=>⟨he,by subst hw;exact Below.refl _ _⟩⟩
theorem B37 (l:List UInt8) (hl:l.length≤1048576):B7 Tryz.prog Γ 270 [.str l,.str A48] fun v=>v=.str (Lib.trimS l A48):=by
 intro s
 refine A6.of_below fun G w vs hm hr=>?_
 obtain ⟨u,us,rfl,hu,hus⟩:=B8.1 hr
 obtain ⟨u1,us1,rfl,hu1,hus1⟩:=B8.1 hus
 rw [C2] at hus1;subst hus1
 rw [K4] at hu hu1;subst hu hu1
 exact ⟨_,fun G' w'=>K4.2 rfl,Any.strings_Trim_laid Tryz.lays160 (by kernel_rfl) ⟨l.toArray⟩ ⟨A48.toArray⟩ w (by show l.length≤_;omega) (by decide) (ascii_of_all (by decide))⟩
theorem B67 (l:List UInt8):(Lib.trimPrefix l [45]).length≤l.length:=by
 unfold Lib.trimPrefix;split
 ·simp
 ·exact Nat.le_refl _
attribute [local irreducible] B7 Sto.set Sto.grow
theorem D1a {a b:Bool} (h:a=b):AV.bool a=.bool b:=by rw [h]
theorem D5v (l:List UInt8) (hl:l.length≤1048576):B7 Tryz.prog Γ 293 [.str l] fun v=>v=.bool (A4v l):=by
 have hd:=B67 l
 have hf:A4v l=(!decide (Lib.trimPrefix l [45]=[]) && !(decide ((B9 (Lib.trimPrefix l [45]) 0).toNat=48) && decide (1 < l.length)) && decide (Lib.trimS (Lib.trimPrefix l [45]) A48=[])):=rfl
 refine aps Tryz.func293 ?_
 intro s
 conv=>whnf
 have h0:¬ Lib.trimPrefix l [45]=[]→0 < (Lib.trimPrefix l [45]).length:=fun h=>List.length_pos_iff.2 h
 have tk:=fun Γ=>B72 (Γ:=Γ) l
 generalize Lib.trimPrefix l [45]=d at *
 repeat' (first
  | (refine ⟨Sub.refl _,?_⟩)
  | (refine E7 (fun h=>?_) (fun h=>?_)<;>(try rw [h])<;>(try simp only [Bool.false_eq_true,Bool.true_eq_false,↓reduceIte,decide_eq_true_eq,decide_eq_false_iff_not,Bool.not_eq_true',Bool.not_eq_false'] at h)<;>(conv=>whnf))
  | (refine A6.pure' ?_ (tk _);rintro _ rfl;conv=>whnf)
  | (refine C0.pure ?_ (tk _);conv=>whnf)
  | (refine ⟨by have:=h0 h;(show (0:Int).toNat < d.length);omega,?_⟩;conv=>whnf)
  | (refine A6.pure' ?_ (B37 d (by omega));rintro _ rfl;conv=>whnf)
  | (refine C0.pure ?_ (B37 d (by omega));conv=>whnf)
  | (refine E1 ?_;conv=>whnf)
  | (refine AWp.any (by kernel_rfl) (by kernel_rfl) (by kernel_rfl) ?_;conv=>whnf)
  | (apply And.intro;(focus (first|omega|rfl|decide|exact Nat.le_of_ble_eq_true rfl|((repeat' (first|exact all_nil|refine all_cons ?_ ?_|rfl|fail));done)|(simp [-List.length_flatMap];done)|(simp [-List.length_flatMap];omega)|fail));conv=>whnf)
  | fail)
 all_goals refine D1a ?_
 all_goals rw [hf]
 all_goals try simp only [show Int.toNat 0=0 from rfl] at *
 all_goals simp [*]
 all_goals omega
end Go.Proofs.YticnkpgmmpenlaaGreatDoor.Nu
namespace Go.Proofs.YticnkpgmmpenlaaGreatDoor.Nu
open Go Go.Ab Go.RowKit
variable {Γ:Nat→AV}
def A0l (Γ:Nat→AV):Prop:=∃ txt,Γ 7=.cptr [.iface 368 (.cptr [.str txt])]
theorem C8l (hE:A0l Γ) {G:Gh} {s:Sto} {w:World} (hm:Mod Γ G s w):∃ b:Addr,w.cell? ⟨7,0,none⟩=some (.iface 368 (.pointer (some b))):=by
 obtain ⟨txt,hE⟩:=hE
 have h:=(hm.glob 7).r
 rw [hE] at h
 obtain ⟨b,o,e,hc⟩:=P0.1 h
 injection e with e;injection e with e;injection e with e1 e2 e3
 subst e1 e2
 unfold D6 at hc
 obtain ⟨_,⟨u,hu,hr⟩,_⟩:=hc
 obtain ⟨z,rfl,hz⟩:=R1.1 hr
 obtain ⟨b,o,rfl,_⟩:=P0.1 hz
 exact ⟨_,hu⟩
def A28 (l:List UInt8):Int:=if A4v l=true then (match Lib.parseIntB 64 l with|.ok _=>0|.range=>5|_=>4) else 4
def B70 (l:List UInt8):Int:=if A4v l=true then (match Lib.parseIntB 64 l with|.ok v=>v|_=>0) else 0
theorem C9x (l:List UInt8) (hl:l.length≤1048576) (hE:A0l Γ) (hs:A4v l=true→Lib.parseIntB 64 l≠Lib.NumEnd.syntax):B7 Tryz.prog Γ 273 [.str l] fun v=>v=.tuple [.int .i64 (B70 l),.int .i64 (A28 l)]:=by
 intro s
 refine ⟨fun G w vs hm hr=>?_⟩
 obtain ⟨u,us,rfl,hu,hus⟩:=B8.1 hr
 rw [C2] at hus;subst hus
 rw [K4] at hu;subst hu
 have cf:=(D5v l hl s).run G w [.string ⟨l.toArray⟩] hm (B8.2 ⟨_,[],rfl,K4.2 rfl,C2.2 rfl⟩)
 go_enter Tryz.func273,Tryz.ntmps273
 go_wp2_with fail
 refine cf.mono ?_
 rintro e w1 ⟨v,av,s',G1,rfl,⟨rfl,rfl⟩,hR,hm1,hX1⟩
 rw [H5] at hR;subst hR
 have done:∀ (n e:Int) (w2:World),B70 l=n→A28 l=e→Below w1.heap.size w1 w2→∃ v av s2 G',Ending.returned (.tuple #[.int .i64 n,.int .i64 e])=Ending.returned v∧(av=AV.tuple [.int .i64 (B70 l),.int .i64 (A28 l)]∧s2=s')∧R G' w2 av v∧Mod Γ G' s2 w2∧Ext G w G' w2:=by
  rintro n e w2 rfl rfl hb2
  obtain ⟨m1,m2⟩:=hm1.below hb2
  exact ⟨_,_,_,G1,rfl,⟨rfl,rfl⟩,A2f.2 ⟨_,rfl,B8.2 ⟨_,_,rfl,G3.2 rfl,B8.2 ⟨_,_,rfl,G3.2 rfl,C2.2 rfl⟩⟩⟩,m1,hX1.trans m2⟩
 cases hf:A4v l
 ·go_wp2_with fail
  go_returns
  exact done 0 4 w1 (by unfold B70;rw [hf];rfl) (by unfold A28;rw [hf];rfl) (Below.refl _ _)
 ·obtain ⟨b,hb⟩:=C8l hE hm1
  have hb0:7 < w1.heap.size:=Nat.lt_of_not_le fun hge=>by
   unfold World.cell? at hb
   rw [Array.getElem?_eq_none (by exact hge)] at hb
   cases hb
  cases hp:Lib.parseIntB 64 l with
  | ok n =>
   have cp:=Tryz.strconv_ParseInt_10_at64_ok ⟨l.toArray⟩ (by show l.length≤_;omega) n hp w1
   go_wp2_with fail
   refine cp.mono ?_
   rintro e w2 ⟨rfl,hw2⟩
   have hB:Below w1.heap.size w1 w2:=by
    rcases hw2 with rfl|⟨t,rfl⟩
    ·exact Below.refl _ _
    ·exact Lib.bytesWorld_below _ _ _
   have hb2:=(hB.cell (p:=⟨7,0,none⟩) hb0).trans hb
   have ci:=Er.D7w b w2
   go_wp2_with fail
   refine ci.mono ?_
   rintro e w3 ⟨rfl,rfl⟩
   go_wp2_with fail
   go_returns
   exact done n 0 _ (by unfold B70;rw [hf,hp];rfl) (by unfold A28;rw [hf,hp];rfl) hB
  | range =>
   have cp:=Tryz.strconv_ParseInt_10_at64_range ⟨l.toArray⟩ (by show l.length≤_;omega) hp _ w1 hb (.inr ⟨_,_,rfl⟩)
   go_wp2_with fail
   refine cp.mono ?_
   rintro e w2 ⟨N,rfl,hN1,hN2,hB⟩
   have hb2:=(hB.cell (p:=⟨7,0,none⟩) hb0).trans hb
   have ci:=Er.D7x N b _ _ _ w2 hN2
   go_wp2_with fail
   refine ci.mono ?_
   rintro e w3 ⟨rfl,rfl⟩
   go_wp2_with fail
   go_returns
   exact done 0 5 _ (by unfold B70;rw [hf,hp];rfl) (by unfold A28;rw [hf,hp];rfl) hB
  | _=>exact absurd hp (hs hf)
end Go.Proofs.YticnkpgmmpenlaaGreatDoor.Nu
namespace Go.Proofs.YticnkpgmmpenlaaGreatDoor.Nu
open Go Go.Ab Go.RowKit
def isD (c:UInt8):Bool:=decide (48≤c.toNat) && decide (c.toNat≤57)
theorem B7r:∀ c:UInt8,A48.contains c=isD c:=by
 intro c
 have:∀ n:Nat,n < 256→A48.contains (UInt8.ofNat n)=isD (UInt8.ofNat n):=by decide +kernel
 have h:=this c.toNat c.toNat_lt
 rwa [UInt8.ofNat_toNat] at h
theorem A6i {p:UInt8→Bool}:∀ l:List UInt8,l.dropWhile p=[]↔∀ x ∈ l,p x=true
 | []=>by simp
 | c::r=>by
  have ih:=A6i (p:=p) r
  rw [List.dropWhile_cons]
  cases h:p c
  ·simp [h]
  ·rw [if_pos rfl,ih]
   simp [h]
theorem D0n (l:List UInt8):(Lib.trimS l A48=[])↔l.all isD=true:=by
 have hc:(fun c=>A48.contains c)=isD:=funext B7r
 unfold Lib.trimS Lib.trimLeftS Lib.trimRightS
 rw [hc]
 constructor
 ·intro h
  rw [A6i] at h
  by_cases hn:l.reverse.dropWhile isD=[]
  ·rw [A6i] at hn
   exact List.all_eq_true.2 fun x hx=>hn x (List.mem_reverse.2 hx)
  ·have h1:=List.head_dropWhile_not isD hn
   have h2:=h _ (List.mem_reverse.2 (List.head_mem hn))
   rw [h1] at h2
   cases h2
 ·intro h
  have:l.reverse.dropWhile isD=[]:=(A6i _).2 fun x hx=>List.all_eq_true.1 h x (List.mem_reverse.1 hx)
  rw [this]
  rfl
def from_ (l:List UInt8):Nat:=if B9 l 0=45 then 1 else 0
theorem B3u (l:List UInt8):Lib.trimPrefix l [45]=l.drop (from_ l):=by
 unfold Lib.trimPrefix Lib.hasPrefix from_
 cases l with
 | nil=>rfl
 | cons c r =>
  by_cases h:c=45
  ·subst h;rfl
  ·have h1:([45]:List UInt8).isPrefixOf (c::r)=false:=by
    simp [List.isPrefixOf,h]
    exact fun e=>h e.symm
   rw [h1]
   simp [B9,h]
theorem C0d (l:List UInt8):A4v l=(!decide (l.length≤from_ l) && !(decide ((B9 l (from_ l)).toNat=48) && decide (1 < l.length)) && (l.drop (from_ l)).all isD):=by
 unfold A4v
 simp only [B3u]
 have h1:decide (l.drop (from_ l)=[])=decide (l.length≤from_ l):=decide_eq_decide.2 List.drop_eq_nil_iff
 have h2:B9 (l.drop (from_ l)) 0=B9 l (from_ l):=by simp [B9,List.getD]
 have h3:decide (Lib.trimS (l.drop (from_ l)) A48=[])=(l.drop (from_ l)).all isD:=by
  rw [Bool.eq_iff_iff,decide_eq_true_iff];exact D0n _
 rw [h1,h2,h3]
def nv:List UInt8→Nat→Nat
 | [],a=>a
 | c::r,a=>nv r (a * 10+(c.toNat - 48))
theorem D67:∀ (l:List UInt8) (a:Nat),a≤nv l a
 | [],a=>Nat.le_refl _
 | c::r,a=>by
  have:=D67 r (a * 10+(c.toNat - 48))
  show a≤nv r _
  omega
theorem B9d:∀ (d:List UInt8) (a:Nat),d.all isD=true→a≤18446744073709551615→Lib.parseUintM 18446744073709551615 a d=if nv d a≤18446744073709551615 then .ok (nv d a) else .range
 | [],a=>fun _ h=>by unfold Lib.parseUintM nv;rw [if_pos h]
 | c::r,a=>fun h ha=>by
  rw [List.all_cons,Bool.and_eq_true] at h
  have hd:48≤c.toNat∧c.toNat≤57:=by simpa [isD] using h.1
  have hg:=D67 r (a * 10+(c.toNat - 48))
  unfold Lib.parseUintM nv
  rw [if_pos hd]
  split
  ·rw [if_neg (by omega)]
  ·split
   ·rw [if_neg (by omega)]
   ·exact B9d r _ h.2 (by omega)
def Z4 (l:List UInt8):Nat:=nv (l.drop (from_ l)) 0
theorem B54 {l:List UInt8} (h:A4v l=true):Lib.parseIntB 64 l=if from_ l=1 then (if Z4 l≤9223372036854775808 then .ok (-(Z4 l:Int)) else .range) else (if Z4 l < 9223372036854775808 then .ok (Z4 l:Int) else .range):=by
 rw [C0d,Bool.and_eq_true,Bool.and_eq_true] at h
 obtain ⟨⟨h1,h2⟩,h3⟩:=h
 have h1:¬ l.length≤from_ l:=by simpa using h1
 have hne:l.drop (from_ l)≠[]:=fun e=>h1 (List.drop_eq_nil_iff.1 e)
 cases l with
 | nil=>simp at h1
 | cons c r =>
  have hp:=B9d ((c::r).drop (from_ (c::r))) 0 h3 (by omega)
  unfold Lib.parseIntB Z4
  by_cases hc:c=45
  ·subst hc
   have hf:from_ ((45:UInt8)::r)=1:=rfl
   rw [hf] at hp hne ⊢
   simp only [List.drop_succ_cons,List.drop_zero] at hp hne ⊢
   have e1:(if (45:UInt8).toNat=43∨(45:UInt8).toNat=45 then r else (45:UInt8)::r)=r:=rfl
   simp only [e1]
   unfold Lib.parseUintB
   rw [if_neg hne]
   rw [show 2 ^ 64 - 1=18446744073709551615 from rfl,hp]
   by_cases hv:nv r 0≤18446744073709551615
   ·rw [if_pos hv]
    dsimp only
    have e2:¬ (¬ (45:UInt8).toNat=45∧2 ^ (64 - 1)≤nv r 0):=fun h=>h.1 rfl
    rw [if_neg e2]
    by_cases h9:nv r 0≤9223372036854775808
    ·have e3:¬ ((45:UInt8).toNat=45∧2 ^ (64 - 1) < nv r 0):=fun h=>by
      have h2:9223372036854775808 < nv r 0:=h.2
      omega
     rw [if_neg e3]
     simp only [if_true,h9]
     rfl
    ·have e3:(45:UInt8).toNat=45∧2 ^ (64 - 1) < nv r 0:=⟨rfl,by show 9223372036854775808 < nv r 0;omega⟩
     rw [if_pos e3]
     simp only [if_true,h9,if_false]
   ·have h9:¬ nv r 0≤9223372036854775808:=by omega
    rw [if_neg hv]
    simp only [if_true,h9,if_false]
  ·have hf:from_ (c::r)=0:=by simp [from_,B9,hc]
   rw [hf] at hp hne h3 ⊢
   simp only [List.drop_zero] at hp hne h3 ⊢
   have hd:48≤c.toNat∧c.toNat≤57:=by
    rw [List.all_cons,Bool.and_eq_true] at h3
    simpa [isD] using h3.1
   have e1:(if c.toNat=43∨c.toNat=45 then r else c::r)=c::r:=if_neg (by omega)
   simp only [e1]
   unfold Lib.parseUintB
   rw [if_neg (by simp)]
   rw [show 2 ^ 64 - 1=18446744073709551615 from rfl,hp]
   have hn:¬ c.toNat=45:=by omega
   by_cases hv:nv (c::r) 0≤18446744073709551615
   ·rw [if_pos hv]
    dsimp only
    rw [if_neg (show ¬ (0:Nat)=1 by omega)]
    by_cases h9:nv (c::r) 0 < 9223372036854775808
    ·rw [if_neg (by simp;omega),if_neg (by simp [hn]),if_neg hn,if_pos h9]
    ·rw [if_pos (by simp [hn];omega),if_neg h9]
   ·rw [if_neg hv,if_neg (show ¬ (0:Nat)=1 by omega),if_neg (by omega)]
theorem C9j {l:List UInt8} (h:A4v l=true):Lib.parseIntB 64 l≠Lib.NumEnd.syntax:=by
 rw [B54 h]
 split<;>split<;>simp
end Go.Proofs.YticnkpgmmpenlaaGreatDoor.Nu
namespace Go.Proofs.YticnkpgmmpenlaaGreatDoor.Nu
open Go Go.Ab Go.RowKit
variable {Γ:Nat→AV}
def A7g (Γ:Nat→AV):Prop:=Γ 6=.cptr (Lib.pow10Tab.map (.int .u64))
def Q7 (n:Int):Prop:=-9223372036854775808≤n∧n≤9223372036854775807
theorem D5u {n:Int} (h:(Lit.int .i64 n).wf=true):Q7 n:=D8r h
theorem B8w (hT:A7g Γ) (n:Int) (hn:Q7 n):B7 Tryz.prog Γ 209 [.int .i64 n,.int .i64 10] fun v=>v=.str (Lib.itoa n):=by
 intro s
 refine A6.of_below fun G w vs hm hr=>?_
 obtain ⟨u,us,rfl,hu,hus⟩:=B8.1 hr
 obtain ⟨u1,us1,rfl,hu1,hus1⟩:=B8.1 hus
 rw [C2] at hus1;subst hus1
 rw [G3] at hu hu1;subst hu hu1
 refine ⟨_,fun G' w'=>K4.2 rfl,(Tryz.internal_strconv_FormatInt_10 n hn.1 hn.2 w (D8o hm (by kernel_rfl) hT)).mono ?_⟩
 rintro e w' ⟨rfl,k,os,rfl⟩
 exact ⟨rfl,Lib.below_grow _ _ (Nat.le_refl _) _ _⟩
attribute [local irreducible] B7 Sto.set Sto.grow
theorem B6y (hT:A7g Γ) (n:Int) (hn:Q7 n):B7 Tryz.prog Γ 143 [.int .i64 n,.int .i64 10] fun v=>v=.str (Lib.itoa n):=by
 refine aps Tryz.func143 ?_
 intro s
 refine wr ?_;(first|(refine A6.pure' ?_ (B8w hT _ hn);rintro _ rfl)|refine C0.pure ?_ (B8w hT _ hn));refine wr ?_
 rfl
theorem A83 (hT:A7g Γ) (n:Int) (hn:Q7 n):B7 Tryz.prog Γ 91 [.int .i64 n] fun v=>v=.str (Lib.itoa n):=by
 refine aps Tryz.func91 ?_
 intro s
 refine wr ?_;(first|(refine A6.pure' ?_ (B6y hT _ hn);rintro _ rfl)|refine C0.pure ?_ (B6y hT _ hn));refine wr ?_
 rfl
def val (x:Int):Int:=if -9223372036854775808≤x∧x≤9223372036854775807 then x else 0
def fine (x:Int):Bool:=decide (-9223372036854775808≤x∧x≤9223372036854775807)
end Go.Proofs.YticnkpgmmpenlaaGreatDoor.Nu
namespace Go.Proofs.YticnkpgmmpenlaaGreatDoor.Nu
open Go Go.Ab Go.RowKit
variable {Γ:Nat→AV}
attribute [local irreducible] B7 Sto.set Sto.grow
theorem C25 {l:List UInt8} (h:A4v l=true) :
  B70 l=(if from_ l=1 then (if Z4 l≤9223372036854775808 then -(Z4 l:Int) else 0) else (if Z4 l < 9223372036854775808 then (Z4 l:Int) else 0)) ∧
  A28 l=(if from_ l=1 then (if Z4 l≤9223372036854775808 then 0 else 5) else (if Z4 l < 9223372036854775808 then 0 else 5)):=by
 unfold B70 A28
 rw [if_pos h,if_pos h,B54 h]
 by_cases h1:from_ l=1<;>by_cases h2:Z4 l≤9223372036854775808<;>by_cases h3:Z4 l < 9223372036854775808<;>simp [h1,h2,h3]
end Go.Proofs.YticnkpgmmpenlaaGreatDoor.Nu
namespace Go.Ab
open Go Go.RowKit
variable {P:Program} {Γ:Nat→AV}
theorem D17 {f:FuncId} {e:TypeId} {k n:Nat} {s:Sto}
  (h0:n=0→∀ a w,Calls P f #[.slice a 0 0,.int .i64 (0:Nat)] w fun r w'=>r=.returned (.slice a 0 0)∧w'=w)
  (h1:0 < n→∀ a w,∃ (cells:Array Value) (cap:Nat),cells.size=cap * k∧Calls P f #[.slice a 0 0,.int .i64 (n:Int)] w fun r w'=>r=.returned (.slice (some ⟨w.heap.size,0,none⟩) 0 cap)∧w'=w.drew.alloc (.cells cells e)) :
  A6 P Γ f [.slice 1 [],.int .i64 (n:Int)] s fun v s'=>∃ t,v=.slice t []∧Own s s' true t e k:=by
 refine ⟨fun G w vs hm hr=>?_⟩
 obtain ⟨v1,vs1,rfl,hr1,hr⟩:=B8.1 hr
 obtain ⟨v2,vs2,rfl,hr2,hr⟩:=B8.1 hr
 have hr:=C2.1 hr
 subst hr
 rw [G3] at hr2
 subst hr2
 obtain ⟨a,cap,hv,hc,_,_,hc1⟩:=L7 hr1
 have hc0:cap=0:=hc1 rfl
 subst hc0
 simp only [List.length_nil] at hv
 subst hv
 by_cases hn:n=0
 ·subst hn
  refine (h0 rfl a w).mono ?_
  rintro _ _ ⟨rfl,rfl⟩
  exact ⟨_,.slice 1 [],s,G,rfl,⟨1,rfl,Own.nil s e k⟩,hr1,hm,Ext.refl _ _⟩
 ·obtain ⟨cells,cap,hsz,hrun⟩:=h1 (by omega) a w
  refine hrun.mono ?_
  rintro _ _ ⟨rfl,rfl⟩
  obtain ⟨t,G',hm',X,t0,t1,htk,hkd,hlv⟩:=hm.row_own 1 (cells:=cells) (e:=e) (k:=k) (need:=0) (cap:=cap) hsz (Nat.zero_le _)
  refine ⟨_,.slice t [],_,G',rfl,⟨t,rfl,(Sub.refl s).grow (.inl rfl) t e k,.inr ⟨t1,.inl ⟨rfl,t1,rfl,rfl⟩,hlv⟩⟩,?_,hm',X⟩
  rw [A2e]
  exact ⟨fun _ _=>htk.symm,.inl ⟨rfl,_,cap,rfl,fun h=>absurd h t1,fun h=>by cases h⟩⟩
end Go.Ab
namespace Go.Proofs.YticnkpgmmpenlaaGreatDoor.Pa
open Go Go.Ab Go.RowKit
structure Ex where
 op:Int
 a:Int
 b:Int
 name:List UInt8
 vk:Int
 vi:Int
 vs:List UInt8
 vb:Bool
 ln:Int
 cl:Int
def exA (x:Ex):List AV:=[.int .i64 x.op,.int .i64 x.a,.int .i64 x.b,.str x.name,.int .i64 x.vk,.int .i64 x.vi,.str x.vs,.bool x.vb,.int .i64 x.ln,.int .i64 x.cl]
def L9 (l:List Ex):List (List AV):=l.map exA
theorem Y4 (l:List Ex):(L9 l).length=l.length:=List.length_map ..
def S3 (by_:Int) (x:Ex):Ex:=if x.op < 4∨16 < x.op then x else if 5 < x.op then { x with a:=IntKind.i64.wrap (x.a+by_),b:=IntKind.i64.wrap (x.b+by_) } else { x with a:=IntKind.i64.wrap (x.a+by_) }
end Go.Proofs.YticnkpgmmpenlaaGreatDoor.Pa
namespace Go.Proofs.YticnkpgmmpenlaaGreatDoor.Pa
open Go Go.Ab Go.RowKit Go.Proofs.YticnkpgmmpenlaaGreatDoor.Lx
variable {Γ:Nat→AV}
attribute [local irreducible] B7 Sto.set Sto.grow
def A5v:Tok:=(0,[],0,0)
def C8 (L:List Tok) (a:Nat):Tok:=if a < L.length then L.getD a A5v else if L.length=0 then (0,[],1,1) else (0,[],(L.getD (L.length - 1) A5v).2.2.1,(L.getD (L.length - 1) A5v).2.2.2)
theorem B1p {l:List Tok} {i:Nat} (h:i < l.length):(X8 l).getD i []=Q1 (l.getD i A5v):=by simp [X8,List.getD,h]
structure Pst (s0 s:Sto) (bp bl:Nat) (L:List Tok) (a:Nat) (o:List Ex) (d:List Int) (k:Int):Prop where
 np:s0.bx bp=none
 nl:s0.bx bl=none
 ne:bp≠bl
 pr:∃ t1 t2,s.bx bp=some (123,[.ptr (some ⟨bl,0,none⟩),.slice t1 (L9 o),.slice t2 (G6 .i64 d),.int .i64 k])∧Own s0 s o.isEmpty t1 61 10∧Own s0 s d.isEmpty t2 3 1∧(t1=t2→t1=1)
 pl:s.bx bl=some (126,[.slice 0 (X8 L),.int .i64 a])
theorem Pst.sub {s0 s:Sto} {bp bl:Nat} {L:List Tok} {a:Nat} {o:List Ex} {d:List Int} {k:Int} (h:Pst s0 s bp bl L a o d k):Sub s0 s:=by
 obtain ⟨_,_,_,h1,_⟩:=h.pr
 exact h1.sub
theorem A0u {s:Sto} {bl:Nat} {L:List Tok} {a:Nat} (hb:s.bx bl=some (126,[.slice 0 (X8 L),.int .i64 a])) (hL:L.length≤1000000) (ha:a≤1000000) :
  A6 Tryz.prog Γ 115 [.ptr (some ⟨bl,0,none⟩)] s fun v s'=>v=.agg (Q1 (C8 L a))∧s'=s:=by
 have htl:=A55 L
 by_cases h1:a < L.length
 ·have hg:=B1p h1
  rw [C8,if_pos h1]
  generalize L.getD a A5v=z at *
  rw [Q1] at hg
  refine acs Tryz.func115 ?_
  conv=>whnf
  intro b2 hb2
  have n_bl_b2:bl≠b2:=A8 bxa hb2
  have n_b2_bl:=n_bl_b2.symm
  conv=>whnf
  repeat' ((first|exact pru|(refine brS (fun h=>?_) (fun h=>?_)<;>(try rw [h])<;>(try simp only [bS,↓reduceIte] at h))|refine E9 ?_|(rw [show (X8 L).getD ((a:Int)).toNat []=_ from hg])|refine gS ?_|refine aA ?_|refine nA ?_|fail)<;>(conv=>whnf))
  ·exfalso;revert h;rw [htl];simp;rintro rfl;simp at *
  ·exact ⟨s,((Sub.refl _).set hb2 _ _).set hb2 _ _,rfl,rfl⟩
 ·by_cases h0:L.length=0
  ·rw [C8,if_neg h1,if_pos h0]
   refine acs Tryz.func115 ?_
   conv=>whnf
   intro b2 hb2
   have n_bl_b2:bl≠b2:=A8 bxa hb2
   have n_b2_bl:=n_bl_b2.symm
   conv=>whnf
   repeat' ((first|exact pru|(refine brS (fun h=>?_) (fun h=>?_)<;>(try rw [h])<;>(try simp only [bS,↓reduceIte] at h))|refine E9 ?_|refine gS ?_|refine aA ?_|refine nA ?_|fail)<;>(conv=>whnf))
   ·exact ⟨s,((Sub.refl _).set hb2 _ _).set hb2 _ _,rfl,rfl⟩
   ·rename_i hc;exfalso;revert hc;simp [htl,h0]
  ·have hg:=B1p (l:=L) (i:=L.length - 1) (by omega)
   rw [C8,if_neg h1,if_neg h0]
   generalize L.getD (L.length - 1) A5v=z at *
   rw [Q1] at hg
   have hw:IntKind.i64.wrap (((X8 L).length:Int) - 1)=((L.length - 1:Nat):Int):=C7 (by omega) (by omega) (by omega)
   refine acs Tryz.func115 ?_
   conv=>whnf
   intro b2 hb2
   have n_bl_b2:bl≠b2:=A8 bxa hb2
   have n_b2_bl:=n_bl_b2.symm
   conv=>whnf
   repeat' ((first|exact pru|(refine brS (fun h=>?_) (fun h=>?_)<;>(try rw [h])<;>(try simp only [bS,↓reduceIte] at h))|refine E9 ?_|(rw [hw])|(rw [show (X8 L).getD ((L.length - 1:Nat):Int).toNat []=_ from hg])|refine gS ?_|refine aA ?_|refine nA ?_|fail)<;>(conv=>whnf))
   ·exfalso;revert h;rw [htl];simp;rintro rfl;simp at *
   ·intro b3 hb3
    have n_b2_b3:b2≠b3:=A8 bxa hb3
    have n_b3_b2:b3≠b2:=fun h=>n_b2_b3 h.symm
    have n_bl_b3:bl≠b3:=A8 bxa hb3
    have g3:s.bx b3=none:=((Sub.refl s).set hb2 _ _).none hb3
    refine wp ?_
    exact ⟨s,((((Sub.refl _).set hb2 _ _).set g3 _ _).set g3 _ _).set hb2 _ _,rfl,rfl⟩
def B7u (t:Tok) (e:Int):AV:=.iface 158 (.cptr (Q1 t++[.iface 44 (.int .i64 e)]))
theorem A3i {s0 s:Sto} {bp bl:Nat} {L:List Tok} {a:Nat} {o:List Ex} {d:List Int} {k:Int} (hP:Pst s0 s bp bl L a o d k) (hL:L.length≤1000000) (ha:a≤1000000) (e:Int) :
  A6 Tryz.prog Γ 71 [.ptr (some ⟨bp,0,none⟩),.int .i64 e] s fun v s'=>v=B7u (C8 L a) e∧s'=s:=by
 obtain ⟨t1,t2,hb,_⟩:=hP.pr
 have hpk:=A0u (Γ:=Γ) hP.pl hL ha
 generalize C8 L a=q at *
 obtain ⟨p1,p2,p3,p4⟩:=q
 have h1:A6 Tryz.prog Γ 71 [.ptr (some ⟨bp,0,none⟩),.int .i64 e] s fun v s'=>∃ b,v=.iface 158 (.ptr (some ⟨b,0,none⟩))∧s.bx b=none∧s'.bx b=some (165,Q1 (p1,p2,p3,p4)++[.iface 44 (.int .i64 e)])∧Sub s s':=by
  refine acs Tryz.func71 ?_
  refine wp ?_;(refine A6.by hpk ?_;rintro _ _ ⟨rfl,rfl⟩);refine wp ?_
  intro b13 hb13
  refine wp ?_
  exact ⟨_,Sub.refl _,b13,rfl,hb13,A7,(Sub.refl _).set hb13 _ _⟩
 refine h1.frz ?_
 rintro v s' ⟨b,rfl,h2,h3,h4⟩
 refine ⟨fz1 b 0 (Q1 (p1,p2,p3,p4)++[.iface 44 (.int .i64 e)]),s,C0f h2 h3,h4,?_,rfl⟩
 simp only [fz,fzP,C0e,List.drop_zero,fg,B7u,Q1,List.cons_append,List.nil_append,fgL]
theorem B0w {s0 s:Sto} {bp bl:Nat} {L:List Tok} {a:Nat} {o:List Ex} {d:List Int} {k:Int} (hP:Pst s0 s bp bl L a o d k) (hL:L.length≤1000000) (ha:a≤1000000) (w:List UInt8) :
  A6 Tryz.prog Γ 233 [.ptr (some ⟨bp,0,none⟩),.str w] s fun v s'=>v=.bool ((decide ((C8 L a).1=2) || decide ((C8 L a).1=5)) && decide ((C8 L a).2.1=w))∧s'=s:=by
 obtain ⟨t1,t2,hb,_⟩:=hP.pr
 have hpk:=A0u (Γ:=Γ) hP.pl hL ha
 generalize C8 L a=q at *
 obtain ⟨p1,p2,p3,p4⟩:=q
 simp only [Q1] at hpk
 refine acs Tryz.func233 ?_
 refine wp ?_;(refine A6.by hpk ?_;rintro _ _ ⟨rfl,rfl⟩);refine wp ?_
 intro b5 hb5
 conv=>whnf
 repeat' ((first|exact pru|(refine brS (fun h=>?_) (fun h=>?_)<;>(try rw [h])<;>(try simp only [bS,↓reduceIte] at h))|refine E9 ?_|refine gS ?_|refine aA ?_|refine nA ?_|fail)<;>(conv=>whnf))
 all_goals (refine ⟨_,((Sub.refl _).set hb5 _ _).set hb5 _ _,?_,rfl⟩;refine congrArg AV.bool ?_;simp_all)
theorem Pst.next {s0 s:Sto} {bp bl:Nat} {L:List Tok} {a:Nat} {o:List Ex} {d:List Int} {k:Int} (hP:Pst s0 s bp bl L a o d k) (a':Nat):Pst s0 (s.set bl 126 [.slice 0 (X8 L),.int .i64 a']) bp bl L a' o d k:=by
 obtain ⟨np,nl,ne,⟨t1,t2,h1,h2,h3,h4⟩,pl⟩:=hP
 exact ⟨np,nl,ne,⟨t1,t2,(A9 ne).trans h1,h2.set nl,h3.set nl,h4⟩,A7⟩
theorem C1g {s0 s:Sto} {bp bl:Nat} {L:List Tok} {a:Nat} {o:List Ex} {d:List Int} {k:Int} (hP:Pst s0 s bp bl L a o d k) (hL:L.length≤1000000) (ha:a≤100000) (w:List UInt8) :
  A6 Tryz.prog Γ 189 [.ptr (some ⟨bp,0,none⟩),.str w] s fun v s'=>v=.bool ((decide ((C8 L a).1=2) || decide ((C8 L a).1=5)) && decide ((C8 L a).2.1=w)) ∧
   Pst s0 s' bp bl L (if ((decide ((C8 L a).1=2) || decide ((C8 L a).1=5)) && decide ((C8 L a).2.1=w))=true then a+1 else a) o d k:=by
 obtain ⟨t1,t2,hb,_⟩:=hP.pr
 have hi:=B0w (Γ:=Γ) hP hL (by omega) w
 have hN:=hP.next (a+1)
 generalize ((decide ((C8 L a).1=2) || decide ((C8 L a).1=5)) && decide ((C8 L a).2.1=w))=z at *
 have hw:IntKind.i64.wrap ((a:Int)+1)=((a+1:Nat):Int):=C7 (by omega) (by omega) (by omega)
 refine acs Tryz.func189 ?_
 conv=>whnf
 cases z
 ·refine wp ?_;(refine A6.by hi ?_;rintro _ _ ⟨rfl,rfl⟩);refine wp ?_
  exact ⟨_,Sub.refl _,rfl,hP⟩
 ·repeat' ((first|exact pru|(refine brS (fun h=>?_) (fun h=>?_)<;>(try rw [h])<;>(try simp only [bS,↓reduceIte] at h))|(refine A6.by hi ?_;rintro _ _ ⟨rfl,rfl⟩)|(refine B6 hb ?_)|(refine B6 hP.pl ?_)|(rw [hw])|refine gS ?_|refine aA ?_|refine nA ?_|fail)<;>(conv=>whnf))
  exact ⟨_,Sub.refl _,rfl,hN⟩
theorem A6n {s0 s:Sto} {bp bl:Nat} {L:List Tok} {a:Nat} {o:List Ex} {d:List Int} {k:Int} (hP:Pst s0 s bp bl L a o d k) (ho:o.length≤1000000) :
  A6 Tryz.prog Γ 190 [.ptr (some ⟨bp,0,none⟩)] s fun v s'=>v=.int .i64 ((o.length:Int) - 1)∧s'=s:=by
 obtain ⟨t1,t2,hb,_⟩:=hP.pr
 have hw:IntKind.i64.wrap (((L9 o).length:Int) - 1)=(o.length:Int) - 1:=C7 (by rw [Y4]) (by omega) (by omega)
 refine acs Tryz.func190 ?_
 refine wp ?_;(rw [hw]);refine wp ?_
 exact ⟨s,Sub.refl _,rfl,rfl⟩
end Go.Proofs.YticnkpgmmpenlaaGreatDoor.Pa
namespace Go.Proofs.YticnkpgmmpenlaaGreatDoor.Pa
open Go Go.Ab Go.RowKit Go.Proofs.YticnkpgmmpenlaaGreatDoor.Lx
structure St where
 a:Nat
 o:List Ex
 d:List Int
 k:Int
abbrev Res (α:Type):=Except (Int × Int × Int) α
def A1u {α:Type} (L:List Tok) (a:Nat) (e:Int):Res α:=.error (e,(C8 L a).2.2.1,(C8 L a).2.2.2)
def B1n (t:Tok):Bool:=decide (t.1=2) || decide (t.1=5)
def isF (L:List Tok) (a:Nat) (s:List UInt8):Bool:=B1n (C8 L a) && decide ((C8 L a).2.1=s)
def N3 (L:List Tok) (a:Nat) (m:List (List UInt8 × Int)):Int:=if B1n (C8 L a)=true then B2g (C8 L a).2.1 m else 0
def A4s (d:List Int):List Int→Int→Int
 | [],m=>m
 | i::r,m=>A4s d r (if IntKind.i64.wrap (d.getD i.toNat 0+1) > m then IntKind.i64.wrap (d.getD i.toNat 0+1) else m)
def A0c (t:Tok) (x:Ex) (u:List Int) (s:St):Res St :=
 if 64 < A4s s.d u 1 then .error (13,t.2.2.1,t.2.2.2) else .ok { s with o:=s.o++[{ x with ln:=t.2.2.1,cl:=t.2.2.2 }],d:=s.d++[A4s s.d u 1] }
def ex0:Ex:=⟨0,0,0,[],0,0,[],false,0,0⟩
def A3l (L:List Tok) (one:St→Res St) (s:St):Res St :=
 if s.k=128 then A1u L s.a 13 else match one { s with a:=s.a+1,k:=s.k+1 } with
  | .error e=>.error e
  | .ok s'=>.ok { s' with k:=s'.k - 1 }
def X6 (L:List Tok) (op:Int) (one:St→Res St) (s:St):Res St :=
 match A3l L one s with
 | .error e=>.error e
 | .ok s'=>A0c (C8 L s.a) { ex0 with op:=op,a:=(s'.o.length:Int) - 1 } [(s'.o.length:Int) - 1] s'
def A47 (L:List Tok) (m:List (List UInt8 × Int)) (one:St→Res St):Nat→St→Res St
 | 0,s=>.ok s
 | n+1,s=>if N3 L s.a m=0 then .ok s else match one { s with a:=s.a+1 } with
  | .error e=>.error e
  | .ok s2=>match A0c (C8 L s.a) { ex0 with op:=N3 L s.a m,a:=(s.o.length:Int) - 1,b:=(s2.o.length:Int) - 1 } [(s.o.length:Int) - 1,(s2.o.length:Int) - 1] s2 with
   | .error e=>.error e
   | .ok s3=>A47 L m one n s3
def A0e (L:List Tok) (m:List (List UInt8 × Int)) (one:St→Res St) (s:St):Res St :=
 match one s with
 | .error e=>.error e
 | .ok s1=>A47 L m one (L.length+1) s1
def A1y (s:St) (from_ mid:Nat):St :=
 { s with
  o:=s.o.take from_++(s.o.drop mid).map (S3 (-((mid - from_:Nat):Int)))++((s.o.take mid).drop from_).map (S3 ((s.o.length - mid:Nat):Int))
  d:=s.d.take from_++s.d.drop mid++(s.d.take mid).drop from_ }
def A5m:List (List UInt8 × Int):=[([61,61],13),([33,61],14),([60],15),([60,61],16),([62],-15),([62,61],-16)]
def A7n (L:List Tok) (one:St→Res St) (s:St):Res St :=
 match one s with
 | .error e=>.error e
 | .ok s1=>if N3 L s1.a A5m=0 then .ok s1 else match one { s1 with a:=s1.a+1 } with
  | .error e=>.error e
  | .ok s2=>if N3 L s1.a A5m < 0
   then A0c (C8 L s1.a) { ex0 with op:=-(N3 L s1.a A5m),a:=(s.o.length+(s2.o.length - s1.o.length):Nat) - 1,b:=(s2.o.length:Int) - 1 } [((s.o.length+(s2.o.length - s1.o.length):Nat):Int) - 1,(s2.o.length:Int) - 1] (A1y s2 s.o.length s1.o.length)
   else A0c (C8 L s1.a) { ex0 with op:=N3 L s1.a A5m,a:=(s1.o.length:Int) - 1,b:=(s2.o.length:Int) - 1 } [(s1.o.length:Int) - 1,(s2.o.length:Int) - 1] s2
def V1 (L:List Tok) (a:Nat):Bool:=decide ((if isF L a [45]=true then a+1 else a) < L.length) && decide ((L.getD (if isF L a [45]=true then a+1 else a) A5v).1=3)
def M5 (L:List Tok) (a:Nat):Res ((Int × Int × List UInt8 × Bool) × Nat) :=
  if V1 L a=true then
    (let q:=if isF L a [45]=true then a+1 else a
     let g:=(C8 L q).2.1
     let t:=(if isF L a [45]=true∧g≠[48] then [45] else [])++g
     if Nu.A28 t≠0 then A1u L q (Nu.A28 t) else .ok ((1,Nu.B70 t,[],false),q+1))
  else if (C8 L a).1=4 then .ok ((2,0,(C8 L a).2.1,false),a+1)
  else if isF L a [116,114,117,101]=true then .ok ((3,0,[],true),a+1)
  else if isF L a [102,97,108,115,101]=true then .ok ((3,0,[],false),a+1)
  else A1u L a 16
def B7g (L:List Tok) (w:List UInt8) (s:St):Res St:=if isF L s.a w=true then .ok { s with a:=s.a+1 } else A1u L s.a 16
def orM:List (List UInt8 × Int):=[([111,114],7)]
def D40:List (List UInt8 × Int):=[([97,110,100],6)]
def D6t:List (List UInt8 × Int):=[([43],8),([45],9)]
def C7g:List (List UInt8 × Int):=[([42],10),([47],11),([37],12)]
def A2b (L:List Tok) (expr una:St→Res St) (s:St):Res St :=
 if isF L s.a [40]=true then A3l L (fun s=>match expr s with|.error e=>.error e|.ok s'=>B7g L [41] s') s
 else if (C8 L s.a).1=1∧(C8 L s.a).2.1≠[95] then A0c (C8 L s.a) { ex0 with op:=17,name:=(C8 L s.a).2.1 } [] { s with a:=s.a+1 }
 else if isF L s.a [45]=true∧V1 L s.a=false then X6 L 5 una s
 else match M5 L s.a with
  | .error e=>.error e
  | .ok (v,a')=>A0c (C8 L s.a) { ex0 with op:=1,vk:=v.1,vi:=v.2.1,vs:=v.2.2.1,vb:=v.2.2.2 } [] { s with a:=a' }
def ev (L:List Tok):Nat→Nat→St→Res St
 | 0,_,s=>.ok s
 | f+1,0,s=>A0e L orM (ev L f 1) s
 | f+1,1,s=>A0e L D40 (ev L f 2) s
 | f+1,2,s=>if isF L s.a [110,111,116]=true then X6 L 4 (ev L f 2) s else ev L f 3 s
 | f+1,3,s=>A7n L (ev L f 4) s
 | f+1,4,s=>A0e L D6t (ev L f 5) s
 | f+1,5,s=>A0e L C7g (ev L f 6) s
 | f+1,_,s=>A2b L (ev L f 0) (ev L f 6) s
end Go.Proofs.YticnkpgmmpenlaaGreatDoor.Pa
namespace Go.Proofs.YticnkpgmmpenlaaGreatDoor.Pa
open Go Go.Ab Go.RowKit Go.Proofs.YticnkpgmmpenlaaGreatDoor.Lx
variable {Γ:Nat→AV}
attribute [local irreducible] B7 Sto.set Sto.grow
section
variable {s0 s:Sto} {bp bl:Nat} {L:List Tok} {a:Nat} {o:List Ex} {d:List Int} {k:Int}
theorem isP (hP:Pst s0 s bp bl L a o d k) (hL:L.length≤1000000) (ha:a≤1000000) (w:List UInt8) :
  A6 Tryz.prog Γ 233 [.ptr (some ⟨bp,0,none⟩),.str w] s fun v s'=>v=.bool (isF L a w)∧s'=s:=B0w hP hL ha w
theorem W6 (hP:Pst s0 s bp bl L a o d k) (hL:L.length≤1000000) (ha:a≤100000) (w:List UInt8) :
  A6 Tryz.prog Γ 189 [.ptr (some ⟨bp,0,none⟩),.str w] s fun v s'=>v=.bool (isF L a w)∧Pst s0 s' bp bl L (if isF L a w=true then a+1 else a) o d k:=C1g hP hL ha w
theorem C7b (hP:Pst s0 s bp bl L a o d k) (hL:L.length≤1000000) (ha:a≤1000000) (m:List (List UInt8 × Int)) :
  A6 Tryz.prog Γ 192 [.ptr (some ⟨bp,0,none⟩),.cmap m] s fun v s'=>v=.int .i64 (N3 L a m)∧s'=s:=by
 obtain ⟨t1,t2,hb,_⟩:=hP.pr
 have hpk:=A0u (Γ:=Γ) hP.pl hL ha
 unfold N3 B1n
 generalize C8 L a=q at *
 obtain ⟨p1,p2,p3,p4⟩:=q
 simp only [Q1] at hpk
 refine acs Tryz.func192 ?_
 refine wp ?_;(refine A6.by hpk ?_;rintro _ _ ⟨rfl,rfl⟩);refine wp ?_
 intro b5 hb5
 conv=>whnf
 repeat' ((first|exact pru|(refine brS (fun h=>?_) (fun h=>?_)<;>(try rw [h])<;>(try simp only [bS,↓reduceIte] at h))|refine E9 ?_|refine gS ?_|refine aA ?_|refine nA ?_|fail)<;>(conv=>whnf))
 all_goals (refine ⟨_,((Sub.refl _).set hb5 _ _).set hb5 _ _,?_,rfl⟩;simp_all [A20])
theorem B3b (hP:Pst s0 s bp bl L a o d k) (hL:L.length≤1000000) (ha:a≤100000) :
  A6 Tryz.prog Γ 255 [.ptr (some ⟨bp,0,none⟩)] s fun v s'=>v=.bool (V1 L a)∧s'=s:=by
 obtain ⟨t1,t2,hb,_⟩:=hP.pr
 have hi:=isP (Γ:=Γ) hP hL (by omega) [45]
 have htl:=A55 L
 unfold V1
 have hw:IntKind.i64.wrap ((a:Int)+1)=((a+1:Nat):Int):=C7 (by omega) (by omega) (by omega)
 cases hm:isF L a [45]
 ·rw [hm] at hi
  simp only [Bool.false_eq_true,if_false]
  have hg:=fun h:a < L.length=>B1p h
  generalize L.getD a A5v=z at *
  simp only [Q1] at hg
  refine acs Tryz.func255 ?_
  conv=>whnf
  repeat' ((first|exact pru|(refine brS (fun h=>?_) (fun h=>?_)<;>(try rw [h])<;>(try simp only [bS,↓reduceIte] at h))|(refine B6 hb ?_)|(refine B6 hP.pl ?_)|(refine A6.by hi ?_;rintro _ _ ⟨rfl,rfl⟩)|(rw [show (X8 L).getD ((a:Int)).toNat []=_ from hg (by omega)])|refine gS ?_|refine aA ?_|refine nA ?_|fail)<;>(conv=>whnf))
  all_goals (refine ⟨_,Sub.refl _,?_,rfl⟩;first|(rw [decide_eq_true (show a < L.length by omega)];simp [A20];done)|(rw [decide_eq_false (show ¬ a < L.length by omega)];simp [A20];done))
 ·rw [hm] at hi
  simp only [if_true]
  have hg:=fun h:a+1 < L.length=>B1p h
  generalize L.getD (a+1) A5v=z at *
  simp only [Q1] at hg
  refine acs Tryz.func255 ?_
  conv=>whnf
  repeat' ((first|exact pru|(refine brS (fun h=>?_) (fun h=>?_)<;>(try rw [h])<;>(try simp only [bS,↓reduceIte] at h))|(refine B6 hb ?_)|(refine B6 hP.pl ?_)|(refine A6.by hi ?_;rintro _ _ ⟨rfl,rfl⟩)|(rw [hw])|(rw [show (X8 L).getD (((a+1:Nat):Int)).toNat []=_ from hg (by omega)])|refine gS ?_|refine aA ?_|refine nA ?_|fail)<;>(conv=>whnf))
  all_goals (refine ⟨_,Sub.refl _,?_,rfl⟩;first|(rw [decide_eq_true (show a+1 < L.length by omega)];simp [A20];done)|(rw [decide_eq_false (show ¬ a+1 < L.length by omega)];simp [A20];done))
def vlA (v:Int × Int × List UInt8 × Bool):List AV:=[.int .i64 v.1,.int .i64 v.2.1,.str v.2.2.1,.bool v.2.2.2]
def A84 (x:Int × Int × Int) (v:AV):Prop:=∃ kd t,v=B7u (kd,t,x.2.1,x.2.2) x.1
theorem Z5 (L:List Tok) (a:Nat) (e:Int):A84 (e,(C8 L a).2.2.1,(C8 L a).2.2.2) (B7u (C8 L a) e):=⟨(C8 L a).1,(C8 L a).2.1,rfl⟩
def C1k (s0:Sto) (bp bl:Nat) (L:List Tok) (o:List Ex) (d:List Int) (k:Int) (r:Res ((Int × Int × List UInt8 × Bool) × Nat)) (v:AV) (s':Sto):Prop :=
 match r with
 | .ok (x,a')=>v=.tuple [.agg (vlA x),.nilIface]∧Pst s0 s' bp bl L a' o d k
 | .error x=>∃ e a',v=.tuple [.agg (vlA (0,0,[],false)),e]∧A84 x e∧Pst s0 s' bp bl L a' o d k
theorem Pst.box (hP:Pst s0 s bp bl L a o d k) {b:Nat} (hb:s.bx b=none) (T:TypeId) (cs:List AV):Pst s0 (s.set b T cs) bp bl L a o d k:=by
 obtain ⟨np,nl,ne,⟨t1,t2,h1,h2,h3,h4⟩,pl⟩:=hP
 exact ⟨np,nl,ne,⟨t1,t2,(A9 (A8 h1 hb)).trans h1,h2.set (h2.sub.none hb),h3.set (h2.sub.none hb),h4⟩,(A9 (A8 pl hb)).trans pl⟩
theorem Pst.put (hP:Pst s0 s bp bl L a o d k) {b:Nat} (hb:s0.bx b=none) (h1:b≠bp) (h2:b≠bl) (T:TypeId) (cs:List AV):Pst s0 (s.set b T cs) bp bl L a o d k:=by
 obtain ⟨np,nl,ne,⟨t1,t2,e1,e2,e3,e4⟩,pl⟩:=hP
 exact ⟨np,nl,ne,⟨t1,t2,(A9 h1.symm).trans e1,e2.set hb,e3.set hb,e4⟩,(A9 h2.symm).trans pl⟩
theorem Pst.keep (hP:Pst s0 s bp bl L a o d k) {b:Nat} {T:TypeId} {cs:List AV} (hb:s.bx b=some (T,cs)) (h1:b≠bp) (h2:b≠bl):Pst (s0.set b T cs) s bp bl L a o d k:=by
 obtain ⟨np,nl,ne,⟨t1,t2,e1,e2,e3,e4⟩,pl⟩:=hP
 have hs:Sub (s0.set b T cs) s:=⟨fun c x hc=>(by
  by_cases hcb:c=b
  ·subst hcb;rw [A7] at hc;rw [← hc];exact hb
  ·rw [A9 hcb] at hc;exact e2.sub.bx c x hc),fun t e m hx=>e2.sub.lv t e m (by simpa [Sto.set] using hx)⟩
 exact ⟨(A9 h1.symm).trans np,(A9 h2.symm).trans nl,ne,⟨t1,t2,e1,⟨hs,e2.own.imp id fun h=>⟨h.1,h.2.1,fun e m hx=>h.2.2 e m (by simpa [Sto.set] using hx)⟩⟩,⟨hs,e3.own.imp id fun h=>⟨h.1,h.2.1,fun e m hx=>h.2.2 e m (by simpa [Sto.set] using hx)⟩⟩,e4⟩,pl⟩
theorem Pst.drop {b:Nat} {T:TypeId} {cs:List AV} (hP:Pst (s0.set b T cs) s bp bl L a o d k) (hb:s0.bx b=none):Pst s0 s bp bl L a o d k∧s.bx b=some (T,cs):=by
 obtain ⟨np,nl,ne,⟨t1,t2,e1,e2,e3,e4⟩,pl⟩:=hP
 have hsb:Sub s0 (s0.set b T cs):=(Sub.refl s0).set hb T cs
 have n1:bp≠b:=by rintro rfl;rw [A7] at np;cases np
 have n2:bl≠b:=by rintro rfl;rw [A7] at nl;cases nl
 exact ⟨⟨(A9 n1).symm.trans np,(A9 n2).symm.trans nl,ne,⟨t1,t2,e1,e2.of_sub hsb,e3.of_sub hsb,e4⟩,pl⟩,e2.sub.bx _ _ A7⟩
theorem B2i (hE:Nu.A0l Γ) (hP:Pst s0 s bp bl L a o d k) (hL:L.length≤100000) (ha:a≤100000) (hT:∀ i,(C8 L i).2.1.length≤5000) (hn:V1 L a=true) :
  A6 Tryz.prog Γ 256 [.ptr (some ⟨bp,0,none⟩)] s (C1k s0 bp bl L o d k (M5 L a)):=by
 unfold M5
 rw [if_pos hn]
 dsimp only
 unfold A1u
 have hq:(if isF L a [45]=true then a+1 else a)≤100001:=by split<;>omega
 have htk:=fun {s0 s:Sto} (hP:Pst s0 s bp bl L a o d k)=>W6 (Γ:=Γ) hP (by omega) ha [45]
 generalize (if isF L a [45]=true then a+1 else a)=q at *
 generalize isF L a [45]=mi at *
 have hTq:=hT q
 have hfl:=fun {s:Sto} (hP:Pst s0 s bp bl L q o d k) (e:Int)=>A3i (Γ:=Γ) hP (by omega) (by omega) e
 have hpk:=fun {s:Sto} (hb:s.bx bl=some (126,[.slice 0 (X8 L),.int .i64 q]))=>A0u (Γ:=Γ) hb (by omega) (by omega)
 have hev:=Z5 L q
 generalize C8 L q=p at *
 obtain ⟨p1,p2,p3,p4⟩:=p
 simp only [Q1] at hpk
 simp only at hTq
 have hw:IntKind.i64.wrap ((q:Int)+1)=((q+1:Nat):Int):=C7 (by omega) (by omega) (by omega)
 have hpr:=fun t (ht:t.length≤5001)=>Nu.C9x (Γ:=Γ) t (by omega) hE (fun h=>Nu.C9j h)
 have hmi:∀ g:List UInt8,(if mi=true∧g≠[48] then ([45]:List UInt8) else [])=if g=[48] then [] else if mi=true then [45] else []:=fun g=>by
  by_cases hg:g=[48]
  ·simp [hg]
  ·cases mi<;>simp [hg]
 rw [hmi]
 clear hmi
 refine acs Tryz.func256 ?_
 conv=>whnf
 intro b2 hb2
 conv=>whnf
 have c0:s0.bx b2=none:=hP.sub.none hb2
 have hn1:b2≠bp:=by rintro rfl;obtain ⟨_,_,h,_⟩:=hP.pr;rw [hb2] at h;cases h
 have hn2:b2≠bl:=by rintro rfl;rw [hP.pl] at hb2;cases hb2
 have hP2:=(hP.box hb2 56 [.int .i64 0,.int .i64 0,.str [],.bool false]).keep A7 hn1 hn2
 cases mi
 ·refine wp ?_;(refine A6.by (htk hP2) ?_;rintro _ s3 ⟨rfl,hP3⟩);refine wp ?_
  have hP3':=(hP3.drop c0).1
  have hb23:=(hP3.drop c0).2
  obtain ⟨t1,t2,hb3,_⟩:=hP3'.pr
  conv=>whnf
  repeat' ((first|exact pru|(refine brS (fun h=>?_) (fun h=>?_)<;>(try rw [h])<;>(try simp only [bS,↓reduceIte] at h))|(refine B6 hb3 ?_)|(refine A6.by (hpk hP3'.pl) ?_;rintro _ s4 ⟨rfl,hs4⟩;subst s4)|refine gS ?_|refine aA ?_|refine nA ?_|fail)<;>(conv=>whnf))
  ·have h48:=h
   have hpt:=hpr ([]++p2) (by simp;omega)
   repeat' ((first|exact pru|(refine brS (fun h=>?_) (fun h=>?_)<;>(try rw [h])<;>(try simp only [bS,↓reduceIte] at h))|(refine A6.pure' ?_ (hpt);rintro _ rfl)|refine C0.pure ?_ (hpt)|refine gS ?_|refine aA ?_|refine nA ?_|fail)<;>(conv=>whnf))
   ·have hbad:=h
    refine wp ?_;(refine A6.by (hfl hP3' _) ?_;rintro _ s5 ⟨rfl,hs5⟩;subst s5);refine wp ?_
    refine ⟨_,Sub.refl _,?_⟩
    simp only;rw [if_pos h48]
    rw [if_pos hbad]
    exact ⟨_,_,rfl,hev _,hP3'.put c0 hn1 hn2 _ _⟩
   ·have hgood:=h
    repeat' ((first|exact pru|(refine brS (fun h=>?_) (fun h=>?_)<;>(try rw [h])<;>(try simp only [bS,↓reduceIte] at h))|(refine B6 hb3 ?_)|(refine B6 hP3'.pl ?_)|(rw [hw])|(refine B6 ((A9 hn2).trans hb23) ?_)|refine gS ?_|refine aA ?_|refine nA ?_|fail)<;>(conv=>whnf))
    refine ⟨_,Sub.refl _,?_⟩
    simp only;rw [if_pos h48]
    rw [if_neg (fun hh=>hh hgood)]
    exact ⟨rfl,(hP3'.next (q+1)).put c0 hn1 hn2 _ _⟩
  ·have h48:=h
   have hpt:=hpr ([]++p2) (by simp;omega)
   repeat' ((first|exact pru|(refine brS (fun h=>?_) (fun h=>?_)<;>(try rw [h])<;>(try simp only [bS,↓reduceIte] at h))|(refine A6.pure' ?_ (hpt);rintro _ rfl)|refine C0.pure ?_ (hpt)|refine gS ?_|refine aA ?_|refine nA ?_|fail)<;>(conv=>whnf))
   ·have hbad:=h
    refine wp ?_;(refine A6.by (hfl hP3' _) ?_;rintro _ s5 ⟨rfl,hs5⟩;subst s5);refine wp ?_
    refine ⟨_,Sub.refl _,?_⟩
    simp only;rw [if_neg h48];simp only [Bool.false_eq_true,if_false]
    rw [if_pos hbad]
    exact ⟨_,_,rfl,hev _,hP3'.put c0 hn1 hn2 _ _⟩
   ·have hgood:=h
    repeat' ((first|exact pru|(refine brS (fun h=>?_) (fun h=>?_)<;>(try rw [h])<;>(try simp only [bS,↓reduceIte] at h))|(refine B6 hb3 ?_)|(refine B6 hP3'.pl ?_)|(rw [hw])|(refine B6 ((A9 hn2).trans hb23) ?_)|refine gS ?_|refine aA ?_|refine nA ?_|fail)<;>(conv=>whnf))
    refine ⟨_,Sub.refl _,?_⟩
    simp only;rw [if_neg h48];simp only [Bool.false_eq_true,if_false]
    rw [if_neg (fun hh=>hh hgood)]
    exact ⟨rfl,(hP3'.next (q+1)).put c0 hn1 hn2 _ _⟩
 ·refine wp ?_;(refine A6.by (htk hP2) ?_;rintro _ s3 ⟨rfl,hP3⟩);refine wp ?_
  have hP3':=(hP3.drop c0).1
  have hb23:=(hP3.drop c0).2
  obtain ⟨t1,t2,hb3,_⟩:=hP3'.pr
  conv=>whnf
  repeat' ((first|exact pru|(refine brS (fun h=>?_) (fun h=>?_)<;>(try rw [h])<;>(try simp only [bS,↓reduceIte] at h))|(refine B6 hb3 ?_)|(refine A6.by (hpk hP3'.pl) ?_;rintro _ s4 ⟨rfl,hs4⟩;subst s4)|refine gS ?_|refine aA ?_|refine nA ?_|fail)<;>(conv=>whnf))
  ·have h48:=h
   have hpt:=hpr ([]++p2) (by simp;omega)
   repeat' ((first|exact pru|(refine brS (fun h=>?_) (fun h=>?_)<;>(try rw [h])<;>(try simp only [bS,↓reduceIte] at h))|(refine A6.pure' ?_ (hpt);rintro _ rfl)|refine C0.pure ?_ (hpt)|refine gS ?_|refine aA ?_|refine nA ?_|fail)<;>(conv=>whnf))
   ·have hbad:=h
    refine wp ?_;(refine A6.by (hfl hP3' _) ?_;rintro _ s5 ⟨rfl,hs5⟩;subst s5);refine wp ?_
    refine ⟨_,Sub.refl _,?_⟩
    simp only;rw [if_pos h48]
    rw [if_pos hbad]
    exact ⟨_,_,rfl,hev _,hP3'.put c0 hn1 hn2 _ _⟩
   ·have hgood:=h
    repeat' ((first|exact pru|(refine brS (fun h=>?_) (fun h=>?_)<;>(try rw [h])<;>(try simp only [bS,↓reduceIte] at h))|(refine B6 hb3 ?_)|(refine B6 hP3'.pl ?_)|(rw [hw])|(refine B6 ((A9 hn2).trans hb23) ?_)|refine gS ?_|refine aA ?_|refine nA ?_|fail)<;>(conv=>whnf))
    refine ⟨_,Sub.refl _,?_⟩
    simp only;rw [if_pos h48]
    rw [if_neg (fun hh=>hh hgood)]
    exact ⟨rfl,(hP3'.next (q+1)).put c0 hn1 hn2 _ _⟩
  ·have h48:=h
   have hpt:=hpr ([45]++p2) (by simp;omega)
   repeat' ((first|exact pru|(refine brS (fun h=>?_) (fun h=>?_)<;>(try rw [h])<;>(try simp only [bS,↓reduceIte] at h))|(refine A6.pure' ?_ (hpt);rintro _ rfl)|refine C0.pure ?_ (hpt)|refine gS ?_|refine aA ?_|refine nA ?_|fail)<;>(conv=>whnf))
   ·have hbad:=h
    refine wp ?_;(refine A6.by (hfl hP3' _) ?_;rintro _ s5 ⟨rfl,hs5⟩;subst s5);refine wp ?_
    refine ⟨_,Sub.refl _,?_⟩
    simp only;rw [if_neg h48];simp only [if_true]
    rw [if_pos hbad]
    exact ⟨_,_,rfl,hev _,hP3'.put c0 hn1 hn2 _ _⟩
   ·have hgood:=h
    repeat' ((first|exact pru|(refine brS (fun h=>?_) (fun h=>?_)<;>(try rw [h])<;>(try simp only [bS,↓reduceIte] at h))|(refine B6 hb3 ?_)|(refine B6 hP3'.pl ?_)|(rw [hw])|(refine B6 ((A9 hn2).trans hb23) ?_)|refine gS ?_|refine aA ?_|refine nA ?_|fail)<;>(conv=>whnf))
    refine ⟨_,Sub.refl _,?_⟩
    simp only;rw [if_neg h48];simp only [if_true]
    rw [if_neg (fun hh=>hh hgood)]
    exact ⟨rfl,(hP3'.next (q+1)).put c0 hn1 hn2 _ _⟩
end
end Go.Proofs.YticnkpgmmpenlaaGreatDoor.Pa
