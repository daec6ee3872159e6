/- The walk of a region whose order is open. -/
import Derived.Orders
import Derived.Test.YtaammejliikieaaGreatDoorAb18
set_option maxRecDepth 10000
set_option maxHeartbeats 60000000
set_option linter.all false
namespace Go.Ab
open Go
def A22 (n:Nat) (listed:Array Bool):List Nat:=(List.range n).filter fun i=>!listed.getD i true
def B5q (ops:Array Oper) (listed:Array Bool):List Oper:=(A22 ops.size listed).filterMap (ops[·]?)
theorem C2s {n i:Nat} {listed:Array Bool} (hs:listed.size=n) (hi:i ∈ A22 n listed) :
  ∃ L1 L2,A22 n listed=L1++i::L2∧A22 n (listed.setIfInBounds i true)=L1++L2∧∀ j ∈ L1,j < i:=by
 obtain ⟨hir,hp⟩:=List.mem_filter.1 hi
 obtain ⟨A,B,hAB⟩:=List.append_of_mem hir
 have hpw:(List.range n).Pairwise (· < ·):=List.pairwise_lt_range
 rw [hAB,List.pairwise_append,List.pairwise_cons] at hpw
 obtain ⟨_,⟨hB,_⟩,hA⟩:=hpw
 have hA:∀ j ∈ A,j < i:=fun j hj=>hA j hj i (by simp)
 have hin:i < n:=List.mem_range.1 hir
 have other:∀ j,j≠i→(listed.setIfInBounds i true).getD j true=listed.getD j true:=fun j hj=>by
  simp only [Array.getD_eq_getD_getElem?,Array.getElem?_setIfInBounds]
  rw [if_neg (fun h=>hj h.symm)]
 have self:(listed.setIfInBounds i true).getD i true=true:=by
  simp [Array.getD,hs,hin]
 refine ⟨A.filter fun i=>!listed.getD i true,B.filter fun i=>!listed.getD i true,?_,?_,fun j hj=>hA j (List.mem_filter.1 hj).1⟩
 ·unfold A22
  rw [hAB,List.filter_append,List.filter_cons,if_pos hp]
 ·unfold A22
  rw [hAB,List.filter_append,List.filter_cons,if_neg (by simp only [self];simp)]
  congr 1
  ·exact List.filter_congr fun j hj=>by rw [other j (by have:=hA j hj;omega)]
  ·exact List.filter_congr fun j hj=>by rw [other j (by have:=hB j hj;omega)]
theorem B7l {α:Type}:∀ l:List α,(List.range l.length).filterMap (l[·]?)=l
 | []=>rfl
 | x::l=>by
  rw [List.length_cons,List.range_succ_eq_map,List.filterMap_cons]
  simp only [List.getElem?_cons_zero,List.filterMap_map]
  congr 1
  exact B7l l
section
variable {P:Program} {Γ:Nat→AV} {n:Nat}
theorem C8x {ops:Array Oper} {o:Oper}:∀ {L1 L2:List Oper} {e:Env} {s:Sto} {K:Env→Sto→Prop},(∀ x ∈ L1,B0x ops x o=true) →
  dwp P Γ ops (L1++o::L2) e s K→Tr P Γ ops o e s fun v s'=>dwp P Γ ops (L1++L2) (D7 e o.dst v) s' K
 | [],_,_,_,_,_,h=>h
 | x::L1,L2,e,s,K,hx,h=>by
  have h':Tr P Γ ops x e s fun v1 s1=>Tr P Γ ops o (D7 e x.dst v1) s1 fun v2 s2=>dwp P Γ ops (L1++L2) (D7 (D7 e x.dst v1) o.dst v2) s2 K :=
   A0l h fun v s' h=>C8x (fun y hy=>hx y (List.mem_cons_of_mem _ hy)) h
  exact swap (K:=fun e s=>dwp P Γ ops (L1++L2) e s K) (hx x (by simp)) h'
theorem A0v {ops:Array Oper} {listed:Array Bool} {i:Nat} (h:i ∈ Region.ready .any ops listed) :
  i ∈ A22 ops.size listed∧∃ o,ops[i]?=some o∧∀ e ∈ o.after.toList,Region.binds .any e=true→listed.getD e.on false=true:=by
 unfold Region.ready at h
 obtain ⟨hr,hp⟩:=List.mem_filter.1 h
 simp only [Bool.and_eq_true] at hp
 refine ⟨List.mem_filter.2 ⟨hr,hp.1⟩,?_⟩
 have hlt:=List.mem_range.1 hr
 refine ⟨ops[i],by simp [hlt],fun e he hb=>?_⟩
 have h2:=hp.2
 simp only [Array.getElem?_eq_getElem hlt,Option.map_some,Option.getD_some] at h2
 have:=Array.all_eq_true_iff_forall_mem.1 h2 e (by simpa using he)
 simpa [hb] using this
theorem B3l {ops:Array Oper} (hd:A8b P ops=true) {i:Nat} {o:Oper} (hi:ops[i]?=some o) :
  (∀ e ∈ o.after.toList,Region.binds .any e=true→e.on < i) ∧
  ∀ j < i,(∃ e ∈ o.after.toList,Region.binds .any e=true∧e.on=j)∨(∃ o',ops[j]?=some o'∧B0x ops o' o=true)∨A5a ops 30 j i=true:=by
 have hlt:i < ops.size:=(Array.getElem?_eq_some_iff.1 hi).1
 have h:=List.all_eq_true.1 hd i (List.mem_range.2 hlt)
 rw [hi] at h
 simp only [Bool.and_eq_true] at h
 refine ⟨fun e he hb=>?_,fun j hj=>?_⟩
 ·have:=List.all_eq_true.1 h.1 e he
  simpa [hb] using this
 ·have:=List.all_eq_true.1 h.2 j (List.mem_range.2 hj)
  simp only [Bool.or_eq_true] at this
  rcases this with (h1|h1)|h1
  ·obtain ⟨e,he,h2⟩:=List.any_eq_true.1 h1
   simp only [Bool.and_eq_true,beq_iff_eq] at h2
   exact .inl ⟨e,he,h2⟩
  ·cases ho:ops[j]? with
   | none=>rw [ho] at h1;cases h1
   | some o'=>rw [ho] at h1;exact .inr (.inl ⟨o',rfl,h1⟩)
  ·exact .inr (.inr h1)
def A5c (ops:Array Oper) (listed:Array Bool):Prop :=
 ∀ (p:Nat) (o:Oper),ops[p]?=some o→listed.getD p false=true→∀ e ∈ o.after.toList,Region.binds .any e=true→listed.getD e.on false=true
theorem A0n {ops:Array Oper} {listed:Array Bool} (hcl:A5c ops listed) {j:Nat}:∀ (k i:Nat) (o:Oper),ops[i]?=some o →
  (∀ e ∈ o.after.toList,Region.binds .any e=true→listed.getD e.on false=true)→A5a ops k j i=true→listed.getD j false=true
 | 0,i,o,ho,he,h=>by cases h
 | k+1,i,o,ho,he,h=>by
  unfold A5a at h
  rw [ho] at h
  simp only [Bool.or_eq_true] at h
  rcases h with h|h
  ·obtain ⟨e,hm,h2⟩:=List.any_eq_true.1 h
   simp only [Bool.and_eq_true,beq_iff_eq] at h2
   rw [← h2.2];exact he e hm h2.1
  ·obtain ⟨e,hm,h2⟩:=List.any_eq_true.1 h
   simp only [Bool.and_eq_true] at h2
   have hl:=he e hm h2.1
   cases hp:ops[e.on]? with
   | none =>
    have:=h2.2.2
    cases k with
    | zero=>cases this
    | succ k=>unfold A5a at this;rw [hp] at this;cases this
   | some o'=>exact A0n hcl k e.on o' hp (fun e' he' hb'=>hcl e.on o' hp hl e' he' hb') h2.2.2
theorem A14 {listed:Array Bool} {i p:Nat} (h:listed.getD p false=true):(listed.setIfInBounds i true).getD p false=true:=by
 simp only [Array.getD_eq_getD_getElem?,Array.getElem?_setIfInBounds] at h ⊢
 split
 ·split
  ·rfl
  ·rename_i h1 h2
   subst h1
   rw [Array.getElem?_eq_none (by omega)] at h;cases h
 ·exact h
theorem A3t {listed:Array Bool} {i p:Nat} (h:(listed.setIfInBounds i true).getD p false=true):p=i∨listed.getD p false=true:=by
 by_cases hp:p=i
 ·exact .inl hp
 ·right
  simp only [Array.getD_eq_getD_getElem?,Array.getElem?_setIfInBounds] at h ⊢
  rw [if_neg (fun h=>hp h.symm)] at h
  exact h
theorem B6s {listed:Array Bool} {n j:Nat} (hs:listed.size=n) (hj:j < n) (h:j ∉ A22 n listed):listed.getD j false=true:=by
 have:¬ (!listed.getD j true)=true:=fun h'=>h (List.mem_filter.2 ⟨List.mem_range.2 hj,h'⟩)
 have hlt:j < listed.size:=by omega
 simpa [Array.getD,hlt] using this
theorem A47 {listed:Array Bool} {n j:Nat} (hs:listed.size=n) (h:j ∈ A22 n listed):listed.getD j false=false:=by
 obtain ⟨hr,hp⟩:=List.mem_filter.1 h
 have hlt:j < listed.size:=by have:=List.mem_range.1 hr;omega
 simpa [Array.getD,hlt] using hp
theorem C75 {ops:Array Oper} (hd:A8b P ops=true) {listed:Array Bool} (hs:listed.size=ops.size) (h:Region.ready .any ops listed=[]):A22 ops.size listed=[]:=by
 have key:∀ m i,i < m→i ∉ A22 ops.size listed:=by
  intro m
  induction m with
  | zero=>intro i hi;omega
  | succ m ih =>
   intro i hi hm
   by_cases him:i < m
   ·exact ih i him hm
   ·have hlt:i < ops.size:=List.mem_range.1 (List.mem_filter.1 hm).1
    have hoi:ops[i]?=some ops[i]:=by simp [hlt]
    have hedge:=(B3l hd hoi).1
    have:i ∈ Region.ready .any ops listed:=by
     unfold Region.ready
     refine List.mem_filter.2 ⟨List.mem_range.2 hlt,?_⟩
     rw [(List.mem_filter.1 hm).2,hoi]
     simp only [Option.map_some,Option.getD_some,Bool.true_and]
     refine Array.all_eq_true_iff_forall_mem.2 fun e he=>?_
     cases hb:Region.binds .any e with
     | false=>rfl
     | true =>
      have hon:=hedge e (by simpa using he) hb
      rw [B6s hs (by omega) (ih e.on (by omega))]
      rfl
    rw [h] at this
    cases this
 refine List.eq_nil_iff_forall_not_mem.2 fun i=>key (i+1) i (Nat.lt_succ_self i)
theorem C9d {ops:Array Oper} {Q:Exit→Env→Sto→Prop} {G0:Gh} {w0:World} (hok:ops.toList.all (A1b n)=true) (hd:A8b P ops=true) :
  ∀ (fuel:Nat) (listed:Array Bool) {G:Gh} {w:World} {a:Act} {e:Env} {s:Sto},A5c ops listed→listed.size=ops.size→(A22 ops.size listed).length≤fuel →
   Ext G0 w0 G w→Mod Γ G s w→Y6 G w n e a→dwp P Γ ops (B5q ops listed) e s (fun e' s'=>Q .normal e' s')→wpAny P .any ops (A5b Γ n G0 w0 Q) fuel listed a w:=by
 intro fuel
 induction fuel with
 | zero =>
  intro listed G w a e s hcl hs hf X hm he h
  have hr:A22 ops.size listed=[]:=List.eq_nil_of_length_eq_zero (by omega)
  refine ⟨List.eq_nil_iff_forall_not_mem.2 fun i hi=>?_,?_⟩
  ·have:=(A0v hi).1;rw [hr] at this;cases this
  ·unfold B5q at h;rw [hr] at h
   exact ⟨e,s,G,h,hm,he,X⟩
 | succ fuel ih =>
  intro listed G w a e s hcl hs hf X hm he h
  refine ⟨fun hnil=>?_,fun i hi=>?_⟩
  ·unfold B5q at h;rw [C75 hd hs hnil] at h
   exact ⟨e,s,G,h,hm,he,X⟩
  ·obtain ⟨hi1,o,ho,hedge⟩:=A0v hi
   obtain ⟨L1,L2,h1,h2,h3⟩:=C2s hs hi1
   have hO:B5q ops listed=L1.filterMap (ops[·]?)++o::L2.filterMap (ops[·]?):=by
    unfold B5q;rw [h1,List.filterMap_append,List.filterMap_cons,ho]
   have hO':B5q ops (listed.setIfInBounds i true)=L1.filterMap (ops[·]?)++L2.filterMap (ops[·]?):=by
    unfold B5q;rw [h2,List.filterMap_append]
   rw [hO] at h
   have hfront:=C8x (P:=P) (Γ:=Γ) (ops:=ops) (o:=o) (fun x hx=>by
    obtain ⟨j,hj,hjx⟩:=List.mem_filterMap.1 hx
    have hjm:j ∈ A22 ops.size listed:=by rw [h1];exact List.mem_append_left _ hj
    rcases (B3l hd ho).2 j (h3 j hj) with ⟨e,he,hb,hej⟩|⟨o',ho',hi'⟩|hre
    ·have h5:=hedge e he hb
     rw [hej,A47 hs hjm] at h5
     cases h5
    ·rw [ho'] at hjx;injection hjx with hjx;rw [← hjx];exact hi'
    ·have h5:=A0n hcl 30 i o ho hedge hre
     rw [A47 hs hjm] at h5
     cases h5) h
   have hcl':A5c ops (listed.setIfInBounds i true):=fun p o' ho' hl e he hb=>by
    rcases A3t hl with rfl|hl
    ·rw [ho] at ho';injection ho' with ho';subst ho'
     exact A14 (hedge e he hb)
    ·exact A14 (hcl p o' ho' hl e he hb)
   have hoo:A1b n o=true:=List.all_eq_true.1 hok o (by
    obtain ⟨hlt,rfl⟩:=Array.getElem?_eq_some_iff.1 ho
    exact Array.getElem_mem_toList hlt)
   have hlen:(A22 ops.size (listed.setIfInBounds i true)).length≤fuel:=by
    rw [h1] at hf;rw [h2];simp only [List.length_append,List.length_cons] at hf ⊢;omega
   have next:∀ {v:Value} {r:AV} {s':Sto} {G':Gh} {w':World},dwp P Γ ops (L1.filterMap (ops[·]?)++L2.filterMap (ops[·]?)) (D7 e o.dst r) s' (fun e' s'=>Q .normal e' s') →
     R G' w' r v→Mod Γ G' s' w'→Ext G w G' w'→wpAny P .any ops (A5b Γ n G0 w0 Q) fuel (listed.setIfInBounds i true) (a.put o.dst v) w':=by
    intro v r s' G' w' hK hR hm' X'
    refine ih _ hcl' (by simp [hs]) hlen (X.trans X') hm' ((he.mono X').put (A16 hoo) hR) ?_
    rw [hO'];exact hK
   unfold wpOp
   rw [ho]
   dsimp only
   rcases A4v he hfront (B4k hok) with ⟨hw,h⟩|⟨hw,h⟩
   ·rw [if_pos hw]
    refine .inl (A56 hm he (A67 hoo) (A3l h) ?_)
    intro v r s' G' w' hK hR hm' X'
    exact next hK hR hm' X'
   ·rw [if_neg (by rw [hw];simp)]
    exact next h A2i hm (Ext.refl _ _)
def D2o (P:Program) (Γ:Nat→AV) (ops:Array Oper) (o:Oper) (_:List Oper) (rest:Env→Sto→(Env→Sto→Prop)→Prop) (e:Env) (s:Sto) (K:Env→Sto→Prop):Prop :=
 N3 ops e o.guard (C9 P Γ (evA Γ e) s o.op fun v s'=>frc v fun v'=>A5t o.dst e v' fun e'=>rest e' s' K) (A5t o.dst e undefA fun e'=>rest e' s K)
def C65 (P:Program) (Γ:Nat→AV) (ops:Array Oper) (l:List Oper):Env→Sto→(Env→Sto→Prop)→Prop :=
 List.rec (motive:=fun _=>Env→Sto→(Env→Sto→Prop)→Prop) C7c (D2o P Γ ops) l
theorem A3m {ops:Array Oper}:∀ (l:List Oper) {e:Env} {s:Sto} {K:Env→Sto→Prop},C65 P Γ ops l e s K→dwp P Γ ops l e s K
 | [],_,_,_,h=>h
 | o::l,e,s,K,h=>by
  refine F9 h (fun h=>W8 h fun v s' h=>?_) fun h=>?_
  ·rw [F8,A1k] at h;exact A3m l h
  ·rw [A1k] at h;exact A3m l h
theorem AWp.any {id:Nat} {ops:Array Oper} {Q:Exit→Env→Sto→Prop} {e:Env} {s:Sto} (hmix:P.follows .mixedOrders=true) (hok:ops.toList.all (A1b n)=true) (hd:A8b P ops=true)
  (h:C65 P Γ ops ops.toList e s fun e' s'=>Q .normal e' s'):AWp P Γ n (.region id ops true) Q e s:=by
 refine ⟨fun G w a hm he=>?_⟩
 refine wp_region_any hmix ?_
 have hrem:A22 ops.size (Array.replicate ops.size false)=List.range ops.size:=by
  unfold A22
  refine List.filter_eq_self.2 fun i hi=>?_
  simp [Array.getD,List.mem_range.1 hi]
 have hremO:B5q ops (Array.replicate ops.size false)=ops.toList:=by
  unfold B5q
  rw [hrem,← Array.length_toList]
  refine Eq.trans ?_ (B7l ops.toList)
  congr 1
  funext i
  exact Array.getElem?_toList.symm
 obtain ⟨hm1,X1⟩:=Mod.drew hm
 have:=C9d (P:=P) (Γ:=Γ) (Q:=Q) hok hd ops.size (Array.replicate ops.size false) (fun p o' _ hl=>by simp [Array.getD_eq_getD_getElem?,Array.getElem?_replicate] at hl;split at hl<;>cases hl) (by simp) (by rw [hrem];simp) X1 hm1 (he.mono X1) (by rw [hremO];exact A3m _ h)
 exact this
end
end Go.Ab
