/- Part 6 of what the closing text needs: TrN, TrO, PrQ, PrR, TrR, PrS, PqM, PqN, PqO, PqP, PqQ, PqR, PqU, PrI, PrJ, PrK, NuX. No condition of mine beyond those that the theorems name. -/
import Derived.Test.YticnkpgmmpenlaaGreatDoorG5
set_option maxRecDepth 10000
set_option maxHeartbeats 60000000
set_option linter.all false
namespace Go.Proofs.YticnkpgmmpenlaaGreatDoor.Tr
open Go Go.Ab Go.RowKit
variable {Γ:Nat→AV}
attribute [local irreducible] A5 Sto.set Sto.grow
theorem B11 (k:IntKind):∀ l:List Int,(G7 k l).flatten=l.map (.int k)
 | []=>rfl
 | x::l=>by
  have:=B11 k l
  simp only [G7] at this ⊢
  rw [List.map_cons,List.flatten_cons,this];rfl
theorem A5w {G:Gh} {w:World} (k:IntKind):∀ (l:List Int) (us:List Value),B6 G w (l.map (.int k)) us↔us=l.map (.int k)
 | [],us=>by rw [List.map_nil,List.map_nil,A9]
 | x::l,us=>by
  rw [List.map_cons,List.map_cons,A6]
  constructor
  ·rintro ⟨u,us',rfl,hu,hs⟩
   rw [E9] at hu
   rw [hu,(A5w k l us').1 hs]
  ·rintro rfl
   exact ⟨_,_,rfl,E9.2 rfl,(A5w k l _).2 rfl⟩
theorem A97 (t:Nat) (l:List Int) (hl:l.length * 8≤140737488355328):A5 Tryz.prog Γ 56 [.slice t (G7 .i64 l)] fun v=>v=.slice 0 (G7 .i64 l):=by
 have h1:∀ c ∈ G7 .i64 l,c.length=1:=by
  intro c hc
  obtain ⟨x,_,rfl⟩:=List.mem_map.1 hc
  rfl
 refine A5.of_row (T:=3) (k:=1) h1 fun G w vs s hm hr=>⟨l.map (.int .i64),?_,?_⟩
 ·rw [B11];exact (A5w .i64 l _).2 rfl
 obtain ⟨u,us,rfl,hu,hus⟩:=A6.1 hr
 rw [A9] at hus;subst hus
 rw [M8]
 unfold R at hu
 rcases hu.2 with ⟨he,a,cap,rfl,_,h2⟩|⟨b,o,cap,k,rfl,hc,_,hne,hE⟩
 ·have hl0:l=[]:=by
   have:=congrArg List.length he
   rw [M8] at this
   exact List.eq_nil_of_length_eq_zero this
  subst hl0
  cases a with
  | none=>exact (Tryz.slices_Clone_int_nil 0 cap w).mono fun e w' ⟨h,hw⟩=>⟨_,h,⟨rfl,.inl ⟨rfl,rfl⟩⟩,by rw [hw];exact Below.refl _ _⟩
  | some a=>exact (Tryz.slices_Clone_int_zero a cap w).mono fun e w' ⟨v',h,ho,_,hb⟩=>⟨v',h,ho,hb⟩
 ·obtain ⟨us,hul,hur,hcell⟩:=Q9 _ hE
  rw [B11] at hur
  obtain rfl:=(A5w .i64 l us).1 hur
  have:=Tryz.slices_Clone_int b o (G7 .i64 l).length cap l w (by rw [M8];exact Nat.le_refl _) (by rw [M8];exact hl) fun j hj=>hcell j _ (by simp [List.getD,hj])
  refine this.mono fun e w' ⟨v',h,ho,_,hb⟩=>⟨v',h,?_,hb⟩
  rw [M8,List.take_length] at ho
  exact ho
def M0 (x:Idn):Idn:=(x.1,0,0)
def A6g (x:Ar):Ar:=(x.1,x.2.1,x.2.2.1,0,0)
def A2k (x:Ex):Ex:=(x.1,x.2.1,x.2.2.1,x.2.2.2.1,x.2.2.2.2.1,0,0)
def A3b (x:Se):Se:=(M0 x.1,x.2)
def A7w (x:Qu):Qu:=(x.1,M0 x.2.1,x.2.2)
def A7v (x:Fr):Fr:=(M0 x.1,x.2)
def A7x (x:St):St:=(M0 x.1,x.2.1,x.2.2)
def C1a (x:Nat × De):Nat × De:=(0,M0 x.2.1,x.2.2)
def B3i (x:Nat × Sy):Nat × Sy:=(0,x.2.1,x.2.2.1.map A6g,0,0)
def A2v (x:(Nat × Nat × Nat) × Tn):(Nat × Nat × Nat) × Tn:=((0,0,0),M0 x.2.1,M0 x.2.2.1,(B3i (0,x.2.2.2.1)).2,x.2.2.2.2.1.map A2k,x.2.2.2.2.2.1,x.2.2.2.2.2.2.map A3b)
theorem A1l {α:Type} {f:α→α} {A:α→List AV} (d:α) {l:List α} {i:Nat} (h:i < l.length):((l.take (i+1)).map f).map A=((l.take i).map f).map A++[A (f (l.getD i d))]:=by
 have e:l.take (i+1)=l.take i++[l.getD i d]:=by rw [List.take_add_one,List.getElem?_eq_getElem h,show l.getD i d=l[i] from by simp [List.getD,h]];rfl
 rw [e,List.map_append,List.map_append];rfl
theorem F6 (x:Idn):A5 Tryz.prog Γ 53 [.agg (W8 x)] fun v=>v=.agg (W8 (M0 x)):=by
 refine aps Tryz.func53 ?_
 intro s
 conv=>whnf
 intro b hb
 refine wr ?_
 intro c hc
 conv=>whnf
 have hbc:=A3 A1 hc
 have hcb:c≠b:=fun h=>hbc h.symm
 have hc':=(D0 hc).2
 refine wr ?_
 refine ⟨by (repeat (first|exact Sub.refl _|refine Sub.set ?_ hb _ _|refine Sub.set ?_ hc' _ _)),rfl⟩
theorem B59 (x:Qu):A5 Tryz.prog Γ 58 [.agg (quA x)] fun v=>v=.agg (quA (A7w x)):=by
 refine aps Tryz.func58 ?_
 intro s
 conv=>whnf
 intro b hb
 refine wr ?_
 intro c hc
 conv=>whnf
 have hbc:=A3 A1 hc
 have hcb:c≠b:=fun h=>hbc h.symm
 have hc':=(D0 hc).2
 refine wr ?_;(first|(refine A0.pure' ?_ (F6 _);rintro _ rfl)|refine A8.pure ?_ (F6 _));refine wr ?_
 refine ⟨by (repeat (first|exact Sub.refl _|refine Sub.set ?_ hb _ _|refine Sub.set ?_ hc' _ _)),rfl⟩
theorem B58 (x:Fr):A5 Tryz.prog Γ 60 [.agg (frA x)] fun v=>v=.agg (frA (A7v x)):=by
 refine aps Tryz.func60 ?_
 intro s
 conv=>whnf
 intro b hb
 refine wr ?_
 intro c hc
 conv=>whnf
 have hbc:=A3 A1 hc
 have hcb:c≠b:=fun h=>hbc h.symm
 have hc':=(D0 hc).2
 refine wr ?_;(first|(refine A0.pure' ?_ (F6 _);rintro _ rfl)|refine A8.pure ?_ (F6 _));refine wr ?_
 refine ⟨by (repeat (first|exact Sub.refl _|refine Sub.set ?_ hb _ _|refine Sub.set ?_ hc' _ _)),rfl⟩
theorem B6b (x:St):A5 Tryz.prog Γ 62 [.agg (stA x)] fun v=>v=.agg (stA (A7x x)):=by
 refine aps Tryz.func62 ?_
 intro s
 conv=>whnf
 intro b hb
 refine wr ?_
 intro c hc
 conv=>whnf
 have hbc:=A3 A1 hc
 have hcb:c≠b:=fun h=>hbc h.symm
 have hc':=(D0 hc).2
 refine wr ?_;(first|(refine A0.pure' ?_ (F6 _);rintro _ rfl)|refine A8.pure ?_ (F6 _));refine wr ?_
 refine ⟨by (repeat (first|exact Sub.refl _|refine Sub.set ?_ hb _ _|refine Sub.set ?_ hc' _ _)),rfl⟩
theorem B6a (x:Se):A5 Tryz.prog Γ 112 [.agg (seA x)] fun v=>v=.agg (seA (A3b x)):=by
 refine aps Tryz.func112 ?_
 intro s
 conv=>whnf
 intro b hb
 refine wr ?_
 intro c hc
 conv=>whnf
 have hbc:=A3 A1 hc
 have hcb:c≠b:=fun h=>hbc h.symm
 have hc':=(D0 hc).2
 refine wr ?_;(first|(refine A0.pure' ?_ (F6 _);rintro _ rfl)|refine A8.pure ?_ (F6 _));refine wr ?_
 refine ⟨by (repeat (first|exact Sub.refl _|refine Sub.set ?_ hb _ _|refine Sub.set ?_ hc' _ _)),rfl⟩
theorem B57 (x:Ex):A5 Tryz.prog Γ 110 [.agg (exA x)] fun v=>v=.agg (exA (A2k x)):=by
 refine aps Tryz.func110 ?_
 intro s
 conv=>whnf
 intro b hb
 refine wr ?_
 intro c hc
 conv=>whnf
 have hbc:=A3 A1 hc
 have hcb:c≠b:=fun h=>hbc h.symm
 have hc':=(D0 hc).2
 refine wr ?_
 refine ⟨by (repeat (first|exact Sub.refl _|refine Sub.set ?_ hb _ _|refine Sub.set ?_ hc' _ _)),rfl⟩
theorem B55 (x:Ar):A5 Tryz.prog Γ 108 [.agg (arA x)] fun v=>v=.agg (arA (A6g x)):=by
 refine aps Tryz.func108 ?_
 intro s
 conv=>whnf
 intro b hb
 refine wr ?_
 intro c hc
 conv=>whnf
 have hbc:=A3 A1 hc
 have hcb:c≠b:=fun h=>hbc h.symm
 have hc':=(D0 hc).2
 refine wr ?_
 refine ⟨by (repeat (first|exact Sub.refl _|refine Sub.set ?_ hb _ _|refine Sub.set ?_ hc' _ _)),rfl⟩
theorem B56 (x:Nat × De) (hx:x.2.2.length * 8≤140737488355328):A5 Tryz.prog Γ 55 [.agg (deA x)] fun v=>v=.agg (deA (C1a x)):=by
 refine aps Tryz.func55 ?_
 intro s
 conv=>whnf
 intro b hb
 refine wr ?_
 intro c hc
 conv=>whnf
 have hbc:=A3 A1 hc
 have hcb:c≠b:=fun h=>hbc h.symm
 have hc':=(D0 hc).2
 refine wr ?_;(first|(refine A0.pure' ?_ (F6 _);rintro _ rfl)|refine A8.pure ?_ (F6 _));refine wr ?_;(first|(refine A0.pure' ?_ (A97 _ _ hx);rintro _ rfl)|refine A8.pure ?_ (A97 _ _ hx));refine wr ?_
 refine ⟨by (repeat (first|exact Sub.refl _|refine Sub.set ?_ hb _ _|refine Sub.set ?_ hc' _ _)),rfl⟩
theorem B8n (t:Nat) (l:List (Qu)) (hl:l.length≤100000):A5 Tryz.prog Γ 57 [.slice t (l.map quA),.func (.func 58) [] []] fun v=>v=.slice 0 ((l.map A7w).map quA):=by
 refine A5.forget fun s=>?_
 have hml:(l.map quA).length=l.length:=List.length_map ..
 refine acs Tryz.func57 ?_
 refine wr ?_
 refine AWp.loopA [5,10] [11,12,13,7,14,15,16,17,18,19,20] (fun x:Nat × Nat=>[.slice x.2 (((l.take x.1).map A7w).map quA),.int .i64 x.1]) (fun x s'=>x.1≤l.length∧Own s s' (x.1 == 0) x.2 75 5) (fun x=>l.length - x.1) ((0,1)) (by kernel_rfl) (eqa) ?_ ?_
 ·exact ⟨by simp,Own.nil _ _ _⟩
 ·rintro y ⟨i,t1⟩ s1 ⟨hi,ho⟩
  simp only at hi ho
  conv=>whnf
  have hga:=fun h:i < l.length=>C1 (f:=quA) (l:=l) A5j h
  have htk:=fun h:i < l.length=>A1l (f:=A7w) (A:=quA) A5j h
  generalize l.getD i A5j=u at *
  repeat' ((first|(refine brS (fun h=>?_) (fun h=>?_)<;>(try rw [h])<;>(try simp only [bS,↓reduceIte] at h))|(rw [show (l.map quA).getD ((i:Int)).toNat []=_ from hga (by omega)])|refine gS ?_|refine aA ?_|refine nA ?_|fail)<;>(conv=>whnf))
  ·have hlt:i < l.length:=by omega
   intro c hc
   conv=>whnf
   have hc':=ho.sub.none hc
   refine A4 A1 ?_
   refine wr ?_;(first|(refine A0.pure' ?_ (B59 u);rintro _ rfl)|refine A8.pure ?_ (B59 u));refine wr ?_
   have ho2:=fun (T:TypeId) (a b:List AV)=>(ho.set (T:=T) (cs:=a) hc').set (T:=T) (cs:=b) hc'
   refine ⟨(ho2 _ _ _).may,fun c hc=>?_,all_cons ⟨rfl,rfl⟩ all_nil,?_,?_⟩
   ·obtain ⟨z,_,rfl⟩:=List.mem_map.1 hc;rfl
   ·show ((((l.take i).map A7w).map quA).length+1) * (_+1)≤_
    rw [List.length_map,List.length_map,List.length_take,Nat.min_eq_left (by omega)]
    exact Nat.le_trans (Nat.mul_le_mul_right _ (show i+1≤100001 by omega)) (Nat.le_of_ble_eq_true (by kernel_rfl))
   intro t' k1 k2
   have k3:=(ho2 _ _ _).grow k1 k2
   refine wr ?_
   refine ⟨(i+1,t'),?_,B9,⟨by simp only;omega,?_⟩,by simp only;omega⟩
   ·refine B5 ?_ (B5 (show AV.int .i64 (IntKind.i64.wrap ((i:Int)+1))=.int .i64 ((i+1:Nat):Int) from D4 (by omega) (by omega) (by omega)) rfl)
    show AV.slice _ _=.slice _ (((l.take (i+1)).map A7w).map quA)
    rw [htk hlt];rfl
   ·have ez:∀ (z:Bool) (y:List AV),(z && [y].isEmpty)=false:=by intro z y;cases z<;>rfl
    have e2:(i+1 == 0)=false:=by simp
    show Own _ _ (i+1 == 0) t' _ _
    rw [ez] at k3
    rw [e2]
    exact k3
  ·have ht:l.take i=l:=List.take_of_length_le (by omega)
   refine ⟨s1,Sub.refl _,⟨t1,?_⟩,ho.sub⟩
   rw [ht]
   rfl
theorem B8m (t:Nat) (l:List (Fr)) (hl:l.length≤100000):A5 Tryz.prog Γ 59 [.slice t (l.map frA),.func (.func 60) [] []] fun v=>v=.slice 0 ((l.map A7v).map frA):=by
 refine A5.forget fun s=>?_
 have hml:(l.map frA).length=l.length:=List.length_map ..
 refine acs Tryz.func59 ?_
 refine wr ?_
 refine AWp.loopA [5,10] [11,12,13,7,14,15,16,17,18,19,20] (fun x:Nat × Nat=>[.slice x.2 (((l.take x.1).map A7v).map frA),.int .i64 x.1]) (fun x s'=>x.1≤l.length∧Own s s' (x.1 == 0) x.2 58 7) (fun x=>l.length - x.1) ((0,1)) (by kernel_rfl) (eqa) ?_ ?_
 ·exact ⟨by simp,Own.nil _ _ _⟩
 ·rintro y ⟨i,t1⟩ s1 ⟨hi,ho⟩
  simp only at hi ho
  conv=>whnf
  have hga:=fun h:i < l.length=>C1 (f:=frA) (l:=l) A5i h
  have htk:=fun h:i < l.length=>A1l (f:=A7v) (A:=frA) A5i h
  generalize l.getD i A5i=u at *
  repeat' ((first|(refine brS (fun h=>?_) (fun h=>?_)<;>(try rw [h])<;>(try simp only [bS,↓reduceIte] at h))|(rw [show (l.map frA).getD ((i:Int)).toNat []=_ from hga (by omega)])|refine gS ?_|refine aA ?_|refine nA ?_|fail)<;>(conv=>whnf))
  ·have hlt:i < l.length:=by omega
   intro c hc
   conv=>whnf
   have hc':=ho.sub.none hc
   refine A4 A1 ?_
   refine wr ?_;(first|(refine A0.pure' ?_ (B58 u);rintro _ rfl)|refine A8.pure ?_ (B58 u));refine wr ?_
   have ho2:=fun (T:TypeId) (a b:List AV)=>(ho.set (T:=T) (cs:=a) hc').set (T:=T) (cs:=b) hc'
   refine ⟨(ho2 _ _ _).may,fun c hc=>?_,all_cons ⟨rfl,rfl⟩ all_nil,?_,?_⟩
   ·obtain ⟨z,_,rfl⟩:=List.mem_map.1 hc;rfl
   ·show ((((l.take i).map A7v).map frA).length+1) * (_+1)≤_
    rw [List.length_map,List.length_map,List.length_take,Nat.min_eq_left (by omega)]
    exact Nat.le_trans (Nat.mul_le_mul_right _ (show i+1≤100001 by omega)) (Nat.le_of_ble_eq_true (by kernel_rfl))
   intro t' k1 k2
   have k3:=(ho2 _ _ _).grow k1 k2
   refine wr ?_
   refine ⟨(i+1,t'),?_,B9,⟨by simp only;omega,?_⟩,by simp only;omega⟩
   ·refine B5 ?_ (B5 (show AV.int .i64 (IntKind.i64.wrap ((i:Int)+1))=.int .i64 ((i+1:Nat):Int) from D4 (by omega) (by omega) (by omega)) rfl)
    show AV.slice _ _=.slice _ (((l.take (i+1)).map A7v).map frA)
    rw [htk hlt];rfl
   ·have ez:∀ (z:Bool) (y:List AV),(z && [y].isEmpty)=false:=by intro z y;cases z<;>rfl
    have e2:(i+1 == 0)=false:=by simp
    show Own _ _ (i+1 == 0) t' _ _
    rw [ez] at k3
    rw [e2]
    exact k3
  ·have ht:l.take i=l:=List.take_of_length_le (by omega)
   refine ⟨s1,Sub.refl _,⟨t1,?_⟩,ho.sub⟩
   rw [ht]
   rfl
theorem B8p (t:Nat) (l:List (St)) (hl:l.length≤100000):A5 Tryz.prog Γ 61 [.slice t (l.map stA),.func (.func 62) [] []] fun v=>v=.slice 0 ((l.map A7x).map stA):=by
 refine A5.forget fun s=>?_
 have hml:(l.map stA).length=l.length:=List.length_map ..
 refine acs Tryz.func61 ?_
 refine wr ?_
 refine AWp.loopA [5,10] [11,12,13,7,14,15,16,17,18,19,20] (fun x:Nat × Nat=>[.slice x.2 (((l.take x.1).map A7x).map stA),.int .i64 x.1]) (fun x s'=>x.1≤l.length∧Own s s' (x.1 == 0) x.2 84 5) (fun x=>l.length - x.1) ((0,1)) (by kernel_rfl) (eqa) ?_ ?_
 ·exact ⟨by simp,Own.nil _ _ _⟩
 ·rintro y ⟨i,t1⟩ s1 ⟨hi,ho⟩
  simp only at hi ho
  conv=>whnf
  have hga:=fun h:i < l.length=>C1 (f:=stA) (l:=l) A5k h
  have htk:=fun h:i < l.length=>A1l (f:=A7x) (A:=stA) A5k h
  generalize l.getD i A5k=u at *
  repeat' ((first|(refine brS (fun h=>?_) (fun h=>?_)<;>(try rw [h])<;>(try simp only [bS,↓reduceIte] at h))|(rw [show (l.map stA).getD ((i:Int)).toNat []=_ from hga (by omega)])|refine gS ?_|refine aA ?_|refine nA ?_|fail)<;>(conv=>whnf))
  ·have hlt:i < l.length:=by omega
   intro c hc
   conv=>whnf
   have hc':=ho.sub.none hc
   refine A4 A1 ?_
   refine wr ?_;(first|(refine A0.pure' ?_ (B6b u);rintro _ rfl)|refine A8.pure ?_ (B6b u));refine wr ?_
   have ho2:=fun (T:TypeId) (a b:List AV)=>(ho.set (T:=T) (cs:=a) hc').set (T:=T) (cs:=b) hc'
   refine ⟨(ho2 _ _ _).may,fun c hc=>?_,all_cons ⟨rfl,rfl⟩ all_nil,?_,?_⟩
   ·obtain ⟨z,_,rfl⟩:=List.mem_map.1 hc;rfl
   ·show ((((l.take i).map A7x).map stA).length+1) * (_+1)≤_
    rw [List.length_map,List.length_map,List.length_take,Nat.min_eq_left (by omega)]
    exact Nat.le_trans (Nat.mul_le_mul_right _ (show i+1≤100001 by omega)) (Nat.le_of_ble_eq_true (by kernel_rfl))
   intro t' k1 k2
   have k3:=(ho2 _ _ _).grow k1 k2
   refine wr ?_
   refine ⟨(i+1,t'),?_,B9,⟨by simp only;omega,?_⟩,by simp only;omega⟩
   ·refine B5 ?_ (B5 (show AV.int .i64 (IntKind.i64.wrap ((i:Int)+1))=.int .i64 ((i+1:Nat):Int) from D4 (by omega) (by omega) (by omega)) rfl)
    show AV.slice _ _=.slice _ (((l.take (i+1)).map A7x).map stA)
    rw [htk hlt];rfl
   ·have ez:∀ (z:Bool) (y:List AV),(z && [y].isEmpty)=false:=by intro z y;cases z<;>rfl
    have e2:(i+1 == 0)=false:=by simp
    show Own _ _ (i+1 == 0) t' _ _
    rw [ez] at k3
    rw [e2]
    exact k3
  ·have ht:l.take i=l:=List.take_of_length_le (by omega)
   refine ⟨s1,Sub.refl _,⟨t1,?_⟩,ho.sub⟩
   rw [ht]
   rfl
theorem B8o (t:Nat) (l:List (Se)) (hl:l.length≤100000):A5 Tryz.prog Γ 111 [.slice t (l.map seA),.func (.func 112) [] []] fun v=>v=.slice 0 ((l.map A3b).map seA):=by
 refine A5.forget fun s=>?_
 have hml:(l.map seA).length=l.length:=List.length_map ..
 refine acs Tryz.func111 ?_
 refine wr ?_
 refine AWp.loopA [5,10] [11,12,13,7,14,15,16,17,18,19,20] (fun x:Nat × Nat=>[.slice x.2 (((l.take x.1).map A3b).map seA),.int .i64 x.1]) (fun x s'=>x.1≤l.length∧Own s s' (x.1 == 0) x.2 119 4) (fun x=>l.length - x.1) ((0,1)) (by kernel_rfl) (eqa) ?_ ?_
 ·exact ⟨by simp,Own.nil _ _ _⟩
 ·rintro y ⟨i,t1⟩ s1 ⟨hi,ho⟩
  simp only at hi ho
  conv=>whnf
  have hga:=fun h:i < l.length=>C1 (f:=seA) (l:=l) A4x h
  have htk:=fun h:i < l.length=>A1l (f:=A3b) (A:=seA) A4x h
  generalize l.getD i A4x=u at *
  repeat' ((first|(refine brS (fun h=>?_) (fun h=>?_)<;>(try rw [h])<;>(try simp only [bS,↓reduceIte] at h))|(rw [show (l.map seA).getD ((i:Int)).toNat []=_ from hga (by omega)])|refine gS ?_|refine aA ?_|refine nA ?_|fail)<;>(conv=>whnf))
  ·have hlt:i < l.length:=by omega
   intro c hc
   conv=>whnf
   have hc':=ho.sub.none hc
   refine A4 A1 ?_
   refine wr ?_;(first|(refine A0.pure' ?_ (B6a u);rintro _ rfl)|refine A8.pure ?_ (B6a u));refine wr ?_
   have ho2:=fun (T:TypeId) (a b:List AV)=>(ho.set (T:=T) (cs:=a) hc').set (T:=T) (cs:=b) hc'
   refine ⟨(ho2 _ _ _).may,fun c hc=>?_,all_cons ⟨rfl,rfl⟩ all_nil,?_,?_⟩
   ·obtain ⟨z,_,rfl⟩:=List.mem_map.1 hc;rfl
   ·show ((((l.take i).map A3b).map seA).length+1) * (_+1)≤_
    rw [List.length_map,List.length_map,List.length_take,Nat.min_eq_left (by omega)]
    exact Nat.le_trans (Nat.mul_le_mul_right _ (show i+1≤100001 by omega)) (Nat.le_of_ble_eq_true (by kernel_rfl))
   intro t' k1 k2
   have k3:=(ho2 _ _ _).grow k1 k2
   refine wr ?_
   refine ⟨(i+1,t'),?_,B9,⟨by simp only;omega,?_⟩,by simp only;omega⟩
   ·refine B5 ?_ (B5 (show AV.int .i64 (IntKind.i64.wrap ((i:Int)+1))=.int .i64 ((i+1:Nat):Int) from D4 (by omega) (by omega) (by omega)) rfl)
    show AV.slice _ _=.slice _ (((l.take (i+1)).map A3b).map seA)
    rw [htk hlt];rfl
   ·have ez:∀ (z:Bool) (y:List AV),(z && [y].isEmpty)=false:=by intro z y;cases z<;>rfl
    have e2:(i+1 == 0)=false:=by simp
    show Own _ _ (i+1 == 0) t' _ _
    rw [ez] at k3
    rw [e2]
    exact k3
  ·have ht:l.take i=l:=List.take_of_length_le (by omega)
   refine ⟨s1,Sub.refl _,⟨t1,?_⟩,ho.sub⟩
   rw [ht]
   rfl
theorem B8l (t:Nat) (l:List (Ex)) (hl:l.length≤100000):A5 Tryz.prog Γ 109 [.slice t (l.map exA),.func (.func 110) [] []] fun v=>v=.slice 0 ((l.map A2k).map exA):=by
 refine A5.forget fun s=>?_
 have hml:(l.map exA).length=l.length:=List.length_map ..
 refine acs Tryz.func109 ?_
 refine wr ?_
 refine AWp.loopA [5,10] [11,12,13,7,14,15,16,17,18,19,20] (fun x:Nat × Nat=>[.slice x.2 (((l.take x.1).map A2k).map exA),.int .i64 x.1]) (fun x s'=>x.1≤l.length∧Own s s' (x.1 == 0) x.2 61 10) (fun x=>l.length - x.1) ((0,1)) (by kernel_rfl) (eqa) ?_ ?_
 ·exact ⟨by simp,Own.nil _ _ _⟩
 ·rintro y ⟨i,t1⟩ s1 ⟨hi,ho⟩
  simp only at hi ho
  conv=>whnf
  have hga:=fun h:i < l.length=>C1 (f:=exA) (l:=l) H1 h
  have htk:=fun h:i < l.length=>A1l (f:=A2k) (A:=exA) H1 h
  generalize l.getD i H1=u at *
  repeat' ((first|(refine brS (fun h=>?_) (fun h=>?_)<;>(try rw [h])<;>(try simp only [bS,↓reduceIte] at h))|(rw [show (l.map exA).getD ((i:Int)).toNat []=_ from hga (by omega)])|refine gS ?_|refine aA ?_|refine nA ?_|fail)<;>(conv=>whnf))
  ·have hlt:i < l.length:=by omega
   intro c hc
   conv=>whnf
   have hc':=ho.sub.none hc
   refine A4 A1 ?_
   refine wr ?_;(first|(refine A0.pure' ?_ (B57 u);rintro _ rfl)|refine A8.pure ?_ (B57 u));refine wr ?_
   have ho2:=fun (T:TypeId) (a b:List AV)=>(ho.set (T:=T) (cs:=a) hc').set (T:=T) (cs:=b) hc'
   refine ⟨(ho2 _ _ _).may,fun c hc=>?_,all_cons ⟨rfl,rfl⟩ all_nil,?_,?_⟩
   ·obtain ⟨z,_,rfl⟩:=List.mem_map.1 hc;rfl
   ·show ((((l.take i).map A2k).map exA).length+1) * (_+1)≤_
    rw [List.length_map,List.length_map,List.length_take,Nat.min_eq_left (by omega)]
    exact Nat.le_trans (Nat.mul_le_mul_right _ (show i+1≤100001 by omega)) (Nat.le_of_ble_eq_true (by kernel_rfl))
   intro t' k1 k2
   have k3:=(ho2 _ _ _).grow k1 k2
   refine wr ?_
   refine ⟨(i+1,t'),?_,B9,⟨by simp only;omega,?_⟩,by simp only;omega⟩
   ·refine B5 ?_ (B5 (show AV.int .i64 (IntKind.i64.wrap ((i:Int)+1))=.int .i64 ((i+1:Nat):Int) from D4 (by omega) (by omega) (by omega)) rfl)
    show AV.slice _ _=.slice _ (((l.take (i+1)).map A2k).map exA)
    rw [htk hlt];rfl
   ·have ez:∀ (z:Bool) (y:List AV),(z && [y].isEmpty)=false:=by intro z y;cases z<;>rfl
    have e2:(i+1 == 0)=false:=by simp
    show Own _ _ (i+1 == 0) t' _ _
    rw [ez] at k3
    rw [e2]
    exact k3
  ·have ht:l.take i=l:=List.take_of_length_le (by omega)
   refine ⟨s1,Sub.refl _,⟨t1,?_⟩,ho.sub⟩
   rw [ht]
   rfl
theorem B8j (t:Nat) (l:List (Ar)) (hl:l.length≤100000):A5 Tryz.prog Γ 107 [.slice t (l.map arA),.func (.func 108) [] []] fun v=>v=.slice 0 ((l.map A6g).map arA):=by
 refine A5.forget fun s=>?_
 have hml:(l.map arA).length=l.length:=List.length_map ..
 refine acs Tryz.func107 ?_
 refine wr ?_
 refine AWp.loopA [5,10] [11,12,13,7,14,15,16,17,18,19,20] (fun x:Nat × Nat=>[.slice x.2 (((l.take x.1).map A6g).map arA),.int .i64 x.1]) (fun x s'=>x.1≤l.length∧Own s s' (x.1 == 0) x.2 93 8) (fun x=>l.length - x.1) ((0,1)) (by kernel_rfl) (eqa) ?_ ?_
 ·exact ⟨by simp,Own.nil _ _ _⟩
 ·rintro y ⟨i,t1⟩ s1 ⟨hi,ho⟩
  simp only at hi ho
  conv=>whnf
  have hga:=fun h:i < l.length=>C1 (f:=arA) (l:=l) A7t h
  have htk:=fun h:i < l.length=>A1l (f:=A6g) (A:=arA) A7t h
  generalize l.getD i A7t=u at *
  repeat' ((first|(refine brS (fun h=>?_) (fun h=>?_)<;>(try rw [h])<;>(try simp only [bS,↓reduceIte] at h))|(rw [show (l.map arA).getD ((i:Int)).toNat []=_ from hga (by omega)])|refine gS ?_|refine aA ?_|refine nA ?_|fail)<;>(conv=>whnf))
  ·have hlt:i < l.length:=by omega
   intro c hc
   conv=>whnf
   have hc':=ho.sub.none hc
   refine A4 A1 ?_
   refine wr ?_;(first|(refine A0.pure' ?_ (B55 u);rintro _ rfl)|refine A8.pure ?_ (B55 u));refine wr ?_
   have ho2:=fun (T:TypeId) (a b:List AV)=>(ho.set (T:=T) (cs:=a) hc').set (T:=T) (cs:=b) hc'
   refine ⟨(ho2 _ _ _).may,fun c hc=>?_,all_cons ⟨rfl,rfl⟩ all_nil,?_,?_⟩
   ·obtain ⟨z,_,rfl⟩:=List.mem_map.1 hc;rfl
   ·show ((((l.take i).map A6g).map arA).length+1) * (_+1)≤_
    rw [List.length_map,List.length_map,List.length_take,Nat.min_eq_left (by omega)]
    exact Nat.le_trans (Nat.mul_le_mul_right _ (show i+1≤100001 by omega)) (Nat.le_of_ble_eq_true (by kernel_rfl))
   intro t' k1 k2
   have k3:=(ho2 _ _ _).grow k1 k2
   refine wr ?_
   refine ⟨(i+1,t'),?_,B9,⟨by simp only;omega,?_⟩,by simp only;omega⟩
   ·refine B5 ?_ (B5 (show AV.int .i64 (IntKind.i64.wrap ((i:Int)+1))=.int .i64 ((i+1:Nat):Int) from D4 (by omega) (by omega) (by omega)) rfl)
    show AV.slice _ _=.slice _ (((l.take (i+1)).map A6g).map arA)
    rw [htk hlt];rfl
   ·have ez:∀ (z:Bool) (y:List AV),(z && [y].isEmpty)=false:=by intro z y;cases z<;>rfl
    have e2:(i+1 == 0)=false:=by simp
    show Own _ _ (i+1 == 0) t' _ _
    rw [ez] at k3
    rw [e2]
    exact k3
  ·have ht:l.take i=l:=List.take_of_length_le (by omega)
   refine ⟨s1,Sub.refl _,⟨t1,?_⟩,ho.sub⟩
   rw [ht]
   rfl
theorem B8k (t:Nat) (l:List (Nat × De)) (hl:l.length≤100000) (hm:∀ x ∈ l,x.2.2.length * 8≤140737488355328):A5 Tryz.prog Γ 54 [.slice t (l.map deA),.func (.func 55) [] []] fun v=>v=.slice 0 ((l.map C1a).map deA):=by
 refine A5.forget fun s=>?_
 have hml:(l.map deA).length=l.length:=List.length_map ..
 refine acs Tryz.func54 ?_
 refine wr ?_
 refine AWp.loopA [5,10] [11,12,13,7,14,15,16,17,18,19,20] (fun x:Nat × Nat=>[.slice x.2 (((l.take x.1).map C1a).map deA),.int .i64 x.1]) (fun x s'=>x.1≤l.length∧Own s s' (x.1 == 0) x.2 54 4) (fun x=>l.length - x.1) ((0,1)) (by kernel_rfl) (eqa) ?_ ?_
 ·exact ⟨by simp,Own.nil _ _ _⟩
 ·rintro y ⟨i,t1⟩ s1 ⟨hi,ho⟩
  simp only at hi ho
  conv=>whnf
  have hga:=fun h:i < l.length=>C1 (f:=deA) (l:=l) A4c h
  have htk:=fun h:i < l.length=>A1l (f:=C1a) (A:=deA) A4c h
  have hmx:=fun h:i < l.length=>hm _ (E4 A4c h)
  generalize l.getD i A4c=u at *
  repeat' ((first|(refine brS (fun h=>?_) (fun h=>?_)<;>(try rw [h])<;>(try simp only [bS,↓reduceIte] at h))|(rw [show (l.map deA).getD ((i:Int)).toNat []=_ from hga (by omega)])|refine gS ?_|refine aA ?_|refine nA ?_|fail)<;>(conv=>whnf))
  ·have hlt:i < l.length:=by omega
   intro c hc
   conv=>whnf
   have hc':=ho.sub.none hc
   refine A4 A1 ?_
   refine wr ?_;(first|(refine A0.pure' ?_ (B56 u (hmx hlt));rintro _ rfl)|refine A8.pure ?_ (B56 u (hmx hlt)));refine wr ?_
   have ho2:=fun (T:TypeId) (a b:List AV)=>(ho.set (T:=T) (cs:=a) hc').set (T:=T) (cs:=b) hc'
   refine ⟨(ho2 _ _ _).may,fun c hc=>?_,all_cons ⟨rfl,rfl⟩ all_nil,?_,?_⟩
   ·obtain ⟨z,_,rfl⟩:=List.mem_map.1 hc;rfl
   ·show ((((l.take i).map C1a).map deA).length+1) * (_+1)≤_
    rw [List.length_map,List.length_map,List.length_take,Nat.min_eq_left (by omega)]
    exact Nat.le_trans (Nat.mul_le_mul_right _ (show i+1≤100001 by omega)) (Nat.le_of_ble_eq_true (by kernel_rfl))
   intro t' k1 k2
   have k3:=(ho2 _ _ _).grow k1 k2
   refine wr ?_
   refine ⟨(i+1,t'),?_,B9,⟨by simp only;omega,?_⟩,by simp only;omega⟩
   ·refine B5 ?_ (B5 (show AV.int .i64 (IntKind.i64.wrap ((i:Int)+1))=.int .i64 ((i+1:Nat):Int) from D4 (by omega) (by omega) (by omega)) rfl)
    show AV.slice _ _=.slice _ (((l.take (i+1)).map C1a).map deA)
    rw [htk hlt];rfl
   ·have ez:∀ (z:Bool) (y:List AV),(z && [y].isEmpty)=false:=by intro z y;cases z<;>rfl
    have e2:(i+1 == 0)=false:=by simp
    show Own _ _ (i+1 == 0) t' _ _
    rw [ez] at k3
    rw [e2]
    exact k3
  ·have ht:l.take i=l:=List.take_of_length_le (by omega)
   refine ⟨s1,Sub.refl _,⟨t1,?_⟩,ho.sub⟩
   rw [ht]
   rfl
theorem A6i (x:Nat × Sy) (hx:x.2.2.1.length≤100000):A5 Tryz.prog Γ 64 [.agg (syA x)] fun v=>v=.agg (syA (B3i x)):=by
 refine aps Tryz.func64 ?_
 intro s
 conv=>whnf
 intro b hb
 refine wr ?_
 intro c hc
 conv=>whnf
 have hbc:=A3 A1 hc
 have hcb:c≠b:=fun h=>hbc h.symm
 have hc':=(D0 hc).2
 refine wr ?_;(first|(refine A0.pure' ?_ (B8j _ _ hx);rintro _ rfl)|refine A8.pure ?_ (B8j _ _ hx));refine wr ?_
 refine ⟨by (repeat (first|exact Sub.refl _|refine Sub.set ?_ hb _ _|refine Sub.set ?_ hc' _ _)),rfl⟩
theorem B6c (x:(Nat × Nat × Nat) × Tn) (hx:x.2.2.2.1.2.1.length≤100000∧x.2.2.2.2.1.length≤100000∧x.2.2.2.2.2.2.length≤100000):A5 Tryz.prog Γ 66 [.agg (tnA x)] fun v=>v=.agg (tnA (A2v x)):=by
 refine aps Tryz.func66 ?_
 intro s
 conv=>whnf
 intro b hb
 refine wr ?_
 intro c hc
 conv=>whnf
 have hbc:=A3 A1 hc
 have hcb:c≠b:=fun h=>hbc h.symm
 have hc':=(D0 hc).2
 repeat' ((first|(refine brS (fun h=>?_) (fun h=>?_)<;>(try rw [h])<;>(try simp only [bS,↓reduceIte] at h))|refine D3 ?_|(refine A0.pure' ?_ (F6 _);rintro _ rfl)|refine A8.pure ?_ (F6 _)|(refine A0.pure' ?_ (A6i (x.1.1,x.2.2.2.1) hx.1);rintro _ rfl)|refine A8.pure ?_ (A6i (x.1.1,x.2.2.2.1) hx.1)|(refine A0.pure' ?_ (B8l _ _ hx.2.1);rintro _ rfl)|refine A8.pure ?_ (B8l _ _ hx.2.1)|(refine A0.pure' ?_ (B8o _ _ hx.2.2);rintro _ rfl)|refine A8.pure ?_ (B8o _ _ hx.2.2)|refine gS ?_|refine aA ?_|refine nA ?_|fail)<;>(conv=>whnf))
 refine ⟨by (repeat (first|exact Sub.refl _|refine Sub.set ?_ hb _ _|refine Sub.set ?_ hc' _ _)),rfl⟩
theorem B8q (t:Nat) (l:List (Nat × Sy)) (hl:l.length≤100000) (hm:∀ x ∈ l,x.2.2.1.length≤100000):A5 Tryz.prog Γ 63 [.slice t (l.map syA),.func (.func 64) [] []] fun v=>v=.slice 0 ((l.map B3i).map syA):=by
 refine A5.forget fun s=>?_
 have hml:(l.map syA).length=l.length:=List.length_map ..
 refine acs Tryz.func63 ?_
 refine wr ?_
 refine AWp.loopA [5,10] [11,12,13,7,14,15,16,17,18,19,20] (fun x:Nat × Nat=>[.slice x.2 (((l.take x.1).map B3i).map syA),.int .i64 x.1]) (fun x s'=>x.1≤l.length∧Own s s' (x.1 == 0) x.2 39 4) (fun x=>l.length - x.1) ((0,1)) (by kernel_rfl) (eqa) ?_ ?_
 ·exact ⟨by simp,Own.nil _ _ _⟩
 ·rintro y ⟨i,t1⟩ s1 ⟨hi,ho⟩
  simp only at hi ho
  conv=>whnf
  have hga:=fun h:i < l.length=>C1 (f:=syA) (l:=l) A34 h
  have htk:=fun h:i < l.length=>A1l (f:=B3i) (A:=syA) A34 h
  have hmx:=fun h:i < l.length=>hm _ (E4 A34 h)
  generalize l.getD i A34=u at *
  repeat' ((first|(refine brS (fun h=>?_) (fun h=>?_)<;>(try rw [h])<;>(try simp only [bS,↓reduceIte] at h))|(rw [show (l.map syA).getD ((i:Int)).toNat []=_ from hga (by omega)])|refine gS ?_|refine aA ?_|refine nA ?_|fail)<;>(conv=>whnf))
  ·have hlt:i < l.length:=by omega
   intro c hc
   conv=>whnf
   have hc':=ho.sub.none hc
   refine A4 A1 ?_
   refine wr ?_;(first|(refine A0.pure' ?_ (A6i u (hmx hlt));rintro _ rfl)|refine A8.pure ?_ (A6i u (hmx hlt)));refine wr ?_
   have ho2:=fun (T:TypeId) (a b:List AV)=>(ho.set (T:=T) (cs:=a) hc').set (T:=T) (cs:=b) hc'
   refine ⟨(ho2 _ _ _).may,fun c hc=>?_,all_cons ⟨rfl,rfl⟩ all_nil,?_,?_⟩
   ·obtain ⟨z,_,rfl⟩:=List.mem_map.1 hc;rfl
   ·show ((((l.take i).map B3i).map syA).length+1) * (_+1)≤_
    rw [List.length_map,List.length_map,List.length_take,Nat.min_eq_left (by omega)]
    exact Nat.le_trans (Nat.mul_le_mul_right _ (show i+1≤100001 by omega)) (Nat.le_of_ble_eq_true (by kernel_rfl))
   intro t' k1 k2
   have k3:=(ho2 _ _ _).grow k1 k2
   refine wr ?_
   refine ⟨(i+1,t'),?_,B9,⟨by simp only;omega,?_⟩,by simp only;omega⟩
   ·refine B5 ?_ (B5 (show AV.int .i64 (IntKind.i64.wrap ((i:Int)+1))=.int .i64 ((i+1:Nat):Int) from D4 (by omega) (by omega) (by omega)) rfl)
    show AV.slice _ _=.slice _ (((l.take (i+1)).map B3i).map syA)
    rw [htk hlt];rfl
   ·have ez:∀ (z:Bool) (y:List AV),(z && [y].isEmpty)=false:=by intro z y;cases z<;>rfl
    have e2:(i+1 == 0)=false:=by simp
    show Own _ _ (i+1 == 0) t' _ _
    rw [ez] at k3
    rw [e2]
    exact k3
  ·have ht:l.take i=l:=List.take_of_length_le (by omega)
   refine ⟨s1,Sub.refl _,⟨t1,?_⟩,ho.sub⟩
   rw [ht]
   rfl
theorem B8r (t:Nat) (l:List ((Nat × Nat × Nat) × Tn)) (hl:l.length≤100000) (hm:∀ x ∈ l,x.2.2.2.1.2.1.length≤100000∧x.2.2.2.2.1.length≤100000∧x.2.2.2.2.2.2.length≤100000):A5 Tryz.prog Γ 65 [.slice t (l.map tnA),.func (.func 66) [] []] fun v=>v=.slice 0 ((l.map A2v).map tnA):=by
 refine A5.forget fun s=>?_
 have hml:(l.map tnA).length=l.length:=List.length_map ..
 refine acs Tryz.func65 ?_
 refine wr ?_
 refine AWp.loopA [5,10] [11,12,13,7,14,15,16,17,18,19,20] (fun x:Nat × Nat=>[.slice x.2 (((l.take x.1).map A2v).map tnA),.int .i64 x.1]) (fun x s'=>x.1≤l.length∧Own s s' (x.1 == 0) x.2 43 13) (fun x=>l.length - x.1) ((0,1)) (by kernel_rfl) (eqa) ?_ ?_
 ·exact ⟨by simp,Own.nil _ _ _⟩
 ·rintro y ⟨i,t1⟩ s1 ⟨hi,ho⟩
  simp only at hi ho
  conv=>whnf
  have hga:=fun h:i < l.length=>C1 (f:=tnA) (l:=l) A0q h
  have htk:=fun h:i < l.length=>A1l (f:=A2v) (A:=tnA) A0q h
  have hmx:=fun h:i < l.length=>hm _ (E4 A0q h)
  generalize l.getD i A0q=u at *
  repeat' ((first|(refine brS (fun h=>?_) (fun h=>?_)<;>(try rw [h])<;>(try simp only [bS,↓reduceIte] at h))|(rw [show (l.map tnA).getD ((i:Int)).toNat []=_ from hga (by omega)])|refine gS ?_|refine aA ?_|refine nA ?_|fail)<;>(conv=>whnf))
  ·have hlt:i < l.length:=by omega
   intro c hc
   conv=>whnf
   have hc':=ho.sub.none hc
   refine A4 A1 ?_
   refine wr ?_;(first|(refine A0.pure' ?_ (B6c u (hmx hlt));rintro _ rfl)|refine A8.pure ?_ (B6c u (hmx hlt)));refine wr ?_
   have ho2:=fun (T:TypeId) (a b:List AV)=>(ho.set (T:=T) (cs:=a) hc').set (T:=T) (cs:=b) hc'
   refine ⟨(ho2 _ _ _).may,fun c hc=>?_,all_cons ⟨rfl,rfl⟩ all_nil,?_,?_⟩
   ·obtain ⟨z,_,rfl⟩:=List.mem_map.1 hc;rfl
   ·show ((((l.take i).map A2v).map tnA).length+1) * (_+1)≤_
    rw [List.length_map,List.length_map,List.length_take,Nat.min_eq_left (by omega)]
    exact Nat.le_trans (Nat.mul_le_mul_right _ (show i+1≤100001 by omega)) (Nat.le_of_ble_eq_true (by kernel_rfl))
   intro t' k1 k2
   have k3:=(ho2 _ _ _).grow k1 k2
   refine wr ?_
   refine ⟨(i+1,t'),?_,B9,⟨by simp only;omega,?_⟩,by simp only;omega⟩
   ·refine B5 ?_ (B5 (show AV.int .i64 (IntKind.i64.wrap ((i:Int)+1))=.int .i64 ((i+1:Nat):Int) from D4 (by omega) (by omega) (by omega)) rfl)
    show AV.slice _ _=.slice _ (((l.take (i+1)).map A2v).map tnA)
    rw [htk hlt];rfl
   ·have ez:∀ (z:Bool) (y:List AV),(z && [y].isEmpty)=false:=by intro z y;cases z<;>rfl
    have e2:(i+1 == 0)=false:=by simp
    show Own _ _ (i+1 == 0) t' _ _
    rw [ez] at k3
    rw [e2]
    exact k3
  ·have ht:l.take i=l:=List.take_of_length_le (by omega)
   refine ⟨s1,Sub.refl _,⟨t1,?_⟩,ho.sub⟩
   rw [ht]
   rfl
end Go.Proofs.YticnkpgmmpenlaaGreatDoor.Tr
namespace Go.Proofs.YticnkpgmmpenlaaGreatDoor.Pr
open Go Go.Ab Go.RowKit Go.Proofs.YticnkpgmmpenlaaGreatDoor.Lx Go.Proofs.YticnkpgmmpenlaaGreatDoor.Pa
variable {L:List Tok} {R:List Tkn} {a:Nat}
theorem A4w {b:Bool} (h:b=true:=by rfl):b=true:=h
theorem B81 {b:Bool} (h:b=false:=by rfl):¬ b=true:=by rw [h];decide
def N6:List Tkn→List UInt8→Bool
 | [],_=>false
 | t::_,w=>(decide (t.1=2) || decide (t.1=5)) && decide (t.2=w)
theorem M9 (w:List UInt8):isF L a w=N6 (Tk L a) w:=by
 cases e:Tk L a with
 | nil =>
  have:=C4p e
  cases h:isF L a w
  ·rfl
  ·exact absurd (D1 h) (by omega)
 | cons t r=>rw [Q7 trivial e];rfl
theorem B62 {l:List Tkn} (h:Tk L a=l):l.length≤L.length:=by
 have:=congrArg List.length h
 unfold Tk at this
 simp only [List.length_map,List.length_drop] at this
 omega
theorem A4l {s:List UInt8} (hs:Sc.C4 s=true) (h:Tk L a=(1,s)::R):∃ x,F9 L a=.ok (x,a+1)∧x.1=s:=by
 obtain ⟨h1,h2,_⟩:=P1 (L:=L) trivial h
 have hn:=(N7 hs).1
 refine ⟨(s,(B0 L a).2.2.1,(B0 L a).2.2.2),?_,rfl⟩
 unfold F9
 rw [if_neg (by rw [h1,h2];simp [hn]),h2]
theorem A7z {k:Int} {w:List UInt8} (hk:k=2∨k=5) (h:Tk L a=(k,w)::R):C7 L [w] a=.ok (a+1):=by
 unfold C7
 rw [M9,h,if_pos (by rcases hk with rfl|rfl<;>simp [N6])]
 rfl
theorem B09 {s w:List UInt8} {k:Int} (hk:k=2∨k=5) (hs:Sc.C4 s=true) (h:Tk L a=(1,s)::(k,w)::R):∃ x,V3 L [w] a=.ok (x,a+2)∧x.1=s:=by
 obtain ⟨x,h1,h2⟩:=A4l hs h
 refine ⟨x,?_,h2⟩
 unfold V3
 rw [h1]
 dsimp only
 rw [A7z hk (E1 h).2.2]
theorem C7r {k:Int} (hk:B93 k) (h:Tk L a=(2,Q0 k)::R):A1b L a=.ok (k,a+1):=by
 unfold B93 at hk
 unfold A1b
 simp only [M9,h]
 rcases (show k=1∨k=2∨k=3 by omega) with rfl|rfl|rfl
 ·rw [if_pos A4w]
 ·rw [if_neg B81,if_pos A4w]
 ·rw [if_neg B81,if_neg B81,if_pos A4w]
theorem D3c {v:Tr.Vl} (hv:Tr.N8 v=true) (hf:Nu.V7 v.2.1) (h:Tk L a=A0w v++R):J6 L a=.ok (v,a+(A0w v).length)∧(B0 L a).1≠1:=by
 obtain ⟨hv,_,_⟩:=A0u hv hf
 obtain ⟨vk,vi,vs,vb⟩:=v
 have nb:∀ k w r,k≠3→(k,w)≠((5:Int),([45]:List UInt8))→k≠2∨w≠[45]→Tk L a=(k,w)::r→U2 L a=false:=fun k w r h3 _ h5 hh=>by
  have hm:isF L a [45]=false:=by
   rw [M9,hh]
   unfold N6
   simp only
   rcases h5 with h5|h5
   ·by_cases e:k=5
    ·subst e;simp at *;assumption
    ·simp [h5,e]
   ·simp [h5]
  unfold U2
  rw [if_neg (by rw [hm];decide),(A26 hh).2];simp [h3]
 rcases hv with ⟨a1,a2,a3,a4,a5⟩|⟨a1,a2,a3⟩|⟨a1,a2,a3⟩
 ·simp only at a1 a2 a3 a4 a5
  subst a1 a4 a5
  obtain ⟨_,b2,_,b4⟩:=B90 (R:=R) ⟨a2,a3⟩ trivial h
  exact ⟨b4,b2⟩
 ·simp only at a1 a2 a3
  subst a1 a2 a3
  have h:Tk L a=(4,vs)::R:=h
  have hp:=P1 (L:=L) trivial h
  refine ⟨?_,by rw [hp.1];simp⟩
  unfold J6
  rw [if_neg (by rw [nb 4 vs R (by decide) (by simp) (.inl (by decide)) h];decide),if_pos hp.1,hp.2.1];rfl
 ·simp only at a1 a2 a3
  subst a1 a2 a3
  cases vb
  ·have h:Tk L a=(2,[102,97,108,115,101])::R:=h
   have hp:=P1 (L:=L) trivial h
   refine ⟨?_,by rw [hp.1];simp⟩
   unfold J6
   rw [if_neg (by rw [nb 2 _ R (by decide) (by simp) (.inr (by decide)) h];decide),if_neg (by rw [hp.1];decide),M9,h,if_neg B81,M9,h,if_pos A4w];rfl
  ·have h:Tk L a=(2,[116,114,117,101])::R:=h
   have hp:=P1 (L:=L) trivial h
   refine ⟨?_,by rw [hp.1];simp⟩
   unfold J6
   rw [if_neg (by rw [nb 2 _ R (by decide) (by simp) (.inr (by decide)) h];decide),if_neg (by rw [hp.1];decide),M9,h,if_pos A4w];rfl
theorem D8d {x:Tr.Ar} (hx:C4o x) (h:Tk L a=A43 x++R):∃ y,A68 L a=.ok (y,a+(A43 x).length)∧Tr.A6g y=Tr.A6g x:=by
 obtain ⟨xk,xn,xv,xl,xc⟩:=x
 rcases hx with ⟨h1,h2,h3,h4⟩|⟨h1,h2,h3⟩|⟨h1,h2,h3⟩
 ·simp only at h1 h2 h3 h4
  subst h1 h2
  have e:A43 (1,[],xv,xl,xc)=A0w xv:=by unfold A43;rw [if_pos rfl]
  rw [e] at h ⊢
  obtain ⟨v1,v2⟩:=D3c h3 h4 h
  refine ⟨(1,[],xv,(B0 L a).2.2.1,(B0 L a).2.2.2),?_,rfl⟩
  unfold A68
  rw [if_neg (fun hh=>v2 hh.1),if_pos v2,v1]
 ·simp only at h1 h2 h3
  subst h1 h3
  have e:A43 (2,xn,Tr.R3,xl,xc)=[(1,xn)]:=by unfold A43;rw [if_neg (by simp),if_pos rfl]
  rw [e] at h ⊢
  have h:Tk L a=(1,xn)::R:=h
  have hp:=P1 (L:=L) trivial h
  have hn:=(N7 h2).1
  refine ⟨(2,xn,Tr.R3,(B0 L a).2.2.1,(B0 L a).2.2.2),?_,rfl⟩
  unfold A68
  rw [if_neg (fun hh=>hn (hp.2.1.symm.trans hh.2)),if_neg (fun hh=>hh hp.1),hp.2.1];rfl
 ·simp only at h1 h2 h3
  subst h1 h2 h3
  have h:Tk L a=(1,[95])::R:=h
  have hp:=P1 (L:=L) trivial h
  refine ⟨(3,[],Tr.R3,(B0 L a).2.2.1,(B0 L a).2.2.2),?_,rfl⟩
  unfold A68
  rw [if_pos ⟨hp.1,hp.2.1⟩];rfl
section
variable {α β γ:Type} {one:Nat→Res (α × Nat)} {T:β→List Tkn} {p:α→γ} {q:β→γ}
theorem C3u:∀ (l:List β) (n:Nat) (acc:List α) (a:Nat),(∀ b ∈ l,∀ a R,Tk L a=T b++R→∃ x,one a=.ok (x,a+(T b).length)∧p x=q b)→l≠[]→l.length≤n→Tk L a=P5 (l.map T)++(5,[41])::R→∃ xs,X7 L one n acc a=.ok (acc++xs,a+(P5 (l.map T)).length+1)∧xs.map p=l.map q
 | [],n,acc,a,_,h,_,_=>absurd rfl h
 | _::_,0,acc,a,_,_,h,_=>by simp only [List.length_cons] at h;omega
 | [b],n+1,acc,a,hb,_,hn,h=>by
  obtain ⟨x,h1,h2⟩:=hb b List.mem_cons_self a _ h
  have ht:Tk L (a+(T b).length)=(5,[41])::R:=N1 h
  refine ⟨[x],?_,by rw [List.map_cons,h2];rfl⟩
  unfold X7
  rw [h1]
  dsimp only
  rw [M9,ht,if_neg B81,M9,ht,if_pos A4w];rfl
 | b::c::l,n+1,acc,a,hb,_,hn,h=>by
  have h:Tk L a=(T b++(5,[44])::P5 ((c::l).map T))++(5,[41])::R:=h
  rw [List.append_assoc] at h
  obtain ⟨x,h1,h2⟩:=hb b List.mem_cons_self a _ h
  have ht:Tk L (a+(T b).length)=(5,[44])::(P5 ((c::l).map T)++(5,[41])::R):=N1 h
  obtain ⟨xs,h3,h4⟩:=C3u (c::l) n (acc++[x]) (a+(T b).length+1) (fun z hz=>hb z (List.mem_cons_of_mem _ hz)) (by simp) (by simp only [List.length_cons] at hn ⊢;omega) (E1 ht).2.2
  refine ⟨x::xs,?_,by rw [List.map_cons,h2,h4];rfl⟩
  unfold X7
  rw [h1]
  dsimp only
  rw [M9,ht,if_pos A4w,h3]
  have e:(P5 ((b::c::l).map T)).length=(T b).length+1+(P5 ((c::l).map T)).length:=by
   show (T b++(5,[44])::P5 ((c::l).map T)).length=_
   rw [List.length_append,List.length_cons];omega
  rw [e,List.append_assoc]
  rw [show a+((T b).length+1+(P5 ((c::l).map T)).length)+1=a+(T b).length+1+(P5 ((c::l).map T)).length+1 by omega];rfl
theorem B5j:∀ (l:List β),(∀ b ∈ l,T b≠[])→l.length≤(P5 (l.map T)).length
 | [],_=>Nat.zero_le _
 | [b],h=>by
  have:=List.length_pos_iff.2 (h b List.mem_cons_self)
  show 1≤(T b).length
  omega
 | b::c::l,h=>by
  have ih:=B5j (c::l) fun z hz=>h z (List.mem_cons_of_mem _ hz)
  show (c::l).length+1≤(T b++(5,[44])::P5 ((c::l).map T)).length
  generalize P5 ((c::l).map T)=q at *
  generalize (c::l).length=m at *
  rw [List.length_append,List.length_cons];omega
theorem C7s {l:List β} (hne:∀ b ∈ l,T b≠[]) (hd:∀ b ∈ l,∀ R,N6 (T b++R) [41]=false) (hb:∀ b ∈ l,∀ a R,Tk L a=T b++R→∃ x,one a=.ok (x,a+(T b).length)∧p x=q b) (h:Tk L a=(5,[40])::(P5 (l.map T)++(5,[41])::R)) :
  ∃ xs,A1d L one a=.ok (xs,a+(P5 (l.map T)).length+2)∧xs.map p=l.map q:=by
 have h1:=(E1 h).2.2
 have hl:=B5j l hne
 have hlen:=B62 h1
 rw [List.length_append] at hlen
 unfold A1d
 rw [M9,h,if_pos (by simp [N6])]
 match l,hne,hd,hb,h1,hl with
 | [],_,_,_,h1,_ =>
  rw [M9,h1]
  exact ⟨[],rfl,rfl⟩
 | b::l,hne,hd,hb,h1,hl =>
  have hd1:N6 (Tk L (a+1)) [41]=false:=by
   rw [h1]
   match l with
   | []=>exact hd b List.mem_cons_self _
   | c::l =>
    show N6 ((T b++(5,[44])::P5 ((c::l).map T))++(5,[41])::R) [41]=false
    rw [List.append_assoc]
    exact hd b List.mem_cons_self _
  rw [M9,hd1,if_neg (by decide)]
  obtain ⟨xs,h3,h4⟩:=C3u (one:=one) (p:=p) (q:=q) (b::l) (L.length+1) [] (a+1) hb (by simp) (by omega) h1
  refine ⟨xs,?_,h4⟩
  rw [h3,List.nil_append]
  rw [show a+1+(P5 ((b::l).map T)).length+1=a+(P5 ((b::l).map T)).length+2 by omega]
end
def A4z (R:List Tkn):List (List UInt8)→Nat
 | []=>0
 | w::r=>if N6 R w=true then 0 else A4z R r+1
theorem A9x:∀ ws:List (List UInt8),L9 L a ws=A4z (Tk L a) ws
 | []=>rfl
 | w::r=>by unfold L9 A4z;rw [M9,A9x r]
section
variable {α β γ:Type} {ws:List (List UInt8)} {one:Nat→Nat→Res (α × Nat)} {w:β→Nat} {T:β→List Tkn} {p:α→γ} {q:β→γ}
theorem C3v {K:List Tkn→Prop}:∀ (l:List β) (n:Nat) (acc:List α) (a:Nat),(∀ b ∈ l,T b≠[]∧∀ R,A4z (T b++R) ws=w b∧w b≠ws.length∧K (T b++R))→(∀ b ∈ l,∀ a R,K R→Tk L a=T b++R→∃ x,one (w b) (a+1)=.ok (x,a+(T b).length)∧p x=q b)→A4z R ws=ws.length→K R→l.length < n→Tk L a=K4 T l++R→∃ xs,F4 L ws one n acc a=.ok (acc++xs,a+(K4 T l).length)∧xs.map p=l.map q
 | _,0,acc,a,_,_,_,_,h,_=>absurd h (Nat.not_lt_zero _)
 | [],n+1,acc,a,_,_,hR,_,_,h=>by
  refine ⟨[],?_,rfl⟩
  unfold F4
  rw [A9x,h]
  show (if A4z R ws=ws.length then _ else _)=_
  rw [if_pos hR,List.append_nil];rfl
 | b::l,n+1,acc,a,hw,hb,hR,hK,hn,h=>by
  have h:Tk L a=(T b++K4 T l)++R:=h
  rw [List.append_assoc] at h
  obtain ⟨w1,w2⟩:=hw b List.mem_cons_self
  obtain ⟨w3,w4,_⟩:=w2 (K4 T l++R)
  have hKl:K (K4 T l++R):=by
   match l,hw with
   | [],_=>exact hK
   | c::l,hw =>
    show K ((T c++K4 T l)++R)
    rw [List.append_assoc]
    exact ((hw c (List.mem_cons_of_mem _ List.mem_cons_self)).2 _).2.2
  obtain ⟨x,h1,h2⟩:=hb b List.mem_cons_self a _ hKl h
  obtain ⟨xs,h3,h4⟩:=C3v l n (acc++[x]) (a+(T b).length) (fun z hz=>hw z (List.mem_cons_of_mem _ hz)) (fun z hz=>hb z (List.mem_cons_of_mem _ hz)) hR hK (by simp only [List.length_cons] at hn;omega) (N1 h)
  refine ⟨x::xs,?_,by rw [List.map_cons,h2,h4];rfl⟩
  unfold F4
  rw [A9x,h,w3,if_neg w4,h1]
  dsimp only
  rw [h3]
  have e:(K4 T (b::l)).length=(T b).length+(K4 T l).length:=by
   show (T b++K4 T l).length=_
   rw [List.length_append]
  rw [e,List.append_assoc,show a+((T b).length+(K4 T l).length)=a+(T b).length+(K4 T l).length by omega];rfl
theorem B16:∀ (l:List β),(∀ b ∈ l,T b≠[])→l.length≤(K4 T l).length
 | [],_=>Nat.zero_le _
 | b::l,h=>by
  have ih:=B16 l fun z hz=>h z (List.mem_cons_of_mem _ hz)
  have:=List.length_pos_iff.2 (h b List.mem_cons_self)
  show l.length+1≤(T b++K4 T l).length
  rw [List.length_append];omega
theorem B08 {K:List Tkn→Prop} {l:List β} (hw:∀ b ∈ l,T b≠[]∧∀ R,A4z (T b++R) ws=w b∧w b≠ws.length∧K (T b++R)) (hb:∀ b ∈ l,∀ a R,K R→Tk L a=T b++R→∃ x,one (w b) (a+1)=.ok (x,a+(T b).length)∧p x=q b) (hR:A4z R ws=ws.length) (hK:K R) (h:Tk L a=K4 T l++R) :
  ∃ xs,N0 L ws one a=.ok (xs,a+(K4 T l).length)∧xs.map p=l.map q:=by
 have h1:=B16 l fun b hb=>(hw b hb).1
 have h2:=B62 h
 rw [List.length_append] at h2
 exact C3v l (L.length+1) [] a hw hb hR hK (by omega) h
end
def plS (s:Tr.Sy):Tr.Sy:=(s.1,s.2.1.map Tr.A6g,0,0)
theorem C13 {x:Tr.Ar} (hx:C4o x):A43 x≠[]∧∀ R,N6 (A43 x++R) [41]=false:=by
 obtain ⟨xk,xn,xv,xl,xc⟩:=x
 rcases hx with ⟨h1,h2,h3,h4⟩|⟨h1,h2,h3⟩|⟨h1,h2,h3⟩
 ·simp only at h1 h3 h4
  subst h1
  have e:A43 (1,xn,xv,xl,xc)=A0w xv:=by unfold A43;rw [if_pos rfl]
  rw [e]
  unfold A0w
  split
  ·split
   ·exact ⟨by simp,fun R=>rfl⟩
   ·exact ⟨by simp,fun R=>rfl⟩
  ·split
   ·exact ⟨by simp,fun R=>rfl⟩
   ·refine ⟨by simp,fun R=>?_⟩
    split<;>rfl
 ·simp only at h1
  subst h1
  exact ⟨by unfold A43;rw [if_neg (by simp),if_pos rfl];simp,fun R=>by unfold A43;rw [if_neg (by simp),if_pos rfl];rfl⟩
 ·simp only at h1
  subst h1
  exact ⟨by unfold A43;rw [if_neg (by simp),if_neg (by simp)];simp,fun R=>by unfold A43;rw [if_neg (by simp),if_neg (by simp)];rfl⟩
theorem D3a {s:Tr.Sy} (hs:B95 s) (h:Tk L a=A15 s++R):∃ y,K6 L a=.ok (y,a+(A15 s).length)∧plS y=plS s:=by
 unfold A15 at h ⊢
 rw [List.cons_append,List.cons_append,List.append_assoc] at h
 obtain ⟨x,h1,h2⟩:=A4l hs.1 h
 obtain ⟨xs,h3,h4⟩:=C7s (one:=A68 L) (p:=Tr.A6g) (q:=Tr.A6g) (fun b hb=>(C13 (hs.2 b hb)).1) (fun b hb=>(C13 (hs.2 b hb)).2) (fun b hb a R h=>D8d (hs.2 b hb) h) (E1 h).2.2
 refine ⟨(x.1,xs,x.2.1,x.2.2),?_,by unfold plS;rw [h4,h2]⟩
 unfold K6
 rw [h1]
 dsimp only
 rw [h3]
 simp only [List.length_cons,List.length_append,List.length_nil]
 rw [show a+1+(P5 (s.2.1.map A43)).length+2=a+((P5 (s.2.1.map A43)).length+(0+1)+1+1) by omega]
theorem C9d (k:Int) (R:List Tkn):N6 ([((2:Int),Q0 k)]++R) [41]=false:=by
 unfold Q0
 split
 ·rfl
 ·split
  ·rfl
  ·rfl
theorem D6d {d:Tr.De} (hd:D4o d) (h:Tk L a=B0b d++R):∃ y,A06 L (a+1)=.ok (y,a+(B0b d).length)∧(Tr.M0 y.1,y.2)=(Tr.M0 d.1,d.2):=by
 unfold B0b at h ⊢
 rw [List.cons_append,List.cons_append,List.cons_append,List.append_assoc] at h
 have h:=(E1 h).2.2
 obtain ⟨x,h1,h2⟩:=A4l hd.1 h
 obtain ⟨xs,h3,h4⟩:=C7s (one:=A1b L) (T:=fun k=>[((2:Int),Q0 k)]) (p:=id) (q:=id) (fun b hb=>by simp) (fun b hb R=>C9d b R) (fun b hb a R h=>⟨b,C7r (hd.2 b hb) h,rfl⟩) (E1 h).2.2
 rw [List.map_id,List.map_id] at h4
 refine ⟨(x,xs),?_,by unfold Tr.M0;rw [h4,h2]⟩
 unfold A06
 rw [h1]
 dsimp only
 rw [h3]
 simp only [List.length_cons,List.length_append,List.length_nil]
 rw [show a+1+1+(P5 (d.2.map fun k=>[((2:Int),Q0 k)])).length+2=a+((P5 (d.2.map fun k=>[((2:Int),Q0 k)])).length+(0+1)+1+1+1) by omega]
theorem D27 {x:Tr.Qu} (hx:D4q x) (h:Tk L a=A6m x++R):∃ y,W4 L x.1 (a+1)=.ok (y,a+(A6m x).length)∧Tr.A7w y=Tr.A7w x:=by
 have h:Tk L a=(2,if x.1=true then wForall else R6)::(1,x.2.1.1)::(5,[58])::(2,Q0 x.2.2)::R:=h
 have h:=(E1 h).2.2
 obtain ⟨y,h1,h2⟩:=B09 (.inr rfl) hx.1 h
 have h3:=C7r hx.2 (E1 (E1 h).2.2).2.2
 refine ⟨(x.1,y,x.2.2),?_,by unfold Tr.A7w Tr.M0;rw [h2]⟩
 unfold W4
 rw [h1]
 dsimp only
 rw [show a+1+2=a+1+1+1 by omega,h3]
 rfl
theorem D6f {x:Tr.Fr} (hx:D4p x) (h:Tk L a=B0j x++R):∃ y,A1v L (a+1)=.ok (y,a+(B0j x).length)∧Tr.A7v y=Tr.A7v x:=by
 have h:Tk L a=(2,A21)::(1,x.1.1)::(5,[61])::(A0w x.2++R):=h
 have h:=(E1 h).2.2
 obtain ⟨y,h1,h2⟩:=B09 (.inr rfl) hx.1 h
 have h3:=(D3c hx.2.1 hx.2.2 (E1 (E1 h).2.2).2.2).1
 refine ⟨(y,x.2),?_,by unfold Tr.A7v Tr.M0;rw [h2]⟩
 unfold A1v
 rw [h1]
 dsimp only
 rw [show a+1+2=a+1+1+1 by omega,h3]
 dsimp only
 have e:(B0j x).length=(A0w x.2).length+3:=rfl
 rw [e,show a+1+1+1+(A0w x.2).length=a+((A0w x.2).length+3) by omega]
theorem D29 {x:Tr.St} (hx:D4r x) (hR:N6 R K7=false) (h:Tk L a=A6q x++R):∃ y,Y1 L x.2.1 (a+1)=.ok (y,a+(A6q x).length)∧Tr.A7x y=Tr.A7x x:=by
 have h:Tk L a=(2,if x.2.1=true then wNext else A1x)::(1,x.1.1)::((if x.2.2=true then [(2,K7)] else [])++R):=h
 have h:=(E1 h).2.2
 obtain ⟨y,h1,h2⟩:=A4l hx h
 have h3:=(E1 h).2.2
 obtain ⟨xi,x1,x2⟩:=x
 refine ⟨(y,x1,x2),?_,by unfold Tr.A7x Tr.M0;rw [h2]⟩
 unfold Y1
 rw [h1]
 dsimp only
 rw [M9,h3]
 cases x2
 ·simp only [Bool.false_eq_true,if_false,List.nil_append]
  rw [hR]
  rfl
 ·simp only [if_true]
  rw [show N6 ([(2,K7)]++R) K7=true by rfl]
  rfl
end Go.Proofs.YticnkpgmmpenlaaGreatDoor.Pr
namespace Go.Proofs.YticnkpgmmpenlaaGreatDoor.Pr
open Go Go.Ab Go.RowKit Go.Proofs.YticnkpgmmpenlaaGreatDoor.Lx Go.Proofs.YticnkpgmmpenlaaGreatDoor.Pa
variable {L:List Tok} {R:List Tkn} {a:Nat} {l:List Tr.Ex} {m:Nat} {st:St}
theorem D6e {x:Xt} (hx:x.Ok) (he:U9 0 R) (hd:st.d.length=st.o.length) (hk:st.k+x.opn≤128) (h64:x.dep≤64) (h:Tk L st.a=x.toks++R):∃ z,B2x L st=.ok z∧Got st z x:=by
 have h1:=Xt.A74 (x:=x)
 have h2:=B62 h
 rw [List.length_append] at h2
 exact A36 trivial (A0b L) 0 x (by decide) (C68 hx) (by unfold A0b;omega) st R ⟨hx,h,hd,he,hk,h64⟩
structure Far (l:List Tr.Ex) (st:St) (n:Nat):Prop where
 o:st.o.map B1x=(l.take n).map coreT
 n:st.o.length=n
 d:st.d.length=st.o.length
 k:st.k=0
theorem C3x {lo:Nat} {i:Int} (hl:P8 l m) (hw:Whole l lo i) (hf:Far l st lo) (he:U9 0 R) (h:Tk L st.a=(gx l i).toks++R):∃ z,B2x L st=.ok z∧z.a=st.a+(gx l i).toks.length∧Far l z (i+1).toNat:=by
 have hF:=A6s hl hw
 obtain ⟨w1,w2,w3,w4⟩:=hw
 have hdep:=hF.dep
 have hopn:=hF.opn
 have hcnt:=hF.cnt
 obtain ⟨z,e,g⟩:=D6e hF.ok he hf.d (by rw [hf.k];omega) (by omega) h
 have hc:=hF.cores
 have gc:=g.cnt
 obtain ⟨o2,g1,g2⟩:=g.o
 have hn:=hf.n
 have hb:i.toNat+1 - (ndN l i.toNat).1.toNat=lo:=by omega
 rw [hb] at hc
 rw [hn] at g2
 refine ⟨z,e,g.a,⟨?_,by omega,g.dl,by rw [g.k];exact hf.k⟩⟩
 rw [g1,List.map_append,hf.o,g2,hc,← List.map_append,← List.take_add,show lo+(ndN l i.toNat).1.toNat=(i+1).toNat by omega]
theorem D28 {lo:Nat} {s:Tr.Se} (hl:P8 l m) (hn:Sc.C4 s.1.1=true) (hw:Whole l lo s.2) (hf:Far l st lo) (he:U9 0 R) (h:Tk L st.a=A82 l s++R):∃ y z,B6r L st=.ok (y,z)∧z.a=st.a+(A82 l s).length∧Far l z (s.2+1).toNat∧Tr.A3b y=Tr.A3b s:=by
 have h:Tk L st.a=(1,s.1.1)::(5,[61])::((gx l s.2).toks++R):=h
 obtain ⟨y,h1,h2⟩:=B09 (.inr rfl) hn h
 have h3:=(E1 (E1 h).2.2).2.2
 obtain ⟨z,e,z1,z2⟩:=C3x (st:={ st with a:=st.a+2 }) hl hw ⟨hf.o,hf.n,hf.d,hf.k⟩ he h3
 have hz:=z2.n
 have hi:(z.o.length:Int) - 1=s.2:=by rw [hz];have:=hw.1;omega
 refine ⟨(y,(z.o.length:Int) - 1),z,?_,?_,z2,?_⟩
 ·unfold B6r
  rw [h1]
  dsimp only
  rw [e]
 ·rw [z1]
  have:(A82 l s).length=(gx l s.2).toks.length+2:=rfl
  rw [this]
  show st.a+2+_=_
  omega
 ·unfold Tr.A3b Tr.M0
  rw [h2,hi]
theorem C48 (r:List Tkn):U9 0 ((5,[44])::r):=B0c (by decide) r
theorem C6u (r:List Tkn):U9 0 ((2,wTo)::r):=B0c (by decide) r
theorem D5c (r:List Tkn):U9 0 ((2,wDo)::r):=B0c (by decide) r
theorem C3w (hl:P8 l m) (hR:U9 0 R) (hc:N6 R [44]=false):∀ (ss:List Tr.Se) (n:Nat) (acc:List Tr.Se) (st:St) (lo:Nat),A3p l lo ss→ss≠[]→ss.length≤n→Far l st lo→Tk L st.a=P5 (ss.map (A82 l))++R →
  ∃ xs z,A01 L n acc st=.ok (acc++xs,z)∧z.a=st.a+(P5 (ss.map (A82 l))).length∧Far l z l.length∧xs.map Tr.A3b=ss.map Tr.A3b
 | [],n,acc,st,lo,_,h,_,_,_=>absurd rfl h
 | _::_,0,acc,st,lo,_,_,h,_,_=>by simp only [List.length_cons] at h;omega
 | [s],n+1,acc,st,lo,hs,_,hn,hf,h=>by
  obtain ⟨s1,s2,s3⟩:=hs
  obtain ⟨y,z,e,z1,z2,z3⟩:=D28 hl s1 s2 hf hR h
  have ht:Tk L z.a=R:=by rw [z1];exact N1 h
  have s3:(s.2+1).toNat=l.length:=s3
  rw [s3] at z2
  refine ⟨[y],z,?_,z1,z2,by rw [List.map_cons,z3];rfl⟩
  unfold A01
  rw [e]
  dsimp only
  rw [M9,ht,hc,if_neg (by decide)]
 | s::u::ss,n+1,acc,st,lo,hs,_,hn,hf,h=>by
  obtain ⟨s1,s2,s3⟩:=hs
  have h:Tk L st.a=(A82 l s++(5,[44])::P5 ((u::ss).map (A82 l)))++R:=h
  rw [List.append_assoc] at h
  obtain ⟨y,z,e,z1,z2,z3⟩:=D28 hl s1 s2 hf (C48 _) h
  have ht:Tk L z.a=(5,[44])::(P5 ((u::ss).map (A82 l))++R):=by rw [z1];exact N1 h
  obtain ⟨xs,z',e',k1,k2,k3⟩:=C3w hl hR hc (u::ss) n (acc++[y]) { z with a:=z.a+1 } _ s3 (by simp) (by simp only [List.length_cons] at hn ⊢;omega) ⟨z2.o,z2.n,z2.d,z2.k⟩ (E1 ht).2.2
  refine ⟨y::xs,z',?_,?_,k2,by rw [List.map_cons,z3,k3];rfl⟩
  ·unfold A01
   rw [e]
   dsimp only
   rw [M9,ht,if_pos A4w,e',List.append_assoc];rfl
  ·rw [k1]
   show z.a+1+_=st.a+(A82 l s++(5,[44])::P5 ((u::ss).map (A82 l))).length
   rw [z1,List.length_append,List.length_cons];omega
def A6h (y:A05):Tr.Idn × Tr.Idn × Tr.Sy × List Xt.D0o × Int × List Tr.Se:=(Tr.M0 y.from_,Tr.M0 y.to_,plS y.on,y.nodes.map B1x,y.guard,y.sets.map Tr.A3b)
def A2v (t:Tr.Tn):Tr.Idn × Tr.Idn × Tr.Sy × List Xt.D0o × Int × List Tr.Se:=(Tr.M0 t.1,Tr.M0 t.2.1,plS t.2.2.1,t.2.2.2.1.map coreT,t.2.2.2.2.1,t.2.2.2.2.2.map Tr.A3b)
theorem C0q {x y:Tr.Idn} (h:x.1=y.1):Tr.M0 x=Tr.M0 y:=by unfold Tr.M0;rw [h]
theorem D9t {t:Tr.Tn} {lo:Nat} (hl:P8 t.2.2.2.1 m) (hs:A3p t.2.2.2.1 lo t.2.2.2.2.2) (hn:Sc.C4 t.2.1.1=true) (hf:Far t.2.2.2.1 st lo) (h:Tk L st.a=doT t++R) :
  ∃ xs z y,doF L st=.ok (xs,z)∧C7 L [[116,111]] z.a=.ok (z.a+1)∧F9 L (z.a+1)=.ok (y,z.a+2)∧y.1=t.2.1.1∧z.a+2=st.a+(doT t).length∧Far t.2.2.2.1 z t.2.2.2.1.length∧xs.map Tr.A3b=t.2.2.2.2.2.map Tr.A3b:=by
 unfold doT at h ⊢
 by_cases he:t.2.2.2.2.2=[]
 ·rw [if_pos he] at h ⊢
  rw [he] at hs ⊢
  have hs:lo=t.2.2.2.1.length:=hs
  have h:Tk L st.a=(2,wTo)::(1,t.2.1.1)::R:=h
  obtain ⟨y,h1,h2⟩:=A4l hn (E1 h).2.2
  refine ⟨[],st,y,?_,A7z (.inl rfl) h,h1,h2,rfl,hs ▸ hf,rfl⟩
  unfold doF
  rw [M9,h,if_neg B81]
 ·rw [if_neg he] at h ⊢
  rw [List.cons_append,List.append_assoc] at h
  have h1:=(E1 h).2.2
  have hlen:=B62 h1
  rw [List.length_append] at hlen
  have hj:=B5j (T:=A82 t.2.2.2.1) t.2.2.2.2.2 (fun b _=>by unfold A82;simp)
  obtain ⟨xs,z,e,z1,z2,z3⟩:=C3w (R:=toT t++R) hl (C6u _) rfl t.2.2.2.2.2 (L.length+1) [] { st with a:=st.a+1 } lo hs he (by omega) ⟨hf.o,hf.n,hf.d,hf.k⟩ h1
  have ht:Tk L z.a=(2,wTo)::(1,t.2.1.1)::R:=by rw [z1];exact N1 h1
  obtain ⟨y,h3,h4⟩:=A4l hn (E1 ht).2.2
  refine ⟨xs,z,y,?_,A7z (.inl rfl) ht,h3,h4,?_,z2,z3⟩
  ·unfold doF B6u
   rw [M9,h,if_pos A4w,e];rfl
  ·rw [z1,List.length_cons,List.length_append]
   show st.a+1+_+2=st.a+(_+2+1)
   omega
theorem D5a (t:Tr.Tn) (w:List UInt8) (h1:w≠wTo) (h2:w≠wDo) (R:List Tkn):N6 (doT t++R) w=false:=by
 unfold doT
 split
 ·show ((decide ((2:Int)=2) || decide ((2:Int)=5)) && decide (wTo=w))=false
  rw [decide_eq_false (Ne.symm h1),Bool.and_false]
 ·show ((decide ((2:Int)=2) || decide ((2:Int)=5)) && decide (wDo=w))=false
  rw [decide_eq_false (Ne.symm h2),Bool.and_false]
theorem D49 (t:Tr.Tn) (R:List Tkn):U9 0 (doT t++R):=by
 unfold doT
 split
 ·exact C6u _
 ·exact D5c _
theorem D3b {t:Tr.Tn} (ht:C76 t) (h:Tk L a=A0a t++R):∃ y,H5 L 0 a=.ok (y,a+(A0a t).length)∧A6h y=A2v t:=by
 obtain ⟨h1,h2,h3,⟨m,hl⟩,h5⟩:=ht
 unfold A0a at h ⊢
 rw [List.cons_append,List.cons_append,List.append_assoc] at h
 obtain ⟨fr,f1,f2⟩:=B09 (.inl rfl) h1 h
 have h4:=(E1 (E1 h).2.2).2.2
 obtain ⟨sy,s1,s2⟩:=D3a h3 h4
 have h6:=N1 h4
 have far0:Far t.2.2.2.1 ⟨a+2+(A15 t.2.2.1).length,[],[],0⟩ 0:=⟨rfl,rfl,rfl,rfl⟩
 have key:∀ (g:Int) (s3:St) (lo:Nat),A0m L ⟨a+2+(A15 t.2.2.1).length,[],[],0⟩=.ok (g,s3)→g=t.2.2.2.2.1→A3p t.2.2.2.1 lo t.2.2.2.2.2→Far t.2.2.2.1 s3 lo→Tk L s3.a=doT t++R→s3.a+(doT t).length=a+2+(A15 t.2.2.1).length+(ifT t).length→∃ y,H5 L 0 a=.ok (y,a+((1,t.1.1)::(2,wOn)::(A15 t.2.2.1++ifT t)).length)∧A6h y=A2v t:=by
  intro g s3 lo e1 e2 e3 e4 e5 e6
  obtain ⟨xs,z,tw,d1,d2,d3,d4,d5,d6,d7⟩:=D9t hl e3 h2 e4 e5
  refine ⟨⟨fr,tw,sy,z.o,g,xs⟩,?_,?_⟩
  ·unfold H5
   rw [show V3 L [[111,110]] a=_ from f1]
   dsimp only
   rw [s1]
   dsimp only
   rw [e1]
   dsimp only
   rw [d1]
   dsimp only
   rw [d2]
   dsimp only
   rw [d3]
   dsimp only
   rw [List.length_cons,List.length_cons,List.length_append]
   rw [show z.a+2=a+((A15 t.2.2.1).length+(ifT t).length+1+1) by omega]
  ·have ho:=d6.o
   rw [List.take_length] at ho
   unfold A6h A2v
   simp only
   rw [C0q f2,C0q d4,s2,ho,e2,d7]
 unfold ifT at key h6 ⊢
 rcases h5 with ⟨g0,hs⟩|⟨hw,hs⟩
 ·rw [if_neg (by omega)] at key h6 ⊢
  refine key (-1) _ 0 ?_ g0.symm hs far0 h6 rfl
  unfold A0m
  rw [M9,show (⟨a+2+(A15 t.2.2.1).length,[],[],0⟩:St).a=a+1+1+(A15 t.2.2.1).length from rfl,h6,D5a t _ (by decide) (by decide),if_neg (by decide)]
 ·have hg:0≤t.2.2.2.2.1:=by have:=hw.1;omega
  rw [if_pos hg] at key h6 ⊢
  rw [List.cons_append,List.append_assoc] at h6
  have h7:=(E1 h6).2.2
  have h7':Tk L (⟨a+2+(A15 t.2.2.1).length+1,[],[],0⟩:St).a=(gx t.2.2.2.1 t.2.2.2.2.1).toks++(doT t++R):=by rw [← h7]
  obtain ⟨z,e,z1,z2⟩:=C3x (st:=⟨a+2+(A15 t.2.2.1).length+1,[],[],0⟩) hl hw ⟨rfl,rfl,rfl,rfl⟩ (D49 t R) h7'
  have hz:Tk L z.a=doT t++R:=by rw [z1];exact N1 h7'
  have hzn:=z2.n
  refine key ((z.o.length:Int) - 1) z _ ?_ (by rw [hzn];omega) hs z2 hz ?_
  ·unfold A0m
   rw [M9,show (⟨a+2+(A15 t.2.2.1).length,[],[],0⟩:St).a=a+1+1+(A15 t.2.2.1).length from rfl,h6,if_pos A4w]
   rw [show ({ (⟨a+1+1+(A15 t.2.2.1).length,[],[],0⟩:St) with a:=a+1+1+(A15 t.2.2.1).length+1 }:St)=⟨a+2+(A15 t.2.2.1).length+1,[],[],0⟩ by rw [show a+1+1=a+2 from rfl]]
   rw [e]
  ·rw [z1,List.length_cons,List.length_append]
   show a+2+(A15 t.2.2.1).length+1+_+_=_
   omega
theorem B9v (t:Tr.Tn):A0a t≠[]:=by unfold A0a;simp
theorem B9l:∀ (ts:List ((Nat × Nat × Nat) × Tr.Tn)) (n:Nat) (acc:List A05) (a:Nat),(∀ t ∈ ts,C76 t.2)→ts.length < n→Tk L a=K4 (fun t:(Nat × Nat × Nat) × Tr.Tn=>A0a t.2) ts→∃ ys,Y4 L n acc a=.ok (acc++ys)∧ys.map A6h=ts.map fun t=>A2v t.2
 | _,0,acc,a,_,h,_=>absurd h (Nat.not_lt_zero _)
 | [],n+1,acc,a,_,_,h=>by
  have:=C4p h
  refine ⟨[],?_,rfl⟩
  unfold Y4
  rw [if_neg (by omega),List.append_nil]
 | t::ts,n+1,acc,a,ht,hn,h=>by
  have h:Tk L a=A0a t.2++K4 (fun t:(Nat × Nat × Nat) × Tr.Tn=>A0a t.2) ts:=h
  obtain ⟨y,h1,h2⟩:=D3b (ht t List.mem_cons_self) h
  obtain ⟨ys,h3,h4⟩:=B9l ts n (acc++[y]) (a+(A0a t.2).length) (fun z hz=>ht z (List.mem_cons_of_mem _ hz)) (by simp only [List.length_cons] at hn;omega) (N1 h)
  have hlt:a < L.length:=by
   rcases Nat.lt_or_ge a L.length with hh|hh
   ·exact hh
   ·have:Tk L a=[]:=by unfold Tk;rw [List.drop_of_length_le hh];rfl
    rw [this] at h
    exact absurd (List.append_eq_nil_iff.1 h.symm).1 (B9v t.2)
  refine ⟨y::ys,?_,by rw [List.map_cons,h2,h4];rfl⟩
  unfold Y4
  rw [if_pos hlt,h1]
  dsimp only
  rw [h3,List.append_assoc];rfl
theorem A18:∀ {ws:List (List UInt8)},(∀ w ∈ ws,N6 R w=false)→A4z R ws=ws.length
 | [],_=>rfl
 | w::r,h=>by
  unfold A4z
  rw [h w List.mem_cons_self,if_neg (by decide),A18 fun z hz=>h z (List.mem_cons_of_mem _ hz)];rfl
theorem A0n {α:Type} {T:α→List Tkn} {l:List α} {w:List UInt8} (h1:∀ b ∈ l,∀ R,N6 (T b++R) w=false) (h2:N6 R w=false):N6 (K4 T l++R) w=false:=by
 cases l with
 | nil=>exact h2
 | cons b l =>
  show N6 ((T b++K4 T l)++R) w=false
  rw [List.append_assoc]
  exact h1 b List.mem_cons_self _
theorem D10 (w:List UInt8) (h1:w≠wForall) (h2:w≠R6) (q:Tr.Qu) (R:List Tkn):N6 (A6m q++R) w=false:=by
 show ((decide ((2:Int)=2) || decide ((2:Int)=5)) && decide ((if q.1=true then wForall else R6)=w))=false
 split
 ·rw [decide_eq_false (Ne.symm h1),Bool.and_false]
 ·rw [decide_eq_false (Ne.symm h2),Bool.and_false]
theorem B0m (w:List UInt8) (h1:w≠wNext) (h2:w≠A1x) (s:Tr.St) (R:List Tkn):N6 (A6q s++R) w=false:=by
 show ((decide ((2:Int)=2) || decide ((2:Int)=5)) && decide ((if s.2.1=true then wNext else A1x)=w))=false
 split
 ·rw [decide_eq_false (Ne.symm h1),Bool.and_false]
 ·rw [decide_eq_false (Ne.symm h2),Bool.and_false]
theorem C0p (v w:List UInt8) (h:w≠v) (R:List Tkn):N6 ((2,v)::R) w=false:=by
 show ((decide ((2:Int)=2) || decide ((2:Int)=5)) && decide (v=w))=false
 rw [decide_eq_false (Ne.symm h),Bool.and_false]
theorem D6g {x:Tr.Tr0} (h:D0u x) (hT:Tk L 0=C73 x):∃ hd ts,Z6 L=.ok (hd,ts)∧hd.name.1=x.1.1∧(hd.decls.map fun d=>(Tr.M0 d.1,d.2))=(x.2.1.map fun d=>(Tr.M0 d.2.1,d.2.2))∧hd.quants.map Tr.A7w=x.2.2.1.map Tr.A7w∧hd.frees.map Tr.A7v=x.2.2.2.1.map Tr.A7v∧hd.states.map Tr.A7x=x.2.2.2.2.1.map Tr.A7x∧hd.start.1=x.2.2.2.2.2.1.1∧hd.also.map plS=(x.2.2.2.2.2.2.1.map fun s=>plS s.2)∧ts.map A6h=x.2.2.2.2.2.2.2.map fun t=>A2v t.2:=by
 unfold C73 at hT
 have a1:=A7z (.inl rfl) hT
 have t1:=(E1 hT).2.2
 obtain ⟨nm,a2,n2⟩:=A4l h.name t1
 have t2:=(E1 t1).2.2
 have hts:∀ w,N6 (K4 (fun t:(Nat × Nat × Nat) × Tr.Tn=>A0a t.2) x.2.2.2.2.2.2.2) w=false:=fun w=>by
  have:=A0n (R:=[]) (T:=fun t:(Nat × Nat × Nat) × Tr.Tn=>A0a t.2) (l:=x.2.2.2.2.2.2.2) (w:=w) (fun b _ R=>rfl) rfl
  rwa [List.append_nil] at this
 have wst:∀ w R,w≠Y5→N6 ((2,Y5)::R) w=false:=fun w R hw=>C0p Y5 w hw R
 obtain ⟨ds,a3,n3⟩:=B08 (K:=fun _=>True) (ws:=[A17]) (one:=fun _=>A06 L) (w:=fun _=>0) (T:=fun d:Nat × Tr.De=>B0b d.2) (p:=fun d:Tr.De=>(Tr.M0 d.1,d.2)) (q:=fun d:Nat × Tr.De=>(Tr.M0 d.2.1,d.2.2)) (fun b _=>⟨by unfold B0b;simp,fun R=>⟨rfl,by decide,trivial⟩⟩) (fun b hb a R _ hh=>D6d (h.decls b hb) hh)
  (A18 fun w hw=>by
   rw [List.mem_singleton] at hw;subst hw
   exact A0n (fun b _=>D10 _ (by decide) (by decide) b) (A0n (fun b _ R=>C0p A21 _ (by decide) _) (A0n (fun b _=>B0m _ (by decide) (by decide) b) (wst _ _ (by decide))))) trivial t2
 have t3:=N1 t2
 obtain ⟨qs,a4,n4⟩:=B08 (K:=fun _=>True) (ws:=[R6,wForall]) (one:=fun i=>W4 L (decide (i=1))) (w:=fun q:Tr.Qu=>if q.1=true then 1 else 0) (T:=A6m) (p:=Tr.A7w) (q:=Tr.A7w) (fun b _=>⟨by unfold A6m;simp,fun R=>⟨by
   obtain ⟨b1,b2⟩:=b
   cases b1<;>rfl,by split<;>decide,trivial⟩⟩) (fun b hb a R _ hh=>by
   have:=D27 (h.quants b hb) hh
   rw [show decide ((if b.1=true then 1 else 0)=1)=b.1 by cases b.1<;>rfl]
   exact this)
  (A18 fun w hw=>by
   have hw:w=R6∨w=wForall:=by simpa using hw
   refine A0n (fun b _ R=>C0p A21 _ ?_ _) (A0n (fun b _=>B0m _ ?_ ?_ b) (wst _ _ ?_))<;>rcases hw with rfl|rfl<;>decide) trivial t3
 have t4:=N1 t3
 obtain ⟨fs,a5,n5⟩:=B08 (K:=fun _=>True) (ws:=[A21]) (one:=fun _=>A1v L) (w:=fun _=>0) (T:=B0j) (p:=Tr.A7v) (q:=Tr.A7v) (fun b _=>⟨by unfold B0j;simp,fun R=>⟨rfl,by decide,trivial⟩⟩) (fun b hb a R _ hh=>D6f (h.frees b hb) hh)
  (A18 fun w hw=>by
   rw [List.mem_singleton] at hw;subst hw
   exact A0n (fun b _=>B0m _ (by decide) (by decide) b) (wst _ _ (by decide))) trivial t4
 have t5:=N1 t4
 obtain ⟨ss,a6,n6⟩:=B08 (K:=fun R=>N6 R K7=false) (ws:=[A1x,wNext]) (one:=fun i=>Y1 L (decide (i=1))) (w:=fun s:Tr.St=>if s.2.1=true then 1 else 0) (T:=A6q) (p:=Tr.A7x) (q:=Tr.A7x) (fun b _=>⟨by unfold A6q;simp,fun R=>⟨by
   obtain ⟨b1,b2,b3⟩:=b
   cases b2<;>rfl,by split<;>decide,B0m _ (by decide) (by decide) b R⟩⟩) (fun b hb a R hK hh=>by
   have:=D29 (h.states b hb) hK hh
   rw [show decide ((if b.2.1=true then 1 else 0)=1)=b.2.1 by cases b.2.1<;>rfl]
   exact this)
  (A18 fun w hw=>by
   have hw:w=A1x∨w=wNext:=by simpa using hw
   refine wst _ _ ?_
   rcases hw with rfl|rfl<;>decide) (wst _ _ (by decide)) t5
 have t6:=N1 t5
 have a7:=A7z (.inl rfl) t6
 have t7:=(E1 t6).2.2
 obtain ⟨sn,a8,n8⟩:=A4l h.start t7
 have t8:=(E1 t7).2.2
 obtain ⟨al,a9,n9⟩:=B08 (K:=fun _=>True) (ws:=[P0]) (one:=fun _=>K6 L) (w:=fun _=>0) (T:=fun s:Nat × Tr.Sy=>(2,P0)::A15 s.2) (p:=plS) (q:=fun s:Nat × Tr.Sy=>plS s.2) (fun b _=>⟨by simp,fun R=>⟨rfl,by decide,trivial⟩⟩) (fun b hb a R _ hh=>by
   obtain ⟨y,k1,k2⟩:=D3a (h.also b hb) (E1 (show Tk L a=(2,P0)::(A15 b.2++R) from hh)).2.2
   refine ⟨y,?_,k2⟩
   rw [k1,List.length_cons,show a+1+(A15 b.2).length=a+((A15 b.2).length+1) by omega])
  (A18 fun w _=>hts w) trivial t8
 have t9:=N1 t8
 have hpos:=B16 (T:=fun t:(Nat × Nat × Nat) × Tr.Tn=>A0a t.2) x.2.2.2.2.2.2.2 (fun b _=>B9v b.2)
 have hlen:=B62 t9
 obtain ⟨ts,a10,n10⟩:=B9l x.2.2.2.2.2.2.2 (L.length+1) [] _ h.trans (by omega) t9
 refine ⟨⟨nm,ds,qs,fs,ss,sn,al⟩,ts,?_,n2,n3,n4,n5,n6,n8,n9,n10⟩
 unfold Z6 T7
 rw [a1]
 dsimp only
 rw [a2]
 dsimp only
 rw [a3]
 dsimp only
 rw [a4]
 dsimp only
 rw [a5]
 dsimp only
 rw [a6]
 dsimp only
 rw [a7]
 dsimp only
 rw [a8]
 dsimp only
 rw [a9]
 dsimp only
 rw [a10]
 rfl
end Go.Proofs.YticnkpgmmpenlaaGreatDoor.Pr
namespace Go.Proofs.YticnkpgmmpenlaaGreatDoor.Tr
open Go Go.Ab Go.RowKit
def A8y (a:Ar):Bool :=
 if a.1=1 then decide (a.2.1=[]) && N8 a.2.2.1
 else if a.1=2 then Sc.C4 a.2.1 && decide (a.2.2.1=R3)
 else decide (a.1=3) && (decide (a.2.1=[]) && decide (a.2.2.1=R3))
def A2w (s:Nat × Sy):Bool:=Sc.C4 s.2.1 && s.2.2.1.all A8y
def U0 (k:Int):Bool:=decide (1≤k) && decide (k≤3)
def K2 (x:Idn):Bool:=Sc.C4 x.1
def whB (l:List Ex) (f root:Int):Bool:=decide (f≤root) && (decide (root < l.length) && (decide ((nd Sc.C4 l root.toNat).1=root - f+1) && decide ((nd Sc.C4 l root.toNat).2≤64)))
def A1i (l:List Ex):List Se→Int→Option Int
 | [],f=>some f
 | x::r,f=>if (K2 x.1 && whB l f x.2)=true then A1i l r (x.2+1) else none
def B13 (l:List Ex) (g:Int):Option Int:=if g = -1 then some 0 else if whB l 0 g=true then some (g+1) else none
def trB (x:(Nat × Nat × Nat) × Tn):Bool :=
 K2 x.2.1 && (K2 x.2.2.1 && (A2w (0,x.2.2.2.1) && decide ((B13 x.2.2.2.2.1 x.2.2.2.2.2.1).bind (A1i x.2.2.2.2.1 x.2.2.2.2.2.2)=some (x.2.2.2.2.1.length:Int))))
def V4 (x:Tr0):Bool :=
 K2 x.1 && (K2 x.2.2.2.2.2.1 && (x.2.1.all (fun d=>K2 d.2.1 && d.2.2.all U0) && (x.2.2.1.all (fun q=>K2 q.2.1 && U0 q.2.2) && (x.2.2.2.1.all (fun f=>K2 f.1 && N8 f.2) &&
  (x.2.2.2.2.1.all (fun s=>K2 s.1) && (x.2.2.2.2.2.2.1.all A2w && x.2.2.2.2.2.2.2.all trB))))))
def A2l (x:Tr0):Tr0:=(M0 x.1,x.2.1.map C1a,x.2.2.1.map A7w,x.2.2.2.1.map A7v,x.2.2.2.2.1.map A7x,M0 x.2.2.2.2.2.1,x.2.2.2.2.2.2.1.map B3i,x.2.2.2.2.2.2.2.map A2v)
theorem B54 {x:Tr0} (h:A2x x):A2x (A2l x):=by
 obtain ⟨⟨h1,h2,h3,h4,h5,h6⟩,hd,hs,ht⟩:=h
 refine ⟨⟨by simpa [A2l] using h1,by simpa [A2l] using h2,by simpa [A2l] using h3,by simpa [A2l] using h4,by simpa [A2l] using h5,by simpa [A2l] using h6⟩,?_,?_,?_⟩
 ·intro d hm
  obtain ⟨z,hz,rfl⟩:=List.mem_map.1 (show d ∈ x.2.1.map C1a from hm)
  exact hd z hz
 ·intro d hm
  obtain ⟨z,hz,rfl⟩:=List.mem_map.1 (show d ∈ x.2.2.2.2.2.2.1.map B3i from hm)
  show (z.2.2.1.map A6g).length≤100000
  rw [List.length_map]
  exact hs z hz
 ·intro d hm
  obtain ⟨z,hz,rfl⟩:=List.mem_map.1 (show d ∈ x.2.2.2.2.2.2.2.map A2v from hm)
  show (z.2.2.2.1.2.1.map A6g).length≤100000∧(z.2.2.2.2.1.map A2k).length≤100000∧(z.2.2.2.2.2.2.map A3b).length≤100000
  rw [List.length_map,List.length_map,List.length_map]
  exact ht z hz
end Go.Proofs.YticnkpgmmpenlaaGreatDoor.Tr
namespace Go.Proofs.YticnkpgmmpenlaaGreatDoor.Pr
open Go Go.Ab Go.RowKit Go.Proofs.YticnkpgmmpenlaaGreatDoor.Lx Go.Proofs.YticnkpgmmpenlaaGreatDoor.Pa
structure C1v (x:Tr.Tr0):Prop where
 frees:∀ f ∈ x.2.2.2.1,Nu.V7 f.2.2.1
 also:∀ s ∈ x.2.2.2.2.2.2.1,∀ a ∈ s.2.2.1,Nu.V7 a.2.2.1.2.1
 on:∀ t ∈ x.2.2.2.2.2.2.2,∀ a ∈ t.2.2.2.1.2.1,Nu.V7 a.2.2.1.2.1
 nodes:∀ t ∈ x.2.2.2.2.2.2.2,∃ m,P8 t.2.2.2.2.1 m
theorem D4v {a:Tr.Ar} (h:Tr.A8y a=true) (hf:Nu.V7 a.2.2.1.2.1):C4o a:=by
 unfold Tr.A8y at h
 split at h
 ·rename_i h1
  rw [Bool.and_eq_true,decide_eq_true_eq] at h
  exact .inl ⟨h1,h.1,h.2,hf⟩
 ·split at h
  ·rename_i h1
   rw [Bool.and_eq_true,decide_eq_true_eq] at h
   exact .inr (.inl ⟨h1,h.1,h.2⟩)
  ·simp only [Bool.and_eq_true,decide_eq_true_eq] at h
   exact .inr (.inr ⟨h.1,h.2.1,h.2.2⟩)
theorem C71 {s:Nat × Tr.Sy} (h:Tr.A2w s=true) (hf:∀ a ∈ s.2.2.1,Nu.V7 a.2.2.1.2.1):B95 s.2:=by
 unfold Tr.A2w at h
 rw [Bool.and_eq_true,List.all_eq_true] at h
 exact ⟨h.1,fun a ha=>D4v (h.2 a ha) (hf a ha)⟩
theorem C63 {k:Int} (h:Tr.U0 k=true):B93 k:=by
 unfold Tr.U0 at h
 simpa [B93] using h
theorem C4n {l:List Tr.Ex} {f root:Int} (h0:0≤f) (h:Tr.whB l f root=true):Whole l f.toNat root:=by
 unfold Tr.whB at h
 simp only [Bool.and_eq_true,decide_eq_true_eq] at h
 obtain ⟨h1,h2,h3,h4⟩:=h
 refine ⟨by omega,h2,?_,h4⟩
 show (Tr.nd Sc.C4 l root.toNat).1=_
 omega
theorem B2g {l:List Tr.Ex}:∀ (ss:List Tr.Se) (f:Int),0≤f→Tr.A1i l ss f=some (l.length:Int)→A3p l f.toNat ss
 | [],f,h0,h=>by
  have h:some f=some (l.length:Int):=h
  show f.toNat=l.length
  injection h with h
  omega
 | s::r,f,h0,h=>by
  unfold Tr.A1i at h
  split at h
  ·rename_i hw
   rw [Bool.and_eq_true] at hw
   have hwh:=C4n h0 hw.2
   have:=hwh.1
   exact ⟨hw.1,hwh,B2g r (s.2+1) (by omega) h⟩
  ·cases h
theorem C72 {t:(Nat × Nat × Nat) × Tr.Tn} (h:Tr.trB t=true) (hf:∀ a ∈ t.2.2.2.1.2.1,Nu.V7 a.2.2.1.2.1) (hl:∃ m,P8 t.2.2.2.2.1 m):C76 t.2:=by
 unfold Tr.trB at h
 simp only [Bool.and_eq_true,decide_eq_true_eq] at h
 obtain ⟨h1,h2,h3,h4⟩:=h
 refine ⟨h1,h2,C71 (s:=(0,t.2.2.2.1)) h3 hf,hl,?_⟩
 unfold Tr.B13 at h4
 split at h4
 ·rename_i hg
  exact .inl ⟨hg,B2g t.2.2.2.2.2.2 0 (by decide) h4⟩
 ·split at h4
  ·rename_i hw
   have hwh:=C4n (by decide) hw
   have:=hwh.1
   exact .inr ⟨hwh,B2g t.2.2.2.2.2.2 _ (by simp only [Int.toNat_zero] at this;omega) h4⟩
  ·cases h4
theorem C1m {x:Tr.Tr0} (h:Tr.V4 x=true) (hf:C1v x):D0u x:=by
 unfold Tr.V4 at h
 simp only [Bool.and_eq_true,List.all_eq_true] at h
 obtain ⟨h1,h2,h3,h4,h5,h6,h7,h8⟩:=h
 exact ⟨h1,fun d hd=>⟨(h3 d hd).1,fun k hk=>C63 ((h3 d hd).2 k hk)⟩,fun q hq=>⟨(h4 q hq).1,C63 (h4 q hq).2⟩,fun f hf'=>⟨(h5 f hf').1,(h5 f hf').2,hf.frees f hf'⟩,h6,h2,fun s hs=>C71 (h7 s hs) (hf.also s hs),fun t ht=>C72 (h8 t ht) (hf.on t ht) (hf.nodes t ht)⟩
def exT (e:Ex):Tr.Ex:=(e.op,e.a,e.b,e.name,(e.vk,e.vi,e.vs,e.vb),e.ln,e.cl)
def A04 (t:A05):Tr.Tn:=(t.from_,t.to_,t.on,t.nodes.map exT,t.guard,t.sets)
def A0g (h:Head) (ts:List A05):Tr.Tr0:=(h.name,h.decls.map fun d=>(0,d),h.quants,h.frees,h.states,h.start,h.also.map fun s=>(0,s),ts.map fun t=>((0,0,0),A04 t))
theorem D6a {o:List Ex} {l:List Tr.Ex} (h:o.map B1x=l.map coreT):(o.map exT).map Tr.A2k=l.map Tr.A2k:=by
 have e1:∀ o:List Ex,(o.map exT).map Tr.A2k=(o.map B1x).map fun c=>((c.1,c.2.1,c.2.2.1,c.2.2.2.1,c.2.2.2.2,0,0):Tr.Ex):=fun o=>by
  rw [List.map_map,List.map_map];rfl
 have e2:∀ l:List Tr.Ex,l.map Tr.A2k=(l.map coreT).map fun c=>((c.1,c.2.1,c.2.2.1,c.2.2.2.1,c.2.2.2.2,0,0):Tr.Ex):=fun l=>by
  rw [List.map_map];rfl
 rw [e1,e2,h]
theorem D9r {y:A05} {t:Tr.Tn} (h:A6h y=A2v t):(Tr.A2v ((0,0,0),A04 y)).2=(Tr.A2v ((0,0,0),t)).2:=by
 unfold A6h A2v at h
 simp only [Prod.mk.injEq] at h
 obtain ⟨h1,h2,h3,h4,h5,h6⟩:=h
 unfold Tr.A2v A04
 simp only
 have h3':(Tr.B3i (0,y.on)).2=(Tr.B3i (0,t.2.2.1)).2:=h3
 rw [h1,h2,h3',D6a h4,h5,h6]
theorem D2i:∀ {ts:List A05} {us:List ((Nat × Nat × Nat) × Tr.Tn)},ts.map A6h=us.map (fun t=>A2v t.2)→ts.map (fun y=>(Tr.A2v ((0,0,0),A04 y)).2)=us.map fun u=>(Tr.A2v u).2
 | [],[],_=>rfl
 | [],_::_,h=>by cases h
 | _::_,[],h=>by cases h
 | y::ts,u::us,h=>by
  simp only [List.map_cons,List.cons.injEq] at h ⊢
  exact ⟨(D9r h.1).trans rfl,D2i h.2⟩
theorem D7z {x:Tr.Tr0} {hd:Head} {ts:List A05} (h1:hd.name.1=x.1.1) (h2:(hd.decls.map fun d=>(Tr.M0 d.1,d.2))=(x.2.1.map fun d=>(Tr.M0 d.2.1,d.2.2))) (h3:hd.quants.map Tr.A7w=x.2.2.1.map Tr.A7w) (h4:hd.frees.map Tr.A7v=x.2.2.2.1.map Tr.A7v) (h5:hd.states.map Tr.A7x=x.2.2.2.2.1.map Tr.A7x) (h6:hd.start.1=x.2.2.2.2.2.1.1) (h7:hd.also.map plS=(x.2.2.2.2.2.2.1.map fun s=>plS s.2)) (h8:ts.map A6h=x.2.2.2.2.2.2.2.map fun t=>A2v t.2) :
  Tr.A2u (Tr.A2l (A0g hd ts))=Tr.A2u (Tr.A2l x):=by
 unfold Tr.A2u Tr.A2t Tr.A2l A0g
 simp only [List.map_map,Prod.mk.injEq]
 refine ⟨⟨C0q h1,C0q h6,?_,h3,h4,h5⟩,?_,?_⟩
 ·exact h2
 ·exact h7
 ·exact D2i h8
theorem B50 {x:Tr.Tr0} (h:D0u x) (hl:(M3 x).length≤65536):∃ hd ts,A1s (M3 x) Z6=.ok (hd,ts)∧Tr.A2u (Tr.A2l (A0g hd ts))=Tr.A2u (Tr.A2l x):=by
 obtain ⟨L,a1,a2,_,_⟩:=C69 (D2f h) hl
 obtain ⟨hd,ts,e,k1,k2,k3,k4,k5,k6,k7,k8⟩:=D6g h a2
 refine ⟨hd,ts,?_,D7z k1 k2 k3 k4 k5 k6 k7 k8⟩
 unfold A1s
 rw [a1]
 dsimp only
 rw [e]
end Go.Proofs.YticnkpgmmpenlaaGreatDoor.Pr
namespace Go.Proofs.YticnkpgmmpenlaaGreatDoor.Pa
open Go Go.Ab Go.RowKit Go.Proofs.YticnkpgmmpenlaaGreatDoor.Lx Go.Proofs.YticnkpgmmpenlaaGreatDoor.Pr
variable {Γ:Nat→AV}
attribute [local irreducible] A5 Sto.set Sto.grow
section
variable {s0 s:Sto} {bp bl:Nat} {L:List Tok} {a:Nat} {o:List Ex} {d:List Int} {k:Int}
theorem Pst.clear (hP:Pst s0 s bp bl L a o d k) (cs:List AV):Pst s0 ((s.set bp 123 cs).set bp 123 [.ptr (some ⟨bl,0,none⟩),.slice 1 [],.slice 1 [],.int .i64 k]) bp bl L a [] [] k:=by
 obtain ⟨np,nl,ne,⟨t1,t2,e1,e2,e3,e4⟩,pl⟩:=hP
 exact ⟨np,nl,ne,⟨1,1,A1,Own.start ((e2.sub.set np _ _).set np _ _) _ _,Own.start ((e2.sub.set np _ _).set np _ _) _ _,fun _=>rfl⟩,(A2 ne.symm).trans ((A2 ne.symm).trans pl)⟩
theorem Pst.swap {b:Nat} {T:TypeId} {cs:List AV} (hP:Pst (s0.set b T cs) s bp bl L a o d k) (hb:s0.bx b=none) (h1:b≠bp) (h2:b≠bl) (cs':List AV):Pst (s0.set b T cs') (s.set b T cs') bp bl L a o d k :=
 ((hP.drop hb).1.put hb h1 h2 T cs').keep A1 h1 h2
theorem C3c {α:Type} {one:Nat→Res (α × Nat)} (hm:∀ a x a1,one a=.ok (x,a1)→a < a1∧a1≤L.length):∀ (n:Nat) (acc:List α) (a:Nat) (xs:List α) (a':Nat),a≤L.length→L.length+1≤n+a→X7 L one n acc a=.ok (xs,a')→a < a'∧a'≤L.length
 | 0,_,_,_,_,h1,h2,_=>by omega
 | n+1,acc,a,xs,a',h1,h2,h=>by
  unfold X7 at h
  split at h
  ·cases h
  ·rename_i x a1 hx
   obtain ⟨k1,k2⟩:=hm _ _ _ hx
   split at h
   ·rename_i hc
    have:=D1 hc
    obtain ⟨g1,g2⟩:=C3c hm n _ _ _ _ (by omega) (by omega) h
    omega
   ·split at h
    ·rename_i hc
     have:=D1 hc
     cases h
     omega
    ·cases h
theorem C7d {α:Type} {one:Nat→Res (α × Nat)} (hm:∀ a x a1,one a=.ok (x,a1)→a < a1∧a1≤L.length) {xs:List α} {a':Nat} (h:A1d L one a=.ok (xs,a')):a < a'∧a'≤L.length:=by
 unfold A1d at h
 split at h
 ·rename_i hc
  have:=D1 hc
  split at h
  ·rename_i hd
   have:=D1 hd
   cases h
   omega
  ·have:=C3c hm _ _ _ _ _ (by omega) (by omega) h
   omega
 ·cases h
theorem A02 {x:Tr.Sy} {a':Nat} (h:K6 L a=.ok (x,a')):a < a'∧a'≤L.length:=by
 unfold K6 at h
 split at h
 ·cases h
 ·rename_i hn
  split at h
  ·cases h
  ·rename_i hl
   cases h
   have:=A1e hn
   have:=C7d B4l hl
   omega
theorem A8j {x:Tr.De} {a':Nat} (h:A06 L a=.ok (x,a')):a < a'∧a'≤L.length:=by
 unfold A06 at h
 split at h
 ·cases h
 ·rename_i hn
  split at h
  ·cases h
  ·rename_i hl
   cases h
   have:=A1e hn
   have:=C7d A8o hl
   omega
theorem A39:∀ (n:Nat) (acc:List Tr.Se) (st:St) (xs:List Tr.Se) (z:St),F8 L st→L.length+1≤n+st.a→A01 L n acc st=.ok (xs,z)→F8 L z∧st.a < z.a∧z.k=st.k
 | 0,_,st,_,_,hk,h2,_=>by have:=hk.ha;omega
 | n+1,acc,st,xs,z,hk,h2,h=>by
  unfold A01 at h
  split at h
  ·cases h
  ·rename_i x s2 hx
   obtain ⟨g1,g2,g3⟩:=B6s hk hx
   split at h
   ·rename_i hc
    have hlt:=D1 hc
    obtain ⟨e1,e2,e3⟩:=A39 n _ { s2 with a:=s2.a+1 } _ _ ⟨hlt,by have:=g1.ho;simp only;omega,g1.hd,g1.hk⟩ (by simp only;omega) h
    simp only at e2 e3
    exact ⟨e1,by omega,e3.trans g3⟩
   ·cases h;exact ⟨g1,g2,g3⟩
def C6b (s0:Sto) (bp bl:Nat) (L:List Tok) (k:Int) (r:Res (A05 × Nat)) (v:AV) (s':Sto):Prop :=
 match r with
 | .ok (x,a')=>v=.tuple [.agg (Tr.tnA ((0,0,0),A04 x)),.nilIface]∧∃ o d,Pst s0 s' bp bl L a' o d k
 | .error x=>∃ y e a o d k,v=.tuple [.agg (Tr.tnA ((0,0,0),y)),e]∧A8x x e∧Pst s0 s' bp bl L a o d k
def D6p (s0:Sto) (bp bl:Nat) (L:List Tok) (k:Int) (r:Res (A05 × Nat)) (v:AV) (s':Sto):Prop :=
 match r with
 | .ok (x,a')=>(∃ t,v=.tuple [.agg (Tr.tnA (t,A04 x)),.nilIface])∧∃ o d,Pst s0 s' bp bl L a' o d k
 | .error x=>∃ t y e a o d k,v=.tuple [.agg (Tr.tnA (t,y)),e]∧A8x x e∧Pst s0 s' bp bl L a o d k
theorem D68 (t:Nat × Nat × Nat) (x:Tr.Tn):Le (.agg (Tr.tnA (t,x))) (.agg (Tr.tnA ((0,0,0),x))):=Le.agg (LeL.cons (Le.refl _) (LeL.cons (Le.refl _) (LeL.cons (Le.refl _) (LeL.cons (Le.refl _) (LeL.cons (Le.refl _) (LeL.cons (Le.refl _) (LeL.cons (Le.refl _) (LeL.cons (Le.slice0 _ _) (LeL.cons (Le.refl _) (LeL.cons (Le.refl _) (LeL.cons (Le.slice0 _ _) (LeL.cons (Le.refl _) (LeL.cons (Le.slice0 _ _) LeL.nil)))))))))))))
theorem C4e {f:FuncId} {args:List AV} {r:Res (A05 × Nat)} (h:A0 Tryz.prog Γ f args s (D6p s0 bp bl L k r)):A0 Tryz.prog Γ f args s (C6b s0 bp bl L k r):=by
 refine h.less fun v s' hv=>?_
 rcases r with z|⟨x,a'⟩
 ·obtain ⟨t,y,e,a',o',d',k',rfl,he,hP⟩:=hv
  exact ⟨_,s',Le.tuple (LeL.cons (D68 t y) (LeL.cons (Le.refl _) LeL.nil)),B4b.refl _,y,e,a',o',d',k',rfl,he,hP⟩
 ·obtain ⟨⟨t,rfl⟩,hP⟩:=hv
  exact ⟨_,s',Le.tuple (LeL.cons (D68 t _) (LeL.cons (Le.refl _) LeL.nil)),B4b.refl _,rfl,hP⟩
theorem A7i (o:List Ex):J9 o=(o.map exT).map Tr.exA:=by
 rw [List.map_map];rfl
theorem B1l {w:List UInt8} {a2:Nat} (h:C7 L [w] a=.ok a2):a < L.length:=by
 rw [C7] at h
 split at h
 ·rename_i hi;exact D1 hi
 ·cases h
theorem D4e (hR:Nu.Z8 Γ) (hL:L.length≤66000) (hT:∀ i,(B0 L i).2.1.length≤5000) (hP:Pst s0 s bp bl L a o d k) (hk:0≤k∧k≤128) (ha:a≤66000) :
  A0 Tryz.prog Γ 106 [.ptr (some ⟨bp,0,none⟩)] s (C6b s0 bp bl L k (H5 L k a)):=by
 refine C4e ?_
 refine acs Tryz.func106 ?_
 conv=>whnf
 intro b2 hb2
 obtain ⟨m1,m2⟩:=hP.nb hb2
 have d2:s0.bx b2=none:=hP.sub.none hb2
 have c2:=d2
 have hP2:=(hP.box hb2 43 [.str [],.int .i64 0,.int .i64 0,.str [],.int .i64 0,.int .i64 0,.str [],.slice 1 [],.int .i64 0,.int .i64 0,.slice 1 [],.int .i64 0,.slice 1 []]).keep (T:=43) (cs:=[.str [],.int .i64 0,.int .i64 0,.str [],.int .i64 0,.int .i64 0,.str [],.slice 1 [],.int .i64 0,.int .i64 0,.slice 1 [],.int .i64 0,.slice 1 []]) A1 m1 m2
 generalize s.set b2 43 [.str [],.int .i64 0,.int .i64 0,.str [],.int .i64 0,.int .i64 0,.str [],.slice 1 [],.int .i64 0,.int .i64 0,.slice 1 [],.int .i64 0,.slice 1 []]=sa at *
 refine wp ?_
 intro b4 hb4
 obtain ⟨m3,m4⟩:=hP2.nb hb4
 have c4:=hP2.sub.none hb4
 have hP4:=((hP2.box hb4 43 [.str [],.int .i64 0,.int .i64 0,.str [],.int .i64 0,.int .i64 0,.str [],.slice 1 [],.int .i64 0,.int .i64 0,.slice 1 [],.int .i64 0,.slice 1 []]).put c4 m3 m4 43 (Tr.tnA ((1,1,1),(Tr.N9,Tr.N9,([],[],0,0),[],-1,[])))).keep (b:=b4) (T:=43) (cs:=Tr.tnA ((1,1,1),(Tr.N9,Tr.N9,([],[],0,0),[],-1,[]))) A1 m3 m4
 obtain ⟨t1,t2,hbp4,_⟩:=hP4.pr
 have hP5:=hP4.clear [.ptr (some ⟨bl,0,none⟩),.slice 1 [],.slice t2 (G7 .i64 d),.int .i64 k]
 have hn:=B0t (Γ:=Γ) hP5 (by omega) (by omega) [[111,110]] (by decide) 1
 refine wp ?_
 refine A0.by hn ?_
 intro v s5 hv5
 unfold K1 at hv5
 rcases hnf:V3 L [[111,110]] a with x|⟨fr,a1⟩
 ·have eE:H5 L k a=.error x:=by unfold H5;rw [hnf]
  rw [hnf] at hv5
  obtain ⟨y,e,a',rfl,⟨kd,tx,rfl⟩,hPv⟩:=hv5
  have hq4:=(Pst.drop hPv c4).2
  have hPe:=hPv.swap c4 m3 m4 (Tr.tnA ((1,1,1),(y,Tr.N9,([],[],0,0),[],-1,[])))
  simp only [Tr.tnA] at hq4
  obtain ⟨hPx,hbx4⟩:=Pst.drop hPe c4
  obtain ⟨hPy,hbx2⟩:=Pst.drop hPx c2
  simp only [Tr.tnA] at hbx4
  refine wp ?_
  refine ⟨_,Sub.refl _,?_⟩
  rw [eE]
  exact ⟨(1,1,1),(y,Tr.N9,([],[],0,0),[],-1,[]),_,_,_,_,_,rfl,⟨kd,tx,rfl⟩,hPy.put d2 m1 m2 _ _⟩
 have e1:H5 L k a=match K6 L a1 with
  | .error e=>.error e
  | .ok (sy,a2)=>match A0m L ⟨a2,[],[],k⟩ with
   | .error e=>.error e
   | .ok (g,s3)=>match doF L s3 with
    | .error e=>.error e
    | .ok (ses,s4)=>match C7 L [[116,111]] s4.a with
     | .error e=>.error e
     | .ok a5=>match F9 L a5 with
      | .error e=>.error e
      | .ok (tw,a6)=>.ok (⟨fr,tw,sy,s4.o,g,ses⟩,a6):=by unfold H5;rw [hnf];rfl
 obtain ⟨ha1,ha1'⟩:=A5h hnf
 rw [hnf] at hv5
 obtain ⟨rfl,hPv⟩:=hv5
 have hq4:=(Pst.drop hPv c4).2
 have hPw:=hPv.swap c4 m3 m4 (Tr.tnA ((1,1,1),(fr,Tr.N9,([],[],0,0),[],-1,[])))
 simp only [Tr.tnA] at hq4
 have hsy:=B9r (Γ:=Γ) hR hT hPw hL (by omega)
 refine wp ?_
 refine A0.by hsy ?_
 intro v s6 hv6
 unfold K1 at hv6
 clear hq4
 rcases hsf:K6 L a1 with x|⟨sy,a2⟩
 ·have eE:H5 L k a=.error x:=by rw [e1,hsf]
  rw [hsf] at hv6
  obtain ⟨y,e,a',rfl,⟨kd,tx,rfl⟩,hPv6⟩:=hv6
  have hq4:=(Pst.drop hPv6 c4).2
  have hPe:=hPv6.swap c4 m3 m4 (Tr.tnA ((0,1,1),(fr,Tr.N9,y,[],-1,[])))
  simp only [Tr.tnA] at hq4
  obtain ⟨hPx,hbx4⟩:=Pst.drop hPe c4
  obtain ⟨hPy,hbx2⟩:=Pst.drop hPx c2
  simp only [Tr.tnA] at hbx4
  refine wp ?_
  refine ⟨_,Sub.refl _,?_⟩
  rw [eE]
  exact ⟨(0,1,1),(fr,Tr.N9,y,[],-1,[]),_,_,_,_,_,rfl,⟨kd,tx,rfl⟩,hPy.put d2 m1 m2 _ _⟩
 have e2:H5 L k a=match A0m L ⟨a2,[],[],k⟩ with
   | .error e=>.error e
   | .ok (g,s3)=>match doF L s3 with
    | .error e=>.error e
    | .ok (ses,s4)=>match C7 L [[116,111]] s4.a with
     | .error e=>.error e
     | .ok a5=>match F9 L a5 with
      | .error e=>.error e
      | .ok (tw,a6)=>.ok (⟨fr,tw,sy,s4.o,g,ses⟩,a6):=by rw [e1,hsf]
 clear e1
 obtain ⟨ha2,ha2'⟩:=A02 hsf
 rw [hsf] at hv6
 obtain ⟨rfl,hPv6⟩:=hv6
 have hq4:=(Pst.drop hPv6 c4).2
 have hPg0:=hPv6.swap c4 m3 m4 (Tr.tnA ((0,1,1),(fr,Tr.N9,sy,[],-1,[])))
 simp only [Tr.tnA] at hq4
 have htg:=V9 (Γ:=Γ) hPg0 (by omega) (by omega) [105,102]
 conv=>whnf
 cases hif:isF L a2 [105,102]
 ·have eGd:H5 L k a=match doF L ⟨a2,[],[],k⟩ with
    | .error e=>.error e
    | .ok (ses,s4)=>match C7 L [[116,111]] s4.a with
     | .error e=>.error e
     | .ok a5=>match F9 L a5 with
      | .error e=>.error e
      | .ok (tw,a6)=>.ok (⟨fr,tw,sy,s4.o,-1,ses⟩,a6):=by
   rw [e2,show A0m L ⟨a2,[],[],k⟩=.ok (-1,⟨a2,[],[],k⟩) by unfold A0m;rw [if_neg (by rw [hif];decide)]]
  clear e2
  rw [hif] at htg
  simp only [Bool.false_eq_true,if_false] at htg
  refine wp ?_;(refine A0.by htg ?_;rintro _ s7 ⟨rfl,hPd⟩);refine wp ?_
  clear hq4
  have hokg:a2 < L.length→F8 L ⟨a2,[],[],k⟩:=fun h=>⟨Nat.le_of_lt h,Nat.zero_le _,rfl,hk⟩
  have htd:=V9 (Γ:=Γ) hPd (by omega) (by omega) [100,111]
  conv=>whnf
  cases hdo:isF L a2 [100,111]
  ·have eD:doF L ⟨a2,[],[],k⟩=.ok ([],⟨a2,[],[],k⟩):=by unfold doF;rw [if_neg (by rw [hdo];decide)]
   have eW:∀ x,C7 L [[116,111]] a2=.error x→H5 L k a=.error x:=fun x h=>by rw [eGd,eD];simp only;rw [h]
   have eN:∀ a5,C7 L [[116,111]] a2=.ok a5→∀ x,F9 L a5=.error x→H5 L k a=.error x:=fun a5 h x h2=>by rw [eGd,eD];simp only;rw [h];simp only;rw [h2]
   have eT:∀ a5,C7 L [[116,111]] a2=.ok a5→∀ tw a6,F9 L a5=.ok (tw,a6)→H5 L k a=.ok (⟨fr,tw,sy,[],(-1),[]⟩,a6):=fun a5 h tw a6 h2=>by rw [eGd,eD];simp only;rw [h];simp only;rw [h2]
   rw [hdo] at htd
   simp only [Bool.false_eq_true,if_false] at htd
   refine wp ?_;(refine A0.by htd ?_;rintro _ sf ⟨rfl,hPt⟩);refine wp ?_
   have hw:=A1o (Γ:=Γ) hPt (by omega) (by omega) [[116,111]] (by decide) 1
   refine wp ?_
   refine A0.by hw ?_
   intro v sg hvg
   unfold A89 at hvg
   rcases hwf:C7 L [[116,111]] a2 with xe|a5
   ·have eE:=eW _ hwf
    rw [hwf] at hvg
    obtain ⟨a',⟨kd,tx,rfl⟩,hPe⟩:=hvg
    have hq4:=True.intro
    obtain ⟨hPx,hbx4⟩:=Pst.drop hPe c4
    obtain ⟨hPy,hbx2⟩:=Pst.drop hPx c2
    simp only [Tr.tnA] at hbx4
    refine wp ?_
    refine ⟨_,Sub.refl _,?_⟩
    rw [eE]
    exact ⟨(0,1,1),(fr,Tr.N9,sy,[],(-1),[]),_,_,_,_,_,rfl,⟨kd,tx,rfl⟩,hPy.put d2 m1 m2 _ _⟩
   ·have hE5:=eN _ hwf
    have hK5:=eT _ hwf
    have ha5:=A3f hwf
    have hl5:=B1l hwf
    simp only [List.length_cons,List.length_nil] at ha5
    rw [hwf] at hvg
    obtain ⟨rfl,hPg⟩:=hvg
    have hnn:=A1f (Γ:=Γ) hPg (by omega) (by omega)
    refine wp ?_
    refine A0.by hnn ?_
    intro v sh hvh
    unfold K1 at hvh
    rcases hnf2:F9 L a5 with xe|⟨tw,a6⟩
    ·rw [hnf2] at hvh
     obtain ⟨yt,e,a',rfl,⟨kd,tx,rfl⟩,hPh⟩:=hvh
     have hq4:=(Pst.drop hPh c4).2
     have hPi:=hPh.swap c4 m3 m4 (Tr.tnA ((0,1,1),(fr,yt,sy,[],(-1),[])))
     obtain ⟨u1,u2,hbp9,_⟩:=hPi.pr
     rw [A7i] at hbp9
     have hPj:=hPi.swap c4 m3 m4 (Tr.tnA ((0,u1,1),(fr,yt,sy,([]).map exT,(-1),[])))
     obtain ⟨hPx,hbx4⟩:=Pst.drop hPj c4
     obtain ⟨hPy,hbx2⟩:=Pst.drop hPx c2
     simp only [Tr.tnA] at hq4 hbp9
     refine wp ?_
     refine ⟨_,Sub.refl _,?_⟩
     rw [hE5 _ hnf2]
     exact ⟨(0,u1,1),(fr,yt,sy,([]).map exT,(-1),[]),_,_,_,_,_,rfl,⟨kd,tx,rfl⟩,hPy.put d2 m1 m2 _ _⟩
    ·rw [hnf2] at hvh
     obtain ⟨rfl,hPh⟩:=hvh
     have hq4:=(Pst.drop hPh c4).2
     have hPi:=hPh.swap c4 m3 m4 (Tr.tnA ((0,1,1),(fr,tw,sy,[],(-1),[])))
     obtain ⟨u1,u2,hbp9,_⟩:=hPi.pr
     rw [A7i] at hbp9
     have hPj:=hPi.swap c4 m3 m4 (Tr.tnA ((0,u1,1),(fr,tw,sy,([]).map exT,(-1),[])))
     obtain ⟨hPx,hbx4⟩:=Pst.drop hPj c4
     obtain ⟨hPy,hbx2⟩:=Pst.drop hPx c2
     simp only [Tr.tnA] at hq4 hbp9
     refine wp ?_
     refine ⟨_,Sub.refl _,?_⟩
     rw [hK5 _ _ hnf2]
     exact ⟨⟨(0,u1,1),rfl⟩,_,_,hPy.put d2 m1 m2 _ _⟩
  ·have hlt:=D1 hdo
   have hokd:F8 L (⟨a2+1,[],[],k⟩:St):=⟨hlt,by have:=hokg hlt;have:=this.ho;simp only at this ⊢;omega,(hokg hlt).hd,(hokg hlt).hk⟩
   rw [hdo] at htd
   simp only [if_true] at htd
   refine wp ?_;(refine A0.by htd ?_;rintro _ sf ⟨rfl,hPf⟩);refine wp ?_
   have hss:=C7w (Γ:=Γ) (st:=(⟨a2+1,[],[],k⟩:St)) hR hL hT hPf hokd
   refine wp ?_
   refine A0.by hss ?_
   intro v sf2 hvf
   unfold C9v at hvf
   rcases hsf:B6u L (⟨a2+1,[],[],k⟩:St) with xe|⟨ses,s4⟩
   ·have eD:doF L ⟨a2,[],[],k⟩=.error xe:=by unfold doF;rw [if_pos hdo];exact hsf
    have eE:H5 L k a=.error xe:=by rw [eGd,eD]
    rw [hsf] at hvf
    obtain ⟨yy,e,a',o',d',k',rfl,⟨kd,tx,rfl⟩,hPf2⟩:=hvf
    have hq4:=(Pst.drop hPf2 c4).2
    have hPe:=hPf2.swap c4 m3 m4 (Tr.tnA ((0,1,0),(fr,Tr.N9,sy,[],(-1),yy)))
    simp only [Tr.tnA] at hq4
    obtain ⟨hPx,hbx4⟩:=Pst.drop hPe c4
    obtain ⟨hPy,hbx2⟩:=Pst.drop hPx c2
    simp only [Tr.tnA] at hbx4
    refine wp ?_
    refine ⟨_,Sub.refl _,?_⟩
    rw [eE]
    exact ⟨(0,1,0),(fr,Tr.N9,sy,[],(-1),yy),_,_,_,_,_,rfl,⟨kd,tx,rfl⟩,hPy.put d2 m1 m2 _ _⟩
   ·have eD:doF L ⟨a2,[],[],k⟩=.ok (ses,s4):=by unfold doF;rw [if_pos hdo];exact hsf
    obtain ⟨hg4,hg5,hg6⟩:=A39 _ _ _ _ _ hokd (by simp only;omega) hsf
    obtain ⟨a4,o4,d4,k4⟩:=s4
    obtain rfl:k=k4:=hg6.symm
    have eW:∀ x,C7 L [[116,111]] a4=.error x→H5 L k a=.error x:=fun x h=>by rw [eGd,eD];simp only;rw [h]
    have eN:∀ a5,C7 L [[116,111]] a4=.ok a5→∀ x,F9 L a5=.error x→H5 L k a=.error x:=fun a5 h x h2=>by rw [eGd,eD];simp only;rw [h];simp only;rw [h2]
    have eT:∀ a5,C7 L [[116,111]] a4=.ok a5→∀ tw a6,F9 L a5=.ok (tw,a6)→H5 L k a=.ok (⟨fr,tw,sy,o4,(-1),ses⟩,a6):=fun a5 h tw a6 h2=>by rw [eGd,eD];simp only;rw [h];simp only;rw [h2]
    have ha4:a4≤L.length:=hg4.ha
    rw [hsf] at hvf
    obtain ⟨rfl,hPf2⟩:=hvf
    dsimp only at hPf2
    have hq4:=(Pst.drop hPf2 c4).2
    have hPt:=hPf2.swap c4 m3 m4 (Tr.tnA ((0,1,0),(fr,Tr.N9,sy,[],(-1),ses)))
    simp only [Tr.tnA] at hq4
    refine wp ?_
    have hw:=A1o (Γ:=Γ) hPt (by omega) (by omega) [[116,111]] (by decide) 1
    refine wp ?_
    refine A0.by hw ?_
    intro v sg hvg
    unfold A89 at hvg
    rcases hwf:C7 L [[116,111]] a4 with xe|a5
    ·have eE:=eW _ hwf
     rw [hwf] at hvg
     obtain ⟨a',⟨kd,tx,rfl⟩,hPe⟩:=hvg
     have hq4:=True.intro
     obtain ⟨hPx,hbx4⟩:=Pst.drop hPe c4
     obtain ⟨hPy,hbx2⟩:=Pst.drop hPx c2
     simp only [Tr.tnA] at hbx4
     refine wp ?_
     refine ⟨_,Sub.refl _,?_⟩
     rw [eE]
     exact ⟨(0,1,0),(fr,Tr.N9,sy,[],(-1),ses),_,_,_,_,_,rfl,⟨kd,tx,rfl⟩,hPy.put d2 m1 m2 _ _⟩
    ·have hE5:=eN _ hwf
     have hK5:=eT _ hwf
     have ha5:=A3f hwf
     have hl5:=B1l hwf
     simp only [List.length_cons,List.length_nil] at ha5
     rw [hwf] at hvg
     obtain ⟨rfl,hPg⟩:=hvg
     have hnn:=A1f (Γ:=Γ) hPg (by omega) (by omega)
     refine wp ?_
     refine A0.by hnn ?_
     intro v sh hvh
     unfold K1 at hvh
     rcases hnf2:F9 L a5 with xe|⟨tw,a6⟩
     ·rw [hnf2] at hvh
      obtain ⟨yt,e,a',rfl,⟨kd,tx,rfl⟩,hPh⟩:=hvh
      have hq4:=(Pst.drop hPh c4).2
      have hPi:=hPh.swap c4 m3 m4 (Tr.tnA ((0,1,0),(fr,yt,sy,[],(-1),ses)))
      obtain ⟨u1,u2,hbp9,_⟩:=hPi.pr
      rw [A7i] at hbp9
      have hPj:=hPi.swap c4 m3 m4 (Tr.tnA ((0,u1,0),(fr,yt,sy,(o4).map exT,(-1),ses)))
      obtain ⟨hPx,hbx4⟩:=Pst.drop hPj c4
      obtain ⟨hPy,hbx2⟩:=Pst.drop hPx c2
      simp only [Tr.tnA] at hq4 hbp9
      refine wp ?_
      refine ⟨_,Sub.refl _,?_⟩
      rw [hE5 _ hnf2]
      exact ⟨(0,u1,0),(fr,yt,sy,(o4).map exT,(-1),ses),_,_,_,_,_,rfl,⟨kd,tx,rfl⟩,hPy.put d2 m1 m2 _ _⟩
     ·rw [hnf2] at hvh
      obtain ⟨rfl,hPh⟩:=hvh
      have hq4:=(Pst.drop hPh c4).2
      have hPi:=hPh.swap c4 m3 m4 (Tr.tnA ((0,1,0),(fr,tw,sy,[],(-1),ses)))
      obtain ⟨u1,u2,hbp9,_⟩:=hPi.pr
      rw [A7i] at hbp9
      have hPj:=hPi.swap c4 m3 m4 (Tr.tnA ((0,u1,0),(fr,tw,sy,(o4).map exT,(-1),ses)))
      obtain ⟨hPx,hbx4⟩:=Pst.drop hPj c4
      obtain ⟨hPy,hbx2⟩:=Pst.drop hPx c2
      simp only [Tr.tnA] at hq4 hbp9
      refine wp ?_
      refine ⟨_,Sub.refl _,?_⟩
      rw [hK5 _ _ hnf2]
      exact ⟨⟨(0,u1,0),rfl⟩,_,_,hPy.put d2 m1 m2 _ _⟩
 ·have hlt:=D1 hif
  have hokg0:F8 L ⟨a2+1,[],[],k⟩:=⟨hlt,Nat.zero_le _,rfl,hk⟩
  rw [hif] at htg
  simp only [if_true] at htg
  refine wp ?_;(refine A0.by htg ?_;rintro _ s7 ⟨rfl,hPd0⟩);refine wp ?_
  clear hq4
  have he:=(C00 hR (by omega) hT (A0b L)).1 _ _ _ _ ⟨a2+1,[],[],k⟩ hPd0 hokg0 (N5 L _)
  have hg:=J8 (A0b L) 0 ⟨a2+1,[],[],k⟩ (by omega) hokg0 (N5 L _)
  refine A0.by he ?_
  intro v s8 hv8
  rcases hr:ev L (A0b L) 0 ⟨a2+1,[],[],k⟩ with x|s3
  ·have eE:H5 L k a=.error x:=by
    rw [e2,show A0m L ⟨a2,[],[],k⟩=.error x by unfold A0m;rw [if_pos hif];unfold B2x;rw [hr]]
   rw [hr] at hv8
   obtain ⟨⟨kd,tx,rfl⟩,a',o',d',k',hPe⟩:=hv8
   have hq4:=True.intro
   obtain ⟨hPx,hbx4⟩:=Pst.drop hPe c4
   obtain ⟨hPy,hbx2⟩:=Pst.drop hPx c2
   simp only [Tr.tnA] at hbx4
   refine wp ?_
   refine ⟨_,Sub.refl _,?_⟩
   rw [eE]
   exact ⟨(0,1,1),(fr,Tr.N9,sy,[],-1,[]),_,_,_,_,_,rfl,⟨kd,tx,rfl⟩,hPy.put d2 m1 m2 _ _⟩
  ·obtain ⟨g1,g2⟩:=hg s3 hr
   obtain ⟨a3,o3,d3,k3⟩:=s3
   obtain rfl:k=k3:=g2.k.symm
   have eGd:H5 L k a=match doF L ⟨a3,o3,d3,k⟩ with
     | .error e=>.error e
     | .ok (ses,s4)=>match C7 L [[116,111]] s4.a with
      | .error e=>.error e
      | .ok a5=>match F9 L a5 with
       | .error e=>.error e
       | .ok (tw,a6)=>.ok (⟨fr,tw,sy,s4.o,(o3.length:Int) - 1,ses⟩,a6):=by
    rw [e2,show A0m L ⟨a2,[],[],k⟩=.ok ((o3.length:Int) - 1,⟨a3,o3,d3,k⟩) by unfold A0m;rw [if_pos hif];unfold B2x;rw [hr]]
   clear e2
   have gl:a3≤L.length:=g1.ha
   have go:o3.length≤a3:=g1.ho
   have hokg:a3 < L.length→F8 L ⟨a3,o3,d3,k⟩:=fun _=>g1
   rw [hr] at hv8
   obtain ⟨rfl,hPv8⟩:=hv8
   dsimp only at hPv8
   have hla:=A6c (Γ:=Γ) hPv8 (by omega)
   have hq4:=(Pst.drop hPv8 c4).2
   have hPd:=hPv8.swap c4 m3 m4 (Tr.tnA ((0,1,1),(fr,Tr.N9,sy,[],(o3.length:Int) - 1,[])))
   simp only [Tr.tnA] at hq4
   refine wp ?_;(refine A0.by hla ?_;rintro _ s9 ⟨rfl,hs9⟩;subst s9);refine wp ?_
   clear hq4
   have htd:=V9 (Γ:=Γ) hPd (by omega) (by omega) [100,111]
   conv=>whnf
   cases hdo:isF L a3 [100,111]
   ·have eD:doF L ⟨a3,o3,d3,k⟩=.ok ([],⟨a3,o3,d3,k⟩):=by unfold doF;rw [if_neg (by rw [hdo];decide)]
    have eW:∀ x,C7 L [[116,111]] a3=.error x→H5 L k a=.error x:=fun x h=>by rw [eGd,eD];simp only;rw [h]
    have eN:∀ a5,C7 L [[116,111]] a3=.ok a5→∀ x,F9 L a5=.error x→H5 L k a=.error x:=fun a5 h x h2=>by rw [eGd,eD];simp only;rw [h];simp only;rw [h2]
    have eT:∀ a5,C7 L [[116,111]] a3=.ok a5→∀ tw a6,F9 L a5=.ok (tw,a6)→H5 L k a=.ok (⟨fr,tw,sy,o3,((o3.length:Int) - 1),[]⟩,a6):=fun a5 h tw a6 h2=>by rw [eGd,eD];simp only;rw [h];simp only;rw [h2]
    rw [hdo] at htd
    simp only [Bool.false_eq_true,if_false] at htd
    refine wp ?_;(refine A0.by htd ?_;rintro _ sf ⟨rfl,hPt⟩);refine wp ?_
    have hw:=A1o (Γ:=Γ) hPt (by omega) (by omega) [[116,111]] (by decide) 1
    refine wp ?_
    refine A0.by hw ?_
    intro v sg hvg
    unfold A89 at hvg
    rcases hwf:C7 L [[116,111]] a3 with xe|a5
    ·have eE:=eW _ hwf
     rw [hwf] at hvg
     obtain ⟨a',⟨kd,tx,rfl⟩,hPe⟩:=hvg
     have hq4:=True.intro
     obtain ⟨hPx,hbx4⟩:=Pst.drop hPe c4
     obtain ⟨hPy,hbx2⟩:=Pst.drop hPx c2
     simp only [Tr.tnA] at hbx4
     refine wp ?_
     refine ⟨_,Sub.refl _,?_⟩
     rw [eE]
     exact ⟨(0,1,1),(fr,Tr.N9,sy,[],((o3.length:Int) - 1),[]),_,_,_,_,_,rfl,⟨kd,tx,rfl⟩,hPy.put d2 m1 m2 _ _⟩
    ·have hE5:=eN _ hwf
     have hK5:=eT _ hwf
     have ha5:=A3f hwf
     have hl5:=B1l hwf
     simp only [List.length_cons,List.length_nil] at ha5
     rw [hwf] at hvg
     obtain ⟨rfl,hPg⟩:=hvg
     have hnn:=A1f (Γ:=Γ) hPg (by omega) (by omega)
     refine wp ?_
     refine A0.by hnn ?_
     intro v sh hvh
     unfold K1 at hvh
     rcases hnf2:F9 L a5 with xe|⟨tw,a6⟩
     ·rw [hnf2] at hvh
      obtain ⟨yt,e,a',rfl,⟨kd,tx,rfl⟩,hPh⟩:=hvh
      have hq4:=(Pst.drop hPh c4).2
      have hPi:=hPh.swap c4 m3 m4 (Tr.tnA ((0,1,1),(fr,yt,sy,[],((o3.length:Int) - 1),[])))
      obtain ⟨u1,u2,hbp9,_⟩:=hPi.pr
      rw [A7i] at hbp9
      have hPj:=hPi.swap c4 m3 m4 (Tr.tnA ((0,u1,1),(fr,yt,sy,(o3).map exT,((o3.length:Int) - 1),[])))
      obtain ⟨hPx,hbx4⟩:=Pst.drop hPj c4
      obtain ⟨hPy,hbx2⟩:=Pst.drop hPx c2
      simp only [Tr.tnA] at hq4 hbp9
      refine wp ?_
      refine ⟨_,Sub.refl _,?_⟩
      rw [hE5 _ hnf2]
      exact ⟨(0,u1,1),(fr,yt,sy,(o3).map exT,((o3.length:Int) - 1),[]),_,_,_,_,_,rfl,⟨kd,tx,rfl⟩,hPy.put d2 m1 m2 _ _⟩
     ·rw [hnf2] at hvh
      obtain ⟨rfl,hPh⟩:=hvh
      have hq4:=(Pst.drop hPh c4).2
      have hPi:=hPh.swap c4 m3 m4 (Tr.tnA ((0,1,1),(fr,tw,sy,[],((o3.length:Int) - 1),[])))
      obtain ⟨u1,u2,hbp9,_⟩:=hPi.pr
      rw [A7i] at hbp9
      have hPj:=hPi.swap c4 m3 m4 (Tr.tnA ((0,u1,1),(fr,tw,sy,(o3).map exT,((o3.length:Int) - 1),[])))
      obtain ⟨hPx,hbx4⟩:=Pst.drop hPj c4
      obtain ⟨hPy,hbx2⟩:=Pst.drop hPx c2
      simp only [Tr.tnA] at hq4 hbp9
      refine wp ?_
      refine ⟨_,Sub.refl _,?_⟩
      rw [hK5 _ _ hnf2]
      exact ⟨⟨(0,u1,1),rfl⟩,_,_,hPy.put d2 m1 m2 _ _⟩
   ·have hlt:=D1 hdo
    have hokd:F8 L (⟨a3+1,o3,d3,k⟩:St):=⟨hlt,by have:=hokg hlt;have:=this.ho;simp only at this ⊢;omega,(hokg hlt).hd,(hokg hlt).hk⟩
    rw [hdo] at htd
    simp only [if_true] at htd
    refine wp ?_;(refine A0.by htd ?_;rintro _ sf ⟨rfl,hPf⟩);refine wp ?_
    have hss:=C7w (Γ:=Γ) (st:=(⟨a3+1,o3,d3,k⟩:St)) hR hL hT hPf hokd
    refine wp ?_
    refine A0.by hss ?_
    intro v sf2 hvf
    unfold C9v at hvf
    rcases hsf:B6u L (⟨a3+1,o3,d3,k⟩:St) with xe|⟨ses,s4⟩
    ·have eD:doF L ⟨a3,o3,d3,k⟩=.error xe:=by unfold doF;rw [if_pos hdo];exact hsf
     have eE:H5 L k a=.error xe:=by rw [eGd,eD]
     rw [hsf] at hvf
     obtain ⟨yy,e,a',o',d',k',rfl,⟨kd,tx,rfl⟩,hPf2⟩:=hvf
     have hq4:=(Pst.drop hPf2 c4).2
     have hPe:=hPf2.swap c4 m3 m4 (Tr.tnA ((0,1,0),(fr,Tr.N9,sy,[],((o3.length:Int) - 1),yy)))
     simp only [Tr.tnA] at hq4
     obtain ⟨hPx,hbx4⟩:=Pst.drop hPe c4
     obtain ⟨hPy,hbx2⟩:=Pst.drop hPx c2
     simp only [Tr.tnA] at hbx4
     refine wp ?_
     refine ⟨_,Sub.refl _,?_⟩
     rw [eE]
     exact ⟨(0,1,0),(fr,Tr.N9,sy,[],((o3.length:Int) - 1),yy),_,_,_,_,_,rfl,⟨kd,tx,rfl⟩,hPy.put d2 m1 m2 _ _⟩
    ·have eD:doF L ⟨a3,o3,d3,k⟩=.ok (ses,s4):=by unfold doF;rw [if_pos hdo];exact hsf
     obtain ⟨hg4,hg5,hg6⟩:=A39 _ _ _ _ _ hokd (by simp only;omega) hsf
     obtain ⟨a4,o4,d4,k4⟩:=s4
     obtain rfl:k=k4:=hg6.symm
     have eW:∀ x,C7 L [[116,111]] a4=.error x→H5 L k a=.error x:=fun x h=>by rw [eGd,eD];simp only;rw [h]
     have eN:∀ a5,C7 L [[116,111]] a4=.ok a5→∀ x,F9 L a5=.error x→H5 L k a=.error x:=fun a5 h x h2=>by rw [eGd,eD];simp only;rw [h];simp only;rw [h2]
     have eT:∀ a5,C7 L [[116,111]] a4=.ok a5→∀ tw a6,F9 L a5=.ok (tw,a6)→H5 L k a=.ok (⟨fr,tw,sy,o4,((o3.length:Int) - 1),ses⟩,a6):=fun a5 h tw a6 h2=>by rw [eGd,eD];simp only;rw [h];simp only;rw [h2]
     have ha4:a4≤L.length:=hg4.ha
     rw [hsf] at hvf
     obtain ⟨rfl,hPf2⟩:=hvf
     dsimp only at hPf2
     have hq4:=(Pst.drop hPf2 c4).2
     have hPt:=hPf2.swap c4 m3 m4 (Tr.tnA ((0,1,0),(fr,Tr.N9,sy,[],((o3.length:Int) - 1),ses)))
     simp only [Tr.tnA] at hq4
     refine wp ?_
     have hw:=A1o (Γ:=Γ) hPt (by omega) (by omega) [[116,111]] (by decide) 1
     refine wp ?_
     refine A0.by hw ?_
     intro v sg hvg
     unfold A89 at hvg
     rcases hwf:C7 L [[116,111]] a4 with xe|a5
     ·have eE:=eW _ hwf
      rw [hwf] at hvg
      obtain ⟨a',⟨kd,tx,rfl⟩,hPe⟩:=hvg
      have hq4:=True.intro
      obtain ⟨hPx,hbx4⟩:=Pst.drop hPe c4
      obtain ⟨hPy,hbx2⟩:=Pst.drop hPx c2
      simp only [Tr.tnA] at hbx4
      refine wp ?_
      refine ⟨_,Sub.refl _,?_⟩
      rw [eE]
      exact ⟨(0,1,0),(fr,Tr.N9,sy,[],((o3.length:Int) - 1),ses),_,_,_,_,_,rfl,⟨kd,tx,rfl⟩,hPy.put d2 m1 m2 _ _⟩
     ·have hE5:=eN _ hwf
      have hK5:=eT _ hwf
      have ha5:=A3f hwf
      have hl5:=B1l hwf
      simp only [List.length_cons,List.length_nil] at ha5
      rw [hwf] at hvg
      obtain ⟨rfl,hPg⟩:=hvg
      have hnn:=A1f (Γ:=Γ) hPg (by omega) (by omega)
      refine wp ?_
      refine A0.by hnn ?_
      intro v sh hvh
      unfold K1 at hvh
      rcases hnf2:F9 L a5 with xe|⟨tw,a6⟩
      ·rw [hnf2] at hvh
       obtain ⟨yt,e,a',rfl,⟨kd,tx,rfl⟩,hPh⟩:=hvh
       have hq4:=(Pst.drop hPh c4).2
       have hPi:=hPh.swap c4 m3 m4 (Tr.tnA ((0,1,0),(fr,yt,sy,[],((o3.length:Int) - 1),ses)))
       obtain ⟨u1,u2,hbp9,_⟩:=hPi.pr
       rw [A7i] at hbp9
       have hPj:=hPi.swap c4 m3 m4 (Tr.tnA ((0,u1,0),(fr,yt,sy,(o4).map exT,((o3.length:Int) - 1),ses)))
       obtain ⟨hPx,hbx4⟩:=Pst.drop hPj c4
       obtain ⟨hPy,hbx2⟩:=Pst.drop hPx c2
       simp only [Tr.tnA] at hq4 hbp9
       refine wp ?_
       refine ⟨_,Sub.refl _,?_⟩
       rw [hE5 _ hnf2]
       exact ⟨(0,u1,0),(fr,yt,sy,(o4).map exT,((o3.length:Int) - 1),ses),_,_,_,_,_,rfl,⟨kd,tx,rfl⟩,hPy.put d2 m1 m2 _ _⟩
      ·rw [hnf2] at hvh
       obtain ⟨rfl,hPh⟩:=hvh
       have hq4:=(Pst.drop hPh c4).2
       have hPi:=hPh.swap c4 m3 m4 (Tr.tnA ((0,1,0),(fr,tw,sy,[],((o3.length:Int) - 1),ses)))
       obtain ⟨u1,u2,hbp9,_⟩:=hPi.pr
       rw [A7i] at hbp9
       have hPj:=hPi.swap c4 m3 m4 (Tr.tnA ((0,u1,0),(fr,tw,sy,(o4).map exT,((o3.length:Int) - 1),ses)))
       obtain ⟨hPx,hbx4⟩:=Pst.drop hPj c4
       obtain ⟨hPy,hbx2⟩:=Pst.drop hPx c2
       simp only [Tr.tnA] at hq4 hbp9
       refine wp ?_
       refine ⟨_,Sub.refl _,?_⟩
       rw [hK5 _ _ hnf2]
       exact ⟨⟨(0,u1,0),rfl⟩,_,_,hPy.put d2 m1 m2 _ _⟩
end
end Go.Proofs.YticnkpgmmpenlaaGreatDoor.Pa
namespace Go.Proofs.YticnkpgmmpenlaaGreatDoor.Pa
open Go Go.Ab Go.RowKit Go.Proofs.YticnkpgmmpenlaaGreatDoor.Lx
variable {Γ:Nat→AV}
attribute [local irreducible] A5 Sto.set Sto.grow
section
variable {s0 s1 s:Sto} {bp bl:Nat} {L:List Tok} {a:Nat} {o:List Ex} {d:List Int} {k:Int}
theorem B07 {al:Bool} {x:Tr.Qu} {a':Nat} (h:W4 L al a=.ok (x,a')):a≤a'∧a'≤L.length:=by
 unfold W4 at h
 split at h
 ·cases h
 ·rename_i hn
  split at h
  ·cases h
  ·rename_i hl
   cases h
   have:=A5h hn
   have:=A8o _ _ _ hl
   omega
theorem B3r {x:Tr.Fr} {a':Nat} (h:A1v L a=.ok (x,a')):a≤a'∧a'≤L.length:=by
 unfold A1v at h
 split at h
 ·cases h
 ·rename_i hn
  split at h
  ·cases h
  ·rename_i hl
   cases h
   have:=A5h hn
   have:=A8w hl
   omega
theorem B6y {nx:Bool} {x:Tr.St} {a':Nat} (h:Y1 L nx a=.ok (x,a')):a≤a'∧a'≤L.length:=by
 unfold Y1 at h
 split at h
 ·cases h
 ·rename_i hn
  have:=A1e hn
  injection h with h
  injection h with h1 h2
  subst h2
  split
  ·rename_i hi
   have:=D1 hi
   omega
  ·omega
theorem C3e {α:Type} {ws:List (List UInt8)} {one:Nat→Nat→Res (α × Nat)} (hm:∀ i a x a1,one i a=.ok (x,a1)→a≤a1∧a1≤L.length):∀ (n:Nat) (acc:List α) (a:Nat) (xs:List α) (a':Nat),a≤L.length→F4 L ws one n acc a=.ok (xs,a')→a≤a'∧a'≤L.length
 | 0,_,_,_,_,h1,h=>by cases h;exact ⟨Nat.le_refl _,h1⟩
 | n+1,acc,a,xs,a',h1,h=>by
  unfold F4 at h
  split at h
  ·cases h;exact ⟨Nat.le_refl _,h1⟩
  ·split at h
   ·cases h
   ·rename_i hx
    obtain ⟨k1,k2⟩:=hm _ _ _ _ hx
    obtain ⟨g1,g2⟩:=C3e hm n _ _ _ _ k2 h
    omega
theorem A29 {α:Type} {ws:List (List UInt8)} {one:Nat→Nat→Res (α × Nat)} (hm:∀ i a x a1,one i a=.ok (x,a1)→a≤a1∧a1≤L.length) {xs:List α} {a':Nat} (h1:a≤L.length) (h:N0 L ws one a=.ok (xs,a')):a≤a'∧a'≤L.length:=C3e hm _ _ _ _ _ h1 h
def hdA (k0 k1 k2 k3 k4:Nat) (h:Head):List AV:=[.str h.name.1,.int .i64 h.name.2.1,.int .i64 h.name.2.2,.slice k0 (h.decls.map (fun x=>Tr.deA (0,x))),.slice k1 (h.quants.map Tr.quA),.slice k2 (h.frees.map Tr.frA),.slice k3 (h.states.map Tr.stA),
 .str h.start.1,.int .i64 h.start.2.1,.int .i64 h.start.2.2,.slice k4 (h.also.map (fun x=>Tr.syA (0,x))),.slice 1 []]
def hd0:Head:=⟨Tr.N9,[],[],[],[],Tr.N9,[]⟩
def F0 (L:List Tok):Nat→Head→Nat→Res (Head × Nat)
 | 0,h,a=>match C7 L [B1k] a with|.error e=>.error e|.ok a'=>.ok (h,a')
 | 1,h,a=>match F9 L a with|.error e=>.error e|.ok (x,a')=>.ok ({ h with name:=x },a')
 | 2,h,a=>match N0 L [A17] (fun _=>A06 L) a with|.error e=>.error e|.ok (x,a')=>.ok ({ h with decls:=x },a')
 | 3,h,a=>match N0 L [R6,wForall] (fun i=>W4 L (decide (i=1))) a with|.error e=>.error e|.ok (x,a')=>.ok ({ h with quants:=x },a')
 | 4,h,a=>match N0 L [A21] (fun _=>A1v L) a with|.error e=>.error e|.ok (x,a')=>.ok ({ h with frees:=x },a')
 | 5,h,a=>match N0 L [A1x,wNext] (fun i=>Y1 L (decide (i=1))) a with|.error e=>.error e|.ok (x,a')=>.ok ({ h with states:=x },a')
 | 6,h,a=>match C7 L [Y5] a with|.error e=>.error e|.ok a'=>.ok (h,a')
 | 7,h,a=>match F9 L a with|.error e=>.error e|.ok (x,a')=>.ok ({ h with start:=x },a')
 | 8,h,a=>match N0 L [P0] (fun _=>K6 L) a with|.error e=>.error e|.ok (x,a')=>.ok ({ h with also:=x },a')
 | _,h,a=>.ok (h,a)
def W5 (L:List Tok):Nat→Nat→Head→Nat→Res (Head × Nat)
 | 0,_,h,a=>.ok (h,a)
 | n+1,i,h,a=>match F0 L i h a with|.error e=>.error e|.ok (h',a')=>W5 L n (i+1) h' a'
theorem C5k (L:List Tok) (a:Nat):T7 L a=W5 L 9 0 hd0 a:=by
 unfold T7
 simp only [W5,F0]
 rcases C7 L [B1k] a with e|a1<;>simp only
 rcases F9 L a1 with e|⟨nm,a2⟩<;>simp only
 rcases N0 L [A17] (fun _=>A06 L) a2 with e|⟨ds,a3⟩<;>simp only
 rcases N0 L [R6,wForall] (fun i=>W4 L (decide (i=1))) a3 with e|⟨qs,a4⟩<;>simp only
 rcases N0 L [A21] (fun _=>A1v L) a4 with e|⟨fs,a5⟩<;>simp only
 rcases N0 L [A1x,wNext] (fun i=>Y1 L (decide (i=1))) a5 with e|⟨ss,a6⟩<;>simp only
 rcases C7 L [Y5] a6 with e|a7<;>simp only
 rcases F9 L a7 with e|⟨st,a8⟩<;>simp only
 rcases N0 L [P0] (fun _=>K6 L) a8 with e|⟨al,a9⟩<;>rfl
def A60 (s1:Sto) (b4 bp bl:Nat) (L:List Tok) (o:List Ex) (d:List Int) (k:Int) (r:Res (Head × Nat)) (v:AV) (s':Sto):Prop :=
 match r with
 | .ok (h,a')=>v=.nilIface∧a'≤L.length∧∃ k0 k1 k2 k3 k4,Pst (s1.set b4 31 (hdA k0 k1 k2 k3 k4 h)) s' bp bl L a' o d k
 | .error x=>A8x x v∧∃ h k0 k1 k2 k3 k4 a',Pst (s1.set b4 31 (hdA k0 k1 k2 k3 k4 h)) s' bp bl L a' o d k
theorem C4l {w:List UInt8} {a2:Nat} (h:C7 L [w] a=.ok a2):a2≤L.length:=by
 have h1:=A3f h
 have h2:=B1l h
 simp only [List.length_cons,List.length_nil] at h1
 omega
theorem D3p {b1 b4:Nat} (c4:s1.bx b4=none) (hb1:s1.bx b1=some (96,[.ptr (some ⟨bp,0,none⟩)])) (n1:b4≠bp) (n2:b4≠bl) (hL:L.length≤66000) (hla:a≤L.length) {h:Head} {k0 k1 k2 k3 k4:Nat}
  (hP:Pst (s1.set b4 31 (hdA k0 k1 k2 k3 k4 h)) s bp bl L a o d k) :
  A0 Tryz.prog Γ 162 [.ptr (some ⟨b1,0,none⟩)] s (A60 s1 b4 bp bl L o d k (F0 L 0 h a)):=by
 have n14:b1≠b4:=fun h=>by subst h;rw [c4] at hb1;cases hb1
 have g1:=hP.sub.bx _ _ ((A2 n14).trans hb1)
 have hw:=A1o (Γ:=Γ) hP (by omega) (by omega) [B1k] (by decide) 1
 refine acs Tryz.func162 ?_
 refine wp ?_
 refine A0.by hw ?_
 intro v s7 hv7
 unfold A89 at hv7
 rcases hwf:C7 L [B1k] a with z|a2
 ·rw [hwf] at hv7
  obtain ⟨a',⟨kd,tx,rfl⟩,hP7⟩:=hv7
  refine wp ?_
  refine ⟨_,Sub.refl _,?_⟩
  rw [show F0 L 0 h a=.error z by simp only [F0,hwf]]
  exact ⟨⟨kd,tx,rfl⟩,h,_,_,_,_,_,a',hP7⟩
 ·rw [hwf] at hv7
  obtain ⟨rfl,hP7⟩:=hv7
  refine wp ?_
  refine ⟨_,Sub.refl _,?_⟩
  rw [show F0 L 0 h a=.ok (h,a2) by simp only [F0,hwf]]
  exact ⟨rfl,C4l hwf,_,_,_,_,_,hP7⟩
theorem D3v {b1 b4:Nat} (c4:s1.bx b4=none) (hb1:s1.bx b1=some (96,[.ptr (some ⟨bp,0,none⟩)])) (n1:b4≠bp) (n2:b4≠bl) (hL:L.length≤66000) (hla:a≤L.length) {h:Head} {k0 k1 k2 k3 k4:Nat}
  (hP:Pst (s1.set b4 31 (hdA k0 k1 k2 k3 k4 h)) s bp bl L a o d k) :
  A0 Tryz.prog Γ 182 [.ptr (some ⟨b1,0,none⟩)] s (A60 s1 b4 bp bl L o d k (F0 L 6 h a)):=by
 have n14:b1≠b4:=fun h=>by subst h;rw [c4] at hb1;cases hb1
 have g1:=hP.sub.bx _ _ ((A2 n14).trans hb1)
 have hw:=A1o (Γ:=Γ) hP (by omega) (by omega) [Y5] (by decide) 1
 refine acs Tryz.func182 ?_
 refine wp ?_
 refine A0.by hw ?_
 intro v s7 hv7
 unfold A89 at hv7
 rcases hwf:C7 L [Y5] a with z|a2
 ·rw [hwf] at hv7
  obtain ⟨a',⟨kd,tx,rfl⟩,hP7⟩:=hv7
  refine wp ?_
  refine ⟨_,Sub.refl _,?_⟩
  rw [show F0 L 6 h a=.error z by simp only [F0,hwf]]
  exact ⟨⟨kd,tx,rfl⟩,h,_,_,_,_,_,a',hP7⟩
 ·rw [hwf] at hv7
  obtain ⟨rfl,hP7⟩:=hv7
  refine wp ?_
  refine ⟨_,Sub.refl _,?_⟩
  rw [show F0 L 6 h a=.ok (h,a2) by simp only [F0,hwf]]
  exact ⟨rfl,C4l hwf,_,_,_,_,_,hP7⟩
theorem D3q {b1 b4:Nat} (c4:s1.bx b4=none) (hb1:s1.bx b1=some (96,[.ptr (some ⟨bp,0,none⟩)])) (n1:b4≠bp) (n2:b4≠bl) (hL:L.length≤66000) (hla:a≤L.length) {h:Head} {k0 k1 k2 k3 k4:Nat}
  (hP:Pst (s1.set b4 31 (hdA k0 k1 k2 k3 k4 h)) s bp bl L a o d k) :
  A0 Tryz.prog Γ 164 [.ptr (some ⟨b1,0,none⟩),.ptr (some ⟨b4,0,none⟩)] s (A60 s1 b4 bp bl L o d k (F0 L 1 h a)):=by
 have n14:b1≠b4:=fun h=>by subst h;rw [c4] at hb1;cases hb1
 have g1:=hP.sub.bx _ _ ((A2 n14).trans hb1)
 have hw:=A1f (Γ:=Γ) hP (by omega) (by omega)
 refine acs Tryz.func164 ?_
 refine wp ?_
 refine A0.by hw ?_
 intro v s7 hv7
 unfold K1 at hv7
 rcases hwf:F9 L a with z|⟨x,a2⟩
 ·rw [hwf] at hv7
  obtain ⟨y,e,a',rfl,⟨kd,tx,rfl⟩,hP7⟩:=hv7
  have hq4:=(Pst.drop hP7 c4).2
  have hP8:=hP7.swap c4 n1 n2 (hdA k0 k1 k2 k3 k4 { h with name:=y })
  simp only [hdA] at hq4
  refine wp ?_
  refine ⟨_,Sub.refl _,?_⟩
  rw [show F0 L 1 h a=.error z by simp only [F0,hwf]]
  exact ⟨⟨kd,tx,rfl⟩,{ h with name:=y },_,_,_,_,_,a',hP8⟩
 ·rw [hwf] at hv7
  obtain ⟨rfl,hP7⟩:=hv7
  have hq4:=(Pst.drop hP7 c4).2
  have hP8:=hP7.swap c4 n1 n2 (hdA k0 k1 k2 k3 k4 { h with name:=x })
  simp only [hdA] at hq4
  refine wp ?_
  refine ⟨_,Sub.refl _,?_⟩
  rw [show F0 L 1 h a=.ok ({ h with name:=x },a2) by simp only [F0,hwf]]
  exact ⟨rfl,by have:=A1e hwf;omega,_,_,_,_,_,hP8⟩
theorem D3w {b1 b4:Nat} (c4:s1.bx b4=none) (hb1:s1.bx b1=some (96,[.ptr (some ⟨bp,0,none⟩)])) (n1:b4≠bp) (n2:b4≠bl) (hL:L.length≤66000) (hla:a≤L.length) {h:Head} {k0 k1 k2 k3 k4:Nat}
  (hP:Pst (s1.set b4 31 (hdA k0 k1 k2 k3 k4 h)) s bp bl L a o d k) :
  A0 Tryz.prog Γ 183 [.ptr (some ⟨b1,0,none⟩),.ptr (some ⟨b4,0,none⟩)] s (A60 s1 b4 bp bl L o d k (F0 L 7 h a)):=by
 have n14:b1≠b4:=fun h=>by subst h;rw [c4] at hb1;cases hb1
 have g1:=hP.sub.bx _ _ ((A2 n14).trans hb1)
 have hw:=A1f (Γ:=Γ) hP (by omega) (by omega)
 refine acs Tryz.func183 ?_
 refine wp ?_
 refine A0.by hw ?_
 intro v s7 hv7
 unfold K1 at hv7
 rcases hwf:F9 L a with z|⟨x,a2⟩
 ·rw [hwf] at hv7
  obtain ⟨y,e,a',rfl,⟨kd,tx,rfl⟩,hP7⟩:=hv7
  have hq4:=(Pst.drop hP7 c4).2
  have hP8:=hP7.swap c4 n1 n2 (hdA k0 k1 k2 k3 k4 { h with start:=y })
  simp only [hdA] at hq4
  refine wp ?_
  refine ⟨_,Sub.refl _,?_⟩
  rw [show F0 L 7 h a=.error z by simp only [F0,hwf]]
  exact ⟨⟨kd,tx,rfl⟩,{ h with start:=y },_,_,_,_,_,a',hP8⟩
 ·rw [hwf] at hv7
  obtain ⟨rfl,hP7⟩:=hv7
  have hq4:=(Pst.drop hP7 c4).2
  have hP8:=hP7.swap c4 n1 n2 (hdA k0 k1 k2 k3 k4 { h with start:=x })
  simp only [hdA] at hq4
  refine wp ?_
  refine ⟨_,Sub.refl _,?_⟩
  rw [show F0 L 7 h a=.ok ({ h with start:=x },a2) by simp only [F0,hwf]]
  exact ⟨rfl,by have:=A1e hwf;omega,_,_,_,_,_,hP8⟩
theorem D2q (hE:Nu.Z8 Γ) (hT:∀ i,(B0 L i).2.1.length≤5000) {b1:Nat} (hb1:s1.bx b1=some (96,[.ptr (some ⟨bp,0,none⟩)])) (hL:L.length≤66000) (ha:a≤66000) (i:Nat) (hP:Pst s1 s bp bl L a o d k) :
  A0 Tryz.prog Γ 168 [.int .i64 i,.ptr (some ⟨b1,0,none⟩)] s (K1 s1 bp bl L o d k (fun x=>.agg ((fun x=>Tr.deA (0,x)) x)) (A06 L a)):=by
 refine acs Tryz.func168 ?_
 conv=>whnf
 intro b3 hb3
 obtain ⟨m1,m2⟩:=hP.nb hb3
 have c3:s1.bx b3=none:=hP.sub.none hb3
 have n13:b1≠b3:=A3 hb1 c3
 have hPb:=(hP.box hb3 54 [.str [],.int .i64 0,.int .i64 0,.slice 1 []]).keep (T:=54) (cs:=[.str [],.int .i64 0,.int .i64 0,.slice 1 []]) A1 m1 m2
 have g1:=hPb.sub.bx _ _ ((A2 n13).trans hb1)
 have hd:=D47 (Γ:=Γ) hPb hL (by omega)
 refine wp ?_
 refine A0.by hd ?_
 intro v s7 hv7
 unfold K1 at hv7
 rcases hwf:A06 L a with z|⟨x,a2⟩
 ·rw [hwf] at hv7
  obtain ⟨y,e,a',rfl,⟨kd,tx,rfl⟩,hP7⟩:=hv7
  obtain ⟨hP8,hq⟩:=hP7.drop c3
  refine wp ?_
  exact ⟨_,Sub.refl _,y,_,_,rfl,⟨kd,tx,rfl⟩,hP8.put c3 m1 m2 _ _⟩
 ·rw [hwf] at hv7
  obtain ⟨rfl,hP7⟩:=hv7
  obtain ⟨hP8,hq⟩:=hP7.drop c3
  refine wp ?_
  exact ⟨_,Sub.refl _,rfl,hP8.put c3 m1 m2 _ _⟩
theorem D3r (hE:Nu.Z8 Γ) (hT:∀ i,(B0 L i).2.1.length≤5000) {b1 b4:Nat} (c4:s1.bx b4=none) (hb1:s1.bx b1=some (96,[.ptr (some ⟨bp,0,none⟩)])) (n1:b4≠bp) (n2:b4≠bl) (hL:L.length≤66000) (hla:a≤L.length) {h:Head} {k0 k1 k2 k3 k4:Nat}
  (hP:Pst (s1.set b4 31 (hdA k0 k1 k2 k3 k4 h)) s bp bl L a o d k) :
  A0 Tryz.prog Γ 166 [.ptr (some ⟨b1,0,none⟩),.ptr (some ⟨b4,0,none⟩)] s (A60 s1 b4 bp bl L o d k (F0 L 2 h a)):=by
 have n14:b1≠b4:=fun h=>by subst h;rw [c4] at hb1;cases hb1
 have g1:=hP.sub.bx _ _ ((A2 n14).trans hb1)
 have hw:=C9l (Γ:=Γ) (one:=fun _=>A06 L) (n:=168) (cs:=[.ptr (some ⟨b1,0,none⟩)]) (by kernel_rfl) [A17] (by decide) 1 (fun _ _ _ _ h=>⟨Nat.le_of_lt (A8j h).1,(A8j h).2⟩) (fun i a t s _ ha hP=>D2q hE hT (B1b.trans ((A2 n14).trans hb1)) hL ha i hP) hP hL (by omega)
 refine acs Tryz.func166 ?_
 refine wp ?_
 refine A0.by hw ?_
 intro v s7 hv7
 unfold K1 at hv7
 rcases hwf:N0 L [A17] (fun _=>A06 L) a with z|⟨x,a2⟩
 ·rw [hwf] at hv7
  obtain ⟨y,e,a',rfl,⟨kd,tx,rfl⟩,hP7⟩:=hv7
  have hq4:=(Pst.drop hP7 c4).2
  have hP8:=hP7.swap c4 n1 n2 (hdA 0 k1 k2 k3 k4 { h with decls:=y })
  simp only [hdA] at hq4
  refine wp ?_
  refine ⟨_,Sub.refl _,?_⟩
  rw [show F0 L 2 h a=.error z by simp only [F0,hwf]]
  exact ⟨⟨kd,tx,rfl⟩,{ h with decls:=y },_,_,_,_,_,a',hP8⟩
 ·rw [hwf] at hv7
  obtain ⟨rfl,hP7⟩:=hv7
  have hq4:=(Pst.drop hP7 c4).2
  have hP8:=hP7.swap c4 n1 n2 (hdA 0 k1 k2 k3 k4 { h with decls:=x })
  simp only [hdA] at hq4
  refine wp ?_
  refine ⟨_,Sub.refl _,?_⟩
  rw [show F0 L 2 h a=.ok ({ h with decls:=x },a2) by simp only [F0,hwf]]
  exact ⟨rfl,(A29 (fun _ _ _ _ h=>⟨Nat.le_of_lt (A8j h).1,(A8j h).2⟩) hla hwf).2,_,_,_,_,_,hP8⟩
theorem D2s (hE:Nu.Z8 Γ) (hT:∀ i,(B0 L i).2.1.length≤5000) {b1:Nat} (hb1:s1.bx b1=some (96,[.ptr (some ⟨bp,0,none⟩)])) (hL:L.length≤66000) (ha:a≤66000) (i:Nat) (hP:Pst s1 s bp bl L a o d k) :
  A0 Tryz.prog Γ 172 [.int .i64 i,.ptr (some ⟨b1,0,none⟩)] s (K1 s1 bp bl L o d k (fun x=>.agg ((Tr.quA) x)) (W4 L (decide (i=1)) a)):=by
 have hdi:decide ((i:Int)=1)=decide (i=1):=by rw [decide_eq_decide];omega
 refine acs Tryz.func172 ?_
 conv=>whnf
 intro b3 hb3
 obtain ⟨m1,m2⟩:=hP.nb hb3
 have c3:s1.bx b3=none:=hP.sub.none hb3
 have n13:b1≠b3:=A3 hb1 c3
 have hPb:=(hP.box hb3 75 [.bool false,.str [],.int .i64 0,.int .i64 0,.int .i64 0]).keep (T:=75) (cs:=[.bool false,.str [],.int .i64 0,.int .i64 0,.int .i64 0]) A1 m1 m2
 have g1:=hPb.sub.bx _ _ ((A2 n13).trans hb1)
 have hd:=D25 (Γ:=Γ) hPb (by omega) (by omega) (decide (i=1))
 refine wp ?_;(rw [show decide ((i:Int)=1)=decide (i=1) from hdi]);refine wp ?_
 refine A0.by hd ?_
 intro v s7 hv7
 unfold K1 at hv7
 rcases hwf:W4 L (decide (i=1)) a with z|⟨x,a2⟩
 ·rw [hwf] at hv7
  obtain ⟨y,e,a',rfl,⟨kd,tx,rfl⟩,hP7⟩:=hv7
  obtain ⟨hP8,hq⟩:=hP7.drop c3
  refine wp ?_
  exact ⟨_,Sub.refl _,y,_,_,rfl,⟨kd,tx,rfl⟩,hP8.put c3 m1 m2 _ _⟩
 ·rw [hwf] at hv7
  obtain ⟨rfl,hP7⟩:=hv7
  obtain ⟨hP8,hq⟩:=hP7.drop c3
  refine wp ?_
  exact ⟨_,Sub.refl _,rfl,hP8.put c3 m1 m2 _ _⟩
theorem D3s (hE:Nu.Z8 Γ) (hT:∀ i,(B0 L i).2.1.length≤5000) {b1 b4:Nat} (c4:s1.bx b4=none) (hb1:s1.bx b1=some (96,[.ptr (some ⟨bp,0,none⟩)])) (n1:b4≠bp) (n2:b4≠bl) (hL:L.length≤66000) (hla:a≤L.length) {h:Head} {k0 k1 k2 k3 k4:Nat}
  (hP:Pst (s1.set b4 31 (hdA k0 k1 k2 k3 k4 h)) s bp bl L a o d k) :
  A0 Tryz.prog Γ 170 [.ptr (some ⟨b1,0,none⟩),.ptr (some ⟨b4,0,none⟩)] s (A60 s1 b4 bp bl L o d k (F0 L 3 h a)):=by
 have n14:b1≠b4:=fun h=>by subst h;rw [c4] at hb1;cases hb1
 have g1:=hP.sub.bx _ _ ((A2 n14).trans hb1)
 have hw:=C9n (Γ:=Γ) (one:=fun i=>W4 L (decide (i=1))) (n:=172) (cs:=[.ptr (some ⟨b1,0,none⟩)]) (by kernel_rfl) [R6,wForall] (by decide) 1 (fun _ _ _ _ h=>B07 h) (fun i a t s _ ha hP=>D2s hE hT (B1b.trans ((A2 n14).trans hb1)) hL ha i hP) hP hL (by omega)
 refine acs Tryz.func170 ?_
 refine wp ?_
 refine A0.by hw ?_
 intro v s7 hv7
 unfold K1 at hv7
 rcases hwf:N0 L [R6,wForall] (fun i=>W4 L (decide (i=1))) a with z|⟨x,a2⟩
 ·rw [hwf] at hv7
  obtain ⟨y,e,a',rfl,⟨kd,tx,rfl⟩,hP7⟩:=hv7
  have hq4:=(Pst.drop hP7 c4).2
  have hP8:=hP7.swap c4 n1 n2 (hdA k0 0 k2 k3 k4 { h with quants:=y })
  simp only [hdA] at hq4
  refine wp ?_
  refine ⟨_,Sub.refl _,?_⟩
  rw [show F0 L 3 h a=.error z by simp only [F0,hwf]]
  exact ⟨⟨kd,tx,rfl⟩,{ h with quants:=y },_,_,_,_,_,a',hP8⟩
 ·rw [hwf] at hv7
  obtain ⟨rfl,hP7⟩:=hv7
  have hq4:=(Pst.drop hP7 c4).2
  have hP8:=hP7.swap c4 n1 n2 (hdA k0 0 k2 k3 k4 { h with quants:=x })
  simp only [hdA] at hq4
  refine wp ?_
  refine ⟨_,Sub.refl _,?_⟩
  rw [show F0 L 3 h a=.ok ({ h with quants:=x },a2) by simp only [F0,hwf]]
  exact ⟨rfl,(A29 (fun _ _ _ _ h=>B07 h) hla hwf).2,_,_,_,_,_,hP8⟩
theorem D2r (hE:Nu.Z8 Γ) (hT:∀ i,(B0 L i).2.1.length≤5000) {b1:Nat} (hb1:s1.bx b1=some (96,[.ptr (some ⟨bp,0,none⟩)])) (hL:L.length≤66000) (ha:a≤66000) (i:Nat) (hP:Pst s1 s bp bl L a o d k) :
  A0 Tryz.prog Γ 176 [.int .i64 i,.ptr (some ⟨b1,0,none⟩)] s (K1 s1 bp bl L o d k (fun x=>.agg ((Tr.frA) x)) (A1v L a)):=by
 refine acs Tryz.func176 ?_
 conv=>whnf
 intro b3 hb3
 obtain ⟨m1,m2⟩:=hP.nb hb3
 have c3:s1.bx b3=none:=hP.sub.none hb3
 have n13:b1≠b3:=A3 hb1 c3
 have hPb:=(hP.box hb3 58 [.str [],.int .i64 0,.int .i64 0,.int .i64 0,.int .i64 0,.str [],.bool false]).keep (T:=58) (cs:=[.str [],.int .i64 0,.int .i64 0,.int .i64 0,.int .i64 0,.str [],.bool false]) A1 m1 m2
 have g1:=hPb.sub.bx _ _ ((A2 n13).trans hb1)
 have hd:=D5p (Γ:=Γ) hE hT hPb (by omega) (by omega)
 refine wp ?_
 refine A0.by hd ?_
 intro v s7 hv7
 unfold K1 at hv7
 rcases hwf:A1v L a with z|⟨x,a2⟩
 ·rw [hwf] at hv7
  obtain ⟨y,e,a',rfl,⟨kd,tx,rfl⟩,hP7⟩:=hv7
  obtain ⟨hP8,hq⟩:=hP7.drop c3
  refine wp ?_
  exact ⟨_,Sub.refl _,y,_,_,rfl,⟨kd,tx,rfl⟩,hP8.put c3 m1 m2 _ _⟩
 ·rw [hwf] at hv7
  obtain ⟨rfl,hP7⟩:=hv7
  obtain ⟨hP8,hq⟩:=hP7.drop c3
  refine wp ?_
  exact ⟨_,Sub.refl _,rfl,hP8.put c3 m1 m2 _ _⟩
theorem D3t (hE:Nu.Z8 Γ) (hT:∀ i,(B0 L i).2.1.length≤5000) {b1 b4:Nat} (c4:s1.bx b4=none) (hb1:s1.bx b1=some (96,[.ptr (some ⟨bp,0,none⟩)])) (n1:b4≠bp) (n2:b4≠bl) (hL:L.length≤66000) (hla:a≤L.length) {h:Head} {k0 k1 k2 k3 k4:Nat}
  (hP:Pst (s1.set b4 31 (hdA k0 k1 k2 k3 k4 h)) s bp bl L a o d k) :
  A0 Tryz.prog Γ 174 [.ptr (some ⟨b1,0,none⟩),.ptr (some ⟨b4,0,none⟩)] s (A60 s1 b4 bp bl L o d k (F0 L 4 h a)):=by
 have n14:b1≠b4:=fun h=>by subst h;rw [c4] at hb1;cases hb1
 have g1:=hP.sub.bx _ _ ((A2 n14).trans hb1)
 have hw:=C9m (Γ:=Γ) (one:=fun _=>A1v L) (n:=176) (cs:=[.ptr (some ⟨b1,0,none⟩)]) (by kernel_rfl) [A21] (by decide) 1 (fun _ _ _ _ h=>B3r h) (fun i a t s _ ha hP=>D2r hE hT (B1b.trans ((A2 n14).trans hb1)) hL ha i hP) hP hL (by omega)
 refine acs Tryz.func174 ?_
 refine wp ?_
 refine A0.by hw ?_
 intro v s7 hv7
 unfold K1 at hv7
 rcases hwf:N0 L [A21] (fun _=>A1v L) a with z|⟨x,a2⟩
 ·rw [hwf] at hv7
  obtain ⟨y,e,a',rfl,⟨kd,tx,rfl⟩,hP7⟩:=hv7
  have hq4:=(Pst.drop hP7 c4).2
  have hP8:=hP7.swap c4 n1 n2 (hdA k0 k1 0 k3 k4 { h with frees:=y })
  simp only [hdA] at hq4
  refine wp ?_
  refine ⟨_,Sub.refl _,?_⟩
  rw [show F0 L 4 h a=.error z by simp only [F0,hwf]]
  exact ⟨⟨kd,tx,rfl⟩,{ h with frees:=y },_,_,_,_,_,a',hP8⟩
 ·rw [hwf] at hv7
  obtain ⟨rfl,hP7⟩:=hv7
  have hq4:=(Pst.drop hP7 c4).2
  have hP8:=hP7.swap c4 n1 n2 (hdA k0 k1 0 k3 k4 { h with frees:=x })
  simp only [hdA] at hq4
  refine wp ?_
  refine ⟨_,Sub.refl _,?_⟩
  rw [show F0 L 4 h a=.ok ({ h with frees:=x },a2) by simp only [F0,hwf]]
  exact ⟨rfl,(A29 (fun _ _ _ _ h=>B3r h) hla hwf).2,_,_,_,_,_,hP8⟩
theorem D2t (hE:Nu.Z8 Γ) (hT:∀ i,(B0 L i).2.1.length≤5000) {b1:Nat} (hb1:s1.bx b1=some (96,[.ptr (some ⟨bp,0,none⟩)])) (hL:L.length≤66000) (ha:a≤66000) (i:Nat) (hP:Pst s1 s bp bl L a o d k) :
  A0 Tryz.prog Γ 180 [.int .i64 i,.ptr (some ⟨b1,0,none⟩)] s (K1 s1 bp bl L o d k (fun x=>.agg ((Tr.stA) x)) (Y1 L (decide (i=1)) a)):=by
 have hdi:decide ((i:Int)=1)=decide (i=1):=by rw [decide_eq_decide];omega
 refine acs Tryz.func180 ?_
 conv=>whnf
 intro b3 hb3
 obtain ⟨m1,m2⟩:=hP.nb hb3
 have c3:s1.bx b3=none:=hP.sub.none hb3
 have n13:b1≠b3:=A3 hb1 c3
 have hPb:=(hP.box hb3 84 [.str [],.int .i64 0,.int .i64 0,.bool false,.bool false]).keep (T:=84) (cs:=[.str [],.int .i64 0,.int .i64 0,.bool false,.bool false]) A1 m1 m2
 have g1:=hPb.sub.bx _ _ ((A2 n13).trans hb1)
 have hd:=D3n (Γ:=Γ) hPb (by omega) (by omega) (decide (i=1))
 refine wp ?_;(rw [show decide ((i:Int)=1)=decide (i=1) from hdi]);refine wp ?_
 refine A0.by hd ?_
 intro v s7 hv7
 unfold K1 at hv7
 rcases hwf:Y1 L (decide (i=1)) a with z|⟨x,a2⟩
 ·rw [hwf] at hv7
  obtain ⟨y,e,a',rfl,⟨kd,tx,rfl⟩,hP7⟩:=hv7
  obtain ⟨hP8,hq⟩:=hP7.drop c3
  refine wp ?_
  exact ⟨_,Sub.refl _,y,_,_,rfl,⟨kd,tx,rfl⟩,hP8.put c3 m1 m2 _ _⟩
 ·rw [hwf] at hv7
  obtain ⟨rfl,hP7⟩:=hv7
  obtain ⟨hP8,hq⟩:=hP7.drop c3
  refine wp ?_
  exact ⟨_,Sub.refl _,rfl,hP8.put c3 m1 m2 _ _⟩
theorem D3u (hE:Nu.Z8 Γ) (hT:∀ i,(B0 L i).2.1.length≤5000) {b1 b4:Nat} (c4:s1.bx b4=none) (hb1:s1.bx b1=some (96,[.ptr (some ⟨bp,0,none⟩)])) (n1:b4≠bp) (n2:b4≠bl) (hL:L.length≤66000) (hla:a≤L.length) {h:Head} {k0 k1 k2 k3 k4:Nat}
  (hP:Pst (s1.set b4 31 (hdA k0 k1 k2 k3 k4 h)) s bp bl L a o d k) :
  A0 Tryz.prog Γ 178 [.ptr (some ⟨b1,0,none⟩),.ptr (some ⟨b4,0,none⟩)] s (A60 s1 b4 bp bl L o d k (F0 L 5 h a)):=by
 have n14:b1≠b4:=fun h=>by subst h;rw [c4] at hb1;cases hb1
 have g1:=hP.sub.bx _ _ ((A2 n14).trans hb1)
 have hw:=C9o (Γ:=Γ) (one:=fun i=>Y1 L (decide (i=1))) (n:=180) (cs:=[.ptr (some ⟨b1,0,none⟩)]) (by kernel_rfl) [A1x,wNext] (by decide) 1 (fun _ _ _ _ h=>B6y h) (fun i a t s _ ha hP=>D2t hE hT (B1b.trans ((A2 n14).trans hb1)) hL ha i hP) hP hL (by omega)
 refine acs Tryz.func178 ?_
 refine wp ?_
 refine A0.by hw ?_
 intro v s7 hv7
 unfold K1 at hv7
 rcases hwf:N0 L [A1x,wNext] (fun i=>Y1 L (decide (i=1))) a with z|⟨x,a2⟩
 ·rw [hwf] at hv7
  obtain ⟨y,e,a',rfl,⟨kd,tx,rfl⟩,hP7⟩:=hv7
  have hq4:=(Pst.drop hP7 c4).2
  have hP8:=hP7.swap c4 n1 n2 (hdA k0 k1 k2 0 k4 { h with states:=y })
  simp only [hdA] at hq4
  refine wp ?_
  refine ⟨_,Sub.refl _,?_⟩
  rw [show F0 L 5 h a=.error z by simp only [F0,hwf]]
  exact ⟨⟨kd,tx,rfl⟩,{ h with states:=y },_,_,_,_,_,a',hP8⟩
 ·rw [hwf] at hv7
  obtain ⟨rfl,hP7⟩:=hv7
  have hq4:=(Pst.drop hP7 c4).2
  have hP8:=hP7.swap c4 n1 n2 (hdA k0 k1 k2 0 k4 { h with states:=x })
  simp only [hdA] at hq4
  refine wp ?_
  refine ⟨_,Sub.refl _,?_⟩
  rw [show F0 L 5 h a=.ok ({ h with states:=x },a2) by simp only [F0,hwf]]
  exact ⟨rfl,(A29 (fun _ _ _ _ h=>B6y h) hla hwf).2,_,_,_,_,_,hP8⟩
theorem D2u (hE:Nu.Z8 Γ) (hT:∀ i,(B0 L i).2.1.length≤5000) {b1:Nat} (hb1:s1.bx b1=some (96,[.ptr (some ⟨bp,0,none⟩)])) (hL:L.length≤66000) (ha:a≤66000) (i:Nat) (hP:Pst s1 s bp bl L a o d k) :
  A0 Tryz.prog Γ 186 [.int .i64 i,.ptr (some ⟨b1,0,none⟩)] s (K1 s1 bp bl L o d k (fun x=>.agg ((fun x=>Tr.syA (0,x)) x)) (K6 L a)):=by
 refine acs Tryz.func186 ?_
 conv=>whnf
 intro b3 hb3
 obtain ⟨m1,m2⟩:=hP.nb hb3
 have c3:s1.bx b3=none:=hP.sub.none hb3
 have n13:b1≠b3:=A3 hb1 c3
 have hPb:=(hP.box hb3 39 [.str [],.slice 1 [],.int .i64 0,.int .i64 0]).keep (T:=39) (cs:=[.str [],.slice 1 [],.int .i64 0,.int .i64 0]) A1 m1 m2
 have g1:=hPb.sub.bx _ _ ((A2 n13).trans hb1)
 have hd:=B9r (Γ:=Γ) hE hT hPb hL (by omega)
 refine wp ?_
 refine A0.by hd ?_
 intro v s7 hv7
 unfold K1 at hv7
 rcases hwf:K6 L a with z|⟨x,a2⟩
 ·rw [hwf] at hv7
  obtain ⟨y,e,a',rfl,⟨kd,tx,rfl⟩,hP7⟩:=hv7
  obtain ⟨hP8,hq⟩:=hP7.drop c3
  refine wp ?_
  exact ⟨_,Sub.refl _,y,_,_,rfl,⟨kd,tx,rfl⟩,hP8.put c3 m1 m2 _ _⟩
 ·rw [hwf] at hv7
  obtain ⟨rfl,hP7⟩:=hv7
  obtain ⟨hP8,hq⟩:=hP7.drop c3
  refine wp ?_
  exact ⟨_,Sub.refl _,rfl,hP8.put c3 m1 m2 _ _⟩
theorem D3x (hE:Nu.Z8 Γ) (hT:∀ i,(B0 L i).2.1.length≤5000) {b1 b4:Nat} (c4:s1.bx b4=none) (hb1:s1.bx b1=some (96,[.ptr (some ⟨bp,0,none⟩)])) (n1:b4≠bp) (n2:b4≠bl) (hL:L.length≤66000) (hla:a≤L.length) {h:Head} {k0 k1 k2 k3 k4:Nat}
  (hP:Pst (s1.set b4 31 (hdA k0 k1 k2 k3 k4 h)) s bp bl L a o d k) :
  A0 Tryz.prog Γ 184 [.ptr (some ⟨b1,0,none⟩),.ptr (some ⟨b4,0,none⟩)] s (A60 s1 b4 bp bl L o d k (F0 L 8 h a)):=by
 have n14:b1≠b4:=fun h=>by subst h;rw [c4] at hb1;cases hb1
 have g1:=hP.sub.bx _ _ ((A2 n14).trans hb1)
 have hw:=C9p (Γ:=Γ) (one:=fun _=>K6 L) (n:=186) (cs:=[.ptr (some ⟨b1,0,none⟩)]) (by kernel_rfl) [P0] (by decide) 1 (fun _ _ _ _ h=>⟨Nat.le_of_lt (A02 h).1,(A02 h).2⟩) (fun i a t s _ ha hP=>D2u hE hT (B1b.trans ((A2 n14).trans hb1)) hL ha i hP) hP hL (by omega)
 refine acs Tryz.func184 ?_
 refine wp ?_
 refine A0.by hw ?_
 intro v s7 hv7
 unfold K1 at hv7
 rcases hwf:N0 L [P0] (fun _=>K6 L) a with z|⟨x,a2⟩
 ·rw [hwf] at hv7
  obtain ⟨y,e,a',rfl,⟨kd,tx,rfl⟩,hP7⟩:=hv7
  have hq4:=(Pst.drop hP7 c4).2
  have hP8:=hP7.swap c4 n1 n2 (hdA k0 k1 k2 k3 0 { h with also:=y })
  simp only [hdA] at hq4
  refine wp ?_
  refine ⟨_,Sub.refl _,?_⟩
  rw [show F0 L 8 h a=.error z by simp only [F0,hwf]]
  exact ⟨⟨kd,tx,rfl⟩,{ h with also:=y },_,_,_,_,_,a',hP8⟩
 ·rw [hwf] at hv7
  obtain ⟨rfl,hP7⟩:=hv7
  have hq4:=(Pst.drop hP7 c4).2
  have hP8:=hP7.swap c4 n1 n2 (hdA k0 k1 k2 k3 0 { h with also:=x })
  simp only [hdA] at hq4
  refine wp ?_
  refine ⟨_,Sub.refl _,?_⟩
  rw [show F0 L 8 h a=.ok ({ h with also:=x },a2) by simp only [F0,hwf]]
  exact ⟨rfl,(A29 (fun _ _ _ _ h=>⟨Nat.le_of_lt (A02 h).1,(A02 h).2⟩) hla hwf).2,_,_,_,_,_,hP8⟩
end
end Go.Proofs.YticnkpgmmpenlaaGreatDoor.Pa
namespace Go.Proofs.YticnkpgmmpenlaaGreatDoor.Pa
open Go Go.Ab Go.RowKit Go.Proofs.YticnkpgmmpenlaaGreatDoor.Lx Go.Proofs.YticnkpgmmpenlaaGreatDoor.Pr
variable {Γ:Nat→AV}
attribute [local irreducible] A5 Sto.set Sto.grow
section
variable {s0 s1 s:Sto} {bp bl:Nat} {L:List Tok} {a:Nat} {o:List Ex} {d:List Int} {k:Int}
def D63 (s0:Sto) (bp bl:Nat) (L:List Tok) (o:List Ex) (d:List Int) (k:Int) (r:Res (Head × Nat)) (v:AV) (s':Sto):Prop :=
 match r with
 | .ok (h,a')=>(∃ k0 k1 k2 k3 k4,v=.tuple [.agg (hdA k0 k1 k2 k3 k4 h),.nilIface])∧a'≤L.length∧Pst s0 s' bp bl L a' o d k
 | .error x=>∃ e a',v=.tuple [.agg (hdA 1 1 1 1 1 hd0),e]∧A8x x e∧Pst s0 s' bp bl L a' o d k
theorem V6 {n i b b':Nat} {h h':Head} (hsf:F0 L i h b=.ok (h',b')):W5 L (n+1) i h b=W5 L n (i+1) h' b':=by
 rw [W5,hsf]
theorem Z1 {n i b:Nat} {h:Head} {x:Int × Int × Int} (hsf:F0 L i h b=.error x):W5 L (n+1) i h b=.error x:=by
 rw [W5,hsf]
theorem D5x (hE:Nu.Z8 Γ) (hT:∀ i,(B0 L i).2.1.length≤5000) (hL:L.length≤66000) (hla:a≤L.length) (hP:Pst s0 s bp bl L a o d k) :
  A0 Tryz.prog Γ 105 [.ptr (some ⟨bp,0,none⟩)] s (D63 s0 bp bl L o d k (T7 L a)):=by
 have hhs:=C5k L a
 refine acs Tryz.func105 ?_
 conv=>whnf
 intro b1 hb1
 obtain ⟨p1,p2⟩:=hP.nb hb1
 have c1:s0.bx b1=none:=hP.sub.none hb1
 have hP1:=(hP.box hb1 96 [.ptr (some ⟨bp,0,none⟩)]).keep (T:=96) (cs:=[.ptr (some ⟨bp,0,none⟩)]) A1 p1 p2
 generalize s.set b1 96 [.ptr (some ⟨bp,0,none⟩)]=sx at *
 conv=>whnf
 intro b2 hb2
 obtain ⟨m1,m2⟩:=hP1.nb hb2
 have c2:(s0.set b1 96 [.ptr (some ⟨bp,0,none⟩)]).bx b2=none:=hP1.sub.none hb2
 have n12:b1≠b2:=A3 (hP1.sub.bx _ _ A1) hb2
 have hP2:=(hP1.box hb2 31 (hdA 1 1 1 1 1 hd0)).keep (T:=31) (cs:=hdA 1 1 1 1 1 hd0) A1 m1 m2
 have h1in:((s0.set b1 96 [.ptr (some ⟨bp,0,none⟩)]).set b2 31 (hdA 1 1 1 1 1 hd0)).bx b1=some (96,[.ptr (some ⟨bp,0,none⟩)]):=(A2 n12).trans A1
 generalize hs1:(s0.set b1 96 [.ptr (some ⟨bp,0,none⟩)]).set b2 31 (hdA 1 1 1 1 1 hd0)=s1 at *
 have hback:∀ {s:Sto} {a:Nat},Pst s1 s bp bl L a o d k→Pst s0 s bp bl L a o d k∧s.bx b2=some (31,hdA 1 1 1 1 1 hd0):=fun h=>by
  rw [← hs1] at h
  obtain ⟨g1,g2⟩:=h.drop c2
  exact ⟨(g1.drop c1).1,g2⟩
 have d2:s0.bx b2=none:=by rw [A2 n12.symm] at c2;exact c2
 refine wp ?_
 intro b4 hb4
 obtain ⟨m3,m4⟩:=hP2.nb hb4
 have c4:s1.bx b4=none:=hP2.sub.none hb4
 have hP4:=(hP2.box hb4 31 (hdA 1 1 1 1 1 hd0)).keep (b:=b4) (T:=31) (cs:=hdA 1 1 1 1 1 hd0) A1 m3 m4
 refine wp ?_
 refine AWp.loopA [21] [22,23,24,7,25,26,8,27,28,29,30,3,31] (fun q:Nat × Head × Nat=>[.int .i64 (q.1:Int)]) (fun q s'=>q.1≤9∧q.2.2≤L.length∧(∃ k0 k1 k2 k3 k4,Pst (s1.set b4 31 (hdA k0 k1 k2 k3 k4 q.2.1)) s' bp bl L q.2.2 o d k)∧T7 L a=W5 L (9 - q.1) q.1 q.2.1 q.2.2) (fun q=>9 - q.1) ((0,hd0,a)) (by kernel_rfl) (eqa) ?_ ?_
 ·exact ⟨Nat.zero_le _,hla,⟨_,_,_,_,_,hP4⟩,hhs⟩
 ·rintro y ⟨i,h,b⟩ s7 ⟨hi,hb,⟨k0,k1,k2,k3,k4,hP7⟩,hq⟩
  simp only at hi hb hP7 hq
  rcases (show i=0∨i=1∨i=2∨i=3∨i=4∨i=5∨i=6∨i=7∨i=8∨i=9 by omega) with rfl|rfl|rfl|rfl|rfl|rfl|rfl|rfl|rfl|rfl
  ·show awp _ _ _ _ _ (updL _ _ [.int .i64 ((0:Nat):Int)]) _
   have hst:=D3p (Γ:=Γ) c4 h1in m3 m4 hL hb hP7
   refine wp ?_
   refine A0.by hst ?_
   intro v s8 hv8
   unfold A60 at hv8
   rcases hsf:F0 L 0 h b with x|⟨h',b'⟩
   ·rw [hsf] at hv8
    obtain ⟨⟨kd,tx,rfl⟩,h',k0',k1',k2',k3',k4',a',hP8⟩:=hv8
    have eE:T7 L a=.error x:=hq.trans (Z1 (n:=8 - 0) hsf)
    obtain ⟨hPx,hbx4⟩:=Pst.drop hP8 c4
    obtain ⟨hPy,hbx2⟩:=hback hPx
    refine wp ?_
    refine ⟨_,Sub.refl _,?_⟩
    rw [eE]
    exact ⟨_,a',rfl,⟨kd,tx,rfl⟩,hPy.put d2 m1 m2 _ _⟩
   ·have eK:T7 L a=W5 L (9 - (0+1)) (0+1) h' b':=hq.trans (V6 (n:=9 - (0+1)) hsf)
    rw [hsf] at hv8
    obtain ⟨rfl,hb',k0',k1',k2',k3',k4',hP8⟩:=hv8
    refine wp ?_
    exact ⟨(0+1,h',b'),eqa,B9,⟨by simp only;omega,hb',⟨_,_,_,_,_,hP8⟩,eK⟩,by simp only;omega⟩
  ·show awp _ _ _ _ _ (updL _ _ [.int .i64 ((1:Nat):Int)]) _
   have hst:=D3q (Γ:=Γ) c4 h1in m3 m4 hL hb hP7
   refine wp ?_
   refine A0.by hst ?_
   intro v s8 hv8
   unfold A60 at hv8
   rcases hsf:F0 L 1 h b with x|⟨h',b'⟩
   ·rw [hsf] at hv8
    obtain ⟨⟨kd,tx,rfl⟩,h',k0',k1',k2',k3',k4',a',hP8⟩:=hv8
    have eE:T7 L a=.error x:=hq.trans (Z1 (n:=8 - 1) hsf)
    obtain ⟨hPx,hbx4⟩:=Pst.drop hP8 c4
    obtain ⟨hPy,hbx2⟩:=hback hPx
    refine wp ?_
    refine ⟨_,Sub.refl _,?_⟩
    rw [eE]
    exact ⟨_,a',rfl,⟨kd,tx,rfl⟩,hPy.put d2 m1 m2 _ _⟩
   ·have eK:T7 L a=W5 L (9 - (1+1)) (1+1) h' b':=hq.trans (V6 (n:=9 - (1+1)) hsf)
    rw [hsf] at hv8
    obtain ⟨rfl,hb',k0',k1',k2',k3',k4',hP8⟩:=hv8
    refine wp ?_
    exact ⟨(1+1,h',b'),eqa,B9,⟨by simp only;omega,hb',⟨_,_,_,_,_,hP8⟩,eK⟩,by simp only;omega⟩
  ·show awp _ _ _ _ _ (updL _ _ [.int .i64 ((2:Nat):Int)]) _
   have hst:=D3r (Γ:=Γ) hE hT c4 h1in m3 m4 hL hb hP7
   refine wp ?_
   refine A0.by hst ?_
   intro v s8 hv8
   unfold A60 at hv8
   rcases hsf:F0 L 2 h b with x|⟨h',b'⟩
   ·rw [hsf] at hv8
    obtain ⟨⟨kd,tx,rfl⟩,h',k0',k1',k2',k3',k4',a',hP8⟩:=hv8
    have eE:T7 L a=.error x:=hq.trans (Z1 (n:=8 - 2) hsf)
    obtain ⟨hPx,hbx4⟩:=Pst.drop hP8 c4
    obtain ⟨hPy,hbx2⟩:=hback hPx
    refine wp ?_
    refine ⟨_,Sub.refl _,?_⟩
    rw [eE]
    exact ⟨_,a',rfl,⟨kd,tx,rfl⟩,hPy.put d2 m1 m2 _ _⟩
   ·have eK:T7 L a=W5 L (9 - (2+1)) (2+1) h' b':=hq.trans (V6 (n:=9 - (2+1)) hsf)
    rw [hsf] at hv8
    obtain ⟨rfl,hb',k0',k1',k2',k3',k4',hP8⟩:=hv8
    refine wp ?_
    exact ⟨(2+1,h',b'),eqa,B9,⟨by simp only;omega,hb',⟨_,_,_,_,_,hP8⟩,eK⟩,by simp only;omega⟩
  ·show awp _ _ _ _ _ (updL _ _ [.int .i64 ((3:Nat):Int)]) _
   have hst:=D3s (Γ:=Γ) hE hT c4 h1in m3 m4 hL hb hP7
   refine wp ?_
   refine A0.by hst ?_
   intro v s8 hv8
   unfold A60 at hv8
   rcases hsf:F0 L 3 h b with x|⟨h',b'⟩
   ·rw [hsf] at hv8
    obtain ⟨⟨kd,tx,rfl⟩,h',k0',k1',k2',k3',k4',a',hP8⟩:=hv8
    have eE:T7 L a=.error x:=hq.trans (Z1 (n:=8 - 3) hsf)
    obtain ⟨hPx,hbx4⟩:=Pst.drop hP8 c4
    obtain ⟨hPy,hbx2⟩:=hback hPx
    refine wp ?_
    refine ⟨_,Sub.refl _,?_⟩
    rw [eE]
    exact ⟨_,a',rfl,⟨kd,tx,rfl⟩,hPy.put d2 m1 m2 _ _⟩
   ·have eK:T7 L a=W5 L (9 - (3+1)) (3+1) h' b':=hq.trans (V6 (n:=9 - (3+1)) hsf)
    rw [hsf] at hv8
    obtain ⟨rfl,hb',k0',k1',k2',k3',k4',hP8⟩:=hv8
    refine wp ?_
    exact ⟨(3+1,h',b'),eqa,B9,⟨by simp only;omega,hb',⟨_,_,_,_,_,hP8⟩,eK⟩,by simp only;omega⟩
  ·show awp _ _ _ _ _ (updL _ _ [.int .i64 ((4:Nat):Int)]) _
   have hst:=D3t (Γ:=Γ) hE hT c4 h1in m3 m4 hL hb hP7
   refine wp ?_
   refine A0.by hst ?_
   intro v s8 hv8
   unfold A60 at hv8
   rcases hsf:F0 L 4 h b with x|⟨h',b'⟩
   ·rw [hsf] at hv8
    obtain ⟨⟨kd,tx,rfl⟩,h',k0',k1',k2',k3',k4',a',hP8⟩:=hv8
    have eE:T7 L a=.error x:=hq.trans (Z1 (n:=8 - 4) hsf)
    obtain ⟨hPx,hbx4⟩:=Pst.drop hP8 c4
    obtain ⟨hPy,hbx2⟩:=hback hPx
    refine wp ?_
    refine ⟨_,Sub.refl _,?_⟩
    rw [eE]
    exact ⟨_,a',rfl,⟨kd,tx,rfl⟩,hPy.put d2 m1 m2 _ _⟩
   ·have eK:T7 L a=W5 L (9 - (4+1)) (4+1) h' b':=hq.trans (V6 (n:=9 - (4+1)) hsf)
    rw [hsf] at hv8
    obtain ⟨rfl,hb',k0',k1',k2',k3',k4',hP8⟩:=hv8
    refine wp ?_
    exact ⟨(4+1,h',b'),eqa,B9,⟨by simp only;omega,hb',⟨_,_,_,_,_,hP8⟩,eK⟩,by simp only;omega⟩
  ·show awp _ _ _ _ _ (updL _ _ [.int .i64 ((5:Nat):Int)]) _
   have hst:=D3u (Γ:=Γ) hE hT c4 h1in m3 m4 hL hb hP7
   refine wp ?_
   refine A0.by hst ?_
   intro v s8 hv8
   unfold A60 at hv8
   rcases hsf:F0 L 5 h b with x|⟨h',b'⟩
   ·rw [hsf] at hv8
    obtain ⟨⟨kd,tx,rfl⟩,h',k0',k1',k2',k3',k4',a',hP8⟩:=hv8
    have eE:T7 L a=.error x:=hq.trans (Z1 (n:=8 - 5) hsf)
    obtain ⟨hPx,hbx4⟩:=Pst.drop hP8 c4
    obtain ⟨hPy,hbx2⟩:=hback hPx
    refine wp ?_
    refine ⟨_,Sub.refl _,?_⟩
    rw [eE]
    exact ⟨_,a',rfl,⟨kd,tx,rfl⟩,hPy.put d2 m1 m2 _ _⟩
   ·have eK:T7 L a=W5 L (9 - (5+1)) (5+1) h' b':=hq.trans (V6 (n:=9 - (5+1)) hsf)
    rw [hsf] at hv8
    obtain ⟨rfl,hb',k0',k1',k2',k3',k4',hP8⟩:=hv8
    refine wp ?_
    exact ⟨(5+1,h',b'),eqa,B9,⟨by simp only;omega,hb',⟨_,_,_,_,_,hP8⟩,eK⟩,by simp only;omega⟩
  ·show awp _ _ _ _ _ (updL _ _ [.int .i64 ((6:Nat):Int)]) _
   have hst:=D3v (Γ:=Γ) c4 h1in m3 m4 hL hb hP7
   refine wp ?_
   refine A0.by hst ?_
   intro v s8 hv8
   unfold A60 at hv8
   rcases hsf:F0 L 6 h b with x|⟨h',b'⟩
   ·rw [hsf] at hv8
    obtain ⟨⟨kd,tx,rfl⟩,h',k0',k1',k2',k3',k4',a',hP8⟩:=hv8
    have eE:T7 L a=.error x:=hq.trans (Z1 (n:=8 - 6) hsf)
    obtain ⟨hPx,hbx4⟩:=Pst.drop hP8 c4
    obtain ⟨hPy,hbx2⟩:=hback hPx
    refine wp ?_
    refine ⟨_,Sub.refl _,?_⟩
    rw [eE]
    exact ⟨_,a',rfl,⟨kd,tx,rfl⟩,hPy.put d2 m1 m2 _ _⟩
   ·have eK:T7 L a=W5 L (9 - (6+1)) (6+1) h' b':=hq.trans (V6 (n:=9 - (6+1)) hsf)
    rw [hsf] at hv8
    obtain ⟨rfl,hb',k0',k1',k2',k3',k4',hP8⟩:=hv8
    refine wp ?_
    exact ⟨(6+1,h',b'),eqa,B9,⟨by simp only;omega,hb',⟨_,_,_,_,_,hP8⟩,eK⟩,by simp only;omega⟩
  ·show awp _ _ _ _ _ (updL _ _ [.int .i64 ((7:Nat):Int)]) _
   have hst:=D3w (Γ:=Γ) c4 h1in m3 m4 hL hb hP7
   refine wp ?_
   refine A0.by hst ?_
   intro v s8 hv8
   unfold A60 at hv8
   rcases hsf:F0 L 7 h b with x|⟨h',b'⟩
   ·rw [hsf] at hv8
    obtain ⟨⟨kd,tx,rfl⟩,h',k0',k1',k2',k3',k4',a',hP8⟩:=hv8
    have eE:T7 L a=.error x:=hq.trans (Z1 (n:=8 - 7) hsf)
    obtain ⟨hPx,hbx4⟩:=Pst.drop hP8 c4
    obtain ⟨hPy,hbx2⟩:=hback hPx
    refine wp ?_
    refine ⟨_,Sub.refl _,?_⟩
    rw [eE]
    exact ⟨_,a',rfl,⟨kd,tx,rfl⟩,hPy.put d2 m1 m2 _ _⟩
   ·have eK:T7 L a=W5 L (9 - (7+1)) (7+1) h' b':=hq.trans (V6 (n:=9 - (7+1)) hsf)
    rw [hsf] at hv8
    obtain ⟨rfl,hb',k0',k1',k2',k3',k4',hP8⟩:=hv8
    refine wp ?_
    exact ⟨(7+1,h',b'),eqa,B9,⟨by simp only;omega,hb',⟨_,_,_,_,_,hP8⟩,eK⟩,by simp only;omega⟩
  ·show awp _ _ _ _ _ (updL _ _ [.int .i64 ((8:Nat):Int)]) _
   have hst:=D3x (Γ:=Γ) hE hT c4 h1in m3 m4 hL hb hP7
   refine wp ?_
   refine A0.by hst ?_
   intro v s8 hv8
   unfold A60 at hv8
   rcases hsf:F0 L 8 h b with x|⟨h',b'⟩
   ·rw [hsf] at hv8
    obtain ⟨⟨kd,tx,rfl⟩,h',k0',k1',k2',k3',k4',a',hP8⟩:=hv8
    have eE:T7 L a=.error x:=hq.trans (Z1 (n:=8 - 8) hsf)
    obtain ⟨hPx,hbx4⟩:=Pst.drop hP8 c4
    obtain ⟨hPy,hbx2⟩:=hback hPx
    refine wp ?_
    refine ⟨_,Sub.refl _,?_⟩
    rw [eE]
    exact ⟨_,a',rfl,⟨kd,tx,rfl⟩,hPy.put d2 m1 m2 _ _⟩
   ·have eK:T7 L a=W5 L (9 - (8+1)) (8+1) h' b':=hq.trans (V6 (n:=9 - (8+1)) hsf)
    rw [hsf] at hv8
    obtain ⟨rfl,hb',k0',k1',k2',k3',k4',hP8⟩:=hv8
    refine wp ?_
    exact ⟨(8+1,h',b'),eqa,B9,⟨by simp only;omega,hb',⟨_,_,_,_,_,hP8⟩,eK⟩,by simp only;omega⟩
  ·show awp _ _ _ _ _ (updL _ _ [.int .i64 ((9:Nat):Int)]) _
   have eK:T7 L a=.ok (h,b):=by rw [hq];rfl
   obtain ⟨hPx,hbx4⟩:=Pst.drop hP7 c4
   obtain ⟨hPy,hbx2⟩:=hback hPx
   simp only [hdA] at hbx4
   refine wp ?_
   refine ⟨_,Sub.refl _,?_⟩
   rw [eK]
   exact ⟨⟨k0,k1,k2,k3,k4,rfl⟩,hb,hPy.put d2 m1 m2 _ _⟩
end
def hdT (k0 k1 k2 k3 k4 t:Nat) (h:Head) (l:List Tr.Tn):List AV:=[.str h.name.1,.int .i64 h.name.2.1,.int .i64 h.name.2.2,.slice k0 (h.decls.map (fun x=>Tr.deA (0,x))),.slice k1 (h.quants.map Tr.quA),.slice k2 (h.frees.map Tr.frA),.slice k3 (h.states.map Tr.stA),
 .str h.start.1,.int .i64 h.start.2.1,.int .i64 h.start.2.2,.slice k4 (h.also.map (fun x=>Tr.syA (0,x))),.slice t (l.map (fun x=>Tr.tnA ((0,0,0),x)))]
theorem D5w (k0 k1 k2 k3 k4:Nat) (h:Head):hdA k0 k1 k2 k3 k4 h=hdT k0 k1 k2 k3 k4 1 h []:=rfl
def SpA (r:Res (Head × List A05)) (v:AV):Prop :=
 match r with
 | .ok (h,ts)=>∃ k0 k1 k2 k3 k4 t,v=.tuple [.agg (hdT k0 k1 k2 k3 k4 t h (ts.map A04)),.nilIface]
 | .error x=>∃ k0 k1 k2 k3 k4 t h l e,v=.tuple [.agg (hdT k0 k1 k2 k3 k4 t h l),e]∧A8x x e
def eV:Option (Int × List UInt8 × Int × Int × Int)→AV
 | none=>.nilIface
 | some (kd,tx,x)=>B7t (kd,tx,x.2.1,x.2.2) x.1
theorem B9t {L:List Tok} {k:Int} {a:Nat} {y:A05} {a':Nat} (hk:0≤k∧k≤128) (h:H5 L k a=.ok (y,a')):a < a'∧a'≤L.length:=by
 unfold H5 at h
 split at h
 ·cases h
 ·rename_i fr a1 h1
  split at h
  ·cases h
  ·rename_i sy a2 h2
   split at h
   ·cases h
   ·rename_i g s3 h3
    split at h
    ·cases h
    ·rename_i ses s4 h4
     split at h
     ·cases h
     ·rename_i a5 h5
      split at h
      ·cases h
      ·rename_i tw a6 h6
       cases h
       have e1:=A5h h1
       have e2:=A02 h2
       have g3:a2≤s3.a∧(s3.a < L.length→F8 L s3):=by
        unfold A0m at h3
        split at h3
        ·rename_i hi
         split at h3
         ·cases h3
         ·rename_i s2 hx
          have hok:F8 L ⟨a2+1,[],[],k⟩:=⟨D1 hi,Nat.zero_le _,rfl,hk⟩
          obtain ⟨q1,q2⟩:=J8 (A0b L) 0 _ (by omega) hok (N5 L _) s2 hx
          have:=q2.a
          cases h3
          exact ⟨by simp only at this;omega,fun _=>q1⟩
        ·cases h3
         exact ⟨Nat.le_refl _,fun hl=>⟨Nat.le_of_lt hl,Nat.zero_le _,rfl,hk⟩⟩
       have g4:s3.a≤s4.a:=by
        unfold doF at h4
        split at h4
        ·rename_i hi
         have hl:=D1 hi
         have q:=g3.2 hl
         have:=(A39 _ _ _ _ _ (⟨hl,by have:=q.ho;simp only;omega,q.hd,q.hk⟩:F8 L { s3 with a:=s3.a+1 }) (by simp only;omega) h4).2.1
         simp only at this
         omega
        ·cases h4
         exact Nat.le_refl _
       have e5:=A3f h5
       have e6:=A1e h6
       omega
section
variable {s0 s1 s:Sto} {bp bl:Nat} {L:List Tok} {a:Nat} {o:List Ex} {d:List Int} {k:Int}
theorem D6n (hE:Nu.Z8 Γ) (hT:∀ i,(B0 L i).2.1.length≤5000) (hL:L.length≤66000) (hP:Pst s0 s bp bl L 0 o d 0) :
  A0 Tryz.prog Γ 49 [.ptr (some ⟨bp,0,none⟩)] s fun v s'=>Sub s0 s'∧SpA (Z6 L) v:=by
 refine acs Tryz.func49 ?_
 conv=>whnf
 intro b2 hb2
 obtain ⟨m1,m2⟩:=hP.nb hb2
 have d2:s0.bx b2=none:=hP.sub.none hb2
 have hP2:=(hP.box hb2 31 (hdA 1 1 1 1 1 hd0)).keep (T:=31) (cs:=hdA 1 1 1 1 1 hd0) A1 m1 m2
 have hback:∀ {s:Sto} {a:Nat} {o:List Ex} {d:List Int} {k:Int},Pst (s0.set b2 31 (hdA 1 1 1 1 1 hd0)) s bp bl L a o d k→Pst s0 s bp bl L a o d k∧s.bx b2=some (31,hdA 1 1 1 1 1 hd0):=fun h=>h.drop d2
 generalize hs1:s0.set b2 31 (hdA 1 1 1 1 1 hd0)=s1 at *
 have hd:=D5x (Γ:=Γ) hE hT hL (Nat.zero_le _) hP2
 refine wp ?_
 refine A0.by hd ?_
 intro v s5 hv5
 unfold D63 at hv5
 rcases hhf:T7 L 0 with x|⟨hdr,a0⟩
 ·have eS:Z6 L=.error x:=by unfold Z6;rw [hhf]
  rw [hhf] at hv5
  obtain ⟨e,a',rfl,⟨kd,tx,rfl⟩,hP5⟩:=hv5
  refine wp ?_
  intro b4 hb4
  obtain ⟨m3,m4⟩:=hP5.nb hb4
  have hP6:=(hP5.box hb4 31 (hdA 1 1 1 1 1 hd0)).put (hP5.sub.none hb4) m3 m4 31 (hdA 1 1 1 1 1 hd0)
  have hq4:((s5.set b4 31 (hdA 1 1 1 1 1 hd0)).set b4 31 (hdA 1 1 1 1 1 hd0)).bx b4=some (31,hdA 1 1 1 1 1 hd0):=A1
  obtain ⟨hP7,hq2⟩:=hback hP6
  refine wp ?_
  refine AWp.loopA [5] [13,14,15,16,17,18,19,20,21,22,23,24,25,26,27,28,29,30,31,32,34,35,33,36,37,6,7,38,39,40,41,42,43,44] (fun _:Unit=>[B7t (kd,tx,x.2.1,x.2.2) x.1]) (fun _ s'=>s'=(s5.set b4 31 (hdA 1 1 1 1 1 hd0)).set b4 31 (hdA 1 1 1 1 1 hd0)) (fun _=>0) (()) (by kernel_rfl) (rfl) ?_ ?_
  ·exact rfl
  ·rintro y _ s7 hs7
   subst s7
   show awp _ _ _ _ _ (updL _ _ [.iface 158 (.cptr (P3 (kd,tx,x.2.1,x.2.2)++[.iface 44 (.int .i64 x.1)]))]) _
   refine wp ?_
   refine ⟨_,Sub.refl _,(hP7.put d2 m1 m2 _ _).sub,?_⟩
   rw [eS]
   exact ⟨1,1,1,1,1,1,hd0,[],_,rfl,⟨kd,tx,rfl⟩⟩
 ·have eS:Z6 L=match Y4 L (L.length+1) [] a0 with
    | .error e=>.error e
    | .ok ts=>.ok (hdr,ts):=by unfold Z6;rw [hhf];rfl
  rw [hhf] at hv5
  obtain ⟨⟨q0,q1,q2,q3,q4,rfl⟩,ha0,hP5⟩:=hv5
  refine wp ?_
  intro b4 hb4
  obtain ⟨m3,m4⟩:=hP5.nb hb4
  have c4:=hP5.sub.none hb4
  have hP6:=((hP5.box hb4 31 (hdA 1 1 1 1 1 hd0)).put c4 m3 m4 31 (hdA q0 q1 q2 q3 q4 hdr)).keep (b:=b4) (T:=31) (cs:=hdA q0 q1 q2 q3 q4 hdr) A1 m3 m4
  refine wp ?_
  refine AWp.loopA [5] [13,14,15,16,17,18,19,20,21,22,23,24,25,26,27,28,29,30,31,32,34,35,33,36,37,6,7,38,39,40,41,42,43,44] (fun q:List Tr.Tn × Nat × B37 s1 × Option (Int × List UInt8 × Int × Int × Int)=>[eV q.2.2.2]) (fun q s'=>(∃ o d k,(q.2.2.2=none→k=0)∧Pst (A6o s1 b4 31 (hdT q0 q1 q2 q3 q4 q.2.2.1.1 hdr q.1) q.2.2.1.1 43 13) s' bp bl L q.2.1 o d k)∧(q.2.2.2=none→q.2.1≤L.length∧q.1.length≤q.2.1∧∃ m ts,q.1=ts.map A04∧L.length - q.2.1 < m∧Y4 L (L.length+1) [] a0=Y4 L m ts q.2.1)∧(∀ kd tx x,q.2.2.2=some (kd,tx,x)→Z6 L=.error x)) (fun q=>match q.2.2.2 with|none=>L.length - q.2.1+1|some _=>0) (([],a0,⟨1,.inl rfl⟩,none)) (by kernel_rfl) (rfl) ?_ ?_
  ·refine ⟨⟨o,d,0,fun _=>rfl,?_⟩,fun _=>⟨ha0,Nat.zero_le _,L.length+1,[],rfl,by simp only;omega,rfl⟩,fun _ _ _ h=>nomatch h⟩
   simp only [B6n,← D5w]
   exact hP6
  ·rintro y ⟨acc,b,t,e⟩ s7 ⟨⟨o7,d7,k7,hk7,hP7⟩,hN,hS⟩
   simp only at hk7 hP7 hN hS
   obtain ⟨hPx,hbx4,may⟩:=Pst.dropRow hP7 c4
   obtain ⟨hPy,hbx2⟩:=hback hPx
   have hbx4':=hbx4
   simp only [hdT] at hbx4
   rcases e with _|⟨kd,tx,x⟩
   ·obtain ⟨hb,hac,m,ts,hts,hm,htr⟩:=hN rfl
    obtain rfl:=hk7 rfl
    obtain ⟨m,rfl⟩:∃ m',m=m'+1:=⟨m - 1,by omega⟩
    obtain ⟨t1,t2,hbp,_⟩:=hP7.pr
    have hbl:=hP7.pl
    have htl:=A5t L
    show awp _ _ _ _ _ (updL _ _ [.nilIface]) _
    conv=>whnf
    by_cases hlt:b < L.length
    ·have htn:=D4e (Γ:=Γ) hE hL hT hP7 ⟨Int.le_refl _,by decide⟩ (by omega)
     refine wp ?_
     refine A0.by htn ?_
     intro v s8 hv8
     unfold C6b at hv8
     rcases htf:H5 L 0 b with x|⟨tt,b'⟩
     ·have eE:Z6 L=.error x:=by rw [eS,htr,Y4,if_pos hlt,htf]
      rw [htf] at hv8
      obtain ⟨yy,e,a',o',d',k',rfl,⟨kd,tx,rfl⟩,hP8⟩:=hv8
      refine wp ?_
      intro b6 hb6
      obtain ⟨m5,m6⟩:=hP8.nb hb6
      have hP9:=(hP8.box hb6 43 [.str [],.int .i64 0,.int .i64 0,.str [],.int .i64 0,.int .i64 0,.str [],.slice 1 [],.int .i64 0,.int .i64 0,.slice 1 [],.int .i64 0,.slice 1 []]).put (hP8.sub.none hb6) m5 m6 43 (Tr.tnA ((0,0,0),yy))
      have hq9:=hP9.sub.bx _ _ (A6p.trans A1)
      have may:=hP9.mayB
      simp only [hdT] at hq9
      refine wp ?_
      refine ⟨may,fun c hc=>by obtain ⟨z,_,rfl⟩:=List.mem_map.1 hc;rfl,all_cons ⟨rfl,rfl⟩ all_nil,?_,?_⟩
      ·show ((acc.map (fun x=>Tr.tnA ((0,0,0),x))).length+1) * (_+1)≤_
       rw [List.length_map]
       exact Nat.le_trans (Nat.mul_le_mul_right _ (show acc.length+1≤100001 by omega)) (Nat.le_of_ble_eq_true (by kernel_rfl))
      intro t' k1 k2
      obtain ⟨hPd,hf⟩:=Pst.grown (cs':=[.str hdr.name.1,.int .i64 hdr.name.2.1,.int .i64 hdr.name.2.2,.slice q0 (hdr.decls.map (fun x=>Tr.deA (0,x))),.slice q1 (hdr.quants.map Tr.quA),.slice q2 (hdr.frees.map Tr.frA),.slice q3 (hdr.states.map Tr.stA),
       .str hdr.start.1,.int .i64 hdr.start.2.1,.int .i64 hdr.start.2.2,.slice q4 (hdr.also.map (fun x=>Tr.syA (0,x))),.slice t' (acc.map (fun x=>Tr.tnA ((0,0,0),x))++[Tr.tnA ((0,0,0),yy)])]) hP9 t.2 k2 c4 m3 m4
      have f4':=(Q4 (t:=t.1) (t':=t') (e:=43) (k:=13)).trans hq9
      have em:hdT q0 q1 q2 q3 q4 t' hdr (acc++[yy])=[.str hdr.name.1,.int .i64 hdr.name.2.1,.int .i64 hdr.name.2.2,.slice q0 (hdr.decls.map (fun x=>Tr.deA (0,x))),.slice q1 (hdr.quants.map Tr.quA),.slice q2 (hdr.frees.map Tr.frA),.slice q3 (hdr.states.map Tr.stA),
       .str hdr.start.1,.int .i64 hdr.start.2.1,.int .i64 hdr.start.2.2,.slice q4 (hdr.also.map (fun x=>Tr.syA (0,x))),.slice t' (acc.map (fun x=>Tr.tnA ((0,0,0),x))++[Tr.tnA ((0,0,0),yy)])]:=by
       unfold hdT
       rw [List.map_append]
       rfl
      refine wp ?_
      refine ⟨(acc++[yy],a',⟨t',hf⟩,some (kd,tx,x)),rfl,B9,⟨⟨o',d',k',(fun h=>nomatch h),?_⟩,(fun h=>nomatch h),fun _ _ _ h=>by cases h;exact eE⟩,by simp only;omega⟩
      simp only [em]
      exact hPd
     ·have htr':Y4 L (L.length+1) [] a0=Y4 L m (ts++[tt]) b':=by rw [htr,Y4,if_pos hlt,htf]
      have hb':=B9t ⟨Int.le_refl _,by decide⟩ htf
      rw [htf] at hv8
      obtain ⟨rfl,o',d',hP8⟩:=hv8
      refine wp ?_
      intro b6 hb6
      obtain ⟨m5,m6⟩:=hP8.nb hb6
      have hP9:=(hP8.box hb6 43 [.str [],.int .i64 0,.int .i64 0,.str [],.int .i64 0,.int .i64 0,.str [],.slice 1 [],.int .i64 0,.int .i64 0,.slice 1 [],.int .i64 0,.slice 1 []]).put (hP8.sub.none hb6) m5 m6 43 (Tr.tnA ((0,0,0),(A04 tt)))
      have hq9:=hP9.sub.bx _ _ (A6p.trans A1)
      have may:=hP9.mayB
      simp only [hdT] at hq9
      refine wp ?_
      refine ⟨may,fun c hc=>by obtain ⟨z,_,rfl⟩:=List.mem_map.1 hc;rfl,all_cons ⟨rfl,rfl⟩ all_nil,?_,?_⟩
      ·show ((acc.map (fun x=>Tr.tnA ((0,0,0),x))).length+1) * (_+1)≤_
       rw [List.length_map]
       exact Nat.le_trans (Nat.mul_le_mul_right _ (show acc.length+1≤100001 by omega)) (Nat.le_of_ble_eq_true (by kernel_rfl))
      intro t' k1 k2
      obtain ⟨hPd,hf⟩:=Pst.grown (cs':=[.str hdr.name.1,.int .i64 hdr.name.2.1,.int .i64 hdr.name.2.2,.slice q0 (hdr.decls.map (fun x=>Tr.deA (0,x))),.slice q1 (hdr.quants.map Tr.quA),.slice q2 (hdr.frees.map Tr.frA),.slice q3 (hdr.states.map Tr.stA),
       .str hdr.start.1,.int .i64 hdr.start.2.1,.int .i64 hdr.start.2.2,.slice q4 (hdr.also.map (fun x=>Tr.syA (0,x))),.slice t' (acc.map (fun x=>Tr.tnA ((0,0,0),x))++[Tr.tnA ((0,0,0),(A04 tt))])]) hP9 t.2 k2 c4 m3 m4
      have f4':=(Q4 (t:=t.1) (t':=t') (e:=43) (k:=13)).trans hq9
      have em:hdT q0 q1 q2 q3 q4 t' hdr (acc++[(A04 tt)])=[.str hdr.name.1,.int .i64 hdr.name.2.1,.int .i64 hdr.name.2.2,.slice q0 (hdr.decls.map (fun x=>Tr.deA (0,x))),.slice q1 (hdr.quants.map Tr.quA),.slice q2 (hdr.frees.map Tr.frA),.slice q3 (hdr.states.map Tr.stA),
       .str hdr.start.1,.int .i64 hdr.start.2.1,.int .i64 hdr.start.2.2,.slice q4 (hdr.also.map (fun x=>Tr.syA (0,x))),.slice t' (acc.map (fun x=>Tr.tnA ((0,0,0),x))++[Tr.tnA ((0,0,0),(A04 tt))])]:=by
       unfold hdT
       rw [List.map_append]
       rfl
      refine wp ?_
      refine ⟨(acc++[A04 tt],b',⟨t',hf⟩,none),rfl,B9,⟨⟨o',d',0,(fun _=>rfl),?_⟩,(fun _=>⟨hb'.2,?_,m,ts++[tt],?_,?_,htr'⟩),fun _ _ _ h=>nomatch h⟩,?_⟩
      ·simp only [em]
       exact hPd
      ·simp only [List.length_append,List.length_cons,List.length_nil]
       omega
      ·rw [hts,List.map_append];rfl
      ·simp only
       omega
      ·simp only
       omega
    ·refine wp ?_
     refine ⟨_,Sub.refl _,(hPy.put d2 m1 m2 _ _).sub,?_⟩
     rw [eS,htr,Y4,if_neg hlt,hts]
     exact ⟨q0,q1,q2,q3,q4,t.1,rfl⟩
   ·have eE:=hS kd tx x rfl
    show awp _ _ _ _ _ (updL _ _ [.iface 158 (.cptr (P3 (kd,tx,x.2.1,x.2.2)++[.iface 44 (.int .i64 x.1)]))]) _
    refine wp ?_
    refine ⟨_,Sub.refl _,(hPy.put d2 m1 m2 _ _).sub,?_⟩
    rw [eE]
    exact ⟨q0,q1,q2,q3,q4,t.1,hdr,acc,_,rfl,⟨kd,tx,rfl⟩⟩
end
theorem fgq {α:Type} {A:α→List AV} (h:∀ x,fgL (A x)=A x) (l:List α):fgE (l.map A)=l.map A:=A58 h l
theorem fgi (l:List Int):fgE (G7 .i64 l)=G7 .i64 l:=A58 (A:=fun n=>[AV.int .i64 n]) (fun _=>rfl) l
theorem D7n (x:Tr.De):fgL (Tr.deA (0,x))=Tr.deA (0,x):=by
 show fgL [_,_,_,.slice 0 (G7 .i64 x.2)]=_
 simp only [fgL,fg,fgi]
 rfl
theorem D7o (x:Tr.Sy):fgL (Tr.syA (0,x))=Tr.syA (0,x):=by
 show fgL [_,.slice 0 (x.2.1.map Tr.arA),_,_]=_
 simp only [fgL,fg]
 rw [fgq (A:=Tr.arA) (fun _=>rfl)]
 rfl
theorem D7p (x:Tr.Tn):fgL (Tr.tnA ((0,0,0),x))=Tr.tnA ((0,0,0),x):=by
 show fgL [_,_,_,_,_,_,_,.slice 0 (x.2.2.1.2.1.map Tr.arA),_,_,.slice 0 (x.2.2.2.1.map Tr.exA),_,.slice 0 (x.2.2.2.2.2.map Tr.seA)]=_
 simp only [fgL,fg]
 rw [fgq (A:=Tr.arA) (fun _=>rfl),fgq (A:=Tr.exA) (fun _=>rfl),fgq (A:=Tr.seA) (fun _=>rfl)]
 rfl
def trN (h:Head) (l:List Tr.Tn):Tr.Tr0:=(h.name,h.decls.map fun d=>(0,d),h.quants,h.frees,h.states,h.start,h.also.map fun s=>(0,s),l.map fun t=>((0,0,0),t))
theorem C6z (k0 k1 k2 k3 k4 t:Nat) (h:Head) (l:List Tr.Tn):fgL (hdT k0 k1 k2 k3 k4 t h l)=Tr.trA (fun _=>0) (trN h l):=by
 unfold hdT Tr.trA trN
 simp only [fgL,fg,List.map_map]
 rw [fgq (fun x=>D7n x),fgq (A:=Tr.quA) (fun _=>rfl),fgq (A:=Tr.frA) (fun _=>rfl),fgq (A:=Tr.stA) (fun _=>rfl),fgq (fun x=>D7o x),fgq (fun x=>D7p x)]
 rfl
theorem D8r (h:Head) (ts:List A05):trN h (ts.map A04)=A0g h ts:=by
 unfold trN A0g
 rw [List.map_map]
 rfl
def D6x (o:Head × List A05) (cs:List AV):Prop:=∃ k0 k1 k2 k3 k4 t,cs=hdT k0 k1 k2 k3 k4 t o.1 (o.2.map A04)
theorem C08 (hE:Nu.Z8 Γ) {L:List Tok} (hL:L.length≤66000) (hT:∀ i,(B0 L i).2.1.length≤5000) (bc:Nat):∀ (s0 s:Sto) (bp bl:Nat),Pst s0 s bp bl L 0 [] [] 0→s0.bx bc=some (31,hdA 1 1 1 1 1 hd0)→A0 Tryz.prog Γ 48 [.ptr (some ⟨bp,0,none⟩),.ptr (some ⟨bc,0,none⟩)] s fun v s'=>M6 (B1 bc) s0 s'∧∃ cs',s'.bx bc=some (31,cs')∧C6h D6x (Z6 L) v cs':=by
 intro s0 s bp bl hP hb
 have hs:=D6n (Γ:=Γ) hE hT hL hP
 refine acs Tryz.func48 ?_
 refine wp ?_;(refine A0.by hs ?_;rintro v s1 ⟨hsub,hv⟩);refine wp ?_
 have hb1:=hsub.bx _ _ hb
 simp only [hdA] at hb1
 unfold SpA at hv
 rcases hr:Z6 L with x|⟨h,ts⟩
 ·rw [hr] at hv
  obtain ⟨k0,k1,k2,k3,k4,t,h,l,e,rfl,⟨kd,tx,rfl⟩⟩:=hv
  refine wp ?_
  exact ⟨_,Sub.refl _,M6.set (B:=B1 bc) (b:=bc) (M6.of_sub hsub) rfl _ _,_,A1,⟨kd,tx,rfl⟩⟩
 ·rw [hr] at hv
  obtain ⟨k0,k1,k2,k3,k4,t,rfl⟩:=hv
  refine wp ?_
  exact ⟨_,Sub.refl _,M6.set (B:=B1 bc) (b:=bc) (M6.of_sub hsub) rfl _ _,_,A1,rfl,k0,k1,k2,k3,k4,t,rfl⟩
theorem D6k {α:Type} (K:α→List AV→Prop) (hQ:Qu.A1q Γ) (hW:Sc.Wds Γ) (hO:AsO.A4b Γ) (hE:AsP.A4b Γ) {n:FuncId} (hn:A2y Tryz.prog n=true) {bc:Nat} {Tc:TypeId} {c:List AV} (S:List UInt8) (hS:S.length≤1048576) (r:List Tok→Res α) (hB:∀ L,A03 S=.ok L→∀ (s0 s:Sto) (bp bl:Nat),Pst s0 s bp bl L 0 [] [] 0→s0.bx bc=some (Tc,c)→A0 Tryz.prog Γ n [.ptr (some ⟨bp,0,none⟩),.ptr (some ⟨bc,0,none⟩)] s fun v s'=>M6 (B1 bc) s0 s'∧∃ cs',s'.bx bc=some (Tc,cs')∧C6h K (r L) v cs') {s:Sto} (hb:s.bx bc=some (Tc,c)) :
  A0 Tryz.prog Γ 47 [.str S,.func (.func n) [] [.ptr (some ⟨bc,0,none⟩)]] s fun v s'=>M6 (B1 bc) s s'∧∃ cs',s'.bx bc=some (Tc,cs')∧D8u K (A1s S r) v cs':=by
 have hl:=B6f hQ hW hO S hS
 rcases hx:A03 S with ⟨e,a,b⟩|L
 ·rw [hx] at hl
  have he0:e≠0:=by
   unfold A03 at hx
   split at hx
   ·cases hx;decide
   ·exact B0p _ _ _ _ _ _ hx
  have hrr:A1s S r=.error (e,a,b):=by unfold A1s;rw [hx]
  rw [hrr]
  simp only [C4s] at hl
  refine acs Tryz.func47 ?_
  conv=>whnf
  intro b4 hb4
  have m4:bc≠b4:=A3 hb hb4
  refine wp ?_
  intro b6 hb6
  have n_b4_b6:b4≠b6:=A3 bxa hb6
  have n_b6_b4:=n_b4_b6.symm
  conv=>whnf
  repeat' ((first|exact pru|(refine brS (fun h=>?_) (fun h=>?_)<;>(try rw [h])<;>(try simp only [bS,↓reduceIte] at h))|refine D3 ?_|(refine M5.of Y8 U4 ?_)|refine gS ?_|refine aA ?_|refine nA ?_|fail)<;>(conv=>whnf))
  ·have k6:=((Sub.refl s).set hb4 _ _).none hb6
   have m6:bc≠b6:=A3 hb k6
   exact ⟨_,Sub.refl _,M6.of_sub (((((Sub.refl _).set hb4 _ _).set k6 _ _).set k6 _ _).set hb4 _ _),c,bxa,rfl⟩
  ·exfalso;revert h;simp [he0]
 ·rw [hx] at hl
  simp only [C4s] at hl
  refine acs Tryz.func47 ?_
  conv=>whnf
  intro b4 hb4
  have m4:bc≠b4:=A3 hb hb4
  refine wp ?_
  intro b6 hb6
  have n_b4_b6:b4≠b6:=A3 bxa hb6
  have n_b6_b4:=n_b4_b6.symm
  refine wp ?_;(refine M5.of Y8 U4 ?_);refine wp ?_
  all_goals first|(exfalso;revert h;simp;done)|skip
  have k6:=((Sub.refl s).set hb4 _ _).none hb6
  have m6:bc≠b6:=A3 hb k6
  intro bl hbl
  have n_b4_bl:b4≠bl:=A3 bxa hbl
  have n_bl_b4:=n_b4_bl.symm
  have n_b6_bl:b6≠bl:=A3 bxa hbl
  have n_bl_b6:=n_b6_bl.symm
  have n_bc_bl:bc≠bl:=A3 bxa hbl
  have n_bl_bc:=n_bc_bl.symm
  refine wp ?_
  intro bp hbp
  have n_b4_bp:b4≠bp:=A3 bxa hbp
  have n_bp_b4:=n_b4_bp.symm
  have n_b6_bp:b6≠bp:=A3 bxa hbp
  have n_bp_b6:=n_b6_bp.symm
  have n_bc_bp:bc≠bp:=A3 bxa hbp
  have n_bp_bc:=n_bc_bp.symm
  have n_bl_bp:bl≠bp:=A3 bxa hbp
  have n_bp_bl:=n_bl_bp.symm
  conv=>whnf
  repeat' ((first|exact pru|(refine brS (fun h=>?_) (fun h=>?_)<;>(try rw [h])<;>(try simp only [bS,↓reduceIte] at h))|refine D3 ?_|refine gS ?_|refine aA ?_|refine nA ?_|fail)<;>(conv=>whnf))
  rotate_left
  ·rw [hn] at h;cases h
  have hsq:Sub s (((s.set b4 46 [.int .i64 0,.int .i64 0,.int .i64 0]).set b6 46 [.int .i64 0,.int .i64 0,.int .i64 0]).set b6 46 [.int .i64 0,.int .i64 0,.int .i64 0]):=(((Sub.refl _).set hb4 _ _).set k6 _ _).set k6 _ _
  have hq4:(((s.set b4 46 [.int .i64 0,.int .i64 0,.int .i64 0]).set b6 46 [.int .i64 0,.int .i64 0,.int .i64 0]).set b6 46 [.int .i64 0,.int .i64 0,.int .i64 0]).bx b4=some (46,[.int .i64 0,.int .i64 0,.int .i64 0]):=bxa
  generalize ((s.set b4 46 [.int .i64 0,.int .i64 0,.int .i64 0]).set b6 46 [.int .i64 0,.int .i64 0,.int .i64 0]).set b6 46 [.int .i64 0,.int .i64 0,.int .i64 0]=sq at *
  have kbp:sq.bx bp=none:=((Sub.refl sq).set hbl _ _).none hbp
  have hP:Pst sq ((sq.set bl 126 [.slice 0 (W7 L),.int .i64 0]).set bp 123 [.ptr (some ⟨bl,0,none⟩),.slice 1 [],.slice 1 [],.int .i64 0]) bp bl L 0 [] [] 0 :=
   ⟨kbp,hbl,n_bp_bl,⟨1,1,A1,Own.start (((Sub.refl _).set hbl _ _).set kbp _ _) _ _,Own.start (((Sub.refl _).set hbl _ _).set kbp _ _) _ _,fun _=>rfl⟩,(A2 n_bl_bp).trans A1⟩
  refine A0.by (hB L hx _ _ _ _ hP (hsq.bx _ _ hb)) ?_
  rintro v s5 ⟨hst,cs',hbc,hv⟩
  have hst2:M6 (B1 bc) s s5:=(M6.of_sub hsq).trans hst
  have h54:=hst.bx b4 _ (fun h=>m4 (Eq.symm h)) hq4
  rcases hrl:r L with x|c0
  ·rw [hrl] at hv
   rw [show A1s S r=.error (C5b x.1,x.2.1,x.2.2) by unfold A1s;rw [hx];dsimp only;rw [hrl]]
   obtain ⟨kd,tx,rfl⟩:=hv
   refine wp ?_
   intro b8 hb8
   have k8:=hst2.none1 hbc hb8
   have n_b4_b8:b4≠b8:=A3 bxa hb8
   have n_b8_b4:=n_b4_b8.symm
   have n_bc_b8:bc≠b8:=A3 bxa hb8
   have n_b8_bc:=n_bc_b8.symm
   refine wp ?_;(refine A0.by (AsP.A91 hE _ A1) ?_;rintro _ _ ⟨rfl,rfl⟩);refine wp ?_;(first|(refine A0.pure' ?_ (B0e (kd,tx,x.2.1,x.2.2) x.1);rintro _ rfl)|refine A8.pure ?_ (B0e (kd,tx,x.2.1,x.2.2) x.1));refine wp ?_
   exact ⟨_,Sub.refl _,((hst2.fresh k8 _ _).fresh k8 _ _).fresh hb4 _ _,cs',bxa,rfl⟩
  ·rw [hrl] at hv
   rw [show A1s S r=.ok c0 by unfold A1s;rw [hx];dsimp only;rw [hrl]]
   obtain ⟨rfl,hv⟩:=hv
   refine wp ?_
   intro b8 hb8
   have k8:=hst2.none1 hbc hb8
   have n_b4_b8:b4≠b8:=A3 bxa hb8
   have n_b8_b4:=n_b4_b8.symm
   have n_bc_b8:bc≠b8:=A3 bxa hb8
   have n_b8_bc:=n_bc_b8.symm
   refine wp ?_;(first|(refine A0.pure' ?_ (AsP.A3u _);rintro _ rfl)|refine A8.pure ?_ (AsP.A3u _));refine wp ?_
   exact ⟨_,Sub.refl _,(hst2.fresh k8 _ _).fresh hb4 _ _,cs',bxa,rfl,hv⟩
def noTr:Tr.Tr0:=(Tr.N9,[],[],[],[],Tr.N9,[],[])
def B5y:Res (Head × List A05)→AV
 | .ok (h,ts)=>.tuple [.agg (Tr.trA (fun _=>0) (A0g h ts)),.agg [.int .i64 0,.int .i64 0,.int .i64 0]]
 | .error (e,a,b)=>.tuple [.agg (Tr.trA (fun _=>0) noTr),.agg [.int .i64 e,.int .i64 a,.int .i64 b]]
theorem B2b (hQ:Qu.A1q Γ) (hW:Sc.Wds Γ) (hO:AsO.A4b Γ) (hE:AsP.A4b Γ) (hR:Nu.Z8 Γ) (S:List UInt8) (hS:S.length≤65536) (hT:∀ L,A03 S=.ok L→∀ i,(B0 L i).2.1.length≤5000) :
  A5 Tryz.prog Γ 12 [.str S] fun v=>v=B5y (A1s S Z6):=by
 have hlen:∀ L,A03 S=.ok L→L.length≤66000:=fun L hL=>by
  unfold A03 at hL
  split at hL
  ·cases hL
  ·have:=B0q _ _ _ _ hL;omega
 have hrun:=fun {s:Sto} {bc:Nat} (hb:s.bx bc=some (31,hdA 1 1 1 1 1 hd0))=>D6k (Γ:=Γ) D6x hQ hW hO hE (n:=48) (by kernel_rfl) S (by omega) Z6 (fun L hL=>C08 hR (hlen L hL) (hT L hL) bc) hb
 refine A5.fgt fun s=>?_
 refine acs Tryz.func12 ?_
 conv=>whnf
 intro b2 hb2
 conv=>whnf
 intro b3 hb3
 have n_b2_b3:b2≠b3:=A3 bxa hb3
 have n_b3_b2:=n_b2_b3.symm
 conv=>whnf
 have k3:=((Sub.refl s).set hb2 31 (hdA 1 1 1 1 1 hd0)).none hb3
 refine wp ?_
 intro b4 hb4
 have n_b2_b4:b2≠b4:=A3 bxa hb4
 have n_b4_b2:=n_b2_b4.symm
 have n_b3_b4:b3≠b4:=A3 bxa hb4
 have n_b4_b3:=n_b3_b4.symm
 conv=>whnf
 have k4:=(((Sub.refl s).set hb2 31 (hdA 1 1 1 1 1 hd0)).set k3 46 [.int .i64 0,.int .i64 0,.int .i64 0]).none hb4
 refine wp ?_;(refine A0.by (hrun A1) ?_;rintro v s1 ⟨hst,cs,hbc,hv⟩);refine wp ?_
 have h12:=hst.bx b2 _ (fun h=>n_b2_b4 h) bxa
 have h13:=hst.bx b3 _ (fun h=>n_b3_b4 h) bxa
 have hb41:∀ s0,Sub s0 s→s0.bx b4=none→s0.bx b3=none→s0.bx b2=none→Sub s0 s1:=fun s0 h1 h2 h3 h4=>hst.sub s0 (((h1.set h4 _ _).set h3 _ _).set h2 _ _) (fun c hc=>by rw [show c=b4 from hc];exact h2)
 rcases hr:A1s S Z6 with ⟨e,a,b⟩|⟨hd,ts⟩
 ·rw [hr] at hv
  have he0:=B6o hr
  replace hv:v=.agg [.int .i64 e,.int .i64 a,.int .i64 b]:=hv
  subst hv
  refine wp ?_
  intro b5 hb5
  have k5:s.bx b5=none:=(((Sub.refl s).set hb2 _ _ |>.set k3 _ _).set k4 _ _).none (hst.none1 hbc hb5)
  have n_b2_b5:b2≠b5:=A3 bxa hb5
  have n_b5_b2:=n_b2_b5.symm
  have n_b3_b5:b3≠b5:=A3 bxa hb5
  have n_b5_b3:=n_b3_b5.symm
  have n_b4_b5:b4≠b5:=A3 bxa hb5
  have n_b5_b4:=n_b4_b5.symm
  conv=>whnf
  repeat' ((first|exact pru|(refine brS (fun h=>?_) (fun h=>?_)<;>(try rw [h])<;>(try simp only [bS,↓reduceIte] at h))|refine D3 ?_|(refine M5.of Y8 U4 ?_)|(refine AWp.anyP (id:=4) [(5,true),(2,false)] (fun k=>cond k b5 b2) [0,1,2,3] n_b5_b2 (by kernel_rfl) (by kernel_rfl) (by kernel_rfl) (by kernel_rfl) ?_)|(refine AWp.anyP (id:=5) [(5,true),(2,false)] (fun k=>cond k b5 b2) [0,1,2,3] n_b5_b2 (by kernel_rfl) (by kernel_rfl) (by kernel_rfl) (by kernel_rfl) ?_)|(refine ⟨(by first|exact trivial|exact ⟨_,rfl,rfl⟩),?_⟩)|refine gS ?_|refine aA ?_|refine nA ?_|fail)<;>(conv=>whnf))
  ·refine ⟨_,Sub.refl _,?_,((((hb41 s (Sub.refl _) k4 k3 hb2).set k5 _ _).set k5 _ _).set hb2 _ _).set k3 _ _⟩
   show fg (.tuple [.agg (hdT 1 1 1 1 1 1 hd0 []),.agg [.int .i64 e,.int .i64 a,.int .i64 b]])=_
   simp only [fg,fgL,C6z,B5y]
   rfl
  ·exfalso;revert h;simp [he0]
 ·rw [hr] at hv
  obtain ⟨rfl,k0,k1,kk2,kk3,kk4,t,rfl⟩:=hv
  simp only [hdT] at hbc
  refine wp ?_
  intro b5 hb5
  have k5:s.bx b5=none:=(((Sub.refl s).set hb2 _ _ |>.set k3 _ _).set k4 _ _).none (hst.none1 hbc hb5)
  have n_b2_b5:b2≠b5:=A3 bxa hb5
  have n_b5_b2:=n_b2_b5.symm
  have n_b3_b5:b3≠b5:=A3 bxa hb5
  have n_b5_b3:=n_b3_b5.symm
  have n_b4_b5:b4≠b5:=A3 bxa hb5
  have n_b5_b4:=n_b4_b5.symm
  conv=>whnf
  repeat' ((first|exact pru|(refine brS (fun h=>?_) (fun h=>?_)<;>(try rw [h])<;>(try simp only [bS,↓reduceIte] at h))|refine D3 ?_|(refine M5.of Y8 U4 ?_)|(refine AWp.anyP (id:=4) [(5,true),(2,false)] (fun k=>cond k b5 b2) [0,1,2,3] n_b5_b2 (by kernel_rfl) (by kernel_rfl) (by kernel_rfl) (by kernel_rfl) ?_)|(refine AWp.anyP (id:=5) [(5,true),(2,false)] (fun k=>cond k b5 b2) [0,1,2,3] n_b5_b2 (by kernel_rfl) (by kernel_rfl) (by kernel_rfl) (by kernel_rfl) ?_)|(refine ⟨(by first|exact trivial|exact ⟨_,rfl,rfl⟩),?_⟩)|refine gS ?_|refine aA ?_|refine nA ?_|fail)<;>(conv=>whnf))
  all_goals first|(exfalso;revert h;simp;done)|skip
  refine ⟨_,Sub.refl _,?_,((((hb41 s (Sub.refl _) k4 k3 hb2).set k5 _ _).set k5 _ _).set hb2 _ _).set k3 _ _⟩
  show fg (.tuple [.agg (hdT k0 k1 kk2 kk3 kk4 t hd (ts.map A04)),.agg [.int .i64 0,.int .i64 0,.int .i64 0]])=_
  simp only [fg,fgL,C6z,D8r,B5y]
end Go.Proofs.YticnkpgmmpenlaaGreatDoor.Pa
namespace Go.Proofs.YticnkpgmmpenlaaGreatDoor.Pa
open Go Go.Ab Go.RowKit Go.Proofs.YticnkpgmmpenlaaGreatDoor.Lx Go.Proofs.YticnkpgmmpenlaaGreatDoor.Pr
section
variable {L:List Tok} {a:Nat} {k:Int}
theorem C7c {α:Type} {one:Nat→Res (α × Nat)} (hm:∀ a x a1,one a=.ok (x,a1)→a < a1∧a1≤L.length):∀ (n:Nat) (acc:List α) (a:Nat) (xs:List α) (a':Nat),a≤L.length→acc.length≤a→X7 L one n acc a=.ok (xs,a')→xs.length≤L.length
 | 0,_,_,_,_,h1,h2,h=>by cases h;omega
 | n+1,acc,a,xs,a',h1,h2,h=>by
  unfold X7 at h
  split at h
  ·cases h
  ·rename_i x a1 hx
   obtain ⟨k1,k2⟩:=hm _ _ _ hx
   have hl:(acc++[x]).length≤a1:=by simp only [List.length_append,List.length_cons,List.length_nil];omega
   split at h
   ·rename_i hc
    have:=D1 hc
    exact C7c hm n _ _ _ _ (by omega) (by omega) h
   ·split at h
    ·cases h
     omega
    ·cases h
theorem D2h {α:Type} {one:Nat→Res (α × Nat)} (hm:∀ a x a1,one a=.ok (x,a1)→a < a1∧a1≤L.length) {xs:List α} {a':Nat} (h:A1d L one a=.ok (xs,a')):xs.length≤L.length:=by
 unfold A1d at h
 split at h
 ·rename_i hc
  have:=D1 hc
  split at h
  ·cases h
   exact Nat.zero_le _
  ·exact C7c hm _ _ _ _ _ (by omega) (Nat.zero_le _) h
 ·cases h
theorem C4b {x:Tr.Sy} {a':Nat} (h:K6 L a=.ok (x,a')):x.2.1.length≤L.length:=by
 unfold K6 at h
 split at h
 ·cases h
 ·split at h
  ·cases h
  ·rename_i hl
   cases h
   exact D2h B4l hl
theorem D7k {x:Tr.De} {a':Nat} (h:A06 L a=.ok (x,a')):x.2.length≤L.length:=by
 unfold A06 at h
 split at h
 ·cases h
 ·split at h
  ·cases h
  ·rename_i hl
   cases h
   exact D2h A8o hl
theorem C7i {α:Type} {ws:List (List UInt8)} {one:Nat→Nat→Res (α × Nat)} {Q:α→Prop} (hm:∀ i a x a1,one i a=.ok (x,a1)→a≤a1∧a1≤L.length) (hQ:∀ i a x a1,one i a=.ok (x,a1)→Q x):∀ (n:Nat) (acc:List α) (a:Nat) (xs:List α) (a':Nat),a≤L.length→acc.length≤a→(∀ x ∈ acc,Q x)→F4 L ws one n acc a=.ok (xs,a')→xs.length≤L.length∧∀ x ∈ xs,Q x
 | 0,_,_,_,_,h1,h2,h3,h=>by cases h;exact ⟨by omega,h3⟩
 | n+1,acc,a,xs,a',h1,h2,h3,h=>by
  unfold F4 at h
  split at h
  ·cases h;exact ⟨by omega,h3⟩
  ·split at h
   ·cases h
   ·rename_i x a1 hx
    obtain ⟨k1,k2⟩:=hm _ _ _ _ hx
    exact C7i hm hQ n _ _ _ _ k2 (by simp only [List.length_append,List.length_cons,List.length_nil];omega) (fun y hy=>by
     rcases List.mem_append.1 hy with hy|hy
     ·exact h3 y hy
     ·rw [List.mem_singleton.1 hy];exact hQ _ _ _ _ hx) h
theorem B5s {α:Type} {ws:List (List UInt8)} {one:Nat→Nat→Res (α × Nat)} {Q:α→Prop} (hm:∀ i a x a1,one i a=.ok (x,a1)→a≤a1∧a1≤L.length) (hQ:∀ i a x a1,one i a=.ok (x,a1)→Q x) {xs:List α} {a':Nat} (ha:a≤L.length) (h:N0 L ws one a=.ok (xs,a')):xs.length≤L.length∧∀ x ∈ xs,Q x :=
 C7i hm hQ _ [] _ _ _ ha (Nat.zero_le _) (fun _ h=>nomatch h) h
theorem C7v:∀ (n:Nat) (acc:List Tr.Se) (st:St) (xs:List Tr.Se) (z:St),F8 L st→acc.length≤st.a→A01 L n acc st=.ok (xs,z)→xs.length≤L.length
 | 0,_,st,_,_,hk,h2,h=>by have:=hk.ha;cases h;omega
 | n+1,acc,st,xs,z,hk,h2,h=>by
  unfold A01 at h
  split at h
  ·cases h
  ·rename_i x s2 hx
   obtain ⟨g1,g2,g3⟩:=B6s hk hx
   have hl:(acc++[x]).length≤s2.a:=by simp only [List.length_append,List.length_cons,List.length_nil];omega
   split at h
   ·rename_i hc
    have hlt:=D1 hc
    exact C7v n _ { s2 with a:=s2.a+1 } _ _ ⟨hlt,by have:=g1.ho;simp only;omega,g1.hd,g1.hk⟩ (by simp only;omega) h
   ·have:=g1.ha
    cases h
    omega
theorem D6q {y:A05} {a':Nat} (hk:0≤k∧k≤128) (h:H5 L k a=.ok (y,a')):y.on.2.1.length≤L.length∧y.nodes.length≤L.length∧y.sets.length≤L.length:=by
 unfold H5 at h
 split at h
 ·cases h
 ·split at h
  ·cases h
  ·rename_i sy a2 h2
   split at h
   ·cases h
   ·rename_i g s3 h3
    split at h
    ·cases h
    ·rename_i ses s4 h4
     split at h
     ·cases h
     ·split at h
      ·cases h
      ·cases h
       have e2:=C4b h2
       have g3:s3.o.length≤L.length∧(s3.a < L.length→F8 L s3):=by
        unfold A0m at h3
        split at h3
        ·rename_i hi
         split at h3
         ·cases h3
         ·rename_i s2 hx
          have hok:F8 L ⟨a2+1,[],[],k⟩:=⟨D1 hi,Nat.zero_le _,rfl,hk⟩
          obtain ⟨q1,q2⟩:=J8 (A0b L) 0 _ (by omega) hok (N5 L _) s2 hx
          have:=q1.ha
          have:=q1.ho
          cases h3
          exact ⟨by omega,fun _=>q1⟩
        ·cases h3
         exact ⟨Nat.zero_le _,fun hl=>⟨Nat.le_of_lt hl,Nat.zero_le _,rfl,hk⟩⟩
       unfold doF at h4
       split at h4
       ·rename_i hi
        have hl:=D1 hi
        have q:=g3.2 hl
        have hok:F8 L { s3 with a:=s3.a+1 }:=⟨hl,by have:=q.ho;simp only;omega,q.hd,q.hk⟩
        have e3:=(A39 _ _ _ _ _ hok (by simp only;omega) h4).1
        have e4:=C7v _ _ _ _ _ hok (Nat.zero_le _) h4
        have:=e3.ha
        have:=e3.ho
        exact ⟨e2,by show s4.o.length≤_;omega,e4⟩
       ·cases h4
        exact ⟨e2,g3.1,Nat.zero_le _⟩
theorem C4f:∀ (n:Nat) (acc:List A05) (a:Nat) (xs:List A05),acc.length≤a→a≤L.length→(∀ t ∈ acc,t.on.2.1.length≤L.length∧t.nodes.length≤L.length∧t.sets.length≤L.length)→Y4 L n acc a=.ok xs→xs.length≤L.length∧∀ t ∈ xs,t.on.2.1.length≤L.length∧t.nodes.length≤L.length∧t.sets.length≤L.length
 | 0,_,_,_,h1,h2,h3,h=>by cases h;exact ⟨by omega,h3⟩
 | n+1,acc,a,xs,h1,h2,h3,h=>by
  unfold Y4 at h
  split at h
  ·split at h
   ·cases h
   ·rename_i t a1 hx
    have e1:=B9t ⟨Int.le_refl _,by decide⟩ hx
    have e2:=D6q ⟨Int.le_refl _,by decide⟩ hx
    exact C4f n _ _ _ (by simp only [List.length_append,List.length_cons,List.length_nil];omega) e1.2 (fun y hy=>by
     rcases List.mem_append.1 hy with hy|hy
     ·exact h3 y hy
     ·rw [List.mem_singleton.1 hy];exact e2) h
  ·cases h;exact ⟨by omega,h3⟩
theorem C59 {hd:Head} {ts:List A05} (hL:L.length≤66000) (h:Z6 L=.ok (hd,ts)):Tr.A2x (A0g hd ts):=by
 unfold Z6 at h
 split at h
 ·cases h
 ·rename_i hd' a0 hh
  split at h
  ·cases h
  ·rename_i ts' ht
   injection h with h;injection h with h1 h2;subst h1 h2
   unfold T7 at hh
   split at hh
   ·cases hh
   rename_i a1 e1
   split at hh
   ·cases hh
   rename_i nm a2 e2
   split at hh
   ·cases hh
   rename_i ds a3 e3
   split at hh
   ·cases hh
   rename_i qs a4 e4
   split at hh
   ·cases hh
   rename_i fs a5 e5
   split at hh
   ·cases hh
   rename_i ss a6 e6
   split at hh
   ·cases hh
   rename_i a7 e7
   split at hh
   ·cases hh
   rename_i st a8 e8
   split at hh
   ·cases hh
   rename_i al a9 e9
   injection hh with hh;injection hh with hh1 hh2;subst hh1 hh2
   have l2:=A1e e2
   have md:∀ i a x a1,(fun (_:Nat)=>A06 L) i a=.ok (x,a1)→a≤a1∧a1≤L.length:=fun _ _ _ _ h=>⟨Nat.le_of_lt (A8j h).1,(A8j h).2⟩
   have ms:∀ i a x a1,(fun (_:Nat)=>K6 L) i a=.ok (x,a1)→a≤a1∧a1≤L.length:=fun _ _ _ _ h=>⟨Nat.le_of_lt (A02 h).1,(A02 h).2⟩
   have n3:=B5s (Q:=fun x:Tr.De=>x.2.length≤L.length) md (fun _ _ _ _ h=>D7k h) (by omega) e3
   have l3:=A29 md (by omega) e3
   have n4:=B5s (Q:=fun _=>True) (fun _ _ _ _ h=>B07 h) (fun _ _ _ _ _=>trivial) l3.2 e4
   have l4:=A29 (fun _ _ _ _ h=>B07 h) l3.2 e4
   have n5:=B5s (Q:=fun _=>True) (fun _ _ _ _ h=>B3r h) (fun _ _ _ _ _=>trivial) l4.2 e5
   have l5:=A29 (fun _ _ _ _ h=>B3r h) l4.2 e5
   have n6:=B5s (Q:=fun _=>True) (fun _ _ _ _ h=>B6y h) (fun _ _ _ _ _=>trivial) l5.2 e6
   have l8:=A1e e8
   have n9:=B5s (Q:=fun x:Tr.Sy=>x.2.1.length≤L.length) ms (fun _ _ _ _ h=>C4b h) (by omega) e9
   have l9:=A29 ms (by omega) e9
   obtain ⟨n10,n11⟩:=C4f _ [] _ _ (Nat.zero_le _) l9.2 (fun _ h=>nomatch h) ht
   refine ⟨⟨?_,?_,?_,?_,?_,?_⟩,?_,?_,?_⟩
   ·show (ds.map _).length≤_;rw [List.length_map];omega
   ·show qs.length≤_;omega
   ·show fs.length≤_;omega
   ·show ss.length≤_;omega
   ·show (al.map _).length≤_;rw [List.length_map];omega
   ·show (ts'.map _).length≤_;rw [List.length_map];omega
   ·intro d hd
    obtain ⟨z,hz,rfl⟩:=List.mem_map.1 (show d ∈ ds.map _ from hd)
    have:=n3.2 z hz
    show z.2.length≤_
    omega
   ·intro d hd
    obtain ⟨z,hz,rfl⟩:=List.mem_map.1 (show d ∈ al.map _ from hd)
    have:=n9.2 z hz
    show z.2.1.length≤_
    omega
   ·intro d hd
    obtain ⟨z,hz,rfl⟩:=List.mem_map.1 (show d ∈ ts'.map _ from hd)
    obtain ⟨q1,q2,q3⟩:=n11 z hz
    refine ⟨?_,?_,?_⟩
    ·show z.on.2.1.length≤_;omega
    ·show (z.nodes.map exT).length≤_;rw [List.length_map];omega
    ·show z.sets.length≤_;omega
theorem A6f {S:List UInt8} {hd:Head} {ts:List A05} (hS:S.length≤65536) (h:A1s S Z6=.ok (hd,ts)):Tr.A2x (A0g hd ts):=by
 unfold A1s at h
 split at h
 ·cases h
 ·rename_i L hL
  split at h
  ·cases h
  ·rename_i o ho
   injection h with h
   subst h
   exact C59 (by have:=C12 hL;omega) ho
end
end Go.Proofs.YticnkpgmmpenlaaGreatDoor.Pa
namespace Go.Proofs.YticnkpgmmpenlaaGreatDoor.Pr
open Go Go.Ab Go.RowKit Go.Proofs.YticnkpgmmpenlaaGreatDoor.Lx Go.Proofs.YticnkpgmmpenlaaGreatDoor.Pa
theorem B80 {α β:Type} (f:α→β) (d:α):∀ (l:List α) (i:Nat),(l.map f).getD i (f d)=f (l.getD i d)
 | [],i=>by simp [List.getD]
 | x::l,0=>by simp [List.getD]
 | x::l,i+1=>by
  have:=B80 f d l i
  simpa [List.getD] using this
theorem C1n (l:List Tr.Ex):∀ f i,F5 (l.map Tr.A2k) f i=F5 l f i
 | 0,_=>rfl
 | f+1,i=>by
  rw [F5,F5]
  have e:(l.map Tr.A2k).getD i Tr.H1=Tr.A2k (l.getD i Tr.H1):=B80 Tr.A2k Tr.H1 l i
  rw [e]
  generalize l.getD i Tr.H1=y
  show B24 (Tr.A2k y) (F5 (l.map Tr.A2k) f y.2.1.toNat) (F5 (l.map Tr.A2k) f y.2.2.1.toNat)=_
  rw [C1n l f,C1n l f]
  rfl
theorem D62 (l:List Tr.Ex) (i:Int):gx (l.map Tr.A2k) i=gx l i:=C1n l _ _
theorem Z0 {α β:Type} (f:α→β) (S:β→List UInt8) (T:α→List UInt8) (h:∀ x,S (f x)=T x) (l:List α):E2 S (l.map f)=E2 T l:=by
 unfold E2
 rw [List.flatMap_map]
 congr 1
 funext x
 rw [h]
theorem D31 (s:Tr.Sy):T6 (s.1,s.2.1.map Tr.A6g,0,0)=T6 s:=by
 unfold T6
 rw [List.map_map]
 rfl
theorem D4f (t:(Nat × Nat × Nat) × Tr.Tn):E7 (Tr.A2v t).2=E7 t.2:=by
 obtain ⟨k,fr,tw,sy,nd,g,ss⟩:=t
 show E7 (Tr.M0 fr,Tr.M0 tw,(sy.1,sy.2.1.map Tr.A6g,0,0),nd.map Tr.A2k,g,ss.map Tr.A3b)=E7 (fr,tw,sy,nd,g,ss)
 have e1:doS (Tr.M0 fr,Tr.M0 tw,(sy.1,sy.2.1.map Tr.A6g,0,0),nd.map Tr.A2k,g,ss.map Tr.A3b)=doS (fr,tw,sy,nd,g,ss):=by
  cases ss with
  | nil=>rfl
  | cons s r =>
   have e0:((s::r).map Tr.A3b).map (U7 (nd.map Tr.A2k))=(s::r).map (U7 nd):=by
    rw [List.map_map]
    refine List.map_congr_left fun u _=>?_
    show (Tr.A3b u).1.1++32::61::32::(gx (nd.map Tr.A2k) (Tr.A3b u).2).txt=_
    rw [D62]
    rfl
   show 32::(wDo++32::(K9 (((s::r).map Tr.A3b).map (U7 (nd.map Tr.A2k)))++_))=_
   rw [e0]
   rfl
 have e2:ifS (Tr.M0 fr,Tr.M0 tw,(sy.1,sy.2.1.map Tr.A6g,0,0),nd.map Tr.A2k,g,ss.map Tr.A3b)=ifS (fr,tw,sy,nd,g,ss):=by
  unfold ifS
  rw [e1]
  simp only [D62]
 unfold E7
 rw [e2]
 simp only [D31]
 rfl
theorem C4h (x:Tr.Tr0):M3 (Tr.A2l x)=M3 x:=by
 unfold M3 Tr.A2l
 simp only
 rw [Z0 Tr.C1a _ (fun d:Nat × Tr.De=>A07 d.2) (fun _=>rfl),Z0 Tr.A7w _ X8 (fun _=>rfl),Z0 Tr.A7v _ A2g (fun _=>rfl),Z0 Tr.A7x _ Y2 (fun _=>rfl),
  Z0 Tr.B3i _ (fun s:Nat × Tr.Sy=>P0++32::T6 s.2) (fun s=>by show P0++32::T6 (s.2.1,s.2.2.1.map Tr.A6g,0,0)=_;rw [D31]),Z0 Tr.A2v _ (fun t:(Nat × Nat × Nat) × Tr.Tn=>E7 t.2) D4f]
 rfl
def D69 (k:Tr.KeyH × List Tr.Sy × List Tr.Tn):List UInt8 :=
 A0d (B1k++32::k.1.1.1)++(E2 A07 k.1.2.2.1++(E2 X8 k.1.2.2.2.1++(E2 A2g k.1.2.2.2.2.1++(E2 Y2 k.1.2.2.2.2.2++(A0d (Y5++32::k.1.2.1.1)++(E2 (fun s=>P0++32::T6 s) k.2.1++E2 E7 k.2.2))))))
theorem B9w (x:Tr.Tr0):M3 x=D69 (Tr.A2u x):=by
 unfold M3 D69 Tr.A2u Tr.A2t
 simp only
 rw [Z0 Prod.snd A07 (fun d:Nat × Tr.De=>A07 d.2) (fun _=>rfl),Z0 Prod.snd (fun s=>P0++32::T6 s) (fun s:Nat × Tr.Sy=>P0++32::T6 s.2) (fun _=>rfl),Z0 Prod.snd E7 (fun t:(Nat × Nat × Nat) × Tr.Tn=>E7 t.2) (fun _=>rfl)]
theorem D4h {a b:Tr.Tr0} (h:Tr.A2u (Tr.A2l a)=Tr.A2u (Tr.A2l b)):M3 a=M3 b:=by
 rw [← C4h a,← C4h b,B9w,B9w,h]
end Go.Proofs.YticnkpgmmpenlaaGreatDoor.Pr
namespace Go.Proofs.YticnkpgmmpenlaaGreatDoor.Pr
open Go Go.Ab Go.RowKit Go.Proofs.YticnkpgmmpenlaaGreatDoor.Lx Go.Proofs.YticnkpgmmpenlaaGreatDoor.Pa
variable {Γ:Nat→AV}
attribute [local irreducible] A5 Sto.set Sto.grow
def C9e (op:Int):Int:=if op=1∨op=17 then 8 else if 4≤op∧op≤16 then (lvl op:Int) else 0
theorem D96 {op:Int} (h:1≤op∧op≤17):op=1∨op=2∨op=3∨op=4∨op=5∨op=6∨op=7∨op=8∨op=9∨op=10∨op=11∨op=12∨op=13∨op=14∨op=15∨op=16∨op=17:=by omega
theorem U1 (op:Int):A5 Tryz.prog Γ 19 [.int .i64 op] fun v=>v=.int .i64 (C9e op):=by
 by_cases h:1≤op∧op≤17
 ·rcases D96 h with rfl|rfl|rfl|rfl|rfl|rfl|rfl|rfl|rfl|rfl|rfl|rfl|rfl|rfl|rfl|rfl|rfl
  all_goals
   refine aps Tryz.func19 ?_
   intro s
   refine wr ?_
   all_goals rfl
 ·have e:C9e op=0:=by unfold C9e;rw [if_neg (by omega),if_neg (by omega)]
  rw [e]
  refine aps Tryz.func19 ?_
  intro s
  refine wr ?_
  all_goals rfl
def B38 (Γ:Nat→AV):Prop:=Γ 1=.cptr (B9p.map .str)
theorem D4d (hK:B38 Γ) (op:Int) (h:6≤op∧op≤16):A5 Tryz.prog Γ 119 [.int .i64 op] fun v=>v=.str (A4o op):=by
 rcases A5m h with rfl|rfl|rfl|rfl|rfl|rfl|rfl|rfl|rfl|rfl|rfl
 all_goals
  refine aps Tryz.func119 ?_
  intro s
  refine wr ?_;(rw [A5a,hK]);refine wr ?_
  all_goals rfl
theorem D20 (x:Tr.Ex):A5 Tryz.prog Γ 118 [.agg (Tr.exA x)] fun v=>v=.bool (decide (x.1=1) && (decide (x.2.2.2.2.1.1=1) && decide (0≤x.2.2.2.2.1.2.1))):=by
 obtain ⟨op,a,b,nm,⟨vk,vi,vs,vb⟩,ln,cl⟩:=x
 simp only [Tr.exA]
 refine aps Tryz.func118 ?_
 intro s
 conv=>whnf
 intro b1 hb1
 have k_b1:=hb1
 repeat replace k_b1:=C0 k_b1
 conv=>whnf
 repeat' ((first|(refine brS (fun h=>?_) (fun h=>?_)<;>(try rw [h])<;>(try simp only [bN,bS,↓reduceIte] at h)<;>(try exact prc))|refine D3 ?_|refine gS ?_|refine aA ?_|refine nA ?_|fail)<;>(conv=>whnf))
 all_goals refine ⟨A6r,Tr.B2 ?_⟩
 all_goals simp [*]
theorem D0k {t j n:Nat} {l:List Tr.Ex} {T:Xt} (hj:j < l.length) (hlev:C9e (l.getD j Tr.H1).1=(T.lev:Int)) (hlen:T.txt.length≤1000000000000) (ht:A5 Tryz.prog Γ 73 [.slice t (l.map Tr.exA),.int .i64 (j:Int)] fun v=>v=.str T.txt) :
  A5 Tryz.prog Γ 117 [.slice t (l.map Tr.exA),.int .i64 (j:Int),.int .i64 (n:Int)] fun v=>v=.str (H6 n T).txt:=by
 have hml:(l.map Tr.exA).length=l.length:=List.length_map ..
 have hga:=Tr.C1 (f:=Tr.exA) (l:=l) Tr.H1 hj
 have hlv:=U1 (Γ:=Γ) (l.getD j Tr.H1).1
 rw [hlev] at hlv
 generalize l.getD j Tr.H1=x at *
 obtain ⟨op,a,b,nm,⟨vk,vi,vs,vb⟩,ln,cl⟩:=x
 simp only [Tr.exA] at hga
 simp only at hlv
 by_cases hlt:T.lev < n
 ·refine aps Tryz.func117 ?_
  intro s
  refine wr ?_
  all_goals (rw [show H6 n T=.par T from if_pos hlt];rfl)
 ·refine aps Tryz.func117 ?_
  intro s
  refine wr ?_
  all_goals (rw [show H6 n T=T from if_neg hlt];rfl)
section
variable {t i j k:Nat} {l:List Tr.Ex} {op a b:Int} {nm:List UInt8} {v:Tr.Vl} {ln cl:Int} {A B:List UInt8}
theorem D37 (hT:Qu.A1q Γ) (hN:Nu.A6y Γ) (hi:i < l.length) (hga:(l.map Tr.exA).getD i []=Tr.exA (1,a,b,nm,v,ln,cl)) (hv:Nu.V7 v.2.1) (hs:v.2.2.1.length≤1048576) :
  A5 Tryz.prog Γ 73 [.slice t (l.map Tr.exA),.int .i64 (i:Int)] fun x=>x=.str (Va.A9w v):=by
 have hml:(l.map Tr.exA).length=l.length:=List.length_map ..
 have htx:=Va.B2k hT hN v hv hs
 simp only [Tr.exA,Tr.vlA,Va.vlA] at hga htx
 refine aps Tryz.func73 ?_
 intro s
 refine wr ?_
 intro b1 hb1
 have k_b1:=hb1
 repeat replace k_b1:=C0 k_b1
 refine wr ?_;(first|(refine A0.pure' ?_ (U1 _);rintro _ rfl)|refine A8.pure ?_ (U1 _));refine wr ?_
 all_goals exact ⟨A6r,rfl⟩
theorem D38 (hi:i < l.length) (hga:(l.map Tr.exA).getD i []=Tr.exA (17,a,b,nm,v,ln,cl)) :
  A5 Tryz.prog Γ 73 [.slice t (l.map Tr.exA),.int .i64 (i:Int)] fun x=>x=.str nm:=by
 have hml:(l.map Tr.exA).length=l.length:=List.length_map ..
 simp only [Tr.exA,Tr.vlA] at hga
 refine aps Tryz.func73 ?_
 intro s
 refine wr ?_
 intro b1 hb1
 have k_b1:=hb1
 repeat replace k_b1:=C0 k_b1
 refine wr ?_;(first|(refine A0.pure' ?_ (U1 _);rintro _ rfl)|refine A8.pure ?_ (U1 _));refine wr ?_
 all_goals exact ⟨A6r,rfl⟩
theorem D4a (hi:i < l.length) (hga:(l.map Tr.exA).getD i []=Tr.exA (4,(j:Int),b,nm,v,ln,cl)) (hA:A.length≤1000000000000)
  (hw:A5 Tryz.prog Γ 117 [.slice t (l.map Tr.exA),.int .i64 (j:Int),.int .i64 ((3:Nat):Int)] fun v=>v=.str A) :
  A5 Tryz.prog Γ 73 [.slice t (l.map Tr.exA),.int .i64 (i:Int)] fun x=>x=.str ([110,111,116,32]++A):=by
 have hml:(l.map Tr.exA).length=l.length:=List.length_map ..
 simp only [Tr.exA,Tr.vlA] at hga
 refine aps Tryz.func73 ?_
 intro s
 refine wr ?_
 intro b1 hb1
 have k_b1:=hb1
 repeat replace k_b1:=C0 k_b1
 refine wr ?_;(first|(refine A0.pure' ?_ (U1 _);rintro _ rfl)|refine A8.pure ?_ (U1 _));refine wr ?_
 all_goals exact ⟨A6r,rfl⟩
theorem D39 (hi:i < l.length) (hj:j < l.length) (hga:(l.map Tr.exA).getD i []=Tr.exA (5,(j:Int),b,nm,v,ln,cl)) {q:Bool} (hA:A.length≤1000000000000) (hB:B.length≤1000000000000)
  (hp:A5 Tryz.prog Γ 118 [.agg ((l.map Tr.exA).getD j [])] fun v=>v=.bool q)
  (hw:A5 Tryz.prog Γ 117 [.slice t (l.map Tr.exA),.int .i64 (j:Int),.int .i64 ((9:Nat):Int)] fun v=>v=.str A)
  (hw7:A5 Tryz.prog Γ 117 [.slice t (l.map Tr.exA),.int .i64 (j:Int),.int .i64 ((7:Nat):Int)] fun v=>v=.str B) :
  A5 Tryz.prog Γ 73 [.slice t (l.map Tr.exA),.int .i64 (i:Int)] fun x=>x=.str ([45]++if q=true then A else B):=by
 have hml:(l.map Tr.exA).length=l.length:=List.length_map ..
 have hgj:=Tr.C1 (f:=Tr.exA) (l:=l) Tr.H1 hj
 rw [hgj] at hp
 generalize l.getD j Tr.H1=y at *
 simp only [Tr.exA,Tr.vlA] at hga hgj hp
 cases q
 all_goals
  refine aps Tryz.func73 ?_
  intro s
  refine wr ?_
  intro b1 hb1
  have k_b1:=hb1
  repeat replace k_b1:=C0 k_b1
  refine wr ?_;(first|(refine A0.pure' ?_ (U1 _);rintro _ rfl)|refine A8.pure ?_ (U1 _));refine wr ?_
  all_goals exact ⟨A6r,rfl⟩
theorem D36 (hK:B38 Γ) (hi:i < l.length) (hop:6≤op∧op≤16) (hga:(l.map Tr.exA).getD i []=Tr.exA (op,(j:Int),(k:Int),nm,v,ln,cl)) (hA:A.length≤1000000000000) (hB:B.length≤1000000000000)
  (hw:A5 Tryz.prog Γ 117 [.slice t (l.map Tr.exA),.int .i64 (j:Int),.int .i64 ((if lvl op=4 then 5 else lvl op:Nat):Int)] fun v=>v=.str A)
  (hw2:A5 Tryz.prog Γ 117 [.slice t (l.map Tr.exA),.int .i64 (k:Int),.int .i64 ((lvl op+1:Nat):Int)] fun v=>v=.str B) :
  A5 Tryz.prog Γ 73 [.slice t (l.map Tr.exA),.int .i64 (i:Int)] fun x=>x=.str (A++32::(A4o op++32::B)):=by
 have hml:(l.map Tr.exA).length=l.length:=List.length_map ..
 have htk:=D4d hK op hop
 have hs3:=B2h op
 simp only [Tr.exA,Tr.vlA] at hga
 have fin:A++[32]++A4o op++[32]++B=A++32::(A4o op++32::B):=by simp
 rw [← fin]
 rcases A5m hop with rfl|rfl|rfl|rfl|rfl|rfl|rfl|rfl|rfl|rfl|rfl
 all_goals
  refine aps Tryz.func73 ?_
  intro s
  refine wr ?_
  intro b1 hb1
  have k_b1:=hb1
  repeat replace k_b1:=C0 k_b1
  refine wr ?_;(first|(refine A0.pure' ?_ (U1 _);rintro _ rfl)|refine A8.pure ?_ (U1 _));refine wr ?_
  all_goals exact ⟨A6r,rfl⟩
end
theorem D5z {op:Int} (h:op=1∨op=17∨(4≤op∧op≤16)):C9e op=(lvl op:Int):=by
 unfold C9e
 split
 ·rename_i h1
  rcases h1 with rfl|rfl<;>rfl
 ·rw [if_pos (by omega)]
theorem D57 {T:Xt}:([45]++if T.bare=true then (H6 9 T).txt else (H6 7 T).txt)=(Xt.una 5 (if T.bare=true then .par T else H6 7 T)).txt:=by
 have hw:H6 9 T=.par T:=if_pos (D71 T)
 rw [hw]
 show _=[45]++(if T.bare=true then Xt.par T else H6 7 T).txt
 split<;>rfl
theorem A8v (hK:B38 Γ) (hT:Qu.A1q Γ) (hN:Nu.A6y Γ) (t:Nat) {l:List Tr.Ex} {m:Nat} (hl:P8 l m):∀ (k i f:Nat),i < k→i < f→i < l.length→0 < (ndN l i).1→A5 Tryz.prog Γ 73 [.slice t (l.map Tr.exA),.int .i64 (i:Int)] fun v=>v=.str (F5 l f i).txt
 | 0,i,f,h,_,_,_=>by omega
 | k+1,i,f,hk,hf,hi,hpos=>by
  obtain ⟨f,rfl⟩:∃ g,f=g+1:=⟨f - 1,by omega⟩
  have kid:∀ (j n:Nat),j < i→0 < (ndN l j).1→A5 Tryz.prog Γ 117 [.slice t (l.map Tr.exA),.int .i64 (j:Int),.int .i64 (n:Int)] fun v=>v=.str (H6 n (F5 l f j)).txt:=fun j n hj hp=>by
   have hF:=hl.fine (f:=f) (by omega) (by omega) hp
   have hS:=hl.short (f:=f) (by omega) (by omega) hp
   exact D0k (by omega) (by rw [D5z hF.op,hF.lev]) (by omega) (A8v hK hT hN t hl k j f (by omega) (by omega) (by omega) hp)
  have hga:=Tr.C1 (f:=Tr.exA) (l:=l) Tr.H1 hi
  rcases D64 hi hpos with ⟨v,ln,cl,hx,hv,_⟩|⟨s,ln,cl,hx,hs,_⟩|⟨op,ln,cl,hop,hx,h1,hp,_⟩|⟨op,j,ln,cl,hop,hx,hj,hp,hq,_,_⟩
  ·rw [hx] at hga
   have hmem:=hl.val _ (hx ▸ Tr.E4 Tr.H1 hi)
   have hhi:=hl.hi
   rw [B66 hx,show (Xt.con v).txt=Va.A9w v from (A0u hv hmem.1).2.2]
   exact D37 hT hN hi hga hmem.1 (Nat.le_trans hmem.2 (by omega))
  ·rw [hx] at hga
   rw [B67 hx]
   exact D38 hi hga
  ·rw [hx] at hga
   rcases hop with rfl|rfl
   ·rw [B69 hx]
    exact D4a hi hga (hl.wrap (f:=f) (by omega) (by omega) hp) (kid (i - 1) 3 (by omega) hp)
   ·rw [B68 hx,← D57]
    have hF:=hl.fine (f:=f) (i:=i - 1) (by omega) (by omega) hp
    have hpl:=D20 (Γ:=Γ) (l.getD (i - 1) Tr.H1)
    rw [← hF.bare,← Tr.C1 (f:=Tr.exA) (l:=l) Tr.H1 (show i - 1 < l.length by omega)] at hpl
    exact D39 hi (by omega) hga (hl.wrap (f:=f) (by omega) (by omega) hp) (hl.wrap (f:=f) (by omega) (by omega) hp) hpl (kid (i - 1) 9 (by omega) hp) (kid (i - 1) 7 (by omega) hp)
  ·rw [hx] at hga
   rw [B65 hop hx]
   exact D36 hK hi hop hga (hl.wrap (f:=f) (by omega) (by omega) hq) (hl.wrap (f:=f) (by omega) (by omega) hp) (kid j _ (by omega) hq) (kid (i - 1) _ (by omega) hp)
section
variable {t i j k:Nat} {l:List Tr.Ex} {op a b:Int} {nm:List UInt8} {v:Tr.Vl} {ln cl:Int} {A B:List UInt8}
theorem D8s (hi:i < l.length) (hj:j < l.length) (hga:(l.map Tr.exA).getD i []=Tr.exA (5,(j:Int),b,nm,v,ln,cl)) {y:Tr.Ex} (hy:l.getD j Tr.H1=y) (hA:A.length≤1000000000000) (hB:B.length≤1000000000000)
  (hw:A5 Tryz.prog Γ 101 [.slice t (l.map Tr.exA),.int .i64 (j:Int)] fun v=>v=.str A)
  (hw7:A5 Tryz.prog Γ 151 [.slice t (l.map Tr.exA),.int .i64 (j:Int),.int .i64 ((7:Nat):Int)] fun v=>v=.str B) :
  A5 Tryz.prog Γ 101 [.slice t (l.map Tr.exA),.int .i64 (i:Int)] fun x=>x=.str (if (decide (y.1=1) && (decide (y.2.2.2.2.1.1=1) && decide (0≤y.2.2.2.2.1.2.1)))=true then [45,40]++A++[41] else [45]++B):=by
 have hml:(l.map Tr.exA).length=l.length:=List.length_map ..
 have hgj:=Tr.C1 (f:=Tr.exA) (l:=l) Tr.H1 hj
 rw [hy] at hgj
 obtain ⟨yo,ya,yb,yn,⟨yk,yi,ys,yt⟩,yl,yc⟩:=y
 simp only [Tr.exA,Tr.vlA] at hga hgj
 simp only
 refine aps Tryz.func101 ?_
 intro s
 refine wr ?_
 intro b1 hb1
 have k_b1:=hb1
 repeat replace k_b1:=C0 k_b1
 refine wr ?_
 intro b2 hb2
 have k_b2:=hb2
 repeat replace k_b2:=C0 k_b2
 have n_b1_b2:b1≠b2:=by (have k:=hb2;repeat (first|exact A7s k|replace k:=C0 k))
 have n_b2_b1:=n_b1_b2.symm
 conv=>whnf
 repeat' ((first|(refine brS (fun h=>?_) (fun h=>?_)<;>(try rw [h])<;>(try simp only [bN,bS,↓reduceIte] at h)<;>(try exact prc))|refine D3 ?_|(refine A0.pure' ?_ (hw);rintro _ rfl)|refine A8.pure ?_ (hw)|(refine A0.pure' ?_ (hw7);rintro _ rfl)|refine A8.pure ?_ (hw7)|refine gS ?_|refine aA ?_|refine nA ?_|fail)<;>(conv=>whnf))
 all_goals refine ⟨A6r,congrArg AV.str ?_⟩
 all_goals simp [*]
end
def dpI (l:List Tr.Ex) (at_:Int):Int:=if 0≤at_∧at_ < l.length then (ndN l at_.toNat).2 else 0
theorem D1e (hW:Sc.Wds Γ) (t:Nat) (l:List Tr.Ex) (hl:l.length≤1000000) (at_:Int):A5 Tryz.prog Γ 72 [.slice t (l.map Tr.exA),.int .i64 at_] fun v=>v=.int .i64 (dpI l at_):=by
 have hml:(l.map Tr.exA).length=l.length:=List.length_map ..
 have hsz:=Tr.C38 (Γ:=Γ) Sc.C4 t l hl (fun x _=>Sc.P2 hW x.2.2.2.1)
 clear hW
 by_cases h:0≤at_∧at_ < l.length
 ·have e:dpI l at_=(ndN l at_.toNat).2:=if_pos h
  have hcol:=Tr.A54 (f:=Prod.snd) rfl (r:=Tr.tab Sc.C4 l l.length) (n:=l.length) (j:=at_.toNat) (m:=0+at_.toNat * 1) (by omega) (by rw [Tr.A1k];omega) (by omega)
  rw [e]
  refine aps Tryz.func72 ?_
  intro s
  conv=>whnf
  repeat' ((first|(refine brS (fun h=>?_) (fun h=>?_)<;>(try rw [h])<;>(try simp only [bN,bS,↓reduceIte] at h)<;>(try exact prc))|refine gS ?_|refine aA ?_|refine nA ?_|fail)<;>(conv=>whnf))
  refine A0.by (hsz _) ?_
  rintro v s' ⟨b1,b2,rfl,hz⟩
  conv=>whnf
  repeat' ((first|(refine brS (fun h=>?_) (fun h=>?_)<;>(try rw [h])<;>(try simp only [bN,bS,↓reduceIte] at h)<;>(try exact prc))|(refine A4 hz.depth (Tr.A3t hcol ?_))|refine gS ?_|refine aA ?_|refine nA ?_|fail)<;>(conv=>whnf))
  all_goals exact ⟨hz.sub,rfl⟩
 ·have e:dpI l at_=0:=if_neg h
  rw [e]
  clear hsz
  refine aps Tryz.func72 ?_
  intro s
  conv=>whnf
  repeat' ((first|(refine brS (fun h=>?_) (fun h=>?_)<;>(try rw [h])<;>(try simp only [bN,bS,↓reduceIte] at h)<;>(try exact prc))|refine gS ?_|refine aA ?_|refine nA ?_|fail)<;>(conv=>whnf))
  all_goals rfl
def C2j (l:List Tr.Ex) (at_:Int):List UInt8:=if dpI l at_=0∨64 < dpI l at_ then [] else (F5 l (at_.toNat+1) at_.toNat).txt
theorem D7l {l:List Tr.Ex} {at_:Int} (h:dpI l at_≠0):0≤at_∧at_.toNat < l.length∧0 < (ndN l at_.toNat).1:=by
 unfold dpI at h
 split at h
 ·rename_i hh
  refine ⟨hh.1,by omega,?_⟩
  have hb:=A8p (l:=l) (i:=at_.toNat) (by omega)
  have hz:=fun h0=>D56 (l:=l) (i:=at_.toNat) (by omega) h0
  omega
 ·exact absurd rfl h
theorem C0j (hK:B38 Γ) (hT:Qu.A1q Γ) (hN:Nu.A6y Γ) (hW:Sc.Wds Γ) (t:Nat) {l:List Tr.Ex} {m:Nat} (hl:P8 l m) (at_:Int):A5 Tryz.prog Γ 18 [.slice t (l.map Tr.exA),.int .i64 at_] fun v=>v=.str (C2j l at_):=by
 have hd:=D1e hW t l hl.len at_
 by_cases h:dpI l at_=0∨64 < dpI l at_
 ·rw [show C2j l at_=[] from if_pos h]
  refine aps Tryz.func18 ?_
  intro s
  refine wr ?_
  all_goals rfl
 ·obtain ⟨h1,h2,h3⟩:=D7l (fun e=>h (.inl e))
  have htx:=A8v hK hT hN t hl (at_.toNat+1) at_.toNat (at_.toNat+1) (by omega) (by omega) h2 h3
  rw [show ((at_.toNat:Nat):Int)=at_ by omega] at htx
  rw [show C2j l at_=(F5 l (at_.toNat+1) at_.toNat).txt from if_neg h]
  clear hK hT hN hW
  refine aps Tryz.func18 ?_
  intro s
  refine wr ?_
  all_goals rfl
def exS:List UInt8:=[40,97,43,50,41,32,42,32,45,40,51,41]
def exO:List Ex:=[{ ex0 with op:=17,name:=[97],ln:=1,cl:=2 },{ ex0 with op:=1,vk:=1,vi:=2,ln:=1,cl:=4 },{ ex0 with op:=8,a:=0,b:=1,ln:=1,cl:=3 },{ ex0 with op:=1,vk:=1,vi:=3,ln:=1,cl:=11 },{ ex0 with op:=5,a:=3,ln:=1,cl:=9 },{ ex0 with op:=10,a:=2,b:=4,ln:=1,cl:=7 }]
def C8u:List Tr.Ex:=[(17,0,0,[97],Tr.R3,1,2),(1,0,0,[],(1,2,[],false),1,4),(8,0,1,[],Tr.R3,1,3),(1,0,0,[],(1,3,[],false),1,11),(5,3,0,[],Tr.R3,1,9),(10,2,4,[],Tr.R3,1,7)]
theorem D5i:A1s exS B8u=.ok exO:=by kernel_rfl
theorem D5j:J9 exO=C8u.map Tr.exA:=by rfl
theorem C8v:P8 C8u 40:=⟨by decide,by decide,by decide,fun x hx=>by
 simp only [C8u,List.mem_cons,List.not_mem_nil,or_false] at hx
 rcases hx with rfl|rfl|rfl|rfl|rfl|rfl<;>exact ⟨⟨by decide,by decide⟩,by decide⟩⟩
theorem D5h:dpI C8u 5=3:=by kernel_rfl
theorem D5l:F5 C8u 6 5=.bin 10 (.par (.bin 8 (.nam [97]) (.con (1,2,[],false)))) (.una 5 (.par (.con (1,3,[],false)))):=by kernel_rfl
theorem C20 (u:Nat) (h:u < 10):Lib.itoa (u:Int)=[UInt8.ofNat (48+u)]:=by rw [Lib.itoa_nonneg,Nu.D46 h]
theorem D5k:C2j C8u 5=[40,97,32,43,32,50,41,32,42,32,45,40,51,41]:=by
 unfold C2j
 rw [D5h,if_neg (by decide),show (5:Int).toNat+1=6 from rfl,show (5:Int).toNat=5 from rfl,D5l]
 show (40::(([97]++32::([43]++32::Lib.itoa ((2:Nat):Int)))++[41]))++32::([42]++32::([45]++40::(Lib.itoa ((3:Nat):Int)++[41])))=_
 rw [C20 2 (by decide),C20 3 (by decide)]
 rfl
theorem C15 (hK:B38 Γ) (hT:Qu.A1q Γ) (hN:Nu.A6y Γ) (hW:Sc.Wds Γ) (hO:AsO.A4b Γ) (hE:AsP.A4b Γ) (hR:Nu.Z8 Γ):A5 Tryz.prog Γ 6 [] fun v=>v=.bool true:=by
 have h1:=D1i hT hW hO hE hR exS (by decide) (fun L hL=>A8e hL)
 rw [D5i] at h1
 simp only [D1h,D5j] at h1
 have h2:=C0j hK hT hN hW 0 C8v 5
 rw [D5k] at h2
 clear hK hT hN hW hO hE hR
 refine aps Tryz.func6 ?_
 intro s
 refine wr ?_
 intro b2 hb2
 have k_b2:=hb2
 repeat replace k_b2:=C0 k_b2
 refine wr ?_;(refine M5.of Y8 U4 ?_);refine wr ?_;(first|(refine A0.pure' ?_ (U1 _);rintro _ rfl)|refine A8.pure ?_ (U1 _));refine wr ?_
 all_goals exact ⟨A6r,by kernel_rfl⟩
end Go.Proofs.YticnkpgmmpenlaaGreatDoor.Pr
namespace Go.Proofs.YticnkpgmmpenlaaGreatDoor.Nu
open Go Go.Ab Go.RowKit
variable {Γ:Nat→AV}
attribute [local irreducible] A5 Sto.set Sto.grow
theorem C9t (l:List UInt8):V7 (A9q l):=by
 unfold V7
 by_cases hf:A08 l=true
 ·obtain ⟨e1,_⟩:=B0w hf
  rw [e1]
  split
  ·split<;>omega
  ·split<;>omega
 ·have:A9q l=0:=by unfold A9q;rw [if_neg hf]
  omega
theorem C9s {l:List UInt8} (h:A1g l=0):A08 l=true:=by
 unfold A1g at h
 cases hf:A08 l
 ·rw [hf] at h;cases h
 ·rfl
end Go.Proofs.YticnkpgmmpenlaaGreatDoor.Nu
