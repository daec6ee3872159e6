/- Part 8 of what the closing text needs: TrX, TrY, PqT, Ha1, Er2. No condition of mine beyond those that the theorems name. -/
import Derived.Test.YticnkpgmmpenlaaGreatDoorG7
import Derived.LaidHandle
import Derived.LaidLaws
import Derived.Lay
import Derived.Stop.LaidErr
set_option maxRecDepth 10000
set_option maxHeartbeats 60000000
set_option linter.all false
namespace Go.Proofs.YticnkpgmmpenlaaGreatDoor.Tr
open Go Go.Ab Go.RowKit
variable {Γ:Nat→AV}
attribute [local irreducible] B7 Sto.set Sto.grow
theorem S6 {α β:Type} {A:β→List AV} {f:α→β} (h:∀ x,fgL (A (f x))=A (f x)):∀ l:List α,fgE ((l.map f).map A)=(l.map f).map A
 | []=>by rw [List.map_nil,List.map_nil,A8o]
 | x::l=>by rw [List.map_cons,List.map_cons,fgE,h,S6 h l]
theorem C9w {s s':Sto} {z:Bool} {t:Nat} {e:TypeId} {k:Nat} (h:Own s s' z t e k) (t1:Nat) (e1:TypeId) (k1:Nat):Own s (s'.grow 1 t1 e1 k1) z t e k :=
 ⟨h.sub.grow (.inl rfl) t1 e1 k1,h.own.imp id fun x=>⟨x.1,by unfold Sto.grow;exact .inr ⟨x.2.1,.inr rfl⟩,x.2.2⟩⟩
theorem B52 {s s':Sto} {z1:Bool} {t1 t2 t':Nat} {e1 e2:TypeId} {k1 k2:Nat} (h1:Own s s' z1 t1 e1 k1) (hne:t1=1∨t1≠t2) (h2:t2=1∨∀ e k,¬ s.lv t2 e k) (hf:t'≠t2→∀ e' k',¬ s'.lv t' e' k') :
  Own s (s'.grow t2 t' e2 k2) z1 t1 e1 k1∧(t1=1∨t1≠t'):=by
 refine ⟨⟨h1.sub.grow h2 t' e2 k2,?_⟩,?_⟩
 ·rcases h1.own with h|⟨ha,hb,hc⟩
  ·exact .inl h
  ·refine .inr ⟨ha,?_,hc⟩
   unfold Sto.grow
   exact .inr ⟨hb,.inl (hne.resolve_left ha)⟩
 ·rcases h1.own with h|⟨ha,hb,hc⟩
  ·exact .inl h.1
  ·refine .inr fun he=>?_
   by_cases ht:t'=t2
   ·exact hne.resolve_left ha (he.trans ht)
   ·exact hf ht _ _ (he ▸ hb)
theorem B9c {s s':Sto} {z:Bool} {t:Nat} {e:TypeId} {k:Nat} (h:Own s s' z t e k):t=1∨∀ e k,¬ s.lv t e k:=h.own.imp (·.1) (·.2.2)
theorem B5b (a b:List (List AV)):fgE (a++b)=fgE a++fgE b:=by
 induction a with
 | nil=>rw [A8o,List.nil_append,List.nil_append]
 | cons x a ih=>rw [List.cons_append,fgE,fgE,ih,List.cons_append]
theorem C6p (e:List AV):fgE [e]=[fgL e]:=by unfold fgE;rw [A8o]
theorem D1o (l:List Int):fgE (G6 .i64 l)=G6 .i64 l:=A4t (A:=fun n=>[AV.int .i64 n]) (fun _=>rfl) l
theorem D1s (t:Nat) (x:Nat × De):fgL (deA (t,P7 x.2.1,x.2.2))=deA (V8 x):=by
 show fgL [_,_,_,.slice t (G6 .i64 x.2.2)]=_
 simp only [fgL,fg,D1o]
 rfl
theorem D88 (x:Nat × Sy):fgL (syA (A2v x))=syA (A2v x):=by
 show fgL [_,.slice 0 ((x.2.2.1.map A1s).map arA),_,_]=_
 simp only [fgL,fg]
 rw [S6 (A:=arA) (f:=A1s) (fun _=>rfl)]
 rfl
theorem D1t (t2 t3:Nat) (x:(Nat × Nat × Nat) × Tn):fgL (tnA ((0,t2,t3),(Y1 x).2))=tnA (Y1 x):=by
 show fgL [_,_,_,_,_,_,_,.slice 0 ((x.2.2.2.1.2.1.map A1s).map arA),_,_,.slice t2 ((x.2.2.2.2.1.map A5c).map exA),_,.slice t3 ((x.2.2.2.2.2.2.map A4h).map seA)]=_
 simp only [fgL,fg]
 rw [S6 (A:=arA) (f:=A1s) (fun _=>rfl),S6 (A:=exA) (f:=A5c) (fun _=>rfl),S6 (A:=seA) (f:=A4h) (fun _=>rfl)]
 rfl
theorem ez (z:Bool) (y:List AV):(z && [y].isEmpty)=false:=by cases z<;>rfl
theorem A1l {s s':Sto} {z:Bool} {t:Nat} {e:TypeId} {k i:Nat} {y:List AV} (h:Own s s' (z && [y].isEmpty) t e k):Own s s' (i+1 == 0) t e k:=by
 rw [ez] at h
 rwa [show (i+1 == 0)=false by simp]
theorem F1 (x:Idn):B7 Tryz.prog Γ 67 [.agg (V7 x)] fun v=>v=.agg (V7 (P7 x)):=by
 refine aps Tryz.func67 ?_
 intro s
 conv=>whnf
 intro b hb
 refine wr ?_
 intro c hc
 conv=>whnf
 have n_b_c:b≠c:=A8 bxa hc
 have n_c_b:=n_b_c.symm
 have hc':=(D7 hc).2
 refine wr ?_
 refine ⟨by (repeat (first|exact Sub.refl _|refine Sub.set ?_ hb _ _|refine Sub.set ?_ hc' _ _)),rfl⟩
theorem A6w (x:Nat × Sy) (hx:x.2.2.1.length≤100000):B7 Tryz.prog Γ 68 [.agg (syA x)] fun v=>v=.agg (syA (A2v x)):=by
 have hlx:(x.2.2.1.map arA).length=x.2.2.1.length:=List.length_map ..
 refine B7.fgt fun s=>?_
 refine acs Tryz.func68 ?_
 conv=>whnf
 intro b hb
 conv=>whnf
 intro b2 hb2
 have n_b_b2:b≠b2:=A8 bxa hb2
 have n_b2_b:=n_b_b2.symm
 refine wr ?_
 intro bo hbo
 have n_b_bo:b≠bo:=A8 bxa hbo
 have n_bo_b:=n_b_bo.symm
 have n_b2_bo:b2≠bo:=A8 bxa hbo
 have n_bo_b2:=n_b2_bo.symm
 refine wr ?_
 have g2:=(D7 hb2).2
 have g3:s.bx bo=none:=by (have g:=hbo;(repeat (replace g:=(D7 g).2));exact g)
 refine AWp.loopA [4] [8,9,10,11,12,15,16,17,18,19,20,21,22,23,24,25,26,27,28,29,30,31,32,33,34,35,36,37,38,13,14] (fun a:Nat × Nat=>[.int .i64 a.1]) (fun a s'=>a.1≤x.2.2.1.length∧s'.bx b=some (39,syA x)∧s'.bx b2=some (39,syA (1,[],[],0,0))∧s'.bx bo=some (39,[.str x.2.1,.slice a.2 (((x.2.2.1.take a.1).map A1s).map arA),.int .i64 0,.int .i64 0])∧Own s s' (a.1 == 0) a.2 93 8) (fun a=>x.2.2.1.length - a.1) ((0,1)) (by kernel_rfl) (eqa) ?_ ?_
 ·exact ⟨by simp,bxa,bxa,bxa,Own.start (by (repeat (first|exact Sub.refl _|refine Sub.set ?_ (by assumption) _ _))) _ _⟩
 ·rintro y ⟨i,t1⟩ s1 ⟨hi,h1,h2,h3,ho⟩
  simp only at hi h3 ho
  conv=>whnf
  have hga:=fun h:i < x.2.2.1.length=>C4 (f:=arA) (l:=x.2.2.1) A02 h
  have htk:=fun h:i < x.2.2.1.length=>M9 (f:=A1s) (A:=arA) A02 h
  generalize x.2.2.1.getD i A02=u at *
  repeat' ((first|(refine brS (fun h=>?_) (fun h=>?_)<;>(try rw [h])<;>(try simp only [bS,↓reduceIte] at h))|refine E9 ?_|(rw [show (x.2.2.1.map arA).getD ((i:Int)).toNat []=_ from hga (by omega)])|refine gS ?_|refine aA ?_|refine nA ?_|fail)<;>(conv=>whnf))
  ·have hlt:i < x.2.2.1.length:=by omega
   refine ⟨ho.may,fun c hc=>?_,all_cons ⟨rfl,rfl⟩ all_nil,?_,?_⟩
   ·obtain ⟨z,_,rfl⟩:=List.mem_map.1 hc;rfl
   ·show ((((x.2.2.1.take i).map A1s).map arA).length+1) * (_+1)≤_
    rw [List.length_map,List.length_map,List.length_take,Nat.min_eq_left (by omega)]
    exact Nat.le_trans (Nat.mul_le_mul_right _ (show i+1≤100001 by omega)) (Nat.le_of_ble_eq_true (by kernel_rfl))
   intro t' k1 k2
   have k3:=ho.grow k1 k2
   have f1:=(L8 (s:=s1) (t:=t1) (t':=t') (e:=93) (k:=8) (b:=b)).trans h1
   have f2:=(L8 (s:=s1) (t:=t1) (t':=t') (e:=93) (k:=8) (b:=b2)).trans h2
   have f3:=(L8 (s:=s1) (t:=t1) (t':=t') (e:=93) (k:=8) (b:=bo)).trans h3
   refine wr ?_
   refine ⟨(i+1,t'),eqa,C5,⟨by simp only;omega,bxa,bxa,?_,A1l (k3.set g3)⟩,by simp only;omega⟩
   rw [A7]
   show some (_,([.str x.2.1,.slice t' _,.int .i64 0,.int .i64 0]:List AV))=_
   rw [show (i+1,t').1=i+1 from rfl,htk hlt]
   rfl
  ·have ht:x.2.2.1.take i=x.2.2.1:=List.take_of_length_le (by omega)
   refine wr ?_
   refine ⟨_,Sub.refl _,?_,ho.sub.set g2 _ _⟩
   rw [ht]
   show fg (.agg [_,_,_,_])=.agg [_,.slice 0 ((x.2.2.1.map A1s).map arA),_,_]
   simp only [fg,fgL]
   rw [S6 (A:=arA) (f:=A1s) (fun _=>rfl)]
   rfl
theorem C3j (tk:Nat→Nat) (x:Tr0) (hx:A3b x):B7 Tryz.prog Γ 15 [.agg (trA tk x)] fun v=>v=.agg (trA (fun _=>0) (A6p x)):=by
 obtain ⟨⟨m1,m2,m3,m4,m5,m6⟩,m7,m8,m9⟩:=hx
 have l_deA:(x.2.1.map deA).length=x.2.1.length:=List.length_map ..
 have l_quA:(x.2.2.1.map quA).length=x.2.2.1.length:=List.length_map ..
 have l_frA:(x.2.2.2.1.map frA).length=x.2.2.2.1.length:=List.length_map ..
 have l_stA:(x.2.2.2.2.1.map stA).length=x.2.2.2.2.1.length:=List.length_map ..
 have l_syA:(x.2.2.2.2.2.2.1.map syA).length=x.2.2.2.2.2.2.1.length:=List.length_map ..
 have l_tnA:(x.2.2.2.2.2.2.2.map tnA).length=x.2.2.2.2.2.2.2.length:=List.length_map ..
 refine B7.fgt fun s=>?_
 refine acs Tryz.func15 ?_
 conv=>whnf
 intro b hb
 conv=>whnf
 intro b2 hb2
 have n_b_b2:b≠b2:=A8 bxa hb2
 have n_b2_b:=n_b_b2.symm
 refine wr ?_;(first|(refine A6.pure' ?_ (F1 x.1);rintro _ rfl)|refine C0.pure ?_ (F1 x.1));refine wr ?_;(first|(refine A6.pure' ?_ (F1 x.2.2.2.2.2.1);rintro _ rfl)|refine C0.pure ?_ (F1 x.2.2.2.2.2.1));refine wr ?_
 intro bo hbo
 have n_b_bo:b≠bo:=A8 bxa hbo
 have n_bo_b:=n_b_bo.symm
 have n_b2_bo:b2≠bo:=A8 bxa hbo
 have n_bo_b2:=n_b2_bo.symm
 refine wr ?_
 have g2:=(D7 hb2).2
 have g3:s.bx bo=none:=by (have g:=hbo;(repeat (replace g:=(D7 g).2));exact g)
 refine AWp.loopW [4] [24,25,26,27,28,31,32,33,34,35,36,37,38,39,40,41,42,43,44,45,46,47,48,49,50,51,29,30] (fun a:Nat × Nat=>[.int .i64 a.1]) (fun a s'=>a.1≤x.2.1.length∧s'.bx b=some (31,trA tk x)∧s'.bx b2=some (31,trA (fun _=>1) (J0,[],[],[],[],J0,[],[]))∧s'.bx bo=some (31,[.str x.1.1,.int .i64 0,.int .i64 0,.slice a.2 (((x.2.1.take a.1).map V8).map deA),.slice 1 [],.slice 1 [],.slice 1 [],.str x.2.2.2.2.2.1.1,.int .i64 0,.int .i64 0,.slice 1 [],.slice 1 []])∧Own s s' (a.1 == 0) a.2 54 4) (fun a=>x.2.1.length - a.1) ((0,1)) _ (by kernel_rfl) (by decide) (by (repeat' (first|exact LeS.nil|refine LeS.cons ?_ ?_|exact Le.refl _|(refine Le.of_eq ?_;first|exact rfl|(refine E3 ?_ ?_ ?_<;>omega)|fail)|fail))) (A2k.refl _) ?_ ?_
 ·exact ⟨by simp,bxa,bxa,bxa,Own.start (by (repeat (first|exact Sub.refl _|assumption|refine Sub.set ?_ (by assumption) _ _))) _ _⟩
 ·rintro y ⟨i,t1⟩ s1 ⟨hi,h1,h2,h3,ho⟩
  simp only at hi h3 ho
  conv=>whnf
  have hga:=fun h:i < x.2.1.length=>C4 (f:=deA) (l:=x.2.1) A0f h
  have htk:=fun h:i < x.2.1.length=>M9 (f:=V8) (A:=deA) A0f h
  have hmm:=fun h:i < x.2.1.length=>m7 _ (D9 A0f h)
  generalize x.2.1.getD i A0f=u at *
  by_cases hlt:i < x.2.1.length
  ·repeat' ((first|exact pru|(refine brS (fun h=>?_) (fun h=>?_)<;>(try rw [h])<;>(try simp only [bS,↓reduceIte] at h))|refine E9 ?_|(rw [show (x.2.1.map deA).getD ((i:Int)).toNat []=_ from hga (by omega)])|(refine A6.pure' ?_ (F1 u.2.1);rintro _ rfl)|refine C0.pure ?_ (F1 u.2.1)|refine gS ?_|refine aA ?_|refine nA ?_|fail)<;>(conv=>whnf))
   refine ⟨fun c hc=>?_,?_,?_⟩
   ·obtain ⟨z,_,rfl⟩:=List.mem_map.1 hc;exact ⟨rfl,rfl⟩
   ·have:=hmm hlt
    show (0+(u.2.2.map fun n=>[AV.int .i64 n]).length) * (_+1)≤_
    rw [List.length_map]
    exact Nat.le_trans (Nat.mul_le_mul_right _ (show 0+u.2.2.length≤100001 by omega)) (Nat.le_of_ble_eq_true (by kernel_rfl))
   intro t2 j1 j2
   have ho:=C9w ho t2 3 1
   have h1:=(L8 (s:=s1) (t:=1) (t':=t2) (e:=3) (k:=1) (b:=b)).trans h1
   have h2:=(L8 (s:=s1) (t:=1) (t':=t2) (e:=3) (k:=1) (b:=b2)).trans h2
   have h3:=(L8 (s:=s1) (t:=1) (t':=t2) (e:=3) (k:=1) (b:=bo)).trans h3
   refine wr ?_
   refine ⟨(ho).may,fun c hc=>?_,all_cons ⟨rfl,rfl⟩ all_nil,?_,?_⟩
   ·obtain ⟨z,_,rfl⟩:=List.mem_map.1 hc;rfl
   ·show (((((x.2.1.take i).map V8).map deA).length)+1) * (_+1)≤_
    rw [List.length_map,List.length_map,List.length_take,Nat.min_eq_left (by omega)]
    exact Nat.le_trans (Nat.mul_le_mul_right _ (show i+1≤100001 by omega)) (Nat.le_of_ble_eq_true (by kernel_rfl))
   intro t' k1 k2
   have k3:=(ho).grow k1 k2
   conv=>whnf
   repeat' ((first|(refine brS (fun h=>?_) (fun h=>?_)<;>(try rw [h])<;>(try simp only [bS,↓reduceIte] at h))|(refine W8 ?_)|refine E9 ?_|refine gS ?_|refine aA ?_|refine nA ?_|fail)<;>(conv=>whnf))
   refine ⟨(i+1,t'),(Sto.set _ bo 31 [.str x.1.1,.int .i64 0,.int .i64 0,.slice t' (((x.2.1.take (i+1)).map V8).map deA),.slice 1 [],.slice 1 [],.slice 1 [],.str x.2.2.2.2.2.1.1,.int .i64 0,.int .i64 0,.slice 1 [],.slice 1 []]),by (repeat' (first|exact LeS.nil|refine LeS.cons ?_ ?_|exact Le.refl _|(refine Le.of_eq ?_;first|exact rfl|(refine E3 ?_ ?_ ?_<;>omega)|fail)|fail)),C5,A2k.box A7 ?_,⟨by simp only;omega,bxa,bxa,A7,A1l (Own.set (k3.set g3) g3)⟩,by simp only;omega⟩
   refine LeL.cons (Le.refl _) (LeL.cons (Le.refl _) (LeL.cons (Le.refl _) (LeL.cons (Le.inner' ?_) (LeL.refl _))))
   rw [htk hlt]
   show fgE ((((x.2.1.take i).map V8).map deA)++[deA (t2,P7 u.2.1,u.2.2)])=_
   rw [B5b,C6p,D1s,S6 (A:=deA) (f:=V8) (fun z=>D1s 0 z)]
  ·have ht:x.2.1.take i=x.2.1:=List.take_of_length_le (by omega)
   refine wp ?_
   rw [ht] at h3
   refine AWp.weak (A2k.box (cs':=[.str x.1.1,.int .i64 0,.int .i64 0,.slice 0 ((x.2.1.map V8).map deA),.slice 1 [],.slice 1 [],.slice 1 [],.str x.2.2.2.2.2.1.1,.int .i64 0,.int .i64 0,.slice 1 [],.slice 1 []]) h3 (by (repeat' (first|exact LeL.nil|refine LeL.cons ?_ ?_|exact Le.refl _|exact Le.slice0 _ _|fail)))) ?_
   have hs2:=(ho.sub.set g3 31 ([.str x.1.1,.int .i64 0,.int .i64 0,.slice 0 ((x.2.1.map V8).map deA),.slice 1 [],.slice 1 [],.slice 1 [],.str x.2.2.2.2.2.1.1,.int .i64 0,.int .i64 0,.slice 1 [],.slice 1 []]))
   refine AWp.loopA [5] [52,53,54,55,56,59,60,61,62,63,6,64,65,66,67,68,69,70,71,72,73,74,75,76,57,58] (fun a:Nat × Nat=>[.int .i64 a.1]) (fun a s'=>a.1≤x.2.2.1.length∧s'.bx b=some (31,trA tk x)∧s'.bx b2=some (31,trA (fun _=>1) (J0,[],[],[],[],J0,[],[]))∧s'.bx bo=some (31,[.str x.1.1,.int .i64 0,.int .i64 0,.slice 0 ((x.2.1.map V8).map deA),.slice a.2 (((x.2.2.1.take a.1).map U9).map quA),.slice 1 [],.slice 1 [],.str x.2.2.2.2.2.1.1,.int .i64 0,.int .i64 0,.slice 1 [],.slice 1 []])∧Own s s' (a.1 == 0) a.2 75 5) (fun a=>x.2.2.1.length - a.1) ((0,1)) (by kernel_rfl) (eqa) ?_ ?_
   ·exact ⟨by simp,bxa,bxa,bxa,Own.start (by (repeat (first|exact Sub.refl _|assumption|refine Sub.set ?_ (by assumption) _ _))) _ _⟩
   ·clear hga htk
    rintro y ⟨i,t1⟩ s1 ⟨hi,h1,h2,h3,ho⟩
    simp only at hi h3 ho
    conv=>whnf
    have hga:=fun h:i < x.2.2.1.length=>C4 (f:=quA) (l:=x.2.2.1) A15 h
    have htk:=fun h:i < x.2.2.1.length=>M9 (f:=U9) (A:=quA) A15 h
    generalize x.2.2.1.getD i A15=u at *
    by_cases hlt:i < x.2.2.1.length
    ·repeat' ((first|exact pru|(refine brS (fun h=>?_) (fun h=>?_)<;>(try rw [h])<;>(try simp only [bS,↓reduceIte] at h))|refine E9 ?_|(rw [show (x.2.2.1.map quA).getD ((i:Int)).toNat []=_ from hga (by omega)])|(refine A6.pure' ?_ (F1 u.2.1);rintro _ rfl)|refine C0.pure ?_ (F1 u.2.1)|refine gS ?_|refine aA ?_|refine nA ?_|fail)<;>(conv=>whnf))
     intro c hc
     have n_b_c:b≠c:=A8 bxa hc
     have n_c_b:=n_b_c.symm
     have n_b2_c:b2≠c:=A8 bxa hc
     have n_c_b2:=n_b2_c.symm
     have n_bo_c:bo≠c:=A8 bxa hc
     have n_c_bo:=n_bo_c.symm
     conv=>whnf
     have gc:=ho.sub.none hc
     refine wr ?_;(first|(refine A6.pure' ?_ (F1 u.2.1);rintro _ rfl)|refine C0.pure ?_ (F1 u.2.1));refine wr ?_
     refine ⟨((ho.set gc).set gc).may,fun c hc=>?_,all_cons ⟨rfl,rfl⟩ all_nil,?_,?_⟩
     ·obtain ⟨z,_,rfl⟩:=List.mem_map.1 hc;rfl
     ·show (((((x.2.2.1.take i).map U9).map quA).length)+1) * (_+1)≤_
      rw [List.length_map,List.length_map,List.length_take,Nat.min_eq_left (by omega)]
      exact Nat.le_trans (Nat.mul_le_mul_right _ (show i+1≤100001 by omega)) (Nat.le_of_ble_eq_true (by kernel_rfl))
     intro t' k1 k2
     have k3:=((ho.set gc).set gc).grow k1 k2
     conv=>whnf
     repeat' ((first|(refine brS (fun h=>?_) (fun h=>?_)<;>(try rw [h])<;>(try simp only [bS,↓reduceIte] at h))|(refine W8 ?_)|refine E9 ?_|refine gS ?_|refine aA ?_|refine nA ?_|fail)<;>(conv=>whnf))
     refine ⟨(i+1,t'),eqa,C5,⟨by simp only;omega,bxa,bxa,A7.trans ?_,A1l (k3.set g3)⟩,by simp only;omega⟩
     show _=some (_,([.str x.1.1,.int .i64 0,.int .i64 0,.slice 0 ((x.2.1.map V8).map deA),.slice t' (((x.2.2.1.take (i+1)).map U9).map quA),.slice 1 [],.slice 1 [],.str x.2.2.2.2.2.1.1,.int .i64 0,.int .i64 0,.slice 1 [],.slice 1 []]:List AV))
     rw [htk hlt]
     rfl
    ·have ht:x.2.2.1.take i=x.2.2.1:=List.take_of_length_le (by omega)
     refine wp ?_
     rw [ht] at h3
     refine AWp.weak (A2k.box (cs':=[.str x.1.1,.int .i64 0,.int .i64 0,.slice 0 ((x.2.1.map V8).map deA),.slice 0 ((x.2.2.1.map U9).map quA),.slice 1 [],.slice 1 [],.str x.2.2.2.2.2.1.1,.int .i64 0,.int .i64 0,.slice 1 [],.slice 1 []]) h3 (by (repeat' (first|exact LeL.nil|refine LeL.cons ?_ ?_|exact Le.refl _|exact Le.slice0 _ _|fail)))) ?_
     have hs2:=(ho.sub.set g3 31 ([.str x.1.1,.int .i64 0,.int .i64 0,.slice 0 ((x.2.1.map V8).map deA),.slice 0 ((x.2.2.1.map U9).map quA),.slice 1 [],.slice 1 [],.str x.2.2.2.2.2.1.1,.int .i64 0,.int .i64 0,.slice 1 [],.slice 1 []]))
     refine AWp.loopA [7] [77,78,79,80,81,84,85,86,87,88,89,90,91,92,93,94,95,96,97,98,99,100,101,102,82,83] (fun a:Nat × Nat=>[.int .i64 a.1]) (fun a s'=>a.1≤x.2.2.2.1.length∧s'.bx b=some (31,trA tk x)∧s'.bx b2=some (31,trA (fun _=>1) (J0,[],[],[],[],J0,[],[]))∧s'.bx bo=some (31,[.str x.1.1,.int .i64 0,.int .i64 0,.slice 0 ((x.2.1.map V8).map deA),.slice 0 ((x.2.2.1.map U9).map quA),.slice a.2 (((x.2.2.2.1.take a.1).map Y0).map frA),.slice 1 [],.str x.2.2.2.2.2.1.1,.int .i64 0,.int .i64 0,.slice 1 [],.slice 1 []])∧Own s s' (a.1 == 0) a.2 58 7) (fun a=>x.2.2.2.1.length - a.1) ((0,1)) (by kernel_rfl) (eqa) ?_ ?_
     ·exact ⟨by simp,bxa,bxa,bxa,Own.start (by (repeat (first|exact Sub.refl _|assumption|refine Sub.set ?_ (by assumption) _ _))) _ _⟩
     ·clear hga htk
      rintro y ⟨i,t1⟩ s1 ⟨hi,h1,h2,h3,ho⟩
      simp only at hi h3 ho
      conv=>whnf
      have hga:=fun h:i < x.2.2.2.1.length=>C4 (f:=frA) (l:=x.2.2.2.1) A1d h
      have htk:=fun h:i < x.2.2.2.1.length=>M9 (f:=Y0) (A:=frA) A1d h
      generalize x.2.2.2.1.getD i A1d=u at *
      by_cases hlt:i < x.2.2.2.1.length
      ·repeat' ((first|exact pru|(refine brS (fun h=>?_) (fun h=>?_)<;>(try rw [h])<;>(try simp only [bS,↓reduceIte] at h))|refine E9 ?_|(rw [show (x.2.2.2.1.map frA).getD ((i:Int)).toNat []=_ from hga (by omega)])|(refine A6.pure' ?_ (F1 u.1);rintro _ rfl)|refine C0.pure ?_ (F1 u.1)|refine gS ?_|refine aA ?_|refine nA ?_|fail)<;>(conv=>whnf))
       refine ⟨(ho).may,fun c hc=>?_,all_cons ⟨rfl,rfl⟩ all_nil,?_,?_⟩
       ·obtain ⟨z,_,rfl⟩:=List.mem_map.1 hc;rfl
       ·show (((((x.2.2.2.1.take i).map Y0).map frA).length)+1) * (_+1)≤_
        rw [List.length_map,List.length_map,List.length_take,Nat.min_eq_left (by omega)]
        exact Nat.le_trans (Nat.mul_le_mul_right _ (show i+1≤100001 by omega)) (Nat.le_of_ble_eq_true (by kernel_rfl))
       intro t' k1 k2
       have k3:=(ho).grow k1 k2
       conv=>whnf
       repeat' ((first|(refine brS (fun h=>?_) (fun h=>?_)<;>(try rw [h])<;>(try simp only [bS,↓reduceIte] at h))|(refine W8 ?_)|refine E9 ?_|refine gS ?_|refine aA ?_|refine nA ?_|fail)<;>(conv=>whnf))
       refine ⟨(i+1,t'),eqa,C5,⟨by simp only;omega,bxa,bxa,A7.trans ?_,A1l (k3.set g3)⟩,by simp only;omega⟩
       show _=some (_,([.str x.1.1,.int .i64 0,.int .i64 0,.slice 0 ((x.2.1.map V8).map deA),.slice 0 ((x.2.2.1.map U9).map quA),.slice t' (((x.2.2.2.1.take (i+1)).map Y0).map frA),.slice 1 [],.str x.2.2.2.2.2.1.1,.int .i64 0,.int .i64 0,.slice 1 [],.slice 1 []]:List AV))
       rw [htk hlt]
       rfl
      ·have ht:x.2.2.2.1.take i=x.2.2.2.1:=List.take_of_length_le (by omega)
       refine wp ?_
       rw [ht] at h3
       refine AWp.weak (A2k.box (cs':=[.str x.1.1,.int .i64 0,.int .i64 0,.slice 0 ((x.2.1.map V8).map deA),.slice 0 ((x.2.2.1.map U9).map quA),.slice 0 ((x.2.2.2.1.map Y0).map frA),.slice 1 [],.str x.2.2.2.2.2.1.1,.int .i64 0,.int .i64 0,.slice 1 [],.slice 1 []]) h3 (by (repeat' (first|exact LeL.nil|refine LeL.cons ?_ ?_|exact Le.refl _|exact Le.slice0 _ _|fail)))) ?_
       have hs2:=(ho.sub.set g3 31 ([.str x.1.1,.int .i64 0,.int .i64 0,.slice 0 ((x.2.1.map V8).map deA),.slice 0 ((x.2.2.1.map U9).map quA),.slice 0 ((x.2.2.2.1.map Y0).map frA),.slice 1 [],.str x.2.2.2.2.2.1.1,.int .i64 0,.int .i64 0,.slice 1 [],.slice 1 []]))
       refine AWp.loopA [8] [103,104,105,106,107,110,111,112,113,114,9,115,116,117,118,119,120,121,122,123,124,125,126,127,108,109] (fun a:Nat × Nat=>[.int .i64 a.1]) (fun a s'=>a.1≤x.2.2.2.2.1.length∧s'.bx b=some (31,trA tk x)∧s'.bx b2=some (31,trA (fun _=>1) (J0,[],[],[],[],J0,[],[]))∧s'.bx bo=some (31,[.str x.1.1,.int .i64 0,.int .i64 0,.slice 0 ((x.2.1.map V8).map deA),.slice 0 ((x.2.2.1.map U9).map quA),.slice 0 ((x.2.2.2.1.map Y0).map frA),.slice a.2 (((x.2.2.2.2.1.take a.1).map A0q).map stA),.str x.2.2.2.2.2.1.1,.int .i64 0,.int .i64 0,.slice 1 [],.slice 1 []])∧Own s s' (a.1 == 0) a.2 84 5) (fun a=>x.2.2.2.2.1.length - a.1) ((0,1)) (by kernel_rfl) (eqa) ?_ ?_
       ·exact ⟨by simp,bxa,bxa,bxa,Own.start (by (repeat (first|exact Sub.refl _|assumption|refine Sub.set ?_ (by assumption) _ _))) _ _⟩
       ·clear hga htk
        rintro y ⟨i,t1⟩ s1 ⟨hi,h1,h2,h3,ho⟩
        simp only at hi h3 ho
        conv=>whnf
        have hga:=fun h:i < x.2.2.2.2.1.length=>C4 (f:=stA) (l:=x.2.2.2.2.1) A16 h
        have htk:=fun h:i < x.2.2.2.2.1.length=>M9 (f:=A0q) (A:=stA) A16 h
        generalize x.2.2.2.2.1.getD i A16=u at *
        by_cases hlt:i < x.2.2.2.2.1.length
        ·repeat' ((first|exact pru|(refine brS (fun h=>?_) (fun h=>?_)<;>(try rw [h])<;>(try simp only [bS,↓reduceIte] at h))|refine E9 ?_|(rw [show (x.2.2.2.2.1.map stA).getD ((i:Int)).toNat []=_ from hga (by omega)])|(refine A6.pure' ?_ (F1 u.1);rintro _ rfl)|refine C0.pure ?_ (F1 u.1)|refine gS ?_|refine aA ?_|refine nA ?_|fail)<;>(conv=>whnf))
         intro c hc
         have n_b_c:b≠c:=A8 bxa hc
         have n_c_b:=n_b_c.symm
         have n_b2_c:b2≠c:=A8 bxa hc
         have n_c_b2:=n_b2_c.symm
         have n_bo_c:bo≠c:=A8 bxa hc
         have n_c_bo:=n_bo_c.symm
         conv=>whnf
         have gc:=ho.sub.none hc
         refine wr ?_;(first|(refine A6.pure' ?_ (F1 u.1);rintro _ rfl)|refine C0.pure ?_ (F1 u.1));refine wr ?_
         refine ⟨((ho.set gc).set gc).may,fun c hc=>?_,all_cons ⟨rfl,rfl⟩ all_nil,?_,?_⟩
         ·obtain ⟨z,_,rfl⟩:=List.mem_map.1 hc;rfl
         ·show (((((x.2.2.2.2.1.take i).map A0q).map stA).length)+1) * (_+1)≤_
          rw [List.length_map,List.length_map,List.length_take,Nat.min_eq_left (by omega)]
          exact Nat.le_trans (Nat.mul_le_mul_right _ (show i+1≤100001 by omega)) (Nat.le_of_ble_eq_true (by kernel_rfl))
         intro t' k1 k2
         have k3:=((ho.set gc).set gc).grow k1 k2
         conv=>whnf
         repeat' ((first|(refine brS (fun h=>?_) (fun h=>?_)<;>(try rw [h])<;>(try simp only [bS,↓reduceIte] at h))|(refine W8 ?_)|refine E9 ?_|refine gS ?_|refine aA ?_|refine nA ?_|fail)<;>(conv=>whnf))
         refine ⟨(i+1,t'),eqa,C5,⟨by simp only;omega,bxa,bxa,A7.trans ?_,A1l (k3.set g3)⟩,by simp only;omega⟩
         show _=some (_,([.str x.1.1,.int .i64 0,.int .i64 0,.slice 0 ((x.2.1.map V8).map deA),.slice 0 ((x.2.2.1.map U9).map quA),.slice 0 ((x.2.2.2.1.map Y0).map frA),.slice t' (((x.2.2.2.2.1.take (i+1)).map A0q).map stA),.str x.2.2.2.2.2.1.1,.int .i64 0,.int .i64 0,.slice 1 [],.slice 1 []]:List AV))
         rw [htk hlt]
         rfl
        ·have ht:x.2.2.2.2.1.take i=x.2.2.2.2.1:=List.take_of_length_le (by omega)
         refine wp ?_
         rw [ht] at h3
         refine AWp.weak (A2k.box (cs':=[.str x.1.1,.int .i64 0,.int .i64 0,.slice 0 ((x.2.1.map V8).map deA),.slice 0 ((x.2.2.1.map U9).map quA),.slice 0 ((x.2.2.2.1.map Y0).map frA),.slice 0 ((x.2.2.2.2.1.map A0q).map stA),.str x.2.2.2.2.2.1.1,.int .i64 0,.int .i64 0,.slice 1 [],.slice 1 []]) h3 (by (repeat' (first|exact LeL.nil|refine LeL.cons ?_ ?_|exact Le.refl _|exact Le.slice0 _ _|fail)))) ?_
         have hs2:=(ho.sub.set g3 31 ([.str x.1.1,.int .i64 0,.int .i64 0,.slice 0 ((x.2.1.map V8).map deA),.slice 0 ((x.2.2.1.map U9).map quA),.slice 0 ((x.2.2.2.1.map Y0).map frA),.slice 0 ((x.2.2.2.2.1.map A0q).map stA),.str x.2.2.2.2.2.1.1,.int .i64 0,.int .i64 0,.slice 1 [],.slice 1 []]))
         refine AWp.loopA [10] [128,129,130,131,132,135,136,137,138,139,140,141,142,143,144,145,133,134] (fun a:Nat × Nat=>[.int .i64 a.1]) (fun a s'=>a.1≤x.2.2.2.2.2.2.1.length∧s'.bx b=some (31,trA tk x)∧s'.bx b2=some (31,trA (fun _=>1) (J0,[],[],[],[],J0,[],[]))∧s'.bx bo=some (31,[.str x.1.1,.int .i64 0,.int .i64 0,.slice 0 ((x.2.1.map V8).map deA),.slice 0 ((x.2.2.1.map U9).map quA),.slice 0 ((x.2.2.2.1.map Y0).map frA),.slice 0 ((x.2.2.2.2.1.map A0q).map stA),.str x.2.2.2.2.2.1.1,.int .i64 0,.int .i64 0,.slice a.2 (((x.2.2.2.2.2.2.1.take a.1).map A2v).map syA),.slice 1 []])∧Own s s' (a.1 == 0) a.2 39 4) (fun a=>x.2.2.2.2.2.2.1.length - a.1) ((0,1)) (by kernel_rfl) (eqa) ?_ ?_
         ·exact ⟨by simp,bxa,bxa,bxa,Own.start (by (repeat (first|exact Sub.refl _|assumption|refine Sub.set ?_ (by assumption) _ _))) _ _⟩
         ·clear hga htk
          rintro y ⟨i,t1⟩ s1 ⟨hi,h1,h2,h3,ho⟩
          simp only at hi h3 ho
          conv=>whnf
          have hga:=fun h:i < x.2.2.2.2.2.2.1.length=>C4 (f:=syA) (l:=x.2.2.2.2.2.2.1) Y9 h
          have htk:=fun h:i < x.2.2.2.2.2.2.1.length=>M9 (f:=A2v) (A:=syA) Y9 h
          have hmm:=fun h:i < x.2.2.2.2.2.2.1.length=>(by have:=m8 _ (D9 Y9 h);omega:(x.2.2.2.2.2.2.1.getD i Y9).2.2.1.length≤100000)
          generalize x.2.2.2.2.2.2.1.getD i Y9=u at *
          by_cases hlt:i < x.2.2.2.2.2.2.1.length
          ·refine wp ?_;(rw [show (x.2.2.2.2.2.2.1.map syA).getD ((i:Int)).toNat []=_ from hga (by omega)]);refine wp ?_;(first|(refine A6.pure' ?_ (A6w u (hmm hlt));rintro _ rfl)|refine C0.pure ?_ (A6w u (hmm hlt)));refine wp ?_
           refine ⟨(ho).may,fun c hc=>?_,all_cons ⟨rfl,rfl⟩ all_nil,?_,?_⟩
           ·obtain ⟨z,_,rfl⟩:=List.mem_map.1 hc;rfl
           ·show (((((x.2.2.2.2.2.2.1.take i).map A2v).map syA).length)+1) * (_+1)≤_
            rw [List.length_map,List.length_map,List.length_take,Nat.min_eq_left (by omega)]
            exact Nat.le_trans (Nat.mul_le_mul_right _ (show i+1≤100001 by omega)) (Nat.le_of_ble_eq_true (by kernel_rfl))
           intro t' k1 k2
           have k3:=(ho).grow k1 k2
           conv=>whnf
           repeat' ((first|(refine brS (fun h=>?_) (fun h=>?_)<;>(try rw [h])<;>(try simp only [bS,↓reduceIte] at h))|(refine W8 ?_)|refine E9 ?_|refine gS ?_|refine aA ?_|refine nA ?_|fail)<;>(conv=>whnf))
           refine ⟨(i+1,t'),eqa,C5,⟨by simp only;omega,bxa,bxa,A7.trans ?_,A1l (k3.set g3)⟩,by simp only;omega⟩
           show _=some (_,([.str x.1.1,.int .i64 0,.int .i64 0,.slice 0 ((x.2.1.map V8).map deA),.slice 0 ((x.2.2.1.map U9).map quA),.slice 0 ((x.2.2.2.1.map Y0).map frA),.slice 0 ((x.2.2.2.2.1.map A0q).map stA),.str x.2.2.2.2.2.1.1,.int .i64 0,.int .i64 0,.slice t' (((x.2.2.2.2.2.2.1.take (i+1)).map A2v).map syA),.slice 1 []]:List AV))
           rw [htk hlt]
           rfl
          ·have ht:x.2.2.2.2.2.2.1.take i=x.2.2.2.2.2.2.1:=List.take_of_length_le (by omega)
           refine wp ?_
           rw [ht] at h3
           refine AWp.weak (A2k.box (cs':=[.str x.1.1,.int .i64 0,.int .i64 0,.slice 0 ((x.2.1.map V8).map deA),.slice 0 ((x.2.2.1.map U9).map quA),.slice 0 ((x.2.2.2.1.map Y0).map frA),.slice 0 ((x.2.2.2.2.1.map A0q).map stA),.str x.2.2.2.2.2.1.1,.int .i64 0,.int .i64 0,.slice 0 ((x.2.2.2.2.2.2.1.map A2v).map syA),.slice 1 []]) h3 (by (repeat' (first|exact LeL.nil|refine LeL.cons ?_ ?_|exact Le.refl _|exact Le.slice0 _ _|fail)))) ?_
           have hs2:=(ho.sub.set g3 31 ([.str x.1.1,.int .i64 0,.int .i64 0,.slice 0 ((x.2.1.map V8).map deA),.slice 0 ((x.2.2.1.map U9).map quA),.slice 0 ((x.2.2.2.1.map Y0).map frA),.slice 0 ((x.2.2.2.2.1.map A0q).map stA),.str x.2.2.2.2.2.1.1,.int .i64 0,.int .i64 0,.slice 0 ((x.2.2.2.2.2.2.1.map A2v).map syA),.slice 1 []]))
           refine AWp.loopW [11] [146,147,148,149,150,153,154,155,156,157,12,158,159,160,161,162,163,164,165,166,167,168,169,13,14,170,171,172,173,174,177,178,179,180,181,15,182,183,184,185,186,187,188,189,190,191,192,193,194,195,196,197,175,176,16,198,199,200,201,202,205,206,207,208,209,210,211,212,213,214,215,216,217,218,219,220,221,222,223,203,204,224,225,226,227,228,229,151,152] (fun a:Nat × Nat=>[.int .i64 a.1]) (fun a s'=>a.1≤x.2.2.2.2.2.2.2.length∧s'.bx b=some (31,trA tk x)∧s'.bx b2=some (31,trA (fun _=>1) (J0,[],[],[],[],J0,[],[]))∧s'.bx bo=some (31,[.str x.1.1,.int .i64 0,.int .i64 0,.slice 0 ((x.2.1.map V8).map deA),.slice 0 ((x.2.2.1.map U9).map quA),.slice 0 ((x.2.2.2.1.map Y0).map frA),.slice 0 ((x.2.2.2.2.1.map A0q).map stA),.str x.2.2.2.2.2.1.1,.int .i64 0,.int .i64 0,.slice 0 ((x.2.2.2.2.2.2.1.map A2v).map syA),.slice a.2 (((x.2.2.2.2.2.2.2.take a.1).map Y1).map tnA)])∧Own s s' (a.1 == 0) a.2 43 13) (fun a=>x.2.2.2.2.2.2.2.length - a.1) ((0,1)) _ (by kernel_rfl) (by decide) (by (repeat' (first|exact LeS.nil|refine LeS.cons ?_ ?_|exact Le.refl _|(refine Le.of_eq ?_;first|exact rfl|(refine E3 ?_ ?_ ?_<;>omega)|fail)|fail))) (A2k.refl _) ?_ ?_
           ·exact ⟨by simp,bxa,bxa,bxa,Own.start (by (repeat (first|exact Sub.refl _|assumption|refine Sub.set ?_ (by assumption) _ _))) _ _⟩
           ·clear hga htk
            rintro y ⟨i,t1⟩ s1 ⟨hi,h1,h2,h3,ho⟩
            simp only at hi h3 ho
            conv=>whnf
            have hga:=fun h:i < x.2.2.2.2.2.2.2.length=>C4 (f:=tnA) (l:=x.2.2.2.2.2.2.2) U1 h
            have htk:=fun h:i < x.2.2.2.2.2.2.2.length=>M9 (f:=Y1) (A:=tnA) U1 h
            have hmm:=fun h:i < x.2.2.2.2.2.2.2.length=>m9 _ (D9 U1 h)
            generalize x.2.2.2.2.2.2.2.getD i U1=u at *
            by_cases hlt:i < x.2.2.2.2.2.2.2.length
            ·refine wp ?_;(rw [show (x.2.2.2.2.2.2.2.map tnA).getD ((i:Int)).toNat []=_ from hga (by omega)]);refine wp ?_
             intro c hc
             have n_b_c:b≠c:=A8 bxa hc
             have n_c_b:=n_b_c.symm
             have n_b2_c:b2≠c:=A8 bxa hc
             have n_c_b2:=n_b2_c.symm
             have n_bo_c:bo≠c:=A8 bxa hc
             have n_c_bo:=n_bo_c.symm
             conv=>whnf
             have gc:=ho.sub.none hc
             refine wr ?_
             have hub:u.2.2.2.1.2.1.length≤100000:=by have:=hmm hlt;omega
             refine wr ?_;(first|(refine A6.pure' ?_ (F1 u.2.1);rintro _ rfl)|refine C0.pure ?_ (F1 u.2.1));refine wr ?_;(first|(refine A6.pure' ?_ (F1 u.2.2.1);rintro _ rfl)|refine C0.pure ?_ (F1 u.2.2.1));refine wr ?_;(first|(refine A6.pure' ?_ (A6w (u.1.1,u.2.2.2.1) hub);rintro _ rfl)|refine C0.pure ?_ (A6w (u.1.1,u.2.2.2.1) hub));refine wr ?_
             intro d hd
             have n_c_d:c≠d:=A8 bxa hd
             have n_d_c:=n_c_d.symm
             have n_b_d:b≠d:=A8 bxa hd
             have n_d_b:=n_b_d.symm
             have n_b2_d:b2≠d:=A8 bxa hd
             have n_d_b2:=n_b2_d.symm
             have n_bo_d:bo≠d:=A8 bxa hd
             have n_d_bo:=n_bo_d.symm
             conv=>whnf
             have gd:s.bx d=none:=by (have g:=hd;(repeat (replace g:=(D7 g).2));exact ho.sub.none g)
             refine wr ?_
             have hmu:=hmm hlt
             have l_ex:(u.2.2.2.2.1.map exA).length=u.2.2.2.2.1.length:=List.length_map ..
             have l_se:(u.2.2.2.2.2.2.map seA).length=u.2.2.2.2.2.2.length:=List.length_map ..
             refine AWp.loopA [14] [170,171,172,173,174,177,178,179,180,181,15,182,183,184,185,186,187,188,189,190,191,192,193,194,195,196,197,175,176] (fun a:Nat × Nat=>[.int .i64 a.1]) (fun a s'=>a.1≤u.2.2.2.2.1.length∧s'.bx b=some (31,trA tk x)∧s'.bx b2=some (31,trA (fun _=>1) (J0,[],[],[],[],J0,[],[]))∧s'.bx bo=some (31,[.str x.1.1,.int .i64 0,.int .i64 0,.slice 0 ((x.2.1.map V8).map deA),.slice 0 ((x.2.2.1.map U9).map quA),.slice 0 ((x.2.2.2.1.map Y0).map frA),.slice 0 ((x.2.2.2.2.1.map A0q).map stA),.str x.2.2.2.2.2.1.1,.int .i64 0,.int .i64 0,.slice 0 ((x.2.2.2.2.2.2.1.map A2v).map syA),.slice t1 (((x.2.2.2.2.2.2.2.take i).map Y1).map tnA)])∧s'.bx c=some (43,tnA u)∧s'.bx d=some (43,[.str u.2.1.1,.int .i64 0,.int .i64 0,.str u.2.2.1.1,.int .i64 0,.int .i64 0,.str u.2.2.2.1.1,.slice 0 ((u.2.2.2.1.2.1.map A1s).map arA),.int .i64 0,.int .i64 0,.slice a.2 (((u.2.2.2.2.1.take a.1).map A5c).map exA),.int .i64 u.2.2.2.2.2.1,.slice 1 []])∧Own s s' (i == 0) t1 43 13∧(t1=1∨t1≠a.2)∧Own s s' (a.1 == 0) a.2 61 10) (fun a=>u.2.2.2.2.1.length - a.1) ((0,1)) (by kernel_rfl) (eqa) ?_ ?_
             ·exact ⟨by simp,bxa,bxa,bxa,bxa,bxa,(((ho.set gc).set gc).set gd).set gd,Decidable.em _,Own.start (by (repeat (first|exact ho.sub|refine Sub.set ?_ (by assumption) _ _))) _ _⟩
             ·clear hga
              rintro y ⟨j,t2⟩ s2 ⟨hj,q1,q2,q3,q4,q5,qo,qn,ro⟩
              simp only at hj q5 qn ro
              conv=>whnf
              have hga:=fun h:j < u.2.2.2.2.1.length=>C4 (f:=exA) (l:=u.2.2.2.2.1) G2 h
              have htk2:=fun h:j < u.2.2.2.2.1.length=>M9 (f:=A5c) (A:=exA) G2 h
              generalize hz:u.2.2.2.2.1.getD j G2=z at *
              by_cases hlt2:j < u.2.2.2.2.1.length
              ·refine wp ?_;(rw [show (u.2.2.2.2.1.map exA).getD ((j:Int)).toNat []=_ from hga (by omega)]);refine wp ?_
               intro c2 hc2
               have n_d_c2:d≠c2:=A8 bxa hc2
               have n_c2_d:=n_d_c2.symm
               have n_c_c2:c≠c2:=A8 bxa hc2
               have n_c2_c:=n_c_c2.symm
               have n_b_c2:b≠c2:=A8 bxa hc2
               have n_c2_b:=n_b_c2.symm
               have n_b2_c2:b2≠c2:=A8 bxa hc2
               have n_c2_b2:=n_b2_c2.symm
               have n_bo_c2:bo≠c2:=A8 bxa hc2
               have n_c2_bo:=n_bo_c2.symm
               conv=>whnf
               have gc2:=qo.sub.none hc2
               refine wr ?_
               refine ⟨((ro.set gc2).set gc2).may,fun c hc=>?_,all_cons ⟨rfl,rfl⟩ all_nil,?_,?_⟩
               ·obtain ⟨z,_,rfl⟩:=List.mem_map.1 hc;rfl
               ·show (((((u.2.2.2.2.1.take j).map A5c).map exA).length)+1) * (_+1)≤_
                rw [List.length_map,List.length_map,List.length_take,Nat.min_eq_left (by omega)]
                exact Nat.le_trans (Nat.mul_le_mul_right _ (show j+1≤100001 by omega)) (Nat.le_of_ble_eq_true (by kernel_rfl))
               intro t' k1 k2
               have k3:=((ro.set gc2).set gc2).grow k1 k2
               obtain ⟨k4,k5⟩:=B52 (t':=t') (e2:=61) (k2:=10) ((qo.set gc2).set gc2) qn (B9c (ro)) k2
               conv=>whnf
               repeat' ((first|(refine brS (fun h=>?_) (fun h=>?_)<;>(try rw [h])<;>(try simp only [bS,↓reduceIte] at h))|(refine W8 ?_)|refine E9 ?_|refine gS ?_|refine aA ?_|refine nA ?_|fail)<;>(conv=>whnf))
               refine ⟨(j+1,t'),eqa,C5,⟨by simp only;omega,bxa,bxa,bxa,bxa,A7.trans ?_,k4.set gd,k5,A1l (k3.set gd)⟩,by simp only;omega⟩
               show _=some (_,([.str u.2.1.1,.int .i64 0,.int .i64 0,.str u.2.2.1.1,.int .i64 0,.int .i64 0,.str u.2.2.2.1.1,.slice 0 ((u.2.2.2.1.2.1.map A1s).map arA),.int .i64 0,.int .i64 0,.slice t' (((u.2.2.2.2.1.take (j+1)).map A5c).map exA),.int .i64 u.2.2.2.2.2.1,.slice 1 []]:List AV))
               rw [htk2 hlt2]
               rfl
              ·have ht2:u.2.2.2.2.1.take j=u.2.2.2.2.1:=List.take_of_length_le (by omega)
               rw [ht2] at q5
               refine wp ?_
               have q5:=q5
               refine AWp.weak (A2k.box (cs':=[.str u.2.1.1,.int .i64 0,.int .i64 0,.str u.2.2.1.1,.int .i64 0,.int .i64 0,.str u.2.2.2.1.1,.slice 0 ((u.2.2.2.1.2.1.map A1s).map arA),.int .i64 0,.int .i64 0,.slice 0 ((u.2.2.2.2.1.map A5c).map exA),.int .i64 u.2.2.2.2.2.1,.slice 1 []]) q5 (by (repeat' (first|exact LeL.nil|refine LeL.cons ?_ ?_|exact Le.refl _|exact Le.slice0 _ _|fail)))) ?_
               refine AWp.loopA [16] [198,199,200,201,202,205,206,207,208,209,210,211,212,213,214,215,216,217,218,219,220,221,222,223,203,204] (fun a:Nat × Nat=>[.int .i64 a.1]) (fun a s'=>a.1≤u.2.2.2.2.2.2.length∧s'.bx b=some (31,trA tk x)∧s'.bx b2=some (31,trA (fun _=>1) (J0,[],[],[],[],J0,[],[]))∧s'.bx bo=some (31,[.str x.1.1,.int .i64 0,.int .i64 0,.slice 0 ((x.2.1.map V8).map deA),.slice 0 ((x.2.2.1.map U9).map quA),.slice 0 ((x.2.2.2.1.map Y0).map frA),.slice 0 ((x.2.2.2.2.1.map A0q).map stA),.str x.2.2.2.2.2.1.1,.int .i64 0,.int .i64 0,.slice 0 ((x.2.2.2.2.2.2.1.map A2v).map syA),.slice t1 (((x.2.2.2.2.2.2.2.take i).map Y1).map tnA)])∧s'.bx c=some (43,tnA u)∧s'.bx d=some (43,[.str u.2.1.1,.int .i64 0,.int .i64 0,.str u.2.2.1.1,.int .i64 0,.int .i64 0,.str u.2.2.2.1.1,.slice 0 ((u.2.2.2.1.2.1.map A1s).map arA),.int .i64 0,.int .i64 0,.slice 0 ((u.2.2.2.2.1.map A5c).map exA),.int .i64 u.2.2.2.2.2.1,.slice a.2 (((u.2.2.2.2.2.2.take a.1).map A4h).map seA)])∧Own s s' (i == 0) t1 43 13∧(t1=1∨t1≠a.2)∧Own s s' (a.1 == 0) a.2 119 4) (fun a=>u.2.2.2.2.2.2.length - a.1) ((0,1)) (by kernel_rfl) (eqa) ?_ ?_
               ·exact ⟨by simp,bxa,bxa,bxa,bxa,bxa,qo.set gd,Decidable.em _,Own.start (qo.sub.set gd _ _) _ _⟩
               ·clear hga
                rintro y ⟨j,t2⟩ s2 ⟨hj,q1,q2,q3,q4,q5,qo,qn,ro⟩
                simp only at hj q5 qn ro
                conv=>whnf
                have hga:=fun h:j < u.2.2.2.2.2.2.length=>C4 (f:=seA) (l:=u.2.2.2.2.2.2) W5 h
                have htk2:=fun h:j < u.2.2.2.2.2.2.length=>M9 (f:=A4h) (A:=seA) W5 h
                generalize hz:u.2.2.2.2.2.2.getD j W5=z at *
                by_cases hlt2:j < u.2.2.2.2.2.2.length
                ·repeat' ((first|exact pru|(refine brS (fun h=>?_) (fun h=>?_)<;>(try rw [h])<;>(try simp only [bS,↓reduceIte] at h))|refine E9 ?_|(rw [show (u.2.2.2.2.2.2.map seA).getD ((j:Int)).toNat []=_ from hga (by omega)])|(refine A6.pure' ?_ (F1 z.1);rintro _ rfl)|refine C0.pure ?_ (F1 z.1)|refine gS ?_|refine aA ?_|refine nA ?_|fail)<;>(conv=>whnf))
                 refine ⟨(ro).may,fun c hc=>?_,all_cons ⟨rfl,rfl⟩ all_nil,?_,?_⟩
                 ·obtain ⟨z,_,rfl⟩:=List.mem_map.1 hc;rfl
                 ·show (((((u.2.2.2.2.2.2.take j).map A4h).map seA).length)+1) * (_+1)≤_
                  rw [List.length_map,List.length_map,List.length_take,Nat.min_eq_left (by omega)]
                  exact Nat.le_trans (Nat.mul_le_mul_right _ (show j+1≤100001 by omega)) (Nat.le_of_ble_eq_true (by kernel_rfl))
                 intro t' k1 k2
                 have k3:=(ro).grow k1 k2
                 obtain ⟨k4,k5⟩:=B52 (t':=t') (e2:=119) (k2:=4) (qo) qn (B9c (ro)) k2
                 conv=>whnf
                 repeat' ((first|(refine brS (fun h=>?_) (fun h=>?_)<;>(try rw [h])<;>(try simp only [bS,↓reduceIte] at h))|(refine W8 ?_)|refine E9 ?_|refine gS ?_|refine aA ?_|refine nA ?_|fail)<;>(conv=>whnf))
                 refine ⟨(j+1,t'),eqa,C5,⟨by simp only;omega,bxa,bxa,bxa,bxa,A7.trans ?_,k4.set gd,k5,A1l (k3.set gd)⟩,by simp only;omega⟩
                 show _=some (_,([.str u.2.1.1,.int .i64 0,.int .i64 0,.str u.2.2.1.1,.int .i64 0,.int .i64 0,.str u.2.2.2.1.1,.slice 0 ((u.2.2.2.1.2.1.map A1s).map arA),.int .i64 0,.int .i64 0,.slice 0 ((u.2.2.2.2.1.map A5c).map exA),.int .i64 u.2.2.2.2.2.1,.slice t' (((u.2.2.2.2.2.2.take (j+1)).map A4h).map seA)]:List AV))
                 rw [htk2 hlt2]
                 rfl
                ·have ht2:u.2.2.2.2.2.2.take j=u.2.2.2.2.2.2:=List.take_of_length_le (by omega)
                 rw [ht2] at q5
                 refine wp ?_
                 refine ⟨qo.may,fun c hc=>?_,all_cons ⟨rfl,rfl⟩ all_nil,?_,?_⟩
                 ·obtain ⟨z,_,rfl⟩:=List.mem_map.1 hc;rfl
                 ·show (((((x.2.2.2.2.2.2.2.take i).map Y1).map tnA).length)+1) * (_+1)≤_
                  rw [List.length_map,List.length_map,List.length_take,Nat.min_eq_left (by omega)]
                  exact Nat.le_trans (Nat.mul_le_mul_right _ (show i+1≤100001 by omega)) (Nat.le_of_ble_eq_true (by kernel_rfl))
                 intro t' k1 k2
                 have k3:=qo.grow k1 k2
                 conv=>whnf
                 repeat' ((first|(refine brS (fun h=>?_) (fun h=>?_)<;>(try rw [h])<;>(try simp only [bS,↓reduceIte] at h))|(refine W8 ?_)|refine E9 ?_|refine gS ?_|refine aA ?_|refine nA ?_|fail)<;>(conv=>whnf))
                 refine ⟨(i+1,t'),(Sto.set _ bo 31 [.str x.1.1,.int .i64 0,.int .i64 0,.slice 0 ((x.2.1.map V8).map deA),.slice 0 ((x.2.2.1.map U9).map quA),.slice 0 ((x.2.2.2.1.map Y0).map frA),.slice 0 ((x.2.2.2.2.1.map A0q).map stA),.str x.2.2.2.2.2.1.1,.int .i64 0,.int .i64 0,.slice 0 ((x.2.2.2.2.2.2.1.map A2v).map syA),.slice t' (((x.2.2.2.2.2.2.2.take (i+1)).map Y1).map tnA)]),by (repeat' (first|exact LeS.nil|refine LeS.cons ?_ ?_|exact Le.refl _|(refine Le.of_eq ?_;first|exact rfl|(refine E3 ?_ ?_ ?_<;>omega)|fail)|fail)),C5,A2k.box A7 ?_,⟨by simp only;omega,bxa,bxa,A7,A1l (Own.set (k3.set g3) g3)⟩,by simp only;omega⟩
                 refine LeL.cons (Le.refl _) (LeL.cons (Le.refl _) (LeL.cons (Le.refl _) (LeL.cons (Le.refl _) (LeL.cons (Le.refl _) (LeL.cons (Le.refl _) (LeL.cons (Le.refl _) (LeL.cons (Le.refl _) (LeL.cons (Le.refl _) (LeL.cons (Le.refl _) (LeL.cons (Le.refl _) (LeL.cons (Le.inner' ?_) LeL.nil)))))))))))
                 rw [htk hlt]
                 show fgE ((((x.2.2.2.2.2.2.2.take i).map Y1).map tnA)++[tnA ((0,0,t2),(Y1 u).2)])=_
                 rw [B5b,C6p,D1t,S6 (A:=tnA) (f:=Y1) (fun z=>D1t 0 0 z)]
            ·have ht:x.2.2.2.2.2.2.2.take i=x.2.2.2.2.2.2.2:=List.take_of_length_le (by omega)
             refine wp ?_
             refine ⟨_,Sub.refl _,?_,ho.sub.set g2 _ _⟩
             rw [ht]
             show fg (.agg [_,_,_,.slice 0 ((x.2.1.map V8).map deA),.slice 0 ((x.2.2.1.map U9).map quA),.slice 0 ((x.2.2.2.1.map Y0).map frA),.slice 0 ((x.2.2.2.2.1.map A0q).map stA),_,_,_,.slice 0 ((x.2.2.2.2.2.2.1.map A2v).map syA),.slice t1 ((x.2.2.2.2.2.2.2.map Y1).map tnA)])=_
             simp only [fg,fgL]
             rw [S6 (A:=deA) (f:=V8) (fun z=>D1s 0 z),S6 (A:=quA) (f:=U9) (fun _=>rfl),S6 (A:=frA) (f:=Y0) (fun _=>rfl),S6 (A:=stA) (f:=A0q) (fun _=>rfl),S6 (A:=syA) (f:=A2v) D88,S6 (A:=tnA) (f:=Y1) (fun z=>D1t 0 0 z)]
             rfl
theorem C07 (tk:Nat→Nat) (x:Tr0) (hx:A3b x):B7 Tryz.prog Γ 14 [.agg (trA tk x)] fun v=>v=.agg (trA (fun _=>0) (A6p x)):=by
 obtain ⟨⟨m1,m2,m3,m4,m5,m6⟩,m7,m8,m9⟩:=hx
 refine aps Tryz.func14 ?_
 intro s
 conv=>whnf
 intro b hb
 conv=>whnf
 intro b2 hb2
 have n_b_b2:b≠b2:=A8 bxa hb2
 have n_b2_b:=n_b_b2.symm
 conv=>whnf
 have g2:=(D7 hb2).2
 repeat' ((first|(refine brS (fun h=>?_) (fun h=>?_)<;>(try rw [h])<;>(try simp only [bS,↓reduceIte] at h))|refine E9 ?_|(refine A6.pure' ?_ (G9 x.1);rintro _ rfl)|refine C0.pure ?_ (G9 x.1)|(refine A6.pure' ?_ (G9 x.2.2.2.2.2.1);rintro _ rfl)|refine C0.pure ?_ (G9 x.2.2.2.2.2.1)|(refine A6.pure' ?_ (B8k _ x.2.1 (by omega) (fun d h=>by have:=m7 d h;omega));rintro _ rfl)|refine C0.pure ?_ (B8k _ x.2.1 (by omega) (fun d h=>by have:=m7 d h;omega))|(refine A6.pure' ?_ (B8n _ x.2.2.1 (by omega));rintro _ rfl)|refine C0.pure ?_ (B8n _ x.2.2.1 (by omega))|(refine A6.pure' ?_ (B8m _ x.2.2.2.1 (by omega));rintro _ rfl)|refine C0.pure ?_ (B8m _ x.2.2.2.1 (by omega))|(refine A6.pure' ?_ (B8p _ x.2.2.2.2.1 (by omega));rintro _ rfl)|refine C0.pure ?_ (B8p _ x.2.2.2.2.1 (by omega))|(refine A6.pure' ?_ (B8q _ x.2.2.2.2.2.2.1 (by omega) (fun d h=>by have:=m8 d h;omega));rintro _ rfl)|refine C0.pure ?_ (B8q _ x.2.2.2.2.2.2.1 (by omega) (fun d h=>by have:=m8 d h;omega))|(refine A6.pure' ?_ (B8r _ x.2.2.2.2.2.2.2 (by omega) (fun d h=>by have:=m9 d h;exact ⟨by omega,by omega,by omega⟩));rintro _ rfl)|refine C0.pure ?_ (B8r _ x.2.2.2.2.2.2.2 (by omega) (fun d h=>by have:=m9 d h;exact ⟨by omega,by omega,by omega⟩))|refine gS ?_|refine aA ?_|refine nA ?_|fail)<;>(conv=>whnf))
 refine ⟨by (repeat (first|exact Sub.refl _|refine Sub.set ?_ (by assumption) _ _)),rfl⟩
end Go.Proofs.YticnkpgmmpenlaaGreatDoor.Tr
namespace Go.Proofs.YticnkpgmmpenlaaGreatDoor.Pr
open Go Go.Ab Go.RowKit Go.Proofs.YticnkpgmmpenlaaGreatDoor.Lx Go.Proofs.YticnkpgmmpenlaaGreatDoor.Pa
variable {Γ:Nat→AV}
attribute [local irreducible] B7 Sto.set Sto.grow
theorem D7q {x:Tr.Tr0} (hn:D0y x) (hb:Tr.A86 x=true):D0v x:=by
 simp only [Tr.A86,Tr.B0y,Bool.and_eq_true,decide_eq_true_eq,List.all_eq_true] at hb
 obtain ⟨_,_,_,_,h10⟩:=hb
 refine ⟨hn.frees,hn.also,fun t ht=>(hn.trans t ht).1,fun t ht=>⟨100,by decide,by decide,?_,fun e he=>⟨(hn.trans t ht).2 e he,?_⟩⟩⟩
 ·have:=h10 t ht
  simp only [Tr.tnB,Bool.and_eq_true,decide_eq_true_eq] at this
  omega
 ·have:=h10 t ht
  simp only [Tr.tnB,Bool.and_eq_true,List.all_eq_true] at this
  have:=of_decide_eq_true (this.2.2.2 e he)
  omega
theorem D4q (hK:B7n Γ) (hT:Qu.A10 Γ) (hN:Nu.A7g Γ) (hW:Sc.Wds Γ) (hO:AsO.A5f Γ) (hE:AsP.A5f Γ) (hR:Nu.A0l Γ) (x:Tr.Tr0) (hn:D0y x):B7 Tryz.prog Γ 3 [.agg (Tr.trA (fun _=>0) x)] fun v=>v=.bool true:=by
 have haw:=D09 hK hT hN hW hO hE hR
 have hfw:=Tr.C8o (Γ:=Γ) (fun _=>0) x
 cases hb:Tr.A86 x
 ·rw [hb] at hfw
  clear hK hT hN hW hO hE hR
  simp only [Tr.trA] at hfw ⊢
  refine aps Tryz.func3 ?_
  intro s
  conv=>whnf
  intro b hb0
  refine wr ?_
  all_goals exact ⟨(Sub.refl _).set hb0 _ _,rfl⟩
 rw [hb] at hfw
 have hx:=Tr.C8p hb
 have hrr:=Tr.C08 (Γ:=Γ) (fun _=>0) x hx
 cases hrb:Tr.A0i x
 ·rw [hrb] at hrr
  have hpt:=D4o (Γ:=Γ) hW (fun _=>0) x hx hrb
  clear hK hT hN hW hO hE hR
  simp only [Tr.trA] at hfw hrr hpt ⊢
  refine aps Tryz.func3 ?_
  intro s
  conv=>whnf
  intro b hb0
  refine wr ?_
  all_goals first|exact ⟨(Sub.refl _).set hb0 _ _,rfl⟩|(exfalso;revert h;simp;done)|fail
 rw [hrb] at hrr
 have hf:=D7q hn hb
 have ok:=C7s hrb hf
 have hlen:=D0h ok hb
 have hpt:=D4p hW hK hT hN (fun _=>0) x hx hrb hf (by omega)
 have hrt:=D3u (Γ:=Γ) (fun _=>0) x hx ok (by omega)
 have hsy:=fun (t:(Nat × Nat × Nat) × Tr.Tn) (ht:t ∈ x.2.2.2.2.2.2.2)=>(⟨(C7r (t:=t) (by
   have h:=hrb
   unfold Tr.A0i at h
   simp only [Bool.and_eq_true,List.all_eq_true] at h
   exact h.2.2.2.2.2.2.2 t ht) (hf.on t ht) (hf.nodes t ht)).2.2.1,hx.2.2.2 t ht⟩:B7m t.2.2.2.1∧_)
 have hsl:∀ t ∈ x.2.2.2.2.2.2.2,(U8 t.2.2.2.1).length≤1000000000:=fun t ht=>by
  have h1:=B33 (S:=fun t:(Nat × Nat × Nat) × Tr.Tn=>G5 t.2) ht
  have h2:(J6 (fun t:(Nat × Nat × Nat) × Tr.Tn=>G5 t.2) x.2.2.2.2.2.2.2).length≤(X9 x).length:=by
   unfold X9
   simp only [List.length_append]
   omega
  have h3:(U8 t.2.2.2.1).length≤(G5 t.2).length:=by
   unfold G5
   simp only [List.length_append,List.length_cons]
   omega
  have h1:(G5 t.2).length+1≤_:=h1
  omega
 have hs1:=fun t ht=>C1f (Γ:=Γ) hT hN (t.1.1,t.2.2.2.1) (hsy t ht).1 (hsy t ht).2.1 (hsl t ht)
 have hs2:=fun t ht=>C1b (Γ:=Γ) (t.1.1,t.2.2.2.1) (hsy t ht).1 (hsy t ht).2.1 (hsl t ht)
 have hml:(x.2.2.2.2.2.2.2.map Tr.tnA).length=x.2.2.2.2.2.2.2.length:=List.length_map ..
 have hnl:x.2.2.2.2.2.2.2.length≤100000:=hx.1.2.2.2.2.2
 have hend:∃ u,(X9 x).length≤65536→B7 Tryz.prog Γ 12 [.str (X9 x)] (fun v=>v=.tuple [.agg (Tr.trA (fun _=>0) u),.agg [.int .i64 0,.int .i64 0,.int .i64 0]])∧Tr.A3b u∧Tr.A5b (Tr.A6p u)=Tr.A5b (Tr.A6p x):=by
  by_cases hl:(X9 x).length≤65536
  ·obtain ⟨hd,ts,hr,hkey⟩:=C5u ok hl
   have hp:=C9y hT hW hO hE hR (X9 x) hl (fun L hL=>B79 hL)
   rw [hr] at hp
   exact ⟨C1h hd ts,fun _=>⟨hp,C00 hl hr,hkey⟩⟩
  ·exact ⟨x,fun h=>absurd h hl⟩
 obtain ⟨u,hend⟩:=hend
 have hpl2:=Tr.C3j (Γ:=Γ) (fun _=>0) x hx
 have hpx:=Tr.C3a hx
 clear hK hT hN hW hO hE hR hf ok hn hrb hb hsy hsl
 generalize Tr.A6p x=px at *
 by_cases hl:(X9 x).length≤65536
 ·obtain ⟨hp,hsm,hkey⟩:=hend hl
  have hpl1:=Tr.C07 (Γ:=Γ) (fun _=>0) u hsm
  have hsame:=Tr.C5y (Γ:=Γ) (fun _=>0) (fun _=>0) (Tr.A6p u) px (Tr.C3a hsm)
  rw [decide_eq_true hkey] at hsame
  clear hend hkey hpx hx
  generalize Tr.A6p u=pu at *
  generalize X9 x=TX at *
  simp only [Tr.trA] at hfw hrr hpt hrt hp hpl1 hpl2 hsame ⊢
  refine aps Tryz.func3 ?_
  intro s
  conv=>whnf
  intro b hb0
  refine wr ?_
  have hbx:∀ s:Sto,(s.set b 31 (Tr.trA (fun _=>0) x)).bx b=some (31,Tr.trA (fun _=>0) x):=fun _=>A7
  have hbx:=hbx s
  have hsb:=(Sub.refl s).set hb0 31 (Tr.trA (fun _=>0) x)
  simp only [Tr.trA] at hbx hsb
  generalize s.set b _ _=s1 at *
  refine AWp.loopA [4] [25,26,27,28,29,32,33,34,35,36,37,38,39,40,41,42,43,44,45,46,2,30,31] (fun i:Nat=>[.int .i64 (i:Int)]) (fun i s'=>i≤x.2.2.2.2.2.2.2.length∧s'=s1) (fun i=>x.2.2.2.2.2.2.2.length - i) (0) (by kernel_rfl) (eqa) ?_ ?_
  ·exact ⟨Nat.zero_le _,rfl⟩
  ·rintro y i s' ⟨hi,hs'⟩
   subst s'
   show awp _ _ _ _ _ (updL _ _ [.int .i64 (i:Int)]) _
   conv=>whnf
   by_cases hlt:i < x.2.2.2.2.2.2.2.length
   ·have hg:=Tr.C4 (f:=Tr.tnA) (l:=x.2.2.2.2.2.2.2) Tr.U1 hlt
    have hu:=Tr.D9 Tr.U1 hlt
    have h1:=hs1 _ hu
    have h2:=hs2 _ hu
    generalize x.2.2.2.2.2.2.2.getD i Tr.U1=w at *
    simp only [Tr.tnA] at hg
    simp only [Tr.syA] at h1 h2
    have hw:IntKind.i64.wrap ((i:Int)+1)=((i+1:Nat):Int):=C7 (by omega) (by omega) (by omega)
    refine wr ?_;(rw [hw]);refine wr ?_
    all_goals first|(exfalso;revert h;simp;done)|exact ⟨i+1,eqa,C5,⟨hlt,rfl⟩,by omega⟩
   ·refine wr ?_
    intro b5 hb5
    have k_b5:=hb5
    repeat replace k_b5:=E6 k_b5
    have n_b_b5:b≠b5:=A8 bxa hb5
    have n_b5_b:=n_b_b5.symm
    conv=>whnf
    intro b6 hb6
    have k_b6:=hb6
    repeat replace k_b6:=E6 k_b6
    have n_b_b6:b≠b6:=A8 bxa hb6
    have n_b6_b:=n_b_b6.symm
    have n_b5_b6:b5≠b6:=A8 bxa hb6
    have n_b6_b5:=n_b5_b6.symm
    conv=>whnf
    have j5:=hsb.none k_b5
    have j6:=hsb.none k_b6
    refine wr ?_;(refine P4.of A2h A0r ?_);refine wr ?_
    all_goals first|(exfalso;revert h;simp;done)|exact ⟨A4n,rfl⟩
 ·clear hend hpx hx hpl2
  generalize X9 x=TX at *
  simp only [Tr.trA] at hfw hrr hpt hrt ⊢
  refine aps Tryz.func3 ?_
  intro s
  conv=>whnf
  intro b hb0
  refine wr ?_
  have hbx:∀ s:Sto,(s.set b 31 (Tr.trA (fun _=>0) x)).bx b=some (31,Tr.trA (fun _=>0) x):=fun _=>A7
  have hbx:=hbx s
  have hsb:=(Sub.refl s).set hb0 31 (Tr.trA (fun _=>0) x)
  simp only [Tr.trA] at hbx hsb
  generalize s.set b _ _=s1 at *
  refine AWp.loopA [4] [25,26,27,28,29,32,33,34,35,36,37,38,39,40,41,42,43,44,45,46,2,30,31] (fun i:Nat=>[.int .i64 (i:Int)]) (fun i s'=>i≤x.2.2.2.2.2.2.2.length∧s'=s1) (fun i=>x.2.2.2.2.2.2.2.length - i) (0) (by kernel_rfl) (eqa) ?_ ?_
  ·exact ⟨Nat.zero_le _,rfl⟩
  ·rintro y i s' ⟨hi,hs'⟩
   subst s'
   show awp _ _ _ _ _ (updL _ _ [.int .i64 (i:Int)]) _
   conv=>whnf
   by_cases hlt:i < x.2.2.2.2.2.2.2.length
   ·have hg:=Tr.C4 (f:=Tr.tnA) (l:=x.2.2.2.2.2.2.2) Tr.U1 hlt
    have hu:=Tr.D9 Tr.U1 hlt
    have h1:=hs1 _ hu
    have h2:=hs2 _ hu
    generalize x.2.2.2.2.2.2.2.getD i Tr.U1=w at *
    simp only [Tr.tnA] at hg
    simp only [Tr.syA] at h1 h2
    have hw:IntKind.i64.wrap ((i:Int)+1)=((i+1:Nat):Int):=C7 (by omega) (by omega) (by omega)
    refine wr ?_;(rw [hw]);refine wr ?_
    all_goals first|(exfalso;revert h;simp;done)|exact ⟨i+1,eqa,C5,⟨hlt,rfl⟩,by omega⟩
   ·refine wr ?_
    all_goals first|exact ⟨hsb,rfl⟩|rfl|(exfalso;omega)
end Go.Proofs.YticnkpgmmpenlaaGreatDoor.Pr
namespace Go.Ab
open Go
theorem C0q {P:Program} {laid:List (String × DataW Unit)} {W:World} {x:String × DataW Unit} {hs:List (String × DataW Unit)} (h:laidMetH P laid W)
  (hf:(laid.filter fun x=>x.2.handleName?.isSome)=x::hs):laidMet P (laid.filter fun x=>x.2.handleName?.isNone) W∧handlesMet P (x::hs) W:=by
 unfold laidMetH at h
 rw [hf] at h
 exact h
theorem C5a {P:Program} {laid:List (String × DataW Unit)} {W:World} (h:laidMet P laid W):∃ ps,DataW.LaidVars P W laid ps:=by
 obtain ⟨ps,h,_⟩:=h
 exact ⟨ps,h⟩
theorem C2g {P:Program} {W:World} {n:String} {d:DataW Unit} {name:List UInt8} {g u ty:Nat} (h:handlesMet P [(n,d)] W) (hfn:d.funcsIn?=none) (hn:d.handleName?=some name) (hg:P.globalNamed n=some g)
  (hu : (P.cutTypes.find? (·.1 == "internal/reflectlite.rtype")).map (·.2) = some u) (hone : ((List.range P.types.size).filter fun t => P.rowNamed t name) = [ty]) :
  A32 (K2 W) W g (.cptr [.iface u (.agg [.ptr (some ⟨P.globals.size,ty,none⟩)])]):=by
 have h1:=h (n,d) (List.mem_singleton.2 rfl)
 simp only [hfn] at h1
 obtain ⟨nm,u',ty',e1,e2,e3,e4,hv⟩:=h1
 rw [hn] at e1
 obtain rfl:=Option.some.inj e1
 rw [hu] at e2
 obtain rfl:=Option.some.inj e2
 have hm:ty' ∈ (List.range P.types.size).filter fun t=>P.rowNamed t name:=List.mem_filter.2 ⟨List.mem_range.2 e3,e4⟩
 rw [hone] at hm
 obtain rfl:=List.mem_singleton.1 hm
 have hblk:∃ T fr,W.heap[g]?=some (.cells #[.iface u (.agg #[typeHandle P ty'])] T fr):=by
  simp only [World.var?,hg,Option.bind_some] at hv
  split at hv
  ·rename_i c T fr hh
   simp only [Option.some.injEq] at hv
   subst hv
   exact ⟨T,fr,hh⟩
  ·cases hv
 obtain ⟨T,fr,hblk⟩:=hblk
 have hlt:g < W.heap.size:=(Array.getElem?_eq_some_iff.1 hblk).1
 have hgood:∀ o,(K2 W).good g o:=fun o=>by
  unfold Gh.good K2
  simp [hlt]
 refine ⟨by simp [K2,hlt],⟨_,T,fr,hblk,rfl⟩,P0.2 ⟨g,0,rfl,?_⟩⟩
 unfold D6
 refine ⟨hgood _,⟨.iface u (.agg #[typeHandle P ty']),by simp [World.cell?,hblk],R1.2 ⟨_,rfl,A4o.2 ⟨_,rfl,?_⟩⟩⟩,by unfold D6;trivial⟩
 exact B8.2 ⟨_,_,rfl,Q2.2 rfl,C2.2 rfl⟩
theorem C0p {P:Program} {w0:World} {laid:List (String × DataW Unit)} (args:Array Value) (hf:w0.layFits P laid []=true) (hi:w0.layIfaces P laid (w0.layVars P laid)=true) :
  laidMet P laid ((w0.layVars P laid).forCall (fun _ _=>0) ⟨#[],args,[]⟩).memory:=by
 have e1:(laid.filter fun x=>(laid.map (·.1)).contains x.1)=laid:=List.filter_eq_self.2 fun x hx=>List.contains_iff_mem.2 (List.mem_map.2 ⟨x,hx,rfl⟩)
 have e2:(laid.filter fun x=>!(laid.map (·.1)).contains x.1)=[]:=List.filter_eq_nil_iff.2 fun x hx=>by rw [List.contains_iff_mem.2 (List.mem_map.2 ⟨x,hx,rfl⟩)];simp
 have h:laidMet P laid (w0.layVars P laid):=laidMet_layVars (w0:=w0) (laid.map (·.1)) [] (by rw [e1]) (by rw [e1];exact hf) (by rw [e1];exact hi) (by rw [e2];exact LaidIn.none)
 exact h.of_heap (by simp [World.memory,World.forCall,Input.heap])
theorem D2i {P:Program} {n nm:String} {text:List UInt8} {r:List (String × DataW Unit)} {W:World} {g:Nat} {ti tp te ts:TypeId} {ms:Array (String × TypeId)} {f:Field}
  (h:laidMet P ((n,.iface nm (.ptr (.agg [.lit (.string text)])))::r) W)
  (hg:P.globalNamed n=some g) (ht:(P.globals[g]?).map (·.type)=some ti) (hi:P.underlying ti=some (.interface ms)) (hrow:∀ u,P.typeName? 3 u=some nm→u=tp)
  (hp:P.underlying tp=some (.pointer te)) (he:P.underlying te=some (.struct #[f])) (hft:f.type=ts) (hfo:f.offset=0) (hs:P.underlying ts=some .string) (hc:P.cellsOf te=1) (hcs:P.cellsOf ts=1) :
  A32 (K2 W) W g (.cptr [.iface tp (.cptr [.str text])]):=by
 obtain ⟨a,s,hv,hcell,hst,_⟩:=laid_sentinel h hg ht hi hrow hp he hft hfo hs hc hcs
 have hcg:=World.var?_cell hg hv 0
 have hlt:∀ (x:Addr) (v:Value),W.cell? x=some v→x.block < W.heap.size∧x.spot=none:=by
  intro x v hx
  unfold World.cell? at hx
  split at hx
  ·rename_i hh
   split at hx
   ·cases hx
   ·rename_i hsp
    exact ⟨(Array.getElem?_eq_some_iff.1 hh).1,by simpa using hsp⟩
  ·cases hx
 obtain ⟨hb1,hsp⟩:=hlt a _ hcell
 have hg0:W.cell? ⟨g,0,none⟩=some (.iface tp (.pointer (some a))):=by rw [hcg];rfl
 obtain ⟨hb0,_⟩:=hlt _ _ hg0
 obtain ⟨ab,ao,asp⟩:=a
 dsimp only at hsp hb1
 subst hsp
 have hgood:∀ b o,b < W.heap.size→(K2 W).good b o:=fun b o hb=>by
  unfold Gh.good K2
  simp [hb]
 have hblk:∃ T fr,W.heap[g]?=some (.cells #[.iface tp (.pointer (some ⟨ab,ao,none⟩))] T fr):=by
  simp only [World.var?,hg,Option.bind_some] at hv
  split at hv
  ·rename_i c T fr hh
   simp only [Option.some.injEq] at hv
   subst hv
   exact ⟨T,fr,hh⟩
  ·cases hv
 obtain ⟨T,fr,hblk⟩:=hblk
 refine ⟨by simp [K2,hb0],⟨_,T,fr,hblk,rfl⟩,P0.2 ⟨g,0,rfl,?_⟩⟩
 have inner:R (K2 W) W (.cptr [.str text]) (.pointer (some ⟨ab,ao,none⟩)):=by
  refine P0.2 ⟨ab,ao,rfl,?_⟩
  unfold D6
  refine ⟨hgood _ _ hb1,⟨_,hcell,K4.2 ?_⟩,by unfold D6;trivial⟩
  subst hst
  rfl
 unfold D6
 exact ⟨hgood _ _ hb0,⟨_,hg0,R1.2 ⟨_,rfl,inner⟩⟩,by unfold D6;trivial⟩
end Go.Ab
