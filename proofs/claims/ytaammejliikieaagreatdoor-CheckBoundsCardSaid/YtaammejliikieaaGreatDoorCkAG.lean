import Derived.Test.YtaammejliikieaaGreatDoorG8
import Derived.Test.YtaammejliikieaaGreatDoorG7
import Derived.Test.YtaammejliikieaaGreatDoorG1
set_option maxRecDepth 10000
set_option maxHeartbeats 60000000
set_option linter.all false
namespace Go.Proofs.YtaammejliikieaaGreatDoor.Pa
end Go.Proofs.YtaammejliikieaaGreatDoor.Pa
namespace Go.Proofs.YtaammejliikieaaGreatDoor.Ck
open Go Go.Ab Go.RowKit Go.Proofs.YtaammejliikieaaGreatDoor.Pa
variable {Γ:Nat→AV}
def qh (nm:List UInt8) (D:List Dc) (U:List Qt) (F:List Fe) (A:List Sa):Qe:=⟨nm,D,U,F,A,0,[],[],[]⟩
def A83 (x:Tr.Tr0):Res Qe :=
 match B3 H1 (qh x.1.1 [] [] [] []) (x.2.1.map Prod.snd) with
 | .error e=>.error e
 | .ok q=>match B3 E8 q x.2.2.1 with
  | .error e=>.error e
  | .ok q=>match B3 H4 q x.2.2.2.1 with
   | .error e=>.error e
   | .ok q=>match B3 D6 q x.2.2.2.2.1 with
    | .error e=>.error e
    | .ok q=>Y3 q x.2.2.2.2.2.1
theorem B4w (x:Tr.Tr0):D0 x 5 0 { Qe.none with name:=x.1.1 } = A83 x:=by
 unfold A83
 show D0 x 5 0 (qh x.1.1 [] [] [] [])=_
 simp only [D0,C1]
 rcases B3 H1 (qh x.1.1 [] [] [] []) (x.2.1.map Prod.snd) with e|q<;>simp only
 rcases B3 E8 q x.2.2.1 with e|q<;>simp only
 rcases B3 H4 q x.2.2.2.1 with e|q<;>simp only
 rcases B3 D6 q x.2.2.2.2.1 with e|q<;>simp only
 rcases Y3 q x.2.2.2.2.2.1 with e|q<;>rfl
def D1n (r:Res Qe) (v:AV):Prop :=
 match r with
 | .ok q=>v=.tuple [.agg (qeA z0 q),noB]
 | .error e=>∃ q',v=.tuple [.agg (qeA z0 q'),J7 e]
theorem _root_.Go.Ab.A2.fgt {P:Program} {f:FuncId} {args:List AV} {s:Sto} {φ:AV→Prop} (h:A2 P Γ f args s fun v s'=>φ (fg v)∧Sub s s'):A2 P Γ f args s fun v s'=>φ v∧s'=s :=
 h.frz fun v s' ⟨h1,h2⟩=>⟨fz0,s,A74,h2,by rw [A3s];exact h1,rfl⟩
theorem B7e {s s':Sto} {z:Bool} {t:Nat} {e:TypeId} {k:Nat} (h:Own s s' z t e k) (t1:Nat) (e1:TypeId) (k1:Nat):Own s (s'.grow 1 t1 e1 k1) z t e k :=
 ⟨h.sub.grow (.inl rfl) t1 e1 k1,h.own.imp id fun x=>⟨x.1,by unfold Sto.grow;exact .inr ⟨x.2.1,.inr rfl⟩,x.2.2⟩⟩
theorem A9r {s s':Sto} {z:Bool} {t:Nat} {e:TypeId} {k i:Nat} {y:List AV} (h:Own s s' (z && [y].isEmpty) t e k):Own s s' (i+1 == 0) t e k:=by
 rw [show (z && [y].isEmpty)=false by simp] at h
 rwa [show (i+1 == 0)=false by simp]
theorem D09 (D:List Dc) (n:List UInt8) (ts:List Int) (t:Nat):fgE (dcs D++[[.str n,.slice t ([]++G9 .i64 ts)]])=dcs (D++[(n,ts)]):=by
 rw [C4g,A1q,List.nil_append]
 unfold dcs
 rw [List.map_append]
 show _++[fgL [.str n,.slice t (G9 .i64 ts)]]=_
 simp only [fgL,fg,B4r]
 rfl
def tkF (a b c d:Nat):Nat→Nat:=fun i=>match i with
 | 0=>a
 | 1=>b
 | 2=>c
 | 3=>d
 | _=>1
theorem A2r (nm:List UInt8) (t0 t1 t2 t3 t4 t5 t6:Nat) (D:List Dc) (U:List Qt) (F:List Fe) (A:List Sa) (e:Bad):fg (.tuple [.agg [.str nm,.slice t0 (dcs D),.slice t1 (U.map qtA),.slice t2 (F.map feA),.slice t3 (A.map saA),.int .i64 0,.slice t4 [],.slice t5 [],.slice t6 []],J7 e])=.tuple [.agg (qeA z0 (qh nm D U F A)),J7 e]:=by
 simp only [fg,fgL,A1q,A6j,A6i,A6k,A4l,J7]
 rfl
theorem B99 (nm:List UInt8) (t0 t1 t2 t3 t4 t5 t6:Nat) (D:List Dc) (U:List Qt) (F:List Fe) (A:List Sa) (e:Bad) (n:Int):fg (.tuple [.agg [.str nm,.slice t0 (dcs D),.slice t1 (U.map qtA),.slice t2 (F.map feA),.slice t3 (A.map saA),.int .i64 n,.slice t4 [],.slice t5 [],.slice t6 []],J7 e])=.tuple [.agg (qeA z0 { qh nm D U F A with start:=n }),J7 e]:=by
 simp only [fg,fgL,A1q,A6j,A6i,A6k,A4l,J7]
 rfl
attribute [local irreducible] A8 Sto.set Sto.grow
theorem C5p {x:Tr.Tr0} (hz:ZTr x) (hs:Tr.C3n x) (s:Sto):A2 Tryz.prog Γ 15 [.agg (Tr.trA z0 x)] s fun v s'=>D1n (A83 x) v∧s'=s:=by
 refine A2.fgt ?_
 have l_quA:(x.2.2.1.map Tr.quA).length=x.2.2.1.length:=List.length_map ..
 have l_frA:(x.2.2.2.1.map Tr.frA).length=x.2.2.2.1.length:=List.length_map ..
 have l_stA:(x.2.2.2.2.1.map Tr.stA).length=x.2.2.2.2.1.length:=List.length_map ..
 have l_deA:((x.2.1.map Prod.snd).map fun d=>Tr.deA (0,d)).length=(x.2.1.map Prod.snd).length:=List.length_map ..
 have hdl:∀ d ∈ x.2.1.map Prod.snd,d.2.length≤100000:=fun d hd=>by obtain ⟨y,hy,rfl⟩:=List.mem_map.1 hd;exact hs.2.1 y hy
 have hTl:(x.2.1.map Prod.snd).length≤100000:=by rw [List.length_map];exact hs.1.1
 have eT:Tr.trA z0 x=[.str x.1.1,.int .i64 x.1.2.1,.int .i64 x.1.2.2,.slice 0 ((x.2.1.map Prod.snd).map fun d=>Tr.deA (0,d)),.slice 0 (x.2.2.1.map Tr.quA),.slice 0 (x.2.2.2.1.map Tr.frA),.slice 0 (x.2.2.2.2.1.map Tr.stA),.str x.2.2.2.2.2.1.1,.int .i64 x.2.2.2.2.2.1.2.1,.int .i64 x.2.2.2.2.2.1.2.2,.slice 0 (x.2.2.2.2.2.2.1.map Tr.syA),.slice 0 (x.2.2.2.2.2.2.2.map Tr.tnA)]:=by
  simp only [Tr.trA,z0,hz.deA]
 rw [eT]
 generalize hR:A83 x=r
 unfold A83 at hR
 generalize x.2.1.map Prod.snd=ds at *
 refine acs Tryz.func15 ?_
 conv=>whnf
 intro b1 hb1
 have k_b1:=hb1
 repeat replace k_b1:=A0 k_b1
 conv=>whnf
 intro b2 hb2
 have k_b2:=hb2
 repeat replace k_b2:=A0 k_b2
 have n_b1_b2:b1≠b2:=by (have k:=hb2;repeat (first|exact A6 k|replace k:=A0 k))
 have n_b2_b1:=n_b1_b2.symm
 conv=>whnf
 intro b3 hb3
 have k_b3:=hb3
 repeat replace k_b3:=A0 k_b3
 have n_b1_b3:b1≠b3:=by (have k:=hb3;repeat (first|exact A6 k|replace k:=A0 k))
 have n_b3_b1:=n_b1_b3.symm
 have n_b2_b3:b2≠b3:=by (have k:=hb3;repeat (first|exact A6 k|replace k:=A0 k))
 have n_b3_b2:=n_b2_b3.symm
 conv=>whnf
 repeat' ((first|(refine brS (fun h=>?_) (fun h=>?_)<;>(try rw [h])<;>(try simp only [bS,↓reduceIte] at h)<;>(try exact prc))|refine A5 ?_|refine gS ?_|refine aA ?_|refine nA ?_|fail)<;>(conv=>whnf))
 intro b4 hb4
 have k_b4:=hb4
 repeat replace k_b4:=A0 k_b4
 have n_b1_b4:b1≠b4:=by (have k:=hb4;repeat (first|exact A6 k|replace k:=A0 k))
 have n_b4_b1:=n_b1_b4.symm
 have n_b2_b4:b2≠b4:=by (have k:=hb4;repeat (first|exact A6 k|replace k:=A0 k))
 have n_b4_b2:=n_b2_b4.symm
 have n_b3_b4:b3≠b4:=by (have k:=hb4;repeat (first|exact A6 k|replace k:=A0 k))
 have n_b4_b3:=n_b3_b4.symm
 conv=>whnf
 repeat' ((first|(refine brS (fun h=>?_) (fun h=>?_)<;>(try rw [h])<;>(try simp only [bS,↓reduceIte] at h)<;>(try exact prc))|refine A5 ?_|refine gS ?_|refine aA ?_|refine nA ?_|fail)<;>(conv=>whnf))
 refine AWp.loopW [5] [17,18,19,20,21,24,25,26,27,28,6,29,30,31,32,33,34,35,36,37,38,39,40,41,42,43,44,45,46,47,48,49,50,51,52,53,54,55,56,57,58,59,60,61,62,63,64,22,23] (fun z:Nat × List Dc × Nat=>[.int .i64 (z.1:Int)]) (fun z s'=>z.1≤ds.length∧s'.bx b1=some (34,[.str x.1.1,.int .i64 x.1.2.1,.int .i64 x.1.2.2,.slice 0 (ds.map fun d=>Tr.deA (0,d)),.slice 0 (x.2.2.1.map Tr.quA),.slice 0 (x.2.2.2.1.map Tr.frA),.slice 0 (x.2.2.2.2.1.map Tr.stA),.str x.2.2.2.2.2.1.1,.int .i64 x.2.2.2.2.2.1.2.1,.int .i64 x.2.2.2.2.2.1.2.2,.slice 0 (x.2.2.2.2.2.2.1.map Tr.syA),.slice 0 (x.2.2.2.2.2.2.2.map Tr.tnA)])∧s'.bx b2=some (63,[.str [],.slice 1 [],.slice 1 [],.slice 1 [],.slice 1 [],.int .i64 0,.slice 1 [],.slice 1 [],.slice 1 []])∧s'.bx b3=some (70,[.int .i64 0,.int .i64 0,.int .i64 0])∧s'.bx b4=some (63,[.str x.1.1,.slice z.2.2 (dcs z.2.1),.slice 1 [],.slice 1 [],.slice 1 [],.int .i64 0,.slice 1 [],.slice 1 [],.slice 1 []])∧Own s s' (z.1 == 0) z.2.2 160 2∧z.2.1.length=z.1∧B3 H1 (qh x.1.1 [] [] [] []) ds=B3 H1 (qh x.1.1 z.2.1 [] [] []) (ds.drop z.1)) (fun z=>ds.length - z.1) ((0,[],1)) _ (by kernel_rfl) (by decide) (by (repeat' (first|exact LeS.nil|refine LeS.cons ?_ ?_|exact Le.refl _|(refine Le.of_eq ?_;first|exact rfl|(refine G2 ?_ ?_ ?_<;>omega)|fail)|fail))) (R7.refl _) ?_ ?_
 ·exact ⟨Nat.zero_le _,bxa,bxa,bxa,bxa,Own.start (by (repeat (first|exact Sub.refl _|assumption|refine Sub.set ?_ (by assumption) _ _))) _ _,rfl,rfl⟩
 ·rintro y0 ⟨i,D,t⟩ s1 ⟨hi,h1,h2,h3,h4,ho,hD,hr⟩
  simp only at hi h4 ho hD hr
  conv=>whnf
  by_cases hlt:i < ds.length
  ·have hga:(ds.map (fun d=>Tr.deA (0,d))).getD ((i:Int)).toNat []=(fun d=>Tr.deA (0,d)) (ds.getD i A48):=by rw [Int.toNat_natCast];exact Tr.B9 (f:=fun d=>Tr.deA (0,d)) A48 hlt
   have hst:B3 H1 (qh x.1.1 D [] [] []) (ds.drop i)=match H1 (qh x.1.1 D [] [] []) (ds.getD i A48) with
     | .error e=>.error e
     | .ok q'=>B3 H1 q' (ds.drop (i+1)):=by
    rw [List.drop_eq_getElem_cons hlt,B3]
    simp only [List.getD,List.getElem?_eq_getElem hlt,Option.getD_some]
    cases H1 (qh x.1.1 D [] [] []) ds[i]<;>rfl
   have hul:=hdl _ (Tr.D4 A48 hlt)
   generalize ds.getD i A48=u at *
   obtain ⟨⟨n1,n2,n3⟩,ts⟩:=u
   simp only at hul
   simp only [Tr.deA] at hga
   have hat:=fun e=>M6 (Γ:=Γ) e (n1,n2,n3)
   simp only [Tr.S1] at hat
   have hil:=H8 .i64 ts
   have hcl:(dcs D).length=D.length:=List.length_map ..
   repeat' ((first|(refine brS (fun h=>?_) (fun h=>?_)<;>(try rw [h])<;>(try simp only [bS,↓reduceIte] at h)<;>(try exact prc))|refine A5 ?_|refine ⟨D3 (hga) rfl,Go.Ab.C5 (hga) ?_⟩|refine gS ?_|refine aA ?_|refine nA ?_|fail)<;>(conv=>whnf))
   intro b6 hb6
   have m6:=ho.sub.none hb6
   have n_b1_b6:=A1 h1 hb6
   have n_b2_b6:=A1 h2 hb6
   have n_b3_b6:=A1 h3 hb6
   have n_b4_b6:=A1 h4 hb6
   conv=>whnf
   by_cases hb:32≤i∨8 < ts.length
   ·have eE:H1 (qh x.1.1 D [] [] []) ((n1,n2,n3),ts)=.error (14,n2,n3):=by
     unfold H1
     rw [if_pos (by simp only [qh];omega)]
    have er:r=.error (14,n2,n3):=by rw [← hR];simp only [hr,hr,hst,eE]
    repeat' ((first|(refine brS (fun h=>?_) (fun h=>?_)<;>(try rw [h])<;>(try simp only [bS,↓reduceIte] at h)<;>(try exact prc))|refine A5 ?_|(refine A2.pure' ?_ (hat 14);rintro _ rfl)|refine A7.pure ?_ (hat 14)|refine gS ?_|refine aA ?_|refine nA ?_|fail)<;>(conv=>whnf))
    all_goals (
     refine ⟨_,Sub.refl _,?_,(((ho.sub.set m6 _ _).set m6 _ _).set k_b2 _ _).set k_b3 _ _⟩
     rw [er]
     exact ⟨qh x.1.1 D [] [] [],A2r x.1.1 t 1 1 1 1 1 1 D [] [] [] _⟩)
   ·have hfi:=B3o (Γ:=Γ) t D n1 (by omega)
    rcases hx:idx n1 (D.map (·.1)) with _|j
    case' some=>rw [hx] at hfi;simp only [F0] at hfi
    case' none=>rw [hx] at hfi;simp only [F0] at hfi
    ·have eO:H1 (qh x.1.1 D [] [] []) ((n1,n2,n3),ts)=.ok (qh x.1.1 (D++[(n1,ts)]) [] [] []):=by
      unfold H1
      rw [if_neg (by simp only [qh];omega),if_neg (by simp only [qh];rw [hx];simp)]
      rfl
     repeat' ((first|(refine brS (fun h=>?_) (fun h=>?_)<;>(try rw [h])<;>(try simp only [bS,↓reduceIte] at h)<;>(try exact prc))|refine A5 ?_|(refine A2.pure' ?_ (hfi);rintro _ rfl)|refine A7.pure ?_ (hfi)|refine gS ?_|refine aA ?_|refine nA ?_|fail)<;>(conv=>whnf))
     refine ⟨fun c hc=>?_,?_,?_⟩
     ·obtain ⟨z,_,rfl⟩:=List.mem_map.1 hc;exact ⟨rfl,rfl⟩
     ·show (0+(G9 .i64 ts).length) * (_+1)≤_
      exact Nat.le_trans (Nat.mul_le_mul_right _ (show 0+(G9 .i64 ts).length≤100001 by omega)) (Nat.le_of_ble_eq_true (by kernel_rfl))
     intro t2 j1 j2
     conv=>whnf
     repeat' ((first|(refine brS (fun h=>?_) (fun h=>?_)<;>(try rw [h])<;>(try simp only [bS,↓reduceIte] at h)<;>(try exact prc))|refine A5 ?_|refine gS ?_|refine aA ?_|refine nA ?_|fail)<;>(conv=>whnf))
     refine ⟨(B7e ((ho.set m6).set m6) t2 3 1).may,fun c hc=>by obtain ⟨z,_,rfl⟩:=List.mem_map.1 hc;rfl,all_cons ⟨rfl,rfl⟩ C3,?_,?_⟩
     ·show ((dcs D).length+1) * (_+1)≤_
      exact Nat.le_trans (Nat.mul_le_mul_right _ (show (dcs D).length+1≤100001 by omega)) (Nat.le_of_ble_eq_true (by kernel_rfl))
     intro t' k1 k2
     have k3:=(B7e ((ho.set m6).set m6) t2 3 1).grow k1 k2
     conv=>whnf
     repeat' ((first|(refine brS (fun h=>?_) (fun h=>?_)<;>(try rw [h])<;>(try simp only [bS,↓reduceIte] at h)<;>(try exact prc))|refine A5 ?_|refine gS ?_|refine aA ?_|refine nA ?_|fail)<;>(conv=>whnf))
     refine ⟨(i+1,D++[(n1,ts)],t'),Sto.set _ b4 63 [.str x.1.1,.slice t' (dcs (D++[(n1,ts)])),.slice 1 [],.slice 1 [],.slice 1 [],.int .i64 0,.slice 1 [],.slice 1 [],.slice 1 []],by (repeat' (first|exact LeS.nil|refine LeS.cons ?_ ?_|exact Le.refl _|(refine Le.of_eq ?_;first|exact rfl|(refine G2 ?_ ?_ ?_<;>omega)|fail)|fail)),B8,R7.box A3 (LeL.cons (Le.refl _) (LeL.cons (Le.inner' (D09 D n1 ts t2)) (LeL.refl _))),⟨by simp only;omega,bxa,bxa,bxa,A3,A9r (Own.set (k3.set k_b4) k_b4),by simp only [List.length_append,List.length_cons,List.length_nil];omega,?_⟩,by simp only;omega⟩
     rw [hr,hst,eO]
    ·have eE:H1 (qh x.1.1 D [] [] []) ((n1,n2,n3),ts)=.error (10,n2,n3):=by
      unfold H1
      rw [if_neg (by simp only [qh];omega),if_pos (by simp only [qh];rw [hx];rfl)]
     have er:r=.error (10,n2,n3):=by rw [← hR];simp only [hr,hr,hst,eE]
     repeat' ((first|(refine brS (fun h=>?_) (fun h=>?_)<;>(try rw [h])<;>(try simp only [bS,↓reduceIte] at h)<;>(try exact prc))|refine A5 ?_|(refine A2.pure' ?_ (hfi);rintro _ rfl)|refine A7.pure ?_ (hfi)|(refine A2.pure' ?_ (hat 10);rintro _ rfl)|refine A7.pure ?_ (hat 10)|refine gS ?_|refine aA ?_|refine nA ?_|fail)<;>(conv=>whnf))
     all_goals (
      refine ⟨_,Sub.refl _,?_,(((ho.sub.set m6 _ _).set m6 _ _).set k_b2 _ _).set k_b3 _ _⟩
      rw [er]
      exact ⟨qh x.1.1 D [] [] [],A2r x.1.1 t 1 1 1 1 1 1 D [] [] [] _⟩)
  ·have E0:B3 H1 (qh x.1.1 [] [] [] []) ds=.ok (qh x.1.1 D [] [] []):=by rw [hr,C0 (by omega)];rfl
   have c0:D.length≤100000:=by have:=hTl;omega
   repeat' ((first|(refine brS (fun h=>?_) (fun h=>?_)<;>(try rw [h])<;>(try simp only [bS,↓reduceIte] at h)<;>(try exact prc))|refine A5 ?_|refine gS ?_|refine aA ?_|refine nA ?_|fail)<;>(conv=>whnf))
   refine AWp.weak (R7.box (cs':=[.str x.1.1,.slice 0 (dcs D),.slice 1 [],.slice 1 [],.slice 1 [],.int .i64 0,.slice 1 [],.slice 1 [],.slice 1 []]) h4 (by (repeat' (first|exact LeL.nil|refine LeL.cons ?_ ?_|exact Le.refl _|exact Le.slice0 _ _|fail)))) ?_
   refine AWp.loopW [7] [65,66,67,68,69,72,73,74,75,76,8,77,78,79,80,81,82,83,84,85,86,87,88,89,90,91,92,93,94,95,96,97,98,99,100,101,102,103,104,105,70,71] (fun z:Nat × List Qt × Nat=>[.int .i64 (z.1:Int)]) (fun z s'=>z.1≤x.2.2.1.length∧s'.bx b1=some (34,[.str x.1.1,.int .i64 x.1.2.1,.int .i64 x.1.2.2,.slice 0 (ds.map fun d=>Tr.deA (0,d)),.slice 0 (x.2.2.1.map Tr.quA),.slice 0 (x.2.2.2.1.map Tr.frA),.slice 0 (x.2.2.2.2.1.map Tr.stA),.str x.2.2.2.2.2.1.1,.int .i64 x.2.2.2.2.2.1.2.1,.int .i64 x.2.2.2.2.2.1.2.2,.slice 0 (x.2.2.2.2.2.2.1.map Tr.syA),.slice 0 (x.2.2.2.2.2.2.2.map Tr.tnA)])∧s'.bx b2=some (63,[.str [],.slice 1 [],.slice 1 [],.slice 1 [],.slice 1 [],.int .i64 0,.slice 1 [],.slice 1 [],.slice 1 []])∧s'.bx b3=some (70,[.int .i64 0,.int .i64 0,.int .i64 0])∧s'.bx b4=some (63,[.str x.1.1,.slice 0 (dcs D),.slice z.2.2 (z.2.1.map qtA),.slice 1 [],.slice 1 [],.int .i64 0,.slice 1 [],.slice 1 [],.slice 1 []])∧Own s s' (z.1 == 0) z.2.2 163 3∧z.2.1.length=z.1∧B3 E8 (qh x.1.1 D [] [] []) x.2.2.1=B3 E8 (qh x.1.1 D z.2.1 [] []) (x.2.2.1.drop z.1)) (fun z=>x.2.2.1.length - z.1) ((0,[],1)) _ (by kernel_rfl) (by decide) (by (repeat' (first|exact LeS.nil|refine LeS.cons ?_ ?_|exact Le.refl _|(refine Le.of_eq ?_;first|exact rfl|(refine G2 ?_ ?_ ?_<;>omega)|fail)|fail))) (R7.refl _) ?_ ?_
   ·exact ⟨Nat.zero_le _,bxa,bxa,bxa,A3,Own.start (ho.sub.set k_b4 _ _) _ _,rfl,rfl⟩
   ·rintro y1 ⟨i,U,t⟩ s1 ⟨hi,h1,h2,h3,h4,ho,hD,hr⟩
    simp only at hi h4 ho hD hr
    conv=>whnf
    by_cases hlt:i < x.2.2.1.length
    ·have hga:(x.2.2.1.map (Tr.quA)).getD ((i:Int)).toNat []=(Tr.quA) (x.2.2.1.getD i Y8):=by rw [Int.toNat_natCast];exact Tr.B9 (f:=Tr.quA) Y8 hlt
     have hst:B3 E8 (qh x.1.1 D U [] []) (x.2.2.1.drop i)=match E8 (qh x.1.1 D U [] []) (x.2.2.1.getD i Y8) with
       | .error e=>.error e
       | .ok q'=>B3 E8 q' (x.2.2.1.drop (i+1)):=by
      rw [List.drop_eq_getElem_cons hlt,B3]
      simp only [List.getD,List.getElem?_eq_getElem hlt,Option.getD_some]
      cases E8 (qh x.1.1 D U [] []) (x.2.2.1)[i]<;>rfl
     generalize x.2.2.1.getD i Y8=u at *
     obtain ⟨al,⟨n1,n2,n3⟩,ty⟩:=u
     simp only [Tr.quA] at hga
     have hat:=fun e=>M6 (Γ:=Γ) e (n1,n2,n3)
     simp only [Tr.S1] at hat
     have hcl:(U.map qtA).length=U.length:=List.length_map ..
     repeat' ((first|(refine brS (fun h=>?_) (fun h=>?_)<;>(try rw [h])<;>(try simp only [bS,↓reduceIte] at h)<;>(try exact prc))|refine A5 ?_|refine ⟨D3 (hga) rfl,Go.Ab.C5 (hga) ?_⟩|refine gS ?_|refine aA ?_|refine nA ?_|fail)<;>(conv=>whnf))
     intro b8 hb8
     have m6:=ho.sub.none hb8
     have n_b1_b8:=A1 h1 hb8
     have n_b2_b8:=A1 h2 hb8
     have n_b3_b8:=A1 h3 hb8
     have n_b4_b8:=A1 h4 hb8
     conv=>whnf
     by_cases hb:8≤i
     ·have eE:E8 (qh x.1.1 D U [] []) (al,(n1,n2,n3),ty)=.error (14,n2,n3):=by
       unfold E8
       rw [if_pos (by simp only [qh];omega)]
      have er:r=.error (14,n2,n3):=by rw [← hR];simp only [E0,hr,hst,eE]
      repeat' ((first|(refine brS (fun h=>?_) (fun h=>?_)<;>(try rw [h])<;>(try simp only [bS,↓reduceIte] at h)<;>(try exact prc))|refine A5 ?_|(refine A2.pure' ?_ (hat 14);rintro _ rfl)|refine A7.pure ?_ (hat 14)|refine gS ?_|refine aA ?_|refine nA ?_|fail)<;>(conv=>whnf))
      all_goals (
       refine ⟨_,Sub.refl _,?_,(((ho.sub.set m6 _ _).set m6 _ _).set k_b2 _ _).set k_b3 _ _⟩
       rw [er]
       exact ⟨qh x.1.1 D U [] [],A2r x.1.1 0 t 1 1 1 1 1 D U [] [] _⟩)
     ·have hfi:=A5w (Γ:=Γ) (tkF 0 t 1 1) (qh x.1.1 D U [] []) n1 (by simp only [qh];omega)
      simp only [qeA,qh,tkF,sms,txs,List.map_nil] at hfi
      rcases hx:idx n1 (U.map (·.2.1)) with _|j
      case' some=>rw [hx] at hfi;simp only [F0] at hfi
      case' none=>rw [hx] at hfi;simp only [F0] at hfi
      ·have eO:E8 (qh x.1.1 D U [] []) (al,(n1,n2,n3),ty)=.ok (qh x.1.1 D (U++[(al,n1,ty)]) [] []):=by
        unfold E8
        rw [if_neg (by simp only [qh];omega),if_neg (by unfold V3;simp only [qh];rw [hx];simp [idx])]
        rfl
       repeat' ((first|(refine brS (fun h=>?_) (fun h=>?_)<;>(try rw [h])<;>(try simp only [bS,↓reduceIte] at h)<;>(try exact prc))|refine A5 ?_|(refine A2.pure' ?_ (hfi);rintro _ rfl)|refine A7.pure ?_ (hfi)|refine gS ?_|refine aA ?_|refine nA ?_|fail)<;>(conv=>whnf))
       refine ⟨((ho.set m6).set m6).may,fun c hc=>by obtain ⟨z,_,rfl⟩:=List.mem_map.1 hc;rfl,all_cons ⟨rfl,rfl⟩ C3,?_,?_⟩
       ·show ((U.map qtA).length+1) * (_+1)≤_
        exact Nat.le_trans (Nat.mul_le_mul_right _ (show (U.map qtA).length+1≤100001 by omega)) (Nat.le_of_ble_eq_true (by kernel_rfl))
       intro t' k1 k2
       have k3:=((ho.set m6).set m6).grow k1 k2
       conv=>whnf
       repeat' ((first|(refine brS (fun h=>?_) (fun h=>?_)<;>(try rw [h])<;>(try simp only [bS,↓reduceIte] at h)<;>(try exact prc))|refine A5 ?_|refine gS ?_|refine aA ?_|refine nA ?_|fail)<;>(conv=>whnf))
       refine ⟨(i+1,U++[(al,n1,ty)],t'),Sto.set _ b4 63 [.str x.1.1,.slice 0 (dcs D),.slice t' ((U++[(al,n1,ty)]).map qtA),.slice 1 [],.slice 1 [],.int .i64 0,.slice 1 [],.slice 1 [],.slice 1 []],by (repeat' (first|exact LeS.nil|refine LeS.cons ?_ ?_|exact Le.refl _|(refine Le.of_eq ?_;first|exact rfl|(refine G2 ?_ ?_ ?_<;>omega)|fail)|fail)),B8,R7.box A3 (LeL.cons (Le.refl _) (LeL.cons (Le.refl _) (LeL.cons (Le.of_eq (congrArg (AV.slice t') (by rw [List.map_append];rfl))) (LeL.refl _)))),⟨by simp only;omega,bxa,bxa,bxa,A3,A9r (Own.set (k3.set k_b4) k_b4),by simp only [List.length_append,List.length_cons,List.length_nil];omega,?_⟩,by simp only;omega⟩
       rw [hr,hst,eO]
      ·have eE:E8 (qh x.1.1 D U [] []) (al,(n1,n2,n3),ty)=.error (10,n2,n3):=by
        unfold E8
        rw [if_neg (by simp only [qh];omega),if_pos (by unfold V3;simp only [qh];rw [hx];rfl)]
       have er:r=.error (10,n2,n3):=by rw [← hR];simp only [E0,hr,hst,eE]
       repeat' ((first|(refine brS (fun h=>?_) (fun h=>?_)<;>(try rw [h])<;>(try simp only [bS,↓reduceIte] at h)<;>(try exact prc))|refine A5 ?_|(refine A2.pure' ?_ (hfi);rintro _ rfl)|refine A7.pure ?_ (hfi)|(refine A2.pure' ?_ (hat 10);rintro _ rfl)|refine A7.pure ?_ (hat 10)|refine gS ?_|refine aA ?_|refine nA ?_|fail)<;>(conv=>whnf))
       all_goals (
        refine ⟨_,Sub.refl _,?_,(((ho.sub.set m6 _ _).set m6 _ _).set k_b2 _ _).set k_b3 _ _⟩
        rw [er]
        exact ⟨qh x.1.1 D U [] [],A2r x.1.1 0 t 1 1 1 1 1 D U [] [] _⟩)
    ·have E1:B3 E8 (qh x.1.1 D [] [] []) x.2.2.1=.ok (qh x.1.1 D U [] []):=by rw [hr,C0 (by omega)];rfl
     have c1:U.length≤100000:=by have:=hs.1.2.1;omega
     repeat' ((first|(refine brS (fun h=>?_) (fun h=>?_)<;>(try rw [h])<;>(try simp only [bS,↓reduceIte] at h)<;>(try exact prc))|refine A5 ?_|refine gS ?_|refine aA ?_|refine nA ?_|fail)<;>(conv=>whnf))
     refine AWp.weak (R7.box (cs':=[.str x.1.1,.slice 0 (dcs D),.slice 0 (U.map qtA),.slice 1 [],.slice 1 [],.int .i64 0,.slice 1 [],.slice 1 [],.slice 1 []]) h4 (by (repeat' (first|exact LeL.nil|refine LeL.cons ?_ ?_|exact Le.refl _|exact Le.slice0 _ _|fail)))) ?_
     refine AWp.loopW [9] [106,107,108,109,110,113,114,115,116,117,10,118,119,120,121,122,123,124,125,126,127,128,129,130,131,132,133,134,135,136,137,138,139,140,141,142,143,144,145,146,147,148,149,150,151,152,111,112] (fun z:Nat × List Fe × Nat=>[.int .i64 (z.1:Int)]) (fun z s'=>z.1≤x.2.2.2.1.length∧s'.bx b1=some (34,[.str x.1.1,.int .i64 x.1.2.1,.int .i64 x.1.2.2,.slice 0 (ds.map fun d=>Tr.deA (0,d)),.slice 0 (x.2.2.1.map Tr.quA),.slice 0 (x.2.2.2.1.map Tr.frA),.slice 0 (x.2.2.2.2.1.map Tr.stA),.str x.2.2.2.2.2.1.1,.int .i64 x.2.2.2.2.2.1.2.1,.int .i64 x.2.2.2.2.2.1.2.2,.slice 0 (x.2.2.2.2.2.2.1.map Tr.syA),.slice 0 (x.2.2.2.2.2.2.2.map Tr.tnA)])∧s'.bx b2=some (63,[.str [],.slice 1 [],.slice 1 [],.slice 1 [],.slice 1 [],.int .i64 0,.slice 1 [],.slice 1 [],.slice 1 []])∧s'.bx b3=some (70,[.int .i64 0,.int .i64 0,.int .i64 0])∧s'.bx b4=some (63,[.str x.1.1,.slice 0 (dcs D),.slice 0 (U.map qtA),.slice z.2.2 (z.2.1.map feA),.slice 1 [],.int .i64 0,.slice 1 [],.slice 1 [],.slice 1 []])∧Own s s' (z.1 == 0) z.2.2 165 5∧z.2.1.length=z.1∧B3 H4 (qh x.1.1 D U [] []) x.2.2.2.1=B3 H4 (qh x.1.1 D U z.2.1 []) (x.2.2.2.1.drop z.1)) (fun z=>x.2.2.2.1.length - z.1) ((0,[],1)) _ (by kernel_rfl) (by decide) (by (repeat' (first|exact LeS.nil|refine LeS.cons ?_ ?_|exact Le.refl _|(refine Le.of_eq ?_;first|exact rfl|(refine G2 ?_ ?_ ?_<;>omega)|fail)|fail))) (R7.refl _) ?_ ?_
     ·exact ⟨Nat.zero_le _,bxa,bxa,bxa,A3,Own.start (ho.sub.set k_b4 _ _) _ _,rfl,rfl⟩
     ·rintro y2 ⟨i,F,t⟩ s1 ⟨hi,h1,h2,h3,h4,ho,hD,hr⟩
      simp only at hi h4 ho hD hr
      conv=>whnf
      by_cases hlt:i < x.2.2.2.1.length
      ·have hga:(x.2.2.2.1.map (Tr.frA)).getD ((i:Int)).toNat []=(Tr.frA) (x.2.2.2.1.getD i A61):=by rw [Int.toNat_natCast];exact Tr.B9 (f:=Tr.frA) A61 hlt
       have hst:B3 H4 (qh x.1.1 D U F []) (x.2.2.2.1.drop i)=match H4 (qh x.1.1 D U F []) (x.2.2.2.1.getD i A61) with
         | .error e=>.error e
         | .ok q'=>B3 H4 q' (x.2.2.2.1.drop (i+1)):=by
        rw [List.drop_eq_getElem_cons hlt,B3]
        simp only [List.getD,List.getElem?_eq_getElem hlt,Option.getD_some]
        cases H4 (qh x.1.1 D U F []) (x.2.2.2.1)[i]<;>rfl
       generalize x.2.2.2.1.getD i A61=u at *
       obtain ⟨⟨n1,n2,n3⟩,v1,v2,v3,v4⟩:=u
       simp only [Tr.frA] at hga
       have hat:=fun e=>M6 (Γ:=Γ) e (n1,n2,n3)
       simp only [Tr.S1] at hat
       have hcl:(F.map feA).length=F.length:=List.length_map ..
       repeat' ((first|(refine brS (fun h=>?_) (fun h=>?_)<;>(try rw [h])<;>(try simp only [bS,↓reduceIte] at h)<;>(try exact prc))|refine A5 ?_|refine ⟨D3 (hga) rfl,Go.Ab.C5 (hga) ?_⟩|refine gS ?_|refine aA ?_|refine nA ?_|fail)<;>(conv=>whnf))
       intro b10 hb10
       have m6:=ho.sub.none hb10
       have n_b1_b10:=A1 h1 hb10
       have n_b2_b10:=A1 h2 hb10
       have n_b3_b10:=A1 h3 hb10
       have n_b4_b10:=A1 h4 hb10
       conv=>whnf
       by_cases hb:16≤i
       ·have eE:H4 (qh x.1.1 D U F []) ((n1,n2,n3),v1,v2,v3,v4)=.error (14,n2,n3):=by
         unfold H4
         rw [if_pos (by simp only [qh];omega)]
        have er:r=.error (14,n2,n3):=by rw [← hR];simp only [E0,E1,hr,hst,eE]
        repeat' ((first|(refine brS (fun h=>?_) (fun h=>?_)<;>(try rw [h])<;>(try simp only [bS,↓reduceIte] at h)<;>(try exact prc))|refine A5 ?_|(refine A2.pure' ?_ (hat 14);rintro _ rfl)|refine A7.pure ?_ (hat 14)|refine gS ?_|refine aA ?_|refine nA ?_|fail)<;>(conv=>whnf))
        all_goals (
         refine ⟨_,Sub.refl _,?_,(((ho.sub.set m6 _ _).set m6 _ _).set k_b2 _ _).set k_b3 _ _⟩
         rw [er]
         exact ⟨qh x.1.1 D U F [],A2r x.1.1 0 0 t 1 1 1 1 D U F [] _⟩)
       ·have hfi:=A5w (Γ:=Γ) (tkF 0 0 t 1) (qh x.1.1 D U F []) n1 (by simp only [qh];omega)
        have hff:=B3p (Γ:=Γ) (tkF 0 0 t 1) (qh x.1.1 D U F []) n1 (by simp only [qh];omega)
        simp only [qeA,qh,tkF,sms,txs,List.map_nil] at hfi hff
        rcases hx:V3 (qh x.1.1 D U F []) n1 with _|j
        ·have eO:H4 (qh x.1.1 D U F []) ((n1,n2,n3),v1,v2,v3,v4)=.ok (qh x.1.1 D U (F++[(n1,v1,v2,v3,v4)]) []):=by
          unfold H4
          rw [if_neg (by simp only [qh];omega),if_neg (by rw [hx];simp)]
          rfl
         have hq9:idx n1 (U.map (·.2.1))=none∧idx n1 (F.map (·.1))=none:=by
          unfold V3 at hx
          simp only [qh] at hx
          split at hx
          ·cases hx
          ·rename_i h9;split at hx;cases hx;rename_i h8;exact ⟨h9,h8⟩
         rw [hq9.1] at hfi;rw [hq9.2] at hff;simp only [F0] at hfi hff
         repeat' ((first|(refine brS (fun h=>?_) (fun h=>?_)<;>(try rw [h])<;>(try simp only [bS,↓reduceIte] at h)<;>(try exact prc))|refine A5 ?_|(refine A2.pure' ?_ (hfi);rintro _ rfl)|refine A7.pure ?_ (hfi)|(refine A2.pure' ?_ (hff);rintro _ rfl)|refine A7.pure ?_ (hff)|refine gS ?_|refine aA ?_|refine nA ?_|fail)<;>(conv=>whnf))
         refine ⟨((ho.set m6).set m6).may,fun c hc=>by obtain ⟨z,_,rfl⟩:=List.mem_map.1 hc;rfl,all_cons ⟨rfl,rfl⟩ C3,?_,?_⟩
         ·show ((F.map feA).length+1) * (_+1)≤_
          exact Nat.le_trans (Nat.mul_le_mul_right _ (show (F.map feA).length+1≤100001 by omega)) (Nat.le_of_ble_eq_true (by kernel_rfl))
         intro t' k1 k2
         have k3:=((ho.set m6).set m6).grow k1 k2
         conv=>whnf
         repeat' ((first|(refine brS (fun h=>?_) (fun h=>?_)<;>(try rw [h])<;>(try simp only [bS,↓reduceIte] at h)<;>(try exact prc))|refine A5 ?_|refine gS ?_|refine aA ?_|refine nA ?_|fail)<;>(conv=>whnf))
         refine ⟨(i+1,F++[(n1,v1,v2,v3,v4)],t'),Sto.set _ b4 63 [.str x.1.1,.slice 0 (dcs D),.slice 0 (U.map qtA),.slice t' ((F++[(n1,v1,v2,v3,v4)]).map feA),.slice 1 [],.int .i64 0,.slice 1 [],.slice 1 [],.slice 1 []],by (repeat' (first|exact LeS.nil|refine LeS.cons ?_ ?_|exact Le.refl _|(refine Le.of_eq ?_;first|exact rfl|(refine G2 ?_ ?_ ?_<;>omega)|fail)|fail)),B8,R7.box A3 (LeL.cons (Le.refl _) (LeL.cons (Le.refl _) (LeL.cons (Le.refl _) (LeL.cons (Le.of_eq (congrArg (AV.slice t') (by rw [List.map_append];rfl))) (LeL.refl _))))),⟨by simp only;omega,bxa,bxa,bxa,A3,A9r (Own.set (k3.set k_b4) k_b4),by simp only [List.length_append,List.length_cons,List.length_nil];omega,?_⟩,by simp only;omega⟩
         rw [hr,hst,eO]
        ·rcases hx2:idx n1 (U.map (·.2.1)) with _|j2
         ·rw [hx2] at hfi
          rcases hx3:idx n1 (F.map (·.1)) with _|j3
          ·exfalso;unfold V3 at hx;simp only [qh] at hx;rw [hx2,hx3] at hx;cases hx
          rw [hx3] at hff;simp only [F0] at hfi hff
          ·have eE:H4 (qh x.1.1 D U F []) ((n1,n2,n3),v1,v2,v3,v4)=.error (10,n2,n3):=by
            unfold H4
            rw [if_neg (by simp only [qh];omega),if_pos (by rw [hx];rfl)]
           have er:r=.error (10,n2,n3):=by rw [← hR];simp only [E0,E1,hr,hst,eE]
           repeat' ((first|(refine brS (fun h=>?_) (fun h=>?_)<;>(try rw [h])<;>(try simp only [bS,↓reduceIte] at h)<;>(try exact prc))|refine A5 ?_|(refine A2.pure' ?_ (hfi);rintro _ rfl)|refine A7.pure ?_ (hfi)|(refine A2.pure' ?_ (hff);rintro _ rfl)|refine A7.pure ?_ (hff)|(refine A2.pure' ?_ (hat 10);rintro _ rfl)|refine A7.pure ?_ (hat 10)|refine gS ?_|refine aA ?_|refine nA ?_|fail)<;>(conv=>whnf))
           all_goals (
            refine ⟨_,Sub.refl _,?_,(((ho.sub.set m6 _ _).set m6 _ _).set k_b2 _ _).set k_b3 _ _⟩
            rw [er]
            exact ⟨qh x.1.1 D U F [],A2r x.1.1 0 0 t 1 1 1 1 D U F [] _⟩)
         ·rw [hx2] at hfi;simp only [F0] at hfi
          ·have eE:H4 (qh x.1.1 D U F []) ((n1,n2,n3),v1,v2,v3,v4)=.error (10,n2,n3):=by
            unfold H4
            rw [if_neg (by simp only [qh];omega),if_pos (by rw [hx];rfl)]
           have er:r=.error (10,n2,n3):=by rw [← hR];simp only [E0,E1,hr,hst,eE]
           repeat' ((first|(refine brS (fun h=>?_) (fun h=>?_)<;>(try rw [h])<;>(try simp only [bS,↓reduceIte] at h)<;>(try exact prc))|refine A5 ?_|(refine A2.pure' ?_ (hfi);rintro _ rfl)|refine A7.pure ?_ (hfi)|(refine A2.pure' ?_ (hat 10);rintro _ rfl)|refine A7.pure ?_ (hat 10)|refine gS ?_|refine aA ?_|refine nA ?_|fail)<;>(conv=>whnf))
           all_goals (
            refine ⟨_,Sub.refl _,?_,(((ho.sub.set m6 _ _).set m6 _ _).set k_b2 _ _).set k_b3 _ _⟩
            rw [er]
            exact ⟨qh x.1.1 D U F [],A2r x.1.1 0 0 t 1 1 1 1 D U F [] _⟩)
      ·have E2:B3 H4 (qh x.1.1 D U [] []) x.2.2.2.1=.ok (qh x.1.1 D U F []):=by rw [hr,C0 (by omega)];rfl
       have c2:F.length≤100000:=by have:=hs.1.2.2.1;omega
       repeat' ((first|(refine brS (fun h=>?_) (fun h=>?_)<;>(try rw [h])<;>(try simp only [bS,↓reduceIte] at h)<;>(try exact prc))|refine A5 ?_|refine gS ?_|refine aA ?_|refine nA ?_|fail)<;>(conv=>whnf))
       refine AWp.weak (R7.box (cs':=[.str x.1.1,.slice 0 (dcs D),.slice 0 (U.map qtA),.slice 0 (F.map feA),.slice 1 [],.int .i64 0,.slice 1 [],.slice 1 [],.slice 1 []]) h4 (by (repeat' (first|exact LeL.nil|refine LeL.cons ?_ ?_|exact Le.refl _|exact Le.slice0 _ _|fail)))) ?_
       refine AWp.loopW [11] [153,154,155,156,157,160,161,162,163,164,12,165,166,167,168,169,170,171,172,173,174,175,176,177,178,179,180,181,182,183,184,185,186,187,188,189,190,191,192,193,158,159] (fun z:Nat × List Sa × Nat=>[.int .i64 (z.1:Int)]) (fun z s'=>z.1≤x.2.2.2.2.1.length∧s'.bx b1=some (34,[.str x.1.1,.int .i64 x.1.2.1,.int .i64 x.1.2.2,.slice 0 (ds.map fun d=>Tr.deA (0,d)),.slice 0 (x.2.2.1.map Tr.quA),.slice 0 (x.2.2.2.1.map Tr.frA),.slice 0 (x.2.2.2.2.1.map Tr.stA),.str x.2.2.2.2.2.1.1,.int .i64 x.2.2.2.2.2.1.2.1,.int .i64 x.2.2.2.2.2.1.2.2,.slice 0 (x.2.2.2.2.2.2.1.map Tr.syA),.slice 0 (x.2.2.2.2.2.2.2.map Tr.tnA)])∧s'.bx b2=some (63,[.str [],.slice 1 [],.slice 1 [],.slice 1 [],.slice 1 [],.int .i64 0,.slice 1 [],.slice 1 [],.slice 1 []])∧s'.bx b3=some (70,[.int .i64 0,.int .i64 0,.int .i64 0])∧s'.bx b4=some (63,[.str x.1.1,.slice 0 (dcs D),.slice 0 (U.map qtA),.slice 0 (F.map feA),.slice z.2.2 (z.2.1.map saA),.int .i64 0,.slice 1 [],.slice 1 [],.slice 1 []])∧Own s s' (z.1 == 0) z.2.2 167 3∧z.2.1.length=z.1∧B3 D6 (qh x.1.1 D U F []) x.2.2.2.2.1=B3 D6 (qh x.1.1 D U F z.2.1) (x.2.2.2.2.1.drop z.1)) (fun z=>x.2.2.2.2.1.length - z.1) ((0,[],1)) _ (by kernel_rfl) (by decide) (by (repeat' (first|exact LeS.nil|refine LeS.cons ?_ ?_|exact Le.refl _|(refine Le.of_eq ?_;first|exact rfl|(refine G2 ?_ ?_ ?_<;>omega)|fail)|fail))) (R7.refl _) ?_ ?_
       ·exact ⟨Nat.zero_le _,bxa,bxa,bxa,A3,Own.start (ho.sub.set k_b4 _ _) _ _,rfl,rfl⟩
       ·rintro y3 ⟨i,A,t⟩ s1 ⟨hi,h1,h2,h3,h4,ho,hD,hr⟩
        simp only at hi h4 ho hD hr
        conv=>whnf
        by_cases hlt:i < x.2.2.2.2.1.length
        ·have hga:(x.2.2.2.2.1.map (Tr.stA)).getD ((i:Int)).toNat []=(Tr.stA) (x.2.2.2.2.1.getD i A63):=by rw [Int.toNat_natCast];exact Tr.B9 (f:=Tr.stA) A63 hlt
         have hst:B3 D6 (qh x.1.1 D U F A) (x.2.2.2.2.1.drop i)=match D6 (qh x.1.1 D U F A) (x.2.2.2.2.1.getD i A63) with
           | .error e=>.error e
           | .ok q'=>B3 D6 q' (x.2.2.2.2.1.drop (i+1)):=by
          rw [List.drop_eq_getElem_cons hlt,B3]
          simp only [List.getD,List.getElem?_eq_getElem hlt,Option.getD_some]
          cases D6 (qh x.1.1 D U F A) (x.2.2.2.2.1)[i]<;>rfl
         generalize x.2.2.2.2.1.getD i A63=u at *
         obtain ⟨⟨n1,n2,n3⟩,nx,ac⟩:=u
         simp only [Tr.stA] at hga
         have hat:=fun e=>M6 (Γ:=Γ) e (n1,n2,n3)
         simp only [Tr.S1] at hat
         have hcl:(A.map saA).length=A.length:=List.length_map ..
         repeat' ((first|(refine brS (fun h=>?_) (fun h=>?_)<;>(try rw [h])<;>(try simp only [bS,↓reduceIte] at h)<;>(try exact prc))|refine A5 ?_|refine ⟨D3 (hga) rfl,Go.Ab.C5 (hga) ?_⟩|refine gS ?_|refine aA ?_|refine nA ?_|fail)<;>(conv=>whnf))
         intro b12 hb12
         have m6:=ho.sub.none hb12
         have n_b1_b12:=A1 h1 hb12
         have n_b2_b12:=A1 h2 hb12
         have n_b3_b12:=A1 h3 hb12
         have n_b4_b12:=A1 h4 hb12
         conv=>whnf
         by_cases hb:32≤i
         ·have eE:D6 (qh x.1.1 D U F A) ((n1,n2,n3),nx,ac)=.error (14,n2,n3):=by
           unfold D6
           rw [if_pos (by simp only [qh];omega)]
          have er:r=.error (14,n2,n3):=by rw [← hR];simp only [E0,E1,E2,hr,hst,eE]
          repeat' ((first|(refine brS (fun h=>?_) (fun h=>?_)<;>(try rw [h])<;>(try simp only [bS,↓reduceIte] at h)<;>(try exact prc))|refine A5 ?_|(refine A2.pure' ?_ (hat 14);rintro _ rfl)|refine A7.pure ?_ (hat 14)|refine gS ?_|refine aA ?_|refine nA ?_|fail)<;>(conv=>whnf))
          all_goals (
           refine ⟨_,Sub.refl _,?_,(((ho.sub.set m6 _ _).set m6 _ _).set k_b2 _ _).set k_b3 _ _⟩
           rw [er]
           exact ⟨qh x.1.1 D U F A,A2r x.1.1 0 0 0 t 1 1 1 D U F A _⟩)
         ·have hfi:=A07 (Γ:=Γ) (tkF 0 0 0 t) (qh x.1.1 D U F A) n1 (by simp only [qh];omega)
          simp only [qeA,qh,tkF,sms,txs,List.map_nil] at hfi
          rcases hx:idx n1 (A.map (·.1)) with _|j
          case' some=>rw [hx] at hfi;simp only [F0] at hfi
          case' none=>rw [hx] at hfi;simp only [F0] at hfi
          ·have eO:D6 (qh x.1.1 D U F A) ((n1,n2,n3),nx,ac)=.ok (qh x.1.1 D U F (A++[(n1,nx,ac)])):=by
            unfold D6
            rw [if_neg (by simp only [qh];omega),if_neg (by simp only [qh];rw [hx];simp)]
            rfl
           repeat' ((first|(refine brS (fun h=>?_) (fun h=>?_)<;>(try rw [h])<;>(try simp only [bS,↓reduceIte] at h)<;>(try exact prc))|refine A5 ?_|(refine A2.pure' ?_ (hfi);rintro _ rfl)|refine A7.pure ?_ (hfi)|refine gS ?_|refine aA ?_|refine nA ?_|fail)<;>(conv=>whnf))
           refine ⟨((ho.set m6).set m6).may,fun c hc=>by obtain ⟨z,_,rfl⟩:=List.mem_map.1 hc;rfl,all_cons ⟨rfl,rfl⟩ C3,?_,?_⟩
           ·show ((A.map saA).length+1) * (_+1)≤_
            exact Nat.le_trans (Nat.mul_le_mul_right _ (show (A.map saA).length+1≤100001 by omega)) (Nat.le_of_ble_eq_true (by kernel_rfl))
           intro t' k1 k2
           have k3:=((ho.set m6).set m6).grow k1 k2
           conv=>whnf
           repeat' ((first|(refine brS (fun h=>?_) (fun h=>?_)<;>(try rw [h])<;>(try simp only [bS,↓reduceIte] at h)<;>(try exact prc))|refine A5 ?_|refine gS ?_|refine aA ?_|refine nA ?_|fail)<;>(conv=>whnf))
           refine ⟨(i+1,A++[(n1,nx,ac)],t'),Sto.set _ b4 63 [.str x.1.1,.slice 0 (dcs D),.slice 0 (U.map qtA),.slice 0 (F.map feA),.slice t' ((A++[(n1,nx,ac)]).map saA),.int .i64 0,.slice 1 [],.slice 1 [],.slice 1 []],by (repeat' (first|exact LeS.nil|refine LeS.cons ?_ ?_|exact Le.refl _|(refine Le.of_eq ?_;first|exact rfl|(refine G2 ?_ ?_ ?_<;>omega)|fail)|fail)),B8,R7.box A3 (LeL.cons (Le.refl _) (LeL.cons (Le.refl _) (LeL.cons (Le.refl _) (LeL.cons (Le.refl _) (LeL.cons (Le.of_eq (congrArg (AV.slice t') (by rw [List.map_append];rfl))) (LeL.refl _)))))),⟨by simp only;omega,bxa,bxa,bxa,A3,A9r (Own.set (k3.set k_b4) k_b4),by simp only [List.length_append,List.length_cons,List.length_nil];omega,?_⟩,by simp only;omega⟩
           rw [hr,hst,eO]
          ·have eE:D6 (qh x.1.1 D U F A) ((n1,n2,n3),nx,ac)=.error (10,n2,n3):=by
            unfold D6
            rw [if_neg (by simp only [qh];omega),if_pos (by simp only [qh];rw [hx];rfl)]
           have er:r=.error (10,n2,n3):=by rw [← hR];simp only [E0,E1,E2,hr,hst,eE]
           repeat' ((first|(refine brS (fun h=>?_) (fun h=>?_)<;>(try rw [h])<;>(try simp only [bS,↓reduceIte] at h)<;>(try exact prc))|refine A5 ?_|(refine A2.pure' ?_ (hfi);rintro _ rfl)|refine A7.pure ?_ (hfi)|(refine A2.pure' ?_ (hat 10);rintro _ rfl)|refine A7.pure ?_ (hat 10)|refine gS ?_|refine aA ?_|refine nA ?_|fail)<;>(conv=>whnf))
           all_goals (
            refine ⟨_,Sub.refl _,?_,(((ho.sub.set m6 _ _).set m6 _ _).set k_b2 _ _).set k_b3 _ _⟩
            rw [er]
            exact ⟨qh x.1.1 D U F A,A2r x.1.1 0 0 0 t 1 1 1 D U F A _⟩)
        ·have E3:B3 D6 (qh x.1.1 D U F []) x.2.2.2.2.1=.ok (qh x.1.1 D U F A):=by rw [hr,C0 (by omega)];rfl
         have c3:A.length≤100000:=by have:=hs.1.2.2.2.1;omega
         have hst:=A07 (Γ:=Γ) (tkF 0 0 0 t) (qh x.1.1 D U F A) x.2.2.2.2.2.1.1 (by simp only [qh];omega)
         simp only [qeA,qh,tkF,sms,txs,List.map_nil] at hst
         have hat:=fun e=>M6 (Γ:=Γ) e x.2.2.2.2.2.1
         simp only [Tr.S1] at hat
         rcases hx5:idx x.2.2.2.2.2.1.1 (A.map (·.1)) with _|i5
         ·rw [hx5] at hst;simp only [F0] at hst
          have er:r=.error (11,x.2.2.2.2.2.1.2):=by rw [← hR];simp only [E0,E1,E2,E3];unfold Y3 K9;simp only [qh];rw [hx5]
          repeat' ((first|(refine brS (fun h=>?_) (fun h=>?_)<;>(try rw [h])<;>(try simp only [bS,↓reduceIte] at h)<;>(try exact prc))|refine A5 ?_|(refine A2.pure' ?_ (hst);rintro _ rfl)|refine A7.pure ?_ (hst)|(refine A2.pure' ?_ (hat 11);rintro _ rfl)|refine A7.pure ?_ (hat 11)|refine gS ?_|refine aA ?_|refine nA ?_|fail)<;>(conv=>whnf))
          refine ⟨_,Sub.refl _,?_,(((ho.sub.set k_b4 _ _).set k_b2 _ _).set k_b3 _ _)⟩
          rw [er]
          exact ⟨{ qh x.1.1 D U F A with start:=-1 },B99 x.1.1 0 0 0 t 1 1 1 D U F A _ (-1)⟩
         ·rw [hx5] at hst;simp only [F0] at hst
          have er:r=.ok { qh x.1.1 D U F A with start:=(i5:Int) }:=by rw [← hR];simp only [E0,E1,E2,E3];unfold Y3 K9;simp only [qh];rw [hx5]
          repeat' ((first|(refine brS (fun h=>?_) (fun h=>?_)<;>(try rw [h])<;>(try simp only [bS,↓reduceIte] at h)<;>(try exact prc))|refine A5 ?_|(refine A2.pure' ?_ (hst);rintro _ rfl)|refine A7.pure ?_ (hst)|(refine A2.pure' ?_ (hat 11);rintro _ rfl)|refine A7.pure ?_ (hat 11)|refine gS ?_|refine aA ?_|refine nA ?_|fail)<;>(conv=>whnf))
          refine ⟨_,Sub.refl _,?_,(((ho.sub.set k_b4 _ _).set k_b2 _ _).set k_b3 _ _)⟩
          rw [er]
          exact B99 x.1.1 0 0 0 t 1 1 1 D U F A (0,0,0) (i5:Int)
end Go.Proofs.YtaammejliikieaaGreatDoor.Ck
