/- Part 8 of what the closing text needs: PqT, Ha1, Er2. No condition of mine beyond those that the theorems name. -/
import Derived.Test.YticnkpgmmpenlaaGreatDoorG7
import Derived.LaidHandle
import Derived.LaidLaws
import Derived.Lay
import Derived.Stop.LaidErr
set_option maxRecDepth 10000
set_option maxHeartbeats 60000000
set_option linter.all false
namespace Go.Proofs.YticnkpgmmpenlaaGreatDoor.Pr
open Go Go.Ab Go.RowKit Go.Proofs.YticnkpgmmpenlaaGreatDoor.Lx Go.Proofs.YticnkpgmmpenlaaGreatDoor.Pa
variable {Γ:Nat→AV}
attribute [local irreducible] A5 Sto.set Sto.grow
theorem D05 (hK:B38 Γ) (hT:Qu.A1q Γ) (hN:Nu.A6y Γ) (hW:Sc.Wds Γ) (hO:AsO.A4b Γ) (hE:AsP.A4b Γ) (hR:Nu.Z8 Γ) (S:List UInt8):A5 Tryz.prog Γ 4 [.str S] fun v=>v=.bool true:=by
 have haw:=C15 hK hT hN hW hO hE hR
 by_cases hS:S.length≤3000
 ·have hp:=B2b hT hW hO hE hR S (by omega) (fun L hL=>A8e hL)
  rcases hr:A1s S Z6 with ⟨e,a,b⟩|⟨hd,ts⟩
  ·have he0:=B6o hr
   rw [hr] at hp
   have hsm:Tr.A2x noTr:=by
    unfold noTr Tr.A2x
    simp
   have hpt:=C4g (Γ:=Γ) hW (fun _=>0) noTr hsm rfl
   clear hK hT hN hW hO hE hR
   simp only [B5y,Tr.trA] at hp hpt
   refine aps Tryz.func4 ?_
   intro s
   conv=>whnf
   repeat' ((first|(refine brS (fun h=>?_) (fun h=>?_)<;>(try rw [h])<;>(try simp only [bN,bS,↓reduceIte] at h)<;>(try exact prc))|(refine A0.pure' ?_ (hp);rintro _ rfl)|refine A8.pure ?_ (hp)|refine gS ?_|refine aA ?_|refine nA ?_|fail)<;>(conv=>whnf))
   intro b5 hb5
   have k_b5:=hb5
   repeat replace k_b5:=C0 k_b5
   conv=>whnf
   intro b6 hb6
   have k_b6:=hb6
   repeat replace k_b6:=C0 k_b6
   have n_b5_b6:b5≠b6:=by (have k:=hb6;repeat (first|exact A7s k|replace k:=C0 k))
   have n_b6_b5:=n_b5_b6.symm
   conv=>whnf
   repeat' ((first|(refine brS (fun h=>?_) (fun h=>?_)<;>(try rw [h])<;>(try simp only [bN,bS,↓reduceIte] at h)<;>(try exact prc))|refine D3 ?_|(refine M5.of Y8 U4 ?_)|(refine A0.pure' ?_ (hpt);rintro _ rfl)|refine A8.pure ?_ (hpt)|(refine A0.pure' ?_ (haw);rintro _ rfl)|refine A8.pure ?_ (haw)|refine gS ?_|refine aA ?_|refine nA ?_|fail)<;>(conv=>whnf))
   all_goals first|exact ⟨A6r,rfl⟩|(exfalso;revert h;simp;done)|(exfalso;revert h;simp [he0];done)
  ·obtain ⟨r1,r2,r3⟩:=B0y hr
   have hsm:=A6f (by omega) hr
   have ok:=C1m r1 r2
   have hpt:=B64 hW hK hT hN (fun _=>0) (A0g hd ts) hsm r1 r2 (by omega)
   obtain ⟨hd2,ts2,hr2,hkey⟩:=B50 ok (by omega)
   have hp2:=B2b hT hW hO hE hR (M3 (A0g hd ts)) (by omega) (fun L hL=>A8e hL)
   obtain ⟨q1,q2,q3⟩:=B0y hr2
   have hsm2:=A6f (by omega) hr2
   have hpt2:=B64 hW hK hT hN (fun _=>0) (A0g hd2 ts2) hsm2 q1 q2 (by omega)
   rw [hr] at hp
   rw [hr2] at hp2
   have heq:M3 (A0g hd2 ts2)=M3 (A0g hd ts):=D4h hkey
   rw [heq] at hpt2
   have hpl1:=Tr.A6j (Γ:=Γ) (fun _=>0) (A0g hd ts) hsm
   have hpl2:=Tr.A6j (Γ:=Γ) (fun _=>0) (A0g hd2 ts2) hsm2
   have hsame:=Tr.B6l (Γ:=Γ) (fun _=>0) (fun _=>0) (Tr.A2l (A0g hd2 ts2)) (Tr.A2l (A0g hd ts)) (Tr.B54 hsm2)
   rw [decide_eq_true hkey] at hsame
   have hTX:(M3 (A0g hd ts)).length≤27000:=by omega
   clear hK hT hN hW hO hE hR hkey hr hr2 r1 r2 r3 q1 q2 q3 heq ok hsm hsm2
   simp only [B5y] at hp hp2
   generalize Tr.A2l (A0g hd2 ts2)=pv at *
   generalize Tr.A2l (A0g hd ts)=pu at *
   generalize M3 (A0g hd ts)=TX at *
   generalize A0g hd ts=u at *
   generalize A0g hd2 ts2=v2 at *
   simp only [Tr.trA] at hp hp2 hpt hpt2 hpl1 hpl2 hsame
   refine aps Tryz.func4 ?_
   intro s
   conv=>whnf
   repeat' ((first|(refine brS (fun h=>?_) (fun h=>?_)<;>(try rw [h])<;>(try simp only [bN,bS,↓reduceIte] at h)<;>(try exact prc))|(refine A0.pure' ?_ (hp);rintro _ rfl)|refine A8.pure ?_ (hp)|refine gS ?_|refine aA ?_|refine nA ?_|fail)<;>(conv=>whnf))
   intro b3 hb3
   have k_b3:=hb3
   repeat replace k_b3:=C0 k_b3
   conv=>whnf
   intro b4 hb4
   have k_b4:=hb4
   repeat replace k_b4:=C0 k_b4
   have n_b3_b4:b3≠b4:=by (have k:=hb4;repeat (first|exact A7s k|replace k:=C0 k))
   have n_b4_b3:=n_b3_b4.symm
   conv=>whnf
   repeat' ((first|(refine brS (fun h=>?_) (fun h=>?_)<;>(try rw [h])<;>(try simp only [bN,bS,↓reduceIte] at h)<;>(try exact prc))|refine D3 ?_|(refine M5.of Y8 U4 ?_)|(refine A0.pure' ?_ (hpt);rintro _ rfl)|refine A8.pure ?_ (hpt)|(refine A0.pure' ?_ (hp2);rintro _ rfl)|refine A8.pure ?_ (hp2)|refine gS ?_|refine aA ?_|refine nA ?_|fail)<;>(conv=>whnf))
   all_goals first|(exfalso;revert h;simp;done)|skip
   intro b6 hb6
   have k_b6:=hb6
   repeat replace k_b6:=C0 k_b6
   have n_b3_b6:b3≠b6:=by (have k:=hb6;repeat (first|exact A7s k|replace k:=C0 k))
   have n_b6_b3:=n_b3_b6.symm
   have n_b4_b6:b4≠b6:=by (have k:=hb6;repeat (first|exact A7s k|replace k:=C0 k))
   have n_b6_b4:=n_b4_b6.symm
   conv=>whnf
   intro b7 hb7
   have k_b7:=hb7
   repeat replace k_b7:=C0 k_b7
   have n_b3_b7:b3≠b7:=by (have k:=hb7;repeat (first|exact A7s k|replace k:=C0 k))
   have n_b7_b3:=n_b3_b7.symm
   have n_b4_b7:b4≠b7:=by (have k:=hb7;repeat (first|exact A7s k|replace k:=C0 k))
   have n_b7_b4:=n_b4_b7.symm
   have n_b6_b7:b6≠b7:=by (have k:=hb7;repeat (first|exact A7s k|replace k:=C0 k))
   have n_b7_b6:=n_b6_b7.symm
   conv=>whnf
   repeat' ((first|(refine brS (fun h=>?_) (fun h=>?_)<;>(try rw [h])<;>(try simp only [bN,bS,↓reduceIte] at h)<;>(try exact prc))|refine D3 ?_|(refine M5.of Y8 U4 ?_)|(refine A0.pure' ?_ (hpt2);rintro _ rfl)|refine A8.pure ?_ (hpt2)|(refine A0.pure' ?_ (hpl1);rintro _ rfl)|refine A8.pure ?_ (hpl1)|(refine A0.pure' ?_ (hpl2);rintro _ rfl)|refine A8.pure ?_ (hpl2)|(refine A0.pure' ?_ (hsame);rintro _ rfl)|refine A8.pure ?_ (hsame)|(refine A0.pure' ?_ (haw);rintro _ rfl)|refine A8.pure ?_ (haw)|refine gS ?_|refine aA ?_|refine nA ?_|fail)<;>(conv=>whnf))
   all_goals first|exact ⟨A6r,rfl⟩|(exfalso;revert h;simp;done)
 ·clear hK hT hN hW hO hE hR
  refine aps Tryz.func4 ?_
  intro s
  conv=>whnf
  repeat' ((first|(refine brS (fun h=>?_) (fun h=>?_)<;>(try rw [h])<;>(try simp only [bN,bS,↓reduceIte] at h)<;>(try exact prc))|(refine A0.pure' ?_ (haw);rintro _ rfl)|refine A8.pure ?_ (haw)|refine gS ?_|refine aA ?_|refine nA ?_|fail)<;>(conv=>whnf))
  all_goals rfl
end Go.Proofs.YticnkpgmmpenlaaGreatDoor.Pr
namespace Go.Ab
open Go
theorem C0y {P:Program} {laid:List (String × DataW Unit)} {W:World} {x:String × DataW Unit} {hs:List (String × DataW Unit)} (h:laidMetH P laid W)
  (hf:(laid.filter fun x=>x.2.handleName?.isSome)=x::hs):laidMet P (laid.filter fun x=>x.2.handleName?.isNone) W∧handlesMet P (x::hs) W:=by
 unfold laidMetH at h
 rw [hf] at h
 exact h
theorem C5q {P:Program} {laid:List (String × DataW Unit)} {W:World} (h:laidMet P laid W):∃ ps,DataW.LaidVars P W laid ps:=by
 obtain ⟨ps,h,_⟩:=h
 exact ⟨ps,h⟩
theorem C2s {P:Program} {W:World} {n:String} {d:DataW Unit} {name:List UInt8} {g u ty:Nat} (h:handlesMet P [(n,d)] W) (hfn:d.funcsIn?=none) (hn:d.handleName?=some name) (hg:P.globalNamed n=some g)
  (hu : (P.cutTypes.find? (·.1 == "internal/reflectlite.rtype")).map (·.2) = some u) (hone : ((List.range P.types.size).filter fun t => P.rowNamed t name) = [ty]) :
  A3m (K5 W) W g (.cptr [.iface u (.agg [.ptr (some ⟨P.globals.size,ty,none⟩)])]):=by
 have h1:=h (n,d) (List.mem_singleton.2 rfl)
 simp only [hfn] at h1
 obtain ⟨nm,u',ty',e1,e2,e3,e4,hv⟩:=h1
 rw [hn] at e1
 obtain rfl:=Option.some.inj e1
 rw [hu] at e2
 obtain rfl:=Option.some.inj e2
 have hm:ty' ∈ (List.range P.types.size).filter fun t=>P.rowNamed t name:=List.mem_filter.2 ⟨List.mem_range.2 e3,e4⟩
 rw [hone] at hm
 obtain rfl:=List.mem_singleton.1 hm
 have hblk:∃ T fr,W.heap[g]?=some (.cells #[.iface u (.agg #[typeHandle P ty'])] T fr):=by
  simp only [World.var?,hg,Option.bind_some] at hv
  split at hv
  ·rename_i c T fr hh
   simp only [Option.some.injEq] at hv
   subst hv
   exact ⟨T,fr,hh⟩
  ·cases hv
 obtain ⟨T,fr,hblk⟩:=hblk
 have hlt:g < W.heap.size:=(Array.getElem?_eq_some_iff.1 hblk).1
 have hgood:∀ o,(K5 W).good g o:=fun o=>by
  unfold Gh.good K5
  simp [hlt]
 refine ⟨by simp [K5,hlt],⟨_,T,fr,hblk,rfl⟩,N3.2 ⟨g,0,rfl,?_⟩⟩
 unfold C2
 refine ⟨hgood _,⟨.iface u (.agg #[typeHandle P ty']),by simp [World.cell?,hblk],Q2.2 ⟨_,rfl,A41.2 ⟨_,rfl,?_⟩⟩⟩,by unfold C2;trivial⟩
 exact A6.2 ⟨_,_,rfl,P4.2 rfl,A9.2 rfl⟩
theorem C0x {P:Program} {w0:World} {laid:List (String × DataW Unit)} (args:Array Value) (hf:w0.layFits P laid []=true) (hi:w0.layIfaces P laid (w0.layVars P laid)=true) :
  laidMet P laid ((w0.layVars P laid).forCall (fun _ _=>0) ⟨#[],args,[]⟩).memory:=by
 have e1:(laid.filter fun x=>(laid.map (·.1)).contains x.1)=laid:=List.filter_eq_self.2 fun x hx=>List.contains_iff_mem.2 (List.mem_map.2 ⟨x,hx,rfl⟩)
 have e2:(laid.filter fun x=>!(laid.map (·.1)).contains x.1)=[]:=List.filter_eq_nil_iff.2 fun x hx=>by rw [List.contains_iff_mem.2 (List.mem_map.2 ⟨x,hx,rfl⟩)];simp
 have h:laidMet P laid (w0.layVars P laid):=laidMet_layVars (w0:=w0) (laid.map (·.1)) [] (by rw [e1]) (by rw [e1];exact hf) (by rw [e1];exact hi) (by rw [e2];exact LaidIn.none)
 exact h.of_heap (by simp [World.memory,World.forCall,Input.heap])
theorem D18 {P:Program} {n nm:String} {text:List UInt8} {r:List (String × DataW Unit)} {W:World} {g:Nat} {ti tp te ts:TypeId} {ms:Array (String × TypeId)} {f:Field}
  (h:laidMet P ((n,.iface nm (.ptr (.agg [.lit (.string text)])))::r) W)
  (hg:P.globalNamed n=some g) (ht:(P.globals[g]?).map (·.type)=some ti) (hi:P.underlying ti=some (.interface ms)) (hrow:∀ u,P.typeName? 3 u=some nm→u=tp)
  (hp:P.underlying tp=some (.pointer te)) (he:P.underlying te=some (.struct #[f])) (hft:f.type=ts) (hfo:f.offset=0) (hs:P.underlying ts=some .string) (hc:P.cellsOf te=1) (hcs:P.cellsOf ts=1) :
  A3m (K5 W) W g (.cptr [.iface tp (.cptr [.str text])]):=by
 obtain ⟨a,s,hv,hcell,hst,_⟩:=laid_sentinel h hg ht hi hrow hp he hft hfo hs hc hcs
 have hcg:=World.var?_cell hg hv 0
 have hlt:∀ (x:Addr) (v:Value),W.cell? x=some v→x.block < W.heap.size∧x.spot=none:=by
  intro x v hx
  unfold World.cell? at hx
  split at hx
  ·rename_i hh
   split at hx
   ·cases hx
   ·rename_i hsp
    exact ⟨(Array.getElem?_eq_some_iff.1 hh).1,by simpa using hsp⟩
  ·cases hx
 obtain ⟨hb1,hsp⟩:=hlt a _ hcell
 have hg0:W.cell? ⟨g,0,none⟩=some (.iface tp (.pointer (some a))):=by rw [hcg];rfl
 obtain ⟨hb0,_⟩:=hlt _ _ hg0
 obtain ⟨ab,ao,asp⟩:=a
 dsimp only at hsp hb1
 subst hsp
 have hgood:∀ b o,b < W.heap.size→(K5 W).good b o:=fun b o hb=>by
  unfold Gh.good K5
  simp [hb]
 have hblk:∃ T fr,W.heap[g]?=some (.cells #[.iface tp (.pointer (some ⟨ab,ao,none⟩))] T fr):=by
  simp only [World.var?,hg,Option.bind_some] at hv
  split at hv
  ·rename_i c T fr hh
   simp only [Option.some.injEq] at hv
   subst hv
   exact ⟨T,fr,hh⟩
  ·cases hv
 obtain ⟨T,fr,hblk⟩:=hblk
 refine ⟨by simp [K5,hb0],⟨_,T,fr,hblk,rfl⟩,N3.2 ⟨g,0,rfl,?_⟩⟩
 have inner:R (K5 W) W (.cptr [.str text]) (.pointer (some ⟨ab,ao,none⟩)):=by
  refine N3.2 ⟨ab,ao,rfl,?_⟩
  unfold C2
  refine ⟨hgood _ _ hb1,⟨_,hcell,H9.2 ?_⟩,by unfold C2;trivial⟩
  subst hst
  rfl
 unfold C2
 exact ⟨hgood _ _ hb0,⟨_,hg0,Q2.2 ⟨_,rfl,inner⟩⟩,by unfold C2;trivial⟩
end Go.Ab
