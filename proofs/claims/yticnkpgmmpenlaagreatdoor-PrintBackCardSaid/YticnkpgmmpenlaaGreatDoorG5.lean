/- Part 5 of what the closing text needs: PqC, PqD, PqE, PqF, PqG, PqH, PqI, PqK, PqJ, PqL, PaR, PaDa, PaOa, PaDc, Pr0, PrA, PrB, NuV, PrC, PrD, PrE, PrF, PrG, TrJ, TrK, TrL, TrM, VaA, VaB, VaI, NuW, PrH, PrP. No condition of mine beyond those that the theorems name. -/
import Derived.Test.YticnkpgmmpenlaaGreatDoorAb28
import Derived.Lib.ItoaMem
import Derived.Test.YticnkpgmmpenlaaGreatDoorChecked
import Derived.Lib.ItoaLen
import Derived.Lib.Join
set_option maxRecDepth 10000
set_option maxHeartbeats 60000000
set_option linter.all false
namespace Go.Proofs.YticnkpgmmpenlaaGreatDoor.Pa
open Go Go.Ab Go.RowKit Go.Proofs.YticnkpgmmpenlaaGreatDoor.Lx
variable {Γ:Nat→AV}
attribute [local irreducible] A5 Sto.set Sto.grow
section
variable {s0 s:Sto} {bp bl:Nat} {L:List Tok} {a:Nat} {o:List Ex} {d:List Int} {k:Int}
theorem D3n (hP:Pst s0 s bp bl L a o d k) (hL:L.length≤100000) (ha:a≤80000) (nx:Bool) :
  A0 Tryz.prog Γ 181 [.ptr (some ⟨bp,0,none⟩),.bool nx] s (K1 s0 bp bl L o d k (fun x=>.agg (Tr.stA x)) (Y1 L nx a)):=by
 refine acs Tryz.func181 ?_
 conv=>whnf
 intro b4 hb4
 conv=>whnf
 obtain ⟨m1,m2⟩:=hP.nb hb4
 have c4:s0.bx b4=none:=hP.sub.none hb4
 have hP4:=hP.box hb4 84 [.str [],.int .i64 0,.int .i64 0,.bool false,.bool false]
 have hb4':(s.set b4 84 [.str [],.int .i64 0,.int .i64 0,.bool false,.bool false]).bx b4=some (84,[.str [],.int .i64 0,.int .i64 0,.bool false,.bool false]):=A1
 generalize s.set b4 84 [.str [],.int .i64 0,.int .i64 0,.bool false,.bool false]=sa at *
 have hn:=A1f (Γ:=Γ) (hP4.keep hb4' m1 m2) hL (by omega)
 refine wp ?_
 refine A0.by hn ?_
 intro v s5 hv5
 unfold K1 at hv5
 rcases hnf:F9 L a with x|⟨x,a1⟩
 ·rw [hnf] at hv5
  obtain ⟨y,e,a',rfl,⟨kd,tx,rfl⟩,hP5⟩:=hv5
  refine wp ?_
  intro b6 hb6
  obtain ⟨m5,m6⟩:=hP5.nb hb6
  have c6:=hP5.sub.none hb6
  have hP6:=(hP5.box hb6 23 [.str [],.int .i64 0,.int .i64 0]).put c6 m5 m6 23 (Tr.W8 y)
  have hb6':((s5.set b6 23 [.str [],.int .i64 0,.int .i64 0]).set b6 23 (Tr.W8 y)).bx b6=some (23,Tr.W8 y):=A1
  obtain ⟨hP7,hb7⟩:=hP6.drop c4
  conv=>whnf
  repeat' ((first|exact pru|(refine brS (fun h=>?_) (fun h=>?_)<;>(try rw [h])<;>(try simp only [bS,↓reduceIte] at h))|(refine AWp.anyL (id:=2) [] [19] 6 b6 (by kernel_rfl) (by kernel_rfl) (by kernel_rfl) (by kernel_rfl) ?_)|(refine ⟨⟨_,rfl,rfl⟩,?_⟩)|(refine ⟨trivial,?_⟩)|(refine A4 hb6' ?_)|(refine A4 hb7 ?_)|refine gS ?_|refine aA ?_|refine nA ?_|fail)<;>(conv=>whnf))
  refine ⟨_,Sub.refl _,?_⟩
  unfold Y1
  rw [hnf]
  exact ⟨(y,nx,false),_,_,rfl,⟨kd,tx,rfl⟩,hP7.put c4 m1 m2 _ _⟩
 ·rw [hnf] at hv5
  obtain ⟨rfl,hP5⟩:=hv5
  have ha1:=C01 hnf
  refine wp ?_
  intro b6 hb6
  obtain ⟨m5,m6⟩:=hP5.nb hb6
  have c6:=hP5.sub.none hb6
  have hP6:=(hP5.box hb6 23 [.str [],.int .i64 0,.int .i64 0]).put c6 m5 m6 23 (Tr.W8 x)
  have hb6':((s5.set b6 23 [.str [],.int .i64 0,.int .i64 0]).set b6 23 (Tr.W8 x)).bx b6=some (23,Tr.W8 x):=A1
  have htk:=V9 (Γ:=Γ) (hP6.keep hb6' m5 m6) (by omega) (by omega) K7
  conv=>whnf
  repeat' ((first|exact pru|(refine brS (fun h=>?_) (fun h=>?_)<;>(try rw [h])<;>(try simp only [bS,↓reduceIte] at h))|(refine AWp.anyL (id:=2) [] [19] 6 b6 (by kernel_rfl) (by kernel_rfl) (by kernel_rfl) (by kernel_rfl) ?_)|(refine ⟨⟨_,rfl,rfl⟩,?_⟩)|(refine ⟨trivial,?_⟩)|(refine A4 hb6' ?_)|(refine A0.by htk ?_;rintro _ s7 ⟨rfl,hP7⟩)|refine gS ?_|refine aA ?_|refine nA ?_|fail)<;>(conv=>whnf))
  obtain ⟨hP7b,hb7⟩:=hP7.drop c6
  obtain ⟨hP8,hb8⟩:=hP7b.drop c4
  refine ⟨hb7.trans hb6'.symm,?_⟩
  conv=>whnf
  repeat' ((first|exact pru|(refine brS (fun h=>?_) (fun h=>?_)<;>(try rw [h])<;>(try simp only [bS,↓reduceIte] at h))|(refine ⟨trivial,?_⟩)|(refine A4 hb8 ?_)|refine gS ?_|refine aA ?_|refine nA ?_|fail)<;>(conv=>whnf))
  refine ⟨_,Sub.refl _,?_⟩
  unfold Y1
  simp only [hnf]
  exact ⟨rfl,hP8.put c4 m1 m2 _ _⟩
end
section
variable {s0 s:Sto} {bp bl:Nat} {L:List Tok} {a:Nat} {o:List Ex} {d:List Int} {k:Int}
theorem D7g (hE:Nu.Z8 Γ) (hT:∀ i,(B0 L i).2.1.length≤5000) (hP:Pst s0 s bp bl L a o d k) (hL:L.length≤100000) (ha:a≤80000) :
  A0 Tryz.prog Γ 232 [.ptr (some ⟨bp,0,none⟩)] s (K1 s0 bp bl L o d k (fun x=>.agg (Tr.arA x)) (A68 L a)):=by
 have hw:IntKind.i64.wrap ((a:Int)+1)=((a+1:Nat):Int):=C3 (by omega) (by omega) (by omega)
 have htok:∃ p1 p2 p3 p4,B0 L a=(p1,p2,p3,p4):=⟨_,_,_,_,rfl⟩
 obtain ⟨p1,p2,p3,p4,hp⟩:=htok
 have eF:A68 L a=if p1=1∧p2=[95] then .ok ((3,[],Tr.R3,p3,p4),a+1) else if p1≠1 then (match J6 L a with|.error e=>.error e|.ok (v,a')=>.ok ((1,[],v,p3,p4),a')) else .ok ((2,p2,Tr.R3,p3,p4),a+1):=by
  unfold A68;rw [hp];rfl
 refine acs Tryz.func232 ?_
 conv=>whnf
 intro b2 hb2
 conv=>whnf
 obtain ⟨m1,m2⟩:=hP.nb hb2
 have c2:s0.bx b2=none:=hP.sub.none hb2
 have hP2:=hP.box hb2 93 [.int .i64 0,.str [],.int .i64 0,.int .i64 0,.str [],.bool false,.int .i64 0,.int .i64 0]
 have hb2':(s.set b2 93 [.int .i64 0,.str [],.int .i64 0,.int .i64 0,.str [],.bool false,.int .i64 0,.int .i64 0]).bx b2=some (93,[.int .i64 0,.str [],.int .i64 0,.int .i64 0,.str [],.bool false,.int .i64 0,.int .i64 0]):=A1
 have hpk2:=A0j (Γ:=Γ) hP2.pl (by omega) (by omega)
 rw [hp] at hpk2
 simp only [P3] at hpk2
 obtain ⟨t1',t2',hb0',_⟩:=hP2.pr
 generalize s.set b2 93 [.int .i64 0,.str [],.int .i64 0,.int .i64 0,.str [],.bool false,.int .i64 0,.int .i64 0]=sa at *
 refine wp ?_;(refine A0.by hpk2 ?_;rintro _ s4 ⟨rfl,hs4⟩;subst s4);refine wp ?_
 intro b4 hb4
 obtain ⟨m3,m4⟩:=hP2.nb hb4
 have n_b2_b4:b2≠b4:=A3 hb2' hb4
 have hPb:=(hP2.box hb4 163 [.int .i64 0,.str [],.int .i64 0,.int .i64 0]).put (hP2.sub.none hb4) m3 m4 163 (P3 (p1,p2,p3,p4))
 have hb2b:((sa.set b4 163 [.int .i64 0,.str [],.int .i64 0,.int .i64 0]).set b4 163 (P3 (p1,p2,p3,p4))).bx b2=some (93,[.int .i64 0,.str [],.int .i64 0,.int .i64 0,.str [],.bool false,.int .i64 0,.int .i64 0]):=((A2 n_b2_b4).trans (A2 n_b2_b4)).trans hb2'
 have hb4b:((sa.set b4 163 [.int .i64 0,.str [],.int .i64 0,.int .i64 0]).set b4 163 (P3 (p1,p2,p3,p4))).bx b4=some (163,P3 (p1,p2,p3,p4)):=A1
 refine wp ?_
 simp only [P3] at hPb hb2b hb4b
 generalize (sa.set b4 163 _).set b4 163 _=sb at *
 intro b5 hb5
 obtain ⟨m5,m6⟩:=hPb.nb hb5
 have c5:s0.bx b5=none:=hPb.sub.none hb5
 have n_b2_b5:b2≠b5:=A3 hb2b hb5
 have n_b4_b5:b4≠b5:=A3 hb4b hb5
 have n_b5_b2:=n_b2_b5.symm
 have hPc:=(hPb.box hb5 93 [.int .i64 0,.str [],.int .i64 0,.int .i64 0,.str [],.bool false,.int .i64 0,.int .i64 0]).put c5 m5 m6 93 [.int .i64 2,.str p2,.int .i64 0,.int .i64 0,.str [],.bool false,.int .i64 p3,.int .i64 p4]
 have hb2c:((sb.set b5 93 [.int .i64 0,.str [],.int .i64 0,.int .i64 0,.str [],.bool false,.int .i64 0,.int .i64 0]).set b5 93 [.int .i64 2,.str p2,.int .i64 0,.int .i64 0,.str [],.bool false,.int .i64 p3,.int .i64 p4]).bx b2=some (93,[.int .i64 0,.str [],.int .i64 0,.int .i64 0,.str [],.bool false,.int .i64 0,.int .i64 0]):=((A2 n_b2_b5).trans (A2 n_b2_b5)).trans hb2b
 have hb4c:((sb.set b5 93 [.int .i64 0,.str [],.int .i64 0,.int .i64 0,.str [],.bool false,.int .i64 0,.int .i64 0]).set b5 93 [.int .i64 2,.str p2,.int .i64 0,.int .i64 0,.str [],.bool false,.int .i64 p3,.int .i64 p4]).bx b4=some (163,[.int .i64 p1,.str p2,.int .i64 p3,.int .i64 p4]):=((A2 n_b4_b5).trans (A2 n_b4_b5)).trans hb4b
 have hb5c:((sb.set b5 93 [.int .i64 0,.str [],.int .i64 0,.int .i64 0,.str [],.bool false,.int .i64 0,.int .i64 0]).set b5 93 [.int .i64 2,.str p2,.int .i64 0,.int .i64 0,.str [],.bool false,.int .i64 p3,.int .i64 p4]).bx b5=some (93,[.int .i64 2,.str p2,.int .i64 0,.int .i64 0,.str [],.bool false,.int .i64 p3,.int .i64 p4]):=A1
 conv=>whnf
 repeat' ((first|exact pru|(refine brS (fun h=>?_) (fun h=>?_)<;>(try rw [h])<;>(try simp only [bS,↓reduceIte] at h))|refine gS ?_|refine aA ?_|refine nA ?_|fail)<;>(conv=>whnf))
 generalize (sb.set b5 93 _).set b5 93 _=sc at *
 have m1':=m1.symm
 have m2':=m2.symm
 have m5':=m5.symm
 have m6':=m6.symm
 obtain ⟨u1,u2,hbc,_⟩:=hPc.pr
 have hplc:=hPc.pl
 conv=>whnf
 by_cases h1:p1=1
 ·by_cases h2:p2=[95]
  ·rw [if_pos ⟨h1,h2⟩] at eF
   repeat' ((first|exact pru|(refine brS (fun h=>?_) (fun h=>?_)<;>(try rw [h])<;>(try simp only [bS,↓reduceIte] at h))|refine D3 ?_|(rw [hw])|refine gS ?_|refine aA ?_|refine nA ?_|fail)<;>(conv=>whnf))
   all_goals try (exfalso;first|contradiction|(exact absurd h2 (by assumption)))
   all_goals (refine ⟨_,Sub.refl _,?_⟩;rw [eF];exact ⟨rfl,(((hPc.put c5 m5 m6 _ _).put c5 m5 m6 _ _).next (a+1)).put c2 m1 m2 _ _⟩)
  ·rw [if_neg (fun h=>h2 h.2),if_neg (fun h=>h h1)] at eF
   repeat' ((first|exact pru|(refine brS (fun h=>?_) (fun h=>?_)<;>(try rw [h])<;>(try simp only [bS,↓reduceIte] at h))|refine D3 ?_|(rw [hw])|refine gS ?_|refine aA ?_|refine nA ?_|fail)<;>(conv=>whnf))
   all_goals try (exfalso;first|contradiction|exact h2 (by assumption))
   all_goals (refine ⟨_,Sub.refl _,?_⟩;rw [eF];exact ⟨rfl,(hPc.next (a+1)).put c2 m1 m2 _ _⟩)
 ·rw [if_neg (fun h=>h1 h.1),if_pos h1] at eF
  have hv:=B7h (Γ:=Γ) hE ((hPc.keep hb2c m1 m2).keep hb5c m5 m6) hL (by omega) hT
  refine wp ?_
  refine A0.by hv ?_
  intro v s7 hv7
  unfold C1q at hv7
  have c5':(s0.set b2 93 [.int .i64 0,.str [],.int .i64 0,.int .i64 0,.str [],.bool false,.int .i64 0,.int .i64 0]).bx b5=none:=(A2 n_b5_b2).trans c5
  rcases hkf:J6 L a with z|⟨q,a2⟩
  ·rw [hkf] at hv7 eF
   obtain ⟨e,a',rfl,⟨kd,tx,rfl⟩,hP7⟩:=hv7
   obtain ⟨hP8,hb58⟩:=hP7.drop c5'
   obtain ⟨hP9,hb28⟩:=hP8.drop c2
   refine wp ?_
   intro b6 hb6
   obtain ⟨m7,m8⟩:=hP9.nb hb6
   have c6:=hP9.sub.none hb6
   have n_b5_b6:b5≠b6:=A3 hb58 hb6
   have n_b6_b5:=n_b5_b6.symm
   have n_b2_b6:b2≠b6:=A3 hb28 hb6
   conv=>whnf
   repeat' ((first|exact pru|(refine brS (fun h=>?_) (fun h=>?_)<;>(try rw [h])<;>(try simp only [bS,↓reduceIte] at h))|refine D3 ?_|(refine AWp.anyP (id:=7) [(6,true),(41,false),(42,false),(43,false)] (fun k=>cond k b6 b5) [0,1,2,3,4,5,6] n_b6_b5 (by kernel_rfl) (by kernel_rfl) (by kernel_rfl) (by kernel_rfl) ?_)|(refine ⟨(by first|exact trivial|exact ⟨_,rfl,rfl⟩),?_⟩)|refine gS ?_|refine aA ?_|refine nA ?_|fail)<;>(conv=>whnf))
   all_goals (refine ⟨_,Sub.refl _,?_⟩;rw [eF];exact ⟨(1,[],(0,0,[],false),p3,p4),_,_,rfl,⟨kd,tx,rfl⟩,((((((hP9.box hb6 _ _).put c6 m7 m8 _ _).put c5 m5 m6 _ _).put c5 m5 m6 _ _).put c5 m5 m6 _ _).put c2 m1 m2 _ _)⟩)
  ·rw [hkf] at hv7 eF
   obtain ⟨rfl,hP7⟩:=hv7
   obtain ⟨hP8,hb58⟩:=hP7.drop c5'
   obtain ⟨hP9,hb28⟩:=hP8.drop c2
   refine wp ?_
   intro b6 hb6
   obtain ⟨m7,m8⟩:=hP9.nb hb6
   have c6:=hP9.sub.none hb6
   have n_b5_b6:b5≠b6:=A3 hb58 hb6
   have n_b6_b5:=n_b5_b6.symm
   have n_b2_b6:b2≠b6:=A3 hb28 hb6
   conv=>whnf
   repeat' ((first|exact pru|(refine brS (fun h=>?_) (fun h=>?_)<;>(try rw [h])<;>(try simp only [bS,↓reduceIte] at h))|refine D3 ?_|(refine AWp.anyP (id:=7) [(6,true),(41,false),(42,false),(43,false)] (fun k=>cond k b6 b5) [0,1,2,3,4,5,6] n_b6_b5 (by kernel_rfl) (by kernel_rfl) (by kernel_rfl) (by kernel_rfl) ?_)|(refine ⟨(by first|exact trivial|exact ⟨_,rfl,rfl⟩),?_⟩)|refine gS ?_|refine aA ?_|refine nA ?_|fail)<;>(conv=>whnf))
   all_goals (refine ⟨_,Sub.refl _,?_⟩;rw [eF];exact ⟨rfl,((((((hP9.box hb6 _ _).put c6 m7 m8 _ _).put c5 m5 m6 _ _).put c5 m5 m6 _ _).put c5 m5 m6 _ _).put c2 m1 m2 _ _)⟩)
end
section
variable {s0 s:Sto} {bp bl:Nat} {L:List Tok} {a:Nat} {o:List Ex} {d:List Int} {k:Int}
def D2g {α β:Type} (base:List α→β→Sto) (bp bl:Nat) (L:List Tok) (o:List Ex) (d:List Int) (k:Int) (r:Res (List α × Nat)) (v:AV) (s':Sto):Prop :=
 match r with
 | .ok (l,a')=>v=.nilIface∧∃ t,Pst (base l t) s' bp bl L a' o d k
 | .error x=>A8x x v∧∃ l t a',Pst (base l t) s' bp bl L a' o d k
def D58 {α β:Type} (base:List α→β→Sto) (bp bl:Nat) (L:List Tok) (o:List Ex) (d:List Int) (k:Int) (acc:List α) (r:Res (α × Nat)) (v:AV) (s':Sto):Prop :=
 match r with
 | .ok (x,a')=>v=.nilIface∧∃ t,Pst (base (acc++[x]) t) s' bp bl L a' o d k
 | .error x=>A8x x v∧∃ l t a',Pst (base l t) s' bp bl L a' o d k
theorem C7e {α β:Type} {base:List α→β→Sto} {one:Nat→Res (α × Nat)} {n:FuncId} {cs:List AV} {t0:β} (hn:A2y Tryz.prog n=true)
  (hmono:∀ a x a1,one a=.ok (x,a1)→a < a1∧a1≤L.length)
  (hone:∀ acc t a s,a≤70000→acc.length≤a→Pst (base acc t) s bp bl L a o d k→A0 Tryz.prog Γ n cs s (D58 base bp bl L o d k acc (one a)))
  (hP:Pst (base [] t0) s bp bl L a o d k) (hL:L.length≤66000) (ha:a≤70000) :
  A0 Tryz.prog Γ 227 [.ptr (some ⟨bp,0,none⟩),.func (.func n) [] cs] s (D2g base bp bl L o d k (A1d L one a)):=by
 have hw:=A1o (Γ:=Γ) hP (by omega) (by omega) [[40]] (by decide) 1
 refine acs Tryz.func227 ?_
 refine wp ?_
 refine A0.by hw ?_
 intro v s5 hv5
 unfold A89 at hv5
 cases h40:isF L a [40]
 ·have e1:C7 L [[40]] a=A1u L a 16:=by rw [C7,h40];rfl
  have e2:A1d L one a=A1u L a 16:=by rw [A1d,h40];rfl
  rw [e1] at hv5
  obtain ⟨a',⟨kd,tx,rfl⟩,hP5⟩:=hv5
  refine wp ?_
  refine ⟨_,Sub.refl _,?_⟩
  rw [e2]
  exact ⟨⟨kd,tx,rfl⟩,[],t0,a',hP5⟩
 ·have e1:C7 L [[40]] a=.ok (a+1):=by rw [C7,h40];rfl
  have hlt:=D1 h40
  rw [e1] at hv5
  obtain ⟨rfl,hP5⟩:=hv5
  have htk:=V9 (Γ:=Γ) hP5 (by omega) (by omega) [41]
  conv=>whnf
  cases h41:isF L (a+1) [41]
  ·rw [h41] at htk
   simp only [Bool.false_eq_true,if_false] at htk
   have e2:A1d L one a=X7 L one (L.length+1) [] (a+1):=by rw [A1d,h40,h41];rfl
   rw [e2]
   refine wp ?_;(refine A0.by htk ?_;rintro _ s6 ⟨rfl,hP6⟩);refine wp ?_
   refine AWp.loopA [] [17,18,6,19,20,21,4,22,23,24,25,26,27] (fun _:List α × Nat × β=>[]) (fun q s'=>q.2.1≤L.length∧q.1.length≤q.2.1∧Pst (base q.1 q.2.2) s' bp bl L q.2.1 o d k∧∃ m,L.length - q.2.1 < m∧X7 L one (L.length+1) [] (a+1)=X7 L one m q.1 q.2.1) (fun q=>L.length - q.2.1) (([],a+1,t0)) (by kernel_rfl) (rfl) ?_ ?_
   ·exact ⟨hlt,Nat.zero_le _,hP6,L.length+1,by simp only;omega,rfl⟩
   ·rintro y ⟨acc,b,t⟩ s7 ⟨hb,hac,hP7,m,hm,hq⟩
    simp only at hb hac hP7 hm hq
    rw [hq]
    obtain ⟨m,rfl⟩:∃ m',m=m'+1:=⟨m - 1,by omega⟩
    have ho:=hone acc t b s7 (by omega) hac hP7
    show awp _ _ _ _ _ (updL _ _ []) _
    conv=>whnf
    rw [hn]
    dsimp only
    rw [D2]
    refine A0.by ho ?_
    intro v s8 hv8
    unfold D58 at hv8
    rcases h1:one b with x|⟨x,b1⟩
    ·rw [h1] at hv8
     obtain ⟨⟨kd,tx,rfl⟩,l,t',a',hP8⟩:=hv8
     have e3:X7 L one (m+1) acc b=.error x:=by rw [X7,h1]
     refine wp ?_
     refine ⟨_,Sub.refl _,?_⟩
     rw [e3]
     exact ⟨⟨kd,tx,rfl⟩,l,t',a',hP8⟩
    ·rw [h1] at hv8
     obtain ⟨rfl,t',hP8⟩:=hv8
     obtain ⟨q1,q2⟩:=hmono _ _ _ h1
     have htk2:=V9 (Γ:=Γ) hP8 (by omega) (by omega) [44]
     conv=>whnf
     cases h44:isF L b1 [44]
     ·rw [h44] at htk2
      simp only [Bool.false_eq_true,if_false] at htk2
      refine wp ?_;(refine A0.by htk2 ?_;rintro _ s9 ⟨rfl,hP9⟩);refine wp ?_
      have hw2:=A1o (Γ:=Γ) hP9 (by omega) (by omega) [[41]] (by decide) 1
      refine A0.by hw2 ?_
      intro v sx hvx
      unfold A89 at hvx
      cases h412:isF L b1 [41]
      ·have e3:X7 L one (m+1) acc b=A1u L b1 16:=by rw [X7,h1];simp [h44,h412]
       rw [show C7 L [[41]] b1=A1u L b1 16 by rw [C7,h412];rfl] at hvx
       obtain ⟨a',⟨kd,tx,rfl⟩,hPx⟩:=hvx
       refine wp ?_
       refine ⟨_,Sub.refl _,?_⟩
       rw [e3]
       exact ⟨⟨kd,tx,rfl⟩,_,t',a',hPx⟩
      ·have e3:X7 L one (m+1) acc b=.ok (acc++[x],b1+1):=by rw [X7,h1];simp [h44,h412]
       rw [show C7 L [[41]] b1=.ok (b1+1) by rw [C7,h412];rfl] at hvx
       obtain ⟨rfl,hPx⟩:=hvx
       refine wp ?_
       refine ⟨_,Sub.refl _,?_⟩
       rw [e3]
       exact ⟨rfl,t',hPx⟩
     ·rw [h44] at htk2
      simp only [if_true] at htk2
      have hl2:=D1 h44
      have e3:X7 L one (m+1) acc b=X7 L one m (acc++[x]) (b1+1):=by rw [X7,h1];simp [h44]
      refine wp ?_;(refine A0.by htk2 ?_;rintro _ s9 ⟨rfl,hP9⟩);refine wp ?_
      exact ⟨(acc++[x],b1+1,t'),rfl,B9,⟨hl2,by simp only [List.length_append,List.length_cons,List.length_nil];omega,hP9,m,by simp only;omega,e3⟩,by simp only;omega⟩
  ·rw [h41] at htk
   simp only [if_true] at htk
   have e2:A1d L one a=.ok ([],a+2):=by rw [A1d,h40,h41];rfl
   refine wp ?_;(refine A0.by htk ?_;rintro _ s6 ⟨rfl,hP6⟩);refine wp ?_
   refine ⟨_,Sub.refl _,?_⟩
   rw [e2]
   exact ⟨rfl,t0,hP6⟩
end
end Go.Proofs.YticnkpgmmpenlaaGreatDoor.Pa
namespace Go.Proofs.YticnkpgmmpenlaaGreatDoor.Pa
open Go Go.Ab Go.RowKit Go.Proofs.YticnkpgmmpenlaaGreatDoor.Lx
section
variable {s0 s7:Sto} {bp bl:Nat} {L:List Tok} {a:Nat} {o:List Ex} {d:List Int} {k:Int}
def A6o (s0:Sto) (b:Nat) (T:TypeId) (cs:List AV) (t:Nat) (e:TypeId) (m:Nat):Sto:=(s0.set b T cs).grow 1 t e m
theorem A6p {b c:Nat} {T:TypeId} {cs:List AV} {t:Nat} {e:TypeId} {m:Nat}:(A6o s0 b T cs t e m).bx c=(s0.set b T cs).bx c:=rfl
theorem A1h {b:Nat} {T:TypeId} {cs:List AV} {t:Nat} {e:TypeId} {m u:Nat} {e':TypeId} {k':Nat}:(A6o s0 b T cs t e m).lv u e' k'↔(u=t∧t≠1∧e'=e∧k'=m)∨s0.lv u e' k':=by
 unfold A6o Sto.grow Sto.set
 simp
theorem B9g {b:Nat} {T:TypeId} {cs cs':List AV} {t t':Nat} {e:TypeId} {m:Nat} {z:Bool} {u:Nat} {eu:TypeId} {mu:Nat} (h:Own (A6o s0 b T cs t e m) s7 z u eu mu) (ht:t=1∨∀ e k,¬ s0.lv t e k) (k2:t'≠t→∀ e' k',¬ s7.lv t' e' k') (hc:s0.bx b=none) :
  Own (A6o s0 b T cs' t' e m) ((s7.grow t t' e m).set b T cs') z u eu mu:=by
 have hsub:∀ c x,s0.bx c=some x→s7.bx c=some x:=fun c x hx=>h.sub.bx c x (by
  show (s0.set b T cs).bx c=some x
  rw [A2 (fun hcb=>by subst hcb;rw [hc] at hx;cases hx)]
  exact hx)
 refine ⟨⟨fun c x hx=>?_,fun v e' k' hx=>?_⟩,?_⟩
 ·have hx:(s0.set b T cs').bx c=some x:=hx
  by_cases hcb:c=b
  ·subst hcb
   rw [A1] at hx ⊢
   exact hx
  ·rw [A2 hcb] at hx ⊢
   exact hsub c x hx
 ·show (v=t'∧t'≠1∧e'=e∧k'=m)∨(s7.lv v e' k'∧(v≠t∨t=1))
  rcases A1h.1 hx with hx|hx
  ·exact .inl hx
  ·refine .inr ⟨h.sub.lv _ _ _ (A1h.2 (.inr hx)),?_⟩
   rcases ht with ht|ht
   ·exact .inr ht
   ·exact .inl fun hv=>ht _ _ (hv ▸ hx)
 ·rcases h.own with h1|⟨h1,h2,h3⟩
  ·exact .inl h1
  ·have n1:u≠t:=fun hu=>h3 e m (A1h.2 (.inl ⟨hu,fun ht1=>h1 (hu.trans ht1),rfl,rfl⟩))
   have n2:u≠t':=fun hu=>by
    by_cases htt:t'=t
    ·exact n1 (hu.trans htt)
    ·exact k2 htt _ _ (hu ▸ h2)
   refine .inr ⟨h1,.inr ⟨h2,.inl n1⟩,fun e' k' hx=>?_⟩
   rcases A1h.1 hx with hx|hx
   ·exact n2 hx.1
   ·exact h3 _ _ (A1h.2 (.inr hx))
theorem Pst.grown {b:Nat} {T:TypeId} {cs cs':List AV} {t t':Nat} {e:TypeId} {m:Nat} (hP:Pst (A6o s0 b T cs t e m) s7 bp bl L a o d k) (ht:t=1∨∀ e k,¬ s0.lv t e k) (k2:t'≠t→∀ e' k',¬ s7.lv t' e' k') (hc:s0.bx b=none) (h1:b≠bp) (h2:b≠bl) :
  Pst (A6o s0 b T cs' t' e m) ((s7.grow t t' e m).set b T cs') bp bl L a o d k∧(t'=1∨∀ e k,¬ s0.lv t' e k):=by
 obtain ⟨np,nl,ne,⟨t1,t2,e1,e2,e3,e4⟩,pl⟩:=hP
 have np':(s0.set b T cs).bx bp=none:=np
 have nl':(s0.set b T cs).bx bl=none:=nl
 rw [A2 h1.symm] at np'
 rw [A2 h2.symm] at nl'
 refine ⟨⟨?_,?_,ne,⟨t1,t2,?_,B9g e2 ht k2 hc,B9g e3 ht k2 hc,e4⟩,?_⟩,?_⟩
 ·show (s0.set b T cs').bx bp=none
  rw [A2 h1.symm];exact np'
 ·show (s0.set b T cs').bx bl=none
  rw [A2 h2.symm];exact nl'
 ·rw [A2 h1.symm];exact e1
 ·rw [A2 h2.symm];exact pl
 ·by_cases htt:t'=t
  ·rw [htt];exact ht
  ·exact .inr fun e' k' hx=>k2 htt _ _ (e2.sub.lv _ _ _ (A1h.2 (.inr hx)))
end
end Go.Proofs.YticnkpgmmpenlaaGreatDoor.Pa
namespace Go.Proofs.YticnkpgmmpenlaaGreatDoor.Pa
open Go Go.Ab Go.RowKit Go.Proofs.YticnkpgmmpenlaaGreatDoor.Lx
variable {Γ:Nat→AV}
attribute [local irreducible] A5 Sto.set Sto.grow
section
variable {s1 s:Sto} {bp bl:Nat} {L:List Tok} {a:Nat} {o:List Ex} {d:List Int} {k:Int}
abbrev B37 (s1:Sto):={t:Nat // t=1∨∀ e k,¬ s1.lv t e k}
def deB (s1:Sto) (b6:Nat) (x:Tr.Idn) (acc:List Int) (t:B37 s1):Sto:=A6o s1 b6 54 [.str x.1,.int .i64 x.2.1,.int .i64 x.2.2,.slice t.1 (G7 .i64 acc)] t.1 3 1
theorem C46 {b1 b6:Nat} {x:Tr.Idn} (c6:s1.bx b6=none) (hb1:s1.bx b1=some (96,[.ptr (some ⟨bp,0,none⟩)])) (n1:b6≠bp) (n2:b6≠bl) (hL:L.length≤66000) (acc:List Int) (t:B37 s1) (ha:a≤70000) (hac:acc.length≤100000)
  (hP:Pst (deB s1 b6 x acc t) s bp bl L a o d k) :
  A0 Tryz.prog Γ 228 [.ptr (some ⟨b1,0,none⟩),.ptr (some ⟨b6,0,none⟩)] s (D58 (deB s1 b6 x) bp bl L o d k acc (A1b L a)):=by
 have n16:b1≠b6:=fun h=>by subst h;rw [c6] at hb1;cases hb1
 have hbx:∀ {s:Sto} {a:Nat},Pst (deB s1 b6 x acc t) s bp bl L a o d k→s.bx b1=some (96,[.ptr (some ⟨bp,0,none⟩)])∧s.bx b6=some (54,[.str x.1,.int .i64 x.2.1,.int .i64 x.2.2,.slice t.1 (G7 .i64 acc)]):=fun h =>
  ⟨h.sub.bx _ _ (A6p.trans ((A2 n16).trans hb1)),h.sub.bx _ _ (A6p.trans A1)⟩
 have hk:=C64 (Γ:=Γ) hP (by omega) (by omega)
 obtain ⟨g1,g6⟩:=hbx hP
 refine acs Tryz.func228 ?_
 refine wp ?_
 refine A0.by hk ?_
 intro v s7 hv7
 unfold K1 at hv7
 rcases hkf:A1b L a with z|⟨q,a2⟩
 ·rw [hkf] at hv7
  obtain ⟨y,e,a',rfl,⟨kd,tx,rfl⟩,hP7⟩:=hv7
  obtain ⟨f1,f6⟩:=hbx hP7
  have may:t.1=1∨s7.lv t.1 3 1:=by
   by_cases h:t.1=1
   ·exact .inl h
   ·exact .inr (hP7.sub.lv _ _ _ (A1h.2 (.inl ⟨rfl,h,rfl,rfl⟩)))
  refine wp ?_
  refine ⟨may,fun c hc=>by obtain ⟨z,_,rfl⟩:=List.mem_map.1 hc;rfl,all_cons ⟨rfl,rfl⟩ all_nil,?_,?_⟩
  ·show ((G7 .i64 acc).length+1) * (_+1)≤_
   rw [M8]
   exact Nat.le_trans (Nat.mul_le_mul_right _ (show acc.length+1≤100001 by omega)) (Nat.le_of_ble_eq_true (by kernel_rfl))
  intro t' k1 k2
  obtain ⟨hP8,hf⟩:=Pst.grown (cs':=[.str x.1,.int .i64 x.2.1,.int .i64 x.2.2,.slice t' (G7 .i64 acc++[[.int .i64 y]])]) hP7 t.2 k2 c6 n1 n2
  have f6':=(Q4 (t:=t.1) (t':=t') (e:=3) (k:=1)).trans f6
  refine wp ?_
  refine ⟨_,Sub.refl _,?_⟩
  rw [show G7 .i64 acc++[[AV.int .i64 y]]=G7 .i64 (acc++[y]) by simp [G7]] at hP8 ⊢
  exact ⟨⟨kd,tx,rfl⟩,acc++[y],⟨t',hf⟩,a',hP8⟩
 ·rw [hkf] at hv7
  obtain ⟨rfl,hP7⟩:=hv7
  obtain ⟨f1,f6⟩:=hbx hP7
  have may:t.1=1∨s7.lv t.1 3 1:=by
   by_cases h:t.1=1
   ·exact .inl h
   ·exact .inr (hP7.sub.lv _ _ _ (A1h.2 (.inl ⟨rfl,h,rfl,rfl⟩)))
  refine wp ?_
  refine ⟨may,fun c hc=>by obtain ⟨z,_,rfl⟩:=List.mem_map.1 hc;rfl,all_cons ⟨rfl,rfl⟩ all_nil,?_,?_⟩
  ·show ((G7 .i64 acc).length+1) * (_+1)≤_
   rw [M8]
   exact Nat.le_trans (Nat.mul_le_mul_right _ (show acc.length+1≤100001 by omega)) (Nat.le_of_ble_eq_true (by kernel_rfl))
  intro t' k1 k2
  obtain ⟨hP8,hf⟩:=Pst.grown (cs':=[.str x.1,.int .i64 x.2.1,.int .i64 x.2.2,.slice t' (G7 .i64 acc++[[.int .i64 q]])]) hP7 t.2 k2 c6 n1 n2
  have f6':=(Q4 (t:=t.1) (t':=t') (e:=3) (k:=1)).trans f6
  refine wp ?_
  refine ⟨_,Sub.refl _,?_⟩
  rw [show G7 .i64 acc++[[AV.int .i64 q]]=G7 .i64 (acc++[q]) by simp [G7]] at hP8 ⊢
  exact ⟨rfl,⟨t',hf⟩,hP8⟩
end
end Go.Proofs.YticnkpgmmpenlaaGreatDoor.Pa
namespace Go.Proofs.YticnkpgmmpenlaaGreatDoor.Pa
open Go Go.Ab Go.RowKit Go.Proofs.YticnkpgmmpenlaaGreatDoor.Lx
theorem _root_.Go.Ab.Sto.grow_one (s:Sto) (e:TypeId) (m:Nat):s.grow 1 1 e m=s:=by
 unfold Sto.grow
 cases s with
 | mk bx lv fin =>
  simp only [Sto.mk.injEq,true_and]
  funext u e' k'
  simp
section
variable {s0 s7:Sto} {bp bl:Nat} {L:List Tok} {a:Nat} {o:List Ex} {d:List Int} {k:Int}
theorem B6n {b:Nat} {T:TypeId} {cs:List AV} {e:TypeId} {m:Nat}:A6o s0 b T cs 1 e m=s0.set b T cs:=Sto.grow_one _ _ _
theorem D3g {b:Nat} {T:TypeId} {cs:List AV} {t:Nat} {e:TypeId} {m:Nat} (hb:s0.bx b=none):Sub s0 (A6o s0 b T cs t e m):=by
 have h1:Sub s0 (s0.set b T cs):=(Sub.refl s0).set hb T cs
 exact ⟨fun c x hx=>h1.bx c x hx,fun u e' k' hx=>A1h.2 (.inr hx)⟩
theorem Pst.dropRow {b:Nat} {T:TypeId} {cs:List AV} {t:Nat} {e:TypeId} {m:Nat} (hP:Pst (A6o s0 b T cs t e m) s7 bp bl L a o d k) (hb:s0.bx b=none):Pst s0 s7 bp bl L a o d k∧s7.bx b=some (T,cs)∧(t=1∨s7.lv t e m):=by
 obtain ⟨np,nl,ne,⟨t1,t2,e1,e2,e3,e4⟩,pl⟩:=hP
 have hsb:Sub s0 (A6o s0 b T cs t e m):=D3g hb
 refine ⟨⟨hsb.none np,hsb.none nl,ne,⟨t1,t2,e1,e2.of_sub hsb,e3.of_sub hsb,e4⟩,pl⟩,e2.sub.bx _ _ (A6p.trans A1),?_⟩
 by_cases h:t=1
 ·exact .inl h
 ·exact .inr (e2.sub.lv _ _ _ (A1h.2 (.inl ⟨rfl,h,rfl,rfl⟩)))
def A0f (s0:Sto) (t:Nat) (e:TypeId) (m:Nat):Sto:=s0.grow 1 t e m
theorem B1b {c:Nat} {t:Nat} {e:TypeId} {m:Nat}:(A0f s0 t e m).bx c=s0.bx c:=rfl
theorem A4m {t:Nat} {e:TypeId} {m u:Nat} {e':TypeId} {k':Nat}:(A0f s0 t e m).lv u e' k'↔(u=t∧t≠1∧e'=e∧k'=m)∨s0.lv u e' k':=by
 unfold A0f Sto.grow
 simp
theorem A5o {e:TypeId} {m:Nat}:A0f s0 1 e m=s0:=Sto.grow_one _ _ _
theorem C31 {t:Nat} {e:TypeId} {m:Nat}:Sub s0 (A0f s0 t e m):=⟨fun _ _ h=>h,fun _ _ _ hx=>A4m.2 (.inr hx)⟩
theorem B5x {t t':Nat} {e:TypeId} {m:Nat} {z:Bool} {u:Nat} {eu:TypeId} {mu:Nat} (h:Own (A0f s0 t e m) s7 z u eu mu) (ht:t=1∨∀ e k,¬ s0.lv t e k) (k2:t'≠t→∀ e' k',¬ s7.lv t' e' k') :
  Own (A0f s0 t' e m) (s7.grow t t' e m) z u eu mu:=by
 refine ⟨⟨fun c x hx=>h.sub.bx c x hx,fun v e' k' hx=>?_⟩,?_⟩
 ·show (v=t'∧t'≠1∧e'=e∧k'=m)∨(s7.lv v e' k'∧(v≠t∨t=1))
  rcases A4m.1 hx with hx|hx
  ·exact .inl hx
  ·refine .inr ⟨h.sub.lv _ _ _ (A4m.2 (.inr hx)),?_⟩
   rcases ht with ht|ht
   ·exact .inr ht
   ·exact .inl fun hv=>ht _ _ (hv ▸ hx)
 ·rcases h.own with h1|⟨h1,h2,h3⟩
  ·exact .inl h1
  ·have n1:u≠t:=fun hu=>h3 e m (A4m.2 (.inl ⟨hu,fun ht1=>h1 (hu.trans ht1),rfl,rfl⟩))
   have n2:u≠t':=fun hu=>by
    by_cases htt:t'=t
    ·exact n1 (hu.trans htt)
    ·exact k2 htt _ _ (hu ▸ h2)
   refine .inr ⟨h1,.inr ⟨h2,.inl n1⟩,fun e' k' hx=>?_⟩
   rcases A4m.1 hx with hx|hx
   ·exact n2 hx.1
   ·exact h3 _ _ (A4m.2 (.inr hx))
theorem Pst.grownS {t t':Nat} {e:TypeId} {m:Nat} (hP:Pst (A0f s0 t e m) s7 bp bl L a o d k) (ht:t=1∨∀ e k,¬ s0.lv t e k) (k2:t'≠t→∀ e' k',¬ s7.lv t' e' k') :
  Pst (A0f s0 t' e m) (s7.grow t t' e m) bp bl L a o d k∧(t'=1∨∀ e k,¬ s0.lv t' e k):=by
 obtain ⟨np,nl,ne,⟨t1,t2,e1,e2,e3,e4⟩,pl⟩:=hP
 refine ⟨⟨np,nl,ne,⟨t1,t2,e1,B5x e2 ht k2,B5x e3 ht k2,e4⟩,pl⟩,?_⟩
 by_cases htt:t'=t
 ·rw [htt];exact ht
 ·exact .inr fun e' k' hx=>k2 htt _ _ (e2.sub.lv _ _ _ (A4m.2 (.inr hx)))
theorem Pst.dropS {t:Nat} {e:TypeId} {m:Nat} (hP:Pst (A0f s0 t e m) s7 bp bl L a o d k):Pst s0 s7 bp bl L a o d k∧(t=1∨s7.lv t e m):=by
 obtain ⟨np,nl,ne,⟨t1,t2,e1,e2,e3,e4⟩,pl⟩:=hP
 refine ⟨⟨np,nl,ne,⟨t1,t2,e1,e2.of_sub C31,e3.of_sub C31,e4⟩,pl⟩,?_⟩
 by_cases h:t=1
 ·exact .inl h
 ·exact .inr (e2.sub.lv _ _ _ (A4m.2 (.inl ⟨rfl,h,rfl,rfl⟩)))
theorem Pst.mayS {t:Nat} {e:TypeId} {m:Nat} (hP:Pst (A0f s0 t e m) s7 bp bl L a o d k):t=1∨s7.lv t e m:=hP.dropS.2
theorem Pst.mayB {b:Nat} {T:TypeId} {cs:List AV} {t:Nat} {e:TypeId} {m:Nat} (hP:Pst (A6o s0 b T cs t e m) s7 bp bl L a o d k):t=1∨s7.lv t e m:=by
 by_cases h:t=1
 ·exact .inl h
 ·exact .inr (hP.sub.lv _ _ _ (A1h.2 (.inl ⟨rfl,h,rfl,rfl⟩)))
end
end Go.Proofs.YticnkpgmmpenlaaGreatDoor.Pa
namespace Go.Proofs.YticnkpgmmpenlaaGreatDoor.Pa
open Go Go.Ab Go.RowKit Go.Proofs.YticnkpgmmpenlaaGreatDoor.Lx
variable {Γ:Nat→AV}
theorem _root_.Go.Ab.Le.tuple {l m:List AV} (h:LeL l m):Le (.tuple l) (.tuple m):=fun G w v hr=>by
 unfold R at hr ⊢
 obtain ⟨us,rfl,h2⟩:=hr
 exact ⟨us,rfl,h.run h2⟩
theorem _root_.Go.Ab.Le.agg {l m:List AV} (h:LeL l m):Le (.agg l) (.agg m):=fun G w v hr=>by
 unfold R at hr ⊢
 obtain ⟨us,rfl,h2⟩:=hr
 exact ⟨us,rfl,h.run h2⟩
attribute [local irreducible] A5 Sto.set Sto.grow
section
variable {s0 s:Sto} {bp bl:Nat} {L:List Tok} {a:Nat} {o:List Ex} {d:List Int} {k:Int}
def D99 {α:Type} (s0:Sto) (bp bl:Nat) (L:List Tok) (o:List Ex) (d:List Int) (k:Int) (V:Nat→α→AV) (r:Res (α × Nat)) (v:AV) (s':Sto):Prop :=
 match r with
 | .ok (x,a')=>(∃ t,v=.tuple [V t x,.nilIface])∧Pst s0 s' bp bl L a' o d k
 | .error x=>∃ t y e a',v=.tuple [V t y,e]∧A8x x e∧Pst s0 s' bp bl L a' o d k
theorem A35 {α:Type} {f:FuncId} {args:List AV} {V:Nat→α→AV} {U:α→AV} {r:Res (α × Nat)} (hV:∀ t x,Le (V t x) (U x)) (h:A0 Tryz.prog Γ f args s (D99 s0 bp bl L o d k V r)) :
  A0 Tryz.prog Γ f args s (K1 s0 bp bl L o d k U r):=by
 refine h.less fun v s' hv=>?_
 rcases r with z|⟨x,a'⟩
 ·obtain ⟨t,y,e,a',rfl,he,hP⟩:=hv
  exact ⟨.tuple [U y,e],s',Le.tuple (LeL.cons (hV t y) (LeL.cons (Le.refl _) LeL.nil)),B4b.refl _,y,e,a',rfl,he,hP⟩
 ·obtain ⟨⟨t,rfl⟩,hP⟩:=hv
  exact ⟨.tuple [U x,.nilIface],s',Le.tuple (LeL.cons (hV t x) (LeL.cons (Le.refl _) LeL.nil)),B4b.refl _,rfl,hP⟩
theorem A1e {x:Tr.Idn} {a1:Nat} (h:F9 L a=.ok (x,a1)):a1=a+1∧a < L.length:=by
 refine ⟨C01 h,?_⟩
 unfold F9 at h
 split at h
 ·cases h
 ·rename_i hn
  have hk:(B0 L a).1=1:=Decidable.not_not.1 fun h=>hn (.inl h)
  exact A2b (by rw [hk];decide)
theorem A8o (a:Nat) (x:Int) (a1:Nat) (h:A1b L a=.ok (x,a1)):a < a1∧a1≤L.length:=by
 unfold A1b at h
 split at h
 ·rename_i hi;cases h;exact ⟨Nat.lt_succ_self _,D1 hi⟩
 ·split at h
  ·rename_i hi;cases h;exact ⟨Nat.lt_succ_self _,D1 hi⟩
  ·split at h
   ·rename_i hi;cases h;exact ⟨Nat.lt_succ_self _,D1 hi⟩
   ·cases h
theorem D8x (t:Nat) (x:Tr.De):Le (.agg (Tr.deA (t,x))) (.agg (Tr.deA (0,x))):=Le.agg (LeL.cons (Le.refl _) (LeL.cons (Le.refl _) (LeL.cons (Le.refl _) (LeL.cons (Le.slice0 _ _) LeL.nil))))
theorem D47 (hP:Pst s0 s bp bl L a o d k) (hL:L.length≤66000) (ha:a≤69000) :
  A0 Tryz.prog Γ 169 [.ptr (some ⟨bp,0,none⟩)] s (K1 s0 bp bl L o d k (fun x=>.agg (Tr.deA (0,x))) (A06 L a)):=by
 refine A35 (V:=fun t x=>.agg (Tr.deA (t,x))) (fun t x=>D8x t x) ?_
 refine acs Tryz.func169 ?_
 conv=>whnf
 intro b1 hb1
 obtain ⟨p1,p2⟩:=hP.nb hb1
 have c1:s0.bx b1=none:=hP.sub.none hb1
 have hP1:=(hP.box hb1 96 [.ptr (some ⟨bp,0,none⟩)]).keep (T:=96) (cs:=[.ptr (some ⟨bp,0,none⟩)]) A1 p1 p2
 generalize s.set b1 96 [.ptr (some ⟨bp,0,none⟩)]=sx at *
 conv=>whnf
 intro b2 hb2
 obtain ⟨m1,m2⟩:=hP1.nb hb2
 have c2:(s0.set b1 96 [.ptr (some ⟨bp,0,none⟩)]).bx b2=none:=hP1.sub.none hb2
 have n12:b1≠b2:=A3 (hP1.sub.bx _ _ A1) hb2
 have hP2:=(hP1.box hb2 54 [.str [],.int .i64 0,.int .i64 0,.slice 1 []]).keep (T:=54) (cs:=[.str [],.int .i64 0,.int .i64 0,.slice 1 []]) A1 m1 m2
 have h1in:((s0.set b1 96 [.ptr (some ⟨bp,0,none⟩)]).set b2 54 [.str [],.int .i64 0,.int .i64 0,.slice 1 []]).bx b1=some (96,[.ptr (some ⟨bp,0,none⟩)]):=(A2 n12).trans A1
 generalize hs1:(s0.set b1 96 [.ptr (some ⟨bp,0,none⟩)]).set b2 54 [.str [],.int .i64 0,.int .i64 0,.slice 1 []]=s1 at *
 have hback:∀ {s:Sto} {a:Nat},Pst s1 s bp bl L a o d k→Pst s0 s bp bl L a o d k∧s.bx b2=some (54,[.str [],.int .i64 0,.int .i64 0,.slice 1 []]):=fun h=>by
  rw [← hs1] at h
  obtain ⟨g1,g2⟩:=h.drop c2
  exact ⟨(g1.drop c1).1,g2⟩
 have d2:s0.bx b2=none:=by rw [A2 n12.symm] at c2;exact c2
 generalize sx.set b2 54 [.str [],.int .i64 0,.int .i64 0,.slice 1 []]=sa at *
 have hn:=A1f (Γ:=Γ) hP2 (by omega) (by omega)
 conv=>whnf
 repeat' ((first|exact pru|(refine brS (fun h=>?_) (fun h=>?_)<;>(try rw [h])<;>(try simp only [bS,↓reduceIte] at h))|(refine A4 (hP2.sub.bx _ _ h1in) ?_)|refine gS ?_|refine aA ?_|refine nA ?_|fail)<;>(conv=>whnf))
 refine A0.by hn ?_
 intro v s5 hv5
 unfold K1 at hv5
 unfold A06
 rcases hnf:F9 L a with x|⟨x,a1⟩
 ·rw [hnf] at hv5
  obtain ⟨y,e,a',rfl,⟨kd,tx,rfl⟩,hP5⟩:=hv5
  refine wp ?_
  intro b4 hb4
  obtain ⟨m5,m6⟩:=hP5.nb hb4
  have hP6:=(hP5.box hb4 23 [.str [],.int .i64 0,.int .i64 0]).put (hP5.sub.none hb4) m5 m6 23 (Tr.W8 y)
  obtain ⟨hP7,hb7⟩:=hback hP6
  refine wp ?_
  exact ⟨_,Sub.refl _,1,(([],0,0),[]),_,_,rfl,⟨kd,tx,rfl⟩,hP7.put d2 m1 m2 _ _⟩
 ·rw [hnf] at hv5
  obtain ⟨rfl,hP5⟩:=hv5
  have ha1:=A1e hnf
  refine wp ?_
  intro b4 hb4
  obtain ⟨m5,m6⟩:=hP5.nb hb4
  have hP6:=(hP5.box hb4 23 [.str [],.int .i64 0,.int .i64 0]).put (hP5.sub.none hb4) m5 m6 23 (Tr.W8 x)
  have hb4':((s5.set b4 23 [.str [],.int .i64 0,.int .i64 0]).set b4 23 (Tr.W8 x)).bx b4=some (23,Tr.W8 x):=A1
  refine wp ?_
  simp only [Tr.W8] at hP6
  generalize (s5.set b4 23 [.str [],.int .i64 0,.int .i64 0]).set b4 23 [.str x.1,.int .i64 x.2.1,.int .i64 x.2.2]=s6 at *
  intro b6 hb6
  obtain ⟨m7,m8⟩:=hP6.nb hb6
  have c6:s1.bx b6=none:=hP6.sub.none hb6
  have hP7:=((hP6.box hb6 54 [.str [],.int .i64 0,.int .i64 0,.slice 1 []]).put c6 m7 m8 54 [.str x.1,.int .i64 x.2.1,.int .i64 x.2.2,.slice 1 []]).keep (b:=b6) (T:=54) (cs:=[.str x.1,.int .i64 x.2.1,.int .i64 x.2.2,.slice 1 []]) A1 m7 m8
  have hl:=C7e (Γ:=Γ) (base:=deB s1 b6 x) (one:=A1b L) (n:=228) (cs:=[.ptr (some ⟨b1,0,none⟩),.ptr (some ⟨b6,0,none⟩)]) (t0:=⟨1,.inl rfl⟩) (by kernel_rfl) A8o (fun acc t a s ha hac hP=>C46 c6 h1in m7 m8 hL acc t ha (by omega) hP) (show Pst (A6o s1 b6 54 [.str x.1,.int .i64 x.2.1,.int .i64 x.2.2,.slice 1 []] 1 3 1) _ bp bl L a1 o d k by rw [B6n];exact hP7) hL (by omega)
  have n61:b1≠b6:=A3 h1in c6
  have hb17:=hP7.sub.bx _ _ ((A2 n61).trans h1in)
  refine wp ?_
  refine A0.by hl ?_
  intro v s9 hv9
  unfold D2g at hv9
  rcases hlf:A1d L (A1b L) a1 with z|⟨l,a2⟩
  ·rw [hlf] at hv9
   obtain ⟨⟨kd,tx,rfl⟩,l,t,a',hP9⟩:=hv9
   obtain ⟨hPa,hba,_⟩:=Pst.dropRow hP9 c6
   obtain ⟨hPb,hbb⟩:=hback hPa
   refine wp ?_
   refine ⟨_,Sub.refl _,?_⟩
   simp only [hlf]
   exact ⟨t.1,(x,l),_,_,rfl,⟨kd,tx,rfl⟩,hPb.put d2 m1 m2 _ _⟩
  ·rw [hlf] at hv9
   obtain ⟨rfl,t,hP9⟩:=hv9
   obtain ⟨hPa,hba,_⟩:=Pst.dropRow hP9 c6
   obtain ⟨hPb,hbb⟩:=hback hPa
   refine wp ?_
   refine ⟨_,Sub.refl _,?_⟩
   simp only [hlf]
   exact ⟨⟨t.1,rfl⟩,hPb.put d2 m1 m2 _ _⟩
end
end Go.Proofs.YticnkpgmmpenlaaGreatDoor.Pa
namespace Go.Proofs.YticnkpgmmpenlaaGreatDoor.Pa
open Go Go.Ab Go.RowKit Go.Proofs.YticnkpgmmpenlaaGreatDoor.Lx
variable {Γ:Nat→AV}
attribute [local irreducible] A5 Sto.set Sto.grow
section
variable {s0 s1 s:Sto} {bp bl:Nat} {L:List Tok} {a:Nat} {o:List Ex} {d:List Int} {k:Int}
theorem B4l (a:Nat) (x:Tr.Ar) (a1:Nat) (h:A68 L a=.ok (x,a1)):a < a1∧a1≤L.length:=by
 unfold A68 at h
 split at h
 ·rename_i hi;cases h;exact ⟨Nat.lt_succ_self _,A2b (by rw [hi.1];decide)⟩
 ·split at h
  ·split at h
   ·cases h
   ·rename_i hv;cases h;exact A8w hv
  ·rename_i _ hi;cases h;exact ⟨Nat.lt_succ_self _,A2b (by intro h0;apply hi;rw [h0];decide)⟩
theorem D9y (t:Nat) (x:Tr.Sy):Le (.agg (Tr.syA (t,x))) (.agg (Tr.syA (0,x))):=Le.agg (LeL.cons (Le.refl _) (LeL.cons (Le.slice0 _ _) (LeL.cons (Le.refl _) (LeL.cons (Le.refl _) LeL.nil))))
def syB (s1:Sto) (b6:Nat) (x:Tr.Idn) (acc:List Tr.Ar) (t:B37 s1):Sto:=A6o s1 b6 39 [.str x.1,.slice t.1 (acc.map Tr.arA),.int .i64 x.2.1,.int .i64 x.2.2] t.1 93 8
theorem D0e (hE:Nu.Z8 Γ) (hT:∀ i,(B0 L i).2.1.length≤5000) {b1 b6:Nat} {x:Tr.Idn} (c6:s1.bx b6=none) (hb1:s1.bx b1=some (96,[.ptr (some ⟨bp,0,none⟩)])) (n1:b6≠bp) (n2:b6≠bl) (hL:L.length≤66000) (acc:List Tr.Ar) (t:B37 s1) (ha:a≤70000) (hac:acc.length≤100000)
  (hP:Pst (syB s1 b6 x acc t) s bp bl L a o d k) :
  A0 Tryz.prog Γ 231 [.ptr (some ⟨b1,0,none⟩),.ptr (some ⟨b6,0,none⟩)] s (D58 (syB s1 b6 x) bp bl L o d k acc (A68 L a)):=by
 have n16:b1≠b6:=fun h=>by subst h;rw [c6] at hb1;cases hb1
 have hbx:∀ {s:Sto} {a:Nat},Pst (syB s1 b6 x acc t) s bp bl L a o d k→s.bx b1=some (96,[.ptr (some ⟨bp,0,none⟩)])∧s.bx b6=some (39,[.str x.1,.slice t.1 (acc.map Tr.arA),.int .i64 x.2.1,.int .i64 x.2.2]):=fun h =>
  ⟨h.sub.bx _ _ (A6p.trans ((A2 n16).trans hb1)),h.sub.bx _ _ (A6p.trans A1)⟩
 have hk:=D7g (Γ:=Γ) hE hT hP (by omega) (by omega)
 obtain ⟨g1,g6⟩:=hbx hP
 refine acs Tryz.func231 ?_
 refine wp ?_
 refine A0.by hk ?_
 intro v s7 hv7
 unfold K1 at hv7
 rcases hkf:A68 L a with z|⟨q,a2⟩
 ·rw [hkf] at hv7
  obtain ⟨y,e,a',rfl,⟨kd,tx,rfl⟩,hP7⟩:=hv7
  refine wp ?_
  intro b3 hb3
  obtain ⟨m5,m6⟩:=hP7.nb hb3
  have hP8:=(hP7.box hb3 93 [.int .i64 0,.str [],.int .i64 0,.int .i64 0,.str [],.bool false,.int .i64 0,.int .i64 0]).put (hP7.sub.none hb3) m5 m6 93 (Tr.arA y)
  have h3:((s7.set b3 93 [.int .i64 0,.str [],.int .i64 0,.int .i64 0,.str [],.bool false,.int .i64 0,.int .i64 0]).set b3 93 (Tr.arA y)).bx b3=some (93,Tr.arA y):=A1
  obtain ⟨f1,f6⟩:=hbx hP8
  have may:=Pst.mayB hP8
  refine wp ?_
  refine ⟨may,fun c hc=>by obtain ⟨z,_,rfl⟩:=List.mem_map.1 hc;rfl,all_cons ⟨rfl,rfl⟩ all_nil,?_,?_⟩
  ·show ((acc.map Tr.arA).length+1) * (_+1)≤_
   rw [List.length_map]
   exact Nat.le_trans (Nat.mul_le_mul_right _ (show acc.length+1≤100001 by omega)) (Nat.le_of_ble_eq_true (by kernel_rfl))
  intro t' k1 k2
  obtain ⟨hP9,hf⟩:=Pst.grown (cs':=[.str x.1,.slice t' (acc.map Tr.arA++[Tr.arA y]),.int .i64 x.2.1,.int .i64 x.2.2]) hP8 t.2 k2 c6 n1 n2
  have f6':=(Q4 (t:=t.1) (t':=t') (e:=93) (k:=8)).trans f6
  refine wp ?_
  refine ⟨_,Sub.refl _,?_⟩
  have em:syB s1 b6 x (acc++[y]) ⟨t',hf⟩=A6o s1 b6 39 [.str x.1,.slice t' (acc.map Tr.arA++[Tr.arA y]),.int .i64 x.2.1,.int .i64 x.2.2] t' 93 8:=by
   unfold syB
   rw [List.map_append]
   rfl
  exact ⟨⟨kd,tx,rfl⟩,acc++[y],⟨t',hf⟩,a',by rw [em];exact hP9⟩
 ·rw [hkf] at hv7
  obtain ⟨rfl,hP7⟩:=hv7
  refine wp ?_
  intro b3 hb3
  obtain ⟨m5,m6⟩:=hP7.nb hb3
  have hP8:=(hP7.box hb3 93 [.int .i64 0,.str [],.int .i64 0,.int .i64 0,.str [],.bool false,.int .i64 0,.int .i64 0]).put (hP7.sub.none hb3) m5 m6 93 (Tr.arA q)
  have h3:((s7.set b3 93 [.int .i64 0,.str [],.int .i64 0,.int .i64 0,.str [],.bool false,.int .i64 0,.int .i64 0]).set b3 93 (Tr.arA q)).bx b3=some (93,Tr.arA q):=A1
  obtain ⟨f1,f6⟩:=hbx hP8
  have may:=Pst.mayB hP8
  refine wp ?_
  refine ⟨may,fun c hc=>by obtain ⟨z,_,rfl⟩:=List.mem_map.1 hc;rfl,all_cons ⟨rfl,rfl⟩ all_nil,?_,?_⟩
  ·show ((acc.map Tr.arA).length+1) * (_+1)≤_
   rw [List.length_map]
   exact Nat.le_trans (Nat.mul_le_mul_right _ (show acc.length+1≤100001 by omega)) (Nat.le_of_ble_eq_true (by kernel_rfl))
  intro t' k1 k2
  obtain ⟨hP9,hf⟩:=Pst.grown (cs':=[.str x.1,.slice t' (acc.map Tr.arA++[Tr.arA q]),.int .i64 x.2.1,.int .i64 x.2.2]) hP8 t.2 k2 c6 n1 n2
  have f6':=(Q4 (t:=t.1) (t':=t') (e:=93) (k:=8)).trans f6
  refine wp ?_
  refine ⟨_,Sub.refl _,?_⟩
  have em:syB s1 b6 x (acc++[q]) ⟨t',hf⟩=A6o s1 b6 39 [.str x.1,.slice t' (acc.map Tr.arA++[Tr.arA q]),.int .i64 x.2.1,.int .i64 x.2.2] t' 93 8:=by
   unfold syB
   rw [List.map_append]
   rfl
  exact ⟨rfl,⟨t',hf⟩,by rw [em];exact hP9⟩
theorem B9r (hE:Nu.Z8 Γ) (hT:∀ i,(B0 L i).2.1.length≤5000) (hP:Pst s0 s bp bl L a o d k) (hL:L.length≤66000) (ha:a≤69000) :
  A0 Tryz.prog Γ 187 [.ptr (some ⟨bp,0,none⟩)] s (K1 s0 bp bl L o d k (fun x=>.agg (Tr.syA (0,x))) (K6 L a)):=by
 refine A35 (V:=fun t x=>.agg (Tr.syA (t,x))) (fun t x=>D9y t x) ?_
 refine acs Tryz.func187 ?_
 conv=>whnf
 intro b1 hb1
 obtain ⟨p1,p2⟩:=hP.nb hb1
 have c1:s0.bx b1=none:=hP.sub.none hb1
 have hP1:=(hP.box hb1 96 [.ptr (some ⟨bp,0,none⟩)]).keep (T:=96) (cs:=[.ptr (some ⟨bp,0,none⟩)]) A1 p1 p2
 generalize s.set b1 96 [.ptr (some ⟨bp,0,none⟩)]=sx at *
 conv=>whnf
 intro b2 hb2
 obtain ⟨m1,m2⟩:=hP1.nb hb2
 have c2:(s0.set b1 96 [.ptr (some ⟨bp,0,none⟩)]).bx b2=none:=hP1.sub.none hb2
 have n12:b1≠b2:=A3 (hP1.sub.bx _ _ A1) hb2
 have hP2:=(hP1.box hb2 39 [.str [],.slice 1 [],.int .i64 0,.int .i64 0]).keep (T:=39) (cs:=[.str [],.slice 1 [],.int .i64 0,.int .i64 0]) A1 m1 m2
 have h1in:((s0.set b1 96 [.ptr (some ⟨bp,0,none⟩)]).set b2 39 [.str [],.slice 1 [],.int .i64 0,.int .i64 0]).bx b1=some (96,[.ptr (some ⟨bp,0,none⟩)]):=(A2 n12).trans A1
 generalize hs1:(s0.set b1 96 [.ptr (some ⟨bp,0,none⟩)]).set b2 39 [.str [],.slice 1 [],.int .i64 0,.int .i64 0]=s1 at *
 have hback:∀ {s:Sto} {a:Nat},Pst s1 s bp bl L a o d k→Pst s0 s bp bl L a o d k∧s.bx b2=some (39,[.str [],.slice 1 [],.int .i64 0,.int .i64 0]):=fun h=>by
  rw [← hs1] at h
  obtain ⟨g1,g2⟩:=h.drop c2
  exact ⟨(g1.drop c1).1,g2⟩
 have d2:s0.bx b2=none:=by rw [A2 n12.symm] at c2;exact c2
 generalize sx.set b2 39 [.str [],.slice 1 [],.int .i64 0,.int .i64 0]=sa at *
 have hn:=A1f (Γ:=Γ) hP2 (by omega) (by omega)
 conv=>whnf
 repeat' ((first|exact pru|(refine brS (fun h=>?_) (fun h=>?_)<;>(try rw [h])<;>(try simp only [bS,↓reduceIte] at h))|(refine A4 (hP2.sub.bx _ _ h1in) ?_)|refine gS ?_|refine aA ?_|refine nA ?_|fail)<;>(conv=>whnf))
 refine A0.by hn ?_
 intro v s5 hv5
 unfold K1 at hv5
 unfold K6
 rcases hnf:F9 L a with x|⟨x,a1⟩
 ·rw [hnf] at hv5
  obtain ⟨y,e,a',rfl,⟨kd,tx,rfl⟩,hP5⟩:=hv5
  refine wp ?_
  intro b4 hb4
  obtain ⟨m5,m6⟩:=hP5.nb hb4
  have hP6:=(hP5.box hb4 23 [.str [],.int .i64 0,.int .i64 0]).put (hP5.sub.none hb4) m5 m6 23 (Tr.W8 y)
  obtain ⟨hP7,hb7⟩:=hback hP6
  refine wp ?_
  exact ⟨_,Sub.refl _,1,([],[],0,0),_,_,rfl,⟨kd,tx,rfl⟩,hP7.put d2 m1 m2 _ _⟩
 ·rw [hnf] at hv5
  obtain ⟨rfl,hP5⟩:=hv5
  have ha1:=A1e hnf
  refine wp ?_
  intro b4 hb4
  obtain ⟨m5,m6⟩:=hP5.nb hb4
  have hP6:=(hP5.box hb4 23 [.str [],.int .i64 0,.int .i64 0]).put (hP5.sub.none hb4) m5 m6 23 (Tr.W8 x)
  have hb4':((s5.set b4 23 [.str [],.int .i64 0,.int .i64 0]).set b4 23 (Tr.W8 x)).bx b4=some (23,Tr.W8 x):=A1
  refine wp ?_
  simp only [Tr.W8] at hP6
  generalize (s5.set b4 23 [.str [],.int .i64 0,.int .i64 0]).set b4 23 [.str x.1,.int .i64 x.2.1,.int .i64 x.2.2]=s6 at *
  intro b6 hb6
  obtain ⟨m7,m8⟩:=hP6.nb hb6
  have c6:s1.bx b6=none:=hP6.sub.none hb6
  have hP7:=((hP6.box hb6 39 [.str [],.slice 1 [],.int .i64 0,.int .i64 0]).put c6 m7 m8 39 [.str x.1,.slice 1 [],.int .i64 x.2.1,.int .i64 x.2.2]).keep (b:=b6) (T:=39) (cs:=[.str x.1,.slice 1 [],.int .i64 x.2.1,.int .i64 x.2.2]) A1 m7 m8
  have hl:=C7e (Γ:=Γ) (base:=syB s1 b6 x) (one:=A68 L) (n:=231) (cs:=[.ptr (some ⟨b1,0,none⟩),.ptr (some ⟨b6,0,none⟩)]) (t0:=⟨1,.inl rfl⟩) (by kernel_rfl) B4l (fun acc t a s ha hac hP=>D0e hE hT c6 h1in m7 m8 hL acc t ha (by omega) hP) (show Pst (A6o s1 b6 39 [.str x.1,.slice 1 [],.int .i64 x.2.1,.int .i64 x.2.2] 1 93 8) _ bp bl L a1 o d k by rw [B6n];exact hP7) hL (by omega)
  have n61:b1≠b6:=A3 h1in c6
  have hb17:=hP7.sub.bx _ _ ((A2 n61).trans h1in)
  refine wp ?_
  refine A0.by hl ?_
  intro v s9 hv9
  unfold D2g at hv9
  rcases hlf:A1d L (A68 L) a1 with z|⟨l,a2⟩
  ·rw [hlf] at hv9
   obtain ⟨⟨kd,tx,rfl⟩,l,t,a',hP9⟩:=hv9
   obtain ⟨hPa,hba,_⟩:=Pst.dropRow hP9 c6
   obtain ⟨hPb,hbb⟩:=hback hPa
   refine wp ?_
   refine ⟨_,Sub.refl _,?_⟩
   simp only [hlf]
   exact ⟨t.1,(x.1,l,x.2.1,x.2.2),_,_,rfl,⟨kd,tx,rfl⟩,hPb.put d2 m1 m2 _ _⟩
  ·rw [hlf] at hv9
   obtain ⟨rfl,t,hP9⟩:=hv9
   obtain ⟨hPa,hba,_⟩:=Pst.dropRow hP9 c6
   obtain ⟨hPb,hbb⟩:=hback hPa
   refine wp ?_
   refine ⟨_,Sub.refl _,?_⟩
   simp only [hlf]
   exact ⟨⟨t.1,rfl⟩,hPb.put d2 m1 m2 _ _⟩
end
section
variable {s0 s:Sto} {bp bl:Nat} {L:List Tok} {a:Nat} {o:List Ex} {d:List Int} {k:Int}
theorem A79 {ws:List (List UInt8)} {i:Nat} (hlt:i < ws.length) (h:isF L a (ws.getD i [])=true):L9 L a (ws.drop i)=0:=by
 rw [List.drop_eq_getElem_cons hlt,L9]
 rw [show ws.getD i []=ws[i] by simp [List.getD,hlt]] at h
 rw [if_pos h]
theorem A4a {ws:List (List UInt8)} {i:Nat} (hlt:i < ws.length) (h:isF L a (ws.getD i [])=false):L9 L a (ws.drop i)=L9 L a (ws.drop (i+1))+1:=by
 rw [List.drop_eq_getElem_cons hlt,L9]
 rw [show ws.getD i []=ws[i] by simp [List.getD,hlt]] at h
 rw [if_neg (by rw [h];decide)]
theorem A75 {ws:List (List UInt8)} {i:Nat} (hlt:i < ws.length):(B8 ws).getD ((i:Int)).toNat []=[.str (ws.getD i [])]:=by simp [B8,List.getD,hlt]
theorem sl0 {α:Type} {A:α→List AV} (t:Nat) (l:List α):Le (.slice t (l.map A)) (.slice 0 (l.map A)):=Le.slice0 _ _
theorem C9l {one:Nat→Nat→Res (Tr.De × Nat)} {n:FuncId} {cs:List AV} (hn:A2y Tryz.prog n=true) (ws:List (List UInt8)) (hws:ws.length≤100) (tk:Nat)
  (hmono:∀ i a x a1,one i a=.ok (x,a1)→a≤a1∧a1≤L.length)
  (hone:∀ (i a t:Nat) (s:Sto),i < ws.length→a≤66000→Pst (A0f s0 t 54 4) s bp bl L a o d k→A0 Tryz.prog Γ n (.int .i64 i::cs) s (K1 (A0f s0 t 54 4) bp bl L o d k (fun x=>.agg ((fun x=>Tr.deA (0,x)) x)) (one i a)))
  (hP:Pst s0 s bp bl L a o d k) (hL:L.length≤66000) (ha:a≤67000) :
  A0 Tryz.prog Γ 167 [.ptr (some ⟨bp,0,none⟩),.slice tk (B8 ws),.func (.func n) [] cs] s (K1 s0 bp bl L o d k (fun l=>.slice 0 (l.map (fun x=>Tr.deA (0,x)))) (N0 L ws one a)):=by
 refine A35 (V:=fun t l=>.slice t (l.map (fun x=>Tr.deA (0,x)))) (fun t l=>sl0 t l) ?_
 have hsl:(B8 ws).length=ws.length:=by simp [B8]
 unfold N0
 refine acs Tryz.func167 ?_
 refine wp ?_
 refine AWp.loopA [8] [9,12,13,14,15,16,17,18,19,20,21,22,23,24,25,26,27,28,29,30,31,6,7,33,34,35,32,36,37,10,11,38,39,40,41,42,43,44] (fun q:List (Tr.De) × Nat × B37 s0=>[.slice q.2.2.1 (q.1.map (fun x=>Tr.deA (0,x)))]) (fun q s'=>q.2.1≤67000∧q.1.length≤q.2.1∧Pst (A0f s0 q.2.2.1 54 4) s' bp bl L q.2.1 o d k∧∃ m,L.length - q.2.1 < m∧F4 L ws one (L.length+1) [] a=F4 L ws one m q.1 q.2.1) (fun q=>L.length - q.2.1) (([],a,⟨1,.inl rfl⟩)) (by kernel_rfl) (rfl) ?_ ?_
 ·exact ⟨ha,Nat.zero_le _,by simp only [A5o];exact hP,L.length+1,by simp only;omega,rfl⟩
 ·rintro y ⟨acc,b,t⟩ s7 ⟨hb,hac,hP7,m,hm,hq⟩
  simp only at hb hac hP7 hm hq
  rw [hq]
  clear hq
  obtain ⟨m,rfl⟩:∃ m',m=m'+1:=⟨m - 1,by omega⟩
  show awp _ _ _ _ _ (updL _ _ [.slice t.1 (acc.map (fun x=>Tr.deA (0,x)))]) _
  refine wp ?_
  refine AWp.loopA [9] [12,13,14,15,16,17,18,19,20,21,22,23,24,25,26] (fun i:Nat=>[.int .i64 (i:Int)]) (fun i s'=>i≤ws.length∧Pst (A0f s0 t.1 54 4) s' bp bl L b o d k∧L9 L b ws=i+L9 L b (ws.drop i)) (fun i=>ws.length - i) (0) (by kernel_rfl) (eqa) ?_ ?_
  ·exact ⟨Nat.zero_le _,hP7,by rw [List.drop_zero,Nat.zero_add]⟩
  ·rintro y2 i s8 ⟨hi,hP8,hw⟩
   show awp _ _ _ _ _ (updL _ _ [.int .i64 (i:Int)]) _
   conv=>whnf
   by_cases hlt:i < ws.length
   ·have hg:=A75 hlt
    have hw2:IntKind.i64.wrap ((i:Int)+1)=((i+1:Nat):Int):=C3 (by omega) (by omega) (by omega)
    cases h1:isF L b (ws.getD i [])
    ·have hpast:=A4a hlt h1
     generalize ws.getD i []=w at *
     have htk:=V9 (Γ:=Γ) hP8 (by omega) (by omega) w
     rw [h1] at htk
     simp only [Bool.false_eq_true,if_false] at htk
     refine wp ?_;(refine A0.by htk ?_;rintro _ s9 ⟨rfl,hP9⟩);refine wp ?_;(rw [hw2]);refine wp ?_
     exact ⟨i+1,eqa,B9,⟨hlt,hP9,by omega⟩,by omega⟩
    ·have hat:=A79 hlt h1
     have hlt2:=D1 h1
     rw [hat,Nat.add_zero] at hw
     generalize ws.getD i []=w at *
     have htk:=V9 (Γ:=Γ) hP8 (by omega) (by omega) w
     rw [h1] at htk
     simp only [if_true] at htk
     repeat' ((first|exact pru|(refine brS (fun h=>?_) (fun h=>?_)<;>(try rw [h])<;>(try simp only [bS,↓reduceIte] at h))|refine ⟨A6d (hg) rfl,Go.Ab.A0i (hg) ?_⟩|(refine A0.by htk ?_;rintro _ s9 ⟨rfl,hP9⟩)|refine gS ?_|refine aA ?_|refine nA ?_|fail)<;>(conv=>whnf))
     have ho:=hone i (b+1) t.1 s9 hlt (by omega) hP9
     rotate_left
     ·rw [hn] at h;cases h
     rw [D2]
     refine A0.by ho ?_
     intro v sa hva
     unfold K1 at hva
     rcases hof:one i (b+1) with z|⟨x,b1⟩
     ·have e3:F4 L ws one (m+1) acc b=.error z:=by rw [F4,hw,if_neg (by omega),hof]
      rw [hof] at hva
      obtain ⟨yy,e,a',rfl,⟨kd,tx,rfl⟩,hPa⟩:=hva
      refine wp ?_
      intro bq hbq
      have hPb:=(hPa.box hbq 54 [.str [],.int .i64 0,.int .i64 0,.slice 1 []])
      obtain ⟨m5,m6⟩:=hPa.nb hbq
      have hPc:=hPb.put (hPa.sub.none hbq) m5 m6 54 ((fun x=>Tr.deA (0,x)) yy)
      refine wp ?_
      refine ⟨_,Sub.refl _,?_⟩
      rw [e3]
      exact ⟨1,[],_,_,rfl,⟨kd,tx,rfl⟩,hPc.dropS.1⟩
     ·have e3:F4 L ws one (m+1) acc b=F4 L ws one m (acc++[x]) b1:=by rw [F4,hw,if_neg (by omega),hof]
      obtain ⟨g1,g2⟩:=hmono _ _ _ _ hof
      rw [hof] at hva
      obtain ⟨rfl,hPa⟩:=hva
      refine wp ?_
      intro bq hbq
      have hPb:=(hPa.box hbq 54 [.str [],.int .i64 0,.int .i64 0,.slice 1 []])
      obtain ⟨m5,m6⟩:=hPa.nb hbq
      have hPc:=hPb.put (hPa.sub.none hbq) m5 m6 54 ((fun x=>Tr.deA (0,x)) x)
      refine wp ?_
      refine ⟨hPc.mayS,fun c hc=>by obtain ⟨z,_,rfl⟩:=List.mem_map.1 hc;rfl,all_cons ⟨rfl,rfl⟩ all_nil,?_,?_⟩
      ·show ((acc.map (fun x=>Tr.deA (0,x))).length+1) * (_+1)≤_
       rw [List.length_map]
       exact Nat.le_trans (Nat.mul_le_mul_right _ (show acc.length+1≤100001 by omega)) (Nat.le_of_ble_eq_true (by kernel_rfl))
      intro t' k1 k2
      obtain ⟨hPd,hf⟩:=hPc.grownS t.2 k2
      refine wp ?_
      refine ⟨(acc++[x],b1,⟨t',hf⟩),?_,B9,⟨by simp only;omega,by simp only [List.length_append,List.length_cons,List.length_nil];omega,hPd,m,by simp only;omega,e3⟩,by simp only;omega⟩
      rw [List.map_append]
      rfl
   ·obtain rfl:i=ws.length:=by omega
    rw [List.drop_length,show L9 L b []=0 from rfl,Nat.add_zero] at hw
    have e3:F4 L ws one (m+1) acc b=.ok (acc,b):=by rw [F4,if_pos hw]
    refine wp ?_
    refine ⟨_,Sub.refl _,?_⟩
    rw [e3]
    exact ⟨⟨t.1,rfl⟩,hP8.dropS.1⟩
theorem C9n {one:Nat→Nat→Res (Tr.Qu × Nat)} {n:FuncId} {cs:List AV} (hn:A2y Tryz.prog n=true) (ws:List (List UInt8)) (hws:ws.length≤100) (tk:Nat)
  (hmono:∀ i a x a1,one i a=.ok (x,a1)→a≤a1∧a1≤L.length)
  (hone:∀ (i a t:Nat) (s:Sto),i < ws.length→a≤66000→Pst (A0f s0 t 75 5) s bp bl L a o d k→A0 Tryz.prog Γ n (.int .i64 i::cs) s (K1 (A0f s0 t 75 5) bp bl L o d k (fun x=>.agg ((Tr.quA) x)) (one i a)))
  (hP:Pst s0 s bp bl L a o d k) (hL:L.length≤66000) (ha:a≤67000) :
  A0 Tryz.prog Γ 171 [.ptr (some ⟨bp,0,none⟩),.slice tk (B8 ws),.func (.func n) [] cs] s (K1 s0 bp bl L o d k (fun l=>.slice 0 (l.map (Tr.quA))) (N0 L ws one a)):=by
 refine A35 (V:=fun t l=>.slice t (l.map (Tr.quA))) (fun t l=>sl0 t l) ?_
 have hsl:(B8 ws).length=ws.length:=by simp [B8]
 unfold N0
 refine acs Tryz.func171 ?_
 refine wp ?_
 refine AWp.loopA [8] [9,12,13,14,15,16,17,18,19,20,21,22,23,24,25,26,27,28,29,30,31,6,7,33,34,35,32,36,37,10,11,38,39,40,41,42,43,44] (fun q:List (Tr.Qu) × Nat × B37 s0=>[.slice q.2.2.1 (q.1.map (Tr.quA))]) (fun q s'=>q.2.1≤67000∧q.1.length≤q.2.1∧Pst (A0f s0 q.2.2.1 75 5) s' bp bl L q.2.1 o d k∧∃ m,L.length - q.2.1 < m∧F4 L ws one (L.length+1) [] a=F4 L ws one m q.1 q.2.1) (fun q=>L.length - q.2.1) (([],a,⟨1,.inl rfl⟩)) (by kernel_rfl) (rfl) ?_ ?_
 ·exact ⟨ha,Nat.zero_le _,by simp only [A5o];exact hP,L.length+1,by simp only;omega,rfl⟩
 ·rintro y ⟨acc,b,t⟩ s7 ⟨hb,hac,hP7,m,hm,hq⟩
  simp only at hb hac hP7 hm hq
  rw [hq]
  clear hq
  obtain ⟨m,rfl⟩:∃ m',m=m'+1:=⟨m - 1,by omega⟩
  show awp _ _ _ _ _ (updL _ _ [.slice t.1 (acc.map (Tr.quA))]) _
  refine wp ?_
  refine AWp.loopA [9] [12,13,14,15,16,17,18,19,20,21,22,23,24,25,26] (fun i:Nat=>[.int .i64 (i:Int)]) (fun i s'=>i≤ws.length∧Pst (A0f s0 t.1 75 5) s' bp bl L b o d k∧L9 L b ws=i+L9 L b (ws.drop i)) (fun i=>ws.length - i) (0) (by kernel_rfl) (eqa) ?_ ?_
  ·exact ⟨Nat.zero_le _,hP7,by rw [List.drop_zero,Nat.zero_add]⟩
  ·rintro y2 i s8 ⟨hi,hP8,hw⟩
   show awp _ _ _ _ _ (updL _ _ [.int .i64 (i:Int)]) _
   conv=>whnf
   by_cases hlt:i < ws.length
   ·have hg:=A75 hlt
    have hw2:IntKind.i64.wrap ((i:Int)+1)=((i+1:Nat):Int):=C3 (by omega) (by omega) (by omega)
    cases h1:isF L b (ws.getD i [])
    ·have hpast:=A4a hlt h1
     generalize ws.getD i []=w at *
     have htk:=V9 (Γ:=Γ) hP8 (by omega) (by omega) w
     rw [h1] at htk
     simp only [Bool.false_eq_true,if_false] at htk
     refine wp ?_;(refine A0.by htk ?_;rintro _ s9 ⟨rfl,hP9⟩);refine wp ?_;(rw [hw2]);refine wp ?_
     exact ⟨i+1,eqa,B9,⟨hlt,hP9,by omega⟩,by omega⟩
    ·have hat:=A79 hlt h1
     have hlt2:=D1 h1
     rw [hat,Nat.add_zero] at hw
     generalize ws.getD i []=w at *
     have htk:=V9 (Γ:=Γ) hP8 (by omega) (by omega) w
     rw [h1] at htk
     simp only [if_true] at htk
     repeat' ((first|exact pru|(refine brS (fun h=>?_) (fun h=>?_)<;>(try rw [h])<;>(try simp only [bS,↓reduceIte] at h))|refine ⟨A6d (hg) rfl,Go.Ab.A0i (hg) ?_⟩|(refine A0.by htk ?_;rintro _ s9 ⟨rfl,hP9⟩)|refine gS ?_|refine aA ?_|refine nA ?_|fail)<;>(conv=>whnf))
     have ho:=hone i (b+1) t.1 s9 hlt (by omega) hP9
     rotate_left
     ·rw [hn] at h;cases h
     rw [D2]
     refine A0.by ho ?_
     intro v sa hva
     unfold K1 at hva
     rcases hof:one i (b+1) with z|⟨x,b1⟩
     ·have e3:F4 L ws one (m+1) acc b=.error z:=by rw [F4,hw,if_neg (by omega),hof]
      rw [hof] at hva
      obtain ⟨yy,e,a',rfl,⟨kd,tx,rfl⟩,hPa⟩:=hva
      refine wp ?_
      intro bq hbq
      have hPb:=(hPa.box hbq 75 [.bool false,.str [],.int .i64 0,.int .i64 0,.int .i64 0])
      obtain ⟨m5,m6⟩:=hPa.nb hbq
      have hPc:=hPb.put (hPa.sub.none hbq) m5 m6 75 ((Tr.quA) yy)
      refine wp ?_
      refine ⟨_,Sub.refl _,?_⟩
      rw [e3]
      exact ⟨1,[],_,_,rfl,⟨kd,tx,rfl⟩,hPc.dropS.1⟩
     ·have e3:F4 L ws one (m+1) acc b=F4 L ws one m (acc++[x]) b1:=by rw [F4,hw,if_neg (by omega),hof]
      obtain ⟨g1,g2⟩:=hmono _ _ _ _ hof
      rw [hof] at hva
      obtain ⟨rfl,hPa⟩:=hva
      refine wp ?_
      intro bq hbq
      have hPb:=(hPa.box hbq 75 [.bool false,.str [],.int .i64 0,.int .i64 0,.int .i64 0])
      obtain ⟨m5,m6⟩:=hPa.nb hbq
      have hPc:=hPb.put (hPa.sub.none hbq) m5 m6 75 ((Tr.quA) x)
      refine wp ?_
      refine ⟨hPc.mayS,fun c hc=>by obtain ⟨z,_,rfl⟩:=List.mem_map.1 hc;rfl,all_cons ⟨rfl,rfl⟩ all_nil,?_,?_⟩
      ·show ((acc.map (Tr.quA)).length+1) * (_+1)≤_
       rw [List.length_map]
       exact Nat.le_trans (Nat.mul_le_mul_right _ (show acc.length+1≤100001 by omega)) (Nat.le_of_ble_eq_true (by kernel_rfl))
      intro t' k1 k2
      obtain ⟨hPd,hf⟩:=hPc.grownS t.2 k2
      refine wp ?_
      refine ⟨(acc++[x],b1,⟨t',hf⟩),?_,B9,⟨by simp only;omega,by simp only [List.length_append,List.length_cons,List.length_nil];omega,hPd,m,by simp only;omega,e3⟩,by simp only;omega⟩
      rw [List.map_append]
      rfl
   ·obtain rfl:i=ws.length:=by omega
    rw [List.drop_length,show L9 L b []=0 from rfl,Nat.add_zero] at hw
    have e3:F4 L ws one (m+1) acc b=.ok (acc,b):=by rw [F4,if_pos hw]
    refine wp ?_
    refine ⟨_,Sub.refl _,?_⟩
    rw [e3]
    exact ⟨⟨t.1,rfl⟩,hP8.dropS.1⟩
theorem C9m {one:Nat→Nat→Res (Tr.Fr × Nat)} {n:FuncId} {cs:List AV} (hn:A2y Tryz.prog n=true) (ws:List (List UInt8)) (hws:ws.length≤100) (tk:Nat)
  (hmono:∀ i a x a1,one i a=.ok (x,a1)→a≤a1∧a1≤L.length)
  (hone:∀ (i a t:Nat) (s:Sto),i < ws.length→a≤66000→Pst (A0f s0 t 58 7) s bp bl L a o d k→A0 Tryz.prog Γ n (.int .i64 i::cs) s (K1 (A0f s0 t 58 7) bp bl L o d k (fun x=>.agg ((Tr.frA) x)) (one i a)))
  (hP:Pst s0 s bp bl L a o d k) (hL:L.length≤66000) (ha:a≤67000) :
  A0 Tryz.prog Γ 175 [.ptr (some ⟨bp,0,none⟩),.slice tk (B8 ws),.func (.func n) [] cs] s (K1 s0 bp bl L o d k (fun l=>.slice 0 (l.map (Tr.frA))) (N0 L ws one a)):=by
 refine A35 (V:=fun t l=>.slice t (l.map (Tr.frA))) (fun t l=>sl0 t l) ?_
 have hsl:(B8 ws).length=ws.length:=by simp [B8]
 unfold N0
 refine acs Tryz.func175 ?_
 refine wp ?_
 refine AWp.loopA [8] [9,12,13,14,15,16,17,18,19,20,21,22,23,24,25,26,27,28,29,30,31,6,7,33,34,35,32,36,37,10,11,38,39,40,41,42,43,44] (fun q:List (Tr.Fr) × Nat × B37 s0=>[.slice q.2.2.1 (q.1.map (Tr.frA))]) (fun q s'=>q.2.1≤67000∧q.1.length≤q.2.1∧Pst (A0f s0 q.2.2.1 58 7) s' bp bl L q.2.1 o d k∧∃ m,L.length - q.2.1 < m∧F4 L ws one (L.length+1) [] a=F4 L ws one m q.1 q.2.1) (fun q=>L.length - q.2.1) (([],a,⟨1,.inl rfl⟩)) (by kernel_rfl) (rfl) ?_ ?_
 ·exact ⟨ha,Nat.zero_le _,by simp only [A5o];exact hP,L.length+1,by simp only;omega,rfl⟩
 ·rintro y ⟨acc,b,t⟩ s7 ⟨hb,hac,hP7,m,hm,hq⟩
  simp only at hb hac hP7 hm hq
  rw [hq]
  clear hq
  obtain ⟨m,rfl⟩:∃ m',m=m'+1:=⟨m - 1,by omega⟩
  show awp _ _ _ _ _ (updL _ _ [.slice t.1 (acc.map (Tr.frA))]) _
  refine wp ?_
  refine AWp.loopA [9] [12,13,14,15,16,17,18,19,20,21,22,23,24,25,26] (fun i:Nat=>[.int .i64 (i:Int)]) (fun i s'=>i≤ws.length∧Pst (A0f s0 t.1 58 7) s' bp bl L b o d k∧L9 L b ws=i+L9 L b (ws.drop i)) (fun i=>ws.length - i) (0) (by kernel_rfl) (eqa) ?_ ?_
  ·exact ⟨Nat.zero_le _,hP7,by rw [List.drop_zero,Nat.zero_add]⟩
  ·rintro y2 i s8 ⟨hi,hP8,hw⟩
   show awp _ _ _ _ _ (updL _ _ [.int .i64 (i:Int)]) _
   conv=>whnf
   by_cases hlt:i < ws.length
   ·have hg:=A75 hlt
    have hw2:IntKind.i64.wrap ((i:Int)+1)=((i+1:Nat):Int):=C3 (by omega) (by omega) (by omega)
    cases h1:isF L b (ws.getD i [])
    ·have hpast:=A4a hlt h1
     generalize ws.getD i []=w at *
     have htk:=V9 (Γ:=Γ) hP8 (by omega) (by omega) w
     rw [h1] at htk
     simp only [Bool.false_eq_true,if_false] at htk
     refine wp ?_;(refine A0.by htk ?_;rintro _ s9 ⟨rfl,hP9⟩);refine wp ?_;(rw [hw2]);refine wp ?_
     exact ⟨i+1,eqa,B9,⟨hlt,hP9,by omega⟩,by omega⟩
    ·have hat:=A79 hlt h1
     have hlt2:=D1 h1
     rw [hat,Nat.add_zero] at hw
     generalize ws.getD i []=w at *
     have htk:=V9 (Γ:=Γ) hP8 (by omega) (by omega) w
     rw [h1] at htk
     simp only [if_true] at htk
     repeat' ((first|exact pru|(refine brS (fun h=>?_) (fun h=>?_)<;>(try rw [h])<;>(try simp only [bS,↓reduceIte] at h))|refine ⟨A6d (hg) rfl,Go.Ab.A0i (hg) ?_⟩|(refine A0.by htk ?_;rintro _ s9 ⟨rfl,hP9⟩)|refine gS ?_|refine aA ?_|refine nA ?_|fail)<;>(conv=>whnf))
     have ho:=hone i (b+1) t.1 s9 hlt (by omega) hP9
     rotate_left
     ·rw [hn] at h;cases h
     rw [D2]
     refine A0.by ho ?_
     intro v sa hva
     unfold K1 at hva
     rcases hof:one i (b+1) with z|⟨x,b1⟩
     ·have e3:F4 L ws one (m+1) acc b=.error z:=by rw [F4,hw,if_neg (by omega),hof]
      rw [hof] at hva
      obtain ⟨yy,e,a',rfl,⟨kd,tx,rfl⟩,hPa⟩:=hva
      refine wp ?_
      intro bq hbq
      have hPb:=(hPa.box hbq 58 [.str [],.int .i64 0,.int .i64 0,.int .i64 0,.int .i64 0,.str [],.bool false])
      obtain ⟨m5,m6⟩:=hPa.nb hbq
      have hPc:=hPb.put (hPa.sub.none hbq) m5 m6 58 ((Tr.frA) yy)
      refine wp ?_
      refine ⟨_,Sub.refl _,?_⟩
      rw [e3]
      exact ⟨1,[],_,_,rfl,⟨kd,tx,rfl⟩,hPc.dropS.1⟩
     ·have e3:F4 L ws one (m+1) acc b=F4 L ws one m (acc++[x]) b1:=by rw [F4,hw,if_neg (by omega),hof]
      obtain ⟨g1,g2⟩:=hmono _ _ _ _ hof
      rw [hof] at hva
      obtain ⟨rfl,hPa⟩:=hva
      refine wp ?_
      intro bq hbq
      have hPb:=(hPa.box hbq 58 [.str [],.int .i64 0,.int .i64 0,.int .i64 0,.int .i64 0,.str [],.bool false])
      obtain ⟨m5,m6⟩:=hPa.nb hbq
      have hPc:=hPb.put (hPa.sub.none hbq) m5 m6 58 ((Tr.frA) x)
      refine wp ?_
      refine ⟨hPc.mayS,fun c hc=>by obtain ⟨z,_,rfl⟩:=List.mem_map.1 hc;rfl,all_cons ⟨rfl,rfl⟩ all_nil,?_,?_⟩
      ·show ((acc.map (Tr.frA)).length+1) * (_+1)≤_
       rw [List.length_map]
       exact Nat.le_trans (Nat.mul_le_mul_right _ (show acc.length+1≤100001 by omega)) (Nat.le_of_ble_eq_true (by kernel_rfl))
      intro t' k1 k2
      obtain ⟨hPd,hf⟩:=hPc.grownS t.2 k2
      refine wp ?_
      refine ⟨(acc++[x],b1,⟨t',hf⟩),?_,B9,⟨by simp only;omega,by simp only [List.length_append,List.length_cons,List.length_nil];omega,hPd,m,by simp only;omega,e3⟩,by simp only;omega⟩
      rw [List.map_append]
      rfl
   ·obtain rfl:i=ws.length:=by omega
    rw [List.drop_length,show L9 L b []=0 from rfl,Nat.add_zero] at hw
    have e3:F4 L ws one (m+1) acc b=.ok (acc,b):=by rw [F4,if_pos hw]
    refine wp ?_
    refine ⟨_,Sub.refl _,?_⟩
    rw [e3]
    exact ⟨⟨t.1,rfl⟩,hP8.dropS.1⟩
theorem C9o {one:Nat→Nat→Res (Tr.St × Nat)} {n:FuncId} {cs:List AV} (hn:A2y Tryz.prog n=true) (ws:List (List UInt8)) (hws:ws.length≤100) (tk:Nat)
  (hmono:∀ i a x a1,one i a=.ok (x,a1)→a≤a1∧a1≤L.length)
  (hone:∀ (i a t:Nat) (s:Sto),i < ws.length→a≤66000→Pst (A0f s0 t 84 5) s bp bl L a o d k→A0 Tryz.prog Γ n (.int .i64 i::cs) s (K1 (A0f s0 t 84 5) bp bl L o d k (fun x=>.agg ((Tr.stA) x)) (one i a)))
  (hP:Pst s0 s bp bl L a o d k) (hL:L.length≤66000) (ha:a≤67000) :
  A0 Tryz.prog Γ 179 [.ptr (some ⟨bp,0,none⟩),.slice tk (B8 ws),.func (.func n) [] cs] s (K1 s0 bp bl L o d k (fun l=>.slice 0 (l.map (Tr.stA))) (N0 L ws one a)):=by
 refine A35 (V:=fun t l=>.slice t (l.map (Tr.stA))) (fun t l=>sl0 t l) ?_
 have hsl:(B8 ws).length=ws.length:=by simp [B8]
 unfold N0
 refine acs Tryz.func179 ?_
 refine wp ?_
 refine AWp.loopA [8] [9,12,13,14,15,16,17,18,19,20,21,22,23,24,25,26,27,28,29,30,31,6,7,33,34,35,32,36,37,10,11,38,39,40,41,42,43,44] (fun q:List (Tr.St) × Nat × B37 s0=>[.slice q.2.2.1 (q.1.map (Tr.stA))]) (fun q s'=>q.2.1≤67000∧q.1.length≤q.2.1∧Pst (A0f s0 q.2.2.1 84 5) s' bp bl L q.2.1 o d k∧∃ m,L.length - q.2.1 < m∧F4 L ws one (L.length+1) [] a=F4 L ws one m q.1 q.2.1) (fun q=>L.length - q.2.1) (([],a,⟨1,.inl rfl⟩)) (by kernel_rfl) (rfl) ?_ ?_
 ·exact ⟨ha,Nat.zero_le _,by simp only [A5o];exact hP,L.length+1,by simp only;omega,rfl⟩
 ·rintro y ⟨acc,b,t⟩ s7 ⟨hb,hac,hP7,m,hm,hq⟩
  simp only at hb hac hP7 hm hq
  rw [hq]
  clear hq
  obtain ⟨m,rfl⟩:∃ m',m=m'+1:=⟨m - 1,by omega⟩
  show awp _ _ _ _ _ (updL _ _ [.slice t.1 (acc.map (Tr.stA))]) _
  refine wp ?_
  refine AWp.loopA [9] [12,13,14,15,16,17,18,19,20,21,22,23,24,25,26] (fun i:Nat=>[.int .i64 (i:Int)]) (fun i s'=>i≤ws.length∧Pst (A0f s0 t.1 84 5) s' bp bl L b o d k∧L9 L b ws=i+L9 L b (ws.drop i)) (fun i=>ws.length - i) (0) (by kernel_rfl) (eqa) ?_ ?_
  ·exact ⟨Nat.zero_le _,hP7,by rw [List.drop_zero,Nat.zero_add]⟩
  ·rintro y2 i s8 ⟨hi,hP8,hw⟩
   show awp _ _ _ _ _ (updL _ _ [.int .i64 (i:Int)]) _
   conv=>whnf
   by_cases hlt:i < ws.length
   ·have hg:=A75 hlt
    have hw2:IntKind.i64.wrap ((i:Int)+1)=((i+1:Nat):Int):=C3 (by omega) (by omega) (by omega)
    cases h1:isF L b (ws.getD i [])
    ·have hpast:=A4a hlt h1
     generalize ws.getD i []=w at *
     have htk:=V9 (Γ:=Γ) hP8 (by omega) (by omega) w
     rw [h1] at htk
     simp only [Bool.false_eq_true,if_false] at htk
     refine wp ?_;(refine A0.by htk ?_;rintro _ s9 ⟨rfl,hP9⟩);refine wp ?_;(rw [hw2]);refine wp ?_
     exact ⟨i+1,eqa,B9,⟨hlt,hP9,by omega⟩,by omega⟩
    ·have hat:=A79 hlt h1
     have hlt2:=D1 h1
     rw [hat,Nat.add_zero] at hw
     generalize ws.getD i []=w at *
     have htk:=V9 (Γ:=Γ) hP8 (by omega) (by omega) w
     rw [h1] at htk
     simp only [if_true] at htk
     repeat' ((first|exact pru|(refine brS (fun h=>?_) (fun h=>?_)<;>(try rw [h])<;>(try simp only [bS,↓reduceIte] at h))|refine ⟨A6d (hg) rfl,Go.Ab.A0i (hg) ?_⟩|(refine A0.by htk ?_;rintro _ s9 ⟨rfl,hP9⟩)|refine gS ?_|refine aA ?_|refine nA ?_|fail)<;>(conv=>whnf))
     have ho:=hone i (b+1) t.1 s9 hlt (by omega) hP9
     rotate_left
     ·rw [hn] at h;cases h
     rw [D2]
     refine A0.by ho ?_
     intro v sa hva
     unfold K1 at hva
     rcases hof:one i (b+1) with z|⟨x,b1⟩
     ·have e3:F4 L ws one (m+1) acc b=.error z:=by rw [F4,hw,if_neg (by omega),hof]
      rw [hof] at hva
      obtain ⟨yy,e,a',rfl,⟨kd,tx,rfl⟩,hPa⟩:=hva
      refine wp ?_
      intro bq hbq
      have hPb:=(hPa.box hbq 84 [.str [],.int .i64 0,.int .i64 0,.bool false,.bool false])
      obtain ⟨m5,m6⟩:=hPa.nb hbq
      have hPc:=hPb.put (hPa.sub.none hbq) m5 m6 84 ((Tr.stA) yy)
      refine wp ?_
      refine ⟨_,Sub.refl _,?_⟩
      rw [e3]
      exact ⟨1,[],_,_,rfl,⟨kd,tx,rfl⟩,hPc.dropS.1⟩
     ·have e3:F4 L ws one (m+1) acc b=F4 L ws one m (acc++[x]) b1:=by rw [F4,hw,if_neg (by omega),hof]
      obtain ⟨g1,g2⟩:=hmono _ _ _ _ hof
      rw [hof] at hva
      obtain ⟨rfl,hPa⟩:=hva
      refine wp ?_
      intro bq hbq
      have hPb:=(hPa.box hbq 84 [.str [],.int .i64 0,.int .i64 0,.bool false,.bool false])
      obtain ⟨m5,m6⟩:=hPa.nb hbq
      have hPc:=hPb.put (hPa.sub.none hbq) m5 m6 84 ((Tr.stA) x)
      refine wp ?_
      refine ⟨hPc.mayS,fun c hc=>by obtain ⟨z,_,rfl⟩:=List.mem_map.1 hc;rfl,all_cons ⟨rfl,rfl⟩ all_nil,?_,?_⟩
      ·show ((acc.map (Tr.stA)).length+1) * (_+1)≤_
       rw [List.length_map]
       exact Nat.le_trans (Nat.mul_le_mul_right _ (show acc.length+1≤100001 by omega)) (Nat.le_of_ble_eq_true (by kernel_rfl))
      intro t' k1 k2
      obtain ⟨hPd,hf⟩:=hPc.grownS t.2 k2
      refine wp ?_
      refine ⟨(acc++[x],b1,⟨t',hf⟩),?_,B9,⟨by simp only;omega,by simp only [List.length_append,List.length_cons,List.length_nil];omega,hPd,m,by simp only;omega,e3⟩,by simp only;omega⟩
      rw [List.map_append]
      rfl
   ·obtain rfl:i=ws.length:=by omega
    rw [List.drop_length,show L9 L b []=0 from rfl,Nat.add_zero] at hw
    have e3:F4 L ws one (m+1) acc b=.ok (acc,b):=by rw [F4,if_pos hw]
    refine wp ?_
    refine ⟨_,Sub.refl _,?_⟩
    rw [e3]
    exact ⟨⟨t.1,rfl⟩,hP8.dropS.1⟩
theorem C9p {one:Nat→Nat→Res (Tr.Sy × Nat)} {n:FuncId} {cs:List AV} (hn:A2y Tryz.prog n=true) (ws:List (List UInt8)) (hws:ws.length≤100) (tk:Nat)
  (hmono:∀ i a x a1,one i a=.ok (x,a1)→a≤a1∧a1≤L.length)
  (hone:∀ (i a t:Nat) (s:Sto),i < ws.length→a≤66000→Pst (A0f s0 t 39 4) s bp bl L a o d k→A0 Tryz.prog Γ n (.int .i64 i::cs) s (K1 (A0f s0 t 39 4) bp bl L o d k (fun x=>.agg ((fun x=>Tr.syA (0,x)) x)) (one i a)))
  (hP:Pst s0 s bp bl L a o d k) (hL:L.length≤66000) (ha:a≤67000) :
  A0 Tryz.prog Γ 185 [.ptr (some ⟨bp,0,none⟩),.slice tk (B8 ws),.func (.func n) [] cs] s (K1 s0 bp bl L o d k (fun l=>.slice 0 (l.map (fun x=>Tr.syA (0,x)))) (N0 L ws one a)):=by
 refine A35 (V:=fun t l=>.slice t (l.map (fun x=>Tr.syA (0,x)))) (fun t l=>sl0 t l) ?_
 have hsl:(B8 ws).length=ws.length:=by simp [B8]
 unfold N0
 refine acs Tryz.func185 ?_
 refine wp ?_
 refine AWp.loopA [8] [9,12,13,14,15,16,17,18,19,20,21,22,23,24,25,26,27,28,29,30,31,6,7,33,34,35,32,36,37,10,11,38,39,40,41,42,43,44] (fun q:List (Tr.Sy) × Nat × B37 s0=>[.slice q.2.2.1 (q.1.map (fun x=>Tr.syA (0,x)))]) (fun q s'=>q.2.1≤67000∧q.1.length≤q.2.1∧Pst (A0f s0 q.2.2.1 39 4) s' bp bl L q.2.1 o d k∧∃ m,L.length - q.2.1 < m∧F4 L ws one (L.length+1) [] a=F4 L ws one m q.1 q.2.1) (fun q=>L.length - q.2.1) (([],a,⟨1,.inl rfl⟩)) (by kernel_rfl) (rfl) ?_ ?_
 ·exact ⟨ha,Nat.zero_le _,by simp only [A5o];exact hP,L.length+1,by simp only;omega,rfl⟩
 ·rintro y ⟨acc,b,t⟩ s7 ⟨hb,hac,hP7,m,hm,hq⟩
  simp only at hb hac hP7 hm hq
  rw [hq]
  clear hq
  obtain ⟨m,rfl⟩:∃ m',m=m'+1:=⟨m - 1,by omega⟩
  show awp _ _ _ _ _ (updL _ _ [.slice t.1 (acc.map (fun x=>Tr.syA (0,x)))]) _
  refine wp ?_
  refine AWp.loopA [9] [12,13,14,15,16,17,18,19,20,21,22,23,24,25,26] (fun i:Nat=>[.int .i64 (i:Int)]) (fun i s'=>i≤ws.length∧Pst (A0f s0 t.1 39 4) s' bp bl L b o d k∧L9 L b ws=i+L9 L b (ws.drop i)) (fun i=>ws.length - i) (0) (by kernel_rfl) (eqa) ?_ ?_
  ·exact ⟨Nat.zero_le _,hP7,by rw [List.drop_zero,Nat.zero_add]⟩
  ·rintro y2 i s8 ⟨hi,hP8,hw⟩
   show awp _ _ _ _ _ (updL _ _ [.int .i64 (i:Int)]) _
   conv=>whnf
   by_cases hlt:i < ws.length
   ·have hg:=A75 hlt
    have hw2:IntKind.i64.wrap ((i:Int)+1)=((i+1:Nat):Int):=C3 (by omega) (by omega) (by omega)
    cases h1:isF L b (ws.getD i [])
    ·have hpast:=A4a hlt h1
     generalize ws.getD i []=w at *
     have htk:=V9 (Γ:=Γ) hP8 (by omega) (by omega) w
     rw [h1] at htk
     simp only [Bool.false_eq_true,if_false] at htk
     refine wp ?_;(refine A0.by htk ?_;rintro _ s9 ⟨rfl,hP9⟩);refine wp ?_;(rw [hw2]);refine wp ?_
     exact ⟨i+1,eqa,B9,⟨hlt,hP9,by omega⟩,by omega⟩
    ·have hat:=A79 hlt h1
     have hlt2:=D1 h1
     rw [hat,Nat.add_zero] at hw
     generalize ws.getD i []=w at *
     have htk:=V9 (Γ:=Γ) hP8 (by omega) (by omega) w
     rw [h1] at htk
     simp only [if_true] at htk
     repeat' ((first|exact pru|(refine brS (fun h=>?_) (fun h=>?_)<;>(try rw [h])<;>(try simp only [bS,↓reduceIte] at h))|refine ⟨A6d (hg) rfl,Go.Ab.A0i (hg) ?_⟩|(refine A0.by htk ?_;rintro _ s9 ⟨rfl,hP9⟩)|refine gS ?_|refine aA ?_|refine nA ?_|fail)<;>(conv=>whnf))
     have ho:=hone i (b+1) t.1 s9 hlt (by omega) hP9
     rotate_left
     ·rw [hn] at h;cases h
     rw [D2]
     refine A0.by ho ?_
     intro v sa hva
     unfold K1 at hva
     rcases hof:one i (b+1) with z|⟨x,b1⟩
     ·have e3:F4 L ws one (m+1) acc b=.error z:=by rw [F4,hw,if_neg (by omega),hof]
      rw [hof] at hva
      obtain ⟨yy,e,a',rfl,⟨kd,tx,rfl⟩,hPa⟩:=hva
      refine wp ?_
      intro bq hbq
      have hPb:=(hPa.box hbq 39 [.str [],.slice 1 [],.int .i64 0,.int .i64 0])
      obtain ⟨m5,m6⟩:=hPa.nb hbq
      have hPc:=hPb.put (hPa.sub.none hbq) m5 m6 39 ((fun x=>Tr.syA (0,x)) yy)
      refine wp ?_
      refine ⟨_,Sub.refl _,?_⟩
      rw [e3]
      exact ⟨1,[],_,_,rfl,⟨kd,tx,rfl⟩,hPc.dropS.1⟩
     ·have e3:F4 L ws one (m+1) acc b=F4 L ws one m (acc++[x]) b1:=by rw [F4,hw,if_neg (by omega),hof]
      obtain ⟨g1,g2⟩:=hmono _ _ _ _ hof
      rw [hof] at hva
      obtain ⟨rfl,hPa⟩:=hva
      refine wp ?_
      intro bq hbq
      have hPb:=(hPa.box hbq 39 [.str [],.slice 1 [],.int .i64 0,.int .i64 0])
      obtain ⟨m5,m6⟩:=hPa.nb hbq
      have hPc:=hPb.put (hPa.sub.none hbq) m5 m6 39 ((fun x=>Tr.syA (0,x)) x)
      refine wp ?_
      refine ⟨hPc.mayS,fun c hc=>by obtain ⟨z,_,rfl⟩:=List.mem_map.1 hc;rfl,all_cons ⟨rfl,rfl⟩ all_nil,?_,?_⟩
      ·show ((acc.map (fun x=>Tr.syA (0,x))).length+1) * (_+1)≤_
       rw [List.length_map]
       exact Nat.le_trans (Nat.mul_le_mul_right _ (show acc.length+1≤100001 by omega)) (Nat.le_of_ble_eq_true (by kernel_rfl))
      intro t' k1 k2
      obtain ⟨hPd,hf⟩:=hPc.grownS t.2 k2
      refine wp ?_
      refine ⟨(acc++[x],b1,⟨t',hf⟩),?_,B9,⟨by simp only;omega,by simp only [List.length_append,List.length_cons,List.length_nil];omega,hPd,m,by simp only;omega,e3⟩,by simp only;omega⟩
      rw [List.map_append]
      rfl
   ·obtain rfl:i=ws.length:=by omega
    rw [List.drop_length,show L9 L b []=0 from rfl,Nat.add_zero] at hw
    have e3:F4 L ws one (m+1) acc b=.ok (acc,b):=by rw [F4,if_pos hw]
    refine wp ?_
    refine ⟨_,Sub.refl _,?_⟩
    rw [e3]
    exact ⟨⟨t.1,rfl⟩,hP8.dropS.1⟩
end
section
variable {s0 s:Sto} {bp bl:Nat} {L:List Tok} {a:Nat} {o:List Ex} {d:List Int} {k:Int} {st z:St}
def C9v {α:Type} (s0:Sto) (bp bl:Nat) (L:List Tok) (V:α→AV) (r:Res (α × St)) (v:AV) (s':Sto):Prop :=
 match r with
 | .ok (x,z)=>v=.tuple [V x,.nilIface]∧Pst s0 s' bp bl L z.a z.o z.d z.k
 | .error x=>∃ y e a o d k,v=.tuple [V y,e]∧A8x x e∧Pst s0 s' bp bl L a o d k
def D9q {α:Type} (s0:Sto) (bp bl:Nat) (L:List Tok) (V:Nat→α→AV) (r:Res (α × St)) (v:AV) (s':Sto):Prop :=
 match r with
 | .ok (x,z)=>(∃ t,v=.tuple [V t x,.nilIface])∧Pst s0 s' bp bl L z.a z.o z.d z.k
 | .error x=>∃ t y e a o d k,v=.tuple [V t y,e]∧A8x x e∧Pst s0 s' bp bl L a o d k
theorem C9w {α:Type} {f:FuncId} {args:List AV} {V:Nat→α→AV} {U:α→AV} {r:Res (α × St)} (hV:∀ t x,Le (V t x) (U x)) (h:A0 Tryz.prog Γ f args s (D9q s0 bp bl L V r)) :
  A0 Tryz.prog Γ f args s (C9v s0 bp bl L U r):=by
 refine h.less fun v s' hv=>?_
 rcases r with z|⟨x,a'⟩
 ·obtain ⟨t,y,e,a',o',d',k',rfl,he,hP⟩:=hv
  exact ⟨.tuple [U y,e],s',Le.tuple (LeL.cons (hV t y) (LeL.cons (Le.refl _) LeL.nil)),B4b.refl _,y,e,a',o',d',k',rfl,he,hP⟩
 ·obtain ⟨⟨t,rfl⟩,hP⟩:=hv
  exact ⟨.tuple [U x,.nilIface],s',Le.tuple (LeL.cons (hV t x) (LeL.cons (Le.refl _) LeL.nil)),B4b.refl _,rfl,hP⟩
theorem C22 (hP:Pst s0 s bp bl L a o d k) :
  A0 Tryz.prog Γ 190 [.ptr (some ⟨bp,0,none⟩)] s fun v s'=>v=.int .i64 (IntKind.i64.wrap (((J9 o).length:Int) - 1))∧s'=s:=by
 obtain ⟨t1,t2,hb,_⟩:=hP.pr
 refine acs Tryz.func190 ?_
 refine wp ?_
 exact ⟨s,Sub.refl _,rfl,rfl⟩
theorem A5h {w:List UInt8} {x:Tr.Idn} {a1:Nat} (h:V3 L [w] a=.ok (x,a1)):a1=a+2∧a1≤L.length:=by
 unfold V3 at h
 rcases hn:F9 L a with e|⟨y,b⟩
 ·rw [hn] at h;cases h
 ·rw [hn] at h
  simp only at h
  obtain ⟨h1,h2⟩:=A1e hn
  rcases hw:C7 L [w] b with e|c
  ·rw [hw] at h;cases h
  ·rw [hw] at h
   have h3:=A3f hw
   rw [C7] at hw
   split at hw
   ·rename_i hi
    have:=D1 hi
    simp only [List.length_cons,List.length_nil] at h3
    cases h
    omega
   ·cases hw
theorem B6s {y:Tr.Se} (hok:F8 L st) (h:B6r L st=.ok (y,z)):F8 L z∧st.a < z.a∧z.k=st.k:=by
 unfold B6r at h
 split at h
 ·cases h
 ·rename_i x a1 h1
  split at h
  ·cases h
  ·rename_i s2 h2
   injection h with h;injection h with h3 h4;subst h3 h4
   obtain ⟨k1,k2⟩:=A5h h1
   have hok:F8 L { st with a:=a1 }:=⟨k2,by have:=hok.ho;simp only;omega,hok.hd,hok.hk⟩
   obtain ⟨g1,g2⟩:=J8 (A0b L) 0 _ (by omega) hok (N5 L _) s2 h2
   have:=g2.a
   simp only at this
   exact ⟨g1,by omega,g2.k⟩
theorem D8i (hR:Nu.Z8 Γ) (hL:L.length≤66000) (hT:∀ i,(B0 L i).2.1.length≤5000) (hP:Pst s0 s bp bl L st.a st.o st.d st.k) (hok:F8 L st) :
  A0 Tryz.prog Γ 234 [.ptr (some ⟨bp,0,none⟩)] s (C9v s0 bp bl L (fun x=>.agg (Tr.seA x)) (B6r L st)):=by
 have hsa:=hok.ha
 refine acs Tryz.func234 ?_
 conv=>whnf
 intro b2 hb2
 obtain ⟨m1,m2⟩:=hP.nb hb2
 have c2:s0.bx b2=none:=hP.sub.none hb2
 have hP2:=(hP.box hb2 119 [.str [],.int .i64 0,.int .i64 0,.int .i64 0]).keep (T:=119) (cs:=[.str [],.int .i64 0,.int .i64 0,.int .i64 0]) A1 m1 m2
 generalize s.set b2 119 [.str [],.int .i64 0,.int .i64 0,.int .i64 0]=sa at *
 have hn:=B0t (Γ:=Γ) hP2 (by omega) (by omega) [[61]] (by decide) 1
 refine wp ?_
 refine A0.by hn ?_
 intro v s5 hv5
 unfold K1 at hv5
 rcases hnf:V3 L [[61]] st.a with x|⟨x,a1⟩
 ·rw [hnf] at hv5
  obtain ⟨y,e,a',rfl,⟨kd,tx,rfl⟩,hP5⟩:=hv5
  refine wp ?_
  intro b4 hb4
  obtain ⟨m5,m6⟩:=hP5.nb hb4
  have hP6:=(hP5.box hb4 23 [.str [],.int .i64 0,.int .i64 0]).put (hP5.sub.none hb4) m5 m6 23 (Tr.W8 y)
  obtain ⟨hP7,hb7⟩:=hP6.drop c2
  have hla:=C22 (Γ:=Γ) hP6
  conv=>whnf
  repeat' ((first|exact pru|(refine brS (fun h=>?_) (fun h=>?_)<;>(try rw [h])<;>(try simp only [bS,↓reduceIte] at h))|(refine AWp.anyC (id:=4) [18] [] (by kernel_rfl) (by kernel_rfl) (by kernel_rfl) (by kernel_rfl) ?_)|(refine ⟨trivial,?_⟩)|(refine A83.mk _ hla ?_)|(refine A4 A1 ?_)|(refine A4 hb7 ?_)|refine gS ?_|refine aA ?_|refine nA ?_|fail)<;>(conv=>whnf))
  refine ⟨_,Sub.refl _,?_⟩
  unfold B6r
  rw [hnf]
  exact ⟨(y,_),_,_,_,_,_,rfl,⟨kd,tx,rfl⟩,hP7.put c2 m1 m2 _ _⟩
 ·rw [hnf] at hv5
  obtain ⟨rfl,hP5⟩:=hv5
  obtain ⟨ha1,ha2⟩:=A5h hnf
  have hok2:F8 L { st with a:=a1 }:=⟨ha2,by have:=hok.ho;simp only;omega,hok.hd,hok.hk⟩
  refine wp ?_
  intro b4 hb4
  obtain ⟨m5,m6⟩:=hP5.nb hb4
  have c4:=hP5.sub.none hb4
  have hP6:=((hP5.box hb4 23 [.str [],.int .i64 0,.int .i64 0]).put (hP5.sub.none hb4) m5 m6 23 (Tr.W8 x)).keep (b:=b4) (T:=23) (cs:=Tr.W8 x) A1 m5 m6
  have he:=(C00 hR (by omega) hT (A0b L)).1 _ _ _ _ { st with a:=a1 } hP6 hok2 (N5 L _)
  have hg:=J8 (A0b L) 0 { st with a:=a1 } (by omega) hok2 (N5 L _)
  refine wp ?_
  refine A0.by he ?_
  intro v s7 hv7
  unfold B6r
  simp only [hnf]
  unfold B2x
  rcases hr:ev L (A0b L) 0 { st with a:=a1 } with x'|z
  ·rw [hr] at hv7
   obtain ⟨⟨kd,tx,rfl⟩,a',o',d',k',hP7⟩:=hv7
   have hla:=C22 (Γ:=Γ) hP7
   obtain ⟨hP8,hb8⟩:=hP7.drop c4
   obtain ⟨hP9,hb9⟩:=hP8.drop c2
   conv=>whnf
   repeat' ((first|exact pru|(refine brS (fun h=>?_) (fun h=>?_)<;>(try rw [h])<;>(try simp only [bS,↓reduceIte] at h))|(refine AWp.anyC (id:=4) [18] [] (by kernel_rfl) (by kernel_rfl) (by kernel_rfl) (by kernel_rfl) ?_)|(refine ⟨trivial,?_⟩)|(refine A83.mk _ hla ?_)|(refine A4 hb8 ?_)|(refine A4 hb9 ?_)|refine gS ?_|refine aA ?_|refine nA ?_|fail)<;>(conv=>whnf))
   exact ⟨_,Sub.refl _,(x,_),_,_,_,_,_,rfl,⟨kd,tx,rfl⟩,hP9.put c2 m1 m2 _ _⟩
  ·rw [hr] at hv7
   obtain ⟨rfl,hP7⟩:=hv7
   obtain ⟨g1,g2⟩:=hg z hr
   have gl:=g1.ha
   have go:=g1.ho
   have hla:=A6c (Γ:=Γ) hP7 (by omega)
   obtain ⟨hP8,hb8⟩:=hP7.drop c4
   obtain ⟨hP9,hb9⟩:=hP8.drop c2
   conv=>whnf
   repeat' ((first|exact pru|(refine brS (fun h=>?_) (fun h=>?_)<;>(try rw [h])<;>(try simp only [bS,↓reduceIte] at h))|(refine AWp.anyC (id:=4) [18] [] (by kernel_rfl) (by kernel_rfl) (by kernel_rfl) (by kernel_rfl) ?_)|(refine ⟨trivial,?_⟩)|(refine A83.mk _ hla ?_)|(refine A4 hb8 ?_)|(refine A4 hb9 ?_)|refine gS ?_|refine aA ?_|refine nA ?_|fail)<;>(conv=>whnf))
   exact ⟨_,Sub.refl _,rfl,hP9.put c2 m1 m2 _ _⟩
theorem C7w (hR:Nu.Z8 Γ) (hL:L.length≤66000) (hT:∀ i,(B0 L i).2.1.length≤5000) (hP:Pst s0 s bp bl L st.a st.o st.d st.k) (hok:F8 L st) :
  A0 Tryz.prog Γ 191 [.ptr (some ⟨bp,0,none⟩)] s (C9v s0 bp bl L (fun l=>.slice 0 (l.map Tr.seA)) (B6u L st)):=by
 refine C9w (V:=fun t l=>.slice t (l.map Tr.seA)) (fun t l=>sl0 t l) ?_
 unfold B6u
 have hsa:=hok.ha
 refine acs Tryz.func191 ?_
 refine wp ?_
 refine AWp.loopA [4] [8,9,7,10,11,5,6,12,13,14,2,3,15,16,17,18,19,20,21,22] (fun q:List Tr.Se × St × B37 s0=>[.slice q.2.2.1 (q.1.map Tr.seA)]) (fun q s'=>F8 L q.2.1∧q.1.length≤q.2.1.a∧Pst (A0f s0 q.2.2.1 119 4) s' bp bl L q.2.1.a q.2.1.o q.2.1.d q.2.1.k∧∃ m,L.length - q.2.1.a < m∧A01 L (L.length+1) [] st=A01 L m q.1 q.2.1) (fun q=>L.length - q.2.1.a) (([],st,⟨1,.inl rfl⟩)) (by kernel_rfl) (rfl) ?_ ?_
 ·exact ⟨hok,Nat.zero_le _,by simp only [A5o];exact hP,L.length+1,by simp only;omega,rfl⟩
 ·rintro y ⟨acc,sb,t⟩ s7 ⟨hkb,hac,hP7,m,hm,hq⟩
  simp only at hkb hac hP7 hm hq
  rw [hq]
  clear hq
  obtain ⟨m,rfl⟩:∃ m',m=m'+1:=⟨m - 1,by omega⟩
  have hba:=hkb.ha
  have ho:=D8i (Γ:=Γ) hR hL hT hP7 hkb
  show awp _ _ _ _ _ (updL _ _ [.slice t.1 (acc.map Tr.seA)]) _
  refine wp ?_
  refine A0.by ho ?_
  intro v sa hva
  unfold C9v at hva
  rcases hof:B6r L sb with z|⟨x,z⟩
  ·have e3:A01 L (m+1) acc sb=.error z:=by rw [A01,hof]
   rw [hof] at hva
   obtain ⟨yy,e,a',o',d',k',rfl,⟨kd,tx,rfl⟩,hPa⟩:=hva
   refine wp ?_
   intro bq hbq
   have hPb:=(hPa.box hbq 119 [.str [],.int .i64 0,.int .i64 0,.int .i64 0])
   obtain ⟨m5,m6⟩:=hPa.nb hbq
   have hPc:=hPb.put (hPa.sub.none hbq) m5 m6 119 (Tr.seA yy)
   refine wp ?_
   refine ⟨_,Sub.refl _,?_⟩
   rw [e3]
   exact ⟨1,[],_,_,_,_,_,rfl,⟨kd,tx,rfl⟩,hPc.dropS.1⟩
  ·obtain ⟨g1,g2,_⟩:=B6s hkb hof
   have gl:=g1.ha
   rw [hof] at hva
   obtain ⟨rfl,hPa⟩:=hva
   refine wp ?_
   intro bq hbq
   have hPb:=(hPa.box hbq 119 [.str [],.int .i64 0,.int .i64 0,.int .i64 0])
   obtain ⟨m5,m6⟩:=hPa.nb hbq
   have hPc:=hPb.put (hPa.sub.none hbq) m5 m6 119 (Tr.seA x)
   refine wp ?_
   refine ⟨hPc.mayS,fun c hc=>by obtain ⟨z,_,rfl⟩:=List.mem_map.1 hc;rfl,all_cons ⟨rfl,rfl⟩ all_nil,?_,?_⟩
   ·show ((acc.map Tr.seA).length+1) * (_+1)≤_
    rw [List.length_map]
    exact Nat.le_trans (Nat.mul_le_mul_right _ (show acc.length+1≤100001 by omega)) (Nat.le_of_ble_eq_true (by kernel_rfl))
   intro t' k1 k2
   obtain ⟨hPd,hf⟩:=hPc.grownS t.2 k2
   have htk:=V9 (Γ:=Γ) hPd (by omega) (by omega) [44]
   have em:acc.map Tr.seA++[Tr.seA x]=(acc++[x]).map Tr.seA:=by rw [List.map_append];rfl
   conv=>whnf
   cases h44:isF L z.a [44]
   ·have e3:A01 L (m+1) acc sb=.ok (acc++[x],z):=by rw [A01,hof];simp [h44]
    rw [h44] at htk
    simp only [Bool.false_eq_true,if_false] at htk
    refine wp ?_;(refine A0.by htk ?_;rintro _ s9 ⟨rfl,hP9⟩);refine wp ?_
    refine ⟨_,Sub.refl _,?_⟩
    rw [e3]
    refine ⟨⟨t',?_⟩,hP9.dropS.1⟩
    show _=AV.tuple [AV.slice t' (List.map Tr.seA (acc++[x])),AV.nilIface]
    rw [← em]
    rfl
   ·have e3:A01 L (m+1) acc sb=A01 L m (acc++[x]) { z with a:=z.a+1 }:=by rw [A01,hof];simp [h44]
    have hl2:=D1 h44
    rw [h44] at htk
    simp only [if_true] at htk
    refine wp ?_;(refine A0.by htk ?_;rintro _ s9 ⟨rfl,hP9⟩);refine wp ?_
    refine ⟨(acc++[x],{ z with a:=z.a+1 },⟨t',hf⟩),?_,B9,⟨⟨hl2,by have:=g1.ho;simp only;omega,g1.hd,g1.hk⟩,by simp only [List.length_append,List.length_cons,List.length_nil];omega,hP9,m,by simp only;omega,e3⟩,by simp only;omega⟩
    rw [← em]
    rfl
end
end Go.Proofs.YticnkpgmmpenlaaGreatDoor.Pa
namespace Go.Proofs.YticnkpgmmpenlaaGreatDoor.Pa
open Go Go.Ab Go.RowKit Go.Proofs.YticnkpgmmpenlaaGreatDoor.Lx
def E8 (o:List Ex) (i:Nat):Ex:=o.getD i ex0
def dAt (d:List Int) (i:Nat):Int:=d.getD i 0
structure Pre (s s':St):Prop where
 o:∃ l,s'.o=s.o++l
 d:∃ l,s'.d=s.d++l
theorem Pre.trans {a b c:St} (h:Pre a b) (k:Pre b c):Pre a c:=by
 obtain ⟨⟨l1,h1⟩,⟨l2,h2⟩⟩:=h
 obtain ⟨⟨m1,k1⟩,⟨m2,k2⟩⟩:=k
 exact ⟨⟨l1++m1,by rw [k1,h1,List.append_assoc]⟩,⟨l2++m2,by rw [k2,h2,List.append_assoc]⟩⟩
theorem B8t {o l:List Ex} {i:Nat} (h:i < o.length):E8 (o++l) i=E8 o i:=by simp [E8,List.getD,List.getElem?_append_left h]
theorem A7e {o l:List Int} {i:Nat} (h:i < o.length):dAt (o++l) i=dAt o i:=by simp [dAt,List.getD,List.getElem?_append_left h]
theorem A11 {o l:List Ex} {i:Nat} (h:o.length≤i):E8 (o++l) i=E8 l (i - o.length):=by simp [E8,List.getD,List.getElem?_append_right h]
theorem Y6 {o l:List Int} {i:Nat} (h:o.length≤i):dAt (o++l) i=dAt l (i - o.length):=by simp [dAt,List.getD,List.getElem?_append_right h]
theorem B8s (o:List Ex) (m i:Nat):E8 (o.drop m) i=E8 o (m+i):=by simp [E8,List.getD]
theorem C2c (o:List Int) (m i:Nat):dAt (o.drop m) i=dAt o (m+i):=by simp [dAt,List.getD]
theorem C8t {o:List Ex} {m i:Nat} (h:i < m):E8 (o.take m) i=E8 o i:=by simp [E8,List.getD,List.getElem?_take,h]
theorem D1c {o:List Int} {m i:Nat} (h:i < m):dAt (o.take m) i=dAt o i:=by simp [dAt,List.getD,List.getElem?_take,h]
theorem C2h {o:List Ex} {by_:Int} {i:Nat} (h:i < o.length):E8 (o.map (G8 by_)) i=G8 by_ (E8 o i):=by simp [E8,List.getD,h]
theorem B8h {d:List Int} {a:Nat} (h:1≤dAt d a∧dAt d a≤64):A2z d [(a:Int)] 1=dAt d a+1:=by
 show (if IntKind.i64.wrap (d.getD ((a:Int)).toNat 0+1) > 1 then IntKind.i64.wrap (d.getD ((a:Int)).toNat 0+1) else 1)=_
 have e:IntKind.i64.wrap (d.getD ((a:Int)).toNat 0+1)=dAt d a+1:=C3 rfl (by unfold dAt at *;omega) (by unfold dAt at *;omega)
 rw [e,if_pos (by omega)]
theorem B8i {d:List Int} {a b:Nat} (h:1≤dAt d a∧dAt d a≤64) (k:1≤dAt d b∧dAt d b≤64):A2z d [(a:Int),(b:Int)] 1=(if dAt d b > dAt d a then dAt d b else dAt d a)+1:=by
 have e:∀ a:Nat,(1≤dAt d a∧dAt d a≤64)→IntKind.i64.wrap (d.getD ((a:Int)).toNat 0+1)=dAt d a+1:=fun a h=>C3 rfl (by unfold dAt at *;omega) (by unfold dAt at *;omega)
 simp only [A2z]
 rw [e a h,e b k]
 rw [if_pos (show dAt d a+1 > 1 by omega)]
 split<;>split<;>omega
theorem C3g {x:List UInt8}:∀ {m:List (List UInt8 × Int)},A8z x m≠0→∃ y ∈ m,y.2=A8z x m
 | [],h=>absurd rfl h
 | y::m,h=>by
  unfold A8z at h ⊢
  split
  ·exact ⟨y,List.mem_cons_self,rfl⟩
  ·rename_i hn
   rw [if_neg hn] at h
   obtain ⟨z,h1,h2⟩:=C3g h
   exact ⟨z,List.mem_cons_of_mem _ h1,h2⟩
theorem B9d {L:List Tok} {a:Nat} {m:List (List UInt8 × Int)} (h:J4 L a m≠0):∃ y ∈ m,y.2=J4 L a m:=by
 unfold J4 at h ⊢
 split
 ·rename_i h1
  rw [if_pos h1] at h
  exact C3g h
 ·rename_i h1
  rw [if_neg h1] at h
  exact absurd rfl h
def pr (t:Tok):Int × List UInt8:=(t.1,t.2.1)
def Tk (L:List Tok) (a:Nat):List (Int × List UInt8):=(L.drop a).map pr
def Z4 (L:List Tok):Prop:=∀ i,i < L.length→(L.getD i noTok).2.2.1=1
theorem E1 {L:List Tok} {a:Nat} {x:Int × List UInt8} {r:List (Int × List UInt8)} (h:Tk L a=x::r):a < L.length∧pr (L.getD a noTok)=x∧Tk L (a+1)=r:=by
 unfold Tk at *
 have ha:a < L.length:=by
  rcases Nat.lt_or_ge a L.length with hh|hh
  ·exact hh
  ·rw [List.drop_of_length_le hh] at h;cases h
 rw [List.drop_eq_getElem_cons ha,List.map_cons] at h
 injection h with h1 h2
 exact ⟨ha,by rw [List.getD_eq_getElem?_getD,List.getElem?_eq_getElem ha];exact h1,h2⟩
theorem C4p {L:List Tok} {a:Nat} (h:Tk L a=[]):L.length≤a:=by
 unfold Tk at h
 have:=congrArg List.length h
 simp at this
 omega
theorem P1 {L:List Tok} {a:Nat} {x:Int × List UInt8} {r:List (Int × List UInt8)} (hl:Z4 L) (h:Tk L a=x::r):(B0 L a).1=x.1∧(B0 L a).2.1=x.2∧(B0 L a).2.2.1=1:=by
 obtain ⟨h1,h2,_⟩:=E1 h
 unfold B0
 rw [if_pos h1]
 exact ⟨congrArg Prod.fst h2,congrArg Prod.snd h2,hl a h1⟩
theorem Q7 {L:List Tok} {a:Nat} {x:Int × List UInt8} {r:List (Int × List UInt8)} (hl:Z4 L) (h:Tk L a=x::r) (w:List UInt8):isF L a w=((decide (x.1=2) || decide (x.1=5)) && decide (x.2=w)):=by
 obtain ⟨h1,h2,_⟩:=P1 hl h
 unfold isF B1f
 rw [h1,h2]
theorem B5u {L:List Tok} {a:Nat} {x:Int × List UInt8} {r:List (Int × List UInt8)} (hl:Z4 L) (h:Tk L a=x::r) (m:List (List UInt8 × Int)):J4 L a m=if (decide (x.1=2) || decide (x.1=5))=true then A8z x.2 m else 0:=by
 obtain ⟨h1,h2,_⟩:=P1 hl h
 unfold J4 B1f
 rw [h1,h2]
theorem C9q {L:List Tok} {a:Nat} (h:Tk L a=[]) (m:List (List UInt8 × Int)):J4 L a m=0:=by
 have:=C4p h
 cases hn:decide (J4 L a m=0)
 ·exact absurd (A33 (of_decide_eq_false hn)) (by omega)
 ·exact of_decide_eq_true hn
theorem C2d (c:UInt8):digB c=Nu.isD c:=by
 unfold digB A4u Nu.isD
 by_cases h1:48≤c.toNat<;>by_cases h2:c.toNat≤57<;>simp [h1,h2]<;>omega
def C6i (t:Tok):Prop:=t.2.1.length≤5000∧(t.1=3→0 < t.2.1.length∧t.2.1.all Nu.isD=true∧¬ (A7 t.2.1 0=48∧1 < t.2.1.length))
theorem D3k (l:List UInt8):(J5 l).length≤5000:=by
 rcases A9u signsL l with h|⟨h,_⟩
 ·unfold J5;rw [h];decide
 ·have:=(by decide:∀ x ∈ signsL,x.length≤5000)
  exact this _ h
theorem C27 {l:List UInt8} {k:Int} {t:List UInt8} (h:D7 l=.ok (k,t)) (a b:Int):C6i (k,t,a,b):=by
 unfold D7 at h
 split at h
 ·rename_i hd
  split at h
  ·rename_i hn
   cases h
   unfold A1g at hn
   split at hn
   ·cases hn
   ·rename_i hb
    split at hn
    ·cases hn
    ·rename_i h32
     refine ⟨by show l.length≤5000;omega,fun _=>⟨?_,?_,fun hh=>hb (.inr hh)⟩⟩
     ·cases l with
      | nil=>exact absurd hd (by decide)
      | cons c r=>exact Nat.succ_pos _
     ·have ha:l.all digB=true:=by
       cases hx:l.all digB
       ·exact absurd (.inl hx) hb
       ·rfl
      show l.all Nu.isD=true
      rw [← ha]
      exact congrArg l.all (funext fun c=>(C2d c).symm)
  ·cases h
 ·split at h
  ·cases h
  ·rename_i h32
   split at h
   ·cases h
    exact ⟨by show l.length≤5000;omega,fun h=>by cases h⟩
   ·cases h
    exact ⟨by show l.length≤5000;omega,fun h=>by cases h⟩
theorem C8z {l:List UInt8} {k:Int} {t:List UInt8} {n:Nat} (h:H0 l=.ok (k,t,n)) (a b:Int):C6i (k,t,a,b):=by
 unfold H0 at h
 split at h
 ·split at h
  ·cases h
  ·split at h
   ·cases h
   ·cases h
    exact ⟨by show t.length≤5000;omega,fun h=>by cases h⟩
 ·split at h
  ·split at h
   ·cases h
   ·cases h
    exact ⟨D3k l,fun h=>by cases h⟩
  ·split at h
   ·cases h
   ·rename_i hl
    cases h
    exact C27 hl a b
theorem B87:∀ (k:Nat) (p:Int × Int) (l:List UInt8) (m:List Tok),A2i k p l=.ok m→∀ t ∈ m,C6i t
 | 0,p,l,m=>fun h=>by cases h;exact fun _ h=>nomatch h
 | k+1,p,l,m=>fun h=>by
  by_cases hl:l.drop (B3 l)=[]
  ·rw [A1c hl] at h;cases h;exact fun _ h=>nomatch h
  ·rcases he:H0 (l.drop (B3 l)) with e'|⟨kd,t,z⟩
   ·rw [A31 hl he] at h;cases h
   ·rw [A28 hl he] at h
    rcases hr:A2i k ((D5 p (l.take (B3 l))).1,(D5 p (l.take (B3 l))).2+z) ((l.drop (B3 l)).drop z) with ⟨e',a',b'⟩|m'
    ·rw [hr] at h;cases h
    ·rw [hr] at h
     have:=B87 k _ _ _ hr
     cases h
     intro x hx
     rcases List.mem_cons.1 hx with rfl|hx
     ·exact C8z he _ _
     ·exact this x hx
theorem C8b {S:List UInt8} {L:List Tok} (h:A03 S=.ok L):∀ i,C6i (L.getD i noTok):=fun i=>by
 unfold A03 at h
 split at h
 ·cases h
 ·by_cases hi:i < L.length
  ·exact B87 _ _ _ _ h _ (by rw [List.getD_eq_getElem?_getD,List.getElem?_eq_getElem hi];exact List.getElem_mem hi)
  ·rw [List.getD_eq_getElem?_getD,List.getElem?_eq_none (by omega)]
   exact ⟨Nat.zero_le _,fun h=>by cases h⟩
theorem A8e {S:List UInt8} {L:List Tok} (h:A03 S=.ok L):∀ i,(B0 L i).2.1.length≤5000:=fun i=>by
 unfold B0
 split
 ·exact (C8b h i).1
 ·split<;>exact Nat.zero_le _
theorem C12 {S:List UInt8} {L:List Tok} (h:A03 S=.ok L):L.length≤S.length:=by
 unfold A03 at h
 split at h
 ·cases h
 ·exact B0q _ _ _ _ h
def C5 (S:List UInt8) (T:List (Int × List UInt8)):Prop :=
 ∀ (k:Nat) (p:Int × Int),p.1=1→S.length < k→∃ L,A2i k p S=.ok L∧L.map pr=T∧∀ t ∈ L,t.2.2.1=1
theorem B88:C5 [] []:=fun k p _ hk=>by
 cases k with
 | zero=>cases hk
 | succ k=>exact ⟨[],A1c rfl,rfl,fun _ h=>nomatch h⟩
theorem X5 {S:List UInt8} {kd:Int} {tx:List UInt8} {z:Nat} {T:List (Int × List UInt8)} (hb:B3 S=0) (hne:S≠[]) (hf:H0 S=.ok (kd,tx,z)) (h:C5 (S.drop z) T):C5 S ((kd,tx)::T):=fun k p hp hk=>by
 cases k with
 | zero=>cases hk
 | succ k =>
  have hz:=A0y hf hne
  have hf':H0 (S.drop (B3 S))=.ok (kd,tx,z):=by rw [hb,List.drop_zero];exact hf
  rw [A28 (by rw [hb];exact hne) hf']
  rw [hb,List.take_zero,List.drop_zero]
  have hpl:D5 p []=p:=by cases p;rfl
  rw [hpl]
  obtain ⟨L,h1,h2,h3⟩:=h k (p.1,p.2+z) hp (by rw [List.length_drop];omega)
  rw [h1]
  refine ⟨(kd,tx,p)::L,rfl,by rw [List.map_cons,h2];rfl,fun t ht=>?_⟩
  rcases List.mem_cons.1 ht with rfl|ht
  ·exact hp
  ·exact h3 t ht
theorem C8 {S:List UInt8} {T:List (Int × List UInt8)} (h:C5 S T):C5 (32::S) T:=fun k p hp hk=>by
 obtain ⟨a,b⟩:=p
 simp only [List.length_cons] at hk
 obtain ⟨L,h1,h2,h3⟩:=h k (a,b+1) hp (by omega)
 refine ⟨L,?_,h2,h3⟩
 rw [← h1]
 cases k with
 | zero=>omega
 | succ k =>
  have hbn:B3 (32::S)=B3 S+1:=by unfold B3;rw [N4];rfl
  have e1:(32::S).drop (B3 (32::S))=S.drop (B3 S):=by rw [hbn];rfl
  have e2:D5 (a,b) ((32::S).take (B3 (32::S)))=D5 (a,b+1) (S.take (B3 S)):=by rw [hbn];rfl
  unfold A2i
  rw [e1,e2]
theorem A0l {c:UInt8} {r:List UInt8} (h1:A4s c.toNat=false) (h2:c≠35):B3 (c::r)=0:=by
 unfold B3
 rw [N4]
 simp [h1,h2]
theorem B89 {r:List UInt8} {T:List (Int × List UInt8)} (h:C5 r T):C5 (110::111::116::32::r) ((2,[110,111,116])::T):=by
 refine X5 (z:=3) (A0l (by decide) (by decide)) (by simp) ?_ (C8 h)
 have h1:G6 (110::111::116::32::r)=3:=by
  rw [G6,if_pos (by decide),G6,if_pos (by decide),G6,if_pos (by decide),G6,if_neg (by decide)]
 unfold H0
 rw [if_neg (by show ¬ (110:UInt8)=34;decide),h1,if_neg (by decide)]
 rw [show (110::111::116::32::r).take 3=[110,111,116] from rfl,show D7 [110,111,116]=.ok (2,[110,111,116]) by kernel_rfl]
theorem B53 {x y c:UInt8} {r:List UInt8} (h:x≠c):pfx [x,y] (c::r)=false:=by
 unfold pfx
 rw [Bool.and_eq_false_iff]
 right
 rw [decide_eq_false_iff_not]
 intro hh
 rw [show [x,y].length=2 from rfl,List.take_succ_cons] at hh
 injection hh with h1 _
 exact h h1.symm
theorem B00 {x c:UInt8} {r:List UInt8}:pfx [x] (c::r)=decide (c=x):=by
 unfold pfx
 simp
theorem C7x {r:List UInt8}:J5 (40::r)=[40]:=by
 unfold J5 signsL
 simp [A1j,B53,B00]
theorem C7y {r:List UInt8}:J5 (41::r)=[41]:=by
 unfold J5 signsL
 simp [A1j,B53,B00]
theorem S8 {c:UInt8} {r:List UInt8} {T:List (Int × List UInt8)} (h1:A4s c.toNat=false) (h2:c≠35) (h3:c≠34) (h4:Sc.J0 c.toNat=false) (hs:J5 (c::r)=[c]) (h:C5 r T):C5 (c::r) ((5,[c])::T):=by
 refine X5 (z:=1) (A0l h1 h2) (by simp) ?_ h
 unfold H0
 rw [if_neg (by show ¬ c=34;exact h3),if_pos (by rw [G6,if_neg (by rw [h4];decide)]),hs,if_neg (by simp)]
 rfl
theorem D53 {L:List Tok} (h:∀ t ∈ L,t.2.2.1=1):Z4 L:=fun i hi=>by
 rw [List.getD_eq_getElem?_getD,List.getElem?_eq_getElem hi]
 exact h _ (List.getElem_mem hi)
theorem C69 {S:List UInt8} {T:List (Int × List UInt8)} (h:C5 S T) (hS:S.length≤65536):∃ L,A03 S=.ok L∧Tk L 0=T∧Z4 L∧L.length=T.length:=by
 obtain ⟨L,h1,h2,h3⟩:=h (S.length+1) (1,1) rfl (by omega)
 refine ⟨L,?_,h2,D53 h3,?_⟩
 ·unfold A03
  rw [if_neg (by omega)]
  exact h1
 ·rw [← h2,List.length_map]
end Go.Proofs.YticnkpgmmpenlaaGreatDoor.Pa
namespace Go.Proofs.YticnkpgmmpenlaaGreatDoor.Pr
open Go Go.Ab Go.RowKit Go.Proofs.YticnkpgmmpenlaaGreatDoor.Lx Go.Proofs.YticnkpgmmpenlaaGreatDoor.Pa
def Z4 (_:List Tok):Prop:=True
theorem P1 {L:List Tok} {a:Nat} {x:Int × List UInt8} {r:List (Int × List UInt8)} (_:Z4 L) (h:Tk L a=x::r):(B0 L a).1=x.1∧(B0 L a).2.1=x.2∧True:=by
 obtain ⟨h1,h2,_⟩:=E1 h
 unfold B0
 rw [if_pos h1]
 exact ⟨congrArg Prod.fst h2,congrArg Prod.snd h2,trivial⟩
theorem Q7 {L:List Tok} {a:Nat} {x:Int × List UInt8} {r:List (Int × List UInt8)} (hl:Z4 L) (h:Tk L a=x::r) (w:List UInt8):isF L a w=((decide (x.1=2) || decide (x.1=5)) && decide (x.2=w)):=by
 obtain ⟨h1,h2,_⟩:=P1 hl h
 unfold isF B1f
 rw [h1,h2]
theorem B5u {L:List Tok} {a:Nat} {x:Int × List UInt8} {r:List (Int × List UInt8)} (hl:Z4 L) (h:Tk L a=x::r) (m:List (List UInt8 × Int)):J4 L a m=if (decide (x.1=2) || decide (x.1=5))=true then A8z x.2 m else 0:=by
 obtain ⟨h1,h2,_⟩:=P1 hl h
 unfold J4 B1f
 rw [h1,h2]
theorem C5y {L:List Tok} {f:Nat} {st:St} (hl:Z4 L) {x:Int × List UInt8} {r:List (Int × List UInt8)} (h:Tk L st.a=x::r) (hx:x≠(2,[110,111,116])∧x≠(5,[110,111,116])):ev L (f+1) 2 st=ev L f 3 st:=by
 show (if isF L st.a [110,111,116]=true then R1 L 4 (ev L f 2) st else ev L f 3 st)=_
 rw [Q7 hl h,if_neg]
 intro hh
 rw [Bool.and_eq_true,Bool.or_eq_true,decide_eq_true_eq,decide_eq_true_eq,decide_eq_true_eq] at hh
 obtain ⟨x1,x2⟩:=x
 simp only at hh
 obtain ⟨h1,h2⟩:=hh
 subst h2
 rcases h1 with h1|h1
 ·exact hx.1 (by rw [h1])
 ·exact hx.2 (by rw [h1])
def C5 (S:List UInt8) (T:List (Int × List UInt8)):Prop :=
 ∀ (k:Nat) (p:Int × Int),S.length < k→∃ L,A2i k p S=.ok L∧L.map pr=T
theorem B88:C5 [] []:=fun k p hk=>by
 cases k with
 | zero=>cases hk
 | succ k=>exact ⟨[],A1c rfl,rfl⟩
theorem X5 {S:List UInt8} {kd:Int} {tx:List UInt8} {z:Nat} {T:List (Int × List UInt8)} (hb:B3 S=0) (hne:S≠[]) (hf:H0 S=.ok (kd,tx,z)) (h:C5 (S.drop z) T):C5 S ((kd,tx)::T):=fun k p hk=>by
 cases k with
 | zero=>cases hk
 | succ k =>
  have hz:=A0y hf hne
  have hf':H0 (S.drop (B3 S))=.ok (kd,tx,z):=by rw [hb,List.drop_zero];exact hf
  rw [A28 (by rw [hb];exact hne) hf']
  rw [hb,List.drop_zero]
  obtain ⟨L,h1,h2⟩:=h k ((D5 p (List.take 0 S)).1,(D5 p (List.take 0 S)).2+z) (by rw [List.length_drop];omega)
  rw [h1]
  exact ⟨_,rfl,by show (kd,tx)::L.map pr=_;rw [h2]⟩
theorem B5q {c:UInt8} (hc:c=32∨c=10) {S:List UInt8} {T:List (Int × List UInt8)} (h:C5 S T):C5 (c::S) T:=fun k p hk=>by
 simp only [List.length_cons] at hk
 obtain ⟨L,h1,h2⟩:=h k (D5 p [c]) (by omega)
 refine ⟨L,?_,h2⟩
 rw [← h1]
 cases k with
 | zero=>omega
 | succ k =>
  have hbn:B3 (c::S)=B3 S+1:=by rcases hc with rfl|rfl<;>(unfold B3;rw [N4];rfl)
  have e1:(c::S).drop (B3 (c::S))=S.drop (B3 S):=by rw [hbn];rfl
  have e2:D5 p ((c::S).take (B3 (c::S)))=D5 (D5 p [c]) (S.take (B3 S)):=by rw [hbn];rfl
  unfold A2i
  rw [e1,e2]
theorem C8 {S:List UInt8} {T:List (Int × List UInt8)} (h:C5 S T):C5 (32::S) T:=B5q (.inl rfl) h
theorem A9n {S:List UInt8} {T:List (Int × List UInt8)} (h:C5 S T):C5 (10::S) T:=B5q (.inr rfl) h
theorem B89 {r:List UInt8} {T:List (Int × List UInt8)} (h:C5 r T):C5 (110::111::116::32::r) ((2,[110,111,116])::T):=by
 refine X5 (z:=3) (A0l (by decide) (by decide)) (by simp) ?_ (C8 h)
 have h1:G6 (110::111::116::32::r)=3:=by
  rw [G6,if_pos (by decide),G6,if_pos (by decide),G6,if_pos (by decide),G6,if_neg (by decide)]
 unfold H0
 rw [if_neg (by show ¬ (110:UInt8)=34;decide),h1,if_neg (by decide)]
 rw [show (110::111::116::32::r).take 3=[110,111,116] from rfl,show D7 [110,111,116]=.ok (2,[110,111,116]) by kernel_rfl]
theorem S8 {c:UInt8} {r:List UInt8} {T:List (Int × List UInt8)} (h1:A4s c.toNat=false) (h2:c≠35) (h3:c≠34) (h4:Sc.J0 c.toNat=false) (hs:J5 (c::r)=[c]) (h:C5 r T):C5 (c::r) ((5,[c])::T):=by
 refine X5 (z:=1) (A0l h1 h2) (by simp) ?_ h
 unfold H0
 rw [if_neg (by show ¬ c=34;exact h3),if_pos (by rw [G6,if_neg (by rw [h4];decide)]),hs,if_neg (by simp)]
 rfl
theorem C69 {S:List UInt8} {T:List (Int × List UInt8)} (h:C5 S T) (hS:S.length≤65536):∃ L,A03 S=.ok L∧Tk L 0=T∧Z4 L∧L.length=T.length:=by
 obtain ⟨L,h1,h2⟩:=h (S.length+1) (1,1) (by omega)
 refine ⟨L,?_,h2,trivial,?_⟩
 ·unfold A03
  rw [if_neg (by omega)]
  exact h1
 ·rw [← h2,List.length_map]
inductive Xt where
 | con (v:Int × Int × List UInt8 × Bool)
 | nam (s:List UInt8)
 | una (op:Int) (x:Xt)
 | bin (op:Int) (x y:Xt)
 | par (x:Xt)
def lvl (op:Int):Nat :=
 if op=7 then 1 else if op=6 then 2 else if op=4 then 3 else if 13≤op∧op≤16 then 4 else if op=8∨op=9 then 5 else if 10≤op∧op≤12 then 6 else if op=5 then 7 else 8
def B9p:List (List UInt8):=[[97,110,100],[111,114],[43],[45],[42],[47],[37],[61,61],[33,61],[60],[60,61]]
def A4o (op:Int):List UInt8:=B9p.getD (op - 6).toNat []
def opT (op:Int):Int × List UInt8:=(if op=6∨op=7 then 2 else 5,A4o op)
def A0w (v:Int × Int × List UInt8 × Bool):List (Int × List UInt8) :=
 if v.1=1 then (if v.2.1 < 0 then [(5,[45]),(3,Lib.itoa (-v.2.1))] else [(3,Lib.itoa v.2.1)])
 else if v.1=2 then [(4,v.2.2.1)] else [(2,if v.2.2.2=true then [116,114,117,101] else [102,97,108,115,101])]
namespace Xt
def lev:Xt→Nat
 | con _=>8
 | nam _=>8
 | una op _=>lvl op
 | bin op _ _=>lvl op
 | par _=>8
def toks:Xt→List (Int × List UInt8)
 | con v=>A0w v
 | nam s=>[(1,s)]
 | una op x=>(if op=4 then (2,[110,111,116]) else (5,[45]))::toks x
 | bin op x y=>toks x++opT op::toks y
 | par x=>(5,[40])::(toks x++[(5,[41])])
abbrev D0o:=Int × Int × Int × List UInt8 × (Int × Int × List UInt8 × Bool)
def none:Int × Int × List UInt8 × Bool:=(0,0,[],false)
def cnt:Xt→Nat
 | con _=>1
 | nam _=>1
 | una _ x=>cnt x+1
 | bin _ x y=>cnt x+cnt y+1
 | par x=>cnt x
def cores:Xt→Nat→List D0o
 | con v,_=>[(1,0,0,[],v)]
 | nam s,_=>[(17,0,0,s,none)]
 | una op x,n=>cores x n++[(op,((n+cnt x:Nat):Int) - 1,0,[],none)]
 | bin op x y,n=>cores x n++(cores y (n+cnt x)++[(op,((n+cnt x:Nat):Int) - 1,((n+cnt x+cnt y:Nat):Int) - 1,[],none)])
 | par x,n=>cores x n
theorem A49:∀ (x:Xt) (n:Nat),(cores x n).length=cnt x
 | con _,_=>rfl
 | nam _,_=>rfl
 | una op x,n=>by unfold cores cnt;rw [List.length_append,A49 x n];rfl
 | bin op x y,n=>by unfold cores cnt;rw [List.length_append,List.length_append,A49 x n,A49 y _];rfl
 | par x,n=>A49 x n
def dep:Xt→Nat
 | con _=>1
 | nam _=>1
 | una _ x=>dep x+1
 | bin _ x y=>(if dep y > dep x then dep y else dep x)+1
 | par x=>dep x
def opn:Xt→Nat
 | con _=>0
 | nam _=>0
 | una _ x=>opn x+1
 | bin _ x y=>if opn y > opn x then opn y else opn x
 | par x=>opn x+1
def siz:Xt→Nat
 | con _=>1
 | nam _=>1
 | una _ x=>siz x+1
 | bin _ x y=>siz x+siz y+1
 | par x=>siz x+2
def bare:Xt→Bool
 | con v=>decide (v.1=1) && decide (0≤v.2.1)
 | _=>false
def C1y (v:Int × Int × List UInt8 × Bool):Prop :=
 (v.1=1∧-9223372036854775808≤v.2.1∧v.2.1≤9223372036854775807∧v.2.2.1=[]∧v.2.2.2=false)∨(v.1=2∧v.2.1=0∧v.2.2.2=false)∨(v.1=3∧v.2.1=0∧v.2.2.1=[])
def Ok:Xt→Prop
 | con v=>C1y v
 | nam s=>s≠[95]
 | una op x=>(op=4∧3≤lev x∨op=5∧7≤lev x∧bare x=false)∧Ok x
 | bin op x y=>6≤op∧op≤16∧(if lvl op=4 then 5 else lvl op)≤lev x∧lvl op+1≤lev y∧Ok x∧Ok y
 | par x=>Ok x
end Xt
def B1x (x:Ex):Xt.D0o:=(x.op,x.a,x.b,x.name,x.vk,x.vi,x.vs,x.vb)
end Go.Proofs.YticnkpgmmpenlaaGreatDoor.Pr
namespace Go.Proofs.YticnkpgmmpenlaaGreatDoor.Pr
open Go Go.Ab Go.RowKit Go.Proofs.YticnkpgmmpenlaaGreatDoor.Lx Go.Proofs.YticnkpgmmpenlaaGreatDoor.Pa
variable {L:List Tok} {R:List (Int × List UInt8)}
def sgn (t:Int × List UInt8):Bool:=decide (t.1=2) || decide (t.1=5)
def B23:Nat→List (List UInt8 × Int)
 | 0=>orM
 | 1=>D01
 | 2=>[]
 | 3=>A2r
 | 4=>D30
 | 5=>C3q
 | _=>[]
def U9 (l:Nat) (R:List (Int × List UInt8)):Prop:=∀ t r,R=t::r→sgn t=true→∀ j,l≤j→A8z t.2 (B23 j)=0
theorem U9.up {l l':Nat} (h:U9 l R) (hl:l≤l'):U9 l' R:=fun t r e hs j hj=>h t r e hs j (Nat.le_trans hl hj)
theorem U9.next (hl:Z4 L) {l j a:Nat} (h:U9 l (Tk L a)) (hj:l≤j):J4 L a (B23 j)=0:=by
 cases e:Tk L a with
 | nil=>exact C9q e _
 | cons t r =>
  rw [B5u hl e]
  cases hs:(decide (t.1=2) || decide (t.1=5))
  ·rfl
  ·exact h t r e hs j hj
theorem D54 {j:Nat} (hj:6≤j):B23 j=[]:=by
 match j,hj with
 | j+6,_=>rfl
theorem B0c {l:Nat} {t:Int × List UInt8} (h:∀ j,j < 6→l≤j→A8z t.2 (B23 j)=0) (r:List (Int × List UInt8)):U9 l (t::r):=by
 intro t' r' e _ j hj
 injection e with e1 e2
 subst e1
 rcases Nat.lt_or_ge j 6 with hh|hh
 ·exact h j hh hj
 ·rw [D54 hh];rfl
theorem C8q (r:List (Int × List UInt8)):U9 0 ((5,[41])::r):=B0c (by decide) r
theorem A5m {op:Int} (h:6≤op∧op≤16):op=6∨op=7∨op=8∨op=9∨op=10∨op=11∨op=12∨op=13∨op=14∨op=15∨op=16:=by omega
theorem D5d {op:Int} (h:6≤op∧op≤16) (r:List (Int × List UInt8)):U9 (lvl op) (opT op::r):=by
 rcases A5m h with rfl|rfl|rfl|rfl|rfl|rfl|rfl|rfl|rfl|rfl|rfl<;>exact B0c (by decide) r
theorem C7o (hl:Z4 L) {op:Int} (h:6≤op∧op≤16) {a:Nat} {r:List (Int × List UInt8)} (ht:Tk L a=opT op::r):J4 L a (B23 (lvl op - 1))=op:=by
 rw [B5u hl ht]
 rcases A5m h with rfl|rfl|rfl|rfl|rfl|rfl|rfl|rfl|rfl|rfl|rfl<;>decide
theorem B5v {op:Int} (h:6≤op∧op≤16):lvl op=1∨lvl op=2∨lvl op=4∨lvl op=5∨lvl op=6:=by
 rcases A5m h with rfl|rfl|rfl|rfl|rfl|rfl|rfl|rfl|rfl|rfl|rfl<;>decide
namespace Xt
theorem B3p:∀ x:Xt,1≤dep x
 | con _=>Nat.le_refl _
 | nam _=>Nat.le_refl _
 | una _ x=>Nat.le_add_left _ _
 | bin _ _ _=>Nat.le_add_left _ _
 | par x=>B3p x
theorem A74:∀ {x:Xt},x.siz≤x.toks.length
 | con v=>by unfold toks A0w siz;split<;>(try split)<;>simp
 | nam _=>Nat.le_refl _
 | una op x=>by have:=A74 (x:=x);unfold toks siz;simp only [List.length_cons];omega
 | bin op x y=>by have:=A74 (x:=x);have:=A74 (x:=y);unfold toks siz;simp only [List.length_append,List.length_cons];omega
 | par x=>by have:=A74 (x:=x);unfold toks siz;simp only [List.length_append,List.length_cons,List.length_nil];omega
theorem C2t:∀ {x:Xt},Ok x→4≤lev x→∃ t r,toks x=t::r∧t≠(2,[110,111,116])∧t≠(5,[110,111,116])
 | con v,hx,_=>by
  unfold toks A0w
  split
  ·split
   ·exact ⟨_,_,rfl,by decide,by decide⟩
   ·exact ⟨_,_,rfl,by simp,by simp⟩
  ·split
   ·exact ⟨_,_,rfl,by simp,by simp⟩
   ·refine ⟨_,_,rfl,?_,?_⟩<;>split<;>decide
 | nam s,_,_=>⟨_,_,rfl,by simp,by simp⟩
 | una op x,hx,hl=>by
  obtain ⟨h|h,_⟩:=hx
  ·rw [h.1] at hl;exact absurd (show 4≤lvl 4 from hl) (by decide)
  ·refine ⟨_,_,rfl,?_,?_⟩<;>rw [h.1]<;>decide
 | bin op x y,hx,hl=>by
  obtain ⟨h1,h2,h3,_,hx,_⟩:=hx
  have hl:4≤lvl op:=hl
  obtain ⟨t,r,e,h⟩:=C2t hx (by split at h3<;>omega)
  exact ⟨t,r++opT op::toks y,by show toks x++_=_;rw [e];rfl,h⟩
 | par x,_,_=>⟨_,_,rfl,by decide,by decide⟩
end Xt
end Go.Proofs.YticnkpgmmpenlaaGreatDoor.Pr
namespace Go.Proofs.YticnkpgmmpenlaaGreatDoor.Nu
open Go Go.Ab Go.RowKit
theorem B19:∀ (x y:List UInt8) (a:Nat),nv (x++y) a=nv y (nv x a)
 | [],y,a=>rfl
 | c::r,y,a=>B19 r y _
theorem B4p {u:Nat} (h:u < 10):(UInt8.ofNat (48+u)).toNat=48+u:=by
 rw [UInt8.toNat_ofNat'];omega
theorem A8i:∀ (k u:Nat),u < k→Lib.decDigits u≠[]∧(Lib.decDigits u).all isD=true∧nv (Lib.decDigits u) 0=u∧((A7 (Lib.decDigits u) 0).toNat=48→u=0)
 | 0,u=>fun h=>by omega
 | k+1,u=>fun h=>by
  by_cases hu:u < 10
  ·have e:Lib.decDigits u=[UInt8.ofNat (48+u)]:=by rw [Lib.decDigits,dif_pos hu]
   rw [e]
   refine ⟨by simp,?_,?_,?_⟩
   ·simp [isD,B4p hu];omega
   ·show 0 * 10+((UInt8.ofNat (48+u)).toNat - 48)=u
    rw [B4p hu];omega
   ·show (UInt8.ofNat (48+u)).toNat=48→u=0
    rw [B4p hu];omega
  ·obtain ⟨h1,h2,h3,h4⟩:=A8i k (u / 10) (by omega)
   have e:Lib.decDigits u=Lib.decDigits (u / 10)++[UInt8.ofNat (48+u % 10)]:=by rw [Lib.decDigits,dif_neg hu]
   have h10:u % 10 < 10:=Nat.mod_lt _ (by omega)
   rw [e]
   refine ⟨by simp,?_,?_,?_⟩
   ·rw [List.all_append,h2]
    simp [isD,B4p h10];omega
   ·rw [B19,h3]
    show u / 10 * 10+((UInt8.ofNat (48+u % 10)).toNat - 48)=u
    rw [B4p h10];omega
   ·have:A7 (Lib.decDigits (u / 10)++[UInt8.ofNat (48+u % 10)]) 0=A7 (Lib.decDigits (u / 10)) 0:=by
     unfold A7 List.getD
     rw [List.getElem?_append_left (List.length_pos_iff.2 h1)]
    rw [this]
    intro h5
    have:=h4 h5
    omega
theorem A9h:∀ (k:Nat) (d:List UInt8),d.length≤k→d≠[]→d.all isD=true→((A7 d 0).toNat=48→d.length=1)→Lib.decDigits (nv d 0)=d∧((A7 d 0).toNat≠48→1≤nv d 0)
 | 0,d=>fun h h1=>absurd (List.eq_nil_of_length_eq_zero (by omega)) h1
 | k+1,d=>fun h h1 h2 h3=>by
  have hl:d.dropLast++[d.getLast h1]=d:=List.dropLast_concat_getLast h1
  generalize d.getLast h1=c at hl
  generalize d.dropLast=r at hl
  subst hl
  rw [List.all_append,Bool.and_eq_true] at h2
  have hc:48≤c.toNat∧c.toNat≤57:=by simpa [isD] using h2.2
  have hcc:UInt8.ofNat c.toNat=c:=UInt8.ofNat_toNat
  rw [B19]
  have hn:nv [c] (nv r 0)=nv r 0 * 10+(c.toNat - 48):=rfl
  rw [hn]
  by_cases hr:r=[]
  ·subst hr
   have e0:nv [] 0=0:=rfl
   rw [e0]
   have e1:Lib.decDigits (0 * 10+(c.toNat - 48))=[UInt8.ofNat (48+(0 * 10+(c.toNat - 48)))]:=by rw [Lib.decDigits,dif_pos (by omega)]
   rw [e1,show 48+(0 * 10+(c.toNat - 48))=c.toNat by omega,hcc]
   refine ⟨rfl,fun h9=>?_⟩
   have:c.toNat≠48:=h9
   omega
  ·have hb:A7 (r++[c]) 0=A7 r 0:=by
    unfold A7 List.getD
    rw [List.getElem?_append_left (List.length_pos_iff.2 hr)]
   rw [hb] at h3 ⊢
   have hrl:=List.length_pos_iff.2 hr
   have hne:(A7 r 0).toNat≠48:=fun h9=>by
    have:=h3 h9
    rw [List.length_append,List.length_singleton] at this
    omega
   rw [List.length_append,List.length_singleton] at h
   obtain ⟨i1,i2⟩:=A9h k r (by omega) hr h2.1 (fun h9=>absurd h9 hne)
   have i2:=i2 hne
   have e1:Lib.decDigits (nv r 0 * 10+(c.toNat - 48))=Lib.decDigits ((nv r 0 * 10+(c.toNat - 48)) / 10)++[UInt8.ofNat (48+(nv r 0 * 10+(c.toNat - 48)) % 10)]:=by rw [Lib.decDigits,dif_neg (by omega)]
   rw [e1,show (nv r 0 * 10+(c.toNat - 48)) / 10=nv r 0 by omega,show 48+(nv r 0 * 10+(c.toNat - 48)) % 10=c.toNat by omega,hcc,i1]
   exact ⟨rfl,fun _=>by omega⟩
theorem C5n {l:List UInt8} (h:A08 l=true) (he:A1g l=0):Lib.itoa (A9q l)=l:=by
 have hf:=h
 rw [B0h,Bool.and_eq_true,Bool.and_eq_true] at hf
 obtain ⟨⟨h1,h2⟩,h3⟩:=hf
 have hlong:=C84 h
 obtain ⟨e1,e2⟩:=B0w h
 have hb:A7 (l.drop (from_ l)) 0=A7 l (from_ l):=by simp [A7,List.getD]
 have h48:(A7 (l.drop (from_ l)) 0).toNat=48→l.length≤1:=fun h9=>by
  rw [hb] at h9
  refine Classical.byContradiction fun h8=>?_
  rw [decide_eq_true h9,decide_eq_true (by omega:1 < l.length)] at h2
  cases h2
 obtain ⟨u1,u2⟩:=A9h l.length (l.drop (from_ l)) (by rw [List.length_drop];omega) (fun e=>by have:=List.drop_eq_nil_iff.1 e;omega) h3 (fun h9=>by have:=h48 h9;rw [List.length_drop];omega)
 by_cases hm:from_ l=1
 ·rw [if_pos hm] at e1 e2
  by_cases hw:Q8 l≤9223372036854775808
  ·rw [if_pos hw] at e1
   rw [e1]
   have h9:1≤Q8 l:=u2 (fun h9=>by have:=h48 h9;omega)
   rw [Lib.itoa_neg _ h9]
   have e45:A7 l 0=45:=by
    unfold from_ at hm
    refine Classical.byContradiction fun h8=>?_
    rw [if_neg h8] at hm
    cases hm
   have hl0:l=45::l.drop 1:=by
    cases l with
    | nil=>simp at hlong
    | cons c r =>
     have:c=45:=e45
     rw [this];rfl
   unfold Q8
   rw [u1,hm]
   exact hl0.symm
  ·rw [if_neg hw] at e2
   rw [e2] at he
   cases he
 ·rw [if_neg hm] at e1 e2
  by_cases hw:Q8 l < 9223372036854775808
  ·rw [if_pos hw] at e1
   rw [e1,Lib.itoa_nonneg]
   unfold Q8
   rw [u1]
   have:from_ l=0:=by unfold from_ at hm ⊢;split<;>simp_all
   rw [this];rfl
  ·rw [if_neg hw] at e2
   rw [e2] at he
   cases he
theorem C50 (n:Int) (hn:V7 n):A08 (Lib.itoa n)=true∧A9q (Lib.itoa n)=n∧A1g (Lib.itoa n)=0:=by
 unfold V7 at hn
 by_cases hneg:n < 0
 ·have hu:n = -(n.natAbs:Int):=by omega
  generalize hua:n.natAbs=u at hu
  subst hu
  rw [Lib.itoa_neg u (by omega)]
  obtain ⟨d1,d2,d3,d4⟩:=A8i (u+1) u (by omega)
  generalize Lib.decDigits u=d at *
  have hfr:from_ ((45:UInt8)::d)=1:=rfl
  have hd:((45:UInt8)::d).drop 1=d:=rfl
  have hform:A08 (45::d)=true:=by
   rw [B0h,hfr,hd,d2]
   have hb:A7 ((45:UInt8)::d) 1=A7 d 0:=rfl
   rw [hb]
   have h48:¬ (A7 d 0).toNat=48:=fun h=>by have:=d4 h;omega
   have:=List.length_pos_iff.2 d1
   simp [h48]
   omega
  obtain ⟨e1,e2⟩:=B0w hform
  have hw:Q8 (45::d)=u:=by unfold Q8;rw [hfr,hd,d3]
  rw [hw,hfr,if_pos rfl,if_pos (by omega)] at e1 e2
  exact ⟨hform,e1,e2⟩
 ·have hu:n=(n.toNat:Int):=by omega
  generalize hua:n.toNat=u at hu
  subst hu
  rw [Lib.itoa_nonneg]
  obtain ⟨d1,d2,d3,d4⟩:=A8i (u+1) u (by omega)
  have huq:=(A9h (Lib.decDigits u).length (Lib.decDigits u) (Nat.le_refl _) d1 d2)
  have hlen:u=0→(Lib.decDigits u).length=1:=fun h=>by subst h;rw [Lib.decDigits,dif_pos (by omega)];rfl
  generalize Lib.decDigits u=d at *
  have hl1:=List.length_pos_iff.2 d1
  have hfr:from_ d=0:=by
   have h9:isD (A7 d 0)=true:=List.all_eq_true.1 d2 _ (by simp [A7,List.getD,hl1])
   unfold from_
   rw [if_neg]
   intro e
   rw [e] at h9
   cases h9
  have hd:d.drop 0=d:=rfl
  have hform:A08 d=true:=by
   rw [B0h,hfr,hd,d2]
   by_cases h48:(A7 d 0).toNat=48
   ·have:=hlen (d4 h48)
    simp [this]
   ·simp [h48]
    omega
  obtain ⟨e1,e2⟩:=B0w hform
  have hw:Q8 d=u:=by unfold Q8;rw [hfr,hd,d3]
  rw [hw,hfr,if_neg (by omega),if_pos (by omega)] at e1 e2
  exact ⟨hform,e1,e2⟩
end Go.Proofs.YticnkpgmmpenlaaGreatDoor.Nu
namespace Go.Proofs.YticnkpgmmpenlaaGreatDoor.Pr
open Go Go.Ab Go.RowKit Go.Proofs.YticnkpgmmpenlaaGreatDoor.Lx Go.Proofs.YticnkpgmmpenlaaGreatDoor.Pa
variable {L:List Tok} {R:List (Int × List UInt8)}
structure Got (st z:St) (x:Xt):Prop where
 a:z.a=st.a+x.toks.length
 k:z.k=st.k
 o:∃ o2,z.o=st.o++o2∧o2.map B1x=x.cores st.o.length
 d:∃ d2,z.d=st.d++d2
 dl:z.d.length=z.o.length
 pos:st.o.length < z.o.length
 top:dAt z.d (z.o.length - 1)=x.dep
theorem N1:∀ {l:List (Int × List UInt8)} {a:Nat} {R:List (Int × List UInt8)},Tk L a=l++R→Tk L (a+l.length)=R
 | [],_,_,h=>h
 | t::l,a,R,h=>by
  obtain ⟨_,_,h2⟩:=E1 (show Tk L a=t::(l++R) from h)
  have:=N1 h2
  rw [List.length_cons,show a+(l.length+1)=a+1+l.length by omega]
  exact this
theorem Got.cnt {st z:St} {x:Xt} (h:Got st z x):z.o.length=st.o.length+x.cnt:=by
 obtain ⟨o2,h1,h2⟩:=h.o
 have:=congrArg List.length h2
 rw [List.length_map,Xt.A49] at this
 rw [h1,List.length_append,this]
theorem C23 {st:St} {x:Xt} {t:Tok} {e:Ex} {n:Nat} (hd:st.d.length=st.o.length) (hn:x.toks.length=n) (hc:x.cores st.o.length=[B1x { e with ln:=t.2.2.1,cl:=t.2.2.2 }]) (hx:x.dep=1):∃ z,V8 t e [] { st with a:=st.a+n } = .ok z∧Got st z x:=by
 refine ⟨_,rfl,⟨by show st.a+n=_;rw [hn],rfl,⟨_,rfl,by rw [hc];rfl⟩,⟨_,rfl⟩,by simp [hd],by simp,?_⟩⟩
 show dAt (st.d++[_]) _=_
 rw [Y6 (by simp [hd])]
 simp [dAt,hd,A2z,hx]
theorem D6t {st z:St} {x:Xt} {op:Int} (t:Tok) (hz:Got { st with a:=st.a+1,k:=st.k+1 } z x) (hd:x.dep+1≤64):∃ z',V8 t { ex0 with op:=op,a:=(z.o.length:Int) - 1 } [(z.o.length:Int) - 1] { z with k:=z.k - 1 } = .ok z'∧Got st z' (.una op x):=by
 have hpos:=hz.pos
 have hdp:A2z z.d [(z.o.length:Int) - 1] 1=(x.dep:Int)+1:=by
  have hp:=Xt.B3p x
  have:=B8h (d:=z.d) (a:=z.o.length - 1) (by rw [hz.top];omega)
  rw [show ((z.o.length - 1:Nat):Int)=(z.o.length:Int) - 1 by omega,hz.top] at this
  exact this
 unfold V8
 dsimp only
 rw [hdp,if_neg (by omega)]
 have hcn:=hz.cnt
 obtain ⟨o2,ho,hc⟩:=hz.o
 obtain ⟨d2,hd2⟩:=hz.d
 simp only at ho hd2 hpos hc hcn
 have ho':∀ e:Ex,z.o++[e]=st.o++(o2++[e]):=fun e=>by rw [ho,List.append_assoc]
 have hd':∀ e:Int,z.d++[e]=st.d++(d2++[e]):=fun e=>by rw [hd2,List.append_assoc]
 refine ⟨_,rfl,⟨?_,?_,⟨_,ho' _,?_⟩,⟨_,hd' _⟩,?_,?_,?_⟩⟩
 ·show z.a=_
  rw [hz.a];show st.a+1+x.toks.length=st.a+((if op=4 then (2,[110,111,116]) else (5,[45]))::x.toks).length;rw [List.length_cons];omega
 ·show z.k - 1=_
  rw [hz.k];show st.k+1 - 1=_;omega
 ·rw [List.map_append,hc];show _=x.cores st.o.length++[(op,((st.o.length+x.cnt:Nat):Int) - 1,0,[],Xt.none)];rw [← hcn];rfl
 ·show (z.d++[_]).length=(z.o++[_]).length
  rw [List.length_append,List.length_append,hz.dl];rfl
 ·show st.o.length < (z.o++[_]).length
  rw [List.length_append];omega
 ·show dAt (z.d++[_]) ((z.o++[_]).length - 1)=_
  rw [List.length_append,List.length_cons,List.length_nil,Nat.zero_add,Nat.add_sub_cancel,Y6 (by rw [hz.dl];exact Nat.le_refl _),hz.dl,Nat.sub_self]
  show (x.dep:Int)+1=((x.dep+1:Nat):Int)
  omega
theorem C6n {st z z2:St} {x y:Xt} {op:Int} (t:Tok) (hz:Got st z x) (hz2:Got { z with a:=z.a+1 } z2 y) (hd:(Xt.bin op x y).dep≤64):∃ z',V8 t { ex0 with op:=op,a:=(z.o.length:Int) - 1,b:=(z2.o.length:Int) - 1 } [(z.o.length:Int) - 1,(z2.o.length:Int) - 1] z2=.ok z'∧Got st z' (.bin op x y):=by
 have hpos:=hz.pos
 have hpos2:=hz2.pos
 have hcn:=hz.cnt
 have hcn2:=hz2.cnt
 simp only at hcn2
 obtain ⟨o2,ho,hc⟩:=hz.o
 obtain ⟨d2,hd2⟩:=hz.d
 obtain ⟨o3,ho3,hc3⟩:=hz2.o
 obtain ⟨d3,hd3⟩:=hz2.d
 simp only at ho3 hd3 hpos2 hc3
 have hxp:=Xt.B3p x
 have hyp:=Xt.B3p y
 have hdx:x.dep < (Xt.bin op x y).dep∧y.dep < (Xt.bin op x y).dep:=by
  show x.dep < (if y.dep > x.dep then y.dep else x.dep)+1∧y.dep < (if y.dep > x.dep then y.dep else x.dep)+1
  split<;>omega
 have hold:dAt z2.d (z.o.length - 1)=x.dep:=by rw [hd3,A7e (by rw [hz.dl];omega)];exact hz.top
 have hdp:A2z z2.d [(z.o.length:Int) - 1,(z2.o.length:Int) - 1] 1=((Xt.bin op x y).dep:Int):=by
  have:=B8i (d:=z2.d) (a:=z.o.length - 1) (b:=z2.o.length - 1) (by rw [hold];omega) (by rw [hz2.top];omega)
  rw [show ((z.o.length - 1:Nat):Int)=(z.o.length:Int) - 1 by omega,show ((z2.o.length - 1:Nat):Int)=(z2.o.length:Int) - 1 by omega,hold,hz2.top] at this
  rw [this]
  show _=(((if y.dep > x.dep then y.dep else x.dep)+1:Nat):Int)
  split<;>split<;>omega
 unfold V8
 rw [hdp,if_neg (by omega)]
 have ho':∀ e:Ex,z2.o++[e]=st.o++(o2++(o3++[e])):=fun e=>by rw [ho3,ho,List.append_assoc,List.append_assoc]
 have hd':∀ e:Int,z2.d++[e]=st.d++(d2++(d3++[e])):=fun e=>by rw [hd3,hd2,List.append_assoc,List.append_assoc]
 refine ⟨_,rfl,⟨?_,?_,⟨_,ho' _,?_⟩,⟨_,hd' _⟩,?_,?_,?_⟩⟩
 ·show z2.a=_
  rw [hz2.a];show z.a+1+y.toks.length=_;rw [hz.a];show st.a+x.toks.length+1+y.toks.length=st.a+(x.toks++opT op::y.toks).length;rw [List.length_append,List.length_cons];omega
 ·show z2.k=_
  rw [hz2.k];exact hz.k
 ·rw [List.map_append,List.map_append,hc,hc3];show _=x.cores st.o.length++(y.cores (st.o.length+x.cnt)++[(op,((st.o.length+x.cnt:Nat):Int) - 1,((st.o.length+x.cnt+y.cnt:Nat):Int) - 1,[],Xt.none)]);rw [← hcn,← hcn2];rfl
 ·show (z2.d++[_]).length=(z2.o++[_]).length
  rw [List.length_append,List.length_append,hz2.dl];rfl
 ·show st.o.length < (z2.o++[_]).length
  rw [List.length_append];omega
 ·show dAt (z2.d++[_]) ((z2.o++[_]).length - 1)=_
  rw [List.length_append,List.length_cons,List.length_nil,Nat.zero_add,Nat.add_sub_cancel,Y6 (by rw [hz2.dl];exact Nat.le_refl _),hz2.dl,Nat.sub_self]
  rfl
theorem A26 {a:Nat} {x:Int × List UInt8} {r:List (Int × List UInt8)} (h:Tk L a=x::r):a < L.length∧(L.getD a noTok).1=x.1:=by
 obtain ⟨h1,h2,_⟩:=E1 h
 exact ⟨h1,congrArg Prod.fst h2⟩
theorem B90 {v:Int} (hv:-9223372036854775808≤v∧v≤9223372036854775807) (hl:Z4 L) {a:Nat} (h:Tk L a=A0w (1,v,[],false)++R):isF L a [40]=false∧(B0 L a).1≠1∧U2 L a=true∧J6 L a=.ok ((1,v,[],false),a+(A0w (1,v,[],false)).length):=by
 obtain ⟨hF,hN,hE⟩:=Nu.C50 v hv
 by_cases hn:v < 0
 ·have e:A0w (1,v,[],false)=[(5,[45]),(3,Lib.itoa (-v))]:=by unfold A0w;rw [if_pos rfl,if_pos hn]
  rw [e] at h ⊢
  have h:Tk L a=(5,[45])::(3,Lib.itoa (-v))::R:=h
  obtain ⟨_,_,h'⟩:=E1 h
  have hm:isF L a [45]=true:=by rw [Q7 hl h];decide
  have hb:U2 L a=true:=by
   unfold U2
   rw [if_pos hm,decide_eq_true (A26 h').1,decide_eq_true (show _=_ from (A26 h').2)];rfl
  have hp:=P1 hl h'
  refine ⟨by rw [Q7 hl h];decide,by rw [(P1 hl h).1];decide,hb,?_⟩
  unfold J6
  rw [if_pos hb]
  dsimp only
  have hi:Lib.itoa v=45::Lib.itoa (-v):=by
   unfold Lib.itoa
   rw [if_pos hn,if_neg (by omega),show v.natAbs=(-v).toNat by omega]
  have h0:Lib.itoa (-v)≠[48]:=fun hh=>by
   rw [hi,hh] at hF
   exact absurd hF (by decide)
  rw [hm]
  simp only [if_true]
  rw [hp.2.1]
  dsimp only
  rw [if_pos (show True∧Lib.itoa (-v)≠[48] from ⟨trivial,h0⟩),show ([45]++Lib.itoa (-v):List UInt8)=Lib.itoa v from hi.symm,hE,if_neg (by decide),hN]
  rfl
 ·have e:A0w (1,v,[],false)=[(3,Lib.itoa v)]:=by unfold A0w;rw [if_pos rfl,if_neg hn]
  rw [e] at h ⊢
  have h:Tk L a=(3,Lib.itoa v)::R:=h
  have hm:isF L a [45]=false:=by rw [Q7 hl h];rfl
  have hb:U2 L a=true:=by
   unfold U2
   rw [if_neg (by rw [hm];decide),decide_eq_true (A26 h).1,decide_eq_true (show _=_ from (A26 h).2)];rfl
  have hp:=P1 hl h
  refine ⟨by rw [Q7 hl h];rfl,by rw [hp.1];simp,hb,?_⟩
  unfold J6
  rw [if_pos hb]
  dsimp only
  rw [hm]
  simp only [Bool.false_eq_true,if_false,false_and]
  rw [hp.2.1]
  dsimp only
  rw [show ([]++Lib.itoa v:List UInt8)=Lib.itoa v from rfl,hE,if_neg (by decide),hN]
  rfl
theorem D45 (hl:Z4 L) {v:Int × Int × List UInt8 × Bool} (hv:Xt.C1y v) {st:St} (h:Tk L st.a=A0w v++R) (hd:st.d.length=st.o.length) (f:Nat):∃ z,ev L (f+1) 6 st=.ok z∧Got st z (.con v):=by
 have main:∀ n,isF L st.a [40]=false→¬ ((B0 L st.a).1=1∧(B0 L st.a).2.1≠[95])→¬ (isF L st.a [45]=true∧U2 L st.a=false)→J6 L st.a=.ok (v,st.a+n)→(A0w v).length=n→∃ z,ev L (f+1) 6 st=.ok z∧Got st z (.con v):=by
  intro n h1 h2 h3 h4 h5
  have e:ev L (f+1) 6 st=V8 (B0 L st.a) { ex0 with op:=1,vk:=v.1,vi:=v.2.1,vs:=v.2.2.1,vb:=v.2.2.2 } [] { st with a:=st.a+n }:=by
   show A0v L (ev L f 0) (ev L f 6) st=_
   unfold A0v
   rw [if_neg (by rw [h1];decide),if_neg h2,if_neg h3,h4]
  rw [e]
  exact C23 hd h5 rfl rfl
 rcases hv with ⟨a1,a2,a3,a4,a5⟩|⟨a1,a2,a3⟩|⟨a1,a2,a3⟩
 ·obtain ⟨vk,vi,vs,vb⟩:=v
  simp only at a1 a2 a3 a4 a5
  subst a1 a4 a5
  obtain ⟨b1,b2,b3,b4⟩:=B90 (R:=R) ⟨a2,a3⟩ hl h
  exact main _ b1 (fun hh=>b2 hh.1) (fun hh=>by rw [b3] at hh;exact absurd hh.2 (by decide)) b4 rfl
 ·obtain ⟨vk,vi,vs,vb⟩:=v
  simp only at a1 a2 a3
  subst a1 a2 a3
  have h:Tk L st.a=(4,vs)::R:=h
  have hp:=P1 hl h
  have hm:isF L st.a [45]=false:=by rw [Q7 hl h];rfl
  have hb:U2 L st.a=false:=by
   unfold U2
   rw [if_neg (by rw [hm];decide),(A26 h).2];simp
  refine main 1 (by rw [Q7 hl h];rfl) (by rw [hp.1];simp) (by rw [hm];simp) ?_ rfl
  unfold J6
  rw [if_neg (by rw [hb];decide),if_pos hp.1,hp.2.1]
 ·obtain ⟨vk,vi,vs,vb⟩:=v
  simp only at a1 a2 a3
  subst a1 a2 a3
  cases vb
  ·have h:Tk L st.a=(2,[102,97,108,115,101])::R:=h
   have hp:=P1 hl h
   have hm:isF L st.a [45]=false:=by rw [Q7 hl h];decide
   have hb:U2 L st.a=false:=by
    unfold U2
    rw [if_neg (by rw [hm];decide),(A26 h).2];simp
   refine main 1 (by rw [Q7 hl h];decide) (by rw [hp.1];simp) (by rw [hm];simp) ?_ rfl
   unfold J6
   rw [if_neg (by rw [hb];decide),if_neg (by rw [hp.1];decide),if_neg (by rw [Q7 hl h];decide),if_pos (by rw [Q7 hl h];decide)]
  ·have h:Tk L st.a=(2,[116,114,117,101])::R:=h
   have hp:=P1 hl h
   have hm:isF L st.a [45]=false:=by rw [Q7 hl h];decide
   have hb:U2 L st.a=false:=by
    unfold U2
    rw [if_neg (by rw [hm];decide),(A26 h).2];simp
   refine main 1 (by rw [Q7 hl h];decide) (by rw [hp.1];simp) (by rw [hm];simp) ?_ rfl
   unfold J6
   rw [if_neg (by rw [hb];decide),if_neg (by rw [hp.1];decide),if_pos (by rw [Q7 hl h];decide)]
theorem D55 (hl:Z4 L) {s:List UInt8} (hs:s≠[95]) {st:St} (h:Tk L st.a=(1,s)::R) (hd:st.d.length=st.o.length) (f:Nat):∃ z,ev L (f+1) 6 st=.ok z∧Got st z (.nam s):=by
 have hp:=P1 hl h
 have e:ev L (f+1) 6 st=V8 (B0 L st.a) { ex0 with op:=17,name:=s } [] { st with a:=st.a+1 }:=by
  show A0v L (ev L f 0) (ev L f 6) st=_
  unfold A0v
  rw [if_neg (by rw [Q7 hl h];simp),if_pos (by rw [hp.1,hp.2.1];exact ⟨rfl,hs⟩),hp.2.1]
 rw [e]
 exact C23 hd rfl rfl rfl
end Go.Proofs.YticnkpgmmpenlaaGreatDoor.Pr
namespace Go.Proofs.YticnkpgmmpenlaaGreatDoor.Pr
open Go Go.Ab Go.RowKit Go.Proofs.YticnkpgmmpenlaaGreatDoor.Lx Go.Proofs.YticnkpgmmpenlaaGreatDoor.Pa
variable {L:List Tok}
structure At (L:List Tok) (st:St) (x:Xt) (l:Nat) (R:List (Int × List UInt8)):Prop where
 ok:x.Ok
 tk:Tk L st.a=x.toks++R
 len:st.d.length=st.o.length
 ends:U9 l R
 k:st.k+x.opn≤128
 dep:x.dep≤64
def D0q (L:List Tok) (f l:Nat) (x:Xt):Prop:=∀ st R,At L st x l R→∃ z,ev L f l st=.ok z∧Got st z x
def B31 (L:List Tok) (l:Nat) (one:St→Res St) (x:Xt):Prop:=∀ st R,At L st x (l+1) R→∃ z n,W2 L (B23 l) one st=A2q L (B23 l) one n z∧L.length+1+st.a≤n+z.a∧Got st z x
theorem A4f {l:Nat} {one:St→Res St} {x:Xt} (hl:Z4 L) (h:B31 L l one x) {st:St} {R:List (Int × List UInt8)} (ha:At L st x l R):∃ z,W2 L (B23 l) one st=.ok z∧Got st z x:=by
 obtain ⟨z,n,e,hn,g⟩:=h st R ⟨ha.ok,ha.tk,ha.len,ha.ends.up (Nat.le_succ _),ha.k,ha.dep⟩
 refine ⟨z,?_,g⟩
 rw [e]
 have ht:Tk L z.a=R:=by rw [g.a];exact N1 ha.tk
 cases n with
 | zero=>rfl
 | succ n =>
  unfold A2q
  rw [if_pos (U9.next hl (by rw [ht];exact ha.ends) (Nat.le_refl _))]
theorem A47 {l:Nat} {one:St→Res St} {x:Xt} (h:∀ st R,At L st x (l+1) R→∃ z,one st=.ok z∧Got st z x):B31 L l one x:=fun st R ha=>by
 obtain ⟨z,e,g⟩:=h st R ha
 refine ⟨z,L.length+1,?_,by rw [g.a];omega,g⟩
 unfold W2
 rw [e]
theorem At.left {st:St} {op:Int} {x y:Xt} {l l':Nat} {R:List (Int × List UInt8)} (h:At L st (.bin op x y) l R) (he:lvl op≤l'):At L st x l' (opT op::(y.toks++R)):=by
 obtain ⟨h1,h2,h3,h4,h5,h6⟩:=h
 refine ⟨h1.2.2.2.2.1,?_,h3,(D5d ⟨h1.1,h1.2.1⟩ _).up he,?_,?_⟩
 ·rw [h2];show (x.toks++opT op::y.toks)++R=_;rw [List.append_assoc];rfl
 ·have:st.k+(if y.opn > x.opn then y.opn else x.opn:Nat)≤128:=h5
  split at this<;>omega
 ·have:(if y.dep > x.dep then y.dep else x.dep)+1≤64:=h6
  split at this<;>omega
theorem At.right {st z:St} {op:Int} {x y:Xt} {l l':Nat} {R:List (Int × List UInt8)} (h:At L st (.bin op x y) l R) (hz:Got st z x) (he:l≤l'):At L { z with a:=z.a+1 } y l' R:=by
 obtain ⟨h1,h2,h3,h4,h5,h6⟩:=h
 refine ⟨h1.2.2.2.2.2,?_,hz.dl,h4.up he,?_,?_⟩
 ·have e:Tk L st.a=x.toks++(opT op::(y.toks++R)):=by rw [h2];show (x.toks++opT op::y.toks)++R=_;rw [List.append_assoc];rfl
  obtain ⟨_,_,h⟩:=E1 (N1 e)
  rw [show z.a=st.a+x.toks.length from hz.a]
  exact h
 ·have:st.k+(if y.opn > x.opn then y.opn else x.opn:Nat)≤128:=h5
  show z.k+(y.opn:Nat)≤128
  rw [hz.k]
  split at this<;>omega
 ·have:(if y.dep > x.dep then y.dep else x.dep)+1≤64:=h6
  split at this<;>omega
theorem At.op {st z:St} {op:Int} {x y:Xt} {l:Nat} {R:List (Int × List UInt8)} (h:At L st (.bin op x y) l R) (hz:Got st z x):Tk L z.a=opT op::(y.toks++R):=by
 rw [hz.a]
 refine N1 ?_
 rw [h.tk];show (x.toks++opT op::y.toks)++R=_;rw [List.append_assoc];rfl
theorem C8i {l:Nat} {one:St→Res St} {op:Int} {x y:Xt} (hl:Z4 L) (hop:6≤op∧op≤16) (hlv:lvl op=l+1) (hx:B31 L l one x) (hy:∀ st R,At L st y (l+1) R→∃ z,one st=.ok z∧Got st z y):B31 L l one (.bin op x y):=fun st R ha=>by
 obtain ⟨z,n,e,hn,g⟩:=hx st _ (ha.left (by omega))
 have ht:=ha.op g
 obtain ⟨hlt,_,_⟩:=E1 ht
 have hnx:=C7o hl hop ht
 rw [show lvl op - 1=l by omega] at hnx
 obtain ⟨z2,e2,g2⟩:=hy _ _ (ha.right g (Nat.le_refl _))
 obtain ⟨z3,e3,g3⟩:=C6n (op:=op) (B0 L z.a) g g2 ha.dep
 obtain ⟨m,rfl⟩:∃ m,n=m+1:=⟨n - 1,by omega⟩
 refine ⟨z3,m,?_,?_,g3⟩
 ·rw [e,A2q,if_neg (by rw [hnx];omega),e2,hnx]
  dsimp only
  rw [e3]
 ·have h1:=g3.a
  have h2:=g.a
  have h3:(Xt.bin op x y).toks.length=x.toks.length+(y.toks.length+1):=by show (x.toks++opT op::y.toks).length=_;rw [List.length_append,List.length_cons]
  omega
theorem C7p {op:Int} {x:Xt}:(Xt.una op x).opn=x.opn+1:=rfl
theorem C6s {op:Int} {x:Xt}:(Xt.una op x).dep=x.dep+1:=rfl
theorem At.una {st:St} {op:Int} {x:Xt} {l l':Nat} {R:List (Int × List UInt8)} (h:At L st (.una op x) l R) (he:l≤l'):At L { st with a:=st.a+1,k:=st.k+1 } x l' R:=by
 obtain ⟨h1,h2,h3,h4,h5,h6⟩:=h
 obtain ⟨_,_,h⟩:=E1 (show Tk L st.a=_::(x.toks++R) from h2)
 rw [C7p] at h5
 rw [C6s] at h6
 refine ⟨h1.2,h,h3,h4.up he,?_,by omega⟩
 show st.k+1+(x.opn:Nat)≤128
 omega
theorem B4o {st:St} {op:Int} {x:Xt} {l:Nat} {R:List (Int × List UInt8)} {one:St→Res St} (h:At L st (.una op x) l R) (ho:∃ z,one { st with a:=st.a+1,k:=st.k+1 } = .ok z∧Got { st with a:=st.a+1,k:=st.k+1 } z x):∃ z,R1 L op one st=.ok z∧Got st z (.una op x):=by
 obtain ⟨z,e,g⟩:=ho
 have h5:=h.k
 rw [C7p] at h5
 have h6:=h.dep
 rw [C6s] at h6
 obtain ⟨z',e',g'⟩:=D6t (op:=op) (B0 L st.a) g h6
 refine ⟨z',?_,g'⟩
 unfold R1 A09
 rw [if_neg (by omega),e]
 exact e'
theorem D59 (hl:Z4 L) {st:St} {x:Xt} {R:List (Int × List UInt8)} {f:Nat} (h:At L st (.par x) 6 R) (ho:D0q L f 0 x):∃ z,ev L (f+1) 6 st=.ok z∧Got st z (.par x):=by
 obtain ⟨h1,h2,h3,h4,h5,h6⟩:=h
 have h5:st.k+((x.opn+1:Nat):Int)≤128:=h5
 have h2:Tk L st.a=(5,[40])::(x.toks++[(5,[41])]++R):=h2
 obtain ⟨_,_,ht⟩:=E1 h2
 rw [List.append_assoc] at ht
 obtain ⟨z,e,g⟩:=ho { st with a:=st.a+1,k:=st.k+1 } ((5,[41])::R) ⟨h1,ht,h3,C8q _,by show st.k+1+(x.opn:Nat)≤128;omega,h6⟩
 have htz:Tk L z.a=(5,[41])::R:=by rw [g.a];exact N1 ht
 refine ⟨{ z with a:=z.a+1,k:=z.k - 1 },?_,?_⟩
 ·show A0v L (ev L f 0) (ev L f 6) st=_
  unfold A0v
  rw [if_pos (by rw [Q7 hl h2];decide)]
  unfold A09
  rw [if_neg (by omega)]
  dsimp only
  rw [e]
  dsimp only
  unfold B3d
  rw [if_pos (by rw [Q7 hl htz];decide)]
 ·refine ⟨?_,?_,g.o,g.d,g.dl,g.pos,g.top⟩
  ·show z.a+1=_
   rw [g.a];show st.a+1+x.toks.length+1=st.a+((5,[40])::(x.toks++[(5,[41])])).length
   rw [List.length_cons,List.length_append,List.length_cons,List.length_nil];omega
  ·show z.k - 1=_
   rw [g.k];show st.k+1 - 1=_;omega
theorem D2k (hl:Z4 L) {a:Nat} {x:Xt} {R:List (Int × List UInt8)} (h:Tk L a=(5,[45])::(x.toks++R)) (hx:x.Ok) (hv:7≤x.lev) (hb:x.bare=false):isF L a [45]=true∧U2 L a=false:=by
 have hm:isF L a [45]=true:=by rw [Q7 hl h];decide
 refine ⟨hm,?_⟩
 obtain ⟨_,_,ht⟩:=E1 h
 have key:∀ t r,x.toks=t::r→t.1≠3→U2 L a=false:=by
  intro t r e h3
  rw [e] at ht
  unfold U2
  rw [if_pos hm,(A26 (show Tk L (a+1)=t::(r++R) from ht)).2,decide_eq_false h3,Bool.and_false]
 match x,hx,hv,hb with
 | .con v,hx,_,hb =>
  rcases hx with ⟨a1,_⟩|⟨a1,_⟩|⟨a1,_⟩
  ·have hn:v.2.1 < 0:=by
    have hb:(decide (v.1=1) && decide (0≤v.2.1))=false:=hb
    rw [a1,decide_eq_true rfl,Bool.true_and] at hb
    have:=of_decide_eq_false hb
    omega
   exact key (5,[45]) [(3,Lib.itoa (-v.2.1))] (by show A0w v=_;unfold A0w;rw [if_pos a1,if_pos hn]) (by decide)
  ·exact key (4,v.2.2.1) [] (by show A0w v=_;unfold A0w;rw [if_neg (by rw [a1];decide),if_pos a1]) (by simp)
  ·exact key (2,_) [] (by show A0w v=_;unfold A0w;rw [if_neg (by rw [a1];decide),if_neg (by rw [a1];decide)]) (by simp)
 | .nam s,_,_,_=>exact key (1,s) [] rfl (by simp)
 | .una op y,hx,_,_=>exact key _ y.toks rfl (by split<;>decide)
 | .bin op y w,hx,hv,_ =>
  have:=B5v ⟨hx.1,hx.2.1⟩
  have hv:7≤lvl op:=hv
  omega
 | .par y,_,_,_=>exact key _ _ rfl (by decide)
theorem B4s (hl:Z4 L) {f j:Nat} (hj:j≤5∧j≠2∧j≠3) (ih:∀ y:Xt,j+2≤y.lev→7 * y.siz+7 - (j+1)≤f→D0q L f (j+1) y):∀ x:Xt,x.Ok→j+1≤x.lev→7 * x.siz+7 - j≤f+1→B31 L j (ev L f (j+1)) x
 | .con v,_,_,hf=>A47 (ih _ (by show j+2≤8;omega) (by omega))
 | .nam s,_,_,hf=>A47 (ih _ (by show j+2≤8;omega) (by omega))
 | .par x,_,_,hf=>A47 (ih _ (by show j+2≤8;omega) (by omega))
 | .una op x,hx,hv,hf=>by
  have hv:j+1≤lvl op:=hv
  refine A47 (ih _ ?_ (by omega))
  show j+2≤lvl op
  rcases hx.1 with ⟨h,_⟩|⟨h,_⟩
  ·subst h
   have e:lvl 4=3:=by decide
   omega
  ·subst h
   have e:lvl 5=7:=by decide
   omega
 | .bin op x y,hx,hv,hf=>by
  have hv:j+1≤lvl op:=hv
  by_cases h:j+2≤lvl op
  ·exact A47 (ih _ h (by omega))
  ·obtain ⟨h1,h2,h3,h4,h5,h6⟩:=hx
   rw [if_neg (by omega)] at h3
   have hs:(Xt.bin op x y).siz=x.siz+y.siz+1:=rfl
   exact C8i hl ⟨h1,h2⟩ (by omega) (B4s hl hj ih x h5 (by omega) (by omega)) (ih y (by omega) (by omega))
theorem C68:∀ {x:Xt},x.Ok→1≤x.lev
 | .con _,_=>by show 1≤8;decide
 | .nam _,_=>by show 1≤8;decide
 | .par _,_=>by show 1≤8;decide
 | .una op x,h=>by
  show 1≤lvl op
  rcases h.1 with ⟨h,_⟩|⟨h,_⟩<;>subst h<;>decide
 | .bin op x y,h=>by
  have:=B5v ⟨h.1,h.2.1⟩
  show 1≤lvl op
  omega
theorem A36 (hl:Z4 L):∀ (f l:Nat) (x:Xt),l≤6→l+1≤x.lev→7 * x.siz+7 - l≤f→D0q L f l x
 | 0,l,x,h6,_,hf=>by
  have:1≤x.siz:=by cases x<;>simp only [Xt.siz]<;>omega
  omega
 | f+1,l,x,h6,hv,hf=>by
  intro st R ha
  match l,h6 with
  | 0,_=>exact A4f hl (B4s hl (j:=0) (by decide) (fun y h1 h2=>A36 hl f 1 y (by decide) h1 h2) x ha.ok hv hf) ha
  | 1,_=>exact A4f hl (B4s hl (j:=1) (by decide) (fun y h1 h2=>A36 hl f 2 y (by decide) h1 h2) x ha.ok hv hf) ha
  | 4,_=>exact A4f hl (B4s hl (j:=4) (by decide) (fun y h1 h2=>A36 hl f 5 y (by decide) h1 h2) x ha.ok hv hf) ha
  | 5,_=>exact A4f hl (B4s hl (j:=5) (by decide) (fun y h1 h2=>A36 hl f 6 y (by decide) h1 h2) x ha.ok hv hf) ha
  | 2,_ =>
   by_cases h4:4≤x.lev
   ·obtain ⟨t,r,e,hn⟩:=Xt.C2t ha.ok h4
    rw [C5y hl (show Tk L st.a=t::(r++R) by rw [ha.tk,e];rfl) hn]
    exact A36 hl f 3 x (by decide) h4 (by omega) st R ⟨ha.ok,ha.tk,ha.len,ha.ends.up (by decide),ha.k,ha.dep⟩
   ·match x,hv,h4,hf,ha with
    | .con _,_,h4,_,_=>exact absurd (show 4≤8 by decide) h4
    | .nam _,_,h4,_,_=>exact absurd (show 4≤8 by decide) h4
    | .par _,_,h4,_,_=>exact absurd (show 4≤8 by decide) h4
    | .bin op _ _,hv,h4,_,ha =>
     have:=B5v ⟨ha.ok.1,ha.ok.2.1⟩
     have hv:3≤lvl op:=hv
     have h4:¬ 4≤lvl op:=h4
     omega
    | .una op y,hv,h4,hf,ha =>
     rcases ha.ok.1 with ⟨h,hy⟩|⟨h,_⟩
     ·subst h
      have hs:(Xt.una 4 y).siz=y.siz+1:=rfl
      have ht:Tk L st.a=(2,[110,111,116])::(y.toks++R):=ha.tk
      have e:ev L (f+1) 2 st=R1 L 4 (ev L f 2) st:=by
       show (if isF L st.a [110,111,116]=true then R1 L 4 (ev L f 2) st else ev L f 3 st)=_
       rw [Q7 hl ht,if_pos (by decide)]
      rw [e]
      exact B4o ha (A36 hl f 2 y (by decide) hy (by omega) _ R (ha.una (Nat.le_refl _)))
     ·subst h;exact absurd (show 4≤lvl 5 by decide) h4
  | 3,_ =>
   by_cases h5:5≤x.lev
   ·obtain ⟨z,e,g⟩:=A36 hl f 4 x (by decide) h5 (by omega) st R ⟨ha.ok,ha.tk,ha.len,ha.ends.up (by decide),ha.k,ha.dep⟩
    refine ⟨z,?_,g⟩
    have ht:Tk L z.a=R:=by rw [g.a];exact N1 ha.tk
    show A48 L (ev L f 4) st=_
    unfold A48
    rw [e]
    dsimp only
    rw [if_pos (show J4 L z.a A2r=0 from U9.next hl (j:=3) (by rw [ht];exact ha.ends) (Nat.le_refl _))]
   ·match x,hv,h5,hf,ha with
    | .con _,_,h4,_,_=>exact absurd (show 5≤8 by decide) h4
    | .nam _,_,h4,_,_=>exact absurd (show 5≤8 by decide) h4
    | .par _,_,h4,_,_=>exact absurd (show 5≤8 by decide) h4
    | .una op y,hv,h4,hf,ha =>
     rcases ha.ok.1 with ⟨h,hy⟩|⟨h,_⟩
     ·subst h;exact absurd (show 3+1≤lvl 4 from hv) (by decide)
     ·subst h;exact absurd (show 5≤lvl 5 by decide) h4
    | .bin op x y,hv,h5,hf,ha =>
     obtain ⟨h1,h2,h3,h4,_,_⟩:=ha.ok
     have hv:4≤lvl op:=hv
     have h5:¬ 5≤lvl op:=h5
     rw [if_pos (by omega)] at h3
     have hs:(Xt.bin op x y).siz=x.siz+y.siz+1:=rfl
     obtain ⟨z,e,g⟩:=A36 hl f 4 x (by decide) h3 (by omega) st _ (ha.left (by omega))
     have ht:=ha.op g
     have hnx:=C7o hl ⟨h1,h2⟩ ht
     rw [show lvl op - 1=3 by omega] at hnx
     have hnx:J4 L z.a A2r=op:=hnx
     obtain ⟨z2,e2,g2⟩:=A36 hl f 4 y (by decide) (by omega) (by omega) _ _ (ha.right g (by decide))
     obtain ⟨z3,e3,g3⟩:=C6n (op:=op) (B0 L z.a) g g2 ha.dep
     refine ⟨z3,?_,g3⟩
     show A48 L (ev L f 4) st=_
     unfold A48
     rw [e]
     dsimp only
     rw [hnx,if_neg (by omega),e2]
     dsimp only
     rw [if_neg (by omega)]
     exact e3
  | 6,_ =>
   match x,hv,hf,ha with
   | .con v,_,_,ha=>exact D45 hl ha.ok ha.tk ha.len f
   | .nam s,_,_,ha=>exact D55 hl ha.ok ha.tk ha.len f
   | .par x,_,hf,ha =>
    have hs:(Xt.par x).siz=x.siz+2:=rfl
    exact D59 hl ha (A36 hl f 0 x (by decide) (C68 ha.ok) (by omega))
   | .bin op _ _,hv,_,ha =>
    have:=B5v ⟨ha.ok.1,ha.ok.2.1⟩
    have hv:7≤lvl op:=hv
    omega
   | .una op y,hv,hf,ha =>
    rcases ha.ok.1 with ⟨h,hy⟩|⟨h,hy,hb⟩
    ·subst h;exact absurd (show 7≤lvl 4 from hv) (by decide)
    ·subst h
     have hs:(Xt.una 5 y).siz=y.siz+1:=rfl
     have ht:Tk L st.a=(5,[45])::(y.toks++R):=ha.tk
     obtain ⟨n1,n2⟩:=D2k hl ht ha.ok.2 hy hb
     have e:ev L (f+1) 6 st=R1 L 5 (ev L f 6) st:=by
      show A0v L (ev L f 0) (ev L f 6) st=_
      unfold A0v
      rw [if_neg (by rw [Q7 hl ht];decide),if_neg (by rw [(P1 hl ht).1];simp),if_pos ⟨n1,n2⟩]
     rw [e]
     exact B4o ha (A36 hl f 6 y (by decide) hy (by omega) _ R (ha.una (Nat.le_refl _)))
end Go.Proofs.YticnkpgmmpenlaaGreatDoor.Pr
namespace Go.Proofs.YticnkpgmmpenlaaGreatDoor.Pr
open Go Go.Ab Go.RowKit Go.Proofs.YticnkpgmmpenlaaGreatDoor.Lx Go.Proofs.YticnkpgmmpenlaaGreatDoor.Pa
theorem C6g:∀ n:Nat,n < 256→Sc.J0 n=true→A4s n=false∧n≠35∧n≠34:=by decide
theorem D0l {c:UInt8} (h:Sc.J0 c.toNat=true):A4s c.toNat=false∧c≠35∧c≠34:=by
 obtain ⟨h1,h2,h3⟩:=C6g c.toNat (UInt8.toNat_lt c) h
 exact ⟨h1,fun e=>h2 (by rw [e];rfl),fun e=>h3 (by rw [e];rfl)⟩
theorem C26:∀ (w r:List UInt8),w.all (fun c=>Sc.J0 c.toNat)=true→G6 r=0→G6 (w++r)=w.length
 | [],r,_,h=>h
 | c::a,r,ha,h=>by
  simp only [List.all_cons,Bool.and_eq_true] at ha
  rw [List.cons_append,G6,if_pos ha.1,C26 a r ha.2 h];rfl
theorem D6 {w r:List UInt8} {k:Int} {T:List (Int × List UInt8)} (hw:w.all (fun c=>Sc.J0 c.toNat)=true) (hne:w≠[]) (hk:D7 w=.ok (k,w)) (hr:G6 r=0) (h:C5 r T):C5 (w++r) ((k,w)::T):=by
 have hlen:=C26 w r hw hr
 match w,hne with
 | c::w,_ =>
  have hc:Sc.J0 c.toNat=true:=by simp only [List.all_cons,Bool.and_eq_true] at hw;exact hw.1
  obtain ⟨b1,b2,b3⟩:=D0l hc
  refine X5 (z:=(c::w).length) (A0l b1 b2) (by simp) ?_ (by rw [List.drop_left];exact h)
  unfold H0
  rw [if_neg (by show ¬ c=34;exact b3),hlen,if_neg (by simp),List.take_left,hk]
theorem C28 {t r:List UInt8} {T:List (Int × List UInt8)} (ht:t.length≤4096) (h:C5 r T):C5 (Qu.A1w t++r) ((4,t)::T):=by
 have hc:=Qu.C8m t r
 have h34:∃ q,Qu.A1w t=34::q:=⟨_,rfl⟩
 obtain ⟨q,hq⟩:=h34
 refine X5 (z:=(Qu.A1w t).length) (by rw [hq];exact A0l (by decide) (by decide)) (by rw [hq];simp) ?_ (by rw [List.drop_left];exact h)
 unfold H0
 rw [if_pos (by rw [hq];rfl),hc]
 dsimp only
 rw [if_neg (by omega)]
theorem C7z {r:List UInt8}:J5 (45::r)=[45]:=by
 unfold J5 signsL
 simp [A1j,B53,B00]
def A5u (v:Int × Int × List UInt8 × Bool):List UInt8 :=
 if v.1=1 then Lib.itoa v.2.1 else if v.1=2 then Qu.A1w v.2.2.1 else if v.2.2.2=true then [116,114,117,101] else [102,97,108,115,101]
namespace Xt
def txt:Xt→List UInt8
 | con v=>A5u v
 | nam s=>s
 | una op x=>(if op=4 then [110,111,116,32] else [45])++txt x
 | bin op x y=>txt x++32::(A4o op++32::txt y)
 | par x=>40::(txt x++[41])
def Lexed:Xt→Prop
 | con v=>v.2.2.1.length≤4096
 | nam s=>s.all (fun c=>Sc.J0 c.toNat)=true∧s≠[]∧D7 s=.ok (1,s)
 | una _ x=>Lexed x
 | bin _ x y=>Lexed x∧Lexed y
 | par x=>Lexed x
end Xt
theorem _root_.Go.Proofs.YticnkpgmmpenlaaGreatDoor.Nu.dec_short:∀ (k n:Nat),n < 10 ^ k→(Lib.decDigits n).length≤max k 1
 | 0,n,h=>by
  have:n=0:=by omega
  subst this
  rw [Lib.decDigits,dif_pos (by omega)];simp
 | k+1,n,h=>by
  by_cases hu:n < 10
  ·rw [Lib.decDigits,dif_pos hu];show 1≤_;omega
  ·have:=Nu.dec_short k (n / 10) (by rw [Nat.pow_succ] at h;omega)
   rw [Lib.decDigits,dif_neg hu,List.length_append,List.length_singleton]
   have:1≤k:=by
    rcases Nat.eq_zero_or_pos k with rfl|h'
    ·omega
    ·exact h'
   omega
theorem D13:∀ n:Nat,n < 256→decide (48≤n) && decide (n≤57)=true→Sc.J0 n=true:=by decide
theorem B2w (n:Nat):(Lib.decDigits n).all (fun c=>Sc.J0 c.toNat)=true∧(Lib.decDigits n).all digB=true∧Lib.decDigits n≠[]∧((A7 (Lib.decDigits n) 0).toNat=48→n=0):=by
 obtain ⟨h1,h2,_,h4⟩:=Nu.A8i (n+1) n (by omega)
 have h3:(Lib.decDigits n).all digB=true:=by
  rw [← h2]
  exact congrArg (Lib.decDigits n).all (funext fun c=>C2d c)
 refine ⟨?_,h3,h1,h4⟩
 rw [List.all_eq_true] at h3 ⊢
 intro c hc
 have:=h3 c hc
 refine D13 c.toNat (UInt8.toNat_lt c) ?_
 unfold digB A4u at this
 simp at this
 simp
 omega
theorem C3j (n:Nat) (h:n≤9223372036854775808):D7 (Lib.decDigits n)=.ok (3,Lib.decDigits n):=by
 obtain ⟨_,h2,h3,h4⟩:=B2w n
 have hlen:(Lib.decDigits n).length≤32:=by
  have:=Nu.dec_short 20 n (by omega)
  omega
 have h0:digB (A7 (Lib.decDigits n) 0)=true:=by
  rw [List.all_eq_true] at h2
  refine h2 _ ?_
  cases hd:Lib.decDigits n with
  | nil=>exact absurd hd h3
  | cons c r=>exact List.mem_cons_self
 refine B7x h0 ?_
 unfold A1g
 rw [if_neg,if_neg (by omega)]
 rintro (hh|⟨h5,h6⟩)
 ·rw [h2] at hh;cases hh
 ·have:=h4 (by rw [h5];rfl)
  subst this
  rw [Lib.decDigits,dif_pos (by omega)] at h6
  exact absurd h6 (by decide)
theorem B9a {n:Int} (h0:0≤n) (h:n≤9223372036854775808) {r:List UInt8} {T:List (Int × List UInt8)} (hr:G6 r=0) (hT:C5 r T):C5 (Lib.itoa n++r) ((3,Lib.itoa n)::T):=by
 have e:Lib.itoa n=Lib.decDigits n.toNat:=by unfold Lib.itoa;rw [if_neg (by omega)]
 rw [e]
 obtain ⟨h1,_,h3,_⟩:=B2w n.toNat
 exact D6 h1 h3 (C3j _ (by omega)) hr hT
theorem B9b {v:Int × Int × List UInt8 × Bool} (hv:Xt.C1y v) (hs:v.2.2.1.length≤4096) {r:List UInt8} {T:List (Int × List UInt8)} (hr:G6 r=0) (h:C5 r T):C5 (A5u v++r) (A0w v++T):=by
 unfold A5u A0w
 rcases hv with ⟨a1,a2,a3,_⟩|⟨a1,_⟩|⟨a1,_⟩
 ·rw [if_pos a1,if_pos a1]
  by_cases hn:v.2.1 < 0
  ·rw [if_pos hn]
   have hi:Lib.itoa v.2.1=45::Lib.itoa (-v.2.1):=by
    unfold Lib.itoa
    rw [if_pos hn,if_neg (by omega),show v.2.1.natAbs=(-v.2.1).toNat by omega]
   rw [hi]
   exact S8 (by decide) (by decide) (by decide) (by decide) C7z (B9a (by omega) (by omega) hr h)
  ·rw [if_neg hn]
   exact B9a (by omega) (by omega) hr h
 ·have n1:¬ v.1=1:=by rw [a1];decide
  rw [if_neg n1,if_pos a1,if_neg n1,if_pos a1]
  exact C28 hs h
 ·have n1:¬ v.1=1:=by rw [a1];decide
  have n2:¬ v.1=2:=by rw [a1];decide
  rw [if_neg n1,if_neg n2,if_neg n1,if_neg n2]
  cases v.2.2.2
  ·exact D6 (w:=[102,97,108,115,101]) (by decide) (by decide) (by kernel_rfl) hr h
  ·exact D6 (w:=[116,114,117,101]) (by decide) (by decide) (by kernel_rfl) hr h
theorem D2b {op:Int} (h:6≤op∧op≤16) {r:List UInt8} {T:List (Int × List UInt8)} (hT:C5 (32::r) T):C5 (A4o op++32::r) (opT op::T):=by
 have hw:G6 (32::r)=0:=by rw [G6,if_neg (by decide)]
 have sg:∀ (c:UInt8) (w:List UInt8),A4s c.toNat=false→c≠35→c≠34→Sc.J0 c.toNat=false→J5 (c::w++32::r)=c::w→C5 (c::w++32::r) ((5,c::w)::T):=by
  intro c w h1 h2 h3 h4 h5
  refine X5 (z:=(c::w).length) (A0l h1 h2) (by simp) ?_ (by rw [List.drop_left];exact hT)
  unfold H0
  rw [if_neg (by show ¬ c=34;exact h3),if_pos (by rw [List.cons_append,G6,if_neg (by rw [h4];decide)]),h5,if_neg (by simp)]
 rcases A5m h with rfl|rfl|rfl|rfl|rfl|rfl|rfl|rfl|rfl|rfl|rfl
 ·exact D6 (w:=[97,110,100]) (by decide) (by decide) (by kernel_rfl) hw hT
 ·exact D6 (w:=[111,114]) (by decide) (by decide) (by kernel_rfl) hw hT
 all_goals exact sg _ _ (by decide) (by decide) (by decide) (by decide) (by simp [J5,A1j,signsL,pfx])
theorem A3i:∀ (x:Xt),x.Ok→x.Lexed→∀ (r:List UInt8) (T:List (Int × List UInt8)),G6 r=0→C5 r T→C5 (x.txt++r) (x.toks++T)
 | .con v,hx,hs,r,T,hr,h=>B9b hx hs hr h
 | .nam s,_,hs,r,T,hr,h=>D6 hs.1 hs.2.1 hs.2.2 hr h
 | .una op x,hx,hs,r,T,hr,h=>by
  have ih:=A3i x hx.2 hs r T hr h
  rcases hx.1 with ⟨e,_⟩|⟨e,_⟩
  ·subst e;exact B89 ih
  ·subst e;exact S8 (by decide) (by decide) (by decide) (by decide) C7z ih
 | .bin op x y,hx,hs,r,T,hr,h=>by
  have ihy:=A3i y hx.2.2.2.2.2 hs.2 r T hr h
  have h1:=D2b ⟨hx.1,hx.2.1⟩ (C8 ihy)
  have h2:=A3i x hx.2.2.2.2.1 hs.1 (32::(A4o op++32::(y.txt++r))) _ (by rw [G6,if_neg (by decide)]) (C8 h1)
  have e1:(Xt.bin op x y).txt++r=x.txt++32::(A4o op++32::(y.txt++r)):=by
   show (x.txt++32::(A4o op++32::y.txt))++r=_
   rw [List.append_assoc,List.cons_append,List.append_assoc,List.cons_append]
  have e2:(Xt.bin op x y).toks++T=x.toks++opT op::(y.toks++T):=by
   show (x.toks++opT op::y.toks)++T=_
   rw [List.append_assoc,List.cons_append]
  rw [e1,e2];exact h2
 | .par x,hx,hs,r,T,hr,h=>by
  have h1:C5 (41::r) ((5,[41])::T):=S8 (by decide) (by decide) (by decide) (by decide) C7y h
  have h2:=A3i x hx hs (41::r) _ (by rw [G6,if_neg (by decide)]) h1
  have h3:C5 (40::(x.txt++41::r)) ((5,[40])::(x.toks++(5,[41])::T)):=S8 (by decide) (by decide) (by decide) (by decide) C7x h2
  have e1:(Xt.par x).txt++r=40::(x.txt++41::r):=by
   show 40::(x.txt++[41])++r=_
   rw [List.cons_append,List.append_assoc];rfl
  have e2:(Xt.par x).toks++T=(5,[40])::(x.toks++(5,[41])::T):=by
   show (5,[40])::(x.toks++[(5,[41])])++T=_
   rw [List.cons_append,List.append_assoc];rfl
  rw [e1,e2];exact h3
end Go.Proofs.YticnkpgmmpenlaaGreatDoor.Pr
namespace Go.Proofs.YticnkpgmmpenlaaGreatDoor.Tr
open Go Go.Ab Go.RowKit
variable {Γ:Nat→AV}
attribute [local irreducible] A5 Sto.set Sto.grow
theorem B9x (n:Int):A5 Tryz.prog Γ 129 [.int .i64 n] fun v=>v=.agg (vlA (1,n,[],false)):=by
 refine aps Tryz.func129 ?_
 intro s
 conv=>whnf
 intro b hb
 refine wr ?_
 exact ⟨((Sub.refl _).set hb _ _).set hb _ _,rfl⟩
def e1:Ex:=(1,0,0,[],(1,2,[],false),0,0)
def e2:Ex:=(1,0,0,[],(1,3,[],false),0,0)
def e3:Ex:=(8,0,1,[],R3,0,0)
def N8 (v:Vl):Bool :=
 if v.1=1 then decide (v.2.2.1=[]) && !v.2.2.2
 else if v.1=2 then decide (v.2.1=0) && !v.2.2.2 && decide (v.2.2.1.length≤4096)
 else decide (v.1=3) && decide (v.2.1=0) && decide (v.2.2.1=[])
theorem B9y (s:List UInt8):A5 Tryz.prog Γ 130 [.str s] fun v=>v=.agg (vlA (2,0,s,false)):=by
 refine aps Tryz.func130 ?_
 intro s
 conv=>whnf
 intro b hb
 refine wr ?_
 exact ⟨((Sub.refl _).set hb _ _).set hb _ _,rfl⟩
theorem B7e (t:Bool):A5 Tryz.prog Γ 131 [.bool t] fun v=>v=.agg (vlA (3,0,[],t)):=by
 refine aps Tryz.func131 ?_
 intro s
 conv=>whnf
 intro b hb
 refine wr ?_
 exact ⟨((Sub.refl _).set hb _ _).set hb _ _,rfl⟩
theorem A3k (v:Vl):A5 Tryz.prog Γ 83 [.agg (vlA v)] fun x=>x=.bool (N8 v):=by
 obtain ⟨k,n,s,t⟩:=v
 refine aps Tryz.func83 ?_
 intro s
 conv=>whnf
 intro b hb
 conv=>whnf
 repeat' ((first|(refine brS (fun h=>?_) (fun h=>?_)<;>(try rw [h])<;>(try simp only [bS,↓reduceIte] at h))|(refine A0.pure' ?_ (B9x _);rintro _ rfl)|refine A8.pure ?_ (B9x _)|(refine A0.pure' ?_ (B9y _);rintro _ rfl)|refine A8.pure ?_ (B9y _)|(refine A0.pure' ?_ (B7e _);rintro _ rfl)|refine A8.pure ?_ (B7e _)|(refine M5.of B48 A9s ?_)|refine gS ?_|refine aA ?_|refine nA ?_|fail)<;>(conv=>whnf))
 all_goals refine ⟨(Sub.refl _).set hb _ _,B2 ?_⟩
 all_goals (try simp only [] at *)
 all_goals grind [N8]
def A5g (nm:List UInt8→Bool) (x:Ex):Bool :=
 if x.2.1≠0∨x.2.2.1≠0 then false
 else if x.1=1 then decide (x.2.2.2.1=[]) && N8 x.2.2.2.2.1
 else decide (x.1=17) && (decide (x.2.2.2.2.1=R3) && nm x.2.2.2.1)
theorem C7h (nm:List UInt8→Bool) (x:Ex) (hn:A5 Tryz.prog Γ 120 [.str x.2.2.2.1] fun v=>v=.bool (nm x.2.2.2.1)):A5 Tryz.prog Γ 195 [.agg (exA x)] fun v=>v=.bool (A5g nm x):=by
 have hev:=C6v x.2.2.2.2.1 R3
 refine aps Tryz.func195 ?_
 intro s
 conv=>whnf
 intro b hb
 conv=>whnf
 repeat' ((first|exact pru|(refine brS (fun h=>?_) (fun h=>?_)<;>(try rw [h])<;>(try simp only [bS,↓reduceIte] at h))|(refine A0.pure' ?_ (A3k x.2.2.2.2.1);rintro _ rfl)|refine A8.pure ?_ (A3k x.2.2.2.2.1)|(refine M5.of B48 A9s ?_)|(refine A0.pure' ?_ (hn);rintro _ rfl)|refine A8.pure ?_ (hn)|refine gS ?_|refine aA ?_|refine nA ?_|fail)<;>(conv=>whnf))
 all_goals refine ⟨(Sub.refl _).set hb _ _,B2 ?_⟩
 all_goals (unfold A5g;rw [← hev])
 all_goals grind [R3]
def A0r (nm:List UInt8→Bool) (x:Ex) (i:Nat) (r:List (Int × Int)):Int × Int :=
 if A5g nm x=true then (1,1)
 else if x.1 < 4∨16 < x.1∨x.2.2.2.1≠[]∨x.2.2.2.2.1≠R3∨i=0∨(r.getD (i - 1) (0,0)).1=0 then (0,0)
 else if x.1≤5 then (if x.2.1=(i:Int) - 1∧x.2.2.1=0 then ((r.getD (i - 1) (0,0)).1+1,(r.getD (i - 1) (0,0)).2+1) else (0,0))
 else if x.2.2.1=(i:Int) - 1∧x.2.1=(i:Int) - 1 - (r.getD (i - 1) (0,0)).1∧0≤(i:Int) - 1 - (r.getD (i - 1) (0,0)).1∧0 < (r.getD ((i:Int) - 1 - (r.getD (i - 1) (0,0)).1).toNat (0,0)).1 then
  ((r.getD ((i:Int) - 1 - (r.getD (i - 1) (0,0)).1).toNat (0,0)).1+(r.getD (i - 1) (0,0)).1+1,max (r.getD ((i:Int) - 1 - (r.getD (i - 1) (0,0)).1).toNat (0,0)).2 (r.getD (i - 1) (0,0)).2+1)
 else (0,0)
def tab (nm:List UInt8→Bool) (l:List Ex):Nat→List (Int × Int)
 | 0=>[]
 | i+1=>tab nm l i++[A0r nm (l.getD i H1) i (tab nm l i)]
theorem A1k (nm:List UInt8→Bool) (l:List Ex):∀ i,(tab nm l i).length=i
 | 0=>rfl
 | i+1=>by rw [tab,List.length_append,A1k nm l i];rfl
theorem C86 {α:Type} {r:List α} {d p:α} {j:Nat} (h:j < r.length):(r++[p]).getD j d=r.getD j d:=by
 simp [List.getD,List.getElem?_append_left h]
theorem B8z {α:Type} {r:List α} {d p:α}:(r++[p]).getD r.length d=p:=by
 simp [List.getD]
theorem C02 {nm:List UInt8→Bool} {x:Ex} {i:Nat} {r:List (Int × Int)} (h:∀ j:Nat,j < i→0≤(r.getD j (0,0)).1∧(r.getD j (0,0)).1≤j+1∧0≤(r.getD j (0,0)).2∧(r.getD j (0,0)).2≤j+1) :
  0≤(A0r nm x i r).1∧(A0r nm x i r).1≤i+1∧0≤(A0r nm x i r).2∧(A0r nm x i r).2≤i+1:=by
 unfold A0r
 split
 ·simp only [];omega
 split
 ·simp only [];omega
 rename_i h1 h2
 have hp:=h (i - 1) (by omega)
 generalize r.getD (i - 1) (0,0)=p at *
 split
 ·split
  ·simp only [];omega
  ·simp only [];omega
 ·split
  ·rename_i h4
   have hq:=h ((i:Int) - 1 - p.1).toNat (by omega)
   generalize r.getD ((i:Int) - 1 - p.1).toNat (0,0)=q at *
   simp only []
   omega
  ·simp only [];omega
theorem A8t (nm:List UInt8→Bool) (l:List Ex):∀ i j:Nat,j < i→0≤((tab nm l i).getD j (0,0)).1∧((tab nm l i).getD j (0,0)).1≤j+1∧0≤((tab nm l i).getD j (0,0)).2∧((tab nm l i).getD j (0,0)).2≤j+1
 | 0,j,h=>by omega
 | i+1,j,h=>by
  have hl:=A1k nm l i
  rw [tab]
  by_cases hj:j < i
  ·rw [C86 (by omega)]
   exact A8t nm l i j hj
  ·rw [show j=(tab nm l i).length by omega,B8z,hl]
   exact C02 (A8t nm l i)
def col (f:Int × Int→Int) (r:List (Int × Int)) (n:Nat):List AV:=r.map (fun p=>.int .i64 (f p))++List.replicate (n - r.length) (.int .i64 0)
theorem C6r {f:Int × Int→Int} {r:List (Int × Int)} {n:Nat} (h:r.length≤n):(col f r n).length=n:=by simp [col];omega
theorem A54 {f:Int × Int→Int} (hf:f (0,0)=0) {r:List (Int × Int)} {n j m:Nat} (h:j < n) (hr:r.length≤n) (hm:m=j):(col f r n).drop m=.int .i64 (f (r.getD j (0,0)))::(col f r n).drop (j+1):=by
 subst hm
 rw [List.drop_eq_getElem_cons (by rw [C6r hr];exact h)]
 refine B5 ?_ rfl
 simp only [col]
 by_cases hj:m < r.length
 ·rw [List.getElem_append_left (by simpa using hj)]
  simp [List.getD,hj]
 ·rw [List.getElem_append_right (by simp;omega)]
  simp [List.getD,List.getElem?_eq_none (Nat.le_of_not_lt hj),hf]
theorem D43 {f:Int × Int→Int} {r:List (Int × Int)} {n i m k:Nat} {p:Int × Int} {v:Int} (h:r.length=i) (hi:i < n) (hm:m=i) (hk:k=i+1) (hv:v=f p) :
  (col f r n).take m++[.int .i64 v]++(col f r n).drop k=col f (r++[p]) n:=by
 subst hm hk hv h
 unfold col
 rw [List.take_append_of_le_length (by simp),List.take_of_length_le (by simp),List.drop_append,List.drop_of_length_le (by simp)]
 simp only [List.length_map,List.map_append,List.map_cons,List.map_nil,List.nil_append,List.length_append,List.length_cons,List.length_nil,List.drop_replicate]
 rw [show n - r.length - (r.length+1 - r.length)=n - (r.length+(0+1)) by omega]
theorem C18 {f:Int × Int→Int} {r:List (Int × Int)} {n:Nat} {p:Int × Int} (h:r.length < n) (hp:f p=0):col f r n=col f (r++[p]) n:=by
 unfold col
 simp only [List.map_append,List.map_cons,List.map_nil,List.length_append,List.length_cons,List.length_nil,hp,List.append_assoc,List.singleton_append]
 rw [show n - r.length=(n - (r.length+(0+1)))+1 by omega,List.replicate_succ]
theorem A3t {P:Program} {T:TypeId} {cs cs':List AV} {K:AV→Prop} (h:cs=cs') (hk:A3s P T cs' K):A3s P T cs K:=h ▸ hk
theorem C80 (n:Nat) (z:AV):(List.replicate n [z]).flatten=List.replicate n z:=by
 induction n with
 | zero=>rfl
 | succ n ih=>rw [List.replicate_succ,List.flatten_cons,ih,List.replicate_succ];rfl
structure Szc (s s':Sto) (b1 b2:Nat) (c1 c2:List AV):Prop where
 ne:b1≠b2
 size:s'.bx b1=some (3,c1)
 depth:s'.bx b2=some (3,c2)
 sub:Sub s s'
 none1:s.bx b1=none
 none2:s.bx b2=none
theorem A0h {cs cs':List AV} {K:List AV→Prop} (h:cs=cs') (hk:K cs'):A5c cs K:=by rw [D2,h];exact hk
theorem C38 (nm:List UInt8→Bool) (t:Nat) (l:List Ex) (hl:l.length≤1000000) (hn:∀ x ∈ l,A5 Tryz.prog Γ 120 [.str x.2.2.2.1] fun v=>v=.bool (nm x.2.2.2.1)) (s:Sto) :
  A0 Tryz.prog Γ 116 [.slice t (l.map exA)] s fun v s'=>∃ b1 b2,v=.tuple [.raw (some ⟨b1,0,none⟩) l.length l.length,.raw (some ⟨b2,0,none⟩) l.length l.length]∧Szc s s' b1 b2 (col Prod.fst (tab nm l l.length) l.length) (col Prod.snd (tab nm l l.length) l.length):=by
 have hml:(l.map exA).length=l.length:=List.length_map ..
 have hroom:((8:Nat):Int) * ((l.map exA).length:Int)≤281474976710656:=by omega
 refine acs Tryz.func116 ?_
 refine wr ?_;(refine ⟨hroom,?_⟩);refine wr ?_
 intro b1 hb1
 refine wr ?_;(refine ⟨hroom,?_⟩);refine wr ?_
 intro b2 hb2
 refine wr ?_
 refine AWp.loopA [15] [16,17,18,19,5,4,20,21,22,23,24,25,26,27,28,29,30,31,32,33,34,35,36,37,38,39,40,41,42,43,44,45,46,47,48,49,50,51,52,53,54,55,56,57,58,59,60,61,62,63,64,65,66,67,68,69,70,71,72,73,74,75,76,77,78,79,80,81,82,83,84,85,86,87,88,89,90,91,92,93,94,95,96,97,6,98,99,100,101,102,103,104,105,106,107,108,109,110,111,112,113,114,115,116,117,118,119,120,121,122,123,124,125,126,127,128,129,130,131,132,133,134,135,136,137,138,139,140,141,142,143,144,145,146,147,148] (fun i:Nat=>[.int .i64 i]) (fun i s'=>i≤l.length∧Szc s s' b1 b2 (col Prod.fst (tab nm l i) l.length) (col Prod.snd (tab nm l i) l.length)) (fun i=>l.length - i) (0) (by kernel_rfl) (eqa) ?_ ?_
 ·refine ⟨by omega,?_⟩
  obtain ⟨h1,h2⟩:=D0 hb2
  have hz:∀ f:Int × Int→Int,(List.replicate ((l.map exA).length:Int).toNat [AV.int .i64 0]).flatten=col f (tab nm l 0) l.length:=fun f=>by
   rw [C80,Int.toNat_natCast,hml];rfl
  exact ⟨fun h=>h1 h.symm,((A2 (fun h=>h1 h.symm)).trans A1).trans (by rw [hz]),A1.trans (by rw [hz]),((Sub.refl _).set hb1 _ _).set h2 _ _,hb1,h2⟩
 ·rintro q i s1 ⟨hi,hz⟩
  conv=>whnf
  have hga:=fun h:i < l.length=>C1 (f:=exA) (l:=l) H1 h
  have htab:tab nm l (i+1)=tab nm l i++[A0r nm (l.getD i H1) i (tab nm l i)]:=rfl
  have htl:=A1k nm l i
  have hbd:=A8t nm l i
  have hnx:=fun h:i < l.length=>hn (l.getD i H1) (E4 H1 h)
  by_cases hlt:i < l.length
  ·have hga:=hga hlt
   have hnx:=hnx hlt
   generalize l.getD i H1=x at *
   generalize tab nm l i=r at *
   repeat' ((first|exact pru|(refine brS (fun h=>?_) (fun h=>?_)<;>(try rw [h])<;>(try simp only [bS,↓reduceIte] at h))|(rw [show (l.map exA).getD ((i:Int)).toNat []=_ from hga])|refine gS ?_|refine aA ?_|refine nA ?_|fail)<;>(conv=>whnf))
   intro c hc
   conv=>whnf
   refine A4 A1 ?_
   have n1:=A3 hz.size hc
   have n2:=A3 hz.depth hc
   have h5:=hz.sub.none hc
   have g1:=fun (T:TypeId) (x y:List AV)=>(A2 (s:=s1.set c T x) (T:=T) (cs:=y) n1).trans ((A2 n1).trans hz.size)
   have g2:=fun (T:TypeId) (x y:List AV)=>(A2 (s:=s1.set c T x) (T:=T) (cs:=y) n2).trans ((A2 n2).trans hz.depth)
   have st:=fun (f:Int × Int→Int) (P:Int × Int) (v:Int) (m k:Nat) (hv:v=f P) (hm:m=i) (hk:k=i+1)=>D43 (f:=f) (r:=r) (n:=l.length) (p:=P) (v:=v) htl hlt hm hk hv
   have ln:=fun f:Int × Int→Int=>C6r (f:=f) (r:=r) (n:=l.length) (by omega)
   have zero:A0r nm x i r=(0,0)→∀ (T:TypeId) (y z:List AV),Szc s ((s1.set c T y).set c T z) b1 b2 (col Prod.fst (tab nm l (i+1)) l.length) (col Prod.snd (tab nm l (i+1)) l.length):=fun h0 T y z=>by
    rw [htab,h0]
    exact ⟨hz.ne,(g1 _ _ _).trans (by rw [C18 (p:=(0,0)) (by omega) rfl]),(g2 _ _ _).trans (by rw [C18 (p:=(0,0)) (by omega) rfl]),(hz.sub.set h5 _ _).set h5 _ _,hz.none1,hz.none2⟩
   have put:∀ P,A0r nm x i r=P→∀ (T T':TypeId) (y z:List AV),T'=3→Szc s ((((s1.set c T y).set c T z).set b1 T' (col Prod.fst (r++[P]) l.length)).set b2 T' (col Prod.snd (r++[P]) l.length)) b1 b2 (col Prod.fst (tab nm l (i+1)) l.length) (col Prod.snd (tab nm l (i+1)) l.length):=fun P h0 T T' y z hT=>by
    subst hT
    rw [htab,h0]
    exact ⟨hz.ne,(A2 hz.ne).trans A1,A1,(((hz.sub.set h5 _ _).set h5 _ _).set hz.none1 _ _).set hz.none2 _ _,hz.none1,hz.none2⟩
   by_cases hlo:A5g nm x=true
   ·have hl1:A5 Tryz.prog Γ 195 [.agg (exA x)] fun v=>v=.bool true:=hlo ▸ C7h nm x hnx
    refine wr ?_
    refine A4 (g1 _ _ _) ?_
    refine ⟨rfl,rfl,by show 0+((i:Nat):Int).toNat * 1+1≤_;rw [ln];omega,A0h (st Prod.fst (1,1) _ _ _ rfl (by show 0+((i:Nat):Int).toNat * 1=i;omega) (by show 0+((i:Nat):Int).toNat * 1+1=i+1;omega)) ?_⟩
    refine wr ?_
    refine A4 ((A2 (fun h=>hz.ne h.symm)).trans (g2 _ _ _)) ?_
    refine ⟨rfl,rfl,by show 0+((i:Nat):Int).toNat * 1+1≤_;rw [ln];omega,A0h (st Prod.snd (1,1) _ _ _ rfl (by show 0+((i:Nat):Int).toNat * 1=i;omega) (by show 0+((i:Nat):Int).toNat * 1+1=i+1;omega)) ?_⟩
    refine wr ?_
    exact ⟨i+1,eqa,B9,⟨by omega,put (1,1) (by unfold A0r;rw [if_pos hlo]) _ _ _ _ rfl⟩,by omega⟩
   have hlo':A5g nm x=false:=by simpa using hlo
   have hl0:A5 Tryz.prog Γ 195 [.agg (exA x)] fun v=>v=.bool false:=hlo' ▸ C7h nm x hnx
   have hev:=C6v x.2.2.2.2.1 R3
   simp only [R3] at hev
   by_cases hi0:i=0
   ·repeat' ((first|exact pru|(refine brS (fun h=>?_) (fun h=>?_)<;>(try rw [h])<;>(try simp only [bS,↓reduceIte] at h))|(refine A4 A1 ?_)|(refine A0.pure' ?_ (hl0);rintro _ rfl)|refine A8.pure ?_ (hl0)|(refine M5.of B48 A9s ?_)|refine gS ?_|refine aA ?_|refine nA ?_|fail)<;>(conv=>whnf))
    all_goals exact ⟨i+1,eqa,B9,⟨by omega,zero (by unfold A0r;rw [if_neg hlo,if_pos (by simp [hi0])]) _ _ _⟩,by omega⟩
   obtain ⟨p,hp⟩:∃ p,r.getD (i - 1) (0,0)=p:=⟨_,rfl⟩
   have hpb:=hbd (i - 1) (by omega)
   rw [hp] at hpb
   obtain ⟨a,ha⟩:∃ a:Int,a=(i:Int) - 1 - p.1:=⟨_,rfl⟩
   obtain ⟨q,hq⟩:∃ q,r.getD a.toNat (0,0)=q:=⟨_,rfl⟩
   have hqb:=fun h:0≤a=>hbd a.toNat (by omega)
   rw [hq] at hqb
   have hnode:A0r nm x i r=if A5g nm x=true then (1,1) else if x.1 < 4∨16 < x.1∨x.2.2.2.1≠[]∨x.2.2.2.2.1≠R3∨i=0∨p.1=0 then (0,0) else if x.1≤5 then (if x.2.1=(i:Int) - 1∧x.2.2.1=0 then (p.1+1,p.2+1) else (0,0)) else if x.2.2.1=(i:Int) - 1∧x.2.1=a∧0≤a∧0 < q.1 then (q.1+p.1+1,max q.2 p.2+1) else (0,0):=by
    unfold A0r;rw [hp,← ha,hq]
   have hw1:IntKind.i64.wrap ((i:Int) - 1)=((i - 1:Nat):Int):=C3 (by omega) (by omega) (by omega)
   have hwa:IntKind.i64.wrap (((i - 1:Nat):Int) - p.1)=a:=C3 (by omega) (by omega) (by omega)
   have ld1:∀ m,m=i - 1→(col Prod.fst r l.length).drop m=.int .i64 p.1::(col Prod.fst r l.length).drop (i - 1+1):=fun m hm=>hp ▸ A54 rfl (by omega) (by omega) hm
   have ld2:∀ m,m=i - 1→(col Prod.snd r l.length).drop m=.int .i64 p.2::(col Prod.snd r l.length).drop (i - 1+1):=fun m hm=>hp ▸ A54 rfl (by omega) (by omega) hm
   have la1:0≤a→∀ m,m=a.toNat→(col Prod.fst r l.length).drop m=.int .i64 q.1::(col Prod.fst r l.length).drop (a.toNat+1):=fun h m hm=>hq ▸ A54 rfl (by omega) (by omega) hm
   have la2:0≤a→∀ m,m=a.toNat→(col Prod.snd r l.length).drop m=.int .i64 q.2::(col Prod.snd r l.length).drop (a.toNat+1):=fun h m hm=>hq ▸ A54 rfl (by omega) (by omega) hm
   repeat' ((first|exact pru|(refine brS (fun h=>?_) (fun h=>?_)<;>(try rw [h])<;>(try simp only [bS,↓reduceIte] at h))|(refine A4 A1 ?_)|(refine A0.pure' ?_ (hl0);rintro _ rfl)|refine A8.pure ?_ (hl0)|(refine M5.of B48 A9s ?_)|(rw [hw1])|(refine A4 (g1 _ _ _) (A3t (ld1 _ (by show 0+((i - 1:Nat):Int).toNat * 1=i - 1;omega)) ?_))|(refine A4 (g2 _ _ _) (A3t (ld2 _ (by show 0+((i - 1:Nat):Int).toNat * 1=i - 1;omega)) ?_))|(rw [hwa])|(refine A4 (g1 _ _ _) (A3t (la1 (by omega) _ (by show 0+a.toNat * 1=a.toNat;omega)) ?_))|(refine A4 (g2 _ _ _) (A3t (la2 (by omega) _ (by show 0+a.toNat * 1=a.toNat;omega)) ?_))|refine gS ?_|refine aA ?_|refine nA ?_|fail)<;>(conv=>whnf))
   all_goals try exact ⟨i+1,eqa,B9,⟨by omega,zero (by rw [hnode];clear hn hz hc g1 g2 st ln zero put ld1 ld2 la1 la2;grind [R3]) _ _ _⟩,by omega⟩
   ·refine A4 (g1 _ _ _) ?_
    refine ⟨rfl,rfl,by show 0+((i:Nat):Int).toNat * 1+1≤_;rw [ln];omega,A0h (st Prod.fst (p.1+1,p.2+1) _ _ _ (C3 rfl (by simp only [];omega) (by simp only [];omega)) (by show 0+((i:Nat):Int).toNat * 1=i;omega) (by show 0+((i:Nat):Int).toNat * 1+1=i+1;omega)) ?_⟩
    refine wr ?_
    refine A4 ((A2 (fun h=>hz.ne h.symm)).trans (g2 _ _ _)) ?_
    refine ⟨rfl,rfl,by show 0+((i:Nat):Int).toNat * 1+1≤_;rw [ln];omega,A0h (st Prod.snd (p.1+1,p.2+1) _ _ _ (C3 rfl (by simp only [];omega) (by simp only [];omega)) (by show 0+((i:Nat):Int).toNat * 1=i;omega) (by show 0+((i:Nat):Int).toNat * 1+1=i+1;omega)) ?_⟩
    refine wr ?_
    exact ⟨i+1,eqa,B9,⟨by omega,put (p.1+1,p.2+1) (by rw [hnode];clear hn hz hc g1 g2 st ln zero put ld1 ld2 la1 la2;grind [R3]) _ _ _ _ rfl⟩,by omega⟩
   ·refine A4 (g1 _ _ _) ?_
    refine ⟨rfl,rfl,by show 0+((i:Nat):Int).toNat * 1+1≤_;rw [ln];omega,A0h (st Prod.fst (q.1+p.1+1,max q.2 p.2+1) _ _ _ (by rw [C3 (b:=q.1+p.1) rfl (by omega) (by omega)];exact C3 rfl (by simp only [];omega) (by simp only [];omega)) (by show 0+((i:Nat):Int).toNat * 1=i;omega) (by show 0+((i:Nat):Int).toNat * 1+1=i+1;omega)) ?_⟩
    refine wr ?_
    refine A4 ((A2 (fun h=>hz.ne h.symm)).trans (g2 _ _ _)) ?_
    refine ⟨rfl,rfl,by show 0+((i:Nat):Int).toNat * 1+1≤_;rw [ln];omega,A0h (st Prod.snd (q.1+p.1+1,max q.2 p.2+1) _ _ _ (C3 (by show (if p.2 > q.2 then p.2 else q.2)+1=max q.2 p.2+1;split<;>omega) (by simp only [];omega) (by simp only [];omega)) (by show 0+((i:Nat):Int).toNat * 1=i;omega) (by show 0+((i:Nat):Int).toNat * 1+1=i+1;omega)) ?_⟩
    refine wr ?_
    exact ⟨i+1,eqa,B9,⟨by omega,put (q.1+p.1+1,max q.2 p.2+1) (by rw [hnode];clear hn hz hc g1 g2 st ln zero put ld1 ld2 la1 la2;grind [R3]) _ _ _ _ rfl⟩,by omega⟩
  ·have h0:i=l.length:=by omega
   subst h0
   refine wp ?_
   have e:((l.map exA).length:Int).toNat=l.length:=by rw [Int.toNat_natCast,hml]
   exact ⟨s1,Sub.refl _,b1,b2,by rw [e];rfl,hz⟩
theorem A70 (v:Vl):A5 Tryz.prog Γ 40 [.agg (vlA v)] fun x=>x=.bool (N8 v):=by
 obtain ⟨k,n,s,t⟩:=v
 refine aps Tryz.func40 ?_
 intro s
 conv=>whnf
 intro b hb
 conv=>whnf
 repeat' ((first|(refine brS (fun h=>?_) (fun h=>?_)<;>(try rw [h])<;>(try simp only [bS,↓reduceIte] at h))|refine gS ?_|refine aA ?_|refine nA ?_|fail)<;>(conv=>whnf))
 all_goals refine ⟨(Sub.refl _).set hb _ _,B2 ?_⟩
 all_goals (try simp only [] at *)
 all_goals grind [N8]
theorem D1u {α:Type} {r q:List α} {d:α} {j:Nat} (h:j < r.length):(r++q).getD j d=r.getD j d:=by
 simp [List.getD,List.getElem?_append_left h]
theorem B3x (nm:List UInt8→Bool) (l:List Ex) {j m:Nat}:∀ n:Nat,j < m→m≤n→(tab nm l n).getD j (0,0)=(tab nm l m).getD j (0,0)
 | 0=>fun h k=>by omega
 | n+1=>fun h k=>by
  by_cases he:m=n+1
  ·rw [he]
  ·rw [tab,D1u (by rw [A1k];omega)]
   exact B3x nm l n h (by omega)
def nd (nm:List UInt8→Bool) (l:List Ex) (i:Nat):Int × Int:=(tab nm l l.length).getD i (0,0)
theorem B5t (nm:List UInt8→Bool) (l:List Ex) {i:Nat} (h:i < l.length):0≤(nd nm l i).1∧(nd nm l i).1≤i+1∧0≤(nd nm l i).2∧(nd nm l i).2≤i+1:=A8t nm l l.length i h
theorem C3h {nm:List UInt8→Bool} {l:List Ex} {i:Nat} {x:Ex} {p q:Int × Int} {a:Int} (hi:i < l.length) (hx:l.getD i H1=x) (hp:nd nm l (i - 1)=p) (ha:a=(i:Int) - 1 - p.1) (hq:nd nm l a.toNat=q) :
  nd nm l i=if A5g nm x=true then (1,1) else if x.1 < 4∨16 < x.1∨x.2.2.2.1≠[]∨x.2.2.2.2.1≠R3∨i=0∨p.1=0 then (0,0) else if x.1≤5 then (if x.2.1=(i:Int) - 1∧x.2.2.1=0 then (p.1+1,p.2+1) else (0,0)) else if x.2.2.1=(i:Int) - 1∧x.2.1=a∧0≤a∧0 < q.1 then (q.1+p.1+1,max q.2 p.2+1) else (0,0):=by
 have h1:nd nm l i=A0r nm x i (tab nm l i):=by
  unfold nd
  rw [B3x nm l (m:=i+1) l.length (by omega) (by omega),tab]
  have:i=(tab nm l i).length:=(A1k nm l i).symm
  rw [← hx]
  conv=>lhs;arg 2;rw [this]
  rw [B8z]
 rw [h1]
 unfold A0r
 by_cases h0:i=0
 ·subst h0
  by_cases hlo:A5g nm x=true
  ·rw [if_pos hlo,if_pos hlo]
  ·rw [if_neg hlo,if_neg hlo,if_pos (by simp),if_pos (by simp)]
 have hp':(tab nm l i).getD (i - 1) (0,0)=p:=by rw [← hp];exact (B3x nm l l.length (by omega) (by omega)).symm
 rw [hp',← ha]
 have hb:=B5t nm l (i:=i - 1) (by omega)
 rw [hp] at hb
 have hq':(tab nm l i).getD a.toNat (0,0)=q:=by rw [← hq];exact (B3x nm l l.length (by omega) (by omega)).symm
 rw [hq']
end Go.Proofs.YticnkpgmmpenlaaGreatDoor.Tr
namespace Go.Proofs.YticnkpgmmpenlaaGreatDoor.Va
open Go Go.Ab Go.RowKit
abbrev Vl:=Int × Int × List UInt8 × Bool
def vlA (v:Vl):List AV:=[.int .i64 v.1,.int .i64 v.2.1,.str v.2.2.1,.bool v.2.2.2]
def R3:Vl:=(0,0,[],false)
def right (v:Vl):Bool :=
 if v.1=1 then decide (v.2.2.1=[]) && !v.2.2.2
 else if v.1=2 then decide (v.2.1=0) && !v.2.2.2 && decide (v.2.2.1.length≤4096)
 else decide (v.1=3) && decide (v.2.1=0) && decide (v.2.2.1=[])
def less (a b:Vl):Bool :=
 if a.1≠b.1 then decide (a.1 < b.1)
 else if a.1=1 then decide (a.2.1 < b.2.1)
 else if a.1=2 then Op.bytesLess a.2.2.1 b.2.2.1
 else !a.2.2.2 && b.2.2.2
theorem B2 {a b:Bool} (h:a=b):AV.bool a=.bool b:=by rw [h]
theorem C1 {α:Type} {f:α→List AV} {l:List α} (d:α) {i:Nat} (h:i < l.length):(l.map f).getD i []=f (l.getD i d):=by
 simp [List.getD,h]
theorem E4 {α:Type} {l:List α} (d:α) {i:Nat} (h:i < l.length):l.getD i d ∈ l:=by
 simp [List.getD,h]
theorem C6v (x y:Vl):(decide (x.1=y.1) && (decide (x.2.1=y.2.1) && (decide (x.2.2.1=y.2.2.1) && ((x.2.2.2 == y.2.2.2) && true))))=decide (x=y):=by
 rw [Bool.eq_iff_iff];simp [Prod.ext_iff]
end Go.Proofs.YticnkpgmmpenlaaGreatDoor.Va
namespace Go.Proofs.YticnkpgmmpenlaaGreatDoor.Va
open Go Go.Ab Go.RowKit
variable {Γ:Nat→AV}
attribute [local irreducible] A5 Sto.set Sto.grow
theorem B48:(!Tryz.prog.eqGuardType Tryz.prog.depth 56)=true:=by kernel_rfl
theorem A9s:A2m Tryz.prog 9999 56=some [(0,0),(1,0),(2,1),(3,2)]:=by kernel_rfl
theorem D12 (n:Int):A5 Tryz.prog Γ 129 [.int .i64 n] fun v=>v=.agg (vlA (1,n,[],false)):=by
 refine aps Tryz.func129 ?_
 intro s
 conv=>whnf
 intro b hb
 refine wr ?_
 exact ⟨((Sub.refl _).set hb _ _).set hb _ _,rfl⟩
theorem D3z (s:List UInt8):A5 Tryz.prog Γ 130 [.str s] fun v=>v=.agg (vlA (2,0,s,false)):=by
 refine aps Tryz.func130 ?_
 intro s
 conv=>whnf
 intro b hb
 refine wr ?_
 exact ⟨((Sub.refl _).set hb _ _).set hb _ _,rfl⟩
theorem C6o (t:Bool):A5 Tryz.prog Γ 131 [.bool t] fun v=>v=.agg (vlA (3,0,[],t)):=by
 refine aps Tryz.func131 ?_
 intro s
 conv=>whnf
 intro b hb
 refine wr ?_
 exact ⟨((Sub.refl _).set hb _ _).set hb _ _,rfl⟩
theorem C30 (v:Vl):A5 Tryz.prog Γ 83 [.agg (vlA v)] fun x=>x=.bool (right v):=by
 obtain ⟨k,n,s,t⟩:=v
 refine aps Tryz.func83 ?_
 intro s
 conv=>whnf
 intro b hb
 conv=>whnf
 repeat' (first
  | (refine ⟨Sub.refl _,?_⟩)
  | (refine F2 (fun h=>?_) (fun h=>?_)<;>(try rw [h])<;>(try simp only [Bool.false_eq_true,Bool.true_eq_false,↓reduceIte,decide_eq_true_eq,decide_eq_false_iff_not,Bool.not_eq_true',Bool.not_eq_false'] at h)<;>(conv=>whnf))
  | (refine A0.pure' ?_ (D12 _);rintro _ rfl;conv=>whnf)
  | (refine A8.pure ?_ (D12 _);conv=>whnf)
  | (refine A0.pure' ?_ (D3z _);rintro _ rfl;conv=>whnf)
  | (refine A8.pure ?_ (D3z _);conv=>whnf)
  | (refine A0.pure' ?_ (C6o _);rintro _ rfl;conv=>whnf)
  | (refine A8.pure ?_ (C6o _);conv=>whnf)
  | (refine M5.of B48 A9s ?_;conv=>whnf)
  | (refine D8 ?_;conv=>whnf)
  | (refine AWp.any (by kernel_rfl) (by kernel_rfl) (by kernel_rfl) ?_;conv=>whnf)
  | (apply And.intro;(focus (first|omega|rfl|decide|exact Nat.le_of_ble_eq_true rfl|((repeat' (first|exact all_nil|refine all_cons ?_ ?_|rfl|fail));done)|(simp [-List.length_flatMap];done)|(simp [-List.length_flatMap];omega)|fail));conv=>whnf)
  | fail)
 all_goals refine ⟨(Sub.refl _).set hb _ _,B2 ?_⟩
 all_goals (try simp only [] at *)
 all_goals grind [right]
theorem A70 (v:Vl):A5 Tryz.prog Γ 40 [.agg (vlA v)] fun x=>x=.bool (right v):=by
 obtain ⟨k,n,s,t⟩:=v
 refine aps Tryz.func40 ?_
 intro s
 conv=>whnf
 intro b hb
 conv=>whnf
 repeat' (first
  | (refine ⟨Sub.refl _,?_⟩)
  | (refine F2 (fun h=>?_) (fun h=>?_)<;>(try rw [h])<;>(try simp only [Bool.false_eq_true,Bool.true_eq_false,↓reduceIte,decide_eq_true_eq,decide_eq_false_iff_not,Bool.not_eq_true',Bool.not_eq_false'] at h)<;>(conv=>whnf))
  | (refine D8 ?_;conv=>whnf)
  | (refine AWp.any (by kernel_rfl) (by kernel_rfl) (by kernel_rfl) ?_;conv=>whnf)
  | (apply And.intro;(focus (first|omega|rfl|decide|exact Nat.le_of_ble_eq_true rfl|((repeat' (first|exact all_nil|refine all_cons ?_ ?_|rfl|fail));done)|(simp [-List.length_flatMap];done)|(simp [-List.length_flatMap];omega)|fail));conv=>whnf)
  | fail)
 all_goals refine ⟨(Sub.refl _).set hb _ _,B2 ?_⟩
 all_goals (try simp only [] at *)
 all_goals grind [right]
def D2j (k:Int):List UInt8:=if k=1 then [105,110,116] else if k=2 then [115,116,114,105,110,103] else if k=3 then [98,111,111,108] else []
theorem A1f (k:Int):A5 Tryz.prog Γ 28 [.int .i64 k] fun v=>v=.str (D2j k):=by
 refine aps Tryz.func28 ?_
 intro s
 conv=>whnf
 repeat' (first
  | (refine ⟨Sub.refl _,?_⟩)
  | (refine F2 (fun h=>?_) (fun h=>?_)<;>(try rw [h])<;>(try simp only [Bool.false_eq_true,Bool.true_eq_false,↓reduceIte,decide_eq_true_eq,decide_eq_false_iff_not,Bool.not_eq_true',Bool.not_eq_false'] at h)<;>(conv=>whnf))
  | (refine D8 ?_;conv=>whnf)
  | (refine AWp.any (by kernel_rfl) (by kernel_rfl) (by kernel_rfl) ?_;conv=>whnf)
  | (apply And.intro;(focus (first|omega|rfl|decide|exact Nat.le_of_ble_eq_true rfl|((repeat' (first|exact all_nil|refine all_cons ?_ ?_|rfl|fail));done)|(simp [-List.length_flatMap];done)|(simp [-List.length_flatMap];omega)|fail));conv=>whnf)
  | fail)
 all_goals refine congrArg AV.str ?_
 all_goals grind [D2j]
def tT:List UInt8:=[116,114,117,101]
def tF:List UInt8:=[102,97,108,115,101]
def A9w (v:Vl):List UInt8:=if right v=true then (if v.1=1 then Lib.itoa v.2.1 else if v.1=2 then Qu.A1w v.2.2.1 else if v.2.2.2=true then tT else tF) else []
theorem B2k (hT:Qu.A1q Γ) (hN:Nu.A6y Γ) (v:Vl) (hv:Nu.V7 v.2.1) (hl:v.2.2.1.length≤1048576):A5 Tryz.prog Γ 31 [.agg (vlA v)] fun x=>x=.str (A9w v):=by
 refine aps Tryz.func31 ?_
 intro s
 conv=>whnf
 intro b hb
 conv=>whnf
 repeat' (first
  | (refine ⟨Sub.refl _,?_⟩)
  | (refine F2 (fun h=>?_) (fun h=>?_)<;>(try rw [h])<;>(try simp only [Bool.false_eq_true,Bool.true_eq_false,↓reduceIte,decide_eq_true_eq,decide_eq_false_iff_not,Bool.not_eq_true',Bool.not_eq_false'] at h)<;>(conv=>whnf))
  | (refine A0.pure' ?_ (C30 v);rintro _ rfl;conv=>whnf)
  | (refine A8.pure ?_ (C30 v);conv=>whnf)
  | (refine A0.pure' ?_ (Nu.A8v hN _ hv);rintro _ rfl;conv=>whnf)
  | (refine A8.pure ?_ (Nu.A8v hN _ hv);conv=>whnf)
  | (refine A0.pure' ?_ (Qu.B03 hT _ (by omega));rintro _ rfl;conv=>whnf)
  | (refine A8.pure ?_ (Qu.B03 hT _ (by omega));conv=>whnf)
  | (refine D8 ?_;conv=>whnf)
  | (refine AWp.any (by kernel_rfl) (by kernel_rfl) (by kernel_rfl) ?_;conv=>whnf)
  | (apply And.intro;(focus (first|omega|rfl|decide|exact Nat.le_of_ble_eq_true rfl|((repeat' (first|exact all_nil|refine all_cons ?_ ?_|rfl|fail));done)|(simp [-List.length_flatMap];done)|(simp [-List.length_flatMap];omega)|fail));conv=>whnf)
  | fail)
 all_goals refine ⟨(Sub.refl _).set hb _ _,congrArg AV.str ?_⟩
 all_goals simp [A9w, *]
 all_goals rfl
end Go.Proofs.YticnkpgmmpenlaaGreatDoor.Va
namespace Go.Proofs.YticnkpgmmpenlaaGreatDoor.Nu
open Go Go.Ab Go.RowKit
attribute [local irreducible] A5 Sto.set Sto.grow
theorem D46 {u:Nat} (h:u < 10):Lib.decDigits u=[UInt8.ofNat (48+u)]:=by rw [Lib.decDigits,dif_pos h]
end Go.Proofs.YticnkpgmmpenlaaGreatDoor.Nu
namespace Go.Proofs.YticnkpgmmpenlaaGreatDoor.Pr
open Go Go.Ab Go.RowKit Go.Proofs.YticnkpgmmpenlaaGreatDoor.Lx Go.Proofs.YticnkpgmmpenlaaGreatDoor.Pa
def H6 (n:Nat) (t:Xt):Xt:=if t.lev < n then .par t else t
def B24 (x:Tr.Ex) (A B:Xt):Xt :=
 if x.1=1 then .con x.2.2.2.2.1
 else if x.1=17 then .nam x.2.2.2.1
 else if x.1=4 then .una 4 (H6 3 A)
 else if x.1=5 then .una 5 (if A.bare=true then .par A else H6 7 A)
 else .bin x.1 (H6 (if lvl x.1=4 then 5 else lvl x.1) A) (H6 (lvl x.1+1) B)
def F5 (l:List Tr.Ex):Nat→Nat→Xt
 | 0,_=>.nam []
 | f+1,i=>B24 (l.getD i Tr.H1) (F5 l f (l.getD i Tr.H1).2.1.toNat) (F5 l f (l.getD i Tr.H1).2.2.1.toNat)
def coreT (x:Tr.Ex):Xt.D0o:=(x.1,x.2.1,x.2.2.1,x.2.2.2.1,x.2.2.2.2.1)
section
variable {n:Nat} {t:Xt}
theorem A8b:(H6 n t).dep=t.dep:=by unfold H6;split<;>rfl
theorem A6t {k:Nat}:(H6 n t).cores k=t.cores k:=by unfold H6;split<;>rfl
theorem A8a:(H6 n t).cnt=t.cnt:=by unfold H6;split<;>rfl
theorem B30 (h:t.Ok):(H6 n t).Ok:=by unfold H6;split<;>exact h
theorem A6u (h:t.Lexed):(H6 n t).Lexed:=by unfold H6;split<;>exact h
theorem B1n (h:n≤8):n≤(H6 n t).lev:=by
 unfold H6;split
 ·exact h
 ·omega
theorem B1o:(H6 n t).opn≤t.opn+1:=by
 unfold H6;split
 ·exact Nat.le_refl _
 ·omega
theorem D0n (h:t.bare=false):(H6 n t).bare=false:=by
 unfold H6;split
 ·rfl
 ·exact h
theorem A1p:(H6 n t).txt.length≤t.txt.length+2:=by
 unfold H6;split
 ·show (40::(t.txt++[41])).length≤_
  simp
 ·omega
end
theorem A0u {v:Tr.Vl} (h:Tr.N8 v=true) (hf:Nu.V7 v.2.1):Xt.C1y v∧v.2.2.1.length≤4096∧A5u v=Va.A9w v:=by
 have hr:Va.right v=true:=h
 have e:Va.A9w v=A5u v:=by
  unfold Va.A9w;rw [if_pos hr];rfl
 refine ⟨?_,?_,e.symm⟩
 ·unfold Tr.N8 at h
  unfold Nu.V7 at hf
  obtain ⟨k,n,s,t⟩:=v
  unfold Xt.C1y
  grind
 ·unfold Tr.N8 at h
  obtain ⟨k,n,s,t⟩:=v
  grind
theorem B7f {v:Tr.Vl} (h:Tr.N8 v=true) (hf:Nu.V7 v.2.1) {m:Nat} (hm:v.2.2.1.length≤m):(A5u v).length≤4 * m+30:=by
 unfold A5u
 split
 ·have:=Lib.itoa_length_le v.2.1 hf.1 hf.2
  omega
 ·split
  ·have:=Qu.B9k v.2.2.1
   omega
  ·split
   ·show 4≤_;omega
   ·show 5≤_;omega
theorem N7 {s:List UInt8} (h:Sc.C4 s=true):s≠[95]∧s.length≤32∧s.all (fun c=>Sc.J0 c.toNat)=true∧s≠[]∧D7 s=.ok (1,s):=by
 unfold Sc.C4 at h
 simp only [Bool.and_eq_true,Bool.not_eq_true',decide_eq_false_iff_not] at h
 obtain ⟨⟨h1,h2⟩,h3⟩:=h
 unfold Sc.spelt at h1
 simp only [Bool.and_eq_true,decide_eq_true_eq,Bool.not_eq_true'] at h1
 obtain ⟨⟨⟨h4,h5⟩,h6⟩,h7⟩:=h1
 refine ⟨h3,h5,h7,fun e=>by rw [e] at h4;exact absurd h4 (by decide),?_⟩
 unfold D7
 have hd:digB (A7 s 0)=false:=by
  unfold digB A4u
  rw [Bool.and_eq_false_iff] at h6 ⊢
  simp only [decide_eq_false_iff_not] at h6 ⊢
  omega
 rw [if_neg (by rw [hd];decide),if_neg (by omega),if_neg (by rw [h2];decide)]
abbrev ndN (l:List Tr.Ex) (i:Nat):Int × Int:=Tr.nd Sc.C4 l i
theorem A8p {l:List Tr.Ex} {i:Nat} (h:i < l.length):0≤(ndN l i).1∧(ndN l i).1≤i+1∧0≤(ndN l i).2∧(ndN l i).2≤i+1:=Tr.B5t Sc.C4 l h
theorem D64 {l:List Tr.Ex} {i:Nat} (hi:i < l.length) (hpos:0 < (ndN l i).1) :
  (∃ v ln cl,l.getD i Tr.H1=(1,0,0,[],v,ln,cl)∧Tr.N8 v=true∧ndN l i=(1,1)) ∨
  (∃ s ln cl,l.getD i Tr.H1=(17,0,0,s,Tr.R3,ln,cl)∧Sc.C4 s=true∧ndN l i=(1,1)) ∨
  (∃ op ln cl,(op=4∨op=5)∧l.getD i Tr.H1=(op,((i - 1:Nat):Int),0,[],Tr.R3,ln,cl)∧1≤i∧0 < (ndN l (i - 1)).1∧ndN l i=((ndN l (i - 1)).1+1,(ndN l (i - 1)).2+1)) ∨
  (∃ op,∃ j:Nat,∃ ln cl,(6≤op∧op≤16)∧l.getD i Tr.H1=(op,(j:Int),((i - 1:Nat):Int),[],Tr.R3,ln,cl)∧j < i∧0 < (ndN l (i - 1)).1∧0 < (ndN l j).1∧(j:Int)=(i:Int) - 1 - (ndN l (i - 1)).1∧ndN l i=((ndN l j).1+(ndN l (i - 1)).1+1,max (ndN l j).2 (ndN l (i - 1)).2+1)):=by
 obtain ⟨x,hx⟩:∃ x,l.getD i Tr.H1=x:=⟨_,rfl⟩
 obtain ⟨p,hp⟩:∃ p,ndN l (i - 1)=p:=⟨_,rfl⟩
 obtain ⟨a,ha⟩:∃ a:Int,a=(i:Int) - 1 - p.1:=⟨_,rfl⟩
 obtain ⟨q,hq⟩:∃ q,ndN l a.toNat=q:=⟨_,rfl⟩
 have hnode:=Tr.C3h (nm:=Sc.C4) hi hx hp ha hq
 have hpb:=A8p (l:=l) (i:=i - 1) (by omega)
 rw [hp] at hpb
 have hnode:ndN l i=_:=hnode
 rw [hnode] at hpos ⊢
 rw [hx,hp]
 obtain ⟨xo,xa,xb,xn,xv,xl,xc⟩:=x
 simp only at hpos ⊢
 by_cases h1:Tr.A5g Sc.C4 (xo,xa,xb,xn,xv,xl,xc)=true
 ·rw [if_pos h1]
  unfold Tr.A5g at h1
  simp only at h1
  split at h1
  ·cases h1
  ·rename_i h0
   have ha0:xa=0:=by omega
   have hb0:xb=0:=by omega
   split at h1
   ·rename_i h2
    rw [Bool.and_eq_true,decide_eq_true_eq] at h1
    exact .inl ⟨xv,xl,xc,by rw [h2,ha0,hb0,h1.1],h1.2,rfl⟩
   ·rw [Bool.and_eq_true,decide_eq_true_eq,Bool.and_eq_true,decide_eq_true_eq] at h1
    exact .inr (.inl ⟨xn,xl,xc,by rw [h1.1,ha0,hb0,h1.2.1],h1.2.2,rfl⟩)
 rw [if_neg h1] at hpos ⊢
 by_cases h2:xo < 4∨16 < xo∨xn≠[]∨xv≠Tr.R3∨i=0∨p.1=0
 ·rw [if_pos h2] at hpos;exact absurd hpos (by decide)
 rw [if_neg h2] at hpos ⊢
 have hnm:xn=[]:=Classical.byContradiction fun h=>h2 (.inr (.inr (.inl h)))
 have hvl:xv=Tr.R3:=Classical.byContradiction fun h=>h2 (.inr (.inr (.inr (.inl h))))
 have hi0:¬ i=0:=by omega
 by_cases h3:xo≤5
 ·rw [if_pos h3] at hpos ⊢
  by_cases h4:xa=(i:Int) - 1∧xb=0
  ·rw [if_pos h4]
   refine .inr (.inr (.inl ⟨xo,xl,xc,by omega,?_,by omega,by omega,rfl⟩))
   rw [hnm,hvl,h4.2,h4.1,show (i:Int) - 1=((i - 1:Nat):Int) by omega]
  ·rw [if_neg h4] at hpos;exact absurd hpos (by decide)
 ·rw [if_neg h3] at hpos ⊢
  by_cases h4:xb=(i:Int) - 1∧xa=a∧0≤a∧0 < q.1
  ·rw [if_pos h4]
   obtain ⟨h41,h42,h43,h44⟩:=h4
   refine .inr (.inr (.inr ⟨xo,a.toNat,xl,xc,by omega,?_,by omega,by omega,by rw [hq];exact h44,by omega,by rw [hq]⟩))
   rw [hnm,hvl,h41,h42,show (i:Int) - 1=((i - 1:Nat):Int) by omega,show ((a.toNat:Nat):Int)=a by omega]
  ·rw [if_neg h4] at hpos;exact absurd hpos (by decide)
theorem D56 {l:List Tr.Ex} {i:Nat} (hi:i < l.length) (h0:(ndN l i).1=0):(ndN l i).2=0:=by
 obtain ⟨x,hx⟩:∃ x,l.getD i Tr.H1=x:=⟨_,rfl⟩
 obtain ⟨p,hp⟩:∃ p,ndN l (i - 1)=p:=⟨_,rfl⟩
 obtain ⟨a,ha⟩:∃ a:Int,a=(i:Int) - 1 - p.1:=⟨_,rfl⟩
 obtain ⟨q,hq⟩:∃ q,ndN l a.toNat=q:=⟨_,rfl⟩
 have hnode:=Tr.C3h (nm:=Sc.C4) hi hx hp ha hq
 have hpb:=A8p (l:=l) (i:=i - 1) (by omega)
 rw [hp] at hpb
 have hnode:ndN l i=_:=hnode
 rw [hnode] at h0 ⊢
 split
 ·rename_i h;rw [if_pos h] at h0;cases h0
 ·rename_i h
  rw [if_neg h] at h0
  split
  ·rfl
  ·rename_i h
   rw [if_neg h] at h0
   split
   ·rename_i h
    rw [if_pos h] at h0
    split
    ·rename_i h;rw [if_pos h] at h0;simp only at h0;omega
    ·rfl
   ·rename_i h
    rw [if_neg h] at h0
    split
    ·rename_i h;rw [if_pos h] at h0;simp only at h0;omega
    ·rfl
section
variable {l:List Tr.Ex} {f i j k:Nat} {op a b:Int} {nm:List UInt8} {v:Tr.Vl} {ln cl:Int}
theorem B66 (h:l.getD i Tr.H1=(1,a,b,nm,v,ln,cl)):F5 l (f+1) i=.con v:=by
 show B24 (l.getD i Tr.H1) (F5 l f (l.getD i Tr.H1).2.1.toNat) (F5 l f (l.getD i Tr.H1).2.2.1.toNat)=_
 rw [h];rfl
theorem B67 (h:l.getD i Tr.H1=(17,a,b,nm,v,ln,cl)):F5 l (f+1) i=.nam nm:=by
 show B24 (l.getD i Tr.H1) (F5 l f (l.getD i Tr.H1).2.1.toNat) (F5 l f (l.getD i Tr.H1).2.2.1.toNat)=_
 rw [h];rfl
theorem B69 (h:l.getD i Tr.H1=(4,(j:Int),b,nm,v,ln,cl)):F5 l (f+1) i=.una 4 (H6 3 (F5 l f j)):=by
 show B24 (l.getD i Tr.H1) (F5 l f (l.getD i Tr.H1).2.1.toNat) (F5 l f (l.getD i Tr.H1).2.2.1.toNat)=_
 rw [h];rfl
theorem B68 (h:l.getD i Tr.H1=(5,(j:Int),b,nm,v,ln,cl)):F5 l (f+1) i=.una 5 (if (F5 l f j).bare=true then .par (F5 l f j) else H6 7 (F5 l f j)):=by
 show B24 (l.getD i Tr.H1) (F5 l f (l.getD i Tr.H1).2.1.toNat) (F5 l f (l.getD i Tr.H1).2.2.1.toNat)=_
 rw [h];rfl
theorem B65 (hop:6≤op∧op≤16) (h:l.getD i Tr.H1=(op,(j:Int),(k:Int),nm,v,ln,cl)):F5 l (f+1) i=.bin op (H6 (if lvl op=4 then 5 else lvl op) (F5 l f j)) (H6 (lvl op+1) (F5 l f k)):=by
 show B24 (l.getD i Tr.H1) (F5 l f (l.getD i Tr.H1).2.1.toNat) (F5 l f (l.getD i Tr.H1).2.2.1.toNat)=_
 rw [h]
 unfold B24
 simp only
 rw [if_neg (by omega),if_neg (by omega),if_neg (by omega),if_neg (by omega)];rfl
theorem D71 (t:Xt):t.lev < 9:=by
 have h:∀ o:Int,lvl o < 9:=by
  intro o
  unfold lvl
  repeat' split
  all_goals decide
 cases t with
 | una o _=>exact h o
 | bin o _ _=>exact h o
 | _=>show 8 < 9;decide
end
structure D7b (l:List Tr.Ex) (i:Nat) (t:Xt) (n d:Int) (m:Nat):Prop where
 ok:t.Ok
 lexed:t.Lexed
 op:(l.getD i Tr.H1).1=1∨(l.getD i Tr.H1).1=17∨(4≤(l.getD i Tr.H1).1∧(l.getD i Tr.H1).1≤16)
 lev:t.lev=lvl (l.getD i Tr.H1).1
 bare:t.bare=(decide ((l.getD i Tr.H1).1=1) && (decide ((l.getD i Tr.H1).2.2.2.2.1.1=1) && decide (0≤(l.getD i Tr.H1).2.2.2.2.1.2.1)))
 cores:t.cores (i+1 - n.toNat)=((l.drop (i+1 - n.toNat)).take n.toNat).map coreT
 cnt:(t.cnt:Int)=n
 fits:n≤i+1
 dep:(t.dep:Int)=d
 opn:t.opn+2≤2 * t.dep
 len:t.txt.length≤n.toNat * (4 * m+40)
theorem C4c {α:Type} {l:List α} {i:Nat} (d:α) (h:i < l.length):(l.drop i).take 1=[l.getD i d]:=by
 rw [List.drop_eq_getElem_cons h,List.take_succ_cons,List.take_zero,List.getD_eq_getElem?_getD,List.getElem?_eq_getElem h];rfl
theorem B2h (op:Int):(A4o op).length≤3:=by
 unfold A4o
 have:∀ x ∈ B9p,x.length≤3:=by decide
 rw [List.getD_eq_getElem?_getD]
 cases h:B9p[(op - 6).toNat]? with
 | none=>decide
 | some x=>exact this x (List.mem_of_getElem? h)
theorem D73 (op:Int) (h:6≤op∧op≤16):lvl op+1≤8∧(if lvl op=4 then 5 else lvl op)≤8:=by
 have:=B5v h
 split<;>omega
theorem fine (l:List Tr.Ex) (m:Nat) (hm:40≤m) (hf:∀ x ∈ l,Nu.V7 x.2.2.2.2.1.2.1∧x.2.2.2.2.1.2.2.1.length≤m):∀ (f i:Nat),i < f→i < l.length→0 < (ndN l i).1→D7b l i (F5 l f i) (ndN l i).1 (ndN l i).2 m
 | 0,i,h,_,_=>by omega
 | f+1,i,h,hi,hpos=>by
  have ih:=fun j (hj:j < i) (hp:0 < (ndN l j).1)=>fine l m hm hf f j (by omega) (by omega) hp
  have hmem:=hf _ (Tr.E4 Tr.H1 hi)
  have hone:((l.drop (i+1 - (1:Int).toNat)).take (1:Int).toNat).map coreT=[coreT (l.getD i Tr.H1)]:=by
   rw [show i+1 - (1:Int).toNat=i from rfl,show (1:Int).toNat=1 from rfl,C4c Tr.H1 hi];rfl
  have hcut:=C4c Tr.H1 hi
  rcases D64 hi hpos with ⟨v,ln,cl,hx,hv,hn⟩|⟨s,ln,cl,hx,hs,hn⟩|⟨op,ln,cl,hop,hx,h1,hp,hn⟩|⟨op,j,ln,cl,hop,hx,hj,hp,hq,hjp,hn⟩
  ·rw [hx] at hmem hone
   obtain ⟨h3,h4,_⟩:=A0u hv hmem.1
   rw [B66 hx,hn]
   refine ⟨h3,h4,by rw [hx];exact .inl rfl,by rw [hx];rfl,by rw [hx];rfl,by rw [hone];rfl,rfl,by show (1:Int)≤_;omega,rfl,by show 0+2≤2 * 1;decide,?_⟩
   have:=B7f hv hmem.1 hmem.2
   show (A5u v).length≤1 * _
   omega
  ·rw [hx] at hone
   obtain ⟨n1,n2,n3,n4,n5⟩:=N7 hs
   rw [B67 hx,hn]
   refine ⟨n1,⟨n3,n4,n5⟩,by rw [hx];exact .inr (.inl rfl),by rw [hx];rfl,by rw [hx];rfl,by rw [hone];rfl,rfl,by show (1:Int)≤_;omega,rfl,by show 0+2≤2 * 1;decide,?_⟩
   show s.length≤1 * _
   omega
  ·have hB:=ih (i - 1) (by omega) hp
   rw [hn]
   obtain ⟨p,hpp⟩:∃ p,ndN l (i - 1)=p:=⟨_,rfl⟩
   rw [hpp] at hB hp ⊢
   have hbf:=hB.fits
   have hbc:=hB.cnt
   have hdp:=hB.dep
   have ho:=hB.opn
   have hl:=hB.len
   have hlen:(p.1+1).toNat * (4 * m+40)=p.1.toNat * (4 * m+40)+(4 * m+40):=by
    rw [show (p.1+1).toNat=p.1.toNat+1 by omega,Nat.succ_mul]
   have hcores:∀ C:Xt,C.cores (i+1 - (p.1+1).toNat)=(F5 l f (i - 1)).cores (i+1 - (p.1+1).toNat)→C.cnt=(F5 l f (i - 1)).cnt→(Xt.una op C).cores (i+1 - (p.1+1).toNat)=((l.drop (i+1 - (p.1+1).toNat)).take (p.1+1).toNat).map coreT:=fun C hC hC2=>by
    show C.cores _++[(op,((i+1 - (p.1+1).toNat+C.cnt:Nat):Int) - 1,0,[],Xt.none)]=_
    have hb:=hB.cores
    rw [show i - 1+1 - p.1.toNat=i+1 - (p.1+1).toNat by omega] at hb
    rw [hC,hC2,hb,show (p.1+1).toNat=p.1.toNat+1 by omega,List.take_add,List.drop_drop,List.map_append,show i+1 - (p.1.toNat+1)+p.1.toNat=i by omega,hcut,hx]
    have e:((i+1 - (p.1.toNat+1)+(F5 l f (i - 1)).cnt:Nat):Int) - 1=((i - 1:Nat):Int):=by omega
    rw [e];rfl
   rcases hop with rfl|rfl
   ·rw [B69 hx]
    generalize F5 l f (i - 1)=A at *
    have w1:=B1o (n:=3) (t:=A)
    have w2:=A1p (n:=3) (t:=A)
    refine ⟨⟨.inl ⟨rfl,B1n (by decide)⟩,B30 hB.ok⟩,A6u hB.lexed,by rw [hx];exact .inr (.inr ⟨by simp,by simp⟩),by rw [hx];rfl,by rw [hx];rfl,hcores _ A6t A8a,?_,by show p.1+1≤_;omega,?_,?_,?_⟩
    ·show (((H6 3 A).cnt+1:Nat):Int)=_
     rw [A8a];omega
    ·show (((H6 3 A).dep+1:Nat):Int)=_
     rw [A8b];omega
    ·show (H6 3 A).opn+1+2≤2 * ((H6 3 A).dep+1)
     rw [A8b];omega
    ·show (110::111::116::32::(H6 3 A).txt).length≤_
     simp only [List.length_cons]
     omega
   ·rw [B68 hx]
    generalize F5 l f (i - 1)=A at *
    obtain ⟨C,hC,c1,c2,c3,c4,c5,c6,c7,c8,c9⟩:∃ C:Xt,(if A.bare=true then .par A else H6 7 A)=C∧7≤C.lev∧C.bare=false∧C.Ok∧C.Lexed∧(∀ k,C.cores k=A.cores k)∧C.dep=A.dep∧C.opn≤A.opn+1∧C.txt.length≤A.txt.length+2∧C.cnt=A.cnt:=by
     refine ⟨_,rfl,?_⟩
     by_cases hb:A.bare=true
     ·rw [if_pos hb]
      exact ⟨by show 7≤8;decide,rfl,hB.ok,hB.lexed,fun _=>rfl,rfl,Nat.le_refl _,by show (40::(A.txt++[41])).length≤_;simp,rfl⟩
     ·rw [if_neg hb]
      exact ⟨B1n (by decide),D0n (by simpa using hb),B30 hB.ok,A6u hB.lexed,fun _=>A6t,A8b,B1o,A1p,A8a⟩
    rw [hC]
    refine ⟨⟨.inr ⟨rfl,c1,c2⟩,c3⟩,c4,by rw [hx];exact .inr (.inr ⟨by simp,by simp⟩),by rw [hx];rfl,by rw [hx];rfl,hcores _ (c5 _) c9,?_,by show p.1+1≤_;omega,?_,?_,?_⟩
    ·show ((C.cnt+1:Nat):Int)=_
     rw [c9];omega
    ·show ((C.dep+1:Nat):Int)=_
     rw [c6];omega
    ·show C.opn+1+2≤2 * (C.dep+1)
     omega
    ·show (45::C.txt).length≤_
     simp only [List.length_cons]
     omega
  ·have hB:=ih (i - 1) (by omega) hp
   have hA:=ih j hj hq
   rw [hn]
   obtain ⟨p,hpp⟩:∃ p,ndN l (i - 1)=p:=⟨_,rfl⟩
   obtain ⟨q,hqq⟩:∃ q,ndN l j=q:=⟨_,rfl⟩
   rw [hpp] at hB hp hjp ⊢
   rw [hqq] at hA hq ⊢
   rw [B65 hop hx]
   generalize F5 l f (i - 1)=B at *
   generalize F5 l f j=A at *
   obtain ⟨l1,l2⟩:=D73 op hop
   have hl:=hB.len
   have ho:=hB.opn
   have hd:=hB.dep
   have hc:=hB.cnt
   have hfi:=hB.fits
   have kl:=hA.len
   have ko:=hA.opn
   have kd:=hA.dep
   have kc:=hA.cnt
   have kfi:=hA.fits
   have s3:=B2h op
   have hlen:(q.1+p.1+1).toNat * (4 * m+40)=q.1.toNat * (4 * m+40)+(p.1.toNat * (4 * m+40)+(4 * m+40)):=by
    rw [show (q.1+p.1+1).toNat=q.1.toNat+(p.1.toNat+1) by omega]
    generalize 4 * m+40=K
    rw [Nat.add_mul,Nat.add_mul,Nat.one_mul]
   have w1:=B1o (n:=(if lvl op=4 then 5 else lvl op)) (t:=A)
   have w2:=A1p (n:=(if lvl op=4 then 5 else lvl op)) (t:=A)
   have w3:=B1o (n:=lvl op+1) (t:=B)
   have w4:=A1p (n:=lvl op+1) (t:=B)
   have w5:=A8b (n:=(if lvl op=4 then 5 else lvl op)) (t:=A)
   have w6:=A8b (n:=lvl op+1) (t:=B)
   have w7:=fun k=>A6t (n:=(if lvl op=4 then 5 else lvl op)) (t:=A) (k:=k)
   have w8:=fun k=>A6t (n:=lvl op+1) (t:=B) (k:=k)
   have w9:=B1n (t:=A) l2
   have w10:=B1n (t:=B) l1
   have w11:=B30 (n:=(if lvl op=4 then 5 else lvl op)) hA.ok
   have w12:=B30 (n:=lvl op+1) hB.ok
   have w13:=A6u (n:=(if lvl op=4 then 5 else lvl op)) hA.lexed
   have w14:=A6u (n:=lvl op+1) hB.lexed
   have w15:=A8a (n:=(if lvl op=4 then 5 else lvl op)) (t:=A)
   have w16:=A8a (n:=lvl op+1) (t:=B)
   generalize H6 (if lvl op=4 then 5 else lvl op) A=A' at *
   generalize H6 (lvl op+1) B=B' at *
   refine ⟨⟨hop.1,hop.2,w9,w10,w11,w12⟩,⟨w13,w14⟩,by rw [hx];exact .inr (.inr ⟨by simp only;omega,hop.2⟩),by rw [hx];rfl,by rw [hx,decide_eq_false (by simp only;omega)];rfl,?_,?_,by show q.1+p.1+1≤_;omega,?_,?_,?_⟩
   ·show A'.cores _++(B'.cores (i+1 - (q.1+p.1+1).toNat+A'.cnt)++[(op,((i+1 - (q.1+p.1+1).toNat+A'.cnt:Nat):Int) - 1,((i+1 - (q.1+p.1+1).toNat+A'.cnt+B'.cnt:Nat):Int) - 1,[],Xt.none)])=_
    have hbc:=hB.cores
    have hac:=hA.cores
    have e0:i+1 - (q.1+p.1+1).toNat=j+1 - q.1.toNat:=by omega
    have e1:j+1 - q.1.toNat+A'.cnt=j+1:=by omega
    have e2:j+1+B'.cnt=i:=by omega
    have e3:i - 1+1 - p.1.toNat=j+1:=by omega
    rw [e3] at hbc
    rw [e0,e1,e2,w7,w8,hac,hbc,show (q.1+p.1+1).toNat=q.1.toNat+(p.1.toNat+1) by omega,List.take_add,List.drop_drop,List.take_add,List.drop_drop,List.map_append,List.map_append,show j+1 - q.1.toNat+q.1.toNat=j+1 by omega,show j+1+p.1.toNat=i by omega,hcut,hx]
    have e4:((j+1:Nat):Int) - 1=(j:Int):=by omega
    have e5:(i:Int) - 1=((i - 1:Nat):Int):=by omega
    rw [e4,e5];rfl
   ·show ((A'.cnt+B'.cnt+1:Nat):Int)=_
    omega
   ·show (((if B'.dep > A'.dep then B'.dep else A'.dep)+1:Nat):Int)=_
    split<;>omega
   ·show (if B'.opn > A'.opn then B'.opn else A'.opn)+2≤2 * ((if B'.dep > A'.dep then B'.dep else A'.dep)+1)
    split<;>split<;>omega
   ·show (A'.txt++32::(A4o op++32::B'.txt)).length≤_
    simp only [List.length_append,List.length_cons]
    omega
structure P8 (l:List Tr.Ex) (m:Nat):Prop where
 lo:40≤m
 hi:m≤5000
 len:l.length≤1000000
 val:∀ x ∈ l,Nu.V7 x.2.2.2.2.1.2.1∧x.2.2.2.2.1.2.2.1.length≤m
theorem P8.fine {l:List Tr.Ex} {m f i:Nat} (h:P8 l m) (hf:i < f) (hi:i < l.length) (hp:0 < (ndN l i).1):D7b l i (F5 l f i) (ndN l i).1 (ndN l i).2 m:=Pr.fine l m h.lo h.val f i hf hi hp
theorem P8.short {l:List Tr.Ex} {m f i:Nat} (h:P8 l m) (hf:i < f) (hi:i < l.length) (hp:0 < (ndN l i).1):(F5 l f i).txt.length≤900000000000:=by
 have h1:=(h.fine hf hi hp).len
 have h2:=A8p hi
 have h3:=h.len
 have h4:=h.hi
 have:(ndN l i).1.toNat * (4 * m+40)≤1000001 * 20040:=Nat.mul_le_mul (by omega) (by omega)
 omega
theorem P8.wrap {l:List Tr.Ex} {m f i n:Nat} (h:P8 l m) (hf:i < f) (hi:i < l.length) (hp:0 < (ndN l i).1):(H6 n (F5 l f i)).txt.length≤1000000000000:=by
 have h1:=h.short hf hi hp
 have h2:=A1p (n:=n) (t:=F5 l f i)
 omega
abbrev Tkn:=Int × List UInt8
def K9:List (List UInt8)→List UInt8
 | []=>[]
 | [x]=>x
 | x::y::r=>x++44::32::K9 (y::r)
def P5:List (List Tkn)→List Tkn
 | []=>[]
 | [x]=>x
 | x::y::r=>x++(5,[44])::P5 (y::r)
theorem A8n:∀ l:List (List UInt8),Lib.join l [44,32]=K9 l
 | []=>rfl
 | [x]=>Lib.join_one x _
 | x::y::r=>by
  have ih:=A8n (y::r)
  rw [Lib.join_cons] at ih ⊢
  show x++((([44,32]:List UInt8)++y)++Lib.joinTail [44,32] r)=x++44::32::K9 (y::r)
  rw [← ih];simp
def Q0 (k:Int):List UInt8:=if k=1 then [105,110,116] else if k=2 then [115,116,114,105,110,103] else [98,111,111,108]
def A23 (a:Tr.Ar):List UInt8:=if a.1=1 then A5u a.2.2.1 else if a.1=2 then a.2.1 else [95]
def A43 (a:Tr.Ar):List Tkn:=if a.1=1 then A0w a.2.2.1 else if a.1=2 then [(1,a.2.1)] else [(1,[95])]
def T6 (s:Tr.Sy):List UInt8:=s.1++40::(K9 (s.2.1.map A23)++[41])
def A15 (s:Tr.Sy):List Tkn:=(1,s.1)::(5,[40])::(P5 (s.2.1.map A43)++[(5,[41])])
def A07 (d:Tr.De):List UInt8:=A17++32::(d.1.1++40::(K9 (d.2.map Q0)++[41]))
def B0b (d:Tr.De):List Tkn:=(2,A17)::(1,d.1.1)::(5,[40])::(P5 (d.2.map fun k=>[(2,Q0 k)])++[(5,[41])])
def X8 (q:Tr.Qu):List UInt8:=(if q.1=true then wForall else R6)++32::(q.2.1.1++58::32::Q0 q.2.2)
def A6m (q:Tr.Qu):List Tkn:=[(2,if q.1=true then wForall else R6),(1,q.2.1.1),(5,[58]),(2,Q0 q.2.2)]
def A2g (f:Tr.Fr):List UInt8:=A21++32::(f.1.1++32::61::32::A5u f.2)
def B0j (f:Tr.Fr):List Tkn:=(2,A21)::(1,f.1.1)::(5,[61])::A0w f.2
def Y2 (s:Tr.St):List UInt8:=(if s.2.1=true then wNext else A1x)++32::(s.1.1++if s.2.2=true then 32::K7 else [])
def A6q (s:Tr.St):List Tkn:=(2,if s.2.1=true then wNext else A1x)::(1,s.1.1)::if s.2.2=true then [(2,K7)] else []
def gx (l:List Tr.Ex) (i:Int):Xt:=F5 l (i.toNat+1) i.toNat
def U7 (l:List Tr.Ex) (s:Tr.Se):List UInt8:=s.1.1++32::61::32::(gx l s.2).txt
def A82 (l:List Tr.Ex) (s:Tr.Se):List Tkn:=(1,s.1.1)::(5,[61])::(gx l s.2).toks
def wOn:List UInt8:=[111,110]
def wIf:List UInt8:=[105,102]
def wDo:List UInt8:=[100,111]
def wTo:List UInt8:=[116,111]
def toS (t:Tr.Tn):List UInt8:=32::(wTo++32::t.2.1.1)
def toT (t:Tr.Tn):List Tkn:=[(2,wTo),(1,t.2.1.1)]
def doS (t:Tr.Tn):List UInt8:=if t.2.2.2.2.2=[] then toS t else 32::(wDo++32::(K9 (t.2.2.2.2.2.map (U7 t.2.2.2.1))++toS t))
def doT (t:Tr.Tn):List Tkn:=if t.2.2.2.2.2=[] then toT t else (2,wDo)::(P5 (t.2.2.2.2.2.map (A82 t.2.2.2.1))++toT t)
def ifS (t:Tr.Tn):List UInt8:=if 0≤t.2.2.2.2.1 then 32::(wIf++32::((gx t.2.2.2.1 t.2.2.2.2.1).txt++doS t)) else doS t
def ifT (t:Tr.Tn):List Tkn:=if 0≤t.2.2.2.2.1 then (2,wIf)::((gx t.2.2.2.1 t.2.2.2.2.1).toks++doT t) else doT t
def E7 (t:Tr.Tn):List UInt8:=t.1.1++32::(wOn++32::(T6 t.2.2.1++ifS t))
def A0a (t:Tr.Tn):List Tkn:=(1,t.1.1)::(2,wOn)::(A15 t.2.2.1++ifT t)
def A0d (s:List UInt8):List UInt8:=s++[10]
section
variable {α:Type}
def E2 (S:α→List UInt8) (l:List α):List UInt8:=l.flatMap fun x=>A0d (S x)
def K4 (T:α→List Tkn) (l:List α):List Tkn:=l.flatMap T
end
def M3 (x:Tr.Tr0):List UInt8 :=
 A0d (B1k++32::x.1.1)++(E2 (fun d:Nat × Tr.De=>A07 d.2) x.2.1++(E2 X8 x.2.2.1++(E2 A2g x.2.2.2.1++(E2 Y2 x.2.2.2.2.1++(A0d (Y5++32::x.2.2.2.2.2.1.1)++(E2 (fun s:Nat × Tr.Sy=>P0++32::T6 s.2) x.2.2.2.2.2.2.1++E2 (fun t:(Nat × Nat × Nat) × Tr.Tn=>E7 t.2) x.2.2.2.2.2.2.2))))))
def C73 (x:Tr.Tr0):List Tkn :=
 (2,B1k)::(1,x.1.1)::(K4 (fun d:Nat × Tr.De=>B0b d.2) x.2.1++(K4 A6m x.2.2.1++(K4 B0j x.2.2.2.1++(K4 A6q x.2.2.2.2.1++(2,Y5)::(1,x.2.2.2.2.2.1.1)::(K4 (fun s:Nat × Tr.Sy=>(2,P0)::A15 s.2) x.2.2.2.2.2.2.1++K4 (fun t:(Nat × Nat × Nat) × Tr.Tn=>A0a t.2) x.2.2.2.2.2.2.2)))))
def C4o (a:Tr.Ar):Prop:=(a.1=1∧a.2.1=[]∧Tr.N8 a.2.2.1=true∧Nu.V7 a.2.2.1.2.1)∨(a.1=2∧Sc.C4 a.2.1=true∧a.2.2.1=Tr.R3)∨(a.1=3∧a.2.1=[]∧a.2.2.1=Tr.R3)
def B95 (s:Tr.Sy):Prop:=Sc.C4 s.1=true∧∀ a ∈ s.2.1,C4o a
def B93 (k:Int):Prop:=1≤k∧k≤3
def D4o (d:Tr.De):Prop:=Sc.C4 d.1.1=true∧∀ k ∈ d.2,B93 k
def D4q (q:Tr.Qu):Prop:=Sc.C4 q.2.1.1=true∧B93 q.2.2
def D4p (f:Tr.Fr):Prop:=Sc.C4 f.1.1=true∧Tr.N8 f.2=true∧Nu.V7 f.2.2.1
def D4r (s:Tr.St):Prop:=Sc.C4 s.1.1=true
def Whole (l:List Tr.Ex) (lo:Nat) (i:Int):Prop:=(lo:Int)≤i∧i < l.length∧(ndN l i.toNat).1=i - lo+1∧(ndN l i.toNat).2≤64
def A3p (l:List Tr.Ex):Nat→List Tr.Se→Prop
 | lo,[]=>lo=l.length
 | lo,s::r=>Sc.C4 s.1.1=true∧Whole l lo s.2∧A3p l (s.2+1).toNat r
def C76 (t:Tr.Tn):Prop:=Sc.C4 t.1.1=true∧Sc.C4 t.2.1.1=true∧B95 t.2.2.1∧(∃ m,P8 t.2.2.2.1 m) ∧
 ((t.2.2.2.2.1 = -1∧A3p t.2.2.2.1 0 t.2.2.2.2.2)∨(Whole t.2.2.2.1 0 t.2.2.2.2.1∧A3p t.2.2.2.1 (t.2.2.2.2.1+1).toNat t.2.2.2.2.2))
structure D0u (x:Tr.Tr0):Prop where
 name:Sc.C4 x.1.1=true
 decls:∀ d ∈ x.2.1,D4o d.2
 quants:∀ q ∈ x.2.2.1,D4q q
 frees:∀ f ∈ x.2.2.2.1,D4p f
 states:∀ s ∈ x.2.2.2.2.1,D4r s
 start:Sc.C4 x.2.2.2.2.2.1.1=true
 also:∀ s ∈ x.2.2.2.2.2.2.1,B95 s.2
 trans:∀ t ∈ x.2.2.2.2.2.2.2,C76 t.2
section
variable {r:List UInt8} {R:List Tkn}
theorem H3 {c:UInt8} (h:Sc.J0 c.toNat=false):G6 (c::r)=0:=by rw [G6,if_neg (by rw [h];decide)]
theorem X6 {s:List UInt8} (hs:Sc.C4 s=true) (hr:G6 r=0) (h:C5 r R):C5 (s++r) ((1,s)::R):=by
 obtain ⟨_,_,n3,n4,n5⟩:=N7 hs
 exact D6 n3 n4 n5 hr h
theorem D6l:J5 (44::r)=[44]:=by
 unfold J5 signsL
 simp [A1j,B53,B00]
theorem D6m:J5 (58::r)=[58]:=by
 unfold J5 signsL
 simp [A1j,B53,B00]
theorem D2d (h:C5 r R):C5 (61::32::r) ((5,[61])::R):=by
 refine S8 (by decide) (by decide) (by decide) (by decide) ?_ (C8 h)
 unfold J5 signsL
 simp [A1j,pfx]
theorem C9g (h:C5 r R):C5 (44::32::r) ((5,[44])::R):=S8 (by decide) (by decide) (by decide) (by decide) D6l (C8 h)
theorem C9f (h:C5 r R):C5 (58::32::r) ((5,[58])::R):=S8 (by decide) (by decide) (by decide) (by decide) D6m (C8 h)
theorem C3a (h:C5 r R):C5 (40::r) ((5,[40])::R):=S8 (by decide) (by decide) (by decide) (by decide) C7x h
theorem C3b (h:C5 r R):C5 (41::r) ((5,[41])::R):=S8 (by decide) (by decide) (by decide) (by decide) C7y h
theorem B0r {α:Type} {S:α→List UInt8} {T:α→List Tkn}:∀ (l:List α),(∀ x ∈ l,∀ r R,G6 r=0→C5 r R→C5 (S x++r) (T x++R))→∀ (r:List UInt8) (R:List Tkn),G6 r=0→C5 r R→C5 (K9 (l.map S)++r) (P5 (l.map T)++R)
 | [],_,r,R,_,h=>h
 | [x],hx,r,R,hr,h=>hx x (List.mem_cons_self) r R hr h
 | x::y::l,hx,r,R,hr,h=>by
  have ih:=B0r (y::l) (fun z hz=>hx z (List.mem_cons_of_mem _ hz)) r R hr h
  have:=hx x List.mem_cons_self (44::32::(K9 ((y::l).map S)++r)) _ (H3 (by decide)) (C9g ih)
  show C5 ((S x++44::32::K9 ((y::l).map S))++r) ((T x++(5,[44])::P5 ((y::l).map T))++R)
  rw [List.append_assoc,List.append_assoc]
  exact this
theorem C29 {k:Int} (_:B93 k) (hr:G6 r=0) (h:C5 r R):C5 (Q0 k++r) ((2,Q0 k)::R):=by
 unfold Q0
 split
 ·exact D6 (by decide) (by decide) (by kernel_rfl) hr h
 ·split
  ·exact D6 (by decide) (by decide) (by kernel_rfl) hr h
  ·exact D6 (by decide) (by decide) (by kernel_rfl) hr h
theorem C7b {v:Tr.Vl} (hv:Tr.N8 v=true) (hf:Nu.V7 v.2.1) (hr:G6 r=0) (h:C5 r R):C5 (A5u v++r) (A0w v++R):=by
 obtain ⟨h1,h2,_⟩:=A0u hv hf
 exact B9b h1 h2 hr h
theorem D50 {a:Tr.Ar} (ha:C4o a) (hr:G6 r=0) (h:C5 r R):C5 (A23 a++r) (A43 a++R):=by
 unfold A23 A43
 rcases ha with ⟨h1,_,h2,h3⟩|⟨h1,h2,_⟩|⟨h1,_⟩
 ·rw [if_pos h1,if_pos h1];exact C7b h2 h3 hr h
 ·rw [if_neg (by rw [h1];decide),if_pos h1,if_neg (by rw [h1];decide),if_pos h1];exact X6 h2 hr h
 ·rw [if_neg (by rw [h1];decide),if_neg (by rw [h1];decide),if_neg (by rw [h1];decide),if_neg (by rw [h1];decide)]
  exact D6 (w:=[95]) (by decide) (by decide) (by kernel_rfl) hr h
theorem C7a {s:Tr.Sy} (hs:B95 s) (h:C5 r R):C5 (T6 s++r) (A15 s++R):=by
 have h1:=B0r (S:=A23) (T:=A43) s.2.1 (fun a ha r R hr h=>D50 (hs.2 a ha) hr h) (41::r) _ (H3 (by decide)) (C3b h)
 have h2:=X6 hs.1 (H3 (by decide)) (C3a h1)
 unfold T6 A15
 simp only [List.append_assoc,List.cons_append,List.nil_append]
 exact h2
theorem D2c {d:Tr.De} (hd:D4o d) (h:C5 r R):C5 (A07 d++r) (B0b d++R):=by
 have h1:=B0r (S:=Q0) (T:=fun k=>[(2,Q0 k)]) d.2 (fun k hk r R hr h=>C29 (hd.2 k hk) hr h) (41::r) _ (H3 (by decide)) (C3b h)
 have h2:=C8 (X6 hd.1 (H3 (by decide)) (C3a h1))
 have h3:=D6 (w:=A17) (by decide) (by decide) (k:=2) (by kernel_rfl) (H3 (by decide)) h2
 unfold A07 B0b
 simp only [List.append_assoc,List.cons_append,List.nil_append]
 exact h3
theorem C9h {q:Tr.Qu} (hq:D4q q) (hr:G6 r=0) (h:C5 r R):C5 (X8 q++r) (A6m q++R):=by
 have h2:=C8 (X6 hq.1 (H3 (by decide)) (C9f (C29 hq.2 hr h)))
 unfold X8 A6m
 simp only [List.append_assoc,List.cons_append,List.nil_append]
 split
 ·exact D6 (w:=wForall) (by decide) (by decide) (k:=2) (by kernel_rfl) (H3 (by decide)) h2
 ·exact D6 (w:=R6) (by decide) (by decide) (k:=2) (by kernel_rfl) (H3 (by decide)) h2
theorem D2e {f:Tr.Fr} (hf:D4p f) (hr:G6 r=0) (h:C5 r R):C5 (A2g f++r) (B0j f++R):=by
 have h2:=C8 (X6 hf.1 (H3 (by decide)) (C8 (D2d (C7b hf.2.1 hf.2.2 hr h))))
 have h3:=D6 (w:=A21) (by decide) (by decide) (k:=2) (by kernel_rfl) (H3 (by decide)) h2
 unfold A2g B0j
 simp only [List.append_assoc,List.cons_append,List.nil_append]
 exact h3
theorem C9i {s:Tr.St} (hs:D4r s) (hr:G6 r=0) (h:C5 r R):C5 (Y2 s++r) (A6q s++R):=by
 have h1:C5 ((if s.2.2=true then 32::K7 else [])++r) ((if s.2.2=true then [((2:Int),K7)] else [])++R)∧G6 ((if s.2.2=true then 32::K7 else [])++r)=0:=by
  split
  ·exact ⟨C8 (D6 (w:=K7) (by decide) (by decide) (k:=2) (by kernel_rfl) hr h),H3 (by decide)⟩
  ·exact ⟨h,hr⟩
 have h2:=C8 (X6 hs h1.2 h1.1)
 unfold Y2 A6q
 simp only [List.append_assoc,List.cons_append,List.nil_append]
 split
 ·exact D6 (w:=wNext) (by decide) (by decide) (k:=2) (by kernel_rfl) (H3 (by decide)) h2
 ·exact D6 (w:=A1x) (by decide) (by decide) (k:=2) (by kernel_rfl) (H3 (by decide)) h2
theorem A6s {l:List Tr.Ex} {m lo:Nat} {i:Int} (hl:P8 l m) (h:Whole l lo i):D7b l i.toNat (gx l i) (ndN l i.toNat).1 (ndN l i.toNat).2 m:=by
 obtain ⟨h1,h2,h3,_⟩:=h
 exact hl.fine (by omega) (by omega) (by omega)
theorem D51 {l:List Tr.Ex} {m lo:Nat} {s:Tr.Se} (hl:P8 l m) (hn:Sc.C4 s.1.1=true) (hw:Whole l lo s.2) (hr:G6 r=0) (h:C5 r R):C5 (U7 l s++r) (A82 l s++R):=by
 have hF:=A6s hl hw
 have h2:=X6 hn (H3 (by decide)) (C8 (D2d (A3i _ hF.ok hF.lexed r R hr h)))
 unfold U7 A82
 simp only [List.append_assoc,List.cons_append,List.nil_append]
 exact h2
theorem A5p {l:List Tr.Ex}:∀ {lo:Nat} {ss:List Tr.Se},A3p l lo ss→∀ s ∈ ss,Sc.C4 s.1.1=true∧∃ lo,Whole l lo s.2
 | lo,s::ss,h,x,hx=>by
  rcases List.mem_cons.1 hx with rfl|hx
  ·exact ⟨h.1,lo,h.2.1⟩
  ·exact A5p h.2.2 x hx
theorem C9j {t:Tr.Tn} (ht:C76 t) (hr:G6 r=0) (h:C5 r R):C5 (E7 t++r) (A0a t++R):=by
 obtain ⟨h1,h2,h3,⟨m,hl⟩,h5⟩:=ht
 have hto:C5 (toS t++r) (toT t++R):=by
  have:=C8 (D6 (w:=wTo) (by decide) (by decide) (k:=2) (by kernel_rfl) (H3 (by decide)) (C8 (X6 h2 hr h)))
  unfold toS toT
  simp only [List.append_assoc,List.cons_append,List.nil_append]
  exact this
 have hsets:∃ lo,A3p t.2.2.2.1 lo t.2.2.2.2.2:=h5.elim (fun h=>⟨_,h.2⟩) (fun h=>⟨_,h.2⟩)
 obtain ⟨lo,hsets⟩:=hsets
 have hdo:C5 (doS t++r) (doT t++R)∧G6 (doS t++r)=0:=by
  unfold doS doT
  split
  ·exact ⟨hto,H3 (by decide)⟩
  ·have hj:=B0r (S:=U7 t.2.2.2.1) (T:=A82 t.2.2.2.1) t.2.2.2.2.2 (fun s hs r R hr h=>(A5p hsets s hs).2.elim fun _ hw=>D51 hl (A5p hsets s hs).1 hw hr h) (toS t++r) _ (H3 (by decide)) hto
   have:=C8 (D6 (w:=wDo) (by decide) (by decide) (k:=2) (by kernel_rfl) (H3 (by decide)) (C8 hj))
   simp only [List.append_assoc,List.cons_append,List.nil_append]
   exact ⟨this,H3 (by decide)⟩
 have hif:C5 (ifS t++r) (ifT t++R):=by
  unfold ifS ifT
  split
  ·rename_i hg
   have hF:Whole t.2.2.2.1 0 t.2.2.2.2.1:=by
    rcases h5 with h|h
    ·omega
    ·exact h.1
   have hF:=A6s hl hF
   have:=C8 (D6 (w:=wIf) (by decide) (by decide) (k:=2) (by kernel_rfl) (H3 (by decide)) (C8 (A3i _ hF.ok hF.lexed _ _ hdo.2 hdo.1)))
   simp only [List.append_assoc,List.cons_append,List.nil_append]
   exact this
  ·exact hdo.1
 have:=X6 h1 (H3 (by decide)) (C8 (D6 (w:=wOn) (by decide) (by decide) (k:=2) (by kernel_rfl) (H3 (by decide)) (C8 (C7a h3 hif))))
 unfold E7 A0a
 simp only [List.append_assoc,List.cons_append,List.nil_append]
 exact this
theorem A12 {α:Type} {S:α→List UInt8} {T:α→List Tkn}:∀ (l:List α),(∀ x ∈ l,∀ r R,G6 r=0→C5 r R→C5 (S x++r) (T x++R))→∀ (r:List UInt8) (R:List Tkn),C5 r R→C5 (E2 S l++r) (K4 T l++R)
 | [],_,r,R,h=>h
 | x::l,hx,r,R,h=>by
  have ih:=A12 l (fun z hz=>hx z (List.mem_cons_of_mem _ hz)) r R h
  have:=hx x List.mem_cons_self (10::(E2 S l++r)) _ (H3 (by decide)) (A9n ih)
  show C5 ((A0d (S x)++E2 S l)++r) ((T x++K4 T l)++R)
  unfold A0d
  simp only [List.append_assoc,List.cons_append,List.nil_append]
  exact this
end
theorem D2f {x:Tr.Tr0} (h:D0u x):C5 (M3 x) (C73 x):=by
 have e1:=A12 (S:=fun t:(Nat × Nat × Nat) × Tr.Tn=>E7 t.2) (T:=fun t=>A0a t.2) x.2.2.2.2.2.2.2 (fun t ht r R hr hh=>C9j (h.trans t ht) hr hh) [] [] B88
 have e2:=A12 (S:=fun s:Nat × Tr.Sy=>P0++32::T6 s.2) (T:=fun s=>(2,P0)::A15 s.2) x.2.2.2.2.2.2.1 (fun s hs r R hr hh=>by
  have:=D6 (w:=P0) (by decide) (by decide) (k:=2) (by kernel_rfl) (H3 (by decide)) (C8 (C7a (h.also s hs) hh))
  simp only [List.append_assoc,List.cons_append,List.nil_append]
  exact this) _ _ e1
 have e3:=D6 (w:=Y5) (by decide) (by decide) (k:=2) (by kernel_rfl) (H3 (by decide)) (C8 (X6 h.start (H3 (c:=10) (by decide)) (A9n e2)))
 have e4:=A12 (S:=Y2) (T:=A6q) x.2.2.2.2.1 (fun s hs r R hr hh=>C9i (h.states s hs) hr hh) _ _ e3
 have e5:=A12 (S:=A2g) (T:=B0j) x.2.2.2.1 (fun s hs r R hr hh=>D2e (h.frees s hs) hr hh) _ _ e4
 have e6:=A12 (S:=X8) (T:=A6m) x.2.2.1 (fun s hs r R hr hh=>C9h (h.quants s hs) hr hh) _ _ e5
 have e7:=A12 (S:=fun d:Nat × Tr.De=>A07 d.2) (T:=fun d=>B0b d.2) x.2.1 (fun s hs r R hr hh=>D2c (h.decls s hs) hh) _ _ e6
 have e8:=D6 (w:=B1k) (by decide) (by decide) (k:=2) (by kernel_rfl) (H3 (by decide)) (C8 (X6 h.name (H3 (c:=10) (by decide)) (A9n e7)))
 unfold M3 C73 A0d
 simp only [List.append_assoc,List.cons_append,List.nil_append,List.append_nil] at e8 ⊢
 exact e8
end Go.Proofs.YticnkpgmmpenlaaGreatDoor.Pr
