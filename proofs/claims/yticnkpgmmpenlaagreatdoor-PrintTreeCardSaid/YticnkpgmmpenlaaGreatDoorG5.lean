/- Part 5 of what the closing text needs: PqC, PqD, PqE, PqF, PqG, PqH, PqI, PqK, PqJ, PqL, PaR, PaDa, PaOa, PaDc, Pr0, PrA, PrB, NuV, PrC, PrD, PrE, PrF, PrG, TrI, TrJ, TrK, TrL, TrM, VaA, VaB, VaF, VaI, NuW, VaJ. No condition of mine beyond those that the theorems name. -/
import Derived.Test.YticnkpgmmpenlaaGreatDoorAb28
import Derived.Lib.ItoaMem
import Derived.Test.YticnkpgmmpenlaaGreatDoorChecked
import Derived.Lib.ItoaLen
set_option maxRecDepth 10000
set_option maxHeartbeats 60000000
set_option linter.all false
namespace Go.Proofs.YticnkpgmmpenlaaGreatDoor.Pa
open Go Go.Ab Go.RowKit Go.Proofs.YticnkpgmmpenlaaGreatDoor.Lx
variable {Γ:Nat→AV}
attribute [local irreducible] B7 Sto.set Sto.grow
section
variable {s0 s:Sto} {bp bl:Nat} {L:List Tok} {a:Nat} {o:List Ex} {d:List Int} {k:Int}
theorem D31 (hP:Pst s0 s bp bl L a o d k) (hL:L.length≤100000) (ha:a≤80000) (nx:Bool) :
  A6 Tryz.prog Γ 181 [.ptr (some ⟨bp,0,none⟩),.bool nx] s (M2 s0 bp bl L o d k (fun x=>.agg (Tr.stA x)) (A05 L nx a)):=by
 refine acs Tryz.func181 ?_
 conv=>whnf
 intro b4 hb4
 conv=>whnf
 obtain ⟨m1,m2⟩:=hP.nb hb4
 have c4:s0.bx b4=none:=hP.sub.none hb4
 have hP4:=hP.box hb4 84 [.str [],.int .i64 0,.int .i64 0,.bool false,.bool false]
 have hb4':(s.set b4 84 [.str [],.int .i64 0,.int .i64 0,.bool false,.bool false]).bx b4=some (84,[.str [],.int .i64 0,.int .i64 0,.bool false,.bool false]):=A7
 generalize s.set b4 84 [.str [],.int .i64 0,.int .i64 0,.bool false,.bool false]=sa at *
 have hn:=A1j (Γ:=Γ) (hP4.keep hb4' m1 m2) hL (by omega)
 refine wp ?_
 refine A6.by hn ?_
 intro v s5 hv5
 unfold M2 at hv5
 rcases hnf:H9 L a with x|⟨x,a1⟩
 ·rw [hnf] at hv5
  obtain ⟨y,e,a',rfl,⟨kd,tx,rfl⟩,hP5⟩:=hv5
  refine wp ?_
  intro b6 hb6
  obtain ⟨m5,m6⟩:=hP5.nb hb6
  have c6:=hP5.sub.none hb6
  have hP6:=(hP5.box hb6 23 [.str [],.int .i64 0,.int .i64 0]).put c6 m5 m6 23 (Tr.V7 y)
  have hb6':((s5.set b6 23 [.str [],.int .i64 0,.int .i64 0]).set b6 23 (Tr.V7 y)).bx b6=some (23,Tr.V7 y):=A7
  obtain ⟨hP7,hb7⟩:=hP6.drop c4
  conv=>whnf
  repeat' ((first|exact pru|(refine brS (fun h=>?_) (fun h=>?_)<;>(try rw [h])<;>(try simp only [bS,↓reduceIte] at h))|(refine AWp.anyL (id:=2) [] [19] 6 b6 (by kernel_rfl) (by kernel_rfl) (by kernel_rfl) (by kernel_rfl) ?_)|(refine ⟨⟨_,rfl,rfl⟩,?_⟩)|(refine ⟨trivial,?_⟩)|(refine B6 hb6' ?_)|(refine B6 hb7 ?_)|refine gS ?_|refine aA ?_|refine nA ?_|fail)<;>(conv=>whnf))
  refine ⟨_,Sub.refl _,?_⟩
  unfold A05
  rw [hnf]
  exact ⟨(y,nx,false),_,_,rfl,⟨kd,tx,rfl⟩,hP7.put c4 m1 m2 _ _⟩
 ·rw [hnf] at hv5
  obtain ⟨rfl,hP5⟩:=hv5
  have ha1:=C0u hnf
  refine wp ?_
  intro b6 hb6
  obtain ⟨m5,m6⟩:=hP5.nb hb6
  have c6:=hP5.sub.none hb6
  have hP6:=(hP5.box hb6 23 [.str [],.int .i64 0,.int .i64 0]).put c6 m5 m6 23 (Tr.V7 x)
  have hb6':((s5.set b6 23 [.str [],.int .i64 0,.int .i64 0]).set b6 23 (Tr.V7 x)).bx b6=some (23,Tr.V7 x):=A7
  have htk:=W6 (Γ:=Γ) (hP6.keep hb6' m5 m6) (by omega) (by omega) R4
  conv=>whnf
  repeat' ((first|exact pru|(refine brS (fun h=>?_) (fun h=>?_)<;>(try rw [h])<;>(try simp only [bS,↓reduceIte] at h))|(refine AWp.anyL (id:=2) [] [19] 6 b6 (by kernel_rfl) (by kernel_rfl) (by kernel_rfl) (by kernel_rfl) ?_)|(refine ⟨⟨_,rfl,rfl⟩,?_⟩)|(refine ⟨trivial,?_⟩)|(refine B6 hb6' ?_)|(refine A6.by htk ?_;rintro _ s7 ⟨rfl,hP7⟩)|refine gS ?_|refine aA ?_|refine nA ?_|fail)<;>(conv=>whnf))
  obtain ⟨hP7b,hb7⟩:=hP7.drop c6
  obtain ⟨hP8,hb8⟩:=hP7b.drop c4
  refine ⟨hb7.trans hb6'.symm,?_⟩
  conv=>whnf
  repeat' ((first|exact pru|(refine brS (fun h=>?_) (fun h=>?_)<;>(try rw [h])<;>(try simp only [bS,↓reduceIte] at h))|(refine ⟨trivial,?_⟩)|(refine B6 hb8 ?_)|refine gS ?_|refine aA ?_|refine nA ?_|fail)<;>(conv=>whnf))
  refine ⟨_,Sub.refl _,?_⟩
  unfold A05
  simp only [hnf]
  exact ⟨rfl,hP8.put c4 m1 m2 _ _⟩
end
section
variable {s0 s:Sto} {bp bl:Nat} {L:List Tok} {a:Nat} {o:List Ex} {d:List Int} {k:Int}
theorem D7h (hE:Nu.A0l Γ) (hT:∀ i,(C8 L i).2.1.length≤5000) (hP:Pst s0 s bp bl L a o d k) (hL:L.length≤100000) (ha:a≤80000) :
  A6 Tryz.prog Γ 232 [.ptr (some ⟨bp,0,none⟩)] s (M2 s0 bp bl L o d k (fun x=>.agg (Tr.arA x)) (A9o L a)):=by
 have hw:IntKind.i64.wrap ((a:Int)+1)=((a+1:Nat):Int):=C7 (by omega) (by omega) (by omega)
 have htok:∃ p1 p2 p3 p4,C8 L a=(p1,p2,p3,p4):=⟨_,_,_,_,rfl⟩
 obtain ⟨p1,p2,p3,p4,hp⟩:=htok
 have eF:A9o L a=if p1=1∧p2=[95] then .ok ((3,[],Tr.R5,p3,p4),a+1) else if p1≠1 then (match M5 L a with|.error e=>.error e|.ok (v,a')=>.ok ((1,[],v,p3,p4),a')) else .ok ((2,p2,Tr.R5,p3,p4),a+1):=by
  unfold A9o;rw [hp];rfl
 refine acs Tryz.func232 ?_
 conv=>whnf
 intro b2 hb2
 conv=>whnf
 obtain ⟨m1,m2⟩:=hP.nb hb2
 have c2:s0.bx b2=none:=hP.sub.none hb2
 have hP2:=hP.box hb2 93 [.int .i64 0,.str [],.int .i64 0,.int .i64 0,.str [],.bool false,.int .i64 0,.int .i64 0]
 have hb2':(s.set b2 93 [.int .i64 0,.str [],.int .i64 0,.int .i64 0,.str [],.bool false,.int .i64 0,.int .i64 0]).bx b2=some (93,[.int .i64 0,.str [],.int .i64 0,.int .i64 0,.str [],.bool false,.int .i64 0,.int .i64 0]):=A7
 have hpk2:=A0u (Γ:=Γ) hP2.pl (by omega) (by omega)
 rw [hp] at hpk2
 simp only [Q1] at hpk2
 obtain ⟨t1',t2',hb0',_⟩:=hP2.pr
 generalize s.set b2 93 [.int .i64 0,.str [],.int .i64 0,.int .i64 0,.str [],.bool false,.int .i64 0,.int .i64 0]=sa at *
 refine wp ?_;(refine A6.by hpk2 ?_;rintro _ s4 ⟨rfl,hs4⟩;subst s4);refine wp ?_
 intro b4 hb4
 obtain ⟨m3,m4⟩:=hP2.nb hb4
 have n_b2_b4:b2≠b4:=A8 hb2' hb4
 have hPb:=(hP2.box hb4 163 [.int .i64 0,.str [],.int .i64 0,.int .i64 0]).put (hP2.sub.none hb4) m3 m4 163 (Q1 (p1,p2,p3,p4))
 have hb2b:((sa.set b4 163 [.int .i64 0,.str [],.int .i64 0,.int .i64 0]).set b4 163 (Q1 (p1,p2,p3,p4))).bx b2=some (93,[.int .i64 0,.str [],.int .i64 0,.int .i64 0,.str [],.bool false,.int .i64 0,.int .i64 0]):=((A9 n_b2_b4).trans (A9 n_b2_b4)).trans hb2'
 have hb4b:((sa.set b4 163 [.int .i64 0,.str [],.int .i64 0,.int .i64 0]).set b4 163 (Q1 (p1,p2,p3,p4))).bx b4=some (163,Q1 (p1,p2,p3,p4)):=A7
 refine wp ?_
 simp only [Q1] at hPb hb2b hb4b
 generalize (sa.set b4 163 _).set b4 163 _=sb at *
 intro b5 hb5
 obtain ⟨m5,m6⟩:=hPb.nb hb5
 have c5:s0.bx b5=none:=hPb.sub.none hb5
 have n_b2_b5:b2≠b5:=A8 hb2b hb5
 have n_b4_b5:b4≠b5:=A8 hb4b hb5
 have n_b5_b2:=n_b2_b5.symm
 have hPc:=(hPb.box hb5 93 [.int .i64 0,.str [],.int .i64 0,.int .i64 0,.str [],.bool false,.int .i64 0,.int .i64 0]).put c5 m5 m6 93 [.int .i64 2,.str p2,.int .i64 0,.int .i64 0,.str [],.bool false,.int .i64 p3,.int .i64 p4]
 have hb2c:((sb.set b5 93 [.int .i64 0,.str [],.int .i64 0,.int .i64 0,.str [],.bool false,.int .i64 0,.int .i64 0]).set b5 93 [.int .i64 2,.str p2,.int .i64 0,.int .i64 0,.str [],.bool false,.int .i64 p3,.int .i64 p4]).bx b2=some (93,[.int .i64 0,.str [],.int .i64 0,.int .i64 0,.str [],.bool false,.int .i64 0,.int .i64 0]):=((A9 n_b2_b5).trans (A9 n_b2_b5)).trans hb2b
 have hb4c:((sb.set b5 93 [.int .i64 0,.str [],.int .i64 0,.int .i64 0,.str [],.bool false,.int .i64 0,.int .i64 0]).set b5 93 [.int .i64 2,.str p2,.int .i64 0,.int .i64 0,.str [],.bool false,.int .i64 p3,.int .i64 p4]).bx b4=some (163,[.int .i64 p1,.str p2,.int .i64 p3,.int .i64 p4]):=((A9 n_b4_b5).trans (A9 n_b4_b5)).trans hb4b
 have hb5c:((sb.set b5 93 [.int .i64 0,.str [],.int .i64 0,.int .i64 0,.str [],.bool false,.int .i64 0,.int .i64 0]).set b5 93 [.int .i64 2,.str p2,.int .i64 0,.int .i64 0,.str [],.bool false,.int .i64 p3,.int .i64 p4]).bx b5=some (93,[.int .i64 2,.str p2,.int .i64 0,.int .i64 0,.str [],.bool false,.int .i64 p3,.int .i64 p4]):=A7
 conv=>whnf
 repeat' ((first|exact pru|(refine brS (fun h=>?_) (fun h=>?_)<;>(try rw [h])<;>(try simp only [bS,↓reduceIte] at h))|refine gS ?_|refine aA ?_|refine nA ?_|fail)<;>(conv=>whnf))
 generalize (sb.set b5 93 _).set b5 93 _=sc at *
 have m1':=m1.symm
 have m2':=m2.symm
 have m5':=m5.symm
 have m6':=m6.symm
 obtain ⟨u1,u2,hbc,_⟩:=hPc.pr
 have hplc:=hPc.pl
 conv=>whnf
 by_cases h1:p1=1
 ·by_cases h2:p2=[95]
  ·rw [if_pos ⟨h1,h2⟩] at eF
   repeat' ((first|exact pru|(refine brS (fun h=>?_) (fun h=>?_)<;>(try rw [h])<;>(try simp only [bS,↓reduceIte] at h))|refine E9 ?_|(rw [hw])|refine gS ?_|refine aA ?_|refine nA ?_|fail)<;>(conv=>whnf))
   all_goals try (exfalso;first|contradiction|(exact absurd h2 (by assumption)))
   all_goals (refine ⟨_,Sub.refl _,?_⟩;rw [eF];exact ⟨rfl,(((hPc.put c5 m5 m6 _ _).put c5 m5 m6 _ _).next (a+1)).put c2 m1 m2 _ _⟩)
  ·rw [if_neg (fun h=>h2 h.2),if_neg (fun h=>h h1)] at eF
   repeat' ((first|exact pru|(refine brS (fun h=>?_) (fun h=>?_)<;>(try rw [h])<;>(try simp only [bS,↓reduceIte] at h))|refine E9 ?_|(rw [hw])|refine gS ?_|refine aA ?_|refine nA ?_|fail)<;>(conv=>whnf))
   all_goals try (exfalso;first|contradiction|exact h2 (by assumption))
   all_goals (refine ⟨_,Sub.refl _,?_⟩;rw [eF];exact ⟨rfl,(hPc.next (a+1)).put c2 m1 m2 _ _⟩)
 ·rw [if_neg (fun h=>h1 h.1),if_pos h1] at eF
  have hv:=B7f (Γ:=Γ) hE ((hPc.keep hb2c m1 m2).keep hb5c m5 m6) hL (by omega) hT
  refine wp ?_
  refine A6.by hv ?_
  intro v s7 hv7
  unfold C1k at hv7
  have c5':(s0.set b2 93 [.int .i64 0,.str [],.int .i64 0,.int .i64 0,.str [],.bool false,.int .i64 0,.int .i64 0]).bx b5=none:=(A9 n_b5_b2).trans c5
  rcases hkf:M5 L a with z|⟨q,a2⟩
  ·rw [hkf] at hv7 eF
   obtain ⟨e,a',rfl,⟨kd,tx,rfl⟩,hP7⟩:=hv7
   obtain ⟨hP8,hb58⟩:=hP7.drop c5'
   obtain ⟨hP9,hb28⟩:=hP8.drop c2
   refine wp ?_
   intro b6 hb6
   obtain ⟨m7,m8⟩:=hP9.nb hb6
   have c6:=hP9.sub.none hb6
   have n_b5_b6:b5≠b6:=A8 hb58 hb6
   have n_b6_b5:=n_b5_b6.symm
   have n_b2_b6:b2≠b6:=A8 hb28 hb6
   conv=>whnf
   repeat' ((first|exact pru|(refine brS (fun h=>?_) (fun h=>?_)<;>(try rw [h])<;>(try simp only [bS,↓reduceIte] at h))|refine E9 ?_|(refine AWp.anyP (id:=7) [(6,true),(41,false),(42,false),(43,false)] (fun k=>cond k b6 b5) [0,1,2,3,4,5,6] n_b6_b5 (by kernel_rfl) (by kernel_rfl) (by kernel_rfl) (by kernel_rfl) ?_)|(refine ⟨(by first|exact trivial|exact ⟨_,rfl,rfl⟩),?_⟩)|refine gS ?_|refine aA ?_|refine nA ?_|fail)<;>(conv=>whnf))
   all_goals (refine ⟨_,Sub.refl _,?_⟩;rw [eF];exact ⟨(1,[],(0,0,[],false),p3,p4),_,_,rfl,⟨kd,tx,rfl⟩,((((((hP9.box hb6 _ _).put c6 m7 m8 _ _).put c5 m5 m6 _ _).put c5 m5 m6 _ _).put c5 m5 m6 _ _).put c2 m1 m2 _ _)⟩)
  ·rw [hkf] at hv7 eF
   obtain ⟨rfl,hP7⟩:=hv7
   obtain ⟨hP8,hb58⟩:=hP7.drop c5'
   obtain ⟨hP9,hb28⟩:=hP8.drop c2
   refine wp ?_
   intro b6 hb6
   obtain ⟨m7,m8⟩:=hP9.nb hb6
   have c6:=hP9.sub.none hb6
   have n_b5_b6:b5≠b6:=A8 hb58 hb6
   have n_b6_b5:=n_b5_b6.symm
   have n_b2_b6:b2≠b6:=A8 hb28 hb6
   conv=>whnf
   repeat' ((first|exact pru|(refine brS (fun h=>?_) (fun h=>?_)<;>(try rw [h])<;>(try simp only [bS,↓reduceIte] at h))|refine E9 ?_|(refine AWp.anyP (id:=7) [(6,true),(41,false),(42,false),(43,false)] (fun k=>cond k b6 b5) [0,1,2,3,4,5,6] n_b6_b5 (by kernel_rfl) (by kernel_rfl) (by kernel_rfl) (by kernel_rfl) ?_)|(refine ⟨(by first|exact trivial|exact ⟨_,rfl,rfl⟩),?_⟩)|refine gS ?_|refine aA ?_|refine nA ?_|fail)<;>(conv=>whnf))
   all_goals (refine ⟨_,Sub.refl _,?_⟩;rw [eF];exact ⟨rfl,((((((hP9.box hb6 _ _).put c6 m7 m8 _ _).put c5 m5 m6 _ _).put c5 m5 m6 _ _).put c5 m5 m6 _ _).put c2 m1 m2 _ _)⟩)
end
section
variable {s0 s:Sto} {bp bl:Nat} {L:List Tok} {a:Nat} {o:List Ex} {d:List Int} {k:Int}
def D2p {α β:Type} (base:List α→β→Sto) (bp bl:Nat) (L:List Tok) (o:List Ex) (d:List Int) (k:Int) (r:Res (List α × Nat)) (v:AV) (s':Sto):Prop :=
 match r with
 | .ok (l,a')=>v=.nilIface∧∃ t,Pst (base l t) s' bp bl L a' o d k
 | .error x=>A84 x v∧∃ l t a',Pst (base l t) s' bp bl L a' o d k
def D6d {α β:Type} (base:List α→β→Sto) (bp bl:Nat) (L:List Tok) (o:List Ex) (d:List Int) (k:Int) (acc:List α) (r:Res (α × Nat)) (v:AV) (s':Sto):Prop :=
 match r with
 | .ok (x,a')=>v=.nilIface∧∃ t,Pst (base (acc++[x]) t) s' bp bl L a' o d k
 | .error x=>A84 x v∧∃ l t a',Pst (base l t) s' bp bl L a' o d k
theorem C63 {α β:Type} {base:List α→β→Sto} {one:Nat→Res (α × Nat)} {n:FuncId} {cs:List AV} {t0:β} (hn:A3c Tryz.prog n=true)
  (hmono:∀ a x a1,one a=.ok (x,a1)→a < a1∧a1≤L.length)
  (hone:∀ acc t a s,a≤70000→acc.length≤a→Pst (base acc t) s bp bl L a o d k→A6 Tryz.prog Γ n cs s (D6d base bp bl L o d k acc (one a)))
  (hP:Pst (base [] t0) s bp bl L a o d k) (hL:L.length≤66000) (ha:a≤70000) :
  A6 Tryz.prog Γ 227 [.ptr (some ⟨bp,0,none⟩),.func (.func n) [] cs] s (D2p base bp bl L o d k (A2t L one a)):=by
 have hw:=A1q (Γ:=Γ) hP (by omega) (by omega) [[40]] (by decide) 1
 refine acs Tryz.func227 ?_
 refine wp ?_
 refine A6.by hw ?_
 intro v s5 hv5
 unfold A9i at hv5
 cases h40:isF L a [40]
 ·have e1:E5 L [[40]] a=A1u L a 16:=by rw [E5,h40];rfl
  have e2:A2t L one a=A1u L a 16:=by rw [A2t,h40];rfl
  rw [e1] at hv5
  obtain ⟨a',⟨kd,tx,rfl⟩,hP5⟩:=hv5
  refine wp ?_
  refine ⟨_,Sub.refl _,?_⟩
  rw [e2]
  exact ⟨⟨kd,tx,rfl⟩,[],t0,a',hP5⟩
 ·have e1:E5 L [[40]] a=.ok (a+1):=by rw [E5,h40];rfl
  have hlt:=H0 h40
  rw [e1] at hv5
  obtain ⟨rfl,hP5⟩:=hv5
  have htk:=W6 (Γ:=Γ) hP5 (by omega) (by omega) [41]
  conv=>whnf
  cases h41:isF L (a+1) [41]
  ·rw [h41] at htk
   simp only [Bool.false_eq_true,if_false] at htk
   have e2:A2t L one a=A0o L one (L.length+1) [] (a+1):=by rw [A2t,h40,h41];rfl
   rw [e2]
   refine wp ?_;(refine A6.by htk ?_;rintro _ s6 ⟨rfl,hP6⟩);refine wp ?_
   refine AWp.loopA [] [17,18,6,19,20,21,4,22,23,24,25,26,27] (fun _:List α × Nat × β=>[]) (fun q s'=>q.2.1≤L.length∧q.1.length≤q.2.1∧Pst (base q.1 q.2.2) s' bp bl L q.2.1 o d k∧∃ m,L.length - q.2.1 < m∧A0o L one (L.length+1) [] (a+1)=A0o L one m q.1 q.2.1) (fun q=>L.length - q.2.1) (([],a+1,t0)) (by kernel_rfl) (rfl) ?_ ?_
   ·exact ⟨hlt,Nat.zero_le _,hP6,L.length+1,by simp only;omega,rfl⟩
   ·rintro y ⟨acc,b,t⟩ s7 ⟨hb,hac,hP7,m,hm,hq⟩
    simp only at hb hac hP7 hm hq
    rw [hq]
    obtain ⟨m,rfl⟩:∃ m',m=m'+1:=⟨m - 1,by omega⟩
    have ho:=hone acc t b s7 (by omega) hac hP7
    show awp _ _ _ _ _ (updL _ _ []) _
    conv=>whnf
    rw [hn]
    dsimp only
    rw [E8]
    refine A6.by ho ?_
    intro v s8 hv8
    unfold D6d at hv8
    rcases h1:one b with x|⟨x,b1⟩
    ·rw [h1] at hv8
     obtain ⟨⟨kd,tx,rfl⟩,l,t',a',hP8⟩:=hv8
     have e3:A0o L one (m+1) acc b=.error x:=by rw [A0o,h1]
     refine wp ?_
     refine ⟨_,Sub.refl _,?_⟩
     rw [e3]
     exact ⟨⟨kd,tx,rfl⟩,l,t',a',hP8⟩
    ·rw [h1] at hv8
     obtain ⟨rfl,t',hP8⟩:=hv8
     obtain ⟨q1,q2⟩:=hmono _ _ _ h1
     have htk2:=W6 (Γ:=Γ) hP8 (by omega) (by omega) [44]
     conv=>whnf
     cases h44:isF L b1 [44]
     ·rw [h44] at htk2
      simp only [Bool.false_eq_true,if_false] at htk2
      refine wp ?_;(refine A6.by htk2 ?_;rintro _ s9 ⟨rfl,hP9⟩);refine wp ?_
      have hw2:=A1q (Γ:=Γ) hP9 (by omega) (by omega) [[41]] (by decide) 1
      refine A6.by hw2 ?_
      intro v sx hvx
      unfold A9i at hvx
      cases h412:isF L b1 [41]
      ·have e3:A0o L one (m+1) acc b=A1u L b1 16:=by rw [A0o,h1];simp [h44,h412]
       rw [show E5 L [[41]] b1=A1u L b1 16 by rw [E5,h412];rfl] at hvx
       obtain ⟨a',⟨kd,tx,rfl⟩,hPx⟩:=hvx
       refine wp ?_
       refine ⟨_,Sub.refl _,?_⟩
       rw [e3]
       exact ⟨⟨kd,tx,rfl⟩,_,t',a',hPx⟩
      ·have e3:A0o L one (m+1) acc b=.ok (acc++[x],b1+1):=by rw [A0o,h1];simp [h44,h412]
       rw [show E5 L [[41]] b1=.ok (b1+1) by rw [E5,h412];rfl] at hvx
       obtain ⟨rfl,hPx⟩:=hvx
       refine wp ?_
       refine ⟨_,Sub.refl _,?_⟩
       rw [e3]
       exact ⟨rfl,t',hPx⟩
     ·rw [h44] at htk2
      simp only [if_true] at htk2
      have hl2:=H0 h44
      have e3:A0o L one (m+1) acc b=A0o L one m (acc++[x]) (b1+1):=by rw [A0o,h1];simp [h44]
      refine wp ?_;(refine A6.by htk2 ?_;rintro _ s9 ⟨rfl,hP9⟩);refine wp ?_
      exact ⟨(acc++[x],b1+1,t'),rfl,C5,⟨hl2,by simp only [List.length_append,List.length_cons,List.length_nil];omega,hP9,m,by simp only;omega,e3⟩,by simp only;omega⟩
  ·rw [h41] at htk
   simp only [if_true] at htk
   have e2:A2t L one a=.ok ([],a+2):=by rw [A2t,h40,h41];rfl
   refine wp ?_;(refine A6.by htk ?_;rintro _ s6 ⟨rfl,hP6⟩);refine wp ?_
   refine ⟨_,Sub.refl _,?_⟩
   rw [e2]
   exact ⟨rfl,t0,hP6⟩
end
end Go.Proofs.YticnkpgmmpenlaaGreatDoor.Pa
namespace Go.Proofs.YticnkpgmmpenlaaGreatDoor.Pa
open Go Go.Ab Go.RowKit Go.Proofs.YticnkpgmmpenlaaGreatDoor.Lx
section
variable {s0 s7:Sto} {bp bl:Nat} {L:List Tok} {a:Nat} {o:List Ex} {d:List Int} {k:Int}
def A6y (s0:Sto) (b:Nat) (T:TypeId) (cs:List AV) (t:Nat) (e:TypeId) (m:Nat):Sto:=(s0.set b T cs).grow 1 t e m
theorem A6z {b c:Nat} {T:TypeId} {cs:List AV} {t:Nat} {e:TypeId} {m:Nat}:(A6y s0 b T cs t e m).bx c=(s0.set b T cs).bx c:=rfl
theorem A1m {b:Nat} {T:TypeId} {cs:List AV} {t:Nat} {e:TypeId} {m u:Nat} {e':TypeId} {k':Nat}:(A6y s0 b T cs t e m).lv u e' k'↔(u=t∧t≠1∧e'=e∧k'=m)∨s0.lv u e' k':=by
 unfold A6y Sto.grow Sto.set
 simp
theorem B9b {b:Nat} {T:TypeId} {cs cs':List AV} {t t':Nat} {e:TypeId} {m:Nat} {z:Bool} {u:Nat} {eu:TypeId} {mu:Nat} (h:Own (A6y s0 b T cs t e m) s7 z u eu mu) (ht:t=1∨∀ e k,¬ s0.lv t e k) (k2:t'≠t→∀ e' k',¬ s7.lv t' e' k') (hc:s0.bx b=none) :
  Own (A6y s0 b T cs' t' e m) ((s7.grow t t' e m).set b T cs') z u eu mu:=by
 have hsub:∀ c x,s0.bx c=some x→s7.bx c=some x:=fun c x hx=>h.sub.bx c x (by
  show (s0.set b T cs).bx c=some x
  rw [A9 (fun hcb=>by subst hcb;rw [hc] at hx;cases hx)]
  exact hx)
 refine ⟨⟨fun c x hx=>?_,fun v e' k' hx=>?_⟩,?_⟩
 ·have hx:(s0.set b T cs').bx c=some x:=hx
  by_cases hcb:c=b
  ·subst hcb
   rw [A7] at hx ⊢
   exact hx
  ·rw [A9 hcb] at hx ⊢
   exact hsub c x hx
 ·show (v=t'∧t'≠1∧e'=e∧k'=m)∨(s7.lv v e' k'∧(v≠t∨t=1))
  rcases A1m.1 hx with hx|hx
  ·exact .inl hx
  ·refine .inr ⟨h.sub.lv _ _ _ (A1m.2 (.inr hx)),?_⟩
   rcases ht with ht|ht
   ·exact .inr ht
   ·exact .inl fun hv=>ht _ _ (hv ▸ hx)
 ·rcases h.own with h1|⟨h1,h2,h3⟩
  ·exact .inl h1
  ·have n1:u≠t:=fun hu=>h3 e m (A1m.2 (.inl ⟨hu,fun ht1=>h1 (hu.trans ht1),rfl,rfl⟩))
   have n2:u≠t':=fun hu=>by
    by_cases htt:t'=t
    ·exact n1 (hu.trans htt)
    ·exact k2 htt _ _ (hu ▸ h2)
   refine .inr ⟨h1,.inr ⟨h2,.inl n1⟩,fun e' k' hx=>?_⟩
   rcases A1m.1 hx with hx|hx
   ·exact n2 hx.1
   ·exact h3 _ _ (A1m.2 (.inr hx))
theorem Pst.grown {b:Nat} {T:TypeId} {cs cs':List AV} {t t':Nat} {e:TypeId} {m:Nat} (hP:Pst (A6y s0 b T cs t e m) s7 bp bl L a o d k) (ht:t=1∨∀ e k,¬ s0.lv t e k) (k2:t'≠t→∀ e' k',¬ s7.lv t' e' k') (hc:s0.bx b=none) (h1:b≠bp) (h2:b≠bl) :
  Pst (A6y s0 b T cs' t' e m) ((s7.grow t t' e m).set b T cs') bp bl L a o d k∧(t'=1∨∀ e k,¬ s0.lv t' e k):=by
 obtain ⟨np,nl,ne,⟨t1,t2,e1,e2,e3,e4⟩,pl⟩:=hP
 have np':(s0.set b T cs).bx bp=none:=np
 have nl':(s0.set b T cs).bx bl=none:=nl
 rw [A9 h1.symm] at np'
 rw [A9 h2.symm] at nl'
 refine ⟨⟨?_,?_,ne,⟨t1,t2,?_,B9b e2 ht k2 hc,B9b e3 ht k2 hc,e4⟩,?_⟩,?_⟩
 ·show (s0.set b T cs').bx bp=none
  rw [A9 h1.symm];exact np'
 ·show (s0.set b T cs').bx bl=none
  rw [A9 h2.symm];exact nl'
 ·rw [A9 h1.symm];exact e1
 ·rw [A9 h2.symm];exact pl
 ·by_cases htt:t'=t
  ·rw [htt];exact ht
  ·exact .inr fun e' k' hx=>k2 htt _ _ (e2.sub.lv _ _ _ (A1m.2 (.inr hx)))
end
end Go.Proofs.YticnkpgmmpenlaaGreatDoor.Pa
namespace Go.Proofs.YticnkpgmmpenlaaGreatDoor.Pa
open Go Go.Ab Go.RowKit Go.Proofs.YticnkpgmmpenlaaGreatDoor.Lx
variable {Γ:Nat→AV}
attribute [local irreducible] B7 Sto.set Sto.grow
section
variable {s1 s:Sto} {bp bl:Nat} {L:List Tok} {a:Nat} {o:List Ex} {d:List Int} {k:Int}
abbrev B4e (s1:Sto):={t:Nat // t=1∨∀ e k,¬ s1.lv t e k}
def deB (s1:Sto) (b6:Nat) (x:Tr.Idn) (acc:List Int) (t:B4e s1):Sto:=A6y s1 b6 54 [.str x.1,.int .i64 x.2.1,.int .i64 x.2.2,.slice t.1 (G6 .i64 acc)] t.1 3 1
theorem C4r {b1 b6:Nat} {x:Tr.Idn} (c6:s1.bx b6=none) (hb1:s1.bx b1=some (96,[.ptr (some ⟨bp,0,none⟩)])) (n1:b6≠bp) (n2:b6≠bl) (hL:L.length≤66000) (acc:List Int) (t:B4e s1) (ha:a≤70000) (hac:acc.length≤100000)
  (hP:Pst (deB s1 b6 x acc t) s bp bl L a o d k) :
  A6 Tryz.prog Γ 228 [.ptr (some ⟨b1,0,none⟩),.ptr (some ⟨b6,0,none⟩)] s (D6d (deB s1 b6 x) bp bl L o d k acc (A2r L a)):=by
 have n16:b1≠b6:=fun h=>by subst h;rw [c6] at hb1;cases hb1
 have hbx:∀ {s:Sto} {a:Nat},Pst (deB s1 b6 x acc t) s bp bl L a o d k→s.bx b1=some (96,[.ptr (some ⟨bp,0,none⟩)])∧s.bx b6=some (54,[.str x.1,.int .i64 x.2.1,.int .i64 x.2.2,.slice t.1 (G6 .i64 acc)]):=fun h =>
  ⟨h.sub.bx _ _ (A6z.trans ((A9 n16).trans hb1)),h.sub.bx _ _ (A6z.trans A7)⟩
 have hk:=C6w (Γ:=Γ) hP (by omega) (by omega)
 obtain ⟨g1,g6⟩:=hbx hP
 refine acs Tryz.func228 ?_
 refine wp ?_
 refine A6.by hk ?_
 intro v s7 hv7
 unfold M2 at hv7
 rcases hkf:A2r L a with z|⟨q,a2⟩
 ·rw [hkf] at hv7
  obtain ⟨y,e,a',rfl,⟨kd,tx,rfl⟩,hP7⟩:=hv7
  obtain ⟨f1,f6⟩:=hbx hP7
  have may:t.1=1∨s7.lv t.1 3 1:=by
   by_cases h:t.1=1
   ·exact .inl h
   ·exact .inr (hP7.sub.lv _ _ _ (A1m.2 (.inl ⟨rfl,h,rfl,rfl⟩)))
  refine wp ?_
  refine ⟨may,fun c hc=>by obtain ⟨z,_,rfl⟩:=List.mem_map.1 hc;rfl,all_cons ⟨rfl,rfl⟩ all_nil,?_,?_⟩
  ·show ((G6 .i64 acc).length+1) * (_+1)≤_
   rw [M1]
   exact Nat.le_trans (Nat.mul_le_mul_right _ (show acc.length+1≤100001 by omega)) (Nat.le_of_ble_eq_true (by kernel_rfl))
  intro t' k1 k2
  obtain ⟨hP8,hf⟩:=Pst.grown (cs':=[.str x.1,.int .i64 x.2.1,.int .i64 x.2.2,.slice t' (G6 .i64 acc++[[.int .i64 y]])]) hP7 t.2 k2 c6 n1 n2
  have f6':=(L8 (t:=t.1) (t':=t') (e:=3) (k:=1)).trans f6
  refine wp ?_
  refine ⟨_,Sub.refl _,?_⟩
  rw [show G6 .i64 acc++[[AV.int .i64 y]]=G6 .i64 (acc++[y]) by simp [G6]] at hP8 ⊢
  exact ⟨⟨kd,tx,rfl⟩,acc++[y],⟨t',hf⟩,a',hP8⟩
 ·rw [hkf] at hv7
  obtain ⟨rfl,hP7⟩:=hv7
  obtain ⟨f1,f6⟩:=hbx hP7
  have may:t.1=1∨s7.lv t.1 3 1:=by
   by_cases h:t.1=1
   ·exact .inl h
   ·exact .inr (hP7.sub.lv _ _ _ (A1m.2 (.inl ⟨rfl,h,rfl,rfl⟩)))
  refine wp ?_
  refine ⟨may,fun c hc=>by obtain ⟨z,_,rfl⟩:=List.mem_map.1 hc;rfl,all_cons ⟨rfl,rfl⟩ all_nil,?_,?_⟩
  ·show ((G6 .i64 acc).length+1) * (_+1)≤_
   rw [M1]
   exact Nat.le_trans (Nat.mul_le_mul_right _ (show acc.length+1≤100001 by omega)) (Nat.le_of_ble_eq_true (by kernel_rfl))
  intro t' k1 k2
  obtain ⟨hP8,hf⟩:=Pst.grown (cs':=[.str x.1,.int .i64 x.2.1,.int .i64 x.2.2,.slice t' (G6 .i64 acc++[[.int .i64 q]])]) hP7 t.2 k2 c6 n1 n2
  have f6':=(L8 (t:=t.1) (t':=t') (e:=3) (k:=1)).trans f6
  refine wp ?_
  refine ⟨_,Sub.refl _,?_⟩
  rw [show G6 .i64 acc++[[AV.int .i64 q]]=G6 .i64 (acc++[q]) by simp [G6]] at hP8 ⊢
  exact ⟨rfl,⟨t',hf⟩,hP8⟩
end
end Go.Proofs.YticnkpgmmpenlaaGreatDoor.Pa
namespace Go.Proofs.YticnkpgmmpenlaaGreatDoor.Pa
open Go Go.Ab Go.RowKit Go.Proofs.YticnkpgmmpenlaaGreatDoor.Lx
theorem _root_.Go.Ab.Sto.grow_one (s:Sto) (e:TypeId) (m:Nat):s.grow 1 1 e m=s:=by
 unfold Sto.grow
 cases s with
 | mk bx lv fin =>
  simp only [Sto.mk.injEq,true_and]
  funext u e' k'
  simp
section
variable {s0 s7:Sto} {bp bl:Nat} {L:List Tok} {a:Nat} {o:List Ex} {d:List Int} {k:Int}
theorem B6o {b:Nat} {T:TypeId} {cs:List AV} {e:TypeId} {m:Nat}:A6y s0 b T cs 1 e m=s0.set b T cs:=Sto.grow_one _ _ _
theorem D3t {b:Nat} {T:TypeId} {cs:List AV} {t:Nat} {e:TypeId} {m:Nat} (hb:s0.bx b=none):Sub s0 (A6y s0 b T cs t e m):=by
 have h1:Sub s0 (s0.set b T cs):=(Sub.refl s0).set hb T cs
 exact ⟨fun c x hx=>h1.bx c x hx,fun u e' k' hx=>A1m.2 (.inr hx)⟩
theorem Pst.dropRow {b:Nat} {T:TypeId} {cs:List AV} {t:Nat} {e:TypeId} {m:Nat} (hP:Pst (A6y s0 b T cs t e m) s7 bp bl L a o d k) (hb:s0.bx b=none):Pst s0 s7 bp bl L a o d k∧s7.bx b=some (T,cs)∧(t=1∨s7.lv t e m):=by
 obtain ⟨np,nl,ne,⟨t1,t2,e1,e2,e3,e4⟩,pl⟩:=hP
 have hsb:Sub s0 (A6y s0 b T cs t e m):=D3t hb
 refine ⟨⟨hsb.none np,hsb.none nl,ne,⟨t1,t2,e1,e2.of_sub hsb,e3.of_sub hsb,e4⟩,pl⟩,e2.sub.bx _ _ (A6z.trans A7),?_⟩
 by_cases h:t=1
 ·exact .inl h
 ·exact .inr (e2.sub.lv _ _ _ (A1m.2 (.inl ⟨rfl,h,rfl,rfl⟩)))
def A0s (s0:Sto) (t:Nat) (e:TypeId) (m:Nat):Sto:=s0.grow 1 t e m
theorem B1i {c:Nat} {t:Nat} {e:TypeId} {m:Nat}:(A0s s0 t e m).bx c=s0.bx c:=rfl
theorem A40 {t:Nat} {e:TypeId} {m u:Nat} {e':TypeId} {k':Nat}:(A0s s0 t e m).lv u e' k'↔(u=t∧t≠1∧e'=e∧k'=m)∨s0.lv u e' k':=by
 unfold A0s Sto.grow
 simp
theorem A50 {e:TypeId} {m:Nat}:A0s s0 1 e m=s0:=Sto.grow_one _ _ _
theorem C3o {t:Nat} {e:TypeId} {m:Nat}:Sub s0 (A0s s0 t e m):=⟨fun _ _ h=>h,fun _ _ _ hx=>A40.2 (.inr hx)⟩
theorem B53 {t t':Nat} {e:TypeId} {m:Nat} {z:Bool} {u:Nat} {eu:TypeId} {mu:Nat} (h:Own (A0s s0 t e m) s7 z u eu mu) (ht:t=1∨∀ e k,¬ s0.lv t e k) (k2:t'≠t→∀ e' k',¬ s7.lv t' e' k') :
  Own (A0s s0 t' e m) (s7.grow t t' e m) z u eu mu:=by
 refine ⟨⟨fun c x hx=>h.sub.bx c x hx,fun v e' k' hx=>?_⟩,?_⟩
 ·show (v=t'∧t'≠1∧e'=e∧k'=m)∨(s7.lv v e' k'∧(v≠t∨t=1))
  rcases A40.1 hx with hx|hx
  ·exact .inl hx
  ·refine .inr ⟨h.sub.lv _ _ _ (A40.2 (.inr hx)),?_⟩
   rcases ht with ht|ht
   ·exact .inr ht
   ·exact .inl fun hv=>ht _ _ (hv ▸ hx)
 ·rcases h.own with h1|⟨h1,h2,h3⟩
  ·exact .inl h1
  ·have n1:u≠t:=fun hu=>h3 e m (A40.2 (.inl ⟨hu,fun ht1=>h1 (hu.trans ht1),rfl,rfl⟩))
   have n2:u≠t':=fun hu=>by
    by_cases htt:t'=t
    ·exact n1 (hu.trans htt)
    ·exact k2 htt _ _ (hu ▸ h2)
   refine .inr ⟨h1,.inr ⟨h2,.inl n1⟩,fun e' k' hx=>?_⟩
   rcases A40.1 hx with hx|hx
   ·exact n2 hx.1
   ·exact h3 _ _ (A40.2 (.inr hx))
theorem Pst.grownS {t t':Nat} {e:TypeId} {m:Nat} (hP:Pst (A0s s0 t e m) s7 bp bl L a o d k) (ht:t=1∨∀ e k,¬ s0.lv t e k) (k2:t'≠t→∀ e' k',¬ s7.lv t' e' k') :
  Pst (A0s s0 t' e m) (s7.grow t t' e m) bp bl L a o d k∧(t'=1∨∀ e k,¬ s0.lv t' e k):=by
 obtain ⟨np,nl,ne,⟨t1,t2,e1,e2,e3,e4⟩,pl⟩:=hP
 refine ⟨⟨np,nl,ne,⟨t1,t2,e1,B53 e2 ht k2,B53 e3 ht k2,e4⟩,pl⟩,?_⟩
 by_cases htt:t'=t
 ·rw [htt];exact ht
 ·exact .inr fun e' k' hx=>k2 htt _ _ (e2.sub.lv _ _ _ (A40.2 (.inr hx)))
theorem Pst.dropS {t:Nat} {e:TypeId} {m:Nat} (hP:Pst (A0s s0 t e m) s7 bp bl L a o d k):Pst s0 s7 bp bl L a o d k∧(t=1∨s7.lv t e m):=by
 obtain ⟨np,nl,ne,⟨t1,t2,e1,e2,e3,e4⟩,pl⟩:=hP
 refine ⟨⟨np,nl,ne,⟨t1,t2,e1,e2.of_sub C3o,e3.of_sub C3o,e4⟩,pl⟩,?_⟩
 by_cases h:t=1
 ·exact .inl h
 ·exact .inr (e2.sub.lv _ _ _ (A40.2 (.inl ⟨rfl,h,rfl,rfl⟩)))
theorem Pst.mayS {t:Nat} {e:TypeId} {m:Nat} (hP:Pst (A0s s0 t e m) s7 bp bl L a o d k):t=1∨s7.lv t e m:=hP.dropS.2
theorem Pst.mayB {b:Nat} {T:TypeId} {cs:List AV} {t:Nat} {e:TypeId} {m:Nat} (hP:Pst (A6y s0 b T cs t e m) s7 bp bl L a o d k):t=1∨s7.lv t e m:=by
 by_cases h:t=1
 ·exact .inl h
 ·exact .inr (hP.sub.lv _ _ _ (A1m.2 (.inl ⟨rfl,h,rfl,rfl⟩)))
end
end Go.Proofs.YticnkpgmmpenlaaGreatDoor.Pa
namespace Go.Proofs.YticnkpgmmpenlaaGreatDoor.Pa
open Go Go.Ab Go.RowKit Go.Proofs.YticnkpgmmpenlaaGreatDoor.Lx
variable {Γ:Nat→AV}
theorem _root_.Go.Ab.Le.tuple {l m:List AV} (h:LeL l m):Le (.tuple l) (.tuple m):=fun G w v hr=>by
 unfold R at hr ⊢
 obtain ⟨us,rfl,h2⟩:=hr
 exact ⟨us,rfl,h.run h2⟩
theorem _root_.Go.Ab.Le.agg {l m:List AV} (h:LeL l m):Le (.agg l) (.agg m):=fun G w v hr=>by
 unfold R at hr ⊢
 obtain ⟨us,rfl,h2⟩:=hr
 exact ⟨us,rfl,h.run h2⟩
attribute [local irreducible] B7 Sto.set Sto.grow
section
variable {s0 s:Sto} {bp bl:Nat} {L:List Tok} {a:Nat} {o:List Ex} {d:List Int} {k:Int}
def E0a {α:Type} (s0:Sto) (bp bl:Nat) (L:List Tok) (o:List Ex) (d:List Int) (k:Int) (V:Nat→α→AV) (r:Res (α × Nat)) (v:AV) (s':Sto):Prop :=
 match r with
 | .ok (x,a')=>(∃ t,v=.tuple [V t x,.nilIface])∧Pst s0 s' bp bl L a' o d k
 | .error x=>∃ t y e a',v=.tuple [V t y,e]∧A84 x e∧Pst s0 s' bp bl L a' o d k
theorem A4g {α:Type} {f:FuncId} {args:List AV} {V:Nat→α→AV} {U:α→AV} {r:Res (α × Nat)} (hV:∀ t x,Le (V t x) (U x)) (h:A6 Tryz.prog Γ f args s (E0a s0 bp bl L o d k V r)) :
  A6 Tryz.prog Γ f args s (M2 s0 bp bl L o d k U r):=by
 refine h.less fun v s' hv=>?_
 rcases r with z|⟨x,a'⟩
 ·obtain ⟨t,y,e,a',rfl,he,hP⟩:=hv
  exact ⟨.tuple [U y,e],s',Le.tuple (LeL.cons (hV t y) (LeL.cons (Le.refl _) LeL.nil)),A2k.refl _,y,e,a',rfl,he,hP⟩
 ·obtain ⟨⟨t,rfl⟩,hP⟩:=hv
  exact ⟨.tuple [U x,.nilIface],s',Le.tuple (LeL.cons (hV t x) (LeL.cons (Le.refl _) LeL.nil)),A2k.refl _,rfl,hP⟩
theorem A1i {x:Tr.Idn} {a1:Nat} (h:H9 L a=.ok (x,a1)):a1=a+1∧a < L.length:=by
 refine ⟨C0u h,?_⟩
 unfold H9 at h
 split at h
 ·cases h
 ·rename_i hn
  have hk:(C8 L a).1=1:=Decidable.not_not.1 fun h=>hn (.inl h)
  exact A8t (by rw [hk];decide)
theorem A8u (a:Nat) (x:Int) (a1:Nat) (h:A2r L a=.ok (x,a1)):a < a1∧a1≤L.length:=by
 unfold A2r at h
 split at h
 ·rename_i hi;cases h;exact ⟨Nat.lt_succ_self _,H0 hi⟩
 ·split at h
  ·rename_i hi;cases h;exact ⟨Nat.lt_succ_self _,H0 hi⟩
  ·split at h
   ·rename_i hi;cases h;exact ⟨Nat.lt_succ_self _,H0 hi⟩
   ·cases h
theorem D8x (t:Nat) (x:Tr.De):Le (.agg (Tr.deA (t,x))) (.agg (Tr.deA (0,x))):=Le.agg (LeL.cons (Le.refl _) (LeL.cons (Le.refl _) (LeL.cons (Le.refl _) (LeL.cons (Le.slice0 _ _) LeL.nil))))
theorem D5d (hP:Pst s0 s bp bl L a o d k) (hL:L.length≤66000) (ha:a≤69000) :
  A6 Tryz.prog Γ 169 [.ptr (some ⟨bp,0,none⟩)] s (M2 s0 bp bl L o d k (fun x=>.agg (Tr.deA (0,x))) (A2m L a)):=by
 refine A4g (V:=fun t x=>.agg (Tr.deA (t,x))) (fun t x=>D8x t x) ?_
 refine acs Tryz.func169 ?_
 conv=>whnf
 intro b1 hb1
 obtain ⟨p1,p2⟩:=hP.nb hb1
 have c1:s0.bx b1=none:=hP.sub.none hb1
 have hP1:=(hP.box hb1 96 [.ptr (some ⟨bp,0,none⟩)]).keep (T:=96) (cs:=[.ptr (some ⟨bp,0,none⟩)]) A7 p1 p2
 generalize s.set b1 96 [.ptr (some ⟨bp,0,none⟩)]=sx at *
 conv=>whnf
 intro b2 hb2
 obtain ⟨m1,m2⟩:=hP1.nb hb2
 have c2:(s0.set b1 96 [.ptr (some ⟨bp,0,none⟩)]).bx b2=none:=hP1.sub.none hb2
 have n12:b1≠b2:=A8 (hP1.sub.bx _ _ A7) hb2
 have hP2:=(hP1.box hb2 54 [.str [],.int .i64 0,.int .i64 0,.slice 1 []]).keep (T:=54) (cs:=[.str [],.int .i64 0,.int .i64 0,.slice 1 []]) A7 m1 m2
 have h1in:((s0.set b1 96 [.ptr (some ⟨bp,0,none⟩)]).set b2 54 [.str [],.int .i64 0,.int .i64 0,.slice 1 []]).bx b1=some (96,[.ptr (some ⟨bp,0,none⟩)]):=(A9 n12).trans A7
 generalize hs1:(s0.set b1 96 [.ptr (some ⟨bp,0,none⟩)]).set b2 54 [.str [],.int .i64 0,.int .i64 0,.slice 1 []]=s1 at *
 have hback:∀ {s:Sto} {a:Nat},Pst s1 s bp bl L a o d k→Pst s0 s bp bl L a o d k∧s.bx b2=some (54,[.str [],.int .i64 0,.int .i64 0,.slice 1 []]):=fun h=>by
  rw [← hs1] at h
  obtain ⟨g1,g2⟩:=h.drop c2
  exact ⟨(g1.drop c1).1,g2⟩
 have d2:s0.bx b2=none:=by rw [A9 n12.symm] at c2;exact c2
 generalize sx.set b2 54 [.str [],.int .i64 0,.int .i64 0,.slice 1 []]=sa at *
 have hn:=A1j (Γ:=Γ) hP2 (by omega) (by omega)
 conv=>whnf
 repeat' ((first|exact pru|(refine brS (fun h=>?_) (fun h=>?_)<;>(try rw [h])<;>(try simp only [bS,↓reduceIte] at h))|(refine B6 (hP2.sub.bx _ _ h1in) ?_)|refine gS ?_|refine aA ?_|refine nA ?_|fail)<;>(conv=>whnf))
 refine A6.by hn ?_
 intro v s5 hv5
 unfold M2 at hv5
 unfold A2m
 rcases hnf:H9 L a with x|⟨x,a1⟩
 ·rw [hnf] at hv5
  obtain ⟨y,e,a',rfl,⟨kd,tx,rfl⟩,hP5⟩:=hv5
  refine wp ?_
  intro b4 hb4
  obtain ⟨m5,m6⟩:=hP5.nb hb4
  have hP6:=(hP5.box hb4 23 [.str [],.int .i64 0,.int .i64 0]).put (hP5.sub.none hb4) m5 m6 23 (Tr.V7 y)
  obtain ⟨hP7,hb7⟩:=hback hP6
  refine wp ?_
  exact ⟨_,Sub.refl _,1,(([],0,0),[]),_,_,rfl,⟨kd,tx,rfl⟩,hP7.put d2 m1 m2 _ _⟩
 ·rw [hnf] at hv5
  obtain ⟨rfl,hP5⟩:=hv5
  have ha1:=A1i hnf
  refine wp ?_
  intro b4 hb4
  obtain ⟨m5,m6⟩:=hP5.nb hb4
  have hP6:=(hP5.box hb4 23 [.str [],.int .i64 0,.int .i64 0]).put (hP5.sub.none hb4) m5 m6 23 (Tr.V7 x)
  have hb4':((s5.set b4 23 [.str [],.int .i64 0,.int .i64 0]).set b4 23 (Tr.V7 x)).bx b4=some (23,Tr.V7 x):=A7
  refine wp ?_
  simp only [Tr.V7] at hP6
  generalize (s5.set b4 23 [.str [],.int .i64 0,.int .i64 0]).set b4 23 [.str x.1,.int .i64 x.2.1,.int .i64 x.2.2]=s6 at *
  intro b6 hb6
  obtain ⟨m7,m8⟩:=hP6.nb hb6
  have c6:s1.bx b6=none:=hP6.sub.none hb6
  have hP7:=((hP6.box hb6 54 [.str [],.int .i64 0,.int .i64 0,.slice 1 []]).put c6 m7 m8 54 [.str x.1,.int .i64 x.2.1,.int .i64 x.2.2,.slice 1 []]).keep (b:=b6) (T:=54) (cs:=[.str x.1,.int .i64 x.2.1,.int .i64 x.2.2,.slice 1 []]) A7 m7 m8
  have hl:=C63 (Γ:=Γ) (base:=deB s1 b6 x) (one:=A2r L) (n:=228) (cs:=[.ptr (some ⟨b1,0,none⟩),.ptr (some ⟨b6,0,none⟩)]) (t0:=⟨1,.inl rfl⟩) (by kernel_rfl) A8u (fun acc t a s ha hac hP=>C4r c6 h1in m7 m8 hL acc t ha (by omega) hP) (show Pst (A6y s1 b6 54 [.str x.1,.int .i64 x.2.1,.int .i64 x.2.2,.slice 1 []] 1 3 1) _ bp bl L a1 o d k by rw [B6o];exact hP7) hL (by omega)
  have n61:b1≠b6:=A8 h1in c6
  have hb17:=hP7.sub.bx _ _ ((A9 n61).trans h1in)
  refine wp ?_
  refine A6.by hl ?_
  intro v s9 hv9
  unfold D2p at hv9
  rcases hlf:A2t L (A2r L) a1 with z|⟨l,a2⟩
  ·rw [hlf] at hv9
   obtain ⟨⟨kd,tx,rfl⟩,l,t,a',hP9⟩:=hv9
   obtain ⟨hPa,hba,_⟩:=Pst.dropRow hP9 c6
   obtain ⟨hPb,hbb⟩:=hback hPa
   refine wp ?_
   refine ⟨_,Sub.refl _,?_⟩
   simp only [hlf]
   exact ⟨t.1,(x,l),_,_,rfl,⟨kd,tx,rfl⟩,hPb.put d2 m1 m2 _ _⟩
  ·rw [hlf] at hv9
   obtain ⟨rfl,t,hP9⟩:=hv9
   obtain ⟨hPa,hba,_⟩:=Pst.dropRow hP9 c6
   obtain ⟨hPb,hbb⟩:=hback hPa
   refine wp ?_
   refine ⟨_,Sub.refl _,?_⟩
   simp only [hlf]
   exact ⟨⟨t.1,rfl⟩,hPb.put d2 m1 m2 _ _⟩
end
end Go.Proofs.YticnkpgmmpenlaaGreatDoor.Pa
namespace Go.Proofs.YticnkpgmmpenlaaGreatDoor.Pa
open Go Go.Ab Go.RowKit Go.Proofs.YticnkpgmmpenlaaGreatDoor.Lx
variable {Γ:Nat→AV}
attribute [local irreducible] B7 Sto.set Sto.grow
section
variable {s0 s1 s:Sto} {bp bl:Nat} {L:List Tok} {a:Nat} {o:List Ex} {d:List Int} {k:Int}
theorem B4q (a:Nat) (x:Tr.Ar) (a1:Nat) (h:A9o L a=.ok (x,a1)):a < a1∧a1≤L.length:=by
 unfold A9o at h
 split at h
 ·rename_i hi;cases h;exact ⟨Nat.lt_succ_self _,A8t (by rw [hi.1];decide)⟩
 ·split at h
  ·split at h
   ·cases h
   ·rename_i hv;cases h;exact B2t hv
  ·rename_i _ hi;cases h;exact ⟨Nat.lt_succ_self _,A8t (by intro h0;apply hi;rw [h0];decide)⟩
theorem D90 (t:Nat) (x:Tr.Sy):Le (.agg (Tr.syA (t,x))) (.agg (Tr.syA (0,x))):=Le.agg (LeL.cons (Le.refl _) (LeL.cons (Le.slice0 _ _) (LeL.cons (Le.refl _) (LeL.cons (Le.refl _) LeL.nil))))
def syB (s1:Sto) (b6:Nat) (x:Tr.Idn) (acc:List Tr.Ar) (t:B4e s1):Sto:=A6y s1 b6 39 [.str x.1,.slice t.1 (acc.map Tr.arA),.int .i64 x.2.1,.int .i64 x.2.2] t.1 93 8
theorem D0j (hE:Nu.A0l Γ) (hT:∀ i,(C8 L i).2.1.length≤5000) {b1 b6:Nat} {x:Tr.Idn} (c6:s1.bx b6=none) (hb1:s1.bx b1=some (96,[.ptr (some ⟨bp,0,none⟩)])) (n1:b6≠bp) (n2:b6≠bl) (hL:L.length≤66000) (acc:List Tr.Ar) (t:B4e s1) (ha:a≤70000) (hac:acc.length≤100000)
  (hP:Pst (syB s1 b6 x acc t) s bp bl L a o d k) :
  A6 Tryz.prog Γ 231 [.ptr (some ⟨b1,0,none⟩),.ptr (some ⟨b6,0,none⟩)] s (D6d (syB s1 b6 x) bp bl L o d k acc (A9o L a)):=by
 have n16:b1≠b6:=fun h=>by subst h;rw [c6] at hb1;cases hb1
 have hbx:∀ {s:Sto} {a:Nat},Pst (syB s1 b6 x acc t) s bp bl L a o d k→s.bx b1=some (96,[.ptr (some ⟨bp,0,none⟩)])∧s.bx b6=some (39,[.str x.1,.slice t.1 (acc.map Tr.arA),.int .i64 x.2.1,.int .i64 x.2.2]):=fun h =>
  ⟨h.sub.bx _ _ (A6z.trans ((A9 n16).trans hb1)),h.sub.bx _ _ (A6z.trans A7)⟩
 have hk:=D7h (Γ:=Γ) hE hT hP (by omega) (by omega)
 obtain ⟨g1,g6⟩:=hbx hP
 refine acs Tryz.func231 ?_
 refine wp ?_
 refine A6.by hk ?_
 intro v s7 hv7
 unfold M2 at hv7
 rcases hkf:A9o L a with z|⟨q,a2⟩
 ·rw [hkf] at hv7
  obtain ⟨y,e,a',rfl,⟨kd,tx,rfl⟩,hP7⟩:=hv7
  refine wp ?_
  intro b3 hb3
  obtain ⟨m5,m6⟩:=hP7.nb hb3
  have hP8:=(hP7.box hb3 93 [.int .i64 0,.str [],.int .i64 0,.int .i64 0,.str [],.bool false,.int .i64 0,.int .i64 0]).put (hP7.sub.none hb3) m5 m6 93 (Tr.arA y)
  have h3:((s7.set b3 93 [.int .i64 0,.str [],.int .i64 0,.int .i64 0,.str [],.bool false,.int .i64 0,.int .i64 0]).set b3 93 (Tr.arA y)).bx b3=some (93,Tr.arA y):=A7
  obtain ⟨f1,f6⟩:=hbx hP8
  have may:=Pst.mayB hP8
  refine wp ?_
  refine ⟨may,fun c hc=>by obtain ⟨z,_,rfl⟩:=List.mem_map.1 hc;rfl,all_cons ⟨rfl,rfl⟩ all_nil,?_,?_⟩
  ·show ((acc.map Tr.arA).length+1) * (_+1)≤_
   rw [List.length_map]
   exact Nat.le_trans (Nat.mul_le_mul_right _ (show acc.length+1≤100001 by omega)) (Nat.le_of_ble_eq_true (by kernel_rfl))
  intro t' k1 k2
  obtain ⟨hP9,hf⟩:=Pst.grown (cs':=[.str x.1,.slice t' (acc.map Tr.arA++[Tr.arA y]),.int .i64 x.2.1,.int .i64 x.2.2]) hP8 t.2 k2 c6 n1 n2
  have f6':=(L8 (t:=t.1) (t':=t') (e:=93) (k:=8)).trans f6
  refine wp ?_
  refine ⟨_,Sub.refl _,?_⟩
  have em:syB s1 b6 x (acc++[y]) ⟨t',hf⟩=A6y s1 b6 39 [.str x.1,.slice t' (acc.map Tr.arA++[Tr.arA y]),.int .i64 x.2.1,.int .i64 x.2.2] t' 93 8:=by
   unfold syB
   rw [List.map_append]
   rfl
  exact ⟨⟨kd,tx,rfl⟩,acc++[y],⟨t',hf⟩,a',by rw [em];exact hP9⟩
 ·rw [hkf] at hv7
  obtain ⟨rfl,hP7⟩:=hv7
  refine wp ?_
  intro b3 hb3
  obtain ⟨m5,m6⟩:=hP7.nb hb3
  have hP8:=(hP7.box hb3 93 [.int .i64 0,.str [],.int .i64 0,.int .i64 0,.str [],.bool false,.int .i64 0,.int .i64 0]).put (hP7.sub.none hb3) m5 m6 93 (Tr.arA q)
  have h3:((s7.set b3 93 [.int .i64 0,.str [],.int .i64 0,.int .i64 0,.str [],.bool false,.int .i64 0,.int .i64 0]).set b3 93 (Tr.arA q)).bx b3=some (93,Tr.arA q):=A7
  obtain ⟨f1,f6⟩:=hbx hP8
  have may:=Pst.mayB hP8
  refine wp ?_
  refine ⟨may,fun c hc=>by obtain ⟨z,_,rfl⟩:=List.mem_map.1 hc;rfl,all_cons ⟨rfl,rfl⟩ all_nil,?_,?_⟩
  ·show ((acc.map Tr.arA).length+1) * (_+1)≤_
   rw [List.length_map]
   exact Nat.le_trans (Nat.mul_le_mul_right _ (show acc.length+1≤100001 by omega)) (Nat.le_of_ble_eq_true (by kernel_rfl))
  intro t' k1 k2
  obtain ⟨hP9,hf⟩:=Pst.grown (cs':=[.str x.1,.slice t' (acc.map Tr.arA++[Tr.arA q]),.int .i64 x.2.1,.int .i64 x.2.2]) hP8 t.2 k2 c6 n1 n2
  have f6':=(L8 (t:=t.1) (t':=t') (e:=93) (k:=8)).trans f6
  refine wp ?_
  refine ⟨_,Sub.refl _,?_⟩
  have em:syB s1 b6 x (acc++[q]) ⟨t',hf⟩=A6y s1 b6 39 [.str x.1,.slice t' (acc.map Tr.arA++[Tr.arA q]),.int .i64 x.2.1,.int .i64 x.2.2] t' 93 8:=by
   unfold syB
   rw [List.map_append]
   rfl
  exact ⟨rfl,⟨t',hf⟩,by rw [em];exact hP9⟩
theorem B9m (hE:Nu.A0l Γ) (hT:∀ i,(C8 L i).2.1.length≤5000) (hP:Pst s0 s bp bl L a o d k) (hL:L.length≤66000) (ha:a≤69000) :
  A6 Tryz.prog Γ 187 [.ptr (some ⟨bp,0,none⟩)] s (M2 s0 bp bl L o d k (fun x=>.agg (Tr.syA (0,x))) (N8 L a)):=by
 refine A4g (V:=fun t x=>.agg (Tr.syA (t,x))) (fun t x=>D90 t x) ?_
 refine acs Tryz.func187 ?_
 conv=>whnf
 intro b1 hb1
 obtain ⟨p1,p2⟩:=hP.nb hb1
 have c1:s0.bx b1=none:=hP.sub.none hb1
 have hP1:=(hP.box hb1 96 [.ptr (some ⟨bp,0,none⟩)]).keep (T:=96) (cs:=[.ptr (some ⟨bp,0,none⟩)]) A7 p1 p2
 generalize s.set b1 96 [.ptr (some ⟨bp,0,none⟩)]=sx at *
 conv=>whnf
 intro b2 hb2
 obtain ⟨m1,m2⟩:=hP1.nb hb2
 have c2:(s0.set b1 96 [.ptr (some ⟨bp,0,none⟩)]).bx b2=none:=hP1.sub.none hb2
 have n12:b1≠b2:=A8 (hP1.sub.bx _ _ A7) hb2
 have hP2:=(hP1.box hb2 39 [.str [],.slice 1 [],.int .i64 0,.int .i64 0]).keep (T:=39) (cs:=[.str [],.slice 1 [],.int .i64 0,.int .i64 0]) A7 m1 m2
 have h1in:((s0.set b1 96 [.ptr (some ⟨bp,0,none⟩)]).set b2 39 [.str [],.slice 1 [],.int .i64 0,.int .i64 0]).bx b1=some (96,[.ptr (some ⟨bp,0,none⟩)]):=(A9 n12).trans A7
 generalize hs1:(s0.set b1 96 [.ptr (some ⟨bp,0,none⟩)]).set b2 39 [.str [],.slice 1 [],.int .i64 0,.int .i64 0]=s1 at *
 have hback:∀ {s:Sto} {a:Nat},Pst s1 s bp bl L a o d k→Pst s0 s bp bl L a o d k∧s.bx b2=some (39,[.str [],.slice 1 [],.int .i64 0,.int .i64 0]):=fun h=>by
  rw [← hs1] at h
  obtain ⟨g1,g2⟩:=h.drop c2
  exact ⟨(g1.drop c1).1,g2⟩
 have d2:s0.bx b2=none:=by rw [A9 n12.symm] at c2;exact c2
 generalize sx.set b2 39 [.str [],.slice 1 [],.int .i64 0,.int .i64 0]=sa at *
 have hn:=A1j (Γ:=Γ) hP2 (by omega) (by omega)
 conv=>whnf
 repeat' ((first|exact pru|(refine brS (fun h=>?_) (fun h=>?_)<;>(try rw [h])<;>(try simp only [bS,↓reduceIte] at h))|(refine B6 (hP2.sub.bx _ _ h1in) ?_)|refine gS ?_|refine aA ?_|refine nA ?_|fail)<;>(conv=>whnf))
 refine A6.by hn ?_
 intro v s5 hv5
 unfold M2 at hv5
 unfold N8
 rcases hnf:H9 L a with x|⟨x,a1⟩
 ·rw [hnf] at hv5
  obtain ⟨y,e,a',rfl,⟨kd,tx,rfl⟩,hP5⟩:=hv5
  refine wp ?_
  intro b4 hb4
  obtain ⟨m5,m6⟩:=hP5.nb hb4
  have hP6:=(hP5.box hb4 23 [.str [],.int .i64 0,.int .i64 0]).put (hP5.sub.none hb4) m5 m6 23 (Tr.V7 y)
  obtain ⟨hP7,hb7⟩:=hback hP6
  refine wp ?_
  exact ⟨_,Sub.refl _,1,([],[],0,0),_,_,rfl,⟨kd,tx,rfl⟩,hP7.put d2 m1 m2 _ _⟩
 ·rw [hnf] at hv5
  obtain ⟨rfl,hP5⟩:=hv5
  have ha1:=A1i hnf
  refine wp ?_
  intro b4 hb4
  obtain ⟨m5,m6⟩:=hP5.nb hb4
  have hP6:=(hP5.box hb4 23 [.str [],.int .i64 0,.int .i64 0]).put (hP5.sub.none hb4) m5 m6 23 (Tr.V7 x)
  have hb4':((s5.set b4 23 [.str [],.int .i64 0,.int .i64 0]).set b4 23 (Tr.V7 x)).bx b4=some (23,Tr.V7 x):=A7
  refine wp ?_
  simp only [Tr.V7] at hP6
  generalize (s5.set b4 23 [.str [],.int .i64 0,.int .i64 0]).set b4 23 [.str x.1,.int .i64 x.2.1,.int .i64 x.2.2]=s6 at *
  intro b6 hb6
  obtain ⟨m7,m8⟩:=hP6.nb hb6
  have c6:s1.bx b6=none:=hP6.sub.none hb6
  have hP7:=((hP6.box hb6 39 [.str [],.slice 1 [],.int .i64 0,.int .i64 0]).put c6 m7 m8 39 [.str x.1,.slice 1 [],.int .i64 x.2.1,.int .i64 x.2.2]).keep (b:=b6) (T:=39) (cs:=[.str x.1,.slice 1 [],.int .i64 x.2.1,.int .i64 x.2.2]) A7 m7 m8
  have hl:=C63 (Γ:=Γ) (base:=syB s1 b6 x) (one:=A9o L) (n:=231) (cs:=[.ptr (some ⟨b1,0,none⟩),.ptr (some ⟨b6,0,none⟩)]) (t0:=⟨1,.inl rfl⟩) (by kernel_rfl) B4q (fun acc t a s ha hac hP=>D0j hE hT c6 h1in m7 m8 hL acc t ha (by omega) hP) (show Pst (A6y s1 b6 39 [.str x.1,.slice 1 [],.int .i64 x.2.1,.int .i64 x.2.2] 1 93 8) _ bp bl L a1 o d k by rw [B6o];exact hP7) hL (by omega)
  have n61:b1≠b6:=A8 h1in c6
  have hb17:=hP7.sub.bx _ _ ((A9 n61).trans h1in)
  refine wp ?_
  refine A6.by hl ?_
  intro v s9 hv9
  unfold D2p at hv9
  rcases hlf:A2t L (A9o L) a1 with z|⟨l,a2⟩
  ·rw [hlf] at hv9
   obtain ⟨⟨kd,tx,rfl⟩,l,t,a',hP9⟩:=hv9
   obtain ⟨hPa,hba,_⟩:=Pst.dropRow hP9 c6
   obtain ⟨hPb,hbb⟩:=hback hPa
   refine wp ?_
   refine ⟨_,Sub.refl _,?_⟩
   simp only [hlf]
   exact ⟨t.1,(x.1,l,x.2.1,x.2.2),_,_,rfl,⟨kd,tx,rfl⟩,hPb.put d2 m1 m2 _ _⟩
  ·rw [hlf] at hv9
   obtain ⟨rfl,t,hP9⟩:=hv9
   obtain ⟨hPa,hba,_⟩:=Pst.dropRow hP9 c6
   obtain ⟨hPb,hbb⟩:=hback hPa
   refine wp ?_
   refine ⟨_,Sub.refl _,?_⟩
   simp only [hlf]
   exact ⟨⟨t.1,rfl⟩,hPb.put d2 m1 m2 _ _⟩
end
section
variable {s0 s:Sto} {bp bl:Nat} {L:List Tok} {a:Nat} {o:List Ex} {d:List Int} {k:Int}
theorem A8d {ws:List (List UInt8)} {i:Nat} (hlt:i < ws.length) (h:isF L a (ws.getD i [])=true):P3 L a (ws.drop i)=0:=by
 rw [List.drop_eq_getElem_cons hlt,P3]
 rw [show ws.getD i []=ws[i] by simp [List.getD,hlt]] at h
 rw [if_pos h]
theorem A4m {ws:List (List UInt8)} {i:Nat} (hlt:i < ws.length) (h:isF L a (ws.getD i [])=false):P3 L a (ws.drop i)=P3 L a (ws.drop (i+1))+1:=by
 rw [List.drop_eq_getElem_cons hlt,P3]
 rw [show ws.getD i []=ws[i] by simp [List.getD,hlt]] at h
 rw [if_neg (by rw [h];decide)]
theorem A8a {ws:List (List UInt8)} {i:Nat} (hlt:i < ws.length):(D3 ws).getD ((i:Int)).toNat []=[.str (ws.getD i [])]:=by simp [D3,List.getD,hlt]
theorem sl0 {α:Type} {A:α→List AV} (t:Nat) (l:List α):Le (.slice t (l.map A)) (.slice 0 (l.map A)):=Le.slice0 _ _
theorem C9d {one:Nat→Nat→Res (Tr.De × Nat)} {n:FuncId} {cs:List AV} (hn:A3c Tryz.prog n=true) (ws:List (List UInt8)) (hws:ws.length≤100) (tk:Nat)
  (hmono:∀ i a x a1,one i a=.ok (x,a1)→a≤a1∧a1≤L.length)
  (hone:∀ (i a t:Nat) (s:Sto),i < ws.length→a≤66000→Pst (A0s s0 t 54 4) s bp bl L a o d k→A6 Tryz.prog Γ n (.int .i64 i::cs) s (M2 (A0s s0 t 54 4) bp bl L o d k (fun x=>.agg ((fun x=>Tr.deA (0,x)) x)) (one i a)))
  (hP:Pst s0 s bp bl L a o d k) (hL:L.length≤66000) (ha:a≤67000) :
  A6 Tryz.prog Γ 167 [.ptr (some ⟨bp,0,none⟩),.slice tk (D3 ws),.func (.func n) [] cs] s (M2 s0 bp bl L o d k (fun l=>.slice 0 (l.map (fun x=>Tr.deA (0,x)))) (P5 L ws one a)):=by
 refine A4g (V:=fun t l=>.slice t (l.map (fun x=>Tr.deA (0,x)))) (fun t l=>sl0 t l) ?_
 have hsl:(D3 ws).length=ws.length:=by simp [D3]
 unfold P5
 refine acs Tryz.func167 ?_
 refine wp ?_
 refine AWp.loopA [8] [9,12,13,14,15,16,17,18,19,20,21,22,23,24,25,26,27,28,29,30,31,6,7,33,34,35,32,36,37,10,11,38,39,40,41,42,43,44] (fun q:List (Tr.De) × Nat × B4e s0=>[.slice q.2.2.1 (q.1.map (fun x=>Tr.deA (0,x)))]) (fun q s'=>q.2.1≤67000∧q.1.length≤q.2.1∧Pst (A0s s0 q.2.2.1 54 4) s' bp bl L q.2.1 o d k∧∃ m,L.length - q.2.1 < m∧H2 L ws one (L.length+1) [] a=H2 L ws one m q.1 q.2.1) (fun q=>L.length - q.2.1) (([],a,⟨1,.inl rfl⟩)) (by kernel_rfl) (rfl) ?_ ?_
 ·exact ⟨ha,Nat.zero_le _,by simp only [A50];exact hP,L.length+1,by simp only;omega,rfl⟩
 ·rintro y ⟨acc,b,t⟩ s7 ⟨hb,hac,hP7,m,hm,hq⟩
  simp only at hb hac hP7 hm hq
  rw [hq]
  clear hq
  obtain ⟨m,rfl⟩:∃ m',m=m'+1:=⟨m - 1,by omega⟩
  show awp _ _ _ _ _ (updL _ _ [.slice t.1 (acc.map (fun x=>Tr.deA (0,x)))]) _
  refine wp ?_
  refine AWp.loopA [9] [12,13,14,15,16,17,18,19,20,21,22,23,24,25,26] (fun i:Nat=>[.int .i64 (i:Int)]) (fun i s'=>i≤ws.length∧Pst (A0s s0 t.1 54 4) s' bp bl L b o d k∧P3 L b ws=i+P3 L b (ws.drop i)) (fun i=>ws.length - i) (0) (by kernel_rfl) (eqa) ?_ ?_
  ·exact ⟨Nat.zero_le _,hP7,by rw [List.drop_zero,Nat.zero_add]⟩
  ·rintro y2 i s8 ⟨hi,hP8,hw⟩
   show awp _ _ _ _ _ (updL _ _ [.int .i64 (i:Int)]) _
   conv=>whnf
   by_cases hlt:i < ws.length
   ·have hg:=A8a hlt
    have hw2:IntKind.i64.wrap ((i:Int)+1)=((i+1:Nat):Int):=C7 (by omega) (by omega) (by omega)
    cases h1:isF L b (ws.getD i [])
    ·have hpast:=A4m hlt h1
     generalize ws.getD i []=w at *
     have htk:=W6 (Γ:=Γ) hP8 (by omega) (by omega) w
     rw [h1] at htk
     simp only [Bool.false_eq_true,if_false] at htk
     refine wp ?_;(refine A6.by htk ?_;rintro _ s9 ⟨rfl,hP9⟩);refine wp ?_;(rw [hw2]);refine wp ?_
     exact ⟨i+1,eqa,C5,⟨hlt,hP9,by omega⟩,by omega⟩
    ·have hat:=A8d hlt h1
     have hlt2:=H0 h1
     rw [hat,Nat.add_zero] at hw
     generalize ws.getD i []=w at *
     have htk:=W6 (Γ:=Γ) hP8 (by omega) (by omega) w
     rw [h1] at htk
     simp only [if_true] at htk
     repeat' ((first|exact pru|(refine brS (fun h=>?_) (fun h=>?_)<;>(try rw [h])<;>(try simp only [bS,↓reduceIte] at h))|refine ⟨A9u (hg) rfl,Go.Ab.A2g (hg) ?_⟩|(refine A6.by htk ?_;rintro _ s9 ⟨rfl,hP9⟩)|refine gS ?_|refine aA ?_|refine nA ?_|fail)<;>(conv=>whnf))
     have ho:=hone i (b+1) t.1 s9 hlt (by omega) hP9
     rotate_left
     ·rw [hn] at h;cases h
     rw [E8]
     refine A6.by ho ?_
     intro v sa hva
     unfold M2 at hva
     rcases hof:one i (b+1) with z|⟨x,b1⟩
     ·have e3:H2 L ws one (m+1) acc b=.error z:=by rw [H2,hw,if_neg (by omega),hof]
      rw [hof] at hva
      obtain ⟨yy,e,a',rfl,⟨kd,tx,rfl⟩,hPa⟩:=hva
      refine wp ?_
      intro bq hbq
      have hPb:=(hPa.box hbq 54 [.str [],.int .i64 0,.int .i64 0,.slice 1 []])
      obtain ⟨m5,m6⟩:=hPa.nb hbq
      have hPc:=hPb.put (hPa.sub.none hbq) m5 m6 54 ((fun x=>Tr.deA (0,x)) yy)
      refine wp ?_
      refine ⟨_,Sub.refl _,?_⟩
      rw [e3]
      exact ⟨1,[],_,_,rfl,⟨kd,tx,rfl⟩,hPc.dropS.1⟩
     ·have e3:H2 L ws one (m+1) acc b=H2 L ws one m (acc++[x]) b1:=by rw [H2,hw,if_neg (by omega),hof]
      obtain ⟨g1,g2⟩:=hmono _ _ _ _ hof
      rw [hof] at hva
      obtain ⟨rfl,hPa⟩:=hva
      refine wp ?_
      intro bq hbq
      have hPb:=(hPa.box hbq 54 [.str [],.int .i64 0,.int .i64 0,.slice 1 []])
      obtain ⟨m5,m6⟩:=hPa.nb hbq
      have hPc:=hPb.put (hPa.sub.none hbq) m5 m6 54 ((fun x=>Tr.deA (0,x)) x)
      refine wp ?_
      refine ⟨hPc.mayS,fun c hc=>by obtain ⟨z,_,rfl⟩:=List.mem_map.1 hc;rfl,all_cons ⟨rfl,rfl⟩ all_nil,?_,?_⟩
      ·show ((acc.map (fun x=>Tr.deA (0,x))).length+1) * (_+1)≤_
       rw [List.length_map]
       exact Nat.le_trans (Nat.mul_le_mul_right _ (show acc.length+1≤100001 by omega)) (Nat.le_of_ble_eq_true (by kernel_rfl))
      intro t' k1 k2
      obtain ⟨hPd,hf⟩:=hPc.grownS t.2 k2
      refine wp ?_
      refine ⟨(acc++[x],b1,⟨t',hf⟩),?_,C5,⟨by simp only;omega,by simp only [List.length_append,List.length_cons,List.length_nil];omega,hPd,m,by simp only;omega,e3⟩,by simp only;omega⟩
      rw [List.map_append]
      rfl
   ·obtain rfl:i=ws.length:=by omega
    rw [List.drop_length,show P3 L b []=0 from rfl,Nat.add_zero] at hw
    have e3:H2 L ws one (m+1) acc b=.ok (acc,b):=by rw [H2,if_pos hw]
    refine wp ?_
    refine ⟨_,Sub.refl _,?_⟩
    rw [e3]
    exact ⟨⟨t.1,rfl⟩,hP8.dropS.1⟩
theorem C9f {one:Nat→Nat→Res (Tr.Qu × Nat)} {n:FuncId} {cs:List AV} (hn:A3c Tryz.prog n=true) (ws:List (List UInt8)) (hws:ws.length≤100) (tk:Nat)
  (hmono:∀ i a x a1,one i a=.ok (x,a1)→a≤a1∧a1≤L.length)
  (hone:∀ (i a t:Nat) (s:Sto),i < ws.length→a≤66000→Pst (A0s s0 t 75 5) s bp bl L a o d k→A6 Tryz.prog Γ n (.int .i64 i::cs) s (M2 (A0s s0 t 75 5) bp bl L o d k (fun x=>.agg ((Tr.quA) x)) (one i a)))
  (hP:Pst s0 s bp bl L a o d k) (hL:L.length≤66000) (ha:a≤67000) :
  A6 Tryz.prog Γ 171 [.ptr (some ⟨bp,0,none⟩),.slice tk (D3 ws),.func (.func n) [] cs] s (M2 s0 bp bl L o d k (fun l=>.slice 0 (l.map (Tr.quA))) (P5 L ws one a)):=by
 refine A4g (V:=fun t l=>.slice t (l.map (Tr.quA))) (fun t l=>sl0 t l) ?_
 have hsl:(D3 ws).length=ws.length:=by simp [D3]
 unfold P5
 refine acs Tryz.func171 ?_
 refine wp ?_
 refine AWp.loopA [8] [9,12,13,14,15,16,17,18,19,20,21,22,23,24,25,26,27,28,29,30,31,6,7,33,34,35,32,36,37,10,11,38,39,40,41,42,43,44] (fun q:List (Tr.Qu) × Nat × B4e s0=>[.slice q.2.2.1 (q.1.map (Tr.quA))]) (fun q s'=>q.2.1≤67000∧q.1.length≤q.2.1∧Pst (A0s s0 q.2.2.1 75 5) s' bp bl L q.2.1 o d k∧∃ m,L.length - q.2.1 < m∧H2 L ws one (L.length+1) [] a=H2 L ws one m q.1 q.2.1) (fun q=>L.length - q.2.1) (([],a,⟨1,.inl rfl⟩)) (by kernel_rfl) (rfl) ?_ ?_
 ·exact ⟨ha,Nat.zero_le _,by simp only [A50];exact hP,L.length+1,by simp only;omega,rfl⟩
 ·rintro y ⟨acc,b,t⟩ s7 ⟨hb,hac,hP7,m,hm,hq⟩
  simp only at hb hac hP7 hm hq
  rw [hq]
  clear hq
  obtain ⟨m,rfl⟩:∃ m',m=m'+1:=⟨m - 1,by omega⟩
  show awp _ _ _ _ _ (updL _ _ [.slice t.1 (acc.map (Tr.quA))]) _
  refine wp ?_
  refine AWp.loopA [9] [12,13,14,15,16,17,18,19,20,21,22,23,24,25,26] (fun i:Nat=>[.int .i64 (i:Int)]) (fun i s'=>i≤ws.length∧Pst (A0s s0 t.1 75 5) s' bp bl L b o d k∧P3 L b ws=i+P3 L b (ws.drop i)) (fun i=>ws.length - i) (0) (by kernel_rfl) (eqa) ?_ ?_
  ·exact ⟨Nat.zero_le _,hP7,by rw [List.drop_zero,Nat.zero_add]⟩
  ·rintro y2 i s8 ⟨hi,hP8,hw⟩
   show awp _ _ _ _ _ (updL _ _ [.int .i64 (i:Int)]) _
   conv=>whnf
   by_cases hlt:i < ws.length
   ·have hg:=A8a hlt
    have hw2:IntKind.i64.wrap ((i:Int)+1)=((i+1:Nat):Int):=C7 (by omega) (by omega) (by omega)
    cases h1:isF L b (ws.getD i [])
    ·have hpast:=A4m hlt h1
     generalize ws.getD i []=w at *
     have htk:=W6 (Γ:=Γ) hP8 (by omega) (by omega) w
     rw [h1] at htk
     simp only [Bool.false_eq_true,if_false] at htk
     refine wp ?_;(refine A6.by htk ?_;rintro _ s9 ⟨rfl,hP9⟩);refine wp ?_;(rw [hw2]);refine wp ?_
     exact ⟨i+1,eqa,C5,⟨hlt,hP9,by omega⟩,by omega⟩
    ·have hat:=A8d hlt h1
     have hlt2:=H0 h1
     rw [hat,Nat.add_zero] at hw
     generalize ws.getD i []=w at *
     have htk:=W6 (Γ:=Γ) hP8 (by omega) (by omega) w
     rw [h1] at htk
     simp only [if_true] at htk
     repeat' ((first|exact pru|(refine brS (fun h=>?_) (fun h=>?_)<;>(try rw [h])<;>(try simp only [bS,↓reduceIte] at h))|refine ⟨A9u (hg) rfl,Go.Ab.A2g (hg) ?_⟩|(refine A6.by htk ?_;rintro _ s9 ⟨rfl,hP9⟩)|refine gS ?_|refine aA ?_|refine nA ?_|fail)<;>(conv=>whnf))
     have ho:=hone i (b+1) t.1 s9 hlt (by omega) hP9
     rotate_left
     ·rw [hn] at h;cases h
     rw [E8]
     refine A6.by ho ?_
     intro v sa hva
     unfold M2 at hva
     rcases hof:one i (b+1) with z|⟨x,b1⟩
     ·have e3:H2 L ws one (m+1) acc b=.error z:=by rw [H2,hw,if_neg (by omega),hof]
      rw [hof] at hva
      obtain ⟨yy,e,a',rfl,⟨kd,tx,rfl⟩,hPa⟩:=hva
      refine wp ?_
      intro bq hbq
      have hPb:=(hPa.box hbq 75 [.bool false,.str [],.int .i64 0,.int .i64 0,.int .i64 0])
      obtain ⟨m5,m6⟩:=hPa.nb hbq
      have hPc:=hPb.put (hPa.sub.none hbq) m5 m6 75 ((Tr.quA) yy)
      refine wp ?_
      refine ⟨_,Sub.refl _,?_⟩
      rw [e3]
      exact ⟨1,[],_,_,rfl,⟨kd,tx,rfl⟩,hPc.dropS.1⟩
     ·have e3:H2 L ws one (m+1) acc b=H2 L ws one m (acc++[x]) b1:=by rw [H2,hw,if_neg (by omega),hof]
      obtain ⟨g1,g2⟩:=hmono _ _ _ _ hof
      rw [hof] at hva
      obtain ⟨rfl,hPa⟩:=hva
      refine wp ?_
      intro bq hbq
      have hPb:=(hPa.box hbq 75 [.bool false,.str [],.int .i64 0,.int .i64 0,.int .i64 0])
      obtain ⟨m5,m6⟩:=hPa.nb hbq
      have hPc:=hPb.put (hPa.sub.none hbq) m5 m6 75 ((Tr.quA) x)
      refine wp ?_
      refine ⟨hPc.mayS,fun c hc=>by obtain ⟨z,_,rfl⟩:=List.mem_map.1 hc;rfl,all_cons ⟨rfl,rfl⟩ all_nil,?_,?_⟩
      ·show ((acc.map (Tr.quA)).length+1) * (_+1)≤_
       rw [List.length_map]
       exact Nat.le_trans (Nat.mul_le_mul_right _ (show acc.length+1≤100001 by omega)) (Nat.le_of_ble_eq_true (by kernel_rfl))
      intro t' k1 k2
      obtain ⟨hPd,hf⟩:=hPc.grownS t.2 k2
      refine wp ?_
      refine ⟨(acc++[x],b1,⟨t',hf⟩),?_,C5,⟨by simp only;omega,by simp only [List.length_append,List.length_cons,List.length_nil];omega,hPd,m,by simp only;omega,e3⟩,by simp only;omega⟩
      rw [List.map_append]
      rfl
   ·obtain rfl:i=ws.length:=by omega
    rw [List.drop_length,show P3 L b []=0 from rfl,Nat.add_zero] at hw
    have e3:H2 L ws one (m+1) acc b=.ok (acc,b):=by rw [H2,if_pos hw]
    refine wp ?_
    refine ⟨_,Sub.refl _,?_⟩
    rw [e3]
    exact ⟨⟨t.1,rfl⟩,hP8.dropS.1⟩
theorem C9e {one:Nat→Nat→Res (Tr.Fr × Nat)} {n:FuncId} {cs:List AV} (hn:A3c Tryz.prog n=true) (ws:List (List UInt8)) (hws:ws.length≤100) (tk:Nat)
  (hmono:∀ i a x a1,one i a=.ok (x,a1)→a≤a1∧a1≤L.length)
  (hone:∀ (i a t:Nat) (s:Sto),i < ws.length→a≤66000→Pst (A0s s0 t 58 7) s bp bl L a o d k→A6 Tryz.prog Γ n (.int .i64 i::cs) s (M2 (A0s s0 t 58 7) bp bl L o d k (fun x=>.agg ((Tr.frA) x)) (one i a)))
  (hP:Pst s0 s bp bl L a o d k) (hL:L.length≤66000) (ha:a≤67000) :
  A6 Tryz.prog Γ 175 [.ptr (some ⟨bp,0,none⟩),.slice tk (D3 ws),.func (.func n) [] cs] s (M2 s0 bp bl L o d k (fun l=>.slice 0 (l.map (Tr.frA))) (P5 L ws one a)):=by
 refine A4g (V:=fun t l=>.slice t (l.map (Tr.frA))) (fun t l=>sl0 t l) ?_
 have hsl:(D3 ws).length=ws.length:=by simp [D3]
 unfold P5
 refine acs Tryz.func175 ?_
 refine wp ?_
 refine AWp.loopA [8] [9,12,13,14,15,16,17,18,19,20,21,22,23,24,25,26,27,28,29,30,31,6,7,33,34,35,32,36,37,10,11,38,39,40,41,42,43,44] (fun q:List (Tr.Fr) × Nat × B4e s0=>[.slice q.2.2.1 (q.1.map (Tr.frA))]) (fun q s'=>q.2.1≤67000∧q.1.length≤q.2.1∧Pst (A0s s0 q.2.2.1 58 7) s' bp bl L q.2.1 o d k∧∃ m,L.length - q.2.1 < m∧H2 L ws one (L.length+1) [] a=H2 L ws one m q.1 q.2.1) (fun q=>L.length - q.2.1) (([],a,⟨1,.inl rfl⟩)) (by kernel_rfl) (rfl) ?_ ?_
 ·exact ⟨ha,Nat.zero_le _,by simp only [A50];exact hP,L.length+1,by simp only;omega,rfl⟩
 ·rintro y ⟨acc,b,t⟩ s7 ⟨hb,hac,hP7,m,hm,hq⟩
  simp only at hb hac hP7 hm hq
  rw [hq]
  clear hq
  obtain ⟨m,rfl⟩:∃ m',m=m'+1:=⟨m - 1,by omega⟩
  show awp _ _ _ _ _ (updL _ _ [.slice t.1 (acc.map (Tr.frA))]) _
  refine wp ?_
  refine AWp.loopA [9] [12,13,14,15,16,17,18,19,20,21,22,23,24,25,26] (fun i:Nat=>[.int .i64 (i:Int)]) (fun i s'=>i≤ws.length∧Pst (A0s s0 t.1 58 7) s' bp bl L b o d k∧P3 L b ws=i+P3 L b (ws.drop i)) (fun i=>ws.length - i) (0) (by kernel_rfl) (eqa) ?_ ?_
  ·exact ⟨Nat.zero_le _,hP7,by rw [List.drop_zero,Nat.zero_add]⟩
  ·rintro y2 i s8 ⟨hi,hP8,hw⟩
   show awp _ _ _ _ _ (updL _ _ [.int .i64 (i:Int)]) _
   conv=>whnf
   by_cases hlt:i < ws.length
   ·have hg:=A8a hlt
    have hw2:IntKind.i64.wrap ((i:Int)+1)=((i+1:Nat):Int):=C7 (by omega) (by omega) (by omega)
    cases h1:isF L b (ws.getD i [])
    ·have hpast:=A4m hlt h1
     generalize ws.getD i []=w at *
     have htk:=W6 (Γ:=Γ) hP8 (by omega) (by omega) w
     rw [h1] at htk
     simp only [Bool.false_eq_true,if_false] at htk
     refine wp ?_;(refine A6.by htk ?_;rintro _ s9 ⟨rfl,hP9⟩);refine wp ?_;(rw [hw2]);refine wp ?_
     exact ⟨i+1,eqa,C5,⟨hlt,hP9,by omega⟩,by omega⟩
    ·have hat:=A8d hlt h1
     have hlt2:=H0 h1
     rw [hat,Nat.add_zero] at hw
     generalize ws.getD i []=w at *
     have htk:=W6 (Γ:=Γ) hP8 (by omega) (by omega) w
     rw [h1] at htk
     simp only [if_true] at htk
     repeat' ((first|exact pru|(refine brS (fun h=>?_) (fun h=>?_)<;>(try rw [h])<;>(try simp only [bS,↓reduceIte] at h))|refine ⟨A9u (hg) rfl,Go.Ab.A2g (hg) ?_⟩|(refine A6.by htk ?_;rintro _ s9 ⟨rfl,hP9⟩)|refine gS ?_|refine aA ?_|refine nA ?_|fail)<;>(conv=>whnf))
     have ho:=hone i (b+1) t.1 s9 hlt (by omega) hP9
     rotate_left
     ·rw [hn] at h;cases h
     rw [E8]
     refine A6.by ho ?_
     intro v sa hva
     unfold M2 at hva
     rcases hof:one i (b+1) with z|⟨x,b1⟩
     ·have e3:H2 L ws one (m+1) acc b=.error z:=by rw [H2,hw,if_neg (by omega),hof]
      rw [hof] at hva
      obtain ⟨yy,e,a',rfl,⟨kd,tx,rfl⟩,hPa⟩:=hva
      refine wp ?_
      intro bq hbq
      have hPb:=(hPa.box hbq 58 [.str [],.int .i64 0,.int .i64 0,.int .i64 0,.int .i64 0,.str [],.bool false])
      obtain ⟨m5,m6⟩:=hPa.nb hbq
      have hPc:=hPb.put (hPa.sub.none hbq) m5 m6 58 ((Tr.frA) yy)
      refine wp ?_
      refine ⟨_,Sub.refl _,?_⟩
      rw [e3]
      exact ⟨1,[],_,_,rfl,⟨kd,tx,rfl⟩,hPc.dropS.1⟩
     ·have e3:H2 L ws one (m+1) acc b=H2 L ws one m (acc++[x]) b1:=by rw [H2,hw,if_neg (by omega),hof]
      obtain ⟨g1,g2⟩:=hmono _ _ _ _ hof
      rw [hof] at hva
      obtain ⟨rfl,hPa⟩:=hva
      refine wp ?_
      intro bq hbq
      have hPb:=(hPa.box hbq 58 [.str [],.int .i64 0,.int .i64 0,.int .i64 0,.int .i64 0,.str [],.bool false])
      obtain ⟨m5,m6⟩:=hPa.nb hbq
      have hPc:=hPb.put (hPa.sub.none hbq) m5 m6 58 ((Tr.frA) x)
      refine wp ?_
      refine ⟨hPc.mayS,fun c hc=>by obtain ⟨z,_,rfl⟩:=List.mem_map.1 hc;rfl,all_cons ⟨rfl,rfl⟩ all_nil,?_,?_⟩
      ·show ((acc.map (Tr.frA)).length+1) * (_+1)≤_
       rw [List.length_map]
       exact Nat.le_trans (Nat.mul_le_mul_right _ (show acc.length+1≤100001 by omega)) (Nat.le_of_ble_eq_true (by kernel_rfl))
      intro t' k1 k2
      obtain ⟨hPd,hf⟩:=hPc.grownS t.2 k2
      refine wp ?_
      refine ⟨(acc++[x],b1,⟨t',hf⟩),?_,C5,⟨by simp only;omega,by simp only [List.length_append,List.length_cons,List.length_nil];omega,hPd,m,by simp only;omega,e3⟩,by simp only;omega⟩
      rw [List.map_append]
      rfl
   ·obtain rfl:i=ws.length:=by omega
    rw [List.drop_length,show P3 L b []=0 from rfl,Nat.add_zero] at hw
    have e3:H2 L ws one (m+1) acc b=.ok (acc,b):=by rw [H2,if_pos hw]
    refine wp ?_
    refine ⟨_,Sub.refl _,?_⟩
    rw [e3]
    exact ⟨⟨t.1,rfl⟩,hP8.dropS.1⟩
theorem C9g {one:Nat→Nat→Res (Tr.St × Nat)} {n:FuncId} {cs:List AV} (hn:A3c Tryz.prog n=true) (ws:List (List UInt8)) (hws:ws.length≤100) (tk:Nat)
  (hmono:∀ i a x a1,one i a=.ok (x,a1)→a≤a1∧a1≤L.length)
  (hone:∀ (i a t:Nat) (s:Sto),i < ws.length→a≤66000→Pst (A0s s0 t 84 5) s bp bl L a o d k→A6 Tryz.prog Γ n (.int .i64 i::cs) s (M2 (A0s s0 t 84 5) bp bl L o d k (fun x=>.agg ((Tr.stA) x)) (one i a)))
  (hP:Pst s0 s bp bl L a o d k) (hL:L.length≤66000) (ha:a≤67000) :
  A6 Tryz.prog Γ 179 [.ptr (some ⟨bp,0,none⟩),.slice tk (D3 ws),.func (.func n) [] cs] s (M2 s0 bp bl L o d k (fun l=>.slice 0 (l.map (Tr.stA))) (P5 L ws one a)):=by
 refine A4g (V:=fun t l=>.slice t (l.map (Tr.stA))) (fun t l=>sl0 t l) ?_
 have hsl:(D3 ws).length=ws.length:=by simp [D3]
 unfold P5
 refine acs Tryz.func179 ?_
 refine wp ?_
 refine AWp.loopA [8] [9,12,13,14,15,16,17,18,19,20,21,22,23,24,25,26,27,28,29,30,31,6,7,33,34,35,32,36,37,10,11,38,39,40,41,42,43,44] (fun q:List (Tr.St) × Nat × B4e s0=>[.slice q.2.2.1 (q.1.map (Tr.stA))]) (fun q s'=>q.2.1≤67000∧q.1.length≤q.2.1∧Pst (A0s s0 q.2.2.1 84 5) s' bp bl L q.2.1 o d k∧∃ m,L.length - q.2.1 < m∧H2 L ws one (L.length+1) [] a=H2 L ws one m q.1 q.2.1) (fun q=>L.length - q.2.1) (([],a,⟨1,.inl rfl⟩)) (by kernel_rfl) (rfl) ?_ ?_
 ·exact ⟨ha,Nat.zero_le _,by simp only [A50];exact hP,L.length+1,by simp only;omega,rfl⟩
 ·rintro y ⟨acc,b,t⟩ s7 ⟨hb,hac,hP7,m,hm,hq⟩
  simp only at hb hac hP7 hm hq
  rw [hq]
  clear hq
  obtain ⟨m,rfl⟩:∃ m',m=m'+1:=⟨m - 1,by omega⟩
  show awp _ _ _ _ _ (updL _ _ [.slice t.1 (acc.map (Tr.stA))]) _
  refine wp ?_
  refine AWp.loopA [9] [12,13,14,15,16,17,18,19,20,21,22,23,24,25,26] (fun i:Nat=>[.int .i64 (i:Int)]) (fun i s'=>i≤ws.length∧Pst (A0s s0 t.1 84 5) s' bp bl L b o d k∧P3 L b ws=i+P3 L b (ws.drop i)) (fun i=>ws.length - i) (0) (by kernel_rfl) (eqa) ?_ ?_
  ·exact ⟨Nat.zero_le _,hP7,by rw [List.drop_zero,Nat.zero_add]⟩
  ·rintro y2 i s8 ⟨hi,hP8,hw⟩
   show awp _ _ _ _ _ (updL _ _ [.int .i64 (i:Int)]) _
   conv=>whnf
   by_cases hlt:i < ws.length
   ·have hg:=A8a hlt
    have hw2:IntKind.i64.wrap ((i:Int)+1)=((i+1:Nat):Int):=C7 (by omega) (by omega) (by omega)
    cases h1:isF L b (ws.getD i [])
    ·have hpast:=A4m hlt h1
     generalize ws.getD i []=w at *
     have htk:=W6 (Γ:=Γ) hP8 (by omega) (by omega) w
     rw [h1] at htk
     simp only [Bool.false_eq_true,if_false] at htk
     refine wp ?_;(refine A6.by htk ?_;rintro _ s9 ⟨rfl,hP9⟩);refine wp ?_;(rw [hw2]);refine wp ?_
     exact ⟨i+1,eqa,C5,⟨hlt,hP9,by omega⟩,by omega⟩
    ·have hat:=A8d hlt h1
     have hlt2:=H0 h1
     rw [hat,Nat.add_zero] at hw
     generalize ws.getD i []=w at *
     have htk:=W6 (Γ:=Γ) hP8 (by omega) (by omega) w
     rw [h1] at htk
     simp only [if_true] at htk
     repeat' ((first|exact pru|(refine brS (fun h=>?_) (fun h=>?_)<;>(try rw [h])<;>(try simp only [bS,↓reduceIte] at h))|refine ⟨A9u (hg) rfl,Go.Ab.A2g (hg) ?_⟩|(refine A6.by htk ?_;rintro _ s9 ⟨rfl,hP9⟩)|refine gS ?_|refine aA ?_|refine nA ?_|fail)<;>(conv=>whnf))
     have ho:=hone i (b+1) t.1 s9 hlt (by omega) hP9
     rotate_left
     ·rw [hn] at h;cases h
     rw [E8]
     refine A6.by ho ?_
     intro v sa hva
     unfold M2 at hva
     rcases hof:one i (b+1) with z|⟨x,b1⟩
     ·have e3:H2 L ws one (m+1) acc b=.error z:=by rw [H2,hw,if_neg (by omega),hof]
      rw [hof] at hva
      obtain ⟨yy,e,a',rfl,⟨kd,tx,rfl⟩,hPa⟩:=hva
      refine wp ?_
      intro bq hbq
      have hPb:=(hPa.box hbq 84 [.str [],.int .i64 0,.int .i64 0,.bool false,.bool false])
      obtain ⟨m5,m6⟩:=hPa.nb hbq
      have hPc:=hPb.put (hPa.sub.none hbq) m5 m6 84 ((Tr.stA) yy)
      refine wp ?_
      refine ⟨_,Sub.refl _,?_⟩
      rw [e3]
      exact ⟨1,[],_,_,rfl,⟨kd,tx,rfl⟩,hPc.dropS.1⟩
     ·have e3:H2 L ws one (m+1) acc b=H2 L ws one m (acc++[x]) b1:=by rw [H2,hw,if_neg (by omega),hof]
      obtain ⟨g1,g2⟩:=hmono _ _ _ _ hof
      rw [hof] at hva
      obtain ⟨rfl,hPa⟩:=hva
      refine wp ?_
      intro bq hbq
      have hPb:=(hPa.box hbq 84 [.str [],.int .i64 0,.int .i64 0,.bool false,.bool false])
      obtain ⟨m5,m6⟩:=hPa.nb hbq
      have hPc:=hPb.put (hPa.sub.none hbq) m5 m6 84 ((Tr.stA) x)
      refine wp ?_
      refine ⟨hPc.mayS,fun c hc=>by obtain ⟨z,_,rfl⟩:=List.mem_map.1 hc;rfl,all_cons ⟨rfl,rfl⟩ all_nil,?_,?_⟩
      ·show ((acc.map (Tr.stA)).length+1) * (_+1)≤_
       rw [List.length_map]
       exact Nat.le_trans (Nat.mul_le_mul_right _ (show acc.length+1≤100001 by omega)) (Nat.le_of_ble_eq_true (by kernel_rfl))
      intro t' k1 k2
      obtain ⟨hPd,hf⟩:=hPc.grownS t.2 k2
      refine wp ?_
      refine ⟨(acc++[x],b1,⟨t',hf⟩),?_,C5,⟨by simp only;omega,by simp only [List.length_append,List.length_cons,List.length_nil];omega,hPd,m,by simp only;omega,e3⟩,by simp only;omega⟩
      rw [List.map_append]
      rfl
   ·obtain rfl:i=ws.length:=by omega
    rw [List.drop_length,show P3 L b []=0 from rfl,Nat.add_zero] at hw
    have e3:H2 L ws one (m+1) acc b=.ok (acc,b):=by rw [H2,if_pos hw]
    refine wp ?_
    refine ⟨_,Sub.refl _,?_⟩
    rw [e3]
    exact ⟨⟨t.1,rfl⟩,hP8.dropS.1⟩
theorem C9h {one:Nat→Nat→Res (Tr.Sy × Nat)} {n:FuncId} {cs:List AV} (hn:A3c Tryz.prog n=true) (ws:List (List UInt8)) (hws:ws.length≤100) (tk:Nat)
  (hmono:∀ i a x a1,one i a=.ok (x,a1)→a≤a1∧a1≤L.length)
  (hone:∀ (i a t:Nat) (s:Sto),i < ws.length→a≤66000→Pst (A0s s0 t 39 4) s bp bl L a o d k→A6 Tryz.prog Γ n (.int .i64 i::cs) s (M2 (A0s s0 t 39 4) bp bl L o d k (fun x=>.agg ((fun x=>Tr.syA (0,x)) x)) (one i a)))
  (hP:Pst s0 s bp bl L a o d k) (hL:L.length≤66000) (ha:a≤67000) :
  A6 Tryz.prog Γ 185 [.ptr (some ⟨bp,0,none⟩),.slice tk (D3 ws),.func (.func n) [] cs] s (M2 s0 bp bl L o d k (fun l=>.slice 0 (l.map (fun x=>Tr.syA (0,x)))) (P5 L ws one a)):=by
 refine A4g (V:=fun t l=>.slice t (l.map (fun x=>Tr.syA (0,x)))) (fun t l=>sl0 t l) ?_
 have hsl:(D3 ws).length=ws.length:=by simp [D3]
 unfold P5
 refine acs Tryz.func185 ?_
 refine wp ?_
 refine AWp.loopA [8] [9,12,13,14,15,16,17,18,19,20,21,22,23,24,25,26,27,28,29,30,31,6,7,33,34,35,32,36,37,10,11,38,39,40,41,42,43,44] (fun q:List (Tr.Sy) × Nat × B4e s0=>[.slice q.2.2.1 (q.1.map (fun x=>Tr.syA (0,x)))]) (fun q s'=>q.2.1≤67000∧q.1.length≤q.2.1∧Pst (A0s s0 q.2.2.1 39 4) s' bp bl L q.2.1 o d k∧∃ m,L.length - q.2.1 < m∧H2 L ws one (L.length+1) [] a=H2 L ws one m q.1 q.2.1) (fun q=>L.length - q.2.1) (([],a,⟨1,.inl rfl⟩)) (by kernel_rfl) (rfl) ?_ ?_
 ·exact ⟨ha,Nat.zero_le _,by simp only [A50];exact hP,L.length+1,by simp only;omega,rfl⟩
 ·rintro y ⟨acc,b,t⟩ s7 ⟨hb,hac,hP7,m,hm,hq⟩
  simp only at hb hac hP7 hm hq
  rw [hq]
  clear hq
  obtain ⟨m,rfl⟩:∃ m',m=m'+1:=⟨m - 1,by omega⟩
  show awp _ _ _ _ _ (updL _ _ [.slice t.1 (acc.map (fun x=>Tr.syA (0,x)))]) _
  refine wp ?_
  refine AWp.loopA [9] [12,13,14,15,16,17,18,19,20,21,22,23,24,25,26] (fun i:Nat=>[.int .i64 (i:Int)]) (fun i s'=>i≤ws.length∧Pst (A0s s0 t.1 39 4) s' bp bl L b o d k∧P3 L b ws=i+P3 L b (ws.drop i)) (fun i=>ws.length - i) (0) (by kernel_rfl) (eqa) ?_ ?_
  ·exact ⟨Nat.zero_le _,hP7,by rw [List.drop_zero,Nat.zero_add]⟩
  ·rintro y2 i s8 ⟨hi,hP8,hw⟩
   show awp _ _ _ _ _ (updL _ _ [.int .i64 (i:Int)]) _
   conv=>whnf
   by_cases hlt:i < ws.length
   ·have hg:=A8a hlt
    have hw2:IntKind.i64.wrap ((i:Int)+1)=((i+1:Nat):Int):=C7 (by omega) (by omega) (by omega)
    cases h1:isF L b (ws.getD i [])
    ·have hpast:=A4m hlt h1
     generalize ws.getD i []=w at *
     have htk:=W6 (Γ:=Γ) hP8 (by omega) (by omega) w
     rw [h1] at htk
     simp only [Bool.false_eq_true,if_false] at htk
     refine wp ?_;(refine A6.by htk ?_;rintro _ s9 ⟨rfl,hP9⟩);refine wp ?_;(rw [hw2]);refine wp ?_
     exact ⟨i+1,eqa,C5,⟨hlt,hP9,by omega⟩,by omega⟩
    ·have hat:=A8d hlt h1
     have hlt2:=H0 h1
     rw [hat,Nat.add_zero] at hw
     generalize ws.getD i []=w at *
     have htk:=W6 (Γ:=Γ) hP8 (by omega) (by omega) w
     rw [h1] at htk
     simp only [if_true] at htk
     repeat' ((first|exact pru|(refine brS (fun h=>?_) (fun h=>?_)<;>(try rw [h])<;>(try simp only [bS,↓reduceIte] at h))|refine ⟨A9u (hg) rfl,Go.Ab.A2g (hg) ?_⟩|(refine A6.by htk ?_;rintro _ s9 ⟨rfl,hP9⟩)|refine gS ?_|refine aA ?_|refine nA ?_|fail)<;>(conv=>whnf))
     have ho:=hone i (b+1) t.1 s9 hlt (by omega) hP9
     rotate_left
     ·rw [hn] at h;cases h
     rw [E8]
     refine A6.by ho ?_
     intro v sa hva
     unfold M2 at hva
     rcases hof:one i (b+1) with z|⟨x,b1⟩
     ·have e3:H2 L ws one (m+1) acc b=.error z:=by rw [H2,hw,if_neg (by omega),hof]
      rw [hof] at hva
      obtain ⟨yy,e,a',rfl,⟨kd,tx,rfl⟩,hPa⟩:=hva
      refine wp ?_
      intro bq hbq
      have hPb:=(hPa.box hbq 39 [.str [],.slice 1 [],.int .i64 0,.int .i64 0])
      obtain ⟨m5,m6⟩:=hPa.nb hbq
      have hPc:=hPb.put (hPa.sub.none hbq) m5 m6 39 ((fun x=>Tr.syA (0,x)) yy)
      refine wp ?_
      refine ⟨_,Sub.refl _,?_⟩
      rw [e3]
      exact ⟨1,[],_,_,rfl,⟨kd,tx,rfl⟩,hPc.dropS.1⟩
     ·have e3:H2 L ws one (m+1) acc b=H2 L ws one m (acc++[x]) b1:=by rw [H2,hw,if_neg (by omega),hof]
      obtain ⟨g1,g2⟩:=hmono _ _ _ _ hof
      rw [hof] at hva
      obtain ⟨rfl,hPa⟩:=hva
      refine wp ?_
      intro bq hbq
      have hPb:=(hPa.box hbq 39 [.str [],.slice 1 [],.int .i64 0,.int .i64 0])
      obtain ⟨m5,m6⟩:=hPa.nb hbq
      have hPc:=hPb.put (hPa.sub.none hbq) m5 m6 39 ((fun x=>Tr.syA (0,x)) x)
      refine wp ?_
      refine ⟨hPc.mayS,fun c hc=>by obtain ⟨z,_,rfl⟩:=List.mem_map.1 hc;rfl,all_cons ⟨rfl,rfl⟩ all_nil,?_,?_⟩
      ·show ((acc.map (fun x=>Tr.syA (0,x))).length+1) * (_+1)≤_
       rw [List.length_map]
       exact Nat.le_trans (Nat.mul_le_mul_right _ (show acc.length+1≤100001 by omega)) (Nat.le_of_ble_eq_true (by kernel_rfl))
      intro t' k1 k2
      obtain ⟨hPd,hf⟩:=hPc.grownS t.2 k2
      refine wp ?_
      refine ⟨(acc++[x],b1,⟨t',hf⟩),?_,C5,⟨by simp only;omega,by simp only [List.length_append,List.length_cons,List.length_nil];omega,hPd,m,by simp only;omega,e3⟩,by simp only;omega⟩
      rw [List.map_append]
      rfl
   ·obtain rfl:i=ws.length:=by omega
    rw [List.drop_length,show P3 L b []=0 from rfl,Nat.add_zero] at hw
    have e3:H2 L ws one (m+1) acc b=.ok (acc,b):=by rw [H2,if_pos hw]
    refine wp ?_
    refine ⟨_,Sub.refl _,?_⟩
    rw [e3]
    exact ⟨⟨t.1,rfl⟩,hP8.dropS.1⟩
end
section
variable {s0 s:Sto} {bp bl:Nat} {L:List Tok} {a:Nat} {o:List Ex} {d:List Int} {k:Int} {st z:St}
def C9t {α:Type} (s0:Sto) (bp bl:Nat) (L:List Tok) (V:α→AV) (r:Res (α × St)) (v:AV) (s':Sto):Prop :=
 match r with
 | .ok (x,z)=>v=.tuple [V x,.nilIface]∧Pst s0 s' bp bl L z.a z.o z.d z.k
 | .error x=>∃ y e a o d k,v=.tuple [V y,e]∧A84 x e∧Pst s0 s' bp bl L a o d k
def D9s {α:Type} (s0:Sto) (bp bl:Nat) (L:List Tok) (V:Nat→α→AV) (r:Res (α × St)) (v:AV) (s':Sto):Prop :=
 match r with
 | .ok (x,z)=>(∃ t,v=.tuple [V t x,.nilIface])∧Pst s0 s' bp bl L z.a z.o z.d z.k
 | .error x=>∃ t y e a o d k,v=.tuple [V t y,e]∧A84 x e∧Pst s0 s' bp bl L a o d k
theorem C9u {α:Type} {f:FuncId} {args:List AV} {V:Nat→α→AV} {U:α→AV} {r:Res (α × St)} (hV:∀ t x,Le (V t x) (U x)) (h:A6 Tryz.prog Γ f args s (D9s s0 bp bl L V r)) :
  A6 Tryz.prog Γ f args s (C9t s0 bp bl L U r):=by
 refine h.less fun v s' hv=>?_
 rcases r with z|⟨x,a'⟩
 ·obtain ⟨t,y,e,a',o',d',k',rfl,he,hP⟩:=hv
  exact ⟨.tuple [U y,e],s',Le.tuple (LeL.cons (hV t y) (LeL.cons (Le.refl _) LeL.nil)),A2k.refl _,y,e,a',o',d',k',rfl,he,hP⟩
 ·obtain ⟨⟨t,rfl⟩,hP⟩:=hv
  exact ⟨.tuple [U x,.nilIface],s',Le.tuple (LeL.cons (hV t x) (LeL.cons (Le.refl _) LeL.nil)),A2k.refl _,rfl,hP⟩
theorem C2r (hP:Pst s0 s bp bl L a o d k) :
  A6 Tryz.prog Γ 190 [.ptr (some ⟨bp,0,none⟩)] s fun v s'=>v=.int .i64 (IntKind.i64.wrap (((L9 o).length:Int) - 1))∧s'=s:=by
 obtain ⟨t1,t2,hb,_⟩:=hP.pr
 refine acs Tryz.func190 ?_
 refine wp ?_
 exact ⟨s,Sub.refl _,rfl,rfl⟩
theorem A5u {w:List UInt8} {x:Tr.Idn} {a1:Nat} (h:Y8 L [w] a=.ok (x,a1)):a1=a+2∧a1≤L.length:=by
 unfold Y8 at h
 rcases hn:H9 L a with e|⟨y,b⟩
 ·rw [hn] at h;cases h
 ·rw [hn] at h
  simp only at h
  obtain ⟨h1,h2⟩:=A1i hn
  rcases hw:E5 L [w] b with e|c
  ·rw [hw] at h;cases h
  ·rw [hw] at h
   have h3:=A3t hw
   rw [E5] at hw
   split at hw
   ·rename_i hi
    have:=H0 hi
    simp only [List.length_cons,List.length_nil] at h3
    cases h
    omega
   ·cases hw
theorem B6r {y:Tr.Se} (hok:M7 L st) (h:C1d L st=.ok (y,z)):M7 L z∧st.a < z.a∧z.k=st.k:=by
 unfold C1d at h
 split at h
 ·cases h
 ·rename_i x a1 h1
  split at h
  ·cases h
  ·rename_i s2 h2
   injection h with h;injection h with h3 h4;subst h3 h4
   obtain ⟨k1,k2⟩:=A5u h1
   have hok:M7 L { st with a:=a1 }:=⟨k2,by have:=hok.ho;simp only;omega,hok.hd,hok.hk⟩
   obtain ⟨g1,g2⟩:=P8 (A1v L) 0 _ (by omega) hok (V6 L _) s2 h2
   have:=g2.a
   simp only at this
   exact ⟨g1,by omega,g2.k⟩
theorem D8i (hR:Nu.A0l Γ) (hL:L.length≤66000) (hT:∀ i,(C8 L i).2.1.length≤5000) (hP:Pst s0 s bp bl L st.a st.o st.d st.k) (hok:M7 L st) :
  A6 Tryz.prog Γ 234 [.ptr (some ⟨bp,0,none⟩)] s (C9t s0 bp bl L (fun x=>.agg (Tr.seA x)) (C1d L st)):=by
 have hsa:=hok.ha
 refine acs Tryz.func234 ?_
 conv=>whnf
 intro b2 hb2
 obtain ⟨m1,m2⟩:=hP.nb hb2
 have c2:s0.bx b2=none:=hP.sub.none hb2
 have hP2:=(hP.box hb2 119 [.str [],.int .i64 0,.int .i64 0,.int .i64 0]).keep (T:=119) (cs:=[.str [],.int .i64 0,.int .i64 0,.int .i64 0]) A7 m1 m2
 generalize s.set b2 119 [.str [],.int .i64 0,.int .i64 0,.int .i64 0]=sa at *
 have hn:=B02 (Γ:=Γ) hP2 (by omega) (by omega) [[61]] (by decide) 1
 refine wp ?_
 refine A6.by hn ?_
 intro v s5 hv5
 unfold M2 at hv5
 rcases hnf:Y8 L [[61]] st.a with x|⟨x,a1⟩
 ·rw [hnf] at hv5
  obtain ⟨y,e,a',rfl,⟨kd,tx,rfl⟩,hP5⟩:=hv5
  refine wp ?_
  intro b4 hb4
  obtain ⟨m5,m6⟩:=hP5.nb hb4
  have hP6:=(hP5.box hb4 23 [.str [],.int .i64 0,.int .i64 0]).put (hP5.sub.none hb4) m5 m6 23 (Tr.V7 y)
  obtain ⟨hP7,hb7⟩:=hP6.drop c2
  have hla:=C2r (Γ:=Γ) hP6
  conv=>whnf
  repeat' ((first|exact pru|(refine brS (fun h=>?_) (fun h=>?_)<;>(try rw [h])<;>(try simp only [bS,↓reduceIte] at h))|(refine AWp.anyC (id:=4) [18] [] (by kernel_rfl) (by kernel_rfl) (by kernel_rfl) (by kernel_rfl) ?_)|(refine ⟨trivial,?_⟩)|(refine A9b.mk _ hla ?_)|(refine B6 A7 ?_)|(refine B6 hb7 ?_)|refine gS ?_|refine aA ?_|refine nA ?_|fail)<;>(conv=>whnf))
  refine ⟨_,Sub.refl _,?_⟩
  unfold C1d
  rw [hnf]
  exact ⟨(y,_),_,_,_,_,_,rfl,⟨kd,tx,rfl⟩,hP7.put c2 m1 m2 _ _⟩
 ·rw [hnf] at hv5
  obtain ⟨rfl,hP5⟩:=hv5
  obtain ⟨ha1,ha2⟩:=A5u hnf
  have hok2:M7 L { st with a:=a1 }:=⟨ha2,by have:=hok.ho;simp only;omega,hok.hd,hok.hk⟩
  refine wp ?_
  intro b4 hb4
  obtain ⟨m5,m6⟩:=hP5.nb hb4
  have c4:=hP5.sub.none hb4
  have hP6:=((hP5.box hb4 23 [.str [],.int .i64 0,.int .i64 0]).put (hP5.sub.none hb4) m5 m6 23 (Tr.V7 x)).keep (b:=b4) (T:=23) (cs:=Tr.V7 x) A7 m5 m6
  have he:=(C0t hR (by omega) hT (A1v L)).1 _ _ _ _ { st with a:=a1 } hP6 hok2 (V6 L _)
  have hg:=P8 (A1v L) 0 { st with a:=a1 } (by omega) hok2 (V6 L _)
  refine wp ?_
  refine A6.by he ?_
  intro v s7 hv7
  unfold C1d
  simp only [hnf]
  unfold B5a
  rcases hr:ev L (A1v L) 0 { st with a:=a1 } with x'|z
  ·rw [hr] at hv7
   obtain ⟨⟨kd,tx,rfl⟩,a',o',d',k',hP7⟩:=hv7
   have hla:=C2r (Γ:=Γ) hP7
   obtain ⟨hP8,hb8⟩:=hP7.drop c4
   obtain ⟨hP9,hb9⟩:=hP8.drop c2
   conv=>whnf
   repeat' ((first|exact pru|(refine brS (fun h=>?_) (fun h=>?_)<;>(try rw [h])<;>(try simp only [bS,↓reduceIte] at h))|(refine AWp.anyC (id:=4) [18] [] (by kernel_rfl) (by kernel_rfl) (by kernel_rfl) (by kernel_rfl) ?_)|(refine ⟨trivial,?_⟩)|(refine A9b.mk _ hla ?_)|(refine B6 hb8 ?_)|(refine B6 hb9 ?_)|refine gS ?_|refine aA ?_|refine nA ?_|fail)<;>(conv=>whnf))
   exact ⟨_,Sub.refl _,(x,_),_,_,_,_,_,rfl,⟨kd,tx,rfl⟩,hP9.put c2 m1 m2 _ _⟩
  ·rw [hr] at hv7
   obtain ⟨rfl,hP7⟩:=hv7
   obtain ⟨g1,g2⟩:=hg z hr
   have gl:=g1.ha
   have go:=g1.ho
   have hla:=A6n (Γ:=Γ) hP7 (by omega)
   obtain ⟨hP8,hb8⟩:=hP7.drop c4
   obtain ⟨hP9,hb9⟩:=hP8.drop c2
   conv=>whnf
   repeat' ((first|exact pru|(refine brS (fun h=>?_) (fun h=>?_)<;>(try rw [h])<;>(try simp only [bS,↓reduceIte] at h))|(refine AWp.anyC (id:=4) [18] [] (by kernel_rfl) (by kernel_rfl) (by kernel_rfl) (by kernel_rfl) ?_)|(refine ⟨trivial,?_⟩)|(refine A9b.mk _ hla ?_)|(refine B6 hb8 ?_)|(refine B6 hb9 ?_)|refine gS ?_|refine aA ?_|refine nA ?_|fail)<;>(conv=>whnf))
   exact ⟨_,Sub.refl _,rfl,hP9.put c2 m1 m2 _ _⟩
theorem C7k (hR:Nu.A0l Γ) (hL:L.length≤66000) (hT:∀ i,(C8 L i).2.1.length≤5000) (hP:Pst s0 s bp bl L st.a st.o st.d st.k) (hok:M7 L st) :
  A6 Tryz.prog Γ 191 [.ptr (some ⟨bp,0,none⟩)] s (C9t s0 bp bl L (fun l=>.slice 0 (l.map Tr.seA)) (B9j L st)):=by
 refine C9u (V:=fun t l=>.slice t (l.map Tr.seA)) (fun t l=>sl0 t l) ?_
 unfold B9j
 have hsa:=hok.ha
 refine acs Tryz.func191 ?_
 refine wp ?_
 refine AWp.loopA [4] [8,9,7,10,11,5,6,12,13,14,2,3,15,16,17,18,19,20,21,22] (fun q:List Tr.Se × St × B4e s0=>[.slice q.2.2.1 (q.1.map Tr.seA)]) (fun q s'=>M7 L q.2.1∧q.1.length≤q.2.1.a∧Pst (A0s s0 q.2.2.1 119 4) s' bp bl L q.2.1.a q.2.1.o q.2.1.d q.2.1.k∧∃ m,L.length - q.2.1.a < m∧A1w L (L.length+1) [] st=A1w L m q.1 q.2.1) (fun q=>L.length - q.2.1.a) (([],st,⟨1,.inl rfl⟩)) (by kernel_rfl) (rfl) ?_ ?_
 ·exact ⟨hok,Nat.zero_le _,by simp only [A50];exact hP,L.length+1,by simp only;omega,rfl⟩
 ·rintro y ⟨acc,sb,t⟩ s7 ⟨hkb,hac,hP7,m,hm,hq⟩
  simp only at hkb hac hP7 hm hq
  rw [hq]
  clear hq
  obtain ⟨m,rfl⟩:∃ m',m=m'+1:=⟨m - 1,by omega⟩
  have hba:=hkb.ha
  have ho:=D8i (Γ:=Γ) hR hL hT hP7 hkb
  show awp _ _ _ _ _ (updL _ _ [.slice t.1 (acc.map Tr.seA)]) _
  refine wp ?_
  refine A6.by ho ?_
  intro v sa hva
  unfold C9t at hva
  rcases hof:C1d L sb with z|⟨x,z⟩
  ·have e3:A1w L (m+1) acc sb=.error z:=by rw [A1w,hof]
   rw [hof] at hva
   obtain ⟨yy,e,a',o',d',k',rfl,⟨kd,tx,rfl⟩,hPa⟩:=hva
   refine wp ?_
   intro bq hbq
   have hPb:=(hPa.box hbq 119 [.str [],.int .i64 0,.int .i64 0,.int .i64 0])
   obtain ⟨m5,m6⟩:=hPa.nb hbq
   have hPc:=hPb.put (hPa.sub.none hbq) m5 m6 119 (Tr.seA yy)
   refine wp ?_
   refine ⟨_,Sub.refl _,?_⟩
   rw [e3]
   exact ⟨1,[],_,_,_,_,_,rfl,⟨kd,tx,rfl⟩,hPc.dropS.1⟩
  ·obtain ⟨g1,g2,_⟩:=B6r hkb hof
   have gl:=g1.ha
   rw [hof] at hva
   obtain ⟨rfl,hPa⟩:=hva
   refine wp ?_
   intro bq hbq
   have hPb:=(hPa.box hbq 119 [.str [],.int .i64 0,.int .i64 0,.int .i64 0])
   obtain ⟨m5,m6⟩:=hPa.nb hbq
   have hPc:=hPb.put (hPa.sub.none hbq) m5 m6 119 (Tr.seA x)
   refine wp ?_
   refine ⟨hPc.mayS,fun c hc=>by obtain ⟨z,_,rfl⟩:=List.mem_map.1 hc;rfl,all_cons ⟨rfl,rfl⟩ all_nil,?_,?_⟩
   ·show ((acc.map Tr.seA).length+1) * (_+1)≤_
    rw [List.length_map]
    exact Nat.le_trans (Nat.mul_le_mul_right _ (show acc.length+1≤100001 by omega)) (Nat.le_of_ble_eq_true (by kernel_rfl))
   intro t' k1 k2
   obtain ⟨hPd,hf⟩:=hPc.grownS t.2 k2
   have htk:=W6 (Γ:=Γ) hPd (by omega) (by omega) [44]
   have em:acc.map Tr.seA++[Tr.seA x]=(acc++[x]).map Tr.seA:=by rw [List.map_append];rfl
   conv=>whnf
   cases h44:isF L z.a [44]
   ·have e3:A1w L (m+1) acc sb=.ok (acc++[x],z):=by rw [A1w,hof];simp [h44]
    rw [h44] at htk
    simp only [Bool.false_eq_true,if_false] at htk
    refine wp ?_;(refine A6.by htk ?_;rintro _ s9 ⟨rfl,hP9⟩);refine wp ?_
    refine ⟨_,Sub.refl _,?_⟩
    rw [e3]
    refine ⟨⟨t',?_⟩,hP9.dropS.1⟩
    show _=AV.tuple [AV.slice t' (List.map Tr.seA (acc++[x])),AV.nilIface]
    rw [← em]
    rfl
   ·have e3:A1w L (m+1) acc sb=A1w L m (acc++[x]) { z with a:=z.a+1 }:=by rw [A1w,hof];simp [h44]
    have hl2:=H0 h44
    rw [h44] at htk
    simp only [if_true] at htk
    refine wp ?_;(refine A6.by htk ?_;rintro _ s9 ⟨rfl,hP9⟩);refine wp ?_
    refine ⟨(acc++[x],{ z with a:=z.a+1 },⟨t',hf⟩),?_,C5,⟨⟨hl2,by have:=g1.ho;simp only;omega,g1.hd,g1.hk⟩,by simp only [List.length_append,List.length_cons,List.length_nil];omega,hP9,m,by simp only;omega,e3⟩,by simp only;omega⟩
    rw [← em]
    rfl
end
end Go.Proofs.YticnkpgmmpenlaaGreatDoor.Pa
namespace Go.Proofs.YticnkpgmmpenlaaGreatDoor.Pa
open Go Go.Ab Go.RowKit Go.Proofs.YticnkpgmmpenlaaGreatDoor.Lx
def dAt (d:List Int) (i:Nat):Int:=d.getD i 0
theorem D1g {o l:List Int} {i:Nat} (h:i < o.length):dAt (o++l) i=dAt o i:=by simp [dAt,List.getD,List.getElem?_append_left h]
theorem B15 {o l:List Int} {i:Nat} (h:o.length≤i):dAt (o++l) i=dAt l (i - o.length):=by simp [dAt,List.getD,List.getElem?_append_right h]
theorem C8e {d:List Int} {a:Nat} (h:1≤dAt d a∧dAt d a≤64):A4s d [(a:Int)] 1=dAt d a+1:=by
 show (if IntKind.i64.wrap (d.getD ((a:Int)).toNat 0+1) > 1 then IntKind.i64.wrap (d.getD ((a:Int)).toNat 0+1) else 1)=_
 have e:IntKind.i64.wrap (d.getD ((a:Int)).toNat 0+1)=dAt d a+1:=C7 rfl (by unfold dAt at *;omega) (by unfold dAt at *;omega)
 rw [e,if_pos (by omega)]
theorem C8f {d:List Int} {a b:Nat} (h:1≤dAt d a∧dAt d a≤64) (k:1≤dAt d b∧dAt d b≤64):A4s d [(a:Int),(b:Int)] 1=(if dAt d b > dAt d a then dAt d b else dAt d a)+1:=by
 have e:∀ a:Nat,(1≤dAt d a∧dAt d a≤64)→IntKind.i64.wrap (d.getD ((a:Int)).toNat 0+1)=dAt d a+1:=fun a h=>C7 rfl (by unfold dAt at *;omega) (by unfold dAt at *;omega)
 simp only [A4s]
 rw [e a h,e b k]
 rw [if_pos (show dAt d a+1 > 1 by omega)]
 split<;>split<;>omega
def pr (t:Tok):Int × List UInt8:=(t.1,t.2.1)
def Tk (L:List Tok) (a:Nat):List (Int × List UInt8):=(L.drop a).map pr
def A0a (L:List Tok):Prop:=∀ i,i < L.length→(L.getD i A5v).2.2.1=1
theorem F5 {L:List Tok} {a:Nat} {x:Int × List UInt8} {r:List (Int × List UInt8)} (h:Tk L a=x::r):a < L.length∧pr (L.getD a A5v)=x∧Tk L (a+1)=r:=by
 unfold Tk at *
 have ha:a < L.length:=by
  rcases Nat.lt_or_ge a L.length with hh|hh
  ·exact hh
  ·rw [List.drop_of_length_le hh] at h;cases h
 rw [List.drop_eq_getElem_cons ha,List.map_cons] at h
 injection h with h1 h2
 exact ⟨ha,by rw [List.getD_eq_getElem?_getD,List.getElem?_eq_getElem ha];exact h1,h2⟩
theorem C38 {L:List Tok} {a:Nat} (h:Tk L a=[]):L.length≤a:=by
 unfold Tk at h
 have:=congrArg List.length h
 simp at this
 omega
theorem P9 {L:List Tok} {a:Nat} {x:Int × List UInt8} {r:List (Int × List UInt8)} (hl:A0a L) (h:Tk L a=x::r):(C8 L a).1=x.1∧(C8 L a).2.1=x.2∧(C8 L a).2.2.1=1:=by
 obtain ⟨h1,h2,_⟩:=F5 h
 unfold C8
 rw [if_pos h1]
 exact ⟨congrArg Prod.fst h2,congrArg Prod.snd h2,hl a h1⟩
theorem S2 {L:List Tok} {a:Nat} {x:Int × List UInt8} {r:List (Int × List UInt8)} (hl:A0a L) (h:Tk L a=x::r) (w:List UInt8):isF L a w=((decide (x.1=2) || decide (x.1=5)) && decide (x.2=w)):=by
 obtain ⟨h1,h2,_⟩:=P9 hl h
 unfold isF B1n
 rw [h1,h2]
theorem B5y {L:List Tok} {a:Nat} {x:Int × List UInt8} {r:List (Int × List UInt8)} (hl:A0a L) (h:Tk L a=x::r) (m:List (List UInt8 × Int)):N3 L a m=if (decide (x.1=2) || decide (x.1=5))=true then B2g x.2 m else 0:=by
 obtain ⟨h1,h2,_⟩:=P9 hl h
 unfold N3 B1n
 rw [h1,h2]
theorem C9i {L:List Tok} {a:Nat} (h:Tk L a=[]) (m:List (List UInt8 × Int)):N3 L a m=0:=by
 have:=C38 h
 cases hn:decide (N3 L a m=0)
 ·exact absurd (A71 (of_decide_eq_false hn)) (by omega)
 ·exact of_decide_eq_true hn
theorem C11 (c:UInt8):digB c=Nu.isD c:=by
 unfold digB A6h Nu.isD
 by_cases h1:48≤c.toNat<;>by_cases h2:c.toNat≤57<;>simp [h1,h2]<;>omega
def C6c (t:Tok):Prop:=t.2.1.length≤5000∧(t.1=3→0 < t.2.1.length∧t.2.1.all Nu.isD=true∧¬ (B9 t.2.1 0=48∧1 < t.2.1.length))
theorem D3y (l:List UInt8):(M0 l).length≤5000:=by
 rcases A91 signsL l with h|⟨h,_⟩
 ·unfold M0;rw [h];decide
 ·have:=(by decide:∀ x ∈ signsL,x.length≤5000)
  exact this _ h
theorem C2w {l:List UInt8} {k:Int} {t:List UInt8} (h:F4 l=.ok (k,t)) (a b:Int):C6c (k,t,a,b):=by
 unfold F4 at h
 split at h
 ·rename_i hd
  split at h
  ·rename_i hn
   cases h
   unfold A28 at hn
   split at hn
   ·cases hn
   ·rename_i hb
    split at hn
    ·cases hn
    ·rename_i h32
     refine ⟨by show l.length≤5000;omega,fun _=>⟨?_,?_,fun hh=>hb (.inr hh)⟩⟩
     ·cases l with
      | nil=>exact absurd hd (by decide)
      | cons c r=>exact Nat.succ_pos _
     ·have ha:l.all digB=true:=by
       cases hx:l.all digB
       ·exact absurd (.inl hx) hb
       ·rfl
      show l.all Nu.isD=true
      rw [← ha]
      exact congrArg l.all (funext fun c=>(C11 c).symm)
  ·cases h
 ·split at h
  ·cases h
  ·rename_i h32
   split at h
   ·cases h
    exact ⟨by show l.length≤5000;omega,fun h=>by cases h⟩
   ·cases h
    exact ⟨by show l.length≤5000;omega,fun h=>by cases h⟩
theorem C8s {l:List UInt8} {k:Int} {t:List UInt8} {n:Nat} (h:J4 l=.ok (k,t,n)) (a b:Int):C6c (k,t,a,b):=by
 unfold J4 at h
 split at h
 ·split at h
  ·cases h
  ·split at h
   ·cases h
   ·cases h
    exact ⟨by show t.length≤5000;omega,fun h=>by cases h⟩
 ·split at h
  ·split at h
   ·cases h
   ·cases h
    exact ⟨D3y l,fun h=>by cases h⟩
  ·split at h
   ·cases h
   ·rename_i hl
    cases h
    exact C2w hl a b
theorem B83:∀ (k:Nat) (p:Int × Int) (l:List UInt8) (m:List Tok),A3o k p l=.ok m→∀ t ∈ m,C6c t
 | 0,p,l,m=>fun h=>by cases h;exact fun _ h=>nomatch h
 | k+1,p,l,m=>fun h=>by
  by_cases hl:l.drop (D1 l)=[]
  ·rw [A2s hl] at h;cases h;exact fun _ h=>nomatch h
  ·rcases he:J4 (l.drop (D1 l)) with e'|⟨kd,t,z⟩
   ·rw [A5t hl he] at h;cases h
   ·rw [A4w hl he] at h
    rcases hr:A3o k ((F8 p (l.take (D1 l))).1,(F8 p (l.take (D1 l))).2+z) ((l.drop (D1 l)).drop z) with ⟨e',a',b'⟩|m'
    ·rw [hr] at h;cases h
    ·rw [hr] at h
     have:=B83 k _ _ _ hr
     cases h
     intro x hx
     rcases List.mem_cons.1 hx with rfl|hx
     ·exact C8s he _ _
     ·exact this x hx
theorem C70 {S:List UInt8} {L:List Tok} (h:A11 S=.ok L):∀ i,C6c (L.getD i A5v):=fun i=>by
 unfold A11 at h
 split at h
 ·cases h
 ·by_cases hi:i < L.length
  ·exact B83 _ _ _ _ h _ (by rw [List.getD_eq_getElem?_getD,List.getElem?_eq_getElem hi];exact List.getElem_mem hi)
  ·rw [List.getD_eq_getElem?_getD,List.getElem?_eq_none (by omega)]
   exact ⟨Nat.zero_le _,fun h=>by cases h⟩
theorem B79 {S:List UInt8} {L:List Tok} (h:A11 S=.ok L):∀ i,(C8 L i).2.1.length≤5000:=fun i=>by
 unfold C8
 split
 ·exact (C70 h i).1
 ·split<;>exact Nat.zero_le _
theorem D04 {S:List UInt8} {L:List Tok} (h:A11 S=.ok L):L.length≤S.length:=by
 unfold A11 at h
 split at h
 ·cases h
 ·exact B00 _ _ _ _ h
def E0 (S:List UInt8) (T:List (Int × List UInt8)):Prop :=
 ∀ (k:Nat) (p:Int × Int),p.1=1→S.length < k→∃ L,A3o k p S=.ok L∧L.map pr=T∧∀ t ∈ L,t.2.2.1=1
theorem B84:E0 [] []:=fun k p _ hk=>by
 cases k with
 | zero=>cases hk
 | succ k=>exact ⟨[],A2s rfl,rfl,fun _ h=>nomatch h⟩
theorem Y6 {S:List UInt8} {kd:Int} {tx:List UInt8} {z:Nat} {T:List (Int × List UInt8)} (hb:D1 S=0) (hne:S≠[]) (hf:J4 S=.ok (kd,tx,z)) (h:E0 (S.drop z) T):E0 S ((kd,tx)::T):=fun k p hp hk=>by
 cases k with
 | zero=>cases hk
 | succ k =>
  have hz:=A2o hf hne
  have hf':J4 (S.drop (D1 S))=.ok (kd,tx,z):=by rw [hb,List.drop_zero];exact hf
  rw [A4w (by rw [hb];exact hne) hf']
  rw [hb,List.take_zero,List.drop_zero]
  have hpl:F8 p []=p:=by cases p;rfl
  rw [hpl]
  obtain ⟨L,h1,h2,h3⟩:=h k (p.1,p.2+z) hp (by rw [List.length_drop];omega)
  rw [h1]
  refine ⟨(kd,tx,p)::L,rfl,by rw [List.map_cons,h2];rfl,fun t ht=>?_⟩
  rcases List.mem_cons.1 ht with rfl|ht
  ·exact hp
  ·exact h3 t ht
theorem E4 {S:List UInt8} {T:List (Int × List UInt8)} (h:E0 S T):E0 (32::S) T:=fun k p hp hk=>by
 obtain ⟨a,b⟩:=p
 simp only [List.length_cons] at hk
 obtain ⟨L,h1,h2,h3⟩:=h k (a,b+1) hp (by omega)
 refine ⟨L,?_,h2,h3⟩
 rw [← h1]
 cases k with
 | zero=>omega
 | succ k =>
  have hbn:D1 (32::S)=D1 S+1:=by unfold D1;rw [P1];rfl
  have e1:(32::S).drop (D1 (32::S))=S.drop (D1 S):=by rw [hbn];rfl
  have e2:F8 (a,b) ((32::S).take (D1 (32::S)))=F8 (a,b+1) (S.take (D1 S)):=by rw [hbn];rfl
  unfold A3o
  rw [e1,e2]
theorem A0y {c:UInt8} {r:List UInt8} (h1:A45 c.toNat=false) (h2:c≠35):D1 (c::r)=0:=by
 unfold D1
 rw [P1]
 simp [h1,h2]
theorem B85 {r:List UInt8} {T:List (Int × List UInt8)} (h:E0 r T):E0 (110::111::116::32::r) ((2,[110,111,116])::T):=by
 refine Y6 (z:=3) (A0y (by decide) (by decide)) (by simp) ?_ (E4 h)
 have h1:K5 (110::111::116::32::r)=3:=by
  rw [K5,if_pos (by decide),K5,if_pos (by decide),K5,if_pos (by decide),K5,if_neg (by decide)]
 unfold J4
 rw [if_neg (by show ¬ (110:UInt8)=34;decide),h1,if_neg (by decide)]
 rw [show (110::111::116::32::r).take 3=[110,111,116] from rfl,show F4 [110,111,116]=.ok (2,[110,111,116]) by kernel_rfl]
theorem B57 {x y c:UInt8} {r:List UInt8} (h:x≠c):pfx [x,y] (c::r)=false:=by
 unfold pfx
 rw [Bool.and_eq_false_iff]
 right
 rw [decide_eq_false_iff_not]
 intro hh
 rw [show [x,y].length=2 from rfl,List.take_succ_cons] at hh
 injection hh with h1 _
 exact h h1.symm
theorem B07 {x c:UInt8} {r:List UInt8}:pfx [x] (c::r)=decide (c=x):=by
 unfold pfx
 simp
theorem C7l {r:List UInt8}:M0 (40::r)=[40]:=by
 unfold M0 signsL
 simp [A1n,B57,B07]
theorem C7m {r:List UInt8}:M0 (41::r)=[41]:=by
 unfold M0 signsL
 simp [A1n,B57,B07]
theorem T9 {c:UInt8} {r:List UInt8} {T:List (Int × List UInt8)} (h1:A45 c.toNat=false) (h2:c≠35) (h3:c≠34) (h4:Sc.K9 c.toNat=false) (hs:M0 (c::r)=[c]) (h:E0 r T):E0 (c::r) ((5,[c])::T):=by
 refine Y6 (z:=1) (A0y h1 h2) (by simp) ?_ h
 unfold J4
 rw [if_neg (by show ¬ c=34;exact h3),if_pos (by rw [K5,if_neg (by rw [h4];decide)]),hs,if_neg (by simp)]
 rfl
theorem D58 {L:List Tok} (h:∀ t ∈ L,t.2.2.1=1):A0a L:=fun i hi=>by
 rw [List.getD_eq_getElem?_getD,List.getElem?_eq_getElem hi]
 exact h _ (List.getElem_mem hi)
theorem C6y {S:List UInt8} {T:List (Int × List UInt8)} (h:E0 S T) (hS:S.length≤65536):∃ L,A11 S=.ok L∧Tk L 0=T∧A0a L∧L.length=T.length:=by
 obtain ⟨L,h1,h2,h3⟩:=h (S.length+1) (1,1) rfl (by omega)
 refine ⟨L,?_,h2,D58 h3,?_⟩
 ·unfold A11
  rw [if_neg (by omega)]
  exact h1
 ·rw [← h2,List.length_map]
end Go.Proofs.YticnkpgmmpenlaaGreatDoor.Pa
namespace Go.Proofs.YticnkpgmmpenlaaGreatDoor.Pr
open Go Go.Ab Go.RowKit Go.Proofs.YticnkpgmmpenlaaGreatDoor.Lx Go.Proofs.YticnkpgmmpenlaaGreatDoor.Pa
def A0a (_:List Tok):Prop:=True
theorem P9 {L:List Tok} {a:Nat} {x:Int × List UInt8} {r:List (Int × List UInt8)} (_:A0a L) (h:Tk L a=x::r):(C8 L a).1=x.1∧(C8 L a).2.1=x.2∧True:=by
 obtain ⟨h1,h2,_⟩:=F5 h
 unfold C8
 rw [if_pos h1]
 exact ⟨congrArg Prod.fst h2,congrArg Prod.snd h2,trivial⟩
theorem S2 {L:List Tok} {a:Nat} {x:Int × List UInt8} {r:List (Int × List UInt8)} (hl:A0a L) (h:Tk L a=x::r) (w:List UInt8):isF L a w=((decide (x.1=2) || decide (x.1=5)) && decide (x.2=w)):=by
 obtain ⟨h1,h2,_⟩:=P9 hl h
 unfold isF B1n
 rw [h1,h2]
theorem B5y {L:List Tok} {a:Nat} {x:Int × List UInt8} {r:List (Int × List UInt8)} (hl:A0a L) (h:Tk L a=x::r) (m:List (List UInt8 × Int)):N3 L a m=if (decide (x.1=2) || decide (x.1=5))=true then B2g x.2 m else 0:=by
 obtain ⟨h1,h2,_⟩:=P9 hl h
 unfold N3 B1n
 rw [h1,h2]
theorem C5k {L:List Tok} {f:Nat} {st:St} (hl:A0a L) {x:Int × List UInt8} {r:List (Int × List UInt8)} (h:Tk L st.a=x::r) (hx:x≠(2,[110,111,116])∧x≠(5,[110,111,116])):ev L (f+1) 2 st=ev L f 3 st:=by
 show (if isF L st.a [110,111,116]=true then X6 L 4 (ev L f 2) st else ev L f 3 st)=_
 rw [S2 hl h,if_neg]
 intro hh
 rw [Bool.and_eq_true,Bool.or_eq_true,decide_eq_true_eq,decide_eq_true_eq,decide_eq_true_eq] at hh
 obtain ⟨x1,x2⟩:=x
 simp only at hh
 obtain ⟨h1,h2⟩:=hh
 subst h2
 rcases h1 with h1|h1
 ·exact hx.1 (by rw [h1])
 ·exact hx.2 (by rw [h1])
def E0 (S:List UInt8) (T:List (Int × List UInt8)):Prop :=
 ∀ (k:Nat) (p:Int × Int),S.length < k→∃ L,A3o k p S=.ok L∧L.map pr=T
theorem B84:E0 [] []:=fun k p hk=>by
 cases k with
 | zero=>cases hk
 | succ k=>exact ⟨[],A2s rfl,rfl⟩
theorem Y6 {S:List UInt8} {kd:Int} {tx:List UInt8} {z:Nat} {T:List (Int × List UInt8)} (hb:D1 S=0) (hne:S≠[]) (hf:J4 S=.ok (kd,tx,z)) (h:E0 (S.drop z) T):E0 S ((kd,tx)::T):=fun k p hk=>by
 cases k with
 | zero=>cases hk
 | succ k =>
  have hz:=A2o hf hne
  have hf':J4 (S.drop (D1 S))=.ok (kd,tx,z):=by rw [hb,List.drop_zero];exact hf
  rw [A4w (by rw [hb];exact hne) hf']
  rw [hb,List.drop_zero]
  obtain ⟨L,h1,h2⟩:=h k ((F8 p (List.take 0 S)).1,(F8 p (List.take 0 S)).2+z) (by rw [List.length_drop];omega)
  rw [h1]
  exact ⟨_,rfl,by show (kd,tx)::L.map pr=_;rw [h2]⟩
theorem B5v {c:UInt8} (hc:c=32∨c=10) {S:List UInt8} {T:List (Int × List UInt8)} (h:E0 S T):E0 (c::S) T:=fun k p hk=>by
 simp only [List.length_cons] at hk
 obtain ⟨L,h1,h2⟩:=h k (F8 p [c]) (by omega)
 refine ⟨L,?_,h2⟩
 rw [← h1]
 cases k with
 | zero=>omega
 | succ k =>
  have hbn:D1 (c::S)=D1 S+1:=by rcases hc with rfl|rfl<;>(unfold D1;rw [P1];rfl)
  have e1:(c::S).drop (D1 (c::S))=S.drop (D1 S):=by rw [hbn];rfl
  have e2:F8 p ((c::S).take (D1 (c::S)))=F8 (F8 p [c]) (S.take (D1 S)):=by rw [hbn];rfl
  unfold A3o
  rw [e1,e2]
theorem E4 {S:List UInt8} {T:List (Int × List UInt8)} (h:E0 S T):E0 (32::S) T:=B5v (.inl rfl) h
theorem A9v {S:List UInt8} {T:List (Int × List UInt8)} (h:E0 S T):E0 (10::S) T:=B5v (.inr rfl) h
theorem B85 {r:List UInt8} {T:List (Int × List UInt8)} (h:E0 r T):E0 (110::111::116::32::r) ((2,[110,111,116])::T):=by
 refine Y6 (z:=3) (A0y (by decide) (by decide)) (by simp) ?_ (E4 h)
 have h1:K5 (110::111::116::32::r)=3:=by
  rw [K5,if_pos (by decide),K5,if_pos (by decide),K5,if_pos (by decide),K5,if_neg (by decide)]
 unfold J4
 rw [if_neg (by show ¬ (110:UInt8)=34;decide),h1,if_neg (by decide)]
 rw [show (110::111::116::32::r).take 3=[110,111,116] from rfl,show F4 [110,111,116]=.ok (2,[110,111,116]) by kernel_rfl]
theorem T9 {c:UInt8} {r:List UInt8} {T:List (Int × List UInt8)} (h1:A45 c.toNat=false) (h2:c≠35) (h3:c≠34) (h4:Sc.K9 c.toNat=false) (hs:M0 (c::r)=[c]) (h:E0 r T):E0 (c::r) ((5,[c])::T):=by
 refine Y6 (z:=1) (A0y h1 h2) (by simp) ?_ h
 unfold J4
 rw [if_neg (by show ¬ c=34;exact h3),if_pos (by rw [K5,if_neg (by rw [h4];decide)]),hs,if_neg (by simp)]
 rfl
theorem C6y {S:List UInt8} {T:List (Int × List UInt8)} (h:E0 S T) (hS:S.length≤65536):∃ L,A11 S=.ok L∧Tk L 0=T∧A0a L∧L.length=T.length:=by
 obtain ⟨L,h1,h2⟩:=h (S.length+1) (1,1) (by omega)
 refine ⟨L,?_,h2,trivial,?_⟩
 ·unfold A11
  rw [if_neg (by omega)]
  exact h1
 ·rw [← h2,List.length_map]
inductive Xt where
 | con (v:Int × Int × List UInt8 × Bool)
 | nam (s:List UInt8)
 | una (op:Int) (x:Xt)
 | bin (op:Int) (x y:Xt)
 | par (x:Xt)
def lvl (op:Int):Nat :=
 if op=7 then 1 else if op=6 then 2 else if op=4 then 3 else if 13≤op∧op≤16 then 4 else if op=8∨op=9 then 5 else if 10≤op∧op≤12 then 6 else if op=5 then 7 else 8
def B9k:List (List UInt8):=[[97,110,100],[111,114],[43],[45],[42],[47],[37],[61,61],[33,61],[60],[60,61]]
def A2y (op:Int):List UInt8:=B9k.getD (op - 6).toNat []
def opT (op:Int):Int × List UInt8:=(if op=6∨op=7 then 2 else 5,A2y op)
def A07 (v:Int × Int × List UInt8 × Bool):List (Int × List UInt8) :=
 if v.1=1 then (if v.2.1 < 0 then [(5,[45]),(3,Lib.itoa (-v.2.1))] else [(3,Lib.itoa v.2.1)])
 else if v.1=2 then [(4,v.2.2.1)] else [(2,if v.2.2.2=true then [116,114,117,101] else [102,97,108,115,101])]
namespace Xt
def lev:Xt→Nat
 | con _=>8
 | nam _=>8
 | una op _=>lvl op
 | bin op _ _=>lvl op
 | par _=>8
def toks:Xt→List (Int × List UInt8)
 | con v=>A07 v
 | nam s=>[(1,s)]
 | una op x=>(if op=4 then (2,[110,111,116]) else (5,[45]))::toks x
 | bin op x y=>toks x++opT op::toks y
 | par x=>(5,[40])::(toks x++[(5,[41])])
abbrev D0s:=Int × Int × Int × List UInt8 × (Int × Int × List UInt8 × Bool)
def none:Int × Int × List UInt8 × Bool:=(0,0,[],false)
def cnt:Xt→Nat
 | con _=>1
 | nam _=>1
 | una _ x=>cnt x+1
 | bin _ x y=>cnt x+cnt y+1
 | par x=>cnt x
def cores:Xt→Nat→List D0s
 | con v,_=>[(1,0,0,[],v)]
 | nam s,_=>[(17,0,0,s,none)]
 | una op x,n=>cores x n++[(op,((n+cnt x:Nat):Int) - 1,0,[],none)]
 | bin op x y,n=>cores x n++(cores y (n+cnt x)++[(op,((n+cnt x:Nat):Int) - 1,((n+cnt x+cnt y:Nat):Int) - 1,[],none)])
 | par x,n=>cores x n
theorem A5n:∀ (x:Xt) (n:Nat),(cores x n).length=cnt x
 | con _,_=>rfl
 | nam _,_=>rfl
 | una op x,n=>by unfold cores cnt;rw [List.length_append,A5n x n];rfl
 | bin op x y,n=>by unfold cores cnt;rw [List.length_append,List.length_append,A5n x n,A5n y _];rfl
 | par x,n=>A5n x n
def dep:Xt→Nat
 | con _=>1
 | nam _=>1
 | una _ x=>dep x+1
 | bin _ x y=>(if dep y > dep x then dep y else dep x)+1
 | par x=>dep x
def opn:Xt→Nat
 | con _=>0
 | nam _=>0
 | una _ x=>opn x+1
 | bin _ x y=>if opn y > opn x then opn y else opn x
 | par x=>opn x+1
def siz:Xt→Nat
 | con _=>1
 | nam _=>1
 | una _ x=>siz x+1
 | bin _ x y=>siz x+siz y+1
 | par x=>siz x+2
def bare:Xt→Bool
 | con v=>decide (v.1=1) && decide (0≤v.2.1)
 | _=>false
def C1q (v:Int × Int × List UInt8 × Bool):Prop :=
 (v.1=1∧-9223372036854775808≤v.2.1∧v.2.1≤9223372036854775807∧v.2.2.1=[]∧v.2.2.2=false)∨(v.1=2∧v.2.1=0∧v.2.2.2=false)∨(v.1=3∧v.2.1=0∧v.2.2.1=[])
def Ok:Xt→Prop
 | con v=>C1q v
 | nam s=>s≠[95]
 | una op x=>(op=4∧3≤lev x∨op=5∧7≤lev x∧bare x=false)∧Ok x
 | bin op x y=>6≤op∧op≤16∧(if lvl op=4 then 5 else lvl op)≤lev x∧lvl op+1≤lev y∧Ok x∧Ok y
 | par x=>Ok x
end Xt
def B14 (x:Ex):Xt.D0s:=(x.op,x.a,x.b,x.name,x.vk,x.vi,x.vs,x.vb)
end Go.Proofs.YticnkpgmmpenlaaGreatDoor.Pr
namespace Go.Proofs.YticnkpgmmpenlaaGreatDoor.Pr
open Go Go.Ab Go.RowKit Go.Proofs.YticnkpgmmpenlaaGreatDoor.Lx Go.Proofs.YticnkpgmmpenlaaGreatDoor.Pa
variable {L:List Tok} {R:List (Int × List UInt8)}
def sgn (t:Int × List UInt8):Bool:=decide (t.1=2) || decide (t.1=5)
def B3a:Nat→List (List UInt8 × Int)
 | 0=>orM
 | 1=>D40
 | 2=>[]
 | 3=>A5m
 | 4=>D6t
 | 5=>C7g
 | _=>[]
def V2 (l:Nat) (R:List (Int × List UInt8)):Prop:=∀ t r,R=t::r→sgn t=true→∀ j,l≤j→B2g t.2 (B3a j)=0
theorem V2.up {l l':Nat} (h:V2 l R) (hl:l≤l'):V2 l' R:=fun t r e hs j hj=>h t r e hs j (Nat.le_trans hl hj)
theorem V2.next (hl:A0a L) {l j a:Nat} (h:V2 l (Tk L a)) (hj:l≤j):N3 L a (B3a j)=0:=by
 cases e:Tk L a with
 | nil=>exact C9i e _
 | cons t r =>
  rw [B5y hl e]
  cases hs:(decide (t.1=2) || decide (t.1=5))
  ·rfl
  ·exact h t r e hs j hj
theorem D59 {j:Nat} (hj:6≤j):B3a j=[]:=by
 match j,hj with
 | j+6,_=>rfl
theorem B0k {l:Nat} {t:Int × List UInt8} (h:∀ j,j < 6→l≤j→B2g t.2 (B3a j)=0) (r:List (Int × List UInt8)):V2 l (t::r):=by
 intro t' r' e _ j hj
 injection e with e1 e2
 subst e1
 rcases Nat.lt_or_ge j 6 with hh|hh
 ·exact h j hh hj
 ·rw [D59 hh];rfl
theorem C8j (r:List (Int × List UInt8)):V2 0 ((5,[41])::r):=B0k (by decide) r
theorem A2u {op:Int} (h:6≤op∧op≤16):op=6∨op=7∨op=8∨op=9∨op=10∨op=11∨op=12∨op=13∨op=14∨op=15∨op=16:=by omega
theorem D5k {op:Int} (h:6≤op∧op≤16) (r:List (Int × List UInt8)):V2 (lvl op) (opT op::r):=by
 rcases A2u h with rfl|rfl|rfl|rfl|rfl|rfl|rfl|rfl|rfl|rfl|rfl<;>exact B0k (by decide) r
theorem C7e (hl:A0a L) {op:Int} (h:6≤op∧op≤16) {a:Nat} {r:List (Int × List UInt8)} (ht:Tk L a=opT op::r):N3 L a (B3a (lvl op - 1))=op:=by
 rw [B5y hl ht]
 rcases A2u h with rfl|rfl|rfl|rfl|rfl|rfl|rfl|rfl|rfl|rfl|rfl<;>decide
theorem B50 {op:Int} (h:6≤op∧op≤16):lvl op=1∨lvl op=2∨lvl op=4∨lvl op=5∨lvl op=6:=by
 rcases A2u h with rfl|rfl|rfl|rfl|rfl|rfl|rfl|rfl|rfl|rfl|rfl<;>decide
namespace Xt
theorem B3z:∀ x:Xt,1≤dep x
 | con _=>Nat.le_refl _
 | nam _=>Nat.le_refl _
 | una _ x=>Nat.le_add_left _ _
 | bin _ _ _=>Nat.le_add_left _ _
 | par x=>B3z x
theorem A79:∀ {x:Xt},x.siz≤x.toks.length
 | con v=>by unfold toks A07 siz;split<;>(try split)<;>simp
 | nam _=>Nat.le_refl _
 | una op x=>by have:=A79 (x:=x);unfold toks siz;simp only [List.length_cons];omega
 | bin op x y=>by have:=A79 (x:=x);have:=A79 (x:=y);unfold toks siz;simp only [List.length_append,List.length_cons];omega
 | par x=>by have:=A79 (x:=x);unfold toks siz;simp only [List.length_append,List.length_cons,List.length_nil];omega
theorem C2h:∀ {x:Xt},Ok x→4≤lev x→∃ t r,toks x=t::r∧t≠(2,[110,111,116])∧t≠(5,[110,111,116])
 | con v,hx,_=>by
  unfold toks A07
  split
  ·split
   ·exact ⟨_,_,rfl,by decide,by decide⟩
   ·exact ⟨_,_,rfl,by simp,by simp⟩
  ·split
   ·exact ⟨_,_,rfl,by simp,by simp⟩
   ·refine ⟨_,_,rfl,?_,?_⟩<;>split<;>decide
 | nam s,_,_=>⟨_,_,rfl,by simp,by simp⟩
 | una op x,hx,hl=>by
  obtain ⟨h|h,_⟩:=hx
  ·rw [h.1] at hl;exact absurd (show 4≤lvl 4 from hl) (by decide)
  ·refine ⟨_,_,rfl,?_,?_⟩<;>rw [h.1]<;>decide
 | bin op x y,hx,hl=>by
  obtain ⟨h1,h2,h3,_,hx,_⟩:=hx
  have hl:4≤lvl op:=hl
  obtain ⟨t,r,e,h⟩:=C2h hx (by split at h3<;>omega)
  exact ⟨t,r++opT op::toks y,by show toks x++_=_;rw [e];rfl,h⟩
 | par x,_,_=>⟨_,_,rfl,by decide,by decide⟩
end Xt
end Go.Proofs.YticnkpgmmpenlaaGreatDoor.Pr
namespace Go.Proofs.YticnkpgmmpenlaaGreatDoor.Nu
open Go Go.Ab Go.RowKit
theorem B2j:∀ (x y:List UInt8) (a:Nat),nv (x++y) a=nv y (nv x a)
 | [],y,a=>rfl
 | c::r,y,a=>B2j r y _
theorem B4t {u:Nat} (h:u < 10):(UInt8.ofNat (48+u)).toNat=48+u:=by
 rw [UInt8.toNat_ofNat'];omega
theorem A8l:∀ (k u:Nat),u < k→Lib.decDigits u≠[]∧(Lib.decDigits u).all isD=true∧nv (Lib.decDigits u) 0=u∧((B9 (Lib.decDigits u) 0).toNat=48→u=0)
 | 0,u=>fun h=>by omega
 | k+1,u=>fun h=>by
  by_cases hu:u < 10
  ·have e:Lib.decDigits u=[UInt8.ofNat (48+u)]:=by rw [Lib.decDigits,dif_pos hu]
   rw [e]
   refine ⟨by simp,?_,?_,?_⟩
   ·simp [isD,B4t hu];omega
   ·show 0 * 10+((UInt8.ofNat (48+u)).toNat - 48)=u
    rw [B4t hu];omega
   ·show (UInt8.ofNat (48+u)).toNat=48→u=0
    rw [B4t hu];omega
  ·obtain ⟨h1,h2,h3,h4⟩:=A8l k (u / 10) (by omega)
   have e:Lib.decDigits u=Lib.decDigits (u / 10)++[UInt8.ofNat (48+u % 10)]:=by rw [Lib.decDigits,dif_neg hu]
   have h10:u % 10 < 10:=Nat.mod_lt _ (by omega)
   rw [e]
   refine ⟨by simp,?_,?_,?_⟩
   ·rw [List.all_append,h2]
    simp [isD,B4t h10];omega
   ·rw [B2j,h3]
    show u / 10 * 10+((UInt8.ofNat (48+u % 10)).toNat - 48)=u
    rw [B4t h10];omega
   ·have:B9 (Lib.decDigits (u / 10)++[UInt8.ofNat (48+u % 10)]) 0=B9 (Lib.decDigits (u / 10)) 0:=by
     unfold B9 List.getD
     rw [List.getElem?_append_left (List.length_pos_iff.2 h1)]
    rw [this]
    intro h5
    have:=h4 h5
    omega
theorem B43:∀ (k:Nat) (d:List UInt8),d.length≤k→d≠[]→d.all isD=true→((B9 d 0).toNat=48→d.length=1)→Lib.decDigits (nv d 0)=d∧((B9 d 0).toNat≠48→1≤nv d 0)
 | 0,d=>fun h h1=>absurd (List.eq_nil_of_length_eq_zero (by omega)) h1
 | k+1,d=>fun h h1 h2 h3=>by
  have hl:d.dropLast++[d.getLast h1]=d:=List.dropLast_concat_getLast h1
  generalize d.getLast h1=c at hl
  generalize d.dropLast=r at hl
  subst hl
  rw [List.all_append,Bool.and_eq_true] at h2
  have hc:48≤c.toNat∧c.toNat≤57:=by simpa [isD] using h2.2
  have hcc:UInt8.ofNat c.toNat=c:=UInt8.ofNat_toNat
  rw [B2j]
  have hn:nv [c] (nv r 0)=nv r 0 * 10+(c.toNat - 48):=rfl
  rw [hn]
  by_cases hr:r=[]
  ·subst hr
   have e0:nv [] 0=0:=rfl
   rw [e0]
   have e1:Lib.decDigits (0 * 10+(c.toNat - 48))=[UInt8.ofNat (48+(0 * 10+(c.toNat - 48)))]:=by rw [Lib.decDigits,dif_pos (by omega)]
   rw [e1,show 48+(0 * 10+(c.toNat - 48))=c.toNat by omega,hcc]
   refine ⟨rfl,fun h9=>?_⟩
   have:c.toNat≠48:=h9
   omega
  ·have hb:B9 (r++[c]) 0=B9 r 0:=by
    unfold B9 List.getD
    rw [List.getElem?_append_left (List.length_pos_iff.2 hr)]
   rw [hb] at h3 ⊢
   have hrl:=List.length_pos_iff.2 hr
   have hne:(B9 r 0).toNat≠48:=fun h9=>by
    have:=h3 h9
    rw [List.length_append,List.length_singleton] at this
    omega
   rw [List.length_append,List.length_singleton] at h
   obtain ⟨i1,i2⟩:=B43 k r (by omega) hr h2.1 (fun h9=>absurd h9 hne)
   have i2:=i2 hne
   have e1:Lib.decDigits (nv r 0 * 10+(c.toNat - 48))=Lib.decDigits ((nv r 0 * 10+(c.toNat - 48)) / 10)++[UInt8.ofNat (48+(nv r 0 * 10+(c.toNat - 48)) % 10)]:=by rw [Lib.decDigits,dif_neg (by omega)]
   rw [e1,show (nv r 0 * 10+(c.toNat - 48)) / 10=nv r 0 by omega,show 48+(nv r 0 * 10+(c.toNat - 48)) % 10=c.toNat by omega,hcc,i1]
   exact ⟨rfl,fun _=>by omega⟩
theorem C5t (n:Int) (hn:Q7 n):A4v (Lib.itoa n)=true∧B70 (Lib.itoa n)=n∧A28 (Lib.itoa n)=0:=by
 unfold Q7 at hn
 by_cases hneg:n < 0
 ·have hu:n = -(n.natAbs:Int):=by omega
  generalize hua:n.natAbs=u at hu
  subst hu
  rw [Lib.itoa_neg u (by omega)]
  obtain ⟨d1,d2,d3,d4⟩:=A8l (u+1) u (by omega)
  generalize Lib.decDigits u=d at *
  have hfr:from_ ((45:UInt8)::d)=1:=rfl
  have hd:((45:UInt8)::d).drop 1=d:=rfl
  have hform:A4v (45::d)=true:=by
   rw [C0d,hfr,hd,d2]
   have hb:B9 ((45:UInt8)::d) 1=B9 d 0:=rfl
   rw [hb]
   have h48:¬ (B9 d 0).toNat=48:=fun h=>by have:=d4 h;omega
   have:=List.length_pos_iff.2 d1
   simp [h48]
   omega
  obtain ⟨e1,e2⟩:=C25 hform
  have hw:Z4 (45::d)=u:=by unfold Z4;rw [hfr,hd,d3]
  rw [hw,hfr,if_pos rfl,if_pos (by omega)] at e1 e2
  exact ⟨hform,e1,e2⟩
 ·have hu:n=(n.toNat:Int):=by omega
  generalize hua:n.toNat=u at hu
  subst hu
  rw [Lib.itoa_nonneg]
  obtain ⟨d1,d2,d3,d4⟩:=A8l (u+1) u (by omega)
  have huq:=(B43 (Lib.decDigits u).length (Lib.decDigits u) (Nat.le_refl _) d1 d2)
  have hlen:u=0→(Lib.decDigits u).length=1:=fun h=>by subst h;rw [Lib.decDigits,dif_pos (by omega)];rfl
  generalize Lib.decDigits u=d at *
  have hl1:=List.length_pos_iff.2 d1
  have hfr:from_ d=0:=by
   have h9:isD (B9 d 0)=true:=List.all_eq_true.1 d2 _ (by simp [B9,List.getD,hl1])
   unfold from_
   rw [if_neg]
   intro e
   rw [e] at h9
   cases h9
  have hd:d.drop 0=d:=rfl
  have hform:A4v d=true:=by
   rw [C0d,hfr,hd,d2]
   by_cases h48:(B9 d 0).toNat=48
   ·have:=hlen (d4 h48)
    simp [this]
   ·simp [h48]
    omega
  obtain ⟨e1,e2⟩:=C25 hform
  have hw:Z4 d=u:=by unfold Z4;rw [hfr,hd,d3]
  rw [hw,hfr,if_neg (by omega),if_pos (by omega)] at e1 e2
  exact ⟨hform,e1,e2⟩
end Go.Proofs.YticnkpgmmpenlaaGreatDoor.Nu
namespace Go.Proofs.YticnkpgmmpenlaaGreatDoor.Pr
open Go Go.Ab Go.RowKit Go.Proofs.YticnkpgmmpenlaaGreatDoor.Lx Go.Proofs.YticnkpgmmpenlaaGreatDoor.Pa
variable {L:List Tok} {R:List (Int × List UInt8)}
structure Got (st z:St) (x:Xt):Prop where
 a:z.a=st.a+x.toks.length
 k:z.k=st.k
 o:∃ o2,z.o=st.o++o2∧o2.map B14=x.cores st.o.length
 d:∃ d2,z.d=st.d++d2
 dl:z.d.length=z.o.length
 pos:st.o.length < z.o.length
 top:dAt z.d (z.o.length - 1)=x.dep
theorem N9:∀ {l:List (Int × List UInt8)} {a:Nat} {R:List (Int × List UInt8)},Tk L a=l++R→Tk L (a+l.length)=R
 | [],_,_,h=>h
 | t::l,a,R,h=>by
  obtain ⟨_,_,h2⟩:=F5 (show Tk L a=t::(l++R) from h)
  have:=N9 h2
  rw [List.length_cons,show a+(l.length+1)=a+1+l.length by omega]
  exact this
theorem Got.cnt {st z:St} {x:Xt} (h:Got st z x):z.o.length=st.o.length+x.cnt:=by
 obtain ⟨o2,h1,h2⟩:=h.o
 have:=congrArg List.length h2
 rw [List.length_map,Xt.A5n] at this
 rw [h1,List.length_append,this]
theorem C2s {st:St} {x:Xt} {t:Tok} {e:Ex} {n:Nat} (hd:st.d.length=st.o.length) (hn:x.toks.length=n) (hc:x.cores st.o.length=[B14 { e with ln:=t.2.2.1,cl:=t.2.2.2 }]) (hx:x.dep=1):∃ z,A0c t e [] { st with a:=st.a+n } = .ok z∧Got st z x:=by
 refine ⟨_,rfl,⟨by show st.a+n=_;rw [hn],rfl,⟨_,rfl,by rw [hc];rfl⟩,⟨_,rfl⟩,by simp [hd],by simp,?_⟩⟩
 show dAt (st.d++[_]) _=_
 rw [B15 (by simp [hd])]
 simp [dAt,hd,A4s,hx]
theorem D6y {st z:St} {x:Xt} {op:Int} (t:Tok) (hz:Got { st with a:=st.a+1,k:=st.k+1 } z x) (hd:x.dep+1≤64):∃ z',A0c t { ex0 with op:=op,a:=(z.o.length:Int) - 1 } [(z.o.length:Int) - 1] { z with k:=z.k - 1 } = .ok z'∧Got st z' (.una op x):=by
 have hpos:=hz.pos
 have hdp:A4s z.d [(z.o.length:Int) - 1] 1=(x.dep:Int)+1:=by
  have hp:=Xt.B3z x
  have:=C8e (d:=z.d) (a:=z.o.length - 1) (by rw [hz.top];omega)
  rw [show ((z.o.length - 1:Nat):Int)=(z.o.length:Int) - 1 by omega,hz.top] at this
  exact this
 unfold A0c
 dsimp only
 rw [hdp,if_neg (by omega)]
 have hcn:=hz.cnt
 obtain ⟨o2,ho,hc⟩:=hz.o
 obtain ⟨d2,hd2⟩:=hz.d
 simp only at ho hd2 hpos hc hcn
 have ho':∀ e:Ex,z.o++[e]=st.o++(o2++[e]):=fun e=>by rw [ho,List.append_assoc]
 have hd':∀ e:Int,z.d++[e]=st.d++(d2++[e]):=fun e=>by rw [hd2,List.append_assoc]
 refine ⟨_,rfl,⟨?_,?_,⟨_,ho' _,?_⟩,⟨_,hd' _⟩,?_,?_,?_⟩⟩
 ·show z.a=_
  rw [hz.a];show st.a+1+x.toks.length=st.a+((if op=4 then (2,[110,111,116]) else (5,[45]))::x.toks).length;rw [List.length_cons];omega
 ·show z.k - 1=_
  rw [hz.k];show st.k+1 - 1=_;omega
 ·rw [List.map_append,hc];show _=x.cores st.o.length++[(op,((st.o.length+x.cnt:Nat):Int) - 1,0,[],Xt.none)];rw [← hcn];rfl
 ·show (z.d++[_]).length=(z.o++[_]).length
  rw [List.length_append,List.length_append,hz.dl];rfl
 ·show st.o.length < (z.o++[_]).length
  rw [List.length_append];omega
 ·show dAt (z.d++[_]) ((z.o++[_]).length - 1)=_
  rw [List.length_append,List.length_cons,List.length_nil,Nat.zero_add,Nat.add_sub_cancel,B15 (by rw [hz.dl];exact Nat.le_refl _),hz.dl,Nat.sub_self]
  show (x.dep:Int)+1=((x.dep+1:Nat):Int)
  omega
theorem C6h {st z z2:St} {x y:Xt} {op:Int} (t:Tok) (hz:Got st z x) (hz2:Got { z with a:=z.a+1 } z2 y) (hd:(Xt.bin op x y).dep≤64):∃ z',A0c t { ex0 with op:=op,a:=(z.o.length:Int) - 1,b:=(z2.o.length:Int) - 1 } [(z.o.length:Int) - 1,(z2.o.length:Int) - 1] z2=.ok z'∧Got st z' (.bin op x y):=by
 have hpos:=hz.pos
 have hpos2:=hz2.pos
 have hcn:=hz.cnt
 have hcn2:=hz2.cnt
 simp only at hcn2
 obtain ⟨o2,ho,hc⟩:=hz.o
 obtain ⟨d2,hd2⟩:=hz.d
 obtain ⟨o3,ho3,hc3⟩:=hz2.o
 obtain ⟨d3,hd3⟩:=hz2.d
 simp only at ho3 hd3 hpos2 hc3
 have hxp:=Xt.B3z x
 have hyp:=Xt.B3z y
 have hdx:x.dep < (Xt.bin op x y).dep∧y.dep < (Xt.bin op x y).dep:=by
  show x.dep < (if y.dep > x.dep then y.dep else x.dep)+1∧y.dep < (if y.dep > x.dep then y.dep else x.dep)+1
  split<;>omega
 have hold:dAt z2.d (z.o.length - 1)=x.dep:=by rw [hd3,D1g (by rw [hz.dl];omega)];exact hz.top
 have hdp:A4s z2.d [(z.o.length:Int) - 1,(z2.o.length:Int) - 1] 1=((Xt.bin op x y).dep:Int):=by
  have:=C8f (d:=z2.d) (a:=z.o.length - 1) (b:=z2.o.length - 1) (by rw [hold];omega) (by rw [hz2.top];omega)
  rw [show ((z.o.length - 1:Nat):Int)=(z.o.length:Int) - 1 by omega,show ((z2.o.length - 1:Nat):Int)=(z2.o.length:Int) - 1 by omega,hold,hz2.top] at this
  rw [this]
  show _=(((if y.dep > x.dep then y.dep else x.dep)+1:Nat):Int)
  split<;>split<;>omega
 unfold A0c
 rw [hdp,if_neg (by omega)]
 have ho':∀ e:Ex,z2.o++[e]=st.o++(o2++(o3++[e])):=fun e=>by rw [ho3,ho,List.append_assoc,List.append_assoc]
 have hd':∀ e:Int,z2.d++[e]=st.d++(d2++(d3++[e])):=fun e=>by rw [hd3,hd2,List.append_assoc,List.append_assoc]
 refine ⟨_,rfl,⟨?_,?_,⟨_,ho' _,?_⟩,⟨_,hd' _⟩,?_,?_,?_⟩⟩
 ·show z2.a=_
  rw [hz2.a];show z.a+1+y.toks.length=_;rw [hz.a];show st.a+x.toks.length+1+y.toks.length=st.a+(x.toks++opT op::y.toks).length;rw [List.length_append,List.length_cons];omega
 ·show z2.k=_
  rw [hz2.k];exact hz.k
 ·rw [List.map_append,List.map_append,hc,hc3];show _=x.cores st.o.length++(y.cores (st.o.length+x.cnt)++[(op,((st.o.length+x.cnt:Nat):Int) - 1,((st.o.length+x.cnt+y.cnt:Nat):Int) - 1,[],Xt.none)]);rw [← hcn,← hcn2];rfl
 ·show (z2.d++[_]).length=(z2.o++[_]).length
  rw [List.length_append,List.length_append,hz2.dl];rfl
 ·show st.o.length < (z2.o++[_]).length
  rw [List.length_append];omega
 ·show dAt (z2.d++[_]) ((z2.o++[_]).length - 1)=_
  rw [List.length_append,List.length_cons,List.length_nil,Nat.zero_add,Nat.add_sub_cancel,B15 (by rw [hz2.dl];exact Nat.le_refl _),hz2.dl,Nat.sub_self]
  rfl
theorem A3k {a:Nat} {x:Int × List UInt8} {r:List (Int × List UInt8)} (h:Tk L a=x::r):a < L.length∧(L.getD a A5v).1=x.1:=by
 obtain ⟨h1,h2,_⟩:=F5 h
 exact ⟨h1,congrArg Prod.fst h2⟩
theorem B9t {v:Int} (hv:-9223372036854775808≤v∧v≤9223372036854775807) (hl:A0a L) {a:Nat} (h:Tk L a=A07 (1,v,[],false)++R):isF L a [40]=false∧(C8 L a).1≠1∧V1 L a=true∧M5 L a=.ok ((1,v,[],false),a+(A07 (1,v,[],false)).length):=by
 obtain ⟨hF,hN,hE⟩:=Nu.C5t v hv
 by_cases hn:v < 0
 ·have e:A07 (1,v,[],false)=[(5,[45]),(3,Lib.itoa (-v))]:=by unfold A07;rw [if_pos rfl,if_pos hn]
  rw [e] at h ⊢
  have h:Tk L a=(5,[45])::(3,Lib.itoa (-v))::R:=h
  obtain ⟨_,_,h'⟩:=F5 h
  have hm:isF L a [45]=true:=by rw [S2 hl h];decide
  have hb:V1 L a=true:=by
   unfold V1
   rw [if_pos hm,decide_eq_true (A3k h').1,decide_eq_true (show _=_ from (A3k h').2)];rfl
  have hp:=P9 hl h'
  refine ⟨by rw [S2 hl h];decide,by rw [(P9 hl h).1];decide,hb,?_⟩
  unfold M5
  rw [if_pos hb]
  dsimp only
  have hi:Lib.itoa v=45::Lib.itoa (-v):=by
   unfold Lib.itoa
   rw [if_pos hn,if_neg (by omega),show v.natAbs=(-v).toNat by omega]
  have h0:Lib.itoa (-v)≠[48]:=fun hh=>by
   rw [hi,hh] at hF
   exact absurd hF (by decide)
  rw [hm]
  simp only [if_true]
  rw [hp.2.1]
  dsimp only
  rw [if_pos (show True∧Lib.itoa (-v)≠[48] from ⟨trivial,h0⟩),show ([45]++Lib.itoa (-v):List UInt8)=Lib.itoa v from hi.symm,hE,if_neg (by decide),hN]
  rfl
 ·have e:A07 (1,v,[],false)=[(3,Lib.itoa v)]:=by unfold A07;rw [if_pos rfl,if_neg hn]
  rw [e] at h ⊢
  have h:Tk L a=(3,Lib.itoa v)::R:=h
  have hm:isF L a [45]=false:=by rw [S2 hl h];rfl
  have hb:V1 L a=true:=by
   unfold V1
   rw [if_neg (by rw [hm];decide),decide_eq_true (A3k h).1,decide_eq_true (show _=_ from (A3k h).2)];rfl
  have hp:=P9 hl h
  refine ⟨by rw [S2 hl h];rfl,by rw [hp.1];simp,hb,?_⟩
  unfold M5
  rw [if_pos hb]
  dsimp only
  rw [hm]
  simp only [Bool.false_eq_true,if_false,false_and]
  rw [hp.2.1]
  dsimp only
  rw [show ([]++Lib.itoa v:List UInt8)=Lib.itoa v from rfl,hE,if_neg (by decide),hN]
  rfl
theorem D5c (hl:A0a L) {v:Int × Int × List UInt8 × Bool} (hv:Xt.C1q v) {st:St} (h:Tk L st.a=A07 v++R) (hd:st.d.length=st.o.length) (f:Nat):∃ z,ev L (f+1) 6 st=.ok z∧Got st z (.con v):=by
 have main:∀ n,isF L st.a [40]=false→¬ ((C8 L st.a).1=1∧(C8 L st.a).2.1≠[95])→¬ (isF L st.a [45]=true∧V1 L st.a=false)→M5 L st.a=.ok (v,st.a+n)→(A07 v).length=n→∃ z,ev L (f+1) 6 st=.ok z∧Got st z (.con v):=by
  intro n h1 h2 h3 h4 h5
  have e:ev L (f+1) 6 st=A0c (C8 L st.a) { ex0 with op:=1,vk:=v.1,vi:=v.2.1,vs:=v.2.2.1,vb:=v.2.2.2 } [] { st with a:=st.a+n }:=by
   show A2b L (ev L f 0) (ev L f 6) st=_
   unfold A2b
   rw [if_neg (by rw [h1];decide),if_neg h2,if_neg h3,h4]
  rw [e]
  exact C2s hd h5 rfl rfl
 rcases hv with ⟨a1,a2,a3,a4,a5⟩|⟨a1,a2,a3⟩|⟨a1,a2,a3⟩
 ·obtain ⟨vk,vi,vs,vb⟩:=v
  simp only at a1 a2 a3 a4 a5
  subst a1 a4 a5
  obtain ⟨b1,b2,b3,b4⟩:=B9t (R:=R) ⟨a2,a3⟩ hl h
  exact main _ b1 (fun hh=>b2 hh.1) (fun hh=>by rw [b3] at hh;exact absurd hh.2 (by decide)) b4 rfl
 ·obtain ⟨vk,vi,vs,vb⟩:=v
  simp only at a1 a2 a3
  subst a1 a2 a3
  have h:Tk L st.a=(4,vs)::R:=h
  have hp:=P9 hl h
  have hm:isF L st.a [45]=false:=by rw [S2 hl h];rfl
  have hb:V1 L st.a=false:=by
   unfold V1
   rw [if_neg (by rw [hm];decide),(A3k h).2];simp
  refine main 1 (by rw [S2 hl h];rfl) (by rw [hp.1];simp) (by rw [hm];simp) ?_ rfl
  unfold M5
  rw [if_neg (by rw [hb];decide),if_pos hp.1,hp.2.1]
 ·obtain ⟨vk,vi,vs,vb⟩:=v
  simp only at a1 a2 a3
  subst a1 a2 a3
  cases vb
  ·have h:Tk L st.a=(2,[102,97,108,115,101])::R:=h
   have hp:=P9 hl h
   have hm:isF L st.a [45]=false:=by rw [S2 hl h];decide
   have hb:V1 L st.a=false:=by
    unfold V1
    rw [if_neg (by rw [hm];decide),(A3k h).2];simp
   refine main 1 (by rw [S2 hl h];decide) (by rw [hp.1];simp) (by rw [hm];simp) ?_ rfl
   unfold M5
   rw [if_neg (by rw [hb];decide),if_neg (by rw [hp.1];decide),if_neg (by rw [S2 hl h];decide),if_pos (by rw [S2 hl h];decide)]
  ·have h:Tk L st.a=(2,[116,114,117,101])::R:=h
   have hp:=P9 hl h
   have hm:isF L st.a [45]=false:=by rw [S2 hl h];decide
   have hb:V1 L st.a=false:=by
    unfold V1
    rw [if_neg (by rw [hm];decide),(A3k h).2];simp
   refine main 1 (by rw [S2 hl h];decide) (by rw [hp.1];simp) (by rw [hm];simp) ?_ rfl
   unfold M5
   rw [if_neg (by rw [hb];decide),if_neg (by rw [hp.1];decide),if_pos (by rw [S2 hl h];decide)]
theorem D6a (hl:A0a L) {s:List UInt8} (hs:s≠[95]) {st:St} (h:Tk L st.a=(1,s)::R) (hd:st.d.length=st.o.length) (f:Nat):∃ z,ev L (f+1) 6 st=.ok z∧Got st z (.nam s):=by
 have hp:=P9 hl h
 have e:ev L (f+1) 6 st=A0c (C8 L st.a) { ex0 with op:=17,name:=s } [] { st with a:=st.a+1 }:=by
  show A2b L (ev L f 0) (ev L f 6) st=_
  unfold A2b
  rw [if_neg (by rw [S2 hl h];simp),if_pos (by rw [hp.1,hp.2.1];exact ⟨rfl,hs⟩),hp.2.1]
 rw [e]
 exact C2s hd rfl rfl rfl
end Go.Proofs.YticnkpgmmpenlaaGreatDoor.Pr
namespace Go.Proofs.YticnkpgmmpenlaaGreatDoor.Pr
open Go Go.Ab Go.RowKit Go.Proofs.YticnkpgmmpenlaaGreatDoor.Lx Go.Proofs.YticnkpgmmpenlaaGreatDoor.Pa
variable {L:List Tok}
structure At (L:List Tok) (st:St) (x:Xt) (l:Nat) (R:List (Int × List UInt8)):Prop where
 ok:x.Ok
 tk:Tk L st.a=x.toks++R
 len:st.d.length=st.o.length
 ends:V2 l R
 k:st.k+x.opn≤128
 dep:x.dep≤64
def D0u (L:List Tok) (f l:Nat) (x:Xt):Prop:=∀ st R,At L st x l R→∃ z,ev L f l st=.ok z∧Got st z x
def B39 (L:List Tok) (l:Nat) (one:St→Res St) (x:Xt):Prop:=∀ st R,At L st x (l+1) R→∃ z n,A0e L (B3a l) one st=A47 L (B3a l) one n z∧L.length+1+st.a≤n+z.a∧Got st z x
theorem A4q {l:Nat} {one:St→Res St} {x:Xt} (hl:A0a L) (h:B39 L l one x) {st:St} {R:List (Int × List UInt8)} (ha:At L st x l R):∃ z,A0e L (B3a l) one st=.ok z∧Got st z x:=by
 obtain ⟨z,n,e,hn,g⟩:=h st R ⟨ha.ok,ha.tk,ha.len,ha.ends.up (Nat.le_succ _),ha.k,ha.dep⟩
 refine ⟨z,?_,g⟩
 rw [e]
 have ht:Tk L z.a=R:=by rw [g.a];exact N9 ha.tk
 cases n with
 | zero=>rfl
 | succ n =>
  unfold A47
  rw [if_pos (V2.next hl (by rw [ht];exact ha.ends) (Nat.le_refl _))]
theorem A5l {l:Nat} {one:St→Res St} {x:Xt} (h:∀ st R,At L st x (l+1) R→∃ z,one st=.ok z∧Got st z x):B39 L l one x:=fun st R ha=>by
 obtain ⟨z,e,g⟩:=h st R ha
 refine ⟨z,L.length+1,?_,by rw [g.a];omega,g⟩
 unfold A0e
 rw [e]
theorem At.left {st:St} {op:Int} {x y:Xt} {l l':Nat} {R:List (Int × List UInt8)} (h:At L st (.bin op x y) l R) (he:lvl op≤l'):At L st x l' (opT op::(y.toks++R)):=by
 obtain ⟨h1,h2,h3,h4,h5,h6⟩:=h
 refine ⟨h1.2.2.2.2.1,?_,h3,(D5k ⟨h1.1,h1.2.1⟩ _).up he,?_,?_⟩
 ·rw [h2];show (x.toks++opT op::y.toks)++R=_;rw [List.append_assoc];rfl
 ·have:st.k+(if y.opn > x.opn then y.opn else x.opn:Nat)≤128:=h5
  split at this<;>omega
 ·have:(if y.dep > x.dep then y.dep else x.dep)+1≤64:=h6
  split at this<;>omega
theorem At.right {st z:St} {op:Int} {x y:Xt} {l l':Nat} {R:List (Int × List UInt8)} (h:At L st (.bin op x y) l R) (hz:Got st z x) (he:l≤l'):At L { z with a:=z.a+1 } y l' R:=by
 obtain ⟨h1,h2,h3,h4,h5,h6⟩:=h
 refine ⟨h1.2.2.2.2.2,?_,hz.dl,h4.up he,?_,?_⟩
 ·have e:Tk L st.a=x.toks++(opT op::(y.toks++R)):=by rw [h2];show (x.toks++opT op::y.toks)++R=_;rw [List.append_assoc];rfl
  obtain ⟨_,_,h⟩:=F5 (N9 e)
  rw [show z.a=st.a+x.toks.length from hz.a]
  exact h
 ·have:st.k+(if y.opn > x.opn then y.opn else x.opn:Nat)≤128:=h5
  show z.k+(y.opn:Nat)≤128
  rw [hz.k]
  split at this<;>omega
 ·have:(if y.dep > x.dep then y.dep else x.dep)+1≤64:=h6
  split at this<;>omega
theorem At.op {st z:St} {op:Int} {x y:Xt} {l:Nat} {R:List (Int × List UInt8)} (h:At L st (.bin op x y) l R) (hz:Got st z x):Tk L z.a=opT op::(y.toks++R):=by
 rw [hz.a]
 refine N9 ?_
 rw [h.tk];show (x.toks++opT op::y.toks)++R=_;rw [List.append_assoc];rfl
theorem C78 {l:Nat} {one:St→Res St} {op:Int} {x y:Xt} (hl:A0a L) (hop:6≤op∧op≤16) (hlv:lvl op=l+1) (hx:B39 L l one x) (hy:∀ st R,At L st y (l+1) R→∃ z,one st=.ok z∧Got st z y):B39 L l one (.bin op x y):=fun st R ha=>by
 obtain ⟨z,n,e,hn,g⟩:=hx st _ (ha.left (by omega))
 have ht:=ha.op g
 obtain ⟨hlt,_,_⟩:=F5 ht
 have hnx:=C7e hl hop ht
 rw [show lvl op - 1=l by omega] at hnx
 obtain ⟨z2,e2,g2⟩:=hy _ _ (ha.right g (Nat.le_refl _))
 obtain ⟨z3,e3,g3⟩:=C6h (op:=op) (C8 L z.a) g g2 ha.dep
 obtain ⟨m,rfl⟩:∃ m,n=m+1:=⟨n - 1,by omega⟩
 refine ⟨z3,m,?_,?_,g3⟩
 ·rw [e,A47,if_neg (by rw [hnx];omega),e2,hnx]
  dsimp only
  rw [e3]
 ·have h1:=g3.a
  have h2:=g.a
  have h3:(Xt.bin op x y).toks.length=x.toks.length+(y.toks.length+1):=by show (x.toks++opT op::y.toks).length=_;rw [List.length_append,List.length_cons]
  omega
theorem C7f {op:Int} {x:Xt}:(Xt.una op x).opn=x.opn+1:=rfl
theorem C6l {op:Int} {x:Xt}:(Xt.una op x).dep=x.dep+1:=rfl
theorem At.una {st:St} {op:Int} {x:Xt} {l l':Nat} {R:List (Int × List UInt8)} (h:At L st (.una op x) l R) (he:l≤l'):At L { st with a:=st.a+1,k:=st.k+1 } x l' R:=by
 obtain ⟨h1,h2,h3,h4,h5,h6⟩:=h
 obtain ⟨_,_,h⟩:=F5 (show Tk L st.a=_::(x.toks++R) from h2)
 rw [C7f] at h5
 rw [C6l] at h6
 refine ⟨h1.2,h,h3,h4.up he,?_,by omega⟩
 show st.k+1+(x.opn:Nat)≤128
 omega
theorem B4s {st:St} {op:Int} {x:Xt} {l:Nat} {R:List (Int × List UInt8)} {one:St→Res St} (h:At L st (.una op x) l R) (ho:∃ z,one { st with a:=st.a+1,k:=st.k+1 } = .ok z∧Got { st with a:=st.a+1,k:=st.k+1 } z x):∃ z,X6 L op one st=.ok z∧Got st z (.una op x):=by
 obtain ⟨z,e,g⟩:=ho
 have h5:=h.k
 rw [C7f] at h5
 have h6:=h.dep
 rw [C6l] at h6
 obtain ⟨z',e',g'⟩:=D6y (op:=op) (C8 L st.a) g h6
 refine ⟨z',?_,g'⟩
 unfold X6 A3l
 rw [if_neg (by omega),e]
 exact e'
theorem D6e (hl:A0a L) {st:St} {x:Xt} {R:List (Int × List UInt8)} {f:Nat} (h:At L st (.par x) 6 R) (ho:D0u L f 0 x):∃ z,ev L (f+1) 6 st=.ok z∧Got st z (.par x):=by
 obtain ⟨h1,h2,h3,h4,h5,h6⟩:=h
 have h5:st.k+((x.opn+1:Nat):Int)≤128:=h5
 have h2:Tk L st.a=(5,[40])::(x.toks++[(5,[41])]++R):=h2
 obtain ⟨_,_,ht⟩:=F5 h2
 rw [List.append_assoc] at ht
 obtain ⟨z,e,g⟩:=ho { st with a:=st.a+1,k:=st.k+1 } ((5,[41])::R) ⟨h1,ht,h3,C8j _,by show st.k+1+(x.opn:Nat)≤128;omega,h6⟩
 have htz:Tk L z.a=(5,[41])::R:=by rw [g.a];exact N9 ht
 refine ⟨{ z with a:=z.a+1,k:=z.k - 1 },?_,?_⟩
 ·show A2b L (ev L f 0) (ev L f 6) st=_
  unfold A2b
  rw [if_pos (by rw [S2 hl h2];decide)]
  unfold A3l
  rw [if_neg (by omega)]
  dsimp only
  rw [e]
  dsimp only
  unfold B7g
  rw [if_pos (by rw [S2 hl htz];decide)]
 ·refine ⟨?_,?_,g.o,g.d,g.dl,g.pos,g.top⟩
  ·show z.a+1=_
   rw [g.a];show st.a+1+x.toks.length+1=st.a+((5,[40])::(x.toks++[(5,[41])])).length
   rw [List.length_cons,List.length_append,List.length_cons,List.length_nil];omega
  ·show z.k - 1=_
   rw [g.k];show st.k+1 - 1=_;omega
theorem D2t (hl:A0a L) {a:Nat} {x:Xt} {R:List (Int × List UInt8)} (h:Tk L a=(5,[45])::(x.toks++R)) (hx:x.Ok) (hv:7≤x.lev) (hb:x.bare=false):isF L a [45]=true∧V1 L a=false:=by
 have hm:isF L a [45]=true:=by rw [S2 hl h];decide
 refine ⟨hm,?_⟩
 obtain ⟨_,_,ht⟩:=F5 h
 have key:∀ t r,x.toks=t::r→t.1≠3→V1 L a=false:=by
  intro t r e h3
  rw [e] at ht
  unfold V1
  rw [if_pos hm,(A3k (show Tk L (a+1)=t::(r++R) from ht)).2,decide_eq_false h3,Bool.and_false]
 match x,hx,hv,hb with
 | .con v,hx,_,hb =>
  rcases hx with ⟨a1,_⟩|⟨a1,_⟩|⟨a1,_⟩
  ·have hn:v.2.1 < 0:=by
    have hb:(decide (v.1=1) && decide (0≤v.2.1))=false:=hb
    rw [a1,decide_eq_true rfl,Bool.true_and] at hb
    have:=of_decide_eq_false hb
    omega
   exact key (5,[45]) [(3,Lib.itoa (-v.2.1))] (by show A07 v=_;unfold A07;rw [if_pos a1,if_pos hn]) (by decide)
  ·exact key (4,v.2.2.1) [] (by show A07 v=_;unfold A07;rw [if_neg (by rw [a1];decide),if_pos a1]) (by simp)
  ·exact key (2,_) [] (by show A07 v=_;unfold A07;rw [if_neg (by rw [a1];decide),if_neg (by rw [a1];decide)]) (by simp)
 | .nam s,_,_,_=>exact key (1,s) [] rfl (by simp)
 | .una op y,hx,_,_=>exact key _ y.toks rfl (by split<;>decide)
 | .bin op y w,hx,hv,_ =>
  have:=B50 ⟨hx.1,hx.2.1⟩
  have hv:7≤lvl op:=hv
  omega
 | .par y,_,_,_=>exact key _ _ rfl (by decide)
theorem B4w (hl:A0a L) {f j:Nat} (hj:j≤5∧j≠2∧j≠3) (ih:∀ y:Xt,j+2≤y.lev→7 * y.siz+7 - (j+1)≤f→D0u L f (j+1) y):∀ x:Xt,x.Ok→j+1≤x.lev→7 * x.siz+7 - j≤f+1→B39 L j (ev L f (j+1)) x
 | .con v,_,_,hf=>A5l (ih _ (by show j+2≤8;omega) (by omega))
 | .nam s,_,_,hf=>A5l (ih _ (by show j+2≤8;omega) (by omega))
 | .par x,_,_,hf=>A5l (ih _ (by show j+2≤8;omega) (by omega))
 | .una op x,hx,hv,hf=>by
  have hv:j+1≤lvl op:=hv
  refine A5l (ih _ ?_ (by omega))
  show j+2≤lvl op
  rcases hx.1 with ⟨h,_⟩|⟨h,_⟩
  ·subst h
   have e:lvl 4=3:=by decide
   omega
  ·subst h
   have e:lvl 5=7:=by decide
   omega
 | .bin op x y,hx,hv,hf=>by
  have hv:j+1≤lvl op:=hv
  by_cases h:j+2≤lvl op
  ·exact A5l (ih _ h (by omega))
  ·obtain ⟨h1,h2,h3,h4,h5,h6⟩:=hx
   rw [if_neg (by omega)] at h3
   have hs:(Xt.bin op x y).siz=x.siz+y.siz+1:=rfl
   exact C78 hl ⟨h1,h2⟩ (by omega) (B4w hl hj ih x h5 (by omega) (by omega)) (ih y (by omega) (by omega))
theorem C6x:∀ {x:Xt},x.Ok→1≤x.lev
 | .con _,_=>by show 1≤8;decide
 | .nam _,_=>by show 1≤8;decide
 | .par _,_=>by show 1≤8;decide
 | .una op x,h=>by
  show 1≤lvl op
  rcases h.1 with ⟨h,_⟩|⟨h,_⟩<;>subst h<;>decide
 | .bin op x y,h=>by
  have:=B50 ⟨h.1,h.2.1⟩
  show 1≤lvl op
  omega
theorem A4i (hl:A0a L):∀ (f l:Nat) (x:Xt),l≤6→l+1≤x.lev→7 * x.siz+7 - l≤f→D0u L f l x
 | 0,l,x,h6,_,hf=>by
  have:1≤x.siz:=by cases x<;>simp only [Xt.siz]<;>omega
  omega
 | f+1,l,x,h6,hv,hf=>by
  intro st R ha
  match l,h6 with
  | 0,_=>exact A4q hl (B4w hl (j:=0) (by decide) (fun y h1 h2=>A4i hl f 1 y (by decide) h1 h2) x ha.ok hv hf) ha
  | 1,_=>exact A4q hl (B4w hl (j:=1) (by decide) (fun y h1 h2=>A4i hl f 2 y (by decide) h1 h2) x ha.ok hv hf) ha
  | 4,_=>exact A4q hl (B4w hl (j:=4) (by decide) (fun y h1 h2=>A4i hl f 5 y (by decide) h1 h2) x ha.ok hv hf) ha
  | 5,_=>exact A4q hl (B4w hl (j:=5) (by decide) (fun y h1 h2=>A4i hl f 6 y (by decide) h1 h2) x ha.ok hv hf) ha
  | 2,_ =>
   by_cases h4:4≤x.lev
   ·obtain ⟨t,r,e,hn⟩:=Xt.C2h ha.ok h4
    rw [C5k hl (show Tk L st.a=t::(r++R) by rw [ha.tk,e];rfl) hn]
    exact A4i hl f 3 x (by decide) h4 (by omega) st R ⟨ha.ok,ha.tk,ha.len,ha.ends.up (by decide),ha.k,ha.dep⟩
   ·match x,hv,h4,hf,ha with
    | .con _,_,h4,_,_=>exact absurd (show 4≤8 by decide) h4
    | .nam _,_,h4,_,_=>exact absurd (show 4≤8 by decide) h4
    | .par _,_,h4,_,_=>exact absurd (show 4≤8 by decide) h4
    | .bin op _ _,hv,h4,_,ha =>
     have:=B50 ⟨ha.ok.1,ha.ok.2.1⟩
     have hv:3≤lvl op:=hv
     have h4:¬ 4≤lvl op:=h4
     omega
    | .una op y,hv,h4,hf,ha =>
     rcases ha.ok.1 with ⟨h,hy⟩|⟨h,_⟩
     ·subst h
      have hs:(Xt.una 4 y).siz=y.siz+1:=rfl
      have ht:Tk L st.a=(2,[110,111,116])::(y.toks++R):=ha.tk
      have e:ev L (f+1) 2 st=X6 L 4 (ev L f 2) st:=by
       show (if isF L st.a [110,111,116]=true then X6 L 4 (ev L f 2) st else ev L f 3 st)=_
       rw [S2 hl ht,if_pos (by decide)]
      rw [e]
      exact B4s ha (A4i hl f 2 y (by decide) hy (by omega) _ R (ha.una (Nat.le_refl _)))
     ·subst h;exact absurd (show 4≤lvl 5 by decide) h4
  | 3,_ =>
   by_cases h5:5≤x.lev
   ·obtain ⟨z,e,g⟩:=A4i hl f 4 x (by decide) h5 (by omega) st R ⟨ha.ok,ha.tk,ha.len,ha.ends.up (by decide),ha.k,ha.dep⟩
    refine ⟨z,?_,g⟩
    have ht:Tk L z.a=R:=by rw [g.a];exact N9 ha.tk
    show A7n L (ev L f 4) st=_
    unfold A7n
    rw [e]
    dsimp only
    rw [if_pos (show N3 L z.a A5m=0 from V2.next hl (j:=3) (by rw [ht];exact ha.ends) (Nat.le_refl _))]
   ·match x,hv,h5,hf,ha with
    | .con _,_,h4,_,_=>exact absurd (show 5≤8 by decide) h4
    | .nam _,_,h4,_,_=>exact absurd (show 5≤8 by decide) h4
    | .par _,_,h4,_,_=>exact absurd (show 5≤8 by decide) h4
    | .una op y,hv,h4,hf,ha =>
     rcases ha.ok.1 with ⟨h,hy⟩|⟨h,_⟩
     ·subst h;exact absurd (show 3+1≤lvl 4 from hv) (by decide)
     ·subst h;exact absurd (show 5≤lvl 5 by decide) h4
    | .bin op x y,hv,h5,hf,ha =>
     obtain ⟨h1,h2,h3,h4,_,_⟩:=ha.ok
     have hv:4≤lvl op:=hv
     have h5:¬ 5≤lvl op:=h5
     rw [if_pos (by omega)] at h3
     have hs:(Xt.bin op x y).siz=x.siz+y.siz+1:=rfl
     obtain ⟨z,e,g⟩:=A4i hl f 4 x (by decide) h3 (by omega) st _ (ha.left (by omega))
     have ht:=ha.op g
     have hnx:=C7e hl ⟨h1,h2⟩ ht
     rw [show lvl op - 1=3 by omega] at hnx
     have hnx:N3 L z.a A5m=op:=hnx
     obtain ⟨z2,e2,g2⟩:=A4i hl f 4 y (by decide) (by omega) (by omega) _ _ (ha.right g (by decide))
     obtain ⟨z3,e3,g3⟩:=C6h (op:=op) (C8 L z.a) g g2 ha.dep
     refine ⟨z3,?_,g3⟩
     show A7n L (ev L f 4) st=_
     unfold A7n
     rw [e]
     dsimp only
     rw [hnx,if_neg (by omega),e2]
     dsimp only
     rw [if_neg (by omega)]
     exact e3
  | 6,_ =>
   match x,hv,hf,ha with
   | .con v,_,_,ha=>exact D5c hl ha.ok ha.tk ha.len f
   | .nam s,_,_,ha=>exact D6a hl ha.ok ha.tk ha.len f
   | .par x,_,hf,ha =>
    have hs:(Xt.par x).siz=x.siz+2:=rfl
    exact D6e hl ha (A4i hl f 0 x (by decide) (C6x ha.ok) (by omega))
   | .bin op _ _,hv,_,ha =>
    have:=B50 ⟨ha.ok.1,ha.ok.2.1⟩
    have hv:7≤lvl op:=hv
    omega
   | .una op y,hv,hf,ha =>
    rcases ha.ok.1 with ⟨h,hy⟩|⟨h,hy,hb⟩
    ·subst h;exact absurd (show 7≤lvl 4 from hv) (by decide)
    ·subst h
     have hs:(Xt.una 5 y).siz=y.siz+1:=rfl
     have ht:Tk L st.a=(5,[45])::(y.toks++R):=ha.tk
     obtain ⟨n1,n2⟩:=D2t hl ht ha.ok.2 hy hb
     have e:ev L (f+1) 6 st=X6 L 5 (ev L f 6) st:=by
      show A2b L (ev L f 0) (ev L f 6) st=_
      unfold A2b
      rw [if_neg (by rw [S2 hl ht];decide),if_neg (by rw [(P9 hl ht).1];simp),if_pos ⟨n1,n2⟩]
     rw [e]
     exact B4s ha (A4i hl f 6 y (by decide) hy (by omega) _ R (ha.una (Nat.le_refl _)))
end Go.Proofs.YticnkpgmmpenlaaGreatDoor.Pr
namespace Go.Proofs.YticnkpgmmpenlaaGreatDoor.Pr
open Go Go.Ab Go.RowKit Go.Proofs.YticnkpgmmpenlaaGreatDoor.Lx Go.Proofs.YticnkpgmmpenlaaGreatDoor.Pa
theorem C6a:∀ n:Nat,n < 256→Sc.K9 n=true→A45 n=false∧n≠35∧n≠34:=by decide
theorem D0p {c:UInt8} (h:Sc.K9 c.toNat=true):A45 c.toNat=false∧c≠35∧c≠34:=by
 obtain ⟨h1,h2,h3⟩:=C6a c.toNat (UInt8.toNat_lt c) h
 exact ⟨h1,fun e=>h2 (by rw [e];rfl),fun e=>h3 (by rw [e];rfl)⟩
theorem C2v:∀ (w r:List UInt8),w.all (fun c=>Sc.K9 c.toNat)=true→K5 r=0→K5 (w++r)=w.length
 | [],r,_,h=>h
 | c::a,r,ha,h=>by
  simp only [List.all_cons,Bool.and_eq_true] at ha
  rw [List.cons_append,K5,if_pos ha.1,C2v a r ha.2 h];rfl
theorem F0 {w r:List UInt8} {k:Int} {T:List (Int × List UInt8)} (hw:w.all (fun c=>Sc.K9 c.toNat)=true) (hne:w≠[]) (hk:F4 w=.ok (k,w)) (hr:K5 r=0) (h:E0 r T):E0 (w++r) ((k,w)::T):=by
 have hlen:=C2v w r hw hr
 match w,hne with
 | c::w,_ =>
  have hc:Sc.K9 c.toNat=true:=by simp only [List.all_cons,Bool.and_eq_true] at hw;exact hw.1
  obtain ⟨b1,b2,b3⟩:=D0p hc
  refine Y6 (z:=(c::w).length) (A0y b1 b2) (by simp) ?_ (by rw [List.drop_left];exact h)
  unfold J4
  rw [if_neg (by show ¬ c=34;exact b3),hlen,if_neg (by simp),List.take_left,hk]
theorem C2x {t r:List UInt8} {T:List (Int × List UInt8)} (ht:t.length≤4096) (h:E0 r T):E0 (Qu.A2x t++r) ((4,t)::T):=by
 have hc:=Qu.C8c t r
 have h34:∃ q,Qu.A2x t=34::q:=⟨_,rfl⟩
 obtain ⟨q,hq⟩:=h34
 refine Y6 (z:=(Qu.A2x t).length) (by rw [hq];exact A0y (by decide) (by decide)) (by rw [hq];simp) ?_ (by rw [List.drop_left];exact h)
 unfold J4
 rw [if_pos (by rw [hq];rfl),hc]
 dsimp only
 rw [if_neg (by omega)]
theorem C7n {r:List UInt8}:M0 (45::r)=[45]:=by
 unfold M0 signsL
 simp [A1n,B57,B07]
def A93 (v:Int × Int × List UInt8 × Bool):List UInt8 :=
 if v.1=1 then Lib.itoa v.2.1 else if v.1=2 then Qu.A2x v.2.2.1 else if v.2.2.2=true then [116,114,117,101] else [102,97,108,115,101]
namespace Xt
def txt:Xt→List UInt8
 | con v=>A93 v
 | nam s=>s
 | una op x=>(if op=4 then [110,111,116,32] else [45])++txt x
 | bin op x y=>txt x++32::(A2y op++32::txt y)
 | par x=>40::(txt x++[41])
def Lexed:Xt→Prop
 | con v=>v.2.2.1.length≤4096
 | nam s=>s.all (fun c=>Sc.K9 c.toNat)=true∧s≠[]∧F4 s=.ok (1,s)
 | una _ x=>Lexed x
 | bin _ x y=>Lexed x∧Lexed y
 | par x=>Lexed x
end Xt
theorem _root_.Go.Proofs.YticnkpgmmpenlaaGreatDoor.Nu.dec_short:∀ (k n:Nat),n < 10 ^ k→(Lib.decDigits n).length≤max k 1
 | 0,n,h=>by
  have:n=0:=by omega
  subst this
  rw [Lib.decDigits,dif_pos (by omega)];simp
 | k+1,n,h=>by
  by_cases hu:n < 10
  ·rw [Lib.decDigits,dif_pos hu];show 1≤_;omega
  ·have:=Nu.dec_short k (n / 10) (by rw [Nat.pow_succ] at h;omega)
   rw [Lib.decDigits,dif_neg hu,List.length_append,List.length_singleton]
   have:1≤k:=by
    rcases Nat.eq_zero_or_pos k with rfl|h'
    ·omega
    ·exact h'
   omega
theorem D2c:∀ n:Nat,n < 256→decide (48≤n) && decide (n≤57)=true→Sc.K9 n=true:=by decide
theorem B24 (n:Nat):(Lib.decDigits n).all (fun c=>Sc.K9 c.toNat)=true∧(Lib.decDigits n).all digB=true∧Lib.decDigits n≠[]∧((B9 (Lib.decDigits n) 0).toNat=48→n=0):=by
 obtain ⟨h1,h2,_,h4⟩:=Nu.A8l (n+1) n (by omega)
 have h3:(Lib.decDigits n).all digB=true:=by
  rw [← h2]
  exact congrArg (Lib.decDigits n).all (funext fun c=>C11 c)
 refine ⟨?_,h3,h1,h4⟩
 rw [List.all_eq_true] at h3 ⊢
 intro c hc
 have:=h3 c hc
 refine D2c c.toNat (UInt8.toNat_lt c) ?_
 unfold digB A6h at this
 simp at this
 simp
 omega
theorem C26 (n:Nat) (h:n≤9223372036854775808):F4 (Lib.decDigits n)=.ok (3,Lib.decDigits n):=by
 obtain ⟨_,h2,h3,h4⟩:=B24 n
 have hlen:(Lib.decDigits n).length≤32:=by
  have:=Nu.dec_short 20 n (by omega)
  omega
 have h0:digB (B9 (Lib.decDigits n) 0)=true:=by
  rw [List.all_eq_true] at h2
  refine h2 _ ?_
  cases hd:Lib.decDigits n with
  | nil=>exact absurd hd h3
  | cons c r=>exact List.mem_cons_self
 refine B7y h0 ?_
 unfold A28
 rw [if_neg,if_neg (by omega)]
 rintro (hh|⟨h5,h6⟩)
 ·rw [h2] at hh;cases hh
 ·have:=h4 (by rw [h5];rfl)
  subst this
  rw [Lib.decDigits,dif_pos (by omega)] at h6
  exact absurd h6 (by decide)
theorem B86 {n:Int} (h0:0≤n) (h:n≤9223372036854775808) {r:List UInt8} {T:List (Int × List UInt8)} (hr:K5 r=0) (hT:E0 r T):E0 (Lib.itoa n++r) ((3,Lib.itoa n)::T):=by
 have e:Lib.itoa n=Lib.decDigits n.toNat:=by unfold Lib.itoa;rw [if_neg (by omega)]
 rw [e]
 obtain ⟨h1,_,h3,_⟩:=B24 n.toNat
 exact F0 h1 h3 (C26 _ (by omega)) hr hT
theorem B87 {v:Int × Int × List UInt8 × Bool} (hv:Xt.C1q v) (hs:v.2.2.1.length≤4096) {r:List UInt8} {T:List (Int × List UInt8)} (hr:K5 r=0) (h:E0 r T):E0 (A93 v++r) (A07 v++T):=by
 unfold A93 A07
 rcases hv with ⟨a1,a2,a3,_⟩|⟨a1,_⟩|⟨a1,_⟩
 ·rw [if_pos a1,if_pos a1]
  by_cases hn:v.2.1 < 0
  ·rw [if_pos hn]
   have hi:Lib.itoa v.2.1=45::Lib.itoa (-v.2.1):=by
    unfold Lib.itoa
    rw [if_pos hn,if_neg (by omega),show v.2.1.natAbs=(-v.2.1).toNat by omega]
   rw [hi]
   exact T9 (by decide) (by decide) (by decide) (by decide) C7n (B86 (by omega) (by omega) hr h)
  ·rw [if_neg hn]
   exact B86 (by omega) (by omega) hr h
 ·have n1:¬ v.1=1:=by rw [a1];decide
  rw [if_neg n1,if_pos a1,if_neg n1,if_pos a1]
  exact C2x hs h
 ·have n1:¬ v.1=1:=by rw [a1];decide
  have n2:¬ v.1=2:=by rw [a1];decide
  rw [if_neg n1,if_neg n2,if_neg n1,if_neg n2]
  cases v.2.2.2
  ·exact F0 (w:=[102,97,108,115,101]) (by decide) (by decide) (by kernel_rfl) hr h
  ·exact F0 (w:=[116,114,117,101]) (by decide) (by decide) (by kernel_rfl) hr h
theorem D2k {op:Int} (h:6≤op∧op≤16) {r:List UInt8} {T:List (Int × List UInt8)} (hT:E0 (32::r) T):E0 (A2y op++32::r) (opT op::T):=by
 have hw:K5 (32::r)=0:=by rw [K5,if_neg (by decide)]
 have sg:∀ (c:UInt8) (w:List UInt8),A45 c.toNat=false→c≠35→c≠34→Sc.K9 c.toNat=false→M0 (c::w++32::r)=c::w→E0 (c::w++32::r) ((5,c::w)::T):=by
  intro c w h1 h2 h3 h4 h5
  refine Y6 (z:=(c::w).length) (A0y h1 h2) (by simp) ?_ (by rw [List.drop_left];exact hT)
  unfold J4
  rw [if_neg (by show ¬ c=34;exact h3),if_pos (by rw [List.cons_append,K5,if_neg (by rw [h4];decide)]),h5,if_neg (by simp)]
 rcases A2u h with rfl|rfl|rfl|rfl|rfl|rfl|rfl|rfl|rfl|rfl|rfl
 ·exact F0 (w:=[97,110,100]) (by decide) (by decide) (by kernel_rfl) hw hT
 ·exact F0 (w:=[111,114]) (by decide) (by decide) (by kernel_rfl) hw hT
 all_goals exact sg _ _ (by decide) (by decide) (by decide) (by decide) (by simp [M0,A1n,signsL,pfx])
theorem A3w:∀ (x:Xt),x.Ok→x.Lexed→∀ (r:List UInt8) (T:List (Int × List UInt8)),K5 r=0→E0 r T→E0 (x.txt++r) (x.toks++T)
 | .con v,hx,hs,r,T,hr,h=>B87 hx hs hr h
 | .nam s,_,hs,r,T,hr,h=>F0 hs.1 hs.2.1 hs.2.2 hr h
 | .una op x,hx,hs,r,T,hr,h=>by
  have ih:=A3w x hx.2 hs r T hr h
  rcases hx.1 with ⟨e,_⟩|⟨e,_⟩
  ·subst e;exact B85 ih
  ·subst e;exact T9 (by decide) (by decide) (by decide) (by decide) C7n ih
 | .bin op x y,hx,hs,r,T,hr,h=>by
  have ihy:=A3w y hx.2.2.2.2.2 hs.2 r T hr h
  have h1:=D2k ⟨hx.1,hx.2.1⟩ (E4 ihy)
  have h2:=A3w x hx.2.2.2.2.1 hs.1 (32::(A2y op++32::(y.txt++r))) _ (by rw [K5,if_neg (by decide)]) (E4 h1)
  have e1:(Xt.bin op x y).txt++r=x.txt++32::(A2y op++32::(y.txt++r)):=by
   show (x.txt++32::(A2y op++32::y.txt))++r=_
   rw [List.append_assoc,List.cons_append,List.append_assoc,List.cons_append]
  have e2:(Xt.bin op x y).toks++T=x.toks++opT op::(y.toks++T):=by
   show (x.toks++opT op::y.toks)++T=_
   rw [List.append_assoc,List.cons_append]
  rw [e1,e2];exact h2
 | .par x,hx,hs,r,T,hr,h=>by
  have h1:E0 (41::r) ((5,[41])::T):=T9 (by decide) (by decide) (by decide) (by decide) C7m h
  have h2:=A3w x hx hs (41::r) _ (by rw [K5,if_neg (by decide)]) h1
  have h3:E0 (40::(x.txt++41::r)) ((5,[40])::(x.toks++(5,[41])::T)):=T9 (by decide) (by decide) (by decide) (by decide) C7l h2
  have e1:(Xt.par x).txt++r=40::(x.txt++41::r):=by
   show 40::(x.txt++[41])++r=_
   rw [List.cons_append,List.append_assoc];rfl
  have e2:(Xt.par x).toks++T=(5,[40])::(x.toks++(5,[41])::T):=by
   show (5,[40])::(x.toks++[(5,[41])])++T=_
   rw [List.cons_append,List.append_assoc];rfl
  rw [e1,e2];exact h3
end Go.Proofs.YticnkpgmmpenlaaGreatDoor.Pr
namespace Go.Proofs.YticnkpgmmpenlaaGreatDoor.Tr
open Go Go.Ab Go.RowKit
variable {Γ:Nat→AV}
attribute [local irreducible] B7 Sto.set Sto.grow
theorem C8o (tk:Nat→Nat) (x:Tr0):B7 Tryz.prog Γ 5 [.agg (trA tk x)] fun v=>v=.int .i64 (if A86 x=true then 1 else 0):=by
 have l1:(x.2.1.map deA).length=x.2.1.length:=List.length_map ..
 have l3:(x.2.2.1.map quA).length=x.2.2.1.length:=List.length_map ..
 have l5:(x.2.2.2.1.map frA).length=x.2.2.2.1.length:=List.length_map ..
 have l7:(x.2.2.2.2.1.map stA).length=x.2.2.2.2.1.length:=List.length_map ..
 have l9:(x.2.2.2.2.2.2.1.map syA).length=x.2.2.2.2.2.2.1.length:=List.length_map ..
 have l11:(x.2.2.2.2.2.2.2.map tnA).length=x.2.2.2.2.2.2.2.length:=List.length_map ..
 have no:∀ t:Bool,A86 x=t→t=false→AV.int .i64 0=.int .i64 (if A86 x=true then 1 else 0):=fun t h1 h2=>by rw [h1,h2];rfl
 refine aps Tryz.func5 ?_
 intro s
 conv=>whnf
 intro b hb
 conv=>whnf
 repeat' ((first|(refine brS (fun h=>?_) (fun h=>?_)<;>(try rw [h])<;>(try simp only [bS,↓reduceIte] at h))|refine gS ?_|refine aA ?_|refine nA ?_|fail)<;>(conv=>whnf))
 all_goals try (refine ⟨(Sub.refl _).set hb _ _,no (B0y x && (x.2.1.all deB && (x.2.2.2.1.all frB && (x.2.2.2.2.2.2.1.all syB && x.2.2.2.2.2.2.2.all tnB)))) rfl ?_⟩;rw [show B0y x=false from Bool.eq_false_iff.2 (fun hh=>by simp only [B0y,Bool.and_eq_true,decide_eq_true_eq] at hh;omega)];rfl)
 have hp0:A86 x=(x.2.1.all deB && (x.2.2.2.1.all frB && (x.2.2.2.2.2.2.1.all syB && x.2.2.2.2.2.2.2.all tnB))):=by
  unfold A86
  rw [show B0y x=true from by simp only [B0y,Bool.and_eq_true,decide_eq_true_eq];omega]
  rfl
 refine AWp.loopA [3] [43,44,45,46,47,50,51,52,53,54,55,56,57,2,48,49] (fun i:Nat=>[.int .i64 i]) (fun i s'=>i≤x.2.1.length∧s'.bx b=some (31,trA tk x)∧Sub s s'∧A86 x=((x.2.1.drop i).all deB && (x.2.2.2.1.all frB && (x.2.2.2.2.2.2.1.all syB && x.2.2.2.2.2.2.2.all tnB)))) (fun i=>x.2.1.length - i) (0) (by kernel_rfl) (eqa) ?_ ?_
 ·exact ⟨by omega,A7,(Sub.refl _).set hb _ _,hp0⟩
 ·rintro q i s1 ⟨hi,h1,hs1,hp⟩
  conv=>whnf
  have hga:=fun h:i < x.2.1.length=>C4 (f:=deA) (l:=x.2.1) A0f h
  have hd:=fun h:i < x.2.1.length=>J8 (p:=deB) A0f h
  generalize x.2.1.getD i A0f=u at *
  have hu:=M1 .i64 u.2.2
  repeat' ((first|(refine brS (fun h=>?_) (fun h=>?_)<;>(try rw [h])<;>(try simp only [bS,↓reduceIte] at h))|(refine B6 h1 ?_)|(rw [show (x.2.1.map deA).getD ((i:Int)).toNat []=_ from hga (by omega)])|refine gS ?_|refine aA ?_|refine nA ?_|fail)<;>(conv=>whnf))
  ·first|refine ⟨hs1,?_⟩|skip
   refine no _ hp ?_
   rw [hd (by omega),show deB u=false from decide_eq_false (by omega)]
   rfl
  ·refine ⟨i+1,eqa,C5,⟨by omega,h1,hs1,?_⟩,by omega⟩
   rw [hp,hd (by omega),show deB u=true from decide_eq_true (by omega),Bool.true_and]
  ·rw [D5 (by omega),List.all_nil,Bool.true_and] at hp
   refine AWp.loopA [4] [58,59,60,61,62,65,66,67,68,69,70,71,72,73,2,63,64] (fun i:Nat=>[.int .i64 i]) (fun i s'=>i≤x.2.2.2.1.length∧s'.bx b=some (31,trA tk x)∧Sub s s'∧A86 x=((x.2.2.2.1.drop i).all frB && (x.2.2.2.2.2.2.1.all syB && x.2.2.2.2.2.2.2.all tnB))) (fun i=>x.2.2.2.1.length - i) (0) (by kernel_rfl) (eqa) ?_ ?_
   ·exact ⟨by omega,h1,hs1,hp⟩
   ·clear hp hga hd hi
    rintro q i s1 ⟨hi,h1,hs1,hp⟩
    conv=>whnf
    have hga:=fun h:i < x.2.2.2.1.length=>C4 (f:=frA) (l:=x.2.2.2.1) A1d h
    have hd:=fun h:i < x.2.2.2.1.length=>J8 (p:=frB) A1d h
    generalize x.2.2.2.1.getD i A1d=u at *
    repeat' ((first|(refine brS (fun h=>?_) (fun h=>?_)<;>(try rw [h])<;>(try simp only [bS,↓reduceIte] at h))|(refine B6 h1 ?_)|(rw [show (x.2.2.2.1.map frA).getD ((i:Int)).toNat []=_ from hga (by omega)])|refine gS ?_|refine aA ?_|refine nA ?_|fail)<;>(conv=>whnf))
    ·first|refine ⟨hs1,?_⟩|skip
     refine no _ hp ?_
     rw [hd (by omega),show frB u=false from decide_eq_false (by omega)]
     rfl
    ·refine ⟨i+1,eqa,C5,⟨by omega,h1,hs1,?_⟩,by omega⟩
     rw [hp,hd (by omega),show frB u=true from decide_eq_true (by omega),Bool.true_and]
    ·rw [D5 (by omega),List.all_nil,Bool.true_and] at hp
     refine AWp.loopA [5] [74,75,76,77,78,81,82,83,84,85,86,87,2,79,80] (fun i:Nat=>[.int .i64 i]) (fun i s'=>i≤x.2.2.2.2.2.2.1.length∧s'.bx b=some (31,trA tk x)∧Sub s s'∧A86 x=((x.2.2.2.2.2.2.1.drop i).all syB && x.2.2.2.2.2.2.2.all tnB)) (fun i=>x.2.2.2.2.2.2.1.length - i) (0) (by kernel_rfl) (eqa) ?_ ?_
     ·exact ⟨by omega,h1,hs1,hp⟩
     ·clear hp hga hd hi
      rintro q i s1 ⟨hi,h1,hs1,hp⟩
      conv=>whnf
      have hga:=fun h:i < x.2.2.2.2.2.2.1.length=>C4 (f:=syA) (l:=x.2.2.2.2.2.2.1) Y9 h
      have hd:=fun h:i < x.2.2.2.2.2.2.1.length=>J8 (p:=syB) Y9 h
      generalize x.2.2.2.2.2.2.1.getD i Y9=u at *
      repeat' ((first|(refine brS (fun h=>?_) (fun h=>?_)<;>(try rw [h])<;>(try simp only [bS,↓reduceIte] at h))|(refine B6 h1 ?_)|(rw [show (x.2.2.2.2.2.2.1.map syA).getD ((i:Int)).toNat []=_ from hga (by omega)])|(refine A6.pure' ?_ (B1l u);rintro _ rfl)|refine C0.pure ?_ (B1l u)|refine gS ?_|refine aA ?_|refine nA ?_|fail)<;>(conv=>whnf))
      ·first|refine ⟨hs1,?_⟩|skip
       refine no _ hp ?_
       rw [hd (by omega),show syB u=false by assumption]
       rfl
      ·refine ⟨i+1,eqa,C5,⟨by omega,h1,hs1,?_⟩,by omega⟩
       rw [hp,hd (by omega),show syB u=true by assumption,Bool.true_and]
      ·rw [D5 (by omega),List.all_nil,Bool.true_and] at hp
       refine AWp.loopA [6] [88,89,90,91,92,95,96,97,98,99,7,100,101,102,103,104,105,106,107,108,109,110,111,112,113,114,115,2,8,116,117,118,119,120,123,124,125,126,127,128,129,130,131,121,122,93,94] (fun i:Nat=>[.int .i64 i]) (fun i s'=>i≤x.2.2.2.2.2.2.2.length∧s'.bx b=some (31,trA tk x)∧Sub s s'∧A86 x=(x.2.2.2.2.2.2.2.drop i).all tnB) (fun i=>x.2.2.2.2.2.2.2.length - i) (0) (by kernel_rfl) (eqa) ?_ ?_
       ·exact ⟨by omega,h1,hs1,hp⟩
       ·clear hp hga hd hi
        rintro q i s1 ⟨hi,h1,hs1,hp⟩
        conv=>whnf
        have hga:=fun h:i < x.2.2.2.2.2.2.2.length=>C4 (f:=tnA) (l:=x.2.2.2.2.2.2.2) U1 h
        have hd:=fun h:i < x.2.2.2.2.2.2.2.length=>J8 (p:=tnB) U1 h
        generalize x.2.2.2.2.2.2.2.getD i U1=u at *
        have lu:(u.2.2.2.2.1.map exA).length=u.2.2.2.2.1.length:=List.length_map ..
        have lv:(u.2.2.2.2.2.2.map seA).length=u.2.2.2.2.2.2.length:=List.length_map ..
        repeat' ((first|(refine brS (fun h=>?_) (fun h=>?_)<;>(try rw [h])<;>(try simp only [bS,↓reduceIte] at h))|(refine B6 h1 ?_)|(rw [show (x.2.2.2.2.2.2.2.map tnA).getD ((i:Int)).toNat []=_ from hga (by omega)])|refine gS ?_|refine aA ?_|refine nA ?_|fail)<;>(conv=>whnf))
        ·intro c hc
         conv=>whnf
         refine B6 A7 ?_
         repeat' ((first|(refine brS (fun h=>?_) (fun h=>?_)<;>(try rw [h])<;>(try simp only [bS,↓reduceIte] at h))|(refine B6 A7 ?_)|(refine A6.pure' ?_ (B1l (u.1.1,u.2.2.2.1));rintro _ rfl)|refine C0.pure ?_ (B1l (u.1.1,u.2.2.2.1))|refine gS ?_|refine aA ?_|refine nA ?_|fail)<;>(conv=>whnf))
         ·refine ⟨((hs1.set (hs1.none hc) _ _).set (hs1.none hc) _ _),?_⟩
          refine no _ hp ?_
          rw [hd (by omega),show tnB u=false by { unfold tnB;rw [show syB (u.1.1,u.2.2.2.1)=false by assumption];rfl }]
          rfl
         ·refine ⟨((hs1.set (hs1.none hc) _ _).set (hs1.none hc) _ _),?_⟩
          refine no _ hp ?_
          rw [hd (by omega),show tnB u=false by { unfold tnB;rw [decide_eq_false (p:=(u.2.2.2.2.1.length:Int)≤40) (by omega),Bool.false_and,Bool.and_false] }]
          rfl
         ·refine ⟨((hs1.set (hs1.none hc) _ _).set (hs1.none hc) _ _),?_⟩
          refine no _ hp ?_
          rw [hd (by omega),show tnB u=false by { unfold tnB;rw [decide_eq_false (p:=(u.2.2.2.2.2.2.length:Int)≤12) (by omega),Bool.false_and,Bool.and_false,Bool.and_false] }]
          rfl
         ·have ht:tnB u=u.2.2.2.2.1.all exB:=by
           unfold tnB
           rw [show syB (u.1.1,u.2.2.2.1)=true by assumption,decide_eq_true (p:=(u.2.2.2.2.1.length:Int)≤40) (by omega),decide_eq_true (p:=(u.2.2.2.2.2.2.length:Int)≤12) (by omega)]
           rfl
          have e1:=A8 h1 hc
          refine AWp.loopA [8] [116,117,118,119,120,123,124,125,126,127,128,129,130,131,2,121,122] (fun k:Nat=>[.int .i64 k]) (fun k s'=>k≤u.2.2.2.2.1.length∧s'.bx c=some (43,tnA u)∧s'.bx b=some (31,trA tk x)∧Sub s s'∧tnB u=(u.2.2.2.2.1.drop k).all exB) (fun k=>u.2.2.2.2.1.length - k) (0) (by kernel_rfl) (eqa) ?_ ?_
          ·refine ⟨by omega,A7,?_,((hs1.set (hs1.none hc) _ _).set (hs1.none hc) _ _),ht⟩
           rw [A9 e1,A9 e1];exact h1
          ·rintro q2 k s2 ⟨hk,g1,g2,hs2,hq⟩
           conv=>whnf
           have hgk:=fun h:k < u.2.2.2.2.1.length=>C4 (f:=exA) (l:=u.2.2.2.2.1) G2 h
           have hdk:=fun h:k < u.2.2.2.2.1.length=>J8 (p:=exB) G2 h
           generalize u.2.2.2.2.1.getD k G2=z at *
           repeat' ((first|(refine brS (fun h=>?_) (fun h=>?_)<;>(try rw [h])<;>(try simp only [bS,↓reduceIte] at h))|(refine B6 g1 ?_)|(rw [show (u.2.2.2.2.1.map exA).getD ((k:Int)).toNat []=_ from hgk (by omega)])|refine gS ?_|refine aA ?_|refine nA ?_|fail)<;>(conv=>whnf))
           ·first|refine ⟨hs2,?_⟩|skip
            refine no _ hp ?_
            rw [hd (by omega),hq,hdk (by omega),show exB z=false from decide_eq_false (by omega)]
            rfl
           ·refine ⟨k+1,eqa,C5,⟨by omega,g1,g2,hs2,?_⟩,by omega⟩
            rw [hq,hdk (by omega),show exB z=true from decide_eq_true (by omega),Bool.true_and]
           ·rw [D5 (by omega),List.all_nil] at hq
            refine ⟨i+1,eqa,C5,⟨by omega,g2,hs2,?_⟩,by omega⟩
            rw [hp,hd (by omega),hq,Bool.true_and]
        ·rw [D5 (by omega),List.all_nil] at hp
         first|refine ⟨hs1,?_⟩|skip
         rw [hp]
         rfl
theorem B9r (n:Int):B7 Tryz.prog Γ 129 [.int .i64 n] fun v=>v=.agg (vlA (1,n,[],false)):=by
 refine aps Tryz.func129 ?_
 intro s
 conv=>whnf
 intro b hb
 refine wr ?_
 exact ⟨((Sub.refl _).set hb _ _).set hb _ _,rfl⟩
def e1:Ex:=(1,0,0,[],(1,2,[],false),0,0)
def e2:Ex:=(1,0,0,[],(1,3,[],false),0,0)
def e3:Ex:=(8,0,1,[],R5,0,0)
def W0 (v:Vl):Bool :=
 if v.1=1 then decide (v.2.2.1=[]) && !v.2.2.2
 else if v.1=2 then decide (v.2.1=0) && !v.2.2.2 && decide (v.2.2.1.length≤4096)
 else decide (v.1=3) && decide (v.2.1=0) && decide (v.2.2.1=[])
theorem B9s (s:List UInt8):B7 Tryz.prog Γ 130 [.str s] fun v=>v=.agg (vlA (2,0,s,false)):=by
 refine aps Tryz.func130 ?_
 intro s
 conv=>whnf
 intro b hb
 refine wr ?_
 exact ⟨((Sub.refl _).set hb _ _).set hb _ _,rfl⟩
theorem B7c (t:Bool):B7 Tryz.prog Γ 131 [.bool t] fun v=>v=.agg (vlA (3,0,[],t)):=by
 refine aps Tryz.func131 ?_
 intro s
 conv=>whnf
 intro b hb
 refine wr ?_
 exact ⟨((Sub.refl _).set hb _ _).set hb _ _,rfl⟩
theorem A3z (v:Vl):B7 Tryz.prog Γ 83 [.agg (vlA v)] fun x=>x=.bool (W0 v):=by
 obtain ⟨k,n,s,t⟩:=v
 refine aps Tryz.func83 ?_
 intro s
 conv=>whnf
 intro b hb
 conv=>whnf
 repeat' ((first|(refine brS (fun h=>?_) (fun h=>?_)<;>(try rw [h])<;>(try simp only [bS,↓reduceIte] at h))|(refine A6.pure' ?_ (B9r _);rintro _ rfl)|refine C0.pure ?_ (B9r _)|(refine A6.pure' ?_ (B9s _);rintro _ rfl)|refine C0.pure ?_ (B9s _)|(refine A6.pure' ?_ (B7c _);rintro _ rfl)|refine C0.pure ?_ (B7c _)|(refine P4.of B0s A6s ?_)|refine gS ?_|refine aA ?_|refine nA ?_|fail)<;>(conv=>whnf))
 all_goals refine ⟨(Sub.refl _).set hb _ _,C3 ?_⟩
 all_goals (try simp only [] at *)
 all_goals grind [W0]
def A4x (nm:List UInt8→Bool) (x:Ex):Bool :=
 if x.2.1≠0∨x.2.2.1≠0 then false
 else if x.1=1 then decide (x.2.2.2.1=[]) && W0 x.2.2.2.2.1
 else decide (x.1=17) && (decide (x.2.2.2.2.1=R5) && nm x.2.2.2.1)
theorem C65 (nm:List UInt8→Bool) (x:Ex) (hn:B7 Tryz.prog Γ 120 [.str x.2.2.2.1] fun v=>v=.bool (nm x.2.2.2.1)):B7 Tryz.prog Γ 195 [.agg (exA x)] fun v=>v=.bool (A4x nm x):=by
 have hev:=B8s x.2.2.2.2.1 R5
 refine aps Tryz.func195 ?_
 intro s
 conv=>whnf
 intro b hb
 conv=>whnf
 repeat' ((first|exact pru|(refine brS (fun h=>?_) (fun h=>?_)<;>(try rw [h])<;>(try simp only [bS,↓reduceIte] at h))|(refine A6.pure' ?_ (A3z x.2.2.2.2.1);rintro _ rfl)|refine C0.pure ?_ (A3z x.2.2.2.2.1)|(refine P4.of B0s A6s ?_)|(refine A6.pure' ?_ (hn);rintro _ rfl)|refine C0.pure ?_ (hn)|refine gS ?_|refine aA ?_|refine nA ?_|fail)<;>(conv=>whnf))
 all_goals refine ⟨(Sub.refl _).set hb _ _,C3 ?_⟩
 all_goals (unfold A4x;rw [← hev])
 all_goals grind [R5]
def A03 (nm:List UInt8→Bool) (x:Ex) (i:Nat) (r:List (Int × Int)):Int × Int :=
 if A4x nm x=true then (1,1)
 else if x.1 < 4∨16 < x.1∨x.2.2.2.1≠[]∨x.2.2.2.2.1≠R5∨i=0∨(r.getD (i - 1) (0,0)).1=0 then (0,0)
 else if x.1≤5 then (if x.2.1=(i:Int) - 1∧x.2.2.1=0 then ((r.getD (i - 1) (0,0)).1+1,(r.getD (i - 1) (0,0)).2+1) else (0,0))
 else if x.2.2.1=(i:Int) - 1∧x.2.1=(i:Int) - 1 - (r.getD (i - 1) (0,0)).1∧0≤(i:Int) - 1 - (r.getD (i - 1) (0,0)).1∧0 < (r.getD ((i:Int) - 1 - (r.getD (i - 1) (0,0)).1).toNat (0,0)).1 then
  ((r.getD ((i:Int) - 1 - (r.getD (i - 1) (0,0)).1).toNat (0,0)).1+(r.getD (i - 1) (0,0)).1+1,max (r.getD ((i:Int) - 1 - (r.getD (i - 1) (0,0)).1).toNat (0,0)).2 (r.getD (i - 1) (0,0)).2+1)
 else (0,0)
def tab (nm:List UInt8→Bool) (l:List Ex):Nat→List (Int × Int)
 | 0=>[]
 | i+1=>tab nm l i++[A03 nm (l.getD i G2) i (tab nm l i)]
theorem A1o (nm:List UInt8→Bool) (l:List Ex):∀ i,(tab nm l i).length=i
 | 0=>rfl
 | i+1=>by rw [tab,List.length_append,A1o nm l i];rfl
theorem C8y {α:Type} {r:List α} {d p:α} {j:Nat} (h:j < r.length):(r++[p]).getD j d=r.getD j d:=by
 simp [List.getD,List.getElem?_append_left h]
theorem B8x {α:Type} {r:List α} {d p:α}:(r++[p]).getD r.length d=p:=by
 simp [List.getD]
theorem C0v {nm:List UInt8→Bool} {x:Ex} {i:Nat} {r:List (Int × Int)} (h:∀ j:Nat,j < i→0≤(r.getD j (0,0)).1∧(r.getD j (0,0)).1≤j+1∧0≤(r.getD j (0,0)).2∧(r.getD j (0,0)).2≤j+1) :
  0≤(A03 nm x i r).1∧(A03 nm x i r).1≤i+1∧0≤(A03 nm x i r).2∧(A03 nm x i r).2≤i+1:=by
 unfold A03
 split
 ·simp only [];omega
 split
 ·simp only [];omega
 rename_i h1 h2
 have hp:=h (i - 1) (by omega)
 generalize r.getD (i - 1) (0,0)=p at *
 split
 ·split
  ·simp only [];omega
  ·simp only [];omega
 ·split
  ·rename_i h4
   have hq:=h ((i:Int) - 1 - p.1).toNat (by omega)
   generalize r.getD ((i:Int) - 1 - p.1).toNat (0,0)=q at *
   simp only []
   omega
  ·simp only [];omega
theorem A82 (nm:List UInt8→Bool) (l:List Ex):∀ i j:Nat,j < i→0≤((tab nm l i).getD j (0,0)).1∧((tab nm l i).getD j (0,0)).1≤j+1∧0≤((tab nm l i).getD j (0,0)).2∧((tab nm l i).getD j (0,0)).2≤j+1
 | 0,j,h=>by omega
 | i+1,j,h=>by
  have hl:=A1o nm l i
  rw [tab]
  by_cases hj:j < i
  ·rw [C8y (by omega)]
   exact A82 nm l i j hj
  ·rw [show j=(tab nm l i).length by omega,B8x,hl]
   exact C0v (A82 nm l i)
def col (f:Int × Int→Int) (r:List (Int × Int)) (n:Nat):List AV:=r.map (fun p=>.int .i64 (f p))++List.replicate (n - r.length) (.int .i64 0)
theorem C6k {f:Int × Int→Int} {r:List (Int × Int)} {n:Nat} (h:r.length≤n):(col f r n).length=n:=by simp [col];omega
theorem A6g {f:Int × Int→Int} (hf:f (0,0)=0) {r:List (Int × Int)} {n j m:Nat} (h:j < n) (hr:r.length≤n) (hm:m=j):(col f r n).drop m=.int .i64 (f (r.getD j (0,0)))::(col f r n).drop (j+1):=by
 subst hm
 rw [List.drop_eq_getElem_cons (by rw [C6k hr];exact h)]
 refine C1 ?_ rfl
 simp only [col]
 by_cases hj:m < r.length
 ·rw [List.getElem_append_left (by simpa using hj)]
  simp [List.getD,hj]
 ·rw [List.getElem_append_right (by simp;omega)]
  simp [List.getD,List.getElem?_eq_none (Nat.le_of_not_lt hj),hf]
theorem D5a {f:Int × Int→Int} {r:List (Int × Int)} {n i m k:Nat} {p:Int × Int} {v:Int} (h:r.length=i) (hi:i < n) (hm:m=i) (hk:k=i+1) (hv:v=f p) :
  (col f r n).take m++[.int .i64 v]++(col f r n).drop k=col f (r++[p]) n:=by
 subst hm hk hv h
 unfold col
 rw [List.take_append_of_le_length (by simp),List.take_of_length_le (by simp),List.drop_append,List.drop_of_length_le (by simp)]
 simp only [List.length_map,List.map_append,List.map_cons,List.map_nil,List.nil_append,List.length_append,List.length_cons,List.length_nil,List.drop_replicate]
 rw [show n - r.length - (r.length+1 - r.length)=n - (r.length+(0+1)) by omega]
theorem C1y {f:Int × Int→Int} {r:List (Int × Int)} {n:Nat} {p:Int × Int} (h:r.length < n) (hp:f p=0):col f r n=col f (r++[p]) n:=by
 unfold col
 simp only [List.map_append,List.map_cons,List.map_nil,List.length_append,List.length_cons,List.length_nil,hp,List.append_assoc,List.singleton_append]
 rw [show n - r.length=(n - (r.length+(0+1)))+1 by omega,List.replicate_succ]
theorem A37 {P:Program} {T:TypeId} {cs cs':List AV} {K:AV→Prop} (h:cs=cs') (hk:A36 P T cs' K):A36 P T cs K:=h ▸ hk
theorem C8t (n:Nat) (z:AV):(List.replicate n [z]).flatten=List.replicate n z:=by
 induction n with
 | zero=>rfl
 | succ n ih=>rw [List.replicate_succ,List.flatten_cons,ih,List.replicate_succ];rfl
structure Szc (s s':Sto) (b1 b2:Nat) (c1 c2:List AV):Prop where
 ne:b1≠b2
 size:s'.bx b1=some (3,c1)
 depth:s'.bx b2=some (3,c2)
 sub:Sub s s'
 none1:s.bx b1=none
 none2:s.bx b2=none
theorem A0t {cs cs':List AV} {K:List AV→Prop} (h:cs=cs') (hk:K cs'):A5p cs K:=by rw [E8,h];exact hk
theorem C3v (nm:List UInt8→Bool) (t:Nat) (l:List Ex) (hl:l.length≤1000000) (hn:∀ x ∈ l,B7 Tryz.prog Γ 120 [.str x.2.2.2.1] fun v=>v=.bool (nm x.2.2.2.1)) (s:Sto) :
  A6 Tryz.prog Γ 116 [.slice t (l.map exA)] s fun v s'=>∃ b1 b2,v=.tuple [.raw (some ⟨b1,0,none⟩) l.length l.length,.raw (some ⟨b2,0,none⟩) l.length l.length]∧Szc s s' b1 b2 (col Prod.fst (tab nm l l.length) l.length) (col Prod.snd (tab nm l l.length) l.length):=by
 have hml:(l.map exA).length=l.length:=List.length_map ..
 have hroom:((8:Nat):Int) * ((l.map exA).length:Int)≤281474976710656:=by omega
 refine acs Tryz.func116 ?_
 refine wr ?_;(refine ⟨hroom,?_⟩);refine wr ?_
 intro b1 hb1
 refine wr ?_;(refine ⟨hroom,?_⟩);refine wr ?_
 intro b2 hb2
 refine wr ?_
 refine AWp.loopA [15] [16,17,18,19,5,4,20,21,22,23,24,25,26,27,28,29,30,31,32,33,34,35,36,37,38,39,40,41,42,43,44,45,46,47,48,49,50,51,52,53,54,55,56,57,58,59,60,61,62,63,64,65,66,67,68,69,70,71,72,73,74,75,76,77,78,79,80,81,82,83,84,85,86,87,88,89,90,91,92,93,94,95,96,97,6,98,99,100,101,102,103,104,105,106,107,108,109,110,111,112,113,114,115,116,117,118,119,120,121,122,123,124,125,126,127,128,129,130,131,132,133,134,135,136,137,138,139,140,141,142,143,144,145,146,147,148] (fun i:Nat=>[.int .i64 i]) (fun i s'=>i≤l.length∧Szc s s' b1 b2 (col Prod.fst (tab nm l i) l.length) (col Prod.snd (tab nm l i) l.length)) (fun i=>l.length - i) (0) (by kernel_rfl) (eqa) ?_ ?_
 ·refine ⟨by omega,?_⟩
  obtain ⟨h1,h2⟩:=D7 hb2
  have hz:∀ f:Int × Int→Int,(List.replicate ((l.map exA).length:Int).toNat [AV.int .i64 0]).flatten=col f (tab nm l 0) l.length:=fun f=>by
   rw [C8t,Int.toNat_natCast,hml];rfl
  exact ⟨fun h=>h1 h.symm,((A9 (fun h=>h1 h.symm)).trans A7).trans (by rw [hz]),A7.trans (by rw [hz]),((Sub.refl _).set hb1 _ _).set h2 _ _,hb1,h2⟩
 ·rintro q i s1 ⟨hi,hz⟩
  conv=>whnf
  have hga:=fun h:i < l.length=>C4 (f:=exA) (l:=l) G2 h
  have htab:tab nm l (i+1)=tab nm l i++[A03 nm (l.getD i G2) i (tab nm l i)]:=rfl
  have htl:=A1o nm l i
  have hbd:=A82 nm l i
  have hnx:=fun h:i < l.length=>hn (l.getD i G2) (D9 G2 h)
  by_cases hlt:i < l.length
  ·have hga:=hga hlt
   have hnx:=hnx hlt
   generalize l.getD i G2=x at *
   generalize tab nm l i=r at *
   repeat' ((first|exact pru|(refine brS (fun h=>?_) (fun h=>?_)<;>(try rw [h])<;>(try simp only [bS,↓reduceIte] at h))|(rw [show (l.map exA).getD ((i:Int)).toNat []=_ from hga])|refine gS ?_|refine aA ?_|refine nA ?_|fail)<;>(conv=>whnf))
   intro c hc
   conv=>whnf
   refine B6 A7 ?_
   have n1:=A8 hz.size hc
   have n2:=A8 hz.depth hc
   have h5:=hz.sub.none hc
   have g1:=fun (T:TypeId) (x y:List AV)=>(A9 (s:=s1.set c T x) (T:=T) (cs:=y) n1).trans ((A9 n1).trans hz.size)
   have g2:=fun (T:TypeId) (x y:List AV)=>(A9 (s:=s1.set c T x) (T:=T) (cs:=y) n2).trans ((A9 n2).trans hz.depth)
   have st:=fun (f:Int × Int→Int) (P:Int × Int) (v:Int) (m k:Nat) (hv:v=f P) (hm:m=i) (hk:k=i+1)=>D5a (f:=f) (r:=r) (n:=l.length) (p:=P) (v:=v) htl hlt hm hk hv
   have ln:=fun f:Int × Int→Int=>C6k (f:=f) (r:=r) (n:=l.length) (by omega)
   have zero:A03 nm x i r=(0,0)→∀ (T:TypeId) (y z:List AV),Szc s ((s1.set c T y).set c T z) b1 b2 (col Prod.fst (tab nm l (i+1)) l.length) (col Prod.snd (tab nm l (i+1)) l.length):=fun h0 T y z=>by
    rw [htab,h0]
    exact ⟨hz.ne,(g1 _ _ _).trans (by rw [C1y (p:=(0,0)) (by omega) rfl]),(g2 _ _ _).trans (by rw [C1y (p:=(0,0)) (by omega) rfl]),(hz.sub.set h5 _ _).set h5 _ _,hz.none1,hz.none2⟩
   have put:∀ P,A03 nm x i r=P→∀ (T T':TypeId) (y z:List AV),T'=3→Szc s ((((s1.set c T y).set c T z).set b1 T' (col Prod.fst (r++[P]) l.length)).set b2 T' (col Prod.snd (r++[P]) l.length)) b1 b2 (col Prod.fst (tab nm l (i+1)) l.length) (col Prod.snd (tab nm l (i+1)) l.length):=fun P h0 T T' y z hT=>by
    subst hT
    rw [htab,h0]
    exact ⟨hz.ne,(A9 hz.ne).trans A7,A7,(((hz.sub.set h5 _ _).set h5 _ _).set hz.none1 _ _).set hz.none2 _ _,hz.none1,hz.none2⟩
   by_cases hlo:A4x nm x=true
   ·have hl1:B7 Tryz.prog Γ 195 [.agg (exA x)] fun v=>v=.bool true:=hlo ▸ C65 nm x hnx
    refine wr ?_
    refine B6 (g1 _ _ _) ?_
    refine ⟨rfl,rfl,by show 0+((i:Nat):Int).toNat * 1+1≤_;rw [ln];omega,A0t (st Prod.fst (1,1) _ _ _ rfl (by show 0+((i:Nat):Int).toNat * 1=i;omega) (by show 0+((i:Nat):Int).toNat * 1+1=i+1;omega)) ?_⟩
    refine wr ?_
    refine B6 ((A9 (fun h=>hz.ne h.symm)).trans (g2 _ _ _)) ?_
    refine ⟨rfl,rfl,by show 0+((i:Nat):Int).toNat * 1+1≤_;rw [ln];omega,A0t (st Prod.snd (1,1) _ _ _ rfl (by show 0+((i:Nat):Int).toNat * 1=i;omega) (by show 0+((i:Nat):Int).toNat * 1+1=i+1;omega)) ?_⟩
    refine wr ?_
    exact ⟨i+1,eqa,C5,⟨by omega,put (1,1) (by unfold A03;rw [if_pos hlo]) _ _ _ _ rfl⟩,by omega⟩
   have hlo':A4x nm x=false:=by simpa using hlo
   have hl0:B7 Tryz.prog Γ 195 [.agg (exA x)] fun v=>v=.bool false:=hlo' ▸ C65 nm x hnx
   have hev:=B8s x.2.2.2.2.1 R5
   simp only [R5] at hev
   by_cases hi0:i=0
   ·repeat' ((first|exact pru|(refine brS (fun h=>?_) (fun h=>?_)<;>(try rw [h])<;>(try simp only [bS,↓reduceIte] at h))|(refine B6 A7 ?_)|(refine A6.pure' ?_ (hl0);rintro _ rfl)|refine C0.pure ?_ (hl0)|(refine P4.of B0s A6s ?_)|refine gS ?_|refine aA ?_|refine nA ?_|fail)<;>(conv=>whnf))
    all_goals exact ⟨i+1,eqa,C5,⟨by omega,zero (by unfold A03;rw [if_neg hlo,if_pos (by simp [hi0])]) _ _ _⟩,by omega⟩
   obtain ⟨p,hp⟩:∃ p,r.getD (i - 1) (0,0)=p:=⟨_,rfl⟩
   have hpb:=hbd (i - 1) (by omega)
   rw [hp] at hpb
   obtain ⟨a,ha⟩:∃ a:Int,a=(i:Int) - 1 - p.1:=⟨_,rfl⟩
   obtain ⟨q,hq⟩:∃ q,r.getD a.toNat (0,0)=q:=⟨_,rfl⟩
   have hqb:=fun h:0≤a=>hbd a.toNat (by omega)
   rw [hq] at hqb
   have hnode:A03 nm x i r=if A4x nm x=true then (1,1) else if x.1 < 4∨16 < x.1∨x.2.2.2.1≠[]∨x.2.2.2.2.1≠R5∨i=0∨p.1=0 then (0,0) else if x.1≤5 then (if x.2.1=(i:Int) - 1∧x.2.2.1=0 then (p.1+1,p.2+1) else (0,0)) else if x.2.2.1=(i:Int) - 1∧x.2.1=a∧0≤a∧0 < q.1 then (q.1+p.1+1,max q.2 p.2+1) else (0,0):=by
    unfold A03;rw [hp,← ha,hq]
   have hw1:IntKind.i64.wrap ((i:Int) - 1)=((i - 1:Nat):Int):=C7 (by omega) (by omega) (by omega)
   have hwa:IntKind.i64.wrap (((i - 1:Nat):Int) - p.1)=a:=C7 (by omega) (by omega) (by omega)
   have ld1:∀ m,m=i - 1→(col Prod.fst r l.length).drop m=.int .i64 p.1::(col Prod.fst r l.length).drop (i - 1+1):=fun m hm=>hp ▸ A6g rfl (by omega) (by omega) hm
   have ld2:∀ m,m=i - 1→(col Prod.snd r l.length).drop m=.int .i64 p.2::(col Prod.snd r l.length).drop (i - 1+1):=fun m hm=>hp ▸ A6g rfl (by omega) (by omega) hm
   have la1:0≤a→∀ m,m=a.toNat→(col Prod.fst r l.length).drop m=.int .i64 q.1::(col Prod.fst r l.length).drop (a.toNat+1):=fun h m hm=>hq ▸ A6g rfl (by omega) (by omega) hm
   have la2:0≤a→∀ m,m=a.toNat→(col Prod.snd r l.length).drop m=.int .i64 q.2::(col Prod.snd r l.length).drop (a.toNat+1):=fun h m hm=>hq ▸ A6g rfl (by omega) (by omega) hm
   repeat' ((first|exact pru|(refine brS (fun h=>?_) (fun h=>?_)<;>(try rw [h])<;>(try simp only [bS,↓reduceIte] at h))|(refine B6 A7 ?_)|(refine A6.pure' ?_ (hl0);rintro _ rfl)|refine C0.pure ?_ (hl0)|(refine P4.of B0s A6s ?_)|(rw [hw1])|(refine B6 (g1 _ _ _) (A37 (ld1 _ (by show 0+((i - 1:Nat):Int).toNat * 1=i - 1;omega)) ?_))|(refine B6 (g2 _ _ _) (A37 (ld2 _ (by show 0+((i - 1:Nat):Int).toNat * 1=i - 1;omega)) ?_))|(rw [hwa])|(refine B6 (g1 _ _ _) (A37 (la1 (by omega) _ (by show 0+a.toNat * 1=a.toNat;omega)) ?_))|(refine B6 (g2 _ _ _) (A37 (la2 (by omega) _ (by show 0+a.toNat * 1=a.toNat;omega)) ?_))|refine gS ?_|refine aA ?_|refine nA ?_|fail)<;>(conv=>whnf))
   all_goals try exact ⟨i+1,eqa,C5,⟨by omega,zero (by rw [hnode];clear hn hz hc g1 g2 st ln zero put ld1 ld2 la1 la2;grind [R5]) _ _ _⟩,by omega⟩
   ·refine B6 (g1 _ _ _) ?_
    refine ⟨rfl,rfl,by show 0+((i:Nat):Int).toNat * 1+1≤_;rw [ln];omega,A0t (st Prod.fst (p.1+1,p.2+1) _ _ _ (C7 rfl (by simp only [];omega) (by simp only [];omega)) (by show 0+((i:Nat):Int).toNat * 1=i;omega) (by show 0+((i:Nat):Int).toNat * 1+1=i+1;omega)) ?_⟩
    refine wr ?_
    refine B6 ((A9 (fun h=>hz.ne h.symm)).trans (g2 _ _ _)) ?_
    refine ⟨rfl,rfl,by show 0+((i:Nat):Int).toNat * 1+1≤_;rw [ln];omega,A0t (st Prod.snd (p.1+1,p.2+1) _ _ _ (C7 rfl (by simp only [];omega) (by simp only [];omega)) (by show 0+((i:Nat):Int).toNat * 1=i;omega) (by show 0+((i:Nat):Int).toNat * 1+1=i+1;omega)) ?_⟩
    refine wr ?_
    exact ⟨i+1,eqa,C5,⟨by omega,put (p.1+1,p.2+1) (by rw [hnode];clear hn hz hc g1 g2 st ln zero put ld1 ld2 la1 la2;grind [R5]) _ _ _ _ rfl⟩,by omega⟩
   ·refine B6 (g1 _ _ _) ?_
    refine ⟨rfl,rfl,by show 0+((i:Nat):Int).toNat * 1+1≤_;rw [ln];omega,A0t (st Prod.fst (q.1+p.1+1,max q.2 p.2+1) _ _ _ (by rw [C7 (b:=q.1+p.1) rfl (by omega) (by omega)];exact C7 rfl (by simp only [];omega) (by simp only [];omega)) (by show 0+((i:Nat):Int).toNat * 1=i;omega) (by show 0+((i:Nat):Int).toNat * 1+1=i+1;omega)) ?_⟩
    refine wr ?_
    refine B6 ((A9 (fun h=>hz.ne h.symm)).trans (g2 _ _ _)) ?_
    refine ⟨rfl,rfl,by show 0+((i:Nat):Int).toNat * 1+1≤_;rw [ln];omega,A0t (st Prod.snd (q.1+p.1+1,max q.2 p.2+1) _ _ _ (C7 (by show (if p.2 > q.2 then p.2 else q.2)+1=max q.2 p.2+1;split<;>omega) (by simp only [];omega) (by simp only [];omega)) (by show 0+((i:Nat):Int).toNat * 1=i;omega) (by show 0+((i:Nat):Int).toNat * 1+1=i+1;omega)) ?_⟩
    refine wr ?_
    exact ⟨i+1,eqa,C5,⟨by omega,put (q.1+p.1+1,max q.2 p.2+1) (by rw [hnode];clear hn hz hc g1 g2 st ln zero put ld1 ld2 la1 la2;grind [R5]) _ _ _ _ rfl⟩,by omega⟩
  ·have h0:i=l.length:=by omega
   subst h0
   refine wp ?_
   have e:((l.map exA).length:Int).toNat=l.length:=by rw [Int.toNat_natCast,hml]
   exact ⟨s1,Sub.refl _,b1,b2,by rw [e];rfl,hz⟩
theorem Z0 (v:Vl):B7 Tryz.prog Γ 40 [.agg (vlA v)] fun x=>x=.bool (W0 v):=by
 obtain ⟨k,n,s,t⟩:=v
 refine aps Tryz.func40 ?_
 intro s
 conv=>whnf
 intro b hb
 conv=>whnf
 repeat' ((first|(refine brS (fun h=>?_) (fun h=>?_)<;>(try rw [h])<;>(try simp only [bS,↓reduceIte] at h))|refine gS ?_|refine aA ?_|refine nA ?_|fail)<;>(conv=>whnf))
 all_goals refine ⟨(Sub.refl _).set hb _ _,C3 ?_⟩
 all_goals (try simp only [] at *)
 all_goals grind [W0]
theorem D12 {α:Type} {r q:List α} {d:α} {j:Nat} (h:j < r.length):(r++q).getD j d=r.getD j d:=by
 simp [List.getD,List.getElem?_append_left h]
theorem B36 (nm:List UInt8→Bool) (l:List Ex) {j m:Nat}:∀ n:Nat,j < m→m≤n→(tab nm l n).getD j (0,0)=(tab nm l m).getD j (0,0)
 | 0=>fun h k=>by omega
 | n+1=>fun h k=>by
  by_cases he:m=n+1
  ·rw [he]
  ·rw [tab,D12 (by rw [A1o];omega)]
   exact B36 nm l n h (by omega)
def nd (nm:List UInt8→Bool) (l:List Ex) (i:Nat):Int × Int:=(tab nm l l.length).getD i (0,0)
theorem A1k (nm:List UInt8→Bool) (l:List Ex) {i:Nat} (h:i < l.length):0≤(nd nm l i).1∧(nd nm l i).1≤i+1∧0≤(nd nm l i).2∧(nd nm l i).2≤i+1:=A82 nm l l.length i h
theorem C7a {nm:List UInt8→Bool} {l:List Ex} {i:Nat} {x:Ex} {p q:Int × Int} {a:Int} (hi:i < l.length) (hx:l.getD i G2=x) (hp:nd nm l (i - 1)=p) (ha:a=(i:Int) - 1 - p.1) (hq:nd nm l a.toNat=q) :
  nd nm l i=if A4x nm x=true then (1,1) else if x.1 < 4∨16 < x.1∨x.2.2.2.1≠[]∨x.2.2.2.2.1≠R5∨i=0∨p.1=0 then (0,0) else if x.1≤5 then (if x.2.1=(i:Int) - 1∧x.2.2.1=0 then (p.1+1,p.2+1) else (0,0)) else if x.2.2.1=(i:Int) - 1∧x.2.1=a∧0≤a∧0 < q.1 then (q.1+p.1+1,max q.2 p.2+1) else (0,0):=by
 have h1:nd nm l i=A03 nm x i (tab nm l i):=by
  unfold nd
  rw [B36 nm l (m:=i+1) l.length (by omega) (by omega),tab]
  have:i=(tab nm l i).length:=(A1o nm l i).symm
  rw [← hx]
  conv=>lhs;arg 2;rw [this]
  rw [B8x]
 rw [h1]
 unfold A03
 by_cases h0:i=0
 ·subst h0
  by_cases hlo:A4x nm x=true
  ·rw [if_pos hlo,if_pos hlo]
  ·rw [if_neg hlo,if_neg hlo,if_pos (by simp),if_pos (by simp)]
 have hp':(tab nm l i).getD (i - 1) (0,0)=p:=by rw [← hp];exact (B36 nm l l.length (by omega) (by omega)).symm
 rw [hp',← ha]
 have hb:=A1k nm l (i:=i - 1) (by omega)
 rw [hp] at hb
 have hq':(tab nm l i).getD a.toNat (0,0)=q:=by rw [← hq];exact (B36 nm l l.length (by omega) (by omega)).symm
 rw [hq']
theorem B3h (t:Nat) (l:List Ex) {i:Int} (h:i < 0∨(l.length:Int)≤i):B7 Tryz.prog Γ 148 [.slice t (l.map exA),.int .i64 i] fun v=>v=.int .i64 0:=by
 have hml:(l.map exA).length=l.length:=List.length_map ..
 refine aps Tryz.func148 ?_
 intro s
 refine wp ?_
 all_goals rfl
def szI (nm:List UInt8→Bool) (l:List Ex) (i:Int):Int:=if 0≤i∧i < l.length then (nd nm l i.toNat).1 else 0
theorem B6m (t:Nat) (l:List Ex) (hl:l.length≤1000000):∀ (k i:Nat),i < k→i < l.length→∀ Γ:Nat→AV,B7 Tryz.prog Γ 148 [.slice t (l.map exA),.int .i64 i] fun v=>v=.int .i64 (nd Sc.D4 l i).1
 | 0,i=>fun h=>by omega
 | k+1,i=>fun h hi Γ=>by
  have hml:(l.map exA).length=l.length:=List.length_map ..
  have ih:∀ j:Int,j < i→B7 Tryz.prog Γ 148 [.slice t (l.map exA),.int .i64 j] fun v=>v=.int .i64 (szI Sc.D4 l j):=fun j hj=>by
   by_cases h0:0≤j
   ·have:=B6m t l hl k j.toNat (by omega) (by omega) Γ
    rw [show ((j.toNat:Nat):Int)=j by omega] at this
    unfold szI
    rw [if_pos ⟨h0,by omega⟩]
    exact this
   ·unfold szI
    rw [if_neg (fun h=>h0 h.1)]
    exact B3h t l (.inl (by omega))
  have hga:=C4 (f:=exA) (l:=l) G2 hi
  obtain ⟨x,hx⟩:∃ x,l.getD i G2=x:=⟨_,rfl⟩
  rw [hx] at hga
  obtain ⟨p,hp⟩:∃ p,nd Sc.D4 l (i - 1)=p:=⟨_,rfl⟩
  obtain ⟨a,ha⟩:∃ a:Int,a=(i:Int) - 1 - p.1:=⟨_,rfl⟩
  obtain ⟨q,hq⟩:∃ q,nd Sc.D4 l a.toNat=q:=⟨_,rfl⟩
  have hnode:=C7a (nm:=Sc.D4) hi hx hp ha hq
  have hpb:=A1k Sc.D4 l (i:=i - 1) (by omega)
  rw [hp] at hpb
  have hqb:=fun h:0≤a=>A1k Sc.D4 l (i:=a.toNat) (by omega)
  rw [hq] at hqb
  obtain ⟨P,hP⟩:∃ P,szI Sc.D4 l ((i:Int) - 1)=P:=⟨_,rfl⟩
  have hP':(i=0∧P=0)∨(i≠0∧P=p.1):=by
   rw [← hP];unfold szI
   by_cases h0:i=0
   ·exact .inl ⟨h0,if_neg (by omega)⟩
   ·refine .inr ⟨h0,?_⟩
    rw [if_pos ⟨by omega,by omega⟩,show ((i:Int) - 1).toNat=i - 1 by omega,hp]
  have hPb:0≤P∧P≤i:=by omega
  obtain ⟨Q,hQ⟩:∃ Q,szI Sc.D4 l ((i:Int) - 1 - P)=Q:=⟨_,rfl⟩
  have hQ':i≠0→(a < 0∧Q=0)∨(0≤a∧Q=q.1):=fun h0=>by
   rcases hP' with hh|⟨_,hh⟩
   ·exact absurd hh.1 h0
   rw [← hQ,hh,← ha];unfold szI
   by_cases h1:0≤a
   ·exact .inr ⟨h1,by rw [if_pos ⟨h1,by omega⟩,hq]⟩
   ·exact .inl ⟨by omega,if_neg (by omega)⟩
  have hw1:IntKind.i64.wrap ((i:Int) - 1)=(i:Int) - 1:=C7 rfl (by omega) (by omega)
  have hw2:IntKind.i64.wrap (IntKind.i64.wrap ((i:Int) - 1) - P)=(i:Int) - 1 - P:=by rw [hw1];exact C7 rfl (by omega) (by omega)
  have hQb:0≤Q∧Q≤i+1:=by
   rw [← hQ];unfold szI
   split
   ·rename_i h0
    have:=A1k Sc.D4 l (i:=((i:Int) - 1 - P).toNat) (by omega)
    omega
   ·omega
  have hw3:IntKind.i64.wrap (P+1)=P+1:=C7 rfl (by omega) (by omega)
  have hw4:IntKind.i64.wrap (IntKind.i64.wrap (Q+P)+1)=Q+P+1:=by rw [C7 (b:=Q+P) rfl (by omega) (by omega)];exact C7 rfl (by omega) (by omega)
  have s1:B7 Tryz.prog Γ 148 [.slice t (l.map exA),.int .i64 (IntKind.i64.wrap ((i:Int) - 1))] fun v=>v=.int .i64 P:=by rw [hw1,← hP];exact ih _ (by omega)
  have s2:B7 Tryz.prog Γ 148 [.slice t (l.map exA),.int .i64 (IntKind.i64.wrap (IntKind.i64.wrap ((i:Int) - 1) - P))] fun v=>v=.int .i64 Q:=by rw [hw2,← hQ];exact ih _ (by omega)
  have hev:=B8s x.2.2.2.2.1 R5
  simp only [R5] at hev
  refine aps Tryz.func148 ?_
  intro s
  conv=>whnf
  repeat' ((first|exact pru|(refine brS (fun h=>?_) (fun h=>?_)<;>(try rw [h])<;>(try simp only [bS,↓reduceIte] at h))|(rw [show (l.map exA).getD ((i:Int)).toNat []=_ from hga])|refine gS ?_|refine aA ?_|refine nA ?_|fail)<;>(conv=>whnf))
  ·exfalso
   rw [if_neg (by omega)] at h
   have:=of_decide_eq_true h
   omega
  intro b hb
  conv=>whnf
  refine B6 A7 ?_
  refine wr ?_
  intro b2 hb2
  conv=>whnf
  refine B6 A7 ?_
  have n2:=A8 A7 hb2
  have h2:=(D7 (D7 hb2).2).2
  repeat' ((first|exact pru|(refine brS (fun h=>?_) (fun h=>?_)<;>(try rw [h])<;>(try simp only [bS,↓reduceIte] at h))|(refine B6 A7 ?_)|(refine B6 ((A9 n2).trans ((A9 n2).trans A7)) ?_)|(refine A6.pure' ?_ (Z0 _);rintro _ rfl)|refine C0.pure ?_ (Z0 _)|(refine A6.pure' ?_ (Sc.F9 _);rintro _ rfl)|refine C0.pure ?_ (Sc.F9 _)|(refine P4.of B0s A6s ?_)|(refine A6.pure' ?_ (s1);rintro _ rfl)|refine C0.pure ?_ (s1)|(refine A6.pure' ?_ (s2);rintro _ rfl)|refine C0.pure ?_ (s2)|refine gS ?_|refine aA ?_|refine nA ?_|fail)<;>(conv=>whnf))
  all_goals refine ⟨((((Sub.refl _).set hb _ _).set hb _ _).set h2 _ _).set h2 _ _,C46 ?_⟩
  all_goals (rw [hnode];clear hga ih s1 s2 hnode hb hb2 n2 h2)
  all_goals (unfold A4x;grind [R5])
theorem B3e (t:Nat) (l:List Ex) (hl:l.length≤1000000):∀ (k i:Nat),i < k→i < l.length→0 < (nd Sc.D4 l i).1→∀ Γ:Nat→AV,B7 Tryz.prog Γ 149 [.slice t (l.map exA),.int .i64 i] fun v=>v=.int .i64 (nd Sc.D4 l i).2
 | 0,i=>fun h=>by omega
 | k+1,i=>fun h hi hpos Γ=>by
  have hml:(l.map exA).length=l.length:=List.length_map ..
  have ih:=fun (j:Nat) (hj:j < i) (hp:0 < (nd Sc.D4 l j).1)=>B3e t l hl k j (by omega) (by omega) hp Γ
  have hga:=C4 (f:=exA) (l:=l) G2 hi
  obtain ⟨x,hx⟩:∃ x,l.getD i G2=x:=⟨_,rfl⟩
  rw [hx] at hga
  obtain ⟨p,hp⟩:∃ p,nd Sc.D4 l (i - 1)=p:=⟨_,rfl⟩
  obtain ⟨a,ha⟩:∃ a:Int,a=(i:Int) - 1 - p.1:=⟨_,rfl⟩
  obtain ⟨q,hq⟩:∃ q,nd Sc.D4 l a.toNat=q:=⟨_,rfl⟩
  have hnode:=C7a (nm:=Sc.D4) hi hx hp ha hq
  have hpb:=A1k Sc.D4 l (i:=i - 1) (by omega)
  rw [hp] at hpb
  have hqb:=fun h:0≤a=>A1k Sc.D4 l (i:=a.toNat) (by omega)
  rw [hq] at hqb
  rw [hnode] at hpos ⊢
  have lo:A4x Sc.D4 x=true→x.1=1∨x.1=17:=fun h=>by
   unfold A4x at h
   grind
  by_cases h1:A4x Sc.D4 x=true
  ·have hx1:=lo h1
   rw [if_pos h1]
   refine aps Tryz.func149 ?_
   intro s
   conv=>whnf
   repeat' ((first|exact pru|(refine brS (fun h=>?_) (fun h=>?_)<;>(try rw [h])<;>(try simp only [bS,↓reduceIte] at h))|(rw [show (l.map exA).getD ((i:Int)).toNat []=_ from hga])|refine gS ?_|refine aA ?_|refine nA ?_|fail)<;>(conv=>whnf))
   intro b hb
   conv=>whnf
   refine B6 A7 ?_
   refine wp ?_
   all_goals exact ⟨((Sub.refl _).set hb _ _).set hb _ _,rfl⟩
  rw [if_neg h1] at hpos ⊢
  by_cases h2:x.1 < 4∨16 < x.1∨x.2.2.2.1≠[]∨x.2.2.2.2.1≠R5∨i=0∨p.1=0
  ·rw [if_pos h2] at hpos;exact absurd hpos (by decide)
  rw [if_neg h2] at hpos ⊢
  have hp1:0 < p.1:=by omega
  have sp:=ih (i - 1) (by omega) (by rw [hp];exact hp1)
  rw [hp] at sp
  by_cases h3:x.1≤5
  ·rw [if_pos h3] at hpos ⊢
   by_cases h4:x.2.1=(i:Int) - 1∧x.2.2.1=0
   ·rw [if_pos h4] at hpos ⊢
    have sA:B7 Tryz.prog Γ 149 [.slice t (l.map exA),.int .i64 x.2.1] fun v=>v=.int .i64 p.2:=by rw [h4.1,show (i:Int) - 1=((i - 1:Nat):Int) by omega];exact sp
    have hw:IntKind.i64.wrap (p.2+1)=p.2+1:=C7 rfl (by omega) (by omega)
    refine aps Tryz.func149 ?_
    intro s
    conv=>whnf
    repeat' ((first|exact pru|(refine brS (fun h=>?_) (fun h=>?_)<;>(try rw [h])<;>(try simp only [bS,↓reduceIte] at h))|(rw [show (l.map exA).getD ((i:Int)).toNat []=_ from hga])|refine gS ?_|refine aA ?_|refine nA ?_|fail)<;>(conv=>whnf))
    intro b hb
    conv=>whnf
    refine B6 A7 ?_
    refine wp ?_
    all_goals try (exfalso;rename_i h5;split at h5<;>first|omega|(have:=of_decide_eq_true h5;omega))
    all_goals exact ⟨((Sub.refl _).set hb _ _).set hb _ _,C46 hw⟩
   ·rw [if_neg h4] at hpos;exact absurd hpos (by decide)
  ·rw [if_neg h3] at hpos ⊢
   by_cases h4:x.2.2.1=(i:Int) - 1∧x.2.1=a∧0≤a∧0 < q.1
   ·rw [if_pos h4] at hpos ⊢
    have sq:=ih a.toNat (by omega) (by rw [hq];exact h4.2.2.2)
    rw [hq,show ((a.toNat:Nat):Int)=a by omega] at sq
    have sA:B7 Tryz.prog Γ 149 [.slice t (l.map exA),.int .i64 x.2.1] fun v=>v=.int .i64 q.2:=by rw [h4.2.1];exact sq
    have sB:B7 Tryz.prog Γ 149 [.slice t (l.map exA),.int .i64 x.2.2.1] fun v=>v=.int .i64 p.2:=by rw [h4.1,show (i:Int) - 1=((i - 1:Nat):Int) by omega];exact sp
    have hqb':=hqb h4.2.2.1
    have hw:IntKind.i64.wrap ((if p.2 > q.2 then p.2 else q.2)+1)=max q.2 p.2+1:=C7 (by split<;>omega) (by omega) (by omega)
    refine aps Tryz.func149 ?_
    intro s
    conv=>whnf
    repeat' ((first|exact pru|(refine brS (fun h=>?_) (fun h=>?_)<;>(try rw [h])<;>(try simp only [bS,↓reduceIte] at h))|(rw [show (l.map exA).getD ((i:Int)).toNat []=_ from hga])|refine gS ?_|refine aA ?_|refine nA ?_|fail)<;>(conv=>whnf))
    intro b hb
    conv=>whnf
    refine B6 A7 ?_
    refine wp ?_
    all_goals try (exfalso;rename_i h5;split at h5<;>first|omega|(have:=of_decide_eq_true h5;omega))
    all_goals exact ⟨((Sub.refl _).set hb _ _).set hb _ _,C46 hw⟩
   ·rw [if_neg h4] at hpos;exact absurd hpos (by decide)
end Go.Proofs.YticnkpgmmpenlaaGreatDoor.Tr
namespace Go.Proofs.YticnkpgmmpenlaaGreatDoor.Va
open Go Go.Ab Go.RowKit
abbrev Vl:=Int × Int × List UInt8 × Bool
def vlA (v:Vl):List AV:=[.int .i64 v.1,.int .i64 v.2.1,.str v.2.2.1,.bool v.2.2.2]
def R5:Vl:=(0,0,[],false)
def right (v:Vl):Bool :=
 if v.1=1 then decide (v.2.2.1=[]) && !v.2.2.2
 else if v.1=2 then decide (v.2.1=0) && !v.2.2.2 && decide (v.2.2.1.length≤4096)
 else decide (v.1=3) && decide (v.2.1=0) && decide (v.2.2.1=[])
def less (a b:Vl):Bool :=
 if a.1≠b.1 then decide (a.1 < b.1)
 else if a.1=1 then decide (a.2.1 < b.2.1)
 else if a.1=2 then Op.bytesLess a.2.2.1 b.2.2.1
 else !a.2.2.2 && b.2.2.2
theorem C3 {a b:Bool} (h:a=b):AV.bool a=.bool b:=by rw [h]
theorem C4 {α:Type} {f:α→List AV} {l:List α} (d:α) {i:Nat} (h:i < l.length):(l.map f).getD i []=f (l.getD i d):=by
 simp [List.getD,h]
theorem D9 {α:Type} {l:List α} (d:α) {i:Nat} (h:i < l.length):l.getD i d ∈ l:=by
 simp [List.getD,h]
theorem B8s (x y:Vl):(decide (x.1=y.1) && (decide (x.2.1=y.2.1) && (decide (x.2.2.1=y.2.2.1) && ((x.2.2.2 == y.2.2.2) && true))))=decide (x=y):=by
 rw [Bool.eq_iff_iff];simp [Prod.ext_iff]
end Go.Proofs.YticnkpgmmpenlaaGreatDoor.Va
namespace Go.Proofs.YticnkpgmmpenlaaGreatDoor.Va
open Go Go.Ab Go.RowKit
variable {Γ:Nat→AV}
attribute [local irreducible] B7 Sto.set Sto.grow
theorem B0s:(!Tryz.prog.eqGuardType Tryz.prog.depth 56)=true:=by kernel_rfl
theorem A6s:A2w Tryz.prog 9999 56=some [(0,0),(1,0),(2,1),(3,2)]:=by kernel_rfl
theorem D2b (n:Int):B7 Tryz.prog Γ 129 [.int .i64 n] fun v=>v=.agg (vlA (1,n,[],false)):=by
 refine aps Tryz.func129 ?_
 intro s
 conv=>whnf
 intro b hb
 refine wr ?_
 exact ⟨((Sub.refl _).set hb _ _).set hb _ _,rfl⟩
theorem D4c (s:List UInt8):B7 Tryz.prog Γ 130 [.str s] fun v=>v=.agg (vlA (2,0,s,false)):=by
 refine aps Tryz.func130 ?_
 intro s
 conv=>whnf
 intro b hb
 refine wr ?_
 exact ⟨((Sub.refl _).set hb _ _).set hb _ _,rfl⟩
theorem C6i (t:Bool):B7 Tryz.prog Γ 131 [.bool t] fun v=>v=.agg (vlA (3,0,[],t)):=by
 refine aps Tryz.func131 ?_
 intro s
 conv=>whnf
 intro b hb
 refine wr ?_
 exact ⟨((Sub.refl _).set hb _ _).set hb _ _,rfl⟩
theorem C3m (v:Vl):B7 Tryz.prog Γ 83 [.agg (vlA v)] fun x=>x=.bool (right v):=by
 obtain ⟨k,n,s,t⟩:=v
 refine aps Tryz.func83 ?_
 intro s
 conv=>whnf
 intro b hb
 conv=>whnf
 repeat' (first
  | (refine ⟨Sub.refl _,?_⟩)
  | (refine E7 (fun h=>?_) (fun h=>?_)<;>(try rw [h])<;>(try simp only [Bool.false_eq_true,Bool.true_eq_false,↓reduceIte,decide_eq_true_eq,decide_eq_false_iff_not,Bool.not_eq_true',Bool.not_eq_false'] at h)<;>(conv=>whnf))
  | (refine A6.pure' ?_ (D2b _);rintro _ rfl;conv=>whnf)
  | (refine C0.pure ?_ (D2b _);conv=>whnf)
  | (refine A6.pure' ?_ (D4c _);rintro _ rfl;conv=>whnf)
  | (refine C0.pure ?_ (D4c _);conv=>whnf)
  | (refine A6.pure' ?_ (C6i _);rintro _ rfl;conv=>whnf)
  | (refine C0.pure ?_ (C6i _);conv=>whnf)
  | (refine P4.of B0s A6s ?_;conv=>whnf)
  | (refine E1 ?_;conv=>whnf)
  | (refine AWp.any (by kernel_rfl) (by kernel_rfl) (by kernel_rfl) ?_;conv=>whnf)
  | (apply And.intro;(focus (first|omega|rfl|decide|exact Nat.le_of_ble_eq_true rfl|((repeat' (first|exact all_nil|refine all_cons ?_ ?_|rfl|fail));done)|(simp [-List.length_flatMap];done)|(simp [-List.length_flatMap];omega)|fail));conv=>whnf)
  | fail)
 all_goals refine ⟨(Sub.refl _).set hb _ _,C3 ?_⟩
 all_goals (try simp only [] at *)
 all_goals grind [right]
theorem Z0 (v:Vl):B7 Tryz.prog Γ 40 [.agg (vlA v)] fun x=>x=.bool (right v):=by
 obtain ⟨k,n,s,t⟩:=v
 refine aps Tryz.func40 ?_
 intro s
 conv=>whnf
 intro b hb
 conv=>whnf
 repeat' (first
  | (refine ⟨Sub.refl _,?_⟩)
  | (refine E7 (fun h=>?_) (fun h=>?_)<;>(try rw [h])<;>(try simp only [Bool.false_eq_true,Bool.true_eq_false,↓reduceIte,decide_eq_true_eq,decide_eq_false_iff_not,Bool.not_eq_true',Bool.not_eq_false'] at h)<;>(conv=>whnf))
  | (refine E1 ?_;conv=>whnf)
  | (refine AWp.any (by kernel_rfl) (by kernel_rfl) (by kernel_rfl) ?_;conv=>whnf)
  | (apply And.intro;(focus (first|omega|rfl|decide|exact Nat.le_of_ble_eq_true rfl|((repeat' (first|exact all_nil|refine all_cons ?_ ?_|rfl|fail));done)|(simp [-List.length_flatMap];done)|(simp [-List.length_flatMap];omega)|fail));conv=>whnf)
  | fail)
 all_goals refine ⟨(Sub.refl _).set hb _ _,C3 ?_⟩
 all_goals (try simp only [] at *)
 all_goals grind [right]
def D2s (k:Int):List UInt8:=if k=1 then [105,110,116] else if k=2 then [115,116,114,105,110,103] else if k=3 then [98,111,111,108] else []
theorem A1j (k:Int):B7 Tryz.prog Γ 28 [.int .i64 k] fun v=>v=.str (D2s k):=by
 refine aps Tryz.func28 ?_
 intro s
 conv=>whnf
 repeat' (first
  | (refine ⟨Sub.refl _,?_⟩)
  | (refine E7 (fun h=>?_) (fun h=>?_)<;>(try rw [h])<;>(try simp only [Bool.false_eq_true,Bool.true_eq_false,↓reduceIte,decide_eq_true_eq,decide_eq_false_iff_not,Bool.not_eq_true',Bool.not_eq_false'] at h)<;>(conv=>whnf))
  | (refine E1 ?_;conv=>whnf)
  | (refine AWp.any (by kernel_rfl) (by kernel_rfl) (by kernel_rfl) ?_;conv=>whnf)
  | (apply And.intro;(focus (first|omega|rfl|decide|exact Nat.le_of_ble_eq_true rfl|((repeat' (first|exact all_nil|refine all_cons ?_ ?_|rfl|fail));done)|(simp [-List.length_flatMap];done)|(simp [-List.length_flatMap];omega)|fail));conv=>whnf)
  | fail)
 all_goals refine congrArg AV.str ?_
 all_goals grind [D2s]
end Go.Proofs.YticnkpgmmpenlaaGreatDoor.Va
namespace Go.Proofs.YticnkpgmmpenlaaGreatDoor.Va
open Go Go.Ab Go.RowKit
variable {bulk:∀ H:Type,DataW H→Nat}
theorem A72:M8 Tryz.prog bulk 56 vlA (fun v _=>Nu.Q7 v.2.1) :=
 (J7 (bulk:=bulk) Tryz.underlying56 (by kernel_rfl)
  (D8.cons (bulk:=bulk) (k:=1) rfl (by kernel_rfl) (J1 (bulk:=bulk) Tryz.underlying3) (D8.cons (bulk:=bulk) (k:=1) rfl (by kernel_rfl) (J1 (bulk:=bulk) Tryz.underlying2) (D8.cons (bulk:=bulk) (k:=1) rfl (by kernel_rfl) (A3x (bulk:=bulk) Tryz.underlying9) (D8.cons (bulk:=bulk) (k:=1) rfl (by kernel_rfl) (A4f (bulk:=bulk) Tryz.underlying4) (D8.nil _)))))).map (fun x=>(x.1,x.2.1,x.2.2.1,x.2.2.2.1)) (fun _=>rfl) (fun _ _ h=>h.2.1.elim fun _ h=>Nu.D5u h)
end Go.Proofs.YticnkpgmmpenlaaGreatDoor.Va
namespace Go.Proofs.YticnkpgmmpenlaaGreatDoor.Va
open Go Go.Ab Go.RowKit
variable {Γ:Nat→AV}
attribute [local irreducible] B7 Sto.set Sto.grow
def tT:List UInt8:=[116,114,117,101]
def tF:List UInt8:=[102,97,108,115,101]
def A3a (v:Vl):List UInt8:=if right v=true then (if v.1=1 then Lib.itoa v.2.1 else if v.1=2 then Qu.A2x v.2.2.1 else if v.2.2.2=true then tT else tF) else []
theorem B2s (hT:Qu.A10 Γ) (hN:Nu.A7g Γ) (v:Vl) (hv:Nu.Q7 v.2.1) (hl:v.2.2.1.length≤1048576):B7 Tryz.prog Γ 31 [.agg (vlA v)] fun x=>x=.str (A3a v):=by
 refine aps Tryz.func31 ?_
 intro s
 conv=>whnf
 intro b hb
 conv=>whnf
 repeat' (first
  | (refine ⟨Sub.refl _,?_⟩)
  | (refine E7 (fun h=>?_) (fun h=>?_)<;>(try rw [h])<;>(try simp only [Bool.false_eq_true,Bool.true_eq_false,↓reduceIte,decide_eq_true_eq,decide_eq_false_iff_not,Bool.not_eq_true',Bool.not_eq_false'] at h)<;>(conv=>whnf))
  | (refine A6.pure' ?_ (C3m v);rintro _ rfl;conv=>whnf)
  | (refine C0.pure ?_ (C3m v);conv=>whnf)
  | (refine A6.pure' ?_ (Nu.A83 hN _ hv);rintro _ rfl;conv=>whnf)
  | (refine C0.pure ?_ (Nu.A83 hN _ hv);conv=>whnf)
  | (refine A6.pure' ?_ (Qu.B1a hT _ (by omega));rintro _ rfl;conv=>whnf)
  | (refine C0.pure ?_ (Qu.B1a hT _ (by omega));conv=>whnf)
  | (refine E1 ?_;conv=>whnf)
  | (refine AWp.any (by kernel_rfl) (by kernel_rfl) (by kernel_rfl) ?_;conv=>whnf)
  | (apply And.intro;(focus (first|omega|rfl|decide|exact Nat.le_of_ble_eq_true rfl|((repeat' (first|exact all_nil|refine all_cons ?_ ?_|rfl|fail));done)|(simp [-List.length_flatMap];done)|(simp [-List.length_flatMap];omega)|fail));conv=>whnf)
  | fail)
 all_goals refine ⟨(Sub.refl _).set hb _ _,congrArg AV.str ?_⟩
 all_goals simp [A3a, *]
 all_goals rfl
end Go.Proofs.YticnkpgmmpenlaaGreatDoor.Va
namespace Go.Proofs.YticnkpgmmpenlaaGreatDoor.Nu
open Go Go.Ab Go.RowKit
attribute [local irreducible] B7 Sto.set Sto.grow
theorem B0j:∀ i:Nat,i < 10→(A48.take (i+1)).drop i=[UInt8.ofNat (48+i)]:=by decide
theorem B95 {u:Nat} (h:u < 10):Lib.decDigits u=[UInt8.ofNat (48+u)]:=by rw [Lib.decDigits,dif_pos h]
theorem C10 {u:Nat} (h:¬ u < 10):Lib.decDigits u=Lib.decDigits (u / 10)++[UInt8.ofNat (48+u % 10)]:=by rw [Lib.decDigits,dif_neg h]
theorem A9z:∀ (k:Nat) (n:Int),n.natAbs < k→Q7 n→∀ Γ:Nat→AV,B7 Tryz.prog Γ 99 [.int .i64 n] fun v=>v=.str (Lib.itoa n)
 | 0,n=>fun h=>by omega
 | k+1,n=>fun h hn Γ=>by
  have ih:=fun (m:Int) (hm:m.natAbs < n.natAbs) (hf:Q7 m)=>A9z k m (by omega) hf
  unfold Q7 at hn
  by_cases hneg:n < 0
  ·have hu:n = -(n.natAbs:Int):=by omega
   generalize n.natAbs=u at *
   subst hu
   have h10:u % 10 < 10:=Nat.mod_lt _ (by omega)
   have eq1:(-(u:Int)).tdiv 10 = -((u / 10:Nat):Int):=by
    rw [Int.neg_tdiv,Int.tdiv_eq_ediv_of_nonneg (by omega)];omega
   have er1:(-(u:Int)).tmod 10 = -((u % 10:Nat):Int):=by
    rw [Int.neg_tmod,Int.tmod_eq_emod_of_nonneg (by omega)];omega
   have wq:IntKind.i64.wrap ((-(u:Int)).tdiv 10) = -((u / 10:Nat):Int):=C7 eq1 (by omega) (by omega)
   have wr:IntKind.i64.wrap (0 - (-(u:Int)).tmod 10)=((u % 10:Nat):Int):=by
    rw [er1];exact C7 (by omega) (by omega) (by omega)
   have wr1:IntKind.i64.wrap (((u % 10:Nat):Int)+1)=((u % 10:Nat):Int)+1:=C7 rfl (by omega) (by omega)
   by_cases hu:u < 10
   ·have wn:IntKind.i64.wrap (0 - -(u:Int))=(u:Int):=C7 (by omega) (by omega) (by omega)
    have wn1:IntKind.i64.wrap ((u:Int)+1)=(u:Int)+1:=C7 rfl (by omega) (by omega)
    refine aps Tryz.func99 ?_
    intro s
    refine wp ?_;(rw [wn]);refine wp ?_;(rw [wn1]);refine wp ?_
    ·refine congrArg AV.str ?_
     show [45]++(A48.take ((u:Int)+1).toNat).drop (u:Int).toNat=_
     rw [show ((u:Int)+1).toNat=u+1 by omega,show ((u:Int)).toNat=u by omega,B0j u hu,Lib.itoa_neg u (by omega),B95 hu]
     rfl
   ·have ih2:=ih (-((u / 10:Nat):Int)) (by omega) (by unfold Q7;omega)
    refine aps Tryz.func99 ?_
    intro s
    conv=>whnf
    repeat' (first
     | (exfalso;first|omega|exact (by assumption:¬ True) trivial|fail)
     | (refine ⟨Sub.refl _,?_⟩)
     | (refine E7 (fun h=>?_) (fun h=>?_)<;>(try rw [h])<;>(try simp only [Bool.false_eq_true,Bool.true_eq_false,↓reduceIte,decide_eq_true_eq,decide_eq_false_iff_not,Bool.not_eq_true',Bool.not_eq_false'] at h)<;>(conv=>whnf))
     | (rw [wq];conv=>whnf)
     | (rw [wr];conv=>whnf)
     | (rw [wr1];conv=>whnf)
     | (refine A6.pure' ?_ (ih2 _);rintro _ rfl;conv=>whnf)
     | (refine C0.pure ?_ (ih2 _);conv=>whnf)
     | (refine E1 ?_;conv=>whnf)
     | (refine AWp.any (by kernel_rfl) (by kernel_rfl) (by kernel_rfl) ?_;conv=>whnf)
     | (apply And.intro;(focus (first|omega|rfl|decide|exact Nat.le_of_ble_eq_true rfl|((repeat' (first|exact all_nil|refine all_cons ?_ ?_|rfl|fail));done)|(simp [-List.length_flatMap];done)|(simp [-List.length_flatMap];omega)|fail));conv=>whnf)
     | fail)
    refine ⟨?_,?_⟩
    ·show (Lib.itoa _).length+(List.drop _ (List.take _ A48)).length≤9223372036854775807
     have:=Lib.itoa_length_le (-((u / 10:Nat):Int)) (by omega) (by omega)
     have h2:(List.drop ((u % 10:Nat):Int).toNat (List.take (((u % 10:Nat):Int)+1).toNat A48)).length≤10:=by
      rw [List.length_drop,List.length_take];show _ - _≤10;have:A48.length=10:=rfl;omega
     omega
    conv=>whnf
    repeat' (first
     | (refine ⟨Sub.refl _,?_⟩)
     | (refine E7 (fun h=>?_) (fun h=>?_)<;>(try rw [h])<;>(try simp only [Bool.false_eq_true,Bool.true_eq_false,↓reduceIte,decide_eq_true_eq,decide_eq_false_iff_not,Bool.not_eq_true',Bool.not_eq_false'] at h)<;>(conv=>whnf))
     | (refine E1 ?_;conv=>whnf)
     | (refine AWp.any (by kernel_rfl) (by kernel_rfl) (by kernel_rfl) ?_;conv=>whnf)
     | (apply And.intro;(focus (first|omega|rfl|decide|exact Nat.le_of_ble_eq_true rfl|((repeat' (first|exact all_nil|refine all_cons ?_ ?_|rfl|fail));done)|(simp [-List.length_flatMap];done)|(simp [-List.length_flatMap];omega)|fail));conv=>whnf)
     | fail)
    refine congrArg AV.str ?_
    show Lib.itoa _++(A48.take (((u % 10:Nat):Int)+1).toNat).drop ((u % 10:Nat):Int).toNat=_
    rw [show (((u % 10:Nat):Int)+1).toNat=u % 10+1 by omega,show (((u % 10:Nat):Int)).toNat=u % 10 by omega,B0j _ h10,Lib.itoa_neg u (by omega),Lib.itoa_neg (u / 10) (by omega),C10 hu]
    rfl
  ·have hu:n=(n.natAbs:Int):=by omega
   generalize n.natAbs=u at *
   subst hu
   have h10:u % 10 < 10:=Nat.mod_lt _ (by omega)
   have wq:IntKind.i64.wrap ((u:Int).tdiv 10)=((u / 10:Nat):Int):=C7 (by rw [Int.tdiv_eq_ediv_of_nonneg (by omega)];omega) (by omega) (by omega)
   have wr:(u:Int).tmod 10=((u % 10:Nat):Int):=by rw [Int.tmod_eq_emod_of_nonneg (by omega)];omega
   have wr1:IntKind.i64.wrap (((u % 10:Nat):Int)+1)=((u % 10:Nat):Int)+1:=C7 rfl (by omega) (by omega)
   by_cases hu:u < 10
   ·have wn1:IntKind.i64.wrap ((u:Int)+1)=(u:Int)+1:=C7 rfl (by omega) (by omega)
    refine aps Tryz.func99 ?_
    intro s
    conv=>whnf
    repeat' (first
     | (exfalso;first|omega|exact (by assumption:¬ True) trivial|fail)
     | (refine ⟨Sub.refl _,?_⟩)
     | (refine E7 (fun h=>?_) (fun h=>?_)<;>(try rw [h])<;>(try simp only [Bool.false_eq_true,Bool.true_eq_false,↓reduceIte,decide_eq_true_eq,decide_eq_false_iff_not,Bool.not_eq_true',Bool.not_eq_false'] at h)<;>(conv=>whnf))
     | (rw [wn1];conv=>whnf)
     | (refine E1 ?_;conv=>whnf)
     | (refine AWp.any (by kernel_rfl) (by kernel_rfl) (by kernel_rfl) ?_;conv=>whnf)
     | (apply And.intro;(focus (first|omega|rfl|decide|exact Nat.le_of_ble_eq_true rfl|((repeat' (first|exact all_nil|refine all_cons ?_ ?_|rfl|fail));done)|(simp [-List.length_flatMap];done)|(simp [-List.length_flatMap];omega)|fail));conv=>whnf)
     | fail)
    ·refine congrArg AV.str ?_
     show (A48.take ((u:Int)+1).toNat).drop (u:Int).toNat=_
     rw [show ((u:Int)+1).toNat=u+1 by omega,show ((u:Int)).toNat=u by omega,B0j u hu,Lib.itoa_nonneg u,B95 hu]
    ·exfalso
     have h9:=‹(if _ then _ else false)=false›
     rw [if_pos (by omega)] at h9
     have:=of_decide_eq_false h9
     omega
   ·have ih2:=ih ((u / 10:Nat):Int) (by omega) (by unfold Q7;omega)
    refine aps Tryz.func99 ?_
    intro s
    conv=>whnf
    repeat' (first
     | (exfalso;first|omega|exact (by assumption:¬ True) trivial|fail)
     | (refine ⟨Sub.refl _,?_⟩)
     | (refine E7 (fun h=>?_) (fun h=>?_)<;>(try rw [h])<;>(try simp only [Bool.false_eq_true,Bool.true_eq_false,↓reduceIte,decide_eq_true_eq,decide_eq_false_iff_not,Bool.not_eq_true',Bool.not_eq_false'] at h)<;>(conv=>whnf))
     | (rw [wq];conv=>whnf)
     | (rw [wr];conv=>whnf)
     | (rw [wr1];conv=>whnf)
     | (refine A6.pure' ?_ (ih2 _);rintro _ rfl;conv=>whnf)
     | (refine C0.pure ?_ (ih2 _);conv=>whnf)
     | (refine E1 ?_;conv=>whnf)
     | (refine AWp.any (by kernel_rfl) (by kernel_rfl) (by kernel_rfl) ?_;conv=>whnf)
     | (apply And.intro;(focus (first|omega|rfl|decide|exact Nat.le_of_ble_eq_true rfl|((repeat' (first|exact all_nil|refine all_cons ?_ ?_|rfl|fail));done)|(simp [-List.length_flatMap];done)|(simp [-List.length_flatMap];omega)|fail));conv=>whnf)
     | fail)
    ·exfalso
     have h9:=‹(if _ then _ else false)=true›
     rw [if_pos (by omega)] at h9
     have:=of_decide_eq_true h9
     omega
    refine ⟨?_,?_⟩
    ·show (Lib.itoa _).length+(List.drop _ (List.take _ A48)).length≤9223372036854775807
     have:=Lib.itoa_length_le ((u / 10:Nat):Int) (by omega) (by omega)
     have h2:(List.drop ((u % 10:Nat):Int).toNat (List.take (((u % 10:Nat):Int)+1).toNat A48)).length≤10:=by
      rw [List.length_drop,List.length_take];show _ - _≤10;have:A48.length=10:=rfl;omega
     omega
    conv=>whnf
    repeat' (first
     | (refine ⟨Sub.refl _,?_⟩)
     | (refine E7 (fun h=>?_) (fun h=>?_)<;>(try rw [h])<;>(try simp only [Bool.false_eq_true,Bool.true_eq_false,↓reduceIte,decide_eq_true_eq,decide_eq_false_iff_not,Bool.not_eq_true',Bool.not_eq_false'] at h)<;>(conv=>whnf))
     | (refine E1 ?_;conv=>whnf)
     | (refine AWp.any (by kernel_rfl) (by kernel_rfl) (by kernel_rfl) ?_;conv=>whnf)
     | (apply And.intro;(focus (first|omega|rfl|decide|exact Nat.le_of_ble_eq_true rfl|((repeat' (first|exact all_nil|refine all_cons ?_ ?_|rfl|fail));done)|(simp [-List.length_flatMap];done)|(simp [-List.length_flatMap];omega)|fail));conv=>whnf)
     | fail)
    refine congrArg AV.str ?_
    show Lib.itoa _++(A48.take (((u % 10:Nat):Int)+1).toNat).drop ((u % 10:Nat):Int).toNat=_
    rw [show (((u % 10:Nat):Int)+1).toNat=u % 10+1 by omega,show (((u % 10:Nat):Int)).toNat=u % 10 by omega,B0j _ h10,Lib.itoa_nonneg u,Lib.itoa_nonneg (u / 10),C10 hu]
end Go.Proofs.YticnkpgmmpenlaaGreatDoor.Nu
namespace Go.Proofs.YticnkpgmmpenlaaGreatDoor.Va
open Go Go.Ab Go.RowKit
variable {Γ:Nat→AV}
attribute [local irreducible] B7 Sto.set Sto.grow
theorem A75 (v:Vl) (hv:Nu.Q7 v.2.1) (hl:v.2.2.1.length≤1048576) (hr:right v=true):B7 Tryz.prog Γ 44 [.agg (vlA v)] fun x=>x=.str (A3a v):=by
 have ht:A3a v=(if v.1=1 then Lib.itoa v.2.1 else if v.1=2 then Qu.A2x v.2.2.1 else if v.2.2.2=true then tT else tF):=by
  unfold A3a;rw [if_pos hr]
 refine aps Tryz.func44 ?_
 intro s
 conv=>whnf
 intro b hb
 conv=>whnf
 repeat' (first
  | (refine ⟨Sub.refl _,?_⟩)
  | (refine E7 (fun h=>?_) (fun h=>?_)<;>(try rw [h])<;>(try simp only [Bool.false_eq_true,Bool.true_eq_false,↓reduceIte,decide_eq_true_eq,decide_eq_false_iff_not,Bool.not_eq_true',Bool.not_eq_false'] at h)<;>(conv=>whnf))
  | (refine A6.pure' ?_ (Nu.A9z (v.2.1.natAbs+1) v.2.1 (by omega) hv _);rintro _ rfl;conv=>whnf)
  | (refine C0.pure ?_ (Nu.A9z (v.2.1.natAbs+1) v.2.1 (by omega) hv _);conv=>whnf)
  | (refine A6.pure' ?_ (Qu.B3g v.2.2.1 (by omega));rintro _ rfl;conv=>whnf)
  | (refine C0.pure ?_ (Qu.B3g v.2.2.1 (by omega));conv=>whnf)
  | (refine E1 ?_;conv=>whnf)
  | (refine AWp.any (by kernel_rfl) (by kernel_rfl) (by kernel_rfl) ?_;conv=>whnf)
  | (apply And.intro;(focus (first|omega|rfl|decide|exact Nat.le_of_ble_eq_true rfl|((repeat' (first|exact all_nil|refine all_cons ?_ ?_|rfl|fail));done)|(simp [-List.length_flatMap];done)|(simp [-List.length_flatMap];omega)|fail));conv=>whnf)
  | fail)
 all_goals refine ⟨(Sub.refl _).set hb _ _,congrArg AV.str ?_⟩
 all_goals rw [ht]
 all_goals simp [*]
 all_goals rfl
end Go.Proofs.YticnkpgmmpenlaaGreatDoor.Va
