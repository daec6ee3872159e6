/- Part 3 of what the closing text needs: PaD, PaE, PaF, PaG, PaH, PaI, PaJ. No condition of mine beyond those that the theorems name. -/
import Derived.Test.YticnkpgmmpenlaaGreatDoorAb26
set_option maxRecDepth 10000
set_option maxHeartbeats 60000000
set_option linter.all false
namespace Go.Proofs.YticnkpgmmpenlaaGreatDoor.Pa
open Go Go.Ab Go.RowKit Go.Proofs.YticnkpgmmpenlaaGreatDoor.Lx
variable {Γ:Nat→AV}
theorem _root_.Go.Ab.Own.beside {a b:Sto} {z:Bool} {t:Nat} {e:TypeId} {m:Nat} (h:Own a b z t e m) {u u':Nat} {e2:TypeId} {k2:Nat} (hne:t=u→t=1) (hu:u=1∨∀ e k,¬ a.lv u e k):Own a (b.grow u u' e2 k2) z t e m :=
 ⟨h.sub.grow hu u' e2 k2,h.own.imp id fun x=>⟨x.1,Or.inr ⟨x.2.1,Or.inl fun hx=>x.1 (hne hx)⟩,x.2.2⟩⟩
theorem _root_.Go.Ab.Own.free {a b:Sto} {z:Bool} {t:Nat} {e:TypeId} {m:Nat} (h:Own a b z t e m):t=1∨∀ e k,¬ a.lv t e k:=h.own.imp (·.1) (·.2.2)
theorem _root_.Go.Ab.Own.more {α:Type} {a b:Sto} {o l:List α} {β:Type} {r:List β} {t:Nat} {e:TypeId} {m:Nat} (h:Own a b (o.isEmpty && r.isEmpty) t e m) (h1:r≠[]) (h2:l≠[]):Own a b (o++l).isEmpty t e m:=by
 have e1:(o++l).isEmpty=false:=by cases o<;>cases l<;>first|rfl|exact absurd rfl h2
 have e2:(o.isEmpty && r.isEmpty)=false:=by cases o<;>cases r<;>first|rfl|exact absurd rfl h1
 rw [e1,← e2];exact h
theorem B49 {α:Type} {l:List α} {t1 t2 t3:Nat} {a b:Sto} {z:Bool} {e e2:TypeId} {m k:Nat} (w2:Own a b z t2 e2 m) (hw:t1=t2→t1=1) (h1:(t3=1∧t1=1∧l=[])∨(t3≠1∧(b.grow t1 t3 e k).lv t3 e k)) (h2:t3≠t1→∀ e' k',¬ b.lv t3 e' k'):t3=t2→t3=1:=by
 intro h
 rcases h1 with ⟨h,_⟩|⟨h0,_⟩
 ·exact h
 ·exfalso
  by_cases ht:t3=t1
  ·exact h0 (ht.trans (hw (ht.symm.trans h)))
  ·rcases w2.own with ⟨h3,_⟩|⟨_,h3,_⟩
   ·exact h0 (h.trans h3)
   ·exact h2 ht _ _ (h ▸ h3)
attribute [local irreducible] A5 Sto.set Sto.grow
section
variable {s0 s:Sto} {bp bl:Nat} {L:List Tok} {a:Nat} {o:List Ex} {d:List Int} {k:Int}
theorem Pst.nb (hP:Pst s0 s bp bl L a o d k) {b:Nat} (hb:s.bx b=none):b≠bp∧b≠bl:=by
 refine ⟨?_,?_⟩
 ·rintro rfl;obtain ⟨_,_,h,_⟩:=hP.pr;rw [hb] at h;cases h
 ·rintro rfl;rw [hP.pl] at hb;cases hb
theorem B7h (hE:Nu.Z8 Γ) (hP:Pst s0 s bp bl L a o d k) (hL:L.length≤100000) (ha:a≤90000) (hT:∀ i,(B0 L i).2.1.length≤5000) :
  A0 Tryz.prog Γ 230 [.ptr (some ⟨bp,0,none⟩)] s (C1q s0 bp bl L o d k (J6 L a)):=by
 have hpk:=A0j (Γ:=Γ) hP.pl (by omega) (by omega)
 have hw:IntKind.i64.wrap ((a:Int)+1)=((a+1:Nat):Int):=C3 (by omega) (by omega) (by omega)
 obtain ⟨t1,t2,hb0,_⟩:=hP.pr
 have htok:∃ p1 p2 p3 p4,B0 L a=(p1,p2,p3,p4):=⟨_,_,_,_,rfl⟩
 obtain ⟨p1,p2,p3,p4,hp⟩:=htok
 rw [hp] at hpk
 simp only [P3] at hpk
 refine acs Tryz.func230 ?_
 conv=>whnf
 intro b2 hb2
 conv=>whnf
 obtain ⟨m1,m2⟩:=hP.nb hb2
 have c2:s0.bx b2=none:=hP.sub.none hb2
 have hP2:=hP.box hb2 56 [.int .i64 0,.int .i64 0,.str [],.bool false]
 have hb2':(s.set b2 56 [.int .i64 0,.int .i64 0,.str [],.bool false]).bx b2=some (56,[.int .i64 0,.int .i64 0,.str [],.bool false]):=A1
 have hpk2:=A0j (Γ:=Γ) hP2.pl (by omega) (by omega)
 rw [hp] at hpk2
 simp only [P3] at hpk2
 obtain ⟨t1',t2',hb0',_⟩:=hP2.pr
 generalize s.set b2 56 [.int .i64 0,.int .i64 0,.str [],.bool false]=sa at *
 refine wp ?_;(refine A0.by hpk2 ?_;rintro _ s4 ⟨rfl,hs4⟩;subst s4);refine wp ?_
 intro b4 hb4
 obtain ⟨m3,m4⟩:=hP2.nb hb4
 have n_b2_b4:b2≠b4:=A3 hb2' hb4
 have n_b4_b2:b4≠b2:=fun h=>n_b2_b4 h.symm
 have hPb:=(hP2.box hb4 163 [.int .i64 0,.str [],.int .i64 0,.int .i64 0]).put (hP2.sub.none hb4) m3 m4 163 (P3 (p1,p2,p3,p4))
 have hb2b:((sa.set b4 163 [.int .i64 0,.str [],.int .i64 0,.int .i64 0]).set b4 163 (P3 (p1,p2,p3,p4))).bx b2=some (56,[.int .i64 0,.int .i64 0,.str [],.bool false]):=((A2 n_b2_b4).trans (A2 n_b2_b4)).trans hb2'
 have hb4b:((sa.set b4 163 [.int .i64 0,.str [],.int .i64 0,.int .i64 0]).set b4 163 (P3 (p1,p2,p3,p4))).bx b4=some (163,P3 (p1,p2,p3,p4)):=A1
 refine wp ?_
 simp only [P3] at hPb hb2b hb4b
 generalize (sa.set b4 163 _).set b4 163 _=sb at *
 have c4:s0.bx b4=none:=hP2.sub.none hb4
 have hnu:=B25 (Γ:=Γ) hPb (by omega) (by omega)
 obtain ⟨u1,u2,hbb,_⟩:=hPb.pr
 conv=>whnf
 cases hn:U2 L a
 ·rw [hn] at hnu
  unfold J6
  rw [if_neg (by rw [hn];decide)]
  by_cases h4:p1=4
  ·rw [if_pos (by rw [hp];exact h4)]
   repeat' ((first|exact pru|(refine brS (fun h=>?_) (fun h=>?_)<;>(try rw [h])<;>(try simp only [bS,↓reduceIte] at h))|(refine A0.by hnu ?_;rintro _ s5 ⟨rfl,hs5⟩;subst s5)|(refine A4 hb4b ?_)|(refine A4 hbb ?_)|(refine A4 hPb.pl ?_)|(rw [hw])|(refine A4 ((A2 m4).trans hb4b) ?_)|(refine A4 ((A2 m2).trans hb2b) ?_)|refine gS ?_|refine aA ?_|refine nA ?_|fail)<;>(conv=>whnf))
   refine ⟨_,Sub.refl _,?_⟩
   rw [hp]
   exact ⟨rfl,(hPb.next (a+1)).put c2 m1 m2 _ _⟩
  ·rw [if_neg (by rw [hp];exact h4)]
   refine wp ?_;(refine A0.by hnu ?_;rintro _ s5 ⟨rfl,hs5⟩;subst s5);refine wp ?_
   have ht1:=V9 (Γ:=Γ) (hPb.keep hb2b m1 m2) (by omega) (by omega) [116,114,117,101]
   cases h5:isF L a [116,114,117,101]
   ·rw [h5] at ht1
    rw [if_neg (by decide)]
    simp only [Bool.false_eq_true,if_false] at ht1
    refine A0.by ht1 ?_
    rintro _ s6 ⟨rfl,hP6⟩
    have ht2:=V9 (Γ:=Γ) hP6 (by omega) (by omega) [102,97,108,115,101]
    refine wp ?_
    cases h6:isF L a [102,97,108,115,101]
    ·rw [h6] at ht2
     rw [if_neg (by decide)]
     simp only [Bool.false_eq_true,if_false] at ht2
     refine A0.by ht2 ?_
     rintro _ s7 ⟨rfl,hP7⟩
     obtain ⟨hP8,hb8⟩:=hP7.drop c2
     refine wp ?_;(refine A0.by (A24 hP8 (by omega) (by omega) 16) ?_;rintro _ s9 ⟨rfl,hs9⟩;subst s9);refine wp ?_
     refine ⟨_,Sub.refl _,?_⟩
     exact ⟨_,_,rfl,Y7 L a 16,hP8.put c2 m1 m2 _ _⟩
    ·rw [h6] at ht2
     rw [if_pos rfl]
     simp only [if_true] at ht2
     refine A0.by ht2 ?_
     rintro _ s7 ⟨rfl,hP7⟩
     obtain ⟨hP8,hb8⟩:=hP7.drop c2
     refine wp ?_
     exact ⟨_,Sub.refl _,rfl,hP8.put c2 m1 m2 _ _⟩
   ·rw [h5] at ht1
    rw [if_pos rfl]
    simp only [if_true] at ht1
    refine A0.by ht1 ?_
    rintro _ s6 ⟨rfl,hP6⟩
    obtain ⟨hP8,hb8⟩:=hP6.drop c2
    refine wp ?_
    exact ⟨_,Sub.refl _,rfl,hP8.put c2 m1 m2 _ _⟩
 ·rw [hn] at hnu
  have hnb:=B18 hE (hPb.keep hb2b m1 m2) hL (by omega) hT hn
  refine wp ?_;(refine A0.by hnu ?_;rintro _ s5 ⟨rfl,hs5⟩;subst s5);refine wp ?_;(refine A0.by hnb ?_;intro v s6 hv6);refine wp ?_
  unfold C1q at hv6 ⊢
  rcases hvf:J6 L a with x|⟨x,a'⟩
  ·rw [hvf] at hv6
   obtain ⟨e,a',rfl,⟨kd,tx,rfl⟩,hP6⟩:=hv6
   obtain ⟨hP8,hb8⟩:=hP6.drop c2
   refine wp ?_
   exact ⟨_,Sub.refl _,_,_,rfl,⟨kd,tx,rfl⟩,hP8.put c2 m1 m2 _ _⟩
  ·rw [hvf] at hv6
   obtain ⟨rfl,hP6⟩:=hv6
   obtain ⟨hP8,hb8⟩:=hP6.drop c2
   refine wp ?_
   exact ⟨_,Sub.refl _,rfl,hP8.put c2 m1 m2 _ _⟩
def stepA (s0:Sto) (bp bl:Nat) (L:List Tok) (r:Res St) (v:AV) (s':Sto):Prop :=
 match r with
 | .ok x=>v=.nilIface∧Pst s0 s' bp bl L x.a x.o x.d x.k
 | .error x=>A8x x v∧∃ a o d k,Pst s0 s' bp bl L a o d k
theorem C2x {l:List Int} {i:Nat} (h:i < l.length):(G7 .i64 l).getD i []=[.int .i64 (l.getD i 0)]:=A5e h
def D3y (s0:Sto) (bp bl:Nat) (L:List Tok) (r:Res St) (v:AV) (s':Sto):Prop :=
 match r with
 | .ok x=>v=.nilIface∧Pst s0 s' bp bl L x.a x.o x.d x.k
 | .error x=>∃ b kd t sE,v=.iface 158 (.ptr (some ⟨b,0,none⟩))∧sE.bx b=none∧s'.bx b=some (165,P3 (kd,t,x.2.1,x.2.2)++[.iface 44 (.int .i64 x.1)])∧Sub sE s'∧∃ a o d k,Pst s0 sE bp bl L a o d k
theorem D3y.stepA {r:Res St} {f:FuncId} {args:List AV} (h:A0 Tryz.prog Γ f args s (D3y s0 bp bl L r)):A0 Tryz.prog Γ f args s (stepA s0 bp bl L r):=by
 refine h.frz ?_
 intro v s' hv
 cases r with
 | ok x =>
  obtain ⟨rfl,hv⟩:=hv
  exact ⟨fz0,s',D7r,Sub.refl _,by simp only [fz,fg];exact ⟨rfl,hv⟩⟩
 | error x =>
  obtain ⟨b,kd,t,sE,rfl,h1,h2,h3,h4⟩:=hv
  refine ⟨fz1 b 0 (P3 (kd,t,x.2.1,x.2.2)++[.iface 44 (.int .i64 x.1)]),sE,C0n h1 h2,h3,⟨kd,t,?_⟩,h4⟩
  simp only [fz,fzP,C0m,List.drop_zero,fg,B7t,P3,List.cons_append,List.nil_append,fgL]
theorem A3a (hP:Pst s0 s bp bl L a o d k) (ho:o.length≤100000) (hd:d.length=o.length) (t:Tok) (x:Ex) (tu:Nat) (u:List Int) (hu:∀ i ∈ u,0≤i∧i < d.length) (hul:u.length≤2) :
  A0 Tryz.prog Γ 193 [.ptr (some ⟨bp,0,none⟩),.agg (P3 t),.agg (exA x),.slice tu (G7 .i64 u)] s (stepA s0 bp bl L (V8 t x u ⟨a,o,d,k⟩)):=by
 refine D3y.stepA ?_
 obtain ⟨p1,p2,p3,p4⟩:=t
 obtain ⟨x1,x2,x3,x4,x5,x6,x7,x8,x9,x10⟩:=x
 simp only [P3,exA]
 have hul2:=M8 .i64 u
 have hdl:=M8 .i64 d
 have hol:=X3 o
 unfold V8
 dsimp only
 refine acs Tryz.func193 ?_
 conv=>whnf
 intro b5 hb5
 conv=>whnf
 have hP5:=hP.box hb5 163 [.int .i64 p1,.str p2,.int .i64 p3,.int .i64 p4]
 obtain ⟨m1,m2⟩:=hP.nb hb5
 have hb5':(s.set b5 163 [.int .i64 p1,.str p2,.int .i64 p3,.int .i64 p4]).bx b5=some (163,[.int .i64 p1,.str p2,.int .i64 p3,.int .i64 p4]):=A1
 have c5:s0.bx b5=none:=hP.sub.none hb5
 generalize s.set b5 163 [.int .i64 p1,.str p2,.int .i64 p3,.int .i64 p4]=sa at *
 intro b6 hb6
 conv=>whnf
 obtain ⟨m3,m4⟩:=hP5.nb hb6
 have n_b5_b6:b5≠b6:=A3 hb5' hb6
 have n_b6_b5:b6≠b5:=fun h=>n_b5_b6 h.symm
 have c6:s0.bx b6=none:=hP5.sub.none hb6
 have hPb:=((hP5.box hb6 61 [.int .i64 x1,.int .i64 x2,.int .i64 x3,.str x4,.int .i64 x5,.int .i64 x6,.str x7,.bool x8,.int .i64 x9,.int .i64 x10]).put c6 m3 m4 61 [.int .i64 x1,.int .i64 x2,.int .i64 x3,.str x4,.int .i64 x5,.int .i64 x6,.str x7,.bool x8,.int .i64 p3,.int .i64 x10]).put c6 m3 m4 61 [.int .i64 x1,.int .i64 x2,.int .i64 x3,.str x4,.int .i64 x5,.int .i64 x6,.str x7,.bool x8,.int .i64 p3,.int .i64 p4]
 have h5b:(((sa.set b6 61 [.int .i64 x1,.int .i64 x2,.int .i64 x3,.str x4,.int .i64 x5,.int .i64 x6,.str x7,.bool x8,.int .i64 x9,.int .i64 x10]).set b6 61 [.int .i64 x1,.int .i64 x2,.int .i64 x3,.str x4,.int .i64 x5,.int .i64 x6,.str x7,.bool x8,.int .i64 p3,.int .i64 x10]).set b6 61 [.int .i64 x1,.int .i64 x2,.int .i64 x3,.str x4,.int .i64 x5,.int .i64 x6,.str x7,.bool x8,.int .i64 p3,.int .i64 p4]).bx b5=some (163,[.int .i64 p1,.str p2,.int .i64 p3,.int .i64 p4]):=(A2 n_b5_b6).trans ((A2 n_b5_b6).trans ((A2 n_b5_b6).trans hb5'))
 have h6b:(((sa.set b6 61 [.int .i64 x1,.int .i64 x2,.int .i64 x3,.str x4,.int .i64 x5,.int .i64 x6,.str x7,.bool x8,.int .i64 x9,.int .i64 x10]).set b6 61 [.int .i64 x1,.int .i64 x2,.int .i64 x3,.str x4,.int .i64 x5,.int .i64 x6,.str x7,.bool x8,.int .i64 p3,.int .i64 x10]).set b6 61 [.int .i64 x1,.int .i64 x2,.int .i64 x3,.str x4,.int .i64 x5,.int .i64 x6,.str x7,.bool x8,.int .i64 p3,.int .i64 p4]).bx b6=some (61,[.int .i64 x1,.int .i64 x2,.int .i64 x3,.str x4,.int .i64 x5,.int .i64 x6,.str x7,.bool x8,.int .i64 p3,.int .i64 p4]):=A1
 refine AWp.anyP [(12,true),(14,true),(16,false),(17,false)] (fun k=>cond k b5 b6) [0,1,2,3,4,5,6,7] n_b5_b6 (by kernel_rfl) (by kernel_rfl) (by kernel_rfl) (by kernel_rfl) ?_
 conv=>whnf
 repeat' ((first|exact pru|(refine brS (fun h=>?_) (fun h=>?_)<;>(try rw [h])<;>(try simp only [bS,↓reduceIte] at h))|(refine ⟨(by first|exact trivial|exact ⟨_,rfl,rfl⟩),?_⟩)|refine D3 ?_|refine gS ?_|refine aA ?_|refine nA ?_|fail)<;>(conv=>whnf))
 generalize ((sa.set b6 61 _).set b6 61 _).set b6 61 _=sb at *
 obtain ⟨t1,t2,hbb,w1,w2,w3⟩:=hPb.pr
 refine AWp.loopA [20,9] [21,22,23,11,24,25,26,27,28,29,30,31,32,33,34] (fun q:Nat × Int=>[.int .i64 q.1,.int .i64 q.2]) (fun q s'=>q.1≤u.length∧s'=sb∧A2z d u 1=A2z d (u.drop q.1) q.2) (fun q=>u.length - q.1) ((0,1)) (by kernel_rfl) (eqa) ?_ ?_
 ·exact ⟨Nat.zero_le _,rfl,rfl⟩
 ·rintro x ⟨i,m⟩ s' ⟨h1,rfl,h3⟩
  show awp _ _ _ _ _ (updL _ _ [.int .i64 (i:Int),.int .i64 m]) _
  conv=>whnf
  by_cases hi:i < u.length
  ·have hui:=hu (u.getD i 0) (by rw [List.getD_eq_getElem?_getD,List.getElem?_eq_getElem hi];simp)
   have hat:=C2x (l:=u) hi
   have hdt:=C2x (l:=d) (i:=(u.getD i 0).toNat) (by omega)
   have hz:((i:Int)).toNat=i:=rfl
   have hdrop:u.drop i=u.getD i 0::u.drop (i+1):=by rw [List.drop_eq_getElem_cons hi,List.getD_eq_getElem?_getD,List.getElem?_eq_getElem hi];rfl
   rw [hdrop] at h3
   have hw:IntKind.i64.wrap ((i:Int)+1)=((i+1:Nat):Int):=C3 (by omega) (by omega) (by omega)
   repeat' ((first|exact pru|(refine brS (fun h=>?_) (fun h=>?_)<;>(try rw [h])<;>(try simp only [bS,↓reduceIte] at h))|refine D3 ?_|(refine A4 hbb ?_)|(rw [hz])|(rw [hat])|(rw [hdt])|(rw [hw])|refine gS ?_|refine aA ?_|refine nA ?_|fail)<;>(conv=>whnf))
   ·refine ⟨(i+1,_),eqa,B9,⟨by omega,rfl,?_⟩,by omega⟩
    dsimp only
    rw [h3]
    rfl
  ·have hie:i=u.length:=by omega
   rw [hie,List.drop_length] at h3
   have h3':A2z d u 1=m:=h3
   rw [h3']
   repeat' ((first|exact pru|(refine brS (fun h=>?_) (fun h=>?_)<;>(try rw [h])<;>(try simp only [bS,↓reduceIte] at h))|refine D3 ?_|(refine A4 hbb ?_)|(refine AWp.anyP (id:=10) [] (fun k=>cond k b5 b6) [0,1,2,3,4,5,6,7,9,10,11,12,13,14,8,15,16,17,18,19,20,21] n_b5_b6 (by kernel_rfl) (by kernel_rfl) (by kernel_rfl) (by kernel_rfl) ?_)|(refine ⟨trivial,?_⟩)|refine gS ?_|refine aA ?_|refine nA ?_|fail)<;>(conv=>whnf))
   ·rw [if_pos (by assumption)]
    intro b7 hb7
    refine wp ?_
    exact ⟨_,Sub.refl _,b7,p1,p2,s',rfl,hb7,A1,(Sub.refl _).set hb7 _ _,a,o,d,k,hPb⟩
   ·rw [if_neg (by assumption)]
    refine ⟨w1.may,fun c hc=>by obtain ⟨z,_,rfl⟩:=List.mem_map.1 hc;rfl,by intro c hc;rw [List.mem_singleton] at hc;subst hc;exact ⟨rfl,rfl⟩,Nat.le_trans (Nat.mul_le_mul_right _ (show _≤100001 from by simp only [List.length_cons,List.length_nil];omega)) (Nat.le_of_ble_eq_true (by kernel_rfl)),?_⟩
    intro t3 h31 h32
    conv=>whnf
    have v1:=w1.grow h31 h32
    have v2:=w2.beside (u':=t3) (e2:=61) (k2:=10) (fun h=>by rw [h];exact w3 h.symm) w1.free
    refine ⟨trivial,?_⟩
    conv=>whnf
    refine ⟨v2.may,fun c hc=>by obtain ⟨z,_,rfl⟩:=List.mem_map.1 hc;rfl,by intro c hc;rw [List.mem_singleton] at hc;subst hc;exact ⟨rfl,rfl⟩,Nat.le_trans (Nat.mul_le_mul_right _ (show _≤100001 from by simp only [List.length_cons,List.length_nil];omega)) (Nat.le_of_ble_eq_true (by kernel_rfl)),?_⟩
    intro t4 h41 h42
    conv=>whnf
    have v3:=v2.grow h41 h42
    have v4:=v1.beside (u':=t4) (e2:=3) (k2:=1) (B49 w2 w3 h31 h32) v2.free
    refine ⟨trivial,?_⟩
    conv=>whnf
    have hb9:((s'.grow t1 t3 61 10).grow t2 t4 3 1).bx bp=some (123,[.ptr (some ⟨bl,0,none⟩),.slice t1 (J9 o),.slice t2 (G7 .i64 d),.int .i64 k]):=Q4.trans (Q4.trans hbb)
    repeat' ((first|exact pru|(refine brS (fun h=>?_) (fun h=>?_)<;>(try rw [h])<;>(try simp only [bS,↓reduceIte] at h))|(refine ⟨trivial,?_⟩)|(refine A4 hb9 ?_)|(refine A4 A1 ?_)|refine gS ?_|refine aA ?_|refine nA ?_|fail)<;>(conv=>whnf))
    have hnn:=B49 v1 (fun h=>h.trans (B49 w2 w3 h31 h32 h.symm)) h41 h42
    refine ⟨_,Sub.refl _,rfl,hP.np,hP.nl,hP.ne,⟨t3,t4,?_,((v4.set hP.np).set hP.np).more (by simp) (by simp),((v3.set hP.np).set hP.np).more (by simp) (by simp),fun h=>h.trans (hnn h.symm)⟩,?_⟩
    ·refine A1.trans ?_
     simp only [J9,G7,List.map_append,List.map_cons,List.map_nil,exA]
    ·exact (A2 hP.ne.symm).trans ((A2 hP.ne.symm).trans (Q4.trans (Q4.trans hPb.pl)))
end
end Go.Proofs.YticnkpgmmpenlaaGreatDoor.Pa
namespace Go.Proofs.YticnkpgmmpenlaaGreatDoor.Pa
open Go Go.Ab Go.RowKit Go.Proofs.YticnkpgmmpenlaaGreatDoor.Lx
structure F8 (L:List Tok) (s:St):Prop where
 ha:s.a≤L.length
 ho:s.o.length≤s.a
 hd:s.d.length=s.o.length
 hk:0≤s.k∧s.k≤128
structure B32 (s s':St):Prop where
 a:s.a≤s'.a
 l:s'.o.length+s.a≤s'.a+s.o.length
 o:s.o.length < s'.o.length
 k:s'.k=s.k
def A3n (L:List Tok) (F:St→Res St) (s:St):Prop:=∀ s',F s=.ok s'→F8 L s'∧B32 s s'
theorem C70 {L:List Tok} {a:Nat} (h:B1f (B0 L a)=true):a < L.length:=by
 by_cases ha:a < L.length
 ·exact ha
 ·exfalso
  unfold B0 at h
  rw [if_neg ha] at h
  split at h<;>exact absurd h (by simp [B1f])
theorem D1 {L:List Tok} {a:Nat} {w:List UInt8} (h:isF L a w=true):a < L.length:=by
 unfold isF at h
 rw [Bool.and_eq_true] at h
 exact C70 h.1
theorem A33 {L:List Tok} {a:Nat} {m:List (List UInt8 × Int)} (h:J4 L a m≠0):a < L.length:=by
 unfold J4 at h
 split at h
 ·rename_i h1;exact C70 h1
 ·exact absurd rfl h
theorem A2b {L:List Tok} {a:Nat} (h:(B0 L a).1≠0):a < L.length:=by
 by_cases ha:a < L.length
 ·exact ha
 ·exfalso
  unfold B0 at h
  rw [if_neg ha] at h
  split at h<;>exact h rfl
theorem A8w {L:List Tok} {a a':Nat} {v:Int × Int × List UInt8 × Bool} (h:J6 L a=.ok (v,a')):a < a'∧a'≤L.length:=by
 unfold J6 at h
 split at h
 ·rename_i hn
  unfold U2 at hn
  rw [Bool.and_eq_true,decide_eq_true_eq] at hn
  have hq:a≤(if isF L a [45]=true then a+1 else a):=by split<;>omega
  dsimp only at h
  generalize (if isF L a [45]=true then a+1 else a)=q at *
  generalize (if isF L a [45]=true∧(B0 L q).2.1≠[48] then ([45]:List UInt8) else [])++(B0 L q).2.1=t at *
  split at h
  ·cases h
  ·injection h with h
   injection h with h1 h2
   subst h2
   have h3:=hn.1
   omega
 ·split at h
  ·rename_i h1
   injection h with h;injection h with _ h2;subst h2
   have:=A2b (L:=L) (a:=a) (by rw [h1];decide)
   omega
  ·split at h
   ·rename_i h1
    injection h with h;injection h with _ h2;subst h2
    have:=D1 h1
    omega
   ·split at h
    ·rename_i h1
     injection h with h;injection h with _ h2;subst h2
     have:=D1 h1
     omega
    ·cases h
theorem A7u {t:Tok} {x:Ex} {u:List Int} {s s':St} (h:V8 t x u s=.ok s'):s' = { s with o:=s.o++[{ x with ln:=t.2.2.1,cl:=t.2.2.2 }],d:=s.d++[A2z s.d u 1] }∧A2z s.d u 1≤64:=by
 unfold V8 at h
 split at h
 ·cases h
 ·injection h with h
  exact ⟨h.symm,by omega⟩
theorem A0z {L:List Tok} {t:Tok} {x:Ex} {u:List Int} {s s1 s':St} (ha:s.a≤s1.a) (hL:s1.a≤L.length) (hl:s1.o.length+1+s.a≤s1.a+s.o.length) (ho:s.o.length≤s1.o.length) (hd:s1.d.length=s1.o.length) (hk:s1.k=s.k) (hs:F8 L s)
  (h:V8 t x u s1=.ok s'):F8 L s'∧B32 s s':=by
 obtain ⟨rfl,_⟩:=A7u h
 have:=hs.ho
 refine ⟨⟨hL,?_,?_,?_⟩,⟨ha,?_,?_,hk⟩⟩
 ·simp only [List.length_append,List.length_cons,List.length_nil];omega
 ·simp only [List.length_append,List.length_cons,List.length_nil];omega
 ·rw [show ({ s1 with o:=_,d:=_ }:St).k=s1.k from rfl,hk];exact hs.hk
 ·simp only [List.length_append,List.length_cons,List.length_nil];omega
 ·simp only [List.length_append,List.length_cons,List.length_nil];omega
theorem B92 {L:List Tok} {w:List UInt8} {s s1 s':St} (h1:F8 L s1) (h2:B32 s s1) (h:B3d L w s1=.ok s'):F8 L s'∧B32 s s':=by
 unfold B3d at h
 split at h
 ·rename_i hw
  injection h with h
  subst h
  have:=D1 hw
  exact ⟨⟨by simp only;omega,by simp only;have:=h1.ho;omega,h1.hd,h1.hk⟩,⟨by simp only;have:=h2.a;omega,by simp only;have:=h2.l;omega,h2.o,h2.k⟩⟩
 ·cases h
def F1 (s:St):St:={ s with a:=s.a+1,k:=s.k+1 }
theorem M2 {L:List Tok} {s:St} (h:F8 L s) (ha:s.a < L.length) (hk:s.k≠128):F8 L (F1 s) :=
 ⟨by simp only [F1];omega,by simp only [F1];have:=h.ho;omega,h.hd,by simp only [F1];have:=h.hk;omega⟩
theorem A4h {L:List Tok} {F:St→Res St} {s:St} (hs:F8 L s) (ha:s.a < L.length) (hF:s.k≠128→A3n L F (F1 s)):∀ s',A09 L F s=.ok s'→F8 L s'∧B32 s s'∧s'.o.length+1+s.a≤s'.a+s.o.length:=by
 intro s' h
 unfold A09 at h
 split at h
 ·cases h
 ·rename_i hk
  split at h
  ·cases h
  ·rename_i s1 h1
   injection h with h
   subst h
   obtain ⟨g1,g2⟩:=hF hk s1 h1
   have e1:=g2.a
   have e2:=g2.l
   have e3:=g2.o
   have e4:=g2.k
   simp only [F1] at e1 e2 e3 e4
   have:=hs.hk
   exact ⟨⟨g1.ha,g1.ho,g1.hd,by simp only;omega⟩,⟨by simp only;omega,by simp only;omega,by simp only;omega,by simp only;omega⟩,by simp only;omega⟩
theorem B2r {L:List Tok} {F:St→Res St} {op:Int} {s:St} (hs:F8 L s) (ha:s.a < L.length) (hF:s.k≠128→A3n L F (F1 s)):A3n L (R1 L op F) s:=by
 intro s' h
 unfold R1 at h
 split at h
 ·cases h
 ·rename_i s1 h1
  obtain ⟨g1,g2,g3⟩:=A4h hs ha hF s1 h1
  exact A0z g2.a g1.ha g3 (Nat.le_of_lt g2.o) g1.hd g2.k hs h
theorem B2u {L:List Tok} {m:List (List UInt8 × Int)} {F:St→Res St}:∀ {n:Nat} {s s1:St},F8 L s→(s1=s∨B32 s s1)→F8 L s1→(∀ q:St,F8 L q→s.a≤q.a→A3n L F q)→∀ s',A2q L m F n s1=.ok s'→F8 L s'∧(s'=s1∨B32 s s')
 | 0,s,s1,hs,hg,h1,hF,s',h=>by
  injection h with h;subst h;exact ⟨h1,.inl rfl⟩
 | n+1,s,s1,hs,hg,h1,hF,s',h=>by
  unfold A2q at h
  split at h
  ·injection h with h;subst h;exact ⟨h1,.inl rfl⟩
  ·rename_i hne
   have hlt:=A33 hne
   have hsa:s.a≤s1.a:=by rcases hg with rfl|hg;exact Nat.le_refl _;exact hg.a
   have hso:s.o.length≤s1.o.length:=by rcases hg with rfl|hg;exact Nat.le_refl _;exact Nat.le_of_lt hg.o
   have hsl:s1.o.length+s.a≤s1.a+s.o.length:=by rcases hg with rfl|hg;omega;exact hg.l
   have hsk:s1.k=s.k:=by rcases hg with rfl|hg;rfl;exact hg.k
   split at h
   ·cases h
   ·rename_i s2 h2
    obtain ⟨g1,g2⟩:=hF { s1 with a:=s1.a+1 } ⟨by simp only;omega,by simp only;have:=h1.ho;omega,h1.hd,h1.hk⟩ (by simp only;omega) s2 h2
    have e1:=g2.a
    have e2:=g2.l
    have e3:=g2.o
    have e4:=g2.k
    simp only at e1 e2 e3 e4
    split at h
    ·cases h
    ·rename_i s3 h3
     obtain ⟨k1,k2⟩:=A0z (s:=s) (by omega) g1.ha (by omega) (by omega) g1.hd (by omega) hs h3
     obtain ⟨k3,k4⟩:=B2u hs (.inr k2) k1 hF s' h
     refine ⟨k3,.inr ?_⟩
     rcases k4 with rfl|k4
     ·exact k2
     ·exact k4
theorem A53 {L:List Tok} {m:List (List UInt8 × Int)} {F:St→Res St} {s:St} (hs:F8 L s) (hF:∀ q:St,F8 L q→s.a≤q.a→A3n L F q):A3n L (W2 L m F) s:=by
 intro s' h
 unfold W2 at h
 split at h
 ·cases h
 ·rename_i s1 h1
  obtain ⟨g1,g2⟩:=hF s hs (Nat.le_refl _) s1 h1
  obtain ⟨k1,k2⟩:=B2u hs (.inr g2) g1 hF s' h
  refine ⟨k1,?_⟩
  rcases k2 with rfl|k2
  ·exact g2
  ·exact k2
theorem B7c {s:St} {f m:Nat} (h1:f≤m) (h2:m≤s.o.length) (hd:s.d.length=s.o.length):(R5 s f m).o.length=s.o.length∧(R5 s f m).d.length=s.d.length:=by
 unfold R5
 simp only [List.length_append,List.length_take,List.length_map,List.length_drop]
 omega
theorem C8k {L:List Tok} {F:St→Res St} {s:St} (hs:F8 L s) (hF:∀ q:St,F8 L q→s.a≤q.a→A3n L F q):A3n L (A48 L F) s:=by
 intro s' h
 unfold A48 at h
 split at h
 ·cases h
 ·rename_i s1 h1
  obtain ⟨g1,g2⟩:=hF s hs (Nat.le_refl _) s1 h1
  split at h
  ·injection h with h;subst h;exact ⟨g1,g2⟩
  ·rename_i hne
   have hlt:=A33 hne
   split at h
   ·cases h
   ·rename_i s2 h2
    have f1:=g2.a
    have f2:=g2.l
    have f3:=g2.o
    have f4:=g2.k
    obtain ⟨k1,k2⟩:=hF { s1 with a:=s1.a+1 } ⟨by simp only;omega,by simp only;have:=g1.ho;omega,g1.hd,g1.hk⟩ (by simp only;omega) s2 h2
    have e1:=k2.a
    have e2:=k2.l
    have e3:=k2.o
    have e4:=k2.k
    simp only at e1 e2 e3 e4
    split at h
    ·obtain ⟨t1,t2⟩:=B7c (s:=s2) (f:=s.o.length) (m:=s1.o.length) (by omega) (by omega) k1.hd
     have tk:(R5 s2 s.o.length s1.o.length).k=s2.k:=rfl
     have ta:(R5 s2 s.o.length s1.o.length).a=s2.a:=rfl
     exact A0z (s:=s) (by omega) (by rw [ta];exact k1.ha) (by omega) (by omega) (by rw [t1,t2];exact k1.hd) (by omega) hs h
    ·exact A0z (s:=s) (by omega) k1.ha (by omega) (by omega) k1.hd (by omega) hs h
theorem C6f {L:List Tok} {E U:St→Res St} {s:St} (hs:F8 L s) (hE:s.a < L.length→s.k≠128→A3n L E (F1 s)) (hU:s.a < L.length→s.k≠128→A3n L U (F1 s)):A3n L (A0v L E U) s:=by
 intro s' h
 unfold A0v at h
 split at h
 ·rename_i h0
  have hlt:=D1 h0
  obtain ⟨g1,g2,_⟩:=A4h hs hlt (fun hk=>fun q hq=>by
   split at hq
   ·cases hq
   ·rename_i q1 hq1
    obtain ⟨k1,k2⟩:=hE hlt hk q1 hq1
    exact B92 k1 k2 hq) s' h
  exact ⟨g1,g2⟩
 ·split at h
  ·rename_i h1
   have hlt:=A2b (L:=L) (a:=s.a) (by rw [h1.1];decide)
   exact A0z (s:=s) (s1:={ s with a:=s.a+1 }) (by simp only;omega) (by simp only;omega) (by simp only;omega) (Nat.le_refl _) hs.hd rfl hs h
  ·split at h
   ·rename_i h2
    have hlt:=D1 h2.1
    exact B2r hs hlt (hU hlt) s' h
   ·split at h
    ·cases h
    ·rename_i v a' hv
     obtain ⟨l1,l2⟩:=A8w hv
     exact A0z (s:=s) (s1:={ s with a:=a' }) (by simp only;omega) (by simp only;omega) (by simp only;omega) (Nat.le_refl _) hs.hd rfl hs h
def N2 (L:List Tok) (lv f:Nat) (s:St):Prop:=7 * (L.length - s.a)+(6 - lv) < f
theorem J8 {L:List Tok}:∀ (f lv:Nat) (s:St),lv≤6→F8 L s→N2 L lv f s→A3n L (ev L f lv) s
 | 0,_,_,_,_,h=>absurd h (Nat.not_lt_zero _)
 | f+1,lv,s,hl,hs,he=>by
  have up:∀ l2,lv < l2→l2≤6→∀ q:St,F8 L q→s.a≤q.a→A3n L (ev L f l2) q:=fun l2 h1 h2 q hq ha=>J8 f l2 q h2 hq (by unfold N2 at *;omega)
  have op:∀ l2,l2≤6→(l2=0→lv=6)→(l2≠0→l2=lv)→s.a < L.length→s.k≠128→A3n L (ev L f l2) (F1 s):=fun l2 h1 h2 h3 ha hk=>J8 f l2 (F1 s) h1 (M2 hs ha hk) (by
   unfold N2 at *
   simp only [F1]
   by_cases h0:l2=0
   ·have:=h2 h0;omega
   ·have:=h3 h0;omega)
  rcases lv with _|_|_|_|_|_|_|lv
  ·exact A53 hs (up 1 (by omega) (by omega))
  ·exact A53 hs (up 2 (by omega) (by omega))
  ·intro s' h
   replace h:(if isF L s.a [110,111,116]=true then R1 L 4 (ev L f 2) s else ev L f 3 s)=.ok s':=h
   split at h
   ·rename_i h0
    exact B2r hs (D1 h0) (op 2 (by omega) (by omega) (by omega) (D1 h0)) s' h
   ·exact up 3 (by omega) (by omega) s hs (Nat.le_refl _) s' h
  ·exact C8k hs (up 4 (by omega) (by omega))
  ·exact A53 hs (up 5 (by omega) (by omega))
  ·exact A53 hs (up 6 (by omega) (by omega))
  ·exact C6f hs (op 0 (by omega) (by omega) (by omega)) (op 6 (by omega) (by omega) (by omega))
  ·omega
end Go.Proofs.YticnkpgmmpenlaaGreatDoor.Pa
namespace Go.Proofs.YticnkpgmmpenlaaGreatDoor.Pa
open Go Go.Ab Go.RowKit Go.Proofs.YticnkpgmmpenlaaGreatDoor.Lx
variable {Γ:Nat→AV}
attribute [local irreducible] A5 Sto.set Sto.grow
section
variable {s0 s:Sto} {bp bl:Nat} {L:List Tok} {a:Nat} {o:List Ex} {d:List Int} {k:Int}
def D0p (Γ:Nat→AV) (n:FuncId) (L:List Tok) (F:St→Res St) (C:St→Prop):Prop :=
 ∀ (s0 s:Sto) (bp bl:Nat) (st:St),Pst s0 s bp bl L st.a st.o st.d st.k→F8 L st→C st→A0 Tryz.prog Γ n [.ptr (some ⟨bp,0,none⟩)] s (stepA s0 bp bl L (F st))
theorem Pst.reopen {t1 t2:Nat} (hP:Pst s0 s bp bl L a o d k) (hb:s.bx bp=some (123,[.ptr (some ⟨bl,0,none⟩),.slice t1 (J9 o),.slice t2 (G7 .i64 d),.int .i64 k])) (k':Int) :
  Pst s0 (s.set bp 123 [.ptr (some ⟨bl,0,none⟩),.slice t1 (J9 o),.slice t2 (G7 .i64 d),.int .i64 k']) bp bl L a o d k':=by
 obtain ⟨np,nl,ne,⟨u1,u2,h1,h2,h3,h4⟩,pl⟩:=hP
 rw [hb] at h1
 simp only [Option.some.injEq,Prod.mk.injEq,List.cons.injEq,AV.slice.injEq,true_and,and_true] at h1
 obtain ⟨rfl,rfl⟩:=h1
 exact ⟨np,nl,ne,⟨t1,t2,A1,h2.set np,h3.set np,h4⟩,(A2 ne.symm).trans pl⟩
theorem D6u (hP:Pst s0 s bp bl L a o d k) (hL:L.length≤100000) (ha:a≤100000) (w:List UInt8) (tk:Nat) :
  A0 Tryz.prog Γ 163 [.ptr (some ⟨bp,0,none⟩),.slice tk [[.str w]]] s (stepA s0 bp bl L (B3d L w ⟨a,o,d,k⟩)):=by
 have htk:=V9 (Γ:=Γ) hP (by omega) ha w
 unfold B3d
 dsimp only
 refine acs Tryz.func163 ?_
 refine wp ?_
 refine AWp.loopA [9] [10,11,12,6,13,14,15,16,17,18,4,19] (fun i:Nat=>[.int .i64 (i:Int)]) (fun i s'=>(i=0∧s'=s)∨(i=1∧isF L a w=true∧Pst s0 s' bp bl L (a+1) o d k)) (fun i=>1 - i) (0) (by kernel_rfl) (eqa) ?_ ?_
 ·exact .inl ⟨rfl,rfl⟩
 ·rintro x i s' (⟨rfl,rfl⟩|⟨rfl,h1,h2⟩)
  ·show awp _ _ _ _ _ (updL _ _ [.int .i64 ((0:Nat):Int)]) _
   conv=>whnf
   cases hi:isF L a w
   ·rw [hi] at htk
    simp only [Bool.false_eq_true,if_false] at htk ⊢
    refine wp ?_;(refine A0.by htk ?_;rintro _ s2 ⟨rfl,hP2⟩);refine wp ?_;(refine A0.by (A24 (by assumption) (by omega) (by omega) 16) ?_;rintro _ s3 ⟨rfl,hs3⟩;subst s3);refine wp ?_
    exact ⟨_,Sub.refl _,Y7 L a 16,a,o,d,k,hP2⟩
   ·rw [hi] at htk
    simp only [if_true] at htk ⊢
    refine wp ?_;(refine A0.by htk ?_;rintro _ s2 ⟨rfl,hP2⟩);refine wp ?_
    exact ⟨1,eqa,B9,.inr ⟨rfl,by first|trivial|exact hi,hP2⟩,by omega⟩
  ·show awp _ _ _ _ _ (updL _ _ [.int .i64 ((1:Nat):Int)]) _
   conv=>whnf
   rw [if_pos h1]
   refine wp ?_
   exact ⟨_,Sub.refl _,rfl,h2⟩
theorem B82 {n:FuncId} {F:St→Res St} {C:St→Prop} (hn:A2y Tryz.prog n=true) (hD:D0p Γ n L F C) {st:St} (hP:Pst s0 s bp bl L st.a st.o st.d st.k) (hS:F8 L st) (hL:L.length≤100000) (ha:st.a < L.length) (hC:C (F1 st)) (hG:st.k≠128→∀ x,F (F1 st)=.ok x→0 < x.k∧x.k≤129) :
  A0 Tryz.prog Γ 257 [.ptr (some ⟨bp,0,none⟩),.func (.func n) [.ptr (some ⟨bp,0,none⟩)] []] s (stepA s0 bp bl L (A09 L F st)):=by
 obtain ⟨t1,t2,hb,_⟩:=hP.pr
 have hw:IntKind.i64.wrap ((st.a:Int)+1)=((st.a+1:Nat):Int):=C3 (by omega) (by omega) (by omega)
 unfold A09
 refine acs Tryz.func257 ?_
 conv=>whnf
 by_cases hk:st.k=128
 ·rw [if_pos hk]
  refine wp ?_;(refine A0.by (A24 hP (by omega) (by omega) 13) ?_;rintro _ s3 ⟨rfl,hs3⟩;subst s3);refine wp ?_
  exact ⟨_,Sub.refl _,Y7 L st.a 13,_,_,_,_,hP⟩
 ·rw [if_neg hk]
  have hkk:=hS.hk
  have hwk:IntKind.i64.wrap (st.k+1)=st.k+1:=C3 rfl (by omega) (by omega)
  have hP1:=hP.next (st.a+1)
  have hb1:=(A2 (s:=s) (T:=126) (cs:=[.slice 0 (W7 L),.int .i64 ((st.a+1:Nat):Int)]) hP.ne).trans hb
  have hP2:=hP1.reopen hb1 (st.k+1)
  have h3:=hD _ _ _ _ (F1 st) hP2 (M2 hS ha hk) hC
  repeat' ((first|exact pru|(refine brS (fun h=>?_) (fun h=>?_)<;>(try rw [h])<;>(try simp only [bS,↓reduceIte] at h))|(refine A4 hb ?_)|(refine A4 hP.pl ?_)|(rw [hw])|(refine A4 hb1 ?_)|(rw [hwk])|(refine A0.by h3 ?_;intro v s4 hv)|refine gS ?_|refine aA ?_|refine nA ?_|fail)<;>(conv=>whnf))
  rotate_left
  ·rw [hn] at h;cases h
  have hopen:F { a:=st.a+1,o:=st.o,d:=st.d,k:=st.k+1 } = F (F1 st):=rfl
  rcases hr:F (F1 st) with x|x
  ·rw [hr] at hv
   obtain ⟨⟨kd,tx,rfl⟩,a',o',d',k',hP4⟩:=hv
   obtain ⟨u1,u2,hb4,_⟩:=hP4.pr
   refine wp ?_
   rw [hopen,hr]
   exact ⟨_,Sub.refl _,⟨kd,tx,rfl⟩,_,_,_,_,hP4.reopen hb4 _⟩
  ·rw [hr] at hv
   obtain ⟨rfl,hP4⟩:=hv
   obtain ⟨u1,u2,hb4,_⟩:=hP4.pr
   refine wp ?_
   rw [hopen,hr]
   have hx:=hG hk x hr
   rw [C3 (show x.k - 1=x.k - 1 from rfl) (by omega) (by omega)]
   exact ⟨_,Sub.refl _,rfl,hP4.reopen hb4 _⟩
theorem Q5 {r:Res St} {v:AV} (h:stepA s0 bp bl L r v s):v=.nilIface∨∃ t e,v=B7t t e:=by
 unfold stepA at h
 split at h
 ·exact .inl h.1
 ·obtain ⟨⟨kd,tx,rfl⟩,_⟩:=h
  exact .inr ⟨_,_,rfl⟩
theorem D2x {F:St→Res St} {st x:St} (hS:F8 L st) (hk:st.k≠128) (hG:A3n L F (F1 st)) (h:F (F1 st)=.ok x):0 < x.k∧x.k≤129:=by
 have h1:=(hG x h).2.k
 have h2:=hS.hk
 have h3:(F1 st).k=st.k+1:=rfl
 omega
theorem B1r {n:FuncId} {F:St→Res St} {C:St→Prop} (hn:A2y Tryz.prog n=true) (hD:D0p Γ n L F C) {st:St} (hP:Pst s0 s bp bl L st.a st.o st.d st.k) (hS:F8 L st) (hL:L.length≤100000) (ha:st.a < L.length) (hC:C (F1 st)) (hG:st.k≠128→A3n L F (F1 st)) (op:Int) (p:Tok) (hp:B0 L st.a=p) :
  A0 Tryz.prog Γ 235 [.ptr (some ⟨bp,0,none⟩),.agg (P3 p),.int .i64 op,.func (.func n) [.ptr (some ⟨bp,0,none⟩)] []] s (stepA s0 bp bl L (R1 L op F st)):=by
 have hin:=fun {s0 s:Sto} (hP:Pst s0 s bp bl L st.a st.o st.d st.k)=>B82 (Γ:=Γ) hn hD hP hS hL ha hC (fun hk x hx=>D2x hS hk (hG hk) hx)
 have hgo:=A4h hS ha hG
 unfold R1
 rw [hp]
 obtain ⟨p1,p2,p3,p4⟩:=p
 simp only [P3]
 refine acs Tryz.func235 ?_
 conv=>whnf
 intro b5 hb5
 conv=>whnf
 obtain ⟨m1,m2⟩:=hP.nb hb5
 have c5:s0.bx b5=none:=hP.sub.none hb5
 have hP5:=(hP.box hb5 163 [.int .i64 p1,.str p2,.int .i64 p3,.int .i64 p4]).keep A1 m1 m2
 refine wp ?_;(refine A0.by (hin hP5) ?_;intro v s4 hv);refine wp ?_
 rcases hr:A09 L F st with x|x
 ·rw [hr] at hv
  obtain ⟨⟨kd,tx,rfl⟩,a',o',d',k',hP4⟩:=hv
  refine wp ?_
  exact ⟨_,Sub.refl _,⟨kd,tx,rfl⟩,_,_,_,_,(hP4.drop c5).1⟩
 ·rw [hr] at hv
  obtain ⟨rfl,hP4⟩:=hv
  obtain ⟨g1,g2,g3⟩:=hgo x hr
  obtain ⟨hP6,hb6⟩:=hP4.drop c5
  have hlen:=g1.ho
  have hlen2:=g1.ha
  have hlen3:=g2.o
  have hla:=A6c (Γ:=Γ) hP6 (by omega)
  have hno:=A3a (Γ:=Γ) hP6 (by omega) g1.hd (p1,p2,p3,p4) { ex0 with op:=op,a:=(x.o.length:Int) - 1 } 1 [(x.o.length:Int) - 1] (by intro i hi;rw [List.mem_singleton] at hi;subst hi;rw [g1.hd];omega) (by simp)
  conv=>whnf
  repeat' ((first|exact pru|(refine brS (fun h=>?_) (fun h=>?_)<;>(try rw [h])<;>(try simp only [bS,↓reduceIte] at h))|(refine AWp.anyC (id:=4) [20,23] [25] (by kernel_rfl) (by kernel_rfl) (by kernel_rfl) (by kernel_rfl) ?_)|(refine ⟨trivial,?_⟩)|(refine A83.mk _ hla ?_)|(refine A4 hb6 ?_)|(refine A0.by hno ?_;intro v s9 hv9)|refine gS ?_|refine aA ?_|refine nA ?_|fail)<;>(conv=>whnf))
  rcases Q5 hv9 with rfl|⟨t9,e9,rfl⟩
  ·conv=>whnf
   refine wp ?_;(refine ⟨trivial,?_⟩);refine wp ?_
   exact ⟨_,Sub.refl _,hv9⟩
  ·conv=>whnf
   refine wp ?_;(refine ⟨trivial,?_⟩);refine wp ?_
   exact ⟨_,Sub.refl _,hv9⟩
end
section
variable {s0 s:Sto} {bp bl:Nat} {L:List Tok} {a:Nat} {o:List Ex} {d:List Int} {k:Int}
theorem A96 {n:FuncId} {F:St→Res St} {C:St→Prop} (hn:A2y Tryz.prog n=true) (hD:D0p Γ n L F C) {st:St} (hP:Pst s0 s bp bl L st.a st.o st.d st.k) (hS:F8 L st) (hL:L.length≤90000) (hC:∀ q,F8 L q→st.a≤q.a→C q) (hG:∀ q,F8 L q→st.a≤q.a→A3n L F q) (m:List (List UInt8 × Int)) :
  A0 Tryz.prog Γ 113 [.ptr (some ⟨bp,0,none⟩),.cmap m,.func (.func n) [.ptr (some ⟨bp,0,none⟩)] []] s (stepA s0 bp bl L (W2 L m F st)):=by
 have h1:=hD _ _ _ _ st hP hS (hC st hS (Nat.le_refl _))
 refine acs Tryz.func113 ?_
 conv=>whnf
 repeat' ((first|exact pru|(refine brS (fun h=>?_) (fun h=>?_)<;>(try rw [h])<;>(try simp only [bS,↓reduceIte] at h))|(refine A0.by h1 ?_;intro v s1 hv)|refine gS ?_|refine aA ?_|refine nA ?_|fail)<;>(conv=>whnf))
 rotate_left
 ·rw [hn] at h;cases h
 rcases hr:F st with x|x
 ·rw [hr] at hv
  obtain ⟨⟨kd,tx,rfl⟩,a',o',d',k',hP4⟩:=hv
  refine wp ?_
  rw [show W2 L m F st=.error x from by unfold W2;rw [hr]]
  exact ⟨_,Sub.refl _,⟨kd,tx,rfl⟩,_,_,_,_,hP4⟩
 ·rw [hr] at hv
  obtain ⟨rfl,hP1⟩:=hv
  obtain ⟨g1,g2⟩:=hG st hS (Nat.le_refl _) x hr
  refine wp ?_
  have hch:W2 L m F st=A2q L m F (L.length+1) x:=by unfold W2;rw [hr]
  refine AWp.loopA [] [18,19,20,21,22,23,24,25,8,9,26,27,6,28,29,10,30,31,32,33,34,35,36,37,38,39,40,41,11,42,43,44,45,46,47,48,49,50,51,52,53,54,55,56,12,57,58,59] (fun q:St × Nat=>([]:List AV)) (fun q s'=>Pst s0 s' bp bl L q.1.a q.1.o q.1.d q.1.k∧F8 L q.1∧B32 st q.1∧W2 L m F st=A2q L m F q.2 q.1∧L.length - q.1.a < q.2) (fun q=>q.2) ((x,L.length+1)) (by kernel_rfl) (eqa) ?_ ?_
  ·exact ⟨hP1,g1,g2,hch,by omega⟩
  ·rintro y ⟨q,f⟩ s' ⟨hQ,k1,k2,k3,k4⟩
   show awp _ _ _ _ _ (updL _ _ []) _
   conv=>whnf
   cases f with
   | zero=>omega
   | succ f =>
   replace hQ:Pst s0 s' bp bl L q.a q.o q.d q.k:=hQ
   replace k1:F8 L q:=k1
   replace k2:B32 st q:=k2
   replace k4:L.length - q.a < f+1:=k4
   have hqa:q.a≤L.length:=k1.ha
   have hqo:q.o.length≤q.a:=k1.ho
   have k2a:st.a≤q.a:=k2.a
   have k2o:st.o.length < q.o.length:=k2.o
   obtain ⟨t1,t2,hb,_⟩:=hQ.pr
   have hpk:=A0j (Γ:=Γ) hQ.pl (by omega) (by omega)
   have hne:=C7m (Γ:=Γ) hQ (by omega) (by omega) m
   have htok:∃ p1 p2 p3 p4,B0 L q.a=(p1,p2,p3,p4):=⟨_,_,_,_,rfl⟩
   obtain ⟨p1,p2,p3,p4,hp⟩:=htok
   replace k3:W2 L m F st=(if J4 L q.a m=0 then .ok q else match F { q with a:=q.a+1 } with
    | .error e=>.error e
    | .ok s2=>match V8 (B0 L q.a) { ex0 with op:=J4 L q.a m,a:=(q.o.length:Int) - 1,b:=(s2.o.length:Int) - 1 } [(q.o.length:Int) - 1,(s2.o.length:Int) - 1] s2 with
     | .error e=>.error e
     | .ok s3=>A2q L m F f s3):=k3
   rw [hp] at hpk k3
   simp only [P3] at hpk
   refine wp ?_;(refine A0.by hpk ?_;rintro _ s4 ⟨rfl,hs4⟩;subst s4);refine wp ?_;(refine A0.by hne ?_;rintro _ s4 ⟨rfl,hs4⟩;subst s4);refine wp ?_
   intro b8 hb8
   conv=>whnf
   obtain ⟨m1,m2⟩:=hQ.nb hb8
   have c8:s0.bx b8=none:=hQ.sub.none hb8
   have hQ2:=((hQ.box hb8 163 [.int .i64 0,.str [],.int .i64 0,.int .i64 0]).put c8 m1 m2 163 [.int .i64 p1,.str p2,.int .i64 p3,.int .i64 p4]).keep A1 m1 m2
   have hQ3:=(hQ.box hb8 163 [.int .i64 0,.str [],.int .i64 0,.int .i64 0]).put c8 m1 m2 163 [.int .i64 p1,.str p2,.int .i64 p3,.int .i64 p4]
   by_cases h0:J4 L q.a m=0
   ·rw [if_pos h0] at k3
    refine wp ?_
    rw [k3]
    exact ⟨_,Sub.refl _,rfl,hQ3⟩
   ·rw [if_neg h0] at k3
    have hlt:=A33 h0
    have hla:=A6c (Γ:=Γ) hQ3 (by omega)
    obtain ⟨u1,u2,hb3,_⟩:=hQ3.pr
    have hw:IntKind.i64.wrap ((q.a:Int)+1)=((q.a+1:Nat):Int):=C3 (by omega) (by omega) (by omega)
    have hQ4:=hQ2.next (q.a+1)
    have hokq:F8 L { q with a:=q.a+1 }:=⟨by simp only;omega,by simp only;omega,k1.hd,k1.hk⟩
    have hon:=hD _ _ _ _ { q with a:=q.a+1 } hQ4 hokq (hC _ hokq (Nat.le_succ_of_le k2a))
    have hgo:=hG _ hokq (Nat.le_succ_of_le k2a)
    repeat' ((first|exact pru|(refine brS (fun h=>?_) (fun h=>?_)<;>(try rw [h])<;>(try simp only [bS,↓reduceIte] at h))|refine D3 ?_|(refine A0.by hla ?_;rintro _ s5 ⟨rfl,hs5⟩;subst s5)|(refine A4 hb3 ?_)|(refine A4 hQ3.pl ?_)|(rw [hw])|(refine A0.by hon ?_;intro v s6 hv)|refine gS ?_|refine aA ?_|refine nA ?_|fail)<;>(conv=>whnf))
    rotate_left
    ·rw [hn] at h;cases h
    rcases hr2:F { q with a:=q.a+1 } with z|z
    ·rw [hr2] at hv k3
     obtain ⟨⟨kd,tx,rfl⟩,a',o',d',k',hP4⟩:=hv
     refine wp ?_
     rw [k3]
     exact ⟨_,Sub.refl _,⟨kd,tx,rfl⟩,_,_,_,_,(hP4.drop c8).1⟩
    ·rw [hr2] at hv k3
     dsimp only at k3
     obtain ⟨rfl,hP4⟩:=hv
     obtain ⟨z1,z2⟩:=hgo z hr2
     obtain ⟨hP6,hb6⟩:=hP4.drop c8
     have e1:=z2.a
     have e2:=z2.l
     have e3:=z2.o
     have e4:=z2.k
     have e5:=z1.ha
     have e6:=z1.ho
     simp only at e1 e2 e3 e4
     have hla2:=A6c (Γ:=Γ) hP6 (by omega)
     have hno:=A3a (Γ:=Γ) hP6 (by omega) z1.hd (p1,p2,p3,p4) { ex0 with op:=J4 L q.a m,a:=(q.o.length:Int) - 1,b:=(z.o.length:Int) - 1 } 1 [(q.o.length:Int) - 1,(z.o.length:Int) - 1] (by
      intro i hi;rw [z1.hd];rcases List.mem_cons.1 hi with rfl|hi
      ·omega
      ·rw [List.mem_singleton] at hi;subst hi;omega) (by simp)
     conv=>whnf
     repeat' ((first|exact pru|(refine brS (fun h=>?_) (fun h=>?_)<;>(try rw [h])<;>(try simp only [bS,↓reduceIte] at h))|(refine AWp.anyC (id:=12) [50,54] [56] (by kernel_rfl) (by kernel_rfl) (by kernel_rfl) (by kernel_rfl) ?_)|(refine ⟨trivial,?_⟩)|(refine A83.mk _ hla2 ?_)|(refine A4 hb6 ?_)|(refine A0.by hno ?_;intro v s9 hv9)|refine gS ?_|refine aA ?_|refine nA ?_|fail)<;>(conv=>whnf))
     rcases hr3:V8 (p1,p2,p3,p4) { ex0 with op:=J4 L q.a m,a:=(q.o.length:Int) - 1,b:=(z.o.length:Int) - 1 } [(q.o.length:Int) - 1,(z.o.length:Int) - 1] z with y3|y3
     ·rw [hr3] at hv9 k3
      obtain ⟨⟨kd,tx,rfl⟩,a',o',d',k',hP9⟩:=hv9
      refine wp ?_;(refine ⟨trivial,?_⟩);refine wp ?_
      rw [k3]
      exact ⟨_,Sub.refl _,⟨kd,tx,rfl⟩,_,_,_,_,hP9⟩
     ·rw [hr3] at hv9 k3
      obtain ⟨rfl,hP9⟩:=hv9
      obtain ⟨j1,j2⟩:=A0z (s:=st) (s1:=z) (by omega) z1.ha (by have:=k2.l;omega) (by omega) z1.hd (e4.trans k2.k) hS hr3
      refine wp ?_;(refine ⟨trivial,?_⟩);refine wp ?_
      refine ⟨(y3,f),eqa,B9,⟨hP9,j1,j2,k3,?_⟩,by first|omega|(simp only;omega)⟩
      have ja:q.a+1≤y3.a:=by
       obtain ⟨rfl,_⟩:=A7u hr3
       exact e1
      simp only
      omega
end
section
variable {s0 s:Sto} {bp bl:Nat} {L:List Tok} {a:Nat} {o:List Ex} {d:List Int} {k:Int}
def Lev (Γ:Nat→AV) (L:List Tok) (n:FuncId) (f lv:Nat):Prop:=D0p Γ n L (ev L f lv) (N2 L lv f)
theorem A3l {L:List Tok} {f lv l2:Nat} {st:St} (h:N2 L lv (f+1) st) (h1:lv < l2) (h2:l2≤6):∀ q,F8 L q→st.a≤q.a→N2 L l2 f q:=fun q _ ha=>by
 unfold N2 at *;omega
theorem D6c (hL:L.length≤90000) {f:Nat} (h:Lev Γ L 295 f 6):Lev Γ L 274 (f+1) 5:=by
 intro s0 s bp bl st hP hS hE
 have hup:=A3l hE (l2:=6) (by omega) (by omega)
 have hc:=A96 (Γ:=Γ) (by kernel_rfl) h hP hS hL hup (fun q hq ha=>J8 f 6 q (by omega) hq (hup q hq ha)) C3q
 refine A0.of_awp Tryz.func274 rfl (Nat.le_of_ble_eq_true (by kernel_rfl)) ?_
 refine AWp.seq (R8 _ (by kernel_rfl) ?_)
 conv=>whnf
 refine AWp.seq ?_
 refine AWp.mapLit (id:=1) (kt:=9) (et:=3) (x0:=.tmp 0) (i0:=3) (d:=4) (T:=176) (o0:=?o0) (mk:=?mk) (rest:=?rest) (ins:=[?a0,?a1,?a2]) C3q ?h1 ?h2 ?h3 ?h4 ?h5 ?h6 ?h7 ?h8 ?h9 (by kernel_rfl) (by kernel_rfl) (by decide) ?_
 case h1=>rfl
 case h2=>kernel_rfl
 case h3=>rfl
 case h4=>rfl
 case h5=>rfl
 case h6=>rfl
 case h7=>rfl
 case h8=>rfl
 case h9=>exact ⟨⟨rfl,rfl,rfl⟩,⟨rfl,rfl,rfl⟩,⟨rfl,rfl,rfl⟩,trivial⟩
 conv=>whnf
 refine A0.by hc ?_
 intro v s1 hv
 rcases Q5 hv with rfl|⟨t9,e9,rfl⟩
 all_goals (conv=>whnf)
 all_goals refine AWp.ret ?_
 all_goals (conv=>whnf)
 all_goals exact ⟨_,Sub.refl _,hv⟩
theorem D8n (hL:L.length≤90000) {f:Nat} (h:Lev Γ L 274 f 5):Lev Γ L 258 (f+1) 4:=by
 intro s0 s bp bl st hP hS hE
 have hup:=A3l hE (l2:=5) (by omega) (by omega)
 have hc:=A96 (Γ:=Γ) (by kernel_rfl) h hP hS hL hup (fun q hq ha=>J8 f 5 q (by omega) hq (hup q hq ha)) D30
 refine A0.of_awp Tryz.func258 rfl (Nat.le_of_ble_eq_true (by kernel_rfl)) ?_
 refine AWp.seq (R8 _ (by kernel_rfl) ?_)
 conv=>whnf
 refine AWp.seq ?_
 refine AWp.mapLit (id:=1) (kt:=9) (et:=3) (x0:=.tmp 0) (i0:=3) (d:=4) (T:=176) (o0:=?o0) (mk:=?mk) (rest:=?rest) (ins:=[?a0,?a1]) D30 ?h1 ?h2 ?h3 ?h4 ?h5 ?h6 ?h7 ?h8 ?h9 (by kernel_rfl) (by kernel_rfl) (by decide) ?_
 case h1=>rfl
 case h2=>kernel_rfl
 case h3=>rfl
 case h4=>rfl
 case h5=>rfl
 case h6=>rfl
 case h7=>rfl
 case h8=>rfl
 case h9=>exact ⟨⟨rfl,rfl,rfl⟩,⟨rfl,rfl,rfl⟩,trivial⟩
 conv=>whnf
 refine A0.by hc ?_
 intro v s1 hv
 rcases Q5 hv with rfl|⟨t9,e9,rfl⟩
 all_goals (conv=>whnf)
 all_goals refine AWp.ret ?_
 all_goals (conv=>whnf)
 all_goals exact ⟨_,Sub.refl _,hv⟩
theorem D7d (hL:L.length≤90000) {f:Nat} (h:Lev Γ L 194 f 2):Lev Γ L 114 (f+1) 1:=by
 intro s0 s bp bl st hP hS hE
 have hup:=A3l hE (l2:=2) (by omega) (by omega)
 have hc:=A96 (Γ:=Γ) (by kernel_rfl) h hP hS hL hup (fun q hq ha=>J8 f 2 q (by omega) hq (hup q hq ha)) D01
 refine A0.of_awp Tryz.func114 rfl (Nat.le_of_ble_eq_true (by kernel_rfl)) ?_
 refine AWp.seq (R8 _ (by kernel_rfl) ?_)
 conv=>whnf
 refine AWp.seq ?_
 refine AWp.mapLit (id:=1) (kt:=9) (et:=3) (x0:=.tmp 0) (i0:=3) (d:=4) (T:=176) (o0:=?o0) (mk:=?mk) (rest:=?rest) (ins:=[?a0]) D01 ?h1 ?h2 ?h3 ?h4 ?h5 ?h6 ?h7 ?h8 ?h9 (by kernel_rfl) (by kernel_rfl) (by decide) ?_
 case h1=>rfl
 case h2=>kernel_rfl
 case h3=>rfl
 case h4=>rfl
 case h5=>rfl
 case h6=>rfl
 case h7=>rfl
 case h8=>rfl
 case h9=>exact ⟨⟨rfl,rfl,rfl⟩,trivial⟩
 conv=>whnf
 refine A0.by hc ?_
 intro v s1 hv
 rcases Q5 hv with rfl|⟨t9,e9,rfl⟩
 all_goals (conv=>whnf)
 all_goals refine AWp.ret ?_
 all_goals (conv=>whnf)
 all_goals exact ⟨_,Sub.refl _,hv⟩
theorem C0j (hL:L.length≤90000) {f:Nat} (h:Lev Γ L 114 f 1):Lev Γ L 70 (f+1) 0:=by
 intro s0 s bp bl st hP hS hE
 have hup:=A3l hE (l2:=1) (by omega) (by omega)
 have hc:=A96 (Γ:=Γ) (by kernel_rfl) h hP hS hL hup (fun q hq ha=>J8 f 1 q (by omega) hq (hup q hq ha)) orM
 refine A0.of_awp Tryz.func70 rfl (Nat.le_of_ble_eq_true (by kernel_rfl)) ?_
 refine AWp.seq (R8 _ (by kernel_rfl) ?_)
 conv=>whnf
 refine AWp.seq ?_
 refine AWp.mapLit (id:=1) (kt:=9) (et:=3) (x0:=.tmp 0) (i0:=3) (d:=4) (T:=176) (o0:=?o0) (mk:=?mk) (rest:=?rest) (ins:=[?a0]) orM ?h1 ?h2 ?h3 ?h4 ?h5 ?h6 ?h7 ?h8 ?h9 (by kernel_rfl) (by kernel_rfl) (by decide) ?_
 case h1=>rfl
 case h2=>kernel_rfl
 case h3=>rfl
 case h4=>rfl
 case h5=>rfl
 case h6=>rfl
 case h7=>rfl
 case h8=>rfl
 case h9=>exact ⟨⟨rfl,rfl,rfl⟩,trivial⟩
 conv=>whnf
 refine A0.by hc ?_
 intro v s1 hv
 rcases Q5 hv with rfl|⟨t9,e9,rfl⟩
 all_goals (conv=>whnf)
 all_goals refine AWp.ret ?_
 all_goals (conv=>whnf)
 all_goals exact ⟨_,Sub.refl _,hv⟩
theorem ev2 (L:List Tok) (f:Nat) (st:St):ev L (f+1) 2 st=if isF L st.a [110,111,116]=true then R1 L 4 (ev L f 2) st else ev L f 3 st:=rfl
theorem D75 (hL:L.length≤90000) {f:Nat} (hc:Lev Γ L 236 f 3) (hn:Lev Γ L 194 f 2):Lev Γ L 194 (f+1) 2:=by
 intro s0 s bp bl st hP hS hE
 have hup:=A3l hE (l2:=3) (by omega) (by omega) st hS (Nat.le_refl _)
 have hsa:=hS.ha
 have hi:=isP (Γ:=Γ) hP (by omega) (by omega) [110,111,116]
 have hcc:=hc _ _ _ _ st hP hS hup
 have hpk:=A0j (Γ:=Γ) hP.pl (by omega) (by omega)
 obtain ⟨t1,t2,hb,_⟩:=hP.pr
 rw [ev2]
 cases hx:isF L st.a [110,111,116]
 ·rw [hx] at hi
  simp only [Bool.false_eq_true,if_false]
  refine acs Tryz.func194 ?_
  refine wp ?_;(refine A0.by hi ?_;rintro _ s4 ⟨rfl,hs4⟩;subst s4);refine wp ?_;(refine A0.by hcc ?_;intro v s1 hv);refine wp ?_
  rcases Q5 hv with rfl|⟨t9,e9,rfl⟩
  all_goals (conv=>whnf)
  all_goals exact ⟨_,Sub.refl _,hv⟩
 ·rw [hx] at hi
  simp only [if_true]
  have hlt:=D1 hx
  have hen:st.k≠128→N2 L 2 f (F1 st):=fun _=>by unfold N2 at *;simp only [F1];omega
  have hen':N2 L 2 f (F1 st):=by unfold N2 at *;simp only [F1];omega
  have hbe:=B1r (Γ:=Γ) (by kernel_rfl) hn hP hS (by omega) hlt hen' (fun hk=>J8 f 2 _ (by omega) (M2 hS hlt hk) hen') 4 _ rfl
  refine acs Tryz.func194 ?_
  refine wp ?_;(refine A0.by hi ?_;rintro _ s4 ⟨rfl,hs4⟩;subst s4);refine wp ?_;(refine A0.by hpk ?_;rintro _ s4 ⟨rfl,hs4⟩;subst s4);refine wp ?_;(refine A0.by hbe ?_;intro v s1 hv);refine wp ?_
  rcases Q5 hv with rfl|⟨t9,e9,rfl⟩
  all_goals (conv=>whnf)
  all_goals exact ⟨_,Sub.refl _,hv⟩
theorem C4z (hL:L.length≤90000) {f:Nat} (he:Lev Γ L 70 f 0):D0p Γ 307 L (fun s=>match ev L f 0 s with|.error e=>.error e|.ok s'=>B3d L [41] s') (N2 L 0 f):=by
 intro s0 s bp bl st hP hS hE
 have h1:=he _ _ _ _ st hP hS hE
 have hg:=J8 f 0 st (by omega) hS hE
 refine acs Tryz.func307 ?_
 refine wp ?_;(refine A0.by h1 ?_;intro v s1 hv);refine wp ?_
 rcases hr:ev L f 0 st with x|x
 ·rw [hr] at hv
  obtain ⟨⟨kd,tx,rfl⟩,a',o',d',k',hP4⟩:=hv
  refine wp ?_
  dsimp only
  rw [hr]
  exact ⟨_,Sub.refl _,⟨kd,tx,rfl⟩,_,_,_,_,hP4⟩
 ·rw [hr] at hv
  obtain ⟨rfl,hP4⟩:=hv
  have hx:=(hg x hr).1.ha
  have hwn:=D6u (Γ:=Γ) hP4 (by omega) (by omega) [41] 1
  refine wp ?_;(refine A0.by hwn ?_;intro v s2 hv2);refine wp ?_
  rcases Q5 hv2 with rfl|⟨t9,e9,rfl⟩
  all_goals (conv=>whnf)
  all_goals dsimp only
  all_goals rw [hr]
  all_goals exact ⟨_,Sub.refl _,hv2⟩
end
section
variable {s0 s:Sto} {bp bl:Nat} {L:List Tok} {a:Nat} {o:List Ex} {d:List Int} {k:Int}
theorem D4k (hR:Nu.Z8 Γ) (hL:L.length≤90000) (hT:∀ i,(B0 L i).2.1.length≤5000) {f:Nat} (he:Lev Γ L 70 f 0) (hu:Lev Γ L 295 f 6):Lev Γ L 295 (f+1) 6:=by
 intro s0 s bp bl st hP hS hE
 have hsa:=hS.ha
 have hso:=hS.ho
 have hbr:=C4z (Γ:=Γ) hL he
 have htok:∃ p1 p2 p3 p4,B0 L st.a=(p1,p2,p3,p4):=⟨_,_,_,_,rfl⟩
 obtain ⟨p1,p2,p3,p4,hp⟩:=htok
 have hpk:=A0j (Γ:=Γ) hP.pl (by omega) (by omega)
 rw [hp] at hpk
 simp only [P3] at hpk
 obtain ⟨t1,t2,hb,_⟩:=hP.pr
 refine acs Tryz.func295 ?_
 refine wp ?_;(refine A0.by hpk ?_;rintro _ s4 ⟨rfl,hs4⟩;subst s4);refine wp ?_
 intro b3 hb3
 conv=>whnf
 obtain ⟨m1,m2⟩:=hP.nb hb3
 have c3:s0.bx b3=none:=hP.sub.none hb3
 have hQ:=(hP.box hb3 163 [.int .i64 0,.str [],.int .i64 0,.int .i64 0]).put c3 m1 m2 163 [.int .i64 p1,.str p2,.int .i64 p3,.int .i64 p4]
 have hq3:((s.set b3 163 [.int .i64 0,.str [],.int .i64 0,.int .i64 0]).set b3 163 [.int .i64 p1,.str p2,.int .i64 p3,.int .i64 p4]).bx b3=some (163,[.int .i64 p1,.str p2,.int .i64 p3,.int .i64 p4]):=A1
 refine wp ?_
 generalize (s.set b3 163 [.int .i64 0,.str [],.int .i64 0,.int .i64 0]).set b3 163 [.int .i64 p1,.str p2,.int .i64 p3,.int .i64 p4]=sq at *
 obtain ⟨u1,u2,hb4,_⟩:=hQ.pr
 have hi1:=isP (Γ:=Γ) hQ (by omega) (by omega) [40]
 have hi2:=isP (Γ:=Γ) hQ (by omega) (by omega) [45]
 have hnu:=B25 (Γ:=Γ) hQ (by omega) (by omega)
 have hkeep:=hQ.keep hq3 m1 m2
 have hval:=B7h (Γ:=Γ) hR hkeep (by omega) (by omega) hT
 have hev:ev L (f+1) 6 st=A0v L (ev L f 0) (ev L f 6) st:=rfl
 rw [hev]
 unfold A0v
 rw [hp]
 cases hx:isF L st.a [40]
 ·rw [hx] at hi1
  rw [if_neg (by decide)]
  repeat' ((first|exact pru|(refine brS (fun h=>?_) (fun h=>?_)<;>(try rw [h])<;>(try simp only [bS,↓reduceIte] at h))|(refine A0.by hi1 ?_;rintro _ s4 ⟨rfl,hs4⟩;subst s4)|(refine A4 hq3 ?_)|refine gS ?_|refine aA ?_|refine nA ?_|fail)<;>(conv=>whnf))
  rotate_left
  ·have hc1:¬ (p1=1∧p2≠[95]):=fun h=>h.2 (by assumption)
   rw [if_neg hc1]
   cases hy:isF L st.a [45]
   ·rw [hy] at hi2
    rw [if_neg (by simp)]
    refine wp ?_;(refine A0.by hi2 ?_;rintro _ s4 ⟨rfl,hs4⟩;subst s4);refine wp ?_;(refine A0.by hval ?_;intro v s2 hv2);refine wp ?_
    unfold C1q at hv2
    rcases hvf:J6 L st.a with x|⟨⟨x1,x2,x3,x4⟩,a'⟩
    ·rw [hvf] at hv2
     obtain ⟨e,a',rfl,⟨kd,tx,rfl⟩,hP6⟩:=hv2
     obtain ⟨hP8,hb8⟩:=hP6.drop c3
     refine wp ?_
     intro b4 hb4'
     conv=>whnf
     have c4:s0.bx b4=none:=hP8.sub.none hb4'
     obtain ⟨m3,m4⟩:=hP8.nb hb4'
     refine wp ?_
     exact ⟨_,Sub.refl _,⟨kd,tx,rfl⟩,_,_,_,_,(hP8.box hb4' _ _).put c4 m3 m4 _ _⟩
    ·rw [hvf] at hv2
     obtain ⟨rfl,hP6⟩:=hv2
     obtain ⟨hP8,hb8⟩:=hP6.drop c3
     refine wp ?_
     intro b4 hb4'
     conv=>whnf
     have c4:s0.bx b4=none:=hP8.sub.none hb4'
     obtain ⟨m3,m4⟩:=hP8.nb hb4'
     have n34:b3≠b4:=A3 hb8 hb4'
     have hP9:=(hP8.box hb4' 56 [.int .i64 0,.int .i64 0,.str [],.bool false]).put c4 m3 m4 56 (vlA (x1,x2,x3,x4))
     have hno:=A3a (Γ:=Γ) hP9 (by omega) hS.hd (p1,p2,p3,p4) { ex0 with op:=1,vk:=x1,vi:=x2,vs:=x3,vb:=x4 } 1 [] (by simp) (by simp)
     refine wp ?_;(refine A0.by hno ?_;intro v s2 hv2);refine wp ?_
     rcases Q5 hv2 with rfl|⟨t9,e9,rfl⟩
     all_goals (conv=>whnf)
     all_goals exact ⟨_,Sub.refl _,hv2⟩
   ·rw [hy] at hi2
    have hlt:=D1 hy
    cases hz:U2 L st.a
    ·rw [hz] at hnu
     rw [if_pos (by simp)]
     have hen:N2 L 6 f (F1 st):=by unfold N2 at *;simp only [F1];omega
     have hbe:=B1r (Γ:=Γ) (by kernel_rfl) hu hQ hS (by omega) hlt hen (fun hk=>J8 f 6 _ (by omega) (M2 hS hlt hk) hen) 5 (p1,p2,p3,p4) hp
     refine wp ?_;(refine A0.by hi2 ?_;rintro _ s4 ⟨rfl,hs4⟩;subst s4);refine wp ?_;(refine A0.by hnu ?_;rintro _ s4 ⟨rfl,hs4⟩;subst s4);refine wp ?_;(refine A0.by hbe ?_;intro v s2 hv2);refine wp ?_
     rcases Q5 hv2 with rfl|⟨t9,e9,rfl⟩
     all_goals (conv=>whnf)
     all_goals exact ⟨_,Sub.refl _,hv2⟩
    ·rw [hz] at hnu
     rw [if_neg (by simp)]
     refine wp ?_;(refine A0.by hi2 ?_;rintro _ s4 ⟨rfl,hs4⟩;subst s4);refine wp ?_;(refine A0.by hnu ?_;rintro _ s4 ⟨rfl,hs4⟩;subst s4);refine wp ?_;(refine A0.by hval ?_;intro v s2 hv2);refine wp ?_
     unfold C1q at hv2
     rcases hvf:J6 L st.a with x|⟨⟨x1,x2,x3,x4⟩,a'⟩
     ·rw [hvf] at hv2
      obtain ⟨e,a',rfl,⟨kd,tx,rfl⟩,hP6⟩:=hv2
      obtain ⟨hP8,hb8⟩:=hP6.drop c3
      refine wp ?_
      intro b4 hb4'
      conv=>whnf
      have c4:s0.bx b4=none:=hP8.sub.none hb4'
      obtain ⟨m3,m4⟩:=hP8.nb hb4'
      refine wp ?_
      exact ⟨_,Sub.refl _,⟨kd,tx,rfl⟩,_,_,_,_,(hP8.box hb4' _ _).put c4 m3 m4 _ _⟩
     ·rw [hvf] at hv2
      obtain ⟨rfl,hP6⟩:=hv2
      obtain ⟨hP8,hb8⟩:=hP6.drop c3
      refine wp ?_
      intro b4 hb4'
      conv=>whnf
      have c4:s0.bx b4=none:=hP8.sub.none hb4'
      obtain ⟨m3,m4⟩:=hP8.nb hb4'
      have n34:b3≠b4:=A3 hb8 hb4'
      have hP9:=(hP8.box hb4' 56 [.int .i64 0,.int .i64 0,.str [],.bool false]).put c4 m3 m4 56 (vlA (x1,x2,x3,x4))
      have hno:=A3a (Γ:=Γ) hP9 (by omega) hS.hd (p1,p2,p3,p4) { ex0 with op:=1,vk:=x1,vi:=x2,vs:=x3,vb:=x4 } 1 [] (by simp) (by simp)
      refine wp ?_;(refine A0.by hno ?_;intro v s2 hv2);refine wp ?_
      rcases Q5 hv2 with rfl|⟨t9,e9,rfl⟩
      all_goals (conv=>whnf)
      all_goals exact ⟨_,Sub.refl _,hv2⟩
  ·have hc1:¬ (p1=1∧p2≠[95]):=fun h=>(by assumption:¬ p1=1) h.1
   rw [if_neg hc1]
   cases hy:isF L st.a [45]
   ·rw [hy] at hi2
    rw [if_neg (by simp)]
    refine wp ?_;(refine A0.by hi2 ?_;rintro _ s4 ⟨rfl,hs4⟩;subst s4);refine wp ?_;(refine A0.by hval ?_;intro v s2 hv2);refine wp ?_
    unfold C1q at hv2
    rcases hvf:J6 L st.a with x|⟨⟨x1,x2,x3,x4⟩,a'⟩
    ·rw [hvf] at hv2
     obtain ⟨e,a',rfl,⟨kd,tx,rfl⟩,hP6⟩:=hv2
     obtain ⟨hP8,hb8⟩:=hP6.drop c3
     refine wp ?_
     intro b4 hb4'
     conv=>whnf
     have c4:s0.bx b4=none:=hP8.sub.none hb4'
     obtain ⟨m3,m4⟩:=hP8.nb hb4'
     refine wp ?_
     exact ⟨_,Sub.refl _,⟨kd,tx,rfl⟩,_,_,_,_,(hP8.box hb4' _ _).put c4 m3 m4 _ _⟩
    ·rw [hvf] at hv2
     obtain ⟨rfl,hP6⟩:=hv2
     obtain ⟨hP8,hb8⟩:=hP6.drop c3
     refine wp ?_
     intro b4 hb4'
     conv=>whnf
     have c4:s0.bx b4=none:=hP8.sub.none hb4'
     obtain ⟨m3,m4⟩:=hP8.nb hb4'
     have n34:b3≠b4:=A3 hb8 hb4'
     have hP9:=(hP8.box hb4' 56 [.int .i64 0,.int .i64 0,.str [],.bool false]).put c4 m3 m4 56 (vlA (x1,x2,x3,x4))
     have hno:=A3a (Γ:=Γ) hP9 (by omega) hS.hd (p1,p2,p3,p4) { ex0 with op:=1,vk:=x1,vi:=x2,vs:=x3,vb:=x4 } 1 [] (by simp) (by simp)
     refine wp ?_;(refine A0.by hno ?_;intro v s2 hv2);refine wp ?_
     rcases Q5 hv2 with rfl|⟨t9,e9,rfl⟩
     all_goals (conv=>whnf)
     all_goals exact ⟨_,Sub.refl _,hv2⟩
   ·rw [hy] at hi2
    have hlt:=D1 hy
    cases hz:U2 L st.a
    ·rw [hz] at hnu
     rw [if_pos (by simp)]
     have hen:N2 L 6 f (F1 st):=by unfold N2 at *;simp only [F1];omega
     have hbe:=B1r (Γ:=Γ) (by kernel_rfl) hu hQ hS (by omega) hlt hen (fun hk=>J8 f 6 _ (by omega) (M2 hS hlt hk) hen) 5 (p1,p2,p3,p4) hp
     refine wp ?_;(refine A0.by hi2 ?_;rintro _ s4 ⟨rfl,hs4⟩;subst s4);refine wp ?_;(refine A0.by hnu ?_;rintro _ s4 ⟨rfl,hs4⟩;subst s4);refine wp ?_;(refine A0.by hbe ?_;intro v s2 hv2);refine wp ?_
     rcases Q5 hv2 with rfl|⟨t9,e9,rfl⟩
     all_goals (conv=>whnf)
     all_goals exact ⟨_,Sub.refl _,hv2⟩
    ·rw [hz] at hnu
     rw [if_neg (by simp)]
     refine wp ?_;(refine A0.by hi2 ?_;rintro _ s4 ⟨rfl,hs4⟩;subst s4);refine wp ?_;(refine A0.by hnu ?_;rintro _ s4 ⟨rfl,hs4⟩;subst s4);refine wp ?_;(refine A0.by hval ?_;intro v s2 hv2);refine wp ?_
     unfold C1q at hv2
     rcases hvf:J6 L st.a with x|⟨⟨x1,x2,x3,x4⟩,a'⟩
     ·rw [hvf] at hv2
      obtain ⟨e,a',rfl,⟨kd,tx,rfl⟩,hP6⟩:=hv2
      obtain ⟨hP8,hb8⟩:=hP6.drop c3
      refine wp ?_
      intro b4 hb4'
      conv=>whnf
      have c4:s0.bx b4=none:=hP8.sub.none hb4'
      obtain ⟨m3,m4⟩:=hP8.nb hb4'
      refine wp ?_
      exact ⟨_,Sub.refl _,⟨kd,tx,rfl⟩,_,_,_,_,(hP8.box hb4' _ _).put c4 m3 m4 _ _⟩
     ·rw [hvf] at hv2
      obtain ⟨rfl,hP6⟩:=hv2
      obtain ⟨hP8,hb8⟩:=hP6.drop c3
      refine wp ?_
      intro b4 hb4'
      conv=>whnf
      have c4:s0.bx b4=none:=hP8.sub.none hb4'
      obtain ⟨m3,m4⟩:=hP8.nb hb4'
      have n34:b3≠b4:=A3 hb8 hb4'
      have hP9:=(hP8.box hb4' 56 [.int .i64 0,.int .i64 0,.str [],.bool false]).put c4 m3 m4 56 (vlA (x1,x2,x3,x4))
      have hno:=A3a (Γ:=Γ) hP9 (by omega) hS.hd (p1,p2,p3,p4) { ex0 with op:=1,vk:=x1,vi:=x2,vs:=x3,vb:=x4 } 1 [] (by simp) (by simp)
      refine wp ?_;(refine A0.by hno ?_;intro v s2 hv2);refine wp ?_
      rcases Q5 hv2 with rfl|⟨t9,e9,rfl⟩
      all_goals (conv=>whnf)
      all_goals exact ⟨_,Sub.refl _,hv2⟩
  ·have hc1:p1=1∧p2≠[95]:=⟨by assumption,by assumption⟩
   rw [if_pos hc1]
   have hlt:=A2b (L:=L) (a:=st.a) (by rw [hp];simp [hc1.1])
   have hw:IntKind.i64.wrap ((st.a:Int)+1)=((st.a+1:Nat):Int):=C3 (by omega) (by omega) (by omega)
   have hQn:=hQ.next (st.a+1)
   have hno:=A3a (Γ:=Γ) hQn (by omega) hS.hd (p1,p2,p3,p4) { ex0 with op:=17,name:=p2 } 1 [] (by simp) (by simp)
   repeat' ((first|exact pru|(refine brS (fun h=>?_) (fun h=>?_)<;>(try rw [h])<;>(try simp only [bS,↓reduceIte] at h))|(refine A4 hb4 ?_)|(refine A4 hQ.pl ?_)|(rw [hw])|(refine A4 ((A2 m2).trans hq3) ?_)|(refine A0.by hno ?_;intro v s2 hv2)|refine gS ?_|refine aA ?_|refine nA ?_|fail)<;>(conv=>whnf))
   rcases Q5 hv2 with rfl|⟨t9,e9,rfl⟩
   all_goals (conv=>whnf)
   all_goals exact ⟨_,Sub.refl _,hv2⟩
 ·rw [hx] at hi1
  rw [if_pos rfl]
  have hlt:=D1 hx
  have hen:N2 L 0 f (F1 st):=by unfold N2 at *;simp only [F1];omega
  have hin:=B82 (Γ:=Γ) (by kernel_rfl) hbr hQ hS (by omega) hlt hen (fun hk x hx=>by
   rcases hr:ev L f 0 (F1 st) with y|y
   ·rw [hr] at hx;cases hx
   ·rw [hr] at hx
    obtain ⟨g1,g2⟩:=J8 f 0 (F1 st) (by omega) (M2 hS hlt hk) hen y hr
    have h1:=(B92 g1 g2 hx).2.k
    have h2:=hS.hk
    have h3:(F1 st).k=st.k+1:=rfl
    omega)
  refine wp ?_;(refine A0.by hi1 ?_;rintro _ s4 ⟨rfl,hs4⟩;subst s4);refine wp ?_;(refine A0.by hin ?_;intro v s2 hv2);refine wp ?_
  rcases Q5 hv2 with rfl|⟨t9,e9,rfl⟩
  all_goals (conv=>whnf)
  all_goals exact ⟨_,Sub.refl _,hv2⟩
end
section
variable {s0 s:Sto} {bp bl:Nat} {L:List Tok} {a:Nat} {o:List Ex} {d:List Int} {k:Int}
theorem C8j:-16≤J4 L a A2r∧J4 L a A2r≤16:=by
 unfold J4
 split
 ·generalize (B0 L a).2.1=t
  simp only [A2r,A8z]
  repeat' split
  all_goals omega
 ·omega
def D6y (Γ:Nat→AV) (L:List Tok):Prop:=∀ (s0 s:Sto) (bp bl:Nat) (st:St) (i j:Nat),Pst s0 s bp bl L st.a st.o st.d st.k→F8 L st→i < j→j < st.o.length →
 A0 Tryz.prog Γ 259 [.ptr (some ⟨bp,0,none⟩),.int .i64 (i:Int),.int .i64 (j:Int)] s fun v s'=>v=.tuple []∧Pst s0 s' bp bl L st.a (R5 st i j).o (R5 st i j).d st.k
theorem D44 (hL:L.length≤90000) (hT:D6y Γ L) {f:Nat} (h:Lev Γ L 258 f 4):Lev Γ L 236 (f+1) 3:=by
 intro s0 s bp bl st hP hS hE
 have hup:=A3l hE (l2:=4) (by omega) (by omega)
 have h1:=h _ _ _ _ st hP hS (hup st hS (Nat.le_refl _))
 have hsa:=hS.ha
 have hso:=hS.ho
 obtain ⟨t1,t2,hb,_⟩:=hP.pr
 refine A0.of_awp Tryz.func236 rfl (Nat.le_of_ble_eq_true (by kernel_rfl)) ?_
 refine AWp.seq (R8 _ (by kernel_rfl) ?_)
 conv=>whnf
 refine AWp.seq (R8 _ (by kernel_rfl) ?_)
 conv=>whnf
 refine A4 hb ?_
 conv=>whnf
 refine AWp.seq (R8 _ (by kernel_rfl) ?_)
 conv=>whnf
 refine A0.by h1 ?_
 intro v s1 hv
 rcases hr:ev L f 4 st with x|x
 ·rw [hr] at hv
  obtain ⟨⟨kd,tx,rfl⟩,a',o',d',k',hP4⟩:=hv
  conv=>whnf
  have hcx:ev L (f+1) 3 st=.error x:=by show A48 L (ev L f 4) st=_;unfold A48;rw [hr]
  rw [hcx]
  exact ⟨_,Sub.refl _,⟨kd,tx,rfl⟩,_,_,_,_,hP4⟩
 ·rw [hr] at hv
  obtain ⟨rfl,hP4⟩:=hv
  obtain ⟨g1,g2⟩:=J8 f 4 st (by omega) hS (hup st hS (Nat.le_refl _)) x hr
  have hxa:=g1.ha
  have hxo:=g1.ho
  have hpk:=A0j (Γ:=Γ) hP4.pl (by omega) (by omega)
  have htok:∃ p1 p2 p3 p4,B0 L x.a=(p1,p2,p3,p4):=⟨_,_,_,_,rfl⟩
  obtain ⟨p1,p2,p3,p4,hp⟩:=htok
  rw [hp] at hpk
  simp only [P3] at hpk
  obtain ⟨u1,u2,hb4,_⟩:=hP4.pr
  conv=>whnf
  refine AWp.seq (R8 _ (by kernel_rfl) ?_)
  refine wp ?_;(refine A0.by hpk ?_;rintro _ s4 ⟨rfl,hs4⟩;subst s4);refine wp ?_
  intro b5 hb5
  conv=>whnf
  obtain ⟨m1,m2⟩:=hP4.nb hb5
  have c5:s0.bx b5=none:=hP4.sub.none hb5
  have hQ:=(hP4.box hb5 163 [.int .i64 0,.str [],.int .i64 0,.int .i64 0]).put c5 m1 m2 163 [.int .i64 p1,.str p2,.int .i64 p3,.int .i64 p4]
  refine wp ?_
  refine AWp.seq ?_
  refine AWp.mapLit (id:=6) (kt:=9) (et:=3) (x0:=.tmp 0) (i0:=24) (d:=25) (T:=176) (o0:=?o0) (mk:=?mk) (rest:=?rest) (ins:=[?a1,?a2,?a3,?a4,?a5,?a6]) A2r ?h1 ?h2 ?h3 ?h4 ?h5 ?h6 ?h7 ?h8 ?h9 (by kernel_rfl) (by kernel_rfl) (by decide) ?_
  case h1=>rfl
  case h2=>kernel_rfl
  case h3=>rfl
  case h4=>rfl
  case h5=>rfl
  case h6=>rfl
  case h7=>rfl
  case h8=>rfl
  case h9=>exact ⟨⟨rfl,rfl,rfl⟩,⟨rfl,rfl,rfl⟩,⟨rfl,rfl,rfl⟩,⟨rfl,rfl,rfl⟩,⟨rfl,rfl,rfl⟩,⟨rfl,rfl,rfl⟩,trivial⟩
  conv=>whnf
  have hne:=C7m (Γ:=Γ) hQ (by omega) (by omega) A2r
  refine A0.by hne ?_
  rintro _ s4 ⟨rfl,hs4⟩
  subst s4
  conv=>whnf
  refine R8 _ (by kernel_rfl) ?_
  conv=>whnf
  have hcx:ev L (f+1) 3 st=if J4 L x.a A2r=0 then .ok x else match ev L f 4 { x with a:=x.a+1 } with
   | .error e=>.error e
   | .ok s2=>if J4 L x.a A2r < 0
    then V8 (p1,p2,p3,p4) { ex0 with op:=-(J4 L x.a A2r),a:=(st.o.length+(s2.o.length - x.o.length):Nat) - 1,b:=(s2.o.length:Int) - 1 } [((st.o.length+(s2.o.length - x.o.length):Nat):Int) - 1,(s2.o.length:Int) - 1] (R5 s2 st.o.length x.o.length)
    else V8 (p1,p2,p3,p4) { ex0 with op:=J4 L x.a A2r,a:=(x.o.length:Int) - 1,b:=(s2.o.length:Int) - 1 } [(x.o.length:Int) - 1,(s2.o.length:Int) - 1] s2:=by
   show A48 L (ev L f 4) st=_
   unfold A48
   rw [hr]
   dsimp only
   rw [hp]
   rfl
  rw [hcx]
  clear hcx
  have hop:=fun h:J4 L x.a A2r≠0=>A33 h
  have hor:-16≤J4 L x.a A2r∧J4 L x.a A2r≤16:=C8j
  generalize J4 L x.a A2r=op at *
  by_cases h0:op=0
  ·rw [if_pos h0]
   refine wp ?_
   exact ⟨_,Sub.refl _,rfl,hQ⟩
  ·rw [if_neg h0]
   have hlt:x.a < L.length:=hop h0
   have hq5:((s1.set b5 163 [.int .i64 0,.str [],.int .i64 0,.int .i64 0]).set b5 163 [.int .i64 p1,.str p2,.int .i64 p3,.int .i64 p4]).bx b5=some (163,[.int .i64 p1,.str p2,.int .i64 p3,.int .i64 p4]):=A1
   obtain ⟨w1,w2,hb6,_⟩:=hQ.pr
   have hw:IntKind.i64.wrap ((x.a:Int)+1)=((x.a+1:Nat):Int):=C3 (by omega) (by omega) (by omega)
   have hQn:=(hQ.keep hq5 m1 m2).next (x.a+1)
   have hokq:F8 L { x with a:=x.a+1 }:=⟨by simp only;omega,by simp only;omega,g1.hd,g1.hk⟩
   have hupq:=hup { x with a:=x.a+1 } hokq (Nat.le_succ_of_le g2.a)
   have h2:=h _ _ _ _ { x with a:=x.a+1 } hQn hokq hupq
   have hgo:=J8 f 4 { x with a:=x.a+1 } (by omega) hokq hupq
   have hpl:=hQ.pl
   generalize (s1.set b5 163 [.int .i64 0,.str [],.int .i64 0,.int .i64 0]).set b5 163 [.int .i64 p1,.str p2,.int .i64 p3,.int .i64 p4]=sq at *
   refine wp ?_;(rw [hw]);refine wp ?_;(refine A0.by h2 ?_;intro v s6 hv6);refine wp ?_
   rcases hr2:ev L f 4 { x with a:=x.a+1 } with z|z
   ·rw [hr2] at hv6
    obtain ⟨⟨kd,tx,rfl⟩,a',o',d',k',hP6⟩:=hv6
    conv=>whnf
    repeat' ((first|exact pru|(refine brS (fun h=>?_) (fun h=>?_)<;>(try rw [h])<;>(try simp only [bS,↓reduceIte] at h))|refine gS ?_|refine aA ?_|refine nA ?_|fail)<;>(conv=>whnf))
    exact ⟨_,Sub.refl _,⟨kd,tx,rfl⟩,_,_,_,_,(hP6.drop c5).1⟩
   ·rw [hr2] at hv6
    obtain ⟨rfl,hP6⟩:=hv6
    obtain ⟨z1,z2⟩:=hgo z hr2
    have e1:=z2.a
    have e2:=z2.l
    have e3:=z2.o
    have e4:=z2.k
    have e5:=z1.ha
    have e6:=z1.ho
    simp only at e1 e2 e3 e4
    have f3:=g2.o
    have hl1:=X3 st.o
    have hl2:=X3 x.o
    dsimp only
    conv=>whnf
    by_cases hneg:op < 0
    ·rw [if_pos hneg]
     have htu:=hT _ _ _ _ z st.o.length x.o.length hP6 z1 (by omega) (by omega)
     refine wp ?_;(rw [hl1]);refine wp ?_;(rw [hl2]);refine wp ?_;(refine A0.by htu ?_;rintro _ s7 ⟨rfl,hP7⟩);refine wp ?_
     obtain ⟨hP8,hb8⟩:=hP7.drop c5
     obtain ⟨t7,t8⟩:=B7c (s:=z) (f:=st.o.length) (m:=x.o.length) (by omega) (by omega) z1.hd
     have hd8:(R5 z st.o.length x.o.length).d.length=(R5 z st.o.length x.o.length).o.length:=by rw [t7,t8];exact z1.hd
     have ta:(R5 z st.o.length x.o.length).a=z.a:=rfl
     have tk:(R5 z st.o.length x.o.length).k=z.k:=rfl
     generalize R5 z st.o.length x.o.length=tz at *
     have hP8':Pst s0 s7 bp bl L z.a tz.o tz.d z.k:=hP8
     obtain ⟨y1,y2,hb9,_⟩:=hP8'.pr
     have hl3:=X3 tz.o
     have hla:=A6c (Γ:=Γ) hP8' (by omega)
     have hwn:IntKind.i64.wrap (0 - op) = -op:=C3 (by omega) (by omega) (by omega)
     have hw1:IntKind.i64.wrap ((st.o.length:Int)+(tz.o.length:Int))=((st.o.length+tz.o.length:Nat):Int):=C3 (by omega) (by omega) (by omega)
     have hw2:IntKind.i64.wrap (((st.o.length+tz.o.length:Nat):Int) - (x.o.length:Int))=((st.o.length+(z.o.length - x.o.length):Nat):Int):=C3 (by omega) (by omega) (by omega)
     have hw3:IntKind.i64.wrap (((st.o.length+(z.o.length - x.o.length):Nat):Int) - 1)=((st.o.length+(z.o.length - x.o.length):Nat):Int) - 1:=C3 rfl (by omega) (by omega)
     have hno:=A3a (Γ:=Γ) hP8' (by omega) hd8 (p1,p2,p3,p4) { ex0 with op:=-op,a:=((st.o.length+(z.o.length - x.o.length):Nat):Int) - 1,b:=(tz.o.length:Int) - 1 } 1 [((st.o.length+(z.o.length - x.o.length):Nat):Int) - 1,(tz.o.length:Int) - 1] (by
      intro i hi;rw [hd8];rcases List.mem_cons.1 hi with rfl|hi
      ·omega
      ·rw [List.mem_singleton] at hi;subst hi;omega) (by simp)
     repeat' ((first|exact pru|(refine brS (fun h=>?_) (fun h=>?_)<;>(try rw [h])<;>(try simp only [bS,↓reduceIte] at h))|(refine A4 hb9 ?_)|(rw [hl3])|(rw [hwn])|(rw [hw1])|(rw [hw2])|(refine AWp.anyC (id:=17) [73,78] [80] (by kernel_rfl) (by kernel_rfl) (by kernel_rfl) (by kernel_rfl) ?_)|(refine ⟨trivial,?_⟩)|(refine A83.mk _ hla ?_)|(refine A4 hb8 ?_)|(rw [hw3])|(refine A0.by hno ?_;intro v s9 hv9)|refine gS ?_|refine aA ?_|refine nA ?_|fail)<;>(conv=>whnf))
     have hst:(⟨z.a,tz.o,tz.d,z.k⟩:St)=tz:=by rw [← ta,← tk]
     rw [hst,t7] at hv9
     rcases Q5 hv9 with rfl|⟨t9,e9,rfl⟩
     ·conv=>whnf
      refine wp ?_;(refine ⟨trivial,?_⟩);refine wp ?_
      exact ⟨_,Sub.refl _,hv9⟩
     ·conv=>whnf
      refine wp ?_;(refine ⟨trivial,?_⟩);refine wp ?_
      exact ⟨_,Sub.refl _,hv9⟩
    ·rw [if_neg hneg]
     obtain ⟨hP8,hb8⟩:=hP6.drop c5
     have hla:=A6c (Γ:=Γ) hP8 (by omega)
     have hw9:IntKind.i64.wrap ((x.o.length:Int) - 1)=(x.o.length:Int) - 1:=C3 rfl (by omega) (by omega)
     have hno:=A3a (Γ:=Γ) hP8 (by omega) z1.hd (p1,p2,p3,p4) { ex0 with op:=op,a:=(x.o.length:Int) - 1,b:=(z.o.length:Int) - 1 } 1 [(x.o.length:Int) - 1,(z.o.length:Int) - 1] (by
      intro i hi;rw [z1.hd];rcases List.mem_cons.1 hi with rfl|hi
      ·omega
      ·rw [List.mem_singleton] at hi;subst hi;omega) (by simp)
     repeat' ((first|exact pru|(refine brS (fun h=>?_) (fun h=>?_)<;>(try rw [h])<;>(try simp only [bS,↓reduceIte] at h))|(refine AWp.anyC (id:=17) [73,78] [80] (by kernel_rfl) (by kernel_rfl) (by kernel_rfl) (by kernel_rfl) ?_)|(refine ⟨trivial,?_⟩)|(refine A83.mk _ hla ?_)|(refine A4 hb8 ?_)|(rw [hl2])|(rw [hw9])|(refine A0.by hno ?_;intro v s9 hv9)|refine gS ?_|refine aA ?_|refine nA ?_|fail)<;>(conv=>whnf))
     rcases Q5 hv9 with rfl|⟨t9,e9,rfl⟩
     ·conv=>whnf
      refine wp ?_;(refine ⟨trivial,?_⟩);refine wp ?_
      exact ⟨_,Sub.refl _,hv9⟩
     ·conv=>whnf
      refine wp ?_;(refine ⟨trivial,?_⟩);refine wp ?_
      exact ⟨_,Sub.refl _,hv9⟩
end
end Go.Proofs.YticnkpgmmpenlaaGreatDoor.Pa
