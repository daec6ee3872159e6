/- Part 6 of what the closing text needs: PrH, PrP, TrN, TrO, PrQ, PrR, TrR, PrS, PqM, PqN, PqO, PqP, PqQ, PqR, TrF, PrL. No condition of mine beyond those that the theorems name. -/
import Derived.Test.YticnkpgmmpenlaaGreatDoorG5
import Derived.Lib.Join
set_option maxRecDepth 10000
set_option maxHeartbeats 60000000
set_option linter.all false
namespace Go.Proofs.YticnkpgmmpenlaaGreatDoor.Pr
open Go Go.Ab Go.RowKit Go.Proofs.YticnkpgmmpenlaaGreatDoor.Lx Go.Proofs.YticnkpgmmpenlaaGreatDoor.Pa
def H6 (n:Nat) (t:Xt):Xt:=if t.lev < n then .par t else t
def B5z (x:Tr.Ex) (A B:Xt):Xt :=
 if x.1=1 then .con x.2.2.2.2.1
 else if x.1=17 then .nam x.2.2.2.1
 else if x.1=4 then .una 4 (H6 3 A)
 else if x.1=5 then .una 5 (if A.bare=true then .par A else H6 7 A)
 else .bin x.1 (H6 (if lvl x.1=4 then 5 else lvl x.1) A) (H6 (lvl x.1+1) B)
def H4 (l:List Tr.Ex):Nat→Nat→Xt
 | 0,_=>.nam []
 | f+1,i=>B5z (l.getD i Tr.G2) (H4 l f (l.getD i Tr.G2).2.1.toNat) (H4 l f (l.getD i Tr.G2).2.2.1.toNat)
def coreT (x:Tr.Ex):Xt.D0s:=(x.1,x.2.1,x.2.2.1,x.2.2.2.1,x.2.2.2.2.1)
section
variable {n:Nat} {t:Xt}
theorem A8f:(H6 n t).dep=t.dep:=by unfold H6;split<;>rfl
theorem A62 {k:Nat}:(H6 n t).cores k=t.cores k:=by unfold H6;split<;>rfl
theorem A8e:(H6 n t).cnt=t.cnt:=by unfold H6;split<;>rfl
theorem B38 (h:t.Ok):(H6 n t).Ok:=by unfold H6;split<;>exact h
theorem A63 (h:t.Lexed):(H6 n t).Lexed:=by unfold H6;split<;>exact h
theorem B1u (h:n≤8):n≤(H6 n t).lev:=by
 unfold H6;split
 ·exact h
 ·omega
theorem B1v:(H6 n t).opn≤t.opn+1:=by
 unfold H6;split
 ·exact Nat.le_refl _
 ·omega
theorem D0r (h:t.bare=false):(H6 n t).bare=false:=by
 unfold H6;split
 ·rfl
 ·exact h
theorem A8g:(H6 n t).txt.length≤t.txt.length+2:=by
 unfold H6;split
 ·show (40::(t.txt++[41])).length≤_
  simp
 ·omega
end
theorem W1 {v:Tr.Vl} (h:Tr.W0 v=true) (hf:Nu.Q7 v.2.1):Xt.C1q v∧v.2.2.1.length≤4096∧A93 v=Va.A3a v:=by
 have hr:Va.right v=true:=h
 have e:Va.A3a v=A93 v:=by
  unfold Va.A3a;rw [if_pos hr];rfl
 refine ⟨?_,?_,e.symm⟩
 ·unfold Tr.W0 at h
  unfold Nu.Q7 at hf
  obtain ⟨k,n,s,t⟩:=v
  unfold Xt.C1q
  grind
 ·unfold Tr.W0 at h
  obtain ⟨k,n,s,t⟩:=v
  grind
theorem B7d {v:Tr.Vl} (h:Tr.W0 v=true) (hf:Nu.Q7 v.2.1) {m:Nat} (hm:v.2.2.1.length≤m):(A93 v).length≤4 * m+30:=by
 unfold A93
 split
 ·have:=Lib.itoa_length_le v.2.1 hf.1 hf.2
  omega
 ·split
  ·have:=Qu.C94 v.2.2.1
   omega
  ·split
   ·show 4≤_;omega
   ·show 5≤_;omega
theorem K1 {s:List UInt8} (h:Sc.D4 s=true):s≠[95]∧s.length≤32∧s.all (fun c=>Sc.K9 c.toNat)=true∧s≠[]∧F4 s=.ok (1,s):=by
 unfold Sc.D4 at h
 simp only [Bool.and_eq_true,Bool.not_eq_true',decide_eq_false_iff_not] at h
 obtain ⟨⟨h1,h2⟩,h3⟩:=h
 unfold Sc.spelt at h1
 simp only [Bool.and_eq_true,decide_eq_true_eq,Bool.not_eq_true'] at h1
 obtain ⟨⟨⟨h4,h5⟩,h6⟩,h7⟩:=h1
 refine ⟨h3,h5,h7,fun e=>by rw [e] at h4;exact absurd h4 (by decide),?_⟩
 unfold F4
 have hd:digB (B9 s 0)=false:=by
  unfold digB A6h
  rw [Bool.and_eq_false_iff] at h6 ⊢
  simp only [decide_eq_false_iff_not] at h6 ⊢
  omega
 rw [if_neg (by rw [hd];decide),if_neg (by omega),if_neg (by rw [h2];decide)]
abbrev ndN (l:List Tr.Ex) (i:Nat):Int × Int:=Tr.nd Sc.D4 l i
theorem A8v {l:List Tr.Ex} {i:Nat} (h:i < l.length):0≤(ndN l i).1∧(ndN l i).1≤i+1∧0≤(ndN l i).2∧(ndN l i).2≤i+1:=Tr.A1k Sc.D4 l h
theorem D2h {l:List Tr.Ex} {i:Nat} (hi:i < l.length) (hpos:0 < (ndN l i).1) :
  (∃ v ln cl,l.getD i Tr.G2=(1,0,0,[],v,ln,cl)∧Tr.W0 v=true∧ndN l i=(1,1)) ∨
  (∃ s ln cl,l.getD i Tr.G2=(17,0,0,s,Tr.R5,ln,cl)∧Sc.D4 s=true∧ndN l i=(1,1)) ∨
  (∃ op ln cl,(op=4∨op=5)∧l.getD i Tr.G2=(op,((i - 1:Nat):Int),0,[],Tr.R5,ln,cl)∧1≤i∧0 < (ndN l (i - 1)).1∧ndN l i=((ndN l (i - 1)).1+1,(ndN l (i - 1)).2+1)) ∨
  (∃ op,∃ j:Nat,∃ ln cl,(6≤op∧op≤16)∧l.getD i Tr.G2=(op,(j:Int),((i - 1:Nat):Int),[],Tr.R5,ln,cl)∧j < i∧0 < (ndN l (i - 1)).1∧0 < (ndN l j).1∧(j:Int)=(i:Int) - 1 - (ndN l (i - 1)).1∧ndN l i=((ndN l j).1+(ndN l (i - 1)).1+1,max (ndN l j).2 (ndN l (i - 1)).2+1)):=by
 obtain ⟨x,hx⟩:∃ x,l.getD i Tr.G2=x:=⟨_,rfl⟩
 obtain ⟨p,hp⟩:∃ p,ndN l (i - 1)=p:=⟨_,rfl⟩
 obtain ⟨a,ha⟩:∃ a:Int,a=(i:Int) - 1 - p.1:=⟨_,rfl⟩
 obtain ⟨q,hq⟩:∃ q,ndN l a.toNat=q:=⟨_,rfl⟩
 have hnode:=Tr.C7a (nm:=Sc.D4) hi hx hp ha hq
 have hpb:=A8v (l:=l) (i:=i - 1) (by omega)
 rw [hp] at hpb
 have hnode:ndN l i=_:=hnode
 rw [hnode] at hpos ⊢
 rw [hx,hp]
 obtain ⟨xo,xa,xb,xn,xv,xl,xc⟩:=x
 simp only at hpos ⊢
 by_cases h1:Tr.A4x Sc.D4 (xo,xa,xb,xn,xv,xl,xc)=true
 ·rw [if_pos h1]
  unfold Tr.A4x at h1
  simp only at h1
  split at h1
  ·cases h1
  ·rename_i h0
   have ha0:xa=0:=by omega
   have hb0:xb=0:=by omega
   split at h1
   ·rename_i h2
    rw [Bool.and_eq_true,decide_eq_true_eq] at h1
    exact .inl ⟨xv,xl,xc,by rw [h2,ha0,hb0,h1.1],h1.2,rfl⟩
   ·rw [Bool.and_eq_true,decide_eq_true_eq,Bool.and_eq_true,decide_eq_true_eq] at h1
    exact .inr (.inl ⟨xn,xl,xc,by rw [h1.1,ha0,hb0,h1.2.1],h1.2.2,rfl⟩)
 rw [if_neg h1] at hpos ⊢
 by_cases h2:xo < 4∨16 < xo∨xn≠[]∨xv≠Tr.R5∨i=0∨p.1=0
 ·rw [if_pos h2] at hpos;exact absurd hpos (by decide)
 rw [if_neg h2] at hpos ⊢
 have hnm:xn=[]:=Classical.byContradiction fun h=>h2 (.inr (.inr (.inl h)))
 have hvl:xv=Tr.R5:=Classical.byContradiction fun h=>h2 (.inr (.inr (.inr (.inl h))))
 have hi0:¬ i=0:=by omega
 by_cases h3:xo≤5
 ·rw [if_pos h3] at hpos ⊢
  by_cases h4:xa=(i:Int) - 1∧xb=0
  ·rw [if_pos h4]
   refine .inr (.inr (.inl ⟨xo,xl,xc,by omega,?_,by omega,by omega,rfl⟩))
   rw [hnm,hvl,h4.2,h4.1,show (i:Int) - 1=((i - 1:Nat):Int) by omega]
  ·rw [if_neg h4] at hpos;exact absurd hpos (by decide)
 ·rw [if_neg h3] at hpos ⊢
  by_cases h4:xb=(i:Int) - 1∧xa=a∧0≤a∧0 < q.1
  ·rw [if_pos h4]
   obtain ⟨h41,h42,h43,h44⟩:=h4
   refine .inr (.inr (.inr ⟨xo,a.toNat,xl,xc,by omega,?_,by omega,by omega,by rw [hq];exact h44,by omega,by rw [hq]⟩))
   rw [hnm,hvl,h41,h42,show (i:Int) - 1=((i - 1:Nat):Int) by omega,show ((a.toNat:Nat):Int)=a by omega]
  ·rw [if_neg h4] at hpos;exact absurd hpos (by decide)
theorem D6b {l:List Tr.Ex} {i:Nat} (hi:i < l.length) (h0:(ndN l i).1=0):(ndN l i).2=0:=by
 obtain ⟨x,hx⟩:∃ x,l.getD i Tr.G2=x:=⟨_,rfl⟩
 obtain ⟨p,hp⟩:∃ p,ndN l (i - 1)=p:=⟨_,rfl⟩
 obtain ⟨a,ha⟩:∃ a:Int,a=(i:Int) - 1 - p.1:=⟨_,rfl⟩
 obtain ⟨q,hq⟩:∃ q,ndN l a.toNat=q:=⟨_,rfl⟩
 have hnode:=Tr.C7a (nm:=Sc.D4) hi hx hp ha hq
 have hpb:=A8v (l:=l) (i:=i - 1) (by omega)
 rw [hp] at hpb
 have hnode:ndN l i=_:=hnode
 rw [hnode] at h0 ⊢
 split
 ·rename_i h;rw [if_pos h] at h0;cases h0
 ·rename_i h
  rw [if_neg h] at h0
  split
  ·rfl
  ·rename_i h
   rw [if_neg h] at h0
   split
   ·rename_i h
    rw [if_pos h] at h0
    split
    ·rename_i h;rw [if_pos h] at h0;simp only at h0;omega
    ·rfl
   ·rename_i h
    rw [if_neg h] at h0
    split
    ·rename_i h;rw [if_pos h] at h0;simp only at h0;omega
    ·rfl
section
variable {l:List Tr.Ex} {f i j k:Nat} {op a b:Int} {nm:List UInt8} {v:Tr.Vl} {ln cl:Int}
theorem B63 (h:l.getD i Tr.G2=(1,a,b,nm,v,ln,cl)):H4 l (f+1) i=.con v:=by
 show B5z (l.getD i Tr.G2) (H4 l f (l.getD i Tr.G2).2.1.toNat) (H4 l f (l.getD i Tr.G2).2.2.1.toNat)=_
 rw [h];rfl
theorem B64 (h:l.getD i Tr.G2=(17,a,b,nm,v,ln,cl)):H4 l (f+1) i=.nam nm:=by
 show B5z (l.getD i Tr.G2) (H4 l f (l.getD i Tr.G2).2.1.toNat) (H4 l f (l.getD i Tr.G2).2.2.1.toNat)=_
 rw [h];rfl
theorem B66 (h:l.getD i Tr.G2=(4,(j:Int),b,nm,v,ln,cl)):H4 l (f+1) i=.una 4 (H6 3 (H4 l f j)):=by
 show B5z (l.getD i Tr.G2) (H4 l f (l.getD i Tr.G2).2.1.toNat) (H4 l f (l.getD i Tr.G2).2.2.1.toNat)=_
 rw [h];rfl
theorem B65 (h:l.getD i Tr.G2=(5,(j:Int),b,nm,v,ln,cl)):H4 l (f+1) i=.una 5 (if (H4 l f j).bare=true then .par (H4 l f j) else H6 7 (H4 l f j)):=by
 show B5z (l.getD i Tr.G2) (H4 l f (l.getD i Tr.G2).2.1.toNat) (H4 l f (l.getD i Tr.G2).2.2.1.toNat)=_
 rw [h];rfl
theorem B62 (hop:6≤op∧op≤16) (h:l.getD i Tr.G2=(op,(j:Int),(k:Int),nm,v,ln,cl)):H4 l (f+1) i=.bin op (H6 (if lvl op=4 then 5 else lvl op) (H4 l f j)) (H6 (lvl op+1) (H4 l f k)):=by
 show B5z (l.getD i Tr.G2) (H4 l f (l.getD i Tr.G2).2.1.toNat) (H4 l f (l.getD i Tr.G2).2.2.1.toNat)=_
 rw [h]
 unfold B5z
 simp only
 rw [if_neg (by omega),if_neg (by omega),if_neg (by omega),if_neg (by omega)];rfl
theorem D71 (t:Xt):t.lev < 9:=by
 have h:∀ o:Int,lvl o < 9:=by
  intro o
  unfold lvl
  repeat' split
  all_goals decide
 cases t with
 | una o _=>exact h o
 | bin o _ _=>exact h o
 | _=>show 8 < 9;decide
end
structure D7c (l:List Tr.Ex) (i:Nat) (t:Xt) (n d:Int) (m:Nat):Prop where
 ok:t.Ok
 lexed:t.Lexed
 op:(l.getD i Tr.G2).1=1∨(l.getD i Tr.G2).1=17∨(4≤(l.getD i Tr.G2).1∧(l.getD i Tr.G2).1≤16)
 lev:t.lev=lvl (l.getD i Tr.G2).1
 bare:t.bare=(decide ((l.getD i Tr.G2).1=1) && (decide ((l.getD i Tr.G2).2.2.2.2.1.1=1) && decide (0≤(l.getD i Tr.G2).2.2.2.2.1.2.1)))
 cores:t.cores (i+1 - n.toNat)=((l.drop (i+1 - n.toNat)).take n.toNat).map coreT
 cnt:(t.cnt:Int)=n
 fits:n≤i+1
 dep:(t.dep:Int)=d
 opn:t.opn+2≤2 * t.dep
 len:t.txt.length≤n.toNat * (4 * m+40)
theorem C3z {α:Type} {l:List α} {i:Nat} (d:α) (h:i < l.length):(l.drop i).take 1=[l.getD i d]:=by
 rw [List.drop_eq_getElem_cons h,List.take_succ_cons,List.take_zero,List.getD_eq_getElem?_getD,List.getElem?_eq_getElem h];rfl
theorem B2o (op:Int):(A2y op).length≤3:=by
 unfold A2y
 have:∀ x ∈ B9k,x.length≤3:=by decide
 rw [List.getD_eq_getElem?_getD]
 cases h:B9k[(op - 6).toNat]? with
 | none=>decide
 | some x=>exact this x (List.mem_of_getElem? h)
theorem D73 (op:Int) (h:6≤op∧op≤16):lvl op+1≤8∧(if lvl op=4 then 5 else lvl op)≤8:=by
 have:=B50 h
 split<;>omega
theorem fine (l:List Tr.Ex) (m:Nat) (hm:40≤m) (hf:∀ x ∈ l,Nu.Q7 x.2.2.2.2.1.2.1∧x.2.2.2.2.1.2.2.1.length≤m):∀ (f i:Nat),i < f→i < l.length→0 < (ndN l i).1→D7c l i (H4 l f i) (ndN l i).1 (ndN l i).2 m
 | 0,i,h,_,_=>by omega
 | f+1,i,h,hi,hpos=>by
  have ih:=fun j (hj:j < i) (hp:0 < (ndN l j).1)=>fine l m hm hf f j (by omega) (by omega) hp
  have hmem:=hf _ (Tr.D9 Tr.G2 hi)
  have hone:((l.drop (i+1 - (1:Int).toNat)).take (1:Int).toNat).map coreT=[coreT (l.getD i Tr.G2)]:=by
   rw [show i+1 - (1:Int).toNat=i from rfl,show (1:Int).toNat=1 from rfl,C3z Tr.G2 hi];rfl
  have hcut:=C3z Tr.G2 hi
  rcases D2h hi hpos with ⟨v,ln,cl,hx,hv,hn⟩|⟨s,ln,cl,hx,hs,hn⟩|⟨op,ln,cl,hop,hx,h1,hp,hn⟩|⟨op,j,ln,cl,hop,hx,hj,hp,hq,hjp,hn⟩
  ·rw [hx] at hmem hone
   obtain ⟨h3,h4,_⟩:=W1 hv hmem.1
   rw [B63 hx,hn]
   refine ⟨h3,h4,by rw [hx];exact .inl rfl,by rw [hx];rfl,by rw [hx];rfl,by rw [hone];rfl,rfl,by show (1:Int)≤_;omega,rfl,by show 0+2≤2 * 1;decide,?_⟩
   have:=B7d hv hmem.1 hmem.2
   show (A93 v).length≤1 * _
   omega
  ·rw [hx] at hone
   obtain ⟨n1,n2,n3,n4,n5⟩:=K1 hs
   rw [B64 hx,hn]
   refine ⟨n1,⟨n3,n4,n5⟩,by rw [hx];exact .inr (.inl rfl),by rw [hx];rfl,by rw [hx];rfl,by rw [hone];rfl,rfl,by show (1:Int)≤_;omega,rfl,by show 0+2≤2 * 1;decide,?_⟩
   show s.length≤1 * _
   omega
  ·have hB:=ih (i - 1) (by omega) hp
   rw [hn]
   obtain ⟨p,hpp⟩:∃ p,ndN l (i - 1)=p:=⟨_,rfl⟩
   rw [hpp] at hB hp ⊢
   have hbf:=hB.fits
   have hbc:=hB.cnt
   have hdp:=hB.dep
   have ho:=hB.opn
   have hl:=hB.len
   have hlen:(p.1+1).toNat * (4 * m+40)=p.1.toNat * (4 * m+40)+(4 * m+40):=by
    rw [show (p.1+1).toNat=p.1.toNat+1 by omega,Nat.succ_mul]
   have hcores:∀ C:Xt,C.cores (i+1 - (p.1+1).toNat)=(H4 l f (i - 1)).cores (i+1 - (p.1+1).toNat)→C.cnt=(H4 l f (i - 1)).cnt→(Xt.una op C).cores (i+1 - (p.1+1).toNat)=((l.drop (i+1 - (p.1+1).toNat)).take (p.1+1).toNat).map coreT:=fun C hC hC2=>by
    show C.cores _++[(op,((i+1 - (p.1+1).toNat+C.cnt:Nat):Int) - 1,0,[],Xt.none)]=_
    have hb:=hB.cores
    rw [show i - 1+1 - p.1.toNat=i+1 - (p.1+1).toNat by omega] at hb
    rw [hC,hC2,hb,show (p.1+1).toNat=p.1.toNat+1 by omega,List.take_add,List.drop_drop,List.map_append,show i+1 - (p.1.toNat+1)+p.1.toNat=i by omega,hcut,hx]
    have e:((i+1 - (p.1.toNat+1)+(H4 l f (i - 1)).cnt:Nat):Int) - 1=((i - 1:Nat):Int):=by omega
    rw [e];rfl
   rcases hop with rfl|rfl
   ·rw [B66 hx]
    generalize H4 l f (i - 1)=A at *
    have w1:=B1v (n:=3) (t:=A)
    have w2:=A8g (n:=3) (t:=A)
    refine ⟨⟨.inl ⟨rfl,B1u (by decide)⟩,B38 hB.ok⟩,A63 hB.lexed,by rw [hx];exact .inr (.inr ⟨by simp,by simp⟩),by rw [hx];rfl,by rw [hx];rfl,hcores _ A62 A8e,?_,by show p.1+1≤_;omega,?_,?_,?_⟩
    ·show (((H6 3 A).cnt+1:Nat):Int)=_
     rw [A8e];omega
    ·show (((H6 3 A).dep+1:Nat):Int)=_
     rw [A8f];omega
    ·show (H6 3 A).opn+1+2≤2 * ((H6 3 A).dep+1)
     rw [A8f];omega
    ·show (110::111::116::32::(H6 3 A).txt).length≤_
     simp only [List.length_cons]
     omega
   ·rw [B65 hx]
    generalize H4 l f (i - 1)=A at *
    obtain ⟨C,hC,c1,c2,c3,c4,c5,c6,c7,c8,c9⟩:∃ C:Xt,(if A.bare=true then .par A else H6 7 A)=C∧7≤C.lev∧C.bare=false∧C.Ok∧C.Lexed∧(∀ k,C.cores k=A.cores k)∧C.dep=A.dep∧C.opn≤A.opn+1∧C.txt.length≤A.txt.length+2∧C.cnt=A.cnt:=by
     refine ⟨_,rfl,?_⟩
     by_cases hb:A.bare=true
     ·rw [if_pos hb]
      exact ⟨by show 7≤8;decide,rfl,hB.ok,hB.lexed,fun _=>rfl,rfl,Nat.le_refl _,by show (40::(A.txt++[41])).length≤_;simp,rfl⟩
     ·rw [if_neg hb]
      exact ⟨B1u (by decide),D0r (by simpa using hb),B38 hB.ok,A63 hB.lexed,fun _=>A62,A8f,B1v,A8g,A8e⟩
    rw [hC]
    refine ⟨⟨.inr ⟨rfl,c1,c2⟩,c3⟩,c4,by rw [hx];exact .inr (.inr ⟨by simp,by simp⟩),by rw [hx];rfl,by rw [hx];rfl,hcores _ (c5 _) c9,?_,by show p.1+1≤_;omega,?_,?_,?_⟩
    ·show ((C.cnt+1:Nat):Int)=_
     rw [c9];omega
    ·show ((C.dep+1:Nat):Int)=_
     rw [c6];omega
    ·show C.opn+1+2≤2 * (C.dep+1)
     omega
    ·show (45::C.txt).length≤_
     simp only [List.length_cons]
     omega
  ·have hB:=ih (i - 1) (by omega) hp
   have hA:=ih j hj hq
   rw [hn]
   obtain ⟨p,hpp⟩:∃ p,ndN l (i - 1)=p:=⟨_,rfl⟩
   obtain ⟨q,hqq⟩:∃ q,ndN l j=q:=⟨_,rfl⟩
   rw [hpp] at hB hp hjp ⊢
   rw [hqq] at hA hq ⊢
   rw [B62 hop hx]
   generalize H4 l f (i - 1)=B at *
   generalize H4 l f j=A at *
   obtain ⟨l1,l2⟩:=D73 op hop
   have hl:=hB.len
   have ho:=hB.opn
   have hd:=hB.dep
   have hc:=hB.cnt
   have hfi:=hB.fits
   have kl:=hA.len
   have ko:=hA.opn
   have kd:=hA.dep
   have kc:=hA.cnt
   have kfi:=hA.fits
   have s3:=B2o op
   have hlen:(q.1+p.1+1).toNat * (4 * m+40)=q.1.toNat * (4 * m+40)+(p.1.toNat * (4 * m+40)+(4 * m+40)):=by
    rw [show (q.1+p.1+1).toNat=q.1.toNat+(p.1.toNat+1) by omega]
    generalize 4 * m+40=K
    rw [Nat.add_mul,Nat.add_mul,Nat.one_mul]
   have w1:=B1v (n:=(if lvl op=4 then 5 else lvl op)) (t:=A)
   have w2:=A8g (n:=(if lvl op=4 then 5 else lvl op)) (t:=A)
   have w3:=B1v (n:=lvl op+1) (t:=B)
   have w4:=A8g (n:=lvl op+1) (t:=B)
   have w5:=A8f (n:=(if lvl op=4 then 5 else lvl op)) (t:=A)
   have w6:=A8f (n:=lvl op+1) (t:=B)
   have w7:=fun k=>A62 (n:=(if lvl op=4 then 5 else lvl op)) (t:=A) (k:=k)
   have w8:=fun k=>A62 (n:=lvl op+1) (t:=B) (k:=k)
   have w9:=B1u (t:=A) l2
   have w10:=B1u (t:=B) l1
   have w11:=B38 (n:=(if lvl op=4 then 5 else lvl op)) hA.ok
   have w12:=B38 (n:=lvl op+1) hB.ok
   have w13:=A63 (n:=(if lvl op=4 then 5 else lvl op)) hA.lexed
   have w14:=A63 (n:=lvl op+1) hB.lexed
   have w15:=A8e (n:=(if lvl op=4 then 5 else lvl op)) (t:=A)
   have w16:=A8e (n:=lvl op+1) (t:=B)
   generalize H6 (if lvl op=4 then 5 else lvl op) A=A' at *
   generalize H6 (lvl op+1) B=B' at *
   refine ⟨⟨hop.1,hop.2,w9,w10,w11,w12⟩,⟨w13,w14⟩,by rw [hx];exact .inr (.inr ⟨by simp only;omega,hop.2⟩),by rw [hx];rfl,by rw [hx,decide_eq_false (by simp only;omega)];rfl,?_,?_,by show q.1+p.1+1≤_;omega,?_,?_,?_⟩
   ·show A'.cores _++(B'.cores (i+1 - (q.1+p.1+1).toNat+A'.cnt)++[(op,((i+1 - (q.1+p.1+1).toNat+A'.cnt:Nat):Int) - 1,((i+1 - (q.1+p.1+1).toNat+A'.cnt+B'.cnt:Nat):Int) - 1,[],Xt.none)])=_
    have hbc:=hB.cores
    have hac:=hA.cores
    have e0:i+1 - (q.1+p.1+1).toNat=j+1 - q.1.toNat:=by omega
    have e1:j+1 - q.1.toNat+A'.cnt=j+1:=by omega
    have e2:j+1+B'.cnt=i:=by omega
    have e3:i - 1+1 - p.1.toNat=j+1:=by omega
    rw [e3] at hbc
    rw [e0,e1,e2,w7,w8,hac,hbc,show (q.1+p.1+1).toNat=q.1.toNat+(p.1.toNat+1) by omega,List.take_add,List.drop_drop,List.take_add,List.drop_drop,List.map_append,List.map_append,show j+1 - q.1.toNat+q.1.toNat=j+1 by omega,show j+1+p.1.toNat=i by omega,hcut,hx]
    have e4:((j+1:Nat):Int) - 1=(j:Int):=by omega
    have e5:(i:Int) - 1=((i - 1:Nat):Int):=by omega
    rw [e4,e5];rfl
   ·show ((A'.cnt+B'.cnt+1:Nat):Int)=_
    omega
   ·show (((if B'.dep > A'.dep then B'.dep else A'.dep)+1:Nat):Int)=_
    split<;>omega
   ·show (if B'.opn > A'.opn then B'.opn else A'.opn)+2≤2 * ((if B'.dep > A'.dep then B'.dep else A'.dep)+1)
    split<;>split<;>omega
   ·show (A'.txt++32::(A2y op++32::B'.txt)).length≤_
    simp only [List.length_append,List.length_cons]
    omega
structure R8 (l:List Tr.Ex) (m:Nat):Prop where
 lo:40≤m
 hi:m≤5000
 len:l.length≤1000000
 val:∀ x ∈ l,Nu.Q7 x.2.2.2.2.1.2.1∧x.2.2.2.2.1.2.2.1.length≤m
theorem R8.fine {l:List Tr.Ex} {m f i:Nat} (h:R8 l m) (hf:i < f) (hi:i < l.length) (hp:0 < (ndN l i).1):D7c l i (H4 l f i) (ndN l i).1 (ndN l i).2 m:=Pr.fine l m h.lo h.val f i hf hi hp
theorem R8.short {l:List Tr.Ex} {m f i:Nat} (h:R8 l m) (hf:i < f) (hi:i < l.length) (hp:0 < (ndN l i).1):(H4 l f i).txt.length≤900000000000:=by
 have h1:=(h.fine hf hi hp).len
 have h2:=A8v hi
 have h3:=h.len
 have h4:=h.hi
 have:(ndN l i).1.toNat * (4 * m+40)≤1000001 * 20040:=Nat.mul_le_mul (by omega) (by omega)
 omega
theorem R8.wrap {l:List Tr.Ex} {m f i n:Nat} (h:R8 l m) (hf:i < f) (hi:i < l.length) (hp:0 < (ndN l i).1):(H6 n (H4 l f i)).txt.length≤1000000000000:=by
 have h1:=h.short hf hi hp
 have h2:=A8g (n:=n) (t:=H4 l f i)
 omega
abbrev Tkn:=Int × List UInt8
def H3:List (List UInt8)→List UInt8
 | []=>[]
 | [x]=>x
 | x::y::r=>x++44::32::H3 (y::r)
def Q3:List (List Tkn)→List Tkn
 | []=>[]
 | [x]=>x
 | x::y::r=>x++(5,[44])::Q3 (y::r)
theorem A8r:∀ l:List (List UInt8),Lib.join l [44,32]=H3 l
 | []=>rfl
 | [x]=>Lib.join_one x _
 | x::y::r=>by
  have ih:=A8r (y::r)
  rw [Lib.join_cons] at ih ⊢
  show x++((([44,32]:List UInt8)++y)++Lib.joinTail [44,32] r)=x++44::32::H3 (y::r)
  rw [← ih];simp
def Q4 (k:Int):List UInt8:=if k=1 then [105,110,116] else if k=2 then [115,116,114,105,110,103] else [98,111,111,108]
def A0w (a:Tr.Ar):List UInt8:=if a.1=1 then A93 a.2.2.1 else if a.1=2 then a.2.1 else [95]
def A5h (a:Tr.Ar):List Tkn:=if a.1=1 then A07 a.2.2.1 else if a.1=2 then [(1,a.2.1)] else [(1,[95])]
def U8 (s:Tr.Sy):List UInt8:=s.1++40::(H3 (s.2.1.map A0w)++[41])
def A19 (s:Tr.Sy):List Tkn:=(1,s.1)::(5,[40])::(Q3 (s.2.1.map A5h)++[(5,[41])])
def A2n (d:Tr.De):List UInt8:=A0k++32::(d.1.1++40::(H3 (d.2.map Q4)++[41]))
def B0i (d:Tr.De):List Tkn:=(2,A0k)::(1,d.1.1)::(5,[40])::(Q3 (d.2.map fun k=>[(2,Q4 k)])++[(5,[41])])
def V9 (q:Tr.Qu):List UInt8:=(if q.1=true then wForall else S8)++32::(q.2.1.1++58::32::Q4 q.2.2)
def A6v (q:Tr.Qu):List Tkn:=[(2,if q.1=true then wForall else S8),(1,q.2.1.1),(5,[58]),(2,Q4 q.2.2)]
def A1e (f:Tr.Fr):List UInt8:=A3f++32::(f.1.1++32::61::32::A93 f.2)
def B0q (f:Tr.Fr):List Tkn:=(2,A3f)::(1,f.1.1)::(5,[61])::A07 f.2
def W3 (s:Tr.St):List UInt8:=(if s.2.1=true then wNext else A21)++32::(s.1.1++if s.2.2=true then 32::R4 else [])
def A60 (s:Tr.St):List Tkn:=(2,if s.2.1=true then wNext else A21)::(1,s.1.1)::if s.2.2=true then [(2,R4)] else []
def gx (l:List Tr.Ex) (i:Int):Xt:=H4 l (i.toNat+1) i.toNat
def X3 (l:List Tr.Ex) (s:Tr.Se):List UInt8:=s.1.1++32::61::32::(gx l s.2).txt
def A89 (l:List Tr.Ex) (s:Tr.Se):List Tkn:=(1,s.1.1)::(5,[61])::(gx l s.2).toks
def wOn:List UInt8:=[111,110]
def wIf:List UInt8:=[105,102]
def wDo:List UInt8:=[100,111]
def wTo:List UInt8:=[116,111]
def toS (t:Tr.Tn):List UInt8:=32::(wTo++32::t.2.1.1)
def toT (t:Tr.Tn):List Tkn:=[(2,wTo),(1,t.2.1.1)]
def doS (t:Tr.Tn):List UInt8:=if t.2.2.2.2.2=[] then toS t else 32::(wDo++32::(H3 (t.2.2.2.2.2.map (X3 t.2.2.2.1))++toS t))
def doT (t:Tr.Tn):List Tkn:=if t.2.2.2.2.2=[] then toT t else (2,wDo)::(Q3 (t.2.2.2.2.2.map (A89 t.2.2.2.1))++toT t)
def ifS (t:Tr.Tn):List UInt8:=if 0≤t.2.2.2.2.1 then 32::(wIf++32::((gx t.2.2.2.1 t.2.2.2.2.1).txt++doS t)) else doS t
def ifT (t:Tr.Tn):List Tkn:=if 0≤t.2.2.2.2.1 then (2,wIf)::((gx t.2.2.2.1 t.2.2.2.2.1).toks++doT t) else doT t
def G5 (t:Tr.Tn):List UInt8:=t.1.1++32::(wOn++32::(U8 t.2.2.1++ifS t))
def A0j (t:Tr.Tn):List Tkn:=(1,t.1.1)::(2,wOn)::(A19 t.2.2.1++ifT t)
def A0n (s:List UInt8):List UInt8:=s++[10]
section
variable {α:Type}
def J6 (S:α→List UInt8) (l:List α):List UInt8:=l.flatMap fun x=>A0n (S x)
def M4 (T:α→List Tkn) (l:List α):List Tkn:=l.flatMap T
end
def X9 (x:Tr.Tr0):List UInt8 :=
 A0n (B1r++32::x.1.1)++(J6 (fun d:Nat × Tr.De=>A2n d.2) x.2.1++(J6 V9 x.2.2.1++(J6 A1e x.2.2.2.1++(J6 W3 x.2.2.2.2.1++(A0n (X5++32::x.2.2.2.2.2.1.1)++(J6 (fun s:Nat × Tr.Sy=>R7++32::U8 s.2) x.2.2.2.2.2.2.1++J6 (fun t:(Nat × Nat × Nat) × Tr.Tn=>G5 t.2) x.2.2.2.2.2.2.2))))))
def C7t (x:Tr.Tr0):List Tkn :=
 (2,B1r)::(1,x.1.1)::(M4 (fun d:Nat × Tr.De=>B0i d.2) x.2.1++(M4 A6v x.2.2.1++(M4 B0q x.2.2.2.1++(M4 A60 x.2.2.2.2.1++(2,X5)::(1,x.2.2.2.2.2.1.1)::(M4 (fun s:Nat × Tr.Sy=>(2,R7)::A19 s.2) x.2.2.2.2.2.2.1++M4 (fun t:(Nat × Nat × Nat) × Tr.Tn=>A0j t.2) x.2.2.2.2.2.2.2)))))
def C37 (a:Tr.Ar):Prop:=(a.1=1∧a.2.1=[]∧Tr.W0 a.2.2.1=true∧Nu.Q7 a.2.2.1.2.1)∨(a.1=2∧Sc.D4 a.2.1=true∧a.2.2.1=Tr.R5)∨(a.1=3∧a.2.1=[]∧a.2.2.1=Tr.R5)
def B7m (s:Tr.Sy):Prop:=Sc.D4 s.1=true∧∀ a ∈ s.2.1,C37 a
def B4a (k:Int):Prop:=1≤k∧k≤3
def D4v (d:Tr.De):Prop:=Sc.D4 d.1.1=true∧∀ k ∈ d.2,B4a k
def D4x (q:Tr.Qu):Prop:=Sc.D4 q.2.1.1=true∧B4a q.2.2
def D4w (f:Tr.Fr):Prop:=Sc.D4 f.1.1=true∧Tr.W0 f.2=true∧Nu.Q7 f.2.2.1
def D4y (s:Tr.St):Prop:=Sc.D4 s.1.1=true
def Whole (l:List Tr.Ex) (lo:Nat) (i:Int):Prop:=(lo:Int)≤i∧i < l.length∧(ndN l i.toNat).1=i - lo+1∧(ndN l i.toNat).2≤64
def A25 (l:List Tr.Ex):Nat→List Tr.Se→Prop
 | lo,[]=>lo=l.length
 | lo,s::r=>Sc.D4 s.1.1=true∧Whole l lo s.2∧A25 l (s.2+1).toNat r
def C39 (t:Tr.Tn):Prop:=Sc.D4 t.1.1=true∧Sc.D4 t.2.1.1=true∧B7m t.2.2.1∧(∃ m,R8 t.2.2.2.1 m) ∧
 ((t.2.2.2.2.1 = -1∧A25 t.2.2.2.1 0 t.2.2.2.2.2)∨(Whole t.2.2.2.1 0 t.2.2.2.2.1∧A25 t.2.2.2.1 (t.2.2.2.2.1+1).toNat t.2.2.2.2.2))
structure C7w (x:Tr.Tr0):Prop where
 name:Sc.D4 x.1.1=true
 decls:∀ d ∈ x.2.1,D4v d.2
 quants:∀ q ∈ x.2.2.1,D4x q
 frees:∀ f ∈ x.2.2.2.1,D4w f
 states:∀ s ∈ x.2.2.2.2.1,D4y s
 start:Sc.D4 x.2.2.2.2.2.1.1=true
 also:∀ s ∈ x.2.2.2.2.2.2.1,B7m s.2
 trans:∀ t ∈ x.2.2.2.2.2.2.2,C39 t.2
section
variable {r:List UInt8} {R:List Tkn}
theorem H8 {c:UInt8} (h:Sc.K9 c.toNat=false):K5 (c::r)=0:=by rw [K5,if_neg (by rw [h];decide)]
theorem Y7 {s:List UInt8} (hs:Sc.D4 s=true) (hr:K5 r=0) (h:E0 r R):E0 (s++r) ((1,s)::R):=by
 obtain ⟨_,_,n3,n4,n5⟩:=K1 hs
 exact F0 n3 n4 n5 hr h
theorem D6q:M0 (44::r)=[44]:=by
 unfold M0 signsL
 simp [A1n,B57,B07]
theorem D6r:M0 (58::r)=[58]:=by
 unfold M0 signsL
 simp [A1n,B57,B07]
theorem D2m (h:E0 r R):E0 (61::32::r) ((5,[61])::R):=by
 refine T9 (by decide) (by decide) (by decide) (by decide) ?_ (E4 h)
 unfold M0 signsL
 simp [A1n,pfx]
theorem C88 (h:E0 r R):E0 (44::32::r) ((5,[44])::R):=T9 (by decide) (by decide) (by decide) (by decide) D6q (E4 h)
theorem C87 (h:E0 r R):E0 (58::32::r) ((5,[58])::R):=T9 (by decide) (by decide) (by decide) (by decide) D6r (E4 h)
theorem C2z (h:E0 r R):E0 (40::r) ((5,[40])::R):=T9 (by decide) (by decide) (by decide) (by decide) C7l h
theorem C20 (h:E0 r R):E0 (41::r) ((5,[41])::R):=T9 (by decide) (by decide) (by decide) (by decide) C7m h
theorem B01 {α:Type} {S:α→List UInt8} {T:α→List Tkn}:∀ (l:List α),(∀ x ∈ l,∀ r R,K5 r=0→E0 r R→E0 (S x++r) (T x++R))→∀ (r:List UInt8) (R:List Tkn),K5 r=0→E0 r R→E0 (H3 (l.map S)++r) (Q3 (l.map T)++R)
 | [],_,r,R,_,h=>h
 | [x],hx,r,R,hr,h=>hx x (List.mem_cons_self) r R hr h
 | x::y::l,hx,r,R,hr,h=>by
  have ih:=B01 (y::l) (fun z hz=>hx z (List.mem_cons_of_mem _ hz)) r R hr h
  have:=hx x List.mem_cons_self (44::32::(H3 ((y::l).map S)++r)) _ (H8 (by decide)) (C88 ih)
  show E0 ((S x++44::32::H3 ((y::l).map S))++r) ((T x++(5,[44])::Q3 ((y::l).map T))++R)
  rw [List.append_assoc,List.append_assoc]
  exact this
theorem C2y {k:Int} (_:B4a k) (hr:K5 r=0) (h:E0 r R):E0 (Q4 k++r) ((2,Q4 k)::R):=by
 unfold Q4
 split
 ·exact F0 (by decide) (by decide) (by kernel_rfl) hr h
 ·split
  ·exact F0 (by decide) (by decide) (by kernel_rfl) hr h
  ·exact F0 (by decide) (by decide) (by kernel_rfl) hr h
theorem C60 {v:Tr.Vl} (hv:Tr.W0 v=true) (hf:Nu.Q7 v.2.1) (hr:K5 r=0) (h:E0 r R):E0 (A93 v++r) (A07 v++R):=by
 obtain ⟨h1,h2,_⟩:=W1 hv hf
 exact B87 h1 h2 hr h
theorem D56 {a:Tr.Ar} (ha:C37 a) (hr:K5 r=0) (h:E0 r R):E0 (A0w a++r) (A5h a++R):=by
 unfold A0w A5h
 rcases ha with ⟨h1,_,h2,h3⟩|⟨h1,h2,_⟩|⟨h1,_⟩
 ·rw [if_pos h1,if_pos h1];exact C60 h2 h3 hr h
 ·rw [if_neg (by rw [h1];decide),if_pos h1,if_neg (by rw [h1];decide),if_pos h1];exact Y7 h2 hr h
 ·rw [if_neg (by rw [h1];decide),if_neg (by rw [h1];decide),if_neg (by rw [h1];decide),if_neg (by rw [h1];decide)]
  exact F0 (w:=[95]) (by decide) (by decide) (by kernel_rfl) hr h
theorem C6z {s:Tr.Sy} (hs:B7m s) (h:E0 r R):E0 (U8 s++r) (A19 s++R):=by
 have h1:=B01 (S:=A0w) (T:=A5h) s.2.1 (fun a ha r R hr h=>D56 (hs.2 a ha) hr h) (41::r) _ (H8 (by decide)) (C20 h)
 have h2:=Y7 hs.1 (H8 (by decide)) (C2z h1)
 unfold U8 A19
 simp only [List.append_assoc,List.cons_append,List.nil_append]
 exact h2
theorem D2l {d:Tr.De} (hd:D4v d) (h:E0 r R):E0 (A2n d++r) (B0i d++R):=by
 have h1:=B01 (S:=Q4) (T:=fun k=>[(2,Q4 k)]) d.2 (fun k hk r R hr h=>C2y (hd.2 k hk) hr h) (41::r) _ (H8 (by decide)) (C20 h)
 have h2:=E4 (Y7 hd.1 (H8 (by decide)) (C2z h1))
 have h3:=F0 (w:=A0k) (by decide) (by decide) (k:=2) (by kernel_rfl) (H8 (by decide)) h2
 unfold A2n B0i
 simp only [List.append_assoc,List.cons_append,List.nil_append]
 exact h3
theorem C89 {q:Tr.Qu} (hq:D4x q) (hr:K5 r=0) (h:E0 r R):E0 (V9 q++r) (A6v q++R):=by
 have h2:=E4 (Y7 hq.1 (H8 (by decide)) (C87 (C2y hq.2 hr h)))
 unfold V9 A6v
 simp only [List.append_assoc,List.cons_append,List.nil_append]
 split
 ·exact F0 (w:=wForall) (by decide) (by decide) (k:=2) (by kernel_rfl) (H8 (by decide)) h2
 ·exact F0 (w:=S8) (by decide) (by decide) (k:=2) (by kernel_rfl) (H8 (by decide)) h2
theorem D2n {f:Tr.Fr} (hf:D4w f) (hr:K5 r=0) (h:E0 r R):E0 (A1e f++r) (B0q f++R):=by
 have h2:=E4 (Y7 hf.1 (H8 (by decide)) (E4 (D2m (C60 hf.2.1 hf.2.2 hr h))))
 have h3:=F0 (w:=A3f) (by decide) (by decide) (k:=2) (by kernel_rfl) (H8 (by decide)) h2
 unfold A1e B0q
 simp only [List.append_assoc,List.cons_append,List.nil_append]
 exact h3
theorem C9a {s:Tr.St} (hs:D4y s) (hr:K5 r=0) (h:E0 r R):E0 (W3 s++r) (A60 s++R):=by
 have h1:E0 ((if s.2.2=true then 32::R4 else [])++r) ((if s.2.2=true then [((2:Int),R4)] else [])++R)∧K5 ((if s.2.2=true then 32::R4 else [])++r)=0:=by
  split
  ·exact ⟨E4 (F0 (w:=R4) (by decide) (by decide) (k:=2) (by kernel_rfl) hr h),H8 (by decide)⟩
  ·exact ⟨h,hr⟩
 have h2:=E4 (Y7 hs h1.2 h1.1)
 unfold W3 A60
 simp only [List.append_assoc,List.cons_append,List.nil_append]
 split
 ·exact F0 (w:=wNext) (by decide) (by decide) (k:=2) (by kernel_rfl) (H8 (by decide)) h2
 ·exact F0 (w:=A21) (by decide) (by decide) (k:=2) (by kernel_rfl) (H8 (by decide)) h2
theorem A61 {l:List Tr.Ex} {m lo:Nat} {i:Int} (hl:R8 l m) (h:Whole l lo i):D7c l i.toNat (gx l i) (ndN l i.toNat).1 (ndN l i.toNat).2 m:=by
 obtain ⟨h1,h2,h3,_⟩:=h
 exact hl.fine (by omega) (by omega) (by omega)
theorem D57 {l:List Tr.Ex} {m lo:Nat} {s:Tr.Se} (hl:R8 l m) (hn:Sc.D4 s.1.1=true) (hw:Whole l lo s.2) (hr:K5 r=0) (h:E0 r R):E0 (X3 l s++r) (A89 l s++R):=by
 have hF:=A61 hl hw
 have h2:=Y7 hn (H8 (by decide)) (E4 (D2m (A3w _ hF.ok hF.lexed r R hr h)))
 unfold X3 A89
 simp only [List.append_assoc,List.cons_append,List.nil_append]
 exact h2
theorem A30 {l:List Tr.Ex}:∀ {lo:Nat} {ss:List Tr.Se},A25 l lo ss→∀ s ∈ ss,Sc.D4 s.1.1=true∧∃ lo,Whole l lo s.2
 | lo,s::ss,h,x,hx=>by
  rcases List.mem_cons.1 hx with rfl|hx
  ·exact ⟨h.1,lo,h.2.1⟩
  ·exact A30 h.2.2 x hx
theorem C9b {t:Tr.Tn} (ht:C39 t) (hr:K5 r=0) (h:E0 r R):E0 (G5 t++r) (A0j t++R):=by
 obtain ⟨h1,h2,h3,⟨m,hl⟩,h5⟩:=ht
 have hto:E0 (toS t++r) (toT t++R):=by
  have:=E4 (F0 (w:=wTo) (by decide) (by decide) (k:=2) (by kernel_rfl) (H8 (by decide)) (E4 (Y7 h2 hr h)))
  unfold toS toT
  simp only [List.append_assoc,List.cons_append,List.nil_append]
  exact this
 have hsets:∃ lo,A25 t.2.2.2.1 lo t.2.2.2.2.2:=h5.elim (fun h=>⟨_,h.2⟩) (fun h=>⟨_,h.2⟩)
 obtain ⟨lo,hsets⟩:=hsets
 have hdo:E0 (doS t++r) (doT t++R)∧K5 (doS t++r)=0:=by
  unfold doS doT
  split
  ·exact ⟨hto,H8 (by decide)⟩
  ·have hj:=B01 (S:=X3 t.2.2.2.1) (T:=A89 t.2.2.2.1) t.2.2.2.2.2 (fun s hs r R hr h=>(A30 hsets s hs).2.elim fun _ hw=>D57 hl (A30 hsets s hs).1 hw hr h) (toS t++r) _ (H8 (by decide)) hto
   have:=E4 (F0 (w:=wDo) (by decide) (by decide) (k:=2) (by kernel_rfl) (H8 (by decide)) (E4 hj))
   simp only [List.append_assoc,List.cons_append,List.nil_append]
   exact ⟨this,H8 (by decide)⟩
 have hif:E0 (ifS t++r) (ifT t++R):=by
  unfold ifS ifT
  split
  ·rename_i hg
   have hF:Whole t.2.2.2.1 0 t.2.2.2.2.1:=by
    rcases h5 with h|h
    ·omega
    ·exact h.1
   have hF:=A61 hl hF
   have:=E4 (F0 (w:=wIf) (by decide) (by decide) (k:=2) (by kernel_rfl) (H8 (by decide)) (E4 (A3w _ hF.ok hF.lexed _ _ hdo.2 hdo.1)))
   simp only [List.append_assoc,List.cons_append,List.nil_append]
   exact this
  ·exact hdo.1
 have:=Y7 h1 (H8 (by decide)) (E4 (F0 (w:=wOn) (by decide) (by decide) (k:=2) (by kernel_rfl) (H8 (by decide)) (E4 (C6z h3 hif))))
 unfold G5 A0j
 simp only [List.append_assoc,List.cons_append,List.nil_append]
 exact this
theorem A13 {α:Type} {S:α→List UInt8} {T:α→List Tkn}:∀ (l:List α),(∀ x ∈ l,∀ r R,K5 r=0→E0 r R→E0 (S x++r) (T x++R))→∀ (r:List UInt8) (R:List Tkn),E0 r R→E0 (J6 S l++r) (M4 T l++R)
 | [],_,r,R,h=>h
 | x::l,hx,r,R,h=>by
  have ih:=A13 l (fun z hz=>hx z (List.mem_cons_of_mem _ hz)) r R h
  have:=hx x List.mem_cons_self (10::(J6 S l++r)) _ (H8 (by decide)) (A9v ih)
  show E0 ((A0n (S x)++J6 S l)++r) ((T x++M4 T l)++R)
  unfold A0n
  simp only [List.append_assoc,List.cons_append,List.nil_append]
  exact this
end
theorem D2o {x:Tr.Tr0} (h:C7w x):E0 (X9 x) (C7t x):=by
 have e1:=A13 (S:=fun t:(Nat × Nat × Nat) × Tr.Tn=>G5 t.2) (T:=fun t=>A0j t.2) x.2.2.2.2.2.2.2 (fun t ht r R hr hh=>C9b (h.trans t ht) hr hh) [] [] B84
 have e2:=A13 (S:=fun s:Nat × Tr.Sy=>R7++32::U8 s.2) (T:=fun s=>(2,R7)::A19 s.2) x.2.2.2.2.2.2.1 (fun s hs r R hr hh=>by
  have:=F0 (w:=R7) (by decide) (by decide) (k:=2) (by kernel_rfl) (H8 (by decide)) (E4 (C6z (h.also s hs) hh))
  simp only [List.append_assoc,List.cons_append,List.nil_append]
  exact this) _ _ e1
 have e3:=F0 (w:=X5) (by decide) (by decide) (k:=2) (by kernel_rfl) (H8 (by decide)) (E4 (Y7 h.start (H8 (c:=10) (by decide)) (A9v e2)))
 have e4:=A13 (S:=W3) (T:=A60) x.2.2.2.2.1 (fun s hs r R hr hh=>C9a (h.states s hs) hr hh) _ _ e3
 have e5:=A13 (S:=A1e) (T:=B0q) x.2.2.2.1 (fun s hs r R hr hh=>D2n (h.frees s hs) hr hh) _ _ e4
 have e6:=A13 (S:=V9) (T:=A6v) x.2.2.1 (fun s hs r R hr hh=>C89 (h.quants s hs) hr hh) _ _ e5
 have e7:=A13 (S:=fun d:Nat × Tr.De=>A2n d.2) (T:=fun d=>B0i d.2) x.2.1 (fun s hs r R hr hh=>D2l (h.decls s hs) hh) _ _ e6
 have e8:=F0 (w:=B1r) (by decide) (by decide) (k:=2) (by kernel_rfl) (H8 (by decide)) (E4 (Y7 h.name (H8 (c:=10) (by decide)) (A9v e7)))
 unfold X9 C7t A0n
 simp only [List.append_assoc,List.cons_append,List.nil_append,List.append_nil] at e8 ⊢
 exact e8
end Go.Proofs.YticnkpgmmpenlaaGreatDoor.Pr
namespace Go.Proofs.YticnkpgmmpenlaaGreatDoor.Tr
open Go Go.Ab Go.RowKit
variable {Γ:Nat→AV}
attribute [local irreducible] B7 Sto.set Sto.grow
theorem B18 (k:IntKind):∀ l:List Int,(G6 k l).flatten=l.map (.int k)
 | []=>rfl
 | x::l=>by
  have:=B18 k l
  simp only [G6] at this ⊢
  rw [List.map_cons,List.flatten_cons,this];rfl
theorem A57 {G:Gh} {w:World} (k:IntKind):∀ (l:List Int) (us:List Value),C9 G w (l.map (.int k)) us↔us=l.map (.int k)
 | [],us=>by rw [List.map_nil,List.map_nil,C2]
 | x::l,us=>by
  rw [List.map_cons,List.map_cons,B8]
  constructor
  ·rintro ⟨u,us',rfl,hu,hs⟩
   rw [G3] at hu
   rw [hu,(A57 k l us').1 hs]
  ·rintro rfl
   exact ⟨_,_,rfl,G3.2 rfl,(A57 k l _).2 rfl⟩
theorem B0e (t:Nat) (l:List Int) (hl:l.length * 8≤140737488355328):B7 Tryz.prog Γ 56 [.slice t (G6 .i64 l)] fun v=>v=.slice 0 (G6 .i64 l):=by
 have h1:∀ c ∈ G6 .i64 l,c.length=1:=by
  intro c hc
  obtain ⟨x,_,rfl⟩:=List.mem_map.1 hc
  rfl
 refine B7.of_row (T:=3) (k:=1) h1 fun G w vs s hm hr=>⟨l.map (.int .i64),?_,?_⟩
 ·rw [B18];exact (A57 .i64 l _).2 rfl
 obtain ⟨u,us,rfl,hu,hus⟩:=B8.1 hr
 rw [C2] at hus;subst hus
 rw [M1]
 unfold R at hu
 rcases hu.2 with ⟨he,a,cap,rfl,_,h2⟩|⟨b,o,cap,k,rfl,hc,_,hne,hE⟩
 ·have hl0:l=[]:=by
   have:=congrArg List.length he
   rw [M1] at this
   exact List.eq_nil_of_length_eq_zero this
  subst hl0
  cases a with
  | none=>exact (Tryz.slices_Clone_int_nil 0 cap w).mono fun e w' ⟨h,hw⟩=>⟨_,h,⟨rfl,.inl ⟨rfl,rfl⟩⟩,by rw [hw];exact Below.refl _ _⟩
  | some a=>exact (Tryz.slices_Clone_int_zero a cap w).mono fun e w' ⟨v',h,ho,_,hb⟩=>⟨v',h,ho,hb⟩
 ·obtain ⟨us,hul,hur,hcell⟩:=S4 _ hE
  rw [B18] at hur
  obtain rfl:=(A57 .i64 l us).1 hur
  have:=Tryz.slices_Clone_int b o (G6 .i64 l).length cap l w (by rw [M1];exact Nat.le_refl _) (by rw [M1];exact hl) fun j hj=>hcell j _ (by simp [List.getD,hj])
  refine this.mono fun e w' ⟨v',h,ho,_,hb⟩=>⟨v',h,?_,hb⟩
  rw [M1,List.take_length] at ho
  exact ho
def P7 (x:Idn):Idn:=(x.1,0,0)
def A1s (x:Ar):Ar:=(x.1,x.2.1,x.2.2.1,0,0)
def A5c (x:Ex):Ex:=(x.1,x.2.1,x.2.2.1,x.2.2.2.1,x.2.2.2.2.1,0,0)
def A4h (x:Se):Se:=(P7 x.1,x.2)
def U9 (x:Qu):Qu:=(x.1,P7 x.2.1,x.2.2)
def Y0 (x:Fr):Fr:=(P7 x.1,x.2)
def A0q (x:St):St:=(P7 x.1,x.2.1,x.2.2)
def V8 (x:Nat × De):Nat × De:=(0,P7 x.2.1,x.2.2)
def A2v (x:Nat × Sy):Nat × Sy:=(0,x.2.1,x.2.2.1.map A1s,0,0)
def Y1 (x:(Nat × Nat × Nat) × Tn):(Nat × Nat × Nat) × Tn:=((0,0,0),P7 x.2.1,P7 x.2.2.1,(A2v (0,x.2.2.2.1)).2,x.2.2.2.2.1.map A5c,x.2.2.2.2.2.1,x.2.2.2.2.2.2.map A4h)
theorem M9 {α:Type} {f:α→α} {A:α→List AV} (d:α) {l:List α} {i:Nat} (h:i < l.length):((l.take (i+1)).map f).map A=((l.take i).map f).map A++[A (f (l.getD i d))]:=by
 have e:l.take (i+1)=l.take i++[l.getD i d]:=by rw [List.take_add_one,List.getElem?_eq_getElem h,show l.getD i d=l[i] from by simp [List.getD,h]];rfl
 rw [e,List.map_append,List.map_append];rfl
theorem G9 (x:Idn):B7 Tryz.prog Γ 53 [.agg (V7 x)] fun v=>v=.agg (V7 (P7 x)):=by
 refine aps Tryz.func53 ?_
 intro s
 conv=>whnf
 intro b hb
 refine wr ?_
 intro c hc
 conv=>whnf
 have hbc:=A8 A7 hc
 have hcb:c≠b:=fun h=>hbc h.symm
 have hc':=(D7 hc).2
 refine wr ?_
 refine ⟨by (repeat (first|exact Sub.refl _|refine Sub.set ?_ hb _ _|refine Sub.set ?_ hc' _ _)),rfl⟩
theorem B6c (x:Qu):B7 Tryz.prog Γ 58 [.agg (quA x)] fun v=>v=.agg (quA (U9 x)):=by
 refine aps Tryz.func58 ?_
 intro s
 conv=>whnf
 intro b hb
 refine wr ?_
 intro c hc
 conv=>whnf
 have hbc:=A8 A7 hc
 have hcb:c≠b:=fun h=>hbc h.symm
 have hc':=(D7 hc).2
 refine wr ?_;(first|(refine A6.pure' ?_ (G9 _);rintro _ rfl)|refine C0.pure ?_ (G9 _));refine wr ?_
 refine ⟨by (repeat (first|exact Sub.refl _|refine Sub.set ?_ hb _ _|refine Sub.set ?_ hc' _ _)),rfl⟩
theorem B6b (x:Fr):B7 Tryz.prog Γ 60 [.agg (frA x)] fun v=>v=.agg (frA (Y0 x)):=by
 refine aps Tryz.func60 ?_
 intro s
 conv=>whnf
 intro b hb
 refine wr ?_
 intro c hc
 conv=>whnf
 have hbc:=A8 A7 hc
 have hcb:c≠b:=fun h=>hbc h.symm
 have hc':=(D7 hc).2
 refine wr ?_;(first|(refine A6.pure' ?_ (G9 _);rintro _ rfl)|refine C0.pure ?_ (G9 _));refine wr ?_
 refine ⟨by (repeat (first|exact Sub.refl _|refine Sub.set ?_ hb _ _|refine Sub.set ?_ hc' _ _)),rfl⟩
theorem B6e (x:St):B7 Tryz.prog Γ 62 [.agg (stA x)] fun v=>v=.agg (stA (A0q x)):=by
 refine aps Tryz.func62 ?_
 intro s
 conv=>whnf
 intro b hb
 refine wr ?_
 intro c hc
 conv=>whnf
 have hbc:=A8 A7 hc
 have hcb:c≠b:=fun h=>hbc h.symm
 have hc':=(D7 hc).2
 refine wr ?_;(first|(refine A6.pure' ?_ (G9 _);rintro _ rfl)|refine C0.pure ?_ (G9 _));refine wr ?_
 refine ⟨by (repeat (first|exact Sub.refl _|refine Sub.set ?_ hb _ _|refine Sub.set ?_ hc' _ _)),rfl⟩
theorem B6d (x:Se):B7 Tryz.prog Γ 112 [.agg (seA x)] fun v=>v=.agg (seA (A4h x)):=by
 refine aps Tryz.func112 ?_
 intro s
 conv=>whnf
 intro b hb
 refine wr ?_
 intro c hc
 conv=>whnf
 have hbc:=A8 A7 hc
 have hcb:c≠b:=fun h=>hbc h.symm
 have hc':=(D7 hc).2
 refine wr ?_;(first|(refine A6.pure' ?_ (G9 _);rintro _ rfl)|refine C0.pure ?_ (G9 _));refine wr ?_
 refine ⟨by (repeat (first|exact Sub.refl _|refine Sub.set ?_ hb _ _|refine Sub.set ?_ hc' _ _)),rfl⟩
theorem B6a (x:Ex):B7 Tryz.prog Γ 110 [.agg (exA x)] fun v=>v=.agg (exA (A5c x)):=by
 refine aps Tryz.func110 ?_
 intro s
 conv=>whnf
 intro b hb
 refine wr ?_
 intro c hc
 conv=>whnf
 have hbc:=A8 A7 hc
 have hcb:c≠b:=fun h=>hbc h.symm
 have hc':=(D7 hc).2
 refine wr ?_
 refine ⟨by (repeat (first|exact Sub.refl _|refine Sub.set ?_ hb _ _|refine Sub.set ?_ hc' _ _)),rfl⟩
theorem B58 (x:Ar):B7 Tryz.prog Γ 108 [.agg (arA x)] fun v=>v=.agg (arA (A1s x)):=by
 refine aps Tryz.func108 ?_
 intro s
 conv=>whnf
 intro b hb
 refine wr ?_
 intro c hc
 conv=>whnf
 have hbc:=A8 A7 hc
 have hcb:c≠b:=fun h=>hbc h.symm
 have hc':=(D7 hc).2
 refine wr ?_
 refine ⟨by (repeat (first|exact Sub.refl _|refine Sub.set ?_ hb _ _|refine Sub.set ?_ hc' _ _)),rfl⟩
theorem B59 (x:Nat × De) (hx:x.2.2.length * 8≤140737488355328):B7 Tryz.prog Γ 55 [.agg (deA x)] fun v=>v=.agg (deA (V8 x)):=by
 refine aps Tryz.func55 ?_
 intro s
 conv=>whnf
 intro b hb
 refine wr ?_
 intro c hc
 conv=>whnf
 have hbc:=A8 A7 hc
 have hcb:c≠b:=fun h=>hbc h.symm
 have hc':=(D7 hc).2
 refine wr ?_;(first|(refine A6.pure' ?_ (G9 _);rintro _ rfl)|refine C0.pure ?_ (G9 _));refine wr ?_;(first|(refine A6.pure' ?_ (B0e _ _ hx);rintro _ rfl)|refine C0.pure ?_ (B0e _ _ hx));refine wr ?_
 refine ⟨by (repeat (first|exact Sub.refl _|refine Sub.set ?_ hb _ _|refine Sub.set ?_ hc' _ _)),rfl⟩
theorem B8n (t:Nat) (l:List (Qu)) (hl:l.length≤100000):B7 Tryz.prog Γ 57 [.slice t (l.map quA),.func (.func 58) [] []] fun v=>v=.slice 0 ((l.map U9).map quA):=by
 refine B7.forget fun s=>?_
 have hml:(l.map quA).length=l.length:=List.length_map ..
 refine acs Tryz.func57 ?_
 refine wr ?_
 refine AWp.loopA [5,10] [11,12,13,7,14,15,16,17,18,19,20] (fun x:Nat × Nat=>[.slice x.2 (((l.take x.1).map U9).map quA),.int .i64 x.1]) (fun x s'=>x.1≤l.length∧Own s s' (x.1 == 0) x.2 75 5) (fun x=>l.length - x.1) ((0,1)) (by kernel_rfl) (eqa) ?_ ?_
 ·exact ⟨by simp,Own.nil _ _ _⟩
 ·rintro y ⟨i,t1⟩ s1 ⟨hi,ho⟩
  simp only at hi ho
  conv=>whnf
  have hga:=fun h:i < l.length=>C4 (f:=quA) (l:=l) A15 h
  have htk:=fun h:i < l.length=>M9 (f:=U9) (A:=quA) A15 h
  generalize l.getD i A15=u at *
  repeat' ((first|(refine brS (fun h=>?_) (fun h=>?_)<;>(try rw [h])<;>(try simp only [bS,↓reduceIte] at h))|(rw [show (l.map quA).getD ((i:Int)).toNat []=_ from hga (by omega)])|refine gS ?_|refine aA ?_|refine nA ?_|fail)<;>(conv=>whnf))
  ·have hlt:i < l.length:=by omega
   intro c hc
   conv=>whnf
   have hc':=ho.sub.none hc
   refine B6 A7 ?_
   refine wr ?_;(first|(refine A6.pure' ?_ (B6c u);rintro _ rfl)|refine C0.pure ?_ (B6c u));refine wr ?_
   have ho2:=fun (T:TypeId) (a b:List AV)=>(ho.set (T:=T) (cs:=a) hc').set (T:=T) (cs:=b) hc'
   refine ⟨(ho2 _ _ _).may,fun c hc=>?_,all_cons ⟨rfl,rfl⟩ all_nil,?_,?_⟩
   ·obtain ⟨z,_,rfl⟩:=List.mem_map.1 hc;rfl
   ·show ((((l.take i).map U9).map quA).length+1) * (_+1)≤_
    rw [List.length_map,List.length_map,List.length_take,Nat.min_eq_left (by omega)]
    exact Nat.le_trans (Nat.mul_le_mul_right _ (show i+1≤100001 by omega)) (Nat.le_of_ble_eq_true (by kernel_rfl))
   intro t' k1 k2
   have k3:=(ho2 _ _ _).grow k1 k2
   refine wr ?_
   refine ⟨(i+1,t'),?_,C5,⟨by simp only;omega,?_⟩,by simp only;omega⟩
   ·refine C1 ?_ (C1 (show AV.int .i64 (IntKind.i64.wrap ((i:Int)+1))=.int .i64 ((i+1:Nat):Int) from E3 (by omega) (by omega) (by omega)) rfl)
    show AV.slice _ _=.slice _ (((l.take (i+1)).map U9).map quA)
    rw [htk hlt];rfl
   ·have ez:∀ (z:Bool) (y:List AV),(z && [y].isEmpty)=false:=by intro z y;cases z<;>rfl
    have e2:(i+1 == 0)=false:=by simp
    show Own _ _ (i+1 == 0) t' _ _
    rw [ez] at k3
    rw [e2]
    exact k3
  ·have ht:l.take i=l:=List.take_of_length_le (by omega)
   refine ⟨s1,Sub.refl _,⟨t1,?_⟩,ho.sub⟩
   rw [ht]
   rfl
theorem B8m (t:Nat) (l:List (Fr)) (hl:l.length≤100000):B7 Tryz.prog Γ 59 [.slice t (l.map frA),.func (.func 60) [] []] fun v=>v=.slice 0 ((l.map Y0).map frA):=by
 refine B7.forget fun s=>?_
 have hml:(l.map frA).length=l.length:=List.length_map ..
 refine acs Tryz.func59 ?_
 refine wr ?_
 refine AWp.loopA [5,10] [11,12,13,7,14,15,16,17,18,19,20] (fun x:Nat × Nat=>[.slice x.2 (((l.take x.1).map Y0).map frA),.int .i64 x.1]) (fun x s'=>x.1≤l.length∧Own s s' (x.1 == 0) x.2 58 7) (fun x=>l.length - x.1) ((0,1)) (by kernel_rfl) (eqa) ?_ ?_
 ·exact ⟨by simp,Own.nil _ _ _⟩
 ·rintro y ⟨i,t1⟩ s1 ⟨hi,ho⟩
  simp only at hi ho
  conv=>whnf
  have hga:=fun h:i < l.length=>C4 (f:=frA) (l:=l) A1d h
  have htk:=fun h:i < l.length=>M9 (f:=Y0) (A:=frA) A1d h
  generalize l.getD i A1d=u at *
  repeat' ((first|(refine brS (fun h=>?_) (fun h=>?_)<;>(try rw [h])<;>(try simp only [bS,↓reduceIte] at h))|(rw [show (l.map frA).getD ((i:Int)).toNat []=_ from hga (by omega)])|refine gS ?_|refine aA ?_|refine nA ?_|fail)<;>(conv=>whnf))
  ·have hlt:i < l.length:=by omega
   intro c hc
   conv=>whnf
   have hc':=ho.sub.none hc
   refine B6 A7 ?_
   refine wr ?_;(first|(refine A6.pure' ?_ (B6b u);rintro _ rfl)|refine C0.pure ?_ (B6b u));refine wr ?_
   have ho2:=fun (T:TypeId) (a b:List AV)=>(ho.set (T:=T) (cs:=a) hc').set (T:=T) (cs:=b) hc'
   refine ⟨(ho2 _ _ _).may,fun c hc=>?_,all_cons ⟨rfl,rfl⟩ all_nil,?_,?_⟩
   ·obtain ⟨z,_,rfl⟩:=List.mem_map.1 hc;rfl
   ·show ((((l.take i).map Y0).map frA).length+1) * (_+1)≤_
    rw [List.length_map,List.length_map,List.length_take,Nat.min_eq_left (by omega)]
    exact Nat.le_trans (Nat.mul_le_mul_right _ (show i+1≤100001 by omega)) (Nat.le_of_ble_eq_true (by kernel_rfl))
   intro t' k1 k2
   have k3:=(ho2 _ _ _).grow k1 k2
   refine wr ?_
   refine ⟨(i+1,t'),?_,C5,⟨by simp only;omega,?_⟩,by simp only;omega⟩
   ·refine C1 ?_ (C1 (show AV.int .i64 (IntKind.i64.wrap ((i:Int)+1))=.int .i64 ((i+1:Nat):Int) from E3 (by omega) (by omega) (by omega)) rfl)
    show AV.slice _ _=.slice _ (((l.take (i+1)).map Y0).map frA)
    rw [htk hlt];rfl
   ·have ez:∀ (z:Bool) (y:List AV),(z && [y].isEmpty)=false:=by intro z y;cases z<;>rfl
    have e2:(i+1 == 0)=false:=by simp
    show Own _ _ (i+1 == 0) t' _ _
    rw [ez] at k3
    rw [e2]
    exact k3
  ·have ht:l.take i=l:=List.take_of_length_le (by omega)
   refine ⟨s1,Sub.refl _,⟨t1,?_⟩,ho.sub⟩
   rw [ht]
   rfl
theorem B8p (t:Nat) (l:List (St)) (hl:l.length≤100000):B7 Tryz.prog Γ 61 [.slice t (l.map stA),.func (.func 62) [] []] fun v=>v=.slice 0 ((l.map A0q).map stA):=by
 refine B7.forget fun s=>?_
 have hml:(l.map stA).length=l.length:=List.length_map ..
 refine acs Tryz.func61 ?_
 refine wr ?_
 refine AWp.loopA [5,10] [11,12,13,7,14,15,16,17,18,19,20] (fun x:Nat × Nat=>[.slice x.2 (((l.take x.1).map A0q).map stA),.int .i64 x.1]) (fun x s'=>x.1≤l.length∧Own s s' (x.1 == 0) x.2 84 5) (fun x=>l.length - x.1) ((0,1)) (by kernel_rfl) (eqa) ?_ ?_
 ·exact ⟨by simp,Own.nil _ _ _⟩
 ·rintro y ⟨i,t1⟩ s1 ⟨hi,ho⟩
  simp only at hi ho
  conv=>whnf
  have hga:=fun h:i < l.length=>C4 (f:=stA) (l:=l) A16 h
  have htk:=fun h:i < l.length=>M9 (f:=A0q) (A:=stA) A16 h
  generalize l.getD i A16=u at *
  repeat' ((first|(refine brS (fun h=>?_) (fun h=>?_)<;>(try rw [h])<;>(try simp only [bS,↓reduceIte] at h))|(rw [show (l.map stA).getD ((i:Int)).toNat []=_ from hga (by omega)])|refine gS ?_|refine aA ?_|refine nA ?_|fail)<;>(conv=>whnf))
  ·have hlt:i < l.length:=by omega
   intro c hc
   conv=>whnf
   have hc':=ho.sub.none hc
   refine B6 A7 ?_
   refine wr ?_;(first|(refine A6.pure' ?_ (B6e u);rintro _ rfl)|refine C0.pure ?_ (B6e u));refine wr ?_
   have ho2:=fun (T:TypeId) (a b:List AV)=>(ho.set (T:=T) (cs:=a) hc').set (T:=T) (cs:=b) hc'
   refine ⟨(ho2 _ _ _).may,fun c hc=>?_,all_cons ⟨rfl,rfl⟩ all_nil,?_,?_⟩
   ·obtain ⟨z,_,rfl⟩:=List.mem_map.1 hc;rfl
   ·show ((((l.take i).map A0q).map stA).length+1) * (_+1)≤_
    rw [List.length_map,List.length_map,List.length_take,Nat.min_eq_left (by omega)]
    exact Nat.le_trans (Nat.mul_le_mul_right _ (show i+1≤100001 by omega)) (Nat.le_of_ble_eq_true (by kernel_rfl))
   intro t' k1 k2
   have k3:=(ho2 _ _ _).grow k1 k2
   refine wr ?_
   refine ⟨(i+1,t'),?_,C5,⟨by simp only;omega,?_⟩,by simp only;omega⟩
   ·refine C1 ?_ (C1 (show AV.int .i64 (IntKind.i64.wrap ((i:Int)+1))=.int .i64 ((i+1:Nat):Int) from E3 (by omega) (by omega) (by omega)) rfl)
    show AV.slice _ _=.slice _ (((l.take (i+1)).map A0q).map stA)
    rw [htk hlt];rfl
   ·have ez:∀ (z:Bool) (y:List AV),(z && [y].isEmpty)=false:=by intro z y;cases z<;>rfl
    have e2:(i+1 == 0)=false:=by simp
    show Own _ _ (i+1 == 0) t' _ _
    rw [ez] at k3
    rw [e2]
    exact k3
  ·have ht:l.take i=l:=List.take_of_length_le (by omega)
   refine ⟨s1,Sub.refl _,⟨t1,?_⟩,ho.sub⟩
   rw [ht]
   rfl
theorem B8o (t:Nat) (l:List (Se)) (hl:l.length≤100000):B7 Tryz.prog Γ 111 [.slice t (l.map seA),.func (.func 112) [] []] fun v=>v=.slice 0 ((l.map A4h).map seA):=by
 refine B7.forget fun s=>?_
 have hml:(l.map seA).length=l.length:=List.length_map ..
 refine acs Tryz.func111 ?_
 refine wr ?_
 refine AWp.loopA [5,10] [11,12,13,7,14,15,16,17,18,19,20] (fun x:Nat × Nat=>[.slice x.2 (((l.take x.1).map A4h).map seA),.int .i64 x.1]) (fun x s'=>x.1≤l.length∧Own s s' (x.1 == 0) x.2 119 4) (fun x=>l.length - x.1) ((0,1)) (by kernel_rfl) (eqa) ?_ ?_
 ·exact ⟨by simp,Own.nil _ _ _⟩
 ·rintro y ⟨i,t1⟩ s1 ⟨hi,ho⟩
  simp only at hi ho
  conv=>whnf
  have hga:=fun h:i < l.length=>C4 (f:=seA) (l:=l) W5 h
  have htk:=fun h:i < l.length=>M9 (f:=A4h) (A:=seA) W5 h
  generalize l.getD i W5=u at *
  repeat' ((first|(refine brS (fun h=>?_) (fun h=>?_)<;>(try rw [h])<;>(try simp only [bS,↓reduceIte] at h))|(rw [show (l.map seA).getD ((i:Int)).toNat []=_ from hga (by omega)])|refine gS ?_|refine aA ?_|refine nA ?_|fail)<;>(conv=>whnf))
  ·have hlt:i < l.length:=by omega
   intro c hc
   conv=>whnf
   have hc':=ho.sub.none hc
   refine B6 A7 ?_
   refine wr ?_;(first|(refine A6.pure' ?_ (B6d u);rintro _ rfl)|refine C0.pure ?_ (B6d u));refine wr ?_
   have ho2:=fun (T:TypeId) (a b:List AV)=>(ho.set (T:=T) (cs:=a) hc').set (T:=T) (cs:=b) hc'
   refine ⟨(ho2 _ _ _).may,fun c hc=>?_,all_cons ⟨rfl,rfl⟩ all_nil,?_,?_⟩
   ·obtain ⟨z,_,rfl⟩:=List.mem_map.1 hc;rfl
   ·show ((((l.take i).map A4h).map seA).length+1) * (_+1)≤_
    rw [List.length_map,List.length_map,List.length_take,Nat.min_eq_left (by omega)]
    exact Nat.le_trans (Nat.mul_le_mul_right _ (show i+1≤100001 by omega)) (Nat.le_of_ble_eq_true (by kernel_rfl))
   intro t' k1 k2
   have k3:=(ho2 _ _ _).grow k1 k2
   refine wr ?_
   refine ⟨(i+1,t'),?_,C5,⟨by simp only;omega,?_⟩,by simp only;omega⟩
   ·refine C1 ?_ (C1 (show AV.int .i64 (IntKind.i64.wrap ((i:Int)+1))=.int .i64 ((i+1:Nat):Int) from E3 (by omega) (by omega) (by omega)) rfl)
    show AV.slice _ _=.slice _ (((l.take (i+1)).map A4h).map seA)
    rw [htk hlt];rfl
   ·have ez:∀ (z:Bool) (y:List AV),(z && [y].isEmpty)=false:=by intro z y;cases z<;>rfl
    have e2:(i+1 == 0)=false:=by simp
    show Own _ _ (i+1 == 0) t' _ _
    rw [ez] at k3
    rw [e2]
    exact k3
  ·have ht:l.take i=l:=List.take_of_length_le (by omega)
   refine ⟨s1,Sub.refl _,⟨t1,?_⟩,ho.sub⟩
   rw [ht]
   rfl
theorem B8l (t:Nat) (l:List (Ex)) (hl:l.length≤100000):B7 Tryz.prog Γ 109 [.slice t (l.map exA),.func (.func 110) [] []] fun v=>v=.slice 0 ((l.map A5c).map exA):=by
 refine B7.forget fun s=>?_
 have hml:(l.map exA).length=l.length:=List.length_map ..
 refine acs Tryz.func109 ?_
 refine wr ?_
 refine AWp.loopA [5,10] [11,12,13,7,14,15,16,17,18,19,20] (fun x:Nat × Nat=>[.slice x.2 (((l.take x.1).map A5c).map exA),.int .i64 x.1]) (fun x s'=>x.1≤l.length∧Own s s' (x.1 == 0) x.2 61 10) (fun x=>l.length - x.1) ((0,1)) (by kernel_rfl) (eqa) ?_ ?_
 ·exact ⟨by simp,Own.nil _ _ _⟩
 ·rintro y ⟨i,t1⟩ s1 ⟨hi,ho⟩
  simp only at hi ho
  conv=>whnf
  have hga:=fun h:i < l.length=>C4 (f:=exA) (l:=l) G2 h
  have htk:=fun h:i < l.length=>M9 (f:=A5c) (A:=exA) G2 h
  generalize l.getD i G2=u at *
  repeat' ((first|(refine brS (fun h=>?_) (fun h=>?_)<;>(try rw [h])<;>(try simp only [bS,↓reduceIte] at h))|(rw [show (l.map exA).getD ((i:Int)).toNat []=_ from hga (by omega)])|refine gS ?_|refine aA ?_|refine nA ?_|fail)<;>(conv=>whnf))
  ·have hlt:i < l.length:=by omega
   intro c hc
   conv=>whnf
   have hc':=ho.sub.none hc
   refine B6 A7 ?_
   refine wr ?_;(first|(refine A6.pure' ?_ (B6a u);rintro _ rfl)|refine C0.pure ?_ (B6a u));refine wr ?_
   have ho2:=fun (T:TypeId) (a b:List AV)=>(ho.set (T:=T) (cs:=a) hc').set (T:=T) (cs:=b) hc'
   refine ⟨(ho2 _ _ _).may,fun c hc=>?_,all_cons ⟨rfl,rfl⟩ all_nil,?_,?_⟩
   ·obtain ⟨z,_,rfl⟩:=List.mem_map.1 hc;rfl
   ·show ((((l.take i).map A5c).map exA).length+1) * (_+1)≤_
    rw [List.length_map,List.length_map,List.length_take,Nat.min_eq_left (by omega)]
    exact Nat.le_trans (Nat.mul_le_mul_right _ (show i+1≤100001 by omega)) (Nat.le_of_ble_eq_true (by kernel_rfl))
   intro t' k1 k2
   have k3:=(ho2 _ _ _).grow k1 k2
   refine wr ?_
   refine ⟨(i+1,t'),?_,C5,⟨by simp only;omega,?_⟩,by simp only;omega⟩
   ·refine C1 ?_ (C1 (show AV.int .i64 (IntKind.i64.wrap ((i:Int)+1))=.int .i64 ((i+1:Nat):Int) from E3 (by omega) (by omega) (by omega)) rfl)
    show AV.slice _ _=.slice _ (((l.take (i+1)).map A5c).map exA)
    rw [htk hlt];rfl
   ·have ez:∀ (z:Bool) (y:List AV),(z && [y].isEmpty)=false:=by intro z y;cases z<;>rfl
    have e2:(i+1 == 0)=false:=by simp
    show Own _ _ (i+1 == 0) t' _ _
    rw [ez] at k3
    rw [e2]
    exact k3
  ·have ht:l.take i=l:=List.take_of_length_le (by omega)
   refine ⟨s1,Sub.refl _,⟨t1,?_⟩,ho.sub⟩
   rw [ht]
   rfl
theorem B8j (t:Nat) (l:List (Ar)) (hl:l.length≤100000):B7 Tryz.prog Γ 107 [.slice t (l.map arA),.func (.func 108) [] []] fun v=>v=.slice 0 ((l.map A1s).map arA):=by
 refine B7.forget fun s=>?_
 have hml:(l.map arA).length=l.length:=List.length_map ..
 refine acs Tryz.func107 ?_
 refine wr ?_
 refine AWp.loopA [5,10] [11,12,13,7,14,15,16,17,18,19,20] (fun x:Nat × Nat=>[.slice x.2 (((l.take x.1).map A1s).map arA),.int .i64 x.1]) (fun x s'=>x.1≤l.length∧Own s s' (x.1 == 0) x.2 93 8) (fun x=>l.length - x.1) ((0,1)) (by kernel_rfl) (eqa) ?_ ?_
 ·exact ⟨by simp,Own.nil _ _ _⟩
 ·rintro y ⟨i,t1⟩ s1 ⟨hi,ho⟩
  simp only at hi ho
  conv=>whnf
  have hga:=fun h:i < l.length=>C4 (f:=arA) (l:=l) A02 h
  have htk:=fun h:i < l.length=>M9 (f:=A1s) (A:=arA) A02 h
  generalize l.getD i A02=u at *
  repeat' ((first|(refine brS (fun h=>?_) (fun h=>?_)<;>(try rw [h])<;>(try simp only [bS,↓reduceIte] at h))|(rw [show (l.map arA).getD ((i:Int)).toNat []=_ from hga (by omega)])|refine gS ?_|refine aA ?_|refine nA ?_|fail)<;>(conv=>whnf))
  ·have hlt:i < l.length:=by omega
   intro c hc
   conv=>whnf
   have hc':=ho.sub.none hc
   refine B6 A7 ?_
   refine wr ?_;(first|(refine A6.pure' ?_ (B58 u);rintro _ rfl)|refine C0.pure ?_ (B58 u));refine wr ?_
   have ho2:=fun (T:TypeId) (a b:List AV)=>(ho.set (T:=T) (cs:=a) hc').set (T:=T) (cs:=b) hc'
   refine ⟨(ho2 _ _ _).may,fun c hc=>?_,all_cons ⟨rfl,rfl⟩ all_nil,?_,?_⟩
   ·obtain ⟨z,_,rfl⟩:=List.mem_map.1 hc;rfl
   ·show ((((l.take i).map A1s).map arA).length+1) * (_+1)≤_
    rw [List.length_map,List.length_map,List.length_take,Nat.min_eq_left (by omega)]
    exact Nat.le_trans (Nat.mul_le_mul_right _ (show i+1≤100001 by omega)) (Nat.le_of_ble_eq_true (by kernel_rfl))
   intro t' k1 k2
   have k3:=(ho2 _ _ _).grow k1 k2
   refine wr ?_
   refine ⟨(i+1,t'),?_,C5,⟨by simp only;omega,?_⟩,by simp only;omega⟩
   ·refine C1 ?_ (C1 (show AV.int .i64 (IntKind.i64.wrap ((i:Int)+1))=.int .i64 ((i+1:Nat):Int) from E3 (by omega) (by omega) (by omega)) rfl)
    show AV.slice _ _=.slice _ (((l.take (i+1)).map A1s).map arA)
    rw [htk hlt];rfl
   ·have ez:∀ (z:Bool) (y:List AV),(z && [y].isEmpty)=false:=by intro z y;cases z<;>rfl
    have e2:(i+1 == 0)=false:=by simp
    show Own _ _ (i+1 == 0) t' _ _
    rw [ez] at k3
    rw [e2]
    exact k3
  ·have ht:l.take i=l:=List.take_of_length_le (by omega)
   refine ⟨s1,Sub.refl _,⟨t1,?_⟩,ho.sub⟩
   rw [ht]
   rfl
theorem B8k (t:Nat) (l:List (Nat × De)) (hl:l.length≤100000) (hm:∀ x ∈ l,x.2.2.length * 8≤140737488355328):B7 Tryz.prog Γ 54 [.slice t (l.map deA),.func (.func 55) [] []] fun v=>v=.slice 0 ((l.map V8).map deA):=by
 refine B7.forget fun s=>?_
 have hml:(l.map deA).length=l.length:=List.length_map ..
 refine acs Tryz.func54 ?_
 refine wr ?_
 refine AWp.loopA [5,10] [11,12,13,7,14,15,16,17,18,19,20] (fun x:Nat × Nat=>[.slice x.2 (((l.take x.1).map V8).map deA),.int .i64 x.1]) (fun x s'=>x.1≤l.length∧Own s s' (x.1 == 0) x.2 54 4) (fun x=>l.length - x.1) ((0,1)) (by kernel_rfl) (eqa) ?_ ?_
 ·exact ⟨by simp,Own.nil _ _ _⟩
 ·rintro y ⟨i,t1⟩ s1 ⟨hi,ho⟩
  simp only at hi ho
  conv=>whnf
  have hga:=fun h:i < l.length=>C4 (f:=deA) (l:=l) A0f h
  have htk:=fun h:i < l.length=>M9 (f:=V8) (A:=deA) A0f h
  have hmx:=fun h:i < l.length=>hm _ (D9 A0f h)
  generalize l.getD i A0f=u at *
  repeat' ((first|(refine brS (fun h=>?_) (fun h=>?_)<;>(try rw [h])<;>(try simp only [bS,↓reduceIte] at h))|(rw [show (l.map deA).getD ((i:Int)).toNat []=_ from hga (by omega)])|refine gS ?_|refine aA ?_|refine nA ?_|fail)<;>(conv=>whnf))
  ·have hlt:i < l.length:=by omega
   intro c hc
   conv=>whnf
   have hc':=ho.sub.none hc
   refine B6 A7 ?_
   refine wr ?_;(first|(refine A6.pure' ?_ (B59 u (hmx hlt));rintro _ rfl)|refine C0.pure ?_ (B59 u (hmx hlt)));refine wr ?_
   have ho2:=fun (T:TypeId) (a b:List AV)=>(ho.set (T:=T) (cs:=a) hc').set (T:=T) (cs:=b) hc'
   refine ⟨(ho2 _ _ _).may,fun c hc=>?_,all_cons ⟨rfl,rfl⟩ all_nil,?_,?_⟩
   ·obtain ⟨z,_,rfl⟩:=List.mem_map.1 hc;rfl
   ·show ((((l.take i).map V8).map deA).length+1) * (_+1)≤_
    rw [List.length_map,List.length_map,List.length_take,Nat.min_eq_left (by omega)]
    exact Nat.le_trans (Nat.mul_le_mul_right _ (show i+1≤100001 by omega)) (Nat.le_of_ble_eq_true (by kernel_rfl))
   intro t' k1 k2
   have k3:=(ho2 _ _ _).grow k1 k2
   refine wr ?_
   refine ⟨(i+1,t'),?_,C5,⟨by simp only;omega,?_⟩,by simp only;omega⟩
   ·refine C1 ?_ (C1 (show AV.int .i64 (IntKind.i64.wrap ((i:Int)+1))=.int .i64 ((i+1:Nat):Int) from E3 (by omega) (by omega) (by omega)) rfl)
    show AV.slice _ _=.slice _ (((l.take (i+1)).map V8).map deA)
    rw [htk hlt];rfl
   ·have ez:∀ (z:Bool) (y:List AV),(z && [y].isEmpty)=false:=by intro z y;cases z<;>rfl
    have e2:(i+1 == 0)=false:=by simp
    show Own _ _ (i+1 == 0) t' _ _
    rw [ez] at k3
    rw [e2]
    exact k3
  ·have ht:l.take i=l:=List.take_of_length_le (by omega)
   refine ⟨s1,Sub.refl _,⟨t1,?_⟩,ho.sub⟩
   rw [ht]
   rfl
theorem A6r (x:Nat × Sy) (hx:x.2.2.1.length≤100000):B7 Tryz.prog Γ 64 [.agg (syA x)] fun v=>v=.agg (syA (A2v x)):=by
 refine aps Tryz.func64 ?_
 intro s
 conv=>whnf
 intro b hb
 refine wr ?_
 intro c hc
 conv=>whnf
 have hbc:=A8 A7 hc
 have hcb:c≠b:=fun h=>hbc h.symm
 have hc':=(D7 hc).2
 refine wr ?_;(first|(refine A6.pure' ?_ (B8j _ _ hx);rintro _ rfl)|refine C0.pure ?_ (B8j _ _ hx));refine wr ?_
 refine ⟨by (repeat (first|exact Sub.refl _|refine Sub.set ?_ hb _ _|refine Sub.set ?_ hc' _ _)),rfl⟩
theorem B6f (x:(Nat × Nat × Nat) × Tn) (hx:x.2.2.2.1.2.1.length≤100000∧x.2.2.2.2.1.length≤100000∧x.2.2.2.2.2.2.length≤100000):B7 Tryz.prog Γ 66 [.agg (tnA x)] fun v=>v=.agg (tnA (Y1 x)):=by
 refine aps Tryz.func66 ?_
 intro s
 conv=>whnf
 intro b hb
 refine wr ?_
 intro c hc
 conv=>whnf
 have hbc:=A8 A7 hc
 have hcb:c≠b:=fun h=>hbc h.symm
 have hc':=(D7 hc).2
 repeat' ((first|(refine brS (fun h=>?_) (fun h=>?_)<;>(try rw [h])<;>(try simp only [bS,↓reduceIte] at h))|refine E9 ?_|(refine A6.pure' ?_ (G9 _);rintro _ rfl)|refine C0.pure ?_ (G9 _)|(refine A6.pure' ?_ (A6r (x.1.1,x.2.2.2.1) hx.1);rintro _ rfl)|refine C0.pure ?_ (A6r (x.1.1,x.2.2.2.1) hx.1)|(refine A6.pure' ?_ (B8l _ _ hx.2.1);rintro _ rfl)|refine C0.pure ?_ (B8l _ _ hx.2.1)|(refine A6.pure' ?_ (B8o _ _ hx.2.2);rintro _ rfl)|refine C0.pure ?_ (B8o _ _ hx.2.2)|refine gS ?_|refine aA ?_|refine nA ?_|fail)<;>(conv=>whnf))
 refine ⟨by (repeat (first|exact Sub.refl _|refine Sub.set ?_ hb _ _|refine Sub.set ?_ hc' _ _)),rfl⟩
theorem B8q (t:Nat) (l:List (Nat × Sy)) (hl:l.length≤100000) (hm:∀ x ∈ l,x.2.2.1.length≤100000):B7 Tryz.prog Γ 63 [.slice t (l.map syA),.func (.func 64) [] []] fun v=>v=.slice 0 ((l.map A2v).map syA):=by
 refine B7.forget fun s=>?_
 have hml:(l.map syA).length=l.length:=List.length_map ..
 refine acs Tryz.func63 ?_
 refine wr ?_
 refine AWp.loopA [5,10] [11,12,13,7,14,15,16,17,18,19,20] (fun x:Nat × Nat=>[.slice x.2 (((l.take x.1).map A2v).map syA),.int .i64 x.1]) (fun x s'=>x.1≤l.length∧Own s s' (x.1 == 0) x.2 39 4) (fun x=>l.length - x.1) ((0,1)) (by kernel_rfl) (eqa) ?_ ?_
 ·exact ⟨by simp,Own.nil _ _ _⟩
 ·rintro y ⟨i,t1⟩ s1 ⟨hi,ho⟩
  simp only at hi ho
  conv=>whnf
  have hga:=fun h:i < l.length=>C4 (f:=syA) (l:=l) Y9 h
  have htk:=fun h:i < l.length=>M9 (f:=A2v) (A:=syA) Y9 h
  have hmx:=fun h:i < l.length=>hm _ (D9 Y9 h)
  generalize l.getD i Y9=u at *
  repeat' ((first|(refine brS (fun h=>?_) (fun h=>?_)<;>(try rw [h])<;>(try simp only [bS,↓reduceIte] at h))|(rw [show (l.map syA).getD ((i:Int)).toNat []=_ from hga (by omega)])|refine gS ?_|refine aA ?_|refine nA ?_|fail)<;>(conv=>whnf))
  ·have hlt:i < l.length:=by omega
   intro c hc
   conv=>whnf
   have hc':=ho.sub.none hc
   refine B6 A7 ?_
   refine wr ?_;(first|(refine A6.pure' ?_ (A6r u (hmx hlt));rintro _ rfl)|refine C0.pure ?_ (A6r u (hmx hlt)));refine wr ?_
   have ho2:=fun (T:TypeId) (a b:List AV)=>(ho.set (T:=T) (cs:=a) hc').set (T:=T) (cs:=b) hc'
   refine ⟨(ho2 _ _ _).may,fun c hc=>?_,all_cons ⟨rfl,rfl⟩ all_nil,?_,?_⟩
   ·obtain ⟨z,_,rfl⟩:=List.mem_map.1 hc;rfl
   ·show ((((l.take i).map A2v).map syA).length+1) * (_+1)≤_
    rw [List.length_map,List.length_map,List.length_take,Nat.min_eq_left (by omega)]
    exact Nat.le_trans (Nat.mul_le_mul_right _ (show i+1≤100001 by omega)) (Nat.le_of_ble_eq_true (by kernel_rfl))
   intro t' k1 k2
   have k3:=(ho2 _ _ _).grow k1 k2
   refine wr ?_
   refine ⟨(i+1,t'),?_,C5,⟨by simp only;omega,?_⟩,by simp only;omega⟩
   ·refine C1 ?_ (C1 (show AV.int .i64 (IntKind.i64.wrap ((i:Int)+1))=.int .i64 ((i+1:Nat):Int) from E3 (by omega) (by omega) (by omega)) rfl)
    show AV.slice _ _=.slice _ (((l.take (i+1)).map A2v).map syA)
    rw [htk hlt];rfl
   ·have ez:∀ (z:Bool) (y:List AV),(z && [y].isEmpty)=false:=by intro z y;cases z<;>rfl
    have e2:(i+1 == 0)=false:=by simp
    show Own _ _ (i+1 == 0) t' _ _
    rw [ez] at k3
    rw [e2]
    exact k3
  ·have ht:l.take i=l:=List.take_of_length_le (by omega)
   refine ⟨s1,Sub.refl _,⟨t1,?_⟩,ho.sub⟩
   rw [ht]
   rfl
theorem B8r (t:Nat) (l:List ((Nat × Nat × Nat) × Tn)) (hl:l.length≤100000) (hm:∀ x ∈ l,x.2.2.2.1.2.1.length≤100000∧x.2.2.2.2.1.length≤100000∧x.2.2.2.2.2.2.length≤100000):B7 Tryz.prog Γ 65 [.slice t (l.map tnA),.func (.func 66) [] []] fun v=>v=.slice 0 ((l.map Y1).map tnA):=by
 refine B7.forget fun s=>?_
 have hml:(l.map tnA).length=l.length:=List.length_map ..
 refine acs Tryz.func65 ?_
 refine wr ?_
 refine AWp.loopA [5,10] [11,12,13,7,14,15,16,17,18,19,20] (fun x:Nat × Nat=>[.slice x.2 (((l.take x.1).map Y1).map tnA),.int .i64 x.1]) (fun x s'=>x.1≤l.length∧Own s s' (x.1 == 0) x.2 43 13) (fun x=>l.length - x.1) ((0,1)) (by kernel_rfl) (eqa) ?_ ?_
 ·exact ⟨by simp,Own.nil _ _ _⟩
 ·rintro y ⟨i,t1⟩ s1 ⟨hi,ho⟩
  simp only at hi ho
  conv=>whnf
  have hga:=fun h:i < l.length=>C4 (f:=tnA) (l:=l) U1 h
  have htk:=fun h:i < l.length=>M9 (f:=Y1) (A:=tnA) U1 h
  have hmx:=fun h:i < l.length=>hm _ (D9 U1 h)
  generalize l.getD i U1=u at *
  repeat' ((first|(refine brS (fun h=>?_) (fun h=>?_)<;>(try rw [h])<;>(try simp only [bS,↓reduceIte] at h))|(rw [show (l.map tnA).getD ((i:Int)).toNat []=_ from hga (by omega)])|refine gS ?_|refine aA ?_|refine nA ?_|fail)<;>(conv=>whnf))
  ·have hlt:i < l.length:=by omega
   intro c hc
   conv=>whnf
   have hc':=ho.sub.none hc
   refine B6 A7 ?_
   refine wr ?_;(first|(refine A6.pure' ?_ (B6f u (hmx hlt));rintro _ rfl)|refine C0.pure ?_ (B6f u (hmx hlt)));refine wr ?_
   have ho2:=fun (T:TypeId) (a b:List AV)=>(ho.set (T:=T) (cs:=a) hc').set (T:=T) (cs:=b) hc'
   refine ⟨(ho2 _ _ _).may,fun c hc=>?_,all_cons ⟨rfl,rfl⟩ all_nil,?_,?_⟩
   ·obtain ⟨z,_,rfl⟩:=List.mem_map.1 hc;rfl
   ·show ((((l.take i).map Y1).map tnA).length+1) * (_+1)≤_
    rw [List.length_map,List.length_map,List.length_take,Nat.min_eq_left (by omega)]
    exact Nat.le_trans (Nat.mul_le_mul_right _ (show i+1≤100001 by omega)) (Nat.le_of_ble_eq_true (by kernel_rfl))
   intro t' k1 k2
   have k3:=(ho2 _ _ _).grow k1 k2
   refine wr ?_
   refine ⟨(i+1,t'),?_,C5,⟨by simp only;omega,?_⟩,by simp only;omega⟩
   ·refine C1 ?_ (C1 (show AV.int .i64 (IntKind.i64.wrap ((i:Int)+1))=.int .i64 ((i+1:Nat):Int) from E3 (by omega) (by omega) (by omega)) rfl)
    show AV.slice _ _=.slice _ (((l.take (i+1)).map Y1).map tnA)
    rw [htk hlt];rfl
   ·have ez:∀ (z:Bool) (y:List AV),(z && [y].isEmpty)=false:=by intro z y;cases z<;>rfl
    have e2:(i+1 == 0)=false:=by simp
    show Own _ _ (i+1 == 0) t' _ _
    rw [ez] at k3
    rw [e2]
    exact k3
  ·have ht:l.take i=l:=List.take_of_length_le (by omega)
   refine ⟨s1,Sub.refl _,⟨t1,?_⟩,ho.sub⟩
   rw [ht]
   rfl
end Go.Proofs.YticnkpgmmpenlaaGreatDoor.Tr
namespace Go.Proofs.YticnkpgmmpenlaaGreatDoor.Pr
open Go Go.Ab Go.RowKit Go.Proofs.YticnkpgmmpenlaaGreatDoor.Lx Go.Proofs.YticnkpgmmpenlaaGreatDoor.Pa
variable {L:List Tok} {R:List Tkn} {a:Nat}
theorem A5a {b:Bool} (h:b=true:=by rfl):b=true:=h
theorem B8y {b:Bool} (h:b=false:=by rfl):¬ b=true:=by rw [h];decide
def P2:List Tkn→List UInt8→Bool
 | [],_=>false
 | t::_,w=>(decide (t.1=2) || decide (t.1=5)) && decide (t.2=w)
theorem N7 (w:List UInt8):isF L a w=P2 (Tk L a) w:=by
 cases e:Tk L a with
 | nil =>
  have:=C38 e
  cases h:isF L a w
  ·rfl
  ·exact absurd (H0 h) (by omega)
 | cons t r=>rw [S2 trivial e];rfl
theorem B60 {l:List Tkn} (h:Tk L a=l):l.length≤L.length:=by
 have:=congrArg List.length h
 unfold Tk at this
 simp only [List.length_map,List.length_drop] at this
 omega
theorem A4z {s:List UInt8} (hs:Sc.D4 s=true) (h:Tk L a=(1,s)::R):∃ x,H9 L a=.ok (x,a+1)∧x.1=s:=by
 obtain ⟨h1,h2,_⟩:=P9 (L:=L) trivial h
 have hn:=(K1 hs).1
 refine ⟨(s,(C8 L a).2.2.1,(C8 L a).2.2.2),?_,rfl⟩
 unfold H9
 rw [if_neg (by rw [h1,h2];simp [hn]),h2]
theorem A74 {k:Int} {w:List UInt8} (hk:k=2∨k=5) (h:Tk L a=(k,w)::R):E5 L [w] a=.ok (a+1):=by
 unfold E5
 rw [N7,h,if_pos (by rcases hk with rfl|rfl<;>simp [P2])]
 rfl
theorem B1g {s w:List UInt8} {k:Int} (hk:k=2∨k=5) (hs:Sc.D4 s=true) (h:Tk L a=(1,s)::(k,w)::R):∃ x,Y8 L [w] a=.ok (x,a+2)∧x.1=s:=by
 obtain ⟨x,h1,h2⟩:=A4z hs h
 refine ⟨x,?_,h2⟩
 unfold Y8
 rw [h1]
 dsimp only
 rw [A74 hk (F5 h).2.2]
theorem C7h {k:Int} (hk:B4a k) (h:Tk L a=(2,Q4 k)::R):A2r L a=.ok (k,a+1):=by
 unfold B4a at hk
 unfold A2r
 simp only [N7,h]
 rcases (show k=1∨k=2∨k=3 by omega) with rfl|rfl|rfl
 ·rw [if_pos A5a]
 ·rw [if_neg B8y,if_pos A5a]
 ·rw [if_neg B8y,if_neg B8y,if_pos A5a]
theorem D3o {v:Tr.Vl} (hv:Tr.W0 v=true) (hf:Nu.Q7 v.2.1) (h:Tk L a=A07 v++R):M5 L a=.ok (v,a+(A07 v).length)∧(C8 L a).1≠1:=by
 obtain ⟨hv,_,_⟩:=W1 hv hf
 obtain ⟨vk,vi,vs,vb⟩:=v
 have nb:∀ k w r,k≠3→(k,w)≠((5:Int),([45]:List UInt8))→k≠2∨w≠[45]→Tk L a=(k,w)::r→V1 L a=false:=fun k w r h3 _ h5 hh=>by
  have hm:isF L a [45]=false:=by
   rw [N7,hh]
   unfold P2
   simp only
   rcases h5 with h5|h5
   ·by_cases e:k=5
    ·subst e;simp at *;assumption
    ·simp [h5,e]
   ·simp [h5]
  unfold V1
  rw [if_neg (by rw [hm];decide),(A3k hh).2];simp [h3]
 rcases hv with ⟨a1,a2,a3,a4,a5⟩|⟨a1,a2,a3⟩|⟨a1,a2,a3⟩
 ·simp only at a1 a2 a3 a4 a5
  subst a1 a4 a5
  obtain ⟨_,b2,_,b4⟩:=B9t (R:=R) ⟨a2,a3⟩ trivial h
  exact ⟨b4,b2⟩
 ·simp only at a1 a2 a3
  subst a1 a2 a3
  have h:Tk L a=(4,vs)::R:=h
  have hp:=P9 (L:=L) trivial h
  refine ⟨?_,by rw [hp.1];simp⟩
  unfold M5
  rw [if_neg (by rw [nb 4 vs R (by decide) (by simp) (.inl (by decide)) h];decide),if_pos hp.1,hp.2.1];rfl
 ·simp only at a1 a2 a3
  subst a1 a2 a3
  cases vb
  ·have h:Tk L a=(2,[102,97,108,115,101])::R:=h
   have hp:=P9 (L:=L) trivial h
   refine ⟨?_,by rw [hp.1];simp⟩
   unfold M5
   rw [if_neg (by rw [nb 2 _ R (by decide) (by simp) (.inr (by decide)) h];decide),if_neg (by rw [hp.1];decide),N7,h,if_neg B8y,N7,h,if_pos A5a];rfl
  ·have h:Tk L a=(2,[116,114,117,101])::R:=h
   have hp:=P9 (L:=L) trivial h
   refine ⟨?_,by rw [hp.1];simp⟩
   unfold M5
   rw [if_neg (by rw [nb 2 _ R (by decide) (by simp) (.inr (by decide)) h];decide),if_neg (by rw [hp.1];decide),N7,h,if_pos A5a];rfl
theorem D8e {x:Tr.Ar} (hx:C37 x) (h:Tk L a=A5h x++R):∃ y,A9o L a=.ok (y,a+(A5h x).length)∧Tr.A1s y=Tr.A1s x:=by
 obtain ⟨xk,xn,xv,xl,xc⟩:=x
 rcases hx with ⟨h1,h2,h3,h4⟩|⟨h1,h2,h3⟩|⟨h1,h2,h3⟩
 ·simp only at h1 h2 h3 h4
  subst h1 h2
  have e:A5h (1,[],xv,xl,xc)=A07 xv:=by unfold A5h;rw [if_pos rfl]
  rw [e] at h ⊢
  obtain ⟨v1,v2⟩:=D3o h3 h4 h
  refine ⟨(1,[],xv,(C8 L a).2.2.1,(C8 L a).2.2.2),?_,rfl⟩
  unfold A9o
  rw [if_neg (fun hh=>v2 hh.1),if_pos v2,v1]
 ·simp only at h1 h2 h3
  subst h1 h3
  have e:A5h (2,xn,Tr.R5,xl,xc)=[(1,xn)]:=by unfold A5h;rw [if_neg (by simp),if_pos rfl]
  rw [e] at h ⊢
  have h:Tk L a=(1,xn)::R:=h
  have hp:=P9 (L:=L) trivial h
  have hn:=(K1 h2).1
  refine ⟨(2,xn,Tr.R5,(C8 L a).2.2.1,(C8 L a).2.2.2),?_,rfl⟩
  unfold A9o
  rw [if_neg (fun hh=>hn (hp.2.1.symm.trans hh.2)),if_neg (fun hh=>hh hp.1),hp.2.1];rfl
 ·simp only at h1 h2 h3
  subst h1 h2 h3
  have h:Tk L a=(1,[95])::R:=h
  have hp:=P9 (L:=L) trivial h
  refine ⟨(3,[],Tr.R5,(C8 L a).2.2.1,(C8 L a).2.2.2),?_,rfl⟩
  unfold A9o
  rw [if_pos ⟨hp.1,hp.2.1⟩];rfl
section
variable {α β γ:Type} {one:Nat→Res (α × Nat)} {T:β→List Tkn} {p:α→γ} {q:β→γ}
theorem C3f:∀ (l:List β) (n:Nat) (acc:List α) (a:Nat),(∀ b ∈ l,∀ a R,Tk L a=T b++R→∃ x,one a=.ok (x,a+(T b).length)∧p x=q b)→l≠[]→l.length≤n→Tk L a=Q3 (l.map T)++(5,[41])::R→∃ xs,A0o L one n acc a=.ok (acc++xs,a+(Q3 (l.map T)).length+1)∧xs.map p=l.map q
 | [],n,acc,a,_,h,_,_=>absurd rfl h
 | _::_,0,acc,a,_,_,h,_=>by simp only [List.length_cons] at h;omega
 | [b],n+1,acc,a,hb,_,hn,h=>by
  obtain ⟨x,h1,h2⟩:=hb b List.mem_cons_self a _ h
  have ht:Tk L (a+(T b).length)=(5,[41])::R:=N9 h
  refine ⟨[x],?_,by rw [List.map_cons,h2];rfl⟩
  unfold A0o
  rw [h1]
  dsimp only
  rw [N7,ht,if_neg B8y,N7,ht,if_pos A5a];rfl
 | b::c::l,n+1,acc,a,hb,_,hn,h=>by
  have h:Tk L a=(T b++(5,[44])::Q3 ((c::l).map T))++(5,[41])::R:=h
  rw [List.append_assoc] at h
  obtain ⟨x,h1,h2⟩:=hb b List.mem_cons_self a _ h
  have ht:Tk L (a+(T b).length)=(5,[44])::(Q3 ((c::l).map T)++(5,[41])::R):=N9 h
  obtain ⟨xs,h3,h4⟩:=C3f (c::l) n (acc++[x]) (a+(T b).length+1) (fun z hz=>hb z (List.mem_cons_of_mem _ hz)) (by simp) (by simp only [List.length_cons] at hn ⊢;omega) (F5 ht).2.2
  refine ⟨x::xs,?_,by rw [List.map_cons,h2,h4];rfl⟩
  unfold A0o
  rw [h1]
  dsimp only
  rw [N7,ht,if_pos A5a,h3]
  have e:(Q3 ((b::c::l).map T)).length=(T b).length+1+(Q3 ((c::l).map T)).length:=by
   show (T b++(5,[44])::Q3 ((c::l).map T)).length=_
   rw [List.length_append,List.length_cons];omega
  rw [e,List.append_assoc]
  rw [show a+((T b).length+1+(Q3 ((c::l).map T)).length)+1=a+(T b).length+1+(Q3 ((c::l).map T)).length+1 by omega];rfl
theorem B5p:∀ (l:List β),(∀ b ∈ l,T b≠[])→l.length≤(Q3 (l.map T)).length
 | [],_=>Nat.zero_le _
 | [b],h=>by
  have:=List.length_pos_iff.2 (h b List.mem_cons_self)
  show 1≤(T b).length
  omega
 | b::c::l,h=>by
  have ih:=B5p (c::l) fun z hz=>h z (List.mem_cons_of_mem _ hz)
  show (c::l).length+1≤(T b++(5,[44])::Q3 ((c::l).map T)).length
  generalize Q3 ((c::l).map T)=q at *
  generalize (c::l).length=m at *
  rw [List.length_append,List.length_cons];omega
theorem C7i {l:List β} (hne:∀ b ∈ l,T b≠[]) (hd:∀ b ∈ l,∀ R,P2 (T b++R) [41]=false) (hb:∀ b ∈ l,∀ a R,Tk L a=T b++R→∃ x,one a=.ok (x,a+(T b).length)∧p x=q b) (h:Tk L a=(5,[40])::(Q3 (l.map T)++(5,[41])::R)) :
  ∃ xs,A2t L one a=.ok (xs,a+(Q3 (l.map T)).length+2)∧xs.map p=l.map q:=by
 have h1:=(F5 h).2.2
 have hl:=B5p l hne
 have hlen:=B60 h1
 rw [List.length_append] at hlen
 unfold A2t
 rw [N7,h,if_pos (by simp [P2])]
 match l,hne,hd,hb,h1,hl with
 | [],_,_,_,h1,_ =>
  rw [N7,h1]
  exact ⟨[],rfl,rfl⟩
 | b::l,hne,hd,hb,h1,hl =>
  have hd1:P2 (Tk L (a+1)) [41]=false:=by
   rw [h1]
   match l with
   | []=>exact hd b List.mem_cons_self _
   | c::l =>
    show P2 ((T b++(5,[44])::Q3 ((c::l).map T))++(5,[41])::R) [41]=false
    rw [List.append_assoc]
    exact hd b List.mem_cons_self _
  rw [N7,hd1,if_neg (by decide)]
  obtain ⟨xs,h3,h4⟩:=C3f (one:=one) (p:=p) (q:=q) (b::l) (L.length+1) [] (a+1) hb (by simp) (by omega) h1
  refine ⟨xs,?_,h4⟩
  rw [h3,List.nil_append]
  rw [show a+1+(Q3 ((b::l).map T)).length+1=a+(Q3 ((b::l).map T)).length+2 by omega]
end
def A5e (R:List Tkn):List (List UInt8)→Nat
 | []=>0
 | w::r=>if P2 R w=true then 0 else A5e R r+1
theorem A94:∀ ws:List (List UInt8),P3 L a ws=A5e (Tk L a) ws
 | []=>rfl
 | w::r=>by unfold P3 A5e;rw [N7,A94 r]
section
variable {α β γ:Type} {ws:List (List UInt8)} {one:Nat→Nat→Res (α × Nat)} {w:β→Nat} {T:β→List Tkn} {p:α→γ} {q:β→γ}
theorem C3g {K:List Tkn→Prop}:∀ (l:List β) (n:Nat) (acc:List α) (a:Nat),(∀ b ∈ l,T b≠[]∧∀ R,A5e (T b++R) ws=w b∧w b≠ws.length∧K (T b++R))→(∀ b ∈ l,∀ a R,K R→Tk L a=T b++R→∃ x,one (w b) (a+1)=.ok (x,a+(T b).length)∧p x=q b)→A5e R ws=ws.length→K R→l.length < n→Tk L a=M4 T l++R→∃ xs,H2 L ws one n acc a=.ok (acc++xs,a+(M4 T l).length)∧xs.map p=l.map q
 | _,0,acc,a,_,_,_,_,h,_=>absurd h (Nat.not_lt_zero _)
 | [],n+1,acc,a,_,_,hR,_,_,h=>by
  refine ⟨[],?_,rfl⟩
  unfold H2
  rw [A94,h]
  show (if A5e R ws=ws.length then _ else _)=_
  rw [if_pos hR,List.append_nil];rfl
 | b::l,n+1,acc,a,hw,hb,hR,hK,hn,h=>by
  have h:Tk L a=(T b++M4 T l)++R:=h
  rw [List.append_assoc] at h
  obtain ⟨w1,w2⟩:=hw b List.mem_cons_self
  obtain ⟨w3,w4,_⟩:=w2 (M4 T l++R)
  have hKl:K (M4 T l++R):=by
   match l,hw with
   | [],_=>exact hK
   | c::l,hw =>
    show K ((T c++M4 T l)++R)
    rw [List.append_assoc]
    exact ((hw c (List.mem_cons_of_mem _ List.mem_cons_self)).2 _).2.2
  obtain ⟨x,h1,h2⟩:=hb b List.mem_cons_self a _ hKl h
  obtain ⟨xs,h3,h4⟩:=C3g l n (acc++[x]) (a+(T b).length) (fun z hz=>hw z (List.mem_cons_of_mem _ hz)) (fun z hz=>hb z (List.mem_cons_of_mem _ hz)) hR hK (by simp only [List.length_cons] at hn;omega) (N9 h)
  refine ⟨x::xs,?_,by rw [List.map_cons,h2,h4];rfl⟩
  unfold H2
  rw [A94,h,w3,if_neg w4,h1]
  dsimp only
  rw [h3]
  have e:(M4 T (b::l)).length=(T b).length+(M4 T l).length:=by
   show (T b++M4 T l).length=_
   rw [List.length_append]
  rw [e,List.append_assoc,show a+((T b).length+(M4 T l).length)=a+(T b).length+(M4 T l).length by omega];rfl
theorem B2f:∀ (l:List β),(∀ b ∈ l,T b≠[])→l.length≤(M4 T l).length
 | [],_=>Nat.zero_le _
 | b::l,h=>by
  have ih:=B2f l fun z hz=>h z (List.mem_cons_of_mem _ hz)
  have:=List.length_pos_iff.2 (h b List.mem_cons_self)
  show l.length+1≤(T b++M4 T l).length
  rw [List.length_append];omega
theorem B1f {K:List Tkn→Prop} {l:List β} (hw:∀ b ∈ l,T b≠[]∧∀ R,A5e (T b++R) ws=w b∧w b≠ws.length∧K (T b++R)) (hb:∀ b ∈ l,∀ a R,K R→Tk L a=T b++R→∃ x,one (w b) (a+1)=.ok (x,a+(T b).length)∧p x=q b) (hR:A5e R ws=ws.length) (hK:K R) (h:Tk L a=M4 T l++R) :
  ∃ xs,P5 L ws one a=.ok (xs,a+(M4 T l).length)∧xs.map p=l.map q:=by
 have h1:=B2f l fun b hb=>(hw b hb).1
 have h2:=B60 h
 rw [List.length_append] at h2
 exact C3g l (L.length+1) [] a hw hb hR hK (by omega) h
end
def plS (s:Tr.Sy):Tr.Sy:=(s.1,s.2.1.map Tr.A1s,0,0)
theorem C1u {x:Tr.Ar} (hx:C37 x):A5h x≠[]∧∀ R,P2 (A5h x++R) [41]=false:=by
 obtain ⟨xk,xn,xv,xl,xc⟩:=x
 rcases hx with ⟨h1,h2,h3,h4⟩|⟨h1,h2,h3⟩|⟨h1,h2,h3⟩
 ·simp only at h1 h3 h4
  subst h1
  have e:A5h (1,xn,xv,xl,xc)=A07 xv:=by unfold A5h;rw [if_pos rfl]
  rw [e]
  unfold A07
  split
  ·split
   ·exact ⟨by simp,fun R=>rfl⟩
   ·exact ⟨by simp,fun R=>rfl⟩
  ·split
   ·exact ⟨by simp,fun R=>rfl⟩
   ·refine ⟨by simp,fun R=>?_⟩
    split<;>rfl
 ·simp only at h1
  subst h1
  exact ⟨by unfold A5h;rw [if_neg (by simp),if_pos rfl];simp,fun R=>by unfold A5h;rw [if_neg (by simp),if_pos rfl];rfl⟩
 ·simp only at h1
  subst h1
  exact ⟨by unfold A5h;rw [if_neg (by simp),if_neg (by simp)];simp,fun R=>by unfold A5h;rw [if_neg (by simp),if_neg (by simp)];rfl⟩
theorem D3m {s:Tr.Sy} (hs:B7m s) (h:Tk L a=A19 s++R):∃ y,N8 L a=.ok (y,a+(A19 s).length)∧plS y=plS s:=by
 unfold A19 at h ⊢
 rw [List.cons_append,List.cons_append,List.append_assoc] at h
 obtain ⟨x,h1,h2⟩:=A4z hs.1 h
 obtain ⟨xs,h3,h4⟩:=C7i (one:=A9o L) (p:=Tr.A1s) (q:=Tr.A1s) (fun b hb=>(C1u (hs.2 b hb)).1) (fun b hb=>(C1u (hs.2 b hb)).2) (fun b hb a R h=>D8e (hs.2 b hb) h) (F5 h).2.2
 refine ⟨(x.1,xs,x.2.1,x.2.2),?_,by unfold plS;rw [h4,h2]⟩
 unfold N8
 rw [h1]
 dsimp only
 rw [h3]
 simp only [List.length_cons,List.length_append,List.length_nil]
 rw [show a+1+(Q3 (s.2.1.map A5h)).length+2=a+((Q3 (s.2.1.map A5h)).length+(0+1)+1+1) by omega]
theorem C85 (k:Int) (R:List Tkn):P2 ([((2:Int),Q4 k)]++R) [41]=false:=by
 unfold Q4
 split
 ·rfl
 ·split
  ·rfl
  ·rfl
theorem D6i {d:Tr.De} (hd:D4v d) (h:Tk L a=B0i d++R):∃ y,A2m L (a+1)=.ok (y,a+(B0i d).length)∧(Tr.P7 y.1,y.2)=(Tr.P7 d.1,d.2):=by
 unfold B0i at h ⊢
 rw [List.cons_append,List.cons_append,List.cons_append,List.append_assoc] at h
 have h:=(F5 h).2.2
 obtain ⟨x,h1,h2⟩:=A4z hd.1 h
 obtain ⟨xs,h3,h4⟩:=C7i (one:=A2r L) (T:=fun k=>[((2:Int),Q4 k)]) (p:=id) (q:=id) (fun b hb=>by simp) (fun b hb R=>C85 b R) (fun b hb a R h=>⟨b,C7h (hd.2 b hb) h,rfl⟩) (F5 h).2.2
 rw [List.map_id,List.map_id] at h4
 refine ⟨(x,xs),?_,by unfold Tr.P7;rw [h4,h2]⟩
 unfold A2m
 rw [h1]
 dsimp only
 rw [h3]
 simp only [List.length_cons,List.length_append,List.length_nil]
 rw [show a+1+1+(Q3 (d.2.map fun k=>[((2:Int),Q4 k)])).length+2=a+((Q3 (d.2.map fun k=>[((2:Int),Q4 k)])).length+(0+1)+1+1+1) by omega]
theorem D3j {x:Tr.Qu} (hx:D4x x) (h:Tk L a=A6v x++R):∃ y,A0h L x.1 (a+1)=.ok (y,a+(A6v x).length)∧Tr.U9 y=Tr.U9 x:=by
 have h:Tk L a=(2,if x.1=true then wForall else S8)::(1,x.2.1.1)::(5,[58])::(2,Q4 x.2.2)::R:=h
 have h:=(F5 h).2.2
 obtain ⟨y,h1,h2⟩:=B1g (.inr rfl) hx.1 h
 have h3:=C7h hx.2 (F5 (F5 h).2.2).2.2
 refine ⟨(x.1,y,x.2.2),?_,by unfold Tr.U9 Tr.P7;rw [h2]⟩
 unfold A0h
 rw [h1]
 dsimp only
 rw [show a+1+2=a+1+1+1 by omega,h3]
 rfl
theorem D6k {x:Tr.Fr} (hx:D4w x) (h:Tk L a=B0q x++R):∃ y,A3e L (a+1)=.ok (y,a+(B0q x).length)∧Tr.Y0 y=Tr.Y0 x:=by
 have h:Tk L a=(2,A3f)::(1,x.1.1)::(5,[61])::(A07 x.2++R):=h
 have h:=(F5 h).2.2
 obtain ⟨y,h1,h2⟩:=B1g (.inr rfl) hx.1 h
 have h3:=(D3o hx.2.1 hx.2.2 (F5 (F5 h).2.2).2.2).1
 refine ⟨(y,x.2),?_,by unfold Tr.Y0 Tr.P7;rw [h2]⟩
 unfold A3e
 rw [h1]
 dsimp only
 rw [show a+1+2=a+1+1+1 by omega,h3]
 dsimp only
 have e:(B0q x).length=(A07 x.2).length+3:=rfl
 rw [e,show a+1+1+1+(A07 x.2).length=a+((A07 x.2).length+3) by omega]
theorem D3l {x:Tr.St} (hx:D4y x) (hR:P2 R R4=false) (h:Tk L a=A60 x++R):∃ y,A05 L x.2.1 (a+1)=.ok (y,a+(A60 x).length)∧Tr.A0q y=Tr.A0q x:=by
 have h:Tk L a=(2,if x.2.1=true then wNext else A21)::(1,x.1.1)::((if x.2.2=true then [(2,R4)] else [])++R):=h
 have h:=(F5 h).2.2
 obtain ⟨y,h1,h2⟩:=A4z hx h
 have h3:=(F5 h).2.2
 obtain ⟨xi,x1,x2⟩:=x
 refine ⟨(y,x1,x2),?_,by unfold Tr.A0q Tr.P7;rw [h2]⟩
 unfold A05
 rw [h1]
 dsimp only
 rw [N7,h3]
 cases x2
 ·simp only [Bool.false_eq_true,if_false,List.nil_append]
  rw [hR]
  rfl
 ·simp only [if_true]
  rw [show P2 ([(2,R4)]++R) R4=true by rfl]
  rfl
end Go.Proofs.YticnkpgmmpenlaaGreatDoor.Pr
namespace Go.Proofs.YticnkpgmmpenlaaGreatDoor.Pr
open Go Go.Ab Go.RowKit Go.Proofs.YticnkpgmmpenlaaGreatDoor.Lx Go.Proofs.YticnkpgmmpenlaaGreatDoor.Pa
variable {L:List Tok} {R:List Tkn} {a:Nat} {l:List Tr.Ex} {m:Nat} {st:St}
theorem D6j {x:Xt} (hx:x.Ok) (he:V2 0 R) (hd:st.d.length=st.o.length) (hk:st.k+x.opn≤128) (h64:x.dep≤64) (h:Tk L st.a=x.toks++R):∃ z,B5a L st=.ok z∧Got st z x:=by
 have h1:=Xt.A79 (x:=x)
 have h2:=B60 h
 rw [List.length_append] at h2
 exact A4i trivial (A1v L) 0 x (by decide) (C6x hx) (by unfold A1v;omega) st R ⟨hx,h,hd,he,hk,h64⟩
structure Far (l:List Tr.Ex) (st:St) (n:Nat):Prop where
 o:st.o.map B14=(l.take n).map coreT
 n:st.o.length=n
 d:st.d.length=st.o.length
 k:st.k=0
theorem C3i {lo:Nat} {i:Int} (hl:R8 l m) (hw:Whole l lo i) (hf:Far l st lo) (he:V2 0 R) (h:Tk L st.a=(gx l i).toks++R):∃ z,B5a L st=.ok z∧z.a=st.a+(gx l i).toks.length∧Far l z (i+1).toNat:=by
 have hF:=A61 hl hw
 obtain ⟨w1,w2,w3,w4⟩:=hw
 have hdep:=hF.dep
 have hopn:=hF.opn
 have hcnt:=hF.cnt
 obtain ⟨z,e,g⟩:=D6j hF.ok he hf.d (by rw [hf.k];omega) (by omega) h
 have hc:=hF.cores
 have gc:=g.cnt
 obtain ⟨o2,g1,g2⟩:=g.o
 have hn:=hf.n
 have hb:i.toNat+1 - (ndN l i.toNat).1.toNat=lo:=by omega
 rw [hb] at hc
 rw [hn] at g2
 refine ⟨z,e,g.a,⟨?_,by omega,g.dl,by rw [g.k];exact hf.k⟩⟩
 rw [g1,List.map_append,hf.o,g2,hc,← List.map_append,← List.take_add,show lo+(ndN l i.toNat).1.toNat=(i+1).toNat by omega]
theorem D3k {lo:Nat} {s:Tr.Se} (hl:R8 l m) (hn:Sc.D4 s.1.1=true) (hw:Whole l lo s.2) (hf:Far l st lo) (he:V2 0 R) (h:Tk L st.a=A89 l s++R):∃ y z,C1d L st=.ok (y,z)∧z.a=st.a+(A89 l s).length∧Far l z (s.2+1).toNat∧Tr.A4h y=Tr.A4h s:=by
 have h:Tk L st.a=(1,s.1.1)::(5,[61])::((gx l s.2).toks++R):=h
 obtain ⟨y,h1,h2⟩:=B1g (.inr rfl) hn h
 have h3:=(F5 (F5 h).2.2).2.2
 obtain ⟨z,e,z1,z2⟩:=C3i (st:={ st with a:=st.a+2 }) hl hw ⟨hf.o,hf.n,hf.d,hf.k⟩ he h3
 have hz:=z2.n
 have hi:(z.o.length:Int) - 1=s.2:=by rw [hz];have:=hw.1;omega
 refine ⟨(y,(z.o.length:Int) - 1),z,?_,?_,z2,?_⟩
 ·unfold C1d
  rw [h1]
  dsimp only
  rw [e]
 ·rw [z1]
  have:(A89 l s).length=(gx l s.2).toks.length+2:=rfl
  rw [this]
  show st.a+2+_=_
  omega
 ·unfold Tr.A4h Tr.P7
  rw [h2,hi]
theorem C4t (r:List Tkn):V2 0 ((5,[44])::r):=B0k (by decide) r
theorem C6n (r:List Tkn):V2 0 ((2,wTo)::r):=B0k (by decide) r
theorem D5j (r:List Tkn):V2 0 ((2,wDo)::r):=B0k (by decide) r
theorem C3h (hl:R8 l m) (hR:V2 0 R) (hc:P2 R [44]=false):∀ (ss:List Tr.Se) (n:Nat) (acc:List Tr.Se) (st:St) (lo:Nat),A25 l lo ss→ss≠[]→ss.length≤n→Far l st lo→Tk L st.a=Q3 (ss.map (A89 l))++R →
  ∃ xs z,A1w L n acc st=.ok (acc++xs,z)∧z.a=st.a+(Q3 (ss.map (A89 l))).length∧Far l z l.length∧xs.map Tr.A4h=ss.map Tr.A4h
 | [],n,acc,st,lo,_,h,_,_,_=>absurd rfl h
 | _::_,0,acc,st,lo,_,_,h,_,_=>by simp only [List.length_cons] at h;omega
 | [s],n+1,acc,st,lo,hs,_,hn,hf,h=>by
  obtain ⟨s1,s2,s3⟩:=hs
  obtain ⟨y,z,e,z1,z2,z3⟩:=D3k hl s1 s2 hf hR h
  have ht:Tk L z.a=R:=by rw [z1];exact N9 h
  have s3:(s.2+1).toNat=l.length:=s3
  rw [s3] at z2
  refine ⟨[y],z,?_,z1,z2,by rw [List.map_cons,z3];rfl⟩
  unfold A1w
  rw [e]
  dsimp only
  rw [N7,ht,hc,if_neg (by decide)]
 | s::u::ss,n+1,acc,st,lo,hs,_,hn,hf,h=>by
  obtain ⟨s1,s2,s3⟩:=hs
  have h:Tk L st.a=(A89 l s++(5,[44])::Q3 ((u::ss).map (A89 l)))++R:=h
  rw [List.append_assoc] at h
  obtain ⟨y,z,e,z1,z2,z3⟩:=D3k hl s1 s2 hf (C4t _) h
  have ht:Tk L z.a=(5,[44])::(Q3 ((u::ss).map (A89 l))++R):=by rw [z1];exact N9 h
  obtain ⟨xs,z',e',k1,k2,k3⟩:=C3h hl hR hc (u::ss) n (acc++[y]) { z with a:=z.a+1 } _ s3 (by simp) (by simp only [List.length_cons] at hn ⊢;omega) ⟨z2.o,z2.n,z2.d,z2.k⟩ (F5 ht).2.2
  refine ⟨y::xs,z',?_,?_,k2,by rw [List.map_cons,z3,k3];rfl⟩
  ·unfold A1w
   rw [e]
   dsimp only
   rw [N7,ht,if_pos A5a,e',List.append_assoc];rfl
  ·rw [k1]
   show z.a+1+_=st.a+(A89 l s++(5,[44])::Q3 ((u::ss).map (A89 l))).length
   rw [z1,List.length_append,List.length_cons];omega
def A6q (y:A3h):Tr.Idn × Tr.Idn × Tr.Sy × List Xt.D0s × Int × List Tr.Se:=(Tr.P7 y.from_,Tr.P7 y.to_,plS y.on,y.nodes.map B14,y.guard,y.sets.map Tr.A4h)
def Y1 (t:Tr.Tn):Tr.Idn × Tr.Idn × Tr.Sy × List Xt.D0s × Int × List Tr.Se:=(Tr.P7 t.1,Tr.P7 t.2.1,plS t.2.2.1,t.2.2.2.1.map coreT,t.2.2.2.2.1,t.2.2.2.2.2.map Tr.A4h)
theorem C0i {x y:Tr.Idn} (h:x.1=y.1):Tr.P7 x=Tr.P7 y:=by unfold Tr.P7;rw [h]
theorem D9v {t:Tr.Tn} {lo:Nat} (hl:R8 t.2.2.2.1 m) (hs:A25 t.2.2.2.1 lo t.2.2.2.2.2) (hn:Sc.D4 t.2.1.1=true) (hf:Far t.2.2.2.1 st lo) (h:Tk L st.a=doT t++R) :
  ∃ xs z y,doF L st=.ok (xs,z)∧E5 L [[116,111]] z.a=.ok (z.a+1)∧H9 L (z.a+1)=.ok (y,z.a+2)∧y.1=t.2.1.1∧z.a+2=st.a+(doT t).length∧Far t.2.2.2.1 z t.2.2.2.1.length∧xs.map Tr.A4h=t.2.2.2.2.2.map Tr.A4h:=by
 unfold doT at h ⊢
 by_cases he:t.2.2.2.2.2=[]
 ·rw [if_pos he] at h ⊢
  rw [he] at hs ⊢
  have hs:lo=t.2.2.2.1.length:=hs
  have h:Tk L st.a=(2,wTo)::(1,t.2.1.1)::R:=h
  obtain ⟨y,h1,h2⟩:=A4z hn (F5 h).2.2
  refine ⟨[],st,y,?_,A74 (.inl rfl) h,h1,h2,rfl,hs ▸ hf,rfl⟩
  unfold doF
  rw [N7,h,if_neg B8y]
 ·rw [if_neg he] at h ⊢
  rw [List.cons_append,List.append_assoc] at h
  have h1:=(F5 h).2.2
  have hlen:=B60 h1
  rw [List.length_append] at hlen
  have hj:=B5p (T:=A89 t.2.2.2.1) t.2.2.2.2.2 (fun b _=>by unfold A89;simp)
  obtain ⟨xs,z,e,z1,z2,z3⟩:=C3h (R:=toT t++R) hl (C6n _) rfl t.2.2.2.2.2 (L.length+1) [] { st with a:=st.a+1 } lo hs he (by omega) ⟨hf.o,hf.n,hf.d,hf.k⟩ h1
  have ht:Tk L z.a=(2,wTo)::(1,t.2.1.1)::R:=by rw [z1];exact N9 h1
  obtain ⟨y,h3,h4⟩:=A4z hn (F5 ht).2.2
  refine ⟨xs,z,y,?_,A74 (.inl rfl) ht,h3,h4,?_,z2,z3⟩
  ·unfold doF B9j
   rw [N7,h,if_pos A5a,e];rfl
  ·rw [z1,List.length_cons,List.length_append]
   show st.a+1+_+2=st.a+(_+2+1)
   omega
theorem D5h (t:Tr.Tn) (w:List UInt8) (h1:w≠wTo) (h2:w≠wDo) (R:List Tkn):P2 (doT t++R) w=false:=by
 unfold doT
 split
 ·show ((decide ((2:Int)=2) || decide ((2:Int)=5)) && decide (wTo=w))=false
  rw [decide_eq_false (Ne.symm h1),Bool.and_false]
 ·show ((decide ((2:Int)=2) || decide ((2:Int)=5)) && decide (wDo=w))=false
  rw [decide_eq_false (Ne.symm h2),Bool.and_false]
theorem D5g (t:Tr.Tn) (R:List Tkn):V2 0 (doT t++R):=by
 unfold doT
 split
 ·exact C6n _
 ·exact D5j _
theorem D3n {t:Tr.Tn} (ht:C39 t) (h:Tk L a=A0j t++R):∃ y,K3 L 0 a=.ok (y,a+(A0j t).length)∧A6q y=Y1 t:=by
 obtain ⟨h1,h2,h3,⟨m,hl⟩,h5⟩:=ht
 unfold A0j at h ⊢
 rw [List.cons_append,List.cons_append,List.append_assoc] at h
 obtain ⟨fr,f1,f2⟩:=B1g (.inl rfl) h1 h
 have h4:=(F5 (F5 h).2.2).2.2
 obtain ⟨sy,s1,s2⟩:=D3m h3 h4
 have h6:=N9 h4
 have far0:Far t.2.2.2.1 ⟨a+2+(A19 t.2.2.1).length,[],[],0⟩ 0:=⟨rfl,rfl,rfl,rfl⟩
 have key:∀ (g:Int) (s3:St) (lo:Nat),A1f L ⟨a+2+(A19 t.2.2.1).length,[],[],0⟩=.ok (g,s3)→g=t.2.2.2.2.1→A25 t.2.2.2.1 lo t.2.2.2.2.2→Far t.2.2.2.1 s3 lo→Tk L s3.a=doT t++R→s3.a+(doT t).length=a+2+(A19 t.2.2.1).length+(ifT t).length→∃ y,K3 L 0 a=.ok (y,a+((1,t.1.1)::(2,wOn)::(A19 t.2.2.1++ifT t)).length)∧A6q y=Y1 t:=by
  intro g s3 lo e1 e2 e3 e4 e5 e6
  obtain ⟨xs,z,tw,d1,d2,d3,d4,d5,d6,d7⟩:=D9v hl e3 h2 e4 e5
  refine ⟨⟨fr,tw,sy,z.o,g,xs⟩,?_,?_⟩
  ·unfold K3
   rw [show Y8 L [[111,110]] a=_ from f1]
   dsimp only
   rw [s1]
   dsimp only
   rw [e1]
   dsimp only
   rw [d1]
   dsimp only
   rw [d2]
   dsimp only
   rw [d3]
   dsimp only
   rw [List.length_cons,List.length_cons,List.length_append]
   rw [show z.a+2=a+((A19 t.2.2.1).length+(ifT t).length+1+1) by omega]
  ·have ho:=d6.o
   rw [List.take_length] at ho
   unfold A6q Y1
   simp only
   rw [C0i f2,C0i d4,s2,ho,e2,d7]
 unfold ifT at key h6 ⊢
 rcases h5 with ⟨g0,hs⟩|⟨hw,hs⟩
 ·rw [if_neg (by omega)] at key h6 ⊢
  refine key (-1) _ 0 ?_ g0.symm hs far0 h6 rfl
  unfold A1f
  rw [N7,show (⟨a+2+(A19 t.2.2.1).length,[],[],0⟩:St).a=a+1+1+(A19 t.2.2.1).length from rfl,h6,D5h t _ (by decide) (by decide),if_neg (by decide)]
 ·have hg:0≤t.2.2.2.2.1:=by have:=hw.1;omega
  rw [if_pos hg] at key h6 ⊢
  rw [List.cons_append,List.append_assoc] at h6
  have h7:=(F5 h6).2.2
  have h7':Tk L (⟨a+2+(A19 t.2.2.1).length+1,[],[],0⟩:St).a=(gx t.2.2.2.1 t.2.2.2.2.1).toks++(doT t++R):=by rw [← h7]
  obtain ⟨z,e,z1,z2⟩:=C3i (st:=⟨a+2+(A19 t.2.2.1).length+1,[],[],0⟩) hl hw ⟨rfl,rfl,rfl,rfl⟩ (D5g t R) h7'
  have hz:Tk L z.a=doT t++R:=by rw [z1];exact N9 h7'
  have hzn:=z2.n
  refine key ((z.o.length:Int) - 1) z _ ?_ (by rw [hzn];omega) hs z2 hz ?_
  ·unfold A1f
   rw [N7,show (⟨a+2+(A19 t.2.2.1).length,[],[],0⟩:St).a=a+1+1+(A19 t.2.2.1).length from rfl,h6,if_pos A5a]
   rw [show ({ (⟨a+1+1+(A19 t.2.2.1).length,[],[],0⟩:St) with a:=a+1+1+(A19 t.2.2.1).length+1 }:St)=⟨a+2+(A19 t.2.2.1).length+1,[],[],0⟩ by rw [show a+1+1=a+2 from rfl]]
   rw [e]
  ·rw [z1,List.length_cons,List.length_append]
   show a+2+(A19 t.2.2.1).length+1+_+_=_
   omega
theorem B9p (t:Tr.Tn):A0j t≠[]:=by unfold A0j;simp
theorem B9f:∀ (ts:List ((Nat × Nat × Nat) × Tr.Tn)) (n:Nat) (acc:List A3h) (a:Nat),(∀ t ∈ ts,C39 t.2)→ts.length < n→Tk L a=M4 (fun t:(Nat × Nat × Nat) × Tr.Tn=>A0j t.2) ts→∃ ys,A06 L n acc a=.ok (acc++ys)∧ys.map A6q=ts.map fun t=>Y1 t.2
 | _,0,acc,a,_,h,_=>absurd h (Nat.not_lt_zero _)
 | [],n+1,acc,a,_,_,h=>by
  have:=C38 h
  refine ⟨[],?_,rfl⟩
  unfold A06
  rw [if_neg (by omega),List.append_nil]
 | t::ts,n+1,acc,a,ht,hn,h=>by
  have h:Tk L a=A0j t.2++M4 (fun t:(Nat × Nat × Nat) × Tr.Tn=>A0j t.2) ts:=h
  obtain ⟨y,h1,h2⟩:=D3n (ht t List.mem_cons_self) h
  obtain ⟨ys,h3,h4⟩:=B9f ts n (acc++[y]) (a+(A0j t.2).length) (fun z hz=>ht z (List.mem_cons_of_mem _ hz)) (by simp only [List.length_cons] at hn;omega) (N9 h)
  have hlt:a < L.length:=by
   rcases Nat.lt_or_ge a L.length with hh|hh
   ·exact hh
   ·have:Tk L a=[]:=by unfold Tk;rw [List.drop_of_length_le hh];rfl
    rw [this] at h
    exact absurd (List.append_eq_nil_iff.1 h.symm).1 (B9p t.2)
  refine ⟨y::ys,?_,by rw [List.map_cons,h2,h4];rfl⟩
  unfold A06
  rw [if_pos hlt,h1]
  dsimp only
  rw [h3,List.append_assoc];rfl
theorem A2c:∀ {ws:List (List UInt8)},(∀ w ∈ ws,P2 R w=false)→A5e R ws=ws.length
 | [],_=>rfl
 | w::r,h=>by
  unfold A5e
  rw [h w List.mem_cons_self,if_neg (by decide),A2c fun z hz=>h z (List.mem_cons_of_mem _ hz)];rfl
theorem A0z {α:Type} {T:α→List Tkn} {l:List α} {w:List UInt8} (h1:∀ b ∈ l,∀ R,P2 (T b++R) w=false) (h2:P2 R w=false):P2 (M4 T l++R) w=false:=by
 cases l with
 | nil=>exact h2
 | cons b l =>
  show P2 ((T b++M4 T l)++R) w=false
  rw [List.append_assoc]
  exact h1 b List.mem_cons_self _
theorem D18 (w:List UInt8) (h1:w≠wForall) (h2:w≠S8) (q:Tr.Qu) (R:List Tkn):P2 (A6v q++R) w=false:=by
 show ((decide ((2:Int)=2) || decide ((2:Int)=5)) && decide ((if q.1=true then wForall else S8)=w))=false
 split
 ·rw [decide_eq_false (Ne.symm h1),Bool.and_false]
 ·rw [decide_eq_false (Ne.symm h2),Bool.and_false]
theorem B0u (w:List UInt8) (h1:w≠wNext) (h2:w≠A21) (s:Tr.St) (R:List Tkn):P2 (A60 s++R) w=false:=by
 show ((decide ((2:Int)=2) || decide ((2:Int)=5)) && decide ((if s.2.1=true then wNext else A21)=w))=false
 split
 ·rw [decide_eq_false (Ne.symm h1),Bool.and_false]
 ·rw [decide_eq_false (Ne.symm h2),Bool.and_false]
theorem C0h (v w:List UInt8) (h:w≠v) (R:List Tkn):P2 ((2,v)::R) w=false:=by
 show ((decide ((2:Int)=2) || decide ((2:Int)=5)) && decide (v=w))=false
 rw [decide_eq_false (Ne.symm h),Bool.and_false]
theorem D6l {x:Tr.Tr0} (h:C7w x) (hT:Tk L 0=C7t x):∃ hd ts,A1x L=.ok (hd,ts)∧hd.name.1=x.1.1∧(hd.decls.map fun d=>(Tr.P7 d.1,d.2))=(x.2.1.map fun d=>(Tr.P7 d.2.1,d.2.2))∧hd.quants.map Tr.U9=x.2.2.1.map Tr.U9∧hd.frees.map Tr.Y0=x.2.2.2.1.map Tr.Y0∧hd.states.map Tr.A0q=x.2.2.2.2.1.map Tr.A0q∧hd.start.1=x.2.2.2.2.2.1.1∧hd.also.map plS=(x.2.2.2.2.2.2.1.map fun s=>plS s.2)∧ts.map A6q=x.2.2.2.2.2.2.2.map fun t=>Y1 t.2:=by
 unfold C7t at hT
 have a1:=A74 (.inl rfl) hT
 have t1:=(F5 hT).2.2
 obtain ⟨nm,a2,n2⟩:=A4z h.name t1
 have t2:=(F5 t1).2.2
 have hts:∀ w,P2 (M4 (fun t:(Nat × Nat × Nat) × Tr.Tn=>A0j t.2) x.2.2.2.2.2.2.2) w=false:=fun w=>by
  have:=A0z (R:=[]) (T:=fun t:(Nat × Nat × Nat) × Tr.Tn=>A0j t.2) (l:=x.2.2.2.2.2.2.2) (w:=w) (fun b _ R=>rfl) rfl
  rwa [List.append_nil] at this
 have wst:∀ w R,w≠X5→P2 ((2,X5)::R) w=false:=fun w R hw=>C0h X5 w hw R
 obtain ⟨ds,a3,n3⟩:=B1f (K:=fun _=>True) (ws:=[A0k]) (one:=fun _=>A2m L) (w:=fun _=>0) (T:=fun d:Nat × Tr.De=>B0i d.2) (p:=fun d:Tr.De=>(Tr.P7 d.1,d.2)) (q:=fun d:Nat × Tr.De=>(Tr.P7 d.2.1,d.2.2)) (fun b _=>⟨by unfold B0i;simp,fun R=>⟨rfl,by decide,trivial⟩⟩) (fun b hb a R _ hh=>D6i (h.decls b hb) hh)
  (A2c fun w hw=>by
   rw [List.mem_singleton] at hw;subst hw
   exact A0z (fun b _=>D18 _ (by decide) (by decide) b) (A0z (fun b _ R=>C0h A3f _ (by decide) _) (A0z (fun b _=>B0u _ (by decide) (by decide) b) (wst _ _ (by decide))))) trivial t2
 have t3:=N9 t2
 obtain ⟨qs,a4,n4⟩:=B1f (K:=fun _=>True) (ws:=[S8,wForall]) (one:=fun i=>A0h L (decide (i=1))) (w:=fun q:Tr.Qu=>if q.1=true then 1 else 0) (T:=A6v) (p:=Tr.U9) (q:=Tr.U9) (fun b _=>⟨by unfold A6v;simp,fun R=>⟨by
   obtain ⟨b1,b2⟩:=b
   cases b1<;>rfl,by split<;>decide,trivial⟩⟩) (fun b hb a R _ hh=>by
   have:=D3j (h.quants b hb) hh
   rw [show decide ((if b.1=true then 1 else 0)=1)=b.1 by cases b.1<;>rfl]
   exact this)
  (A2c fun w hw=>by
   have hw:w=S8∨w=wForall:=by simpa using hw
   refine A0z (fun b _ R=>C0h A3f _ ?_ _) (A0z (fun b _=>B0u _ ?_ ?_ b) (wst _ _ ?_))<;>rcases hw with rfl|rfl<;>decide) trivial t3
 have t4:=N9 t3
 obtain ⟨fs,a5,n5⟩:=B1f (K:=fun _=>True) (ws:=[A3f]) (one:=fun _=>A3e L) (w:=fun _=>0) (T:=B0q) (p:=Tr.Y0) (q:=Tr.Y0) (fun b _=>⟨by unfold B0q;simp,fun R=>⟨rfl,by decide,trivial⟩⟩) (fun b hb a R _ hh=>D6k (h.frees b hb) hh)
  (A2c fun w hw=>by
   rw [List.mem_singleton] at hw;subst hw
   exact A0z (fun b _=>B0u _ (by decide) (by decide) b) (wst _ _ (by decide))) trivial t4
 have t5:=N9 t4
 obtain ⟨ss,a6,n6⟩:=B1f (K:=fun R=>P2 R R4=false) (ws:=[A21,wNext]) (one:=fun i=>A05 L (decide (i=1))) (w:=fun s:Tr.St=>if s.2.1=true then 1 else 0) (T:=A60) (p:=Tr.A0q) (q:=Tr.A0q) (fun b _=>⟨by unfold A60;simp,fun R=>⟨by
   obtain ⟨b1,b2,b3⟩:=b
   cases b2<;>rfl,by split<;>decide,B0u _ (by decide) (by decide) b R⟩⟩) (fun b hb a R hK hh=>by
   have:=D3l (h.states b hb) hK hh
   rw [show decide ((if b.2.1=true then 1 else 0)=1)=b.2.1 by cases b.2.1<;>rfl]
   exact this)
  (A2c fun w hw=>by
   have hw:w=A21∨w=wNext:=by simpa using hw
   refine wst _ _ ?_
   rcases hw with rfl|rfl<;>decide) (wst _ _ (by decide)) t5
 have t6:=N9 t5
 have a7:=A74 (.inl rfl) t6
 have t7:=(F5 t6).2.2
 obtain ⟨sn,a8,n8⟩:=A4z h.start t7
 have t8:=(F5 t7).2.2
 obtain ⟨al,a9,n9⟩:=B1f (K:=fun _=>True) (ws:=[R7]) (one:=fun _=>N8 L) (w:=fun _=>0) (T:=fun s:Nat × Tr.Sy=>(2,R7)::A19 s.2) (p:=plS) (q:=fun s:Nat × Tr.Sy=>plS s.2) (fun b _=>⟨by simp,fun R=>⟨rfl,by decide,trivial⟩⟩) (fun b hb a R _ hh=>by
   obtain ⟨y,k1,k2⟩:=D3m (h.also b hb) (F5 (show Tk L a=(2,R7)::(A19 b.2++R) from hh)).2.2
   refine ⟨y,?_,k2⟩
   rw [k1,List.length_cons,show a+1+(A19 b.2).length=a+((A19 b.2).length+1) by omega])
  (A2c fun w _=>hts w) trivial t8
 have t9:=N9 t8
 have hpos:=B2f (T:=fun t:(Nat × Nat × Nat) × Tr.Tn=>A0j t.2) x.2.2.2.2.2.2.2 (fun b _=>B9p b.2)
 have hlen:=B60 t9
 obtain ⟨ts,a10,n10⟩:=B9f x.2.2.2.2.2.2.2 (L.length+1) [] _ h.trans (by omega) t9
 refine ⟨⟨nm,ds,qs,fs,ss,sn,al⟩,ts,?_,n2,n3,n4,n5,n6,n8,n9,n10⟩
 unfold A1x U4
 rw [a1]
 dsimp only
 rw [a2]
 dsimp only
 rw [a3]
 dsimp only
 rw [a4]
 dsimp only
 rw [a5]
 dsimp only
 rw [a6]
 dsimp only
 rw [a7]
 dsimp only
 rw [a8]
 dsimp only
 rw [a9]
 dsimp only
 rw [a10]
 rfl
end Go.Proofs.YticnkpgmmpenlaaGreatDoor.Pr
namespace Go.Proofs.YticnkpgmmpenlaaGreatDoor.Tr
open Go Go.Ab Go.RowKit
def A6a (a:Ar):Bool :=
 if a.1=1 then decide (a.2.1=[]) && W0 a.2.2.1
 else if a.1=2 then Sc.D4 a.2.1 && decide (a.2.2.1=R5)
 else decide (a.1=3) && (decide (a.2.1=[]) && decide (a.2.2.1=R5))
def A2z (s:Nat × Sy):Bool:=Sc.D4 s.2.1 && s.2.2.1.all A6a
def A1h (k:Int):Bool:=decide (1≤k) && decide (k≤3)
def P6 (x:Idn):Bool:=Sc.D4 x.1
def whB (l:List Ex) (f root:Int):Bool:=decide (f≤root) && (decide (root < l.length) && (decide ((nd Sc.D4 l root.toNat).1=root - f+1) && decide ((nd Sc.D4 l root.toNat).2≤64)))
def R6 (l:List Ex):List Se→Int→Option Int
 | [],f=>some f
 | x::r,f=>if (P6 x.1 && whB l f x.2)=true then R6 l r (x.2+1) else none
def B2a (l:List Ex) (g:Int):Option Int:=if g = -1 then some 0 else if whB l 0 g=true then some (g+1) else none
def trB (x:(Nat × Nat × Nat) × Tn):Bool :=
 P6 x.2.1 && (P6 x.2.2.1 && (A2z (0,x.2.2.2.1) && decide ((B2a x.2.2.2.2.1 x.2.2.2.2.2.1).bind (R6 x.2.2.2.2.1 x.2.2.2.2.2.2)=some (x.2.2.2.2.1.length:Int))))
def A0i (x:Tr0):Bool :=
 P6 x.1 && (P6 x.2.2.2.2.2.1 && (x.2.1.all (fun d=>P6 d.2.1 && d.2.2.all A1h) && (x.2.2.1.all (fun q=>P6 q.2.1 && A1h q.2.2) && (x.2.2.2.1.all (fun f=>P6 f.1 && W0 f.2) &&
  (x.2.2.2.2.1.all (fun s=>P6 s.1) && (x.2.2.2.2.2.2.1.all A2z && x.2.2.2.2.2.2.2.all trB))))))
def A6p (x:Tr0):Tr0:=(P7 x.1,x.2.1.map V8,x.2.2.1.map U9,x.2.2.2.1.map Y0,x.2.2.2.2.1.map A0q,P7 x.2.2.2.2.2.1,x.2.2.2.2.2.2.1.map A2v,x.2.2.2.2.2.2.2.map Y1)
theorem C3a {x:Tr0} (h:A3b x):A3b (A6p x):=by
 obtain ⟨⟨h1,h2,h3,h4,h5,h6⟩,hd,hs,ht⟩:=h
 refine ⟨⟨by simpa [A6p] using h1,by simpa [A6p] using h2,by simpa [A6p] using h3,by simpa [A6p] using h4,by simpa [A6p] using h5,by simpa [A6p] using h6⟩,?_,?_,?_⟩
 ·intro d hm
  obtain ⟨z,hz,rfl⟩:=List.mem_map.1 (show d ∈ x.2.1.map V8 from hm)
  exact hd z hz
 ·intro d hm
  obtain ⟨z,hz,rfl⟩:=List.mem_map.1 (show d ∈ x.2.2.2.2.2.2.1.map A2v from hm)
  show (z.2.2.1.map A1s).length≤100000
  rw [List.length_map]
  exact hs z hz
 ·intro d hm
  obtain ⟨z,hz,rfl⟩:=List.mem_map.1 (show d ∈ x.2.2.2.2.2.2.2.map Y1 from hm)
  show (z.2.2.2.1.2.1.map A1s).length≤100000∧(z.2.2.2.2.1.map A5c).length≤100000∧(z.2.2.2.2.2.2.map A4h).length≤100000
  rw [List.length_map,List.length_map,List.length_map]
  exact ht z hz
end Go.Proofs.YticnkpgmmpenlaaGreatDoor.Tr
namespace Go.Proofs.YticnkpgmmpenlaaGreatDoor.Pr
open Go Go.Ab Go.RowKit Go.Proofs.YticnkpgmmpenlaaGreatDoor.Lx Go.Proofs.YticnkpgmmpenlaaGreatDoor.Pa
structure D0v (x:Tr.Tr0):Prop where
 frees:∀ f ∈ x.2.2.2.1,Nu.Q7 f.2.2.1
 also:∀ s ∈ x.2.2.2.2.2.2.1,∀ a ∈ s.2.2.1,Nu.Q7 a.2.2.1.2.1
 on:∀ t ∈ x.2.2.2.2.2.2.2,∀ a ∈ t.2.2.2.1.2.1,Nu.Q7 a.2.2.1.2.1
 nodes:∀ t ∈ x.2.2.2.2.2.2.2,∃ m,R8 t.2.2.2.2.1 m
theorem D43 {a:Tr.Ar} (h:Tr.A6a a=true) (hf:Nu.Q7 a.2.2.1.2.1):C37 a:=by
 unfold Tr.A6a at h
 split at h
 ·rename_i h1
  rw [Bool.and_eq_true,decide_eq_true_eq] at h
  exact .inl ⟨h1,h.1,h.2,hf⟩
 ·split at h
  ·rename_i h1
   rw [Bool.and_eq_true,decide_eq_true_eq] at h
   exact .inr (.inl ⟨h1,h.1,h.2⟩)
  ·simp only [Bool.and_eq_true,decide_eq_true_eq] at h
   exact .inr (.inr ⟨h.1,h.2.1,h.2.2⟩)
theorem C7p {s:Nat × Tr.Sy} (h:Tr.A2z s=true) (hf:∀ a ∈ s.2.2.1,Nu.Q7 a.2.2.1.2.1):B7m s.2:=by
 unfold Tr.A2z at h
 rw [Bool.and_eq_true,List.all_eq_true] at h
 exact ⟨h.1,fun a ha=>D43 (h.2 a ha) (hf a ha)⟩
theorem C6v {k:Int} (h:Tr.A1h k=true):B4a k:=by
 unfold Tr.A1h at h
 simpa [B4a] using h
theorem C36 {l:List Tr.Ex} {f root:Int} (h0:0≤f) (h:Tr.whB l f root=true):Whole l f.toNat root:=by
 unfold Tr.whB at h
 simp only [Bool.and_eq_true,decide_eq_true_eq] at h
 obtain ⟨h1,h2,h3,h4⟩:=h
 refine ⟨by omega,h2,?_,h4⟩
 show (Tr.nd Sc.D4 l root.toNat).1=_
 omega
theorem B2n {l:List Tr.Ex}:∀ (ss:List Tr.Se) (f:Int),0≤f→Tr.R6 l ss f=some (l.length:Int)→A25 l f.toNat ss
 | [],f,h0,h=>by
  have h:some f=some (l.length:Int):=h
  show f.toNat=l.length
  injection h with h
  omega
 | s::r,f,h0,h=>by
  unfold Tr.R6 at h
  split at h
  ·rename_i hw
   rw [Bool.and_eq_true] at hw
   have hwh:=C36 h0 hw.2
   have:=hwh.1
   exact ⟨hw.1,hwh,B2n r (s.2+1) (by omega) h⟩
  ·cases h
theorem C7r {t:(Nat × Nat × Nat) × Tr.Tn} (h:Tr.trB t=true) (hf:∀ a ∈ t.2.2.2.1.2.1,Nu.Q7 a.2.2.1.2.1) (hl:∃ m,R8 t.2.2.2.2.1 m):C39 t.2:=by
 unfold Tr.trB at h
 simp only [Bool.and_eq_true,decide_eq_true_eq] at h
 obtain ⟨h1,h2,h3,h4⟩:=h
 refine ⟨h1,h2,C7p (s:=(0,t.2.2.2.1)) h3 hf,hl,?_⟩
 unfold Tr.B2a at h4
 split at h4
 ·rename_i hg
  exact .inl ⟨hg,B2n t.2.2.2.2.2.2 0 (by decide) h4⟩
 ·split at h4
  ·rename_i hw
   have hwh:=C36 (by decide) hw
   have:=hwh.1
   exact .inr ⟨hwh,B2n t.2.2.2.2.2.2 _ (by simp only [Int.toNat_zero] at this;omega) h4⟩
  ·cases h4
theorem C7s {x:Tr.Tr0} (h:Tr.A0i x=true) (hf:D0v x):C7w x:=by
 unfold Tr.A0i at h
 simp only [Bool.and_eq_true,List.all_eq_true] at h
 obtain ⟨h1,h2,h3,h4,h5,h6,h7,h8⟩:=h
 exact ⟨h1,fun d hd=>⟨(h3 d hd).1,fun k hk=>C6v ((h3 d hd).2 k hk)⟩,fun q hq=>⟨(h4 q hq).1,C6v (h4 q hq).2⟩,fun f hf'=>⟨(h5 f hf').1,(h5 f hf').2,hf.frees f hf'⟩,h6,h2,fun s hs=>C7p (h7 s hs) (hf.also s hs),fun t ht=>C7r (h8 t ht) (hf.on t ht) (hf.nodes t ht)⟩
def exT (e:Ex):Tr.Ex:=(e.op,e.a,e.b,e.name,(e.vk,e.vi,e.vs,e.vb),e.ln,e.cl)
def A9a (t:A3h):Tr.Tn:=(t.from_,t.to_,t.on,t.nodes.map exT,t.guard,t.sets)
def C1h (h:Head) (ts:List A3h):Tr.Tr0:=(h.name,h.decls.map fun d=>(0,d),h.quants,h.frees,h.states,h.start,h.also.map fun s=>(0,s),ts.map fun t=>((0,0,0),A9a t))
theorem D6f {o:List Ex} {l:List Tr.Ex} (h:o.map B14=l.map coreT):(o.map exT).map Tr.A5c=l.map Tr.A5c:=by
 have e1:∀ o:List Ex,(o.map exT).map Tr.A5c=(o.map B14).map fun c=>((c.1,c.2.1,c.2.2.1,c.2.2.2.1,c.2.2.2.2,0,0):Tr.Ex):=fun o=>by
  rw [List.map_map,List.map_map];rfl
 have e2:∀ l:List Tr.Ex,l.map Tr.A5c=(l.map coreT).map fun c=>((c.1,c.2.1,c.2.2.1,c.2.2.2.1,c.2.2.2.2,0,0):Tr.Ex):=fun l=>by
  rw [List.map_map];rfl
 rw [e1,e2,h]
theorem D9t {y:A3h} {t:Tr.Tn} (h:A6q y=Y1 t):(Tr.Y1 ((0,0,0),A9a y)).2=(Tr.Y1 ((0,0,0),t)).2:=by
 unfold A6q Y1 at h
 simp only [Prod.mk.injEq] at h
 obtain ⟨h1,h2,h3,h4,h5,h6⟩:=h
 unfold Tr.Y1 A9a
 simp only
 have h3':(Tr.A2v (0,y.on)).2=(Tr.A2v (0,t.2.2.1)).2:=h3
 rw [h1,h2,h3',D6f h4,h5,h6]
theorem D2r:∀ {ts:List A3h} {us:List ((Nat × Nat × Nat) × Tr.Tn)},ts.map A6q=us.map (fun t=>Y1 t.2)→ts.map (fun y=>(Tr.Y1 ((0,0,0),A9a y)).2)=us.map fun u=>(Tr.Y1 u).2
 | [],[],_=>rfl
 | [],_::_,h=>by cases h
 | _::_,[],h=>by cases h
 | y::ts,u::us,h=>by
  simp only [List.map_cons,List.cons.injEq] at h ⊢
  exact ⟨(D9t h.1).trans rfl,D2r h.2⟩
theorem D7z {x:Tr.Tr0} {hd:Head} {ts:List A3h} (h1:hd.name.1=x.1.1) (h2:(hd.decls.map fun d=>(Tr.P7 d.1,d.2))=(x.2.1.map fun d=>(Tr.P7 d.2.1,d.2.2))) (h3:hd.quants.map Tr.U9=x.2.2.1.map Tr.U9) (h4:hd.frees.map Tr.Y0=x.2.2.2.1.map Tr.Y0) (h5:hd.states.map Tr.A0q=x.2.2.2.2.1.map Tr.A0q) (h6:hd.start.1=x.2.2.2.2.2.1.1) (h7:hd.also.map plS=(x.2.2.2.2.2.2.1.map fun s=>plS s.2)) (h8:ts.map A6q=x.2.2.2.2.2.2.2.map fun t=>Y1 t.2) :
  Tr.A5b (Tr.A6p (C1h hd ts))=Tr.A5b (Tr.A6p x):=by
 unfold Tr.A5b Tr.A3m Tr.A6p C1h
 simp only [List.map_map,Prod.mk.injEq]
 refine ⟨⟨C0i h1,C0i h6,?_,h3,h4,h5⟩,?_,?_⟩
 ·exact h2
 ·exact h7
 ·exact D2r h8
theorem C5u {x:Tr.Tr0} (h:C7w x) (hl:(X9 x).length≤65536):∃ hd ts,A29 (X9 x) A1x=.ok (hd,ts)∧Tr.A5b (Tr.A6p (C1h hd ts))=Tr.A5b (Tr.A6p x):=by
 obtain ⟨L,a1,a2,_,_⟩:=C6y (D2o h) hl
 obtain ⟨hd,ts,e,k1,k2,k3,k4,k5,k6,k7,k8⟩:=D6l h a2
 refine ⟨hd,ts,?_,D7z k1 k2 k3 k4 k5 k6 k7 k8⟩
 unfold A29
 rw [a1]
 dsimp only
 rw [e]
end Go.Proofs.YticnkpgmmpenlaaGreatDoor.Pr
namespace Go.Proofs.YticnkpgmmpenlaaGreatDoor.Pa
open Go Go.Ab Go.RowKit Go.Proofs.YticnkpgmmpenlaaGreatDoor.Lx Go.Proofs.YticnkpgmmpenlaaGreatDoor.Pr
variable {Γ:Nat→AV}
attribute [local irreducible] B7 Sto.set Sto.grow
section
variable {s0 s:Sto} {bp bl:Nat} {L:List Tok} {a:Nat} {o:List Ex} {d:List Int} {k:Int}
theorem Pst.clear (hP:Pst s0 s bp bl L a o d k) (cs:List AV):Pst s0 ((s.set bp 123 cs).set bp 123 [.ptr (some ⟨bl,0,none⟩),.slice 1 [],.slice 1 [],.int .i64 k]) bp bl L a [] [] k:=by
 obtain ⟨np,nl,ne,⟨t1,t2,e1,e2,e3,e4⟩,pl⟩:=hP
 exact ⟨np,nl,ne,⟨1,1,A7,Own.start ((e2.sub.set np _ _).set np _ _) _ _,Own.start ((e2.sub.set np _ _).set np _ _) _ _,fun _=>rfl⟩,(A9 ne.symm).trans ((A9 ne.symm).trans pl)⟩
theorem Pst.swap {b:Nat} {T:TypeId} {cs:List AV} (hP:Pst (s0.set b T cs) s bp bl L a o d k) (hb:s0.bx b=none) (h1:b≠bp) (h2:b≠bl) (cs':List AV):Pst (s0.set b T cs') (s.set b T cs') bp bl L a o d k :=
 ((hP.drop hb).1.put hb h1 h2 T cs').keep A7 h1 h2
theorem C21 {α:Type} {one:Nat→Res (α × Nat)} (hm:∀ a x a1,one a=.ok (x,a1)→a < a1∧a1≤L.length):∀ (n:Nat) (acc:List α) (a:Nat) (xs:List α) (a':Nat),a≤L.length→L.length+1≤n+a→A0o L one n acc a=.ok (xs,a')→a < a'∧a'≤L.length
 | 0,_,_,_,_,h1,h2,_=>by omega
 | n+1,acc,a,xs,a',h1,h2,h=>by
  unfold A0o at h
  split at h
  ·cases h
  ·rename_i x a1 hx
   obtain ⟨k1,k2⟩:=hm _ _ _ hx
   split at h
   ·rename_i hc
    have:=H0 hc
    obtain ⟨g1,g2⟩:=C21 hm n _ _ _ _ (by omega) (by omega) h
    omega
   ·split at h
    ·rename_i hc
     have:=H0 hc
     cases h
     omega
    ·cases h
theorem C62 {α:Type} {one:Nat→Res (α × Nat)} (hm:∀ a x a1,one a=.ok (x,a1)→a < a1∧a1≤L.length) {xs:List α} {a':Nat} (h:A2t L one a=.ok (xs,a')):a < a'∧a'≤L.length:=by
 unfold A2t at h
 split at h
 ·rename_i hc
  have:=H0 hc
  split at h
  ·rename_i hd
   have:=H0 hd
   cases h
   omega
  ·have:=C21 hm _ _ _ _ _ (by omega) (by omega) h
   omega
 ·cases h
theorem A1c {x:Tr.Sy} {a':Nat} (h:N8 L a=.ok (x,a')):a < a'∧a'≤L.length:=by
 unfold N8 at h
 split at h
 ·cases h
 ·rename_i hn
  split at h
  ·cases h
  ·rename_i hl
   cases h
   have:=A1i hn
   have:=C62 B4q hl
   omega
theorem A8m {x:Tr.De} {a':Nat} (h:A2m L a=.ok (x,a')):a < a'∧a'≤L.length:=by
 unfold A2m at h
 split at h
 ·cases h
 ·rename_i hn
  split at h
  ·cases h
  ·rename_i hl
   cases h
   have:=A1i hn
   have:=C62 A8u hl
   omega
theorem A4l:∀ (n:Nat) (acc:List Tr.Se) (st:St) (xs:List Tr.Se) (z:St),M7 L st→L.length+1≤n+st.a→A1w L n acc st=.ok (xs,z)→M7 L z∧st.a < z.a∧z.k=st.k
 | 0,_,st,_,_,hk,h2,_=>by have:=hk.ha;omega
 | n+1,acc,st,xs,z,hk,h2,h=>by
  unfold A1w at h
  split at h
  ·cases h
  ·rename_i x s2 hx
   obtain ⟨g1,g2,g3⟩:=B6r hk hx
   split at h
   ·rename_i hc
    have hlt:=H0 hc
    obtain ⟨e1,e2,e3⟩:=A4l n _ { s2 with a:=s2.a+1 } _ _ ⟨hlt,by have:=g1.ho;simp only;omega,g1.hd,g1.hk⟩ (by simp only;omega) h
    simp only at e2 e3
    exact ⟨e1,by omega,e3.trans g3⟩
   ·cases h;exact ⟨g1,g2,g3⟩
def C56 (s0:Sto) (bp bl:Nat) (L:List Tok) (k:Int) (r:Res (A3h × Nat)) (v:AV) (s':Sto):Prop :=
 match r with
 | .ok (x,a')=>v=.tuple [.agg (Tr.tnA ((0,0,0),A9a x)),.nilIface]∧∃ o d,Pst s0 s' bp bl L a' o d k
 | .error x=>∃ y e a o d k,v=.tuple [.agg (Tr.tnA ((0,0,0),y)),e]∧A84 x e∧Pst s0 s' bp bl L a o d k
def D6u (s0:Sto) (bp bl:Nat) (L:List Tok) (k:Int) (r:Res (A3h × Nat)) (v:AV) (s':Sto):Prop :=
 match r with
 | .ok (x,a')=>(∃ t,v=.tuple [.agg (Tr.tnA (t,A9a x)),.nilIface])∧∃ o d,Pst s0 s' bp bl L a' o d k
 | .error x=>∃ t y e a o d k,v=.tuple [.agg (Tr.tnA (t,y)),e]∧A84 x e∧Pst s0 s' bp bl L a o d k
theorem D7a (t:Nat × Nat × Nat) (x:Tr.Tn):Le (.agg (Tr.tnA (t,x))) (.agg (Tr.tnA ((0,0,0),x))):=Le.agg (LeL.cons (Le.refl _) (LeL.cons (Le.refl _) (LeL.cons (Le.refl _) (LeL.cons (Le.refl _) (LeL.cons (Le.refl _) (LeL.cons (Le.refl _) (LeL.cons (Le.refl _) (LeL.cons (Le.slice0 _ _) (LeL.cons (Le.refl _) (LeL.cons (Le.refl _) (LeL.cons (Le.slice0 _ _) (LeL.cons (Le.refl _) (LeL.cons (Le.slice0 _ _) LeL.nil)))))))))))))
theorem C31 {f:FuncId} {args:List AV} {r:Res (A3h × Nat)} (h:A6 Tryz.prog Γ f args s (D6u s0 bp bl L k r)):A6 Tryz.prog Γ f args s (C56 s0 bp bl L k r):=by
 refine h.less fun v s' hv=>?_
 rcases r with z|⟨x,a'⟩
 ·obtain ⟨t,y,e,a',o',d',k',rfl,he,hP⟩:=hv
  exact ⟨_,s',Le.tuple (LeL.cons (D7a t y) (LeL.cons (Le.refl _) LeL.nil)),A2k.refl _,y,e,a',o',d',k',rfl,he,hP⟩
 ·obtain ⟨⟨t,rfl⟩,hP⟩:=hv
  exact ⟨_,s',Le.tuple (LeL.cons (D7a t _) (LeL.cons (Le.refl _) LeL.nil)),A2k.refl _,rfl,hP⟩
theorem A7s (o:List Ex):L9 o=(o.map exT).map Tr.exA:=by
 rw [List.map_map];rfl
theorem B1s {w:List UInt8} {a2:Nat} (h:E5 L [w] a=.ok a2):a < L.length:=by
 rw [E5] at h
 split at h
 ·rename_i hi;exact H0 hi
 ·cases h
theorem D4n (hR:Nu.A0l Γ) (hL:L.length≤66000) (hT:∀ i,(C8 L i).2.1.length≤5000) (hP:Pst s0 s bp bl L a o d k) (hk:0≤k∧k≤128) (ha:a≤66000) :
  A6 Tryz.prog Γ 106 [.ptr (some ⟨bp,0,none⟩)] s (C56 s0 bp bl L k (K3 L k a)):=by
 refine C31 ?_
 refine acs Tryz.func106 ?_
 conv=>whnf
 intro b2 hb2
 obtain ⟨m1,m2⟩:=hP.nb hb2
 have d2:s0.bx b2=none:=hP.sub.none hb2
 have c2:=d2
 have hP2:=(hP.box hb2 43 [.str [],.int .i64 0,.int .i64 0,.str [],.int .i64 0,.int .i64 0,.str [],.slice 1 [],.int .i64 0,.int .i64 0,.slice 1 [],.int .i64 0,.slice 1 []]).keep (T:=43) (cs:=[.str [],.int .i64 0,.int .i64 0,.str [],.int .i64 0,.int .i64 0,.str [],.slice 1 [],.int .i64 0,.int .i64 0,.slice 1 [],.int .i64 0,.slice 1 []]) A7 m1 m2
 generalize s.set b2 43 [.str [],.int .i64 0,.int .i64 0,.str [],.int .i64 0,.int .i64 0,.str [],.slice 1 [],.int .i64 0,.int .i64 0,.slice 1 [],.int .i64 0,.slice 1 []]=sa at *
 refine wp ?_
 intro b4 hb4
 obtain ⟨m3,m4⟩:=hP2.nb hb4
 have c4:=hP2.sub.none hb4
 have hP4:=((hP2.box hb4 43 [.str [],.int .i64 0,.int .i64 0,.str [],.int .i64 0,.int .i64 0,.str [],.slice 1 [],.int .i64 0,.int .i64 0,.slice 1 [],.int .i64 0,.slice 1 []]).put c4 m3 m4 43 (Tr.tnA ((1,1,1),(Tr.J0,Tr.J0,([],[],0,0),[],-1,[])))).keep (b:=b4) (T:=43) (cs:=Tr.tnA ((1,1,1),(Tr.J0,Tr.J0,([],[],0,0),[],-1,[]))) A7 m3 m4
 obtain ⟨t1,t2,hbp4,_⟩:=hP4.pr
 have hP5:=hP4.clear [.ptr (some ⟨bl,0,none⟩),.slice 1 [],.slice t2 (G6 .i64 d),.int .i64 k]
 have hn:=B02 (Γ:=Γ) hP5 (by omega) (by omega) [[111,110]] (by decide) 1
 refine wp ?_
 refine A6.by hn ?_
 intro v s5 hv5
 unfold M2 at hv5
 rcases hnf:Y8 L [[111,110]] a with x|⟨fr,a1⟩
 ·have eE:K3 L k a=.error x:=by unfold K3;rw [hnf]
  rw [hnf] at hv5
  obtain ⟨y,e,a',rfl,⟨kd,tx,rfl⟩,hPv⟩:=hv5
  have hq4:=(Pst.drop hPv c4).2
  have hPe:=hPv.swap c4 m3 m4 (Tr.tnA ((1,1,1),(y,Tr.J0,([],[],0,0),[],-1,[])))
  simp only [Tr.tnA] at hq4
  obtain ⟨hPx,hbx4⟩:=Pst.drop hPe c4
  obtain ⟨hPy,hbx2⟩:=Pst.drop hPx c2
  simp only [Tr.tnA] at hbx4
  refine wp ?_
  refine ⟨_,Sub.refl _,?_⟩
  rw [eE]
  exact ⟨(1,1,1),(y,Tr.J0,([],[],0,0),[],-1,[]),_,_,_,_,_,rfl,⟨kd,tx,rfl⟩,hPy.put d2 m1 m2 _ _⟩
 have e1:K3 L k a=match N8 L a1 with
  | .error e=>.error e
  | .ok (sy,a2)=>match A1f L ⟨a2,[],[],k⟩ with
   | .error e=>.error e
   | .ok (g,s3)=>match doF L s3 with
    | .error e=>.error e
    | .ok (ses,s4)=>match E5 L [[116,111]] s4.a with
     | .error e=>.error e
     | .ok a5=>match H9 L a5 with
      | .error e=>.error e
      | .ok (tw,a6)=>.ok (⟨fr,tw,sy,s4.o,g,ses⟩,a6):=by unfold K3;rw [hnf];rfl
 obtain ⟨ha1,ha1'⟩:=A5u hnf
 rw [hnf] at hv5
 obtain ⟨rfl,hPv⟩:=hv5
 have hq4:=(Pst.drop hPv c4).2
 have hPw:=hPv.swap c4 m3 m4 (Tr.tnA ((1,1,1),(fr,Tr.J0,([],[],0,0),[],-1,[])))
 simp only [Tr.tnA] at hq4
 have hsy:=B9m (Γ:=Γ) hR hT hPw hL (by omega)
 refine wp ?_
 refine A6.by hsy ?_
 intro v s6 hv6
 unfold M2 at hv6
 clear hq4
 rcases hsf:N8 L a1 with x|⟨sy,a2⟩
 ·have eE:K3 L k a=.error x:=by rw [e1,hsf]
  rw [hsf] at hv6
  obtain ⟨y,e,a',rfl,⟨kd,tx,rfl⟩,hPv6⟩:=hv6
  have hq4:=(Pst.drop hPv6 c4).2
  have hPe:=hPv6.swap c4 m3 m4 (Tr.tnA ((0,1,1),(fr,Tr.J0,y,[],-1,[])))
  simp only [Tr.tnA] at hq4
  obtain ⟨hPx,hbx4⟩:=Pst.drop hPe c4
  obtain ⟨hPy,hbx2⟩:=Pst.drop hPx c2
  simp only [Tr.tnA] at hbx4
  refine wp ?_
  refine ⟨_,Sub.refl _,?_⟩
  rw [eE]
  exact ⟨(0,1,1),(fr,Tr.J0,y,[],-1,[]),_,_,_,_,_,rfl,⟨kd,tx,rfl⟩,hPy.put d2 m1 m2 _ _⟩
 have e2:K3 L k a=match A1f L ⟨a2,[],[],k⟩ with
   | .error e=>.error e
   | .ok (g,s3)=>match doF L s3 with
    | .error e=>.error e
    | .ok (ses,s4)=>match E5 L [[116,111]] s4.a with
     | .error e=>.error e
     | .ok a5=>match H9 L a5 with
      | .error e=>.error e
      | .ok (tw,a6)=>.ok (⟨fr,tw,sy,s4.o,g,ses⟩,a6):=by rw [e1,hsf]
 clear e1
 obtain ⟨ha2,ha2'⟩:=A1c hsf
 rw [hsf] at hv6
 obtain ⟨rfl,hPv6⟩:=hv6
 have hq4:=(Pst.drop hPv6 c4).2
 have hPg0:=hPv6.swap c4 m3 m4 (Tr.tnA ((0,1,1),(fr,Tr.J0,sy,[],-1,[])))
 simp only [Tr.tnA] at hq4
 have htg:=W6 (Γ:=Γ) hPg0 (by omega) (by omega) [105,102]
 conv=>whnf
 cases hif:isF L a2 [105,102]
 ·have eGd:K3 L k a=match doF L ⟨a2,[],[],k⟩ with
    | .error e=>.error e
    | .ok (ses,s4)=>match E5 L [[116,111]] s4.a with
     | .error e=>.error e
     | .ok a5=>match H9 L a5 with
      | .error e=>.error e
      | .ok (tw,a6)=>.ok (⟨fr,tw,sy,s4.o,-1,ses⟩,a6):=by
   rw [e2,show A1f L ⟨a2,[],[],k⟩=.ok (-1,⟨a2,[],[],k⟩) by unfold A1f;rw [if_neg (by rw [hif];decide)]]
  clear e2
  rw [hif] at htg
  simp only [Bool.false_eq_true,if_false] at htg
  refine wp ?_;(refine A6.by htg ?_;rintro _ s7 ⟨rfl,hPd⟩);refine wp ?_
  clear hq4
  have hokg:a2 < L.length→M7 L ⟨a2,[],[],k⟩:=fun h=>⟨Nat.le_of_lt h,Nat.zero_le _,rfl,hk⟩
  have htd:=W6 (Γ:=Γ) hPd (by omega) (by omega) [100,111]
  conv=>whnf
  cases hdo:isF L a2 [100,111]
  ·have eD:doF L ⟨a2,[],[],k⟩=.ok ([],⟨a2,[],[],k⟩):=by unfold doF;rw [if_neg (by rw [hdo];decide)]
   have eW:∀ x,E5 L [[116,111]] a2=.error x→K3 L k a=.error x:=fun x h=>by rw [eGd,eD];simp only;rw [h]
   have eN:∀ a5,E5 L [[116,111]] a2=.ok a5→∀ x,H9 L a5=.error x→K3 L k a=.error x:=fun a5 h x h2=>by rw [eGd,eD];simp only;rw [h];simp only;rw [h2]
   have eT:∀ a5,E5 L [[116,111]] a2=.ok a5→∀ tw a6,H9 L a5=.ok (tw,a6)→K3 L k a=.ok (⟨fr,tw,sy,[],(-1),[]⟩,a6):=fun a5 h tw a6 h2=>by rw [eGd,eD];simp only;rw [h];simp only;rw [h2]
   rw [hdo] at htd
   simp only [Bool.false_eq_true,if_false] at htd
   refine wp ?_;(refine A6.by htd ?_;rintro _ sf ⟨rfl,hPt⟩);refine wp ?_
   have hw:=A1q (Γ:=Γ) hPt (by omega) (by omega) [[116,111]] (by decide) 1
   refine wp ?_
   refine A6.by hw ?_
   intro v sg hvg
   unfold A9i at hvg
   rcases hwf:E5 L [[116,111]] a2 with xe|a5
   ·have eE:=eW _ hwf
    rw [hwf] at hvg
    obtain ⟨a',⟨kd,tx,rfl⟩,hPe⟩:=hvg
    have hq4:=True.intro
    obtain ⟨hPx,hbx4⟩:=Pst.drop hPe c4
    obtain ⟨hPy,hbx2⟩:=Pst.drop hPx c2
    simp only [Tr.tnA] at hbx4
    refine wp ?_
    refine ⟨_,Sub.refl _,?_⟩
    rw [eE]
    exact ⟨(0,1,1),(fr,Tr.J0,sy,[],(-1),[]),_,_,_,_,_,rfl,⟨kd,tx,rfl⟩,hPy.put d2 m1 m2 _ _⟩
   ·have hE5:=eN _ hwf
    have hK5:=eT _ hwf
    have ha5:=A3t hwf
    have hl5:=B1s hwf
    simp only [List.length_cons,List.length_nil] at ha5
    rw [hwf] at hvg
    obtain ⟨rfl,hPg⟩:=hvg
    have hnn:=A1j (Γ:=Γ) hPg (by omega) (by omega)
    refine wp ?_
    refine A6.by hnn ?_
    intro v sh hvh
    unfold M2 at hvh
    rcases hnf2:H9 L a5 with xe|⟨tw,a6⟩
    ·rw [hnf2] at hvh
     obtain ⟨yt,e,a',rfl,⟨kd,tx,rfl⟩,hPh⟩:=hvh
     have hq4:=(Pst.drop hPh c4).2
     have hPi:=hPh.swap c4 m3 m4 (Tr.tnA ((0,1,1),(fr,yt,sy,[],(-1),[])))
     obtain ⟨u1,u2,hbp9,_⟩:=hPi.pr
     rw [A7s] at hbp9
     have hPj:=hPi.swap c4 m3 m4 (Tr.tnA ((0,u1,1),(fr,yt,sy,([]).map exT,(-1),[])))
     obtain ⟨hPx,hbx4⟩:=Pst.drop hPj c4
     obtain ⟨hPy,hbx2⟩:=Pst.drop hPx c2
     simp only [Tr.tnA] at hq4 hbp9
     refine wp ?_
     refine ⟨_,Sub.refl _,?_⟩
     rw [hE5 _ hnf2]
     exact ⟨(0,u1,1),(fr,yt,sy,([]).map exT,(-1),[]),_,_,_,_,_,rfl,⟨kd,tx,rfl⟩,hPy.put d2 m1 m2 _ _⟩
    ·rw [hnf2] at hvh
     obtain ⟨rfl,hPh⟩:=hvh
     have hq4:=(Pst.drop hPh c4).2
     have hPi:=hPh.swap c4 m3 m4 (Tr.tnA ((0,1,1),(fr,tw,sy,[],(-1),[])))
     obtain ⟨u1,u2,hbp9,_⟩:=hPi.pr
     rw [A7s] at hbp9
     have hPj:=hPi.swap c4 m3 m4 (Tr.tnA ((0,u1,1),(fr,tw,sy,([]).map exT,(-1),[])))
     obtain ⟨hPx,hbx4⟩:=Pst.drop hPj c4
     obtain ⟨hPy,hbx2⟩:=Pst.drop hPx c2
     simp only [Tr.tnA] at hq4 hbp9
     refine wp ?_
     refine ⟨_,Sub.refl _,?_⟩
     rw [hK5 _ _ hnf2]
     exact ⟨⟨(0,u1,1),rfl⟩,_,_,hPy.put d2 m1 m2 _ _⟩
  ·have hlt:=H0 hdo
   have hokd:M7 L (⟨a2+1,[],[],k⟩:St):=⟨hlt,by have:=hokg hlt;have:=this.ho;simp only at this ⊢;omega,(hokg hlt).hd,(hokg hlt).hk⟩
   rw [hdo] at htd
   simp only [if_true] at htd
   refine wp ?_;(refine A6.by htd ?_;rintro _ sf ⟨rfl,hPf⟩);refine wp ?_
   have hss:=C7k (Γ:=Γ) (st:=(⟨a2+1,[],[],k⟩:St)) hR hL hT hPf hokd
   refine wp ?_
   refine A6.by hss ?_
   intro v sf2 hvf
   unfold C9t at hvf
   rcases hsf:B9j L (⟨a2+1,[],[],k⟩:St) with xe|⟨ses,s4⟩
   ·have eD:doF L ⟨a2,[],[],k⟩=.error xe:=by unfold doF;rw [if_pos hdo];exact hsf
    have eE:K3 L k a=.error xe:=by rw [eGd,eD]
    rw [hsf] at hvf
    obtain ⟨yy,e,a',o',d',k',rfl,⟨kd,tx,rfl⟩,hPf2⟩:=hvf
    have hq4:=(Pst.drop hPf2 c4).2
    have hPe:=hPf2.swap c4 m3 m4 (Tr.tnA ((0,1,0),(fr,Tr.J0,sy,[],(-1),yy)))
    simp only [Tr.tnA] at hq4
    obtain ⟨hPx,hbx4⟩:=Pst.drop hPe c4
    obtain ⟨hPy,hbx2⟩:=Pst.drop hPx c2
    simp only [Tr.tnA] at hbx4
    refine wp ?_
    refine ⟨_,Sub.refl _,?_⟩
    rw [eE]
    exact ⟨(0,1,0),(fr,Tr.J0,sy,[],(-1),yy),_,_,_,_,_,rfl,⟨kd,tx,rfl⟩,hPy.put d2 m1 m2 _ _⟩
   ·have eD:doF L ⟨a2,[],[],k⟩=.ok (ses,s4):=by unfold doF;rw [if_pos hdo];exact hsf
    obtain ⟨hg4,hg5,hg6⟩:=A4l _ _ _ _ _ hokd (by simp only;omega) hsf
    obtain ⟨a4,o4,d4,k4⟩:=s4
    obtain rfl:k=k4:=hg6.symm
    have eW:∀ x,E5 L [[116,111]] a4=.error x→K3 L k a=.error x:=fun x h=>by rw [eGd,eD];simp only;rw [h]
    have eN:∀ a5,E5 L [[116,111]] a4=.ok a5→∀ x,H9 L a5=.error x→K3 L k a=.error x:=fun a5 h x h2=>by rw [eGd,eD];simp only;rw [h];simp only;rw [h2]
    have eT:∀ a5,E5 L [[116,111]] a4=.ok a5→∀ tw a6,H9 L a5=.ok (tw,a6)→K3 L k a=.ok (⟨fr,tw,sy,o4,(-1),ses⟩,a6):=fun a5 h tw a6 h2=>by rw [eGd,eD];simp only;rw [h];simp only;rw [h2]
    have ha4:a4≤L.length:=hg4.ha
    rw [hsf] at hvf
    obtain ⟨rfl,hPf2⟩:=hvf
    dsimp only at hPf2
    have hq4:=(Pst.drop hPf2 c4).2
    have hPt:=hPf2.swap c4 m3 m4 (Tr.tnA ((0,1,0),(fr,Tr.J0,sy,[],(-1),ses)))
    simp only [Tr.tnA] at hq4
    refine wp ?_
    have hw:=A1q (Γ:=Γ) hPt (by omega) (by omega) [[116,111]] (by decide) 1
    refine wp ?_
    refine A6.by hw ?_
    intro v sg hvg
    unfold A9i at hvg
    rcases hwf:E5 L [[116,111]] a4 with xe|a5
    ·have eE:=eW _ hwf
     rw [hwf] at hvg
     obtain ⟨a',⟨kd,tx,rfl⟩,hPe⟩:=hvg
     have hq4:=True.intro
     obtain ⟨hPx,hbx4⟩:=Pst.drop hPe c4
     obtain ⟨hPy,hbx2⟩:=Pst.drop hPx c2
     simp only [Tr.tnA] at hbx4
     refine wp ?_
     refine ⟨_,Sub.refl _,?_⟩
     rw [eE]
     exact ⟨(0,1,0),(fr,Tr.J0,sy,[],(-1),ses),_,_,_,_,_,rfl,⟨kd,tx,rfl⟩,hPy.put d2 m1 m2 _ _⟩
    ·have hE5:=eN _ hwf
     have hK5:=eT _ hwf
     have ha5:=A3t hwf
     have hl5:=B1s hwf
     simp only [List.length_cons,List.length_nil] at ha5
     rw [hwf] at hvg
     obtain ⟨rfl,hPg⟩:=hvg
     have hnn:=A1j (Γ:=Γ) hPg (by omega) (by omega)
     refine wp ?_
     refine A6.by hnn ?_
     intro v sh hvh
     unfold M2 at hvh
     rcases hnf2:H9 L a5 with xe|⟨tw,a6⟩
     ·rw [hnf2] at hvh
      obtain ⟨yt,e,a',rfl,⟨kd,tx,rfl⟩,hPh⟩:=hvh
      have hq4:=(Pst.drop hPh c4).2
      have hPi:=hPh.swap c4 m3 m4 (Tr.tnA ((0,1,0),(fr,yt,sy,[],(-1),ses)))
      obtain ⟨u1,u2,hbp9,_⟩:=hPi.pr
      rw [A7s] at hbp9
      have hPj:=hPi.swap c4 m3 m4 (Tr.tnA ((0,u1,0),(fr,yt,sy,(o4).map exT,(-1),ses)))
      obtain ⟨hPx,hbx4⟩:=Pst.drop hPj c4
      obtain ⟨hPy,hbx2⟩:=Pst.drop hPx c2
      simp only [Tr.tnA] at hq4 hbp9
      refine wp ?_
      refine ⟨_,Sub.refl _,?_⟩
      rw [hE5 _ hnf2]
      exact ⟨(0,u1,0),(fr,yt,sy,(o4).map exT,(-1),ses),_,_,_,_,_,rfl,⟨kd,tx,rfl⟩,hPy.put d2 m1 m2 _ _⟩
     ·rw [hnf2] at hvh
      obtain ⟨rfl,hPh⟩:=hvh
      have hq4:=(Pst.drop hPh c4).2
      have hPi:=hPh.swap c4 m3 m4 (Tr.tnA ((0,1,0),(fr,tw,sy,[],(-1),ses)))
      obtain ⟨u1,u2,hbp9,_⟩:=hPi.pr
      rw [A7s] at hbp9
      have hPj:=hPi.swap c4 m3 m4 (Tr.tnA ((0,u1,0),(fr,tw,sy,(o4).map exT,(-1),ses)))
      obtain ⟨hPx,hbx4⟩:=Pst.drop hPj c4
      obtain ⟨hPy,hbx2⟩:=Pst.drop hPx c2
      simp only [Tr.tnA] at hq4 hbp9
      refine wp ?_
      refine ⟨_,Sub.refl _,?_⟩
      rw [hK5 _ _ hnf2]
      exact ⟨⟨(0,u1,0),rfl⟩,_,_,hPy.put d2 m1 m2 _ _⟩
 ·have hlt:=H0 hif
  have hokg0:M7 L ⟨a2+1,[],[],k⟩:=⟨hlt,Nat.zero_le _,rfl,hk⟩
  rw [hif] at htg
  simp only [if_true] at htg
  refine wp ?_;(refine A6.by htg ?_;rintro _ s7 ⟨rfl,hPd0⟩);refine wp ?_
  clear hq4
  have he:=(C0t hR (by omega) hT (A1v L)).1 _ _ _ _ ⟨a2+1,[],[],k⟩ hPd0 hokg0 (V6 L _)
  have hg:=P8 (A1v L) 0 ⟨a2+1,[],[],k⟩ (by omega) hokg0 (V6 L _)
  refine A6.by he ?_
  intro v s8 hv8
  rcases hr:ev L (A1v L) 0 ⟨a2+1,[],[],k⟩ with x|s3
  ·have eE:K3 L k a=.error x:=by
    rw [e2,show A1f L ⟨a2,[],[],k⟩=.error x by unfold A1f;rw [if_pos hif];unfold B5a;rw [hr]]
   rw [hr] at hv8
   obtain ⟨⟨kd,tx,rfl⟩,a',o',d',k',hPe⟩:=hv8
   have hq4:=True.intro
   obtain ⟨hPx,hbx4⟩:=Pst.drop hPe c4
   obtain ⟨hPy,hbx2⟩:=Pst.drop hPx c2
   simp only [Tr.tnA] at hbx4
   refine wp ?_
   refine ⟨_,Sub.refl _,?_⟩
   rw [eE]
   exact ⟨(0,1,1),(fr,Tr.J0,sy,[],-1,[]),_,_,_,_,_,rfl,⟨kd,tx,rfl⟩,hPy.put d2 m1 m2 _ _⟩
  ·obtain ⟨g1,g2⟩:=hg s3 hr
   obtain ⟨a3,o3,d3,k3⟩:=s3
   obtain rfl:k=k3:=g2.k.symm
   have eGd:K3 L k a=match doF L ⟨a3,o3,d3,k⟩ with
     | .error e=>.error e
     | .ok (ses,s4)=>match E5 L [[116,111]] s4.a with
      | .error e=>.error e
      | .ok a5=>match H9 L a5 with
       | .error e=>.error e
       | .ok (tw,a6)=>.ok (⟨fr,tw,sy,s4.o,(o3.length:Int) - 1,ses⟩,a6):=by
    rw [e2,show A1f L ⟨a2,[],[],k⟩=.ok ((o3.length:Int) - 1,⟨a3,o3,d3,k⟩) by unfold A1f;rw [if_pos hif];unfold B5a;rw [hr]]
   clear e2
   have gl:a3≤L.length:=g1.ha
   have go:o3.length≤a3:=g1.ho
   have hokg:a3 < L.length→M7 L ⟨a3,o3,d3,k⟩:=fun _=>g1
   rw [hr] at hv8
   obtain ⟨rfl,hPv8⟩:=hv8
   dsimp only at hPv8
   have hla:=A6n (Γ:=Γ) hPv8 (by omega)
   have hq4:=(Pst.drop hPv8 c4).2
   have hPd:=hPv8.swap c4 m3 m4 (Tr.tnA ((0,1,1),(fr,Tr.J0,sy,[],(o3.length:Int) - 1,[])))
   simp only [Tr.tnA] at hq4
   refine wp ?_;(refine A6.by hla ?_;rintro _ s9 ⟨rfl,hs9⟩;subst s9);refine wp ?_
   clear hq4
   have htd:=W6 (Γ:=Γ) hPd (by omega) (by omega) [100,111]
   conv=>whnf
   cases hdo:isF L a3 [100,111]
   ·have eD:doF L ⟨a3,o3,d3,k⟩=.ok ([],⟨a3,o3,d3,k⟩):=by unfold doF;rw [if_neg (by rw [hdo];decide)]
    have eW:∀ x,E5 L [[116,111]] a3=.error x→K3 L k a=.error x:=fun x h=>by rw [eGd,eD];simp only;rw [h]
    have eN:∀ a5,E5 L [[116,111]] a3=.ok a5→∀ x,H9 L a5=.error x→K3 L k a=.error x:=fun a5 h x h2=>by rw [eGd,eD];simp only;rw [h];simp only;rw [h2]
    have eT:∀ a5,E5 L [[116,111]] a3=.ok a5→∀ tw a6,H9 L a5=.ok (tw,a6)→K3 L k a=.ok (⟨fr,tw,sy,o3,((o3.length:Int) - 1),[]⟩,a6):=fun a5 h tw a6 h2=>by rw [eGd,eD];simp only;rw [h];simp only;rw [h2]
    rw [hdo] at htd
    simp only [Bool.false_eq_true,if_false] at htd
    refine wp ?_;(refine A6.by htd ?_;rintro _ sf ⟨rfl,hPt⟩);refine wp ?_
    have hw:=A1q (Γ:=Γ) hPt (by omega) (by omega) [[116,111]] (by decide) 1
    refine wp ?_
    refine A6.by hw ?_
    intro v sg hvg
    unfold A9i at hvg
    rcases hwf:E5 L [[116,111]] a3 with xe|a5
    ·have eE:=eW _ hwf
     rw [hwf] at hvg
     obtain ⟨a',⟨kd,tx,rfl⟩,hPe⟩:=hvg
     have hq4:=True.intro
     obtain ⟨hPx,hbx4⟩:=Pst.drop hPe c4
     obtain ⟨hPy,hbx2⟩:=Pst.drop hPx c2
     simp only [Tr.tnA] at hbx4
     refine wp ?_
     refine ⟨_,Sub.refl _,?_⟩
     rw [eE]
     exact ⟨(0,1,1),(fr,Tr.J0,sy,[],((o3.length:Int) - 1),[]),_,_,_,_,_,rfl,⟨kd,tx,rfl⟩,hPy.put d2 m1 m2 _ _⟩
    ·have hE5:=eN _ hwf
     have hK5:=eT _ hwf
     have ha5:=A3t hwf
     have hl5:=B1s hwf
     simp only [List.length_cons,List.length_nil] at ha5
     rw [hwf] at hvg
     obtain ⟨rfl,hPg⟩:=hvg
     have hnn:=A1j (Γ:=Γ) hPg (by omega) (by omega)
     refine wp ?_
     refine A6.by hnn ?_
     intro v sh hvh
     unfold M2 at hvh
     rcases hnf2:H9 L a5 with xe|⟨tw,a6⟩
     ·rw [hnf2] at hvh
      obtain ⟨yt,e,a',rfl,⟨kd,tx,rfl⟩,hPh⟩:=hvh
      have hq4:=(Pst.drop hPh c4).2
      have hPi:=hPh.swap c4 m3 m4 (Tr.tnA ((0,1,1),(fr,yt,sy,[],((o3.length:Int) - 1),[])))
      obtain ⟨u1,u2,hbp9,_⟩:=hPi.pr
      rw [A7s] at hbp9
      have hPj:=hPi.swap c4 m3 m4 (Tr.tnA ((0,u1,1),(fr,yt,sy,(o3).map exT,((o3.length:Int) - 1),[])))
      obtain ⟨hPx,hbx4⟩:=Pst.drop hPj c4
      obtain ⟨hPy,hbx2⟩:=Pst.drop hPx c2
      simp only [Tr.tnA] at hq4 hbp9
      refine wp ?_
      refine ⟨_,Sub.refl _,?_⟩
      rw [hE5 _ hnf2]
      exact ⟨(0,u1,1),(fr,yt,sy,(o3).map exT,((o3.length:Int) - 1),[]),_,_,_,_,_,rfl,⟨kd,tx,rfl⟩,hPy.put d2 m1 m2 _ _⟩
     ·rw [hnf2] at hvh
      obtain ⟨rfl,hPh⟩:=hvh
      have hq4:=(Pst.drop hPh c4).2
      have hPi:=hPh.swap c4 m3 m4 (Tr.tnA ((0,1,1),(fr,tw,sy,[],((o3.length:Int) - 1),[])))
      obtain ⟨u1,u2,hbp9,_⟩:=hPi.pr
      rw [A7s] at hbp9
      have hPj:=hPi.swap c4 m3 m4 (Tr.tnA ((0,u1,1),(fr,tw,sy,(o3).map exT,((o3.length:Int) - 1),[])))
      obtain ⟨hPx,hbx4⟩:=Pst.drop hPj c4
      obtain ⟨hPy,hbx2⟩:=Pst.drop hPx c2
      simp only [Tr.tnA] at hq4 hbp9
      refine wp ?_
      refine ⟨_,Sub.refl _,?_⟩
      rw [hK5 _ _ hnf2]
      exact ⟨⟨(0,u1,1),rfl⟩,_,_,hPy.put d2 m1 m2 _ _⟩
   ·have hlt:=H0 hdo
    have hokd:M7 L (⟨a3+1,o3,d3,k⟩:St):=⟨hlt,by have:=hokg hlt;have:=this.ho;simp only at this ⊢;omega,(hokg hlt).hd,(hokg hlt).hk⟩
    rw [hdo] at htd
    simp only [if_true] at htd
    refine wp ?_;(refine A6.by htd ?_;rintro _ sf ⟨rfl,hPf⟩);refine wp ?_
    have hss:=C7k (Γ:=Γ) (st:=(⟨a3+1,o3,d3,k⟩:St)) hR hL hT hPf hokd
    refine wp ?_
    refine A6.by hss ?_
    intro v sf2 hvf
    unfold C9t at hvf
    rcases hsf:B9j L (⟨a3+1,o3,d3,k⟩:St) with xe|⟨ses,s4⟩
    ·have eD:doF L ⟨a3,o3,d3,k⟩=.error xe:=by unfold doF;rw [if_pos hdo];exact hsf
     have eE:K3 L k a=.error xe:=by rw [eGd,eD]
     rw [hsf] at hvf
     obtain ⟨yy,e,a',o',d',k',rfl,⟨kd,tx,rfl⟩,hPf2⟩:=hvf
     have hq4:=(Pst.drop hPf2 c4).2
     have hPe:=hPf2.swap c4 m3 m4 (Tr.tnA ((0,1,0),(fr,Tr.J0,sy,[],((o3.length:Int) - 1),yy)))
     simp only [Tr.tnA] at hq4
     obtain ⟨hPx,hbx4⟩:=Pst.drop hPe c4
     obtain ⟨hPy,hbx2⟩:=Pst.drop hPx c2
     simp only [Tr.tnA] at hbx4
     refine wp ?_
     refine ⟨_,Sub.refl _,?_⟩
     rw [eE]
     exact ⟨(0,1,0),(fr,Tr.J0,sy,[],((o3.length:Int) - 1),yy),_,_,_,_,_,rfl,⟨kd,tx,rfl⟩,hPy.put d2 m1 m2 _ _⟩
    ·have eD:doF L ⟨a3,o3,d3,k⟩=.ok (ses,s4):=by unfold doF;rw [if_pos hdo];exact hsf
     obtain ⟨hg4,hg5,hg6⟩:=A4l _ _ _ _ _ hokd (by simp only;omega) hsf
     obtain ⟨a4,o4,d4,k4⟩:=s4
     obtain rfl:k=k4:=hg6.symm
     have eW:∀ x,E5 L [[116,111]] a4=.error x→K3 L k a=.error x:=fun x h=>by rw [eGd,eD];simp only;rw [h]
     have eN:∀ a5,E5 L [[116,111]] a4=.ok a5→∀ x,H9 L a5=.error x→K3 L k a=.error x:=fun a5 h x h2=>by rw [eGd,eD];simp only;rw [h];simp only;rw [h2]
     have eT:∀ a5,E5 L [[116,111]] a4=.ok a5→∀ tw a6,H9 L a5=.ok (tw,a6)→K3 L k a=.ok (⟨fr,tw,sy,o4,((o3.length:Int) - 1),ses⟩,a6):=fun a5 h tw a6 h2=>by rw [eGd,eD];simp only;rw [h];simp only;rw [h2]
     have ha4:a4≤L.length:=hg4.ha
     rw [hsf] at hvf
     obtain ⟨rfl,hPf2⟩:=hvf
     dsimp only at hPf2
     have hq4:=(Pst.drop hPf2 c4).2
     have hPt:=hPf2.swap c4 m3 m4 (Tr.tnA ((0,1,0),(fr,Tr.J0,sy,[],((o3.length:Int) - 1),ses)))
     simp only [Tr.tnA] at hq4
     refine wp ?_
     have hw:=A1q (Γ:=Γ) hPt (by omega) (by omega) [[116,111]] (by decide) 1
     refine wp ?_
     refine A6.by hw ?_
     intro v sg hvg
     unfold A9i at hvg
     rcases hwf:E5 L [[116,111]] a4 with xe|a5
     ·have eE:=eW _ hwf
      rw [hwf] at hvg
      obtain ⟨a',⟨kd,tx,rfl⟩,hPe⟩:=hvg
      have hq4:=True.intro
      obtain ⟨hPx,hbx4⟩:=Pst.drop hPe c4
      obtain ⟨hPy,hbx2⟩:=Pst.drop hPx c2
      simp only [Tr.tnA] at hbx4
      refine wp ?_
      refine ⟨_,Sub.refl _,?_⟩
      rw [eE]
      exact ⟨(0,1,0),(fr,Tr.J0,sy,[],((o3.length:Int) - 1),ses),_,_,_,_,_,rfl,⟨kd,tx,rfl⟩,hPy.put d2 m1 m2 _ _⟩
     ·have hE5:=eN _ hwf
      have hK5:=eT _ hwf
      have ha5:=A3t hwf
      have hl5:=B1s hwf
      simp only [List.length_cons,List.length_nil] at ha5
      rw [hwf] at hvg
      obtain ⟨rfl,hPg⟩:=hvg
      have hnn:=A1j (Γ:=Γ) hPg (by omega) (by omega)
      refine wp ?_
      refine A6.by hnn ?_
      intro v sh hvh
      unfold M2 at hvh
      rcases hnf2:H9 L a5 with xe|⟨tw,a6⟩
      ·rw [hnf2] at hvh
       obtain ⟨yt,e,a',rfl,⟨kd,tx,rfl⟩,hPh⟩:=hvh
       have hq4:=(Pst.drop hPh c4).2
       have hPi:=hPh.swap c4 m3 m4 (Tr.tnA ((0,1,0),(fr,yt,sy,[],((o3.length:Int) - 1),ses)))
       obtain ⟨u1,u2,hbp9,_⟩:=hPi.pr
       rw [A7s] at hbp9
       have hPj:=hPi.swap c4 m3 m4 (Tr.tnA ((0,u1,0),(fr,yt,sy,(o4).map exT,((o3.length:Int) - 1),ses)))
       obtain ⟨hPx,hbx4⟩:=Pst.drop hPj c4
       obtain ⟨hPy,hbx2⟩:=Pst.drop hPx c2
       simp only [Tr.tnA] at hq4 hbp9
       refine wp ?_
       refine ⟨_,Sub.refl _,?_⟩
       rw [hE5 _ hnf2]
       exact ⟨(0,u1,0),(fr,yt,sy,(o4).map exT,((o3.length:Int) - 1),ses),_,_,_,_,_,rfl,⟨kd,tx,rfl⟩,hPy.put d2 m1 m2 _ _⟩
      ·rw [hnf2] at hvh
       obtain ⟨rfl,hPh⟩:=hvh
       have hq4:=(Pst.drop hPh c4).2
       have hPi:=hPh.swap c4 m3 m4 (Tr.tnA ((0,1,0),(fr,tw,sy,[],((o3.length:Int) - 1),ses)))
       obtain ⟨u1,u2,hbp9,_⟩:=hPi.pr
       rw [A7s] at hbp9
       have hPj:=hPi.swap c4 m3 m4 (Tr.tnA ((0,u1,0),(fr,tw,sy,(o4).map exT,((o3.length:Int) - 1),ses)))
       obtain ⟨hPx,hbx4⟩:=Pst.drop hPj c4
       obtain ⟨hPy,hbx2⟩:=Pst.drop hPx c2
       simp only [Tr.tnA] at hq4 hbp9
       refine wp ?_
       refine ⟨_,Sub.refl _,?_⟩
       rw [hK5 _ _ hnf2]
       exact ⟨⟨(0,u1,0),rfl⟩,_,_,hPy.put d2 m1 m2 _ _⟩
end
end Go.Proofs.YticnkpgmmpenlaaGreatDoor.Pa
namespace Go.Proofs.YticnkpgmmpenlaaGreatDoor.Pa
open Go Go.Ab Go.RowKit Go.Proofs.YticnkpgmmpenlaaGreatDoor.Lx
variable {Γ:Nat→AV}
attribute [local irreducible] B7 Sto.set Sto.grow
section
variable {s0 s1 s:Sto} {bp bl:Nat} {L:List Tok} {a:Nat} {o:List Ex} {d:List Int} {k:Int}
theorem B1e {al:Bool} {x:Tr.Qu} {a':Nat} (h:A0h L al a=.ok (x,a')):a≤a'∧a'≤L.length:=by
 unfold A0h at h
 split at h
 ·cases h
 ·rename_i hn
  split at h
  ·cases h
  ·rename_i hl
   cases h
   have:=A5u hn
   have:=A8u _ _ _ hl
   omega
theorem B31 {x:Tr.Fr} {a':Nat} (h:A3e L a=.ok (x,a')):a≤a'∧a'≤L.length:=by
 unfold A3e at h
 split at h
 ·cases h
 ·rename_i hn
  split at h
  ·cases h
  ·rename_i hl
   cases h
   have:=A5u hn
   have:=B2t hl
   omega
theorem B6w {nx:Bool} {x:Tr.St} {a':Nat} (h:A05 L nx a=.ok (x,a')):a≤a'∧a'≤L.length:=by
 unfold A05 at h
 split at h
 ·cases h
 ·rename_i hn
  have:=A1i hn
  injection h with h
  injection h with h1 h2
  subst h2
  split
  ·rename_i hi
   have:=H0 hi
   omega
  ·omega
theorem C22 {α:Type} {ws:List (List UInt8)} {one:Nat→Nat→Res (α × Nat)} (hm:∀ i a x a1,one i a=.ok (x,a1)→a≤a1∧a1≤L.length):∀ (n:Nat) (acc:List α) (a:Nat) (xs:List α) (a':Nat),a≤L.length→H2 L ws one n acc a=.ok (xs,a')→a≤a'∧a'≤L.length
 | 0,_,_,_,_,h1,h=>by cases h;exact ⟨Nat.le_refl _,h1⟩
 | n+1,acc,a,xs,a',h1,h=>by
  unfold H2 at h
  split at h
  ·cases h;exact ⟨Nat.le_refl _,h1⟩
  ·split at h
   ·cases h
   ·rename_i hx
    obtain ⟨k1,k2⟩:=hm _ _ _ _ hx
    obtain ⟨g1,g2⟩:=C22 hm n _ _ _ _ k2 h
    omega
theorem A3p {α:Type} {ws:List (List UInt8)} {one:Nat→Nat→Res (α × Nat)} (hm:∀ i a x a1,one i a=.ok (x,a1)→a≤a1∧a1≤L.length) {xs:List α} {a':Nat} (h1:a≤L.length) (h:P5 L ws one a=.ok (xs,a')):a≤a'∧a'≤L.length:=C22 hm _ _ _ _ _ h1 h
def hdA (k0 k1 k2 k3 k4:Nat) (h:Head):List AV:=[.str h.name.1,.int .i64 h.name.2.1,.int .i64 h.name.2.2,.slice k0 (h.decls.map (fun x=>Tr.deA (0,x))),.slice k1 (h.quants.map Tr.quA),.slice k2 (h.frees.map Tr.frA),.slice k3 (h.states.map Tr.stA),
 .str h.start.1,.int .i64 h.start.2.1,.int .i64 h.start.2.2,.slice k4 (h.also.map (fun x=>Tr.syA (0,x))),.slice 1 []]
def hd0:Head:=⟨Tr.J0,[],[],[],[],Tr.J0,[]⟩
def G7 (L:List Tok):Nat→Head→Nat→Res (Head × Nat)
 | 0,h,a=>match E5 L [B1r] a with|.error e=>.error e|.ok a'=>.ok (h,a')
 | 1,h,a=>match H9 L a with|.error e=>.error e|.ok (x,a')=>.ok ({ h with name:=x },a')
 | 2,h,a=>match P5 L [A0k] (fun _=>A2m L) a with|.error e=>.error e|.ok (x,a')=>.ok ({ h with decls:=x },a')
 | 3,h,a=>match P5 L [S8,wForall] (fun i=>A0h L (decide (i=1))) a with|.error e=>.error e|.ok (x,a')=>.ok ({ h with quants:=x },a')
 | 4,h,a=>match P5 L [A3f] (fun _=>A3e L) a with|.error e=>.error e|.ok (x,a')=>.ok ({ h with frees:=x },a')
 | 5,h,a=>match P5 L [A21,wNext] (fun i=>A05 L (decide (i=1))) a with|.error e=>.error e|.ok (x,a')=>.ok ({ h with states:=x },a')
 | 6,h,a=>match E5 L [X5] a with|.error e=>.error e|.ok a'=>.ok (h,a')
 | 7,h,a=>match H9 L a with|.error e=>.error e|.ok (x,a')=>.ok ({ h with start:=x },a')
 | 8,h,a=>match P5 L [R7] (fun _=>N8 L) a with|.error e=>.error e|.ok (x,a')=>.ok ({ h with also:=x },a')
 | _,h,a=>.ok (h,a)
def X4 (L:List Tok):Nat→Nat→Head→Nat→Res (Head × Nat)
 | 0,_,h,a=>.ok (h,a)
 | n+1,i,h,a=>match G7 L i h a with|.error e=>.error e|.ok (h',a')=>X4 L n (i+1) h' a'
theorem C44 (L:List Tok) (a:Nat):U4 L a=X4 L 9 0 hd0 a:=by
 unfold U4
 simp only [X4,G7]
 rcases E5 L [B1r] a with e|a1<;>simp only
 rcases H9 L a1 with e|⟨nm,a2⟩<;>simp only
 rcases P5 L [A0k] (fun _=>A2m L) a2 with e|⟨ds,a3⟩<;>simp only
 rcases P5 L [S8,wForall] (fun i=>A0h L (decide (i=1))) a3 with e|⟨qs,a4⟩<;>simp only
 rcases P5 L [A3f] (fun _=>A3e L) a4 with e|⟨fs,a5⟩<;>simp only
 rcases P5 L [A21,wNext] (fun i=>A05 L (decide (i=1))) a5 with e|⟨ss,a6⟩<;>simp only
 rcases E5 L [X5] a6 with e|a7<;>simp only
 rcases H9 L a7 with e|⟨st,a8⟩<;>simp only
 rcases P5 L [R7] (fun _=>N8 L) a8 with e|⟨al,a9⟩<;>rfl
def A69 (s1:Sto) (b4 bp bl:Nat) (L:List Tok) (o:List Ex) (d:List Int) (k:Int) (r:Res (Head × Nat)) (v:AV) (s':Sto):Prop :=
 match r with
 | .ok (h,a')=>v=.nilIface∧a'≤L.length∧∃ k0 k1 k2 k3 k4,Pst (s1.set b4 31 (hdA k0 k1 k2 k3 k4 h)) s' bp bl L a' o d k
 | .error x=>A84 x v∧∃ h k0 k1 k2 k3 k4 a',Pst (s1.set b4 31 (hdA k0 k1 k2 k3 k4 h)) s' bp bl L a' o d k
theorem C35 {w:List UInt8} {a2:Nat} (h:E5 L [w] a=.ok a2):a2≤L.length:=by
 have h1:=A3t h
 have h2:=B1s h
 simp only [List.length_cons,List.length_nil] at h1
 omega
theorem D32 {b1 b4:Nat} (c4:s1.bx b4=none) (hb1:s1.bx b1=some (96,[.ptr (some ⟨bp,0,none⟩)])) (n1:b4≠bp) (n2:b4≠bl) (hL:L.length≤66000) (hla:a≤L.length) {h:Head} {k0 k1 k2 k3 k4:Nat}
  (hP:Pst (s1.set b4 31 (hdA k0 k1 k2 k3 k4 h)) s bp bl L a o d k) :
  A6 Tryz.prog Γ 162 [.ptr (some ⟨b1,0,none⟩)] s (A69 s1 b4 bp bl L o d k (G7 L 0 h a)):=by
 have n14:b1≠b4:=fun h=>by subst h;rw [c4] at hb1;cases hb1
 have g1:=hP.sub.bx _ _ ((A9 n14).trans hb1)
 have hw:=A1q (Γ:=Γ) hP (by omega) (by omega) [B1r] (by decide) 1
 refine acs Tryz.func162 ?_
 refine wp ?_
 refine A6.by hw ?_
 intro v s7 hv7
 unfold A9i at hv7
 rcases hwf:E5 L [B1r] a with z|a2
 ·rw [hwf] at hv7
  obtain ⟨a',⟨kd,tx,rfl⟩,hP7⟩:=hv7
  refine wp ?_
  refine ⟨_,Sub.refl _,?_⟩
  rw [show G7 L 0 h a=.error z by simp only [G7,hwf]]
  exact ⟨⟨kd,tx,rfl⟩,h,_,_,_,_,_,a',hP7⟩
 ·rw [hwf] at hv7
  obtain ⟨rfl,hP7⟩:=hv7
  refine wp ?_
  refine ⟨_,Sub.refl _,?_⟩
  rw [show G7 L 0 h a=.ok (h,a2) by simp only [G7,hwf]]
  exact ⟨rfl,C35 hwf,_,_,_,_,_,hP7⟩
theorem D38 {b1 b4:Nat} (c4:s1.bx b4=none) (hb1:s1.bx b1=some (96,[.ptr (some ⟨bp,0,none⟩)])) (n1:b4≠bp) (n2:b4≠bl) (hL:L.length≤66000) (hla:a≤L.length) {h:Head} {k0 k1 k2 k3 k4:Nat}
  (hP:Pst (s1.set b4 31 (hdA k0 k1 k2 k3 k4 h)) s bp bl L a o d k) :
  A6 Tryz.prog Γ 182 [.ptr (some ⟨b1,0,none⟩)] s (A69 s1 b4 bp bl L o d k (G7 L 6 h a)):=by
 have n14:b1≠b4:=fun h=>by subst h;rw [c4] at hb1;cases hb1
 have g1:=hP.sub.bx _ _ ((A9 n14).trans hb1)
 have hw:=A1q (Γ:=Γ) hP (by omega) (by omega) [X5] (by decide) 1
 refine acs Tryz.func182 ?_
 refine wp ?_
 refine A6.by hw ?_
 intro v s7 hv7
 unfold A9i at hv7
 rcases hwf:E5 L [X5] a with z|a2
 ·rw [hwf] at hv7
  obtain ⟨a',⟨kd,tx,rfl⟩,hP7⟩:=hv7
  refine wp ?_
  refine ⟨_,Sub.refl _,?_⟩
  rw [show G7 L 6 h a=.error z by simp only [G7,hwf]]
  exact ⟨⟨kd,tx,rfl⟩,h,_,_,_,_,_,a',hP7⟩
 ·rw [hwf] at hv7
  obtain ⟨rfl,hP7⟩:=hv7
  refine wp ?_
  refine ⟨_,Sub.refl _,?_⟩
  rw [show G7 L 6 h a=.ok (h,a2) by simp only [G7,hwf]]
  exact ⟨rfl,C35 hwf,_,_,_,_,_,hP7⟩
theorem D33 {b1 b4:Nat} (c4:s1.bx b4=none) (hb1:s1.bx b1=some (96,[.ptr (some ⟨bp,0,none⟩)])) (n1:b4≠bp) (n2:b4≠bl) (hL:L.length≤66000) (hla:a≤L.length) {h:Head} {k0 k1 k2 k3 k4:Nat}
  (hP:Pst (s1.set b4 31 (hdA k0 k1 k2 k3 k4 h)) s bp bl L a o d k) :
  A6 Tryz.prog Γ 164 [.ptr (some ⟨b1,0,none⟩),.ptr (some ⟨b4,0,none⟩)] s (A69 s1 b4 bp bl L o d k (G7 L 1 h a)):=by
 have n14:b1≠b4:=fun h=>by subst h;rw [c4] at hb1;cases hb1
 have g1:=hP.sub.bx _ _ ((A9 n14).trans hb1)
 have hw:=A1j (Γ:=Γ) hP (by omega) (by omega)
 refine acs Tryz.func164 ?_
 refine wp ?_
 refine A6.by hw ?_
 intro v s7 hv7
 unfold M2 at hv7
 rcases hwf:H9 L a with z|⟨x,a2⟩
 ·rw [hwf] at hv7
  obtain ⟨y,e,a',rfl,⟨kd,tx,rfl⟩,hP7⟩:=hv7
  have hq4:=(Pst.drop hP7 c4).2
  have hP8:=hP7.swap c4 n1 n2 (hdA k0 k1 k2 k3 k4 { h with name:=y })
  simp only [hdA] at hq4
  refine wp ?_
  refine ⟨_,Sub.refl _,?_⟩
  rw [show G7 L 1 h a=.error z by simp only [G7,hwf]]
  exact ⟨⟨kd,tx,rfl⟩,{ h with name:=y },_,_,_,_,_,a',hP8⟩
 ·rw [hwf] at hv7
  obtain ⟨rfl,hP7⟩:=hv7
  have hq4:=(Pst.drop hP7 c4).2
  have hP8:=hP7.swap c4 n1 n2 (hdA k0 k1 k2 k3 k4 { h with name:=x })
  simp only [hdA] at hq4
  refine wp ?_
  refine ⟨_,Sub.refl _,?_⟩
  rw [show G7 L 1 h a=.ok ({ h with name:=x },a2) by simp only [G7,hwf]]
  exact ⟨rfl,by have:=A1i hwf;omega,_,_,_,_,_,hP8⟩
theorem D39 {b1 b4:Nat} (c4:s1.bx b4=none) (hb1:s1.bx b1=some (96,[.ptr (some ⟨bp,0,none⟩)])) (n1:b4≠bp) (n2:b4≠bl) (hL:L.length≤66000) (hla:a≤L.length) {h:Head} {k0 k1 k2 k3 k4:Nat}
  (hP:Pst (s1.set b4 31 (hdA k0 k1 k2 k3 k4 h)) s bp bl L a o d k) :
  A6 Tryz.prog Γ 183 [.ptr (some ⟨b1,0,none⟩),.ptr (some ⟨b4,0,none⟩)] s (A69 s1 b4 bp bl L o d k (G7 L 7 h a)):=by
 have n14:b1≠b4:=fun h=>by subst h;rw [c4] at hb1;cases hb1
 have g1:=hP.sub.bx _ _ ((A9 n14).trans hb1)
 have hw:=A1j (Γ:=Γ) hP (by omega) (by omega)
 refine acs Tryz.func183 ?_
 refine wp ?_
 refine A6.by hw ?_
 intro v s7 hv7
 unfold M2 at hv7
 rcases hwf:H9 L a with z|⟨x,a2⟩
 ·rw [hwf] at hv7
  obtain ⟨y,e,a',rfl,⟨kd,tx,rfl⟩,hP7⟩:=hv7
  have hq4:=(Pst.drop hP7 c4).2
  have hP8:=hP7.swap c4 n1 n2 (hdA k0 k1 k2 k3 k4 { h with start:=y })
  simp only [hdA] at hq4
  refine wp ?_
  refine ⟨_,Sub.refl _,?_⟩
  rw [show G7 L 7 h a=.error z by simp only [G7,hwf]]
  exact ⟨⟨kd,tx,rfl⟩,{ h with start:=y },_,_,_,_,_,a',hP8⟩
 ·rw [hwf] at hv7
  obtain ⟨rfl,hP7⟩:=hv7
  have hq4:=(Pst.drop hP7 c4).2
  have hP8:=hP7.swap c4 n1 n2 (hdA k0 k1 k2 k3 k4 { h with start:=x })
  simp only [hdA] at hq4
  refine wp ?_
  refine ⟨_,Sub.refl _,?_⟩
  rw [show G7 L 7 h a=.ok ({ h with start:=x },a2) by simp only [G7,hwf]]
  exact ⟨rfl,by have:=A1i hwf;omega,_,_,_,_,_,hP8⟩
theorem D2z (hE:Nu.A0l Γ) (hT:∀ i,(C8 L i).2.1.length≤5000) {b1:Nat} (hb1:s1.bx b1=some (96,[.ptr (some ⟨bp,0,none⟩)])) (hL:L.length≤66000) (ha:a≤66000) (i:Nat) (hP:Pst s1 s bp bl L a o d k) :
  A6 Tryz.prog Γ 168 [.int .i64 i,.ptr (some ⟨b1,0,none⟩)] s (M2 s1 bp bl L o d k (fun x=>.agg ((fun x=>Tr.deA (0,x)) x)) (A2m L a)):=by
 refine acs Tryz.func168 ?_
 conv=>whnf
 intro b3 hb3
 obtain ⟨m1,m2⟩:=hP.nb hb3
 have c3:s1.bx b3=none:=hP.sub.none hb3
 have n13:b1≠b3:=A8 hb1 c3
 have hPb:=(hP.box hb3 54 [.str [],.int .i64 0,.int .i64 0,.slice 1 []]).keep (T:=54) (cs:=[.str [],.int .i64 0,.int .i64 0,.slice 1 []]) A7 m1 m2
 have g1:=hPb.sub.bx _ _ ((A9 n13).trans hb1)
 have hd:=D5d (Γ:=Γ) hPb hL (by omega)
 refine wp ?_
 refine A6.by hd ?_
 intro v s7 hv7
 unfold M2 at hv7
 rcases hwf:A2m L a with z|⟨x,a2⟩
 ·rw [hwf] at hv7
  obtain ⟨y,e,a',rfl,⟨kd,tx,rfl⟩,hP7⟩:=hv7
  obtain ⟨hP8,hq⟩:=hP7.drop c3
  refine wp ?_
  exact ⟨_,Sub.refl _,y,_,_,rfl,⟨kd,tx,rfl⟩,hP8.put c3 m1 m2 _ _⟩
 ·rw [hwf] at hv7
  obtain ⟨rfl,hP7⟩:=hv7
  obtain ⟨hP8,hq⟩:=hP7.drop c3
  refine wp ?_
  exact ⟨_,Sub.refl _,rfl,hP8.put c3 m1 m2 _ _⟩
theorem D34 (hE:Nu.A0l Γ) (hT:∀ i,(C8 L i).2.1.length≤5000) {b1 b4:Nat} (c4:s1.bx b4=none) (hb1:s1.bx b1=some (96,[.ptr (some ⟨bp,0,none⟩)])) (n1:b4≠bp) (n2:b4≠bl) (hL:L.length≤66000) (hla:a≤L.length) {h:Head} {k0 k1 k2 k3 k4:Nat}
  (hP:Pst (s1.set b4 31 (hdA k0 k1 k2 k3 k4 h)) s bp bl L a o d k) :
  A6 Tryz.prog Γ 166 [.ptr (some ⟨b1,0,none⟩),.ptr (some ⟨b4,0,none⟩)] s (A69 s1 b4 bp bl L o d k (G7 L 2 h a)):=by
 have n14:b1≠b4:=fun h=>by subst h;rw [c4] at hb1;cases hb1
 have g1:=hP.sub.bx _ _ ((A9 n14).trans hb1)
 have hw:=C9d (Γ:=Γ) (one:=fun _=>A2m L) (n:=168) (cs:=[.ptr (some ⟨b1,0,none⟩)]) (by kernel_rfl) [A0k] (by decide) 1 (fun _ _ _ _ h=>⟨Nat.le_of_lt (A8m h).1,(A8m h).2⟩) (fun i a t s _ ha hP=>D2z hE hT (B1i.trans ((A9 n14).trans hb1)) hL ha i hP) hP hL (by omega)
 refine acs Tryz.func166 ?_
 refine wp ?_
 refine A6.by hw ?_
 intro v s7 hv7
 unfold M2 at hv7
 rcases hwf:P5 L [A0k] (fun _=>A2m L) a with z|⟨x,a2⟩
 ·rw [hwf] at hv7
  obtain ⟨y,e,a',rfl,⟨kd,tx,rfl⟩,hP7⟩:=hv7
  have hq4:=(Pst.drop hP7 c4).2
  have hP8:=hP7.swap c4 n1 n2 (hdA 0 k1 k2 k3 k4 { h with decls:=y })
  simp only [hdA] at hq4
  refine wp ?_
  refine ⟨_,Sub.refl _,?_⟩
  rw [show G7 L 2 h a=.error z by simp only [G7,hwf]]
  exact ⟨⟨kd,tx,rfl⟩,{ h with decls:=y },_,_,_,_,_,a',hP8⟩
 ·rw [hwf] at hv7
  obtain ⟨rfl,hP7⟩:=hv7
  have hq4:=(Pst.drop hP7 c4).2
  have hP8:=hP7.swap c4 n1 n2 (hdA 0 k1 k2 k3 k4 { h with decls:=x })
  simp only [hdA] at hq4
  refine wp ?_
  refine ⟨_,Sub.refl _,?_⟩
  rw [show G7 L 2 h a=.ok ({ h with decls:=x },a2) by simp only [G7,hwf]]
  exact ⟨rfl,(A3p (fun _ _ _ _ h=>⟨Nat.le_of_lt (A8m h).1,(A8m h).2⟩) hla hwf).2,_,_,_,_,_,hP8⟩
theorem D21 (hE:Nu.A0l Γ) (hT:∀ i,(C8 L i).2.1.length≤5000) {b1:Nat} (hb1:s1.bx b1=some (96,[.ptr (some ⟨bp,0,none⟩)])) (hL:L.length≤66000) (ha:a≤66000) (i:Nat) (hP:Pst s1 s bp bl L a o d k) :
  A6 Tryz.prog Γ 172 [.int .i64 i,.ptr (some ⟨b1,0,none⟩)] s (M2 s1 bp bl L o d k (fun x=>.agg ((Tr.quA) x)) (A0h L (decide (i=1)) a)):=by
 have hdi:decide ((i:Int)=1)=decide (i=1):=by rw [decide_eq_decide];omega
 refine acs Tryz.func172 ?_
 conv=>whnf
 intro b3 hb3
 obtain ⟨m1,m2⟩:=hP.nb hb3
 have c3:s1.bx b3=none:=hP.sub.none hb3
 have n13:b1≠b3:=A8 hb1 c3
 have hPb:=(hP.box hb3 75 [.bool false,.str [],.int .i64 0,.int .i64 0,.int .i64 0]).keep (T:=75) (cs:=[.bool false,.str [],.int .i64 0,.int .i64 0,.int .i64 0]) A7 m1 m2
 have g1:=hPb.sub.bx _ _ ((A9 n13).trans hb1)
 have hd:=D3i (Γ:=Γ) hPb (by omega) (by omega) (decide (i=1))
 refine wp ?_;(rw [show decide ((i:Int)=1)=decide (i=1) from hdi]);refine wp ?_
 refine A6.by hd ?_
 intro v s7 hv7
 unfold M2 at hv7
 rcases hwf:A0h L (decide (i=1)) a with z|⟨x,a2⟩
 ·rw [hwf] at hv7
  obtain ⟨y,e,a',rfl,⟨kd,tx,rfl⟩,hP7⟩:=hv7
  obtain ⟨hP8,hq⟩:=hP7.drop c3
  refine wp ?_
  exact ⟨_,Sub.refl _,y,_,_,rfl,⟨kd,tx,rfl⟩,hP8.put c3 m1 m2 _ _⟩
 ·rw [hwf] at hv7
  obtain ⟨rfl,hP7⟩:=hv7
  obtain ⟨hP8,hq⟩:=hP7.drop c3
  refine wp ?_
  exact ⟨_,Sub.refl _,rfl,hP8.put c3 m1 m2 _ _⟩
theorem D35 (hE:Nu.A0l Γ) (hT:∀ i,(C8 L i).2.1.length≤5000) {b1 b4:Nat} (c4:s1.bx b4=none) (hb1:s1.bx b1=some (96,[.ptr (some ⟨bp,0,none⟩)])) (n1:b4≠bp) (n2:b4≠bl) (hL:L.length≤66000) (hla:a≤L.length) {h:Head} {k0 k1 k2 k3 k4:Nat}
  (hP:Pst (s1.set b4 31 (hdA k0 k1 k2 k3 k4 h)) s bp bl L a o d k) :
  A6 Tryz.prog Γ 170 [.ptr (some ⟨b1,0,none⟩),.ptr (some ⟨b4,0,none⟩)] s (A69 s1 b4 bp bl L o d k (G7 L 3 h a)):=by
 have n14:b1≠b4:=fun h=>by subst h;rw [c4] at hb1;cases hb1
 have g1:=hP.sub.bx _ _ ((A9 n14).trans hb1)
 have hw:=C9f (Γ:=Γ) (one:=fun i=>A0h L (decide (i=1))) (n:=172) (cs:=[.ptr (some ⟨b1,0,none⟩)]) (by kernel_rfl) [S8,wForall] (by decide) 1 (fun _ _ _ _ h=>B1e h) (fun i a t s _ ha hP=>D21 hE hT (B1i.trans ((A9 n14).trans hb1)) hL ha i hP) hP hL (by omega)
 refine acs Tryz.func170 ?_
 refine wp ?_
 refine A6.by hw ?_
 intro v s7 hv7
 unfold M2 at hv7
 rcases hwf:P5 L [S8,wForall] (fun i=>A0h L (decide (i=1))) a with z|⟨x,a2⟩
 ·rw [hwf] at hv7
  obtain ⟨y,e,a',rfl,⟨kd,tx,rfl⟩,hP7⟩:=hv7
  have hq4:=(Pst.drop hP7 c4).2
  have hP8:=hP7.swap c4 n1 n2 (hdA k0 0 k2 k3 k4 { h with quants:=y })
  simp only [hdA] at hq4
  refine wp ?_
  refine ⟨_,Sub.refl _,?_⟩
  rw [show G7 L 3 h a=.error z by simp only [G7,hwf]]
  exact ⟨⟨kd,tx,rfl⟩,{ h with quants:=y },_,_,_,_,_,a',hP8⟩
 ·rw [hwf] at hv7
  obtain ⟨rfl,hP7⟩:=hv7
  have hq4:=(Pst.drop hP7 c4).2
  have hP8:=hP7.swap c4 n1 n2 (hdA k0 0 k2 k3 k4 { h with quants:=x })
  simp only [hdA] at hq4
  refine wp ?_
  refine ⟨_,Sub.refl _,?_⟩
  rw [show G7 L 3 h a=.ok ({ h with quants:=x },a2) by simp only [G7,hwf]]
  exact ⟨rfl,(A3p (fun _ _ _ _ h=>B1e h) hla hwf).2,_,_,_,_,_,hP8⟩
theorem D20 (hE:Nu.A0l Γ) (hT:∀ i,(C8 L i).2.1.length≤5000) {b1:Nat} (hb1:s1.bx b1=some (96,[.ptr (some ⟨bp,0,none⟩)])) (hL:L.length≤66000) (ha:a≤66000) (i:Nat) (hP:Pst s1 s bp bl L a o d k) :
  A6 Tryz.prog Γ 176 [.int .i64 i,.ptr (some ⟨b1,0,none⟩)] s (M2 s1 bp bl L o d k (fun x=>.agg ((Tr.frA) x)) (A3e L a)):=by
 refine acs Tryz.func176 ?_
 conv=>whnf
 intro b3 hb3
 obtain ⟨m1,m2⟩:=hP.nb hb3
 have c3:s1.bx b3=none:=hP.sub.none hb3
 have n13:b1≠b3:=A8 hb1 c3
 have hPb:=(hP.box hb3 58 [.str [],.int .i64 0,.int .i64 0,.int .i64 0,.int .i64 0,.str [],.bool false]).keep (T:=58) (cs:=[.str [],.int .i64 0,.int .i64 0,.int .i64 0,.int .i64 0,.str [],.bool false]) A7 m1 m2
 have g1:=hPb.sub.bx _ _ ((A9 n13).trans hb1)
 have hd:=D5w (Γ:=Γ) hE hT hPb (by omega) (by omega)
 refine wp ?_
 refine A6.by hd ?_
 intro v s7 hv7
 unfold M2 at hv7
 rcases hwf:A3e L a with z|⟨x,a2⟩
 ·rw [hwf] at hv7
  obtain ⟨y,e,a',rfl,⟨kd,tx,rfl⟩,hP7⟩:=hv7
  obtain ⟨hP8,hq⟩:=hP7.drop c3
  refine wp ?_
  exact ⟨_,Sub.refl _,y,_,_,rfl,⟨kd,tx,rfl⟩,hP8.put c3 m1 m2 _ _⟩
 ·rw [hwf] at hv7
  obtain ⟨rfl,hP7⟩:=hv7
  obtain ⟨hP8,hq⟩:=hP7.drop c3
  refine wp ?_
  exact ⟨_,Sub.refl _,rfl,hP8.put c3 m1 m2 _ _⟩
theorem D36 (hE:Nu.A0l Γ) (hT:∀ i,(C8 L i).2.1.length≤5000) {b1 b4:Nat} (c4:s1.bx b4=none) (hb1:s1.bx b1=some (96,[.ptr (some ⟨bp,0,none⟩)])) (n1:b4≠bp) (n2:b4≠bl) (hL:L.length≤66000) (hla:a≤L.length) {h:Head} {k0 k1 k2 k3 k4:Nat}
  (hP:Pst (s1.set b4 31 (hdA k0 k1 k2 k3 k4 h)) s bp bl L a o d k) :
  A6 Tryz.prog Γ 174 [.ptr (some ⟨b1,0,none⟩),.ptr (some ⟨b4,0,none⟩)] s (A69 s1 b4 bp bl L o d k (G7 L 4 h a)):=by
 have n14:b1≠b4:=fun h=>by subst h;rw [c4] at hb1;cases hb1
 have g1:=hP.sub.bx _ _ ((A9 n14).trans hb1)
 have hw:=C9e (Γ:=Γ) (one:=fun _=>A3e L) (n:=176) (cs:=[.ptr (some ⟨b1,0,none⟩)]) (by kernel_rfl) [A3f] (by decide) 1 (fun _ _ _ _ h=>B31 h) (fun i a t s _ ha hP=>D20 hE hT (B1i.trans ((A9 n14).trans hb1)) hL ha i hP) hP hL (by omega)
 refine acs Tryz.func174 ?_
 refine wp ?_
 refine A6.by hw ?_
 intro v s7 hv7
 unfold M2 at hv7
 rcases hwf:P5 L [A3f] (fun _=>A3e L) a with z|⟨x,a2⟩
 ·rw [hwf] at hv7
  obtain ⟨y,e,a',rfl,⟨kd,tx,rfl⟩,hP7⟩:=hv7
  have hq4:=(Pst.drop hP7 c4).2
  have hP8:=hP7.swap c4 n1 n2 (hdA k0 k1 0 k3 k4 { h with frees:=y })
  simp only [hdA] at hq4
  refine wp ?_
  refine ⟨_,Sub.refl _,?_⟩
  rw [show G7 L 4 h a=.error z by simp only [G7,hwf]]
  exact ⟨⟨kd,tx,rfl⟩,{ h with frees:=y },_,_,_,_,_,a',hP8⟩
 ·rw [hwf] at hv7
  obtain ⟨rfl,hP7⟩:=hv7
  have hq4:=(Pst.drop hP7 c4).2
  have hP8:=hP7.swap c4 n1 n2 (hdA k0 k1 0 k3 k4 { h with frees:=x })
  simp only [hdA] at hq4
  refine wp ?_
  refine ⟨_,Sub.refl _,?_⟩
  rw [show G7 L 4 h a=.ok ({ h with frees:=x },a2) by simp only [G7,hwf]]
  exact ⟨rfl,(A3p (fun _ _ _ _ h=>B31 h) hla hwf).2,_,_,_,_,_,hP8⟩
theorem D22 (hE:Nu.A0l Γ) (hT:∀ i,(C8 L i).2.1.length≤5000) {b1:Nat} (hb1:s1.bx b1=some (96,[.ptr (some ⟨bp,0,none⟩)])) (hL:L.length≤66000) (ha:a≤66000) (i:Nat) (hP:Pst s1 s bp bl L a o d k) :
  A6 Tryz.prog Γ 180 [.int .i64 i,.ptr (some ⟨b1,0,none⟩)] s (M2 s1 bp bl L o d k (fun x=>.agg ((Tr.stA) x)) (A05 L (decide (i=1)) a)):=by
 have hdi:decide ((i:Int)=1)=decide (i=1):=by rw [decide_eq_decide];omega
 refine acs Tryz.func180 ?_
 conv=>whnf
 intro b3 hb3
 obtain ⟨m1,m2⟩:=hP.nb hb3
 have c3:s1.bx b3=none:=hP.sub.none hb3
 have n13:b1≠b3:=A8 hb1 c3
 have hPb:=(hP.box hb3 84 [.str [],.int .i64 0,.int .i64 0,.bool false,.bool false]).keep (T:=84) (cs:=[.str [],.int .i64 0,.int .i64 0,.bool false,.bool false]) A7 m1 m2
 have g1:=hPb.sub.bx _ _ ((A9 n13).trans hb1)
 have hd:=D31 (Γ:=Γ) hPb (by omega) (by omega) (decide (i=1))
 refine wp ?_;(rw [show decide ((i:Int)=1)=decide (i=1) from hdi]);refine wp ?_
 refine A6.by hd ?_
 intro v s7 hv7
 unfold M2 at hv7
 rcases hwf:A05 L (decide (i=1)) a with z|⟨x,a2⟩
 ·rw [hwf] at hv7
  obtain ⟨y,e,a',rfl,⟨kd,tx,rfl⟩,hP7⟩:=hv7
  obtain ⟨hP8,hq⟩:=hP7.drop c3
  refine wp ?_
  exact ⟨_,Sub.refl _,y,_,_,rfl,⟨kd,tx,rfl⟩,hP8.put c3 m1 m2 _ _⟩
 ·rw [hwf] at hv7
  obtain ⟨rfl,hP7⟩:=hv7
  obtain ⟨hP8,hq⟩:=hP7.drop c3
  refine wp ?_
  exact ⟨_,Sub.refl _,rfl,hP8.put c3 m1 m2 _ _⟩
theorem D37 (hE:Nu.A0l Γ) (hT:∀ i,(C8 L i).2.1.length≤5000) {b1 b4:Nat} (c4:s1.bx b4=none) (hb1:s1.bx b1=some (96,[.ptr (some ⟨bp,0,none⟩)])) (n1:b4≠bp) (n2:b4≠bl) (hL:L.length≤66000) (hla:a≤L.length) {h:Head} {k0 k1 k2 k3 k4:Nat}
  (hP:Pst (s1.set b4 31 (hdA k0 k1 k2 k3 k4 h)) s bp bl L a o d k) :
  A6 Tryz.prog Γ 178 [.ptr (some ⟨b1,0,none⟩),.ptr (some ⟨b4,0,none⟩)] s (A69 s1 b4 bp bl L o d k (G7 L 5 h a)):=by
 have n14:b1≠b4:=fun h=>by subst h;rw [c4] at hb1;cases hb1
 have g1:=hP.sub.bx _ _ ((A9 n14).trans hb1)
 have hw:=C9g (Γ:=Γ) (one:=fun i=>A05 L (decide (i=1))) (n:=180) (cs:=[.ptr (some ⟨b1,0,none⟩)]) (by kernel_rfl) [A21,wNext] (by decide) 1 (fun _ _ _ _ h=>B6w h) (fun i a t s _ ha hP=>D22 hE hT (B1i.trans ((A9 n14).trans hb1)) hL ha i hP) hP hL (by omega)
 refine acs Tryz.func178 ?_
 refine wp ?_
 refine A6.by hw ?_
 intro v s7 hv7
 unfold M2 at hv7
 rcases hwf:P5 L [A21,wNext] (fun i=>A05 L (decide (i=1))) a with z|⟨x,a2⟩
 ·rw [hwf] at hv7
  obtain ⟨y,e,a',rfl,⟨kd,tx,rfl⟩,hP7⟩:=hv7
  have hq4:=(Pst.drop hP7 c4).2
  have hP8:=hP7.swap c4 n1 n2 (hdA k0 k1 k2 0 k4 { h with states:=y })
  simp only [hdA] at hq4
  refine wp ?_
  refine ⟨_,Sub.refl _,?_⟩
  rw [show G7 L 5 h a=.error z by simp only [G7,hwf]]
  exact ⟨⟨kd,tx,rfl⟩,{ h with states:=y },_,_,_,_,_,a',hP8⟩
 ·rw [hwf] at hv7
  obtain ⟨rfl,hP7⟩:=hv7
  have hq4:=(Pst.drop hP7 c4).2
  have hP8:=hP7.swap c4 n1 n2 (hdA k0 k1 k2 0 k4 { h with states:=x })
  simp only [hdA] at hq4
  refine wp ?_
  refine ⟨_,Sub.refl _,?_⟩
  rw [show G7 L 5 h a=.ok ({ h with states:=x },a2) by simp only [G7,hwf]]
  exact ⟨rfl,(A3p (fun _ _ _ _ h=>B6w h) hla hwf).2,_,_,_,_,_,hP8⟩
theorem D23 (hE:Nu.A0l Γ) (hT:∀ i,(C8 L i).2.1.length≤5000) {b1:Nat} (hb1:s1.bx b1=some (96,[.ptr (some ⟨bp,0,none⟩)])) (hL:L.length≤66000) (ha:a≤66000) (i:Nat) (hP:Pst s1 s bp bl L a o d k) :
  A6 Tryz.prog Γ 186 [.int .i64 i,.ptr (some ⟨b1,0,none⟩)] s (M2 s1 bp bl L o d k (fun x=>.agg ((fun x=>Tr.syA (0,x)) x)) (N8 L a)):=by
 refine acs Tryz.func186 ?_
 conv=>whnf
 intro b3 hb3
 obtain ⟨m1,m2⟩:=hP.nb hb3
 have c3:s1.bx b3=none:=hP.sub.none hb3
 have n13:b1≠b3:=A8 hb1 c3
 have hPb:=(hP.box hb3 39 [.str [],.slice 1 [],.int .i64 0,.int .i64 0]).keep (T:=39) (cs:=[.str [],.slice 1 [],.int .i64 0,.int .i64 0]) A7 m1 m2
 have g1:=hPb.sub.bx _ _ ((A9 n13).trans hb1)
 have hd:=B9m (Γ:=Γ) hE hT hPb hL (by omega)
 refine wp ?_
 refine A6.by hd ?_
 intro v s7 hv7
 unfold M2 at hv7
 rcases hwf:N8 L a with z|⟨x,a2⟩
 ·rw [hwf] at hv7
  obtain ⟨y,e,a',rfl,⟨kd,tx,rfl⟩,hP7⟩:=hv7
  obtain ⟨hP8,hq⟩:=hP7.drop c3
  refine wp ?_
  exact ⟨_,Sub.refl _,y,_,_,rfl,⟨kd,tx,rfl⟩,hP8.put c3 m1 m2 _ _⟩
 ·rw [hwf] at hv7
  obtain ⟨rfl,hP7⟩:=hv7
  obtain ⟨hP8,hq⟩:=hP7.drop c3
  refine wp ?_
  exact ⟨_,Sub.refl _,rfl,hP8.put c3 m1 m2 _ _⟩
theorem D4a (hE:Nu.A0l Γ) (hT:∀ i,(C8 L i).2.1.length≤5000) {b1 b4:Nat} (c4:s1.bx b4=none) (hb1:s1.bx b1=some (96,[.ptr (some ⟨bp,0,none⟩)])) (n1:b4≠bp) (n2:b4≠bl) (hL:L.length≤66000) (hla:a≤L.length) {h:Head} {k0 k1 k2 k3 k4:Nat}
  (hP:Pst (s1.set b4 31 (hdA k0 k1 k2 k3 k4 h)) s bp bl L a o d k) :
  A6 Tryz.prog Γ 184 [.ptr (some ⟨b1,0,none⟩),.ptr (some ⟨b4,0,none⟩)] s (A69 s1 b4 bp bl L o d k (G7 L 8 h a)):=by
 have n14:b1≠b4:=fun h=>by subst h;rw [c4] at hb1;cases hb1
 have g1:=hP.sub.bx _ _ ((A9 n14).trans hb1)
 have hw:=C9h (Γ:=Γ) (one:=fun _=>N8 L) (n:=186) (cs:=[.ptr (some ⟨b1,0,none⟩)]) (by kernel_rfl) [R7] (by decide) 1 (fun _ _ _ _ h=>⟨Nat.le_of_lt (A1c h).1,(A1c h).2⟩) (fun i a t s _ ha hP=>D23 hE hT (B1i.trans ((A9 n14).trans hb1)) hL ha i hP) hP hL (by omega)
 refine acs Tryz.func184 ?_
 refine wp ?_
 refine A6.by hw ?_
 intro v s7 hv7
 unfold M2 at hv7
 rcases hwf:P5 L [R7] (fun _=>N8 L) a with z|⟨x,a2⟩
 ·rw [hwf] at hv7
  obtain ⟨y,e,a',rfl,⟨kd,tx,rfl⟩,hP7⟩:=hv7
  have hq4:=(Pst.drop hP7 c4).2
  have hP8:=hP7.swap c4 n1 n2 (hdA k0 k1 k2 k3 0 { h with also:=y })
  simp only [hdA] at hq4
  refine wp ?_
  refine ⟨_,Sub.refl _,?_⟩
  rw [show G7 L 8 h a=.error z by simp only [G7,hwf]]
  exact ⟨⟨kd,tx,rfl⟩,{ h with also:=y },_,_,_,_,_,a',hP8⟩
 ·rw [hwf] at hv7
  obtain ⟨rfl,hP7⟩:=hv7
  have hq4:=(Pst.drop hP7 c4).2
  have hP8:=hP7.swap c4 n1 n2 (hdA k0 k1 k2 k3 0 { h with also:=x })
  simp only [hdA] at hq4
  refine wp ?_
  refine ⟨_,Sub.refl _,?_⟩
  rw [show G7 L 8 h a=.ok ({ h with also:=x },a2) by simp only [G7,hwf]]
  exact ⟨rfl,(A3p (fun _ _ _ _ h=>⟨Nat.le_of_lt (A1c h).1,(A1c h).2⟩) hla hwf).2,_,_,_,_,_,hP8⟩
end
end Go.Proofs.YticnkpgmmpenlaaGreatDoor.Pa
namespace Go.Proofs.YticnkpgmmpenlaaGreatDoor.Pa
open Go Go.Ab Go.RowKit Go.Proofs.YticnkpgmmpenlaaGreatDoor.Lx Go.Proofs.YticnkpgmmpenlaaGreatDoor.Pr
variable {Γ:Nat→AV}
attribute [local irreducible] B7 Sto.set Sto.grow
section
variable {s0 s1 s:Sto} {bp bl:Nat} {L:List Tok} {a:Nat} {o:List Ex} {d:List Int} {k:Int}
def D66 (s0:Sto) (bp bl:Nat) (L:List Tok) (o:List Ex) (d:List Int) (k:Int) (r:Res (Head × Nat)) (v:AV) (s':Sto):Prop :=
 match r with
 | .ok (h,a')=>(∃ k0 k1 k2 k3 k4,v=.tuple [.agg (hdA k0 k1 k2 k3 k4 h),.nilIface])∧a'≤L.length∧Pst s0 s' bp bl L a' o d k
 | .error x=>∃ e a',v=.tuple [.agg (hdA 1 1 1 1 1 hd0),e]∧A84 x e∧Pst s0 s' bp bl L a' o d k
theorem W4 {n i b b':Nat} {h h':Head} (hsf:G7 L i h b=.ok (h',b')):X4 L (n+1) i h b=X4 L n (i+1) h' b':=by
 rw [X4,hsf]
theorem Z8 {n i b:Nat} {h:Head} {x:Int × Int × Int} (hsf:G7 L i h b=.error x):X4 L (n+1) i h b=.error x:=by
 rw [X4,hsf]
theorem D53 (hE:Nu.A0l Γ) (hT:∀ i,(C8 L i).2.1.length≤5000) (hL:L.length≤66000) (hla:a≤L.length) (hP:Pst s0 s bp bl L a o d k) :
  A6 Tryz.prog Γ 105 [.ptr (some ⟨bp,0,none⟩)] s (D66 s0 bp bl L o d k (U4 L a)):=by
 have hhs:=C44 L a
 refine acs Tryz.func105 ?_
 conv=>whnf
 intro b1 hb1
 obtain ⟨p1,p2⟩:=hP.nb hb1
 have c1:s0.bx b1=none:=hP.sub.none hb1
 have hP1:=(hP.box hb1 96 [.ptr (some ⟨bp,0,none⟩)]).keep (T:=96) (cs:=[.ptr (some ⟨bp,0,none⟩)]) A7 p1 p2
 generalize s.set b1 96 [.ptr (some ⟨bp,0,none⟩)]=sx at *
 conv=>whnf
 intro b2 hb2
 obtain ⟨m1,m2⟩:=hP1.nb hb2
 have c2:(s0.set b1 96 [.ptr (some ⟨bp,0,none⟩)]).bx b2=none:=hP1.sub.none hb2
 have n12:b1≠b2:=A8 (hP1.sub.bx _ _ A7) hb2
 have hP2:=(hP1.box hb2 31 (hdA 1 1 1 1 1 hd0)).keep (T:=31) (cs:=hdA 1 1 1 1 1 hd0) A7 m1 m2
 have h1in:((s0.set b1 96 [.ptr (some ⟨bp,0,none⟩)]).set b2 31 (hdA 1 1 1 1 1 hd0)).bx b1=some (96,[.ptr (some ⟨bp,0,none⟩)]):=(A9 n12).trans A7
 generalize hs1:(s0.set b1 96 [.ptr (some ⟨bp,0,none⟩)]).set b2 31 (hdA 1 1 1 1 1 hd0)=s1 at *
 have hback:∀ {s:Sto} {a:Nat},Pst s1 s bp bl L a o d k→Pst s0 s bp bl L a o d k∧s.bx b2=some (31,hdA 1 1 1 1 1 hd0):=fun h=>by
  rw [← hs1] at h
  obtain ⟨g1,g2⟩:=h.drop c2
  exact ⟨(g1.drop c1).1,g2⟩
 have d2:s0.bx b2=none:=by rw [A9 n12.symm] at c2;exact c2
 refine wp ?_
 intro b4 hb4
 obtain ⟨m3,m4⟩:=hP2.nb hb4
 have c4:s1.bx b4=none:=hP2.sub.none hb4
 have hP4:=(hP2.box hb4 31 (hdA 1 1 1 1 1 hd0)).keep (b:=b4) (T:=31) (cs:=hdA 1 1 1 1 1 hd0) A7 m3 m4
 refine wp ?_
 refine AWp.loopA [21] [22,23,24,7,25,26,8,27,28,29,30,3,31] (fun q:Nat × Head × Nat=>[.int .i64 (q.1:Int)]) (fun q s'=>q.1≤9∧q.2.2≤L.length∧(∃ k0 k1 k2 k3 k4,Pst (s1.set b4 31 (hdA k0 k1 k2 k3 k4 q.2.1)) s' bp bl L q.2.2 o d k)∧U4 L a=X4 L (9 - q.1) q.1 q.2.1 q.2.2) (fun q=>9 - q.1) ((0,hd0,a)) (by kernel_rfl) (eqa) ?_ ?_
 ·exact ⟨Nat.zero_le _,hla,⟨_,_,_,_,_,hP4⟩,hhs⟩
 ·rintro y ⟨i,h,b⟩ s7 ⟨hi,hb,⟨k0,k1,k2,k3,k4,hP7⟩,hq⟩
  simp only at hi hb hP7 hq
  rcases (show i=0∨i=1∨i=2∨i=3∨i=4∨i=5∨i=6∨i=7∨i=8∨i=9 by omega) with rfl|rfl|rfl|rfl|rfl|rfl|rfl|rfl|rfl|rfl
  ·show awp _ _ _ _ _ (updL _ _ [.int .i64 ((0:Nat):Int)]) _
   have hst:=D32 (Γ:=Γ) c4 h1in m3 m4 hL hb hP7
   refine wp ?_
   refine A6.by hst ?_
   intro v s8 hv8
   unfold A69 at hv8
   rcases hsf:G7 L 0 h b with x|⟨h',b'⟩
   ·rw [hsf] at hv8
    obtain ⟨⟨kd,tx,rfl⟩,h',k0',k1',k2',k3',k4',a',hP8⟩:=hv8
    have eE:U4 L a=.error x:=hq.trans (Z8 (n:=8 - 0) hsf)
    obtain ⟨hPx,hbx4⟩:=Pst.drop hP8 c4
    obtain ⟨hPy,hbx2⟩:=hback hPx
    refine wp ?_
    refine ⟨_,Sub.refl _,?_⟩
    rw [eE]
    exact ⟨_,a',rfl,⟨kd,tx,rfl⟩,hPy.put d2 m1 m2 _ _⟩
   ·have eK:U4 L a=X4 L (9 - (0+1)) (0+1) h' b':=hq.trans (W4 (n:=9 - (0+1)) hsf)
    rw [hsf] at hv8
    obtain ⟨rfl,hb',k0',k1',k2',k3',k4',hP8⟩:=hv8
    refine wp ?_
    exact ⟨(0+1,h',b'),eqa,C5,⟨by simp only;omega,hb',⟨_,_,_,_,_,hP8⟩,eK⟩,by simp only;omega⟩
  ·show awp _ _ _ _ _ (updL _ _ [.int .i64 ((1:Nat):Int)]) _
   have hst:=D33 (Γ:=Γ) c4 h1in m3 m4 hL hb hP7
   refine wp ?_
   refine A6.by hst ?_
   intro v s8 hv8
   unfold A69 at hv8
   rcases hsf:G7 L 1 h b with x|⟨h',b'⟩
   ·rw [hsf] at hv8
    obtain ⟨⟨kd,tx,rfl⟩,h',k0',k1',k2',k3',k4',a',hP8⟩:=hv8
    have eE:U4 L a=.error x:=hq.trans (Z8 (n:=8 - 1) hsf)
    obtain ⟨hPx,hbx4⟩:=Pst.drop hP8 c4
    obtain ⟨hPy,hbx2⟩:=hback hPx
    refine wp ?_
    refine ⟨_,Sub.refl _,?_⟩
    rw [eE]
    exact ⟨_,a',rfl,⟨kd,tx,rfl⟩,hPy.put d2 m1 m2 _ _⟩
   ·have eK:U4 L a=X4 L (9 - (1+1)) (1+1) h' b':=hq.trans (W4 (n:=9 - (1+1)) hsf)
    rw [hsf] at hv8
    obtain ⟨rfl,hb',k0',k1',k2',k3',k4',hP8⟩:=hv8
    refine wp ?_
    exact ⟨(1+1,h',b'),eqa,C5,⟨by simp only;omega,hb',⟨_,_,_,_,_,hP8⟩,eK⟩,by simp only;omega⟩
  ·show awp _ _ _ _ _ (updL _ _ [.int .i64 ((2:Nat):Int)]) _
   have hst:=D34 (Γ:=Γ) hE hT c4 h1in m3 m4 hL hb hP7
   refine wp ?_
   refine A6.by hst ?_
   intro v s8 hv8
   unfold A69 at hv8
   rcases hsf:G7 L 2 h b with x|⟨h',b'⟩
   ·rw [hsf] at hv8
    obtain ⟨⟨kd,tx,rfl⟩,h',k0',k1',k2',k3',k4',a',hP8⟩:=hv8
    have eE:U4 L a=.error x:=hq.trans (Z8 (n:=8 - 2) hsf)
    obtain ⟨hPx,hbx4⟩:=Pst.drop hP8 c4
    obtain ⟨hPy,hbx2⟩:=hback hPx
    refine wp ?_
    refine ⟨_,Sub.refl _,?_⟩
    rw [eE]
    exact ⟨_,a',rfl,⟨kd,tx,rfl⟩,hPy.put d2 m1 m2 _ _⟩
   ·have eK:U4 L a=X4 L (9 - (2+1)) (2+1) h' b':=hq.trans (W4 (n:=9 - (2+1)) hsf)
    rw [hsf] at hv8
    obtain ⟨rfl,hb',k0',k1',k2',k3',k4',hP8⟩:=hv8
    refine wp ?_
    exact ⟨(2+1,h',b'),eqa,C5,⟨by simp only;omega,hb',⟨_,_,_,_,_,hP8⟩,eK⟩,by simp only;omega⟩
  ·show awp _ _ _ _ _ (updL _ _ [.int .i64 ((3:Nat):Int)]) _
   have hst:=D35 (Γ:=Γ) hE hT c4 h1in m3 m4 hL hb hP7
   refine wp ?_
   refine A6.by hst ?_
   intro v s8 hv8
   unfold A69 at hv8
   rcases hsf:G7 L 3 h b with x|⟨h',b'⟩
   ·rw [hsf] at hv8
    obtain ⟨⟨kd,tx,rfl⟩,h',k0',k1',k2',k3',k4',a',hP8⟩:=hv8
    have eE:U4 L a=.error x:=hq.trans (Z8 (n:=8 - 3) hsf)
    obtain ⟨hPx,hbx4⟩:=Pst.drop hP8 c4
    obtain ⟨hPy,hbx2⟩:=hback hPx
    refine wp ?_
    refine ⟨_,Sub.refl _,?_⟩
    rw [eE]
    exact ⟨_,a',rfl,⟨kd,tx,rfl⟩,hPy.put d2 m1 m2 _ _⟩
   ·have eK:U4 L a=X4 L (9 - (3+1)) (3+1) h' b':=hq.trans (W4 (n:=9 - (3+1)) hsf)
    rw [hsf] at hv8
    obtain ⟨rfl,hb',k0',k1',k2',k3',k4',hP8⟩:=hv8
    refine wp ?_
    exact ⟨(3+1,h',b'),eqa,C5,⟨by simp only;omega,hb',⟨_,_,_,_,_,hP8⟩,eK⟩,by simp only;omega⟩
  ·show awp _ _ _ _ _ (updL _ _ [.int .i64 ((4:Nat):Int)]) _
   have hst:=D36 (Γ:=Γ) hE hT c4 h1in m3 m4 hL hb hP7
   refine wp ?_
   refine A6.by hst ?_
   intro v s8 hv8
   unfold A69 at hv8
   rcases hsf:G7 L 4 h b with x|⟨h',b'⟩
   ·rw [hsf] at hv8
    obtain ⟨⟨kd,tx,rfl⟩,h',k0',k1',k2',k3',k4',a',hP8⟩:=hv8
    have eE:U4 L a=.error x:=hq.trans (Z8 (n:=8 - 4) hsf)
    obtain ⟨hPx,hbx4⟩:=Pst.drop hP8 c4
    obtain ⟨hPy,hbx2⟩:=hback hPx
    refine wp ?_
    refine ⟨_,Sub.refl _,?_⟩
    rw [eE]
    exact ⟨_,a',rfl,⟨kd,tx,rfl⟩,hPy.put d2 m1 m2 _ _⟩
   ·have eK:U4 L a=X4 L (9 - (4+1)) (4+1) h' b':=hq.trans (W4 (n:=9 - (4+1)) hsf)
    rw [hsf] at hv8
    obtain ⟨rfl,hb',k0',k1',k2',k3',k4',hP8⟩:=hv8
    refine wp ?_
    exact ⟨(4+1,h',b'),eqa,C5,⟨by simp only;omega,hb',⟨_,_,_,_,_,hP8⟩,eK⟩,by simp only;omega⟩
  ·show awp _ _ _ _ _ (updL _ _ [.int .i64 ((5:Nat):Int)]) _
   have hst:=D37 (Γ:=Γ) hE hT c4 h1in m3 m4 hL hb hP7
   refine wp ?_
   refine A6.by hst ?_
   intro v s8 hv8
   unfold A69 at hv8
   rcases hsf:G7 L 5 h b with x|⟨h',b'⟩
   ·rw [hsf] at hv8
    obtain ⟨⟨kd,tx,rfl⟩,h',k0',k1',k2',k3',k4',a',hP8⟩:=hv8
    have eE:U4 L a=.error x:=hq.trans (Z8 (n:=8 - 5) hsf)
    obtain ⟨hPx,hbx4⟩:=Pst.drop hP8 c4
    obtain ⟨hPy,hbx2⟩:=hback hPx
    refine wp ?_
    refine ⟨_,Sub.refl _,?_⟩
    rw [eE]
    exact ⟨_,a',rfl,⟨kd,tx,rfl⟩,hPy.put d2 m1 m2 _ _⟩
   ·have eK:U4 L a=X4 L (9 - (5+1)) (5+1) h' b':=hq.trans (W4 (n:=9 - (5+1)) hsf)
    rw [hsf] at hv8
    obtain ⟨rfl,hb',k0',k1',k2',k3',k4',hP8⟩:=hv8
    refine wp ?_
    exact ⟨(5+1,h',b'),eqa,C5,⟨by simp only;omega,hb',⟨_,_,_,_,_,hP8⟩,eK⟩,by simp only;omega⟩
  ·show awp _ _ _ _ _ (updL _ _ [.int .i64 ((6:Nat):Int)]) _
   have hst:=D38 (Γ:=Γ) c4 h1in m3 m4 hL hb hP7
   refine wp ?_
   refine A6.by hst ?_
   intro v s8 hv8
   unfold A69 at hv8
   rcases hsf:G7 L 6 h b with x|⟨h',b'⟩
   ·rw [hsf] at hv8
    obtain ⟨⟨kd,tx,rfl⟩,h',k0',k1',k2',k3',k4',a',hP8⟩:=hv8
    have eE:U4 L a=.error x:=hq.trans (Z8 (n:=8 - 6) hsf)
    obtain ⟨hPx,hbx4⟩:=Pst.drop hP8 c4
    obtain ⟨hPy,hbx2⟩:=hback hPx
    refine wp ?_
    refine ⟨_,Sub.refl _,?_⟩
    rw [eE]
    exact ⟨_,a',rfl,⟨kd,tx,rfl⟩,hPy.put d2 m1 m2 _ _⟩
   ·have eK:U4 L a=X4 L (9 - (6+1)) (6+1) h' b':=hq.trans (W4 (n:=9 - (6+1)) hsf)
    rw [hsf] at hv8
    obtain ⟨rfl,hb',k0',k1',k2',k3',k4',hP8⟩:=hv8
    refine wp ?_
    exact ⟨(6+1,h',b'),eqa,C5,⟨by simp only;omega,hb',⟨_,_,_,_,_,hP8⟩,eK⟩,by simp only;omega⟩
  ·show awp _ _ _ _ _ (updL _ _ [.int .i64 ((7:Nat):Int)]) _
   have hst:=D39 (Γ:=Γ) c4 h1in m3 m4 hL hb hP7
   refine wp ?_
   refine A6.by hst ?_
   intro v s8 hv8
   unfold A69 at hv8
   rcases hsf:G7 L 7 h b with x|⟨h',b'⟩
   ·rw [hsf] at hv8
    obtain ⟨⟨kd,tx,rfl⟩,h',k0',k1',k2',k3',k4',a',hP8⟩:=hv8
    have eE:U4 L a=.error x:=hq.trans (Z8 (n:=8 - 7) hsf)
    obtain ⟨hPx,hbx4⟩:=Pst.drop hP8 c4
    obtain ⟨hPy,hbx2⟩:=hback hPx
    refine wp ?_
    refine ⟨_,Sub.refl _,?_⟩
    rw [eE]
    exact ⟨_,a',rfl,⟨kd,tx,rfl⟩,hPy.put d2 m1 m2 _ _⟩
   ·have eK:U4 L a=X4 L (9 - (7+1)) (7+1) h' b':=hq.trans (W4 (n:=9 - (7+1)) hsf)
    rw [hsf] at hv8
    obtain ⟨rfl,hb',k0',k1',k2',k3',k4',hP8⟩:=hv8
    refine wp ?_
    exact ⟨(7+1,h',b'),eqa,C5,⟨by simp only;omega,hb',⟨_,_,_,_,_,hP8⟩,eK⟩,by simp only;omega⟩
  ·show awp _ _ _ _ _ (updL _ _ [.int .i64 ((8:Nat):Int)]) _
   have hst:=D4a (Γ:=Γ) hE hT c4 h1in m3 m4 hL hb hP7
   refine wp ?_
   refine A6.by hst ?_
   intro v s8 hv8
   unfold A69 at hv8
   rcases hsf:G7 L 8 h b with x|⟨h',b'⟩
   ·rw [hsf] at hv8
    obtain ⟨⟨kd,tx,rfl⟩,h',k0',k1',k2',k3',k4',a',hP8⟩:=hv8
    have eE:U4 L a=.error x:=hq.trans (Z8 (n:=8 - 8) hsf)
    obtain ⟨hPx,hbx4⟩:=Pst.drop hP8 c4
    obtain ⟨hPy,hbx2⟩:=hback hPx
    refine wp ?_
    refine ⟨_,Sub.refl _,?_⟩
    rw [eE]
    exact ⟨_,a',rfl,⟨kd,tx,rfl⟩,hPy.put d2 m1 m2 _ _⟩
   ·have eK:U4 L a=X4 L (9 - (8+1)) (8+1) h' b':=hq.trans (W4 (n:=9 - (8+1)) hsf)
    rw [hsf] at hv8
    obtain ⟨rfl,hb',k0',k1',k2',k3',k4',hP8⟩:=hv8
    refine wp ?_
    exact ⟨(8+1,h',b'),eqa,C5,⟨by simp only;omega,hb',⟨_,_,_,_,_,hP8⟩,eK⟩,by simp only;omega⟩
  ·show awp _ _ _ _ _ (updL _ _ [.int .i64 ((9:Nat):Int)]) _
   have eK:U4 L a=.ok (h,b):=by rw [hq];rfl
   obtain ⟨hPx,hbx4⟩:=Pst.drop hP7 c4
   obtain ⟨hPy,hbx2⟩:=hback hPx
   simp only [hdA] at hbx4
   refine wp ?_
   refine ⟨_,Sub.refl _,?_⟩
   rw [eK]
   exact ⟨⟨k0,k1,k2,k3,k4,rfl⟩,hb,hPy.put d2 m1 m2 _ _⟩
end
def hdT (k0 k1 k2 k3 k4 t:Nat) (h:Head) (l:List Tr.Tn):List AV:=[.str h.name.1,.int .i64 h.name.2.1,.int .i64 h.name.2.2,.slice k0 (h.decls.map (fun x=>Tr.deA (0,x))),.slice k1 (h.quants.map Tr.quA),.slice k2 (h.frees.map Tr.frA),.slice k3 (h.states.map Tr.stA),
 .str h.start.1,.int .i64 h.start.2.1,.int .i64 h.start.2.2,.slice k4 (h.also.map (fun x=>Tr.syA (0,x))),.slice t (l.map (fun x=>Tr.tnA ((0,0,0),x)))]
theorem D52 (k0 k1 k2 k3 k4:Nat) (h:Head):hdA k0 k1 k2 k3 k4 h=hdT k0 k1 k2 k3 k4 1 h []:=rfl
def SpA (r:Res (Head × List A3h)) (v:AV):Prop :=
 match r with
 | .ok (h,ts)=>∃ k0 k1 k2 k3 k4 t,v=.tuple [.agg (hdT k0 k1 k2 k3 k4 t h (ts.map A9a)),.nilIface]
 | .error x=>∃ k0 k1 k2 k3 k4 t h l e,v=.tuple [.agg (hdT k0 k1 k2 k3 k4 t h l),e]∧A84 x e
def eV:Option (Int × List UInt8 × Int × Int × Int)→AV
 | none=>.nilIface
 | some (kd,tx,x)=>B7u (kd,tx,x.2.1,x.2.2) x.1
theorem B9o {L:List Tok} {k:Int} {a:Nat} {y:A3h} {a':Nat} (hk:0≤k∧k≤128) (h:K3 L k a=.ok (y,a')):a < a'∧a'≤L.length:=by
 unfold K3 at h
 split at h
 ·cases h
 ·rename_i fr a1 h1
  split at h
  ·cases h
  ·rename_i sy a2 h2
   split at h
   ·cases h
   ·rename_i g s3 h3
    split at h
    ·cases h
    ·rename_i ses s4 h4
     split at h
     ·cases h
     ·rename_i a5 h5
      split at h
      ·cases h
      ·rename_i tw a6 h6
       cases h
       have e1:=A5u h1
       have e2:=A1c h2
       have g3:a2≤s3.a∧(s3.a < L.length→M7 L s3):=by
        unfold A1f at h3
        split at h3
        ·rename_i hi
         split at h3
         ·cases h3
         ·rename_i s2 hx
          have hok:M7 L ⟨a2+1,[],[],k⟩:=⟨H0 hi,Nat.zero_le _,rfl,hk⟩
          obtain ⟨q1,q2⟩:=P8 (A1v L) 0 _ (by omega) hok (V6 L _) s2 hx
          have:=q2.a
          cases h3
          exact ⟨by simp only at this;omega,fun _=>q1⟩
        ·cases h3
         exact ⟨Nat.le_refl _,fun hl=>⟨Nat.le_of_lt hl,Nat.zero_le _,rfl,hk⟩⟩
       have g4:s3.a≤s4.a:=by
        unfold doF at h4
        split at h4
        ·rename_i hi
         have hl:=H0 hi
         have q:=g3.2 hl
         have:=(A4l _ _ _ _ _ (⟨hl,by have:=q.ho;simp only;omega,q.hd,q.hk⟩:M7 L { s3 with a:=s3.a+1 }) (by simp only;omega) h4).2.1
         simp only at this
         omega
        ·cases h4
         exact Nat.le_refl _
       have e5:=A3t h5
       have e6:=A1i h6
       omega
section
variable {s0 s1 s:Sto} {bp bl:Nat} {L:List Tok} {a:Nat} {o:List Ex} {d:List Int} {k:Int}
theorem D6s (hE:Nu.A0l Γ) (hT:∀ i,(C8 L i).2.1.length≤5000) (hL:L.length≤66000) (hP:Pst s0 s bp bl L 0 o d 0) :
  A6 Tryz.prog Γ 49 [.ptr (some ⟨bp,0,none⟩)] s fun v s'=>Sub s0 s'∧SpA (A1x L) v:=by
 refine acs Tryz.func49 ?_
 conv=>whnf
 intro b2 hb2
 obtain ⟨m1,m2⟩:=hP.nb hb2
 have d2:s0.bx b2=none:=hP.sub.none hb2
 have hP2:=(hP.box hb2 31 (hdA 1 1 1 1 1 hd0)).keep (T:=31) (cs:=hdA 1 1 1 1 1 hd0) A7 m1 m2
 have hback:∀ {s:Sto} {a:Nat} {o:List Ex} {d:List Int} {k:Int},Pst (s0.set b2 31 (hdA 1 1 1 1 1 hd0)) s bp bl L a o d k→Pst s0 s bp bl L a o d k∧s.bx b2=some (31,hdA 1 1 1 1 1 hd0):=fun h=>h.drop d2
 generalize hs1:s0.set b2 31 (hdA 1 1 1 1 1 hd0)=s1 at *
 have hd:=D53 (Γ:=Γ) hE hT hL (Nat.zero_le _) hP2
 refine wp ?_
 refine A6.by hd ?_
 intro v s5 hv5
 unfold D66 at hv5
 rcases hhf:U4 L 0 with x|⟨hdr,a0⟩
 ·have eS:A1x L=.error x:=by unfold A1x;rw [hhf]
  rw [hhf] at hv5
  obtain ⟨e,a',rfl,⟨kd,tx,rfl⟩,hP5⟩:=hv5
  refine wp ?_
  intro b4 hb4
  obtain ⟨m3,m4⟩:=hP5.nb hb4
  have hP6:=(hP5.box hb4 31 (hdA 1 1 1 1 1 hd0)).put (hP5.sub.none hb4) m3 m4 31 (hdA 1 1 1 1 1 hd0)
  have hq4:((s5.set b4 31 (hdA 1 1 1 1 1 hd0)).set b4 31 (hdA 1 1 1 1 1 hd0)).bx b4=some (31,hdA 1 1 1 1 1 hd0):=A7
  obtain ⟨hP7,hq2⟩:=hback hP6
  refine wp ?_
  refine AWp.loopA [5] [13,14,15,16,17,18,19,20,21,22,23,24,25,26,27,28,29,30,31,32,34,35,33,36,37,6,7,38,39,40,41,42,43,44] (fun _:Unit=>[B7u (kd,tx,x.2.1,x.2.2) x.1]) (fun _ s'=>s'=(s5.set b4 31 (hdA 1 1 1 1 1 hd0)).set b4 31 (hdA 1 1 1 1 1 hd0)) (fun _=>0) (()) (by kernel_rfl) (rfl) ?_ ?_
  ·exact rfl
  ·rintro y _ s7 hs7
   subst s7
   show awp _ _ _ _ _ (updL _ _ [.iface 158 (.cptr (Q1 (kd,tx,x.2.1,x.2.2)++[.iface 44 (.int .i64 x.1)]))]) _
   refine wp ?_
   refine ⟨_,Sub.refl _,(hP7.put d2 m1 m2 _ _).sub,?_⟩
   rw [eS]
   exact ⟨1,1,1,1,1,1,hd0,[],_,rfl,⟨kd,tx,rfl⟩⟩
 ·have eS:A1x L=match A06 L (L.length+1) [] a0 with
    | .error e=>.error e
    | .ok ts=>.ok (hdr,ts):=by unfold A1x;rw [hhf];rfl
  rw [hhf] at hv5
  obtain ⟨⟨q0,q1,q2,q3,q4,rfl⟩,ha0,hP5⟩:=hv5
  refine wp ?_
  intro b4 hb4
  obtain ⟨m3,m4⟩:=hP5.nb hb4
  have c4:=hP5.sub.none hb4
  have hP6:=((hP5.box hb4 31 (hdA 1 1 1 1 1 hd0)).put c4 m3 m4 31 (hdA q0 q1 q2 q3 q4 hdr)).keep (b:=b4) (T:=31) (cs:=hdA q0 q1 q2 q3 q4 hdr) A7 m3 m4
  refine wp ?_
  refine AWp.loopA [5] [13,14,15,16,17,18,19,20,21,22,23,24,25,26,27,28,29,30,31,32,34,35,33,36,37,6,7,38,39,40,41,42,43,44] (fun q:List Tr.Tn × Nat × B4e s1 × Option (Int × List UInt8 × Int × Int × Int)=>[eV q.2.2.2]) (fun q s'=>(∃ o d k,(q.2.2.2=none→k=0)∧Pst (A6y s1 b4 31 (hdT q0 q1 q2 q3 q4 q.2.2.1.1 hdr q.1) q.2.2.1.1 43 13) s' bp bl L q.2.1 o d k)∧(q.2.2.2=none→q.2.1≤L.length∧q.1.length≤q.2.1∧∃ m ts,q.1=ts.map A9a∧L.length - q.2.1 < m∧A06 L (L.length+1) [] a0=A06 L m ts q.2.1)∧(∀ kd tx x,q.2.2.2=some (kd,tx,x)→A1x L=.error x)) (fun q=>match q.2.2.2 with|none=>L.length - q.2.1+1|some _=>0) (([],a0,⟨1,.inl rfl⟩,none)) (by kernel_rfl) (rfl) ?_ ?_
  ·refine ⟨⟨o,d,0,fun _=>rfl,?_⟩,fun _=>⟨ha0,Nat.zero_le _,L.length+1,[],rfl,by simp only;omega,rfl⟩,fun _ _ _ h=>nomatch h⟩
   simp only [B6o,← D52]
   exact hP6
  ·rintro y ⟨acc,b,t,e⟩ s7 ⟨⟨o7,d7,k7,hk7,hP7⟩,hN,hS⟩
   simp only at hk7 hP7 hN hS
   obtain ⟨hPx,hbx4,may⟩:=Pst.dropRow hP7 c4
   obtain ⟨hPy,hbx2⟩:=hback hPx
   have hbx4':=hbx4
   simp only [hdT] at hbx4
   rcases e with _|⟨kd,tx,x⟩
   ·obtain ⟨hb,hac,m,ts,hts,hm,htr⟩:=hN rfl
    obtain rfl:=hk7 rfl
    obtain ⟨m,rfl⟩:∃ m',m=m'+1:=⟨m - 1,by omega⟩
    obtain ⟨t1,t2,hbp,_⟩:=hP7.pr
    have hbl:=hP7.pl
    have htl:=A55 L
    show awp _ _ _ _ _ (updL _ _ [.nilIface]) _
    conv=>whnf
    by_cases hlt:b < L.length
    ·have htn:=D4n (Γ:=Γ) hE hL hT hP7 ⟨Int.le_refl _,by decide⟩ (by omega)
     refine wp ?_
     refine A6.by htn ?_
     intro v s8 hv8
     unfold C56 at hv8
     rcases htf:K3 L 0 b with x|⟨tt,b'⟩
     ·have eE:A1x L=.error x:=by rw [eS,htr,A06,if_pos hlt,htf]
      rw [htf] at hv8
      obtain ⟨yy,e,a',o',d',k',rfl,⟨kd,tx,rfl⟩,hP8⟩:=hv8
      refine wp ?_
      intro b6 hb6
      obtain ⟨m5,m6⟩:=hP8.nb hb6
      have hP9:=(hP8.box hb6 43 [.str [],.int .i64 0,.int .i64 0,.str [],.int .i64 0,.int .i64 0,.str [],.slice 1 [],.int .i64 0,.int .i64 0,.slice 1 [],.int .i64 0,.slice 1 []]).put (hP8.sub.none hb6) m5 m6 43 (Tr.tnA ((0,0,0),yy))
      have hq9:=hP9.sub.bx _ _ (A6z.trans A7)
      have may:=hP9.mayB
      simp only [hdT] at hq9
      refine wp ?_
      refine ⟨may,fun c hc=>by obtain ⟨z,_,rfl⟩:=List.mem_map.1 hc;rfl,all_cons ⟨rfl,rfl⟩ all_nil,?_,?_⟩
      ·show ((acc.map (fun x=>Tr.tnA ((0,0,0),x))).length+1) * (_+1)≤_
       rw [List.length_map]
       exact Nat.le_trans (Nat.mul_le_mul_right _ (show acc.length+1≤100001 by omega)) (Nat.le_of_ble_eq_true (by kernel_rfl))
      intro t' k1 k2
      obtain ⟨hPd,hf⟩:=Pst.grown (cs':=[.str hdr.name.1,.int .i64 hdr.name.2.1,.int .i64 hdr.name.2.2,.slice q0 (hdr.decls.map (fun x=>Tr.deA (0,x))),.slice q1 (hdr.quants.map Tr.quA),.slice q2 (hdr.frees.map Tr.frA),.slice q3 (hdr.states.map Tr.stA),
       .str hdr.start.1,.int .i64 hdr.start.2.1,.int .i64 hdr.start.2.2,.slice q4 (hdr.also.map (fun x=>Tr.syA (0,x))),.slice t' (acc.map (fun x=>Tr.tnA ((0,0,0),x))++[Tr.tnA ((0,0,0),yy)])]) hP9 t.2 k2 c4 m3 m4
      have f4':=(L8 (t:=t.1) (t':=t') (e:=43) (k:=13)).trans hq9
      have em:hdT q0 q1 q2 q3 q4 t' hdr (acc++[yy])=[.str hdr.name.1,.int .i64 hdr.name.2.1,.int .i64 hdr.name.2.2,.slice q0 (hdr.decls.map (fun x=>Tr.deA (0,x))),.slice q1 (hdr.quants.map Tr.quA),.slice q2 (hdr.frees.map Tr.frA),.slice q3 (hdr.states.map Tr.stA),
       .str hdr.start.1,.int .i64 hdr.start.2.1,.int .i64 hdr.start.2.2,.slice q4 (hdr.also.map (fun x=>Tr.syA (0,x))),.slice t' (acc.map (fun x=>Tr.tnA ((0,0,0),x))++[Tr.tnA ((0,0,0),yy)])]:=by
       unfold hdT
       rw [List.map_append]
       rfl
      refine wp ?_
      refine ⟨(acc++[yy],a',⟨t',hf⟩,some (kd,tx,x)),rfl,C5,⟨⟨o',d',k',(fun h=>nomatch h),?_⟩,(fun h=>nomatch h),fun _ _ _ h=>by cases h;exact eE⟩,by simp only;omega⟩
      simp only [em]
      exact hPd
     ·have htr':A06 L (L.length+1) [] a0=A06 L m (ts++[tt]) b':=by rw [htr,A06,if_pos hlt,htf]
      have hb':=B9o ⟨Int.le_refl _,by decide⟩ htf
      rw [htf] at hv8
      obtain ⟨rfl,o',d',hP8⟩:=hv8
      refine wp ?_
      intro b6 hb6
      obtain ⟨m5,m6⟩:=hP8.nb hb6
      have hP9:=(hP8.box hb6 43 [.str [],.int .i64 0,.int .i64 0,.str [],.int .i64 0,.int .i64 0,.str [],.slice 1 [],.int .i64 0,.int .i64 0,.slice 1 [],.int .i64 0,.slice 1 []]).put (hP8.sub.none hb6) m5 m6 43 (Tr.tnA ((0,0,0),(A9a tt)))
      have hq9:=hP9.sub.bx _ _ (A6z.trans A7)
      have may:=hP9.mayB
      simp only [hdT] at hq9
      refine wp ?_
      refine ⟨may,fun c hc=>by obtain ⟨z,_,rfl⟩:=List.mem_map.1 hc;rfl,all_cons ⟨rfl,rfl⟩ all_nil,?_,?_⟩
      ·show ((acc.map (fun x=>Tr.tnA ((0,0,0),x))).length+1) * (_+1)≤_
       rw [List.length_map]
       exact Nat.le_trans (Nat.mul_le_mul_right _ (show acc.length+1≤100001 by omega)) (Nat.le_of_ble_eq_true (by kernel_rfl))
      intro t' k1 k2
      obtain ⟨hPd,hf⟩:=Pst.grown (cs':=[.str hdr.name.1,.int .i64 hdr.name.2.1,.int .i64 hdr.name.2.2,.slice q0 (hdr.decls.map (fun x=>Tr.deA (0,x))),.slice q1 (hdr.quants.map Tr.quA),.slice q2 (hdr.frees.map Tr.frA),.slice q3 (hdr.states.map Tr.stA),
       .str hdr.start.1,.int .i64 hdr.start.2.1,.int .i64 hdr.start.2.2,.slice q4 (hdr.also.map (fun x=>Tr.syA (0,x))),.slice t' (acc.map (fun x=>Tr.tnA ((0,0,0),x))++[Tr.tnA ((0,0,0),(A9a tt))])]) hP9 t.2 k2 c4 m3 m4
      have f4':=(L8 (t:=t.1) (t':=t') (e:=43) (k:=13)).trans hq9
      have em:hdT q0 q1 q2 q3 q4 t' hdr (acc++[(A9a tt)])=[.str hdr.name.1,.int .i64 hdr.name.2.1,.int .i64 hdr.name.2.2,.slice q0 (hdr.decls.map (fun x=>Tr.deA (0,x))),.slice q1 (hdr.quants.map Tr.quA),.slice q2 (hdr.frees.map Tr.frA),.slice q3 (hdr.states.map Tr.stA),
       .str hdr.start.1,.int .i64 hdr.start.2.1,.int .i64 hdr.start.2.2,.slice q4 (hdr.also.map (fun x=>Tr.syA (0,x))),.slice t' (acc.map (fun x=>Tr.tnA ((0,0,0),x))++[Tr.tnA ((0,0,0),(A9a tt))])]:=by
       unfold hdT
       rw [List.map_append]
       rfl
      refine wp ?_
      refine ⟨(acc++[A9a tt],b',⟨t',hf⟩,none),rfl,C5,⟨⟨o',d',0,(fun _=>rfl),?_⟩,(fun _=>⟨hb'.2,?_,m,ts++[tt],?_,?_,htr'⟩),fun _ _ _ h=>nomatch h⟩,?_⟩
      ·simp only [em]
       exact hPd
      ·simp only [List.length_append,List.length_cons,List.length_nil]
       omega
      ·rw [hts,List.map_append];rfl
      ·simp only
       omega
      ·simp only
       omega
    ·refine wp ?_
     refine ⟨_,Sub.refl _,(hPy.put d2 m1 m2 _ _).sub,?_⟩
     rw [eS,htr,A06,if_neg hlt,hts]
     exact ⟨q0,q1,q2,q3,q4,t.1,rfl⟩
   ·have eE:=hS kd tx x rfl
    show awp _ _ _ _ _ (updL _ _ [.iface 158 (.cptr (Q1 (kd,tx,x.2.1,x.2.2)++[.iface 44 (.int .i64 x.1)]))]) _
    refine wp ?_
    refine ⟨_,Sub.refl _,(hPy.put d2 m1 m2 _ _).sub,?_⟩
    rw [eE]
    exact ⟨q0,q1,q2,q3,q4,t.1,hdr,acc,_,rfl,⟨kd,tx,rfl⟩⟩
end
theorem fgq {α:Type} {A:α→List AV} (h:∀ x,fgL (A x)=A x) (l:List α):fgE (l.map A)=l.map A:=A4t h l
theorem fgi (l:List Int):fgE (G6 .i64 l)=G6 .i64 l:=A4t (A:=fun n=>[AV.int .i64 n]) (fun _=>rfl) l
theorem D7n (x:Tr.De):fgL (Tr.deA (0,x))=Tr.deA (0,x):=by
 show fgL [_,_,_,.slice 0 (G6 .i64 x.2)]=_
 simp only [fgL,fg,fgi]
 rfl
theorem D7o (x:Tr.Sy):fgL (Tr.syA (0,x))=Tr.syA (0,x):=by
 show fgL [_,.slice 0 (x.2.1.map Tr.arA),_,_]=_
 simp only [fgL,fg]
 rw [fgq (A:=Tr.arA) (fun _=>rfl)]
 rfl
theorem D7p (x:Tr.Tn):fgL (Tr.tnA ((0,0,0),x))=Tr.tnA ((0,0,0),x):=by
 show fgL [_,_,_,_,_,_,_,.slice 0 (x.2.2.1.2.1.map Tr.arA),_,_,.slice 0 (x.2.2.2.1.map Tr.exA),_,.slice 0 (x.2.2.2.2.2.map Tr.seA)]=_
 simp only [fgL,fg]
 rw [fgq (A:=Tr.arA) (fun _=>rfl),fgq (A:=Tr.exA) (fun _=>rfl),fgq (A:=Tr.seA) (fun _=>rfl)]
 rfl
def trN (h:Head) (l:List Tr.Tn):Tr.Tr0:=(h.name,h.decls.map fun d=>(0,d),h.quants,h.frees,h.states,h.start,h.also.map fun s=>(0,s),l.map fun t=>((0,0,0),t))
theorem C6r (k0 k1 k2 k3 k4 t:Nat) (h:Head) (l:List Tr.Tn):fgL (hdT k0 k1 k2 k3 k4 t h l)=Tr.trA (fun _=>0) (trN h l):=by
 unfold hdT Tr.trA trN
 simp only [fgL,fg,List.map_map]
 rw [fgq (fun x=>D7n x),fgq (A:=Tr.quA) (fun _=>rfl),fgq (A:=Tr.frA) (fun _=>rfl),fgq (A:=Tr.stA) (fun _=>rfl),fgq (fun x=>D7o x),fgq (fun x=>D7p x)]
 rfl
theorem D8q (h:Head) (ts:List A3h):trN h (ts.map A9a)=C1h h ts:=by
 unfold trN C1h
 rw [List.map_map]
 rfl
def D62 (o:Head × List A3h) (cs:List AV):Prop:=∃ k0 k1 k2 k3 k4 t,cs=hdT k0 k1 k2 k3 k4 t o.1 (o.2.map A9a)
theorem C0z (hE:Nu.A0l Γ) {L:List Tok} (hL:L.length≤66000) (hT:∀ i,(C8 L i).2.1.length≤5000) (bc:Nat):∀ (s0 s:Sto) (bp bl:Nat),Pst s0 s bp bl L 0 [] [] 0→s0.bx bc=some (31,hdA 1 1 1 1 1 hd0)→A6 Tryz.prog Γ 48 [.ptr (some ⟨bp,0,none⟩),.ptr (some ⟨bc,0,none⟩)] s fun v s'=>N5 (B1 bc) s0 s'∧∃ cs',s'.bx bc=some (31,cs')∧C6b D62 (A1x L) v cs':=by
 intro s0 s bp bl hP hb
 have hs:=D6s (Γ:=Γ) hE hT hL hP
 refine acs Tryz.func48 ?_
 refine wp ?_;(refine A6.by hs ?_;rintro v s1 ⟨hsub,hv⟩);refine wp ?_
 have hb1:=hsub.bx _ _ hb
 simp only [hdA] at hb1
 unfold SpA at hv
 rcases hr:A1x L with x|⟨h,ts⟩
 ·rw [hr] at hv
  obtain ⟨k0,k1,k2,k3,k4,t,h,l,e,rfl,⟨kd,tx,rfl⟩⟩:=hv
  refine wp ?_
  exact ⟨_,Sub.refl _,N5.set (B:=B1 bc) (b:=bc) (N5.of_sub hsub) rfl _ _,_,A7,⟨kd,tx,rfl⟩⟩
 ·rw [hr] at hv
  obtain ⟨k0,k1,k2,k3,k4,t,rfl⟩:=hv
  refine wp ?_
  exact ⟨_,Sub.refl _,N5.set (B:=B1 bc) (b:=bc) (N5.of_sub hsub) rfl _ _,_,A7,rfl,k0,k1,k2,k3,k4,t,rfl⟩
theorem D6p {α:Type} (K:α→List AV→Prop) (hQ:Qu.A10 Γ) (hW:Sc.Wds Γ) (hO:AsO.A5f Γ) (hE:AsP.A5f Γ) {n:FuncId} (hn:A3c Tryz.prog n=true) {bc:Nat} {Tc:TypeId} {c:List AV} (S:List UInt8) (hS:S.length≤1048576) (r:List Tok→Res α) (hB:∀ L,A11 S=.ok L→∀ (s0 s:Sto) (bp bl:Nat),Pst s0 s bp bl L 0 [] [] 0→s0.bx bc=some (Tc,c)→A6 Tryz.prog Γ n [.ptr (some ⟨bp,0,none⟩),.ptr (some ⟨bc,0,none⟩)] s fun v s'=>N5 (B1 bc) s0 s'∧∃ cs',s'.bx bc=some (Tc,cs')∧C6b K (r L) v cs') {s:Sto} (hb:s.bx bc=some (Tc,c)) :
  A6 Tryz.prog Γ 47 [.str S,.func (.func n) [] [.ptr (some ⟨bc,0,none⟩)]] s fun v s'=>N5 (B1 bc) s s'∧∃ cs',s'.bx bc=some (Tc,cs')∧D8u K (A29 S r) v cs':=by
 have hl:=B6h hQ hW hO S hS
 rcases hx:A11 S with ⟨e,a,b⟩|L
 ·rw [hx] at hl
  have he0:e≠0:=by
   unfold A11 at hx
   split at hx
   ·cases hx;decide
   ·exact B0z _ _ _ _ _ _ hx
  have hrr:A29 S r=.error (e,a,b):=by unfold A29;rw [hx]
  rw [hrr]
  simp only [C4c] at hl
  refine acs Tryz.func47 ?_
  conv=>whnf
  intro b4 hb4
  have m4:bc≠b4:=A8 hb hb4
  refine wp ?_
  intro b6 hb6
  have n_b4_b6:b4≠b6:=A8 bxa hb6
  have n_b6_b4:=n_b4_b6.symm
  conv=>whnf
  repeat' ((first|exact pru|(refine brS (fun h=>?_) (fun h=>?_)<;>(try rw [h])<;>(try simp only [bS,↓reduceIte] at h))|refine E9 ?_|(refine P4.of A2h A0r ?_)|refine gS ?_|refine aA ?_|refine nA ?_|fail)<;>(conv=>whnf))
  ·have k6:=((Sub.refl s).set hb4 _ _).none hb6
   have m6:bc≠b6:=A8 hb k6
   exact ⟨_,Sub.refl _,N5.of_sub (((((Sub.refl _).set hb4 _ _).set k6 _ _).set k6 _ _).set hb4 _ _),c,bxa,rfl⟩
  ·exfalso;revert h;simp [he0]
 ·rw [hx] at hl
  simp only [C4c] at hl
  refine acs Tryz.func47 ?_
  conv=>whnf
  intro b4 hb4
  have m4:bc≠b4:=A8 hb hb4
  refine wp ?_
  intro b6 hb6
  have n_b4_b6:b4≠b6:=A8 bxa hb6
  have n_b6_b4:=n_b4_b6.symm
  refine wp ?_;(refine P4.of A2h A0r ?_);refine wp ?_
  all_goals first|(exfalso;revert h;simp;done)|skip
  have k6:=((Sub.refl s).set hb4 _ _).none hb6
  have m6:bc≠b6:=A8 hb k6
  intro bl hbl
  have n_b4_bl:b4≠bl:=A8 bxa hbl
  have n_bl_b4:=n_b4_bl.symm
  have n_b6_bl:b6≠bl:=A8 bxa hbl
  have n_bl_b6:=n_b6_bl.symm
  have n_bc_bl:bc≠bl:=A8 bxa hbl
  have n_bl_bc:=n_bc_bl.symm
  refine wp ?_
  intro bp hbp
  have n_b4_bp:b4≠bp:=A8 bxa hbp
  have n_bp_b4:=n_b4_bp.symm
  have n_b6_bp:b6≠bp:=A8 bxa hbp
  have n_bp_b6:=n_b6_bp.symm
  have n_bc_bp:bc≠bp:=A8 bxa hbp
  have n_bp_bc:=n_bc_bp.symm
  have n_bl_bp:bl≠bp:=A8 bxa hbp
  have n_bp_bl:=n_bl_bp.symm
  conv=>whnf
  repeat' ((first|exact pru|(refine brS (fun h=>?_) (fun h=>?_)<;>(try rw [h])<;>(try simp only [bS,↓reduceIte] at h))|refine E9 ?_|refine gS ?_|refine aA ?_|refine nA ?_|fail)<;>(conv=>whnf))
  rotate_left
  ·rw [hn] at h;cases h
  have hsq:Sub s (((s.set b4 46 [.int .i64 0,.int .i64 0,.int .i64 0]).set b6 46 [.int .i64 0,.int .i64 0,.int .i64 0]).set b6 46 [.int .i64 0,.int .i64 0,.int .i64 0]):=(((Sub.refl _).set hb4 _ _).set k6 _ _).set k6 _ _
  have hq4:(((s.set b4 46 [.int .i64 0,.int .i64 0,.int .i64 0]).set b6 46 [.int .i64 0,.int .i64 0,.int .i64 0]).set b6 46 [.int .i64 0,.int .i64 0,.int .i64 0]).bx b4=some (46,[.int .i64 0,.int .i64 0,.int .i64 0]):=bxa
  generalize ((s.set b4 46 [.int .i64 0,.int .i64 0,.int .i64 0]).set b6 46 [.int .i64 0,.int .i64 0,.int .i64 0]).set b6 46 [.int .i64 0,.int .i64 0,.int .i64 0]=sq at *
  have kbp:sq.bx bp=none:=((Sub.refl sq).set hbl _ _).none hbp
  have hP:Pst sq ((sq.set bl 126 [.slice 0 (X8 L),.int .i64 0]).set bp 123 [.ptr (some ⟨bl,0,none⟩),.slice 1 [],.slice 1 [],.int .i64 0]) bp bl L 0 [] [] 0 :=
   ⟨kbp,hbl,n_bp_bl,⟨1,1,A7,Own.start (((Sub.refl _).set hbl _ _).set kbp _ _) _ _,Own.start (((Sub.refl _).set hbl _ _).set kbp _ _) _ _,fun _=>rfl⟩,(A9 n_bl_bp).trans A7⟩
  refine A6.by (hB L hx _ _ _ _ hP (hsq.bx _ _ hb)) ?_
  rintro v s5 ⟨hst,cs',hbc,hv⟩
  have hst2:N5 (B1 bc) s s5:=(N5.of_sub hsq).trans hst
  have h54:=hst.bx b4 _ (fun h=>m4 (Eq.symm h)) hq4
  rcases hrl:r L with x|c0
  ·rw [hrl] at hv
   rw [show A29 S r=.error (C4w x.1,x.2.1,x.2.2) by unfold A29;rw [hx];dsimp only;rw [hrl]]
   obtain ⟨kd,tx,rfl⟩:=hv
   refine wp ?_
   intro b8 hb8
   have k8:=hst2.none1 hbc hb8
   have n_b4_b8:b4≠b8:=A8 bxa hb8
   have n_b8_b4:=n_b4_b8.symm
   have n_bc_b8:bc≠b8:=A8 bxa hb8
   have n_b8_bc:=n_bc_b8.symm
   refine wp ?_;(refine A6.by (AsP.A98 hE _ A7) ?_;rintro _ _ ⟨rfl,rfl⟩);refine wp ?_;(first|(refine A6.pure' ?_ (B0m (kd,tx,x.2.1,x.2.2) x.1);rintro _ rfl)|refine C0.pure ?_ (B0m (kd,tx,x.2.1,x.2.2) x.1));refine wp ?_
   exact ⟨_,Sub.refl _,((hst2.fresh k8 _ _).fresh k8 _ _).fresh hb4 _ _,cs',bxa,rfl⟩
  ·rw [hrl] at hv
   rw [show A29 S r=.ok c0 by unfold A29;rw [hx];dsimp only;rw [hrl]]
   obtain ⟨rfl,hv⟩:=hv
   refine wp ?_
   intro b8 hb8
   have k8:=hst2.none1 hbc hb8
   have n_b4_b8:b4≠b8:=A8 bxa hb8
   have n_b8_b4:=n_b4_b8.symm
   have n_bc_b8:bc≠b8:=A8 bxa hb8
   have n_b8_bc:=n_bc_b8.symm
   refine wp ?_;(first|(refine A6.pure' ?_ (AsP.A38 _);rintro _ rfl)|refine C0.pure ?_ (AsP.A38 _));refine wp ?_
   exact ⟨_,Sub.refl _,(hst2.fresh k8 _ _).fresh hb4 _ _,cs',bxa,rfl,hv⟩
def D97:Tr.Tr0:=(Tr.J0,[],[],[],[],Tr.J0,[],[])
def C5s:Res (Head × List A3h)→AV
 | .ok (h,ts)=>.tuple [.agg (Tr.trA (fun _=>0) (C1h h ts)),.agg [.int .i64 0,.int .i64 0,.int .i64 0]]
 | .error (e,a,b)=>.tuple [.agg (Tr.trA (fun _=>0) D97),.agg [.int .i64 e,.int .i64 a,.int .i64 b]]
theorem C9y (hQ:Qu.A10 Γ) (hW:Sc.Wds Γ) (hO:AsO.A5f Γ) (hE:AsP.A5f Γ) (hR:Nu.A0l Γ) (S:List UInt8) (hS:S.length≤65536) (hT:∀ L,A11 S=.ok L→∀ i,(C8 L i).2.1.length≤5000) :
  B7 Tryz.prog Γ 12 [.str S] fun v=>v=C5s (A29 S A1x):=by
 have hlen:∀ L,A11 S=.ok L→L.length≤66000:=fun L hL=>by
  unfold A11 at hL
  split at hL
  ·cases hL
  ·have:=B00 _ _ _ _ hL;omega
 have hrun:=fun {s:Sto} {bc:Nat} (hb:s.bx bc=some (31,hdA 1 1 1 1 1 hd0))=>D6p (Γ:=Γ) D62 hQ hW hO hE (n:=48) (by kernel_rfl) S (by omega) A1x (fun L hL=>C0z hR (hlen L hL) (hT L hL) bc) hb
 refine B7.fgt fun s=>?_
 refine acs Tryz.func12 ?_
 conv=>whnf
 intro b2 hb2
 conv=>whnf
 intro b3 hb3
 have n_b2_b3:b2≠b3:=A8 bxa hb3
 have n_b3_b2:=n_b2_b3.symm
 conv=>whnf
 have k3:=((Sub.refl s).set hb2 31 (hdA 1 1 1 1 1 hd0)).none hb3
 refine wp ?_
 intro b4 hb4
 have n_b2_b4:b2≠b4:=A8 bxa hb4
 have n_b4_b2:=n_b2_b4.symm
 have n_b3_b4:b3≠b4:=A8 bxa hb4
 have n_b4_b3:=n_b3_b4.symm
 conv=>whnf
 have k4:=(((Sub.refl s).set hb2 31 (hdA 1 1 1 1 1 hd0)).set k3 46 [.int .i64 0,.int .i64 0,.int .i64 0]).none hb4
 refine wp ?_;(refine A6.by (hrun A7) ?_;rintro v s1 ⟨hst,cs,hbc,hv⟩);refine wp ?_
 have h12:=hst.bx b2 _ (fun h=>n_b2_b4 h) bxa
 have h13:=hst.bx b3 _ (fun h=>n_b3_b4 h) bxa
 have hb41:∀ s0,Sub s0 s→s0.bx b4=none→s0.bx b3=none→s0.bx b2=none→Sub s0 s1:=fun s0 h1 h2 h3 h4=>hst.sub s0 (((h1.set h4 _ _).set h3 _ _).set h2 _ _) (fun c hc=>by rw [show c=b4 from hc];exact h2)
 rcases hr:A29 S A1x with ⟨e,a,b⟩|⟨hd,ts⟩
 ·rw [hr] at hv
  have he0:=C3q hr
  replace hv:v=.agg [.int .i64 e,.int .i64 a,.int .i64 b]:=hv
  subst hv
  refine wp ?_
  intro b5 hb5
  have k5:s.bx b5=none:=(((Sub.refl s).set hb2 _ _ |>.set k3 _ _).set k4 _ _).none (hst.none1 hbc hb5)
  have n_b2_b5:b2≠b5:=A8 bxa hb5
  have n_b5_b2:=n_b2_b5.symm
  have n_b3_b5:b3≠b5:=A8 bxa hb5
  have n_b5_b3:=n_b3_b5.symm
  have n_b4_b5:b4≠b5:=A8 bxa hb5
  have n_b5_b4:=n_b4_b5.symm
  conv=>whnf
  repeat' ((first|exact pru|(refine brS (fun h=>?_) (fun h=>?_)<;>(try rw [h])<;>(try simp only [bS,↓reduceIte] at h))|refine E9 ?_|(refine P4.of A2h A0r ?_)|(refine AWp.anyP (id:=4) [(5,true),(2,false)] (fun k=>cond k b5 b2) [0,1,2,3] n_b5_b2 (by kernel_rfl) (by kernel_rfl) (by kernel_rfl) (by kernel_rfl) ?_)|(refine AWp.anyP (id:=5) [(5,true),(2,false)] (fun k=>cond k b5 b2) [0,1,2,3] n_b5_b2 (by kernel_rfl) (by kernel_rfl) (by kernel_rfl) (by kernel_rfl) ?_)|(refine ⟨(by first|exact trivial|exact ⟨_,rfl,rfl⟩),?_⟩)|refine gS ?_|refine aA ?_|refine nA ?_|fail)<;>(conv=>whnf))
  ·refine ⟨_,Sub.refl _,?_,((((hb41 s (Sub.refl _) k4 k3 hb2).set k5 _ _).set k5 _ _).set hb2 _ _).set k3 _ _⟩
   show fg (.tuple [.agg (hdT 1 1 1 1 1 1 hd0 []),.agg [.int .i64 e,.int .i64 a,.int .i64 b]])=_
   simp only [fg,fgL,C6r,C5s]
   rfl
  ·exfalso;revert h;simp [he0]
 ·rw [hr] at hv
  obtain ⟨rfl,k0,k1,kk2,kk3,kk4,t,rfl⟩:=hv
  simp only [hdT] at hbc
  refine wp ?_
  intro b5 hb5
  have k5:s.bx b5=none:=(((Sub.refl s).set hb2 _ _ |>.set k3 _ _).set k4 _ _).none (hst.none1 hbc hb5)
  have n_b2_b5:b2≠b5:=A8 bxa hb5
  have n_b5_b2:=n_b2_b5.symm
  have n_b3_b5:b3≠b5:=A8 bxa hb5
  have n_b5_b3:=n_b3_b5.symm
  have n_b4_b5:b4≠b5:=A8 bxa hb5
  have n_b5_b4:=n_b4_b5.symm
  conv=>whnf
  repeat' ((first|exact pru|(refine brS (fun h=>?_) (fun h=>?_)<;>(try rw [h])<;>(try simp only [bS,↓reduceIte] at h))|refine E9 ?_|(refine P4.of A2h A0r ?_)|(refine AWp.anyP (id:=4) [(5,true),(2,false)] (fun k=>cond k b5 b2) [0,1,2,3] n_b5_b2 (by kernel_rfl) (by kernel_rfl) (by kernel_rfl) (by kernel_rfl) ?_)|(refine AWp.anyP (id:=5) [(5,true),(2,false)] (fun k=>cond k b5 b2) [0,1,2,3] n_b5_b2 (by kernel_rfl) (by kernel_rfl) (by kernel_rfl) (by kernel_rfl) ?_)|(refine ⟨(by first|exact trivial|exact ⟨_,rfl,rfl⟩),?_⟩)|refine gS ?_|refine aA ?_|refine nA ?_|fail)<;>(conv=>whnf))
  all_goals first|(exfalso;revert h;simp;done)|skip
  refine ⟨_,Sub.refl _,?_,((((hb41 s (Sub.refl _) k4 k3 hb2).set k5 _ _).set k5 _ _).set hb2 _ _).set k3 _ _⟩
  show fg (.tuple [.agg (hdT k0 k1 kk2 kk3 kk4 t hd (ts.map A9a)),.agg [.int .i64 0,.int .i64 0,.int .i64 0]])=_
  simp only [fg,fgL,C6r,D8q,C5s]
end Go.Proofs.YticnkpgmmpenlaaGreatDoor.Pa
namespace Go.Proofs.YticnkpgmmpenlaaGreatDoor.Pa
open Go Go.Ab Go.RowKit Go.Proofs.YticnkpgmmpenlaaGreatDoor.Lx Go.Proofs.YticnkpgmmpenlaaGreatDoor.Pr
section
variable {L:List Tok} {a:Nat} {k:Int}
theorem C61 {α:Type} {one:Nat→Res (α × Nat)} (hm:∀ a x a1,one a=.ok (x,a1)→a < a1∧a1≤L.length):∀ (n:Nat) (acc:List α) (a:Nat) (xs:List α) (a':Nat),a≤L.length→acc.length≤a→A0o L one n acc a=.ok (xs,a')→xs.length≤L.length
 | 0,_,_,_,_,h1,h2,h=>by cases h;omega
 | n+1,acc,a,xs,a',h1,h2,h=>by
  unfold A0o at h
  split at h
  ·cases h
  ·rename_i x a1 hx
   obtain ⟨k1,k2⟩:=hm _ _ _ hx
   have hl:(acc++[x]).length≤a1:=by simp only [List.length_append,List.length_cons,List.length_nil];omega
   split at h
   ·rename_i hc
    have:=H0 hc
    exact C61 hm n _ _ _ _ (by omega) (by omega) h
   ·split at h
    ·cases h
     omega
    ·cases h
theorem D2q {α:Type} {one:Nat→Res (α × Nat)} (hm:∀ a x a1,one a=.ok (x,a1)→a < a1∧a1≤L.length) {xs:List α} {a':Nat} (h:A2t L one a=.ok (xs,a')):xs.length≤L.length:=by
 unfold A2t at h
 split at h
 ·rename_i hc
  have:=H0 hc
  split at h
  ·cases h
   exact Nat.zero_le _
  ·exact C61 hm _ _ _ _ _ (by omega) (Nat.zero_le _) h
 ·cases h
theorem C3y {x:Tr.Sy} {a':Nat} (h:N8 L a=.ok (x,a')):x.2.1.length≤L.length:=by
 unfold N8 at h
 split at h
 ·cases h
 ·split at h
  ·cases h
  ·rename_i hl
   cases h
   exact D2q B4q hl
theorem D7k {x:Tr.De} {a':Nat} (h:A2m L a=.ok (x,a')):x.2.length≤L.length:=by
 unfold A2m at h
 split at h
 ·cases h
 ·split at h
  ·cases h
  ·rename_i hl
   cases h
   exact D2q A8u hl
theorem C66 {α:Type} {ws:List (List UInt8)} {one:Nat→Nat→Res (α × Nat)} {Q:α→Prop} (hm:∀ i a x a1,one i a=.ok (x,a1)→a≤a1∧a1≤L.length) (hQ:∀ i a x a1,one i a=.ok (x,a1)→Q x):∀ (n:Nat) (acc:List α) (a:Nat) (xs:List α) (a':Nat),a≤L.length→acc.length≤a→(∀ x ∈ acc,Q x)→H2 L ws one n acc a=.ok (xs,a')→xs.length≤L.length∧∀ x ∈ xs,Q x
 | 0,_,_,_,_,h1,h2,h3,h=>by cases h;exact ⟨by omega,h3⟩
 | n+1,acc,a,xs,a',h1,h2,h3,h=>by
  unfold H2 at h
  split at h
  ·cases h;exact ⟨by omega,h3⟩
  ·split at h
   ·cases h
   ·rename_i x a1 hx
    obtain ⟨k1,k2⟩:=hm _ _ _ _ hx
    exact C66 hm hQ n _ _ _ _ k2 (by simp only [List.length_append,List.length_cons,List.length_nil];omega) (fun y hy=>by
     rcases List.mem_append.1 hy with hy|hy
     ·exact h3 y hy
     ·rw [List.mem_singleton.1 hy];exact hQ _ _ _ _ hx) h
theorem B5x {α:Type} {ws:List (List UInt8)} {one:Nat→Nat→Res (α × Nat)} {Q:α→Prop} (hm:∀ i a x a1,one i a=.ok (x,a1)→a≤a1∧a1≤L.length) (hQ:∀ i a x a1,one i a=.ok (x,a1)→Q x) {xs:List α} {a':Nat} (ha:a≤L.length) (h:P5 L ws one a=.ok (xs,a')):xs.length≤L.length∧∀ x ∈ xs,Q x :=
 C66 hm hQ _ [] _ _ _ ha (Nat.zero_le _) (fun _ h=>nomatch h) h
theorem C7j:∀ (n:Nat) (acc:List Tr.Se) (st:St) (xs:List Tr.Se) (z:St),M7 L st→acc.length≤st.a→A1w L n acc st=.ok (xs,z)→xs.length≤L.length
 | 0,_,st,_,_,hk,h2,h=>by have:=hk.ha;cases h;omega
 | n+1,acc,st,xs,z,hk,h2,h=>by
  unfold A1w at h
  split at h
  ·cases h
  ·rename_i x s2 hx
   obtain ⟨g1,g2,g3⟩:=B6r hk hx
   have hl:(acc++[x]).length≤s2.a:=by simp only [List.length_append,List.length_cons,List.length_nil];omega
   split at h
   ·rename_i hc
    have hlt:=H0 hc
    exact C7j n _ { s2 with a:=s2.a+1 } _ _ ⟨hlt,by have:=g1.ho;simp only;omega,g1.hd,g1.hk⟩ (by simp only;omega) h
   ·have:=g1.ha
    cases h
    omega
theorem D6v {y:A3h} {a':Nat} (hk:0≤k∧k≤128) (h:K3 L k a=.ok (y,a')):y.on.2.1.length≤L.length∧y.nodes.length≤L.length∧y.sets.length≤L.length:=by
 unfold K3 at h
 split at h
 ·cases h
 ·split at h
  ·cases h
  ·rename_i sy a2 h2
   split at h
   ·cases h
   ·rename_i g s3 h3
    split at h
    ·cases h
    ·rename_i ses s4 h4
     split at h
     ·cases h
     ·split at h
      ·cases h
      ·cases h
       have e2:=C3y h2
       have g3:s3.o.length≤L.length∧(s3.a < L.length→M7 L s3):=by
        unfold A1f at h3
        split at h3
        ·rename_i hi
         split at h3
         ·cases h3
         ·rename_i s2 hx
          have hok:M7 L ⟨a2+1,[],[],k⟩:=⟨H0 hi,Nat.zero_le _,rfl,hk⟩
          obtain ⟨q1,q2⟩:=P8 (A1v L) 0 _ (by omega) hok (V6 L _) s2 hx
          have:=q1.ha
          have:=q1.ho
          cases h3
          exact ⟨by omega,fun _=>q1⟩
        ·cases h3
         exact ⟨Nat.zero_le _,fun hl=>⟨Nat.le_of_lt hl,Nat.zero_le _,rfl,hk⟩⟩
       unfold doF at h4
       split at h4
       ·rename_i hi
        have hl:=H0 hi
        have q:=g3.2 hl
        have hok:M7 L { s3 with a:=s3.a+1 }:=⟨hl,by have:=q.ho;simp only;omega,q.hd,q.hk⟩
        have e3:=(A4l _ _ _ _ _ hok (by simp only;omega) h4).1
        have e4:=C7j _ _ _ _ _ hok (Nat.zero_le _) h4
        have:=e3.ha
        have:=e3.ho
        exact ⟨e2,by show s4.o.length≤_;omega,e4⟩
       ·cases h4
        exact ⟨e2,g3.1,Nat.zero_le _⟩
theorem C32:∀ (n:Nat) (acc:List A3h) (a:Nat) (xs:List A3h),acc.length≤a→a≤L.length→(∀ t ∈ acc,t.on.2.1.length≤L.length∧t.nodes.length≤L.length∧t.sets.length≤L.length)→A06 L n acc a=.ok xs→xs.length≤L.length∧∀ t ∈ xs,t.on.2.1.length≤L.length∧t.nodes.length≤L.length∧t.sets.length≤L.length
 | 0,_,_,_,h1,h2,h3,h=>by cases h;exact ⟨by omega,h3⟩
 | n+1,acc,a,xs,h1,h2,h3,h=>by
  unfold A06 at h
  split at h
  ·split at h
   ·cases h
   ·rename_i t a1 hx
    have e1:=B9o ⟨Int.le_refl _,by decide⟩ hx
    have e2:=D6v ⟨Int.le_refl _,by decide⟩ hx
    exact C32 n _ _ _ (by simp only [List.length_append,List.length_cons,List.length_nil];omega) e1.2 (fun y hy=>by
     rcases List.mem_append.1 hy with hy|hy
     ·exact h3 y hy
     ·rw [List.mem_singleton.1 hy];exact e2) h
  ·cases h;exact ⟨by omega,h3⟩
theorem C54 {hd:Head} {ts:List A3h} (hL:L.length≤66000) (h:A1x L=.ok (hd,ts)):Tr.A3b (C1h hd ts):=by
 unfold A1x at h
 split at h
 ·cases h
 ·rename_i hd' a0 hh
  split at h
  ·cases h
  ·rename_i ts' ht
   injection h with h;injection h with h1 h2;subst h1 h2
   unfold U4 at hh
   split at hh
   ·cases hh
   rename_i a1 e1
   split at hh
   ·cases hh
   rename_i nm a2 e2
   split at hh
   ·cases hh
   rename_i ds a3 e3
   split at hh
   ·cases hh
   rename_i qs a4 e4
   split at hh
   ·cases hh
   rename_i fs a5 e5
   split at hh
   ·cases hh
   rename_i ss a6 e6
   split at hh
   ·cases hh
   rename_i a7 e7
   split at hh
   ·cases hh
   rename_i st a8 e8
   split at hh
   ·cases hh
   rename_i al a9 e9
   injection hh with hh;injection hh with hh1 hh2;subst hh1 hh2
   have l2:=A1i e2
   have md:∀ i a x a1,(fun (_:Nat)=>A2m L) i a=.ok (x,a1)→a≤a1∧a1≤L.length:=fun _ _ _ _ h=>⟨Nat.le_of_lt (A8m h).1,(A8m h).2⟩
   have ms:∀ i a x a1,(fun (_:Nat)=>N8 L) i a=.ok (x,a1)→a≤a1∧a1≤L.length:=fun _ _ _ _ h=>⟨Nat.le_of_lt (A1c h).1,(A1c h).2⟩
   have n3:=B5x (Q:=fun x:Tr.De=>x.2.length≤L.length) md (fun _ _ _ _ h=>D7k h) (by omega) e3
   have l3:=A3p md (by omega) e3
   have n4:=B5x (Q:=fun _=>True) (fun _ _ _ _ h=>B1e h) (fun _ _ _ _ _=>trivial) l3.2 e4
   have l4:=A3p (fun _ _ _ _ h=>B1e h) l3.2 e4
   have n5:=B5x (Q:=fun _=>True) (fun _ _ _ _ h=>B31 h) (fun _ _ _ _ _=>trivial) l4.2 e5
   have l5:=A3p (fun _ _ _ _ h=>B31 h) l4.2 e5
   have n6:=B5x (Q:=fun _=>True) (fun _ _ _ _ h=>B6w h) (fun _ _ _ _ _=>trivial) l5.2 e6
   have l8:=A1i e8
   have n9:=B5x (Q:=fun x:Tr.Sy=>x.2.1.length≤L.length) ms (fun _ _ _ _ h=>C3y h) (by omega) e9
   have l9:=A3p ms (by omega) e9
   obtain ⟨n10,n11⟩:=C32 _ [] _ _ (Nat.zero_le _) l9.2 (fun _ h=>nomatch h) ht
   refine ⟨⟨?_,?_,?_,?_,?_,?_⟩,?_,?_,?_⟩
   ·show (ds.map _).length≤_;rw [List.length_map];omega
   ·show qs.length≤_;omega
   ·show fs.length≤_;omega
   ·show ss.length≤_;omega
   ·show (al.map _).length≤_;rw [List.length_map];omega
   ·show (ts'.map _).length≤_;rw [List.length_map];omega
   ·intro d hd
    obtain ⟨z,hz,rfl⟩:=List.mem_map.1 (show d ∈ ds.map _ from hd)
    have:=n3.2 z hz
    show z.2.length≤_
    omega
   ·intro d hd
    obtain ⟨z,hz,rfl⟩:=List.mem_map.1 (show d ∈ al.map _ from hd)
    have:=n9.2 z hz
    show z.2.1.length≤_
    omega
   ·intro d hd
    obtain ⟨z,hz,rfl⟩:=List.mem_map.1 (show d ∈ ts'.map _ from hd)
    obtain ⟨q1,q2,q3⟩:=n11 z hz
    refine ⟨?_,?_,?_⟩
    ·show z.on.2.1.length≤_;omega
    ·show (z.nodes.map exT).length≤_;rw [List.length_map];omega
    ·show z.sets.length≤_;omega
theorem C00 {S:List UInt8} {hd:Head} {ts:List A3h} (hS:S.length≤65536) (h:A29 S A1x=.ok (hd,ts)):Tr.A3b (C1h hd ts):=by
 unfold A29 at h
 split at h
 ·cases h
 ·rename_i L hL
  split at h
  ·cases h
  ·rename_i o ho
   injection h with h
   subst h
   exact C54 (by have:=D04 hL;omega) ho
end
end Go.Proofs.YticnkpgmmpenlaaGreatDoor.Pa
namespace Go.Proofs.YticnkpgmmpenlaaGreatDoor.Tr
open Go Go.Ab Go.RowKit
variable {bulk:∀ H:Type,DataW H→Nat}
theorem C5o:M8 Tryz.prog bulk 52 (fun l:List Int=>[.slice 0 (G6 .i64 l)]) (fun _ _=>True) :=
 (Q5 (bulk:=bulk) Tryz.underlying52 (k:=1) (by kernel_rfl) (by decide) (J1 (bulk:=bulk) Tryz.underlying3) (fun _=>rfl)).map (fun l=>l) (fun _=>rfl) (fun _ _ _=>trivial)
theorem Z7:M8 Tryz.prog bulk 23 V7 (fun _ _=>True) :=
 (J7 (bulk:=bulk) Tryz.underlying23 (by kernel_rfl)
  (D8.cons (bulk:=bulk) (k:=1) rfl (by kernel_rfl) (A3x (bulk:=bulk) Tryz.underlying9) (D8.cons (bulk:=bulk) (k:=1) rfl (by kernel_rfl) (J1 (bulk:=bulk) Tryz.underlying3) (D8.cons (bulk:=bulk) (k:=1) rfl (by kernel_rfl) (J1 (bulk:=bulk) Tryz.underlying3) (D8.nil _))))).map (fun x=>(x.1,x.2.1,x.2.2.1)) (fun _=>rfl) (fun _ _ _=>trivial)
theorem A72:M8 Tryz.prog bulk 56 vlA (fun _ _=>True) :=
 (J7 (bulk:=bulk) Tryz.underlying56 (by kernel_rfl)
  (D8.cons (bulk:=bulk) (k:=1) rfl (by kernel_rfl) (J1 (bulk:=bulk) Tryz.underlying3) (D8.cons (bulk:=bulk) (k:=1) rfl (by kernel_rfl) (J1 (bulk:=bulk) Tryz.underlying2) (D8.cons (bulk:=bulk) (k:=1) rfl (by kernel_rfl) (A3x (bulk:=bulk) Tryz.underlying9) (D8.cons (bulk:=bulk) (k:=1) rfl (by kernel_rfl) (A4f (bulk:=bulk) Tryz.underlying4) (D8.nil _)))))).map (fun x=>(x.1,x.2.1,x.2.2.1,x.2.2.2.1)) (fun _=>rfl) (fun _ _ _=>trivial)
theorem D28:M8 Tryz.prog bulk 54 deA (fun _ _=>True) :=
 (J7 (bulk:=bulk) Tryz.underlying54 (by kernel_rfl)
  (D8.cons (bulk:=bulk) (k:=3) rfl (by kernel_rfl) (Z7) (D8.cons (bulk:=bulk) (k:=1) rfl (by kernel_rfl) (C5o) (D8.nil _)))).map (fun x=>(0,x.1,x.2.1)) (fun _=>rfl) (fun _ _ _=>trivial)
theorem D29:M8 Tryz.prog bulk 75 quA (fun _ _=>True) :=
 (J7 (bulk:=bulk) Tryz.underlying75 (by kernel_rfl)
  (D8.cons (bulk:=bulk) (k:=1) rfl (by kernel_rfl) (A4f (bulk:=bulk) Tryz.underlying4) (D8.cons (bulk:=bulk) (k:=3) rfl (by kernel_rfl) (Z7) (D8.cons (bulk:=bulk) (k:=1) rfl (by kernel_rfl) (J1 (bulk:=bulk) Tryz.underlying3) (D8.nil _))))).map (fun x=>(x.1,x.2.1,x.2.2.1)) (fun _=>rfl) (fun _ _ _=>trivial)
theorem D3b:M8 Tryz.prog bulk 84 stA (fun _ _=>True) :=
 (J7 (bulk:=bulk) Tryz.underlying84 (by kernel_rfl)
  (D8.cons (bulk:=bulk) (k:=3) rfl (by kernel_rfl) (Z7) (D8.cons (bulk:=bulk) (k:=1) rfl (by kernel_rfl) (A4f (bulk:=bulk) Tryz.underlying4) (D8.cons (bulk:=bulk) (k:=1) rfl (by kernel_rfl) (A4f (bulk:=bulk) Tryz.underlying4) (D8.nil _))))).map (fun x=>(x.1,x.2.1,x.2.2.1)) (fun _=>rfl) (fun _ _ _=>trivial)
theorem D3a:M8 Tryz.prog bulk 119 seA (fun _ _=>True) :=
 (J7 (bulk:=bulk) Tryz.underlying119 (by kernel_rfl)
  (D8.cons (bulk:=bulk) (k:=3) rfl (by kernel_rfl) (Z7) (D8.cons (bulk:=bulk) (k:=1) rfl (by kernel_rfl) (J1 (bulk:=bulk) Tryz.underlying3) (D8.nil _)))).map (fun x=>(x.1,x.2.1)) (fun _=>rfl) (fun _ _ _=>trivial)
theorem C9q:M8 Tryz.prog bulk 41 (fun l:List Se=>[.slice 0 (l.map seA)]) (fun _ _=>True) :=
 (Q5 (bulk:=bulk) Tryz.underlying41 (k:=4) (by kernel_rfl) (by decide) D3a (fun _=>rfl)).map (fun l=>l) (fun _=>rfl) (fun _ _ _=>trivial)
theorem C9m:M8 Tryz.prog bulk 24 (fun l:List (Nat × De)=>[.slice 0 (l.map deA)]) (fun _ _=>True) :=
 (Q5 (bulk:=bulk) Tryz.underlying24 (k:=4) (by kernel_rfl) (by decide) D28 (fun _=>rfl)).map (fun l=>l) (fun _=>rfl) (fun _ _ _=>trivial)
theorem C9p:M8 Tryz.prog bulk 25 (fun l:List Qu=>[.slice 0 (l.map quA)]) (fun _ _=>True) :=
 (Q5 (bulk:=bulk) Tryz.underlying25 (k:=5) (by kernel_rfl) (by decide) D29 (fun _=>rfl)).map (fun l=>l) (fun _=>rfl) (fun _ _ _=>trivial)
theorem C9r:M8 Tryz.prog bulk 27 (fun l:List St=>[.slice 0 (l.map stA)]) (fun _ _=>True) :=
 (Q5 (bulk:=bulk) Tryz.underlying27 (k:=5) (by kernel_rfl) (by decide) D3b (fun _=>rfl)).map (fun l=>l) (fun _=>rfl) (fun _ _ _=>trivial)
end Go.Proofs.YticnkpgmmpenlaaGreatDoor.Tr
namespace Go.Proofs.YticnkpgmmpenlaaGreatDoor.Pr
open Go Go.Ab Go.RowKit
variable {bulk:∀ H:Type,DataW H→Nat}
theorem C9n:M8 Tryz.prog bulk 61 Tr.exA (fun x _=>Nu.Q7 x.2.2.2.2.1.2.1) :=
 (J7 (bulk:=bulk) Tryz.underlying61 (by kernel_rfl)
  (D8.cons (bulk:=bulk) (k:=1) rfl (by kernel_rfl) (J1 (bulk:=bulk) Tryz.underlying3) (D8.cons (bulk:=bulk) (k:=1) rfl (by kernel_rfl) (J1 (bulk:=bulk) Tryz.underlying3) (D8.cons (bulk:=bulk) (k:=1) rfl (by kernel_rfl) (J1 (bulk:=bulk) Tryz.underlying3) (D8.cons (bulk:=bulk) (k:=1) rfl (by kernel_rfl) (A3x (bulk:=bulk) Tryz.underlying9) (D8.cons (bulk:=bulk) (k:=4) rfl (by kernel_rfl) (Va.A72) (D8.cons (bulk:=bulk) (k:=1) rfl (by kernel_rfl) (J1 (bulk:=bulk) Tryz.underlying3) (D8.cons (bulk:=bulk) (k:=1) rfl (by kernel_rfl) (J1 (bulk:=bulk) Tryz.underlying3) (D8.nil _))))))))).map (fun x=>(x.1,x.2.1,x.2.2.1,x.2.2.2.1,x.2.2.2.2.1,x.2.2.2.2.2.1,x.2.2.2.2.2.2.1)) (fun _=>rfl) (fun _ _ h=>h.2.2.2.2.1.elim fun _ h=>h)
theorem C5m:M8 Tryz.prog bulk 40 (fun l:List Tr.Ex=>[.slice 0 (l.map Tr.exA)]) (fun l _=>∀ x ∈ l,Nu.Q7 x.2.2.2.2.1.2.1) :=
 (Q5 (bulk:=bulk) Tryz.underlying40 (k:=10) (by kernel_rfl) (by decide) C9n (fun _=>rfl)).map (fun l=>l) (fun _=>rfl) (fun _ _ h x hx=>(h.1 x hx).elim fun _ h=>h)
end Go.Proofs.YticnkpgmmpenlaaGreatDoor.Pr
