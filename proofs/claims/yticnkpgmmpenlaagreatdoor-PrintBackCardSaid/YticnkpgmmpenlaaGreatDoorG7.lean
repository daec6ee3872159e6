/- Part 7 of what the closing text needs: PrT, PrU, PrV, PrW, Jo1, PrX, TrS, ScC, PrY, PsA, Gr3, PaK3, TrT, TrV, PsB, TrY. No condition of mine beyond those that the theorems name. -/
import Derived.Test.YticnkpgmmpenlaaGreatDoorG6
import Derived.Lib.Join
set_option maxRecDepth 10000
set_option maxHeartbeats 60000000
set_option linter.all false
namespace Go.Proofs.YticnkpgmmpenlaaGreatDoor.Pr
open Go Go.Ab Go.RowKit Go.Proofs.YticnkpgmmpenlaaGreatDoor.Lx Go.Proofs.YticnkpgmmpenlaaGreatDoor.Pa
def A1n (t:Tok):Nat:=t.2.1.length+if t.1=4 then 2 else 0
def U6 (L:List Tok) (a:Nat):Nat:=((L.take a).map A1n).sum
structure Z9 (L:List Tok):Prop where
 name:∀ i,i < L.length→(L.getD i noTok).1=1→Sc.C4 (L.getD i noTok).2.1=true∨(L.getD i noTok).2.1=[95]
 quot:∀ i,i < L.length→(L.getD i noTok).1=4→(L.getD i noTok).2.1.length≤4096
 pos:∀ i,i < L.length→1≤A1n (L.getD i noTok)
section
variable {L:List Tok} {a b:Nat}
theorem A2j (h:a < L.length):B0 L a=L.getD a noTok:=by unfold B0;rw [if_pos h]
theorem Z3 (h:a < L.length):U6 L (a+1)=U6 L a+A1n (B0 L a):=by
 unfold U6
 rw [A2j h,List.take_succ,List.getElem?_eq_getElem h,List.map_append,List.sum_append,List.getD_eq_getElem?_getD,List.getElem?_eq_getElem h]
 simp
theorem B2m:∀ {b:Nat},a≤b→U6 L a≤U6 L b
 | 0,h=>by rw [show a=0 by omega];exact Nat.le_refl _
 | b+1,h=>by
  by_cases e:a=b+1
  ·rw [e];exact Nat.le_refl _
  ·have ih:=B2m (b:=b) (by omega)
   by_cases hb:b < L.length
   ·rw [Z3 hb];omega
   ·have:U6 L (b+1)=U6 L b:=by unfold U6;rw [List.take_of_length_le (by omega),List.take_of_length_le (by omega)]
    omega
theorem Z9.next (hL:Z9 L) (h:a < L.length):U6 L a+1≤U6 L (a+1):=by
 have:=hL.pos a h
 rw [Z3 h,A2j h];omega
end
def A3x (e:Ex):Nat:=if e.op=1 then (A5u (e.vk,e.vi,e.vs,e.vb)).length else if e.op=17 then e.name.length else 9
def pot (o:List Ex):Nat:=(o.map A3x).sum
theorem A4j (o l:List Ex):pot (o++l)=pot o+pot l:=by unfold pot;rw [List.map_append,List.sum_append]
theorem C3p {e:Ex} (h:e.op≠1∧e.op≠17):pot [e]=9:=by
 unfold pot A3x
 simp [h.1,h.2]
theorem B9h (by_:Int) (o:List Ex):pot (o.map (G8 by_))=pot o:=by
 unfold pot
 rw [List.map_map]
 congr 1
 refine List.map_congr_left fun e _=>?_
 show A3x (G8 by_ e)=A3x e
 unfold G8
 split
 ·rfl
 ·split<;>rfl
def A9b (e:Ex):Prop:=e.a=0∧e.b=0∧((e.op=1∧e.name=[]∧Tr.N8 (e.vk,e.vi,e.vs,e.vb)=true∧Nu.V7 e.vi)∨(e.op=17∧Sc.C4 e.name=true∧(e.vk,e.vi,e.vs,e.vb)=Tr.R3))
def B71 (e:Ex):Prop:=e.name=[]∧(e.vk,e.vi,e.vs,e.vb)=Tr.R3
inductive Seg (o:List Ex):Nat→Nat→Int→Prop where
 | leaf {lo:Nat} (h:A9b (E8 o lo)):Seg o lo (lo+1) 1
 | una {lo hi:Nat} {D:Int} (k:Seg o lo hi D) (h1:(E8 o hi).op=4∨(E8 o hi).op=5) (h2:(E8 o hi).a=(hi:Int) - 1) (h3:(E8 o hi).b=0) (h4:B71 (E8 o hi)):Seg o lo (hi+1) (D+1)
 | bin {lo m hi:Nat} {D E:Int} (k:Seg o lo m D) (k':Seg o m hi E) (h1:6≤(E8 o hi).op∧(E8 o hi).op≤16) (h2:(E8 o hi).a=(m:Int) - 1) (h3:(E8 o hi).b=(hi:Int) - 1) (h4:B71 (E8 o hi)):Seg o lo (hi+1) ((if E > D then E else D)+1)
theorem Seg.pos {o:List Ex} {lo hi:Nat} {D:Int} (h:Seg o lo hi D):lo < hi:=by
 induction h with
 | leaf _=>omega
 | una _ _ _ _ _ ih=>omega
 | bin _ _ _ _ _ _ ih ih'=>omega
theorem Seg.agree {o o':List Ex} {lo hi:Nat} {D:Int} (h:Seg o lo hi D):(∀ i,lo≤i→i < hi→E8 o' i=E8 o i)→Seg o' lo hi D:=by
 induction h with
 | leaf h=>exact fun e=>.leaf (by rw [e _ (Nat.le_refl _) (by omega)];exact h)
 | una k h1 h2 h3 h4 ih =>
  intro e
  have:=k.pos
  have e1:=e _ (Nat.le_of_lt this) (Nat.lt_succ_self _)
  exact .una (ih fun i h1 h2=>e i h1 (by omega)) (by rw [e1];exact h1) (by rw [e1];exact h2) (by rw [e1];exact h3) (by rw [e1];exact h4)
 | bin k k' h1 h2 h3 h4 ih ih' =>
  intro e
  have:=k.pos
  have:=k'.pos
  have e1:=e _ (by omega) (Nat.lt_succ_self _)
  exact .bin (ih fun i h1 h2=>e i h1 (by omega)) (ih' fun i h1 h2=>e i (by omega) (by omega)) (by rw [e1];exact h1) (by rw [e1];exact h2) (by rw [e1];exact h3) (by rw [e1];exact h4)
theorem Seg.app {o l:List Ex} {lo hi:Nat} {D:Int} (h:Seg o lo hi D) (hh:hi≤o.length):Seg (o++l) lo hi D:=h.agree fun i _ h2=>B8t (by omega)
theorem C57 {by_:Int} {e:Ex} (h:A9b e):G8 by_ e=e:=by
 unfold G8
 rw [if_pos]
 rcases h.2.2 with h|h<;>omega
theorem D0b {by_:Int} {e:Ex} (h:e.op=4∨e.op=5):G8 by_ e = { e with a:=IntKind.i64.wrap (e.a+by_) }:=by
 unfold G8
 rw [if_neg (by omega),if_neg (by omega)]
theorem D0a {by_:Int} {e:Ex} (h:6≤e.op∧e.op≤16):G8 by_ e = { e with a:=IntKind.i64.wrap (e.a+by_),b:=IntKind.i64.wrap (e.b+by_) }:=by
 unfold G8
 rw [if_neg (by omega),if_pos (by omega)]
theorem Seg.move {o o':List Ex} {by_:Int} {lo hi:Nat} {D:Int} (h:Seg o lo hi D):∀ {lo' hi':Nat},(lo':Int)=lo+by_→(hi':Int)=hi+by_→hi≤1000000→hi'≤1000000→(∀ i i':Nat,lo≤i→i < hi→(i':Int)=i+by_→E8 o' i'=G8 by_ (E8 o i))→Seg o' lo' hi' D:=by
 induction h with
 | @leaf lo h =>
  intro lo' hi' e1 e2 _ _ e
  obtain rfl:hi'=lo'+1:=by omega
  refine .leaf ?_
  rw [e lo lo' (Nat.le_refl _) (by omega) e1,C57 h]
  exact h
 | @una lo hi D k h1 h2 h3 h4 ih =>
  intro lo' hi' e1 e2 m1 m2 e
  have:=k.pos
  obtain ⟨q,rfl⟩:∃ q,hi'=q+1:=⟨hi' - 1,by omega⟩
  have eq1:=e hi q (by omega) (by omega) (by omega)
  rw [D0b h1] at eq1
  refine .una (ih e1 (by omega) (by omega) (by omega) fun i i' a b c=>e i i' a (by omega) c) (by rw [eq1];exact h1) ?_ (by rw [eq1];exact h3) (by rw [eq1];exact h4)
  rw [eq1]
  show IntKind.i64.wrap ((E8 o hi).a+by_)=_
  rw [h2]
  exact C3 (by omega) (by omega) (by omega)
 | @bin lo m hi D E k k' h1 h2 h3 h4 ih ih' =>
  intro lo' hi' e1 e2 m1 m2 e
  have:=k.pos
  have:=k'.pos
  obtain ⟨q,rfl⟩:∃ q,hi'=q+1:=⟨hi' - 1,by omega⟩
  have eq1:=e hi q (by omega) (by omega) (by omega)
  rw [D0a h1] at eq1
  refine .bin (m:=((m:Int)+by_).toNat) (ih e1 (by omega) (by omega) (by omega) fun i i' a b c=>e i i' a (by omega) c) (ih' (by omega) (by omega) (by omega) (by omega) fun i i' a b c=>e i i' (by omega) (by omega) c) (by rw [eq1];exact h1) ?_ ?_ (by rw [eq1];exact h4)
  ·rw [eq1]
   show IntKind.i64.wrap ((E8 o hi).a+by_)=_
   rw [h2]
   exact C3 (by omega) (by omega) (by omega)
  ·rw [eq1]
   show IntKind.i64.wrap ((E8 o hi).b+by_)=_
   rw [h3]
   exact C3 (by omega) (by omega) (by omega)
structure Grw (L:List Tok) (s s':St):Prop where
 pre:Pre s s'
 seg:∃ D,Seg s'.o s.o.length s'.o.length D∧dAt s'.d (s'.o.length - 1)=D∧1≤D∧D≤64
 cost:pot s'.o+9 * U6 L s.a≤pot s.o+9 * U6 L s'.a
def A42 (L:List Tok) (F:St→Res St) (s:St):Prop:=∀ s',F s=.ok s'→Grw L s s'
section
variable {L:List Tok} {s s1 s':St} {t:Tok}
theorem B9j {x:Ex} {a:Nat} (hd:s.d.length=s.o.length) (hx:A9b x) (hc:A3x x+9 * U6 L s.a≤9 * U6 L a) (h:V8 t x [] { s with a:=a } = .ok s'):Grw L s s':=by
 obtain ⟨rfl,h64⟩:=A7u h
 refine ⟨⟨⟨_,rfl⟩,⟨_,rfl⟩⟩,⟨1,?_,?_,by decide,by decide⟩,?_⟩
 ·simp only [List.length_append,List.length_cons,List.length_nil]
  refine .leaf ?_
  rw [A11 (Nat.le_refl _),Nat.sub_self]
  exact hx
 ·simp only [List.length_append,List.length_cons,List.length_nil]
  rw [show s.o.length+(0+1) - 1=s.o.length by omega,Y6 (by omega),hd,Nat.sub_self]
  rfl
 ·simp only
  rw [A4j]
  have:pot [{ x with ln:=t.2.2.1,cl:=t.2.2.2 }]=A3x x:=by unfold pot;simp [A3x]
  omega
theorem D23 {op:Int} (hop:op=4∨op=5) (hg:Grw L s s1) (hd:s1.d.length=s1.o.length) (hs:pot s1.o+9 * U6 L s.a+9≤pot s.o+9 * U6 L s1.a) (h:V8 t { ex0 with op:=op,a:=(s1.o.length:Int) - 1 } [(s1.o.length:Int) - 1] s1=.ok s'):Grw L s s':=by
 obtain ⟨rfl,h64⟩:=A7u h
 obtain ⟨⟨⟨l1,p1⟩,⟨l2,p2⟩⟩,⟨D,g1,g2,g3,g4⟩,_⟩:=hg
 have hpos:=g1.pos
 have hdp:A2z s1.d [(s1.o.length:Int) - 1] 1=D+1:=by
  have:=B8h (d:=s1.d) (a:=s1.o.length - 1) (by rw [g2];exact ⟨g3,g4⟩)
  rw [show ((s1.o.length - 1:Nat):Int)=(s1.o.length:Int) - 1 by omega,g2] at this
  exact this
 have hnew:∀ y:Ex,E8 (s1.o++[y]) s1.o.length=y:=fun y=>by rw [A11 (Nat.le_refl _)];simp [E8]
 rw [hdp] at h64 ⊢
 refine ⟨⟨⟨l1++[_],by rw [← List.append_assoc,← p1]⟩,⟨l2++[_],by rw [← List.append_assoc,← p2]⟩⟩,⟨D+1,?_,?_,by omega,h64⟩,?_⟩
 ·simp only [List.length_append,List.length_cons,List.length_nil]
  refine .una (g1.app (Nat.le_refl _)) ?_ ?_ ?_ ?_
  ·rw [hnew];exact hop
  ·rw [hnew]
  ·rw [hnew];rfl
  ·rw [hnew];exact ⟨rfl,rfl⟩
 ·simp only [List.length_append,List.length_cons,List.length_nil]
  rw [show s1.o.length+(0+1) - 1=s1.o.length by omega,Y6 (by omega),hd,Nat.sub_self]
  rfl
 ·simp only
  rw [A4j,C3p (by exact ⟨by show op≠1;omega,by show op≠17;omega⟩)]
  omega
theorem B6j {op:Int} {m:Nat} {D E A B:Int} (hop:6≤op∧op≤16) (hp:Pre s s1) (hd:s1.d.length=s1.o.length) (g1:Seg s1.o s.o.length m D) (g2:dAt s1.d (m - 1)=D∧1≤D∧D≤64) (k1:Seg s1.o m s1.o.length E) (k2:dAt s1.d (s1.o.length - 1)=E∧1≤E∧E≤64) (hA:A=(m:Int) - 1) (hB:B=(s1.o.length:Int) - 1)
  (hs:pot s1.o+9 * U6 L s.a+9≤pot s.o+9 * U6 L s1.a) (h:V8 t { ex0 with op:=op,a:=A,b:=B } [A,B] s1=.ok s'):Grw L s s':=by
 subst hA hB
 obtain ⟨rfl,h64⟩:=A7u h
 obtain ⟨⟨l1,p1⟩,⟨l2,p2⟩⟩:=hp
 have hpos:=g1.pos
 have hpos2:=k1.pos
 have hdp:A2z s1.d [(m:Int) - 1,(s1.o.length:Int) - 1] 1=(if E > D then E else D)+1:=by
  have:=B8i (d:=s1.d) (a:=m - 1) (b:=s1.o.length - 1) (by rw [g2.1];exact g2.2) (by rw [k2.1];exact k2.2)
  rw [show ((m - 1:Nat):Int)=(m:Int) - 1 by omega,show ((s1.o.length - 1:Nat):Int)=(s1.o.length:Int) - 1 by omega,g2.1,k2.1] at this
  exact this
 have hnew:∀ y:Ex,E8 (s1.o++[y]) s1.o.length=y:=fun y=>by rw [A11 (Nat.le_refl _)];simp [E8]
 rw [hdp] at h64 ⊢
 refine ⟨⟨⟨l1++[_],by rw [← List.append_assoc,← p1]⟩,⟨l2++[_],by rw [← List.append_assoc,← p2]⟩⟩,⟨(if E > D then E else D)+1,?_,?_,by split<;>omega,h64⟩,?_⟩
 ·simp only [List.length_append,List.length_cons,List.length_nil]
  refine .bin (g1.app (by omega)) (k1.app (Nat.le_refl _)) ?_ ?_ ?_ ?_
  ·rw [hnew];exact hop
  ·rw [hnew]
  ·rw [hnew]
  ·rw [hnew];exact ⟨rfl,rfl⟩
 ·simp only [List.length_append,List.length_cons,List.length_nil]
  rw [show s1.o.length+(0+1) - 1=s1.o.length by omega,Y6 (by omega),hd,Nat.sub_self]
  rfl
 ·simp only
  rw [A4j,C3p (by exact ⟨by show op≠1;omega,by show op≠17;omega⟩)]
  omega
end
theorem C6d {s s1 s2:St} (h:Pre s s1) (k:Pre s1 s2) (hl:s.o.length≤s1.o.length) (hl2:s1.o.length≤s2.o.length) (hd:s.d.length=s.o.length) (hd1:s1.d.length=s1.o.length) (hd2:s2.d.length=s2.o.length) :
  Pre s (R5 s2 s.o.length s1.o.length)∧pot (R5 s2 s.o.length s1.o.length).o=pot s2.o ∧
  (∀ i i':Nat,s1.o.length≤i→i < s2.o.length→(i':Int)=i+(-((s1.o.length - s.o.length:Nat):Int))→E8 (R5 s2 s.o.length s1.o.length).o i'=G8 (-((s1.o.length - s.o.length:Nat):Int)) (E8 s2.o i)∧dAt (R5 s2 s.o.length s1.o.length).d i'=dAt s2.d i) ∧
  (∀ i i':Nat,s.o.length≤i→i < s1.o.length→(i':Int)=i+((s2.o.length - s1.o.length:Nat):Int)→E8 (R5 s2 s.o.length s1.o.length).o i'=G8 ((s2.o.length - s1.o.length:Nat):Int) (E8 s2.o i)∧dAt (R5 s2 s.o.length s1.o.length).d i'=dAt s2.d i):=by
 have hpre:=h.trans k
 obtain ⟨⟨l1,e1⟩,⟨l2,e2⟩⟩:=hpre
 have t1:s2.o.take s.o.length=s.o:=by rw [e1];simp
 have t2:s2.d.take s.o.length=s.d:=by rw [e2,← hd];simp
 generalize hF:s.o.length=f at *
 generalize hM:s1.o.length=m at *
 generalize hN:s2.o.length=n at *
 have ho:(R5 s2 f m).o=s.o++((s2.o.drop m).map (G8 (-((m - f:Nat):Int)))++((s2.o.take m).drop f).map (G8 ((n - m:Nat):Int))):=by
  unfold R5
  dsimp only
  rw [t1,hN,List.append_assoc]
 have hdd:(R5 s2 f m).d=s.d++(s2.d.drop m++(s2.d.take m).drop f):=by
  unfold R5
  dsimp only
  rw [t2,List.append_assoc]
 have hL1:(s2.o.drop m).length=n - m:=by rw [List.length_drop,hN]
 have hL2:(s2.d.drop m).length=n - m:=by rw [List.length_drop,hd2]
 refine ⟨⟨⟨_,ho⟩,⟨_,hdd⟩⟩,?_,fun i i' h1 h2 h3=>⟨?_,?_⟩,fun i i' h1 h2 h3=>⟨?_,?_⟩⟩
 ·rw [ho,A4j,A4j,B9h,B9h]
  have c1:s2.o=s.o++((s2.o.take m).drop f++s2.o.drop m):=by
   rw [← List.append_assoc]
   conv=>lhs;rw [← List.take_append_drop m s2.o]
   congr 1
   have:(s2.o.take m).take f=s.o:=by rw [List.take_take,Nat.min_eq_left hl];exact t1
   rw [← this,List.take_append_drop]
  conv=>rhs;rw [c1]
  rw [A4j,A4j];omega
 ·rw [ho,A11 (by omega),B8t (by rw [List.length_map,hL1];omega),C2h (by omega),B8s]
  congr 2;omega
 ·rw [hdd,Y6 (by omega),A7e (by omega),C2c]
  congr 1;omega
 ·rw [ho,A11 (by omega),A11 (by rw [List.length_map,hL1];omega),List.length_map,hL1,C2h (by rw [List.length_drop,List.length_take,hN];omega),B8s,C8t (by omega)]
  congr 2;omega
 ·rw [hdd,Y6 (by omega),Y6 (by omega),C2c,D1c (by omega)]
  congr 1;omega
section
variable {L:List Tok}
theorem B5e (hL:Z9 L) {F:St→Res St} {s:St} (ha:s.a < L.length) (hF:s.k≠128→A42 L F (F1 s)):∀ s',A09 L F s=.ok s'→Grw L s s'∧pot s'.o+9 * U6 L s.a+9≤pot s.o+9 * U6 L s'.a:=by
 intro s' h
 unfold A09 at h
 split at h
 ·cases h
 ·rename_i hk
  split at h
  ·cases h
  ·rename_i s1 h1
   injection h with h
   subst h
   obtain ⟨g1,g2,g3⟩:=hF hk s1 h1
   have hn:=hL.next ha
   have g3:pot s1.o+9 * U6 L (s.a+1)≤pot s.o+9 * U6 L s1.a:=g3
   exact ⟨⟨⟨g1.o,g1.d⟩,g2,by simp only;omega⟩,by simp only;omega⟩
theorem B4n (hL:Z9 L) {F:St→Res St} {op:Int} {s:St} (hop:op=4∨op=5) (hs:F8 L s) (ha:s.a < L.length) (hG:s.k≠128→Pa.A3n L F (F1 s)) (hF:s.k≠128→A42 L F (F1 s)):A42 L (R1 L op F) s:=by
 intro s' h
 unfold R1 at h
 split at h
 ·cases h
 ·rename_i s1 h1
  obtain ⟨g1,g2,_⟩:=A4h hs ha hG s1 h1
  obtain ⟨h2,h3⟩:=B5e hL ha hF s1 h1
  exact D23 hop h2 g1.hd h3 h
theorem B4r (hL:Z9 L) {m:List (List UInt8 × Int)} {F:St→Res St} (hm:∀ y ∈ m,6≤y.2∧y.2≤16):∀ {n:Nat} {s s1:St},F8 L s→B32 s s1→Grw L s s1→F8 L s1→(∀ q:St,F8 L q→s.a≤q.a→Pa.A3n L F q∧A42 L F q)→∀ s',A2q L m F n s1=.ok s'→Grw L s s'
 | 0,s,s1,hs,hg,ht,h1,hF,s',h=>by
  injection h with h;subst h;exact ht
 | n+1,s,s1,hs,hg,ht,h1,hF,s',h=>by
  unfold A2q at h
  split at h
  ·injection h with h;subst h;exact ht
  ·rename_i hne
   have hlt:=A33 hne
   obtain ⟨y,hy1,hy2⟩:=B9d hne
   have hop:=hm y hy1
   rw [hy2] at hop
   have q1:=hg.a
   have q2:=hg.o
   have q3:=hg.l
   have q4:=hg.k
   split at h
   ·cases h
   ·rename_i s2 h2
    have hok:F8 L { s1 with a:=s1.a+1 }:=⟨by simp only;omega,by simp only;have:=h1.ho;omega,h1.hd,h1.hk⟩
    obtain ⟨g1,g2⟩:=(hF { s1 with a:=s1.a+1 } hok (by simp only;omega)).1 s2 h2
    obtain ⟨g3,g4,g5⟩:=(hF { s1 with a:=s1.a+1 } hok (by simp only;omega)).2 s2 h2
    have g3:Pre s1 s2:=⟨g3.o,g3.d⟩
    have e1:=g2.a
    have e2:=g2.l
    have e3:=g2.o
    have e4:=g2.k
    simp only at e1 e2 e3 e4 g5
    have hn:=hL.next hlt
    split at h
    ·cases h
    ·rename_i s3 h3
     obtain ⟨k1,k2⟩:=A0z (s:=s) (by omega) g1.ha (by omega) (by omega) g1.hd (by omega) hs h3
     obtain ⟨t1,⟨D,t2,t3,t4,t5⟩,t6⟩:=ht
     obtain ⟨E,u2,u3,u4,u5⟩:=g4
     obtain ⟨⟨r1,w1⟩,⟨r2,w2⟩⟩:=g3
     have hd1:=h1.hd
     have k3:=B6j (L:=L) (s:=s) (m:=s1.o.length) hop (t1.trans ⟨⟨r1,w1⟩,⟨r2,w2⟩⟩) g1.hd (by rw [w1];exact t2.app (Nat.le_refl _)) ⟨by rw [w2,A7e (by omega)];exact t3,t4,t5⟩ u2 ⟨u3,u4,u5⟩ rfl rfl (by omega) h3
     exact B4r hL hm hs k2 k3 k1 hF s' h
theorem A8f (hL:Z9 L) {m:List (List UInt8 × Int)} {F:St→Res St} {s:St} (hm:∀ y ∈ m,6≤y.2∧y.2≤16) (hs:F8 L s) (hF:∀ q:St,F8 L q→s.a≤q.a→Pa.A3n L F q∧A42 L F q):A42 L (W2 L m F) s:=by
 intro s' h
 unfold W2 at h
 split at h
 ·cases h
 ·rename_i s1 h1
  obtain ⟨g1,g2⟩:=(hF s hs (Nat.le_refl _)).1 s1 h1
  exact B4r hL hm hs g2 ((hF s hs (Nat.le_refl _)).2 s1 h1) g1 hF s' h
theorem D09 (hX:Z9 L) {F:St→Res St} {s:St} (hL:L.length≤90000) (hs:F8 L s) (hF:∀ q:St,F8 L q→s.a≤q.a→Pa.A3n L F q∧A42 L F q):A42 L (A48 L F) s:=by
 intro s' h
 unfold A48 at h
 split at h
 ·cases h
 ·rename_i s1 h1
  obtain ⟨g1,g2⟩:=(hF s hs (Nat.le_refl _)).1 s1 h1
  have g3:=(hF s hs (Nat.le_refl _)).2 s1 h1
  split at h
  ·injection h with h;subst h;exact g3
  ·rename_i hne
   have hlt:=A33 hne
   obtain ⟨y,hy1,hy2⟩:=B9d hne
   have hop:(13≤J4 L s1.a A2r∧J4 L s1.a A2r≤16)∨(-16≤J4 L s1.a A2r∧J4 L s1.a A2r≤-15):=by
    rw [← hy2]
    simp only [Pa.A2r,List.mem_cons,List.not_mem_nil,or_false] at hy1
    rcases hy1 with rfl|rfl|rfl|rfl|rfl|rfl<;>simp
   split at h
   ·cases h
   ·rename_i s2 h2
    have f1:=g2.a
    have f2:=g2.l
    have f3:=g2.o
    have f4:=g2.k
    have hok:F8 L { s1 with a:=s1.a+1 }:=⟨by simp only;omega,by simp only;have:=g1.ho;omega,g1.hd,g1.hk⟩
    obtain ⟨k1,k2⟩:=(hF _ hok (by simp only;omega)).1 s2 h2
    obtain ⟨k3,k4,k5⟩:=(hF _ hok (by simp only;omega)).2 s2 h2
    have k3:Pre s1 s2:=⟨k3.o,k3.d⟩
    have e1:=k2.a
    have e2:=k2.l
    have e3:=k2.o
    have e4:=k2.k
    have e5:=k1.ho
    have e6:=k1.ha
    simp only at e1 e2 e3 e4 k5
    have hn:=hX.next hlt
    obtain ⟨t1,⟨D,t2,t3,t4,t5⟩,t6⟩:=g3
    obtain ⟨E,u2,u3,u4,u5⟩:=k4
    simp only at u2
    have hd1:=g1.hd
    have hd2:=k1.hd
    have hd0:=hs.hd
    split at h
    ·rename_i hneg
     obtain ⟨l1,l2⟩:=B7c (s:=s2) (f:=s.o.length) (m:=s1.o.length) (by omega) (by omega) k1.hd
     obtain ⟨p1,p2,p3,p4⟩:=C6d t1 k3 (by omega) (by omega) hs.hd g1.hd k1.hd
     obtain ⟨⟨r1,w1⟩,⟨r2,w2⟩⟩:=k3
     have ht2:Seg s2.o s.o.length s1.o.length D:=by rw [w1];exact t2.app (Nat.le_refl _)
     have ht3:dAt s2.d (s1.o.length - 1)=D:=by rw [w2,A7e (by omega)];exact t3
     generalize hq:R5 s2 s.o.length s1.o.length=q at *
     have hqa:q.a=s2.a:=by rw [← hq];rfl
     have v1:Seg q.o s.o.length (s.o.length+(s2.o.length - s1.o.length)) E:=u2.move (by_:=-((s1.o.length - s.o.length:Nat):Int)) (by omega) (by omega) (by omega) (by omega) fun i i' a b c=>(p3 i i' a b c).1
     have v2:Seg q.o (s.o.length+(s2.o.length - s1.o.length)) q.o.length D:=ht2.move (by_:=((s2.o.length - s1.o.length:Nat):Int)) (by omega) (by omega) (by omega) (by omega) fun i i' a b c=>(p4 i i' a b c).1
     have v3:dAt q.d (s.o.length+(s2.o.length - s1.o.length) - 1)=E:=by rw [(p3 (s2.o.length - 1) (s.o.length+(s2.o.length - s1.o.length) - 1) (by omega) (by omega) (by omega)).2];exact u3
     have v4:dAt q.d (q.o.length - 1)=D:=by rw [(p4 (s1.o.length - 1) (q.o.length - 1) (by omega) (by omega) (by omega)).2];exact ht3
     exact B6j (L:=L) (s:=s) (m:=s.o.length+(s2.o.length - s1.o.length)) (by omega) p1 (by omega) v1 ⟨v3,u4,u5⟩ v2 ⟨v4,t4,t5⟩ rfl (by omega) (by rw [p2,hqa];omega) h
    ·rename_i hneg
     obtain ⟨⟨r1,w1⟩,⟨r2,w2⟩⟩:=k3
     exact B6j (L:=L) (s:=s) (m:=s1.o.length) (by omega) (t1.trans ⟨⟨r1,w1⟩,⟨r2,w2⟩⟩) k1.hd (by rw [w1];exact t2.app (Nat.le_refl _)) ⟨by rw [w2,A7e (by omega)];exact t3,t4,t5⟩ u2 ⟨u3,u4,u5⟩ rfl rfl (by omega) h
theorem B9z (hX:Z9 L) {a a':Nat} {v:Int × Int × List UInt8 × Bool} (h:J6 L a=.ok (v,a')):Tr.N8 v=true∧Nu.V7 v.2.1∧(A5u v).length+9 * U6 L a≤9 * U6 L a':=by
 unfold J6 at h
 split at h
 ·rename_i hn
  dsimp only at h
  obtain ⟨q,hqd⟩:∃ q,q=(if isF L a [45]=true then a+1 else a):=⟨_,rfl⟩
  rw [← hqd] at h
  obtain ⟨g,hg⟩:∃ g,g=(B0 L q).2.1:=⟨_,rfl⟩
  rw [← hg] at h
  obtain ⟨T,hT⟩:∃ T,T=(if isF L a [45]=true∧g≠[48] then [45] else ([]:List UInt8))++g:=⟨_,rfl⟩
  rw [← hT] at h
  have hq:q < L.length:=by
   unfold U2 at hn
   rw [Bool.and_eq_true,← hqd] at hn
   exact of_decide_eq_true hn.1
  by_cases hE:Nu.A1g T=0
  ·rw [if_neg (fun hh=>hh hE)] at h
   injection h with h
   injection h with h1 h2
   subst h1 h2
   refine ⟨by simp [Tr.N8],Nu.C9t _,?_⟩
   have hs:A5u (1,Nu.A9q T,[],false)=T:=Nu.C5n (Nu.C9s hE) hE
   rw [hs]
   have hw:=Z3 hq
   have hwt:g.length≤A1n (B0 L q):=by rw [hg];unfold A1n;omega
   have hTl:T.length=(if isF L a [45]=true∧g≠[48] then [45] else ([]:List UInt8)).length+g.length:=by rw [hT,List.length_append]
   by_cases hm:isF L a [45]=true
   ·have hn1:=hX.next (D1 hm)
    rw [if_pos hm] at hqd
    subst hqd
    have:(if isF L a [45]=true∧g≠[48] then [45] else ([]:List UInt8)).length≤1:=by split<;>simp
    omega
   ·rw [if_neg hm] at hqd
    subst hqd
    have:(if isF L q [45]=true∧g≠[48] then [45] else ([]:List UInt8)).length=0:=by rw [if_neg (fun h=>hm h.1)];rfl
    omega
  ·rw [if_pos hE] at h
   cases h
 ·split at h
  ·rename_i hk
   injection h with h
   injection h with h1 h2
   subst h1 h2
   have hlt:=A2b (L:=L) (a:=a) (by rw [hk];decide)
   have hq:=hX.quot a hlt (by rw [← A2j hlt];exact hk)
   rw [← A2j hlt] at hq
   have hw:=Z3 hlt
   have hwt:A1n (B0 L a)=(B0 L a).2.1.length+2:=by unfold A1n;rw [if_pos hk]
   refine ⟨by simp [Tr.N8,hq],⟨by show (-9223372036854775808:Int)≤0;decide,by show (0:Int)≤9223372036854775807;decide⟩,?_⟩
   show (Qu.A1w (B0 L a).2.1).length+_≤_
   have:=Qu.B9k (B0 L a).2.1
   omega
  ·split at h
   ·rename_i hk
    injection h with h
    injection h with h1 h2
    subst h1 h2
    have hlt:=D1 hk
    have hw:=Z3 hlt
    have ht:(B0 L a).2.1=[116,114,117,101]:=by
     unfold isF at hk
     rw [Bool.and_eq_true] at hk
     exact of_decide_eq_true hk.2
    have hwt:4≤A1n (B0 L a):=by unfold A1n;rw [ht];simp
    refine ⟨rfl,⟨by decide,by decide⟩,?_⟩
    show 4+_≤_
    omega
   ·split at h
    ·rename_i hk
     injection h with h
     injection h with h1 h2
     subst h1 h2
     have hlt:=D1 hk
     have hw:=Z3 hlt
     have ht:(B0 L a).2.1=[102,97,108,115,101]:=by
      unfold isF at hk
      rw [Bool.and_eq_true] at hk
      exact of_decide_eq_true hk.2
     have hwt:5≤A1n (B0 L a):=by unfold A1n;rw [ht];simp
     refine ⟨rfl,⟨by decide,by decide⟩,?_⟩
     show 5+_≤_
     omega
    ·cases h
theorem D0j (hX:Z9 L) {E U:St→Res St} {s:St} (hs:F8 L s) (hE:s.a < L.length→s.k≠128→A42 L E (F1 s)) (hG:s.a < L.length→s.k≠128→Pa.A3n L U (F1 s)) (hU:s.a < L.length→s.k≠128→A42 L U (F1 s)):A42 L (A0v L E U) s:=by
 intro s' h
 unfold A0v at h
 split at h
 ·rename_i h0
  have hlt:=D1 h0
  refine (B5e hX hlt (fun hk=>fun q hq=>?_) s' h).1
  split at hq
  ·cases hq
  ·rename_i q1 hq1
   obtain ⟨z1,z2,z3⟩:=hE hlt hk q1 hq1
   unfold B3d at hq
   split at hq
   ·injection hq with hq;subst hq
    have:=B2m (L:=L) (a:=q1.a) (b:=q1.a+1) (by omega)
    exact ⟨⟨z1.o,z1.d⟩,z2,by simp only;omega⟩
   ·cases hq
 ·split at h
  ·rename_i h1
   have hlt:=A2b (L:=L) (a:=s.a) (by rw [h1.1];decide)
   have hnm:=hX.name s.a hlt (by rw [← A2j hlt];exact h1.1)
   rw [← A2j hlt] at hnm
   have hnm:Sc.C4 (B0 L s.a).2.1=true:=hnm.resolve_right h1.2
   have hw:=Z3 hlt
   have hwt:(B0 L s.a).2.1.length≤A1n (B0 L s.a):=by unfold A1n;omega
   exact B9j hs.hd ⟨rfl,rfl,.inr ⟨rfl,hnm,rfl⟩⟩ (by show (B0 L s.a).2.1.length+_≤_;omega) h
  ·split at h
   ·rename_i h2
    have hlt:=D1 h2.1
    exact B4n hX (.inr rfl) hs hlt (hG hlt) (hU hlt) s' h
   ·split at h
    ·cases h
    ·rename_i v a' hv
     obtain ⟨v1,v2,v3⟩:=B9z hX hv
     exact B9j (x:={ ex0 with op:=1,vk:=v.1,vi:=v.2.1,vs:=v.2.2.1,vb:=v.2.2.2 }) hs.hd ⟨rfl,rfl,.inl ⟨rfl,rfl,v1,v2⟩⟩ (by show (A5u v).length+_≤_;exact v3) h
theorem B45 (hX:Z9 L) (hL:L.length≤90000):∀ (f lv:Nat) (s:St),lv≤6→F8 L s→N2 L lv f s→A42 L (ev L f lv) s
 | 0,_,_,_,_,h=>absurd h (Nat.not_lt_zero _)
 | f+1,lv,s,hl,hs,he=>by
  have up:∀ l2,lv < l2→l2≤6→∀ q:St,F8 L q→s.a≤q.a→Pa.A3n L (ev L f l2) q∧A42 L (ev L f l2) q:=fun l2 h1 h2 q hq ha=>⟨J8 f l2 q h2 hq (by unfold N2 at *;omega),B45 hX hL f l2 q h2 hq (by unfold N2 at *;omega)⟩
  have en:∀ l2,l2≤6→(l2=0→lv=6)→(l2≠0→l2=lv)→s.a < L.length→N2 L l2 f (F1 s):=fun l2 h1 h2 h3 ha=>by
   unfold N2 at *
   simp only [F1]
   by_cases h0:l2=0
   ·have:=h2 h0;omega
   ·have:=h3 h0;omega
  rcases lv with _|_|_|_|_|_|_|lv
  ·exact A8f hX (by simp [Pa.orM]) hs (up 1 (by omega) (by omega))
  ·exact A8f hX (by simp [Pa.D01]) hs (up 2 (by omega) (by omega))
  ·intro s' h
   replace h:(if isF L s.a [110,111,116]=true then R1 L 4 (ev L f 2) s else ev L f 3 s)=.ok s':=h
   split at h
   ·rename_i h0
    have hlt:=D1 h0
    have hen:=en 2 (by omega) (by omega) (by omega) hlt
    exact B4n hX (.inl rfl) hs hlt (fun hk=>J8 f 2 _ (by omega) (M2 hs hlt hk) hen) (fun hk=>B45 hX hL f 2 _ (by omega) (M2 hs hlt hk) hen) s' h
   ·exact (up 3 (by omega) (by omega) s hs (Nat.le_refl _)).2 s' h
  ·exact D09 hX hL hs (up 4 (by omega) (by omega))
  ·exact A8f hX (by simp [Pa.D30]) hs (up 5 (by omega) (by omega))
  ·exact A8f hX (by simp [Pa.C3q]) hs (up 6 (by omega) (by omega))
  ·exact D0j hX hs (fun ha hk=>B45 hX hL f 0 _ (by omega) (M2 hs ha hk) (en 0 (by omega) (by omega) (by omega) ha)) (fun ha hk=>J8 f 6 _ (by omega) (M2 hs ha hk) (en 6 (by omega) (by omega) (by omega) ha)) (fun ha hk=>B45 hX hL f 6 _ (by omega) (M2 hs ha hk) (en 6 (by omega) (by omega) (by omega) ha))
  ·omega
end
theorem B10 {o:List Ex} {i:Nat} (h:i < o.length):(o.map exT).getD i Tr.H1=exT (E8 o i):=by
 unfold E8
 rw [List.getD_eq_getElem?_getD,List.getElem?_map,List.getD_eq_getElem?_getD,List.getElem?_eq_getElem h];rfl
theorem D8g {o:List Ex} {lo hi:Nat} {D:Int} (h:Seg o lo hi D):hi≤o.length→ndN (o.map exT) (hi - 1)=((hi:Int) - lo,D):=by
 induction h with
 | @leaf lo h =>
  intro hh
  have hi:lo < (o.map exT).length:=by rw [List.length_map];omega
  rw [show lo+1 - 1=lo by omega]
  have:=Tr.C3h (nm:=Sc.C4) hi (B10 (by omega)) rfl rfl rfl
  refine Eq.trans this ?_
  rw [if_pos]
  ·rw [show (((lo+1:Nat):Int) - (lo:Int))=1 by omega]
  ·obtain ⟨h1,h2,h3⟩:=h
   unfold Tr.A5g exT
   simp only
   rw [if_neg (by omega)]
   rcases h3 with ⟨h3,h4,h5,_⟩|⟨h3,h4,h5⟩
   ·rw [if_pos h3,h4,h5];rfl
   ·rw [if_neg (by omega),h5,h4,h3];rfl
 | @una lo hi D k h1 h2 h3 h4 ih =>
  intro hh
  have ih:=ih (by omega)
  have:=k.pos
  have hil:hi < (o.map exT).length:=by rw [List.length_map];omega
  rw [show hi+1 - 1=hi by omega]
  have e:=Tr.C3h (nm:=Sc.C4) hil (B10 (by omega)) ih rfl rfl
  refine Eq.trans e ?_
  rw [if_neg,if_neg,if_pos,if_pos]
  ·simp only
   rw [show ((hi+1:Nat):Int) - (lo:Int)=(hi:Int) - (lo:Int)+1 by omega]
  ·exact ⟨h2,h3⟩
  ·show (E8 o hi).op≤5
   omega
  ·show ¬ ((E8 o hi).op < 4∨16 < (E8 o hi).op∨(E8 o hi).name≠[]∨((E8 o hi).vk,(E8 o hi).vi,(E8 o hi).vs,(E8 o hi).vb)≠Tr.R3∨hi=0∨(hi:Int) - lo=0)
   rintro (q|q|q|q|q|q)
   ·omega
   ·omega
   ·exact q h4.1
   ·exact q h4.2
   ·omega
   ·omega
  ·unfold Tr.A5g exT
   simp only
   split
   ·decide
   ·rw [if_neg (by omega),decide_eq_false (by omega)];simp
 | @bin lo m hi D E k k' h1 h2 h3 h4 ih ih' =>
  intro hh
  have ih':=ih' (by omega)
  have:=k.pos
  have:=k'.pos
  have ih:=ih (by omega)
  have hil:hi < (o.map exT).length:=by rw [List.length_map];omega
  rw [show hi+1 - 1=hi by omega]
  have e:=Tr.C3h (nm:=Sc.C4) hil (B10 (by omega)) ih' (a:=(m:Int) - 1) (q:=((m:Int) - lo,D)) (by simp only;omega) (by rw [show ((m:Int) - 1).toNat=m - 1 by omega];exact ih)
  refine Eq.trans e ?_
  rw [if_neg,if_neg,if_neg,if_pos]
  ·simp only
   have e1:(m:Int) - lo+((hi:Int) - m)+1=((hi+1:Nat):Int) - lo:=by omega
   have e2:max D E+1=(if E > D then E else D)+1:=by split<;>omega
   rw [e1,e2]
  ·exact ⟨h3,h2,by omega,by simp only;omega⟩
  ·show ¬ (E8 o hi).op≤5
   omega
  ·show ¬ ((E8 o hi).op < 4∨16 < (E8 o hi).op∨(E8 o hi).name≠[]∨((E8 o hi).vk,(E8 o hi).vi,(E8 o hi).vs,(E8 o hi).vb)≠Tr.R3∨hi=0∨(hi:Int) - m=0)
   rintro (q|q|q|q|q|q)
   ·omega
   ·omega
   ·exact q h4.1
   ·exact q h4.2
   ·omega
   ·omega
  ·unfold Tr.A5g exT
   simp only
   split
   ·decide
   ·rw [if_neg (by omega),decide_eq_false (by omega)];simp
def B6d (o:List Ex) (n:Nat):Nat:=pot (o.take n)
theorem B2c {o:List Ex} {n:Nat} (h:n < o.length):B6d o (n+1)=B6d o n+A3x (E8 o n):=by
 unfold B6d
 rw [List.take_succ,List.getElem?_eq_getElem h,A4j]
 have:pot (some o[n]).toList=A3x (E8 o n):=by
  unfold E8
  rw [List.getD_eq_getElem?_getD,List.getElem?_eq_getElem h]
  simp [pot]
 rw [this]
theorem C2a {e:Ex} (h:4≤e.op∧e.op≤16):A3x e=9:=by unfold A3x;rw [if_neg (by omega),if_neg (by omega)]
theorem C0i {e:Ex} {op a b:Int} {v:Tr.Vl} {nm:List UInt8} (h1:e.op=op) (h2:e.a=a) (h3:e.b=b) (h4:e.name=nm) (h5:(e.vk,e.vi,e.vs,e.vb)=v):exT e=(op,a,b,nm,v,e.ln,e.cl):=by unfold exT;rw [h1,h2,h3,h4,h5]
theorem C7u {o:List Ex} {lo hi:Nat} {D:Int} (h:Seg o lo hi D):hi≤o.length→∀ f,hi - 1 < f→(F5 (o.map exT) f (hi - 1)).txt.length+B6d o lo≤B6d o hi:=by
 induction h with
 | @leaf lo h =>
  intro hh f hf
  obtain ⟨f,rfl⟩:∃ g,f=g+1:=⟨f - 1,by omega⟩
  have hx:=B10 (o:=o) (i:=lo) (by omega)
  have hp:=B2c (o:=o) (n:=lo) (by omega)
  obtain ⟨h1,h2,⟨h3,h4,h5,_⟩|⟨h3,h4,h5⟩⟩:=h
  ·rw [C0i h3 h1 h2 h4 rfl] at hx
   rw [show lo+1 - 1=lo by omega,B66 hx]
   have:A3x (E8 o lo)=(A5u ((E8 o lo).vk,(E8 o lo).vi,(E8 o lo).vs,(E8 o lo).vb)).length:=by unfold A3x;rw [if_pos h3]
   show (A5u _).length+_≤_
   omega
  ·rw [C0i h3 h1 h2 rfl h5] at hx
   rw [show lo+1 - 1=lo by omega,B67 hx]
   have:A3x (E8 o lo)=(E8 o lo).name.length:=by unfold A3x;rw [if_neg (by omega),if_pos h3]
   show (E8 o lo).name.length+_≤_
   omega
 | @una lo hi D k h1 h2 h3 h4 ih =>
  intro hh f hf
  obtain ⟨f,rfl⟩:∃ g,f=g+1:=⟨f - 1,by omega⟩
  have:=k.pos
  have ih:=ih (by omega) f (by omega)
  have hx:=B10 (o:=o) (i:=hi) (by omega)
  have hp:=B2c (o:=o) (n:=hi) (by omega)
  have hc:=C2a (e:=E8 o hi) (by omega)
  have h2:(E8 o hi).a=((hi - 1:Nat):Int):=by omega
  rw [C0i rfl h2 h3 h4.1 h4.2] at hx
  rw [show hi+1 - 1=hi by omega]
  rcases h1 with h1|h1
  ·rw [h1] at hx
   rw [B69 hx]
   have:=A1p (n:=3) (t:=F5 (o.map exT) f (hi - 1))
   show (110::111::116::32::(H6 3 _).txt).length+_≤_
   simp only [List.length_cons]
   omega
  ·rw [h1] at hx
   rw [B68 hx]
   have:(if (F5 (o.map exT) f (hi - 1)).bare=true then Xt.par (F5 (o.map exT) f (hi - 1)) else H6 7 (F5 (o.map exT) f (hi - 1))).txt.length≤(F5 (o.map exT) f (hi - 1)).txt.length+2:=by
    split
    ·show (40::(_++[41])).length≤_
     simp
    ·exact A1p
   show (45::Xt.txt _).length+_≤_
   simp only [List.length_cons]
   omega
 | @bin lo m hi D E k k' h1 h2 h3 h4 ih ih' =>
  intro hh f hf
  obtain ⟨f,rfl⟩:∃ g,f=g+1:=⟨f - 1,by omega⟩
  have:=k.pos
  have:=k'.pos
  have ih:=ih (by omega) f (by omega)
  have ih':=ih' (by omega) f (by omega)
  have hx:=B10 (o:=o) (i:=hi) (by omega)
  have hp:=B2c (o:=o) (n:=hi) (by omega)
  have hc:=C2a (e:=E8 o hi) (by omega)
  have h2:(E8 o hi).a=((m - 1:Nat):Int):=by omega
  have h3:(E8 o hi).b=((hi - 1:Nat):Int):=by omega
  rw [C0i rfl h2 h3 h4.1 h4.2] at hx
  rw [show hi+1 - 1=hi by omega,B65 h1 hx]
  have s3:=B2h (E8 o hi).op
  have w1:=A1p (n:=(if lvl (E8 o hi).op=4 then 5 else lvl (E8 o hi).op)) (t:=F5 (o.map exT) f (m - 1))
  have w2:=A1p (n:=lvl (E8 o hi).op+1) (t:=F5 (o.map exT) f (hi - 1))
  show (Xt.txt _++32::(A4o _++32::Xt.txt _)).length+_≤_
  simp only [List.length_append,List.length_cons]
  omega
theorem C7t {o:List Ex} {lo hi:Nat} {D:Int} (h:Seg o lo hi D):∀ i,lo≤i→i < hi→A9b (E8 o i)∨B71 (E8 o i):=by
 induction h with
 | @leaf lo h=>intro i h1 h2;rw [show i=lo by omega];exact .inl h
 | @una lo hi D k h1 h2 h3 h4 ih =>
  intro i a b
  by_cases e:i=hi
  ·rw [e];exact .inr h4
  ·exact ih i a (by omega)
 | @bin lo m hi D E k k' h1 h2 h3 h4 ih ih' =>
  intro i a b
  by_cases e:i=hi
  ·rw [e];exact .inr h4
  ·by_cases e':i < m
   ·exact ih i a e'
   ·exact ih' i (by omega) (by omega)
structure Rd (L:List Tok) (a a' n:Nat):Prop where
 cost:n+9 * U6 L a≤9 * U6 L a'
 le:a≤a'
 len:a'≤L.length
section
variable {L:List Tok} {a b c n m:Nat}
theorem Rd.trans (h:Rd L a b n) (k:Rd L b c m):Rd L a c (n+m):=by
 have:=h.cost
 have:=k.cost
 exact ⟨by omega,Nat.le_trans h.le k.le,k.len⟩
theorem Rd.less (h:Rd L a b n) (k:m≤n):Rd L a b m:=⟨by have:=h.cost;omega,h.le,h.len⟩
theorem Rd.lt (h:Rd L a b n) (k:0 < n):a < b:=by
 rcases Nat.lt_or_ge a b with hh|hh
 ·exact hh
 ·have:=B2m (L:=L) hh
  have:=h.cost
  omega
theorem Rd.refl (h:a≤L.length):Rd L a a 0:=⟨by omega,Nat.le_refl _,h⟩
theorem A76 (hX:Z9 L) (h:a < L.length):Rd L a (a+1) 9:=⟨by have:=hX.next h;omega,by omega,h⟩
theorem A4i (hX:Z9 L) {x:Tr.Idn} (h:F9 L a=.ok (x,b)):Sc.C4 x.1=true∧Rd L a b (x.1.length+8):=by
 unfold F9 at h
 split at h
 ·cases h
 ·rename_i hn
  injection h with h
  injection h with h1 h2
  subst h1 h2
  have hk:(B0 L a).1=1:=Classical.byContradiction fun h=>hn (.inl h)
  have ht:(B0 L a).2.1≠[95]:=fun h=>hn (.inr h)
  have hlt:=A2b (L:=L) (a:=a) (by rw [hk];decide)
  have hnm:=hX.name a hlt (by rw [← A2j hlt];exact hk)
  have hp:=hX.pos a hlt
  rw [← A2j hlt] at hnm hp
  have hw:=Z3 hlt
  have hwt:A1n (B0 L a)=(B0 L a).2.1.length:=by unfold A1n;rw [if_neg (by rw [hk];decide)];rfl
  exact ⟨hnm.resolve_right ht,by simp only;omega,by omega,hlt⟩
theorem B3z (hX:Z9 L) {w:List UInt8} (h:C7 L [w] a=.ok b):b=a+1∧Rd L a b 9:=by
 unfold C7 at h
 split at h
 ·rename_i hi
  injection h with h
  subst h
  exact ⟨rfl,A76 hX (D1 hi)⟩
 ·cases h
theorem B0u (hX:Z9 L) {x:Tr.Idn} {w:List UInt8} (h:V3 L [w] a=.ok (x,b)):Sc.C4 x.1=true∧Rd L a b (x.1.length+17):=by
 unfold V3 at h
 split at h
 ·cases h
 ·rename_i y a1 h1
  split at h
  ·cases h
  ·rename_i a2 h2
   injection h with h
   injection h with h3 h4
   subst h3 h4
   obtain ⟨k1,k2⟩:=A4i hX h1
   exact ⟨k1,(k2.trans (B3z hX h2).2).less (by omega)⟩
theorem C65 (hX:Z9 L) {k:Int} (h:A1b L a=.ok (k,b)):Tr.U0 k=true∧Rd L a b (Q0 k).length:=by
 have key:∀ (w:List UInt8) (q:Int),isF L a w=true→Tr.U0 q=true→(Q0 q).length≤w.length→Tr.U0 q=true∧Rd L a (a+1) (Q0 q).length:=fun w q h1 h2 h3=>by
  have hlt:=D1 h1
  have hw:=Z3 hlt
  have ht:(B0 L a).2.1=w:=by
   unfold isF at h1
   rw [Bool.and_eq_true] at h1
   exact of_decide_eq_true h1.2
  have:w.length≤A1n (B0 L a):=by unfold A1n;rw [ht];omega
  exact ⟨h2,by omega,by omega,hlt⟩
 unfold A1b at h
 split at h
 ·injection h with h;injection h with h1 h2;subst h1 h2
  exact key _ 1 (by assumption) (by decide) (by decide)
 ·split at h
  ·injection h with h;injection h with h1 h2;subst h1 h2
   exact key _ 2 (by assumption) (by decide) (by decide)
  ·split at h
   ·injection h with h;injection h with h1 h2;subst h1 h2
    exact key _ 3 (by assumption) (by decide) (by decide)
   ·cases h
theorem D4l (hX:Z9 L) {v:Int × Int × List UInt8 × Bool} (h:J6 L a=.ok (v,b)):Tr.N8 v=true∧Nu.V7 v.2.1∧Rd L a b (A5u v).length:=by
 obtain ⟨h1,h2,h3⟩:=B9z hX h
 obtain ⟨h4,h5⟩:=A8w h
 exact ⟨h1,h2,h3,by omega,h5⟩
theorem D7h (hX:Z9 L) {y:Tr.Ar} (h:A68 L a=.ok (y,b)):Tr.A8y y=true∧Nu.V7 y.2.2.1.2.1∧Rd L a b (A23 y).length:=by
 unfold A68 at h
 split at h
 ·rename_i hk
  injection h with h;injection h with h1 h2;subst h1 h2
  have hlt:=A2b (L:=L) (a:=a) (by rw [hk.1];decide)
  exact ⟨rfl,⟨by show (-9223372036854775808:Int)≤0;decide,by show (0:Int)≤9223372036854775807;decide⟩,(A76 hX hlt).less (by show 1≤9;decide)⟩
 ·rename_i hn
  split at h
  ·split at h
   ·cases h
   ·rename_i v a1 hv
    injection h with h;injection h with h1 h2;subst h1 h2
    obtain ⟨h1,h2,h3⟩:=D4l hX hv
    refine ⟨?_,h2,?_⟩
    ·unfold Tr.A8y
     simp only [if_true]
     rw [h1];rfl
    ·unfold A23
     simp only [if_true]
     exact h3
  ·rename_i hk
   have hk:(B0 L a).1=1:=Classical.byContradiction hk
   injection h with h;injection h with h1 h2;subst h1 h2
   have hnm:F9 L a=.ok (((B0 L a).2.1,(B0 L a).2.2.1,(B0 L a).2.2.2),a+1):=by
    unfold F9
    rw [if_neg]
    rintro (q|q)
    ·exact q hk
    ·exact hn ⟨hk,q⟩
   obtain ⟨k1,k2⟩:=A4i hX hnm
   refine ⟨?_,⟨by show (-9223372036854775808:Int)≤0;decide,by show (0:Int)≤9223372036854775807;decide⟩,?_⟩
   ·unfold Tr.A8y
    rw [if_neg (by simp),if_pos rfl]
    simp only
    rw [show Sc.C4 (B0 L a).2.1=true from k1];rfl
   ·unfold A23
    rw [if_neg (by simp),if_pos rfl]
    exact k2.less (by simp only;omega)
end
section
variable {L:List Tok} {α:Type} {one:Nat→Res (α × Nat)} {S:α→List UInt8} {P:α→Prop}
theorem A7q (x:List UInt8):∀ l:List (List UInt8),(K9 (x::l)).length≤x.length+2+(K9 l).length
 | []=>by show x.length≤_;omega
 | y::l=>by show (x++44::32::K9 (y::l)).length≤_;rw [List.length_append,List.length_cons,List.length_cons];omega
theorem C3d (hX:Z9 L) (h1:∀ a x a',a≤L.length→one a=.ok (x,a')→P x∧Rd L a a' (S x).length):∀ (n:Nat) (acc:List α) (a:Nat) (xs:List α) (a':Nat),a≤L.length→L.length+1≤n+a→X7 L one n acc a=.ok (xs,a')→∃ ys,xs=acc++ys∧(∀ y ∈ ys,P y)∧Rd L a a' ((K9 (ys.map S)).length+7)
 | 0,acc,a,xs,a',ha,hn,h=>by omega
 | n+1,acc,a,xs,a',ha,hn,h=>by
  unfold X7 at h
  split at h
  ·cases h
  ·rename_i x a1 hx
   obtain ⟨k1,k2⟩:=h1 a x a1 ha hx
   split at h
   ·rename_i hc
    have hlt:=D1 hc
    have k3:=A76 hX hlt
    have:=k2.le
    obtain ⟨ys,e1,e2,e3⟩:=C3d hX h1 n (acc++[x]) (a1+1) xs a' hlt (by omega) h
    refine ⟨x::ys,by rw [e1,List.append_assoc];rfl,fun y hy=>?_,?_⟩
    ·rcases List.mem_cons.1 hy with rfl|hy
     ·exact k1
     ·exact e2 y hy
    ·refine ((k2.trans k3).trans e3).less ?_
     have:=A7q (S x) (ys.map S)
     rw [List.map_cons]
     omega
   ·split at h
    ·rename_i hc
     injection h with h;injection h with h2 h3;subst h2 h3
     refine ⟨[x],rfl,fun y hy=>?_,(k2.trans (A76 hX (D1 hc))).less ?_⟩
     ·rw [List.mem_singleton.1 hy];exact k1
     ·show (S x).length+7≤_;omega
    ·cases h
theorem C7f (hX:Z9 L) (h1:∀ a x a',a≤L.length→one a=.ok (x,a')→P x∧Rd L a a' (S x).length) {a a':Nat} {xs:List α} (h:A1d L one a=.ok (xs,a')):(∀ y ∈ xs,P y)∧Rd L a a' ((K9 (xs.map S)).length+9):=by
 unfold A1d at h
 split at h
 ·rename_i ho
  have hlt:=D1 ho
  have k1:=A76 hX hlt
  split at h
  ·rename_i hs
   injection h with h;injection h with h2 h3;subst h2 h3
   exact ⟨fun _ h=>(nomatch h),(k1.trans (A76 hX (D1 hs))).less (by show 0+9≤18;decide)⟩
  ·obtain ⟨ys,e1,e2,e3⟩:=C3d hX h1 (L.length+1) [] (a+1) xs a' hlt (by omega) h
   rw [List.nil_append] at e1
   subst e1
   exact ⟨e2,(k1.trans e3).less (by omega)⟩
 ·cases h
end
section
variable {L:List Tok} {a b:Nat}
theorem D32 (hX:Z9 L) {y:Tr.Sy} (h:K6 L a=.ok (y,b)):Tr.A2w (0,y)=true∧(∀ q ∈ y.2.1,Nu.V7 q.2.2.1.2.1)∧Rd L a b ((T6 y).length+8):=by
 unfold K6 at h
 split at h
 ·cases h
 ·rename_i x a1 h1
  split at h
  ·cases h
  ·rename_i l a2 h2
   injection h with h;injection h with h3 h4;subst h3 h4
   obtain ⟨k1,k2⟩:=A4i hX h1
   obtain ⟨k3,k4⟩:=C7f (S:=A23) (P:=fun q=>Tr.A8y q=true∧Nu.V7 q.2.2.1.2.1) hX (fun a x a' _ h=>by
    obtain ⟨q1,q2,q3⟩:=D7h hX h
    exact ⟨⟨q1,q2⟩,q3⟩) h2
   refine ⟨?_,fun q hq=>(k3 q hq).2,(k2.trans k4).less ?_⟩
   ·unfold Tr.A2w
    rw [Bool.and_eq_true,List.all_eq_true]
    exact ⟨k1,fun q hq=>(k3 q hq).1⟩
   ·show (x.1++40::(K9 (l.map A23)++[41])).length+8≤_
    simp only [List.length_append,List.length_cons,List.length_nil]
    omega
theorem D48 (hX:Z9 L) {d:Tr.De} (h:A06 L a=.ok (d,b)):Tr.K2 d.1=true∧d.2.all Tr.U0=true∧Rd L a b ((A07 d).length+9 - 8):=by
 unfold A06 at h
 split at h
 ·cases h
 ·rename_i x a1 h1
  split at h
  ·cases h
  ·rename_i l a2 h2
   injection h with h;injection h with h3 h4;subst h3 h4
   obtain ⟨k1,k2⟩:=A4i hX h1
   obtain ⟨k3,k4⟩:=C7f (S:=Q0) (P:=fun q=>Tr.U0 q=true) hX (fun a x a' _ h=>C65 hX h) h2
   refine ⟨k1,List.all_eq_true.2 k3,(k2.trans k4).less ?_⟩
   show (A17++32::(x.1++40::(K9 (l.map Q0)++[41]))).length+9 - 8≤_
   simp only [List.length_append,List.length_cons,List.length_nil,A17]
   omega
theorem D26 (hX:Z9 L) {all:Bool} {q:Tr.Qu} (h:W4 L all a=.ok (q,b)):Tr.K2 q.2.1=true∧Tr.U0 q.2.2=true∧Rd L a b (X8 q).length:=by
 unfold W4 at h
 split at h
 ·cases h
 ·rename_i x a1 h1
  split at h
  ·cases h
  ·rename_i k a2 h2
   injection h with h;injection h with h3 h4;subst h3 h4
   obtain ⟨k1,k2⟩:=B0u hX h1
   obtain ⟨k3,k4⟩:=C65 hX h2
   refine ⟨k1,k3,(k2.trans k4).less ?_⟩
   show ((if all=true then wForall else R6)++32::(x.1++58::32::Q0 k)).length≤_
   have:(if all=true then wForall else R6).length=6:=by split<;>rfl
   simp only [List.length_append,List.length_cons]
   omega
theorem D5q (hX:Z9 L) {f:Tr.Fr} (h:A1v L a=.ok (f,b)):Tr.K2 f.1=true∧Tr.N8 f.2=true∧Nu.V7 f.2.2.1∧Rd L a b (A2g f).length:=by
 unfold A1v at h
 split at h
 ·cases h
 ·rename_i x a1 h1
  split at h
  ·cases h
  ·rename_i v a2 h2
   injection h with h;injection h with h3 h4;subst h3 h4
   obtain ⟨k1,k2⟩:=B0u hX h1
   obtain ⟨k3,k4,k5⟩:=D4l hX h2
   refine ⟨k1,k3,k4,(k2.trans k5).less ?_⟩
   show (A21++32::(x.1++32::61::32::A5u v)).length≤_
   simp only [List.length_append,List.length_cons,List.length_nil,A21]
   omega
theorem D3o (hX:Z9 L) {next:Bool} {s:Tr.St} (h:Y1 L next a=.ok (s,b)):Tr.K2 s.1=true∧Rd L a b ((Y2 s).length - 3):=by
 unfold Y1 at h
 split at h
 ·cases h
 ·rename_i x a1 h1
  injection h with h;injection h with h3 h4;subst h3 h4
  obtain ⟨k1,k2⟩:=A4i hX h1
  refine ⟨k1,?_⟩
  have hw:(if next=true then wNext else A1x).length=4:=by split<;>rfl
  by_cases hi:isF L a1 K7=true
  ·rw [if_pos hi]
   refine (k2.trans (A76 hX (D1 hi))).less ?_
   show ((if next=true then wNext else A1x)++32::(x.1++if isF L a1 K7=true then 32::K7 else [])).length - 3≤_
   rw [if_pos hi]
   simp only [List.length_append,List.length_cons,List.length_nil,K7]
   omega
  ·rw [if_neg hi]
   refine k2.less ?_
   show ((if next=true then wNext else A1x)++32::(x.1++if isF L a1 K7=true then 32::K7 else [])).length - 3≤_
   rw [if_neg hi]
   simp only [List.length_append,List.length_cons,List.length_nil]
   omega
end
theorem C4m {L:List Tok} {a:Nat}:∀ ws:List (List UInt8),L9 L a ws≠ws.length→a < L.length
 | [],h=>absurd rfl h
 | w::r,h=>by
  unfold L9 at h
  split at h
  ·rename_i hi
   exact D1 hi
  ·exact C4m r (by simp only [List.length_cons] at h;omega)
section
variable {L:List Tok} {α:Type} {ws:List (List UInt8)} {one:Nat→Nat→Res (α × Nat)} {S:α→List UInt8} {P:α→Prop}
theorem C3f (hX:Z9 L) (h1:∀ i a x a',one i a=.ok (x,a')→P x∧Rd L a a' ((S x).length+1 - 9)):∀ (n:Nat) (acc:List α) (a:Nat) (xs:List α) (a':Nat),a≤L.length→L.length+1≤n+a→F4 L ws one n acc a=.ok (xs,a')→∃ ys,xs=acc++ys∧(∀ y ∈ ys,P y)∧Rd L a a' (E2 S ys).length
 | 0,acc,a,xs,a',ha,hn,h=>by omega
 | n+1,acc,a,xs,a',ha,hn,h=>by
  unfold F4 at h
  split at h
  ·injection h with h;injection h with h2 h3;subst h2 h3
   exact ⟨[],(List.append_nil _).symm,fun _ h=>(nomatch h),Rd.refl ha⟩
  ·rename_i hw
   have hlt:=C4m ws hw
   have k0:=A76 hX hlt
   split at h
   ·cases h
   ·rename_i x a1 hx
    obtain ⟨k1,k2⟩:=h1 _ _ x a1 hx
    have:=k2.le
    obtain ⟨ys,e1,e2,e3⟩:=C3f hX h1 n (acc++[x]) a1 xs a' k2.len (by omega) h
    refine ⟨x::ys,by rw [e1,List.append_assoc];rfl,fun y hy=>?_,((k0.trans k2).trans e3).less ?_⟩
    ·rcases List.mem_cons.1 hy with rfl|hy
     ·exact k1
     ·exact e2 y hy
    ·show ((S x++[10])++E2 S ys).length≤_
     simp only [List.length_append,List.length_cons,List.length_nil]
     omega
theorem B0s (hX:Z9 L) (h1:∀ i a x a',one i a=.ok (x,a')→P x∧Rd L a a' ((S x).length+1 - 9)) {a a':Nat} {xs:List α} (ha:a≤L.length) (h:N0 L ws one a=.ok (xs,a')):(∀ y ∈ xs,P y)∧Rd L a a' (E2 S xs).length:=by
 obtain ⟨ys,e1,e2,e3⟩:=C3f hX h1 (L.length+1) [] a xs a' ha (by omega) h
 rw [List.nil_append] at e1
 subst e1
 exact ⟨e2,e3⟩
end
def Pcs (o:List Ex):Nat→List Tr.Se→Nat→Prop
 | lo,[],hi=>lo=hi
 | lo,s::r,hi=>Sc.C4 s.1.1=true∧∃ (m:Nat) (D:Int),Seg o lo m D∧D≤64∧s.2=(m:Int) - 1∧Pcs o m r hi
theorem Pcs.le {o:List Ex}:∀ {ss:List Tr.Se} {lo hi:Nat},Pcs o lo ss hi→lo≤hi
 | [],lo,hi,h=>Nat.le_of_eq h
 | s::r,lo,hi,h=>by
  obtain ⟨_,m,D,h1,_,_,h2⟩:=h
  have:=h1.pos
  have:=Pcs.le h2
  omega
theorem Pcs.app {o l:List Ex}:∀ {ss:List Tr.Se} {lo hi:Nat},Pcs o lo ss hi→hi≤o.length→Pcs (o++l) lo ss hi
 | [],lo,hi,h,_=>h
 | s::r,lo,hi,h,hh=>by
  obtain ⟨h0,m,D,h1,h2,h3,h4⟩:=h
  have:=h4.le
  exact ⟨h0,m,D,h1.app (by omega),h2,h3,h4.app hh⟩
theorem Pcs.more {o:List Ex}:∀ {ss us:List Tr.Se} {lo m hi:Nat},Pcs o lo ss m→Pcs o m us hi→Pcs o lo (ss++us) hi
 | [],us,lo,m,hi,h,k=>by
  have h:lo=m:=h
  subst h;exact k
 | s::r,us,lo,m,hi,h,k=>by
  obtain ⟨h0,q,D,h1,h2,h3,h4⟩:=h
  exact ⟨h0,q,D,h1,h2,h3,h4.more k⟩
theorem C74 {o:List Ex} {lo hi:Nat} {D:Int} (h:Seg o lo hi D) (hh:hi≤o.length) (hD:D≤64):Tr.whB (o.map exT) lo ((hi:Int) - 1)=true:=by
 have hp:=h.pos
 have hn:=D8g h hh
 have hn:Tr.nd Sc.C4 (o.map exT) (hi - 1)=_:=hn
 unfold Tr.whB
 rw [show ((hi:Int) - 1).toNat=hi - 1 by omega,hn,List.length_map]
 simp only [Bool.and_eq_true,decide_eq_true_eq]
 omega
theorem C3m {o:List Ex}:∀ {ss:List Tr.Se} {lo hi:Nat},Pcs o lo ss hi→hi≤o.length→Tr.A1i (o.map exT) ss lo=some (hi:Int)
 | [],lo,hi,h,_=>by
  have h:lo=hi:=h
  subst h;rfl
 | s::r,lo,hi,h,hh=>by
  obtain ⟨h0,m,D,h1,h2,h3,h4⟩:=h
  have:=h4.le
  have hw:=C74 h1 (by omega) h2
  unfold Tr.A1i
  rw [h3,hw,show Tr.K2 s.1=true from h0,if_pos (show (true && true)=true from rfl),show (m:Int) - 1+1=(m:Int) by omega]
  exact C3m h4 hh
theorem C7q {o:List Ex}:∀ {ss:List Tr.Se} {lo hi:Nat},Pcs o lo ss hi→∀ i,lo≤i→i < hi→A9b (E8 o i)∨B71 (E8 o i)
 | [],lo,hi,h,i,a,b=>by
  have h:lo=hi:=h
  omega
 | s::r,lo,hi,h,i,a,b=>by
  obtain ⟨h0,m,D,h1,h2,h3,h4⟩:=h
  by_cases e:i < m
  ·exact C7t h1 i a e
  ·exact C7q h4 i (by omega) b
def B2f:List Tr.Se→Nat
 | []=>0
 | s::r=>s.1.1.length+5+B2f r
theorem C33:∀ a b:List Tr.Se,B2f (a++b)=B2f a+B2f b
 | [],b=>(Nat.zero_add _).symm
 | s::a,b=>by show s.1.1.length+5+B2f (a++b)=s.1.1.length+5+B2f a+B2f b;rw [C33 a b];omega
theorem C35 {o:List Ex}:∀ {ss:List Tr.Se} {lo hi:Nat},Pcs o lo ss hi→hi≤o.length→(K9 (ss.map (U7 (o.map exT)))).length+B6d o lo≤B2f ss+B6d o hi
 | [],lo,hi,h,_=>by
  have h:lo=hi:=h
  subst h
  show 0+_≤0+_
  omega
 | s::r,lo,hi,h,hh=>by
  obtain ⟨h0,m,D,h1,h2,h3,h4⟩:=h
  have:=h4.le
  have hp:=h1.pos
  have ih:=C35 h4 hh
  have ht:=C7u h1 (by omega) (s.2.toNat+1) (by omega)
  have hj:=A7q (U7 (o.map exT) s) (r.map (U7 (o.map exT)))
  have hl:(U7 (o.map exT) s).length=s.1.1.length+3+(F5 (o.map exT) (s.2.toNat+1) (m - 1)).txt.length:=by
   unfold U7 gx
   rw [show s.2.toNat=m - 1 by omega]
   simp only [List.length_append,List.length_cons]
   omega
  rw [List.map_cons]
  show _≤s.1.1.length+5+B2f r+_
  omega
section
variable {L:List Tok} {s z:St}
theorem C6w (hX:Z9 L) (hL:L.length≤90000) (hs:F8 L s) (h:B2x L s=.ok z):F8 L z∧B32 s z∧Grw L s z :=
 ⟨(J8 (A0b L) 0 s (by omega) hs (N5 L s) z h).1,(J8 (A0b L) 0 s (by omega) hs (N5 L s) z h).2,B45 hX hL (A0b L) 0 s (by omega) hs (N5 L s) z h⟩
structure D0r (L:List Tok) (s z:St) (ys:List Tr.Se):Prop where
 ok:F8 L z
 pre:Pre s z
 pcs:Pcs z.o s.o.length ys z.o.length
 cost:pot z.o+B2f ys+9 * U6 L s.a≤pot s.o+9 * U6 L z.a
 le:s.a≤z.a
theorem D8j (hX:Z9 L) (hL:L.length≤90000) (hs:F8 L s) {y:Tr.Se} (h:B6r L s=.ok (y,z)):D0r L s z [y]:=by
 unfold B6r at h
 split at h
 ·cases h
 ·rename_i x a1 h1
  split at h
  ·cases h
  ·rename_i s2 h2
   injection h with h;injection h with h3 h4;subst h3 h4
   obtain ⟨k1,k2⟩:=B0u hX h1
   have kl:=k2.le
   have hok:F8 L { s with a:=a1 }:=⟨k2.len,by have:=hs.ho;simp only;omega,hs.hd,hs.hk⟩
   obtain ⟨g1,g2,⟨g3,⟨D,g4,g5,g6,g7⟩,g8⟩⟩:=C6w hX hL hok h2
   have kc:=k2.cost
   have ga:=g2.a
   simp only at g4 g8 ga
   refine ⟨g1,⟨g3.o,g3.d⟩,⟨k1,s2.o.length,D,g4,g7,rfl,rfl⟩,?_,by omega⟩
   show _+(x.1.length+5+0)+_≤_
   omega
theorem C34 (hX:Z9 L) (hL:L.length≤90000):∀ (n:Nat) (acc:List Tr.Se) (s:St) (xs:List Tr.Se) (z:St),F8 L s→L.length+1≤n+s.a→A01 L n acc s=.ok (xs,z)→∃ ys,xs=acc++ys∧ys≠[]∧D0r L s z ys
 | 0,acc,s,xs,z,hs,hn,h=>by have:=hs.ha;omega
 | n+1,acc,s,xs,z,hs,hn,h=>by
  unfold A01 at h
  split at h
  ·cases h
  ·rename_i x s2 h1
   have k:=D8j hX hL hs h1
   split at h
   ·rename_i hc
    have hlt:=D1 hc
    have hn1:=hX.next hlt
    have k0:=k.ok
    have kl:=k.le
    have hok:F8 L { s2 with a:=s2.a+1 }:=⟨hlt,by have:=k0.ho;simp only;omega,k0.hd,k0.hk⟩
    obtain ⟨ys,e1,e0,⟨e2,e3,e4,e5,e6⟩⟩:=C34 hX hL n (acc++[x]) { s2 with a:=s2.a+1 } xs z hok (by simp only;omega) h
    simp only at e4 e5 e6
    have kc:=k.cost
    obtain ⟨⟨r1,w1⟩,_⟩:=e3
    simp only at w1
    have kp:Pcs z.o s.o.length [x] s2.o.length:=by rw [w1];exact k.pcs.app (Nat.le_refl _)
    refine ⟨x::ys,by rw [e1,List.append_assoc];rfl,by simp,⟨e2,k.pre.trans ⟨⟨r1,w1⟩,by assumption⟩,kp.more e4,?_,by omega⟩⟩
    rw [show x::ys=[x]++ys from rfl,C33]
    omega
   ·injection h with h;injection h with h2 h3;subst h2 h3
    exact ⟨[x],rfl,by simp,k⟩
end
theorem B9c {o:List Ex} (hl:o.length≤1000000) (h:∀ i,i < o.length→A9b (E8 o i)∨B71 (E8 o i)):P8 (o.map exT) 5000:=by
 refine ⟨by decide,by decide,by rw [List.length_map];exact hl,fun x hx=>?_⟩
 obtain ⟨e,he,rfl⟩:=List.mem_map.1 hx
 obtain ⟨i,hi,rfl⟩:=List.getElem_of_mem he
 have hi':=h i hi
 unfold E8 at hi'
 rw [List.getD_eq_getElem?_getD,List.getElem?_eq_getElem hi,Option.getD_some] at hi'
 generalize o[i]=e at *
 have nov:(e.vk,e.vi,e.vs,e.vb)=Tr.R3→Nu.V7 e.vi∧e.vs.length≤5000:=fun hv=>by
  unfold Tr.R3 at hv
  simp only [Prod.mk.injEq] at hv
  rw [hv.2.1,hv.2.2.1]
  exact ⟨⟨by decide,by decide⟩,by decide⟩
 show Nu.V7 e.vi∧e.vs.length≤5000
 rcases hi' with ⟨_,_,⟨_,_,h3,h4⟩|⟨_,_,h3⟩⟩|⟨_,h3⟩
 ·have:=(A0u h3 h4).2.1
  exact ⟨h4,by simp only at this;omega⟩
 ·exact nov h3
 ·exact nov h3
section
variable {L:List Tok} {a b:Nat}
theorem D4g (hX:Z9 L) (hL:L.length≤90000) {y:A05} (ha:a≤L.length) (h:H5 L 0 a=.ok (y,b)):Tr.trB ((0,0,0),A04 y)=true∧(∀ q ∈ y.on.2.1,Nu.V7 q.2.2.1.2.1)∧P8 (y.nodes.map exT) 5000∧Rd L a b ((E7 (A04 y)).length+1):=by
 unfold H5 at h
 split at h
 ·cases h
 rename_i fr a1 h1
 split at h
 ·cases h
 rename_i sy a2 h2
 split at h
 ·cases h
 rename_i g s3 h3
 split at h
 ·cases h
 rename_i ses s4 h4
 split at h
 ·cases h
 rename_i a5 h5
 split at h
 ·cases h
 rename_i tw a6 h6
 injection h with h;injection h with h7 h8;subst h7 h8
 obtain ⟨f1,f2⟩:=B0u hX h1
 obtain ⟨y1,y2,y3⟩:=D32 hX h2
 obtain ⟨w0,w1⟩:=B3z hX h5
 obtain ⟨t1,t2⟩:=A4i hX h6
 have ok0:F8 L ⟨a2,[],[],0⟩:=⟨y3.len,Nat.zero_le _,rfl,by show (0:Int)≤0;decide,by show (0:Int)≤128;decide⟩
 -- the guard
 obtain ⟨lo,G1,G2,G3,G4,G5⟩:∃ lo:Nat,lo=s3.o.length∧F8 L s3∧a2≤s3.a ∧
   (∀ l,Tr.B13 ((s3.o++l).map exT) g=some (lo:Int)∧(∀ i,i < lo→A9b (E8 (s3.o++l) i)∨B71 (E8 (s3.o++l) i))) ∧
   (if 0≤g then 9 else 0)+pot s3.o+9 * U6 L a2≤9 * U6 L s3.a∧(0≤g→∀ l,(gx ((s3.o++l).map exT) g).txt.length≤B6d (s3.o++l) lo):=by
  unfold A0m at h3
  split at h3
  ·rename_i hi
   have hlt:=D1 hi
   have hn:=hX.next hlt
   split at h3
   ·cases h3
   ·rename_i s2 he
    injection h3 with h3;injection h3 with h9 h10;subst h9 h10
    have hok:F8 L { (⟨a2,[],[],0⟩:St) with a:=(⟨a2,[],[],0⟩:St).a+1 }:=⟨hlt,Nat.zero_le _,rfl,by show (0:Int)≤0;decide,by show (0:Int)≤128;decide⟩
    obtain ⟨g1,g2,⟨g3,⟨D,g4,g5,g6,g7⟩,g8⟩⟩:=C6w hX hL hok he
    have ga:=g2.a
    have g4:Seg s2.o 0 s2.o.length D:=g4
    simp only at ga
    have hn:U6 L a2+1≤U6 L (a2+1):=hn
    have g8:pot s2.o+9 * U6 L (a2+1)≤0+9 * U6 L s2.a:=g8
    have hp:=g4.pos
    refine ⟨s2.o.length,rfl,g1,by omega,fun l=>⟨?_,fun i hi=>C7t (g4.app (l:=l) (Nat.le_refl _)) i (Nat.zero_le _) hi⟩,by split<;>omega,fun _ l=>?_⟩
    ·have hw:=C74 (g4.app (l:=l) (Nat.le_refl _)) (by rw [List.length_append];omega) g7
     unfold Tr.B13
     rw [if_neg (by omega),if_pos (show Tr.whB _ 0 _=true from hw)]
     congr 1;omega
    ·have:=C7u (g4.app (l:=l) (Nat.le_refl _)) (by rw [List.length_append];omega) ((((s2.o.length:Int) - 1).toNat)+1) (by omega)
     unfold gx
     rw [show ((s2.o.length:Int) - 1).toNat=s2.o.length - 1 by omega] at this ⊢
     omega
  ·injection h3 with h3;injection h3 with h9 h10;subst h9 h10
   exact ⟨0,rfl,ok0,Nat.le_refl _,fun l=>⟨rfl,fun i hi=>absurd hi (Nat.not_lt_zero _)⟩,by show 0+0+9 * U6 L a2≤9 * U6 L a2;omega,fun hh=>absurd hh (by decide)⟩
 -- the settings
 obtain ⟨S1,S2,S3,S4,S5⟩:F8 L s4∧(∃ r,s4.o=s3.o++r)∧Pcs s4.o lo ses s4.o.length∧s3.a≤s4.a∧(if ses=[] then 0 else 9)+pot s4.o+B2f ses+9 * U6 L s3.a≤pot s3.o+9 * U6 L s4.a:=by
  unfold doF at h4
  split at h4
  ·rename_i hi
   have hlt:=D1 hi
   have hn:=hX.next hlt
   have hok:F8 L { s3 with a:=s3.a+1 }:=⟨hlt,by have:=G2.ho;simp only;omega,G2.hd,G2.hk⟩
   unfold B6u at h4
   obtain ⟨ys,e1,e0,⟨e2,e3,e4,e5,e6⟩⟩:=C34 hX hL (L.length+1) [] _ ses s4 hok (by simp only;omega) h4
   rw [List.nil_append] at e1
   subst e1
   simp only at e4 e5 e6
   refine ⟨e2,e3.o,by rw [G1];exact e4,by omega,?_⟩
   rw [if_neg e0]
   omega
  ·injection h4 with h4;injection h4 with h9 h10;subst h9 h10
   refine ⟨G2,⟨[],(List.append_nil _).symm⟩,G1,Nat.le_refl _,?_⟩
   rw [if_pos rfl]
   show 0+_+0+_≤_
   omega
 obtain ⟨r,hr⟩:=S2
 have hle:=S3.le
 have hG:=G4 r
 rw [← hr] at hG
 have hsets:=C3m S3 (Nat.le_refl _)
 have htxt:=C35 S3 (Nat.le_refl _)
 have htot:B6d s4.o s4.o.length=pot s4.o:=by unfold B6d;rw [List.take_length]
 refine ⟨?_,y2,B9c (o:=s4.o) (by have:=S1.ho;have:=S1.ha;omega) (fun i hi=>?_),?_⟩
 ·unfold Tr.trB A04
  simp only
  rw [hG.1,show Tr.K2 fr=true from f1,show Tr.K2 tw=true from t1,y1]
  simp only [Bool.true_and,decide_eq_true_eq,Option.bind_some]
  rw [hsets,List.length_map]
 ·by_cases e:i < lo
  ·exact hG.2 i e
  ·exact C7q S3 i (by omega) hi
 ·have c1:=f2.cost
  have c2:=y3.cost
  have c3:=w1.cost
  have c4:=t2.cost
  have l1:=f2.le
  have l2:=y3.le
  have l3:=w1.le
  have l4:=t2.le
  refine ⟨?_,by omega,t2.len⟩
  have hto:(toS (A04 ⟨fr,tw,sy,s4.o,g,ses⟩)).length=4+tw.1.length:=by
   show (32::(wTo++32::tw.1)).length=_
   simp only [List.length_append,List.length_cons,List.length_nil,wTo]
   omega
  have hdo:(doS (A04 ⟨fr,tw,sy,s4.o,g,ses⟩)).length+B6d s4.o lo≤(if ses=[] then 0 else 4)+B2f ses+pot s4.o+(4+tw.1.length):=by
   show (if ses=[] then toS _ else 32::(wDo++32::(K9 (ses.map (U7 (s4.o.map exT)))++toS _))).length+_≤_
   by_cases he:ses=[]
   ·rw [if_pos he,if_pos he,hto]
    subst he
    have:lo=s4.o.length:=S3
    rw [this,htot]
    show _≤0+0+_+_
    omega
   ·rw [if_neg he,if_neg he]
    simp only [List.length_append,List.length_cons,List.length_nil,wDo]
    rw [hto]
    omega
  have hif:(ifS (A04 ⟨fr,tw,sy,s4.o,g,ses⟩)).length≤(if 0≤g then 4 else 0)+(if ses=[] then 0 else 4)+B2f ses+pot s4.o+(4+tw.1.length):=by
   show (if 0≤g then 32::(wIf++32::((gx (s4.o.map exT) g).txt++doS _)) else doS _).length≤_
   by_cases hg:0≤g
   ·have:=G5.2 hg r
    rw [← hr] at this
    rw [if_pos hg,if_pos hg]
    simp only [List.length_append,List.length_cons,List.length_nil,wIf]
    omega
   ·rw [if_neg hg,if_neg hg]
    omega
  have hall:(E7 (A04 ⟨fr,tw,sy,s4.o,g,ses⟩)).length=fr.1.length+4+(T6 sy).length+(ifS (A04 ⟨fr,tw,sy,s4.o,g,ses⟩)).length:=by
   show (fr.1++32::(wOn++32::(T6 sy++ifS _))).length=_
   simp only [List.length_append,List.length_cons,List.length_nil,wOn]
   omega
  have G50:=G5.1
  rw [hall]
  have i1:(if 0≤g then 4 else 0)≤(if 0≤g then 9 else 0):=by split<;>decide
  have i2:(if ses=[] then 0 else 4)≤(if ses=[] then 0 else 9):=by split<;>decide
  omega
theorem B9u (hX:Z9 L) (hL:L.length≤90000):∀ (n:Nat) (acc:List A05) (a:Nat) (xs:List A05),a≤L.length→L.length+1≤n+a→Y4 L n acc a=.ok xs→∃ ys,xs=acc++ys∧(∀ y ∈ ys,Tr.trB ((0,0,0),A04 y)=true∧(∀ q ∈ y.on.2.1,Nu.V7 q.2.2.1.2.1)∧P8 (y.nodes.map exT) 5000)∧Rd L a L.length (E2 (fun y=>E7 (A04 y)) ys).length
 | 0,acc,a,xs,ha,hn,h=>by omega
 | n+1,acc,a,xs,ha,hn,h=>by
  unfold Y4 at h
  split at h
  ·rename_i hlt
   split at h
   ·cases h
   ·rename_i t a1 ht
    obtain ⟨k1,k2,k3,k4⟩:=D4g hX hL ha ht
    have:=k4.lt (by omega)
    obtain ⟨ys,e1,e2,e3⟩:=B9u hX hL n (acc++[t]) a1 xs k4.len (by omega) h
    refine ⟨t::ys,by rw [e1,List.append_assoc];rfl,fun y hy=>?_,(k4.trans e3).less ?_⟩
    ·rcases List.mem_cons.1 hy with rfl|hy
     ·exact ⟨k1,k2,k3⟩
     ·exact e2 y hy
    ·show ((E7 (A04 t)++[10])++E2 _ ys).length≤_
     simp only [List.length_append,List.length_cons,List.length_nil]
     omega
  ·injection h with h;subst h
   refine ⟨[],(List.append_nil _).symm,fun _ h=>(nomatch h),?_⟩
   obtain rfl:a=L.length:=by omega
   exact Rd.refl ha
theorem D6o (hX:Z9 L) (hL:L.length≤90000) {hd:Head} {ts:List A05} (h:Z6 L=.ok (hd,ts)):Tr.V4 (A0g hd ts)=true∧C1v (A0g hd ts)∧(M3 (A0g hd ts)).length≤9 * U6 L L.length:=by
 unfold Z6 at h
 split at h
 ·cases h
 rename_i hd' a9 hh
 split at h
 ·cases h
 rename_i ts' ht
 injection h with h;injection h with h7 h8;subst h7 h8
 unfold T7 at hh
 split at hh
 ·cases hh
 rename_i a1 h1
 split at hh
 ·cases hh
 rename_i nm a2 h2
 split at hh
 ·cases hh
 rename_i ds a3 h3
 split at hh
 ·cases hh
 rename_i qs a4 h4
 split at hh
 ·cases hh
 rename_i fs a5 h5
 split at hh
 ·cases hh
 rename_i ss a6 h6
 split at hh
 ·cases hh
 rename_i a7 h7
 split at hh
 ·cases hh
 rename_i st a8 h8
 split at hh
 ·cases hh
 rename_i al a9' h9
 injection hh with hh;injection hh with q1 q2;subst q1 q2
 have k1:=(B3z hX h1).2
 obtain ⟨n1,k2⟩:=A4i hX h2
 obtain ⟨n3,k3⟩:=B0s (S:=A07) (P:=fun d=>Tr.K2 d.1=true∧d.2.all Tr.U0=true) hX (fun i a x a' h=>by
  obtain ⟨q1,q2,q3⟩:=D48 hX h
  exact ⟨⟨q1,q2⟩,q3.less (by omega)⟩) k2.len h3
 obtain ⟨n4,k4⟩:=B0s (S:=X8) (P:=fun q=>Tr.K2 q.2.1=true∧Tr.U0 q.2.2=true) hX (fun i a x a' h=>by
  obtain ⟨q1,q2,q3⟩:=D26 hX h
  exact ⟨⟨q1,q2⟩,q3.less (by omega)⟩) k3.len h4
 obtain ⟨n5,k5⟩:=B0s (S:=A2g) (P:=fun f=>Tr.K2 f.1=true∧Tr.N8 f.2=true∧Nu.V7 f.2.2.1) hX (fun i a x a' h=>by
  obtain ⟨q1,q2,q3,q4⟩:=D5q hX h
  exact ⟨⟨q1,q2,q3⟩,q4.less (by omega)⟩) k4.len h5
 obtain ⟨n6,k6⟩:=B0s (S:=Y2) (P:=fun s=>Tr.K2 s.1=true) hX (fun i a x a' h=>by
  obtain ⟨q1,q2⟩:=D3o hX h
  exact ⟨q1,q2.less (by omega)⟩) k5.len h6
 have k7:=(B3z hX h7).2
 obtain ⟨n8,k8⟩:=A4i hX h8
 obtain ⟨n9,k9⟩:=B0s (S:=fun s=>P0++32::T6 s) (P:=fun s=>Tr.A2w (0,s)=true∧∀ q ∈ s.2.1,Nu.V7 q.2.2.1.2.1) hX (fun i a x a' h=>by
  obtain ⟨q1,q2,q3⟩:=D32 hX h
  refine ⟨⟨q1,q2⟩,q3.less ?_⟩
  simp only [List.length_append,List.length_cons,List.length_nil,P0]
  omega) k8.len h9
 obtain ⟨ys,e1,e2,e3⟩:=B9u hX hL (L.length+1) [] a9' ts' k9.len (by omega) ht
 rw [List.nil_append] at e1
 subst e1
 have hall:=((((((((k1.trans k2).trans k3).trans k4).trans k5).trans k6).trans k7).trans k8).trans k9).trans e3
 refine ⟨?_,⟨?_,?_,?_,?_⟩,?_⟩
 ·unfold Tr.V4 A0g
  simp only [Bool.and_eq_true,List.all_eq_true,List.mem_map]
  refine ⟨n1,n8,?_,n4,fun f hf=>⟨(n5 f hf).1,(n5 f hf).2.1⟩,n6,?_,?_⟩
  ·rintro _ ⟨d,hd,rfl⟩
   exact ⟨(n3 d hd).1,List.all_eq_true.1 (n3 d hd).2⟩
  ·rintro _ ⟨d,hd,rfl⟩
   exact (n9 d hd).1
  ·rintro _ ⟨d,hd,rfl⟩
   exact (e2 d hd).1
 ·exact fun f hf=>(n5 f hf).2.2
 ·intro s hs
  obtain ⟨d,hd,rfl⟩:=List.mem_map.1 hs
  exact (n9 d hd).2
 ·intro s hs
  obtain ⟨d,hd,rfl⟩:=List.mem_map.1 hs
  exact (e2 d hd).2.1
 ·intro s hs
  obtain ⟨d,hd,rfl⟩:=List.mem_map.1 hs
  exact ⟨5000,(e2 d hd).2.2⟩
 ·have hc:=hall.cost
  have hm:∀ {α β:Type} (S:β→List UInt8) (f:α→β) (l:List α),E2 S (l.map f)=E2 (fun x=>S (f x)) l:=fun S f l=>by
   unfold E2;rw [List.flatMap_map]
  have m1:E2 (fun d:Nat × Tr.De=>A07 d.2) (ds.map fun d=>((0:Nat),d))=E2 A07 ds:=hm _ _ _
  have m2:E2 (fun s:Nat × Tr.Sy=>P0++32::T6 s.2) (al.map fun s=>((0:Nat),s))=E2 (fun s=>P0++32::T6 s) al:=hm _ _ _
  have m3:E2 (fun t:(Nat × Nat × Nat) × Tr.Tn=>E7 t.2) (ts'.map fun t=>(((0:Nat),(0:Nat),(0:Nat)),A04 t))=E2 (fun y=>E7 (A04 y)) ts':=hm _ _ _
  unfold M3 A0g
  simp only [m1,m2,m3]
  generalize E2 A07 ds=u1 at *
  generalize E2 X8 qs=u2 at *
  generalize E2 A2g fs=u3 at *
  generalize E2 Y2 ss=u4 at *
  generalize E2 (fun s=>P0++32::T6 s) al=u5 at *
  generalize E2 (fun y=>E7 (A04 y)) ts'=u6 at *
  simp only [List.length_append,List.length_cons,List.length_nil,A0d,B1k,Y5]
  omega
end
theorem C67:∀ l:List UInt8,(l.take (G6 l)).all (fun c=>Sc.J0 c.toNat)=true
 | []=>rfl
 | c::r=>by
  rw [G6]
  split
  ·rename_i h
   rw [List.take_succ_cons,List.all_cons,C67 r,Bool.and_true];exact h
  ·rfl
theorem D5n {l:List UInt8} {k:Int} {t:List UInt8} {n:Nat} (h:H0 l=.ok (k,t,n)) (a b:Int):(k=1→Sc.C4 t=true∨t=[95])∧(k=4→t.length≤4096)∧A1n (k,t,a,b)≤n∧1≤A1n (k,t,a,b):=by
 unfold H0 at h
 split at h
 ·split at h
  ·cases h
  ·rename_i t' k' hc
   split at h
   ·cases h
   ·rename_i h4
    injection h with h
    simp only [Prod.mk.injEq] at h
    obtain ⟨rfl,rfl,rfl⟩:=h
    obtain ⟨_,c2,c3⟩:=Qu.C2b hc
    have hq:=congrArg List.length c3
    rw [List.length_take,Nat.min_eq_left c2] at hq
    have hf:=Qu.A5b t'
    have hl:(Qu.A1w t').length=(t'.flatMap fun c=>Qu.one c.toNat).length+2:=by unfold Qu.A1w;simp
    have hw:A1n (4,t',a,b)=t'.length+2:=rfl
    exact ⟨fun h=>(by cases h),fun _=>by omega,by omega,by omega⟩
 ·split at h
  ·split at h
   ·cases h
   ·rename_i hs
    injection h with h
    simp only [Prod.mk.injEq] at h
    obtain ⟨rfl,rfl,rfl⟩:=h
    have hw:A1n (5,J5 l,a,b)=(J5 l).length+0:=rfl
    have:=List.length_pos_iff.2 hs
    exact ⟨fun h=>(by cases h),fun h=>(by cases h),by omega,by omega⟩
  ·rename_i hl0
   split at h
   ·cases h
   ·rename_i k' t' hlt
    injection h with h
    simp only [Prod.mk.injEq] at h
    obtain ⟨rfl,rfl,rfl⟩:=h
    have hall:=C67 l
    have hlen:(l.take (G6 l)).length=G6 l:=by rw [List.length_take,Nat.min_eq_left (B3t l)]
    have key:∀ q:Int,q≠4→A1n (q,l.take (G6 l),a,b)=G6 l:=fun q hq=>by unfold A1n;rw [if_neg hq,hlen];rfl
    unfold D7 at hlt
    split at hlt
    ·split at hlt
     ·injection hlt with hlt
      simp only [Prod.mk.injEq] at hlt
      obtain ⟨rfl,rfl⟩:=hlt
      have:=key 3 (by decide)
      exact ⟨fun h=>(by cases h),fun h=>(by cases h),by omega,by omega⟩
     ·cases hlt
    ·rename_i hd
     split at hlt
     ·cases hlt
     ·rename_i h32
      split at hlt
      ·injection hlt with hlt
       simp only [Prod.mk.injEq] at hlt
       obtain ⟨rfl,rfl⟩:=hlt
       have:=key 2 (by decide)
       exact ⟨fun h=>(by cases h),fun h=>(by cases h),by omega,by omega⟩
      ·rename_i hw
       injection hlt with hlt
       simp only [Prod.mk.injEq] at hlt
       obtain ⟨rfl,rfl⟩:=hlt
       have:=key 1 (by decide)
       refine ⟨fun _=>?_,fun h=>(by cases h),by omega,by omega⟩
       by_cases h95:l.take (G6 l)=[95]
       ·exact .inr h95
       ·left
        unfold Sc.C4 Sc.spelt
        rw [hall,show Sc.A9m (l.take (G6 l))=false by simpa using hw,decide_eq_true (by omega:1≤(l.take (G6 l)).length),decide_eq_true (by omega:(l.take (G6 l)).length≤32),decide_eq_false h95]
        have:(decide (48≤(A7 (l.take (G6 l)) 0).toNat) && decide ((A7 (l.take (G6 l)) 0).toNat≤57))=false:=by
         unfold digB A4u at hd
         simp only [Bool.and_eq_true,decide_eq_true_eq,not_and] at hd
         rw [Bool.and_eq_false_iff]
         simp only [decide_eq_false_iff_not]
         omega
        rw [this];rfl
theorem D2a:∀ (k:Nat) (p:Int × Int) (l:List UInt8) (m:List Tok),A2i k p l=.ok m→(m.map A1n).sum≤l.length∧∀ t ∈ m,(t.1=1→Sc.C4 t.2.1=true∨t.2.1=[95])∧(t.1=4→t.2.1.length≤4096)∧1≤A1n t
 | 0,p,l,m=>fun h=>by cases h;exact ⟨Nat.zero_le _,fun _ h=>nomatch h⟩
 | k+1,p,l,m=>fun h=>by
  by_cases hl:l.drop (B3 l)=[]
  ·rw [A1c hl] at h;cases h;exact ⟨Nat.zero_le _,fun _ h=>nomatch h⟩
  ·rcases he:H0 (l.drop (B3 l)) with e'|⟨kd,t,z⟩
   ·rw [A31 hl he] at h;cases h
   ·rw [A28 hl he] at h
    have hb:=A0y he hl
    have hw:=fun a b=>D5n he a b
    rw [List.length_drop] at hb
    rcases hr:A2i k ((D5 p (l.take (B3 l))).1,(D5 p (l.take (B3 l))).2+z) ((l.drop (B3 l)).drop z) with ⟨e',a',b'⟩|m'
    ·rw [hr] at h;cases h
    ·rw [hr] at h
     have ih:=D2a k _ _ _ hr
     rw [List.length_drop,List.length_drop] at ih
     cases h
     have h0:=hw (D5 p (l.take (B3 l))).1 (D5 p (l.take (B3 l))).2
     refine ⟨?_,fun x hx=>?_⟩
     ·show (A1n _+(m'.map A1n).sum)≤_
      have:=h0.2.2.1
      have e:A1n (kd,t,D5 p (l.take (B3 l)))=A1n (kd,t,(D5 p (l.take (B3 l))).1,(D5 p (l.take (B3 l))).2):=rfl
      omega
     ·rcases List.mem_cons.1 hx with rfl|hx
      ·exact ⟨h0.1,h0.2.1,h0.2.2.2⟩
      ·exact ih.2 x hx
theorem D52 {S:List UInt8} {L:List Tok} (h:A03 S=.ok L):Z9 L∧U6 L L.length≤S.length:=by
 unfold A03 at h
 split at h
 ·cases h
 ·obtain ⟨h1,h2⟩:=D2a _ _ _ _ h
  have hm:∀ i,i < L.length→L.getD i noTok ∈ L:=fun i hi=>by rw [List.getD_eq_getElem?_getD,List.getElem?_eq_getElem hi];exact List.getElem_mem hi
  refine ⟨⟨fun i hi=>(h2 _ (hm i hi)).1,fun i hi=>(h2 _ (hm i hi)).2.1,fun i hi=>(h2 _ (hm i hi)).2.2⟩,?_⟩
  unfold U6
  rw [List.take_length]
  exact h1
theorem B0y {S:List UInt8} {hd:Head} {ts:List A05} (h:A1s S Z6=.ok (hd,ts)):Tr.V4 (A0g hd ts)=true∧C1v (A0g hd ts)∧(M3 (A0g hd ts)).length≤9 * S.length:=by
 unfold A1s at h
 split at h
 ·cases h
 ·rename_i L hL
  split at h
  ·cases h
  ·rename_i o ho
   injection h with h
   subst h
   obtain ⟨h1,h2⟩:=D52 hL
   have hlen:=C12 hL
   have hS:S.length≤65536:=by
    unfold A03 at hL
    split at hL
    ·cases hL
    ·omega
   obtain ⟨r1,r2,r3⟩:=D6o h1 (by omega) ho
   exact ⟨r1,r2,by omega⟩
theorem B61:∀ r:List (List UInt8),Lib.joinTail [10] r++[10]=10::r.flatMap A0d
 | []=>rfl
 | y::r=>by
  have ih:=B61 r
  show (([10]++y)++Lib.joinTail [10] r)++[10]=10::((y++[10])++r.flatMap A0d)
  rw [List.append_assoc,ih];simp
theorem C5o:∀ l:List (List UInt8),l≠[]→Lib.join l [10]++[10]=l.flatMap A0d
 | [],h=>absurd rfl h
 | x::r,_=>by
  rw [Lib.join_cons,List.append_assoc,B61]
  show _=(x++[10])++r.flatMap A0d
  simp
def A77 (x:Tr.Tr0):List (List UInt8) :=
 [B1k++32::x.1.1]++(x.2.1.map (fun d=>A07 d.2))++(x.2.2.1.map X8)++(x.2.2.2.1.map A2g)++(x.2.2.2.2.1.map Y2)++[Y5++32::x.2.2.2.2.2.1.1]++(x.2.2.2.2.2.2.1.map fun s=>P0++32::T6 s.2)++(x.2.2.2.2.2.2.2.map fun t=>E7 t.2)
theorem C2n {α:Type} (S:α→List UInt8):∀ l:List α,(l.map S).flatMap A0d=E2 S l
 | []=>rfl
 | x::l=>by show A0d (S x)++(l.map S).flatMap A0d=A0d (S x)++E2 S l;rw [C2n S l]
theorem D0h (x:Tr.Tr0):Lib.join (A77 x) [10]++[10]=M3 x:=by
 rw [C5o _ (by unfold A77;simp)]
 unfold A77 M3
 simp only [List.flatMap_append,C2n,List.append_assoc]
 have e:∀ y:List UInt8,[y].flatMap A0d=A0d y:=fun y=>by show A0d y++[]=_;rw [List.append_nil]
 rw [e,e]
def A4p (t:Tr.Tn):List (List UInt8) :=
 [t.1.1,wOn,T6 t.2.2.1]++(if 0≤t.2.2.2.2.1 then [wIf,(gx t.2.2.2.1 t.2.2.2.2.1).txt] else [])++(if t.2.2.2.2.2=[] then [] else [wDo,K9 (t.2.2.2.2.2.map (U7 t.2.2.2.1))])++[wTo,t.2.1.1]
theorem B63 (t:Tr.Tn):Lib.join (A4p t) [32]=E7 t:=by
 unfold A4p E7 ifS doS toS
 by_cases hg:0≤t.2.2.2.2.1<;>by_cases hs:t.2.2.2.2.2=[]
 ·rw [if_pos hg,if_pos hs,if_pos hg,if_pos hs,List.cons_append,List.cons_append,List.cons_append,List.cons_append,Lib.join_cons]
  simp [Lib.joinTail]
 ·rw [if_pos hg,if_neg hs,if_pos hg,if_neg hs,List.cons_append,List.cons_append,List.cons_append,List.cons_append,Lib.join_cons]
  simp [Lib.joinTail]
 ·rw [if_neg hg,if_pos hs,if_neg hg,if_pos hs,List.cons_append,List.cons_append,List.cons_append,List.cons_append,Lib.join_cons]
  simp [Lib.joinTail]
 ·rw [if_neg hg,if_neg hs,if_neg hg,if_neg hs,List.cons_append,List.cons_append,List.cons_append,List.cons_append,Lib.join_cons]
  simp [Lib.joinTail]
theorem A7p {B:Nat}:∀ l:List (List UInt8),(∀ x ∈ l,x.length≤B)→(K9 l).length≤l.length * (B+2)
 | [],_=>Nat.zero_le _
 | [x],h=>by
  have:=h x List.mem_cons_self
  show x.length≤1 * (B+2)
  omega
 | x::y::l,h=>by
  have ih:=A7p (y::l) fun z hz=>h z (List.mem_cons_of_mem _ hz)
  have:=h x List.mem_cons_self
  show (x++44::32::K9 (y::l)).length≤((y::l).length+1) * (B+2)
  rw [List.length_append,List.length_cons,List.length_cons,Nat.succ_mul]
  omega
theorem A32 {α:Type} {S:α→List UInt8} {B:Nat}:∀ l:List α,(∀ x ∈ l,(S x).length≤B)→(E2 S l).length≤l.length * (B+1)
 | [],_=>Nat.zero_le _
 | x::l,h=>by
  have ih:=A32 l fun z hz=>h z (List.mem_cons_of_mem _ hz)
  have:=h x List.mem_cons_self
  show ((S x++[10])++E2 S l).length≤(l.length+1) * (B+1)
  rw [List.length_append,List.length_append,List.length_singleton,Nat.succ_mul]
  omega
theorem B3u {α:Type} {S:α→List UInt8}:∀ {l:List α} {x:α},x ∈ l→(S x).length+1≤(E2 S l).length
 | y::l,x,h=>by
  show _≤((S y++[10])++E2 S l).length
  rw [List.length_append,List.length_append,List.length_singleton]
  rcases List.mem_cons.1 h with rfl|h
  ·omega
  ·have:=B3u (S:=S) h;omega
theorem B84:∀ {l:List (List UInt8)} {x:List UInt8},x ∈ l→x.length≤(K9 l).length
 | [y],x,h=>by rw [List.mem_singleton.1 h];exact Nat.le_refl _
 | y::z::l,x,h=>by
  show _≤(y++44::32::K9 (z::l)).length
  rw [List.length_append,List.length_cons,List.length_cons]
  rcases List.mem_cons.1 h with rfl|h
  ·omega
  ·have:=B84 h;omega
theorem B5l (k:Int):(Q0 k).length≤6:=by
 unfold Q0
 repeat' split
 all_goals decide
theorem D0c {x:Tr.Tr0} (h:D0u x) (hb:Tr.C5c x=true):(M3 x).length≤100000000:=by
 have nm:∀ {s:List UInt8},Sc.C4 s=true→s.length≤32:=fun hs=>(N7 hs).2.1
 have ki:=B5l
 simp only [Tr.C5c,Tr.C66,Bool.and_eq_true,decide_eq_true_eq,List.all_eq_true] at hb
 obtain ⟨⟨b1,b2,b3,b4,b5,b6⟩,b7,b8,b9,b10⟩:=hb
 have va:∀ {v:Tr.Vl},Tr.N8 v=true→Nu.V7 v.2.1→v.2.2.1.length≤100→(A5u v).length≤430:=fun hv hf hl=>B7f hv hf hl
 have ar:∀ {a:Tr.Ar},C4o a→Tr.arB a=true→(A23 a).length≤430:=fun {a} ha hl=>by
  have hl:=of_decide_eq_true hl
  unfold A23
  rcases ha with ⟨h1,_,h2,h3⟩|⟨h1,h2,_⟩|⟨h1,_⟩
  ·rw [if_pos h1];exact va h2 h3 (by omega)
  ·rw [if_neg (by omega),if_pos h1];have:=nm h2;omega
  ·rw [if_neg (by omega),if_neg (by omega)];decide
 have sy:∀ {s:Nat × Tr.Sy},B95 s.2→Tr.syB s=true→(T6 s.2).length≤6000:=fun {s} hs hb=>by
  unfold Tr.syB at hb
  simp only [Bool.and_eq_true,decide_eq_true_eq,List.all_eq_true] at hb
  have:=nm hs.1
  have:=A7p (B:=430) (s.2.2.1.map A23) fun z hz=>by
   obtain ⟨a,ha,rfl⟩:=List.mem_map.1 hz
   exact ar (hs.2 a ha) (hb.2 a ha)
  rw [List.length_map] at this
  have:s.2.2.1.length * (430+2)≤12 * 432:=Nat.mul_le_mul (by omega) (by omega)
  show (s.2.1++40::(K9 (s.2.2.1.map A23)++[41])).length≤_
  simp only [List.length_append,List.length_cons,List.length_nil]
  omega
 have l1:=A32 (S:=fun d:Nat × Tr.De=>A07 d.2) (B:=200) x.2.1 fun d hd=>by
  have:=nm (h.decls d hd).1
  have hd12:=of_decide_eq_true (b7 d hd)
  have:=A7p (B:=6) (d.2.2.map Q0) fun z hz=>by
   obtain ⟨a,ha,rfl⟩:=List.mem_map.1 hz
   exact ki a
  rw [List.length_map] at this
  show (A17++32::(d.2.1.1++40::(K9 (d.2.2.map Q0)++[41]))).length≤_
  simp only [List.length_append,List.length_cons,List.length_nil,A17]
  omega
 have l2:=A32 (S:=X8) (B:=200) x.2.2.1 fun q hq=>by
  have:=nm (h.quants q hq).1
  have:=ki q.2.2
  have:(if q.1=true then wForall else R6).length=6:=by split<;>rfl
  unfold X8
  simp only [List.length_append,List.length_cons]
  omega
 have l3:=A32 (S:=A2g) (B:=1000) x.2.2.2.1 fun f hf=>by
  obtain ⟨f1,f2,f3⟩:=h.frees f hf
  have:=nm f1
  have:=va f2 f3 (by have:=of_decide_eq_true (b8 f hf);omega)
  unfold A2g
  simp only [List.length_append,List.length_cons,List.length_nil,A21]
  omega
 have l4:=A32 (S:=Y2) (B:=200) x.2.2.2.2.1 fun s hs=>by
  have:=nm (h.states s hs)
  have:(if s.2.1=true then wNext else A1x).length=4:=by split<;>rfl
  have:(if s.2.2=true then 32::K7 else ([]:List UInt8)).length≤7:=by split<;>decide
  unfold Y2
  simp only [List.length_append,List.length_cons]
  omega
 have l5:=A32 (S:=fun s:Nat × Tr.Sy=>P0++32::T6 s.2) (B:=7000) x.2.2.2.2.2.2.1 fun s hs=>by
  have:=sy (h.also s hs) (b9 s hs)
  simp only [List.length_append,List.length_cons,List.length_nil,P0]
  omega
 have l6:=A32 (S:=fun t:(Nat × Nat × Nat) × Tr.Tn=>E7 t.2) (B:=1000000) x.2.2.2.2.2.2.2 fun t ht=>by
  obtain ⟨t1,t2,t3,⟨m,hm⟩,t5⟩:=h.trans t ht
  have hb:=b10 t ht
  unfold Tr.tnB at hb
  simp only [Bool.and_eq_true,decide_eq_true_eq,List.all_eq_true] at hb
  obtain ⟨c1,c2,c3,c4⟩:=hb
  have hl:P8 t.2.2.2.2.1 100:=⟨by decide,by decide,hm.len,fun e he=>⟨(hm.val e he).1,by have:=of_decide_eq_true (c4 e he);omega⟩⟩
  have tx:∀ {lo i},Whole t.2.2.2.2.1 lo i→(gx t.2.2.2.2.1 i).txt.length≤20000:=fun {lo i} hw=>by
   have hF:=A6s hl hw
   have:=hF.len
   have:=hF.fits
   obtain ⟨w1,w2,w3,w4⟩:=hw
   have:(ndN t.2.2.2.2.1 i.toNat).1.toNat * (4 * 100+40)≤40 * 440:=Nat.mul_le_mul (by omega) (by omega)
   omega
  have n1:=nm t1
  have n2:=nm t2
  have n3:=sy (s:=(t.1.1,t.2.2.2.1)) t3 c1
  have hs:∃ lo,A3p t.2.2.2.2.1 lo t.2.2.2.2.2.2:=t5.elim (fun h=>⟨_,h.2⟩) (fun h=>⟨_,h.2⟩)
  obtain ⟨lo,hs⟩:=hs
  have hj:=A7p (B:=20100) (t.2.2.2.2.2.2.map (U7 t.2.2.2.2.1)) fun z hz=>by
   obtain ⟨a,ha,rfl⟩:=List.mem_map.1 hz
   obtain ⟨e1,lo',e2⟩:=A5p hs a ha
   have:=nm e1
   have:=tx e2
   unfold U7
   simp only [List.length_append,List.length_cons]
   omega
  rw [List.length_map] at hj
  have:t.2.2.2.2.2.2.length * (20100+2)≤12 * 20102:=Nat.mul_le_mul (by omega) (by omega)
  have hto:(toS t.2).length≤36:=by
   show (32::(wTo++32::t.2.2.1.1)).length≤_
   simp only [List.length_append,List.length_cons,List.length_nil,wTo]
   omega
  have hdo:(doS t.2).length≤300000:=by
   unfold doS
   split
   ·omega
   ·simp only [List.length_append,List.length_cons,List.length_nil,wDo]
    omega
  have hif:(ifS t.2).length≤350000:=by
   unfold ifS
   split
   ·rename_i hg
    rcases t5 with h5|h5
    ·omega
    ·have:=tx h5.1
     simp only [List.length_append,List.length_cons,List.length_nil,wIf]
     omega
   ·omega
  show (t.2.1.1++32::(wOn++32::(T6 t.2.2.2.1++ifS t.2))).length≤_
  simp only [List.length_append,List.length_cons,List.length_nil,wOn]
  simp only at n3
  omega
 have m1:=nm h.name
 have m2:=nm h.start
 unfold M3
 simp only [List.length_append,List.length_cons,List.length_nil,A0d,B1k,Y5]
 have p1:x.2.1.length * (200+1)≤12 * 201:=Nat.mul_le_mul (by omega) (by omega)
 have p2:x.2.2.1.length * (200+1)≤12 * 201:=Nat.mul_le_mul (by omega) (by omega)
 have p3:x.2.2.2.1.length * (1000+1)≤12 * 1001:=Nat.mul_le_mul (by omega) (by omega)
 have p4:x.2.2.2.2.1.length * (200+1)≤12 * 201:=Nat.mul_le_mul (by omega) (by omega)
 have p5:x.2.2.2.2.2.2.1.length * (7000+1)≤12 * 7001:=Nat.mul_le_mul (by omega) (by omega)
 have p6:x.2.2.2.2.2.2.2.length * (1000000+1)≤12 * 1000001:=Nat.mul_le_mul (by omega) (by omega)
 omega
end Go.Proofs.YticnkpgmmpenlaaGreatDoor.Pr
namespace Go.Proofs.YticnkpgmmpenlaaGreatDoor.Jo
open Go Go.Ab Go.RowKit
variable {Γ:Nat→AV}
theorem B8w:∀ m:List (List UInt8),(B8 m).flatten=m.map AV.str
 | []=>rfl
 | x::m=>by
  have:=B8w m
  simp only [B8,List.map_cons,List.flatten_cons] at *
  rw [this];rfl
theorem A5q {G:Gh} {w:World}:∀ (m:List (List UInt8)) (us:List Value),B6 G w (m.map AV.str) us→us=m.map fun x=>Value.string ⟨x.toArray⟩
 | [],us,h=>A9.1 h
 | x::m,us,h=>by
  obtain ⟨u,us',rfl,h1,h2⟩:=A6.1 h
  rw [H9.1 h1,A5q m us' h2];rfl
theorem A6b (t:Nat) (m:List (List UInt8)) (sep:List UInt8) (hm:m.length≤140737488355328) (hl:(Lib.join m sep).length≤140737488355328) :
  A5 Tryz.prog Γ 38 [.slice t (B8 m),.str sep] fun v=>v=.str (Lib.join m sep):=by
 refine fun s=>A0.of_below fun G w vs hM hr=>?_
 obtain ⟨u,us,rfl,hu,hus⟩:=A6.1 hr
 obtain ⟨u1,us1,rfl,hu1,hus1⟩:=A6.1 hus
 rw [A9] at hus1;subst hus1
 rw [H9] at hu1;subst hu1
 obtain ⟨a,cap,rfl,hcap,_,hel,_⟩:=J7 hu
 rw [A14] at hcap ⊢
 refine ⟨_,fun G' w'=>H9.2 rfl,?_⟩
 cases m with
 | nil =>
  refine (Tryz.strings_Join_none a cap ⟨sep.toArray⟩ w).mono ?_
  rintro e w' ⟨rfl,rfl⟩
  exact ⟨by simp [Lib.join_nil],Below.refl _ _⟩
 | cons x m =>
  obtain ⟨b,o,k,rfl,hE⟩:=hel (by simp [B8])
  have hk:k=1:=(B34 _ hE [.str x] (by simp [B8])).symm
  subst hk
  obtain ⟨us,h1,h2,h3⟩:=Q9 _ hE
  rw [B8w] at h2
  have h4:=A5q _ _ h2
  subst h4
  have hb:b < w.heap.size:=by
   have hc:=h3 0 (.string ⟨x.toArray⟩) rfl
   exact (C6q hc).1
  have hj:=Tryz.strings_Join b o cap ((x::m).map fun x=>⟨x.toArray⟩) ⟨sep.toArray⟩ w (fun j y hy=>h3 j (.string y) (by
   rw [List.getElem?_map] at hy ⊢
   cases hx:(x::m)[j]? with
   | none=>rw [hx] at hy;cases hy
   | some z=>rw [hx] at hy;cases hy;rfl)) hb (by simpa using hm) (by simpa using hcap) (by simpa [Function.comp_def] using hl)
  simp only [List.map_map,List.length_map,Function.comp_def,List.map_id'] at hj
  exact hj
end Go.Proofs.YticnkpgmmpenlaaGreatDoor.Jo
namespace Go.Proofs.YticnkpgmmpenlaaGreatDoor.Pr
open Go Go.Ab Go.RowKit Go.Proofs.YticnkpgmmpenlaaGreatDoor.Lx Go.Proofs.YticnkpgmmpenlaaGreatDoor.Pa
variable {Γ:Nat→AV}
attribute [local irreducible] A5 Sto.set Sto.grow
theorem Z2 {α:Type} {f:α→List UInt8} (d:α) {l:List α} {i:Nat} (h:i < l.length):B8 ((l.take (i+1)).map f)=B8 ((l.take i).map f)++[[AV.str (f (l.getD i d))]]:=by
 rw [show l.take (i+1)=l.take i++[l.getD i d] by rw [List.take_add_one];simp [List.getD,h]]
 simp [B8]
theorem Y3 (m:List (List UInt8)):(B8 m).length=m.length:=by simp [B8]
theorem C5r (t:Nat) (l:List (Nat × Tr.De)) (hl:l.length≤100000) (S:Nat × Tr.De→List UInt8) (hS:∀ u ∈ l,A5 Tryz.prog Γ 23 [.agg (Tr.deA u)] fun v=>v=.str (S u)):A5 Tryz.prog Γ 22 [.slice t (l.map Tr.deA),.func (.func 23) [] []] fun v=>v=.slice 0 (B8 (l.map S)):=by
 refine A5.forget fun s=>?_
 have hml:(l.map Tr.deA).length=l.length:=List.length_map ..
 refine acs Tryz.func22 ?_
 refine wr ?_
 refine AWp.loopA [5,10] [11,12,13,7,14,15,16,17,18,19,20] (fun x:Nat × Nat=>[.slice x.2 (B8 ((l.take x.1).map S)),.int .i64 x.1]) (fun x s'=>x.1≤l.length∧Own s s' (x.1 == 0) x.2 9 1) (fun x=>l.length - x.1) ((0,1)) (by kernel_rfl) (eqa) ?_ ?_
 ·exact ⟨by simp,Own.nil _ _ _⟩
 ·rintro y ⟨i,t1⟩ s1 ⟨hi,ho⟩
  simp only at hi ho
  show awp _ _ _ _ _ (updL _ _ [.slice t1 (B8 ((l.take i).map S)),.int .i64 (i:Int)]) _
  conv=>whnf
  by_cases hlt:i < l.length
  ·have hga:=Tr.C1 (f:=Tr.deA) (l:=l) Tr.A4c hlt
   have htk:=Z2 (f:=S) Tr.A4c hlt
   have hSu:=hS _ (Tr.E4 Tr.A4c hlt)
   generalize l.getD i Tr.A4c=u at *
   simp only [Tr.deA] at hga hSu
   refine wr ?_
   intro c hc
   conv=>whnf
   have hc':=ho.sub.none hc
   refine wr ?_
   have ho2:=fun (T:TypeId) (a b:List AV)=>(ho.set (T:=T) (cs:=a) hc').set (T:=T) (cs:=b) hc'
   refine ⟨(ho2 _ _ _).may,fun c hc=>?_,all_cons ⟨rfl,rfl⟩ all_nil,?_,?_⟩
   ·obtain ⟨z,_,rfl⟩:=List.mem_map.1 hc;rfl
   ·show ((B8 ((l.take i).map S)).length+1) * (_+1)≤_
    rw [Y3,List.length_map,List.length_take,Nat.min_eq_left (by omega)]
    exact Nat.le_trans (Nat.mul_le_mul_right _ (show i+1≤100001 by omega)) (Nat.le_of_ble_eq_true (by kernel_rfl))
   intro t' k1 k2
   have k3:=(ho2 _ _ _).grow k1 k2
   refine wr ?_
   refine ⟨(i+1,t'),?_,B9,⟨by simp only;omega,?_⟩,by simp only;omega⟩
   ·refine B5 ?_ (B5 (show AV.int .i64 (IntKind.i64.wrap ((i:Int)+1))=.int .i64 ((i+1:Nat):Int) from D4 (by omega) (by omega) (by omega)) rfl)
    show AV.slice _ _=.slice _ (B8 ((l.take (i+1)).map S))
    rw [htk]<;>rfl
   ·have ez:∀ (z:Bool) (y:List AV),(z && [y].isEmpty)=false:=by intro z y;cases z<;>rfl
    have e2:(i+1 == 0)=false:=by simp
    show Own _ _ (i+1 == 0) t' _ _
    rw [ez] at k3
    rw [e2]
    exact k3
  ·have ht:l.take i=l:=List.take_of_length_le (by omega)
   refine wr ?_
   refine ⟨s1,Sub.refl _,⟨t1,?_⟩,ho.sub⟩
   rw [ht]
   rfl
theorem C5t (t:Nat) (l:List (Tr.Qu)) (hl:l.length≤100000) (S:Tr.Qu→List UInt8) (hS:∀ u ∈ l,A5 Tryz.prog Γ 26 [.agg (Tr.quA u)] fun v=>v=.str (S u)):A5 Tryz.prog Γ 25 [.slice t (l.map Tr.quA),.func (.func 26) [] []] fun v=>v=.slice 0 (B8 (l.map S)):=by
 refine A5.forget fun s=>?_
 have hml:(l.map Tr.quA).length=l.length:=List.length_map ..
 refine acs Tryz.func25 ?_
 refine wr ?_
 refine AWp.loopA [5,10] [11,12,13,7,14,15,16,17,18,19,20] (fun x:Nat × Nat=>[.slice x.2 (B8 ((l.take x.1).map S)),.int .i64 x.1]) (fun x s'=>x.1≤l.length∧Own s s' (x.1 == 0) x.2 9 1) (fun x=>l.length - x.1) ((0,1)) (by kernel_rfl) (eqa) ?_ ?_
 ·exact ⟨by simp,Own.nil _ _ _⟩
 ·rintro y ⟨i,t1⟩ s1 ⟨hi,ho⟩
  simp only at hi ho
  show awp _ _ _ _ _ (updL _ _ [.slice t1 (B8 ((l.take i).map S)),.int .i64 (i:Int)]) _
  conv=>whnf
  by_cases hlt:i < l.length
  ·have hga:=Tr.C1 (f:=Tr.quA) (l:=l) Tr.A5j hlt
   have htk:=Z2 (f:=S) Tr.A5j hlt
   have hSu:=hS _ (Tr.E4 Tr.A5j hlt)
   generalize l.getD i Tr.A5j=u at *
   simp only [Tr.quA] at hga hSu
   refine wr ?_
   intro c hc
   conv=>whnf
   have hc':=ho.sub.none hc
   refine wr ?_
   have ho2:=fun (T:TypeId) (a b:List AV)=>(ho.set (T:=T) (cs:=a) hc').set (T:=T) (cs:=b) hc'
   refine ⟨(ho2 _ _ _).may,fun c hc=>?_,all_cons ⟨rfl,rfl⟩ all_nil,?_,?_⟩
   ·obtain ⟨z,_,rfl⟩:=List.mem_map.1 hc;rfl
   ·show ((B8 ((l.take i).map S)).length+1) * (_+1)≤_
    rw [Y3,List.length_map,List.length_take,Nat.min_eq_left (by omega)]
    exact Nat.le_trans (Nat.mul_le_mul_right _ (show i+1≤100001 by omega)) (Nat.le_of_ble_eq_true (by kernel_rfl))
   intro t' k1 k2
   have k3:=(ho2 _ _ _).grow k1 k2
   refine wr ?_
   refine ⟨(i+1,t'),?_,B9,⟨by simp only;omega,?_⟩,by simp only;omega⟩
   ·refine B5 ?_ (B5 (show AV.int .i64 (IntKind.i64.wrap ((i:Int)+1))=.int .i64 ((i+1:Nat):Int) from D4 (by omega) (by omega) (by omega)) rfl)
    show AV.slice _ _=.slice _ (B8 ((l.take (i+1)).map S))
    rw [htk]<;>rfl
   ·have ez:∀ (z:Bool) (y:List AV),(z && [y].isEmpty)=false:=by intro z y;cases z<;>rfl
    have e2:(i+1 == 0)=false:=by simp
    show Own _ _ (i+1 == 0) t' _ _
    rw [ez] at k3
    rw [e2]
    exact k3
  ·have ht:l.take i=l:=List.take_of_length_le (by omega)
   refine wr ?_
   refine ⟨s1,Sub.refl _,⟨t1,?_⟩,ho.sub⟩
   rw [ht]
   rfl
theorem C5s (t:Nat) (l:List (Tr.Fr)) (hl:l.length≤100000) (S:Tr.Fr→List UInt8) (hS:∀ u ∈ l,A5 Tryz.prog Γ 30 [.agg (Tr.frA u)] fun v=>v=.str (S u)):A5 Tryz.prog Γ 29 [.slice t (l.map Tr.frA),.func (.func 30) [] []] fun v=>v=.slice 0 (B8 (l.map S)):=by
 refine A5.forget fun s=>?_
 have hml:(l.map Tr.frA).length=l.length:=List.length_map ..
 refine acs Tryz.func29 ?_
 refine wr ?_
 refine AWp.loopA [5,10] [11,12,13,7,14,15,16,17,18,19,20] (fun x:Nat × Nat=>[.slice x.2 (B8 ((l.take x.1).map S)),.int .i64 x.1]) (fun x s'=>x.1≤l.length∧Own s s' (x.1 == 0) x.2 9 1) (fun x=>l.length - x.1) ((0,1)) (by kernel_rfl) (eqa) ?_ ?_
 ·exact ⟨by simp,Own.nil _ _ _⟩
 ·rintro y ⟨i,t1⟩ s1 ⟨hi,ho⟩
  simp only at hi ho
  show awp _ _ _ _ _ (updL _ _ [.slice t1 (B8 ((l.take i).map S)),.int .i64 (i:Int)]) _
  conv=>whnf
  by_cases hlt:i < l.length
  ·have hga:=Tr.C1 (f:=Tr.frA) (l:=l) Tr.A5i hlt
   have htk:=Z2 (f:=S) Tr.A5i hlt
   have hSu:=hS _ (Tr.E4 Tr.A5i hlt)
   generalize l.getD i Tr.A5i=u at *
   simp only [Tr.frA] at hga hSu
   refine wr ?_
   intro c hc
   conv=>whnf
   have hc':=ho.sub.none hc
   refine wr ?_
   have ho2:=fun (T:TypeId) (a b:List AV)=>(ho.set (T:=T) (cs:=a) hc').set (T:=T) (cs:=b) hc'
   refine ⟨(ho2 _ _ _).may,fun c hc=>?_,all_cons ⟨rfl,rfl⟩ all_nil,?_,?_⟩
   ·obtain ⟨z,_,rfl⟩:=List.mem_map.1 hc;rfl
   ·show ((B8 ((l.take i).map S)).length+1) * (_+1)≤_
    rw [Y3,List.length_map,List.length_take,Nat.min_eq_left (by omega)]
    exact Nat.le_trans (Nat.mul_le_mul_right _ (show i+1≤100001 by omega)) (Nat.le_of_ble_eq_true (by kernel_rfl))
   intro t' k1 k2
   have k3:=(ho2 _ _ _).grow k1 k2
   refine wr ?_
   refine ⟨(i+1,t'),?_,B9,⟨by simp only;omega,?_⟩,by simp only;omega⟩
   ·refine B5 ?_ (B5 (show AV.int .i64 (IntKind.i64.wrap ((i:Int)+1))=.int .i64 ((i+1:Nat):Int) from D4 (by omega) (by omega) (by omega)) rfl)
    show AV.slice _ _=.slice _ (B8 ((l.take (i+1)).map S))
    rw [htk]<;>rfl
   ·have ez:∀ (z:Bool) (y:List AV),(z && [y].isEmpty)=false:=by intro z y;cases z<;>rfl
    have e2:(i+1 == 0)=false:=by simp
    show Own _ _ (i+1 == 0) t' _ _
    rw [ez] at k3
    rw [e2]
    exact k3
  ·have ht:l.take i=l:=List.take_of_length_le (by omega)
   refine wr ?_
   refine ⟨s1,Sub.refl _,⟨t1,?_⟩,ho.sub⟩
   rw [ht]
   rfl
theorem C5u (t:Nat) (l:List (Tr.St)) (hl:l.length≤100000) (S:Tr.St→List UInt8) (hS:∀ u ∈ l,A5 Tryz.prog Γ 33 [.agg (Tr.stA u)] fun v=>v=.str (S u)):A5 Tryz.prog Γ 32 [.slice t (l.map Tr.stA),.func (.func 33) [] []] fun v=>v=.slice 0 (B8 (l.map S)):=by
 refine A5.forget fun s=>?_
 have hml:(l.map Tr.stA).length=l.length:=List.length_map ..
 refine acs Tryz.func32 ?_
 refine wr ?_
 refine AWp.loopA [5,10] [11,12,13,7,14,15,16,17,18,19,20] (fun x:Nat × Nat=>[.slice x.2 (B8 ((l.take x.1).map S)),.int .i64 x.1]) (fun x s'=>x.1≤l.length∧Own s s' (x.1 == 0) x.2 9 1) (fun x=>l.length - x.1) ((0,1)) (by kernel_rfl) (eqa) ?_ ?_
 ·exact ⟨by simp,Own.nil _ _ _⟩
 ·rintro y ⟨i,t1⟩ s1 ⟨hi,ho⟩
  simp only at hi ho
  show awp _ _ _ _ _ (updL _ _ [.slice t1 (B8 ((l.take i).map S)),.int .i64 (i:Int)]) _
  conv=>whnf
  by_cases hlt:i < l.length
  ·have hga:=Tr.C1 (f:=Tr.stA) (l:=l) Tr.A5k hlt
   have htk:=Z2 (f:=S) Tr.A5k hlt
   have hSu:=hS _ (Tr.E4 Tr.A5k hlt)
   generalize l.getD i Tr.A5k=u at *
   simp only [Tr.stA] at hga hSu
   refine wr ?_
   intro c hc
   conv=>whnf
   have hc':=ho.sub.none hc
   refine wr ?_
   have ho2:=fun (T:TypeId) (a b:List AV)=>(ho.set (T:=T) (cs:=a) hc').set (T:=T) (cs:=b) hc'
   refine ⟨(ho2 _ _ _).may,fun c hc=>?_,all_cons ⟨rfl,rfl⟩ all_nil,?_,?_⟩
   ·obtain ⟨z,_,rfl⟩:=List.mem_map.1 hc;rfl
   ·show ((B8 ((l.take i).map S)).length+1) * (_+1)≤_
    rw [Y3,List.length_map,List.length_take,Nat.min_eq_left (by omega)]
    exact Nat.le_trans (Nat.mul_le_mul_right _ (show i+1≤100001 by omega)) (Nat.le_of_ble_eq_true (by kernel_rfl))
   intro t' k1 k2
   have k3:=(ho2 _ _ _).grow k1 k2
   refine wr ?_
   refine ⟨(i+1,t'),?_,B9,⟨by simp only;omega,?_⟩,by simp only;omega⟩
   ·refine B5 ?_ (B5 (show AV.int .i64 (IntKind.i64.wrap ((i:Int)+1))=.int .i64 ((i+1:Nat):Int) from D4 (by omega) (by omega) (by omega)) rfl)
    show AV.slice _ _=.slice _ (B8 ((l.take (i+1)).map S))
    rw [htk]<;>rfl
   ·have ez:∀ (z:Bool) (y:List AV),(z && [y].isEmpty)=false:=by intro z y;cases z<;>rfl
    have e2:(i+1 == 0)=false:=by simp
    show Own _ _ (i+1 == 0) t' _ _
    rw [ez] at k3
    rw [e2]
    exact k3
  ·have ht:l.take i=l:=List.take_of_length_le (by omega)
   refine wr ?_
   refine ⟨s1,Sub.refl _,⟨t1,?_⟩,ho.sub⟩
   rw [ht]
   rfl
theorem C5v (t:Nat) (l:List (Nat × Tr.Sy)) (hl:l.length≤100000) (S:Nat × Tr.Sy→List UInt8) (hS:∀ u ∈ l,A5 Tryz.prog Γ 35 [.agg (Tr.syA u)] fun v=>v=.str (S u)):A5 Tryz.prog Γ 34 [.slice t (l.map Tr.syA),.func (.func 35) [] []] fun v=>v=.slice 0 (B8 (l.map S)):=by
 refine A5.forget fun s=>?_
 have hml:(l.map Tr.syA).length=l.length:=List.length_map ..
 refine acs Tryz.func34 ?_
 refine wr ?_
 refine AWp.loopA [5,10] [11,12,13,7,14,15,16,17,18,19,20] (fun x:Nat × Nat=>[.slice x.2 (B8 ((l.take x.1).map S)),.int .i64 x.1]) (fun x s'=>x.1≤l.length∧Own s s' (x.1 == 0) x.2 9 1) (fun x=>l.length - x.1) ((0,1)) (by kernel_rfl) (eqa) ?_ ?_
 ·exact ⟨by simp,Own.nil _ _ _⟩
 ·rintro y ⟨i,t1⟩ s1 ⟨hi,ho⟩
  simp only at hi ho
  show awp _ _ _ _ _ (updL _ _ [.slice t1 (B8 ((l.take i).map S)),.int .i64 (i:Int)]) _
  conv=>whnf
  by_cases hlt:i < l.length
  ·have hga:=Tr.C1 (f:=Tr.syA) (l:=l) Tr.A34 hlt
   have htk:=Z2 (f:=S) Tr.A34 hlt
   have hSu:=hS _ (Tr.E4 Tr.A34 hlt)
   generalize l.getD i Tr.A34=u at *
   simp only [Tr.syA] at hga hSu
   refine wr ?_
   intro c hc
   conv=>whnf
   have hc':=ho.sub.none hc
   refine wr ?_
   have ho2:=fun (T:TypeId) (a b:List AV)=>(ho.set (T:=T) (cs:=a) hc').set (T:=T) (cs:=b) hc'
   refine ⟨(ho2 _ _ _).may,fun c hc=>?_,all_cons ⟨rfl,rfl⟩ all_nil,?_,?_⟩
   ·obtain ⟨z,_,rfl⟩:=List.mem_map.1 hc;rfl
   ·show ((B8 ((l.take i).map S)).length+1) * (_+1)≤_
    rw [Y3,List.length_map,List.length_take,Nat.min_eq_left (by omega)]
    exact Nat.le_trans (Nat.mul_le_mul_right _ (show i+1≤100001 by omega)) (Nat.le_of_ble_eq_true (by kernel_rfl))
   intro t' k1 k2
   have k3:=(ho2 _ _ _).grow k1 k2
   refine wr ?_
   refine ⟨(i+1,t'),?_,B9,⟨by simp only;omega,?_⟩,by simp only;omega⟩
   ·refine B5 ?_ (B5 (show AV.int .i64 (IntKind.i64.wrap ((i:Int)+1))=.int .i64 ((i+1:Nat):Int) from D4 (by omega) (by omega) (by omega)) rfl)
    show AV.slice _ _=.slice _ (B8 ((l.take (i+1)).map S))
    rw [htk]<;>rfl
   ·have ez:∀ (z:Bool) (y:List AV),(z && [y].isEmpty)=false:=by intro z y;cases z<;>rfl
    have e2:(i+1 == 0)=false:=by simp
    show Own _ _ (i+1 == 0) t' _ _
    rw [ez] at k3
    rw [e2]
    exact k3
  ·have ht:l.take i=l:=List.take_of_length_le (by omega)
   refine wr ?_
   refine ⟨s1,Sub.refl _,⟨t1,?_⟩,ho.sub⟩
   rw [ht]
   rfl
theorem C5w (t:Nat) (l:List ((Nat × Nat × Nat) × Tr.Tn)) (hl:l.length≤100000) (S:(Nat × Nat × Nat) × Tr.Tn→List UInt8) (hS:∀ u ∈ l,A5 Tryz.prog Γ 37 [.agg (Tr.tnA u)] fun v=>v=.str (S u)):A5 Tryz.prog Γ 36 [.slice t (l.map Tr.tnA),.func (.func 37) [] []] fun v=>v=.slice 0 (B8 (l.map S)):=by
 refine A5.forget fun s=>?_
 have hml:(l.map Tr.tnA).length=l.length:=List.length_map ..
 refine acs Tryz.func36 ?_
 refine wr ?_
 refine AWp.loopA [5,10] [11,12,13,7,14,15,16,17,18,19,20] (fun x:Nat × Nat=>[.slice x.2 (B8 ((l.take x.1).map S)),.int .i64 x.1]) (fun x s'=>x.1≤l.length∧Own s s' (x.1 == 0) x.2 9 1) (fun x=>l.length - x.1) ((0,1)) (by kernel_rfl) (eqa) ?_ ?_
 ·exact ⟨by simp,Own.nil _ _ _⟩
 ·rintro y ⟨i,t1⟩ s1 ⟨hi,ho⟩
  simp only at hi ho
  show awp _ _ _ _ _ (updL _ _ [.slice t1 (B8 ((l.take i).map S)),.int .i64 (i:Int)]) _
  conv=>whnf
  by_cases hlt:i < l.length
  ·have hga:=Tr.C1 (f:=Tr.tnA) (l:=l) Tr.A0q hlt
   have htk:=Z2 (f:=S) Tr.A0q hlt
   have hSu:=hS _ (Tr.E4 Tr.A0q hlt)
   generalize l.getD i Tr.A0q=u at *
   simp only [Tr.tnA] at hga hSu
   refine wr ?_
   intro c hc
   conv=>whnf
   have hc':=ho.sub.none hc
   refine wr ?_
   have ho2:=fun (T:TypeId) (a b:List AV)=>(ho.set (T:=T) (cs:=a) hc').set (T:=T) (cs:=b) hc'
   refine ⟨(ho2 _ _ _).may,fun c hc=>?_,all_cons ⟨rfl,rfl⟩ all_nil,?_,?_⟩
   ·obtain ⟨z,_,rfl⟩:=List.mem_map.1 hc;rfl
   ·show ((B8 ((l.take i).map S)).length+1) * (_+1)≤_
    rw [Y3,List.length_map,List.length_take,Nat.min_eq_left (by omega)]
    exact Nat.le_trans (Nat.mul_le_mul_right _ (show i+1≤100001 by omega)) (Nat.le_of_ble_eq_true (by kernel_rfl))
   intro t' k1 k2
   have k3:=(ho2 _ _ _).grow k1 k2
   refine wr ?_
   refine ⟨(i+1,t'),?_,B9,⟨by simp only;omega,?_⟩,by simp only;omega⟩
   ·refine B5 ?_ (B5 (show AV.int .i64 (IntKind.i64.wrap ((i:Int)+1))=.int .i64 ((i+1:Nat):Int) from D4 (by omega) (by omega) (by omega)) rfl)
    show AV.slice _ _=.slice _ (B8 ((l.take (i+1)).map S))
    rw [htk]<;>rfl
   ·have ez:∀ (z:Bool) (y:List AV),(z && [y].isEmpty)=false:=by intro z y;cases z<;>rfl
    have e2:(i+1 == 0)=false:=by simp
    show Own _ _ (i+1 == 0) t' _ _
    rw [ez] at k3
    rw [e2]
    exact k3
  ·have ht:l.take i=l:=List.take_of_length_le (by omega)
   refine wr ?_
   refine ⟨s1,Sub.refl _,⟨t1,?_⟩,ho.sub⟩
   rw [ht]
   rfl
end Go.Proofs.YticnkpgmmpenlaaGreatDoor.Pr
namespace Go.Proofs.YticnkpgmmpenlaaGreatDoor.Tr
open Go Go.Ab Go.RowKit
variable {Γ:Nat→AV}
attribute [local irreducible] A5 Sto.set Sto.grow
theorem B01 (k:Int):A5 Tryz.prog Γ 28 [.int .i64 k] fun v=>v=.str (if k=1 then [105,110,116] else if k=2 then [115,116,114,105,110,103] else if k=3 then [98,111,111,108] else []):=by
 refine aps Tryz.func28 ?_
 intro s
 conv=>whnf
 repeat' ((first|(refine brS (fun h=>?_) (fun h=>?_)<;>(try rw [h])<;>(try simp only [bS,↓reduceIte] at h))|refine gS ?_|refine aA ?_|refine nA ?_|fail)<;>(conv=>whnf))
 all_goals simp [A3e, *]
theorem A4k (k:Int):A5 Tryz.prog Γ 78 [.int .i64 k] fun v=>v=.bool (U0 k):=by
 refine aps Tryz.func78 ?_
 intro s
 refine wr ?_;(first|(refine A0.pure' ?_ (B01 _);rintro _ rfl)|refine A8.pure ?_ (B01 _));refine wr ?_
 all_goals refine B2 ?_
 all_goals grind [U0]
theorem E6 (hT:Sc.Wds Γ) (x:Idn):A5 Tryz.prog Γ 74 [.agg (W8 x)] fun v=>v=.bool (K2 x):=by
 refine aps Tryz.func74 ?_
 intro s
 conv=>whnf
 intro b hb
 refine wr ?_;(first|(refine A0.pure' ?_ (Sc.P2 hT _);rintro _ rfl)|refine A8.pure ?_ (Sc.P2 hT _));refine wr ?_
 exact ⟨(Sub.refl _).set hb _ _,rfl⟩
def kA (k:Int):List AV:=[.int .i64 k]
def A4g (d:Nat × De):Bool:=K2 d.2.1 && d.2.2.all U0
def A0t (q:Qu):Bool:=K2 q.2.1 && U0 q.2.2
def A20 (f:Fr):Bool:=K2 f.1 && N8 f.2
def Y0 (s:St):Bool:=K2 s.1
theorem B6g (hT:Sc.Wds Γ) (x:Ar):A5 Tryz.prog Γ 137 [.agg (arA x)] fun v=>v=.bool (A8y x):=by
 have hev:=C6v x.2.2.1 R3
 refine aps Tryz.func137 ?_
 intro s
 conv=>whnf
 intro b hb
 conv=>whnf
 repeat' ((first|exact pru|(refine brS (fun h=>?_) (fun h=>?_)<;>(try rw [h])<;>(try simp only [bS,↓reduceIte] at h))|(refine A4 A1 ?_)|(refine A0.pure' ?_ (A3k x.2.2.1);rintro _ rfl)|refine A8.pure ?_ (A3k x.2.2.1)|(refine M5.of B48 A9s ?_)|(refine A0.pure' ?_ (Sc.P2 hT _);rintro _ rfl)|refine A8.pure ?_ (Sc.P2 hT _)|refine gS ?_|refine aA ?_|refine nA ?_|fail)<;>(conv=>whnf))
 all_goals refine ⟨(Sub.refl _).set hb _ _,B2 ?_⟩
 all_goals (unfold A8y;rw [← hev])
 all_goals grind [R3]
theorem C83 {s:Sto} {b:Nat} {T0:TypeId} (u:Int) (hb:s.bx b=some (T0,[.func (.func 78) [] []])):A0 Tryz.prog Γ 124 [.int .i64 u,.ptr (some ⟨b,0,none⟩)] s fun v s'=>v=.bool (!U0 u)∧s'=s:=by
 refine acs Tryz.func124 ?_
 refine wr ?_;(first|(refine A0.pure' ?_ (A4k u);rintro _ rfl)|refine A8.pure ?_ (A4k u));refine wr ?_
 exact ⟨_,Sub.refl _,rfl,rfl⟩
theorem C0v {s:Sto} {b:Nat} {T0:TypeId} (t:Nat) (l:List (Int)) (hl:l.length≤100000) (hb:s.bx b=some (T0,[.func (.func 78) [] []])) :
  A0 Tryz.prog Γ 199 [.slice t (l.map kA),.func (.func 124) [] [.ptr (some ⟨b,0,none⟩)]] s fun v s'=>∃ r:Int,v=.int .i64 r∧decide (r ≥ 0) = !l.all U0∧s'=s:=by
 have hml:(l.map kA).length=l.length:=List.length_map ..
 refine acs Tryz.func199 ?_
 conv=>whnf
 refine AWp.loopA [8] [9,10,5,11,12,13,14,15,16,17,4,18] (fun i:Nat=>[.int .i64 i]) (fun i s'=>i≤l.length∧s'=s∧l.all U0=(l.drop i).all U0) (fun i=>l.length - i) (0) (by kernel_rfl) (eqa) ?_ ?_
 ·exact ⟨by omega,rfl,by simp⟩
 ·rintro y i _ ⟨hi,rfl,hp⟩
  conv=>whnf
  have hga:=fun h:i < l.length=>C1 (f:=kA) (l:=l) 0 h
  have hd:=fun h:i < l.length=>P9 (p:=U0) 0 h
  generalize l.getD i 0=u at *
  repeat' ((first|(refine brS (fun h=>?_) (fun h=>?_)<;>(try rw [h])<;>(try simp only [bS,↓reduceIte] at h))|(rw [show (l.map kA).getD ((i:Int)).toNat []=_ from hga (by omega)])|(refine A0.by (C83 u hb) ?_;rintro _ _ ⟨rfl,rfl⟩)|refine gS ?_|refine aA ?_|refine nA ?_|fail)<;>(conv=>whnf))
  ·refine ⟨_,Sub.refl _,i,rfl,?_,rfl⟩
   rw [hp,hd (by omega),h,decide_eq_true (by omega)];rfl
  ·refine ⟨i+1,eqa,B9,⟨by omega,rfl,?_⟩,by omega⟩
   rw [hp,hd (by omega),h,Bool.true_and]
  ·refine ⟨_,Sub.refl _,-1,rfl,?_,rfl⟩
   rw [hp,C6 (by omega)];rfl
theorem B3h {s:Sto} {b:Nat} {T0:TypeId} (t:Nat) (l:List (Int)) (hl:l.length≤100000) (hb:s.bx b=some (T0,[.func (.func 78) [] []])) :
  A0 Tryz.prog Γ 123 [.slice t (l.map kA),.func (.func 124) [] [.ptr (some ⟨b,0,none⟩)]] s fun v s'=>v=.bool (!l.all U0)∧s'=s:=by
 refine acs Tryz.func123 ?_
 refine wr ?_;(refine A0.by (C0v t l hl hb) ?_;rintro _ _ ⟨r,rfl,hr,rfl⟩);refine wr ?_
 exact ⟨_,Sub.refl _,B2 hr,rfl⟩
theorem B4i (t:Nat) (l:List (Int)) (hl:l.length≤100000):A5 Tryz.prog Γ 77 [.slice t (l.map kA),.func (.func 78) [] []] fun v=>v=.bool (l.all U0):=by
 refine aps Tryz.func77 ?_
 intro s
 conv=>whnf
 intro b hb
 refine wr ?_;(refine A0.by (B3h t l hl A1) ?_;rintro _ _ ⟨rfl,rfl⟩);refine wr ?_
 exact ⟨(Sub.refl _).set hb _ _,B2 (by simp)⟩
theorem D1o (hT:Sc.Wds Γ) {s:Sto} {b:Nat} {T0:TypeId} (u:Ar) (hb:s.bx b=some (T0,[.func (.func 137) [] []])):A0 Tryz.prog Γ 205 [.agg (arA u),.ptr (some ⟨b,0,none⟩)] s fun v s'=>v=.bool (!A8y u)∧s'=s:=by
 refine acs Tryz.func205 ?_
 conv=>whnf
 intro c hc
 conv=>whnf
 have hn:=A3 hb hc
 repeat' ((first|(refine brS (fun h=>?_) (fun h=>?_)<;>(try rw [h])<;>(try simp only [bS,↓reduceIte] at h))|(refine L7 hn (A4 hb ?_))|(refine A4 A1 ?_)|(refine A0.pure' ?_ (B6g hT u);rintro _ rfl)|refine A8.pure ?_ (B6g hT u)|refine gS ?_|refine aA ?_|refine nA ?_|fail)<;>(conv=>whnf))
 exact ⟨_,(Sub.refl _).set hc _ _,rfl,rfl⟩
theorem C2u (hT:Sc.Wds Γ) {s:Sto} {b:Nat} {T0:TypeId} (t:Nat) (l:List (Ar)) (hl:l.length≤100000) (hb:s.bx b=some (T0,[.func (.func 137) [] []])) :
  A0 Tryz.prog Γ 240 [.slice t (l.map arA),.func (.func 205) [] [.ptr (some ⟨b,0,none⟩)]] s fun v s'=>∃ r:Int,v=.int .i64 r∧decide (r ≥ 0) = !l.all A8y∧s'=s:=by
 have hml:(l.map arA).length=l.length:=List.length_map ..
 refine acs Tryz.func240 ?_
 conv=>whnf
 refine AWp.loopA [8] [9,10,5,11,12,13,14,15,16,17,4,18] (fun i:Nat=>[.int .i64 i]) (fun i s'=>i≤l.length∧s'=s∧l.all A8y=(l.drop i).all A8y) (fun i=>l.length - i) (0) (by kernel_rfl) (eqa) ?_ ?_
 ·exact ⟨by omega,rfl,by simp⟩
 ·rintro y i _ ⟨hi,rfl,hp⟩
  conv=>whnf
  have hga:=fun h:i < l.length=>C1 (f:=arA) (l:=l) A7t h
  have hd:=fun h:i < l.length=>P9 (p:=A8y) A7t h
  generalize l.getD i A7t=u at *
  repeat' ((first|(refine brS (fun h=>?_) (fun h=>?_)<;>(try rw [h])<;>(try simp only [bS,↓reduceIte] at h))|(rw [show (l.map arA).getD ((i:Int)).toNat []=_ from hga (by omega)])|(refine A0.by (D1o hT u hb) ?_;rintro _ _ ⟨rfl,rfl⟩)|refine gS ?_|refine aA ?_|refine nA ?_|fail)<;>(conv=>whnf))
  ·refine ⟨_,Sub.refl _,i,rfl,?_,rfl⟩
   rw [hp,hd (by omega),h,decide_eq_true (by omega)];rfl
  ·refine ⟨i+1,eqa,B9,⟨by omega,rfl,?_⟩,by omega⟩
   rw [hp,hd (by omega),h,Bool.true_and]
  ·refine ⟨_,Sub.refl _,-1,rfl,?_,rfl⟩
   rw [hp,C6 (by omega)];rfl
theorem B4v (hT:Sc.Wds Γ) {s:Sto} {b:Nat} {T0:TypeId} (t:Nat) (l:List (Ar)) (hl:l.length≤100000) (hb:s.bx b=some (T0,[.func (.func 137) [] []])) :
  A0 Tryz.prog Γ 204 [.slice t (l.map arA),.func (.func 205) [] [.ptr (some ⟨b,0,none⟩)]] s fun v s'=>v=.bool (!l.all A8y)∧s'=s:=by
 refine acs Tryz.func204 ?_
 refine wr ?_;(refine A0.by (C2u hT t l hl hb) ?_;rintro _ _ ⟨r,rfl,hr,rfl⟩);refine wr ?_
 exact ⟨_,Sub.refl _,B2 hr,rfl⟩
theorem B75 (hT:Sc.Wds Γ) (t:Nat) (l:List (Ar)) (hl:l.length≤100000):A5 Tryz.prog Γ 136 [.slice t (l.map arA),.func (.func 137) [] []] fun v=>v=.bool (l.all A8y):=by
 refine aps Tryz.func136 ?_
 intro s
 conv=>whnf
 intro b hb
 refine wr ?_;(refine A0.by (B4v hT t l hl A1) ?_;rintro _ _ ⟨rfl,rfl⟩);refine wr ?_
 exact ⟨(Sub.refl _).set hb _ _,B2 (by simp)⟩
theorem A6k (hT:Sc.Wds Γ) (u:Nat × Sy) (hu:u.2.2.1.length≤100000):A5 Tryz.prog Γ 87 [.agg (syA u)] fun v=>v=.bool (A2w u):=by
 refine aps Tryz.func87 ?_
 intro s
 conv=>whnf
 intro b hb
 conv=>whnf
 repeat' ((first|(refine brS (fun h=>?_) (fun h=>?_)<;>(try rw [h])<;>(try simp only [bS,↓reduceIte] at h))|(refine A4 A1 ?_)|(refine A0.pure' ?_ (Sc.P2 hT _);rintro _ rfl)|refine A8.pure ?_ (Sc.P2 hT _)|(refine A0.pure' ?_ (B75 hT _ _ hu);rintro _ rfl)|refine A8.pure ?_ (B75 hT _ _ hu)|refine gS ?_|refine aA ?_|refine nA ?_|fail)<;>(conv=>whnf))
 all_goals refine ⟨(Sub.refl _).set hb _ _,B2 ?_⟩
 all_goals simp [A2w, *]
theorem D1q (hT:Sc.Wds Γ) {s:Sto} {b:Nat} {T0:TypeId} (u:Nat × Sy) (hu:u.2.2.1.length≤100000) (hb:s.bx b=some (T0,[.func (.func 87) [] []])):A0 Tryz.prog Γ 135 [.agg (syA u),.ptr (some ⟨b,0,none⟩)] s fun v s'=>v=.bool (!A2w u)∧s'=s:=by
 refine acs Tryz.func135 ?_
 conv=>whnf
 intro c hc
 conv=>whnf
 have hn:=A3 hb hc
 repeat' ((first|(refine brS (fun h=>?_) (fun h=>?_)<;>(try rw [h])<;>(try simp only [bS,↓reduceIte] at h))|(refine L7 hn (A4 hb ?_))|(refine A4 A1 ?_)|(refine A0.pure' ?_ (A6k hT u hu);rintro _ rfl)|refine A8.pure ?_ (A6k hT u hu)|refine gS ?_|refine aA ?_|refine nA ?_|fail)<;>(conv=>whnf))
 exact ⟨_,(Sub.refl _).set hc _ _,rfl,rfl⟩
theorem C2w (hT:Sc.Wds Γ) {s:Sto} {b:Nat} {T0:TypeId} (t:Nat) (l:List (Nat × Sy)) (hl:l.length≤100000) (hm:∀ x ∈ l,x.2.2.1.length≤100000) (hb:s.bx b=some (T0,[.func (.func 87) [] []])) :
  A0 Tryz.prog Γ 203 [.slice t (l.map syA),.func (.func 135) [] [.ptr (some ⟨b,0,none⟩)]] s fun v s'=>∃ r:Int,v=.int .i64 r∧decide (r ≥ 0) = !l.all A2w∧s'=s:=by
 have hml:(l.map syA).length=l.length:=List.length_map ..
 refine acs Tryz.func203 ?_
 conv=>whnf
 refine AWp.loopA [8] [9,10,5,11,12,13,14,15,16,17,4,18] (fun i:Nat=>[.int .i64 i]) (fun i s'=>i≤l.length∧s'=s∧l.all A2w=(l.drop i).all A2w) (fun i=>l.length - i) (0) (by kernel_rfl) (eqa) ?_ ?_
 ·exact ⟨by omega,rfl,by simp⟩
 ·rintro y i _ ⟨hi,rfl,hp⟩
  conv=>whnf
  have hga:=fun h:i < l.length=>C1 (f:=syA) (l:=l) A34 h
  have hd:=fun h:i < l.length=>P9 (p:=A2w) A34 h
  have hmx:=fun h:i < l.length=>hm _ (E4 A34 h)
  generalize l.getD i A34=u at *
  repeat' ((first|(refine brS (fun h=>?_) (fun h=>?_)<;>(try rw [h])<;>(try simp only [bS,↓reduceIte] at h))|(rw [show (l.map syA).getD ((i:Int)).toNat []=_ from hga (by omega)])|(refine A0.by (D1q hT u (hmx (by omega)) hb) ?_;rintro _ _ ⟨rfl,rfl⟩)|refine gS ?_|refine aA ?_|refine nA ?_|fail)<;>(conv=>whnf))
  ·refine ⟨_,Sub.refl _,i,rfl,?_,rfl⟩
   rw [hp,hd (by omega),h,decide_eq_true (by omega)];rfl
  ·refine ⟨i+1,eqa,B9,⟨by omega,rfl,?_⟩,by omega⟩
   rw [hp,hd (by omega),h,Bool.true_and]
  ·refine ⟨_,Sub.refl _,-1,rfl,?_,rfl⟩
   rw [hp,C6 (by omega)];rfl
theorem B4x (hT:Sc.Wds Γ) {s:Sto} {b:Nat} {T0:TypeId} (t:Nat) (l:List (Nat × Sy)) (hl:l.length≤100000) (hm:∀ x ∈ l,x.2.2.1.length≤100000) (hb:s.bx b=some (T0,[.func (.func 87) [] []])) :
  A0 Tryz.prog Γ 134 [.slice t (l.map syA),.func (.func 135) [] [.ptr (some ⟨b,0,none⟩)]] s fun v s'=>v=.bool (!l.all A2w)∧s'=s:=by
 refine acs Tryz.func134 ?_
 refine wr ?_;(refine A0.by (C2w hT t l hl hm hb) ?_;rintro _ _ ⟨r,rfl,hr,rfl⟩);refine wr ?_
 exact ⟨_,Sub.refl _,B2 hr,rfl⟩
theorem B77 (hT:Sc.Wds Γ) (t:Nat) (l:List (Nat × Sy)) (hl:l.length≤100000) (hm:∀ x ∈ l,x.2.2.1.length≤100000):A5 Tryz.prog Γ 86 [.slice t (l.map syA),.func (.func 87) [] []] fun v=>v=.bool (l.all A2w):=by
 refine aps Tryz.func86 ?_
 intro s
 conv=>whnf
 intro b hb
 refine wr ?_;(refine A0.by (B4x hT t l hl hm A1) ?_;rintro _ _ ⟨rfl,rfl⟩);refine wr ?_
 exact ⟨(Sub.refl _).set hb _ _,B2 (by simp)⟩
theorem B26 (hT:Sc.Wds Γ) (u:Nat × De) (hu:u.2.2.length≤100000):A5 Tryz.prog Γ 76 [.agg (deA u)] fun v=>v=.bool (A4g u):=by
 refine aps Tryz.func76 ?_
 intro s
 conv=>whnf
 intro b hb
 conv=>whnf
 repeat' ((first|(refine brS (fun h=>?_) (fun h=>?_)<;>(try rw [h])<;>(try simp only [bS,↓reduceIte] at h))|(refine A4 A1 ?_)|(refine A0.pure' ?_ (E6 hT u.2.1);rintro _ rfl)|refine A8.pure ?_ (E6 hT u.2.1)|(refine A0.pure' ?_ (B4i _ _ hu);rintro _ rfl)|refine A8.pure ?_ (B4i _ _ hu)|refine gS ?_|refine aA ?_|refine nA ?_|fail)<;>(conv=>whnf))
 all_goals refine ⟨(Sub.refl _).set hb _ _,B2 ?_⟩
 all_goals simp [A4g, *]
theorem C81 (hT:Sc.Wds Γ) {s:Sto} {b:Nat} {T0:TypeId} (u:Nat × De) (hu:u.2.2.length≤100000) (hb:s.bx b=some (T0,[.func (.func 76) [] []])):A0 Tryz.prog Γ 122 [.agg (deA u),.ptr (some ⟨b,0,none⟩)] s fun v s'=>v=.bool (!A4g u)∧s'=s:=by
 refine acs Tryz.func122 ?_
 conv=>whnf
 intro c hc
 conv=>whnf
 have hn:=A3 hb hc
 repeat' ((first|(refine brS (fun h=>?_) (fun h=>?_)<;>(try rw [h])<;>(try simp only [bS,↓reduceIte] at h))|(refine L7 hn (A4 hb ?_))|(refine A4 A1 ?_)|(refine A0.pure' ?_ (B26 hT u hu);rintro _ rfl)|refine A8.pure ?_ (B26 hT u hu)|refine gS ?_|refine aA ?_|refine nA ?_|fail)<;>(conv=>whnf))
 exact ⟨_,(Sub.refl _).set hc _ _,rfl,rfl⟩
theorem C0t (hT:Sc.Wds Γ) {s:Sto} {b:Nat} {T0:TypeId} (t:Nat) (l:List (Nat × De)) (hl:l.length≤100000) (hm:∀ x ∈ l,x.2.2.length≤100000) (hb:s.bx b=some (T0,[.func (.func 76) [] []])) :
  A0 Tryz.prog Γ 198 [.slice t (l.map deA),.func (.func 122) [] [.ptr (some ⟨b,0,none⟩)]] s fun v s'=>∃ r:Int,v=.int .i64 r∧decide (r ≥ 0) = !l.all A4g∧s'=s:=by
 have hml:(l.map deA).length=l.length:=List.length_map ..
 refine acs Tryz.func198 ?_
 conv=>whnf
 refine AWp.loopA [8] [9,10,5,11,12,13,14,15,16,17,4,18] (fun i:Nat=>[.int .i64 i]) (fun i s'=>i≤l.length∧s'=s∧l.all A4g=(l.drop i).all A4g) (fun i=>l.length - i) (0) (by kernel_rfl) (eqa) ?_ ?_
 ·exact ⟨by omega,rfl,by simp⟩
 ·rintro y i _ ⟨hi,rfl,hp⟩
  conv=>whnf
  have hga:=fun h:i < l.length=>C1 (f:=deA) (l:=l) A4c h
  have hd:=fun h:i < l.length=>P9 (p:=A4g) A4c h
  have hmx:=fun h:i < l.length=>hm _ (E4 A4c h)
  generalize l.getD i A4c=u at *
  repeat' ((first|(refine brS (fun h=>?_) (fun h=>?_)<;>(try rw [h])<;>(try simp only [bS,↓reduceIte] at h))|(rw [show (l.map deA).getD ((i:Int)).toNat []=_ from hga (by omega)])|(refine A0.by (C81 hT u (hmx (by omega)) hb) ?_;rintro _ _ ⟨rfl,rfl⟩)|refine gS ?_|refine aA ?_|refine nA ?_|fail)<;>(conv=>whnf))
  ·refine ⟨_,Sub.refl _,i,rfl,?_,rfl⟩
   rw [hp,hd (by omega),h,decide_eq_true (by omega)];rfl
  ·refine ⟨i+1,eqa,B9,⟨by omega,rfl,?_⟩,by omega⟩
   rw [hp,hd (by omega),h,Bool.true_and]
  ·refine ⟨_,Sub.refl _,-1,rfl,?_,rfl⟩
   rw [hp,C6 (by omega)];rfl
theorem B3f (hT:Sc.Wds Γ) {s:Sto} {b:Nat} {T0:TypeId} (t:Nat) (l:List (Nat × De)) (hl:l.length≤100000) (hm:∀ x ∈ l,x.2.2.length≤100000) (hb:s.bx b=some (T0,[.func (.func 76) [] []])) :
  A0 Tryz.prog Γ 121 [.slice t (l.map deA),.func (.func 122) [] [.ptr (some ⟨b,0,none⟩)]] s fun v s'=>v=.bool (!l.all A4g)∧s'=s:=by
 refine acs Tryz.func121 ?_
 refine wr ?_;(refine A0.by (C0t hT t l hl hm hb) ?_;rintro _ _ ⟨r,rfl,hr,rfl⟩);refine wr ?_
 exact ⟨_,Sub.refl _,B2 hr,rfl⟩
theorem B4g (hT:Sc.Wds Γ) (t:Nat) (l:List (Nat × De)) (hl:l.length≤100000) (hm:∀ x ∈ l,x.2.2.length≤100000):A5 Tryz.prog Γ 75 [.slice t (l.map deA),.func (.func 76) [] []] fun v=>v=.bool (l.all A4g):=by
 refine aps Tryz.func75 ?_
 intro s
 conv=>whnf
 intro b hb
 refine wr ?_;(refine A0.by (B3f hT t l hl hm A1) ?_;rintro _ _ ⟨rfl,rfl⟩);refine wr ?_
 exact ⟨(Sub.refl _).set hb _ _,B2 (by simp)⟩
theorem B02 (hT:Sc.Wds Γ) (u:Qu):A5 Tryz.prog Γ 80 [.agg (quA u)] fun v=>v=.bool (A0t u):=by
 refine aps Tryz.func80 ?_
 intro s
 conv=>whnf
 intro b hb
 conv=>whnf
 repeat' ((first|(refine brS (fun h=>?_) (fun h=>?_)<;>(try rw [h])<;>(try simp only [bS,↓reduceIte] at h))|(refine A4 A1 ?_)|(refine A0.pure' ?_ (E6 hT u.2.1);rintro _ rfl)|refine A8.pure ?_ (E6 hT u.2.1)|(refine A0.pure' ?_ (A4k _);rintro _ rfl)|refine A8.pure ?_ (A4k _)|refine gS ?_|refine aA ?_|refine nA ?_|fail)<;>(conv=>whnf))
 all_goals refine ⟨(Sub.refl _).set hb _ _,B2 ?_⟩
 all_goals simp [A0t, *]
theorem C5d (hT:Sc.Wds Γ) {s:Sto} {b:Nat} {T0:TypeId} (u:Qu) (hb:s.bx b=some (T0,[.func (.func 80) [] []])):A0 Tryz.prog Γ 126 [.agg (quA u),.ptr (some ⟨b,0,none⟩)] s fun v s'=>v=.bool (!A0t u)∧s'=s:=by
 refine acs Tryz.func126 ?_
 conv=>whnf
 intro c hc
 conv=>whnf
 have hn:=A3 hb hc
 repeat' ((first|(refine brS (fun h=>?_) (fun h=>?_)<;>(try rw [h])<;>(try simp only [bS,↓reduceIte] at h))|(refine L7 hn (A4 hb ?_))|(refine A4 A1 ?_)|(refine A0.pure' ?_ (B02 hT u);rintro _ rfl)|refine A8.pure ?_ (B02 hT u)|refine gS ?_|refine aA ?_|refine nA ?_|fail)<;>(conv=>whnf))
 exact ⟨_,(Sub.refl _).set hc _ _,rfl,rfl⟩
theorem B7u (hT:Sc.Wds Γ) {s:Sto} {b:Nat} {T0:TypeId} (t:Nat) (l:List (Qu)) (hl:l.length≤100000) (hb:s.bx b=some (T0,[.func (.func 80) [] []])) :
  A0 Tryz.prog Γ 200 [.slice t (l.map quA),.func (.func 126) [] [.ptr (some ⟨b,0,none⟩)]] s fun v s'=>∃ r:Int,v=.int .i64 r∧decide (r ≥ 0) = !l.all A0t∧s'=s:=by
 have hml:(l.map quA).length=l.length:=List.length_map ..
 refine acs Tryz.func200 ?_
 conv=>whnf
 refine AWp.loopA [8] [9,10,5,11,12,13,14,15,16,17,4,18] (fun i:Nat=>[.int .i64 i]) (fun i s'=>i≤l.length∧s'=s∧l.all A0t=(l.drop i).all A0t) (fun i=>l.length - i) (0) (by kernel_rfl) (eqa) ?_ ?_
 ·exact ⟨by omega,rfl,by simp⟩
 ·rintro y i _ ⟨hi,rfl,hp⟩
  conv=>whnf
  have hga:=fun h:i < l.length=>C1 (f:=quA) (l:=l) A5j h
  have hd:=fun h:i < l.length=>P9 (p:=A0t) A5j h
  generalize l.getD i A5j=u at *
  repeat' ((first|(refine brS (fun h=>?_) (fun h=>?_)<;>(try rw [h])<;>(try simp only [bS,↓reduceIte] at h))|(rw [show (l.map quA).getD ((i:Int)).toNat []=_ from hga (by omega)])|(refine A0.by (C5d hT u hb) ?_;rintro _ _ ⟨rfl,rfl⟩)|refine gS ?_|refine aA ?_|refine nA ?_|fail)<;>(conv=>whnf))
  ·refine ⟨_,Sub.refl _,i,rfl,?_,rfl⟩
   rw [hp,hd (by omega),h,decide_eq_true (by omega)];rfl
  ·refine ⟨i+1,eqa,B9,⟨by omega,rfl,?_⟩,by omega⟩
   rw [hp,hd (by omega),h,Bool.true_and]
  ·refine ⟨_,Sub.refl _,-1,rfl,?_,rfl⟩
   rw [hp,C6 (by omega)];rfl
theorem B1u (hT:Sc.Wds Γ) {s:Sto} {b:Nat} {T0:TypeId} (t:Nat) (l:List (Qu)) (hl:l.length≤100000) (hb:s.bx b=some (T0,[.func (.func 80) [] []])) :
  A0 Tryz.prog Γ 125 [.slice t (l.map quA),.func (.func 126) [] [.ptr (some ⟨b,0,none⟩)]] s fun v s'=>v=.bool (!l.all A0t)∧s'=s:=by
 refine acs Tryz.func125 ?_
 refine wr ?_;(refine A0.by (B7u hT t l hl hb) ?_;rintro _ _ ⟨r,rfl,hr,rfl⟩);refine wr ?_
 exact ⟨_,Sub.refl _,B2 hr,rfl⟩
theorem B2n (hT:Sc.Wds Γ) (t:Nat) (l:List (Qu)) (hl:l.length≤100000):A5 Tryz.prog Γ 79 [.slice t (l.map quA),.func (.func 80) [] []] fun v=>v=.bool (l.all A0t):=by
 refine aps Tryz.func79 ?_
 intro s
 conv=>whnf
 intro b hb
 refine wr ?_;(refine A0.by (B1u hT t l hl A1) ?_;rintro _ _ ⟨rfl,rfl⟩);refine wr ?_
 exact ⟨(Sub.refl _).set hb _ _,B2 (by simp)⟩
theorem B27 (hT:Sc.Wds Γ) (u:Fr):A5 Tryz.prog Γ 82 [.agg (frA u)] fun v=>v=.bool (A20 u):=by
 refine aps Tryz.func82 ?_
 intro s
 conv=>whnf
 intro b hb
 conv=>whnf
 repeat' ((first|(refine brS (fun h=>?_) (fun h=>?_)<;>(try rw [h])<;>(try simp only [bS,↓reduceIte] at h))|(refine A4 A1 ?_)|(refine A0.pure' ?_ (E6 hT u.1);rintro _ rfl)|refine A8.pure ?_ (E6 hT u.1)|(refine A0.pure' ?_ (A3k u.2);rintro _ rfl)|refine A8.pure ?_ (A3k u.2)|refine gS ?_|refine aA ?_|refine nA ?_|fail)<;>(conv=>whnf))
 all_goals refine ⟨(Sub.refl _).set hb _ _,B2 ?_⟩
 all_goals simp [A20, *]
theorem C82 (hT:Sc.Wds Γ) {s:Sto} {b:Nat} {T0:TypeId} (u:Fr) (hb:s.bx b=some (T0,[.func (.func 82) [] []])):A0 Tryz.prog Γ 128 [.agg (frA u),.ptr (some ⟨b,0,none⟩)] s fun v s'=>v=.bool (!A20 u)∧s'=s:=by
 refine acs Tryz.func128 ?_
 conv=>whnf
 intro c hc
 conv=>whnf
 have hn:=A3 hb hc
 repeat' ((first|(refine brS (fun h=>?_) (fun h=>?_)<;>(try rw [h])<;>(try simp only [bS,↓reduceIte] at h))|(refine L7 hn (A4 hb ?_))|(refine A4 A1 ?_)|(refine A0.pure' ?_ (B27 hT u);rintro _ rfl)|refine A8.pure ?_ (B27 hT u)|refine gS ?_|refine aA ?_|refine nA ?_|fail)<;>(conv=>whnf))
 exact ⟨_,(Sub.refl _).set hc _ _,rfl,rfl⟩
theorem C0u (hT:Sc.Wds Γ) {s:Sto} {b:Nat} {T0:TypeId} (t:Nat) (l:List (Fr)) (hl:l.length≤100000) (hb:s.bx b=some (T0,[.func (.func 82) [] []])) :
  A0 Tryz.prog Γ 201 [.slice t (l.map frA),.func (.func 128) [] [.ptr (some ⟨b,0,none⟩)]] s fun v s'=>∃ r:Int,v=.int .i64 r∧decide (r ≥ 0) = !l.all A20∧s'=s:=by
 have hml:(l.map frA).length=l.length:=List.length_map ..
 refine acs Tryz.func201 ?_
 conv=>whnf
 refine AWp.loopA [8] [9,10,5,11,12,13,14,15,16,17,4,18] (fun i:Nat=>[.int .i64 i]) (fun i s'=>i≤l.length∧s'=s∧l.all A20=(l.drop i).all A20) (fun i=>l.length - i) (0) (by kernel_rfl) (eqa) ?_ ?_
 ·exact ⟨by omega,rfl,by simp⟩
 ·rintro y i _ ⟨hi,rfl,hp⟩
  conv=>whnf
  have hga:=fun h:i < l.length=>C1 (f:=frA) (l:=l) A5i h
  have hd:=fun h:i < l.length=>P9 (p:=A20) A5i h
  generalize l.getD i A5i=u at *
  repeat' ((first|(refine brS (fun h=>?_) (fun h=>?_)<;>(try rw [h])<;>(try simp only [bS,↓reduceIte] at h))|(rw [show (l.map frA).getD ((i:Int)).toNat []=_ from hga (by omega)])|(refine A0.by (C82 hT u hb) ?_;rintro _ _ ⟨rfl,rfl⟩)|refine gS ?_|refine aA ?_|refine nA ?_|fail)<;>(conv=>whnf))
  ·refine ⟨_,Sub.refl _,i,rfl,?_,rfl⟩
   rw [hp,hd (by omega),h,decide_eq_true (by omega)];rfl
  ·refine ⟨i+1,eqa,B9,⟨by omega,rfl,?_⟩,by omega⟩
   rw [hp,hd (by omega),h,Bool.true_and]
  ·refine ⟨_,Sub.refl _,-1,rfl,?_,rfl⟩
   rw [hp,C6 (by omega)];rfl
theorem B3g (hT:Sc.Wds Γ) {s:Sto} {b:Nat} {T0:TypeId} (t:Nat) (l:List (Fr)) (hl:l.length≤100000) (hb:s.bx b=some (T0,[.func (.func 82) [] []])) :
  A0 Tryz.prog Γ 127 [.slice t (l.map frA),.func (.func 128) [] [.ptr (some ⟨b,0,none⟩)]] s fun v s'=>v=.bool (!l.all A20)∧s'=s:=by
 refine acs Tryz.func127 ?_
 refine wr ?_;(refine A0.by (C0u hT t l hl hb) ?_;rintro _ _ ⟨r,rfl,hr,rfl⟩);refine wr ?_
 exact ⟨_,Sub.refl _,B2 hr,rfl⟩
theorem B4h (hT:Sc.Wds Γ) (t:Nat) (l:List (Fr)) (hl:l.length≤100000):A5 Tryz.prog Γ 81 [.slice t (l.map frA),.func (.func 82) [] []] fun v=>v=.bool (l.all A20):=by
 refine aps Tryz.func81 ?_
 intro s
 conv=>whnf
 intro b hb
 refine wr ?_;(refine A0.by (B3g hT t l hl A1) ?_;rintro _ _ ⟨rfl,rfl⟩);refine wr ?_
 exact ⟨(Sub.refl _).set hb _ _,B2 (by simp)⟩
theorem B05 (hT:Sc.Wds Γ) (u:St):A5 Tryz.prog Γ 85 [.agg (stA u)] fun v=>v=.bool (Y0 u):=by
 refine aps Tryz.func85 ?_
 intro s
 conv=>whnf
 intro b hb
 refine wr ?_;(first|(refine A0.pure' ?_ (E6 hT u.1);rintro _ rfl)|refine A8.pure ?_ (E6 hT u.1));refine wr ?_
 all_goals refine ⟨(Sub.refl _).set hb _ _,B2 ?_⟩
 all_goals simp [Y0, *]
theorem C5e (hT:Sc.Wds Γ) {s:Sto} {b:Nat} {T0:TypeId} (u:St) (hb:s.bx b=some (T0,[.func (.func 85) [] []])):A0 Tryz.prog Γ 133 [.agg (stA u),.ptr (some ⟨b,0,none⟩)] s fun v s'=>v=.bool (!Y0 u)∧s'=s:=by
 refine acs Tryz.func133 ?_
 conv=>whnf
 intro c hc
 conv=>whnf
 have hn:=A3 hb hc
 repeat' ((first|(refine brS (fun h=>?_) (fun h=>?_)<;>(try rw [h])<;>(try simp only [bS,↓reduceIte] at h))|(refine L7 hn (A4 hb ?_))|(refine A4 A1 ?_)|(refine A0.pure' ?_ (B05 hT u);rintro _ rfl)|refine A8.pure ?_ (B05 hT u)|refine gS ?_|refine aA ?_|refine nA ?_|fail)<;>(conv=>whnf))
 exact ⟨_,(Sub.refl _).set hc _ _,rfl,rfl⟩
theorem B7v (hT:Sc.Wds Γ) {s:Sto} {b:Nat} {T0:TypeId} (t:Nat) (l:List (St)) (hl:l.length≤100000) (hb:s.bx b=some (T0,[.func (.func 85) [] []])) :
  A0 Tryz.prog Γ 202 [.slice t (l.map stA),.func (.func 133) [] [.ptr (some ⟨b,0,none⟩)]] s fun v s'=>∃ r:Int,v=.int .i64 r∧decide (r ≥ 0) = !l.all Y0∧s'=s:=by
 have hml:(l.map stA).length=l.length:=List.length_map ..
 refine acs Tryz.func202 ?_
 conv=>whnf
 refine AWp.loopA [8] [9,10,5,11,12,13,14,15,16,17,4,18] (fun i:Nat=>[.int .i64 i]) (fun i s'=>i≤l.length∧s'=s∧l.all Y0=(l.drop i).all Y0) (fun i=>l.length - i) (0) (by kernel_rfl) (eqa) ?_ ?_
 ·exact ⟨by omega,rfl,by simp⟩
 ·rintro y i _ ⟨hi,rfl,hp⟩
  conv=>whnf
  have hga:=fun h:i < l.length=>C1 (f:=stA) (l:=l) A5k h
  have hd:=fun h:i < l.length=>P9 (p:=Y0) A5k h
  generalize l.getD i A5k=u at *
  repeat' ((first|(refine brS (fun h=>?_) (fun h=>?_)<;>(try rw [h])<;>(try simp only [bS,↓reduceIte] at h))|(rw [show (l.map stA).getD ((i:Int)).toNat []=_ from hga (by omega)])|(refine A0.by (C5e hT u hb) ?_;rintro _ _ ⟨rfl,rfl⟩)|refine gS ?_|refine aA ?_|refine nA ?_|fail)<;>(conv=>whnf))
  ·refine ⟨_,Sub.refl _,i,rfl,?_,rfl⟩
   rw [hp,hd (by omega),h,decide_eq_true (by omega)];rfl
  ·refine ⟨i+1,eqa,B9,⟨by omega,rfl,?_⟩,by omega⟩
   rw [hp,hd (by omega),h,Bool.true_and]
  ·refine ⟨_,Sub.refl _,-1,rfl,?_,rfl⟩
   rw [hp,C6 (by omega)];rfl
theorem B1v (hT:Sc.Wds Γ) {s:Sto} {b:Nat} {T0:TypeId} (t:Nat) (l:List (St)) (hl:l.length≤100000) (hb:s.bx b=some (T0,[.func (.func 85) [] []])) :
  A0 Tryz.prog Γ 132 [.slice t (l.map stA),.func (.func 133) [] [.ptr (some ⟨b,0,none⟩)]] s fun v s'=>v=.bool (!l.all Y0)∧s'=s:=by
 refine acs Tryz.func132 ?_
 refine wr ?_;(refine A0.by (B7v hT t l hl hb) ?_;rintro _ _ ⟨r,rfl,hr,rfl⟩);refine wr ?_
 exact ⟨_,Sub.refl _,B2 hr,rfl⟩
theorem B2o (hT:Sc.Wds Γ) (t:Nat) (l:List (St)) (hl:l.length≤100000):A5 Tryz.prog Γ 84 [.slice t (l.map stA),.func (.func 85) [] []] fun v=>v=.bool (l.all Y0):=by
 refine aps Tryz.func84 ?_
 intro s
 conv=>whnf
 intro b hb
 refine wr ?_;(refine A0.by (B1v hT t l hl A1) ?_;rintro _ _ ⟨rfl,rfl⟩);refine wr ?_
 exact ⟨(Sub.refl _).set hb _ _,B2 (by simp)⟩
end Go.Proofs.YticnkpgmmpenlaaGreatDoor.Tr
namespace Go.Proofs.YticnkpgmmpenlaaGreatDoor.Sc
open Go Go.Ab Go.RowKit
variable {Γ:Nat→AV}
abbrev D:=List UInt8 × Nat × List Int
theorem A5q {G:Gh} {W:World} {b:Nat}:∀ (xs:List (List UInt8)) (o:Nat) (k:Nat),C9 G W k b o (B8 xs)→xs≠[]→k=1∧∀ (j:Nat) (x:List UInt8),xs[j]?=some x→W.cell? ⟨b,o+j,none⟩=some (.string ⟨x.toArray⟩)
 | [],_,_,_,h=>absurd rfl h
 | x::xs,o,k,h,_=>by
  have h:C9 G W k b o ([.str x]::B8 xs):=h
  unfold C9 at h
  obtain ⟨hk,hc,hs⟩:=h
  have hk:k=1:=hk.symm
  subst hk
  refine ⟨rfl,fun j y hj=>?_⟩
  cases j with
  | zero =>
   simp only [List.getElem?_cons_zero,Option.some.injEq] at hj
   subst hj
   unfold C2 at hc
   obtain ⟨_,⟨u,hu,hR⟩,_⟩:=hc
   rw [H9] at hR
   subst hR
   exact hu
  | succ j =>
   by_cases hx:xs=[]
   ·subst hx;simp at hj
   ·have:=(A5q xs (o+1) 1 hs hx).2 j y (by simpa using hj)
    rwa [show o+(j+1)=o+1+j by omega]
theorem A6b (t:Nat) (xs:List (List UInt8)) (sep:List UInt8) (hN:xs.length≤140737488355328) (hlen:(Lib.join xs sep).length≤140737488355328) :
  A5 Tryz.prog Γ 38 [.slice t (B8 xs),.str sep] fun v=>v=.str (Lib.join xs sep):=by
 intro s
 refine A0.of_below fun G w vs hm hr=>?_
 obtain ⟨u,us,rfl,hu,hus⟩:=A6.1 hr
 obtain ⟨u1,us1,rfl,hu1,hus1⟩:=A6.1 hus
 rw [A9] at hus1;subst hus1
 rw [H9] at hu1;subst hu1
 obtain ⟨a,cap,rfl,hcap,hnil,hels,_⟩:=J7 hu
 rw [A14] at *
 by_cases hx:xs=[]
 ·subst hx
  refine ⟨_,fun G' w'=>H9.2 rfl,(Tryz.strings_Join_none a cap ⟨sep.toArray⟩ w).mono ?_⟩
  rintro e w' ⟨rfl,rfl⟩
  exact ⟨rfl,Below.refl _ _⟩
 ·obtain ⟨b,o,k,rfl,hel⟩:=hels (by intro hn;have:=congrArg List.length hn;rw [A14] at this;exact hx (List.eq_nil_of_length_eq_zero this))
  have hc:=(A5q xs o k hel hx).2
  have hmap:(xs.map fun l=>(⟨l.toArray⟩:ByteArray)).map (·.data.toList)=xs:=by
   rw [List.map_map]
   show xs.map (fun l=>l.toArray.toList)=xs
   simp
  have hj:=Tryz.strings_Join b o cap (xs.map fun l=>(⟨l.toArray⟩:ByteArray)) ⟨sep.toArray⟩ w (fun j x hjx=>by
    rw [List.getElem?_map] at hjx
    obtain ⟨l,hl,rfl⟩:=Option.map_eq_some_iff.1 hjx
    exact hc j l hl) (by
    obtain ⟨x,hx0⟩:∃ x,xs[0]?=some x:=by cases xs with
     | nil=>exact absurd rfl hx
     | cons x l=>exact ⟨x,rfl⟩
    exact (C6q (hc 0 x hx0)).1) (by simpa using hN) (by simpa using hcap) (by rw [hmap];exact hlen)
  rw [hmap,List.length_map] at hj
  exact ⟨_,fun G' w'=>H9.2 rfl,hj⟩
attribute [local irreducible] A5 Sto.set Sto.grow
def A3z (k:Int):List UInt8:=if k=1 then [105,110,116] else if k=2 then [115,116,114,105,110,103] else if k=3 then [98,111,111,108] else []
theorem B5n (k:Int):A5 Tryz.prog Γ 28 [.int .i64 k] fun v=>v=.str (A3z k):=by
 refine aps Tryz.func28 ?_
 intro s
 conv=>whnf
 repeat' (first
  | (refine ⟨Sub.refl _,?_⟩)
  | (refine F2 (fun h=>?_) (fun h=>?_)<;>(try rw [h])<;>(try simp only [Bool.false_eq_true,Bool.true_eq_false,↓reduceIte,decide_eq_true_eq,decide_eq_false_iff_not,Bool.not_eq_true',Bool.not_eq_false'] at h)<;>(conv=>whnf))
  | (refine D8 ?_;conv=>whnf)
  | (refine AWp.any (by kernel_rfl) (by kernel_rfl) (by kernel_rfl) ?_;conv=>whnf)
  | (apply And.intro;(focus (first|omega|rfl|decide|exact Nat.le_of_ble_eq_true rfl|((repeat' (first|exact all_nil|refine all_cons ?_ ?_|rfl|fail));done)|(simp [-List.length_flatMap];done)|(simp [-List.length_flatMap];omega)|fail));conv=>whnf)
  | fail)
 all_goals simp [A3e,A3z, *]
def A2x (l:List D):Prop:=l.length≤140737488355328∧∀ d ∈ l,d.1.length≤9223372036854775807∧d.2.2.length≤140737488355328
def D6s (nm:List UInt8) (ks:List Int):List UInt8:=nm++[40]++Lib.join (ks.map A3z) [44,32]++[41]
theorem B85 (k:Int):(A3z k).length≤6:=by
 unfold A3z
 split
 ·decide
 ·split
  ·decide
  ·split<;>decide
theorem D14 (sep x y:List UInt8) (r:List (List UInt8)):Lib.join (x::y::r) sep=x++sep++Lib.join (y::r) sep:=by
 simp [Lib.join,List.intercalate,List.intersperse]
theorem A7q (sep:List UInt8):∀ l:List Int,(Lib.join (l.map A3z) sep).length≤(6+sep.length) * l.length
 | []=>by simp [Lib.join,List.intercalate]
 | [x]=>by
  have:=B85 x
  simp [Lib.join,List.intercalate];omega
 | x::y::l=>by
  have:=B85 x
  have ih:=A7q sep (y::l)
  simp only [List.map_cons] at ih ⊢
  rw [D14]
  simp only [List.length_append,List.length_cons] at ih ⊢
  rw [Nat.mul_succ]
  omega
theorem C3s (nm:List UInt8) (tk:Nat) (ks:List Int) (h1:nm.length≤1048576) (h2:ks.length≤1048576) :
  A5 Tryz.prog Γ 24 [.agg [.str nm,.slice tk (G7 .i64 ks)]] fun v=>v=.str (D6s nm ks):=by
 have hbl:=M8 .i64 ks
 refine aps Tryz.func24 ?_
 intro s
 conv=>whnf
 intro b hb
 refine wr ?_
 refine AWp.loopA [3,9] [10,11,12,5,13,14,15,16,17,18] (fun x:Nat × Nat=>[.slice x.2 (B8 ((ks.take x.1).map A3z)),.int .i64 x.1]) (fun x s'=>x.1≤ks.length∧Own (s.set b 71 [.str nm,.slice tk (G7 .i64 ks)]) s' (x.1 == 0) x.2 9 1) (fun x=>ks.length - x.1) ((0,1)) (by kernel_rfl) (by (repeat' (first|refine B5 ?_ ?_|refine D4 ?_ ?_ ?_|rfl|omega))) ?_ ?_
 ·exact ⟨by simp,Own.nil _ _ _⟩
 ·rintro y ⟨i,t⟩ s' ⟨hi,ho⟩
  simp only at hi ho
  conv=>whnf
  repeat' (first
   | (refine ⟨Sub.refl _,?_⟩)
   | (refine F2 (fun h=>?_) (fun h=>?_)<;>(try rw [h])<;>(try simp only [Bool.false_eq_true,Bool.true_eq_false,↓reduceIte,decide_eq_true_eq,decide_eq_false_iff_not,Bool.not_eq_true',Bool.not_eq_false'] at h)<;>(conv=>whnf))
   | (rw [A5e (i:=(i:Int).toNat) (by omega)];conv=>whnf)
   | (refine A0.pure' ?_ (B5n _);rintro _ rfl;conv=>whnf)
   | (refine A8.pure ?_ (B5n _);conv=>whnf)
   | (refine D8 ?_;conv=>whnf)
   | (refine AWp.any (by kernel_rfl) (by kernel_rfl) (by kernel_rfl) ?_;conv=>whnf)
   | (apply And.intro;(focus (first|omega|rfl|decide|exact Nat.le_of_ble_eq_true rfl|((repeat' (first|exact all_nil|refine all_cons ?_ ?_|rfl|fail));done)|(simp [-List.length_flatMap];done)|(simp [-List.length_flatMap];omega)|fail));conv=>whnf)
   | fail)
  ·simp only [Int.toNat_natCast]
   have hn:((ks.take i).map A3z).length=i:=by simp;omega
   have hsl:=A14 ((ks.take i).map A3z)
   refine ⟨ho.may,fun c hc=>by obtain ⟨x,_,rfl⟩:=List.mem_map.1 hc;rfl,all_cons ⟨rfl,rfl⟩ all_nil,?_,?_⟩
   ·show ((B8 ((ks.take i).map A3z)).length+1) * (16+1)≤_
    rw [hsl,hn];omega
   intro t' k1 k2
   have k3:=ho.grow k1 k2
   conv=>whnf
   refine ⟨(i+1,t'),?_,by (repeat (first|exact M1.refl _ _|refine M1.upd rfl ?_|refine M1.updL rfl ?_|refine M1.havoc rfl ?_)),⟨by simp only;omega,?_⟩,by simp only;omega⟩
   ·refine B5 ?_ (B5 (show AV.int .i64 (IntKind.i64.wrap ((i:Int)+1))=.int .i64 ((i+1:Nat):Int) from D4 (by omega) (by omega) (by omega)) rfl)
    show AV.slice t' _=AV.slice t' _
    congr 1
    rw [show ks.take (i+1)=ks.take i++[ks.getD i 0] by rw [List.take_add_one];simp [List.getD,show i < ks.length by omega]]
    simp [B8]
   ·have e:((i+1,t').1 == 0)=((i == 0) && [[AV.str (A3z (ks.getD i 0))]].isEmpty):=by simp
    rw [e]
    exact k3
  ·have ht:ks.take i=ks:=List.take_of_length_le (by omega)
   rw [ht] at *
   have hj:(Lib.join (ks.map A3z) [44,32]).length≤16777216:=by
    have:=A7q [44,32] ks
    simp only [List.length_cons,List.length_nil] at this
    omega
   refine A4 (ho.sub.bx _ _ A1) ?_
   refine wr ?_;(first|(refine A0.pure' ?_ (A6b _ _ _ (by simp;omega) (by simp only [Int.toNat_natCast] at *;omega));rintro _ rfl)|refine A8.pure ?_ (A6b _ _ _ (by simp;omega) (by simp only [Int.toNat_natCast] at *;omega)));refine wr ?_
   exact ⟨((Sub.refl _).set hb _ _).trans ho.sub,rfl⟩
end Go.Proofs.YticnkpgmmpenlaaGreatDoor.Sc
namespace Go.Proofs.YticnkpgmmpenlaaGreatDoor.Pr
open Go Go.Ab Go.RowKit Go.Proofs.YticnkpgmmpenlaaGreatDoor.Lx Go.Proofs.YticnkpgmmpenlaaGreatDoor.Pa
variable {Γ:Nat→AV}
attribute [local irreducible] A5 Sto.set Sto.grow
theorem D4y (hT:Qu.A1q Γ) (hN:Nu.A6y Γ) (a:Tr.Ar) (ha:C4o a):A5 Tryz.prog Γ 46 [.agg (Tr.arA a)] fun v=>v=.str (A23 a):=by
 obtain ⟨ak,an,av,al,ac⟩:=a
 rcases ha with ⟨h1,h2,h3,h4⟩|⟨h1,h2,h3⟩|⟨h1,h2,h3⟩
 ·simp only at h1 h2 h3 h4
  subst h1
  obtain ⟨_,v2,v3⟩:=A0u h3 h4
  have htx:=Va.B2k hT hN av h4 (by omega)
  rw [← v3] at htx
  obtain ⟨vk,vi,vs,vb⟩:=av
  simp only [Va.vlA] at htx
  simp only [Tr.arA]
  refine aps Tryz.func46 ?_
  intro s
  conv=>whnf
  intro b1 hb1
  have k_b1:=hb1
  repeat replace k_b1:=C0 k_b1
  refine wr ?_
  all_goals exact ⟨A6r,rfl⟩
 ·simp only at h1
  subst h1
  simp only [Tr.arA]
  refine aps Tryz.func46 ?_
  intro s
  conv=>whnf
  intro b1 hb1
  have k_b1:=hb1
  repeat replace k_b1:=C0 k_b1
  refine wr ?_
  all_goals exact ⟨A6r,rfl⟩
 ·simp only at h1
  subst h1
  simp only [Tr.arA]
  refine aps Tryz.func46 ?_
  intro s
  conv=>whnf
  intro b1 hb1
  have k_b1:=hb1
  repeat replace k_b1:=C0 k_b1
  refine wr ?_
  all_goals exact ⟨A6r,rfl⟩
theorem C1k (hT:Qu.A1q Γ) (hN:Nu.A6y Γ) (x:Nat × Tr.Sy) (hx:B95 x.2) (hl:x.2.2.1.length≤100000) (hb:(T6 x.2).length≤1000000000):A5 Tryz.prog Γ 10 [.agg (Tr.syA x)] fun v=>v=.str (T6 x.2):=by
 obtain ⟨tk,nm,args,ln,cl⟩:=x
 simp only at hl hb
 have hml:(args.map Tr.arA).length=args.length:=List.length_map ..
 have hsl:(T6 (nm,args,ln,cl)).length=nm.length+2+(K9 (args.map A23)).length:=by
  show (nm++40::(K9 (args.map A23)++[41])).length=_
  simp only [List.length_append,List.length_cons,List.length_nil];omega
 have hj:(Lib.join (args.map A23) [44,32]).length≤1000000000:=by rw [A8n];omega
 have hja:=fun t=>Jo.A6b (Γ:=Γ) t (args.map A23) [44,32] (by rw [List.length_map];omega) (by omega)
 rw [A8n] at hja hj
 have hA:=fun a ha=>D4y hT hN a (hx.2 a ha)
 clear hT hN
 simp only [Tr.syA]
 refine aps Tryz.func10 ?_
 intro s
 conv=>whnf
 intro b hb0
 refine wr ?_
 refine AWp.loopA [3,9] [10,11,12,5,13,14,15,16,17,18] (fun x:Nat × Nat=>[.slice x.2 (B8 ((args.take x.1).map A23)),.int .i64 x.1]) (fun x s'=>x.1≤args.length∧Own (s.set b 39 [.str nm,.slice tk (args.map Tr.arA),.int .i64 ln,.int .i64 cl]) s' (x.1 == 0) x.2 9 1) (fun x=>args.length - x.1) ((0,1)) (by kernel_rfl) (eqa) ?_ ?_
 ·exact ⟨by simp,Own.nil _ _ _⟩
 ·rintro y ⟨i,t1⟩ s1 ⟨hi,ho⟩
  simp only at hi ho
  show awp _ _ _ _ _ (updL _ _ [.slice t1 (B8 ((args.take i).map A23)),.int .i64 (i:Int)]) _
  conv=>whnf
  have hbx:=ho.sub.bx _ _ A1
  by_cases hlt:i < args.length
  ·have hga:=Tr.C1 (f:=Tr.arA) (l:=args) Tr.A7t hlt
   have htk:=Z2 (f:=A23) Tr.A7t hlt
   have hSu:=hA _ (Tr.E4 Tr.A7t hlt)
   generalize args.getD i Tr.A7t=u at *
   simp only [Tr.arA] at hga hSu
   refine wr ?_
   intro c hc
   conv=>whnf
   have hc':=ho.sub.none hc
   refine wr ?_
   have ho2:=fun (T:TypeId) (a b:List AV)=>(ho.set (T:=T) (cs:=a) hc').set (T:=T) (cs:=b) hc'
   refine ⟨(ho2 _ _ _).may,fun c hc=>?_,all_cons ⟨rfl,rfl⟩ all_nil,?_,?_⟩
   ·obtain ⟨z,_,rfl⟩:=List.mem_map.1 hc;rfl
   ·show ((B8 ((args.take i).map A23)).length+1) * (_+1)≤_
    rw [Y3,List.length_map,List.length_take,Nat.min_eq_left (by omega)]
    exact Nat.le_trans (Nat.mul_le_mul_right _ (show i+1≤100001 by omega)) (Nat.le_of_ble_eq_true (by kernel_rfl))
   intro t' k1 k2
   have k3:=(ho2 _ _ _).grow k1 k2
   refine wr ?_
   refine ⟨(i+1,t'),?_,B9,⟨by simp only;omega,?_⟩,by simp only;omega⟩
   ·refine B5 ?_ (B5 (show AV.int .i64 (IntKind.i64.wrap ((i:Int)+1))=.int .i64 ((i+1:Nat):Int) from D4 (by omega) (by omega) (by omega)) rfl)
    show AV.slice _ _=.slice _ (B8 ((args.take (i+1)).map A23))
    rw [htk]<;>rfl
   ·have ez:∀ (z:Bool) (y:List AV),(z && [y].isEmpty)=false:=by intro z y;cases z<;>rfl
    have e2:(i+1 == 0)=false:=by simp
    show Own _ _ (i+1 == 0) t' _ _
    rw [ez] at k3
    rw [e2]
    exact k3
  ·have ht:args.take i=args:=List.take_of_length_le (by omega)
   rw [ht] at *
   have hja:=hja t1
   refine wr ?_
   all_goals refine ⟨((Sub.refl _).set hb0 _ _).trans ho.sub,congrArg AV.str ?_⟩
   all_goals (show _=nm++40::(K9 (args.map A23)++[41]);simp)
theorem A8g (z:Bool) (x y:List UInt8):A5 Tryz.prog Γ 27 [.bool z,.str x,.str y] fun v=>v=.str (if z=true then x else y):=by
 cases z
 all_goals
  refine aps Tryz.func27 ?_
  intro s
  refine wr ?_
  all_goals rfl
theorem B5m {k:Int} (h:B93 k):Sc.A3z k=Q0 k:=by
 unfold B93 at h
 unfold Sc.A3z Q0
 split
 ·rfl
 ·split
  ·rfl
  ·rw [if_pos (by omega)]
theorem D1d (d:Nat × Tr.De) (hd:D4o d.2) (hl:d.2.2.length≤100000):A5 Tryz.prog Γ 23 [.agg (Tr.deA d)] fun v=>v=.str (A07 d.2):=by
 obtain ⟨tk,⟨nm,ln,cl⟩,ks⟩:=d
 have hnm:=(N7 hd.1).2.1
 simp only at hl hnm
 have htx:=Sc.C3s (Γ:=Γ) nm tk ks (by omega) (by omega)
 have e:Sc.D6s nm ks=nm++40::(K9 (ks.map Q0)++[41]):=by
  unfold Sc.D6s
  rw [A8n,show ks.map Sc.A3z=ks.map Q0 from List.map_congr_left fun k hk=>B5m (hd.2 k hk)]
  simp
 have hjl:=A7p (B:=6) (ks.map Q0) fun z hz=>by
  obtain ⟨a,ha,rfl⟩:=List.mem_map.1 hz
  exact B5l a
 rw [List.length_map] at hjl
 have hel:(Sc.D6s nm ks).length≤2000000:=by rw [e];simp only [List.length_append,List.length_cons,List.length_nil];omega
 simp only [Tr.deA]
 refine aps Tryz.func23 ?_
 intro s
 conv=>whnf
 intro b1 hb1
 have k_b1:=hb1
 repeat replace k_b1:=C0 k_b1
 refine wr ?_
 all_goals refine ⟨A6r,congrArg AV.str ?_⟩
 all_goals (rw [e];rfl)
theorem C93 (q:Tr.Qu) (hq:D4q q):A5 Tryz.prog Γ 26 [.agg (Tr.quA q)] fun v=>v=.str (X8 q):=by
 obtain ⟨z,⟨nm,ln,cl⟩,k⟩:=q
 have hnm:=(N7 hq.1).2.1
 have hk:=Sc.B5n (Γ:=Γ) k
 rw [B5m hq.2] at hk
 have hkl:=B5l k
 simp only at hnm
 simp only [Tr.quA]
 cases z
 all_goals
  refine aps Tryz.func26 ?_
  intro s
  conv=>whnf
  intro b1 hb1
  have k_b1:=hb1
  repeat replace k_b1:=C0 k_b1
  refine wr ?_;(first|(refine A0.pure' ?_ (A8g _ _ _);rintro _ rfl)|refine A8.pure ?_ (A8g _ _ _));refine wr ?_
  all_goals refine ⟨A6r,congrArg AV.str ?_⟩
  all_goals (unfold X8;simp [wForall,R6])
theorem D1r (hT:Qu.A1q Γ) (hN:Nu.A6y Γ) (f:Tr.Fr) (hf:D4p f):A5 Tryz.prog Γ 30 [.agg (Tr.frA f)] fun v=>v=.str (A2g f):=by
 obtain ⟨⟨nm,ln,cl⟩,av⟩:=f
 obtain ⟨h1,h3,h4⟩:=hf
 have hnm:=(N7 h1).2.1
 simp only at hnm h3 h4
 obtain ⟨_,v2,v3⟩:=A0u h3 h4
 have htx:=Va.B2k hT hN av h4 (by omega)
 rw [← v3] at htx
 have hvl:=B7f h3 h4 (Nat.le_refl _)
 obtain ⟨vk,vi,vs,vb⟩:=av
 simp only [Va.vlA] at htx
 simp only at v2 hvl
 simp only [Tr.frA]
 refine aps Tryz.func30 ?_
 intro s
 conv=>whnf
 intro b1 hb1
 have k_b1:=hb1
 repeat replace k_b1:=C0 k_b1
 refine wr ?_
 all_goals refine ⟨A6r,congrArg AV.str ?_⟩
 all_goals (unfold A2g;simp [A21])
theorem D0d (x:Tr.St) (hx:D4r x):A5 Tryz.prog Γ 33 [.agg (Tr.stA x)] fun v=>v=.str (Y2 x):=by
 obtain ⟨⟨nm,ln,cl⟩,z1,z2⟩:=x
 have hnm:=(N7 hx).2.1
 simp only at hnm
 simp only [Tr.stA]
 cases z1<;>cases z2
 all_goals
  refine aps Tryz.func33 ?_
  intro s
  conv=>whnf
  intro b1 hb1
  have k_b1:=hb1
  repeat replace k_b1:=C0 k_b1
  conv=>whnf
  repeat' ((first|(refine brS (fun h=>?_) (fun h=>?_)<;>(try rw [h])<;>(try simp only [bN,bS,↓reduceIte] at h)<;>(try exact prc))|refine D3 ?_|(refine A0.pure' ?_ (A8g _ _ _);rintro _ rfl)|refine A8.pure ?_ (A8g _ _ _)|refine gS ?_|refine aA ?_|refine nA ?_|fail)<;>(conv=>whnf))
  all_goals refine ⟨A6r,congrArg AV.str ?_⟩
  all_goals (unfold Y2;simp [wNext,A1x,K7])
theorem D00 (hT:Qu.A1q Γ) (hN:Nu.A6y Γ) (x:Nat × Tr.Sy) (hx:B95 x.2) (hl:x.2.2.1.length≤100000) (hb:(T6 x.2).length≤1000000000):A5 Tryz.prog Γ 35 [.agg (Tr.syA x)] fun v=>v=.str (P0++32::T6 x.2):=by
 have hs:=C1k hT hN x hx hl hb
 generalize T6 x.2=S at *
 obtain ⟨tk,nm,args,ln,cl⟩:=x
 simp only [Tr.syA] at hs ⊢
 refine aps Tryz.func35 ?_
 intro s
 conv=>whnf
 intro b1 hb1
 have k_b1:=hb1
 repeat replace k_b1:=C0 k_b1
 refine wr ?_
 all_goals refine ⟨A6r,congrArg AV.str ?_⟩
 all_goals simp [P0]
theorem Own.keep {s s1 s2:Sto} {z:Bool} {t:Nat} {e:TypeId} {k:Nat} (h:Own s s1 z t e k) (h2:Sub s1 s2):Own s s2 true t e k :=
 ⟨h.sub.trans h2,h.own.imp (fun x=>⟨x.1,rfl⟩) fun x=>⟨x.1,h2.lv _ _ _ x.2.1,x.2.2⟩⟩
theorem A5r (m:List (List UInt8)):∀ c ∈ B8 m,c.length=1:=fun c hc=>by
 obtain ⟨z,_,rfl⟩:=List.mem_map.1 hc;rfl
theorem C1j (l:List Tr.Ex) (u:Tr.Se):U7 l u=(u.1.1++[32,61,32])++(gx l u.2).txt:=by unfold U7;simp
theorem D61 (hK:B38 Γ) (hT:Qu.A1q Γ) (hN:Nu.A6y Γ) (t:Nat) {l:List Tr.Ex} {m lo:Nat} {i:Int} (hl:P8 l m) (hw:Whole l lo i):A5 Tryz.prog Γ 73 [.slice t (l.map Tr.exA),.int .i64 i] fun v=>v=.str (gx l i).txt:=by
 obtain ⟨w1,w2,w3,w4⟩:=hw
 have h:=A8v hK hT hN t hl (i.toNat+1) i.toNat (i.toNat+1) (by omega) (by omega) (by omega) (by omega)
 rw [show ((i.toNat:Nat):Int)=i by omega] at h
 exact h
theorem D0g (hK:B38 Γ) (hT:Qu.A1q Γ) (hN:Nu.A6y Γ) (x:(Nat × Nat × Nat) × Tr.Tn) (hx:C76 x.2) (h1:x.2.2.2.1.2.1.length≤100000) (h2:x.2.2.2.2.2.2.length≤100000) (hb:(E7 x.2).length≤1000000000):A5 Tryz.prog Γ 37 [.agg (Tr.tnA x)] fun v=>v=.str (E7 x.2):=by
 obtain ⟨⟨k1,k2,k3⟩,⟨fr,fl,fc⟩,⟨ot,tl,tc⟩,⟨nm,args,ln,cl⟩,nodes,g,sets⟩:=x
 obtain ⟨x1,x2,x3,⟨m,hm⟩,x5⟩:=hx
 simp only at x1 x2 x3 hm x5 h1 h2 hb
 have hsl:(sets.map Tr.seA).length=sets.length:=List.length_map ..
 have hlT:(T6 (nm,args,ln,cl)).length+fr.length+ot.length+(ifS ((fr,fl,fc),(ot,tl,tc),(nm,args,ln,cl),nodes,g,sets)).length≤1000000000+ot.length:=by
  have e:(E7 ((fr,fl,fc),(ot,tl,tc),(nm,args,ln,cl),nodes,g,sets)).length=(fr++32::(wOn++32::(T6 (nm,args,ln,cl)++ifS ((fr,fl,fc),(ot,tl,tc),(nm,args,ln,cl),nodes,g,sets)))).length:=rfl
  rw [e] at hb
  simp only [List.length_append,List.length_cons] at hb
  omega
 have hto:=(N7 x2).2.1
 have hsy:=C1k hT hN (k1,(nm,args,ln,cl)) x3 h1 (by show (T6 (nm,args,ln,cl)).length≤_;omega)
 simp only [Tr.syA] at hsy
 have hJ:=fun t=>Jo.A6b (Γ:=Γ) t (A4p ((fr,fl,fc),(ot,tl,tc),(nm,args,ln,cl),nodes,g,sets)) [32] (by
  unfold A4p;simp only [List.length_append];split<;>split<;>(simp only [List.length_cons,List.length_nil];omega)) (by rw [B63];omega)
 have hJ:=fun t=>(show A5 Tryz.prog Γ 38 _ fun v=>v=.str (E7 _) from (B63 ((fr,fl,fc),(ot,tl,tc),(nm,args,ln,cl),nodes,g,sets)) ▸ hJ t)
 have hS:∃ lo,A3p nodes lo sets:=x5.elim (fun h=>⟨_,h.2⟩) (fun h=>⟨_,h.2⟩)
 obtain ⟨lo,hS⟩:=hS
 have hjl:sets≠[]→(K9 (sets.map (U7 nodes))).length≤1000000000:=fun hs=>by
  have e:(doS ((fr,fl,fc),(ot,tl,tc),(nm,args,ln,cl),nodes,g,sets)).length≤(ifS ((fr,fl,fc),(ot,tl,tc),(nm,args,ln,cl),nodes,g,sets)).length:=by
   unfold ifS
   split
   ·simp only [List.length_cons,List.length_append];omega
   ·exact Nat.le_refl _
  have e2:(K9 (sets.map (U7 nodes))).length≤(doS ((fr,fl,fc),(ot,tl,tc),(nm,args,ln,cl),nodes,g,sets)).length:=by
   unfold doS
   rw [if_neg hs]
   simp only [List.length_cons,List.length_append];omega
  omega
 have hA:∀ u ∈ sets,(A5 Tryz.prog Γ 73 [.slice k2 (nodes.map Tr.exA),.int .i64 u.2] fun v=>v=.str (gx nodes u.2).txt)∧u.1.1.length+3+(gx nodes u.2).txt.length≤1000000000:=fun u hu=>by
  obtain ⟨_,lo',hw⟩:=A5p hS u hu
  refine ⟨D61 hK hT hN k2 hm hw,?_⟩
  have:=B84 (List.mem_map_of_mem (f:=U7 nodes) hu)
  rw [C1j] at this
  have:=hjl (List.ne_nil_of_mem hu)
  simp only [List.length_append,List.length_cons,List.length_nil] at *
  omega
 have hjs:∀ t,sets≠[]→A5 Tryz.prog Γ 38 [.slice t (B8 (sets.map (U7 nodes))),.str [44,32]] fun v=>v=.str (K9 (sets.map (U7 nodes))):=fun t hs=>by
  have h:=Jo.A6b (Γ:=Γ) t (sets.map (U7 nodes)) [44,32] (by rw [List.length_map];omega) (by rw [A8n];have:=hjl hs;omega)
  rwa [A8n] at h
 have hG:0≤g→(A5 Tryz.prog Γ 73 [.slice k2 (nodes.map Tr.exA),.int .i64 g] fun v=>v=.str (gx nodes g).txt):=fun hg=>by
  rcases x5 with h|h
  ·omega
  ·exact D61 hK hT hN k2 hm h.1
 clear hT hN hK
 simp only [Tr.tnA]
 generalize hSY:T6 (nm,args,ln,cl)=SY at *
 by_cases hg:0≤g
 ·have hG:=hG hg
  have hjn1:sets=[]→∀ t,A5 Tryz.prog Γ 38 [.slice t ([[AV.str fr],[AV.str wOn],[AV.str SY]]++[[AV.str wIf],[AV.str (gx nodes g).txt]]++[[AV.str wTo],[AV.str ot]]),.str [32]] fun v=>v=.str (E7 ((fr,fl,fc),(ot,tl,tc),(nm,args,ln,cl),nodes,g,sets)):=fun h t=>by
   have hj:=hJ t
   unfold A4p at hj
   simp only at hj
   rw [if_pos hg,if_pos h,hSY] at hj
   exact hj
  have hjd1:sets≠[]→∀ t,A5 Tryz.prog Γ 38 [.slice t ([[AV.str fr],[AV.str wOn],[AV.str SY]]++[[AV.str wIf],[AV.str (gx nodes g).txt]]++[[AV.str wDo],[AV.str (K9 (sets.map (U7 nodes)))]]++[[AV.str wTo],[AV.str ot]]),.str [32]] fun v=>v=.str (E7 ((fr,fl,fc),(ot,tl,tc),(nm,args,ln,cl),nodes,g,sets)):=fun h t=>by
   have hj:=hJ t
   unfold A4p at hj
   simp only at hj
   rw [if_pos hg,if_neg h,hSY] at hj
   exact hj
  generalize (gx nodes g).txt=GT at *
  refine aps Tryz.func37 ?_
  intro s
  conv=>whnf
  intro b hb0
  refine wr ?_
  have ko0:=Own.start ((Sub.refl s).set hb0 43 [.str fr,.int .i64 fl,.int .i64 fc,.str ot,.int .i64 tl,.int .i64 tc,.str nm,.slice k1 (args.map Tr.arA),.int .i64 ln,.int .i64 cl,.slice k2 (nodes.map Tr.exA),.int .i64 g,.slice k3 (sets.map Tr.seA)]) 9 1
  refine ⟨all_cons ⟨rfl,rfl⟩ (all_cons ⟨rfl,rfl⟩ all_nil),Nat.le_of_ble_eq_true (by kernel_rfl),?_⟩
  intro t3 k1' k2'
  have ko1:=ko0.grow k1' k2'
  conv=>whnf
  have kb:((s.set b 43 [.str fr,.int .i64 fl,.int .i64 fc,.str ot,.int .i64 tl,.int .i64 tc,.str nm,.slice k1 (args.map Tr.arA),.int .i64 ln,.int .i64 cl,.slice k2 (nodes.map Tr.exA),.int .i64 g,.slice k3 (sets.map Tr.seA)]).grow 1 t3 9 1).bx b=some (43,[.str fr,.int .i64 fl,.int .i64 fc,.str ot,.int .i64 tl,.int .i64 tc,.str nm,.slice k1 (args.map Tr.arA),.int .i64 ln,.int .i64 cl,.slice k2 (nodes.map Tr.exA),.int .i64 g,.slice k3 (sets.map Tr.seA)]):=Q4.trans A1
  refine wr ?_
  refine AWp.loopA [4,28] [29,30,31,6,32,33,34,35,36,37,38,39,40,41,42,43,44,45] (fun x:Nat × Nat=>[.slice x.2 (B8 ((sets.take x.1).map (U7 nodes))),.int .i64 x.1]) (fun x s'=>x.1≤sets.length∧Own ((s.set b 43 [.str fr,.int .i64 fl,.int .i64 fc,.str ot,.int .i64 tl,.int .i64 tc,.str nm,.slice k1 (args.map Tr.arA),.int .i64 ln,.int .i64 cl,.slice k2 (nodes.map Tr.exA),.int .i64 g,.slice k3 (sets.map Tr.seA)]).grow 1 t3 9 1) s' (x.1 == 0) x.2 9 1) (fun x=>sets.length - x.1) ((0,1)) (by kernel_rfl) (eqa) ?_ ?_
  ·exact ⟨by simp,Own.nil _ _ _⟩
  ·rintro y ⟨i,t1⟩ s1 ⟨hi,ho⟩
   simp only at hi ho
   show awp _ _ _ _ _ (updL _ _ [.slice t1 (B8 ((sets.take i).map (U7 nodes))),.int .i64 (i:Int)]) _
   conv=>whnf
   have hbx:=ho.sub.bx _ _ kb
   by_cases hlt:i < sets.length
   ·have hga:=Tr.C1 (f:=Tr.seA) (l:=sets) Tr.A4x hlt
    have htk:=Z2 (f:=U7 nodes) Tr.A4x hlt
    obtain ⟨hSu,hSl⟩:=hA _ (Tr.E4 Tr.A4x hlt)
    generalize sets.getD i Tr.A4x=u at *
    obtain ⟨⟨un,ul,uc⟩,ue⟩:=u
    rw [C1j] at htk
    simp only [Tr.seA] at hga hSu hSl htk
    generalize (gx nodes ue).txt=ut at *
    refine wr ?_
    intro c hc
    conv=>whnf
    have hc':=ho.sub.none hc
    have hne:b≠c:=fun e=>by subst e;rw [hc] at hbx;cases hbx
    refine wr ?_
    have ho2:=fun (T:TypeId) (a b:List AV)=>(ho.set (T:=T) (cs:=a) hc').set (T:=T) (cs:=b) hc'
    refine ⟨(ho2 _ _ _).may,A5r _,all_cons ⟨rfl,rfl⟩ all_nil,?_,?_⟩
    ·show ((B8 ((sets.take i).map (U7 nodes))).length+1) * (_+1)≤_
     rw [Y3,List.length_map,List.length_take,Nat.min_eq_left (by omega)]
     exact Nat.le_trans (Nat.mul_le_mul_right _ (show i+1≤100001 by omega)) (Nat.le_of_ble_eq_true (by kernel_rfl))
    intro t' k1 k2
    have k3:=(ho2 _ _ _).grow k1 k2
    refine wr ?_
    refine ⟨(i+1,t'),?_,B9,⟨by simp only;omega,?_⟩,by simp only;omega⟩
    ·refine B5 ?_ (B5 (show AV.int .i64 (IntKind.i64.wrap ((i:Int)+1))=.int .i64 ((i+1:Nat):Int) from D4 (by omega) (by omega) (by omega)) rfl)
     show AV.slice _ _=.slice _ (B8 ((sets.take (i+1)).map (U7 nodes)))
     rw [htk]<;>rfl
    ·have ez:∀ (z:Bool) (y:List AV),(z && [y].isEmpty)=false:=by intro z y;cases z<;>rfl
     have e2:(i+1 == 0)=false:=by simp
     show Own _ _ (i+1 == 0) t' _ _
     rw [ez] at k3
     rw [e2]
     exact k3
   ·have ht:sets.take i=sets:=List.take_of_length_le (by omega)
    rw [ht]
    have ko:=Own.keep ko1 ho.sub
    have hml:(B8 (sets.map (U7 nodes))).length=sets.length:=by rw [Y3,List.length_map]
    by_cases hs:sets=[]
    ·have hs0:sets.length=0:=by rw [hs];rfl
     have hjn:=hjn1 hs
     refine wr ?_
     refine ⟨ko.may,A5r [fr,wOn,SY,wIf,GT],all_cons ⟨rfl,rfl⟩ (all_cons ⟨rfl,rfl⟩ all_nil),Nat.le_of_ble_eq_true (by kernel_rfl),?_⟩
     intro t6 k1 k2
     have k3:=ko.grow k1 k2
     refine wr ?_;(first|(refine A0.pure' ?_ (hjn _);rintro _ rfl)|refine A8.pure ?_ (hjn _));refine wr ?_
     all_goals exact ⟨k3.sub,rfl⟩
    ·have hs0:0 < sets.length:=List.length_pos_iff.2 hs
     have hjs:=hjs t1 hs
     have hjd:=hjd1 hs
     generalize K9 (sets.map (U7 nodes))=SJ at *
     refine wr ?_
     refine ⟨ko.may,A5r [fr,wOn,SY,wIf,GT],all_cons ⟨rfl,rfl⟩ (all_cons ⟨rfl,rfl⟩ all_nil),Nat.le_of_ble_eq_true (by kernel_rfl),?_⟩
     intro t5 k1 k2
     have k3:=ko.grow k1 k2
     conv=>whnf
     have hbx:=(Q4 (t:=t3) (t':=t5) (e:=9) (k:=1)).trans hbx
     refine wr ?_
     refine ⟨k3.may,A5r [fr,wOn,SY,wIf,GT,wDo,SJ],all_cons ⟨rfl,rfl⟩ (all_cons ⟨rfl,rfl⟩ all_nil),Nat.le_of_ble_eq_true (by kernel_rfl),?_⟩
     intro t6 k4 k5
     have k6:=k3.grow k4 k5
     refine wr ?_;(first|(refine A0.pure' ?_ (hjd _);rintro _ rfl)|refine A8.pure ?_ (hjd _));refine wr ?_
     all_goals exact ⟨k6.sub,rfl⟩
 ·
  have hjn0:sets=[]→∀ t,A5 Tryz.prog Γ 38 [.slice t ([[AV.str fr],[AV.str wOn],[AV.str SY]]++[[AV.str wTo],[AV.str ot]]),.str [32]] fun v=>v=.str (E7 ((fr,fl,fc),(ot,tl,tc),(nm,args,ln,cl),nodes,g,sets)):=fun h t=>by
   have hj:=hJ t
   unfold A4p at hj
   simp only at hj
   rw [if_neg hg,if_pos h,hSY] at hj
   exact hj
  have hjd0:sets≠[]→∀ t,A5 Tryz.prog Γ 38 [.slice t ([[AV.str fr],[AV.str wOn],[AV.str SY]]++[[AV.str wDo],[AV.str (K9 (sets.map (U7 nodes)))]]++[[AV.str wTo],[AV.str ot]]),.str [32]] fun v=>v=.str (E7 ((fr,fl,fc),(ot,tl,tc),(nm,args,ln,cl),nodes,g,sets)):=fun h t=>by
   have hj:=hJ t
   unfold A4p at hj
   simp only at hj
   rw [if_neg hg,if_neg h,hSY] at hj
   exact hj
  refine aps Tryz.func37 ?_
  intro s
  conv=>whnf
  intro b hb0
  refine wr ?_
  have ko0:=Own.start ((Sub.refl s).set hb0 43 [.str fr,.int .i64 fl,.int .i64 fc,.str ot,.int .i64 tl,.int .i64 tc,.str nm,.slice k1 (args.map Tr.arA),.int .i64 ln,.int .i64 cl,.slice k2 (nodes.map Tr.exA),.int .i64 g,.slice k3 (sets.map Tr.seA)]) 9 1
  have kb:(s.set b 43 [.str fr,.int .i64 fl,.int .i64 fc,.str ot,.int .i64 tl,.int .i64 tc,.str nm,.slice k1 (args.map Tr.arA),.int .i64 ln,.int .i64 cl,.slice k2 (nodes.map Tr.exA),.int .i64 g,.slice k3 (sets.map Tr.seA)]).bx b=some (43,[.str fr,.int .i64 fl,.int .i64 fc,.str ot,.int .i64 tl,.int .i64 tc,.str nm,.slice k1 (args.map Tr.arA),.int .i64 ln,.int .i64 cl,.slice k2 (nodes.map Tr.exA),.int .i64 g,.slice k3 (sets.map Tr.seA)]):=A1
  refine AWp.loopA [4,28] [29,30,31,6,32,33,34,35,36,37,38,39,40,41,42,43,44,45] (fun x:Nat × Nat=>[.slice x.2 (B8 ((sets.take x.1).map (U7 nodes))),.int .i64 x.1]) (fun x s'=>x.1≤sets.length∧Own (s.set b 43 [.str fr,.int .i64 fl,.int .i64 fc,.str ot,.int .i64 tl,.int .i64 tc,.str nm,.slice k1 (args.map Tr.arA),.int .i64 ln,.int .i64 cl,.slice k2 (nodes.map Tr.exA),.int .i64 g,.slice k3 (sets.map Tr.seA)]) s' (x.1 == 0) x.2 9 1) (fun x=>sets.length - x.1) ((0,1)) (by kernel_rfl) (eqa) ?_ ?_
  ·exact ⟨by simp,Own.nil _ _ _⟩
  ·rintro y ⟨i,t1⟩ s1 ⟨hi,ho⟩
   simp only at hi ho
   show awp _ _ _ _ _ (updL _ _ [.slice t1 (B8 ((sets.take i).map (U7 nodes))),.int .i64 (i:Int)]) _
   conv=>whnf
   have hbx:=ho.sub.bx _ _ kb
   by_cases hlt:i < sets.length
   ·have hga:=Tr.C1 (f:=Tr.seA) (l:=sets) Tr.A4x hlt
    have htk:=Z2 (f:=U7 nodes) Tr.A4x hlt
    obtain ⟨hSu,hSl⟩:=hA _ (Tr.E4 Tr.A4x hlt)
    generalize sets.getD i Tr.A4x=u at *
    obtain ⟨⟨un,ul,uc⟩,ue⟩:=u
    rw [C1j] at htk
    simp only [Tr.seA] at hga hSu hSl htk
    generalize (gx nodes ue).txt=ut at *
    refine wr ?_
    intro c hc
    conv=>whnf
    have hc':=ho.sub.none hc
    have hne:b≠c:=fun e=>by subst e;rw [hc] at hbx;cases hbx
    refine wr ?_
    have ho2:=fun (T:TypeId) (a b:List AV)=>(ho.set (T:=T) (cs:=a) hc').set (T:=T) (cs:=b) hc'
    refine ⟨(ho2 _ _ _).may,A5r _,all_cons ⟨rfl,rfl⟩ all_nil,?_,?_⟩
    ·show ((B8 ((sets.take i).map (U7 nodes))).length+1) * (_+1)≤_
     rw [Y3,List.length_map,List.length_take,Nat.min_eq_left (by omega)]
     exact Nat.le_trans (Nat.mul_le_mul_right _ (show i+1≤100001 by omega)) (Nat.le_of_ble_eq_true (by kernel_rfl))
    intro t' k1 k2
    have k3:=(ho2 _ _ _).grow k1 k2
    refine wr ?_
    refine ⟨(i+1,t'),?_,B9,⟨by simp only;omega,?_⟩,by simp only;omega⟩
    ·refine B5 ?_ (B5 (show AV.int .i64 (IntKind.i64.wrap ((i:Int)+1))=.int .i64 ((i+1:Nat):Int) from D4 (by omega) (by omega) (by omega)) rfl)
     show AV.slice _ _=.slice _ (B8 ((sets.take (i+1)).map (U7 nodes)))
     rw [htk]<;>rfl
    ·have ez:∀ (z:Bool) (y:List AV),(z && [y].isEmpty)=false:=by intro z y;cases z<;>rfl
     have e2:(i+1 == 0)=false:=by simp
     show Own _ _ (i+1 == 0) t' _ _
     rw [ez] at k3
     rw [e2]
     exact k3
   ·have ht:sets.take i=sets:=List.take_of_length_le (by omega)
    rw [ht]
    have ko:=Own.keep ko0 ho.sub
    have hml:(B8 (sets.map (U7 nodes))).length=sets.length:=by rw [Y3,List.length_map]
    by_cases hs:sets=[]
    ·have hs0:sets.length=0:=by rw [hs];rfl
     have hjn:=hjn0 hs
     refine wr ?_
     refine ⟨all_cons ⟨rfl,rfl⟩ (all_cons ⟨rfl,rfl⟩ all_nil),Nat.le_of_ble_eq_true (by kernel_rfl),?_⟩
     intro t6 k1 k2
     have k3:=ko.grow k1 k2
     refine wr ?_;(first|(refine A0.pure' ?_ (hjn _);rintro _ rfl)|refine A8.pure ?_ (hjn _));refine wr ?_
     all_goals exact ⟨k3.sub,rfl⟩
    ·have hs0:0 < sets.length:=List.length_pos_iff.2 hs
     have hjs:=hjs t1 hs
     have hjd:=hjd0 hs
     generalize K9 (sets.map (U7 nodes))=SJ at *
     refine wr ?_
     refine ⟨all_cons ⟨rfl,rfl⟩ (all_cons ⟨rfl,rfl⟩ all_nil),Nat.le_of_ble_eq_true (by kernel_rfl),?_⟩
     intro t5 k1 k2
     have k3:=ko.grow k1 k2
     conv=>whnf
     have hbx:=(Q4 (t:=1) (t':=t5) (e:=9) (k:=1)).trans hbx
     refine wr ?_
     refine ⟨k3.may,A5r [fr,wOn,SY,wDo,SJ],all_cons ⟨rfl,rfl⟩ (all_cons ⟨rfl,rfl⟩ all_nil),Nat.le_of_ble_eq_true (by kernel_rfl),?_⟩
     intro t6 k4 k5
     have k6:=k3.grow k4 k5
     refine wr ?_;(first|(refine A0.pure' ?_ (hjd _);rintro _ rfl)|refine A8.pure ?_ (hjd _));refine wr ?_
     all_goals exact ⟨k6.sub,rfl⟩
end Go.Proofs.YticnkpgmmpenlaaGreatDoor.Pr
namespace Go.Proofs.YticnkpgmmpenlaaGreatDoor
open Go Go.Ab Go.RowKit Go.Shelf
variable {Γ:Nat→AV}
set_option maxRecDepth 100000
def D9f:Ren:=⟨fun|4=>90|n=>n,fun|22=>66|25=>9|9=>9|20=>20|0=>0|3=>3|4=>4|n=>n,fun|n=>n⟩
theorem C5i:Lays8.n4 Tryz.prog D9f where
 mixed:=by kernel_rfl
 f4 := ⟨ "slices.Grow[[]string,string]", by decide, Tryz.func90.trans (congrArg some (by kernel_rfl))⟩
 t0:=Tryz.underlying0
 a0:=Tryz.isAgg0
 z0:=Tryz.sizeOf0
 v0:=Tryz.zeroValue0
 t3:=Tryz.underlying3
 a3:=Tryz.isAgg3
 z3:=Tryz.sizeOf3
 v3:=Tryz.zeroValue3
 t4:=Tryz.underlying4
 a4:=Tryz.isAgg4
 z4:=Tryz.sizeOf4
 v4:=Tryz.zeroValue4
 t9:=Tryz.underlying9
 a9:=Tryz.isAgg9
 z9:=Tryz.sizeOf9
 v9:=Tryz.zeroValue9
 t20:=Tryz.underlying20
 a20:=Tryz.isAgg20
 z20:=Tryz.sizeOf20
 v20:=Tryz.zeroValue20
 t22:=Tryz.underlying66
 a22:=Tryz.isAgg66
 z22:=Tryz.sizeOf66
 v22:=Tryz.zeroValue66
theorem D1x {n:Nat} {s:Sto} (hn:n≤10000000):A0 Tryz.prog Γ 90 [.slice 1 [],.int .i64 (n:Int)] s fun v s'=>∃ t,v=.slice t []∧Own s s' true t 9 1 :=
 C0o (k:=1) C5i rfl rfl rfl rfl rfl rfl (by decide) (Nat.le_of_ble_eq_true (by kernel_rfl)) hn
end Go.Proofs.YticnkpgmmpenlaaGreatDoor
namespace Go.Proofs.YticnkpgmmpenlaaGreatDoor.Pa
open Go Go.Ab Go.RowKit
variable {Γ:Nat→AV}
attribute [local irreducible] A5 Sto.set Sto.grow
section
variable {s:Sto}
def B3k (x:List UInt8):List AV:=[.str x]
theorem C42 {tk:Nat} {ls:List (List (List UInt8))} (hn:ls.length≤100) (hz:ls.flatten.length≤1000000) :
  A0 Tryz.prog Γ 21 [.slice tk (ls.map (slA B3k))] s fun v s'=>∃ t,v=.slice t (ls.flatten.map B3k)∧Own s s' ls.flatten.isEmpty t 9 1:=by
 have hlen:(ls.map (slA B3k)).length=ls.length:=List.length_map ..
 refine acs Tryz.func21 ?_
 refine wp ?_
 refine AWp.loopA [3,11] [12,13,14,5,15,16,17,18,19,20,21,22] (fun i:Nat=>[.int .i64 ((ls.take i).flatten.length:Int),.int .i64 (i:Int)]) (fun i s'=>i≤ls.length∧s'=s) (fun i=>ls.length - i) (0) (by kernel_rfl) (eqa) ?_ ?_
 ·exact ⟨Nat.zero_le _,rfl⟩
 ·rintro x i s' ⟨hi,hs'⟩
  subst s'
  show awp _ _ _ _ _ (updL _ _ [.int .i64 ((ls.take i).flatten.length:Int),.int .i64 (i:Int)]) _
  conv=>whnf
  by_cases hlt:i < ls.length
  ·have hat:=B2i (A:=B3k) hlt
   have hz:((i:Int)).toNat=i:=rfl
   have hle:=A8l ls (i+1)
   rw [J2 hlt,List.length_append] at hle
   have hw1:IntKind.i64.wrap (((ls.take i).flatten.length:Int)+(((ls.getD i []).map B3k).length:Int))=((ls.take (i+1)).flatten.length:Int):=C3 (by rw [J2 hlt,List.length_append,List.length_map];omega) (by omega) (by rw [J2 hlt,List.length_append];omega)
   have hw2:IntKind.i64.wrap ((i:Int)+1)=((i+1:Nat):Int):=C3 (by omega) (by omega) (by omega)
   repeat' ((first|exact pru|(refine brS (fun h=>?_) (fun h=>?_)<;>(try rw [h])<;>(try simp only [bS,↓reduceIte] at h))|(rw [hz])|(rw [hat])|(rw [hw1])|(rw [hw2])|refine gS ?_|refine aA ?_|refine nA ?_|fail)<;>(conv=>whnf))
   exact ⟨i+1,eqa,B9,⟨hlt,rfl⟩,by omega⟩
  ·obtain rfl:i=ls.length:=by omega
   rw [List.take_length]
   refine wp ?_;(refine A0.by (D1x (by omega)) ?_;rintro _ s1 ⟨t0,rfl,ho⟩);refine wp ?_
   refine AWp.loopA [6,27] [28,29,30,8,31,32,33,34] (fun q:Nat × Nat=>[.slice q.2 ((ls.take q.1).flatten.map B3k),.int .i64 (q.1:Int)]) (fun q s'=>q.1≤ls.length∧Own s s' (ls.take q.1).flatten.isEmpty q.2 9 1) (fun q=>ls.length - q.1) ((0,t0)) (by kernel_rfl) (eqa) ?_ ?_
   ·exact ⟨Nat.zero_le _,ho⟩
   ·rintro y ⟨i,t⟩ s' ⟨hi,hown⟩
    simp only at hi hown
    show awp _ _ _ _ _ (updL _ _ [.slice t ((ls.take i).flatten.map B3k),.int .i64 (i:Int)]) _
    conv=>whnf
    by_cases hlt:i < ls.length
    ·have hat:=B2i (A:=B3k) hlt
     have hz:((i:Int)).toNat=i:=rfl
     have hle:=A8l ls (i+1)
     rw [J2 hlt,List.length_append] at hle
     have hw2:IntKind.i64.wrap ((i:Int)+1)=((i+1:Nat):Int):=C3 (by omega) (by omega) (by omega)
     repeat' ((first|exact pru|(refine brS (fun h=>?_) (fun h=>?_)<;>(try rw [h])<;>(try simp only [bS,↓reduceIte] at h))|(rw [hz])|(rw [hat])|refine gS ?_|refine aA ?_|refine nA ?_|fail)<;>(conv=>whnf))
     refine ⟨hown.may,fun c hc=>by obtain ⟨z,_,rfl⟩:=List.mem_map.1 hc;rfl,fun c hc=>by obtain ⟨z,_,rfl⟩:=List.mem_map.1 hc;exact ⟨rfl,rfl⟩,Nat.le_trans (Nat.mul_le_mul_right _ (show _≤1000000 from by simp only [List.length_map];omega)) (Nat.le_of_ble_eq_true (by kernel_rfl)),?_⟩
     intro t2 k1 k2
     have k3:=hown.grow k1 k2
     refine wp ?_;(rw [hw2]);refine wp ?_
     refine ⟨(i+1,t2),?_,B9,⟨hlt,?_⟩,by simp only;omega⟩
     ·dsimp only
      exact B5 (congrArg (AV.slice t2) (show (ls.take i).flatten.map B3k++(ls.getD i []).map B3k=_ by rw [J2 hlt,List.map_append])) (B5 rfl rfl)
     ·dsimp only
      rw [J2 hlt,A7n]
      rw [show ((ls.getD i []).map B3k).isEmpty=(ls.getD i []).isEmpty by cases ls.getD i []<;>rfl] at k3
      exact k3
    ·obtain rfl:i=ls.length:=by omega
     rw [List.take_length] at hown
     rw [List.take_length]
     refine wp ?_
     exact ⟨_,Sub.refl _,t,rfl,hown⟩
end
end Go.Proofs.YticnkpgmmpenlaaGreatDoor.Pa
namespace Go.Proofs.YticnkpgmmpenlaaGreatDoor.Tr
open Go Go.Ab Go.RowKit
variable {Γ:Nat→AV}
attribute [local irreducible] A5 Sto.set Sto.grow
structure Kp (s s':Sto) (ba:Nat) (f:Int):Prop where
 here:s'.bx ba=some (3,[.int .i64 f])
 bx:∀ c z,c≠ba→s.bx c=some z→s'.bx c=some z
 sub:∀ s0,Sub s0 s→s0.bx ba=none→Sub s0 s'
theorem Kp.refl {s:Sto} {ba:Nat} {f:Int} (h:s.bx ba=some (3,[.int .i64 f])):Kp s s ba f:=⟨h,fun _ _ _ h=>h,fun _ h _=>h⟩
theorem Kp.trans {s s1 s2:Sto} {ba:Nat} {f g:Int} (h:Kp s s1 ba f) (k:Kp s1 s2 ba g):Kp s s2 ba g :=
 ⟨k.here,fun c z hc h0=>k.bx c z hc (h.bx c z hc h0),fun s0 hs hn=>k.sub s0 (h.sub s0 hs hn) hn⟩
theorem Kp.put {s s':Sto} {ba:Nat} {f:Int} (h:Kp s s' ba f) (g:Int):Kp s (s'.set ba 3 [.int .i64 g]) ba g :=
 ⟨A1,fun c z hc h0=>(A2 hc).trans (h.bx c z hc h0),fun s hs hn=>(h.sub s hs hn).set hn _ _⟩
theorem Kp.fresh {s s':Sto} {ba c:Nat} {f:Int} (h:Kp s s' ba f) (hc:s'.bx c=none) (T:TypeId) (z:List AV):Kp s (s'.set c T z) ba f :=
 ⟨(A2 (A3 h.here hc)).trans h.here,fun d y hd h0=>(A2 (A3 (h.bx d y hd h0) hc)).trans (h.bx d y hd h0),fun s0 hs hn=>(h.sub s0 hs hn).set ((h.sub s0 hs hn).none hc) _ _⟩
structure B7l (s:Sto) (x:(Nat × Nat × Nat) × Tn) (ba bt bs bd b1 b2:Nat):Prop where
 small:x.2.2.2.2.1.length≤100000
 tr:s.bx bt=some (43,tnA x)
 sz:s.bx bs=some (52,[.raw (some ⟨b1,0,none⟩) x.2.2.2.2.1.length x.2.2.2.2.1.length])
 dp:s.bx bd=some (52,[.raw (some ⟨b2,0,none⟩) x.2.2.2.2.1.length x.2.2.2.2.1.length])
 c1:s.bx b1=some (3,col Prod.fst (tab Sc.C4 x.2.2.2.2.1 x.2.2.2.2.1.length) x.2.2.2.2.1.length)
 c2:s.bx b2=some (3,col Prod.snd (tab Sc.C4 x.2.2.2.2.1 x.2.2.2.2.1.length) x.2.2.2.2.1.length)
 n1:bt≠ba
 n2:bs≠ba
 n3:bd≠ba
 n4:b1≠ba
 n5:b2≠ba
theorem B7l.keep {s s':Sto} {x:(Nat × Nat × Nat) × Tn} {ba bt bs bd b1 b2:Nat} {f:Int} (h:B7l s x ba bt bs bd b1 b2) (k:Kp s s' ba f):B7l s' x ba bt bs bd b1 b2 :=
 ⟨h.small,k.bx _ _ h.n1 h.tr,k.bx _ _ h.n2 h.sz,k.bx _ _ h.n3 h.dp,k.bx _ _ h.n4 h.c1,k.bx _ _ h.n5 h.c2,h.n1,h.n2,h.n3,h.n4,h.n5⟩
theorem D4n {l:List Ex} {f g:Int} (h:whB l f g=true):f≤g∧g < l.length:=by
 unfold whB at h
 simp only [Bool.and_eq_true,decide_eq_true_eq] at h
 exact ⟨h.1,h.2.1⟩
theorem B47 {s:Sto} {x:(Nat × Nat × Nat) × Tn} {ba bt bs bd b1 b2:Nat} {f:Int} (root:Int) (hh:B7l s x ba bt bs bd b1 b2) (ha:s.bx ba=some (3,[.int .i64 f])) (hf:0≤f∧f≤x.2.2.2.2.1.length) :
    A0 Tryz.prog Γ 140 [.int .i64 root,.ptr (some ⟨ba,0,none⟩),.ptr (some ⟨bt,0,none⟩),.ptr (some ⟨bs,0,none⟩),.ptr (some ⟨bd,0,none⟩)] s fun v s' =>
      v=.bool (whB x.2.2.2.2.1 f root)∧Kp s s' ba (if whB x.2.2.2.2.1 f root=true then root+1 else f):=by
  obtain ⟨hl,ht,hs,hd,hc1,hc2,n1,n2,n3,n4,n5⟩:=hh
  have hml:(x.2.2.2.2.1.map exA).length=x.2.2.2.2.1.length:=List.length_map ..
  have htl:=A1k Sc.C4 x.2.2.2.2.1 x.2.2.2.2.1.length
  have hbd:=fun h:0≤root∧root < x.2.2.2.2.1.length=>B5t Sc.C4 x.2.2.2.2.1 (i:=root.toNat) (by omega)
  have l1:=fun (h:0≤root∧root < x.2.2.2.2.1.length) (m:Nat) (hm:m=root.toNat)=>A54 (f:=Prod.fst) rfl (r:=tab Sc.C4 x.2.2.2.2.1 x.2.2.2.2.1.length) (n:=x.2.2.2.2.1.length) (j:=root.toNat) (m:=m) (by omega) (by omega) hm
  have l2:=fun (h:0≤root∧root < x.2.2.2.2.1.length) (m:Nat) (hm:m=root.toNat)=>A54 (f:=Prod.snd) rfl (r:=tab Sc.C4 x.2.2.2.2.1 x.2.2.2.2.1.length) (n:=x.2.2.2.2.1.length) (j:=root.toNat) (m:=m) (by omega) (by omega) hm
  have hw:0≤root∧root < x.2.2.2.2.1.length→IntKind.i64.wrap (IntKind.i64.wrap (root - f)+1)=root - f+1:=fun h=>by rw [C3 (b:=root - f) rfl (by omega) (by omega)];exact C3 rfl (by omega) (by omega)
  have hw1:0≤root∧root < x.2.2.2.2.1.length→IntKind.i64.wrap (root+1)=root+1:=fun h=>C3 rfl (by omega) (by omega)
  have hwh:whB x.2.2.2.2.1 f root=(decide (f≤root) && (decide (root < x.2.2.2.2.1.length) && (decide ((nd Sc.C4 x.2.2.2.2.1 root.toNat).1=root - f+1) && decide ((nd Sc.C4 x.2.2.2.2.1 root.toNat).2≤64)))):=rfl
  generalize whB x.2.2.2.2.1 f root=B at *
  unfold nd at hwh hbd
  generalize (tab Sc.C4 x.2.2.2.2.1 x.2.2.2.2.1.length).getD root.toNat (0,0)=p at *
  refine acs Tryz.func140 ?_
  conv=>whnf
  repeat' ((first|exact pru|(refine brS (fun h=>?_) (fun h=>?_)<;>(try rw [h])<;>(try simp only [bS,↓reduceIte] at h))|(refine A4 ha ?_)|(refine A4 ht ?_)|(refine A4 hs ?_)|(refine A4 hd ?_)|(refine A4 hc1 (A3t (l1 (by omega) _ (by show 0+root.toNat * 1=root.toNat;omega)) ?_))|(refine A4 hc2 (A3t (l2 (by omega) _ (by show 0+root.toNat * 1=root.toNat;omega)) ?_))|(rw [hw (by omega)])|refine gS ?_|refine aA ?_|refine nA ?_|fail)<;>(conv=>whnf))
  all_goals refine ⟨_,Sub.refl _,?_⟩
  all_goals first
    | (have hB:B=false:=by (rw [hwh];clear l1 l2 hbd hc1 hc2 ht hs hd ha;grind)
       subst hB
       exact ⟨rfl,Kp.refl ha⟩)
    | (have hB:B=true:=by (rw [hwh];clear l1 l2 hbd hc1 hc2 ht hs hd ha;grind)
       subst hB
       refine ⟨rfl,?_⟩
       rw [if_pos rfl,hw1 (by omega)]
       exact (Kp.refl ha).put _)
theorem D1p (hT:Sc.Wds Γ) {s:Sto} {x:(Nat × Nat × Nat) × Tn} {ba bt bs bd b1 b2 bw:Nat} {Tw:TypeId} {f:Int} (u:Se) (hh:B7l s x ba bt bs bd b1 b2)
  (hw:s.bx bw=some (Tw,[.func (.func 140) [] [.ptr (some ⟨ba,0,none⟩),.ptr (some ⟨bt,0,none⟩),.ptr (some ⟨bs,0,none⟩),.ptr (some ⟨bd,0,none⟩)]]))
  (ha:s.bx ba=some (3,[.int .i64 f])) (hf:0≤f∧f≤x.2.2.2.2.1.length) :
  A0 Tryz.prog Γ 142 [.agg (seA u),.ptr (some ⟨bw,0,none⟩)] s fun v s' =>
   v=.bool (K2 u.1 && whB x.2.2.2.2.1 f u.2)∧∃ f',Kp s s' ba f'∧((K2 u.1 && whB x.2.2.2.2.1 f u.2)=true→f'=u.2+1):=by
 refine acs Tryz.func142 ?_
 conv=>whnf
 intro c hc
 conv=>whnf
 have hn:=A3 hw hc
 have k:=fun (T:TypeId) (z:List AV)=>(Kp.refl ha).fresh hc T z
 repeat' ((first|(refine brS (fun h=>?_) (fun h=>?_)<;>(try rw [h])<;>(try simp only [bS,↓reduceIte] at h))|(refine A4 A1 ?_)|(refine A0.pure' ?_ (E6 hT u.1);rintro _ rfl)|refine A8.pure ?_ (E6 hT u.1)|(refine L7 hn (A4 hw ?_))|(refine A0.by (B47 u.2 (hh.keep (k _ _)) (k _ _).here hf) ?_;rintro _ s2 ⟨rfl,hk2⟩)|refine gS ?_|refine aA ?_|refine nA ?_|fail)<;>(conv=>whnf))
 ·refine ⟨_,Sub.refl _,B2 ?_,_,(k _ _).trans hk2,?_⟩
  ·simp [*]
  ·intro h2
   rw [if_pos ((Bool.and_eq_true _ _).mp h2).2]
 ·refine ⟨_,Sub.refl _,B2 ?_,f,k _ _,?_⟩
  ·simp [*]
  ·intro h2
   simp [*] at h2
theorem C2o (hT:Sc.Wds Γ) {s:Sto} {x:(Nat × Nat × Nat) × Tn} {ba bt bs bd b1 b2 bw bi:Nat} {Tw Ti:TypeId} {f:Int} (u:Se) (hh:B7l s x ba bt bs bd b1 b2)
  (hw:s.bx bw=some (Tw,[.func (.func 140) [] [.ptr (some ⟨ba,0,none⟩),.ptr (some ⟨bt,0,none⟩),.ptr (some ⟨bs,0,none⟩),.ptr (some ⟨bd,0,none⟩)]])) (nw:bw≠ba)
  (hi:s.bx bi=some (Ti,[.func (.func 142) [] [.ptr (some ⟨bw,0,none⟩)]]))
  (ha:s.bx ba=some (3,[.int .i64 f])) (hf:0≤f∧f≤x.2.2.2.2.1.length) :
  A0 Tryz.prog Γ 208 [.agg (seA u),.ptr (some ⟨bi,0,none⟩)] s fun v s' =>
   v=.bool (!(K2 u.1 && whB x.2.2.2.2.1 f u.2))∧∃ f',Kp s s' ba f'∧((K2 u.1 && whB x.2.2.2.2.1 f u.2)=true→f'=u.2+1):=by
 refine acs Tryz.func208 ?_
 conv=>whnf
 intro c hc
 conv=>whnf
 have hn:=A3 hi hc
 have k:=fun (T:TypeId) (z:List AV)=>(Kp.refl ha).fresh hc T z
 repeat' ((first|(refine brS (fun h=>?_) (fun h=>?_)<;>(try rw [h])<;>(try simp only [bS,↓reduceIte] at h))|(refine L7 hn (A4 hi ?_))|(refine A4 A1 ?_)|(refine A0.by (D1p hT u (hh.keep (k _ _)) ((k _ _).bx _ _ nw hw) (k _ _).here hf) ?_;rintro _ s2 ⟨rfl,f',hk2,hB⟩)|refine gS ?_|refine aA ?_|refine nA ?_|fail)<;>(conv=>whnf))
 exact ⟨_,Sub.refl _,rfl,f',(k _ _).trans hk2,hB⟩
theorem C2v (hT:Sc.Wds Γ) {s:Sto} {x:(Nat × Nat × Nat) × Tn} {ba bt bs bd b1 b2 bw bi:Nat} {Tw Ti:TypeId} {f:Int} (t:Nat) (l:List Se) (hl:l.length≤100000) (hh:B7l s x ba bt bs bd b1 b2)
  (hw:s.bx bw=some (Tw,[.func (.func 140) [] [.ptr (some ⟨ba,0,none⟩),.ptr (some ⟨bt,0,none⟩),.ptr (some ⟨bs,0,none⟩),.ptr (some ⟨bd,0,none⟩)]])) (nw:bw≠ba)
  (hi:s.bx bi=some (Ti,[.func (.func 142) [] [.ptr (some ⟨bw,0,none⟩)]])) (ni:bi≠ba)
  (ha:s.bx ba=some (3,[.int .i64 f])) (hf:0≤f∧f≤x.2.2.2.2.1.length) :
  A0 Tryz.prog Γ 241 [.slice t (l.map seA),.func (.func 208) [] [.ptr (some ⟨bi,0,none⟩)]] s fun v s' =>
   ∃ r:Int,v=.int .i64 r∧∃ f',Kp s s' ba f'∧(decide (r ≥ 0)=true∧A1i x.2.2.2.2.1 l f=none∨decide (r ≥ 0)=false∧A1i x.2.2.2.2.1 l f=some f'):=by
 have hml:(l.map seA).length=l.length:=List.length_map ..
 refine acs Tryz.func241 ?_
 conv=>whnf
 refine AWp.loopA [8] [9,10,5,11,12,13,14,15,16,17,4,18] (fun i:Nat=>[.int .i64 i]) (fun i s'=>i≤l.length∧∃ f',Kp s s' ba f'∧(0≤f'∧f'≤x.2.2.2.2.1.length)∧A1i x.2.2.2.2.1 l f=A1i x.2.2.2.2.1 (l.drop i) f') (fun i=>l.length - i) (0) (by kernel_rfl) (eqa) ?_ ?_
 ·exact ⟨by omega,f,Kp.refl ha,hf,by rw [List.drop_zero]⟩
 ·rintro y i s1 ⟨hi1,f',hk,hf',hp⟩
  conv=>whnf
  have hga:=fun h:i < l.length=>C1 (f:=seA) (l:=l) A4x h
  have hd:i < l.length→l.drop i=l.getD i A4x::l.drop (i+1):=fun h=>by rw [List.drop_eq_getElem_cons h];simp [List.getD,h]
  generalize l.getD i A4x=u at *
  repeat' ((first|(refine brS (fun h=>?_) (fun h=>?_)<;>(try rw [h])<;>(try simp only [bS,↓reduceIte] at h))|(rw [show (l.map seA).getD ((i:Int)).toNat []=_ from hga (by omega)])|(refine A0.by (C2o hT u (hh.keep hk) (hk.bx _ _ nw hw) nw (hk.bx _ _ ni hi) hk.here hf') ?_;rintro _ s2 ⟨rfl,f2,hk2,hB⟩)|refine gS ?_|refine aA ?_|refine nA ?_|fail)<;>(conv=>whnf))
  ·refine ⟨_,Sub.refl _,i,rfl,f2,hk.trans hk2,.inl ⟨decide_eq_true (by omega),?_⟩⟩
   rw [hp,hd (by omega),A1i,if_neg (by rw [h];decide)]
  ·have h2:=hB h
   subst h2
   have h3:=D4n ((Bool.and_eq_true _ _).mp h).2
   refine ⟨i+1,eqa,B9,⟨by omega,u.2+1,hk.trans hk2,by omega,?_⟩,by omega⟩
   rw [hp,hd (by omega),A1i,if_pos h]
  ·refine ⟨_,Sub.refl _,-1,rfl,f',hk,.inr ⟨rfl,?_⟩⟩
   rw [hp,C6 (by omega)];rfl
theorem B4w (hT:Sc.Wds Γ) {s:Sto} {x:(Nat × Nat × Nat) × Tn} {ba bt bs bd b1 b2 bw bi:Nat} {Tw Ti:TypeId} {f:Int} (t:Nat) (l:List Se) (hl:l.length≤100000) (hh:B7l s x ba bt bs bd b1 b2)
  (hw:s.bx bw=some (Tw,[.func (.func 140) [] [.ptr (some ⟨ba,0,none⟩),.ptr (some ⟨bt,0,none⟩),.ptr (some ⟨bs,0,none⟩),.ptr (some ⟨bd,0,none⟩)]])) (nw:bw≠ba)
  (hi:s.bx bi=some (Ti,[.func (.func 142) [] [.ptr (some ⟨bw,0,none⟩)]])) (ni:bi≠ba)
  (ha:s.bx ba=some (3,[.int .i64 f])) (hf:0≤f∧f≤x.2.2.2.2.1.length) :
  A0 Tryz.prog Γ 207 [.slice t (l.map seA),.func (.func 208) [] [.ptr (some ⟨bi,0,none⟩)]] s fun v s' =>
   ∃ r:Bool,v=.bool r∧∃ f',Kp s s' ba f'∧(r=true∧A1i x.2.2.2.2.1 l f=none∨r=false∧A1i x.2.2.2.2.1 l f=some f'):=by
 refine acs Tryz.func207 ?_
 refine wr ?_;(refine A0.by (C2v hT t l hl hh hw nw hi ni ha hf) ?_;rintro _ s2 ⟨r,rfl,f',hk,hr⟩);refine wr ?_
 exact ⟨_,Sub.refl _,_,rfl,f',hk,hr⟩
theorem B76 (hT:Sc.Wds Γ) {s:Sto} {x:(Nat × Nat × Nat) × Tn} {ba bt bs bd b1 b2 bw:Nat} {Tw:TypeId} {f:Int} (t:Nat) (l:List Se) (hl:l.length≤100000) (hh:B7l s x ba bt bs bd b1 b2)
  (hw:s.bx bw=some (Tw,[.func (.func 140) [] [.ptr (some ⟨ba,0,none⟩),.ptr (some ⟨bt,0,none⟩),.ptr (some ⟨bs,0,none⟩),.ptr (some ⟨bd,0,none⟩)]])) (nw:bw≠ba)
  (ha:s.bx ba=some (3,[.int .i64 f])) (hf:0≤f∧f≤x.2.2.2.2.1.length) :
  A0 Tryz.prog Γ 141 [.slice t (l.map seA),.func (.func 142) [] [.ptr (some ⟨bw,0,none⟩)]] s fun v s' =>
   ∃ r:Bool,v=.bool r∧∃ f',Kp s s' ba f'∧(r=false∧A1i x.2.2.2.2.1 l f=none∨r=true∧A1i x.2.2.2.2.1 l f=some f'):=by
 refine acs Tryz.func141 ?_
 conv=>whnf
 intro c hc
 conv=>whnf
 have k:=fun (T:TypeId) (z:List AV)=>(Kp.refl ha).fresh hc T z
 have nc:=A3 ha hc
 refine wr ?_;(refine A0.by (B4w hT t l hl (hh.keep (k _ _)) ((k _ _).bx _ _ nw hw) nw A1 (fun h=>nc h.symm) (k _ _).here hf) ?_;rintro _ s2 ⟨r,rfl,f',hk,hr⟩);refine wr ?_
 refine ⟨_,Sub.refl _,_,rfl,f',(k _ _).trans hk,?_⟩
 rcases hr with ⟨rfl,h⟩|⟨rfl,h⟩
 ·exact .inl ⟨rfl,h⟩
 ·exact .inr ⟨rfl,h⟩
theorem B06 (hT:Sc.Wds Γ) (x:(Nat × Nat × Nat) × Tn) (hx:x.2.2.2.1.2.1.length≤100000∧x.2.2.2.2.1.length≤100000∧x.2.2.2.2.2.2.length≤100000):A5 Tryz.prog Γ 89 [.agg (tnA x)] fun v=>v=.bool (trB x):=by
 obtain ⟨hx1,hx2,hx3⟩:=hx
 have hle:(x.2.2.2.2.1.map exA).length=x.2.2.2.2.1.length:=List.length_map ..
 have htr:trB x=(K2 x.2.1 && (K2 x.2.2.1 && (A2w (x.1.1,x.2.2.2.1) && decide ((B13 x.2.2.2.2.1 x.2.2.2.2.2.1).bind (A1i x.2.2.2.2.1 x.2.2.2.2.2.2)=some (x.2.2.2.2.1.length:Int))))):=rfl
 have hgo:B13 x.2.2.2.2.1 x.2.2.2.2.2.1=if x.2.2.2.2.2.1 = -1 then some 0 else if whB x.2.2.2.2.1 0 x.2.2.2.2.2.1=true then some (x.2.2.2.2.2.1+1) else none:=rfl
 refine aps Tryz.func89 ?_
 intro s
 conv=>whnf
 intro bt hbt
 refine wr ?_
 refine A0.by (C38 Sc.C4 _ x.2.2.2.2.1 (by omega) (fun _ _=>Sc.P2 hT _) _) ?_
 rintro _ s1 ⟨b1,b2,rfl,hz⟩
 refine wr ?_
 have z1:=hz.size
 have z2:=hz.depth
 have z3:s1.bx bt=some (43,tnA x):=hz.sub.bx _ _ A1
 have n_b1_b2:=hz.ne
 intro bs hbs
 have n_bt_bs:bt≠bs:=A3 bxa hbs
 have n_bs_bt:=n_bt_bs.symm
 have n_b1_bs:b1≠bs:=A3 bxa hbs
 have n_bs_b1:=n_b1_bs.symm
 have n_b2_bs:b2≠bs:=A3 bxa hbs
 have n_bs_b2:=n_b2_bs.symm
 conv=>whnf
 intro bd hbd
 have n_bs_bd:bs≠bd:=A3 bxa hbd
 have n_bd_bs:=n_bs_bd.symm
 have n_bt_bd:bt≠bd:=A3 bxa hbd
 have n_bd_bt:=n_bt_bd.symm
 have n_b1_bd:b1≠bd:=A3 bxa hbd
 have n_bd_b1:=n_b1_bd.symm
 have n_b2_bd:b2≠bd:=A3 bxa hbd
 have n_bd_b2:=n_b2_bd.symm
 refine wr ?_
 intro ba hba
 have n_bs_ba:bs≠ba:=A3 bxa hba
 have n_ba_bs:=n_bs_ba.symm
 have n_bd_ba:bd≠ba:=A3 bxa hba
 have n_ba_bd:=n_bd_ba.symm
 have n_bt_ba:bt≠ba:=A3 bxa hba
 have n_ba_bt:=n_bt_ba.symm
 have n_b1_ba:b1≠ba:=A3 bxa hba
 have n_ba_b1:=n_b1_ba.symm
 have n_b2_ba:b2≠ba:=A3 bxa hba
 have n_ba_b2:=n_b2_ba.symm
 refine wr ?_
 intro bw hbw
 have n_bs_bw:bs≠bw:=A3 bxa hbw
 have n_bw_bs:=n_bs_bw.symm
 have n_bd_bw:bd≠bw:=A3 bxa hbw
 have n_bw_bd:=n_bd_bw.symm
 have n_bt_bw:bt≠bw:=A3 bxa hbw
 have n_bw_bt:=n_bt_bw.symm
 have n_b1_bw:b1≠bw:=A3 bxa hbw
 have n_bw_b1:=n_b1_bw.symm
 have n_b2_bw:b2≠bw:=A3 bxa hbw
 have n_bw_b2:=n_b2_bw.symm
 have n_ba_bw:ba≠bw:=A3 bxa hbw
 have n_bw_ba:=n_ba_bw.symm
 refine wr ?_
 have hsub:Ab.Sub s s1:=((Sub.refl _).set hbt _ _).trans hz.sub
 have g1:=hsub.none hbs
 have g2:s.bx bd=none:=by (have g:=hbd;(repeat (replace g:=(D0 g).2));exact hsub.none g)
 have g3:s.bx ba=none:=by (have g:=hba;(repeat (replace g:=(D0 g).2));exact hsub.none g)
 have g4:s.bx bw=none:=by (have g:=hbw;(repeat (replace g:=(D0 g).2));exact hsub.none g)
 repeat' ((first|(refine brS (fun h=>?_) (fun h=>?_)<;>(try rw [h])<;>(try simp only [bS,↓reduceIte] at h))|refine D3 ?_|(refine A0.pure' ?_ (E6 hT x.2.1);rintro _ rfl)|refine A8.pure ?_ (E6 hT x.2.1)|(refine A0.pure' ?_ (E6 hT x.2.2.1);rintro _ rfl)|refine A8.pure ?_ (E6 hT x.2.2.1)|(refine A0.pure' ?_ (A6k hT (x.1.1,x.2.2.2.1) hx1);rintro _ rfl)|refine A8.pure ?_ (A6k hT (x.1.1,x.2.2.2.1) hx1)|(refine A0.by (B47 (x:=x) (bt:=bt) (bs:=bs) (bd:=bd) (b1:=b1) (b2:=b2) (f:=0) x.2.2.2.2.2.1 ⟨hx2,bxa,bxa,bxa,bxa,bxa,n_bt_ba,n_bs_ba,n_bd_ba,n_b1_ba,n_b2_ba⟩ bxa ⟨by omega,by omega⟩) ?_;rintro _ s2 ⟨rfl,hk2⟩)|refine gS ?_|refine aA ?_|refine nA ?_|fail)<;>(conv=>whnf))
 ·exact ⟨(by (repeat (first|exact hsub|refine Sub.set ?_ (by assumption) _ _))),B2 (by rw [htr];simp [*])⟩
 ·exact ⟨(by (repeat (first|exact hsub|refine Sub.set ?_ (by assumption) _ _))),B2 (by rw [htr];simp [*])⟩
 ·exact ⟨(by (repeat (first|exact hsub|refine Sub.set ?_ (by assumption) _ _))),B2 (by rw [htr];simp [*])⟩
 ·refine ⟨hk2.sub s (by (repeat (first|exact hsub|refine Sub.set ?_ (by assumption) _ _))) g3,B2 ?_⟩
  rw [htr,hgo,if_neg (by assumption),if_neg (by simp [*])]
  simp
 ·have hwh:=h
  have hle0:=D4n hwh
  have e0:trB x=decide (A1i x.2.2.2.2.1 x.2.2.2.2.2.2 (x.2.2.2.2.2.1+1)=some (x.2.2.2.2.1.length:Int)):=by
   rw [htr,hgo]
   simp only [*,Bool.true_and,if_true,if_false,Option.bind_some]
  rw [if_pos hwh] at hk2
  have hh2:=B7l.keep (x:=x) (bt:=bt) (bs:=bs) (bd:=bd) (b1:=b1) (b2:=b2) ⟨hx2,bxa,bxa,bxa,bxa,bxa,n_bt_ba,n_bs_ba,n_bd_ba,n_b1_ba,n_b2_ba⟩ hk2
  have y1:=hk2.bx bw _ n_bw_ba A1
  have y2:=hh2.tr
  have s0:=hk2.sub s (by (repeat (first|exact hsub|refine Sub.set ?_ (by assumption) _ _))) g3
  repeat' ((first|(refine brS (fun h=>?_) (fun h=>?_)<;>(try rw [h])<;>(try simp only [bS,↓reduceIte] at h))|refine D3 ?_|(refine A0.by (B76 hT (bw:=bw) (f:=x.2.2.2.2.2.1+1) _ x.2.2.2.2.2.2 hx3 hh2 y1 n_bw_ba hk2.here ⟨by omega,by omega⟩) ?_;rintro _ s3 ⟨r,rfl,f',hk3,hr⟩;have y3:=hk3.here;have y4:=hk3.bx _ _ n_bt_ba y2)|refine gS ?_|refine aA ?_|refine nA ?_|fail)<;>(conv=>whnf))
  all_goals refine ⟨hk3.sub s s0 g3,B2 ?_⟩
  all_goals (rw [e0])
  all_goals (rcases hr with ⟨rfl,hs⟩|⟨rfl,hs⟩<;>(rw [hs];simp [*] at *))
 ·have e0:trB x=decide (A1i x.2.2.2.2.1 x.2.2.2.2.2.2 0=some (x.2.2.2.2.1.length:Int)):=by
   rw [htr,hgo]
   simp only [*,Bool.true_and,if_true,if_false,Option.bind_some]
  repeat' ((first|(refine brS (fun h=>?_) (fun h=>?_)<;>(try rw [h])<;>(try simp only [bS,↓reduceIte] at h))|refine D3 ?_|(refine A0.by (B76 hT (x:=x) (bt:=bt) (bs:=bs) (bd:=bd) (b1:=b1) (b2:=b2) (bw:=bw) (f:=0) _ x.2.2.2.2.2.2 hx3 ⟨hx2,bxa,bxa,bxa,bxa,bxa,n_bt_ba,n_bs_ba,n_bd_ba,n_b1_ba,n_b2_ba⟩ bxa n_bw_ba bxa ⟨by omega,by omega⟩) ?_;rintro _ s3 ⟨r,rfl,f',hk3,hr⟩;have y3:=hk3.here;have y4:=hk3.bx bt (43,tnA x) n_bt_ba bxa)|refine gS ?_|refine aA ?_|refine nA ?_|fail)<;>(conv=>whnf))
  all_goals refine ⟨hk3.sub s (by (repeat (first|exact hsub|refine Sub.set ?_ (by assumption) _ _))) g3,B2 ?_⟩
  all_goals (rw [e0])
  all_goals (rcases hr with ⟨rfl,hs⟩|⟨rfl,hs⟩<;>(rw [hs];simp [*] at *))
theorem C5f (hT:Sc.Wds Γ) {s:Sto} {b:Nat} {T0:TypeId} (u:(Nat × Nat × Nat) × Tn) (hu:(u.2.2.2.1.2.1.length≤100000∧u.2.2.2.2.1.length≤100000∧u.2.2.2.2.2.2.length≤100000)) (hb:s.bx b=some (T0,[.func (.func 89) [] []])):A0 Tryz.prog Γ 139 [.agg (tnA u),.ptr (some ⟨b,0,none⟩)] s fun v s'=>v=.bool (!trB u)∧s'=s:=by
 refine acs Tryz.func139 ?_
 conv=>whnf
 intro c hc
 conv=>whnf
 have hn:=A3 hb hc
 repeat' ((first|(refine brS (fun h=>?_) (fun h=>?_)<;>(try rw [h])<;>(try simp only [bS,↓reduceIte] at h))|(refine L7 hn (A4 hb ?_))|(refine A4 A1 ?_)|(refine A0.pure' ?_ (B06 hT u hu);rintro _ rfl)|refine A8.pure ?_ (B06 hT u hu)|refine gS ?_|refine aA ?_|refine nA ?_|fail)<;>(conv=>whnf))
 exact ⟨_,(Sub.refl _).set hc _ _,rfl,rfl⟩
theorem B7w (hT:Sc.Wds Γ) {s:Sto} {b:Nat} {T0:TypeId} (t:Nat) (l:List ((Nat × Nat × Nat) × Tn)) (hl:l.length≤100000) (hm:∀ x ∈ l,(x.2.2.2.1.2.1.length≤100000∧x.2.2.2.2.1.length≤100000∧x.2.2.2.2.2.2.length≤100000)) (hb:s.bx b=some (T0,[.func (.func 89) [] []])) :
  A0 Tryz.prog Γ 206 [.slice t (l.map tnA),.func (.func 139) [] [.ptr (some ⟨b,0,none⟩)]] s fun v s'=>∃ r:Int,v=.int .i64 r∧decide (r ≥ 0) = !l.all trB∧s'=s:=by
 have hml:(l.map tnA).length=l.length:=List.length_map ..
 refine acs Tryz.func206 ?_
 conv=>whnf
 refine AWp.loopA [8] [9,10,5,11,12,13,14,15,16,17,4,18] (fun i:Nat=>[.int .i64 i]) (fun i s'=>i≤l.length∧s'=s∧l.all trB=(l.drop i).all trB) (fun i=>l.length - i) (0) (by kernel_rfl) (eqa) ?_ ?_
 ·exact ⟨by omega,rfl,by simp⟩
 ·rintro y i _ ⟨hi,rfl,hp⟩
  conv=>whnf
  have hga:=fun h:i < l.length=>C1 (f:=tnA) (l:=l) A0q h
  have hd:=fun h:i < l.length=>P9 (p:=trB) A0q h
  have hmx:=fun h:i < l.length=>hm _ (E4 A0q h)
  generalize l.getD i A0q=u at *
  repeat' ((first|(refine brS (fun h=>?_) (fun h=>?_)<;>(try rw [h])<;>(try simp only [bS,↓reduceIte] at h))|(rw [show (l.map tnA).getD ((i:Int)).toNat []=_ from hga (by omega)])|(refine A0.by (C5f hT u (hmx (by omega)) hb) ?_;rintro _ _ ⟨rfl,rfl⟩)|refine gS ?_|refine aA ?_|refine nA ?_|fail)<;>(conv=>whnf))
  ·refine ⟨_,Sub.refl _,i,rfl,?_,rfl⟩
   rw [hp,hd (by omega),h,decide_eq_true (by omega)];rfl
  ·refine ⟨i+1,eqa,B9,⟨by omega,rfl,?_⟩,by omega⟩
   rw [hp,hd (by omega),h,Bool.true_and]
  ·refine ⟨_,Sub.refl _,-1,rfl,?_,rfl⟩
   rw [hp,C6 (by omega)];rfl
theorem B1w (hT:Sc.Wds Γ) {s:Sto} {b:Nat} {T0:TypeId} (t:Nat) (l:List ((Nat × Nat × Nat) × Tn)) (hl:l.length≤100000) (hm:∀ x ∈ l,(x.2.2.2.1.2.1.length≤100000∧x.2.2.2.2.1.length≤100000∧x.2.2.2.2.2.2.length≤100000)) (hb:s.bx b=some (T0,[.func (.func 89) [] []])) :
  A0 Tryz.prog Γ 138 [.slice t (l.map tnA),.func (.func 139) [] [.ptr (some ⟨b,0,none⟩)]] s fun v s'=>v=.bool (!l.all trB)∧s'=s:=by
 refine acs Tryz.func138 ?_
 conv=>whnf
 repeat' ((first|(refine brS (fun h=>?_) (fun h=>?_)<;>(try rw [h])<;>(try simp only [bS,↓reduceIte] at h))|(refine A0.by (B7w hT t l hl hm hb) ?_;rintro _ _ ⟨r,rfl,hr,rfl⟩)|refine gS ?_|refine aA ?_|refine nA ?_|fail)<;>(conv=>whnf))
 exact ⟨_,Sub.refl _,B2 hr,rfl⟩
theorem B2p (hT:Sc.Wds Γ) (t:Nat) (l:List ((Nat × Nat × Nat) × Tn)) (hl:l.length≤100000) (hm:∀ x ∈ l,(x.2.2.2.1.2.1.length≤100000∧x.2.2.2.2.1.length≤100000∧x.2.2.2.2.2.2.length≤100000)):A5 Tryz.prog Γ 88 [.slice t (l.map tnA),.func (.func 89) [] []] fun v=>v=.bool (l.all trB):=by
 refine aps Tryz.func88 ?_
 intro s
 conv=>whnf
 intro b hb
 conv=>whnf
 repeat' ((first|(refine brS (fun h=>?_) (fun h=>?_)<;>(try rw [h])<;>(try simp only [bS,↓reduceIte] at h))|(refine A0.by (B1w hT t l hl hm A1) ?_;rintro _ _ ⟨rfl,rfl⟩)|refine gS ?_|refine aA ?_|refine nA ?_|fail)<;>(conv=>whnf))
 exact ⟨(Sub.refl _).set hb _ _,B2 (by simp)⟩
theorem B9n (x:Tr0):V4 x=(K2 x.1 && (K2 x.2.2.2.2.2.1 && (x.2.1.all A4g && (x.2.2.1.all A0t && (x.2.2.2.1.all A20 && (x.2.2.2.2.1.all Y0 && (x.2.2.2.2.2.2.1.all A2w && x.2.2.2.2.2.2.2.all trB))))))):=rfl
theorem B04 (hT:Sc.Wds Γ) (tk:Nat→Nat) (x:Tr0) (hx:A2x x):A5 Tryz.prog Γ 20 [.agg (trA tk x)] fun v=>v=.bool (V4 x):=by
 obtain ⟨⟨m1,m2,m3,m4,m5,m6⟩,m7,m8,m9⟩:=hx
 rw [B9n]
 refine aps Tryz.func20 ?_
 intro s
 conv=>whnf
 intro b hb
 conv=>whnf
 repeat' ((first|(refine brS (fun h=>?_) (fun h=>?_)<;>(try rw [h])<;>(try simp only [bS,↓reduceIte] at h))|refine D3 ?_|(refine A0.pure' ?_ (E6 hT x.1);rintro _ rfl)|refine A8.pure ?_ (E6 hT x.1)|(refine A0.pure' ?_ (E6 hT x.2.2.2.2.2.1);rintro _ rfl)|refine A8.pure ?_ (E6 hT x.2.2.2.2.2.1)|(refine A0.pure' ?_ (B4g hT _ x.2.1 (by omega) (fun d h=>by have:=m7 d h;omega));rintro _ rfl)|refine A8.pure ?_ (B4g hT _ x.2.1 (by omega) (fun d h=>by have:=m7 d h;omega))|(refine A0.pure' ?_ (B2n hT _ x.2.2.1 (by omega));rintro _ rfl)|refine A8.pure ?_ (B2n hT _ x.2.2.1 (by omega))|(refine A0.pure' ?_ (B4h hT _ x.2.2.2.1 (by omega));rintro _ rfl)|refine A8.pure ?_ (B4h hT _ x.2.2.2.1 (by omega))|(refine A0.pure' ?_ (B2o hT _ x.2.2.2.2.1 (by omega));rintro _ rfl)|refine A8.pure ?_ (B2o hT _ x.2.2.2.2.1 (by omega))|(refine A0.pure' ?_ (B77 hT _ x.2.2.2.2.2.2.1 (by omega) (fun d h=>by have:=m8 d h;omega));rintro _ rfl)|refine A8.pure ?_ (B77 hT _ x.2.2.2.2.2.2.1 (by omega) (fun d h=>by have:=m8 d h;omega))|(refine A0.pure' ?_ (B2p hT _ x.2.2.2.2.2.2.2 (by omega) (fun d h=>by have:=m9 d h;omega));rintro _ rfl)|refine A8.pure ?_ (B2p hT _ x.2.2.2.2.2.2.2 (by omega) (fun d h=>by have:=m9 d h;omega))|refine gS ?_|refine aA ?_|refine nA ?_|fail)<;>(conv=>whnf))
 all_goals refine ⟨(Sub.refl _).set hb _ _,B2 ?_⟩
 all_goals simp [*]
end Go.Proofs.YticnkpgmmpenlaaGreatDoor.Tr
namespace Go.Proofs.YticnkpgmmpenlaaGreatDoor.Pr
open Go Go.Ab Go.RowKit Go.Proofs.YticnkpgmmpenlaaGreatDoor.Lx Go.Proofs.YticnkpgmmpenlaaGreatDoor.Pa
variable {Γ:Nat→AV}
attribute [local irreducible] A5 Sto.set Sto.grow
theorem fgS (l:List (List UInt8)):fgE (B8 l)=B8 l:=A58 (A:=fun s=>[AV.str s]) (fun _=>rfl) l
theorem B64 (hW:Sc.Wds Γ) (hK:B38 Γ) (hT:Qu.A1q Γ) (hN:Nu.A6y Γ) (tk:Nat→Nat) (x:Tr.Tr0) (hx:Tr.A2x x) (hr:Tr.V4 x=true) (hf:C1v x) (hb:(M3 x).length≤1000000000):A5 Tryz.prog Γ 7 [.agg (Tr.trA tk x)] fun v=>v=.str (M3 x):=by
 have hR:=Tr.B04 hW tk x hx
 rw [hr] at hR
 have ok:=C1m hr hf
 obtain ⟨⟨m1,m2,m3,m4,m5,m6⟩,m7,m8,m9⟩:=hx
 have hjn:=D0h x
 have hnm:=(N7 ok.name).2.1
 have hst:=(N7 ok.start).2.1
 have hlen:(E2 (fun s:Nat × Tr.Sy=>P0++32::T6 s.2) x.2.2.2.2.2.2.1).length≤1000000000∧(E2 (fun t:(Nat × Nat × Nat) × Tr.Tn=>E7 t.2) x.2.2.2.2.2.2.2).length≤1000000000:=by
  unfold M3 at hb
  simp only [List.length_append] at hb
  omega
 have hsl:∀ s ∈ x.2.2.2.2.2.2.1,(T6 s.2).length≤1000000000:=fun s hs=>by
  have:=B3u (S:=fun s:Nat × Tr.Sy=>P0++32::T6 s.2) hs
  simp only [List.length_append,List.length_cons] at this
  omega
 have htl:∀ t ∈ x.2.2.2.2.2.2.2,(E7 t.2).length≤1000000000:=fun t ht=>by
  have:=B3u (S:=fun t:(Nat × Nat × Nat) × Tr.Tn=>E7 t.2) ht
  have this:(E7 t.2).length+1≤_:=this
  omega
 have L1:=C5r (Γ:=Γ) (tk 0) x.2.1 m1 (fun d=>A07 d.2) fun d hd=>D1d d (ok.decls d hd) (by have:=m7 d hd;omega)
 have L2:=C5t (Γ:=Γ) (tk 1) x.2.2.1 m2 X8 fun q hq=>C93 q (ok.quants q hq)
 have L3:=C5s (Γ:=Γ) (tk 2) x.2.2.2.1 m3 A2g fun f h=>D1r hT hN f (ok.frees f h)
 have L4:=C5u (Γ:=Γ) (tk 3) x.2.2.2.2.1 m4 Y2 fun s h=>D0d s (ok.states s h)
 have L5:=C5v (Γ:=Γ) (tk 4) x.2.2.2.2.2.2.1 m5 (fun s=>P0++32::T6 s.2) fun s h=>D00 hT hN s (ok.also s h) (by have:=m8 s h;omega) (hsl s h)
 have L6:=C5w (Γ:=Γ) (tk 5) x.2.2.2.2.2.2.2 m6 (fun t=>E7 t.2) fun t h=>D0g hK hT hN t (ok.trans t h) (by have:=m9 t h;omega) (by have:=m9 t h;omega) (htl t h)
 obtain ⟨ls,els⟩:∃ ls:List (List (List UInt8)),ls=[[B1k++32::x.1.1],x.2.1.map (fun d=>A07 d.2),x.2.2.1.map X8,x.2.2.2.1.map A2g,x.2.2.2.2.1.map Y2,[Y5++32::x.2.2.2.2.2.1.1],x.2.2.2.2.2.2.1.map (fun s=>P0++32::T6 s.2),x.2.2.2.2.2.2.2.map fun t=>E7 t.2]:=⟨_,rfl⟩
 have efl:ls.flatten=A77 x:=by rw [els];unfold A77;simp
 have hll:ls.flatten.length≤1000000:=by
  rw [els]
  simp only [List.flatten_cons,List.flatten_nil,List.length_append,List.length_map,List.length_cons,List.length_nil]
  omega
 have hC:=fun s=>C42 (Γ:=Γ) (s:=s) (tk:=1) (ls:=ls) (by rw [els];simp) hll
 have hfg:fgE [[.slice 1 [[.str (B1k++32::x.1.1)]]],[.slice 0 (B8 (x.2.1.map fun d=>A07 d.2))],[.slice 0 (B8 (x.2.2.1.map X8))],[.slice 0 (B8 (x.2.2.2.1.map A2g))],[.slice 0 (B8 (x.2.2.2.2.1.map Y2))],[.slice 1 [[.str (Y5++32::x.2.2.2.2.2.1.1)]]],[.slice 0 (B8 (x.2.2.2.2.2.2.1.map fun s=>P0++32::T6 s.2))],[.slice 0 (B8 (x.2.2.2.2.2.2.2.map fun t=>E7 t.2))]]=ls.map (slA B3k):=by
  simp only [fgE,fgL,fg,fgS]
  rw [els]
  rfl
 have hJl:(Lib.join (A77 x) [10]).length+1≤1000000000:=by
  rw [← hjn,List.length_append] at hb
  exact hb
 have hJ:=fun t=>Jo.A6b (Γ:=Γ) t (A77 x) [10] (by rw [← efl];omega) (by omega)
 rw [efl] at hC
 generalize A77 x=LS at *
 rw [← hjn]
 generalize Lib.join LS [10]=JS at *
 clear hT hN hK hW
 simp only [Tr.trA] at hR ⊢
 refine aps Tryz.func7 ?_
 intro s
 conv=>whnf
 intro b hb0
 conv=>whnf
 repeat' ((first|(refine brS (fun h=>?_) (fun h=>?_)<;>(try rw [h])<;>(try simp only [bN,bS,↓reduceIte] at h)<;>(try exact prc))|refine D3 ?_|(refine A0.pure' ?_ (hR);rintro _ rfl)|refine A8.pure ?_ (hR)|(refine A0.pure' ?_ (L1);rintro _ rfl)|refine A8.pure ?_ (L1)|(refine A0.pure' ?_ (L2);rintro _ rfl)|refine A8.pure ?_ (L2)|(refine A0.pure' ?_ (L3);rintro _ rfl)|refine A8.pure ?_ (L3)|(refine A0.pure' ?_ (L4);rintro _ rfl)|refine A8.pure ?_ (L4)|(refine A0.pure' ?_ (L5);rintro _ rfl)|refine A8.pure ?_ (L5)|(refine A0.pure' ?_ (L6);rintro _ rfl)|refine A8.pure ?_ (L6)|(refine AWp.anyC (id:=3) [] [36] (by kernel_rfl) (by kernel_rfl) (by kernel_rfl) (by kernel_rfl) ?_)|(refine ⟨trivial,?_⟩)|refine gS ?_|refine aA ?_|refine nA ?_|fail)<;>(conv=>whnf))
 refine A0.by (A0.weak (B4b.refl _) (LeL.cons (Le.inner' hfg) LeL.nil) (hC _)) ?_
 rintro _ s1 ⟨t,rfl,ho⟩
 conv=>whnf
 repeat' ((first|(refine brS (fun h=>?_) (fun h=>?_)<;>(try rw [h])<;>(try simp only [bN,bS,↓reduceIte] at h)<;>(try exact prc))|refine D3 ?_|(refine ⟨trivial,?_⟩)|(refine A0.pure' ?_ (hJ _);rintro _ rfl)|refine A8.pure ?_ (hJ _)|refine gS ?_|refine aA ?_|refine nA ?_|fail)<;>(conv=>whnf))
 all_goals exact ⟨((Sub.refl _).set hb0 _ _).trans ho.sub,rfl⟩
theorem C4g (hW:Sc.Wds Γ) (tk:Nat→Nat) (x:Tr.Tr0) (hx:Tr.A2x x) (hr:Tr.V4 x=false):A5 Tryz.prog Γ 7 [.agg (Tr.trA tk x)] fun v=>v=.str []:=by
 have hR:=Tr.B04 hW tk x hx
 rw [hr] at hR
 simp only [Tr.trA] at hR ⊢
 refine aps Tryz.func7 ?_
 intro s
 conv=>whnf
 intro b hb0
 conv=>whnf
 repeat' ((first|(refine brS (fun h=>?_) (fun h=>?_)<;>(try rw [h])<;>(try simp only [bN,bS,↓reduceIte] at h)<;>(try exact prc))|refine D3 ?_|(refine A0.pure' ?_ (hR);rintro _ rfl)|refine A8.pure ?_ (hR)|refine gS ?_|refine aA ?_|refine nA ?_|fail)<;>(conv=>whnf))
 all_goals exact ⟨(Sub.refl _).set hb0 _ _,rfl⟩
end Go.Proofs.YticnkpgmmpenlaaGreatDoor.Pr
namespace Go.Proofs.YticnkpgmmpenlaaGreatDoor.Tr
open Go Go.Ab Go.RowKit
variable {Γ:Nat→AV}
attribute [local irreducible] A5 Sto.set Sto.grow
theorem A6j (tk:Nat→Nat) (x:Tr0) (hx:A2x x):A5 Tryz.prog Γ 14 [.agg (trA tk x)] fun v=>v=.agg (trA (fun _=>0) (A2l x)):=by
 obtain ⟨⟨m1,m2,m3,m4,m5,m6⟩,m7,m8,m9⟩:=hx
 refine aps Tryz.func14 ?_
 intro s
 conv=>whnf
 intro b hb
 conv=>whnf
 intro b2 hb2
 have n_b_b2:b≠b2:=A3 bxa hb2
 have n_b2_b:=n_b_b2.symm
 conv=>whnf
 have g2:=(D0 hb2).2
 repeat' ((first|(refine brS (fun h=>?_) (fun h=>?_)<;>(try rw [h])<;>(try simp only [bS,↓reduceIte] at h))|refine D3 ?_|(refine A0.pure' ?_ (F6 x.1);rintro _ rfl)|refine A8.pure ?_ (F6 x.1)|(refine A0.pure' ?_ (F6 x.2.2.2.2.2.1);rintro _ rfl)|refine A8.pure ?_ (F6 x.2.2.2.2.2.1)|(refine A0.pure' ?_ (B8k _ x.2.1 (by omega) (fun d h=>by have:=m7 d h;omega));rintro _ rfl)|refine A8.pure ?_ (B8k _ x.2.1 (by omega) (fun d h=>by have:=m7 d h;omega))|(refine A0.pure' ?_ (B8n _ x.2.2.1 (by omega));rintro _ rfl)|refine A8.pure ?_ (B8n _ x.2.2.1 (by omega))|(refine A0.pure' ?_ (B8m _ x.2.2.2.1 (by omega));rintro _ rfl)|refine A8.pure ?_ (B8m _ x.2.2.2.1 (by omega))|(refine A0.pure' ?_ (B8p _ x.2.2.2.2.1 (by omega));rintro _ rfl)|refine A8.pure ?_ (B8p _ x.2.2.2.2.1 (by omega))|(refine A0.pure' ?_ (B8q _ x.2.2.2.2.2.2.1 (by omega) (fun d h=>by have:=m8 d h;omega));rintro _ rfl)|refine A8.pure ?_ (B8q _ x.2.2.2.2.2.2.1 (by omega) (fun d h=>by have:=m8 d h;omega))|(refine A0.pure' ?_ (B8r _ x.2.2.2.2.2.2.2 (by omega) (fun d h=>by have:=m9 d h;exact ⟨by omega,by omega,by omega⟩));rintro _ rfl)|refine A8.pure ?_ (B8r _ x.2.2.2.2.2.2.2 (by omega) (fun d h=>by have:=m9 d h;exact ⟨by omega,by omega,by omega⟩))|refine gS ?_|refine aA ?_|refine nA ?_|fail)<;>(conv=>whnf))
 refine ⟨by (repeat (first|exact Sub.refl _|refine Sub.set ?_ (by assumption) _ _)),rfl⟩
end Go.Proofs.YticnkpgmmpenlaaGreatDoor.Tr
