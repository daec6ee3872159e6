/- Part 5 of what the closing text needs: CkQ, CkF, CkG, CkR, CkT, CkAP, CkH, Tk1. No condition of mine beyond those that the theorems name. -/
import Derived.Test.YtaammejliikieaaGreatDoorG4
import Derived.Test.YtaammejliikieaaGreatDoorG1
import Derived.Test.YtaammejliikieaaGreatDoorG2
set_option maxRecDepth 10000
set_option maxHeartbeats 60000000
set_option linter.all false
namespace Go.Proofs.YtaammejliikieaaGreatDoor.Pa
end Go.Proofs.YtaammejliikieaaGreatDoor.Pa
namespace Go.Proofs.YtaammejliikieaaGreatDoor.Tr
end Go.Proofs.YtaammejliikieaaGreatDoor.Tr
namespace Go.Proofs.YtaammejliikieaaGreatDoor.Ck
open Go Go.Ab Go.RowKit Go.Proofs.YtaammejliikieaaGreatDoor.Pa
theorem B3k (u:Nat):((List.range u).map smQ).Nodup:=by
 refine List.pairwise_map.2 (List.Pairwise.imp_of_mem ?_ (List.pairwise_lt_range (n:=u)))
 intro i j _ _ hij h
 have:(i:Int)=j:=by simpa [smQ] using h
 omega
theorem C2e (a:Nat):((List.range a).map smC).Nodup:=by
 refine List.pairwise_map.2 (List.Pairwise.imp_of_mem ?_ (List.pairwise_lt_range (n:=a)))
 intro i j _ _ hij h
 have:(i:Int)=j:=by simpa [smC] using h
 omega
theorem C5z (i j:Nat):smQ i≠smC j:=by
 intro h
 simp [smQ,smC] at h
theorem A80 {α:Type} (one:Qe→α→Res Qe):∀ (l m:List α) (q:Qe),B3 one q (l++m)=match B3 one q l with
  | .error e=>.error e
  | .ok q'=>B3 one q' m
 | [],m,q=>rfl
 | x::l,m,q=>by
  rw [List.cons_append,B3,B3]
  cases one q x with
  | error e=>rfl
  | ok q'=>exact A80 one l m q'
theorem B0r {α β:Type} (one:Qe→β→Res Qe) (f:α→β):∀ (l:List α) (q:Qe),B3 one q (l.map f)=B3 (fun q x=>one q (f x)) q l
 | [],_=>rfl
 | x::l,q=>by
  rw [List.map_cons,B3,B3]
  cases one q (f x) with
  | error e=>rfl
  | ok q'=>exact B0r one f l q'
theorem D04 {d u f s:Nat} (hu:u≤8) (q:Qe) (hq0:W6 d u f s q) (hs:q.syms=[]):B3 H3 q ((List.range u).map A11)=.ok { q with syms:=(List.range u).map smQ }:=by
 rw [B0r]
 have:=(A8z (one:=fun q x=>H3 q (A11 x)) (len:=fun q=>q.syms.length) (most:=64) (push:=fun q i=>{ q with syms:=q.syms++[smQ i] }) (p:=fun i=>(A11 i).2.2)
  (fun q l=>W6 d u f s q∧(∀ i ∈ l,i < u)∧(q.syms++l.map smQ).Nodup) ?_ (by intro q x;simp) ?_ (List.range u) q ⟨hq0,fun i hi=>List.mem_range.1 hi,by rw [hs];exact B3k u⟩ (by simp [hs])).1 (by simp [hs];omega)
 ·rw [this]
  congr 1
  clear this hq0
  have key:∀ (l:List Nat) (q:Qe),l.foldl (fun q i=>{ q with syms:=q.syms++[smQ i] }) q = { q with syms:=q.syms++l.map smQ }:=by
   intro l
   induction l with
   | nil=>intro q;simp
   | cons x l ih=>intro q;rw [List.foldl_cons,ih];simp
  rw [key,hs];rfl
 ·rintro q i l ⟨g1,g2,g3⟩
  rw [List.map_cons] at g3
  unfold H3 S2
  rw [D2y g1 (by omega) (g2 i (by simp))]
  dsimp only
  rw [S3 g3]
  by_cases hm:64≤q.syms.length
  ·simp only [if_pos hm]
  ·simp only [if_neg hm]
 ·rintro q i l ⟨g1,g2,g3⟩
  exact ⟨⟨g1.decls,g1.quants,g1.frees,g1.states,g1.nodes⟩,fun y hy=>g2 y (by simp [hy]),by simpa using g3⟩
theorem D03 {d u f s:Nat} (a:Nat) (hu:u≤8) (q:Qe) (hq0:W6 d u f s q) (hs:q.syms=(List.range u).map smQ) :
  (u+a≤64→B3 H3 q ((List.range a).map A2m)=.ok { q with syms:=q.syms++(List.range a).map smC })∧(64 < u+a→∃ p,B3 H3 q ((List.range a).map A2m)=.error (14,p)):=by
 rw [B0r]
 have key:∀ (l:List Nat) (q:Qe),l.foldl (fun q i=>{ q with syms:=q.syms++[smC i] }) q = { q with syms:=q.syms++l.map smC }:=by
  intro l
  induction l with
  | nil=>intro q;simp
  | cons x l ih=>intro q;rw [List.foldl_cons,ih];simp
 have hl:q.syms.length=u:=by rw [hs];simp
 have hnd:(q.syms++(List.range a).map smC).Nodup:=by
  rw [hs,List.nodup_append]
  refine ⟨B3k u,C2e a,?_⟩
  rintro x hx y hy rfl
  obtain ⟨i,_,rfl⟩:=List.mem_map.1 hx
  obtain ⟨j,_,hj⟩:=List.mem_map.1 hy
  exact C5z i j hj.symm
 have:=A8z (one:=fun q x=>H3 q (A2m x)) (len:=fun q=>q.syms.length) (most:=64) (push:=fun q i=>{ q with syms:=q.syms++[smC i] }) (p:=fun i=>(A2m i).2.2)
  (fun q l=>W6 d u f s q∧(q.syms++l.map smC).Nodup) ?_ (by intro q x;simp) ?_ (List.range a) q ⟨hq0,hnd⟩ (by omega)
 ·rw [key,hl,List.length_range] at this
  exact this
 ·rintro q i l ⟨g1,g3⟩
  rw [List.map_cons] at g3
  unfold H3 S2
  rw [show Z3 q (A2m i)=.ok (smC i) from D0r g1 i _ _]
  dsimp only
  rw [S3 g3]
  by_cases hm:64≤q.syms.length
  ·simp only [if_pos hm]
  ·simp only [if_neg hm]
 ·rintro q i l ⟨g1,g3⟩
  exact ⟨⟨g1.decls,g1.quants,g1.frees,g1.states,g1.nodes⟩,by simpa using g3⟩
theorem C53 {q:Qe}:∀ (l:List Tr.Qu) (v:Nat),(∀ i,i < l.length→∃ m ∈ q.syms,M2 m ((v+i:Nat):Int)=true)→K8 q v l=.ok q
 | [],v,_=>rfl
 | x::l,v,h=>by
  rw [K8,if_pos]
  ·refine C53 l (v+1) fun i hi=>?_
   have:=h (i+1) (by simp;omega)
   rwa [show v+(i+1)=v+1+i by omega] at this
  ·obtain ⟨m,h1,h2⟩:=h 0 (by simp)
   rw [List.any_eq_true]
   exact ⟨m,h1,h2⟩
theorem C7n {α:Type} [DecidableEq α] {x:α} {l:List α} (h:x ∈ l):∃ k,idx x l=some k:=by
 cases hx:idx x l with
 | some k=>exact ⟨k,rfl⟩
 | none=>exact absurd h (W2.1 hx)
def okB (d u f s a t:Nat):Prop:=d≤32∧u≤8∧f≤16∧s≤32∧u+max a (min t 1)≤64∧t≤256
theorem B8o {d u f s a t:Nat} (hd:d≤40) (hu:u≤40) (hf:f≤40) (hs1:1≤s) (hs:s≤40) :
  (okB d u f s a t→∃ q,F2 (F4 d u f s a t)=.ok q)∧(¬ okB d u f s a t→∃ p,F2 (F4 d u f s a t)=.error (14,p)):=by
 have hdl:(J4 d).length=d - 1+1:=by simp [J4]
 have n1:=C9j (J4 d) { Qe.none with name:=[112] } (by
   intro x hx
   unfold J4 at hx
   rcases List.mem_cons.1 hx with rfl|hx
   ·decide
   ·obtain ⟨i,_,rfl⟩:=List.mem_map.1 hx;simp [bDe]) (by
   show ([]++(J4 d).map (fun x:Tr.De=>x.1.1)).Nodup
   rw [List.nil_append,J4,List.map_cons,List.nodup_cons]
   refine ⟨?_,?_⟩
   ·intro hx
    rw [List.map_map] at hx
    obtain ⟨i,_,hi⟩:=List.mem_map.1 hx
    exact C7w i hi
   ·rw [List.map_map]
    refine List.pairwise_map.2 (List.Pairwise.imp_of_mem ?_ (List.pairwise_lt_range' (s:=1) (n:=d - 1)))
    intro i j hi hj hij h
    rw [List.mem_range'_1] at hi hj
    have:=A9p (by omega) (by omega) h
    omega) (by decide)
 have n2:=C72 ((List.range u).map bQu) { (qH d 0 0 0) with quants:=[],frees:=[],states:=[] } (by
   show ([]++((List.range u).map bQu).map (fun x:Tr.Qu=>x.2.1.1)).Nodup
   rw [List.nil_append,List.map_map]
   have:=B08 (a:=0) (n:=u) (by omega)
   try simp only [Nat.zero_add] at this
   exact this) rfl (by simp)
 have n3:=C9p ((List.range f).map bFr) { (qH d u 0 0) with frees:=[],states:=[] } (by
   show ([]++((List.range f).map bFr).map (fun x:Tr.Fr=>x.1.1)).Nodup
   rw [List.nil_append,List.map_map]
   have:=B08 (a:=100) (n:=f) (by omega)
   try simp only [Nat.zero_add] at this
   exact this) (by
   intro x hx
   obtain ⟨i,hi,rfl⟩:=List.mem_map.1 hx
   rw [List.mem_range] at hi
   rw [W2]
   intro hm
   have hm:nmF (100+i) ∈ (((List.range u).map bQu).map fun x=>(x.1,x.2.1.1,x.2.2)).map (·.2.1):=hm
   rw [List.map_map,List.map_map] at hm
   obtain ⟨j,hj,he⟩:=List.mem_map.1 hm
   rw [List.mem_range] at hj
   have:=A9p (by omega) (by omega) he
   omega) (by simp)
 have n4:=C8j ((List.range s).map bSt) { (qH d u f 0) with states:=[] } (by
   show ([]++((List.range s).map bSt).map (fun x:Tr.St=>x.1.1)).Nodup
   rw [List.nil_append,List.map_map]
   have:=B08 (a:=0) (n:=s) (by omega)
   try simp only [Nat.zero_add] at this
   exact this) (by simp)
 simp only [List.length_map,List.length_range,List.length_nil,Nat.zero_add,List.nil_append,hdl] at n1 n2 n3 n4
 have m1:(0:Nat)+(d - 1+1)≤32↔d≤32:=by omega
 have err:∀ {x:Tr.Tr0} {p:Int × Int},D0 x 8 0 { Qe.none with name:=x.1.1 } = .error (14,p)→∃ p,F2 x=.error (14,p):=fun {x p} h=>⟨p,by unfold F2;rw [h]⟩
 by_cases h1:d≤32
 case neg =>
  obtain ⟨p,hp⟩:=n1.2 (by simp [Qe.none];omega)
  refine ⟨fun h=>absurd h.1 h1,fun _=>err (p:=p) ?_⟩
  simp only [D0,C1,F4,B48]
  rw [hp]
 have s1:C1 (F4 d u f s a t) { Qe.none with name:=[112] } 0=.ok { (qH d 0 0 0) with quants:=[],frees:=[],states:=[] }:=by
  simp only [C1,F4,B48]
  rw [n1.1 (by simp [Qe.none];omega)]
  rfl
 by_cases h2:u≤8
 case neg =>
  obtain ⟨p,hp⟩:=n2.2 (by omega)
  refine ⟨fun h=>absurd h.2.1 h2,fun _=>err (p:=p) ?_⟩
  rw [D0]
  rw [show (F4 d u f s a t).1.1=[112] from rfl,s1]
  dsimp only
  rw [D0]
  rw [show C1 (F4 d u f s a t) _ (0+1)=_ from hp]
 have s2:C1 (F4 d u f s a t) { (qH d 0 0 0) with quants:=[],frees:=[],states:=[] } 1=.ok { (qH d u 0 0) with frees:=[],states:=[] }:=by
  refine (n2.1 (by omega)).trans ?_
  rfl
 by_cases h3:f≤16
 case neg =>
  obtain ⟨p,hp⟩:=n3.2 (by omega)
  refine ⟨fun h=>absurd h.2.2.1 h3,fun _=>err (p:=p) ?_⟩
  rw [D0,show (F4 d u f s a t).1.1=[112] from rfl,s1]
  dsimp only
  rw [D0,s2]
  dsimp only
  rw [D0,show C1 (F4 d u f s a t) _ (0+1+1)=_ from hp]
 have s3:C1 (F4 d u f s a t) { (qH d u 0 0) with frees:=[],states:=[] } 2=.ok { (qH d u f 0) with states:=[] }:=by
  refine (n3.1 (by omega)).trans ?_
  rfl
 by_cases h4:s≤32
 case neg =>
  obtain ⟨p,hp⟩:=n4.2 (by omega)
  refine ⟨fun h=>absurd h.2.2.2.1 h4,fun _=>err (p:=p) ?_⟩
  rw [D0,show (F4 d u f s a t).1.1=[112] from rfl,s1]
  dsimp only
  rw [D0,s2]
  dsimp only
  rw [D0,s3]
  dsimp only
  rw [D0,show C1 (F4 d u f s a t) _ (0+1+1+1)=_ from hp]
 have s4:C1 (F4 d u f s a t) { (qH d u f 0) with states:=[] } 3=.ok (qH d u f s):=by
  refine (n4.1 (by omega)).trans ?_
  rfl
 have hH:W6 d u f s (qH d u f s):=⟨rfl,rfl,rfl,rfl,rfl⟩
 have s5:C1 (F4 d u f s a t) (qH d u f s) 4=.ok (qH d u f s):=by
  show Y3 (qH d u f s) (nmF 0,1,1)=_
  unfold Y3
  rw [B6o hH hs1]
  rfl
 have head5:∀ r,(∀ q,q=qH d u f s→D0 (F4 d u f s a t) 3 5 q=r)→D0 (F4 d u f s a t) 8 0 { Qe.none with name:=(F4 d u f s a t).1.1 } = r:=by
  intro r h
  rw [D0,show (F4 d u f s a t).1.1=[112] from rfl,s1]
  dsimp only
  rw [D0,s2]
  dsimp only
  rw [D0,s3]
  dsimp only
  rw [D0,s4]
  dsimp only
  rw [D0,s5]
  dsimp only
  exact h _ rfl
 have a1:=D04 h2 (qH d u f s) hH rfl
 have hHq:W6 d u f s { qH d u f s with syms:=(List.range u).map smQ }:=⟨rfl,rfl,rfl,rfl,rfl⟩
 have a2:=D03 a h2 { qH d u f s with syms:=(List.range u).map smQ } hHq rfl
 have a6:C1 (F4 d u f s a t) (qH d u f s) 5=B3 H3 { qH d u f s with syms:=(List.range u).map smQ } ((List.range a).map A2m):=by
  show B3 H3 _ ((((List.range u).map A11++(List.range a).map A2m).map fun x=>((0:Nat),x)).map Prod.snd)=_
  rw [B48,A80,a1]
 by_cases h5:u+a≤64
 case neg =>
  obtain ⟨p,hp⟩:=a2.2 (by omega)
  refine ⟨fun h=>absurd h.2.2.2.2.1 (by omega),fun _=>err (p:=p) (head5 _ ?_)⟩
  rintro q rfl
  rw [D0,a6,hp]
 have s6:=a6.trans (a2.1 h5)
 have hH6:W6 d u f s { { qH d u f s with syms:=(List.range u).map smQ } with syms:=(List.range u).map smQ++(List.range a).map smC }:=⟨rfl,rfl,rfl,rfl,rfl⟩
 -- the transitions
 have hst:∀ q,(∀ i,i < u→smQ i ∈ q.syms)→C1 (F4 d u f s a t) q 7=.ok q:=by
  intro q hq
  refine C53 _ 0 fun i hi=>⟨smQ i,hq i (by simpa [F4] using hi),?_⟩
  simp [M2,smQ]
 have tmap:(F4 d u f s a t).2.2.2.2.2.2.2.map Prod.snd=(List.range' 0 t).map bTn:=by
  rw [← List.range_eq_range']
  show ((List.range t).map fun i=>(((0:Nat),(0:Nat),(0:Nat)),bTn i)).map Prod.snd=_
  rw [List.map_map];rfl
 have fin:∀ r,(∀ q,q = { { qH d u f s with syms:=(List.range u).map smQ } with syms:=(List.range u).map smQ++(List.range a).map smC }→D0 (F4 d u f s a t) 2 6 q=r) →
   D0 (F4 d u f s a t) 8 0 { Qe.none with name:=(F4 d u f s a t).1.1 } = r:=by
  intro r h
  refine head5 _ ?_
  rintro q rfl
  rw [D0,s6]
  exact h _ rfl
 have done:∀ {q'},C1 (F4 d u f s a t) { { qH d u f s with syms:=(List.range u).map smQ } with syms:=(List.range u).map smQ++(List.range a).map smC } 6=.ok q'→(∀ i,i < u→smQ i ∈ q'.syms)→∃ q,F2 (F4 d u f s a t)=.ok q:=by
  intro q' h6 h7
  refine ⟨P5 q',?_⟩
  unfold F2
  rw [fin (.ok q') ?_]
  rintro q rfl
  rw [D0,h6]
  dsimp only
  rw [D0,hst q' h7]
  rfl
 have fell:∀ {p},C1 (F4 d u f s a t) { { qH d u f s with syms:=(List.range u).map smQ } with syms:=(List.range u).map smQ++(List.range a).map smC } 6=.error (14,p)→∃ p,F2 (F4 d u f s a t)=.error (14,p):=by
  intro p h6
  refine err (p:=p) (fin _ ?_)
  rintro q rfl
  rw [D0,h6]
 have t6:∀ q,C1 (F4 d u f s a t) q 6=B3 E6 q ((List.range' 0 t).map bTn):=fun q=>by
  show B3 E6 q ((F4 d u f s a t).2.2.2.2.2.2.2.map Prod.snd)=_
  rw [tmap]
 by_cases ha:1≤a
 ·obtain ⟨k,hk⟩:=C7n (x:=smC 0) (l:=(List.range u).map smQ++(List.range a).map smC) (List.mem_append.2 (.inr (List.mem_map.2 ⟨0,by simp;omega,rfl⟩)))
  have tt:=C87 (k:=k) hs1 t 0 _ hH6 hk (by simp [qH,Qe.none])
  have z0:(qH d u f s).trans.length=0:=rfl
  simp only [z0,Nat.zero_add] at tt
  by_cases h6:t≤256
  ·obtain ⟨q',g1,g2,g3⟩:=tt.1 h6
   refine ⟨fun _=>done ((t6 _).trans g1) fun i hi=>?_,fun h=>absurd ⟨h1,h2,h3,h4,by omega,h6⟩ h⟩
   rw [g3]
   exact List.mem_append.2 (.inl (List.mem_map.2 ⟨i,by simpa using hi,rfl⟩))
  ·obtain ⟨p,hp⟩:=tt.2 (by omega)
   exact ⟨fun h=>absurd h.2.2.2.2.2 h6,fun _=>fell ((t6 _).trans hp)⟩
 ·obtain rfl:a=0:=by omega
  cases t with
  | zero =>
   refine ⟨fun _=>done (t6 _) fun i hi=>?_,fun h=>absurd ⟨h1,h2,h3,h4,by omega,by omega⟩ h⟩
   exact List.mem_append.2 (.inl (List.mem_map.2 ⟨i,by simpa using hi,rfl⟩))
  | succ t =>
   have hn:idx (smC 0) ((List.range u).map smQ++(List.range 0).map smC)=none:=by
    rw [W2]
    intro hm
    simp only [List.range_zero,List.map_nil,List.append_nil] at hm
    obtain ⟨i,_,hi⟩:=List.mem_map.1 hm
    exact C5z i 0 hi
   have hfirst:E6 { { qH d u f s with syms:=(List.range u).map smQ } with syms:=(List.range u).map smQ++(List.range 0).map smC } (bTn 0) =
     .ok { { { qH d u f s with syms:=(List.range u).map smQ } with syms:=(List.range u).map smQ++[smC 0] } with trans:=[(0,(u:Int),0,-1,[])] }:=by
    unfold E6
    rw [if_neg (by simp [qH,Qe.none]),show (bTn 0).1=(nmF 0,500+((0:Nat):Int),1) from rfl,B6o hH6 hs1]
    have hp:S2 { { qH d u f s with syms:=(List.range u).map smQ } with syms:=(List.range u).map smQ++(List.range 0).map smC } (bTn 0).2.2.1 =
      .ok ({ { qH d u f s with syms:=(List.range u).map smQ } with syms:=(List.range u).map smQ++[smC 0] },u):=by
     unfold S2
     rw [show Z3 _ (bTn 0).2.2.1=.ok (smC 0) from D0r hH6 0 0 0]
     dsimp only
     rw [hn]
     simp only [List.length_append,List.length_map,List.length_range,List.range_zero,List.map_nil,List.length_nil,Nat.add_zero,List.append_nil]
     rw [if_neg (by omega)]
    have hH7:W6 d u f s { { qH d u f s with syms:=(List.range u).map smQ } with syms:=(List.range u).map smQ++[smC 0] }:=⟨rfl,rfl,rfl,rfl,rfl⟩
    rw [hp]
    dsimp only
    rw [show (bTn 0).2.1=(nmF 0,1,1) from rfl,B6o hH7 hs1]
    simp only [show (bTn 0).2.2.2.1=[] from rfl,show (bTn 0).2.2.2.2.1 = -1 from rfl,show (bTn 0).2.2.2.2.2=[] from rfl,A77,A7i]
    simp [qH,Qe.none]
   have hk:idx (smC 0) ((List.range u).map smQ++[smC 0])=some u:=by
    rw [W9]
    simp only [List.range_zero,List.map_nil,List.append_nil] at hn
    rw [hn]
    simp [idx]
   have hH8:W6 d u f s { { { qH d u f s with syms:=(List.range u).map smQ } with syms:=(List.range u).map smQ++[smC 0] } with trans:=[(0,(u:Int),0,-1,[])] }:=⟨rfl,rfl,rfl,rfl,rfl⟩
   have tt:=C87 (k:=u) hs1 t 1 _ hH8 hk (by simp)
   simp only [List.length_cons,List.length_nil,Nat.zero_add] at tt
   have t7:C1 (F4 d u f s 0 (t+1)) { { qH d u f s with syms:=(List.range u).map smQ } with syms:=(List.range u).map smQ++(List.range 0).map smC } 6 =
     B3 E6 { { { qH d u f s with syms:=(List.range u).map smQ } with syms:=(List.range u).map smQ++[smC 0] } with trans:=[(0,(u:Int),0,-1,[])] } ((List.range' 1 t).map bTn):=by
    rw [t6,List.range'_succ,List.map_cons,B3,hfirst]
   by_cases h6:t+1≤256
   ·obtain ⟨q',g1,g2,g3⟩:=tt.1 (by omega)
    refine ⟨fun _=>done (t7.trans g1) fun i hi=>?_,fun h=>absurd ⟨h1,h2,h3,h4,by omega,h6⟩ h⟩
    rw [g3]
    exact List.mem_append.2 (.inl (List.mem_map.2 ⟨i,by simpa using hi,rfl⟩))
   ·obtain ⟨p,hp⟩:=tt.2 (by omega)
    exact ⟨fun h=>absurd h.2.2.2.2.2 h6,fun _=>fell (t7.trans hp)⟩
end Go.Proofs.YtaammejliikieaaGreatDoor.Ck
namespace Go.Proofs.YtaammejliikieaaGreatDoor.Ck
open Go Go.Ab Go.RowKit Go.Proofs.YtaammejliikieaaGreatDoor.Tr
def B5y (x:Tr.Ex) (i:Nat):Prop :=
 x.1=1∨x.1=17∨(4≤x.1∧x.1≤16∧0≤x.2.1∧x.2.1 < i∧(5 < x.1→0≤x.2.2.1∧x.2.2.1 < i))
def A4d (n:Nat):List Tr.Se→Nat→Prop
 | [],_=>True
 | x::l,f=>(f:Int)≤x.2∧x.2 < n∧A4d n l (x.2.toNat+1)
structure A52 (t:Tr.Tn):Prop where
 nodes:∀ i,i < t.2.2.2.1.length→B5y (t.2.2.2.1.getD i Tr.A5q) i
 guard:t.2.2.2.2.1 = -1∨(0≤t.2.2.2.2.1∧t.2.2.2.2.1 < t.2.2.2.1.length)
 sets:A4d t.2.2.2.1.length t.2.2.2.2.2 (if t.2.2.2.2.1 = -1 then 0 else t.2.2.2.2.1.toNat+1)
 args:∀ a ∈ t.2.2.1.2.1,a.1=1∨a.1=2∨a.1=3
section
variable (nm:List UInt8→Bool) (l:List Tr.Ex)
theorem B5t:∀ (n i:Nat),i < n→(tab nm l n).getD i (0,0)=V7 nm (l.getD i A5q) i (tab nm l i)
 | 0,i,h=>by omega
 | n+1,i,h=>by
  have hl:=A0p nm l n
  rw [tab]
  by_cases hi:i < n
  ·rw [B3d (by omega)]
   exact B5t n i hi
  ·obtain rfl:i=n:=by omega
   have:=B3c (r:=tab nm l i) (d:=((0:Int),(0:Int))) (p:=V7 nm (l.getD i A5q) i (tab nm l i))
   rw [hl] at this
   exact this
theorem C6g {n m i:Nat} (hn:i < n) (hm:i < m):(tab nm l n).getD i (0,0)=(tab nm l m).getD i (0,0):=by
 rw [B5t nm l n i hn,B5t nm l m i hm]
theorem A8c:∀ (k i n:Nat),i < k→i < n→0 < ((tab nm l n).getD i (0,0)).1→∀ j:Nat,(i:Int)+1 - ((tab nm l n).getD i (0,0)).1≤j→j≤i →
  0 < ((tab nm l n).getD j (0,0)).1∧B5y (l.getD j A5q) j
 | 0,i,n,h,_,_,_,_,_=>by omega
 | k+1,i,n,hk,hn,hp,j,h1,h2=>by
  have hat:=B5t nm l n i hn
  have hb:=fun j hj=>A2a nm l i j hj
  have hs:∀ j,j < i→(tab nm l i).getD j (0,0)=(tab nm l n).getD j (0,0):=fun j hj=>C6g nm l hj (by omega)
  have hp':=hp
  rw [hat] at h1 hp'
  unfold V7 at h1 hp'
  split at h1
  ·rename_i hl
   have hji:j=i:=by simp only at h1;omega
   subst hji
   refine ⟨hp,?_⟩
   unfold B05 at hl
   unfold B5y
   by_cases h1:(l.getD j A5q).1=1
   ·exact .inl h1
   ·refine .inr (.inl ?_)
    simp only [Bool.and_eq_true,h1,↓reduceIte] at hl
    simp_all
  rename_i hl
  rw [if_neg hl] at hp'
  split at h1
  ·rename_i hc;rw [if_pos hc] at hp';simp at hp'
  rename_i hc
  rw [if_neg hc] at hp'
  have g:=hb (i - 1) (by omega)
  have gs:=hs (i - 1) (by omega)
  have hpos1:0 < ((tab nm l i).getD (i - 1) (0,0)).1:=by
   have:((tab nm l i).getD (i - 1) (0,0)).1≠0:=fun h=>hc (.inr (.inr (.inr (.inr (.inr h)))))
   omega
  have ih1:=fun (j':Nat) (a1:((i - 1:Nat):Int)+1 - ((tab nm l n).getD (i - 1) (0,0)).1≤j') (a2:j'≤i - 1)=>A8c k (i - 1) n (by omega) (by omega) (by rw [← gs];exact hpos1) j' a1 a2
  rw [← gs] at ih1
  generalize (tab nm l i).getD (i - 1) (0,0)=p at *
  split at h1
  ·rename_i h5
   rw [if_pos h5] at hp'
   split at h1
   ·rename_i h6
    simp only at h1
    by_cases hji:j=i
    ·subst hji
     exact ⟨hp,.inr (.inr ⟨by omega,by omega,by omega,by omega,fun h=>by omega⟩)⟩
    ·exact ih1 j (by omega) (by omega)
   ·rename_i h6;rw [if_neg h6] at hp';simp at hp'
  ·rename_i h5
   rw [if_neg h5] at hp'
   split at h1
   ·rename_i h6
    have g2:=hb ((i:Int) - 1 - p.1).toNat (by omega)
    have gs2:=hs ((i:Int) - 1 - p.1).toNat (by omega)
    have ih2:=fun (j':Nat) (a1:(((i:Int) - 1 - p.1).toNat:Int)+1 - ((tab nm l n).getD ((i:Int) - 1 - p.1).toNat (0,0)).1≤j') (a2:j'≤((i:Int) - 1 - p.1).toNat) =>
     A8c k ((i:Int) - 1 - p.1).toNat n (by omega) (by omega) (by rw [← gs2];exact h6.2.2.2) j' a1 a2
    rw [← gs2] at ih2
    generalize (tab nm l i).getD ((i:Int) - 1 - p.1).toNat (0,0)=r at *
    simp only at h1
    by_cases hji:j=i
    ·subst hji
     exact ⟨hp,.inr (.inr ⟨by omega,by omega,by omega,by omega,fun h=>by omega⟩)⟩
    ·by_cases hj2:(((i:Int) - 1 - p.1).toNat:Int) < j
     ·exact ih1 j (by omega) (by omega)
     ·exact ih2 j (by omega) (by omega)
   ·rename_i h6;rw [if_neg h6] at hp';simp at hp'
end
theorem C05 {l:List Tr.Ex} {f root:Int} (hf:0≤f) (h:whB l f root=true):f≤root∧root < l.length∧∀ j:Nat,f≤j→(j:Int)≤root→B5y (l.getD j A5q) j:=by
 unfold whB at h
 simp only [Bool.and_eq_true,decide_eq_true_eq] at h
 obtain ⟨h1,h2,h3,h4⟩:=h
 refine ⟨h1,h2,fun j hj1 hj2=>?_⟩
 unfold nd at h3
 exact (A8c Sc.L8 l _ root.toNat l.length (Nat.lt_succ_self _) (by omega) (by omega) j (by omega) (by omega)).2
theorem A8i {l:List Tr.Ex}:∀ (xs:List Tr.Se) (f r:Int),0≤f→Y9 l xs f=some r→A4d l.length xs f.toNat∧∀ j:Nat,f≤j→(j:Int) < r→B5y (l.getD j A5q) j
 | [],f,r,hf,h=>by
  cases h
  exact ⟨trivial,fun j h1 h2=>by omega⟩
 | x::xs,f,r,hf,h=>by
  unfold Y9 at h
  split at h
  ·rename_i hx
   rw [Bool.and_eq_true] at hx
   obtain ⟨g1,g2,g3⟩:=C05 hf hx.2
   obtain ⟨k1,k2⟩:=A8i xs (x.2+1) r (by omega) h
   refine ⟨⟨by omega,by omega,?_⟩,fun j h1 h2=>?_⟩
   ·rwa [show (x.2+1).toNat=x.2.toNat+1 by omega] at k1
   ·by_cases hj:(j:Int)≤x.2
    ·exact g3 j h1 hj
    ·exact k2 j (by omega) h2
  ·cases h
theorem B3y {s:Nat × Tr.Sy} (h:A25 s=true):∀ a ∈ s.2.2.1,a.1=1∨a.1=2∨a.1=3:=by
 intro a ha
 unfold A25 at h
 rw [Bool.and_eq_true,List.all_eq_true] at h
 have:=h.2 a ha
 unfold A93 at this
 split at this
 ·exact .inl (by assumption)
 ·split at this
  ·exact .inr (.inl (by assumption))
  ·rw [Bool.and_eq_true] at this
   exact .inr (.inr (of_decide_eq_true this.1))
theorem C9o {x:(Nat × Nat × Nat) × Tr.Tn} (h:trB x=true):A52 x.2:=by
 unfold trB at h
 simp only [Bool.and_eq_true,decide_eq_true_eq] at h
 obtain ⟨_,_,h3,h4⟩:=h
 have ha:=B3y h3
 cases hg:B0u x.2.2.2.2.1 x.2.2.2.2.2.1 with
 | none=>rw [hg] at h4;cases h4
 | some f =>
  rw [hg] at h4
  have h4:Y9 x.2.2.2.2.1 x.2.2.2.2.2.2 f=some (x.2.2.2.2.1.length:Int):=h4
  unfold B0u at hg
  split at hg
  ·rename_i h1
   cases hg
   obtain ⟨k1,k2⟩:=A8i _ _ _ (Int.le_refl 0) h4
   exact ⟨fun i hi=>k2 i (by omega) (by omega),.inl h1,by rw [if_pos h1];exact k1,ha⟩
  ·rename_i h1
   split at hg
   ·rename_i hw
    cases hg
    obtain ⟨g1,g2,g3⟩:=C05 (Int.le_refl 0) hw
    obtain ⟨k1,k2⟩:=A8i _ _ _ (by omega) h4
    refine ⟨fun i hi=>?_,.inr ⟨g1,g2⟩,?_,ha⟩
    ·by_cases hj:(i:Int)≤x.2.2.2.2.2.1
     ·exact g3 i (by omega) hj
     ·exact k2 i (by omega) (by omega)
    ·rw [if_neg h1]
     rwa [show (x.2.2.2.2.2.1+1).toNat=x.2.2.2.2.2.1.toNat+1 by omega] at k1
   ·cases hg
end Go.Proofs.YtaammejliikieaaGreatDoor.Ck
namespace Go.Proofs.YtaammejliikieaaGreatDoor.Ck
open Go Go.Ab Go.RowKit Go.Proofs.YtaammejliikieaaGreatDoor.Pa
def C3l (q:Qe):Prop:=∀ n,idx n (q.quants.map (·.2.1))≠none→idx n (q.frees.map (·.1))=none
def D01 (s:Sm):Prop:=s.2.length≤8∧∀ a ∈ s.2,a.1=2→a.2.2=Tr.H9
structure H7 (q:Qe):Prop where
 decls:q.decls.length≤32
 types:∀ d ∈ q.decls,d.2.length≤8
 quants:q.quants.length≤8
 frees:q.frees.length≤16
 states:q.states.length≤32
 both:C3l q
 syms:q.syms.length≤64
 symOk:∀ s ∈ q.syms,0≤s.1∧s.1 < q.decls.length∧D01 s
 nodes:q.nodes.length≤2048
 trans:q.trans.length≤256
 transOk:∀ t ∈ q.trans,0≤t.2.1∧t.2.1 < q.syms.length
theorem P3 {α:Type} {x y:α} {l:List α} (h:x ∈ l++[y]):x ∈ l∨x=y:=by simpa using h
theorem H7.none (n:List UInt8):H7 { Qe.none with name:=n } :=
 ⟨by simp [Qe.none],by simp [Qe.none],by simp [Qe.none],by simp [Qe.none],by simp [Qe.none],by intro m h;simp [Qe.none,idx] at h,by simp [Qe.none],by simp [Qe.none],by simp [Qe.none],by simp [Qe.none],by simp [Qe.none]⟩
theorem A4i {q q':Qe} {d:Tr.De} (h:H7 q) (e:H1 q d=.ok q'):H7 q':=by
 unfold H1 at e
 split at e
 ·cases e
 ·rename_i h1
  split at e
  ·cases e
  ·cases e
   exact ⟨by simp;omega,fun x hx=>by rcases P3 hx with hx|rfl;exact h.types x hx;simp only;omega,h.quants,h.frees,h.states,h.both,h.syms,
    fun s hs=>⟨(h.symOk s hs).1,by have:=(h.symOk s hs).2.1;simp;omega,(h.symOk s hs).2.2⟩,h.nodes,h.trans,h.transOk⟩
theorem A21 {q q':Qe} {x:Tr.Qu} (h:H7 q) (e:E8 q x=.ok q'):H7 q':=by
 unfold E8 at e
 split at e
 ·cases e
 ·split at e
  ·cases e
  ·rename_i h1 h2
   cases e
   refine ⟨h.decls,h.types,by simp;omega,h.frees,h.states,?_,h.syms,h.symOk,h.nodes,h.trans,h.transOk⟩
   intro n hn
   simp only [List.map_append,List.map_cons,List.map_nil] at hn
   rw [W9] at hn
   cases hq:idx n (q.quants.map (·.2.1)) with
   | some i=>exact h.both n (by rw [hq];simp)
   | none =>
    rw [hq] at hn
    have hx:n=x.2.1.1:=by
     by_cases hx:x.2.1.1=n
     ·exact hx.symm
     ·simp [idx,hx] at hn
    subst hx
    unfold V3 at h2
    rw [hq] at h2
    dsimp only at h2
    cases hf:idx x.2.1.1 (q.frees.map (·.1)) with
    | none=>rfl
    | some i=>rw [hf] at h2;simp at h2
theorem A4m {q q':Qe} {x:Tr.Fr} (h:H7 q) (e:H4 q x=.ok q'):H7 q':=by
 unfold H4 at e
 split at e
 ·cases e
 ·split at e
  ·cases e
  ·rename_i h1 h2
   cases e
   refine ⟨h.decls,h.types,h.quants,by simp;omega,h.states,?_,h.syms,h.symOk,h.nodes,h.trans,h.transOk⟩
   intro n hn
   have hf:=h.both n hn
   simp only [List.map_append,List.map_cons,List.map_nil]
   rw [W9,hf]
   have hx:x.1.1≠n:=by
    rintro rfl
    unfold V3 at h2
    cases hq:idx x.1.1 (q.quants.map (·.2.1)) with
    | none=>exact hn hq
    | some i=>rw [hq] at h2;simp at h2
   simp [idx,hx]
theorem A24 {q q':Qe} {x:Tr.St} (h:H7 q) (e:D6 q x=.ok q'):H7 q':=by
 unfold D6 at e
 split at e
 ·cases e
 ·split at e
  ·cases e
  ·cases e
   exact ⟨h.decls,h.types,h.quants,h.frees,by simp;omega,h.both,h.syms,h.symOk,h.nodes,h.trans,h.transOk⟩
theorem B1t {q q':Qe} {x:Tr.Idn} (h:H7 q) (e:Y3 q x=.ok q'):H7 q':=by
 unfold Y3 at e
 split at e
 ·cases e
 ·cases e
  exact ⟨h.decls,h.types,h.quants,h.frees,h.states,h.both,h.syms,h.symOk,h.nodes,h.trans,h.transOk⟩
theorem C62 {q:Qe} {a:Tr.Ar} {k:Int} {x:Ag} (e:U0 q a k=.ok x):x.1=2→x.2.2=Tr.H9:=by
 unfold U0 at e
 split at e
 ·cases e;intro;rfl
 ·split at e
  ·split at e
   ·cases e;intro h;exact absurd h (by simp)
   ·cases e
  ·split at e
   ·cases e
   ·split at e
    ·cases e;intro;rfl
    ·cases e
theorem B6a {q:Qe}:∀ (l:List Tr.Ar) (ks:List Int) (acc r:List Ag),R8 q l ks acc=.ok r→(∀ a ∈ acc,a.1=2→a.2.2=Tr.H9)→r.length≤acc.length+ks.length∧∀ a ∈ r,a.1=2→a.2.2=Tr.H9
 | [],ks,acc,r,h,ha=>by
  cases ks<;>(cases h;exact ⟨by omega,ha⟩)
 | a::l,[],acc,r,h,ha=>by cases h;exact ⟨by omega,ha⟩
 | a::l,k::ks,acc,r,h,ha=>by
  unfold R8 at h
  split at h
  ·cases h
  ·rename_i x hx
   have:=B6a l ks _ r h (fun b hb=>by
    rcases P3 hb with hb|rfl
    ·exact ha b hb
    ·exact C62 hx)
   simp only [List.length_append,List.length_cons,List.length_nil] at this ⊢
   exact ⟨by omega,this.2⟩
theorem B5s {q:Qe} {s:Tr.Sy} {x:Sm} (h:H7 q) (e:Z3 q s=.ok x):0≤x.1∧x.1 < q.decls.length∧D01 x:=by
 unfold Z3 at e
 split at e
 ·cases e
 ·rename_i i hi
  obtain ⟨h1,h2⟩:=U6 hi
  rw [List.length_map] at h1
  split at e
  ·cases e
  ·split at e
   ·cases e
   ·rename_i l hl
    cases e
    have hm:q.decls.getD i Y7 ∈ q.decls:=by simp [List.getD,h1]
    have:=B6a _ _ _ _ hl (by simp)
    have h8:=h.types _ hm
    simp only [List.length_nil] at this
    exact ⟨by simp only;omega,by simp only;omega,by simp only;omega,this.2⟩
theorem A31 {q:Qe} {s:Tr.Sy} {r:Qe × Nat} (h:H7 q) (e:S2 q s=.ok r):H7 r.1∧r.2 < r.1.syms.length∧r.1.nodes=q.nodes∧r.1.trans=q.trans∧r.1.states=q.states:=by
 unfold S2 at e
 split at e
 ·cases e
 ·rename_i x hx
  split at e
  ·rename_i i hi
   cases e
   exact ⟨h,(U6 hi).1,rfl,rfl,rfl⟩
  ·split at e
   ·cases e
   ·cases e
    obtain ⟨g1,g2,g3⟩:=B5s h hx
    refine ⟨⟨h.decls,h.types,h.quants,h.frees,h.states,h.both,by simp;omega,fun y hy=>?_,h.nodes,h.trans,fun t ht=>?_⟩,by simp,rfl,rfl,rfl⟩
    ·rcases P3 hy with hy|rfl
     ·exact h.symOk y hy
     ·exact ⟨g1,g2,g3⟩
    ·have:=h.transOk t ht
     simp only [List.length_append,List.length_cons,List.length_nil]
     omega
theorem A10 {q q':Qe} {s:Tr.Sy} (h:H7 q) (e:H3 q s=.ok q'):H7 q':=by
 unfold H3 at e
 split at e
 ·cases e
 ·rename_i r hr
  cases e
  exact (A31 h hr).1
theorem B07 {q:Qe} {s:Sm} {base:Nat} {l:List Tr.Ex}:∀ (n:Nat) (st st':Nk),B5c q s base l n st=.ok st'→st'.1.length=st.1.length+n∧st'.2.length=st.2.length+n
 | 0,st,st',h=>by cases h;exact ⟨rfl,rfl⟩
 | n+1,st,st',h=>by
  unfold B5c at h
  split at h
  ·cases h
  ·have:=B07 n _ _ h
   simp only [List.length_append,List.length_cons,List.length_nil] at this
   omega
theorem B28 {q:Qe} {s:Sm} {base:Nat} {l:List Tr.Ex} {root:Nat} {k:Int} {st st':Nk} (h:B98 q s base l root k st=.ok st') :
  st'.1.length=st.1.length+(root+1 - st.2.length)∧st'.2.length=st.2.length+(root+1 - st.2.length):=by
 unfold B98 at h
 split at h
 ·cases h
 ·rename_i x hx
  split at h
  ·cases h;exact B07 _ _ _ hx
  ·cases h
theorem B3s {q:Qe} {s:Sm} {base:Nat} {l:List Tr.Ex}:∀ (xs:List Tr.Se) (out:List Sx) (st:Nk) (r:List Sx × Nk),A7i q s base l xs out st=.ok r→A4d l.length xs st.2.length→st.2.length≤l.length →
  r.2.1.length+st.2.length=st.1.length+r.2.2.length∧r.2.2.length≤l.length
 | [],out,st,r,h,_,hl=>by cases h;exact ⟨rfl,hl⟩
 | x::xs,out,st,r,h,hf,hl=>by
  unfold A7i at h
  split at h
  ·cases h
  ·split at h
   ·cases h
   ·split at h
    ·cases h
    ·split at h
     ·cases h
     ·rename_i st' hst
      have e:=B28 hst
      obtain ⟨f1,f2,f3⟩:=hf
      have hle:st'.2.length=x.2.toNat+1:=by omega
      rw [← hle] at f3
      have:=B3s xs _ st' r h f3 (by omega)
      omega
theorem B82 {q:Qe} {s:Sm} {base:Nat} {l:List Tr.Ex} {g:Int} {st st':Nk} (h:A77 q s base l g st=.ok st') (h0:st.2=[]) :
  st'.1.length=st.1.length+st'.2.length∧st'.2.length=(if 0≤g then g.toNat+1 else 0):=by
 unfold A77 at h
 split at h
 ·rename_i hg
  have:=B28 h
  rw [h0] at this
  simp only [List.length_nil] at this
  rw [if_pos hg]
  omega
 ·rename_i hg
  cases h
  rw [if_neg hg,h0]
  exact ⟨rfl,rfl⟩
theorem A2d {q q':Qe} {t:Tr.Tn} (h:H7 q) (ht:A52 t) (e:E6 q t=.ok q'):H7 q':=by
 unfold E6 at e
 split at e
 ·cases e
 ·rename_i h1
  split at e
  ·cases e
  ·split at e
   ·cases e
   ·rename_i q1 i hp
    obtain ⟨g1,g2,g3,g4,g5⟩:=A31 h hp
    simp only at g1 g2 g3 g4 g5
    split at e
    ·cases e
    ·rename_i h2
     split at e
     ·cases e
     ·rename_i st hst
      split at e
      ·cases e
      ·rename_i sx st2 hs2
       split at e
       ·cases e
       ·cases e
        obtain ⟨k1,k2⟩:=B82 hst rfl
        have hsf:A4d t.2.2.2.1.length t.2.2.2.2.2 st.2.length:=by
         have:=ht.sets
         rw [k2]
         rcases ht.guard with hg|hg
         ·rw [if_pos hg] at this;rw [if_neg (by omega)];exact this
         ·rw [if_neg (by omega)] at this;rw [if_pos hg.1];exact this
        have hle:st.2.length≤t.2.2.2.1.length:=by
         rw [k2]
         have:=ht.guard
         split<;>omega
        have:=B3s _ _ _ _ hs2 hsf hle
        simp only at this k1
        refine ⟨g1.decls,g1.types,g1.quants,g1.frees,g1.states,g1.both,g1.syms,g1.symOk,by simp only;omega,by simp only [List.length_append,List.length_cons,List.length_nil];rw [g4];omega,fun y hy=>?_⟩
        rcases P3 hy with hy|rfl
        ·exact g1.transOk y hy
        ·exact ⟨by simp only;omega,by simp only;omega⟩
theorem P2 {α:Type} {one:Qe→α→Res Qe} {I:Qe→Prop}:∀ (l:List α) (q q':Qe),(∀ q x q',x ∈ l→I q→one q x=.ok q'→I q')→I q→B3 one q l=.ok q'→I q'
 | [],q,q',_,hI,h=>by cases h;exact hI
 | x::l,q,q',h1,hI,h=>by
  unfold B3 at h
  split at h
  ·cases h
  ·rename_i q1 hq
   exact P2 l q1 q' (fun a b c hb=>h1 a b c (by simp [hb])) (h1 q x q1 (by simp) hI hq) h
theorem A5y {q q':Qe}:∀ (l:List Tr.Qu) (v:Nat),K8 q v l=.ok q'→q'=q
 | [],v,h=>by cases h;rfl
 | x::l,v,h=>by
  unfold K8 at h
  split at h
  ·exact A5y l _ h
  ·cases h
theorem C28 {x:Tr.Tr0} {q q':Qe} {i:Nat} (h:H7 q) (ht:∀ t ∈ x.2.2.2.2.2.2.2,A52 t.2) (e:C1 x q i=.ok q'):H7 q':=by
 unfold C1 at e
 split at e
 ·exact P2 _ _ _ (fun q d q' _ hq hd=>A4i hq hd) h e
 ·exact P2 _ _ _ (fun q d q' _ hq hd=>A21 hq hd) h e
 ·exact P2 _ _ _ (fun q d q' _ hq hd=>A4m hq hd) h e
 ·exact P2 _ _ _ (fun q d q' _ hq hd=>A24 hq hd) h e
 ·exact B1t h e
 ·exact P2 _ _ _ (fun q d q' _ hq hd=>A10 hq hd) h e
 ·refine P2 _ _ _ (fun q d q' hm hq hd=>A2d hq ?_ hd) h e
  obtain ⟨t,h1,rfl⟩:=List.mem_map.1 hm
  exact ht t h1
 ·rw [A5y _ _ e];exact h
abbrev z0:Nat→Nat:=fun _=>0
theorem A5k {α:Type} {one:Qe→α→Res Qe} (J:Qe→Prop):∀ (l:List α) (q q':Qe),(∀ q x q',x ∈ l→J q→one q x=.ok q'→J q')→J q→B3 one q l=.ok q'→J q'
 | [],q,q',_,h,e=>by cases e;exact h
 | x::l,q,q',h1,h,e=>by
  unfold B3 at e
  split at e
  ·cases e
  ·rename_i q1 hq
   exact A5k J l q1 q' (fun q y q' hy=>h1 q y q' (List.mem_cons_of_mem _ hy)) (h1 q x q1 (by simp) h hq) e
theorem A8u {q q':Qe} {d:Tr.De} (e:H1 q d=.ok q'):q'.frees=q.frees:=by
 unfold H1 at e
 split at e
 ·cases e
 ·split at e
  ·cases e
  ·cases e;rfl
theorem A7d {q q':Qe} {x:Tr.Qu} (e:E8 q x=.ok q'):q'.frees=q.frees:=by
 unfold E8 at e
 split at e
 ·cases e
 ·split at e
  ·cases e
  ·cases e;rfl
def M8 (i:Nat) (q:Qe):Prop:=H7 q∧(i≤2→q.frees=[])
theorem A9a {q q':Qe}:∀ (l:List Tr.Qu) (v:Nat),K8 q v l=.ok q'→q'=q
 | [],_,e=>by cases e;rfl
 | x::l,v,e=>by
  unfold K8 at e
  split at e
  ·exact A9a l _ e
  ·cases e
theorem V2 {x:Tr.Tr0} (hx:∀ t ∈ x.2.2.2.2.2.2.2,A52 t.2) {i:Nat} {q q':Qe} (h:M8 i q) (e:C1 x q i=.ok q'):M8 (i+1) q':=by
 obtain ⟨h,hf⟩:=h
 match i,e,hf with
 | 0,e,hf=>exact A5k (M8 1) _ q q' (fun q d q' _ hq he=>⟨A4i hq.1 he,fun _=>(A8u he).trans (hq.2 (by omega))⟩) ⟨h,fun _=>hf (by omega)⟩ e
 | 1,e,hf=>exact A5k (M8 2) _ q q' (fun q d q' _ hq he=>⟨A21 hq.1 he,fun _=>(A7d he).trans (hq.2 (by omega))⟩) ⟨h,fun _=>hf (by omega)⟩ e
 | 2,e,hf=>exact A5k (M8 3) _ q q' (fun q d q' _ hq he=>⟨A4m hq.1 he,fun h=>absurd h (by omega)⟩) ⟨h,fun h=>absurd h (by omega)⟩ e
 | 3,e,hf=>exact A5k (M8 4) _ q q' (fun q d q' _ hq he=>⟨A24 hq.1 he,fun h=>absurd h (by omega)⟩) ⟨h,fun h=>absurd h (by omega)⟩ e
 | 4,e,hf=>exact ⟨B1t h e,fun h=>absurd h (by omega)⟩
 | 5,e,hf=>exact A5k (M8 6) _ q q' (fun q d q' _ hq he=>⟨A10 hq.1 he,fun h=>absurd h (by omega)⟩) ⟨h,fun h=>absurd h (by omega)⟩ e
 | 6,e,hf =>
  refine A5k (M8 7) _ q q' (fun q d q' hd hq he=>⟨A2d hq.1 ?_ he,fun h=>absurd h (by omega)⟩) ⟨h,fun h=>absurd h (by omega)⟩ e
  obtain ⟨t,ht,rfl⟩:=List.mem_map.1 hd
  exact hx t ht
 | n+7,e,hf =>
  have:q'=q:=A9a _ 0 e
  subst this
  exact ⟨h,fun h=>absurd h (by omega)⟩
def trI (q:Qe):List Int:=q.trans.map (·.2.1)
theorem B5f:∀ (a b acc:List Int),U7 acc (a++b)=U7 (U7 acc a) b
 | [],b,acc=>rfl
 | x::a,b,acc=>by rw [List.cons_append,U7,U7,B5f a b]
theorem B5h:∀ (l acc:List Int),∃ r,U7 acc l=acc++r
 | [],acc=>⟨[],by simp [U7]⟩
 | x::l,acc=>by
  rw [U7]
  split
  ·exact B5h l acc
  ·obtain ⟨r,hr⟩:=B5h l (acc++[x])
   exact ⟨x::r,by rw [hr];simp⟩
theorem B5g:∀ (l acc:List Int) (x:Int),x ∈ U7 acc l↔x ∈ acc∨x ∈ l
 | [],acc,x=>by simp [U7]
 | y::l,acc,x=>by
  rw [U7,B5g l]
  split
  ·rename_i h
   constructor
   ·rintro (h1|h1)
    ·exact .inl h1
    ·exact .inr (List.mem_cons_of_mem _ h1)
   ·rintro (h1|h1)
    ·exact .inl h1
    ·rcases List.mem_cons.1 h1 with rfl|h1
     ·exact .inl h
     ·exact .inr h1
  ·simp only [List.mem_append,List.mem_cons,List.not_mem_nil,or_false,or_assoc]
def N4 (q:Qe) (k:Nat):List Int:=U7 [] ((trI q).take k)
theorem A7s (q:Qe):N4 q 0=[]:=rfl
theorem B56 (q:Qe) {k:Nat} (h:q.trans.length≤k):N4 q k=E9 q:=by
 unfold N4 E9 trI
 rw [List.take_of_length_le (by rw [List.length_map];exact h)]
theorem A7r (q:Qe) {k:Nat} (h:k < q.trans.length):N4 q (k+1)=if (q.trans.getD k noTx).2.1 ∈ N4 q k then N4 q k else N4 q k++[(q.trans.getD k noTx).2.1]:=by
 have hl:k < (trI q).length:=by unfold trI;rw [List.length_map];exact h
 have hg:(trI q)[k]=(q.trans.getD k noTx).2.1:=by simp [trI,List.getD,h]
 unfold N4
 rw [List.take_succ_eq_append_getElem hl,B5f,hg]
 rfl
theorem B2q (q:Qe) (k:Nat):∃ r,E9 q=N4 q k++r:=by
 have h:E9 q=U7 (N4 q k) ((trI q).drop k):=by
  unfold E9 N4
  rw [← B5f,List.take_append_drop];rfl
 rw [h]
 exact B5h _ _
def H2 (q:Qe) (i:Nat):List Int:=((List.range i).map Int.ofNat).filter fun i=>decide (i ∉ E9 q)
theorem A3q (q:Qe):H2 q q.syms.length=D9 q:=rfl
theorem A2u (q:Qe) (i:Nat):H2 q (i+1)=if (i:Int) ∈ E9 q then H2 q i else H2 q i++[(i:Int)]:=by
 unfold H2
 rw [List.range_succ,List.map_append,List.filter_append]
 by_cases h:(i:Int) ∈ E9 q
 ·rw [if_pos h];simp [h]
 ·rw [if_neg h];simp [h]
theorem A2t {q:Qe} {i:Nat} {j:Int} (h:j ∈ H2 q i):0≤j∧j < i∧j ∉ E9 q:=by
 obtain ⟨h1,h2⟩:=List.mem_filter.1 h
 obtain ⟨k,hk,rfl⟩:=List.mem_map.1 h1
 have:=List.mem_range.1 hk
 exact ⟨Int.natCast_nonneg _,by show (k:Int) < i;omega,by simpa using h2⟩
theorem C8l {q:Qe} (hq:H7 q) {j:Int} (h:j ∈ E9 q):0≤j∧j < q.syms.length:=by
 rcases (B5g _ _ _).1 h with h|h
 ·cases h
 ·obtain ⟨t,ht,rfl⟩:=List.mem_map.1 h
  exact hq.transOk t ht
theorem A7k {q:Qe} {j:Int}:j ∈ E9 q↔j ∈ trI q:=by
 unfold E9
 rw [B5g]
 exact ⟨fun h=>h.resolve_left (by simp),.inr⟩
def A0i (q:Qe) (i:Int):Sm:=q.syms.getD i.toNat P4
theorem A7g {α:Type} (l:List α) (i j:Nat) (x d:α) (h:i < l.length):(l.set i x).getD j d=if i=j then x else l.getD j d:=by
 simp only [List.getD,List.getElem?_set]
 split
 ·rename_i e
  subst e
  simp [h]
 ·rfl
structure B79 (q:Qe) (i:Nat) (tt:List Int) (out:List Sm):Prop where
 len:tt.length=q.syms.length
 out:out=(H2 q i).map (A0i q)
 at_:∀ j ∈ H2 q i,tt.getD j.toNat 0=((idx j (H2 q i)).getD 0:Int)
theorem B6v {l:List Int} {x:Int} (h:x ∉ l):idx x (l++[x])=some l.length:=by
 rw [W9,W2.2 h]
 simp [idx]
theorem B0w {l m:List Int} {x:Int} (h:x ∈ l):idx x (l++m)=idx x l:=by
 rw [W9]
 cases hx:idx x l with
 | none=>exact absurd h (W2.1 hx)
 | some i=>rfl
theorem C2i {q:Qe}:B79 q 0 (List.replicate q.syms.length 0) []:=⟨by simp,rfl,by simp [H2]⟩
theorem C2h {q:Qe} {i:Nat} {tt:List Int} {out:List Sm} (h:B79 q i tt out) (hi:(i:Int) ∈ E9 q):B79 q (i+1) tt out:=by
 have e:H2 q (i+1)=H2 q i:=by rw [A2u,if_pos hi]
 exact ⟨h.len,by rw [e];exact h.out,by rw [e];exact h.at_⟩
theorem C47 {q:Qe} {i:Nat} {tt:List Int} {out:List Sm} (h:B79 q i tt out) (hi:(i:Int) ∉ E9 q) (hl:i < q.syms.length):B79 q (i+1) (tt.set i out.length) (out++[q.syms.getD i P4]):=by
 have e:H2 q (i+1)=H2 q i++[(i:Int)]:=by rw [A2u,if_neg hi]
 have hnot:(i:Int) ∉ H2 q i:=fun hm=>by have:=A2t hm;omega
 refine ⟨by rw [List.length_set];exact h.len,by rw [e,List.map_append,← h.out];simp [A0i],fun j hj=>?_⟩
 rw [e] at hj ⊢
 rw [A7g _ _ _ _ _ (by rw [h.len];exact hl)]
 rcases List.mem_append.1 hj with hj|hj
 ·have hlt:=A2t hj
  rw [if_neg (by omega),B0w hj]
  exact h.at_ j hj
 ·rw [List.mem_singleton] at hj
  subst hj
  rw [if_pos (by simp),B6v hnot,h.out]
  simp
structure B8a (q:Qe) (k:Nat) (tt:List Int) (used:List Bool) (out:List Sm) (l:List Tx):Prop where
 lenT:tt.length=q.syms.length
 lenU:used.length=q.syms.length
 used:∀ j:Nat,j < q.syms.length→used.getD j false=decide ((j:Int) ∈ E9 q∧(j:Int) ∉ N4 q k)
 out:out=(D9 q++N4 q k).map (A0i q)
 at_:∀ j ∈ D9 q++N4 q k,tt.getD j.toNat 0=((idx j (D9 q++N4 q k)).getD 0:Int)
 l:l=(q.trans.take k).map fun t=>(t.1,((idx t.2.1 (D9 q++E9 q)).getD 0:Int),t.2.2)
theorem C2k {q:Qe} {tt:List Int} {used:List Bool} {out:List Sm} (h:B79 q q.syms.length tt out) (hu:used.length=q.syms.length) (hd:∀ j:Nat,j < q.syms.length→used.getD j false=decide ((j:Int) ∈ E9 q)):B8a q 0 tt used out []:=by
 refine ⟨h.len,hu,fun j hj=>by rw [hd j hj,A7s];simp,?_,?_,rfl⟩
 ·rw [A7s,List.append_nil,← A3q];exact h.out
 ·rw [A7s,List.append_nil,← A3q];exact h.at_
theorem A2b {α:Type} {l:List α} {k:Nat} (d:α) (h:k < l.length):l.take (k+1)=l.take k++[l.getD k d]:=by
 rw [List.take_succ_eq_append_getElem h]
 simp [List.getD,h]
theorem B7d {q:Qe} {k:Nat} {x:Int} (h:x ∈ D9 q++N4 q k):idx x (D9 q++E9 q)=idx x (D9 q++N4 q k):=by
 obtain ⟨r,hr⟩:=B2q q k
 rw [hr,← List.append_assoc,B0w h]
theorem C2j {q:Qe} (hq:H7 q) {k:Nat} {tt:List Int} {used:List Bool} {out:List Sm} {l:List Tx} (h:B8a q k tt used out l) (hk:k < q.trans.length) (hu:used.getD (q.trans.getD k noTx).2.1.toNat false=false) :
  B8a q (k+1) tt used out (l++[((q.trans.getD k noTx).1,tt.getD (q.trans.getD k noTx).2.1.toNat 0,(q.trans.getD k noTx).2.2)]):=by
 have hm:q.trans.getD k noTx ∈ q.trans:=by simp [List.getD,hk]
 have hs:=hq.transOk _ hm
 have hin:(q.trans.getD k noTx).2.1 ∈ E9 q:=A7k.2 (List.mem_map.2 ⟨_,hm,rfl⟩)
 have hacc:(q.trans.getD k noTx).2.1 ∈ N4 q k:=by
  have h1:=h.used (q.trans.getD k noTx).2.1.toNat (by omega)
  rw [Int.toNat_of_nonneg hs.1,hu] at h1
  have h2:=of_decide_eq_false h1.symm
  exact Decidable.byContradiction fun h3=>h2 ⟨hin,h3⟩
 have e:N4 q (k+1)=N4 q k:=by rw [A7r q hk,if_pos hacc]
 have hmm:(q.trans.getD k noTx).2.1 ∈ D9 q++N4 q k:=List.mem_append.2 (.inr hacc)
 refine ⟨h.lenT,h.lenU,by rw [e];exact h.used,by rw [e];exact h.out,by rw [e];exact h.at_,?_⟩
 rw [A2b noTx hk,List.map_append,← h.l,h.at_ _ hmm,List.map_cons,List.map_nil,B7d hmm]
theorem C49 {q:Qe} (hq:H7 q) {k:Nat} {tt:List Int} {used:List Bool} {out:List Sm} {l:List Tx} (h:B8a q k tt used out l) (hk:k < q.trans.length) (hu:used.getD (q.trans.getD k noTx).2.1.toNat false=true) :
  B8a q (k+1) (tt.set (q.trans.getD k noTx).2.1.toNat out.length) (used.set (q.trans.getD k noTx).2.1.toNat false) (out++[A0i q (q.trans.getD k noTx).2.1])
   (l++[((q.trans.getD k noTx).1,(tt.set (q.trans.getD k noTx).2.1.toNat out.length).getD (q.trans.getD k noTx).2.1.toNat 0,(q.trans.getD k noTx).2.2)]):=by
 have hm:q.trans.getD k noTx ∈ q.trans:=by simp [List.getD,hk]
 have hs:=hq.transOk _ hm
 have hsl:(q.trans.getD k noTx).2.1.toNat < q.syms.length:=by omega
 have hin:(q.trans.getD k noTx).2.1 ∈ E9 q:=A7k.2 (List.mem_map.2 ⟨_,hm,rfl⟩)
 have hacc:(q.trans.getD k noTx).2.1 ∉ N4 q k:=by
  have h1:=h.used (q.trans.getD k noTx).2.1.toNat (by omega)
  rw [Int.toNat_of_nonneg hs.1,hu] at h1
  exact (of_decide_eq_true h1.symm).2
 have hfirst:(q.trans.getD k noTx).2.1 ∉ D9 q:=fun hh=>(A2t (i:=q.syms.length) hh).2.2 hin
 have e:N4 q (k+1)=N4 q k++[(q.trans.getD k noTx).2.1]:=by rw [A7r q hk,if_neg hacc]
 have e2:D9 q++N4 q (k+1)=(D9 q++N4 q k)++[(q.trans.getD k noTx).2.1]:=by rw [e,List.append_assoc]
 have hno:(q.trans.getD k noTx).2.1 ∉ D9 q++N4 q k:=fun hh=>(List.mem_append.1 hh).elim hfirst hacc
 have hlen:out.length=(D9 q++N4 q k).length:=by rw [h.out,List.length_map]
 have hat:∀ j ∈ D9 q++N4 q (k+1),(tt.set (q.trans.getD k noTx).2.1.toNat out.length).getD j.toNat 0=((idx j (D9 q++N4 q (k+1))).getD 0:Int):=by
  intro j hj
  rw [e2] at hj ⊢
  rw [A7g _ _ _ _ _ (by rw [h.lenT];exact hsl)]
  rcases List.mem_append.1 hj with hj|hj
  ·have h0:0≤j:=by
    rcases List.mem_append.1 hj with h1|h1
    ·exact (A2t (i:=q.syms.length) h1).1
    ·obtain ⟨r,hr⟩:=B2q q k
     exact (C8l hq (by rw [hr];exact List.mem_append.2 (.inl h1))).1
   have hne:(q.trans.getD k noTx).2.1≠j:=fun hh=>hno (hh ▸ hj)
   rw [if_neg (by omega),B0w hj]
   exact h.at_ j hj
  ·rw [List.mem_singleton] at hj
   subst hj
   rw [if_pos rfl,B6v hno,hlen]
   rfl
 refine ⟨by rw [List.length_set];exact h.lenT,by rw [List.length_set];exact h.lenU,fun j hj=>?_,?_,hat,?_⟩
 ·rw [A7g _ _ _ _ _ (by rw [h.lenU];exact hsl),e]
  split
  ·rename_i hj2
   subst hj2
   rw [Int.toNat_of_nonneg hs.1]
   exact (decide_eq_false (by simp)).symm
  ·rename_i hj2
   rw [h.used j hj]
   have hne:(j:Int)≠(q.trans.getD k noTx).2.1:=by omega
   refine decide_eq_decide.2 ⟨fun h=>⟨h.1,fun hm=>?_⟩,fun h=>⟨h.1,fun hm=>h.2 (List.mem_append.2 (.inl hm))⟩⟩
   rcases List.mem_append.1 hm with hm|hm
   ·exact h.2 hm
   ·exact hne (List.mem_singleton.1 hm)
 ·rw [e2,List.map_append,← h.out]
  rfl
 ·have hmm:(q.trans.getD k noTx).2.1 ∈ D9 q++N4 q (k+1):=by rw [e2];simp
  rw [A2b noTx hk,List.map_append,← h.l,hat _ hmm,List.map_cons,List.map_nil,B7d hmm]
theorem C48 {q:Qe} {tt:List Int} {used:List Bool} {out:List Sm} {l:List Tx} (h:B8a q q.trans.length tt used out l):P5 q = { q with syms:=out,trans:=l }:=by
 unfold P5
 rw [h.out,h.l,B56 q (Nat.le_refl _),List.take_length]
 rfl
theorem B3u (x:Tr.Tr0):∀ (n m i:Nat) (q:Qe),D0 x (n+m) i q=match D0 x n i q with
  | .error e=>.error e
  | .ok q'=>D0 x m (i+n) q'
 | 0,m,i,q=>by rw [Nat.zero_add];rfl
 | n+1,m,i,q=>by
  rw [show n+1+m=(n+m)+1 by omega,D0,D0]
  cases C1 x q i with
  | error e=>rfl
  | ok q' =>
   dsimp only
   rw [B3u x n m (i+1) q',show i+1+n=i+(n+1) by omega]
theorem B1w {x:Tr.Tr0} (hx:∀ t ∈ x.2.2.2.2.2.2.2,A52 t.2):∀ (n i:Nat) (q q':Qe),M8 i q→D0 x n i q=.ok q'→M8 (i+n) q'
 | 0,i,q,q',h,e=>by cases e;exact h
 | n+1,i,q,q',h,e=>by
  unfold D0 at e
  split at e
  ·cases e
  ·rename_i q1 h1
   have:=B1w hx n (i+1) q1 q' (V2 hx h h1) e
   rwa [show i+1+n=i+(n+1) by omega] at this
theorem C94:(List.range 141).all (fun i=>Sc.L8 (nmF i))=true:=by kernel_rfl
theorem A6z {i:Nat} (h:i < 141):Sc.L8 (nmF i)=true:=List.all_eq_true.1 C94 i (List.mem_range.2 h)
theorem C45:Sc.L8 one_=true:=by kernel_rfl
theorem C1i (i:Nat):Tr.trB ((0,0,0),bTn i)=true:=by
 rw [show Tr.trB ((0,0,0),bTn i)=Tr.trB ((0,0,0),bTn 0) from rfl]
 kernel_rfl
theorem B8j (i:Nat) (hi:i≤100):Tr.A25 (0,A2m i)=true:=by
 have:∀ j ∈ List.range 101,Tr.A25 (0,A2m j)=true:=List.all_eq_true.1 (by kernel_rfl)
 exact this i (List.mem_range.2 (by omega))
theorem B8k (i:Nat) (hi:i≤100):Tr.A25 (0,A11 i)=true:=by
 have:∀ j ∈ List.range 101,Tr.A25 (0,A11 j)=true:=List.all_eq_true.1 (by kernel_rfl)
 exact this i (List.mem_range.2 (by omega))
theorem B6e {d u f s a t:Nat} (hd:d≤40) (hu:u≤40) (hf:f≤40) (hs:s≤40) (ha:a≤70):Tr.Y1 (F4 d u f s a t)=true:=by
 unfold Tr.Y1 F4
 simp only [Bool.and_eq_true,List.all_eq_true]
 refine ⟨by kernel_rfl,A6z (by omega),?_,?_,?_,?_,?_,?_⟩
 ·intro x hx
  obtain ⟨y,hy,rfl⟩:=List.mem_map.1 hx
  rcases List.mem_cons.1 hy with rfl|hy
  ·exact ⟨C45,by simp [Tr.A1f]⟩
  ·obtain ⟨i,hi,rfl⟩:=List.mem_map.1 hy
   rw [List.mem_range'_1] at hi
   exact ⟨A6z (by omega),by simp [bDe]⟩
 ·intro x hx
  obtain ⟨i,hi,rfl⟩:=List.mem_map.1 hx
  rw [List.mem_range] at hi
  exact ⟨A6z (by omega),rfl⟩
 ·intro x hx
  obtain ⟨i,hi,rfl⟩:=List.mem_map.1 hx
  rw [List.mem_range] at hi
  exact ⟨A6z (by omega),by rfl⟩
 ·intro x hx
  obtain ⟨i,hi,rfl⟩:=List.mem_map.1 hx
  rw [List.mem_range] at hi
  exact A6z (by omega)
 ·intro x hx
  obtain ⟨y,hy,rfl⟩:=List.mem_map.1 hx
  rcases List.mem_append.1 hy with hy|hy
  ·obtain ⟨i,hi,rfl⟩:=List.mem_map.1 hy
   rw [List.mem_range] at hi
   exact B8k i (by omega)
  ·obtain ⟨i,hi,rfl⟩:=List.mem_map.1 hy
   rw [List.mem_range] at hi
   exact B8j i (by omega)
 ·intro x hx
  obtain ⟨i,hi,rfl⟩:=List.mem_map.1 hx
  exact C1i i
theorem A8f {x:Tr.Tr0} (h:Tr.Y1 x=true):∀ t ∈ x.2.2.2.2.2.2.2,A52 t.2:=by
 intro t ht
 unfold Tr.Y1 at h
 simp only [Bool.and_eq_true,List.all_eq_true] at h
 exact C9o (h.2.2.2.2.2.2.2 t ht)
theorem B1k {x:Tr.Tr0} (h:Tr.Y1 x=true):∀ t ∈ x.2.2.2.2.2.2.1,∀ a ∈ t.2.2.1,a.1=1∨a.1=2∨a.1=3:=by
 intro t ht
 unfold Tr.Y1 at h
 simp only [Bool.and_eq_true,List.all_eq_true] at h
 exact B3y (h.2.2.2.2.2.2.1 t ht)
end Go.Proofs.YtaammejliikieaaGreatDoor.Ck
namespace Go.Proofs.YtaammejliikieaaGreatDoor.Ck
open Go Go.Ab Go.RowKit Go.Proofs.YtaammejliikieaaGreatDoor.Pa
variable {Γ:Nat→AV}
attribute [local irreducible] A8 Sto.set Sto.grow
theorem D1o (S:List UInt8) (l:Int):A8 Tryz.prog Γ 5 [.str S,.int .i64 l] fun v=>v=.agg [.str S,.int .i64 l,.int .i64 1]:=by
 refine aps Tryz.func5 ?_
 intro s
 conv=>whnf
 intro b hb
 refine wr ?_
 exact ⟨((Sub.refl _).set hb _ _).set hb _ _,rfl⟩
theorem A6y (n:Nat) (h:n < 676):A8 Tryz.prog Γ 6 [.int .i64 (n:Int)] fun v=>v=.str (nmF n):=by
 have h1:IntKind.i64.wrap ((n:Int).tdiv 26)=((n / 26:Nat):Int):=D5 (by rw [Int.tdiv_eq_ediv_of_nonneg (by omega)];rfl) (by omega) (by omega)
 have h2:((n / 26:Nat):Int).tmod 26=((n / 26 % 26:Nat):Int):=by rw [Int.tmod_eq_emod_of_nonneg (by omega)];rfl
 have h3:((n:Nat):Int).tmod 26=((n % 26:Nat):Int):=by rw [Int.tmod_eq_emod_of_nonneg (by omega)];rfl
 have h4:IntKind.i64.wrap (((n / 26 % 26:Nat):Int)+1)=((n / 26 % 26+1:Nat):Int):=D5 (by omega) (by omega) (by omega)
 have h5:IntKind.i64.wrap (((n % 26:Nat):Int)+1)=((n % 26+1:Nat):Int):=D5 (by omega) (by omega) (by omega)
 have hn:nmF n=[110,97+UInt8.ofNat (n / 26 % 26),97+UInt8.ofNat (n % 26)]:=rfl
 have ha:n / 26 % 26 < 26:=Nat.mod_lt _ (by decide)
 have hb:n % 26 < 26:=Nat.mod_lt _ (by decide)
 have hall:∀ a,a < 26→([97,98,99,100,101,102,103,104,105,106,107,108,109,110,111,112,113,114,115,116,117,118,119,120,121,122].take (a+1)).drop a=[(97:UInt8)+UInt8.ofNat a]:=by decide
 have ea:=hall _ ha
 have eb:=hall _ hb
 rw [hn]
 clear hn hall
 refine aps Tryz.func6 ?_
 intro s
 conv=>whnf
 generalize n / 26 % 26=a at *
 generalize n % 26=b at *
 repeat' ((first|(refine brS (fun h=>?_) (fun h=>?_)<;>(try rw [h])<;>(try simp only [bS,↓reduceIte] at h)<;>(try exact prc))|(simp only [h1,h2,h3,h4,h5])|refine gS ?_|refine aA ?_|refine nA ?_|fail)<;>(conv=>whnf))
 simp only [Int.toNat_natCast,ea,eb]
 rfl
end Go.Proofs.YtaammejliikieaaGreatDoor.Ck
namespace Go.Proofs.YtaammejliikieaaGreatDoor.Ck
open Go Go.Ab Go.RowKit Go.Proofs.YtaammejliikieaaGreatDoor.Pa
theorem B7b {y:Int}:∀ (l:List Int) (acc:List Int),y ∈ U7 acc l↔y ∈ acc∨y ∈ l
 | [],acc=>by simp [U7]
 | x::l,acc=>by
  rw [U7,B7b l]
  by_cases hx:x ∈ acc
  ·rw [if_pos hx]
   simp only [List.mem_cons]
   constructor
   ·rintro (h|h)
    ·exact .inl h
    ·exact .inr (.inr h)
   ·rintro (h|rfl|h)
    ·exact .inl h
    ·exact .inl hx
    ·exact .inr h
  ·rw [if_neg hx]
   simp only [List.mem_append,List.mem_singleton,List.mem_cons,List.not_mem_nil,or_false]
   exact or_assoc
theorem C6i {q:Qe} {y:Int}:y ∈ E9 q↔∃ t ∈ q.trans,t.2.1=y:=by
 unfold E9
 rw [B7b]
 simp
theorem C10 {q:Qe} {y:Int}:y ∈ D9 q↔(∃ i:Nat,i < q.syms.length∧y=i)∧y ∉ E9 q:=by
 unfold D9
 rw [List.mem_filter,List.mem_map]
 constructor
 ·rintro ⟨⟨i,hi,rfl⟩,h⟩
  exact ⟨⟨i,List.mem_range.1 hi,rfl⟩,of_decide_eq_true h⟩
 ·rintro ⟨⟨i,hi,rfl⟩,h⟩
  exact ⟨⟨i,List.mem_range.2 hi,rfl⟩,decide_eq_true h⟩
theorem C2l {q:Qe} (h:H7 q):∀ y ∈ D9 q++E9 q,0≤y∧y < q.syms.length:=by
 intro y hy
 rcases List.mem_append.1 hy with hy|hy
 ·obtain ⟨⟨i,hi,rfl⟩,_⟩:=C10.1 hy
  omega
 ·obtain ⟨t,ht,rfl⟩:=C6i.1 hy
  exact h.transOk t ht
end Go.Proofs.YtaammejliikieaaGreatDoor.Ck
namespace Go.Ab
open Go
structure U3 (n:Nat) (ty:Nat→TypeId × Nat) (s0 s:Sto) (tk:Nat→Nat):Prop where
 sub:Sub s0 s
 own:∀ i,i < n→tk i=1∨(tk i≠1∧s.lv (tk i) (ty i).1 (ty i).2∧∀ e k,¬ s0.lv (tk i) e k)
 ne:∀ i j,i < n→j < n→tk i=tk j→i=j∨tk i=1
section
variable {n:Nat} {ty:Nat→TypeId × Nat} {s0 s s1:Sto} {tk:Nat→Nat}
def J2 (tk:Nat→Nat) (i t:Nat):Nat→Nat:=fun j=>if j=i then t else tk j
theorem U3.start (h:Sub s0 s):U3 n ty s0 s (fun _=>1):=⟨h,fun _ _=>.inl rfl,fun _ _ _ _ _=>.inr rfl⟩
theorem U3.may (h:U3 n ty s0 s tk) {i:Nat} (hi:i < n):tk i=1∨s.lv (tk i) (ty i).1 (ty i).2:=(h.own i hi).imp id (·.2.1)
theorem U3.grow (h:U3 n ty s0 s tk) {i t':Nat} (hi:i < n) (h2:t'≠tk i→∀ e' k',¬ s.lv t' e' k') :
  U3 n ty s0 (s.grow (tk i) t' (ty i).1 (ty i).2) (J2 tk i t'):=by
 have hlv:∀ u e k,(s.grow (tk i) t' (ty i).1 (ty i).2).lv u e k↔(u=t'∧t'≠1∧e=(ty i).1∧k=(ty i).2)∨(s.lv u e k∧(u≠tk i∨tk i=1)):=fun _ _ _=>Iff.rfl
 have key:∀ j,j < n→j≠i→t'=tk j→tk j=1:=by
  intro j hj hji ht
  rcases h.own j hj with h1|⟨h1,h3,_⟩
  ·exact h1
  ·exfalso
   by_cases hti:t'=tk i
   ·rcases h.ne j i hj hi (ht.symm.trans hti) with h4|h4
    ·exact hji h4
    ·exact h1 h4
   ·exact h2 hti _ _ (ht ▸ h3)
 refine ⟨h.sub.grow ((h.own i hi).imp id (·.2.2)) _ _ _,?_,?_⟩
 ·intro j hj
  unfold J2
  split
  ·rename_i hji
   subst hji
   by_cases ht:t'=1
   ·exact .inl ht
   ·refine .inr ⟨ht,(hlv _ _ _).2 (.inl ⟨rfl,ht,rfl,rfl⟩),fun e k hx=>?_⟩
    by_cases hti:t'=tk j
    ·rcases h.own j hj with h1|⟨_,_,h1⟩
     ·exact ht (hti.trans h1)
     ·exact h1 _ _ (hti ▸ hx)
    ·exact h2 hti _ _ (h.sub.lv _ _ _ hx)
  ·rename_i hji
   rcases h.own j hj with h1|⟨h1,h3,h4⟩
   ·exact .inl h1
   ·refine .inr ⟨h1,(hlv _ _ _).2 (.inr ⟨h3,.inl fun he=>?_⟩),h4⟩
    rcases h.ne j i hj hi he with h5|h5
    ·exact hji h5
    ·exact h1 h5
 ·intro a b ha hb
  unfold J2
  split<;>split
  ·rename_i h3 h4;exact fun _=>.inl (h3.trans h4.symm)
  ·rename_i h3 h4
   intro ht
   exact .inr (ht.trans (key b hb h4 ht))
  ·rename_i h3 h4
   intro ht
   exact .inr (key a ha h3 ht.symm)
  ·exact h.ne a b ha hb
theorem U3.set (h:U3 n ty s0 s tk) {b:Nat} (hb:s0.bx b=none) (T:TypeId) (cs:List AV):U3 n ty s0 (s.set b T cs) tk :=
 ⟨h.sub.set hb T cs,fun i hi=>(h.own i hi).imp id fun x=>x,h.ne⟩
theorem U3.setM (h:U3 n ty s0 s tk) {b:Nat} (hb:s0.mp b=none) (es:List (List UInt8 × AV)):U3 n ty s0 (s.setM b es) tk :=
 ⟨⟨h.sub.bx,h.sub.lv,fun c x hx=>by
  simp only [Sto.setM]
  split
  ·rename_i hc;subst hc;rw [hb] at hx;cases hx
  ·exact h.sub.mp c x hx⟩,h.own,h.ne⟩
theorem U3.of_sub (h:U3 n ty s0 s tk) {s2:Sto} (hs:Sub s2 s0):U3 n ty s2 s tk :=
 ⟨hs.trans h.sub,fun i hi=>(h.own i hi).imp id fun x=>⟨x.1,x.2.1,fun e k hx=>x.2.2 e k (hs.lv _ _ _ hx)⟩,h.ne⟩
theorem U3.keep (h:U3 n ty s0 s tk) {b:Nat} {T:TypeId} {cs:List AV} (hb:s.bx b=some (T,cs)):U3 n ty (s0.set b T cs) s tk :=
 ⟨⟨fun c x hc=>by
  by_cases hcb:c=b
  ·subst hcb;rw [A3] at hc;rw [← hc];exact hb
  ·rw [A4 hcb] at hc;exact h.sub.bx c x hc,h.sub.lv,h.sub.mp⟩,fun i hi=>(h.own i hi).imp id fun x=>x,h.ne⟩
theorem S7 {b:Nat} {es:List (List UInt8 × AV)}:(s.setM b es).mp b=some es:=if_pos rfl
theorem H5 {b c:Nat} {es:List (List UInt8 × AV)} (h:c≠b):(s.setM b es).mp c=s.mp c:=if_neg h
theorem C2 {b c:Nat} {T:TypeId} {cs:List AV}:(s.set b T cs).mp c=s.mp c:=rfl
theorem Q6 {c t t':Nat} {e:TypeId} {k:Nat}:(s.grow t t' e k).mp c=s.mp c:=rfl
theorem Sub.setM {b:Nat} (h:Sub s0 s) (hb:s0.mp b=Option.none) (es:List (List UInt8 × AV)):Sub s0 (s.setM b es) :=
 ⟨h.bx,h.lv,fun c x hx=>by
  simp only [Sto.setM]
  split
  ·rename_i hc;subst hc;rw [hb] at hx;cases hx
  ·exact h.mp c x hx⟩
theorem Sub.noneM {b:Nat} (h:Sub s0 s) (hb:s.mp b=Option.none):s0.mp b=Option.none:=by
 cases hx:s0.mp b with
 | none=>rfl
 | some x=>rw [h.mp b x hx] at hb;cases hb
theorem Sub.setM2 {b:Nat} (h:Sub s0 s) (es:List (List UInt8 × AV)):Sub (s0.setM b es) (s.setM b es) :=
 ⟨h.bx,h.lv,fun c x hx=>by
  simp only [Sto.setM] at hx ⊢
  split
  ·rename_i hc;rw [if_pos hc] at hx;exact hx
  ·rename_i hc;rw [if_neg hc] at hx;exact h.mp c x hx⟩
theorem A0y {b:Nat} {es:List (List UInt8 × AV)} (h:s.mp b=some es):s.setM b es=s:=by
 cases s with
 | mk bx lv mp fin =>
  unfold Sto.setM
  simp only [Sto.mk.injEq,true_and,and_true]
  funext i
  split
  ·rename_i hi;subst hi;exact h.symm
  ·rfl
theorem C0y {b:Nat} {T T':TypeId} {cs cs':List AV}:(s.set b T cs).set b T' cs'=s.set b T' cs':=by
 unfold Sto.set
 simp only [Sto.mk.injEq,and_true]
 funext i
 split<;>rfl
end
end Go.Ab
