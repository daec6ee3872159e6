/- Part 3 of what the closing text needs: QuE, QuF, LxA, LxB, Sp1, LxC, LxD, LxE. No condition of mine beyond those that the theorems name. -/
import Derived.Test.YtaammejliikieaaGreatDoorG2
import Derived.Test.YtaammejliikieaaGreatDoorG1
set_option maxRecDepth 10000
set_option maxHeartbeats 60000000
set_option linter.all false
namespace Go.Proofs.YtaammejliikieaaGreatDoor.Bd
end Go.Proofs.YtaammejliikieaaGreatDoor.Bd
namespace Go.Proofs.YtaammejliikieaaGreatDoor.Ix
end Go.Proofs.YtaammejliikieaaGreatDoor.Ix
namespace Go.Proofs.YtaammejliikieaaGreatDoor.Sc
end Go.Proofs.YtaammejliikieaaGreatDoor.Sc
namespace Go.Proofs.YtaammejliikieaaGreatDoor.Qu
open Go Go.Ab Go.Proofs.YtaammejliikieaaGreatDoor.Bd Go.Proofs.YtaammejliikieaaGreatDoor.Ix
attribute [local irreducible] A8 Sto.set Sto.grow
variable {Γ:Nat→AV}
def A6g:List UInt8→Option (List UInt8 × Nat)
 | []=>none
 | b::r=>if b=34 then some ([],1) else if (tk (b::r)).2=0 then none
  else (A6g (r.drop ((tk (b::r)).2.toNat - 1))).map fun x=>(UInt8.ofNat (tk (b::r)).1.toNat::x.1,x.2+(tk (b::r)).2.toNat)
termination_by l=>l.length
decreasing_by simp only [List.length_drop,List.length_cons];omega
def cut:List UInt8→Option (List UInt8 × Nat)
 | []=>none
 | b::r=>if b=34 then (A6g r).map fun x=>(x.1,x.2+1) else none
theorem B31 (l:List UInt8) (h:l≠[]):(tk l).1=(UInt8.ofNat (tk l).1.toNat).toNat∧(tk l=(0,0)∨1≤(tk l).2∧(tk l).2≤l.length):=by
 rcases B70 l h with ht|⟨m,hm,r,rfl⟩
 ·rw [ht];exact ⟨rfl,.inl rfl⟩
 ·rw [C86 m hm]
  have:1≤(one (m:Int)).length:=by
   have:=C0u (UInt8.ofNat m)
   simpa [Nat.mod_eq_of_lt hm] using this
  refine ⟨by simp [Nat.mod_eq_of_lt hm],.inr ⟨by simp;omega,by simp;omega⟩⟩
def pre (o:List UInt8) (i:Nat) (x:Option (List UInt8 × Nat)):Option (List UInt8 × Nat):=x.map fun y=>(o++y.1,i+y.2)
theorem B26 {l:List UInt8} {o:List UInt8} {i:Nat} (hi:i < l.length) (hq:B0 l i≠34) :
  ((tk (l.drop i)).2=0→pre o i (A6g (l.drop i))=none) ∧
  ((tk (l.drop i)).2≠0→pre o i (A6g (l.drop i))=pre (o++[UInt8.ofNat (tk (l.drop i)).1.toNat]) (i+(tk (l.drop i)).2.toNat) (A6g (l.drop (i+(tk (l.drop i)).2.toNat)))):=by
 have hd:=X3 hi
 have hb:=B31 (l.drop i) (by rw [hd];simp)
 constructor
 ·intro h
  rw [hd] at h ⊢
  rw [A6g,if_neg hq,if_pos h]
  rfl
 ·intro h
  have h2:1≤(tk (l.drop i)).2:=by
   rcases hb.2 with hb|hb
   ·rw [hb] at h;exact absurd rfl h
   ·exact hb.1
  have e:l.drop (i+(tk (l.drop i)).2.toNat)=(l.drop (i+1)).drop ((tk (l.drop i)).2.toNat - 1):=by
   rw [List.drop_drop];congr 1;omega
  rw [e]
  rw [hd] at h ⊢
  rw [A6g,if_neg hq,if_neg h]
  simp only [pre,Option.map_map]
  congr 1
  funext y
  simp
  omega
def C33 (b:Bool) (l:List UInt8):List AV :=
 match cut l with
 | none=>[.str [],.int .i64 0]++(if b then [.bool false] else [])
 | some (t,k)=>[.str t,.int .i64 k]++(if b then [.bool true] else [])
theorem A4h {b:Bool} {l:List UInt8} (h:cut l=none):C33 b l=[.str [],.int .i64 0]++(if b then [.bool false] else []):=by unfold C33;rw [h]
theorem B24 {b:Bool} {l t:List UInt8} {k:Nat} (h:cut l=some (t,k)):C33 b l=[.str t,.int .i64 k]++(if b then [.bool true] else []):=by unfold C33;rw [h]
theorem C35 {l:List UInt8} (h:0 < l.length):cut l=if B0 l 0=34 then pre [] 1 (A6g (l.drop 1)) else none:=by
 cases l with
 | nil=>simp at h
 | cons b r =>
  show (if b=34 then _ else none)=(if b=34 then _ else none)
  split
  ·simp only [pre,List.drop_succ_cons,List.drop_zero]
   congr 1
   funext y
   simp;omega
  ·rfl
theorem A9k {b:UInt8} {n:Nat} (hn:n < 256):(b.toNat:Int)=n↔b=UInt8.ofNat n:=by
 constructor
 ·intro h
  have:b.toNat=n:=Int.ofNat.inj h
  rw [← this];simp
 ·rintro rfl
  simp [Nat.mod_eq_of_lt hn]
structure D19 (l:List UInt8) (s s':Sto) (x:List UInt8 × Nat × Nat):Prop where
 lo:1≤x.2.1
 hi:x.2.1≤l.length
 len:x.1.length≤x.2.1
 own:Own s s' x.1.isEmpty x.2.2 5 1
 eq:cut l=pre x.1 x.2.1 (A6g (l.drop x.2.1))
theorem B1h (hT:A7o Γ) (l:List UInt8) (hl:l.length≤1048576):A8 Tryz.prog Γ 223 [.str l] fun v=>v=.tuple (C33 true l):=by
 refine aps Tryz.func223 ?_
 intro s
 conv=>whnf
 rcases Nat.eq_zero_or_pos l.length with hz|hpos
 ·obtain rfl:=List.eq_nil_of_length_eq_zero hz
  refine wr ?_
  rfl
 repeat' (first
  | (refine ⟨Sub.refl _,?_⟩)
  | (refine L3 (fun h=>?_) (fun h=>?_)<;>(try rw [h])<;>(try simp only [Bool.false_eq_true,Bool.true_eq_false,↓reduceIte,decide_eq_true_eq,decide_eq_false_iff_not,Bool.not_eq_true',Bool.not_eq_false'] at h)<;>(conv=>whnf))
  | (refine L4 ?_;conv=>whnf)
  | (refine AWp.any (by kernel_rfl) (by kernel_rfl) (by kernel_rfl) ?_;conv=>whnf)
  | (apply And.intro;(focus (first|omega|rfl|decide|exact Nat.le_of_ble_eq_true rfl|((repeat' (first|exact C3|refine all_cons ?_ ?_|rfl|fail));done)|(simp [-List.length_flatMap];done)|(simp [-List.length_flatMap];omega)|fail));conv=>whnf)
  | fail)
 ·subst h;simp at hpos
 ·rw [A4h (b:=true)]
  ·rfl
  rw [C35 hpos,if_neg]
  intro hq
  apply h
  show ((B0 l 0).toNat:Int)=34
  rw [hq];rfl
 ·rename_i h1
  have hq:B0 l 0=34:=(A9k (n:=34) (by decide)).1 h
  refine AWp.loopA [5,6] [16,17,18,19,20,21,22,23,24,25,27,28,29,30,26,31,32,7,8,33,34,2,3,4,35,36,37,38,39,40,41] (fun x:List UInt8 × Nat × Nat=>[.slice x.2.2 (K6 x.1),.int .i64 x.2.1]) (fun x s'=>D19 l s s' x) (fun x=>l.length - x.2.1) (([],1,1)) (by kernel_rfl) (by (repeat' (first|refine G6 ?_ ?_|refine G2 ?_ ?_ ?_|rfl|omega))) ?_ ?_
  ·exact ⟨by simp,hpos,by simp,Own.nil _ _ _,by rw [C35 hpos,if_pos hq]⟩
  ·rintro x ⟨o,i,t⟩ s' ⟨h1,h2,h3,h4,h5⟩
   simp only at h1 h2 h3 h4 h5
   conv=>whnf
   repeat' (first
    | (refine ⟨Sub.refl _,?_⟩)
    | (refine L3 (fun h=>?_) (fun h=>?_)<;>(try rw [h])<;>(try simp only [Bool.false_eq_true,Bool.true_eq_false,↓reduceIte,decide_eq_true_eq,decide_eq_false_iff_not,Bool.not_eq_true',Bool.not_eq_false'] at h)<;>(conv=>whnf))
    | (refine A2.pure' ?_ (B5u hT _ ?_ ?_);rintro _ rfl;conv=>whnf)
    | (refine L4 ?_;conv=>whnf)
    | (refine AWp.any (by kernel_rfl) (by kernel_rfl) (by kernel_rfl) ?_;conv=>whnf)
    | (apply And.intro;(focus (first|omega|rfl|decide|exact Nat.le_of_ble_eq_true rfl|((repeat' (first|exact C3|refine all_cons ?_ ?_|rfl|fail));done)|(simp [-List.length_flatMap];done)|(simp [-List.length_flatMap];omega)|fail));conv=>whnf)
    | fail)
   ·rename_i h6 h7
    simp only [Int.toNat_natCast,List.take_length] at h h7
    refine ⟨h4.sub,?_⟩
    rw [A4h (b:=true)]
    ·rfl
    rw [h5]
    exact (B26 (by omega) (fun hq=>h7 ((A9k (n:=34) (by decide)).2 hq))).1 h
   ·rename_i h6 h7
    simp only [Int.toNat_natCast,List.take_length] at h h7 ⊢
    have hr:=(B26 (o:=o) (l:=l) (i:=i) (by omega) (fun hq=>h7 ((A9k (n:=34) (by decide)).2 hq))).2 h
    have hb:=B31 (l.drop i) (by rw [X3 (by omega)];simp)
    have hb2:1≤(tk (l.drop i)).2∧(tk (l.drop i)).2≤(l.drop i).length:=by
     rcases hb.2 with hb|hb
     ·rw [hb] at h;exact absurd rfl h
     ·exact hb
    have hb3:=hb2.2
    simp only [List.length_drop] at hb3
    refine ⟨h4.may,B8r o,all_cons ⟨rfl,rfl⟩ C3,?_,?_⟩
    ·show ((K6 o).length+1) * (1+1)≤_
     rw [A97];omega
    intro t' k1 k2
    have k3:=h4.grow k1 k2
    conv=>whnf
    refine ⟨(o++[UInt8.ofNat (tk (l.drop i)).1.toNat],i+(tk (l.drop i)).2.toNat,t'),?_,by (repeat (first|exact L0.refl _ _|refine L0.upd rfl ?_|refine L0.updL rfl ?_|refine L0.havoc rfl ?_)),⟨by simp only;omega,by simp only;omega,by simp;omega,?_,?_⟩,by simp only;omega⟩
    ·refine G6 ?_ (G6 (G2 ?_ ?_ ?_) rfl)
     ·show AV.slice t' _=AV.slice t' _
      rw [B2d]
      congr 2
      show [[AV.int .u8 (tk (List.drop _ _)).1]]=[[AV.int .u8 _]]
      rw [← hb.1]
     ·show (i:Int)+_=((i+(tk (l.drop i)).2.toNat:Nat):Int)
      omega
     ·show _≤((i+(tk (l.drop i)).2.toNat:Nat):Int)
      omega
     ·show ((i+(tk (l.drop i)).2.toNat:Nat):Int)≤_
      omega
    ·have e:(o++[UInt8.ofNat (tk (l.drop i)).1.toNat]).isEmpty=(o.isEmpty && [[AV.int .u8 (tk (l.drop i)).1]].isEmpty):=by simp
     simp only
     rw [e]
     exact k3
    ·exact h5.trans hr
   ·simp;omega
   ·simp;omega
   ·exfalso;omega
   ·rename_i h6 h7
    simp only [Int.toNat_natCast] at h7
    rw [B10]
    conv=>whnf
    refine ⟨h4.sub,?_⟩
    rw [B24 (b:=true) (t:=o) (k:=i+1)]
    ·show AV.tuple [.str o,.int .i64 (IntKind.i64.wrap (i+1)),.bool true]=.tuple [.str o,.int .i64 ((i+1:Nat):Int),.bool true]
     rw [D5 (b:=((i+1:Nat):Int)) (by omega) (by omega) (by omega)]
    ·have hq':B0 l i=34:=(A9k (n:=34) (by decide)).1 h7
     rw [h5,X3 (by omega),hq',A6g,if_pos rfl]
     simp [pre]
   ·refine ⟨h4.sub,?_⟩
    rw [A4h (b:=true)]
    ·rfl
    rw [h5,C0 (by omega),A6g]
    rfl
   ·exfalso;omega
theorem B5n (hT:A7o Γ) (l:List UInt8) (hl:l.length≤1048576) (h:cut l=none):A8 Tryz.prog Γ 223 [.str l] fun v=>v=.tuple [.str [],.int .i64 0,.bool false]:=by
 have:=B1h hT l hl
 rw [A4h h] at this
 exact this
theorem B5o (hT:A7o Γ) (l:List UInt8) (hl:l.length≤1048576) {t:List UInt8} {k:Nat} (h:cut l=some (t,k)):A8 Tryz.prog Γ 223 [.str l] fun v=>v=.tuple [.str t,.int .i64 k,.bool true]:=by
 have:=B1h hT l hl
 rw [B24 h] at this
 exact this
theorem B25:∀ (n:Nat) (l:List UInt8),l.length≤n→∀ t k,A6g l=some (t,k)→k≤l.length∧l.take k=(t.flatMap fun c=>one c.toNat)++[34]
 | _,[],_,t,k,h=>by rw [A6g] at h;cases h
 | 0,_::_,hn,_,_,_=>by simp at hn
 | n+1,b::r,hn,t,k,h=>by
  rw [A6g] at h
  split at h
  ·rename_i hb
   simp only [Option.some.injEq,Prod.mk.injEq] at h
   obtain ⟨rfl,rfl⟩:=h
   subst hb
   simp
  ·split at h
   ·cases h
   ·rename_i hb hz
    obtain ⟨x,hx,he⟩:=Option.map_eq_some_iff.1 h
    obtain ⟨t',k'⟩:=x
    simp only [Prod.mk.injEq] at he
    obtain ⟨rfl,rfl⟩:=he
    rcases B70 (b::r) (by simp) with ht|⟨m,hm,r',hr⟩
    ·rw [ht] at hz;exact absurd rfl hz
    ·have ht:=C86 m hm r'
     rw [← hr] at ht
     have hpos:1≤(one (m:Int)).length:=by
      have:=C0u (UInt8.ofNat m)
      simpa [Nat.mod_eq_of_lt hm] using this
     rw [ht] at hx ⊢
     have hd:r.drop ((one (m:Int)).length - 1)=r':=by
      have h1:(b::r).drop (one (m:Int)).length=r':=by rw [hr];simp
      obtain ⟨p,hp⟩:∃ p,(one (m:Int)).length=p+1:=⟨(one (m:Int)).length - 1,by omega⟩
      rw [hp] at h1 ⊢
      simpa using h1
     simp only [Int.toNat_natCast] at hx ⊢
     rw [hd] at hx
     have hlen:=congrArg List.length hr
     simp only [List.length_cons,List.length_append] at hlen hn
     obtain ⟨h1,h2⟩:=B25 n r' (by omega) t' k' hx
     refine ⟨by rw [hr];simp;omega,?_⟩
     rw [hr,show k'+(one (m:Int)).length=(one (m:Int)).length+k' by omega,List.take_length_add_append,h2]
     have e:((UInt8.ofNat m).toNat:Int)=m:=by simp [Nat.mod_eq_of_lt hm]
     simp only [List.flatMap_cons,e,List.append_assoc]
theorem C34 {l t:List UInt8} {k:Nat} (h:cut l=some (t,k)):0 < k∧k≤l.length∧C0w t=l.take k:=by
 cases l with
 | nil=>cases h
 | cons b r =>
  have h:(if b=34 then _ else none)=some (t,k):=h
  split at h
  ·rename_i hb
   subst hb
   obtain ⟨⟨t',k'⟩,hx,he⟩:=Option.map_eq_some_iff.1 h
   simp only [Prod.mk.injEq] at he
   obtain ⟨rfl,rfl⟩:=he
   obtain ⟨h1,h2⟩:=B25 _ r (Nat.le_refl _) _ _ hx
   refine ⟨by omega,by simp;omega,?_⟩
   rw [List.take_succ_cons,h2]
   simp [C0w]
  ·cases h
end Go.Proofs.YtaammejliikieaaGreatDoor.Qu
namespace Go.Proofs.YtaammejliikieaaGreatDoor.Lx
open Go Go.Ab Go.RowKit Go.Proofs.YtaammejliikieaaGreatDoor.Sc
variable {Γ:Nat→AV}
attribute [local irreducible] A8 Sto.set Sto.grow
theorem A58 {b:UInt8} {n:Nat} (hn:n < 256):(b.toNat:Int)=n↔b=UInt8.ofNat n:=by
 constructor
 ·intro h
  have:b.toNat=n:=Int.ofNat.inj h
  rw [← this];simp
 ·rintro rfl
  simp [Nat.mod_eq_of_lt hn]
theorem b10 {b:UInt8}:(b.toNat:Int)=10↔b=10:=A58 (n:=10) (by decide)
theorem b34 {b:UInt8}:(b.toNat:Int)=34↔b=34:=A58 (n:=34) (by decide)
theorem b35 {b:UInt8}:(b.toNat:Int)=35↔b=35:=A58 (n:=35) (by decide)
theorem B2m (n:Int):A8 Tryz.prog Γ 197 [.int .u8 n] fun v=>v=.bool (T9 n):=by
 refine aps Tryz.func197 ?_
 intro s
 conv=>whnf
 repeat' ((first|exact pru|(refine brS (fun h=>?_) (fun h=>?_)<;>(try rw [h])<;>(try simp only [bS,↓reduceIte] at h))|refine gS ?_|refine aA ?_|refine nA ?_|fail)<;>(conv=>whnf))
 all_goals refine C4 ?_
 all_goals unfold T9
 all_goals simp [*]
 all_goals omega
def A5h (n:Int):Bool:=decide (48≤n) && decide (n≤57)
def B4h (n:Int):Bool:=decide (n=32) || decide (n=9) || decide (n=10) || decide (n=13)
theorem B00 (n:Int):A8 Tryz.prog Γ 192 [.int .u8 n] fun v=>v=.bool (B4h n):=by
 refine aps Tryz.func192 ?_
 intro s
 conv=>whnf
 repeat' ((first|(refine brS (fun h=>?_) (fun h=>?_)<;>(try rw [h])<;>(try simp only [bS,↓reduceIte] at h))|refine gS ?_|refine aA ?_|refine nA ?_|fail)<;>(conv=>whnf))
 all_goals refine C4 ?_
 all_goals unfold B4h
 all_goals simp [*]
def M5:Bool→List UInt8→Nat
 | _,[]=>0
 | true,c::r=>if c=10 then M5 false r+1 else M5 true r+1
 | false,c::r=>if c=35 then M5 true r+1 else if B4h c.toNat=true then M5 false r+1 else 0
def C7 (l:List UInt8):Nat:=M5 false l
theorem A7t:∀ (l:List UInt8) (b:Bool),M5 b l≤l.length
 | [],b=>by cases b<;>exact Nat.le_refl _
 | c::r,b=>by
  have h1:=A7t r true
  have h2:=A7t r false
  cases b
  ·rw [M5]
   split
   ·simp only [List.length_cons];omega
   ·split
    ·simp only [List.length_cons];omega
    ·omega
  ·rw [M5]
   split
   ·simp only [List.length_cons];omega
   ·simp only [List.length_cons];omega
theorem C1k (l:List UInt8):C7 l≤l.length:=A7t l false
theorem A8r:∀ q:List UInt8,(Lib.indexByte q 10 = -1→M5 true q=q.length)∧∀ n:Nat,Lib.indexByte q 10=n→M5 true q=n+M5 false (q.drop n)
 | []=>⟨fun _=>rfl,fun n h=>by unfold Lib.indexByte at h;omega⟩
 | c::r=>by
  have ih:=A8r r
  have hge:=Lib.indexByte_ge r 10
  unfold Lib.indexByte
  by_cases hc:c=10
  ·subst hc
   refine ⟨fun h=>by simp at h,fun n h=>?_⟩
   simp at h
   have:n=0:=by omega
   subst this
   simp [M5,B4h]
  ·have hcb:(c == 10)=false:=by simpa using hc
   rw [hcb]
   simp only [Bool.false_eq_true,if_false]
   rw [M5,if_neg hc]
   by_cases hr:Lib.indexByte r 10 = -1
   ·rw [hr]
    refine ⟨fun _=>by rw [ih.1 hr,List.length_cons],fun n h=>by simp at h<;>omega⟩
   ·have:(Lib.indexByte r 10 == -1)=false:=by simpa using hr
    rw [this]
    simp only [Bool.false_eq_true,if_false]
    refine ⟨fun h=>by omega,fun n h=>?_⟩
    obtain ⟨m,rfl⟩:∃ m,n=m+1:=⟨n - 1,by omega⟩
    rw [ih.2 m (by omega)]
    simp only [List.drop_succ_cons]
    omega
theorem C1j (r:List UInt8):M5 false (35::r)=M5 true (35::r):=by rw [M5,M5,if_pos rfl,if_neg (by decide)]
theorem C18 (q:List UInt8) (h:Lib.indexByte q 10≠-1):∃ n:Nat,Lib.indexByte q 10=n∧n < q.length:=by
 have:=Lib.indexByte_ge q 10
 refine ⟨(Lib.indexByte q 10).toNat,by omega,?_⟩
 have h2:=(Lib.indexByte_some (l:=q) (c:=10) (o:=(Lib.indexByte q 10).toNat) (by omega)).1
 exact (List.getElem?_eq_some_iff.1 h2).1
theorem B5m (l:List UInt8) (hl:l.length≤1048576):A8 Tryz.prog Γ 149 [.str l] fun v=>v=.int .i64 (C7 l):=by
 refine aps Tryz.func149 ?_
 intro s
 refine wr ?_
 refine AWp.loopA [4] [6,7,8,9,10,11,12,13,14,15,16,17,5,18,19,20,21,2,22,23,24,25,26,27,28,29,30,31,32] (fun i:Nat=>[.int .i64 i]) (fun i s'=>i≤l.length∧s'=s∧C7 l=i+M5 false (l.drop i)) (fun i=>l.length - i) (0) (by kernel_rfl) (eqa) ?_ ?_
 ·exact ⟨by omega,rfl,by rw [List.drop_zero];simp [C7]⟩
 ·rintro x i _ ⟨h1,rfl,h2⟩
  show awp _ _ _ _ _ (updL _ _ [.int .i64 (i:Int)]) _
  conv=>whnf
  have hb:=b35 (b:=B0 l i)
  have hA:List.drop ((i:Int)).toNat (List.take l.length l)=l.drop i:=by rw [Int.toNat_natCast,Z6]
  have hw:∀ n:Nat,n≤l.length→IntKind.i64.wrap ((i:Int)+n)=((i+n:Nat):Int):=fun n hn=>D5 (by omega) (by omega) (by omega)
  by_cases hlt:i < l.length
  ·have hd:=X3 hlt
   by_cases h35:B0 l i=35
   ·have h35':=hb.2 h35
    have h35'':((B0 l ((i:Int)).toNat).toNat:Int)=35:=h35'
    have ht:=A8r (l.drop i)
    have hlen:(l.drop i).length=l.length - i:=List.length_drop
    have hx:M5 false (l.drop i)=M5 true (l.drop i):=by rw [hd,h35,C1j]
    have hix:=Ix.A2y (Γ:=Γ) (l.drop i) 10
    rw [show ((10:Int).toNat.toUInt8)=10 from rfl] at hix
    by_cases hn:Lib.indexByte (l.drop i) 10 = -1
    ·rw [hn] at hix
     refine wp ?_;(rw [hA]);refine wp ?_
     rw [h2,hx,ht.1 hn,hlen]
     exact congrArg (AV.int .i64) (by omega)
    ·obtain ⟨n,hn1,hn2⟩:=C18 _ hn
     rw [hn1] at hix
     have hpos:n≠0:=by
      rintro rfl
      have:=(Lib.indexByte_some (l:=l.drop i) (c:=10) (o:=0) hn1).1
      rw [hd,h35] at this
      cases this
     refine wp ?_;(rw [hA]);refine wp ?_
     refine ⟨i+n,?_,B8,⟨by omega,by first|rfl|trivial,?_⟩,by omega⟩
     ·exact G6 (by show AV.int .i64 (IntKind.i64.wrap ((i:Int)+n))=_;rw [hw n (by omega)]) rfl
     ·rw [h2,hx,ht.2 n hn1,List.drop_drop];omega
   ·have h35':¬ ((B0 l i).toNat:Int)=35:=fun hh=>h35 (hb.1 hh)
    have h35'':¬ ((B0 l ((i:Int)).toNat).toNat:Int)=35:=h35'
    repeat' ((first|exact pru|(refine brS (fun h=>?_) (fun h=>?_)<;>(try rw [h])<;>(try simp only [bS,↓reduceIte] at h))|(refine A2.pure' ?_ (B00 _);rintro _ rfl)|refine A7.pure ?_ (B00 _)|refine gS ?_|refine aA ?_|refine nA ?_|fail)<;>(conv=>whnf))
    all_goals (try simp only [Int.toNat_natCast] at *)
    ·rw [h2,hd,M5,if_neg h35,if_neg (by simp_all)]
     rfl
    ·refine ⟨i+1,?_,B8,⟨by omega,by first|rfl|trivial,?_⟩,by omega⟩
     ·exact G6 (by show AV.int .i64 (IntKind.i64.wrap ((i:Int)+1))=_;rw [show ((i:Int)+1)=(i:Int)+(1:Nat) by rfl,hw 1 (by omega)]) rfl
     ·rw [h2,hd,M5,if_neg h35,if_pos (by simp_all)];omega
  ·refine wp ?_
   rw [h2,C0 hlt]
   rfl
end Go.Proofs.YtaammejliikieaaGreatDoor.Lx
namespace Go.Proofs.YtaammejliikieaaGreatDoor.Lx
open Go Go.Ab Go.RowKit Go.Proofs.YtaammejliikieaaGreatDoor.Sc
variable {Γ:Nat→AV}
theorem A6f (l:List UInt8):A8 Tryz.prog Γ 194 [.str l,.str [10]] fun v=>v=.int .i64 (l.count 10):=by
 refine fun s=>⟨fun G w vs hm hr=>?_⟩
 obtain ⟨u,us,rfl,hu,hus⟩:=A9.1 hr
 obtain ⟨u1,us1,rfl,hu1,hus1⟩:=A9.1 hus
 rw [B4] at hus1;subst hus1
 rw [M3] at hu;subst hu
 rw [M3] at hu1;subst hu1
 refine Calls.mono (Tryz.strings_Count_one ⟨l.toArray⟩ 10 w) ?_
 rintro e w' ⟨rfl,rfl⟩
 exact ⟨_,_,s,G,rfl,⟨rfl,rfl⟩,F5.2 (by simp [Lib.countByte]),hm,Ext.refl _ _⟩
attribute [local irreducible] A8 Sto.set Sto.grow
def V4:List UInt8→UInt8→Int
 | [],_=>-1
 | b::r,c=>if V4 r c≠-1 then V4 r c+1 else if b=c then 0 else -1
theorem A3w:∀ (l:List UInt8) (c:UInt8),-1≤V4 l c∧V4 l c < l.length
 | [],c=>⟨Int.le_refl _,by simp [V4]⟩
 | b::r,c=>by
  have:=A3w r c
  unfold V4
  split
  ·simp only [List.length_cons];omega
  ·split<;>simp only [List.length_cons]<;>omega
theorem A79:∀ (l:List UInt8) (b c:UInt8),V4 (l++[b]) c=if b=c then (l.length:Int) else V4 l c
 | [],b,c=>by simp [V4]
 | a::r,b,c=>by
  rw [List.cons_append,V4,A79 r b c,V4]
  by_cases hb:b=c
  ·simp [hb]
  ·simp [hb]
theorem B03:∀ (l:List UInt8) (c:UInt8),V4 l c = -1↔l.count c=0
 | [],c=>by simp [V4]
 | b::r,c=>by
  have:=B03 r c
  have hg:=(A3w r c).1
  rw [V4,List.count_cons]
  by_cases hr:V4 r c = -1
  ·have h0:=this.1 hr
   by_cases hb:b=c<;>simp [hr,h0,hb]
  ·have h0:List.count c r≠0:=fun h=>hr (this.2 h)
   rw [if_pos hr]
   constructor
   ·intro h;omega
   ·intro h;omega
theorem B62 (l:List UInt8) (c:UInt8) (hl:l.length≤1048576):A8 Tryz.prog Γ 195 [.str l,.int .u8 c.toNat] fun v=>v=.int .i64 (V4 l c):=by
 have inner:∀ Γ:Nat→AV,A8 Tryz.prog Γ 222 [.str l,.int .u8 c.toNat] fun v=>v=.int .i64 (V4 l c):=by
  intro Γ
  refine aps Tryz.func222 ?_
  intro s
  refine wp ?_
  refine AWp.loopA [5] [9,10,13,14,15,16,17,18,4,11,12] (fun i:Nat=>[.int .i64 ((i:Int) - 1)]) (fun i s'=>i≤l.length∧s'=s∧V4 l c=V4 (l.take i) c) (fun i=>i) (l.length) (by kernel_rfl) (eqa) ?_ ?_
  ·exact ⟨by omega,rfl,by rw [List.take_length]⟩
  ·rintro x i s1 ⟨h1,rfl,h2⟩
   show awp _ _ _ _ _ (updL _ _ [.int .i64 ((i:Int) - 1)]) _
   conv=>whnf
   by_cases hi:i=0
   ·subst hi
    refine wp ?_
    rw [h2];rfl
   ·obtain ⟨k,rfl⟩:∃ k,i=k+1:=⟨i - 1,by omega⟩
    have hz:(((k+1:Nat):Int) - 1)=(k:Int):=by omega
    have ht:l.take (k+1)=l.take k++[B0 l k]:=B30 (by omega)
    rw [hz]
    repeat' ((first|exact pru|(refine brS (fun h=>?_) (fun h=>?_)<;>(try rw [h])<;>(try simp only [bS,↓reduceIte] at h))|refine gS ?_|refine aA ?_|refine nA ?_|fail)<;>(conv=>whnf))
    all_goals (try simp only [Int.toNat_natCast] at *)
    ·rw [h2,ht,A79,if_pos (UInt8.toNat.inj (by omega)),List.length_take]
     exact congrArg (AV.int .i64) (by omega)
    ·refine ⟨k,?_,B8,⟨by omega,by first|rfl|trivial,?_⟩,by omega⟩
     ·exact G6 (by show AV.int .i64 (IntKind.i64.wrap ((k:Int) - 1))=_;rw [D5 (b:=(k:Int) - 1) rfl (by omega) (by omega)]) rfl
     ·rw [h2,ht,A79,if_neg]
      rintro hh
      rename_i h
      exact h (by rw [hh])
 refine aps Tryz.func195 ?_
 intro s
 refine wr ?_;(first|(refine A2.pure' ?_ (inner _);rintro _ rfl)|refine A7.pure ?_ (inner _));refine wr ?_
 rfl
def G8:Int × Int→List UInt8→Int × Int
 | p,[]=>p
 | p,c::r=>G8 (if c=10 then (p.1+1,1) else (p.1,p.2+1)) r
theorem A17:∀ (l:List UInt8) (a b:Int),G8 (a,b) l=if l.count 10=0 then (a,b+l.length) else (a+l.count 10,l.length - V4 l 10)
 | [],a,b=>by simp [G8]
 | c::r,a,b=>by
  have hn:=B03 r 10
  have hg:=A3w r 10
  rw [G8,V4,List.count_cons]
  by_cases hc:c=10
  ·subst hc
   simp only [if_true,BEq.rfl]
   rw [A17 r,if_neg (by omega:¬ r.count 10+1=0)]
   by_cases h0:r.count 10=0
   ·rw [if_pos h0,if_neg (by simp [hn.2 h0])]
    simp only [h0,List.length_cons]
    refine Prod.ext ?_ ?_<;>simp<;>omega
   ·rw [if_neg h0,if_pos (fun h=>h0 (hn.1 h))]
    simp only [List.length_cons]
    refine Prod.ext ?_ ?_<;>simp<;>omega
  ·have hcb:(c == 10)=false:=by simpa using hc
   simp only [if_neg hc,hcb]
   rw [A17 r]
   by_cases h0:r.count 10=0
   ·rw [if_pos h0,if_pos (by simp [h0])]
    simp only [List.length_cons]
    refine Prod.ext ?_ ?_<;>simp<;>omega
   ·rw [if_neg h0,if_neg (by simp [h0]),if_pos (fun h=>h0 (hn.1 h))]
    simp only [List.length_cons]
    refine Prod.ext ?_ ?_<;>simp<;>omega
theorem B5k (l:List UInt8) (a b:Int) (ha:0≤a) (hb:0≤b):(0≤(G8 (a,b) l).1∧(G8 (a,b) l).1≤a+l.length)∧0≤(G8 (a,b) l).2∧(G8 (a,b) l).2≤b+l.length+1:=by
 have:=List.count_le_length (a:=(10:UInt8)) (l:=l)
 have hg:=A3w l 10
 rw [A17]
 split
 ·simp only;omega
 ·simp only;omega
theorem C0r (a b:Int) (l:List UInt8) (hl:l.length≤1048576) (ha:0≤a∧a≤100000000) (hb:0≤b∧b≤100000000) :
  A8 Tryz.prog Γ 150 [.int .i64 a,.int .i64 b,.str l] fun v=>v=.tuple [.int .i64 (G8 (a,b) l).1,.int .i64 (G8 (a,b) l).2]:=by
 have h1:=A6f (Γ:=Γ) l
 have h2:=B62 (Γ:=Γ) l 10 hl
 have h3:=List.count_le_length (a:=(10:UInt8)) (l:=l)
 have hg:=A3w l 10
 rw [A17]
 refine aps Tryz.func150 ?_
 intro s
 conv=>whnf
 repeat' ((first|exact pru|(refine brS (fun h=>?_) (fun h=>?_)<;>(try rw [h])<;>(try simp only [bS,↓reduceIte] at h))|(refine A2.pure' ?_ (h1);rintro _ rfl)|refine A7.pure ?_ (h1)|(refine A2.pure' ?_ (h2);rintro _ rfl)|refine A7.pure ?_ (h2)|refine gS ?_|refine aA ?_|refine nA ?_|fail)<;>(conv=>whnf))
 ·rw [if_pos (by omega),D5 (b:=b+l.length) rfl (by omega) (by omega)]
  rfl
 ·rw [if_neg (by omega),D5 (b:=a+l.count 10) rfl (by omega) (by omega),D5 (b:=l.length - V4 l 10) rfl (by omega) (by omega)]
  rfl
end Go.Proofs.YtaammejliikieaaGreatDoor.Lx
namespace Go.Proofs.YtaammejliikieaaGreatDoor.Sp
open Go Go.Ab Go.RowKit
variable {Γ:Nat→AV}
theorem A6f (l:List UInt8) (c:UInt8):A8 Tryz.prog Γ 194 [.str l,.str [c]] fun v=>v=.int .i64 (l.count c):=by
 refine fun s=>⟨fun G w vs hm hr=>?_⟩
 obtain ⟨u,us,rfl,hu,hus⟩:=A9.1 hr
 obtain ⟨u1,us1,rfl,hu1,hus1⟩:=A9.1 hus
 rw [B4] at hus1;subst hus1
 rw [M3] at hu;subst hu
 rw [M3] at hu1;subst hu1
 refine Calls.mono (Tryz.strings_Count_one ⟨l.toArray⟩ c w) ?_
 rintro e w' ⟨rfl,rfl⟩
 exact ⟨_,_,s,G,rfl,⟨rfl,rfl⟩,F5.2 (by simp [Lib.countByte]),hm,Ext.refl _ _⟩
theorem X9 (l:List UInt8) (c:UInt8):A8 Tryz.prog Γ 221 [.str l,.str [c]] fun v=>v=.int .i64 (Lib.indexByte l c):=by
 refine fun s=>⟨fun G w vs hm hr=>?_⟩
 obtain ⟨u,us,rfl,hu,hus⟩:=A9.1 hr
 obtain ⟨u1,us1,rfl,hu1,hus1⟩:=A9.1 hus
 rw [B4] at hus1;subst hus1
 rw [M3] at hu;subst hu
 rw [M3] at hu1;subst hu1
 refine Calls.mono (Tryz.strings_Index_one ⟨l.toArray⟩ c w) ?_
 rintro e w' ⟨rfl,rfl⟩
 exact ⟨_,_,s,G,rfl,⟨rfl,rfl⟩,F5.2 (by simp),hm,Ext.refl _ _⟩
attribute [local irreducible] A8 Sto.set Sto.grow
def P6:List UInt8→UInt8→List (List UInt8)
 | [],_=>[[]]
 | b::r,c=>if b=c then []::P6 r c else match P6 r c with
  | []=>[[b]]
  | x::xs=>(b::x)::xs
theorem C51:∀ (l:List UInt8) (c:UInt8),P6 l c≠[]
 | [],_=>by simp [P6]
 | b::r,c=>by
  unfold P6
  split
  ·simp
  ·split<;>simp
theorem A4s:∀ (l:List UInt8) (c:UInt8),(P6 l c).length=l.count c+1
 | [],_=>rfl
 | b::r,c=>by
  have ih:=A4s r c
  have hne:=C51 r c
  unfold P6
  rw [List.count_cons]
  by_cases hb:b=c
  ·simp [hb,ih]
  ·have hbb:(b == c)=false:=by simpa using hb
   rw [if_neg hb,hbb]
   rcases hs:P6 r c with _|⟨x,xs⟩
   ·exact absurd hs hne
   ·rw [hs] at ih
    simpa using ih
theorem B1r:∀ {l:List UInt8} {c:UInt8},Lib.indexByte l c = -1→P6 l c=[l]
 | [],_,_=>rfl
 | b::r,c,h=>by
  have hge:=Lib.indexByte_ge r c
  unfold Lib.indexByte at h
  by_cases hb:b=c
  ·simp [hb] at h
  ·have hbb:(b == c)=false:=by simpa using hb
   rw [hbb] at h
   simp only [Bool.false_eq_true,if_false] at h
   have hr:Lib.indexByte r c = -1:=by
    split at h
    ·rename_i h1;simpa using h1
    ·omega
   unfold P6
   rw [if_neg hb,B1r hr]
theorem B1s:∀ {l:List UInt8} {c:UInt8} {n:Nat},Lib.indexByte l c=n→P6 l c=l.take n::P6 (l.drop (n+1)) c
 | [],_,n,h=>by unfold Lib.indexByte at h;omega
 | b::r,c,n,h=>by
  have hge:=Lib.indexByte_ge r c
  unfold Lib.indexByte at h
  by_cases hb:b=c
  ·simp [hb] at h
   have:n=0:=by omega
   subst this
   simp [P6,hb]
  ·have hbb:(b == c)=false:=by simpa using hb
   rw [hbb] at h
   simp only [Bool.false_eq_true,if_false] at h
   split at h
   ·exact absurd h (by omega)
   ·rename_i h1
    have h1:Lib.indexByte r c≠-1:=by simpa using h1
    obtain ⟨m,rfl⟩:∃ m,n=m+1:=⟨n - 1,by omega⟩
    have e:Lib.indexByte r c=(m:Int):=by omega
    have hs:=B1s e
    rw [P6,if_neg hb,hs]
    simp
theorem C9w {l:List UInt8} {c:UInt8} {n:Nat} (h:Lib.indexByte l c=n):n < l.length:=by
 have h2:=(Lib.indexByte_some (l:=l) (c:=c) (o:=n) h).1
 exact (List.getElem?_eq_some_iff.1 h2).1
theorem B29 (d:List (List UInt8)) (x:List UInt8) (k:Nat) :
  (d.map AV.str++List.replicate (k+1) (AV.str [])).take d.length++[AV.str x]++(d.map AV.str++List.replicate (k+1) (AV.str [])).drop (d.length+1)=(d++[x]).map AV.str++List.replicate k (AV.str []):=by
 have h1:(d.map AV.str++List.replicate (k+1) (AV.str [])).take d.length=d.map AV.str:=by
  rw [List.take_append_of_le_length (by simp)]
  rw [List.take_of_length_le (by simp)]
 have h2:(d.map AV.str++List.replicate (k+1) (AV.str [])).drop (d.length+1)=List.replicate k (AV.str []):=by
  rw [show d.length+1=(d.map AV.str).length+1 by simp,List.drop_append]
  simp
 rw [h1,h2]
 simp
theorem A8t:∀ d:List (List UInt8),N9 1 d.length (d.map AV.str)=J5 d
 | []=>rfl
 | x::d=>by
  have:=A8t d
  simp only [List.length_cons,List.map_cons,N9,J5] at *
  simpa using this
theorem W5 {cs cs':List AV} {K:List AV→Prop} (h:cs=cs') (hk:K cs'):A2v cs K:=by rw [C8,h];exact hk
theorem C4d (l:List (List UInt8)):fgE (J5 l)=J5 l:=Z7 (A:=fun s=>[AV.str s]) (fun _=>rfl) l
theorem C2t (n:Nat):(List.replicate n [AV.str []]).flatten=List.replicate n (AV.str []):=by
 induction n with
 | zero=>rfl
 | succ n ih=>rw [List.replicate_succ,List.flatten_cons,ih];rfl
theorem A82 (l:List UInt8) (c:UInt8) (hl:l.length≤1048576):A8 Tryz.prog Γ 242 [.str l,.str [c],.int .i64 0,.int .i64 (-1)] fun v=>v=.slice 0 (J5 (P6 l c)):=by
 refine A8.frz fun s=>?_
 have hcnt:=List.count_le_length (a:=c) (l:=l)
 have hlen:=A4s l c
 have hw:IntKind.i64.wrap ((l.count c:Int)+1)=((l.count c+1:Nat):Int):=D5 (by omega) (by omega) (by omega)
 have hw2:IntKind.i64.wrap ((l.length:Int)+1)=((l.length+1:Nat):Int):=D5 (by omega) (by omega) (by omega)
 have hw3:IntKind.i64.wrap (((l.count c+1:Nat):Int) - 1)=(l.count c:Int):=D5 (by omega) (by omega) (by omega)
 refine acs Tryz.func242 ?_
 refine wp ?_;(first|(refine A2.pure' ?_ (A6f l c);rintro _ rfl)|refine A7.pure ?_ (A6f l c));refine wp ?_;(rw [hw]);refine wp ?_;(rw [hw2]);refine wp ?_
 have hN:(if ((l.length+1:Nat):Int) < ((l.count c+1:Nat):Int) then ((l.length+1:Nat):Int) else ((l.count c+1:Nat):Int))=((l.count c+1:Nat):Int):=if_neg (by omega)
 rw [hN]
 refine ⟨?_,rfl,?_⟩
 ·show ((16:Nat):Int) * _≤_
  omega
 intro b hb
 refine wp ?_
 refine AWp.loopA [0,10] [34,35,36,37,38,39,11,40,41,42,43,44,45,46,47,48,49,50,51,52,53,54,55,56,57] (fun x:List (List UInt8) × List UInt8=>[.str x.2,.int .i64 x.1.length]) (fun x s'=>(P6 l c=x.1++P6 x.2 c∧x.2.length≤l.length)∧s'.bx b=some (9,x.1.map AV.str++List.replicate (l.count c+1 - x.1.length) (AV.str []))∧Sub s s') (fun x=>l.count c - x.1.length) (([],l)) (by kernel_rfl) (by (repeat' (first|refine G6 ?_ ?_|refine G2 ?_ ?_ ?_|rfl|omega))) ?_ ?_
 ·refine ⟨⟨rfl,Nat.le_refl _⟩,?_,(Sub.refl _).set hb _ _⟩
  refine A3.trans ?_
  rw [Int.toNat_natCast]
  exact congrArg (fun z=>some (9,z)) (C2t _)
 ·rintro x ⟨d,q⟩ s1 ⟨⟨i1,i2⟩,i3,i4⟩
  simp only at i1 i2 i3 i4
  show awp _ _ _ _ _ (updL _ _ [.str q,.int .i64 (d.length:Int)]) _
  conv=>whnf
  have hlen2:=A4s q c
  have hd:d.length+(P6 q c).length=l.count c+1:=by rw [← hlen,i1,List.length_append]
  have hix:=X9 (Γ:=Γ) q c
  by_cases hn:Lib.indexByte q c = -1
  ·have hq:=B1r hn
   rw [hq] at i1 hd
   rw [hn] at hix
   simp only [List.length_cons,List.length_nil] at hd
   refine wp ?_;(rw [hw3]);refine wp ?_
   have hk:l.count c+1 - d.length=0+1:=by omega
   rw [hk]
   refine ⟨by show 0+((d.length:Nat):Int).toNat * 1+1≤_;simp<;>omega,W5 (cs':=(d++[q]).map AV.str++List.replicate 0 (AV.str [])) ?_ ?_⟩
   ·rw [show 0+((d.length:Nat):Int).toNat * (fun x=>x.size) Tryz.prog.types[9]=d.length by show 0+((d.length:Nat):Int).toNat * 1=_;omega]
    exact B29 d q 0
   have hwd:IntKind.i64.wrap ((d.length:Int)+1)=((d.length+1:Nat):Int):=D5 (by omega) (by omega) (by omega)
   refine wp ?_
   refine ⟨_,Sub.refl _,fz1 b 1 ((d++[q]).map AV.str++List.replicate 0 (AV.str [])),A76 hb A3,?_,i4.set hb _ _⟩
   rw [hwd,i1]
   show fg (fz _ (AV.raw (some ⟨b,if ((l.count c+1:Nat):Int).toNat=0 then 0 else 0+0 * 1,none⟩) (((d.length+1:Nat):Int).toNat - 0) (((l.count c+1:Nat):Int).toNat - 0)))=_
   rw [show (if ((l.count c+1:Nat):Int).toNat=0 then 0 else 0+0 * 1)=0 by split<;>rfl,Int.toNat_natCast,Int.toNat_natCast,Nat.sub_zero,Nat.sub_zero]
   have hm:fzW (fz1 b 1 ((d++[q]).map AV.str++List.replicate 0 (AV.str []))) (some ⟨b,0,none⟩) (d.length+1) (l.count c+1)=.slice 0 (J5 (d++[q])):=by
    unfold fzW
    simp only [A75]
    rw [if_pos ⟨by omega,by simp⟩,List.replicate_zero,List.append_nil,List.drop_zero]
    have:=A8t (d++[q])
    rw [List.length_append] at this
    exact congrArg (AV.slice 0) this
   unfold fz
   rw [hm]
   unfold fg
   rw [C4d]
  ·obtain ⟨n,hn1⟩:∃ n:Nat,Lib.indexByte q c=n:=⟨(Lib.indexByte q c).toNat,by have:=Lib.indexByte_ge q c;omega⟩
   have hnl:=C9w hn1
   have hq:=B1s hn1
   rw [hq] at i1 hd
   rw [hn1] at hix
   have hs2:=A4s (q.drop (n+1)) c
   simp only [List.length_cons] at hd
   have hwn:IntKind.i64.wrap ((n:Int)+0)=(n:Int):=D5 (by omega) (by omega) (by omega)
   have hwn1:IntKind.i64.wrap ((n:Int)+([c].length:Nat))=((n+1:Nat):Int):=D5 rfl (by simp<;>omega) (by simp<;>omega)
   repeat' (first
    | (exfalso;first|omega|exact (by assumption:¬ True) trivial|fail)
    | (refine ⟨Sub.refl _,?_⟩)
    | (refine L3 (fun h=>?_) (fun h=>?_)<;>(try rw [h])<;>(try simp only [Bool.false_eq_true,Bool.true_eq_false,↓reduceIte,decide_eq_true_eq,decide_eq_false_iff_not,Bool.not_eq_true',Bool.not_eq_false'] at h)<;>(conv=>whnf))
    | (rw [hw3];conv=>whnf)
    | (refine A2.pure' ?_ (hix);rintro _ rfl;conv=>whnf)
    | (refine A7.pure ?_ (hix);conv=>whnf)
    | (refine B5 (by ((repeat (first|exact A3|assumption|refine (A4 (by assumption)).trans ?_|refine Q5.trans ?_));done)) ?_;conv=>whnf)
    | (rw [hwn];conv=>whnf)
    | (rw [hwn1];conv=>whnf)
    | (refine L4 ?_;conv=>whnf)
    | (refine AWp.any (by kernel_rfl) (by kernel_rfl) (by kernel_rfl) ?_;conv=>whnf)
    | (apply And.intro;(focus (first|omega|rfl|decide|exact Nat.le_of_ble_eq_true rfl|((repeat' (first|exact C3|refine all_cons ?_ ?_|rfl|fail));done)|(simp [-List.length_flatMap];done)|(simp [-List.length_flatMap];omega)|fail));conv=>whnf)
    | fail)
   obtain ⟨k,hk⟩:∃ k,l.count c+1 - d.length=k+1:=⟨l.count c - d.length,by omega⟩
   rw [hk]
   refine ⟨by show 0+((d.length:Nat):Int).toNat * 1+1≤_;simp<;>omega,W5 (cs':=(d++[q.take n]).map AV.str++List.replicate k (AV.str [])) ?_ ?_⟩
   ·rw [show 0+((d.length:Nat):Int).toNat * (fun x=>x.size) Tryz.prog.types[9]=d.length by show 0+((d.length:Nat):Int).toNat * 1=_;omega]
    exact B29 d (q.take n) k
   refine wp ?_;(rw [hwn1]);refine wp ?_
   refine ⟨(d++[q.take n],q.drop (n+1)),?_,by (repeat (first|exact L0.refl _ _|refine L0.upd rfl ?_|refine L0.updL rfl ?_|refine L0.havoc rfl ?_)),⟨⟨by rw [i1];simp,by simp only [List.length_drop];omega⟩,A3.trans ?_,i4.set hb _ _⟩,by simp;omega⟩
   ·refine G6 ?_ (G6 ?_ rfl)
    ·show AV.str (List.drop (((n+1:Nat):Int)).toNat (List.take q.length q))=_
     rw [Int.toNat_natCast,Z6]
    ·show AV.int .i64 (IntKind.i64.wrap ((d.length:Int)+1))=.int .i64 (((d++[q.take n]).length:Nat):Int)
     rw [D5 (b:=(d.length:Int)+1) rfl (by omega) (by omega)]
     simp
   ·rw [show l.count c+1 - (d++[q.take n]).length=k by simp;omega]
theorem C52 (l:List UInt8) (c:UInt8) (hl:l.length≤1048576):A8 Tryz.prog Γ 225 [.str l,.str [c]] fun v=>v=.slice 0 (J5 (P6 l c)):=by
 refine aps Tryz.func225 ?_
 intro s
 refine wr ?_;(first|(refine A2.pure' ?_ (A82 l c hl);rintro _ rfl)|refine A7.pure ?_ (A82 l c hl));refine wr ?_
 rfl
end Go.Proofs.YtaammejliikieaaGreatDoor.Sp
namespace Go.Proofs.YtaammejliikieaaGreatDoor.Lx
open Go Go.Ab Go.RowKit Go.Proofs.YtaammejliikieaaGreatDoor.Sc
variable {Γ:Nat→AV}
attribute [local irreducible] A8 Sto.set Sto.grow
def pfx (x l:List UInt8):Bool:=decide (x.length≤l.length) && decide (l.take x.length=x)
theorem A6s (l p:List UInt8) (hp:p.length≤1048576):A8 Tryz.prog Γ 226 [.str l,.str p] fun v=>v=.bool (pfx p l):=by
 have inner:∀ Γ:Nat→AV,A8 Tryz.prog Γ 243 [.str l,.str p] fun v=>v=.bool (pfx p l):=by
  intro Γ
  refine aps Tryz.func243 ?_
  intro s
  conv=>whnf
  repeat' ((first|exact pru|(refine brS (fun h=>?_) (fun h=>?_)<;>(try rw [h])<;>(try simp only [bS,↓reduceIte] at h))|refine gS ?_|refine aA ?_|refine nA ?_|fail)<;>(conv=>whnf))
  ·refine C4 ?_
   rw [pfx,decide_eq_true (p:=p.length≤l.length) (by omega),Bool.true_and]
   rfl
  ·refine C4 ?_
   rw [pfx,decide_eq_false (p:=p.length≤l.length) (by omega),Bool.false_and]
 refine aps Tryz.func226 ?_
 intro s
 refine wr ?_;(first|(refine A2.pure' ?_ (inner _);rintro _ rfl)|refine A7.pure ?_ (inner _));refine wr ?_
 rfl
def signsL:List (List UInt8):=[[61,61],[33,61],[60,61],[62,61],[60],[62],[61],[40],[41],[44],[58],[43],[45],[42],[47],[37]]
def A3c:List (List UInt8)→List UInt8→List UInt8
 | [],_=>[]
 | x::r,l=>if pfx x l=true then x else A3c r l
def Y2 (l:List UInt8):List UInt8:=A3c signsL l
theorem B7v:Sp.P6 [61,61,32,33,61,32,60,61,32,62,61,32,60,32,62,32,61,32,40,32,41,32,44,32,58,32,43,32,45,32,42,32,47,32,37] 32=signsL:=by decide
theorem B7t:∀ x ∈ signsL,x.length≤1048576:=by decide
theorem C5v {L:List (List UInt8)} {l:List UInt8} {i:Nat} (h:i < L.length):A3c (L.drop i) l=if pfx (L.getD i []) l=true then L.getD i [] else A3c (L.drop (i+1)) l:=by
 rw [show L.drop i=L.getD i []::L.drop (i+1) by simp [List.getD,h],A3c]
theorem D4 {L:List (List UInt8)} {i:Nat} (h:i < L.length):L.getD i [] ∈ L:=by simp [List.getD,h]
theorem B7j (l:List UInt8):A8 Tryz.prog Γ 199 [.str l] fun v=>v=.str (Y2 l):=by
 have hsp:=Sp.C52 (Γ:=Γ) [61,61,32,33,61,32,60,61,32,62,61,32,60,32,62,32,61,32,40,32,41,32,44,32,58,32,43,32,45,32,42,32,47,32,37] 32 (by simp)
 rw [B7v] at hsp
 have hsm:=B7t
 unfold Y2
 generalize hL:signsL=L at *
 have hlen:L.length=16:=by rw [← hL];rfl
 have hll:=B3x L
 refine aps Tryz.func199 ?_
 intro s
 refine wr ?_
 refine AWp.loopA [7] [8,9,10,4,11,12,13,14,2,15] (fun i:Nat=>[.int .i64 i]) (fun i s'=>i≤L.length∧s'=s∧A3c L l=A3c (L.drop i) l) (fun i=>L.length - i) (0) (by kernel_rfl) (eqa) ?_ ?_
 ·exact ⟨by omega,rfl,by rw [List.drop_zero]⟩
 ·rintro x i s1 ⟨h1,rfl,h2⟩
  show awp _ _ _ _ _ (updL _ _ [.int .i64 (i:Int)]) _
  conv=>whnf
  by_cases hlt:i < L.length
  ·have hg:=B3w hlt
   have hat:=C5v (l:=l) hlt
   have hm:=hsm _ (D4 hlt)
   generalize L.getD i []=g at *
   repeat' ((first|exact pru|(refine brS (fun h=>?_) (fun h=>?_)<;>(try rw [h])<;>(try simp only [bS,↓reduceIte] at h))|(rw [show (J5 L).getD ((i:Int)).toNat []=_ from hg])|(refine A2.pure' ?_ (A6s l g hm);rintro _ rfl)|refine A7.pure ?_ (A6s l g hm)|refine gS ?_|refine aA ?_|refine nA ?_|fail)<;>(conv=>whnf))
   ·rw [h2,hat,if_pos h]
    rfl
   ·refine ⟨i+1,eqa,B8,⟨by omega,by first|rfl|trivial,?_⟩,by omega⟩
    rw [h2,hat,if_neg (by simp_all)]
  ·refine wp ?_
   rw [h2,List.drop_of_length_le (by omega)]
   rfl
def A9m:List UInt8:=[48,49,50,51,52,53,54,55,56,57]
def A19 (k:Nat):List AV:=(List.range 256).map fun c=>.bool (decide (48≤c) && decide (c < 48+k))
theorem C6f:∀ k:Nat,k < 10→(A19 k).take (48+k)++[.bool true]++(A19 k).drop (48+k+1)=A19 (k+1)
 | 0,_=>by kernel_rfl
 | 1,_=>by kernel_rfl
 | 2,_=>by kernel_rfl
 | 3,_=>by kernel_rfl
 | 4,_=>by kernel_rfl
 | 5,_=>by kernel_rfl
 | 6,_=>by kernel_rfl
 | 7,_=>by kernel_rfl
 | 8,_=>by kernel_rfl
 | 9,_=>by kernel_rfl
 | k+10,h=>by omega
theorem C37:∀ k:Nat,k < 10→((B0 A9m k).toNat:Int)=((48+k:Nat):Int)
 | 0,_=>by kernel_rfl
 | 1,_=>by kernel_rfl
 | 2,_=>by kernel_rfl
 | 3,_=>by kernel_rfl
 | 4,_=>by kernel_rfl
 | 5,_=>by kernel_rfl
 | 6,_=>by kernel_rfl
 | 7,_=>by kernel_rfl
 | 8,_=>by kernel_rfl
 | 9,_=>by kernel_rfl
 | k+10,h=>by omega
theorem A0p (k:Nat):(A19 k).length=256:=by unfold A19;simp
theorem W5 {cs cs':List AV} {K:List AV→Prop} (h:cs=cs') (hk:K cs'):A2v cs K:=by rw [C8,h];exact hk
theorem B06:A8 Tryz.prog Γ 256 [.str A9m] fun v=>v=.tuple [.agg (A19 10),.bool true]:=by
 generalize hD:A9m=D
 have hlen:D.length=10:=by rw [← hD];rfl
 have hda:=fun k h=>C37 k h
 rw [hD] at hda
 refine aps Tryz.func256 ?_
 intro s
 refine wr ?_
 intro b hb
 refine wr ?_
 refine AWp.loopA [4] [6,7,8,9,12,13,14,5,15,16,17,3,18,19,10,11] (fun i:Nat=>[.int .i64 i]) (fun i s'=>i≤10∧s'.bx b=some (367,A19 i)∧Sub s s') (fun i=>10 - i) (0) (by kernel_rfl) (eqa) ?_ ?_
 ·exact ⟨by omega,A3,(Sub.refl _).set hb _ _⟩
 ·rintro x i s1 ⟨h1,h2,h3⟩
  show awp _ _ _ _ _ (updL _ _ [.int .i64 (i:Int)]) _
  conv=>whnf
  by_cases hlt:i < 10
  ·have hd:=hda i hlt
   have hz:B0 D ((i:Int)).toNat=B0 D i:=rfl
   repeat' ((first|exact pru|(refine brS (fun h=>?_) (fun h=>?_)<;>(try rw [h])<;>(try simp only [bS,↓reduceIte] at h))|refine A5 ?_|(rw [hz])|(rw [hd])|refine gS ?_|refine aA ?_|refine nA ?_|fail)<;>(conv=>whnf))
   refine ⟨?_,W5 (cs':=A19 (i+1)) ?_ ?_⟩
   ·rw [A0p]
    show 0+((48+i:Nat):Int).toNat * 1+1≤256
    omega
   ·rw [show 0+((48+i:Nat):Int).toNat * (fun x=>x.size) Tryz.prog.types[4]=48+i by show 0+((48+i:Nat):Int).toNat * 1=_;omega]
    exact C6f i hlt
   refine wp ?_
   exact ⟨i+1,eqa,B8,⟨by omega,A3,h3.set hb _ _⟩,by omega⟩
  ·obtain rfl:i=10:=by omega
   refine wp ?_
   exact ⟨h3.set hb _ _,by kernel_rfl⟩
end Go.Proofs.YtaammejliikieaaGreatDoor.Lx
namespace Go.Proofs.YtaammejliikieaaGreatDoor.Lx
open Go Go.Ab Go.RowKit Go.Proofs.YtaammejliikieaaGreatDoor.Sc
variable {Γ:Nat→AV}
attribute [local irreducible] A8 Sto.set Sto.grow A19
theorem C6e (c:UInt8):(A19 10).drop c.toNat=.bool (A5h c.toNat)::(A19 10).drop (c.toNat+1):=by
 have hc:c.toNat < 256:=c.toNat_lt
 have hlen:=A0p 10
 rw [List.drop_eq_getElem_cons (by omega)]
 congr 1
 unfold A19 A5h
 simp only [List.getElem_map,List.getElem_range]
 refine congrArg AV.bool ?_
 rw [Bool.eq_iff_iff]
 simp
 omega
theorem Q0 {s:Sto} {b:Nat} (hb:s.bx b=some (367,A19 10)) (c:UInt8) :
  A2 Tryz.prog Γ 268 [.ptr (some ⟨b,0,none⟩),.int .u8 c.toNat] s fun v s'=>v=.bool (A5h c.toNat)∧s'=s:=by
 have hd:(A19 10).drop (0+((c.toNat:Int)).toNat * (fun x=>x.size) Tryz.prog.types[4])=.bool (A5h c.toNat)::(A19 10).drop (c.toNat+1):=by
  rw [show 0+((c.toNat:Int)).toNat * (fun x=>x.size) Tryz.prog.types[4]=c.toNat by show 0+((c.toNat:Nat):Int).toNat * 1=_;omega]
  exact C6e c
 have hc:c.toNat < 256:=c.toNat_lt
 refine acs Tryz.func268 ?_
 refine wp ?_;(rw [hd]);refine wp ?_
 exact ⟨_,Sub.refl _,rfl,rfl⟩
def digB (c:UInt8):Bool:=A5h c.toNat
def A38 (l:List UInt8):List UInt8:=l.dropWhile digB
def Y4 (l:List UInt8):List UInt8:=(l.reverse.dropWhile digB).reverse
theorem B1z (l:List UInt8) (c:UInt8):Y4 (l++[c])=if digB c=true then Y4 l else l++[c]:=by
 unfold Y4
 rw [List.reverse_append,List.reverse_singleton,List.singleton_append,List.dropWhile_cons]
 split<;>simp
theorem B9u (l:List UInt8):(Y4 l).length≤l.length:=by
 unfold Y4
 rw [List.length_reverse]
 have:=(List.dropWhile_sublist (p:=digB) (l:=l.reverse)).length_le
 rw [List.length_reverse] at this
 exact this
theorem B72 {s:Sto} {b:Nat} (hb:s.bx b=some (367,A19 10)) (l:List UInt8) (hl:l.length≤1048576) :
  A2 Tryz.prog Γ 257 [.str l,.ptr (some ⟨b,0,none⟩)] s fun v s'=>v=.str (A38 l)∧s'=s:=by
 refine acs Tryz.func257 ?_
 refine wr ?_
 refine AWp.loopA [0] [5,6,7,8,9,10,11,12,13,14] (fun q:List UInt8=>[.str q]) (fun q s'=>q.length≤l.length∧s'=s∧A38 l=A38 q) (fun q=>q.length) (l) (by kernel_rfl) (eqa) ?_ ?_
 ·exact ⟨Nat.le_refl _,rfl,rfl⟩
 ·rintro x q s1 ⟨h1,rfl,h2⟩
  show awp _ _ _ _ _ (updL _ _ [.str q]) _
  conv=>whnf
  cases q with
  | nil =>
   refine wp ?_
   exact ⟨_,Sub.refl _,by rw [h2];rfl,rfl⟩
  | cons c q =>
   have hz:B0 (c::q) (0:Int).toNat=c:=rfl
   have hp:0 < (c::q).length:=by simp
   repeat' ((first|exact pru|(refine brS (fun h=>?_) (fun h=>?_)<;>(try rw [h])<;>(try simp only [bS,↓reduceIte] at h))|(rw [hz])|(refine A2.by (Q0 hb c) ?_;rintro _ _ ⟨rfl,rfl⟩)|refine gS ?_|refine aA ?_|refine nA ?_|fail)<;>(conv=>whnf))
   ·exact ⟨_,Sub.refl _,by rw [h2,A38,List.dropWhile_cons,if_neg (by unfold digB;simp [h])];rfl,rfl⟩
   ·refine ⟨q,?_,B8,⟨by simp only [List.length_cons] at h1;omega,by first|rfl|trivial,?_⟩,by simp⟩
    ·exact G6 (by show AV.str (List.drop (1:Int).toNat (List.take (c::q).length (c::q)))=_;rw [List.take_length];rfl) rfl
    ·rw [h2,A38,List.dropWhile_cons,if_pos (by unfold digB;exact h)];rfl
theorem B5v {s:Sto} {b:Nat} (hb:s.bx b=some (367,A19 10)) (l:List UInt8) (hl:l.length≤1048576) :
  A2 Tryz.prog Γ 258 [.str l,.ptr (some ⟨b,0,none⟩)] s fun v s'=>v=.str (Y4 l)∧s'=s:=by
 refine acs Tryz.func258 ?_
 refine wr ?_
 refine AWp.loopA [0] [5,6,7,8,9,10,11,12,13,14,15,16,17,18,19,20] (fun k:Nat=>[.str (l.take k)]) (fun k s'=>k≤l.length∧s'=s∧Y4 l=Y4 (l.take k)) (fun k=>k) (l.length) (by kernel_rfl) (G6 (by rw [List.take_length];rfl) rfl) ?_ ?_
 ·exact ⟨Nat.le_refl _,rfl,by rw [List.take_length]⟩
 ·rintro x k s1 ⟨h1,rfl,h2⟩
  show awp _ _ _ _ _ (updL _ _ [.str (l.take k)]) _
  conv=>whnf
  have hlen:(l.take k).length=k:=by rw [List.length_take];omega
  cases k with
  | zero =>
   refine wp ?_
   exact ⟨_,Sub.refl _,by rw [h2];rfl,rfl⟩
  | succ k =>
   have ht:l.take (k+1)=l.take k++[B0 l k]:=B30 (by omega)
   have hw:IntKind.i64.wrap (((l.take (k+1)).length:Int) - 1)=(k:Int):=D5 (by omega) (by omega) (by omega)
   have hz:B0 (l.take (k+1)) ((k:Int)).toNat=B0 l k:=by
    rw [Int.toNat_natCast,ht]
    have:=B6f (l.take k++[B0 l k]) (l.take k).length 0
    rw [List.drop_left,Nat.add_zero,List.length_take,Nat.min_eq_left (by omega)] at this
    exact this.symm
   repeat' ((first|exact pru|(refine brS (fun h=>?_) (fun h=>?_)<;>(try rw [h])<;>(try simp only [bS,↓reduceIte] at h))|(rw [hw])|(rw [hz])|(refine A2.by (Q0 hb (B0 l k)) ?_;rintro _ _ ⟨rfl,rfl⟩)|refine gS ?_|refine aA ?_|refine nA ?_|fail)<;>(conv=>whnf))
   ·exact ⟨_,Sub.refl _,by rw [h2,ht,B1z,if_neg (by unfold digB;simp [h]),← ht];rfl,rfl⟩
   ·refine ⟨k,?_,B8,⟨by omega,by first|rfl|trivial,?_⟩,by omega⟩
    ·exact G6 (by show AV.str (List.drop 0 (List.take ((k:Int)).toNat (l.take (k+1))))=_;rw [Int.toNat_natCast,List.drop_zero,List.take_take,Nat.min_eq_left (by omega)]) rfl
    ·rw [h2,ht,B1z,if_pos (by unfold digB;exact h)]
theorem B4l {p:UInt8→Bool}:∀ l:List UInt8,l.dropWhile p=[]↔l.all p=true
 | []=>by simp
 | c::r=>by
  rw [List.dropWhile_cons,List.all_cons]
  by_cases h:p c=true
  ·rw [if_pos h,B4l r,h,Bool.true_and]
  ·rw [if_neg h]
   simp [h]
theorem B97 {p:UInt8→Bool} {x:UInt8} {r:List UInt8}:∀ l:List UInt8,l.dropWhile p=x::r→p x=false
 | []=>by simp
 | c::q=>by
  rw [List.dropWhile_cons]
  by_cases h:p c=true
  ·rw [if_pos h];exact B97 q
  ·rw [if_neg h]
   intro he
   injection he with he _
   rw [← he];simpa using h
theorem C6k (l:List UInt8):A38 (Y4 l)=[]↔l.all digB=true:=by
 have hr:∀ m:List UInt8,m.reverse.all digB=m.all digB:=fun m=>List.all_reverse
 constructor
 ·intro h
  have h1:=(B4l _).1 h
  rw [← hr,← B4l]
  unfold Y4 at h1
  rw [hr] at h1
  rcases hd:l.reverse.dropWhile digB with _|⟨x,r⟩
  ·rfl
  ·have h2:=B97 _ hd
   rw [hd,List.all_cons,h2] at h1
   cases h1
 ·intro h
  rw [← hr,← B4l] at h
  unfold Y4
  rw [h];rfl
theorem C6d:(A19 10).all A57=true:=by
 unfold A19
 rw [List.all_map,List.all_eq_true]
 exact fun _ _=>rfl
theorem C8n (l:List UInt8) (hl:l.length≤1048576):A8 Tryz.prog Γ 241 [.str l,.str A9m] fun v=>v=.str (A38 (Y4 l)):=by
 have hr:=B9u l
 refine aps Tryz.func241 ?_
 intro s
 conv=>whnf
 repeat' ((first|exact pru|(refine brS (fun h=>?_) (fun h=>?_)<;>(try rw [h])<;>(try simp only [bS,↓reduceIte] at h))|(refine A2.pure' ?_ (B06);rintro _ rfl)|refine A7.pure ?_ (B06)|refine gS ?_|refine aA ?_|refine nA ?_|fail)<;>(conv=>whnf))
 ·rw [h];rfl
 ·intro b hb
  conv=>whnf
  refine B5 A3 ?_
  conv=>whnf
  refine ⟨A0p 10,C6d,Nat.le_of_ble_eq_true (by kernel_rfl),W5 (cs':=A19 10) (List.append_nil _) ?_⟩
  refine wp ?_;(refine A2.by (B5v A3 l hl) ?_;rintro _ _ ⟨rfl,rfl⟩);refine wp ?_;(refine A2.by (B72 A3 (Y4 l) (by omega)) ?_;rintro _ _ ⟨rfl,rfl⟩);refine wp ?_
  exact ⟨((Sub.refl _).set hb _ _).set hb _ _,rfl⟩
def A65 (l:List UInt8):Int:=if l.all digB=false∨(B0 l 0=48∧1 < l.length) then 4 else if 32 < l.length then 3 else 0
def Z4 (k:Int) (t:List UInt8):AV:=.agg [.int .i64 k,.str t,.int .i64 0,.int .i64 0]
def A66 (e:Int):AV:=.iface 271 (.agg [.int .i64 e])
def C42 (l:List UInt8):AV:=if A65 l=0 then .tuple [Z4 3 l,.nilIface] else .tuple [Z4 0 [],A66 (A65 l)]
theorem b48 {b:UInt8}:(b.toNat:Int)=48↔b=48:=A58 (n:=48) (by decide)
theorem A64 {l:List UInt8} {e:Int} (h:A65 l=e) (he:e≠0):C42 l=.tuple [Z4 0 [],A66 e]:=by rw [C42,if_neg (by rw [h];exact he),h]
theorem A8a {l:List UInt8} (h:A65 l=0):C42 l=.tuple [Z4 3 l,.nilIface]:=by rw [C42,if_pos h]
theorem C2f (l:List UInt8) (h0:0 < l.length) (hl:l.length≤1048576):A8 Tryz.prog Γ 224 [.str l] fun v=>v=C42 l:=by
 have htr:=C8n (Γ:=Γ) l hl
 have hnil:=C6k l
 generalize A38 (Y4 l)=T at htr hnil
 have h48:=b48 (b:=B0 l 0)
 have hz:B0 l (0:Int).toNat=B0 l 0:=rfl
 have C1y:T=[]→¬ (B0 l 0=48∧1 < l.length)→¬ (l.all digB=false∨(B0 l 0=48∧1 < l.length)):=fun hT hn hh=>hh.elim (fun ha=>by rw [hnil.1 hT] at ha;cases ha) hn
 refine aps Tryz.func224 ?_
 intro s
 conv=>whnf
 intro b hb
 conv=>whnf
 repeat' ((first|exact pru|(refine brS (fun h=>?_) (fun h=>?_)<;>(try rw [h])<;>(try simp only [bS,↓reduceIte] at h))|refine A5 ?_|(refine A2.pure' ?_ (htr);rintro _ rfl)|refine A7.pure ?_ (htr)|(rw [hz])|refine gS ?_|refine aA ?_|refine nA ?_|fail)<;>(conv=>whnf))
 all_goals refine ⟨((Sub.refl _).set hb _ _).set hb _ _,?_⟩
 ·rw [A64 (e:=4) (if_pos (.inl (by simpa using mt hnil.2 h))) (by decide)]
  rfl
 ·rw [A64 (e:=4) (if_pos (.inr ⟨h48.1 (by assumption),by omega⟩)) (by decide)]
  rfl
 ·rw [A8a (by rw [A65,if_neg (C1y (by assumption) (by omega)),if_neg (by omega)])]
  rfl
 ·rw [A64 (e:=3) (by rw [A65,if_neg (C1y (by assumption) (fun hh=>by have:=h48.2 hh.1;omega)),if_pos (by omega)]) (by decide)]
  rfl
 ·rw [A8a (by rw [A65,if_neg (C1y (by assumption) (fun hh=>by have:=h48.2 hh.1;omega)),if_neg (by omega)])]
  rfl
def H0 (l:List UInt8):Except Int (Int × List UInt8) :=
 if digB (B0 l 0)=true then (if A65 l=0 then .ok (3,l) else .error (A65 l)) else if 32 < l.length then .error 3 else if B43 l=true then .ok (2,l) else .ok (1,l)
def C5n:Except Int (Int × List UInt8)→AV
 | .ok (k,t)=>.tuple [Z4 k t,.nilIface]
 | .error e=>.tuple [Z4 0 [],A66 e]
theorem B04 (hT:Wds Γ) (l:List UInt8) (h0:0 < l.length) (hl:l.length≤1048576):A8 Tryz.prog Γ 198 [.str l] fun v=>v=C5n (H0 l):=by
 have hw:=A20 hT l
 have hn:=C2f (Γ:=Γ) l h0 hl
 have hz:B0 l (0:Int).toNat=B0 l 0:=rfl
 have hd:digB (B0 l 0)=true↔(48:Int)≤(B0 l 0).toNat∧((B0 l 0).toNat:Int)≤57:=by unfold digB A5h;simp
 by_cases hE:A65 l=0
 ·rw [A8a hE] at hn
  unfold Z4 at hn
  refine aps Tryz.func198 ?_
  intro s
  conv=>whnf
  intro b hb
  conv=>whnf
  repeat' ((first|exact pru|(refine brS (fun h=>?_) (fun h=>?_)<;>(try rw [h])<;>(try simp only [bS,↓reduceIte] at h))|refine A5 ?_|(refine A2.pure' ?_ (hn);rintro _ rfl)|refine A7.pure ?_ (hn)|(refine A2.pure' ?_ (hw);rintro _ rfl)|refine A7.pure ?_ (hw)|(rw [hz])|refine gS ?_|refine aA ?_|refine nA ?_|fail)<;>(conv=>whnf))
  all_goals refine ⟨((Sub.refl _).set hb _ _).set hb _ _,?_⟩
  ·rw [H0,if_pos (hd.2 ⟨by omega,by omega⟩),if_pos hE]
   rfl
  ·rw [H0,if_neg (fun hh=>by have:=hd.1 hh;omega),if_pos (by omega)]
   rfl
  ·rw [H0,if_neg (fun hh=>by have:=hd.1 hh;omega),if_neg (by omega),if_pos (by assumption)]
   rfl
  ·rw [H0,if_neg (fun hh=>by have:=hd.1 hh;omega),if_neg (by omega),if_neg (by simp_all)]
   rfl
  ·rw [H0,if_neg (fun hh=>by have:=hd.1 hh;omega),if_pos (by omega)]
   rfl
  ·rw [H0,if_neg (fun hh=>by have:=hd.1 hh;omega),if_neg (by omega),if_pos (by assumption)]
   rfl
  ·rw [H0,if_neg (fun hh=>by have:=hd.1 hh;omega),if_neg (by omega),if_neg (by simp_all)]
   rfl
 ·rw [A64 rfl hE] at hn
  unfold Z4 A66 at hn
  refine aps Tryz.func198 ?_
  intro s
  conv=>whnf
  intro b hb
  conv=>whnf
  repeat' ((first|exact pru|(refine brS (fun h=>?_) (fun h=>?_)<;>(try rw [h])<;>(try simp only [bS,↓reduceIte] at h))|refine A5 ?_|(refine A2.pure' ?_ (hn);rintro _ rfl)|refine A7.pure ?_ (hn)|(refine A2.pure' ?_ (hw);rintro _ rfl)|refine A7.pure ?_ (hw)|(rw [hz])|refine gS ?_|refine aA ?_|refine nA ?_|fail)<;>(conv=>whnf))
  all_goals refine ⟨((Sub.refl _).set hb _ _).set hb _ _,?_⟩
  ·rw [H0,if_pos (hd.2 ⟨by omega,by omega⟩),if_neg hE]
   rfl
  ·rw [H0,if_neg (fun hh=>by have:=hd.1 hh;omega),if_pos (by omega)]
   rfl
  ·rw [H0,if_neg (fun hh=>by have:=hd.1 hh;omega),if_neg (by omega),if_pos (by assumption)]
   rfl
  ·rw [H0,if_neg (fun hh=>by have:=hd.1 hh;omega),if_neg (by omega),if_neg (by simp_all)]
   rfl
  ·rw [H0,if_neg (fun hh=>by have:=hd.1 hh;omega),if_pos (by omega)]
   rfl
  ·rw [H0,if_neg (fun hh=>by have:=hd.1 hh;omega),if_neg (by omega),if_pos (by assumption)]
   rfl
  ·rw [H0,if_neg (fun hh=>by have:=hd.1 hh;omega),if_neg (by omega),if_neg (by simp_all)]
   rfl
def A0d:List UInt8→Nat
 | []=>0
 | c::r=>if T9 c.toNat=true then A0d r+1 else 0
theorem B46:∀ l:List UInt8,A0d l≤l.length
 | []=>Nat.le_refl _
 | c::r=>by
  have:=B46 r
  unfold A0d
  split
  ·simp only [List.length_cons];omega
  ·omega
theorem C7t {l:List UInt8} {i:Nat} (h:i < l.length):A0d (l.drop i)=if T9 (B0 l i).toNat=true then A0d (l.drop (i+1))+1 else 0:=by rw [X3 h,A0d]
def P1 (l:List UInt8):Except Int (Int × List UInt8 × Nat) :=
 if B0 l 0=34 then (match Qu.cut l with
  | none=>.error 17
  | some (t,k)=>if 4096 < t.length then .error 3 else .ok (4,t,k))
 else if A0d l=0 then (if Y2 l=[] then .error 15 else .ok (5,Y2 l,(Y2 l).length))
 else match H0 (l.take (A0d l)) with
  | .error e=>.error e
  | .ok (k,t)=>.ok (k,t,A0d l)
def N6 (l:List UInt8):AV :=
 match P1 l with
 | .ok (k,t,n)=>.tuple [Z4 k t,.int .i64 n,.nilIface]
 | .error e=>.tuple [Z4 0 [],.int .i64 (if B0 l 0=34 then 0 else A0d l:Nat),A66 e]
theorem C2r (hQ:Qu.A7o Γ) (l:List UInt8) (hl:l.length≤1048576) (h34:B0 l 0=34):A8 Tryz.prog Γ 196 [.str l] fun v=>v=N6 l:=by
 rcases hc:Qu.cut l with _|⟨t,k⟩
 ·have hq:=Qu.B5n hQ l hl hc
  have hf:N6 l=.tuple [Z4 0 [],.int .i64 0,A66 17]:=by unfold N6 P1;rw [if_pos h34,hc];simp only [if_pos h34];rfl
  rw [hf]
  refine aps Tryz.func196 ?_
  intro s
  conv=>whnf
  intro b hb
  refine wp ?_
  exact ⟨((Sub.refl _).set hb _ _).set hb _ _,rfl⟩
 ·have hq:=Qu.B5o hQ l hl hc
  by_cases ht:4096 < t.length
  ·have hf:N6 l=.tuple [Z4 0 [],.int .i64 0,A66 3]:=by unfold N6 P1;rw [if_pos h34,hc];simp only [if_pos ht,if_pos h34];rfl
   rw [hf]
   refine aps Tryz.func196 ?_
   intro s
   conv=>whnf
   intro b hb
   refine wp ?_
   exact ⟨((Sub.refl _).set hb _ _).set hb _ _,rfl⟩
  ·have hf:N6 l=.tuple [Z4 4 t,.int .i64 k,.nilIface]:=by unfold N6 P1;rw [if_pos h34,hc];simp only [if_neg ht]
   rw [hf]
   refine aps Tryz.func196 ?_
   intro s
   conv=>whnf
   intro b hb
   refine wp ?_
   exact ⟨((Sub.refl _).set hb _ _).set hb _ _,rfl⟩
end Go.Proofs.YtaammejliikieaaGreatDoor.Lx
namespace Go.Proofs.YtaammejliikieaaGreatDoor.Lx
open Go Go.Ab Go.RowKit Go.Proofs.YtaammejliikieaaGreatDoor.Sc
variable {Γ:Nat→AV}
attribute [local irreducible] A8 Sto.set Sto.grow
theorem A6n {l:List UInt8} (h:B0 l 0≠34) (h0:A0d l=0) (hg:Y2 l=[]):N6 l=.tuple [Z4 0 [],.int .i64 0,A66 15]:=by
 unfold N6 P1
 rw [if_neg h,if_pos h0,if_pos hg]
 simp only [if_neg h,h0]
 rfl
theorem A8y {l:List UInt8} (h:B0 l 0≠34) (h0:A0d l=0) (hg:Y2 l≠[]):N6 l=.tuple [Z4 5 (Y2 l),.int .i64 (Y2 l).length,.nilIface]:=by
 unfold N6 P1
 rw [if_neg h,if_pos h0,if_neg hg]
theorem B0n {l:List UInt8} {e:Int} (h:B0 l 0≠34) (h0:A0d l≠0) (he:H0 (l.take (A0d l))=.error e):N6 l=.tuple [Z4 0 [],.int .i64 (A0d l),A66 e]:=by
 unfold N6 P1
 rw [if_neg h,if_neg h0,he]
 simp only [if_neg h]
theorem A8x {l:List UInt8} {k:Int} {t:List UInt8} (h:B0 l 0≠34) (h0:A0d l≠0) (he:H0 (l.take (A0d l))=.ok (k,t)):N6 l=.tuple [Z4 k t,.int .i64 (A0d l),.nilIface]:=by
 unfold N6 P1
 rw [if_neg h,if_neg h0,he]
theorem C1z (l:List UInt8):(∃ k t n,N6 l=.tuple [Z4 k t,.int .i64 n,.nilIface])∨∃ n e,N6 l=.tuple [Z4 0 [],.int .i64 n,A66 e]:=by
 unfold N6
 rcases P1 l with e|⟨k,t,n⟩
 ·exact .inr ⟨_,_,rfl⟩
 ·exact .inl ⟨_,_,_,rfl⟩
theorem C4i (hQ:Qu.A7o Γ) (hT:Wds Γ) (l:List UInt8) (h0:0 < l.length) (hl:l.length≤1048576):A8 Tryz.prog Γ 151 [.str l] fun v=>v=N6 l:=by
 have hz:B0 l (0:Int).toNat=B0 l 0:=rfl
 have h34:=b34 (b:=B0 l 0)
 by_cases hq:B0 l 0=34
 ·have hq':=h34.2 hq
  have hqq:=C2r hQ l hl hq
  rcases C1z l with ⟨k,t,n,he⟩|⟨n,e,he⟩
  ·rw [he] at hqq ⊢
   unfold Z4 at hqq
   refine aps Tryz.func151 ?_
   intro s
   conv=>whnf
   intro b hb
   conv=>whnf
   repeat' ((first|exact pru|(refine brS (fun h=>?_) (fun h=>?_)<;>(try rw [h])<;>(try simp only [bS,↓reduceIte] at h))|refine A5 ?_|(refine A2.pure' ?_ (hqq);rintro _ rfl)|refine A7.pure ?_ (hqq)|(rw [hz])|refine gS ?_|refine aA ?_|refine nA ?_|fail)<;>(conv=>whnf))
   ·exact ⟨((Sub.refl _).set hb _ _).set hb _ _,rfl⟩
  ·rw [he] at hqq ⊢
   unfold Z4 A66 at hqq
   refine aps Tryz.func151 ?_
   intro s
   conv=>whnf
   intro b hb
   conv=>whnf
   repeat' ((first|exact pru|(refine brS (fun h=>?_) (fun h=>?_)<;>(try rw [h])<;>(try simp only [bS,↓reduceIte] at h))|refine A5 ?_|(refine A2.pure' ?_ (hqq);rintro _ rfl)|refine A7.pure ?_ (hqq)|(rw [hz])|refine gS ?_|refine aA ?_|refine nA ?_|fail)<;>(conv=>whnf))
   ·exact ⟨((Sub.refl _).set hb _ _).set hb _ _,rfl⟩
 ·have hq':¬ ((B0 l 0).toNat:Int)=34:=fun h=>hq (h34.1 h)
  have hs:=B7j (Γ:=Γ) l
  have hlt:=B46 l
  refine aps Tryz.func151 ?_
  intro s
  conv=>whnf
  intro b hb
  conv=>whnf
  repeat' ((first|exact pru|(refine brS (fun h=>?_) (fun h=>?_)<;>(try rw [h])<;>(try simp only [bS,↓reduceIte] at h))|refine A5 ?_|(rw [hz])|refine gS ?_|refine aA ?_|refine nA ?_|fail)<;>(conv=>whnf))
  refine AWp.loopA [5] [17,18,19,20,21,22,23,24,25,26,27,28] (fun i:Nat=>[.int .i64 i]) (fun i s'=>i≤l.length∧s'=s.set b 241 [.int .i64 0,.str [],.int .i64 0,.int .i64 0]∧A0d l=i+A0d (l.drop i)) (fun i=>l.length - i) (0) (by kernel_rfl) (eqa) ?_ ?_
  ·exact ⟨by omega,rfl,by rw [List.drop_zero];simp⟩
  ·rintro x i _ ⟨i1,rfl,i2⟩
   show awp _ _ _ _ _ (updL _ _ [.int .i64 (i:Int)]) _
   conv=>whnf
   have hA:List.drop 0 (List.take ((i:Int)).toNat l)=l.take i:=by rw [Int.toNat_natCast,List.drop_zero]
   have hzi:B0 l ((i:Int)).toNat=B0 l i:=rfl
   by_cases hlt:i < l.length
   ·have hat:=C7t hlt
    have hpl:=B2m (Γ:=Γ) ((B0 l i).toNat:Int)
    by_cases hw:T9 (B0 l i).toNat=true
    ·rw [if_pos hw] at hat
     rw [hw] at hpl
     refine wp ?_;(rw [hzi]);refine wp ?_
     refine ⟨i+1,eqa,B8,⟨by omega,by first|rfl|trivial,by omega⟩,by omega⟩
    ·rw [if_neg hw] at hat
     rw [Bool.eq_false_iff.2 hw] at hpl
     have hN:A0d l=i:=by omega
     by_cases hi0:i=0
     ·subst hi0
      by_cases hg:Y2 l=[]
      ·rw [A6n hq hN hg]
       rw [hg] at hs
       repeat' ((first|exact pru|(refine brS (fun h=>?_) (fun h=>?_)<;>(try rw [h])<;>(try simp only [bS,↓reduceIte] at h))|(rw [hzi])|(refine A2.pure' ?_ (hpl);rintro _ rfl)|refine A7.pure ?_ (hpl)|(refine A2.pure' ?_ (hs);rintro _ rfl)|refine A7.pure ?_ (hs)|refine A5 ?_|refine gS ?_|refine aA ?_|refine nA ?_|fail)<;>(conv=>whnf))
       all_goals (first|exact ⟨((Sub.refl _).set hb _ _).set hb _ _,rfl⟩|exact absurd (by assumption) hg)
      ·rw [A8y hq hN hg]
       repeat' ((first|exact pru|(refine brS (fun h=>?_) (fun h=>?_)<;>(try rw [h])<;>(try simp only [bS,↓reduceIte] at h))|(rw [hzi])|(refine A2.pure' ?_ (hpl);rintro _ rfl)|refine A7.pure ?_ (hpl)|(refine A2.pure' ?_ (hs);rintro _ rfl)|refine A7.pure ?_ (hs)|refine A5 ?_|refine gS ?_|refine aA ?_|refine nA ?_|fail)<;>(conv=>whnf))
       all_goals (first|exact ⟨((Sub.refl _).set hb _ _).set hb _ _,rfl⟩|exact absurd (by assumption) hg)
     ·have hle:=B04 hT (l.take i) (by rw [List.length_take];omega) (by rw [List.length_take];omega)
      have hN0:A0d l≠0:=by omega
      rcases hL:H0 (l.take i) with e|⟨k,t⟩
      ·rw [B0n hq hN0 (by rw [hN];exact hL),hN]
       rw [hL] at hle
       simp only [C5n,Z4,A66] at hle
       refine wp ?_;(rw [hzi]);refine wp ?_;(rw [hA]);refine wp ?_
       intro b2 hb2
       have n_b_b2:b≠b2:=A1 bxa hb2
       have n_b2_b:=n_b_b2.symm
       refine wp ?_
       exact ⟨((((Sub.refl _).set hb _ _).set (N0 hb2).2 _ _).set (N0 hb2).2 _ _).set hb _ _,rfl⟩
      ·rw [A8x hq hN0 (by rw [hN];exact hL),hN]
       rw [hL] at hle
       simp only [C5n,Z4] at hle
       refine wp ?_;(rw [hzi]);refine wp ?_;(rw [hA]);refine wp ?_
       intro b2 hb2
       have n_b_b2:b≠b2:=A1 bxa hb2
       have n_b2_b:=n_b_b2.symm
       refine wp ?_
       exact ⟨((((Sub.refl _).set hb _ _).set (N0 hb2).2 _ _).set (N0 hb2).2 _ _).set hb _ _,rfl⟩
   ·have hN:A0d l=i:=by rw [C0 hlt] at i2;exact i2
    by_cases hi0:i=0
    ·subst hi0
     by_cases hg:Y2 l=[]
     ·rw [A6n hq hN hg]
      rw [hg] at hs
      repeat' ((first|exact pru|(refine brS (fun h=>?_) (fun h=>?_)<;>(try rw [h])<;>(try simp only [bS,↓reduceIte] at h))|(rw [hzi])|(refine A2.pure' ?_ (hs);rintro _ rfl)|refine A7.pure ?_ (hs)|(refine A2.pure' ?_ (hs);rintro _ rfl)|refine A7.pure ?_ (hs)|refine A5 ?_|refine gS ?_|refine aA ?_|refine nA ?_|fail)<;>(conv=>whnf))
      all_goals (first|exact ⟨((Sub.refl _).set hb _ _).set hb _ _,rfl⟩|exact absurd (by assumption) hg)
     ·rw [A8y hq hN hg]
      repeat' ((first|exact pru|(refine brS (fun h=>?_) (fun h=>?_)<;>(try rw [h])<;>(try simp only [bS,↓reduceIte] at h))|(rw [hzi])|(refine A2.pure' ?_ (hs);rintro _ rfl)|refine A7.pure ?_ (hs)|(refine A2.pure' ?_ (hs);rintro _ rfl)|refine A7.pure ?_ (hs)|refine A5 ?_|refine gS ?_|refine aA ?_|refine nA ?_|fail)<;>(conv=>whnf))
      all_goals (first|exact ⟨((Sub.refl _).set hb _ _).set hb _ _,rfl⟩|exact absurd (by assumption) hg)
    ·have hle:=B04 hT (l.take i) (by rw [List.length_take];omega) (by rw [List.length_take];omega)
     have hN0:A0d l≠0:=by omega
     rcases hL:H0 (l.take i) with e|⟨k,t⟩
     ·rw [B0n hq hN0 (by rw [hN];exact hL),hN]
      rw [hL] at hle
      simp only [C5n,Z4,A66] at hle
      repeat' ((first|exact pru|(refine brS (fun h=>?_) (fun h=>?_)<;>(try rw [h])<;>(try simp only [bS,↓reduceIte] at h))|(rw [hzi])|(refine A2.pure' ?_ (hs);rintro _ rfl)|refine A7.pure ?_ (hs)|(rw [hA])|(refine A2.pure' ?_ (hle);rintro _ rfl)|refine A7.pure ?_ (hle)|refine gS ?_|refine aA ?_|refine nA ?_|fail)<;>(conv=>whnf))
      intro b2 hb2
      have n_b_b2:b≠b2:=A1 bxa hb2
      have n_b2_b:=n_b_b2.symm
      refine wp ?_
      exact ⟨((((Sub.refl _).set hb _ _).set (N0 hb2).2 _ _).set (N0 hb2).2 _ _).set hb _ _,rfl⟩
     ·rw [A8x hq hN0 (by rw [hN];exact hL),hN]
      rw [hL] at hle
      simp only [C5n,Z4] at hle
      repeat' ((first|exact pru|(refine brS (fun h=>?_) (fun h=>?_)<;>(try rw [h])<;>(try simp only [bS,↓reduceIte] at h))|(rw [hzi])|(refine A2.pure' ?_ (hs);rintro _ rfl)|refine A7.pure ?_ (hs)|(rw [hA])|(refine A2.pure' ?_ (hle);rintro _ rfl)|refine A7.pure ?_ (hle)|refine gS ?_|refine aA ?_|refine nA ?_|fail)<;>(conv=>whnf))
      intro b2 hb2
      have n_b_b2:b≠b2:=A1 bxa hb2
      have n_b2_b:=n_b_b2.symm
      refine wp ?_
      exact ⟨((((Sub.refl _).set hb _ _).set (N0 hb2).2 _ _).set (N0 hb2).2 _ _).set hb _ _,rfl⟩
theorem B64:∀ l:List UInt8,(l.take (A0d l)).all (fun c=>T9 c.toNat)=true
 | []=>rfl
 | c::r=>by
  unfold A0d
  split
  ·rename_i h
   rw [List.take_succ_cons,List.all_cons,h,B64 r];rfl
  ·rfl
end Go.Proofs.YtaammejliikieaaGreatDoor.Lx
