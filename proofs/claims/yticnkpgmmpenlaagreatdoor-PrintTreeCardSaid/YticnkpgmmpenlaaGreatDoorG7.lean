/- Part 7 of what the closing text needs: PqS, PrI, PrJ, PrK, PrW, Jo1, PrX, TrS, ScC, PrY, PsA, Gr3, PaK3, TrT, TrU, TrV, PsB, PrZ, PsC, PsD. No condition of mine beyond those that the theorems name. -/
import Derived.Test.YticnkpgmmpenlaaGreatDoorG6
import Derived.Lib.Join
set_option maxRecDepth 10000
set_option maxHeartbeats 60000000
set_option linter.all false
namespace Go.Proofs.YticnkpgmmpenlaaGreatDoor.Pr
open Go Go.Ab Go.RowKit
open Go.Proofs.YticnkpgmmpenlaaGreatDoor.Tr hiding A72
variable {bulk:∀ H:Type,DataW H→Nat}
theorem C9l:M8 Tryz.prog bulk 93 arA (fun x _=>Nu.Q7 x.2.2.1.2.1) :=
 (J7 (bulk:=bulk) Tryz.underlying93 (by kernel_rfl)
  (D8.cons (bulk:=bulk) (k:=1) rfl (by kernel_rfl) (J1 (bulk:=bulk) Tryz.underlying3) (D8.cons (bulk:=bulk) (k:=1) rfl (by kernel_rfl) (A3x (bulk:=bulk) Tryz.underlying9) (D8.cons (bulk:=bulk) (k:=4) rfl (by kernel_rfl) (Va.A72) (D8.cons (bulk:=bulk) (k:=1) rfl (by kernel_rfl) (J1 (bulk:=bulk) Tryz.underlying3) (D8.cons (bulk:=bulk) (k:=1) rfl (by kernel_rfl) (J1 (bulk:=bulk) Tryz.underlying3) (D8.nil _))))))).map (fun x=>(x.1,x.2.1,x.2.2.1,x.2.2.2.1,x.2.2.2.2.1)) (fun _=>rfl) (fun _ _ h=>h.2.2.1.elim fun _ h=>h)
theorem C5l:M8 Tryz.prog bulk 37 (fun l:List Ar=>[.slice 0 (l.map arA)]) (fun l _=>∀ x ∈ l,Nu.Q7 x.2.2.1.2.1) :=
 (Q5 (bulk:=bulk) Tryz.underlying37 (k:=8) (by kernel_rfl) (by decide) C9l (fun _=>rfl)).map (fun l=>l) (fun _=>rfl) (fun _ _ h x hx=>(h.1 x hx).elim fun _ h=>h)
theorem B89:M8 Tryz.prog bulk 39 syA (fun x _=>∀ y ∈ x.2.2.1,Nu.Q7 y.2.2.1.2.1) :=
 (J7 (bulk:=bulk) Tryz.underlying39 (by kernel_rfl)
  (D8.cons (bulk:=bulk) (k:=1) rfl (by kernel_rfl) (A3x (bulk:=bulk) Tryz.underlying9) (D8.cons (bulk:=bulk) (k:=1) rfl (by kernel_rfl) (C5l) (D8.cons (bulk:=bulk) (k:=1) rfl (by kernel_rfl) (J1 (bulk:=bulk) Tryz.underlying3) (D8.cons (bulk:=bulk) (k:=1) rfl (by kernel_rfl) (J1 (bulk:=bulk) Tryz.underlying3) (D8.nil _)))))).map (fun x=>(0,x.1,x.2.1,x.2.2.1,x.2.2.2.1)) (fun _=>rfl) (fun _ _ h=>h.2.1.elim fun _ h=>h)
theorem C9o:M8 Tryz.prog bulk 58 frA (fun x _=>Nu.Q7 x.2.2.1) :=
 (J7 (bulk:=bulk) Tryz.underlying58 (by kernel_rfl)
  (D8.cons (bulk:=bulk) (k:=3) rfl (by kernel_rfl) (Z7) (D8.cons (bulk:=bulk) (k:=4) rfl (by kernel_rfl) (Va.A72) (D8.nil _)))).map (fun x=>(x.1,x.2.1)) (fun _=>rfl) (fun _ _ h=>h.2.1.elim fun _ h=>h)
theorem C9s:M8 Tryz.prog bulk 43 tnA (fun x _=>(∀ y ∈ x.2.2.2.1.2.1,Nu.Q7 y.2.2.1.2.1)∧∀ y ∈ x.2.2.2.2.1,Nu.Q7 y.2.2.2.2.1.2.1) :=
 (J7 (bulk:=bulk) Tryz.underlying43 (by kernel_rfl)
  (D8.cons (bulk:=bulk) (k:=3) rfl (by kernel_rfl) (Z7) (D8.cons (bulk:=bulk) (k:=3) rfl (by kernel_rfl) (Z7) (D8.cons (bulk:=bulk) (k:=4) rfl (by kernel_rfl) (B89) (D8.cons (bulk:=bulk) (k:=1) rfl (by kernel_rfl) (C5m) (D8.cons (bulk:=bulk) (k:=1) rfl (by kernel_rfl) (J1 (bulk:=bulk) Tryz.underlying3) (D8.cons (bulk:=bulk) (k:=1) rfl (by kernel_rfl) (C9q) (D8.nil _)))))))).map (fun x=>((x.2.2.1.1,0,0),x.1,x.2.1,x.2.2.1.2,x.2.2.2.1,x.2.2.2.2.1,x.2.2.2.2.2.1)) (fun _=>rfl) (fun _ _ h=>⟨h.2.2.1.elim fun _ h=>h,h.2.2.2.1.elim fun _ h=>h⟩)
theorem C5n:M8 Tryz.prog bulk 26 (fun l:List Fr=>[.slice 0 (l.map frA)]) (fun l _=>∀ x ∈ l,Nu.Q7 x.2.2.1) :=
 (Q5 (bulk:=bulk) Tryz.underlying26 (k:=7) (by kernel_rfl) (by decide) C9o (fun _=>rfl)).map (fun l=>l) (fun _=>rfl) (fun _ _ h x hx=>(h.1 x hx).elim fun _ h=>h)
theorem C5p:M8 Tryz.prog bulk 28 (fun l:List (Nat × Sy)=>[.slice 0 (l.map syA)]) (fun l _=>∀ x ∈ l,∀ y ∈ x.2.2.1,Nu.Q7 y.2.2.1.2.1) :=
 (Q5 (bulk:=bulk) Tryz.underlying28 (k:=4) (by kernel_rfl) (by decide) B89 (fun _=>rfl)).map (fun l=>l) (fun _=>rfl) (fun _ _ h x hx=>(h.1 x hx).elim fun _ h=>h)
theorem C5q:M8 Tryz.prog bulk 29 (fun l:List ((Nat × Nat × Nat) × Tn)=>[.slice 0 (l.map tnA)]) (fun l _=>∀ x ∈ l,(∀ y ∈ x.2.2.2.1.2.1,Nu.Q7 y.2.2.1.2.1)∧∀ y ∈ x.2.2.2.2.1,Nu.Q7 y.2.2.2.2.1.2.1) :=
 (Q5 (bulk:=bulk) Tryz.underlying29 (k:=13) (by kernel_rfl) (by decide) C9s (fun _=>rfl)).map (fun l=>l) (fun _=>rfl) (fun _ _ h x hx=>(h.1 x hx).elim fun _ h=>h)
structure D0y (x:Tr.Tr0):Prop where
 frees:∀ f ∈ x.2.2.2.1,Nu.Q7 f.2.2.1
 also:∀ s ∈ x.2.2.2.2.2.2.1,∀ a ∈ s.2.2.1,Nu.Q7 a.2.2.1.2.1
 trans:∀ t ∈ x.2.2.2.2.2.2.2,(∀ a ∈ t.2.2.2.1.2.1,Nu.Q7 a.2.2.1.2.1)∧∀ e ∈ t.2.2.2.2.1,Nu.Q7 e.2.2.2.2.1.2.1
theorem B9a:M8 Tryz.prog bulk 31 (trA fun _=>0) (fun x _=>D0y x) :=
 (J7 (bulk:=bulk) Tryz.underlying31 (by kernel_rfl)
  (D8.cons (bulk:=bulk) (k:=3) rfl (by kernel_rfl) (Z7) (D8.cons (bulk:=bulk) (k:=1) rfl (by kernel_rfl) (C9m) (D8.cons (bulk:=bulk) (k:=1) rfl (by kernel_rfl) (C9p) (D8.cons (bulk:=bulk) (k:=1) rfl (by kernel_rfl) (C5n) (D8.cons (bulk:=bulk) (k:=1) rfl (by kernel_rfl) (C9r) (D8.cons (bulk:=bulk) (k:=3) rfl (by kernel_rfl) (Z7) (D8.cons (bulk:=bulk) (k:=1) rfl (by kernel_rfl) (C5p) (D8.cons (bulk:=bulk) (k:=1) rfl (by kernel_rfl) (C5q) (D8.nil _)))))))))).map (fun x=>(x.1,x.2.1,x.2.2.1,x.2.2.2.1,x.2.2.2.2.1,x.2.2.2.2.2.1,x.2.2.2.2.2.2.1,x.2.2.2.2.2.2.2.1)) (fun _=>rfl) (fun _ _ h=>⟨h.2.2.2.1.elim fun _ h=>h,h.2.2.2.2.2.2.1.elim fun _ h=>h,h.2.2.2.2.2.2.2.1.elim fun _ h=>h⟩)
end Go.Proofs.YticnkpgmmpenlaaGreatDoor.Pr
namespace Go.Proofs.YticnkpgmmpenlaaGreatDoor.Pr
open Go Go.Ab Go.RowKit Go.Proofs.YticnkpgmmpenlaaGreatDoor.Lx Go.Proofs.YticnkpgmmpenlaaGreatDoor.Pa
variable {Γ:Nat→AV}
attribute [local irreducible] B7 Sto.set Sto.grow
def C86 (op:Int):Int:=if op=1∨op=17 then 8 else if 4≤op∧op≤16 then (lvl op:Int) else 0
theorem D9p {op:Int} (h:1≤op∧op≤17):op=1∨op=2∨op=3∨op=4∨op=5∨op=6∨op=7∨op=8∨op=9∨op=10∨op=11∨op=12∨op=13∨op=14∨op=15∨op=16∨op=17:=by omega
theorem U5 (op:Int):B7 Tryz.prog Γ 19 [.int .i64 op] fun v=>v=.int .i64 (C86 op):=by
 by_cases h:1≤op∧op≤17
 ·rcases D9p h with rfl|rfl|rfl|rfl|rfl|rfl|rfl|rfl|rfl|rfl|rfl|rfl|rfl|rfl|rfl|rfl|rfl
  all_goals
   refine aps Tryz.func19 ?_
   intro s
   refine wr ?_
   all_goals rfl
 ·have e:C86 op=0:=by unfold C86;rw [if_neg (by omega),if_neg (by omega)]
  rw [e]
  refine aps Tryz.func19 ?_
  intro s
  refine wr ?_
  all_goals rfl
def B7n (Γ:Nat→AV):Prop:=Γ 1=.cptr (B9k.map .str)
theorem D4m (hK:B7n Γ) (op:Int) (h:6≤op∧op≤16):B7 Tryz.prog Γ 119 [.int .i64 op] fun v=>v=.str (A2y op):=by
 rcases A2u h with rfl|rfl|rfl|rfl|rfl|rfl|rfl|rfl|rfl|rfl|rfl
 all_goals
  refine aps Tryz.func119 ?_
  intro s
  refine wr ?_;(rw [A5o,hK]);refine wr ?_
  all_goals rfl
theorem D3e (x:Tr.Ex):B7 Tryz.prog Γ 118 [.agg (Tr.exA x)] fun v=>v=.bool (decide (x.1=1) && (decide (x.2.2.2.2.1.1=1) && decide (0≤x.2.2.2.2.1.2.1))):=by
 obtain ⟨op,a,b,nm,⟨vk,vi,vs,vb⟩,ln,cl⟩:=x
 simp only [Tr.exA]
 refine aps Tryz.func118 ?_
 intro s
 conv=>whnf
 intro b1 hb1
 have k_b1:=hb1
 repeat replace k_b1:=E6 k_b1
 conv=>whnf
 repeat' ((first|(refine brS (fun h=>?_) (fun h=>?_)<;>(try rw [h])<;>(try simp only [bN,bS,↓reduceIte] at h)<;>(try exact prc))|refine E9 ?_|refine gS ?_|refine aA ?_|refine nA ?_|fail)<;>(conv=>whnf))
 all_goals refine ⟨A4n,Tr.C3 ?_⟩
 all_goals simp [*]
theorem B3f (x:Tr.Ex) (h:x.1=1∨x.1=17∨(4≤x.1∧x.1≤16)):B7 Tryz.prog Γ 152 [.agg (Tr.exA x)] fun v=>v=.int .i64 (lvl x.1:Int):=by
 obtain ⟨op,a,b,nm,⟨vk,vi,vs,vb⟩,ln,cl⟩:=x
 simp only at h
 simp only [Tr.exA]
 have h:=(show 1≤op∧op≤17 by omega)
 rcases D9p h with rfl|rfl|rfl|rfl|rfl|rfl|rfl|rfl|rfl|rfl|rfl|rfl|rfl|rfl|rfl|rfl|rfl
 all_goals
  refine aps Tryz.func152 ?_
  intro s
  conv=>whnf
  intro b1 hb1
  have k_b1:=hb1
  repeat replace k_b1:=E6 k_b1
  refine wr ?_
  all_goals first|exact ⟨A4n,rfl⟩|rfl|fail
theorem C5z (op:Int) (h:6≤op∧op≤16):B7 Tryz.prog Γ 153 [.int .i64 op] fun v=>v=.str (A2y op):=by
 rcases A2u h with rfl|rfl|rfl|rfl|rfl|rfl|rfl|rfl|rfl|rfl|rfl
 all_goals
  refine aps Tryz.func153 ?_
  intro s
  refine wr ?_
  all_goals rfl
theorem D0o {t j n:Nat} {l:List Tr.Ex} {T:Xt} (hj:j < l.length) (hlev:C86 (l.getD j Tr.G2).1=(T.lev:Int)) (hlen:T.txt.length≤1000000000000) (ht:B7 Tryz.prog Γ 73 [.slice t (l.map Tr.exA),.int .i64 (j:Int)] fun v=>v=.str T.txt) :
  B7 Tryz.prog Γ 117 [.slice t (l.map Tr.exA),.int .i64 (j:Int),.int .i64 (n:Int)] fun v=>v=.str (H6 n T).txt:=by
 have hml:(l.map Tr.exA).length=l.length:=List.length_map ..
 have hga:=Tr.C4 (f:=Tr.exA) (l:=l) Tr.G2 hj
 have hlv:=U5 (Γ:=Γ) (l.getD j Tr.G2).1
 rw [hlev] at hlv
 generalize l.getD j Tr.G2=x at *
 obtain ⟨op,a,b,nm,⟨vk,vi,vs,vb⟩,ln,cl⟩:=x
 simp only [Tr.exA] at hga
 simp only at hlv
 by_cases hlt:T.lev < n
 ·refine aps Tryz.func117 ?_
  intro s
  refine wr ?_
  all_goals (rw [show H6 n T=.par T from if_pos hlt];rfl)
 ·refine aps Tryz.func117 ?_
  intro s
  refine wr ?_
  all_goals (rw [show H6 n T=T from if_neg hlt];rfl)
theorem C09 {t j n:Nat} {l:List Tr.Ex} {T:Xt} (hj:j < l.length) (hop:(l.getD j Tr.G2).1=1∨(l.getD j Tr.G2).1=17∨(4≤(l.getD j Tr.G2).1∧(l.getD j Tr.G2).1≤16)) (hlev:lvl (l.getD j Tr.G2).1=T.lev) (hlen:T.txt.length≤1000000000000) (ht:B7 Tryz.prog Γ 101 [.slice t (l.map Tr.exA),.int .i64 (j:Int)] fun v=>v=.str T.txt) :
  B7 Tryz.prog Γ 151 [.slice t (l.map Tr.exA),.int .i64 (j:Int),.int .i64 (n:Int)] fun v=>v=.str (H6 n T).txt:=by
 have hml:(l.map Tr.exA).length=l.length:=List.length_map ..
 have hga:=Tr.C4 (f:=Tr.exA) (l:=l) Tr.G2 hj
 have hlv:=B3f (Γ:=Γ) (l.getD j Tr.G2) hop
 rw [hlev] at hlv
 generalize l.getD j Tr.G2=x at *
 obtain ⟨op,a,b,nm,⟨vk,vi,vs,vb⟩,ln,cl⟩:=x
 simp only [Tr.exA] at hga hlv
 by_cases hlt:T.lev < n
 ·refine aps Tryz.func151 ?_
  intro s
  refine wr ?_
  all_goals (rw [show H6 n T=.par T from if_pos hlt];rfl)
 ·refine aps Tryz.func151 ?_
  intro s
  refine wr ?_
  all_goals (rw [show H6 n T=T from if_neg hlt];rfl)
section
variable {t i j k:Nat} {l:List Tr.Ex} {op a b:Int} {nm:List UInt8} {v:Tr.Vl} {ln cl:Int} {A B:List UInt8}
theorem D4h (hT:Qu.A10 Γ) (hN:Nu.A7g Γ) (hi:i < l.length) (hga:(l.map Tr.exA).getD i []=Tr.exA (1,a,b,nm,v,ln,cl)) (hv:Nu.Q7 v.2.1) (hs:v.2.2.1.length≤1048576) :
  B7 Tryz.prog Γ 73 [.slice t (l.map Tr.exA),.int .i64 (i:Int)] fun x=>x=.str (Va.A3a v):=by
 have hml:(l.map Tr.exA).length=l.length:=List.length_map ..
 have htx:=Va.B2s hT hN v hv hs
 simp only [Tr.exA,Tr.vlA,Va.vlA] at hga htx
 refine aps Tryz.func73 ?_
 intro s
 refine wr ?_
 intro b1 hb1
 have k_b1:=hb1
 repeat replace k_b1:=E6 k_b1
 refine wr ?_;(first|(refine A6.pure' ?_ (U5 _);rintro _ rfl)|refine C0.pure ?_ (U5 _));refine wr ?_
 all_goals exact ⟨A4n,rfl⟩
theorem D4i (hi:i < l.length) (hga:(l.map Tr.exA).getD i []=Tr.exA (17,a,b,nm,v,ln,cl)) :
  B7 Tryz.prog Γ 73 [.slice t (l.map Tr.exA),.int .i64 (i:Int)] fun x=>x=.str nm:=by
 have hml:(l.map Tr.exA).length=l.length:=List.length_map ..
 simp only [Tr.exA,Tr.vlA] at hga
 refine aps Tryz.func73 ?_
 intro s
 refine wr ?_
 intro b1 hb1
 have k_b1:=hb1
 repeat replace k_b1:=E6 k_b1
 refine wr ?_;(first|(refine A6.pure' ?_ (U5 _);rintro _ rfl)|refine C0.pure ?_ (U5 _));refine wr ?_
 all_goals exact ⟨A4n,rfl⟩
theorem D4k (hi:i < l.length) (hga:(l.map Tr.exA).getD i []=Tr.exA (4,(j:Int),b,nm,v,ln,cl)) (hA:A.length≤1000000000000)
  (hw:B7 Tryz.prog Γ 117 [.slice t (l.map Tr.exA),.int .i64 (j:Int),.int .i64 ((3:Nat):Int)] fun v=>v=.str A) :
  B7 Tryz.prog Γ 73 [.slice t (l.map Tr.exA),.int .i64 (i:Int)] fun x=>x=.str ([110,111,116,32]++A):=by
 have hml:(l.map Tr.exA).length=l.length:=List.length_map ..
 simp only [Tr.exA,Tr.vlA] at hga
 refine aps Tryz.func73 ?_
 intro s
 refine wr ?_
 intro b1 hb1
 have k_b1:=hb1
 repeat replace k_b1:=E6 k_b1
 refine wr ?_;(first|(refine A6.pure' ?_ (U5 _);rintro _ rfl)|refine C0.pure ?_ (U5 _));refine wr ?_
 all_goals exact ⟨A4n,rfl⟩
theorem D4j (hi:i < l.length) (hj:j < l.length) (hga:(l.map Tr.exA).getD i []=Tr.exA (5,(j:Int),b,nm,v,ln,cl)) {q:Bool} (hA:A.length≤1000000000000) (hB:B.length≤1000000000000)
  (hp:B7 Tryz.prog Γ 118 [.agg ((l.map Tr.exA).getD j [])] fun v=>v=.bool q)
  (hw:B7 Tryz.prog Γ 117 [.slice t (l.map Tr.exA),.int .i64 (j:Int),.int .i64 ((9:Nat):Int)] fun v=>v=.str A)
  (hw7:B7 Tryz.prog Γ 117 [.slice t (l.map Tr.exA),.int .i64 (j:Int),.int .i64 ((7:Nat):Int)] fun v=>v=.str B) :
  B7 Tryz.prog Γ 73 [.slice t (l.map Tr.exA),.int .i64 (i:Int)] fun x=>x=.str ([45]++if q=true then A else B):=by
 have hml:(l.map Tr.exA).length=l.length:=List.length_map ..
 have hgj:=Tr.C4 (f:=Tr.exA) (l:=l) Tr.G2 hj
 rw [hgj] at hp
 generalize l.getD j Tr.G2=y at *
 simp only [Tr.exA,Tr.vlA] at hga hgj hp
 cases q
 all_goals
  refine aps Tryz.func73 ?_
  intro s
  refine wr ?_
  intro b1 hb1
  have k_b1:=hb1
  repeat replace k_b1:=E6 k_b1
  refine wr ?_;(first|(refine A6.pure' ?_ (U5 _);rintro _ rfl)|refine C0.pure ?_ (U5 _));refine wr ?_
  all_goals exact ⟨A4n,rfl⟩
theorem D4g (hK:B7n Γ) (hi:i < l.length) (hop:6≤op∧op≤16) (hga:(l.map Tr.exA).getD i []=Tr.exA (op,(j:Int),(k:Int),nm,v,ln,cl)) (hA:A.length≤1000000000000) (hB:B.length≤1000000000000)
  (hw:B7 Tryz.prog Γ 117 [.slice t (l.map Tr.exA),.int .i64 (j:Int),.int .i64 ((if lvl op=4 then 5 else lvl op:Nat):Int)] fun v=>v=.str A)
  (hw2:B7 Tryz.prog Γ 117 [.slice t (l.map Tr.exA),.int .i64 (k:Int),.int .i64 ((lvl op+1:Nat):Int)] fun v=>v=.str B) :
  B7 Tryz.prog Γ 73 [.slice t (l.map Tr.exA),.int .i64 (i:Int)] fun x=>x=.str (A++32::(A2y op++32::B)):=by
 have hml:(l.map Tr.exA).length=l.length:=List.length_map ..
 have htk:=D4m hK op hop
 have hs3:=B2o op
 simp only [Tr.exA,Tr.vlA] at hga
 have fin:A++[32]++A2y op++[32]++B=A++32::(A2y op++32::B):=by simp
 rw [← fin]
 rcases A2u hop with rfl|rfl|rfl|rfl|rfl|rfl|rfl|rfl|rfl|rfl|rfl
 all_goals
  refine aps Tryz.func73 ?_
  intro s
  refine wr ?_
  intro b1 hb1
  have k_b1:=hb1
  repeat replace k_b1:=E6 k_b1
  refine wr ?_;(first|(refine A6.pure' ?_ (U5 _);rintro _ rfl)|refine C0.pure ?_ (U5 _));refine wr ?_
  all_goals exact ⟨A4n,rfl⟩
end
theorem D55 {op:Int} (h:op=1∨op=17∨(4≤op∧op≤16)):C86 op=(lvl op:Int):=by
 unfold C86
 split
 ·rename_i h1
  rcases h1 with rfl|rfl<;>rfl
 ·rw [if_pos (by omega)]
theorem D6c {T:Xt}:([45]++if T.bare=true then (H6 9 T).txt else (H6 7 T).txt)=(Xt.una 5 (if T.bare=true then .par T else H6 7 T)).txt:=by
 have hw:H6 9 T=.par T:=if_pos (D71 T)
 rw [hw]
 show _=[45]++(if T.bare=true then Xt.par T else H6 7 T).txt
 split<;>rfl
theorem A83 (hK:B7n Γ) (hT:Qu.A10 Γ) (hN:Nu.A7g Γ) (t:Nat) {l:List Tr.Ex} {m:Nat} (hl:R8 l m):∀ (k i f:Nat),i < k→i < f→i < l.length→0 < (ndN l i).1→B7 Tryz.prog Γ 73 [.slice t (l.map Tr.exA),.int .i64 (i:Int)] fun v=>v=.str (H4 l f i).txt
 | 0,i,f,h,_,_,_=>by omega
 | k+1,i,f,hk,hf,hi,hpos=>by
  obtain ⟨f,rfl⟩:∃ g,f=g+1:=⟨f - 1,by omega⟩
  have kid:∀ (j n:Nat),j < i→0 < (ndN l j).1→B7 Tryz.prog Γ 117 [.slice t (l.map Tr.exA),.int .i64 (j:Int),.int .i64 (n:Int)] fun v=>v=.str (H6 n (H4 l f j)).txt:=fun j n hj hp=>by
   have hF:=hl.fine (f:=f) (by omega) (by omega) hp
   have hS:=hl.short (f:=f) (by omega) (by omega) hp
   exact D0o (by omega) (by rw [D55 hF.op,hF.lev]) (by omega) (A83 hK hT hN t hl k j f (by omega) (by omega) (by omega) hp)
  have hga:=Tr.C4 (f:=Tr.exA) (l:=l) Tr.G2 hi
  rcases D2h hi hpos with ⟨v,ln,cl,hx,hv,_⟩|⟨s,ln,cl,hx,hs,_⟩|⟨op,ln,cl,hop,hx,h1,hp,_⟩|⟨op,j,ln,cl,hop,hx,hj,hp,hq,_,_⟩
  ·rw [hx] at hga
   have hmem:=hl.val _ (hx ▸ Tr.D9 Tr.G2 hi)
   have hhi:=hl.hi
   rw [B63 hx,show (Xt.con v).txt=Va.A3a v from (W1 hv hmem.1).2.2]
   exact D4h hT hN hi hga hmem.1 (Nat.le_trans hmem.2 (by omega))
  ·rw [hx] at hga
   rw [B64 hx]
   exact D4i hi hga
  ·rw [hx] at hga
   rcases hop with rfl|rfl
   ·rw [B66 hx]
    exact D4k hi hga (hl.wrap (f:=f) (by omega) (by omega) hp) (kid (i - 1) 3 (by omega) hp)
   ·rw [B65 hx,← D6c]
    have hF:=hl.fine (f:=f) (i:=i - 1) (by omega) (by omega) hp
    have hpl:=D3e (Γ:=Γ) (l.getD (i - 1) Tr.G2)
    rw [← hF.bare,← Tr.C4 (f:=Tr.exA) (l:=l) Tr.G2 (show i - 1 < l.length by omega)] at hpl
    exact D4j hi (by omega) hga (hl.wrap (f:=f) (by omega) (by omega) hp) (hl.wrap (f:=f) (by omega) (by omega) hp) hpl (kid (i - 1) 9 (by omega) hp) (kid (i - 1) 7 (by omega) hp)
  ·rw [hx] at hga
   rw [B62 hop hx]
   exact D4g hK hi hop hga (hl.wrap (f:=f) (by omega) (by omega) hq) (hl.wrap (f:=f) (by omega) (by omega) hp) (kid j _ (by omega) hq) (kid (i - 1) _ (by omega) hp)
section
variable {t i j k:Nat} {l:List Tr.Ex} {op a b:Int} {nm:List UInt8} {v:Tr.Vl} {ln cl:Int} {A B:List UInt8}
theorem D0b (hi:i < l.length) (hga:(l.map Tr.exA).getD i []=Tr.exA (1,a,b,nm,v,ln,cl)) (hv:Nu.Q7 v.2.1) (hs:v.2.2.1.length≤1048576) (hr:Tr.W0 v=true) :
  B7 Tryz.prog Γ 101 [.slice t (l.map Tr.exA),.int .i64 (i:Int)] fun x=>x=.str (Va.A3a v):=by
 have hml:(l.map Tr.exA).length=l.length:=List.length_map ..
 have htx:=Va.A75 (Γ:=Γ) v hv hs hr
 simp only [Tr.exA,Tr.vlA,Va.vlA] at hga htx
 refine aps Tryz.func101 ?_
 intro s
 refine wr ?_
 intro b1 hb1
 have k_b1:=hb1
 repeat replace k_b1:=E6 k_b1
 refine wr ?_
 all_goals exact ⟨A4n,rfl⟩
theorem D0c (hi:i < l.length) (hga:(l.map Tr.exA).getD i []=Tr.exA (17,a,b,nm,v,ln,cl)) :
  B7 Tryz.prog Γ 101 [.slice t (l.map Tr.exA),.int .i64 (i:Int)] fun x=>x=.str nm:=by
 have hml:(l.map Tr.exA).length=l.length:=List.length_map ..
 simp only [Tr.exA,Tr.vlA] at hga
 refine aps Tryz.func101 ?_
 intro s
 refine wr ?_
 intro b1 hb1
 have k_b1:=hb1
 repeat replace k_b1:=E6 k_b1
 refine wr ?_
 all_goals exact ⟨A4n,rfl⟩
theorem D0e (hi:i < l.length) (hga:(l.map Tr.exA).getD i []=Tr.exA (4,(j:Int),b,nm,v,ln,cl)) (hA:A.length≤1000000000000)
  (hw:B7 Tryz.prog Γ 151 [.slice t (l.map Tr.exA),.int .i64 (j:Int),.int .i64 ((3:Nat):Int)] fun v=>v=.str A) :
  B7 Tryz.prog Γ 101 [.slice t (l.map Tr.exA),.int .i64 (i:Int)] fun x=>x=.str ([110,111,116,32]++A):=by
 have hml:(l.map Tr.exA).length=l.length:=List.length_map ..
 simp only [Tr.exA,Tr.vlA] at hga
 refine aps Tryz.func101 ?_
 intro s
 refine wr ?_
 intro b1 hb1
 have k_b1:=hb1
 repeat replace k_b1:=E6 k_b1
 refine wr ?_
 all_goals exact ⟨A4n,rfl⟩
theorem D0d (hi:i < l.length) (hj:j < l.length) (hga:(l.map Tr.exA).getD i []=Tr.exA (5,(j:Int),b,nm,v,ln,cl)) {y:Tr.Ex} (hy:l.getD j Tr.G2=y) (hA:A.length≤1000000000000) (hB:B.length≤1000000000000)
  (hw:B7 Tryz.prog Γ 101 [.slice t (l.map Tr.exA),.int .i64 (j:Int)] fun v=>v=.str A)
  (hw7:B7 Tryz.prog Γ 151 [.slice t (l.map Tr.exA),.int .i64 (j:Int),.int .i64 ((7:Nat):Int)] fun v=>v=.str B) :
  B7 Tryz.prog Γ 101 [.slice t (l.map Tr.exA),.int .i64 (i:Int)] fun x=>x=.str (if (decide (y.1=1) && (decide (y.2.2.2.2.1.1=1) && decide (0≤y.2.2.2.2.1.2.1)))=true then [45,40]++A++[41] else [45]++B):=by
 have hml:(l.map Tr.exA).length=l.length:=List.length_map ..
 have hgj:=Tr.C4 (f:=Tr.exA) (l:=l) Tr.G2 hj
 rw [hy] at hgj
 obtain ⟨yo,ya,yb,yn,⟨yk,yi,ys,yt⟩,yl,yc⟩:=y
 simp only [Tr.exA,Tr.vlA] at hga hgj
 simp only
 refine aps Tryz.func101 ?_
 intro s
 refine wr ?_
 intro b1 hb1
 have k_b1:=hb1
 repeat replace k_b1:=E6 k_b1
 refine wr ?_
 intro b2 hb2
 have k_b2:=hb2
 repeat replace k_b2:=E6 k_b2
 have n_b1_b2:b1≠b2:=by (have k:=hb2;repeat (first|exact D75 k|replace k:=E6 k))
 have n_b2_b1:=n_b1_b2.symm
 conv=>whnf
 repeat' ((first|(refine brS (fun h=>?_) (fun h=>?_)<;>(try rw [h])<;>(try simp only [bN,bS,↓reduceIte] at h)<;>(try exact prc))|refine E9 ?_|(refine A6.pure' ?_ (hw);rintro _ rfl)|refine C0.pure ?_ (hw)|(refine A6.pure' ?_ (hw7);rintro _ rfl)|refine C0.pure ?_ (hw7)|refine gS ?_|refine aA ?_|refine nA ?_|fail)<;>(conv=>whnf))
 all_goals refine ⟨A4n,congrArg AV.str ?_⟩
 all_goals simp [*]
theorem D0a (hi:i < l.length) (hop:6≤op∧op≤16) (hga:(l.map Tr.exA).getD i []=Tr.exA (op,(j:Int),(k:Int),nm,v,ln,cl)) (hA:A.length≤1000000000000) (hB:B.length≤1000000000000)
  (hw:B7 Tryz.prog Γ 151 [.slice t (l.map Tr.exA),.int .i64 (j:Int),.int .i64 ((if lvl op=4 then 5 else lvl op:Nat):Int)] fun v=>v=.str A)
  (hw2:B7 Tryz.prog Γ 151 [.slice t (l.map Tr.exA),.int .i64 (k:Int),.int .i64 ((lvl op+1:Nat):Int)] fun v=>v=.str B) :
  B7 Tryz.prog Γ 101 [.slice t (l.map Tr.exA),.int .i64 (i:Int)] fun x=>x=.str (A++32::(A2y op++32::B)):=by
 have hml:(l.map Tr.exA).length=l.length:=List.length_map ..
 have htk:=C5z (Γ:=Γ) op hop
 have hlv:=B3f (Γ:=Γ) (op,(j:Int),(k:Int),nm,v,ln,cl) (.inr (.inr (by simp only;omega)))
 have hs3:=B2o op
 simp only [Tr.exA,Tr.vlA] at hga hlv
 have fin:A++[32]++A2y op++[32]++B=A++32::(A2y op++32::B):=by simp
 rw [← fin]
 rcases A2u hop with rfl|rfl|rfl|rfl|rfl|rfl|rfl|rfl|rfl|rfl|rfl
 all_goals
  refine aps Tryz.func101 ?_
  intro s
  refine wr ?_
  intro b1 hb1
  have k_b1:=hb1
  repeat replace k_b1:=E6 k_b1
  refine wr ?_
  all_goals exact ⟨A4n,rfl⟩
end
theorem C3p (t:Nat) {l:List Tr.Ex} {m:Nat} (hl:R8 l m):∀ (k i f:Nat),i < k→i < f→i < l.length→0 < (ndN l i).1→B7 Tryz.prog Γ 101 [.slice t (l.map Tr.exA),.int .i64 (i:Int)] fun v=>v=.str (H4 l f i).txt
 | 0,i,f,h,_,_,_=>by omega
 | k+1,i,f,hk,hf,hi,hpos=>by
  obtain ⟨f,rfl⟩:∃ g,f=g+1:=⟨f - 1,by omega⟩
  have sub:=fun j (hj:j < i) (hp:0 < (ndN l j).1)=>C3p t hl k j f (by omega) (by omega) (by omega) hp
  have kid:∀ (j n:Nat),j < i→0 < (ndN l j).1→B7 Tryz.prog Γ 151 [.slice t (l.map Tr.exA),.int .i64 (j:Int),.int .i64 (n:Int)] fun v=>v=.str (H6 n (H4 l f j)).txt:=fun j n hj hp=>by
   have hF:=hl.fine (f:=f) (by omega) (by omega) hp
   have hS:=hl.short (f:=f) (by omega) (by omega) hp
   exact C09 (by omega) hF.op hF.lev.symm (by omega) (sub j hj hp)
  have hga:=Tr.C4 (f:=Tr.exA) (l:=l) Tr.G2 hi
  rcases D2h hi hpos with ⟨v,ln,cl,hx,hv,_⟩|⟨s,ln,cl,hx,hs,_⟩|⟨op,ln,cl,hop,hx,h1,hp,_⟩|⟨op,j,ln,cl,hop,hx,hj,hp,hq,_,_⟩
  ·rw [hx] at hga
   have hmem:=hl.val _ (hx ▸ Tr.D9 Tr.G2 hi)
   have hhi:=hl.hi
   rw [B63 hx,show (Xt.con v).txt=Va.A3a v from (W1 hv hmem.1).2.2]
   exact D0b hi hga hmem.1 (Nat.le_trans hmem.2 (by omega)) hv
  ·rw [hx] at hga
   rw [B64 hx]
   exact D0c hi hga
  ·rw [hx] at hga
   rcases hop with rfl|rfl
   ·rw [B66 hx]
    exact D0e hi hga (hl.wrap (f:=f) (by omega) (by omega) hp) (kid (i - 1) 3 (by omega) hp)
   ·rw [B65 hx]
    have hF:=hl.fine (f:=f) (i:=i - 1) (by omega) (by omega) hp
    have hS:=hl.short (f:=f) (i:=i - 1) (by omega) (by omega) hp
    have:=D0d (Γ:=Γ) (t:=t) hi (j:=i - 1) (by omega) hga rfl (by omega) (hl.wrap (f:=f) (by omega) (by omega) hp) (sub (i - 1) (by omega) hp) (kid (i - 1) 7 (by omega) hp)
    rw [← hF.bare] at this
    have e:(if (H4 l f (i - 1)).bare=true then [45,40]++(H4 l f (i - 1)).txt++[41] else [45]++(H6 7 (H4 l f (i - 1))).txt)=(Xt.una 5 (if (H4 l f (i - 1)).bare=true then .par (H4 l f (i - 1)) else H6 7 (H4 l f (i - 1)))).txt:=by
     show _=[45]++(if (H4 l f (i - 1)).bare=true then Xt.par (H4 l f (i - 1)) else H6 7 (H4 l f (i - 1))).txt
     split<;>rfl
    rwa [e] at this
  ·rw [hx] at hga
   rw [B62 hop hx]
   exact D0a hi hop hga (hl.wrap (f:=f) (by omega) (by omega) hq) (hl.wrap (f:=f) (by omega) (by omega) hp) (kid j _ (by omega) hq) (kid (i - 1) _ (by omega) hp)
def dpI (l:List Tr.Ex) (at_:Int):Int:=if 0≤at_∧at_ < l.length then (ndN l at_.toNat).2 else 0
theorem D1i (hW:Sc.Wds Γ) (t:Nat) (l:List Tr.Ex) (hl:l.length≤1000000) (at_:Int):B7 Tryz.prog Γ 72 [.slice t (l.map Tr.exA),.int .i64 at_] fun v=>v=.int .i64 (dpI l at_):=by
 have hml:(l.map Tr.exA).length=l.length:=List.length_map ..
 have hsz:=Tr.C3v (Γ:=Γ) Sc.D4 t l hl (fun x _=>Sc.Q0 hW x.2.2.2.1)
 clear hW
 by_cases h:0≤at_∧at_ < l.length
 ·have e:dpI l at_=(ndN l at_.toNat).2:=if_pos h
  have hcol:=Tr.A6g (f:=Prod.snd) rfl (r:=Tr.tab Sc.D4 l l.length) (n:=l.length) (j:=at_.toNat) (m:=0+at_.toNat * 1) (by omega) (by rw [Tr.A1o];omega) (by omega)
  rw [e]
  refine aps Tryz.func72 ?_
  intro s
  conv=>whnf
  repeat' ((first|(refine brS (fun h=>?_) (fun h=>?_)<;>(try rw [h])<;>(try simp only [bN,bS,↓reduceIte] at h)<;>(try exact prc))|refine gS ?_|refine aA ?_|refine nA ?_|fail)<;>(conv=>whnf))
  refine A6.by (hsz _) ?_
  rintro v s' ⟨b1,b2,rfl,hz⟩
  conv=>whnf
  repeat' ((first|(refine brS (fun h=>?_) (fun h=>?_)<;>(try rw [h])<;>(try simp only [bN,bS,↓reduceIte] at h)<;>(try exact prc))|(refine B6 hz.depth (Tr.A37 hcol ?_))|refine gS ?_|refine aA ?_|refine nA ?_|fail)<;>(conv=>whnf))
  all_goals exact ⟨hz.sub,rfl⟩
 ·have e:dpI l at_=0:=if_neg h
  rw [e]
  clear hsz
  refine aps Tryz.func72 ?_
  intro s
  conv=>whnf
  repeat' ((first|(refine brS (fun h=>?_) (fun h=>?_)<;>(try rw [h])<;>(try simp only [bN,bS,↓reduceIte] at h)<;>(try exact prc))|refine gS ?_|refine aA ?_|refine nA ?_|fail)<;>(conv=>whnf))
  all_goals rfl
def C17 (l:List Tr.Ex) (at_:Int):List UInt8:=if dpI l at_=0∨64 < dpI l at_ then [] else (H4 l (at_.toNat+1) at_.toNat).txt
theorem D7l {l:List Tr.Ex} {at_:Int} (h:dpI l at_≠0):0≤at_∧at_.toNat < l.length∧0 < (ndN l at_.toNat).1:=by
 unfold dpI at h
 split at h
 ·rename_i hh
  refine ⟨hh.1,by omega,?_⟩
  have hb:=A8v (l:=l) (i:=at_.toNat) (by omega)
  have hz:=fun h0=>D6b (l:=l) (i:=at_.toNat) (by omega) h0
  omega
 ·exact absurd rfl h
theorem C0b (hK:B7n Γ) (hT:Qu.A10 Γ) (hN:Nu.A7g Γ) (hW:Sc.Wds Γ) (t:Nat) {l:List Tr.Ex} {m:Nat} (hl:R8 l m) (at_:Int):B7 Tryz.prog Γ 18 [.slice t (l.map Tr.exA),.int .i64 at_] fun v=>v=.str (C17 l at_):=by
 have hd:=D1i hW t l hl.len at_
 by_cases h:dpI l at_=0∨64 < dpI l at_
 ·rw [show C17 l at_=[] from if_pos h]
  refine aps Tryz.func18 ?_
  intro s
  refine wr ?_
  all_goals rfl
 ·obtain ⟨h1,h2,h3⟩:=D7l (fun e=>h (.inl e))
  have htx:=A83 hK hT hN t hl (at_.toNat+1) at_.toNat (at_.toNat+1) (by omega) (by omega) h2 h3
  rw [show ((at_.toNat:Nat):Int)=at_ by omega] at htx
  rw [show C17 l at_=(H4 l (at_.toNat+1) at_.toNat).txt from if_neg h]
  clear hK hT hN hW
  refine aps Tryz.func18 ?_
  intro s
  refine wr ?_
  all_goals rfl
def exS:List UInt8:=[40,97,43,50,41,32,42,32,45,40,51,41]
def exO:List Ex:=[{ ex0 with op:=17,name:=[97],ln:=1,cl:=2 },{ ex0 with op:=1,vk:=1,vi:=2,ln:=1,cl:=4 },{ ex0 with op:=8,a:=0,b:=1,ln:=1,cl:=3 },{ ex0 with op:=1,vk:=1,vi:=3,ln:=1,cl:=11 },{ ex0 with op:=5,a:=3,ln:=1,cl:=9 },{ ex0 with op:=10,a:=2,b:=4,ln:=1,cl:=7 }]
def C8m:List Tr.Ex:=[(17,0,0,[97],Tr.R5,1,2),(1,0,0,[],(1,2,[],false),1,4),(8,0,1,[],Tr.R5,1,3),(1,0,0,[],(1,3,[],false),1,11),(5,3,0,[],Tr.R5,1,9),(10,2,4,[],Tr.R5,1,7)]
theorem D5p:A29 exS B8t=.ok exO:=by kernel_rfl
theorem D5q:L9 exO=C8m.map Tr.exA:=by rfl
theorem C8n:R8 C8m 40:=⟨by decide,by decide,by decide,fun x hx=>by
 simp only [C8m,List.mem_cons,List.not_mem_nil,or_false] at hx
 rcases hx with rfl|rfl|rfl|rfl|rfl|rfl<;>exact ⟨⟨by decide,by decide⟩,by decide⟩⟩
theorem D5o:dpI C8m 5=3:=by kernel_rfl
theorem D5s:H4 C8m 6 5=.bin 10 (.par (.bin 8 (.nam [97]) (.con (1,2,[],false)))) (.una 5 (.par (.con (1,3,[],false)))):=by kernel_rfl
theorem C2o (u:Nat) (h:u < 10):Lib.itoa (u:Int)=[UInt8.ofNat (48+u)]:=by rw [Lib.itoa_nonneg,Nu.B95 h]
theorem D5r:C17 C8m 5=[40,97,32,43,32,50,41,32,42,32,45,40,51,41]:=by
 unfold C17
 rw [D5o,if_neg (by decide),show (5:Int).toNat+1=6 from rfl,show (5:Int).toNat=5 from rfl,D5s]
 show (40::(([97]++32::([43]++32::Lib.itoa ((2:Nat):Int)))++[41]))++32::([42]++32::([45]++40::(Lib.itoa ((3:Nat):Int)++[41])))=_
 rw [C2o 2 (by decide),C2o 3 (by decide)]
 rfl
theorem D09 (hK:B7n Γ) (hT:Qu.A10 Γ) (hN:Nu.A7g Γ) (hW:Sc.Wds Γ) (hO:AsO.A5f Γ) (hE:AsP.A5f Γ) (hR:Nu.A0l Γ):B7 Tryz.prog Γ 6 [] fun v=>v=.bool true:=by
 have h1:=D1n hT hW hO hE hR exS (by decide) (fun L hL=>B79 hL)
 rw [D5p] at h1
 simp only [D1m,D5q] at h1
 have h2:=C0b hK hT hN hW 0 C8n 5
 rw [D5r] at h2
 clear hK hT hN hW hO hE hR
 refine aps Tryz.func6 ?_
 intro s
 refine wr ?_
 intro b2 hb2
 have k_b2:=hb2
 repeat replace k_b2:=E6 k_b2
 refine wr ?_;(refine P4.of A2h A0r ?_);refine wr ?_;(first|(refine A6.pure' ?_ (U5 _);rintro _ rfl)|refine C0.pure ?_ (U5 _));refine wr ?_
 all_goals exact ⟨A4n,by kernel_rfl⟩
end Go.Proofs.YticnkpgmmpenlaaGreatDoor.Pr
namespace Go.Proofs.YticnkpgmmpenlaaGreatDoor.Pr
open Go Go.Ab Go.RowKit Go.Proofs.YticnkpgmmpenlaaGreatDoor.Lx Go.Proofs.YticnkpgmmpenlaaGreatDoor.Pa
theorem B6z:∀ r:List (List UInt8),Lib.joinTail [10] r++[10]=10::r.flatMap A0n
 | []=>rfl
 | y::r=>by
  have ih:=B6z r
  show (([10]++y)++Lib.joinTail [10] r)++[10]=10::((y++[10])++r.flatMap A0n)
  rw [List.append_assoc,ih];simp
theorem C48:∀ l:List (List UInt8),l≠[]→Lib.join l [10]++[10]=l.flatMap A0n
 | [],h=>absurd rfl h
 | x::r,_=>by
  rw [Lib.join_cons,List.append_assoc,B6z]
  show _=(x++[10])++r.flatMap A0n
  simp
def A8b (x:Tr.Tr0):List (List UInt8) :=
 [B1r++32::x.1.1]++(x.2.1.map (fun d=>A2n d.2))++(x.2.2.1.map V9)++(x.2.2.2.1.map A1e)++(x.2.2.2.2.1.map W3)++[X5++32::x.2.2.2.2.2.1.1]++(x.2.2.2.2.2.2.1.map fun s=>R7++32::U8 s.2)++(x.2.2.2.2.2.2.2.map fun t=>G5 t.2)
theorem C2b {α:Type} (S:α→List UInt8):∀ l:List α,(l.map S).flatMap A0n=J6 S l
 | []=>rfl
 | x::l=>by show A0n (S x)++(l.map S).flatMap A0n=A0n (S x)++J6 S l;rw [C2b S l]
theorem D0m (x:Tr.Tr0):Lib.join (A8b x) [10]++[10]=X9 x:=by
 rw [C48 _ (by unfold A8b;simp)]
 unfold A8b X9
 simp only [List.flatMap_append,C2b,List.append_assoc]
 have e:∀ y:List UInt8,[y].flatMap A0n=A0n y:=fun y=>by show A0n y++[]=_;rw [List.append_nil]
 rw [e,e]
def A42 (t:Tr.Tn):List (List UInt8) :=
 [t.1.1,wOn,U8 t.2.2.1]++(if 0≤t.2.2.2.2.1 then [wIf,(gx t.2.2.2.1 t.2.2.2.2.1).txt] else [])++(if t.2.2.2.2.2=[] then [] else [wDo,H3 (t.2.2.2.2.2.map (X3 t.2.2.2.1))])++[wTo,t.2.1.1]
theorem B61 (t:Tr.Tn):Lib.join (A42 t) [32]=G5 t:=by
 unfold A42 G5 ifS doS toS
 by_cases hg:0≤t.2.2.2.2.1<;>by_cases hs:t.2.2.2.2.2=[]
 ·rw [if_pos hg,if_pos hs,if_pos hg,if_pos hs,List.cons_append,List.cons_append,List.cons_append,List.cons_append,Lib.join_cons]
  simp [Lib.joinTail]
 ·rw [if_pos hg,if_neg hs,if_pos hg,if_neg hs,List.cons_append,List.cons_append,List.cons_append,List.cons_append,Lib.join_cons]
  simp [Lib.joinTail]
 ·rw [if_neg hg,if_pos hs,if_neg hg,if_pos hs,List.cons_append,List.cons_append,List.cons_append,List.cons_append,Lib.join_cons]
  simp [Lib.joinTail]
 ·rw [if_neg hg,if_neg hs,if_neg hg,if_neg hs,List.cons_append,List.cons_append,List.cons_append,List.cons_append,Lib.join_cons]
  simp [Lib.joinTail]
theorem B5o:∀ (l:List (List UInt8)) (x:List UInt8),H3 (l++[x])=if l=[] then x else H3 l++44::32::x
 | [],x=>rfl
 | [y],x=>rfl
 | y::z::l,x=>by
  have ih:=B5o (z::l) x
  rw [if_neg (by simp)] at ih ⊢
  show y++44::32::H3 (z::l++[x])=(y++44::32::H3 (z::l))++44::32::x
  rw [ih];simp
theorem A7z {B:Nat}:∀ l:List (List UInt8),(∀ x ∈ l,x.length≤B)→(H3 l).length≤l.length * (B+2)
 | [],_=>Nat.zero_le _
 | [x],h=>by
  have:=h x List.mem_cons_self
  show x.length≤1 * (B+2)
  omega
 | x::y::l,h=>by
  have ih:=A7z (y::l) fun z hz=>h z (List.mem_cons_of_mem _ hz)
  have:=h x List.mem_cons_self
  show (x++44::32::H3 (y::l)).length≤((y::l).length+1) * (B+2)
  rw [List.length_append,List.length_cons,List.length_cons,Nat.succ_mul]
  omega
theorem A4e {α:Type} {S:α→List UInt8} {B:Nat}:∀ l:List α,(∀ x ∈ l,(S x).length≤B)→(J6 S l).length≤l.length * (B+1)
 | [],_=>Nat.zero_le _
 | x::l,h=>by
  have ih:=A4e l fun z hz=>h z (List.mem_cons_of_mem _ hz)
  have:=h x List.mem_cons_self
  show ((S x++[10])++J6 S l).length≤(l.length+1) * (B+1)
  rw [List.length_append,List.length_append,List.length_singleton,Nat.succ_mul]
  omega
theorem B33 {α:Type} {S:α→List UInt8}:∀ {l:List α} {x:α},x ∈ l→(S x).length+1≤(J6 S l).length
 | y::l,x,h=>by
  show _≤((S y++[10])++J6 S l).length
  rw [List.length_append,List.length_append,List.length_singleton]
  rcases List.mem_cons.1 h with rfl|h
  ·omega
  ·have:=B33 (S:=S) h;omega
theorem B2d:∀ {l:List (List UInt8)} {x:List UInt8},x ∈ l→x.length≤(H3 l).length
 | [y],x,h=>by rw [List.mem_singleton.1 h];exact Nat.le_refl _
 | y::z::l,x,h=>by
  show _≤(y++44::32::H3 (z::l)).length
  rw [List.length_append,List.length_cons,List.length_cons]
  rcases List.mem_cons.1 h with rfl|h
  ·omega
  ·have:=B2d h;omega
theorem A8s:∀ (l:List (List UInt8)) (n:Nat),(H3 (l.take n)).length≤(H3 l).length
 | [],n=>by rw [List.take_nil];exact Nat.le_refl _
 | x::l,0=>Nat.zero_le _
 | [x],n+1=>by rw [List.take_of_length_le (by simp)];exact Nat.le_refl _
 | x::y::l,n+1=>by
  have ih:=A8s (y::l) n
  rw [List.take_succ_cons]
  show (H3 (x::(y::l).take n)).length≤(x++44::32::H3 (y::l)).length
  rw [List.length_append,List.length_cons,List.length_cons]
  cases n with
  | zero=>show x.length≤_;omega
  | succ n =>
   rw [List.take_succ_cons] at ih ⊢
   show (x++44::32::H3 (y::l.take n)).length≤_
   rw [List.length_append,List.length_cons,List.length_cons]
   omega
theorem C5i {α:Type} {S:α→List UInt8} (l:List α) (n:Nat):(J6 S (l.take n)).length≤(J6 S l).length:=by
 conv=>rhs;rw [← List.take_append_drop n l]
 unfold J6
 rw [List.flatMap_append,List.length_append]
 omega
theorem C5h {α:Type} {S:α→List UInt8} (l:List α) (x:α):J6 S (l++[x])=J6 S l++A0n (S x):=by
 unfold J6
 rw [List.flatMap_append]
 show _++(A0n (S x)++[])=_
 rw [List.append_nil]
theorem B0x (k:Int):(Q4 k).length≤6:=by
 unfold Q4
 repeat' split
 all_goals decide
theorem D0h {x:Tr.Tr0} (h:C7w x) (hb:Tr.A86 x=true):(X9 x).length≤100000000:=by
 have nm:∀ {s:List UInt8},Sc.D4 s=true→s.length≤32:=fun hs=>(K1 hs).2.1
 have ki:=B0x
 simp only [Tr.A86,Tr.B0y,Bool.and_eq_true,decide_eq_true_eq,List.all_eq_true] at hb
 obtain ⟨⟨b1,b2,b3,b4,b5,b6⟩,b7,b8,b9,b10⟩:=hb
 have va:∀ {v:Tr.Vl},Tr.W0 v=true→Nu.Q7 v.2.1→v.2.2.1.length≤100→(A93 v).length≤430:=fun hv hf hl=>B7d hv hf hl
 have ar:∀ {a:Tr.Ar},C37 a→Tr.arB a=true→(A0w a).length≤430:=fun {a} ha hl=>by
  have hl:=of_decide_eq_true hl
  unfold A0w
  rcases ha with ⟨h1,_,h2,h3⟩|⟨h1,h2,_⟩|⟨h1,_⟩
  ·rw [if_pos h1];exact va h2 h3 (by omega)
  ·rw [if_neg (by omega),if_pos h1];have:=nm h2;omega
  ·rw [if_neg (by omega),if_neg (by omega)];decide
 have sy:∀ {s:Nat × Tr.Sy},B7m s.2→Tr.syB s=true→(U8 s.2).length≤6000:=fun {s} hs hb=>by
  unfold Tr.syB at hb
  simp only [Bool.and_eq_true,decide_eq_true_eq,List.all_eq_true] at hb
  have:=nm hs.1
  have:=A7z (B:=430) (s.2.2.1.map A0w) fun z hz=>by
   obtain ⟨a,ha,rfl⟩:=List.mem_map.1 hz
   exact ar (hs.2 a ha) (hb.2 a ha)
  rw [List.length_map] at this
  have:s.2.2.1.length * (430+2)≤12 * 432:=Nat.mul_le_mul (by omega) (by omega)
  show (s.2.1++40::(H3 (s.2.2.1.map A0w)++[41])).length≤_
  simp only [List.length_append,List.length_cons,List.length_nil]
  omega
 have l1:=A4e (S:=fun d:Nat × Tr.De=>A2n d.2) (B:=200) x.2.1 fun d hd=>by
  have:=nm (h.decls d hd).1
  have hd12:=of_decide_eq_true (b7 d hd)
  have:=A7z (B:=6) (d.2.2.map Q4) fun z hz=>by
   obtain ⟨a,ha,rfl⟩:=List.mem_map.1 hz
   exact ki a
  rw [List.length_map] at this
  show (A0k++32::(d.2.1.1++40::(H3 (d.2.2.map Q4)++[41]))).length≤_
  simp only [List.length_append,List.length_cons,List.length_nil,A0k]
  omega
 have l2:=A4e (S:=V9) (B:=200) x.2.2.1 fun q hq=>by
  have:=nm (h.quants q hq).1
  have:=ki q.2.2
  have:(if q.1=true then wForall else S8).length=6:=by split<;>rfl
  unfold V9
  simp only [List.length_append,List.length_cons]
  omega
 have l3:=A4e (S:=A1e) (B:=1000) x.2.2.2.1 fun f hf=>by
  obtain ⟨f1,f2,f3⟩:=h.frees f hf
  have:=nm f1
  have:=va f2 f3 (by have:=of_decide_eq_true (b8 f hf);omega)
  unfold A1e
  simp only [List.length_append,List.length_cons,List.length_nil,A3f]
  omega
 have l4:=A4e (S:=W3) (B:=200) x.2.2.2.2.1 fun s hs=>by
  have:=nm (h.states s hs)
  have:(if s.2.1=true then wNext else A21).length=4:=by split<;>rfl
  have:(if s.2.2=true then 32::R4 else ([]:List UInt8)).length≤7:=by split<;>decide
  unfold W3
  simp only [List.length_append,List.length_cons]
  omega
 have l5:=A4e (S:=fun s:Nat × Tr.Sy=>R7++32::U8 s.2) (B:=7000) x.2.2.2.2.2.2.1 fun s hs=>by
  have:=sy (h.also s hs) (b9 s hs)
  simp only [List.length_append,List.length_cons,List.length_nil,R7]
  omega
 have l6:=A4e (S:=fun t:(Nat × Nat × Nat) × Tr.Tn=>G5 t.2) (B:=1000000) x.2.2.2.2.2.2.2 fun t ht=>by
  obtain ⟨t1,t2,t3,⟨m,hm⟩,t5⟩:=h.trans t ht
  have hb:=b10 t ht
  unfold Tr.tnB at hb
  simp only [Bool.and_eq_true,decide_eq_true_eq,List.all_eq_true] at hb
  obtain ⟨c1,c2,c3,c4⟩:=hb
  have hl:R8 t.2.2.2.2.1 100:=⟨by decide,by decide,hm.len,fun e he=>⟨(hm.val e he).1,by have:=of_decide_eq_true (c4 e he);omega⟩⟩
  have tx:∀ {lo i},Whole t.2.2.2.2.1 lo i→(gx t.2.2.2.2.1 i).txt.length≤20000:=fun {lo i} hw=>by
   have hF:=A61 hl hw
   have:=hF.len
   have:=hF.fits
   obtain ⟨w1,w2,w3,w4⟩:=hw
   have:(ndN t.2.2.2.2.1 i.toNat).1.toNat * (4 * 100+40)≤40 * 440:=Nat.mul_le_mul (by omega) (by omega)
   omega
  have n1:=nm t1
  have n2:=nm t2
  have n3:=sy (s:=(t.1.1,t.2.2.2.1)) t3 c1
  have hs:∃ lo,A25 t.2.2.2.2.1 lo t.2.2.2.2.2.2:=t5.elim (fun h=>⟨_,h.2⟩) (fun h=>⟨_,h.2⟩)
  obtain ⟨lo,hs⟩:=hs
  have hj:=A7z (B:=20100) (t.2.2.2.2.2.2.map (X3 t.2.2.2.2.1)) fun z hz=>by
   obtain ⟨a,ha,rfl⟩:=List.mem_map.1 hz
   obtain ⟨e1,lo',e2⟩:=A30 hs a ha
   have:=nm e1
   have:=tx e2
   unfold X3
   simp only [List.length_append,List.length_cons]
   omega
  rw [List.length_map] at hj
  have:t.2.2.2.2.2.2.length * (20100+2)≤12 * 20102:=Nat.mul_le_mul (by omega) (by omega)
  have hto:(toS t.2).length≤36:=by
   show (32::(wTo++32::t.2.2.1.1)).length≤_
   simp only [List.length_append,List.length_cons,List.length_nil,wTo]
   omega
  have hdo:(doS t.2).length≤300000:=by
   unfold doS
   split
   ·omega
   ·simp only [List.length_append,List.length_cons,List.length_nil,wDo]
    omega
  have hif:(ifS t.2).length≤350000:=by
   unfold ifS
   split
   ·rename_i hg
    rcases t5 with h5|h5
    ·omega
    ·have:=tx h5.1
     simp only [List.length_append,List.length_cons,List.length_nil,wIf]
     omega
   ·omega
  show (t.2.1.1++32::(wOn++32::(U8 t.2.2.2.1++ifS t.2))).length≤_
  simp only [List.length_append,List.length_cons,List.length_nil,wOn]
  simp only at n3
  omega
 have m1:=nm h.name
 have m2:=nm h.start
 unfold X9
 simp only [List.length_append,List.length_cons,List.length_nil,A0n,B1r,X5]
 have p1:x.2.1.length * (200+1)≤12 * 201:=Nat.mul_le_mul (by omega) (by omega)
 have p2:x.2.2.1.length * (200+1)≤12 * 201:=Nat.mul_le_mul (by omega) (by omega)
 have p3:x.2.2.2.1.length * (1000+1)≤12 * 1001:=Nat.mul_le_mul (by omega) (by omega)
 have p4:x.2.2.2.2.1.length * (200+1)≤12 * 201:=Nat.mul_le_mul (by omega) (by omega)
 have p5:x.2.2.2.2.2.2.1.length * (7000+1)≤12 * 7001:=Nat.mul_le_mul (by omega) (by omega)
 have p6:x.2.2.2.2.2.2.2.length * (1000000+1)≤12 * 1000001:=Nat.mul_le_mul (by omega) (by omega)
 omega
end Go.Proofs.YticnkpgmmpenlaaGreatDoor.Pr
namespace Go.Proofs.YticnkpgmmpenlaaGreatDoor.Jo
open Go Go.Ab Go.RowKit
variable {Γ:Nat→AV}
theorem B8v:∀ m:List (List UInt8),(D3 m).flatten=m.map AV.str
 | []=>rfl
 | x::m=>by
  have:=B8v m
  simp only [D3,List.map_cons,List.flatten_cons] at *
  rw [this];rfl
theorem A51 {G:Gh} {w:World}:∀ (m:List (List UInt8)) (us:List Value),C9 G w (m.map AV.str) us→us=m.map fun x=>Value.string ⟨x.toArray⟩
 | [],us,h=>C2.1 h
 | x::m,us,h=>by
  obtain ⟨u,us',rfl,h1,h2⟩:=B8.1 h
  rw [K4.1 h1,A51 m us' h2];rfl
theorem A6m (t:Nat) (m:List (List UInt8)) (sep:List UInt8) (hm:m.length≤140737488355328) (hl:(Lib.join m sep).length≤140737488355328) :
  B7 Tryz.prog Γ 38 [.slice t (D3 m),.str sep] fun v=>v=.str (Lib.join m sep):=by
 refine fun s=>A6.of_below fun G w vs hM hr=>?_
 obtain ⟨u,us,rfl,hu,hus⟩:=B8.1 hr
 obtain ⟨u1,us1,rfl,hu1,hus1⟩:=B8.1 hus
 rw [C2] at hus1;subst hus1
 rw [K4] at hu1;subst hu1
 obtain ⟨a,cap,rfl,hcap,_,hel,_⟩:=L7 hu
 rw [A18] at hcap ⊢
 refine ⟨_,fun G' w'=>K4.2 rfl,?_⟩
 cases m with
 | nil =>
  refine (Tryz.strings_Join_none a cap ⟨sep.toArray⟩ w).mono ?_
  rintro e w' ⟨rfl,rfl⟩
  exact ⟨by simp [Lib.join_nil],Below.refl _ _⟩
 | cons x m =>
  obtain ⟨b,o,k,rfl,hE⟩:=hel (by simp [D3])
  have hk:k=1:=(B4b _ hE [.str x] (by simp [D3])).symm
  subst hk
  obtain ⟨us,h1,h2,h3⟩:=S4 _ hE
  rw [B8v] at h2
  have h4:=A51 _ _ h2
  subst h4
  have hb:b < w.heap.size:=by
   have hc:=h3 0 (.string ⟨x.toArray⟩) rfl
   exact (B3x hc).1
  have hj:=Tryz.strings_Join b o cap ((x::m).map fun x=>⟨x.toArray⟩) ⟨sep.toArray⟩ w (fun j y hy=>h3 j (.string y) (by
   rw [List.getElem?_map] at hy ⊢
   cases hx:(x::m)[j]? with
   | none=>rw [hx] at hy;cases hy
   | some z=>rw [hx] at hy;cases hy;rfl)) hb (by simpa using hm) (by simpa using hcap) (by simpa [Function.comp_def] using hl)
  simp only [List.map_map,List.length_map,Function.comp_def,List.map_id'] at hj
  exact hj
end Go.Proofs.YticnkpgmmpenlaaGreatDoor.Jo
namespace Go.Proofs.YticnkpgmmpenlaaGreatDoor.Pr
open Go Go.Ab Go.RowKit Go.Proofs.YticnkpgmmpenlaaGreatDoor.Lx Go.Proofs.YticnkpgmmpenlaaGreatDoor.Pa
variable {Γ:Nat→AV}
attribute [local irreducible] B7 Sto.set Sto.grow
theorem Z9 {α:Type} {f:α→List UInt8} (d:α) {l:List α} {i:Nat} (h:i < l.length):D3 ((l.take (i+1)).map f)=D3 ((l.take i).map f)++[[AV.str (f (l.getD i d))]]:=by
 rw [show l.take (i+1)=l.take i++[l.getD i d] by rw [List.take_add_one];simp [List.getD,h]]
 simp [D3]
theorem Z3 (m:List (List UInt8)):(D3 m).length=m.length:=by simp [D3]
theorem C5b (t:Nat) (l:List (Nat × Tr.De)) (hl:l.length≤100000) (S:Nat × Tr.De→List UInt8) (hS:∀ u ∈ l,B7 Tryz.prog Γ 23 [.agg (Tr.deA u)] fun v=>v=.str (S u)):B7 Tryz.prog Γ 22 [.slice t (l.map Tr.deA),.func (.func 23) [] []] fun v=>v=.slice 0 (D3 (l.map S)):=by
 refine B7.forget fun s=>?_
 have hml:(l.map Tr.deA).length=l.length:=List.length_map ..
 refine acs Tryz.func22 ?_
 refine wr ?_
 refine AWp.loopA [5,10] [11,12,13,7,14,15,16,17,18,19,20] (fun x:Nat × Nat=>[.slice x.2 (D3 ((l.take x.1).map S)),.int .i64 x.1]) (fun x s'=>x.1≤l.length∧Own s s' (x.1 == 0) x.2 9 1) (fun x=>l.length - x.1) ((0,1)) (by kernel_rfl) (eqa) ?_ ?_
 ·exact ⟨by simp,Own.nil _ _ _⟩
 ·rintro y ⟨i,t1⟩ s1 ⟨hi,ho⟩
  simp only at hi ho
  show awp _ _ _ _ _ (updL _ _ [.slice t1 (D3 ((l.take i).map S)),.int .i64 (i:Int)]) _
  conv=>whnf
  by_cases hlt:i < l.length
  ·have hga:=Tr.C4 (f:=Tr.deA) (l:=l) Tr.A0f hlt
   have htk:=Z9 (f:=S) Tr.A0f hlt
   have hSu:=hS _ (Tr.D9 Tr.A0f hlt)
   generalize l.getD i Tr.A0f=u at *
   simp only [Tr.deA] at hga hSu
   refine wr ?_
   intro c hc
   conv=>whnf
   have hc':=ho.sub.none hc
   refine wr ?_
   have ho2:=fun (T:TypeId) (a b:List AV)=>(ho.set (T:=T) (cs:=a) hc').set (T:=T) (cs:=b) hc'
   refine ⟨(ho2 _ _ _).may,fun c hc=>?_,all_cons ⟨rfl,rfl⟩ all_nil,?_,?_⟩
   ·obtain ⟨z,_,rfl⟩:=List.mem_map.1 hc;rfl
   ·show ((D3 ((l.take i).map S)).length+1) * (_+1)≤_
    rw [Z3,List.length_map,List.length_take,Nat.min_eq_left (by omega)]
    exact Nat.le_trans (Nat.mul_le_mul_right _ (show i+1≤100001 by omega)) (Nat.le_of_ble_eq_true (by kernel_rfl))
   intro t' k1 k2
   have k3:=(ho2 _ _ _).grow k1 k2
   refine wr ?_
   refine ⟨(i+1,t'),?_,C5,⟨by simp only;omega,?_⟩,by simp only;omega⟩
   ·refine C1 ?_ (C1 (show AV.int .i64 (IntKind.i64.wrap ((i:Int)+1))=.int .i64 ((i+1:Nat):Int) from E3 (by omega) (by omega) (by omega)) rfl)
    show AV.slice _ _=.slice _ (D3 ((l.take (i+1)).map S))
    rw [htk]<;>rfl
   ·have ez:∀ (z:Bool) (y:List AV),(z && [y].isEmpty)=false:=by intro z y;cases z<;>rfl
    have e2:(i+1 == 0)=false:=by simp
    show Own _ _ (i+1 == 0) t' _ _
    rw [ez] at k3
    rw [e2]
    exact k3
  ·have ht:l.take i=l:=List.take_of_length_le (by omega)
   refine wr ?_
   refine ⟨s1,Sub.refl _,⟨t1,?_⟩,ho.sub⟩
   rw [ht]
   rfl
theorem C5d (t:Nat) (l:List (Tr.Qu)) (hl:l.length≤100000) (S:Tr.Qu→List UInt8) (hS:∀ u ∈ l,B7 Tryz.prog Γ 26 [.agg (Tr.quA u)] fun v=>v=.str (S u)):B7 Tryz.prog Γ 25 [.slice t (l.map Tr.quA),.func (.func 26) [] []] fun v=>v=.slice 0 (D3 (l.map S)):=by
 refine B7.forget fun s=>?_
 have hml:(l.map Tr.quA).length=l.length:=List.length_map ..
 refine acs Tryz.func25 ?_
 refine wr ?_
 refine AWp.loopA [5,10] [11,12,13,7,14,15,16,17,18,19,20] (fun x:Nat × Nat=>[.slice x.2 (D3 ((l.take x.1).map S)),.int .i64 x.1]) (fun x s'=>x.1≤l.length∧Own s s' (x.1 == 0) x.2 9 1) (fun x=>l.length - x.1) ((0,1)) (by kernel_rfl) (eqa) ?_ ?_
 ·exact ⟨by simp,Own.nil _ _ _⟩
 ·rintro y ⟨i,t1⟩ s1 ⟨hi,ho⟩
  simp only at hi ho
  show awp _ _ _ _ _ (updL _ _ [.slice t1 (D3 ((l.take i).map S)),.int .i64 (i:Int)]) _
  conv=>whnf
  by_cases hlt:i < l.length
  ·have hga:=Tr.C4 (f:=Tr.quA) (l:=l) Tr.A15 hlt
   have htk:=Z9 (f:=S) Tr.A15 hlt
   have hSu:=hS _ (Tr.D9 Tr.A15 hlt)
   generalize l.getD i Tr.A15=u at *
   simp only [Tr.quA] at hga hSu
   refine wr ?_
   intro c hc
   conv=>whnf
   have hc':=ho.sub.none hc
   refine wr ?_
   have ho2:=fun (T:TypeId) (a b:List AV)=>(ho.set (T:=T) (cs:=a) hc').set (T:=T) (cs:=b) hc'
   refine ⟨(ho2 _ _ _).may,fun c hc=>?_,all_cons ⟨rfl,rfl⟩ all_nil,?_,?_⟩
   ·obtain ⟨z,_,rfl⟩:=List.mem_map.1 hc;rfl
   ·show ((D3 ((l.take i).map S)).length+1) * (_+1)≤_
    rw [Z3,List.length_map,List.length_take,Nat.min_eq_left (by omega)]
    exact Nat.le_trans (Nat.mul_le_mul_right _ (show i+1≤100001 by omega)) (Nat.le_of_ble_eq_true (by kernel_rfl))
   intro t' k1 k2
   have k3:=(ho2 _ _ _).grow k1 k2
   refine wr ?_
   refine ⟨(i+1,t'),?_,C5,⟨by simp only;omega,?_⟩,by simp only;omega⟩
   ·refine C1 ?_ (C1 (show AV.int .i64 (IntKind.i64.wrap ((i:Int)+1))=.int .i64 ((i+1:Nat):Int) from E3 (by omega) (by omega) (by omega)) rfl)
    show AV.slice _ _=.slice _ (D3 ((l.take (i+1)).map S))
    rw [htk]<;>rfl
   ·have ez:∀ (z:Bool) (y:List AV),(z && [y].isEmpty)=false:=by intro z y;cases z<;>rfl
    have e2:(i+1 == 0)=false:=by simp
    show Own _ _ (i+1 == 0) t' _ _
    rw [ez] at k3
    rw [e2]
    exact k3
  ·have ht:l.take i=l:=List.take_of_length_le (by omega)
   refine wr ?_
   refine ⟨s1,Sub.refl _,⟨t1,?_⟩,ho.sub⟩
   rw [ht]
   rfl
theorem C5c (t:Nat) (l:List (Tr.Fr)) (hl:l.length≤100000) (S:Tr.Fr→List UInt8) (hS:∀ u ∈ l,B7 Tryz.prog Γ 30 [.agg (Tr.frA u)] fun v=>v=.str (S u)):B7 Tryz.prog Γ 29 [.slice t (l.map Tr.frA),.func (.func 30) [] []] fun v=>v=.slice 0 (D3 (l.map S)):=by
 refine B7.forget fun s=>?_
 have hml:(l.map Tr.frA).length=l.length:=List.length_map ..
 refine acs Tryz.func29 ?_
 refine wr ?_
 refine AWp.loopA [5,10] [11,12,13,7,14,15,16,17,18,19,20] (fun x:Nat × Nat=>[.slice x.2 (D3 ((l.take x.1).map S)),.int .i64 x.1]) (fun x s'=>x.1≤l.length∧Own s s' (x.1 == 0) x.2 9 1) (fun x=>l.length - x.1) ((0,1)) (by kernel_rfl) (eqa) ?_ ?_
 ·exact ⟨by simp,Own.nil _ _ _⟩
 ·rintro y ⟨i,t1⟩ s1 ⟨hi,ho⟩
  simp only at hi ho
  show awp _ _ _ _ _ (updL _ _ [.slice t1 (D3 ((l.take i).map S)),.int .i64 (i:Int)]) _
  conv=>whnf
  by_cases hlt:i < l.length
  ·have hga:=Tr.C4 (f:=Tr.frA) (l:=l) Tr.A1d hlt
   have htk:=Z9 (f:=S) Tr.A1d hlt
   have hSu:=hS _ (Tr.D9 Tr.A1d hlt)
   generalize l.getD i Tr.A1d=u at *
   simp only [Tr.frA] at hga hSu
   refine wr ?_
   intro c hc
   conv=>whnf
   have hc':=ho.sub.none hc
   refine wr ?_
   have ho2:=fun (T:TypeId) (a b:List AV)=>(ho.set (T:=T) (cs:=a) hc').set (T:=T) (cs:=b) hc'
   refine ⟨(ho2 _ _ _).may,fun c hc=>?_,all_cons ⟨rfl,rfl⟩ all_nil,?_,?_⟩
   ·obtain ⟨z,_,rfl⟩:=List.mem_map.1 hc;rfl
   ·show ((D3 ((l.take i).map S)).length+1) * (_+1)≤_
    rw [Z3,List.length_map,List.length_take,Nat.min_eq_left (by omega)]
    exact Nat.le_trans (Nat.mul_le_mul_right _ (show i+1≤100001 by omega)) (Nat.le_of_ble_eq_true (by kernel_rfl))
   intro t' k1 k2
   have k3:=(ho2 _ _ _).grow k1 k2
   refine wr ?_
   refine ⟨(i+1,t'),?_,C5,⟨by simp only;omega,?_⟩,by simp only;omega⟩
   ·refine C1 ?_ (C1 (show AV.int .i64 (IntKind.i64.wrap ((i:Int)+1))=.int .i64 ((i+1:Nat):Int) from E3 (by omega) (by omega) (by omega)) rfl)
    show AV.slice _ _=.slice _ (D3 ((l.take (i+1)).map S))
    rw [htk]<;>rfl
   ·have ez:∀ (z:Bool) (y:List AV),(z && [y].isEmpty)=false:=by intro z y;cases z<;>rfl
    have e2:(i+1 == 0)=false:=by simp
    show Own _ _ (i+1 == 0) t' _ _
    rw [ez] at k3
    rw [e2]
    exact k3
  ·have ht:l.take i=l:=List.take_of_length_le (by omega)
   refine wr ?_
   refine ⟨s1,Sub.refl _,⟨t1,?_⟩,ho.sub⟩
   rw [ht]
   rfl
theorem C5e (t:Nat) (l:List (Tr.St)) (hl:l.length≤100000) (S:Tr.St→List UInt8) (hS:∀ u ∈ l,B7 Tryz.prog Γ 33 [.agg (Tr.stA u)] fun v=>v=.str (S u)):B7 Tryz.prog Γ 32 [.slice t (l.map Tr.stA),.func (.func 33) [] []] fun v=>v=.slice 0 (D3 (l.map S)):=by
 refine B7.forget fun s=>?_
 have hml:(l.map Tr.stA).length=l.length:=List.length_map ..
 refine acs Tryz.func32 ?_
 refine wr ?_
 refine AWp.loopA [5,10] [11,12,13,7,14,15,16,17,18,19,20] (fun x:Nat × Nat=>[.slice x.2 (D3 ((l.take x.1).map S)),.int .i64 x.1]) (fun x s'=>x.1≤l.length∧Own s s' (x.1 == 0) x.2 9 1) (fun x=>l.length - x.1) ((0,1)) (by kernel_rfl) (eqa) ?_ ?_
 ·exact ⟨by simp,Own.nil _ _ _⟩
 ·rintro y ⟨i,t1⟩ s1 ⟨hi,ho⟩
  simp only at hi ho
  show awp _ _ _ _ _ (updL _ _ [.slice t1 (D3 ((l.take i).map S)),.int .i64 (i:Int)]) _
  conv=>whnf
  by_cases hlt:i < l.length
  ·have hga:=Tr.C4 (f:=Tr.stA) (l:=l) Tr.A16 hlt
   have htk:=Z9 (f:=S) Tr.A16 hlt
   have hSu:=hS _ (Tr.D9 Tr.A16 hlt)
   generalize l.getD i Tr.A16=u at *
   simp only [Tr.stA] at hga hSu
   refine wr ?_
   intro c hc
   conv=>whnf
   have hc':=ho.sub.none hc
   refine wr ?_
   have ho2:=fun (T:TypeId) (a b:List AV)=>(ho.set (T:=T) (cs:=a) hc').set (T:=T) (cs:=b) hc'
   refine ⟨(ho2 _ _ _).may,fun c hc=>?_,all_cons ⟨rfl,rfl⟩ all_nil,?_,?_⟩
   ·obtain ⟨z,_,rfl⟩:=List.mem_map.1 hc;rfl
   ·show ((D3 ((l.take i).map S)).length+1) * (_+1)≤_
    rw [Z3,List.length_map,List.length_take,Nat.min_eq_left (by omega)]
    exact Nat.le_trans (Nat.mul_le_mul_right _ (show i+1≤100001 by omega)) (Nat.le_of_ble_eq_true (by kernel_rfl))
   intro t' k1 k2
   have k3:=(ho2 _ _ _).grow k1 k2
   refine wr ?_
   refine ⟨(i+1,t'),?_,C5,⟨by simp only;omega,?_⟩,by simp only;omega⟩
   ·refine C1 ?_ (C1 (show AV.int .i64 (IntKind.i64.wrap ((i:Int)+1))=.int .i64 ((i+1:Nat):Int) from E3 (by omega) (by omega) (by omega)) rfl)
    show AV.slice _ _=.slice _ (D3 ((l.take (i+1)).map S))
    rw [htk]<;>rfl
   ·have ez:∀ (z:Bool) (y:List AV),(z && [y].isEmpty)=false:=by intro z y;cases z<;>rfl
    have e2:(i+1 == 0)=false:=by simp
    show Own _ _ (i+1 == 0) t' _ _
    rw [ez] at k3
    rw [e2]
    exact k3
  ·have ht:l.take i=l:=List.take_of_length_le (by omega)
   refine wr ?_
   refine ⟨s1,Sub.refl _,⟨t1,?_⟩,ho.sub⟩
   rw [ht]
   rfl
theorem C5f (t:Nat) (l:List (Nat × Tr.Sy)) (hl:l.length≤100000) (S:Nat × Tr.Sy→List UInt8) (hS:∀ u ∈ l,B7 Tryz.prog Γ 35 [.agg (Tr.syA u)] fun v=>v=.str (S u)):B7 Tryz.prog Γ 34 [.slice t (l.map Tr.syA),.func (.func 35) [] []] fun v=>v=.slice 0 (D3 (l.map S)):=by
 refine B7.forget fun s=>?_
 have hml:(l.map Tr.syA).length=l.length:=List.length_map ..
 refine acs Tryz.func34 ?_
 refine wr ?_
 refine AWp.loopA [5,10] [11,12,13,7,14,15,16,17,18,19,20] (fun x:Nat × Nat=>[.slice x.2 (D3 ((l.take x.1).map S)),.int .i64 x.1]) (fun x s'=>x.1≤l.length∧Own s s' (x.1 == 0) x.2 9 1) (fun x=>l.length - x.1) ((0,1)) (by kernel_rfl) (eqa) ?_ ?_
 ·exact ⟨by simp,Own.nil _ _ _⟩
 ·rintro y ⟨i,t1⟩ s1 ⟨hi,ho⟩
  simp only at hi ho
  show awp _ _ _ _ _ (updL _ _ [.slice t1 (D3 ((l.take i).map S)),.int .i64 (i:Int)]) _
  conv=>whnf
  by_cases hlt:i < l.length
  ·have hga:=Tr.C4 (f:=Tr.syA) (l:=l) Tr.Y9 hlt
   have htk:=Z9 (f:=S) Tr.Y9 hlt
   have hSu:=hS _ (Tr.D9 Tr.Y9 hlt)
   generalize l.getD i Tr.Y9=u at *
   simp only [Tr.syA] at hga hSu
   refine wr ?_
   intro c hc
   conv=>whnf
   have hc':=ho.sub.none hc
   refine wr ?_
   have ho2:=fun (T:TypeId) (a b:List AV)=>(ho.set (T:=T) (cs:=a) hc').set (T:=T) (cs:=b) hc'
   refine ⟨(ho2 _ _ _).may,fun c hc=>?_,all_cons ⟨rfl,rfl⟩ all_nil,?_,?_⟩
   ·obtain ⟨z,_,rfl⟩:=List.mem_map.1 hc;rfl
   ·show ((D3 ((l.take i).map S)).length+1) * (_+1)≤_
    rw [Z3,List.length_map,List.length_take,Nat.min_eq_left (by omega)]
    exact Nat.le_trans (Nat.mul_le_mul_right _ (show i+1≤100001 by omega)) (Nat.le_of_ble_eq_true (by kernel_rfl))
   intro t' k1 k2
   have k3:=(ho2 _ _ _).grow k1 k2
   refine wr ?_
   refine ⟨(i+1,t'),?_,C5,⟨by simp only;omega,?_⟩,by simp only;omega⟩
   ·refine C1 ?_ (C1 (show AV.int .i64 (IntKind.i64.wrap ((i:Int)+1))=.int .i64 ((i+1:Nat):Int) from E3 (by omega) (by omega) (by omega)) rfl)
    show AV.slice _ _=.slice _ (D3 ((l.take (i+1)).map S))
    rw [htk]<;>rfl
   ·have ez:∀ (z:Bool) (y:List AV),(z && [y].isEmpty)=false:=by intro z y;cases z<;>rfl
    have e2:(i+1 == 0)=false:=by simp
    show Own _ _ (i+1 == 0) t' _ _
    rw [ez] at k3
    rw [e2]
    exact k3
  ·have ht:l.take i=l:=List.take_of_length_le (by omega)
   refine wr ?_
   refine ⟨s1,Sub.refl _,⟨t1,?_⟩,ho.sub⟩
   rw [ht]
   rfl
theorem C5g (t:Nat) (l:List ((Nat × Nat × Nat) × Tr.Tn)) (hl:l.length≤100000) (S:(Nat × Nat × Nat) × Tr.Tn→List UInt8) (hS:∀ u ∈ l,B7 Tryz.prog Γ 37 [.agg (Tr.tnA u)] fun v=>v=.str (S u)):B7 Tryz.prog Γ 36 [.slice t (l.map Tr.tnA),.func (.func 37) [] []] fun v=>v=.slice 0 (D3 (l.map S)):=by
 refine B7.forget fun s=>?_
 have hml:(l.map Tr.tnA).length=l.length:=List.length_map ..
 refine acs Tryz.func36 ?_
 refine wr ?_
 refine AWp.loopA [5,10] [11,12,13,7,14,15,16,17,18,19,20] (fun x:Nat × Nat=>[.slice x.2 (D3 ((l.take x.1).map S)),.int .i64 x.1]) (fun x s'=>x.1≤l.length∧Own s s' (x.1 == 0) x.2 9 1) (fun x=>l.length - x.1) ((0,1)) (by kernel_rfl) (eqa) ?_ ?_
 ·exact ⟨by simp,Own.nil _ _ _⟩
 ·rintro y ⟨i,t1⟩ s1 ⟨hi,ho⟩
  simp only at hi ho
  show awp _ _ _ _ _ (updL _ _ [.slice t1 (D3 ((l.take i).map S)),.int .i64 (i:Int)]) _
  conv=>whnf
  by_cases hlt:i < l.length
  ·have hga:=Tr.C4 (f:=Tr.tnA) (l:=l) Tr.U1 hlt
   have htk:=Z9 (f:=S) Tr.U1 hlt
   have hSu:=hS _ (Tr.D9 Tr.U1 hlt)
   generalize l.getD i Tr.U1=u at *
   simp only [Tr.tnA] at hga hSu
   refine wr ?_
   intro c hc
   conv=>whnf
   have hc':=ho.sub.none hc
   refine wr ?_
   have ho2:=fun (T:TypeId) (a b:List AV)=>(ho.set (T:=T) (cs:=a) hc').set (T:=T) (cs:=b) hc'
   refine ⟨(ho2 _ _ _).may,fun c hc=>?_,all_cons ⟨rfl,rfl⟩ all_nil,?_,?_⟩
   ·obtain ⟨z,_,rfl⟩:=List.mem_map.1 hc;rfl
   ·show ((D3 ((l.take i).map S)).length+1) * (_+1)≤_
    rw [Z3,List.length_map,List.length_take,Nat.min_eq_left (by omega)]
    exact Nat.le_trans (Nat.mul_le_mul_right _ (show i+1≤100001 by omega)) (Nat.le_of_ble_eq_true (by kernel_rfl))
   intro t' k1 k2
   have k3:=(ho2 _ _ _).grow k1 k2
   refine wr ?_
   refine ⟨(i+1,t'),?_,C5,⟨by simp only;omega,?_⟩,by simp only;omega⟩
   ·refine C1 ?_ (C1 (show AV.int .i64 (IntKind.i64.wrap ((i:Int)+1))=.int .i64 ((i+1:Nat):Int) from E3 (by omega) (by omega) (by omega)) rfl)
    show AV.slice _ _=.slice _ (D3 ((l.take (i+1)).map S))
    rw [htk]<;>rfl
   ·have ez:∀ (z:Bool) (y:List AV),(z && [y].isEmpty)=false:=by intro z y;cases z<;>rfl
    have e2:(i+1 == 0)=false:=by simp
    show Own _ _ (i+1 == 0) t' _ _
    rw [ez] at k3
    rw [e2]
    exact k3
  ·have ht:l.take i=l:=List.take_of_length_le (by omega)
   refine wr ?_
   refine ⟨s1,Sub.refl _,⟨t1,?_⟩,ho.sub⟩
   rw [ht]
   rfl
end Go.Proofs.YticnkpgmmpenlaaGreatDoor.Pr
namespace Go.Proofs.YticnkpgmmpenlaaGreatDoor.Tr
open Go Go.Ab Go.RowKit
variable {Γ:Nat→AV}
attribute [local irreducible] B7 Sto.set Sto.grow
theorem B08 (k:Int):B7 Tryz.prog Γ 28 [.int .i64 k] fun v=>v=.str (if k=1 then [105,110,116] else if k=2 then [115,116,114,105,110,103] else if k=3 then [98,111,111,108] else []):=by
 refine aps Tryz.func28 ?_
 intro s
 conv=>whnf
 repeat' ((first|(refine brS (fun h=>?_) (fun h=>?_)<;>(try rw [h])<;>(try simp only [bS,↓reduceIte] at h))|refine gS ?_|refine aA ?_|refine nA ?_|fail)<;>(conv=>whnf))
 all_goals simp [A20, *]
theorem A4y (k:Int):B7 Tryz.prog Γ 78 [.int .i64 k] fun v=>v=.bool (A1h k):=by
 refine aps Tryz.func78 ?_
 intro s
 refine wr ?_;(first|(refine A6.pure' ?_ (B08 _);rintro _ rfl)|refine C0.pure ?_ (B08 _));refine wr ?_
 all_goals refine C3 ?_
 all_goals grind [A1h]
theorem G4 (hT:Sc.Wds Γ) (x:Idn):B7 Tryz.prog Γ 74 [.agg (V7 x)] fun v=>v=.bool (P6 x):=by
 refine aps Tryz.func74 ?_
 intro s
 conv=>whnf
 intro b hb
 refine wr ?_;(first|(refine A6.pure' ?_ (Sc.Q0 hT _);rintro _ rfl)|refine C0.pure ?_ (Sc.Q0 hT _));refine wr ?_
 exact ⟨(Sub.refl _).set hb _ _,rfl⟩
def kA (k:Int):List AV:=[.int .i64 k]
def A4r (d:Nat × De):Bool:=P6 d.2.1 && d.2.2.all A1h
def A04 (q:Qu):Bool:=P6 q.2.1 && A1h q.2.2
def A3d (f:Fr):Bool:=P6 f.1 && W0 f.2
def Z2 (s:St):Bool:=P6 s.1
theorem B6i (hT:Sc.Wds Γ) (x:Ar):B7 Tryz.prog Γ 137 [.agg (arA x)] fun v=>v=.bool (A6a x):=by
 have hev:=B8s x.2.2.1 R5
 refine aps Tryz.func137 ?_
 intro s
 conv=>whnf
 intro b hb
 conv=>whnf
 repeat' ((first|exact pru|(refine brS (fun h=>?_) (fun h=>?_)<;>(try rw [h])<;>(try simp only [bS,↓reduceIte] at h))|(refine B6 A7 ?_)|(refine A6.pure' ?_ (A3z x.2.2.1);rintro _ rfl)|refine C0.pure ?_ (A3z x.2.2.1)|(refine P4.of B0s A6s ?_)|(refine A6.pure' ?_ (Sc.Q0 hT _);rintro _ rfl)|refine C0.pure ?_ (Sc.Q0 hT _)|refine gS ?_|refine aA ?_|refine nA ?_|fail)<;>(conv=>whnf))
 all_goals refine ⟨(Sub.refl _).set hb _ _,C3 ?_⟩
 all_goals (unfold A6a;rw [← hev])
 all_goals grind [R5]
theorem C8w {s:Sto} {b:Nat} {T0:TypeId} (u:Int) (hb:s.bx b=some (T0,[.func (.func 78) [] []])):A6 Tryz.prog Γ 124 [.int .i64 u,.ptr (some ⟨b,0,none⟩)] s fun v s'=>v=.bool (!A1h u)∧s'=s:=by
 refine acs Tryz.func124 ?_
 refine wr ?_;(first|(refine A6.pure' ?_ (A4y u);rintro _ rfl)|refine C0.pure ?_ (A4y u));refine wr ?_
 exact ⟨_,Sub.refl _,rfl,rfl⟩
theorem C0n {s:Sto} {b:Nat} {T0:TypeId} (t:Nat) (l:List (Int)) (hl:l.length≤100000) (hb:s.bx b=some (T0,[.func (.func 78) [] []])) :
  A6 Tryz.prog Γ 199 [.slice t (l.map kA),.func (.func 124) [] [.ptr (some ⟨b,0,none⟩)]] s fun v s'=>∃ r:Int,v=.int .i64 r∧decide (r ≥ 0) = !l.all A1h∧s'=s:=by
 have hml:(l.map kA).length=l.length:=List.length_map ..
 refine acs Tryz.func199 ?_
 conv=>whnf
 refine AWp.loopA [8] [9,10,5,11,12,13,14,15,16,17,4,18] (fun i:Nat=>[.int .i64 i]) (fun i s'=>i≤l.length∧s'=s∧l.all A1h=(l.drop i).all A1h) (fun i=>l.length - i) (0) (by kernel_rfl) (eqa) ?_ ?_
 ·exact ⟨by omega,rfl,by simp⟩
 ·rintro y i _ ⟨hi,rfl,hp⟩
  conv=>whnf
  have hga:=fun h:i < l.length=>C4 (f:=kA) (l:=l) 0 h
  have hd:=fun h:i < l.length=>J8 (p:=A1h) 0 h
  generalize l.getD i 0=u at *
  repeat' ((first|(refine brS (fun h=>?_) (fun h=>?_)<;>(try rw [h])<;>(try simp only [bS,↓reduceIte] at h))|(rw [show (l.map kA).getD ((i:Int)).toNat []=_ from hga (by omega)])|(refine A6.by (C8w u hb) ?_;rintro _ _ ⟨rfl,rfl⟩)|refine gS ?_|refine aA ?_|refine nA ?_|fail)<;>(conv=>whnf))
  ·refine ⟨_,Sub.refl _,i,rfl,?_,rfl⟩
   rw [hp,hd (by omega),h,decide_eq_true (by omega)];rfl
  ·refine ⟨i+1,eqa,C5,⟨by omega,rfl,?_⟩,by omega⟩
   rw [hp,hd (by omega),h,Bool.true_and]
  ·refine ⟨_,Sub.refl _,-1,rfl,?_,rfl⟩
   rw [hp,D5 (by omega)];rfl
theorem B3r {s:Sto} {b:Nat} {T0:TypeId} (t:Nat) (l:List (Int)) (hl:l.length≤100000) (hb:s.bx b=some (T0,[.func (.func 78) [] []])) :
  A6 Tryz.prog Γ 123 [.slice t (l.map kA),.func (.func 124) [] [.ptr (some ⟨b,0,none⟩)]] s fun v s'=>v=.bool (!l.all A1h)∧s'=s:=by
 refine acs Tryz.func123 ?_
 refine wr ?_;(refine A6.by (C0n t l hl hb) ?_;rintro _ _ ⟨r,rfl,hr,rfl⟩);refine wr ?_
 exact ⟨_,Sub.refl _,C3 hr,rfl⟩
theorem B4n (t:Nat) (l:List (Int)) (hl:l.length≤100000):B7 Tryz.prog Γ 77 [.slice t (l.map kA),.func (.func 78) [] []] fun v=>v=.bool (l.all A1h):=by
 refine aps Tryz.func77 ?_
 intro s
 conv=>whnf
 intro b hb
 refine wr ?_;(refine A6.by (B3r t l hl A7) ?_;rintro _ _ ⟨rfl,rfl⟩);refine wr ?_
 exact ⟨(Sub.refl _).set hb _ _,C3 (by simp)⟩
theorem D1w (hT:Sc.Wds Γ) {s:Sto} {b:Nat} {T0:TypeId} (u:Ar) (hb:s.bx b=some (T0,[.func (.func 137) [] []])):A6 Tryz.prog Γ 205 [.agg (arA u),.ptr (some ⟨b,0,none⟩)] s fun v s'=>v=.bool (!A6a u)∧s'=s:=by
 refine acs Tryz.func205 ?_
 conv=>whnf
 intro c hc
 conv=>whnf
 have hn:=A8 hb hc
 repeat' ((first|(refine brS (fun h=>?_) (fun h=>?_)<;>(try rw [h])<;>(try simp only [bS,↓reduceIte] at h))|(refine N1 hn (B6 hb ?_))|(refine B6 A7 ?_)|(refine A6.pure' ?_ (B6i hT u);rintro _ rfl)|refine C0.pure ?_ (B6i hT u)|refine gS ?_|refine aA ?_|refine nA ?_|fail)<;>(conv=>whnf))
 exact ⟨_,(Sub.refl _).set hc _ _,rfl,rfl⟩
theorem C2i (hT:Sc.Wds Γ) {s:Sto} {b:Nat} {T0:TypeId} (t:Nat) (l:List (Ar)) (hl:l.length≤100000) (hb:s.bx b=some (T0,[.func (.func 137) [] []])) :
  A6 Tryz.prog Γ 240 [.slice t (l.map arA),.func (.func 205) [] [.ptr (some ⟨b,0,none⟩)]] s fun v s'=>∃ r:Int,v=.int .i64 r∧decide (r ≥ 0) = !l.all A6a∧s'=s:=by
 have hml:(l.map arA).length=l.length:=List.length_map ..
 refine acs Tryz.func240 ?_
 conv=>whnf
 refine AWp.loopA [8] [9,10,5,11,12,13,14,15,16,17,4,18] (fun i:Nat=>[.int .i64 i]) (fun i s'=>i≤l.length∧s'=s∧l.all A6a=(l.drop i).all A6a) (fun i=>l.length - i) (0) (by kernel_rfl) (eqa) ?_ ?_
 ·exact ⟨by omega,rfl,by simp⟩
 ·rintro y i _ ⟨hi,rfl,hp⟩
  conv=>whnf
  have hga:=fun h:i < l.length=>C4 (f:=arA) (l:=l) A02 h
  have hd:=fun h:i < l.length=>J8 (p:=A6a) A02 h
  generalize l.getD i A02=u at *
  repeat' ((first|(refine brS (fun h=>?_) (fun h=>?_)<;>(try rw [h])<;>(try simp only [bS,↓reduceIte] at h))|(rw [show (l.map arA).getD ((i:Int)).toNat []=_ from hga (by omega)])|(refine A6.by (D1w hT u hb) ?_;rintro _ _ ⟨rfl,rfl⟩)|refine gS ?_|refine aA ?_|refine nA ?_|fail)<;>(conv=>whnf))
  ·refine ⟨_,Sub.refl _,i,rfl,?_,rfl⟩
   rw [hp,hd (by omega),h,decide_eq_true (by omega)];rfl
  ·refine ⟨i+1,eqa,C5,⟨by omega,rfl,?_⟩,by omega⟩
   rw [hp,hd (by omega),h,Bool.true_and]
  ·refine ⟨_,Sub.refl _,-1,rfl,?_,rfl⟩
   rw [hp,D5 (by omega)];rfl
theorem B4z (hT:Sc.Wds Γ) {s:Sto} {b:Nat} {T0:TypeId} (t:Nat) (l:List (Ar)) (hl:l.length≤100000) (hb:s.bx b=some (T0,[.func (.func 137) [] []])) :
  A6 Tryz.prog Γ 204 [.slice t (l.map arA),.func (.func 205) [] [.ptr (some ⟨b,0,none⟩)]] s fun v s'=>v=.bool (!l.all A6a)∧s'=s:=by
 refine acs Tryz.func204 ?_
 refine wr ?_;(refine A6.by (C2i hT t l hl hb) ?_;rintro _ _ ⟨r,rfl,hr,rfl⟩);refine wr ?_
 exact ⟨_,Sub.refl _,C3 hr,rfl⟩
theorem B76 (hT:Sc.Wds Γ) (t:Nat) (l:List (Ar)) (hl:l.length≤100000):B7 Tryz.prog Γ 136 [.slice t (l.map arA),.func (.func 137) [] []] fun v=>v=.bool (l.all A6a):=by
 refine aps Tryz.func136 ?_
 intro s
 conv=>whnf
 intro b hb
 refine wr ?_;(refine A6.by (B4z hT t l hl A7) ?_;rintro _ _ ⟨rfl,rfl⟩);refine wr ?_
 exact ⟨(Sub.refl _).set hb _ _,C3 (by simp)⟩
theorem A6t (hT:Sc.Wds Γ) (u:Nat × Sy) (hu:u.2.2.1.length≤100000):B7 Tryz.prog Γ 87 [.agg (syA u)] fun v=>v=.bool (A2z u):=by
 refine aps Tryz.func87 ?_
 intro s
 conv=>whnf
 intro b hb
 conv=>whnf
 repeat' ((first|(refine brS (fun h=>?_) (fun h=>?_)<;>(try rw [h])<;>(try simp only [bS,↓reduceIte] at h))|(refine B6 A7 ?_)|(refine A6.pure' ?_ (Sc.Q0 hT _);rintro _ rfl)|refine C0.pure ?_ (Sc.Q0 hT _)|(refine A6.pure' ?_ (B76 hT _ _ hu);rintro _ rfl)|refine C0.pure ?_ (B76 hT _ _ hu)|refine gS ?_|refine aA ?_|refine nA ?_|fail)<;>(conv=>whnf))
 all_goals refine ⟨(Sub.refl _).set hb _ _,C3 ?_⟩
 all_goals simp [A2z, *]
theorem D1y (hT:Sc.Wds Γ) {s:Sto} {b:Nat} {T0:TypeId} (u:Nat × Sy) (hu:u.2.2.1.length≤100000) (hb:s.bx b=some (T0,[.func (.func 87) [] []])):A6 Tryz.prog Γ 135 [.agg (syA u),.ptr (some ⟨b,0,none⟩)] s fun v s'=>v=.bool (!A2z u)∧s'=s:=by
 refine acs Tryz.func135 ?_
 conv=>whnf
 intro c hc
 conv=>whnf
 have hn:=A8 hb hc
 repeat' ((first|(refine brS (fun h=>?_) (fun h=>?_)<;>(try rw [h])<;>(try simp only [bS,↓reduceIte] at h))|(refine N1 hn (B6 hb ?_))|(refine B6 A7 ?_)|(refine A6.pure' ?_ (A6t hT u hu);rintro _ rfl)|refine C0.pure ?_ (A6t hT u hu)|refine gS ?_|refine aA ?_|refine nA ?_|fail)<;>(conv=>whnf))
 exact ⟨_,(Sub.refl _).set hc _ _,rfl,rfl⟩
theorem C2k (hT:Sc.Wds Γ) {s:Sto} {b:Nat} {T0:TypeId} (t:Nat) (l:List (Nat × Sy)) (hl:l.length≤100000) (hm:∀ x ∈ l,x.2.2.1.length≤100000) (hb:s.bx b=some (T0,[.func (.func 87) [] []])) :
  A6 Tryz.prog Γ 203 [.slice t (l.map syA),.func (.func 135) [] [.ptr (some ⟨b,0,none⟩)]] s fun v s'=>∃ r:Int,v=.int .i64 r∧decide (r ≥ 0) = !l.all A2z∧s'=s:=by
 have hml:(l.map syA).length=l.length:=List.length_map ..
 refine acs Tryz.func203 ?_
 conv=>whnf
 refine AWp.loopA [8] [9,10,5,11,12,13,14,15,16,17,4,18] (fun i:Nat=>[.int .i64 i]) (fun i s'=>i≤l.length∧s'=s∧l.all A2z=(l.drop i).all A2z) (fun i=>l.length - i) (0) (by kernel_rfl) (eqa) ?_ ?_
 ·exact ⟨by omega,rfl,by simp⟩
 ·rintro y i _ ⟨hi,rfl,hp⟩
  conv=>whnf
  have hga:=fun h:i < l.length=>C4 (f:=syA) (l:=l) Y9 h
  have hd:=fun h:i < l.length=>J8 (p:=A2z) Y9 h
  have hmx:=fun h:i < l.length=>hm _ (D9 Y9 h)
  generalize l.getD i Y9=u at *
  repeat' ((first|(refine brS (fun h=>?_) (fun h=>?_)<;>(try rw [h])<;>(try simp only [bS,↓reduceIte] at h))|(rw [show (l.map syA).getD ((i:Int)).toNat []=_ from hga (by omega)])|(refine A6.by (D1y hT u (hmx (by omega)) hb) ?_;rintro _ _ ⟨rfl,rfl⟩)|refine gS ?_|refine aA ?_|refine nA ?_|fail)<;>(conv=>whnf))
  ·refine ⟨_,Sub.refl _,i,rfl,?_,rfl⟩
   rw [hp,hd (by omega),h,decide_eq_true (by omega)];rfl
  ·refine ⟨i+1,eqa,C5,⟨by omega,rfl,?_⟩,by omega⟩
   rw [hp,hd (by omega),h,Bool.true_and]
  ·refine ⟨_,Sub.refl _,-1,rfl,?_,rfl⟩
   rw [hp,D5 (by omega)];rfl
theorem B41 (hT:Sc.Wds Γ) {s:Sto} {b:Nat} {T0:TypeId} (t:Nat) (l:List (Nat × Sy)) (hl:l.length≤100000) (hm:∀ x ∈ l,x.2.2.1.length≤100000) (hb:s.bx b=some (T0,[.func (.func 87) [] []])) :
  A6 Tryz.prog Γ 134 [.slice t (l.map syA),.func (.func 135) [] [.ptr (some ⟨b,0,none⟩)]] s fun v s'=>v=.bool (!l.all A2z)∧s'=s:=by
 refine acs Tryz.func134 ?_
 refine wr ?_;(refine A6.by (C2k hT t l hl hm hb) ?_;rintro _ _ ⟨r,rfl,hr,rfl⟩);refine wr ?_
 exact ⟨_,Sub.refl _,C3 hr,rfl⟩
theorem B78 (hT:Sc.Wds Γ) (t:Nat) (l:List (Nat × Sy)) (hl:l.length≤100000) (hm:∀ x ∈ l,x.2.2.1.length≤100000):B7 Tryz.prog Γ 86 [.slice t (l.map syA),.func (.func 87) [] []] fun v=>v=.bool (l.all A2z):=by
 refine aps Tryz.func86 ?_
 intro s
 conv=>whnf
 intro b hb
 refine wr ?_;(refine A6.by (B41 hT t l hl hm A7) ?_;rintro _ _ ⟨rfl,rfl⟩);refine wr ?_
 exact ⟨(Sub.refl _).set hb _ _,C3 (by simp)⟩
theorem B3c (hT:Sc.Wds Γ) (u:Nat × De) (hu:u.2.2.length≤100000):B7 Tryz.prog Γ 76 [.agg (deA u)] fun v=>v=.bool (A4r u):=by
 refine aps Tryz.func76 ?_
 intro s
 conv=>whnf
 intro b hb
 conv=>whnf
 repeat' ((first|(refine brS (fun h=>?_) (fun h=>?_)<;>(try rw [h])<;>(try simp only [bS,↓reduceIte] at h))|(refine B6 A7 ?_)|(refine A6.pure' ?_ (G4 hT u.2.1);rintro _ rfl)|refine C0.pure ?_ (G4 hT u.2.1)|(refine A6.pure' ?_ (B4n _ _ hu);rintro _ rfl)|refine C0.pure ?_ (B4n _ _ hu)|refine gS ?_|refine aA ?_|refine nA ?_|fail)<;>(conv=>whnf))
 all_goals refine ⟨(Sub.refl _).set hb _ _,C3 ?_⟩
 all_goals simp [A4r, *]
theorem C8u (hT:Sc.Wds Γ) {s:Sto} {b:Nat} {T0:TypeId} (u:Nat × De) (hu:u.2.2.length≤100000) (hb:s.bx b=some (T0,[.func (.func 76) [] []])):A6 Tryz.prog Γ 122 [.agg (deA u),.ptr (some ⟨b,0,none⟩)] s fun v s'=>v=.bool (!A4r u)∧s'=s:=by
 refine acs Tryz.func122 ?_
 conv=>whnf
 intro c hc
 conv=>whnf
 have hn:=A8 hb hc
 repeat' ((first|(refine brS (fun h=>?_) (fun h=>?_)<;>(try rw [h])<;>(try simp only [bS,↓reduceIte] at h))|(refine N1 hn (B6 hb ?_))|(refine B6 A7 ?_)|(refine A6.pure' ?_ (B3c hT u hu);rintro _ rfl)|refine C0.pure ?_ (B3c hT u hu)|refine gS ?_|refine aA ?_|refine nA ?_|fail)<;>(conv=>whnf))
 exact ⟨_,(Sub.refl _).set hc _ _,rfl,rfl⟩
theorem C0l (hT:Sc.Wds Γ) {s:Sto} {b:Nat} {T0:TypeId} (t:Nat) (l:List (Nat × De)) (hl:l.length≤100000) (hm:∀ x ∈ l,x.2.2.length≤100000) (hb:s.bx b=some (T0,[.func (.func 76) [] []])) :
  A6 Tryz.prog Γ 198 [.slice t (l.map deA),.func (.func 122) [] [.ptr (some ⟨b,0,none⟩)]] s fun v s'=>∃ r:Int,v=.int .i64 r∧decide (r ≥ 0) = !l.all A4r∧s'=s:=by
 have hml:(l.map deA).length=l.length:=List.length_map ..
 refine acs Tryz.func198 ?_
 conv=>whnf
 refine AWp.loopA [8] [9,10,5,11,12,13,14,15,16,17,4,18] (fun i:Nat=>[.int .i64 i]) (fun i s'=>i≤l.length∧s'=s∧l.all A4r=(l.drop i).all A4r) (fun i=>l.length - i) (0) (by kernel_rfl) (eqa) ?_ ?_
 ·exact ⟨by omega,rfl,by simp⟩
 ·rintro y i _ ⟨hi,rfl,hp⟩
  conv=>whnf
  have hga:=fun h:i < l.length=>C4 (f:=deA) (l:=l) A0f h
  have hd:=fun h:i < l.length=>J8 (p:=A4r) A0f h
  have hmx:=fun h:i < l.length=>hm _ (D9 A0f h)
  generalize l.getD i A0f=u at *
  repeat' ((first|(refine brS (fun h=>?_) (fun h=>?_)<;>(try rw [h])<;>(try simp only [bS,↓reduceIte] at h))|(rw [show (l.map deA).getD ((i:Int)).toNat []=_ from hga (by omega)])|(refine A6.by (C8u hT u (hmx (by omega)) hb) ?_;rintro _ _ ⟨rfl,rfl⟩)|refine gS ?_|refine aA ?_|refine nA ?_|fail)<;>(conv=>whnf))
  ·refine ⟨_,Sub.refl _,i,rfl,?_,rfl⟩
   rw [hp,hd (by omega),h,decide_eq_true (by omega)];rfl
  ·refine ⟨i+1,eqa,C5,⟨by omega,rfl,?_⟩,by omega⟩
   rw [hp,hd (by omega),h,Bool.true_and]
  ·refine ⟨_,Sub.refl _,-1,rfl,?_,rfl⟩
   rw [hp,D5 (by omega)];rfl
theorem B3p (hT:Sc.Wds Γ) {s:Sto} {b:Nat} {T0:TypeId} (t:Nat) (l:List (Nat × De)) (hl:l.length≤100000) (hm:∀ x ∈ l,x.2.2.length≤100000) (hb:s.bx b=some (T0,[.func (.func 76) [] []])) :
  A6 Tryz.prog Γ 121 [.slice t (l.map deA),.func (.func 122) [] [.ptr (some ⟨b,0,none⟩)]] s fun v s'=>v=.bool (!l.all A4r)∧s'=s:=by
 refine acs Tryz.func121 ?_
 refine wr ?_;(refine A6.by (C0l hT t l hl hm hb) ?_;rintro _ _ ⟨r,rfl,hr,rfl⟩);refine wr ?_
 exact ⟨_,Sub.refl _,C3 hr,rfl⟩
theorem B4l (hT:Sc.Wds Γ) (t:Nat) (l:List (Nat × De)) (hl:l.length≤100000) (hm:∀ x ∈ l,x.2.2.length≤100000):B7 Tryz.prog Γ 75 [.slice t (l.map deA),.func (.func 76) [] []] fun v=>v=.bool (l.all A4r):=by
 refine aps Tryz.func75 ?_
 intro s
 conv=>whnf
 intro b hb
 refine wr ?_;(refine A6.by (B3p hT t l hl hm A7) ?_;rintro _ _ ⟨rfl,rfl⟩);refine wr ?_
 exact ⟨(Sub.refl _).set hb _ _,C3 (by simp)⟩
theorem B09 (hT:Sc.Wds Γ) (u:Qu):B7 Tryz.prog Γ 80 [.agg (quA u)] fun v=>v=.bool (A04 u):=by
 refine aps Tryz.func80 ?_
 intro s
 conv=>whnf
 intro b hb
 conv=>whnf
 repeat' ((first|(refine brS (fun h=>?_) (fun h=>?_)<;>(try rw [h])<;>(try simp only [bS,↓reduceIte] at h))|(refine B6 A7 ?_)|(refine A6.pure' ?_ (G4 hT u.2.1);rintro _ rfl)|refine C0.pure ?_ (G4 hT u.2.1)|(refine A6.pure' ?_ (A4y _);rintro _ rfl)|refine C0.pure ?_ (A4y _)|refine gS ?_|refine aA ?_|refine nA ?_|fail)<;>(conv=>whnf))
 all_goals refine ⟨(Sub.refl _).set hb _ _,C3 ?_⟩
 all_goals simp [A04, *]
theorem C4x (hT:Sc.Wds Γ) {s:Sto} {b:Nat} {T0:TypeId} (u:Qu) (hb:s.bx b=some (T0,[.func (.func 80) [] []])):A6 Tryz.prog Γ 126 [.agg (quA u),.ptr (some ⟨b,0,none⟩)] s fun v s'=>v=.bool (!A04 u)∧s'=s:=by
 refine acs Tryz.func126 ?_
 conv=>whnf
 intro c hc
 conv=>whnf
 have hn:=A8 hb hc
 repeat' ((first|(refine brS (fun h=>?_) (fun h=>?_)<;>(try rw [h])<;>(try simp only [bS,↓reduceIte] at h))|(refine N1 hn (B6 hb ?_))|(refine B6 A7 ?_)|(refine A6.pure' ?_ (B09 hT u);rintro _ rfl)|refine C0.pure ?_ (B09 hT u)|refine gS ?_|refine aA ?_|refine nA ?_|fail)<;>(conv=>whnf))
 exact ⟨_,(Sub.refl _).set hc _ _,rfl,rfl⟩
theorem B7v (hT:Sc.Wds Γ) {s:Sto} {b:Nat} {T0:TypeId} (t:Nat) (l:List (Qu)) (hl:l.length≤100000) (hb:s.bx b=some (T0,[.func (.func 80) [] []])) :
  A6 Tryz.prog Γ 200 [.slice t (l.map quA),.func (.func 126) [] [.ptr (some ⟨b,0,none⟩)]] s fun v s'=>∃ r:Int,v=.int .i64 r∧decide (r ≥ 0) = !l.all A04∧s'=s:=by
 have hml:(l.map quA).length=l.length:=List.length_map ..
 refine acs Tryz.func200 ?_
 conv=>whnf
 refine AWp.loopA [8] [9,10,5,11,12,13,14,15,16,17,4,18] (fun i:Nat=>[.int .i64 i]) (fun i s'=>i≤l.length∧s'=s∧l.all A04=(l.drop i).all A04) (fun i=>l.length - i) (0) (by kernel_rfl) (eqa) ?_ ?_
 ·exact ⟨by omega,rfl,by simp⟩
 ·rintro y i _ ⟨hi,rfl,hp⟩
  conv=>whnf
  have hga:=fun h:i < l.length=>C4 (f:=quA) (l:=l) A15 h
  have hd:=fun h:i < l.length=>J8 (p:=A04) A15 h
  generalize l.getD i A15=u at *
  repeat' ((first|(refine brS (fun h=>?_) (fun h=>?_)<;>(try rw [h])<;>(try simp only [bS,↓reduceIte] at h))|(rw [show (l.map quA).getD ((i:Int)).toNat []=_ from hga (by omega)])|(refine A6.by (C4x hT u hb) ?_;rintro _ _ ⟨rfl,rfl⟩)|refine gS ?_|refine aA ?_|refine nA ?_|fail)<;>(conv=>whnf))
  ·refine ⟨_,Sub.refl _,i,rfl,?_,rfl⟩
   rw [hp,hd (by omega),h,decide_eq_true (by omega)];rfl
  ·refine ⟨i+1,eqa,C5,⟨by omega,rfl,?_⟩,by omega⟩
   rw [hp,hd (by omega),h,Bool.true_and]
  ·refine ⟨_,Sub.refl _,-1,rfl,?_,rfl⟩
   rw [hp,D5 (by omega)];rfl
theorem B11 (hT:Sc.Wds Γ) {s:Sto} {b:Nat} {T0:TypeId} (t:Nat) (l:List (Qu)) (hl:l.length≤100000) (hb:s.bx b=some (T0,[.func (.func 80) [] []])) :
  A6 Tryz.prog Γ 125 [.slice t (l.map quA),.func (.func 126) [] [.ptr (some ⟨b,0,none⟩)]] s fun v s'=>v=.bool (!l.all A04)∧s'=s:=by
 refine acs Tryz.func125 ?_
 refine wr ?_;(refine A6.by (B7v hT t l hl hb) ?_;rintro _ _ ⟨r,rfl,hr,rfl⟩);refine wr ?_
 exact ⟨_,Sub.refl _,C3 hr,rfl⟩
theorem B2v (hT:Sc.Wds Γ) (t:Nat) (l:List (Qu)) (hl:l.length≤100000):B7 Tryz.prog Γ 79 [.slice t (l.map quA),.func (.func 80) [] []] fun v=>v=.bool (l.all A04):=by
 refine aps Tryz.func79 ?_
 intro s
 conv=>whnf
 intro b hb
 refine wr ?_;(refine A6.by (B11 hT t l hl A7) ?_;rintro _ _ ⟨rfl,rfl⟩);refine wr ?_
 exact ⟨(Sub.refl _).set hb _ _,C3 (by simp)⟩
theorem B3d (hT:Sc.Wds Γ) (u:Fr):B7 Tryz.prog Γ 82 [.agg (frA u)] fun v=>v=.bool (A3d u):=by
 refine aps Tryz.func82 ?_
 intro s
 conv=>whnf
 intro b hb
 conv=>whnf
 repeat' ((first|(refine brS (fun h=>?_) (fun h=>?_)<;>(try rw [h])<;>(try simp only [bS,↓reduceIte] at h))|(refine B6 A7 ?_)|(refine A6.pure' ?_ (G4 hT u.1);rintro _ rfl)|refine C0.pure ?_ (G4 hT u.1)|(refine A6.pure' ?_ (A3z u.2);rintro _ rfl)|refine C0.pure ?_ (A3z u.2)|refine gS ?_|refine aA ?_|refine nA ?_|fail)<;>(conv=>whnf))
 all_goals refine ⟨(Sub.refl _).set hb _ _,C3 ?_⟩
 all_goals simp [A3d, *]
theorem C8v (hT:Sc.Wds Γ) {s:Sto} {b:Nat} {T0:TypeId} (u:Fr) (hb:s.bx b=some (T0,[.func (.func 82) [] []])):A6 Tryz.prog Γ 128 [.agg (frA u),.ptr (some ⟨b,0,none⟩)] s fun v s'=>v=.bool (!A3d u)∧s'=s:=by
 refine acs Tryz.func128 ?_
 conv=>whnf
 intro c hc
 conv=>whnf
 have hn:=A8 hb hc
 repeat' ((first|(refine brS (fun h=>?_) (fun h=>?_)<;>(try rw [h])<;>(try simp only [bS,↓reduceIte] at h))|(refine N1 hn (B6 hb ?_))|(refine B6 A7 ?_)|(refine A6.pure' ?_ (B3d hT u);rintro _ rfl)|refine C0.pure ?_ (B3d hT u)|refine gS ?_|refine aA ?_|refine nA ?_|fail)<;>(conv=>whnf))
 exact ⟨_,(Sub.refl _).set hc _ _,rfl,rfl⟩
theorem C0m (hT:Sc.Wds Γ) {s:Sto} {b:Nat} {T0:TypeId} (t:Nat) (l:List (Fr)) (hl:l.length≤100000) (hb:s.bx b=some (T0,[.func (.func 82) [] []])) :
  A6 Tryz.prog Γ 201 [.slice t (l.map frA),.func (.func 128) [] [.ptr (some ⟨b,0,none⟩)]] s fun v s'=>∃ r:Int,v=.int .i64 r∧decide (r ≥ 0) = !l.all A3d∧s'=s:=by
 have hml:(l.map frA).length=l.length:=List.length_map ..
 refine acs Tryz.func201 ?_
 conv=>whnf
 refine AWp.loopA [8] [9,10,5,11,12,13,14,15,16,17,4,18] (fun i:Nat=>[.int .i64 i]) (fun i s'=>i≤l.length∧s'=s∧l.all A3d=(l.drop i).all A3d) (fun i=>l.length - i) (0) (by kernel_rfl) (eqa) ?_ ?_
 ·exact ⟨by omega,rfl,by simp⟩
 ·rintro y i _ ⟨hi,rfl,hp⟩
  conv=>whnf
  have hga:=fun h:i < l.length=>C4 (f:=frA) (l:=l) A1d h
  have hd:=fun h:i < l.length=>J8 (p:=A3d) A1d h
  generalize l.getD i A1d=u at *
  repeat' ((first|(refine brS (fun h=>?_) (fun h=>?_)<;>(try rw [h])<;>(try simp only [bS,↓reduceIte] at h))|(rw [show (l.map frA).getD ((i:Int)).toNat []=_ from hga (by omega)])|(refine A6.by (C8v hT u hb) ?_;rintro _ _ ⟨rfl,rfl⟩)|refine gS ?_|refine aA ?_|refine nA ?_|fail)<;>(conv=>whnf))
  ·refine ⟨_,Sub.refl _,i,rfl,?_,rfl⟩
   rw [hp,hd (by omega),h,decide_eq_true (by omega)];rfl
  ·refine ⟨i+1,eqa,C5,⟨by omega,rfl,?_⟩,by omega⟩
   rw [hp,hd (by omega),h,Bool.true_and]
  ·refine ⟨_,Sub.refl _,-1,rfl,?_,rfl⟩
   rw [hp,D5 (by omega)];rfl
theorem B3q (hT:Sc.Wds Γ) {s:Sto} {b:Nat} {T0:TypeId} (t:Nat) (l:List (Fr)) (hl:l.length≤100000) (hb:s.bx b=some (T0,[.func (.func 82) [] []])) :
  A6 Tryz.prog Γ 127 [.slice t (l.map frA),.func (.func 128) [] [.ptr (some ⟨b,0,none⟩)]] s fun v s'=>v=.bool (!l.all A3d)∧s'=s:=by
 refine acs Tryz.func127 ?_
 refine wr ?_;(refine A6.by (C0m hT t l hl hb) ?_;rintro _ _ ⟨r,rfl,hr,rfl⟩);refine wr ?_
 exact ⟨_,Sub.refl _,C3 hr,rfl⟩
theorem B4m (hT:Sc.Wds Γ) (t:Nat) (l:List (Fr)) (hl:l.length≤100000):B7 Tryz.prog Γ 81 [.slice t (l.map frA),.func (.func 82) [] []] fun v=>v=.bool (l.all A3d):=by
 refine aps Tryz.func81 ?_
 intro s
 conv=>whnf
 intro b hb
 refine wr ?_;(refine A6.by (B3q hT t l hl A7) ?_;rintro _ _ ⟨rfl,rfl⟩);refine wr ?_
 exact ⟨(Sub.refl _).set hb _ _,C3 (by simp)⟩
theorem B1c (hT:Sc.Wds Γ) (u:St):B7 Tryz.prog Γ 85 [.agg (stA u)] fun v=>v=.bool (Z2 u):=by
 refine aps Tryz.func85 ?_
 intro s
 conv=>whnf
 intro b hb
 refine wr ?_;(first|(refine A6.pure' ?_ (G4 hT u.1);rintro _ rfl)|refine C0.pure ?_ (G4 hT u.1));refine wr ?_
 all_goals refine ⟨(Sub.refl _).set hb _ _,C3 ?_⟩
 all_goals simp [Z2, *]
theorem C4y (hT:Sc.Wds Γ) {s:Sto} {b:Nat} {T0:TypeId} (u:St) (hb:s.bx b=some (T0,[.func (.func 85) [] []])):A6 Tryz.prog Γ 133 [.agg (stA u),.ptr (some ⟨b,0,none⟩)] s fun v s'=>v=.bool (!Z2 u)∧s'=s:=by
 refine acs Tryz.func133 ?_
 conv=>whnf
 intro c hc
 conv=>whnf
 have hn:=A8 hb hc
 repeat' ((first|(refine brS (fun h=>?_) (fun h=>?_)<;>(try rw [h])<;>(try simp only [bS,↓reduceIte] at h))|(refine N1 hn (B6 hb ?_))|(refine B6 A7 ?_)|(refine A6.pure' ?_ (B1c hT u);rintro _ rfl)|refine C0.pure ?_ (B1c hT u)|refine gS ?_|refine aA ?_|refine nA ?_|fail)<;>(conv=>whnf))
 exact ⟨_,(Sub.refl _).set hc _ _,rfl,rfl⟩
theorem B7w (hT:Sc.Wds Γ) {s:Sto} {b:Nat} {T0:TypeId} (t:Nat) (l:List (St)) (hl:l.length≤100000) (hb:s.bx b=some (T0,[.func (.func 85) [] []])) :
  A6 Tryz.prog Γ 202 [.slice t (l.map stA),.func (.func 133) [] [.ptr (some ⟨b,0,none⟩)]] s fun v s'=>∃ r:Int,v=.int .i64 r∧decide (r ≥ 0) = !l.all Z2∧s'=s:=by
 have hml:(l.map stA).length=l.length:=List.length_map ..
 refine acs Tryz.func202 ?_
 conv=>whnf
 refine AWp.loopA [8] [9,10,5,11,12,13,14,15,16,17,4,18] (fun i:Nat=>[.int .i64 i]) (fun i s'=>i≤l.length∧s'=s∧l.all Z2=(l.drop i).all Z2) (fun i=>l.length - i) (0) (by kernel_rfl) (eqa) ?_ ?_
 ·exact ⟨by omega,rfl,by simp⟩
 ·rintro y i _ ⟨hi,rfl,hp⟩
  conv=>whnf
  have hga:=fun h:i < l.length=>C4 (f:=stA) (l:=l) A16 h
  have hd:=fun h:i < l.length=>J8 (p:=Z2) A16 h
  generalize l.getD i A16=u at *
  repeat' ((first|(refine brS (fun h=>?_) (fun h=>?_)<;>(try rw [h])<;>(try simp only [bS,↓reduceIte] at h))|(rw [show (l.map stA).getD ((i:Int)).toNat []=_ from hga (by omega)])|(refine A6.by (C4y hT u hb) ?_;rintro _ _ ⟨rfl,rfl⟩)|refine gS ?_|refine aA ?_|refine nA ?_|fail)<;>(conv=>whnf))
  ·refine ⟨_,Sub.refl _,i,rfl,?_,rfl⟩
   rw [hp,hd (by omega),h,decide_eq_true (by omega)];rfl
  ·refine ⟨i+1,eqa,C5,⟨by omega,rfl,?_⟩,by omega⟩
   rw [hp,hd (by omega),h,Bool.true_and]
  ·refine ⟨_,Sub.refl _,-1,rfl,?_,rfl⟩
   rw [hp,D5 (by omega)];rfl
theorem B12 (hT:Sc.Wds Γ) {s:Sto} {b:Nat} {T0:TypeId} (t:Nat) (l:List (St)) (hl:l.length≤100000) (hb:s.bx b=some (T0,[.func (.func 85) [] []])) :
  A6 Tryz.prog Γ 132 [.slice t (l.map stA),.func (.func 133) [] [.ptr (some ⟨b,0,none⟩)]] s fun v s'=>v=.bool (!l.all Z2)∧s'=s:=by
 refine acs Tryz.func132 ?_
 refine wr ?_;(refine A6.by (B7w hT t l hl hb) ?_;rintro _ _ ⟨r,rfl,hr,rfl⟩);refine wr ?_
 exact ⟨_,Sub.refl _,C3 hr,rfl⟩
theorem B2w (hT:Sc.Wds Γ) (t:Nat) (l:List (St)) (hl:l.length≤100000):B7 Tryz.prog Γ 84 [.slice t (l.map stA),.func (.func 85) [] []] fun v=>v=.bool (l.all Z2):=by
 refine aps Tryz.func84 ?_
 intro s
 conv=>whnf
 intro b hb
 refine wr ?_;(refine A6.by (B12 hT t l hl A7) ?_;rintro _ _ ⟨rfl,rfl⟩);refine wr ?_
 exact ⟨(Sub.refl _).set hb _ _,C3 (by simp)⟩
end Go.Proofs.YticnkpgmmpenlaaGreatDoor.Tr
namespace Go.Proofs.YticnkpgmmpenlaaGreatDoor.Sc
open Go Go.Ab Go.RowKit
variable {Γ:Nat→AV}
abbrev D:=List UInt8 × Nat × List Int
theorem A51 {G:Gh} {W:World} {b:Nat}:∀ (xs:List (List UInt8)) (o:Nat) (k:Nat),E2 G W k b o (D3 xs)→xs≠[]→k=1∧∀ (j:Nat) (x:List UInt8),xs[j]?=some x→W.cell? ⟨b,o+j,none⟩=some (.string ⟨x.toArray⟩)
 | [],_,_,_,h=>absurd rfl h
 | x::xs,o,k,h,_=>by
  have h:E2 G W k b o ([.str x]::D3 xs):=h
  unfold E2 at h
  obtain ⟨hk,hc,hs⟩:=h
  have hk:k=1:=hk.symm
  subst hk
  refine ⟨rfl,fun j y hj=>?_⟩
  cases j with
  | zero =>
   simp only [List.getElem?_cons_zero,Option.some.injEq] at hj
   subst hj
   unfold D6 at hc
   obtain ⟨_,⟨u,hu,hR⟩,_⟩:=hc
   rw [K4] at hR
   subst hR
   exact hu
  | succ j =>
   by_cases hx:xs=[]
   ·subst hx;simp at hj
   ·have:=(A51 xs (o+1) 1 hs hx).2 j y (by simpa using hj)
    rwa [show o+(j+1)=o+1+j by omega]
theorem A6m (t:Nat) (xs:List (List UInt8)) (sep:List UInt8) (hN:xs.length≤140737488355328) (hlen:(Lib.join xs sep).length≤140737488355328) :
  B7 Tryz.prog Γ 38 [.slice t (D3 xs),.str sep] fun v=>v=.str (Lib.join xs sep):=by
 intro s
 refine A6.of_below fun G w vs hm hr=>?_
 obtain ⟨u,us,rfl,hu,hus⟩:=B8.1 hr
 obtain ⟨u1,us1,rfl,hu1,hus1⟩:=B8.1 hus
 rw [C2] at hus1;subst hus1
 rw [K4] at hu1;subst hu1
 obtain ⟨a,cap,rfl,hcap,hnil,hels,_⟩:=L7 hu
 rw [A18] at *
 by_cases hx:xs=[]
 ·subst hx
  refine ⟨_,fun G' w'=>K4.2 rfl,(Tryz.strings_Join_none a cap ⟨sep.toArray⟩ w).mono ?_⟩
  rintro e w' ⟨rfl,rfl⟩
  exact ⟨rfl,Below.refl _ _⟩
 ·obtain ⟨b,o,k,rfl,hel⟩:=hels (by intro hn;have:=congrArg List.length hn;rw [A18] at this;exact hx (List.eq_nil_of_length_eq_zero this))
  have hc:=(A51 xs o k hel hx).2
  have hmap:(xs.map fun l=>(⟨l.toArray⟩:ByteArray)).map (·.data.toList)=xs:=by
   rw [List.map_map]
   show xs.map (fun l=>l.toArray.toList)=xs
   simp
  have hj:=Tryz.strings_Join b o cap (xs.map fun l=>(⟨l.toArray⟩:ByteArray)) ⟨sep.toArray⟩ w (fun j x hjx=>by
    rw [List.getElem?_map] at hjx
    obtain ⟨l,hl,rfl⟩:=Option.map_eq_some_iff.1 hjx
    exact hc j l hl) (by
    obtain ⟨x,hx0⟩:∃ x,xs[0]?=some x:=by cases xs with
     | nil=>exact absurd rfl hx
     | cons x l=>exact ⟨x,rfl⟩
    exact (B3x (hc 0 x hx0)).1) (by simpa using hN) (by simpa using hcap) (by rw [hmap];exact hlen)
  rw [hmap,List.length_map] at hj
  exact ⟨_,fun G' w'=>K4.2 rfl,hj⟩
attribute [local irreducible] B7 Sto.set Sto.grow
def A4c (k:Int):List UInt8:=if k=1 then [105,110,116] else if k=2 then [115,116,114,105,110,103] else if k=3 then [98,111,111,108] else []
theorem B5s (k:Int):B7 Tryz.prog Γ 28 [.int .i64 k] fun v=>v=.str (A4c k):=by
 refine aps Tryz.func28 ?_
 intro s
 conv=>whnf
 repeat' (first
  | (refine ⟨Sub.refl _,?_⟩)
  | (refine E7 (fun h=>?_) (fun h=>?_)<;>(try rw [h])<;>(try simp only [Bool.false_eq_true,Bool.true_eq_false,↓reduceIte,decide_eq_true_eq,decide_eq_false_iff_not,Bool.not_eq_true',Bool.not_eq_false'] at h)<;>(conv=>whnf))
  | (refine E1 ?_;conv=>whnf)
  | (refine AWp.any (by kernel_rfl) (by kernel_rfl) (by kernel_rfl) ?_;conv=>whnf)
  | (apply And.intro;(focus (first|omega|rfl|decide|exact Nat.le_of_ble_eq_true rfl|((repeat' (first|exact all_nil|refine all_cons ?_ ?_|rfl|fail));done)|(simp [-List.length_flatMap];done)|(simp [-List.length_flatMap];omega)|fail));conv=>whnf)
  | fail)
 all_goals simp [A20,A4c, *]
def A3b (l:List D):Prop:=l.length≤140737488355328∧∀ d ∈ l,d.1.length≤9223372036854775807∧d.2.2.length≤140737488355328
def D6x (nm:List UInt8) (ks:List Int):List UInt8:=nm++[40]++Lib.join (ks.map A4c) [44,32]++[41]
theorem B81 (k:Int):(A4c k).length≤6:=by
 unfold A4c
 split
 ·decide
 ·split
  ·decide
  ·split<;>decide
theorem D2d (sep x y:List UInt8) (r:List (List UInt8)):Lib.join (x::y::r) sep=x++sep++Lib.join (y::r) sep:=by
 simp [Lib.join,List.intercalate,List.intersperse]
theorem C2p (sep:List UInt8):∀ l:List Int,(Lib.join (l.map A4c) sep).length≤(6+sep.length) * l.length
 | []=>by simp [Lib.join,List.intercalate]
 | [x]=>by
  have:=B81 x
  simp [Lib.join,List.intercalate];omega
 | x::y::l=>by
  have:=B81 x
  have ih:=C2p sep (y::l)
  simp only [List.map_cons] at ih ⊢
  rw [D2d]
  simp only [List.length_append,List.length_cons] at ih ⊢
  rw [Nat.mul_succ]
  omega
theorem C3d (nm:List UInt8) (tk:Nat) (ks:List Int) (h1:nm.length≤1048576) (h2:ks.length≤1048576) :
  B7 Tryz.prog Γ 24 [.agg [.str nm,.slice tk (G6 .i64 ks)]] fun v=>v=.str (D6x nm ks):=by
 have hbl:=M1 .i64 ks
 refine aps Tryz.func24 ?_
 intro s
 conv=>whnf
 intro b hb
 refine wr ?_
 refine AWp.loopA [3,9] [10,11,12,5,13,14,15,16,17,18] (fun x:Nat × Nat=>[.slice x.2 (D3 ((ks.take x.1).map A4c)),.int .i64 x.1]) (fun x s'=>x.1≤ks.length∧Own (s.set b 71 [.str nm,.slice tk (G6 .i64 ks)]) s' (x.1 == 0) x.2 9 1) (fun x=>ks.length - x.1) ((0,1)) (by kernel_rfl) (by (repeat' (first|refine C1 ?_ ?_|refine E3 ?_ ?_ ?_|rfl|omega))) ?_ ?_
 ·exact ⟨by simp,Own.nil _ _ _⟩
 ·rintro y ⟨i,t⟩ s' ⟨hi,ho⟩
  simp only at hi ho
  conv=>whnf
  repeat' (first
   | (refine ⟨Sub.refl _,?_⟩)
   | (refine E7 (fun h=>?_) (fun h=>?_)<;>(try rw [h])<;>(try simp only [Bool.false_eq_true,Bool.true_eq_false,↓reduceIte,decide_eq_true_eq,decide_eq_false_iff_not,Bool.not_eq_true',Bool.not_eq_false'] at h)<;>(conv=>whnf))
   | (rw [A5r (i:=(i:Int).toNat) (by omega)];conv=>whnf)
   | (refine A6.pure' ?_ (B5s _);rintro _ rfl;conv=>whnf)
   | (refine C0.pure ?_ (B5s _);conv=>whnf)
   | (refine E1 ?_;conv=>whnf)
   | (refine AWp.any (by kernel_rfl) (by kernel_rfl) (by kernel_rfl) ?_;conv=>whnf)
   | (apply And.intro;(focus (first|omega|rfl|decide|exact Nat.le_of_ble_eq_true rfl|((repeat' (first|exact all_nil|refine all_cons ?_ ?_|rfl|fail));done)|(simp [-List.length_flatMap];done)|(simp [-List.length_flatMap];omega)|fail));conv=>whnf)
   | fail)
  ·simp only [Int.toNat_natCast]
   have hn:((ks.take i).map A4c).length=i:=by simp;omega
   have hsl:=A18 ((ks.take i).map A4c)
   refine ⟨ho.may,fun c hc=>by obtain ⟨x,_,rfl⟩:=List.mem_map.1 hc;rfl,all_cons ⟨rfl,rfl⟩ all_nil,?_,?_⟩
   ·show ((D3 ((ks.take i).map A4c)).length+1) * (16+1)≤_
    rw [hsl,hn];omega
   intro t' k1 k2
   have k3:=ho.grow k1 k2
   conv=>whnf
   refine ⟨(i+1,t'),?_,by (repeat (first|exact L0.refl _ _|refine L0.upd rfl ?_|refine L0.updL rfl ?_|refine L0.havoc rfl ?_)),⟨by simp only;omega,?_⟩,by simp only;omega⟩
   ·refine C1 ?_ (C1 (show AV.int .i64 (IntKind.i64.wrap ((i:Int)+1))=.int .i64 ((i+1:Nat):Int) from E3 (by omega) (by omega) (by omega)) rfl)
    show AV.slice t' _=AV.slice t' _
    congr 1
    rw [show ks.take (i+1)=ks.take i++[ks.getD i 0] by rw [List.take_add_one];simp [List.getD,show i < ks.length by omega]]
    simp [D3]
   ·have e:((i+1,t').1 == 0)=((i == 0) && [[AV.str (A4c (ks.getD i 0))]].isEmpty):=by simp
    rw [e]
    exact k3
  ·have ht:ks.take i=ks:=List.take_of_length_le (by omega)
   rw [ht] at *
   have hj:(Lib.join (ks.map A4c) [44,32]).length≤16777216:=by
    have:=C2p [44,32] ks
    simp only [List.length_cons,List.length_nil] at this
    omega
   refine B6 (ho.sub.bx _ _ A7) ?_
   refine wr ?_;(first|(refine A6.pure' ?_ (A6m _ _ _ (by simp;omega) (by simp only [Int.toNat_natCast] at *;omega));rintro _ rfl)|refine C0.pure ?_ (A6m _ _ _ (by simp;omega) (by simp only [Int.toNat_natCast] at *;omega)));refine wr ?_
   exact ⟨((Sub.refl _).set hb _ _).trans ho.sub,rfl⟩
end Go.Proofs.YticnkpgmmpenlaaGreatDoor.Sc
namespace Go.Proofs.YticnkpgmmpenlaaGreatDoor.Pr
open Go Go.Ab Go.RowKit Go.Proofs.YticnkpgmmpenlaaGreatDoor.Lx Go.Proofs.YticnkpgmmpenlaaGreatDoor.Pa
variable {Γ:Nat→AV}
attribute [local irreducible] B7 Sto.set Sto.grow
theorem D46 (hT:Qu.A10 Γ) (hN:Nu.A7g Γ) (a:Tr.Ar) (ha:C37 a):B7 Tryz.prog Γ 46 [.agg (Tr.arA a)] fun v=>v=.str (A0w a):=by
 obtain ⟨ak,an,av,al,ac⟩:=a
 rcases ha with ⟨h1,h2,h3,h4⟩|⟨h1,h2,h3⟩|⟨h1,h2,h3⟩
 ·simp only at h1 h2 h3 h4
  subst h1
  obtain ⟨_,v2,v3⟩:=W1 h3 h4
  have htx:=Va.B2s hT hN av h4 (by omega)
  rw [← v3] at htx
  obtain ⟨vk,vi,vs,vb⟩:=av
  simp only [Va.vlA] at htx
  simp only [Tr.arA]
  refine aps Tryz.func46 ?_
  intro s
  conv=>whnf
  intro b1 hb1
  have k_b1:=hb1
  repeat replace k_b1:=E6 k_b1
  refine wr ?_
  all_goals exact ⟨A4n,rfl⟩
 ·simp only at h1
  subst h1
  simp only [Tr.arA]
  refine aps Tryz.func46 ?_
  intro s
  conv=>whnf
  intro b1 hb1
  have k_b1:=hb1
  repeat replace k_b1:=E6 k_b1
  refine wr ?_
  all_goals exact ⟨A4n,rfl⟩
 ·simp only at h1
  subst h1
  simp only [Tr.arA]
  refine aps Tryz.func46 ?_
  intro s
  conv=>whnf
  intro b1 hb1
  have k_b1:=hb1
  repeat replace k_b1:=E6 k_b1
  refine wr ?_
  all_goals exact ⟨A4n,rfl⟩
theorem C1f (hT:Qu.A10 Γ) (hN:Nu.A7g Γ) (x:Nat × Tr.Sy) (hx:B7m x.2) (hl:x.2.2.1.length≤100000) (hb:(U8 x.2).length≤1000000000):B7 Tryz.prog Γ 10 [.agg (Tr.syA x)] fun v=>v=.str (U8 x.2):=by
 obtain ⟨tk,nm,args,ln,cl⟩:=x
 simp only at hl hb
 have hml:(args.map Tr.arA).length=args.length:=List.length_map ..
 have hsl:(U8 (nm,args,ln,cl)).length=nm.length+2+(H3 (args.map A0w)).length:=by
  show (nm++40::(H3 (args.map A0w)++[41])).length=_
  simp only [List.length_append,List.length_cons,List.length_nil];omega
 have hj:(Lib.join (args.map A0w) [44,32]).length≤1000000000:=by rw [A8r];omega
 have hja:=fun t=>Jo.A6m (Γ:=Γ) t (args.map A0w) [44,32] (by rw [List.length_map];omega) (by omega)
 rw [A8r] at hja hj
 have hA:=fun a ha=>D46 hT hN a (hx.2 a ha)
 clear hT hN
 simp only [Tr.syA]
 refine aps Tryz.func10 ?_
 intro s
 conv=>whnf
 intro b hb0
 refine wr ?_
 refine AWp.loopA [3,9] [10,11,12,5,13,14,15,16,17,18] (fun x:Nat × Nat=>[.slice x.2 (D3 ((args.take x.1).map A0w)),.int .i64 x.1]) (fun x s'=>x.1≤args.length∧Own (s.set b 39 [.str nm,.slice tk (args.map Tr.arA),.int .i64 ln,.int .i64 cl]) s' (x.1 == 0) x.2 9 1) (fun x=>args.length - x.1) ((0,1)) (by kernel_rfl) (eqa) ?_ ?_
 ·exact ⟨by simp,Own.nil _ _ _⟩
 ·rintro y ⟨i,t1⟩ s1 ⟨hi,ho⟩
  simp only at hi ho
  show awp _ _ _ _ _ (updL _ _ [.slice t1 (D3 ((args.take i).map A0w)),.int .i64 (i:Int)]) _
  conv=>whnf
  have hbx:=ho.sub.bx _ _ A7
  by_cases hlt:i < args.length
  ·have hga:=Tr.C4 (f:=Tr.arA) (l:=args) Tr.A02 hlt
   have htk:=Z9 (f:=A0w) Tr.A02 hlt
   have hSu:=hA _ (Tr.D9 Tr.A02 hlt)
   generalize args.getD i Tr.A02=u at *
   simp only [Tr.arA] at hga hSu
   refine wr ?_
   intro c hc
   conv=>whnf
   have hc':=ho.sub.none hc
   refine wr ?_
   have ho2:=fun (T:TypeId) (a b:List AV)=>(ho.set (T:=T) (cs:=a) hc').set (T:=T) (cs:=b) hc'
   refine ⟨(ho2 _ _ _).may,fun c hc=>?_,all_cons ⟨rfl,rfl⟩ all_nil,?_,?_⟩
   ·obtain ⟨z,_,rfl⟩:=List.mem_map.1 hc;rfl
   ·show ((D3 ((args.take i).map A0w)).length+1) * (_+1)≤_
    rw [Z3,List.length_map,List.length_take,Nat.min_eq_left (by omega)]
    exact Nat.le_trans (Nat.mul_le_mul_right _ (show i+1≤100001 by omega)) (Nat.le_of_ble_eq_true (by kernel_rfl))
   intro t' k1 k2
   have k3:=(ho2 _ _ _).grow k1 k2
   refine wr ?_
   refine ⟨(i+1,t'),?_,C5,⟨by simp only;omega,?_⟩,by simp only;omega⟩
   ·refine C1 ?_ (C1 (show AV.int .i64 (IntKind.i64.wrap ((i:Int)+1))=.int .i64 ((i+1:Nat):Int) from E3 (by omega) (by omega) (by omega)) rfl)
    show AV.slice _ _=.slice _ (D3 ((args.take (i+1)).map A0w))
    rw [htk]<;>rfl
   ·have ez:∀ (z:Bool) (y:List AV),(z && [y].isEmpty)=false:=by intro z y;cases z<;>rfl
    have e2:(i+1 == 0)=false:=by simp
    show Own _ _ (i+1 == 0) t' _ _
    rw [ez] at k3
    rw [e2]
    exact k3
  ·have ht:args.take i=args:=List.take_of_length_le (by omega)
   rw [ht] at *
   have hja:=hja t1
   refine wr ?_
   all_goals refine ⟨((Sub.refl _).set hb0 _ _).trans ho.sub,congrArg AV.str ?_⟩
   all_goals (show _=nm++40::(H3 (args.map A0w)++[41]);simp)
theorem A8j (z:Bool) (x y:List UInt8):B7 Tryz.prog Γ 27 [.bool z,.str x,.str y] fun v=>v=.str (if z=true then x else y):=by
 cases z
 all_goals
  refine aps Tryz.func27 ?_
  intro s
  refine wr ?_
  all_goals rfl
theorem B5r {k:Int} (h:B4a k):Sc.A4c k=Q4 k:=by
 unfold B4a at h
 unfold Sc.A4c Q4
 split
 ·rfl
 ·split
  ·rfl
  ·rw [if_pos (by omega)]
theorem D1h (d:Nat × Tr.De) (hd:D4v d.2) (hl:d.2.2.length≤100000):B7 Tryz.prog Γ 23 [.agg (Tr.deA d)] fun v=>v=.str (A2n d.2):=by
 obtain ⟨tk,⟨nm,ln,cl⟩,ks⟩:=d
 have hnm:=(K1 hd.1).2.1
 simp only at hl hnm
 have htx:=Sc.C3d (Γ:=Γ) nm tk ks (by omega) (by omega)
 have e:Sc.D6x nm ks=nm++40::(H3 (ks.map Q4)++[41]):=by
  unfold Sc.D6x
  rw [A8r,show ks.map Sc.A4c=ks.map Q4 from List.map_congr_left fun k hk=>B5r (hd.2 k hk)]
  simp
 have hjl:=A7z (B:=6) (ks.map Q4) fun z hz=>by
  obtain ⟨a,ha,rfl⟩:=List.mem_map.1 hz
  exact B0x a
 rw [List.length_map] at hjl
 have hel:(Sc.D6x nm ks).length≤2000000:=by rw [e];simp only [List.length_append,List.length_cons,List.length_nil];omega
 simp only [Tr.deA]
 refine aps Tryz.func23 ?_
 intro s
 conv=>whnf
 intro b1 hb1
 have k_b1:=hb1
 repeat replace k_b1:=E6 k_b1
 refine wr ?_
 all_goals refine ⟨A4n,congrArg AV.str ?_⟩
 all_goals (rw [e];rfl)
theorem C93 (q:Tr.Qu) (hq:D4x q):B7 Tryz.prog Γ 26 [.agg (Tr.quA q)] fun v=>v=.str (V9 q):=by
 obtain ⟨z,⟨nm,ln,cl⟩,k⟩:=q
 have hnm:=(K1 hq.1).2.1
 have hk:=Sc.B5s (Γ:=Γ) k
 rw [B5r hq.2] at hk
 have hkl:=B0x k
 simp only at hnm
 simp only [Tr.quA]
 cases z
 all_goals
  refine aps Tryz.func26 ?_
  intro s
  conv=>whnf
  intro b1 hb1
  have k_b1:=hb1
  repeat replace k_b1:=E6 k_b1
  refine wr ?_;(first|(refine A6.pure' ?_ (A8j _ _ _);rintro _ rfl)|refine C0.pure ?_ (A8j _ _ _));refine wr ?_
  all_goals refine ⟨A4n,congrArg AV.str ?_⟩
  all_goals (unfold V9;simp [wForall,S8])
theorem D1z (hT:Qu.A10 Γ) (hN:Nu.A7g Γ) (f:Tr.Fr) (hf:D4w f):B7 Tryz.prog Γ 30 [.agg (Tr.frA f)] fun v=>v=.str (A1e f):=by
 obtain ⟨⟨nm,ln,cl⟩,av⟩:=f
 obtain ⟨h1,h3,h4⟩:=hf
 have hnm:=(K1 h1).2.1
 simp only at hnm h3 h4
 obtain ⟨_,v2,v3⟩:=W1 h3 h4
 have htx:=Va.B2s hT hN av h4 (by omega)
 rw [← v3] at htx
 have hvl:=B7d h3 h4 (Nat.le_refl _)
 obtain ⟨vk,vi,vs,vb⟩:=av
 simp only [Va.vlA] at htx
 simp only at v2 hvl
 simp only [Tr.frA]
 refine aps Tryz.func30 ?_
 intro s
 conv=>whnf
 intro b1 hb1
 have k_b1:=hb1
 repeat replace k_b1:=E6 k_b1
 refine wr ?_
 all_goals refine ⟨A4n,congrArg AV.str ?_⟩
 all_goals (unfold A1e;simp [A3f])
theorem D0i (x:Tr.St) (hx:D4y x):B7 Tryz.prog Γ 33 [.agg (Tr.stA x)] fun v=>v=.str (W3 x):=by
 obtain ⟨⟨nm,ln,cl⟩,z1,z2⟩:=x
 have hnm:=(K1 hx).2.1
 simp only at hnm
 simp only [Tr.stA]
 cases z1<;>cases z2
 all_goals
  refine aps Tryz.func33 ?_
  intro s
  conv=>whnf
  intro b1 hb1
  have k_b1:=hb1
  repeat replace k_b1:=E6 k_b1
  conv=>whnf
  repeat' ((first|(refine brS (fun h=>?_) (fun h=>?_)<;>(try rw [h])<;>(try simp only [bN,bS,↓reduceIte] at h)<;>(try exact prc))|refine E9 ?_|(refine A6.pure' ?_ (A8j _ _ _);rintro _ rfl)|refine C0.pure ?_ (A8j _ _ _)|refine gS ?_|refine aA ?_|refine nA ?_|fail)<;>(conv=>whnf))
  all_goals refine ⟨A4n,congrArg AV.str ?_⟩
  all_goals (unfold W3;simp [wNext,A21,R4])
theorem D05 (hT:Qu.A10 Γ) (hN:Nu.A7g Γ) (x:Nat × Tr.Sy) (hx:B7m x.2) (hl:x.2.2.1.length≤100000) (hb:(U8 x.2).length≤1000000000):B7 Tryz.prog Γ 35 [.agg (Tr.syA x)] fun v=>v=.str (R7++32::U8 x.2):=by
 have hs:=C1f hT hN x hx hl hb
 generalize U8 x.2=S at *
 obtain ⟨tk,nm,args,ln,cl⟩:=x
 simp only [Tr.syA] at hs ⊢
 refine aps Tryz.func35 ?_
 intro s
 conv=>whnf
 intro b1 hb1
 have k_b1:=hb1
 repeat replace k_b1:=E6 k_b1
 refine wr ?_
 all_goals refine ⟨A4n,congrArg AV.str ?_⟩
 all_goals simp [R7]
theorem Own.keep {s s1 s2:Sto} {z:Bool} {t:Nat} {e:TypeId} {k:Nat} (h:Own s s1 z t e k) (h2:Sub s1 s2):Own s s2 true t e k :=
 ⟨h.sub.trans h2,h.own.imp (fun x=>⟨x.1,rfl⟩) fun x=>⟨x.1,h2.lv _ _ _ x.2.1,x.2.2⟩⟩
theorem A52 (m:List (List UInt8)):∀ c ∈ D3 m,c.length=1:=fun c hc=>by
 obtain ⟨z,_,rfl⟩:=List.mem_map.1 hc;rfl
theorem C1e (l:List Tr.Ex) (u:Tr.Se):X3 l u=(u.1.1++[32,61,32])++(gx l u.2).txt:=by unfold X3;simp
theorem D65 (hK:B7n Γ) (hT:Qu.A10 Γ) (hN:Nu.A7g Γ) (t:Nat) {l:List Tr.Ex} {m lo:Nat} {i:Int} (hl:R8 l m) (hw:Whole l lo i):B7 Tryz.prog Γ 73 [.slice t (l.map Tr.exA),.int .i64 i] fun v=>v=.str (gx l i).txt:=by
 obtain ⟨w1,w2,w3,w4⟩:=hw
 have h:=A83 hK hT hN t hl (i.toNat+1) i.toNat (i.toNat+1) (by omega) (by omega) (by omega) (by omega)
 rw [show ((i.toNat:Nat):Int)=i by omega] at h
 exact h
theorem D0l (hK:B7n Γ) (hT:Qu.A10 Γ) (hN:Nu.A7g Γ) (x:(Nat × Nat × Nat) × Tr.Tn) (hx:C39 x.2) (h1:x.2.2.2.1.2.1.length≤100000) (h2:x.2.2.2.2.2.2.length≤100000) (hb:(G5 x.2).length≤1000000000):B7 Tryz.prog Γ 37 [.agg (Tr.tnA x)] fun v=>v=.str (G5 x.2):=by
 obtain ⟨⟨k1,k2,k3⟩,⟨fr,fl,fc⟩,⟨ot,tl,tc⟩,⟨nm,args,ln,cl⟩,nodes,g,sets⟩:=x
 obtain ⟨x1,x2,x3,⟨m,hm⟩,x5⟩:=hx
 simp only at x1 x2 x3 hm x5 h1 h2 hb
 have hsl:(sets.map Tr.seA).length=sets.length:=List.length_map ..
 have hlT:(U8 (nm,args,ln,cl)).length+fr.length+ot.length+(ifS ((fr,fl,fc),(ot,tl,tc),(nm,args,ln,cl),nodes,g,sets)).length≤1000000000+ot.length:=by
  have e:(G5 ((fr,fl,fc),(ot,tl,tc),(nm,args,ln,cl),nodes,g,sets)).length=(fr++32::(wOn++32::(U8 (nm,args,ln,cl)++ifS ((fr,fl,fc),(ot,tl,tc),(nm,args,ln,cl),nodes,g,sets)))).length:=rfl
  rw [e] at hb
  simp only [List.length_append,List.length_cons] at hb
  omega
 have hto:=(K1 x2).2.1
 have hsy:=C1f hT hN (k1,(nm,args,ln,cl)) x3 h1 (by show (U8 (nm,args,ln,cl)).length≤_;omega)
 simp only [Tr.syA] at hsy
 have hJ:=fun t=>Jo.A6m (Γ:=Γ) t (A42 ((fr,fl,fc),(ot,tl,tc),(nm,args,ln,cl),nodes,g,sets)) [32] (by
  unfold A42;simp only [List.length_append];split<;>split<;>(simp only [List.length_cons,List.length_nil];omega)) (by rw [B61];omega)
 have hJ:=fun t=>(show B7 Tryz.prog Γ 38 _ fun v=>v=.str (G5 _) from (B61 ((fr,fl,fc),(ot,tl,tc),(nm,args,ln,cl),nodes,g,sets)) ▸ hJ t)
 have hS:∃ lo,A25 nodes lo sets:=x5.elim (fun h=>⟨_,h.2⟩) (fun h=>⟨_,h.2⟩)
 obtain ⟨lo,hS⟩:=hS
 have hjl:sets≠[]→(H3 (sets.map (X3 nodes))).length≤1000000000:=fun hs=>by
  have e:(doS ((fr,fl,fc),(ot,tl,tc),(nm,args,ln,cl),nodes,g,sets)).length≤(ifS ((fr,fl,fc),(ot,tl,tc),(nm,args,ln,cl),nodes,g,sets)).length:=by
   unfold ifS
   split
   ·simp only [List.length_cons,List.length_append];omega
   ·exact Nat.le_refl _
  have e2:(H3 (sets.map (X3 nodes))).length≤(doS ((fr,fl,fc),(ot,tl,tc),(nm,args,ln,cl),nodes,g,sets)).length:=by
   unfold doS
   rw [if_neg hs]
   simp only [List.length_cons,List.length_append];omega
  omega
 have hA:∀ u ∈ sets,(B7 Tryz.prog Γ 73 [.slice k2 (nodes.map Tr.exA),.int .i64 u.2] fun v=>v=.str (gx nodes u.2).txt)∧u.1.1.length+3+(gx nodes u.2).txt.length≤1000000000:=fun u hu=>by
  obtain ⟨_,lo',hw⟩:=A30 hS u hu
  refine ⟨D65 hK hT hN k2 hm hw,?_⟩
  have:=B2d (List.mem_map_of_mem (f:=X3 nodes) hu)
  rw [C1e] at this
  have:=hjl (List.ne_nil_of_mem hu)
  simp only [List.length_append,List.length_cons,List.length_nil] at *
  omega
 have hjs:∀ t,sets≠[]→B7 Tryz.prog Γ 38 [.slice t (D3 (sets.map (X3 nodes))),.str [44,32]] fun v=>v=.str (H3 (sets.map (X3 nodes))):=fun t hs=>by
  have h:=Jo.A6m (Γ:=Γ) t (sets.map (X3 nodes)) [44,32] (by rw [List.length_map];omega) (by rw [A8r];have:=hjl hs;omega)
  rwa [A8r] at h
 have hG:0≤g→(B7 Tryz.prog Γ 73 [.slice k2 (nodes.map Tr.exA),.int .i64 g] fun v=>v=.str (gx nodes g).txt):=fun hg=>by
  rcases x5 with h|h
  ·omega
  ·exact D65 hK hT hN k2 hm h.1
 clear hT hN hK
 simp only [Tr.tnA]
 generalize hSY:U8 (nm,args,ln,cl)=SY at *
 by_cases hg:0≤g
 ·have hG:=hG hg
  have hjn1:sets=[]→∀ t,B7 Tryz.prog Γ 38 [.slice t ([[AV.str fr],[AV.str wOn],[AV.str SY]]++[[AV.str wIf],[AV.str (gx nodes g).txt]]++[[AV.str wTo],[AV.str ot]]),.str [32]] fun v=>v=.str (G5 ((fr,fl,fc),(ot,tl,tc),(nm,args,ln,cl),nodes,g,sets)):=fun h t=>by
   have hj:=hJ t
   unfold A42 at hj
   simp only at hj
   rw [if_pos hg,if_pos h,hSY] at hj
   exact hj
  have hjd1:sets≠[]→∀ t,B7 Tryz.prog Γ 38 [.slice t ([[AV.str fr],[AV.str wOn],[AV.str SY]]++[[AV.str wIf],[AV.str (gx nodes g).txt]]++[[AV.str wDo],[AV.str (H3 (sets.map (X3 nodes)))]]++[[AV.str wTo],[AV.str ot]]),.str [32]] fun v=>v=.str (G5 ((fr,fl,fc),(ot,tl,tc),(nm,args,ln,cl),nodes,g,sets)):=fun h t=>by
   have hj:=hJ t
   unfold A42 at hj
   simp only at hj
   rw [if_pos hg,if_neg h,hSY] at hj
   exact hj
  generalize (gx nodes g).txt=GT at *
  refine aps Tryz.func37 ?_
  intro s
  conv=>whnf
  intro b hb0
  refine wr ?_
  have ko0:=Own.start ((Sub.refl s).set hb0 43 [.str fr,.int .i64 fl,.int .i64 fc,.str ot,.int .i64 tl,.int .i64 tc,.str nm,.slice k1 (args.map Tr.arA),.int .i64 ln,.int .i64 cl,.slice k2 (nodes.map Tr.exA),.int .i64 g,.slice k3 (sets.map Tr.seA)]) 9 1
  refine ⟨all_cons ⟨rfl,rfl⟩ (all_cons ⟨rfl,rfl⟩ all_nil),Nat.le_of_ble_eq_true (by kernel_rfl),?_⟩
  intro t3 k1' k2'
  have ko1:=ko0.grow k1' k2'
  conv=>whnf
  have kb:((s.set b 43 [.str fr,.int .i64 fl,.int .i64 fc,.str ot,.int .i64 tl,.int .i64 tc,.str nm,.slice k1 (args.map Tr.arA),.int .i64 ln,.int .i64 cl,.slice k2 (nodes.map Tr.exA),.int .i64 g,.slice k3 (sets.map Tr.seA)]).grow 1 t3 9 1).bx b=some (43,[.str fr,.int .i64 fl,.int .i64 fc,.str ot,.int .i64 tl,.int .i64 tc,.str nm,.slice k1 (args.map Tr.arA),.int .i64 ln,.int .i64 cl,.slice k2 (nodes.map Tr.exA),.int .i64 g,.slice k3 (sets.map Tr.seA)]):=L8.trans A7
  refine wr ?_
  refine AWp.loopA [4,28] [29,30,31,6,32,33,34,35,36,37,38,39,40,41,42,43,44,45] (fun x:Nat × Nat=>[.slice x.2 (D3 ((sets.take x.1).map (X3 nodes))),.int .i64 x.1]) (fun x s'=>x.1≤sets.length∧Own ((s.set b 43 [.str fr,.int .i64 fl,.int .i64 fc,.str ot,.int .i64 tl,.int .i64 tc,.str nm,.slice k1 (args.map Tr.arA),.int .i64 ln,.int .i64 cl,.slice k2 (nodes.map Tr.exA),.int .i64 g,.slice k3 (sets.map Tr.seA)]).grow 1 t3 9 1) s' (x.1 == 0) x.2 9 1) (fun x=>sets.length - x.1) ((0,1)) (by kernel_rfl) (eqa) ?_ ?_
  ·exact ⟨by simp,Own.nil _ _ _⟩
  ·rintro y ⟨i,t1⟩ s1 ⟨hi,ho⟩
   simp only at hi ho
   show awp _ _ _ _ _ (updL _ _ [.slice t1 (D3 ((sets.take i).map (X3 nodes))),.int .i64 (i:Int)]) _
   conv=>whnf
   have hbx:=ho.sub.bx _ _ kb
   by_cases hlt:i < sets.length
   ·have hga:=Tr.C4 (f:=Tr.seA) (l:=sets) Tr.W5 hlt
    have htk:=Z9 (f:=X3 nodes) Tr.W5 hlt
    obtain ⟨hSu,hSl⟩:=hA _ (Tr.D9 Tr.W5 hlt)
    generalize sets.getD i Tr.W5=u at *
    obtain ⟨⟨un,ul,uc⟩,ue⟩:=u
    rw [C1e] at htk
    simp only [Tr.seA] at hga hSu hSl htk
    generalize (gx nodes ue).txt=ut at *
    refine wr ?_
    intro c hc
    conv=>whnf
    have hc':=ho.sub.none hc
    have hne:b≠c:=fun e=>by subst e;rw [hc] at hbx;cases hbx
    refine wr ?_
    have ho2:=fun (T:TypeId) (a b:List AV)=>(ho.set (T:=T) (cs:=a) hc').set (T:=T) (cs:=b) hc'
    refine ⟨(ho2 _ _ _).may,A52 _,all_cons ⟨rfl,rfl⟩ all_nil,?_,?_⟩
    ·show ((D3 ((sets.take i).map (X3 nodes))).length+1) * (_+1)≤_
     rw [Z3,List.length_map,List.length_take,Nat.min_eq_left (by omega)]
     exact Nat.le_trans (Nat.mul_le_mul_right _ (show i+1≤100001 by omega)) (Nat.le_of_ble_eq_true (by kernel_rfl))
    intro t' k1 k2
    have k3:=(ho2 _ _ _).grow k1 k2
    refine wr ?_
    refine ⟨(i+1,t'),?_,C5,⟨by simp only;omega,?_⟩,by simp only;omega⟩
    ·refine C1 ?_ (C1 (show AV.int .i64 (IntKind.i64.wrap ((i:Int)+1))=.int .i64 ((i+1:Nat):Int) from E3 (by omega) (by omega) (by omega)) rfl)
     show AV.slice _ _=.slice _ (D3 ((sets.take (i+1)).map (X3 nodes)))
     rw [htk]<;>rfl
    ·have ez:∀ (z:Bool) (y:List AV),(z && [y].isEmpty)=false:=by intro z y;cases z<;>rfl
     have e2:(i+1 == 0)=false:=by simp
     show Own _ _ (i+1 == 0) t' _ _
     rw [ez] at k3
     rw [e2]
     exact k3
   ·have ht:sets.take i=sets:=List.take_of_length_le (by omega)
    rw [ht]
    have ko:=Own.keep ko1 ho.sub
    have hml:(D3 (sets.map (X3 nodes))).length=sets.length:=by rw [Z3,List.length_map]
    by_cases hs:sets=[]
    ·have hs0:sets.length=0:=by rw [hs];rfl
     have hjn:=hjn1 hs
     refine wr ?_
     refine ⟨ko.may,A52 [fr,wOn,SY,wIf,GT],all_cons ⟨rfl,rfl⟩ (all_cons ⟨rfl,rfl⟩ all_nil),Nat.le_of_ble_eq_true (by kernel_rfl),?_⟩
     intro t6 k1 k2
     have k3:=ko.grow k1 k2
     refine wr ?_;(first|(refine A6.pure' ?_ (hjn _);rintro _ rfl)|refine C0.pure ?_ (hjn _));refine wr ?_
     all_goals exact ⟨k3.sub,rfl⟩
    ·have hs0:0 < sets.length:=List.length_pos_iff.2 hs
     have hjs:=hjs t1 hs
     have hjd:=hjd1 hs
     generalize H3 (sets.map (X3 nodes))=SJ at *
     refine wr ?_
     refine ⟨ko.may,A52 [fr,wOn,SY,wIf,GT],all_cons ⟨rfl,rfl⟩ (all_cons ⟨rfl,rfl⟩ all_nil),Nat.le_of_ble_eq_true (by kernel_rfl),?_⟩
     intro t5 k1 k2
     have k3:=ko.grow k1 k2
     conv=>whnf
     have hbx:=(L8 (t:=t3) (t':=t5) (e:=9) (k:=1)).trans hbx
     refine wr ?_
     refine ⟨k3.may,A52 [fr,wOn,SY,wIf,GT,wDo,SJ],all_cons ⟨rfl,rfl⟩ (all_cons ⟨rfl,rfl⟩ all_nil),Nat.le_of_ble_eq_true (by kernel_rfl),?_⟩
     intro t6 k4 k5
     have k6:=k3.grow k4 k5
     refine wr ?_;(first|(refine A6.pure' ?_ (hjd _);rintro _ rfl)|refine C0.pure ?_ (hjd _));refine wr ?_
     all_goals exact ⟨k6.sub,rfl⟩
 ·
  have hjn0:sets=[]→∀ t,B7 Tryz.prog Γ 38 [.slice t ([[AV.str fr],[AV.str wOn],[AV.str SY]]++[[AV.str wTo],[AV.str ot]]),.str [32]] fun v=>v=.str (G5 ((fr,fl,fc),(ot,tl,tc),(nm,args,ln,cl),nodes,g,sets)):=fun h t=>by
   have hj:=hJ t
   unfold A42 at hj
   simp only at hj
   rw [if_neg hg,if_pos h,hSY] at hj
   exact hj
  have hjd0:sets≠[]→∀ t,B7 Tryz.prog Γ 38 [.slice t ([[AV.str fr],[AV.str wOn],[AV.str SY]]++[[AV.str wDo],[AV.str (H3 (sets.map (X3 nodes)))]]++[[AV.str wTo],[AV.str ot]]),.str [32]] fun v=>v=.str (G5 ((fr,fl,fc),(ot,tl,tc),(nm,args,ln,cl),nodes,g,sets)):=fun h t=>by
   have hj:=hJ t
   unfold A42 at hj
   simp only at hj
   rw [if_neg hg,if_neg h,hSY] at hj
   exact hj
  refine aps Tryz.func37 ?_
  intro s
  conv=>whnf
  intro b hb0
  refine wr ?_
  have ko0:=Own.start ((Sub.refl s).set hb0 43 [.str fr,.int .i64 fl,.int .i64 fc,.str ot,.int .i64 tl,.int .i64 tc,.str nm,.slice k1 (args.map Tr.arA),.int .i64 ln,.int .i64 cl,.slice k2 (nodes.map Tr.exA),.int .i64 g,.slice k3 (sets.map Tr.seA)]) 9 1
  have kb:(s.set b 43 [.str fr,.int .i64 fl,.int .i64 fc,.str ot,.int .i64 tl,.int .i64 tc,.str nm,.slice k1 (args.map Tr.arA),.int .i64 ln,.int .i64 cl,.slice k2 (nodes.map Tr.exA),.int .i64 g,.slice k3 (sets.map Tr.seA)]).bx b=some (43,[.str fr,.int .i64 fl,.int .i64 fc,.str ot,.int .i64 tl,.int .i64 tc,.str nm,.slice k1 (args.map Tr.arA),.int .i64 ln,.int .i64 cl,.slice k2 (nodes.map Tr.exA),.int .i64 g,.slice k3 (sets.map Tr.seA)]):=A7
  refine AWp.loopA [4,28] [29,30,31,6,32,33,34,35,36,37,38,39,40,41,42,43,44,45] (fun x:Nat × Nat=>[.slice x.2 (D3 ((sets.take x.1).map (X3 nodes))),.int .i64 x.1]) (fun x s'=>x.1≤sets.length∧Own (s.set b 43 [.str fr,.int .i64 fl,.int .i64 fc,.str ot,.int .i64 tl,.int .i64 tc,.str nm,.slice k1 (args.map Tr.arA),.int .i64 ln,.int .i64 cl,.slice k2 (nodes.map Tr.exA),.int .i64 g,.slice k3 (sets.map Tr.seA)]) s' (x.1 == 0) x.2 9 1) (fun x=>sets.length - x.1) ((0,1)) (by kernel_rfl) (eqa) ?_ ?_
  ·exact ⟨by simp,Own.nil _ _ _⟩
  ·rintro y ⟨i,t1⟩ s1 ⟨hi,ho⟩
   simp only at hi ho
   show awp _ _ _ _ _ (updL _ _ [.slice t1 (D3 ((sets.take i).map (X3 nodes))),.int .i64 (i:Int)]) _
   conv=>whnf
   have hbx:=ho.sub.bx _ _ kb
   by_cases hlt:i < sets.length
   ·have hga:=Tr.C4 (f:=Tr.seA) (l:=sets) Tr.W5 hlt
    have htk:=Z9 (f:=X3 nodes) Tr.W5 hlt
    obtain ⟨hSu,hSl⟩:=hA _ (Tr.D9 Tr.W5 hlt)
    generalize sets.getD i Tr.W5=u at *
    obtain ⟨⟨un,ul,uc⟩,ue⟩:=u
    rw [C1e] at htk
    simp only [Tr.seA] at hga hSu hSl htk
    generalize (gx nodes ue).txt=ut at *
    refine wr ?_
    intro c hc
    conv=>whnf
    have hc':=ho.sub.none hc
    have hne:b≠c:=fun e=>by subst e;rw [hc] at hbx;cases hbx
    refine wr ?_
    have ho2:=fun (T:TypeId) (a b:List AV)=>(ho.set (T:=T) (cs:=a) hc').set (T:=T) (cs:=b) hc'
    refine ⟨(ho2 _ _ _).may,A52 _,all_cons ⟨rfl,rfl⟩ all_nil,?_,?_⟩
    ·show ((D3 ((sets.take i).map (X3 nodes))).length+1) * (_+1)≤_
     rw [Z3,List.length_map,List.length_take,Nat.min_eq_left (by omega)]
     exact Nat.le_trans (Nat.mul_le_mul_right _ (show i+1≤100001 by omega)) (Nat.le_of_ble_eq_true (by kernel_rfl))
    intro t' k1 k2
    have k3:=(ho2 _ _ _).grow k1 k2
    refine wr ?_
    refine ⟨(i+1,t'),?_,C5,⟨by simp only;omega,?_⟩,by simp only;omega⟩
    ·refine C1 ?_ (C1 (show AV.int .i64 (IntKind.i64.wrap ((i:Int)+1))=.int .i64 ((i+1:Nat):Int) from E3 (by omega) (by omega) (by omega)) rfl)
     show AV.slice _ _=.slice _ (D3 ((sets.take (i+1)).map (X3 nodes)))
     rw [htk]<;>rfl
    ·have ez:∀ (z:Bool) (y:List AV),(z && [y].isEmpty)=false:=by intro z y;cases z<;>rfl
     have e2:(i+1 == 0)=false:=by simp
     show Own _ _ (i+1 == 0) t' _ _
     rw [ez] at k3
     rw [e2]
     exact k3
   ·have ht:sets.take i=sets:=List.take_of_length_le (by omega)
    rw [ht]
    have ko:=Own.keep ko0 ho.sub
    have hml:(D3 (sets.map (X3 nodes))).length=sets.length:=by rw [Z3,List.length_map]
    by_cases hs:sets=[]
    ·have hs0:sets.length=0:=by rw [hs];rfl
     have hjn:=hjn0 hs
     refine wr ?_
     refine ⟨all_cons ⟨rfl,rfl⟩ (all_cons ⟨rfl,rfl⟩ all_nil),Nat.le_of_ble_eq_true (by kernel_rfl),?_⟩
     intro t6 k1 k2
     have k3:=ko.grow k1 k2
     refine wr ?_;(first|(refine A6.pure' ?_ (hjn _);rintro _ rfl)|refine C0.pure ?_ (hjn _));refine wr ?_
     all_goals exact ⟨k3.sub,rfl⟩
    ·have hs0:0 < sets.length:=List.length_pos_iff.2 hs
     have hjs:=hjs t1 hs
     have hjd:=hjd0 hs
     generalize H3 (sets.map (X3 nodes))=SJ at *
     refine wr ?_
     refine ⟨all_cons ⟨rfl,rfl⟩ (all_cons ⟨rfl,rfl⟩ all_nil),Nat.le_of_ble_eq_true (by kernel_rfl),?_⟩
     intro t5 k1 k2
     have k3:=ko.grow k1 k2
     conv=>whnf
     have hbx:=(L8 (t:=1) (t':=t5) (e:=9) (k:=1)).trans hbx
     refine wr ?_
     refine ⟨k3.may,A52 [fr,wOn,SY,wDo,SJ],all_cons ⟨rfl,rfl⟩ (all_cons ⟨rfl,rfl⟩ all_nil),Nat.le_of_ble_eq_true (by kernel_rfl),?_⟩
     intro t6 k4 k5
     have k6:=k3.grow k4 k5
     refine wr ?_;(first|(refine A6.pure' ?_ (hjd _);rintro _ rfl)|refine C0.pure ?_ (hjd _));refine wr ?_
     all_goals exact ⟨k6.sub,rfl⟩
end Go.Proofs.YticnkpgmmpenlaaGreatDoor.Pr
namespace Go.Proofs.YticnkpgmmpenlaaGreatDoor
open Go Go.Ab Go.RowKit Go.Shelf
variable {Γ:Nat→AV}
set_option maxRecDepth 100000
def D9g:Ren:=⟨fun|4=>90|n=>n,fun|22=>66|25=>9|9=>9|20=>20|0=>0|3=>3|4=>4|n=>n,fun|n=>n⟩
theorem C42:Lays8.n4 Tryz.prog D9g where
 mixed:=by kernel_rfl
 f4 := ⟨ "slices.Grow[[]string,string]", by decide, Tryz.func90.trans (congrArg some (by kernel_rfl))⟩
 t0:=Tryz.underlying0
 a0:=Tryz.isAgg0
 z0:=Tryz.sizeOf0
 v0:=Tryz.zeroValue0
 t3:=Tryz.underlying3
 a3:=Tryz.isAgg3
 z3:=Tryz.sizeOf3
 v3:=Tryz.zeroValue3
 t4:=Tryz.underlying4
 a4:=Tryz.isAgg4
 z4:=Tryz.sizeOf4
 v4:=Tryz.zeroValue4
 t9:=Tryz.underlying9
 a9:=Tryz.isAgg9
 z9:=Tryz.sizeOf9
 v9:=Tryz.zeroValue9
 t20:=Tryz.underlying20
 a20:=Tryz.isAgg20
 z20:=Tryz.sizeOf20
 v20:=Tryz.zeroValue20
 t22:=Tryz.underlying66
 a22:=Tryz.isAgg66
 z22:=Tryz.sizeOf66
 v22:=Tryz.zeroValue66
theorem D15 {n:Nat} {s:Sto} (hn:n≤10000000):A6 Tryz.prog Γ 90 [.slice 1 [],.int .i64 (n:Int)] s fun v s'=>∃ t,v=.slice t []∧Own s s' true t 9 1 :=
 C0g (k:=1) C42 rfl rfl rfl rfl rfl rfl (by decide) (Nat.le_of_ble_eq_true (by kernel_rfl)) hn
end Go.Proofs.YticnkpgmmpenlaaGreatDoor
namespace Go.Proofs.YticnkpgmmpenlaaGreatDoor.Pa
open Go Go.Ab Go.RowKit
variable {Γ:Nat→AV}
attribute [local irreducible] B7 Sto.set Sto.grow
section
variable {s:Sto}
def B3t (x:List UInt8):List AV:=[.str x]
theorem C4n {tk:Nat} {ls:List (List (List UInt8))} (hn:ls.length≤100) (hz:ls.flatten.length≤1000000) :
  A6 Tryz.prog Γ 21 [.slice tk (ls.map (slA B3t))] s fun v s'=>∃ t,v=.slice t (ls.flatten.map B3t)∧Own s s' ls.flatten.isEmpty t 9 1:=by
 have hlen:(ls.map (slA B3t)).length=ls.length:=List.length_map ..
 refine acs Tryz.func21 ?_
 refine wp ?_
 refine AWp.loopA [3,11] [12,13,14,5,15,16,17,18,19,20,21,22] (fun i:Nat=>[.int .i64 ((ls.take i).flatten.length:Int),.int .i64 (i:Int)]) (fun i s'=>i≤ls.length∧s'=s) (fun i=>ls.length - i) (0) (by kernel_rfl) (eqa) ?_ ?_
 ·exact ⟨Nat.zero_le _,rfl⟩
 ·rintro x i s' ⟨hi,hs'⟩
  subst s'
  show awp _ _ _ _ _ (updL _ _ [.int .i64 ((ls.take i).flatten.length:Int),.int .i64 (i:Int)]) _
  conv=>whnf
  by_cases hlt:i < ls.length
  ·have hat:=B2p (A:=B3t) hlt
   have hz:((i:Int)).toNat=i:=rfl
   have hle:=A8p ls (i+1)
   rw [K7 hlt,List.length_append] at hle
   have hw1:IntKind.i64.wrap (((ls.take i).flatten.length:Int)+(((ls.getD i []).map B3t).length:Int))=((ls.take (i+1)).flatten.length:Int):=C7 (by rw [K7 hlt,List.length_append,List.length_map];omega) (by omega) (by rw [K7 hlt,List.length_append];omega)
   have hw2:IntKind.i64.wrap ((i:Int)+1)=((i+1:Nat):Int):=C7 (by omega) (by omega) (by omega)
   repeat' ((first|exact pru|(refine brS (fun h=>?_) (fun h=>?_)<;>(try rw [h])<;>(try simp only [bS,↓reduceIte] at h))|(rw [hz])|(rw [hat])|(rw [hw1])|(rw [hw2])|refine gS ?_|refine aA ?_|refine nA ?_|fail)<;>(conv=>whnf))
   exact ⟨i+1,eqa,C5,⟨hlt,rfl⟩,by omega⟩
  ·obtain rfl:i=ls.length:=by omega
   rw [List.take_length]
   refine wp ?_;(refine A6.by (D15 (by omega)) ?_;rintro _ s1 ⟨t0,rfl,ho⟩);refine wp ?_
   refine AWp.loopA [6,27] [28,29,30,8,31,32,33,34] (fun q:Nat × Nat=>[.slice q.2 ((ls.take q.1).flatten.map B3t),.int .i64 (q.1:Int)]) (fun q s'=>q.1≤ls.length∧Own s s' (ls.take q.1).flatten.isEmpty q.2 9 1) (fun q=>ls.length - q.1) ((0,t0)) (by kernel_rfl) (eqa) ?_ ?_
   ·exact ⟨Nat.zero_le _,ho⟩
   ·rintro y ⟨i,t⟩ s' ⟨hi,hown⟩
    simp only at hi hown
    show awp _ _ _ _ _ (updL _ _ [.slice t ((ls.take i).flatten.map B3t),.int .i64 (i:Int)]) _
    conv=>whnf
    by_cases hlt:i < ls.length
    ·have hat:=B2p (A:=B3t) hlt
     have hz:((i:Int)).toNat=i:=rfl
     have hle:=A8p ls (i+1)
     rw [K7 hlt,List.length_append] at hle
     have hw2:IntKind.i64.wrap ((i:Int)+1)=((i+1:Nat):Int):=C7 (by omega) (by omega) (by omega)
     repeat' ((first|exact pru|(refine brS (fun h=>?_) (fun h=>?_)<;>(try rw [h])<;>(try simp only [bS,↓reduceIte] at h))|(rw [hz])|(rw [hat])|refine gS ?_|refine aA ?_|refine nA ?_|fail)<;>(conv=>whnf))
     refine ⟨hown.may,fun c hc=>by obtain ⟨z,_,rfl⟩:=List.mem_map.1 hc;rfl,fun c hc=>by obtain ⟨z,_,rfl⟩:=List.mem_map.1 hc;exact ⟨rfl,rfl⟩,Nat.le_trans (Nat.mul_le_mul_right _ (show _≤1000000 from by simp only [List.length_map];omega)) (Nat.le_of_ble_eq_true (by kernel_rfl)),?_⟩
     intro t2 k1 k2
     have k3:=hown.grow k1 k2
     refine wp ?_;(rw [hw2]);refine wp ?_
     refine ⟨(i+1,t2),?_,C5,⟨hlt,?_⟩,by simp only;omega⟩
     ·dsimp only
      exact C1 (congrArg (AV.slice t2) (show (ls.take i).flatten.map B3t++(ls.getD i []).map B3t=_ by rw [K7 hlt,List.map_append])) (C1 rfl rfl)
     ·dsimp only
      rw [K7 hlt,A7x]
      rw [show ((ls.getD i []).map B3t).isEmpty=(ls.getD i []).isEmpty by cases ls.getD i []<;>rfl] at k3
      exact k3
    ·obtain rfl:i=ls.length:=by omega
     rw [List.take_length] at hown
     rw [List.take_length]
     refine wp ?_
     exact ⟨_,Sub.refl _,t,rfl,hown⟩
end
end Go.Proofs.YticnkpgmmpenlaaGreatDoor.Pa
namespace Go.Proofs.YticnkpgmmpenlaaGreatDoor.Tr
open Go Go.Ab Go.RowKit
variable {Γ:Nat→AV}
attribute [local irreducible] B7 Sto.set Sto.grow
structure Kp (s s':Sto) (ba:Nat) (f:Int):Prop where
 here:s'.bx ba=some (3,[.int .i64 f])
 bx:∀ c z,c≠ba→s.bx c=some z→s'.bx c=some z
 sub:∀ s0,Sub s0 s→s0.bx ba=none→Sub s0 s'
theorem Kp.refl {s:Sto} {ba:Nat} {f:Int} (h:s.bx ba=some (3,[.int .i64 f])):Kp s s ba f:=⟨h,fun _ _ _ h=>h,fun _ h _=>h⟩
theorem Kp.trans {s s1 s2:Sto} {ba:Nat} {f g:Int} (h:Kp s s1 ba f) (k:Kp s1 s2 ba g):Kp s s2 ba g :=
 ⟨k.here,fun c z hc h0=>k.bx c z hc (h.bx c z hc h0),fun s0 hs hn=>k.sub s0 (h.sub s0 hs hn) hn⟩
theorem Kp.put {s s':Sto} {ba:Nat} {f:Int} (h:Kp s s' ba f) (g:Int):Kp s (s'.set ba 3 [.int .i64 g]) ba g :=
 ⟨A7,fun c z hc h0=>(A9 hc).trans (h.bx c z hc h0),fun s hs hn=>(h.sub s hs hn).set hn _ _⟩
theorem Kp.fresh {s s':Sto} {ba c:Nat} {f:Int} (h:Kp s s' ba f) (hc:s'.bx c=none) (T:TypeId) (z:List AV):Kp s (s'.set c T z) ba f :=
 ⟨(A9 (A8 h.here hc)).trans h.here,fun d y hd h0=>(A9 (A8 (h.bx d y hd h0) hc)).trans (h.bx d y hd h0),fun s0 hs hn=>(h.sub s0 hs hn).set ((h.sub s0 hs hn).none hc) _ _⟩
structure B7l (s:Sto) (x:(Nat × Nat × Nat) × Tn) (ba bt bs bd b1 b2:Nat):Prop where
 small:x.2.2.2.2.1.length≤100000
 tr:s.bx bt=some (43,tnA x)
 sz:s.bx bs=some (52,[.raw (some ⟨b1,0,none⟩) x.2.2.2.2.1.length x.2.2.2.2.1.length])
 dp:s.bx bd=some (52,[.raw (some ⟨b2,0,none⟩) x.2.2.2.2.1.length x.2.2.2.2.1.length])
 c1:s.bx b1=some (3,col Prod.fst (tab Sc.D4 x.2.2.2.2.1 x.2.2.2.2.1.length) x.2.2.2.2.1.length)
 c2:s.bx b2=some (3,col Prod.snd (tab Sc.D4 x.2.2.2.2.1 x.2.2.2.2.1.length) x.2.2.2.2.1.length)
 n1:bt≠ba
 n2:bs≠ba
 n3:bd≠ba
 n4:b1≠ba
 n5:b2≠ba
theorem B7l.keep {s s':Sto} {x:(Nat × Nat × Nat) × Tn} {ba bt bs bd b1 b2:Nat} {f:Int} (h:B7l s x ba bt bs bd b1 b2) (k:Kp s s' ba f):B7l s' x ba bt bs bd b1 b2 :=
 ⟨h.small,k.bx _ _ h.n1 h.tr,k.bx _ _ h.n2 h.sz,k.bx _ _ h.n3 h.dp,k.bx _ _ h.n4 h.c1,k.bx _ _ h.n5 h.c2,h.n1,h.n2,h.n3,h.n4,h.n5⟩
theorem B7h {l:List Ex} {f g:Int} (h:whB l f g=true):f≤g∧g < l.length:=by
 unfold whB at h
 simp only [Bool.and_eq_true,decide_eq_true_eq] at h
 exact ⟨h.1,h.2.1⟩
theorem B5e {s:Sto} {x:(Nat × Nat × Nat) × Tn} {ba bt bs bd b1 b2:Nat} {f:Int} (root:Int) (hh:B7l s x ba bt bs bd b1 b2) (ha:s.bx ba=some (3,[.int .i64 f])) (hf:0≤f∧f≤x.2.2.2.2.1.length) :
    A6 Tryz.prog Γ 140 [.int .i64 root,.ptr (some ⟨ba,0,none⟩),.ptr (some ⟨bt,0,none⟩),.ptr (some ⟨bs,0,none⟩),.ptr (some ⟨bd,0,none⟩)] s fun v s' =>
      v=.bool (whB x.2.2.2.2.1 f root)∧Kp s s' ba (if whB x.2.2.2.2.1 f root=true then root+1 else f):=by
  obtain ⟨hl,ht,hs,hd,hc1,hc2,n1,n2,n3,n4,n5⟩:=hh
  have hml:(x.2.2.2.2.1.map exA).length=x.2.2.2.2.1.length:=List.length_map ..
  have htl:=A1o Sc.D4 x.2.2.2.2.1 x.2.2.2.2.1.length
  have hbd:=fun h:0≤root∧root < x.2.2.2.2.1.length=>A1k Sc.D4 x.2.2.2.2.1 (i:=root.toNat) (by omega)
  have l1:=fun (h:0≤root∧root < x.2.2.2.2.1.length) (m:Nat) (hm:m=root.toNat)=>A6g (f:=Prod.fst) rfl (r:=tab Sc.D4 x.2.2.2.2.1 x.2.2.2.2.1.length) (n:=x.2.2.2.2.1.length) (j:=root.toNat) (m:=m) (by omega) (by omega) hm
  have l2:=fun (h:0≤root∧root < x.2.2.2.2.1.length) (m:Nat) (hm:m=root.toNat)=>A6g (f:=Prod.snd) rfl (r:=tab Sc.D4 x.2.2.2.2.1 x.2.2.2.2.1.length) (n:=x.2.2.2.2.1.length) (j:=root.toNat) (m:=m) (by omega) (by omega) hm
  have hw:0≤root∧root < x.2.2.2.2.1.length→IntKind.i64.wrap (IntKind.i64.wrap (root - f)+1)=root - f+1:=fun h=>by rw [C7 (b:=root - f) rfl (by omega) (by omega)];exact C7 rfl (by omega) (by omega)
  have hw1:0≤root∧root < x.2.2.2.2.1.length→IntKind.i64.wrap (root+1)=root+1:=fun h=>C7 rfl (by omega) (by omega)
  have hwh:whB x.2.2.2.2.1 f root=(decide (f≤root) && (decide (root < x.2.2.2.2.1.length) && (decide ((nd Sc.D4 x.2.2.2.2.1 root.toNat).1=root - f+1) && decide ((nd Sc.D4 x.2.2.2.2.1 root.toNat).2≤64)))):=rfl
  generalize whB x.2.2.2.2.1 f root=B at *
  unfold nd at hwh hbd
  generalize (tab Sc.D4 x.2.2.2.2.1 x.2.2.2.2.1.length).getD root.toNat (0,0)=p at *
  refine acs Tryz.func140 ?_
  conv=>whnf
  repeat' ((first|exact pru|(refine brS (fun h=>?_) (fun h=>?_)<;>(try rw [h])<;>(try simp only [bS,↓reduceIte] at h))|(refine B6 ha ?_)|(refine B6 ht ?_)|(refine B6 hs ?_)|(refine B6 hd ?_)|(refine B6 hc1 (A37 (l1 (by omega) _ (by show 0+root.toNat * 1=root.toNat;omega)) ?_))|(refine B6 hc2 (A37 (l2 (by omega) _ (by show 0+root.toNat * 1=root.toNat;omega)) ?_))|(rw [hw (by omega)])|refine gS ?_|refine aA ?_|refine nA ?_|fail)<;>(conv=>whnf))
  all_goals refine ⟨_,Sub.refl _,?_⟩
  all_goals first
    | (have hB:B=false:=by (rw [hwh];clear l1 l2 hbd hc1 hc2 ht hs hd ha;grind)
       subst hB
       exact ⟨rfl,Kp.refl ha⟩)
    | (have hB:B=true:=by (rw [hwh];clear l1 l2 hbd hc1 hc2 ht hs hd ha;grind)
       subst hB
       refine ⟨rfl,?_⟩
       rw [if_pos rfl,hw1 (by omega)]
       exact (Kp.refl ha).put _)
theorem D1x (hT:Sc.Wds Γ) {s:Sto} {x:(Nat × Nat × Nat) × Tn} {ba bt bs bd b1 b2 bw:Nat} {Tw:TypeId} {f:Int} (u:Se) (hh:B7l s x ba bt bs bd b1 b2)
  (hw:s.bx bw=some (Tw,[.func (.func 140) [] [.ptr (some ⟨ba,0,none⟩),.ptr (some ⟨bt,0,none⟩),.ptr (some ⟨bs,0,none⟩),.ptr (some ⟨bd,0,none⟩)]]))
  (ha:s.bx ba=some (3,[.int .i64 f])) (hf:0≤f∧f≤x.2.2.2.2.1.length) :
  A6 Tryz.prog Γ 142 [.agg (seA u),.ptr (some ⟨bw,0,none⟩)] s fun v s' =>
   v=.bool (P6 u.1 && whB x.2.2.2.2.1 f u.2)∧∃ f',Kp s s' ba f'∧((P6 u.1 && whB x.2.2.2.2.1 f u.2)=true→f'=u.2+1):=by
 refine acs Tryz.func142 ?_
 conv=>whnf
 intro c hc
 conv=>whnf
 have hn:=A8 hw hc
 have k:=fun (T:TypeId) (z:List AV)=>(Kp.refl ha).fresh hc T z
 repeat' ((first|(refine brS (fun h=>?_) (fun h=>?_)<;>(try rw [h])<;>(try simp only [bS,↓reduceIte] at h))|(refine B6 A7 ?_)|(refine A6.pure' ?_ (G4 hT u.1);rintro _ rfl)|refine C0.pure ?_ (G4 hT u.1)|(refine N1 hn (B6 hw ?_))|(refine A6.by (B5e u.2 (hh.keep (k _ _)) (k _ _).here hf) ?_;rintro _ s2 ⟨rfl,hk2⟩)|refine gS ?_|refine aA ?_|refine nA ?_|fail)<;>(conv=>whnf))
 ·refine ⟨_,Sub.refl _,C3 ?_,_,(k _ _).trans hk2,?_⟩
  ·simp [*]
  ·intro h2
   rw [if_pos ((Bool.and_eq_true _ _).mp h2).2]
 ·refine ⟨_,Sub.refl _,C3 ?_,f,k _ _,?_⟩
  ·simp [*]
  ·intro h2
   simp [*] at h2
theorem C2c (hT:Sc.Wds Γ) {s:Sto} {x:(Nat × Nat × Nat) × Tn} {ba bt bs bd b1 b2 bw bi:Nat} {Tw Ti:TypeId} {f:Int} (u:Se) (hh:B7l s x ba bt bs bd b1 b2)
  (hw:s.bx bw=some (Tw,[.func (.func 140) [] [.ptr (some ⟨ba,0,none⟩),.ptr (some ⟨bt,0,none⟩),.ptr (some ⟨bs,0,none⟩),.ptr (some ⟨bd,0,none⟩)]])) (nw:bw≠ba)
  (hi:s.bx bi=some (Ti,[.func (.func 142) [] [.ptr (some ⟨bw,0,none⟩)]]))
  (ha:s.bx ba=some (3,[.int .i64 f])) (hf:0≤f∧f≤x.2.2.2.2.1.length) :
  A6 Tryz.prog Γ 208 [.agg (seA u),.ptr (some ⟨bi,0,none⟩)] s fun v s' =>
   v=.bool (!(P6 u.1 && whB x.2.2.2.2.1 f u.2))∧∃ f',Kp s s' ba f'∧((P6 u.1 && whB x.2.2.2.2.1 f u.2)=true→f'=u.2+1):=by
 refine acs Tryz.func208 ?_
 conv=>whnf
 intro c hc
 conv=>whnf
 have hn:=A8 hi hc
 have k:=fun (T:TypeId) (z:List AV)=>(Kp.refl ha).fresh hc T z
 repeat' ((first|(refine brS (fun h=>?_) (fun h=>?_)<;>(try rw [h])<;>(try simp only [bS,↓reduceIte] at h))|(refine N1 hn (B6 hi ?_))|(refine B6 A7 ?_)|(refine A6.by (D1x hT u (hh.keep (k _ _)) ((k _ _).bx _ _ nw hw) (k _ _).here hf) ?_;rintro _ s2 ⟨rfl,f',hk2,hB⟩)|refine gS ?_|refine aA ?_|refine nA ?_|fail)<;>(conv=>whnf))
 exact ⟨_,Sub.refl _,rfl,f',(k _ _).trans hk2,hB⟩
theorem C2j (hT:Sc.Wds Γ) {s:Sto} {x:(Nat × Nat × Nat) × Tn} {ba bt bs bd b1 b2 bw bi:Nat} {Tw Ti:TypeId} {f:Int} (t:Nat) (l:List Se) (hl:l.length≤100000) (hh:B7l s x ba bt bs bd b1 b2)
  (hw:s.bx bw=some (Tw,[.func (.func 140) [] [.ptr (some ⟨ba,0,none⟩),.ptr (some ⟨bt,0,none⟩),.ptr (some ⟨bs,0,none⟩),.ptr (some ⟨bd,0,none⟩)]])) (nw:bw≠ba)
  (hi:s.bx bi=some (Ti,[.func (.func 142) [] [.ptr (some ⟨bw,0,none⟩)]])) (ni:bi≠ba)
  (ha:s.bx ba=some (3,[.int .i64 f])) (hf:0≤f∧f≤x.2.2.2.2.1.length) :
  A6 Tryz.prog Γ 241 [.slice t (l.map seA),.func (.func 208) [] [.ptr (some ⟨bi,0,none⟩)]] s fun v s' =>
   ∃ r:Int,v=.int .i64 r∧∃ f',Kp s s' ba f'∧(decide (r ≥ 0)=true∧R6 x.2.2.2.2.1 l f=none∨decide (r ≥ 0)=false∧R6 x.2.2.2.2.1 l f=some f'):=by
 have hml:(l.map seA).length=l.length:=List.length_map ..
 refine acs Tryz.func241 ?_
 conv=>whnf
 refine AWp.loopA [8] [9,10,5,11,12,13,14,15,16,17,4,18] (fun i:Nat=>[.int .i64 i]) (fun i s'=>i≤l.length∧∃ f',Kp s s' ba f'∧(0≤f'∧f'≤x.2.2.2.2.1.length)∧R6 x.2.2.2.2.1 l f=R6 x.2.2.2.2.1 (l.drop i) f') (fun i=>l.length - i) (0) (by kernel_rfl) (eqa) ?_ ?_
 ·exact ⟨by omega,f,Kp.refl ha,hf,by rw [List.drop_zero]⟩
 ·rintro y i s1 ⟨hi1,f',hk,hf',hp⟩
  conv=>whnf
  have hga:=fun h:i < l.length=>C4 (f:=seA) (l:=l) W5 h
  have hd:i < l.length→l.drop i=l.getD i W5::l.drop (i+1):=fun h=>by rw [List.drop_eq_getElem_cons h];simp [List.getD,h]
  generalize l.getD i W5=u at *
  repeat' ((first|(refine brS (fun h=>?_) (fun h=>?_)<;>(try rw [h])<;>(try simp only [bS,↓reduceIte] at h))|(rw [show (l.map seA).getD ((i:Int)).toNat []=_ from hga (by omega)])|(refine A6.by (C2c hT u (hh.keep hk) (hk.bx _ _ nw hw) nw (hk.bx _ _ ni hi) hk.here hf') ?_;rintro _ s2 ⟨rfl,f2,hk2,hB⟩)|refine gS ?_|refine aA ?_|refine nA ?_|fail)<;>(conv=>whnf))
  ·refine ⟨_,Sub.refl _,i,rfl,f2,hk.trans hk2,.inl ⟨decide_eq_true (by omega),?_⟩⟩
   rw [hp,hd (by omega),R6,if_neg (by rw [h];decide)]
  ·have h2:=hB h
   subst h2
   have h3:=B7h ((Bool.and_eq_true _ _).mp h).2
   refine ⟨i+1,eqa,C5,⟨by omega,u.2+1,hk.trans hk2,by omega,?_⟩,by omega⟩
   rw [hp,hd (by omega),R6,if_pos h]
  ·refine ⟨_,Sub.refl _,-1,rfl,f',hk,.inr ⟨rfl,?_⟩⟩
   rw [hp,D5 (by omega)];rfl
theorem B40 (hT:Sc.Wds Γ) {s:Sto} {x:(Nat × Nat × Nat) × Tn} {ba bt bs bd b1 b2 bw bi:Nat} {Tw Ti:TypeId} {f:Int} (t:Nat) (l:List Se) (hl:l.length≤100000) (hh:B7l s x ba bt bs bd b1 b2)
  (hw:s.bx bw=some (Tw,[.func (.func 140) [] [.ptr (some ⟨ba,0,none⟩),.ptr (some ⟨bt,0,none⟩),.ptr (some ⟨bs,0,none⟩),.ptr (some ⟨bd,0,none⟩)]])) (nw:bw≠ba)
  (hi:s.bx bi=some (Ti,[.func (.func 142) [] [.ptr (some ⟨bw,0,none⟩)]])) (ni:bi≠ba)
  (ha:s.bx ba=some (3,[.int .i64 f])) (hf:0≤f∧f≤x.2.2.2.2.1.length) :
  A6 Tryz.prog Γ 207 [.slice t (l.map seA),.func (.func 208) [] [.ptr (some ⟨bi,0,none⟩)]] s fun v s' =>
   ∃ r:Bool,v=.bool r∧∃ f',Kp s s' ba f'∧(r=true∧R6 x.2.2.2.2.1 l f=none∨r=false∧R6 x.2.2.2.2.1 l f=some f'):=by
 refine acs Tryz.func207 ?_
 refine wr ?_;(refine A6.by (C2j hT t l hl hh hw nw hi ni ha hf) ?_;rintro _ s2 ⟨r,rfl,f',hk,hr⟩);refine wr ?_
 exact ⟨_,Sub.refl _,_,rfl,f',hk,hr⟩
theorem B77 (hT:Sc.Wds Γ) {s:Sto} {x:(Nat × Nat × Nat) × Tn} {ba bt bs bd b1 b2 bw:Nat} {Tw:TypeId} {f:Int} (t:Nat) (l:List Se) (hl:l.length≤100000) (hh:B7l s x ba bt bs bd b1 b2)
  (hw:s.bx bw=some (Tw,[.func (.func 140) [] [.ptr (some ⟨ba,0,none⟩),.ptr (some ⟨bt,0,none⟩),.ptr (some ⟨bs,0,none⟩),.ptr (some ⟨bd,0,none⟩)]])) (nw:bw≠ba)
  (ha:s.bx ba=some (3,[.int .i64 f])) (hf:0≤f∧f≤x.2.2.2.2.1.length) :
  A6 Tryz.prog Γ 141 [.slice t (l.map seA),.func (.func 142) [] [.ptr (some ⟨bw,0,none⟩)]] s fun v s' =>
   ∃ r:Bool,v=.bool r∧∃ f',Kp s s' ba f'∧(r=false∧R6 x.2.2.2.2.1 l f=none∨r=true∧R6 x.2.2.2.2.1 l f=some f'):=by
 refine acs Tryz.func141 ?_
 conv=>whnf
 intro c hc
 conv=>whnf
 have k:=fun (T:TypeId) (z:List AV)=>(Kp.refl ha).fresh hc T z
 have nc:=A8 ha hc
 refine wr ?_;(refine A6.by (B40 hT t l hl (hh.keep (k _ _)) ((k _ _).bx _ _ nw hw) nw A7 (fun h=>nc h.symm) (k _ _).here hf) ?_;rintro _ s2 ⟨r,rfl,f',hk,hr⟩);refine wr ?_
 refine ⟨_,Sub.refl _,_,rfl,f',(k _ _).trans hk,?_⟩
 rcases hr with ⟨rfl,h⟩|⟨rfl,h⟩
 ·exact .inl ⟨rfl,h⟩
 ·exact .inr ⟨rfl,h⟩
theorem B1d (hT:Sc.Wds Γ) (x:(Nat × Nat × Nat) × Tn) (hx:x.2.2.2.1.2.1.length≤100000∧x.2.2.2.2.1.length≤100000∧x.2.2.2.2.2.2.length≤100000):B7 Tryz.prog Γ 89 [.agg (tnA x)] fun v=>v=.bool (trB x):=by
 obtain ⟨hx1,hx2,hx3⟩:=hx
 have hle:(x.2.2.2.2.1.map exA).length=x.2.2.2.2.1.length:=List.length_map ..
 have htr:trB x=(P6 x.2.1 && (P6 x.2.2.1 && (A2z (x.1.1,x.2.2.2.1) && decide ((B2a x.2.2.2.2.1 x.2.2.2.2.2.1).bind (R6 x.2.2.2.2.1 x.2.2.2.2.2.2)=some (x.2.2.2.2.1.length:Int))))):=rfl
 have hgo:B2a x.2.2.2.2.1 x.2.2.2.2.2.1=if x.2.2.2.2.2.1 = -1 then some 0 else if whB x.2.2.2.2.1 0 x.2.2.2.2.2.1=true then some (x.2.2.2.2.2.1+1) else none:=rfl
 refine aps Tryz.func89 ?_
 intro s
 conv=>whnf
 intro bt hbt
 refine wr ?_
 refine A6.by (C3v Sc.D4 _ x.2.2.2.2.1 (by omega) (fun _ _=>Sc.Q0 hT _) _) ?_
 rintro _ s1 ⟨b1,b2,rfl,hz⟩
 refine wr ?_
 have z1:=hz.size
 have z2:=hz.depth
 have z3:s1.bx bt=some (43,tnA x):=hz.sub.bx _ _ A7
 have n_b1_b2:=hz.ne
 intro bs hbs
 have n_bt_bs:bt≠bs:=A8 bxa hbs
 have n_bs_bt:=n_bt_bs.symm
 have n_b1_bs:b1≠bs:=A8 bxa hbs
 have n_bs_b1:=n_b1_bs.symm
 have n_b2_bs:b2≠bs:=A8 bxa hbs
 have n_bs_b2:=n_b2_bs.symm
 conv=>whnf
 intro bd hbd
 have n_bs_bd:bs≠bd:=A8 bxa hbd
 have n_bd_bs:=n_bs_bd.symm
 have n_bt_bd:bt≠bd:=A8 bxa hbd
 have n_bd_bt:=n_bt_bd.symm
 have n_b1_bd:b1≠bd:=A8 bxa hbd
 have n_bd_b1:=n_b1_bd.symm
 have n_b2_bd:b2≠bd:=A8 bxa hbd
 have n_bd_b2:=n_b2_bd.symm
 refine wr ?_
 intro ba hba
 have n_bs_ba:bs≠ba:=A8 bxa hba
 have n_ba_bs:=n_bs_ba.symm
 have n_bd_ba:bd≠ba:=A8 bxa hba
 have n_ba_bd:=n_bd_ba.symm
 have n_bt_ba:bt≠ba:=A8 bxa hba
 have n_ba_bt:=n_bt_ba.symm
 have n_b1_ba:b1≠ba:=A8 bxa hba
 have n_ba_b1:=n_b1_ba.symm
 have n_b2_ba:b2≠ba:=A8 bxa hba
 have n_ba_b2:=n_b2_ba.symm
 refine wr ?_
 intro bw hbw
 have n_bs_bw:bs≠bw:=A8 bxa hbw
 have n_bw_bs:=n_bs_bw.symm
 have n_bd_bw:bd≠bw:=A8 bxa hbw
 have n_bw_bd:=n_bd_bw.symm
 have n_bt_bw:bt≠bw:=A8 bxa hbw
 have n_bw_bt:=n_bt_bw.symm
 have n_b1_bw:b1≠bw:=A8 bxa hbw
 have n_bw_b1:=n_b1_bw.symm
 have n_b2_bw:b2≠bw:=A8 bxa hbw
 have n_bw_b2:=n_b2_bw.symm
 have n_ba_bw:ba≠bw:=A8 bxa hbw
 have n_bw_ba:=n_ba_bw.symm
 refine wr ?_
 have hsub:Ab.Sub s s1:=((Sub.refl _).set hbt _ _).trans hz.sub
 have g1:=hsub.none hbs
 have g2:s.bx bd=none:=by (have g:=hbd;(repeat (replace g:=(D7 g).2));exact hsub.none g)
 have g3:s.bx ba=none:=by (have g:=hba;(repeat (replace g:=(D7 g).2));exact hsub.none g)
 have g4:s.bx bw=none:=by (have g:=hbw;(repeat (replace g:=(D7 g).2));exact hsub.none g)
 repeat' ((first|(refine brS (fun h=>?_) (fun h=>?_)<;>(try rw [h])<;>(try simp only [bS,↓reduceIte] at h))|refine E9 ?_|(refine A6.pure' ?_ (G4 hT x.2.1);rintro _ rfl)|refine C0.pure ?_ (G4 hT x.2.1)|(refine A6.pure' ?_ (G4 hT x.2.2.1);rintro _ rfl)|refine C0.pure ?_ (G4 hT x.2.2.1)|(refine A6.pure' ?_ (A6t hT (x.1.1,x.2.2.2.1) hx1);rintro _ rfl)|refine C0.pure ?_ (A6t hT (x.1.1,x.2.2.2.1) hx1)|(refine A6.by (B5e (x:=x) (bt:=bt) (bs:=bs) (bd:=bd) (b1:=b1) (b2:=b2) (f:=0) x.2.2.2.2.2.1 ⟨hx2,bxa,bxa,bxa,bxa,bxa,n_bt_ba,n_bs_ba,n_bd_ba,n_b1_ba,n_b2_ba⟩ bxa ⟨by omega,by omega⟩) ?_;rintro _ s2 ⟨rfl,hk2⟩)|refine gS ?_|refine aA ?_|refine nA ?_|fail)<;>(conv=>whnf))
 ·exact ⟨(by (repeat (first|exact hsub|refine Sub.set ?_ (by assumption) _ _))),C3 (by rw [htr];simp [*])⟩
 ·exact ⟨(by (repeat (first|exact hsub|refine Sub.set ?_ (by assumption) _ _))),C3 (by rw [htr];simp [*])⟩
 ·exact ⟨(by (repeat (first|exact hsub|refine Sub.set ?_ (by assumption) _ _))),C3 (by rw [htr];simp [*])⟩
 ·refine ⟨hk2.sub s (by (repeat (first|exact hsub|refine Sub.set ?_ (by assumption) _ _))) g3,C3 ?_⟩
  rw [htr,hgo,if_neg (by assumption),if_neg (by simp [*])]
  simp
 ·have hwh:=h
  have hle0:=B7h hwh
  have e0:trB x=decide (R6 x.2.2.2.2.1 x.2.2.2.2.2.2 (x.2.2.2.2.2.1+1)=some (x.2.2.2.2.1.length:Int)):=by
   rw [htr,hgo]
   simp only [*,Bool.true_and,if_true,if_false,Option.bind_some]
  rw [if_pos hwh] at hk2
  have hh2:=B7l.keep (x:=x) (bt:=bt) (bs:=bs) (bd:=bd) (b1:=b1) (b2:=b2) ⟨hx2,bxa,bxa,bxa,bxa,bxa,n_bt_ba,n_bs_ba,n_bd_ba,n_b1_ba,n_b2_ba⟩ hk2
  have y1:=hk2.bx bw _ n_bw_ba A7
  have y2:=hh2.tr
  have s0:=hk2.sub s (by (repeat (first|exact hsub|refine Sub.set ?_ (by assumption) _ _))) g3
  repeat' ((first|(refine brS (fun h=>?_) (fun h=>?_)<;>(try rw [h])<;>(try simp only [bS,↓reduceIte] at h))|refine E9 ?_|(refine A6.by (B77 hT (bw:=bw) (f:=x.2.2.2.2.2.1+1) _ x.2.2.2.2.2.2 hx3 hh2 y1 n_bw_ba hk2.here ⟨by omega,by omega⟩) ?_;rintro _ s3 ⟨r,rfl,f',hk3,hr⟩;have y3:=hk3.here;have y4:=hk3.bx _ _ n_bt_ba y2)|refine gS ?_|refine aA ?_|refine nA ?_|fail)<;>(conv=>whnf))
  all_goals refine ⟨hk3.sub s s0 g3,C3 ?_⟩
  all_goals (rw [e0])
  all_goals (rcases hr with ⟨rfl,hs⟩|⟨rfl,hs⟩<;>(rw [hs];simp [*] at *))
 ·have e0:trB x=decide (R6 x.2.2.2.2.1 x.2.2.2.2.2.2 0=some (x.2.2.2.2.1.length:Int)):=by
   rw [htr,hgo]
   simp only [*,Bool.true_and,if_true,if_false,Option.bind_some]
  repeat' ((first|(refine brS (fun h=>?_) (fun h=>?_)<;>(try rw [h])<;>(try simp only [bS,↓reduceIte] at h))|refine E9 ?_|(refine A6.by (B77 hT (x:=x) (bt:=bt) (bs:=bs) (bd:=bd) (b1:=b1) (b2:=b2) (bw:=bw) (f:=0) _ x.2.2.2.2.2.2 hx3 ⟨hx2,bxa,bxa,bxa,bxa,bxa,n_bt_ba,n_bs_ba,n_bd_ba,n_b1_ba,n_b2_ba⟩ bxa n_bw_ba bxa ⟨by omega,by omega⟩) ?_;rintro _ s3 ⟨r,rfl,f',hk3,hr⟩;have y3:=hk3.here;have y4:=hk3.bx bt (43,tnA x) n_bt_ba bxa)|refine gS ?_|refine aA ?_|refine nA ?_|fail)<;>(conv=>whnf))
  all_goals refine ⟨hk3.sub s (by (repeat (first|exact hsub|refine Sub.set ?_ (by assumption) _ _))) g3,C3 ?_⟩
  all_goals (rw [e0])
  all_goals (rcases hr with ⟨rfl,hs⟩|⟨rfl,hs⟩<;>(rw [hs];simp [*] at *))
theorem A8z (x:Nat × Sy) (hl:x.2.2.1.length≤100000):B7 Tryz.prog Γ 41 [.agg (syA x)] fun v=>v=.bool (A2z x):=by
  have hlx:(x.2.2.1.map arA).length=x.2.2.1.length:=List.length_map ..
  refine aps Tryz.func41 ?_
  intro s
  conv=>whnf
  intro b hb
  refine wr ?_
  refine AWp.loopA [3] [6,7,8,9,10,13,14,15,16,17,4,18,5,19,20,21,22,23,24,25,26,27,28,29,30,31,32,33,34,35,36,37,38,39,40,41,42,43,44,45,46,47,48,49,50,51,52,53,54,55,56,57,58,59,60,61,62,63,64,65,66,67,68,69,70,71,72,73,74,75,2,11,12] (fun i:Nat=>[.int .i64 i]) (fun i s'=>i≤x.2.2.1.length∧s'.bx b=some (39,syA x)∧Sub s s'∧x.2.2.1.all A6a=(x.2.2.1.drop i).all A6a) (fun i=>x.2.2.1.length - i) (0) (by kernel_rfl) (eqa) ?_ ?_
  · exact ⟨by omega,A7,(Sub.refl _).set hb _ _,by rw [List.drop_zero]⟩
  · rintro q i s1 ⟨hi,h1,hs1,hp⟩
    conv=>whnf
    have hga:=fun h:i < x.2.2.1.length=>C4 (f:=arA) (l:=x.2.2.1) A02 h
    have hd:=fun h:i < x.2.2.1.length=>J8 (p:=A6a) A02 h
    by_cases hlt:i < x.2.2.1.length
    · have hga:=hga hlt
      have hd:=hd hlt
      generalize x.2.2.1.getD i A02=u at *
      have hev:=B8s u.2.2.1 R5
      simp only [R5] at hev
      repeat' ((first|exact pru|(refine brS (fun h=>?_) (fun h=>?_)<;>(try rw [h])<;>(try simp only [bS,↓reduceIte] at h))|(refine B6 h1 ?_)|(rw [show (x.2.2.1.map arA).getD ((i:Int)).toNat []=_ from hga])|refine gS ?_|refine aA ?_|refine nA ?_|fail)<;>(conv=>whnf))
      intro c hc
      conv=>whnf
      refine B6 A7 ?_
      refine wr ?_
      intro d hd2
      conv=>whnf
      refine B6 A7 ?_
      have ncd:=A8 A7 hd2
      have hd3:=(D7 (D7 hd2).2).2
      have n1:=A8 h1 hc
      have n2:=A8 h1 hd3
      have hcs:=hs1.none hc
      have hds:=hs1.none hd3
      have keep:=fun (T1 T2 T3 T4:TypeId) (y1 y2 y3 y4:List AV)=>(A9 (s:=((s1.set c T1 y1).set c T2 y2).set d T3 y3) (T:=T4) (cs:=y4) n2).trans ((A9 n2).trans ((A9 n1).trans ((A9 n1).trans h1)))
      have sub:=fun (T1 T2 T3 T4:TypeId) (y1 y2 y3 y4:List AV)=>(((hs1.set hcs T1 y1).set hcs T2 y2).set hds T3 y3).set hds T4 y4
      repeat' ((first|exact pru|(refine brS (fun h=>?_) (fun h=>?_)<;>(try rw [h])<;>(try simp only [bS,↓reduceIte] at h))|(refine B6 A7 ?_)|(refine B6 ((A9 ncd).trans ((A9 ncd).trans A7)) ?_)|(refine A6.pure' ?_ (Z0 u.2.2.1);rintro _ rfl)|refine C0.pure ?_ (Z0 u.2.2.1)|(refine A6.pure' ?_ (Sc.F9 _);rintro _ rfl)|refine C0.pure ?_ (Sc.F9 _)|(refine P4.of B0s A6s ?_)|refine gS ?_|refine aA ?_|refine nA ?_|fail)<;>(conv=>whnf))
      all_goals first
        | (refine ⟨sub _ _ _ _ _ _ _ _,C3 ?_⟩
           unfold A2z
           rw [hp,hd,show A6a u=false from by clear keep sub hc hd2 hd3 hcs hds hp hd hga;unfold A6a;grind [R5]]
           simp)
        | (refine ⟨i+1,eqa,C5,⟨by omega,keep _ _ _ _ _ _ _ _,sub _ _ _ _ _ _ _ _,?_⟩,by omega⟩
           rw [hp,hd,show A6a u=true from by clear keep sub hc hd2 hd3 hcs hds hp hd hga;unfold A6a;grind [R5]]
           simp)
    · refine wp ?_;(first|(refine A6.pure' ?_ (Sc.F9 _);rintro _ rfl)|refine C0.pure ?_ (Sc.F9 _));refine wp ?_
      all_goals first|refine ⟨hs1,C3 ?_⟩|refine C3 ?_
      all_goals unfold A2z
      all_goals rw [hp,D5 (by omega)]
      all_goals simp
theorem A1b (t:Nat) (l:List Ex) (hl:l.length≤100000) (f root:Int) (hf:0≤f∧f≤l.length):B7 Tryz.prog Γ 98 [.slice t (l.map exA),.int .i64 f,.int .i64 root] fun v=>v=.bool (whB l f root):=by
 by_cases hr:0≤root∧root < l.length
 ·have hsz:=B6m t l (by omega) (root.toNat+1) root.toNat (by omega) (by omega) Γ
  have hdp:=fun h=>B3e t l (by omega) (root.toNat+1) root.toNat (by omega) (by omega) h Γ
  simp only [show ((root.toNat:Nat):Int)=root by omega] at hsz hdp
  have hbd:=A1k Sc.D4 l (i:=root.toNat) (by omega)
  have hwh:whB l f root=(decide (f≤root) && (decide (root < l.length) && (decide ((nd Sc.D4 l root.toNat).1=root - f+1) && decide ((nd Sc.D4 l root.toNat).2≤64)))):=rfl
  generalize whB l f root=B at *
  generalize nd Sc.D4 l root.toNat=p at *
  have hw:IntKind.i64.wrap (IntKind.i64.wrap (root - p.1)+1)=root - p.1+1:=by rw [C7 (b:=root - p.1) rfl (by omega) (by omega)];exact C7 rfl (by omega) (by omega)
  refine aps Tryz.func98 ?_
  intro s
  conv=>whnf
  repeat' ((first|exact pru|(refine brS (fun h=>?_) (fun h=>?_)<;>(try rw [h])<;>(try simp only [bS,↓reduceIte] at h))|(refine A6.pure' ?_ (hsz);rintro _ rfl)|refine C0.pure ?_ (hsz)|(refine A6.pure' ?_ (hdp (by omega));rintro _ rfl)|refine C0.pure ?_ (hdp (by omega))|(rw [hw])|refine gS ?_|refine aA ?_|refine nA ?_|fail)<;>(conv=>whnf))
  all_goals refine C3 ?_
  all_goals (rw [hwh];clear hsz hdp hwh;grind)
 ·have hsz:=B3h (Γ:=Γ) t l (i:=root) (by omega)
  have hwh:whB l f root=false:=by
   cases hB:whB l f root with
   | false=>rfl
   | true =>
    unfold whB at hB
    simp only [Bool.and_eq_true,decide_eq_true_eq] at hB
    omega
  rw [hwh]
  refine aps Tryz.func98 ?_
  intro s
  refine wp ?_
  all_goals rfl
theorem B3j (x:(Nat × Nat × Nat) × Tn) (hx:x.2.2.2.1.2.1.length≤100000∧x.2.2.2.2.1.length≤100000∧x.2.2.2.2.2.2.length≤100000):B7 Tryz.prog Γ 42 [.agg (tnA x)] fun v=>v=.bool (trB x):=by
 obtain ⟨hx1,hx2,hx3⟩:=hx
 have hle:(x.2.2.2.2.1.map exA).length=x.2.2.2.2.1.length:=List.length_map ..
 have hls:(x.2.2.2.2.2.2.map seA).length=x.2.2.2.2.2.2.length:=List.length_map ..
 have htr:trB x=(P6 x.2.1 && (P6 x.2.2.1 && (A2z (x.1.1,x.2.2.2.1) && decide ((B2a x.2.2.2.2.1 x.2.2.2.2.2.1).bind (R6 x.2.2.2.2.1 x.2.2.2.2.2.2)=some (x.2.2.2.2.1.length:Int))))):=rfl
 have hgo:B2a x.2.2.2.2.1 x.2.2.2.2.2.1=if x.2.2.2.2.2.1 = -1 then some 0 else if whB x.2.2.2.2.1 0 x.2.2.2.2.2.1=true then some (x.2.2.2.2.2.1+1) else none:=rfl
 have hle0:=B7h (l:=x.2.2.2.2.1) (f:=0) (g:=x.2.2.2.2.2.1)
 have n1:P6 x.2.1=Sc.D4 x.2.1.1:=rfl
 have n2:P6 x.2.2.1=Sc.D4 x.2.2.1.1:=rfl
 generalize hB0:whB x.2.2.2.2.1 0 x.2.2.2.2.2.1=B0 at *
 have hwg:IntKind.i64.wrap (x.2.2.2.2.2.1+1)=x.2.2.2.2.2.1+1∨B0=false:=by
  cases hB1:B0 with
  | false=>exact .inr rfl
  | true=>have:=hle0 hB1;exact .inl (C7 rfl (by omega) (by omega))
 refine aps Tryz.func42 ?_
 intro s
 conv=>whnf
 intro b hb
 conv=>whnf
 repeat' ((first|(refine brS (fun h=>?_) (fun h=>?_)<;>(try rw [h])<;>(try simp only [bS,↓reduceIte] at h))|(refine B6 A7 ?_)|(refine A6.pure' ?_ (Sc.F9 _);rintro _ rfl)|refine C0.pure ?_ (Sc.F9 _)|(refine A6.pure' ?_ (A8z (x.1.1,x.2.2.2.1) hx1);rintro _ rfl)|refine C0.pure ?_ (A8z (x.1.1,x.2.2.2.1) hx1)|(refine A6.pure' ?_ (hB0 ▸ A1b _ x.2.2.2.2.1 hx2 0 x.2.2.2.2.2.1 (by omega));rintro _ rfl)|refine C0.pure ?_ (hB0 ▸ A1b _ x.2.2.2.2.1 hx2 0 x.2.2.2.2.2.1 (by omega))|refine gS ?_|refine aA ?_|refine nA ?_|fail)<;>(conv=>whnf))
 all_goals try (refine ⟨(Sub.refl _).set hb _ _,C3 ?_⟩;rw [htr,hgo];simp [*];done)
 ·have hle1:=hle0 (by assumption)
  have e0:trB x=decide (R6 x.2.2.2.2.1 x.2.2.2.2.2.2 (x.2.2.2.2.2.1+1)=some (x.2.2.2.2.1.length:Int)):=by
   rw [htr,hgo]
   simp only [*,Bool.true_and,if_true,if_false,Option.bind_some]
  refine AWp.loopA [3,4] [35,36,37,38,39,42,43,44,45,46,47,48,49,50,51,52,53,54,55,56,57,58,59,60,61,62,63,2,64,65,66,67,68,69,70,40,41] (fun a:Nat × Int=>[.int .i64 a.2,.int .i64 a.1]) (fun a s'=>a.1≤x.2.2.2.2.2.2.length∧(0≤a.2∧a.2≤x.2.2.2.2.1.length)∧s'.bx b=some (43,tnA x)∧Ab.Sub s s'∧trB x=decide (R6 x.2.2.2.2.1 (x.2.2.2.2.2.2.drop a.1) a.2=some (x.2.2.2.2.1.length:Int))) (fun a=>x.2.2.2.2.2.2.length - a.1) ((0,x.2.2.2.2.2.1+1)) (by kernel_rfl) (eqa) ?_ ?_
  ·exact ⟨by simp,⟨by simp only;omega,by simp only;omega⟩,A7,(Sub.refl _).set hb _ _,by rw [e0];rfl⟩
  ·rintro y ⟨i,f⟩ s1 ⟨hi,hf,h1,hs1,hp⟩
   simp only at hi hf h1 hp
   conv=>whnf
   have hga:=fun h:i < x.2.2.2.2.2.2.length=>C4 (f:=seA) (l:=x.2.2.2.2.2.2) W5 h
   have hd:i < x.2.2.2.2.2.2.length→x.2.2.2.2.2.2.drop i=x.2.2.2.2.2.2.getD i W5::x.2.2.2.2.2.2.drop (i+1):=fun h=>by rw [List.drop_eq_getElem_cons h];simp [List.getD,h]
   generalize x.2.2.2.2.2.2.getD i W5=u at *
   have hu:P6 u.1=Sc.D4 u.1.1:=rfl
   have hle1:=B7h (l:=x.2.2.2.2.1) (f:=f) (g:=u.2)
   repeat' ((first|exact pru|(refine brS (fun h=>?_) (fun h=>?_)<;>(try rw [h])<;>(try simp only [bS,↓reduceIte] at h))|(refine B6 h1 ?_)|(rw [show (x.2.2.2.2.2.2.map seA).getD ((i:Int)).toNat []=_ from hga (by omega)])|(refine A6.pure' ?_ (Sc.F9 _);rintro _ rfl)|refine C0.pure ?_ (Sc.F9 _)|(refine A6.pure' ?_ (A1b _ x.2.2.2.2.1 hx2 f u.2 hf);rintro _ rfl)|refine C0.pure ?_ (A1b _ x.2.2.2.2.1 hx2 f u.2 hf)|refine gS ?_|refine aA ?_|refine nA ?_|fail)<;>(conv=>whnf))
   ·refine C3 ?_
    rw [hp,hd (by omega),R6,hu,if_neg (by simp [*])]
    rfl
   ·refine C3 ?_
    rw [hp,hd (by omega),R6,hu,if_neg (by simp [*])]
    rfl
   ·have hle2:=hle1 (by assumption)
    refine ⟨(i+1,u.2+1),eqa,C5,⟨by simp only;omega,⟨by simp only;omega,by simp only;omega⟩,h1,hs1,?_⟩,by simp only;omega⟩
    rw [hp,hd (by omega),R6,hu,if_pos (by simp [*])]
   ·refine C3 ?_
    rw [hp,D5 (by omega),R6]
    simp [hle]
 ·have e0:trB x=decide (R6 x.2.2.2.2.1 x.2.2.2.2.2.2 0=some (x.2.2.2.2.1.length:Int)):=by
   rw [htr,hgo]
   simp only [*,Bool.true_and,if_true,if_false,Option.bind_some]
  refine AWp.loopA [3,4] [35,36,37,38,39,42,43,44,45,46,47,48,49,50,51,52,53,54,55,56,57,58,59,60,61,62,63,2,64,65,66,67,68,69,70,40,41] (fun a:Nat × Int=>[.int .i64 a.2,.int .i64 a.1]) (fun a s'=>a.1≤x.2.2.2.2.2.2.length∧(0≤a.2∧a.2≤x.2.2.2.2.1.length)∧s'.bx b=some (43,tnA x)∧Ab.Sub s s'∧trB x=decide (R6 x.2.2.2.2.1 (x.2.2.2.2.2.2.drop a.1) a.2=some (x.2.2.2.2.1.length:Int))) (fun a=>x.2.2.2.2.2.2.length - a.1) ((0,0)) (by kernel_rfl) (eqa) ?_ ?_
  ·exact ⟨by simp,⟨by simp only;omega,by simp only;omega⟩,A7,(Sub.refl _).set hb _ _,by rw [e0];rfl⟩
  ·rintro y ⟨i,f⟩ s1 ⟨hi,hf,h1,hs1,hp⟩
   simp only at hi hf h1 hp
   conv=>whnf
   have hga:=fun h:i < x.2.2.2.2.2.2.length=>C4 (f:=seA) (l:=x.2.2.2.2.2.2) W5 h
   have hd:i < x.2.2.2.2.2.2.length→x.2.2.2.2.2.2.drop i=x.2.2.2.2.2.2.getD i W5::x.2.2.2.2.2.2.drop (i+1):=fun h=>by rw [List.drop_eq_getElem_cons h];simp [List.getD,h]
   generalize x.2.2.2.2.2.2.getD i W5=u at *
   have hu:P6 u.1=Sc.D4 u.1.1:=rfl
   have hle1:=B7h (l:=x.2.2.2.2.1) (f:=f) (g:=u.2)
   repeat' ((first|exact pru|(refine brS (fun h=>?_) (fun h=>?_)<;>(try rw [h])<;>(try simp only [bS,↓reduceIte] at h))|(refine B6 h1 ?_)|(rw [show (x.2.2.2.2.2.2.map seA).getD ((i:Int)).toNat []=_ from hga (by omega)])|(refine A6.pure' ?_ (Sc.F9 _);rintro _ rfl)|refine C0.pure ?_ (Sc.F9 _)|(refine A6.pure' ?_ (A1b _ x.2.2.2.2.1 hx2 f u.2 hf);rintro _ rfl)|refine C0.pure ?_ (A1b _ x.2.2.2.2.1 hx2 f u.2 hf)|refine gS ?_|refine aA ?_|refine nA ?_|fail)<;>(conv=>whnf))
   ·refine C3 ?_
    rw [hp,hd (by omega),R6,hu,if_neg (by simp [*])]
    rfl
   ·refine C3 ?_
    rw [hp,hd (by omega),R6,hu,if_neg (by simp [*])]
    rfl
   ·have hle2:=hle1 (by assumption)
    refine ⟨(i+1,u.2+1),eqa,C5,⟨by simp only;omega,⟨by simp only;omega,by simp only;omega⟩,h1,hs1,?_⟩,by simp only;omega⟩
    rw [hp,hd (by omega),R6,hu,if_pos (by simp [*])]
   ·refine C3 ?_
    rw [hp,D5 (by omega),R6]
    simp [hle]
theorem C4z (hT:Sc.Wds Γ) {s:Sto} {b:Nat} {T0:TypeId} (u:(Nat × Nat × Nat) × Tn) (hu:(u.2.2.2.1.2.1.length≤100000∧u.2.2.2.2.1.length≤100000∧u.2.2.2.2.2.2.length≤100000)) (hb:s.bx b=some (T0,[.func (.func 89) [] []])):A6 Tryz.prog Γ 139 [.agg (tnA u),.ptr (some ⟨b,0,none⟩)] s fun v s'=>v=.bool (!trB u)∧s'=s:=by
 refine acs Tryz.func139 ?_
 conv=>whnf
 intro c hc
 conv=>whnf
 have hn:=A8 hb hc
 repeat' ((first|(refine brS (fun h=>?_) (fun h=>?_)<;>(try rw [h])<;>(try simp only [bS,↓reduceIte] at h))|(refine N1 hn (B6 hb ?_))|(refine B6 A7 ?_)|(refine A6.pure' ?_ (B1d hT u hu);rintro _ rfl)|refine C0.pure ?_ (B1d hT u hu)|refine gS ?_|refine aA ?_|refine nA ?_|fail)<;>(conv=>whnf))
 exact ⟨_,(Sub.refl _).set hc _ _,rfl,rfl⟩
theorem B7x (hT:Sc.Wds Γ) {s:Sto} {b:Nat} {T0:TypeId} (t:Nat) (l:List ((Nat × Nat × Nat) × Tn)) (hl:l.length≤100000) (hm:∀ x ∈ l,(x.2.2.2.1.2.1.length≤100000∧x.2.2.2.2.1.length≤100000∧x.2.2.2.2.2.2.length≤100000)) (hb:s.bx b=some (T0,[.func (.func 89) [] []])) :
  A6 Tryz.prog Γ 206 [.slice t (l.map tnA),.func (.func 139) [] [.ptr (some ⟨b,0,none⟩)]] s fun v s'=>∃ r:Int,v=.int .i64 r∧decide (r ≥ 0) = !l.all trB∧s'=s:=by
 have hml:(l.map tnA).length=l.length:=List.length_map ..
 refine acs Tryz.func206 ?_
 conv=>whnf
 refine AWp.loopA [8] [9,10,5,11,12,13,14,15,16,17,4,18] (fun i:Nat=>[.int .i64 i]) (fun i s'=>i≤l.length∧s'=s∧l.all trB=(l.drop i).all trB) (fun i=>l.length - i) (0) (by kernel_rfl) (eqa) ?_ ?_
 ·exact ⟨by omega,rfl,by simp⟩
 ·rintro y i _ ⟨hi,rfl,hp⟩
  conv=>whnf
  have hga:=fun h:i < l.length=>C4 (f:=tnA) (l:=l) U1 h
  have hd:=fun h:i < l.length=>J8 (p:=trB) U1 h
  have hmx:=fun h:i < l.length=>hm _ (D9 U1 h)
  generalize l.getD i U1=u at *
  repeat' ((first|(refine brS (fun h=>?_) (fun h=>?_)<;>(try rw [h])<;>(try simp only [bS,↓reduceIte] at h))|(rw [show (l.map tnA).getD ((i:Int)).toNat []=_ from hga (by omega)])|(refine A6.by (C4z hT u (hmx (by omega)) hb) ?_;rintro _ _ ⟨rfl,rfl⟩)|refine gS ?_|refine aA ?_|refine nA ?_|fail)<;>(conv=>whnf))
  ·refine ⟨_,Sub.refl _,i,rfl,?_,rfl⟩
   rw [hp,hd (by omega),h,decide_eq_true (by omega)];rfl
  ·refine ⟨i+1,eqa,C5,⟨by omega,rfl,?_⟩,by omega⟩
   rw [hp,hd (by omega),h,Bool.true_and]
  ·refine ⟨_,Sub.refl _,-1,rfl,?_,rfl⟩
   rw [hp,D5 (by omega)];rfl
theorem B13 (hT:Sc.Wds Γ) {s:Sto} {b:Nat} {T0:TypeId} (t:Nat) (l:List ((Nat × Nat × Nat) × Tn)) (hl:l.length≤100000) (hm:∀ x ∈ l,(x.2.2.2.1.2.1.length≤100000∧x.2.2.2.2.1.length≤100000∧x.2.2.2.2.2.2.length≤100000)) (hb:s.bx b=some (T0,[.func (.func 89) [] []])) :
  A6 Tryz.prog Γ 138 [.slice t (l.map tnA),.func (.func 139) [] [.ptr (some ⟨b,0,none⟩)]] s fun v s'=>v=.bool (!l.all trB)∧s'=s:=by
 refine acs Tryz.func138 ?_
 conv=>whnf
 repeat' ((first|(refine brS (fun h=>?_) (fun h=>?_)<;>(try rw [h])<;>(try simp only [bS,↓reduceIte] at h))|(refine A6.by (B7x hT t l hl hm hb) ?_;rintro _ _ ⟨r,rfl,hr,rfl⟩)|refine gS ?_|refine aA ?_|refine nA ?_|fail)<;>(conv=>whnf))
 exact ⟨_,Sub.refl _,C3 hr,rfl⟩
theorem B2x (hT:Sc.Wds Γ) (t:Nat) (l:List ((Nat × Nat × Nat) × Tn)) (hl:l.length≤100000) (hm:∀ x ∈ l,(x.2.2.2.1.2.1.length≤100000∧x.2.2.2.2.1.length≤100000∧x.2.2.2.2.2.2.length≤100000)):B7 Tryz.prog Γ 88 [.slice t (l.map tnA),.func (.func 89) [] []] fun v=>v=.bool (l.all trB):=by
 refine aps Tryz.func88 ?_
 intro s
 conv=>whnf
 intro b hb
 conv=>whnf
 repeat' ((first|(refine brS (fun h=>?_) (fun h=>?_)<;>(try rw [h])<;>(try simp only [bS,↓reduceIte] at h))|(refine A6.by (B13 hT t l hl hm A7) ?_;rintro _ _ ⟨rfl,rfl⟩)|refine gS ?_|refine aA ?_|refine nA ?_|fail)<;>(conv=>whnf))
 exact ⟨(Sub.refl _).set hb _ _,C3 (by simp)⟩
theorem B9h (x:Tr0):A0i x=(P6 x.1 && (P6 x.2.2.2.2.2.1 && (x.2.1.all A4r && (x.2.2.1.all A04 && (x.2.2.2.1.all A3d && (x.2.2.2.2.1.all Z2 && (x.2.2.2.2.2.2.1.all A2z && x.2.2.2.2.2.2.2.all trB))))))):=rfl
theorem B1b (hT:Sc.Wds Γ) (tk:Nat→Nat) (x:Tr0) (hx:A3b x):B7 Tryz.prog Γ 20 [.agg (trA tk x)] fun v=>v=.bool (A0i x):=by
 obtain ⟨⟨m1,m2,m3,m4,m5,m6⟩,m7,m8,m9⟩:=hx
 rw [B9h]
 refine aps Tryz.func20 ?_
 intro s
 conv=>whnf
 intro b hb
 conv=>whnf
 repeat' ((first|(refine brS (fun h=>?_) (fun h=>?_)<;>(try rw [h])<;>(try simp only [bS,↓reduceIte] at h))|refine E9 ?_|(refine A6.pure' ?_ (G4 hT x.1);rintro _ rfl)|refine C0.pure ?_ (G4 hT x.1)|(refine A6.pure' ?_ (G4 hT x.2.2.2.2.2.1);rintro _ rfl)|refine C0.pure ?_ (G4 hT x.2.2.2.2.2.1)|(refine A6.pure' ?_ (B4l hT _ x.2.1 (by omega) (fun d h=>by have:=m7 d h;omega));rintro _ rfl)|refine C0.pure ?_ (B4l hT _ x.2.1 (by omega) (fun d h=>by have:=m7 d h;omega))|(refine A6.pure' ?_ (B2v hT _ x.2.2.1 (by omega));rintro _ rfl)|refine C0.pure ?_ (B2v hT _ x.2.2.1 (by omega))|(refine A6.pure' ?_ (B4m hT _ x.2.2.2.1 (by omega));rintro _ rfl)|refine C0.pure ?_ (B4m hT _ x.2.2.2.1 (by omega))|(refine A6.pure' ?_ (B2w hT _ x.2.2.2.2.1 (by omega));rintro _ rfl)|refine C0.pure ?_ (B2w hT _ x.2.2.2.2.1 (by omega))|(refine A6.pure' ?_ (B78 hT _ x.2.2.2.2.2.2.1 (by omega) (fun d h=>by have:=m8 d h;omega));rintro _ rfl)|refine C0.pure ?_ (B78 hT _ x.2.2.2.2.2.2.1 (by omega) (fun d h=>by have:=m8 d h;omega))|(refine A6.pure' ?_ (B2x hT _ x.2.2.2.2.2.2.2 (by omega) (fun d h=>by have:=m9 d h;omega));rintro _ rfl)|refine C0.pure ?_ (B2x hT _ x.2.2.2.2.2.2.2 (by omega) (fun d h=>by have:=m9 d h;omega))|refine gS ?_|refine aA ?_|refine nA ?_|fail)<;>(conv=>whnf))
 all_goals refine ⟨(Sub.refl _).set hb _ _,C3 ?_⟩
 all_goals simp [*]
theorem C08 (tk:Nat→Nat) (x:Tr0) (hx:A3b x):B7 Tryz.prog Γ 8 [.agg (trA tk x)] fun v=>v=.bool (A0i x):=by
  obtain ⟨⟨m1,m2,m3,m4,m5,m6⟩,m7,m8,m9⟩:=hx
  have l_declB:(x.2.1.map deA).length=x.2.1.length:=List.length_map ..
  have l_quantB:(x.2.2.1.map quA).length=x.2.2.1.length:=List.length_map ..
  have l_freeB:(x.2.2.2.1.map frA).length=x.2.2.2.1.length:=List.length_map ..
  have l_stateB:(x.2.2.2.2.1.map stA).length=x.2.2.2.2.1.length:=List.length_map ..
  have l_symB:(x.2.2.2.2.2.2.1.map syA).length=x.2.2.2.2.2.2.1.length:=List.length_map ..
  have l_trB:(x.2.2.2.2.2.2.2.map tnA).length=x.2.2.2.2.2.2.2.length:=List.length_map ..
  refine aps Tryz.func8 ?_
  intro s
  conv=>whnf
  intro b hb
  conv=>whnf
  repeat' ((first|(refine brS (fun h=>?_) (fun h=>?_)<;>(try rw [h])<;>(try simp only [bS,↓reduceIte] at h))|(refine B6 A7 ?_)|(refine A6.pure' ?_ (Sc.F9 _);rintro _ rfl)|refine C0.pure ?_ (Sc.F9 _)|refine gS ?_|refine aA ?_|refine nA ?_|fail)<;>(conv=>whnf))
  all_goals (
    refine AWp.loopA [3,4] [21,22,23,24,25,28,29,30,31,32,33,34,35,36,37,38,5,39,40,41,42,43,44,45,46,47,50,51,52,53,54,55,56,57,58,59,60,61,62,63,64,65,66,67,68,69,70,71,72,73,74,48,49,26,27] (fun a:Nat × Bool=>[.bool a.2,.int .i64 a.1]) (fun a s'=>a.1≤x.2.1.length∧s'.bx b=some (31,trA tk x)∧Ab.Sub s s'∧A0i x=(a.2 && ((x.2.1.drop a.1).all A4r && ((x.2.2.1).all A04 && ((x.2.2.2.1).all A3d && ((x.2.2.2.2.1).all Z2 && ((x.2.2.2.2.2.2.1).all A2z && ((x.2.2.2.2.2.2.2).all trB)))))))) (fun a=>x.2.1.length - a.1) ((0,_)) (by kernel_rfl) (eqb) ?_ ?_
    · exact ⟨by simp,A7,(Sub.refl _).set hb _ _,by rw [B9h];simp [P6, *]⟩
    · rintro q ⟨i,ok⟩ s1 ⟨hi,h1,hs1,hp⟩
      simp only at hi hp
      conv=>whnf
      have hga:=fun h:i < x.2.1.length=>C4 (f:=deA) (l:=x.2.1) A0f h
      have hd:=fun h:i < x.2.1.length=>J8 (p:=A4r) A0f h
      have hmm:=fun h:i < x.2.1.length=>m7 _ (D9 A0f h)
      generalize x.2.1.getD i A0f=u at *
      repeat' ((first|(refine brS (fun h=>?_) (fun h=>?_)<;>(try rw [h])<;>(try simp only [bS,↓reduceIte] at h))|(refine B6 h1 ?_)|(rw [show (x.2.1.map deA).getD ((i:Int)).toNat []=_ from hga (by omega)])|(refine A6.pure' ?_ (Sc.F9 _);rintro _ rfl)|refine C0.pure ?_ (Sc.F9 _)|refine gS ?_|refine aA ?_|refine nA ?_|fail)<;>(conv=>whnf))
      rotate_right 1
      · rw [D5 (by omega),List.all_nil,Bool.true_and] at hp
        refine AWp.loopA [3,6] [75,76,77,78,79,82,83,84,85,86,87,88,89,90,91,92,93,94,95,96,97,98,99,100,101,102,103,104,105,106,107,108,109,110,80,81] (fun a:Nat × Bool=>[.bool a.2,.int .i64 a.1]) (fun a s'=>a.1≤x.2.2.1.length∧s'.bx b=some (31,trA tk x)∧Ab.Sub s s'∧A0i x=(a.2 && ((x.2.2.1.drop a.1).all A04 && ((x.2.2.2.1).all A3d && ((x.2.2.2.2.1).all Z2 && ((x.2.2.2.2.2.2.1).all A2z && ((x.2.2.2.2.2.2.2).all trB))))))) (fun a=>x.2.2.1.length - a.1) ((0,_)) (by kernel_rfl) (eqb) ?_ ?_
        · exact ⟨by simp,h1,hs1,by rw [List.drop_zero];simpa using hp⟩
        · clear hga hd
          rintro q ⟨i,ok⟩ s1 ⟨hi,h1,hs1,hp⟩
          simp only at hi hp
          conv=>whnf
          have hga:=fun h:i < x.2.2.1.length=>C4 (f:=quA) (l:=x.2.2.1) A15 h
          have hd:=fun h:i < x.2.2.1.length=>J8 (p:=A04) A15 h
          generalize x.2.2.1.getD i A15=u at *
          repeat' ((first|(refine brS (fun h=>?_) (fun h=>?_)<;>(try rw [h])<;>(try simp only [bS,↓reduceIte] at h))|(refine B6 h1 ?_)|(rw [show (x.2.2.1.map quA).getD ((i:Int)).toNat []=_ from hga (by omega)])|(refine A6.pure' ?_ (Sc.F9 _);rintro _ rfl)|refine C0.pure ?_ (Sc.F9 _)|refine gS ?_|refine aA ?_|refine nA ?_|fail)<;>(conv=>whnf))
          rotate_right 1
          · rw [D5 (by omega),List.all_nil,Bool.true_and] at hp
            refine AWp.loopA [3,7] [111,112,113,114,115,118,119,120,121,122,123,124,125,126,127,128,129,130,131,132,133,134,135,136,137,116,117] (fun a:Nat × Bool=>[.bool a.2,.int .i64 a.1]) (fun a s'=>a.1≤x.2.2.2.1.length∧s'.bx b=some (31,trA tk x)∧Ab.Sub s s'∧A0i x=(a.2 && ((x.2.2.2.1.drop a.1).all A3d && ((x.2.2.2.2.1).all Z2 && ((x.2.2.2.2.2.2.1).all A2z && ((x.2.2.2.2.2.2.2).all trB)))))) (fun a=>x.2.2.2.1.length - a.1) ((0,_)) (by kernel_rfl) (eqb) ?_ ?_
            · exact ⟨by simp,h1,hs1,by rw [List.drop_zero];simpa using hp⟩
            · clear hga hd
              rintro q ⟨i,ok⟩ s1 ⟨hi,h1,hs1,hp⟩
              simp only at hi hp
              conv=>whnf
              have hga:=fun h:i < x.2.2.2.1.length=>C4 (f:=frA) (l:=x.2.2.2.1) A1d h
              have hd:=fun h:i < x.2.2.2.1.length=>J8 (p:=A3d) A1d h
              generalize x.2.2.2.1.getD i A1d=u at *
              repeat' ((first|(refine brS (fun h=>?_) (fun h=>?_)<;>(try rw [h])<;>(try simp only [bS,↓reduceIte] at h))|(refine B6 h1 ?_)|(rw [show (x.2.2.2.1.map frA).getD ((i:Int)).toNat []=_ from hga (by omega)])|(refine A6.pure' ?_ (Sc.F9 _);rintro _ rfl)|refine C0.pure ?_ (Sc.F9 _)|(refine A6.pure' ?_ (Z0 u.2);rintro _ rfl)|refine C0.pure ?_ (Z0 u.2)|refine gS ?_|refine aA ?_|refine nA ?_|fail)<;>(conv=>whnf))
              rotate_right 1
              · rw [D5 (by omega),List.all_nil,Bool.true_and] at hp
                refine AWp.loopA [3,8] [138,139,140,141,142,145,146,147,148,149,150,151,152,153,154,155,143,144] (fun a:Nat × Bool=>[.bool a.2,.int .i64 a.1]) (fun a s'=>a.1≤x.2.2.2.2.1.length∧s'.bx b=some (31,trA tk x)∧Ab.Sub s s'∧A0i x=(a.2 && ((x.2.2.2.2.1.drop a.1).all Z2 && ((x.2.2.2.2.2.2.1).all A2z && ((x.2.2.2.2.2.2.2).all trB))))) (fun a=>x.2.2.2.2.1.length - a.1) ((0,_)) (by kernel_rfl) (eqb) ?_ ?_
                · exact ⟨by simp,h1,hs1,by rw [List.drop_zero];simpa using hp⟩
                · clear hga hd
                  rintro q ⟨i,ok⟩ s1 ⟨hi,h1,hs1,hp⟩
                  simp only at hi hp
                  conv=>whnf
                  have hga:=fun h:i < x.2.2.2.2.1.length=>C4 (f:=stA) (l:=x.2.2.2.2.1) A16 h
                  have hd:=fun h:i < x.2.2.2.2.1.length=>J8 (p:=Z2) A16 h
                  generalize x.2.2.2.2.1.getD i A16=u at *
                  repeat' ((first|(refine brS (fun h=>?_) (fun h=>?_)<;>(try rw [h])<;>(try simp only [bS,↓reduceIte] at h))|(refine B6 h1 ?_)|(rw [show (x.2.2.2.2.1.map stA).getD ((i:Int)).toNat []=_ from hga (by omega)])|(refine A6.pure' ?_ (Sc.F9 _);rintro _ rfl)|refine C0.pure ?_ (Sc.F9 _)|refine gS ?_|refine aA ?_|refine nA ?_|fail)<;>(conv=>whnf))
                  rotate_right 1
                  · rw [D5 (by omega),List.all_nil,Bool.true_and] at hp
                    refine AWp.loopA [3,9] [156,157,158,159,160,163,164,165,166,167,168,169,170,171,161,162] (fun a:Nat × Bool=>[.bool a.2,.int .i64 a.1]) (fun a s'=>a.1≤x.2.2.2.2.2.2.1.length∧s'.bx b=some (31,trA tk x)∧Ab.Sub s s'∧A0i x=(a.2 && ((x.2.2.2.2.2.2.1.drop a.1).all A2z && ((x.2.2.2.2.2.2.2).all trB)))) (fun a=>x.2.2.2.2.2.2.1.length - a.1) ((0,_)) (by kernel_rfl) (eqb) ?_ ?_
                    · exact ⟨by simp,h1,hs1,by rw [List.drop_zero];simpa using hp⟩
                    · clear hga hd
                      rintro q ⟨i,ok⟩ s1 ⟨hi,h1,hs1,hp⟩
                      simp only at hi hp
                      conv=>whnf
                      have hga:=fun h:i < x.2.2.2.2.2.2.1.length=>C4 (f:=syA) (l:=x.2.2.2.2.2.2.1) Y9 h
                      have hd:=fun h:i < x.2.2.2.2.2.2.1.length=>J8 (p:=A2z) Y9 h
                      have hmm:=fun h:i < x.2.2.2.2.2.2.1.length=>(by have:=m8 _ (D9 Y9 h);omega:(x.2.2.2.2.2.2.1.getD i Y9).2.2.1.length≤100000)
                      generalize x.2.2.2.2.2.2.1.getD i Y9=u at *
                      repeat' ((first|(refine brS (fun h=>?_) (fun h=>?_)<;>(try rw [h])<;>(try simp only [bS,↓reduceIte] at h))|(refine B6 h1 ?_)|(rw [show (x.2.2.2.2.2.2.1.map syA).getD ((i:Int)).toNat []=_ from hga (by omega)])|(refine A6.pure' ?_ (A8z u (hmm (by omega)));rintro _ rfl)|refine C0.pure ?_ (A8z u (hmm (by omega)))|refine gS ?_|refine aA ?_|refine nA ?_|fail)<;>(conv=>whnf))
                      rotate_right 1
                      · rw [D5 (by omega),List.all_nil,Bool.true_and] at hp
                        refine AWp.loopA [3,10] [172,173,174,175,176,179,180,181,182,183,184,185,186,187,177,178] (fun a:Nat × Bool=>[.bool a.2,.int .i64 a.1]) (fun a s'=>a.1≤x.2.2.2.2.2.2.2.length∧s'.bx b=some (31,trA tk x)∧Ab.Sub s s'∧A0i x=(a.2 && ((x.2.2.2.2.2.2.2.drop a.1).all trB && (true)))) (fun a=>x.2.2.2.2.2.2.2.length - a.1) ((0,_)) (by kernel_rfl) (eqb) ?_ ?_
                        · exact ⟨by simp,h1,hs1,by rw [List.drop_zero];simpa using hp⟩
                        · clear hga hd
                          rintro q ⟨i,ok⟩ s1 ⟨hi,h1,hs1,hp⟩
                          simp only at hi hp
                          conv=>whnf
                          have hga:=fun h:i < x.2.2.2.2.2.2.2.length=>C4 (f:=tnA) (l:=x.2.2.2.2.2.2.2) U1 h
                          have hd:=fun h:i < x.2.2.2.2.2.2.2.length=>J8 (p:=trB) U1 h
                          have hmm:=fun h:i < x.2.2.2.2.2.2.2.length=>(by have:=m9 _ (D9 U1 h);exact ⟨by omega,by omega,by omega⟩:(x.2.2.2.2.2.2.2.getD i U1).2.2.2.1.2.1.length≤100000∧(x.2.2.2.2.2.2.2.getD i U1).2.2.2.2.1.length≤100000∧(x.2.2.2.2.2.2.2.getD i U1).2.2.2.2.2.2.length≤100000)
                          generalize x.2.2.2.2.2.2.2.getD i U1=u at *
                          repeat' ((first|(refine brS (fun h=>?_) (fun h=>?_)<;>(try rw [h])<;>(try simp only [bS,↓reduceIte] at h))|(refine B6 h1 ?_)|(rw [show (x.2.2.2.2.2.2.2.map tnA).getD ((i:Int)).toNat []=_ from hga (by omega)])|(refine A6.pure' ?_ (B3j u (hmm (by omega)));rintro _ rfl)|refine C0.pure ?_ (B3j u (hmm (by omega)))|refine gS ?_|refine aA ?_|refine nA ?_|fail)<;>(conv=>whnf))
                          rotate_right 1
                          · rw [D5 (by omega),List.all_nil,Bool.true_and] at hp
                            first|refine ⟨hs1,C3 ?_⟩|refine C3 ?_
                            rw [hp];simp
                          all_goals (refine ⟨(i+1,_),eqb,C5,⟨by simp only;omega,h1,hs1,?_⟩,by simp only;omega⟩;rw [hp,hd (by omega)];simp [Bool.and_assoc, *])
                      all_goals (refine ⟨(i+1,_),eqb,C5,⟨by simp only;omega,h1,hs1,?_⟩,by simp only;omega⟩;rw [hp,hd (by omega)];simp [Bool.and_assoc, *])
                  all_goals (refine ⟨(i+1,_),eqb,C5,⟨by simp only;omega,h1,hs1,?_⟩,by simp only;omega⟩;rw [hp,hd (by omega)];simp [Bool.and_assoc,Z2,P6, *])
              all_goals (refine ⟨(i+1,_),eqb,C5,⟨by simp only;omega,h1,hs1,?_⟩,by simp only;omega⟩;rw [hp,hd (by omega)];simp [Bool.and_assoc,A3d,P6, *])
          all_goals (refine ⟨(i+1,_),eqb,C5,⟨by simp only;omega,h1,hs1,?_⟩,by simp only;omega⟩;rw [hp,hd (by omega)];simp [Bool.and_assoc,A04,P6,A1h, *])
      all_goals (
        have hlt:i < x.2.1.length:=by omega
        have hty:(G6 .i64 u.2.2).length=u.2.2.length:=M1 _ _
        refine AWp.loopA [3,5] [39,40,41,42,43,44,45,46,47,50,51,52,53,54,55,56,57,58,59,60,61,62,63,64,65,66,67,68,69,70,71,72,73,74,48,49] (fun a:Nat × Bool=>[.bool a.2,.int .i64 a.1]) (fun a s'=>a.1≤u.2.2.length∧s'.bx b=some (31,trA tk x)∧Ab.Sub s s'∧A0i x=(a.2 && ((u.2.2.drop a.1).all A1h && ((x.2.1.drop (i+1)).all A4r && ((x.2.2.1).all A04 && ((x.2.2.2.1).all A3d && ((x.2.2.2.2.1).all Z2 && ((x.2.2.2.2.2.2.1).all A2z && ((x.2.2.2.2.2.2.2).all trB))))))))) (fun a=>u.2.2.length - a.1) ((0,_)) (by kernel_rfl) (eqb) ?_ ?_
        · exact ⟨by simp,h1,hs1,by rw [hp,hd (by omega)];simp [Bool.and_assoc,A4r,P6, *]⟩
        · rintro q2 ⟨k,ok2⟩ s2 ⟨hk,h2,hs2,hp2⟩
          simp only at hk hp2
          conv=>whnf
          have hgk:=fun h:k < u.2.2.length=>A5r (k:=.i64) (l:=u.2.2) h
          have hdk:=fun h:k < u.2.2.length=>J8 (p:=A1h) (l:=u.2.2) 0 h
          generalize u.2.2.getD k 0=z at *
          repeat' ((first|exact pru|(refine brS (fun h=>?_) (fun h=>?_)<;>(try rw [h])<;>(try simp only [bS,↓reduceIte] at h))|(refine B6 h2 ?_)|(rw [show (x.2.1.map deA).getD ((i:Int)).toNat []=_ from hga (by omega)])|(rw [show (G6 .i64 u.2.2).getD ((k:Int)).toNat []=_ from hgk (by omega)])|refine gS ?_|refine aA ?_|refine nA ?_|fail)<;>(conv=>whnf))
          all_goals first
            | (refine ⟨(k+1,_),eqb,C5,⟨by simp only;omega,h2,hs2,?_⟩,by simp only;omega⟩
               rw [hp2,hdk (by omega)];simp [Bool.and_assoc,A1h, *])
            | (refine ⟨(i+1,_),eqb,C5,⟨by simp only;omega,h2,hs2,?_⟩,by simp only;omega⟩
               rw [hp2,D5 (by omega)];simp [Bool.and_assoc])))
end Go.Proofs.YticnkpgmmpenlaaGreatDoor.Tr
namespace Go.Proofs.YticnkpgmmpenlaaGreatDoor.Pr
open Go Go.Ab Go.RowKit Go.Proofs.YticnkpgmmpenlaaGreatDoor.Lx Go.Proofs.YticnkpgmmpenlaaGreatDoor.Pa
variable {Γ:Nat→AV}
attribute [local irreducible] B7 Sto.set Sto.grow
theorem fgS (l:List (List UInt8)):fgE (D3 l)=D3 l:=A4t (A:=fun s=>[AV.str s]) (fun _=>rfl) l
theorem D4p (hW:Sc.Wds Γ) (hK:B7n Γ) (hT:Qu.A10 Γ) (hN:Nu.A7g Γ) (tk:Nat→Nat) (x:Tr.Tr0) (hx:Tr.A3b x) (hr:Tr.A0i x=true) (hf:D0v x) (hb:(X9 x).length≤1000000000):B7 Tryz.prog Γ 7 [.agg (Tr.trA tk x)] fun v=>v=.str (X9 x):=by
 have hR:=Tr.B1b hW tk x hx
 rw [hr] at hR
 have ok:=C7s hr hf
 obtain ⟨⟨m1,m2,m3,m4,m5,m6⟩,m7,m8,m9⟩:=hx
 have hjn:=D0m x
 have hnm:=(K1 ok.name).2.1
 have hst:=(K1 ok.start).2.1
 have hlen:(J6 (fun s:Nat × Tr.Sy=>R7++32::U8 s.2) x.2.2.2.2.2.2.1).length≤1000000000∧(J6 (fun t:(Nat × Nat × Nat) × Tr.Tn=>G5 t.2) x.2.2.2.2.2.2.2).length≤1000000000:=by
  unfold X9 at hb
  simp only [List.length_append] at hb
  omega
 have hsl:∀ s ∈ x.2.2.2.2.2.2.1,(U8 s.2).length≤1000000000:=fun s hs=>by
  have:=B33 (S:=fun s:Nat × Tr.Sy=>R7++32::U8 s.2) hs
  simp only [List.length_append,List.length_cons] at this
  omega
 have htl:∀ t ∈ x.2.2.2.2.2.2.2,(G5 t.2).length≤1000000000:=fun t ht=>by
  have:=B33 (S:=fun t:(Nat × Nat × Nat) × Tr.Tn=>G5 t.2) ht
  have this:(G5 t.2).length+1≤_:=this
  omega
 have L1:=C5b (Γ:=Γ) (tk 0) x.2.1 m1 (fun d=>A2n d.2) fun d hd=>D1h d (ok.decls d hd) (by have:=m7 d hd;omega)
 have L2:=C5d (Γ:=Γ) (tk 1) x.2.2.1 m2 V9 fun q hq=>C93 q (ok.quants q hq)
 have L3:=C5c (Γ:=Γ) (tk 2) x.2.2.2.1 m3 A1e fun f h=>D1z hT hN f (ok.frees f h)
 have L4:=C5e (Γ:=Γ) (tk 3) x.2.2.2.2.1 m4 W3 fun s h=>D0i s (ok.states s h)
 have L5:=C5f (Γ:=Γ) (tk 4) x.2.2.2.2.2.2.1 m5 (fun s=>R7++32::U8 s.2) fun s h=>D05 hT hN s (ok.also s h) (by have:=m8 s h;omega) (hsl s h)
 have L6:=C5g (Γ:=Γ) (tk 5) x.2.2.2.2.2.2.2 m6 (fun t=>G5 t.2) fun t h=>D0l hK hT hN t (ok.trans t h) (by have:=m9 t h;omega) (by have:=m9 t h;omega) (htl t h)
 obtain ⟨ls,els⟩:∃ ls:List (List (List UInt8)),ls=[[B1r++32::x.1.1],x.2.1.map (fun d=>A2n d.2),x.2.2.1.map V9,x.2.2.2.1.map A1e,x.2.2.2.2.1.map W3,[X5++32::x.2.2.2.2.2.1.1],x.2.2.2.2.2.2.1.map (fun s=>R7++32::U8 s.2),x.2.2.2.2.2.2.2.map fun t=>G5 t.2]:=⟨_,rfl⟩
 have efl:ls.flatten=A8b x:=by rw [els];unfold A8b;simp
 have hll:ls.flatten.length≤1000000:=by
  rw [els]
  simp only [List.flatten_cons,List.flatten_nil,List.length_append,List.length_map,List.length_cons,List.length_nil]
  omega
 have hC:=fun s=>C4n (Γ:=Γ) (s:=s) (tk:=1) (ls:=ls) (by rw [els];simp) hll
 have hfg:fgE [[.slice 1 [[.str (B1r++32::x.1.1)]]],[.slice 0 (D3 (x.2.1.map fun d=>A2n d.2))],[.slice 0 (D3 (x.2.2.1.map V9))],[.slice 0 (D3 (x.2.2.2.1.map A1e))],[.slice 0 (D3 (x.2.2.2.2.1.map W3))],[.slice 1 [[.str (X5++32::x.2.2.2.2.2.1.1)]]],[.slice 0 (D3 (x.2.2.2.2.2.2.1.map fun s=>R7++32::U8 s.2))],[.slice 0 (D3 (x.2.2.2.2.2.2.2.map fun t=>G5 t.2))]]=ls.map (slA B3t):=by
  simp only [fgE,fgL,fg,fgS]
  rw [els]
  rfl
 have hJl:(Lib.join (A8b x) [10]).length+1≤1000000000:=by
  rw [← hjn,List.length_append] at hb
  exact hb
 have hJ:=fun t=>Jo.A6m (Γ:=Γ) t (A8b x) [10] (by rw [← efl];omega) (by omega)
 rw [efl] at hC
 generalize A8b x=LS at *
 rw [← hjn]
 generalize Lib.join LS [10]=JS at *
 clear hT hN hK hW
 simp only [Tr.trA] at hR ⊢
 refine aps Tryz.func7 ?_
 intro s
 conv=>whnf
 intro b hb0
 conv=>whnf
 repeat' ((first|(refine brS (fun h=>?_) (fun h=>?_)<;>(try rw [h])<;>(try simp only [bN,bS,↓reduceIte] at h)<;>(try exact prc))|refine E9 ?_|(refine A6.pure' ?_ (hR);rintro _ rfl)|refine C0.pure ?_ (hR)|(refine A6.pure' ?_ (L1);rintro _ rfl)|refine C0.pure ?_ (L1)|(refine A6.pure' ?_ (L2);rintro _ rfl)|refine C0.pure ?_ (L2)|(refine A6.pure' ?_ (L3);rintro _ rfl)|refine C0.pure ?_ (L3)|(refine A6.pure' ?_ (L4);rintro _ rfl)|refine C0.pure ?_ (L4)|(refine A6.pure' ?_ (L5);rintro _ rfl)|refine C0.pure ?_ (L5)|(refine A6.pure' ?_ (L6);rintro _ rfl)|refine C0.pure ?_ (L6)|(refine AWp.anyC (id:=3) [] [36] (by kernel_rfl) (by kernel_rfl) (by kernel_rfl) (by kernel_rfl) ?_)|(refine ⟨trivial,?_⟩)|refine gS ?_|refine aA ?_|refine nA ?_|fail)<;>(conv=>whnf))
 refine A6.by (A6.weak (A2k.refl _) (LeL.cons (Le.inner' hfg) LeL.nil) (hC _)) ?_
 rintro _ s1 ⟨t,rfl,ho⟩
 refine wr ?_;(refine ⟨trivial,?_⟩);refine wr ?_;(first|(refine A6.pure' ?_ (hJ _);rintro _ rfl)|refine C0.pure ?_ (hJ _));refine wr ?_
 all_goals exact ⟨((Sub.refl _).set hb0 _ _).trans ho.sub,rfl⟩
theorem D4o (hW:Sc.Wds Γ) (tk:Nat→Nat) (x:Tr.Tr0) (hx:Tr.A3b x) (hr:Tr.A0i x=false):B7 Tryz.prog Γ 7 [.agg (Tr.trA tk x)] fun v=>v=.str []:=by
 have hR:=Tr.B1b hW tk x hx
 rw [hr] at hR
 simp only [Tr.trA] at hR ⊢
 refine aps Tryz.func7 ?_
 intro s
 conv=>whnf
 intro b hb0
 refine wr ?_
 all_goals exact ⟨(Sub.refl _).set hb0 _ _,rfl⟩
theorem B2r {α:Type} {S:α→List UInt8} (d:α) {l:List α} {i:Nat} (h:i < l.length):H3 ((l.take (i+1)).map S)=(if i=0 then H3 ((l.take i).map S) else H3 ((l.take i).map S)++[44,32])++S (l.getD i d):=by
 rw [show l.take (i+1)=l.take i++[l.getD i d] by rw [List.take_add_one];simp [List.getD,h],List.map_append]
 show H3 ((l.take i).map S++[S (l.getD i d)])=_
 rw [B5o]
 by_cases h0:i=0
 ·subst h0
  rw [if_pos rfl,if_pos (by simp)];rfl
 ·rw [if_neg h0,if_neg]
  ·simp
  ·intro e
   have:=congrArg List.length e
   rw [List.length_map,List.length_take,List.length_nil] at this
   omega
theorem C1b (x:Nat × Tr.Sy) (hx:B7m x.2) (hl:x.2.2.1.length≤100000) (hb:(U8 x.2).length≤1000000000):B7 Tryz.prog Γ 11 [.agg (Tr.syA x)] fun v=>v=.str (U8 x.2):=by
 obtain ⟨tk,nm,args,ln,cl⟩:=x
 simp only at hl hb
 have hml:(args.map Tr.arA).length=args.length:=List.length_map ..
 have hsl:(U8 (nm,args,ln,cl)).length=nm.length+2+(H3 (args.map A0w)).length:=by
  show (nm++40::(H3 (args.map A0w)++[41])).length=_
  simp only [List.length_append,List.length_cons,List.length_nil];omega
 have hA:=hx.2
 simp only [Tr.syA]
 refine aps Tryz.func11 ?_
 intro s
 conv=>whnf
 intro b hb0
 refine wr ?_
 refine AWp.loopA [3,4] [9,10,11,12,13,16,17,18,19,20,21,22,23,24,5,25,26,27,28,29,30,31,32,33,34,35,36,37,38,39,40,41,14,15] (fun i:Nat=>[.str (nm++40::H3 ((args.take i).map A0w)),.int .i64 (i:Int)]) (fun i s'=>i≤args.length∧Sub (s.set b 39 [.str nm,.slice tk (args.map Tr.arA),.int .i64 ln,.int .i64 cl]) s') (fun i=>args.length - i) (0) (by kernel_rfl) (eqa) ?_ ?_
 ·exact ⟨Nat.zero_le _,Sub.refl _⟩
 ·rintro y i s1 ⟨hi,ho⟩
  show awp _ _ _ _ _ (updL _ _ [.str (nm++40::H3 ((args.take i).map A0w)),.int .i64 (i:Int)]) _
  conv=>whnf
  have hbx:=ho.bx _ _ A7
  have hw2:IntKind.i64.wrap ((i:Int)+1)=((i+1:Nat):Int):=C7 (by omega) (by omega) (by omega)
  have hjt:=A8s (args.map A0w) i
  rw [← List.map_take] at hjt
  by_cases hlt:i < args.length
  ·have hga:=Tr.C4 (f:=Tr.arA) (l:=args) Tr.A02 hlt
   have htj:=B2r (S:=A0w) Tr.A02 hlt
   have hu:=hA _ (Tr.D9 Tr.A02 hlt)
   have hul:=B2d (List.mem_map_of_mem (f:=A0w) (Tr.D9 Tr.A02 hlt))
   generalize args.getD i Tr.A02=u at *
   obtain ⟨uk,un,uv,ul,uc⟩:=u
   generalize hP:H3 ((args.take i).map A0w)=P at *
   rcases hu with ⟨h1,h2,h3,h4⟩|⟨h1,h2,h3⟩|⟨h1,h2,h3⟩
   ·simp only at h1 h2 h3 h4
    subst h1
    obtain ⟨_,v2,v3⟩:=W1 h3 h4
    have htx:=Va.A75 (Γ:=Γ) uv h4 (by omega) h3
    rw [← v3] at htx
    have e:A0w (1,un,uv,ul,uc)=A93 uv:=rfl
    rw [e] at htj hul
    generalize A93 uv=V at *
    obtain ⟨vk,vi,vs,vb⟩:=uv
    simp only [Va.vlA] at htx
    simp only [Tr.arA] at hga
    by_cases h0:i=0
    ·rw [if_pos h0] at htj
     refine wr ?_
     intro c hc
     have hc':=ho.none hc
     refine wr ?_
     all_goals exact ⟨i+1,C1 (congrArg AV.str (by rw [htj];simp)) eqa,C5,⟨hlt,(ho.set hc' _ _).set hc' _ _⟩,by omega⟩
    ·rw [if_neg h0] at htj
     refine wr ?_
     intro c hc
     have hc':=ho.none hc
     refine wr ?_
     all_goals exact ⟨i+1,C1 (congrArg AV.str (by rw [htj];simp)) eqa,C5,⟨hlt,(ho.set hc' _ _).set hc' _ _⟩,by omega⟩
   ·simp only at h1
    subst h1
    have e:A0w (2,un,uv,ul,uc)=un:=rfl
    rw [e] at htj hul
    simp only [Tr.arA] at hga
    by_cases h0:i=0
    ·rw [if_pos h0] at htj
     refine wr ?_
     intro c hc
     have hc':=ho.none hc
     refine wr ?_
     all_goals exact ⟨i+1,C1 (congrArg AV.str (by rw [htj];simp)) eqa,C5,⟨hlt,(ho.set hc' _ _).set hc' _ _⟩,by omega⟩
    ·rw [if_neg h0] at htj
     refine wr ?_
     intro c hc
     have hc':=ho.none hc
     refine wr ?_
     all_goals exact ⟨i+1,C1 (congrArg AV.str (by rw [htj];simp)) eqa,C5,⟨hlt,(ho.set hc' _ _).set hc' _ _⟩,by omega⟩
   ·simp only at h1
    subst h1
    have e:A0w (3,un,uv,ul,uc)=[95]:=rfl
    rw [e] at htj hul
    simp only [Tr.arA] at hga
    by_cases h0:i=0
    ·rw [if_pos h0] at htj
     refine wr ?_
     intro c hc
     have hc':=ho.none hc
     refine wr ?_
     all_goals exact ⟨i+1,C1 (congrArg AV.str (by rw [htj];simp)) eqa,C5,⟨hlt,(ho.set hc' _ _).set hc' _ _⟩,by omega⟩
    ·rw [if_neg h0] at htj
     refine wr ?_
     intro c hc
     have hc':=ho.none hc
     refine wr ?_
     all_goals exact ⟨i+1,C1 (congrArg AV.str (by rw [htj];simp)) eqa,C5,⟨hlt,(ho.set hc' _ _).set hc' _ _⟩,by omega⟩
  ·have ht:args.take i=args:=List.take_of_length_le (by omega)
   rw [ht]
   refine wr ?_
   all_goals refine ⟨((Sub.refl _).set hb0 _ _).trans ho,congrArg AV.str ?_⟩
   all_goals (show _=nm++40::(H3 (args.map A0w)++[41]);simp)
theorem C3n (k:Int) (h:B4a k):B7 Tryz.prog Γ 43 [.int .i64 k] fun v=>v=.str (Q4 k):=by
 unfold B4a at h
 rcases (show k=1∨k=2∨k=3 by omega) with rfl|rfl|rfl
 all_goals
  refine aps Tryz.func43 ?_
  intro s
  refine wr ?_
  all_goals rfl
theorem C3s (l:List Tr.Ex) (u:Tr.Se):X3 l u=(u.1.1++[32,61,32])++(gx l u.2).txt:=by unfold X3;simp
theorem D3s (t:Nat) {l:List Tr.Ex} {m lo:Nat} {i:Int} (hl:R8 l m) (hw:Whole l lo i):B7 Tryz.prog Γ 101 [.slice t (l.map Tr.exA),.int .i64 i] fun v=>v=.str (gx l i).txt:=by
 obtain ⟨w1,w2,w3,w4⟩:=hw
 have h:=C3p (Γ:=Γ) t hl (i.toNat+1) i.toNat (i.toNat+1) (by omega) (by omega) (by omega) (by omega)
 rw [show ((i.toNat:Nat):Int)=i by omega] at h
 exact h
def A67 (l:List Tr.Ex) (sets:List Tr.Se) (b:List UInt8) (i:Nat):List UInt8:=if i=0 then b else b++[32,100,111,32]++H3 ((sets.take i).map (X3 l))
theorem C12 {l:List Tr.Ex} {sets:List Tr.Se} {b:List UInt8} {i:Nat} (h:i < sets.length):A67 l sets b (i+1)=(if i=0 then A67 l sets b i++[32,100,111,32] else A67 l sets b i++[44,32])++X3 l (sets.getD i Tr.W5):=by
 unfold A67
 rw [if_neg (by omega),B2r (S:=X3 l) Tr.W5 h]
 by_cases h0:i=0
 ·subst h0
  simp [H3]
 ·rw [if_neg h0,if_neg h0,if_neg h0]
  simp
theorem D5e {t:Tr.Tn} {b:List UInt8} (hb:G5 t=b++doS t):A67 t.2.2.2.1 t.2.2.2.2.2 b t.2.2.2.2.2.length++[32,116,111,32]++t.2.1.1=G5 t:=by
 rw [hb]
 unfold A67 doS toS
 by_cases hs:t.2.2.2.2.2=[]
 ·rw [if_pos hs,if_pos (show t.2.2.2.2.2.length=0 by rw [hs];rfl)]
  simp [wTo]
 ·rw [if_neg hs,if_neg (fun h=>hs (List.length_eq_zero_iff.1 h)),List.take_length]
  simp [wDo,wTo]
theorem D5f {t:Tr.Tn} {b:List UInt8} (hb:G5 t=b++doS t) {i:Nat} (hi:i≤t.2.2.2.2.2.length):(A67 t.2.2.2.1 t.2.2.2.2.2 b i).length≤(G5 t).length:=by
 rw [hb]
 unfold A67
 split
 ·rw [List.length_append];omega
 ·have hs:t.2.2.2.2.2≠[]:=fun h=>by rw [h] at hi;simp at hi;omega
  unfold doS
  rw [if_neg hs,List.map_take]
  have:=A8s (t.2.2.2.2.2.map (X3 t.2.2.2.1)) i
  simp only [List.length_append,List.length_cons,List.length_nil,wDo]
  omega
theorem D0f (x:(Nat × Nat × Nat) × Tr.Tn) (hx:C39 x.2) (h1:x.2.2.2.1.2.1.length≤100000) (h2:x.2.2.2.2.2.2.length≤100000) (hb:(G5 x.2).length≤1000000000):B7 Tryz.prog Γ 45 [.agg (Tr.tnA x)] fun v=>v=.str (G5 x.2++[10]):=by
 obtain ⟨bs,ebs⟩:∃ bs,bs=x.2.1.1++32::(wOn++32::(U8 x.2.2.2.1++if 0≤x.2.2.2.2.2.1 then 32::(wIf++32::(gx x.2.2.2.2.1 x.2.2.2.2.2.1).txt) else [])):=⟨_,rfl⟩
 have eT:G5 x.2=bs++doS x.2:=by
  rw [ebs]
  unfold G5 ifS
  split<;>simp
 have hlen:=fun i hi=>D5f eT (i:=i) hi
 have hend:=D5e eT
 have hbl:bs.length≤(G5 x.2).length:=by rw [eT,List.length_append];omega
 have hto:=(K1 hx.2.1).2.1
 have hfr:=(K1 hx.1).2.1
 obtain ⟨⟨k1,k2,k3⟩,⟨fr,fl,fc⟩,⟨ot,tl,tc⟩,⟨nm,args,ln,cl⟩,nodes,g,sets⟩:=x
 obtain ⟨x1,x2,x3,⟨m,hm⟩,x5⟩:=hx
 simp only at x1 x2 x3 hm x5 h1 h2 hb ebs hlen hend hto hfr
 generalize G5 ((fr,fl,fc),(ot,tl,tc),(nm,args,ln,cl),nodes,g,sets)=TS at *
 have hsl:(sets.map Tr.seA).length=sets.length:=List.length_map ..
 have hsy0:(U8 (nm,args,ln,cl)).length+6≤1000000006:=by
  have:=congrArg List.length ebs
  simp only [List.length_append,List.length_cons] at this
  omega
 have hsy:=C1b (Γ:=Γ) (k1,(nm,args,ln,cl)) x3 h1 (by show (U8 (nm,args,ln,cl)).length≤_;omega)
 simp only [Tr.syA] at hsy
 have hS:∃ lo,A25 nodes lo sets:=x5.elim (fun h=>⟨_,h.2⟩) (fun h=>⟨_,h.2⟩)
 obtain ⟨lo,hS⟩:=hS
 have hA:∀ u ∈ sets,(B7 Tryz.prog Γ 101 [.slice k2 (nodes.map Tr.exA),.int .i64 u.2] fun v=>v=.str (gx nodes u.2).txt):=fun u hu=>by
  obtain ⟨_,lo',hw⟩:=A30 hS u hu
  exact D3s k2 hm hw
 have hG:0≤g→(B7 Tryz.prog Γ 101 [.slice k2 (nodes.map Tr.exA),.int .i64 g] fun v=>v=.str (gx nodes g).txt):=fun hg=>by
  rcases x5 with h|h
  ·omega
  ·exact D3s k2 hm h.1
 simp only [Tr.tnA]
 generalize U8 (nm,args,ln,cl)=SY at *
 by_cases hg:0≤g
 ·have hG:=hG hg
  rw [if_pos hg] at ebs
  generalize (gx nodes g).txt=GT at *
  have hl0:=congrArg List.length ebs
  simp only [List.length_append,List.length_cons,List.length_nil,wOn,wIf] at hl0
  refine aps Tryz.func45 ?_
  intro s
  conv=>whnf
  intro b hb0
  refine wr ?_
  refine AWp.loopA [3,4] [24,25,26,27,28,31,32,33,34,35,36,37,38,39,40,41,42,43,44,45,46,47,48,49,50,51,52,53,54,55,56,29,30] (fun i:Nat=>[.str (A67 nodes sets bs i),.int .i64 (i:Int)]) (fun i s'=>i≤sets.length∧Sub (s.set b 43 [.str fr,.int .i64 fl,.int .i64 fc,.str ot,.int .i64 tl,.int .i64 tc,.str nm,.slice k1 (args.map Tr.arA),.int .i64 ln,.int .i64 cl,.slice k2 (nodes.map Tr.exA),.int .i64 g,.slice k3 (sets.map Tr.seA)]) s') (fun i=>sets.length - i) (0) (by kernel_rfl) (C1 (congrArg AV.str (by rw [ebs];simp [wOn,wIf,A67])) (C1 rfl rfl)) ?_ ?_
  ·exact ⟨Nat.zero_le _,Sub.refl _⟩
  ·rintro y i s1 ⟨hi,ho⟩
   show awp _ _ _ _ _ (updL _ _ [.str (A67 nodes sets bs i),.int .i64 (i:Int)]) _
   conv=>whnf
   have hbx:=ho.bx _ _ A7
   have hw2:IntKind.i64.wrap ((i:Int)+1)=((i+1:Nat):Int):=C7 (by omega) (by omega) (by omega)
   have hli:=hlen i hi
   by_cases hlt:i < sets.length
   ·have hga:=Tr.C4 (f:=Tr.seA) (l:=sets) Tr.W5 hlt
    have hnx:=C12 (l:=nodes) (b:=bs) hlt
    have hln:=hlen (i+1) hlt
    have hSu:=hA _ (Tr.D9 Tr.W5 hlt)
    generalize sets.getD i Tr.W5=u at *
    obtain ⟨⟨un,ul,uc⟩,ue⟩:=u
    rw [C3s] at hnx
    simp only [Tr.seA] at hga hSu hnx
    have hl2:=congrArg List.length hnx
    generalize (gx nodes ue).txt=ut at *
    generalize A67 nodes sets bs i=D0 at *
    by_cases h0:i=0
    ·rw [if_pos h0] at hnx hl2
     simp only [List.length_append,List.length_cons,List.length_nil] at hl2
     refine wr ?_
     all_goals exact ⟨i+1,C1 (congrArg AV.str (by rw [hnx];simp)) (eqa),C5,⟨hlt,ho⟩,by omega⟩
    ·rw [if_neg h0] at hnx hl2
     simp only [List.length_append,List.length_cons,List.length_nil] at hl2
     refine wr ?_
     all_goals exact ⟨i+1,C1 (congrArg AV.str (by rw [hnx];simp)) (eqa),C5,⟨hlt,ho⟩,by omega⟩
   ·obtain rfl:i=sets.length:=by omega
    rw [← hend]
    generalize A67 nodes sets bs sets.length=D0 at *
    refine wr ?_
    all_goals refine ⟨((Sub.refl _).set hb0 _ _).trans ho,congrArg AV.str ?_⟩
    all_goals simp
 ·rw [if_neg hg] at ebs
  have hl0:=congrArg List.length ebs
  simp only [List.length_append,List.length_cons,List.length_nil,wOn,wIf] at hl0
  refine aps Tryz.func45 ?_
  intro s
  conv=>whnf
  intro b hb0
  refine wr ?_
  refine AWp.loopA [3,4] [24,25,26,27,28,31,32,33,34,35,36,37,38,39,40,41,42,43,44,45,46,47,48,49,50,51,52,53,54,55,56,29,30] (fun i:Nat=>[.str (A67 nodes sets bs i),.int .i64 (i:Int)]) (fun i s'=>i≤sets.length∧Sub (s.set b 43 [.str fr,.int .i64 fl,.int .i64 fc,.str ot,.int .i64 tl,.int .i64 tc,.str nm,.slice k1 (args.map Tr.arA),.int .i64 ln,.int .i64 cl,.slice k2 (nodes.map Tr.exA),.int .i64 g,.slice k3 (sets.map Tr.seA)]) s') (fun i=>sets.length - i) (0) (by kernel_rfl) (C1 (congrArg AV.str (by rw [ebs];simp [wOn,wIf,A67])) (C1 rfl rfl)) ?_ ?_
  ·exact ⟨Nat.zero_le _,Sub.refl _⟩
  ·rintro y i s1 ⟨hi,ho⟩
   show awp _ _ _ _ _ (updL _ _ [.str (A67 nodes sets bs i),.int .i64 (i:Int)]) _
   conv=>whnf
   have hbx:=ho.bx _ _ A7
   have hw2:IntKind.i64.wrap ((i:Int)+1)=((i+1:Nat):Int):=C7 (by omega) (by omega) (by omega)
   have hli:=hlen i hi
   by_cases hlt:i < sets.length
   ·have hga:=Tr.C4 (f:=Tr.seA) (l:=sets) Tr.W5 hlt
    have hnx:=C12 (l:=nodes) (b:=bs) hlt
    have hln:=hlen (i+1) hlt
    have hSu:=hA _ (Tr.D9 Tr.W5 hlt)
    generalize sets.getD i Tr.W5=u at *
    obtain ⟨⟨un,ul,uc⟩,ue⟩:=u
    rw [C3s] at hnx
    simp only [Tr.seA] at hga hSu hnx
    have hl2:=congrArg List.length hnx
    generalize (gx nodes ue).txt=ut at *
    generalize A67 nodes sets bs i=D0 at *
    by_cases h0:i=0
    ·rw [if_pos h0] at hnx hl2
     simp only [List.length_append,List.length_cons,List.length_nil] at hl2
     refine wr ?_
     all_goals exact ⟨i+1,C1 (congrArg AV.str (by rw [hnx];simp)) (eqa),C5,⟨hlt,ho⟩,by omega⟩
    ·rw [if_neg h0] at hnx hl2
     simp only [List.length_append,List.length_cons,List.length_nil] at hl2
     refine wr ?_
     all_goals exact ⟨i+1,C1 (congrArg AV.str (by rw [hnx];simp)) (eqa),C5,⟨hlt,ho⟩,by omega⟩
   ·obtain rfl:i=sets.length:=by omega
    rw [← hend]
    generalize A67 nodes sets bs sets.length=D0 at *
    refine wr ?_
    all_goals refine ⟨((Sub.refl _).set hb0 _ _).trans ho,congrArg AV.str ?_⟩
    all_goals simp
def pre {α:Type} (A:List UInt8) (S:α→List UInt8) (l:List α) (i:Nat):List UInt8:=A++J6 S (l.take i)
theorem A5z {α:Type} {A:List UInt8} {S:α→List UInt8} {l:List α}:pre A S l 0=A:=by unfold pre J6;simp
theorem A8x {α:Type} {A:List UInt8} {S:α→List UInt8} {l:List α}:pre A S l l.length=A++J6 S l:=by unfold pre;rw [List.take_length]
theorem A5y {α:Type} {A:List UInt8} {S:α→List UInt8} {l:List α} {i:Nat} (d:α) (h:i < l.length):pre A S l (i+1)=pre A S l i++(S (l.getD i d)++[10]):=by
 unfold pre
 rw [show l.take (i+1)=l.take i++[l.getD i d] by rw [List.take_add_one];simp [List.getD,h],C5h,List.append_assoc]
 rfl
theorem A8y {α:Type} {A B:List UInt8} {S:α→List UInt8} {l:List α} (h:B=A++J6 S l) {N:Nat} (hB:B.length≤N) (i:Nat):(pre A S l i).length≤N:=by
 have:=C5i (S:=S) l i
 rw [h] at hB
 unfold pre
 simp only [List.length_append] at *
 omega
theorem D3u (tk:Nat→Nat) (x:Tr.Tr0) (hx:Tr.A3b x) (ok:C7w x) (hb:(X9 x).length≤1000000000):B7 Tryz.prog Γ 9 [.agg (Tr.trA tk x)] fun v=>v=.str (X9 x):=by
 obtain ⟨⟨m1,m2,m3,m4,m5,m6⟩,m7,m8,m9⟩:=hx
 obtain ⟨o1,o2,o3,o4,o5,o6,o7,o8⟩:=ok
 obtain ⟨xn,de,qu,fr,st,xs,al,tn⟩:=x
 simp only at m1 m2 m3 m4 m5 m6 m7 m8 m9 o1 o2 o3 o4 o5 o6 o7 o8
 have hnm:=(K1 o1).2.1
 have hst:=(K1 o6).2.1
 obtain ⟨A0,e0⟩:∃ A,A=B1r++32::(xn.1++[10]):=⟨_,rfl⟩
 obtain ⟨B0,e1⟩:∃ B,B=A0++J6 (fun d:Nat × Tr.De=>A2n d.2) de:=⟨_,rfl⟩
 obtain ⟨A1,e1'⟩:∃ A,A=B0:=⟨_,rfl⟩
 obtain ⟨B1,e2⟩:∃ B,B=A1++J6 V9 qu:=⟨_,rfl⟩
 obtain ⟨A2,e2'⟩:∃ A,A=B1:=⟨_,rfl⟩
 obtain ⟨B2,e3⟩:∃ B,B=A2++J6 A1e fr:=⟨_,rfl⟩
 obtain ⟨A3,e3'⟩:∃ A,A=B2:=⟨_,rfl⟩
 obtain ⟨B3,e4⟩:∃ B,B=A3++J6 W3 st:=⟨_,rfl⟩
 obtain ⟨A4,e4'⟩:∃ A,A=B3++(X5++32::(xs.1++[10])):=⟨_,rfl⟩
 obtain ⟨B4,e5⟩:∃ B,B=A4++J6 (fun s:Nat × Tr.Sy=>R7++32::U8 s.2) al:=⟨_,rfl⟩
 obtain ⟨A5,e5'⟩:∃ A,A=B4:=⟨_,rfl⟩
 obtain ⟨B5,e6⟩:∃ B,B=A5++J6 (fun t:(Nat × Nat × Nat) × Tr.Tn=>G5 t.2) tn:=⟨_,rfl⟩
 have eT:X9 (xn,de,qu,fr,st,xs,al,tn)=B5:=by
  rw [e6,e5',e5,e4',e4,e3',e3,e2',e2,e1',e1,e0]
  unfold X9 A0n
  simp
 rw [eT] at hb ⊢
 have hB5:B5.length≤1000000000:=hb
 have hB4:B4.length≤1000000000:=by rw [e6,e5',List.length_append] at hB5;omega
 have hA4:A4.length≤1000000000:=by rw [e5,List.length_append] at hB4;omega
 have hB3:B3.length+xs.1.length+7≤1000000000:=by
  rw [e4'] at hA4
  simp only [List.length_append,List.length_cons,List.length_nil,X5] at hA4
  omega
 have hB2:B2.length≤1000000000:=by rw [e4,e3',List.length_append] at hB3;omega
 have hB1:B1.length≤1000000000:=by rw [e3,e2',List.length_append] at hB2;omega
 have hB0:B0.length≤1000000000:=by rw [e2,e1',List.length_append] at hB1;omega
 have hA0:A0.length≤1000000000:=by rw [e1,List.length_append] at hB0;omega
 clear hb
 have q0:(de.map Tr.deA).length=de.length:=List.length_map ..
 have p0:=fun i=>A8y e1 (show B0.length≤1000000000 by omega) i
 have q1:(qu.map Tr.quA).length=qu.length:=List.length_map ..
 have p1:=fun i=>A8y e2 (show B1.length≤1000000000 by omega) i
 have q2:(fr.map Tr.frA).length=fr.length:=List.length_map ..
 have p2:=fun i=>A8y e3 (show B2.length≤1000000000 by omega) i
 have q3:(st.map Tr.stA).length=st.length:=List.length_map ..
 have p3:=fun i=>A8y e4 (show B3.length≤1000000000 by omega) i
 have q4:(al.map Tr.syA).length=al.length:=List.length_map ..
 have p4:=fun i=>A8y e5 (show B4.length≤1000000000 by omega) i
 have q5:(tn.map Tr.tnA).length=tn.length:=List.length_map ..
 have p5:=fun i=>A8y e6 (show B5.length≤1000000000 by omega) i
 simp only [Tr.trA]
 refine aps Tryz.func9 ?_
 intro s
 conv=>whnf
 intro b hb0
 refine wr ?_
 refine AWp.loopA [3,4] [18,19,20,21,22,25,26,27,28,29,30,31,32,33,34,35,5,36,37,38,39,40,41,42,43,44,47,48,49,50,51,52,53,54,55,56,57,58,59,60,61,62,45,46,63,64,23,24] (fun i:Nat=>[.str (pre A0 (fun d:Nat × Tr.De=>A2n d.2) de i),.int .i64 (i:Int)]) (fun i s'=>i≤de.length∧Sub (s.set b 31 [.str xn.1,.int .i64 xn.2.1,.int .i64 xn.2.2,.slice (tk 0) (de.map Tr.deA),.slice (tk 1) (qu.map Tr.quA),.slice (tk 2) (fr.map Tr.frA),.slice (tk 3) (st.map Tr.stA),.str xs.1,.int .i64 xs.2.1,.int .i64 xs.2.2,.slice (tk 4) (al.map Tr.syA),.slice (tk 5) (tn.map Tr.tnA)]) s') (fun i=>de.length - i) (0) (by kernel_rfl) (C1 (congrArg AV.str (by rw [A5z];rw [e0];simp [B1r])) (C1 rfl rfl)) ?_ ?_
 ·exact ⟨Nat.zero_le _,Sub.refl _⟩
 ·rintro y i s1 ⟨hi,ho⟩
  show awp _ _ _ _ _ (updL _ _ [.str (pre A0 (fun d:Nat × Tr.De=>A2n d.2) de i),.int .i64 (i:Int)]) _
  conv=>whnf
  have hbx:=ho.bx _ _ A7
  have hw2:IntKind.i64.wrap ((i:Int)+1)=((i+1:Nat):Int):=C7 (by omega) (by omega) (by omega)
  have hli:=p0 i
  by_cases hlt:i < de.length
  ·have hga:=Tr.C4 (f:=Tr.deA) (l:=de) Tr.A0f hlt
   have hnx:=A5y (A:=A0) (S:=(fun d:Nat × Tr.De=>A2n d.2)) Tr.A0f hlt
   have hln:=p0 (i+1)
   rw [hnx,List.length_append,List.length_append] at hln
   have hm:=Tr.D9 Tr.A0f hlt
   generalize de.getD i Tr.A0f=u at *
   obtain ⟨tt,⟨nm,nl,nc⟩,ks⟩:=u
   have hk:=(o2 _ hm).2
   have hkl:=m7 _ hm
   simp only at hk hkl
   generalize pre A0 (fun d:Nat × Tr.De=>A2n d.2) de i=D0 at *
   simp only [A2n,A0k,List.length_append,List.length_cons,List.length_nil] at hln
   simp only [Tr.deA] at hga
   have hwe:A0k.length=5:=rfl
   have hgl:(G6 .i64 ks).length=ks.length:=M1 .i64 ks
   refine wr ?_
   refine AWp.loopA [3,5] [36,37,38,39,40,41,42,43,44,47,48,49,50,51,52,53,54,55,56,57,58,59,60,61,62,45,46] (fun k:Nat=>[.str (D0++(A0k++32::(nm++40::H3 ((ks.take k).map Q4)))),.int .i64 (k:Int)]) (fun k s'=>k≤ks.length∧Sub (s.set b 31 [.str xn.1,.int .i64 xn.2.1,.int .i64 xn.2.2,.slice (tk 0) (de.map Tr.deA),.slice (tk 1) (qu.map Tr.quA),.slice (tk 2) (fr.map Tr.frA),.slice (tk 3) (st.map Tr.stA),.str xs.1,.int .i64 xs.2.1,.int .i64 xs.2.2,.slice (tk 4) (al.map Tr.syA),.slice (tk 5) (tn.map Tr.tnA)]) s') (fun k=>ks.length - k) (0) (by kernel_rfl) (C1 (congrArg AV.str (by simp [A0k,H3])) (C1 rfl rfl)) ?_ ?_
   ·exact ⟨Nat.zero_le _,ho⟩
   ·rintro y2 k s2 ⟨hk2,ho2⟩
    show awp _ _ _ _ _ (updL _ _ [.str (D0++(A0k++32::(nm++40::H3 ((ks.take k).map Q4)))),.int .i64 (k:Int)]) _
    conv=>whnf
    have hbx2:=ho2.bx _ _ A7
    have hw3:IntKind.i64.wrap ((k:Int)+1)=((k+1:Nat):Int):=C7 (by omega) (by omega) (by omega)
    have hjt:=A8s (ks.map Q4) k
    rw [← List.map_take] at hjt
    by_cases hlk:k < ks.length
    ·have hgk:(G6 .i64 ks).getD ((k:Int)).toNat []=[.int .i64 (ks.getD k 0)]:=by simp [G6,List.getD,hlk]
     have htj:=B2r (S:=Q4) (0:Int) hlk
     have hkk:=C3n (Γ:=Γ) _ (hk _ (show ks.getD k 0 ∈ ks by rw [List.getD_eq_getElem?_getD,List.getElem?_eq_getElem hlk];exact List.getElem_mem hlk))
     have hk6:=B0x (ks.getD k 0)
     generalize ks.getD k 0=w at *
     generalize Q4 w=V at *
     generalize H3 ((ks.take k).map Q4)=P at *
     by_cases h0:k=0
     ·rw [if_pos h0] at htj
      refine wr ?_
      all_goals exact ⟨k+1,C1 (congrArg AV.str (by rw [htj];simp)) (eqa),C5,⟨hlk,ho2⟩,by omega⟩
     ·rw [if_neg h0] at htj
      refine wr ?_
      all_goals exact ⟨k+1,C1 (congrArg AV.str (by rw [htj];simp)) (eqa),C5,⟨hlk,ho2⟩,by omega⟩
    ·have hte:ks.take k=ks:=List.take_of_length_le (by omega)
     rw [hte]
     rw [hte] at hjt
     refine wr ?_
     all_goals exact ⟨i+1,C1 (congrArg AV.str (by rw [hnx];simp [A2n])) (eqa),C5,⟨hlt,ho2⟩,by omega⟩
  ·obtain rfl:i=de.length:=by omega
   rw [A8x,← e1]
   refine wr ?_
   refine AWp.loopA [3,6] [65,66,67,68,69,72,73,74,75,76,7,77,78,79,80,81,82,83,84,85,86,87,88,89,90,91,92,93,70,71] (fun i:Nat=>[.str (pre A1 V9 qu i),.int .i64 (i:Int)]) (fun i s'=>i≤qu.length∧Sub (s.set b 31 [.str xn.1,.int .i64 xn.2.1,.int .i64 xn.2.2,.slice (tk 0) (de.map Tr.deA),.slice (tk 1) (qu.map Tr.quA),.slice (tk 2) (fr.map Tr.frA),.slice (tk 3) (st.map Tr.stA),.str xs.1,.int .i64 xs.2.1,.int .i64 xs.2.2,.slice (tk 4) (al.map Tr.syA),.slice (tk 5) (tn.map Tr.tnA)]) s') (fun i=>qu.length - i) (0) (by kernel_rfl) (C1 (congrArg AV.str (by rw [A5z];rw [e1'])) (C1 rfl rfl)) ?_ ?_
   ·exact ⟨Nat.zero_le _,ho⟩
   ·rintro y i s1 ⟨hi,ho⟩
    show awp _ _ _ _ _ (updL _ _ [.str (pre A1 V9 qu i),.int .i64 (i:Int)]) _
    conv=>whnf
    have hbx:=ho.bx _ _ A7
    have hw2:IntKind.i64.wrap ((i:Int)+1)=((i+1:Nat):Int):=C7 (by omega) (by omega) (by omega)
    have hli:=p1 i
    by_cases hlt:i < qu.length
    ·have hga:=Tr.C4 (f:=Tr.quA) (l:=qu) Tr.A15 hlt
     have hnx:=A5y (A:=A1) (S:=V9) Tr.A15 hlt
     have hln:=p1 (i+1)
     rw [hnx,List.length_append,List.length_append] at hln
     have hm:=Tr.D9 Tr.A15 hlt
     generalize qu.getD i Tr.A15=u at *
     obtain ⟨z,⟨nm,nl,nc⟩,kk⟩:=u
     have hkk:=C3n (Γ:=Γ) kk (o3 _ hm).2
     generalize pre A1 V9 qu i=D0 at *
     simp only [V9,List.length_append,List.length_cons,List.length_nil] at hln
     simp only [Tr.quA] at hga
     cases z
     all_goals
      simp only [V9] at hnx
      simp only [wForall,S8,Bool.false_eq_true,↓reduceIte,List.length_cons,List.length_nil] at hln
      refine wr ?_
      intro c hc
      have hc':=ho.none hc
      have hne:b≠c:=fun e=>by subst e;rw [hc] at hbx;cases hbx
      refine wr ?_
      all_goals exact ⟨i+1,C1 (congrArg AV.str (by rw [hnx]<;>simp [wForall,S8])) (eqa),C5,⟨hlt,(ho.set hc' _ _).set hc' _ _⟩,by omega⟩
    ·obtain rfl:i=qu.length:=by omega
     rw [A8x,← e2]
     refine wr ?_
     refine AWp.loopA [3,8] [94,95,96,97,98,101,102,103,104,105,106,107,108,109,110,111,112,113,114,115,116,117,118,119,120,99,100] (fun i:Nat=>[.str (pre A2 A1e fr i),.int .i64 (i:Int)]) (fun i s'=>i≤fr.length∧Sub (s.set b 31 [.str xn.1,.int .i64 xn.2.1,.int .i64 xn.2.2,.slice (tk 0) (de.map Tr.deA),.slice (tk 1) (qu.map Tr.quA),.slice (tk 2) (fr.map Tr.frA),.slice (tk 3) (st.map Tr.stA),.str xs.1,.int .i64 xs.2.1,.int .i64 xs.2.2,.slice (tk 4) (al.map Tr.syA),.slice (tk 5) (tn.map Tr.tnA)]) s') (fun i=>fr.length - i) (0) (by kernel_rfl) (C1 (congrArg AV.str (by rw [A5z];rw [e2'])) (C1 rfl rfl)) ?_ ?_
     ·exact ⟨Nat.zero_le _,ho⟩
     ·rintro y i s1 ⟨hi,ho⟩
      show awp _ _ _ _ _ (updL _ _ [.str (pre A2 A1e fr i),.int .i64 (i:Int)]) _
      conv=>whnf
      have hbx:=ho.bx _ _ A7
      have hw2:IntKind.i64.wrap ((i:Int)+1)=((i+1:Nat):Int):=C7 (by omega) (by omega) (by omega)
      have hli:=p2 i
      by_cases hlt:i < fr.length
      ·have hga:=Tr.C4 (f:=Tr.frA) (l:=fr) Tr.A1d hlt
       have hnx:=A5y (A:=A2) (S:=A1e) Tr.A1d hlt
       have hln:=p2 (i+1)
       rw [hnx,List.length_append,List.length_append] at hln
       have hm:=Tr.D9 Tr.A1d hlt
       generalize fr.getD i Tr.A1d=u at *
       obtain ⟨⟨nm,nl,nc⟩,av⟩:=u
       obtain ⟨f1,f2,f3⟩:=o4 _ hm
       simp only at f1 f2 f3
       obtain ⟨_,v2,v3⟩:=W1 f2 f3
       have htx:=Va.A75 (Γ:=Γ) av f3 (by omega) f2
       rw [← v3] at htx
       simp only [A1e] at hnx
       generalize pre A2 A1e fr i=D0 at *
       simp only [A1e,A3f,List.length_append,List.length_cons,List.length_nil] at hln
       generalize A93 av=V at *
       obtain ⟨vk,vi,vs,vb⟩:=av
       simp only [Va.vlA] at htx
       simp only [Tr.frA] at hga
       refine wr ?_
       all_goals exact ⟨i+1,C1 (congrArg AV.str (by rw [hnx]<;>simp [A3f])) (eqa),C5,⟨hlt,ho⟩,by omega⟩
      ·obtain rfl:i=fr.length:=by omega
       rw [A8x,← e3]
       refine wr ?_
       refine AWp.loopA [3,9] [121,122,123,124,125,128,129,130,131,132,10,133,134,135,136,137,138,139,140,141,142,143,144,145,146,147,148,149,126,127] (fun i:Nat=>[.str (pre A3 W3 st i),.int .i64 (i:Int)]) (fun i s'=>i≤st.length∧Sub (s.set b 31 [.str xn.1,.int .i64 xn.2.1,.int .i64 xn.2.2,.slice (tk 0) (de.map Tr.deA),.slice (tk 1) (qu.map Tr.quA),.slice (tk 2) (fr.map Tr.frA),.slice (tk 3) (st.map Tr.stA),.str xs.1,.int .i64 xs.2.1,.int .i64 xs.2.2,.slice (tk 4) (al.map Tr.syA),.slice (tk 5) (tn.map Tr.tnA)]) s') (fun i=>st.length - i) (0) (by kernel_rfl) (C1 (congrArg AV.str (by rw [A5z];rw [e3'])) (C1 rfl rfl)) ?_ ?_
       ·exact ⟨Nat.zero_le _,ho⟩
       ·rintro y i s1 ⟨hi,ho⟩
        show awp _ _ _ _ _ (updL _ _ [.str (pre A3 W3 st i),.int .i64 (i:Int)]) _
        conv=>whnf
        have hbx:=ho.bx _ _ A7
        have hw2:IntKind.i64.wrap ((i:Int)+1)=((i+1:Nat):Int):=C7 (by omega) (by omega) (by omega)
        have hli:=p3 i
        by_cases hlt:i < st.length
        ·have hga:=Tr.C4 (f:=Tr.stA) (l:=st) Tr.A16 hlt
         have hnx:=A5y (A:=A3) (S:=W3) Tr.A16 hlt
         have hln:=p3 (i+1)
         rw [hnx,List.length_append,List.length_append] at hln
         have hm:=Tr.D9 Tr.A16 hlt
         generalize st.getD i Tr.A16=u at *
         obtain ⟨⟨nm,nl,nc⟩,z1,z2⟩:=u
         generalize pre A3 W3 st i=D0 at *
         simp only [W3,List.length_append,List.length_cons,List.length_nil] at hln
         simp only [Tr.stA] at hga
         cases z1<;>cases z2
         all_goals
          simp only [W3] at hnx
          simp only [wNext,A21,R4,Bool.false_eq_true,↓reduceIte,List.length_cons,List.length_nil] at hln
          refine wr ?_
          intro c hc
          have hc':=ho.none hc
          have hne:b≠c:=fun e=>by subst e;rw [hc] at hbx;cases hbx
          refine wr ?_
          all_goals exact ⟨i+1,C1 (congrArg AV.str (by rw [hnx]<;>simp [wNext,A21,R4])) (eqa),C5,⟨hlt,(ho.set hc' _ _).set hc' _ _⟩,by omega⟩
        ·obtain rfl:i=st.length:=by omega
         rw [A8x,← e4]
         refine wr ?_
         refine AWp.loopA [3,11] [157,158,159,160,161,164,165,166,167,168,169,170,171,172,173,162,163] (fun i:Nat=>[.str (pre A4 (fun s:Nat × Tr.Sy=>R7++32::U8 s.2) al i),.int .i64 (i:Int)]) (fun i s'=>i≤al.length∧Sub (s.set b 31 [.str xn.1,.int .i64 xn.2.1,.int .i64 xn.2.2,.slice (tk 0) (de.map Tr.deA),.slice (tk 1) (qu.map Tr.quA),.slice (tk 2) (fr.map Tr.frA),.slice (tk 3) (st.map Tr.stA),.str xs.1,.int .i64 xs.2.1,.int .i64 xs.2.2,.slice (tk 4) (al.map Tr.syA),.slice (tk 5) (tn.map Tr.tnA)]) s') (fun i=>al.length - i) (0) (by kernel_rfl) (C1 (congrArg AV.str (by rw [A5z];rw [e4'];simp [X5])) (C1 rfl rfl)) ?_ ?_
         ·exact ⟨Nat.zero_le _,ho⟩
         ·rintro y i s1 ⟨hi,ho⟩
          show awp _ _ _ _ _ (updL _ _ [.str (pre A4 (fun s:Nat × Tr.Sy=>R7++32::U8 s.2) al i),.int .i64 (i:Int)]) _
          conv=>whnf
          have hbx:=ho.bx _ _ A7
          have hw2:IntKind.i64.wrap ((i:Int)+1)=((i+1:Nat):Int):=C7 (by omega) (by omega) (by omega)
          have hli:=p4 i
          by_cases hlt:i < al.length
          ·have hga:=Tr.C4 (f:=Tr.syA) (l:=al) Tr.Y9 hlt
           have hnx:=A5y (A:=A4) (S:=(fun s:Nat × Tr.Sy=>R7++32::U8 s.2)) Tr.Y9 hlt
           have hln:=p4 (i+1)
           rw [hnx,List.length_append,List.length_append] at hln
           have hm:=Tr.D9 Tr.Y9 hlt
           generalize al.getD i Tr.Y9=u at *
           generalize pre A4 (fun s:Nat × Tr.Sy=>R7++32::U8 s.2) al i=D0 at *
           simp only [R7,List.length_append,List.length_cons,List.length_nil] at hln
           have hsy:=C1b (Γ:=Γ) u (o7 _ hm) (by have:=m8 _ hm;omega) (by omega)
           generalize U8 u.2=V at *
           simp only [Tr.syA] at hga hsy
           refine wr ?_
           all_goals exact ⟨i+1,C1 (congrArg AV.str (by rw [hnx]<;>simp [R7])) (eqa),C5,⟨hlt,ho⟩,by omega⟩
          ·obtain rfl:i=al.length:=by omega
           rw [A8x,← e5]
           refine wr ?_
           refine AWp.loopA [3,12] [174,175,176,177,178,181,182,183,184,185,186,187,188,179,180] (fun i:Nat=>[.str (pre A5 (fun t:(Nat × Nat × Nat) × Tr.Tn=>G5 t.2) tn i),.int .i64 (i:Int)]) (fun i s'=>i≤tn.length∧Sub (s.set b 31 [.str xn.1,.int .i64 xn.2.1,.int .i64 xn.2.2,.slice (tk 0) (de.map Tr.deA),.slice (tk 1) (qu.map Tr.quA),.slice (tk 2) (fr.map Tr.frA),.slice (tk 3) (st.map Tr.stA),.str xs.1,.int .i64 xs.2.1,.int .i64 xs.2.2,.slice (tk 4) (al.map Tr.syA),.slice (tk 5) (tn.map Tr.tnA)]) s') (fun i=>tn.length - i) (0) (by kernel_rfl) (C1 (congrArg AV.str (by rw [A5z];rw [e5'])) (C1 rfl rfl)) ?_ ?_
           ·exact ⟨Nat.zero_le _,ho⟩
           ·rintro y i s1 ⟨hi,ho⟩
            show awp _ _ _ _ _ (updL _ _ [.str (pre A5 (fun t:(Nat × Nat × Nat) × Tr.Tn=>G5 t.2) tn i),.int .i64 (i:Int)]) _
            conv=>whnf
            have hbx:=ho.bx _ _ A7
            have hw2:IntKind.i64.wrap ((i:Int)+1)=((i+1:Nat):Int):=C7 (by omega) (by omega) (by omega)
            have hli:=p5 i
            by_cases hlt:i < tn.length
            ·have hga:=Tr.C4 (f:=Tr.tnA) (l:=tn) Tr.U1 hlt
             have hnx:=A5y (A:=A5) (S:=(fun t:(Nat × Nat × Nat) × Tr.Tn=>G5 t.2)) Tr.U1 hlt
             have hln:=p5 (i+1)
             rw [hnx,List.length_append,List.length_append] at hln
             have hm:=Tr.D9 Tr.U1 hlt
             generalize tn.getD i Tr.U1=u at *
             generalize pre A5 (fun t:(Nat × Nat × Nat) × Tr.Tn=>G5 t.2) tn i=D0 at *
             simp only [List.length_append,List.length_cons,List.length_nil] at hln
             have hsy:=D0f (Γ:=Γ) u (o8 _ hm) (by have:=m9 _ hm;omega) (by have:=m9 _ hm;omega) (by omega)
             generalize G5 u.2=V at *
             simp only [Tr.tnA] at hga hsy
             refine wr ?_
             all_goals exact ⟨i+1,C1 (congrArg AV.str (by rw [hnx]<;>simp [])) (eqa),C5,⟨hlt,ho⟩,by omega⟩
            ·obtain rfl:i=tn.length:=by omega
             rw [A8x,← e6]
             refine wr ?_
             all_goals exact ⟨((Sub.refl _).set hb0 _ _).trans ho,rfl⟩
end Go.Proofs.YticnkpgmmpenlaaGreatDoor.Pr
