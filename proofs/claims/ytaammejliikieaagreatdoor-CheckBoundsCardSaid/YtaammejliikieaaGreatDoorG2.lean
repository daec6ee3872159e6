/- Part 2 of what the closing text needs: TrN, TrR, TrS, TrT, TrV, VaB, Ix1, QuA, QuB, QuC, QuD. No condition of mine beyond those that the theorems name. -/
import Derived.Test.YtaammejliikieaaGreatDoorG1
import Derived.Test.YtaammejliikieaaGreatDoorChecked
import Derived.Test.YtaammejliikieaaGreatDoorAb23
import Derived.Lib.Bytealg
import Derived.Laws.Externs
import Derived.Test.YtaammejliikieaaGreatDoorAb21
import Derived.Lib.Builder
import Derived.Lib.UnsafeStr
import Derived.Shelf.RegionOpenPlain
set_option maxRecDepth 10000
set_option maxHeartbeats 60000000
set_option linter.all false
namespace Go.Proofs.YtaammejliikieaaGreatDoor.Bd
end Go.Proofs.YtaammejliikieaaGreatDoor.Bd
namespace Go.Proofs.YtaammejliikieaaGreatDoor.Ix
end Go.Proofs.YtaammejliikieaaGreatDoor.Ix
namespace Go.Proofs.YtaammejliikieaaGreatDoor.Tr
open Go Go.Ab Go.RowKit
variable {Γ:Nat→AV}
attribute [local irreducible] A8 Sto.set Sto.grow
theorem A72 (k:IntKind):∀ l:List Int,(G9 k l).flatten=l.map (.int k)
 | []=>rfl
 | x::l=>by
  have:=A72 k l
  simp only [G9] at this ⊢
  rw [List.map_cons,List.flatten_cons,this];rfl
theorem A2h {G:Gh} {w:World} (k:IntKind):∀ (l:List Int) (us:List Value),B7 G w (l.map (.int k)) us↔us=l.map (.int k)
 | [],us=>by rw [List.map_nil,List.map_nil,B4]
 | x::l,us=>by
  rw [List.map_cons,List.map_cons,A9]
  constructor
  ·rintro ⟨u,us',rfl,hu,hs⟩
   rw [F5] at hu
   rw [hu,(A2h k l us').1 hs]
  ·rintro rfl
   exact ⟨_,_,rfl,F5.2 rfl,(A2h k l _).2 rfl⟩
theorem C32 (t:Nat) (l:List Int) (hl:l.length * 8≤140737488355328):A8 Tryz.prog Γ 110 [.slice t (G9 .i64 l)] fun v=>v=.slice 0 (G9 .i64 l):=by
 have h1:∀ c ∈ G9 .i64 l,c.length=1:=by
  intro c hc
  obtain ⟨x,_,rfl⟩:=List.mem_map.1 hc
  rfl
 refine A8.of_row (T:=3) (k:=1) h1 fun G w vs s hm hr=>⟨l.map (.int .i64),?_,?_⟩
 ·rw [A72];exact (A2h .i64 l _).2 rfl
 obtain ⟨u,us,rfl,hu,hus⟩:=A9.1 hr
 rw [B4] at hus;subst hus
 rw [H8]
 unfold R at hu
 rcases hu.2 with ⟨he,a,cap,rfl,_,h2⟩|⟨b,o,cap,k,rfl,hc,_,hne,hE⟩
 ·have hl0:l=[]:=by
   have:=congrArg List.length he
   rw [H8] at this
   exact List.eq_nil_of_length_eq_zero this
  subst hl0
  cases a with
  | none=>exact (Tryz.slices_Clone_int_nil 0 cap w).mono fun e w' ⟨h,hw⟩=>⟨_,h,⟨rfl,.inl ⟨rfl,rfl⟩⟩,by rw [hw];exact Below.refl _ _⟩
  | some a=>exact (Tryz.slices_Clone_int_zero a cap w).mono fun e w' ⟨v',h,ho,_,hb⟩=>⟨v',h,ho,hb⟩
 ·obtain ⟨us,hul,hur,hcell⟩:=U9 _ hE
  rw [A72] at hur
  obtain rfl:=(A2h .i64 l us).1 hur
  have:=Tryz.slices_Clone_int b o (G9 .i64 l).length cap l w (by rw [H8];exact Nat.le_refl _) (by rw [H8];exact hl) fun j hj=>hcell j _ (by simp [List.getD,hj])
  refine this.mono fun e w' ⟨v',h,ho,_,hb⟩=>⟨v',h,?_,hb⟩
  rw [H8,List.take_length] at ho
  exact ho
end Go.Proofs.YtaammejliikieaaGreatDoor.Tr
namespace Go.Proofs.YtaammejliikieaaGreatDoor.Tr
open Go Go.Ab Go.RowKit
def A93 (a:Ar):Bool :=
 if a.1=1 then decide (a.2.1=[]) && A8e a.2.2.1
 else if a.1=2 then Sc.L8 a.2.1 && decide (a.2.2.1=H9)
 else decide (a.1=3) && (decide (a.2.1=[]) && decide (a.2.2.1=H9))
def A25 (s:Nat × Sy):Bool:=Sc.L8 s.2.1 && s.2.2.1.all A93
def A1f (k:Int):Bool:=decide (1≤k) && decide (k≤3)
def V5 (x:Idn):Bool:=Sc.L8 x.1
def whB (l:List Ex) (f root:Int):Bool:=decide (f≤root) && (decide (root < l.length) && (decide ((nd Sc.L8 l root.toNat).1=root - f+1) && decide ((nd Sc.L8 l root.toNat).2≤64)))
def Y9 (l:List Ex):List Se→Int→Option Int
 | [],f=>some f
 | x::r,f=>if (V5 x.1 && whB l f x.2)=true then Y9 l r (x.2+1) else none
def B0u (l:List Ex) (g:Int):Option Int:=if g = -1 then some 0 else if whB l 0 g=true then some (g+1) else none
def trB (x:(Nat × Nat × Nat) × Tn):Bool :=
 V5 x.2.1 && (V5 x.2.2.1 && (A25 (0,x.2.2.2.1) && decide ((B0u x.2.2.2.2.1 x.2.2.2.2.2.1).bind (Y9 x.2.2.2.2.1 x.2.2.2.2.2.2)=some (x.2.2.2.2.1.length:Int))))
def Y1 (x:Tr0):Bool :=
 V5 x.1 && (V5 x.2.2.2.2.2.1 && (x.2.1.all (fun d=>V5 d.2.1 && d.2.2.all A1f) && (x.2.2.1.all (fun q=>V5 q.2.1 && A1f q.2.2) && (x.2.2.2.1.all (fun f=>V5 f.1 && A8e f.2) &&
  (x.2.2.2.2.1.all (fun s=>V5 s.1) && (x.2.2.2.2.2.2.1.all A25 && x.2.2.2.2.2.2.2.all trB))))))
end Go.Proofs.YtaammejliikieaaGreatDoor.Tr
namespace Go.Proofs.YtaammejliikieaaGreatDoor.Tr
open Go Go.Ab Go.RowKit
variable {Γ:Nat→AV}
attribute [local irreducible] A8 Sto.set Sto.grow
theorem A69 (k:Int):A8 Tryz.prog Γ 85 [.int .i64 k] fun v=>v=.str (if k=1 then [105,110,116] else if k=2 then [115,116,114,105,110,103] else if k=3 then [98,111,111,108] else []):=by
 refine aps Tryz.func85 ?_
 intro s
 conv=>whnf
 repeat' ((first|(refine brS (fun h=>?_) (fun h=>?_)<;>(try rw [h])<;>(try simp only [bS,↓reduceIte] at h))|refine gS ?_|refine aA ?_|refine nA ?_|fail)<;>(conv=>whnf))
 all_goals simp [A1v, *]
theorem A1j (k:Int):A8 Tryz.prog Γ 29 [.int .i64 k] fun v=>v=.bool (A1f k):=by
 refine aps Tryz.func29 ?_
 intro s
 refine wr ?_;(first|(refine A2.pure' ?_ (A69 _);rintro _ rfl)|refine A7.pure ?_ (A69 _));refine wr ?_
 all_goals refine C4 ?_
 all_goals grind [A1f]
theorem F1 (hT:Sc.Wds Γ) (x:Idn):A8 Tryz.prog Γ 25 [.agg (S1 x)] fun v=>v=.bool (V5 x):=by
 refine aps Tryz.func25 ?_
 intro s
 conv=>whnf
 intro b hb
 refine wr ?_;(first|(refine A2.pure' ?_ (Sc.Q7 hT _);rintro _ rfl)|refine A7.pure ?_ (Sc.Q7 hT _));refine wr ?_
 exact ⟨(Sub.refl _).set hb _ _,rfl⟩
def kA (k:Int):List AV:=[.int .i64 k]
def A43 (d:Nat × De):Bool:=V5 d.2.1 && d.2.2.all A1f
def A1s (q:Qu):Bool:=V5 q.2.1 && A1f q.2.2
def A46 (f:Fr):Bool:=V5 f.1 && A8e f.2
def A1u (s:St):Bool:=V5 s.1
theorem B1g (hT:Sc.Wds Γ) (x:Ar):A8 Tryz.prog Γ 98 [.agg (arA x)] fun v=>v=.bool (A93 x):=by
 have hev:=C4b x.2.2.1 H9
 refine aps Tryz.func98 ?_
 intro s
 conv=>whnf
 intro b hb
 conv=>whnf
 repeat' ((first|exact pru|(refine brS (fun h=>?_) (fun h=>?_)<;>(try rw [h])<;>(try simp only [bS,↓reduceIte] at h))|(refine B5 A3 ?_)|(refine A2.pure' ?_ (A0w x.2.2.1);rintro _ rfl)|refine A7.pure ?_ (A0w x.2.2.1)|(refine P9.of B6t B1e ?_)|(refine A2.pure' ?_ (Sc.Q7 hT _);rintro _ rfl)|refine A7.pure ?_ (Sc.Q7 hT _)|refine gS ?_|refine aA ?_|refine nA ?_|fail)<;>(conv=>whnf))
 all_goals refine ⟨(Sub.refl _).set hb _ _,C4 ?_⟩
 all_goals (unfold A93;rw [← hev])
 all_goals grind [H9]
theorem C15 {s:Sto} {b:Nat} {T0:TypeId} (u:Int) (hb:s.bx b=some (T0,[.func (.func 29) [] []])):A2 Tryz.prog Γ 84 [.int .i64 u,.ptr (some ⟨b,0,none⟩)] s fun v s'=>v=.bool (!A1f u)∧s'=s:=by
 refine acs Tryz.func84 ?_
 refine wr ?_;(first|(refine A2.pure' ?_ (A1j u);rintro _ rfl)|refine A7.pure ?_ (A1j u));refine wr ?_
 exact ⟨_,Sub.refl _,rfl,rfl⟩
theorem B40 {s:Sto} {b:Nat} {T0:TypeId} (t:Nat) (l:List (Int)) (hl:l.length≤100000) (hb:s.bx b=some (T0,[.func (.func 29) [] []])) :
  A2 Tryz.prog Γ 132 [.slice t (l.map kA),.func (.func 84) [] [.ptr (some ⟨b,0,none⟩)]] s fun v s'=>∃ r:Int,v=.int .i64 r∧decide (r ≥ 0) = !l.all A1f∧s'=s:=by
 have hml:(l.map kA).length=l.length:=List.length_map ..
 refine acs Tryz.func132 ?_
 conv=>whnf
 refine AWp.loopA [8] [9,10,5,11,12,13,14,15,16,17,4,18] (fun i:Nat=>[.int .i64 i]) (fun i s'=>i≤l.length∧s'=s∧l.all A1f=(l.drop i).all A1f) (fun i=>l.length - i) (0) (by kernel_rfl) (eqa) ?_ ?_
 ·exact ⟨by omega,rfl,by simp⟩
 ·rintro y i _ ⟨hi,rfl,hp⟩
  conv=>whnf
  have hga:=fun h:i < l.length=>B9 (f:=kA) (l:=l) 0 h
  have hd:=fun h:i < l.length=>A0b (p:=A1f) 0 h
  generalize l.getD i 0=u at *
  repeat' ((first|(refine brS (fun h=>?_) (fun h=>?_)<;>(try rw [h])<;>(try simp only [bS,↓reduceIte] at h))|(rw [show (l.map kA).getD ((i:Int)).toNat []=_ from hga (by omega)])|(refine A2.by (C15 u hb) ?_;rintro _ _ ⟨rfl,rfl⟩)|refine gS ?_|refine aA ?_|refine nA ?_|fail)<;>(conv=>whnf))
  ·refine ⟨_,Sub.refl _,i,rfl,?_,rfl⟩
   rw [hp,hd (by omega),h,decide_eq_true (by omega)];rfl
  ·refine ⟨i+1,eqa,B8,⟨by omega,rfl,?_⟩,by omega⟩
   rw [hp,hd (by omega),h,Bool.true_and]
  ·refine ⟨_,Sub.refl _,-1,rfl,?_,rfl⟩
   rw [hp,C0 (by omega)];rfl
theorem A9f {s:Sto} {b:Nat} {T0:TypeId} (t:Nat) (l:List (Int)) (hl:l.length≤100000) (hb:s.bx b=some (T0,[.func (.func 29) [] []])) :
  A2 Tryz.prog Γ 83 [.slice t (l.map kA),.func (.func 84) [] [.ptr (some ⟨b,0,none⟩)]] s fun v s'=>v=.bool (!l.all A1f)∧s'=s:=by
 refine acs Tryz.func83 ?_
 refine wr ?_;(refine A2.by (B40 t l hl hb) ?_;rintro _ _ ⟨r,rfl,hr,rfl⟩);refine wr ?_
 exact ⟨_,Sub.refl _,C4 hr,rfl⟩
theorem A91 (t:Nat) (l:List (Int)) (hl:l.length≤100000):A8 Tryz.prog Γ 28 [.slice t (l.map kA),.func (.func 29) [] []] fun v=>v=.bool (l.all A1f):=by
 refine aps Tryz.func28 ?_
 intro s
 conv=>whnf
 intro b hb
 refine wr ?_;(refine A2.by (A9f t l hl A3) ?_;rintro _ _ ⟨rfl,rfl⟩);refine wr ?_
 exact ⟨(Sub.refl _).set hb _ _,C4 (by simp)⟩
theorem C4j (hT:Sc.Wds Γ) {s:Sto} {b:Nat} {T0:TypeId} (u:Ar) (hb:s.bx b=some (T0,[.func (.func 98) [] []])):A2 Tryz.prog Γ 138 [.agg (arA u),.ptr (some ⟨b,0,none⟩)] s fun v s'=>v=.bool (!A93 u)∧s'=s:=by
 refine acs Tryz.func138 ?_
 conv=>whnf
 intro c hc
 conv=>whnf
 have hn:=A1 hb hc
 repeat' ((first|(refine brS (fun h=>?_) (fun h=>?_)<;>(try rw [h])<;>(try simp only [bS,↓reduceIte] at h))|(refine Q4 hn (B5 hb ?_))|(refine B5 A3 ?_)|(refine A2.pure' ?_ (B1g hT u);rintro _ rfl)|refine A7.pure ?_ (B1g hT u)|refine gS ?_|refine aA ?_|refine nA ?_|fail)<;>(conv=>whnf))
 exact ⟨_,(Sub.refl _).set hc _ _,rfl,rfl⟩
theorem B6w (hT:Sc.Wds Γ) {s:Sto} {b:Nat} {T0:TypeId} (t:Nat) (l:List (Ar)) (hl:l.length≤100000) (hb:s.bx b=some (T0,[.func (.func 98) [] []])) :
  A2 Tryz.prog Γ 186 [.slice t (l.map arA),.func (.func 138) [] [.ptr (some ⟨b,0,none⟩)]] s fun v s'=>∃ r:Int,v=.int .i64 r∧decide (r ≥ 0) = !l.all A93∧s'=s:=by
 have hml:(l.map arA).length=l.length:=List.length_map ..
 refine acs Tryz.func186 ?_
 conv=>whnf
 refine AWp.loopA [8] [9,10,5,11,12,13,14,15,16,17,4,18] (fun i:Nat=>[.int .i64 i]) (fun i s'=>i≤l.length∧s'=s∧l.all A93=(l.drop i).all A93) (fun i=>l.length - i) (0) (by kernel_rfl) (eqa) ?_ ?_
 ·exact ⟨by omega,rfl,by simp⟩
 ·rintro y i _ ⟨hi,rfl,hp⟩
  conv=>whnf
  have hga:=fun h:i < l.length=>B9 (f:=arA) (l:=l) A60 h
  have hd:=fun h:i < l.length=>A0b (p:=A93) A60 h
  generalize l.getD i A60=u at *
  repeat' ((first|(refine brS (fun h=>?_) (fun h=>?_)<;>(try rw [h])<;>(try simp only [bS,↓reduceIte] at h))|(rw [show (l.map arA).getD ((i:Int)).toNat []=_ from hga (by omega)])|(refine A2.by (C4j hT u hb) ?_;rintro _ _ ⟨rfl,rfl⟩)|refine gS ?_|refine aA ?_|refine nA ?_|fail)<;>(conv=>whnf))
  ·refine ⟨_,Sub.refl _,i,rfl,?_,rfl⟩
   rw [hp,hd (by omega),h,decide_eq_true (by omega)];rfl
  ·refine ⟨i+1,eqa,B8,⟨by omega,rfl,?_⟩,by omega⟩
   rw [hp,hd (by omega),h,Bool.true_and]
  ·refine ⟨_,Sub.refl _,-1,rfl,?_,rfl⟩
   rw [hp,C0 (by omega)];rfl
theorem B0c (hT:Sc.Wds Γ) {s:Sto} {b:Nat} {T0:TypeId} (t:Nat) (l:List (Ar)) (hl:l.length≤100000) (hb:s.bx b=some (T0,[.func (.func 98) [] []])) :
  A2 Tryz.prog Γ 137 [.slice t (l.map arA),.func (.func 138) [] [.ptr (some ⟨b,0,none⟩)]] s fun v s'=>v=.bool (!l.all A93)∧s'=s:=by
 refine acs Tryz.func137 ?_
 refine wr ?_;(refine A2.by (B6w hT t l hl hb) ?_;rintro _ _ ⟨r,rfl,hr,rfl⟩);refine wr ?_
 exact ⟨_,Sub.refl _,C4 hr,rfl⟩
theorem B2t (hT:Sc.Wds Γ) (t:Nat) (l:List (Ar)) (hl:l.length≤100000):A8 Tryz.prog Γ 97 [.slice t (l.map arA),.func (.func 98) [] []] fun v=>v=.bool (l.all A93):=by
 refine aps Tryz.func97 ?_
 intro s
 conv=>whnf
 intro b hb
 refine wr ?_;(refine A2.by (B0c hT t l hl A3) ?_;rintro _ _ ⟨rfl,rfl⟩);refine wr ?_
 exact ⟨(Sub.refl _).set hb _ _,C4 (by simp)⟩
theorem A2z (hT:Sc.Wds Γ) (u:Nat × Sy) (hu:u.2.2.1.length≤100000):A8 Tryz.prog Γ 38 [.agg (syA u)] fun v=>v=.bool (A25 u):=by
 refine aps Tryz.func38 ?_
 intro s
 conv=>whnf
 intro b hb
 conv=>whnf
 repeat' ((first|(refine brS (fun h=>?_) (fun h=>?_)<;>(try rw [h])<;>(try simp only [bS,↓reduceIte] at h))|(refine B5 A3 ?_)|(refine A2.pure' ?_ (Sc.Q7 hT _);rintro _ rfl)|refine A7.pure ?_ (Sc.Q7 hT _)|(refine A2.pure' ?_ (B2t hT _ _ hu);rintro _ rfl)|refine A7.pure ?_ (B2t hT _ _ hu)|refine gS ?_|refine aA ?_|refine nA ?_|fail)<;>(conv=>whnf))
 all_goals refine ⟨(Sub.refl _).set hb _ _,C4 ?_⟩
 all_goals simp [A25, *]
theorem C4l (hT:Sc.Wds Γ) {s:Sto} {b:Nat} {T0:TypeId} (u:Nat × Sy) (hu:u.2.2.1.length≤100000) (hb:s.bx b=some (T0,[.func (.func 38) [] []])):A2 Tryz.prog Γ 96 [.agg (syA u),.ptr (some ⟨b,0,none⟩)] s fun v s'=>v=.bool (!A25 u)∧s'=s:=by
 refine acs Tryz.func96 ?_
 conv=>whnf
 intro c hc
 conv=>whnf
 have hn:=A1 hb hc
 repeat' ((first|(refine brS (fun h=>?_) (fun h=>?_)<;>(try rw [h])<;>(try simp only [bS,↓reduceIte] at h))|(refine Q4 hn (B5 hb ?_))|(refine B5 A3 ?_)|(refine A2.pure' ?_ (A2z hT u hu);rintro _ rfl)|refine A7.pure ?_ (A2z hT u hu)|refine gS ?_|refine aA ?_|refine nA ?_|fail)<;>(conv=>whnf))
 exact ⟨_,(Sub.refl _).set hc _ _,rfl,rfl⟩
theorem B6y (hT:Sc.Wds Γ) {s:Sto} {b:Nat} {T0:TypeId} (t:Nat) (l:List (Nat × Sy)) (hl:l.length≤100000) (hm:∀ x ∈ l,x.2.2.1.length≤100000) (hb:s.bx b=some (T0,[.func (.func 38) [] []])) :
  A2 Tryz.prog Γ 136 [.slice t (l.map syA),.func (.func 96) [] [.ptr (some ⟨b,0,none⟩)]] s fun v s'=>∃ r:Int,v=.int .i64 r∧decide (r ≥ 0) = !l.all A25∧s'=s:=by
 have hml:(l.map syA).length=l.length:=List.length_map ..
 refine acs Tryz.func136 ?_
 conv=>whnf
 refine AWp.loopA [8] [9,10,5,11,12,13,14,15,16,17,4,18] (fun i:Nat=>[.int .i64 i]) (fun i s'=>i≤l.length∧s'=s∧l.all A25=(l.drop i).all A25) (fun i=>l.length - i) (0) (by kernel_rfl) (eqa) ?_ ?_
 ·exact ⟨by omega,rfl,by simp⟩
 ·rintro y i _ ⟨hi,rfl,hp⟩
  conv=>whnf
  have hga:=fun h:i < l.length=>B9 (f:=syA) (l:=l) C7y h
  have hd:=fun h:i < l.length=>A0b (p:=A25) C7y h
  have hmx:=fun h:i < l.length=>hm _ (D4 C7y h)
  generalize l.getD i C7y=u at *
  repeat' ((first|(refine brS (fun h=>?_) (fun h=>?_)<;>(try rw [h])<;>(try simp only [bS,↓reduceIte] at h))|(rw [show (l.map syA).getD ((i:Int)).toNat []=_ from hga (by omega)])|(refine A2.by (C4l hT u (hmx (by omega)) hb) ?_;rintro _ _ ⟨rfl,rfl⟩)|refine gS ?_|refine aA ?_|refine nA ?_|fail)<;>(conv=>whnf))
  ·refine ⟨_,Sub.refl _,i,rfl,?_,rfl⟩
   rw [hp,hd (by omega),h,decide_eq_true (by omega)];rfl
  ·refine ⟨i+1,eqa,B8,⟨by omega,rfl,?_⟩,by omega⟩
   rw [hp,hd (by omega),h,Bool.true_and]
  ·refine ⟨_,Sub.refl _,-1,rfl,?_,rfl⟩
   rw [hp,C0 (by omega)];rfl
theorem B0e (hT:Sc.Wds Γ) {s:Sto} {b:Nat} {T0:TypeId} (t:Nat) (l:List (Nat × Sy)) (hl:l.length≤100000) (hm:∀ x ∈ l,x.2.2.1.length≤100000) (hb:s.bx b=some (T0,[.func (.func 38) [] []])) :
  A2 Tryz.prog Γ 95 [.slice t (l.map syA),.func (.func 96) [] [.ptr (some ⟨b,0,none⟩)]] s fun v s'=>v=.bool (!l.all A25)∧s'=s:=by
 refine acs Tryz.func95 ?_
 refine wr ?_;(refine A2.by (B6y hT t l hl hm hb) ?_;rintro _ _ ⟨r,rfl,hr,rfl⟩);refine wr ?_
 exact ⟨_,Sub.refl _,C4 hr,rfl⟩
theorem B2v (hT:Sc.Wds Γ) (t:Nat) (l:List (Nat × Sy)) (hl:l.length≤100000) (hm:∀ x ∈ l,x.2.2.1.length≤100000):A8 Tryz.prog Γ 37 [.slice t (l.map syA),.func (.func 38) [] []] fun v=>v=.bool (l.all A25):=by
 refine aps Tryz.func37 ?_
 intro s
 conv=>whnf
 intro b hb
 refine wr ?_;(refine A2.by (B0e hT t l hl hm A3) ?_;rintro _ _ ⟨rfl,rfl⟩);refine wr ?_
 exact ⟨(Sub.refl _).set hb _ _,C4 (by simp)⟩
theorem A86 (hT:Sc.Wds Γ) (u:Nat × De) (hu:u.2.2.length≤100000):A8 Tryz.prog Γ 27 [.agg (deA u)] fun v=>v=.bool (A43 u):=by
 refine aps Tryz.func27 ?_
 intro s
 conv=>whnf
 intro b hb
 conv=>whnf
 repeat' ((first|(refine brS (fun h=>?_) (fun h=>?_)<;>(try rw [h])<;>(try simp only [bS,↓reduceIte] at h))|(refine B5 A3 ?_)|(refine A2.pure' ?_ (F1 hT u.2.1);rintro _ rfl)|refine A7.pure ?_ (F1 hT u.2.1)|(refine A2.pure' ?_ (A91 _ _ hu);rintro _ rfl)|refine A7.pure ?_ (A91 _ _ hu)|refine gS ?_|refine aA ?_|refine nA ?_|fail)<;>(conv=>whnf))
 all_goals refine ⟨(Sub.refl _).set hb _ _,C4 ?_⟩
 all_goals simp [A43, *]
theorem C13 (hT:Sc.Wds Γ) {s:Sto} {b:Nat} {T0:TypeId} (u:Nat × De) (hu:u.2.2.length≤100000) (hb:s.bx b=some (T0,[.func (.func 27) [] []])):A2 Tryz.prog Γ 82 [.agg (deA u),.ptr (some ⟨b,0,none⟩)] s fun v s'=>v=.bool (!A43 u)∧s'=s:=by
 refine acs Tryz.func82 ?_
 conv=>whnf
 intro c hc
 conv=>whnf
 have hn:=A1 hb hc
 repeat' ((first|(refine brS (fun h=>?_) (fun h=>?_)<;>(try rw [h])<;>(try simp only [bS,↓reduceIte] at h))|(refine Q4 hn (B5 hb ?_))|(refine B5 A3 ?_)|(refine A2.pure' ?_ (A86 hT u hu);rintro _ rfl)|refine A7.pure ?_ (A86 hT u hu)|refine gS ?_|refine aA ?_|refine nA ?_|fail)<;>(conv=>whnf))
 exact ⟨_,(Sub.refl _).set hc _ _,rfl,rfl⟩
theorem B4y (hT:Sc.Wds Γ) {s:Sto} {b:Nat} {T0:TypeId} (t:Nat) (l:List (Nat × De)) (hl:l.length≤100000) (hm:∀ x ∈ l,x.2.2.length≤100000) (hb:s.bx b=some (T0,[.func (.func 27) [] []])) :
  A2 Tryz.prog Γ 131 [.slice t (l.map deA),.func (.func 82) [] [.ptr (some ⟨b,0,none⟩)]] s fun v s'=>∃ r:Int,v=.int .i64 r∧decide (r ≥ 0) = !l.all A43∧s'=s:=by
 have hml:(l.map deA).length=l.length:=List.length_map ..
 refine acs Tryz.func131 ?_
 conv=>whnf
 refine AWp.loopA [8] [9,10,5,11,12,13,14,15,16,17,4,18] (fun i:Nat=>[.int .i64 i]) (fun i s'=>i≤l.length∧s'=s∧l.all A43=(l.drop i).all A43) (fun i=>l.length - i) (0) (by kernel_rfl) (eqa) ?_ ?_
 ·exact ⟨by omega,rfl,by simp⟩
 ·rintro y i _ ⟨hi,rfl,hp⟩
  conv=>whnf
  have hga:=fun h:i < l.length=>B9 (f:=deA) (l:=l) C7x h
  have hd:=fun h:i < l.length=>A0b (p:=A43) C7x h
  have hmx:=fun h:i < l.length=>hm _ (D4 C7x h)
  generalize l.getD i C7x=u at *
  repeat' ((first|(refine brS (fun h=>?_) (fun h=>?_)<;>(try rw [h])<;>(try simp only [bS,↓reduceIte] at h))|(rw [show (l.map deA).getD ((i:Int)).toNat []=_ from hga (by omega)])|(refine A2.by (C13 hT u (hmx (by omega)) hb) ?_;rintro _ _ ⟨rfl,rfl⟩)|refine gS ?_|refine aA ?_|refine nA ?_|fail)<;>(conv=>whnf))
  ·refine ⟨_,Sub.refl _,i,rfl,?_,rfl⟩
   rw [hp,hd (by omega),h,decide_eq_true (by omega)];rfl
  ·refine ⟨i+1,eqa,B8,⟨by omega,rfl,?_⟩,by omega⟩
   rw [hp,hd (by omega),h,Bool.true_and]
  ·refine ⟨_,Sub.refl _,-1,rfl,?_,rfl⟩
   rw [hp,C0 (by omega)];rfl
theorem A9d (hT:Sc.Wds Γ) {s:Sto} {b:Nat} {T0:TypeId} (t:Nat) (l:List (Nat × De)) (hl:l.length≤100000) (hm:∀ x ∈ l,x.2.2.length≤100000) (hb:s.bx b=some (T0,[.func (.func 27) [] []])) :
  A2 Tryz.prog Γ 81 [.slice t (l.map deA),.func (.func 82) [] [.ptr (some ⟨b,0,none⟩)]] s fun v s'=>v=.bool (!l.all A43)∧s'=s:=by
 refine acs Tryz.func81 ?_
 refine wr ?_;(refine A2.by (B4y hT t l hl hm hb) ?_;rintro _ _ ⟨r,rfl,hr,rfl⟩);refine wr ?_
 exact ⟨_,Sub.refl _,C4 hr,rfl⟩
theorem A9z (hT:Sc.Wds Γ) (t:Nat) (l:List (Nat × De)) (hl:l.length≤100000) (hm:∀ x ∈ l,x.2.2.length≤100000):A8 Tryz.prog Γ 26 [.slice t (l.map deA),.func (.func 27) [] []] fun v=>v=.bool (l.all A43):=by
 refine aps Tryz.func26 ?_
 intro s
 conv=>whnf
 intro b hb
 refine wr ?_;(refine A2.by (A9d hT t l hl hm A3) ?_;rintro _ _ ⟨rfl,rfl⟩);refine wr ?_
 exact ⟨(Sub.refl _).set hb _ _,C4 (by simp)⟩
theorem A7a (hT:Sc.Wds Γ) (u:Qu):A8 Tryz.prog Γ 31 [.agg (quA u)] fun v=>v=.bool (A1s u):=by
 refine aps Tryz.func31 ?_
 intro s
 conv=>whnf
 intro b hb
 conv=>whnf
 repeat' ((first|(refine brS (fun h=>?_) (fun h=>?_)<;>(try rw [h])<;>(try simp only [bS,↓reduceIte] at h))|(refine B5 A3 ?_)|(refine A2.pure' ?_ (F1 hT u.2.1);rintro _ rfl)|refine A7.pure ?_ (F1 hT u.2.1)|(refine A2.pure' ?_ (A1j _);rintro _ rfl)|refine A7.pure ?_ (A1j _)|refine gS ?_|refine aA ?_|refine nA ?_|fail)<;>(conv=>whnf))
 all_goals refine ⟨(Sub.refl _).set hb _ _,C4 ?_⟩
 all_goals simp [A1s, *]
theorem B8z (hT:Sc.Wds Γ) {s:Sto} {b:Nat} {T0:TypeId} (u:Qu) (hb:s.bx b=some (T0,[.func (.func 31) [] []])):A2 Tryz.prog Γ 87 [.agg (quA u),.ptr (some ⟨b,0,none⟩)] s fun v s'=>v=.bool (!A1s u)∧s'=s:=by
 refine acs Tryz.func87 ?_
 conv=>whnf
 intro c hc
 conv=>whnf
 have hn:=A1 hb hc
 repeat' ((first|(refine brS (fun h=>?_) (fun h=>?_)<;>(try rw [h])<;>(try simp only [bS,↓reduceIte] at h))|(refine Q4 hn (B5 hb ?_))|(refine B5 A3 ?_)|(refine A2.pure' ?_ (A7a hT u);rintro _ rfl)|refine A7.pure ?_ (A7a hT u)|refine gS ?_|refine aA ?_|refine nA ?_|fail)<;>(conv=>whnf))
 exact ⟨_,(Sub.refl _).set hc _ _,rfl,rfl⟩
theorem B2i (hT:Sc.Wds Γ) {s:Sto} {b:Nat} {T0:TypeId} (t:Nat) (l:List (Qu)) (hl:l.length≤100000) (hb:s.bx b=some (T0,[.func (.func 31) [] []])) :
  A2 Tryz.prog Γ 133 [.slice t (l.map quA),.func (.func 87) [] [.ptr (some ⟨b,0,none⟩)]] s fun v s'=>∃ r:Int,v=.int .i64 r∧decide (r ≥ 0) = !l.all A1s∧s'=s:=by
 have hml:(l.map quA).length=l.length:=List.length_map ..
 refine acs Tryz.func133 ?_
 conv=>whnf
 refine AWp.loopA [8] [9,10,5,11,12,13,14,15,16,17,4,18] (fun i:Nat=>[.int .i64 i]) (fun i s'=>i≤l.length∧s'=s∧l.all A1s=(l.drop i).all A1s) (fun i=>l.length - i) (0) (by kernel_rfl) (eqa) ?_ ?_
 ·exact ⟨by omega,rfl,by simp⟩
 ·rintro y i _ ⟨hi,rfl,hp⟩
  conv=>whnf
  have hga:=fun h:i < l.length=>B9 (f:=quA) (l:=l) C97 h
  have hd:=fun h:i < l.length=>A0b (p:=A1s) C97 h
  generalize l.getD i C97=u at *
  repeat' ((first|(refine brS (fun h=>?_) (fun h=>?_)<;>(try rw [h])<;>(try simp only [bS,↓reduceIte] at h))|(rw [show (l.map quA).getD ((i:Int)).toNat []=_ from hga (by omega)])|(refine A2.by (B8z hT u hb) ?_;rintro _ _ ⟨rfl,rfl⟩)|refine gS ?_|refine aA ?_|refine nA ?_|fail)<;>(conv=>whnf))
  ·refine ⟨_,Sub.refl _,i,rfl,?_,rfl⟩
   rw [hp,hd (by omega),h,decide_eq_true (by omega)];rfl
  ·refine ⟨i+1,eqa,B8,⟨by omega,rfl,?_⟩,by omega⟩
   rw [hp,hd (by omega),h,Bool.true_and]
  ·refine ⟨_,Sub.refl _,-1,rfl,?_,rfl⟩
   rw [hp,C0 (by omega)];rfl
theorem A7v (hT:Sc.Wds Γ) {s:Sto} {b:Nat} {T0:TypeId} (t:Nat) (l:List (Qu)) (hl:l.length≤100000) (hb:s.bx b=some (T0,[.func (.func 31) [] []])) :
  A2 Tryz.prog Γ 86 [.slice t (l.map quA),.func (.func 87) [] [.ptr (some ⟨b,0,none⟩)]] s fun v s'=>v=.bool (!l.all A1s)∧s'=s:=by
 refine acs Tryz.func86 ?_
 refine wr ?_;(refine A2.by (B2i hT t l hl hb) ?_;rintro _ _ ⟨r,rfl,hr,rfl⟩);refine wr ?_
 exact ⟨_,Sub.refl _,C4 hr,rfl⟩
theorem A8n (hT:Sc.Wds Γ) (t:Nat) (l:List (Qu)) (hl:l.length≤100000):A8 Tryz.prog Γ 30 [.slice t (l.map quA),.func (.func 31) [] []] fun v=>v=.bool (l.all A1s):=by
 refine aps Tryz.func30 ?_
 intro s
 conv=>whnf
 intro b hb
 refine wr ?_;(refine A2.by (A7v hT t l hl A3) ?_;rintro _ _ ⟨rfl,rfl⟩);refine wr ?_
 exact ⟨(Sub.refl _).set hb _ _,C4 (by simp)⟩
theorem A87 (hT:Sc.Wds Γ) (u:Fr):A8 Tryz.prog Γ 33 [.agg (frA u)] fun v=>v=.bool (A46 u):=by
 refine aps Tryz.func33 ?_
 intro s
 conv=>whnf
 intro b hb
 conv=>whnf
 repeat' ((first|(refine brS (fun h=>?_) (fun h=>?_)<;>(try rw [h])<;>(try simp only [bS,↓reduceIte] at h))|(refine B5 A3 ?_)|(refine A2.pure' ?_ (F1 hT u.1);rintro _ rfl)|refine A7.pure ?_ (F1 hT u.1)|(refine A2.pure' ?_ (A0w u.2);rintro _ rfl)|refine A7.pure ?_ (A0w u.2)|refine gS ?_|refine aA ?_|refine nA ?_|fail)<;>(conv=>whnf))
 all_goals refine ⟨(Sub.refl _).set hb _ _,C4 ?_⟩
 all_goals simp [A46, *]
theorem C14 (hT:Sc.Wds Γ) {s:Sto} {b:Nat} {T0:TypeId} (u:Fr) (hb:s.bx b=some (T0,[.func (.func 33) [] []])):A2 Tryz.prog Γ 89 [.agg (frA u),.ptr (some ⟨b,0,none⟩)] s fun v s'=>v=.bool (!A46 u)∧s'=s:=by
 refine acs Tryz.func89 ?_
 conv=>whnf
 intro c hc
 conv=>whnf
 have hn:=A1 hb hc
 repeat' ((first|(refine brS (fun h=>?_) (fun h=>?_)<;>(try rw [h])<;>(try simp only [bS,↓reduceIte] at h))|(refine Q4 hn (B5 hb ?_))|(refine B5 A3 ?_)|(refine A2.pure' ?_ (A87 hT u);rintro _ rfl)|refine A7.pure ?_ (A87 hT u)|refine gS ?_|refine aA ?_|refine nA ?_|fail)<;>(conv=>whnf))
 exact ⟨_,(Sub.refl _).set hc _ _,rfl,rfl⟩
theorem B4z (hT:Sc.Wds Γ) {s:Sto} {b:Nat} {T0:TypeId} (t:Nat) (l:List (Fr)) (hl:l.length≤100000) (hb:s.bx b=some (T0,[.func (.func 33) [] []])) :
  A2 Tryz.prog Γ 134 [.slice t (l.map frA),.func (.func 89) [] [.ptr (some ⟨b,0,none⟩)]] s fun v s'=>∃ r:Int,v=.int .i64 r∧decide (r ≥ 0) = !l.all A46∧s'=s:=by
 have hml:(l.map frA).length=l.length:=List.length_map ..
 refine acs Tryz.func134 ?_
 conv=>whnf
 refine AWp.loopA [8] [9,10,5,11,12,13,14,15,16,17,4,18] (fun i:Nat=>[.int .i64 i]) (fun i s'=>i≤l.length∧s'=s∧l.all A46=(l.drop i).all A46) (fun i=>l.length - i) (0) (by kernel_rfl) (eqa) ?_ ?_
 ·exact ⟨by omega,rfl,by simp⟩
 ·rintro y i _ ⟨hi,rfl,hp⟩
  conv=>whnf
  have hga:=fun h:i < l.length=>B9 (f:=frA) (l:=l) C95 h
  have hd:=fun h:i < l.length=>A0b (p:=A46) C95 h
  generalize l.getD i C95=u at *
  repeat' ((first|(refine brS (fun h=>?_) (fun h=>?_)<;>(try rw [h])<;>(try simp only [bS,↓reduceIte] at h))|(rw [show (l.map frA).getD ((i:Int)).toNat []=_ from hga (by omega)])|(refine A2.by (C14 hT u hb) ?_;rintro _ _ ⟨rfl,rfl⟩)|refine gS ?_|refine aA ?_|refine nA ?_|fail)<;>(conv=>whnf))
  ·refine ⟨_,Sub.refl _,i,rfl,?_,rfl⟩
   rw [hp,hd (by omega),h,decide_eq_true (by omega)];rfl
  ·refine ⟨i+1,eqa,B8,⟨by omega,rfl,?_⟩,by omega⟩
   rw [hp,hd (by omega),h,Bool.true_and]
  ·refine ⟨_,Sub.refl _,-1,rfl,?_,rfl⟩
   rw [hp,C0 (by omega)];rfl
theorem A9e (hT:Sc.Wds Γ) {s:Sto} {b:Nat} {T0:TypeId} (t:Nat) (l:List (Fr)) (hl:l.length≤100000) (hb:s.bx b=some (T0,[.func (.func 33) [] []])) :
  A2 Tryz.prog Γ 88 [.slice t (l.map frA),.func (.func 89) [] [.ptr (some ⟨b,0,none⟩)]] s fun v s'=>v=.bool (!l.all A46)∧s'=s:=by
 refine acs Tryz.func88 ?_
 refine wr ?_;(refine A2.by (B4z hT t l hl hb) ?_;rintro _ _ ⟨r,rfl,hr,rfl⟩);refine wr ?_
 exact ⟨_,Sub.refl _,C4 hr,rfl⟩
theorem A90 (hT:Sc.Wds Γ) (t:Nat) (l:List (Fr)) (hl:l.length≤100000):A8 Tryz.prog Γ 32 [.slice t (l.map frA),.func (.func 33) [] []] fun v=>v=.bool (l.all A46):=by
 refine aps Tryz.func32 ?_
 intro s
 conv=>whnf
 intro b hb
 refine wr ?_;(refine A2.by (A9e hT t l hl A3) ?_;rintro _ _ ⟨rfl,rfl⟩);refine wr ?_
 exact ⟨(Sub.refl _).set hb _ _,C4 (by simp)⟩
theorem A7b (hT:Sc.Wds Γ) (u:St):A8 Tryz.prog Γ 36 [.agg (stA u)] fun v=>v=.bool (A1u u):=by
 refine aps Tryz.func36 ?_
 intro s
 conv=>whnf
 intro b hb
 refine wr ?_;(first|(refine A2.pure' ?_ (F1 hT u.1);rintro _ rfl)|refine A7.pure ?_ (F1 hT u.1));refine wr ?_
 all_goals refine ⟨(Sub.refl _).set hb _ _,C4 ?_⟩
 all_goals simp [A1u, *]
theorem B80 (hT:Sc.Wds Γ) {s:Sto} {b:Nat} {T0:TypeId} (u:St) (hb:s.bx b=some (T0,[.func (.func 36) [] []])):A2 Tryz.prog Γ 94 [.agg (stA u),.ptr (some ⟨b,0,none⟩)] s fun v s'=>v=.bool (!A1u u)∧s'=s:=by
 refine acs Tryz.func94 ?_
 conv=>whnf
 intro c hc
 conv=>whnf
 have hn:=A1 hb hc
 repeat' ((first|(refine brS (fun h=>?_) (fun h=>?_)<;>(try rw [h])<;>(try simp only [bS,↓reduceIte] at h))|(refine Q4 hn (B5 hb ?_))|(refine B5 A3 ?_)|(refine A2.pure' ?_ (A7b hT u);rintro _ rfl)|refine A7.pure ?_ (A7b hT u)|refine gS ?_|refine aA ?_|refine nA ?_|fail)<;>(conv=>whnf))
 exact ⟨_,(Sub.refl _).set hc _ _,rfl,rfl⟩
theorem B2j (hT:Sc.Wds Γ) {s:Sto} {b:Nat} {T0:TypeId} (t:Nat) (l:List (St)) (hl:l.length≤100000) (hb:s.bx b=some (T0,[.func (.func 36) [] []])) :
  A2 Tryz.prog Γ 135 [.slice t (l.map stA),.func (.func 94) [] [.ptr (some ⟨b,0,none⟩)]] s fun v s'=>∃ r:Int,v=.int .i64 r∧decide (r ≥ 0) = !l.all A1u∧s'=s:=by
 have hml:(l.map stA).length=l.length:=List.length_map ..
 refine acs Tryz.func135 ?_
 conv=>whnf
 refine AWp.loopA [8] [9,10,5,11,12,13,14,15,16,17,4,18] (fun i:Nat=>[.int .i64 i]) (fun i s'=>i≤l.length∧s'=s∧l.all A1u=(l.drop i).all A1u) (fun i=>l.length - i) (0) (by kernel_rfl) (eqa) ?_ ?_
 ·exact ⟨by omega,rfl,by simp⟩
 ·rintro y i _ ⟨hi,rfl,hp⟩
  conv=>whnf
  have hga:=fun h:i < l.length=>B9 (f:=stA) (l:=l) C99 h
  have hd:=fun h:i < l.length=>A0b (p:=A1u) C99 h
  generalize l.getD i C99=u at *
  repeat' ((first|(refine brS (fun h=>?_) (fun h=>?_)<;>(try rw [h])<;>(try simp only [bS,↓reduceIte] at h))|(rw [show (l.map stA).getD ((i:Int)).toNat []=_ from hga (by omega)])|(refine A2.by (B80 hT u hb) ?_;rintro _ _ ⟨rfl,rfl⟩)|refine gS ?_|refine aA ?_|refine nA ?_|fail)<;>(conv=>whnf))
  ·refine ⟨_,Sub.refl _,i,rfl,?_,rfl⟩
   rw [hp,hd (by omega),h,decide_eq_true (by omega)];rfl
  ·refine ⟨i+1,eqa,B8,⟨by omega,rfl,?_⟩,by omega⟩
   rw [hp,hd (by omega),h,Bool.true_and]
  ·refine ⟨_,Sub.refl _,-1,rfl,?_,rfl⟩
   rw [hp,C0 (by omega)];rfl
theorem A7w (hT:Sc.Wds Γ) {s:Sto} {b:Nat} {T0:TypeId} (t:Nat) (l:List (St)) (hl:l.length≤100000) (hb:s.bx b=some (T0,[.func (.func 36) [] []])) :
  A2 Tryz.prog Γ 93 [.slice t (l.map stA),.func (.func 94) [] [.ptr (some ⟨b,0,none⟩)]] s fun v s'=>v=.bool (!l.all A1u)∧s'=s:=by
 refine acs Tryz.func93 ?_
 refine wr ?_;(refine A2.by (B2j hT t l hl hb) ?_;rintro _ _ ⟨r,rfl,hr,rfl⟩);refine wr ?_
 exact ⟨_,Sub.refl _,C4 hr,rfl⟩
theorem A8o (hT:Sc.Wds Γ) (t:Nat) (l:List (St)) (hl:l.length≤100000):A8 Tryz.prog Γ 35 [.slice t (l.map stA),.func (.func 36) [] []] fun v=>v=.bool (l.all A1u):=by
 refine aps Tryz.func35 ?_
 intro s
 conv=>whnf
 intro b hb
 refine wr ?_;(refine A2.by (A7w hT t l hl A3) ?_;rintro _ _ ⟨rfl,rfl⟩);refine wr ?_
 exact ⟨(Sub.refl _).set hb _ _,C4 (by simp)⟩
structure Kp (s s':Sto) (ba:Nat) (f:Int):Prop where
 here:s'.bx ba=some (3,[.int .i64 f])
 bx:∀ c z,c≠ba→s.bx c=some z→s'.bx c=some z
 sub:∀ s0,Sub s0 s→s0.bx ba=none→Sub s0 s'
theorem Kp.refl {s:Sto} {ba:Nat} {f:Int} (h:s.bx ba=some (3,[.int .i64 f])):Kp s s ba f:=⟨h,fun _ _ _ h=>h,fun _ h _=>h⟩
theorem Kp.trans {s s1 s2:Sto} {ba:Nat} {f g:Int} (h:Kp s s1 ba f) (k:Kp s1 s2 ba g):Kp s s2 ba g :=
 ⟨k.here,fun c z hc h0=>k.bx c z hc (h.bx c z hc h0),fun s0 hs hn=>k.sub s0 (h.sub s0 hs hn) hn⟩
theorem Kp.put {s s':Sto} {ba:Nat} {f:Int} (h:Kp s s' ba f) (g:Int):Kp s (s'.set ba 3 [.int .i64 g]) ba g :=
 ⟨A3,fun c z hc h0=>(A4 hc).trans (h.bx c z hc h0),fun s hs hn=>(h.sub s hs hn).set hn _ _⟩
theorem Kp.fresh {s s':Sto} {ba c:Nat} {f:Int} (h:Kp s s' ba f) (hc:s'.bx c=none) (T:TypeId) (z:List AV):Kp s (s'.set c T z) ba f :=
 ⟨(A4 (A1 h.here hc)).trans h.here,fun d y hd h0=>(A4 (A1 (h.bx d y hd h0) hc)).trans (h.bx d y hd h0),fun s0 hs hn=>(h.sub s0 hs hn).set ((h.sub s0 hs hn).none hc) _ _⟩
structure B18 (s:Sto) (x:(Nat × Nat × Nat) × Tn) (ba bt bs bd b1 b2:Nat):Prop where
 small:x.2.2.2.2.1.length≤100000
 tr:s.bx bt=some (54,tnA x)
 sz:s.bx bs=some (35,[.raw (some ⟨b1,0,none⟩) x.2.2.2.2.1.length x.2.2.2.2.1.length])
 dp:s.bx bd=some (35,[.raw (some ⟨b2,0,none⟩) x.2.2.2.2.1.length x.2.2.2.2.1.length])
 c1:s.bx b1=some (3,col Prod.fst (tab Sc.L8 x.2.2.2.2.1 x.2.2.2.2.1.length) x.2.2.2.2.1.length)
 c2:s.bx b2=some (3,col Prod.snd (tab Sc.L8 x.2.2.2.2.1 x.2.2.2.2.1.length) x.2.2.2.2.1.length)
 n1:bt≠ba
 n2:bs≠ba
 n3:bd≠ba
 n4:b1≠ba
 n5:b2≠ba
theorem B18.keep {s s':Sto} {x:(Nat × Nat × Nat) × Tn} {ba bt bs bd b1 b2:Nat} {f:Int} (h:B18 s x ba bt bs bd b1 b2) (k:Kp s s' ba f):B18 s' x ba bt bs bd b1 b2 :=
 ⟨h.small,k.bx _ _ h.n1 h.tr,k.bx _ _ h.n2 h.sz,k.bx _ _ h.n3 h.dp,k.bx _ _ h.n4 h.c1,k.bx _ _ h.n5 h.c2,h.n1,h.n2,h.n3,h.n4,h.n5⟩
theorem C6u {l:List Ex} {f g:Int} (h:whB l f g=true):f≤g∧g < l.length:=by
 unfold whB at h
 simp only [Bool.and_eq_true,decide_eq_true_eq] at h
 exact ⟨h.1,h.2.1⟩
theorem B0p {s:Sto} {x:(Nat × Nat × Nat) × Tn} {ba bt bs bd b1 b2:Nat} {f:Int} (root:Int) (hh:B18 s x ba bt bs bd b1 b2) (ha:s.bx ba=some (3,[.int .i64 f])) (hf:0≤f∧f≤x.2.2.2.2.1.length) :
    A2 Tryz.prog Γ 102 [.int .i64 root,.ptr (some ⟨ba,0,none⟩),.ptr (some ⟨bt,0,none⟩),.ptr (some ⟨bs,0,none⟩),.ptr (some ⟨bd,0,none⟩)] s fun v s' =>
      v=.bool (whB x.2.2.2.2.1 f root)∧Kp s s' ba (if whB x.2.2.2.2.1 f root=true then root+1 else f):=by
  obtain ⟨hl,ht,hs,hd,hc1,hc2,n1,n2,n3,n4,n5⟩:=hh
  have hml:(x.2.2.2.2.1.map exA).length=x.2.2.2.2.1.length:=List.length_map ..
  have htl:=A0p Sc.L8 x.2.2.2.2.1 x.2.2.2.2.1.length
  have hbd:=fun h:0≤root∧root < x.2.2.2.2.1.length=>C4z Sc.L8 x.2.2.2.2.1 (i:=root.toNat) (by omega)
  have l1:=fun (h:0≤root∧root < x.2.2.2.2.1.length) (m:Nat) (hm:m=root.toNat)=>A4g (f:=Prod.fst) rfl (r:=tab Sc.L8 x.2.2.2.2.1 x.2.2.2.2.1.length) (n:=x.2.2.2.2.1.length) (j:=root.toNat) (m:=m) (by omega) (by omega) hm
  have l2:=fun (h:0≤root∧root < x.2.2.2.2.1.length) (m:Nat) (hm:m=root.toNat)=>A4g (f:=Prod.snd) rfl (r:=tab Sc.L8 x.2.2.2.2.1 x.2.2.2.2.1.length) (n:=x.2.2.2.2.1.length) (j:=root.toNat) (m:=m) (by omega) (by omega) hm
  have hw:0≤root∧root < x.2.2.2.2.1.length→IntKind.i64.wrap (IntKind.i64.wrap (root - f)+1)=root - f+1:=fun h=>by rw [D5 (b:=root - f) rfl (by omega) (by omega)];exact D5 rfl (by omega) (by omega)
  have hw1:0≤root∧root < x.2.2.2.2.1.length→IntKind.i64.wrap (root+1)=root+1:=fun h=>D5 rfl (by omega) (by omega)
  have hwh:whB x.2.2.2.2.1 f root=(decide (f≤root) && (decide (root < x.2.2.2.2.1.length) && (decide ((nd Sc.L8 x.2.2.2.2.1 root.toNat).1=root - f+1) && decide ((nd Sc.L8 x.2.2.2.2.1 root.toNat).2≤64)))):=rfl
  generalize whB x.2.2.2.2.1 f root=B at *
  unfold nd at hwh hbd
  generalize (tab Sc.L8 x.2.2.2.2.1 x.2.2.2.2.1.length).getD root.toNat (0,0)=p at *
  refine acs Tryz.func102 ?_
  conv=>whnf
  repeat' ((first|exact pru|(refine brS (fun h=>?_) (fun h=>?_)<;>(try rw [h])<;>(try simp only [bS,↓reduceIte] at h))|(refine B5 ha ?_)|(refine B5 ht ?_)|(refine B5 hs ?_)|(refine B5 hd ?_)|(refine B5 hc1 (A1z (l1 (by omega) _ (by show 0+root.toNat * 1=root.toNat;omega)) ?_))|(refine B5 hc2 (A1z (l2 (by omega) _ (by show 0+root.toNat * 1=root.toNat;omega)) ?_))|(rw [hw (by omega)])|refine gS ?_|refine aA ?_|refine nA ?_|fail)<;>(conv=>whnf))
  all_goals refine ⟨_,Sub.refl _,?_⟩
  all_goals first
    | (have hB:B=false:=by (rw [hwh];clear l1 l2 hbd hc1 hc2 ht hs hd ha;grind)
       subst hB
       exact ⟨rfl,Kp.refl ha⟩)
    | (have hB:B=true:=by (rw [hwh];clear l1 l2 hbd hc1 hc2 ht hs hd ha;grind)
       subst hB
       refine ⟨rfl,?_⟩
       rw [if_pos rfl,hw1 (by omega)]
       exact (Kp.refl ha).put _)
theorem C4k (hT:Sc.Wds Γ) {s:Sto} {x:(Nat × Nat × Nat) × Tn} {ba bt bs bd b1 b2 bw:Nat} {Tw:TypeId} {f:Int} (u:Se) (hh:B18 s x ba bt bs bd b1 b2)
  (hw:s.bx bw=some (Tw,[.func (.func 102) [] [.ptr (some ⟨ba,0,none⟩),.ptr (some ⟨bt,0,none⟩),.ptr (some ⟨bs,0,none⟩),.ptr (some ⟨bd,0,none⟩)]]))
  (ha:s.bx ba=some (3,[.int .i64 f])) (hf:0≤f∧f≤x.2.2.2.2.1.length) :
  A2 Tryz.prog Γ 104 [.agg (seA u),.ptr (some ⟨bw,0,none⟩)] s fun v s' =>
   v=.bool (V5 u.1 && whB x.2.2.2.2.1 f u.2)∧∃ f',Kp s s' ba f'∧((V5 u.1 && whB x.2.2.2.2.1 f u.2)=true→f'=u.2+1):=by
 refine acs Tryz.func104 ?_
 conv=>whnf
 intro c hc
 conv=>whnf
 have hn:=A1 hw hc
 have k:=fun (T:TypeId) (z:List AV)=>(Kp.refl ha).fresh hc T z
 repeat' ((first|(refine brS (fun h=>?_) (fun h=>?_)<;>(try rw [h])<;>(try simp only [bS,↓reduceIte] at h))|(refine B5 A3 ?_)|(refine A2.pure' ?_ (F1 hT u.1);rintro _ rfl)|refine A7.pure ?_ (F1 hT u.1)|(refine Q4 hn (B5 hw ?_))|(refine A2.by (B0p u.2 (hh.keep (k _ _)) (k _ _).here hf) ?_;rintro _ s2 ⟨rfl,hk2⟩)|refine gS ?_|refine aA ?_|refine nA ?_|fail)<;>(conv=>whnf))
 ·refine ⟨_,Sub.refl _,C4 ?_,_,(k _ _).trans hk2,?_⟩
  ·simp [*]
  ·intro h2
   rw [if_pos ((Bool.and_eq_true _ _).mp h2).2]
 ·refine ⟨_,Sub.refl _,C4 ?_,f,k _ _,?_⟩
  ·simp [*]
  ·intro h2
   simp [*] at h2
theorem B6q (hT:Sc.Wds Γ) {s:Sto} {x:(Nat × Nat × Nat) × Tn} {ba bt bs bd b1 b2 bw bi:Nat} {Tw Ti:TypeId} {f:Int} (u:Se) (hh:B18 s x ba bt bs bd b1 b2)
  (hw:s.bx bw=some (Tw,[.func (.func 102) [] [.ptr (some ⟨ba,0,none⟩),.ptr (some ⟨bt,0,none⟩),.ptr (some ⟨bs,0,none⟩),.ptr (some ⟨bd,0,none⟩)]])) (nw:bw≠ba)
  (hi:s.bx bi=some (Ti,[.func (.func 104) [] [.ptr (some ⟨bw,0,none⟩)]]))
  (ha:s.bx ba=some (3,[.int .i64 f])) (hf:0≤f∧f≤x.2.2.2.2.1.length) :
  A2 Tryz.prog Γ 142 [.agg (seA u),.ptr (some ⟨bi,0,none⟩)] s fun v s' =>
   v=.bool (!(V5 u.1 && whB x.2.2.2.2.1 f u.2))∧∃ f',Kp s s' ba f'∧((V5 u.1 && whB x.2.2.2.2.1 f u.2)=true→f'=u.2+1):=by
 refine acs Tryz.func142 ?_
 conv=>whnf
 intro c hc
 conv=>whnf
 have hn:=A1 hi hc
 have k:=fun (T:TypeId) (z:List AV)=>(Kp.refl ha).fresh hc T z
 repeat' ((first|(refine brS (fun h=>?_) (fun h=>?_)<;>(try rw [h])<;>(try simp only [bS,↓reduceIte] at h))|(refine Q4 hn (B5 hi ?_))|(refine B5 A3 ?_)|(refine A2.by (C4k hT u (hh.keep (k _ _)) ((k _ _).bx _ _ nw hw) (k _ _).here hf) ?_;rintro _ s2 ⟨rfl,f',hk2,hB⟩)|refine gS ?_|refine aA ?_|refine nA ?_|fail)<;>(conv=>whnf))
 exact ⟨_,Sub.refl _,rfl,f',(k _ _).trans hk2,hB⟩
theorem B6x (hT:Sc.Wds Γ) {s:Sto} {x:(Nat × Nat × Nat) × Tn} {ba bt bs bd b1 b2 bw bi:Nat} {Tw Ti:TypeId} {f:Int} (t:Nat) (l:List Se) (hl:l.length≤100000) (hh:B18 s x ba bt bs bd b1 b2)
  (hw:s.bx bw=some (Tw,[.func (.func 102) [] [.ptr (some ⟨ba,0,none⟩),.ptr (some ⟨bt,0,none⟩),.ptr (some ⟨bs,0,none⟩),.ptr (some ⟨bd,0,none⟩)]])) (nw:bw≠ba)
  (hi:s.bx bi=some (Ti,[.func (.func 104) [] [.ptr (some ⟨bw,0,none⟩)]])) (ni:bi≠ba)
  (ha:s.bx ba=some (3,[.int .i64 f])) (hf:0≤f∧f≤x.2.2.2.2.1.length) :
  A2 Tryz.prog Γ 187 [.slice t (l.map seA),.func (.func 142) [] [.ptr (some ⟨bi,0,none⟩)]] s fun v s' =>
   ∃ r:Int,v=.int .i64 r∧∃ f',Kp s s' ba f'∧(decide (r ≥ 0)=true∧Y9 x.2.2.2.2.1 l f=none∨decide (r ≥ 0)=false∧Y9 x.2.2.2.2.1 l f=some f'):=by
 have hml:(l.map seA).length=l.length:=List.length_map ..
 refine acs Tryz.func187 ?_
 conv=>whnf
 refine AWp.loopA [8] [9,10,5,11,12,13,14,15,16,17,4,18] (fun i:Nat=>[.int .i64 i]) (fun i s'=>i≤l.length∧∃ f',Kp s s' ba f'∧(0≤f'∧f'≤x.2.2.2.2.1.length)∧Y9 x.2.2.2.2.1 l f=Y9 x.2.2.2.2.1 (l.drop i) f') (fun i=>l.length - i) (0) (by kernel_rfl) (eqa) ?_ ?_
 ·exact ⟨by omega,f,Kp.refl ha,hf,by rw [List.drop_zero]⟩
 ·rintro y i s1 ⟨hi1,f',hk,hf',hp⟩
  conv=>whnf
  have hga:=fun h:i < l.length=>B9 (f:=seA) (l:=l) C98 h
  have hd:i < l.length→l.drop i=l.getD i C98::l.drop (i+1):=fun h=>by rw [List.drop_eq_getElem_cons h];simp [List.getD,h]
  generalize l.getD i C98=u at *
  repeat' ((first|(refine brS (fun h=>?_) (fun h=>?_)<;>(try rw [h])<;>(try simp only [bS,↓reduceIte] at h))|(rw [show (l.map seA).getD ((i:Int)).toNat []=_ from hga (by omega)])|(refine A2.by (B6q hT u (hh.keep hk) (hk.bx _ _ nw hw) nw (hk.bx _ _ ni hi) hk.here hf') ?_;rintro _ s2 ⟨rfl,f2,hk2,hB⟩)|refine gS ?_|refine aA ?_|refine nA ?_|fail)<;>(conv=>whnf))
  ·refine ⟨_,Sub.refl _,i,rfl,f2,hk.trans hk2,.inl ⟨decide_eq_true (by omega),?_⟩⟩
   rw [hp,hd (by omega),Y9,if_neg (by rw [h];decide)]
  ·have h2:=hB h
   subst h2
   have h3:=C6u ((Bool.and_eq_true _ _).mp h).2
   refine ⟨i+1,eqa,B8,⟨by omega,u.2+1,hk.trans hk2,by omega,?_⟩,by omega⟩
   rw [hp,hd (by omega),Y9,if_pos h]
  ·refine ⟨_,Sub.refl _,-1,rfl,f',hk,.inr ⟨rfl,?_⟩⟩
   rw [hp,C0 (by omega)];rfl
theorem B0d (hT:Sc.Wds Γ) {s:Sto} {x:(Nat × Nat × Nat) × Tn} {ba bt bs bd b1 b2 bw bi:Nat} {Tw Ti:TypeId} {f:Int} (t:Nat) (l:List Se) (hl:l.length≤100000) (hh:B18 s x ba bt bs bd b1 b2)
  (hw:s.bx bw=some (Tw,[.func (.func 102) [] [.ptr (some ⟨ba,0,none⟩),.ptr (some ⟨bt,0,none⟩),.ptr (some ⟨bs,0,none⟩),.ptr (some ⟨bd,0,none⟩)]])) (nw:bw≠ba)
  (hi:s.bx bi=some (Ti,[.func (.func 104) [] [.ptr (some ⟨bw,0,none⟩)]])) (ni:bi≠ba)
  (ha:s.bx ba=some (3,[.int .i64 f])) (hf:0≤f∧f≤x.2.2.2.2.1.length) :
  A2 Tryz.prog Γ 141 [.slice t (l.map seA),.func (.func 142) [] [.ptr (some ⟨bi,0,none⟩)]] s fun v s' =>
   ∃ r:Bool,v=.bool r∧∃ f',Kp s s' ba f'∧(r=true∧Y9 x.2.2.2.2.1 l f=none∨r=false∧Y9 x.2.2.2.2.1 l f=some f'):=by
 refine acs Tryz.func141 ?_
 refine wr ?_;(refine A2.by (B6x hT t l hl hh hw nw hi ni ha hf) ?_;rintro _ s2 ⟨r,rfl,f',hk,hr⟩);refine wr ?_
 exact ⟨_,Sub.refl _,_,rfl,f',hk,hr⟩
theorem B2u (hT:Sc.Wds Γ) {s:Sto} {x:(Nat × Nat × Nat) × Tn} {ba bt bs bd b1 b2 bw:Nat} {Tw:TypeId} {f:Int} (t:Nat) (l:List Se) (hl:l.length≤100000) (hh:B18 s x ba bt bs bd b1 b2)
  (hw:s.bx bw=some (Tw,[.func (.func 102) [] [.ptr (some ⟨ba,0,none⟩),.ptr (some ⟨bt,0,none⟩),.ptr (some ⟨bs,0,none⟩),.ptr (some ⟨bd,0,none⟩)]])) (nw:bw≠ba)
  (ha:s.bx ba=some (3,[.int .i64 f])) (hf:0≤f∧f≤x.2.2.2.2.1.length) :
  A2 Tryz.prog Γ 103 [.slice t (l.map seA),.func (.func 104) [] [.ptr (some ⟨bw,0,none⟩)]] s fun v s' =>
   ∃ r:Bool,v=.bool r∧∃ f',Kp s s' ba f'∧(r=false∧Y9 x.2.2.2.2.1 l f=none∨r=true∧Y9 x.2.2.2.2.1 l f=some f'):=by
 refine acs Tryz.func103 ?_
 conv=>whnf
 intro c hc
 conv=>whnf
 have k:=fun (T:TypeId) (z:List AV)=>(Kp.refl ha).fresh hc T z
 have nc:=A1 ha hc
 refine wr ?_;(refine A2.by (B0d hT t l hl (hh.keep (k _ _)) ((k _ _).bx _ _ nw hw) nw A3 (fun h=>nc h.symm) (k _ _).here hf) ?_;rintro _ s2 ⟨r,rfl,f',hk,hr⟩);refine wr ?_
 refine ⟨_,Sub.refl _,_,rfl,f',(k _ _).trans hk,?_⟩
 rcases hr with ⟨rfl,h⟩|⟨rfl,h⟩
 ·exact .inl ⟨rfl,h⟩
 ·exact .inr ⟨rfl,h⟩
theorem A7c (hT:Sc.Wds Γ) (x:(Nat × Nat × Nat) × Tn) (hx:x.2.2.2.1.2.1.length≤100000∧x.2.2.2.2.1.length≤100000∧x.2.2.2.2.2.2.length≤100000):A8 Tryz.prog Γ 40 [.agg (tnA x)] fun v=>v=.bool (trB x):=by
 obtain ⟨hx1,hx2,hx3⟩:=hx
 have hle:(x.2.2.2.2.1.map exA).length=x.2.2.2.2.1.length:=List.length_map ..
 have htr:trB x=(V5 x.2.1 && (V5 x.2.2.1 && (A25 (x.1.1,x.2.2.2.1) && decide ((B0u x.2.2.2.2.1 x.2.2.2.2.2.1).bind (Y9 x.2.2.2.2.1 x.2.2.2.2.2.2)=some (x.2.2.2.2.1.length:Int))))):=rfl
 have hgo:B0u x.2.2.2.2.1 x.2.2.2.2.2.1=if x.2.2.2.2.2.1 = -1 then some 0 else if whB x.2.2.2.2.1 0 x.2.2.2.2.2.1=true then some (x.2.2.2.2.2.1+1) else none:=rfl
 refine aps Tryz.func40 ?_
 intro s
 conv=>whnf
 intro bt hbt
 refine wr ?_
 refine A2.by (C5y Sc.L8 _ x.2.2.2.2.1 (by omega) (fun _ _=>Sc.Q7 hT _) _) ?_
 rintro _ s1 ⟨b1,b2,rfl,hz⟩
 refine wr ?_
 have z1:=hz.size
 have z2:=hz.depth
 have z3:s1.bx bt=some (54,tnA x):=hz.sub.bx _ _ A3
 have n_b1_b2:=hz.ne
 intro bs hbs
 have n_bt_bs:bt≠bs:=A1 bxa hbs
 have n_bs_bt:=n_bt_bs.symm
 have n_b1_bs:b1≠bs:=A1 bxa hbs
 have n_bs_b1:=n_b1_bs.symm
 have n_b2_bs:b2≠bs:=A1 bxa hbs
 have n_bs_b2:=n_b2_bs.symm
 conv=>whnf
 intro bd hbd
 have n_bs_bd:bs≠bd:=A1 bxa hbd
 have n_bd_bs:=n_bs_bd.symm
 have n_bt_bd:bt≠bd:=A1 bxa hbd
 have n_bd_bt:=n_bt_bd.symm
 have n_b1_bd:b1≠bd:=A1 bxa hbd
 have n_bd_b1:=n_b1_bd.symm
 have n_b2_bd:b2≠bd:=A1 bxa hbd
 have n_bd_b2:=n_b2_bd.symm
 refine wr ?_
 intro ba hba
 have n_bs_ba:bs≠ba:=A1 bxa hba
 have n_ba_bs:=n_bs_ba.symm
 have n_bd_ba:bd≠ba:=A1 bxa hba
 have n_ba_bd:=n_bd_ba.symm
 have n_bt_ba:bt≠ba:=A1 bxa hba
 have n_ba_bt:=n_bt_ba.symm
 have n_b1_ba:b1≠ba:=A1 bxa hba
 have n_ba_b1:=n_b1_ba.symm
 have n_b2_ba:b2≠ba:=A1 bxa hba
 have n_ba_b2:=n_b2_ba.symm
 refine wr ?_
 intro bw hbw
 have n_bs_bw:bs≠bw:=A1 bxa hbw
 have n_bw_bs:=n_bs_bw.symm
 have n_bd_bw:bd≠bw:=A1 bxa hbw
 have n_bw_bd:=n_bd_bw.symm
 have n_bt_bw:bt≠bw:=A1 bxa hbw
 have n_bw_bt:=n_bt_bw.symm
 have n_b1_bw:b1≠bw:=A1 bxa hbw
 have n_bw_b1:=n_b1_bw.symm
 have n_b2_bw:b2≠bw:=A1 bxa hbw
 have n_bw_b2:=n_b2_bw.symm
 have n_ba_bw:ba≠bw:=A1 bxa hbw
 have n_bw_ba:=n_ba_bw.symm
 refine wr ?_
 have hsub:Ab.Sub s s1:=((Sub.refl _).set hbt _ _).trans hz.sub
 have g1:=hsub.none hbs
 have g2:s.bx bd=none:=by (have g:=hbd;(repeat (replace g:=(N0 g).2));exact hsub.none g)
 have g3:s.bx ba=none:=by (have g:=hba;(repeat (replace g:=(N0 g).2));exact hsub.none g)
 have g4:s.bx bw=none:=by (have g:=hbw;(repeat (replace g:=(N0 g).2));exact hsub.none g)
 repeat' ((first|(refine brS (fun h=>?_) (fun h=>?_)<;>(try rw [h])<;>(try simp only [bS,↓reduceIte] at h))|refine A5 ?_|(refine A2.pure' ?_ (F1 hT x.2.1);rintro _ rfl)|refine A7.pure ?_ (F1 hT x.2.1)|(refine A2.pure' ?_ (F1 hT x.2.2.1);rintro _ rfl)|refine A7.pure ?_ (F1 hT x.2.2.1)|(refine A2.pure' ?_ (A2z hT (x.1.1,x.2.2.2.1) hx1);rintro _ rfl)|refine A7.pure ?_ (A2z hT (x.1.1,x.2.2.2.1) hx1)|(refine A2.by (B0p (x:=x) (bt:=bt) (bs:=bs) (bd:=bd) (b1:=b1) (b2:=b2) (f:=0) x.2.2.2.2.2.1 ⟨hx2,bxa,bxa,bxa,bxa,bxa,n_bt_ba,n_bs_ba,n_bd_ba,n_b1_ba,n_b2_ba⟩ bxa ⟨by omega,by omega⟩) ?_;rintro _ s2 ⟨rfl,hk2⟩)|refine gS ?_|refine aA ?_|refine nA ?_|fail)<;>(conv=>whnf))
 ·exact ⟨(by (repeat (first|exact hsub|refine Sub.set ?_ (by assumption) _ _))),C4 (by rw [htr];simp [*])⟩
 ·exact ⟨(by (repeat (first|exact hsub|refine Sub.set ?_ (by assumption) _ _))),C4 (by rw [htr];simp [*])⟩
 ·exact ⟨(by (repeat (first|exact hsub|refine Sub.set ?_ (by assumption) _ _))),C4 (by rw [htr];simp [*])⟩
 ·refine ⟨hk2.sub s (by (repeat (first|exact hsub|refine Sub.set ?_ (by assumption) _ _))) g3,C4 ?_⟩
  rw [htr,hgo,if_neg (by assumption),if_neg (by simp [*])]
  simp
 ·have hwh:=h
  have hle0:=C6u hwh
  have e0:trB x=decide (Y9 x.2.2.2.2.1 x.2.2.2.2.2.2 (x.2.2.2.2.2.1+1)=some (x.2.2.2.2.1.length:Int)):=by
   rw [htr,hgo]
   simp only [*,Bool.true_and,if_true,if_false,Option.bind_some]
  rw [if_pos hwh] at hk2
  have hh2:=B18.keep (x:=x) (bt:=bt) (bs:=bs) (bd:=bd) (b1:=b1) (b2:=b2) ⟨hx2,bxa,bxa,bxa,bxa,bxa,n_bt_ba,n_bs_ba,n_bd_ba,n_b1_ba,n_b2_ba⟩ hk2
  have y1:=hk2.bx bw _ n_bw_ba A3
  have y2:=hh2.tr
  have s0:=hk2.sub s (by (repeat (first|exact hsub|refine Sub.set ?_ (by assumption) _ _))) g3
  repeat' ((first|(refine brS (fun h=>?_) (fun h=>?_)<;>(try rw [h])<;>(try simp only [bS,↓reduceIte] at h))|refine A5 ?_|(refine A2.by (B2u hT (bw:=bw) (f:=x.2.2.2.2.2.1+1) _ x.2.2.2.2.2.2 hx3 hh2 y1 n_bw_ba hk2.here ⟨by omega,by omega⟩) ?_;rintro _ s3 ⟨r,rfl,f',hk3,hr⟩;have y3:=hk3.here;have y4:=hk3.bx _ _ n_bt_ba y2)|refine gS ?_|refine aA ?_|refine nA ?_|fail)<;>(conv=>whnf))
  all_goals refine ⟨hk3.sub s s0 g3,C4 ?_⟩
  all_goals (rw [e0])
  all_goals (rcases hr with ⟨rfl,hs⟩|⟨rfl,hs⟩<;>(rw [hs];simp [*] at *))
 ·have e0:trB x=decide (Y9 x.2.2.2.2.1 x.2.2.2.2.2.2 0=some (x.2.2.2.2.1.length:Int)):=by
   rw [htr,hgo]
   simp only [*,Bool.true_and,if_true,if_false,Option.bind_some]
  repeat' ((first|(refine brS (fun h=>?_) (fun h=>?_)<;>(try rw [h])<;>(try simp only [bS,↓reduceIte] at h))|refine A5 ?_|(refine A2.by (B2u hT (x:=x) (bt:=bt) (bs:=bs) (bd:=bd) (b1:=b1) (b2:=b2) (bw:=bw) (f:=0) _ x.2.2.2.2.2.2 hx3 ⟨hx2,bxa,bxa,bxa,bxa,bxa,n_bt_ba,n_bs_ba,n_bd_ba,n_b1_ba,n_b2_ba⟩ bxa n_bw_ba bxa ⟨by omega,by omega⟩) ?_;rintro _ s3 ⟨r,rfl,f',hk3,hr⟩;have y3:=hk3.here;have y4:=hk3.bx bt (54,tnA x) n_bt_ba bxa)|refine gS ?_|refine aA ?_|refine nA ?_|fail)<;>(conv=>whnf))
  all_goals refine ⟨hk3.sub s (by (repeat (first|exact hsub|refine Sub.set ?_ (by assumption) _ _))) g3,C4 ?_⟩
  all_goals (rw [e0])
  all_goals (rcases hr with ⟨rfl,hs⟩|⟨rfl,hs⟩<;>(rw [hs];simp [*] at *))
theorem B81 (hT:Sc.Wds Γ) {s:Sto} {b:Nat} {T0:TypeId} (u:(Nat × Nat × Nat) × Tn) (hu:(u.2.2.2.1.2.1.length≤100000∧u.2.2.2.2.1.length≤100000∧u.2.2.2.2.2.2.length≤100000)) (hb:s.bx b=some (T0,[.func (.func 40) [] []])):A2 Tryz.prog Γ 100 [.agg (tnA u),.ptr (some ⟨b,0,none⟩)] s fun v s'=>v=.bool (!trB u)∧s'=s:=by
 refine acs Tryz.func100 ?_
 conv=>whnf
 intro c hc
 conv=>whnf
 have hn:=A1 hb hc
 repeat' ((first|(refine brS (fun h=>?_) (fun h=>?_)<;>(try rw [h])<;>(try simp only [bS,↓reduceIte] at h))|(refine Q4 hn (B5 hb ?_))|(refine B5 A3 ?_)|(refine A2.pure' ?_ (A7c hT u hu);rintro _ rfl)|refine A7.pure ?_ (A7c hT u hu)|refine gS ?_|refine aA ?_|refine nA ?_|fail)<;>(conv=>whnf))
 exact ⟨_,(Sub.refl _).set hc _ _,rfl,rfl⟩
theorem B2k (hT:Sc.Wds Γ) {s:Sto} {b:Nat} {T0:TypeId} (t:Nat) (l:List ((Nat × Nat × Nat) × Tn)) (hl:l.length≤100000) (hm:∀ x ∈ l,(x.2.2.2.1.2.1.length≤100000∧x.2.2.2.2.1.length≤100000∧x.2.2.2.2.2.2.length≤100000)) (hb:s.bx b=some (T0,[.func (.func 40) [] []])) :
  A2 Tryz.prog Γ 139 [.slice t (l.map tnA),.func (.func 100) [] [.ptr (some ⟨b,0,none⟩)]] s fun v s'=>∃ r:Int,v=.int .i64 r∧decide (r ≥ 0) = !l.all trB∧s'=s:=by
 have hml:(l.map tnA).length=l.length:=List.length_map ..
 refine acs Tryz.func139 ?_
 conv=>whnf
 refine AWp.loopA [8] [9,10,5,11,12,13,14,15,16,17,4,18] (fun i:Nat=>[.int .i64 i]) (fun i s'=>i≤l.length∧s'=s∧l.all trB=(l.drop i).all trB) (fun i=>l.length - i) (0) (by kernel_rfl) (eqa) ?_ ?_
 ·exact ⟨by omega,rfl,by simp⟩
 ·rintro y i _ ⟨hi,rfl,hp⟩
  conv=>whnf
  have hga:=fun h:i < l.length=>B9 (f:=tnA) (l:=l) C7z h
  have hd:=fun h:i < l.length=>A0b (p:=trB) C7z h
  have hmx:=fun h:i < l.length=>hm _ (D4 C7z h)
  generalize l.getD i C7z=u at *
  repeat' ((first|(refine brS (fun h=>?_) (fun h=>?_)<;>(try rw [h])<;>(try simp only [bS,↓reduceIte] at h))|(rw [show (l.map tnA).getD ((i:Int)).toNat []=_ from hga (by omega)])|(refine A2.by (B81 hT u (hmx (by omega)) hb) ?_;rintro _ _ ⟨rfl,rfl⟩)|refine gS ?_|refine aA ?_|refine nA ?_|fail)<;>(conv=>whnf))
  ·refine ⟨_,Sub.refl _,i,rfl,?_,rfl⟩
   rw [hp,hd (by omega),h,decide_eq_true (by omega)];rfl
  ·refine ⟨i+1,eqa,B8,⟨by omega,rfl,?_⟩,by omega⟩
   rw [hp,hd (by omega),h,Bool.true_and]
  ·refine ⟨_,Sub.refl _,-1,rfl,?_,rfl⟩
   rw [hp,C0 (by omega)];rfl
theorem A7x (hT:Sc.Wds Γ) {s:Sto} {b:Nat} {T0:TypeId} (t:Nat) (l:List ((Nat × Nat × Nat) × Tn)) (hl:l.length≤100000) (hm:∀ x ∈ l,(x.2.2.2.1.2.1.length≤100000∧x.2.2.2.2.1.length≤100000∧x.2.2.2.2.2.2.length≤100000)) (hb:s.bx b=some (T0,[.func (.func 40) [] []])) :
  A2 Tryz.prog Γ 99 [.slice t (l.map tnA),.func (.func 100) [] [.ptr (some ⟨b,0,none⟩)]] s fun v s'=>v=.bool (!l.all trB)∧s'=s:=by
 refine acs Tryz.func99 ?_
 refine wr ?_;(refine A2.by (B2k hT t l hl hm hb) ?_;rintro _ _ ⟨r,rfl,hr,rfl⟩);refine wr ?_
 exact ⟨_,Sub.refl _,C4 hr,rfl⟩
theorem A8p (hT:Sc.Wds Γ) (t:Nat) (l:List ((Nat × Nat × Nat) × Tn)) (hl:l.length≤100000) (hm:∀ x ∈ l,(x.2.2.2.1.2.1.length≤100000∧x.2.2.2.2.1.length≤100000∧x.2.2.2.2.2.2.length≤100000)):A8 Tryz.prog Γ 39 [.slice t (l.map tnA),.func (.func 40) [] []] fun v=>v=.bool (l.all trB):=by
 refine aps Tryz.func39 ?_
 intro s
 conv=>whnf
 intro b hb
 conv=>whnf
 repeat' ((first|(refine brS (fun h=>?_) (fun h=>?_)<;>(try rw [h])<;>(try simp only [bS,↓reduceIte] at h))|(refine A2.by (A7x hT t l hl hm A3) ?_;rintro _ _ ⟨rfl,rfl⟩)|refine gS ?_|refine aA ?_|refine nA ?_|fail)<;>(conv=>whnf))
 exact ⟨(Sub.refl _).set hb _ _,C4 (by simp)⟩
theorem C2w (x:Tr0):Y1 x=(V5 x.1 && (V5 x.2.2.2.2.2.1 && (x.2.1.all A43 && (x.2.2.1.all A1s && (x.2.2.2.1.all A46 && (x.2.2.2.2.1.all A1u && (x.2.2.2.2.2.2.1.all A25 && x.2.2.2.2.2.2.2.all trB))))))):=rfl
theorem B5p (hT:Sc.Wds Γ) (tk:Nat→Nat) (x:Tr0) (hx:C3n x):A8 Tryz.prog Γ 11 [.agg (trA tk x)] fun v=>v=.bool (Y1 x):=by
 obtain ⟨⟨m1,m2,m3,m4,m5,m6⟩,m7,m8,m9⟩:=hx
 rw [C2w]
 refine aps Tryz.func11 ?_
 intro s
 conv=>whnf
 intro b hb
 conv=>whnf
 repeat' ((first|(refine brS (fun h=>?_) (fun h=>?_)<;>(try rw [h])<;>(try simp only [bS,↓reduceIte] at h))|refine A5 ?_|(refine A2.pure' ?_ (F1 hT x.1);rintro _ rfl)|refine A7.pure ?_ (F1 hT x.1)|(refine A2.pure' ?_ (F1 hT x.2.2.2.2.2.1);rintro _ rfl)|refine A7.pure ?_ (F1 hT x.2.2.2.2.2.1)|(refine A2.pure' ?_ (A9z hT _ x.2.1 (by omega) (fun d h=>by have:=m7 d h;omega));rintro _ rfl)|refine A7.pure ?_ (A9z hT _ x.2.1 (by omega) (fun d h=>by have:=m7 d h;omega))|(refine A2.pure' ?_ (A8n hT _ x.2.2.1 (by omega));rintro _ rfl)|refine A7.pure ?_ (A8n hT _ x.2.2.1 (by omega))|(refine A2.pure' ?_ (A90 hT _ x.2.2.2.1 (by omega));rintro _ rfl)|refine A7.pure ?_ (A90 hT _ x.2.2.2.1 (by omega))|(refine A2.pure' ?_ (A8o hT _ x.2.2.2.2.1 (by omega));rintro _ rfl)|refine A7.pure ?_ (A8o hT _ x.2.2.2.2.1 (by omega))|(refine A2.pure' ?_ (B2v hT _ x.2.2.2.2.2.2.1 (by omega) (fun d h=>by have:=m8 d h;omega));rintro _ rfl)|refine A7.pure ?_ (B2v hT _ x.2.2.2.2.2.2.1 (by omega) (fun d h=>by have:=m8 d h;omega))|(refine A2.pure' ?_ (A8p hT _ x.2.2.2.2.2.2.2 (by omega) (fun d h=>by have:=m9 d h;omega));rintro _ rfl)|refine A7.pure ?_ (A8p hT _ x.2.2.2.2.2.2.2 (by omega) (fun d h=>by have:=m9 d h;omega))|refine gS ?_|refine aA ?_|refine nA ?_|fail)<;>(conv=>whnf))
 all_goals refine ⟨(Sub.refl _).set hb _ _,C4 ?_⟩
 all_goals simp [*]
end Go.Proofs.YtaammejliikieaaGreatDoor.Tr
namespace Go.Proofs.YtaammejliikieaaGreatDoor.Va
open Go Go.Ab Go.RowKit
variable {Γ:Nat→AV}
attribute [local irreducible] A8 Sto.set Sto.grow
def typeOf (op a b:Int):Int :=
 if op=4 then (if a=3 then 3 else 0)
 else if op=6∨op=7 then (if a=3∧b=a then 3 else 0)
 else if op=5 then (if a=1 then a else 0)
 else if op=9∨op=10∨op=11∨op=12 then (if a=1∧b=a then a else 0)
 else if op=8 then (if (a=1∨a=2)∧b=a then a else 0)
 else if op=13∨op=14 then (if (1≤a∧a≤3)∧b=a then 3 else 0)
 else if op=15∨op=16 then (if (a=1∨a=2)∧b=a then 3 else 0)
 else 0
end Go.Proofs.YtaammejliikieaaGreatDoor.Va
namespace Go.Proofs.YtaammejliikieaaGreatDoor.Ix
open Go Go.Ab Go.RowKit
variable {Γ:Nat→AV}
theorem C0m (l:List UInt8) (n:Int):A8 Tryz.prog Γ 218 [.str l,.int .u8 n] fun v=>v=.int .i64 (Lib.indexByte l n.toNat.toUInt8):=by
 refine fun s=>⟨fun G w vs hm hr=>?_⟩
 obtain ⟨u,us,rfl,hu,hus⟩:=A9.1 hr
 obtain ⟨u1,us1,rfl,hu1,hus1⟩:=A9.1 hus
 rw [B4] at hus1;subst hus1
 rw [M3] at hu;subst hu
 rw [F5] at hu1;subst hu1
 refine Calls.mono (R:=fun e w'=>e=.returned (.int .i64 (Lib.indexByte l n.toNat.toUInt8))∧w'=w) ?_ ?_
 ·go_enter Tryz.func218,Tryz.ntmps218
  go_wp2
  rw [run_callFunc_extern Tryz.func238 (by kernel_rfl) (by kernel_rfl) (by kernel_rfl) (e:=Extern.BytealgIndexByte.indexByte) (by kernel_rfl)]
  rw [Lib.run_indexByteString]
  simp only [Result.andThen]
  rw [Oper.upon_value]
  go_wp2
  go_ret
  exact ⟨rfl,rfl⟩
 ·rintro e w' ⟨rfl,rfl⟩
  exact ⟨_,_,s,G,rfl,⟨rfl,rfl⟩,F5.2 rfl,hm,Ext.refl _ _⟩
attribute [local irreducible] A8 Sto.set Sto.grow
theorem A2y (l:List UInt8) (n:Int):A8 Tryz.prog Γ 193 [.str l,.int .u8 n] fun v=>v=.int .i64 (Lib.indexByte l n.toNat.toUInt8):=by
 refine aps Tryz.func193 ?_
 intro s
 refine wr ?_;(first|(refine A2.pure' ?_ (C0m _ _);rintro _ rfl)|refine A7.pure ?_ (C0m _ _));refine wr ?_
 rfl
end Go.Proofs.YtaammejliikieaaGreatDoor.Ix
namespace Go.Proofs.YtaammejliikieaaGreatDoor.Qu
open Go Go.Ab
attribute [local irreducible] A8 Sto.set Sto.grow
variable {Γ:Nat→AV}
def A3b (n:Int):Bool:=decide (32≤n) && decide (n≤126) && !decide (n=34) && !decide (n=92)
theorem B7s (n:Int):A8 Tryz.prog Γ 250 [.int .u8 n] fun v=>v=.bool (A3b n):=by
 refine aps Tryz.func250 ?_
 intro s
 conv=>whnf
 repeat' (first
  | (refine ⟨Sub.refl _,?_⟩)
  | (refine L3 (fun h=>?_) (fun h=>?_)<;>(try rw [h])<;>(try simp only [Bool.false_eq_true,Bool.true_eq_false,↓reduceIte,decide_eq_true_eq,decide_eq_false_iff_not,Bool.not_eq_true',Bool.not_eq_false'] at h)<;>(conv=>whnf))
  | (refine L4 ?_;conv=>whnf)
  | (refine AWp.any (by kernel_rfl) (by kernel_rfl) (by kernel_rfl) ?_;conv=>whnf)
  | (apply And.intro;(focus (first|omega|rfl|decide|exact Nat.le_of_ble_eq_true rfl|((repeat' (first|exact C3|refine all_cons ?_ ?_|rfl|fail));done)|(simp [-List.length_flatMap];done)|(simp [-List.length_flatMap];omega)|fail));conv=>whnf)
  | fail)
 all_goals grind [A3b,A1v]
def A5i:List UInt8:=[48,49,50,51,52,53,54,55,56,57,97,98,99,100,101,102]
def C8v (n:Int):UInt8:=B0 A5i n.toNat
def one (n:Int):List UInt8 :=
 if n=34 then [92,34] else if n=92 then [92,92] else if n=10 then [92,110] else if n=13 then [92,114] else if n=9 then [92,116]
 else if n < 32∨126 < n then [92,120,C8v (n / 16),C8v (n % 16)] else [UInt8.ofNat n.toNat]
theorem C2g (c:UInt8):A3b c.toNat=true→one c.toNat=[c]:=by
 intro h
 have:UInt8.ofNat ((c.toNat:Int).toNat)=c:=by simp
 grind [one,A3b]
theorem C0u (c:UInt8):1≤(one c.toNat).length:=by grind [one]
def C0w (l:List UInt8):List UInt8:=34::l.flatMap (fun c=>one c.toNat)++[34]
end Go.Proofs.YtaammejliikieaaGreatDoor.Qu
namespace Go.Proofs.YtaammejliikieaaGreatDoor.Qu
open Go Go.Ab Go.Proofs.YtaammejliikieaaGreatDoor.Bd
attribute [local irreducible] A8 Sto.set Sto.grow
variable {Γ:Nat→AV}
def J8:List UInt8→Int→Int
 | [],_=>-1
 | b::l,n=>if n=b.toNat then 0 else if J8 l n = -1 then -1 else J8 l n+1
theorem B0v:∀ (l:List UInt8) (n:Int),-1≤J8 l n∧J8 l n < l.length
 | [],n=>by simp [J8]
 | b::l,n=>by have:=B0v l n;simp only [J8,List.length_cons];split<;>(try split)<;>omega
def A02 (i:Nat) (k:Int):Int:=if k = -1 then -1 else i+k
theorem X9 (t:Nat) (l:List UInt8) (n:Int) (hl:l.length≤140737488355328):A8 Tryz.prog Γ 252 [.slice t (K6 l),.int .u8 n] fun v=>v=.int .i64 (J8 l n):=by
 have hbl:(K6 l).length=l.length:=A97 l
 refine aps Tryz.func252 ?_
 intro s
 conv=>whnf
 refine AWp.loopA [8] [9,10,5,11,12,13,14,15,16,17,4,18] (fun i:Nat=>[.int .i64 i]) (fun i s'=>i≤l.length∧s'=s∧J8 l n=A02 i (J8 (l.drop i) n)) (fun i=>l.length - i) (0) (by kernel_rfl) (by (repeat' (first|refine G6 ?_ ?_|refine G2 ?_ ?_ ?_|rfl|omega))) ?_ ?_
 ·exact ⟨by omega,rfl,by simp [A02]⟩
 ·rintro x i _ ⟨hi,rfl,hp⟩
  conv=>whnf
  repeat' (first
   | (refine ⟨Sub.refl _,?_⟩)
   | (refine L3 (fun h=>?_) (fun h=>?_)<;>(try rw [h])<;>(try simp only [Bool.false_eq_true,Bool.true_eq_false,↓reduceIte,decide_eq_true_eq,decide_eq_false_iff_not,Bool.not_eq_true',Bool.not_eq_false'] at h)<;>(conv=>whnf))
   | (rw [B8s (by omega)];conv=>whnf)
   | (refine L4 ?_;conv=>whnf)
   | (refine AWp.any (by kernel_rfl) (by kernel_rfl) (by kernel_rfl) ?_;conv=>whnf)
   | (apply And.intro;(focus (first|omega|rfl|decide|exact Nat.le_of_ble_eq_true rfl|((repeat' (first|exact C3|refine all_cons ?_ ?_|rfl|fail));done)|(simp [-List.length_flatMap];done)|(simp [-List.length_flatMap];omega)|fail));conv=>whnf)
   | fail)
  ·rw [hp,X3 (by omega),J8,if_pos (by simp at h;exact h)]
   simp [A1v,A02]
  ·refine ⟨i+1,by (repeat' (first|refine G6 ?_ ?_|refine G2 ?_ ?_ ?_|rfl|omega)),by (repeat (first|exact L0.refl _ _|refine L0.upd rfl ?_|refine L0.updL rfl ?_|refine L0.havoc rfl ?_)),⟨by omega,rfl,?_⟩,by omega⟩
   rw [hp,X3 (i:=i) (by omega),J8,if_neg (by simp at h;exact h)]
   have:=B0v (l.drop (i+1)) n
   grind [A02]
  ·rw [hp,C0 (by omega)]
   simp [A1v,A02,J8]
def marks:List UInt8:=[34,92,10,13,9]
def letters:List UInt8:=[34,92,110,114,116]
structure A7o (Γ:Nat→AV):Prop where
 marks:Γ 4=.cptr [.int .u8 34,.int .u8 92,.int .u8 10,.int .u8 13,.int .u8 9]
 letters:Γ 3=.cptr [.int .u8 34,.int .u8 92,.int .u8 110,.int .u8 114,.int .u8 116]
theorem C44:∀ m:Nat,m < 256→A3b (m:Int)=false→¬ 0≤J8 marks (m:Int)→one (m:Int)=[92,120,B0 A5i (m / 16),B0 A5i (m % 16)]:=by decide +kernel
end Go.Proofs.YtaammejliikieaaGreatDoor.Qu
namespace Go.Proofs.YtaammejliikieaaGreatDoor.Qu
open Go Go.Ab Go.Proofs.YtaammejliikieaaGreatDoor.Bd Go.Proofs.YtaammejliikieaaGreatDoor.Ix
attribute [local irreducible] A8 Sto.set Sto.grow
variable {Γ:Nat→AV}
theorem Q0 (t:Nat) (l:List UInt8) (n:Int) (hl:l.length≤140737488355328):A8 Tryz.prog Γ 253 [.slice t (K6 l),.int .u8 n] fun v=>v=.bool (decide (0≤J8 l n)):=by
 refine aps Tryz.func253 ?_
 intro s
 refine wr ?_;(first|(refine A2.pure' ?_ (X9 _ _ _ hl);rintro _ rfl)|refine A7.pure ?_ (X9 _ _ _ hl));refine wr ?_
 rfl
def G5 (b:UInt8):Int:=Lib.indexByte A5i b
theorem A7m (b:UInt8):G5 b < 16:=by
 have h:∀ n:Nat,n < 256→G5 (UInt8.ofNat n) < 16:=by decide +kernel
 simpa using h b.toNat (B74 b)
theorem A7j {s:Sto} {b:Nat} {l:List UInt8} (k:Nat) (hk:k < l.length) (hb:s.bx b=some (9,[.str l])) :
  A2 Tryz.prog Γ 251 [.int .i64 k,.ptr (some ⟨b,0,none⟩)] s fun v s'=>v=.int .i64 (G5 (B0 l k))∧s'=s:=by
 refine acs Tryz.func251 ?_
 conv=>whnf
 rw [hb]
 refine wr ?_;(first|(refine A2.pure' ?_ (A2y _ _);rintro _ rfl)|refine A7.pure ?_ (A2y _ _));refine wr ?_
 refine ⟨_,Sub.refl _,?_,rfl⟩
 show AV.int .i64 (Lib.indexByte A5i _)=_
 simp [G5]
def tk (l:List UInt8):Int × Int :=
 if A3b (B0 l 0).toNat then ((B0 l 0).toNat,1)
 else if ¬ ((B0 l 0).toNat:Int)=92∨l.length < 2 then (0,0)
 else if ¬ ((B0 l 1).toNat:Int)=120 then
  (if J8 letters (B0 l 1).toNat < 0 then (0,0) else ((B0 marks (J8 letters (B0 l 1).toNat).toNat).toNat,2))
 else if l.length < 4∨G5 (B0 l 2) < 0∨G5 (B0 l 3) < 0 then (0,0)
 else if A3b (G5 (B0 l 2) * 16+G5 (B0 l 3))∨0≤J8 marks (G5 (B0 l 2) * 16+G5 (B0 l 3)) then (0,0)
 else (G5 (B0 l 2) * 16+G5 (B0 l 3),4)
theorem D2j:∀ a:Nat,a < 16→∀ b:Nat,b < 16→IntKind.u8.wrap (IntKind.i64.wrap (BitVec.ofInt IntKind.i64.bits (IntKind.i64.wrap ((a:Int) * 2 ^ min (Int.toNat 4) IntKind.i64.bits)) ||| BitVec.ofInt IntKind.i64.bits (b:Int)).toNat)=((a * 16+b:Nat):Int):=by decide +kernel
theorem B0a {x y:UInt8} (hx:¬ G5 x < 0) (hy:¬ G5 y < 0) :
  IntKind.u8.wrap (IntKind.i64.wrap (BitVec.ofInt IntKind.i64.bits (IntKind.i64.wrap (G5 x * 2 ^ min (Int.toNat 4) IntKind.i64.bits)) ||| BitVec.ofInt IntKind.i64.bits (G5 y)).toNat)=G5 x * 16+G5 y:=by
 have h1:=A7m x
 have h2:=A7m y
 obtain ⟨a,ha⟩:∃ a:Nat,G5 x=a:=⟨(G5 x).toNat,by omega⟩
 obtain ⟨b,hb⟩:∃ b:Nat,G5 y=b:=⟨(G5 y).toNat,by omega⟩
 rw [ha] at h1 hx ⊢
 rw [hb] at h2 hy ⊢
 rw [D2j a (by omega) b (by omega)]
 simp
theorem B5u (hT:A7o Γ) (l:List UInt8) (h0:0 < l.length) (hl:l.length≤140737488355328) :
  A8 Tryz.prog Γ 240 [.str l] fun v=>v=.tuple [.int .u8 (tk l).1,.int .i64 (tk l).2]:=by
 refine aps Tryz.func240 ?_
 intro s
 conv=>whnf
 intro b hb
 conv=>whnf
 have hi5:J8 letters (B0 l (Int.toNat 1)).toNat < 5:=(B0v letters _).2
 repeat' (first
  | (refine ⟨Sub.refl _,?_⟩)
  | (refine L3 (fun h=>?_) (fun h=>?_)<;>(try rw [h])<;>(try simp only [Bool.false_eq_true,Bool.true_eq_false,↓reduceIte,decide_eq_true_eq,decide_eq_false_iff_not,Bool.not_eq_true',Bool.not_eq_false'] at h)<;>(conv=>whnf))
  | (refine A2.pure' ?_ (B7s _);rintro _ rfl;conv=>whnf)
  | (refine A7.pure ?_ (B7s _);conv=>whnf)
  | (rw [B0i,hT.marks];conv=>whnf)
  | (rw [B0i,hT.letters];conv=>whnf)
  | (refine A2.pure' ?_ (X9 0 letters _ (by decide));rintro _ rfl;conv=>whnf)
  | (refine A7.pure ?_ (X9 0 letters _ (by decide));conv=>whnf)
  | (refine A2.pure' ?_ (Q0 0 marks _ (by decide));rintro _ rfl;conv=>whnf)
  | (refine A7.pure ?_ (Q0 0 marks _ (by decide));conv=>whnf)
  | (refine A2.by (A7j 2 (by omega) A3) ?_;rintro _ _ ⟨rfl,rfl⟩;conv=>whnf)
  | (refine A2.by (A7j 3 (by omega) A3) ?_;rintro _ _ ⟨rfl,rfl⟩;conv=>whnf)
  | (refine L4 ?_;conv=>whnf)
  | (refine AWp.any (by kernel_rfl) (by kernel_rfl) (by kernel_rfl) ?_;conv=>whnf)
  | (apply And.intro;(focus (first|omega|rfl|decide|exact Nat.le_of_ble_eq_true rfl|((repeat' (first|exact C3|refine all_cons ?_ ?_|rfl|fail));done)|(simp [-List.length_flatMap];done)|(simp [-List.length_flatMap];omega)|fail));conv=>whnf)
  | fail)
 case right.right.refine_2.right.right.refine_2.refine_2.right.right.refine_1.right.right.right.right.right.refine_2.right.right =>
  have hc:J8 letters (B0 l (Int.toNat 1)).toNat=0∨J8 letters (B0 l (Int.toNat 1)).toNat=1∨J8 letters (B0 l (Int.toNat 1)).toNat=2∨J8 letters (B0 l (Int.toNat 1)).toNat=3∨J8 letters (B0 l (Int.toNat 1)).toNat=4:=by omega
  simp only [show Int.toNat 0=0 from rfl,show Int.toNat 1=1 from rfl] at *
  rcases hc with hc|hc|hc|hc|hc
  all_goals
   rw [hc]
   conv=>whnf
   refine ⟨(Sub.refl _).set hb _ _,?_⟩
   have e0:A3b 92=false:=rfl
   have m0:((B0 marks 0).toNat:Int)=34:=rfl
   have m1:((B0 marks 1).toNat:Int)=92:=rfl
   have m2:((B0 marks 2).toNat:Int)=10:=rfl
   have m3:((B0 marks 3).toNat:Int)=13:=rfl
   have m4:((B0 marks 4).toNat:Int)=9:=rfl
   grind [tk,A1v]
 all_goals refine ⟨(Sub.refl _).set hb _ _,?_⟩
 all_goals simp only [show Int.toNat 0=0 from rfl,show Int.toNat 1=1 from rfl] at *
 all_goals try simp only [B0a, *,not_false_eq_true] at *
 all_goals grind [tk,A1v,B0a]
def C1y (m:Nat):Bool :=
 (A3b m && decide (one m=[UInt8.ofNat m])) ||
 (match one m with
 | [a,x]=>decide (a=92) && decide (x≠120) && decide (0≤J8 letters x.toNat) && decide (((B0 marks (J8 letters x.toNat).toNat).toNat:Int)=m)
 | [a,b,x,y]=>decide (a=92) && decide (b=120) && decide (0≤G5 x) && decide (0≤G5 y) && decide (G5 x * 16+G5 y=m) && !A3b m && decide (J8 marks m < 0)
 | _=>false)
theorem C4h:∀ m:Nat,m < 256→C1y m=true:=by decide +kernel
theorem C86 (m:Nat) (hm:m < 256) (r:List UInt8):tk (one m++r)=((m:Int),((one m).length:Int)):=by
 have h:=C4h m hm
 unfold C1y at h
 rw [Bool.or_eq_true] at h
 rcases h with h|h
 ·simp only [Bool.and_eq_true,decide_eq_true_eq] at h
  rw [h.2]
  have e:((UInt8.ofNat m).toNat:Int)=m:=by simp [Nat.mod_eq_of_lt hm]
  unfold tk
  have e1:B0 ([UInt8.ofNat m]++r) 0=UInt8.ofNat m:=rfl
  rw [e1,e,if_pos h.1]
  rfl
 ·split at h
  ·rename_i a x hx
   simp only [Bool.and_eq_true,decide_eq_true_eq] at h
   obtain ⟨⟨⟨rfl,h2⟩,h3⟩,h4⟩:=h
   rw [hx]
   unfold tk
   have e0:B0 ([92,x]++r) 0=92:=rfl
   have e1:B0 ([92,x]++r) 1=x:=rfl
   have e2:¬ (x.toNat:Int)=120:=fun hh=>h2 (UInt8.toNat_inj.1 (by simpa using Int.ofNat.inj hh))
   rw [e0,e1,if_neg (by decide),if_neg (by simp),if_pos e2,if_neg (by omega),h4]
   rfl
  ·rename_i a b x y hx
   simp only [Bool.and_eq_true,decide_eq_true_eq,Bool.not_eq_true'] at h
   obtain ⟨⟨⟨⟨⟨⟨rfl,rfl⟩,h3⟩,h4⟩,h5⟩,h6⟩,h7⟩:=h
   rw [hx]
   unfold tk
   have e0:B0 ([92,120,x,y]++r) 0=92:=rfl
   have e1:B0 ([92,120,x,y]++r) 1=120:=rfl
   have e2:B0 ([92,120,x,y]++r) 2=x:=rfl
   have e3:B0 ([92,120,x,y]++r) 3=y:=rfl
   rw [e0,e1,e2,e3,if_neg (by decide),if_neg (by simp),if_neg (by decide),if_neg (by simp;omega),h5,if_neg (by simp [h6];omega)]
   rfl
  ·cases h
theorem B16 (b:UInt8) (h:0≤G5 b):B0 A5i (G5 b).toNat=b:=by
 have key:∀ n:Nat,n < 256→0≤G5 (UInt8.ofNat n)→B0 A5i (G5 (UInt8.ofNat n)).toNat=UInt8.ofNat n:=by decide +kernel
 simpa using key b.toNat (B74 b) (by simpa using h)
theorem B47 (b:UInt8) (h:0≤J8 letters b.toNat):one (B0 marks (J8 letters b.toNat).toNat).toNat=[92,b]:=by
 have key:∀ n:Nat,n < 256→0≤J8 letters (UInt8.ofNat n).toNat→one (B0 marks (J8 letters (UInt8.ofNat n).toNat).toNat).toNat=[92,UInt8.ofNat n]:=by decide +kernel
 simpa using key b.toNat (B74 b) (by simpa using h)
theorem B70:∀ l:List UInt8,l≠[]→tk l=(0,0)∨∃ m:Nat,m < 256∧∃ r,l=one m++r
 | [],h=>absurd rfl h
 | a::l,_=>by
  by_cases h1:A3b (B0 (a::l) 0).toNat=true
  ·have e:B0 (a::l) 0=a:=rfl
   rw [e] at h1
   exact .inr ⟨a.toNat,B74 a,l,by rw [C2g a h1];rfl⟩
  ·by_cases h2:¬ ((B0 (a::l) 0).toNat:Int)=92∨(a::l).length < 2
   ·left;unfold tk;rw [if_neg h1,if_pos h2]
   ·simp only [not_or,Decidable.not_not] at h2
    have ea:a=92:=UInt8.toNat_inj.1 (show a.toNat=92 from Int.ofNat.inj h2.1)
    subst ea
    match l,h2 with
    | [],h2=>simp at h2
    | b::l,_ =>
     have e1:B0 (92::b::l) 1=b:=rfl
     by_cases h3:¬ ((B0 (92::b::l) 1).toNat:Int)=120
     ·by_cases h4:J8 letters (B0 (92::b::l) 1).toNat < 0
      ·left;unfold tk;rw [if_neg h1,if_neg (by simp [B0]),if_pos h3,if_pos h4]
      ·rw [e1] at h4
       exact .inr ⟨(B0 marks (J8 letters b.toNat).toNat).toNat,B74 _,l,by rw [B47 b (by omega)];rfl⟩
     ·have eb:b=120:=UInt8.toNat_inj.1 (show b.toNat=120 from Int.ofNat.inj (Decidable.not_not.1 h3))
      subst eb
      match l with
      | []=>left;unfold tk;rw [if_neg h1,if_neg (by simp [B0]),if_neg h3,if_pos (by simp)]
      | [c]=>left;unfold tk;rw [if_neg h1,if_neg (by simp [B0]),if_neg h3,if_pos (by simp)]
      | c::d::l =>
       have e2:B0 (92::120::c::d::l) 2=c:=rfl
       have e3:B0 (92::120::c::d::l) 3=d:=rfl
       by_cases h4:G5 c < 0∨G5 d < 0
       ·left;unfold tk;rw [e2,e3,if_neg h1,if_neg (by simp [B0]),if_neg h3,if_pos (.inr h4)]
       ·by_cases h5:A3b (G5 c * 16+G5 d)=true∨0≤J8 marks (G5 c * 16+G5 d)
        ·left;unfold tk;rw [e2,e3,if_neg h1,if_neg (by simp [B0]),if_neg h3,if_neg (by simp;omega),if_pos h5]
        ·have b1:=A7m c
         have b2:=A7m d
         have hm:(((G5 c).toNat * 16+(G5 d).toNat:Nat):Int)=G5 c * 16+G5 d:=by omega
         refine .inr ⟨(G5 c).toNat * 16+(G5 d).toNat,by omega,l,?_⟩
         rw [C44 _ (by omega) (by rw [hm];simpa using (not_or.1 h5).1) (by rw [hm];exact (not_or.1 h5).2)]
         rw [show ((G5 c).toNat * 16+(G5 d).toNat) / 16=(G5 c).toNat by omega,show ((G5 c).toNat * 16+(G5 d).toNat) % 16=(G5 d).toNat by omega,B16 c (by omega),B16 d (by omega)]
         rfl
end Go.Proofs.YtaammejliikieaaGreatDoor.Qu
