/- Part 4 of what the closing text needs: PaK1, Gr2, PaK2, PaL, PaM, AsP, IsP, PaN, TrA, TrB, TrC, TrD, TrE, TrG, TrH, PyA, PqA, PqB. No condition of mine beyond those that the theorems name. -/
import Derived.Test.YticnkpgmmpenlaaGreatDoorAb27
import Derived.Test.YticnkpgmmpenlaaGreatDoorProg
import Derived.Shelf.Spec.SlicesGrow
import Derived.Laws.AppendOwn
import Derived.Test.YticnkpgmmpenlaaGreatDoorChecked
import Derived.WalkKit
import Derived.LaidEql
import Derived.Stop.Asserts
import Derived.RowKitTokens
set_option maxRecDepth 10000
set_option maxHeartbeats 60000000
set_option linter.all false
namespace Go.Proofs.YticnkpgmmpenlaaGreatDoor.Pa
open Go Go.Ab Go.RowKit
variable {Γ:Nat→AV}
attribute [local irreducible] A5 Sto.set Sto.grow
section
variable {s:Sto}
def zx:List AV:=[.int .i64 0,.int .i64 0,.int .i64 0,.str [],.int .i64 0,.int .i64 0,.str [],.bool false,.int .i64 0,.int .i64 0]
theorem A97 {tk:Nat} {l:List Ex} (hl:l≠[]) (hn:l.length≤1000000) :
  A0 Tryz.prog Γ 297 [.slice tk (J9 l)] s fun v s'=>∃ b cap,v=.raw (some ⟨b,0,none⟩) l.length cap∧l.length≤cap∧s.bx b=none∧s'=s.set b 61 ((J9 l).flatten++(List.replicate (cap - l.length) zx).flatten):=by
 cases l with
 | nil=>exact absurd rfl hl
 | cons c l =>
 refine A0.of_awp Tryz.func297 rfl (Nat.le_of_ble_eq_true (by kernel_rfl)) ?_
 refine AWp.seq (R8 _ (by kernel_rfl) ?_)
 conv=>whnf
 refine AWp.seq (R8 _ (by kernel_rfl) ?_)
 conv=>whnf
 refine AWp.seq (AWp.regionS 1 (by kernel_rfl) ?_)
 conv=>whnf
 refine ⟨Nat.le_of_ble_eq_true (by kernel_rfl),rfl,rfl,all_nil,?_⟩
 conv=>whnf
 refine A65.raw 5 rfl fun a=>?_
 conv=>whnf
 refine ⟨by simp [J9],fun x hx=>?_,?_,fun _ b cap h1 h2=>?_,fun h=>absurd ⟨rfl,rfl⟩ h⟩
 ·obtain ⟨y,_,rfl⟩:=List.mem_map.1 hx
  exact ⟨rfl,rfl⟩
 ·rw [X3]
  show (0+(c::l).length) * (96+1)≤140737488355328
  omega
 rw [X3] at h1
 rw [X3]
 conv=>whnf
 refine R8 _ (by kernel_rfl) ?_
 conv=>whnf
 exact ⟨_,Sub.refl _,b,cap,rfl,h1,h2,rfl⟩
theorem C0e {P Q:List AV} {x:Ex} {i:Nat} (hP:P.length=i * 10) (j:Nat):(P++(exA x++Q)).drop (0+((i:Nat):Int).toNat * 10+j)=(exA x++Q).drop j:=by
 rw [show (0+((i:Nat):Int).toNat * 10+j)=P.length+j by rw [hP];simp,← List.drop_drop,List.drop_left]
theorem B4k {P:Program} {T:TypeId} {K:AV→Prop} {cs r:List AV} {o:Nat} (h:cs.drop o=r) (k:A3s P T r K):A3s P T (cs.drop o) K:=h ▸ k
theorem A0i {K:List AV→Prop} {l r:List AV} (h:l=r) (k:K r):A5c l K:=by rw [D2,h];exact k
theorem D24 {P Q:List AV} {x x':Ex} {c:AV} {i:Nat} (hP:P.length=i * 10) (j:Nat) (hj:j < 10) (h:(exA x).set j c=exA x') :
  (P++(exA x++Q)).take (0+((i:Nat):Int).toNat * 10+j)++[c]++(P++(exA x++Q)).drop (0+((i:Nat):Int).toNat * 10+j+1)=P++(exA x'++Q):=by
 rw [← h,show (0+((i:Nat):Int).toNat * 10+j)=P.length+j by rw [hP];simp]
 have hx:(exA x).length=10:=rfl
 rw [Nat.add_assoc,← List.drop_drop,List.drop_left,List.take_append,List.take_of_length_le (by omega),Nat.add_sub_cancel_left,List.set_eq_take_append_cons_drop]
 rw [if_pos (by omega),List.take_append_of_le_length (by omega),List.drop_append_of_le_length (by omega)]
 simp
theorem B4t (z:List AV):∀ l:List Ex,T9 10 l.length ((J9 l).flatten++z)=J9 l
 | []=>rfl
 | x::l=>by
  have ih:=B4t z l
  rw [show (J9 (x::l)).flatten++z=exA x++((J9 l).flatten++z) by simp [J9],List.length_cons]
  show (exA x++((J9 l).flatten++z)).take 10::T9 10 l.length ((exA x++((J9 l).flatten++z)).drop 10)=_
  rw [List.take_left' (show (exA x).length=10 from rfl),List.drop_left' (show (exA x).length=10 from rfl),ih]
  rfl
theorem C6x (l:List Ex):fgE (J9 l)=J9 l:=A58 (A:=exA) (fun _=>rfl) l
theorem A5b:∀ m:List Ex,(J9 m).flatten.length=m.length * 10
 | []=>rfl
 | y::m=>by rw [show J9 (y::m)=exA y::J9 m from rfl,List.flatten_cons,List.length_append,A5b m,List.length_cons,show (exA y).length=10 from rfl];omega
theorem C36 {tk:Nat} {l:List Ex} {by_:Int} (hl:l≠[]) (hn:l.length≤100000) :
  A5 Tryz.prog Γ 276 [.slice tk (J9 l),.int .i64 by_] fun v=>v=.slice 0 (J9 (l.map (G8 by_))):=by
 unfold A5;intro s
 have h1:A0 Tryz.prog Γ 276 [.slice tk (J9 l),.int .i64 by_] s fun v s'=>∃ b cap z,v=.raw (some ⟨b,0,none⟩) l.length cap∧l.length≤cap∧s.bx b=none∧s'.bx b=some (61,(J9 (l.map (G8 by_))).flatten++z)∧Sub s s':=by
  have hcl:=A97 (Γ:=Γ) (s:=s) (tk:=tk) hl (by omega)
  refine acs Tryz.func276 ?_
  refine wp ?_;(refine A0.by hcl ?_;rintro _ s2 ⟨b,cap,rfl,hcap,hb,hs2⟩);refine wp ?_
  have hs2':Sub s s2:=by rw [hs2];exact (Sub.refl s).set hb _ _
  have hb2:s2.bx b=some (61,(J9 l).flatten++(List.replicate (cap - l.length) zx).flatten):=by rw [hs2];exact A1
  generalize (List.replicate (cap - l.length) zx).flatten=z at *
  refine AWp.loopA [11] [12,13,6,14,15,16,17,18,19,20,21,22,23,24,25,26,27,28,29,30,31,32,33,34,35,36,37,38,39,40,41,42,43,44,45,46,47,48,49,50,51,52] (fun i:Nat=>[.int .i64 (i:Int)]) (fun i s'=>i≤l.length∧s'.bx b=some (61,(J9 ((l.take i).map (G8 by_))).flatten++((J9 (l.drop i)).flatten++z))∧Sub s s') (fun i=>l.length - i) (0) (by kernel_rfl) (eqa) ?_ ?_
  ·refine ⟨Nat.zero_le _,?_,hs2'⟩
   rw [hb2];rfl
  ·rintro y i s' ⟨hi,hbx,hsub⟩
   show awp _ _ _ _ _ (updL _ _ [.int .i64 ((i:Nat):Int)]) _
   conv=>whnf
   by_cases hlt:i < l.length
   ·rw [List.drop_eq_getElem_cons hlt] at hbx
    generalize hx:l[i]=x at *
    have hP:(J9 ((l.take i).map (G8 by_))).flatten.length=i * 10:=by
     rw [A5b,List.length_map,List.length_take]
     rw [Nat.min_eq_left hi]
    obtain ⟨Q,hQ⟩:∃ Q,(J9 (l.drop (i+1))).flatten++z=Q:=⟨_,rfl⟩
    have hfin:∀ {s'':Sto} {x':Ex},s''.bx b=some (61,(J9 ((l.take i).map (G8 by_))).flatten++(exA x'++Q))→x'=G8 by_ x→s''.bx b=some (61,(J9 ((l.take (i+1)).map (G8 by_))).flatten++((J9 (l.drop (i+1))).flatten++z)):=by
     rintro s'' x' h1 rfl
     rw [h1,← hQ,List.take_succ_eq_append_getElem hlt,hx]
     simp [J9]
    generalize (J9 ((l.take i).map (G8 by_))).flatten=P at *
    replace hbx:s'.bx b=some (61,P++(exA x++Q)):=by rw [hbx,← hQ];simp [J9]
    clear hQ
    have hlen:∀ x:Ex,(P++(exA x++Q)).length=i * 10+(10+Q.length):=fun x=>by rw [List.length_append,List.length_append,hP];rfl
    have hfit:∀ (x:Ex) (j:Nat),j < 10→0+((i:Nat):Int).toNat * 10+j+1≤(P++(exA x++Q)).length:=fun x j hj=>by rw [hlen];simp;omega
    by_cases h4:x.op < 4
    ·have d4:decide (x.op < 4)=true:=by simp [h4]
     repeat' ((first|exact pru|(refine brS (fun h=>?_) (fun h=>?_)<;>(try rw [h])<;>(try simp only [bS,↓reduceIte] at h))|(rw [d4])|(refine A4 hbx ?_;refine B4k (C0e hP _) ?_)|refine gS ?_|refine aA ?_|refine nA ?_|fail)<;>(conv=>whnf))
     exact ⟨i+1,eqa,B9,⟨hlt,hfin hbx (by simp [G8,h4]),hsub⟩,by omega⟩
    ·have d4:decide (x.op < 4)=false:=by simp [h4]
     repeat' ((first|exact pru|(refine brS (fun h=>?_) (fun h=>?_)<;>(try rw [h])<;>(try simp only [bS,↓reduceIte] at h))|(rw [d4])|(refine A4 hbx ?_;refine B4k (C0e hP _) ?_)|refine gS ?_|refine aA ?_|refine nA ?_|fail)<;>(conv=>whnf))
     ·have h16:16 < x.op:=by assumption
      exact ⟨i+1,eqa,B9,⟨hlt,hfin hbx (by simp [G8,h16]),hsub⟩,by omega⟩
     have h16:¬ 16 < x.op:=by assumption
     refine A4 hbx ?_
     conv=>whnf
     refine ⟨rfl,rfl,hfit x 1 (by decide),A0i (D24 (x':={ x with a:=IntKind.i64.wrap (x.a+by_) }) hP _ (by decide) rfl) ?_⟩
     conv=>whnf
     have hsub2:=fun cs=>hsub.set hb 61 cs
     repeat' ((first|exact pru|(refine brS (fun h=>?_) (fun h=>?_)<;>(try rw [h])<;>(try simp only [bS,↓reduceIte] at h))|(refine A4 A1 ?_;refine B4k (C0e hP _) ?_)|refine gS ?_|refine aA ?_|refine nA ?_|fail)<;>(conv=>whnf))
     ·have h5:5 < x.op:=by assumption
      refine ⟨hfit _ 2 (by decide),A0i (D24 (x':={ x with a:=IntKind.i64.wrap (x.a+by_),b:=IntKind.i64.wrap (x.b+by_) }) hP _ (by decide) rfl) ?_⟩
      conv=>whnf
      repeat' ((first|exact pru|(refine brS (fun h=>?_) (fun h=>?_)<;>(try rw [h])<;>(try simp only [bS,↓reduceIte] at h))|refine gS ?_|refine aA ?_|refine nA ?_|fail)<;>(conv=>whnf))
      exact ⟨i+1,eqa,B9,⟨hlt,hfin (x':={ x with a:=IntKind.i64.wrap (x.a+by_),b:=IntKind.i64.wrap (x.b+by_) }) A1 (by simp [G8,h4,h16,h5]),(hsub2 _).set hb _ _⟩,by omega⟩
     ·have h5:¬ 5 < x.op:=by assumption
      exact ⟨i+1,eqa,B9,⟨hlt,hfin (x':={ x with a:=IntKind.i64.wrap (x.a+by_) }) A1 (by simp [G8,h4,h16,h5]),hsub2 _⟩,by omega⟩
   ·obtain rfl:i=l.length:=by omega
    refine wp ?_
    rw [List.take_length,List.drop_length] at hbx
    exact ⟨_,Sub.refl _,b,cap,z,rfl,hcap,hb,hbx,hsub⟩
 refine h1.frz ?_
 rintro v s' ⟨b,cap,z,rfl,hcap,hb,hbx,hsub⟩
 refine ⟨fz1 b 10 ((J9 (l.map (G8 by_))).flatten++z),s,C0n hb hbx,hsub,?_,rfl⟩
 have hch:=B4t z (l.map (G8 by_))
 rw [List.length_map] at hch
 show fg (fz _ _)=_
 unfold fz fzW
 simp only [C0m]
 rw [if_pos ⟨hcap,by rw [List.drop_zero,List.length_append,A5b,List.length_map];omega⟩,List.drop_zero,hch]
 unfold fg
 rw [C6x]
end
end Go.Proofs.YticnkpgmmpenlaaGreatDoor.Pa
namespace Go.Proofs.YticnkpgmmpenlaaGreatDoor
open Go Go.Ab Go.RowKit Go.Shelf
variable {Γ:Nat→AV}
set_option maxRecDepth 100000
def D9g:Ren:=⟨fun|4=>296|n=>n,fun|22=>40|25=>61|9=>9|20=>20|0=>0|3=>3|4=>4|n=>n,fun|n=>n⟩
theorem C5j:Lays8.n4 Tryz.prog D9g where
 mixed:=by kernel_rfl
 f4 := ⟨ "slices.Grow[[]proctor/api.Expr,proctor/api.Expr]", by decide, Tryz.func296.trans (congrArg some (by kernel_rfl))⟩
 t0:=Tryz.underlying0
 a0:=Tryz.isAgg0
 z0:=Tryz.sizeOf0
 v0:=Tryz.zeroValue0
 t3:=Tryz.underlying3
 a3:=Tryz.isAgg3
 z3:=Tryz.sizeOf3
 v3:=Tryz.zeroValue3
 t4:=Tryz.underlying4
 a4:=Tryz.isAgg4
 z4:=Tryz.sizeOf4
 v4:=Tryz.zeroValue4
 t9:=Tryz.underlying9
 a9:=Tryz.isAgg9
 z9:=Tryz.sizeOf9
 v9:=Tryz.zeroValue9
 t20:=Tryz.underlying20
 a20:=Tryz.isAgg20
 z20:=Tryz.sizeOf20
 v20:=Tryz.zeroValue20
 t22:=Tryz.underlying40
 a22:=Tryz.isAgg40
 z22:=Tryz.sizeOf40
 v22:=Tryz.zeroValue40
def D9e:Ren:=⟨fun|4=>298|n=>n,fun|22=>52|25=>3|9=>9|20=>20|0=>0|3=>3|4=>4|n=>n,fun|n=>n⟩
theorem C5h:Lays8.n4 Tryz.prog D9e where
 mixed:=by kernel_rfl
 f4 := ⟨ "slices.Grow[[]int,int]", by decide, Tryz.func298.trans (congrArg some (by kernel_rfl))⟩
 t0:=Tryz.underlying0
 a0:=Tryz.isAgg0
 z0:=Tryz.sizeOf0
 v0:=Tryz.zeroValue0
 t3:=Tryz.underlying3
 a3:=Tryz.isAgg3
 z3:=Tryz.sizeOf3
 v3:=Tryz.zeroValue3
 t4:=Tryz.underlying4
 a4:=Tryz.isAgg4
 z4:=Tryz.sizeOf4
 v4:=Tryz.zeroValue4
 t9:=Tryz.underlying9
 a9:=Tryz.isAgg9
 z9:=Tryz.sizeOf9
 v9:=Tryz.zeroValue9
 t20:=Tryz.underlying20
 a20:=Tryz.isAgg20
 z20:=Tryz.sizeOf20
 v20:=Tryz.zeroValue20
 t22:=Tryz.underlying52
 a22:=Tryz.isAgg52
 z22:=Tryz.sizeOf52
 v22:=Tryz.zeroValue52
theorem C0o {f:FuncId} {e:TypeId} {k n:Nat} {s:Sto} {ρ:Ren} (L:Lays8.n4 Tryz.prog ρ) (hf:ρ.f 4=f) (he:ρ.t 25=e) {i0:TypeInfo} {z:Value} (hi:Tryz.prog.info? e=some i0) (hz:i0.zero=some z) (hs:i0.size=k) (hzk:z.cells.size=k) (hk:0 < k) (hb:i0.bytes≤1000) (hn:n≤10000000) :
  A0 Tryz.prog Γ f [.slice 1 [],.int .i64 (n:Int)] s fun v s'=>∃ t,v=.slice t []∧Own s s' true t e k:=by
 subst hf he hs
 refine D1z (fun h0 a w=>?_) (fun h0 a w=>?_)
 ·exact Any8.slices_Grow_room L a 0 0 0 w (Nat.le_refl _) (by omega) (by omega) (by omega)
 ·refine ⟨_,_,?_,Any8.slices_Grow_grow L i0 z hi hz hk a 0 0 n [] w (Nat.le_refl _) (by omega) ?_ (by omega) (by simp) (fun _=>rfl) (fun _ _ j v hj=>by simp at hj)⟩
  ·have:=grownCap_ge w (0+n) 0 (ρ.t 25)
   generalize grownCap w (0+n) 0 (ρ.t 25)=g at *
   simp only [Array.size_append,size_zeroCells,hzk,List.size_toArray,List.length_nil]
   rw [show g=n+(g - n) by omega,Nat.add_mul]
   simp
  ·calc (0+n) * i0.bytes≤10000000 * 1000:=Nat.mul_le_mul (by omega) hb
    _≤_:=by decide
theorem D1y {n:Nat} {s:Sto} (hn:n≤10000000):A0 Tryz.prog Γ 296 [.slice 1 [],.int .i64 (n:Int)] s fun v s'=>∃ t,v=.slice t []∧Own s s' true t 61 10 :=
 C0o (k:=10) C5j rfl rfl rfl rfl rfl rfl (by decide) (Nat.le_of_ble_eq_true (by kernel_rfl)) hn
theorem D1w {n:Nat} {s:Sto} (hn:n≤10000000):A0 Tryz.prog Γ 298 [.slice 1 [],.int .i64 (n:Int)] s fun v s'=>∃ t,v=.slice t []∧Own s s' true t 3 1 :=
 C0o (k:=1) C5h rfl rfl rfl rfl rfl rfl (by decide) (Nat.le_of_ble_eq_true (by kernel_rfl)) hn
end Go.Proofs.YticnkpgmmpenlaaGreatDoor
namespace Go.Proofs.YticnkpgmmpenlaaGreatDoor.Pa
open Go Go.Ab Go.RowKit
variable {Γ:Nat→AV}
attribute [local irreducible] A5 Sto.set Sto.grow
theorem _root_.Go.Ab.Own.later {a b c:Sto} {z:Bool} {t:Nat} {e:TypeId} {k:Nat} (h:Own a b z t e k) (hs:Sub b c):Own a c z t e k :=
 ⟨h.sub.trans hs,h.own.imp id fun x=>⟨x.1,hs.lv _ _ _ x.2.1,x.2.2⟩⟩
def slA {α:Type} (A:α→List AV) (l:List α):List AV:=[.slice 0 (l.map A)]
theorem B2i {α:Type} {A:α→List AV} {ls:List (List α)} {i:Nat} (h:i < ls.length):(ls.map (slA A)).getD i []=[.slice 0 ((ls.getD i []).map A)]:=by simp [slA,List.getD,h]
theorem J2 {α:Type} {ls:List (List α)} {i:Nat} (h:i < ls.length):(ls.take (i+1)).flatten=(ls.take i).flatten++ls.getD i []:=by
 rw [List.take_add_one,List.flatten_append];simp [List.getD,h]
theorem A8l {α:Type} (ls:List (List α)) (i:Nat):(ls.take i).flatten.length≤ls.flatten.length:=by
 rw [show ls.flatten=(ls.take i).flatten++(ls.drop i).flatten by rw [← List.flatten_append,List.take_append_drop],List.length_append];omega
theorem A7n {α:Type} (l m:List α):(l++m).isEmpty=(l.isEmpty && m.isEmpty):=by cases l<;>cases m<;>rfl
section
variable {s:Sto}
theorem C43 {tk:Nat} {ls:List (List Ex)} (hn:ls.length≤100) (hz:ls.flatten.length≤1000000) :
  A0 Tryz.prog Γ 275 [.slice tk (ls.map (slA exA))] s fun v s'=>∃ t,v=.slice t (ls.flatten.map exA)∧Own s s' ls.flatten.isEmpty t 61 10:=by
 have hlen:(ls.map (slA exA)).length=ls.length:=List.length_map ..
 refine acs Tryz.func275 ?_
 refine wp ?_
 refine AWp.loopA [3,11] [12,13,14,5,15,16,17,18,19,20,21,22] (fun i:Nat=>[.int .i64 ((ls.take i).flatten.length:Int),.int .i64 (i:Int)]) (fun i s'=>i≤ls.length∧s'=s) (fun i=>ls.length - i) (0) (by kernel_rfl) (eqa) ?_ ?_
 ·exact ⟨Nat.zero_le _,rfl⟩
 ·rintro x i s' ⟨hi,hs'⟩
  subst s'
  show awp _ _ _ _ _ (updL _ _ [.int .i64 ((ls.take i).flatten.length:Int),.int .i64 (i:Int)]) _
  conv=>whnf
  by_cases hlt:i < ls.length
  ·have hat:=B2i (A:=exA) hlt
   have hz:((i:Int)).toNat=i:=rfl
   have hle:=A8l ls (i+1)
   rw [J2 hlt,List.length_append] at hle
   have hw1:IntKind.i64.wrap (((ls.take i).flatten.length:Int)+(((ls.getD i []).map exA).length:Int))=((ls.take (i+1)).flatten.length:Int):=C3 (by rw [J2 hlt,List.length_append,List.length_map];omega) (by omega) (by rw [J2 hlt,List.length_append];omega)
   have hw2:IntKind.i64.wrap ((i:Int)+1)=((i+1:Nat):Int):=C3 (by omega) (by omega) (by omega)
   repeat' ((first|exact pru|(refine brS (fun h=>?_) (fun h=>?_)<;>(try rw [h])<;>(try simp only [bS,↓reduceIte] at h))|(rw [hz])|(rw [hat])|(rw [hw1])|(rw [hw2])|refine gS ?_|refine aA ?_|refine nA ?_|fail)<;>(conv=>whnf))
   exact ⟨i+1,eqa,B9,⟨hlt,rfl⟩,by omega⟩
  ·obtain rfl:i=ls.length:=by omega
   rw [List.take_length]
   refine wp ?_;(refine A0.by (D1y (by omega)) ?_;rintro _ s1 ⟨t0,rfl,ho⟩);refine wp ?_
   refine AWp.loopA [6,27] [28,29,30,8,31,32,33,34] (fun q:Nat × Nat=>[.slice q.2 ((ls.take q.1).flatten.map exA),.int .i64 (q.1:Int)]) (fun q s'=>q.1≤ls.length∧Own s s' (ls.take q.1).flatten.isEmpty q.2 61 10) (fun q=>ls.length - q.1) ((0,t0)) (by kernel_rfl) (eqa) ?_ ?_
   ·exact ⟨Nat.zero_le _,ho⟩
   ·rintro y ⟨i,t⟩ s' ⟨hi,hown⟩
    simp only at hi hown
    show awp _ _ _ _ _ (updL _ _ [.slice t ((ls.take i).flatten.map exA),.int .i64 (i:Int)]) _
    conv=>whnf
    by_cases hlt:i < ls.length
    ·have hat:=B2i (A:=exA) hlt
     have hz:((i:Int)).toNat=i:=rfl
     have hle:=A8l ls (i+1)
     rw [J2 hlt,List.length_append] at hle
     have hw2:IntKind.i64.wrap ((i:Int)+1)=((i+1:Nat):Int):=C3 (by omega) (by omega) (by omega)
     repeat' ((first|exact pru|(refine brS (fun h=>?_) (fun h=>?_)<;>(try rw [h])<;>(try simp only [bS,↓reduceIte] at h))|(rw [hz])|(rw [hat])|refine gS ?_|refine aA ?_|refine nA ?_|fail)<;>(conv=>whnf))
     refine ⟨hown.may,fun c hc=>by obtain ⟨z,_,rfl⟩:=List.mem_map.1 hc;rfl,fun c hc=>by obtain ⟨z,_,rfl⟩:=List.mem_map.1 hc;exact ⟨rfl,rfl⟩,Nat.le_trans (Nat.mul_le_mul_right _ (show _≤1000000 from by simp only [List.length_map];omega)) (Nat.le_of_ble_eq_true (by kernel_rfl)),?_⟩
     intro t2 k1 k2
     have k3:=hown.grow k1 k2
     refine wp ?_;(rw [hw2]);refine wp ?_
     refine ⟨(i+1,t2),?_,B9,⟨hlt,?_⟩,by simp only;omega⟩
     ·dsimp only
      exact B5 (congrArg (AV.slice t2) (show (ls.take i).flatten.map exA++(ls.getD i []).map exA=_ by rw [J2 hlt,List.map_append])) (B5 rfl rfl)
     ·dsimp only
      rw [J2 hlt,A7n]
      rw [show ((ls.getD i []).map exA).isEmpty=(ls.getD i []).isEmpty by cases ls.getD i []<;>rfl] at k3
      exact k3
    ·obtain rfl:i=ls.length:=by omega
     rw [List.take_length] at hown
     rw [List.take_length]
     refine wp ?_
     exact ⟨_,Sub.refl _,t,rfl,hown⟩
def inA (x:Int):List AV:=[.int .i64 x]
theorem C41 {tk:Nat} {ls:List (List Int)} (hn:ls.length≤100) (hz:ls.flatten.length≤1000000) :
  A0 Tryz.prog Γ 277 [.slice tk (ls.map (slA inA))] s fun v s'=>∃ t,v=.slice t (ls.flatten.map inA)∧Own s s' ls.flatten.isEmpty t 3 1:=by
 have hlen:(ls.map (slA inA)).length=ls.length:=List.length_map ..
 refine acs Tryz.func277 ?_
 refine wp ?_
 refine AWp.loopA [3,11] [12,13,14,5,15,16,17,18,19,20,21,22] (fun i:Nat=>[.int .i64 ((ls.take i).flatten.length:Int),.int .i64 (i:Int)]) (fun i s'=>i≤ls.length∧s'=s) (fun i=>ls.length - i) (0) (by kernel_rfl) (eqa) ?_ ?_
 ·exact ⟨Nat.zero_le _,rfl⟩
 ·rintro x i s' ⟨hi,hs'⟩
  subst s'
  show awp _ _ _ _ _ (updL _ _ [.int .i64 ((ls.take i).flatten.length:Int),.int .i64 (i:Int)]) _
  conv=>whnf
  by_cases hlt:i < ls.length
  ·have hat:=B2i (A:=inA) hlt
   have hz:((i:Int)).toNat=i:=rfl
   have hle:=A8l ls (i+1)
   rw [J2 hlt,List.length_append] at hle
   have hw1:IntKind.i64.wrap (((ls.take i).flatten.length:Int)+(((ls.getD i []).map inA).length:Int))=((ls.take (i+1)).flatten.length:Int):=C3 (by rw [J2 hlt,List.length_append,List.length_map];omega) (by omega) (by rw [J2 hlt,List.length_append];omega)
   have hw2:IntKind.i64.wrap ((i:Int)+1)=((i+1:Nat):Int):=C3 (by omega) (by omega) (by omega)
   repeat' ((first|exact pru|(refine brS (fun h=>?_) (fun h=>?_)<;>(try rw [h])<;>(try simp only [bS,↓reduceIte] at h))|(rw [hz])|(rw [hat])|(rw [hw1])|(rw [hw2])|refine gS ?_|refine aA ?_|refine nA ?_|fail)<;>(conv=>whnf))
   exact ⟨i+1,eqa,B9,⟨hlt,rfl⟩,by omega⟩
  ·obtain rfl:i=ls.length:=by omega
   rw [List.take_length]
   refine wp ?_;(refine A0.by (D1w (by omega)) ?_;rintro _ s1 ⟨t0,rfl,ho⟩);refine wp ?_
   refine AWp.loopA [6,27] [28,29,30,8,31,32,33,34] (fun q:Nat × Nat=>[.slice q.2 ((ls.take q.1).flatten.map inA),.int .i64 (q.1:Int)]) (fun q s'=>q.1≤ls.length∧Own s s' (ls.take q.1).flatten.isEmpty q.2 3 1) (fun q=>ls.length - q.1) ((0,t0)) (by kernel_rfl) (eqa) ?_ ?_
   ·exact ⟨Nat.zero_le _,ho⟩
   ·rintro y ⟨i,t⟩ s' ⟨hi,hown⟩
    simp only at hi hown
    show awp _ _ _ _ _ (updL _ _ [.slice t ((ls.take i).flatten.map inA),.int .i64 (i:Int)]) _
    conv=>whnf
    by_cases hlt:i < ls.length
    ·have hat:=B2i (A:=inA) hlt
     have hz:((i:Int)).toNat=i:=rfl
     have hle:=A8l ls (i+1)
     rw [J2 hlt,List.length_append] at hle
     have hw2:IntKind.i64.wrap ((i:Int)+1)=((i+1:Nat):Int):=C3 (by omega) (by omega) (by omega)
     repeat' ((first|exact pru|(refine brS (fun h=>?_) (fun h=>?_)<;>(try rw [h])<;>(try simp only [bS,↓reduceIte] at h))|(rw [hz])|(rw [hat])|refine gS ?_|refine aA ?_|refine nA ?_|fail)<;>(conv=>whnf))
     refine ⟨hown.may,fun c hc=>by obtain ⟨z,_,rfl⟩:=List.mem_map.1 hc;rfl,fun c hc=>by obtain ⟨z,_,rfl⟩:=List.mem_map.1 hc;exact ⟨rfl,rfl⟩,Nat.le_trans (Nat.mul_le_mul_right _ (show _≤1000000 from by simp only [List.length_map];omega)) (Nat.le_of_ble_eq_true (by kernel_rfl)),?_⟩
     intro t2 k1 k2
     have k3:=hown.grow k1 k2
     refine wp ?_;(rw [hw2]);refine wp ?_
     refine ⟨(i+1,t2),?_,B9,⟨hlt,?_⟩,by simp only;omega⟩
     ·dsimp only
      exact B5 (congrArg (AV.slice t2) (show (ls.take i).flatten.map inA++(ls.getD i []).map inA=_ by rw [J2 hlt,List.map_append])) (B5 rfl rfl)
     ·dsimp only
      rw [J2 hlt,A7n]
      rw [show ((ls.getD i []).map inA).isEmpty=(ls.getD i []).isEmpty by cases ls.getD i []<;>rfl] at k3
      exact k3
    ·obtain rfl:i=ls.length:=by omega
     rw [List.take_length] at hown
     rw [List.take_length]
     refine wp ?_
     exact ⟨_,Sub.refl _,t,rfl,hown⟩
end
end Go.Proofs.YticnkpgmmpenlaaGreatDoor.Pa
namespace Go.Proofs.YticnkpgmmpenlaaGreatDoor.Pa
open Go Go.Ab Go.RowKit Go.Proofs.YticnkpgmmpenlaaGreatDoor.Lx
variable {Γ:Nat→AV}
theorem C9x {a b c:Sto} {z z2:Bool} {t t2:Nat} {e e2:TypeId} {k k2:Nat} (h:Own a b z t e k) (h2:Own b c z2 t2 e2 k2):t=t2→t=1:=fun ht=>by
 rcases h.own with ⟨h1,_⟩|⟨h1,h3,_⟩
 ·exact h1
 ·rcases h2.own with ⟨h4,_⟩|⟨_,_,h5⟩
  ·exact ht.trans h4
  ·subst ht;exact absurd h3 (h5 _ _)
theorem D5m (l:List Ex):∀ c ∈ J9 l,c.length=10:=fun c hc=>by obtain ⟨z,_,rfl⟩:=List.mem_map.1 hc;rfl
theorem B5f (l:List Int):∀ c ∈ G7 .i64 l,c.length=1:=fun c hc=>by obtain ⟨z,_,rfl⟩:=List.mem_map.1 hc;rfl
theorem D70 {α:Type} {l:List α} {n a:Nat} (h:l.length=n) (k:a≤n):a≤l.length:=h ▸ k
attribute [local irreducible] A5 Sto.set Sto.grow
theorem D6r (L:List Tok) (hL:L.length≤90000):D6y Γ L:=by
 intro s0 s bp bl st i j hP hS hij hjl
 obtain ⟨t1,t2,hb,w1,w2,w3⟩:=hP.pr
 have hso:=hS.ho
 have hsa:=hS.ha
 have hd:=hS.hd
 have hol:=X3 st.o
 have hdl:=M8 .i64 st.d
 have hA:List.drop ((i:Int)).toNat (List.take ((j:Int)).toNat (J9 st.o))=J9 ((st.o.take j).drop i):=by simp [J9,List.map_take,List.map_drop]
 have hB:List.drop ((j:Int)).toNat (List.take (J9 st.o).length (J9 st.o))=J9 (st.o.drop j):=by rw [Int.toNat_natCast,W0];simp [J9,List.map_drop]
 have hC:List.drop 0 (List.take ((i:Int)).toNat (J9 st.o))=J9 (st.o.take i):=by simp [J9,List.map_take]
 have hD:List.drop 0 (List.take ((i:Int)).toNat (G7 .i64 st.d))=G7 .i64 (st.d.take i):=by simp [G7,List.map_take]
 have hE:List.drop ((j:Int)).toNat (List.take (G7 .i64 st.d).length (G7 .i64 st.d))=G7 .i64 (st.d.drop j):=by rw [Int.toNat_natCast,W0];simp [G7,List.map_drop]
 have hF:List.drop ((i:Int)).toNat (List.take ((j:Int)).toNat (G7 .i64 st.d))=G7 .i64 ((st.d.take j).drop i):=by simp [G7,List.map_take,List.map_drop]
 have hz1:((i:Int)).toNat=i:=rfl
 have hz2:((j:Int)).toNat=j:=rfl
 have hl1:(J9 ((st.o.take j).drop i)).length=j - i:=by rw [X3,List.length_drop,List.length_take];omega
 have hl2:(J9 (st.o.drop j)).length=st.o.length - j:=by rw [X3,List.length_drop]
 have hw1:IntKind.i64.wrap (0 - ((j - i:Nat):Int)) = -((j - i:Nat):Int):=C3 (by omega) (by omega) (by omega)
 have hs1:=fun tk=>A0.pure' (s:=s) (K:=fun v s'=>v=.slice 0 (J9 ((st.o.drop j).map (G8 (-((j - i:Nat):Int)))))∧s'=s) (fun v hv=>⟨hv,rfl⟩) (C36 (Γ:=Γ) (tk:=tk) (l:=st.o.drop j) (by_:=-((j - i:Nat):Int)) (by rw [Ne,← List.length_eq_zero_iff,List.length_drop];omega) (by rw [List.length_drop];omega))
 have hs2:=fun tk=>A0.pure' (s:=s) (K:=fun v s'=>v=.slice 0 (J9 (((st.o.take j).drop i).map (G8 ((st.o.length - j:Nat):Int))))∧s'=s) (fun v hv=>⟨hv,rfl⟩) (C36 (Γ:=Γ) (tk:=tk) (l:=(st.o.take j).drop i) (by_:=((st.o.length - j:Nat):Int)) (by rw [Ne,← List.length_eq_zero_iff,List.length_drop,List.length_take];omega) (by rw [List.length_drop,List.length_take];omega))
 have hc1:=C43 (Γ:=Γ) (s:=s) (tk:=1) (ls:=[st.o.take i,(st.o.drop j).map (G8 (-((j - i:Nat):Int))),((st.o.take j).drop i).map (G8 ((st.o.length - j:Nat):Int))]) (by simp) (by simp only [List.flatten_cons,List.flatten_nil,List.length_append,List.length_map,List.length_take,List.length_drop,List.length_nil];omega)
 refine acs Tryz.func259 ?_
 conv=>whnf
 repeat' ((first|exact pru|(refine brS (fun h=>?_) (fun h=>?_)<;>(try rw [h])<;>(try simp only [bS,↓reduceIte] at h))|(refine A4 hb ?_)|(rw [hA])|(rw [hB])|(rw [hC])|(refine ⟨D5m _,?_⟩)|(refine ⟨D70 hol (by omega),?_⟩)|(refine AWp.anyC (id:=1) [32,36] [38] (by kernel_rfl) (by kernel_rfl) (by kernel_rfl) (by kernel_rfl) ?_)|(refine ⟨trivial,?_⟩)|(rw [hl1])|(rw [hl2])|(rw [hw1])|(refine A83.mk _ (hs1 _) ?_)|(refine A83.mk _ (hs2 _) ?_)|(refine A0.by hc1 ?_;rintro _ s1 ⟨t3,rfl,ho1⟩)|refine gS ?_|refine aA ?_|refine nA ?_|fail)<;>(conv=>whnf))
 have hb1:=ho1.sub.bx _ _ hb
 have hl3:=ho1.sub.bx _ _ hP.pl
 obtain ⟨o',ho'⟩:∃ o',o'=[st.o.take i,(st.o.drop j).map (G8 (-((j - i:Nat):Int))),((st.o.take j).drop i).map (G8 ((st.o.length - j:Nat):Int))].flatten:=⟨_,rfl⟩
 rw [← ho'] at ho1
 rw [← ho']
 have hc2:=C41 (Γ:=Γ) (s:=s1.set bp 123 [.ptr (some ⟨bl,0,none⟩),.slice t3 (o'.map exA),.slice t2 (G7 .i64 st.d),.int .i64 st.k]) (tk:=1) (ls:=[st.d.take i,st.d.drop j,(st.d.take j).drop i]) (by simp) (by simp only [List.flatten_cons,List.flatten_nil,List.length_append,List.length_map,List.length_take,List.length_drop,List.length_nil];omega)
 obtain ⟨d',hd'⟩:∃ d',d'=[st.d.take i,st.d.drop j,(st.d.take j).drop i].flatten:=⟨_,rfl⟩
 rw [← hd'] at hc2
 refine A4 hb1 ?_
 conv=>whnf
 refine ⟨rfl,rfl,Nat.le_of_ble_eq_true rfl,?_⟩
 conv=>whnf
 refine AWp.anyC (id:=2) [] [62] (by kernel_rfl) (by kernel_rfl) (by kernel_rfl) (by kernel_rfl) ?_
 conv=>whnf
 repeat' ((first|exact pru|(refine brS (fun h=>?_) (fun h=>?_)<;>(try rw [h])<;>(try simp only [bS,↓reduceIte] at h))|(refine ⟨trivial,?_⟩)|(refine A4 A1 ?_)|(rw [hD])|refine gS ?_|refine aA ?_|refine nA ?_|fail)<;>(conv=>whnf))
 refine ⟨B5f _,?_⟩
 conv=>whnf
 repeat' ((first|exact pru|(refine brS (fun h=>?_) (fun h=>?_)<;>(try rw [h])<;>(try simp only [bS,↓reduceIte] at h))|(refine ⟨trivial,?_⟩)|(refine A4 A1 ?_)|refine gS ?_|refine aA ?_|refine nA ?_|fail)<;>(conv=>whnf))
 rw [hE]
 refine ⟨B5f _,?_⟩
 conv=>whnf
 repeat' ((first|exact pru|(refine brS (fun h=>?_) (fun h=>?_)<;>(try rw [h])<;>(try simp only [bS,↓reduceIte] at h))|(refine ⟨trivial,?_⟩)|(refine A4 A1 ?_)|refine gS ?_|refine aA ?_|refine nA ?_|fail)<;>(conv=>whnf))
 rw [hF]
 refine ⟨B5f _,?_⟩
 conv=>whnf
 repeat' ((first|exact pru|(refine brS (fun h=>?_) (fun h=>?_)<;>(try rw [h])<;>(try simp only [bS,↓reduceIte] at h))|(refine ⟨trivial,?_⟩)|refine gS ?_|refine aA ?_|refine nA ?_|fail)<;>(conv=>whnf))
 refine A0.by hc2 ?_
 rintro _ s2 ⟨t4,rfl,ho2⟩
 conv=>whnf
 have hb2:=ho2.sub.bx _ _ A1
 have hl4:=ho2.sub.bx _ _ ((A2 hP.ne.symm).trans hl3)
 repeat' ((first|exact pru|(refine brS (fun h=>?_) (fun h=>?_)<;>(try rw [h])<;>(try simp only [bS,↓reduceIte] at h))|(refine A4 hb2 ?_)|(refine ⟨trivial,?_⟩)|refine gS ?_|refine aA ?_|refine nA ?_|fail)<;>(conv=>whnf))
 have w4:=((ho1.of_sub hP.sub).set (T:=123) (cs:=[.ptr (some ⟨bl,0,none⟩),.slice t3 (o'.map exA),.slice t2 (G7 .i64 st.d),.int .i64 st.k]) hP.np)
 have w5:=w4.later ho2.sub
 have w6:=ho2.of_sub w4.sub
 have ho3:(R5 st i j).o=o':=by rw [ho'];simp [R5,List.append_assoc]
 have hd3:(R5 st i j).d=d':=by rw [hd'];simp [R5,List.append_assoc]
 rw [ho3,hd3]
 exact ⟨_,Sub.refl _,rfl,hP.np,hP.nl,hP.ne,⟨t3,t4,A1,w5.set hP.np,w6.set hP.np,C9x w4 ho2⟩,(A2 hP.ne.symm).trans hl4⟩
theorem A30 {L:List Tok} {n:FuncId} {lv:Nat}:Lev Γ L n 0 lv:=fun _ _ _ _ _ _ _ hE=>absurd hE (Nat.not_lt_zero _)
theorem C00 (hR:Nu.Z8 Γ) {L:List Tok} (hL:L.length≤90000) (hT:∀ i,(B0 L i).2.1.length≤5000):∀ f,Lev Γ L 70 f 0∧Lev Γ L 114 f 1∧Lev Γ L 194 f 2∧Lev Γ L 236 f 3∧Lev Γ L 258 f 4∧Lev Γ L 274 f 5∧Lev Γ L 295 f 6
 | 0=>⟨A30,A30,A30,A30,A30,A30,A30⟩
 | f+1=>by
  obtain ⟨h0,h1,h2,h3,h4,h5,h6⟩:=C00 hR hL hT f
  exact ⟨C0j hL h1,D7d hL h2,D75 hL h3 h2,D44 hL (D6r L hL) h4,D8n hL h5,D6c hL h6,D4k hR hL hT h0 h6⟩
def A0b (L:List Tok):Nat:=7 * L.length+7
theorem N5 (L:List Tok) (st:St):N2 L 0 (A0b L) st:=by unfold N2 A0b;omega
end Go.Proofs.YticnkpgmmpenlaaGreatDoor.Pa
namespace Go.Proofs.YticnkpgmmpenlaaGreatDoor.AsP
open Go Go.RowKit Go.Extern.Stop Go.Stop Go.Extern
theorem B2l (t:Addr) (w:World):(ReflectliteValue.unpack (.iface 160 (.pointer (some t)))).run Tryz.prog w
  = .ok (.agg #[.pointer (some ⟨13,160,none⟩),.pointer (some ⟨w.heap.size,0,none⟩),.int .u64 150]) (w.alloc (.cells #[.pointer (some t)] 160)):=by kernel_rfl
theorem C6e (a : Addr) (w : World) : (ReflectliteValue.methodAny (ReflectliteValue.valueError "reflectlite.Value.Type" 0) (fun t _ _ _ => ReflectliteType.toType t) #[(.agg #[.pointer (some ⟨13, 160, none⟩), .pointer (some a), .int .u64 150])]).run Tryz.prog w
  = .ok (.iface 271 (.agg #[.pointer (some ⟨13,160,none⟩)])) w:=by kernel_rfl
theorem A9p (h : Value) (w : World) : (Go.method 497 271 (.agg #[h]) "Kind").run Tryz.prog w = .ok (338, h) w := by kernel_rfl
theorem C5p (w:World):((ReflectliteType.abiMethod fun t=>(fun a:Nat=>Value.int IntKind.u8 (a:Int)) <$> Rtype.kind t) #[.pointer (some ⟨13,160,none⟩)]).run Tryz.prog w=.ok (.int .u8 22) w:=by kernel_rfl
theorem D17 (w:World):((ReflectliteType.abiMethod fun t=>(fun a:Nat=>Value.int IntKind.u8 (a:Int)) <$> Rtype.kind t) #[.pointer (some ⟨13,158,none⟩)]).run Tryz.prog w=.ok (.int .u8 22) w:=by kernel_rfl
theorem rlm (z:Sem Value) (f:TypeId→Addr→Nat→Nat→Sem Value) (v:Value) :
  ReflectliteValue.method z f #[v]=(do match ← ReflectliteValue.parts v with|none=>z|some (t,a,fl)=>f t a fl (fl % 32)):=rfl
theorem B0z (a:Addr) (w:World):(ReflectliteValue.parts (.agg #[.pointer (some ⟨13,160,none⟩),.pointer (some a),.int .u64 150])).run Tryz.prog w=.ok (some (160,a,150)) w:=by kernel_rfl
theorem C0w (a p:Addr) (W:World) (ha:W.cell? a=some (.pointer (some p))) :
  (ReflectliteValue.method (ReflectliteValue.valueError "reflectlite.Value.IsNil" 0) ReflectliteValue.isNil #[(.agg #[.pointer (some ⟨13, 160, none⟩), .pointer (some a), .int .u64 150])]).run Tryz.prog W = .ok (.bool false) W := by
 rw [rlm]
 simp only [Sem.run_bind,B0z,Result.andThen]
 simp [ReflectliteValue.isNil,loadVar,isAgg,underlying,Tryz.underlying160,ha,Result.andThen]
theorem A9o (h : Value) (w : World) : (Go.method 497 271 (.agg #[h]) "Elem").run Tryz.prog w = .ok (352, .agg #[h]) w := by kernel_rfl
theorem A13 (h : Value) (w : World) : (Go.method 497 271 (.agg #[h]) "Implements").run Tryz.prog w = .ok (353, .agg #[h]) w := by kernel_rfl
theorem A0p (h : Value) (w : World) : (Go.method 497 271 (.agg #[h]) "AssignableTo").run Tryz.prog w = .ok (350, .agg #[h]) w := by kernel_rfl
theorem C47 (w:World):(ReflectliteType.method ReflectliteType.elem #[.agg #[.pointer (some ⟨13,160,none⟩)]]).run Tryz.prog w=.ok (.iface 271 (.agg #[.pointer (some ⟨13,158,none⟩)])) w:=by kernel_rfl
theorem A7m (w : World) : (ReflectliteType.relation "Implements" ReflectliteType.implements_ #[.agg #[.pointer (some ⟨13, 158, none⟩)], (.iface 271 (.agg #[.pointer (some ⟨13, 98, none⟩)]))]).run Tryz.prog w = .ok (.bool true) w := by kernel_rfl
theorem C1p (v:Value) (w:World):(ReflectliteType.typeOf #[.iface 158 v]).run Tryz.prog w=.ok (.iface 271 (.agg #[.pointer (some ⟨13,158,none⟩)])) w:=by kernel_rfl
theorem A7a (w : World) : (ReflectliteType.relation "AssignableTo" ReflectliteType.assignableTo #[.agg #[.pointer (some ⟨13, 158, none⟩)], (.iface 271 (.agg #[.pointer (some ⟨13, 158, none⟩)]))]).run Tryz.prog w = .ok (.bool true) w := by kernel_rfl
theorem B7g (e:Option Addr) (w:World):(ReflectliteValue.unpack (.iface 158 (.pointer e))).run Tryz.prog w
  = .ok (.agg #[.pointer (some ⟨13,158,none⟩),.pointer (some ⟨w.heap.size,0,none⟩),.int .u64 150]) (w.alloc (.cells #[.pointer e] 158)):=by kernel_rfl
theorem B41 (w:World):(Rtype.elem? 160).run Tryz.prog w=.ok (some 158) w:=by kernel_rfl
theorem mkE (p:Addr) (w:World):(ReflectliteValue.mk 158 p ReflectliteValue.flagAddr).run Tryz.prog w=.ok (.agg #[.pointer (some ⟨13,158,none⟩),.pointer (some p),.int .u64 406]) w:=by kernel_rfl
theorem C0h (a p:Addr) (W:World) (ha:W.cell? a=some (.pointer (some p))) :
  (ReflectliteValue.method (ReflectliteValue.valueError "reflectlite.Value.Elem" 0) ReflectliteValue.elem #[(.agg #[.pointer (some ⟨13, 160, none⟩), .pointer (some a), .int .u64 150])]).run Tryz.prog W
   = .ok (.agg #[.pointer (some ⟨13,158,none⟩),.pointer (some p),.int .u64 406]) W:=by
 rw [rlm]
 simp only [Sem.run_bind,B0z,Result.andThen]
 simp [ReflectliteValue.elem,loadVar,isAgg,underlying,Tryz.underlying160,ha,Result.andThen,B41,mkE]
theorem rls (v x:Value):ReflectliteValue.set #[v,x]=(do
  let (some (dst,a,fl),some (src,b,_)):=(← ReflectliteValue.parts v,← ReflectliteValue.parts x)
   | unsupported (.noEntry "extern/(internal/reflectlite.Value).Set.zeroValue")
  if fl / ReflectliteValue.flagAddr % 2 == 0 then unsupported (.noEntry "extern/(internal/reflectlite.Value).Set.unaddressable")
  let val ← loadVar src b
  if ← Rtype.directlyAssignable dst src then storeVar dst a val
  else if ← Rtype.implements dst src then
   if (← Rtype.kind src) == 20 then
    match val with
    | .nilIface => unsupported (.noEntry "extern/reflectlite: a nil value of one interface type handed on as a value of another")
    | _=>storeVar dst a val
   else storeVar dst a (.iface src val)
  else panicString ("reflectlite.Set: value of type " ++ (← Rtype.spelt src) ++ " is not assignable to type " ++ (← Rtype.spelt dst))
  pure (.tuple #[])):=rfl
theorem B51 (a:Addr) (w:World):(ReflectliteValue.parts (.agg #[.pointer (some ⟨13,158,none⟩),.pointer (some a),.int .u64 406])).run Tryz.prog w=.ok (some (158,a,406)) w:=by kernel_rfl
theorem B52 (b:Addr) (w:World):(ReflectliteValue.parts (.agg #[.pointer (some ⟨13,158,none⟩),.pointer (some b),.int .u64 150])).run Tryz.prog w=.ok (some (158,b,150)) w:=by kernel_rfl
theorem C0d (w:World):(Rtype.directlyAssignable 158 158).run Tryz.prog w=.ok true w:=by kernel_rfl
theorem D8h (a b:Addr) (val:Value) (W W':World) (hl:(loadVar 158 b).run Tryz.prog W=.ok val W) (hs:(storeVar 158 a val).run Tryz.prog W=.ok () W') :
  (ReflectliteValue.set #[(.agg #[.pointer (some ⟨13,158,none⟩),.pointer (some a),.int .u64 406]),(.agg #[.pointer (some ⟨13,158,none⟩),.pointer (some b),.int .u64 150])]).run Tryz.prog W=.ok (.tuple #[]) W':=by
 rw [rls]
 simp only [Sem.run_bind,B51,B52,Result.andThen]
 simp [ReflectliteValue.flagAddr,hl,Result.andThen,C0d,hs]
theorem C4u (t:Value) (w:World) :
  Calls Tryz.prog 103 #[.nilIface,t] w fun e w'=>e=.returned (.bool false)∧w'=w:=by
 go_enter Tryz.func103,Tryz.ntmps103
 go_wp2
 go_ret
 exact ⟨rfl,rfl⟩
theorem C4t (e:Option Addr) (t:Addr) (old val:Value) (w W':World) (hg:w.cell? ⟨0,0,none⟩=some (.iface 271 (.agg #[.pointer (some ⟨13,98,none⟩)]))) (ht0:w.cell? t=some old)
  (hl:(loadVar 158 ⟨w.heap.size+1+1+1,0,none⟩).run Tryz.prog ((((w.alloc (.cells #[.pointer (some t)] 160)).alloc (.cells #[.pointer (some ⟨13,160,none⟩),.pointer (some ⟨w.heap.size,0,none⟩),.int .u64 150] 205)).alloc (.cells #[.pointer (some ⟨13,160,none⟩),.pointer (some ⟨w.heap.size,0,none⟩),.int .u64 150] 205)).alloc (.cells #[.pointer e] 158))=.ok val ((((w.alloc (.cells #[.pointer (some t)] 160)).alloc (.cells #[.pointer (some ⟨13,160,none⟩),.pointer (some ⟨w.heap.size,0,none⟩),.int .u64 150] 205)).alloc (.cells #[.pointer (some ⟨13,160,none⟩),.pointer (some ⟨w.heap.size,0,none⟩),.int .u64 150] 205)).alloc (.cells #[.pointer e] 158))) (hs:(storeVar 158 t val).run Tryz.prog ((((w.alloc (.cells #[.pointer (some t)] 160)).alloc (.cells #[.pointer (some ⟨13,160,none⟩),.pointer (some ⟨w.heap.size,0,none⟩),.int .u64 150] 205)).alloc (.cells #[.pointer (some ⟨13,160,none⟩),.pointer (some ⟨w.heap.size,0,none⟩),.int .u64 150] 205)).alloc (.cells #[.pointer e] 158))=.ok () W') :
  Calls Tryz.prog 103 #[.iface 158 (.pointer e),.iface 160 (.pointer (some t))] w fun ev w'=>ev=.returned (.bool true)∧w'=W':=by
 have h6:=@run_callFunc_extern Tryz.prog 157 _ (fun args=>ReflectliteValue.unpack (args.getD 0 (.tuple #[]))) Tryz.func157 (by kernel_rfl) (by kernel_rfl) (by kernel_rfl) (by kernel_rfl)
 have h7 := @run_callFunc_extern Tryz.prog 158 _ (ReflectliteValue.methodAny (ReflectliteValue.valueError "reflectlite.Value.Type" 0) (fun t _ _ _ => ReflectliteType.toType t)) Tryz.func158 (by kernel_rfl) (by kernel_rfl) (by kernel_rfl) (by kernel_rfl)
 have h8 := @run_callFunc_extern Tryz.prog 159 _ (ReflectliteValue.method (ReflectliteValue.valueError "reflectlite.Value.IsNil" 0) ReflectliteValue.isNil) Tryz.func159 (by kernel_rfl) (by kernel_rfl) (by kernel_rfl) (by kernel_rfl)
 have h27:=@run_callFunc_extern Tryz.prog 338 _ (ReflectliteType.abiMethod fun t=>do pure (.int .u8 (← Rtype.kind t))) Tryz.func338 (by kernel_rfl) (by kernel_rfl) (by kernel_rfl) (by kernel_rfl)
 have h37:=@run_callFunc_extern Tryz.prog 352 _ (ReflectliteType.method ReflectliteType.elem) Tryz.func352 (by kernel_rfl) (by kernel_rfl) (by kernel_rfl) (by kernel_rfl)
 have h38 := @run_callFunc_extern Tryz.prog 353 _ (ReflectliteType.relation "Implements" ReflectliteType.implements_) Tryz.func353 (by kernel_rfl) (by kernel_rfl) (by kernel_rfl) (by kernel_rfl)
 have h10:=@run_callFunc_extern Tryz.prog 223 _ ReflectliteType.typeOf Tryz.func223 (by kernel_rfl) (by kernel_rfl) (by kernel_rfl) (by kernel_rfl)
 have h35 := @run_callFunc_extern Tryz.prog 350 _ (ReflectliteType.relation "AssignableTo" ReflectliteType.assignableTo) Tryz.func350 (by kernel_rfl) (by kernel_rfl) (by kernel_rfl) (by kernel_rfl)
 have h11 := @run_callFunc_extern Tryz.prog 224 _ (ReflectliteValue.method (ReflectliteValue.valueError "reflectlite.Value.Elem" 0) ReflectliteValue.elem) Tryz.func224 (by kernel_rfl) (by kernel_rfl) (by kernel_rfl) (by kernel_rfl)
 have h12:=@run_callFunc_extern Tryz.prog 225 _ ReflectliteValue.set Tryz.func225 (by kernel_rfl) (by kernel_rfl) (by kernel_rfl) (by kernel_rfl)
 have tO:=C1p
 have mA:=A0p
 have aE:=A7a
 have vE:=B7g
 have f6:=B2l
 have f7:=C6e
 have mK:=A9p
 have mE:=A9o
 have mI:=A13
 have kP:=C5p
 have kE:=D17
 have eP:=C47
 have iE:=A7m
 have n8:=C0w ⟨w.heap.size,0,none⟩ t ((w.alloc (.cells #[.pointer (some t)] 160)).alloc (.cells #[.pointer (some ⟨13,160,none⟩),.pointer (some ⟨w.heap.size,0,none⟩),.int .u64 150] 205)) (by simp)
 have hlt:0 < w.heap.size:=by
  rcases Nat.lt_or_ge 0 w.heap.size with h|h
  ·exact h
  ·simp [World.cell?,Array.getElem?_eq_none h] at hg
 have hg2:((w.alloc (.cells #[.pointer (some t)] 160)).alloc (.cells #[.pointer (some ⟨13,160,none⟩),.pointer (some ⟨w.heap.size,0,none⟩),.int .u64 150] 205)).cell? ⟨0,0,none⟩=some (.iface 271 (.agg #[.pointer (some ⟨13,98,none⟩)])):=by
  rw [World.cell?_alloc_lt _ _ ⟨0,0,none⟩ (by first|(simp;done)|(simp;omega)),World.cell?_alloc_lt _ _ ⟨0,0,none⟩ hlt];exact hg
 have el:=C0h ⟨w.heap.size,0,none⟩ t (((w.alloc (.cells #[.pointer (some t)] 160)).alloc (.cells #[.pointer (some ⟨13,160,none⟩),.pointer (some ⟨w.heap.size,0,none⟩),.int .u64 150] 205)).alloc (.cells #[.pointer (some ⟨13,160,none⟩),.pointer (some ⟨w.heap.size,0,none⟩),.int .u64 150] 205)) (by rw [World.cell?_alloc_lt _ _ ⟨w.heap.size,0,none⟩ (by simp;omega)];simp)
 have st:=D8h t ⟨w.heap.size+1+1+1,0,none⟩ val ((((w.alloc (.cells #[.pointer (some t)] 160)).alloc (.cells #[.pointer (some ⟨13,160,none⟩),.pointer (some ⟨w.heap.size,0,none⟩),.int .u64 150] 205)).alloc (.cells #[.pointer (some ⟨13,160,none⟩),.pointer (some ⟨w.heap.size,0,none⟩),.int .u64 150] 205)).alloc (.cells #[.pointer e] 158)) W' hl hs
 clear hl hs
 go_enter Tryz.func103,Tryz.ntmps103
 go_wp2
 refine wp_loop_rounds 1 ?_
 rw [rounds_succ]
 go_wp2
 go_ret
 exact ⟨rfl,rfl⟩
open Go.Ab
variable {Γ:Nat→AV}
def A4b (Γ:Nat→AV):Prop:=Γ 0=.cptr [.iface 271 (.agg [.ptr (some ⟨13,98,none⟩)])]
theorem B1z {G:Gh} {s:Sto} {w:World} (hE:A4b Γ) (hm:Mod Γ G s w):w.cell? ⟨0,0,none⟩=some (.iface 271 (.agg #[.pointer (some ⟨13,98,none⟩)])):=by
 have h:=(hm.glob 0).r
 rw [hE] at h
 obtain ⟨b,o,hp,hc⟩:=N3.1 h
 simp only [Value.pointer.injEq,Option.some.injEq,Addr.mk.injEq] at hp
 obtain ⟨rfl,rfl,_⟩:=hp
 unfold C2 at hc
 obtain ⟨_,⟨u,hu,hr⟩,_⟩:=hc
 obtain ⟨v,rfl,hv⟩:=Q2.1 hr
 obtain ⟨us,rfl,hus⟩:=A41.1 hv
 obtain ⟨u1,us1,h1,h2,h3⟩:=A6.1 hus
 rw [P4] at h2
 rw [A9] at h3
 subst h2 h3
 obtain rfl:us = #[.pointer (some ⟨13,98,none⟩)]:=by cases us;simp_all
 exact hu
theorem A3u (x:AV):A5 Tryz.prog Γ 103 [.nilIface,x] fun v=>v=.bool false:=by
 refine fun s=>⟨fun G w vs hm hr=>?_⟩
 obtain ⟨u,us,rfl,hu,hus⟩:=A6.1 hr
 obtain ⟨u1,us1,rfl,hu1,hus1⟩:=A6.1 hus
 rw [A9] at hus1;subst hus1
 rw [R7] at hu;subst hu
 refine (C4u u1 w).mono ?_
 rintro e w' ⟨rfl,rfl⟩
 exact ⟨_,_,s,G,rfl,⟨rfl,rfl⟩,G9.2 rfl,hm,Ext.refl _ _⟩
theorem A91 (hE:A4b Γ) (cs:List AV) {s:Sto} {b:Nat} {T0:TypeId} {old:AV} (hb:s.bx b=some (T0,[old])) :
  A0 Tryz.prog Γ 103 [.iface 158 (.cptr cs),.iface 160 (.ptr (some ⟨b,0,none⟩))] s fun v s'=>v=.bool true∧s'=s.set b T0 [.cptr cs]:=by
 refine ⟨fun G w vs hm hr=>?_⟩
 obtain ⟨u,us,rfl,hu,hus⟩:=A6.1 hr
 obtain ⟨u1,us1,rfl,hu1,hus1⟩:=A6.1 hus
 rw [A9] at hus1;subst hus1
 obtain ⟨e,rfl,he⟩:=Q2.1 hu
 obtain ⟨p,rfl,hp⟩:=Q2.1 hu1
 rw [P4] at hp;subst hp
 obtain ⟨pb,po,rfl,hpc⟩:=N3.1 he
 have hg:=B1z hE hm
 obtain ⟨ws,hws,hcell⟩:=A45 hm hb
 obtain ⟨w0,ws',rfl,_,_⟩:=A6.1 hws
 have ht0:w.cell? ⟨b,0,none⟩=some w0:=by rw [hcell];rfl
 obtain ⟨m1,e1⟩:=hm.row_new (.cells #[.pointer (some ⟨b,0,none⟩)] 160)
 obtain ⟨m2,e2⟩:=m1.row_new (.cells #[.pointer (some ⟨13,160,none⟩),.pointer (some ⟨w.heap.size,0,none⟩),.int .u64 150] 205)
 obtain ⟨m3,e3⟩:=m2.row_new (.cells #[.pointer (some ⟨13,160,none⟩),.pointer (some ⟨w.heap.size,0,none⟩),.int .u64 150] 205)
 obtain ⟨m4,e4⟩:=m3.row_new (.cells #[.pointer (some ⟨pb,po,none⟩)] 158)
 have X:=((e1.trans e2).trans e3).trans e4
 have hl:(loadVar 158 ⟨w.heap.size+1+1+1,0,none⟩).run Tryz.prog (((( w.alloc (.cells #[.pointer (some ⟨b,0,none⟩)] 160)).alloc (.cells #[.pointer (some ⟨13,160,none⟩),.pointer (some ⟨w.heap.size,0,none⟩),.int .u64 150] 205)).alloc (.cells #[.pointer (some ⟨13,160,none⟩),.pointer (some ⟨w.heap.size,0,none⟩),.int .u64 150] 205)).alloc (.cells #[.pointer (some ⟨pb,po,none⟩)] 158))=.ok (.pointer (some ⟨pb,po,none⟩)) (((( w.alloc (.cells #[.pointer (some ⟨b,0,none⟩)] 160)).alloc (.cells #[.pointer (some ⟨13,160,none⟩),.pointer (some ⟨w.heap.size,0,none⟩),.int .u64 150] 205)).alloc (.cells #[.pointer (some ⟨13,160,none⟩),.pointer (some ⟨w.heap.size,0,none⟩),.int .u64 150] 205)).alloc (.cells #[.pointer (some ⟨pb,po,none⟩)] 158)):=by
  have hc:(((( w.alloc (.cells #[.pointer (some ⟨b,0,none⟩)] 160)).alloc (.cells #[.pointer (some ⟨13,160,none⟩),.pointer (some ⟨w.heap.size,0,none⟩),.int .u64 150] 205)).alloc (.cells #[.pointer (some ⟨13,160,none⟩),.pointer (some ⟨w.heap.size,0,none⟩),.int .u64 150] 205)).alloc (.cells #[.pointer (some ⟨pb,po,none⟩)] 158)).cell? ⟨w.heap.size+1+1+1,0,none⟩=some (.pointer (some ⟨pb,po,none⟩)):=by
   rw [World.cell?_alloc_at _ _ _ _ (by simp)];rfl
  simp [loadVar,isAgg,underlying,Tryz.underlying158,hc,Result.andThen]
 obtain ⟨W',hs,hM',X'⟩:=B6z (P:=Tryz.prog) (T:=158) m4 hb (o:=0) (n:=1) (us:=[.cptr cs]) (v:=(.pointer (some ⟨pb,po,none⟩))) (by kernel_rfl) (A6.2 ⟨_,_,rfl,R.mono X _ _ he,A9.2 rfl⟩) rfl rfl (by simp)
 refine (C4t (some ⟨pb,po,none⟩) ⟨b,0,none⟩ w0 (.pointer (some ⟨pb,po,none⟩)) w W' hg ht0 hl hs).mono ?_
 rintro ev w' ⟨rfl,rfl⟩
 exact ⟨_,_,_,_,rfl,⟨rfl,rfl⟩,G9.2 rfl,hM',X.trans X'⟩
end Go.Proofs.YticnkpgmmpenlaaGreatDoor.AsP
namespace Go.Proofs.YticnkpgmmpenlaaGreatDoor.IsP
open Go Go.RowKit Go.Extern.Stop Go.Stop Go.Extern
section
variable {P:Program} (w:World)
theorem A6z (d:Nat) {ti tn:TypeId} {ms:Array (String × TypeId)} {i:TypeInfo} {k:IntKind} (a b:Int)
  (hi:P.underlying ti=some (.interface ms)) (hn:P.underlying tn=some (.int k)) (hinfo:P.info? tn=some i) (hcomp:i.comparable=true) :
  (Op.equalIn (d+2) ti (.iface tn (.int k a)) (.iface tn (.int k b))).run P w=.ok (a == b) w:=by
 simp [Op.equalIn,run_underlying hi,run_underlying hn,typeInfo,hinfo,hcomp]
theorem B1d {ti tn:TypeId} {ms:Array (String × TypeId)} {i:TypeInfo} {k:IntKind} (a b:Int)
  (hi:P.underlying ti=some (.interface ms)) (hn:P.underlying tn=some (.int k)) (hinfo:P.info? tn=some i) (hcomp:i.comparable=true) :
  (binOp .eql ti (.iface tn (.int k a)) (.iface tn (.int k b))).run P w=.ok (.bool (a == b)) w:=by
 simp only [binOp]
 simp [Op.equal,Op.maxDepth,A6z w 9998 a b hi hn hinfo hcomp]
end
theorem B5i (v:Value) (w:World):(Extern.ReflectliteType.typeOf #[.iface 44 v]).run Tryz.prog w=.ok (.iface 271 (.agg #[.pointer (some ⟨13,44,none⟩)])) w:=by kernel_rfl
theorem A6a (w : World) : ((Extern.ReflectliteType.method fun t => do Extern.Rtype.noPackHeld "Comparable" t; (fun a => Value.bool a.comparable) <$> typeInfo t) #[.agg #[.pointer (some ⟨13, 44, none⟩)]]).run Tryz.prog w = .ok (.bool true) w := by kernel_rfl
theorem A0o (v : Value) (w : World) : (Go.method 497 271 v "Comparable").run Tryz.prog w = .ok (351, v) w := by kernel_rfl
theorem C5m:(Tryz.prog.info? 44).map (·.comparable)=some true:=by kernel_rfl
theorem D2n (v:Value) (xT:TypeId) (w:World):(Instr.typeAssert (.iface 158 v) xT 309 true).run Tryz.prog w=.ok (.tuple #[.nilIface,.bool false]) w:=run_typeAssert_lacksB Tryz.underlying309 (by kernel_rfl) (by kernel_rfl) v xT w
theorem D9l (v:Value) (xT:TypeId) (w:World):(Instr.typeAssert (.iface 44 v) xT 309 true).run Tryz.prog w=.ok (.tuple #[.nilIface,.bool false]) w:=run_typeAssert_lacksB Tryz.underlying309 (by kernel_rfl) (by kernel_rfl) v xT w
theorem D9n (v:Value) (xT:TypeId) (w:World):(Instr.typeAssert (.iface 44 v) xT 279 true).run Tryz.prog w=.ok (.tuple #[.nilIface,.bool false]) w:=run_typeAssert_lacksB Tryz.underlying279 (by kernel_rfl) (by kernel_rfl) v xT w
theorem D9m (v:Value) (xT:TypeId) (w:World):(Instr.typeAssert (.iface 44 v) xT 280 true).run Tryz.prog w=.ok (.tuple #[.nilIface,.bool false]) w:=run_typeAssert_lacksB Tryz.underlying280 (by kernel_rfl) (by kernel_rfl) v xT w
theorem A9j (v:Value) (xT:TypeId) (w:World):(Instr.typeAssert (.iface 158 v) xT 279 true).run Tryz.prog w=.ok (.tuple #[.iface 158 v,.bool true]) w:=run_typeAssert_hasB Tryz.underlying279 (by kernel_rfl) v xT w
theorem A6e (v : Value) (w : World) : (Go.method 497 158 v "Unwrap").run Tryz.prog w = .ok (344, v) w := by kernel_rfl
theorem D7y (pb po:Nat) (e k:Int) (w:World) (h1:w.cell? ⟨pb,po+4,none⟩=some (.iface 44 (.int .i64 e))) :
  Calls Tryz.prog 161 #[.iface 158 (.pointer (some ⟨pb,po,none⟩)),.iface 44 (.int .i64 k)] w fun r w'=>r=.returned (.bool (e == k))∧w'=w:=by
 obtain ⟨i,hi,hcmp⟩:=Option.map_eq_some_iff.1 C5m
 have h8:=@run_callFunc_extern Tryz.prog 223 _ Extern.ReflectliteType.typeOf Tryz.func223 (by kernel_rfl) (by kernel_rfl) (by kernel_rfl) (by kernel_rfl)
 have h32 := @run_callFunc_extern Tryz.prog 351 _ (Extern.ReflectliteType.method fun t => do Extern.Rtype.noPackHeld "Comparable" t; pure (.bool (← typeInfo t).comparable)) Tryz.func351 (by kernel_rfl) (by kernel_rfl) (by kernel_rfl) (by kernel_rfl)
 have tT:=B5i
 have cT:=A6a
 have mR:=A0o
 have nW:=D2n
 have nN:=D9l
 have uN:=D9n
 have lN:=D9m
 have uW:=A9j
 have mU:=A6e
 have heq:=B1d (P:=Tryz.prog) w e k Tryz.underlying98 Tryz.underlying44 hi hcmp
 have hty:=run_eql_iface_types (P:=Tryz.prog) 158 44 (.pointer (some ⟨pb,po,none⟩)) (.int .i64 k) Tryz.underlying98 (by decide) w
 cases hk:(e == k)<;>rw [hk] at heq<;>clear hk
 ·go_enter Tryz.func161,Tryz.ntmps161
  go_wp2
  refine wp_loop_rounds 2 ?_
  rw [rounds_succ]
  go_wp2
  rw [rounds_succ]
  go_wp2
  go_ret
  exact ⟨rfl,rfl⟩
 ·go_enter Tryz.func161,Tryz.ntmps161
  go_wp2
  refine wp_loop_rounds 2 ?_
  rw [rounds_succ]
  go_wp2
  rw [rounds_succ]
  go_wp2
  go_ret
  exact ⟨rfl,rfl⟩
open Go.Ab
variable {Γ:Nat→AV}
theorem B0o (c0 c1 c2 c3:AV) (e k:Int):A5 Tryz.prog Γ 161 [.iface 158 (.cptr [c0,c1,c2,c3,.iface 44 (.int .i64 e)]),.iface 44 (.int .i64 k)] fun v=>v=.bool (e == k):=by
 refine fun s=>⟨fun G w vs hm hr=>?_⟩
 obtain ⟨u,us,rfl,hu,hus⟩:=A6.1 hr
 obtain ⟨u1,us1,rfl,hu1,hus1⟩:=A6.1 hus
 rw [A9] at hus1;subst hus1
 obtain ⟨x,rfl,hx⟩:=Q2.1 hu
 obtain ⟨p,rfl,hp⟩:=Q2.1 hu1
 rw [E9] at hp;subst hp
 obtain ⟨pb,po,rfl,hc⟩:=N3.1 hx
 unfold C2 at hc
 obtain ⟨_,_,hc⟩:=hc
 unfold C2 at hc
 obtain ⟨_,_,hc⟩:=hc
 unfold C2 at hc
 obtain ⟨_,_,hc⟩:=hc
 unfold C2 at hc
 obtain ⟨_,_,hc⟩:=hc
 unfold C2 at hc
 obtain ⟨_,⟨y,hy,hr1⟩,_⟩:=hc
 obtain ⟨z,rfl,hz⟩:=Q2.1 hr1
 rw [E9] at hz;subst hz
 refine (D7y pb po e k w hy).mono ?_
 rintro r w' ⟨rfl,rfl⟩
 exact ⟨_,_,s,G,rfl,⟨rfl,rfl⟩,G9.2 rfl,hm,Ext.refl _ _⟩
end Go.Proofs.YticnkpgmmpenlaaGreatDoor.IsP
namespace Go.Proofs.YticnkpgmmpenlaaGreatDoor.Pa
open Go Go.Ab Go.RowKit Go.Proofs.YticnkpgmmpenlaaGreatDoor.Lx
variable {Γ:Nat→AV}
theorem _root_.Go.Ab.M6.of_sub {B:Nat→Prop} {s s':Sto} (h:Sub s s'):M6 B s s':=⟨fun c z _ hz=>h.bx c z hz,h.lv,fun _ hs _=>hs.trans h⟩
theorem Pst.reset {s0 s:Sto} {bp bl:Nat} {L:List Tok} {a:Nat} {o:List Ex} {d:List Int} {k:Int} (hP:Pst s0 s bp bl L a o d k) {b:Nat} (h1:b≠bp) (h2:b≠bl) (T:TypeId) (cs:List AV):Pst (s0.set b T cs) (s.set b T cs) bp bl L a o d k:=by
 obtain ⟨np,nl,ne,⟨t1,t2,e1,e2,e3,e4⟩,pl⟩:=hP
 have hs:Sub (s0.set b T cs) (s.set b T cs):=⟨fun c x hc=>(by
  by_cases hcb:c=b
  ·subst hcb;rw [A1] at hc ⊢;exact hc
  ·rw [A2 hcb] at hc ⊢;exact e2.sub.bx c x hc),fun t e m hx=>e2.sub.lv t e m (by simpa [Sto.set] using hx)⟩
 exact ⟨(A2 h1.symm).trans np,(A2 h2.symm).trans nl,ne,⟨t1,t2,(A2 h1.symm).trans e1,⟨hs,e2.own.imp id fun h=>⟨h.1,h.2.1,fun e m hx=>h.2.2 e m (by simpa [Sto.set] using hx)⟩⟩,⟨hs,e3.own.imp id fun h=>⟨h.1,h.2.1,fun e m hx=>h.2.2 e m (by simpa [Sto.set] using hx)⟩⟩,e4⟩,(A2 h2.symm).trans pl⟩
attribute [local irreducible] A5 Sto.set Sto.grow
theorem _root_.Go.Ab.M6.none1 {s s':Sto} {bc b:Nat} {z:TypeId × List AV} (h:M6 (B1 bc) s s') (hc:s'.bx bc=some z) (hb:s'.bx b=none):s.bx b=none:=by
 cases hz:s.bx b with
 | none=>rfl
 | some z =>
  have hne:b≠bc:=by rintro rfl;rw [hc] at hb;cases hb
  rw [h.bx b z (fun h=>hne h) hz] at hb;cases hb
def C5b (e:Int):Int:=if e=13 then 13 else if e=5 then 5 else 16
theorem B0e (t:Tok) (e:Int):A5 Tryz.prog Γ 104 [B7t t e] fun v=>v=.int .i64 (C5b e):=by
 obtain ⟨t1,t2,t3,t4⟩:=t
 simp only [B7t,P3,List.cons_append,List.nil_append]
 have h13:e≠13→(e == 13)=false:=fun h=>by simp [h]
 have h5:e≠5→(e == 5)=false:=fun h=>by simp [h]
 refine aps Tryz.func104 ?_
 intro s
 refine wp ?_
 refine AWp.loopA [7] [8,9,10,4,11,12,13,14,15,2,16] (fun i:Nat=>[.int .i64 (i:Int)]) (fun i s'=>s'=s∧(i=0∨(i=1∧e≠13)∨(i=2∧e≠13∧e≠5))) (fun i=>2 - i) (0) (by kernel_rfl) (eqa) ?_ ?_
 ·exact ⟨rfl,.inl rfl⟩
 ·rintro x i s' ⟨hs',hi⟩
  subst s'
  rcases hi with rfl|⟨rfl,h1⟩|⟨rfl,h1,h2⟩
  ·show awp _ _ _ _ _ (updL _ _ [.int .i64 ((0:Nat):Int)]) _
   conv=>whnf
   by_cases h0:e=13
   ·subst h0
    refine wp ?_;(first|(refine A0.pure' ?_ (IsP.B0o _ _ _ _ 13 13);rintro _ rfl)|refine A8.pure ?_ (IsP.B0o _ _ _ _ 13 13));refine wp ?_
    rfl
   ·have hi:=IsP.B0o (Γ:=Γ) (.int .i64 t1) (.str t2) (.int .i64 t3) (.int .i64 t4) e 13
    rw [h13 h0] at hi
    refine wp ?_
    exact ⟨1,eqa,B9,⟨rfl,.inr (.inl ⟨rfl,h0⟩)⟩,by omega⟩
  ·show awp _ _ _ _ _ (updL _ _ [.int .i64 ((1:Nat):Int)]) _
   conv=>whnf
   by_cases h0:e=5
   ·subst h0
    refine wp ?_;(first|(refine A0.pure' ?_ (IsP.B0o _ _ _ _ 5 5);rintro _ rfl)|refine A8.pure ?_ (IsP.B0o _ _ _ _ 5 5));refine wp ?_
    rfl
   ·have hi:=IsP.B0o (Γ:=Γ) (.int .i64 t1) (.str t2) (.int .i64 t3) (.int .i64 t4) e 5
    rw [h5 h0] at hi
    refine wp ?_
    exact ⟨2,eqa,B9,⟨rfl,.inr (.inr ⟨rfl,h1,h0⟩)⟩,by omega⟩
  ·show awp _ _ _ _ _ (updL _ _ [.int .i64 ((2:Nat):Int)]) _
   refine wp ?_
   rw [C5b,if_neg h1,if_neg h2]
   rfl
def A1s {α:Type} (S:List UInt8) (body:List Tok→Res α):Res α :=
 match A03 S with
 | .error x=>.error x
 | .ok L=>match body L with
  | .error x=>.error (C5b x.1,x.2.1,x.2.2)
  | .ok o=>.ok o
def B8u (L:List Tok):Res (List Ex) :=
 match ev L (A0b L) 0 ⟨0,[],[],0⟩ with
 | .error x=>.error x
 | .ok st=>if st.a < L.length then A1u L st.a 16 else .ok st.o
def C6h {α:Type} (K:α→List AV→Prop) (r:Res α) (v:AV) (cs:List AV):Prop :=
 match r with
 | .error x=>A8x x v
 | .ok o=>v=.nilIface∧K o cs
def D8u {α:Type} (K:α→List AV→Prop) (r:Res α) (v:AV) (cs:List AV):Prop :=
 match r with
 | .error x=>v=.agg [.int .i64 x.1,.int .i64 x.2.1,.int .i64 x.2.2]
 | .ok o=>v=.agg [.int .i64 0,.int .i64 0,.int .i64 0]∧K o cs
def D6v (o:List Ex) (cs:List AV):Prop:=∃ t,cs=[.slice t (J9 o)]
theorem C2i (hR:Nu.Z8 Γ) {L:List Tok} (hL:L.length≤90000) (hT:∀ i,(B0 L i).2.1.length≤5000) (bc:Nat):∀ (s0 s:Sto) (bp bl:Nat) (c:AV),Pst s0 s bp bl L 0 [] [] 0→s0.bx bc=some (40,[c])→A0 Tryz.prog Γ 69 [.ptr (some ⟨bp,0,none⟩),.ptr (some ⟨bc,0,none⟩)] s fun v s'=>M6 (B1 bc) s0 s'∧∃ cs',s'.bx bc=some (40,cs')∧C6h D6v (B8u L) v cs':=by
 intro s0 s bp bl c hP hb
 have hok:F8 L ⟨0,[],[],0⟩:=⟨Nat.zero_le _,Nat.zero_le _,rfl,by decide⟩
 have he:=(C00 hR hL hT (A0b L)).1 _ _ _ _ ⟨0,[],[],0⟩ hP hok (N5 L _)
 have hg:=J8 (A0b L) 0 ⟨0,[],[],0⟩ (by omega) hok (N5 L _)
 refine acs Tryz.func69 ?_
 refine wp ?_;(refine A0.by he ?_;intro v s1 hv);refine wp ?_
 unfold B8u
 rcases hr:ev L (A0b L) 0 ⟨0,[],[],0⟩ with x|x
 ·rw [hr] at hv
  obtain ⟨⟨kd,tx,rfl⟩,a',o',d',k',hP4⟩:=hv
  refine wp ?_
  exact ⟨_,Sub.refl _,M6.of_sub hP4.sub,_,hP4.sub.bx _ _ hb,⟨kd,tx,rfl⟩⟩
 ·rw [hr] at hv
  obtain ⟨rfl,hP4⟩:=hv
  obtain ⟨g1,g2⟩:=hg x hr
  have hxa:=g1.ha
  obtain ⟨u1,u2,hb4,_⟩:=hP4.pr
  have hb5:=hP4.sub.bx _ _ hb
  have n1:bp≠bc:=by rintro rfl;rw [hP4.np] at hb;cases hb
  have n2:bl≠bc:=by rintro rfl;rw [hP4.nl] at hb;cases hb
  have htl:=A5t L
  have hP6:=hP4.reset n1.symm n2.symm 40 [.slice u1 (J9 x.o)]
  have hst:M6 (B1 bc) s0 (s1.set bc 40 [.slice u1 (J9 x.o)]):=M6.set (B:=B1 bc) (b:=bc) (M6.of_sub hP4.sub) rfl _ _
  have hfl:=A24 (Γ:=Γ) hP6 (by omega) (by omega) 16
  conv=>whnf
  repeat' ((first|exact pru|(refine brS (fun h=>?_) (fun h=>?_)<;>(try rw [h])<;>(try simp only [bS,↓reduceIte] at h))|(refine A4 hb4 ?_)|(refine A4 hb5 ?_)|(refine A4 ((A2 n1).trans hb4) ?_)|(refine A4 ((A2 n2).trans hP4.pl) ?_)|(refine A0.by hfl ?_;rintro _ s5 ⟨rfl,hs5⟩;subst s5)|refine gS ?_|refine aA ?_|refine nA ?_|fail)<;>(conv=>whnf))
  ·refine ⟨_,Sub.refl _,hst,_,A1,?_⟩
   dsimp only
   rw [if_pos (by omega)]
   exact Y7 L x.a 16
  ·refine ⟨_,Sub.refl _,hst,_,A1,?_⟩
   dsimp only
   rw [if_neg (by omega)]
   exact ⟨rfl,u1,rfl⟩
theorem D8e {α:Type} (K:α→List AV→Prop) (hQ:Qu.A1q Γ) (hW:Sc.Wds Γ) (hO:AsO.A4b Γ) (hE:AsP.A4b Γ) {n:FuncId} (hn:A2y Tryz.prog n=true) {bc:Nat} {Tc:TypeId} (S:List UInt8) (hS:S.length≤1048576) (r:List Tok→Res α) (hB:∀ L,A03 S=.ok L→∀ (s0 s:Sto) (bp bl:Nat) (c:AV),Pst s0 s bp bl L 0 [] [] 0→s0.bx bc=some (Tc,[c])→A0 Tryz.prog Γ n [.ptr (some ⟨bp,0,none⟩),.ptr (some ⟨bc,0,none⟩)] s fun v s'=>M6 (B1 bc) s0 s'∧∃ cs',s'.bx bc=some (Tc,cs')∧C6h K (r L) v cs') {s:Sto} {c:AV} (hb:s.bx bc=some (Tc,[c])) :
  A0 Tryz.prog Γ 47 [.str S,.func (.func n) [] [.ptr (some ⟨bc,0,none⟩)]] s fun v s'=>M6 (B1 bc) s s'∧∃ cs',s'.bx bc=some (Tc,cs')∧D8u K (A1s S r) v cs':=by
 have hl:=B6f hQ hW hO S hS
 rcases hx:A03 S with ⟨e,a,b⟩|L
 ·rw [hx] at hl
  have he0:e≠0:=by
   unfold A03 at hx
   split at hx
   ·cases hx;decide
   ·exact B0p _ _ _ _ _ _ hx
  have hrr:A1s S r=.error (e,a,b):=by unfold A1s;rw [hx]
  rw [hrr]
  simp only [C4s] at hl
  refine acs Tryz.func47 ?_
  conv=>whnf
  intro b4 hb4
  have m4:bc≠b4:=A3 hb hb4
  refine wp ?_
  intro b6 hb6
  have n_b4_b6:b4≠b6:=A3 bxa hb6
  have n_b6_b4:=n_b4_b6.symm
  conv=>whnf
  repeat' ((first|exact pru|(refine brS (fun h=>?_) (fun h=>?_)<;>(try rw [h])<;>(try simp only [bS,↓reduceIte] at h))|refine D3 ?_|(refine M5.of Y8 U4 ?_)|refine gS ?_|refine aA ?_|refine nA ?_|fail)<;>(conv=>whnf))
  ·have k6:=((Sub.refl s).set hb4 _ _).none hb6
   have m6:bc≠b6:=A3 hb k6
   exact ⟨_,Sub.refl _,M6.of_sub (((((Sub.refl _).set hb4 _ _).set k6 _ _).set k6 _ _).set hb4 _ _),[c],bxa,rfl⟩
  ·exfalso;revert h;simp [he0]
 ·rw [hx] at hl
  simp only [C4s] at hl
  refine acs Tryz.func47 ?_
  conv=>whnf
  intro b4 hb4
  have m4:bc≠b4:=A3 hb hb4
  refine wp ?_
  intro b6 hb6
  have n_b4_b6:b4≠b6:=A3 bxa hb6
  have n_b6_b4:=n_b4_b6.symm
  refine wp ?_;(refine M5.of Y8 U4 ?_);refine wp ?_
  all_goals first|(exfalso;revert h;simp;done)|skip
  have k6:=((Sub.refl s).set hb4 _ _).none hb6
  have m6:bc≠b6:=A3 hb k6
  intro bl hbl
  have n_b4_bl:b4≠bl:=A3 bxa hbl
  have n_bl_b4:=n_b4_bl.symm
  have n_b6_bl:b6≠bl:=A3 bxa hbl
  have n_bl_b6:=n_b6_bl.symm
  have n_bc_bl:bc≠bl:=A3 bxa hbl
  have n_bl_bc:=n_bc_bl.symm
  refine wp ?_
  intro bp hbp
  have n_b4_bp:b4≠bp:=A3 bxa hbp
  have n_bp_b4:=n_b4_bp.symm
  have n_b6_bp:b6≠bp:=A3 bxa hbp
  have n_bp_b6:=n_b6_bp.symm
  have n_bc_bp:bc≠bp:=A3 bxa hbp
  have n_bp_bc:=n_bc_bp.symm
  have n_bl_bp:bl≠bp:=A3 bxa hbp
  have n_bp_bl:=n_bl_bp.symm
  conv=>whnf
  repeat' ((first|exact pru|(refine brS (fun h=>?_) (fun h=>?_)<;>(try rw [h])<;>(try simp only [bS,↓reduceIte] at h))|refine D3 ?_|refine gS ?_|refine aA ?_|refine nA ?_|fail)<;>(conv=>whnf))
  rotate_left
  ·rw [hn] at h;cases h
  have hsq:Sub s (((s.set b4 46 [.int .i64 0,.int .i64 0,.int .i64 0]).set b6 46 [.int .i64 0,.int .i64 0,.int .i64 0]).set b6 46 [.int .i64 0,.int .i64 0,.int .i64 0]):=(((Sub.refl _).set hb4 _ _).set k6 _ _).set k6 _ _
  have hq4:(((s.set b4 46 [.int .i64 0,.int .i64 0,.int .i64 0]).set b6 46 [.int .i64 0,.int .i64 0,.int .i64 0]).set b6 46 [.int .i64 0,.int .i64 0,.int .i64 0]).bx b4=some (46,[.int .i64 0,.int .i64 0,.int .i64 0]):=bxa
  generalize ((s.set b4 46 [.int .i64 0,.int .i64 0,.int .i64 0]).set b6 46 [.int .i64 0,.int .i64 0,.int .i64 0]).set b6 46 [.int .i64 0,.int .i64 0,.int .i64 0]=sq at *
  have kbp:sq.bx bp=none:=((Sub.refl sq).set hbl _ _).none hbp
  have hP:Pst sq ((sq.set bl 126 [.slice 0 (W7 L),.int .i64 0]).set bp 123 [.ptr (some ⟨bl,0,none⟩),.slice 1 [],.slice 1 [],.int .i64 0]) bp bl L 0 [] [] 0 :=
   ⟨kbp,hbl,n_bp_bl,⟨1,1,A1,Own.start (((Sub.refl _).set hbl _ _).set kbp _ _) _ _,Own.start (((Sub.refl _).set hbl _ _).set kbp _ _) _ _,fun _=>rfl⟩,(A2 n_bl_bp).trans A1⟩
  refine A0.by (hB L hx _ _ _ _ _ hP (hsq.bx _ _ hb)) ?_
  rintro v s5 ⟨hst,cs',hbc,hv⟩
  have hst2:M6 (B1 bc) s s5:=(M6.of_sub hsq).trans hst
  have h54:=hst.bx b4 _ (fun h=>m4 (Eq.symm h)) hq4
  rcases hrl:r L with x|c0
  ·rw [hrl] at hv
   rw [show A1s S r=.error (C5b x.1,x.2.1,x.2.2) by unfold A1s;rw [hx];dsimp only;rw [hrl]]
   obtain ⟨kd,tx,rfl⟩:=hv
   refine wp ?_
   intro b8 hb8
   have k8:=hst2.none1 hbc hb8
   have n_b4_b8:b4≠b8:=A3 bxa hb8
   have n_b8_b4:=n_b4_b8.symm
   have n_bc_b8:bc≠b8:=A3 bxa hb8
   have n_b8_bc:=n_bc_b8.symm
   refine wp ?_;(refine A0.by (AsP.A91 hE _ A1) ?_;rintro _ _ ⟨rfl,rfl⟩);refine wp ?_;(first|(refine A0.pure' ?_ (B0e (kd,tx,x.2.1,x.2.2) x.1);rintro _ rfl)|refine A8.pure ?_ (B0e (kd,tx,x.2.1,x.2.2) x.1));refine wp ?_
   exact ⟨_,Sub.refl _,((hst2.fresh k8 _ _).fresh k8 _ _).fresh hb4 _ _,cs',bxa,rfl⟩
  ·rw [hrl] at hv
   rw [show A1s S r=.ok c0 by unfold A1s;rw [hx];dsimp only;rw [hrl]]
   obtain ⟨rfl,hv⟩:=hv
   refine wp ?_
   intro b8 hb8
   have k8:=hst2.none1 hbc hb8
   have n_b4_b8:b4≠b8:=A3 bxa hb8
   have n_b8_b4:=n_b4_b8.symm
   have n_bc_b8:bc≠b8:=A3 bxa hb8
   have n_b8_bc:=n_bc_b8.symm
   refine wp ?_;(first|(refine A0.pure' ?_ (AsP.A3u _);rintro _ rfl)|refine A8.pure ?_ (AsP.A3u _));refine wp ?_
   exact ⟨_,Sub.refl _,(hst2.fresh k8 _ _).fresh hb4 _ _,cs',bxa,rfl,hv⟩
def D1h:Res (List Ex)→AV
 | .ok o=>.tuple [.slice 0 (J9 o),.agg [.int .i64 0,.int .i64 0,.int .i64 0]]
 | .error (e,a,b)=>.tuple [.slice 0 [],.agg [.int .i64 e,.int .i64 a,.int .i64 b]]
theorem D5g (e:Int):C5b e≠0:=by
 unfold C5b
 split
 ·decide
 ·split<;>decide
theorem D0z {S:List UInt8} {e a b:Int} (h:A03 S=.error (e,a,b)):e≠0:=by
 unfold A03 at h
 split at h
 ·cases h;decide
 ·exact B0p _ _ _ _ _ _ h
theorem B6o {α:Type} {S:List UInt8} {r:List Tok→Res α} {e a b:Int} (h:A1s S r=.error (e,a,b)):e≠0:=by
 unfold A1s at h
 split at h
 ·rename_i x hx
  injection h with h
  subst h
  exact D0z hx
 ·split at h
  ·injection h with h
   simp only [Prod.mk.injEq] at h
   rw [← h.1]
   exact D5g _
  ·cases h
theorem D1i (hQ:Qu.A1q Γ) (hW:Sc.Wds Γ) (hO:AsO.A4b Γ) (hE:AsP.A4b Γ) (hR:Nu.Z8 Γ) (S:List UInt8) (hS:S.length≤65536) (hT:∀ L,A03 S=.ok L→∀ i,(B0 L i).2.1.length≤5000) :
  A5 Tryz.prog Γ 17 [.str S] fun v=>v=D1h (A1s S B8u):=by
 have hlen:∀ L,A03 S=.ok L→L.length≤90000:=fun L hL=>by
  unfold A03 at hL
  split at hL
  ·cases hL
  ·have:=B0q _ _ _ _ hL;omega
 have hrun:=fun {s:Sto} {bc:Nat} {c:AV} (hb:s.bx bc=some (40,[c]))=>D8e (Γ:=Γ) D6v hQ hW hO hE (n:=69) (by kernel_rfl) S (by omega) B8u (fun L hL=>C2i hR (hlen L hL) (hT L hL) bc) hb
 refine A5.fgt fun s=>?_
 refine acs Tryz.func17 ?_
 conv=>whnf
 intro b3 hb3
 conv=>whnf
 intro b4 hb4
 have n_b3_b4:b3≠b4:=A3 bxa hb4
 have n_b4_b3:=n_b3_b4.symm
 conv=>whnf
 have k4:=((Sub.refl s).set hb3 46 [.int .i64 0,.int .i64 0,.int .i64 0]).none hb4
 refine wp ?_;(refine A0.by (hrun A1) ?_;rintro v s1 ⟨hst,cs,hbc,hv⟩);refine wp ?_
 have h13:=hst.bx b3 _ (fun h=>n_b3_b4 h) bxa
 have hb41:∀ s0,Sub s0 s→s0.bx b4=none→s0.bx b3=none→Sub s0 s1:=fun s0 h1 h2 h3=>hst.sub s0 ((h1.set h3 _ _).set h2 _ _) (fun c hc=>by rw [show c=b4 from hc];exact h2)
 rcases hr:A1s S B8u with ⟨e,a,b⟩|o
 ·rw [hr] at hv
  have he0:=B6o hr
  replace hv:v=.agg [.int .i64 e,.int .i64 a,.int .i64 b]:=hv
  subst hv
  refine wp ?_
  intro b5 hb5
  have k5:s.bx b5=none:=((Sub.refl s).set hb3 _ _ |>.set k4 _ _).none (hst.none1 hbc hb5)
  have n_b3_b5:b3≠b5:=A3 bxa hb5
  have n_b5_b3:=n_b3_b5.symm
  have n_b4_b5:b4≠b5:=A3 bxa hb5
  have n_b5_b4:=n_b4_b5.symm
  conv=>whnf
  repeat' ((first|exact pru|(refine brS (fun h=>?_) (fun h=>?_)<;>(try rw [h])<;>(try simp only [bS,↓reduceIte] at h))|refine D3 ?_|(refine M5.of Y8 U4 ?_)|refine gS ?_|refine aA ?_|refine nA ?_|fail)<;>(conv=>whnf))
  ·exact ⟨_,Sub.refl _,rfl,(((hb41 s (Sub.refl _) k4 hb3).set k5 _ _).set k5 _ _).set hb3 _ _⟩
  ·exfalso;revert h;simp [he0]
 ·rw [hr] at hv
  obtain ⟨rfl,t5,rfl⟩:=hv
  refine wp ?_
  intro b5 hb5
  have k5:s.bx b5=none:=((Sub.refl s).set hb3 _ _ |>.set k4 _ _).none (hst.none1 hbc hb5)
  have n_b3_b5:b3≠b5:=A3 bxa hb5
  have n_b5_b3:=n_b3_b5.symm
  have n_b4_b5:b4≠b5:=A3 bxa hb5
  have n_b5_b4:=n_b4_b5.symm
  refine wp ?_;(refine M5.of Y8 U4 ?_);refine wp ?_
  all_goals first|(exfalso;revert h;simp;done)|skip
  exact ⟨_,Sub.refl _,by simp only [A3e,fg,fgL,C6x,D1h],(((hb41 s (Sub.refl _) k4 hb3).set k5 _ _).set k5 _ _).set hb3 _ _⟩
end Go.Proofs.YticnkpgmmpenlaaGreatDoor.Pa
namespace Go.Proofs.YticnkpgmmpenlaaGreatDoor.Tr
open Go Go.Ab Go.RowKit
variable {Γ:Nat→AV}
attribute [local irreducible] A5 Sto.set Sto.grow
abbrev Idn:=List UInt8 × Int × Int
abbrev Vl:=Int × Int × List UInt8 × Bool
abbrev Ex:=Int × Int × Int × List UInt8 × Vl × Int × Int
abbrev Ar:=Int × List UInt8 × Vl × Int × Int
abbrev Sy:=List UInt8 × List Ar × Int × Int
abbrev De:=Idn × List Int
abbrev Qu:=Bool × Idn × Int
abbrev Fr:=Idn × Vl
abbrev St:=Idn × Bool × Bool
abbrev Se:=Idn × Int
abbrev Tn:=Idn × Idn × Sy × List Ex × Int × List Se
instance decIdn:DecidableEq Idn:=inferInstance
instance decVl:DecidableEq Vl:=inferInstance
instance decVl2:DecidableEq (Vl × Int × Int):=instDecidableEqProd
instance decAr2:DecidableEq (List UInt8 × Vl × Int × Int):=instDecidableEqProd
instance decEx2:DecidableEq (Int × List UInt8 × Vl × Int × Int):=instDecidableEqProd
instance decEx3:DecidableEq (Int × Int × List UInt8 × Vl × Int × Int):=instDecidableEqProd
instance decEx:DecidableEq Ex:=instDecidableEqProd
instance decAr:DecidableEq Ar:=instDecidableEqProd
instance decSy:DecidableEq Sy:=inferInstance
instance decSe:DecidableEq Se:=inferInstance
instance decTn3:DecidableEq (List Ex × Int × List Se):=inferInstance
instance decTn2:DecidableEq (Sy × List Ex × Int × List Se):=instDecidableEqProd
instance decTn1:DecidableEq (Idn × Sy × List Ex × Int × List Se):=instDecidableEqProd
instance decTn:DecidableEq Tn:=instDecidableEqProd
instance decQu:DecidableEq Qu:=inferInstance
instance decFr:DecidableEq Fr:=instDecidableEqProd
instance decSt:DecidableEq St:=inferInstance
instance decDe:DecidableEq De:=instDecidableEqProd
instance decH5:DecidableEq (List Fr × List St):=instDecidableEqProd
instance decH4:DecidableEq (List Qu × List Fr × List St):=instDecidableEqProd
instance decH3:DecidableEq (List (Idn × List Int) × List Qu × List Fr × List St):=instDecidableEqProd
instance decH2:DecidableEq (Idn × List (Idn × List Int) × List Qu × List Fr × List St):=instDecidableEqProd
instance decH1:DecidableEq (Idn × Idn × List (Idn × List Int) × List Qu × List Fr × List St):=instDecidableEqProd
def N9:Idn:=([],0,0)
def R3:Vl:=(0,0,[],false)
def H1:Ex:=(0,0,0,[],R3,0,0)
def A7t:Ar:=(0,[],R3,0,0)
def A34:Nat × Sy:=(1,[],[],0,0)
def A4c:Nat × De:=(1,N9,[])
def A5j:Qu:=(false,N9,0)
def A5i:Fr:=(N9,R3)
def A5k:St:=(N9,false,false)
def A4x:Se:=(N9,0)
def A0q:(Nat × Nat × Nat) × Tn:=((1,1,1),N9,N9,([],[],0,0),[],0,[])
def W8 (x:Idn):List AV:=[.str x.1,.int .i64 x.2.1,.int .i64 x.2.2]
def vlA (v:Vl):List AV:=[.int .i64 v.1,.int .i64 v.2.1,.str v.2.2.1,.bool v.2.2.2]
def exA (x:Ex):List AV:=[.int .i64 x.1,.int .i64 x.2.1,.int .i64 x.2.2.1,.str x.2.2.2.1,.int .i64 x.2.2.2.2.1.1,.int .i64 x.2.2.2.2.1.2.1,.str x.2.2.2.2.1.2.2.1,.bool x.2.2.2.2.1.2.2.2,.int .i64 x.2.2.2.2.2.1,.int .i64 x.2.2.2.2.2.2]
def arA (x:Ar):List AV:=[.int .i64 x.1,.str x.2.1,.int .i64 x.2.2.1.1,.int .i64 x.2.2.1.2.1,.str x.2.2.1.2.2.1,.bool x.2.2.1.2.2.2,.int .i64 x.2.2.2.1,.int .i64 x.2.2.2.2]
def syA (x:Nat × Sy):List AV:=[.str x.2.1,.slice x.1 (x.2.2.1.map arA),.int .i64 x.2.2.2.1,.int .i64 x.2.2.2.2]
def deA (x:Nat × De):List AV:=[.str x.2.1.1,.int .i64 x.2.1.2.1,.int .i64 x.2.1.2.2,.slice x.1 (G7 .i64 x.2.2)]
def quA (x:Qu):List AV:=[.bool x.1,.str x.2.1.1,.int .i64 x.2.1.2.1,.int .i64 x.2.1.2.2,.int .i64 x.2.2]
def frA (x:Fr):List AV:=[.str x.1.1,.int .i64 x.1.2.1,.int .i64 x.1.2.2,.int .i64 x.2.1,.int .i64 x.2.2.1,.str x.2.2.2.1,.bool x.2.2.2.2]
def stA (x:St):List AV:=[.str x.1.1,.int .i64 x.1.2.1,.int .i64 x.1.2.2,.bool x.2.1,.bool x.2.2]
def seA (x:Se):List AV:=[.str x.1.1,.int .i64 x.1.2.1,.int .i64 x.1.2.2,.int .i64 x.2]
def tnA (x:(Nat × Nat × Nat) × Tn):List AV:=[.str x.2.1.1,.int .i64 x.2.1.2.1,.int .i64 x.2.1.2.2,.str x.2.2.1.1,.int .i64 x.2.2.1.2.1,.int .i64 x.2.2.1.2.2,
 .str x.2.2.2.1.1,.slice x.1.1 (x.2.2.2.1.2.1.map arA),.int .i64 x.2.2.2.1.2.2.1,.int .i64 x.2.2.2.1.2.2.2,
 .slice x.1.2.1 (x.2.2.2.2.1.map exA),.int .i64 x.2.2.2.2.2.1,.slice x.1.2.2 (x.2.2.2.2.2.2.map seA)]
theorem C5a (x y:Idn):(decide (x.1=y.1) && (decide (x.2.1=y.2.1) && (decide (x.2.2=y.2.2) && true)))=decide (x=y):=by
 rw [Bool.eq_iff_iff];simp [Prod.ext_iff]
theorem C6v (x y:Vl):(decide (x.1=y.1) && (decide (x.2.1=y.2.1) && (decide (x.2.2.1=y.2.2.1) && ((x.2.2.2 == y.2.2.2) && true))))=decide (x=y):=by
 rw [Bool.eq_iff_iff];simp [Prod.ext_iff]
theorem D80 (x y:Ex):(decide (x.1=y.1) && (decide (x.2.1=y.2.1) && (decide (x.2.2.1=y.2.2.1) && (decide (x.2.2.2.1=y.2.2.2.1) && (decide (x.2.2.2.2.1.1=y.2.2.2.2.1.1) && (decide (x.2.2.2.2.1.2.1=y.2.2.2.2.1.2.1) && (decide (x.2.2.2.2.1.2.2.1=y.2.2.2.2.1.2.2.1) && ((x.2.2.2.2.1.2.2.2 == y.2.2.2.2.1.2.2.2) && (decide (x.2.2.2.2.2.1=y.2.2.2.2.2.1) && (decide (x.2.2.2.2.2.2=y.2.2.2.2.2.2) && true))))))))))=decide (x=y):=by
 rw [Bool.eq_iff_iff];simp [Prod.ext_iff,and_assoc]
theorem D8y (x y:Ar):(decide (x.1=y.1) && (decide (x.2.1=y.2.1) && (decide (x.2.2.1.1=y.2.2.1.1) && (decide (x.2.2.1.2.1=y.2.2.1.2.1) && (decide (x.2.2.1.2.2.1=y.2.2.1.2.2.1) && ((x.2.2.1.2.2.2 == y.2.2.1.2.2.2) && (decide (x.2.2.2.1=y.2.2.2.1) && (decide (x.2.2.2.2=y.2.2.2.2) && true))))))))=decide (x=y):=by
 rw [Bool.eq_iff_iff];simp [Prod.ext_iff,and_assoc]
theorem D82 (x y:Qu):((x.1 == y.1) && (decide (x.2.1.1=y.2.1.1) && (decide (x.2.1.2.1=y.2.1.2.1) && (decide (x.2.1.2.2=y.2.1.2.2) && (decide (x.2.2=y.2.2) && true)))))=decide (x=y):=by
 rw [Bool.eq_iff_iff];simp [Prod.ext_iff,and_assoc]
theorem D81 (x y:Fr):(decide (x.1.1=y.1.1) && (decide (x.1.2.1=y.1.2.1) && (decide (x.1.2.2=y.1.2.2) && (decide (x.2.1=y.2.1) && (decide (x.2.2.1=y.2.2.1) && (decide (x.2.2.2.1=y.2.2.2.1) && ((x.2.2.2.2 == y.2.2.2.2) && true)))))))=decide (x=y):=by
 rw [Bool.eq_iff_iff];simp [Prod.ext_iff,and_assoc]
theorem D84 (x y:St):(decide (x.1.1=y.1.1) && (decide (x.1.2.1=y.1.2.1) && (decide (x.1.2.2=y.1.2.2) && ((x.2.1 == y.2.1) && ((x.2.2 == y.2.2) && true)))))=decide (x=y):=by
 rw [Bool.eq_iff_iff];simp [Prod.ext_iff,and_assoc]
theorem D83 (x y:Se):(decide (x.1.1=y.1.1) && (decide (x.1.2.1=y.1.2.1) && (decide (x.1.2.2=y.1.2.2) && (decide (x.2=y.2) && true))))=decide (x=y):=by
 rw [Bool.eq_iff_iff];simp [Prod.ext_iff,and_assoc]
theorem B2 {a b:Bool} (h:a=b):AV.bool a=.bool b:=by rw [h]
theorem C1 {α:Type} {f:α→List AV} {l:List α} (d:α) {i:Nat} (h:i < l.length):(l.map f).getD i []=f (l.getD i d):=by
 simp [List.getD,h]
theorem E4 {α:Type} {l:List α} (d:α) {i:Nat} (h:i < l.length):l.getD i d ∈ l:=by
 simp [List.getD,h]
theorem R2 {α:Type} [DecidableEq α] {a b:List α} {d:α} {i:Nat} (ha:i < a.length) (hb:i < b.length) :
  decide (a.drop i=b.drop i)=(decide (a.getD i d=b.getD i d) && decide (a.drop (i+1)=b.drop (i+1))):=by
 rw [List.drop_eq_getElem_cons ha,List.drop_eq_getElem_cons hb,← Bool.decide_and]
 refine decide_eq_decide.2 ?_
 rw [List.cons.injEq]
 simp only [List.getD,List.getElem?_eq_getElem ha,List.getElem?_eq_getElem hb,Option.getD_some]
theorem B1y {α β:Type} [DecidableEq β] {k:α→β} {a b:List α} {d:α} {i:Nat} (ha:i < a.length) (hb:i < b.length) :
  decide ((a.map k).drop i=(b.map k).drop i)=(decide (k (a.getD i d)=k (b.getD i d)) && decide ((a.map k).drop (i+1)=(b.map k).drop (i+1))):=by
 rw [R2 (d:=k d) (by rwa [List.length_map]) (by rwa [List.length_map])]
 simp [List.getD,ha,hb]
theorem B5k {α β:Type} {k:α→β} {a b:List α} (h:a.map k=b.map k):a.length=b.length:=by
 have:=congrArg List.length h
 rwa [List.length_map,List.length_map] at this
theorem C5g:(!Tryz.prog.eqGuardType Tryz.prog.depth 23)=true:=by kernel_rfl
theorem C1c:A2m Tryz.prog 9999 23=some [(0,1),(1,0),(2,0)]:=by kernel_rfl
theorem B48:(!Tryz.prog.eqGuardType Tryz.prog.depth 56)=true:=by kernel_rfl
theorem A9s:A2m Tryz.prog 9999 56=some [(0,0),(1,0),(2,1),(3,2)]:=by kernel_rfl
theorem D9b:(!Tryz.prog.eqGuardType Tryz.prog.depth 75)=true:=by kernel_rfl
theorem D8a:A2m Tryz.prog 9999 75=some [(0,2),(1,1),(2,0),(3,0),(4,0)]:=by kernel_rfl
theorem D9a:(!Tryz.prog.eqGuardType Tryz.prog.depth 58)=true:=by kernel_rfl
theorem D79:A2m Tryz.prog 9999 58=some [(0,1),(1,0),(2,0),(3,0),(4,0),(5,1),(6,2)]:=by kernel_rfl
theorem D9d:(!Tryz.prog.eqGuardType Tryz.prog.depth 84)=true:=by kernel_rfl
theorem D8c:A2m Tryz.prog 9999 84=some [(0,1),(1,0),(2,0),(3,2),(4,2)]:=by kernel_rfl
theorem D88:(!Tryz.prog.eqGuardType Tryz.prog.depth 93)=true:=by kernel_rfl
theorem D77:A2m Tryz.prog 9999 93=some [(0,0),(1,1),(2,0),(3,0),(4,1),(5,2),(6,0),(7,0)]:=by kernel_rfl
theorem D89:(!Tryz.prog.eqGuardType Tryz.prog.depth 61)=true:=by kernel_rfl
theorem D78:A2m Tryz.prog 9999 61=some [(0,0),(1,0),(2,0),(3,1),(4,0),(5,0),(6,1),(7,2),(8,0),(9,0)]:=by kernel_rfl
theorem D9c:(!Tryz.prog.eqGuardType Tryz.prog.depth 119)=true:=by kernel_rfl
theorem D8b:A2m Tryz.prog 9999 119=some [(0,1),(1,0),(2,0),(3,0)]:=by kernel_rfl
theorem D8z (x y:De):decide (x=y)=(decide (x.1=y.1) && decide (x.2=y.2)):=by
 rw [Bool.eq_iff_iff];simp [Prod.ext_iff]
theorem D85 (x y:Sy):decide (x=y)=(decide (x.1=y.1) && (decide (x.2.2.1=y.2.2.1) && (decide (x.2.2.2=y.2.2.2) && decide (x.2.1=y.2.1)))):=by
 rw [Bool.eq_iff_iff];simp [Prod.ext_iff];try grind
theorem D86 (x y:Tn):decide (x=y)=(decide (x.1=y.1) && (decide (x.2.1=y.2.1) && (decide (x.2.2.1=y.2.2.1) && (decide (x.2.2.2.1=y.2.2.2.1) && (decide (x.2.2.2.2.1=y.2.2.2.2.1) && decide (x.2.2.2.2.2=y.2.2.2.2.2)))))):=by
 rw [Bool.eq_iff_iff];simp [Prod.ext_iff];try grind
abbrev Tr0:=Idn × List (Nat × De) × List Qu × List Fr × List St × Idn × List (Nat × Sy) × List ((Nat × Nat × Nat) × Tn)
def trA (k:Nat→Nat) (x:Tr0):List AV:=[.str x.1.1,.int .i64 x.1.2.1,.int .i64 x.1.2.2,.slice (k 0) (x.2.1.map deA),.slice (k 1) (x.2.2.1.map quA),.slice (k 2) (x.2.2.2.1.map frA),.slice (k 3) (x.2.2.2.2.1.map stA),
 .str x.2.2.2.2.2.1.1,.int .i64 x.2.2.2.2.2.1.2.1,.int .i64 x.2.2.2.2.2.1.2.2,.slice (k 4) (x.2.2.2.2.2.2.1.map syA),.slice (k 5) (x.2.2.2.2.2.2.2.map tnA)]
def A2t (x:Tr0):Idn × Idn × List De × List Qu × List Fr × List St:=(x.1,x.2.2.2.2.2.1,x.2.1.map Prod.snd,x.2.2.1,x.2.2.2.1,x.2.2.2.2.1)
def A2x (x:Tr0):Prop:=(x.2.1.length≤100000∧x.2.2.1.length≤100000∧x.2.2.2.1.length≤100000∧x.2.2.2.2.1.length≤100000∧x.2.2.2.2.2.2.1.length≤100000∧x.2.2.2.2.2.2.2.length≤100000) ∧
 (∀ d ∈ x.2.1,d.2.2.length≤100000)∧(∀ s ∈ x.2.2.2.2.2.2.1,s.2.2.1.length≤100000)∧∀ t ∈ x.2.2.2.2.2.2.2,t.2.2.2.1.2.1.length≤100000∧t.2.2.2.2.1.length≤100000∧t.2.2.2.2.2.2.length≤100000
theorem D5e (x y:Tr0):decide (A2t x=A2t y)=(decide (x.1=y.1) && (decide (x.2.2.2.2.2.1=y.2.2.2.2.2.1) && (decide (x.2.1.map Prod.snd=y.2.1.map Prod.snd) && (decide (x.2.2.1=y.2.2.1) && (decide (x.2.2.2.1=y.2.2.2.1) && decide (x.2.2.2.2.1=y.2.2.2.2.1)))))):=by
 rw [Bool.eq_iff_iff];unfold A2t;simp only [Bool.and_eq_true,decide_eq_true_eq,Prod.mk.injEq]
theorem D15 {x y:Tr0} (h:A2t x=A2t y):x.1=y.1∧x.2.2.2.2.2.1=y.2.2.2.2.2.1∧x.2.1.length=y.2.1.length∧x.2.2.1.length=y.2.2.1.length∧x.2.2.2.1.length=y.2.2.2.1.length∧x.2.2.2.2.1.length=y.2.2.2.2.1.length:=by
 unfold A2t at h
 simp only [Prod.mk.injEq] at h
 obtain ⟨h1,h2,h3,h4,h5,h6⟩:=h
 exact ⟨h1,h2,B5k h3,by rw [h4],by rw [h5],by rw [h6]⟩
theorem D8o {x y:Sy} (h:x=y):x.1=y.1∧x.2.1.length=y.2.1.length∧x.2.2.1=y.2.2.1∧x.2.2.2=y.2.2.2:=by
 subst h;exact ⟨rfl,rfl,rfl,rfl⟩
theorem D8q {x y:Tn} (h:x=y):x.1=y.1∧x.2.1=y.2.1∧x.2.2.1=y.2.2.1∧x.2.2.2.1.length=y.2.2.2.1.length∧x.2.2.2.2.1=y.2.2.2.2.1∧x.2.2.2.2.2.length=y.2.2.2.2.2.length:=by
 subst h;exact ⟨rfl,rfl,rfl,rfl,rfl,rfl⟩
theorem B1a (x y:Nat × Sy) (hl:x.2.2.1.length≤140737488355328):A5 Tryz.prog Γ 51 [.agg (syA x),.agg (syA y)] fun v=>v=.bool (decide (x.2=y.2)):=by
 have hlx:(x.2.2.1.map arA).length=x.2.2.1.length:=List.length_map ..
 have hly:(y.2.2.1.map arA).length=y.2.2.1.length:=List.length_map ..
 refine aps Tryz.func51 ?_
 intro s
 conv=>whnf
 intro b hb
 conv=>whnf
 intro b2 hb2
 conv=>whnf
 repeat' ((first|(refine brS (fun h=>?_) (fun h=>?_)<;>(try rw [h])<;>(try simp only [bS,↓reduceIte] at h))|(refine L7 (A3 A1 hb2) (A4 A1 ?_))|refine gS ?_|refine aA ?_|refine nA ?_|fail)<;>(conv=>whnf))
 all_goals try (refine ⟨((Sub.refl _).set hb _ _).set (D0 hb2).2 _ _,B2 (decide_eq_false (fun he=>?_)).symm⟩;obtain ⟨e1,e2,e3,e4⟩:=D8o he;first|omega|contradiction)
 refine AWp.loopA [5] [34,35,36,37,38,41,42,43,44,45,46,47,48,49,50,51,4,39,40] (fun i:Nat=>[.int .i64 i]) (fun i s'=>i≤x.2.2.1.length∧s'.bx b=some (39,syA x)∧s'.bx b2=some (39,syA y)∧Sub s s'∧decide (x.2=y.2)=decide (x.2.2.1.drop i=y.2.2.1.drop i)) (fun i=>x.2.2.1.length - i) (0) (by kernel_rfl) (eqa) ?_ ?_
 ·refine ⟨by omega,(A2 (A3 A1 hb2)).trans A1,A1,((Sub.refl _).set hb _ _).set (D0 hb2).2 _ _,?_⟩
  simp [D85, *]
  try grind
 ·rintro q i s1 ⟨hi,h1,h2,hs1,hp⟩
  conv=>whnf
  have hga:=fun h:i < x.2.2.1.length=>C1 (f:=arA) (l:=x.2.2.1) A7t h
  have hgb:=fun h:i < y.2.2.1.length=>C1 (f:=arA) (l:=y.2.2.1) A7t h
  have he:=D8y (x.2.2.1.getD i A7t) (y.2.2.1.getD i A7t)
  have hd:=fun (h:i < x.2.2.1.length) (h':i < y.2.2.1.length)=>R2 (d:=A7t) h h'
  generalize x.2.2.1.getD i A7t=u at *
  generalize y.2.2.1.getD i A7t=z at *
  repeat' ((first|(refine brS (fun h=>?_) (fun h=>?_)<;>(try rw [h])<;>(try simp only [bS,↓reduceIte] at h))|(refine A4 h1 ?_)|(refine A4 h2 ?_)|(rw [show (x.2.2.1.map arA).getD ((i:Int)).toNat []=_ from hga (by omega)])|(rw [show (y.2.2.1.map arA).getD ((i:Int)).toNat []=_ from hgb (by omega)])|(refine M5.of D88 D77 ?_)|refine gS ?_|refine aA ?_|refine nA ?_|fail)<;>(conv=>whnf))
  ·first|refine ⟨hs1,B2 ?_⟩|refine B2 ?_
   rename_i h
   rw [hp,hd (by omega) (by omega),← he,h]
   rfl
  ·rename_i h
   refine ⟨i+1,eqa,B9,⟨by omega,h1,h2,hs1,?_⟩,by omega⟩
   rw [hp,hd (by omega) (by omega),← he,h,Bool.true_and]
  ·first|refine ⟨hs1,B2 ?_⟩|refine B2 ?_
   rw [hp,C6 (by omega),C6 (by omega)]
   rfl
theorem C3y (x y:(Nat × Nat × Nat) × Tn) (hl:x.2.2.2.1.2.1.length≤140737488355328) (hn:x.2.2.2.2.1.length≤140737488355328) (hs:x.2.2.2.2.2.2.length≤140737488355328):A5 Tryz.prog Γ 52 [.agg (tnA x),.agg (tnA y)] fun v=>v=.bool (decide (x.2=y.2)):=by
 have l1:(x.2.2.2.2.1.map exA).length=x.2.2.2.2.1.length:=List.length_map ..
 have l2:(y.2.2.2.2.1.map exA).length=y.2.2.2.2.1.length:=List.length_map ..
 have l3:(x.2.2.2.2.2.2.map seA).length=x.2.2.2.2.2.2.length:=List.length_map ..
 have l4:(y.2.2.2.2.2.2.map seA).length=y.2.2.2.2.2.2.length:=List.length_map ..
 refine aps Tryz.func52 ?_
 intro s
 conv=>whnf
 intro b hb
 conv=>whnf
 intro b2 hb2
 conv=>whnf
 repeat' ((first|(refine brS (fun h=>?_) (fun h=>?_)<;>(try rw [h])<;>(try simp only [bS,↓reduceIte] at h))|(refine L7 (A3 A1 hb2) (A4 A1 ?_))|(refine M5.of C5g C1c ?_)|(refine A0.pure' ?_ (B1a (x.1.1,x.2.2.2.1) (y.1.1,y.2.2.2.1) hl);rintro _ rfl)|refine A8.pure ?_ (B1a (x.1.1,x.2.2.2.1) (y.1.1,y.2.2.2.1) hl)|refine gS ?_|refine aA ?_|refine nA ?_|fail)<;>(conv=>whnf))
 all_goals simp only [C5a,decide_eq_true_eq,decide_eq_false_iff_not] at *
 all_goals try (refine ⟨((Sub.refl _).set hb _ _).set (D0 hb2).2 _ _,B2 (decide_eq_false (fun he=>?_)).symm⟩;obtain ⟨e1,e2,e3,e4,e5,e6⟩:=D8q he;first|omega|contradiction)
 have hp0:decide (x.2=y.2)=(decide (x.2.2.2.2.1=y.2.2.2.2.1) && (decide (x.2.2.2.2.2.2=y.2.2.2.2.2.2))):=by
  simp [D86, *]
  try grind
 refine AWp.loopA [5] [52,53,54,55,56,59,60,61,62,63,64,65,66,67,68,69,4,57,58] (fun i:Nat=>[.int .i64 i]) (fun i s'=>i≤x.2.2.2.2.1.length∧s'.bx b=some (43,tnA x)∧s'.bx b2=some (43,tnA y)∧Sub s s'∧decide (x.2=y.2)=(decide (x.2.2.2.2.1.drop i=y.2.2.2.2.1.drop i) && (decide (x.2.2.2.2.2.2=y.2.2.2.2.2.2)))) (fun i=>x.2.2.2.2.1.length - i) (0) (by kernel_rfl) (eqa) ?_ ?_
 ·exact ⟨by omega,(A2 (A3 A1 hb2)).trans A1,A1,((Sub.refl _).set hb _ _).set (D0 hb2).2 _ _,by simpa using hp0⟩
 ·rintro q i1 s1 ⟨hi1,h1,h2,hs1,hp⟩
  conv=>whnf
  have hga:=fun h:i1 < x.2.2.2.2.1.length=>C1 (f:=exA) (l:=x.2.2.2.2.1) H1 h
  have hgb:=fun h:i1 < y.2.2.2.2.1.length=>C1 (f:=exA) (l:=y.2.2.2.2.1) H1 h
  have he:=D80 (x.2.2.2.2.1.getD i1 H1) (y.2.2.2.2.1.getD i1 H1)
  have hd:=fun (h:i1 < x.2.2.2.2.1.length) (h':i1 < y.2.2.2.2.1.length)=>R2 (d:=H1) h h'
  generalize x.2.2.2.2.1.getD i1 H1=u at *
  generalize y.2.2.2.2.1.getD i1 H1=z at *
  repeat' ((first|(refine brS (fun h=>?_) (fun h=>?_)<;>(try rw [h])<;>(try simp only [bS,↓reduceIte] at h))|(refine A4 h1 ?_)|(refine A4 h2 ?_)|(rw [show (x.2.2.2.2.1.map exA).getD ((i1:Int)).toNat []=_ from hga (by omega)])|(rw [show (y.2.2.2.2.1.map exA).getD ((i1:Int)).toNat []=_ from hgb (by omega)])|(refine M5.of D89 D78 ?_)|refine gS ?_|refine aA ?_|refine nA ?_|fail)<;>(conv=>whnf))
  ·first|refine ⟨hs1,B2 ?_⟩|refine B2 ?_
   rename_i h
   rw [hp,hd (by omega) (by omega),← he,h]
   rfl
  ·rename_i h
   refine ⟨i1+1,eqa,B9,⟨by omega,h1,h2,hs1,?_⟩,by omega⟩
   rw [hp,hd (by omega) (by omega),← he,h,Bool.true_and]
  ·rw [C6 (by omega),C6 (by omega)] at hp
   simp only [decide_true,Bool.true_and] at hp
   refine AWp.loopA [6] [70,71,72,73,74,77,78,79,80,81,82,83,84,85,86,87,4,75,76] (fun i:Nat=>[.int .i64 i]) (fun i s'=>i≤x.2.2.2.2.2.2.length∧s'.bx b=some (43,tnA x)∧s'.bx b2=some (43,tnA y)∧Sub s s'∧decide (x.2=y.2)=(decide (x.2.2.2.2.2.2.drop i=y.2.2.2.2.2.2.drop i))) (fun i=>x.2.2.2.2.2.2.length - i) (0) (by kernel_rfl) (eqa) ?_ ?_
   ·exact ⟨by omega,h1,h2,hs1,by simpa using hp⟩
   ·rintro q i2 s2 ⟨hi2,h1,h2,hs1,hp⟩
    conv=>whnf
    have hga:=fun h:i2 < x.2.2.2.2.2.2.length=>C1 (f:=seA) (l:=x.2.2.2.2.2.2) A4x h
    have hgb:=fun h:i2 < y.2.2.2.2.2.2.length=>C1 (f:=seA) (l:=y.2.2.2.2.2.2) A4x h
    have he:=D83 (x.2.2.2.2.2.2.getD i2 A4x) (y.2.2.2.2.2.2.getD i2 A4x)
    have hd:=fun (h:i2 < x.2.2.2.2.2.2.length) (h':i2 < y.2.2.2.2.2.2.length)=>R2 (d:=A4x) h h'
    generalize x.2.2.2.2.2.2.getD i2 A4x=u at *
    generalize y.2.2.2.2.2.2.getD i2 A4x=z at *
    repeat' ((first|(refine brS (fun h=>?_) (fun h=>?_)<;>(try rw [h])<;>(try simp only [bS,↓reduceIte] at h))|(refine A4 h1 ?_)|(refine A4 h2 ?_)|(rw [show (x.2.2.2.2.2.2.map seA).getD ((i2:Int)).toNat []=_ from hga (by omega)])|(rw [show (y.2.2.2.2.2.2.map seA).getD ((i2:Int)).toNat []=_ from hgb (by omega)])|(refine M5.of D9c D8b ?_)|refine gS ?_|refine aA ?_|refine nA ?_|fail)<;>(conv=>whnf))
    ·first|refine ⟨hs1,B2 ?_⟩|refine B2 ?_
     rename_i h
     rw [hp,hd (by omega) (by omega),← he,h]
     rfl
    ·rename_i h
     refine ⟨i2+1,eqa,B9,⟨by omega,h1,h2,hs1,?_⟩,by omega⟩
     rw [hp,hd (by omega) (by omega),← he,h,Bool.true_and]
    ·rw [C6 (by omega),C6 (by omega)] at hp
     simp only [decide_true,Bool.and_true,Bool.true_and] at hp
     first|refine ⟨hs1,B2 ?_⟩|refine B2 ?_
     rw [hp]
     try rfl
theorem P9 {α:Type} {l:List α} {p:α→Bool} (d:α) {i:Nat} (h:i < l.length):(l.drop i).all p=(p (l.getD i d) && (l.drop (i+1)).all p):=by
 rw [List.drop_eq_getElem_cons h,List.all_cons]
 simp [List.getD,h]
def arB (a:Ar):Bool:=decide ((a.2.2.1.2.2.1.length:Int)≤100)
def exB (a:Ex):Bool:=decide ((a.2.2.2.2.1.2.2.1.length:Int)≤100)
def frB (a:Fr):Bool:=decide ((a.2.2.2.1.length:Int)≤100)
def deB (a:Nat × De):Bool:=decide ((a.2.2.length:Int)≤12)
def syB (s:Nat × Sy):Bool:=decide ((s.2.2.1.length:Int)≤12) && s.2.2.1.all arB
def tnB (t:(Nat × Nat × Nat) × Tn):Bool:=syB (t.1.1,t.2.2.2.1) && (decide ((t.2.2.2.2.1.length:Int)≤40) && (decide ((t.2.2.2.2.2.2.length:Int)≤12) && t.2.2.2.2.1.all exB))
def C66 (x:Tr0):Bool:=decide ((x.2.1.length:Int)≤12) && (decide ((x.2.2.1.length:Int)≤12) && (decide ((x.2.2.2.1.length:Int)≤12) && (decide ((x.2.2.2.2.1.length:Int)≤12) && (decide ((x.2.2.2.2.2.2.1.length:Int)≤12) && decide ((x.2.2.2.2.2.2.2.length:Int)≤12)))))
def C5c (x:Tr0):Bool:=C66 x && (x.2.1.all deB && (x.2.2.2.1.all frB && (x.2.2.2.2.2.2.1.all syB && x.2.2.2.2.2.2.2.all tnB)))
theorem C8w {x:Tr0} (h:C5c x=true):A2x x:=by
 simp only [C5c,C66,Bool.and_eq_true,decide_eq_true_eq,List.all_eq_true] at h
 obtain ⟨⟨h1,h2,h3,h4,h5,h6⟩,h7,h8,h9,h10⟩:=h
 refine ⟨⟨by omega,by omega,by omega,by omega,by omega,by omega⟩,fun d hd=>?_,fun s hs=>?_,fun t ht=>?_⟩
 ·have:=of_decide_eq_true (h7 d hd);omega
 ·have:=h9 s hs
  simp only [syB,Bool.and_eq_true,decide_eq_true_eq] at this
  omega
 ·have:=h10 t ht
  simp only [tnB,syB,Bool.and_eq_true,decide_eq_true_eq] at this
  exact ⟨by omega,by omega,by omega⟩
theorem B6k (tk k':Nat→Nat) (x y:Tr0) (hx:A2x x):A5 Tryz.prog Γ 50 [.agg (trA tk x),.agg (trA k' y)] fun v=>v=.bool (decide (A2t x=A2t y)):=by
 obtain ⟨⟨m1,m2,m3,m4,m5,m6⟩,m7,_⟩:=hx
 have l1:(x.2.1.map deA).length=x.2.1.length:=List.length_map ..
 have l2:(y.2.1.map deA).length=y.2.1.length:=List.length_map ..
 have l3:(x.2.2.1.map quA).length=x.2.2.1.length:=List.length_map ..
 have l4:(y.2.2.1.map quA).length=y.2.2.1.length:=List.length_map ..
 have l5:(x.2.2.2.1.map frA).length=x.2.2.2.1.length:=List.length_map ..
 have l6:(y.2.2.2.1.map frA).length=y.2.2.2.1.length:=List.length_map ..
 have l7:(x.2.2.2.2.1.map stA).length=x.2.2.2.2.1.length:=List.length_map ..
 have l8:(y.2.2.2.2.1.map stA).length=y.2.2.2.2.1.length:=List.length_map ..
 have l9:(x.2.2.2.2.2.2.1.map syA).length=x.2.2.2.2.2.2.1.length:=List.length_map ..
 have l10:(y.2.2.2.2.2.2.1.map syA).length=y.2.2.2.2.2.2.1.length:=List.length_map ..
 have l11:(x.2.2.2.2.2.2.2.map tnA).length=x.2.2.2.2.2.2.2.length:=List.length_map ..
 have l12:(y.2.2.2.2.2.2.2.map tnA).length=y.2.2.2.2.2.2.2.length:=List.length_map ..
 refine aps Tryz.func50 ?_
 intro s
 conv=>whnf
 intro b hb
 conv=>whnf
 intro b2 hb2
 conv=>whnf
 repeat' ((first|(refine brS (fun h=>?_) (fun h=>?_)<;>(try rw [h])<;>(try simp only [bS,↓reduceIte] at h))|(refine L7 (A3 A1 hb2) (A4 A1 ?_))|(refine M5.of C5g C1c ?_)|refine gS ?_|refine aA ?_|refine nA ?_|fail)<;>(conv=>whnf))
 all_goals simp only [C5a,decide_eq_true_eq,decide_eq_false_iff_not] at *
 all_goals try (refine ⟨((Sub.refl _).set hb _ _).set (D0 hb2).2 _ _,B2 (decide_eq_false (fun he=>?_)).symm⟩;obtain ⟨e1,e2,e3,e4,e5,e6⟩:=D15 he;first|omega|contradiction)
 have hp0:decide (A2t x=A2t y)=(decide (x.2.1.map Prod.snd=y.2.1.map Prod.snd) && (decide (x.2.2.1=y.2.2.1) && (decide (x.2.2.2.1=y.2.2.2.1) && (decide (x.2.2.2.2.1=y.2.2.2.2.1))))):=by
  simp [D5e, *]
  try grind
 refine AWp.loopA [5] [60,61,62,63,64,67,68,69,70,71,6,72,73,74,75,76,7,77,78,79,80,81,82,83,84,85,86,87,88,89,90,4,8,91,92,93,94,95,98,99,100,101,102,103,104,105,106,107,108,96,97,65,66] (fun i:Nat=>[.int .i64 i]) (fun i s'=>i≤x.2.1.length∧s'.bx b=some (31,trA tk x)∧s'.bx b2=some (31,trA k' y)∧Sub s s'∧decide (A2t x=A2t y)=(decide ((x.2.1.map Prod.snd).drop i=(y.2.1.map Prod.snd).drop i) && (decide (x.2.2.1=y.2.2.1) && (decide (x.2.2.2.1=y.2.2.2.1) && (decide (x.2.2.2.2.1=y.2.2.2.2.1)))))) (fun i=>x.2.1.length - i) (0) (by kernel_rfl) (eqa) ?_ ?_
 ·exact ⟨by omega,(A2 (A3 A1 hb2)).trans A1,A1,((Sub.refl _).set hb _ _).set (D0 hb2).2 _ _,by simpa using hp0⟩
 ·rintro q i s1 ⟨hi1,h1,h2,hs1,hp⟩
  conv=>whnf
  have hga:=fun h:i < x.2.1.length=>C1 (f:=deA) (l:=x.2.1) A4c h
  have hgb:=fun h:i < y.2.1.length=>C1 (f:=deA) (l:=y.2.1) A4c h
  have hd:=fun (h:i < x.2.1.length) (h':i < y.2.1.length)=>B1y (k:=Prod.snd) (d:=A4c) h h'
  have hmm:=fun h:i < x.2.1.length=>m7 _ (E4 A4c h)
  generalize x.2.1.getD i A4c=u at *
  generalize y.2.1.getD i A4c=z at *
  have hu:=M8 .i64 u.2.2
  have hz:=M8 .i64 z.2.2
  repeat' ((first|(refine brS (fun h=>?_) (fun h=>?_)<;>(try rw [h])<;>(try simp only [bS,↓reduceIte] at h))|(refine A4 h1 ?_)|(rw [show (x.2.1.map deA).getD ((i:Int)).toNat []=_ from hga (by omega)])|refine gS ?_|refine aA ?_|refine nA ?_|fail)<;>(conv=>whnf))
  ·intro c hc
   conv=>whnf
   refine A4 A1 ?_
   repeat' ((first|(refine brS (fun h=>?_) (fun h=>?_)<;>(try rw [h])<;>(try simp only [bS,↓reduceIte] at h))|(refine A4 ((A2 (A3 h2 (D0 hc).2)).trans ((A2 (A3 h2 hc)).trans h2)) ?_)|(refine A4 ((A2 (A3 h2 hc)).trans ((A2 (A3 h2 hc)).trans h2)) ?_)|(rw [show (y.2.1.map deA).getD ((i:Int)).toNat []=_ from hgb (by omega)])|refine gS ?_|refine aA ?_|refine nA ?_|fail)<;>(conv=>whnf))
   intro c2 hc2
   conv=>whnf
   refine A4 A1 ?_
   have h5:=hs1.none hc
   have h6:=hs1.none (D0 (D0 hc2).2).2
   repeat' ((first|(refine brS (fun h=>?_) (fun h=>?_)<;>(try rw [h])<;>(try simp only [bS,↓reduceIte] at h))|(refine A4 ((A2 (A3 A1 hc2)).trans ((A2 (A3 A1 hc2)).trans A1)) ?_)|(refine A4 A1 ?_)|(refine M5.of C5g C1c ?_)|refine gS ?_|refine aA ?_|refine nA ?_|fail)<;>(conv=>whnf))
   all_goals simp only [C5a,decide_eq_true_eq,decide_eq_false_iff_not] at *
   ·refine ⟨(((hs1.set h5 _ _).set h5 _ _).set h6 _ _).set h6 _ _,B2 ?_⟩
    have hne:¬ u.2=z.2:=fun he=>by
     have e1:u.2.1=z.2.1:=congrArg Prod.fst he
     contradiction
    rw [hp,hd (by omega) (by omega),decide_eq_false hne]
    rfl
   ·refine ⟨(((hs1.set h5 _ _).set h5 _ _).set h6 _ _).set h6 _ _,B2 ?_⟩
    have hne:¬ u.2=z.2:=fun he=>by
     have e1:u.2.2.length=z.2.2.length:=congrArg (fun t:De=>t.2.length) he
     omega
    rw [hp,hd (by omega) (by omega),decide_eq_false hne]
    rfl
   ·have hm7:=hmm (by omega)
    refine AWp.loopA [8] [91,92,93,94,95,98,99,100,101,102,103,104,105,106,107,108,4,96,97] (fun k:Nat=>[.int .i64 k]) (fun k s'=>k≤u.2.2.length∧s'.bx c=some (54,deA u)∧s'.bx c2=some (54,deA z)∧s'.bx b=some (31,trA tk x)∧s'.bx b2=some (31,trA k' y)∧Sub s s'∧decide (u.2=z.2)=decide (u.2.2.drop k=z.2.2.drop k)) (fun k=>u.2.2.length - k) (0) (by kernel_rfl) (eqa) ?_ ?_
    ·have e1:=A3 h1 hc
     have e2:=A3 h2 hc
     have f1:=A3 h1 (D0 (D0 hc2).2).2
     have f2:=A3 h2 (D0 (D0 hc2).2).2
     refine ⟨by omega,(A2 (A3 A1 hc2)).trans ((A2 (A3 A1 hc2)).trans A1),A1,?_,?_,(((hs1.set h5 _ _).set h5 _ _).set h6 _ _).set h6 _ _,?_⟩
     ·rw [A2 f1,A2 f1,A2 e1,A2 e1];exact h1
     ·rw [A2 f2,A2 f2,A2 e2,A2 e2];exact h2
     ·simp [D8z, *]
    ·rintro q2 k2 s2 ⟨hi2,g1,g2,g3,g4,hs2,hq⟩
     conv=>whnf
     repeat' ((first|(refine brS (fun h=>?_) (fun h=>?_)<;>(try rw [h])<;>(try simp only [bS,↓reduceIte] at h))|(refine A4 g1 ?_)|(refine A4 g2 ?_)|(rw [A5e (by omega)])|(rw [A5e (by omega)])|refine gS ?_|refine aA ?_|refine nA ?_|fail)<;>(conv=>whnf))
     all_goals try simp only [Int.toNat_natCast] at *
     ·first|refine ⟨hs2,B2 ?_⟩|refine B2 ?_
      rename_i h
      rw [R2 (d:=0) (by omega) (by omega),decide_eq_false h,Bool.false_and] at hq
      rw [hp,hd (by omega) (by omega),hq]
      rfl
     ·rename_i h
      refine ⟨k2+1,eqa,B9,⟨by omega,g1,g2,g3,g4,hs2,?_⟩,by omega⟩
      rw [hq,R2 (d:=0) (by omega) (by omega),decide_eq_true h,Bool.true_and]
     ·rw [C6 (by omega),C6 (by omega)] at hq
      refine ⟨i+1,eqa,B9,⟨by omega,g3,g4,hs2,?_⟩,by omega⟩
      rw [hp,hd (by omega) (by omega),hq]
      simp
  ·rw [C6 (by rw [List.length_map];omega),C6 (by rw [List.length_map];omega)] at hp
   simp only [decide_true,Bool.true_and] at hp
   refine AWp.loopA [9] [109,110,111,112,113,116,117,118,119,120,121,122,123,124,125,126,4,114,115] (fun i:Nat=>[.int .i64 i]) (fun i s'=>i≤x.2.2.1.length∧s'.bx b=some (31,trA tk x)∧s'.bx b2=some (31,trA k' y)∧Sub s s'∧decide (A2t x=A2t y)=(decide (x.2.2.1.drop i=y.2.2.1.drop i) && (decide (x.2.2.2.1=y.2.2.2.1) && (decide (x.2.2.2.2.1=y.2.2.2.2.1))))) (fun i=>x.2.2.1.length - i) (0) (by kernel_rfl) (eqa) ?_ ?_
   ·exact ⟨by omega,h1,h2,hs1,by simpa using hp⟩
   ·rintro q i3 s3 ⟨hi3,h1,h2,hs1,hp⟩
    conv=>whnf
    have hga:=fun h:i3 < x.2.2.1.length=>C1 (f:=quA) (l:=x.2.2.1) A5j h
    have hgb:=fun h:i3 < y.2.2.1.length=>C1 (f:=quA) (l:=y.2.2.1) A5j h
    have he:=D82 (x.2.2.1.getD i3 A5j) (y.2.2.1.getD i3 A5j)
    have hd:=fun (h:i3 < x.2.2.1.length) (h':i3 < y.2.2.1.length)=>R2 (d:=A5j) h h'
    generalize x.2.2.1.getD i3 A5j=u at *
    generalize y.2.2.1.getD i3 A5j=z at *
    repeat' ((first|(refine brS (fun h=>?_) (fun h=>?_)<;>(try rw [h])<;>(try simp only [bS,↓reduceIte] at h))|(refine A4 h1 ?_)|(refine A4 h2 ?_)|(rw [show (x.2.2.1.map quA).getD ((i3:Int)).toNat []=_ from hga (by omega)])|(rw [show (y.2.2.1.map quA).getD ((i3:Int)).toNat []=_ from hgb (by omega)])|(refine M5.of D9b D8a ?_)|refine gS ?_|refine aA ?_|refine nA ?_|fail)<;>(conv=>whnf))
    ·first|refine ⟨hs1,B2 ?_⟩|refine B2 ?_
     rename_i h
     rw [hp,hd (by omega) (by omega),← he,h]
     rfl
    ·rename_i h
     refine ⟨i3+1,eqa,B9,⟨by omega,h1,h2,hs1,?_⟩,by omega⟩
     rw [hp,hd (by omega) (by omega),← he,h,Bool.true_and]
    ·rw [C6 (by omega),C6 (by omega)] at hp
     simp only [decide_true,Bool.true_and] at hp
     refine AWp.loopA [10] [127,128,129,130,131,134,135,136,137,138,139,140,141,142,143,144,4,132,133] (fun i:Nat=>[.int .i64 i]) (fun i s'=>i≤x.2.2.2.1.length∧s'.bx b=some (31,trA tk x)∧s'.bx b2=some (31,trA k' y)∧Sub s s'∧decide (A2t x=A2t y)=(decide (x.2.2.2.1.drop i=y.2.2.2.1.drop i) && (decide (x.2.2.2.2.1=y.2.2.2.2.1)))) (fun i=>x.2.2.2.1.length - i) (0) (by kernel_rfl) (eqa) ?_ ?_
     ·exact ⟨by omega,h1,h2,hs1,by simpa using hp⟩
     ·rintro q i4 s4 ⟨hi4,h1,h2,hs1,hp⟩
      conv=>whnf
      have hga:=fun h:i4 < x.2.2.2.1.length=>C1 (f:=frA) (l:=x.2.2.2.1) A5i h
      have hgb:=fun h:i4 < y.2.2.2.1.length=>C1 (f:=frA) (l:=y.2.2.2.1) A5i h
      have he:=D81 (x.2.2.2.1.getD i4 A5i) (y.2.2.2.1.getD i4 A5i)
      have hd:=fun (h:i4 < x.2.2.2.1.length) (h':i4 < y.2.2.2.1.length)=>R2 (d:=A5i) h h'
      generalize x.2.2.2.1.getD i4 A5i=u at *
      generalize y.2.2.2.1.getD i4 A5i=z at *
      repeat' ((first|(refine brS (fun h=>?_) (fun h=>?_)<;>(try rw [h])<;>(try simp only [bS,↓reduceIte] at h))|(refine A4 h1 ?_)|(refine A4 h2 ?_)|(rw [show (x.2.2.2.1.map frA).getD ((i4:Int)).toNat []=_ from hga (by omega)])|(rw [show (y.2.2.2.1.map frA).getD ((i4:Int)).toNat []=_ from hgb (by omega)])|(refine M5.of D9a D79 ?_)|refine gS ?_|refine aA ?_|refine nA ?_|fail)<;>(conv=>whnf))
      ·first|refine ⟨hs1,B2 ?_⟩|refine B2 ?_
       rename_i h
       rw [hp,hd (by omega) (by omega),← he,h]
       rfl
      ·rename_i h
       refine ⟨i4+1,eqa,B9,⟨by omega,h1,h2,hs1,?_⟩,by omega⟩
       rw [hp,hd (by omega) (by omega),← he,h,Bool.true_and]
      ·rw [C6 (by omega),C6 (by omega)] at hp
       simp only [decide_true,Bool.true_and] at hp
       refine AWp.loopA [11] [145,146,147,148,149,152,153,154,155,156,157,158,159,160,161,162,4,150,151] (fun i:Nat=>[.int .i64 i]) (fun i s'=>i≤x.2.2.2.2.1.length∧s'.bx b=some (31,trA tk x)∧s'.bx b2=some (31,trA k' y)∧Sub s s'∧decide (A2t x=A2t y)=(decide (x.2.2.2.2.1.drop i=y.2.2.2.2.1.drop i))) (fun i=>x.2.2.2.2.1.length - i) (0) (by kernel_rfl) (eqa) ?_ ?_
       ·exact ⟨by omega,h1,h2,hs1,by simpa using hp⟩
       ·rintro q i5 s5 ⟨hi5,h1,h2,hs1,hp⟩
        conv=>whnf
        have hga:=fun h:i5 < x.2.2.2.2.1.length=>C1 (f:=stA) (l:=x.2.2.2.2.1) A5k h
        have hgb:=fun h:i5 < y.2.2.2.2.1.length=>C1 (f:=stA) (l:=y.2.2.2.2.1) A5k h
        have he:=D84 (x.2.2.2.2.1.getD i5 A5k) (y.2.2.2.2.1.getD i5 A5k)
        have hd:=fun (h:i5 < x.2.2.2.2.1.length) (h':i5 < y.2.2.2.2.1.length)=>R2 (d:=A5k) h h'
        generalize x.2.2.2.2.1.getD i5 A5k=u at *
        generalize y.2.2.2.2.1.getD i5 A5k=z at *
        repeat' ((first|(refine brS (fun h=>?_) (fun h=>?_)<;>(try rw [h])<;>(try simp only [bS,↓reduceIte] at h))|(refine A4 h1 ?_)|(refine A4 h2 ?_)|(rw [show (x.2.2.2.2.1.map stA).getD ((i5:Int)).toNat []=_ from hga (by omega)])|(rw [show (y.2.2.2.2.1.map stA).getD ((i5:Int)).toNat []=_ from hgb (by omega)])|(refine M5.of D9d D8c ?_)|refine gS ?_|refine aA ?_|refine nA ?_|fail)<;>(conv=>whnf))
        ·first|refine ⟨hs1,B2 ?_⟩|refine B2 ?_
         rename_i h
         rw [hp,hd (by omega) (by omega),← he,h]
         rfl
        ·rename_i h
         refine ⟨i5+1,eqa,B9,⟨by omega,h1,h2,hs1,?_⟩,by omega⟩
         rw [hp,hd (by omega) (by omega),← he,h,Bool.true_and]
        ·rw [C6 (by omega),C6 (by omega)] at hp
         simp only [decide_true,Bool.and_true,Bool.true_and] at hp
         first|refine ⟨hs1,B2 ?_⟩|refine B2 ?_
         rw [hp]
         try rfl
abbrev KeyH:=Idn × Idn × List De × List Qu × List Fr × List St
instance decKeyH:DecidableEq KeyH:=decH1
instance decK2:DecidableEq (List Sy × List Tn):=instDecidableEqProd
instance decK1:DecidableEq (KeyH × List Sy × List Tn):=instDecidableEqProd
def A2u (x:Tr0):KeyH × List Sy × List Tn:=(A2t x,x.2.2.2.2.2.2.1.map Prod.snd,x.2.2.2.2.2.2.2.map Prod.snd)
theorem D5f (x y:Tr0):decide (A2u x=A2u y)=(decide (A2t x=A2t y) && (decide (x.2.2.2.2.2.2.1.map Prod.snd=y.2.2.2.2.2.2.1.map Prod.snd) && decide (x.2.2.2.2.2.2.2.map Prod.snd=y.2.2.2.2.2.2.2.map Prod.snd))):=by
 rw [Bool.eq_iff_iff];unfold A2u;simp only [Bool.and_eq_true,decide_eq_true_eq,Prod.mk.injEq]
theorem D16 {x y:Tr0} (h:A2u x=A2u y):A2t x=A2t y∧x.2.2.2.2.2.2.1.length=y.2.2.2.2.2.2.1.length∧x.2.2.2.2.2.2.2.length=y.2.2.2.2.2.2.2.length:=by
 unfold A2u at h
 simp only [Prod.mk.injEq] at h
 exact ⟨h.1,B5k h.2.1,B5k h.2.2⟩
theorem B6l (tk k':Nat→Nat) (x y:Tr0) (hx:A2x x):A5 Tryz.prog Γ 13 [.agg (trA tk x),.agg (trA k' y)] fun v=>v=.bool (decide (A2u x=A2u y)):=by
 have hx':=hx
 obtain ⟨⟨_,_,_,_,m5,m6⟩,_,m8,m9⟩:=hx
 have l9:(x.2.2.2.2.2.2.1.map syA).length=x.2.2.2.2.2.2.1.length:=List.length_map ..
 have l10:(y.2.2.2.2.2.2.1.map syA).length=y.2.2.2.2.2.2.1.length:=List.length_map ..
 have l11:(x.2.2.2.2.2.2.2.map tnA).length=x.2.2.2.2.2.2.2.length:=List.length_map ..
 have l12:(y.2.2.2.2.2.2.2.map tnA).length=y.2.2.2.2.2.2.2.length:=List.length_map ..
 refine aps Tryz.func13 ?_
 intro s
 conv=>whnf
 intro b hb
 conv=>whnf
 intro b2 hb2
 conv=>whnf
 repeat' ((first|(refine brS (fun h=>?_) (fun h=>?_)<;>(try rw [h])<;>(try simp only [bS,↓reduceIte] at h))|(refine L7 (A3 A1 hb2) (A4 A1 ?_))|(refine A0.pure' ?_ (B6k tk k' x y hx');rintro _ rfl)|refine A8.pure ?_ (B6k tk k' x y hx')|refine gS ?_|refine aA ?_|refine nA ?_|fail)<;>(conv=>whnf))
 all_goals try (refine ⟨((Sub.refl _).set hb _ _).set (D0 hb2).2 _ _,B2 (decide_eq_false (fun he=>?_)).symm⟩;obtain ⟨e1,e2,e3⟩:=D16 he;first|omega|contradiction)
 have hp0:decide (A2u x=A2u y)=(decide (x.2.2.2.2.2.2.1.map Prod.snd=y.2.2.2.2.2.2.1.map Prod.snd) && decide (x.2.2.2.2.2.2.2.map Prod.snd=y.2.2.2.2.2.2.2.map Prod.snd)):=by
  simp [D5f, *]
  try grind
 refine AWp.loopA [5] [29,30,31,32,33,36,37,38,39,40,41,42,43,44,45,46,47,4,34,35] (fun i:Nat=>[.int .i64 i]) (fun i s'=>i≤x.2.2.2.2.2.2.1.length∧s'.bx b=some (31,trA tk x)∧s'.bx b2=some (31,trA k' y)∧Sub s s'∧decide (A2u x=A2u y)=(decide ((x.2.2.2.2.2.2.1.map Prod.snd).drop i=(y.2.2.2.2.2.2.1.map Prod.snd).drop i) && decide (x.2.2.2.2.2.2.2.map Prod.snd=y.2.2.2.2.2.2.2.map Prod.snd))) (fun i=>x.2.2.2.2.2.2.1.length - i) (0) (by kernel_rfl) (eqa) ?_ ?_
 ·exact ⟨by omega,(A2 (A3 A1 hb2)).trans A1,A1,((Sub.refl _).set hb _ _).set (D0 hb2).2 _ _,by simpa using hp0⟩
 ·rintro q i s1 ⟨hi1,h1,h2,hs1,hp⟩
  conv=>whnf
  have hga:=fun h:i < x.2.2.2.2.2.2.1.length=>C1 (f:=syA) (l:=x.2.2.2.2.2.2.1) A34 h
  have hgb:=fun h:i < y.2.2.2.2.2.2.1.length=>C1 (f:=syA) (l:=y.2.2.2.2.2.2.1) A34 h
  have hd:=fun (h:i < x.2.2.2.2.2.2.1.length) (h':i < y.2.2.2.2.2.2.1.length)=>B1y (k:=Prod.snd) (d:=A34) h h'
  have hmm:=fun h:i < x.2.2.2.2.2.2.1.length=>m8 _ (E4 A34 h)
  generalize x.2.2.2.2.2.2.1.getD i A34=u at *
  generalize y.2.2.2.2.2.2.1.getD i A34=z at *
  repeat' ((first|(refine brS (fun h=>?_) (fun h=>?_)<;>(try rw [h])<;>(try simp only [bS,↓reduceIte] at h))|(refine A4 h1 ?_)|(refine A4 h2 ?_)|(rw [show (x.2.2.2.2.2.2.1.map syA).getD ((i:Int)).toNat []=_ from hga (by omega)])|(rw [show (y.2.2.2.2.2.2.1.map syA).getD ((i:Int)).toNat []=_ from hgb (by omega)])|(refine A0.pure' ?_ (B1a u z (by have:=hmm (by omega);omega));rintro _ rfl)|refine A8.pure ?_ (B1a u z (by have:=hmm (by omega);omega))|refine gS ?_|refine aA ?_|refine nA ?_|fail)<;>(conv=>whnf))
  ·first|refine ⟨hs1,B2 ?_⟩|refine B2 ?_
   rw [hp,hd (by omega) (by omega),decide_eq_false (by assumption)]
   rfl
  ·refine ⟨i+1,eqa,B9,⟨by omega,h1,h2,hs1,?_⟩,by omega⟩
   rw [hp,hd (by omega) (by omega),decide_eq_true (by assumption),Bool.true_and]
  ·rw [C6 (by rw [List.length_map];omega),C6 (by rw [List.length_map];omega)] at hp
   simp only [decide_true,Bool.true_and] at hp
   refine AWp.loopA [6] [48,49,50,51,52,55,56,57,58,59,60,61,62,63,64,65,66,4,53,54] (fun i:Nat=>[.int .i64 i]) (fun i s'=>i≤x.2.2.2.2.2.2.2.length∧s'.bx b=some (31,trA tk x)∧s'.bx b2=some (31,trA k' y)∧Sub s s'∧decide (A2u x=A2u y)=decide ((x.2.2.2.2.2.2.2.map Prod.snd).drop i=(y.2.2.2.2.2.2.2.map Prod.snd).drop i)) (fun i=>x.2.2.2.2.2.2.2.length - i) (0) (by kernel_rfl) (eqa) ?_ ?_
   ·exact ⟨by omega,h1,h2,hs1,by simpa using hp⟩
   ·rintro q i s1 ⟨hi1,h1,h2,hs1,hp⟩
    conv=>whnf
    have hga:=fun h:i < x.2.2.2.2.2.2.2.length=>C1 (f:=tnA) (l:=x.2.2.2.2.2.2.2) A0q h
    have hgb:=fun h:i < y.2.2.2.2.2.2.2.length=>C1 (f:=tnA) (l:=y.2.2.2.2.2.2.2) A0q h
    have hd:=fun (h:i < x.2.2.2.2.2.2.2.length) (h':i < y.2.2.2.2.2.2.2.length)=>B1y (k:=Prod.snd) (d:=A0q) h h'
    have hmm:=fun h:i < x.2.2.2.2.2.2.2.length=>m9 _ (E4 A0q h)
    generalize x.2.2.2.2.2.2.2.getD i A0q=u at *
    generalize y.2.2.2.2.2.2.2.getD i A0q=z at *
    repeat' ((first|(refine brS (fun h=>?_) (fun h=>?_)<;>(try rw [h])<;>(try simp only [bS,↓reduceIte] at h))|(refine A4 h1 ?_)|(refine A4 h2 ?_)|(rw [show (x.2.2.2.2.2.2.2.map tnA).getD ((i:Int)).toNat []=_ from hga (by omega)])|(rw [show (y.2.2.2.2.2.2.2.map tnA).getD ((i:Int)).toNat []=_ from hgb (by omega)])|(refine A0.pure' ?_ (C3y u z (by have:=hmm (by omega);omega) (by have:=hmm (by omega);omega) (by have:=hmm (by omega);omega));rintro _ rfl)|refine A8.pure ?_ (C3y u z (by have:=hmm (by omega);omega) (by have:=hmm (by omega);omega) (by have:=hmm (by omega);omega))|refine gS ?_|refine aA ?_|refine nA ?_|fail)<;>(conv=>whnf))
    ·first|refine ⟨hs1,B2 ?_⟩|refine B2 ?_
     rw [hp,hd (by omega) (by omega),decide_eq_false (by assumption)]
     rfl
    ·refine ⟨i+1,eqa,B9,⟨by omega,h1,h2,hs1,?_⟩,by omega⟩
     rw [hp,hd (by omega) (by omega),decide_eq_true (by assumption),Bool.true_and]
    ·rw [C6 (by rw [List.length_map];omega),C6 (by rw [List.length_map];omega)] at hp
     first|refine ⟨hs1,B2 ?_⟩|refine B2 ?_
     rw [hp]
     rfl
end Go.Proofs.YticnkpgmmpenlaaGreatDoor.Tr
namespace Go.Proofs.YticnkpgmmpenlaaGreatDoor.Pa
open Go Go.Ab Go.RowKit Go.Proofs.YticnkpgmmpenlaaGreatDoor.Lx
def F9 (L:List Tok) (a:Nat):Res (Tr.Idn × Nat) :=
 if (B0 L a).1≠1∨(B0 L a).2.1=[95] then A1u L a 16 else .ok (((B0 L a).2.1,(B0 L a).2.2.1,(B0 L a).2.2.2),a+1)
def C7 (L:List Tok):List (List UInt8)→Nat→Res Nat
 | [],a=>.ok a
 | w::r,a=>if isF L a w=true then C7 L r (a+1) else A1u L a 16
def V3 (L:List Tok) (ws:List (List UInt8)) (a:Nat):Res (Tr.Idn × Nat) :=
 match F9 L a with
 | .error e=>.error e
 | .ok (x,a1)=>match C7 L ws a1 with
  | .error e=>.error e
  | .ok a2=>.ok (x,a2)
def A1b (L:List Tok) (a:Nat):Res (Int × Nat) :=
 if isF L a [105,110,116]=true then .ok (1,a+1) else if isF L a [115,116,114,105,110,103]=true then .ok (2,a+1) else if isF L a [98,111,111,108]=true then .ok (3,a+1) else A1u L a 16
def A68 (L:List Tok) (a:Nat):Res (Tr.Ar × Nat) :=
 if (B0 L a).1=1∧(B0 L a).2.1=[95] then .ok ((3,[],Tr.R3,(B0 L a).2.2.1,(B0 L a).2.2.2),a+1)
 else if (B0 L a).1≠1 then
  match J6 L a with
  | .error e=>.error e
  | .ok (v,a')=>.ok ((1,[],v,(B0 L a).2.2.1,(B0 L a).2.2.2),a')
 else .ok ((2,(B0 L a).2.1,Tr.R3,(B0 L a).2.2.1,(B0 L a).2.2.2),a+1)
section
variable {α:Type}
def X7 (L:List Tok) (one:Nat→Res (α × Nat)):Nat→List α→Nat→Res (List α × Nat)
 | 0,acc,a=>.ok (acc,a)
 | n+1,acc,a=>match one a with
  | .error e=>.error e
  | .ok (x,a1)=>if isF L a1 [44]=true then X7 L one n (acc++[x]) (a1+1)
   else if isF L a1 [41]=true then .ok (acc++[x],a1+1) else A1u L a1 16
def A1d (L:List Tok) (one:Nat→Res (α × Nat)) (a:Nat):Res (List α × Nat) :=
 if isF L a [40]=true then (if isF L (a+1) [41]=true then .ok ([],a+2) else X7 L one (L.length+1) [] (a+1)) else A1u L a 16
def L9 (L:List Tok) (a:Nat):List (List UInt8)→Nat
 | []=>0
 | w::r=>if isF L a w=true then 0 else L9 L a r+1
def F4 (L:List Tok) (ws:List (List UInt8)) (one:Nat→Nat→Res (α × Nat)):Nat→List α→Nat→Res (List α × Nat)
 | 0,acc,a=>.ok (acc,a)
 | n+1,acc,a=>if L9 L a ws=ws.length then .ok (acc,a) else match one (L9 L a ws) (a+1) with
  | .error e=>.error e
  | .ok (x,a1)=>F4 L ws one n (acc++[x]) a1
def N0 (L:List Tok) (ws:List (List UInt8)) (one:Nat→Nat→Res (α × Nat)) (a:Nat):Res (List α × Nat):=F4 L ws one (L.length+1) [] a
end
def K6 (L:List Tok) (a:Nat):Res (Tr.Sy × Nat) :=
 match F9 L a with
 | .error e=>.error e
 | .ok (x,a1)=>match A1d L (A68 L) a1 with
  | .error e=>.error e
  | .ok (l,a2)=>.ok ((x.1,l,x.2.1,x.2.2),a2)
def A06 (L:List Tok) (a:Nat):Res (Tr.De × Nat) :=
 match F9 L a with
 | .error e=>.error e
 | .ok (x,a1)=>match A1d L (A1b L) a1 with
  | .error e=>.error e
  | .ok (l,a2)=>.ok ((x,l),a2)
def W4 (L:List Tok) (all:Bool) (a:Nat):Res (Tr.Qu × Nat) :=
 match V3 L [[58]] a with
 | .error e=>.error e
 | .ok (x,a1)=>match A1b L a1 with
  | .error e=>.error e
  | .ok (k,a2)=>.ok ((all,x,k),a2)
def A1v (L:List Tok) (a:Nat):Res (Tr.Fr × Nat) :=
 match V3 L [[61]] a with
 | .error e=>.error e
 | .ok (x,a1)=>match J6 L a1 with
  | .error e=>.error e
  | .ok (v,a2)=>.ok ((x,v),a2)
def K7:List UInt8:=[97,99,99,101,112,116]
def Y1 (L:List Tok) (next:Bool) (a:Nat):Res (Tr.St × Nat) :=
 match F9 L a with
 | .error e=>.error e
 | .ok (x,a1)=>.ok ((x,next,isF L a1 K7),if isF L a1 K7=true then a1+1 else a1)
def B2x (L:List Tok) (s:St):Res St:=ev L (A0b L) 0 s
def B6r (L:List Tok) (s:St):Res (Tr.Se × St) :=
 match V3 L [[61]] s.a with
 | .error e=>.error e
 | .ok (x,a1)=>match B2x L { s with a:=a1 } with
  | .error e=>.error e
  | .ok s2=>.ok ((x,(s2.o.length:Int) - 1),s2)
def A01 (L:List Tok):Nat→List Tr.Se→St→Res (List Tr.Se × St)
 | 0,acc,s=>.ok (acc,s)
 | n+1,acc,s=>match B6r L s with
  | .error e=>.error e
  | .ok (x,s2)=>if isF L s2.a [44]=true then A01 L n (acc++[x]) { s2 with a:=s2.a+1 } else .ok (acc++[x],s2)
def B6u (L:List Tok) (s:St):Res (List Tr.Se × St):=A01 L (L.length+1) [] s
structure A05 where
 from_:Tr.Idn
 to_:Tr.Idn
 on:Tr.Sy
 nodes:List Ex
 guard:Int
 sets:List Tr.Se
def A0m (L:List Tok) (s:St):Res (Int × St) :=
 if isF L s.a [105,102]=true then
  match B2x L { s with a:=s.a+1 } with
  | .error e=>.error e
  | .ok s2=>.ok ((s2.o.length:Int) - 1,s2)
 else .ok (-1,s)
def doF (L:List Tok) (s:St):Res (List Tr.Se × St) :=
 if isF L s.a [100,111]=true then B6u L { s with a:=s.a+1 } else .ok ([],s)
def H5 (L:List Tok) (k:Int) (a:Nat):Res (A05 × Nat) :=
 match V3 L [[111,110]] a with
 | .error e=>.error e
 | .ok (fr,a1)=>match K6 L a1 with
  | .error e=>.error e
  | .ok (sy,a2)=>match A0m L ⟨a2,[],[],k⟩ with
   | .error e=>.error e
   | .ok (g,s3)=>match doF L s3 with
    | .error e=>.error e
    | .ok (ses,s4)=>match C7 L [[116,111]] s4.a with
     | .error e=>.error e
     | .ok a5=>match F9 L a5 with
      | .error e=>.error e
      | .ok (tw,a6)=>.ok (⟨fr,tw,sy,s4.o,g,ses⟩,a6)
structure Head where
 name:Tr.Idn
 decls:List Tr.De
 quants:List Tr.Qu
 frees:List Tr.Fr
 states:List Tr.St
 start:Tr.Idn
 also:List Tr.Sy
def B1k:List UInt8:=[113,101,97]
def A17:List UInt8:=[101,118,101,110,116]
def R6:List UInt8:=[101,120,105,115,116,115]
def wForall:List UInt8:=[102,111,114,97,108,108]
def A21:List UInt8:=[102,114,101,101]
def A1x:List UInt8:=[115,107,105,112]
def wNext:List UInt8:=[110,101,120,116]
def Y5:List UInt8:=[115,116,97,114,116]
def P0:List UInt8:=[97,108,115,111]
def T7 (L:List Tok) (a:Nat):Res (Head × Nat) :=
 match C7 L [B1k] a with
 | .error e=>.error e
 | .ok a1=>match F9 L a1 with
  | .error e=>.error e
  | .ok (nm,a2)=>match N0 L [A17] (fun _=>A06 L) a2 with
   | .error e=>.error e
   | .ok (ds,a3)=>match N0 L [R6,wForall] (fun i=>W4 L (decide (i=1))) a3 with
    | .error e=>.error e
    | .ok (qs,a4)=>match N0 L [A21] (fun _=>A1v L) a4 with
     | .error e=>.error e
     | .ok (fs,a5)=>match N0 L [A1x,wNext] (fun i=>Y1 L (decide (i=1))) a5 with
      | .error e=>.error e
      | .ok (ss,a6)=>match C7 L [Y5] a6 with
       | .error e=>.error e
       | .ok a7=>match F9 L a7 with
        | .error e=>.error e
        | .ok (st,a8)=>match N0 L [P0] (fun _=>K6 L) a8 with
         | .error e=>.error e
         | .ok (al,a9)=>.ok (⟨nm,ds,qs,fs,ss,st,al⟩,a9)
def Y4 (L:List Tok):Nat→List A05→Nat→Res (List A05)
 | 0,acc,_=>.ok acc
 | n+1,acc,a=>if a < L.length then (match H5 L 0 a with
  | .error e=>.error e
  | .ok (t,a1)=>Y4 L n (acc++[t]) a1) else .ok acc
def Z6 (L:List Tok):Res (Head × List A05) :=
 match T7 L 0 with
 | .error e=>.error e
 | .ok (h,a)=>match Y4 L (L.length+1) [] a with
  | .error e=>.error e
  | .ok ts=>.ok (h,ts)
end Go.Proofs.YticnkpgmmpenlaaGreatDoor.Pa
namespace Go.Proofs.YticnkpgmmpenlaaGreatDoor.Pa
open Go Go.Ab Go.RowKit Go.Proofs.YticnkpgmmpenlaaGreatDoor.Lx
variable {Γ:Nat→AV}
attribute [local irreducible] A5 Sto.set Sto.grow
section
variable {s0 s:Sto} {bp bl:Nat} {L:List Tok} {a:Nat} {o:List Ex} {d:List Int} {k:Int}
def K1 {α:Type} (s0:Sto) (bp bl:Nat) (L:List Tok) (o:List Ex) (d:List Int) (k:Int) (V:α→AV) (r:Res (α × Nat)) (v:AV) (s':Sto):Prop :=
 match r with
 | .ok (x,a')=>v=.tuple [V x,.nilIface]∧Pst s0 s' bp bl L a' o d k
 | .error x=>∃ y e a',v=.tuple [V y,e]∧A8x x e∧Pst s0 s' bp bl L a' o d k
def A89 (s0:Sto) (bp bl:Nat) (L:List Tok) (o:List Ex) (d:List Int) (k:Int) (r:Res Nat) (v:AV) (s':Sto):Prop :=
 match r with
 | .ok a'=>v=.nilIface∧Pst s0 s' bp bl L a' o d k
 | .error x=>∃ a',A8x x v∧Pst s0 s' bp bl L a' o d k
theorem A1f (hP:Pst s0 s bp bl L a o d k) (hL:L.length≤100000) (ha:a≤90000) :
  A0 Tryz.prog Γ 165 [.ptr (some ⟨bp,0,none⟩)] s (K1 s0 bp bl L o d k (fun x=>.agg (Tr.W8 x)) (F9 L a)):=by
 have hw:IntKind.i64.wrap ((a:Int)+1)=((a+1:Nat):Int):=C3 (by omega) (by omega) (by omega)
 have htok:∃ p1 p2 p3 p4,B0 L a=(p1,p2,p3,p4):=⟨_,_,_,_,rfl⟩
 obtain ⟨p1,p2,p3,p4,hp⟩:=htok
 refine acs Tryz.func165 ?_
 conv=>whnf
 intro b2 hb2
 conv=>whnf
 obtain ⟨m1,m2⟩:=hP.nb hb2
 have c2:s0.bx b2=none:=hP.sub.none hb2
 have hP2:=hP.box hb2 23 [.str [],.int .i64 0,.int .i64 0]
 have hb2':(s.set b2 23 [.str [],.int .i64 0,.int .i64 0]).bx b2=some (23,[.str [],.int .i64 0,.int .i64 0]):=A1
 have hpk2:=A0j (Γ:=Γ) hP2.pl (by omega) (by omega)
 rw [hp] at hpk2
 simp only [P3] at hpk2
 obtain ⟨t1',t2',hb0',_⟩:=hP2.pr
 generalize s.set b2 23 [.str [],.int .i64 0,.int .i64 0]=sa at *
 refine wp ?_;(refine A0.by hpk2 ?_;rintro _ s4 ⟨rfl,hs4⟩;subst s4);refine wp ?_
 intro b4 hb4
 obtain ⟨m3,m4⟩:=hP2.nb hb4
 have n_b2_b4:b2≠b4:=A3 hb2' hb4
 have hPb:=(hP2.box hb4 163 [.int .i64 0,.str [],.int .i64 0,.int .i64 0]).put (hP2.sub.none hb4) m3 m4 163 (P3 (p1,p2,p3,p4))
 have hb2b:((sa.set b4 163 [.int .i64 0,.str [],.int .i64 0,.int .i64 0]).set b4 163 (P3 (p1,p2,p3,p4))).bx b2=some (23,[.str [],.int .i64 0,.int .i64 0]):=((A2 n_b2_b4).trans (A2 n_b2_b4)).trans hb2'
 have hb4b:((sa.set b4 163 [.int .i64 0,.str [],.int .i64 0,.int .i64 0]).set b4 163 (P3 (p1,p2,p3,p4))).bx b4=some (163,P3 (p1,p2,p3,p4)):=A1
 conv=>whnf
 repeat' ((first|exact pru|(refine brS (fun h=>?_) (fun h=>?_)<;>(try rw [h])<;>(try simp only [bS,↓reduceIte] at h))|refine D3 ?_|refine gS ?_|refine aA ?_|refine nA ?_|fail)<;>(conv=>whnf))
 all_goals (
  simp only [P3] at hPb hb2b hb4b
  generalize (sa.set b4 163 _).set b4 163 _=sb at *
  obtain ⟨u1,u2,hbb,_⟩:=hPb.pr)
 ·have e:F9 L a=A1u L a 16:=by unfold F9;rw [hp];exact if_pos (.inl (by assumption))
  refine A0.by (A24 hPb (by omega) (by omega) 16) ?_
  rintro _ s9 ⟨rfl,hs9⟩;subst s9
  refine wp ?_
  refine ⟨_,Sub.refl _,?_⟩
  rw [e]
  exact ⟨(([],0,0):Tr.Idn),_,_,rfl,Y7 L a 16,hPb.put c2 m1 m2 _ _⟩
 refine wp ?_
 ·have e:F9 L a=A1u L a 16:=by unfold F9;rw [hp];exact if_pos (.inr (by assumption))
  refine A0.by (A24 hPb (by omega) (by omega) 16) ?_
  rintro _ s9 ⟨rfl,hs9⟩;subst s9
  refine wp ?_
  refine ⟨_,Sub.refl _,?_⟩
  rw [e]
  exact ⟨(([],0,0):Tr.Idn),_,_,rfl,Y7 L a 16,hPb.put c2 m1 m2 _ _⟩
 ·have e:F9 L a=.ok ((p2,p3,p4),a+1):=by
   unfold F9;rw [hp]
   exact if_neg (fun h=>h.elim (by first|omega|assumption|(intro h;contradiction)) (by assumption))
  repeat' ((first|exact pru|(refine brS (fun h=>?_) (fun h=>?_)<;>(try rw [h])<;>(try simp only [bS,↓reduceIte] at h))|(refine A4 hbb ?_)|(refine A4 hPb.pl ?_)|(rw [hw])|(refine A4 ((A2 m4).trans hb4b) ?_)|(refine A4 ((A2 m2).trans hb2b) ?_)|refine gS ?_|refine aA ?_|refine nA ?_|fail)<;>(conv=>whnf))
  refine ⟨_,Sub.refl _,?_⟩
  rw [e]
  exact ⟨rfl,(hPb.next (a+1)).put c2 m1 m2 _ _⟩
theorem C01 {x:Tr.Idn} {a1:Nat} (h:F9 L a=.ok (x,a1)):a1=a+1:=by
 unfold F9 at h
 split at h
 ·cases h
 ·cases h;rfl
theorem A1o (hP:Pst s0 s bp bl L a o d k) (hL:L.length≤100000) (ha:a≤90000) (ws:List (List UInt8)) (hws:ws.length≤100) (tk:Nat) :
  A0 Tryz.prog Γ 163 [.ptr (some ⟨bp,0,none⟩),.slice tk (B8 ws)] s (A89 s0 bp bl L o d k (C7 L ws a)):=by
 have hsl:(B8 ws).length=ws.length:=by simp [B8]
 refine acs Tryz.func163 ?_
 refine wp ?_
 refine AWp.loopA [9] [10,11,12,6,13,14,15,16,17,18,4,19] (fun i:Nat=>[.int .i64 (i:Int)]) (fun i s'=>i≤ws.length∧Pst s0 s' bp bl L (a+i) o d k∧C7 L ws a=C7 L (ws.drop i) (a+i)) (fun i=>ws.length - i) (0) (by kernel_rfl) (eqa) ?_ ?_
 ·exact ⟨Nat.zero_le _,hP,rfl⟩
 ·rintro x i s' ⟨hi,hPi,hq⟩
  show awp _ _ _ _ _ (updL _ _ [.int .i64 (i:Int)]) _
  conv=>whnf
  have hw2:IntKind.i64.wrap ((i:Int)+1)=((i+1:Nat):Int):=C3 (by omega) (by omega) (by omega)
  rw [hq]
  by_cases hlt:i < ws.length
  ·have hg:(B8 ws).getD ((i:Int)).toNat []=[.str (ws.getD i [])]:=by simp [B8,List.getD,hlt]
   have hd:ws.drop i=ws.getD i []::ws.drop (i+1):=by rw [List.drop_eq_getElem_cons hlt];simp [List.getD,hlt]
   rw [hd] at hq ⊢
   generalize ws.getD i []=w at *
   have htk:=V9 (Γ:=Γ) hPi (by omega) (by omega) w
   cases hi1:isF L (a+i) w
   ·have e:C7 L (w::ws.drop (i+1)) (a+i)=A1u L (a+i) 16:=by rw [C7,hi1,if_neg (by decide)]
    rw [hi1] at htk
    simp only [Bool.false_eq_true,if_false] at htk
    refine wp ?_;(refine A0.by htk ?_;rintro _ s2 ⟨rfl,hP2⟩);refine wp ?_;(refine A0.by (A24 (by assumption) (by omega) (by omega) 16) ?_;rintro _ s3 ⟨rfl,hs3⟩;subst s3);refine wp ?_
    refine ⟨_,Sub.refl _,?_⟩
    rw [e]
    exact ⟨a+i,Y7 L (a+i) 16,hP2⟩
   ·have e:C7 L (w::ws.drop (i+1)) (a+i)=C7 L (ws.drop (i+1)) (a+i+1):=by rw [C7,hi1,if_pos rfl]
    rw [hi1] at htk
    simp only [if_true] at htk
    refine wp ?_;(refine A0.by htk ?_;rintro _ s2 ⟨rfl,hP2⟩);refine wp ?_;(rw [hw2]);refine wp ?_
    exact ⟨i+1,eqa,B9,⟨hlt,hP2,e⟩,by omega⟩
  ·obtain rfl:i=ws.length:=by omega
   rw [List.drop_length]
   refine wp ?_
   exact ⟨_,Sub.refl _,rfl,hPi⟩
theorem B0t (hP:Pst s0 s bp bl L a o d k) (hL:L.length≤100000) (ha:a≤80000) (ws:List (List UInt8)) (hws:ws.length≤100) (tk:Nat) :
  A0 Tryz.prog Γ 188 [.ptr (some ⟨bp,0,none⟩),.slice tk (B8 ws)] s (K1 s0 bp bl L o d k (fun x=>.agg (Tr.W8 x)) (V3 L ws a)):=by
 refine acs Tryz.func188 ?_
 conv=>whnf
 intro b4 hb4
 conv=>whnf
 obtain ⟨m1,m2⟩:=hP.nb hb4
 have c4:s0.bx b4=none:=hP.sub.none hb4
 have hP4:=hP.box hb4 23 [.str [],.int .i64 0,.int .i64 0]
 have hb4':(s.set b4 23 [.str [],.int .i64 0,.int .i64 0]).bx b4=some (23,[.str [],.int .i64 0,.int .i64 0]):=A1
 generalize s.set b4 23 [.str [],.int .i64 0,.int .i64 0]=sa at *
 have hn:=A1f (Γ:=Γ) (hP4.keep hb4' m1 m2) hL (by omega)
 refine wp ?_
 refine A0.by hn ?_
 intro v s5 hv5
 unfold K1 at hv5
 unfold V3
 rcases hnf:F9 L a with x|⟨x,a1⟩
 ·rw [hnf] at hv5
  obtain ⟨y,e,a',rfl,⟨kd,tx,rfl⟩,hP5⟩:=hv5
  refine wp ?_
  intro b6 hb6
  obtain ⟨m5,m6⟩:=hP5.nb hb6
  have hP6:=(hP5.box hb6 23 [.str [],.int .i64 0,.int .i64 0]).put (hP5.sub.none hb6) m5 m6 23 (Tr.W8 y)
  obtain ⟨hP7,hb7⟩:=hP6.drop c4
  refine wp ?_
  exact ⟨_,Sub.refl _,y,_,_,rfl,⟨kd,tx,rfl⟩,hP7.put c4 m1 m2 _ _⟩
 ·rw [hnf] at hv5
  obtain ⟨rfl,hP5⟩:=hv5
  have ha1:=C01 hnf
  refine wp ?_
  intro b6 hb6
  obtain ⟨m5,m6⟩:=hP5.nb hb6
  have c6:=hP5.sub.none hb6
  have hP6:=(hP5.box hb6 23 [.str [],.int .i64 0,.int .i64 0]).put c6 m5 m6 23 (Tr.W8 x)
  have hb6':((s5.set b6 23 [.str [],.int .i64 0,.int .i64 0]).set b6 23 (Tr.W8 x)).bx b6=some (23,Tr.W8 x):=A1
  have hw:=A1o (Γ:=Γ) (hP6.keep hb6' m5 m6) hL (by omega) ws hws tk
  refine wp ?_
  refine A0.by hw ?_
  intro v s7 hv7
  unfold A89 at hv7
  rcases hwf:C7 L ws a1 with z|a2
  ·rw [hwf] at hv7
   obtain ⟨a',⟨kd,tx,rfl⟩,hP7⟩:=hv7
   obtain ⟨hP8,hb8⟩:=hP7.drop c6
   obtain ⟨hP9,hb9⟩:=hP8.drop c4
   refine wp ?_
   refine ⟨_,Sub.refl _,?_⟩
   simp only [hwf]
   exact ⟨x,_,_,rfl,⟨kd,tx,rfl⟩,hP9.put c4 m1 m2 _ _⟩
  ·rw [hwf] at hv7
   obtain ⟨rfl,hP7⟩:=hv7
   obtain ⟨hP8,hb8⟩:=hP7.drop c6
   obtain ⟨hP9,hb9⟩:=hP8.drop c4
   refine wp ?_
   refine ⟨_,Sub.refl _,?_⟩
   simp only [hwf]
   exact ⟨rfl,hP9.put c4 m1 m2 _ _⟩
theorem C64 (hP:Pst s0 s bp bl L a o d k) (hL:L.length≤100000) (ha:a≤90000) :
  A0 Tryz.prog Γ 229 [.ptr (some ⟨bp,0,none⟩)] s (K1 s0 bp bl L o d k (fun x=>.int .i64 x) (A1b L a)):=by
 refine acs Tryz.func229 ?_
 refine wp ?_
 refine AWp.loopA [8] [9,10,11,12,4,5,13,14,15,16,17,2,3,18] (fun i:Nat=>[.int .i64 (i:Int)]) (fun i s'=>i≤3∧Pst s0 s' bp bl L a o d k∧(0 < i→isF L a [105,110,116]=false)∧(1 < i→isF L a [115,116,114,105,110,103]=false)∧(2 < i→isF L a [98,111,111,108]=false)) (fun i=>3 - i) (0) (by kernel_rfl) (eqa) ?_ ?_
 ·exact ⟨by decide,hP,fun h=>by omega,fun h=>by omega,fun h=>by omega⟩
 ·rintro x i s' ⟨hi,hPi,q1,q2,q3⟩
  rcases (show i=0∨i=1∨i=2∨i=3 by omega) with rfl|rfl|rfl|rfl
  ·show awp _ _ _ _ _ (updL _ _ [.int .i64 ((0:Nat):Int)]) _
   conv=>whnf
   have htk:=V9 (Γ:=Γ) hPi (by omega) (by omega) [105,110,116]
   cases h1:isF L a [105,110,116]
   ·rw [h1] at htk
    simp only [Bool.false_eq_true,if_false] at htk
    refine wp ?_;(refine A0.by htk ?_;rintro _ s2 ⟨rfl,hP2⟩);refine wp ?_
    exact ⟨1,eqa,B9,⟨by decide,hP2,fun _=>rfl,fun h=>by omega,fun h=>by omega⟩,by decide⟩
   ·rw [h1] at htk
    simp only [if_true] at htk
    refine wp ?_;(refine A0.by htk ?_;rintro _ s2 ⟨rfl,hP2⟩);refine wp ?_
    refine ⟨_,Sub.refl _,?_⟩
    rw [A1b,if_pos h1]
    exact ⟨rfl,hP2⟩
  ·show awp _ _ _ _ _ (updL _ _ [.int .i64 ((1:Nat):Int)]) _
   conv=>whnf
   have htk:=V9 (Γ:=Γ) hPi (by omega) (by omega) [115,116,114,105,110,103]
   have p1:=q1 (by decide)
   cases h1:isF L a [115,116,114,105,110,103]
   ·rw [h1] at htk
    simp only [Bool.false_eq_true,if_false] at htk
    refine wp ?_;(refine A0.by htk ?_;rintro _ s2 ⟨rfl,hP2⟩);refine wp ?_
    exact ⟨2,eqa,B9,⟨by decide,hP2,fun _=>p1,fun _=>rfl,fun h=>by omega⟩,by decide⟩
   ·rw [h1] at htk
    simp only [if_true] at htk
    refine wp ?_;(refine A0.by htk ?_;rintro _ s2 ⟨rfl,hP2⟩);refine wp ?_
    refine ⟨_,Sub.refl _,?_⟩
    rw [A1b,if_neg (by rw [p1];decide),if_pos h1]
    exact ⟨rfl,hP2⟩
  ·show awp _ _ _ _ _ (updL _ _ [.int .i64 ((2:Nat):Int)]) _
   conv=>whnf
   have htk:=V9 (Γ:=Γ) hPi (by omega) (by omega) [98,111,111,108]
   have p1:=q1 (by decide)
   have p2:=q2 (by decide)
   cases h1:isF L a [98,111,111,108]
   ·rw [h1] at htk
    simp only [Bool.false_eq_true,if_false] at htk
    refine wp ?_;(refine A0.by htk ?_;rintro _ s2 ⟨rfl,hP2⟩);refine wp ?_
    exact ⟨3,eqa,B9,⟨by decide,hP2,fun _=>p1,fun _=>p2,fun _=>rfl⟩,by decide⟩
   ·rw [h1] at htk
    simp only [if_true] at htk
    refine wp ?_;(refine A0.by htk ?_;rintro _ s2 ⟨rfl,hP2⟩);refine wp ?_
    refine ⟨_,Sub.refl _,?_⟩
    rw [A1b,if_neg (by rw [p1];decide),if_neg (by rw [p2];decide),if_pos h1]
    exact ⟨rfl,hP2⟩
  ·show awp _ _ _ _ _ (updL _ _ [.int .i64 ((3:Nat):Int)]) _
   conv=>whnf
   have p1:=q1 (by decide)
   have p2:=q2 (by decide)
   have p3:=q3 (by decide)
   refine wp ?_;(refine A0.by (A24 hPi (by omega) (by omega) 16) ?_;rintro _ s3 ⟨rfl,hs3⟩;subst s3);refine wp ?_
   refine ⟨_,Sub.refl _,?_⟩
   rw [A1b,if_neg (by rw [p1];decide),if_neg (by rw [p2];decide),if_neg (by rw [p3];decide)]
   exact ⟨0,_,_,rfl,Y7 L a 16,hPi⟩
end
section
variable {s0 s:Sto} {bp bl:Nat} {L:List Tok} {a:Nat} {o:List Ex} {d:List Int} {k:Int}
theorem A3f:∀ {ws:List (List UInt8)} {a a2:Nat},C7 L ws a=.ok a2→a2=a+ws.length
 | [],a,a2,h=>by cases h;rfl
 | w::r,a,a2,h=>by
  rw [C7] at h
  split at h
  ·have:=A3f h
   rw [List.length_cons];omega
  ·cases h
theorem C7l {ws:List (List UInt8)} {x:Tr.Idn} {a1:Nat} (h:V3 L ws a=.ok (x,a1)):a1=a+1+ws.length:=by
 unfold V3 at h
 rcases hn:F9 L a with e|⟨y,b⟩
 ·rw [hn] at h;cases h
 ·rw [hn] at h
  simp only at h
  have h1:=C01 hn
  rcases hw:C7 L ws b with e|c
  ·rw [hw] at h;cases h
  ·rw [hw] at h
   have h2:=A3f hw
   cases h
   omega
theorem D25 (hP:Pst s0 s bp bl L a o d k) (hL:L.length≤100000) (ha:a≤80000) (al:Bool) :
  A0 Tryz.prog Γ 173 [.ptr (some ⟨bp,0,none⟩),.bool al] s (K1 s0 bp bl L o d k (fun x=>.agg (Tr.quA x)) (W4 L al a)):=by
 refine acs Tryz.func173 ?_
 conv=>whnf
 intro b4 hb4
 conv=>whnf
 obtain ⟨m1,m2⟩:=hP.nb hb4
 have c4:s0.bx b4=none:=hP.sub.none hb4
 have hP4:=hP.box hb4 75 [.bool false,.str [],.int .i64 0,.int .i64 0,.int .i64 0]
 have hb4':(s.set b4 75 [.bool false,.str [],.int .i64 0,.int .i64 0,.int .i64 0]).bx b4=some (75,[.bool false,.str [],.int .i64 0,.int .i64 0,.int .i64 0]):=A1
 generalize s.set b4 75 [.bool false,.str [],.int .i64 0,.int .i64 0,.int .i64 0]=sa at *
 have hn:=B0t (Γ:=Γ) (hP4.keep hb4' m1 m2) hL (by omega) [[58]] (by decide) 1
 refine wp ?_
 refine A0.by hn ?_
 intro v s5 hv5
 unfold K1 at hv5
 rcases hnf:V3 L [[58]] a with x|⟨x,a1⟩
 ·rw [hnf] at hv5
  obtain ⟨y,e,a',rfl,⟨kd,tx,rfl⟩,hP5⟩:=hv5
  refine wp ?_
  intro b6 hb6
  obtain ⟨m5,m6⟩:=hP5.nb hb6
  have hP6:=(hP5.box hb6 23 [.str [],.int .i64 0,.int .i64 0]).put (hP5.sub.none hb6) m5 m6 23 (Tr.W8 y)
  obtain ⟨hP7,hb7⟩:=hP6.drop c4
  refine wp ?_
  refine ⟨_,Sub.refl _,?_⟩
  unfold W4
  rw [hnf]
  exact ⟨((false,([],0,0),0):Tr.Qu),_,_,rfl,⟨kd,tx,rfl⟩,hP7.put c4 m1 m2 _ _⟩
 rw [hnf] at hv5
 obtain ⟨rfl,hP5⟩:=hv5
 have ha1:=C7l hnf
 simp only [List.length_cons,List.length_nil] at ha1
 refine wp ?_
 intro b6 hb6
 obtain ⟨m5,m6⟩:=hP5.nb hb6
 have c6:=hP5.sub.none hb6
 have hP6:=(hP5.box hb6 23 [.str [],.int .i64 0,.int .i64 0]).put c6 m5 m6 23 (Tr.W8 x)
 have hb6':((s5.set b6 23 [.str [],.int .i64 0,.int .i64 0]).set b6 23 (Tr.W8 x)).bx b6=some (23,Tr.W8 x):=A1
 have hk:=C64 (Γ:=Γ) (hP6.keep hb6' m5 m6) hL (by omega)
 refine wp ?_
 refine A0.by hk ?_
 intro v s7 hv7
 unfold K1 at hv7
 rcases hkf:A1b L a1 with z|⟨q,a2⟩
 ·rw [hkf] at hv7
  obtain ⟨yk,e,a',rfl,⟨kd,tx,rfl⟩,hP7⟩:=hv7
  obtain ⟨hP8,hb8⟩:=hP7.drop c6
  obtain ⟨hP9,hb9⟩:=hP8.drop c4
  refine wp ?_
  refine ⟨_,Sub.refl _,?_⟩
  unfold W4
  simp only [hnf,hkf]
  exact ⟨(al,x,yk),_,_,rfl,⟨kd,tx,rfl⟩,hP9.put c4 m1 m2 _ _⟩
 ·rw [hkf] at hv7
  obtain ⟨rfl,hP7⟩:=hv7
  obtain ⟨hP8,hb8⟩:=hP7.drop c6
  obtain ⟨hP9,hb9⟩:=hP8.drop c4
  refine wp ?_
  refine ⟨_,Sub.refl _,?_⟩
  unfold W4
  simp only [hnf,hkf]
  exact ⟨rfl,hP9.put c4 m1 m2 _ _⟩
theorem D5p (hE:Nu.Z8 Γ) (hT:∀ i,(B0 L i).2.1.length≤5000) (hP:Pst s0 s bp bl L a o d k) (hL:L.length≤100000) (ha:a≤80000) :
  A0 Tryz.prog Γ 177 [.ptr (some ⟨bp,0,none⟩)] s (K1 s0 bp bl L o d k (fun x=>.agg (Tr.frA x)) (A1v L a)):=by
 refine acs Tryz.func177 ?_
 conv=>whnf
 intro b4 hb4
 conv=>whnf
 obtain ⟨m1,m2⟩:=hP.nb hb4
 have c4:s0.bx b4=none:=hP.sub.none hb4
 have hP4:=hP.box hb4 58 [.str [],.int .i64 0,.int .i64 0,.int .i64 0,.int .i64 0,.str [],.bool false]
 have hb4':(s.set b4 58 [.str [],.int .i64 0,.int .i64 0,.int .i64 0,.int .i64 0,.str [],.bool false]).bx b4=some (58,[.str [],.int .i64 0,.int .i64 0,.int .i64 0,.int .i64 0,.str [],.bool false]):=A1
 generalize s.set b4 58 [.str [],.int .i64 0,.int .i64 0,.int .i64 0,.int .i64 0,.str [],.bool false]=sa at *
 have hn:=B0t (Γ:=Γ) (hP4.keep hb4' m1 m2) hL (by omega) [[61]] (by decide) 1
 refine wp ?_
 refine A0.by hn ?_
 intro v s5 hv5
 unfold K1 at hv5
 rcases hnf:V3 L [[61]] a with x|⟨x,a1⟩
 ·rw [hnf] at hv5
  obtain ⟨y,e,a',rfl,⟨kd,tx,rfl⟩,hP5⟩:=hv5
  refine wp ?_
  intro b6 hb6
  obtain ⟨m5,m6⟩:=hP5.nb hb6
  have hP6:=(hP5.box hb6 23 [.str [],.int .i64 0,.int .i64 0]).put (hP5.sub.none hb6) m5 m6 23 (Tr.W8 y)
  obtain ⟨hP7,hb7⟩:=hP6.drop c4
  refine wp ?_
  refine ⟨_,Sub.refl _,?_⟩
  unfold A1v
  rw [hnf]
  exact ⟨((([],0,0),0,0,[],false):Tr.Fr),_,_,rfl,⟨kd,tx,rfl⟩,hP7.put c4 m1 m2 _ _⟩
 rw [hnf] at hv5
 obtain ⟨rfl,hP5⟩:=hv5
 have ha1:=C7l hnf
 simp only [List.length_cons,List.length_nil] at ha1
 refine wp ?_
 intro b6 hb6
 obtain ⟨m5,m6⟩:=hP5.nb hb6
 have c6:=hP5.sub.none hb6
 have hP6:=(hP5.box hb6 23 [.str [],.int .i64 0,.int .i64 0]).put c6 m5 m6 23 (Tr.W8 x)
 have hb6':((s5.set b6 23 [.str [],.int .i64 0,.int .i64 0]).set b6 23 (Tr.W8 x)).bx b6=some (23,Tr.W8 x):=A1
 have hk:=B7h (Γ:=Γ) hE (hP6.keep hb6' m5 m6) hL (by omega) hT
 refine wp ?_
 refine A0.by hk ?_
 intro v s7 hv7
 unfold C1q at hv7
 rcases hkf:J6 L a1 with z|⟨q,a2⟩
 ·rw [hkf] at hv7
  obtain ⟨e,a',rfl,⟨kd,tx,rfl⟩,hP7⟩:=hv7
  refine wp ?_
  intro b9 hb9
  obtain ⟨m7,m8⟩:=hP7.nb hb9
  have c9:=hP7.sub.none hb9
  have hPa:=(hP7.box hb9 56 [.int .i64 0,.int .i64 0,.str [],.bool false]).put c9 m7 m8 56 (vlA (0,0,[],false))
  obtain ⟨hP8,hb8⟩:=hPa.drop c6
  obtain ⟨hPb,hbb⟩:=hP8.drop c4
  refine wp ?_
  refine ⟨_,Sub.refl _,?_⟩
  unfold A1v
  simp only [hnf,hkf]
  exact ⟨(x,0,0,[],false),_,_,rfl,⟨kd,tx,rfl⟩,hPb.put c4 m1 m2 _ _⟩
 ·rw [hkf] at hv7
  obtain ⟨rfl,hP7⟩:=hv7
  refine wp ?_
  intro b9 hb9
  obtain ⟨m7,m8⟩:=hP7.nb hb9
  have c9:=hP7.sub.none hb9
  have hPa:=(hP7.box hb9 56 [.int .i64 0,.int .i64 0,.str [],.bool false]).put c9 m7 m8 56 (vlA q)
  obtain ⟨hP8,hb8⟩:=hPa.drop c6
  obtain ⟨hPb,hbb⟩:=hP8.drop c4
  refine wp ?_
  refine ⟨_,Sub.refl _,?_⟩
  unfold A1v
  simp only [hnf,hkf]
  exact ⟨rfl,hPb.put c4 m1 m2 _ _⟩
end
end Go.Proofs.YticnkpgmmpenlaaGreatDoor.Pa
