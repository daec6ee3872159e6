/- Part 12 of what the closing text needs: ScC, ScE, CkAL, CkAM, CkAU, Ha1, Er2. No condition of mine beyond those that the theorems name. -/
import Derived.Lib.Join
import Derived.Test.YtaammejliikieaaGreatDoorG1
import Derived.Test.YtaammejliikieaaGreatDoorG8
import Derived.Test.YtaammejliikieaaGreatDoorCkAS
import Derived.Test.YtaammejliikieaaGreatDoorG11
import Derived.Test.YtaammejliikieaaGreatDoorCkAV
import Derived.Test.YtaammejliikieaaGreatDoorCkAK
import Derived.LaidHandle
import Derived.LaidLaws
import Derived.Lay
import Derived.Test.YtaammejliikieaaGreatDoorAb23
import Derived.Stop.LaidErr
set_option maxRecDepth 10000
set_option maxHeartbeats 60000000
set_option linter.all false
namespace Go.Proofs.YtaammejliikieaaGreatDoor.Pa
end Go.Proofs.YtaammejliikieaaGreatDoor.Pa
namespace Go.Proofs.YtaammejliikieaaGreatDoor.Sc
open Go Go.Ab Go.RowKit
variable {Γ:Nat→AV}
abbrev D:=List UInt8 × Nat × List Int
attribute [local irreducible] A8 Sto.set Sto.grow
def A84 (k:Int):List UInt8:=if k=1 then [105,110,116] else if k=2 then [115,116,114,105,110,103] else if k=3 then [98,111,111,108] else []
def D17 (nm:List UInt8) (ks:List Int):List UInt8:=nm++[40]++Lib.join (ks.map A84) [44,32]++[41]
theorem B3h (k:Int):(A84 k).length≤6:=by
 unfold A84
 split
 ·decide
 ·split
  ·decide
  ·split<;>decide
theorem B02 (sep x y:List UInt8) (r:List (List UInt8)):Lib.join (x::y::r) sep=x++sep++Lib.join (y::r) sep:=by
 simp [Lib.join,List.intercalate,List.intersperse]
theorem B61 (sep:List UInt8):∀ l:List Int,(Lib.join (l.map A84) sep).length≤(6+sep.length) * l.length
 | []=>by simp [Lib.join,List.intercalate]
 | [x]=>by
  have:=B3h x
  simp [Lib.join,List.intercalate];omega
 | x::y::l=>by
  have:=B3h x
  have ih:=B61 sep (y::l)
  simp only [List.map_cons] at ih ⊢
  rw [B02]
  simp only [List.length_append,List.length_cons] at ih ⊢
  rw [Nat.mul_succ]
  omega
end Go.Proofs.YtaammejliikieaaGreatDoor.Sc
namespace Go.Proofs.YtaammejliikieaaGreatDoor.Sc
open Go Go.Ab Go.RowKit
variable {Γ:Nat→AV}
attribute [local irreducible] A8 Sto.set Sto.grow
theorem B3g (sep x:List UInt8):∀ l:List (List UInt8),l≠[]→Lib.join (l++[x]) sep=Lib.join l sep++sep++x
 | [],h=>absurd rfl h
 | [y],_=>by simp [Lib.join,List.intercalate,List.intersperse]
 | y::z::l,_=>by
  have ih:=B3g sep x (z::l) (by simp)
  simp only [List.cons_append] at ih ⊢
  rw [B02,B02,ih]
  simp
def A1r (nm:List UInt8) (ks:List Int) (i:Nat):List UInt8:=nm++[40]++Lib.join ((ks.take i).map A84) [44,32]
theorem C2q {nm:List UInt8} {ks:List Int} {i:Nat} (h:i < ks.length):A1r nm ks (i+1)=(if 0 < i then A1r nm ks i++[44,32] else A1r nm ks i)++A84 (ks.getD i 0):=by
 have e:ks.take (i+1)=ks.take i++[ks.getD i 0]:=by rw [List.take_add_one];simp [List.getD,h]
 unfold A1r
 rw [e,List.map_append]
 split
 ·rename_i h0
  have hne:(ks.take i).map A84≠[]:=by
   intro hn
   have:=congrArg List.length hn
   rw [List.length_map,List.length_take,List.length_nil] at this
   omega
  rw [List.map_cons,List.map_nil,B3g _ _ _ hne]
  simp
 ·rename_i h0
  have:i=0:=by omega
  subst this
  simp [Lib.join,List.intercalate]
theorem C5e (nm:List UInt8) (ks:List Int) (i:Nat):(A1r nm ks i).length≤nm.length+1+8 * ks.length:=by
 have:=B61 [44,32] (ks.take i)
 simp only [List.length_cons,List.length_nil,List.length_take] at this
 simp only [A1r,List.length_append,List.length_cons,List.length_nil]
 omega
theorem B9o (nm:List UInt8) (tk:Nat) (ks:List Int) (h1:nm.length≤1048576) (h2:ks.length≤1048576) :
    A8 Tryz.prog Γ 76 [.agg [.str nm,.slice tk (G9 .i64 ks)]] fun v=>v=.str (D17 nm ks):=by
  have hbl:=H8 .i64 ks
  refine aps Tryz.func76 ?_
  intro s
  conv=>whnf
  intro b hb
  conv=>whnf
  repeat' (first
    | (refine ⟨Sub.refl _,?_⟩)
    | (refine L3 (fun h=>?_) (fun h=>?_)<;>(try rw [h])<;>(try simp only [Bool.false_eq_true,Bool.true_eq_false,↓reduceIte,decide_eq_true_eq,decide_eq_false_iff_not,Bool.not_eq_true',Bool.not_eq_false'] at h)<;>(conv=>whnf))
    | (refine L4 ?_;conv=>whnf)
    | (refine AWp.any (by kernel_rfl) (by kernel_rfl) (by kernel_rfl) ?_;conv=>whnf)
    | (apply And.intro;(focus (first|omega|rfl|decide|exact Nat.le_of_ble_eq_true rfl|((repeat' (first|exact C3|refine all_cons ?_ ?_|rfl|fail));done)|(simp [-List.length_flatMap];done)|(simp [-List.length_flatMap];omega)|fail));conv=>whnf)
    | fail)
  rw [show nm++[40]=A1r nm ks 0 by simp [A1r,Lib.join,List.intercalate]]
  refine AWp.loopA [3,4] [8,9,10,11,12,15,16,17,18,19,20,21,22,23,24,25,26,27,28,29,30,31,32,33,34,35,36,37,38,39,40,41,42,13,14] (fun i:Nat=>[.str (A1r nm ks i),.int .i64 i]) (fun i s'=>i≤ks.length∧s'=s.set b 160 [.str nm,.slice tk (G9 .i64 ks)]) (fun i=>ks.length - i) (0) (by kernel_rfl) (by (repeat' (first|refine G6 ?_ ?_|refine G2 ?_ ?_ ?_|rfl|omega))) ?_ ?_
  · exact ⟨by omega,rfl⟩
  · rintro y i _ ⟨hi,rfl⟩
    have hpl:=C5e nm ks i
    conv=>whnf
    repeat' (first
      | (refine ⟨Sub.refl _,?_⟩)
      | (refine L3 (fun h=>?_) (fun h=>?_)<;>(try rw [h])<;>(try simp only [Bool.false_eq_true,Bool.true_eq_false,↓reduceIte,decide_eq_true_eq,decide_eq_false_iff_not,Bool.not_eq_true',Bool.not_eq_false'] at h)<;>(conv=>whnf))
      | (rw [A0t (by omega)];conv=>whnf)
      | (refine L4 ?_;conv=>whnf)
      | (refine AWp.any (by kernel_rfl) (by kernel_rfl) (by kernel_rfl) ?_;conv=>whnf)
      | (apply And.intro;(focus (first|omega|rfl|decide|exact Nat.le_of_ble_eq_true rfl|((repeat' (first|exact C3|refine all_cons ?_ ?_|rfl|fail));done)|(simp [-List.length_flatMap];done)|(simp [-List.length_flatMap];omega)|fail));conv=>whnf)
      | fail)
    all_goals try simp only [Int.toNat_natCast] at *
    all_goals first
      | (refine ⟨i+1,?_,by (repeat (first|exact L0.refl _ _|refine L0.upd rfl ?_|refine L0.updL rfl ?_|refine L0.havoc rfl ?_)),⟨by omega,(by first|rfl|trivial)⟩,by omega⟩
         refine G6 ?_ (by (repeat' (first|refine G6 ?_ ?_|refine G2 ?_ ?_ ?_|rfl|omega)))
         refine congrArg AV.str ?_
         rw [C2q (by omega)]
         grind [A84])
      | skip
    have ht:ks.take i=ks:=List.take_of_length_le (by omega)
    refine ⟨(Sub.refl _).set hb _ _,congrArg AV.str ?_⟩
    unfold A1r D17
    rw [ht]
end Go.Proofs.YtaammejliikieaaGreatDoor.Sc
namespace Go.Proofs.YtaammejliikieaaGreatDoor.Ck
open Go Go.Ab Go.RowKit Go.Proofs.YtaammejliikieaaGreatDoor.Pa
variable {Γ:Nat→AV}
attribute [local irreducible] A8 Sto.set Sto.grow
theorem D1k:(!Tryz.prog.eqGuardType Tryz.prog.depth 163)=true:=by kernel_rfl
theorem D0d:A05 Tryz.prog 9999 163=some [(0,2),(1,1),(2,0)]:=by kernel_rfl
theorem D1i:(!Tryz.prog.eqGuardType Tryz.prog.depth 165)=true:=by kernel_rfl
theorem D0b:A05 Tryz.prog 9999 165=some [(0,1),(1,0),(2,0),(3,1),(4,2)]:=by kernel_rfl
theorem D1l:(!Tryz.prog.eqGuardType Tryz.prog.depth 167)=true:=by kernel_rfl
theorem D0e:A05 Tryz.prog 9999 167=some [(0,1),(1,2),(2,2)]:=by kernel_rfl
theorem D1j:(!Tryz.prog.eqGuardType Tryz.prog.depth 103)=true:=by kernel_rfl
theorem D0c:A05 Tryz.prog 9999 103=some [(0,0),(1,0),(2,0),(3,0),(4,0),(5,1),(6,2)]:=by kernel_rfl
theorem B7q (q:Qe) (h1:q.decls.length≤100000) (h2:q.quants.length≤100000) (h3:q.frees.length≤100000) (h4:q.states.length≤100000) (hd:∀ d ∈ q.decls,d.1.length≤1048576∧d.2.length≤100000) :
  A8 Tryz.prog Γ 22 [.agg (qeA z0 q),.agg (qeA z0 q)] fun v=>v=.bool true:=by
 have hdl:=A9l q.decls
 have l1:(q.quants.map qtA).length=q.quants.length:=List.length_map ..
 have l2:(q.frees.map feA).length=q.frees.length:=List.length_map ..
 have l3:(q.states.map saA).length=q.states.length:=List.length_map ..
 simp only [qeA,z0]
 refine aps Tryz.func22 ?_
 intro s
 conv=>whnf
 intro b2 hb2
 have k_b2:=hb2
 repeat replace k_b2:=A0 k_b2
 conv=>whnf
 intro b3 hb3
 have k_b3:=hb3
 repeat replace k_b3:=A0 k_b3
 have n_b2_b3:b2≠b3:=by (have k:=hb3;repeat (first|exact A6 k|replace k:=A0 k))
 have n_b3_b2:=n_b2_b3.symm
 conv=>whnf
 repeat' ((first|(refine brS (fun h=>?_) (fun h=>?_)<;>(try rw [h])<;>(try simp only [bS,↓reduceIte] at h)<;>(try exact prc))|refine A5 ?_|refine gS ?_|refine aA ?_|refine nA ?_|fail)<;>(conv=>whnf))
 all_goals first|(exfalso;revert h;simp;done)|skip
 generalize hSg:(s.set b2 63 [.str q.name,.slice 0 (dcs q.decls),.slice 0 (q.quants.map qtA),.slice 0 (q.frees.map feA),.slice 0 (q.states.map saA),.int .i64 q.start,.slice 0 (sms q.syms),.slice 0 (q.nodes.map ndA),.slice 0 (txs q.trans)]).set b3 63 [.str q.name,.slice 0 (dcs q.decls),.slice 0 (q.quants.map qtA),.slice 0 (q.frees.map feA),.slice 0 (q.states.map saA),.int .i64 q.start,.slice 0 (sms q.syms),.slice 0 (q.nodes.map ndA),.slice 0 (txs q.trans)]=S
 have f2:S.bx b2=some (63,[.str q.name,.slice 0 (dcs q.decls),.slice 0 (q.quants.map qtA),.slice 0 (q.frees.map feA),.slice 0 (q.states.map saA),.int .i64 q.start,.slice 0 (sms q.syms),.slice 0 (q.nodes.map ndA),.slice 0 (txs q.trans)]):=by rw [← hSg];exact (A4 n_b2_b3).trans A3
 have f3:S.bx b3=some (63,[.str q.name,.slice 0 (dcs q.decls),.slice 0 (q.quants.map qtA),.slice 0 (q.frees.map feA),.slice 0 (q.states.map saA),.int .i64 q.start,.slice 0 (sms q.syms),.slice 0 (q.nodes.map ndA),.slice 0 (txs q.trans)]):=by rw [← hSg];exact A3
 have hS:Sub s S:=by rw [← hSg];exact ((Sub.refl s).set k_b2 _ _).set k_b3 _ _
 clear hSg
 refine AWp.loopA [5] [58,59,60,61,62,65,66,67,68,69,70,71,72,73,74,75,76,77,4,6,78,79,80,81,82,83,84,85,86,89,90,91,92,93,94,95,96,97,98,99,100,101,102,103,104,105,106,107,87,88,63,64] (fun i0:Nat=>[.int .i64 (i0:Int)]) (fun i0 s'=>i0≤q.decls.length∧s'=S) (fun i0=>q.decls.length - i0) (0) (by kernel_rfl) (eqa) ?_ ?_
 ·exact ⟨Nat.zero_le _,rfl⟩
 ·rintro y0 i0 s9 ⟨hi0,hs9⟩
  have hs9:=hs9.symm
  subst hs9
  by_cases hlt0:i0 < q.decls.length
  ·have hga:(dcs q.decls).getD ((i0:Int)).toNat []=dcA (0,q.decls.getD i0 Y7):=by rw [Int.toNat_natCast];exact Tr.B9 (f:=fun x=>dcA (0,x)) Y7 hlt0
   have hz:=hd _ (Tr.D4 Y7 hlt0)
   generalize q.decls.getD i0 Y7=z at *
   obtain ⟨nm,ts⟩:=z
   simp only [dcA] at hga
   simp only at hz
   have htx:=Sc.B9o (Γ:=Γ) nm 0 ts hz.1 (by omega)
   have hil:=H8 .i64 ts
   conv=>whnf
   repeat' ((first|(refine brS (fun h=>?_) (fun h=>?_)<;>(try rw [h])<;>(try simp only [bS,↓reduceIte] at h)<;>(try exact prc))|refine A5 ?_|refine ⟨D3 (hga) rfl,Go.Ab.C5 (hga) ?_⟩|(refine A2.pure' ?_ (htx);rintro _ rfl)|refine A7.pure ?_ (htx)|refine gS ?_|refine aA ?_|refine nA ?_|fail)<;>(conv=>whnf))
   all_goals first|(exfalso;revert h;simp;done)|skip
   refine AWp.loopA [6] [78,79,80,81,82,83,84,85,86,89,90,91,92,93,94,95,96,97,98,99,100,101,102,103,104,105,106,107,4,87,88] (fun j:Nat=>[.int .i64 (j:Int)]) (fun j s'=>j≤ts.length∧s'=S) (fun j=>ts.length - j) (0) (by kernel_rfl) (eqa) ?_ ?_
   ·exact ⟨Nat.zero_le _,rfl⟩
   ·rintro y1 j s9 ⟨hj,hs9⟩
    have hs9:=hs9.symm
    subst hs9
    by_cases hlj:j < ts.length
    ·have hgt:(G9 .i64 ts).getD ((j:Int)).toNat []=[.int .i64 (ts.getD j 0)]:=by rw [Int.toNat_natCast];exact A0t hlj
     conv=>whnf
     repeat' ((first|(refine brS (fun h=>?_) (fun h=>?_)<;>(try rw [h])<;>(try simp only [bS,↓reduceIte] at h)<;>(try exact prc))|refine A5 ?_|refine ⟨D3 (hga) rfl,Go.Ab.C5 (hga) ?_⟩|refine ⟨D3 (hgt) rfl,Go.Ab.C5 (hgt) ?_⟩|refine gS ?_|refine aA ?_|refine nA ?_|fail)<;>(conv=>whnf))
     all_goals first|(exfalso;revert h;simp;done)|(exact ⟨j+1,eqa,B8,⟨by omega,(by first|rfl|trivial)⟩,by omega⟩)
    ·conv=>whnf
     repeat' ((first|(refine brS (fun h=>?_) (fun h=>?_)<;>(try rw [h])<;>(try simp only [bS,↓reduceIte] at h)<;>(try exact prc))|refine A5 ?_|refine ⟨D3 (hga) rfl,Go.Ab.C5 (hga) ?_⟩|refine gS ?_|refine aA ?_|refine nA ?_|fail)<;>(conv=>whnf))
     exact ⟨i0+1,eqa,B8,⟨by omega,(by first|rfl|trivial)⟩,by omega⟩
  ·conv=>whnf
   repeat' ((first|(refine brS (fun h=>?_) (fun h=>?_)<;>(try rw [h])<;>(try simp only [bS,↓reduceIte] at h)<;>(try exact prc))|refine A5 ?_|refine gS ?_|refine aA ?_|refine nA ?_|fail)<;>(conv=>whnf))
   refine AWp.loopA [7] [108,109,110,111,112,115,116,117,118,119,120,121,122,123,124,125,4,113,114] (fun i2:Nat=>[.int .i64 (i2:Int)]) (fun i2 s'=>i2≤q.quants.length∧s'=S) (fun i2=>q.quants.length - i2) (0) (by kernel_rfl) (eqa) ?_ ?_
   ·exact ⟨Nat.zero_le _,rfl⟩
   ·rintro y2 i2 s9 ⟨hi2,hs9⟩
    have hs9:=hs9.symm
    subst hs9
    by_cases hlt2:i2 < q.quants.length
    ·have hga:(q.quants.map qtA).getD ((i2:Int)).toNat []=qtA (q.quants.getD i2 A4y):=by rw [Int.toNat_natCast];exact Tr.B9 A4y hlt2
     generalize q.quants.getD i2 A4y=z at *
     simp only [qtA] at hga
     conv=>whnf
     repeat' ((first|(refine brS (fun h=>?_) (fun h=>?_)<;>(try rw [h])<;>(try simp only [bS,↓reduceIte] at h)<;>(try exact prc))|refine A5 ?_|refine ⟨D3 (hga) rfl,Go.Ab.C5 (hga) ?_⟩|(refine P9.of D1k D0d ?_)|refine gS ?_|refine aA ?_|refine nA ?_|fail)<;>(conv=>whnf))
     all_goals first|(exfalso;revert h;simp;done)|(exact ⟨i2+1,eqa,B8,⟨by omega,(by first|rfl|trivial)⟩,by omega⟩)
    ·conv=>whnf
     repeat' ((first|(refine brS (fun h=>?_) (fun h=>?_)<;>(try rw [h])<;>(try simp only [bS,↓reduceIte] at h)<;>(try exact prc))|refine A5 ?_|refine gS ?_|refine aA ?_|refine nA ?_|fail)<;>(conv=>whnf))
     refine AWp.loopA [8] [126,127,128,129,130,133,134,135,136,137,138,139,140,141,142,143,4,131,132] (fun i3:Nat=>[.int .i64 (i3:Int)]) (fun i3 s'=>i3≤q.frees.length∧s'=S) (fun i3=>q.frees.length - i3) (0) (by kernel_rfl) (eqa) ?_ ?_
     ·exact ⟨Nat.zero_le _,rfl⟩
     ·rintro y3 i3 s9 ⟨hi3,hs9⟩
      have hs9:=hs9.symm
      subst hs9
      by_cases hlt3:i3 < q.frees.length
      ·have hga:(q.frees.map feA).getD ((i3:Int)).toNat []=feA (q.frees.getD i3 A5r):=by rw [Int.toNat_natCast];exact Tr.B9 A5r hlt3
       generalize q.frees.getD i3 A5r=z at *
       simp only [feA] at hga
       conv=>whnf
       repeat' ((first|(refine brS (fun h=>?_) (fun h=>?_)<;>(try rw [h])<;>(try simp only [bS,↓reduceIte] at h)<;>(try exact prc))|refine A5 ?_|refine ⟨D3 (hga) rfl,Go.Ab.C5 (hga) ?_⟩|(refine P9.of D1i D0b ?_)|refine gS ?_|refine aA ?_|refine nA ?_|fail)<;>(conv=>whnf))
       all_goals first|(exfalso;revert h;simp;done)|(exact ⟨i3+1,eqa,B8,⟨by omega,(by first|rfl|trivial)⟩,by omega⟩)
      ·conv=>whnf
       repeat' ((first|(refine brS (fun h=>?_) (fun h=>?_)<;>(try rw [h])<;>(try simp only [bS,↓reduceIte] at h)<;>(try exact prc))|refine A5 ?_|refine gS ?_|refine aA ?_|refine nA ?_|fail)<;>(conv=>whnf))
       refine AWp.loopA [9] [144,145,146,147,148,151,152,153,154,155,156,157,158,159,160,161,4,149,150] (fun i4:Nat=>[.int .i64 (i4:Int)]) (fun i4 s'=>i4≤q.states.length∧s'=S) (fun i4=>q.states.length - i4) (0) (by kernel_rfl) (eqa) ?_ ?_
       ·exact ⟨Nat.zero_le _,rfl⟩
       ·rintro y4 i4 s9 ⟨hi4,hs9⟩
        have hs9:=hs9.symm
        subst hs9
        by_cases hlt4:i4 < q.states.length
        ·have hga:(q.states.map saA).getD ((i4:Int)).toNat []=saA (q.states.getD i4 C2d):=by rw [Int.toNat_natCast];exact Tr.B9 C2d hlt4
         generalize q.states.getD i4 C2d=z at *
         simp only [saA] at hga
         conv=>whnf
         repeat' ((first|(refine brS (fun h=>?_) (fun h=>?_)<;>(try rw [h])<;>(try simp only [bS,↓reduceIte] at h)<;>(try exact prc))|refine A5 ?_|refine ⟨D3 (hga) rfl,Go.Ab.C5 (hga) ?_⟩|(refine P9.of D1l D0e ?_)|refine gS ?_|refine aA ?_|refine nA ?_|fail)<;>(conv=>whnf))
         all_goals first|(exfalso;revert h;simp;done)|(exact ⟨i4+1,eqa,B8,⟨by omega,(by first|rfl|trivial)⟩,by omega⟩)
        ·conv=>whnf
         repeat' ((first|(refine brS (fun h=>?_) (fun h=>?_)<;>(try rw [h])<;>(try simp only [bS,↓reduceIte] at h)<;>(try exact prc))|refine A5 ?_|refine gS ?_|refine aA ?_|refine nA ?_|fail)<;>(conv=>whnf))
         first|rfl|exact ⟨hS,rfl⟩
theorem D1m:(!Tryz.prog.eqGuardType Tryz.prog.depth 108)=true:=by kernel_rfl
theorem D0f:A05 Tryz.prog 9999 108=some [(0,0),(1,0)]:=by kernel_rfl
theorem C8h (q:Qe) (h1:q.decls.length≤100000) (h2:q.quants.length≤100000) (h3:q.frees.length≤100000) (h4:q.states.length≤100000) (hd:∀ d ∈ q.decls,d.1.length≤1048576∧d.2.length≤100000)
  (h5:q.syms.length≤100000) (h6:q.nodes.length≤100000) (h7:q.trans.length≤100000) (hm:∀ m ∈ q.syms,m.2.length≤100000) (ht:∀ t ∈ q.trans,t.2.2.2.2.length≤100000) :
  A8 Tryz.prog Γ 9 [.agg (qeA z0 q),.agg (qeA z0 q)] fun v=>v=.bool true:=by
 have hsh:=B7q (Γ:=Γ) q h1 h2 h3 h4 hd
 have l1:=M1 q.syms
 have l2:(q.nodes.map ndA).length=q.nodes.length:=List.length_map ..
 have l3:(txs q.trans).length=q.trans.length:=List.length_map ..
 simp only [qeA,z0] at hsh ⊢
 refine aps Tryz.func9 ?_
 intro s
 conv=>whnf
 intro b2 hb2
 have k_b2:=hb2
 repeat replace k_b2:=A0 k_b2
 conv=>whnf
 intro b3 hb3
 have k_b3:=hb3
 repeat replace k_b3:=A0 k_b3
 have n_b2_b3:b2≠b3:=by (have k:=hb3;repeat (first|exact A6 k|replace k:=A0 k))
 have n_b3_b2:=n_b2_b3.symm
 conv=>whnf
 repeat' ((first|(refine brS (fun h=>?_) (fun h=>?_)<;>(try rw [h])<;>(try simp only [bS,↓reduceIte] at h)<;>(try exact prc))|refine A5 ?_|(refine A2.pure' ?_ (hsh);rintro _ rfl)|refine A7.pure ?_ (hsh)|refine gS ?_|refine aA ?_|refine nA ?_|fail)<;>(conv=>whnf))
 all_goals first|(exfalso;revert h;simp;done)|skip
 generalize hSg:(s.set b2 63 [.str q.name,.slice 0 (dcs q.decls),.slice 0 (q.quants.map qtA),.slice 0 (q.frees.map feA),.slice 0 (q.states.map saA),.int .i64 q.start,.slice 0 (sms q.syms),.slice 0 (q.nodes.map ndA),.slice 0 (txs q.trans)]).set b3 63 [.str q.name,.slice 0 (dcs q.decls),.slice 0 (q.quants.map qtA),.slice 0 (q.frees.map feA),.slice 0 (q.states.map saA),.int .i64 q.start,.slice 0 (sms q.syms),.slice 0 (q.nodes.map ndA),.slice 0 (txs q.trans)]=S
 have f2:S.bx b2=some (63,[.str q.name,.slice 0 (dcs q.decls),.slice 0 (q.quants.map qtA),.slice 0 (q.frees.map feA),.slice 0 (q.states.map saA),.int .i64 q.start,.slice 0 (sms q.syms),.slice 0 (q.nodes.map ndA),.slice 0 (txs q.trans)]):=by rw [← hSg];exact (A4 n_b2_b3).trans A3
 have f3:S.bx b3=some (63,[.str q.name,.slice 0 (dcs q.decls),.slice 0 (q.quants.map qtA),.slice 0 (q.frees.map feA),.slice 0 (q.states.map saA),.int .i64 q.start,.slice 0 (sms q.syms),.slice 0 (q.nodes.map ndA),.slice 0 (txs q.trans)]):=by rw [← hSg];exact A3
 have hS:Sub s S:=by rw [← hSg];exact ((Sub.refl s).set k_b2 _ _).set k_b3 _ _
 clear hSg
 refine AWp.loopA [5] [42,43,44,45,46,49,50,51,52,53,54,55,56,57,58,59,60,4,47,48] (fun i:Nat=>[.int .i64 (i:Int)]) (fun i s'=>i≤q.syms.length∧s'=S) (fun i=>q.syms.length - i) (0) (by kernel_rfl) (eqa) ?_ ?_
 ·exact ⟨Nat.zero_le _,rfl⟩
 ·rintro y0 i s9 ⟨hi0,hs9⟩
  have hs9:=hs9.symm
  subst hs9
  by_cases hlt0:i < q.syms.length
  ·have hga:(sms q.syms).getD ((i:Int)).toNat []=smA (0,q.syms.getD i P4):=by rw [Int.toNat_natCast];exact Tr.B9 (f:=fun x=>smA (0,x)) P4 hlt0
   have hmm:=hm _ (Tr.D4 P4 hlt0)
   have hsm:=B3q (Γ:=Γ) (q.syms.getD i P4) (q.syms.getD i P4) hmm hmm
   rw [decide_eq_true rfl] at hsm
   generalize q.syms.getD i P4=z at *
   simp only [smA] at hga hsm
   conv=>whnf
   repeat' ((first|(refine brS (fun h=>?_) (fun h=>?_)<;>(try rw [h])<;>(try simp only [bS,↓reduceIte] at h)<;>(try exact prc))|refine A5 ?_|refine ⟨D3 (hga) rfl,Go.Ab.C5 (hga) ?_⟩|(refine A2.pure' ?_ (hsm);rintro _ rfl)|refine A7.pure ?_ (hsm)|refine gS ?_|refine aA ?_|refine nA ?_|fail)<;>(conv=>whnf))
   all_goals first|(exfalso;revert h;simp;done)|(exact ⟨i+1,eqa,B8,⟨by omega,(by first|rfl|trivial)⟩,by omega⟩)
  ·conv=>whnf
   repeat' ((first|(refine brS (fun h=>?_) (fun h=>?_)<;>(try rw [h])<;>(try simp only [bS,↓reduceIte] at h)<;>(try exact prc))|refine A5 ?_|refine gS ?_|refine aA ?_|refine nA ?_|fail)<;>(conv=>whnf))
   refine AWp.loopA [6] [61,62,63,64,65,68,69,70,71,72,73,74,75,76,77,78,4,66,67] (fun i:Nat=>[.int .i64 (i:Int)]) (fun i s'=>i≤q.nodes.length∧s'=S) (fun i=>q.nodes.length - i) (0) (by kernel_rfl) (eqa) ?_ ?_
   ·exact ⟨Nat.zero_le _,rfl⟩
   ·rintro y1 i1 s9 ⟨hi1,hs9⟩
    have hs9:=hs9.symm
    subst hs9
    by_cases hlt1:i1 < q.nodes.length
    ·have hga:(q.nodes.map ndA).getD ((i1:Int)).toNat []=ndA (q.nodes.getD i1 C96):=by rw [Int.toNat_natCast];exact Tr.B9 C96 hlt1
     generalize q.nodes.getD i1 C96=z at *
     simp only [ndA] at hga
     conv=>whnf
     repeat' ((first|(refine brS (fun h=>?_) (fun h=>?_)<;>(try rw [h])<;>(try simp only [bS,↓reduceIte] at h)<;>(try exact prc))|refine A5 ?_|refine ⟨D3 (hga) rfl,Go.Ab.C5 (hga) ?_⟩|(refine P9.of D1j D0c ?_)|refine gS ?_|refine aA ?_|refine nA ?_|fail)<;>(conv=>whnf))
     all_goals first|(exfalso;revert h;simp;done)|(exact ⟨i1+1,eqa,B8,⟨by omega,(by first|rfl|trivial)⟩,by omega⟩)
    ·conv=>whnf
     repeat' ((first|(refine brS (fun h=>?_) (fun h=>?_)<;>(try rw [h])<;>(try simp only [bS,↓reduceIte] at h)<;>(try exact prc))|refine A5 ?_|refine gS ?_|refine aA ?_|refine nA ?_|fail)<;>(conv=>whnf))
     refine AWp.loopA [7] [79,80,81,82,83,86,87,88,89,90,8,91,92,93,94,95,9,96,97,98,99,100,101,102,103,104,105,106,107,108,109,110,111,112,113,114,115,116,117,118,119,120,121,122,123,124,125,126,127,128,129,130,4,10,131,132,133,134,135,138,139,140,141,142,143,144,145,146,147,148,136,137,84,85] (fun i:Nat=>[.int .i64 (i:Int)]) (fun i s'=>i≤q.trans.length∧s'.bx b2=some (63,[.str q.name,.slice 0 (dcs q.decls),.slice 0 (q.quants.map qtA),.slice 0 (q.frees.map feA),.slice 0 (q.states.map saA),.int .i64 q.start,.slice 0 (sms q.syms),.slice 0 (q.nodes.map ndA),.slice 0 (txs q.trans)])∧s'.bx b3=some (63,[.str q.name,.slice 0 (dcs q.decls),.slice 0 (q.quants.map qtA),.slice 0 (q.frees.map feA),.slice 0 (q.states.map saA),.int .i64 q.start,.slice 0 (sms q.syms),.slice 0 (q.nodes.map ndA),.slice 0 (txs q.trans)])∧Sub s s') (fun i=>q.trans.length - i) (0) (by kernel_rfl) (eqa) ?_ ?_
     ·exact ⟨Nat.zero_le _,f2,f3,hS⟩
     ·rintro y2 i2 s2 ⟨hi2,g2,g3,gS⟩
      by_cases hlt2:i2 < q.trans.length
      ·have hga:(txs q.trans).getD ((i2:Int)).toNat []=txA (0,q.trans.getD i2 noTx):=by rw [Int.toNat_natCast];exact Tr.B9 (f:=fun x=>txA (0,x)) noTx hlt2
       have htt:=ht _ (Tr.D4 noTx hlt2)
       generalize q.trans.getD i2 noTx=z at *
       obtain ⟨z1,z2,z3,z4,z5⟩:=z
       simp only at htt
       simp only [txA] at hga
       have hl5:(z5.map sxA).length=z5.length:=List.length_map ..
       conv=>whnf
       repeat' ((first|(refine brS (fun h=>?_) (fun h=>?_)<;>(try rw [h])<;>(try simp only [bS,↓reduceIte] at h)<;>(try exact prc))|refine A5 ?_|refine ⟨D3 (hga) rfl,Go.Ab.C5 (hga) ?_⟩|refine gS ?_|refine aA ?_|refine nA ?_|fail)<;>(conv=>whnf))
       intro b8 hb8
       have m8:=gS.none hb8
       have n28:=A1 g2 hb8
       have n38:=A1 g3 hb8
       conv=>whnf
       repeat' ((first|(refine brS (fun h=>?_) (fun h=>?_)<;>(try rw [h])<;>(try simp only [bS,↓reduceIte] at h)<;>(try exact prc))|refine A5 ?_|refine ⟨D3 (hga) rfl,Go.Ab.C5 (hga) ?_⟩|refine gS ?_|refine aA ?_|refine nA ?_|fail)<;>(conv=>whnf))
       intro b9 hb9
       have hb9':=A0 (A0 hb9)
       have m9:=gS.none hb9'
       have n29:=A1 g2 hb9'
       have n39:=A1 g3 hb9'
       have n_b8_b9:b8≠b9:=A1 bxa hb9
       have n_b9_b8:=n_b8_b9.symm
       conv=>whnf
       repeat' ((first|(refine brS (fun h=>?_) (fun h=>?_)<;>(try rw [h])<;>(try simp only [bS,↓reduceIte] at h)<;>(try exact prc))|refine A5 ?_|refine ⟨D3 (hga) rfl,Go.Ab.C5 (hga) ?_⟩|refine gS ?_|refine aA ?_|refine nA ?_|fail)<;>(conv=>whnf))
       all_goals first|(exfalso;revert h;simp;done)|skip
       refine AWp.loopA [10] [131,132,133,134,135,138,139,140,141,142,143,144,145,146,147,148,4,136,137] (fun j:Nat=>[.int .i64 (j:Int)]) (fun j s'=>j≤z5.length∧s'.bx b8=some (106,[.int .i64 z1,.int .i64 z2,.int .i64 z3,.int .i64 z4,.slice 0 (z5.map sxA)])∧s'.bx b9=some (106,[.int .i64 z1,.int .i64 z2,.int .i64 z3,.int .i64 z4,.slice 0 (z5.map sxA)])∧s'.bx b2=some (63,[.str q.name,.slice 0 (dcs q.decls),.slice 0 (q.quants.map qtA),.slice 0 (q.frees.map feA),.slice 0 (q.states.map saA),.int .i64 q.start,.slice 0 (sms q.syms),.slice 0 (q.nodes.map ndA),.slice 0 (txs q.trans)])∧s'.bx b3=some (63,[.str q.name,.slice 0 (dcs q.decls),.slice 0 (q.quants.map qtA),.slice 0 (q.frees.map feA),.slice 0 (q.states.map saA),.int .i64 q.start,.slice 0 (sms q.syms),.slice 0 (q.nodes.map ndA),.slice 0 (txs q.trans)])∧Sub s s') (fun j=>z5.length - j) (0) (by kernel_rfl) (eqa) ?_ ?_
       ·exact ⟨Nat.zero_le _,bxa,bxa,bxa,bxa,N2⟩
       ·rintro y3 j s3 ⟨hj,e8,e9,e2,e3,eS⟩
        by_cases hlj:j < z5.length
        ·have hgt:(z5.map sxA).getD ((j:Int)).toNat []=sxA (z5.getD j (0,0)):=by rw [Int.toNat_natCast];exact Tr.B9 (f:=sxA) (0,0) hlj
         generalize z5.getD j (0,0)=w at *
         simp only [sxA] at hgt
         conv=>whnf
         repeat' ((first|(refine brS (fun h=>?_) (fun h=>?_)<;>(try rw [h])<;>(try simp only [bS,↓reduceIte] at h)<;>(try exact prc))|refine A5 ?_|refine ⟨D3 (hgt) rfl,Go.Ab.C5 (hgt) ?_⟩|(refine P9.of D1m D0f ?_)|refine gS ?_|refine aA ?_|refine nA ?_|fail)<;>(conv=>whnf))
         all_goals first|(exfalso;revert h;simp;done)|(exact ⟨j+1,eqa,B8,⟨by omega,e8,e9,e2,e3,eS⟩,by omega⟩)
        ·conv=>whnf
         repeat' ((first|(refine brS (fun h=>?_) (fun h=>?_)<;>(try rw [h])<;>(try simp only [bS,↓reduceIte] at h)<;>(try exact prc))|refine A5 ?_|refine gS ?_|refine aA ?_|refine nA ?_|fail)<;>(conv=>whnf))
         exact ⟨i2+1,eqa,B8,⟨by omega,e2,e3,eS⟩,by omega⟩
      ·conv=>whnf
       repeat' ((first|(refine brS (fun h=>?_) (fun h=>?_)<;>(try rw [h])<;>(try simp only [bS,↓reduceIte] at h)<;>(try exact prc))|refine A5 ?_|refine gS ?_|refine aA ?_|refine nA ?_|fail)<;>(conv=>whnf))
       first|rfl|exact ⟨gS,rfl⟩
end Go.Proofs.YtaammejliikieaaGreatDoor.Ck
namespace Go.Proofs.YtaammejliikieaaGreatDoor.Ck
open Go Go.Ab Go.RowKit Go.Proofs.YtaammejliikieaaGreatDoor.Pa
variable {Γ:Nat→AV}
theorem C3z {d u f s a t:Nat} (hd:d≤40) (hu:u≤40) (hf:f≤40) (hs:s≤40) (ha:a≤70) (ht:t≤260):A53 (F4 d u f s a t):=by
 have hr:=B6e (t:=t) hd hu hf hs ha
 have hdl:(J4 d).length≤100000:=A96 hd
 refine ⟨⟨?_,?_,?_⟩,⟨⟨?_,?_,?_,?_,?_,?_⟩,?_,?_,?_⟩,hr,B1k hr,A8f hr⟩
 ·unfold F4;simp
 ·unfold F4;simp;rfl
 ·unfold F4;simp
 ·unfold F4;simpa using hdl
 ·unfold F4;simp;omega
 ·unfold F4;simp;omega
 ·unfold F4;simp;omega
 ·unfold F4;simp;omega
 ·unfold F4;simp;omega
 ·intro x hx
  obtain ⟨y,hy,rfl⟩:=List.mem_map.1 hx
  rcases List.mem_cons.1 hy with rfl|hy
  ·decide
  ·obtain ⟨i,hi,rfl⟩:=List.mem_map.1 hy;simp [bDe]
 ·intro x hx
  obtain ⟨y,hy,rfl⟩:=List.mem_map.1 hx
  rcases List.mem_append.1 hy with hy|hy
  ·obtain ⟨i,_,rfl⟩:=List.mem_map.1 hy;simp [A11]
  ·obtain ⟨i,_,rfl⟩:=List.mem_map.1 hy;simp [A2m]
 ·intro x hx
  obtain ⟨i,_,rfl⟩:=List.mem_map.1 hx
  exact ⟨by simp [bTn],by simp [bTn],by simp [bTn]⟩
theorem C70:QSm Qe.none:=⟨by simp [Qe.none],by simp [Qe.none],by simp [Qe.none],by simp [Qe.none],by simp [Qe.none],by simp [Qe.none],by simp [Qe.none],by simp [Qe.none],by simp [Qe.none],by simp [Qe.none]⟩
theorem QSm.same {q:Qe} (h:QSm q):A8 Tryz.prog Γ 9 [.agg (qeA z0 q),.agg (qeA z0 q)] fun v=>v=.bool true :=
 C8h q h.decls h.quants h.frees h.states h.decl h.syms h.nodes h.trans h.sym h.set
theorem B8n (hQ:Qu.A7o Γ) (hW:Sc.Wds Γ) (hO:AsO.A2e Γ) (hM:AsM.A2e Γ) (hR:Nu.A7n Γ) (d u f s0 a t:Int) :
  A8 Tryz.prog Γ 3 [.int .i64 d,.int .i64 u,.int .i64 f,.int .i64 s0,.int .i64 a,.int .i64 t] fun v=>v=.bool true:=by
 have haw:=C1h (Γ:=Γ) hQ hW hO hM hR
 by_cases hin:0≤d∧d≤40∧0≤u∧u≤40∧0≤f∧f≤40∧1≤s0∧s0≤40∧0≤a∧a≤70∧0≤t∧t≤260
 ·obtain ⟨d,rfl⟩:∃ n:Nat,d=n:=⟨d.toNat,by omega⟩
  obtain ⟨u,rfl⟩:∃ n:Nat,u=n:=⟨u.toNat,by omega⟩
  obtain ⟨f,rfl⟩:∃ n:Nat,f=n:=⟨f.toNat,by omega⟩
  obtain ⟨s0,rfl⟩:∃ n:Nat,s0=n:=⟨s0.toNat,by omega⟩
  obtain ⟨a,rfl⟩:∃ n:Nat,a=n:=⟨a.toNat,by omega⟩
  obtain ⟨t,rfl⟩:∃ n:Nat,t=n:=⟨t.toNat,by omega⟩
  have hd:d≤40:=by omega
  have hu:u≤40:=by omega
  have hf:f≤40:=by omega
  have hs1:1≤s0:=by omega
  have hs:s0≤40:=by omega
  have ha:a≤70:=by omega
  have ht:t≤260:=by omega
  have hx:=C3z hd hu hf hs ha ht
  have hlow:=B8o (t:=t) (a:=a) hd hu hf hs1 hs
  have hbare:∀ y ∈ (F4 d u f s0 a t).2.2.2.2.2.2.2.map Prod.snd,B78 y:=by
   intro y hy
   obtain ⟨z,hz,rfl⟩:=List.mem_map.1 hy
   obtain ⟨i,_,rfl⟩:=List.mem_map.1 hz
   exact ⟨rfl,rfl,rfl⟩
  refine C1l hd hu hf hs1 hs ha ht (X1:=F2 (F4 d u f s0 a t)) rfl ?_ (C2x hx hbare) hlow.1 hlow.2 (fun q hq=>(C2b hx.right hq).same) C70.same haw
  refine B67 hx hM hW ?_ (fun bc bd bv bs s1 s2 q y hy hC hq=>C6j hC hq y (hbare y hy) ?_)
  ·intro e he
   by_cases hk:okB d u f s0 a t
   ·obtain ⟨q,hq⟩:=hlow.1 hk
    rw [hq] at he;cases he
   ·obtain ⟨p,hp⟩:=hlow.2 hk
    rw [hp] at he;cases he;exact ⟨by simp,by simp⟩
  ·obtain ⟨z,hz,rfl⟩:=List.mem_map.1 hy
   exact (hx.fit z hz).args
 ·exact B8p hin haw
end Go.Proofs.YtaammejliikieaaGreatDoor.Ck
namespace Go.Ab
open Go
theorem B45 {P:Program} {laid:List (String × DataW Unit)} {W:World} {x:String × DataW Unit} {hs:List (String × DataW Unit)} (h:laidMetH P laid W)
  (hf:(laid.filter fun x=>x.2.handleName?.isSome)=x::hs):laidMet P (laid.filter fun x=>x.2.handleName?.isNone) W∧handlesMet P (x::hs) W:=by
 unfold laidMetH at h
 rw [hf] at h
 exact h
theorem B88 {P:Program} {laid:List (String × DataW Unit)} {W:World} (h:laidMet P laid W):∃ ps,DataW.LaidVars P W laid ps:=by
 obtain ⟨ps,h,_⟩:=h
 exact ⟨ps,h⟩
theorem B6u {P:Program} {W:World} {n:String} {d:DataW Unit} {name:List UInt8} {g u ty:Nat} (h:handlesMet P [(n,d)] W) (hfn:d.funcsIn?=none) (hn:d.handleName?=some name) (hg:P.globalNamed n=some g)
  (hu : (P.cutTypes.find? (·.1 == "internal/reflectlite.rtype")).map (·.2) = some u) (hone : ((List.range P.types.size).filter fun t => P.rowNamed t name) = [ty]) :
  A0z (J0 W) W g (.cptr [.iface u (.agg [.ptr (some ⟨P.globals.size,ty,none⟩)])]):=by
 have h1:=h (n,d) (List.mem_singleton.2 rfl)
 simp only [hfn] at h1
 obtain ⟨nm,u',ty',e1,e2,e3,e4,hv⟩:=h1
 rw [hn] at e1
 obtain rfl:=Option.some.inj e1
 rw [hu] at e2
 obtain rfl:=Option.some.inj e2
 have hm:ty' ∈ (List.range P.types.size).filter fun t=>P.rowNamed t name:=List.mem_filter.2 ⟨List.mem_range.2 e3,e4⟩
 rw [hone] at hm
 obtain rfl:=List.mem_singleton.1 hm
 have hblk:∃ T fr,W.heap[g]?=some (.cells #[.iface u (.agg #[typeHandle P ty'])] T fr):=by
  simp only [World.var?,hg,Option.bind_some] at hv
  split at hv
  ·rename_i c T fr hh
   simp only [Option.some.injEq] at hv
   subst hv
   exact ⟨T,fr,hh⟩
  ·cases hv
 obtain ⟨T,fr,hblk⟩:=hblk
 have hlt:g < W.heap.size:=(Array.getElem?_eq_some_iff.1 hblk).1
 have hgood:∀ o,(J0 W).good g o:=fun o=>by
  unfold Gh.good J0
  simp [hlt]
 refine ⟨by simp [J0,hlt],⟨_,T,fr,hblk,rfl⟩,M4.2 ⟨g,0,rfl,?_⟩⟩
 unfold C6
 refine ⟨hgood _,⟨.iface u (.agg #[typeHandle P ty']),by simp [World.cell?,hblk],M9.2 ⟨_,rfl,A1x.2 ⟨_,rfl,?_⟩⟩⟩,by unfold C6;trivial⟩
 exact A9.2 ⟨_,_,rfl,N8.2 rfl,B4.2 rfl⟩
theorem B44 {P:Program} {w0:World} {laid:List (String × DataW Unit)} (args:Array Value) (hf:w0.layFits P laid []=true) (hi:w0.layIfaces P laid (w0.layVars P laid)=true) :
  laidMet P laid ((w0.layVars P laid).forCall (fun _ _=>0) ⟨#[],args,[]⟩).memory:=by
 have e1:(laid.filter fun x=>(laid.map (·.1)).contains x.1)=laid:=List.filter_eq_self.2 fun x hx=>List.contains_iff_mem.2 (List.mem_map.2 ⟨x,hx,rfl⟩)
 have e2:(laid.filter fun x=>!(laid.map (·.1)).contains x.1)=[]:=List.filter_eq_nil_iff.2 fun x hx=>by rw [List.contains_iff_mem.2 (List.mem_map.2 ⟨x,hx,rfl⟩)];simp
 have h:laidMet P laid (w0.layVars P laid):=laidMet_layVars (w0:=w0) (laid.map (·.1)) [] (by rw [e1]) (by rw [e1];exact hf) (by rw [e1];exact hi) (by rw [e2];exact LaidIn.none)
 exact h.of_heap (by simp [World.memory,World.forCall,Input.heap])
theorem C4v {P:Program} {n nm:String} {text:List UInt8} {r:List (String × DataW Unit)} {W:World} {g:Nat} {ti tp te ts:TypeId} {ms:Array (String × TypeId)} {f:Field}
  (h:laidMet P ((n,.iface nm (.ptr (.agg [.lit (.string text)])))::r) W)
  (hg:P.globalNamed n=some g) (ht:(P.globals[g]?).map (·.type)=some ti) (hi:P.underlying ti=some (.interface ms)) (hrow:∀ u,P.typeName? 3 u=some nm→u=tp)
  (hp:P.underlying tp=some (.pointer te)) (he:P.underlying te=some (.struct #[f])) (hft:f.type=ts) (hfo:f.offset=0) (hs:P.underlying ts=some .string) (hc:P.cellsOf te=1) (hcs:P.cellsOf ts=1) :
  A0z (J0 W) W g (.cptr [.iface tp (.cptr [.str text])]):=by
 obtain ⟨a,s,hv,hcell,hst,_⟩:=laid_sentinel h hg ht hi hrow hp he hft hfo hs hc hcs
 have hcg:=World.var?_cell hg hv 0
 have hlt:∀ (x:Addr) (v:Value),W.cell? x=some v→x.block < W.heap.size∧x.spot=none:=by
  intro x v hx
  unfold World.cell? at hx
  split at hx
  ·rename_i hh
   split at hx
   ·cases hx
   ·rename_i hsp
    exact ⟨(Array.getElem?_eq_some_iff.1 hh).1,by simpa using hsp⟩
  ·cases hx
 obtain ⟨hb1,hsp⟩:=hlt a _ hcell
 have hg0:W.cell? ⟨g,0,none⟩=some (.iface tp (.pointer (some a))):=by rw [hcg];rfl
 obtain ⟨hb0,_⟩:=hlt _ _ hg0
 obtain ⟨ab,ao,asp⟩:=a
 dsimp only at hsp hb1
 subst hsp
 have hgood:∀ b o,b < W.heap.size→(J0 W).good b o:=fun b o hb=>by
  unfold Gh.good J0
  simp [hb]
 have hblk:∃ T fr,W.heap[g]?=some (.cells #[.iface tp (.pointer (some ⟨ab,ao,none⟩))] T fr):=by
  simp only [World.var?,hg,Option.bind_some] at hv
  split at hv
  ·rename_i c T fr hh
   simp only [Option.some.injEq] at hv
   subst hv
   exact ⟨T,fr,hh⟩
  ·cases hv
 obtain ⟨T,fr,hblk⟩:=hblk
 refine ⟨by simp [J0,hb0],⟨_,T,fr,hblk,rfl⟩,M4.2 ⟨g,0,rfl,?_⟩⟩
 have inner:R (J0 W) W (.cptr [.str text]) (.pointer (some ⟨ab,ao,none⟩)):=by
  refine M4.2 ⟨ab,ao,rfl,?_⟩
  unfold C6
  refine ⟨hgood _ _ hb1,⟨_,hcell,M3.2 ?_⟩,by unfold C6;trivial⟩
  subst hst
  rfl
 unfold C6
 exact ⟨hgood _ _ hb0,⟨_,hg0,M9.2 ⟨_,rfl,inner⟩⟩,by unfold C6;trivial⟩
end Go.Ab
