/- Part 8 of what the closing text needs: CkU, CkW, CkS, CkAC, AsM. No condition of mine beyond those that the theorems name. -/
import Derived.Test.YtaammejliikieaaGreatDoorG6
import Derived.Test.YtaammejliikieaaGreatDoorG5
import Derived.Test.YtaammejliikieaaGreatDoorG1
import Derived.Test.YtaammejliikieaaGreatDoorG7
import Derived.Test.YtaammejliikieaaGreatDoorChecked
import Derived.WalkKit
import Derived.LaidEql
import Derived.Stop.Asserts
import Derived.RowKitTokens
set_option maxRecDepth 10000
set_option maxHeartbeats 60000000
set_option linter.all false
namespace Go.Proofs.YtaammejliikieaaGreatDoor.Pa
end Go.Proofs.YtaammejliikieaaGreatDoor.Pa
namespace Go.Proofs.YtaammejliikieaaGreatDoor.Ck
open Go Go.Ab Go.RowKit Go.Proofs.YtaammejliikieaaGreatDoor.Pa
variable {Γ:Nat→AV}
attribute [local irreducible] A8 Sto.set Sto.grow
theorem A3o {α β:Type} [DecidableEq β] (f:α→β) (n:β):∀ l:List α,idx n (l.map f)=P8 (fun x=>decide (f x=n)) l
 | []=>rfl
 | x::l=>by
  rw [List.map_cons,idx,P8,A3o f n l]
  simp only [decide_eq_true_eq]
def J7 (e:Bad):AV:=.agg [.int .i64 e.1,.int .i64 e.2.1,.int .i64 e.2.2]
def noB:AV:=J7 (0,0,0)
theorem A07 (tk:Nat→Nat) (q:Qe) (n:List UInt8) (hl:q.states.length≤100000):A8 Tryz.prog Γ 73 [.agg (qeA tk q),.str n] fun v=>v=.int .i64 (F0 (idx n (q.states.map (·.1)))):=by
 have hla:(q.states.map saA).length=q.states.length:=List.length_map ..
 rw [A3o]
 simp only [qeA]
 refine aps Tryz.func73 ?_
 intro s
 conv=>whnf
 intro b hb
 conv=>whnf
 refine AWp.loopA [5] [6,7,8,9,10,13,14,15,16,17,18,19,20,21,4,11,12] (fun i:Nat=>[.int .i64 i]) (fun i s'=>i≤q.states.length∧s'=s.set b 63 (qeA tk q)∧F0 (P8 (fun x=>decide ((x.1)=n)) q.states)=F0 ((P8 (fun x=>decide ((x.1)=n)) (q.states.drop i)).map (i+·))) (fun i=>q.states.length - i) (0) (by kernel_rfl) (eqa) ?_ ?_
 ·refine ⟨by omega,rfl,?_⟩
  rw [List.drop_zero]
  cases P8 (fun x=>decide ((x.1)=n)) q.states<;>simp [F0]
 ·rintro y i s1 ⟨hi,rfl,hp⟩
  simp only [qeA]
  conv=>whnf
  have hga:=fun h:i < q.states.length=>Tr.B9 (f:=saA) (l:=q.states) C2d h
  have hd:=fun (h:i < q.states.length)=>X4 (fun x:Sa=>decide ((x.1)=n)) C2d h
  generalize q.states.getD i C2d=z at *
  simp only [saA] at hga
  repeat' ((first|(refine brS (fun h=>?_) (fun h=>?_)<;>(try rw [h])<;>(try simp only [bS,↓reduceIte] at h))|refine A5 ?_|(rw [show (q.states.map saA).getD ((i:Int)).toNat []=_ from hga (by omega)])|refine gS ?_|refine aA ?_|refine nA ?_|fail)<;>(conv=>whnf))
  ·refine ⟨(Sub.refl _).set hb _ _,congrArg (AV.int .i64) ?_⟩
   rw [hp,hd (by omega),if_pos (by simpa using h)]
   simp [F0]
  ·refine ⟨i+1,eqa,B8,⟨by omega,(by first|rfl|trivial),?_⟩,by omega⟩
   rw [hp,hd (by omega),if_neg (by simpa using h)]
   exact A1i _ _
  ·refine ⟨(Sub.refl _).set hb _ _,congrArg (AV.int .i64) ?_⟩
   rw [hp,C0 (by omega)]
   rfl
theorem S6 (q:Qe) (n:List UInt8) (hl:q.states.length≤100000):A8 Tryz.prog Γ 73 [.agg (qeA z0 q),.str n] fun v=>v=.int .i64 (F0 (idx n (q.states.map (·.1)))):=A07 z0 q n hl
theorem A5w (tk:Nat→Nat) (q:Qe) (n:List UInt8) (hl:q.quants.length≤100000):A8 Tryz.prog Γ 71 [.agg (qeA tk q),.str n] fun v=>v=.int .i64 (F0 (idx n (q.quants.map (·.2.1)))):=by
 have hla:(q.quants.map qtA).length=q.quants.length:=List.length_map ..
 rw [A3o]
 simp only [qeA]
 refine aps Tryz.func71 ?_
 intro s
 conv=>whnf
 intro b hb
 conv=>whnf
 refine AWp.loopA [5] [6,7,8,9,10,13,14,15,16,17,18,19,20,21,4,11,12] (fun i:Nat=>[.int .i64 i]) (fun i s'=>i≤q.quants.length∧s'=s.set b 63 (qeA tk q)∧F0 (P8 (fun x=>decide ((x.2.1)=n)) q.quants)=F0 ((P8 (fun x=>decide ((x.2.1)=n)) (q.quants.drop i)).map (i+·))) (fun i=>q.quants.length - i) (0) (by kernel_rfl) (eqa) ?_ ?_
 ·refine ⟨by omega,rfl,?_⟩
  rw [List.drop_zero]
  cases P8 (fun x=>decide ((x.2.1)=n)) q.quants<;>simp [F0]
 ·rintro y i s1 ⟨hi,rfl,hp⟩
  simp only [qeA]
  conv=>whnf
  have hga:=fun h:i < q.quants.length=>Tr.B9 (f:=qtA) (l:=q.quants) A4y h
  have hd:=fun (h:i < q.quants.length)=>X4 (fun x:Qt=>decide ((x.2.1)=n)) A4y h
  generalize q.quants.getD i A4y=z at *
  simp only [qtA] at hga
  repeat' ((first|(refine brS (fun h=>?_) (fun h=>?_)<;>(try rw [h])<;>(try simp only [bS,↓reduceIte] at h))|refine A5 ?_|(rw [show (q.quants.map qtA).getD ((i:Int)).toNat []=_ from hga (by omega)])|refine gS ?_|refine aA ?_|refine nA ?_|fail)<;>(conv=>whnf))
  ·refine ⟨(Sub.refl _).set hb _ _,congrArg (AV.int .i64) ?_⟩
   rw [hp,hd (by omega),if_pos (by simpa using h)]
   simp [F0]
  ·refine ⟨i+1,eqa,B8,⟨by omega,(by first|rfl|trivial),?_⟩,by omega⟩
   rw [hp,hd (by omega),if_neg (by simpa using h)]
   exact A1i _ _
  ·refine ⟨(Sub.refl _).set hb _ _,congrArg (AV.int .i64) ?_⟩
   rw [hp,C0 (by omega)]
   rfl
theorem A18 (q:Qe) (n:List UInt8) (hl:q.quants.length≤100000):A8 Tryz.prog Γ 71 [.agg (qeA z0 q),.str n] fun v=>v=.int .i64 (F0 (idx n (q.quants.map (·.2.1)))):=A5w z0 q n hl
theorem B3p (tk:Nat→Nat) (q:Qe) (n:List UInt8) (hl:q.frees.length≤100000):A8 Tryz.prog Γ 72 [.agg (qeA tk q),.str n] fun v=>v=.int .i64 (F0 (idx n (q.frees.map (·.1)))):=by
 have hla:(q.frees.map feA).length=q.frees.length:=List.length_map ..
 rw [A3o]
 simp only [qeA]
 refine aps Tryz.func72 ?_
 intro s
 conv=>whnf
 intro b hb
 conv=>whnf
 refine AWp.loopA [5] [6,7,8,9,10,13,14,15,16,17,18,19,20,21,4,11,12] (fun i:Nat=>[.int .i64 i]) (fun i s'=>i≤q.frees.length∧s'=s.set b 63 (qeA tk q)∧F0 (P8 (fun x=>decide ((x.1)=n)) q.frees)=F0 ((P8 (fun x=>decide ((x.1)=n)) (q.frees.drop i)).map (i+·))) (fun i=>q.frees.length - i) (0) (by kernel_rfl) (eqa) ?_ ?_
 ·refine ⟨by omega,rfl,?_⟩
  rw [List.drop_zero]
  cases P8 (fun x=>decide ((x.1)=n)) q.frees<;>simp [F0]
 ·rintro y i s1 ⟨hi,rfl,hp⟩
  simp only [qeA]
  conv=>whnf
  have hga:=fun h:i < q.frees.length=>Tr.B9 (f:=feA) (l:=q.frees) A5r h
  have hd:=fun (h:i < q.frees.length)=>X4 (fun x:Fe=>decide ((x.1)=n)) A5r h
  generalize q.frees.getD i A5r=z at *
  simp only [feA] at hga
  repeat' ((first|(refine brS (fun h=>?_) (fun h=>?_)<;>(try rw [h])<;>(try simp only [bS,↓reduceIte] at h))|refine A5 ?_|(rw [show (q.frees.map feA).getD ((i:Int)).toNat []=_ from hga (by omega)])|refine gS ?_|refine aA ?_|refine nA ?_|fail)<;>(conv=>whnf))
  ·refine ⟨(Sub.refl _).set hb _ _,congrArg (AV.int .i64) ?_⟩
   rw [hp,hd (by omega),if_pos (by simpa using h)]
   simp [F0]
  ·refine ⟨i+1,eqa,B8,⟨by omega,(by first|rfl|trivial),?_⟩,by omega⟩
   rw [hp,hd (by omega),if_neg (by simpa using h)]
   exact A1i _ _
  ·refine ⟨(Sub.refl _).set hb _ _,congrArg (AV.int .i64) ?_⟩
   rw [hp,C0 (by omega)]
   rfl
theorem A33 (q:Qe) (n:List UInt8) (hl:q.frees.length≤100000):A8 Tryz.prog Γ 72 [.agg (qeA z0 q),.str n] fun v=>v=.int .i64 (F0 (idx n (q.frees.map (·.1)))):=B3p z0 q n hl
theorem B3o (t:Nat) (l:List Dc) (n:List UInt8) (hl:l.length≤100000):A8 Tryz.prog Γ 70 [.slice t (dcs l),.str n] fun v=>v=.int .i64 (F0 (idx n (l.map (·.1)))):=by
 have hla:(dcs l).length=l.length:=List.length_map ..
 rw [A3o]
 refine aps Tryz.func70 ?_
 intro s
 conv=>whnf
 refine AWp.loopA [5] [6,7,8,9,12,13,14,15,16,17,18,19,4,10,11] (fun i:Nat=>[.int .i64 i]) (fun i s'=>i≤l.length∧s'=s∧F0 (P8 (fun x=>decide (x.1=n)) l)=F0 ((P8 (fun x=>decide (x.1=n)) (l.drop i)).map (i+·))) (fun i=>l.length - i) (0) (by kernel_rfl) (eqa) ?_ ?_
 ·refine ⟨by omega,rfl,?_⟩
  rw [List.drop_zero]
  cases P8 (fun x=>decide (x.1=n)) l<;>simp [F0]
 ·rintro y i s1 ⟨hi,rfl,hp⟩
  conv=>whnf
  have hga:=fun h:i < l.length=>Tr.B9 (f:=fun x=>dcA (0,x)) (l:=l) Y7 h
  have hd:=fun (h:i < l.length)=>X4 (fun x:Dc=>decide (x.1=n)) Y7 h
  generalize l.getD i Y7=z at *
  simp only [dcA] at hga
  repeat' ((first|(refine brS (fun h=>?_) (fun h=>?_)<;>(try rw [h])<;>(try simp only [bS,↓reduceIte] at h))|(rw [show (dcs l).getD ((i:Int)).toNat []=_ from hga (by omega)])|refine gS ?_|refine aA ?_|refine nA ?_|fail)<;>(conv=>whnf))
  ·rw [hp,hd (by omega),if_pos (by simpa using h)]
   simp [F0,A1v]
  ·refine ⟨i+1,eqa,B8,⟨by omega,(by first|rfl|trivial),?_⟩,by omega⟩
   rw [hp,hd (by omega),if_neg (by simpa using h)]
   exact A1i _ _
  ·rw [hp,C0 (by omega)]
   rfl
theorem C5o (l:List Dc) (n:List UInt8) (hl:l.length≤100000):A8 Tryz.prog Γ 70 [.slice 0 (dcs l),.str n] fun v=>v=.int .i64 (F0 (idx n (l.map (·.1)))):=B3o 0 l n hl
def B7k:Res Ag→AV
 | .ok x=>.tuple [.agg (agA x),noB]
 | .error e=>.tuple [.agg (agA A0m),J7 e]
theorem D1z (q:Qe) (hq:q.quants.length≤100000) (hf:q.frees.length≤100000) (x2:List UInt8) (v1 v2:Int) (v3:List UInt8) (v4:Bool) (x4 x5:Int) (k:Int):A8 Tryz.prog Γ 74 [.agg (qeA z0 q),.agg (Tr.arA (1,x2,(v1,v2,v3,v4),x4,x5)),.int .i64 k] fun v=>v=B7k (U0 q (1,x2,(v1,v2,v3,v4),x4,x5) k):=by
 have hqu:=A18 (Γ:=Γ) q x2 hq
 have hfr:=A33 (Γ:=Γ) q x2 hf
 have l1:(q.quants.map qtA).length=q.quants.length:=List.length_map ..
 have l2:(q.frees.map feA).length=q.frees.length:=List.length_map ..
 simp only [qeA,z0] at hqu hfr
 simp only [qeA,z0,Tr.arA]
 have hF:U0 q (1,x2,(v1,v2,v3,v4),x4,x5) k=if v1=k then .ok (1,0,v1,v2,v3,v4) else .error (8,x4,x5):=rfl
 rw [hF]
 refine aps Tryz.func74 ?_
 intro s
 conv=>whnf
 intro b3 hb3
 have k_b3:=hb3
 repeat replace k_b3:=A0 k_b3
 conv=>whnf
 intro b4 hb4
 have k_b4:=hb4
 repeat replace k_b4:=A0 k_b4
 have n_b3_b4:b3≠b4:=by (have k:=hb4;repeat (first|exact A6 k|replace k:=A0 k))
 have n_b4_b3:=n_b3_b4.symm
 conv=>whnf
 intro b6 hb6
 have k_b6:=hb6
 repeat replace k_b6:=A0 k_b6
 have n_b3_b6:b3≠b6:=by (have k:=hb6;repeat (first|exact A6 k|replace k:=A0 k))
 have n_b6_b3:=n_b3_b6.symm
 have n_b4_b6:b4≠b6:=by (have k:=hb6;repeat (first|exact A6 k|replace k:=A0 k))
 have n_b6_b4:=n_b4_b6.symm
 conv=>whnf
 intro b7 hb7
 have k_b7:=hb7
 repeat replace k_b7:=A0 k_b7
 have n_b3_b7:b3≠b7:=by (have k:=hb7;repeat (first|exact A6 k|replace k:=A0 k))
 have n_b7_b3:=n_b3_b7.symm
 have n_b4_b7:b4≠b7:=by (have k:=hb7;repeat (first|exact A6 k|replace k:=A0 k))
 have n_b7_b4:=n_b4_b7.symm
 have n_b6_b7:b6≠b7:=by (have k:=hb7;repeat (first|exact A6 k|replace k:=A0 k))
 have n_b7_b6:=n_b6_b7.symm
 refine wp ?_
 intro b8 hb8
 have k_b8:=hb8
 repeat replace k_b8:=A0 k_b8
 have n_b3_b8:b3≠b8:=by (have k:=hb8;repeat (first|exact A6 k|replace k:=A0 k))
 have n_b8_b3:=n_b3_b8.symm
 have n_b4_b8:b4≠b8:=by (have k:=hb8;repeat (first|exact A6 k|replace k:=A0 k))
 have n_b8_b4:=n_b4_b8.symm
 have n_b6_b8:b6≠b8:=by (have k:=hb8;repeat (first|exact A6 k|replace k:=A0 k))
 have n_b8_b6:=n_b6_b8.symm
 have n_b7_b8:b7≠b8:=by (have k:=hb8;repeat (first|exact A6 k|replace k:=A0 k))
 have n_b8_b7:=n_b7_b8.symm
 conv=>whnf
 repeat' ((first|exact pru|(refine brS (fun h=>?_) (fun h=>?_)<;>(try rw [h])<;>(try simp only [bS,↓reduceIte] at h))|refine A5 ?_|(refine AWp.anyP (id:=7) [(8,true),(6,false)] (fun k=>cond k b8 b6) [0,1,2,3] n_b8_b6 (by kernel_rfl) (by kernel_rfl) (by kernel_rfl) (by kernel_rfl) ?_)|(refine oA ?_)|refine gS ?_|refine aA ?_|refine nA ?_|fail)<;>(conv=>whnf))
 all_goals (
  refine ⟨N2,?_⟩
  first
   | rfl
   | (rw [if_neg (by simp_all)];rfl)
   | (rw [if_pos (by simp_all)];rfl))
theorem D10 (q:Qe) (hq:q.quants.length≤100000) (hf:q.frees.length≤100000) (x2:List UInt8) (v1 v2:Int) (v3:List UInt8) (v4:Bool) (x4 x5:Int) (k:Int):A8 Tryz.prog Γ 74 [.agg (qeA z0 q),.agg (Tr.arA (3,x2,(v1,v2,v3,v4),x4,x5)),.int .i64 k] fun v=>v=B7k (U0 q (3,x2,(v1,v2,v3,v4),x4,x5) k):=by
 have hqu:=A18 (Γ:=Γ) q x2 hq
 have hfr:=A33 (Γ:=Γ) q x2 hf
 have l1:(q.quants.map qtA).length=q.quants.length:=List.length_map ..
 have l2:(q.frees.map feA).length=q.frees.length:=List.length_map ..
 simp only [qeA,z0] at hqu hfr
 simp only [qeA,z0,Tr.arA]
 have hF:U0 q (3,x2,(v1,v2,v3,v4),x4,x5) k=.ok (4,0,Tr.H9):=rfl
 rw [hF]
 refine aps Tryz.func74 ?_
 intro s
 conv=>whnf
 intro b3 hb3
 have k_b3:=hb3
 repeat replace k_b3:=A0 k_b3
 conv=>whnf
 intro b4 hb4
 have k_b4:=hb4
 repeat replace k_b4:=A0 k_b4
 have n_b3_b4:b3≠b4:=by (have k:=hb4;repeat (first|exact A6 k|replace k:=A0 k))
 have n_b4_b3:=n_b3_b4.symm
 conv=>whnf
 intro b6 hb6
 have k_b6:=hb6
 repeat replace k_b6:=A0 k_b6
 have n_b3_b6:b3≠b6:=by (have k:=hb6;repeat (first|exact A6 k|replace k:=A0 k))
 have n_b6_b3:=n_b3_b6.symm
 have n_b4_b6:b4≠b6:=by (have k:=hb6;repeat (first|exact A6 k|replace k:=A0 k))
 have n_b6_b4:=n_b4_b6.symm
 conv=>whnf
 intro b7 hb7
 have k_b7:=hb7
 repeat replace k_b7:=A0 k_b7
 have n_b3_b7:b3≠b7:=by (have k:=hb7;repeat (first|exact A6 k|replace k:=A0 k))
 have n_b7_b3:=n_b3_b7.symm
 have n_b4_b7:b4≠b7:=by (have k:=hb7;repeat (first|exact A6 k|replace k:=A0 k))
 have n_b7_b4:=n_b4_b7.symm
 have n_b6_b7:b6≠b7:=by (have k:=hb7;repeat (first|exact A6 k|replace k:=A0 k))
 have n_b7_b6:=n_b6_b7.symm
 refine wp ?_
 intro b8 hb8
 have k_b8:=hb8
 repeat replace k_b8:=A0 k_b8
 have n_b3_b8:b3≠b8:=by (have k:=hb8;repeat (first|exact A6 k|replace k:=A0 k))
 have n_b8_b3:=n_b3_b8.symm
 have n_b4_b8:b4≠b8:=by (have k:=hb8;repeat (first|exact A6 k|replace k:=A0 k))
 have n_b8_b4:=n_b4_b8.symm
 have n_b6_b8:b6≠b8:=by (have k:=hb8;repeat (first|exact A6 k|replace k:=A0 k))
 have n_b8_b6:=n_b6_b8.symm
 have n_b7_b8:b7≠b8:=by (have k:=hb8;repeat (first|exact A6 k|replace k:=A0 k))
 have n_b8_b7:=n_b7_b8.symm
 refine wp ?_
 all_goals (
  refine ⟨N2,?_⟩
  first
   | rfl
   | (rw [if_neg (by simp_all)];rfl)
   | (rw [if_pos (by simp_all)];rfl))
theorem D0j (q:Qe) (hq:q.quants.length≤100000) (hf:q.frees.length≤100000) (x2:List UInt8) (v1 v2:Int) (v3:List UInt8) (v4:Bool) (x4 x5:Int) (k:Int) (hi:idx x2 (q.quants.map (·.2.1))=none) (hj:idx x2 (q.frees.map (·.1))=none):A8 Tryz.prog Γ 74 [.agg (qeA z0 q),.agg (Tr.arA (2,x2,(v1,v2,v3,v4),x4,x5)),.int .i64 k] fun v=>v=B7k (U0 q (2,x2,(v1,v2,v3,v4),x4,x5) k):=by
 have hqu:=A18 (Γ:=Γ) q x2 hq
 have hfr:=A33 (Γ:=Γ) q x2 hf
 have l1:(q.quants.map qtA).length=q.quants.length:=List.length_map ..
 have l2:(q.frees.map feA).length=q.frees.length:=List.length_map ..
 simp only [qeA,z0] at hqu hfr
 simp only [qeA,z0,Tr.arA]
 rw [hi] at hqu
 rw [hj] at hfr
 simp only [F0] at hqu hfr
 have hF:U0 q (2,x2,(v1,v2,v3,v4),x4,x5) k=.error (11,x4,x5):=by
  unfold U0 V3
  simp only [hi,hj]
  rfl
 rw [hF]
 refine aps Tryz.func74 ?_
 intro s
 conv=>whnf
 intro b3 hb3
 have k_b3:=hb3
 repeat replace k_b3:=A0 k_b3
 conv=>whnf
 intro b4 hb4
 have k_b4:=hb4
 repeat replace k_b4:=A0 k_b4
 have n_b3_b4:b3≠b4:=by (have k:=hb4;repeat (first|exact A6 k|replace k:=A0 k))
 have n_b4_b3:=n_b3_b4.symm
 conv=>whnf
 intro b6 hb6
 have k_b6:=hb6
 repeat replace k_b6:=A0 k_b6
 have n_b3_b6:b3≠b6:=by (have k:=hb6;repeat (first|exact A6 k|replace k:=A0 k))
 have n_b6_b3:=n_b3_b6.symm
 have n_b4_b6:b4≠b6:=by (have k:=hb6;repeat (first|exact A6 k|replace k:=A0 k))
 have n_b6_b4:=n_b4_b6.symm
 conv=>whnf
 intro b7 hb7
 have k_b7:=hb7
 repeat replace k_b7:=A0 k_b7
 have n_b3_b7:b3≠b7:=by (have k:=hb7;repeat (first|exact A6 k|replace k:=A0 k))
 have n_b7_b3:=n_b3_b7.symm
 have n_b4_b7:b4≠b7:=by (have k:=hb7;repeat (first|exact A6 k|replace k:=A0 k))
 have n_b7_b4:=n_b4_b7.symm
 have n_b6_b7:b6≠b7:=by (have k:=hb7;repeat (first|exact A6 k|replace k:=A0 k))
 have n_b7_b6:=n_b6_b7.symm
 refine wp ?_
 intro b8 hb8
 have k_b8:=hb8
 repeat replace k_b8:=A0 k_b8
 have n_b3_b8:b3≠b8:=by (have k:=hb8;repeat (first|exact A6 k|replace k:=A0 k))
 have n_b8_b3:=n_b3_b8.symm
 have n_b4_b8:b4≠b8:=by (have k:=hb8;repeat (first|exact A6 k|replace k:=A0 k))
 have n_b8_b4:=n_b4_b8.symm
 have n_b6_b8:b6≠b8:=by (have k:=hb8;repeat (first|exact A6 k|replace k:=A0 k))
 have n_b8_b6:=n_b6_b8.symm
 have n_b7_b8:b7≠b8:=by (have k:=hb8;repeat (first|exact A6 k|replace k:=A0 k))
 have n_b8_b7:=n_b7_b8.symm
 conv=>whnf
 repeat' ((first|exact pru|(refine brS (fun h=>?_) (fun h=>?_)<;>(try rw [h])<;>(try simp only [bS,↓reduceIte] at h))|refine A5 ?_|(refine A2.pure' ?_ (hqu);rintro _ rfl)|refine A7.pure ?_ (hqu)|(refine A2.pure' ?_ (hfr);rintro _ rfl)|refine A7.pure ?_ (hfr)|(refine AWp.anyP (id:=13) [(8,true),(6,false)] (fun k=>cond k b8 b6) [0,1,2,3] n_b8_b6 (by kernel_rfl) (by kernel_rfl) (by kernel_rfl) (by kernel_rfl) ?_)|(refine oA ?_)|refine gS ?_|refine aA ?_|refine nA ?_|fail)<;>(conv=>whnf))
 all_goals (
  refine ⟨N2,?_⟩
  first
   | rfl
   | (rw [if_neg (by simp_all)];rfl)
   | (rw [if_pos (by simp_all)];rfl))
theorem D0i (q:Qe) (hq:q.quants.length≤100000) (hf:q.frees.length≤100000) (x2:List UInt8) (v1 v2:Int) (v3:List UInt8) (v4:Bool) (x4 x5:Int) (k:Int) (j:Nat) (hi:idx x2 (q.quants.map (·.2.1))=none) (hj:idx x2 (q.frees.map (·.1))=some j):A8 Tryz.prog Γ 74 [.agg (qeA z0 q),.agg (Tr.arA (2,x2,(v1,v2,v3,v4),x4,x5)),.int .i64 k] fun v=>v=B7k (U0 q (2,x2,(v1,v2,v3,v4),x4,x5) k):=by
 have hqu:=A18 (Γ:=Γ) q x2 hq
 have hfr:=A33 (Γ:=Γ) q x2 hf
 have l1:(q.quants.map qtA).length=q.quants.length:=List.length_map ..
 have l2:(q.frees.map feA).length=q.frees.length:=List.length_map ..
 simp only [qeA,z0] at hqu hfr
 simp only [qeA,z0,Tr.arA]
 rw [hi] at hqu
 rw [hj] at hfr
 simp only [F0] at hqu hfr
 have hF:U0 q (2,x2,(v1,v2,v3,v4),x4,x5) k=if A15 q (3,j)=k then .ok (3,(j:Int),Tr.H9) else .error (8,x4,x5):=by
  unfold U0 V3
  simp only [hi,hj]
  rfl
 have hjl:j < q.frees.length:=by have:=(U6 hj).1;rwa [List.length_map] at this
 have hga:(q.frees.map feA).getD ((j:Int)).toNat []=feA (q.frees.getD j A5r):=by rw [Int.toNat_natCast];exact Tr.B9 A5r hjl
 rw [show A15 q (3,j)=(q.frees.getD j A5r).2.1 from rfl] at hF
 rw [hF]
 clear hF
 generalize q.frees.getD j A5r=u at *
 simp only [feA] at hga
 refine aps Tryz.func74 ?_
 intro s
 conv=>whnf
 intro b3 hb3
 have k_b3:=hb3
 repeat replace k_b3:=A0 k_b3
 conv=>whnf
 intro b4 hb4
 have k_b4:=hb4
 repeat replace k_b4:=A0 k_b4
 have n_b3_b4:b3≠b4:=by (have k:=hb4;repeat (first|exact A6 k|replace k:=A0 k))
 have n_b4_b3:=n_b3_b4.symm
 conv=>whnf
 intro b6 hb6
 have k_b6:=hb6
 repeat replace k_b6:=A0 k_b6
 have n_b3_b6:b3≠b6:=by (have k:=hb6;repeat (first|exact A6 k|replace k:=A0 k))
 have n_b6_b3:=n_b3_b6.symm
 have n_b4_b6:b4≠b6:=by (have k:=hb6;repeat (first|exact A6 k|replace k:=A0 k))
 have n_b6_b4:=n_b4_b6.symm
 conv=>whnf
 intro b7 hb7
 have k_b7:=hb7
 repeat replace k_b7:=A0 k_b7
 have n_b3_b7:b3≠b7:=by (have k:=hb7;repeat (first|exact A6 k|replace k:=A0 k))
 have n_b7_b3:=n_b3_b7.symm
 have n_b4_b7:b4≠b7:=by (have k:=hb7;repeat (first|exact A6 k|replace k:=A0 k))
 have n_b7_b4:=n_b4_b7.symm
 have n_b6_b7:b6≠b7:=by (have k:=hb7;repeat (first|exact A6 k|replace k:=A0 k))
 have n_b7_b6:=n_b6_b7.symm
 refine wp ?_
 intro b8 hb8
 have k_b8:=hb8
 repeat replace k_b8:=A0 k_b8
 have n_b3_b8:b3≠b8:=by (have k:=hb8;repeat (first|exact A6 k|replace k:=A0 k))
 have n_b8_b3:=n_b3_b8.symm
 have n_b4_b8:b4≠b8:=by (have k:=hb8;repeat (first|exact A6 k|replace k:=A0 k))
 have n_b8_b4:=n_b4_b8.symm
 have n_b6_b8:b6≠b8:=by (have k:=hb8;repeat (first|exact A6 k|replace k:=A0 k))
 have n_b8_b6:=n_b6_b8.symm
 have n_b7_b8:b7≠b8:=by (have k:=hb8;repeat (first|exact A6 k|replace k:=A0 k))
 have n_b8_b7:=n_b7_b8.symm
 conv=>whnf
 repeat' ((first|exact pru|(refine brS (fun h=>?_) (fun h=>?_)<;>(try rw [h])<;>(try simp only [bS,↓reduceIte] at h))|refine A5 ?_|(refine A2.pure' ?_ (hqu);rintro _ rfl)|refine A7.pure ?_ (hqu)|(refine A2.pure' ?_ (hfr);rintro _ rfl)|refine A7.pure ?_ (hfr)|refine ⟨D3 (hga) rfl,Go.Ab.C5 (hga) ?_⟩|(refine AWp.anyP (id:=16) [(8,true),(6,false)] (fun k=>cond k b8 b6) [0,1,2,3] n_b8_b6 (by kernel_rfl) (by kernel_rfl) (by kernel_rfl) (by kernel_rfl) ?_)|(refine oA ?_)|refine gS ?_|refine aA ?_|refine nA ?_|fail)<;>(conv=>whnf))
 all_goals (
  refine ⟨N2,?_⟩
  first
   | rfl
   | (rw [if_neg (by simp_all)];rfl)
   | (rw [if_pos (by simp_all)];rfl))
theorem D0k (q:Qe) (hq:q.quants.length≤100000) (hf:q.frees.length≤100000) (x2:List UInt8) (v1 v2:Int) (v3:List UInt8) (v4:Bool) (x4 x5:Int) (k:Int) (i:Nat) (hi:idx x2 (q.quants.map (·.2.1))=some i) (hj:idx x2 (q.frees.map (·.1))=none):A8 Tryz.prog Γ 74 [.agg (qeA z0 q),.agg (Tr.arA (2,x2,(v1,v2,v3,v4),x4,x5)),.int .i64 k] fun v=>v=B7k (U0 q (2,x2,(v1,v2,v3,v4),x4,x5) k):=by
 have hqu:=A18 (Γ:=Γ) q x2 hq
 have hfr:=A33 (Γ:=Γ) q x2 hf
 have l1:(q.quants.map qtA).length=q.quants.length:=List.length_map ..
 have l2:(q.frees.map feA).length=q.frees.length:=List.length_map ..
 simp only [qeA,z0] at hqu hfr
 simp only [qeA,z0,Tr.arA]
 rw [hi] at hqu
 rw [hj] at hfr
 simp only [F0] at hqu hfr
 have hF:U0 q (2,x2,(v1,v2,v3,v4),x4,x5) k=if A15 q (2,i)=k then .ok (2,(i:Int),Tr.H9) else .error (8,x4,x5):=by
  unfold U0 V3
  simp only [hi]
  rfl
 have hil:i < q.quants.length:=by have:=(U6 hi).1;rwa [List.length_map] at this
 have hga:(q.quants.map qtA).getD ((i:Int)).toNat []=qtA (q.quants.getD i A4y):=by rw [Int.toNat_natCast];exact Tr.B9 A4y hil
 rw [show A15 q (2,i)=(q.quants.getD i A4y).2.2 from rfl] at hF
 rw [hF]
 clear hF
 generalize q.quants.getD i A4y=u at *
 simp only [qtA] at hga
 refine aps Tryz.func74 ?_
 intro s
 conv=>whnf
 intro b3 hb3
 have k_b3:=hb3
 repeat replace k_b3:=A0 k_b3
 conv=>whnf
 intro b4 hb4
 have k_b4:=hb4
 repeat replace k_b4:=A0 k_b4
 have n_b3_b4:b3≠b4:=by (have k:=hb4;repeat (first|exact A6 k|replace k:=A0 k))
 have n_b4_b3:=n_b3_b4.symm
 conv=>whnf
 intro b6 hb6
 have k_b6:=hb6
 repeat replace k_b6:=A0 k_b6
 have n_b3_b6:b3≠b6:=by (have k:=hb6;repeat (first|exact A6 k|replace k:=A0 k))
 have n_b6_b3:=n_b3_b6.symm
 have n_b4_b6:b4≠b6:=by (have k:=hb6;repeat (first|exact A6 k|replace k:=A0 k))
 have n_b6_b4:=n_b4_b6.symm
 conv=>whnf
 intro b7 hb7
 have k_b7:=hb7
 repeat replace k_b7:=A0 k_b7
 have n_b3_b7:b3≠b7:=by (have k:=hb7;repeat (first|exact A6 k|replace k:=A0 k))
 have n_b7_b3:=n_b3_b7.symm
 have n_b4_b7:b4≠b7:=by (have k:=hb7;repeat (first|exact A6 k|replace k:=A0 k))
 have n_b7_b4:=n_b4_b7.symm
 have n_b6_b7:b6≠b7:=by (have k:=hb7;repeat (first|exact A6 k|replace k:=A0 k))
 have n_b7_b6:=n_b6_b7.symm
 refine wp ?_
 intro b8 hb8
 have k_b8:=hb8
 repeat replace k_b8:=A0 k_b8
 have n_b3_b8:b3≠b8:=by (have k:=hb8;repeat (first|exact A6 k|replace k:=A0 k))
 have n_b8_b3:=n_b3_b8.symm
 have n_b4_b8:b4≠b8:=by (have k:=hb8;repeat (first|exact A6 k|replace k:=A0 k))
 have n_b8_b4:=n_b4_b8.symm
 have n_b6_b8:b6≠b8:=by (have k:=hb8;repeat (first|exact A6 k|replace k:=A0 k))
 have n_b8_b6:=n_b6_b8.symm
 have n_b7_b8:b7≠b8:=by (have k:=hb8;repeat (first|exact A6 k|replace k:=A0 k))
 have n_b8_b7:=n_b7_b8.symm
 conv=>whnf
 repeat' ((first|exact pru|(refine brS (fun h=>?_) (fun h=>?_)<;>(try rw [h])<;>(try simp only [bS,↓reduceIte] at h))|refine A5 ?_|(refine A2.pure' ?_ (hqu);rintro _ rfl)|refine A7.pure ?_ (hqu)|(refine A2.pure' ?_ (hfr);rintro _ rfl)|refine A7.pure ?_ (hfr)|refine ⟨D3 (hga) rfl,Go.Ab.C5 (hga) ?_⟩|(refine AWp.anyP (id:=16) [(8,true),(6,false)] (fun k=>cond k b8 b6) [0,1,2,3] n_b8_b6 (by kernel_rfl) (by kernel_rfl) (by kernel_rfl) (by kernel_rfl) ?_)|(refine oA ?_)|refine gS ?_|refine aA ?_|refine nA ?_|fail)<;>(conv=>whnf))
 all_goals (
  refine ⟨N2,?_⟩
  first
   | rfl
   | (rw [if_neg (by simp_all)];rfl)
   | (rw [if_pos (by simp_all)];rfl))
theorem C74 (q:Qe) (hN:C3l q) (hq:q.quants.length≤100000) (hf:q.frees.length≤100000) (x:Tr.Ar) (hx:x.1=1∨x.1=2∨x.1=3) (k:Int) :
  A8 Tryz.prog Γ 74 [.agg (qeA z0 q),.agg (Tr.arA x),.int .i64 k] fun v=>v=B7k (U0 q x k):=by
 obtain ⟨x1,x2,⟨v1,v2,v3,v4⟩,x4,x5⟩:=x
 simp only at hx
 rcases hx with rfl|rfl|rfl
 ·exact D1z q hq hf _ _ _ _ _ _ _ _
 ·rcases hi:idx x2 (q.quants.map (·.2.1)) with _|i
  ·rcases hj:idx x2 (q.frees.map (·.1)) with _|j
   ·exact D0j q hq hf _ _ _ _ _ _ _ _ hi hj
   ·exact D0i q hq hf _ _ _ _ _ _ _ _ j hi hj
  ·exact D0k q hq hf _ _ _ _ _ _ _ _ i hi (hN x2 (by rw [hi];simp))
 ·exact D10 q hq hf _ _ _ _ _ _ _ _
theorem M6 (e:Int) (x:Tr.Idn):A8 Tryz.prog Γ 20 [.int .i64 e,.agg (Tr.S1 x)] fun v=>v=J7 (e,x.2):=by
 obtain ⟨x1,x2,x3⟩:=x
 simp only [Tr.S1]
 refine aps Tryz.func20 ?_
 intro s
 conv=>whnf
 intro b3 hb3
 have k_b3:=hb3
 repeat replace k_b3:=A0 k_b3
 conv=>whnf
 intro b4 hb4
 have k_b4:=hb4
 repeat replace k_b4:=A0 k_b4
 have n_b3_b4:b3≠b4:=by (have k:=hb4;repeat (first|exact A6 k|replace k:=A0 k))
 have n_b4_b3:=n_b3_b4.symm
 refine wp ?_
 exact ⟨N2,rfl⟩
theorem B3q (a b:Sm) (ha:a.2.length≤100000) (hb:b.2.length≤100000):A8 Tryz.prog Γ 23 [.agg (smA (0,a)),.agg (smA (0,b))] fun v=>v=.bool (decide (a=b)):=by
 obtain ⟨a1,a2⟩:=a
 obtain ⟨b1,b2⟩:=b
 simp only at ha hb
 have hla:(a2.map agA).length=a2.length:=List.length_map ..
 have hlb:(b2.map agA).length=b2.length:=List.length_map ..
 simp only [smA]
 refine aps Tryz.func23 ?_
 intro s
 conv=>whnf
 intro c2 hc2
 have k_c2:=hc2
 repeat replace k_c2:=A0 k_c2
 conv=>whnf
 intro c3 hc3
 have k_c3:=hc3
 repeat replace k_c3:=A0 k_c3
 have n_c2_c3:c2≠c3:=by (have k:=hc3;repeat (first|exact A6 k|replace k:=A0 k))
 have n_c3_c2:=n_c2_c3.symm
 conv=>whnf
 by_cases h1:a1=b1
 ·by_cases h2:a2.length=b2.length
  ·refine wp ?_
   all_goals try (exfalso;revert h;simp_all;done)
   refine AWp.loopA [5] [20,21,22,23,24,27,28,29,30,31,32,33,34,35,36,37,4,25,26] (fun i:Nat=>[.int .i64 i]) (fun i s'=>i≤a2.length∧s'=(s.set c2 93 (smA (0,a1,a2))).set c3 93 (smA (0,b1,b2))∧decide ((a1,a2)=(b1,b2))=decide (a2.drop i=b2.drop i)) (fun i=>a2.length - i) (0) (by kernel_rfl) (eqa) ?_ ?_
   ·exact ⟨by omega,rfl,by simp [h1]⟩
   ·rintro y i s1 ⟨hi,rfl,hp⟩
    simp only [smA]
    conv=>whnf
    have hga:=fun h:i < a2.length=>Tr.B9 (f:=agA) (l:=a2) A0m h
    have hgb:=fun h:i < b2.length=>Tr.B9 (f:=agA) (l:=b2) A0m h
    have he:=C4a (a2.getD i A0m) (b2.getD i A0m)
    have hd:=fun (h:i < a2.length) (h':i < b2.length)=>Tr.A8v (d:=A0m) h h'
    generalize a2.getD i A0m=x at *
    generalize b2.getD i A0m=z at *
    repeat' ((first|exact pru|(refine brS (fun h=>?_) (fun h=>?_)<;>(try rw [h])<;>(try simp only [bS,↓reduceIte] at h))|refine A5 ?_|(rw [show (a2.map agA).getD ((i:Int)).toNat []=_ from hga (by omega)])|(rw [show (b2.map agA).getD ((i:Int)).toNat []=_ from hgb (by omega)])|(refine P9.of C4q B9l ?_)|refine gS ?_|refine aA ?_|refine nA ?_|fail)<;>(conv=>whnf))
    ·refine ⟨N2,Tr.C4 ?_⟩
     rw [hp,hd (by omega) (by omega),← he,h]
     rfl
    ·refine ⟨i+1,eqa,B8,⟨by omega,(by first|rfl|trivial),?_⟩,by omega⟩
     rw [hp,hd (by omega) (by omega),← he,h,Bool.true_and]
    ·refine ⟨N2,Tr.C4 ?_⟩
     rw [hp,C0 (by omega),C0 (by omega)]
     rfl
  ·refine wp ?_
   all_goals (refine ⟨N2,Tr.C4 ?_⟩;exact (decide_eq_false (by rintro e;injection e with _ e;subst e;exact h2 rfl)).symm)
 ·refine wp ?_
  all_goals (refine ⟨N2,Tr.C4 ?_⟩;exact (decide_eq_false (by rintro e;injection e with e _;exact h1 e)).symm)
theorem A0x (l:List Sm) (x:Sm) (hl:l.length≤100000) (hx:x.2.length≤100000) (ho:∀ y ∈ l,y.2.length≤100000):A8 Tryz.prog Γ 17 [.slice 0 (sms l),.agg (smA (0,x))] fun v=>v=.int .i64 (F0 (idx x l)):=by
 have hla:(sms l).length=l.length:=List.length_map ..
 rw [← A6l]
 obtain ⟨x1,x2⟩:=x
 simp only at hx
 simp only [smA]
 refine aps Tryz.func17 ?_
 intro s
 conv=>whnf
 intro b3 hb3
 have k_b3:=hb3
 repeat replace k_b3:=A0 k_b3
 refine wp ?_
 refine AWp.loopA [5] [6,7,8,9,12,13,14,15,16,17,18,4,10,11] (fun i:Nat=>[.int .i64 i]) (fun i s'=>i≤l.length∧s'=s.set b3 93 (smA (0,x1,x2))∧F0 (P8 (fun y=>decide (y=(x1,x2))) l)=F0 ((P8 (fun y=>decide (y=(x1,x2))) (l.drop i)).map (i+·))) (fun i=>l.length - i) (0) (by kernel_rfl) (eqa) ?_ ?_
 ·refine ⟨by omega,rfl,?_⟩
  rw [List.drop_zero]
  cases P8 (fun y=>decide (y=(x1,x2))) l<;>simp [F0]
 ·rintro y i s1 ⟨hi,rfl,hp⟩
  simp only [smA]
  conv=>whnf
  have hga:=fun h:i < l.length=>Tr.B9 (f:=fun x=>smA (0,x)) (l:=l) P4 h
  have hd:=fun (h:i < l.length)=>X4 (fun y=>decide (y=(x1,x2))) P4 h
  have hsm:=fun (h:i < l.length)=>B3q (Γ:=Γ) (l.getD i P4) (x1,x2) (ho _ (Tr.D4 P4 h)) hx
  by_cases hlt:i < l.length
  ·have hga:=hga hlt
   have hd:=hd hlt
   have hsm:=hsm hlt
   generalize l.getD i P4=z at *
   simp only [smA] at hga hsm
   repeat' ((first|exact pru|(refine brS (fun h=>?_) (fun h=>?_)<;>(try rw [h])<;>(try simp only [bS,↓reduceIte] at h))|refine A5 ?_|refine ⟨D3 (hga) rfl,Go.Ab.C5 (hga) ?_⟩|(refine A2.pure' ?_ (hsm);rintro _ rfl)|refine A7.pure ?_ (hsm)|refine gS ?_|refine aA ?_|refine nA ?_|fail)<;>(conv=>whnf))
   ·refine ⟨N2,congrArg (AV.int .i64) ?_⟩
    rw [hp,hd,if_pos (by simpa using h)]
    simp [F0]
   ·refine ⟨i+1,eqa,B8,⟨by omega,(by first|rfl|trivial),?_⟩,by omega⟩
    rw [hp,hd,if_neg (by simpa using h)]
    exact A1i _ _
  ·refine wp ?_
   refine ⟨N2,congrArg (AV.int .i64) ?_⟩
   rw [hp,C0 (by omega)]
   rfl
theorem C2y (m:Sm) (i:Int) (hl:m.2.length≤100000) (hm:∀ a ∈ m.2,a.1=2→a.2.2=Tr.H9):A8 Tryz.prog Γ 19 [.agg (smA (0,m)),.int .i64 i] fun v=>v=.bool (M2 m i):=by
  obtain ⟨m1,m2⟩:=m
  simp only at hl hm
  have hla:(m2.map agA).length=m2.length:=List.length_map ..
  simp only [smA]
  refine aps Tryz.func19 ?_
  intro s
  conv=>whnf
  intro b2 hb2
  have k_b2:=hb2
  repeat replace k_b2:=A0 k_b2
  refine wp ?_
  refine AWp.loopA [5] [6,7,8,9,10,13,14,15,16,17,18,19,20,21,22,23,24,25,26,27,28,29,4,11,12] (fun k:Nat=>[.int .i64 k]) (fun k s'=>k≤m2.length∧s'=s.set b2 93 (smA (0,m1,m2))∧decide ((2,i,Tr.H9) ∈ m2)=decide ((2,i,Tr.H9) ∈ m2.drop k)) (fun k=>m2.length - k) (0) (by kernel_rfl) (eqa) ?_ ?_
  · exact ⟨by omega,rfl,by simp⟩
  · rintro y k s1 ⟨hk,rfl,hp⟩
    simp only [smA]
    conv=>whnf
    by_cases hlt:k < m2.length
    · have hga:=Tr.B9 (f:=agA) (l:=m2) A0m hlt
      have hmem:=Tr.D4 A0m hlt
      have hd:m2.drop k=m2.getD k A0m::m2.drop (k+1):=by rw [List.drop_eq_getElem_cons hlt];simp [List.getD,hlt]
      have hv:=hm _ hmem
      generalize m2.getD k A0m=z at *
      obtain ⟨z1,z2,z3,z4,z5,z6⟩:=z
      simp only [agA] at hga
      have hk2:((2,i,Tr.H9) ∈ m2.drop k)↔((z1=2∧z2=i)∨(2,i,Tr.H9) ∈ m2.drop (k+1)):=by
        rw [hd,List.mem_cons]
        refine or_congr ⟨fun e=>?_,fun e=>?_⟩ Iff.rfl
        · simp only [Prod.mk.injEq] at e
          exact ⟨e.1.symm,e.2.1.symm⟩
        · obtain ⟨rfl,rfl⟩:=e
          have e2:(z3,z4,z5,z6)=Tr.H9:=hv rfl
          rw [← e2]
      repeat' ((first|exact pru|(refine brS (fun h=>?_) (fun h=>?_)<;>(try rw [h])<;>(try simp only [bS,↓reduceIte] at h))|refine A5 ?_|refine ⟨D3 (hga) rfl,Go.Ab.C5 (hga) ?_⟩|refine gS ?_|refine aA ?_|refine nA ?_|fail)<;>(conv=>whnf))
      all_goals first
        | (refine ⟨N2,Tr.C4 ?_⟩
           show true=decide ((2,i,Tr.H9) ∈ m2)
           rw [hp]
           exact (decide_eq_true (hk2.2 (.inl (by simp_all)))).symm)
        | (refine ⟨k+1,eqa,B8,⟨by omega,(by first|rfl|trivial),?_⟩,by omega⟩
           rw [hp,decide_eq_decide,hk2]
           exact ⟨fun h=>h.resolve_left (by simp_all),.inr⟩)
    · refine wp ?_
      refine ⟨N2,Tr.C4 ?_⟩
      show false=decide ((2,i,Tr.H9) ∈ m2)
      rw [hp,C0 (by omega)]
      rfl
def A49:Res Sm→AV
 | .ok x=>.tuple [.agg (smA (0,x)),noB]
 | .error e=>.tuple [.agg (smA (0,P4)),J7 e]
theorem B59 {q:Qe} {a:Tr.Ar} {k:Int} {e:Bad} (h:U0 q a k=.error e):e.1≠0:=by
 unfold U0 at h
 split at h
 ·cases h
 ·split at h
  ·split at h
   ·cases h
   ·cases h;simp
  ·split at h
   ·cases h;simp
   ·split at h
    ·cases h
    ·cases h;simp
theorem D1a (x:Ag):fgL (agA x)=agA x:=rfl
theorem C4f (l:List Ag):fgE (l.map agA)=l.map agA:=Z7 (B:=agA) (fun x=>D1a x) l
theorem Q8 (q:Qe) (hq:H7 q) (x:Tr.Sy) (hx:∀ a ∈ x.2.1,a.1=1∨a.1=2∨a.1=3) :
  A8 Tryz.prog Γ 16 [.agg (qeA z0 q),.agg (Tr.syA (0,x))] fun v=>v=A49 (Z3 q x):=by
 refine A8.fgt fun s=>?_
 obtain ⟨nm,args,ln,cl⟩:=x
 simp only at hx
 have q1:=hq.decls
 have q2:=hq.quants
 have q3:=hq.frees
 have hfi:=C5o (Γ:=Γ) q.decls nm (by omega)
 have hla:(args.map Tr.arA).length=args.length:=List.length_map ..
 have hdl:=A9l q.decls
 rcases hi:idx nm (q.decls.map (·.1)) with _|d
 ·rw [hi] at hfi
  simp only [F0] at hfi
  have hF:Z3 q (nm,args,ln,cl)=.error (11,ln,cl):=by
   unfold Z3
   simp only [hi]
  rw [hF]
  simp only [qeA,z0,Tr.syA]
  refine acs Tryz.func16 ?_
  conv=>whnf
  intro b2 hb2
  have k_b2:=hb2
  repeat replace k_b2:=A0 k_b2
  conv=>whnf
  intro b3 hb3
  have k_b3:=hb3
  repeat replace k_b3:=A0 k_b3
  have n_b2_b3:b2≠b3:=by (have k:=hb3;repeat (first|exact A6 k|replace k:=A0 k))
  have n_b3_b2:=n_b2_b3.symm
  conv=>whnf
  intro b4 hb4
  have k_b4:=hb4
  repeat replace k_b4:=A0 k_b4
  have n_b2_b4:b2≠b4:=by (have k:=hb4;repeat (first|exact A6 k|replace k:=A0 k))
  have n_b4_b2:=n_b2_b4.symm
  have n_b3_b4:b3≠b4:=by (have k:=hb4;repeat (first|exact A6 k|replace k:=A0 k))
  have n_b4_b3:=n_b3_b4.symm
  conv=>whnf
  intro b5 hb5
  have k_b5:=hb5
  repeat replace k_b5:=A0 k_b5
  have n_b2_b5:b2≠b5:=by (have k:=hb5;repeat (first|exact A6 k|replace k:=A0 k))
  have n_b5_b2:=n_b2_b5.symm
  have n_b3_b5:b3≠b5:=by (have k:=hb5;repeat (first|exact A6 k|replace k:=A0 k))
  have n_b5_b3:=n_b3_b5.symm
  have n_b4_b5:b4≠b5:=by (have k:=hb5;repeat (first|exact A6 k|replace k:=A0 k))
  have n_b5_b4:=n_b4_b5.symm
  conv=>whnf
  repeat' ((first|exact pru|(refine brS (fun h=>?_) (fun h=>?_)<;>(try rw [h])<;>(try simp only [bS,↓reduceIte] at h))|refine A5 ?_|(refine A2.pure' ?_ (hfi);rintro _ rfl)|refine A7.pure ?_ (hfi)|(refine AWp.anyP (id:=3) [(19,true),(21,true),(4,false)] (fun k=>cond k b3 b4) [0,1,2,3,4,5,6,7] n_b3_b4 (by kernel_rfl) (by kernel_rfl) (by kernel_rfl) (by kernel_rfl) ?_)|(refine oA ?_)|refine gS ?_|refine aA ?_|refine nA ?_|fail)<;>(conv=>whnf))
  exact ⟨_,Sub.refl _,rfl,N2⟩
 rw [hi] at hfi
 simp only [F0] at hfi
 obtain ⟨hdlt,_⟩:=U6 hi
 rw [List.length_map] at hdlt
 have hga:(dcs q.decls).getD ((d:Int)).toNat []=dcA (0,q.decls.getD d Y7):=by rw [Int.toNat_natCast];exact Tr.B9 (f:=fun x=>dcA (0,x)) Y7 hdlt
 have hty:(q.decls.getD d Y7).2.length≤8:=hq.types _ (Tr.D4 Y7 hdlt)
 have hF:Z3 q (nm,args,ln,cl)=if (q.decls.getD d Y7).2.length≠args.length then .error (12,ln,cl) else match R8 q args (q.decls.getD d Y7).2 [] with
   | .error e=>.error e
   | .ok l=>.ok ((d:Int),l):=by
  unfold Z3
  simp only [hi]
  rfl
 rw [hF]
 clear hF
 generalize hde:q.decls.getD d Y7=de at *
 obtain ⟨dn,dt⟩:=de
 simp only [dcA] at hga
 simp only at hty ⊢
 have hil:=H8 .i64 dt
 by_cases hne:dt.length≠args.length
 ·rw [if_pos hne]
  simp only [qeA,z0,Tr.syA]
  refine acs Tryz.func16 ?_
  conv=>whnf
  intro b2 hb2
  have k_b2:=hb2
  repeat replace k_b2:=A0 k_b2
  conv=>whnf
  intro b3 hb3
  have k_b3:=hb3
  repeat replace k_b3:=A0 k_b3
  have n_b2_b3:b2≠b3:=by (have k:=hb3;repeat (first|exact A6 k|replace k:=A0 k))
  have n_b3_b2:=n_b2_b3.symm
  conv=>whnf
  intro b4 hb4
  have k_b4:=hb4
  repeat replace k_b4:=A0 k_b4
  have n_b2_b4:b2≠b4:=by (have k:=hb4;repeat (first|exact A6 k|replace k:=A0 k))
  have n_b4_b2:=n_b2_b4.symm
  have n_b3_b4:b3≠b4:=by (have k:=hb4;repeat (first|exact A6 k|replace k:=A0 k))
  have n_b4_b3:=n_b3_b4.symm
  conv=>whnf
  intro b5 hb5
  have k_b5:=hb5
  repeat replace k_b5:=A0 k_b5
  have n_b2_b5:b2≠b5:=by (have k:=hb5;repeat (first|exact A6 k|replace k:=A0 k))
  have n_b5_b2:=n_b2_b5.symm
  have n_b3_b5:b3≠b5:=by (have k:=hb5;repeat (first|exact A6 k|replace k:=A0 k))
  have n_b5_b3:=n_b3_b5.symm
  have n_b4_b5:b4≠b5:=by (have k:=hb5;repeat (first|exact A6 k|replace k:=A0 k))
  have n_b5_b4:=n_b4_b5.symm
  conv=>whnf
  repeat' ((first|exact pru|(refine brS (fun h=>?_) (fun h=>?_)<;>(try rw [h])<;>(try simp only [bS,↓reduceIte] at h))|refine A5 ?_|(refine A2.pure' ?_ (hfi);rintro _ rfl)|refine A7.pure ?_ (hfi)|refine ⟨D3 (hga) rfl,Go.Ab.C5 (hga) ?_⟩|(refine AWp.anyP (id:=5) [(36,true),(38,true),(4,false)] (fun k=>cond k b3 b4) [0,1,2,3,4,5,6,7] n_b3_b4 (by kernel_rfl) (by kernel_rfl) (by kernel_rfl) (by kernel_rfl) ?_)|(refine oA ?_)|refine gS ?_|refine aA ?_|refine nA ?_|fail)<;>(conv=>whnf))
  exact ⟨_,Sub.refl _,rfl,N2⟩
 rw [if_neg hne]
 have hlen:dt.length=args.length:=by omega
 have harg0:=fun u hu kk=>C74 (Γ:=Γ) q hq.both (by omega) (by omega) u hu kk
 simp only [qeA,z0] at harg0
 simp only [qeA,z0,Tr.syA]
 refine acs Tryz.func16 ?_
 conv=>whnf
 intro b2 hb2
 have k_b2:=hb2
 repeat replace k_b2:=A0 k_b2
 conv=>whnf
 intro b3 hb3
 have k_b3:=hb3
 repeat replace k_b3:=A0 k_b3
 have n_b2_b3:b2≠b3:=by (have k:=hb3;repeat (first|exact A6 k|replace k:=A0 k))
 have n_b3_b2:=n_b2_b3.symm
 conv=>whnf
 intro b4 hb4
 have k_b4:=hb4
 repeat replace k_b4:=A0 k_b4
 have n_b2_b4:b2≠b4:=by (have k:=hb4;repeat (first|exact A6 k|replace k:=A0 k))
 have n_b4_b2:=n_b2_b4.symm
 have n_b3_b4:b3≠b4:=by (have k:=hb4;repeat (first|exact A6 k|replace k:=A0 k))
 have n_b4_b3:=n_b3_b4.symm
 conv=>whnf
 intro b5 hb5
 have k_b5:=hb5
 repeat replace k_b5:=A0 k_b5
 have n_b2_b5:b2≠b5:=by (have k:=hb5;repeat (first|exact A6 k|replace k:=A0 k))
 have n_b5_b2:=n_b2_b5.symm
 have n_b3_b5:b3≠b5:=by (have k:=hb5;repeat (first|exact A6 k|replace k:=A0 k))
 have n_b5_b3:=n_b3_b5.symm
 have n_b4_b5:b4≠b5:=by (have k:=hb5;repeat (first|exact A6 k|replace k:=A0 k))
 have n_b5_b4:=n_b4_b5.symm
 refine wp ?_
 have f2:((((s.set b2 63 [.str q.name,.slice 0 (dcs q.decls),.slice 0 (q.quants.map qtA),.slice 0 (q.frees.map feA),.slice 0 (q.states.map saA),.int .i64 q.start,.slice 0 (sms q.syms),.slice 0 (q.nodes.map ndA),.slice 0 (txs q.trans)]).set b3 46 [.str nm,.slice 0 (args.map Tr.arA),.int .i64 ln,.int .i64 cl]).set b4 93 [.int .i64 0,.slice 1 []]).set b5 70 [.int .i64 0,.int .i64 0,.int .i64 0]).bx b2=some (63,[.str q.name,.slice 0 (dcs q.decls),.slice 0 (q.quants.map qtA),.slice 0 (q.frees.map feA),.slice 0 (q.states.map saA),.int .i64 q.start,.slice 0 (sms q.syms),.slice 0 (q.nodes.map ndA),.slice 0 (txs q.trans)]):=bxa
 have f3:((((s.set b2 63 [.str q.name,.slice 0 (dcs q.decls),.slice 0 (q.quants.map qtA),.slice 0 (q.frees.map feA),.slice 0 (q.states.map saA),.int .i64 q.start,.slice 0 (sms q.syms),.slice 0 (q.nodes.map ndA),.slice 0 (txs q.trans)]).set b3 46 [.str nm,.slice 0 (args.map Tr.arA),.int .i64 ln,.int .i64 cl]).set b4 93 [.int .i64 0,.slice 1 []]).set b5 70 [.int .i64 0,.int .i64 0,.int .i64 0]).bx b3=some (46,[.str nm,.slice 0 (args.map Tr.arA),.int .i64 ln,.int .i64 cl]):=bxa
 have hS:Sub s ((((s.set b2 63 [.str q.name,.slice 0 (dcs q.decls),.slice 0 (q.quants.map qtA),.slice 0 (q.frees.map feA),.slice 0 (q.states.map saA),.int .i64 q.start,.slice 0 (sms q.syms),.slice 0 (q.nodes.map ndA),.slice 0 (txs q.trans)]).set b3 46 [.str nm,.slice 0 (args.map Tr.arA),.int .i64 ln,.int .i64 cl]).set b4 93 [.int .i64 0,.slice 1 []]).set b5 70 [.int .i64 0,.int .i64 0,.int .i64 0]):=N2
 have f4:((((s.set b2 63 [.str q.name,.slice 0 (dcs q.decls),.slice 0 (q.quants.map qtA),.slice 0 (q.frees.map feA),.slice 0 (q.states.map saA),.int .i64 q.start,.slice 0 (sms q.syms),.slice 0 (q.nodes.map ndA),.slice 0 (txs q.trans)]).set b3 46 [.str nm,.slice 0 (args.map Tr.arA),.int .i64 ln,.int .i64 cl]).set b4 93 [.int .i64 0,.slice 1 []]).set b5 70 [.int .i64 0,.int .i64 0,.int .i64 0]).bx b4=some (93,[.int .i64 0,.slice 1 []]):=bxa
 have f5:((((s.set b2 63 [.str q.name,.slice 0 (dcs q.decls),.slice 0 (q.quants.map qtA),.slice 0 (q.frees.map feA),.slice 0 (q.states.map saA),.int .i64 q.start,.slice 0 (sms q.syms),.slice 0 (q.nodes.map ndA),.slice 0 (txs q.trans)]).set b3 46 [.str nm,.slice 0 (args.map Tr.arA),.int .i64 ln,.int .i64 cl]).set b4 93 [.int .i64 0,.slice 1 []]).set b5 70 [.int .i64 0,.int .i64 0,.int .i64 0]).bx b5=some (70,[.int .i64 0,.int .i64 0,.int .i64 0]):=bxa
 generalize (((s.set b2 63 [.str q.name,.slice 0 (dcs q.decls),.slice 0 (q.quants.map qtA),.slice 0 (q.frees.map feA),.slice 0 (q.states.map saA),.int .i64 q.start,.slice 0 (sms q.syms),.slice 0 (q.nodes.map ndA),.slice 0 (txs q.trans)]).set b3 46 [.str nm,.slice 0 (args.map Tr.arA),.int .i64 ln,.int .i64 cl]).set b4 93 [.int .i64 0,.slice 1 []]).set b5 70 [.int .i64 0,.int .i64 0,.int .i64 0]=S at *
 intro b7 hb7
 have n27:b2≠b7:=A1 f2 hb7
 have n37:b3≠b7:=A1 f3 hb7
 have n47:b4≠b7:=A1 f4 hb7
 have n57:b5≠b7:=A1 f5 hb7
 have n74:=n47.symm
 have n75:=n57.symm
 refine wp ?_
 refine AWp.loopA [8] [43,44,45,46,47,51,52,53,54,55,56,57,58,59,60,61,62,63,64,65,66,50,67,68,9,10,69,70,71,72,73,74,75,76,77,78,79,48,49] (fun z:Nat × List Ag × Nat=>[.int .i64 (z.1:Int)]) (fun z s'=>z.1≤args.length∧Own S s' (z.1 == 0) z.2.2 169 6∧s'.bx b7=some (93,[.int .i64 d,.slice z.2.2 (z.2.1.map agA)])∧R8 q args dt []=R8 q (args.drop z.1) (dt.drop z.1) z.2.1∧z.2.1.length=z.1) (fun z=>args.length - z.1) ((0,[],1)) (by kernel_rfl) (eqa) ?_ ?_
 ·exact ⟨Nat.zero_le _,Own.start (((Sub.refl S).set hb7 _ _).set hb7 _ _) _ _,A3,rfl,rfl⟩
 ·rintro y ⟨i,acc,t⟩ s7 ⟨hi7,ho,g7,hr7,hal⟩
  simp only at hi7 ho g7 hr7 hal
  have g2:=ho.sub.bx _ _ f2
  have g3:=ho.sub.bx _ _ f3
  have g4:=ho.sub.bx _ _ f4
  have g5:=ho.sub.bx _ _ f5
  show awp _ _ _ _ _ (updL _ _ [.int .i64 (i:Int)]) _
  by_cases hlt:i < args.length
  ·have hgu:(args.map Tr.arA).getD ((i:Int)).toNat []=Tr.arA (args.getD i Tr.A60):=by rw [Int.toNat_natCast];exact Tr.B9 Tr.A60 hlt
   have hgt:(G9 .i64 dt).getD ((i:Int)).toNat []=[.int .i64 (dt.getD i 0)]:=by rw [Int.toNat_natCast];exact A0t (by omega)
   have hstep:R8 q (args.drop i) (dt.drop i) acc=match U0 q (args.getD i Tr.A60) (dt.getD i 0) with
     | .error e=>.error e
     | .ok x=>R8 q (args.drop (i+1)) (dt.drop (i+1)) (acc++[x]):=by
    rw [List.drop_eq_getElem_cons hlt,List.drop_eq_getElem_cons (show i < dt.length by omega),R8]
    simp only [List.getD,List.getElem?_eq_getElem hlt,List.getElem?_eq_getElem (show i < dt.length by omega),Option.getD_some]
    cases U0 q args[i] dt[i]<;>rfl
   have hxu:=hx _ (Tr.D4 Tr.A60 hlt)
   generalize args.getD i Tr.A60=u at *
   generalize dt.getD i 0=kk at *
   have harg:=harg0 u hxu kk
   obtain ⟨u1,u2,⟨u3,u4,u5,u6⟩,u7,u8⟩:=u
   simp only [Tr.arA] at hgu harg
   rcases ha:U0 q (u1,u2,(u3,u4,u5,u6),u7,u8) kk with ⟨e1,e2,e3⟩|⟨w1,w2,w3,w4,w5,w6⟩
   ·have he0:e1≠0:=B59 ha
    rw [ha] at harg hstep
    have hbad:R8 q args dt []=.error (e1,e2,e3):=hr7.trans hstep
    rw [hbad]
    simp only [B7k,J7,agA,A0m,Tr.H9] at harg
    refine wp ?_
    intro b9 hb9
    have m9:=ho.sub.none hb9
    have n29:=A1 g2 hb9
    have n39:=A1 g3 hb9
    have n49:=A1 g4 hb9
    have n59:=A1 g5 hb9
    conv=>whnf
    intro b10 hb10
    have m10:=ho.sub.none (A0 hb10)
    have n_b9_b10:b9≠b10:=A1 bxa hb10
    have n_b10_b9:=n_b9_b10.symm
    have n210:=A1 g2 (A0 hb10)
    have n410:=A1 g4 (A0 hb10)
    have n510:=A1 g5 (A0 hb10)
    have n104:=n410.symm
    have n105:=n510.symm
    conv=>whnf
    repeat' ((first|exact pru|(refine brS (fun h=>?_) (fun h=>?_)<;>(try rw [h])<;>(try simp only [bS,↓reduceIte] at h))|refine A5 ?_|(refine AWp.anyP (id:=12) [(10,true),(4,false)] (fun k=>cond k b10 b4) [0,1,2,3] n104 (by kernel_rfl) (by kernel_rfl) (by kernel_rfl) (by kernel_rfl) ?_)|(refine oA ?_)|refine gS ?_|refine aA ?_|refine nA ?_|fail)<;>(conv=>whnf))
    refine ⟨_,Sub.refl _,rfl,?_⟩
    exact ((((((hS.trans ho.sub).set (hS.none m9) _ _).set (hS.none m10) _ _).set (hS.none m9) _ _).set (hS.none m10) _ _).set k_b4 _ _).set k_b5 _ _
   ·rw [ha] at harg hstep
    simp only [B7k,J7,noB,agA] at harg
    refine wp ?_
    intro b9 hb9
    have m9:=ho.sub.none hb9
    have n79:=A1 g7 hb9
    conv=>whnf
    intro b10 hb10
    have m10:=ho.sub.none (A0 hb10)
    have n_b9_b10:b9≠b10:=A1 bxa hb10
    have n_b10_b9:=n_b9_b10.symm
    have n710:=A1 g7 (A0 hb10)
    refine wp ?_
    have hb10':=A0 hb10
    refine ⟨ho.may.imp id ((((((Sub.refl s7).set hb9 _ _).set hb10' _ _).set hb9 _ _).set hb10' _ _).lv _ _ _),fun c hc=>by obtain ⟨z,_,rfl⟩:=List.mem_map.1 hc;rfl,all_cons ⟨rfl,rfl⟩ C3,?_,?_⟩
    ·show ((acc.map agA).length+1) * (_+1)≤_
     exact Nat.le_trans (Nat.mul_le_mul_right _ (show (acc.map agA).length+1≤100001 by rw [List.length_map];omega)) (Nat.le_of_ble_eq_true (by kernel_rfl))
    intro t' l1 l2
    have k3:=Own.grow (Own.set (Own.set (Own.set (Own.set ho m9) m10) m9) m10) l1 l2
    rw [show ((i == 0) && [[AV.int .i64 w1,.int .i64 w2,.int .i64 w3,.int .i64 w4,.str w5,.bool w6]].isEmpty)=false by simp] at k3
    refine wp ?_
    have hmp:(acc++[(w1,w2,w3,w4,w5,w6)]).map agA=acc.map agA++[agA (w1,w2,w3,w4,w5,w6)]:=by rw [List.map_append];rfl
    refine ⟨(i+1,acc++[(w1,w2,w3,w4,w5,w6)],t'),eqa,B8,⟨by omega,?_,?_,hr7.trans hstep,by rw [List.length_append,hal];rfl⟩,by omega⟩
    ·exact k3.set hb7
    ·simp only [hmp]
     exact A3
  ·have hok:R8 q args dt []=.ok acc:=by rw [hr7,C0 (by omega),C0 (l:=dt) (by omega)];rfl
   rw [hok]
   refine wp ?_
   refine ⟨_,Sub.refl _,?_,((hS.trans ho.sub).set k_b4 _ _).set k_b5 _ _⟩
   show fg (.tuple [.agg [.int .i64 d,.slice t (acc.map agA)],.agg [.int .i64 0,.int .i64 0,.int .i64 0]])=_
   simp only [fg,fgL,C4f,A49,smA,noB,J7]
theorem A70 {α:Type} {A:α→List AV} (h:∀ x,fgL (A x)=A x) (l:List α):fgE (l.map A)=l.map A:=Z7 (B:=A) h l
theorem B4r (l:List Int):fgE (G9 .i64 l)=G9 .i64 l:=A70 (A:=fun x=>[.int .i64 x]) (fun _=>rfl) l
theorem D1b (x:Dc):fgL (dcA (0,x))=dcA (0,x):=by
 simp only [dcA,fgL,fg,B4r]
theorem D1c (x:Sm):fgL (smA (0,x))=smA (0,x):=by
 simp only [smA,fgL,fg,C4f]
theorem D1d (x:Tx):fgL (txA (0,x))=txA (0,x):=by
 simp only [txA,fgL,fg]
 rw [A70 (A:=sxA) (fun _=>rfl)]
theorem B0l (l:List Tx):fgE (txs l)=txs l:=A70 (A:=fun x=>txA (0,x)) D1d l
theorem A5j (l:List Sm):fgE (sms l)=sms l:=A70 (A:=fun x=>smA (0,x)) D1c l
theorem A1q (l:List Dc):fgE (dcs l)=dcs l:=A70 (A:=fun x=>dcA (0,x)) D1b l
theorem A6j (l:List Qt):fgE (l.map qtA)=l.map qtA:=A70 (A:=qtA) (fun _=>rfl) l
theorem A6i (l:List Fe):fgE (l.map feA)=l.map feA:=A70 (A:=feA) (fun _=>rfl) l
theorem A6k (l:List Sa):fgE (l.map saA)=l.map saA:=A70 (A:=saA) (fun _=>rfl) l
theorem B0j (l:List Nd):fgE (l.map ndA)=l.map ndA:=A70 (A:=ndA) (fun _=>rfl) l
theorem C4g (a b:List (List AV)):fgE (a++b)=fgE a++fgE b:=by
 induction a with
 | nil=>rw [A4l];rfl
 | cons x a ih=>rw [List.cons_append,fgE,fgE,ih];rfl
theorem B0k (tk:Nat→Nat) (q:Qe):fgL (qeA tk q)=qeA z0 q:=by
 simp only [qeA,fgL,fg,A1q,A6j,A6i,A6k,A5j,B0j,B0l,z0]
theorem A34 (tq:Nat→Nat) (q:Qe) (sm:Sm) (t:Tr.Tn) (ht:B78 t) (x1 x2 x3 x4:Int) (tk:Nat):A8 Tryz.prog Γ 75 [.agg (qeA tq q),.agg (smA (0,sm)),.agg (Tr.tnA ((0,0,0),t)),.agg [.int .i64 x1,.int .i64 x2,.int .i64 x3,.int .i64 x4,.slice tk []]]
  fun v=>v=.tuple [.agg (qeA tq q),.agg [.int .i64 x1,.int .i64 x2,.int .i64 x3,.int .i64 x4,.slice tk []],noB]:=by
 obtain ⟨⟨n1,n2,n3⟩,⟨m1,m2,m3⟩,⟨y1,y2,y3,y4⟩,nds,g,ss⟩:=t
 obtain ⟨r1,r2,r3⟩:=ht
 simp only at r1 r2 r3
 subst r1 r2 r3
 obtain ⟨sy1,sy2⟩:=sm
 simp only [Tr.tnA,List.map_nil,smA,qeA]
 refine aps Tryz.func75 ?_
 intro s
 conv=>whnf
 intro b4 hb4
 have k_b4:=hb4
 repeat replace k_b4:=A0 k_b4
 conv=>whnf
 intro b5 hb5
 have k_b5:=hb5
 repeat replace k_b5:=A0 k_b5
 have n_b4_b5:b4≠b5:=by (have k:=hb5;repeat (first|exact A6 k|replace k:=A0 k))
 have n_b5_b4:=n_b4_b5.symm
 conv=>whnf
 intro b6 hb6
 have k_b6:=hb6
 repeat replace k_b6:=A0 k_b6
 have n_b4_b6:b4≠b6:=by (have k:=hb6;repeat (first|exact A6 k|replace k:=A0 k))
 have n_b6_b4:=n_b4_b6.symm
 have n_b5_b6:b5≠b6:=by (have k:=hb6;repeat (first|exact A6 k|replace k:=A0 k))
 have n_b6_b5:=n_b5_b6.symm
 conv=>whnf
 intro b7 hb7
 have k_b7:=hb7
 repeat replace k_b7:=A0 k_b7
 have n_b4_b7:b4≠b7:=by (have k:=hb7;repeat (first|exact A6 k|replace k:=A0 k))
 have n_b7_b4:=n_b4_b7.symm
 have n_b5_b7:b5≠b7:=by (have k:=hb7;repeat (first|exact A6 k|replace k:=A0 k))
 have n_b7_b5:=n_b5_b7.symm
 have n_b6_b7:b6≠b7:=by (have k:=hb7;repeat (first|exact A6 k|replace k:=A0 k))
 have n_b7_b6:=n_b6_b7.symm
 conv=>whnf
 intro b8 hb8
 have k_b8:=hb8
 repeat replace k_b8:=A0 k_b8
 have n_b4_b8:b4≠b8:=by (have k:=hb8;repeat (first|exact A6 k|replace k:=A0 k))
 have n_b8_b4:=n_b4_b8.symm
 have n_b5_b8:b5≠b8:=by (have k:=hb8;repeat (first|exact A6 k|replace k:=A0 k))
 have n_b8_b5:=n_b5_b8.symm
 have n_b6_b8:b6≠b8:=by (have k:=hb8;repeat (first|exact A6 k|replace k:=A0 k))
 have n_b8_b6:=n_b6_b8.symm
 have n_b7_b8:b7≠b8:=by (have k:=hb8;repeat (first|exact A6 k|replace k:=A0 k))
 have n_b8_b7:=n_b7_b8.symm
 conv=>whnf
 intro b9 hb9
 have k_b9:=hb9
 repeat replace k_b9:=A0 k_b9
 have n_b4_b9:b4≠b9:=by (have k:=hb9;repeat (first|exact A6 k|replace k:=A0 k))
 have n_b9_b4:=n_b4_b9.symm
 have n_b5_b9:b5≠b9:=by (have k:=hb9;repeat (first|exact A6 k|replace k:=A0 k))
 have n_b9_b5:=n_b5_b9.symm
 have n_b6_b9:b6≠b9:=by (have k:=hb9;repeat (first|exact A6 k|replace k:=A0 k))
 have n_b9_b6:=n_b6_b9.symm
 have n_b7_b9:b7≠b9:=by (have k:=hb9;repeat (first|exact A6 k|replace k:=A0 k))
 have n_b9_b7:=n_b7_b9.symm
 have n_b8_b9:b8≠b9:=by (have k:=hb9;repeat (first|exact A6 k|replace k:=A0 k))
 have n_b9_b8:=n_b8_b9.symm
 conv=>whnf
 intro b10 hb10
 have k_b10:=hb10
 repeat replace k_b10:=A0 k_b10
 have n_b4_b10:b4≠b10:=by (have k:=hb10;repeat (first|exact A6 k|replace k:=A0 k))
 have n_b10_b4:=n_b4_b10.symm
 have n_b5_b10:b5≠b10:=by (have k:=hb10;repeat (first|exact A6 k|replace k:=A0 k))
 have n_b10_b5:=n_b5_b10.symm
 have n_b6_b10:b6≠b10:=by (have k:=hb10;repeat (first|exact A6 k|replace k:=A0 k))
 have n_b10_b6:=n_b6_b10.symm
 have n_b7_b10:b7≠b10:=by (have k:=hb10;repeat (first|exact A6 k|replace k:=A0 k))
 have n_b10_b7:=n_b7_b10.symm
 have n_b8_b10:b8≠b10:=by (have k:=hb10;repeat (first|exact A6 k|replace k:=A0 k))
 have n_b10_b8:=n_b8_b10.symm
 have n_b9_b10:b9≠b10:=by (have k:=hb10;repeat (first|exact A6 k|replace k:=A0 k))
 have n_b10_b9:=n_b9_b10.symm
 refine wp ?_
 intro b13 hb13
 have k_b13:=hb13
 repeat replace k_b13:=A0 k_b13
 have n_b4_b13:b4≠b13:=by (have k:=hb13;repeat (first|exact A6 k|replace k:=A0 k))
 have n_b13_b4:=n_b4_b13.symm
 have n_b5_b13:b5≠b13:=by (have k:=hb13;repeat (first|exact A6 k|replace k:=A0 k))
 have n_b13_b5:=n_b5_b13.symm
 have n_b6_b13:b6≠b13:=by (have k:=hb13;repeat (first|exact A6 k|replace k:=A0 k))
 have n_b13_b6:=n_b6_b13.symm
 have n_b7_b13:b7≠b13:=by (have k:=hb13;repeat (first|exact A6 k|replace k:=A0 k))
 have n_b13_b7:=n_b7_b13.symm
 have n_b8_b13:b8≠b13:=by (have k:=hb13;repeat (first|exact A6 k|replace k:=A0 k))
 have n_b13_b8:=n_b8_b13.symm
 have n_b9_b13:b9≠b13:=by (have k:=hb13;repeat (first|exact A6 k|replace k:=A0 k))
 have n_b13_b9:=n_b9_b13.symm
 have n_b10_b13:b10≠b13:=by (have k:=hb13;repeat (first|exact A6 k|replace k:=A0 k))
 have n_b13_b10:=n_b10_b13.symm
 refine wp ?_
 refine AWp.loopA [15] [72,73,74,75,76,77,78,79,80,81,84,85,86,87,88,16,89,90,91,92,93,17,94,95,96,97,98,99,100,18,101,102,103,104,105,108,109,110,111,112,113,114,115,116,117,118,119,120,106,107,122,123,124,125,126,127,128,129,130,131,121,132,133,134,12,135,136,137,138,139,140,141,142,143,144,145,146,147,148,149,150,151,152,153,154,155,156,157,158,159,160,161,162,163,164,165,166,167,168,169,170,171,172,173,174,175,176,177,178,179,180,181,14,82,83] (fun _:Unit=>[.int .i64 0]) (fun _ s'=>s'.bx b4=some (63,[.str q.name,.slice (tq 0) (dcs q.decls),.slice (tq 1) (q.quants.map qtA),.slice (tq 2) (q.frees.map feA),.slice (tq 3) (q.states.map saA),.int .i64 q.start,.slice (tq 4) (sms q.syms),.slice (tq 5) (q.nodes.map ndA),.slice (tq 6) (txs q.trans)])∧s'.bx b6=some (54,[.str n1,.int .i64 n2,.int .i64 n3,.str m1,.int .i64 m2,.int .i64 m3,.str y1,.slice 0 (y2.map Tr.arA),.int .i64 y3,.int .i64 y4,.slice 0 [],.int .i64 (-1),.slice 0 []])∧s'.bx b7=some (106,[.int .i64 x1,.int .i64 x2,.int .i64 x3,.int .i64 x4,.slice tk []])∧s'.bx b13=some (70,[.int .i64 0,.int .i64 0,.int .i64 0])∧s'.bx b8=some (63,[.str [],.slice 1 [],.slice 1 [],.slice 1 [],.slice 1 [],.int .i64 0,.slice 1 [],.slice 1 [],.slice 1 []])∧s'.bx b9=some (106,[.int .i64 0,.int .i64 0,.int .i64 0,.int .i64 0,.slice 1 []])∧s'.bx b10=some (70,[.int .i64 0,.int .i64 0,.int .i64 0])∧Sub s s') (fun _=>0) (()) (by kernel_rfl) (eqa) ?_ ?_
 ·exact ⟨bxa,bxa,bxa,bxa,bxa,bxa,bxa,N2⟩
 ·rintro y _ s1 ⟨g4,g6,g7,g13,g8,g9,g10,hsub⟩
  conv=>whnf
  repeat' ((first|exact pru|(refine brS (fun h=>?_) (fun h=>?_)<;>(try rw [h])<;>(try simp only [bS,↓reduceIte] at h))|refine A5 ?_|(refine AWp.anyP (id:=28) [(8,false),(9,true),(7,true),(100007,true),(200013,true)] (fun k=>cond k b9 b8) [0,1,2,3,4,5] n_b9_b8 (by kernel_rfl) (by kernel_rfl) (by kernel_rfl) (by kernel_rfl) ?_)|(refine oA ?_)|refine gS ?_|refine aA ?_|refine nA ?_|fail)<;>(conv=>whnf))
  exact ⟨((hsub.set k_b8 _ _).set k_b9 _ _).set k_b10 _ _,rfl⟩
theorem B1l (q:Qe) (sm:Sm) (t:Tr.Tn) (ht:B78 t) (x1 x2 x3 x4:Int) (tk:Nat):A8 Tryz.prog Γ 75 [.agg (qeA z0 q),.agg (smA (0,sm)),.agg (Tr.tnA ((0,0,0),t)),.agg [.int .i64 x1,.int .i64 x2,.int .i64 x3,.int .i64 x4,.slice tk []]]
  fun v=>v=.tuple [.agg (qeA z0 q),.agg [.int .i64 x1,.int .i64 x2,.int .i64 x3,.int .i64 x4,.slice tk []],noB]:=A34 z0 q sm t ht x1 x2 x3 x4 tk
theorem C0b (l:List Tx) (x1 x2 x3 x4:Int):fgE (([]++txs l)++[[.int .i64 x1,.int .i64 x2,.int .i64 x3,.int .i64 x4,.slice 1 []]])=txs (l++[(x1,x2,x3,x4,[])]):=by
 rw [List.nil_append,C4g,B0l]
 unfold txs
 rw [List.map_append]
 rfl
def C73:Res Qe→AV
 | .ok q=>.tuple [.agg (qeA z0 q),noB]
 | .error e=>.tuple [.agg (qeA z0 Qe.none),J7 e]
def A2c (q:Qe) (t:Tr.Tn):Qe :=
 if 256≤q.trans.length then q else match K9 q t.1 with
 | .error _=>q
 | .ok _=>match S2 q t.2.2.1 with
  | .error _=>q
  | .ok r=>r.1
def C5j (q:Qe) (t:Tr.Tn):AV :=
 match E6 q t with
 | .ok q'=>.tuple [.agg (qeA z0 q'),noB]
 | .error e=>.tuple [.agg (qeA z0 (A2c q t)),J7 e]
end Go.Proofs.YtaammejliikieaaGreatDoor.Ck
namespace Go.Proofs.YtaammejliikieaaGreatDoor.AsM
open Go Go.RowKit Go.Extern.Stop Go.Stop Go.Extern
theorem A8k (t:Addr) (w:World):(ReflectliteValue.unpack (.iface 87 (.pointer (some t)))).run Tryz.prog w
  = .ok (.agg #[.pointer (some ⟨12,87,none⟩),.pointer (some ⟨w.heap.size,0,none⟩),.int .u64 150]) (w.alloc (.cells #[.pointer (some t)] 87)):=by kernel_rfl
theorem B9w (a : Addr) (w : World) : (ReflectliteValue.methodAny (ReflectliteValue.valueError "reflectlite.Value.Type" 0) (fun t _ _ _ => ReflectliteType.toType t) #[(.agg #[.pointer (some ⟨12, 87, none⟩), .pointer (some a), .int .u64 150])]).run Tryz.prog w
  = .ok (.iface 194 (.agg #[.pointer (some ⟨12,87,none⟩)])) w:=by kernel_rfl
theorem A5p (h : Value) (w : World) : (Go.method 550 194 (.agg #[h]) "Kind").run Tryz.prog w = .ok (326, h) w := by kernel_rfl
theorem B87 (w:World):((ReflectliteType.abiMethod fun t=>(fun a:Nat=>Value.int IntKind.u8 (a:Int)) <$> Rtype.kind t) #[.pointer (some ⟨12,87,none⟩)]).run Tryz.prog w=.ok (.int .u8 22) w:=by kernel_rfl
theorem C4u (w:World):((ReflectliteType.abiMethod fun t=>(fun a:Nat=>Value.int IntKind.u8 (a:Int)) <$> Rtype.kind t) #[.pointer (some ⟨12,82,none⟩)]).run Tryz.prog w=.ok (.int .u8 22) w:=by kernel_rfl
theorem rlm (z:Sem Value) (f:TypeId→Addr→Nat→Nat→Sem Value) (v:Value) :
  ReflectliteValue.method z f #[v]=(do match ← ReflectliteValue.parts v with|none=>z|some (t,a,fl)=>f t a fl (fl % 32)):=rfl
theorem A68 (a:Addr) (w:World):(ReflectliteValue.parts (.agg #[.pointer (some ⟨12,87,none⟩),.pointer (some a),.int .u64 150])).run Tryz.prog w=.ok (some (87,a,150)) w:=by kernel_rfl
theorem B42 (a p:Addr) (W:World) (ha:W.cell? a=some (.pointer (some p))) :
  (ReflectliteValue.method (ReflectliteValue.valueError "reflectlite.Value.IsNil" 0) ReflectliteValue.isNil #[(.agg #[.pointer (some ⟨12, 87, none⟩), .pointer (some a), .int .u64 150])]).run Tryz.prog W = .ok (.bool false) W := by
 rw [rlm]
 simp only [Sem.run_bind,A68,Result.andThen]
 simp [ReflectliteValue.isNil,loadVar,isAgg,underlying,Tryz.underlying87,ha,Result.andThen]
theorem A5o (h : Value) (w : World) : (Go.method 550 194 (.agg #[h]) "Elem").run Tryz.prog w = .ok (338, .agg #[h]) w := by kernel_rfl
theorem Z2 (h : Value) (w : World) : (Go.method 550 194 (.agg #[h]) "Implements").run Tryz.prog w = .ok (339, .agg #[h]) w := by kernel_rfl
theorem X0 (h : Value) (w : World) : (Go.method 550 194 (.agg #[h]) "AssignableTo").run Tryz.prog w = .ok (336, .agg #[h]) w := by kernel_rfl
theorem B8w (w:World):(ReflectliteType.method ReflectliteType.elem #[.agg #[.pointer (some ⟨12,87,none⟩)]]).run Tryz.prog w=.ok (.iface 194 (.agg #[.pointer (some ⟨12,82,none⟩)])) w:=by kernel_rfl
theorem A3u (w : World) : (ReflectliteType.relation "Implements" ReflectliteType.implements_ #[.agg #[.pointer (some ⟨12, 82, none⟩)], (.iface 194 (.agg #[.pointer (some ⟨12, 85, none⟩)]))]).run Tryz.prog w = .ok (.bool true) w := by kernel_rfl
theorem B5w (v:Value) (w:World):(ReflectliteType.typeOf #[.iface 82 v]).run Tryz.prog w=.ok (.iface 194 (.agg #[.pointer (some ⟨12,82,none⟩)])) w:=by kernel_rfl
theorem A3k (w : World) : (ReflectliteType.relation "AssignableTo" ReflectliteType.assignableTo #[.agg #[.pointer (some ⟨12, 82, none⟩)], (.iface 194 (.agg #[.pointer (some ⟨12, 82, none⟩)]))]).run Tryz.prog w = .ok (.bool true) w := by kernel_rfl
theorem B14 (e:Option Addr) (w:World):(ReflectliteValue.unpack (.iface 82 (.pointer e))).run Tryz.prog w
  = .ok (.agg #[.pointer (some ⟨12,82,none⟩),.pointer (some ⟨w.heap.size,0,none⟩),.int .u64 150]) (w.alloc (.cells #[.pointer e] 82)):=by kernel_rfl
theorem B0f (w:World):(Rtype.elem? 87).run Tryz.prog w=.ok (some 82) w:=by kernel_rfl
theorem mkE (p:Addr) (w:World):(ReflectliteValue.mk 82 p ReflectliteValue.flagAddr).run Tryz.prog w=.ok (.agg #[.pointer (some ⟨12,82,none⟩),.pointer (some p),.int .u64 406]) w:=by kernel_rfl
theorem B4o (a p:Addr) (W:World) (ha:W.cell? a=some (.pointer (some p))) :
  (ReflectliteValue.method (ReflectliteValue.valueError "reflectlite.Value.Elem" 0) ReflectliteValue.elem #[(.agg #[.pointer (some ⟨12, 87, none⟩), .pointer (some a), .int .u64 150])]).run Tryz.prog W
   = .ok (.agg #[.pointer (some ⟨12,82,none⟩),.pointer (some p),.int .u64 406]) W:=by
 rw [rlm]
 simp only [Sem.run_bind,A68,Result.andThen]
 simp [ReflectliteValue.elem,loadVar,isAgg,underlying,Tryz.underlying87,ha,Result.andThen,B0f,mkE]
theorem rls (v x:Value):ReflectliteValue.set #[v,x]=(do
  let (some (dst,a,fl),some (src,b,_)):=(← ReflectliteValue.parts v,← ReflectliteValue.parts x)
   | unsupported (.noEntry "extern/(internal/reflectlite.Value).Set.zeroValue")
  if fl / ReflectliteValue.flagAddr % 2 == 0 then unsupported (.noEntry "extern/(internal/reflectlite.Value).Set.unaddressable")
  let val ← loadVar src b
  if ← Rtype.directlyAssignable dst src then storeVar dst a val
  else if ← Rtype.implements dst src then
   if (← Rtype.kind src) == 20 then
    match val with
    | .nilIface => unsupported (.noEntry "extern/reflectlite: a nil value of one interface type handed on as a value of another")
    | _=>storeVar dst a val
   else storeVar dst a (.iface src val)
  else panicString ("reflectlite.Set: value of type " ++ (← Rtype.spelt src) ++ " is not assignable to type " ++ (← Rtype.spelt dst))
  pure (.tuple #[])):=rfl
theorem B1c (a:Addr) (w:World):(ReflectliteValue.parts (.agg #[.pointer (some ⟨12,82,none⟩),.pointer (some a),.int .u64 406])).run Tryz.prog w=.ok (some (82,a,406)) w:=by kernel_rfl
theorem B1d (b:Addr) (w:World):(ReflectliteValue.parts (.agg #[.pointer (some ⟨12,82,none⟩),.pointer (some b),.int .u64 150])).run Tryz.prog w=.ok (some (82,b,150)) w:=by kernel_rfl
theorem B4j (w:World):(Rtype.directlyAssignable 82 82).run Tryz.prog w=.ok true w:=by kernel_rfl
theorem D0o (a b:Addr) (val:Value) (W W':World) (hl:(loadVar 82 b).run Tryz.prog W=.ok val W) (hs:(storeVar 82 a val).run Tryz.prog W=.ok () W') :
  (ReflectliteValue.set #[(.agg #[.pointer (some ⟨12,82,none⟩),.pointer (some a),.int .u64 406]),(.agg #[.pointer (some ⟨12,82,none⟩),.pointer (some b),.int .u64 150])]).run Tryz.prog W=.ok (.tuple #[]) W':=by
 rw [rls]
 simp only [Sem.run_bind,B1c,B1d,Result.andThen]
 simp [ReflectliteValue.flagAddr,hl,Result.andThen,B4j,hs]
theorem A95 (t:Value) (w:World) :
  Calls Tryz.prog 12 #[.nilIface,t] w fun e w'=>e=.returned (.bool false)∧w'=w:=by
 go_enter Tryz.func12,Tryz.ntmps12
 go_wp2
 go_ret
 exact ⟨rfl,rfl⟩
theorem B8f (e:Option Addr) (t:Addr) (old val:Value) (w W':World) (hg:w.cell? ⟨0,0,none⟩=some (.iface 194 (.agg #[.pointer (some ⟨12,85,none⟩)]))) (ht0:w.cell? t=some old)
  (hl:(loadVar 82 ⟨w.heap.size+1+1+1,0,none⟩).run Tryz.prog ((((w.alloc (.cells #[.pointer (some t)] 87)).alloc (.cells #[.pointer (some ⟨12,87,none⟩),.pointer (some ⟨w.heap.size,0,none⟩),.int .u64 150] 130)).alloc (.cells #[.pointer (some ⟨12,87,none⟩),.pointer (some ⟨w.heap.size,0,none⟩),.int .u64 150] 130)).alloc (.cells #[.pointer e] 82))=.ok val ((((w.alloc (.cells #[.pointer (some t)] 87)).alloc (.cells #[.pointer (some ⟨12,87,none⟩),.pointer (some ⟨w.heap.size,0,none⟩),.int .u64 150] 130)).alloc (.cells #[.pointer (some ⟨12,87,none⟩),.pointer (some ⟨w.heap.size,0,none⟩),.int .u64 150] 130)).alloc (.cells #[.pointer e] 82))) (hs:(storeVar 82 t val).run Tryz.prog ((((w.alloc (.cells #[.pointer (some t)] 87)).alloc (.cells #[.pointer (some ⟨12,87,none⟩),.pointer (some ⟨w.heap.size,0,none⟩),.int .u64 150] 130)).alloc (.cells #[.pointer (some ⟨12,87,none⟩),.pointer (some ⟨w.heap.size,0,none⟩),.int .u64 150] 130)).alloc (.cells #[.pointer e] 82))=.ok () W') :
  Calls Tryz.prog 12 #[.iface 82 (.pointer e),.iface 87 (.pointer (some t))] w fun ev w'=>ev=.returned (.bool true)∧w'=W':=by
 have h6:=@run_callFunc_extern Tryz.prog 41 _ (fun args=>ReflectliteValue.unpack (args.getD 0 (.tuple #[]))) Tryz.func41 (by kernel_rfl) (by kernel_rfl) (by kernel_rfl) (by kernel_rfl)
 have h7 := @run_callFunc_extern Tryz.prog 42 _ (ReflectliteValue.methodAny (ReflectliteValue.valueError "reflectlite.Value.Type" 0) (fun t _ _ _ => ReflectliteType.toType t)) Tryz.func42 (by kernel_rfl) (by kernel_rfl) (by kernel_rfl) (by kernel_rfl)
 have h8 := @run_callFunc_extern Tryz.prog 43 _ (ReflectliteValue.method (ReflectliteValue.valueError "reflectlite.Value.IsNil" 0) ReflectliteValue.isNil) Tryz.func43 (by kernel_rfl) (by kernel_rfl) (by kernel_rfl) (by kernel_rfl)
 have h27:=@run_callFunc_extern Tryz.prog 326 _ (ReflectliteType.abiMethod fun t=>do pure (.int .u8 (← Rtype.kind t))) Tryz.func326 (by kernel_rfl) (by kernel_rfl) (by kernel_rfl) (by kernel_rfl)
 have h37:=@run_callFunc_extern Tryz.prog 338 _ (ReflectliteType.method ReflectliteType.elem) Tryz.func338 (by kernel_rfl) (by kernel_rfl) (by kernel_rfl) (by kernel_rfl)
 have h38 := @run_callFunc_extern Tryz.prog 339 _ (ReflectliteType.relation "Implements" ReflectliteType.implements_) Tryz.func339 (by kernel_rfl) (by kernel_rfl) (by kernel_rfl) (by kernel_rfl)
 have h10:=@run_callFunc_extern Tryz.prog 105 _ ReflectliteType.typeOf Tryz.func105 (by kernel_rfl) (by kernel_rfl) (by kernel_rfl) (by kernel_rfl)
 have h35 := @run_callFunc_extern Tryz.prog 336 _ (ReflectliteType.relation "AssignableTo" ReflectliteType.assignableTo) Tryz.func336 (by kernel_rfl) (by kernel_rfl) (by kernel_rfl) (by kernel_rfl)
 have h11 := @run_callFunc_extern Tryz.prog 106 _ (ReflectliteValue.method (ReflectliteValue.valueError "reflectlite.Value.Elem" 0) ReflectliteValue.elem) Tryz.func106 (by kernel_rfl) (by kernel_rfl) (by kernel_rfl) (by kernel_rfl)
 have h12:=@run_callFunc_extern Tryz.prog 107 _ ReflectliteValue.set Tryz.func107 (by kernel_rfl) (by kernel_rfl) (by kernel_rfl) (by kernel_rfl)
 have tO:=B5w
 have mA:=X0
 have aE:=A3k
 have vE:=B14
 have f6:=A8k
 have f7:=B9w
 have mK:=A5p
 have mE:=A5o
 have mI:=Z2
 have kP:=B87
 have kE:=C4u
 have eP:=B8w
 have iE:=A3u
 have n8:=B42 ⟨w.heap.size,0,none⟩ t ((w.alloc (.cells #[.pointer (some t)] 87)).alloc (.cells #[.pointer (some ⟨12,87,none⟩),.pointer (some ⟨w.heap.size,0,none⟩),.int .u64 150] 130)) (by simp)
 have hlt:0 < w.heap.size:=by
  rcases Nat.lt_or_ge 0 w.heap.size with h|h
  ·exact h
  ·simp [World.cell?,Array.getElem?_eq_none h] at hg
 have hg2:((w.alloc (.cells #[.pointer (some t)] 87)).alloc (.cells #[.pointer (some ⟨12,87,none⟩),.pointer (some ⟨w.heap.size,0,none⟩),.int .u64 150] 130)).cell? ⟨0,0,none⟩=some (.iface 194 (.agg #[.pointer (some ⟨12,85,none⟩)])):=by
  rw [World.cell?_alloc_lt _ _ ⟨0,0,none⟩ (by first|(simp;done)|(simp;omega)),World.cell?_alloc_lt _ _ ⟨0,0,none⟩ hlt];exact hg
 have el:=B4o ⟨w.heap.size,0,none⟩ t (((w.alloc (.cells #[.pointer (some t)] 87)).alloc (.cells #[.pointer (some ⟨12,87,none⟩),.pointer (some ⟨w.heap.size,0,none⟩),.int .u64 150] 130)).alloc (.cells #[.pointer (some ⟨12,87,none⟩),.pointer (some ⟨w.heap.size,0,none⟩),.int .u64 150] 130)) (by rw [World.cell?_alloc_lt _ _ ⟨w.heap.size,0,none⟩ (by simp;omega)];simp)
 have st:=D0o t ⟨w.heap.size+1+1+1,0,none⟩ val ((((w.alloc (.cells #[.pointer (some t)] 87)).alloc (.cells #[.pointer (some ⟨12,87,none⟩),.pointer (some ⟨w.heap.size,0,none⟩),.int .u64 150] 130)).alloc (.cells #[.pointer (some ⟨12,87,none⟩),.pointer (some ⟨w.heap.size,0,none⟩),.int .u64 150] 130)).alloc (.cells #[.pointer e] 82)) W' hl hs
 clear hl hs
 go_enter Tryz.func12,Tryz.ntmps12
 go_wp2
 refine wp_loop_rounds 1 ?_
 rw [rounds_succ]
 go_wp2
 go_ret
 exact ⟨rfl,rfl⟩
open Go.Ab
variable {Γ:Nat→AV}
def A2e (Γ:Nat→AV):Prop:=Γ 0=.cptr [.iface 194 (.agg [.ptr (some ⟨12,85,none⟩)])]
theorem A7y {G:Gh} {s:Sto} {w:World} (hE:A2e Γ) (hm:Mod Γ G s w):w.cell? ⟨0,0,none⟩=some (.iface 194 (.agg #[.pointer (some ⟨12,85,none⟩)])):=by
 have h:=(hm.glob 0).r
 rw [hE] at h
 obtain ⟨b,o,hp,hc⟩:=M4.1 h
 simp only [Value.pointer.injEq,Option.some.injEq,Addr.mk.injEq] at hp
 obtain ⟨rfl,rfl,_⟩:=hp
 unfold C6 at hc
 obtain ⟨_,⟨u,hu,hr⟩,_⟩:=hc
 obtain ⟨v,rfl,hv⟩:=M9.1 hr
 obtain ⟨us,rfl,hus⟩:=A1x.1 hv
 obtain ⟨u1,us1,h1,h2,h3⟩:=A9.1 hus
 rw [N8] at h2
 rw [B4] at h3
 subst h2 h3
 obtain rfl:us = #[.pointer (some ⟨12,85,none⟩)]:=by cases us;simp_all
 exact hu
theorem W0 (x:AV):A8 Tryz.prog Γ 12 [.nilIface,x] fun v=>v=.bool false:=by
 refine fun s=>⟨fun G w vs hm hr=>?_⟩
 obtain ⟨u,us,rfl,hu,hus⟩:=A9.1 hr
 obtain ⟨u1,us1,rfl,hu1,hus1⟩:=A9.1 hus
 rw [B4] at hus1;subst hus1
 rw [L6] at hu;subst hu
 refine (A95 u1 w).mono ?_
 rintro e w' ⟨rfl,rfl⟩
 exact ⟨_,_,s,G,rfl,⟨rfl,rfl⟩,F7.2 rfl,hm,Ext.refl _ _⟩
theorem A94 (hE:A2e Γ) (cs:List AV) {s:Sto} {b:Nat} {T0:TypeId} {old:AV} (hb:s.bx b=some (T0,[old])) :
  A2 Tryz.prog Γ 12 [.iface 82 (.cptr cs),.iface 87 (.ptr (some ⟨b,0,none⟩))] s fun v s'=>v=.bool true∧s'=s.set b T0 [.cptr cs]:=by
 refine ⟨fun G w vs hm hr=>?_⟩
 obtain ⟨u,us,rfl,hu,hus⟩:=A9.1 hr
 obtain ⟨u1,us1,rfl,hu1,hus1⟩:=A9.1 hus
 rw [B4] at hus1;subst hus1
 obtain ⟨e,rfl,he⟩:=M9.1 hu
 obtain ⟨p,rfl,hp⟩:=M9.1 hu1
 rw [N8] at hp;subst hp
 obtain ⟨pb,po,rfl,hpc⟩:=M4.1 he
 have hg:=A7y hE hm
 obtain ⟨ws,hws,hcell⟩:=A13 hm hb
 obtain ⟨w0,ws',rfl,_,_⟩:=A9.1 hws
 have ht0:w.cell? ⟨b,0,none⟩=some w0:=by rw [hcell];rfl
 obtain ⟨m1,e1⟩:=hm.row_new (.cells #[.pointer (some ⟨b,0,none⟩)] 87)
 obtain ⟨m2,e2⟩:=m1.row_new (.cells #[.pointer (some ⟨12,87,none⟩),.pointer (some ⟨w.heap.size,0,none⟩),.int .u64 150] 130)
 obtain ⟨m3,e3⟩:=m2.row_new (.cells #[.pointer (some ⟨12,87,none⟩),.pointer (some ⟨w.heap.size,0,none⟩),.int .u64 150] 130)
 obtain ⟨m4,e4⟩:=m3.row_new (.cells #[.pointer (some ⟨pb,po,none⟩)] 82)
 have X:=((e1.trans e2).trans e3).trans e4
 have hl:(loadVar 82 ⟨w.heap.size+1+1+1,0,none⟩).run Tryz.prog (((( w.alloc (.cells #[.pointer (some ⟨b,0,none⟩)] 87)).alloc (.cells #[.pointer (some ⟨12,87,none⟩),.pointer (some ⟨w.heap.size,0,none⟩),.int .u64 150] 130)).alloc (.cells #[.pointer (some ⟨12,87,none⟩),.pointer (some ⟨w.heap.size,0,none⟩),.int .u64 150] 130)).alloc (.cells #[.pointer (some ⟨pb,po,none⟩)] 82))=.ok (.pointer (some ⟨pb,po,none⟩)) (((( w.alloc (.cells #[.pointer (some ⟨b,0,none⟩)] 87)).alloc (.cells #[.pointer (some ⟨12,87,none⟩),.pointer (some ⟨w.heap.size,0,none⟩),.int .u64 150] 130)).alloc (.cells #[.pointer (some ⟨12,87,none⟩),.pointer (some ⟨w.heap.size,0,none⟩),.int .u64 150] 130)).alloc (.cells #[.pointer (some ⟨pb,po,none⟩)] 82)):=by
  have hc:(((( w.alloc (.cells #[.pointer (some ⟨b,0,none⟩)] 87)).alloc (.cells #[.pointer (some ⟨12,87,none⟩),.pointer (some ⟨w.heap.size,0,none⟩),.int .u64 150] 130)).alloc (.cells #[.pointer (some ⟨12,87,none⟩),.pointer (some ⟨w.heap.size,0,none⟩),.int .u64 150] 130)).alloc (.cells #[.pointer (some ⟨pb,po,none⟩)] 82)).cell? ⟨w.heap.size+1+1+1,0,none⟩=some (.pointer (some ⟨pb,po,none⟩)):=by
   rw [World.cell?_alloc_at _ _ _ _ (by simp)];rfl
  simp [loadVar,isAgg,underlying,Tryz.underlying82,hc,Result.andThen]
 obtain ⟨W',hs,hM',X'⟩:=B1x (P:=Tryz.prog) (T:=82) m4 hb (o:=0) (n:=1) (us:=[.cptr cs]) (v:=(.pointer (some ⟨pb,po,none⟩))) (by kernel_rfl) (A9.2 ⟨_,_,rfl,R.mono X _ _ he,B4.2 rfl⟩) rfl rfl (by simp)
 refine (B8f (some ⟨pb,po,none⟩) ⟨b,0,none⟩ w0 (.pointer (some ⟨pb,po,none⟩)) w W' hg ht0 hl hs).mono ?_
 rintro ev w' ⟨rfl,rfl⟩
 exact ⟨_,_,_,_,rfl,⟨rfl,rfl⟩,F7.2 rfl,hM',X.trans X'⟩
end Go.Proofs.YtaammejliikieaaGreatDoor.AsM
