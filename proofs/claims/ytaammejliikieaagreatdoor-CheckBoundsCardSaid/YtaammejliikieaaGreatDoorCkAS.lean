import Derived.Test.YtaammejliikieaaGreatDoorG9
import Derived.Test.YtaammejliikieaaGreatDoorG1
set_option maxRecDepth 10000
set_option maxHeartbeats 60000000
set_option linter.all false
namespace Go.Proofs.YtaammejliikieaaGreatDoor.Lx
end Go.Proofs.YtaammejliikieaaGreatDoor.Lx
namespace Go.Proofs.YtaammejliikieaaGreatDoor.Pa
end Go.Proofs.YtaammejliikieaaGreatDoor.Pa
namespace Go.Proofs.YtaammejliikieaaGreatDoor.Ck
open Go Go.Ab Go.RowKit Go.Proofs.YtaammejliikieaaGreatDoor.Pa Go.Proofs.YtaammejliikieaaGreatDoor.Lx
variable {Γ:Nat→AV}
attribute [local irreducible] A8 Sto.set Sto.grow
theorem C1l {d u f s0 a t:Nat} (hd:d≤40) (hu:u≤40) (hf:f≤40) (hs1:1≤s0) (hs:s0≤40) (ha:a≤70) (ht:t≤260)
  {X1:Res Qe} (hX:X1=F2 (F4 d u f s0 a t))
  (hlo:A8 Tryz.prog Γ 7 [.agg (Tr.trA z0 (F4 d u f s0 a t))] fun v=>v=A4w X1)
  (hrl:A8 Tryz.prog Γ 8 [.agg (Tr.trA z0 (F4 d u f s0 a t))] fun v=>v=C73 X1)
  (hok:okB d u f s0 a t→∃ q,X1=.ok q) (hno:¬ okB d u f s0 a t→∃ p,X1=.error (14,p))
  (hsame:∀ q,X1=.ok q→A8 Tryz.prog Γ 9 [.agg (qeA z0 q),.agg (qeA z0 q)] fun v=>v=.bool true)
  (hsam0:A8 Tryz.prog Γ 9 [.agg (qeA z0 Qe.none),.agg (qeA z0 Qe.none)] fun v=>v=.bool true)
  (haw:A8 Tryz.prog Γ 4 [] fun v=>v=.bool true) :
  A8 Tryz.prog Γ 3 [.int .i64 (d:Int),.int .i64 (u:Int),.int .i64 (f:Int),.int .i64 (s0:Int),.int .i64 (a:Int),.int .i64 (t:Int)] fun v=>v=.bool true:=by
 have hid:=fun S l=>D1o (Γ:=Γ) S l
 have hnm:=fun n h=>A6y (Γ:=Γ) n h
 have hn0:=hnm 0 (by decide)
 rw [show ((0:Nat):Int)=0 from rfl] at hn0
 have hmx:IntKind.i64.wrap ((u:Int)+if (if 1 < (t:Int) then 1 else (t:Int)) > (a:Int) then (if 1 < (t:Int) then 1 else (t:Int)) else (a:Int))=((u+max a (min t 1):Nat):Int):=D5 (by split<;>split<;>omega) (by omega) (by omega)
 refine aps Tryz.func3 ?_
 intro s
 conv=>whnf
 repeat' ((first|(refine brS (fun h=>?_) (fun h=>?_)<;>(try rw [h])<;>(try simp only [bS,↓reduceIte] at h)<;>(try exact prc))|(refine A2.pure' ?_ (hid _ _);rintro _ rfl)|refine A7.pure ?_ (hid _ _)|(refine A2.pure' ?_ (hn0);rintro _ rfl)|refine A7.pure ?_ (hn0)|refine gS ?_|refine aA ?_|refine nA ?_|fail)<;>(conv=>whnf))
 all_goals first|(exfalso;revert h;simp only [Bool.if_true_left,Bool.or_eq_false_iff,Bool.or_eq_true,decide_eq_false_iff_not,decide_eq_true_eq];omega)|skip
 intro b hb
 have k_b:=hb
 repeat replace k_b:=A0 k_b
 conv=>whnf
 repeat' ((first|(refine brS (fun h=>?_) (fun h=>?_)<;>(try rw [h])<;>(try simp only [bS,↓reduceIte] at h)<;>(try exact prc))|refine A5 ?_|(refine A2.pure' ?_ (hid _ _);rintro _ rfl)|refine A7.pure ?_ (hid _ _)|(refine A2.pure' ?_ (hn0);rintro _ rfl)|refine A7.pure ?_ (hn0)|refine gS ?_|refine aA ?_|refine nA ?_|fail)<;>(conv=>whnf))
 intro t0 k1 k2
 have hT0:=(U3.start (n:=6) (ty:=tyB) (((Sub.refl s).set k_b _ _).set k_b _ _)).grow (i:=0) (t':=t0) (by omega) k2
 conv=>whnf
 repeat' ((first|(refine brS (fun h=>?_) (fun h=>?_)<;>(try rw [h])<;>(try simp only [bS,↓reduceIte] at h)<;>(try exact prc))|refine A5 ?_|refine gS ?_|refine aA ?_|refine nA ?_|fail)<;>(conv=>whnf))
 refine AWp.loopA [14] [84,85,86,89,90,91,92,93,94,95,96,97,98,87,88] (fun z:Nat × (Nat→Nat)=>[.int .i64 (z.1:Int)]) (fun z s'=>1≤z.1∧z.1≤max d 1∧s'.bx b=some (34,bC z.2 (J4 z.1) 0 0 0 [] 0)∧U3 6 tyB s s' z.2) (fun z=>d - z.1) ((1,J2 (fun _=>1) 0 t0)) (by kernel_rfl) (eqb) ?_ ?_
 ·exact ⟨Nat.le_refl _,by omega,A3,hT0.set k_b _ _⟩
 ·rintro y0 ⟨i,tk⟩ s1 ⟨h1,h2,hb,hT⟩
  simp only at h1 hb hT h2
  by_cases hlt:i < d
  ·have hni:=hnm i (by omega)
   simp only [bC] at hb
   conv=>whnf
   repeat' ((first|(refine brS (fun h=>?_) (fun h=>?_)<;>(try rw [h])<;>(try simp only [bS,↓reduceIte] at h)<;>(try exact prc))|refine A5 ?_|(refine A2.pure' ?_ (hni);rintro _ rfl)|refine A7.pure ?_ (hni)|(refine A2.pure' ?_ (hid _ _);rintro _ rfl)|refine A7.pure ?_ (hid _ _)|refine gS ?_|refine aA ?_|refine nA ?_|fail)<;>(conv=>whnf))
   refine ⟨hT.may (i:=0) (by omega),fun c hc=>by obtain ⟨z,_,rfl⟩:=List.mem_map.1 hc;rfl,all_cons ⟨rfl,rfl⟩ C3,?_,?_⟩
   ·rw [List.length_map]
    exact Nat.le_trans (Nat.mul_le_mul_right _ (show (J4 i).length+1≤100001 by have:=A96 (show i≤40 by omega);omega)) (Nat.le_of_ble_eq_true (by kernel_rfl))
   intro t1 k1 k2
   have k3:=(hT.grow (i:=0) (t':=t1) (by omega) k2).set k_b 34
   conv=>whnf
   repeat' ((first|(refine brS (fun h=>?_) (fun h=>?_)<;>(try rw [h])<;>(try simp only [bS,↓reduceIte] at h)<;>(try exact prc))|refine A5 ?_|(refine A2.pure' ?_ (hni);rintro _ rfl)|refine A7.pure ?_ (hni)|(refine A2.pure' ?_ (hid _ _);rintro _ rfl)|refine A7.pure ?_ (hid _ _)|refine gS ?_|refine aA ?_|refine nA ?_|fail)<;>(conv=>whnf))
   refine ⟨(i+1,J2 tk 0 t1),eqa,B8,⟨by omega,by omega,A3.trans ?_,k3 _⟩,by simp only;omega⟩
   rw [B6d h1,D2e]
   rfl
  ·rw [B8i h1 h2 hlt] at hb
   conv=>whnf
   repeat' ((first|(refine brS (fun h=>?_) (fun h=>?_)<;>(try rw [h])<;>(try simp only [bS,↓reduceIte] at h)<;>(try exact prc))|refine A5 ?_|refine gS ?_|refine aA ?_|refine nA ?_|fail)<;>(conv=>whnf))
   refine AWp.loopA [15] [99,100,101,104,105,106,107,108,109,110,111,112,113,114,115,116,117,118,119,120,121,122,123,124,102,103] (fun z:Nat × (Nat→Nat)=>[.int .i64 (z.1:Int)]) (fun z s'=>z.1≤u∧s'.bx b=some (34,bC z.2 (J4 d) z.1 0 0 ((List.range z.1).map A11) 0)∧U3 6 tyB s s' z.2) (fun z=>u - z.1) ((0,tk)) (by kernel_rfl) (eqa) ?_ ?_
   ·exact ⟨Nat.zero_le _,hb,hT⟩
   ·rintro y1 ⟨i,tk⟩ s1 ⟨h2,hb,hT⟩
    simp only at hb hT h2
    by_cases hlt:i < u
    ·have hni:=hnm i (by omega)
     have w2:IntKind.i64.wrap (100+(i:Int))=100+(i:Int):=D5 rfl (by omega) (by omega)
     simp only [bC] at hb
     conv=>whnf
     repeat' ((first|(refine brS (fun h=>?_) (fun h=>?_)<;>(try rw [h])<;>(try simp only [bS,↓reduceIte] at h)<;>(try exact prc))|refine A5 ?_|(refine A2.pure' ?_ (hni);rintro _ rfl)|refine A7.pure ?_ (hni)|(refine A2.pure' ?_ (hid _ _);rintro _ rfl)|refine A7.pure ?_ (hid _ _)|refine gS ?_|refine aA ?_|refine nA ?_|fail)<;>(conv=>whnf))
     refine ⟨hT.may (i:=1) (by omega),fun c hc=>by obtain ⟨z,_,rfl⟩:=List.mem_map.1 hc;rfl,all_cons ⟨rfl,rfl⟩ C3,?_,?_⟩
     ·rw [List.length_map]
      exact Nat.le_trans (Nat.mul_le_mul_right _ (show (List.range i).length+1≤100001 by rw [List.length_range];omega)) (Nat.le_of_ble_eq_true (by kernel_rfl))
     intro t1 k1 k2
     have k3:=(hT.grow (i:=1) (t':=t1) (by omega) k2).set k_b 34
     conv=>whnf
     repeat' ((first|(refine brS (fun h=>?_) (fun h=>?_)<;>(try rw [h])<;>(try simp only [bS,↓reduceIte] at h)<;>(try exact prc))|refine A5 ?_|(refine A2.pure' ?_ (hni);rintro _ rfl)|refine A7.pure ?_ (hni)|(refine A2.pure' ?_ (hid _ _);rintro _ rfl)|refine A7.pure ?_ (hid _ _)|refine gS ?_|refine aA ?_|refine nA ?_|fail)<;>(conv=>whnf))
     refine ⟨((hT.grow (i:=1) (t':=t1) (by omega) k2).set k_b 34 _).may (i:=4) (by omega),fun c hc=>by obtain ⟨z,_,rfl⟩:=List.mem_map.1 hc;rfl,all_cons ⟨rfl,rfl⟩ C3,?_,?_⟩
     ·rw [List.length_map,List.length_map,List.length_range]
      exact Nat.le_trans (Nat.mul_le_mul_right _ (show i+1≤100001 by omega)) (Nat.le_of_ble_eq_true (by kernel_rfl))
     intro t2 k4 k5
     have k6:=((k3 _).grow (i:=4) (t':=t2) (by omega) k5).set k_b 34
     conv=>whnf
     repeat' ((first|(refine brS (fun h=>?_) (fun h=>?_)<;>(try rw [h])<;>(try simp only [bS,↓reduceIte] at h)<;>(try exact prc))|refine A5 ?_|(refine A2.pure' ?_ (hni);rintro _ rfl)|refine A7.pure ?_ (hni)|(refine A2.pure' ?_ (hid _ _);rintro _ rfl)|refine A7.pure ?_ (hid _ _)|refine gS ?_|refine aA ?_|refine nA ?_|fail)<;>(conv=>whnf))
     refine ⟨(i+1,J2 (J2 tk 1 t1) 4 t2),eqa,B8,⟨by omega,A3.trans ?_,k6 _⟩,by simp only;omega⟩
     rw [List.range_succ,List.map_append (f:=A11),List.map_singleton,D06,List.range_succ,List.map_append (l₂:=[i]),List.map_singleton]
     simp only [w2]
     rfl
    ·have hi:i=u:=by omega
     rw [hi] at hb
     conv=>whnf
     repeat' ((first|(refine brS (fun h=>?_) (fun h=>?_)<;>(try rw [h])<;>(try simp only [bS,↓reduceIte] at h)<;>(try exact prc))|refine A5 ?_|refine gS ?_|refine aA ?_|refine nA ?_|fail)<;>(conv=>whnf))
     refine AWp.loopA [16] [125,126,127,130,131,132,133,134,135,136,137,138,139,140,141,142,128,129] (fun z:Nat × (Nat→Nat)=>[.int .i64 (z.1:Int)]) (fun z s'=>z.1≤f∧s'.bx b=some (34,bC z.2 (J4 d) u z.1 0 ((List.range u).map A11) 0)∧U3 6 tyB s s' z.2) (fun z=>f - z.1) ((0,tk)) (by kernel_rfl) (eqa) ?_ ?_
     ·exact ⟨Nat.zero_le _,hb,hT⟩
     ·rintro y2 ⟨i,tk⟩ s1 ⟨h2,hb,hT⟩
      simp only at hb hT h2
      by_cases hlt:i < f
      ·have hni:=hnm (100+i) (by omega)
       have w1:IntKind.i64.wrap (100+(i:Int))=((100+i:Nat):Int):=D5 (by omega) (by omega) (by omega)
       have w2:IntKind.i64.wrap (200+(i:Int))=200+(i:Int):=D5 rfl (by omega) (by omega)
       simp only [bC] at hb
       conv=>whnf
       repeat' ((first|(refine brS (fun h=>?_) (fun h=>?_)<;>(try rw [h])<;>(try simp only [bS,↓reduceIte] at h)<;>(try exact prc))|refine A5 ?_|(refine A2.pure' ?_ (hni);rintro _ rfl)|refine A7.pure ?_ (hni)|(refine A2.pure' ?_ (hid _ _);rintro _ rfl)|refine A7.pure ?_ (hid _ _)|(simp only [w1])|refine gS ?_|refine aA ?_|refine nA ?_|fail)<;>(conv=>whnf))
       refine ⟨hT.may (i:=2) (by omega),fun c hc=>by obtain ⟨z,_,rfl⟩:=List.mem_map.1 hc;rfl,all_cons ⟨rfl,rfl⟩ C3,?_,?_⟩
       ·rw [List.length_map]
        exact Nat.le_trans (Nat.mul_le_mul_right _ (show (List.range i).length+1≤100001 by rw [List.length_range];omega)) (Nat.le_of_ble_eq_true (by kernel_rfl))
       intro t1 k1 k2
       have k3:=(hT.grow (i:=2) (t':=t1) (by omega) k2).set k_b 34
       conv=>whnf
       repeat' ((first|(refine brS (fun h=>?_) (fun h=>?_)<;>(try rw [h])<;>(try simp only [bS,↓reduceIte] at h)<;>(try exact prc))|refine A5 ?_|(refine A2.pure' ?_ (hni);rintro _ rfl)|refine A7.pure ?_ (hni)|(refine A2.pure' ?_ (hid _ _);rintro _ rfl)|refine A7.pure ?_ (hid _ _)|(simp only [w1])|refine gS ?_|refine aA ?_|refine nA ?_|fail)<;>(conv=>whnf))
       refine ⟨(i+1,J2 tk 2 t1),eqa,B8,⟨by omega,A3.trans ?_,k3 _⟩,by simp only;omega⟩
       rw [D2f]
       simp only [w2]
       rfl
      ·have hi:i=f:=by omega
       rw [hi] at hb
       conv=>whnf
       repeat' ((first|(refine brS (fun h=>?_) (fun h=>?_)<;>(try rw [h])<;>(try simp only [bS,↓reduceIte] at h)<;>(try exact prc))|refine A5 ?_|refine gS ?_|refine aA ?_|refine nA ?_|fail)<;>(conv=>whnf))
       refine AWp.loopA [17] [143,144,145,148,149,150,151,152,153,154,155,156,157,158,146,147] (fun z:Nat × (Nat→Nat)=>[.int .i64 (z.1:Int)]) (fun z s'=>z.1≤s0∧s'.bx b=some (34,bC z.2 (J4 d) u f z.1 ((List.range u).map A11) 0)∧U3 6 tyB s s' z.2) (fun z=>s0 - z.1) ((0,tk)) (by kernel_rfl) (eqa) ?_ ?_
       ·exact ⟨Nat.zero_le _,hb,hT⟩
       ·rintro y3 ⟨i,tk⟩ s1 ⟨h2,hb,hT⟩
        simp only at hb hT h2
        by_cases hlt:i < s0
        ·have hni:=hnm i (by omega)
         have w2:IntKind.i64.wrap (300+(i:Int))=300+(i:Int):=D5 rfl (by omega) (by omega)
         simp only [bC] at hb
         conv=>whnf
         repeat' ((first|(refine brS (fun h=>?_) (fun h=>?_)<;>(try rw [h])<;>(try simp only [bS,↓reduceIte] at h)<;>(try exact prc))|refine A5 ?_|(refine A2.pure' ?_ (hni);rintro _ rfl)|refine A7.pure ?_ (hni)|(refine A2.pure' ?_ (hid _ _);rintro _ rfl)|refine A7.pure ?_ (hid _ _)|refine gS ?_|refine aA ?_|refine nA ?_|fail)<;>(conv=>whnf))
         refine ⟨hT.may (i:=3) (by omega),fun c hc=>by obtain ⟨z,_,rfl⟩:=List.mem_map.1 hc;rfl,all_cons ⟨rfl,rfl⟩ C3,?_,?_⟩
         ·rw [List.length_map]
          exact Nat.le_trans (Nat.mul_le_mul_right _ (show (List.range i).length+1≤100001 by rw [List.length_range];omega)) (Nat.le_of_ble_eq_true (by kernel_rfl))
         intro t1 k1 k2
         have k3:=(hT.grow (i:=3) (t':=t1) (by omega) k2).set k_b 34
         conv=>whnf
         repeat' ((first|(refine brS (fun h=>?_) (fun h=>?_)<;>(try rw [h])<;>(try simp only [bS,↓reduceIte] at h)<;>(try exact prc))|refine A5 ?_|(refine A2.pure' ?_ (hni);rintro _ rfl)|refine A7.pure ?_ (hni)|(refine A2.pure' ?_ (hid _ _);rintro _ rfl)|refine A7.pure ?_ (hid _ _)|refine gS ?_|refine aA ?_|refine nA ?_|fail)<;>(conv=>whnf))
         refine ⟨(i+1,J2 tk 3 t1),eqa,B8,⟨by omega,A3.trans ?_,k3 _⟩,by simp only;omega⟩
         rw [D2g]
         simp only [w2]
         rfl
        ·have hi:i=s0:=by omega
         rw [hi] at hb
         conv=>whnf
         repeat' ((first|(refine brS (fun h=>?_) (fun h=>?_)<;>(try rw [h])<;>(try simp only [bS,↓reduceIte] at h)<;>(try exact prc))|refine A5 ?_|refine gS ?_|refine aA ?_|refine nA ?_|fail)<;>(conv=>whnf))
         refine AWp.loopA [18] [159,160,161,164,165,166,167,168,169,170,171,172,173,174,175,162,163] (fun z:Nat × (Nat→Nat)=>[.int .i64 (z.1:Int)]) (fun z s'=>z.1≤a∧s'.bx b=some (34,bC z.2 (J4 d) u f s0 ((List.range u).map A11++(List.range z.1).map A2m) 0)∧U3 6 tyB s s' z.2) (fun z=>a - z.1) ((0,tk)) (by kernel_rfl) (eqa) ?_ ?_
         ·exact ⟨Nat.zero_le _,(by rw [show (List.range 0).map A2m=[] from rfl,List.append_nil];exact hb),hT⟩
         ·rintro y4 ⟨i,tk⟩ s1 ⟨h2,hb,hT⟩
          simp only at hb hT h2
          by_cases hlt:i < a
          ·have w2:IntKind.i64.wrap (400+(i:Int))=400+(i:Int):=D5 rfl (by omega) (by omega)
           simp only [bC] at hb
           conv=>whnf
           repeat' ((first|(refine brS (fun h=>?_) (fun h=>?_)<;>(try rw [h])<;>(try simp only [bS,↓reduceIte] at h)<;>(try exact prc))|refine A5 ?_|refine gS ?_|refine aA ?_|refine nA ?_|fail)<;>(conv=>whnf))
           refine ⟨hT.may (i:=4) (by omega),fun c hc=>by obtain ⟨z,_,rfl⟩:=List.mem_map.1 hc;rfl,all_cons ⟨rfl,rfl⟩ C3,?_,?_⟩
           ·rw [List.length_map]
            exact Nat.le_trans (Nat.mul_le_mul_right _ (show ((List.range u).map A11++(List.range i).map A2m).length+1≤100001 by simp only [List.length_append,List.length_map,List.length_range];omega)) (Nat.le_of_ble_eq_true (by kernel_rfl))
           intro t1 k1 k2
           have k3:=(hT.grow (i:=4) (t':=t1) (by omega) k2).set k_b 34
           conv=>whnf
           repeat' ((first|(refine brS (fun h=>?_) (fun h=>?_)<;>(try rw [h])<;>(try simp only [bS,↓reduceIte] at h)<;>(try exact prc))|refine A5 ?_|refine gS ?_|refine aA ?_|refine nA ?_|fail)<;>(conv=>whnf))
           refine ⟨(i+1,J2 tk 4 t1),eqa,B8,⟨by omega,A3.trans ?_,k3 _⟩,by simp only;omega⟩
           rw [List.range_succ,List.map_append (f:=A2m),List.map_singleton,← List.append_assoc,D06]
           simp only [w2]
           rfl
          ·have hi:i=a:=by omega
           rw [hi] at hb
           conv=>whnf
           repeat' ((first|(refine brS (fun h=>?_) (fun h=>?_)<;>(try rw [h])<;>(try simp only [bS,↓reduceIte] at h)<;>(try exact prc))|refine A5 ?_|refine gS ?_|refine aA ?_|refine nA ?_|fail)<;>(conv=>whnf))
           refine AWp.loopA [19] [176,177,178,181,182,183,184,185,186,187,188,189,190,191,192,193,194,195,196,179,180] (fun z:Nat × (Nat→Nat)=>[.int .i64 (z.1:Int)]) (fun z s'=>z.1≤t∧s'.bx b=some (34,bC z.2 (J4 d) u f s0 ((List.range u).map A11++(List.range a).map A2m) z.1)∧U3 6 tyB s s' z.2) (fun z=>t - z.1) ((0,tk)) (by kernel_rfl) (eqa) ?_ ?_
           ·exact ⟨Nat.zero_le _,hb,hT⟩
           ·rintro y5 ⟨i,tk⟩ s1 ⟨h2,hb,hT⟩
            simp only at hb hT h2
            by_cases hlt:i < t
            ·have w2:IntKind.i64.wrap (500+(i:Int))=500+(i:Int):=D5 rfl (by omega) (by omega)
             simp only [bC] at hb
             conv=>whnf
             repeat' ((first|(refine brS (fun h=>?_) (fun h=>?_)<;>(try rw [h])<;>(try simp only [bS,↓reduceIte] at h)<;>(try exact prc))|refine A5 ?_|(refine A2.pure' ?_ (hn0);rintro _ rfl)|refine A7.pure ?_ (hn0)|(refine A2.pure' ?_ (hid _ _);rintro _ rfl)|refine A7.pure ?_ (hid _ _)|refine gS ?_|refine aA ?_|refine nA ?_|fail)<;>(conv=>whnf))
             refine ⟨hT.may (i:=5) (by omega),fun c hc=>by obtain ⟨z,_,rfl⟩:=List.mem_map.1 hc;rfl,all_cons ⟨rfl,rfl⟩ C3,?_,?_⟩
             ·rw [List.length_map]
              exact Nat.le_trans (Nat.mul_le_mul_right _ (show (List.range i).length+1≤100001 by rw [List.length_range];omega)) (Nat.le_of_ble_eq_true (by kernel_rfl))
             intro t1 k1 k2
             have k3:=(hT.grow (i:=5) (t':=t1) (by omega) k2).set k_b 34
             conv=>whnf
             repeat' ((first|(refine brS (fun h=>?_) (fun h=>?_)<;>(try rw [h])<;>(try simp only [bS,↓reduceIte] at h)<;>(try exact prc))|refine A5 ?_|(refine A2.pure' ?_ (hn0);rintro _ rfl)|refine A7.pure ?_ (hn0)|(refine A2.pure' ?_ (hid _ _);rintro _ rfl)|refine A7.pure ?_ (hid _ _)|refine gS ?_|refine aA ?_|refine nA ?_|fail)<;>(conv=>whnf))
             refine ⟨(i+1,J2 tk 5 t1),eqa,B8,⟨by omega,A3.trans ?_,k3 _⟩,by simp only;omega⟩
             rw [D2h]
             simp only [w2]
             rfl
            ·have hi:i=t:=by omega
             rw [hi] at hb
             have hS:Sub s s1:=hT.sub
             have hle:LeL [.agg (bC tk (J4 d) u f s0 ((List.range u).map A11++(List.range a).map A2m) t)] [.agg (Tr.trA z0 (F4 d u f s0 a t))]:=LeL.cons (Le.agg (D05 tk)) LeL.nil
             clear hT hn0 hid hnm hT0 k1 k2
             simp only [bC] at hb hle
             generalize Tr.trA z0 (F4 d u f s0 a t)=xs at *
             generalize (J4 d).map (fun d=>Tr.deA (1,d))=r0 at *
             generalize (List.range u).map (fun i=>Tr.quA (bQu i))=r1 at *
             generalize (List.range f).map (fun i=>Tr.frA (bFr i))=r2 at *
             generalize (List.range s0).map (fun i=>Tr.stA (bSt i))=r3 at *
             generalize ((List.range u).map A11++(List.range a).map A2m).map (fun y=>Tr.syA (1,y))=r4 at *
             generalize (List.range t).map (fun i=>Tr.tnA ((1,1,1),bTn i))=r5 at *
             by_cases hk:okB d u f s0 a t
             ·obtain ⟨q,hq⟩:=hok hk
              have hsm:=hsame q hq
              rw [hq] at hlo hrl
              simp only [A4w,C73,qeA,z0,noB] at hlo hrl hsm
              unfold okB at hk
              conv=>whnf
              repeat' ((first|(refine brS (fun h=>?_) (fun h=>?_)<;>(try rw [h])<;>(try simp only [bS,↓reduceIte] at h)<;>(try exact prc))|refine A5 ?_|(refine A2.pure' ?_ (hlo);rintro _ rfl)|refine A7.pure ?_ (hlo)|(refine A2.weak (R7.refl _) hle ?_)|refine gS ?_|refine aA ?_|refine nA ?_|fail)<;>(conv=>whnf))
              intro b1 hb1
              have k_b1:=hb1
              repeat replace k_b1:=A0 k_b1
              have n_b_b1:b≠b1:=A1 bxa hb1
              have n_b1_b:=n_b_b1.symm
              conv=>whnf
              intro b2 hb2
              have k_b2:=hb2
              repeat replace k_b2:=A0 k_b2
              have n_b_b2:b≠b2:=A1 bxa hb2
              have n_b2_b:=n_b_b2.symm
              have n_b1_b2:b1≠b2:=A1 bxa hb2
              have n_b2_b1:=n_b1_b2.symm
              conv=>whnf
              repeat' ((first|(refine brS (fun h=>?_) (fun h=>?_)<;>(try rw [h])<;>(try simp only [bS,↓reduceIte] at h)<;>(try exact prc))|refine A5 ?_|(refine A2.pure' ?_ (hrl);rintro _ rfl)|refine A7.pure ?_ (hrl)|(refine A2.weak (R7.refl _) hle ?_)|refine gS ?_|refine aA ?_|refine nA ?_|fail)<;>(conv=>whnf))
              intro b3 hb3
              have k_b3:=hb3
              repeat replace k_b3:=A0 k_b3
              have n_b_b3:b≠b3:=A1 bxa hb3
              have n_b3_b:=n_b_b3.symm
              have n_b1_b3:b1≠b3:=A1 bxa hb3
              have n_b3_b1:=n_b1_b3.symm
              have n_b2_b3:b2≠b3:=A1 bxa hb3
              have n_b3_b2:=n_b2_b3.symm
              conv=>whnf
              intro b4 hb4
              have k_b4:=hb4
              repeat replace k_b4:=A0 k_b4
              have n_b_b4:b≠b4:=A1 bxa hb4
              have n_b4_b:=n_b_b4.symm
              have n_b1_b4:b1≠b4:=A1 bxa hb4
              have n_b4_b1:=n_b1_b4.symm
              have n_b2_b4:b2≠b4:=A1 bxa hb4
              have n_b4_b2:=n_b2_b4.symm
              have n_b3_b4:b3≠b4:=A1 bxa hb4
              have n_b4_b3:=n_b3_b4.symm
              conv=>whnf
              repeat' ((first|(refine brS (fun h=>?_) (fun h=>?_)<;>(try rw [h])<;>(try simp only [bS,↓reduceIte] at h)<;>(try exact prc))|refine A5 ?_|(refine A2.pure' ?_ (haw);rintro _ rfl)|refine A7.pure ?_ (haw)|(refine A2.pure' ?_ (hsm);rintro _ rfl)|refine A7.pure ?_ (hsm)|(simp only [hmx])|(refine P9.of A2x A04 ?_)|refine gS ?_|refine aA ?_|refine nA ?_|fail)<;>(conv=>whnf))
              all_goals have c1:=hS.none k_b1
              all_goals have c2:=hS.none k_b2
              all_goals have c3:=hS.none k_b3
              all_goals have c4:=hS.none k_b4
              all_goals refine ⟨by (repeat (first|exact hS|refine Sub.set ?_ (by assumption) _ _)),?_⟩
              all_goals clear hlo hrl hb hle
              all_goals first|(simp [A1v];done)|(exfalso;simp at h;simp only [hmx] at *;omega)|(exfalso;simp at h;omega)
             ·obtain ⟨⟨p1,p2⟩,hq⟩:=hno hk
              rw [hq] at hlo hrl
              simp only [A4w,C73,qeA,z0,J7] at hlo hrl hsam0
              unfold okB at hk
              conv=>whnf
              repeat' ((first|(refine brS (fun h=>?_) (fun h=>?_)<;>(try rw [h])<;>(try simp only [bS,↓reduceIte] at h)<;>(try exact prc))|refine A5 ?_|(refine A2.pure' ?_ (hlo);rintro _ rfl)|refine A7.pure ?_ (hlo)|(refine A2.weak (R7.refl _) hle ?_)|refine gS ?_|refine aA ?_|refine nA ?_|fail)<;>(conv=>whnf))
              intro b1 hb1
              have k_b1:=hb1
              repeat replace k_b1:=A0 k_b1
              have n_b_b1:b≠b1:=A1 bxa hb1
              have n_b1_b:=n_b_b1.symm
              conv=>whnf
              intro b2 hb2
              have k_b2:=hb2
              repeat replace k_b2:=A0 k_b2
              have n_b_b2:b≠b2:=A1 bxa hb2
              have n_b2_b:=n_b_b2.symm
              have n_b1_b2:b1≠b2:=A1 bxa hb2
              have n_b2_b1:=n_b1_b2.symm
              conv=>whnf
              repeat' ((first|(refine brS (fun h=>?_) (fun h=>?_)<;>(try rw [h])<;>(try simp only [bS,↓reduceIte] at h)<;>(try exact prc))|refine A5 ?_|(refine A2.pure' ?_ (hrl);rintro _ rfl)|refine A7.pure ?_ (hrl)|(refine A2.weak (R7.refl _) hle ?_)|refine gS ?_|refine aA ?_|refine nA ?_|fail)<;>(conv=>whnf))
              intro b3 hb3
              have k_b3:=hb3
              repeat replace k_b3:=A0 k_b3
              have n_b_b3:b≠b3:=A1 bxa hb3
              have n_b3_b:=n_b_b3.symm
              have n_b1_b3:b1≠b3:=A1 bxa hb3
              have n_b3_b1:=n_b1_b3.symm
              have n_b2_b3:b2≠b3:=A1 bxa hb3
              have n_b3_b2:=n_b2_b3.symm
              conv=>whnf
              intro b4 hb4
              have k_b4:=hb4
              repeat replace k_b4:=A0 k_b4
              have n_b_b4:b≠b4:=A1 bxa hb4
              have n_b4_b:=n_b_b4.symm
              have n_b1_b4:b1≠b4:=A1 bxa hb4
              have n_b4_b1:=n_b1_b4.symm
              have n_b2_b4:b2≠b4:=A1 bxa hb4
              have n_b4_b2:=n_b2_b4.symm
              have n_b3_b4:b3≠b4:=A1 bxa hb4
              have n_b4_b3:=n_b3_b4.symm
              conv=>whnf
              repeat' ((first|(refine brS (fun h=>?_) (fun h=>?_)<;>(try rw [h])<;>(try simp only [bS,↓reduceIte] at h)<;>(try exact prc))|refine A5 ?_|(refine A2.pure' ?_ (haw);rintro _ rfl)|refine A7.pure ?_ (haw)|(refine A2.pure' ?_ (hsam0);rintro _ rfl)|refine A7.pure ?_ (hsam0)|(simp only [hmx])|(refine P9.of A2x A04 ?_)|refine gS ?_|refine aA ?_|refine nA ?_|fail)<;>(conv=>whnf))
              all_goals have c1:=hS.none k_b1
              all_goals have c2:=hS.none k_b2
              all_goals have c3:=hS.none k_b3
              all_goals have c4:=hS.none k_b4
              all_goals refine ⟨by (repeat (first|exact hS|refine Sub.set ?_ (by assumption) _ _)),?_⟩
              all_goals clear hlo hrl hb hle
              all_goals first|(simp [A1v];done)|(exfalso;simp at h;simp only [hmx] at *;omega)|(exfalso;simp at h;omega)
end Go.Proofs.YtaammejliikieaaGreatDoor.Ck
