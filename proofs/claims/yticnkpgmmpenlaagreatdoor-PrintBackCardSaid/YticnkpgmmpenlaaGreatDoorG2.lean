/- Part 2 of what the closing text needs: NuP, NuQ, NuR, NuA, NuT, Gr1, Pa0, PaA, PaB, PaC. No condition of mine beyond those that the theorems name. -/
import Derived.Test.YticnkpgmmpenlaaGreatDoorG1
import Derived.Shelf.Strings.SlTrimAscii
import Derived.Handy
import Derived.Lib.AtoiErrMem
import Derived.Test.YticnkpgmmpenlaaGreatDoorChecked
import Derived.Lib.AppendIntMem
import Derived.Test.YticnkpgmmpenlaaGreatDoorProg
set_option maxRecDepth 10000
set_option maxHeartbeats 60000000
set_option linter.all false
namespace Go.Proofs.YticnkpgmmpenlaaGreatDoor.Nu
open Go Go.Ab Go.RowKit
def B7p:List UInt8:=[48,49,50,51,52,53,54,55,56,57]
def A08 (l:List UInt8):Bool :=
 let d:=Lib.trimPrefix l [45]
 !decide (d=[]) && !(decide ((A7 d 0).toNat=48) && decide (1 < l.length)) && decide (Lib.trimS d B7p=[])
variable {Γ:Nat→AV}
theorem B70 (l:List UInt8):A5 Tryz.prog Γ 304 [.str l,.str [45]] fun v=>v=.str (Lib.trimPrefix l [45]):=by
 intro s
 refine A0.of_below fun G w vs hm hr=>?_
 obtain ⟨u,us,rfl,hu,hus⟩:=A6.1 hr
 obtain ⟨u1,us1,rfl,hu1,hus1⟩:=A6.1 hus
 rw [A9] at hus1;subst hus1
 rw [H9] at hu hu1;subst hu hu1
 exact ⟨_,fun G' w'=>H9.2 rfl,(Tryz.strings_TrimPrefix ⟨l.toArray⟩ ⟨#[45]⟩ w).mono fun e w' ⟨he,hw⟩=>⟨he,by subst hw;exact Below.refl _ _⟩⟩
theorem B3y (l:List UInt8) (hl:l.length≤1048576):A5 Tryz.prog Γ 270 [.str l,.str B7p] fun v=>v=.str (Lib.trimS l B7p):=by
 intro s
 refine A0.of_below fun G w vs hm hr=>?_
 obtain ⟨u,us,rfl,hu,hus⟩:=A6.1 hr
 obtain ⟨u1,us1,rfl,hu1,hus1⟩:=A6.1 hus
 rw [A9] at hus1;subst hus1
 rw [H9] at hu hu1;subst hu hu1
 exact ⟨_,fun G' w'=>H9.2 rfl,Any.strings_Trim_laid Tryz.lays160 (by kernel_rfl) ⟨l.toArray⟩ ⟨B7p.toArray⟩ w (by show l.length≤_;omega) (by decide) (ascii_of_all (by decide))⟩
theorem B7a (l:List UInt8):(Lib.trimPrefix l [45]).length≤l.length:=by
 unfold Lib.trimPrefix;split
 ·simp
 ·exact Nat.le_refl _
attribute [local irreducible] A5 Sto.set Sto.grow
theorem D06 {a b:Bool} (h:a=b):AV.bool a=.bool b:=by rw [h]
theorem D5o (l:List UInt8) (hl:l.length≤1048576):A5 Tryz.prog Γ 293 [.str l] fun v=>v=.bool (A08 l):=by
 have hd:=B7a l
 have hf:A08 l=(!decide (Lib.trimPrefix l [45]=[]) && !(decide ((A7 (Lib.trimPrefix l [45]) 0).toNat=48) && decide (1 < l.length)) && decide (Lib.trimS (Lib.trimPrefix l [45]) B7p=[])):=rfl
 refine aps Tryz.func293 ?_
 intro s
 conv=>whnf
 have h0:¬ Lib.trimPrefix l [45]=[]→0 < (Lib.trimPrefix l [45]).length:=fun h=>List.length_pos_iff.2 h
 have tk:=fun Γ=>B70 (Γ:=Γ) l
 generalize Lib.trimPrefix l [45]=d at *
 repeat' (first
  | (refine ⟨Sub.refl _,?_⟩)
  | (refine F2 (fun h=>?_) (fun h=>?_)<;>(try rw [h])<;>(try simp only [Bool.false_eq_true,Bool.true_eq_false,↓reduceIte,decide_eq_true_eq,decide_eq_false_iff_not,Bool.not_eq_true',Bool.not_eq_false'] at h)<;>(conv=>whnf))
  | (refine A0.pure' ?_ (tk _);rintro _ rfl;conv=>whnf)
  | (refine A8.pure ?_ (tk _);conv=>whnf)
  | (refine ⟨by have:=h0 h;(show (0:Int).toNat < d.length);omega,?_⟩;conv=>whnf)
  | (refine A0.pure' ?_ (B3y d (by omega));rintro _ rfl;conv=>whnf)
  | (refine A8.pure ?_ (B3y d (by omega));conv=>whnf)
  | (refine D8 ?_;conv=>whnf)
  | (refine AWp.any (by kernel_rfl) (by kernel_rfl) (by kernel_rfl) ?_;conv=>whnf)
  | (apply And.intro;(focus (first|omega|rfl|decide|exact Nat.le_of_ble_eq_true rfl|((repeat' (first|exact all_nil|refine all_cons ?_ ?_|rfl|fail));done)|(simp [-List.length_flatMap];done)|(simp [-List.length_flatMap];omega)|fail));conv=>whnf)
  | fail)
 all_goals refine D06 ?_
 all_goals rw [hf]
 all_goals try simp only [show Int.toNat 0=0 from rfl] at *
 all_goals simp [*]
 all_goals omega
end Go.Proofs.YticnkpgmmpenlaaGreatDoor.Nu
namespace Go.Proofs.YticnkpgmmpenlaaGreatDoor.Nu
open Go Go.Ab Go.RowKit
variable {Γ:Nat→AV}
def Z8 (Γ:Nat→AV):Prop:=∃ txt,Γ 7=.cptr [.iface 368 (.cptr [.str txt])]
theorem C8s (hE:Z8 Γ) {G:Gh} {s:Sto} {w:World} (hm:Mod Γ G s w):∃ b:Addr,w.cell? ⟨7,0,none⟩=some (.iface 368 (.pointer (some b))):=by
 obtain ⟨txt,hE⟩:=hE
 have h:=(hm.glob 7).r
 rw [hE] at h
 obtain ⟨b,o,e,hc⟩:=N3.1 h
 injection e with e;injection e with e;injection e with e1 e2 e3
 subst e1 e2
 unfold C2 at hc
 obtain ⟨_,⟨u,hu,hr⟩,_⟩:=hc
 obtain ⟨z,rfl,hz⟩:=Q2.1 hr
 obtain ⟨b,o,rfl,_⟩:=N3.1 hz
 exact ⟨_,hu⟩
def A1g (l:List UInt8):Int:=if A08 l=true then (match Lib.parseIntB 64 l with|.ok _=>0|.range=>5|_=>4) else 4
def A9q (l:List UInt8):Int:=if A08 l=true then (match Lib.parseIntB 64 l with|.ok v=>v|_=>0) else 0
theorem C9y (l:List UInt8) (hl:l.length≤1048576) (hE:Z8 Γ) (hs:A08 l=true→Lib.parseIntB 64 l≠Lib.NumEnd.syntax):A5 Tryz.prog Γ 273 [.str l] fun v=>v=.tuple [.int .i64 (A9q l),.int .i64 (A1g l)]:=by
 intro s
 refine ⟨fun G w vs hm hr=>?_⟩
 obtain ⟨u,us,rfl,hu,hus⟩:=A6.1 hr
 rw [A9] at hus;subst hus
 rw [H9] at hu;subst hu
 have cf:=(D5o l hl s).run G w [.string ⟨l.toArray⟩] hm (A6.2 ⟨_,[],rfl,H9.2 rfl,A9.2 rfl⟩)
 go_enter Tryz.func273,Tryz.ntmps273
 go_wp2_with fail
 refine cf.mono ?_
 rintro e w1 ⟨v,av,s',G1,rfl,⟨rfl,rfl⟩,hR,hm1,hX1⟩
 rw [G9] at hR;subst hR
 have done:∀ (n e:Int) (w2:World),A9q l=n→A1g l=e→Below w1.heap.size w1 w2→∃ v av s2 G',Ending.returned (.tuple #[.int .i64 n,.int .i64 e])=Ending.returned v∧(av=AV.tuple [.int .i64 (A9q l),.int .i64 (A1g l)]∧s2=s')∧R G' w2 av v∧Mod Γ G' s2 w2∧Ext G w G' w2:=by
  rintro n e w2 rfl rfl hb2
  obtain ⟨m1,m2⟩:=hm1.below hb2
  exact ⟨_,_,_,G1,rfl,⟨rfl,rfl⟩,A2a.2 ⟨_,rfl,A6.2 ⟨_,_,rfl,E9.2 rfl,A6.2 ⟨_,_,rfl,E9.2 rfl,A9.2 rfl⟩⟩⟩,m1,hX1.trans m2⟩
 cases hf:A08 l
 ·go_wp2_with fail
  go_returns
  exact done 0 4 w1 (by unfold A9q;rw [hf];rfl) (by unfold A1g;rw [hf];rfl) (Below.refl _ _)
 ·obtain ⟨b,hb⟩:=C8s hE hm1
  have hb0:7 < w1.heap.size:=Nat.lt_of_not_le fun hge=>by
   unfold World.cell? at hb
   rw [Array.getElem?_eq_none (by exact hge)] at hb
   cases hb
  cases hp:Lib.parseIntB 64 l with
  | ok n =>
   have cp:=Tryz.strconv_ParseInt_10_at64_ok ⟨l.toArray⟩ (by show l.length≤_;omega) n hp w1
   go_wp2_with fail
   refine cp.mono ?_
   rintro e w2 ⟨rfl,hw2⟩
   have hB:Below w1.heap.size w1 w2:=by
    rcases hw2 with rfl|⟨t,rfl⟩
    ·exact Below.refl _ _
    ·exact Lib.bytesWorld_below _ _ _
   have hb2:=(hB.cell (p:=⟨7,0,none⟩) hb0).trans hb
   have ci:=Er.D7w b w2
   go_wp2_with fail
   refine ci.mono ?_
   rintro e w3 ⟨rfl,rfl⟩
   go_wp2_with fail
   go_returns
   exact done n 0 _ (by unfold A9q;rw [hf,hp];rfl) (by unfold A1g;rw [hf,hp];rfl) hB
  | range =>
   have cp:=Tryz.strconv_ParseInt_10_at64_range ⟨l.toArray⟩ (by show l.length≤_;omega) hp _ w1 hb (.inr ⟨_,_,rfl⟩)
   go_wp2_with fail
   refine cp.mono ?_
   rintro e w2 ⟨N,rfl,hN1,hN2,hB⟩
   have hb2:=(hB.cell (p:=⟨7,0,none⟩) hb0).trans hb
   have ci:=Er.D7x N b _ _ _ w2 hN2
   go_wp2_with fail
   refine ci.mono ?_
   rintro e w3 ⟨rfl,rfl⟩
   go_wp2_with fail
   go_returns
   exact done 0 5 _ (by unfold A9q;rw [hf,hp];rfl) (by unfold A1g;rw [hf,hp];rfl) hB
  | _=>exact absurd hp (hs hf)
end Go.Proofs.YticnkpgmmpenlaaGreatDoor.Nu
namespace Go.Proofs.YticnkpgmmpenlaaGreatDoor.Nu
open Go Go.Ab Go.RowKit
def isD (c:UInt8):Bool:=decide (48≤c.toNat) && decide (c.toNat≤57)
theorem B7q:∀ c:UInt8,B7p.contains c=isD c:=by
 intro c
 have:∀ n:Nat,n < 256→B7p.contains (UInt8.ofNat n)=isD (UInt8.ofNat n):=by decide +kernel
 have h:=this c.toNat c.toNat_lt
 rwa [UInt8.ofNat_toNat] at h
theorem A56 {p:UInt8→Bool}:∀ l:List UInt8,l.dropWhile p=[]↔∀ x ∈ l,p x=true
 | []=>by simp
 | c::r=>by
  have ih:=A56 (p:=p) r
  rw [List.dropWhile_cons]
  cases h:p c
  ·simp [h]
  ·rw [if_pos rfl,ih]
   simp [h]
theorem D0i (l:List UInt8):(Lib.trimS l B7p=[])↔l.all isD=true:=by
 have hc:(fun c=>B7p.contains c)=isD:=funext B7q
 unfold Lib.trimS Lib.trimLeftS Lib.trimRightS
 rw [hc]
 constructor
 ·intro h
  rw [A56] at h
  by_cases hn:l.reverse.dropWhile isD=[]
  ·rw [A56] at hn
   exact List.all_eq_true.2 fun x hx=>hn x (List.mem_reverse.2 hx)
  ·have h1:=List.head_dropWhile_not isD hn
   have h2:=h _ (List.mem_reverse.2 (List.head_mem hn))
   rw [h1] at h2
   cases h2
 ·intro h
  have:l.reverse.dropWhile isD=[]:=(A56 _).2 fun x hx=>List.all_eq_true.1 h x (List.mem_reverse.1 hx)
  rw [this]
  rfl
def from_ (l:List UInt8):Nat:=if A7 l 0=45 then 1 else 0
theorem B3l (l:List UInt8):Lib.trimPrefix l [45]=l.drop (from_ l):=by
 unfold Lib.trimPrefix Lib.hasPrefix from_
 cases l with
 | nil=>rfl
 | cons c r =>
  by_cases h:c=45
  ·subst h;rfl
  ·have h1:([45]:List UInt8).isPrefixOf (c::r)=false:=by
    simp [List.isPrefixOf,h]
    exact fun e=>h e.symm
   rw [h1]
   simp [A7,h]
theorem B0h (l:List UInt8):A08 l=(!decide (l.length≤from_ l) && !(decide ((A7 l (from_ l)).toNat=48) && decide (1 < l.length)) && (l.drop (from_ l)).all isD):=by
 unfold A08
 simp only [B3l]
 have h1:decide (l.drop (from_ l)=[])=decide (l.length≤from_ l):=decide_eq_decide.2 List.drop_eq_nil_iff
 have h2:A7 (l.drop (from_ l)) 0=A7 l (from_ l):=by simp [A7,List.getD]
 have h3:decide (Lib.trimS (l.drop (from_ l)) B7p=[])=(l.drop (from_ l)).all isD:=by
  rw [Bool.eq_iff_iff,decide_eq_true_iff];exact D0i _
 rw [h1,h2,h3]
def nv:List UInt8→Nat→Nat
 | [],a=>a
 | c::r,a=>nv r (a * 10+(c.toNat - 48))
theorem D65:∀ (l:List UInt8) (a:Nat),a≤nv l a
 | [],a=>Nat.le_refl _
 | c::r,a=>by
  have:=D65 r (a * 10+(c.toNat - 48))
  show a≤nv r _
  omega
theorem B9i:∀ (d:List UInt8) (a:Nat),d.all isD=true→a≤18446744073709551615→Lib.parseUintM 18446744073709551615 a d=if nv d a≤18446744073709551615 then .ok (nv d a) else .range
 | [],a=>fun _ h=>by unfold Lib.parseUintM nv;rw [if_pos h]
 | c::r,a=>fun h ha=>by
  rw [List.all_cons,Bool.and_eq_true] at h
  have hd:48≤c.toNat∧c.toNat≤57:=by simpa [isD] using h.1
  have hg:=D65 r (a * 10+(c.toNat - 48))
  unfold Lib.parseUintM nv
  rw [if_pos hd]
  split
  ·rw [if_neg (by omega)]
  ·split
   ·rw [if_neg (by omega)]
   ·exact B9i r _ h.2 (by omega)
def Q8 (l:List UInt8):Nat:=nv (l.drop (from_ l)) 0
theorem B5z {l:List UInt8} (h:A08 l=true):Lib.parseIntB 64 l=if from_ l=1 then (if Q8 l≤9223372036854775808 then .ok (-(Q8 l:Int)) else .range) else (if Q8 l < 9223372036854775808 then .ok (Q8 l:Int) else .range):=by
 rw [B0h,Bool.and_eq_true,Bool.and_eq_true] at h
 obtain ⟨⟨h1,h2⟩,h3⟩:=h
 have h1:¬ l.length≤from_ l:=by simpa using h1
 have hne:l.drop (from_ l)≠[]:=fun e=>h1 (List.drop_eq_nil_iff.1 e)
 cases l with
 | nil=>simp at h1
 | cons c r =>
  have hp:=B9i ((c::r).drop (from_ (c::r))) 0 h3 (by omega)
  unfold Lib.parseIntB Q8
  by_cases hc:c=45
  ·subst hc
   have hf:from_ ((45:UInt8)::r)=1:=rfl
   rw [hf] at hp hne ⊢
   simp only [List.drop_succ_cons,List.drop_zero] at hp hne ⊢
   have e1:(if (45:UInt8).toNat=43∨(45:UInt8).toNat=45 then r else (45:UInt8)::r)=r:=rfl
   simp only [e1]
   unfold Lib.parseUintB
   rw [if_neg hne]
   rw [show 2 ^ 64 - 1=18446744073709551615 from rfl,hp]
   by_cases hv:nv r 0≤18446744073709551615
   ·rw [if_pos hv]
    dsimp only
    have e2:¬ (¬ (45:UInt8).toNat=45∧2 ^ (64 - 1)≤nv r 0):=fun h=>h.1 rfl
    rw [if_neg e2]
    by_cases h9:nv r 0≤9223372036854775808
    ·have e3:¬ ((45:UInt8).toNat=45∧2 ^ (64 - 1) < nv r 0):=fun h=>by
      have h2:9223372036854775808 < nv r 0:=h.2
      omega
     rw [if_neg e3]
     simp only [if_true,h9]
     rfl
    ·have e3:(45:UInt8).toNat=45∧2 ^ (64 - 1) < nv r 0:=⟨rfl,by show 9223372036854775808 < nv r 0;omega⟩
     rw [if_pos e3]
     simp only [if_true,h9,if_false]
   ·have h9:¬ nv r 0≤9223372036854775808:=by omega
    rw [if_neg hv]
    simp only [if_true,h9,if_false]
  ·have hf:from_ (c::r)=0:=by simp [from_,A7,hc]
   rw [hf] at hp hne h3 ⊢
   simp only [List.drop_zero] at hp hne h3 ⊢
   have hd:48≤c.toNat∧c.toNat≤57:=by
    rw [List.all_cons,Bool.and_eq_true] at h3
    simpa [isD] using h3.1
   have e1:(if c.toNat=43∨c.toNat=45 then r else c::r)=c::r:=if_neg (by omega)
   simp only [e1]
   unfold Lib.parseUintB
   rw [if_neg (by simp)]
   rw [show 2 ^ 64 - 1=18446744073709551615 from rfl,hp]
   have hn:¬ c.toNat=45:=by omega
   by_cases hv:nv (c::r) 0≤18446744073709551615
   ·rw [if_pos hv]
    dsimp only
    rw [if_neg (show ¬ (0:Nat)=1 by omega)]
    by_cases h9:nv (c::r) 0 < 9223372036854775808
    ·rw [if_neg (by simp;omega),if_neg (by simp [hn]),if_neg hn,if_pos h9]
    ·rw [if_pos (by simp [hn];omega),if_neg h9]
   ·rw [if_neg hv,if_neg (show ¬ (0:Nat)=1 by omega),if_neg (by omega)]
theorem C9r {l:List UInt8} (h:A08 l=true):Lib.parseIntB 64 l≠Lib.NumEnd.syntax:=by
 rw [B5z h]
 split<;>split<;>simp
end Go.Proofs.YticnkpgmmpenlaaGreatDoor.Nu
namespace Go.Proofs.YticnkpgmmpenlaaGreatDoor.Nu
open Go Go.Ab Go.RowKit
variable {Γ:Nat→AV}
def A6y (Γ:Nat→AV):Prop:=Γ 6=.cptr (Lib.pow10Tab.map (.int .u64))
def V7 (n:Int):Prop:=-9223372036854775808≤n∧n≤9223372036854775807
theorem B8x (hT:A6y Γ) (n:Int) (hn:V7 n):A5 Tryz.prog Γ 209 [.int .i64 n,.int .i64 10] fun v=>v=.str (Lib.itoa n):=by
 intro s
 refine A0.of_below fun G w vs hm hr=>?_
 obtain ⟨u,us,rfl,hu,hus⟩:=A6.1 hr
 obtain ⟨u1,us1,rfl,hu1,hus1⟩:=A6.1 hus
 rw [A9] at hus1;subst hus1
 rw [E9] at hu hu1;subst hu hu1
 refine ⟨_,fun G' w'=>H9.2 rfl,(Tryz.internal_strconv_FormatInt_10 n hn.1 hn.2 w (D8p hm (by kernel_rfl) hT)).mono ?_⟩
 rintro e w' ⟨rfl,k,os,rfl⟩
 exact ⟨rfl,Lib.below_grow _ _ (Nat.le_refl _) _ _⟩
attribute [local irreducible] A5 Sto.set Sto.grow
theorem B60 (hT:A6y Γ) (n:Int) (hn:V7 n):A5 Tryz.prog Γ 143 [.int .i64 n,.int .i64 10] fun v=>v=.str (Lib.itoa n):=by
 refine aps Tryz.func143 ?_
 intro s
 refine wr ?_;(first|(refine A0.pure' ?_ (B8x hT _ hn);rintro _ rfl)|refine A8.pure ?_ (B8x hT _ hn));refine wr ?_
 rfl
theorem A8v (hT:A6y Γ) (n:Int) (hn:V7 n):A5 Tryz.prog Γ 91 [.int .i64 n] fun v=>v=.str (Lib.itoa n):=by
 refine aps Tryz.func91 ?_
 intro s
 refine wr ?_;(first|(refine A0.pure' ?_ (B60 hT _ hn);rintro _ rfl)|refine A8.pure ?_ (B60 hT _ hn));refine wr ?_
 rfl
def val (x:Int):Int:=if -9223372036854775808≤x∧x≤9223372036854775807 then x else 0
def fine (x:Int):Bool:=decide (-9223372036854775808≤x∧x≤9223372036854775807)
end Go.Proofs.YticnkpgmmpenlaaGreatDoor.Nu
namespace Go.Proofs.YticnkpgmmpenlaaGreatDoor.Nu
open Go Go.Ab Go.RowKit
variable {Γ:Nat→AV}
attribute [local irreducible] A5 Sto.set Sto.grow
theorem B0w {l:List UInt8} (h:A08 l=true) :
  A9q l=(if from_ l=1 then (if Q8 l≤9223372036854775808 then -(Q8 l:Int) else 0) else (if Q8 l < 9223372036854775808 then (Q8 l:Int) else 0)) ∧
  A1g l=(if from_ l=1 then (if Q8 l≤9223372036854775808 then 0 else 5) else (if Q8 l < 9223372036854775808 then 0 else 5)):=by
 unfold A9q A1g
 rw [if_pos h,if_pos h,B5z h]
 by_cases h1:from_ l=1<;>by_cases h2:Q8 l≤9223372036854775808<;>by_cases h3:Q8 l < 9223372036854775808<;>simp [h1,h2,h3]
theorem C84 {l:List UInt8} (h:A08 l=true):from_ l < l.length:=by
 rw [B0h,Bool.and_eq_true,Bool.and_eq_true] at h
 have:=h.1.1
 simp at this
 omega
end Go.Proofs.YticnkpgmmpenlaaGreatDoor.Nu
namespace Go.Ab
open Go Go.RowKit
variable {P:Program} {Γ:Nat→AV}
theorem D1z {f:FuncId} {e:TypeId} {k n:Nat} {s:Sto}
  (h0:n=0→∀ a w,Calls P f #[.slice a 0 0,.int .i64 (0:Nat)] w fun r w'=>r=.returned (.slice a 0 0)∧w'=w)
  (h1:0 < n→∀ a w,∃ (cells:Array Value) (cap:Nat),cells.size=cap * k∧Calls P f #[.slice a 0 0,.int .i64 (n:Int)] w fun r w'=>r=.returned (.slice (some ⟨w.heap.size,0,none⟩) 0 cap)∧w'=w.drew.alloc (.cells cells e)) :
  A0 P Γ f [.slice 1 [],.int .i64 (n:Int)] s fun v s'=>∃ t,v=.slice t []∧Own s s' true t e k:=by
 refine ⟨fun G w vs hm hr=>?_⟩
 obtain ⟨v1,vs1,rfl,hr1,hr⟩:=A6.1 hr
 obtain ⟨v2,vs2,rfl,hr2,hr⟩:=A6.1 hr
 have hr:=A9.1 hr
 subst hr
 rw [E9] at hr2
 subst hr2
 obtain ⟨a,cap,hv,hc,_,_,hc1⟩:=J7 hr1
 have hc0:cap=0:=hc1 rfl
 subst hc0
 simp only [List.length_nil] at hv
 subst hv
 by_cases hn:n=0
 ·subst hn
  refine (h0 rfl a w).mono ?_
  rintro _ _ ⟨rfl,rfl⟩
  exact ⟨_,.slice 1 [],s,G,rfl,⟨1,rfl,Own.nil s e k⟩,hr1,hm,Ext.refl _ _⟩
 ·obtain ⟨cells,cap,hsz,hrun⟩:=h1 (by omega) a w
  refine hrun.mono ?_
  rintro _ _ ⟨rfl,rfl⟩
  obtain ⟨t,G',hm',X,t0,t1,htk,hkd,hlv⟩:=hm.row_own 1 (cells:=cells) (e:=e) (k:=k) (need:=0) (cap:=cap) hsz (Nat.zero_le _)
  refine ⟨_,.slice t [],_,G',rfl,⟨t,rfl,(Sub.refl s).grow (.inl rfl) t e k,.inr ⟨t1,.inl ⟨rfl,t1,rfl,rfl⟩,hlv⟩⟩,?_,hm',X⟩
  rw [A4d]
  exact ⟨fun _ _=>htk.symm,.inl ⟨rfl,_,cap,rfl,fun h=>absurd h t1,fun h=>by cases h⟩⟩
end Go.Ab
namespace Go.Proofs.YticnkpgmmpenlaaGreatDoor.Pa
open Go Go.Ab Go.RowKit
structure Ex where
 op:Int
 a:Int
 b:Int
 name:List UInt8
 vk:Int
 vi:Int
 vs:List UInt8
 vb:Bool
 ln:Int
 cl:Int
def exA (x:Ex):List AV:=[.int .i64 x.op,.int .i64 x.a,.int .i64 x.b,.str x.name,.int .i64 x.vk,.int .i64 x.vi,.str x.vs,.bool x.vb,.int .i64 x.ln,.int .i64 x.cl]
def J9 (l:List Ex):List (List AV):=l.map exA
theorem X3 (l:List Ex):(J9 l).length=l.length:=List.length_map ..
def G8 (by_:Int) (x:Ex):Ex:=if x.op < 4∨16 < x.op then x else if 5 < x.op then { x with a:=IntKind.i64.wrap (x.a+by_),b:=IntKind.i64.wrap (x.b+by_) } else { x with a:=IntKind.i64.wrap (x.a+by_) }
end Go.Proofs.YticnkpgmmpenlaaGreatDoor.Pa
namespace Go.Proofs.YticnkpgmmpenlaaGreatDoor.Pa
open Go Go.Ab Go.RowKit Go.Proofs.YticnkpgmmpenlaaGreatDoor.Lx
variable {Γ:Nat→AV}
attribute [local irreducible] A5 Sto.set Sto.grow
def noTok:Tok:=(0,[],0,0)
def B0 (L:List Tok) (a:Nat):Tok:=if a < L.length then L.getD a noTok else if L.length=0 then (0,[],1,1) else (0,[],(L.getD (L.length - 1) noTok).2.2.1,(L.getD (L.length - 1) noTok).2.2.2)
theorem B1h {l:List Tok} {i:Nat} (h:i < l.length):(W7 l).getD i []=P3 (l.getD i noTok):=by simp [W7,List.getD,h]
structure Pst (s0 s:Sto) (bp bl:Nat) (L:List Tok) (a:Nat) (o:List Ex) (d:List Int) (k:Int):Prop where
 np:s0.bx bp=none
 nl:s0.bx bl=none
 ne:bp≠bl
 pr:∃ t1 t2,s.bx bp=some (123,[.ptr (some ⟨bl,0,none⟩),.slice t1 (J9 o),.slice t2 (G7 .i64 d),.int .i64 k])∧Own s0 s o.isEmpty t1 61 10∧Own s0 s d.isEmpty t2 3 1∧(t1=t2→t1=1)
 pl:s.bx bl=some (126,[.slice 0 (W7 L),.int .i64 a])
theorem Pst.sub {s0 s:Sto} {bp bl:Nat} {L:List Tok} {a:Nat} {o:List Ex} {d:List Int} {k:Int} (h:Pst s0 s bp bl L a o d k):Sub s0 s:=by
 obtain ⟨_,_,_,h1,_⟩:=h.pr
 exact h1.sub
theorem A0j {s:Sto} {bl:Nat} {L:List Tok} {a:Nat} (hb:s.bx bl=some (126,[.slice 0 (W7 L),.int .i64 a])) (hL:L.length≤1000000) (ha:a≤1000000) :
  A0 Tryz.prog Γ 115 [.ptr (some ⟨bl,0,none⟩)] s fun v s'=>v=.agg (P3 (B0 L a))∧s'=s:=by
 have htl:=A5t L
 by_cases h1:a < L.length
 ·have hg:=B1h h1
  rw [B0,if_pos h1]
  generalize L.getD a noTok=z at *
  rw [P3] at hg
  refine acs Tryz.func115 ?_
  conv=>whnf
  intro b2 hb2
  have n_bl_b2:bl≠b2:=A3 bxa hb2
  have n_b2_bl:=n_bl_b2.symm
  conv=>whnf
  repeat' ((first|exact pru|(refine brS (fun h=>?_) (fun h=>?_)<;>(try rw [h])<;>(try simp only [bS,↓reduceIte] at h))|refine D3 ?_|(rw [show (W7 L).getD ((a:Int)).toNat []=_ from hg])|refine gS ?_|refine aA ?_|refine nA ?_|fail)<;>(conv=>whnf))
  ·exfalso;revert h;rw [htl];simp;rintro rfl;simp at *
  ·exact ⟨s,((Sub.refl _).set hb2 _ _).set hb2 _ _,rfl,rfl⟩
 ·by_cases h0:L.length=0
  ·rw [B0,if_neg h1,if_pos h0]
   refine acs Tryz.func115 ?_
   conv=>whnf
   intro b2 hb2
   have n_bl_b2:bl≠b2:=A3 bxa hb2
   have n_b2_bl:=n_bl_b2.symm
   conv=>whnf
   repeat' ((first|exact pru|(refine brS (fun h=>?_) (fun h=>?_)<;>(try rw [h])<;>(try simp only [bS,↓reduceIte] at h))|refine D3 ?_|refine gS ?_|refine aA ?_|refine nA ?_|fail)<;>(conv=>whnf))
   ·exact ⟨s,((Sub.refl _).set hb2 _ _).set hb2 _ _,rfl,rfl⟩
   ·rename_i hc;exfalso;revert hc;simp [htl,h0]
  ·have hg:=B1h (l:=L) (i:=L.length - 1) (by omega)
   rw [B0,if_neg h1,if_neg h0]
   generalize L.getD (L.length - 1) noTok=z at *
   rw [P3] at hg
   have hw:IntKind.i64.wrap (((W7 L).length:Int) - 1)=((L.length - 1:Nat):Int):=C3 (by omega) (by omega) (by omega)
   refine acs Tryz.func115 ?_
   conv=>whnf
   intro b2 hb2
   have n_bl_b2:bl≠b2:=A3 bxa hb2
   have n_b2_bl:=n_bl_b2.symm
   conv=>whnf
   repeat' ((first|exact pru|(refine brS (fun h=>?_) (fun h=>?_)<;>(try rw [h])<;>(try simp only [bS,↓reduceIte] at h))|refine D3 ?_|(rw [hw])|(rw [show (W7 L).getD ((L.length - 1:Nat):Int).toNat []=_ from hg])|refine gS ?_|refine aA ?_|refine nA ?_|fail)<;>(conv=>whnf))
   ·exfalso;revert h;rw [htl];simp;rintro rfl;simp at *
   ·intro b3 hb3
    have n_b2_b3:b2≠b3:=A3 bxa hb3
    have n_b3_b2:b3≠b2:=fun h=>n_b2_b3 h.symm
    have n_bl_b3:bl≠b3:=A3 bxa hb3
    have g3:s.bx b3=none:=((Sub.refl s).set hb2 _ _).none hb3
    refine wp ?_
    exact ⟨s,((((Sub.refl _).set hb2 _ _).set g3 _ _).set g3 _ _).set hb2 _ _,rfl,rfl⟩
def B7t (t:Tok) (e:Int):AV:=.iface 158 (.cptr (P3 t++[.iface 44 (.int .i64 e)]))
theorem A24 {s0 s:Sto} {bp bl:Nat} {L:List Tok} {a:Nat} {o:List Ex} {d:List Int} {k:Int} (hP:Pst s0 s bp bl L a o d k) (hL:L.length≤1000000) (ha:a≤1000000) (e:Int) :
  A0 Tryz.prog Γ 71 [.ptr (some ⟨bp,0,none⟩),.int .i64 e] s fun v s'=>v=B7t (B0 L a) e∧s'=s:=by
 obtain ⟨t1,t2,hb,_⟩:=hP.pr
 have hpk:=A0j (Γ:=Γ) hP.pl hL ha
 generalize B0 L a=q at *
 obtain ⟨p1,p2,p3,p4⟩:=q
 have h1:A0 Tryz.prog Γ 71 [.ptr (some ⟨bp,0,none⟩),.int .i64 e] s fun v s'=>∃ b,v=.iface 158 (.ptr (some ⟨b,0,none⟩))∧s.bx b=none∧s'.bx b=some (165,P3 (p1,p2,p3,p4)++[.iface 44 (.int .i64 e)])∧Sub s s':=by
  refine acs Tryz.func71 ?_
  refine wp ?_;(refine A0.by hpk ?_;rintro _ _ ⟨rfl,rfl⟩);refine wp ?_
  intro b13 hb13
  refine wp ?_
  exact ⟨_,Sub.refl _,b13,rfl,hb13,A1,(Sub.refl _).set hb13 _ _⟩
 refine h1.frz ?_
 rintro v s' ⟨b,rfl,h2,h3,h4⟩
 refine ⟨fz1 b 0 (P3 (p1,p2,p3,p4)++[.iface 44 (.int .i64 e)]),s,C0n h2 h3,h4,?_,rfl⟩
 simp only [fz,fzP,C0m,List.drop_zero,fg,B7t,P3,List.cons_append,List.nil_append,fgL]
theorem B0o {s0 s:Sto} {bp bl:Nat} {L:List Tok} {a:Nat} {o:List Ex} {d:List Int} {k:Int} (hP:Pst s0 s bp bl L a o d k) (hL:L.length≤1000000) (ha:a≤1000000) (w:List UInt8) :
  A0 Tryz.prog Γ 233 [.ptr (some ⟨bp,0,none⟩),.str w] s fun v s'=>v=.bool ((decide ((B0 L a).1=2) || decide ((B0 L a).1=5)) && decide ((B0 L a).2.1=w))∧s'=s:=by
 obtain ⟨t1,t2,hb,_⟩:=hP.pr
 have hpk:=A0j (Γ:=Γ) hP.pl hL ha
 generalize B0 L a=q at *
 obtain ⟨p1,p2,p3,p4⟩:=q
 simp only [P3] at hpk
 refine acs Tryz.func233 ?_
 refine wp ?_;(refine A0.by hpk ?_;rintro _ _ ⟨rfl,rfl⟩);refine wp ?_
 intro b5 hb5
 conv=>whnf
 repeat' ((first|exact pru|(refine brS (fun h=>?_) (fun h=>?_)<;>(try rw [h])<;>(try simp only [bS,↓reduceIte] at h))|refine D3 ?_|refine gS ?_|refine aA ?_|refine nA ?_|fail)<;>(conv=>whnf))
 all_goals (refine ⟨_,((Sub.refl _).set hb5 _ _).set hb5 _ _,?_,rfl⟩;refine congrArg AV.bool ?_;simp_all)
theorem Pst.next {s0 s:Sto} {bp bl:Nat} {L:List Tok} {a:Nat} {o:List Ex} {d:List Int} {k:Int} (hP:Pst s0 s bp bl L a o d k) (a':Nat):Pst s0 (s.set bl 126 [.slice 0 (W7 L),.int .i64 a']) bp bl L a' o d k:=by
 obtain ⟨np,nl,ne,⟨t1,t2,h1,h2,h3,h4⟩,pl⟩:=hP
 exact ⟨np,nl,ne,⟨t1,t2,(A2 ne).trans h1,h2.set nl,h3.set nl,h4⟩,A1⟩
theorem C1l {s0 s:Sto} {bp bl:Nat} {L:List Tok} {a:Nat} {o:List Ex} {d:List Int} {k:Int} (hP:Pst s0 s bp bl L a o d k) (hL:L.length≤1000000) (ha:a≤100000) (w:List UInt8) :
  A0 Tryz.prog Γ 189 [.ptr (some ⟨bp,0,none⟩),.str w] s fun v s'=>v=.bool ((decide ((B0 L a).1=2) || decide ((B0 L a).1=5)) && decide ((B0 L a).2.1=w)) ∧
   Pst s0 s' bp bl L (if ((decide ((B0 L a).1=2) || decide ((B0 L a).1=5)) && decide ((B0 L a).2.1=w))=true then a+1 else a) o d k:=by
 obtain ⟨t1,t2,hb,_⟩:=hP.pr
 have hi:=B0o (Γ:=Γ) hP hL (by omega) w
 have hN:=hP.next (a+1)
 generalize ((decide ((B0 L a).1=2) || decide ((B0 L a).1=5)) && decide ((B0 L a).2.1=w))=z at *
 have hw:IntKind.i64.wrap ((a:Int)+1)=((a+1:Nat):Int):=C3 (by omega) (by omega) (by omega)
 refine acs Tryz.func189 ?_
 conv=>whnf
 cases z
 ·refine wp ?_;(refine A0.by hi ?_;rintro _ _ ⟨rfl,rfl⟩);refine wp ?_
  exact ⟨_,Sub.refl _,rfl,hP⟩
 ·repeat' ((first|exact pru|(refine brS (fun h=>?_) (fun h=>?_)<;>(try rw [h])<;>(try simp only [bS,↓reduceIte] at h))|(refine A0.by hi ?_;rintro _ _ ⟨rfl,rfl⟩)|(refine A4 hb ?_)|(refine A4 hP.pl ?_)|(rw [hw])|refine gS ?_|refine aA ?_|refine nA ?_|fail)<;>(conv=>whnf))
  exact ⟨_,Sub.refl _,rfl,hN⟩
theorem A6c {s0 s:Sto} {bp bl:Nat} {L:List Tok} {a:Nat} {o:List Ex} {d:List Int} {k:Int} (hP:Pst s0 s bp bl L a o d k) (ho:o.length≤1000000) :
  A0 Tryz.prog Γ 190 [.ptr (some ⟨bp,0,none⟩)] s fun v s'=>v=.int .i64 ((o.length:Int) - 1)∧s'=s:=by
 obtain ⟨t1,t2,hb,_⟩:=hP.pr
 have hw:IntKind.i64.wrap (((J9 o).length:Int) - 1)=(o.length:Int) - 1:=C3 (by rw [X3]) (by omega) (by omega)
 refine acs Tryz.func190 ?_
 refine wp ?_;(rw [hw]);refine wp ?_
 exact ⟨s,Sub.refl _,rfl,rfl⟩
end Go.Proofs.YticnkpgmmpenlaaGreatDoor.Pa
namespace Go.Proofs.YticnkpgmmpenlaaGreatDoor.Pa
open Go Go.Ab Go.RowKit Go.Proofs.YticnkpgmmpenlaaGreatDoor.Lx
structure St where
 a:Nat
 o:List Ex
 d:List Int
 k:Int
abbrev Res (α:Type):=Except (Int × Int × Int) α
def A1u {α:Type} (L:List Tok) (a:Nat) (e:Int):Res α:=.error (e,(B0 L a).2.2.1,(B0 L a).2.2.2)
def B1f (t:Tok):Bool:=decide (t.1=2) || decide (t.1=5)
def isF (L:List Tok) (a:Nat) (s:List UInt8):Bool:=B1f (B0 L a) && decide ((B0 L a).2.1=s)
def J4 (L:List Tok) (a:Nat) (m:List (List UInt8 × Int)):Int:=if B1f (B0 L a)=true then A8z (B0 L a).2.1 m else 0
def A2z (d:List Int):List Int→Int→Int
 | [],m=>m
 | i::r,m=>A2z d r (if IntKind.i64.wrap (d.getD i.toNat 0+1) > m then IntKind.i64.wrap (d.getD i.toNat 0+1) else m)
def V8 (t:Tok) (x:Ex) (u:List Int) (s:St):Res St :=
 if 64 < A2z s.d u 1 then .error (13,t.2.2.1,t.2.2.2) else .ok { s with o:=s.o++[{ x with ln:=t.2.2.1,cl:=t.2.2.2 }],d:=s.d++[A2z s.d u 1] }
def ex0:Ex:=⟨0,0,0,[],0,0,[],false,0,0⟩
def A09 (L:List Tok) (one:St→Res St) (s:St):Res St :=
 if s.k=128 then A1u L s.a 13 else match one { s with a:=s.a+1,k:=s.k+1 } with
  | .error e=>.error e
  | .ok s'=>.ok { s' with k:=s'.k - 1 }
def R1 (L:List Tok) (op:Int) (one:St→Res St) (s:St):Res St :=
 match A09 L one s with
 | .error e=>.error e
 | .ok s'=>V8 (B0 L s.a) { ex0 with op:=op,a:=(s'.o.length:Int) - 1 } [(s'.o.length:Int) - 1] s'
def A2q (L:List Tok) (m:List (List UInt8 × Int)) (one:St→Res St):Nat→St→Res St
 | 0,s=>.ok s
 | n+1,s=>if J4 L s.a m=0 then .ok s else match one { s with a:=s.a+1 } with
  | .error e=>.error e
  | .ok s2=>match V8 (B0 L s.a) { ex0 with op:=J4 L s.a m,a:=(s.o.length:Int) - 1,b:=(s2.o.length:Int) - 1 } [(s.o.length:Int) - 1,(s2.o.length:Int) - 1] s2 with
   | .error e=>.error e
   | .ok s3=>A2q L m one n s3
def W2 (L:List Tok) (m:List (List UInt8 × Int)) (one:St→Res St) (s:St):Res St :=
 match one s with
 | .error e=>.error e
 | .ok s1=>A2q L m one (L.length+1) s1
def R5 (s:St) (from_ mid:Nat):St :=
 { s with
  o:=s.o.take from_++(s.o.drop mid).map (G8 (-((mid - from_:Nat):Int)))++((s.o.take mid).drop from_).map (G8 ((s.o.length - mid:Nat):Int))
  d:=s.d.take from_++s.d.drop mid++(s.d.take mid).drop from_ }
def A2r:List (List UInt8 × Int):=[([61,61],13),([33,61],14),([60],15),([60,61],16),([62],-15),([62,61],-16)]
def A48 (L:List Tok) (one:St→Res St) (s:St):Res St :=
 match one s with
 | .error e=>.error e
 | .ok s1=>if J4 L s1.a A2r=0 then .ok s1 else match one { s1 with a:=s1.a+1 } with
  | .error e=>.error e
  | .ok s2=>if J4 L s1.a A2r < 0
   then V8 (B0 L s1.a) { ex0 with op:=-(J4 L s1.a A2r),a:=(s.o.length+(s2.o.length - s1.o.length):Nat) - 1,b:=(s2.o.length:Int) - 1 } [((s.o.length+(s2.o.length - s1.o.length):Nat):Int) - 1,(s2.o.length:Int) - 1] (R5 s2 s.o.length s1.o.length)
   else V8 (B0 L s1.a) { ex0 with op:=J4 L s1.a A2r,a:=(s1.o.length:Int) - 1,b:=(s2.o.length:Int) - 1 } [(s1.o.length:Int) - 1,(s2.o.length:Int) - 1] s2
def U2 (L:List Tok) (a:Nat):Bool:=decide ((if isF L a [45]=true then a+1 else a) < L.length) && decide ((L.getD (if isF L a [45]=true then a+1 else a) noTok).1=3)
def J6 (L:List Tok) (a:Nat):Res ((Int × Int × List UInt8 × Bool) × Nat) :=
  if U2 L a=true then
    (let q:=if isF L a [45]=true then a+1 else a
     let g:=(B0 L q).2.1
     let t:=(if isF L a [45]=true∧g≠[48] then [45] else [])++g
     if Nu.A1g t≠0 then A1u L q (Nu.A1g t) else .ok ((1,Nu.A9q t,[],false),q+1))
  else if (B0 L a).1=4 then .ok ((2,0,(B0 L a).2.1,false),a+1)
  else if isF L a [116,114,117,101]=true then .ok ((3,0,[],true),a+1)
  else if isF L a [102,97,108,115,101]=true then .ok ((3,0,[],false),a+1)
  else A1u L a 16
def B3d (L:List Tok) (w:List UInt8) (s:St):Res St:=if isF L s.a w=true then .ok { s with a:=s.a+1 } else A1u L s.a 16
def orM:List (List UInt8 × Int):=[([111,114],7)]
def D01:List (List UInt8 × Int):=[([97,110,100],6)]
def D30:List (List UInt8 × Int):=[([43],8),([45],9)]
def C3q:List (List UInt8 × Int):=[([42],10),([47],11),([37],12)]
def A0v (L:List Tok) (expr una:St→Res St) (s:St):Res St :=
 if isF L s.a [40]=true then A09 L (fun s=>match expr s with|.error e=>.error e|.ok s'=>B3d L [41] s') s
 else if (B0 L s.a).1=1∧(B0 L s.a).2.1≠[95] then V8 (B0 L s.a) { ex0 with op:=17,name:=(B0 L s.a).2.1 } [] { s with a:=s.a+1 }
 else if isF L s.a [45]=true∧U2 L s.a=false then R1 L 5 una s
 else match J6 L s.a with
  | .error e=>.error e
  | .ok (v,a')=>V8 (B0 L s.a) { ex0 with op:=1,vk:=v.1,vi:=v.2.1,vs:=v.2.2.1,vb:=v.2.2.2 } [] { s with a:=a' }
def ev (L:List Tok):Nat→Nat→St→Res St
 | 0,_,s=>.ok s
 | f+1,0,s=>W2 L orM (ev L f 1) s
 | f+1,1,s=>W2 L D01 (ev L f 2) s
 | f+1,2,s=>if isF L s.a [110,111,116]=true then R1 L 4 (ev L f 2) s else ev L f 3 s
 | f+1,3,s=>A48 L (ev L f 4) s
 | f+1,4,s=>W2 L D30 (ev L f 5) s
 | f+1,5,s=>W2 L C3q (ev L f 6) s
 | f+1,_,s=>A0v L (ev L f 0) (ev L f 6) s
end Go.Proofs.YticnkpgmmpenlaaGreatDoor.Pa
namespace Go.Proofs.YticnkpgmmpenlaaGreatDoor.Pa
open Go Go.Ab Go.RowKit Go.Proofs.YticnkpgmmpenlaaGreatDoor.Lx
variable {Γ:Nat→AV}
attribute [local irreducible] A5 Sto.set Sto.grow
section
variable {s0 s:Sto} {bp bl:Nat} {L:List Tok} {a:Nat} {o:List Ex} {d:List Int} {k:Int}
theorem isP (hP:Pst s0 s bp bl L a o d k) (hL:L.length≤1000000) (ha:a≤1000000) (w:List UInt8) :
  A0 Tryz.prog Γ 233 [.ptr (some ⟨bp,0,none⟩),.str w] s fun v s'=>v=.bool (isF L a w)∧s'=s:=B0o hP hL ha w
theorem V9 (hP:Pst s0 s bp bl L a o d k) (hL:L.length≤1000000) (ha:a≤100000) (w:List UInt8) :
  A0 Tryz.prog Γ 189 [.ptr (some ⟨bp,0,none⟩),.str w] s fun v s'=>v=.bool (isF L a w)∧Pst s0 s' bp bl L (if isF L a w=true then a+1 else a) o d k:=C1l hP hL ha w
theorem C7m (hP:Pst s0 s bp bl L a o d k) (hL:L.length≤1000000) (ha:a≤1000000) (m:List (List UInt8 × Int)) :
  A0 Tryz.prog Γ 192 [.ptr (some ⟨bp,0,none⟩),.cmap m] s fun v s'=>v=.int .i64 (J4 L a m)∧s'=s:=by
 obtain ⟨t1,t2,hb,_⟩:=hP.pr
 have hpk:=A0j (Γ:=Γ) hP.pl hL ha
 unfold J4 B1f
 generalize B0 L a=q at *
 obtain ⟨p1,p2,p3,p4⟩:=q
 simp only [P3] at hpk
 refine acs Tryz.func192 ?_
 refine wp ?_;(refine A0.by hpk ?_;rintro _ _ ⟨rfl,rfl⟩);refine wp ?_
 intro b5 hb5
 conv=>whnf
 repeat' ((first|exact pru|(refine brS (fun h=>?_) (fun h=>?_)<;>(try rw [h])<;>(try simp only [bS,↓reduceIte] at h))|refine D3 ?_|refine gS ?_|refine aA ?_|refine nA ?_|fail)<;>(conv=>whnf))
 all_goals (refine ⟨_,((Sub.refl _).set hb5 _ _).set hb5 _ _,?_,rfl⟩;simp_all [A3e])
theorem B25 (hP:Pst s0 s bp bl L a o d k) (hL:L.length≤1000000) (ha:a≤100000) :
  A0 Tryz.prog Γ 255 [.ptr (some ⟨bp,0,none⟩)] s fun v s'=>v=.bool (U2 L a)∧s'=s:=by
 obtain ⟨t1,t2,hb,_⟩:=hP.pr
 have hi:=isP (Γ:=Γ) hP hL (by omega) [45]
 have htl:=A5t L
 unfold U2
 have hw:IntKind.i64.wrap ((a:Int)+1)=((a+1:Nat):Int):=C3 (by omega) (by omega) (by omega)
 cases hm:isF L a [45]
 ·rw [hm] at hi
  simp only [Bool.false_eq_true,if_false]
  have hg:=fun h:a < L.length=>B1h h
  generalize L.getD a noTok=z at *
  simp only [P3] at hg
  refine acs Tryz.func255 ?_
  conv=>whnf
  repeat' ((first|exact pru|(refine brS (fun h=>?_) (fun h=>?_)<;>(try rw [h])<;>(try simp only [bS,↓reduceIte] at h))|(refine A4 hb ?_)|(refine A4 hP.pl ?_)|(refine A0.by hi ?_;rintro _ _ ⟨rfl,rfl⟩)|(rw [show (W7 L).getD ((a:Int)).toNat []=_ from hg (by omega)])|refine gS ?_|refine aA ?_|refine nA ?_|fail)<;>(conv=>whnf))
  all_goals (refine ⟨_,Sub.refl _,?_,rfl⟩;first|(rw [decide_eq_true (show a < L.length by omega)];simp [A3e];done)|(rw [decide_eq_false (show ¬ a < L.length by omega)];simp [A3e];done))
 ·rw [hm] at hi
  simp only [if_true]
  have hg:=fun h:a+1 < L.length=>B1h h
  generalize L.getD (a+1) noTok=z at *
  simp only [P3] at hg
  refine acs Tryz.func255 ?_
  conv=>whnf
  repeat' ((first|exact pru|(refine brS (fun h=>?_) (fun h=>?_)<;>(try rw [h])<;>(try simp only [bS,↓reduceIte] at h))|(refine A4 hb ?_)|(refine A4 hP.pl ?_)|(refine A0.by hi ?_;rintro _ _ ⟨rfl,rfl⟩)|(rw [hw])|(rw [show (W7 L).getD (((a+1:Nat):Int)).toNat []=_ from hg (by omega)])|refine gS ?_|refine aA ?_|refine nA ?_|fail)<;>(conv=>whnf))
  all_goals (refine ⟨_,Sub.refl _,?_,rfl⟩;first|(rw [decide_eq_true (show a+1 < L.length by omega)];simp [A3e];done)|(rw [decide_eq_false (show ¬ a+1 < L.length by omega)];simp [A3e];done))
def vlA (v:Int × Int × List UInt8 × Bool):List AV:=[.int .i64 v.1,.int .i64 v.2.1,.str v.2.2.1,.bool v.2.2.2]
def A8x (x:Int × Int × Int) (v:AV):Prop:=∃ kd t,v=B7t (kd,t,x.2.1,x.2.2) x.1
theorem Y7 (L:List Tok) (a:Nat) (e:Int):A8x (e,(B0 L a).2.2.1,(B0 L a).2.2.2) (B7t (B0 L a) e):=⟨(B0 L a).1,(B0 L a).2.1,rfl⟩
def C1q (s0:Sto) (bp bl:Nat) (L:List Tok) (o:List Ex) (d:List Int) (k:Int) (r:Res ((Int × Int × List UInt8 × Bool) × Nat)) (v:AV) (s':Sto):Prop :=
 match r with
 | .ok (x,a')=>v=.tuple [.agg (vlA x),.nilIface]∧Pst s0 s' bp bl L a' o d k
 | .error x=>∃ e a',v=.tuple [.agg (vlA (0,0,[],false)),e]∧A8x x e∧Pst s0 s' bp bl L a' o d k
theorem Pst.box (hP:Pst s0 s bp bl L a o d k) {b:Nat} (hb:s.bx b=none) (T:TypeId) (cs:List AV):Pst s0 (s.set b T cs) bp bl L a o d k:=by
 obtain ⟨np,nl,ne,⟨t1,t2,h1,h2,h3,h4⟩,pl⟩:=hP
 exact ⟨np,nl,ne,⟨t1,t2,(A2 (A3 h1 hb)).trans h1,h2.set (h2.sub.none hb),h3.set (h2.sub.none hb),h4⟩,(A2 (A3 pl hb)).trans pl⟩
theorem Pst.put (hP:Pst s0 s bp bl L a o d k) {b:Nat} (hb:s0.bx b=none) (h1:b≠bp) (h2:b≠bl) (T:TypeId) (cs:List AV):Pst s0 (s.set b T cs) bp bl L a o d k:=by
 obtain ⟨np,nl,ne,⟨t1,t2,e1,e2,e3,e4⟩,pl⟩:=hP
 exact ⟨np,nl,ne,⟨t1,t2,(A2 h1.symm).trans e1,e2.set hb,e3.set hb,e4⟩,(A2 h2.symm).trans pl⟩
theorem Pst.keep (hP:Pst s0 s bp bl L a o d k) {b:Nat} {T:TypeId} {cs:List AV} (hb:s.bx b=some (T,cs)) (h1:b≠bp) (h2:b≠bl):Pst (s0.set b T cs) s bp bl L a o d k:=by
 obtain ⟨np,nl,ne,⟨t1,t2,e1,e2,e3,e4⟩,pl⟩:=hP
 have hs:Sub (s0.set b T cs) s:=⟨fun c x hc=>(by
  by_cases hcb:c=b
  ·subst hcb;rw [A1] at hc;rw [← hc];exact hb
  ·rw [A2 hcb] at hc;exact e2.sub.bx c x hc),fun t e m hx=>e2.sub.lv t e m (by simpa [Sto.set] using hx)⟩
 exact ⟨(A2 h1.symm).trans np,(A2 h2.symm).trans nl,ne,⟨t1,t2,e1,⟨hs,e2.own.imp id fun h=>⟨h.1,h.2.1,fun e m hx=>h.2.2 e m (by simpa [Sto.set] using hx)⟩⟩,⟨hs,e3.own.imp id fun h=>⟨h.1,h.2.1,fun e m hx=>h.2.2 e m (by simpa [Sto.set] using hx)⟩⟩,e4⟩,pl⟩
theorem Pst.drop {b:Nat} {T:TypeId} {cs:List AV} (hP:Pst (s0.set b T cs) s bp bl L a o d k) (hb:s0.bx b=none):Pst s0 s bp bl L a o d k∧s.bx b=some (T,cs):=by
 obtain ⟨np,nl,ne,⟨t1,t2,e1,e2,e3,e4⟩,pl⟩:=hP
 have hsb:Sub s0 (s0.set b T cs):=(Sub.refl s0).set hb T cs
 have n1:bp≠b:=by rintro rfl;rw [A1] at np;cases np
 have n2:bl≠b:=by rintro rfl;rw [A1] at nl;cases nl
 exact ⟨⟨(A2 n1).symm.trans np,(A2 n2).symm.trans nl,ne,⟨t1,t2,e1,e2.of_sub hsb,e3.of_sub hsb,e4⟩,pl⟩,e2.sub.bx _ _ A1⟩
theorem B18 (hE:Nu.Z8 Γ) (hP:Pst s0 s bp bl L a o d k) (hL:L.length≤100000) (ha:a≤100000) (hT:∀ i,(B0 L i).2.1.length≤5000) (hn:U2 L a=true) :
  A0 Tryz.prog Γ 256 [.ptr (some ⟨bp,0,none⟩)] s (C1q s0 bp bl L o d k (J6 L a)):=by
 unfold J6
 rw [if_pos hn]
 dsimp only
 unfold A1u
 have hq:(if isF L a [45]=true then a+1 else a)≤100001:=by split<;>omega
 have htk:=fun {s0 s:Sto} (hP:Pst s0 s bp bl L a o d k)=>V9 (Γ:=Γ) hP (by omega) ha [45]
 generalize (if isF L a [45]=true then a+1 else a)=q at *
 generalize isF L a [45]=mi at *
 have hTq:=hT q
 have hfl:=fun {s:Sto} (hP:Pst s0 s bp bl L q o d k) (e:Int)=>A24 (Γ:=Γ) hP (by omega) (by omega) e
 have hpk:=fun {s:Sto} (hb:s.bx bl=some (126,[.slice 0 (W7 L),.int .i64 q]))=>A0j (Γ:=Γ) hb (by omega) (by omega)
 have hev:=Y7 L q
 generalize B0 L q=p at *
 obtain ⟨p1,p2,p3,p4⟩:=p
 simp only [P3] at hpk
 simp only at hTq
 have hw:IntKind.i64.wrap ((q:Int)+1)=((q+1:Nat):Int):=C3 (by omega) (by omega) (by omega)
 have hpr:=fun t (ht:t.length≤5001)=>Nu.C9y (Γ:=Γ) t (by omega) hE (fun h=>Nu.C9r h)
 have hmi:∀ g:List UInt8,(if mi=true∧g≠[48] then ([45]:List UInt8) else [])=if g=[48] then [] else if mi=true then [45] else []:=fun g=>by
  by_cases hg:g=[48]
  ·simp [hg]
  ·cases mi<;>simp [hg]
 rw [hmi]
 clear hmi
 refine acs Tryz.func256 ?_
 conv=>whnf
 intro b2 hb2
 conv=>whnf
 have c0:s0.bx b2=none:=hP.sub.none hb2
 have hn1:b2≠bp:=by rintro rfl;obtain ⟨_,_,h,_⟩:=hP.pr;rw [hb2] at h;cases h
 have hn2:b2≠bl:=by rintro rfl;rw [hP.pl] at hb2;cases hb2
 have hP2:=(hP.box hb2 56 [.int .i64 0,.int .i64 0,.str [],.bool false]).keep A1 hn1 hn2
 cases mi
 ·refine wp ?_;(refine A0.by (htk hP2) ?_;rintro _ s3 ⟨rfl,hP3⟩);refine wp ?_
  have hP3':=(hP3.drop c0).1
  have hb23:=(hP3.drop c0).2
  obtain ⟨t1,t2,hb3,_⟩:=hP3'.pr
  conv=>whnf
  repeat' ((first|exact pru|(refine brS (fun h=>?_) (fun h=>?_)<;>(try rw [h])<;>(try simp only [bS,↓reduceIte] at h))|(refine A4 hb3 ?_)|(refine A0.by (hpk hP3'.pl) ?_;rintro _ s4 ⟨rfl,hs4⟩;subst s4)|refine gS ?_|refine aA ?_|refine nA ?_|fail)<;>(conv=>whnf))
  ·have h48:=h
   have hpt:=hpr ([]++p2) (by simp;omega)
   repeat' ((first|exact pru|(refine brS (fun h=>?_) (fun h=>?_)<;>(try rw [h])<;>(try simp only [bS,↓reduceIte] at h))|(refine A0.pure' ?_ (hpt);rintro _ rfl)|refine A8.pure ?_ (hpt)|refine gS ?_|refine aA ?_|refine nA ?_|fail)<;>(conv=>whnf))
   ·have hbad:=h
    refine wp ?_;(refine A0.by (hfl hP3' _) ?_;rintro _ s5 ⟨rfl,hs5⟩;subst s5);refine wp ?_
    refine ⟨_,Sub.refl _,?_⟩
    simp only;rw [if_pos h48]
    rw [if_pos hbad]
    exact ⟨_,_,rfl,hev _,hP3'.put c0 hn1 hn2 _ _⟩
   ·have hgood:=h
    repeat' ((first|exact pru|(refine brS (fun h=>?_) (fun h=>?_)<;>(try rw [h])<;>(try simp only [bS,↓reduceIte] at h))|(refine A4 hb3 ?_)|(refine A4 hP3'.pl ?_)|(rw [hw])|(refine A4 ((A2 hn2).trans hb23) ?_)|refine gS ?_|refine aA ?_|refine nA ?_|fail)<;>(conv=>whnf))
    refine ⟨_,Sub.refl _,?_⟩
    simp only;rw [if_pos h48]
    rw [if_neg (fun hh=>hh hgood)]
    exact ⟨rfl,(hP3'.next (q+1)).put c0 hn1 hn2 _ _⟩
  ·have h48:=h
   have hpt:=hpr ([]++p2) (by simp;omega)
   repeat' ((first|exact pru|(refine brS (fun h=>?_) (fun h=>?_)<;>(try rw [h])<;>(try simp only [bS,↓reduceIte] at h))|(refine A0.pure' ?_ (hpt);rintro _ rfl)|refine A8.pure ?_ (hpt)|refine gS ?_|refine aA ?_|refine nA ?_|fail)<;>(conv=>whnf))
   ·have hbad:=h
    refine wp ?_;(refine A0.by (hfl hP3' _) ?_;rintro _ s5 ⟨rfl,hs5⟩;subst s5);refine wp ?_
    refine ⟨_,Sub.refl _,?_⟩
    simp only;rw [if_neg h48];simp only [Bool.false_eq_true,if_false]
    rw [if_pos hbad]
    exact ⟨_,_,rfl,hev _,hP3'.put c0 hn1 hn2 _ _⟩
   ·have hgood:=h
    repeat' ((first|exact pru|(refine brS (fun h=>?_) (fun h=>?_)<;>(try rw [h])<;>(try simp only [bS,↓reduceIte] at h))|(refine A4 hb3 ?_)|(refine A4 hP3'.pl ?_)|(rw [hw])|(refine A4 ((A2 hn2).trans hb23) ?_)|refine gS ?_|refine aA ?_|refine nA ?_|fail)<;>(conv=>whnf))
    refine ⟨_,Sub.refl _,?_⟩
    simp only;rw [if_neg h48];simp only [Bool.false_eq_true,if_false]
    rw [if_neg (fun hh=>hh hgood)]
    exact ⟨rfl,(hP3'.next (q+1)).put c0 hn1 hn2 _ _⟩
 ·refine wp ?_;(refine A0.by (htk hP2) ?_;rintro _ s3 ⟨rfl,hP3⟩);refine wp ?_
  have hP3':=(hP3.drop c0).1
  have hb23:=(hP3.drop c0).2
  obtain ⟨t1,t2,hb3,_⟩:=hP3'.pr
  conv=>whnf
  repeat' ((first|exact pru|(refine brS (fun h=>?_) (fun h=>?_)<;>(try rw [h])<;>(try simp only [bS,↓reduceIte] at h))|(refine A4 hb3 ?_)|(refine A0.by (hpk hP3'.pl) ?_;rintro _ s4 ⟨rfl,hs4⟩;subst s4)|refine gS ?_|refine aA ?_|refine nA ?_|fail)<;>(conv=>whnf))
  ·have h48:=h
   have hpt:=hpr ([]++p2) (by simp;omega)
   repeat' ((first|exact pru|(refine brS (fun h=>?_) (fun h=>?_)<;>(try rw [h])<;>(try simp only [bS,↓reduceIte] at h))|(refine A0.pure' ?_ (hpt);rintro _ rfl)|refine A8.pure ?_ (hpt)|refine gS ?_|refine aA ?_|refine nA ?_|fail)<;>(conv=>whnf))
   ·have hbad:=h
    refine wp ?_;(refine A0.by (hfl hP3' _) ?_;rintro _ s5 ⟨rfl,hs5⟩;subst s5);refine wp ?_
    refine ⟨_,Sub.refl _,?_⟩
    simp only;rw [if_pos h48]
    rw [if_pos hbad]
    exact ⟨_,_,rfl,hev _,hP3'.put c0 hn1 hn2 _ _⟩
   ·have hgood:=h
    repeat' ((first|exact pru|(refine brS (fun h=>?_) (fun h=>?_)<;>(try rw [h])<;>(try simp only [bS,↓reduceIte] at h))|(refine A4 hb3 ?_)|(refine A4 hP3'.pl ?_)|(rw [hw])|(refine A4 ((A2 hn2).trans hb23) ?_)|refine gS ?_|refine aA ?_|refine nA ?_|fail)<;>(conv=>whnf))
    refine ⟨_,Sub.refl _,?_⟩
    simp only;rw [if_pos h48]
    rw [if_neg (fun hh=>hh hgood)]
    exact ⟨rfl,(hP3'.next (q+1)).put c0 hn1 hn2 _ _⟩
  ·have h48:=h
   have hpt:=hpr ([45]++p2) (by simp;omega)
   repeat' ((first|exact pru|(refine brS (fun h=>?_) (fun h=>?_)<;>(try rw [h])<;>(try simp only [bS,↓reduceIte] at h))|(refine A0.pure' ?_ (hpt);rintro _ rfl)|refine A8.pure ?_ (hpt)|refine gS ?_|refine aA ?_|refine nA ?_|fail)<;>(conv=>whnf))
   ·have hbad:=h
    refine wp ?_;(refine A0.by (hfl hP3' _) ?_;rintro _ s5 ⟨rfl,hs5⟩;subst s5);refine wp ?_
    refine ⟨_,Sub.refl _,?_⟩
    simp only;rw [if_neg h48];simp only [if_true]
    rw [if_pos hbad]
    exact ⟨_,_,rfl,hev _,hP3'.put c0 hn1 hn2 _ _⟩
   ·have hgood:=h
    repeat' ((first|exact pru|(refine brS (fun h=>?_) (fun h=>?_)<;>(try rw [h])<;>(try simp only [bS,↓reduceIte] at h))|(refine A4 hb3 ?_)|(refine A4 hP3'.pl ?_)|(rw [hw])|(refine A4 ((A2 hn2).trans hb23) ?_)|refine gS ?_|refine aA ?_|refine nA ?_|fail)<;>(conv=>whnf))
    refine ⟨_,Sub.refl _,?_⟩
    simp only;rw [if_neg h48];simp only [if_true]
    rw [if_neg (fun hh=>hh hgood)]
    exact ⟨rfl,(hP3'.next (q+1)).put c0 hn1 hn2 _ _⟩
end
end Go.Proofs.YticnkpgmmpenlaaGreatDoor.Pa
