/- What a region's operations leave, read anew in its midst. -/
import Derived.Test.YticnkpgmmpenlaaGreatDoorG3
set_option maxRecDepth 10000
set_option maxHeartbeats 60000000
set_option linter.all false
namespace Go.Ab
open Go
section
variable {P:Program} {Γ:Nat→AV} {n:Nat}
def A65 (P:Program) (Γ:Nat→AV) (n:Nat) (ops:Array Oper) (l:List Oper) (K:Env→Sto→Prop) (e':Env) (s':Sto):Prop :=
 ∀ G w a,Mod Γ G s' w→A1y G w n e' a→∃ e'' s'',Mod Γ G s'' w∧A1y G w n e'' a∧A3v P Γ ops l e'' s'' K
theorem C07 {ops:Array Oper} {Q:Exit→Env→Sto→Prop} {G0:Gh} {w0:World} (hok:ops.toList.all (A1r n)=true) {l2:List Oper}:∀ (l:List Oper) (i:Nat) {G:Gh} {w:World} {a:Act} {e:Env} {s:Sto},ops.toList.drop i=l++l2 →
  Ext G0 w0 G w→Mod Γ G s w→A1y G w n e a→A3v P Γ ops l e s (A65 P Γ n ops l2 fun e' s'=>Q .normal e' s')→wpOps P ops (A61 Γ n G0 w0 Q) (List.range' i (l++l2).length) a w
 | [],i,G,w,a,e,s,hd,X,hm,he,h=>by
  obtain ⟨e'',s'',h1,h2,h3⟩:=(show A65 P Γ n ops l2 _ e s from h) G w a hm he
  exact B5w hok l2 i hd X h1 h2 h3
 | o::l,i,G,w,a,e,s,hd,X,hm,he,h=>by
  have hlt:i < ops.toList.length:=by
   rcases Nat.lt_or_ge i ops.toList.length with hh|hh
   ·exact hh
   ·rw [List.drop_of_length_le hh] at hd;cases hd
  rw [List.drop_eq_getElem_cons hlt] at hd
  injection hd with ho hd
  have hoi:ops[i]?=some o:=by rw [← Array.getElem?_toList,List.getElem?_eq_getElem hlt,ho]
  have hoo:A1r n o=true:=List.all_eq_true.1 hok o (by rw [← ho];exact List.getElem_mem hlt)
  simp only [List.cons_append,List.length_cons,List.range'_succ,wpOps,hoi]
  replace h:T8 ops e o.guard (F3 P Γ (evA Γ e) s o.op fun v s'=>frc v fun v'=>A7y o.dst e v' fun e'=>A3v P Γ ops l e' s' (A65 P Γ n ops l2 fun e' s'=>Q .normal e' s')) (A7y o.dst e undefA fun e'=>A3v P Γ ops l e' s (A65 P Γ n ops l2 fun e' s'=>Q .normal e' s')):=h
  rcases A5v he h (B40 hok) with ⟨hw,h⟩|⟨hw,h⟩
  ·rw [if_pos hw]
   refine .inl (A7b hm he (A5l hoo) h ?_)
   intro v r s' G' w' hK hR hm' X'
   rw [K3,A2d] at hK
   exact C07 hok l (i+1) hd (X.trans X') hm' ((he.mono X').put (A0e hoo) hR) hK
  ·rw [if_neg (by rw [hw];simp)]
   rw [A2d] at h
   exact C07 hok l (i+1) hd X hm (he.put (A0e hoo) A5x) h
theorem AWp.regionS {id:Nat} {ops:Array Oper} {Q:Exit→Env→Sto→Prop} {e:Env} {s:Sto} (k:Nat) (hok:ops.toList.all (A1r n)=true)
  (h:A3v P Γ ops (ops.toList.take k) e s (A65 P Γ n ops (ops.toList.drop k) fun e' s'=>Q .normal e' s')):AWp P Γ n (.region id ops false) Q e s:=by
 refine ⟨fun G w a hm he=>?_⟩
 refine wp_region ?_
 have:=C07 (P:=P) (Γ:=Γ) (Q:=Q) (n:=n) hok (ops.toList.take k) 0 (List.take_append_drop k ops.toList).symm (Ext.refl _ _) hm he h
 rw [List.take_append_drop] at this
 rw [List.range_eq_range',← Array.length_toList]
 exact this
theorem A65.raw {ops:Array Oper} {l:List Oper} {K:Env→Sto→Prop} {e':Env} {s':Sto} (i:Nat) (hi:e' i=.slice 1 []) (h:∀ a,A3v P Γ ops l (upd e' i (.raw a 0 0)) s' K):A65 P Γ n ops l K e' s':=by
 intro G w act hm hE
 have hr:=hE.at_ i
 rw [hi] at hr
 obtain ⟨a,cap,hv,hc,_,_,h1⟩:=J7 hr
 have hc0:cap=0:=h1 rfl
 subst hc0
 refine ⟨upd e' i (.raw a 0 0),s',hm,⟨hE.size,fun j=>?_,hE.defers⟩,h a⟩
 unfold upd
 split
 ·rename_i hj
  subst hj
  exact A1t.2 (by simpa using hv)
 ·exact hE.at_ j
end
end Go.Ab
