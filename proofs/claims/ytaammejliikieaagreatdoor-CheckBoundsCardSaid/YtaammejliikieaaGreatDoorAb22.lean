/- The shelf's contracts, said of abstract values: a call that turns nothing of what is there. -/
import Derived.Below
import Derived.Lib.LaidTab
import Derived.Test.YtaammejliikieaaGreatDoorAb21
set_option maxRecDepth 10000
set_option maxHeartbeats 60000000
set_option linter.all false
namespace Go.Ab
open Go Go.RowKit
theorem Mod.below {Γ:Nat→AV} {G:Gh} {s:Sto} {w w':World} (hm:Mod Γ G s w) (h:Below w.heap.size w w'):Mod Γ G s w'∧Ext G w G w':=by
 have X:Ext G w G w':=Ext.of_same hm h.os h.tape h.output h.size (fun _ _=>rfl) (fun _ _=>rfl) fun b hb _=>h.block b hb
 refine ⟨⟨fun g=>(hm.glob g).mono X,?_,?_,?_,?_,hm.fin,fun c es hc=>(hm.mp c es hc).mono X rfl (h.block c (hm.mp c es hc).lt)⟩,X⟩
 ·intro b T cs hb
  obtain ⟨h1,vs,h2,h3⟩:=hm.box b T cs hb
  exact ⟨h1,vs,(h.block b (A2n hm hb)).trans h2,h3.mono X _ _⟩
 ·intro b hb
  exact Nat.lt_of_lt_of_le (hm.dom b hb) h.size
 ·intro t e k ht
  obtain ⟨h0,h1,b,h2⟩:=hm.live t e k ht
  have hb:b < w.heap.size:=by
   obtain ⟨_,_,_,_,_,h3,_⟩:=h2
   exact hm.dom b (by rw [h3];simp)
  exact ⟨h0,h1,b,h2.mono rfl rfl (h.block b hb)⟩
 ·intro t u b e k e' k' ht hu h1 h2
  have hb:b < w.heap.size:=by
   obtain ⟨_,_,_,_,_,h3,_⟩:=h1
   exact hm.dom b (by rw [h3];simp)
  have hh:=h.block b hb
  exact hm.apart t u b e k e' k' ht hu (h1.mono rfl rfl hh.symm) (h2.mono rfl rfl hh.symm)
theorem A2.of_below {P:Program} {Γ:Nat→AV} {f:FuncId} {args:List AV} {s:Sto} {av:AV}
  (h:∀ G w vs,Mod Γ G s w→B7 G w args vs→∃ v,(∀ G' w',R G' w' av v)∧Calls P f vs.toArray w fun e w'=>e=.returned v∧Below w.heap.size w w') :
  A2 P Γ f args s fun v s'=>v=av∧s'=s:=by
 refine ⟨fun G w vs hm hr=>?_⟩
 obtain ⟨v,hv,hc⟩:=h G w vs hm hr
 refine hc.mono ?_
 rintro e w' ⟨rfl,hb⟩
 obtain ⟨m1,m2⟩:=hm.below hb
 exact ⟨v,av,s,G,rfl,⟨rfl,rfl⟩,hv G w',m1,m2⟩
theorem A0u {P:Program} {W:World} {x:String × DataW Unit} {rest:List (String × DataW Unit)} {ps:List MemPlace} (h:DataW.LaidVars P W (x::rest) ps):∃ qs,DataW.LaidVars P W rest qs:=by
 obtain ⟨n,d⟩:=x
 obtain ⟨_,_,_,_,_,q,_,_,_,_,hr,_⟩:=h
 exact ⟨q,hr⟩
end Go.Ab
