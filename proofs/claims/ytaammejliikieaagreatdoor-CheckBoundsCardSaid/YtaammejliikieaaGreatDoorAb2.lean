/- The abstract store; what a call does said of abstract values; the rules of control. -/
import Derived.Scope
import Derived.Test.YtaammejliikieaaGreatDoorAb1
set_option maxRecDepth 10000
set_option maxHeartbeats 60000000
set_option linter.all false
namespace Go.Ab
open Go
structure Sto where
 bx:Nat→Option (TypeId × List AV)
 lv:Nat→TypeId→Nat→Prop
 mp:Nat→Option (List (List UInt8 × AV))
 fin:∃ N,∀ b,N≤b→bx b=none
theorem Sto.fresh (s:Sto):∃ b,s.bx b=none:=s.fin.elim fun N h=>⟨N,h N (Nat.le_refl N)⟩
def Top (G:Gh) (w:World) (t b:Nat) (e:TypeId) (k:Nat):Prop :=
 ∃ len cap c,G.tk t=.slice (some ⟨b,0,none⟩) len cap∧len≤cap∧G.kd b=.row (len * k) ∧
  w.heap[b]?=some (.cells c e (0,0))∧c.size=cap * k
def A0z (G:Gh) (w:World) (g:Nat):AV→Prop
 | .cptr cs=>G.kd g=.fixd∧(∃ c T fr,w.heap[g]?=some (.cells c T fr)∧c.size=cs.length)∧R G w (.cptr cs) (.pointer (some ⟨g,0,none⟩))
 | a=>R G w a (.pointer (some ⟨g,0,none⟩))
theorem A0z.r {G:Gh} {w:World} {g:Nat} {a:AV} (h:A0z G w g a):R G w a (.pointer (some ⟨g,0,none⟩)):=by
 cases a with
 | cptr cs=>exact h.2.2
 | _=>exact h
theorem A0z.mono {G G':Gh} {w w':World} {g:Nat} {a:AV} (h:A0z G w g a) (X:Ext G w G' w'):A0z G' w' g a:=by
 cases a with
 | cptr cs =>
  obtain ⟨h1,⟨c,T,fr,h2,h3⟩,h4⟩:=h
  obtain ⟨k1,k2⟩:=X.fixd g h1
  exact ⟨k1,⟨c,T,fr,k2.trans h2,h3⟩,h4.mono X _ _⟩
 | _=>exact R.mono X _ _ h
def D00 (G:Gh) (w:World) (es:List (List UInt8 × AV)) (ents:Array MapEntry):Prop :=
 ents.toList.map (·.key)=es.map (fun x=>Value.string ⟨x.1.toArray⟩)∧B7 G w (es.map (·.2)) (ents.toList.map (·.val))
def A50 (G:Gh) (w:World) (b:Nat) (es:List (List UInt8 × AV)):Prop:=G.kd b=.free∧∃ ents c,w.heap[b]?=some (.map ents c)∧D00 G w es ents
theorem A50.lt {G:Gh} {w:World} {b:Nat} {es:List (List UInt8 × AV)} (h:A50 G w b es):b < w.heap.size:=by
 obtain ⟨_,ents,c,h,_⟩:=h
 exact (Array.getElem?_eq_some_iff.1 h).1
theorem A50.mono {G G':Gh} {w w':World} {b:Nat} {es:List (List UInt8 × AV)} (h:A50 G w b es) (X:Ext G w G' w') (hk:G'.kd b=G.kd b) (hh:w'.heap[b]?=w.heap[b]?):A50 G' w' b es:=by
 obtain ⟨h1,ents,c,h2,h3,h4⟩:=h
 exact ⟨hk.trans h1,ents,c,hh.trans h2,h3,h4.mono X _ _⟩
structure Mod (Γ:Nat→AV) (G:Gh) (s:Sto) (w:World):Prop where
 glob:∀ g,A0z G w g (Γ g)
 box:∀ b T cs,s.bx b=some (T,cs)→G.kd b=.free∧∃ vs:List Value,w.heap[b]?=some (.cells vs.toArray T (0,0))∧B7 G w cs vs
 dom:∀ b,G.kd b≠.free→b < w.heap.size
 live:∀ t e k,s.lv t e k→t≠0∧t≠1∧∃ b,Top G w t b e k
 apart:∀ t u b e k e' k',s.lv t e k→s.lv u e' k'→Top G w t b e k→Top G w u b e' k'→t=u
 fin:∃ N,∀ t,N≤t→G.tk t=.nilFunc
 mp:∀ b es,s.mp b=some es→A50 G w b es
structure A2 (P:Program) (Γ:Nat→AV) (f:FuncId) (args:List AV) (s:Sto) (φ:AV→Sto→Prop):Prop where
 run:∀ G w vs,Mod Γ G s w→B7 G w args vs →
  Calls P f vs.toArray w fun e w'=>∃ v av s' G',e=.returned v∧φ av s'∧R G' w' av v∧Mod Γ G' s' w'∧Ext G w G' w'
def A8 (P:Program) (Γ:Nat→AV) (f:FuncId) (args:List AV) (φ:AV→Prop):Prop :=
 ∀ s,A2 P Γ f args s fun v s'=>φ v∧s'=s
theorem A2.mono {P:Program} {Γ:Nat→AV} {f:FuncId} {args:List AV} {s:Sto} {φ ψ:AV→Sto→Prop} (h:A2 P Γ f args s φ)
  (hi:∀ v s',φ v s'→ψ v s'):A2 P Γ f args s ψ:=⟨fun G w vs hm hr =>
 (h.run G w vs hm hr).mono fun _ _ ⟨v,av,s',G',he,hφ,r⟩=>⟨v,av,s',G',he,hi _ _ hφ,r⟩⟩
abbrev Env:=Nat→AV
def undefA:AV:=.tuple []
def upd (e:Env) (d:Nat) (v:AV):Env:=fun i=>if i=d then v else e i
def D7 (e:Env):Option Nat→AV→Env
 | some d,v=>upd e d v
 | none,_=>e
structure Y6 (G:Gh) (w:World) (n:Nat) (e:Env) (a:Act):Prop where
 size:a.tmps.size=n
 at_:∀ i,R G w (e i) (a.tmps.getD i undef)
 defers:a.defers=[]
theorem Y6.mono {G G':Gh} {w w':World} {n:Nat} {e:Env} {a:Act} (h:Y6 G w n e a) (X:Ext G w G' w'):Y6 G' w' n e a :=
 ⟨h.size,fun i=>(h.at_ i).mono X _ _,h.defers⟩
theorem Y6.put {G:Gh} {w:World} {n:Nat} {e:Env} {a:Act} (h:Y6 G w n e a) {d:Option Nat} (hd:∀ i,d=some i→i < n) {x:AV} {v:Value} (hx:R G w x v) :
  Y6 G w n (D7 e d x) (a.put d v):=by
 cases d with
 | none=>exact h
 | some d =>
  have hd:=hd d rfl
  refine ⟨by simp [Act.put,h.size],fun i=>?_,h.defers⟩
  simp only [D7,upd,Act.put]
  by_cases hi:i=d
  ·subst hi
   simp only [if_pos]
   have:(a.tmps.setIfInBounds i v).getD i undef=v:=by
    simp [Array.getD,h.size,hd]
   rw [this];exact hx
  ·rw [if_neg hi]
   have:(a.tmps.setIfInBounds d v).getD i undef=a.tmps.getD i undef:=by
    simp only [Array.getD_eq_getD_getElem?,Array.getElem?_setIfInBounds]
    rw [if_neg (by omega)]
   rw [this];exact h.at_ i
structure AWp (P:Program) (Γ:Nat→AV) (n:Nat) (c:Code) (Q:Exit→Env→Sto→Prop) (e:Env) (s:Sto):Prop where
 run:∀ G w a,Mod Γ G s w→Y6 G w n e a →
  c.wp P (fun x a' w'=>∃ e' s' G',Q x e' s'∧Mod Γ G' s' w'∧Y6 G' w' n e' a'∧Ext G w G' w') a w
section rules
variable {P:Program} {Γ:Nat→AV} {n:Nat} {Q:Exit→Env→Sto→Prop} {e:Env} {s:Sto}
theorem AWp.mono {c:Code} {Q':Exit→Env→Sto→Prop} (h:AWp P Γ n c Q e s) (hq:∀ x e s,Q x e s→Q' x e s):AWp P Γ n c Q' e s :=
 ⟨fun G w a hm he=>Code.wp_mono (fun _ _ _ ⟨e',s',G',q,r⟩=>⟨e',s',G',hq _ _ _ q,r⟩) (h.run G w a hm he)⟩
theorem AWp.skip (h:Q .normal e s):AWp P Γ n .skip Q e s:=⟨fun G _ _ hm he=>wp_skip ⟨e,s,G,h,hm,he,Ext.refl _ _⟩⟩
theorem AWp.ret (h:Q .ret e s):AWp P Γ n .ret Q e s:=⟨fun G _ _ hm he=>wp_ret ⟨e,s,G,h,hm,he,Ext.refl _ _⟩⟩
theorem AWp.exit {id:Nat} (h:Q (.exit id) e s):AWp P Γ n (.exit id) Q e s:=⟨fun G _ _ hm he=>wp_exit ⟨e,s,G,h,hm,he,Ext.refl _ _⟩⟩
def C00 (next:Env→Sto→Prop) (Q:Exit→Env→Sto→Prop):Exit→Env→Sto→Prop
 | .normal,e,s=>next e s
 | x,e,s=>Q x e s
theorem AWp.seq {c d:Code} (h:AWp P Γ n c (C00 (AWp P Γ n d Q) Q) e s):AWp P Γ n (.seq c d) Q e s:=by
 refine ⟨fun G w a hm he=>?_⟩
 refine wp_seq (Code.wp_mono ?_ (h.run G w a hm he))
 rintro x a' w' ⟨e',s',G',q,hm',he',X⟩
 cases x with
 | normal =>
  refine Code.wp_mono ?_ (q.run G' w' a' hm' he')
  rintro x a'' w'' ⟨e'',s'',G'',q',hm'',he'',X'⟩
  exact ⟨e'',s'',G'',q',hm'',he'',X.trans X'⟩
 | _=>exact ⟨e',s',G',q,hm',he',X⟩
def B8l (id:Nat) (Q:Exit→Env→Sto→Prop):Exit→Env→Sto→Prop
 | .exit i,e,s=>if i=id then Q .normal e s else Q (.exit i) e s
 | x,e,s=>Q x e s
theorem AWp.block {id:Nat} {c:Code} (h:AWp P Γ n c (B8l id Q) e s):AWp P Γ n (.block id c) Q e s:=by
 refine ⟨fun G w a hm he=>?_⟩
 refine wp_block (Code.wp_mono ?_ (h.run G w a hm he))
 rintro x a' w' ⟨e',s',G',q,hm',he',X⟩
 cases x with
 | exit i =>
  simp only [B8l] at q
  simp only [Exit.inBlock]
  split
  ·rename_i hi;rw [if_pos hi] at q;exact ⟨e',s',G',q,hm',he',X⟩
  ·rename_i hi;rw [if_neg hi] at q;exact ⟨e',s',G',q,hm',he',X⟩
 | _=>exact ⟨e',s',G',q,hm',he',X⟩
def C5u (Q:Exit→Env→Sto→Prop):Exit→Env→Sto→Prop
 | .goto _,_,_=>False
 | x,e,s=>Q x e s
theorem AWp.scope {c:Code} (h:AWp P Γ n c (C5u Q) e s):AWp P Γ n (.scope c) Q e s:=by
 refine ⟨fun G w a hm he=>?_⟩
 refine wp_scope_straight (Code.wp_mono ?_ (h.run G w a hm he))
 rintro x a' w' ⟨e',s',G',q,hm',he',X⟩
 cases x with
 | goto l=>exact q.elim
 | _=>exact ⟨e',s',G',q,hm',he',X⟩
theorem AWp.label {l:Nat} (h:Q .normal e s):AWp P Γ n (.label l) Q e s:=⟨fun G _ _ hm he=>wp_label ⟨e,s,G,h,hm,he,Ext.refl _ _⟩⟩
end rules
end Go.Ab
