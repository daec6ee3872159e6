/- '==' of abstract values. -/
import Derived.Test.YtaammejliikieaaGreatDoorAb5
set_option maxRecDepth 10000
set_option maxHeartbeats 60000000
set_option linter.all false
namespace Go.Ab
open Go
section
variable {P:Program} {Γ:Nat→AV} {G:Gh} {w:World}
theorem Z8 {t:TypeId} {k:Nat} (h:A3x P t=some k):(k=0∧∃ i,P.underlying t=some (.int i))∨(k=1∧P.underlying t=some .string)∨(k=2∧P.underlying t=some .bool):=by
 unfold A3x at h
 split at h<;>first|(injection h with h;subst h;simp_all;done)|cases h
theorem Q9 {t:TypeId} {n:Nat} (h:J9 P t=some n):(∃ d,P.underlying t=some d)∧∃ i,P.info? t=some i∧i.size=n:=by
 unfold J9 at h
 split at h
 ·rename_i hs
  obtain ⟨i,hi,h⟩:=Option.map_eq_some_iff.1 h
  exact ⟨Option.isSome_iff_exists.1 hs,i,hi,h⟩
 ·cases h
theorem C1x {d:Nat} {t:TypeId} {k:Nat} {x y:AV} {K:Bool→Prop} (ht:A3x P t=some k) (h:B0g k x y K) {u v:Value} (hx:R G w x u) (hy:R G w y v) :
  ∃ r,(Op.equalIn (d+1) t u v).run P w=.ok r w∧K r:=by
 cases x<;>cases y<;>try exact h.elim
 ·rename_i kk a kk' b
  obtain ⟨h0,hK⟩:=B2.1 h
  simp only [Bool.and_eq_true,decide_eq_true_eq] at h0
  obtain ⟨h0,hkk⟩:=h0
  subst h0 hkk
  rw [F5] at hx hy;subst hx hy
  rcases Z8 ht with ⟨_,i,hi⟩|⟨h0,_⟩|⟨h0,_⟩
  ·refine ⟨_,run_equalIn_int w d t kk i a b hi,?_⟩
   rw [show (a == b)=decide (a=b) by rw [Bool.eq_iff_iff];simp];exact hK
  ·omega
  ·omega
 ·obtain ⟨hk,h⟩:=M0 h
  subst hk
  rw [F7] at hx hy;subst hx hy
  rcases Z8 ht with ⟨h0,_⟩|⟨h0,_⟩|⟨_,hi⟩
  ·omega
  ·omega
  ·exact ⟨_,run_equalIn_bool' w d t _ _ hi,h⟩
 ·rename_i a b
  obtain ⟨hk,h⟩:=M0 h
  subst hk
  rw [M3] at hx hy;subst hx hy
  rcases Z8 ht with ⟨h0,_⟩|⟨_,hi⟩|⟨h0,_⟩
  ·omega
  ·refine ⟨_,run_equalIn_string w d t _ _ hi,?_⟩
   rw [ByteArray.toList_mk,ByteArray.toList_mk,show (a == b)=decide (a=b) by rw [Bool.eq_iff_iff];simp];exact h
  ·omega
def below (n:Nat) (l:List (Nat × Nat)):Prop:=∀ x ∈ l,x.1 < n
theorem A3n:∀ {l:List (Nat × Nat)} {xs ys:List AV} {K K':Bool→Prop},U5 l xs ys K→(∀ r,K r→K' r)→U5 l xs ys K'
 | [],_,_,_,_,h,hk=>hk _ h
 | (o,k)::l,xs,ys,K,K',h,hk=>by
  simp only [U5] at h ⊢
  generalize xs.getD o undefA=x at h ⊢
  generalize ys.getD o undefA=y at h ⊢
  cases x<;>cases y<;>try exact h.elim
  all_goals exact B2.2 ⟨(B2.1 h).1,A3n (B2.1 h).2 fun r=>hk _⟩
theorem A44:∀ {l m:List (Nat × Nat)} {xs ys:List AV} {K:Bool→Prop},U5 (l++m) xs ys K→U5 l xs ys fun r=>U5 m xs ys fun q=>K (r && q)
 | [],m,xs,ys,K,h=>by simpa [U5] using h
 | (o,k)::l,m,xs,ys,K,h=>by
  simp only [U5,List.cons_append] at h ⊢
  generalize xs.getD o undefA=x at h ⊢
  generalize ys.getD o undefA=y at h ⊢
  cases x<;>cases y<;>try exact h.elim
  all_goals exact B2.2 ⟨(B2.1 h).1,A3n (A44 (B2.1 h).2) fun r hr=>A3n hr fun q hq=>by rw [Bool.and_assoc];exact hq⟩
theorem A6h:∀ {l:List (Nat × Nat)} {o n:Nat} {xs ys:List AV} {K:Bool→Prop},below n l→U5 (l.map fun x=>(o+x.1,x.2)) xs ys K→U5 l ((xs.drop o).take n) ((ys.drop o).take n) K
 | [],_,_,_,_,_,_,h=>h
 | (i,k)::l,o,n,xs,ys,K,hb,h=>by
  simp only [List.map_cons,U5] at h ⊢
  have hi:i < n:=hb (i,k) List.mem_cons_self
  have hx:∀ zs:List AV,((zs.drop o).take n).getD i undefA=zs.getD (o+i) undefA:=by
   intro zs
   simp [List.getD,hi,List.getElem?_drop]
  rw [hx,hx]
  generalize xs.getD (o+i) undefA=x at h ⊢
  generalize ys.getD (o+i) undefA=y at h ⊢
  have hb':below n l:=fun z hz=>hb z (List.mem_cons_of_mem _ hz)
  cases x<;>cases y<;>try exact h.elim
  all_goals exact B2.2 ⟨(B2.1 h).1,A6h hb' (B2.1 h).2⟩
theorem A1t {t:TypeId} {d:TypeDesc} (hu:P.underlying t=some d) (ha:A0g P t=false) {us:List Value} {o:Nat} {u:Value} (h:us[o]?=some u) :
  (part t us.toArray o).run P w=.ok u w:=by
 simp only [part,Sem.run_bind,A4r hu,ha,Result.andThen_ok,Bool.false_eq_true,if_false]
 simp [h]
theorem B5r {t:TypeId} {d:TypeDesc} {i:TypeInfo} (hu:P.underlying t=some d) (ha:A0g P t=true) (hi:P.info? t=some i) (us:List Value) (o:Nat) :
  (part t us.toArray o).run P w=.ok (.agg ((us.drop o).take i.size).toArray) w:=by
 simp only [part,Sem.run_bind,A4r hu,ha,Result.andThen_ok,if_true,F3 hi,Sem.run_pure]
 congr 2
 apply Array.ext'
 simp [List.extract_eq_take_drop]
theorem B63 {t:TypeId} {k:Nat} (h:A3x P t=some k):(∃ d,P.underlying t=some d)∧A0g P t=false:=by
 rcases Z8 h with ⟨_,i,hi⟩|⟨_,hi⟩|⟨_,hi⟩<;>exact ⟨⟨_,hi⟩,by simp [A0g,hi]⟩
theorem B6k {k:Nat} {xs ys:List AV} {o:Nat} {K:Bool→Prop} (h:B0g k (xs.getD o undefA) (ys.getD o undefA) K) :
  (∃ x,xs[o]?=some x∧xs.getD o undefA=x)∧∃ y,ys[o]?=some y∧ys.getD o undefA=y:=by
 constructor
 ·cases hx:xs[o]? with
  | none=>simp [List.getD,hx,undefA,B0g] at h
  | some x=>exact ⟨x,rfl,by simp [List.getD,hx]⟩
 ·cases hy:ys[o]? with
  | none =>
   simp only [List.getD,hy,undefA,Option.getD_none] at h
   cases hxx:xs[o]?.getD (AV.tuple [])<;>(rw [hxx] at h;exact h.elim)
  | some y=>exact ⟨y,rfl,by simp [List.getD,hy]⟩
theorem C71:∀ (d:Nat) (t:TypeId) (l:List (Nat × Nat)) (xs ys:List AV) (us vs:List Value) (K:Bool→Prop),
  A05 P d t=some l→B7 G w xs us→B7 G w ys vs→U5 l xs ys K →
  ∃ r,(Op.equalIn (d+1) t (.agg us.toArray) (.agg vs.toArray)).run P w=.ok r w∧K r:=by
 intro d
 induction d with
 | zero=>intro t l xs ys us vs K h;cases h
 | succ d ih =>
  intro t l xs ys us vs K h hx hy hp
  unfold A05 at h
  split at h
  ·rename_i fs hu
   split at h
   ·cases h
   ·rename_i hst
    have hst:P.stoodInHeld t=false:=by simpa using hst
    have hf:P.fieldsOf t=fs:=by unfold Program.fieldsOf;rw [hu]
    rw [run_equalIn_struct w (d+1) t _ _ (by rw [hf];exact hu) hst,hf]
    generalize fs.toList=gs at h
    clear hf hu hst
    induction gs generalizing l K with
    | nil =>
     simp only [List.foldr_nil,Option.some.injEq] at h
     subst h
     exact ⟨true,rfl,hp⟩
    | cons f gs ihf =>
     rw [List.foldr_cons] at h
     split at h
     ·rename_i l' k h1 h2 h3
      split at h
      ·cases h
      ·rename_i hne
       injection h with h;subst h
       simp only [U5] at hp
       obtain ⟨⟨x,hx1,hx2⟩,y,hy1,hy2⟩:=B6k hp
       rw [hx2,hy2] at hp
       obtain ⟨u,hu1,hu2⟩:=A0q hx hx1
       obtain ⟨v,hv1,hv2⟩:=A0q hy hy1
       obtain ⟨⟨dd,hdd⟩,hna⟩:=B63 h2
       obtain ⟨r,hr,hk⟩:=C1x (d:=d) h2 hp hu2 hv2
       obtain ⟨q,hq,hkq⟩:=ihf l' _ hk h1
       refine ⟨r && q,?_,hkq⟩
       simp only [Op.eqFields]
       rw [if_pos hne]
       simp only [Sem.run_bind,A1t hdd hna hu1,A1t hdd hna hv1,Result.andThen_ok,hr]
       cases r
       ·simp
       ·simpa using hq
     ·rename_i l' n h1 h2 h3
      split at h
      ·rename_i m hm
       split at h
       ·cases h
       ·rename_i hne
        injection h with h;subst h
        simp only [Bool.or_eq_true,decide_eq_true_eq,Bool.not_eq_true',not_or,Bool.not_eq_false,List.any_eq_true,not_exists,not_and,Nat.not_le] at hne
        obtain ⟨⟨hne,hag⟩,hbl⟩:=hne
        obtain ⟨⟨dd,hdd⟩,i,hi,hsz⟩:=Q9 h3
        have hp':=A44 hp
        have hp'':=A6h (n:=n) (fun x hx=>hbl x hx) hp'
        obtain ⟨r,hr,hk⟩:=ih f.type m _ _ ((us.drop f.offset).take n) ((vs.drop f.offset).take n) _ hm (Q3 n (Q2 f.offset hx)) (Q3 n (Q2 f.offset hy)) hp''
        obtain ⟨q,hq,hkq⟩:=ihf l' _ hk h1
        refine ⟨r && q,?_,hkq⟩
        simp only [Op.eqFields]
        rw [if_pos hne]
        simp only [Sem.run_bind,B5r hdd hag hi,Result.andThen_ok,hsz,hr]
        cases r
        ·simp
        ·simpa using hq
      ·cases h
     ·cases h
  ·cases h
theorem Z5 {t:TypeId} {u v:Value} {r:Bool} (h:(Op.equalIn 10000 t u v).run P w=.ok r w) (hg:∀ op X Y,(eqGuard op t X Y u v).run P w=.ok () w)
  (h1:binOp .eql t u v=(do let b ← Op.equal t u v;pure (.bool b))) (h2:binOp .neq t u v=(do let b ← Op.equal t u v;pure (.bool (!b)))) :
  A7q P w .eql t u v (.bool r)∧A7q P w .neq t u v (.bool (!r)):=by
 refine ⟨⟨?_,hg _⟩,⟨?_,hg _⟩⟩
 ·unfold J1;rw [h1];simp [Op.equal,Op.maxDepth,h]
 ·unfold J1;rw [h2];simp [Op.equal,Op.maxDepth,h]
theorem B01 {t:TypeId} (h:A78 P t=true):∃ e,P.underlying t=some (.pointer e):=by
 unfold A78 at h
 split at h
 ·exact ⟨_,by assumption⟩
 ·cases h
theorem A5m {t:TypeId} (h:Y0 P t=some true):∃ e,P.underlying t=some (.interface e):=by
 unfold Y0 at h
 split at h
 ·exact ⟨_,by assumption⟩
 ·cases h
 ·cases h
theorem B7a {t:TypeId} (h:Y0 P t=some false):∃ e,P.underlying t=some e∧∀ m,e≠.interface m:=by
 unfold Y0 at h
 split at h
 ·cases h
 ·rename_i d hn hu
  exact ⟨_,hu,fun m hm=>hn m hm⟩
 ·cases h
theorem A09 (d:Nat) {t e:TypeId} (hu:P.underlying t=some (.pointer e)) (a:Option Addr):(Op.equalIn (d+1) t (.pointer a) (.pointer none)).run P w=.ok a.isNone w:=by
 cases a<;>simp [Op.equalIn,B6 hu]
theorem A7e (d:Nat) {t e:TypeId} (hu:P.underlying t=some (.pointer e)) (a:Option Addr):(Op.equalIn (d+1) t (.pointer none) (.pointer a)).run P w=.ok a.isNone w:=by
 cases a<;>simp [Op.equalIn,B6 hu]
theorem A40 (d:Nat) {t:TypeId} {ms:Array (String × TypeId)} (hu:P.underlying t=some (.interface ms)) (i:TypeId) (z:Value):(Op.equalIn (d+1) t .nilIface (.iface i z)).run P w=.ok false w:=by
 simp [Op.equalIn,B6 hu]
theorem A35 (d:Nat) {t:TypeId} {ms:Array (String × TypeId)} (hu:P.underlying t=some (.interface ms)) (i:TypeId) (z:Value):(Op.equalIn (d+1) t (.iface i z) .nilIface).run P w=.ok false w:=by
 simp [Op.equalIn,B6 hu]
theorem B1m (d:Nat) {t e:TypeId} (hu:P.underlying t=some (.slice e)) {a:Addr} {n c m k:Nat}:(Op.equalIn (d+1) t (.slice (some a) n c) (.slice none m k)).run P w=.ok false w:=by
 simp [Op.equalIn,B6 hu]
theorem A8h (d:Nat) {t:TypeId} {ms:Array (String × TypeId)} (hu:P.underlying t=some (.interface ms)):(Op.equalIn (d+1) t .nilIface .nilIface).run P w=.ok true w:=by
 simp [Op.equalIn,run_underlying hu]
theorem C3u {t:TypeId} {x y:AV} {K:Bool→Prop} (h:aeq P t x y K) {u v:Value} (hx:R G w x u) (hy:R G w y v) :
  ∃ r,K r∧A7q P w .eql t u v (.bool r)∧A7q P w .neq t u v (.bool (!r)):=by
 cases x<;>cases y<;>try exact h.elim
 case int.int k a k' b =>
  obtain ⟨hk,hK⟩:=M0 h
  subst hk
  rw [F5] at hx hy;subst hx hy
  have bb:∀ x y:Int,(x == y)=decide (x=y):=fun x y=>by rw [Bool.eq_iff_iff];simp
  exact ⟨_,hK,⟨by simp [J1,binOp,Op.intCmp,bb],G7⟩,⟨by simp [J1,binOp,Op.intCmp,bb,bne],G7⟩⟩
 case str.str a b =>
  rw [M3] at hx hy;subst hx hy
  have bb:∀ x y:List UInt8,(x == y)=decide (x=y):=fun x y=>by rw [Bool.eq_iff_iff];simp
  exact ⟨_,h,⟨by simp [J1,binOp,Op.stringOp,ByteArray.toList_mk,bb],V1⟩,⟨by simp [J1,binOp,Op.stringOp,ByteArray.toList_mk,bb],V1⟩⟩
 case bool.bool a b =>
  obtain ⟨ht,h⟩:=B2.1 h
  have ht:=eq_of_beq ht
  rw [F7] at hx hy;subst hx hy
  have hu:P.underlying t=some .bool:=by
   rcases Z8 ht with ⟨h0,_⟩|⟨h0,_⟩|⟨_,hi⟩
   ·omega
   ·omega
   ·exact hi
  exact ⟨_,h,Z5 (run_equalIn_bool' w 9999 t a b hu) (fun op X Y=>by unfold eqGuard;cases op<;>rfl) rfl rfl⟩
 case ptr.ptr a b =>
  cases b with
  | some b=>cases a<;>exact h.elim
  | none =>
   have h:chk (A78 P t) (K a.isNone):=by cases a<;>exact h
   obtain ⟨ht,h⟩:=B2.1 h
   obtain ⟨e,hu⟩:=B01 ht
   rw [N8] at hx hy;subst hx hy
   exact ⟨_,h,Z5 (A09 9999 hu a) (fun op X Y=>by unfold eqGuard;cases op<;>rfl) (by cases a<;>rfl) (by cases a<;>rfl)⟩
 case ptr.cptr a cs =>
  cases a with
  | some a=>exact h.elim
  | none =>
   obtain ⟨ht,h⟩:=B2.1 h
   obtain ⟨e,hu⟩:=B01 ht
   rw [N8] at hx;subst hx
   obtain ⟨b,o,rfl,_⟩:=M4.1 hy
   exact ⟨_,h,Z5 (A7e 9999 hu _) (fun op X Y=>by unfold eqGuard;cases op<;>rfl) rfl rfl⟩
 case cptr.ptr cs a =>
  cases a with
  | some a=>exact h.elim
  | none =>
   obtain ⟨ht,h⟩:=B2.1 h
   obtain ⟨e,hu⟩:=B01 ht
   rw [N8] at hy;subst hy
   obtain ⟨b,o,rfl,_⟩:=M4.1 hx
   exact ⟨_,h,Z5 (A09 9999 hu _) (fun op X Y=>by unfold eqGuard;cases op<;>rfl) rfl rfl⟩
 case nilIface.iface =>
  obtain ⟨ht,h⟩:=B2.1 h
  obtain ⟨e,hu⟩:=A5m (eq_of_beq ht)
  rw [L6] at hx;subst hx
  obtain ⟨z,rfl,_⟩:=M9.1 hy
  exact ⟨_,h,Z5 (A40 9999 hu _ _) (fun op X Y=>by unfold eqGuard;cases op<;>rfl) rfl rfl⟩
 case iface.nilIface =>
  obtain ⟨ht,h⟩:=B2.1 h
  obtain ⟨e,hu⟩:=A5m (eq_of_beq ht)
  rw [L6] at hy;subst hy
  obtain ⟨z,rfl,_⟩:=M9.1 hx
  exact ⟨_,h,Z5 (A35 9999 hu _ _) (fun op X Y=>by unfold eqGuard;cases op<;>rfl) rfl rfl⟩
 case agg.agg xs ys =>
  obtain ⟨h⟩:P9 P t xs ys K:=h
  obtain ⟨hg,h⟩:=B2.1 h
  have hg:P.eqGuardType P.depth t=false:=by simpa using hg
  obtain ⟨us,rfl,hus⟩:=A1x.1 hx
  obtain ⟨vs,rfl,hvs⟩:=A1x.1 hy
  cases hp:A05 P 9999 t with
  | none=>rw [hp] at h;exact h.elim
  | some l =>
   rw [hp] at h
   obtain ⟨r,hr,hk⟩:=C71 (w:=w) 9999 t l xs ys us.toList vs.toList K hp hus hvs h
   exact ⟨r,hk,Z5 hr (fun op X Y=>run_eqGuard_agg w op t X Y us vs hg) rfl rfl⟩
end
end Go.Ab
