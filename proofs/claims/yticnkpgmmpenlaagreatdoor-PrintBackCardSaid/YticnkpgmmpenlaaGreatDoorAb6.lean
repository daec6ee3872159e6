/- '==' of abstract values. -/
import Derived.Test.YticnkpgmmpenlaaGreatDoorAb5
set_option maxRecDepth 10000
set_option maxHeartbeats 60000000
set_option linter.all false
namespace Go.Ab
open Go
section
variable {P:Program} {Γ:Nat→AV} {G:Gh} {w:World}
theorem A27 {t:TypeId} {k:Nat} (h:A87 P t=some k):(k=0∧∃ i,P.underlying t=some (.int i))∨(k=1∧P.underlying t=some .string)∨(k=2∧P.underlying t=some .bool):=by
 unfold A87 at h
 split at h<;>first|(injection h with h;subst h;simp_all;done)|cases h
theorem V5 {t:TypeId} {n:Nat} (h:P6 P t=some n):(∃ d,P.underlying t=some d)∧∃ i,P.info? t=some i∧i.size=n:=by
 unfold P6 at h
 split at h
 ·rename_i hs
  obtain ⟨i,hi,h⟩:=Option.map_eq_some_iff.1 h
  exact ⟨Option.isSome_iff_exists.1 hs,i,hi,h⟩
 ·cases h
theorem C8r {d:Nat} {t:TypeId} {k:Nat} {x y:AV} {K:Bool→Prop} (ht:A87 P t=some k) (h:B42 k x y K) {u v:Value} (hx:R G w x u) (hy:R G w y v) :
  ∃ r,(Op.equalIn (d+1) t u v).run P w=.ok r w∧K r:=by
 cases x<;>cases y<;>try exact h.elim
 ·rename_i kk a kk' b
  obtain ⟨h0,hK⟩:=B4.1 h
  simp only [Bool.and_eq_true,decide_eq_true_eq] at h0
  obtain ⟨h0,hkk⟩:=h0
  subst h0 hkk
  rw [E9] at hx hy;subst hx hy
  rcases A27 ht with ⟨_,i,hi⟩|⟨h0,_⟩|⟨h0,_⟩
  ·refine ⟨_,run_equalIn_int w d t kk i a b hi,?_⟩
   rw [show (a == b)=decide (a=b) by rw [Bool.eq_iff_iff];simp];exact hK
  ·omega
  ·omega
 ·obtain ⟨hk,h⟩:=Q3 h
  subst hk
  rw [G9] at hx hy;subst hx hy
  rcases A27 ht with ⟨h0,_⟩|⟨h0,_⟩|⟨_,hi⟩
  ·omega
  ·omega
  ·exact ⟨_,run_equalIn_bool' w d t _ _ hi,h⟩
 ·rename_i a b
  obtain ⟨hk,h⟩:=Q3 h
  subst hk
  rw [H9] at hx hy;subst hx hy
  rcases A27 ht with ⟨h0,_⟩|⟨_,hi⟩|⟨h0,_⟩
  ·omega
  ·refine ⟨_,run_equalIn_string w d t _ _ hi,?_⟩
   rw [ByteArray.toList_mk,ByteArray.toList_mk,show (a == b)=decide (a=b) by rw [Bool.eq_iff_iff];simp];exact h
  ·omega
def below (n:Nat) (l:List (Nat × Nat)):Prop:=∀ x ∈ l,x.1 < n
theorem A7h:∀ {l:List (Nat × Nat)} {xs ys:List AV} {K K':Bool→Prop},X0 l xs ys K→(∀ r,K r→K' r)→X0 l xs ys K'
 | [],_,_,_,_,h,hk=>hk _ h
 | (o,k)::l,xs,ys,K,K',h,hk=>by
  simp only [X0] at h ⊢
  generalize xs.getD o undefA=x at h ⊢
  generalize ys.getD o undefA=y at h ⊢
  cases x<;>cases y<;>try exact h.elim
  all_goals exact B4.2 ⟨(B4.1 h).1,A7h (B4.1 h).2 fun r=>hk _⟩
theorem A85:∀ {l m:List (Nat × Nat)} {xs ys:List AV} {K:Bool→Prop},X0 (l++m) xs ys K→X0 l xs ys fun r=>X0 m xs ys fun q=>K (r && q)
 | [],m,xs,ys,K,h=>by simpa [X0] using h
 | (o,k)::l,m,xs,ys,K,h=>by
  simp only [X0,List.cons_append] at h ⊢
  generalize xs.getD o undefA=x at h ⊢
  generalize ys.getD o undefA=y at h ⊢
  cases x<;>cases y<;>try exact h.elim
  all_goals exact B4.2 ⟨(B4.1 h).1,A7h (A85 (B4.1 h).2) fun r hr=>A7h hr fun q hq=>by rw [Bool.and_assoc];exact hq⟩
theorem B0d:∀ {l:List (Nat × Nat)} {o n:Nat} {xs ys:List AV} {K:Bool→Prop},below n l→X0 (l.map fun x=>(o+x.1,x.2)) xs ys K→X0 l ((xs.drop o).take n) ((ys.drop o).take n) K
 | [],_,_,_,_,_,_,h=>h
 | (i,k)::l,o,n,xs,ys,K,hb,h=>by
  simp only [List.map_cons,X0] at h ⊢
  have hi:i < n:=hb (i,k) List.mem_cons_self
  have hx:∀ zs:List AV,((zs.drop o).take n).getD i undefA=zs.getD (o+i) undefA:=by
   intro zs
   simp [List.getD,hi,List.getElem?_drop]
  rw [hx,hx]
  generalize xs.getD (o+i) undefA=x at h ⊢
  generalize ys.getD (o+i) undefA=y at h ⊢
  have hb':below n l:=fun z hz=>hb z (List.mem_cons_of_mem _ hz)
  cases x<;>cases y<;>try exact h.elim
  all_goals exact B4.2 ⟨(B4.1 h).1,B0d hb' (B4.1 h).2⟩
theorem A4y {t:TypeId} {d:TypeDesc} (hu:P.underlying t=some d) (ha:A2s P t=false) {us:List Value} {o:Nat} {u:Value} (h:us[o]?=some u) :
  (part t us.toArray o).run P w=.ok u w:=by
 simp only [part,Sem.run_bind,A8r hu,ha,Result.andThen_ok,Bool.false_eq_true,if_false]
 simp [h]
theorem C1i {t:TypeId} {d:TypeDesc} {i:TypeInfo} (hu:P.underlying t=some d) (ha:A2s P t=true) (hi:P.info? t=some i) (us:List Value) (o:Nat) :
  (part t us.toArray o).run P w=.ok (.agg ((us.drop o).take i.size).toArray) w:=by
 simp only [part,Sem.run_bind,A8r hu,ha,Result.andThen_ok,if_true,F7 hi,Sem.run_pure]
 congr 2
 apply Array.ext'
 simp [List.extract_eq_take_drop]
theorem C24 {t:TypeId} {k:Nat} (h:A87 P t=some k):(∃ d,P.underlying t=some d)∧A2s P t=false:=by
 rcases A27 h with ⟨_,i,hi⟩|⟨_,hi⟩|⟨_,hi⟩<;>exact ⟨⟨_,hi⟩,by simp [A2s,hi]⟩
theorem C2g {k:Nat} {xs ys:List AV} {o:Nat} {K:Bool→Prop} (h:B42 k (xs.getD o undefA) (ys.getD o undefA) K) :
  (∃ x,xs[o]?=some x∧xs.getD o undefA=x)∧∃ y,ys[o]?=some y∧ys.getD o undefA=y:=by
 constructor
 ·cases hx:xs[o]? with
  | none=>simp [List.getD,hx,undefA,B42] at h
  | some x=>exact ⟨x,rfl,by simp [List.getD,hx]⟩
 ·cases hy:ys[o]? with
  | none =>
   simp only [List.getD,hy,undefA,Option.getD_none] at h
   cases hxx:xs[o]?.getD (AV.tuple [])<;>(rw [hxx] at h;exact h.elim)
  | some y=>exact ⟨y,rfl,by simp [List.getD,hy]⟩
theorem D6b:∀ (d:Nat) (t:TypeId) (l:List (Nat × Nat)) (xs ys:List AV) (us vs:List Value) (K:Bool→Prop),
  A2m P d t=some l→B6 G w xs us→B6 G w ys vs→X0 l xs ys K →
  ∃ r,(Op.equalIn (d+1) t (.agg us.toArray) (.agg vs.toArray)).run P w=.ok r w∧K r:=by
 intro d
 induction d with
 | zero=>intro t l xs ys us vs K h;cases h
 | succ d ih =>
  intro t l xs ys us vs K h hx hy hp
  unfold A2m at h
  split at h
  ·rename_i fs hu
   split at h
   ·cases h
   ·rename_i hst
    have hst:P.stoodInHeld t=false:=by simpa using hst
    have hf:P.fieldsOf t=fs:=by unfold Program.fieldsOf;rw [hu]
    rw [run_equalIn_struct w (d+1) t _ _ (by rw [hf];exact hu) hst,hf]
    generalize fs.toList=gs at h
    clear hf hu hst
    induction gs generalizing l K with
    | nil =>
     simp only [List.foldr_nil,Option.some.injEq] at h
     subst h
     exact ⟨true,rfl,hp⟩
    | cons f gs ihf =>
     rw [List.foldr_cons] at h
     split at h
     ·rename_i l' k h1 h2 h3
      split at h
      ·cases h
      ·rename_i hne
       injection h with h;subst h
       simp only [X0] at hp
       obtain ⟨⟨x,hx1,hx2⟩,y,hy1,hy2⟩:=C2g hp
       rw [hx2,hy2] at hp
       obtain ⟨u,hu1,hu2⟩:=A3g hx hx1
       obtain ⟨v,hv1,hv2⟩:=A3g hy hy1
       obtain ⟨⟨dd,hdd⟩,hna⟩:=C24 h2
       obtain ⟨r,hr,hk⟩:=C8r (d:=d) h2 hp hu2 hv2
       obtain ⟨q,hq,hkq⟩:=ihf l' _ hk h1
       refine ⟨r && q,?_,hkq⟩
       simp only [Op.eqFields]
       rw [if_pos hne]
       simp only [Sem.run_bind,A4y hdd hna hu1,A4y hdd hna hv1,Result.andThen_ok,hr]
       cases r
       ·simp
       ·simpa using hq
     ·rename_i l' n h1 h2 h3
      split at h
      ·rename_i m hm
       split at h
       ·cases h
       ·rename_i hne
        injection h with h;subst h
        simp only [Bool.or_eq_true,decide_eq_true_eq,Bool.not_eq_true',not_or,Bool.not_eq_false,List.any_eq_true,not_exists,not_and,Nat.not_le] at hne
        obtain ⟨⟨hne,hag⟩,hbl⟩:=hne
        obtain ⟨⟨dd,hdd⟩,i,hi,hsz⟩:=V5 h3
        have hp':=A85 hp
        have hp'':=B0d (n:=n) (fun x hx=>hbl x hx) hp'
        obtain ⟨r,hr,hk⟩:=ih f.type m _ _ ((us.drop f.offset).take n) ((vs.drop f.offset).take n) _ hm (V1 n (V0 f.offset hx)) (V1 n (V0 f.offset hy)) hp''
        obtain ⟨q,hq,hkq⟩:=ihf l' _ hk h1
        refine ⟨r && q,?_,hkq⟩
        simp only [Op.eqFields]
        rw [if_pos hne]
        simp only [Sem.run_bind,C1i hdd hag hi,Result.andThen_ok,hsz,hr]
        cases r
        ·simp
        ·simpa using hq
      ·cases h
     ·cases h
  ·cases h
theorem A19 {t:TypeId} {u v:Value} {r:Bool} (h:(Op.equalIn 10000 t u v).run P w=.ok r w) (hg:∀ op X Y,(eqGuard op t X Y u v).run P w=.ok () w)
  (h1:binOp .eql t u v=(do let b ← Op.equal t u v;pure (.bool b))) (h2:binOp .neq t u v=(do let b ← Op.equal t u v;pure (.bool (!b)))) :
  B1q P w .eql t u v (.bool r)∧B1q P w .neq t u v (.bool (!r)):=by
 refine ⟨⟨?_,hg _⟩,⟨?_,hg _⟩⟩
 ·unfold K8;rw [h1];simp [Op.equal,Op.maxDepth,h]
 ·unfold K8;rw [h2];simp [Op.equal,Op.maxDepth,h]
theorem B5h {t:TypeId} (h:B14 P t=true):∃ e,P.underlying t=some (.pointer e):=by
 unfold B14 at h
 split at h
 ·exact ⟨_,by assumption⟩
 ·cases h
theorem A9l {t:TypeId} (h:A1a P t=some true):∃ e,P.underlying t=some (.interface e):=by
 unfold A1a at h
 split at h
 ·exact ⟨_,by assumption⟩
 ·cases h
 ·cases h
theorem C3i {t:TypeId} (h:A1a P t=some false):∃ e,P.underlying t=some e∧∀ m,e≠.interface m:=by
 unfold A1a at h
 split at h
 ·cases h
 ·rename_i d hn hu
  exact ⟨_,hu,fun m hm=>hn m hm⟩
 ·cases h
theorem A38 (d:Nat) {t e:TypeId} (hu:P.underlying t=some (.pointer e)) (a:Option Addr):(Op.equalIn (d+1) t (.pointer a) (.pointer none)).run P w=.ok a.isNone w:=by
 cases a<;>simp [Op.equalIn,B7 hu]
theorem B1c (d:Nat) {t e:TypeId} (hu:P.underlying t=some (.pointer e)) (a:Option Addr):(Op.equalIn (d+1) t (.pointer none) (.pointer a)).run P w=.ok a.isNone w:=by
 cases a<;>simp [Op.equalIn,B7 hu]
theorem A81 (d:Nat) {t:TypeId} {ms:Array (String × TypeId)} (hu:P.underlying t=some (.interface ms)) (i:TypeId) (z:Value):(Op.equalIn (d+1) t .nilIface (.iface i z)).run P w=.ok false w:=by
 simp [Op.equalIn,B7 hu]
theorem A72 (d:Nat) {t:TypeId} {ms:Array (String × TypeId)} (hu:P.underlying t=some (.interface ms)) (i:TypeId) (z:Value):(Op.equalIn (d+1) t (.iface i z) .nilIface).run P w=.ok false w:=by
 simp [Op.equalIn,B7 hu]
theorem B6p (d:Nat) {t e:TypeId} (hu:P.underlying t=some (.slice e)) {a:Addr} {n c m k:Nat}:(Op.equalIn (d+1) t (.slice (some a) n c) (.slice none m k)).run P w=.ok false w:=by
 simp [Op.equalIn,B7 hu]
theorem B2e (d:Nat) {t:TypeId} {ms:Array (String × TypeId)} (hu:P.underlying t=some (.interface ms)):(Op.equalIn (d+1) t .nilIface .nilIface).run P w=.ok true w:=by
 simp [Op.equalIn,run_underlying hu]
theorem D0y {t:TypeId} {x y:AV} {K:Bool→Prop} (h:aeq P t x y K) {u v:Value} (hx:R G w x u) (hy:R G w y v) :
  ∃ r,K r∧B1q P w .eql t u v (.bool r)∧B1q P w .neq t u v (.bool (!r)):=by
 cases x<;>cases y<;>try exact h.elim
 case int.int k a k' b =>
  obtain ⟨hk,hK⟩:=Q3 h
  subst hk
  rw [E9] at hx hy;subst hx hy
  have bb:∀ x y:Int,(x == y)=decide (x=y):=fun x y=>by rw [Bool.eq_iff_iff];simp
  exact ⟨_,hK,⟨by simp [K8,binOp,Op.intCmp,bb],H7⟩,⟨by simp [K8,binOp,Op.intCmp,bb,bne],H7⟩⟩
 case str.str a b =>
  rw [H9] at hx hy;subst hx hy
  have bb:∀ x y:List UInt8,(x == y)=decide (x=y):=fun x y=>by rw [Bool.eq_iff_iff];simp
  exact ⟨_,h,⟨by simp [K8,binOp,Op.stringOp,ByteArray.toList_mk,bb],Y9⟩,⟨by simp [K8,binOp,Op.stringOp,ByteArray.toList_mk,bb],Y9⟩⟩
 case bool.bool a b =>
  obtain ⟨ht,h⟩:=B4.1 h
  have ht:=eq_of_beq ht
  rw [G9] at hx hy;subst hx hy
  have hu:P.underlying t=some .bool:=by
   rcases A27 ht with ⟨h0,_⟩|⟨h0,_⟩|⟨_,hi⟩
   ·omega
   ·omega
   ·exact hi
  exact ⟨_,h,A19 (run_equalIn_bool' w 9999 t a b hu) (fun op X Y=>by unfold eqGuard;cases op<;>rfl) rfl rfl⟩
 case ptr.ptr a b =>
  cases b with
  | some b=>cases a<;>exact h.elim
  | none =>
   have h:chk (B14 P t) (K a.isNone):=by cases a<;>exact h
   obtain ⟨ht,h⟩:=B4.1 h
   obtain ⟨e,hu⟩:=B5h ht
   rw [P4] at hx hy;subst hx hy
   exact ⟨_,h,A19 (A38 9999 hu a) (fun op X Y=>by unfold eqGuard;cases op<;>rfl) (by cases a<;>rfl) (by cases a<;>rfl)⟩
 case ptr.cptr a cs =>
  cases a with
  | some a=>exact h.elim
  | none =>
   obtain ⟨ht,h⟩:=B4.1 h
   obtain ⟨e,hu⟩:=B5h ht
   rw [P4] at hx;subst hx
   obtain ⟨b,o,rfl,_⟩:=N3.1 hy
   exact ⟨_,h,A19 (B1c 9999 hu _) (fun op X Y=>by unfold eqGuard;cases op<;>rfl) rfl rfl⟩
 case cptr.ptr cs a =>
  cases a with
  | some a=>exact h.elim
  | none =>
   obtain ⟨ht,h⟩:=B4.1 h
   obtain ⟨e,hu⟩:=B5h ht
   rw [P4] at hy;subst hy
   obtain ⟨b,o,rfl,_⟩:=N3.1 hx
   exact ⟨_,h,A19 (A38 9999 hu _) (fun op X Y=>by unfold eqGuard;cases op<;>rfl) rfl rfl⟩
 case nilIface.iface =>
  obtain ⟨ht,h⟩:=B4.1 h
  obtain ⟨e,hu⟩:=A9l (eq_of_beq ht)
  rw [R7] at hx;subst hx
  obtain ⟨z,rfl,_⟩:=Q2.1 hy
  exact ⟨_,h,A19 (A81 9999 hu _ _) (fun op X Y=>by unfold eqGuard;cases op<;>rfl) rfl rfl⟩
 case iface.nilIface =>
  obtain ⟨ht,h⟩:=B4.1 h
  obtain ⟨e,hu⟩:=A9l (eq_of_beq ht)
  rw [R7] at hy;subst hy
  obtain ⟨z,rfl,_⟩:=Q2.1 hx
  exact ⟨_,h,A19 (A72 9999 hu _ _) (fun op X Y=>by unfold eqGuard;cases op<;>rfl) rfl rfl⟩
 case agg.agg xs ys =>
  obtain ⟨h⟩:M5 P t xs ys K:=h
  obtain ⟨hg,h⟩:=B4.1 h
  have hg:P.eqGuardType P.depth t=false:=by simpa using hg
  obtain ⟨us,rfl,hus⟩:=A41.1 hx
  obtain ⟨vs,rfl,hvs⟩:=A41.1 hy
  cases hp:A2m P 9999 t with
  | none=>rw [hp] at h;exact h.elim
  | some l =>
   rw [hp] at h
   obtain ⟨r,hr,hk⟩:=D6b (w:=w) 9999 t l xs ys us.toList vs.toList K hp hus hvs h
   exact ⟨r,hk,A19 hr (fun op X Y=>run_eqGuard_agg w op t X Y us vs hg) rfl rfl⟩
end
end Go.Ab
