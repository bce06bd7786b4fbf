import Derived.Test.YtcondihilccdpaaDoorVEt
namespace Go.Proofs.VE
open Go
section
variable {cf:Cfg} {π:Nm} {ops:Array Oper} {st0:St} {fps:List FP}
theorem hasN_iff (l:List Nat) (i:Nat):hasN l i=true ↔ i ∈ l:=by
 unfold hasN
 rw [List.any_eq_true]
 constructor
 ·rintro ⟨x,hx,h⟩;rw [Nat.eq_of_beq_eq_true h];exact hx
 ·intro h;exact ⟨i,h,Nat.beq_refl i⟩
theorem hasM_iff (l:List Nm) (n:Nm):hasM l n=true ↔ n ∈ l:=by
 unfold hasM
 rw [List.any_eq_true]
 constructor
 ·rintro ⟨x,hx,h⟩;rw [(nmEq_iff _ _).1 h];exact hx
 ·intro h;exact ⟨n,h,nmEq_refl n⟩
theorem apart_spec {x y:FP} (h:apartF π ops x y=true):(¬ inA x.i y.anc→¬ inA y.i x.anc→(∀ t,y.o.dst=some t→t ∉ x.o.looksAt ops∧x.o.dst ≠ some t)∧∀ z ∈ y.wr.hs,z.1 ∉ x.rn∧∀ z' ∈ x.wr.hs,z'.1 ≠ z.1) ∧
  (¬ inA x.i y.anc→creates x.o=true→∀ d,x.o.dst=some d→cleanW (d :: π) y.wr=true):=by
 unfold apartF at h
 rw [Bool.and_eq_true] at h
 obtain ⟨h1,h2⟩:=h
 refine ⟨fun n1 n2=>?_,fun n1 hc d hd=>?_⟩
 ·simp only [Bool.or_eq_true,Bool.and_eq_true,List.all_eq_true,Bool.not_eq_true'] at h1
  rcases h1 with (h1|h1)|h1
  ·exact absurd h1 n2
  ·exact absurd h1 n1
  ·refine ⟨fun t ht=>?_,fun z hz=>?_⟩
   ·have:=h1.1 t (by rw [ht];simp)
    refine ⟨fun hm=>?_,fun e=>?_⟩
    ·rw [(hasN_iff _ _).2 hm] at this;cases this.1
    ·rw [(hasN_iff x.o.dst.toList t).2 (by rw [e];simp)] at this;cases this.2
   ·have:=h1.2 z hz
    refine ⟨fun hm=>?_,fun z' hz' e=>?_⟩
    ·rw [(hasM_iff _ _).2 hm] at this;cases this.1
    ·have:=this.2 z' hz'
     rw [e,nmEq_refl] at this
     cases this
 ·simp only [Bool.or_eq_true,Bool.not_eq_true',List.all_eq_true] at h2
  rcases h2 with (h2|h2)|h2
  ·exact absurd h2 n1
  ·rw [hc] at h2;cases h2
  ·exact h2 d (by rw [hd];simp)
structure Known1 (cf:Cfg) (π:Nm) (ops:Array Oper) (st0:St) (fps:List FP):Prop where
 sorted:Sorted st0
 line:Line fps
 turn:∀ A fp B,fps=A++fp :: B→Turn cf π ops (fold A st0) fp
 apart:∀ x ∈ fps,∀ y ∈ fps,x.i ≠ y.i→apartF π ops x y=true
 clean:∀ x ∈ fps,creates x.o=true→∀ d,x.o.dst=some d→cleanS (d :: π) st0=true
def after (fps:List FP) (st0:St) (S:Nat→Bool):St:=fold (fps.filter fun y=>S y.i) st0
theorem turn_es {st:St} {fp:FP} (h:Turn cf π ops st fp):∀ x ∈ fp.wr.es,fp.o.dst=some x.1:=by
 rcases h.go with ⟨_,h,_⟩|⟨_,h,_⟩
 ·exact val_es h
 ·rw [h]
  intro x hx
  unfold toD at hx
  simp only at hx
  split at hx
  ·rename_i d hd;simp only [List.mem_singleton] at hx;rw [hd,hx]
  ·simp at hx
theorem step_lemma (hk:Known1 cf π ops st0 fps) {S:Nat→Bool} (hS:Closed fps S) {A B:List FP} {fp:FP} (hf:fps=A++fp :: B) (hn:S fp.i=false) (hp:∀ e ∈ fp.o.after,Region.binds .any e=true→S e.on=true) :
  Turn cf π ops (after fps st0 S) fp∧after fps st0 (fun x=>S x || Nat.beq x fp.i)=fp.wr.on (after fps st0 S):=by
 obtain ⟨dA,dB⟩:=hk.line.distinct hf
 have hfm:fp ∈ fps:=by rw [hf];simp
 have mA:∀ y ∈ A,y ∈ fps:=fun y hy=>by rw [hf];simp [hy]
 have mB:∀ y ∈ B,y ∈ fps:=fun y hy=>by rw [hf];simp [hy]
 have before:=hk.line.anc_before A.length A fp B rfl hf
 have inS:=hk.line.anc_in hS A.length A fp B rfl hf hp
 have notAnc:∀ y ∈ A,¬ inA fp.i y.anc:=fun y hy hm=>by
  obtain ⟨A1,A2,rfl⟩:=mem_split hy
  obtain ⟨z,hz,hzi⟩:=hk.line.anc_before A1.length A1 y (A2++fp :: B) rfl (by rw [hf];simp) _ hm
  exact dA z (List.mem_append_left _ hz) hzi
 have unA:∀ y ∈ A,S y.i=false→¬ inA y.i fp.anc:=fun y _ hs hm=>by rw [inS _ hm] at hs;cases hs
 have notAncB:∀ y ∈ B,S y.i=true→¬ inA fp.i y.anc:=fun y hy hs hm=>by
  obtain ⟨B1,B2,hB⟩:=mem_split hy
  have:=hk.line.anc_in hS (A++fp :: B1).length (A++fp :: B1) y B2 rfl (by rw [hf,hB];simp) (hS y (mB y hy) hs) _ hm
  rw [this] at hn
  cases hn
 have unB:∀ y ∈ B,¬ inA y.i fp.anc:=fun y hy hm=>by
  obtain ⟨z,hz,hzi⟩:=before _ hm
  obtain ⟨B1,B2,rfl⟩:=mem_split hy
  exact (hk.line.distinct (A:=A++fp :: B1) (fp:=y) (B:=B2) (by rw [hf];simp)).1 z (List.mem_append_left _ hz) hzi
 have filt:fps.filter (fun y=>S y.i)=A.filter (fun y=>S y.i)++B.filter (fun y=>S y.i):=by
  rw [hf,List.filter_append,List.filter_cons,if_neg (by rw [hn];simp)]
 have disj:∀ y,y ∈ fps→y.i ≠ fp.i→¬ inA fp.i y.anc→¬ inA y.i fp.anc→(∀ t,y.o.dst=some t→t ∉ fp.o.looksAt ops∧fp.o.dst ≠ some t)∧∀ z ∈ y.wr.hs,z.1 ∉ fp.rn∧∀ z' ∈ fp.wr.hs,z'.1 ≠ z.1 :=
  fun y hy hne h1 h2=>(apart_spec (hk.apart fp hfm y hy (fun e=>hne e.symm))).1 h1 h2
 have esy:∀ y ∈ fps,∀ x ∈ y.wr.es,y.o.dst=some x.1:=fun y hy=>by
  obtain ⟨Y1,Y2,hY⟩:=mem_split hy
  exact turn_es (hk.turn Y1 y Y2 hY)
 have dA':∀ y ∈ A,S y.i=false→(∀ t,y.o.dst=some t→t ∉ fp.o.looksAt ops∧fp.o.dst ≠ some t)∧∀ z ∈ y.wr.hs,z.1 ∉ fp.rn∧∀ z' ∈ fp.wr.hs,z'.1 ≠ z.1 :=
  fun y hy hs=>disj y (mA y hy) (dA y hy) (notAnc y hy) (unA y hy hs)
 have dB':∀ y ∈ B,S y.i=true→(∀ t,y.o.dst=some t→t ∉ fp.o.looksAt ops∧fp.o.dst ≠ some t)∧∀ z ∈ y.wr.hs,z.1 ∉ fp.rn∧∀ z' ∈ fp.wr.hs,z'.1 ≠ z.1 :=
  fun y hy hs=>disj y (mB y hy) (dB y hy) (notAncB y hy hs) (unB y hy)
 have fB:∀ y ∈ B.filter (fun y=>S y.i),y ∈ B∧S y.i=true:=fun y hy=>List.mem_filter.1 hy
 have fnil:∀ l:List FP,l.filter (fun _=>false)=[]:=fun l=>by simp
 have sameT:∀ t ∈ fp.o.looksAt ops,getE (after fps st0 S).env t=getE (fold A st0).env t:=fun t ht=>by
  rw [getE_lk,getE_lk]
  congr 1
  unfold after
  rw [filt,fold_append]
  have e1:=fold_lk t (fun _=>false) (B.filter fun y=>S y.i) (fold (A.filter fun y=>S y.i) st0) (fold (A.filter fun y=>S y.i) st0) (fun y hy _ x hx e=>by
   obtain ⟨g1,g2⟩:=fB y hy
   exact ((dB' y g1 g2).1 x.1 (esy y (mB y g1) x hx)).1 (e ▸ ht)) rfl
  rw [fnil] at e1
  refine e1.trans ?_
  refine (fold_lk t (fun y=>S y.i) A st0 st0 (fun y hy hs x hx e=>?_) rfl).symm
  exact ((dA' y hy hs).1 x.1 (esy y (mA y hy) x hx)).1 (e ▸ ht)
 have sameN:∀ n ∈ fp.rn,getH (after fps st0 S).heap n=getH (fold A st0).heap n:=fun n hn'=>by
  unfold after
  rw [filt,fold_append]
  have e1:=fold_getH n (fun _=>false) (B.filter fun y=>S y.i) (fold (A.filter fun y=>S y.i) st0) (fold (A.filter fun y=>S y.i) st0) (fun y hy _ x hx e=>by
   obtain ⟨g1,g2⟩:=fB y hy
   exact ((dB' y g1 g2).2 x hx).1 (e ▸ hn')) rfl
  rw [fnil] at e1
  refine e1.trans ?_
  refine (fold_getH n (fun y=>S y.i) A st0 st0 (fun y hy hs x hx e=>?_) rfl).symm
  exact ((dA' y hy hs).2 x hx).1 (e ▸ hn')
 have hcl:creates fp.o=true→∀ d,fp.o.dst=some d→cleanS (d :: π) (after fps st0 S)=true∧cleanS (d :: π) (fold A st0)=true:=fun hc d hd=>by
  have c0:=hk.clean fp hfm hc d hd
  have cy:∀ y ∈ fps,y.i ≠ fp.i→¬ inA fp.i y.anc→cleanW (d :: π) y.wr=true:=fun y hy hne h1=>(apart_spec (hk.apart fp hfm y hy (fun e=>hne e.symm))).2 h1 hc d hd
  refine ⟨clean_fold _ _ c0 fun y hy=>?_,clean_fold _ _ c0 fun y hy=>cy y (mA y hy) (dA y hy) (notAnc y hy)⟩
  rw [filt] at hy
  rcases List.mem_append.1 hy with hy|hy
  ·have:=(List.mem_filter.1 hy).1
   exact cy y (mA y this) (dA y this) (notAnc y this)
  ·obtain ⟨g1,g2⟩:=fB y hy
   exact cy y (mB y g1) (dB y g1) (notAncB y g1 g2)
 have hturn:=hk.turn A fp B hf
 have hguard:∀ j want t,fp.o.guard=some (j,want)→(ops[j]?).bind (·.dst)=some t→getE (after fps st0 S).env t=getE (fold A st0).env t:=fun j want t hg ht =>
  sameT t (by unfold Oper.looksAt;rw [hg];simp only [ht];exact List.mem_append_right _ (by simp))
 refine ⟨⟨hturn.op,?_⟩,?_⟩
 ·rcases hturn.go with ⟨g1,g2,g3⟩|⟨g1,g2,g3⟩
  ·have hw:wrA cf π (after fps st0 S) fp.o=wrA cf π (fold A st0) fp.o:=wr_local sameT (fun n hn=>sameN n (by rw [g3];exact hn)) hcl
   refine .inl ⟨?_,hw.trans g2,?_⟩
   ·rcases g1 with g1|⟨j,want,t,g4,g5,g6⟩
    ·exact .inl g1
    ·exact .inr ⟨j,want,t,g4,g5,(hguard j want t g4 g5).trans g6⟩
   ·rw [g3]
    unfold readsN
    have ho:∀ x ∈ fp.o.op.operands.toList,opA (fold A st0).env x=opA (after fps st0 S).env x:=fun x hx=>by
     cases x with
     | tmp t=>exact (sameT t (by unfold Oper.looksAt;exact List.mem_append_left _ (List.mem_filterMap.2 ⟨.tmp t,hx,rfl⟩))).symm
     | _=>rfl
    have:(fp.o.op.operands.toList.flatMap fun x=>namesV (opA (fold A st0).env x))=fp.o.op.operands.toList.flatMap fun x=>namesV (opA (after fps st0 S).env x):=by
     have gen:∀ (l:List Operand),(∀ x ∈ l,opA (fold A st0).env x=opA (after fps st0 S).env x)→(l.flatMap fun x=>namesV (opA (fold A st0).env x))=l.flatMap fun x=>namesV (opA (after fps st0 S).env x):=by
      intro l
      induction l with
      | nil=>intro _;rfl
      | cons x l ih=>intro h;simp only [List.flatMap_cons,h x List.mem_cons_self,ih fun y hy=>h y (List.mem_cons_of_mem _ hy)]
     exact gen _ ho
    have hbox:∀ (l:List Nm),(∀ n ∈ l,getH (after fps st0 S).heap n=getH (fold A st0).heap n)→l.flatMap (boxN (fold A st0).heap)=l.flatMap (boxN (after fps st0 S).heap):=fun l h=>flat_congrN l fun n hn=>(boxN_congr (h n hn)).symm
    have hsub:∀ c,fp.o.op = .call c→∀ n ∈ (fp.o.op.operands.toList.flatMap fun x=>namesV (opA (fold A st0).env x)),n ∈ readsN (fold A st0) fp.o:=fun c hc n hn=>by
     unfold readsN
     rw [hc]
     rw [hc] at hn
     exact List.mem_append_left _ hn
    split <;> first
     | exact this
     | rfl
     | (
       rename_i hop
       rw [this,hbox _ fun n hn=>sameN n (by rw [g3];exact hsub _ hop n (by rw [this];exact hn))])
  ·refine .inr ⟨?_,g2,g3⟩
   obtain ⟨j,want,t,g4,g5,g6⟩:=g1
   refine ⟨j,want,t,g4,g5,?_⟩
   rw [hguard j want t g4 g5]
   exact g6
 ·have filt':fps.filter (fun y=>S y.i || Nat.beq y.i fp.i)=A.filter (fun y=>S y.i)++fp :: B.filter (fun y=>S y.i):=by
   have same:∀ l:List FP,(∀ y ∈ l,y.i ≠ fp.i)→l.filter (fun y=>S y.i || Nat.beq y.i fp.i)=l.filter fun y=>S y.i:=fun l hl =>
    List.filter_congr fun y hy=>by
     have:Nat.beq y.i fp.i=false:=by
      cases e:Nat.beq y.i fp.i with
      | false=>rfl
      | true=>exact absurd (Nat.eq_of_beq_eq_true e) (hl y hy)
     simp [this]
   rw [hf,List.filter_append,List.filter_cons,if_pos (by simp),same A dA,same B dB]
  unfold after
  rw [filt',filt,fold_append,fold_append]
  show fold (B.filter fun y=>S y.i) (fp.wr.on (fold (A.filter fun y=>S y.i) st0))=_
  refine fold_comm _ (fold_sorted _ hk.sorted) fun y hy=>?_
  obtain ⟨g1,g2⟩:=fB y hy
  refine ⟨fun p hp q hq e=>?_,fun p hp q hq e=>((dB' y g1 g2).2 q hq).2 p hp e⟩
  have h1:=turn_es hturn p hp
  have h2:=esy y (mB y g1) q hq
  exact ((dB' y g1 g2).1 q.1 h2).2 (by rw [h1,e])
theorem any_sound [Glob] {nt:Nat} {k:St→Option AV} {r:AV} {Q:Exit→Act→World→Prop} {C0:Ctx} (hF:FOK cf.P cf) (hd:∀ o ∈ ops.toList,∀ d,o.dst=some d→d<nt) (hk1:Known1 cf π ops st0 fps)
  (hall:∀ i,i<ops.size→∃ fp ∈ fps,fp.i=i) (hkk:k (fold fps st0)=some r) (hk:∀ st' C' a' w',k st'=some r→Sim C' nt st' a' w'→Agree (isLoc π) C0 C'→Q .normal a' w') :
  ∀ (fuel:Nat) (listed:Array Bool) (C:Ctx) (a:Act) (w:World),listed.size=ops.size→Closed fps (fun i=>listed.getD i false)→(fps.filter fun y => !listed.getD y.i false).length≤fuel →
   Sim C nt (after fps st0 fun i=>listed.getD i false) a w→Agree (isLoc π) C0 C→wpAny cf.P .any ops Q fuel listed a w:=by
 have done:∀ (listed:Array Bool) (C:Ctx) (a:Act) (w:World),(fps.filter fun y => !listed.getD y.i false)=[]→Sim C nt (after fps st0 fun i=>listed.getD i false) a w→Agree (isLoc π) C0 C→Q .normal a w:=by
  intro listed C a w h0 hs hag
  have:fps.filter (fun y=>listed.getD y.i false)=fps:=List.filter_eq_self.2 fun y hy=>by
   have:=List.filter_eq_nil_iff.1 h0 y hy
   simpa using this
  unfold after at hs
  rw [this] at hs
  exact hk _ C a w hkk hs hag
 have lt:∀ fp ∈ fps,fp.i<ops.size:=fun fp hfp=>by
  obtain ⟨A,B,hAB⟩:=mem_split hfp
  exact (Array.getElem?_eq_some_iff.1 (hk1.turn A fp B hAB).op).1
 have some_ready:∀ (listed:Array Bool),listed.size=ops.size→Region.ready .any ops listed=[]→(fps.filter fun y => !listed.getD y.i false)=[]:=by
  intro listed hsz hr
  rw [List.filter_eq_nil_iff]
  have key:∀ (n:Nat) (A:List FP) (fp:FP) (B:List FP),A.length=n→fps=A++fp :: B→listed.getD fp.i false=true:=by
   intro n
   induction n using Nat.strongRecOn with
   | _ n ih =>
    intro A fp B hn hf
    cases hl:listed.getD fp.i false with
    | true=>rfl
    | false =>
     have hlt:=lt fp (by rw [hf];simp)
     have:fp.i ∈ Region.ready .any ops listed:=by
      rw [mem_ready]
      refine ⟨?_,fp.o,(hk1.turn A fp B hf).op,fun e he hb=>?_⟩
      ·have h2:fp.i<listed.size:=by omega
       simp only [Array.getD_eq_getD_getElem?,Array.getElem?_eq_getElem h2,Option.getD_some] at hl ⊢
       exact hl
      ·obtain ⟨p,hp,hpe⟩:=(turnOK_spec (hk1.line.at_ A fp B hf).1).2 e he hb
       have hp:=List.mem_reverse.1 hp
       obtain ⟨A1,A2,rfl⟩:=mem_split hp
       rw [← hpe]
       exact ih A1.length (by rw [← hn,List.length_append,List.length_cons];omega) A1 p (A2++fp :: B) rfl (by rw [hf];simp)
     rw [hr] at this
     simp at this
  intro y hy
  obtain ⟨A,B,hAB⟩:=mem_split hy
  simp [key A.length A y B rfl hAB]
 intro fuel
 induction fuel with
 | zero =>
  intro listed C a w hsz hcl hlen hs hag
  have h0:(fps.filter fun y => !listed.getD y.i false)=[]:=List.eq_nil_of_length_eq_zero (by omega)
  refine ⟨?_,done listed C a w h0 hs hag⟩
  cases hr:Region.ready .any ops listed with
  | nil=>rfl
  | cons i l =>
   have hi:i ∈ Region.ready .any ops listed:=by rw [hr];simp
   rw [mem_ready] at hi
   obtain ⟨h1,o,ho,_⟩:=hi
   have hlt:i<ops.size:=(Array.getElem?_eq_some_iff.1 ho).1
   obtain ⟨fp,hfp,rfl⟩:=hall i hlt
   have:=List.filter_eq_nil_iff.1 h0 fp hfp
   have h2:fp.i<listed.size:=by omega
   simp only [Array.getD_eq_getD_getElem?,Array.getElem?_eq_getElem h2,Option.getD_some] at h1 this
   rw [h1] at this
   simp at this
 | succ fuel ih =>
  intro listed C a w hsz hcl hlen hs hag
  refine ⟨fun hr=>done listed C a w (some_ready listed hsz hr) hs hag,fun i hi=>?_⟩
  rw [mem_ready] at hi
  obtain ⟨h1,o,ho,hpre⟩:=hi
  have hlt:i<ops.size:=(Array.getElem?_eq_some_iff.1 ho).1
  obtain ⟨fp,hfp,rfl⟩:=hall i hlt
  obtain ⟨A,B,hAB⟩:=mem_split hfp
  have hop:=(hk1.turn A fp B hAB).op
  rw [hop] at ho
  obtain rfl:=Option.some.inj ho
  have h2:fp.i<listed.size:=by omega
  have hn:listed.getD fp.i false=false:=by
   simp only [Array.getD_eq_getD_getElem?,Array.getElem?_eq_getElem h2,Option.getD_some] at h1 ⊢
   exact h1
  obtain ⟨hturn,hnext⟩:=step_lemma hk1 hcl hAB hn hpre
  have hset:∀ j,(listed.setIfInBounds fp.i true).getD j false=(listed.getD j false || Nat.beq j fp.i):=fun j=>by
   by_cases e:fp.i=j
   ·subst e
    simp [h2]
   ·have:Nat.beq j fp.i=false:=by
     cases hb:Nat.beq j fp.i with
     | false=>rfl
     | true=>exact absurd (Nat.eq_of_beq_eq_true hb).symm e
    rw [getD_set_ne false e,this,Bool.or_false]
  have hset':(fun j=>(listed.setIfInBounds fp.i true).getD j false)=fun j=>listed.getD j false || Nat.beq j fp.i:=funext hset
  have go:∀ (C1:Ctx) (a1:Act) (w1:World),Sim C1 nt (fp.wr.on (after fps st0 fun i=>listed.getD i false)) a1 w1→Agree (isLoc π) C C1→wpAny cf.P .any ops Q fuel (listed.setIfInBounds fp.i true) a1 w1:=by
   intro C1 a1 w1 hs1 hag1
   refine ih _ C1 a1 w1 (by simp [hsz]) ?_ ?_ ?_ (hag.trans hag1)
   ·intro p hp hpS e he hb
    simp only [hset] at hpS ⊢
    rw [Bool.or_eq_true] at hpS ⊢
    rcases hpS with hpS|hpS
    ·exact .inl (hcl p hp hpS e he hb)
    ·have hpi:=Nat.eq_of_beq_eq_true hpS
     have:p=fp:=by
      rw [hAB] at hp
      rcases List.mem_append.1 hp with h|h
      ·exact absurd hpi ((hk1.line.distinct hAB).1 p h)
      ·rcases List.mem_cons.1 h with h|h
       ·exact h
       ·exact absurd hpi ((hk1.line.distinct hAB).2 p h)
     subst this
     exact .inl (hpre e he hb)
   ·have e1:(fps.filter fun y => !(listed.setIfInBounds fp.i true).getD y.i false)=(fps.filter fun y => !listed.getD y.i false).filter fun y => !Nat.beq y.i fp.i:=by
     rw [List.filter_filter]
     refine List.filter_congr fun y _=>?_
     rw [hset,Bool.not_or,Bool.and_comm]
    rw [e1]
    have:((fps.filter fun y => !listed.getD y.i false).filter fun y => !Nat.beq y.i fp.i).length<(fps.filter fun y => !listed.getD y.i false).length:=by
     rw [List.length_filter_lt_length_iff_exists]
     exact ⟨fp,List.mem_filter.2 ⟨hfp,by simp [hn]⟩,by simp⟩
    omega
   ·rw [hset',hnext]
    exact hs1
  have hdd:∀ d,fp.o.dst=some d→d<nt:=hd fp.o (by
   rw [Array.mem_toList_iff]
   exact Array.mem_of_getElem? hop)
  unfold wpOp
  rw [hop]
  simp only
  rcases hturn.go with ⟨g1,g2,_⟩|⟨g1,g2,_⟩
  ·have hw:Region.wanted fp.o (yielded ops a.tmps)=true:=by
    unfold Region.wanted
    rcases g1 with g1|⟨j,want,t,g4,g5,g6⟩
    ·rw [g1]
    ·rw [g4]
     simp only
     rw [((yielded_of hs g5 g6).1 want rfl).1]
     simp
   rw [if_pos hw]
   exact .inl (wr_sound rfl hF hdd hs g2 fun C1 a1 w1 hs1 hag1=>go C1 a1 w1 hs1 hag1)
  ·have hw:Region.wanted fp.o (yielded ops a.tmps)=false:=by
    obtain ⟨j,want,t,g4,g5,g6⟩:=g1
    unfold Region.wanted
    rw [g4]
    simp only
    rcases g6 with g6|g6
    ·rw [((yielded_of hs g5 g6).1 _ rfl).1]
     cases want <;> rfl
    ·rw [(yielded_of hs g5 g6).2 rfl]
     rfl
   rw [if_neg (by rw [hw];simp)]
   refine go C _ w ?_ (Agree.refl _ _)
   have hput:=hs.puts (d:=fp.o.dst) (.tup [] [] rfl (fun i c v h=>by simp at h)) hdd
   rw [g2]
   cases hdst:fp.o.dst with
   | none=>rw [hdst] at hput;exact hput
   | some d=>rw [hdst] at hput;exact hput
theorem lin_len (md:Region.Mode) (ops:Array Oper):∀ (fuel t:Nat) (listed:Array Bool) (acc:List Nat),(Region.linearise.go md ops fuel t listed acc).length≤fuel+acc.length:=by
 intro fuel
 induction fuel with
 | zero=>intro t listed acc;simp [Region.linearise.go]
 | succ fuel ih =>
  intro t listed acc
  simp only [Region.linearise.go]
  split
  ·rename_i i _
   refine Nat.le_trans (ih _ _ (i :: acc)) ?_
   simp only [List.length_cons]
   omega
  ·simp only [List.length_reverse]
   omega
theorem draw_ok [Glob] (hF:FOK cf.P cf) (hm:cf.P.follows .mixedOrders=true):DrawOK cf:=by
 intro π nt ops st k r C a w Q id h hs hd hk
 unfold drawA at h
 cases hc:sortedE st.env && sortedH st.heap && ops.toList.all (fun o => !creates o || o.dst.toList.all fun d=>cleanS (d :: π) st) && (List.range ops.size).all (hasN (Region.linearise .any ops 0)) with
 | false=>rw [hc] at h;simp at h
 | true =>
  rw [hc] at h
  simp only [cond_true] at h
  simp only [Bool.and_eq_true,List.all_eq_true,Bool.or_eq_true,Bool.not_eq_true'] at hc
  obtain ⟨⟨⟨c1,c2⟩,c3⟩,c4⟩:=hc
  have hsorted:Sorted st:=⟨sortedE_spec _ c1,sortedH_spec _ c2⟩
  obtain ⟨fps,st',hch,hdraw,hkk⟩:=opsT_chain _ _ _ hsorted h
  obtain ⟨f1,f2,f3⟩:=hch.facts
  rw [List.append_nil] at hdraw
  have hk1:Known1 cf π ops st fps:=by
   refine ⟨hsorted,⟨fun A fp B hf=>?_⟩,fun A fp B hf=>(f3 A fp B hf).1,fun x hx y hy hne=>?_,fun x hx hcr d hdx=>?_⟩
   ·have:=(f3 A fp B hf).2
    rw [List.append_nil] at this
    exact this
   ·unfold drawOK at hdraw
    rw [List.all_eq_true] at hdraw
    have:=(List.all_eq_true.1 (hdraw x (List.mem_reverse.2 hx))) y (List.mem_reverse.2 hy)
    rw [Bool.or_eq_true] at this
    rcases this with h|h
    ·exact absurd (Nat.eq_of_beq_eq_true h) hne
    ·exact h
   ·obtain ⟨A,B,hAB⟩:=mem_split hx
    have hop:=(f3 A x B hAB).1.op
    have hmem:x.o ∈ ops.toList:=by rw [Array.mem_toList_iff];exact Array.mem_of_getElem? hop
    rcases c3 x.o hmem with h|h
    ·rw [hcr] at h;cases h
    ·exact h d (by rw [hdx];simp)
  refine wp_region_any hm ?_
  have hs':Sim C nt st a { w with drawn:=w.drawn+1 }:=hs.withH (hs.toHSim.world (r:=none) ⟨rfl,rfl,rfl,Nat.le_refl _,fun _ _ _=>rfl⟩ fun k hk=>by cases hk) hs.env
  have hnone:∀ i,(Array.replicate ops.size false).getD i false=false:=fun i=>by
   simp only [Array.getD_eq_getD_getElem?,Array.getElem?_replicate]
   split <;> rfl
  have hS:(fun i=>(Array.replicate ops.size false).getD i false)=fun _=>false:=funext hnone
  refine any_sound (C0:=C) hF hd hk1 (fun i hi=>?_) (by rw [← f2];exact hkk) hk ops.size _ C a _ (by simp) ?_ ?_ ?_ (Agree.refl _ _)
  ·have:=c4 i (List.mem_range.2 hi)
   rw [hasN_iff,← f1] at this
   obtain ⟨fp,hfp,e⟩:=List.mem_map.1 this
   exact ⟨fp,hfp,e⟩
  ·intro p hp hpS
   simp only [hnone] at hpS
   cases hpS
  ·refine Nat.le_trans (List.length_filter_le _ _) ?_
   have h1:fps.length=(Region.linearise .any ops 0).length:=by rw [← f1,List.length_map]
   rw [h1]
   exact lin_len .any ops ops.size 0 _ []
  ·have:after fps st (fun i=>(Array.replicate ops.size false).getD i false)=st:=by
    unfold after
    rw [List.filter_eq_nil_iff.2 (fun y _=>by show ¬ (Array.replicate ops.size false).getD y.i false=true;rw [hnone];simp)]
    rfl
   rw [this]
   exact hs'
end
end Go.Proofs.VE
