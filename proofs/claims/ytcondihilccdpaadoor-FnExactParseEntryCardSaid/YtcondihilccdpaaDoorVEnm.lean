import Derived.Test.YtcondihilccdpaaDoorVEn
namespace Go.Proofs.VE
open Go
theorem canL_get {f:AV→Option AV}:∀ {xs ys:List AV},canL f xs=some ys→ys.length=xs.length∧∀ (i:Nat) (y:AV),ys[i]?=some y→∃ x,xs[i]?=some x∧f x=some y
 | [],ys,h=>by
  simp only [canL,Option.some.injEq] at h
  subst h
  exact ⟨rfl,fun i y h=>by simp at h⟩
 | x :: xs,ys,h=>by
  simp only [canL] at h
  split at h
  ·rename_i y ys' h1 h2
   obtain rfl:=Option.some.inj h
   obtain ⟨g1,g2⟩:=canL_get h2
   refine ⟨by simp [g1],fun i y' hy=>?_⟩
   cases i with
   | zero=>simp at hy;subst hy;exact ⟨x,rfl,h1⟩
   | succ i=>exact g2 i y' (by simpa using hy)
  ·cases h
theorem getAll_get {heap:List (Nm × Blk)}:∀ {ns:List Nm} {bs:List Blk},getAll heap ns=some bs→bs.length=ns.length∧∀ (i:Nat) (n:Nm),ns[i]?=some n→∃ b,bs[i]?=some b∧getH heap n=some b
 | [],bs,h=>by
  simp only [getAll,Option.some.injEq] at h
  subst h
  exact ⟨rfl,fun i y h=>by simp at h⟩
 | n :: ns,bs,h=>by
  simp only [getAll] at h
  split at h
  ·rename_i b bs' h1 h2
   obtain rfl:=Option.some.inj h
   obtain ⟨g1,g2⟩:=getAll_get h2
   refine ⟨by simp [g1],fun i n' hn=>?_⟩
   cases i with
   | zero=>simp at hn;subst hn;exact ⟨b,rfl,h1⟩
   | succ i=>exact g2 i n' (by simpa using hn)
  ·cases h
theorem dedupN_nodup:∀ {l acc:List Nm},acc.Nodup→(dedupN acc l).Nodup
 | [],acc,h=>h
 | n :: r,acc,h=>by
  simp only [dedupN]
  cases hc:acc.any (nmEq n) with
  | true=>simp only [cond_true];exact dedupN_nodup h
  | false =>
   simp only [cond_false]
   refine dedupN_nodup (List.nodup_append.2 ⟨h,by simp,fun a ha b hb=>?_⟩)
   simp only [List.mem_singleton] at hb
   subst hb
   intro e
   subst e
   rw [List.any_eq_false] at hc
   exact hc a ha ((nmEq_iff a a).2 rfl)
theorem findN_can {m c:Nm}:∀ {ns:List Nm} {k:Nat},findN (canN k ns) m=some c→∃ j,ns[j]?=some m∧c=[k+j]
 | [],k,h=>by simp [canN,findN] at h
 | n :: r,k,h=>by
  simp only [canN,findN] at h
  cases hc:nmEq n m with
  | true =>
   rw [hc] at h
   simp only [cond_true,Option.some.injEq] at h
   obtain rfl:=(nmEq_iff _ _).1 hc
   exact ⟨0,rfl,h.symm⟩
  | false =>
   rw [hc] at h
   obtain ⟨j,h1,h2⟩:=findN_can (k:=k+1) h
   exact ⟨j+1,by simpa using h1,by rw [h2];congr 1;omega⟩
theorem getH_can {b:Blk} {nm:Nm}:∀ {bs:List Blk} {k:Nat},getH (canH k bs) nm=some b→∃ j,nm=[k+j]∧bs[j]?=some b
 | [],k,h=>by simp [canH,getH] at h
 | b' :: r,k,h=>by
  simp only [canH,getH] at h
  cases hc:nmEq [k] nm with
  | true =>
   rw [hc] at h
   simp only [cond_true,Option.some.injEq] at h
   obtain rfl:=(nmEq_iff _ _).1 hc
   exact ⟨0,rfl,by rw [← h];rfl⟩
  | false =>
   rw [hc] at h
   obtain ⟨j,h1,h2⟩:=getH_can (k:=k+1) h
   exact ⟨j+1,by rw [h1];congr 1;omega,by simpa using h2⟩
theorem getH_canH {b:Blk}:∀ {bs:List Blk} {k j:Nat},bs[j]?=some b→getH (canH k bs) [k+j]=some b
 | [],k,j,h=>by simp at h
 | b' :: r,k,0,h=>by
  simp at h
  subst h
  simp only [canH,getH]
  rw [(nmEq_iff [k] [k+0]).2 rfl]
  rfl
 | b' :: r,k,j+1,h=>by
  simp only [canH,getH]
  have:nmEq [k] [k+(j+1)]=false:=by
   cases hc:nmEq [k] [k+(j+1)] with
   | false=>rfl
   | true =>
    have:=(nmEq_iff _ _).1 hc
    simp at this
  rw [this]
  have e:=getH_canH (bs:=r) (k:=k+1) (j:=j) (by simpa using h)
  rw [show [k+(j+1)]=[k+1+j] by congr 1;omega]
  exact e
theorem zip_get {nm:Nm}:∀ {ns:List Nm} {bs:List Blk} {heap:List (Nm × Blk)},ns.Nodup→bs.length=ns.length →
  (
   (∃ (j:Nat) (b:Blk),ns[j]?=some nm∧bs[j]?=some b∧getH ((ns.zip (bs.map some)).foldl (fun h x=>match x.2 with|some b=>setH h x.1 b|none=>delH h x.1) heap) nm=some b) ∨
   (nm ∉ ns∧getH ((ns.zip (bs.map some)).foldl (fun h x=>match x.2 with|some b=>setH h x.1 b|none=>delH h x.1) heap) nm=getH heap nm))
 | [],bs,heap,_,hl => .inr ⟨by simp,rfl⟩
 | n :: ns,[],heap,_,hl=>by simp at hl
 | n :: ns,b :: bs,heap,hn,hl=>by
  rw [List.nodup_cons] at hn
  simp only [List.map_cons,List.zip_cons_cons,List.foldl_cons]
  rcases zip_get (nm:=nm) (bs:=bs) (heap:=setH heap n b) hn.2 (by simpa using hl) with ⟨j,b',h1,h2,h3⟩|⟨h1,h2⟩
  ·exact .inl ⟨j+1,b',by simpa using h1,by simpa using h2,h3⟩
  ·by_cases e:nm=n
   ·subst e
    refine .inl ⟨0,b,rfl,rfl,?_⟩
    rw [h2,getH_setH,if_pos rfl]
   ·refine .inr ⟨by simp [e,h1],?_⟩
    rw [h2,getH_setH,if_neg (fun x=>e x.symm)]
section
variable {P:Program} {C C':Ctx} {nt:Nat} {st:St} {a:Act} {w w':World} {heap:List (Nm × Blk)}
theorem scal_move {c:AV} {u:Value} (h:VR C c u) (hc:scalC c=true):VR C' c u:=by
 unfold scalC at hc
 split at hc
 ·cases h;exact .int _ _
 ·cases h;exact .bool _
 ·cases h;exact .str _
 ·cases hc
theorem scalR_move {c:AV} {u:Value} (h:VR C c u) (hc:scalR c=true):VR C' c u:=by
 unfold scalR at hc
 split at hc
 ·rw [List.all_eq_true] at hc
  cases h with
  | agg _ vs h1 h2 h3=>exact .agg _ vs h1 (fun i c v g1 g2=>scal_move (h2 i c v g1 g2) (hc c (List.mem_of_getElem? g1))) h3
 ·rw [List.all_eq_true] at hc
  cases h with
  | tup _ vs h1 h2=>exact .tup _ vs h1 (fun i c v g1 g2=>scal_move (h2 i c v g1 g2) (hc c (List.mem_of_getElem? g1)))
 ·exact scal_move h hc
theorem sub_turn {n m:Nm} {lo k:Nat} {u:Value} (h:VR C (.sub n lo k) u) (e:C'.dat m=C.dat n):VR C' (.sub m lo k) u:=by
 have atE:∀ i j,C'.at m i j=C.at n i j:=fun i j=>by unfold Ctx.at Ctx.loc Ctx.width;rw [e]
 cases h with
 | sub _ _ _ cap av h1 h2 h3 h4 =>
  refine .sub m lo k cap av h1 (fun h0=>?_) ?_ (by unfold Ctx.len;rw [e];exact h4)
  ·obtain ⟨g1,g2⟩:=h2 h0
   exact ⟨by unfold Ctx.real;rw [e];exact g1,by rw [atE];exact g2⟩
  ·rcases h3 with ⟨g1,l,g2,g3⟩|g1
   ·exact .inl ⟨by unfold Ctx.real;rw [e];exact g1,l,by rw [atE];exact g2,by unfold Ctx.room;rw [e];exact g3⟩
   ·exact .inr g1
theorem own_sub {n:Nm} {u:Value} (h:VR C (.own n) u):VR C (.sub n 0 (C.len n)) u:=by
 cases h with
 | own _ cap hr h1 h2=>exact .sub n 0 _ cap _ h1 (fun _=>⟨hr,rfl⟩) (.inl ⟨hr,0,rfl,by omega⟩) (by omega)
 | ownNil _ h=>rw [h];exact .sub n 0 0 0 none (Nat.le_refl 0) (fun h0=>by omega) (.inr ⟨rfl,rfl⟩) (by omega)
theorem retR_move {c:AV} {u:Value} (hd:∀ j,C'.dat [j]=C.dat [j]) (h:VR C c u) (hc:retR c=true):VR C' c u:=by
 unfold retR at hc
 split at hc
 ·exact sub_turn h (hd _)
 ·exact scalR_move h hc
theorem BlkR.turn {b:Blk} {n m:Nm} (h:BlkR C w n b) (hd:C'.dat m=C.dat n) (hb:C'.base=C.base) (hf:flatB b=true):BlkR C' w m b:=by
 refine ⟨h.max,by unfold Ctx.len;rw [hd];exact h.len,by unfold Ctx.width;rw [hd];exact h.width,by unfold Ctx.real;rw [hd];exact h.box,by unfold Ctx.real;rw [hd];exact h.nilb,fun i x hx=>?_,?_,by unfold Ctx.real Ctx.loc Ctx.room Ctx.width;rw [hd];exact h.froz⟩
 ·obtain ⟨g1,g2⟩:=h.cells i x hx
  refine ⟨by unfold Ctx.width;rw [hd];exact g1,fun j c hc=>?_⟩
  obtain ⟨u,g3,g4,g5⟩:=g2 j c hc
  refine ⟨u,by unfold Ctx.at Ctx.loc Ctx.width;rw [hd];exact g3,g4,?_⟩
  unfold flatB at hf
  cases hbox:b.box with
  | false =>
   rw [hbox] at g5 hf
   simp only [Bool.false_eq_true,if_false,cond_false] at g5 hf ⊢
   obtain ⟨ct,g6,g7⟩:=g5
   rw [List.all_eq_true] at hf
   exact ⟨ct,g6,g7.flat (hf ct (List.mem_of_getElem? g6))⟩
  | true =>
   rw [hbox] at g5 hf
   simp only [if_true,cond_true] at g5 hf ⊢
   rw [List.all_eq_true] at hf
   have:=hf x (List.mem_of_getElem? hx)
   rw [List.all_eq_true] at this
   exact scal_move g5 (this c (List.mem_of_getElem? hc))
 ·unfold Ctx.real Ctx.loc Ctx.room Ctx.width
  rw [hd,hb]
  exact h.room
theorem canK_sound {pairs:List (Nm × Nm)} (hd:∀ n c,findN pairs n=some c→C'.dat c=C.dat n) (hm:∀ a v,C.mem a=some v→C'.mem a=some v) {x y:AV} {u:Value} (h:VR C x u) (hc:canK pairs x=some y):VR C' y u:=by
 have atE:∀ {nm n:Nm},C'.dat n=C.dat nm→∀ i j,C'.at n i j=C.at nm i j:=fun e i j=>by unfold Ctx.at Ctx.loc Ctx.width;rw [e]
 cases h with
 | undef v=>simp [canK] at hc
 | bool b=>simp only [canK,Option.some.injEq] at hc;subst hc;exact .bool b
 | int k n=>simp only [canK,Option.some.injEq] at hc;subst hc;exact .int k n
 | str s=>simp only [canK,Option.some.injEq] at hc;subst hc;exact .str s
 | nilp=>simp only [canK,Option.some.injEq] at hc;subst hc;exact .nilp
 | nilfn=>simp only [canK,Option.some.injEq] at hc;subst hc;exact .nilfn
 | snil=>simp only [canK,Option.some.injEq] at hc;subst hc;exact .snil
 | ptr nm i off hr hi =>
  simp only [canK] at hc
  obtain ⟨n,hn,rfl⟩:=Option.map_eq_some_iff.1 hc
  have e:=hd _ _ hn
  rw [← atE e i off]
  exact .ptr n i off (by unfold Ctx.real;rw [e];exact hr) (by unfold Ctx.len;rw [e];exact hi)
 | rptr tys x off b o U h1 h2 h3 =>
  simp only [canK,Option.some.injEq] at hc
  subst hc
  exact .rptr tys x off b o U (fun j hj=>hm _ _ (h1 j hj)) h2 fun j ct c ht hc=>(h3 j ct c ht hc).mono hm
 | own nm cap hr h1 h2 =>
  simp only [canK] at hc
  obtain ⟨n,hn,rfl⟩:=Option.map_eq_some_iff.1 hc
  have e:=hd _ _ hn
  have e1:C.len nm=C'.len n:=by unfold Ctx.len;rw [e]
  rw [← atE e 0 0,e1]
  exact .own n cap (by unfold Ctx.real;rw [e];exact hr) (by rw [← e1];exact h1) (by unfold Ctx.room;rw [e];exact h2)
 | ownNil nm h =>
  simp only [canK] at hc
  obtain ⟨n,hn,rfl⟩:=Option.map_eq_some_iff.1 hc
  exact .ownNil n (by unfold Ctx.len;rw [hd _ _ hn];exact h)
 | sub nm lo n cap av h1 h2 h3 h4 =>
  simp only [canK] at hc
  obtain ⟨n',hn,rfl⟩:=Option.map_eq_some_iff.1 hc
  have e:=hd _ _ hn
  refine .sub n' lo n cap av h1 (fun h0=>?_) ?_ (by unfold Ctx.len;rw [e];exact h4)
  ·obtain ⟨g1,g2⟩:=h2 h0
   exact ⟨by unfold Ctx.real;rw [e];exact g1,by rw [atE e];exact g2⟩
  ·rcases h3 with ⟨g1,l,g2,g3⟩|g1
   ·exact .inl ⟨by unfold Ctx.real;rw [e];exact g1,l,by rw [atE e];exact g2,by unfold Ctx.room;rw [e];exact g3⟩
   ·exact .inr g1
 | sl tys xs _ h=>simp only [canK,Option.some.injEq] at hc;subst hc;exact .sl tys xs _ (h.mono hm)
 | sle b tys ad cap h=>simp only [canK,Option.some.injEq] at hc;subst hc;exact .sle b tys ad cap h
 | fn f cs vs _ _=>simp [canK] at hc
 | agg cs vs _ _ _=>simp [canK] at hc
 | tup cs vs _ _=>simp [canK] at hc
theorem canC_sound {pairs:List (Nm × Nm)} (hd:∀ n c,findN pairs n=some c→C'.dat c=C.dat n) (hm:∀ a v,C.mem a=some v→C'.mem a=some v) {x y:AV} {u:Value} (h:VR C x u) (hc:canC pairs x=some y):VR C' y u:=by
 unfold canC at hc
 split at hc
 ·obtain ⟨ys,h1,rfl⟩:=Option.map_eq_some_iff.1 hc
  obtain ⟨g1,g2⟩:=canL_get h1
  cases h with
  | fn _ _ vs k1 k2 =>
   exact .fn _ _ vs (g1.trans k1) fun i c v hc hv=>by
    obtain ⟨x,e1,e2⟩:=g2 i c hc
    exact canK_sound hd hm (k2 i x v e1 hv) e2
 ·exact canK_sound hd hm h hc
theorem canV_sound {pairs:List (Nm × Nm)} (hd:∀ n c,findN pairs n=some c→C'.dat c=C.dat n) (hm:∀ a v,C.mem a=some v→C'.mem a=some v) {x y:AV} {u:Value} (h:VR C x u) (hc:canV pairs x=some y):VR C' y u:=by
 unfold canV at hc
 split at hc
 ·obtain ⟨ys,h1,rfl⟩:=Option.map_eq_some_iff.1 hc
  obtain ⟨g1,g2⟩:=canL_get h1
  obtain ⟨vs,rfl,k1,k2,k3⟩:=h.agg_inv
  exact .agg _ vs (g1.trans k1) (fun i c v hc hv=>by
    obtain ⟨x,e1,e2⟩:=g2 i c hc
    exact canC_sound hd hm (k2 i x v e1 hv) e2) k3
 ·exact canC_sound hd hm h hc
open Classical in
noncomputable def ctxM (C:Ctx) (w:World) (ns:List Nm):Ctx :=
 { base:=C.base,w0:=w,fr:=C.fr,mem:=fun ad=>if ∃ n ∈ ns,C.real n=true∧(C.loc n).1=ad.block then none else w.cell? ad,dat:=fun n=>match n with|[j]=>(match ns[j - 1]? with|some m=>C.dat m|none=>⟨false,(0,0),0,0,0⟩)|_=>⟨false,(0,0),0,0,0⟩ }
theorem ctxM_dat {ns:List Nm} {j:Nat} {n:Nm} (h:ns[j]?=some n):(ctxM C w ns).dat [1+j]=C.dat n:=by
 show (match ns[1+j - 1]? with|some m=>C.dat m|none=>_)=_
 rw [show 1+j - 1=j by omega,h]
theorem ctxM_mem [Glob] {ns:List Nm} (hs:HSim C heap w) (hn:∀ n ∈ ns,∃ b,getH heap n=some b) {ad:Addr} {v:Value} (h:C.mem ad=some v):(ctxM C w ns).mem ad=some v:=by
 obtain ⟨h1,h2,h3⟩:=hs.mem ad v h
 show (if _ then none else w.cell? ad)=some v
 rw [if_neg,h1]
 rintro ⟨n,hm,hr,e⟩
 obtain ⟨b,hb⟩:=hn n hm
 exact h3 n b hb hr e
theorem uncan_sound {ns:List Nm} {r:AV} {u:Value} (h:VR (ctxM C w ns) r u) (hr:retR r=true):VR C (uncanR ns r) u:=by
 unfold retR at hr
 unfold uncanR
 split at hr
 ·rename_i j lo n
  split
  ·rename_i nm hn
   refine sub_turn h ?_
   show C.dat nm=(match ns[j - 1]? with|some m=>C.dat m|none=>_)
   rw [hn]
  ·exact .undef _
 ·exact scalR_move h hr
theorem mut_sim [Glob] {vals xs:List AV} {bs bs':List Blk} {us:List Value} {ns:List Nm} (hs:HSim C heap w) (hns:ns.Nodup) (hb:getAll heap ns=some bs) (hx:canL (canV (canN 1 ns)) vals=some xs)
  (hl:vals.length=us.length) (hv:∀ (i:Nat) (x:AV) (u:Value),vals[i]?=some x→us[i]?=some u→VR C x u) (hf:bs.all flatB=true) :
  xs.length=us.length∧(∀ (i:Nat) (x:AV) (u:Value),xs[i]?=some x→us[i]?=some u→VR (ctxM C w ns) x u)∧HSim (ctxM C w ns) (canH 1 bs) w ∧
  (bs'.length=bs.length→bs'.all flatB=true→HSim (ctxM C w ns) (canH 1 bs') w'→HSim C ((ns.zip (bs'.map some)).foldl (fun h x=>match x.2 with|some b=>setH h x.1 b|none=>delH h x.1) heap) w'):=by
 obtain ⟨b1,b2⟩:=getAll_get hb
 obtain ⟨x1,x2⟩:=canL_get hx
 have hin:∀ n ∈ ns,∃ b,getH heap n=some b:=fun n hn=>by
  obtain ⟨j,hj⟩:=List.getElem?_of_mem hn
  obtain ⟨b,_,h⟩:=b2 j n hj
  exact ⟨b,h⟩
 have hm:∀ a v,C.mem a=some v→(ctxM C w ns).mem a=some v:=fun a v h=>ctxM_mem hs hin h
 have hat:∀ {j b},bs[j]?=some b→∃ n,ns[j]?=some n∧getH heap n=some b:=fun {j b} h=>by
  have hj:j<ns.length:=by
   have:=(List.getElem?_eq_some_iff.1 h).1
   omega
  obtain ⟨b',g1,g2⟩:=b2 j _ (List.getElem?_eq_getElem hj)
  rw [h] at g1
  obtain rfl:=Option.some.inj g1
  exact ⟨_,List.getElem?_eq_getElem hj,g2⟩
 have hinj:∀ {i j n},ns[i]?=some n→ns[j]?=some n→i=j:=fun {i j n} h1 h2=>by
  have k1:=List.getElem?_eq_some_iff.1 h1
  have k2:=List.getElem?_eq_some_iff.1 h2
  obtain ⟨l1,e1⟩:=k1
  obtain ⟨l2,e2⟩:=k2
  exact (List.getElem_inj hns).1 (e1.trans e2.symm)
 refine ⟨x1.trans hl,fun i x u hx hu=>?_,⟨fun nm b h=>?_,fun nm b nm' b' h h' hr hr' hne=>?_,fun ad v h=>?_,hs.grown,RowKit.Below.refl _ _,(fun _ _ _ _=>rfl),(fun _ _ h=>by cases h),⟨hs.globW.1,hs.glob.2⟩,fun k hk=>⟨Nat.lt_of_lt_of_le (hs.frame k hk).1 hs.kept.size,rfl,fun nm b h hr=>?_⟩⟩,fun hlen hfl H=>?_⟩
 ·obtain ⟨x0,g1,g2⟩:=x2 i x hx
  refine canV_sound (fun n c h=>?_) hm (hv i x0 u g1 hu) g2
  obtain ⟨j,e1,rfl⟩:=findN_can h
  exact ctxM_dat e1
 ·obtain ⟨j,rfl,hj⟩:=getH_can h
  obtain ⟨n,g1,g2⟩:=hat hj
  exact (hs.blk n b g2).turn (ctxM_dat g1) rfl (by rw [List.all_eq_true] at hf;exact hf b (List.mem_of_getElem? hj))
 ·obtain ⟨j,rfl,hj⟩:=getH_can h
  obtain ⟨j',rfl,hj'⟩:=getH_can h'
  obtain ⟨n,g1,g2⟩:=hat hj
  obtain ⟨n',g1',g2'⟩:=hat hj'
  unfold Ctx.real Ctx.loc at *
  rw [ctxM_dat g1] at *
  rw [ctxM_dat g1'] at *
  refine hs.apart n b n' b' g2 g2' hr hr' fun e=>?_
  subst e
  exact hne (by rw [hinj g1 g1'])
 ·have hh:(if (∃ n ∈ ns,C.real n=true∧(C.loc n).1=ad.block) then none else w.cell? ad)=some v:=h
  split at hh
  ·cases hh
  ·rename_i hno
   refine ⟨hh,World.block_lt_of_cell? w ad hh,fun nm b hb hr e=>?_⟩
   obtain ⟨j,rfl,hj⟩:=getH_can hb
   obtain ⟨n,g1,g2⟩:=hat hj
   have hr':C.real n=true:=by
    have:=hr
    unfold Ctx.real at this
    rw [ctxM_dat g1] at this
    exact this
   have e':(C.loc n).1=ad.block:=by
    have:=e
    unfold Ctx.loc at this
    rw [ctxM_dat g1] at this
    exact this
   replace hr:=hr'
   replace e:=e'
   exact hno ⟨n,List.mem_of_getElem? g1,hr,e⟩
 ·obtain ⟨j,rfl,hj⟩:=getH_can h
  obtain ⟨n,g1,g2⟩:=hat hj
  unfold Ctx.real Ctx.loc at *
  rw [ctxM_dat g1] at *
  exact (hs.frame k hk).2.2 n b g2 hr
 ·have hsize:w.heap.size≤w'.heap.size:=H.kept.size
  have cases_:∀ nm b,getH ((ns.zip (bs'.map some)).foldl (fun h x=>match x.2 with|some b=>setH h x.1 b|none=>delH h x.1) heap) nm=some b →
    (∃ j,ns[j]?=some nm∧bs'[j]?=some b)∨(nm ∉ ns∧getH heap nm=some b):=fun nm b h=>by
   rcases zip_get (nm:=nm) (heap:=heap) hns (hlen.trans b1) with ⟨j,b',h1,h2,h3⟩|⟨h1,h2⟩
   ·rw [h] at h3
    obtain rfl:=Option.some.inj h3
    exact .inl ⟨j,h1,h2⟩
   ·rw [h] at h2
    exact .inr ⟨h1,h2.symm⟩
  have old:∀ nm b,getH ((ns.zip (bs'.map some)).foldl (fun h x=>match x.2 with|some b=>setH h x.1 b|none=>delH h x.1) heap) nm=some b→∃ b0,getH heap nm=some b0:=fun nm b h=>by
   rcases cases_ nm b h with ⟨j,h1,_⟩|⟨_,h1⟩
   ·exact hin nm (List.mem_of_getElem? h1)
   ·exact ⟨b,h1⟩
  refine ⟨fun nm b h=>?_,fun nm b nm' b' h h' hr hr' hne=>?_,fun ad v h=>?_,Nat.le_trans hs.grown hsize,hs.kept.trans H.kept,fun ad v h hn=>(H.blk0 ad v (hm ad v h) rfl).trans (hs.blk0 ad v h hn),hs.own,hs.glob,fun k hk=>⟨(hs.frame k hk).1,(H.frame k hk).2.1.trans (hs.frame k hk).2.1,fun nm b h=>?_⟩⟩
  rotate_right
  ·obtain ⟨b0,g⟩:=old nm b h
   exact (hs.frame k hk).2.2 nm b0 g
  ·rcases cases_ nm b h with ⟨j,h1,h2⟩|⟨h1,h2⟩
   ·refine BlkR.turn (C:=ctxM C w ns) (n:=[1+j]) (H.blk _ b (getH_canH h2)) (ctxM_dat h1).symm rfl ?_
    rw [List.all_eq_true] at hfl
    exact hfl b (List.mem_of_getElem? h2)
   ·have B:=hs.blk nm b h2
    cases hr:C.real nm with
    | false=>exact B.world (fun h=>by rw [hr] at h;cases h) hsize
    | true =>
     obtain ⟨r1,r2,r3,r4⟩:=B.room hr
     by_cases h0:0<C.room nm*C.width nm
     ·refine B.world (fun _=>?_) hsize
      have hc:=(r4 0 h0).1
      obtain ⟨v,hv⟩:=Option.isSome_iff_exists.1 hc
      refine H.blk0 ⟨(C.loc nm).1,(C.loc nm).2+0,none⟩ v ?_ rfl
      show (if _ then none else w.cell? _)=some v
      rw [if_neg,hv]
      rintro ⟨n,hn,hrn,e⟩
      obtain ⟨bn,hbn⟩:=hin n hn
      exact hs.apart n bn nm b hbn h2 hrn hr (fun e'=>h1 (e' ▸ hn)) e
     ·have hz:C.room nm*C.width nm=0:=by omega
      refine ⟨B.max,B.len,B.width,B.box,B.nilb,fun i x hx=>?_,fun _=>⟨r1,Nat.lt_of_lt_of_le r2 hsize,r3,fun o ho=>by omega⟩,fun _ h=>by omega⟩
      obtain ⟨g1,_⟩:=B.cells i x hx
      refine ⟨g1,fun j c hc=>?_⟩
      rcases Nat.mul_eq_zero.1 hz with e|e
      ·have:=(List.getElem?_eq_some_iff.1 hx).1
       omega
      ·have:=(List.getElem?_eq_some_iff.1 hc).1
       omega
  ·obtain ⟨b0,g⟩:=old nm b h
   obtain ⟨b0',g'⟩:=old nm' b' h'
   exact hs.apart nm b0 nm' b0' g g' hr hr' hne
  ·obtain ⟨h1,h2,h3⟩:=hs.mem ad v h
   refine ⟨(H.mem ad v (hm ad v h)).1,Nat.lt_of_lt_of_le h2 hsize,fun nm b hb=>?_⟩
   obtain ⟨b0,g⟩:=old nm b hb
   exact h3 nm b0 g
end
end Go.Proofs.VE
