import Derived.Test.YtcondihilccdpaaDoorVEng
namespace Go.Proofs.VE
open Go
section
variable {P:Program} {C C':Ctx} {nt:Nat} {st:St} {a:Act} {w w':World} {heap:List (Nm × Blk)}
def ctxG (C:Ctx) (w:World) (ns:List Nm):Ctx :=
 { base:=C.base,w0:=w,mem:=C.mem,memF:=C.memF,fr:=fun k=>k<w.heap.size∧∀ n ∈ ns,C.real n=true→(C.loc n).1 ≠ k,dat:=fun n=>match n with|[j]=>(match ns[j - 1]? with|some m=>C.dat m|none=>⟨false,(0,0),0,0,0⟩)|_=>⟨false,(0,0),0,0,0⟩ }
theorem ctxG_dat {ns:List Nm} {j:Nat} {n:Nm} (h:ns[j]?=some n):(ctxG C w ns).dat [1+j]=C.dat n:=by
 show (match ns[1+j - 1]? with|some m=>C.dat m|none=>_)=_
 rw [show 1+j - 1=j by omega,h]
theorem canK_noagg {pairs:List (Nm × Nm)} {x y:AV} (h:canK pairs x=some y):(∀ cs,x ≠ .agg cs)∧∀ cs,y ≠ .agg cs:=by
 constructor
 ·intro cs e;subst e;simp [canK] at h
 ·intro cs e
  subst e
  cases x <;> simp [canK] at h
theorem canC_noagg {pairs:List (Nm × Nm)} {x y:AV} (h:canC pairs x=some y):(∀ cs,x ≠ .agg cs)∧∀ cs,y ≠ .agg cs:=by
 unfold canC at h
 split at h
 ·refine ⟨(fun cs e=>by cases e),fun cs e=>?_⟩
  obtain ⟨ys,_,rfl⟩:=Option.map_eq_some_iff.1 h
  cases e
 ·exact canK_noagg h
theorem BlkR.can {b0 b:Blk} {n m:Nm} {pairs:List (Nm × Nm)} (h:BlkR C w n b0) (hc:canB pairs b0=some b) (hd:C'.dat m=C.dat n) (hb:C'.base=C.base) (hmF:C'.memF=C.memF)
  (hm:∀ a v,C.mem a=some v→C'.mem a=some v) (hp:∀ n c,findN pairs n=some c→C'.dat c=C.dat n):BlkR C' w m b:=by
 unfold canB at hc
 cases hbox:b0.box with
 | false =>
  rw [hbox] at hc
  obtain rfl:=Option.some.inj hc
  exact h.carry hd (by rw [hb];exact Nat.le_refl _) hbox fun a v hv=>by rw [hmF];exact hv
 | true =>
  rw [hbox] at hc
  simp only [cond_true] at hc
  split at hc
  ·rename_i x hx
   obtain ⟨y,hy,rfl⟩:=Option.map_eq_some_iff.1 hc
   obtain ⟨k1,k2⟩:=h.box hbox
   have hcell:=h.cells 0 x (by rw [hx];rfl)
   have hlen:=h.len
   rw [hx] at hlen
   have key:y.cells.length=x.cells.length∧∀ (j:Nat) (c:AV),y.cells[j]?=some c→∃ c0,x.cells[j]?=some c0∧canC pairs c0=some c:=by
    unfold canV at hy
    split at hy
    ·obtain ⟨ys,g1,rfl⟩:=Option.map_eq_some_iff.1 hy
     obtain ⟨g2,g3⟩:=canL_get g1
     exact ⟨g2,fun j c hj=>g3 j c hj⟩
    ·obtain ⟨e1,e2⟩:=canC_noagg hy
     rw [cells_one e1,cells_one e2]
     refine ⟨rfl,fun j c hj=>?_⟩
     cases j with
     | zero=>simp at hj;subst hj;exact ⟨x,rfl,hy⟩
     | succ j=>simp at hj
   refine ⟨by show 1≤maxLen;decide,by unfold Ctx.len;rw [hd];exact hlen,(fun h=>by cases h),fun _=>⟨rfl,by unfold Ctx.real;rw [hd];exact k2⟩,by unfold Ctx.real;rw [hd];exact fun hr=>absurd (h.nilb hr) (by rw [hx];simp),fun i z hz=>?_,?_,by unfold Ctx.real Ctx.loc Ctx.room Ctx.width;rw [hd];exact h.froz⟩
   ·cases i with
    | succ i=>simp at hz
    | zero =>
     simp at hz
     subst hz
     refine ⟨by unfold Ctx.width;rw [hd];exact key.1.trans hcell.1,fun j c hj=>?_⟩
     obtain ⟨c0,e1,e2⟩:=key.2 j c hj
     obtain ⟨u,g1,g2,g3⟩:=hcell.2 j c0 e1
     refine ⟨u,by unfold Ctx.at Ctx.loc Ctx.width;rw [hd];exact g1,g2,?_⟩
     rw [hbox] at g3
     exact canC_sound hp hm g3 e2
   ·unfold Ctx.real Ctx.loc Ctx.room Ctx.width
    rw [hd,hb]
    have:=h.room
    rw [hx] at this
    exact this
  ·cases hc
theorem canBs_get {pairs:List (Nm × Nm)}:∀ {bs cs:List Blk},canBs pairs bs=some cs→cs.length=bs.length∧∀ (i:Nat) (c:Blk),cs[i]?=some c→∃ b,bs[i]?=some b∧canB pairs b=some c
 | [],cs,h=>by
  simp only [canBs,Option.some.injEq] at h
  subst h
  exact ⟨rfl,fun i y h=>by simp at h⟩
 | b :: bs,cs,h=>by
  simp only [canBs] at h
  split at h
  ·rename_i c s h1 h2
   obtain rfl:=Option.some.inj h
   obtain ⟨g1,g2⟩:=canBs_get h2
   refine ⟨by simp [g1],fun i y hy=>?_⟩
   cases i with
   | zero=>simp at hy;subst hy;exact ⟨b,rfl,h1⟩
   | succ i=>exact g2 i y (by simpa using hy)
  ·cases h
theorem gen_enter [Glob] {vals xs:List AV} {bs cs:List Blk} {us:List Value} {ns:List Nm} (hs:HSim C heap w) (hns:ns.Nodup) (hb:getAll heap ns=some bs) (hx:canL (canV (canN 1 ns)) vals=some xs) (hcs:canBs (canN 1 ns) bs=some cs)
  (hl:vals.length=us.length) (hv:∀ (i:Nat) (x:AV) (u:Value),vals[i]?=some x→us[i]?=some u→VR C x u) :
  xs.length=us.length∧(∀ (i:Nat) (x:AV) (u:Value),xs[i]?=some x→us[i]?=some u→VR (ctxG C w ns) x u)∧HSim (ctxG C w ns) (canH 1 cs) w:=by
 obtain ⟨b1,b2⟩:=getAll_get hb
 obtain ⟨x1,x2⟩:=canL_get hx
 obtain ⟨c1,c2⟩:=canBs_get hcs
 have hfind:∀ n c,findN (canN 1 ns) n=some c→(ctxG C w ns).dat c=C.dat n:=fun n c h=>by
  obtain ⟨j,e1,rfl⟩:=findN_can h
  exact ctxG_dat e1
 have hat:∀ {j b},cs[j]?=some b→∃ n b0,ns[j]?=some n∧getH heap n=some b0∧canB (canN 1 ns) b0=some b:=fun {j b} h=>by
  obtain ⟨b0,g1,g2⟩:=c2 j b h
  have hj:j<ns.length:=by
   have:=(List.getElem?_eq_some_iff.1 g1).1
   omega
  obtain ⟨b',g3,g4⟩:=b2 j _ (List.getElem?_eq_getElem hj)
  rw [g1] at g3
  obtain rfl:=Option.some.inj g3
  exact ⟨_,b0,List.getElem?_eq_getElem hj,g4,g2⟩
 have hinj:∀ {i j n},ns[i]?=some n→ns[j]?=some n→i=j:=fun {i j n} h1 h2=>by
  obtain ⟨l1,e1⟩:=List.getElem?_eq_some_iff.1 h1
  obtain ⟨l2,e2⟩:=List.getElem?_eq_some_iff.1 h2
  exact (List.getElem_inj hns).1 (e1.trans e2.symm)
 refine ⟨x1.trans hl,fun i x u hx hu=>?_,⟨fun nm b h=>?_,fun nm b nm' b' h h' hr hr' hne=>?_,fun ad v h=>?_,hs.grown,RowKit.Below.refl _ _,(fun _ _ _ _=>rfl),hs.own,⟨hs.globW.1,hs.glob.2⟩,fun k hk=>⟨hk.1,rfl,fun nm b h hr=>?_⟩⟩⟩
 ·obtain ⟨x0,g1,g2⟩:=x2 i x hx
  exact canV_sound hfind (fun _ _ h=>h) (hv i x0 u g1 hu) g2
 ·obtain ⟨j,rfl,hj⟩:=getH_can h
  obtain ⟨n,b0,g1,g2,g3⟩:=hat hj
  exact (hs.blk n b0 g2).can g3 (ctxG_dat g1) rfl rfl (fun _ _ h=>h) hfind
 ·obtain ⟨j,rfl,hj⟩:=getH_can h
  obtain ⟨j',rfl,hj'⟩:=getH_can h'
  obtain ⟨n,b0,g1,g2,_⟩:=hat hj
  obtain ⟨n',b0',g1',g2',_⟩:=hat hj'
  have hr:C.real n=true:=by unfold Ctx.real at hr;rw [ctxG_dat g1] at hr;exact hr
  have hr':C.real n'=true:=by unfold Ctx.real at hr';rw [ctxG_dat g1'] at hr';exact hr'
  unfold Ctx.loc
  rw [ctxG_dat g1,ctxG_dat g1']
  refine hs.apart n b0 n' b0' g2 g2' hr hr' fun e=>?_
  subst e
  exact hne (by rw [hinj g1 g1'])
 ·obtain ⟨m1,m2,m3⟩:=hs.mem ad v h
  refine ⟨m1,m2,fun nm b hb hr=>?_⟩
  obtain ⟨j,rfl,hj⟩:=getH_can hb
  obtain ⟨n,b0,g1,g2,_⟩:=hat hj
  have hr:C.real n=true:=by unfold Ctx.real at hr;rw [ctxG_dat g1] at hr;exact hr
  unfold Ctx.loc
  rw [ctxG_dat g1]
  exact m3 n b0 g2 hr
 ·obtain ⟨j,rfl,hj⟩:=getH_can h
  obtain ⟨n,b0,g1,g2,_⟩:=hat hj
  have hr:C.real n=true:=by unfold Ctx.real at hr;rw [ctxG_dat g1] at hr;exact hr
  unfold Ctx.loc
  rw [ctxG_dat g1]
  exact hk.2 n (List.mem_of_getElem? g1) hr
def boxNs:List (Option Blk)→List Nm→List Nm
 | some b :: r,n :: ns=>bif b.box then n :: boxNs r ns else boxNs r ns
 | none :: r,_ :: ns=>boxNs r ns
 | _,_=>[]
theorem cont_rel:∀ {bs:List (Option Blk)} {nms:List Nm},bs.length=nms.length→(∀ b:Blk,some b ∈ bs→b.box=true→b.xs.length=1) →
  (∀ (i:Nat) (x:AV),(contO bs)[i]?=some x→∃ (k:Nat) (b:Blk) (nm:Nm),bs[k]?=some (some b)∧nms[k]?=some nm∧(boxNs bs nms)[i]?=some nm∧b.box=true∧b.xs=[x]) ∧
  ∀ (zs:List AV),zs.length=(contO bs).length→(reBsO bs zs).length=bs.length∧∀ (k:Nat) (b':Blk),(reBsO bs zs)[k]?=some (some b')→∃ b:Blk,bs[k]?=some (some b)∧((b.box=false∧b'=b) ∨
   (b.box=true∧∃ (i:Nat) (x z:AV),(contO bs)[i]?=some x∧b.xs=[x]∧zs[i]?=some z∧(boxNs bs nms)[i]?=nms[k]?∧b'=⟨true,b.tys,[z]⟩))
 | [],[],_,_=>⟨fun i x h=>by simp [contO] at h,fun zs _=>⟨rfl,fun k b' h=>by simp [reBsO] at h⟩⟩
 | [],_ :: _,h,_=>by simp at h
 | _ :: _,[],h,_=>by simp at h
 | none :: bs,n :: nms,hl,h1=>by
  obtain ⟨i2,i3⟩:=cont_rel (bs:=bs) (nms:=nms) (by simpa using hl) fun b hb=>h1 b (List.mem_cons_of_mem _ hb)
  have ec:contO (none :: bs)=contO bs:=by simp [contO]
  have eb:boxNs (none :: bs) (n :: nms)=boxNs bs nms:=by simp [boxNs]
  rw [ec,eb]
  refine ⟨fun i x hx=>?_,fun zs hz=>?_⟩
  ·obtain ⟨k,b0,nm,g1,g2,g3,g4,g5⟩:=i2 i x hx
   exact ⟨k+1,b0,nm,by simpa using g1,by simpa using g2,g3,g4,g5⟩
  ·obtain ⟨j1,j2⟩:=i3 zs hz
   have er:reBsO (none :: bs) zs=none :: reBsO bs zs:=by simp [reBsO]
   rw [er]
   refine ⟨by simp [j1],fun k b' hk=>?_⟩
   cases k with
   | zero=>simp at hk
   | succ k =>
    obtain ⟨b0,g1,g2⟩:=j2 k b' (by simpa using hk)
    exact ⟨b0,by simpa using g1,by simpa using g2⟩
 | some b :: bs,n :: nms,hl,h1=>by
  obtain ⟨i2,i3⟩:=cont_rel (bs:=bs) (nms:=nms) (by simpa using hl) fun b hb=>h1 b (List.mem_cons_of_mem _ hb)
  cases hbox:b.box with
  | false =>
   have ec:contO (some b :: bs)=contO bs:=by simp [contO,hbox]
   have eb:boxNs (some b :: bs) (n :: nms)=boxNs bs nms:=by simp [boxNs,hbox]
   rw [ec,eb]
   refine ⟨fun i x hx=>?_,fun zs hz=>?_⟩
   ·obtain ⟨k,b0,nm,g1,g2,g3,g4,g5⟩:=i2 i x hx
    exact ⟨k+1,b0,nm,by simpa using g1,by simpa using g2,g3,g4,g5⟩
   ·obtain ⟨j1,j2⟩:=i3 zs hz
    have er:reBsO (some b :: bs) zs=some b :: reBsO bs zs:=by simp [reBsO,hbox]
    rw [er]
    refine ⟨by simp [j1],fun k b' hk=>?_⟩
    cases k with
    | zero=>simp at hk;subst hk;exact ⟨b,rfl,.inl ⟨hbox,rfl⟩⟩
    | succ k =>
     obtain ⟨b0,g1,g2⟩:=j2 k b' (by simpa using hk)
     exact ⟨b0,by simpa using g1,by simpa using g2⟩
  | true =>
   obtain ⟨x,hx⟩:=List.length_eq_one_iff.1 (h1 b List.mem_cons_self hbox)
   have ec:contO (some b :: bs)=x :: contO bs:=by simp [contO,hbox,hx]
   have eb:boxNs (some b :: bs) (n :: nms)=n :: boxNs bs nms:=by simp [boxNs,hbox]
   rw [ec,eb]
   refine ⟨fun i y hy=>?_,fun zs hz=>?_⟩
   ·cases i with
    | zero=>simp at hy;subst hy;exact ⟨0,b,n,rfl,rfl,rfl,hbox,hx⟩
    | succ i =>
     obtain ⟨k,b0,nm,g1,g2,g3,g4,g5⟩:=i2 i y (by simpa using hy)
     exact ⟨k+1,b0,nm,by simpa using g1,by simpa using g2,by simpa using g3,g4,g5⟩
   ·match zs,hz with
    | z :: zs,hz =>
    obtain ⟨j1,j2⟩:=i3 zs (by simpa using hz)
    have er:reBsO (some b :: bs) (z :: zs)=some ⟨true,b.tys,[z]⟩ :: reBsO bs zs:=by simp [reBsO,hbox]
    rw [er]
    refine ⟨by simp [j1],fun k b' hk=>?_⟩
    cases k with
    | zero=>simp at hk;subst hk;exact ⟨b,rfl,.inr ⟨hbox,0,x,z,rfl,hx,rfl,rfl,rfl⟩⟩
    | succ k =>
     obtain ⟨b0,g1,g2⟩:=j2 k b' (by simpa using hk)
     refine ⟨b0,by simpa using g1,?_⟩
     rcases g2 with g2|⟨g2,i,x',z',g3,g4,g5,g6,g7⟩
     ·exact .inl g2
     ·exact .inr ⟨g2,i+1,x',z',by simpa using g3,g4,by simpa using g5,by simpa using g6,g7⟩
theorem cont_reBs:∀ {bs:List (Option Blk)} {ys:List AV},(∀ b:Blk,some b ∈ bs→b.box=true→b.xs.length=1)→ys.length=(contO bs).length→contO (reBsO bs ys)=ys∧∀ zs,zs.length=ys.length→reBsO (reBsO bs ys) zs=reBsO bs zs
 | [],ys,_,hl=>by
  have:ys=[]:=List.eq_nil_of_length_eq_zero hl
  subst this
  exact ⟨rfl,fun zs _=>by simp [reBsO]⟩
 | none :: bs,ys,h1,hl=>by
  have ec:contO (none :: bs)=contO bs:=by simp [contO]
  rw [ec] at hl
  obtain ⟨i1,i2⟩:=cont_reBs (bs:=bs) (ys:=ys) (fun b hb=>h1 b (List.mem_cons_of_mem _ hb)) hl
  have er:∀ ys,reBsO (none :: bs) ys=none :: reBsO bs ys:=fun ys=>by simp [reBsO]
  have ec':∀ l,contO (none :: l)=contO l:=fun l=>by simp [contO]
  rw [er,ec']
  refine ⟨i1,fun zs hz=>?_⟩
  rw [er]
  simp only [reBsO]
  rw [i2 zs hz]
 | some b :: bs,ys,h1,hl=>by
  have ih:=fun ys=>cont_reBs (bs:=bs) (ys:=ys) fun b hb=>h1 b (List.mem_cons_of_mem _ hb)
  cases hbox:b.box with
  | false =>
   have ec:∀ l,contO (some b :: l)=contO l:=fun l=>by simp [contO,hbox]
   rw [ec] at hl
   obtain ⟨i1,i2⟩:=ih ys hl
   have er:∀ ys,reBsO (some b :: bs) ys=some b :: reBsO bs ys:=fun ys=>by simp [reBsO,hbox]
   rw [er,ec]
   refine ⟨i1,fun zs hz=>?_⟩
   rw [er]
   simp only [reBsO,hbox,cond_false]
   rw [i2 zs hz]
  | true =>
   obtain ⟨x,hx⟩:=List.length_eq_one_iff.1 (h1 b List.mem_cons_self hbox)
   have ec:contO (some b :: bs)=x :: contO bs:=by simp [contO,hbox,hx]
   rw [ec] at hl
   match ys,hl with
   | y :: ys,hl =>
   obtain ⟨i1,i2⟩:=ih ys (by simpa using hl)
   have er:∀ y ys,reBsO (some b :: bs) (y :: ys)=some ⟨true,b.tys,[y]⟩ :: reBsO bs ys:=fun y ys=>by simp [reBsO,hbox]
   have ec':∀ l,contO (some ⟨true,b.tys,[y]⟩ :: l)=y :: contO l:=fun l=>by simp [contO]
   rw [er,ec']
   refine ⟨by rw [i1],fun zs hz=>?_⟩
   match zs,hz with
   | z :: zs,hz =>
   rw [er]
   simp only [reBsO,cond_true]
   rw [i2 zs (by simpa using hz)]
theorem dropO_len (so:List (Option Nm)) (gs:List Nat):∀ (k:Nat) (bs:List (Option Blk)),(dropO so gs k bs).length=bs.length
 | _,[]=>rfl
 | k,some b :: r=>by simp [dropO,dropO_len so gs (k+1) r]
 | k,none :: r=>by simp [dropO,dropO_len so gs (k+1) r]
theorem contO_drop (so:List (Option Nm)) (gs:List Nat):∀ (k:Nat) (bs:List (Option Blk)),contO (dropO so gs k bs)=contO bs
 | _,[]=>rfl
 | k,none :: r=>by
  have ih:=contO_drop so gs (k+1) r
  unfold contO at ih ⊢
  simp only [dropO,List.flatMap_cons,ih]
 | k,some b :: r=>by
  have ih:=contO_drop so gs (k+1) r
  unfold contO at ih ⊢
  simp only [dropO,List.flatMap_cons,ih]
  congr 1
  cases hb:b.box with
  | true=>simp [hb]
  | false =>
   simp only [Bool.not_false,Bool.true_and]
   cases so.any (isGone k) || gs.any (Nat.beq k) <;> simp [hb]
theorem reBsO_drop (so:List (Option Nm)) (gs:List Nat):∀ (k:Nat) (bs:List (Option Blk)) (zs:List AV),reBsO (dropO so gs k bs) zs=dropO so gs k (reBsO bs zs)
 | _,[],zs=>by simp [dropO,reBsO]
 | k,none :: r,zs=>by simp [dropO,reBsO,reBsO_drop so gs (k+1) r]
 | k,some b :: r,zs=>by
  have ih:=reBsO_drop so gs (k+1) r
  cases hb:b.box with
  | true =>
   cases zs with
   | nil=>simp [dropO,reBsO,hb,ih]
   | cons z zs=>simp [dropO,reBsO,hb,ih]
  | false =>
   cases hc:so.any (isGone k) || gs.any (Nat.beq k) with
   | true=>simp only [dropO,hb,hc,Bool.not_false,Bool.true_and,cond_true,cond_false,reBsO,ih]
   | false=>simp only [dropO,hb,hc,Bool.not_false,Bool.true_and,cond_false,reBsO,ih]
theorem dropO_get (so:List (Option Nm)) (gs:List Nat) {b:Blk}:∀ (k0:Nat) (bs:List (Option Blk)) (k:Nat),(dropO so gs k0 bs)[k]?=some (some b)→bs[k]?=some (some b)∧(b.box=true∨∀ i:Nat,so[i]? ≠ some (some [1+(k0+k)]))
 | _,[],k,h=>by simp [dropO] at h
 | k0,none :: r,k,h=>by
  cases k with
  | zero=>simp [dropO] at h
  | succ k =>
   simp only [dropO,List.getElem?_cons_succ] at h
   obtain ⟨h1,h2⟩:=dropO_get so gs (k0+1) r k h
   refine ⟨by simpa using h1,?_⟩
   rw [show k0+(k+1)=k0+1+k by omega]
   exact h2
 | k0,some b0 :: r,k,h=>by
  cases k with
  | zero =>
   simp only [dropO,List.getElem?_cons_zero,Option.some.injEq] at h
   cases hb:b0.box with
   | true =>
    rw [hb] at h
    simp only [Bool.not_true,Bool.false_and,cond_false,Option.some.injEq] at h
    subst h
    exact ⟨rfl,.inl hb⟩
   | false =>
    rw [hb] at h
    cases hc:so.any (isGone k0) || gs.any (Nat.beq k0) with
    | true=>simp [hc] at h
    | false =>
     rw [hc] at h
     simp only [Bool.not_false,Bool.true_and,cond_false,Option.some.injEq] at h
     subst h
     refine ⟨rfl,.inr fun i hi=>?_⟩
     rw [Bool.or_eq_false_iff,List.any_eq_false] at hc
     have:=hc.1 _ (List.mem_of_getElem? hi)
     simp [isGone,nmEq_refl] at this
  | succ k =>
   simp only [dropO,List.getElem?_cons_succ] at h
   obtain ⟨h1,h2⟩:=dropO_get so gs (k0+1) r k h
   refine ⟨by simpa using h1,?_⟩
   rw [show k0+(k+1)=k0+1+k by omega]
   exact h2
theorem zipO_get {nm:Nm} {b:Blk}:∀ {ns:List Nm} {bs:List (Option Blk)} {heap:List (Nm × Blk)},ns.Nodup→bs.length=ns.length→getH ((ns.zip bs).foldl (fun h x=>match x.2 with|some b=>setH h x.1 b|none=>delH h x.1) heap) nm=some b →
  (∃ j:Nat,ns[j]?=some nm∧bs[j]?=some (some b))∨(nm ∉ ns∧getH heap nm=some b)
 | [],bs,heap,_,hl,h => .inr ⟨by simp,by simpa using h⟩
 | n :: ns,[],heap,_,hl,h=>by simp at hl
 | n :: ns,o :: bs,heap,hn,hl,h=>by
  rw [List.nodup_cons] at hn
  simp only [List.zip_cons_cons,List.foldl_cons] at h
  rcases zipO_get hn.2 (by simpa using hl) h with ⟨j,h1,h2⟩|⟨h1,h2⟩
  ·exact .inl ⟨j+1,by simpa using h1,by simpa using h2⟩
  ·cases o with
   | some b' =>
    simp only at h2
    rw [getH_setH] at h2
    split at h2
    ·rename_i e
     subst e
     obtain rfl:=Option.some.inj h2
     exact .inl ⟨0,rfl,rfl⟩
    ·rename_i e
     exact .inr ⟨by simp [h1];exact fun e'=>e e'.symm,h2⟩
   | none =>
    simp only at h2
    rw [getH_delH] at h2
    split at h2
    ·cases h2
    ·rename_i e
     exact .inr ⟨by simp [h1];exact fun e'=>e e'.symm,h2⟩
end
end Go.Proofs.VE
