import Derived.Test.YtcondihilccdpaaDoorVEi
namespace Go.Proofs.VE
open Go
section
variable {P:Program} {C C':Ctx} {nt:Nat} {st:St} {a:Act} {w w':World}
theorem BlkR.written {nm n:Nm} {b b':Blk} {k:Nat} {us:List Value} (hB:BlkR C w nm b) (hreal:C.real nm=true) (hd:C'.dat n={ C.dat nm with len:=b'.xs.length }) (hbase:C'.base=C.base)
  (hk:k+us.length≤C.room nm*C.width nm) (hty:b'.box=false→C.width nm=b'.tys.length) (hmax:b'.xs.length≤maxLen) (hl:b'.xs.length≤C.room nm) (hbx:b'.box=true→b'.xs.length=1)
  (hc:∀ i x,b'.xs[i]?=some x→x.cells.length=C.width nm∧∀ j c,x.cells[j]?=some c→∃ u,(if k≤i*C.width nm+j∧i*C.width nm+j<k+us.length then us[i*C.width nm+j - k]?=some u else w.cell? (C.at nm i j)=some u)∧cellR C' b' j c u) :
  BlkR C' (w.setCells (C.loc nm).1 ((C.loc nm).2+k) us) n b':=by
 obtain ⟨r1,r2,r3,r4⟩:=hB.room hreal
 have some_:∀ j,j<us.length→(w.cell? ⟨(C.loc nm).1,(C.loc nm).2+k+j,none⟩).isSome=true:=fun j hj=>by
  have:=(r4 (k+j) (by omega)).1
  rwa [show (C.loc nm).2+(k+j)=(C.loc nm).2+k+j by omega] at this
 have inn:∀ o,k≤o→o<k+us.length→(w.setCells (C.loc nm).1 ((C.loc nm).2+k) us).cell? ⟨(C.loc nm).1,(C.loc nm).2+o,none⟩=us[o - k]?:=fun o h1 h2=>by
  have:=World.cell?_setCells_in (C.loc nm).1 us ((C.loc nm).2+k) w some_ (o - k) (by omega)
  rw [show (C.loc nm).2+k+(o - k)=(C.loc nm).2+o by omega] at this
  rw [this,List.getElem?_eq_getElem (by omega)]
 have out:∀ o,¬ (k≤o∧o<k+us.length)→(w.setCells (C.loc nm).1 ((C.loc nm).2+k) us).cell? ⟨(C.loc nm).1,(C.loc nm).2+o,none⟩=w.cell? ⟨(C.loc nm).1,(C.loc nm).2+o,none⟩:=fun o h=>by
  refine World.cell?_setCells_out _ us _ w _ fun _ _=>?_
  simp only
  omega
 have hloc:C'.loc n=C.loc nm:=by unfold Ctx.loc;rw [hd]
 have hwid:C'.width n=C.width nm:=by unfold Ctx.width;rw [hd]
 have hroom:C'.room n=C.room nm:=by unfold Ctx.room;rw [hd]
 have hrl:C'.real n=true:=by unfold Ctx.real;rw [hd];exact hreal
 have hsz:(w.setCells (C.loc nm).1 ((C.loc nm).2+k) us).heap.size=w.heap.size:=by
  have:∀ (us:List Value) (o:Nat) (w:World),(w.setCells (C.loc nm).1 o us).heap.size=w.heap.size:=by
   intro us
   induction us with
   | nil=>intro o w;rfl
   | cons u us ih=>intro o w;rw [World.setCells,ih];simp [World.setCell]
  exact this us _ w
 refine ⟨hmax,by unfold Ctx.len;rw [hd],by rw [hwid];exact hty,fun h=>⟨hbx h,hrl⟩,(fun h=>by rw [hrl] at h;cases h),?_,?_,fun _ h0 o=>by rw [World.frozen?_setCells,hloc];exact hB.froz hreal (by rw [← hroom,← hwid];exact h0) o⟩
 ·intro i x hx
  obtain ⟨h1,h2⟩:=hc i x hx
  refine ⟨by rw [hwid];exact h1,fun j c hj=>?_⟩
  obtain ⟨u,h3,h4⟩:=h2 j c hj
  refine ⟨u,?_,h4⟩
  unfold Ctx.at at_
  rw [hloc,hwid,Nat.add_assoc]
  by_cases hin:k≤i*C.width nm+j∧i*C.width nm+j<k+us.length
  ·rw [if_pos hin] at h3
   rw [inn _ hin.1 hin.2]
   exact h3
  ·rw [if_neg hin] at h3
   rw [out _ hin]
   unfold Ctx.at at_ at h3
   rw [Nat.add_assoc] at h3
   exact h3
 ·intro _
  rw [hloc,hwid,hroom,hbase,hsz]
  refine ⟨r1,r2,hl,fun o ho=>?_⟩
  rw [World.frozen?_setCells]
  refine ⟨?_,(r4 o ho).2⟩
  by_cases hin:k≤o∧o<k+us.length
  ·rw [inn _ hin.1 hin.2,List.getElem?_eq_getElem (by omega)]
   rfl
  ·rw [out _ hin]
   exact (r4 o ho).1
theorem grownBy_setCells (w:World) (b o:Nat) (us:List Value):w.grownBy (w.setCells b o us) (some b):=by
 induction us generalizing o w with
 | nil=>exact ⟨rfl,rfl,rfl,Nat.le_refl _,fun _ _ _=>rfl⟩
 | cons u us ih =>
  have h:=ih (w.setCell ⟨b,o,none⟩ u) (o+1)
  refine ⟨h.os,h.tape,h.output,Nat.le_trans (by simp [World.setCell]) h.size,fun k hk hne=>?_⟩
  rw [World.setCells,h.block k (by simpa [World.setCell] using hk) hne]
  exact RowKit.Below.heap_setCell w _ u k fun e=>hne (by simp [e])
theorem VR.toVC {ct:CT} {c:AV} {u:Value} (h:VR C c u) (hc:confC ct c=true):VC C.mem ct c u:=by
 cases c <;> cases ct <;> simp only [confC,Bool.false_eq_true] at hc
 ·cases h;exact .bool _
 ·rw [kEq_iff] at hc;subst hc;cases h;exact .int _ _
 ·cases h;exact .str _
 ·rw [ctsEq_eq _ _ hc]
  cases h with
  | sl _ _ _ h=>exact h
theorem confCs_get:∀ {ts:List CT} {xs:List AV},confCs ts xs=true→ts.length=xs.length∧∀ (j:Nat) (t:CT) (x:AV),ts[j]?=some t→xs[j]?=some x→confC t x=true
 | [],[],_=>⟨rfl,fun j t x h=>by simp at h⟩
 | [],_ :: _,h=>by simp [confCs] at h
 | _ :: _,[],h=>by simp [confCs] at h
 | t :: ts,x :: xs,h=>by
  simp only [confCs,Bool.and_eq_true] at h
  obtain ⟨h1,h2⟩:=confCs_get h.2
  refine ⟨by simp [h1],fun j t' x' ht hx=>?_⟩
  cases j with
  | zero=>simp at ht hx;rw [← ht,← hx];exact h.1
  | succ j=>exact h2 j t' x' (by simpa using ht) (by simpa using hx)
theorem projs_self {nm:Nm} {b:Blk} {i:Nat} {x:AV} (hB:BlkR C w nm b) (hbox:b.box=false) (hx:b.xs[i]?=some x):projs x 0 b.tys=x.cells:=by
 obtain ⟨h1,h2⟩:=hB.cells i x hx
 have hw:=hB.width hbox
 apply List.ext_getElem?
 intro j
 rw [projs_get]
 cases hc:x.cells[j]? with
 | none =>
  have:b.tys[j]?=none:=by
   rw [List.getElem?_eq_none_iff] at hc ⊢
   omega
  rw [this]
  rfl
 | some c =>
  obtain ⟨u,_,_,h4⟩:=h2 j c hc
  rw [hbox] at h4
  simp only [Bool.false_eq_true,if_false] at h4
  obtain ⟨ct,h5,h6⟩:=h4
  rw [h5]
  simp only [Option.map_some,Nat.zero_add]
  rw [proj_sound hc h6]
theorem store_blk {nm:Nm} {b b':Blk} {i off n:Nat} {v:AV} {u:Value} (hB:BlkR C w nm b) (hreal:C.real nm=true) (hi:i<b.xs.length) (hv:VR C v u) (h:storeA b i off n v=some b')
  (hvF:b.box=false→∀ (j:Nat) (t:CT) (y:AV) (x:Value),((b.tys.drop off).take n)[j]?=some t→v.cells[j]?=some y→u.cells[j]?=some x→VC C.memF t y x) :
  u.cells.size=n∧i*C.width nm+off+u.cells.size≤C.room nm*C.width nm∧(∀ x ∈ u.cells.toList,x.oneCell'=true)∧BlkR C (w.setCells (C.loc nm).1 ((C.loc nm).2+(i*C.width nm+off)) u.cells.toList) nm b':=by
 obtain ⟨r1,r2,r3,r4⟩:=hB.room hreal
 unfold storeA at h
 cases hg : !(okV v && Nat.beq v.cells.length n) with
 | true=>rw [hg] at h;simp at h
 | false =>
 rw [hg] at h
 simp only [Bool.not_eq_false',Bool.and_eq_true] at hg
 simp only [cond_false] at h
 have hn:=Nat.eq_of_beq_eq_true hg.2
 have hc:=okV_cells hv hg.1
 have hsz:=hc.size
 have one:∀ x ∈ u.cells.toList,x.oneCell'=true:=fun x hx=>by
  obtain ⟨j,hj⟩:=List.getElem?_of_mem hx
  exact hc.one j x (by simpa using hj)
 have key:∀ (x x':AV) (b1:Blk),b.xs[i]?=some x→b1.box=b.box→b1.tys=b.tys→b1.xs=b.xs.set i x'→off+v.cells.length≤x.cells.length→x'.cells=layAt x.cells off v.cells →
   (∀ j c x,off≤j→v.cells[j - off]?=some c→u.cells[j - off]?=some x→VR C c x→x.oneCell'=true→cellR C b1 j c x) →
   i*C.width nm+off+u.cells.size≤C.room nm*C.width nm∧BlkR C (w.setCells (C.loc nm).1 ((C.loc nm).2+(i*C.width nm+off)) u.cells.toList) nm b1:=by
  intro x x' b1 hx e1 e2 e3 hfit hlay hnew
  have hxw:=(hB.cells i x hx).1
  have hlen:b1.xs.length=b.xs.length:=by rw [e3,List.length_set]
  have hwle:(i+1)*C.width nm≤C.room nm*C.width nm:=Nat.mul_le_mul_right _ (by omega)
  rw [Nat.add_mul,Nat.one_mul] at hwle
  refine ⟨by omega,?_⟩
  refine hB.written hreal (C':=C) ?_ rfl (by simp only [Array.length_toList];omega) (fun hb=>by rw [e2];exact hB.width (e1 ▸ hb)) (by rw [hlen];exact hB.max) (by omega) (fun hb=>by rw [hlen];exact (hB.box (e1 ▸ hb)).1) ?_
  ·rw [hlen,← hB.len]
  ·intro i' y hy
   have keep:∀ j c u,cellR C b j c u→cellR C b1 j c u:=fun j c u h=>by unfold cellR at h ⊢;rw [e1,e2];exact h
   by_cases hii:i=i'
   ·subst hii
    rw [e3,List.getElem?_set_self hi] at hy
    ·simp only [Option.some.injEq] at hy
     subst hy
     rw [hlay]
     refine ⟨by rw [layAt_length _ _ _ hfit];exact hxw,fun j c hj=>?_⟩
     rw [layAt_get _ _ _ _ hfit] at hj
     by_cases hin:off≤j∧j<off+v.cells.length
     ·rw [if_pos hin] at hj
      have hlt:j - off<u.cells.size:=by rw [← hsz];exact (List.getElem?_eq_some_iff.1 hj).1
      have hu:u.cells[j - off]?=some u.cells[j - off]:=Array.getElem?_eq_getElem hlt
      refine ⟨u.cells[j - off],?_,hnew j c _ hin.1 hj hu (hc.get _ _ _ hj hu) (hc.one _ _ hu)⟩
      rw [if_pos (by simp only [Array.length_toList];omega)]
      rw [show i*C.width nm+j - (i*C.width nm+off)=j - off by omega]
      simp
     ·rw [if_neg hin] at hj
      obtain ⟨u',h3,h4⟩:=(hB.cells i x hx).2 j c hj
      refine ⟨u',?_,keep j c u' h4⟩
      rw [if_neg (by simp only [Array.length_toList];omega)]
      exact h3
   ·rw [e3,List.getElem?_set_ne hii] at hy
    obtain ⟨h1,h2⟩:=hB.cells i' y hy
    refine ⟨h1,fun j c hj=>?_⟩
    obtain ⟨u',h3,h4⟩:=h2 j c hj
    refine ⟨u',?_,keep j c u' h4⟩
    have hjl:j<C.width nm:=by rw [← h1];exact (List.getElem?_eq_some_iff.1 hj).1
    rw [if_neg ?_]
    ·exact h3
    ·simp only [Array.length_toList]
     rintro ⟨g1,g2⟩
     rcases Nat.lt_or_gt_of_ne hii with hlt|hgt
     ·have:(i+1)*C.width nm≤i'*C.width nm:=Nat.mul_le_mul_right _ hlt
      rw [Nat.add_mul,Nat.one_mul] at this
      omega
     ·have:(i'+1)*C.width nm≤i*C.width nm:=Nat.mul_le_mul_right _ hgt
      rw [Nat.add_mul,Nat.one_mul] at this
      omega
 cases hbox:b.box with
 | true =>
  rw [hbox] at h
  simp only [cond_true] at h
  cases hi0:Nat.beq i 0 with
  | false=>rw [hi0] at h;simp at h
  | true =>
   rw [hi0] at h
   have hi0:=Nat.eq_of_beq_eq_true hi0
   subst hi0
   simp only [cond_true] at h
   have newR:∀ b1:Blk,b1.box=b.box→∀ j c x,off≤j→v.cells[j - off]?=some c→u.cells[j - off]?=some x→VR C c x→x.oneCell'=true→cellR C b1 j c x:=fun b1 e j c x _ _ _ hcu h1=>by
    unfold cellR;rw [e,hbox];exact ⟨h1,by simpa using hcu⟩
   split at h
   ·rename_i cs hxs
    cases hle:Nat.ble (off+n) cs.length with
    | false=>rw [hle] at h;simp at h
    | true =>
     rw [hle] at h
     simp only [cond_true,Option.some.injEq] at h
     have hle:=Nat.le_of_ble_eq_true hle
     subst h
     obtain ⟨k1,k2⟩:=key (.agg cs) (.agg (layAt cs off v.cells)) ⟨true,b.tys,[.agg (layAt cs off v.cells)]⟩ (by rw [hxs];rfl) hbox.symm rfl (by rw [hxs];rfl) (by simp only [AV.cells] at *;omega) rfl (newR _ hbox.symm)
     exact ⟨by omega,k1,one,k2⟩
   ·cases h
   ·rename_i x hx1 hx2 hxs
    cases hle:Nat.beq off 0 && Nat.beq n 1 with
    | false=>rw [hle] at h;simp at h
    | true =>
     rw [hle] at h
     simp only [Bool.and_eq_true] at hle
     have e1:=Nat.eq_of_beq_eq_true hle.1
     have e2:=Nat.eq_of_beq_eq_true hle.2
     subst e1
     simp only [cond_true] at h
     have hxc:x.cells=[x]:=by cases x <;> first|rfl|exact absurd rfl (hx1 _)
     have hvc:v.cells=[v]∧b'=⟨true,b.tys,[v]⟩:=by
      split at h
      ·cases h
      ·cases h
      ·rename_i h3 h4
       refine ⟨?_,(Option.some.inj h).symm⟩
       cases v <;> first|rfl|exact absurd rfl (h3 _)
     obtain ⟨hvc,rfl⟩:=hvc
     obtain ⟨k1,k2⟩:=key x v ⟨true,b.tys,[v]⟩ (by rw [hxs];rfl) hbox.symm rfl (by rw [hxs];rfl) (by rw [hxc,hvc];simp) (by rw [hxc,hvc];rfl) (newR _ hbox.symm)
     exact ⟨by omega,k1,one,k2⟩
   ·cases h
 | false =>
  rw [hbox] at h
  simp only [cond_false] at h
  cases hle:Nat.ble (off+n) b.tys.length && confCs ((b.tys.drop off).take n) v.cells with
  | false=>rw [hle] at h;simp at h
  | true =>
   rw [hle] at h
   simp only [Bool.and_eq_true] at hle
   simp only [cond_true,Option.some.injEq] at h
   subst h
   have hfit:=Nat.le_of_ble_eq_true hle.1
   obtain ⟨g1,g2⟩:=confCs_get hle.2
   have hx:b.xs[i]?=some b.xs[i]:=List.getElem?_eq_getElem hi
   have hps:=projs_self hB hbox hx
   have hD:b.xs.getD i .undef=b.xs[i]:=by simp [hi]
   rw [hD,hps]
   have hw:=hB.width hbox
   have hxw:=(hB.cells i _ hx).1
   obtain ⟨k1,k2⟩:=key b.xs[i] (.agg (layAt b.xs[i].cells off v.cells)) ⟨false,b.tys,b.xs.set i (.agg (layAt b.xs[i].cells off v.cells))⟩ hx hbox.symm rfl rfl (by omega) rfl (fun j c x hj hcj hxj hcu h1=>by
    unfold cellR
    simp only [Bool.false_eq_true,if_false]
    have hlt:j - off<v.cells.length:=(List.getElem?_eq_some_iff.1 hcj).1
    have htj:b.tys[j]?=some (b.tys[j]'(by omega)):=List.getElem?_eq_getElem (by omega)
    refine ⟨h1,_,htj,hvF hbox (j - off) _ _ _ ?_ hcj hxj⟩
    rw [List.getElem?_take_of_lt (by omega),List.getElem?_drop,show off+(j - off)=j by omega]
    exact htj)
   exact ⟨by omega,k1,one,k2⟩
theorem store_eff [Glob] {o:Oper} {π:Nm} {t:TypeId} {x y:Operand} {nm:Nm} {i off:Nat} {b b':Blk} (hd:∀ d,o.dst=some d→d<nt) (hop:o.op = .store t x y) (hs:Sim C nt st a w)
  (hx:opA st.env x = .ptr nm i off) (hb:getH st.heap nm=some b) {v:AV} (hv:VR C v (a.eval y)) (h:storeA b i off (P.cellsOf t) v=some b') (hc:P.cellsOf t ≠ 0)
  (hvF:b.box=false→∀ (j:Nat) (ct:CT) (z:AV) (x:Value),((b.tys.drop off).take (P.cellsOf t))[j]?=some ct→v.cells[j]?=some z→(a.eval y).cells[j]?=some x→VC C.memF ct z x) :
  Eff P π C nt o a w (St.set ⟨st.env,setH st.heap nm b'⟩ o.dst (.tup [])):=by
 have hp:=opA_sound hs x
 rw [hx] at hp
 generalize ha:a.eval x=ux at hp
 cases hp with
 | ptr _ _ _ hr hi =>
  have hB:=hs.blk nm b hb
  have hlen:=hB.len
  obtain ⟨h1,h2,h3,h4⟩:=store_blk hB hr (by omega) hv h hvF
  obtain ⟨r1,r2,r3,r4⟩:=hB.room hr
  have hrun:(Instr.storeAt t (.pointer (some (C.at nm i off))) (a.eval y)).run P w = .ok () (w.setCells (C.loc nm).1 ((C.loc nm).2+(i*C.width nm+off)) (a.eval y).cells.toList):=by
   unfold Instr.storeAt
   rw [run_bind' (x:=C.at nm i off) (w':=w) rfl]
   unfold storeVar
   rw [run_bind' (run_sizeOf' hc)]
   rw [if_neg (by rw [h1];simp)]
   have:C.at nm i off=⟨(C.loc nm).1,(C.loc nm).2+(i*C.width nm+off),none⟩:=by unfold Ctx.at at_;rw [Nat.add_assoc]
   rw [this]
   have:=run_storeCells_cells (P:=P) (C.loc nm).1 ((C.loc nm).2+(i*C.width nm+off)) (a.eval y).cells.toList 0 w (fun j hj=>by
     have:=(r4 (i*C.width nm+off+j) (by simp only [Array.length_toList] at hj;omega)).1
     rwa [show (C.loc nm).2+(i*C.width nm+off+j)=(C.loc nm).2+(i*C.width nm+off)+0+j by omega] at this)
    (fun j hj=>by
     have:=(r4 (i*C.width nm+off+j) (by simp only [Array.length_toList] at hj;omega)).2
     rwa [show (C.loc nm).2+(i*C.width nm+off+j)=(C.loc nm).2+(i*C.width nm+off)+0+j by omega] at this) h3
   exact this
  have hdel:=hs.toHSim.del nm
  have away:∀ n b1,getH (delH st.heap nm) n=some b1→C.real n=true→(C.loc n).1 ≠ (C.loc nm).1:=fun n b1 hn hrn=>by
   rw [getH_delH] at hn
   split at hn
   ·cases hn
   ·rename_i hne
    exact hs.apart n b1 nm b hn hb hrn hr (fun e=>hne e.symm)
  have amem:(∀ z v,C.mem z=some v→z.block ≠ (C.loc nm).1)∧¬ C.fr (C.loc nm).1:=⟨fun z v hz e=>(hs.mem z v hz).2.2 nm b hb hr e.symm,fun hf=>(hs.frame _ hf).2.2 nm b hb hr rfl⟩
  have hw1:=hdel.world (grownBy_setCells w (C.loc nm).1 ((C.loc nm).2+(i*C.width nm+off)) (a.eval y).cells.toList) (fun k hk=>by
   obtain rfl:=Option.some.inj hk
   exact ⟨r1,fun n b1=>away n b1,amem⟩)
  have hw2:=hw1.setBlk h4 fun _=>⟨fun n b1 _ hn hrn=>away n b1 hn hrn,amem⟩
  have hsame:∀ n,getH (setH (delH st.heap nm) nm b') n=getH (setH st.heap nm b') n:=fun n=>by
   rw [getH_setH,getH_setH,getH_delH]
   split <;> rfl
  have hw3:HSim C (setH st.heap nm b') (w.setCells (C.loc nm).1 ((C.loc nm).2+(i*C.width nm+off)) (a.eval y).cells.toList) :=
   ⟨fun n b1 hn=>hw2.blk n b1 (by rw [hsame];exact hn),fun n b1 n' b2 g1 g2=>hw2.apart n b1 n' b2 (by rw [hsame];exact g1) (by rw [hsame];exact g2),
    fun z v hz=>⟨(hw2.mem z v hz).1,(hw2.mem z v hz).2.1,fun n b1 hn=>(hw2.mem z v hz).2.2 n b1 (by rw [hsame];exact hn)⟩,hw2.grown,hw2.kept,hw2.blk0,hw2.own,hw2.glob,fun k hk=>⟨(hw2.frame k hk).1,(hw2.frame k hk).2.1,fun n b1 hn=>(hw2.frame k hk).2.2 n b1 (by rw [hsame];exact hn)⟩⟩
  refine ⟨C,.skip,undef,_,?_,.inr ⟨rfl,rfl⟩,Agree.refl _ _,(hs.withH hw3 hs.env).puts (.tup [] [] rfl (fun i c v h=>by simp at h)) hd⟩
  unfold execOp
  simp only [hop,ha]
  exact run_bind' hrun
end
end Go.Proofs.VE
