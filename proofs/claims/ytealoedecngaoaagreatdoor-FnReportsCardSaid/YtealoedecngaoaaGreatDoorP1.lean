import Derived.Test.YtealoedecngaoaaGreatDoorP0
namespace Go.Proofs.VE
open Go
section
variable {P:Program} {C C':Ctx} {nt:Nat} {st:St} {a:Act} {w w':World}
theorem run_append_zero {t ty e:TypeId} {i:TypeInfo} {base av:Option Addr} {n cap c:Nat} (ht:P.underlying t=some (.slice e)) (hi:P.info? e=some i) (hn:n≤cap) :
  (Builtin.append_ #[t,t] ty #[.slice base n cap,.slice av 0 c]).run P w = .ok (.slice base n cap) w:=by
 cases base <;> cases av <;> simp [Builtin.append_,run_underlying ht,sizeOf,typeInfo,hi,Builtin.lenOf,Builtin.firstCells,loadCells,loadCellsFrom,storeCells,hn]
theorem run_append_in {t ty e:TypeId} {i:TypeInfo} {A ad:Addr} {n cap m c:Nat} {news:List Value} (ht:P.underlying t=some (.slice e)) (hi:P.info? e=some i)
  (hl:news.length=m*i.size) (hnews:∀ (j:Nat) (u:Value),news[j]?=some u→w.cell? (ad.add j)=some u) (hroom:n+m≤cap) (hst:(storeCells (A.add (n*i.size)) news).run P w = .ok () w') :
  (Builtin.append_ #[t,t] ty #[.slice (some A) n cap,.slice (some ad) m c]).run P w = .ok (.slice (some A) (n+m) cap) w':=by
 have hf:=run_firstCells_some (P:=P) w i.size m ad m c news hl hnews
 simp [Builtin.append_,run_underlying ht,sizeOf,typeInfo,hi,Builtin.lenOf,hroom,hf,hst]
theorem slice_over [Glob] {o:Oper} {d:Nat} {π:Nm} {tys:List CT} {xs:List AV} {u:Value} (hd:d<nt) (ho:o.dst=some d) (hs:Sim C nt st a w) (hq:cleanS (d :: π) st=true) {D:Dat} {r:Option Nat}
  (hg:w.grownBy w' r) (hr:∀ k,r=some k→C.base≤k∧(∀ nm b,getH st.heap nm=some b→C.real nm=true→(C.loc nm).1 ≠ k)∧(∀ a v,C.mem a=some v→a.block ≠ k)∧¬ C.fr k)
  (hb:BlkR (C.set (1 :: d :: π) D) w' (1 :: d :: π) ⟨false,tys,xs⟩) (hD:D.real=true→(∀ nm b',getH st.heap nm=some b'→C.real nm=true→(C.loc nm).1 ≠ D.loc.1)∧(∀ a v,C.mem a=some v→a.block ≠ D.loc.1)∧¬ C.fr D.loc.1)
  (hu:VR (C.set (1 :: d :: π) D) (.own (1 :: d :: π)) u) (hrun:(execOp a.eval o).run P w = .ok (.value u) w') :
  Eff P π C nt o a w ⟨setE st.env d (.own (1 :: d :: π)),setH st.heap (1 :: d :: π) ⟨false,tys,xs⟩⟩:=by
 obtain ⟨h1,h2⟩:=hs.new hq (under_new d π) hg hr hb hD
 refine ⟨_,_,_,_,hrun,.inl rfl,h2.mono fun nm h=>under_isLoc h,?_⟩
 rw [ho]
 exact h1.put hu hd
theorem slice_none [Glob] {o:Oper} {d:Nat} {π:Nm} {tys:List CT} (hd:d<nt) (ho:o.dst=some d) (hs:Sim C nt st a w) (hq:cleanS (d :: π) st=true)
  (hrun:(execOp a.eval o).run P w = .ok (.value (.slice none 0 0)) w) :
  Eff P π C nt o a w ⟨setE st.env d (.own (1 :: d :: π)),setH st.heap (1 :: d :: π) ⟨false,tys,[]⟩⟩:=by
 refine slice_over (D:=⟨false,(0,0),tys.length,0,0⟩) (r:=none) hd ho hs hq ⟨rfl,rfl,rfl,Nat.le_refl _,fun _ _ _=>rfl⟩ (fun k h=>by cases h) ?_ (fun h=>by cases h) (.ownNil _ (by unfold Ctx.len;rw [Ctx.set_dat])) hrun
 refine ⟨by simp,by unfold Ctx.len;rw [Ctx.set_dat];rfl,by unfold Ctx.width;rw [Ctx.set_dat];exact fun _=>rfl,(fun h=>by cases h),fun _=>rfl,(fun i x h=>by simp at h),?_,?_⟩ <;>
 ·unfold Ctx.real
  rw [Ctx.set_dat]
  exact fun h=>by cases h
theorem append_eff [Glob] {o:Oper} {d:Nat} {π:Nm} {x y:Operand} {args:Array Operand} {argTypes:Array TypeId} {t e:TypeId} {tys:List CT} {ys:List AV} (hd:d<nt) (ho:o.dst=some d)
  (hop:o.op = .call { callee := .builtin .append,args,argTypes }) (hargs:args.toList=[x,y]) (hts:argTypes.toList=[t,t]) (hs:Sim C nt st a w) (he:elemT P t=some e)
  (hy:elemsA st.heap (opA st.env y)=some (tys,ys)) (hq:cleanS (d :: π) st=true) (htl:tys.length=P.cellsOf e) (hok:zeroOK P e=true) (ht0:tys.length ≠ 0) (hyF:elemsF st.heap (opA st.env y)=true) :
  (opA st.env x = .snil→ys.length*P.bytesOf e≤140737488355328→ys.length≤140737488355328→Eff P π C nt o a w ⟨setE st.env d (.own (1 :: d :: π)),setH st.heap (1 :: d :: π) ⟨false,tys,ys⟩⟩) ∧
  (∀ nm b,opA st.env x = .own nm→getH st.heap nm=some b→b.box=false→tys=b.tys→(b.xs.length+ys.length)*P.bytesOf e≤140737488355328→b.xs.length+ys.length≤140737488355328 →
   Eff P π C nt o a w ⟨setE st.env d (.own (1 :: d :: π)),setH (delH st.heap nm) (1 :: d :: π) ⟨false,b.tys,b.xs++ys⟩⟩):=by
 obtain ⟨zv,i,_,hi,hzero,hz,hsz,hby,_⟩:=zeroOK_spec hok C
 obtain ⟨ht,_⟩:=elemT_spec he
 obtain ⟨av,c,us,hyu,⟨_,hF⟩,hus⟩:=elems_sound hs (opA_sound hs y) hy
 have hF:=hF hyF
 have ea:args.map a.eval=#[a.eval x,.slice av ys.length c]:=by apply Array.ext';simp [hargs,hyu]
 have et:argTypes=#[t,t]:=by apply Array.ext';simp [hts]
 have exec:∀ {u:Value} {w':World},(Builtin.append_ #[t,t] o.type #[a.eval x,.slice av ys.length c]).run P w = .ok u w'→(execOp a.eval o).run P w = .ok (.value u) w':=by
  intro u w' h
  unfold execOp
  simp only [hop]
  unfold resolve
  simp only [pure_bind]
  unfold invoke
  simp only
  rw [ea,et]
  exact run_v h
 have hlen:us.length=ys.length*P.cellsOf e:=by rw [hF.len,htl]
 have zsz:∀ n,(Builtin.zeroCells zv.cells n).size=n*P.cellsOf e:=fun n=>by rw [size_zeroCells,hz]
 have fromNil:∀ (s:St),Sim C nt s a w→cleanS (d :: π) s=true→a.eval x = .slice none 0 0→ys.length*P.bytesOf e≤140737488355328→ys.length≤140737488355328 →
   Eff P π C nt o a w ⟨setE s.env d (.own (1 :: d :: π)),setH s.heap (1 :: d :: π) ⟨false,tys,ys⟩⟩:=by
  intro s hs' hq' hx hb1 hb2
  by_cases h0:ys.length=0
  ·have:ys=[]:=List.eq_nil_of_length_eq_zero h0
   subst this
   refine slice_none hd ho hs' hq' (exec ?_)
   rw [hx]
   exact run_append_zero ht hi (Nat.le_refl 0)
  ·have hpos:0<us.length:=by rw [hlen];exact Nat.mul_pos (by omega) (by omega)
   obtain ⟨ad,rfl,hcell⟩:=hus hpos
   have hr:=run_append_nil (P:=P) w t o.type e i zv ht hi hzero ad ys.length c us (by rw [hsz];exact hlen) hcell (by omega) (by omega) (by rw [hby];omega)
   have hge:=grownCap_ge w ys.length 0 e
   refine slice_new (us:=us) (cap:=grownCap w ys.length 0 e) (w1:=w.drew) hd ho hs' hq' hF (by unfold maxLen;omega) hge ?_ ?_ ⟨rfl,rfl,rfl,Nat.le_refl _,fun _ _ _=>rfl⟩ rfl (exec (by rw [hx];exact hr))
   ·rw [Array.size_append,List.size_toArray,zsz,hlen,htl,← Nat.add_mul]
    exact Nat.mul_le_mul_right _ (by omega)
   ·intro k u hk
    rw [Array.getElem?_append_left (by simpa using (List.getElem?_eq_some_iff.1 hk).1)]
    simpa using hk
 refine ⟨fun hx hb1 hb2=>?_,fun nm b hx hb hbox htys hb1 hb2=>?_⟩
 ·have hxv:=opA_sound hs x
  rw [hx] at hxv
  refine fromNil st hs hq ?_ hb1 hb2
  generalize a.eval x=u at hxv
  cases hxv
  rfl
 ·subst htys
  have hxv:=opA_sound hs x
  rw [hx] at hxv
  have hB:=hs.blk nm b hb
  have hBl:=hB.len
  have hBw:=hB.width hbox
  have hs1:Sim C nt ⟨st.env,delH st.heap nm⟩ a w:=hs.withH (hs.toHSim.del nm) hs.env
  have hq1:cleanS (d :: π) ⟨st.env,delH st.heap nm⟩=true:=by
   unfold cleanS at hq ⊢
   rw [Bool.and_eq_true] at hq ⊢
   exact ⟨hq.1,cleanH_del hq.2 nm⟩
  obtain ⟨av',c',vs,hxe,⟨_,hG⟩,hvs⟩:=elems_sound hs hxv (show elemsA st.heap (.own nm)=some (b.tys,b.xs) by simp [elemsA,hb,hbox])
  have hG:=hG rfl
  generalize hxu:a.eval x=u at hxv
  cases hxv with
  | ownNil _ hz0 =>
   have hx0:b.xs=[]:=List.eq_nil_of_length_eq_zero (by omega)
   have:=fromNil _ hs1 hq1 hxu (by rw [hx0] at hb1;simpa using hb1) (by rw [hx0] at hb2;simpa using hb2)
   rw [hx0]
   exact this
  | own _ cap hr h1 h2 =>
   obtain ⟨r1,r2,r3,r4⟩:=hB.room hr
   have away:∀ n b1,getH (delH st.heap nm) n=some b1→C.real n=true→(C.loc n).1 ≠ (C.loc nm).1:=fun n b1 hn hrn=>by
    rw [getH_delH] at hn
    split at hn
    ·cases hn
    ·rename_i hne
     exact hs.apart n b1 nm b hn hb hrn hr (fun e=>hne e.symm)
   have amem:(∀ z v,C.mem z=some v→z.block ≠ (C.loc nm).1)∧¬ C.fr (C.loc nm).1:=⟨fun z v hz e=>(hs.mem z v hz).2.2 nm b hb hr e.symm,fun hf=>(hs.frame _ hf).2.2 nm b hb hr rfl⟩
   have hA0:C.at nm 0 0=⟨(C.loc nm).1,(C.loc nm).2,none⟩:=by unfold Ctx.at at_;simp
   have hvlen:vs.length=b.xs.length*P.cellsOf e:=by rw [hG.len,htl]
   have over:b.xs.length+ys.length≤cap→(execOp a.eval o).run P w = .ok (.value (.slice (some (C.at nm 0 0)) (C.len nm+ys.length) cap)) (w.setCells (C.loc nm).1 ((C.loc nm).2+b.xs.length*C.width nm) us) →
     Eff P π C nt o a w ⟨setE st.env d (.own (1 :: d :: π)),setH (delH st.heap nm) (1 :: d :: π) ⟨false,b.tys,b.xs++ys⟩⟩:=by
    intro hfit hrun
    have hdat:(C.set (1 :: d :: π) { C.dat nm with len:=(b.xs++ys).length }).dat (1 :: d :: π)={ C.dat nm with len:=(b.xs++ys).length }:=Ctx.set_dat _ _ _
    have hblk:BlkR (C.set (1 :: d :: π) { C.dat nm with len:=(b.xs++ys).length }) (w.setCells (C.loc nm).1 ((C.loc nm).2+b.xs.length*C.width nm) us) (1 :: d :: π) ⟨false,b.tys,b.xs++ys⟩:=by
     have hkle:(b.xs.length+ys.length)*C.width nm≤C.room nm*C.width nm:=Nat.mul_le_mul_right _ (by omega)
     have huw:us.length=ys.length*C.width nm:=by rw [hF.len,hBw]
     rw [Nat.add_mul] at hkle
     refine hB.written hr hdat rfl (by omega) (fun _=>hBw) (by rw [List.length_append];unfold maxLen;omega) (by simp;omega) (fun h=>by cases h) ?_
     intro k z hz'
     by_cases hk:k<b.xs.length
     ·rw [List.getElem?_append_left hk] at hz'
      obtain ⟨g1,g2⟩:=hB.cells k z hz'
      refine ⟨g1,fun j cc hj=>?_⟩
      obtain ⟨u,g3,g4⟩:=g2 j cc hj
      have hjw:j<C.width nm:=by rw [← g1];exact (List.getElem?_eq_some_iff.1 hj).1
      have hle:(k+1)*C.width nm≤b.xs.length*C.width nm:=Nat.mul_le_mul_right _ hk
      rw [Nat.add_mul,Nat.one_mul] at hle
      refine ⟨u,by rw [if_neg (by omega)];exact g3,?_⟩
      unfold cellR at g4 ⊢
      rw [hbox] at g4
      exact g4
     ·rw [List.getElem?_append_right (by omega)] at hz'
      obtain ⟨g1,g2⟩:=hF.cells _ z hz'
      refine ⟨by rw [hBw];exact g1,fun j cc hj=>?_⟩
      obtain ⟨u,ct,g3,g4,g5⟩:=g2 j cc hj
      have hlt:=(List.getElem?_eq_some_iff.1 g3).1
      rw [← hBw] at g3 hlt
      have e1:k*C.width nm=(k - b.xs.length)*C.width nm+b.xs.length*C.width nm:=by rw [← Nat.add_mul,Nat.sub_add_cancel (by omega)]
      refine ⟨u,?_,g5.oneCell',?_⟩
      ·rw [if_pos (by omega),← g3]
       congr 1
       omega
      ·simp only [Bool.false_eq_true,if_false]
       exact ⟨ct,g4,g5⟩
    refine slice_over (D:={ C.dat nm with len:=(b.xs++ys).length }) hd ho hs1 hq1 (grownBy_setCells w (C.loc nm).1 ((C.loc nm).2+b.xs.length*C.width nm) us) (fun k hk=>by
      obtain rfl:=Option.some.inj hk
      exact ⟨r1,fun n b1=>away n b1,amem⟩) hblk (fun _=>⟨fun n b1=>away n b1,amem⟩) ?_ hrun
    have e1:C.at nm 0 0=(C.set (1 :: d :: π) { C.dat nm with len:=(b.xs++ys).length }).at (1 :: d :: π) 0 0:=by
     unfold Ctx.at Ctx.loc Ctx.width
     rw [hdat]
    have e2:C.len nm+ys.length=(C.set (1 :: d :: π) { C.dat nm with len:=(b.xs++ys).length }).len (1 :: d :: π):=by
     unfold Ctx.len
     rw [hdat]
     simp only [List.length_append]
     have:(C.dat nm).len=b.xs.length:=hBl
     omega
    rw [e1,e2]
    refine .own _ cap ?_ ?_ ?_
    ·unfold Ctx.real;rw [hdat];exact hr
    ·rw [← e2];omega
    ·unfold Ctx.room;rw [hdat];exact h2
   by_cases h0:ys.length=0
   ·have hy0:us=[]:=List.eq_nil_of_length_eq_zero (by rw [hlen,h0];simp)
    refine over (by omega) (exec ?_)
    rw [hxu,hy0,h0,Nat.add_zero]
    have:=run_append_zero (P:=P) (w:=w) (ty:=o.type) (base:=some (C.at nm 0 0)) (av:=av) (n:=C.len nm) (cap:=cap) (c:=c) ht hi h1
    exact this
   ·have hpos:0<us.length:=by rw [hlen];exact Nat.mul_pos (by omega) (by omega)
    obtain ⟨ad,rfl,hcell⟩:=hus hpos
    by_cases hfit:b.xs.length+ys.length≤cap
    ·refine over hfit (exec ?_)
     rw [hxu]
     have hkle:(b.xs.length+ys.length)*C.width nm≤C.room nm*C.width nm:=Nat.mul_le_mul_right _ (by omega)
     have huw:us.length=ys.length*C.width nm:=by rw [hF.len,hBw]
     rw [Nat.add_mul] at hkle
     refine run_append_in ht hi (by rw [hsz];exact hlen) hcell (by omega) ?_
     rw [hA0,add_at,hBl,hsz,← htl,← hBw]
     have:=run_storeCells_cells (P:=P) (C.loc nm).1 ((C.loc nm).2+b.xs.length*C.width nm) us 0 w (fun j hj=>by
       have:=(r4 (b.xs.length*C.width nm+j) (by omega)).1
       rwa [show (C.loc nm).2+(b.xs.length*C.width nm+j)=(C.loc nm).2+b.xs.length*C.width nm+0+j by omega] at this)
      (fun j hj=>by
       have:=(r4 (b.xs.length*C.width nm+j) (by omega)).2
       rwa [show (C.loc nm).2+(b.xs.length*C.width nm+j)=(C.loc nm).2+b.xs.length*C.width nm+0+j by omega] at this) hF.one
     exact this
    ·
     have hold:∀ (j:Nat) (v:Value),vs[j]?=some v→w.cell? ((C.at nm 0 0).add j)=some v:=by
      intro j v hj
      obtain ⟨ad',e1,e2⟩:=hvs (by have:=(List.getElem?_eq_some_iff.1 hj).1;omega)
      rw [hxu] at hxe
      simp only [Value.slice.injEq] at hxe
      rw [e1] at hxe
      have:=Option.some.inj hxe.1
      rw [this]
      exact e2 j v hj
     have hr':=run_append_grow (P:=P) w t o.type e i zv ht hi hzero (C.at nm 0 0) b.xs.length cap vs (by rw [hsz];exact hvlen) hold ad ys.length c us (by rw [hsz];exact hlen) hcell (by omega) (by omega)
      (growslice_fits (by omega) (by rw [hby];exact hb1))
     have hge:=grownCap_ge w (b.xs.length+ys.length) cap e
     refine slice_new (us:=vs++us) (cap:=grownCap w (b.xs.length+ys.length) cap e) (w1:=w.drew) hd ho hs1 hq1 (hG.append hF) (by rw [List.length_append];unfold maxLen;omega) (by rw [List.length_append];exact hge) ?_ ?_ ⟨rfl,rfl,rfl,Nat.le_refl _,fun _ _ _=>rfl⟩ rfl (exec (by rw [hxu,hBl,List.length_append];exact hr'))
     ·rw [Array.size_append,Array.size_append,List.size_toArray,List.size_toArray,zsz,hlen,hvlen,htl,← Nat.add_mul,← Nat.add_mul]
      exact Nat.mul_le_mul_right _ (by omega)
     ·intro k u hk
      rw [Array.getElem?_append_left (by have:=(List.getElem?_eq_some_iff.1 hk).1;simpa using this)]
      simpa using hk
end
end Go.Proofs.VE

namespace Go.Proofs.VE
open Go
def C0 (w:World):Ctx:={ base:=w.heap.size,w0:=w,mem:=w.cell?,dat:=fun _=>⟨false,(0,0),0,0,0⟩ }
section
variable {P:Program} {C C':Ctx} {nt:Nat} {st:St} {a:Act} {w w':World} {heap:List (Nm × Blk)}
theorem slice_cap {y:AV} {u:Value} {tys:List CT} {ys:List AV} {av:Option Addr} {n cap:Nat} (hy:VR C y u) (h:elemsA heap y=some (tys,ys)) (hu:u = .slice av n cap):n≤cap:=by
 subst hu
 unfold elemsA at h
 split at h
 ·cases hy with
  | own _ _ _ h1 _=>exact h1
  | ownNil=>exact Nat.le_refl 0
 ·cases hy with
  | sub _ _ _ _ _ h1 _ _ _=>exact h1
 ·cases hy with
  | sl _ _ _ hv=>cases hv with
   | sl _ _ _ _ _ hcap=>exact hcap
 ·cases hy
  exact Nat.zero_le _
 ·cases h
theorem elems_max [Glob] {y:AV} {u:Value} {tys:List CT} {ys:List AV} (hs:HSim C heap w) (hy:VR C y u) (h:elemsA heap y=some (tys,ys)):ys.length≤maxLen:=by
 unfold elemsA at h
 split at h
 ·split at h
  ·rename_i nm _ b hb
   cases hbox:b.box <;> rw [hbox] at h <;> simp at h
   rw [← h.2]
   exact (hs.blk nm b hb).max
  ·cases h
 ·split at h
  ·rename_i nm o n _ b hb
   cases hc:(!b.box && decide (o+n≤b.xs.length)) <;> rw [hc] at h <;> simp at h
   rw [← h.2]
   refine Nat.le_trans ?_ (hs.blk nm b hb).max
   simp
   omega
  ·cases h
 ·simp only [Option.some.injEq,Prod.mk.injEq] at h
  obtain ⟨_,rfl⟩:=h
  cases hy with
  | sl _ _ _ hv=>cases hv with
   | sl _ _ _ _ _ _ hmax=>exact hmax
 ·simp only [Option.some.injEq,Prod.mk.injEq] at h
  rw [← h.2]
  exact Nat.zero_le _
 ·cases h
theorem sl_of_flat {tys:List CT} {ys:List AV} {us:List Value} {av:Option Addr} {cap:Nat} {mem:Addr→Option Value} (hm:∀ a v,mem a=some v→w.cell? a=some v) (hF:Flat mem tys ys us) (hmax:ys.length≤maxLen) (hcap:ys.length≤cap)
  (hus:0<us.length→∃ ad:Addr,av=some ad∧∀ (j:Nat) (v:Value),us[j]?=some v→w.cell? (ad.add j)=some v) (hspot:∀ ad,av=some ad→ys.length ≠ 0→ad.spot=none) (hav:ys.length ≠ 0→av ≠ none) :
  VC w.cell? (.sl tys) (.sl tys ys) (.slice av ys.length cap):=by
 refine .sl tys ys av cap (fun i j=>(us[i*tys.length+j]?).getD undef) hcap hmax ?_ ?_ (fun i x hx=>(hF.cells i x hx).1) ?_
 ·intro i j hi hj
  have hle:(i+1)*tys.length≤ys.length*tys.length:=Nat.mul_le_mul_right _ hi
  rw [Nat.add_mul,Nat.one_mul] at hle
  have hlt:i*tys.length+j<us.length:=by rw [hF.len];omega
  obtain ⟨ad,e1,e2⟩:=hus (by omega)
  have hs:=hspot ad e1 (by omega)
  obtain ⟨b,o,s⟩:=ad
  simp only at hs
  subst hs
  refine ⟨b,o,e1,?_⟩
  have:=e2 (i*tys.length+j) us[i*tys.length+j] (List.getElem?_eq_getElem hlt)
  rw [add_at] at this
  unfold at_
  rw [Nat.add_assoc,this,List.getElem?_eq_getElem hlt]
  rfl
 ·intro h0
  cases av with
  | none=>exact absurd rfl (hav (by omega))
  | some ad =>
   have hs:=hspot ad rfl (by omega)
   obtain ⟨b,o,s⟩:=ad
   simp only at hs
   subst hs
   exact ⟨b,o,rfl⟩
 ·intro i x j ct c hx ht hc
  obtain ⟨u,ct',h1,h2,h3⟩:=(hF.cells i x hx).2 j c hc
  rw [ht] at h2
  obtain rfl:=Option.some.inj h2
  simp only [h1,Option.getD_some]
  exact h3.mono hm
theorem ro_elems [Glob] {x y:AV} {u:Value} {tys:List CT} {ys:List AV} (hs:Sim C nt st a w) (hx:VR C x u) (h:elemsA st.heap x=some (tys,ys)) (hy:y = .sl tys ys):VR (C0 w) y u:=by
 subst hy
 obtain ⟨av,cap,us,hu,⟨hF,_⟩,hus⟩:=elems_sound hs hx h
 have hcap:=slice_cap hx h hu
 have hmax:=elems_max hs.toHSim hx h
 have hm:∀ a v,C.mem a=some v→w.cell? a=some v:=fun a v h=>(hs.mem a v h).1
 subst hu
 have hsp:(∀ ad,av=some ad→ys.length ≠ 0→ad.spot=none)∧(ys.length ≠ 0→av ≠ none):=by
  unfold elemsA at h
  split at h
  ·generalize hu:Value.slice av ys.length cap=u at hx
   cases hx with
   | own _ _ _ _ _ =>
    simp only [Value.slice.injEq] at hu
    obtain ⟨rfl,_⟩:=hu
    refine ⟨fun ad e _=>?_,fun _ e=>by cases e⟩
    obtain rfl:=Option.some.inj e
    rfl
   | ownNil _ _ =>
    simp only [Value.slice.injEq] at hu
    exact ⟨fun ad e h0=>absurd hu.2.1 h0,fun h0=>absurd hu.2.1 h0⟩
  ·generalize hu:Value.slice av ys.length cap=u at hx
   cases hx with
   | sub _ _ n _ _ _ h2 _ _ =>
    simp only [Value.slice.injEq] at hu
    obtain ⟨rfl,h3,_⟩:=hu
    refine ⟨fun ad e h0=>?_,fun h0 e=>?_⟩
    ·have:=(h2 (by omega)).2
     rw [e] at this
     obtain rfl:=Option.some.inj this
     rfl
    ·have:=(h2 (by omega)).2
     rw [e] at this
     cases this
  ·cases hx with
   | sl _ _ _ hv =>
    generalize hu:Value.slice av ys.length cap=u at hv
    cases hv with
    | sl _ _ _ _ _ _ _ _ ha =>
     simp only [Value.slice.injEq] at hu
     obtain ⟨rfl,h3,_⟩:=hu
     refine ⟨fun ad e h0=>?_,fun h0 e=>?_⟩
     ·obtain ⟨b,o,e'⟩:=ha (by omega)
      rw [e] at e'
      obtain rfl:=Option.some.inj e'
      rfl
     ·obtain ⟨b,o,e'⟩:=ha (by omega)
      rw [e] at e'
      cases e'
  ·simp only [Option.some.injEq,Prod.mk.injEq] at h
   rw [← h.2]
   exact ⟨fun ad e h0=>absurd rfl h0,fun h0=>absurd rfl h0⟩
  ·cases h
 exact .sl _ _ _ (sl_of_flat hm hF hmax hcap hus hsp.1 hsp.2)
theorem ctsOf_get:∀ {cs:List AV} {tys:List CT},ctsOf cs=some tys→cs.length=tys.length∧∀ (j:Nat) (ct:CT) (c:AV),tys[j]?=some ct→cs[j]?=some c→ctOf c=some ct
 | [],tys,h=>by
  simp only [ctsOf,Option.some.injEq] at h
  subst h
  exact ⟨rfl,fun j ct c h=>by simp at h⟩
 | c :: r,tys,h=>by
  simp only [ctsOf] at h
  split at h
  ·rename_i t ts h1 h2
   obtain rfl:=Option.some.inj h
   obtain ⟨g1,g2⟩:=ctsOf_get h2
   refine ⟨by simp [g1],fun j ct c' ht hc=>?_⟩
   cases j with
   | zero=>simp at ht hc;subst ht;subst hc;exact h1
   | succ j=>exact g2 j ct c' (by simpa using ht) (by simpa using hc)
  ·cases h
theorem VR.ctOf {c:AV} {u:Value} {ct:CT} (h:VR C c u) (hc:ctOf c=some ct):VC C.mem ct c u:=by
 unfold VE.ctOf at hc
 split at hc
 ·obtain rfl:=Option.some.inj hc;cases h;exact .int _ _
 ·obtain rfl:=Option.some.inj hc;cases h;exact .bool _
 ·obtain rfl:=Option.some.inj hc;cases h;exact .str _
 ·obtain rfl:=Option.some.inj hc
  cases h with
  | sl _ _ _ h=>exact h
 ·obtain rfl:=Option.some.inj hc
  cases h with
  | fn _ _ vs h1 _ =>
   obtain rfl:vs=[]:=List.eq_nil_of_length_eq_zero h1.symm
   exact .fn _
 ·cases hc
theorem capArg_sound [Glob] {x y:AV} {u:Value} (hs:Sim C nt st a w) (hx:VR C x u) (h:capArg st.heap x=some y):VR (C0 w) y u:=by
 have hm:∀ a v,C.mem a=some v→w.cell? a=some v:=fun a v h=>(hs.mem a v h).1
 unfold capArg at h
 split at h
 ·obtain rfl:=Option.some.inj h;cases hx;exact .bool _
 ·obtain rfl:=Option.some.inj h;cases hx;exact .int _ _
 ·obtain rfl:=Option.some.inj h;cases hx;exact .str _
 ·rename_i tys xs
  obtain rfl:=Option.some.inj h
  exact ro_elems hs hx (show elemsA st.heap (.sl tys xs)=some (tys,xs) from rfl) rfl
 ·obtain rfl:=Option.some.inj h
  cases hx with
  | rptr _ _ _ b o U h1 h2 h3=>exact .rptr _ _ _ b o U (fun j hj=>hm _ _ (h1 j hj)) h2 fun j ct c ht hc=>(h3 j ct c ht hc).mono hm
 ·obtain rfl:=Option.some.inj h
  cases hx with
  | fn _ _ vs h1 _=>exact .fn _ _ vs h1 fun i c v hc _=>by simp at hc
 ·rename_i nm i off
  split at h
  ·rename_i b hb
   cases hbox:b.box && Nat.beq i 0 && Nat.beq off 0 with
   | false=>rw [hbox] at h;simp at h
   | true =>
    rw [hbox] at h
    simp only [Bool.and_eq_true] at hbox
    obtain ⟨⟨h1,h2⟩,h3⟩:=hbox
    obtain rfl:=Nat.eq_of_beq_eq_true h2
    obtain rfl:=Nat.eq_of_beq_eq_true h3
    simp only [cond_true] at h
    split at h
    ·rename_i x hxs
     split at h
     ·rename_i tys ht
      obtain rfl:=Option.some.inj h
      obtain ⟨k1,k2⟩:=ctsOf_get ht
      have B:=hs.blk nm b hb
      obtain ⟨c1,c2⟩:=B.cells 0 x (by rw [hxs];rfl)
      cases hx with
      | ptr _ _ _ hr hi =>
       have ex:∀ j,∃ u,j<x.cells.length→w.cell? (C.at nm 0 j)=some u∧∀ c,x.cells[j]?=some c→VR C c u:=fun j=>by
        by_cases hj:j<x.cells.length
        ·obtain ⟨u,g1,_,g3⟩:=c2 j _ (List.getElem?_eq_getElem hj)
         rw [h1] at g3
         simp only [if_true] at g3
         exact ⟨u,fun _=>⟨g1,fun c hc=>by rw [List.getElem?_eq_getElem hj] at hc;obtain rfl:=Option.some.inj hc;exact g3⟩⟩
        ·exact ⟨undef,fun h=>absurd h hj⟩
       have hU:∃ U:Nat→Value,∀ j,j<x.cells.length→w.cell? (C.at nm 0 j)=some (U j)∧∀ c,x.cells[j]?=some c→VR C c (U j):=⟨fun j=>Classical.choose (ex j),fun j=>Classical.choose_spec (ex j)⟩
       obtain ⟨U,hU⟩:=hU
       have hat:∀ j,C.at nm 0 j=⟨(C.loc nm).1,(C.loc nm).2+j,none⟩:=fun j=>by unfold Ctx.at at_;simp
       rw [hat 0]
       refine .rptr tys x 0 (C.loc nm).1 (C.loc nm).2 U (fun j hj=>?_) k1 fun j ct c ht hc=>?_
       ·rw [← hat j]
        exact (hU j (by rw [k1];exact hj)).1
       ·have hj:j<x.cells.length:=by
         have:=List.getElem?_eq_some_iff.1 hc
         exact this.1
        exact (((hU j hj).2 c hc).ctOf (k2 j ct c ht hc)).mono hm
     ·cases h
    ·cases h
  ·cases h
 ·cases h
theorem capArgs_sound [Glob] (hs:Sim C nt st a w):∀ {xs ys:List AV} {us:List Value},xs.length=us.length→(∀ (i:Nat) (x:AV) (u:Value),xs[i]?=some x→us[i]?=some u→VR C x u)→capArgs st.heap xs=some ys →
  ys.length=us.length∧∀ (i:Nat) (y:AV) (u:Value),ys[i]?=some y→us[i]?=some u→VR (C0 w) y u
 | [],ys,us,hl,_,h=>by
  simp only [capArgs,Option.some.injEq] at h
  subst h
  cases us with
  | nil=>exact ⟨rfl,fun i y u h=>by simp at h⟩
  | cons=>simp at hl
 | x :: xs,ys,us,hl,hv,h=>by
  cases us with
  | nil=>simp at hl
  | cons u us =>
   simp only [capArgs] at h
   split at h
   ·rename_i y ys' h1 h2
    obtain rfl:=Option.some.inj h
    have g1:=capArg_sound hs (hv 0 x u rfl rfl) h1
    obtain ⟨g2,g3⟩:=capArgs_sound hs (us:=us) (by simpa using hl) (fun i x u hx hu=>hv (i+1) x u (by simpa using hx) (by simpa using hu)) h2
    refine ⟨by simp [g2],fun i y' u' hy hu=>?_⟩
    cases i with
    | zero=>simp at hy hu;subst hy;subst hu;exact g1
    | succ i=>exact g3 i y' u' (by simpa using hy) (by simpa using hu)
   ·cases h
theorem roArg_sound [Glob] {t:TypeId} {x y:AV} {u:Value} (hs:Sim C nt st a w) (hx:VR C x u) (h:roArg P st.heap t x=some y):VR (C0 w) y u:=by
 unfold roArg at h
 split at h
 ·rename_i nm
  split at h
  ·rename_i b hb
   cases hbox:b.box with
   | true=>rw [hbox] at h;simp at h
   | false =>
    rw [hbox] at h
    simp only [cond_false,Option.some.injEq] at h
    exact ro_elems hs hx (show elemsA st.heap (.own nm)=some (b.tys,b.xs) by simp [elemsA,hb,hbox]) h.symm
  ·cases h
 ·rename_i nm o n
  split at h
  ·rename_i b hb
   cases hbox:b.box with
   | true=>rw [hbox] at h;simp at h
   | false =>
    rw [hbox] at h
    simp only [cond_false,Option.some.injEq] at h
    have hle:o+n≤b.xs.length:=by
     have:=(hs.blk nm b hb).len
     cases hx with
     | sub _ _ _ _ _ _ _ _ h4=>omega
    exact ro_elems hs hx (show elemsA st.heap (.sub nm o n)=some (b.tys,(b.xs.drop o).take n) by simp only [elemsA,hb];rw [hbox,decide_eq_true hle];rfl) h.symm
  ·cases h
 ·split at h
  ·obtain rfl:=Option.some.inj h
   cases hx
   exact .sl _ _ _ (.sl _ [] none 0 (fun _ _=>undef) (Nat.le_refl 0) (by simp) (fun i j hi=>by simp at hi) (fun h0=>by simp at h0) (fun i x hx=>by simp at hx) (fun i x j ct c hx=>by simp at hx))
  ·cases h
 ·obtain rfl:=Option.some.inj h;cases hx;exact .bool _
 ·obtain rfl:=Option.some.inj h;cases hx;exact .int _ _
 ·obtain rfl:=Option.some.inj h;cases hx;exact .str _
 ·rename_i tys xs
  obtain rfl:=Option.some.inj h
  exact ro_elems hs hx (show elemsA st.heap (.sl tys xs)=some (tys,xs) from rfl) rfl
 ·rename_i f caps
  split at h
  ·rename_i ys hys
   obtain rfl:=Option.some.inj h
   cases hx with
   | fn _ _ vs h1 h2 =>
    obtain ⟨g1,g2⟩:=capArgs_sound hs h1 h2 hys
    exact .fn f ys vs g1 g2
  ·cases h
 ·cases h
theorem VR.one {x:AV} {u:Value} {w:World} {t:TypeId} {y:AV} (h:roArg P heap t y=some x) (hx:VR (C0 w) x u):u.oneCell'=true:=by
 unfold roArg at h
 split at h
 ·split at h
  ·rename_i b _
   cases hb:b.box <;> rw [hb] at h <;> simp at h
   subst h
   cases hx with
   | sl _ _ _ h=>exact h.oneCell'
  ·cases h
 ·split at h
  ·rename_i o n _ b _
   cases hb:b.box <;> rw [hb] at h <;> simp at h
   subst h
   cases hx with
   | sl _ _ _ h=>exact h.oneCell'
  ·cases h
 ·split at h
  ·obtain rfl:=Option.some.inj h
   cases hx with
   | sl _ _ _ h=>exact h.oneCell'
  ·cases h
 ·obtain rfl:=Option.some.inj h;cases hx;rfl
 ·obtain rfl:=Option.some.inj h;cases hx;rfl
 ·obtain rfl:=Option.some.inj h;cases hx;rfl
 ·obtain rfl:=Option.some.inj h
  cases hx with
  | sl _ _ _ h=>exact h.oneCell'
 ·split at h
  ·obtain rfl:=Option.some.inj h
   cases hx
   rfl
  ·cases h
 ·cases h
theorem roArgs_sound [Glob] (hs:Sim C nt st a w):∀ {ts:List TypeId} {xs ys:List AV} {us:List Value},xs.length=us.length→(∀ (i:Nat) (x:AV) (u:Value),xs[i]?=some x→us[i]?=some u→VR C x u)→roArgs P st.heap ts xs=some ys →
  ys.length=us.length∧(∀ (i:Nat) (y:AV) (u:Value),ys[i]?=some y→us[i]?=some u→VR (C0 w) y u)∧∀ u ∈ us,u.oneCell'=true
 | [],[],ys,us,hl,_,h=>by
  simp only [roArgs,Option.some.injEq] at h
  subst h
  cases us with
  | nil=>exact ⟨rfl,fun i y u h=>by simp at h,fun u h=>by simp at h⟩
  | cons=>simp at hl
 | t :: ts,x :: xs,ys,us,hl,hv,h=>by
  cases us with
  | nil=>simp at hl
  | cons u us =>
   simp only [roArgs] at h
   split at h
   ·rename_i y ys' h1 h2
    obtain rfl:=Option.some.inj h
    have g1:=roArg_sound hs (hv 0 x u rfl rfl) h1
    obtain ⟨g2,g3,g4⟩:=roArgs_sound hs (us:=us) (by simpa using hl) (fun i x u hx hu=>hv (i+1) x u (by simpa using hx) (by simpa using hu)) h2
    refine ⟨by simp [g2],fun i y' u' hy hu=>?_,fun u' hu'=>?_⟩
    ·cases i with
     | zero=>simp at hy hu;subst hy;subst hu;exact g1
     | succ i=>exact g3 i y' u' (by simpa using hy) (by simpa using hu)
    ·rcases List.mem_cons.1 hu' with rfl|hm
     ·exact VR.one h1 g1
     ·exact g4 u' hm
   ·cases h
 | [],_ :: _,_,_,_,_,h=>by simp [roArgs] at h
 | _ :: _,[],_,_,_,_,h=>by simp [roArgs] at h
theorem roVal_sound [Glob] {t:TypeId} {x y:AV} {u:Value} (hs:Sim C nt st a w) (hx:VR C x u) (h:roVal P st.heap t x=some y):VR (C0 w) y u:=by
 unfold roVal at h
 split at h
 ·rename_i cs
  obtain ⟨ys,h1,rfl⟩:=Option.map_eq_some_iff.1 h
  obtain ⟨vs,rfl,g1,g2,_⟩:=hx.agg_inv
  obtain ⟨k1,k2,k3⟩:=roArgs_sound hs g1 g2 h1
  exact .agg _ _ k1 k2 k3
 ·exact roArg_sound hs hx h
theorem roVals_sound [Glob] (hs:Sim C nt st a w):∀ {ts:List TypeId} {xs ys:List AV} {us:List Value},xs.length=us.length→(∀ (i:Nat) (x:AV) (u:Value),xs[i]?=some x→us[i]?=some u→VR C x u)→roVals P st.heap ts xs=some ys →
  ys.length=us.length∧∀ (i:Nat) (y:AV) (u:Value),ys[i]?=some y→us[i]?=some u→VR (C0 w) y u
 | [],[],ys,us,hl,_,h=>by
  simp only [roVals,Option.some.injEq] at h
  subst h
  cases us with
  | nil=>exact ⟨rfl,fun i y u h=>by simp at h⟩
  | cons=>simp at hl
 | t :: ts,x :: xs,ys,us,hl,hv,h=>by
  cases us with
  | nil=>simp at hl
  | cons u us =>
   simp only [roVals] at h
   split at h
   ·rename_i y ys' h1 h2
    obtain rfl:=Option.some.inj h
    have g1:=roVal_sound hs (hv 0 x u rfl rfl) h1
    obtain ⟨g2,g3⟩:=roVals_sound hs (us:=us) (by simpa using hl) (fun i x u hx hu=>hv (i+1) x u (by simpa using hx) (by simpa using hu)) h2
    refine ⟨by simp [g2],fun i y' u' hy hu=>?_⟩
    cases i with
    | zero=>simp at hy hu;subst hy;subst hu;exact g1
    | succ i=>exact g3 i y' u' (by simpa using hy) (by simpa using hu)
   ·cases h
 | [],_ :: _,_,_,_,_,h=>by simp [roVals] at h
 | _ :: _,[],_,_,_,_,h=>by simp [roVals] at h
def ctxT (w:World) (M:Addr→Option Value) (D:Dat):Ctx:={ (C0 w).set [] D with memF:=M }
theorem ctxT_dat (w:World) (M:Addr→Option Value) (D:Dat):(ctxT w M D).dat []=D:=by show ((C0 w).set [] D).dat []=D;exact Ctx.set_dat _ _ _
inductive TabR (w w':World) (M:Addr→Option Value):List (Nm × Blk)→List (Nm × Dat)→Prop
 | nil:TabR w w' M [] []
 | cons (n:Nm) (b:Blk) (D:Dat) (l:List (Nm × Blk)) (t:List (Nm × Dat)) (hb:BlkR (ctxT w M D) w' [] b) (hbox:b.box=false) (h:TabR w w' M l t):TabR w w' M ((n,b) :: l) ((n,D) :: t)
def Apart (t:List (Nm × Dat)):Prop:=t.Pairwise fun x y=>x.2.real=true→y.2.real=true→x.2.loc.1 ≠ y.2.loc.1
def MemOK (w w':World) (M:Addr→Option Value) (t:List (Nm × Dat)):Prop:=∀ a v,M a=some v→w'.cell? a=some v∧w.heap.size≤a.block∧∀ x ∈ t,x.2.real=true→x.2.loc.1 ≠ a.block
def RetOK (w w':World) (r:AV) (u:Value):Prop :=
 ∀ p,∃ t M,TabR w w' M (impV p r).2 t∧Apart t∧MemOK w w' M t∧∀ C':Ctx,(∀ x ∈ t,C'.dat x.1=x.2)→VR C' (impV p r).1 u
def Known (P:Program) (g:FuncId):Prop:=∃ fn,P.funcs[g]?=some fn∧(fn.name == "runtime.NumGoroutine")=false∧fn.body.isSome=true
def MeetsAt [Glob] (P:Program) (g:FuncId) (xs:List AV) (r:AV):Prop :=
 ∀ (w:World) (us:List Value),Glob.ok w∧Glob.n≤w.heap.size→xs.length=us.length→(∀ (i:Nat) (x:AV) (u:Value),xs[i]?=some x→us[i]?=some u→VR (C0 w) x u) →
  Calls P g us.toArray w fun e w'=>∃ u,e = .returned u∧RowKit.Below w.heap.size w w'∧RetOK w w' r u
def Meets [Glob] (P:Program) (g:FuncId) (m:List AV→Option (Bool × AV)):Prop:=Known P g∧∀ xs r,m xs=some (true,r)→MeetsAt P g xs r
def MeetsM [Glob] (P:Program) (g:FuncId) (m:List AV→List Blk→Option (Bool × AV × List Blk)):Prop:=Known P g∧∀ (xs:List AV) (bs:List Blk) (r:AV) (bs':List Blk),
 m xs bs=some (true,r,bs')→bs.all flatB=true→bs'.all flatB=true→retR r=true→bs'.length=bs.length →
 ∀ (C:Ctx) (w:World) (us:List Value),xs.length=us.length→(∀ (i:Nat) (x:AV) (u:Value),xs[i]?=some x→us[i]?=some u→VR C x u)→HSim C (canH 1 bs) w →
  Calls P g us.toArray w fun e w'=>∃ u,e = .returned u∧VR C r u∧HSim C (canH 1 bs') w'
def MeetsG [Glob] (P:Program) (g:FuncId) (m:List AV→List Blk→Option (Bool × List AV × List (Option Blk))):Prop:=Known P g∧∀ (xs:List AV) (bs:List Blk) (rs:List AV) (bs':List (Option Blk)),
 m xs bs=some (true,rs,bs') →
 ∀ (C:Ctx) (w:World) (us:List Value),xs.length=us.length→(∀ (i:Nat) (x:AV) (u:Value),xs[i]?=some x→us[i]?=some u→VR C x u)→HSim C (canH 1 bs) w →
  Calls P g us.toArray w fun e w'=>∃ u,e = .returned u∧∃ C' ts gs v hp,(∀ K,keepG P bs.length ts gs K v hp=K rs bs')∧VR C' v u∧HSim C' hp w'∧Agree (isLoc [0]) C C'
structure FOK [Glob] (P:Program) (cf:Cfg):Prop where
 tree:∀ g m,cf.F g = .tree m→Meets P g m
 wrt:∀ g m,cf.F g = .wrt m→MeetsM P g m
 gen:∀ g m,cf.F g = .gen m→MeetsG P g m
def SMeets [Glob] (P:Program) (g:FuncId) (s:SModel):Prop:=Known P g ∧
 ∀ (args:List AV) (q:Nm) (heap:List (Nm × Blk)) (k:AV→List (Nm × Blk)→Option AV) (r:AV) (C:Ctx) (w:World) (us:List Value),s args q heap k=some r→args.length=us.length →
  (∀ (i:Nat) (x:AV) (u:Value),args[i]?=some x→us[i]?=some u→VR C x u)→HSim C heap w →
  Calls P g us.toArray w fun e w'=>∃ u,e = .returned u∧∃ C' v h',k v h'=some r∧VR C' v u∧HSim C' h' w'∧Agree (isLoc q) C C'
def SpOK [Glob] (cf:Cfg):Prop:=∀ g s,cf.SP g=some s→SMeets cf.P g s
def CES [Glob] (cf:Cfg) (ce:CallE):Prop :=
 ∀ (g:Nat) (args:List AV) (q:Nm) (heap:List (Nm × Blk)) (k:AV→List (Nm × Blk)→Option AV) (r:AV) (C:Ctx) (w:World) (us:List Value),cf.F g = .inl→ce g args q heap k=some r→args.length=us.length →
  (∀ (i:Nat) (x:AV) (u:Value),args[i]?=some x→us[i]?=some u→VR C x u)→HSim C heap w →
  Known cf.P g∧Calls cf.P g us.toArray w fun e w'=>∃ u,e = .returned u∧∃ C' v h',k v h'=some r∧VR C' v u∧HSim C' h' w'∧Agree (isLoc q) C C'
theorem run_enter {g:FuncId} {args:Array Value} (h:Known P g):(callFunc g args).run P w = .ok (.enter g args) w:=by
 obtain ⟨fn,h1,h2,h3⟩:=h
 have e:(program:Sem Program).run P w = .ok P w:=rfl
 unfold callFunc
 rw [run_bind' e]
 simp only [h1,h2]
 cases hb:fn.body with
 | none=>rw [hb] at h3;cases h3
 | some c=>simp
theorem run_call {o:Oper} {f:Operand} {g:FuncId} {args:Array Operand} {argTypes:Array TypeId} {cs:Array Value} (hop:o.op = .call { callee := .value f,args,argTypes }) (hf:a.eval f = .func (.func g) #[] cs) (hk:Known P g) :
  (execOp a.eval o).run P w = .ok (.enter g (args.map a.eval++cs)) w:=by
 unfold execOp
 simp only [hop]
 unfold resolve
 simp only [hf]
 unfold Deferred.ofValue
 simp only [pure_bind]
 unfold invoke
 simp only
 have:(#[]:Array Value)++args.map a.eval=args.map a.eval:=by simp
 rw [this]
 exact run_enter hk
end
end Go.Proofs.VE

namespace Go.Proofs.VE
open Go
theorem canL_get {f:AV→Option AV}:∀ {xs ys:List AV},canL f xs=some ys→ys.length=xs.length∧∀ (i:Nat) (y:AV),ys[i]?=some y→∃ x,xs[i]?=some x∧f x=some y
 | [],ys,h=>by
  simp only [canL,Option.some.injEq] at h
  subst h
  exact ⟨rfl,fun i y h=>by simp at h⟩
 | x :: xs,ys,h=>by
  simp only [canL] at h
  split at h
  ·rename_i y ys' h1 h2
   obtain rfl:=Option.some.inj h
   obtain ⟨g1,g2⟩:=canL_get h2
   refine ⟨by simp [g1],fun i y' hy=>?_⟩
   cases i with
   | zero=>simp at hy;subst hy;exact ⟨x,rfl,h1⟩
   | succ i=>exact g2 i y' (by simpa using hy)
  ·cases h
theorem getAll_get {heap:List (Nm × Blk)}:∀ {ns:List Nm} {bs:List Blk},getAll heap ns=some bs→bs.length=ns.length∧∀ (i:Nat) (n:Nm),ns[i]?=some n→∃ b,bs[i]?=some b∧getH heap n=some b
 | [],bs,h=>by
  simp only [getAll,Option.some.injEq] at h
  subst h
  exact ⟨rfl,fun i y h=>by simp at h⟩
 | n :: ns,bs,h=>by
  simp only [getAll] at h
  split at h
  ·rename_i b bs' h1 h2
   obtain rfl:=Option.some.inj h
   obtain ⟨g1,g2⟩:=getAll_get h2
   refine ⟨by simp [g1],fun i n' hn=>?_⟩
   cases i with
   | zero=>simp at hn;subst hn;exact ⟨b,rfl,h1⟩
   | succ i=>exact g2 i n' (by simpa using hn)
  ·cases h
theorem dedupN_nodup:∀ {l acc:List Nm},acc.Nodup→(dedupN acc l).Nodup
 | [],acc,h=>h
 | n :: r,acc,h=>by
  simp only [dedupN]
  cases hc:acc.any (nmEq n) with
  | true=>simp only [cond_true];exact dedupN_nodup h
  | false =>
   simp only [cond_false]
   refine dedupN_nodup (List.nodup_append.2 ⟨h,by simp,fun a ha b hb=>?_⟩)
   simp only [List.mem_singleton] at hb
   subst hb
   intro e
   subst e
   rw [List.any_eq_false] at hc
   exact hc a ha ((nmEq_iff a a).2 rfl)
theorem findN_can {m c:Nm}:∀ {ns:List Nm} {k:Nat},findN (canN k ns) m=some c→∃ j,ns[j]?=some m∧c=[k+j]
 | [],k,h=>by simp [canN,findN] at h
 | n :: r,k,h=>by
  simp only [canN,findN] at h
  cases hc:nmEq n m with
  | true =>
   rw [hc] at h
   simp only [cond_true,Option.some.injEq] at h
   obtain rfl:=(nmEq_iff _ _).1 hc
   exact ⟨0,rfl,h.symm⟩
  | false =>
   rw [hc] at h
   obtain ⟨j,h1,h2⟩:=findN_can (k:=k+1) h
   exact ⟨j+1,by simpa using h1,by rw [h2];congr 1;omega⟩
theorem getH_can {b:Blk} {nm:Nm}:∀ {bs:List Blk} {k:Nat},getH (canH k bs) nm=some b→∃ j,nm=[k+j]∧bs[j]?=some b
 | [],k,h=>by simp [canH,getH] at h
 | b' :: r,k,h=>by
  simp only [canH,getH] at h
  cases hc:nmEq [k] nm with
  | true =>
   rw [hc] at h
   simp only [cond_true,Option.some.injEq] at h
   obtain rfl:=(nmEq_iff _ _).1 hc
   exact ⟨0,rfl,by rw [← h];rfl⟩
  | false =>
   rw [hc] at h
   obtain ⟨j,h1,h2⟩:=getH_can (k:=k+1) h
   exact ⟨j+1,by rw [h1];congr 1;omega,by simpa using h2⟩
theorem getH_canH {b:Blk}:∀ {bs:List Blk} {k j:Nat},bs[j]?=some b→getH (canH k bs) [k+j]=some b
 | [],k,j,h=>by simp at h
 | b' :: r,k,0,h=>by
  simp at h
  subst h
  simp only [canH,getH]
  rw [(nmEq_iff [k] [k+0]).2 rfl]
  rfl
 | b' :: r,k,j+1,h=>by
  simp only [canH,getH]
  have:nmEq [k] [k+(j+1)]=false:=by
   cases hc:nmEq [k] [k+(j+1)] with
   | false=>rfl
   | true =>
    have:=(nmEq_iff _ _).1 hc
    simp at this
  rw [this]
  have e:=getH_canH (bs:=r) (k:=k+1) (j:=j) (by simpa using h)
  rw [show [k+(j+1)]=[k+1+j] by congr 1;omega]
  exact e
theorem zip_get {nm:Nm}:∀ {ns:List Nm} {bs:List Blk} {heap:List (Nm × Blk)},ns.Nodup→bs.length=ns.length →
  (
   (∃ (j:Nat) (b:Blk),ns[j]?=some nm∧bs[j]?=some b∧getH ((ns.zip (bs.map some)).foldl (fun h x=>match x.2 with|some b=>setH h x.1 b|none=>delH h x.1) heap) nm=some b) ∨
   (nm ∉ ns∧getH ((ns.zip (bs.map some)).foldl (fun h x=>match x.2 with|some b=>setH h x.1 b|none=>delH h x.1) heap) nm=getH heap nm))
 | [],bs,heap,_,hl => .inr ⟨by simp,rfl⟩
 | n :: ns,[],heap,_,hl=>by simp at hl
 | n :: ns,b :: bs,heap,hn,hl=>by
  rw [List.nodup_cons] at hn
  simp only [List.map_cons,List.zip_cons_cons,List.foldl_cons]
  rcases zip_get (nm:=nm) (bs:=bs) (heap:=setH heap n b) hn.2 (by simpa using hl) with ⟨j,b',h1,h2,h3⟩|⟨h1,h2⟩
  ·exact .inl ⟨j+1,b',by simpa using h1,by simpa using h2,h3⟩
  ·by_cases e:nm=n
   ·subst e
    refine .inl ⟨0,b,rfl,rfl,?_⟩
    rw [h2,getH_setH,if_pos rfl]
   ·refine .inr ⟨by simp [e,h1],?_⟩
    rw [h2,getH_setH,if_neg (fun x=>e x.symm)]
section
variable {P:Program} {C C':Ctx} {nt:Nat} {st:St} {a:Act} {w w':World} {heap:List (Nm × Blk)}
theorem scal_move {c:AV} {u:Value} (h:VR C c u) (hc:scalC c=true):VR C' c u:=by
 unfold scalC at hc
 split at hc
 ·cases h;exact .int _ _
 ·cases h;exact .bool _
 ·cases h;exact .str _
 ·cases hc
theorem scalR_move {c:AV} {u:Value} (h:VR C c u) (hc:scalR c=true):VR C' c u:=by
 unfold scalR at hc
 split at hc
 ·rw [List.all_eq_true] at hc
  cases h with
  | agg _ vs h1 h2 h3=>exact .agg _ vs h1 (fun i c v g1 g2=>scal_move (h2 i c v g1 g2) (hc c (List.mem_of_getElem? g1))) h3
 ·rw [List.all_eq_true] at hc
  cases h with
  | tup _ vs h1 h2=>exact .tup _ vs h1 (fun i c v g1 g2=>scal_move (h2 i c v g1 g2) (hc c (List.mem_of_getElem? g1)))
 ·exact scal_move h hc
theorem sub_turn {n m:Nm} {lo k:Nat} {u:Value} (h:VR C (.sub n lo k) u) (e:C'.dat m=C.dat n):VR C' (.sub m lo k) u:=by
 have atE:∀ i j,C'.at m i j=C.at n i j:=fun i j=>by unfold Ctx.at Ctx.loc Ctx.width;rw [e]
 cases h with
 | sub _ _ _ cap av h1 h2 h3 h4 =>
  refine .sub m lo k cap av h1 (fun h0=>?_) ?_ (by unfold Ctx.len;rw [e];exact h4)
  ·obtain ⟨g1,g2⟩:=h2 h0
   exact ⟨by unfold Ctx.real;rw [e];exact g1,by rw [atE];exact g2⟩
  ·rcases h3 with ⟨g1,l,g2,g3⟩|g1
   ·exact .inl ⟨by unfold Ctx.real;rw [e];exact g1,l,by rw [atE];exact g2,by unfold Ctx.room;rw [e];exact g3⟩
   ·exact .inr g1
theorem own_sub {n:Nm} {u:Value} (h:VR C (.own n) u):VR C (.sub n 0 (C.len n)) u:=by
 cases h with
 | own _ cap hr h1 h2=>exact .sub n 0 _ cap _ h1 (fun _=>⟨hr,rfl⟩) (.inl ⟨hr,0,rfl,by omega⟩) (by omega)
 | ownNil _ h=>rw [h];exact .sub n 0 0 0 none (Nat.le_refl 0) (fun h0=>by omega) (.inr ⟨rfl,rfl⟩) (by omega)
theorem subC_move {c:AV} {u:Value} (hd:∀ j,C'.dat [j]=C.dat [j]) (h:VR C c u) (hc:subC c=true):VR C' c u:=by
 unfold subC at hc
 split at hc
 ·exact sub_turn h (hd _)
 ·cases h
  exact .snil
 ·exact scal_move h hc
theorem retR_move {c:AV} {u:Value} (hd:∀ j,C'.dat [j]=C.dat [j]) (h:VR C c u) (hc:retR c=true):VR C' c u:=by
 unfold retR at hc
 split at hc
 ·exact sub_turn h (hd _)
 ·rw [List.all_eq_true] at hc
  cases h with
  | agg _ vs h1 h2 h3=>exact .agg _ vs h1 (fun i c v g1 g2=>subC_move hd (h2 i c v g1 g2) (hc c (List.mem_of_getElem? g1))) h3
 ·exact scalR_move h hc
theorem BlkR.turn {b:Blk} {n m:Nm} (h:BlkR C w n b) (hd:C'.dat m=C.dat n) (hb:C'.base=C.base) (hf:flatB b=true):BlkR C' w m b:=by
 refine ⟨h.max,by unfold Ctx.len;rw [hd];exact h.len,by unfold Ctx.width;rw [hd];exact h.width,by unfold Ctx.real;rw [hd];exact h.box,by unfold Ctx.real;rw [hd];exact h.nilb,fun i x hx=>?_,?_,by unfold Ctx.real Ctx.loc Ctx.room Ctx.width;rw [hd];exact h.froz⟩
 ·obtain ⟨g1,g2⟩:=h.cells i x hx
  refine ⟨by unfold Ctx.width;rw [hd];exact g1,fun j c hc=>?_⟩
  obtain ⟨u,g3,g4,g5⟩:=g2 j c hc
  refine ⟨u,by unfold Ctx.at Ctx.loc Ctx.width;rw [hd];exact g3,g4,?_⟩
  unfold flatB at hf
  cases hbox:b.box with
  | false =>
   rw [hbox] at g5 hf
   simp only [Bool.false_eq_true,if_false,cond_false] at g5 hf ⊢
   obtain ⟨ct,g6,g7⟩:=g5
   rw [List.all_eq_true] at hf
   exact ⟨ct,g6,g7.flat (hf ct (List.mem_of_getElem? g6))⟩
  | true =>
   rw [hbox] at g5 hf
   simp only [if_true,cond_true] at g5 hf ⊢
   rw [List.all_eq_true] at hf
   have:=hf x (List.mem_of_getElem? hx)
   rw [List.all_eq_true] at this
   exact scal_move g5 (this c (List.mem_of_getElem? hc))
 ·unfold Ctx.real Ctx.loc Ctx.room Ctx.width
  rw [hd,hb]
  exact h.room
theorem canK_sound {pairs:List (Nm × Nm)} (hd:∀ n c,findN pairs n=some c→C'.dat c=C.dat n) (hm:∀ a v,C.mem a=some v→C'.mem a=some v) {x y:AV} {u:Value} (h:VR C x u) (hc:canK pairs x=some y):VR C' y u:=by
 have atE:∀ {nm n:Nm},C'.dat n=C.dat nm→∀ i j,C'.at n i j=C.at nm i j:=fun e i j=>by unfold Ctx.at Ctx.loc Ctx.width;rw [e]
 cases h with
 | undef v=>simp [canK] at hc
 | bool b=>simp only [canK,Option.some.injEq] at hc;subst hc;exact .bool b
 | int k n=>simp only [canK,Option.some.injEq] at hc;subst hc;exact .int k n
 | str s=>simp only [canK,Option.some.injEq] at hc;subst hc;exact .str s
 | nilp=>simp only [canK,Option.some.injEq] at hc;subst hc;exact .nilp
 | nilfn=>simp only [canK,Option.some.injEq] at hc;subst hc;exact .nilfn
 | snil=>simp only [canK,Option.some.injEq] at hc;subst hc;exact .snil
 | ptr nm i off hr hi =>
  simp only [canK] at hc
  obtain ⟨n,hn,rfl⟩:=Option.map_eq_some_iff.1 hc
  have e:=hd _ _ hn
  rw [← atE e i off]
  exact .ptr n i off (by unfold Ctx.real;rw [e];exact hr) (by unfold Ctx.len;rw [e];exact hi)
 | rptr tys x off b o U h1 h2 h3 =>
  simp only [canK,Option.some.injEq] at hc
  subst hc
  exact .rptr tys x off b o U (fun j hj=>hm _ _ (h1 j hj)) h2 fun j ct c ht hc=>(h3 j ct c ht hc).mono hm
 | own nm cap hr h1 h2 =>
  simp only [canK] at hc
  obtain ⟨n,hn,rfl⟩:=Option.map_eq_some_iff.1 hc
  have e:=hd _ _ hn
  have e1:C.len nm=C'.len n:=by unfold Ctx.len;rw [e]
  rw [← atE e 0 0,e1]
  exact .own n cap (by unfold Ctx.real;rw [e];exact hr) (by rw [← e1];exact h1) (by unfold Ctx.room;rw [e];exact h2)
 | ownNil nm h =>
  simp only [canK] at hc
  obtain ⟨n,hn,rfl⟩:=Option.map_eq_some_iff.1 hc
  exact .ownNil n (by unfold Ctx.len;rw [hd _ _ hn];exact h)
 | sub nm lo n cap av h1 h2 h3 h4 =>
  simp only [canK] at hc
  obtain ⟨n',hn,rfl⟩:=Option.map_eq_some_iff.1 hc
  have e:=hd _ _ hn
  refine .sub n' lo n cap av h1 (fun h0=>?_) ?_ (by unfold Ctx.len;rw [e];exact h4)
  ·obtain ⟨g1,g2⟩:=h2 h0
   exact ⟨by unfold Ctx.real;rw [e];exact g1,by rw [atE e];exact g2⟩
  ·rcases h3 with ⟨g1,l,g2,g3⟩|g1
   ·exact .inl ⟨by unfold Ctx.real;rw [e];exact g1,l,by rw [atE e];exact g2,by unfold Ctx.room;rw [e];exact g3⟩
   ·exact .inr g1
 | sl tys xs _ h=>simp only [canK,Option.some.injEq] at hc;subst hc;exact .sl tys xs _ (h.mono hm)
 | sle b tys ad cap h=>simp only [canK,Option.some.injEq] at hc;subst hc;exact .sle b tys ad cap h
 | fn f cs vs _ _=>simp [canK] at hc
 | agg cs vs _ _ _=>simp [canK] at hc
 | tup cs vs _ _=>simp [canK] at hc
theorem canC_sound {pairs:List (Nm × Nm)} (hd:∀ n c,findN pairs n=some c→C'.dat c=C.dat n) (hm:∀ a v,C.mem a=some v→C'.mem a=some v) {x y:AV} {u:Value} (h:VR C x u) (hc:canC pairs x=some y):VR C' y u:=by
 unfold canC at hc
 split at hc
 ·obtain ⟨ys,h1,rfl⟩:=Option.map_eq_some_iff.1 hc
  obtain ⟨g1,g2⟩:=canL_get h1
  cases h with
  | fn _ _ vs k1 k2 =>
   exact .fn _ _ vs (g1.trans k1) fun i c v hc hv=>by
    obtain ⟨x,e1,e2⟩:=g2 i c hc
    exact canK_sound hd hm (k2 i x v e1 hv) e2
 ·exact canK_sound hd hm h hc
theorem canV_sound {pairs:List (Nm × Nm)} (hd:∀ n c,findN pairs n=some c→C'.dat c=C.dat n) (hm:∀ a v,C.mem a=some v→C'.mem a=some v) {x y:AV} {u:Value} (h:VR C x u) (hc:canV pairs x=some y):VR C' y u:=by
 unfold canV at hc
 split at hc
 ·obtain ⟨ys,h1,rfl⟩:=Option.map_eq_some_iff.1 hc
  obtain ⟨g1,g2⟩:=canL_get h1
  obtain ⟨vs,rfl,k1,k2,k3⟩:=h.agg_inv
  exact .agg _ vs (g1.trans k1) (fun i c v hc hv=>by
    obtain ⟨x,e1,e2⟩:=g2 i c hc
    exact canC_sound hd hm (k2 i x v e1 hv) e2) k3
 ·exact canC_sound hd hm h hc
open Classical in
noncomputable def ctxM (C:Ctx) (w:World) (ns:List Nm):Ctx :=
 { base:=C.base,w0:=w,fr:=C.fr,mem:=fun ad=>if ∃ n ∈ ns,C.real n=true∧(C.loc n).1=ad.block then none else w.cell? ad,dat:=fun n=>match n with|[j]=>(match ns[j - 1]? with|some m=>C.dat m|none=>⟨false,(0,0),0,0,0⟩)|_=>⟨false,(0,0),0,0,0⟩ }
theorem ctxM_dat {ns:List Nm} {j:Nat} {n:Nm} (h:ns[j]?=some n):(ctxM C w ns).dat [1+j]=C.dat n:=by
 show (match ns[1+j - 1]? with|some m=>C.dat m|none=>_)=_
 rw [show 1+j - 1=j by omega,h]
theorem ctxM_mem [Glob] {ns:List Nm} (hs:HSim C heap w) (hn:∀ n ∈ ns,∃ b,getH heap n=some b) {ad:Addr} {v:Value} (h:C.mem ad=some v):(ctxM C w ns).mem ad=some v:=by
 obtain ⟨h1,h2,h3⟩:=hs.mem ad v h
 show (if _ then none else w.cell? ad)=some v
 rw [if_neg,h1]
 rintro ⟨n,hm,hr,e⟩
 obtain ⟨b,hb⟩:=hn n hm
 exact h3 n b hb hr e
theorem uncanC_sound {ns:List Nm} {r:AV} {u:Value} (h:VR (ctxM C w ns) r u) (hr:subC r=true):VR C (uncanC ns r) u:=by
 unfold uncanC
 split
 ·rename_i j lo n
  split
  ·rename_i nm hn
   refine sub_turn h ?_
   show C.dat nm=(match ns[j - 1]? with|some m=>C.dat m|none=>_)
   rw [hn]
  ·exact .undef _
 ·rename_i hx
  unfold subC at hr
  split at hr
  ·exact absurd rfl (hx _ _ _)
  ·cases h
   exact .snil
  ·exact scal_move h hr
theorem uncan_sound {ns:List Nm} {r:AV} {u:Value} (h:VR (ctxM C w ns) r u) (hr:retR r=true):VR C (uncanR ns r) u:=by
 unfold uncanR
 split
 ·have hr:List.all _ subC=true:=hr
  rw [List.all_eq_true] at hr
  cases h with
  | agg _ vs h1 h2 h3 =>
   refine .agg _ vs (by simpa using h1) (fun i c v g1 g2=>?_) h3
   rw [List.getElem?_map,Option.map_eq_some_iff] at g1
   obtain ⟨d,g3,rfl⟩:=g1
   exact uncanC_sound (h2 i d v g3 g2) (hr d (List.mem_of_getElem? g3))
 ·rename_i hx
  unfold retR at hr
  split at hr
  ·exact uncanC_sound h rfl
  ·exact absurd rfl (hx _)
  ·have e:uncanC ns r=r:=by
    unfold uncanC
    split
    ·unfold scalR scalC at hr
     simp at hr
    ·rfl
   rw [e]
   exact scalR_move h hr
theorem mut_sim [Glob] {vals xs:List AV} {bs bs':List Blk} {us:List Value} {ns:List Nm} (hs:HSim C heap w) (hns:ns.Nodup) (hb:getAll heap ns=some bs) (hx:canL (canV (canN 1 ns)) vals=some xs)
  (hl:vals.length=us.length) (hv:∀ (i:Nat) (x:AV) (u:Value),vals[i]?=some x→us[i]?=some u→VR C x u) (hf:bs.all flatB=true) :
  xs.length=us.length∧(∀ (i:Nat) (x:AV) (u:Value),xs[i]?=some x→us[i]?=some u→VR (ctxM C w ns) x u)∧HSim (ctxM C w ns) (canH 1 bs) w ∧
  (bs'.length=bs.length→bs'.all flatB=true→HSim (ctxM C w ns) (canH 1 bs') w'→HSim C ((ns.zip (bs'.map some)).foldl (fun h x=>match x.2 with|some b=>setH h x.1 b|none=>delH h x.1) heap) w'):=by
 obtain ⟨b1,b2⟩:=getAll_get hb
 obtain ⟨x1,x2⟩:=canL_get hx
 have hin:∀ n ∈ ns,∃ b,getH heap n=some b:=fun n hn=>by
  obtain ⟨j,hj⟩:=List.getElem?_of_mem hn
  obtain ⟨b,_,h⟩:=b2 j n hj
  exact ⟨b,h⟩
 have hm:∀ a v,C.mem a=some v→(ctxM C w ns).mem a=some v:=fun a v h=>ctxM_mem hs hin h
 have hat:∀ {j b},bs[j]?=some b→∃ n,ns[j]?=some n∧getH heap n=some b:=fun {j b} h=>by
  have hj:j<ns.length:=by
   have:=(List.getElem?_eq_some_iff.1 h).1
   omega
  obtain ⟨b',g1,g2⟩:=b2 j _ (List.getElem?_eq_getElem hj)
  rw [h] at g1
  obtain rfl:=Option.some.inj g1
  exact ⟨_,List.getElem?_eq_getElem hj,g2⟩
 have hinj:∀ {i j n},ns[i]?=some n→ns[j]?=some n→i=j:=fun {i j n} h1 h2=>by
  have k1:=List.getElem?_eq_some_iff.1 h1
  have k2:=List.getElem?_eq_some_iff.1 h2
  obtain ⟨l1,e1⟩:=k1
  obtain ⟨l2,e2⟩:=k2
  exact (List.getElem_inj hns).1 (e1.trans e2.symm)
 refine ⟨x1.trans hl,fun i x u hx hu=>?_,⟨fun nm b h=>?_,fun nm b nm' b' h h' hr hr' hne=>?_,fun ad v h=>?_,hs.grown,RowKit.Below.refl _ _,(fun _ _ _ _=>rfl),(fun _ _ h=>by cases h),⟨hs.globW.1,hs.glob.2⟩,fun k hk=>⟨Nat.lt_of_lt_of_le (hs.frame k hk).1 hs.kept.size,rfl,fun nm b h hr=>?_⟩⟩,fun hlen hfl H=>?_⟩
 ·obtain ⟨x0,g1,g2⟩:=x2 i x hx
  refine canV_sound (fun n c h=>?_) hm (hv i x0 u g1 hu) g2
  obtain ⟨j,e1,rfl⟩:=findN_can h
  exact ctxM_dat e1
 ·obtain ⟨j,rfl,hj⟩:=getH_can h
  obtain ⟨n,g1,g2⟩:=hat hj
  exact (hs.blk n b g2).turn (ctxM_dat g1) rfl (by rw [List.all_eq_true] at hf;exact hf b (List.mem_of_getElem? hj))
 ·obtain ⟨j,rfl,hj⟩:=getH_can h
  obtain ⟨j',rfl,hj'⟩:=getH_can h'
  obtain ⟨n,g1,g2⟩:=hat hj
  obtain ⟨n',g1',g2'⟩:=hat hj'
  unfold Ctx.real Ctx.loc at *
  rw [ctxM_dat g1] at *
  rw [ctxM_dat g1'] at *
  refine hs.apart n b n' b' g2 g2' hr hr' fun e=>?_
  subst e
  exact hne (by rw [hinj g1 g1'])
 ·have hh:(if (∃ n ∈ ns,C.real n=true∧(C.loc n).1=ad.block) then none else w.cell? ad)=some v:=h
  split at hh
  ·cases hh
  ·rename_i hno
   refine ⟨hh,World.block_lt_of_cell? w ad hh,fun nm b hb hr e=>?_⟩
   obtain ⟨j,rfl,hj⟩:=getH_can hb
   obtain ⟨n,g1,g2⟩:=hat hj
   have hr':C.real n=true:=by
    have:=hr
    unfold Ctx.real at this
    rw [ctxM_dat g1] at this
    exact this
   have e':(C.loc n).1=ad.block:=by
    have:=e
    unfold Ctx.loc at this
    rw [ctxM_dat g1] at this
    exact this
   replace hr:=hr'
   replace e:=e'
   exact hno ⟨n,List.mem_of_getElem? g1,hr,e⟩
 ·obtain ⟨j,rfl,hj⟩:=getH_can h
  obtain ⟨n,g1,g2⟩:=hat hj
  unfold Ctx.real Ctx.loc at *
  rw [ctxM_dat g1] at *
  exact (hs.frame k hk).2.2 n b g2 hr
 ·have hsize:w.heap.size≤w'.heap.size:=H.kept.size
  have cases_:∀ nm b,getH ((ns.zip (bs'.map some)).foldl (fun h x=>match x.2 with|some b=>setH h x.1 b|none=>delH h x.1) heap) nm=some b →
    (∃ j,ns[j]?=some nm∧bs'[j]?=some b)∨(nm ∉ ns∧getH heap nm=some b):=fun nm b h=>by
   rcases zip_get (nm:=nm) (heap:=heap) hns (hlen.trans b1) with ⟨j,b',h1,h2,h3⟩|⟨h1,h2⟩
   ·rw [h] at h3
    obtain rfl:=Option.some.inj h3
    exact .inl ⟨j,h1,h2⟩
   ·rw [h] at h2
    exact .inr ⟨h1,h2.symm⟩
  have old:∀ nm b,getH ((ns.zip (bs'.map some)).foldl (fun h x=>match x.2 with|some b=>setH h x.1 b|none=>delH h x.1) heap) nm=some b→∃ b0,getH heap nm=some b0:=fun nm b h=>by
   rcases cases_ nm b h with ⟨j,h1,_⟩|⟨_,h1⟩
   ·exact hin nm (List.mem_of_getElem? h1)
   ·exact ⟨b,h1⟩
  refine ⟨fun nm b h=>?_,fun nm b nm' b' h h' hr hr' hne=>?_,fun ad v h=>?_,Nat.le_trans hs.grown hsize,hs.kept.trans H.kept,fun ad v h hn=>(H.blk0 ad v (hm ad v h) rfl).trans (hs.blk0 ad v h hn),hs.own,hs.glob,fun k hk=>⟨(hs.frame k hk).1,(H.frame k hk).2.1.trans (hs.frame k hk).2.1,fun nm b h=>?_⟩⟩
  rotate_right
  ·obtain ⟨b0,g⟩:=old nm b h
   exact (hs.frame k hk).2.2 nm b0 g
  ·rcases cases_ nm b h with ⟨j,h1,h2⟩|⟨h1,h2⟩
   ·refine BlkR.turn (C:=ctxM C w ns) (n:=[1+j]) (H.blk _ b (getH_canH h2)) (ctxM_dat h1).symm rfl ?_
    rw [List.all_eq_true] at hfl
    exact hfl b (List.mem_of_getElem? h2)
   ·have B:=hs.blk nm b h2
    cases hr:C.real nm with
    | false=>exact B.world (fun h=>by rw [hr] at h;cases h) hsize
    | true =>
     obtain ⟨r1,r2,r3,r4⟩:=B.room hr
     by_cases h0:0<C.room nm*C.width nm
     ·refine B.world (fun _=>?_) hsize
      have hc:=(r4 0 h0).1
      obtain ⟨v,hv⟩:=Option.isSome_iff_exists.1 hc
      refine H.blk0 ⟨(C.loc nm).1,(C.loc nm).2+0,none⟩ v ?_ rfl
      show (if _ then none else w.cell? _)=some v
      rw [if_neg,hv]
      rintro ⟨n,hn,hrn,e⟩
      obtain ⟨bn,hbn⟩:=hin n hn
      exact hs.apart n bn nm b hbn h2 hrn hr (fun e'=>h1 (e' ▸ hn)) e
     ·have hz:C.room nm*C.width nm=0:=by omega
      refine ⟨B.max,B.len,B.width,B.box,B.nilb,fun i x hx=>?_,fun _=>⟨r1,Nat.lt_of_lt_of_le r2 hsize,r3,fun o ho=>by omega⟩,fun _ h=>by omega⟩
      obtain ⟨g1,_⟩:=B.cells i x hx
      refine ⟨g1,fun j c hc=>?_⟩
      rcases Nat.mul_eq_zero.1 hz with e|e
      ·have:=(List.getElem?_eq_some_iff.1 hx).1
       omega
      ·have:=(List.getElem?_eq_some_iff.1 hc).1
       omega
  ·obtain ⟨b0,g⟩:=old nm b h
   obtain ⟨b0',g'⟩:=old nm' b' h'
   exact hs.apart nm b0 nm' b0' g g' hr hr' hne
  ·obtain ⟨h1,h2,h3⟩:=hs.mem ad v h
   refine ⟨(H.mem ad v (hm ad v h)).1,Nat.lt_of_lt_of_le h2 hsize,fun nm b hb=>?_⟩
   obtain ⟨b0,g⟩:=old nm b hb
   exact h3 nm b0 g
end
end Go.Proofs.VE

namespace Go.Proofs.VE
open Go
section
variable {P:Program} {C C':Ctx} {nt:Nat} {st:St} {a:Act} {w w':World} {heap:List (Nm × Blk)}
theorem impCs_under (p:Nm):∀ (xs:List AV) (j:Nat) (x:Nm × Blk),x ∈ (impCs p j xs).2→under p x.1=true
 | [],_,x,h=>by simp [impCs] at h
 | y :: ys,j,x,h=>by
  simp only [impCs,List.mem_append] at h
  rcases h with h|h
  ·unfold imp1 at h
   split at h
   ·simp only [List.mem_singleton] at h;rw [h];exact (under_iff _ _).2 ⟨[j],rfl⟩
   ·simp at h
  ·exact impCs_under p ys (j+1) x h
theorem imp2_under (p:Nm) (y:AV) (x:Nm × Blk) (h:x ∈ (imp2 p y).2):under p x.1=true:=by
 unfold imp2 at h
 split at h
 ·exact impCs_under p _ 0 x h
 ·unfold imp1 at h
  split at h
  ·simp only [List.mem_singleton] at h;rw [h];exact (under_iff _ _).2 ⟨[],rfl⟩
  ·simp at h
theorem impVs_under (p:Nm):∀ (xs:List AV) (j:Nat) (x:Nm × Blk),x ∈ (impVs p j xs).2→under p x.1=true
 | [],_,x,h=>by simp [impVs] at h
 | y :: ys,j,x,h=>by
  simp only [impVs,List.mem_append] at h
  rcases h with h|h
  ·exact under_trans (imp2_under (j :: p) y x h) ((under_iff _ _).2 ⟨[j],rfl⟩)
  ·exact impVs_under p ys (j+1) x h
theorem impV_under (p:Nm) (y:AV) (x:Nm × Blk) (h:x ∈ (impV p y).2):under p x.1=true:=by
 unfold impV at h
 split at h
 ·exact impVs_under p _ 0 x h
 ·exact imp2_under p y x h
theorem addH_names:∀ (l:List (Nm × Blk)) (h h':List (Nm × Blk)),addH h l=some h'→(∀ x ∈ l,getH h x.1=none)∧(l.map (·.1)).Nodup
 | [],_,_,_=>⟨fun x h=>by simp at h,List.nodup_nil⟩
 | (m,b) :: r,h,h',ha=>by
  unfold addH at ha
  split at ha
  ·cases ha
  ·rename_i hm
   obtain ⟨h1,h2⟩:=addH_names r _ _ ha
   have ne:∀ x ∈ r,m ≠ x.1∧getH h x.1=none:=fun x hx=>by
    have:=h1 x hx
    rw [getH_setH] at this
    split at this
    ·cases this
    ·rename_i hne;exact ⟨hne,this⟩
   refine ⟨fun x hx=>?_,?_⟩
   ·rcases List.mem_cons.1 hx with rfl|hx
    ·exact hm
    ·exact (ne x hx).2
   ·rw [List.map_cons,List.nodup_cons]
    refine ⟨fun hm'=>?_,h2⟩
    obtain ⟨x,hx,e⟩:=List.mem_map.1 hm'
    exact (ne x hx).1 e.symm
theorem TabR.names {M:Addr→Option Value} {l:List (Nm × Blk)} {t:List (Nm × Dat)} (h:TabR w w' M l t):t.map (·.1)=l.map (·.1):=by
 induction h with
 | nil=>rfl
 | cons n b D l t _ _ _ ih=>simp [ih]
def Ctx.setAll (C:Ctx) (t:List (Nm × Dat)):Ctx:={ C with dat:=fun m=>match t.find? (fun x=>x.1=m) with|some x=>x.2|none=>C.dat m }
theorem setAll_get {t:List (Nm × Dat)} (hn:(t.map (·.1)).Nodup) (x:Nm × Dat) (hx:x ∈ t):(C.setAll t).dat x.1=x.2:=by
 unfold Ctx.setAll
 simp only
 have:t.find? (fun y=>decide (y.1=x.1))=some x:=by
  induction t with
  | nil=>simp at hx
  | cons y r ih =>
   rw [List.map_cons,List.nodup_cons] at hn
   rcases List.mem_cons.1 hx with rfl|hm
   ·simp
   ·have hne:y.1 ≠ x.1:=fun e=>hn.1 (e ▸ List.mem_map.2 ⟨x,hm,rfl⟩)
    rw [List.find?_cons_of_neg (by simpa using hne)]
    exact ih hn.2 hm
 rw [this]
theorem setAll_agree {t:List (Nm × Dat)} {p:Nm→Bool} (h:∀ x ∈ t,p x.1=true):Agree p C (C.setAll t):=by
 refine ⟨rfl,rfl,fun _ _ h=>h,fun _ _ h=>h,fun _ _ _ h=>h,fun nm hn=>?_,rfl,fun _ _ h => .inl h⟩
 unfold Ctx.setAll
 simp only
 cases hf:t.find? (fun x=>decide (x.1=nm)) with
 | none=>rfl
 | some x =>
  have h1:=List.mem_of_find?_eq_some hf
  have h2:=List.find?_some hf
  simp only [decide_eq_true_eq] at h2
  rw [← h2,h x h1] at hn
  cases hn
theorem BlkR.carry {X:Ctx} {b:Blk} {n m:Nm} (h:BlkR X w' m b) (hd:C'.dat n=X.dat m) (hb:C'.base≤X.base) (hbox:b.box=false) (hm:∀ a v,X.memF a=some v→C'.memF a=some v):BlkR C' w' n b:=by
 refine ⟨h.max,by unfold Ctx.len;rw [hd];exact h.len,by unfold Ctx.width;rw [hd];exact h.width,(fun h=>by rw [hbox] at h;cases h),by unfold Ctx.real;rw [hd];exact h.nilb,fun i x hx=>?_,?_,by unfold Ctx.real Ctx.loc Ctx.room Ctx.width;rw [hd];exact h.froz⟩
 ·obtain ⟨g1,g2⟩:=h.cells i x hx
  refine ⟨by unfold Ctx.width;rw [hd];exact g1,fun j c hc=>?_⟩
  obtain ⟨u,g3,g4,g5⟩:=g2 j c hc
  refine ⟨u,by unfold Ctx.at Ctx.loc Ctx.width;rw [hd];exact g3,g4,?_⟩
  rw [hbox] at g5 ⊢
  simp only [Bool.false_eq_true,if_false] at g5 ⊢
  obtain ⟨ct,g6,g7⟩:=g5
  exact ⟨ct,g6,g7.mono hm⟩
 ·unfold Ctx.real Ctx.loc Ctx.room Ctx.width
  rw [hd]
  intro hr
  obtain ⟨g1,g2⟩:=h.room hr
  exact ⟨Nat.le_trans hb g1,g2⟩
theorem add_sound [Glob] {M:Addr→Option Value} {l:List (Nm × Blk)} {t:List (Nm × Dat)} (ht:TabR w w' M l t):∀ {heap heap':List (Nm × Blk)},addH heap l=some heap'→HSim C' heap w'→C'.base≤w.heap.size→C'.w0.heap.size≤w.heap.size→(∀ x ∈ t,C'.dat x.1=x.2)→Apart t →
  (∀ x ∈ t,x.2.real=true→∀ nm b,getH heap nm=some b→C'.real nm=true→(C'.loc nm).1 ≠ x.2.loc.1)→(∀ x ∈ t,x.2.real=true→∀ a v,C'.mem a=some v→a.block ≠ x.2.loc.1)→(∀ a v,M a=some v→C'.memF a=some v)→HSim C' heap' w':=by
 induction ht with
 | nil=>intro heap heap' h hs _ _ _ _ _ _ _;simp only [addH,Option.some.injEq] at h;subst h;exact hs
 | cons n b D l t hb hbox _ ih =>
  intro heap heap' h hs hbase hw0 hd ha hu hm hM
  unfold addH at h
  split at h
  ·cases h
  ·have hdn:C'.dat n=D:=hd (n,D) List.mem_cons_self
   unfold Apart at ha
   rw [List.pairwise_cons] at ha
   refine ih h (hs.setBlk (hb.carry (hdn.trans (ctxT_dat _ _ _).symm) hbase hbox hM) fun hr=>?_) hbase hw0 (fun x hx=>hd x (List.mem_cons_of_mem _ hx)) ha.2 ?_ (fun x hx=>hm x (List.mem_cons_of_mem _ hx)) hM
   ·have hl:(C'.loc n).1=D.loc.1:=by unfold Ctx.loc;rw [hdn]
    have hr':D.real=true:=by unfold Ctx.real at hr;rw [hdn] at hr;exact hr
    rw [hl]
    exact ⟨fun nm b' _ h1 h2=>hu (n,D) List.mem_cons_self hr' nm b' h1 h2,hm (n,D) List.mem_cons_self hr',fun hf=>by
     have f1:=(hs.frame _ hf).1
     have f2:=(hb.room (by unfold Ctx.real;rw [ctxT_dat];exact hr')).1
     unfold Ctx.loc at f2
     rw [ctxT_dat] at f2
     have f3:w.heap.size≤D.loc.1:=f2
     omega⟩
   ·intro x hx hr nm b' h1 h2
    rw [getH_setH] at h1
    split at h1
    ·rename_i e
     subst e
     unfold Ctx.real at h2
     rw [hdn] at h2
     unfold Ctx.loc
     rw [hdn]
     exact ha.1 x hx h2 hr
    ·exact hu x (List.mem_cons_of_mem _ hx) hr nm b' h1 h2
def Ctx.add (C:Ctx) (M:Addr→Option Value):Ctx:={ C with mem:=fun a=>(M a).or (C.mem a),memF:=fun a=>(M a).or (C.memF a) }
theorem HSim.add [Glob] {M:Addr→Option Value} {n0:Nat} (h:HSim C heap w) (hM:∀ a v,M a=some v→w.cell? a=some v∧n0≤a.block) (h1:∀ nm b,getH heap nm=some b→C.real nm=true→(C.loc nm).1<n0) (h2:∀ a v,C.mem a=some v→a.block<n0) (hb:C.base≤n0) (hw:C.w0.heap.size≤n0) :
  Agree (fun _=>false) C (C.add M)∧HSim (C.add M) heap w:=by
 have low:∀ a v,C.mem a=some v→M a=none:=fun a v hv=>by
  cases hm:M a with
  | none=>rfl
  | some u =>
   have:=(hM a u hm).2
   have:=h2 a v hv
   omega
 have hag:Agree (fun _=>false) C (C.add M):=by
  refine ⟨rfl,rfl,fun a v hv=>?_,fun a v hv=>?_,fun a v hv hn=>?_,fun _ _=>rfl,rfl,fun a v hv=>?_⟩
  rotate_right
  ·have hv:(M a).or (C.mem a)=some v:=hv
   cases hm:M a with
   | none=>rw [hm] at hv;exact .inl hv
   | some u =>
    rw [hm] at hv
    refine .inr ⟨?_,fun hf=>?_⟩
    ·show (M a).or (C.memF a)=some v;rw [hm];exact hv
    ·have:=(h.frame _ hf).1
     have:=(hM a u hm).2
     omega
  ·show (M a).or (C.mem a)=some v;rw [low a v hv];exact hv
  ·show (M a).or (C.memF a)=some v;rw [low a v (h.own a v hv).1];exact hv
  ·show (M a).or (C.memF a)=none;rw [low a v hv];exact hn
 refine ⟨hag,⟨fun nm b hb=>?_,h.apart,fun a v hv=>?_,h.grown,h.kept,fun a v hv hn=>?_,fun a v hv=>?_,h.glob,h.frame⟩⟩
 ·have B:=h.blk nm b hb
  refine ⟨B.max,B.len,B.width,B.box,B.nilb,fun i x hx=>?_,B.room,B.froz⟩
  obtain ⟨g1,g2⟩:=B.cells i x hx
  refine ⟨g1,fun j c hj=>?_⟩
  obtain ⟨u,g3,g4,g5⟩:=g2 j c hj
  refine ⟨u,g3,g4,?_⟩
  cases hbx:b.box with
  | true =>
   rw [hbx] at g5
   simp only [if_true] at g5 ⊢
   exact g5.grow hag
  | false =>
   rw [hbx] at g5
   simp only [Bool.false_eq_true,if_false] at g5 ⊢
   obtain ⟨ct,k1,k2⟩:=g5
   exact ⟨ct,k1,k2.mono hag.memF⟩
 ·have hv:(M a).or (C.mem a)=some v:=hv
  cases hm:M a with
  | none=>rw [hm] at hv;exact h.mem a v hv
  | some u =>
   rw [hm] at hv
   obtain rfl:u=v:=Option.some.inj hv
   obtain ⟨g1,g2⟩:=hM a u hm
   refine ⟨g1,World.block_lt_of_cell? w a g1,fun nm b hb hr e=>?_⟩
   have:=h1 nm b hb hr
   have e:(C.loc nm).1=a.block:=e
   omega
 ·have hv:(M a).or (C.mem a)=some v:=hv
  have hn:(M a).or (C.memF a)=none:=hn
  cases hm:M a with
  | none=>rw [hm] at hv hn;exact h.blk0 a v hv hn
  | some u=>rw [hm] at hn;cases hn
 ·have hv:(M a).or (C.memF a)=some v:=hv
  show (M a).or (C.mem a)=some v∧_
  cases hm:M a with
  | none=>rw [hm] at hv;exact h.own a v hv
  | some u =>
   rw [hm] at hv
   exact ⟨hv,Nat.le_trans hb (hM a u hm).2⟩
theorem Below.grownBy {w w':World} (h:RowKit.Below w.heap.size w w'):w.grownBy w' none:=⟨h.os,h.tape,h.output,h.size,fun k hk _=>h.block k hk⟩
theorem import_sound [Glob] {q p:Nm} {r:AV} {u:Value} {heap':List (Nm × Blk)} (hs:Sim C nt st a w) (hq:cleanS q st=true) (hp:under q p=true) (hb:RowKit.Below w.heap.size w w') (hr:RetOK w w' r u)
  (h:addH st.heap (impV p r).2=some heap'):∃ C',Agree (under q) C C'∧Sim C' nt ⟨st.env,heap'⟩ a w'∧VR C' (impV p r).1 u:=by
 obtain ⟨t,M,h1,h2,hMo,h3⟩:=hr p
 obtain ⟨h4,h5⟩:=addH_names _ _ _ h
 have hnames:=h1.names
 have hget:∀ x ∈ t,(C.setAll t).dat x.1=x.2:=setAll_get (by rw [hnames];exact h5)
 have hund:∀ x ∈ t,under q x.1=true:=fun x hx=>by
  have:x.1 ∈ (impV p r).2.map (·.1):=by rw [← hnames];exact List.mem_map.2 ⟨x,hx,rfl⟩
  obtain ⟨y,hy,e⟩:=List.mem_map.1 this
  rw [← e]
  exact under_trans (impV_under p r y hy) hp
 have hag:Agree (under q) C (C.setAll t):=setAll_agree hund
 unfold cleanS at hq
 rw [Bool.and_eq_true] at hq
 have hs1:=hs.ctx hag rfl rfl (cleanE_get hq.1) (cleanH_get hq.2)
 have hs2:HSim (C.setAll t) st.heap w':=hs1.toHSim.world (Below.grownBy hb) fun k hk=>by cases hk
 obtain ⟨ag2,hs2⟩:=hs2.add (M:=M) (n0:=w.heap.size) (fun a v hv=>⟨(hMo a v hv).1,(hMo a v hv).2.1⟩) (fun nm b hnb hrn=>((hs1.blk nm b hnb).room hrn).2.1) (fun a v hv=>(hs1.mem a v hv).2.1) hs1.grown hs1.kept.size
 have fresh:∀ x ∈ t,x.2.real=true→w.heap.size≤x.2.loc.1:=fun x hx hreal=>by
  have key:∀ {l:List (Nm × Blk)} {t:List (Nm × Dat)},TabR w w' M l t→∀ x ∈ t,x.2.real=true→w.heap.size≤x.2.loc.1:=by
   intro l t ht
   induction ht with
   | nil=>intro x hx;simp at hx
   | cons n b D l t hb _ _ ih =>
    intro x hx hr
    rcases List.mem_cons.1 hx with rfl|hx
    ·have:=(hb.room (by unfold Ctx.real;rw [ctxT_dat];exact hr)).1
     unfold Ctx.loc at this
     rw [ctxT_dat] at this
     exact this
    ·exact ih x hx hr
  exact key h1 x hx hreal
 have hs3:=add_sound (C':=(C.setAll t).add M) h1 h hs2 hs.grown hs.kept.size hget h2 (fun x hx hreal nm b hnb hrn=>by
   have g1:=fresh x hx hreal
   have g2:=((hs1.blk nm b hnb).room hrn).2.1
   have g3:(((C.setAll t).add M).loc nm).1=((C.setAll t).loc nm).1:=rfl
   omega) (fun x hx hreal z v hz=>by
   have hz:(M z).or (C.mem z)=some v:=hz
   cases hm:M z with
   | none =>
    rw [hm] at hz
    have g1:=fresh x hx hreal
    have g2:=(hs1.mem z v hz).2.1
    omega
   | some y=>exact fun e=>(hMo z y hm).2.2 x hx hreal e.symm) (fun a v hv=>by
   show (M a).or (C.memF a)=some v
   rw [hv]
   rfl)
 exact ⟨(C.setAll t).add M,hag.trans (ag2.mono fun _ h=>by cases h),hs.withH hs3 (fun t=>(hs1.env t).grow ag2),h3 _ hget⟩
theorem nodupN_spec:∀ (l:List Nm),nodupN l=true→l.Nodup
 | [],_=>List.nodup_nil
 | m :: r,h=>by
  simp only [nodupN,Bool.and_eq_true,Bool.not_eq_true',List.any_eq_false] at h
  rw [List.nodup_cons]
  exact ⟨fun hm=>by have:=h.1 m hm;rw [nmEq_refl] at this;exact this rfl,nodupN_spec r h.2⟩
end
end Go.Proofs.VE

namespace Go.Proofs.VE
open Go
inductive TabG (C':Ctx) (n:Nat) (hp:List (Nm × Blk)):List (Nm × Blk)→List (Nm × Dat)→List (Option Nm)→Prop
 | nil:TabG C' n hp [] [] []
 | cons (m:Nm) (b:Blk) (s:Nm) (l:List (Nm × Blk)) (t:List (Nm × Dat)) (so:List (Option Nm)) (h1:getH hp s=some b) (h2:b.box=false) (h:TabG C' n hp l t so) :
   TabG C' n hp ((m,b) :: l) ((m,C'.dat s) :: t) (some s :: so)
 | nilb (m:Nm) (tys:List CT) (l:List (Nm × Blk)) (t:List (Nm × Dat)) (so:List (Option Nm)) (h:TabG C' n hp l t so) :
   TabG C' n hp ((m,⟨false,tys,[]⟩) :: l) ((m,⟨false,(0,0),tys.length,0,0⟩) :: t) (none :: so)
section
variable {C' C2:Ctx} {n:Nat} {hp:List (Nm × Blk)} {ns:List Nm} {w':World}
theorem TabG.append {l l':List (Nm × Blk)} {t t':List (Nm × Dat)} {so so':List (Option Nm)} (h:TabG C' n hp l t so) (k:TabG C' n hp l' t' so'):TabG C' n hp (l++l') (t++t') (so++so'):=by
 induction h with
 | nil=>exact k
 | cons m b s l t so h1 h2 _ ih=>exact .cons m b s _ _ _ h1 h2 ih
 | nilb m tys l t so _ ih=>exact .nilb m tys _ _ _ ih
theorem TabG.names {l:List (Nm × Blk)} {t:List (Nm × Dat)} {so:List (Option Nm)} (h:TabG C' n hp l t so):t.map (·.1)=l.map (·.1):=by
 induction h with
 | nil=>rfl
 | cons m b s l t so h1 h2 _ ih=>simp [ih]
 | nilb m tys l t so _ ih=>simp [ih]
theorem TabG.flat {l:List (Nm × Blk)} {t:List (Nm × Dat)} {so:List (Option Nm)} (h:TabG C' n hp l t so):∀ (i:Nat) (s:Nm),so[i]?=some (some s)→∃ b,getH hp s=some b∧b.box=false:=by
 induction h with
 | nil=>intro i s h;simp at h
 | cons m b s l t so h1 h2 _ ih =>
  intro i s' h
  cases i with
  | zero=>simp at h;subst h;exact ⟨b,h1,h2⟩
  | succ i=>exact ih i s' (by simpa using h)
 | nilb m tys l t so _ ih =>
  intro i s' h
  cases i with
  | zero=>simp at h
  | succ i=>exact ih i s' (by simpa using h)
theorem TabG.get {l:List (Nm × Blk)} {t:List (Nm × Dat)} {so:List (Option Nm)} (h:TabG C' n hp l t so):∀ (i:Nat) (x:Nm × Blk),l[i]?=some x→∃ D,t[i]?=some (x.1,D) ∧
  ((∃ s,so[i]?=some (some s)∧getH hp s=some x.2∧x.2.box=false∧D=C'.dat s)∨(x.2.box=false∧x.2.xs=[]∧D=⟨false,(0,0),x.2.tys.length,0,0⟩)):=by
 induction h with
 | nil=>intro i x h;simp at h
 | cons m b s l t so h1 h2 _ ih =>
  intro i x h
  cases i with
  | zero=>simp at h;subst h;exact ⟨_,rfl,.inl ⟨s,rfl,h1,h2,rfl⟩⟩
  | succ i=>exact ih i x (by simpa using h)
 | nilb m tys l t so _ ih =>
  intro i x h
  cases i with
  | zero=>simp at h;subst h;exact ⟨_,rfl,.inr ⟨rfl,rfl,rfl⟩⟩
  | succ i=>exact ih i x (by simpa using h)
structure LinkG (C' C2:Ctx) (n:Nat) (ns:List Nm):Prop where
 dat:∀ j,1≤j→j≤n→∃ m,ns[j - 1]?=some m∧C2.dat m=C'.dat [j]
 mem:∀ a v,C'.mem a=some v→C2.mem a=some v
theorem turnK {a b:Nm} (hd:C2.dat b=C'.dat a) (hm:∀ ad v,C'.mem ad=some v→C2.mem ad=some v) {x y:AV} {u:Value} (h:VR C' x u) (hc:canK [(a,b)] x=some y):VR C2 y u :=
 canK_sound (fun m c hf=>by
  simp only [findN] at hf
  cases hb:nmEq a m with
  | false=>rw [hb] at hf;cases hf
  | true =>
   rw [hb] at hf
   obtain rfl:=(nmEq_iff _ _).1 hb
   obtain rfl:=Option.some.inj hf
   exact hd) hm h hc
theorem sameK (hm:∀ ad v,C'.mem ad=some v→C2.mem ad=some v) {x:AV} {u:Value} (h:VR C' x u) (hc:canK [] x=some x):VR C2 x u :=
 canK_sound (fun m c hf=>by simp [findN] at hf) hm h hc
theorem isArg_inv {nm:Nm} (h:isArg n nm=true):∃ j,nm=[j]∧1≤j∧j≤n:=by
 unfold isArg at h
 split at h
 ·rename_i j
  rw [Bool.and_eq_true] at h
  exact ⟨j,rfl,Nat.le_of_ble_eq_true h.1,Nat.le_of_ble_eq_true h.2⟩
 ·cases h
theorem exT_imp {P:Program} {n':Nat} (hle:n'≤n) {t:Option TypeId} {x y:AV} {so:List (Option Nm)} {u:Value} (h:exT P n' hp t x=some (y,so)) (hv:VR C' x u) (p:Nm) (hp2:2≤p.length) :
  ∃ tb,TabG C' n hp (imp1 p y).2 tb so∧∀ C2,LinkG C' C2 n ns→(∀ z ∈ tb,C2.dat z.1=z.2)→VR C2 (un1 ns (imp1 p y).1) u:=by
 have pure:∀ {x:AV},VR C' x u→canK [] x=some x→(∀ nm,x ≠ .own nm)→(∀ nm a l,x ≠ .sub nm a l)→(∀ nm i o,x ≠ .ptr nm i o)→(∀ tys xs,x ≠ .fl tys xs)→(y,so)=(x,[]) →
   ∃ tb,TabG C' n hp (imp1 p y).2 tb so∧∀ C2,LinkG C' C2 n ns→(∀ z ∈ tb,C2.dat z.1=z.2)→VR C2 (un1 ns (imp1 p y).1) u:=fun {x} hx hc h1 h2 h3 h4 he=>by
  obtain ⟨rfl,rfl⟩:=Prod.mk.inj he
  have e:imp1 p y=(y,[]):=by
   unfold imp1
   split
   ·exact absurd rfl (h4 _ _)
   ·rfl
  have e2:un1 ns y=y:=by
   unfold un1
   split
   ·exact absurd rfl (h1 _)
   ·exact absurd rfl (h2 _ _ _)
   ·exact absurd rfl (h3 _ _ _)
   ·rfl
  rw [e]
  refine ⟨[],.nil,fun C2 L _=>?_⟩
  rw [e2]
  exact sameK L.mem hx hc
 have hown:∀ m:Nm,un1 ns (.own p) = .own p:=fun _=>by
  match p,hp2 with
  | a :: b :: r,_=>rfl
 unfold exT at h
 split at h
 ·split at h
  ·rename_i e he
   simp only [Option.some.injEq,Prod.mk.injEq] at h
   obtain ⟨rfl,rfl⟩:=h
   refine ⟨[(p,⟨false,(0,0),(ctsT P 6 e).length,0,0⟩)],.nilb p _ _ _ _ .nil,fun C2 L hd=>?_⟩
   show VR C2 (un1 ns (.own p)) u
   rw [hown p]
   cases hv
   refine .ownNil p ?_
   unfold Ctx.len
   rw [hd _ List.mem_cons_self]
  ·simp only [Option.some.injEq,Prod.mk.injEq] at h
   obtain ⟨rfl,rfl⟩:=h
   exact pure hv rfl (fun _ h=>by cases h) (fun _ _ _ h=>by cases h) (fun _ _ _ h=>by cases h) (fun _ _ h=>by cases h) rfl
 ·unfold ex1 at h
  split at h
  ·rename_i nm _
   cases ha:isArg n' nm with
   | true =>
    rw [ha] at h
    simp only [cond_true,Option.some.injEq,Prod.mk.injEq] at h
    obtain ⟨rfl,rfl⟩:=h
    obtain ⟨j,rfl,j1,j2⟩:=isArg_inv ha
    refine ⟨[],.nil,fun C2 L _=>?_⟩
    obtain ⟨m,e1,e2⟩:=L.dat j j1 (by omega)
    show VR C2 (match ns[j - 1]? with|some n => .own n|none => .undef) u
    rw [e1]
    exact turnK e2 L.mem hv (by simp [canK,findN,nmEq_refl])
   | false =>
    rw [ha] at h
    simp only [cond_false] at h
    split at h
    ·rename_i b hb
     cases hbox:b.box with
     | true=>rw [hbox] at h;cases h
     | false =>
      rw [hbox] at h
      simp only [cond_false,Option.some.injEq,Prod.mk.injEq] at h
      obtain ⟨rfl,rfl⟩:=h
      have hb':(⟨false,b.tys,b.xs⟩:Blk)=b:=by rw [← hbox]
      refine ⟨[(p,C'.dat nm)],?_,fun C2 L hd=>?_⟩
      ·show TabG C' n hp [(p,⟨false,b.tys,b.xs⟩)] _ _
       rw [hb']
       exact .cons p b nm _ _ _ hb hbox .nil
      ·show VR C2 (un1 ns (.own p)) u
       rw [hown p]
       exact turnK (hd _ List.mem_cons_self) L.mem hv (by simp [canK,findN,nmEq_refl])
    ·cases h
  ·rename_i nm a l _
   cases ha:isArg n' nm with
   | true =>
    rw [ha] at h
    simp only [cond_true,Option.some.injEq,Prod.mk.injEq] at h
    obtain ⟨rfl,rfl⟩:=h
    obtain ⟨j,rfl,j1,j2⟩:=isArg_inv ha
    refine ⟨[],.nil,fun C2 L _=>?_⟩
    obtain ⟨m,e1,e2⟩:=L.dat j j1 (by omega)
    show VR C2 (match ns[j - 1]? with|some n => .sub n a l|none => .undef) u
    rw [e1]
    exact turnK e2 L.mem hv (by simp [canK,findN,nmEq_refl])
   | false=>rw [ha] at h;cases h
  ·rename_i nm i o _
   cases ha:isArg n' nm with
   | true =>
    rw [ha] at h
    simp only [cond_true,Option.some.injEq,Prod.mk.injEq] at h
    obtain ⟨rfl,rfl⟩:=h
    obtain ⟨j,rfl,j1,j2⟩:=isArg_inv ha
    refine ⟨[],.nil,fun C2 L _=>?_⟩
    obtain ⟨m,e1,e2⟩:=L.dat j j1 (by omega)
    show VR C2 (match ns[j - 1]? with|some n => .ptr n i o|none => .undef) u
    rw [e1]
    exact turnK e2 L.mem hv (by simp [canK,findN,nmEq_refl])
   | false=>rw [ha] at h;cases h
  all_goals first
   | (cases h;done)
   | exact pure hv rfl (fun _ h=>by cases h) (fun _ _ _ h=>by cases h) (fun _ _ _ h=>by cases h) (fun _ _ h=>by cases h) (Option.some.inj h).symm
   | (
     rename_i f _
     simp only [Option.some.injEq,Prod.mk.injEq] at h
     obtain ⟨rfl,rfl⟩:=h
     refine ⟨[],.nil,fun C2 L _=>?_⟩
     cases hv with
     | fn _ _ vs h1 h2=>exact .fn f [] vs h1 fun i c v hc _=>by simp at hc)
def CRel (C:Ctx) (x:AV) (g:Nat→Option Value):Prop:=∀ j c,x.cells[j]?=some c→∃ u,g j=some u∧VR C c u
def SameSh (x z:AV):Prop:=(∃ cs zs,x = .agg cs∧z = .agg zs∧zs.length=cs.length)∨((∀ cs,x ≠ .agg cs)∧∀ zs,z ≠ .agg zs)
theorem cells_one {x:AV} (h:∀ cs,x ≠ .agg cs):x.cells=[x]:=by
 cases x <;> first|rfl|exact absurd rfl (h _)
theorem SameSh.len {x z:AV} (h:SameSh x z):z.cells.length=x.cells.length:=by
 rcases h with ⟨cs,zs,rfl,rfl,e⟩|⟨h1,h2⟩
 ·exact e
 ·rw [cells_one h1,cells_one h2];rfl
theorem impCs_len (p:Nm):∀ (j:Nat) (ys:List AV),(impCs p j ys).1.length=ys.length
 | _,[]=>rfl
 | j,y :: ys=>by simp [impCs,impCs_len p (j+1) ys]
theorem exCs_imp {P:Program} {n':Nat} (hle:n'≤n) {g:Nat→Option Value}:∀ {ts:List (Option TypeId)} {cs ys:List AV} {so:List (Option Nm)},exCs P n' hp ts cs=some (ys,so)→∀ (p:Nm) (j0 k0:Nat),1≤p.length →
  (∀ j c,cs[j]?=some c→∃ u,g (k0+j)=some u∧VR C' c u) →
  ∃ tb,TabG C' n hp (impCs p j0 ys).2 tb so∧ys.length=cs.length∧∀ C2,LinkG C' C2 n ns→(∀ z ∈ tb,C2.dat z.1=z.2)→∀ j c,((impCs p j0 ys).1.map (un1 ns))[j]?=some c→∃ u,g (k0+j)=some u∧VR C2 c u
 | [],[],ys,so,h,p,j0,k0,_,_=>by
  simp only [exCs,Option.some.injEq,Prod.mk.injEq] at h
  obtain ⟨rfl,rfl⟩:=h
  exact ⟨[],.nil,rfl,fun C2 _ _ j c hj=>by simp [impCs] at hj⟩
 | [],_ :: _,_,_,h,_,_,_,_,_=>by simp [exCs] at h
 | _ :: _,[],_,_,h,_,_,_,_,_=>by simp [exCs] at h
 | t :: ts,x :: xs,ys,so,h,p,j0,k0,hp2,hv=>by
  simp only [exCs] at h
  split at h
  ·rename_i y l ys' ls h1 h2
   simp only [Option.some.injEq,Prod.mk.injEq] at h
   obtain ⟨rfl,rfl⟩:=h
   obtain ⟨u,g1,g2⟩:=hv 0 x rfl
   obtain ⟨tb1,a1,a2⟩:=exT_imp (ns:=ns) hle h1 g2 (j0 :: p) (by simp;omega)
   obtain ⟨tb2,b1,b2,b3⟩:=exCs_imp hle h2 p (j0+1) (k0+1) hp2 (fun j c hc=>by
    obtain ⟨u,e1,e2⟩:=hv (j+1) c (by simpa using hc)
    exact ⟨u,by rw [← e1];congr 1;omega,e2⟩)
   refine ⟨tb1++tb2,a1.append b1,by simp [b2],fun C2 L hd j c hc=>?_⟩
   simp only [impCs,List.map_cons] at hc
   cases j with
   | zero =>
    simp at hc
    subst hc
    exact ⟨u,g1,a2 C2 L fun z hz=>hd z (List.mem_append_left _ hz)⟩
   | succ j =>
    obtain ⟨u',e1,e2⟩:=b3 C2 L (fun z hz=>hd z (List.mem_append_right _ hz)) j c (by simpa using hc)
    exact ⟨u',by rw [← e1];congr 1;omega,e2⟩
  ·cases h
theorem exT_noagg {P:Program} {t:Option TypeId} {x y:AV} {so:List (Option Nm)} (h:exT P n hp t x=some (y,so)):∀ cs,y ≠ .agg cs:=by
 intro cs e
 subst e
 unfold exT at h
 split at h
 ·split at h <;> simp at h
 ·unfold ex1 at h
  split at h
  all_goals first
   | (simp at h;done)
   | (cases hc:isArg n _ <;> rw [hc] at h <;> simp at h;done)
   | skip
  all_goals
   rename_i nm _
   cases hc:isArg n nm <;> rw [hc] at h
   ·simp only [cond_false] at h
    split at h
    ·rename_i b _
     cases hb:b.box <;> rw [hb] at h <;> simp at h
    ·cases h
   ·simp at h
theorem imp1_noagg {p:Nm} {y:AV} (h:∀ cs,y ≠ .agg cs):imp2 p y=imp1 p y∧(∀ cs,(imp1 p y).1 ≠ .agg cs):=by
 refine ⟨?_,fun cs e=>?_⟩
 ·unfold imp2
  split
  ·exact absurd rfl (h _)
  ·rfl
 ·unfold imp1 at e
  split at e
  ·cases e
  ·exact h cs e
theorem un1_noagg {x:AV} (h:∀ cs,x ≠ .agg cs):un2 ns x=un1 ns x∧∀ cs,un1 ns x ≠ .agg cs:=by
 refine ⟨?_,fun cs e=>?_⟩
 ·unfold un2
  split
  ·exact absurd rfl (h _)
  ·rfl
 ·unfold un1 at e
  repeat' split at e
  all_goals first
   | (cases e;done)
   | exact h cs e
theorem ex2_imp {P:Program} {n':Nat} (hle:n'≤n) {g:Nat→Option Value} {t:Option TypeId} {x y:AV} {so:List (Option Nm)} (h:ex2 P n' hp t x=some (y,so)) (hv:CRel C' x g) (p:Nm) (hp2:2≤p.length) :
  ∃ tb,TabG C' n hp (imp2 p y).2 tb so∧SameSh x (un2 ns (imp2 p y).1)∧∀ C2,LinkG C' C2 n ns→(∀ z ∈ tb,C2.dat z.1=z.2)→CRel C2 (un2 ns (imp2 p y).1) g:=by
 unfold ex2 at h
 split at h
 ·rename_i cs
  split at h
  ·rename_i ys l h1
   simp only [Option.some.injEq,Prod.mk.injEq] at h
   obtain ⟨rfl,rfl⟩:=h
   obtain ⟨tb,a1,a2,a3⟩:=exCs_imp (ns:=ns) hle h1 p 0 0 (by omega) (fun j c hc=>by
    obtain ⟨u,e1,e2⟩:=hv j c hc
    exact ⟨u,by rw [← e1];congr 1;omega,e2⟩)
   refine ⟨tb,a1,.inl ⟨cs,_,rfl,rfl,by rw [List.length_map,impCs_len,a2]⟩,fun C2 L hd j c hc=>?_⟩
   obtain ⟨u,e1,e2⟩:=a3 C2 L hd j c hc
   exact ⟨u,by rw [← e1];congr 1;omega,e2⟩
  ·cases h
 ·rename_i hna
  have hna':∀ cs,x ≠ .agg cs:=fun cs e=>hna cs e
  obtain ⟨u,g1,g2⟩:=hv 0 x (by rw [cells_one hna'];rfl)
  obtain ⟨tb,a1,a2⟩:=exT_imp (ns:=ns) hle h g2 p hp2
  obtain ⟨e1,e2⟩:=imp1_noagg (p:=p) (exT_noagg h)
  obtain ⟨e3,e4⟩:=un1_noagg (ns:=ns) e2
  rw [e1,e3]
  refine ⟨tb,a1,.inr ⟨hna',e4⟩,fun C2 L hd j c hc=>?_⟩
  rw [cells_one e4] at hc
  cases j with
  | zero=>simp at hc;subst hc;exact ⟨u,g1,a2 C2 L hd⟩
  | succ j=>simp at hc
theorem impVs_len (p:Nm):∀ (j:Nat) (ys:List AV),(impVs p j ys).1.length=ys.length
 | _,[]=>rfl
 | j,y :: ys=>by simp [impVs,impVs_len p (j+1) ys]
theorem exVs_imp {P:Program} {g:Nat→Nat→Option Value}:∀ {ts:List (Option TypeId)} {xs ys:List AV} {so:List (Option Nm)},exVs P n hp ts xs=some (ys,so)→∀ (p:Nm) (j0 k0:Nat),1≤p.length →
  (∀ (j:Nat) (x:AV),xs[j]?=some x→CRel C' x (g (k0+j))) →
  ∃ tb,TabG C' n hp (impVs p j0 ys).2 tb so∧ys.length=xs.length∧(∀ (j:Nat) (x z:AV),xs[j]?=some x→((impVs p j0 ys).1.map (un2 ns))[j]?=some z→SameSh x z) ∧
   ∀ C2,LinkG C' C2 n ns→(∀ z ∈ tb,C2.dat z.1=z.2)→∀ (j:Nat) (z:AV),((impVs p j0 ys).1.map (un2 ns))[j]?=some z→CRel C2 z (g (k0+j))
 | [],[],ys,so,h,p,j0,k0,_,_=>by
  simp only [exVs,Option.some.injEq,Prod.mk.injEq] at h
  obtain ⟨rfl,rfl⟩:=h
  exact ⟨[],.nil,rfl,fun j x z hx=>by simp at hx,fun C2 _ _ j c hj=>by simp [impVs] at hj⟩
 | [],_ :: _,_,_,h,_,_,_,_,_=>by simp [exVs] at h
 | _ :: _,[],_,_,h,_,_,_,_,_=>by simp [exVs] at h
 | t :: ts,x :: xs,ys,so,h,p,j0,k0,hp2,hv=>by
  simp only [exVs] at h
  split at h
  ·rename_i y l ys' ls h1 h2
   simp only [Option.some.injEq,Prod.mk.injEq] at h
   obtain ⟨rfl,rfl⟩:=h
   obtain ⟨tb1,a1,a0,a2⟩:=ex2_imp (ns:=ns) (n:=n) (by omega) h1 (hv 0 x rfl) (j0 :: p) (by simp;omega)
   obtain ⟨tb2,b1,b2,b0,b3⟩:=exVs_imp h2 p (j0+1) (k0+1) hp2 (fun j c hc=>by
    have:=hv (j+1) c (by simpa using hc)
    rw [show k0+1+j=k0+(j+1) by omega]
    exact this)
   refine ⟨tb1++tb2,a1.append b1,by simp [b2],fun j x' z hx hz=>?_,fun C2 L hd j z hz=>?_⟩
   ·simp only [impVs,List.map_cons] at hz
    cases j with
    | zero=>simp at hx hz;subst hx;subst hz;exact a0
    | succ j=>exact b0 j x' z (by simpa using hx) (by simpa using hz)
   ·simp only [impVs,List.map_cons] at hz
    cases j with
    | zero=>simp at hz;subst hz;exact a2 C2 L fun z hz=>hd z (List.mem_append_left _ hz)
    | succ j =>
     have:=b3 C2 L (fun z hz=>hd z (List.mem_append_right _ hz)) j z (by simpa using hz)
     rw [show k0+(j+1)=k0+1+j by omega]
     exact this
  ·cases h
end
end Go.Proofs.VE

namespace Go.Proofs.VE
open Go
section
variable {P:Program} {C C':Ctx} {nt:Nat} {st:St} {a:Act} {w w':World} {heap:List (Nm × Blk)}
def ctxG (C:Ctx) (w:World) (ns:List Nm):Ctx :=
 { base:=C.base,w0:=w,mem:=C.mem,memF:=C.memF,fr:=fun k=>k<w.heap.size∧∀ n ∈ ns,C.real n=true→(C.loc n).1 ≠ k,dat:=fun n=>match n with|[j]=>(match ns[j - 1]? with|some m=>C.dat m|none=>⟨false,(0,0),0,0,0⟩)|_=>⟨false,(0,0),0,0,0⟩ }
theorem ctxG_dat {ns:List Nm} {j:Nat} {n:Nm} (h:ns[j]?=some n):(ctxG C w ns).dat [1+j]=C.dat n:=by
 show (match ns[1+j - 1]? with|some m=>C.dat m|none=>_)=_
 rw [show 1+j - 1=j by omega,h]
theorem canK_noagg {pairs:List (Nm × Nm)} {x y:AV} (h:canK pairs x=some y):(∀ cs,x ≠ .agg cs)∧∀ cs,y ≠ .agg cs:=by
 constructor
 ·intro cs e;subst e;simp [canK] at h
 ·intro cs e
  subst e
  cases x <;> simp [canK] at h
theorem canC_noagg {pairs:List (Nm × Nm)} {x y:AV} (h:canC pairs x=some y):(∀ cs,x ≠ .agg cs)∧∀ cs,y ≠ .agg cs:=by
 unfold canC at h
 split at h
 ·refine ⟨(fun cs e=>by cases e),fun cs e=>?_⟩
  obtain ⟨ys,_,rfl⟩:=Option.map_eq_some_iff.1 h
  cases e
 ·exact canK_noagg h
theorem BlkR.can {b0 b:Blk} {n m:Nm} {pairs:List (Nm × Nm)} (h:BlkR C w n b0) (hc:canB pairs b0=some b) (hd:C'.dat m=C.dat n) (hb:C'.base=C.base) (hmF:C'.memF=C.memF)
  (hm:∀ a v,C.mem a=some v→C'.mem a=some v) (hp:∀ n c,findN pairs n=some c→C'.dat c=C.dat n):BlkR C' w m b:=by
 unfold canB at hc
 cases hbox:b0.box with
 | false =>
  rw [hbox] at hc
  obtain rfl:=Option.some.inj hc
  exact h.carry hd (by rw [hb];exact Nat.le_refl _) hbox fun a v hv=>by rw [hmF];exact hv
 | true =>
  rw [hbox] at hc
  simp only [cond_true] at hc
  split at hc
  ·rename_i x hx
   obtain ⟨y,hy,rfl⟩:=Option.map_eq_some_iff.1 hc
   obtain ⟨k1,k2⟩:=h.box hbox
   have hcell:=h.cells 0 x (by rw [hx];rfl)
   have hlen:=h.len
   rw [hx] at hlen
   have key:y.cells.length=x.cells.length∧∀ (j:Nat) (c:AV),y.cells[j]?=some c→∃ c0,x.cells[j]?=some c0∧canC pairs c0=some c:=by
    unfold canV at hy
    split at hy
    ·obtain ⟨ys,g1,rfl⟩:=Option.map_eq_some_iff.1 hy
     obtain ⟨g2,g3⟩:=canL_get g1
     exact ⟨g2,fun j c hj=>g3 j c hj⟩
    ·obtain ⟨e1,e2⟩:=canC_noagg hy
     rw [cells_one e1,cells_one e2]
     refine ⟨rfl,fun j c hj=>?_⟩
     cases j with
     | zero=>simp at hj;subst hj;exact ⟨x,rfl,hy⟩
     | succ j=>simp at hj
   refine ⟨by show 1≤maxLen;decide,by unfold Ctx.len;rw [hd];exact hlen,(fun h=>by cases h),fun _=>⟨rfl,by unfold Ctx.real;rw [hd];exact k2⟩,by unfold Ctx.real;rw [hd];exact fun hr=>absurd (h.nilb hr) (by rw [hx];simp),fun i z hz=>?_,?_,by unfold Ctx.real Ctx.loc Ctx.room Ctx.width;rw [hd];exact h.froz⟩
   ·cases i with
    | succ i=>simp at hz
    | zero =>
     simp at hz
     subst hz
     refine ⟨by unfold Ctx.width;rw [hd];exact key.1.trans hcell.1,fun j c hj=>?_⟩
     obtain ⟨c0,e1,e2⟩:=key.2 j c hj
     obtain ⟨u,g1,g2,g3⟩:=hcell.2 j c0 e1
     refine ⟨u,by unfold Ctx.at Ctx.loc Ctx.width;rw [hd];exact g1,g2,?_⟩
     rw [hbox] at g3
     exact canC_sound hp hm g3 e2
   ·unfold Ctx.real Ctx.loc Ctx.room Ctx.width
    rw [hd,hb]
    have:=h.room
    rw [hx] at this
    exact this
  ·cases hc
theorem canBs_get {pairs:List (Nm × Nm)}:∀ {bs cs:List Blk},canBs pairs bs=some cs→cs.length=bs.length∧∀ (i:Nat) (c:Blk),cs[i]?=some c→∃ b,bs[i]?=some b∧canB pairs b=some c
 | [],cs,h=>by
  simp only [canBs,Option.some.injEq] at h
  subst h
  exact ⟨rfl,fun i y h=>by simp at h⟩
 | b :: bs,cs,h=>by
  simp only [canBs] at h
  split at h
  ·rename_i c s h1 h2
   obtain rfl:=Option.some.inj h
   obtain ⟨g1,g2⟩:=canBs_get h2
   refine ⟨by simp [g1],fun i y hy=>?_⟩
   cases i with
   | zero=>simp at hy;subst hy;exact ⟨b,rfl,h1⟩
   | succ i=>exact g2 i y (by simpa using hy)
  ·cases h
theorem gen_enter [Glob] {vals xs:List AV} {bs cs:List Blk} {us:List Value} {ns:List Nm} (hs:HSim C heap w) (hns:ns.Nodup) (hb:getAll heap ns=some bs) (hx:canL (canV (canN 1 ns)) vals=some xs) (hcs:canBs (canN 1 ns) bs=some cs)
  (hl:vals.length=us.length) (hv:∀ (i:Nat) (x:AV) (u:Value),vals[i]?=some x→us[i]?=some u→VR C x u) :
  xs.length=us.length∧(∀ (i:Nat) (x:AV) (u:Value),xs[i]?=some x→us[i]?=some u→VR (ctxG C w ns) x u)∧HSim (ctxG C w ns) (canH 1 cs) w:=by
 obtain ⟨b1,b2⟩:=getAll_get hb
 obtain ⟨x1,x2⟩:=canL_get hx
 obtain ⟨c1,c2⟩:=canBs_get hcs
 have hfind:∀ n c,findN (canN 1 ns) n=some c→(ctxG C w ns).dat c=C.dat n:=fun n c h=>by
  obtain ⟨j,e1,rfl⟩:=findN_can h
  exact ctxG_dat e1
 have hat:∀ {j b},cs[j]?=some b→∃ n b0,ns[j]?=some n∧getH heap n=some b0∧canB (canN 1 ns) b0=some b:=fun {j b} h=>by
  obtain ⟨b0,g1,g2⟩:=c2 j b h
  have hj:j<ns.length:=by
   have:=(List.getElem?_eq_some_iff.1 g1).1
   omega
  obtain ⟨b',g3,g4⟩:=b2 j _ (List.getElem?_eq_getElem hj)
  rw [g1] at g3
  obtain rfl:=Option.some.inj g3
  exact ⟨_,b0,List.getElem?_eq_getElem hj,g4,g2⟩
 have hinj:∀ {i j n},ns[i]?=some n→ns[j]?=some n→i=j:=fun {i j n} h1 h2=>by
  obtain ⟨l1,e1⟩:=List.getElem?_eq_some_iff.1 h1
  obtain ⟨l2,e2⟩:=List.getElem?_eq_some_iff.1 h2
  exact (List.getElem_inj hns).1 (e1.trans e2.symm)
 refine ⟨x1.trans hl,fun i x u hx hu=>?_,⟨fun nm b h=>?_,fun nm b nm' b' h h' hr hr' hne=>?_,fun ad v h=>?_,hs.grown,RowKit.Below.refl _ _,(fun _ _ _ _=>rfl),hs.own,⟨hs.globW.1,hs.glob.2⟩,fun k hk=>⟨hk.1,rfl,fun nm b h hr=>?_⟩⟩⟩
 ·obtain ⟨x0,g1,g2⟩:=x2 i x hx
  exact canV_sound hfind (fun _ _ h=>h) (hv i x0 u g1 hu) g2
 ·obtain ⟨j,rfl,hj⟩:=getH_can h
  obtain ⟨n,b0,g1,g2,g3⟩:=hat hj
  exact (hs.blk n b0 g2).can g3 (ctxG_dat g1) rfl rfl (fun _ _ h=>h) hfind
 ·obtain ⟨j,rfl,hj⟩:=getH_can h
  obtain ⟨j',rfl,hj'⟩:=getH_can h'
  obtain ⟨n,b0,g1,g2,_⟩:=hat hj
  obtain ⟨n',b0',g1',g2',_⟩:=hat hj'
  have hr:C.real n=true:=by unfold Ctx.real at hr;rw [ctxG_dat g1] at hr;exact hr
  have hr':C.real n'=true:=by unfold Ctx.real at hr';rw [ctxG_dat g1'] at hr';exact hr'
  unfold Ctx.loc
  rw [ctxG_dat g1,ctxG_dat g1']
  refine hs.apart n b0 n' b0' g2 g2' hr hr' fun e=>?_
  subst e
  exact hne (by rw [hinj g1 g1'])
 ·obtain ⟨m1,m2,m3⟩:=hs.mem ad v h
  refine ⟨m1,m2,fun nm b hb hr=>?_⟩
  obtain ⟨j,rfl,hj⟩:=getH_can hb
  obtain ⟨n,b0,g1,g2,_⟩:=hat hj
  have hr:C.real n=true:=by unfold Ctx.real at hr;rw [ctxG_dat g1] at hr;exact hr
  unfold Ctx.loc
  rw [ctxG_dat g1]
  exact m3 n b0 g2 hr
 ·obtain ⟨j,rfl,hj⟩:=getH_can h
  obtain ⟨n,b0,g1,g2,_⟩:=hat hj
  have hr:C.real n=true:=by unfold Ctx.real at hr;rw [ctxG_dat g1] at hr;exact hr
  unfold Ctx.loc
  rw [ctxG_dat g1]
  exact hk.2 n (List.mem_of_getElem? g1) hr
def boxNs:List (Option Blk)→List Nm→List Nm
 | some b :: r,n :: ns=>bif b.box then n :: boxNs r ns else boxNs r ns
 | none :: r,_ :: ns=>boxNs r ns
 | _,_=>[]
theorem cont_rel:∀ {bs:List (Option Blk)} {nms:List Nm},bs.length=nms.length→(∀ b:Blk,some b ∈ bs→b.box=true→b.xs.length=1) →
  (∀ (i:Nat) (x:AV),(contO bs)[i]?=some x→∃ (k:Nat) (b:Blk) (nm:Nm),bs[k]?=some (some b)∧nms[k]?=some nm∧(boxNs bs nms)[i]?=some nm∧b.box=true∧b.xs=[x]) ∧
  ∀ (zs:List AV),zs.length=(contO bs).length→(reBsO bs zs).length=bs.length∧∀ (k:Nat) (b':Blk),(reBsO bs zs)[k]?=some (some b')→∃ b:Blk,bs[k]?=some (some b)∧((b.box=false∧b'=b) ∨
   (b.box=true∧∃ (i:Nat) (x z:AV),(contO bs)[i]?=some x∧b.xs=[x]∧zs[i]?=some z∧(boxNs bs nms)[i]?=nms[k]?∧b'=⟨true,b.tys,[z]⟩))
 | [],[],_,_=>⟨fun i x h=>by simp [contO] at h,fun zs _=>⟨rfl,fun k b' h=>by simp [reBsO] at h⟩⟩
 | [],_ :: _,h,_=>by simp at h
 | _ :: _,[],h,_=>by simp at h
 | none :: bs,n :: nms,hl,h1=>by
  obtain ⟨i2,i3⟩:=cont_rel (bs:=bs) (nms:=nms) (by simpa using hl) fun b hb=>h1 b (List.mem_cons_of_mem _ hb)
  have ec:contO (none :: bs)=contO bs:=by simp [contO]
  have eb:boxNs (none :: bs) (n :: nms)=boxNs bs nms:=by simp [boxNs]
  rw [ec,eb]
  refine ⟨fun i x hx=>?_,fun zs hz=>?_⟩
  ·obtain ⟨k,b0,nm,g1,g2,g3,g4,g5⟩:=i2 i x hx
   exact ⟨k+1,b0,nm,by simpa using g1,by simpa using g2,g3,g4,g5⟩
  ·obtain ⟨j1,j2⟩:=i3 zs hz
   have er:reBsO (none :: bs) zs=none :: reBsO bs zs:=by simp [reBsO]
   rw [er]
   refine ⟨by simp [j1],fun k b' hk=>?_⟩
   cases k with
   | zero=>simp at hk
   | succ k =>
    obtain ⟨b0,g1,g2⟩:=j2 k b' (by simpa using hk)
    exact ⟨b0,by simpa using g1,by simpa using g2⟩
 | some b :: bs,n :: nms,hl,h1=>by
  obtain ⟨i2,i3⟩:=cont_rel (bs:=bs) (nms:=nms) (by simpa using hl) fun b hb=>h1 b (List.mem_cons_of_mem _ hb)
  cases hbox:b.box with
  | false =>
   have ec:contO (some b :: bs)=contO bs:=by simp [contO,hbox]
   have eb:boxNs (some b :: bs) (n :: nms)=boxNs bs nms:=by simp [boxNs,hbox]
   rw [ec,eb]
   refine ⟨fun i x hx=>?_,fun zs hz=>?_⟩
   ·obtain ⟨k,b0,nm,g1,g2,g3,g4,g5⟩:=i2 i x hx
    exact ⟨k+1,b0,nm,by simpa using g1,by simpa using g2,g3,g4,g5⟩
   ·obtain ⟨j1,j2⟩:=i3 zs hz
    have er:reBsO (some b :: bs) zs=some b :: reBsO bs zs:=by simp [reBsO,hbox]
    rw [er]
    refine ⟨by simp [j1],fun k b' hk=>?_⟩
    cases k with
    | zero=>simp at hk;subst hk;exact ⟨b,rfl,.inl ⟨hbox,rfl⟩⟩
    | succ k =>
     obtain ⟨b0,g1,g2⟩:=j2 k b' (by simpa using hk)
     exact ⟨b0,by simpa using g1,by simpa using g2⟩
  | true =>
   obtain ⟨x,hx⟩:=List.length_eq_one_iff.1 (h1 b List.mem_cons_self hbox)
   have ec:contO (some b :: bs)=x :: contO bs:=by simp [contO,hbox,hx]
   have eb:boxNs (some b :: bs) (n :: nms)=n :: boxNs bs nms:=by simp [boxNs,hbox]
   rw [ec,eb]
   refine ⟨fun i y hy=>?_,fun zs hz=>?_⟩
   ·cases i with
    | zero=>simp at hy;subst hy;exact ⟨0,b,n,rfl,rfl,rfl,hbox,hx⟩
    | succ i =>
     obtain ⟨k,b0,nm,g1,g2,g3,g4,g5⟩:=i2 i y (by simpa using hy)
     exact ⟨k+1,b0,nm,by simpa using g1,by simpa using g2,by simpa using g3,g4,g5⟩
   ·match zs,hz with
    | z :: zs,hz =>
    obtain ⟨j1,j2⟩:=i3 zs (by simpa using hz)
    have er:reBsO (some b :: bs) (z :: zs)=some ⟨true,b.tys,[z]⟩ :: reBsO bs zs:=by simp [reBsO,hbox]
    rw [er]
    refine ⟨by simp [j1],fun k b' hk=>?_⟩
    cases k with
    | zero=>simp at hk;subst hk;exact ⟨b,rfl,.inr ⟨hbox,0,x,z,rfl,hx,rfl,rfl,rfl⟩⟩
    | succ k =>
     obtain ⟨b0,g1,g2⟩:=j2 k b' (by simpa using hk)
     refine ⟨b0,by simpa using g1,?_⟩
     rcases g2 with g2|⟨g2,i,x',z',g3,g4,g5,g6,g7⟩
     ·exact .inl g2
     ·exact .inr ⟨g2,i+1,x',z',by simpa using g3,g4,by simpa using g5,by simpa using g6,g7⟩
theorem cont_reBs:∀ {bs:List (Option Blk)} {ys:List AV},(∀ b:Blk,some b ∈ bs→b.box=true→b.xs.length=1)→ys.length=(contO bs).length→contO (reBsO bs ys)=ys∧∀ zs,zs.length=ys.length→reBsO (reBsO bs ys) zs=reBsO bs zs
 | [],ys,_,hl=>by
  have:ys=[]:=List.eq_nil_of_length_eq_zero hl
  subst this
  exact ⟨rfl,fun zs _=>by simp [reBsO]⟩
 | none :: bs,ys,h1,hl=>by
  have ec:contO (none :: bs)=contO bs:=by simp [contO]
  rw [ec] at hl
  obtain ⟨i1,i2⟩:=cont_reBs (bs:=bs) (ys:=ys) (fun b hb=>h1 b (List.mem_cons_of_mem _ hb)) hl
  have er:∀ ys,reBsO (none :: bs) ys=none :: reBsO bs ys:=fun ys=>by simp [reBsO]
  have ec':∀ l,contO (none :: l)=contO l:=fun l=>by simp [contO]
  rw [er,ec']
  refine ⟨i1,fun zs hz=>?_⟩
  rw [er]
  simp only [reBsO]
  rw [i2 zs hz]
 | some b :: bs,ys,h1,hl=>by
  have ih:=fun ys=>cont_reBs (bs:=bs) (ys:=ys) fun b hb=>h1 b (List.mem_cons_of_mem _ hb)
  cases hbox:b.box with
  | false =>
   have ec:∀ l,contO (some b :: l)=contO l:=fun l=>by simp [contO,hbox]
   rw [ec] at hl
   obtain ⟨i1,i2⟩:=ih ys hl
   have er:∀ ys,reBsO (some b :: bs) ys=some b :: reBsO bs ys:=fun ys=>by simp [reBsO,hbox]
   rw [er,ec]
   refine ⟨i1,fun zs hz=>?_⟩
   rw [er]
   simp only [reBsO,hbox,cond_false]
   rw [i2 zs hz]
  | true =>
   obtain ⟨x,hx⟩:=List.length_eq_one_iff.1 (h1 b List.mem_cons_self hbox)
   have ec:contO (some b :: bs)=x :: contO bs:=by simp [contO,hbox,hx]
   rw [ec] at hl
   match ys,hl with
   | y :: ys,hl =>
   obtain ⟨i1,i2⟩:=ih ys (by simpa using hl)
   have er:∀ y ys,reBsO (some b :: bs) (y :: ys)=some ⟨true,b.tys,[y]⟩ :: reBsO bs ys:=fun y ys=>by simp [reBsO,hbox]
   have ec':∀ l,contO (some ⟨true,b.tys,[y]⟩ :: l)=y :: contO l:=fun l=>by simp [contO]
   rw [er,ec']
   refine ⟨by rw [i1],fun zs hz=>?_⟩
   match zs,hz with
   | z :: zs,hz =>
   rw [er]
   simp only [reBsO,cond_true]
   rw [i2 zs (by simpa using hz)]
theorem dropO_len (so:List (Option Nm)) (gs:List Nat):∀ (k:Nat) (bs:List (Option Blk)),(dropO so gs k bs).length=bs.length
 | _,[]=>rfl
 | k,some b :: r=>by simp [dropO,dropO_len so gs (k+1) r]
 | k,none :: r=>by simp [dropO,dropO_len so gs (k+1) r]
theorem contO_drop (so:List (Option Nm)) (gs:List Nat):∀ (k:Nat) (bs:List (Option Blk)),contO (dropO so gs k bs)=contO bs
 | _,[]=>rfl
 | k,none :: r=>by
  have ih:=contO_drop so gs (k+1) r
  unfold contO at ih ⊢
  simp only [dropO,List.flatMap_cons,ih]
 | k,some b :: r=>by
  have ih:=contO_drop so gs (k+1) r
  unfold contO at ih ⊢
  simp only [dropO,List.flatMap_cons,ih]
  congr 1
  cases hb:b.box with
  | true=>simp [hb]
  | false =>
   simp only [Bool.not_false,Bool.true_and]
   cases so.any (isGone k) || gs.any (Nat.beq k) <;> simp [hb]
theorem reBsO_drop (so:List (Option Nm)) (gs:List Nat):∀ (k:Nat) (bs:List (Option Blk)) (zs:List AV),reBsO (dropO so gs k bs) zs=dropO so gs k (reBsO bs zs)
 | _,[],zs=>by simp [dropO,reBsO]
 | k,none :: r,zs=>by simp [dropO,reBsO,reBsO_drop so gs (k+1) r]
 | k,some b :: r,zs=>by
  have ih:=reBsO_drop so gs (k+1) r
  cases hb:b.box with
  | true =>
   cases zs with
   | nil=>simp [dropO,reBsO,hb,ih]
   | cons z zs=>simp [dropO,reBsO,hb,ih]
  | false =>
   cases hc:so.any (isGone k) || gs.any (Nat.beq k) with
   | true=>simp only [dropO,hb,hc,Bool.not_false,Bool.true_and,cond_true,cond_false,reBsO,ih]
   | false=>simp only [dropO,hb,hc,Bool.not_false,Bool.true_and,cond_false,reBsO,ih]
theorem dropO_get (so:List (Option Nm)) (gs:List Nat) {b:Blk}:∀ (k0:Nat) (bs:List (Option Blk)) (k:Nat),(dropO so gs k0 bs)[k]?=some (some b)→bs[k]?=some (some b)∧(b.box=true∨∀ i:Nat,so[i]? ≠ some (some [1+(k0+k)]))
 | _,[],k,h=>by simp [dropO] at h
 | k0,none :: r,k,h=>by
  cases k with
  | zero=>simp [dropO] at h
  | succ k =>
   simp only [dropO,List.getElem?_cons_succ] at h
   obtain ⟨h1,h2⟩:=dropO_get so gs (k0+1) r k h
   refine ⟨by simpa using h1,?_⟩
   rw [show k0+(k+1)=k0+1+k by omega]
   exact h2
 | k0,some b0 :: r,k,h=>by
  cases k with
  | zero =>
   simp only [dropO,List.getElem?_cons_zero,Option.some.injEq] at h
   cases hb:b0.box with
   | true =>
    rw [hb] at h
    simp only [Bool.not_true,Bool.false_and,cond_false,Option.some.injEq] at h
    subst h
    exact ⟨rfl,.inl hb⟩
   | false =>
    rw [hb] at h
    cases hc:so.any (isGone k0) || gs.any (Nat.beq k0) with
    | true=>simp [hc] at h
    | false =>
     rw [hc] at h
     simp only [Bool.not_false,Bool.true_and,cond_false,Option.some.injEq] at h
     subst h
     refine ⟨rfl,.inr fun i hi=>?_⟩
     rw [Bool.or_eq_false_iff,List.any_eq_false] at hc
     have:=hc.1 _ (List.mem_of_getElem? hi)
     simp [isGone,nmEq_refl] at this
  | succ k =>
   simp only [dropO,List.getElem?_cons_succ] at h
   obtain ⟨h1,h2⟩:=dropO_get so gs (k0+1) r k h
   refine ⟨by simpa using h1,?_⟩
   rw [show k0+(k+1)=k0+1+k by omega]
   exact h2
theorem zipO_get {nm:Nm} {b:Blk}:∀ {ns:List Nm} {bs:List (Option Blk)} {heap:List (Nm × Blk)},ns.Nodup→bs.length=ns.length→getH ((ns.zip bs).foldl (fun h x=>match x.2 with|some b=>setH h x.1 b|none=>delH h x.1) heap) nm=some b →
  (∃ j:Nat,ns[j]?=some nm∧bs[j]?=some (some b))∨(nm ∉ ns∧getH heap nm=some b)
 | [],bs,heap,_,hl,h => .inr ⟨by simp,by simpa using h⟩
 | n :: ns,[],heap,_,hl,h=>by simp at hl
 | n :: ns,o :: bs,heap,hn,hl,h=>by
  rw [List.nodup_cons] at hn
  simp only [List.zip_cons_cons,List.foldl_cons] at h
  rcases zipO_get hn.2 (by simpa using hl) h with ⟨j,h1,h2⟩|⟨h1,h2⟩
  ·exact .inl ⟨j+1,by simpa using h1,by simpa using h2⟩
  ·cases o with
   | some b' =>
    simp only at h2
    rw [getH_setH] at h2
    split at h2
    ·rename_i e
     subst e
     obtain rfl:=Option.some.inj h2
     exact .inl ⟨0,rfl,rfl⟩
    ·rename_i e
     exact .inr ⟨by simp [h1];exact fun e'=>e e'.symm,h2⟩
   | none =>
    simp only at h2
    rw [getH_delH] at h2
    split at h2
    ·cases h2
    ·rename_i e
     exact .inr ⟨by simp [h1];exact fun e'=>e e'.symm,h2⟩
end
end Go.Proofs.VE

namespace Go.Proofs.VE
open Go
def valCells:AV→Value→Nat→Option Value
 | .agg _,.agg arr,j=>arr[j]?
 | .agg _,_,_=>none
 | _,u,0=>some u
 | _,_,_=>none
section
variable {P:Program} {C C' C2:Ctx} {nt:Nat} {st:St} {a:Act} {w w':World} {heap:List (Nm × Blk)}
theorem valCells_rel {x:AV} {u:Value} (h:VR C x u):CRel C x (valCells x u):=by
 by_cases hx:∃ cs,x = .agg cs
 ·obtain ⟨cs,rfl⟩:=hx
  obtain ⟨vs,rfl,k1,k2,k3⟩:=h.agg_inv
  intro j c hc
  have hj:j<vs.length:=by
   have:=(List.getElem?_eq_some_iff.1 (show cs[j]?=some c from hc)).1
   omega
  refine ⟨vs[j],by simp [valCells,hj],k2 j c _ hc (List.getElem?_eq_getElem hj)⟩
 ·have hn:∀ cs,x ≠ .agg cs:=fun cs e=>hx ⟨cs,e⟩
  intro j c hc
  rw [cells_one hn] at hc
  cases j with
  | zero =>
   simp at hc
   subst hc
   refine ⟨u,?_,h⟩
   cases x <;> first|rfl|exact absurd rfl (hn _)
  | succ j=>simp at hc
theorem valCells_back {x z:AV} {u:Value} (hs:SameSh x z) (h:VR C x u) (hr:CRel C2 z (valCells x u)):VR C2 z u:=by
 rcases hs with ⟨cs,zs,rfl,rfl,hl⟩|⟨h1,h2⟩
 ·obtain ⟨vs,rfl,k1,k2,k3⟩:=h.agg_inv
  refine .agg zs vs (hl.trans k1) (fun i c v hc hv=>?_) k3
  obtain ⟨u,e1,e2⟩:=hr i c hc
  have:vs[i]?=some u:=by simpa [valCells] using e1
  rw [hv] at this
  obtain rfl:=Option.some.inj this
  exact e2
 ·obtain ⟨u',e1,e2⟩:=hr 0 z (by rw [cells_one h2];rfl)
  have:u=u':=by
   have e:valCells x u 0=some u:=by cases x <;> first|rfl|exact absurd rfl (h1 _)
   rw [e] at e1
   exact Option.some.inj e1
  rw [this]
  exact e2
theorem fmap_inj {s:Nm}:∀ {so:List (Option Nm)} {i j:Nat},(so.filterMap id).Nodup→so[i]?=some (some s)→so[j]?=some (some s)→i=j
 | [],i,j,_,h,_=>by simp at h
 | o :: so,i,j,hn,h1,h2=>by
  have mem:∀ {k:Nat},so[k]?=some (some s)→s ∈ so.filterMap id:=fun h=>List.mem_filterMap.2 ⟨some s,List.mem_of_getElem? h,rfl⟩
  have hn':(so.filterMap id).Nodup:=by
   cases o with
   | none=>simpa using hn
   | some x=>simp only [List.filterMap_cons,id] at hn;exact (List.nodup_cons.1 hn).2
  cases i with
  | zero =>
   simp at h1
   subst h1
   cases j with
   | zero=>rfl
   | succ j =>
    simp only [List.filterMap_cons,id] at hn
    exact absurd (mem (by simpa using h2)) (List.nodup_cons.1 hn).1
  | succ i =>
   cases j with
   | zero =>
    simp at h2
    subst h2
    simp only [List.filterMap_cons,id] at hn
    exact absurd (mem (by simpa using h1)) (List.nodup_cons.1 hn).1
   | succ j =>
    have:=fmap_inj (s:=s) (so:=so) (i:=i) (j:=j) hn' (by simpa using h1) (by simpa using h2)
    omega
theorem foldH_get {nm:Nm} {b:Blk}:∀ (l:List (Nm × Blk)) (h:List (Nm × Blk)),getH ((l.map fun x=>(x.1,some x.2)).foldl (fun h x=>match x.2 with|some b=>setH h x.1 b|none=>delH h x.1) h) nm=some b →
  (∃ i:Nat,l[i]?=some (nm,b))∨(nm ∉ l.map (·.1)∧getH h nm=some b)
 | [],h,hg => .inr ⟨by simp,hg⟩
 | x :: l,h,hg=>by
  simp only [List.map_cons,List.foldl_cons] at hg
  rcases foldH_get l _ hg with ⟨i,hi⟩|⟨h1,h2⟩
  ·exact .inl ⟨i+1,by simpa using hi⟩
  ·rw [getH_setH] at h2
   split at h2
   ·rename_i e
    obtain rfl:=Option.some.inj h2
    exact .inl ⟨0,by subst e;rfl⟩
   ·rename_i e
    exact .inr ⟨by simp [h1];exact fun e'=>e e'.symm,h2⟩
theorem BlkR.reBox {b1:Blk} {n m:Nm} {x z:AV} (h:BlkR C w n b1) (hbox:b1.box=true) (hx:b1.xs=[x]) (hsh:SameSh x z) (hr:CRel C' z (fun j=>w.cell? (C.at n 0 j))) (hd:C'.dat m=C.dat n) (hb:C'.base=C.base) :
  BlkR C' w m ⟨true,b1.tys,[z]⟩:=by
 obtain ⟨k1,k2⟩:=h.box hbox
 have hcell:=h.cells 0 x (by rw [hx];rfl)
 have hlen:=h.len
 rw [hx] at hlen
 refine ⟨by show 1≤maxLen;decide,by unfold Ctx.len;rw [hd];exact hlen,(fun h=>by cases h),fun _=>⟨rfl,by unfold Ctx.real;rw [hd];exact k2⟩,by unfold Ctx.real;rw [hd];exact fun hr=>absurd (h.nilb hr) (by rw [hx];simp),fun i y hy=>?_,?_,by unfold Ctx.real Ctx.loc Ctx.room Ctx.width;rw [hd];exact h.froz⟩
 ·cases i with
  | succ i=>simp at hy
  | zero =>
   simp at hy
   subst hy
   refine ⟨by unfold Ctx.width;rw [hd];exact hsh.len.trans hcell.1,fun j c hc=>?_⟩
   obtain ⟨u,e1,e2⟩:=hr j c hc
   have hj:j<x.cells.length:=by
    have:=(List.getElem?_eq_some_iff.1 hc).1
    have:=hsh.len
    omega
   obtain ⟨u',g1,g2,_⟩:=hcell.2 j _ (List.getElem?_eq_getElem hj)
   have:w.cell? (C.at n 0 j)=some u:=e1
   rw [this] at g1
   obtain rfl:=Option.some.inj g1
   exact ⟨u,by unfold Ctx.at Ctx.loc Ctx.width;rw [hd];exact this,g2,e2⟩
 ·unfold Ctx.real Ctx.loc Ctx.room Ctx.width
  rw [hd,hb]
  have:=h.room
  rw [hx] at this
  exact this
theorem BlkR.none {n:Nm} {tys:List CT} (hd:C.dat n=⟨false,(0,0),tys.length,0,0⟩):BlkR C w n ⟨false,tys,[]⟩ :=
 ⟨Nat.zero_le _,by unfold Ctx.len;rw [hd];rfl,fun _=>by unfold Ctx.width;rw [hd],(fun h=>by cases h),fun _=>rfl,(fun i x h=>by simp at h),(fun h=>by unfold Ctx.real at h;rw [hd] at h;cases h),fun h=>by unfold Ctx.real at h;rw [hd] at h;cases h⟩
theorem argN_get {n j:Nat} (h:j<n):(argN n)[j]?=some [1+j]:=by
 unfold argN
 rw [List.getElem?_map,List.getElem?_range h]
 rfl
theorem keepG_inv {n:Nat} {ts:List TypeId} {gs:List Nat} {v:AV} {hp:List (Nm × Blk)} {rs:List AV} {bs':List (Option Blk)} (h:∀ K,keepG P n ts gs K v hp=K rs bs') :
  ∃ vs ys so,unpkA ts v=some vs∧exVs P n hp (ts.map some++(contO (argB hp n)).map fun _=>none) (vs++contO (argB hp n))=some (ys,so)∧(so.filterMap id).Nodup∧rs=ys.take vs.length∧bs'=dropO so gs 0 (reBsO (argB hp n) (ys.drop vs.length)):=by
 classical
 have e:=h fun r b=>if r=rs∧b=bs' then some .undef else none
 rw [if_pos ⟨rfl,rfl⟩] at e
 unfold keepG at e
 split at e
 ·rename_i vs h2
  split at e
  ·rename_i ys so h3
   cases hn:nodupN (so.filterMap id) with
   | false=>rw [hn] at e;cases e
   | true =>
    rw [hn] at e
    simp only [cond_true] at e
    split at e
    ·rename_i hc
     exact ⟨vs,ys,so,h2,h3,nodupN_spec _ hn,hc.1.symm,hc.2.symm⟩
    ·cases e
  ·cases e
 ·cases e
end
end Go.Proofs.VE

namespace Go.Proofs.VE
open Go
section
variable {P:Program} {C C':Ctx} {nt:Nat} {st:St} {a:Act} {w w':World} {heap:List (Nm × Blk)}
theorem unpk_vals {ts:List TypeId} {v:AV} {u:Value} {vs:List AV} (h:unpkA ts v=some vs) (hv:VR C' v u) :
  ∃ us:List Value,vs.length=us.length∧(∀ (i:Nat) (x:AV) (y:Value),vs[i]?=some x→us[i]?=some y→VR C' x y) ∧
   ∀ (C2:Ctx) (zs:List AV),zs.length=vs.length→(∀ (i:Nat) (z:AV) (y:Value),zs[i]?=some z→us[i]?=some y→VR C2 z y)→VR C2 (packA zs) u:=by
 unfold unpkA at h
 split at h
 ·obtain rfl:=Option.some.inj h
  refine ⟨[u],rfl,fun i x y hx hy=>?_,fun C2 zs hl hz=>?_⟩
  ·cases i with
   | zero=>simp at hx hy;subst hx;subst hy;exact hv
   | succ i=>simp at hx
  ·obtain ⟨z,rfl⟩:=List.length_eq_one_iff.1 hl
   exact hz 0 z u rfl rfl
 ·cases h
 ·rename_i hno _
  obtain rfl:=Option.some.inj h
  cases hv with
  | tup _ us h1 h2 =>
   refine ⟨us,h1,h2,fun C2 zs hl hz=>?_⟩
   have hne:zs.length ≠ 1:=fun e=>by
    obtain ⟨x,hx⟩:=List.length_eq_one_iff.1 (hl.symm.trans e)
    exact hno x hx
   have:packA zs = .tup zs:=by
    unfold packA
    split
    ·simp at hne
    ·rfl
   rw [this]
   exact .tup zs us (hl.trans h1) hz
 ·cases h
theorem gen_back [Glob] {q:Nm} {ns:List Nm} {ts:List TypeId} {gs:List Nat} {v:AV} {u:Value} {hp:List (Nm × Blk)} {rs:List AV} {bs':List (Option Blk)} (hs:Sim C nt st a w) (hq:cleanS q st=true) (hns:ns.Nodup) (hin:∀ n ∈ ns,∃ b,getH st.heap n=some b)
  (H:HSim C' hp w') (hag:Agree (isLoc [0]) (ctxG C w ns) C') (hv:VR C' v u) (hk:∀ K,keepG P ns.length ts gs K v hp=K rs bs') (hnod:nodupN ((impVs (1 :: q) 0 (rs++contO bs')).2.map (·.1))=true) :
  ∃ C2,Agree (under q) C C2∧Sim C2 nt ⟨st.env,((ns.zip ((reBsO bs' ((((impVs (1 :: q) 0 (rs++contO bs')).1).map (un2 ns)).drop rs.length)))++(impVs (1 :: q) 0 (rs++contO bs')).2.map fun x=>(x.1,some x.2)).foldl
    (fun h x=>match x.2 with|some b=>setH h x.1 b|none=>delH h x.1) st.heap)⟩ a w' ∧
   VR C2 (packA ((((impVs (1 :: q) 0 (rs++contO bs')).1).map (un2 ns)).take rs.length)) u:=by
 obtain ⟨vs,ys,so,k2,k3,k4,k5,k6⟩:=keepG_inv hk
 obtain ⟨bs,hbs⟩:∃ bs,bs=argB hp ns.length:=⟨_,rfl⟩
 rw [← hbs] at k3 k6
 have hbl:bs.length=ns.length:=by rw [hbs];simp [argB,argN]
 have hblk:∀ (k:Nat) (b:Blk),bs[k]?=some (some b)→getH hp [1+k]=some b∧k<ns.length:=fun k b h=>by
  have hk:k<ns.length:=by
   have:=(List.getElem?_eq_some_iff.1 h).1
   omega
  rw [hbs] at h
  unfold argB at h
  rw [List.getElem?_map,argN_get hk] at h
  exact ⟨Option.some.inj h,hk⟩
 have hone:∀ b:Blk,some b ∈ bs→b.box=true→b.xs.length=1:=fun b hb hbox=>by
  obtain ⟨k,hk⟩:=List.getElem?_of_mem hb
  exact ((H.blk _ b (hblk k b hk).1).box hbox).1
 obtain ⟨us,hul,huv,hu⟩:=unpk_vals k2 hv
 obtain ⟨r2,r3⟩:=cont_rel (bs:=bs) (nms:=argN ns.length) (by simp [argN,hbl]) hone
 obtain ⟨g,hg⟩:∃ g:Nat→Nat→Option Value,g=fun k j=>match vs[k]?,us[k]? with
  | some x,some y=>valCells x y j
  | _,_=>match (boxNs bs (argN ns.length))[k - vs.length]? with
   | some nm=>w'.cell? (C'.at nm 0 j)
   | none=>none:=⟨_,rfl⟩
 have gR:∀ (k:Nat) (x:AV) (y:Value),vs[k]?=some x→us[k]?=some y→g k=valCells x y:=fun k x y hx hy=>by
  rw [hg];funext j;simp only [hx,hy]
 have gB:∀ (i:Nat) (nm:Nm),(boxNs bs (argN ns.length))[i]?=some nm→g (vs.length+i)=fun j=>w'.cell? (C'.at nm 0 j):=fun i nm h=>by
  rw [hg];funext j
  have e:vs[vs.length+i]?=none:=by simp
  simp only [e,show vs.length+i - vs.length=i by omega,h]
 obtain ⟨tb,t1,t2,t3,t4⟩:=exVs_imp (ns:=ns) (g:=g) k3 (1 :: q) 0 0 (by simp) (fun j x hx=>by
  rw [Nat.zero_add]
  by_cases hj:j<vs.length
  ·rw [List.getElem?_append_left hj] at hx
   obtain ⟨y,hy⟩:∃ y,us[j]?=some y:=⟨_,List.getElem?_eq_getElem (by omega)⟩
   rw [gR j x y hx hy]
   exact valCells_rel (huv j x y hx hy)
  ·rw [List.getElem?_append_right (by omega)] at hx
   obtain ⟨k,b,nm,e1,e2,e3,e4,e5⟩:=r2 _ x hx
   have e6:=gB _ nm e3
   rw [show vs.length+(j - vs.length)=j by omega] at e6
   rw [e6]
   obtain ⟨f1,f2⟩:=hblk k b e1
   rw [argN_get f2] at e2
   obtain rfl:=Option.some.inj e2
   intro j' c hc
   obtain ⟨y,h1,_,h3⟩:=((H.blk _ b f1).cells 0 x (by rw [e5];rfl)).2 j' c hc
   rw [e4] at h3
   exact ⟨y,h1,h3⟩)
 have hyl:ys.length=vs.length+(contO bs).length:=by rw [t2,List.length_append]
 obtain ⟨c1,c2⟩:=cont_reBs (bs:=bs) (ys:=ys.drop vs.length) hone (by rw [List.length_drop];omega)
 have hrl:rs.length=vs.length:=by rw [k5,List.length_take];omega
 have hall:rs++contO bs'=ys:=by rw [k5,k6,contO_drop,c1,List.take_append_drop]
 rw [hall] at hnod ⊢
 rw [hrl]
 have hIl:=impVs_len (1 :: q) 0 ys
 obtain ⟨Z,hZ⟩:∃ Z,Z=(impVs (1 :: q) 0 ys).1.map (un2 ns):=⟨_,rfl⟩
 obtain ⟨I,hI⟩:∃ I,I=(impVs (1 :: q) 0 ys).2:=⟨_,rfl⟩
 rw [← hZ] at t3 t4 ⊢
 have hund:∀ x ∈ I,under q x.1=true:=fun x hx=>by
  rw [hI] at hx
  exact under_trans (impVs_under (1 :: q) ys 0 x hx) ((under_iff _ _).2 ⟨[1],rfl⟩)
 rw [← hI] at t1 hnod ⊢
 have hZl:Z.length=ys.length:=by rw [hZ,List.length_map,hIl]
 rw [k6,reBsO_drop,c2 (Z.drop vs.length) (by rw [List.length_drop,List.length_drop,hZl])]
 obtain ⟨s1,s2⟩:=r3 (Z.drop vs.length) (by rw [List.length_drop];omega)
 have hnod:=nodupN_spec _ hnod
 have hnames:=t1.names
 have hget:∀ x ∈ tb,(C.setAll tb).dat x.1=x.2:=setAll_get (by rw [hnames];exact hnod)
 have hundT:∀ x ∈ tb,under q x.1=true:=fun x hx=>by
  have:x.1 ∈ I.map (·.1):=by rw [← hnames];exact List.mem_map.2 ⟨x,hx,rfl⟩
  obtain ⟨y,hy,e⟩:=List.mem_map.1 this
  rw [← e]
  exact hund y hy
 have hagS:Agree (under q) C (C.setAll tb):=setAll_agree hundT
 obtain ⟨C2,hC2⟩:∃ C2:Ctx,C2={ C.setAll tb with mem:=C'.mem,memF:=C'.memF }:=⟨_,rfl⟩
 have d2:∀ m,C2.dat m=(C.setAll tb).dat m:=fun m=>by rw [hC2]
 have m2:C2.mem=C'.mem:=by rw [hC2]
 have mF2:C2.memF=C'.memF:=by rw [hC2]
 have base2:C2.base=C.base:=by rw [hC2];rfl
 have w02:C2.w0=C.w0:=by rw [hC2];rfl
 have fr2:C2.fr=C.fr:=by rw [hC2];rfl
 have baseC':C'.base=C.base:=hag.base
 have w0C':C'.w0=w:=hag.w0
 have frC':∀ k,C'.fr k ↔ (k<w.heap.size∧∀ n ∈ ns,C.real n=true→(C.loc n).1 ≠ k):=fun k=>by rw [hag.fr];exact Iff.rfl
 have frFr:∀ k,C.fr k→C'.fr k:=fun k hk=>(frC' k).2 ⟨Nat.lt_of_lt_of_le (hs.frame k hk).1 hs.kept.size,fun n hn hr=>by
  obtain ⟨b,hb⟩:=hin n hn
  exact (hs.frame k hk).2.2 n b hb hr⟩
 have hA:Agree (under q) C C2:=by
  refine ⟨base2,w02,fun ad y h=>by rw [m2];exact hag.mem ad y h,fun ad y h=>by rw [mF2];exact hag.memF ad y h,fun ad y h hn=>by rw [mF2];exact hag.old ad y h hn,fun nm hn=>by rw [d2];exact hagS.dat nm hn,fr2,fun ad y h=>?_⟩
  rw [m2] at h
  rcases hag.new ad y h with h|⟨h1,h2⟩
  ·exact .inl h
  ·refine .inr ⟨by rw [mF2];exact h1,fun hf=>h2 ?_⟩
   have:=frFr _ hf
   rw [hag.fr] at this
   exact this
 have hq':=hq
 unfold cleanS at hq'
 rw [Bool.and_eq_true] at hq'
 have clean:∀ nm b,getH st.heap nm=some b→under q nm=false∧(b.box=true→∀ x ∈ b.xs,menV (under q) x=false):=cleanH_get hq'.2
 have datN:∀ (k:Nat) (nm:Nm),ns[k]?=some nm→C2.dat nm=C'.dat [1+k]:=fun k nm h=>by
  obtain ⟨b,hb⟩:=hin nm (List.mem_of_getElem? h)
  rw [hA.dat nm (clean nm b hb).1,hag.dat [1+k] rfl,ctxG_dat h]
 have L:LinkG C' C2 ns.length ns:=⟨fun j j1 j2=>by
  obtain ⟨m,hm⟩:∃ m,ns[j - 1]?=some m:=⟨_,List.getElem?_eq_getElem (by omega)⟩
  have:=datN (j - 1) m hm
  rw [show 1+(j - 1)=j by omega] at this
  exact ⟨m,hm,this⟩,fun ad y h=>by rw [m2];exact h⟩
 have hdt:∀ z ∈ tb,C2.dat z.1=z.2:=fun z hz=>by rw [d2];exact hget z hz
 have from_:∀ nm b,getH ((ns.zip (dropO so gs 0 (reBsO bs (Z.drop vs.length)))++I.map fun x=>(x.1,some x.2)).foldl (fun h x=>match x.2 with|some b=>setH h x.1 b|none=>delH h x.1) st.heap) nm=some b →
   BlkR C2 w' nm b∧((∃ (s:Nm) (b0:Blk),getH hp s=some b0∧C2.dat nm=C'.dat s∧((∃ k:Nat,ns[k]?=some nm∧s=[1+k]∧∀ i:Nat,so[i]? ≠ some (some s))∨(∃ i:Nat,I[i]?=some (nm,b)∧so[i]?=some (some s)))) ∨
    C2.real nm=false∨(getH st.heap nm=some b∧C2.dat nm=C.dat nm∧nm ∉ ns)):=by
  intro nm b hgb
  rw [List.foldl_append] at hgb
  rcases foldH_get I _ hgb with ⟨i,hi⟩|⟨hni,hgb⟩
  ·obtain ⟨D,e1,e2⟩:=t1.get i (nm,b) hi
   have hD:C2.dat nm=D:=hdt _ (List.mem_of_getElem? e1)
   rcases e2 with ⟨s,f1,f2,f3,rfl⟩|⟨f1,f2,rfl⟩
   ·exact ⟨(H.blk s b f2).carry hD (by rw [base2,baseC'];exact Nat.le_refl _) f3 fun ad y h=>by rw [mF2];exact h,.inl ⟨s,b,f2,hD,.inr ⟨i,hi,f1⟩⟩⟩
   ·have hb:b=⟨false,b.tys,[]⟩:=by
     have f1:b.box=false:=f1
     have f2:b.xs=[]:=f2
     rw [← f1,← f2]
    refine ⟨by rw [hb];exact BlkR.none hD,.inr (.inl (by unfold Ctx.real;rw [hD]))⟩
  ·rcases zipO_get (nm:=nm) (ns:=ns) (bs:=dropO so gs 0 (reBsO bs (Z.drop vs.length))) (heap:=st.heap) hns ((dropO_len _ _ _ _).trans (s1.trans hbl)) hgb with ⟨k,h1,h2⟩|⟨h1,h2⟩
   ·obtain ⟨h2,h4⟩:=dropO_get so gs 0 _ k h2
    rw [Nat.zero_add] at h4
    obtain ⟨b0,g1,g2⟩:=s2 k b h2
    obtain ⟨f1,f2⟩:=hblk k b0 g1
    have hd:=datN k nm h1
    have hno:∀ i:Nat,so[i]? ≠ some (some [1+k]):=by
     rcases h4 with h4|h4
     ·intro i hi
      have hbox0:b0.box=true:=by
       rcases g2 with ⟨g2,rfl⟩|⟨g2,_⟩
       ·exact h4
       ·exact g2
      obtain ⟨b9,q2,q3⟩:=t1.flat i _ hi
      rw [f1] at q2
      obtain rfl:=Option.some.inj q2
      rw [hbox0] at q3
      cases q3
     ·exact h4
    refine ⟨?_,.inl ⟨[1+k],b0,f1,hd,.inl ⟨k,h1,rfl,hno⟩⟩⟩
    rcases g2 with ⟨g2,rfl⟩|⟨g2,i,x,z,g3,g4,g5,g6,rfl⟩
    ·exact (H.blk _ b f1).carry hd (by rw [base2,baseC'];exact Nat.le_refl _) g2 fun ad y h=>by rw [mF2];exact h
    ·rw [argN_get f2] at g6
     rw [List.getElem?_drop] at g5
     have e1:=t4 C2 L hdt (vs.length+i) z g5
     rw [Nat.zero_add,gB i _ g6] at e1
     exact (H.blk _ b0 f1).reBox g2 g4 (t3 (vs.length+i) x z (by rw [List.getElem?_append_right (by omega),show vs.length+i - vs.length=i by omega];exact g3) g5) e1 hd (by rw [base2,baseC'])
   ·skip
    have hd:=hA.dat nm (clean nm b h2).1
    refine ⟨?_,.inr (.inr ⟨h2,hd,h1⟩)⟩
    refine BlkR.move hA ((hs.blk nm b h2).world (fun hr=>?_) (by have:=H.kept.size;rw [w0C'] at this;exact this)) (clean nm b h2).1 (clean nm b h2).2
    have hf:C'.fr (C.loc nm).1:=(frC' _).2 ⟨((hs.blk nm b h2).room hr).2.1,fun n hn hrn=>by
     obtain ⟨b',hb'⟩:=hin n hn
     exact hs.apart n b' nm b hb' h2 hrn hr fun e=>h1 (e ▸ hn)⟩
    have:=(H.frame _ hf).2.1
    rw [w0C'] at this
    exact this
 have oldFr:∀ nm b,getH st.heap nm=some b→nm ∉ ns→C.real nm=true→C'.fr (C.loc nm).1:=fun nm b h2 h1 hr=>(frC' _).2 ⟨((hs.blk nm b h2).room hr).2.1,fun n hn hrn=>by
  obtain ⟨b',hb'⟩:=hin n hn
  exact hs.apart n b' nm b hb' h2 hrn hr fun e=>h1 (e ▸ hn)⟩
 have locOf:∀ {nm s},C2.dat nm=C'.dat s→C2.real nm=C'.real s∧(C2.loc nm).1=(C'.loc s).1:=fun h=>⟨by unfold Ctx.real;rw [h],by unfold Ctx.loc;rw [h]⟩
 have locOld:∀ {nm},C2.dat nm=C.dat nm→C2.real nm=C.real nm∧(C2.loc nm).1=(C.loc nm).1:=fun h=>⟨by unfold Ctx.real;rw [h],by unfold Ctx.loc;rw [h]⟩
 refine ⟨C2,hA,?_,?_⟩
 ·refine { toHSim:=⟨fun nm b h=>(from_ nm b h).1,fun nm b nm' b' h h' hr hr' hne=>?_,fun ad y h=>?_,by have:=H.grown;rw [baseC'] at this;rw [base2];exact this,?_,fun ad y h hn=>?_,fun ad y h=>?_,by rw [w02,base2];exact hs.glob,fun k hk=>?_⟩,size:=hs.size,defers:=hs.defers,env:=fun t=>(hs.env t).move hA (cleanE_get hq'.1 t) }
  ·obtain ⟨_,o⟩:=from_ nm b h
   obtain ⟨_,o'⟩:=from_ nm' b' h'
   rcases o with ⟨s,b0,p1,p2,p3⟩|o|⟨p1,p2,p3⟩
   ·obtain ⟨l1,l2⟩:=locOf p2
    rcases o' with ⟨s',b0',p1',p2',p3'⟩|o'|⟨p1',p2',p3'⟩
    ·obtain ⟨l1',l2'⟩:=locOf p2'
     rw [l2,l2']
     refine H.apart s b0 s' b0' p1 p1' (l1 ▸ hr) (l1' ▸ hr') fun e=>?_
     subst e
     rcases p3 with ⟨k,f1,f2,f3⟩|⟨i,f1,f2⟩
     ·rcases p3' with ⟨k',f1',f2',f3'⟩|⟨i',f1',f2'⟩
      ·rw [f2] at f2'
       have:k=k':=by simp at f2';omega
       subst this
       rw [f1] at f1'
       exact hne (Option.some.inj f1')
      ·exact absurd f2' (f3 i')
     ·rcases p3' with ⟨k',f1',f2',f3'⟩|⟨i',f1',f2'⟩
      ·exact absurd f2 (f3' i)
      ·have:=fmap_inj k4 f2 f2'
       subst this
       rw [f1] at f1'
       exact hne (Prod.mk.inj (Option.some.inj f1')).1
    ·rw [o'] at hr';cases hr'
    ·obtain ⟨l1',l2'⟩:=locOld p2'
     rw [l2,l2']
     exact (H.frame _ (oldFr nm' b' p1' p3' (l1' ▸ hr'))).2.2 s b0 p1 (l1 ▸ hr)
   ·rw [o] at hr;cases hr
   ·obtain ⟨l1,l2⟩:=locOld p2
    rcases o' with ⟨s',b0',p1',p2',p3'⟩|o'|⟨p1',p2',p3'⟩
    ·obtain ⟨l1',l2'⟩:=locOf p2'
     rw [l2,l2']
     exact fun e=>(H.frame _ (oldFr nm b p1 p3 (l1 ▸ hr))).2.2 s' b0' p1' (l1' ▸ hr') e.symm
    ·rw [o'] at hr';cases hr'
    ·obtain ⟨l1',l2'⟩:=locOld p2'
     rw [l2,l2']
     exact hs.apart nm b nm' b' p1 p1' (l1 ▸ hr) (l1' ▸ hr') hne
  ·rw [m2] at h
   obtain ⟨q1,q2,q3⟩:=H.mem ad y h
   refine ⟨q1,q2,fun nm b hb hr=>?_⟩
   obtain ⟨_,o⟩:=from_ nm b hb
   rcases o with ⟨s,b0,p1,p2,p3⟩|o|⟨p1,p2,p3⟩
   ·obtain ⟨l1,l2⟩:=locOf p2
    rw [l2]
    exact q3 s b0 p1 (l1 ▸ hr)
   ·rw [o] at hr;cases hr
   ·obtain ⟨l1,l2⟩:=locOld p2
    rw [l2]
    rcases hag.new ad y h with h|⟨_,h2⟩
    ·exact (hs.mem ad y h).2.2 nm b p1 (l1 ▸ hr)
    ·intro e
     have:=oldFr nm b p1 p3 (l1 ▸ hr)
     rw [e,hag.fr] at this
     exact h2 this
  ·rw [base2,w02]
   have:=H.kept
   rw [baseC',w0C'] at this
   exact hs.kept.trans this
  ·rw [m2] at h
   rw [mF2] at hn
   rw [w02]
   have e1:=H.blk0 ad y h hn
   rw [w0C'] at e1
   rcases hag.new ad y h with h|⟨h1,_⟩
   ·refine e1.trans (hs.blk0 ad y h ?_)
    cases hm:C.memF ad with
    | none=>rfl
    | some z=>rw [hag.memF ad z hm] at hn;cases hn
   ·rw [h1] at hn;cases hn
  ·rw [mF2] at h
   rw [m2,base2,← baseC']
   exact H.own ad y h
  ·rw [fr2] at hk
   obtain ⟨f1,f2,f3⟩:=hs.frame k hk
   obtain ⟨_,f5,f6⟩:=H.frame k (frFr k hk)
   rw [w0C'] at f5
   refine ⟨by rw [w02];exact f1,by rw [w02];exact f5.trans f2,fun nm b hb hr=>?_⟩
   obtain ⟨_,o⟩:=from_ nm b hb
   rcases o with ⟨s,b0,p1,p2,p3⟩|o|⟨p1,p2,p3⟩
   ·obtain ⟨l1,l2⟩:=locOf p2
    rw [l2]
    exact f6 s b0 p1 (l1 ▸ hr)
   ·rw [o] at hr;cases hr
   ·obtain ⟨l1,l2⟩:=locOld p2
    rw [l2]
    exact f3 nm b p1 (l1 ▸ hr)
 ·refine hu C2 _ (by rw [List.length_take];omega) fun i z y hz hy=>?_
  have hi:i<vs.length:=by
   have:=(List.getElem?_eq_some_iff.1 hy).1
   omega
  rw [List.getElem?_take_of_lt hi] at hz
  obtain ⟨x,hx⟩:∃ x,vs[i]?=some x:=⟨_,List.getElem?_eq_getElem hi⟩
  have e1:=t4 C2 L hdt i z hz
  rw [Nat.zero_add,gR i x y hx hy] at e1
  exact valCells_back (t3 i x z (by rw [List.getElem?_append_left hi];exact hx) hz) (huv i x y hx hy) e1
end
end Go.Proofs.VE

namespace Go.Proofs.VE
open Go
section
variable {P:Program} {C C':Ctx} {nt:Nat} {st:St} {a:Act} {w w':World} {heap:List (Nm × Blk)}
theorem Eff.wp [Glob] {π:Nm} {o:Oper} {st':St} {next:Act→World→Prop} {Q:Exit→Act→World→Prop} (h:Eff P π C nt o a w st')
  (hk:∀ C' a' w',Sim C' nt st' a' w'→Agree (isLoc π) C C'→next a' w'):o.wp P a w next Q:=by
 obtain ⟨C',n,u,w',h1,h2,h3,h4⟩:=h
 unfold Oper.wp
 rw [h1]
 rcases h2 with rfl|⟨rfl,rfl⟩
 ·exact hk C' _ w' h4 h3
 ·exact hk C' _ w' h4 h3
theorem addH_eq:∀ (l heap:List (Nm × Blk)),(∀ x ∈ l,getH heap x.1=none)→(l.map (·.1)).Nodup →
  addH heap l=some ((l.map fun x=>(x.1,some x.2)).foldl (fun h (x:Nm × Option Blk)=>match x.2 with|some b=>setH h x.1 b|none=>delH h x.1) heap)
 | [],_,_,_=>rfl
 | (m,b) :: r,heap,h,hn=>by
  rw [List.map_cons,List.nodup_cons] at hn
  unfold addH
  rw [h (m,b) List.mem_cons_self]
  simp only [List.map_cons,List.foldl_cons]
  refine addH_eq r _ (fun x hx=>?_) hn.2
  rw [getH_setH,if_neg (fun e=>hn.1 (List.mem_map.2 ⟨x,hx,e.symm⟩))]
  exact h x (List.mem_cons_of_mem _ hx)
theorem effW_sound [Glob] {cf:Cfg} {π:Nm} {o:Oper} {wr:Wr} {next:Act→World→Prop} {Q:Exit→Act→World→Prop} (hP:cf.P=P) (hF:FOK P cf)
  (hd:∀ d,o.dst=some d→d<nt) (hs:Sim C nt st a w) (h:effW cf π st o=some (true,wr))
  (hk:∀ C' a' w',Sim C' nt (wr.on st) a' w'→Agree (isLoc π) C C'→next a' w'):o.wp P a w next Q:=by
 subst hP
 unfold effW at h
 split at h
 ·
  rename_i t d hop ho
  split at h
  ·rename_i z hz
   cases hc:okV z && cleanS (d :: π) st with
   | false=>rw [hc] at h;simp at h
   | true =>
    rw [hc] at h
    rw [Bool.and_eq_true] at hc
    simp only [cond_true,Option.some.injEq,Prod.mk.injEq,true_and] at h
    subst h
    exact (alloc_eff (hd d ho) ho hop hs hz hc.1 hc.2).wp hk
  ·cases h
 ·
  rename_i t x d hop ho
  cases hc:okV (opA st.env x) && cleanS (d :: π) st with
  | false=>rw [hc] at h;simp at h
  | true =>
   rw [hc] at h
   rw [Bool.and_eq_true] at hc
   simp only [cond_true,Option.some.injEq,Prod.mk.injEq,true_and] at h
   subst h
   exact (box_eff (hd d ho) ho hop hs hc.1 hc.2).wp hk
 ·
  rename_i t n parts d hop ho
  split at h
  ·rename_i e he
   split at h
   ·rename_i xs ns hfr
    revert h
    generalize hc:(cleanS (d :: π) st && Nat.beq parts.size n && Nat.ble n 16777216 && (parts.toList.map (·.1) == List.range n) && Nat.ble (n*cf.P.cellsOf e) 16777216 && Nat.beq (ctsT cf.P 6 e).length (cf.P.cellsOf e) && zeroOK cf.P e)=bb
    intro h
    cases bb with
    | false=>simp at h
    | true =>
     simp only [Bool.and_eq_true,beq_iff_eq] at hc
     obtain ⟨⟨⟨⟨⟨⟨c1,c2⟩,c2b⟩,c3⟩,c4⟩,c5⟩,c6⟩:=hc
     simp only [cond_true,Option.some.injEq,Prod.mk.injEq,true_and] at h
     subst h
     obtain ⟨C1,a1,s1,l1,v1⟩:=frzVs_sound (us:=parts.toList.map fun p=>a.eval p.2) hs.toHSim (by simp) (fun i x u hx hu=>by
      rw [List.getElem?_map] at hx hu
      obtain ⟨p,g1,rfl⟩:=Option.map_eq_some_iff.1 hx
      rw [g1] at hu
      obtain rfl:=Option.some.inj hu
      exact opA_sound hs p.2) hfr
     refine (build_eff (hd d ho) ho hop (hs.frz a1 s1) he (cleanS_dels ns c1) (Nat.eq_of_beq_eq_true c2) (Nat.le_of_ble_eq_true c2b) c3 (Nat.le_of_ble_eq_true c4) (Nat.eq_of_beq_eq_true c5) c6 l1 v1).wp fun C' a' w' h1 h2=>hk C' a' w' ?_ ((a1.mono fun _ h=>by cases h).trans h2)
     rw [Wr.on_gone]
     exact h1
   ·cases h
  ·cases h
 ·
  rename_i t lo co d hop ho
  split at h
  ·rename_i e l c he hl hc
   split at h
   ·rename_i z hz
    revert h
    generalize hb:(cleanS (d :: π) st && zeroOK cf.P e && Nat.beq (ctsT cf.P 6 e).length (cf.P.cellsOf e))=bb
    intro h
    cases bb with
    | false=>simp at h
    | true =>
     simp only [Bool.and_eq_true] at hb
     obtain ⟨⟨c1,c2⟩,c3⟩:=hb
     simp only [cond_true,Option.some.injEq,Prod.mk.injEq,Bool.and_eq_true,decide_eq_true_eq] at h
     obtain ⟨⟨⟨⟨d1,d2⟩,d3⟩,d4⟩,rfl⟩:=h
     exact (make_eff (hd d ho) ho hop hs he hl hc hz c1 c2 (Nat.eq_of_beq_eq_true c3) d1 d2 d3 d4).wp hk
   ·cases h
  ·cases h
 ·
  rename_i t x y hop
  split at h
  ·rename_i nm i off hx
   split at h
   ·rename_i b hb
    split at h
    ·rename_i v ns hfr
     split at h
     ·rename_i b' hst
      cases hz:Nat.beq (cf.P.cellsOf t) 0 || ns.any (nmEq nm) with
      | true=>rw [hz] at h;simp at h
      | false =>
       rw [hz] at h
       simp only [cond_false,Option.some.injEq,Prod.mk.injEq,true_and] at h
       subst h
       rw [Bool.or_eq_false_iff] at hz
       obtain ⟨C1,a1,s1,v1,f1⟩:∃ C1,Agree (fun _=>false) C C1∧HSim C1 (dels ns st.heap) w∧VR C1 v (a.eval y)∧(b.box=false→∀ (j:Nat) (ct:CT) (z:AV) (x:Value),((b.tys.drop off).take (cf.P.cellsOf t))[j]?=some ct→v.cells[j]?=some z→(a.eval y).cells[j]?=some x→VC C1.memF ct z x):=by
        cases hbox:b.box with
        | true =>
         rw [hbox] at hfr
         simp only [cond_true,Option.some.injEq,Prod.mk.injEq] at hfr
         obtain ⟨rfl,rfl⟩:=hfr
         exact ⟨C,Agree.refl _ _,hs.toHSim,opA_sound hs y,fun h=>by cases h⟩
        | false =>
         rw [hbox] at hfr
         simp only [cond_false] at hfr
         obtain ⟨C1,a1,s1,v1,_,_,f1⟩:=frzV_sound hs.toHSim (opA_sound hs y) hfr
         exact ⟨C1,a1,s1,v1,fun _ j ct z x h1 h2 h3=>(f1 j ct z x h1 h2 h3).1⟩
       refine (store_eff (π:=π) hd hop (hs.frz a1 s1) hx (by rw [getH_dels ns _ _ hz.2];exact hb) v1 hst (Nat.ne_of_beq_eq_false hz.1) f1).wp fun C' a' w' h1 h2=>hk C' a' w' ?_ ((a1.mono fun _ h=>by cases h).trans h2)
       rw [Wr.on_gone]
       cases hdst:o.dst with
       | none=>rw [hdst] at h1;exact h1
       | some d=>rw [hdst] at h1;exact h1
     ·cases h
    ·cases h
   ·cases h
  ·cases h
 ·
  rename_i args argTypes d hop ho
  split at h
  ·rename_i x y t t' hargs hts
   split at h
   ·rename_i e tys ys he hy
    revert h
    generalize hb:(cleanS (d :: π) st && Nat.beq t t' && Nat.beq tys.length (cf.P.cellsOf e) && zeroOK cf.P e && !(Nat.beq tys.length 0) && elemsF st.heap (opA st.env y))=bb
    intro h
    cases bb with
    | false=>simp at h
    | true =>
     simp only [Bool.and_eq_true,Bool.not_eq_true'] at hb
     obtain ⟨⟨⟨⟨⟨c1,c2⟩,c3⟩,c4⟩,c5⟩,c6⟩:=hb
     have e2:=Nat.eq_of_beq_eq_true c2
     subst e2
     obtain ⟨A1,A2⟩:=append_eff (hd d ho) ho hop hargs hts hs he hy c1 (Nat.eq_of_beq_eq_true c3) c4 (Nat.ne_of_beq_eq_false c5) c6
     simp only [cond_true] at h
     split at h
     ·rename_i hx
      simp only [Option.some.injEq,Prod.mk.injEq,Bool.and_eq_true,decide_eq_true_eq] at h
      obtain ⟨⟨d1,d2⟩,rfl⟩:=h
      exact (A1 hx d1 d2).wp hk
     ·rename_i nm hx
      split at h
      ·rename_i b hb
       cases hbb:(!b.box && ctsEq tys b.tys) with
       | false=>rw [hbb] at h;simp at h
       | true =>
        rw [hbb] at h
        simp only [Bool.and_eq_true,Bool.not_eq_true'] at hbb
        simp only [cond_true,Option.some.injEq,Prod.mk.injEq,Bool.and_eq_true,decide_eq_true_eq] at h
        obtain ⟨⟨d1,d2⟩,rfl⟩:=h
        exact (A2 nm b hx hb hbb.1 (ctsEq_eq _ _ hbb.2) d1 d2).wp hk
      ·cases h
     ·cases h
   ·cases h
  ·cases h
 ·
  rename_i args argTypes hop
  split at h
  ·rename_i x t hargs hts
   split at h
   ·rename_i e nm lo n he hx
    split at h
    ·rename_i b z hb hz
     cases hc : !b.box && ctsEq b.tys (ctsT cf.P 6 e) && Nat.beq (ctsT cf.P 6 e).length (cf.P.cellsOf e) && zeroOK cf.P e with
     | false=>rw [hc] at h;simp at h
     | true =>
      rw [hc] at h
      simp only [Bool.and_eq_true,Bool.not_eq_true'] at hc
      obtain ⟨⟨⟨c1,c2⟩,c3⟩,c4⟩:=hc
      simp only [cond_true,Option.some.injEq,Prod.mk.injEq,true_and] at h
      subst h
      refine (clear_eff (π:=π) hd hop hargs hts hs he hx hb c1 (ctsEq_eq _ _ c2) (Nat.eq_of_beq_eq_true c3) c4 hz).wp ?_
      cases hdst:o.dst with
      | none=>rw [hdst] at hk;exact hk
      | some d=>rw [hdst] at hk;exact hk
    ·cases h
   ·cases h
  ·cases h
 ·
  rename_i f args argTypes hop
  have hfv:=opA_sound hs f
  split at h
  ·rename_i g caps hf
   rw [hf] at hfv
   have hargs:=ops_VR hs args.toList
   obtain ⟨vs,hfe,hcl,hcv⟩:∃ vs:List Value,a.eval f = .func (.func g) #[] vs.toArray∧caps.length=vs.length∧∀ (i:Nat) (c:AV) (v:Value),caps[i]?=some c→vs[i]?=some v→VR C c v:=by
    generalize a.eval f=u at hfv
    cases hfv with
    | fn _ _ vs h1 h2=>exact ⟨vs,rfl,h1,h2⟩
   have harr:(args.toList.map a.eval++vs).toArray=args.map a.eval++vs.toArray:=by apply Array.ext';simp
   split at h
   ·rename_i m hm
    split at h
    ·rename_i xs cs hxs hcs
     split at h
     ·rename_i gg rv hrv
      obtain ⟨hknown,hmeets⟩:=hF.tree g m hm
      have hgg:gg=true:=by
       split at h
       ·rename_i d _
        cases hcl:cleanS (d :: π) st && nodupN ((impV (1 :: d :: π) rv).2.map (·.1)) with
        | false=>rw [hcl] at h;simp at h
        | true=>rw [hcl] at h;simp only [cond_true,Option.some.injEq,Prod.mk.injEq] at h;exact h.1
       ·simp only [Option.some.injEq,Prod.mk.injEq] at h;exact h.1
      subst hgg
      obtain ⟨g1,g2⟩:=roVals_sound hs (us:=args.toList.map a.eval) (by simp) hargs hxs
      obtain ⟨g3,g4⟩:=capArgs_sound hs hcl hcv hcs
      have hcalls:=hmeets (xs++cs) rv hrv w (args.toList.map a.eval++vs) hs.globW (by simp only [List.length_append,g1,g3]) (fun i x u hx hu=>by
       by_cases hi:i<xs.length
       ·rw [List.getElem?_append_left hi] at hx
        rw [List.getElem?_append_left (by omega)] at hu
        exact g2 i x u hx hu
       ·rw [List.getElem?_append_right (by omega)] at hx hu
        rw [g1] at hx
        exact g4 _ x u hx hu)
      unfold Oper.wp
      rw [run_call hop hfe hknown,Oper.upon_enter,← harr]
      refine hcalls.mono fun e w' he=>?_
      obtain ⟨u,rfl,hbelow,hret⟩:=he
      simp only
      split at h
      ·rename_i d ho
       cases hcl:cleanS (d :: π) st && nodupN ((impV (1 :: d :: π) rv).2.map (·.1)) with
       | false=>rw [hcl] at h;simp at h
       | true =>
        rw [hcl] at h
        rw [Bool.and_eq_true] at hcl
        simp only [cond_true,Option.some.injEq,Prod.mk.injEq,true_and] at h
        subst h
        have hcl':=hcl.1
        unfold cleanS at hcl'
        rw [Bool.and_eq_true] at hcl'
        have hadd:=addH_eq (impV (1 :: d :: π) rv).2 st.heap (fun x hx=>by
         cases hg:getH st.heap x.1 with
         | none=>rfl
         | some b =>
          have:=(cleanH_get hcl'.2 x.1 b hg).1
          rw [under_trans (impV_under _ rv x hx) (under_new d π)] at this
          cases this) (nodupN_spec _ hcl.2)
        obtain ⟨C',k1,k2,k3⟩:=import_sound hs hcl.1 (under_new d π) hbelow hret hadd
        rw [ho]
        exact hk C' _ _ (k2.put k3 (hd d ho)) (k1.mono fun nm=>under_isLoc)
      ·rename_i ho
       simp only [Option.some.injEq,Prod.mk.injEq,true_and] at h
       subst h
       rw [ho]
       exact hk C _ _ (hs.withH (hs.toHSim.world (Below.grownBy hbelow) fun k hk=>by cases hk) hs.env) (Agree.refl _ _)
     ·cases h
    ·cases h
   ·rename_i m hm
    obtain ⟨hknown,hmeets⟩:=hF.wrt g m hm
    unfold mutW at h
    split at h
    ·rename_i bs xs hbs hxs
     split at h
     ·rename_i gg rv bs' hrv
      cases hc:bs.all flatB && bs'.all flatB && retR rv && Nat.beq bs'.length bs.length with
      | false=>rw [hc] at h;simp at h
      | true =>
       rw [hc] at h
       simp only [Bool.and_eq_true] at hc
       obtain ⟨⟨⟨d1,d2⟩,d3⟩,d4⟩:=hc
       simp only [cond_true,Option.some.injEq,Prod.mk.injEq] at h
       obtain ⟨rfl,rfl⟩:=h
       have hvals:∀ (i:Nat) (x:AV) (u:Value),(args.toList.map (opA st.env)++caps)[i]?=some x→(args.toList.map a.eval++vs)[i]?=some u→VR C x u:=fun i x u hx hu=>by
        by_cases hi:i<args.toList.length
        ·rw [List.getElem?_append_left (by simpa using hi)] at hx hu
         exact hargs i x u hx hu
        ·rw [List.getElem?_append_right (by simp at hi ⊢;omega)] at hx hu
         simp only [List.length_map] at hx hu
         exact hcv _ x u hx hu
       have hlen:=Nat.eq_of_beq_eq_true d4
       have M:=fun w'=>mut_sim (bs':=bs') (w':=w') hs.toHSim (dedupN_nodup List.nodup_nil) hbs hxs (by simp [hcl]) hvals d1
       obtain ⟨m1,m2,m3,_⟩:=M w
       have hcalls:=hmeets xs bs rv bs' hrv d1 d2 d3 hlen _ w _ m1 m2 m3
       unfold Oper.wp
       rw [run_call hop hfe hknown,Oper.upon_enter,← harr]
       refine hcalls.mono fun e w' he=>?_
       obtain ⟨u,rfl,k1,k2⟩:=he
       simp only
       have k3:=(M w').2.2.2 hlen d2 k2
       have k4:=uncan_sound k1 d3
       cases hdst:o.dst with
       | none =>
        refine hk C _ _ ?_ (Agree.refl _ _)
        have:=hs.withH k3 hs.env
        simp only [hdst,Wr.on,toD,List.foldl_nil] at this ⊢
        exact this
       | some d =>
        refine hk C _ _ ?_ (Agree.refl _ _)
        have:=(hs.withH k3 hs.env).put k4 (hd d hdst)
        simp only [hdst,Wr.on,toD,List.foldl_nil,List.foldl_cons] at this ⊢
        exact this
     ·cases h
    ·cases h
   ·rename_i m hm
    obtain ⟨hknown,hmeets⟩:=hF.gen g m hm
    split at h
    ·rename_i d hdst
     cases hcl2:cleanS (d :: π) st with
     | false=>rw [hcl2] at h;simp at h
     | true =>
      rw [hcl2] at h
      simp only [cond_true] at h
      unfold genW at h
      split at h
      ·rename_i bs xs hbs hxs
       split at h
       ·rename_i cs hcs
        split at h
        ·rename_i gg rs bs' hrv
         simp only [Bool.cond_eq_ite] at h
         split at h
         ·rename_i hc
          rw [Bool.and_eq_true] at hc
          simp only [Option.some.injEq,Prod.mk.injEq] at h
          obtain ⟨rfl,rfl⟩:=h
          have hvals:∀ (i:Nat) (x:AV) (u:Value),(args.toList.map (opA st.env)++caps)[i]?=some x→(args.toList.map a.eval++vs)[i]?=some u→VR C x u:=fun i x u hx hu=>by
           by_cases hi:i<args.toList.length
           ·rw [List.getElem?_append_left (by simpa using hi)] at hx hu
            exact hargs i x u hx hu
           ·rw [List.getElem?_append_right (by simp at hi ⊢;omega)] at hx hu
            simp only [List.length_map] at hx hu
            exact hcv _ x u hx hu
          have hnd:(closeN st.heap ((args.toList.map (opA st.env)).flatMap namesV++caps.flatMap namesK)).Nodup:=dedupN_nodup List.nodup_nil
          obtain ⟨m1,m2,m3⟩:=gen_enter hs.toHSim hnd hbs hxs hcs (by simp [hcl]) hvals
          obtain ⟨b1,b2⟩:=getAll_get hbs
          obtain ⟨c1,_⟩:=canBs_get hcs
          have hcalls:=hmeets xs cs rs bs' hrv _ w _ m1 m2 m3
          rw [c1.trans b1] at hcalls
          unfold Oper.wp
          rw [run_call hop hfe hknown,Oper.upon_enter,← harr]
          refine hcalls.mono fun e w' he=>?_
          obtain ⟨u,rfl,C',ts,gs,v,hp,k1,k2,k3,k4⟩:=he
          simp only
          obtain ⟨C2,q1,q2,q3⟩:=gen_back hs hcl2 hnd (fun n hn=>by
           obtain ⟨j,hj⟩:=List.getElem?_of_mem hn
           obtain ⟨b,_,hb⟩:=b2 j n hj
           exact ⟨b,hb⟩) k3 k4 k2 k1 hc.2
          rw [hdst]
          exact hk C2 _ _ (q2.put q3 (hd d hdst)) (q1.mono fun nm=>under_isLoc)
         ·cases h
        ·cases h
       ·cases h
      ·cases h
    ·cases h
   ·cases h
  ·cases h
 ·cases h
theorem wr_sound [Glob] {cf:Cfg} {π:Nm} {o:Oper} {wr:Wr} {next:Act→World→Prop} {Q:Exit→Act→World→Prop} (hP:cf.P=P) (hF:FOK P cf)
  (hd:∀ d,o.dst=some d→d<nt) (hs:Sim C nt st a w) (h:wrA cf π st o=some (true,wr))
  (hk:∀ C' a' w',Sim C' nt (wr.on st) a' w'→Agree (isLoc π) C C'→next a' w'):o.wp P a w next Q:=by
 unfold wrA at h
 split at h
 ·rename_i g v hv
  simp only [Option.some.injEq,Prod.mk.injEq] at h
  obtain ⟨rfl,rfl⟩:=h
  rw [hP] at hv
  obtain ⟨u,h1,h2⟩:=val_sound hs hv
  unfold Oper.wp
  rw [h1,Oper.upon_value]
  refine hk C _ _ ?_ (Agree.refl _ _)
  have:=hs.puts h2 hd
  cases hdst:o.dst with
  | none=>rw [hdst] at this;exact this
  | some d=>rw [hdst] at this;exact this
 ·exact effW_sound hP hF hd hs h hk
theorem inl_sound [Glob] {cf:Cfg} {ce:CallE} {π:Nm} {o:Oper} {k:St→Option AV} {r:AV} {next:Act→World→Prop} {Q:Exit→Act→World→Prop} (hP:cf.P=P) (hce:CES cf ce)
  (hd:∀ d,o.dst=some d→d<nt) (hs:Sim C nt st a w) (h:inlO cf ce π st o k=some r)
  (hk:∀ st' C' a' w',k st'=some r→Sim C' nt st' a' w'→Agree (isLoc π) C C'→next a' w'):o.wp P a w next Q:=by
 subst hP
 unfold inlO at h
 split at h
 ·rename_i f args argTypes d hop ho
  have hfv:=opA_sound hs f
  split at h
  ·rename_i g caps hf
   rw [hf] at hfv
   have hargs:=ops_VR hs args.toList
   split at h
   ·rename_i hinl
    cases hcl:cleanS (d :: π) st with
    | false=>rw [hcl] at h;simp at h
    | true =>
     rw [hcl] at h
     simp only [cond_true] at h
     obtain ⟨vs,hfe,hl,hv⟩:∃ vs:List Value,a.eval f = .func (.func g) #[] vs.toArray∧caps.length=vs.length∧∀ (i:Nat) (c:AV) (v:Value),caps[i]?=some c→vs[i]?=some v→VR C c v:=by
      generalize a.eval f=u at hfv
      cases hfv with
      | fn _ _ vs h1 h2=>exact ⟨vs,rfl,h1,h2⟩
     obtain ⟨hknown,hcalls⟩:=hce g _ _ _ _ r C w (args.toList.map a.eval++vs) hinl h (by simp [hl]) (fun i x u hx hu=>by
       by_cases hi:i<args.toList.length
       ·rw [List.getElem?_append_left (by simpa using hi)] at hx hu
        exact hargs i x u hx hu
       ·rw [List.getElem?_append_right (by simp at hi ⊢;omega)] at hx hu
        simp only [List.length_map] at hx hu
        exact hv _ x u hx hu) hs.toHSim
     have harr:(args.toList.map a.eval++vs).toArray=args.map a.eval++vs.toArray:=by apply Array.ext';simp
     unfold Oper.wp
     rw [run_call hop hfe hknown,Oper.upon_enter,← harr]
     refine hcalls.mono fun e w' he=>?_
     obtain ⟨u,rfl,C',v,h',k1,k2,k3,k4⟩:=he
     simp only
     rw [ho]
     have hcl':=hcl
     unfold cleanS at hcl'
     rw [Bool.and_eq_true] at hcl'
     have kag:Agree (under (d :: π)) C C':=k4.mono fun nm h=>isLoc_under h
     have hs':Sim C' nt ⟨st.env,h'⟩ a w':=hs.withH k3 fun t=>(hs.env t).move kag (cleanE_get hcl'.1 t)
     exact hk _ C' _ _ k1 (hs'.put k2 (hd d ho)) (kag.mono fun nm=>under_isLoc)
   ·cases h
  ·cases h
 ·cases h
theorem one_sound [Glob] {cf:Cfg} {ce:CallE} {π:Nm} {o:Oper} {k:St→Option AV} {r:AV} {next:Act→World→Prop} {Q:Exit→Act→World→Prop} (hP:cf.P=P) (hF:FOK P cf) (hce:CES cf ce)
  (hd:∀ d,o.dst=some d→d<nt) (hs:Sim C nt st a w) (h:oneA cf ce π st o k=some r)
  (hk:∀ st' C' a' w',k st'=some r→Sim C' nt st' a' w'→Agree (isLoc π) C C'→next a' w'):o.wp P a w next Q:=by
 unfold oneA at h
 split at h
 ·rename_i g wr hwr
  cases g with
  | false=>simp at h
  | true=>exact wr_sound hP hF hd hs hwr fun C' a' w'=>hk _ C' a' w' h
 ·exact inl_sound hP hce hd hs h hk
end
end Go.Proofs.VE

namespace Go.Proofs.VE
open Go
section
variable {P:Program} {C C':Ctx} {nt:Nat} {st:St} {a:Act} {w w':World} {heap:List (Nm × Blk)}
theorem yielded_of [Glob] {ops:Array Oper} {j t:Nat} {v:AV} (hs:Sim C nt st a w) (ht:(ops[j]?).bind (·.dst)=some t) (hv:getE st.env t=v) :
  (∀ b,v = .bool b→yielded ops a.tmps j=some b∧a.tmps.getD t undef = .bool b)∧(v = .tup []→yielded ops a.tmps j=none):=by
 have h:=hs.env t
 rw [hv] at h
 have e:a.tmps.getD t undef=(a.tmps[t]?).getD undef:=by simp
 refine ⟨fun b hb=>?_,fun hb=>?_⟩
 ·subst hb
  generalize hu:a.tmps.getD t undef=u at h
  cases h
  refine ⟨?_,rfl⟩
  unfold yielded
  rw [ht,Option.bind_some]
  cases ha:a.tmps[t]? with
  | none=>rw [e,ha] at hu;simp [undef] at hu
  | some x=>rw [e,ha] at hu;simp at hu;rw [hu]
 ·subst hb
  generalize hu:a.tmps.getD t undef=u at h
  cases h with
  | tup _ vs h1 _ =>
   have:vs=[]:=List.eq_nil_of_length_eq_zero (by simpa using h1.symm)
   subst this
   unfold yielded
   rw [ht,Option.bind_some]
   cases ha:a.tmps[t]? with
   | none=>rfl
   | some x =>
    rw [e,ha] at hu
    simp at hu
    rw [hu]
theorem Sim.same [Glob] {t:Nat} {b:Bool} (hs:Sim C nt st a w) (h:a.tmps.getD t undef = .bool b):Sim C nt ⟨setE st.env t (.bool b),st.heap⟩ a w:=by
 refine hs.withH (heap:=st.heap) (w':=w) hs.toHSim hs.env |>.casesOn fun h1 h2 h3 h4=>?_
 refine { toHSim:=h1,size:=h2,defers:=h3,env:=fun s=>?_ }
 simp only [getE_setE]
 split
 ·rename_i e;subst e;rw [h];exact .bool b
 ·exact hs.env s
theorem ops_sound [Glob] {cf:Cfg} {ce:CallE} {π:Nm} {k:St→Option AV} {r:AV} {Q:Exit→Act→World→Prop} (hP:cf.P=P) (hF:FOK P cf) (hce:CES cf ce) (ops:Array Oper) :
  ∀ (is:List Nat) (l:List Oper) {C:Ctx} {st:St} {a:Act} {w:World},is.map (ops[·]?)=l.map some→(∀ o ∈ l,∀ d,o.dst=some d→d<nt)→Sim C nt st a w→opsA cf ce π ops l st k=some r →
  (∀ st' C' a' w',k st'=some r→Sim C' nt st' a' w'→Agree (isLoc π) C C'→Q .normal a' w')→wpOps P ops Q is a w
 | [],[],C,st,a,w,_,_,hs,h,hk=>hk st C a w h hs (Agree.refl _ _)
 | i :: is,o :: l,C,st,a,w,hm,hd,hs,h,hk=>by
  simp only [List.map_cons,List.cons.injEq] at hm
  obtain ⟨hi,hm⟩:=hm
  have hd1:=hd o List.mem_cons_self
  have hd2:∀ o ∈ l,∀ d,o.dst=some d→d<nt:=fun o ho=>hd o (List.mem_cons_of_mem _ ho)
  have skip:∀ {st1:St},Sim C nt st1 a w→opsA cf ce π ops l (st1.set o.dst (.tup [])) k=some r→wpOps P ops Q is (a.put o.dst undef) w:=fun hs1 h1 =>
   ops_sound hP hF hce ops is l hm hd2 (hs1.puts (.tup [] [] rfl (fun i c v h=>by simp at h)) hd1) h1 hk
  have go:∀ {st1:St},Sim C nt st1 a w→oneA cf ce π st1 o (fun st=>opsA cf ce π ops l st k)=some r→o.wp P a w (wpOps P ops Q is) Q:=fun hs1 h1 =>
   one_sound hP hF hce hd1 hs1 h1 fun st' C' a' w' h2 hs2 hag=>ops_sound hP hF hce ops is l hm hd2 hs2 h2 fun st'' C'' a'' w'' h3 hs3 hag'=>hk st'' C'' a'' w'' h3 hs3 (hag.trans hag')
  unfold opsA at h
  unfold wpOps
  rw [hi]
  simp only
  split at h
  ·rename_i hg
   have:Region.wanted o (yielded ops a.tmps)=true:=by unfold Region.wanted;rw [hg]
   rw [if_pos this]
   exact .inl (go hs h)
  ·rename_i j want hg
   have hw:Region.wanted o (yielded ops a.tmps)=(yielded ops a.tmps j == some want):=by unfold Region.wanted;rw [hg]
   split at h
   ·cases h
   ·rename_i t ht
    split at h
    ·rename_i b hb
     obtain ⟨hy,hv⟩:=(yielded_of hs ht hb).1 b rfl
     rw [hw,hy]
     cases want <;> cases b <;> simp only [ifW,cond_true,cond_false,Bool.not_true,Bool.not_false] at h
     ·rw [if_pos (by rfl)];exact .inl (go (hs.same hv) h)
     ·rw [if_neg (by decide)];exact skip (hs.same hv) h
     ·rw [if_neg (by decide)];exact skip (hs.same hv) h
     ·rw [if_pos (by rfl)];exact .inl (go (hs.same hv) h)
    ·rename_i hb
     rw [hw,(yielded_of hs ht hb).2 rfl,if_neg (by simp)]
     exact skip hs h
    ·cases h
 | [],_ :: _,_,_,_,_,h,_,_,_,_=>by simp at h
 | _ :: _,[],_,_,_,_,h,_,_,_,_=>by simp at h
theorem range_ops (ops:Array Oper):(List.range ops.size).map (ops[·]?)=ops.toList.map some:=by
 apply List.ext_getElem?
 intro i
 simp only [List.getElem?_map]
 by_cases h:i<ops.size
 ·rw [List.getElem?_range h]
  simp [h]
 ·rw [List.getElem?_eq_none (by simp;omega),List.getElem?_eq_none (by simp;omega)]
  rfl
theorem getE_map (f:Nat→AV):∀ (l:List Nat) (t:Nat),getE (l.map fun t=>(t,f t)) t=if t ∈ l then f t else .undef
 | [],t=>by simp [getE]
 | s :: l,t=>by
  simp only [List.map_cons,getE]
  cases hb:Nat.beq s t with
  | true =>
   have:=Nat.eq_of_beq_eq_true hb
   subst this
   simp
  | false =>
   have hne:=Nat.ne_of_beq_eq_false hb
   rw [cond_false,getE_map f l t]
   have:(t ∈ s :: l) ↔ t ∈ l:=by simp [Ne.symm hne]
   simp only [this]
theorem trim_sim [Glob] {keep:Option (List Nat)} (hs:Sim C nt st a w):Sim C nt (trimA keep st) a w:=by
 unfold trimA
 cases keep with
 | none=>exact hs
 | some l =>
  refine { toHSim:=hs.toHSim,size:=hs.size,defers:=hs.defers,env:=fun t=>?_ }
  simp only [getE_map (fun t=>getE st.env t)]
  split
  ·exact hs.env t
  ·exact .undef _
theorem findN_mem:∀ (l:List (Nm × Nm)) (m n:Nm),findN l m=some n→(m,n) ∈ l
 | [],_,_,h=>by cases h
 | (o,n') :: r,m,n,h=>by
  unfold findN at h
  cases hb:nmEq o m with
  | true =>
   rw [hb] at h
   have:=(nmEq_iff o m).1 hb
   simp at h
   subst this;subst h
   exact List.mem_cons_self
  | false =>
   rw [hb] at h
   exact List.mem_cons_of_mem _ (findN_mem r m n h)
theorem ren1_sound {π:Nm} {pairs:List (Nm × Nm)} (hag:Agree (isLoc π) C C') (hd:∀ x ∈ pairs,C'.dat x.2=C.dat x.1) {c:AV} {v:Value} (h:VR C c v):VR C' (ren1 π pairs c) v:=by
 have ren:∀ {nm n:Nm},renN π pairs nm=some n→C'.dat n=C.dat nm:=by
  intro nm n hr
  unfold renN at hr
  cases hl:isLoc π nm with
  | true=>rw [hl] at hr;exact hd _ (findN_mem _ _ _ hr)
  | false=>rw [hl] at hr;simp at hr;subst hr;exact hag.dat nm hl
 have atE:∀ {nm n:Nm},C'.dat n=C.dat nm→∀ i j,C'.at n i j=C.at nm i j:=fun e i j=>by unfold Ctx.at Ctx.loc Ctx.width;rw [e]
 cases h with
 | undef v=>exact .undef v
 | bool b=>exact .bool b
 | int k n=>exact .int k n
 | str s=>exact .str s
 | nilp=>exact .nilp
 | nilfn=>exact .nilfn
 | snil=>exact .snil
 | ptr nm i off hr hi =>
  simp only [ren1]
  split
  ·rename_i n hn
   have e:=ren hn
   rw [← atE e i off]
   exact .ptr n i off (by unfold Ctx.real;rw [e];exact hr) (by unfold Ctx.len;rw [e];exact hi)
  ·exact .undef _
 | rptr tys x off b o U h1 h2 h3=>exact .rptr tys x off b o U (fun j hj=>hag.mem _ _ (h1 j hj)) h2 fun j ct c ht hc=>(h3 j ct c ht hc).mono hag.mem
 | own nm cap hr h1 h2 =>
  simp only [ren1]
  split
  ·rename_i n hn
   have e:=ren hn
   have e1:C.len nm=C'.len n:=by unfold Ctx.len;rw [e]
   rw [← atE e 0 0,e1]
   exact .own n cap (by unfold Ctx.real;rw [e];exact hr) (by rw [← e1];exact h1) (by unfold Ctx.room;rw [e];exact h2)
  ·exact .undef _
 | ownNil nm h =>
  simp only [ren1]
  split
  ·rename_i n hn
   exact .ownNil n (by unfold Ctx.len;rw [ren hn];exact h)
  ·exact .undef _
 | sub nm lo n cap av h1 h2 h3 h4 =>
  simp only [ren1]
  split
  ·rename_i n' hn
   have e:=ren hn
   refine .sub n' lo n cap av h1 (fun h0=>?_) ?_ (by unfold Ctx.len;rw [e];exact h4)
   ·obtain ⟨g1,g2⟩:=h2 h0
    exact ⟨by unfold Ctx.real;rw [e];exact g1,by rw [atE e];exact g2⟩
   ·rcases h3 with ⟨g1,l,g2,g3⟩|g1
    ·exact .inl ⟨by unfold Ctx.real;rw [e];exact g1,l,by rw [atE e];exact g2,by unfold Ctx.room;rw [e];exact g3⟩
    ·exact .inr g1
  ·exact .undef _
 | sl tys xs v h=>exact .sl tys xs v (h.mono hag.mem)
 | sle b tys ad cap h=>exact .sle b tys ad cap h
 | fn f cs vs _ _=>exact .undef _
 | agg cs vs _ _ _=>exact .undef _
 | tup cs vs _ _=>exact .undef _
theorem renV_sound {π:Nm} {pairs:List (Nm × Nm)} (hag:Agree (isLoc π) C C') (hd:∀ x ∈ pairs,C'.dat x.2=C.dat x.1) {c:AV} {v:Value} (h:VR C c v):VR C' (renV π pairs c) v:=by
 have cell:∀ {cs:List AV} {vs:List Value},(∀ (i:Nat) (c:AV) (v:Value),cs[i]?=some c→vs[i]?=some v→VR C c v)→∀ (i:Nat) (c:AV) (v:Value),(cs.map (ren1 π pairs))[i]?=some c→vs[i]?=some v→VR C' c v:=by
  intro cs vs h i c v hc hv
  rw [List.getElem?_map] at hc
  obtain ⟨c0,h0,rfl⟩:=Option.map_eq_some_iff.1 hc
  exact ren1_sound hag hd (h i c0 v h0 hv)
 cases h with
 | agg cs vs h1 h2 h3=>exact .agg _ vs (by simpa using h1) (cell h2) h3
 | tup cs vs h1 h2=>exact .tup _ vs (by simpa using h1) (cell h2)
 | fn f cs vs h1 h2=>exact .fn f _ vs (by simpa using h1) (cell h2)
 | undef v=>exact .undef v
 | bool b=>exact .bool b
 | int k n=>exact .int k n
 | str s=>exact .str s
 | nilp=>exact .nilp
 | nilfn=>exact .nilfn
 | snil=>exact .snil
 | ptr nm i off hr hi=>exact ren1_sound hag hd (.ptr nm i off hr hi)
 | rptr tys x off b o U h1 h2 h3=>exact ren1_sound hag hd (.rptr tys x off b o U h1 h2 h3)
 | own nm cap hr h1 h2=>exact ren1_sound hag hd (.own nm cap hr h1 h2)
 | ownNil nm h=>exact ren1_sound hag hd (.ownNil nm h)
 | sub nm lo n cap av h1 h2 h3 h4=>exact ren1_sound hag hd (.sub nm lo n cap av h1 h2 h3 h4)
 | sl tys xs v h=>exact ren1_sound hag hd (.sl tys xs v h)
 | sle b tys ad cap h=>exact .sle b tys ad cap h
theorem renV_cells {π:Nm} {pairs:List (Nm × Nm)} (x:AV) (j:Nat) (c:AV) (hc:(renV π pairs x).cells[j]?=some c):∃ c0,x.cells[j]?=some c0∧(c=ren1 π pairs c0∨c=renV π pairs c0):=by
 cases x with
 | agg cs =>
  simp only [renV,AV.cells,List.getElem?_map] at hc ⊢
  obtain ⟨c0,h0,rfl⟩:=Option.map_eq_some_iff.1 hc
  exact ⟨c0,h0,.inl rfl⟩
 | _ =>
  have one:∀ y:AV,y.cells=[y]→y.cells[j]?=some c→j=0∧c=y:=fun y hy h=>by
   rw [hy] at h
   cases j with
   | zero=>simp at h;exact ⟨rfl,h.symm⟩
   | succ j=>simp at h
  have hr:∀ y:AV,(∀ cs,y ≠ .agg cs)→y.cells=[y]:=fun y h=>by cases y <;> first|rfl|exact absurd rfl (h _)
  obtain ⟨rfl,rfl⟩:=one _ (hr _ (fun cs e=>by simp only [renV,ren1] at e;first|cases e|(split at e <;> cases e))) hc
  exact ⟨_,rfl,.inr rfl⟩
theorem renV_length {π:Nm} {pairs:List (Nm × Nm)} (x:AV):(renV π pairs x).cells.length=x.cells.length:=by
 have hr:∀ y:AV,(∀ cs,y ≠ .agg cs)→y.cells.length=1:=fun y h=>by cases y <;> first|rfl|exact absurd rfl (h _)
 cases x with
 | agg cs=>simp [renV,AV.cells]
 | _=>rw [hr _ (fun cs e=>by simp only [renV,ren1] at e;first|cases e|(split at e <;> cases e))];rfl
theorem getH_filter (p:Nm→Bool) (f:Blk→Blk):∀ (h:List (Nm × Blk)) (n:Nm),getH ((h.filter fun q=>p q.1).map fun q=>(q.1,f q.2)) n=if p n=true then (getH h n).map f else none
 | [],n=>by simp [getH]
 | (m,b) :: r,n=>by
  rw [List.filter_cons]
  cases hp:p m with
  | true =>
   simp only [if_true,List.map_cons,getH]
   cases hb:nmEq m n with
   | true =>
    have:=(nmEq_iff m n).1 hb
    subst this
    simp [hp]
   | false=>simp only [cond_false];exact getH_filter p f r n
  | false =>
   simp only [Bool.false_eq_true,if_false]
   rw [getH_filter p f r n]
   simp only [getH]
   cases hb:nmEq m n with
   | true =>
    have:=(nmEq_iff m n).1 hb
    subst this
    simp [hp]
   | false=>rfl
theorem foldl_get {heap:List (Nm × Blk)} (f:Blk→Blk):∀ (pairs:List (Nm × Nm)) (h0:List (Nm × Blk)) (n:Nm) (b:Blk),
  getH (pairs.foldl (fun h q=>match getH heap q.1 with|some b=>setH h q.2 (f b)|none=>h) h0) n=some b→getH h0 n=some b∨∃ o b0,(o,n) ∈ pairs∧getH heap o=some b0∧b=f b0
 | [],_,_,_,h => .inl h
 | (o,m) :: r,h0,n,b,h=>by
  rw [List.foldl_cons] at h
  rcases foldl_get f r _ n b h with hh|⟨o',b0,h1,h2,h3⟩
  ·clear h
   split at hh
   ·rename_i b0 hb0
    rw [getH_setH] at hh
    split at hh
    ·rename_i e
     subst e
     exact .inr ⟨o,b0,List.mem_cons_self,hb0,(Option.some.inj hh).symm⟩
    ·exact .inl hh
   ·exact .inl hh
  ·exact .inr ⟨o',b0,List.mem_cons_of_mem _ h1,h2,h3⟩
theorem norm_sound [Glob] {π:Nm} {keep:List Nat} {st':St} (hs:Sim C nt st a w) (h:normA π keep st=some st'):∃ C',Agree (isLoc π) C C'∧Sim C' nt st' a w:=by
 unfold normA at h
 generalize hpairs:homes π keep st=pairs at h
 simp only at h
 cases hc:nodupN (pairs.map (·.1)) && pairs.all (fun q=>isLoc π q.1 && isLoc π q.2) && nodupN (pairs.map (·.2)) with
 | false=>rw [hc] at h;simp at h
 | true =>
  rw [hc] at h
  simp only [cond_true,Option.some.injEq] at h
  subst h
  simp only [Bool.and_eq_true,List.all_eq_true] at hc
  obtain ⟨⟨n1,hloc⟩,n2⟩:=hc
  have n1:=nodupN_spec _ n1
  have n2:=nodupN_spec _ n2
  have hnames:(pairs.map fun x=>(x.2,C.dat x.1)).map (·.1)=pairs.map (·.2):=by rw [List.map_map];rfl
  have hget:∀ x ∈ pairs,(C.setAll (pairs.map fun x=>(x.2,C.dat x.1))).dat x.2=C.dat x.1:=fun x hx =>
   setAll_get (by rw [hnames];exact n2) (x.2,C.dat x.1) (List.mem_map.2 ⟨x,hx,rfl⟩)
  have hag:Agree (isLoc π) C (C.setAll (pairs.map fun x=>(x.2,C.dat x.1))):=setAll_agree fun y hy=>by
   obtain ⟨x,hx,rfl⟩:=List.mem_map.1 hy
   exact (hloc x hx).2
  have hmE:(C.setAll (pairs.map fun x=>(x.2,C.dat x.1))).mem=C.mem:=rfl
  have hmF:(C.setAll (pairs.map fun x=>(x.2,C.dat x.1))).memF=C.memF:=rfl
  generalize hC:C.setAll (pairs.map fun x=>(x.2,C.dat x.1))=C' at hget hag hmE hmF
  have from_:∀ nm b,getH (pairs.foldl (fun h q=>match getH st.heap q.1 with|some b=>setH h q.2 (renB π pairs b)|none=>h) ((st.heap.filter fun q => !isLoc π q.1).map fun q=>(q.1,renB π pairs q.2))) nm=some b →
    ∃ o b0,getH st.heap o=some b0∧b=renB π pairs b0∧C'.dat nm=C.dat o∧((o=nm∧isLoc π nm=false)∨(o,nm) ∈ pairs):=by
   intro nm b hb
   rcases foldl_get (renB π pairs) pairs _ nm b hb with h0|⟨o,b0,h1,h2,h3⟩
   ·rw [getH_filter (fun n => !isLoc π n) (renB π pairs)] at h0
    split at h0
    ·rename_i hl
     obtain ⟨b0,h1,h2⟩:=Option.map_eq_some_iff.1 h0
     simp only [Bool.not_eq_true'] at hl
     exact ⟨nm,b0,h1,h2.symm,hag.dat nm hl,.inl ⟨rfl,hl⟩⟩
    ·cases h0
   ·exact ⟨o,b0,h2,h3,hget _ h1,.inr h1⟩
  refine ⟨C',hag,{ toHSim:=⟨?_,?_,?_,by rw [hag.base];exact hs.grown,by rw [hag.base,hag.w0];exact hs.kept,fun x v hv hn=>by rw [hmE] at hv;rw [hmF] at hn;rw [hag.w0];exact hs.blk0 x v hv hn,fun x v hv=>by rw [hmF] at hv;rw [hmE,hag.base];exact hs.own x v hv,by rw [hag.base,hag.w0];exact hs.glob,fun k hk=>by
   rw [hag.fr] at hk
   obtain ⟨f1,f2,f3⟩:=hs.frame k hk
   refine ⟨by rw [hag.w0];exact f1,by rw [hag.w0];exact f2,fun nm b hb hr=>?_⟩
   obtain ⟨o,b0,h1,_,h3,_⟩:=from_ nm b hb
   have hr:(C'.dat nm).real=true:=hr
   rw [h3] at hr
   show (C'.dat nm).loc.1 ≠ k
   rw [h3]
   exact f3 o b0 h1 hr⟩,size:=hs.size,defers:=hs.defers,env:=fun t=>?_ }⟩
  ·intro nm b hb
   obtain ⟨o,b0,h1,rfl,h3,_⟩:=from_ nm b hb
   have B:=hs.blk o b0 h1
   have hbox:(renB π pairs b0).box=b0.box:=by cases hb0:b0.box <;> simp [renB,hb0]
   have htys:(renB π pairs b0).tys=b0.tys:=by cases hb0:b0.box <;> simp [renB,hb0]
   have hlen:(renB π pairs b0).xs.length=b0.xs.length:=by cases hb0:b0.box <;> simp [renB,hb0]
   have hx:∀ (i:Nat) (x:AV),(renB π pairs b0).xs[i]?=some x→∃ x0,b0.xs[i]?=some x0∧(b0.box=false∧x=x0∨b0.box=true∧x=renV π pairs x0):=fun i x h=>by
    unfold renB at h
    cases hb0:b0.box with
    | false=>rw [hb0] at h;exact ⟨x,h,.inl ⟨rfl,rfl⟩⟩
    | true =>
     rw [hb0] at h
     have h:(b0.xs.map (renV π pairs))[i]?=some x:=h
     rw [List.getElem?_map] at h
     obtain ⟨x0,g1,g2⟩:=Option.map_eq_some_iff.1 h
     exact ⟨x0,g1,.inr ⟨rfl,g2.symm⟩⟩
   refine ⟨by rw [hlen];exact B.max,?_,?_,?_,?_,?_,?_,by unfold Ctx.real Ctx.loc Ctx.room Ctx.width;rw [h3];exact B.froz⟩
   ·unfold Ctx.len;rw [h3,hlen];exact B.len
   ·rw [hbox,htys];unfold Ctx.width;rw [h3];exact B.width
   ·rw [hbox,hlen];unfold Ctx.real;rw [h3];exact B.box
   ·intro hr
    unfold Ctx.real at hr
    rw [h3] at hr
    exact List.eq_nil_of_length_eq_zero (by rw [hlen,B.nilb hr];rfl)
   ·intro i x hxi
    obtain ⟨x0,g1,g2⟩:=hx i x hxi
    obtain ⟨g3,g4⟩:=B.cells i x0 g1
    have atE:∀ j,C'.at nm i j=C.at o i j:=fun j=>by unfold Ctx.at Ctx.loc Ctx.width;rw [h3]
    rcases g2 with ⟨hb0,rfl⟩|⟨hb0,rfl⟩
    ·refine ⟨by unfold Ctx.width;rw [h3];exact g3,fun j c hj=>?_⟩
     obtain ⟨u,k1,k2,k3⟩:=g4 j c hj
     refine ⟨u,by rw [atE];exact k1,k2,?_⟩
     rw [hbox,htys]
     rw [hb0] at k3 ⊢
     simp only [Bool.false_eq_true,if_false] at k3 ⊢
     rw [hmF]
     exact k3
    ·refine ⟨by rw [renV_length];unfold Ctx.width;rw [h3];exact g3,fun j c hj=>?_⟩
     obtain ⟨c0,q1,q2⟩:=renV_cells x0 j c hj
     obtain ⟨u,k1,k2,k3⟩:=g4 j c0 q1
     refine ⟨u,by rw [atE];exact k1,k2,?_⟩
     rw [hbox]
     rw [hb0] at k3 ⊢
     simp only [if_true] at k3 ⊢
     rcases q2 with rfl|rfl
     ·exact ren1_sound hag hget k3
     ·exact renV_sound hag hget k3
   ·unfold Ctx.real Ctx.loc Ctx.room Ctx.width
    rw [h3,hlen,hag.base]
    exact B.room
  ·intro nm b1 nm' b2 g1 g2 g3 g4 g5
   obtain ⟨o1,c1,k1,_,k3,k4⟩:=from_ nm b1 g1
   obtain ⟨o2,c2,q1,_,q3,q4⟩:=from_ nm' b2 g2
   unfold Ctx.real Ctx.loc at *
   rw [k3] at g3 ⊢
   rw [q3] at g4 ⊢
   refine hs.apart o1 c1 o2 c2 k1 q1 g3 g4 fun e=>?_
   rcases k4 with ⟨rfl,hl1⟩|m1
   ·rcases q4 with ⟨rfl,_⟩|m2
    ·exact g5 e
    ·rw [e,(hloc _ m2).1] at hl1;cases hl1
   ·rcases q4 with ⟨rfl,hl2⟩|m2
    ·rw [← e,(hloc _ m1).1] at hl2;cases hl2
    ·have:(o1,nm)=(o2,nm'):=by
      have inj:∀ (l:List (Nm × Nm)),(l.map (·.1)).Nodup→∀ x ∈ l,∀ y ∈ l,x.1=y.1→x=y:=by
       intro l hn
       induction l with
       | nil=>intro x hx;simp at hx
       | cons z r ih =>
        rw [List.map_cons,List.nodup_cons] at hn
        intro x hx y hy hxy
        rcases List.mem_cons.1 hx with rfl|hx'
        ·rcases List.mem_cons.1 hy with rfl|hy'
         ·rfl
         ·exact absurd (List.mem_map.2 ⟨y,hy',hxy.symm⟩) hn.1
        ·rcases List.mem_cons.1 hy with rfl|hy'
         ·exact absurd (List.mem_map.2 ⟨x,hx',hxy⟩) hn.1
         ·exact ih hn.2 x hx' y hy' hxy
      exact inj pairs n1 _ m1 _ m2 e
     exact g5 (Prod.mk.inj this).2
  ·intro z v hz
   rw [hmE] at hz
   obtain ⟨g1,g2,g3⟩:=hs.mem z v hz
   refine ⟨g1,g2,fun nm b hb hr=>?_⟩
   obtain ⟨o,b0,k1,_,k3,_⟩:=from_ nm b hb
   unfold Ctx.real Ctx.loc at *
   rw [k3] at hr ⊢
   exact g3 o b0 k1 hr
  ·rw [getE_map (fun t=>renV π pairs (getE st.env t))]
   split
   ·exact renV_sound hag hget (hs.env t)
   ·exact .undef _
end
end Go.Proofs.VE

namespace Go.Proofs.VE
open Go
def Ex.out:Ex→Exit
 | .normal => .normal
 | .ret => .ret
 | .exit id => .exit id
def LoopOK (cf:Cfg) (ce:CallE) (π:Nm) (fid cur:Nat) (c:Code):Prop :=
 ∀ m,cf.LM fid cur=some m→∀ (st:St) (k:Kont) (r:AV),m ce π st k=some r →
  ∃ N,loopA (fun st k=>codeA cf ce π fid cur c st k) (normA π ((cf.H fid cur).getD [])) N st k=some r
def LoopsOK (cf:Cfg) (ce:CallE) (π:Nm) (fid:Nat) (l:List (Nat × Code)):Prop:=∀ p ∈ l,LoopOK cf ce π fid p.1 p.2
def DrawOK [Glob] (cf:Cfg):Prop :=
 ∀ (π:Nm) (nt:Nat) (ops:Array Oper) (st:St) (k:St→Option AV) (r:AV) (C:Ctx) (a:Act) (w:World) (Q:Exit→Act→World→Prop) (id:Nat),drawA cf π ops st k=some r→Sim C nt st a w →
  (∀ o ∈ ops.toList,∀ d,o.dst=some d→d<nt)→(∀ st' C' a' w',k st'=some r→Sim C' nt st' a' w'→Agree (isLoc π) C C'→Q .normal a' w')→(Code.region id ops true).wp cf.P Q a w
section
variable {cf:Cfg} {C C':Ctx} {nt:Nat} {st:St} {a:Act} {w w':World}
theorem fits_ops {ops:Array Oper} {id:Nat} {d:Bool} (h:fitsC nt (.region id ops d)=true):∀ o ∈ ops.toList,∀ d,o.dst=some d→d<nt:=by
 simp only [fitsC,List.all_eq_true] at h
 intro o ho d hd
 have:=h o ho d (by rw [hd];simp)
 simp only [Nat.blt] at this
 exact Nat.le_of_ble_eq_true this
theorem code_sound [Glob] {ce:CallE} {π:Nm} {fid:Nat} (hF:FOK cf.P cf) (hce:CES cf ce) (hdraw:DrawOK cf) :
  ∀ (c:Code) (cur:Nat) {C:Ctx} {st:St} {a:Act} {w:World} {k:Kont} {r:AV} {Q:Exit→Act→World→Prop},fitsC nt c=true→LoopsOK cf ce π fid (loopsC cur c)→Sim C nt st a w→codeA cf ce π fid cur c st k=some r →
   (∀ e st' C' a' w',k e st'=some r→Sim C' nt st' a' w'→Agree (isLoc π) C C'→Q e.out a' w')→c.wp cf.P Q a w
 | .skip,cur,C,st,a,w,k,r,Q,_,_,hs,h,hk=>wp_skip (hk .normal st C a w h hs (Agree.refl _ _))
 | .region id ops draw,cur,C,st,a,w,k,r,Q,hf,_,hs,h,hk=>by
  unfold codeA at h
  cases draw with
  | true=>exact hdraw π nt ops st (k .normal) r C a w Q id h hs (fits_ops hf) (hk .normal)
  | false=>exact wp_region (ops_sound rfl hF hce ops _ _ (range_ops ops) (fits_ops hf) hs h (hk .normal))
 | .seq x y,cur,C,st,a,w,k,r,Q,hf,hl,hs,h,hk=>by
  simp only [fitsC,Bool.and_eq_true] at hf
  unfold codeA at h
  refine wp_seq (code_sound hF hce hdraw x cur hf.1 (fun p hp=>hl p (List.mem_append_left _ hp)) hs h ?_)
  intro e st' C' a' w' h1 hs1 hag
  cases e with
  | normal=>exact code_sound hF hce hdraw y cur hf.2 (fun p hp=>hl p (List.mem_append_right _ hp)) hs1 h1 fun e st'' C'' a'' w'' h2 hs2 hag2=>hk e st'' C'' a'' w'' h2 hs2 (hag.trans hag2)
  | ret=>exact hk .ret st' C' a' w' h1 hs1 hag
  | exit j=>exact hk (.exit j) st' C' a' w' h1 hs1 hag
 | .cond c x y,cur,C,st,a,w,k,r,Q,hf,hl,hs,h,hk=>by
  simp only [fitsC,Bool.and_eq_true] at hf
  unfold codeA at h
  have hc:=opA_sound hs c
  split at h
  ·rename_i b hb
   rw [hb] at hc
   have he:a.eval c = .bool b:=by generalize a.eval c=u at hc;cases hc;rfl
   refine wp_cond he ?_
   cases b with
   | true=>exact code_sound hF hce hdraw x cur hf.1 (fun p hp=>hl p (List.mem_append_left _ hp)) hs h hk
   | false=>exact code_sound hF hce hdraw y cur hf.2 (fun p hp=>hl p (List.mem_append_right _ hp)) hs h hk
  ·cases h
 | .block id body,cur,C,st,a,w,k,r,Q,hf,hl,hs,h,hk=>by
  unfold codeA at h
  refine wp_block (code_sound hF hce hdraw body id hf hl hs h ?_)
  intro e st' C' a' w' h1 hs1 hag
  cases e with
  | normal=>exact hk .normal _ C' a' w' h1 (trim_sim hs1) hag
  | ret=>exact hk .ret st' C' a' w' h1 hs1 hag
  | exit j =>
   simp only at h1
   show Exit.inBlock id Q (.exit j) a' w'
   simp only [Exit.inBlock]
   cases hb:Nat.beq j id with
   | true =>
    rw [hb] at h1
    rw [if_pos (Nat.eq_of_beq_eq_true hb)]
    exact hk .normal st' C' a' w' h1 hs1 hag
   | false =>
    rw [hb] at h1
    rw [if_neg (Nat.ne_of_beq_eq_false hb)]
    exact hk (.exit j) st' C' a' w' h1 hs1 hag
 | .loop body,cur,C,st,a,w,k,r,Q,hf,hl,hs,h,hk=>by
  unfold codeA at h
  split at h
  ·rename_i m st1 hm hn
   obtain ⟨N,hN⟩:=hl (cur,body) (by simp [loopsC]) m hm st1 k r h
   obtain ⟨C1,hag1,hs1⟩:=norm_sound hs hn
   refine wp_loop_ghost (fun n a w=>∃ st C1,Sim C1 nt st a w∧Agree (isLoc π) C C1∧loopA (fun st k=>codeA cf ce π fid cur body st k) (normA π ((cf.H fid cur).getD [])) n st k=some r) N ⟨st1,C1,hs1,hag1,hN⟩ ?_
   rintro n a w ⟨st2,C2,hs2,hag2,h2⟩
   cases n with
   | zero=>cases h2
   | succ n =>
    simp only [loopA,stepA] at h2
    refine code_sound hF hce hdraw body cur hf (fun p hp=>hl p (by simp only [loopsC];exact List.mem_cons_of_mem _ hp)) hs2 h2 ?_
    intro e st' C' a' w' h3 hs3 hag3
    cases e with
    | normal =>
     simp only at h3
     split at h3
     ·rename_i st3 hn3
      obtain ⟨C4,hag4,hs4⟩:=norm_sound hs3 hn3
      exact ⟨n,Nat.lt_succ_self n,st3,C4,hs4,(hag2.trans hag3).trans hag4,h3⟩
     ·cases h3
    | ret=>exact hk .ret st' C' a' w' h3 hs3 (hag2.trans hag3)
    | exit j=>exact hk (.exit j) st' C' a' w' h3 hs3 (hag2.trans hag3)
  ·cases h
 | .exit id,cur,C,st,a,w,k,r,Q,_,_,hs,h,hk=>by
  unfold codeA at h
  exact wp_exit (hk (.exit id) _ C a w h (trim_sim hs) (Agree.refl _ _))
 | .ret,cur,C,st,a,w,k,r,Q,_,_,hs,h,hk=>by
  unfold codeA at h
  exact wp_ret (hk .ret _ C a w h (trim_sim hs) (Agree.refl _ _))
 | .rangeFunc ..,_,_,_,_,_,_,_,_,_,_,_,h,_=>by simp [codeA] at h
 | .scope _,_,_,_,_,_,_,_,_,_,_,_,h,_=>by simp [codeA] at h
 | .label _,_,_,_,_,_,_,_,_,_,_,_,h,_=>by simp [codeA] at h
 | .goto _,_,_,_,_,_,_,_,_,_,_,_,h,_=>by simp [codeA] at h
 | .refuse _,_,_,_,_,_,_,_,_,_,_,_,h,_=>by simp [codeA] at h
def resV (tmps:Array Value):ResultVar→Sem Value
 | .tmp t=>pure (tmps.getD t undef)
 | .cell a t=>do loadVar t (← asAddr (tmps.getD a undef))
theorem res_sound [Glob] (hs:Sim C nt st a w) {rv:ResultVar} {v:AV} (h:resA cf.P st rv=some v):∃ u,(resV a.tmps rv).run cf.P w = .ok u w∧VR C v u:=by
 cases rv with
 | tmp t =>
  simp only [resA,Option.some.injEq] at h
  subst h
  exact ⟨_,rfl,hs.env t⟩
 | cell c t =>
  simp only [resA] at h
  split at h
  ·rename_i nm i off hp
   split at h
   ·rename_i b hb
    have hx:=hs.env c
    rw [hp] at hx
    generalize hu:a.tmps.getD c undef=u at hx
    cases hx with
    | ptr _ _ _ hr hi =>
     obtain ⟨x,h1,h2⟩:=load_sound hs hb h hi
     refine ⟨x,?_,h2⟩
     show (do loadVar t (← asAddr (a.tmps.getD c undef)):Sem Value).run cf.P w=_
     rw [hu,run_bind' (x:=C.at nm i off) (w':=w) rfl]
     exact h1
   ·cases h
  ·cases h
theorem ress_sound [Glob] (hs:Sim C nt st a w):∀ {rvs:List ResultVar} {vs:List AV},resAs cf.P st rvs=some vs →
  ∃ us:List Value,(rvs.mapM (resV a.tmps)).run cf.P w = .ok us w∧vs.length=us.length∧∀ (i:Nat) (v:AV) (u:Value),vs[i]?=some v→us[i]?=some u→VR C v u
 | [],vs,h=>by
  simp only [resAs,Option.some.injEq] at h
  subst h
  exact ⟨[],rfl,rfl,fun i v u h=>by simp at h⟩
 | rv :: rvs,vs,h=>by
  simp only [resAs] at h
  split at h
  ·rename_i v vs' h1 h2
   obtain rfl:=Option.some.inj h
   obtain ⟨u,g1,g2⟩:=res_sound hs h1
   obtain ⟨us,g3,g4,g5⟩:=ress_sound hs h2
   refine ⟨u :: us,?_,by simp [g4],fun i v' u' hv hu=>?_⟩
   ·rw [List.mapM_cons,run_bind' g1,run_bind' g3]
    rfl
   ·cases i with
    | zero=>simp at hv hu;subst hv;subst hu;exact g2
    | succ i=>exact g5 i v' u' (by simpa using hv) (by simpa using hu)
  ·cases h
def packV (us:List Value):Value:=if h:us.toArray.size=1 then us.toArray[0] else .tuple us.toArray
theorem pack_sound {vs:List AV} {us:List Value} (hl:vs.length=us.length) (hv:∀ (i:Nat) (v:AV) (u:Value),vs[i]?=some v→us[i]?=some u→VR C v u):VR C (packA vs) (packV us):=by
 match vs,us,hl with
 | [v],[u],_=>exact hv 0 v u rfl rfl
 | [],[],_=>exact .tup [] [] rfl (fun i c v h=>by simp at h)
 | v :: v' :: vs,u :: u' :: us,hl =>
  unfold packV
  rw [dif_neg (by simp)]
  exact .tup _ _ hl hv
theorem results_sound [Glob] {fn:Func} {vs:List AV} (hs:Sim C nt st a w) (h:resAs cf.P st fn.results.toList=some vs) :
  ∃ us:List Value,(results fn a.tmps).run cf.P w = .ok (packV us) w∧vs.length=us.length∧∀ (i:Nat) (v:AV) (u:Value),vs[i]?=some v→us[i]?=some u→VR C v u:=by
 obtain ⟨us,h1,h2,h3⟩:=ress_sound hs h
 refine ⟨us,?_,h2,h3⟩
 have e:results fn a.tmps=(do let vs ← fn.results.mapM (resV a.tmps);pure (if h:vs.size=1 then vs[0] else .tuple vs)):=by
  unfold results
  congr 1
 rw [e]
 rw [run_bind' (x:=us.toArray) (w':=w)]
 ·rfl
 ·rw [Array.mapM_eq_mapM_toList,map_eq_pure_bind,run_bind' h1]
  rfl
theorem getE_env0:∀ (xs:List AV) (j t:Nat),getE (env0 j xs) t=if j≤t∧t<j+xs.length then xs.getD (t - j) .undef else .undef
 | [],j,t=>by
  rw [if_neg (by simp)]
  rfl
 | x :: xs,j,t=>by
  simp only [env0,getE]
  cases hb:Nat.beq j t with
  | true =>
   have:=Nat.eq_of_beq_eq_true hb
   subst this
   rw [if_pos (by simp)]
   simp
  | false =>
   have hne:=Nat.ne_of_beq_eq_false hb
   rw [cond_false,getE_env0 xs (j+1) t]
   by_cases h:j+1≤t∧t<j+1+xs.length
   ·rw [if_pos h,if_pos (by simp only [List.length_cons];omega)]
    rw [show t - j=(t - (j+1))+1 by omega]
    simp
   ·rw [if_neg h,if_neg (by simp only [List.length_cons];omega)]
theorem enter_sim [Glob] {n:Nat} {xs:List AV} {us:List Value} {heap:List (Nm × Blk)} (hh:HSim C heap w) (hl:xs.length=us.length) (hv:∀ (i:Nat) (x:AV) (u:Value),xs[i]?=some x→us[i]?=some u→VR C x u) (hn:xs.length≤n) :
  Sim C n ⟨env0 0 xs,heap⟩ { tmps:=us.toArray++Array.replicate (n - us.toArray.size) undef,defers:=[] } w:=by
 refine { toHSim:=hh,size:=by simp;omega,defers:=rfl,env:=fun t=>?_ }
 simp only [getE_env0,Nat.zero_add,Nat.zero_le,true_and,Nat.sub_zero]
 split
 ·rename_i h
  have h':t<us.length:=by omega
  have e:(us.toArray++Array.replicate (n - us.toArray.size) undef).getD t undef=us[t]:=by
   rw [Array.getD_eq_getD_getElem?,Array.getElem?_append_left (by simpa using h')]
   simp [h']
  have e2:xs.getD t .undef=xs[t]:=by simp [h]
  rw [e,e2]
  exact hv t _ _ (List.getElem?_eq_getElem h) (List.getElem?_eq_getElem h')
 ·exact .undef _
def InlOK (cf:Cfg):Prop:=∀ g,cf.F g = .inl→Known cf.P g∧∀ fn c,cf.P.funcs[g]?=some fn→fn.body=some c→∀ ce π,LoopsOK cf ce π g (loopsC 0 c)
theorem inl_ok [Glob] (hF:FOK cf.P cf) (hdraw:DrawOK cf) (hI:InlOK cf) (hS:SpOK cf):∀ n,CES cf (inlA cf n)
 | 0,g,args,q,heap,k,r,C,w,us,_,h,_,_,_=>by cases h
 | n+1,g,args,q,heap,k,r,C,w,us,hg,h,hl,hv,hh=>by
  obtain ⟨hknown,hloops⟩:=hI g hg
  refine ⟨hknown,?_⟩
  unfold inlA at h
  split at h
  ·rename_i s hs
   exact (hS g s hs).2 args q heap k r C w us h hl hv hh
  split at h
  ·rename_i fn hfn
   split at h
   ·rename_i c hc
    cases hb:fitsC fn.ntmps c && Nat.ble args.length fn.ntmps with
    | false=>rw [hb] at h;simp at h
    | true =>
     rw [hb] at h
     rw [Bool.and_eq_true] at hb
     refine calls_of_wp hfn hc (code_sound hF (inl_ok hF hdraw hI hS n) hdraw c 0 hb.1 (hloops fn c hfn hc _ q) (enter_sim hh hl hv (Nat.le_of_ble_eq_true hb.2)) h ?_)
     intro e st' C' a' w' h1 hs1 hag
     have fin:∀ {x:AV},(match resAs cf.P st' fn.results.toList with|some vs=>k (packA vs) st'.heap|none=>none)=some x→x=r →
       ∃ v,(results fn a'.tmps).run cf.P w' = .ok v w'∧∃ u,Ending.returned v = .returned u∧∃ C' v h',k v h'=some r∧VR C' v u∧HSim C' h' w'∧Agree (isLoc q) C C':=by
      intro x hx he
      subst he
      split at hx
      ·rename_i vs hvs
       obtain ⟨us',g1,g2,g3⟩:=results_sound (cf:=cf) hs1 hvs
       exact ⟨_,g1,_,rfl,C',_,_,hx,pack_sound g2 g3,hs1.toHSim,hag⟩
      ·cases hx
     cases e with
     | normal=>exact ⟨hs1.defers,fin h1 rfl⟩
     | ret=>exact ⟨hs1.defers,fin h1 rfl⟩
     | exit j=>cases h1
   ·cases h
  ·cases h
theorem wrt_sound [Glob] (hF:FOK cf.P cf) (hdraw:DrawOK cf) (hI:InlOK cf) (hS:SpOK cf) {n g:Nat} {q:Nm} {args:List AV} {heap:List (Nm × Blk)} {k:AV→List (Nm × Blk)→Option AV} {r:AV} {us:List Value} (hL:∀ fn c,cf.P.funcs[g]?=some fn→fn.body=some c→LoopsOK cf (inlA cf n) q g (loopsC 0 c))
  (h:inlA cf (n+1) g args q heap k=some r) (hl:args.length=us.length) (hv:∀ (i:Nat) (x:AV) (u:Value),args[i]?=some x→us[i]?=some u→VR C x u) (hh:HSim C heap w) :
  Calls cf.P g us.toArray w fun e w'=>∃ u,e = .returned u∧∃ C' v h',k v h'=some r∧VR C' v u∧HSim C' h' w'∧Agree (isLoc q) C C':=by
 unfold inlA at h
 split at h
 ·rename_i s hs
  exact (hS g s hs).2 args q heap k r C w us h hl hv hh
 split at h
 ·rename_i fn hfn
  split at h
  ·rename_i c hc
   cases hb:fitsC fn.ntmps c && Nat.ble args.length fn.ntmps with
   | false=>rw [hb] at h;simp at h
   | true =>
    rw [hb] at h
    rw [Bool.and_eq_true] at hb
    refine calls_of_wp hfn hc (code_sound hF (inl_ok hF hdraw hI hS n) hdraw c 0 hb.1 (hL fn c hfn hc) (enter_sim hh hl hv (Nat.le_of_ble_eq_true hb.2)) h ?_)
    intro e st' C' a' w' h1 hs1 hag
    have fin:∀ {x:AV},(match resAs cf.P st' fn.results.toList with|some vs=>k (packA vs) st'.heap|none=>none)=some x→x=r →
      ∃ v,(results fn a'.tmps).run cf.P w' = .ok v w'∧∃ u,Ending.returned v = .returned u∧∃ C' v h',k v h'=some r∧VR C' v u∧HSim C' h' w'∧Agree (isLoc q) C C':=by
     intro x hx he
     subst he
     split at hx
     ·rename_i vs hvs
      obtain ⟨us',g1,g2,g3⟩:=results_sound (cf:=cf) hs1 hvs
      exact ⟨_,g1,_,rfl,C',_,_,hx,pack_sound g2 g3,hs1.toHSim,hag⟩
     ·cases hx
    cases e with
    | normal=>exact ⟨hs1.defers,fin h1 rfl⟩
    | ret=>exact ⟨hs1.defers,fin h1 rfl⟩
    | exit j=>cases h1
  ·cases h
 ·cases h
def Good (C:Ctx) (heap:List (Nm × Blk)) (l:List Nm) (tb:List (Nm × Dat)):Prop :=
 Apart tb∧∀ z ∈ tb,z.2.real=true→∃ n ∈ l,(∃ b,getH heap n=some b)∧C.real n=true∧z.2.loc.1=(C.loc n).1
theorem Good.nil {heap:List (Nm × Blk)}:Good C heap [] []:=⟨List.Pairwise.nil,fun z hz=>by simp at hz⟩
theorem Good.append [Glob] {heap:List (Nm × Blk)} {l1 l2:List Nm} {t1 t2:List (Nm × Dat)} (hs:HSim C heap w) (h1:Good C heap l1 t1) (h2:Good C heap l2 t2) (hn:(l1++l2).Nodup):Good C heap (l1++l2) (t1++t2):=by
 refine ⟨List.pairwise_append.2 ⟨h1.1,h2.1,fun x hx y hy rx ry=>?_⟩,fun z hz hr=>?_⟩
 ·obtain ⟨n1,m1,⟨b1,g1⟩,r1,e1⟩:=h1.2 x hx rx
  obtain ⟨n2,m2,⟨b2,g2⟩,r2,e2⟩:=h2.2 y hy ry
  rw [e1,e2]
  refine hs.apart n1 b1 n2 b2 g1 g2 r1 r2 fun e=>?_
  exact (List.nodup_append.1 hn).2.2 n1 m1 n2 m2 e
 ·rcases List.mem_append.1 hz with h|h
  ·obtain ⟨n,m,g,e⟩:=h1.2 z h hr;exact ⟨n,List.mem_append_left _ m,g,e⟩
  ·obtain ⟨n,m,g,e⟩:=h2.2 z h hr;exact ⟨n,List.mem_append_right _ m,g,e⟩
theorem TabR.append {W w':World} {M:Addr→Option Value} {l1 l2:List (Nm × Blk)} {t1 t2:List (Nm × Dat)} (h1:TabR W w' M l1 t1) (h2:TabR W w' M l2 t2):TabR W w' M (l1++l2) (t1++t2):=by
 induction h1 with
 | nil=>exact h2
 | cons n b D l t hb hbox _ ih=>exact .cons n b D _ _ hb hbox ih
theorem Good.memOK [Glob] {W:World} {heap:List (Nm × Blk)} {l:List Nm} {t:List (Nm × Dat)} (hW:C.base=W.heap.size) (hs:HSim C heap w) (h:Good C heap l t):MemOK W w C.memF t:=fun a v hv=>by
 obtain ⟨g1,g2⟩:=hs.own a v hv
 obtain ⟨g3,g4,g5⟩:=hs.mem a v g1
 refine ⟨g3,by rw [← hW];exact g2,fun x hx hr=>?_⟩
 obtain ⟨n,_,⟨b,hb⟩,hrn,e⟩:=h.2 x hx hr
 rw [e]
 exact g5 n b hb hrn
theorem ret1_sound [Glob] {t:TypeId} {x y:AV} {l:List Nm} {u:Value} {W:World} {heap:List (Nm × Blk)} (hW:C.base=W.heap.size) (hs:HSim C heap w) (hx:VR C x u) (h:ret1 cf.P heap t x=some (y,l)) (p:Nm) :
  (∃ tb,TabR W w C.memF (imp1 p y).2 tb∧Good C heap l tb∧∀ C':Ctx,(∀ z ∈ tb,C'.dat z.1=z.2)→VR C' (imp1 p y).1 u)∧u.oneCell'=true∧(∀ cs,y ≠ .agg cs)∧∀ cs,y ≠ .tup cs:=by
 unfold ret1 at h
 split at h
 ·rename_i nm
  split at h
  ·rename_i b hb
   cases hc:b.tys.all goodCT && !b.box with
   | false=>rw [hc] at h;simp at h
   | true =>
    rw [hc] at h
    simp only [cond_true,Option.some.injEq,Prod.mk.injEq] at h
    obtain ⟨rfl,rfl⟩:=h
    simp only [Bool.and_eq_true,Bool.not_eq_true'] at hc
    have e:b=⟨false,b.tys,b.xs⟩:=by rw [← hc.2]
    have hB:=hs.blk nm b hb
    refine ⟨⟨[(p,C.dat nm)],?_,⟨List.pairwise_singleton _ _,fun z hz hr=>?_⟩,fun C' hC'=>?_⟩,?_,(fun cs e=>by cases e),(fun cs e=>by cases e)⟩
    ·refine .cons p _ _ _ _ ?_ rfl .nil
     rw [e] at hB
     exact hB.carry (ctxT_dat _ _ _) (by rw [hW];exact Nat.le_refl _) rfl fun _ _ h=>h
    ·simp only [List.mem_singleton] at hz
     subst hz
     exact ⟨nm,List.mem_singleton_self _,⟨b,hb⟩,hr,rfl⟩
    ·have hd:=hC' (p,C.dat nm) (List.mem_singleton_self _)
     simp only at hd
     cases hx with
     | own _ cap hr h1 h2 =>
      have e1:C.at nm 0 0=C'.at p 0 0:=by unfold Ctx.at Ctx.loc Ctx.width;rw [hd]
      have e2:C.len nm=C'.len p:=by unfold Ctx.len;rw [hd]
      rw [e1,e2]
      exact .own p cap (by unfold Ctx.real;rw [hd];exact hr) (by rw [← e2];exact h1) (by unfold Ctx.room;rw [hd];exact h2)
     | ownNil _ h=>exact .ownNil p (by unfold Ctx.len;rw [hd];exact h)
    ·cases hx <;> rfl
  ·cases h
 ·rename_i nm lo n
  split at h
  ·rename_i b hb
   cases hc:b.tys.all goodCT && !b.box with
   | false=>rw [hc] at h;simp at h
   | true =>
    rw [hc] at h
    simp only [cond_true,Option.some.injEq,Prod.mk.injEq] at h
    obtain ⟨rfl,rfl⟩:=h
    simp only [Bool.and_eq_true,Bool.not_eq_true'] at hc
    have hB:=hs.blk nm b hb
    cases hx with
    | sub _ _ _ cap av h1 h2 h3 h4 =>
     rw [hB.len] at h4
     have hlen:((b.xs.drop lo).take n).length=n:=by simp;omega
     have hw:=hB.width hc.2
     rcases h3 with ⟨hr,k,rfl,hk⟩|⟨rfl,hz⟩
     ·obtain ⟨r1,r2,r3,r4⟩:=hB.room hr
      have hkw:(k+cap)*C.width nm≤C.room nm*C.width nm:=Nat.mul_le_mul_right _ hk
      rw [Nat.add_mul] at hkw
      refine ⟨⟨[(p,⟨true,((C.loc nm).1,(C.loc nm).2+k*C.width nm),C.width nm,n,cap⟩)],?_,⟨List.pairwise_singleton _ _,fun z hz hr'=>?_⟩,fun C' hC'=>?_⟩,rfl,(fun cs e=>by cases e),(fun cs e=>by cases e)⟩
      ·refine .cons p _ _ _ _ ?_ rfl .nil
       have e0:∀ (D:Dat),(ctxT W C.memF D).real []=D.real∧(ctxT W C.memF D).loc []=D.loc∧(ctxT W C.memF D).width []=D.width∧(ctxT W C.memF D).len []=D.len∧(ctxT W C.memF D).room []=D.room:=fun D=>by
        unfold Ctx.real Ctx.loc Ctx.width Ctx.len Ctx.room
        rw [ctxT_dat]
        exact ⟨rfl,rfl,rfl,rfl,rfl⟩
       refine ⟨by rw [hlen];exact Nat.le_trans (by omega) hB.max,by rw [(e0 _).2.2.2.1,hlen],fun _=>by rw [(e0 _).2.2.1];exact hw,(fun h=>by cases h),(fun h=>by rw [(e0 _).1] at h;cases h),fun i x hx=>?_,fun _=>?_,fun _ h0 o=>?_⟩
       ·have hi:i<n:=by have:=(List.getElem?_eq_some_iff.1 hx).1;simp only [hlen] at this;exact this
        rw [List.getElem?_take_of_lt hi,List.getElem?_drop] at hx
        obtain ⟨g1,g2⟩:=hB.cells (lo+i) x hx
        refine ⟨by rw [(e0 _).2.2.1];exact g1,fun j c hcj=>?_⟩
        obtain ⟨u,g3,g4,g5⟩:=g2 j c hcj
        refine ⟨u,?_,g4,?_⟩
        ·rw [← g3]
         have hat:=(h2 (by omega)).2
         have hat:=Option.some.inj hat
         unfold Ctx.at at_ at hat ⊢
         simp only [Addr.mk.injEq,and_true,true_and,Nat.add_zero] at hat
         rw [(e0 _).2.1,(e0 _).2.2.1]
         congr 1
         simp only [Addr.mk.injEq,and_true,true_and]
         rw [Nat.add_mul]
         omega
        ·rw [hc.2] at g5
         simp only [Bool.false_eq_true,if_false] at g5 ⊢
         obtain ⟨ct,g6,g7⟩:=g5
         exact ⟨ct,g6,g7⟩
       ·rw [(e0 _).2.1,(e0 _).2.2.1,(e0 _).2.2.2.2,hlen]
        refine ⟨by rw [hW] at r1;exact r1,r2,h1,fun o ho=>?_⟩
        simp only at ho
        have:=r4 (k*C.width nm+o) (by omega)
        rw [show (C.loc nm).2+(k*C.width nm+o)=(C.loc nm).2+k*C.width nm+o by omega] at this
        exact this
       ·rw [(e0 _).2.1]
        rw [(e0 _).2.2.1,(e0 _).2.2.2.2] at h0
        simp only at h0
        exact hB.froz hr (by omega) o
      ·simp only [List.mem_singleton] at hz
       subst hz
       exact ⟨nm,List.mem_singleton_self _,⟨b,hb⟩,hr,rfl⟩
      ·have hd:=hC' _ (List.mem_singleton_self _)
       simp only at hd
       have e1:C.at nm k 0=C'.at p 0 0:=by
        unfold Ctx.at Ctx.loc Ctx.width at_
        rw [hd]
        simp
       have e2:n=C'.len p:=by unfold Ctx.len;rw [hd]
       rw [e1]
       have:=VR.own (C:=C') p cap (by unfold Ctx.real;rw [hd]) (by rw [← e2];exact h1) (by unfold Ctx.room;rw [hd];exact Nat.le_refl _)
       rw [← e2] at this
       exact this
     ·have hn0:n=0:=by omega
      subst hn0
      subst hz
      refine ⟨⟨[(p,⟨false,(0,0),b.tys.length,0,0⟩)],?_,⟨List.pairwise_singleton _ _,fun z hz hr=>?_⟩,fun C' hC'=>?_⟩,rfl,(fun cs e=>by cases e),(fun cs e=>by cases e)⟩
      ·refine .cons p _ _ _ _ ?_ rfl .nil
       rw [List.take_zero]
       refine ⟨by simp,by unfold Ctx.len;rw [ctxT_dat];rfl,by unfold Ctx.width;rw [ctxT_dat];exact fun _=>rfl,(fun h=>by cases h),fun _=>rfl,(fun i x h=>by simp at h),?_,?_⟩ <;>
       ·unfold Ctx.real
        rw [ctxT_dat]
        exact fun h=>by cases h
      ·simp only [List.mem_singleton] at hz
       subst hz
       cases hr
      ·have hd:=hC' _ (List.mem_singleton_self _)
       simp only at hd
       exact .ownNil p (by unfold Ctx.len;rw [hd])
  ·cases h
 ·split at h
  ·rename_i e he
   cases hc:(ctsT cf.P 6 e).all goodCT with
   | false=>rw [hc] at h;simp at h
   | true =>
    rw [hc] at h
    simp only [cond_true,Option.some.injEq,Prod.mk.injEq] at h
    obtain ⟨rfl,rfl⟩:=h
    cases hx
    refine ⟨⟨[(p,⟨false,(0,0),(ctsT cf.P 6 e).length,0,0⟩)],?_,⟨List.pairwise_singleton _ _,fun z hz hr=>?_⟩,fun C' hC'=>?_⟩,rfl,(fun cs e=>by cases e),(fun cs e=>by cases e)⟩
    ·refine .cons p _ _ _ _ ?_ rfl .nil
     refine ⟨by simp,by unfold Ctx.len;rw [ctxT_dat];rfl,by unfold Ctx.width;rw [ctxT_dat];exact fun _=>rfl,(fun h=>by cases h),fun _=>rfl,(fun i x h=>by simp at h),?_,?_⟩ <;>
     ·unfold Ctx.real
      rw [ctxT_dat]
      exact fun h=>by cases h
    ·simp only [List.mem_singleton] at hz
     subst hz
     cases hr
    ·have hd:=hC' _ (List.mem_singleton_self _)
     simp only at hd
     exact .ownNil p (by unfold Ctx.len;rw [hd])
  ·cases h
 ·simp only [Option.some.injEq,Prod.mk.injEq] at h
  obtain ⟨rfl,rfl⟩:=h
  cases hx
  exact ⟨⟨[],.nil,Good.nil,fun C' _ => .bool _⟩,rfl,(fun cs e=>by cases e),(fun cs e=>by cases e)⟩
 ·simp only [Option.some.injEq,Prod.mk.injEq] at h
  obtain ⟨rfl,rfl⟩:=h
  cases hx
  exact ⟨⟨[],.nil,Good.nil,fun C' _ => .int _ _⟩,rfl,(fun cs e=>by cases e),(fun cs e=>by cases e)⟩
 ·simp only [Option.some.injEq,Prod.mk.injEq] at h
  obtain ⟨rfl,rfl⟩:=h
  cases hx
  exact ⟨⟨[],.nil,Good.nil,fun C' _ => .str _⟩,rfl,(fun cs e=>by cases e),(fun cs e=>by cases e)⟩
 ·cases h
theorem retCs_sound [Glob] {W:World} {heap:List (Nm × Blk)} (hW:C.base=W.heap.size) (hs:HSim C heap w) (p:Nm):∀ {ts:List TypeId} {xs ys:List AV} {l:List Nm} {us:List Value} (j:Nat),xs.length=us.length →
  (∀ (i:Nat) (x:AV) (u:Value),xs[i]?=some x→us[i]?=some u→VR C x u)→retCs cf.P heap ts xs=some (ys,l)→l.Nodup →
  (∃ tb,TabR W w C.memF (impCs p j ys).2 tb∧Good C heap l tb∧∀ C':Ctx,(∀ z ∈ tb,C'.dat z.1=z.2)→(impCs p j ys).1.length=us.length∧∀ (i:Nat) (v:AV) (u:Value),(impCs p j ys).1[i]?=some v→us[i]?=some u→VR C' v u)∧∀ u ∈ us,u.oneCell'=true
 | [],[],ys,l,us,j,hl,_,h,_=>by
  simp only [retCs,Option.some.injEq,Prod.mk.injEq] at h
  obtain ⟨rfl,rfl⟩:=h
  cases us with
  | nil=>exact ⟨⟨[],.nil,Good.nil,fun C' _=>⟨rfl,fun i v u h=>by simp [impCs] at h⟩⟩,fun u h=>by simp at h⟩
  | cons=>simp at hl
 | t :: ts,x :: xs,ys,l,us,j,hl,hv,h,hn=>by
  cases us with
  | nil=>simp at hl
  | cons u us =>
   simp only [retCs] at h
   split at h
   ·rename_i y l1 ys' l2 h1 h2
    simp only [Option.some.injEq,Prod.mk.injEq] at h
    obtain ⟨rfl,rfl⟩:=h
    obtain ⟨⟨t1,a1,a2,a3⟩,a4,_,_⟩:=ret1_sound (cf:=cf) hW hs (hv 0 x u rfl rfl) h1 (j :: p)
    obtain ⟨⟨t2,b1,b2,b3⟩,b4⟩:=retCs_sound hW hs p (us:=us) (j+1) (by simpa using hl) (fun i x u hx hu=>hv (i+1) x u (by simpa using hx) (by simpa using hu)) h2 (List.nodup_append.1 hn).2.1
    refine ⟨⟨t1++t2,a1.append b1,a2.append hs b2 hn,fun C' hC'=>?_⟩,fun v hv'=>?_⟩
    ·obtain ⟨c1,c2⟩:=b3 C' fun z hz=>hC' z (List.mem_append_right _ hz)
     have c3:=a3 C' fun z hz=>hC' z (List.mem_append_left _ hz)
     refine ⟨by simp [impCs,c1],fun i v u' hv' hu'=>?_⟩
     simp only [impCs] at hv'
     cases i with
     | zero=>simp at hv' hu';subst hv';subst hu';exact c3
     | succ i=>exact c2 i v u' (by simpa using hv') (by simpa using hu')
    ·rcases List.mem_cons.1 hv' with rfl|hm
     ·exact a4
     ·exact b4 v hm
   ·cases h
 | [],_ :: _,_,_,_,_,_,_,h,_=>by simp [retCs] at h
 | _ :: _,[],_,_,_,_,_,_,h,_=>by simp [retCs] at h
theorem ret2_sound [Glob] {t:TypeId} {x y:AV} {l:List Nm} {u:Value} {W:World} {heap:List (Nm × Blk)} (hW:C.base=W.heap.size) (hs:HSim C heap w) (hx:VR C x u) (h:ret2 cf.P heap t x=some (y,l)) (hn:l.Nodup) (p:Nm) :
  (∃ tb,TabR W w C.memF (imp2 p y).2 tb∧Good C heap l tb∧∀ C':Ctx,(∀ z ∈ tb,C'.dat z.1=z.2)→VR C' (imp2 p y).1 u)∧∀ cs,y ≠ .tup cs:=by
 unfold ret2 at h
 split at h
 ·rename_i cs
  split at h
  ·rename_i ys l' h1
   simp only [Option.some.injEq,Prod.mk.injEq] at h
   obtain ⟨rfl,rfl⟩:=h
   obtain ⟨vs,rfl,g1,g2,_⟩:=hx.agg_inv
   obtain ⟨⟨tb,a1,a2,a3⟩,a4⟩:=retCs_sound (cf:=cf) hW hs p 0 g1 g2 h1 hn
   refine ⟨⟨tb,a1,a2,fun C' hC'=>?_⟩,(fun cs e=>by cases e)⟩
   obtain ⟨c1,c2⟩:=a3 C' hC'
   exact .agg _ _ c1 c2 a4
  ·cases h
 ·obtain ⟨⟨tb,a1,a2,a3⟩,_,a5,a6⟩:=ret1_sound (cf:=cf) hW hs hx h p
  have e:imp2 p y=imp1 p y:=by cases y <;> first|rfl|exact absurd rfl (a5 _)
  rw [e]
  exact ⟨⟨tb,a1,a2,a3⟩,a6⟩
theorem retVs_sound [Glob] {W:World} {heap:List (Nm × Blk)} (hW:C.base=W.heap.size) (hs:HSim C heap w) (p:Nm):∀ {ts:List TypeId} {xs ys:List AV} {l:List Nm} {us:List Value} (j:Nat),xs.length=us.length →
  (∀ (i:Nat) (x:AV) (u:Value),xs[i]?=some x→us[i]?=some u→VR C x u)→retVs cf.P heap ts xs=some (ys,l)→l.Nodup →
  ∃ tb,TabR W w C.memF (impVs p j ys).2 tb∧Good C heap l tb∧∀ C':Ctx,(∀ z ∈ tb,C'.dat z.1=z.2)→(impVs p j ys).1.length=us.length∧∀ (i:Nat) (v:AV) (u:Value),(impVs p j ys).1[i]?=some v→us[i]?=some u→VR C' v u
 | [],[],ys,l,us,j,hl,_,h,_=>by
  simp only [retVs,Option.some.injEq,Prod.mk.injEq] at h
  obtain ⟨rfl,rfl⟩:=h
  cases us with
  | nil=>exact ⟨[],.nil,Good.nil,fun C' _=>⟨rfl,fun i v u h=>by simp [impVs] at h⟩⟩
  | cons=>simp at hl
 | t :: ts,x :: xs,ys,l,us,j,hl,hv,h,hn=>by
  cases us with
  | nil=>simp at hl
  | cons u us =>
   simp only [retVs] at h
   split at h
   ·rename_i y l1 ys' l2 h1 h2
    simp only [Option.some.injEq,Prod.mk.injEq] at h
    obtain ⟨rfl,rfl⟩:=h
    obtain ⟨⟨t1,a1,a2,a3⟩,_⟩:=ret2_sound (cf:=cf) hW hs (hv 0 x u rfl rfl) h1 (List.nodup_append.1 hn).1 (j :: p)
    obtain ⟨t2,b1,b2,b3⟩:=retVs_sound hW hs p (us:=us) (j+1) (by simpa using hl) (fun i x u hx hu=>hv (i+1) x u (by simpa using hx) (by simpa using hu)) h2 (List.nodup_append.1 hn).2.1
    refine ⟨t1++t2,a1.append b1,a2.append hs b2 hn,fun C' hC'=>?_⟩
    obtain ⟨c1,c2⟩:=b3 C' fun z hz=>hC' z (List.mem_append_right _ hz)
    have c3:=a3 C' fun z hz=>hC' z (List.mem_append_left _ hz)
    refine ⟨by simp [impVs,c1],fun i v u' hv' hu'=>?_⟩
    simp only [impVs] at hv'
    cases i with
    | zero=>simp at hv' hu';subst hv';subst hu';exact c3
    | succ i=>exact c2 i v u' (by simpa using hv') (by simpa using hu')
   ·cases h
 | [],_ :: _,_,_,_,_,_,_,h,_=>by simp [retVs] at h
 | _ :: _,[],_,_,_,_,_,_,h,_=>by simp [retVs] at h
theorem ret_ok [Glob] {W:World} {ts:List TypeId} {heap:List (Nm × Blk)} {xs ys:List AV} {l:List Nm} {us:List Value} (hW:C.base=W.heap.size) (hs:HSim C heap w) (hl:xs.length=us.length)
  (hv:∀ (i:Nat) (x:AV) (u:Value),xs[i]?=some x→us[i]?=some u→VR C x u) (h:retVs cf.P heap ts xs=some (ys,l)) (hn:l.Nodup):RetOK W w (packA ys) (packV us):=by
 intro p
 have many:∀ {us:List Value},xs.length=us.length→(∀ (i:Nat) (x:AV) (u:Value),xs[i]?=some x→us[i]?=some u→VR C x u)→packA ys = .tup ys→packV us = .tuple us.toArray →
   ∃ t M,TabR W w M (impV p (packA ys)).2 t∧Apart t∧MemOK W w M t∧∀ C':Ctx,(∀ x ∈ t,C'.dat x.1=x.2)→VR C' (impV p (packA ys)).1 (packV us):=by
  intro us hl hv e1 e2
  obtain ⟨tb,a1,a2,a3⟩:=retVs_sound (cf:=cf) hW hs p 0 hl hv h hn
  rw [e1,e2]
  refine ⟨tb,_,a1,a2.1,a2.memOK hW hs,fun C' hC'=>?_⟩
  obtain ⟨c1,c2⟩:=a3 C' hC'
  exact .tup _ _ c1 c2
 match ts,xs,us,hl,h with
 | [],[],[],hl,h =>
  simp only [retVs,Option.some.injEq,Prod.mk.injEq] at h
  obtain ⟨rfl,rfl⟩:=h
  exact many hl hv rfl rfl
 | [t],[x],[u],hl,h =>
  simp only [retVs] at h
  split at h
  ·rename_i y l1 ys' l2 h1 h2
   simp only [Option.some.injEq,Prod.mk.injEq] at h2 h
   obtain ⟨rfl,rfl⟩:=h2
   obtain ⟨rfl,rfl⟩:=h
   obtain ⟨⟨tb,a1,a2,a3⟩,a4⟩:=ret2_sound (cf:=cf) hW hs (hv 0 x u rfl rfl) h1 (by simpa using hn) p
   have e:impV p (packA [y])=imp2 p y:=by
    simp only [packA]
    cases y <;> first|rfl|exact absurd rfl (a4 _)
   rw [e]
   exact ⟨tb,_,a1,a2.1,a2.memOK hW hs,a3⟩
  ·cases h
 | t :: t' :: ts,x :: x' :: xs,u :: u' :: us,hl,h =>
  have hys:∃ y y' ys',ys=y :: y' :: ys':=by
   simp only [retVs] at h
   split at h
   ·rename_i y l1 ys' l2 h1 h2
    split at h2
    ·simp only [Option.some.injEq,Prod.mk.injEq] at h h2
     obtain ⟨rfl,rfl⟩:=h2
     exact ⟨_,_,_,h.1.symm⟩
    ·cases h2
   ·cases h
  obtain ⟨y,y',ys',rfl⟩:=hys
  exact many hl hv rfl (by unfold packV;rw [dif_neg (by simp)])
 | [],_ :: _,_,_,h=>simp [retVs] at h
 | _ :: _,[],_,_,h=>simp [retVs] at h
 | [_],_ :: _ :: _,_,_,h =>
  simp only [retVs] at h
  split at h
  ·rename_i h2;simp at h2
  ·cases h
 | _ :: _ :: _,[_],_,_,h =>
  simp only [retVs] at h
  split at h
  ·rename_i h2;simp at h2
  ·cases h
theorem fun_sound [Glob] (hF:FOK cf.P cf) (hdraw:DrawOK cf) (hI:InlOK cf) (hS:SpOK cf) {lvl g:Nat} (hL:∀ fn c,cf.P.funcs[g]?=some fn→fn.body=some c→LoopsOK cf (inlA cf lvl) [] g (loopsC 0 c)) {xs:List AV} {r:AV} (h:funA cf lvl g xs=some r) :
  MeetsAt cf.P g xs r:=by
 intro w us hG hl hv
 unfold funA at h
 split at h
 ·rename_i fn hfn
  split at h
  ·rename_i c hc
   cases hb:fitsC fn.ntmps c && Nat.ble xs.length fn.ntmps with
   | false=>rw [hb] at h;simp at h
   | true =>
    rw [hb] at h
    rw [Bool.and_eq_true] at hb
    have hh:HSim (C0 w) [] w:=⟨(fun nm b h=>by cases h),(fun nm b nm' b' h=>by cases h),fun a v hav=>⟨hav,World.block_lt_of_cell? w a hav,(fun nm b h=>by cases h)⟩,Nat.le_refl _,RowKit.Below.refl _ _,(fun _ _ _ _=>rfl),(fun _ _ h=>by cases h),hG,fun k hk=>hk.elim⟩
    refine calls_of_wp hfn hc (code_sound hF (inl_ok hF hdraw hI hS lvl) hdraw c 0 hb.1 (hL fn c hfn hc) (enter_sim hh hl hv (Nat.le_of_ble_eq_true hb.2)) h ?_)
    intro e st' C' a' w' h1 hs1 hag
    have hbase:C'.base=w.heap.size:=hag.base
    have hbel:RowKit.Below w.heap.size w w':=by
     have:=hs1.kept
     rw [hag.base,hag.w0] at this
     exact this
    have fin:∀ {x:AV},(match resAs cf.P st' fn.results.toList with
      | some vs =>
       match retVs cf.P st'.heap fn.resultTypes.toList vs with
       | some (ys,l)=>bif nodupN l then some (packA ys) else none
       | none=>none
      | none=>none)=some x→x=r →
      ∃ v,(results fn a'.tmps).run cf.P w' = .ok v w'∧∃ u,Ending.returned v = .returned u∧RowKit.Below w.heap.size w w'∧RetOK w w' r u:=by
     intro x hx he
     subst he
     split at hx
     ·rename_i vs hvs
      obtain ⟨us',g1,g2,g3⟩:=results_sound (cf:=cf) hs1 hvs
      split at hx
      ·rename_i ys l hys
       cases hn:nodupN l with
       | false=>rw [hn] at hx;simp at hx
       | true =>
        rw [hn] at hx
        simp only [cond_true,Option.some.injEq] at hx
        subst hx
        exact ⟨_,g1,_,rfl,hbel,ret_ok (cf:=cf) hbase hs1.toHSim g2 g3 hys (nodupN_spec _ hn)⟩
      ·cases hx
     ·cases hx
    cases e with
    | normal=>exact ⟨hs1.defers,fin h1 rfl⟩
    | ret=>exact ⟨hs1.defers,fin h1 rfl⟩
    | exit j=>cases h1
  ·cases h
 ·cases h
end
end Go.Proofs.VE

namespace Go.Proofs.VE
open Go
section
variable {κ β:Type} [DecidableEq κ]
def lk (l:List (κ × β)) (k:κ):Option β:=(l.find? fun x=>x.1=k).map (·.2)
theorem lk_nil (k:κ):lk ([]:List (κ × β)) k=none:=rfl
theorem lk_cons (a:κ) (x:β) (r:List (κ × β)) (k:κ):lk ((a,x) :: r) k=if a=k then some x else lk r k:=by
 unfold lk
 by_cases h:a=k <;> simp [h]
theorem lk_mem {l:List (κ × β)} {k:κ} {v:β} (h:lk l k=some v):(k,v) ∈ l:=by
 induction l with
 | nil=>cases h
 | cons x r ih =>
  obtain ⟨a,y⟩:=x
  rw [lk_cons] at h
  split at h
  ·rename_i e;subst e;obtain rfl:=Option.some.inj h;exact List.mem_cons_self
  ·exact List.mem_cons_of_mem _ (ih h)
theorem ext_sorted {lt:κ→κ→Prop} (asym:∀ a b,lt a b→¬ lt b a):∀ (l1 l2:List (κ × β)),l1.Pairwise (fun x y=>lt x.1 y.1)→l2.Pairwise (fun x y=>lt x.1 y.1)→(∀ k,lk l1 k=lk l2 k)→l1=l2
 | [],[],_,_,_=>rfl
 | [],(b,y) :: r2,_,_,h=>by have:=h b;rw [lk_cons,lk_nil,if_pos rfl] at this;cases this
 | (a,x) :: r1,[],_,_,h=>by have:=h a;rw [lk_cons,lk_nil,if_pos rfl] at this;cases this
 | (a,x) :: r1,(b,y) :: r2,p1,p2,h=>by
  rw [List.pairwise_cons] at p1 p2
  have irr:∀ a,¬ lt a a:=fun a h=>asym a a h h
  have hab:a=b:=by
   have h1:=h a
   have h2:=h b
   simp only [lk_cons,if_true] at h1 h2
   by_cases e:b=a
   ·exact e.symm
   ·rw [if_neg e] at h1
    rw [if_neg (fun e'=>e e'.symm)] at h2
    exact absurd (p2.1 _ (lk_mem h1.symm)) (asym _ _ (p1.1 _ (lk_mem h2)))
  subst hab
  have hxy:x=y:=by
   have h1:=h a
   simp only [lk_cons,if_true] at h1
   exact Option.some.inj h1
  subst hxy
  rw [ext_sorted asym r1 r2 p1.2 p2.2 fun k=>?_]
  have hk:=h k
  simp only [lk_cons] at hk
  split at hk
  ·rename_i e
   subst e
   have none_:∀ (r:List (κ × β)),(∀ y ∈ r,lt a y.1)→lk r a=none:=fun r hr=>by
    cases hl:lk r a with
    | none=>rfl
    | some v=>exact absurd (hr _ (lk_mem hl)) (irr a)
   rw [none_ r1 p1.1,none_ r2 p2.1]
  ·exact hk
end
theorem blt_iff (p q:Nat):Nat.blt p q=true ↔ p<q:=⟨fun h=>Nat.le_of_ble_eq_true h,fun h=>Nat.ble_eq_true_of_le h⟩
theorem blt_not {p q:Nat} (h:¬ p<q):Nat.blt p q=false:=by
 cases e:Nat.blt p q with
 | false=>rfl
 | true=>exact absurd ((blt_iff p q).1 e) h
theorem nmLt_asym:∀ a b:Nm,nmLt a b=true→nmLt b a=false
 | [],[],h=>by cases h
 | [],_ :: _,_=>rfl
 | _ :: _,[],h=>by cases h
 | x :: a,y :: b,h=>by
  have ih:=nmLt_asym a b
  unfold nmLt at h ⊢
  by_cases h1:x<y
  ·have e1:Nat.blt y x=false:=blt_not (by omega)
   have e2:Nat.beq y x=false:=by cases e:Nat.beq y x;rfl;exact absurd (Nat.eq_of_beq_eq_true e) (by omega)
   simp [e1,e2]
  ·have e1:Nat.blt x y=false:=blt_not h1
   rw [e1] at h
   simp only [cond_false] at h
   cases e:Nat.beq x y with
   | false=>rw [e] at h;simp at h
   | true =>
    rw [e] at h
    have:=Nat.eq_of_beq_eq_true e
    subst this
    rw [e1]
    simp only [cond_false,e,cond_true] at h ⊢
    exact ih h
theorem nmLt_trans:∀ a b c:Nm,nmLt a b=true→nmLt b c=true→nmLt a c=true
 | _,[],_,h,_=>by cases ‹Nm› <;> simp [nmLt] at h
 | _,_ :: _,[],_,h=>by simp [nmLt] at h
 | [],_ :: _,_ :: _,_,_=>rfl
 | x :: a,y :: b,z :: c,h,k=>by
  have ih:=nmLt_trans a b c
  unfold nmLt at h k ⊢
  have blt:=blt_iff
  cases h1:Nat.blt x y with
  | true =>
   have:=(blt _ _).1 h1
   cases k1:Nat.blt y z with
   | true=>have:=(blt _ _).1 k1;rw [(blt x z).2 (by omega)];rfl
   | false =>
    rw [k1] at k
    cases k2:Nat.beq y z with
    | false=>rw [k2] at k;simp at k
    | true=>have:=Nat.eq_of_beq_eq_true k2;subst this;rw [h1];rfl
  | false =>
   rw [h1] at h
   cases h2:Nat.beq x y with
   | false=>rw [h2] at h;simp at h
   | true =>
    rw [h2] at h
    have:=Nat.eq_of_beq_eq_true h2
    subst this
    simp only [cond_false,cond_true] at h
    cases k1:Nat.blt x z with
    | true=>rfl
    | false =>
     rw [k1] at k
     cases k2:Nat.beq x z with
     | false=>rw [k2] at k;simp at k
     | true=>rw [k2] at k;simp only [cond_false,cond_true] at k ⊢;exact ih h k
theorem nmLt_tri:∀ a b:Nm,nmLt a b=true∨a=b∨nmLt b a=true
 | [],[] => .inr (.inl rfl)
 | [],_ :: _ => .inl rfl
 | _ :: _,[] => .inr (.inr rfl)
 | x :: a,y :: b=>by
  have blt:=blt_iff
  unfold nmLt
  rcases Nat.lt_trichotomy x y with h|h|h
  ·exact .inl (by rw [(blt _ _).2 h];rfl)
  ·subst h
   have e1:Nat.blt x x=false:=blt_not (Nat.lt_irrefl x)
   have e2:Nat.beq x x=true:=Nat.beq_refl x
   rw [e1,e2]
   simp only [cond_false,cond_true]
   rcases nmLt_tri a b with h|h|h
   ·exact .inl h
   ·exact .inr (.inl (by rw [h]))
   ·exact .inr (.inr h)
  ·exact .inr (.inr (by rw [(blt _ _).2 h];rfl))
def SE (l:List (Nat × AV)):Prop:=l.Pairwise fun x y=>x.1<y.1
def SH (l:List (Nm × Blk)):Prop:=l.Pairwise fun x y=>nmLt x.1 y.1=true
theorem sortedE_spec:∀ (l:List (Nat × AV)),sortedE l=true→SE l
 | [],_=>List.Pairwise.nil
 | [x],_=>List.pairwise_singleton _ _
 | x :: y :: r,h=>by
  simp only [sortedE,Bool.and_eq_true] at h
  have h1:x.1<y.1:=(blt_iff _ _).1 h.1
  have ih:=sortedE_spec (y :: r) h.2
  unfold SE at ih ⊢
  have ih':=ih
  rw [List.pairwise_cons] at ih ⊢
  refine ⟨fun z hz=>?_,ih'⟩
  rcases List.mem_cons.1 hz with rfl|hz
  ·exact h1
  ·exact Nat.lt_trans h1 (ih.1 z hz)
theorem sortedH_spec:∀ (l:List (Nm × Blk)),sortedH l=true→SH l
 | [],_=>List.Pairwise.nil
 | [x],_=>List.pairwise_singleton _ _
 | x :: y :: r,h=>by
  simp only [sortedH,Bool.and_eq_true] at h
  have ih:=sortedH_spec (y :: r) h.2
  unfold SH at ih ⊢
  have ih':=ih
  rw [List.pairwise_cons] at ih ⊢
  refine ⟨fun z hz=>?_,ih'⟩
  rcases List.mem_cons.1 hz with rfl|hz
  ·exact h.1
  ·exact nmLt_trans _ _ _ h.1 (ih.1 z hz)
theorem lk_setE:∀ (e:List (Nat × AV)) (d:Nat) (v:AV) (t:Nat),lk (setE e d v) t=if d=t then some v else lk e t
 | [],d,v,t=>by simp [setE,lk_cons,lk_nil]
 | (s,u) :: r,d,v,t=>by
  unfold setE
  cases h1:Nat.beq s d with
  | true =>
   have:=Nat.eq_of_beq_eq_true h1
   subst this
   simp only [cond_true,lk_cons]
   split <;> rfl
  | false =>
   have n1:=Nat.ne_of_beq_eq_false h1
   simp only [cond_false]
   cases h2:Nat.blt d s with
   | true=>simp only [cond_true,lk_cons]
   | false =>
    simp only [cond_false,lk_cons,lk_setE r d v t]
    by_cases e:s=t
    ·subst e;simp [Ne.symm n1]
    ·simp [e]
theorem mem_setE:∀ (e:List (Nat × AV)) (d:Nat) (v:AV) (x:Nat × AV),x ∈ setE e d v→x=(d,v)∨x ∈ e
 | [],d,v,x,h=>by simp [setE] at h;exact .inl h
 | (s,u) :: r,d,v,x,h=>by
  unfold setE at h
  cases h1:Nat.beq s d with
  | true =>
   rw [h1] at h
   simp only [cond_true] at h
   rcases List.mem_cons.1 h with h|h
   ·exact .inl h
   ·exact .inr (List.mem_cons_of_mem _ h)
  | false =>
   rw [h1] at h
   simp only [cond_false] at h
   cases h2:Nat.blt d s with
   | true =>
    rw [h2] at h
    rcases List.mem_cons.1 h with h|h
    ·exact .inl h
    ·exact .inr h
   | false =>
    rw [h2] at h
    rcases List.mem_cons.1 h with h|h
    ·exact .inr (h ▸ List.mem_cons_self)
    ·rcases mem_setE r d v x h with h|h
     ·exact .inl h
     ·exact .inr (List.mem_cons_of_mem _ h)
theorem SE_set:∀ (e:List (Nat × AV)) (d:Nat) (v:AV),SE e→SE (setE e d v)
 | [],d,v,_=>List.pairwise_singleton _ _
 | (s,u) :: r,d,v,h=>by
  unfold SE at h ⊢
  rw [List.pairwise_cons] at h
  unfold setE
  cases h1:Nat.beq s d with
  | true =>
   have:=Nat.eq_of_beq_eq_true h1
   subst this
   simp only [cond_true]
   exact List.pairwise_cons.2 h
  | false =>
   have n1:=Nat.ne_of_beq_eq_false h1
   simp only [cond_false]
   cases h2:Nat.blt d s with
   | true =>
    have hlt:d<s:=(blt_iff _ _).1 h2
    simp only [cond_true]
    refine List.pairwise_cons.2 ⟨fun z hz=>?_,List.pairwise_cons.2 h⟩
    rcases List.mem_cons.1 hz with rfl|hz
    ·exact hlt
    ·exact Nat.lt_trans hlt (h.1 z hz)
   | false =>
    have hge:¬ d<s:=fun h=>by rw [(blt_iff _ _).2 h] at h2;cases h2
    simp only [cond_false]
    refine List.pairwise_cons.2 ⟨fun z hz=>?_,SE_set r d v h.2⟩
    rcases mem_setE r d v z hz with rfl|hz
    ·simp only;omega
    ·exact h.1 z hz
theorem getE_lk (e:List (Nat × AV)) (t:Nat):getE e t=(lk e t).getD .undef:=by
 induction e with
 | nil=>rfl
 | cons x r ih =>
  obtain ⟨s,u⟩:=x
  unfold getE
  rw [lk_cons]
  cases h:Nat.beq s t with
  | true=>rw [if_pos (Nat.eq_of_beq_eq_true h)];rfl
  | false=>rw [if_neg (Nat.ne_of_beq_eq_false h)];exact ih
theorem SE_ext {e1 e2:List (Nat × AV)} (h1:SE e1) (h2:SE e2) (h:∀ t,lk e1 t=lk e2 t):e1=e2:=ext_sorted (lt:=fun a b=>a<b) (fun a b h=>by omega) e1 e2 h1 h2 h
theorem setE_self {e:List (Nat × AV)} {t:Nat} {v:AV} (hs:SE e) (h:getE e t=v) (hv:v ≠ .undef):setE e t v=e:=by
 refine SE_ext (SE_set e t v hs) hs fun s=>?_
 rw [lk_setE]
 split
 ·rename_i e1
  subst e1
  rw [getE_lk] at h
  cases hl:lk e t with
  | none=>rw [hl] at h;exact absurd h.symm hv
  | some u=>rw [hl] at h;rw [← h];rfl
 ·rfl
theorem getH_lk (h:List (Nm × Blk)) (n:Nm):getH h n=lk h n:=by
 induction h with
 | nil=>rfl
 | cons x r ih =>
  obtain ⟨m,b⟩:=x
  unfold getH
  rw [lk_cons]
  by_cases e:m=n
  ·subst e;rw [nmEq_refl,if_pos rfl];rfl
  ·rw [nmEq_ne e,if_neg e];exact ih
theorem mem_setH:∀ (h:List (Nm × Blk)) (n:Nm) (b:Blk) (x:Nm × Blk),x ∈ setH h n b→x=(n,b)∨x ∈ h
 | [],d,v,x,h=>by simp [setH] at h;exact .inl h
 | (s,u) :: r,d,v,x,h=>by
  unfold setH at h
  cases h1:nmEq s d with
  | true =>
   rw [h1] at h
   simp only [cond_true] at h
   rcases List.mem_cons.1 h with h|h
   ·exact .inl h
   ·exact .inr (List.mem_cons_of_mem _ h)
  | false =>
   rw [h1] at h
   simp only [cond_false] at h
   cases h2:nmLt d s with
   | true =>
    rw [h2] at h
    rcases List.mem_cons.1 h with h|h
    ·exact .inl h
    ·exact .inr h
   | false =>
    rw [h2] at h
    rcases List.mem_cons.1 h with h|h
    ·exact .inr (h ▸ List.mem_cons_self)
    ·rcases mem_setH r d v x h with h|h
     ·exact .inl h
     ·exact .inr (List.mem_cons_of_mem _ h)
theorem SH_set:∀ (e:List (Nm × Blk)) (d:Nm) (v:Blk),SH e→SH (setH e d v)
 | [],d,v,_=>List.pairwise_singleton _ _
 | (s,u) :: r,d,v,h=>by
  unfold SH at h ⊢
  rw [List.pairwise_cons] at h
  unfold setH
  cases h1:nmEq s d with
  | true =>
   have:=(nmEq_iff s d).1 h1
   subst this
   simp only [cond_true]
   exact List.pairwise_cons.2 h
  | false =>
   simp only [cond_false]
   cases h2:nmLt d s with
   | true =>
    simp only [cond_true]
    refine List.pairwise_cons.2 ⟨fun z hz=>?_,List.pairwise_cons.2 h⟩
    rcases List.mem_cons.1 hz with rfl|hz
    ·exact h2
    ·exact nmLt_trans _ _ _ h2 (h.1 z hz)
   | false =>
    simp only [cond_false]
    refine List.pairwise_cons.2 ⟨fun z hz=>?_,SH_set r d v h.2⟩
    rcases mem_setH r d v z hz with rfl|hz
    ·rcases nmLt_tri s d with h3|h3|h3
     ·exact h3
     ·rw [h3,nmEq_refl] at h1;cases h1
     ·rw [h3] at h2;cases h2
    ·exact h.1 z hz
theorem mem_delH:∀ (h:List (Nm × Blk)) (n:Nm) (x:Nm × Blk),x ∈ delH h n→x ∈ h
 | [],_,_,h=>by simp [delH] at h
 | (s,u) :: r,n,x,h=>by
  unfold delH at h
  cases h1:nmEq s n with
  | true=>rw [h1] at h;exact List.mem_cons_of_mem _ (mem_delH r n x h)
  | false =>
   rw [h1] at h
   rcases List.mem_cons.1 h with h|h
   ·exact h ▸ List.mem_cons_self
   ·exact List.mem_cons_of_mem _ (mem_delH r n x h)
theorem SH_del:∀ (e:List (Nm × Blk)) (n:Nm),SH e→SH (delH e n)
 | [],_,_=>List.Pairwise.nil
 | (s,u) :: r,n,h=>by
  unfold SH at h ⊢
  rw [List.pairwise_cons] at h
  unfold delH
  cases h1:nmEq s n with
  | true=>exact SH_del r n h.2
  | false=>exact List.pairwise_cons.2 ⟨fun z hz=>h.1 z (mem_delH r n z hz),SH_del r n h.2⟩
theorem SH_ext {e1 e2:List (Nm × Blk)} (h1:SH e1) (h2:SH e2) (h:∀ t,getH e1 t=getH e2 t):e1=e2 :=
 ext_sorted (lt:=fun a b=>nmLt a b=true) (fun a b h=>by rw [nmLt_asym a b h];simp) e1 e2 h1 h2 fun k=>by rw [← getH_lk,← getH_lk];exact h k
def Sorted (st:St):Prop:=SE st.env∧SH st.heap
def putE (es:List (Nat × AV)) (e:List (Nat × AV)):List (Nat × AV):=es.foldl (fun e x=>setE e x.1 x.2) e
def putH (hs:List (Nm × Option Blk)) (h:List (Nm × Blk)):List (Nm × Blk):=hs.foldl (fun h x=>match x.2 with|some b=>setH h x.1 b|none=>delH h x.1) h
theorem Wr.on_eq (wr:Wr) (st:St):wr.on st=⟨putE wr.es st.env,putH wr.hs st.heap⟩:=rfl
theorem SE_put:∀ (es e:List (Nat × AV)),SE e→SE (putE es e)
 | [],_,h=>h
 | x :: es,e,h=>SE_put es _ (SE_set e x.1 x.2 h)
theorem SH_put:∀ (hs:List (Nm × Option Blk)) (h:List (Nm × Blk)),SH h→SH (putH hs h)
 | [],_,h=>h
 | (n,some b) :: hs,_,h=>SH_put hs _ (SH_set _ n b h)
 | (n,none) :: hs,_,h=>SH_put hs _ (SH_del _ n h)
theorem Wr.sorted (wr:Wr) {st:St} (h:Sorted st):Sorted (wr.on st):=⟨SE_put _ _ h.1,SH_put _ _ h.2⟩
theorem lk_putE:∀ (es e e':List (Nat × AV)) (t:Nat),((∃ x ∈ es,x.1=t)∨lk e t=lk e' t)→lk (putE es e) t=lk (putE es e') t
 | [],e,e',t,h=>by
  rcases h with ⟨x,hx,_⟩|h
  ·simp at hx
  ·exact h
 | x :: es,e,e',t,h=>by
  refine lk_putE es _ _ t ?_
  by_cases hx:∃ y ∈ es,y.1=t
  ·exact .inl hx
  ·refine .inr ?_
   rw [lk_setE,lk_setE]
   split
   ·rfl
   ·rename_i hne
    rcases h with ⟨y,hy,e⟩|h
    ·rcases List.mem_cons.1 hy with rfl|hy
     ·exact absurd e hne
     ·exact absurd ⟨y,hy,e⟩ hx
    ·exact h
theorem lk_putE_out:∀ (es e:List (Nat × AV)) (t:Nat),(∀ x ∈ es,x.1 ≠ t)→lk (putE es e) t=lk e t
 | [],_,_,_=>rfl
 | x :: es,e,t,h=>by
  show lk (putE es (setE e x.1 x.2)) t=_
  rw [lk_putE_out es _ t fun y hy=>h y (List.mem_cons_of_mem _ hy),lk_setE,if_neg (h x List.mem_cons_self)]
theorem getH_putH:∀ (hs:List (Nm × Option Blk)) (h h':List (Nm × Blk)) (n:Nm),((∃ x ∈ hs,x.1=n)∨getH h n=getH h' n)→getH (putH hs h) n=getH (putH hs h') n
 | [],h,h',n,k=>by
  rcases k with ⟨x,hx,_⟩|k
  ·simp at hx
  ·exact k
 | (m,b) :: hs,h,h',n,k=>by
  refine getH_putH hs _ _ n ?_
  by_cases hx:∃ y ∈ hs,y.1=n
  ·exact .inl hx
  ·refine .inr ?_
   have hk:m ≠ n→getH h n=getH h' n:=fun hne=>by
    rcases k with ⟨y,hy,e⟩|k
    ·rcases List.mem_cons.1 hy with rfl|hy
     ·exact absurd e hne
     ·exact absurd ⟨y,hy,e⟩ hx
    ·exact k
   cases b with
   | some b =>
    simp only [getH_setH]
    split
    ·rfl
    ·rename_i hne;exact hk hne
   | none =>
    simp only [getH_delH]
    split
    ·rfl
    ·rename_i hne;exact hk hne
theorem getH_putH_out:∀ (hs:List (Nm × Option Blk)) (h:List (Nm × Blk)) (n:Nm),(∀ x ∈ hs,x.1 ≠ n)→getH (putH hs h) n=getH h n
 | [],_,_,_=>rfl
 | (m,some b) :: hs,h,n,k=>by
  show getH (putH hs (setH h m b)) n=_
  rw [getH_putH_out hs _ n fun y hy=>k y (List.mem_cons_of_mem _ hy),getH_setH,if_neg (k _ List.mem_cons_self)]
 | (m,none) :: hs,h,n,k=>by
  show getH (putH hs (delH h m)) n=_
  rw [getH_putH_out hs _ n fun y hy=>k y (List.mem_cons_of_mem _ hy),getH_delH,if_neg (k _ List.mem_cons_self)]
theorem Wr.comm {x y:Wr} {st:St} (hs:Sorted st) (h1:∀ p ∈ x.es,∀ q ∈ y.es,p.1 ≠ q.1) (h2:∀ p ∈ x.hs,∀ q ∈ y.hs,p.1 ≠ q.1):x.on (y.on st)=y.on (x.on st):=by
 have s1:=x.sorted (y.sorted hs)
 have s2:=y.sorted (x.sorted hs)
 simp only [Wr.on_eq] at *
 congr 1
 ·refine SE_ext s1.1 s2.1 fun t=>?_
  by_cases hx:∃ p ∈ x.es,p.1=t
  ·obtain ⟨p,hp,rfl⟩:=hx
   rw [lk_putE_out y.es _ _ fun q hq e=>h1 p hp q hq e.symm]
   exact lk_putE x.es _ _ _ (.inl ⟨p,hp,rfl⟩)
  ·have hx':∀ p ∈ x.es,p.1 ≠ t:=fun p hp e=>hx ⟨p,hp,e⟩
   rw [lk_putE_out x.es _ _ hx']
   by_cases hy:∃ q ∈ y.es,q.1=t
   ·exact lk_putE y.es _ _ _ (.inl hy)
   ·have hy':∀ q ∈ y.es,q.1 ≠ t:=fun p hp e=>hy ⟨p,hp,e⟩
    rw [lk_putE_out y.es _ _ hy',lk_putE_out y.es _ _ hy',lk_putE_out x.es _ _ hx']
 ·refine SH_ext s1.2 s2.2 fun t=>?_
  by_cases hx:∃ p ∈ x.hs,p.1=t
  ·obtain ⟨p,hp,rfl⟩:=hx
   rw [getH_putH_out y.hs _ _ fun q hq e=>h2 p hp q hq e.symm]
   exact getH_putH x.hs _ _ _ (.inl ⟨p,hp,rfl⟩)
  ·have hx':∀ p ∈ x.hs,p.1 ≠ t:=fun p hp e=>hx ⟨p,hp,e⟩
   rw [getH_putH_out x.hs _ _ hx']
   by_cases hy:∃ q ∈ y.hs,q.1=t
   ·exact getH_putH y.hs _ _ _ (.inl hy)
   ·have hy':∀ q ∈ y.hs,q.1 ≠ t:=fun p hp e=>hy ⟨p,hp,e⟩
    rw [getH_putH_out y.hs _ _ hy',getH_putH_out y.hs _ _ hy',getH_putH_out x.hs _ _ hx']
end Go.Proofs.VE

namespace Go.Proofs.VE
open Go
section
variable {P:Program} {h1 h2:List (Nm × Blk)}
def SameAt (h1 h2:List (Nm × Blk)) (x:AV):Prop:=∀ n ∈ namesV x,getH h1 n=getH h2 n
theorem sliceA_congr {sz:Nat} {x:AV} {lo hi:Option Int} (h:SameAt h1 h2 x):sliceA h1 sz x lo hi=sliceA h2 sz x lo hi:=by
 cases x <;> try rfl
 ·rename_i nm;simp only [sliceA,h nm (by simp [namesV,namesC,namesK])]
 ·rename_i nm _ _;simp only [sliceA,h nm (by simp [namesV,namesC,namesK])]
theorem indexAddrA_congr {t:TypeId} {x:AV} {i:Int} (h:SameAt h1 h2 x):indexAddrA P h1 t x i=indexAddrA P h2 t x i:=by
 unfold indexAddrA
 cases elemT P t with
 | none=>rfl
 | some e =>
  cases x <;> try rfl
  ·rename_i nm;simp only [h nm (by simp [namesV,namesC,namesK])]
  ·rename_i nm _ _;simp only [h nm (by simp [namesV,namesC,namesK])]
theorem lenA_congr {x:AV} (h:SameAt h1 h2 x):lenA h1 x=lenA h2 x:=by
 cases x <;> try rfl
 rename_i nm;simp only [lenA,h nm (by simp [namesV,namesC,namesK])]
theorem elemsA_congr {x:AV} (h:SameAt h1 h2 x):elemsA h1 x=elemsA h2 x:=by
 cases x <;> try rfl
 ·rename_i nm;simp only [elemsA,h nm (by simp [namesV,namesC,namesK])]
 ·rename_i nm _ _;simp only [elemsA,h nm (by simp [namesV,namesC,namesK])]
theorem capArg_congr {x:AV} (h:∀ n ∈ namesK x,getH h1 n=getH h2 n):capArg h1 x=capArg h2 x:=by
 cases x <;> try rfl
 ·rename_i nm _ _;simp only [capArg,h nm (by simp [namesK])]
 ·rename_i f caps;cases caps <;> rfl
theorem capArgs_congr:∀ (xs:List AV),(∀ x ∈ xs,∀ n ∈ namesK x,getH h1 n=getH h2 n)→capArgs h1 xs=capArgs h2 xs
 | [],_=>rfl
 | x :: xs,h=>by
  simp only [capArgs,capArg_congr (h x List.mem_cons_self),capArgs_congr xs fun y hy=>h y (List.mem_cons_of_mem _ hy)]
theorem getAll_congr:∀ (ns:List Nm),(∀ n ∈ ns,getH h1 n=getH h2 n)→getAll h1 ns=getAll h2 ns
 | [],_=>rfl
 | n :: ns,h=>by
  simp only [getAll,h n List.mem_cons_self,getAll_congr ns fun m hm=>h m (List.mem_cons_of_mem _ hm)]
theorem dedupN_mem {n:Nm}:∀ (l acc:List Nm),n ∈ dedupN acc l→n ∈ acc∨n ∈ l
 | [],acc,h => .inl h
 | m :: r,acc,h=>by
  simp only [dedupN] at h
  cases hc:acc.any (nmEq m) <;> rw [hc] at h
  ·rcases dedupN_mem r _ h with h|h
   ·rcases List.mem_append.1 h with h|h
    ·exact .inl h
    ·exact .inr (List.mem_cons.2 (.inl (by simpa using h)))
   ·exact .inr (List.mem_cons_of_mem _ h)
  ·rcases dedupN_mem r _ h with h|h
   ·exact .inl h
   ·exact .inr (List.mem_cons_of_mem _ h)
theorem mutW_congr {vals caps:List AV} {m:List AV→List Blk→Option (Bool × AV × List Blk)} {dst:Option Nat} (h:∀ x ∈ vals,SameAt h1 h2 x) (hk:∀ x ∈ caps,∀ n ∈ namesK x,getH h1 n=getH h2 n):mutW h1 vals caps m dst=mutW h2 vals caps m dst:=by
 unfold mutW
 rw [getAll_congr _ fun n hn=>by
  rcases dedupN_mem _ _ hn with hn|hn
  ·cases hn
  ·rcases List.mem_append.1 hn with hn|hn
   ·obtain ⟨x,hx,hn⟩:=List.mem_flatMap.1 hn
    exact h x hx n hn
   ·obtain ⟨x,hx,hn⟩:=List.mem_flatMap.1 hn
    exact hk x hx n hn]
theorem boxN_congr {n:Nm} (h:getH h1 n=getH h2 n):boxN h1 n=boxN h2 n:=by unfold boxN;rw [h]
theorem flat_congrN {f g:Nm→List Nm}:∀ (l:List Nm),(∀ n ∈ l,f n=g n)→l.flatMap f=l.flatMap g
 | [],_=>rfl
 | n :: l,h=>by rw [List.flatMap_cons,List.flatMap_cons,h n List.mem_cons_self,flat_congrN l fun m hm=>h m (List.mem_cons_of_mem _ hm)]
theorem genW_congr {q:Nm} {l:List Nm} {vals:List AV} {m:List AV→List Blk→Option (Bool × List AV × List (Option Blk))} {dst:Option Nat} (e0:∀ n ∈ l,getH h1 n=getH h2 n)
  (hb:∀ n ∈ l,∀ k ∈ boxN h2 n,getH h1 k=getH h2 k):genW q h1 l vals m dst=genW q h2 l vals m dst:=by
 have e1:closeN h1 l=closeN h2 l:=by
  unfold closeN
  rw [flat_congrN _ fun n hn=>boxN_congr (e0 n hn)]
 have e2:getAll h1 (closeN h2 l)=getAll h2 (closeN h2 l):=getAll_congr _ fun n hn=>by
  rcases dedupN_mem _ _ hn with hn|hn
  ·cases hn
  ·rcases List.mem_append.1 hn with hn|hn
   ·exact e0 n hn
   ·obtain ⟨k,hk,hn⟩:=List.mem_flatMap.1 hn
    exact hb k hk n hn
 unfold genW
 rw [e1,e2]
theorem roArg_congr {t:TypeId} {x:AV} (h:∀ n ∈ namesC x,getH h1 n=getH h2 n):roArg P h1 t x=roArg P h2 t x:=by
 cases x <;> try rfl
 ·rename_i nm;simp only [roArg,h nm (by simp [namesC,namesK])]
 ·rename_i nm _ _;simp only [roArg,h nm (by simp [namesC,namesK])]
 ·rename_i f cs;simp only [roArg,capArgs_congr cs fun x hx n hn=>h n (by simp only [namesC,List.mem_flatMap];exact ⟨x,hx,hn⟩)]
theorem roArgs_congr:∀ (ts:List TypeId) (xs:List AV),(∀ x ∈ xs,∀ n ∈ namesC x,getH h1 n=getH h2 n)→roArgs P h1 ts xs=roArgs P h2 ts xs
 | [],[],_=>rfl
 | [],_ :: _,_=>rfl
 | _ :: _,[],_=>rfl
 | t :: ts,x :: xs,h=>by
  simp only [roArgs,roArg_congr (h x List.mem_cons_self),roArgs_congr ts xs fun y hy=>h y (List.mem_cons_of_mem _ hy)]
theorem roVal_congr {t:TypeId} {x:AV} (h:SameAt h1 h2 x):roVal P h1 t x=roVal P h2 t x:=by
 by_cases hx:∃ cs,x = .agg cs
 ·obtain ⟨cs,rfl⟩:=hx
  simp only [roVal]
  rw [roArgs_congr _ cs fun y hy n hn=>h n (by simp only [namesV,List.mem_flatMap];exact ⟨y,hy,hn⟩)]
 ·have e:∀ hp,roVal P hp t x=roArg P hp t x:=fun hp=>by cases x <;> first|rfl|exact absurd ⟨_,rfl⟩ hx
  have en:namesV x=namesC x:=by cases x <;> first|rfl|exact absurd ⟨_,rfl⟩ hx
  rw [e,e]
  exact roArg_congr fun n hn=>h n (by rw [en];exact hn)
theorem roVals_congr:∀ (ts:List TypeId) (xs:List AV),(∀ x ∈ xs,SameAt h1 h2 x)→roVals P h1 ts xs=roVals P h2 ts xs
 | [],[],_=>rfl
 | [],_ :: _,_=>rfl
 | _ :: _,[],_=>rfl
 | t :: ts,x :: xs,h=>by
  simp only [roVals,roVal_congr (h x List.mem_cons_self),roVals_congr ts xs fun y hy=>h y (List.mem_cons_of_mem _ hy)]
end
section
variable {cf:Cfg} {π:Nm} {st1 st2:St}
def readsB:Op→Bool
 | .load .. | .slice .. | .indexAddr .. | .store .. | .buildSlice .. | .convert .. | .call _=>true
 | _=>false
theorem optmap_congr {lo:Option Operand} (h:∀ x,lo=some x→opA st1.env x=opA st2.env x):lo.map (fun x=>intOf? (opA st1.env x))=lo.map (fun x=>intOf? (opA st2.env x)):=by
 cases lo with
 | none=>rfl
 | some x=>simp only [Option.map_some,h x rfl]
theorem val_local {op:Op} (ho:∀ x ∈ op.operands.toList,opA st1.env x=opA st2.env x)
  (hn:readsB op=true→∀ x ∈ op.operands.toList,SameAt st1.heap st2.heap (opA st2.env x)):valA cf.P st1 op=valA cf.P st2 op:=by
 cases op with
 | move x=>simp only [valA,ho x (by simp [Op.operands])]
 | assign x=>simp only [valA,ho x (by simp [Op.operands])]
 | pick c x y=>simp only [valA,ho c (by simp [Op.operands]),ho x (by simp [Op.operands]),ho y (by simp [Op.operands])]
 | load t x =>
  have hs:=hn rfl x (by simp [Op.operands])
  simp only [valA,ho x (by simp [Op.operands])]
  generalize opA st2.env x=v at hs
  cases v <;> try rfl
  rename_i nm _ _
  simp only [hs nm (by simp [namesV,namesC,namesK])]
 | nilCheck x=>simp only [valA,ho x (by simp [Op.operands])]
 | binOp op t x y ty=>simp only [valA,ho x (by simp [Op.operands]),ho y (by simp [Op.operands])]
 | unOp op t x=>simp only [valA,ho x (by simp [Op.operands])]
 | convert s d x =>
  have hs:=hn rfl x (by simp [Op.operands])
  simp only [valA,ho x (by simp [Op.operands])]
  generalize opA st2.env x=v at hs
  cases v <;> try rfl
  rename_i nm
  simp only [hs nm (by simp [namesV,namesC,namesK])]
 | makeFunc f first caps =>
  have e:caps.toList.map (opA st1.env)=caps.toList.map (opA st2.env):=List.map_congr_left fun x hx=>ho x (by simp only [Op.operands,Array.toList_append,List.mem_append];exact .inr hx)
  cases f <;> first|rfl|simp only [valA,e]
 | slice t x lo hi mx =>
  have hs:=hn rfl x (by simp [Op.operands])
  have hx:=ho x (by simp [Op.operands])
  have hlo:=optmap_congr (st1:=st1) (st2:=st2) (lo:=lo) fun y hy=>ho y (by subst hy;simp [Op.operands])
  have hhi:=optmap_congr (st1:=st1) (st2:=st2) (lo:=hi) fun y hy=>ho y (by subst hy;simp [Op.operands])
  simp only [valA,hx,hlo,hhi]
  have hsl:∀ sz l h,sliceA st1.heap sz (opA st2.env x) l h=sliceA st2.heap sz (opA st2.env x) l h:=fun sz l h=>sliceA_congr hs
  simp only [hsl]
 | fieldAddr s x f=>simp only [valA,ho x (by simp [Op.operands])]
 | field t x f=>simp only [valA,ho x (by simp [Op.operands])]
 | indexAddr t x i =>
  have hs:=hn rfl x (by simp [Op.operands])
  have hix:∀ i,indexAddrA cf.P st1.heap t (opA st2.env x) i=indexAddrA cf.P st2.heap t (opA st2.env x) i:=fun i=>indexAddrA_congr hs
  simp only [valA,ho x (by simp [Op.operands]),ho i (by simp [Op.operands]),hix]
 | index t x i=>simp only [valA,ho x (by simp [Op.operands]),ho i (by simp [Op.operands])]
 | extract x k=>simp only [valA,ho x (by simp [Op.operands])]
 | build t parts =>
  have e:(parts.toList.map fun (i,x)=>(i,opA st1.env x))=parts.toList.map fun (i,x)=>(i,opA st2.env x):=List.map_congr_left fun p hp=>by
   obtain ⟨i,x⟩:=p
   simp only
   rw [ho x (by simp only [Op.operands];exact List.mem_map.2 ⟨(i,x),hp,rfl⟩)]
  simp only [valA,e]
 | call c =>
  obtain ⟨callee,args,argTypes⟩:=c
  have harg:∀ x ∈ args.toList,opA st1.env x=opA st2.env x∧SameAt st1.heap st2.heap (opA st2.env x):=fun x hx =>
   have hm:x ∈ (Op.call ⟨callee,args,argTypes⟩).operands.toList:=by
    simp only [Op.operands,Call.operands,Array.toList_append,List.mem_append];exact .inr hx
   ⟨ho x hm,hn rfl x hm⟩
  have e:args.toList.map (opA st1.env)=args.toList.map (opA st2.env):=List.map_congr_left fun x hx=>(harg x hx).1
  cases callee with
  | builtin b =>
   cases b <;> try rfl
   case len =>
    simp only [valA]
    cases hl:args.toList with
    | nil=>rfl
    | cons x l =>
     obtain ⟨g1,g2⟩:=harg x (by rw [hl];exact List.mem_cons_self)
     cases l with
     | nil =>
      generalize (argTypes[0]?).bind cf.P.underlying=dd
      cases dd with
      | none=>rfl
      | some dd=>cases dd <;> first|rfl|simp only [g1,lenA_congr g2]
     | cons y l=>rfl
   case min=>simp only [valA,e]
   case max=>simp only [valA,e]
  | _=>rfl
 | _=>rfl
theorem dels_congr {n:Nm}:∀ (l:List Nm) {h1 h2:List (Nm × Blk)},getH h1 n=getH h2 n→getH (dels l h1) n=getH (dels l h2) n
 | [],_,_,h=>h
 | m :: l,h1,h2,h=>by
  show getH (dels l (delH h1 m)) n=getH (dels l (delH h2 m)) n
  refine dels_congr l ?_
  rw [getH_delH,getH_delH,h]
theorem frzC_congr {h1 h2:List (Nm × Blk)} {t:CT} {c:AV} (h:∀ n ∈ namesC c,getH h1 n=getH h2 n):frzC h1 t c=frzC h2 t c:=by
 unfold frzC
 cases t <;> try rfl
 cases c <;> try rfl
 rename_i nm
 simp only [h nm (by simp [namesC,namesK])]
theorem frzCs_congr:∀ (ts:List CT) (xs:List AV) {h1 h2:List (Nm × Blk)},(∀ x ∈ xs,∀ n ∈ namesC x,getH h1 n=getH h2 n)→frzCs h1 ts xs=frzCs h2 ts xs
 | [],[],_,_,_=>rfl
 | [],_ :: _,_,_,_=>rfl
 | _ :: _,[],_,_,_=>rfl
 | t :: ts,x :: xs,h1,h2,h=>by
  unfold frzCs
  rw [frzC_congr (h x List.mem_cons_self)]
  cases frzC h2 t x with
  | none=>rfl
  | some p =>
   obtain ⟨y,l⟩:=p
   simp only
   rw [frzCs_congr ts xs fun x hx n hn=>dels_congr l (h x (List.mem_cons_of_mem _ hx) n hn)]
theorem frzV_congr {h1 h2:List (Nm × Blk)} {ts:List CT} {v:AV} (h:SameAt h1 h2 v):frzV h1 ts v=frzV h2 ts v:=by
 have one:∀ x,(∀ n ∈ namesC x,getH h1 n=getH h2 n)→frz1 h1 ts x=frz1 h2 ts x:=fun x hx=>by
  unfold frz1
  split
  ·exact frzC_congr hx
  ·rfl
 cases v with
 | agg cs =>
  simp only [frzV]
  rw [frzCs_congr ts cs fun x hx n hn=>h n (by simp only [namesV,List.mem_flatMap];exact ⟨x,hx,hn⟩)]
 | tup _=>rfl
 | undef=>rfl
 | _=>exact one _ h
theorem frzVs_congr {ts:List CT}:∀ (vs:List AV) {h1 h2:List (Nm × Blk)},(∀ v ∈ vs,SameAt h1 h2 v)→frzVs h1 ts vs=frzVs h2 ts vs
 | [],_,_,_=>rfl
 | v :: vs,h1,h2,h=>by
  unfold frzVs
  rw [frzV_congr (h v List.mem_cons_self)]
  cases frzV h2 ts v with
  | none=>rfl
  | some p =>
   obtain ⟨y,l⟩:=p
   simp only
   rw [frzVs_congr vs fun x hx n hn=>dels_congr l (h x (List.mem_cons_of_mem _ hx) n hn)]
theorem elemsF_congr {h1 h2:List (Nm × Blk)} {x:AV}:elemsF h1 x=elemsF h2 x:=by cases x <;> rfl
theorem effW_local {o:Oper} (ho:∀ x ∈ o.op.operands.toList,opA st1.env x=opA st2.env x)
  (hn:readsB o.op=true→∀ x ∈ o.op.operands.toList,SameAt st1.heap st2.heap (opA st2.env x))
  (hbx:∀ c,o.op = .call c→∀ x ∈ o.op.operands.toList,∀ n ∈ namesV (opA st2.env x),∀ k ∈ boxN st2.heap n,getH st1.heap k=getH st2.heap k)
  (hc:creates o=true→∀ d,o.dst=some d→cleanS (d :: π) st1=true∧cleanS (d :: π) st2=true):effW cf π st1 o=effW cf π st2 o:=by
 obtain ⟨dst,op,type,pos,after,guard⟩:=o
 cases op with
 | alloc t =>
  cases dst with
  | none=>rfl
  | some d=>obtain ⟨c1,c2⟩:=hc rfl d rfl;simp only [effW,c1,c2]
 | box t x =>
  cases dst with
  | none=>rfl
  | some d=>obtain ⟨c1,c2⟩:=hc rfl d rfl;simp only [effW,c1,c2,ho x (by simp [Op.operands])]
 | buildSlice t n parts =>
  cases dst with
  | none=>rfl
  | some d =>
   obtain ⟨c1,c2⟩:=hc rfl d rfl
   have hp:∀ p ∈ parts.toList,opA st1.env p.2=opA st2.env p.2:=fun p hp=>ho p.2 (by simp only [Op.operands];exact List.mem_map.2 ⟨p,hp,rfl⟩)
   have e1:(parts.toList.map fun p=>opA st1.env p.2)=parts.toList.map fun p=>opA st2.env p.2:=List.map_congr_left hp
   have e2:∀ ts,frzVs st1.heap ts (parts.toList.map fun p=>opA st2.env p.2)=frzVs st2.heap ts (parts.toList.map fun p=>opA st2.env p.2):=fun ts=>frzVs_congr _ fun v hv=>by
    obtain ⟨p,hp,rfl⟩:=List.mem_map.1 hv
    exact hn rfl p.2 (by simp only [Op.operands];exact List.mem_map.2 ⟨p,hp,rfl⟩)
   simp only [effW,c1,c2,e1,e2]
 | makeSlice t l c =>
  cases dst with
  | none=>rfl
  | some d=>obtain ⟨c1,c2⟩:=hc rfl d rfl;simp only [effW,c1,c2,ho l (by simp [Op.operands]),ho c (by simp [Op.operands])]
 | store t x y =>
  have hs:=hn rfl x (by simp [Op.operands])
  have hy:=fun ts=>frzV_congr (ts:=ts) (hn rfl y (by simp [Op.operands]))
  simp only [effW,ho x (by simp [Op.operands]),ho y (by simp [Op.operands]),hy]
  generalize opA st2.env x=v at hs
  cases v <;> try rfl
  rename_i nm _ _
  simp only [hs nm (by simp [namesV,namesC,namesK])]
 | call c =>
  obtain ⟨callee,args,argTypes⟩:=c
  have harg:∀ x ∈ args.toList,opA st1.env x=opA st2.env x∧SameAt st1.heap st2.heap (opA st2.env x):=fun x hx =>
   have hm:x ∈ (Op.call ⟨callee,args,argTypes⟩).operands.toList:=by
    simp only [Op.operands,Call.operands,Array.toList_append,List.mem_append];exact .inr hx
   ⟨ho x hm,hn rfl x hm⟩
  cases callee with
  | builtin b =>
   cases b <;> try rfl
   case clear =>
    simp only [effW]
    cases hl:args.toList with
    | nil=>rfl
    | cons x l =>
     cases l with
     | cons y l=>rfl
     | nil =>
      obtain ⟨g1,g2⟩:=harg x (by rw [hl];exact List.mem_cons_self)
      cases argTypes.toList with
      | nil=>rfl
      | cons t ts =>
       cases ts with
       | cons t' ts=>rfl
       | nil =>
        simp only [g1]
        cases elemT cf.P t with
        | none=>rfl
        | some e =>
         generalize opA st2.env x=v at g2
         cases v <;> try rfl
         rename_i nm lo n
         simp only [g2 nm (by simp [namesV,namesC,namesK])]
   cases dst with
   | none=>rfl
   | some d =>
    obtain ⟨c1,c2⟩:=hc rfl d rfl
    simp only [effW]
    cases hl:args.toList with
    | nil=>rfl
    | cons x l =>
     cases l with
     | nil=>rfl
     | cons y l =>
      cases l with
      | cons z l=>rfl
      | nil =>
       obtain ⟨g1,g2⟩:=harg x (by rw [hl];exact List.mem_cons_self)
       obtain ⟨g3,g4⟩:=harg y (by rw [hl];exact List.mem_cons_of_mem _ List.mem_cons_self)
       cases ht:argTypes.toList with
       | nil=>rfl
       | cons t ts =>
        cases ts with
        | nil=>rfl
        | cons t' ts =>
         cases ts with
         | cons t'' ts=>rfl
         | nil =>
          simp only [g1,g3,elemsA_congr g4,elemsF_congr (h1:=st1.heap) (h2:=st2.heap),c1,c2]
          generalize opA st2.env x=v at g2
          cases v <;> try rfl
          rename_i nm
          simp only [g2 nm (by simp [namesV,namesC,namesK])]
  | value f =>
   have hf:opA st1.env f=opA st2.env f:=ho f (by simp [Op.operands,Call.operands])
   have e:args.toList.map (opA st1.env)=args.toList.map (opA st2.env):=List.map_congr_left fun x hx=>(harg x hx).1
   have hro:roVals cf.P st1.heap argTypes.toList (args.toList.map (opA st2.env))=roVals cf.P st2.heap argTypes.toList (args.toList.map (opA st2.env)):=roVals_congr _ _ fun v hv=>by
    obtain ⟨x,hx,rfl⟩:=List.mem_map.1 hv
    exact (harg x hx).2
   have hsf:SameAt st1.heap st2.heap (opA st2.env f):=hn rfl f (by simp [Op.operands,Call.operands])
   have hvals:∀ x ∈ args.toList.map (opA st2.env),SameAt st1.heap st2.heap x:=fun v hv=>by
    obtain ⟨x,hx,rfl⟩:=List.mem_map.1 hv
    exact (harg x hx).2
   have key:∀ g caps,opA st2.env f = .fn g caps→capArgs st1.heap caps=capArgs st2.heap caps∧(∀ m dst,mutW st1.heap (args.toList.map (opA st2.env)) caps m dst=mutW st2.heap (args.toList.map (opA st2.env)) caps m dst) ∧
     ∀ q m dst,genW q st1.heap ((args.toList.map (opA st2.env)).flatMap namesV++caps.flatMap namesK) (args.toList.map (opA st2.env)++caps) m dst=genW q st2.heap ((args.toList.map (opA st2.env)).flatMap namesV++caps.flatMap namesK) (args.toList.map (opA st2.env)++caps) m dst:=fun g caps hg=>by
    rw [hg] at hsf
    have hk:∀ x ∈ caps,∀ n ∈ namesK x,getH st1.heap n=getH st2.heap n:=fun x hx n hn=>hsf n (by simp only [namesV,namesC,List.mem_flatMap];exact ⟨x,hx,hn⟩)
    refine ⟨capArgs_congr caps hk,fun m dst=>mutW_congr hvals hk,fun q m dst=>genW_congr (fun n hn=>?_) fun n hn k hkb=>?_⟩
    ·rcases List.mem_append.1 hn with hn|hn
     ·obtain ⟨x,hx,hn⟩:=List.mem_flatMap.1 hn
      exact hvals x hx n hn
     ·obtain ⟨x,hx,hn⟩:=List.mem_flatMap.1 hn
      exact hk x hx n hn
    ·rcases List.mem_append.1 hn with hn|hn
     ·obtain ⟨x,hx,hn⟩:=List.mem_flatMap.1 hn
      obtain ⟨y,hy,rfl⟩:=List.mem_map.1 hx
      exact hbx _ rfl y (by simp only [Op.operands,Call.operands];simp;exact .inr (by simpa using hy)) n hn k hkb
     ·obtain ⟨x,hx,hn⟩:=List.mem_flatMap.1 hn
      refine hbx _ rfl f (by simp [Op.operands,Call.operands]) n ?_ k hkb
      rw [hg]
      simp only [namesV,namesC,List.mem_flatMap]
      exact ⟨x,hx,hn⟩
   cases dst with
   | none =>
    simp only [effW,hf,e,hro]
    generalize hg:opA st2.env f=v at key
    cases v <;> try rfl
    rename_i g caps
    obtain ⟨k1,k2,k3⟩:=key g caps rfl
    simp only [k1,k2]
   | some d =>
    obtain ⟨c1,c2⟩:=hc rfl d rfl
    simp only [effW,hf,e,hro,c1,c2]
    generalize hg:opA st2.env f=v at key
    cases v <;> try rfl
    rename_i g caps
    obtain ⟨k1,k2,k3⟩:=key g caps rfl
    simp only [k1,k2,k3]
  | invoke r m=>rfl
 | _=>rfl
theorem wr_local {ops:Array Oper} {o:Oper} (ht:∀ t ∈ o.looksAt ops,getE st1.env t=getE st2.env t) (hn:∀ n ∈ readsN st2 o,getH st1.heap n=getH st2.heap n)
  (hc:creates o=true→∀ d,o.dst=some d→cleanS (d :: π) st1=true∧cleanS (d :: π) st2=true):wrA cf π st1 o=wrA cf π st2 o:=by
 have ho:∀ x ∈ o.op.operands.toList,opA st1.env x=opA st2.env x:=fun x hx=>by
  cases x with
  | tmp t=>exact ht t (by unfold Oper.looksAt;exact List.mem_append_left _ (List.mem_filterMap.2 ⟨.tmp t,hx,rfl⟩))
  | _=>rfl
 have hs:readsB o.op=true→∀ x ∈ o.op.operands.toList,SameAt st1.heap st2.heap (opA st2.env x):=fun hk x hx n hm=>by
  refine hn n ?_
  unfold readsN
  cases hop:o.op <;> rw [hop] at hk <;> first|(cases hk;done)|skip
  all_goals (rw [hop] at hx;first|exact List.mem_flatMap.2 ⟨x,hx,hm⟩|exact List.mem_append_left _ (List.mem_flatMap.2 ⟨x,hx,hm⟩))
 have hbx:∀ c,o.op = .call c→∀ x ∈ o.op.operands.toList,∀ n ∈ namesV (opA st2.env x),∀ k ∈ boxN st2.heap n,getH st1.heap k=getH st2.heap k:=fun c hop x hx n hm k hk=>by
  refine hn k ?_
  unfold readsN
  rw [hop]
  rw [hop] at hx
  exact List.mem_append_right _ (List.mem_flatMap.2 ⟨n,List.mem_flatMap.2 ⟨x,hx,hm⟩,hk⟩)
 unfold wrA
 rw [val_local ho hs,effW_local ho hs hbx hc]
end
end Go.Proofs.VE
