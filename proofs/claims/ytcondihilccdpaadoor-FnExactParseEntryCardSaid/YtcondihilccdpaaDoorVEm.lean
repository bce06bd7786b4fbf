import Derived.Test.YtcondihilccdpaaDoorVEl
namespace Go.Proofs.VE
open Go
section
variable {P:Program} {C C':Ctx} {nt:Nat} {st:St} {a:Act} {w w':World}
theorem run_append_zero {t ty e:TypeId} {i:TypeInfo} {base av:Option Addr} {n cap c:Nat} (ht:P.underlying t=some (.slice e)) (hi:P.info? e=some i) (hn:n≤cap) :
  (Builtin.append_ #[t,t] ty #[.slice base n cap,.slice av 0 c]).run P w = .ok (.slice base n cap) w:=by
 cases base <;> cases av <;> simp [Builtin.append_,run_underlying ht,sizeOf,typeInfo,hi,Builtin.lenOf,Builtin.firstCells,loadCells,loadCellsFrom,storeCells,hn]
theorem run_append_in {t ty e:TypeId} {i:TypeInfo} {A ad:Addr} {n cap m c:Nat} {news:List Value} (ht:P.underlying t=some (.slice e)) (hi:P.info? e=some i)
  (hl:news.length=m*i.size) (hnews:∀ (j:Nat) (u:Value),news[j]?=some u→w.cell? (ad.add j)=some u) (hroom:n+m≤cap) (hst:(storeCells (A.add (n*i.size)) news).run P w = .ok () w') :
  (Builtin.append_ #[t,t] ty #[.slice (some A) n cap,.slice (some ad) m c]).run P w = .ok (.slice (some A) (n+m) cap) w':=by
 have hf:=run_firstCells_some (P:=P) w i.size m ad m c news hl hnews
 simp [Builtin.append_,run_underlying ht,sizeOf,typeInfo,hi,Builtin.lenOf,hroom,hf,hst]
theorem slice_over [Glob] {o:Oper} {d:Nat} {π:Nm} {tys:List CT} {xs:List AV} {u:Value} (hd:d<nt) (ho:o.dst=some d) (hs:Sim C nt st a w) (hq:cleanS (d :: π) st=true) {D:Dat} {r:Option Nat}
  (hg:w.grownBy w' r) (hr:∀ k,r=some k→C.base≤k∧(∀ nm b,getH st.heap nm=some b→C.real nm=true→(C.loc nm).1 ≠ k)∧(∀ a v,C.mem a=some v→a.block ≠ k)∧¬ C.fr k)
  (hb:BlkR (C.set (1 :: d :: π) D) w' (1 :: d :: π) ⟨false,tys,xs⟩) (hD:D.real=true→(∀ nm b',getH st.heap nm=some b'→C.real nm=true→(C.loc nm).1 ≠ D.loc.1)∧(∀ a v,C.mem a=some v→a.block ≠ D.loc.1)∧¬ C.fr D.loc.1)
  (hu:VR (C.set (1 :: d :: π) D) (.own (1 :: d :: π)) u) (hrun:(execOp a.eval o).run P w = .ok (.value u) w') :
  Eff P π C nt o a w ⟨setE st.env d (.own (1 :: d :: π)),setH st.heap (1 :: d :: π) ⟨false,tys,xs⟩⟩:=by
 obtain ⟨h1,h2⟩:=hs.new hq (under_new d π) hg hr hb hD
 refine ⟨_,_,_,_,hrun,.inl rfl,h2.mono fun nm h=>under_isLoc h,?_⟩
 rw [ho]
 exact h1.put hu hd
theorem slice_none [Glob] {o:Oper} {d:Nat} {π:Nm} {tys:List CT} (hd:d<nt) (ho:o.dst=some d) (hs:Sim C nt st a w) (hq:cleanS (d :: π) st=true)
  (hrun:(execOp a.eval o).run P w = .ok (.value (.slice none 0 0)) w) :
  Eff P π C nt o a w ⟨setE st.env d (.own (1 :: d :: π)),setH st.heap (1 :: d :: π) ⟨false,tys,[]⟩⟩:=by
 refine slice_over (D:=⟨false,(0,0),tys.length,0,0⟩) (r:=none) hd ho hs hq ⟨rfl,rfl,rfl,Nat.le_refl _,fun _ _ _=>rfl⟩ (fun k h=>by cases h) ?_ (fun h=>by cases h) (.ownNil _ (by unfold Ctx.len;rw [Ctx.set_dat])) hrun
 refine ⟨by simp,by unfold Ctx.len;rw [Ctx.set_dat];rfl,by unfold Ctx.width;rw [Ctx.set_dat];exact fun _=>rfl,(fun h=>by cases h),fun _=>rfl,(fun i x h=>by simp at h),?_,?_⟩ <;>
 ·unfold Ctx.real
  rw [Ctx.set_dat]
  exact fun h=>by cases h
theorem append_eff [Glob] {o:Oper} {d:Nat} {π:Nm} {x y:Operand} {args:Array Operand} {argTypes:Array TypeId} {t e:TypeId} {tys:List CT} {ys:List AV} (hd:d<nt) (ho:o.dst=some d)
  (hop:o.op = .call { callee := .builtin .append,args,argTypes }) (hargs:args.toList=[x,y]) (hts:argTypes.toList=[t,t]) (hs:Sim C nt st a w) (he:elemT P t=some e)
  (hy:elemsA st.heap (opA st.env y)=some (tys,ys)) (hq:cleanS (d :: π) st=true) (htl:tys.length=P.cellsOf e) (hok:zeroOK P e=true) (ht0:tys.length ≠ 0) (hyF:elemsF st.heap (opA st.env y)=true) :
  (opA st.env x = .snil→ys.length*P.bytesOf e≤140737488355328→ys.length≤140737488355328→Eff P π C nt o a w ⟨setE st.env d (.own (1 :: d :: π)),setH st.heap (1 :: d :: π) ⟨false,tys,ys⟩⟩) ∧
  (∀ nm b,opA st.env x = .own nm→getH st.heap nm=some b→b.box=false→tys=b.tys→(b.xs.length+ys.length)*P.bytesOf e≤140737488355328→b.xs.length+ys.length≤140737488355328 →
   Eff P π C nt o a w ⟨setE st.env d (.own (1 :: d :: π)),setH (delH st.heap nm) (1 :: d :: π) ⟨false,b.tys,b.xs++ys⟩⟩):=by
 obtain ⟨zv,i,_,hi,hzero,hz,hsz,hby,_⟩:=zeroOK_spec hok C
 obtain ⟨ht,_⟩:=elemT_spec he
 obtain ⟨av,c,us,hyu,⟨_,hF⟩,hus⟩:=elems_sound hs (opA_sound hs y) hy
 have hF:=hF hyF
 have ea:args.map a.eval=#[a.eval x,.slice av ys.length c]:=by apply Array.ext';simp [hargs,hyu]
 have et:argTypes=#[t,t]:=by apply Array.ext';simp [hts]
 have exec:∀ {u:Value} {w':World},(Builtin.append_ #[t,t] o.type #[a.eval x,.slice av ys.length c]).run P w = .ok u w'→(execOp a.eval o).run P w = .ok (.value u) w':=by
  intro u w' h
  unfold execOp
  simp only [hop]
  unfold resolve
  simp only [pure_bind]
  unfold invoke
  simp only
  rw [ea,et]
  exact run_v h
 have hlen:us.length=ys.length*P.cellsOf e:=by rw [hF.len,htl]
 have zsz:∀ n,(Builtin.zeroCells zv.cells n).size=n*P.cellsOf e:=fun n=>by rw [size_zeroCells,hz]
 have fromNil:∀ (s:St),Sim C nt s a w→cleanS (d :: π) s=true→a.eval x = .slice none 0 0→ys.length*P.bytesOf e≤140737488355328→ys.length≤140737488355328 →
   Eff P π C nt o a w ⟨setE s.env d (.own (1 :: d :: π)),setH s.heap (1 :: d :: π) ⟨false,tys,ys⟩⟩:=by
  intro s hs' hq' hx hb1 hb2
  by_cases h0:ys.length=0
  ·have:ys=[]:=List.eq_nil_of_length_eq_zero h0
   subst this
   refine slice_none hd ho hs' hq' (exec ?_)
   rw [hx]
   exact run_append_zero ht hi (Nat.le_refl 0)
  ·have hpos:0<us.length:=by rw [hlen];exact Nat.mul_pos (by omega) (by omega)
   obtain ⟨ad,rfl,hcell⟩:=hus hpos
   have hr:=run_append_nil (P:=P) w t o.type e i zv ht hi hzero ad ys.length c us (by rw [hsz];exact hlen) hcell (by omega) (by omega) (by rw [hby];omega)
   have hge:=grownCap_ge w ys.length 0 e
   refine slice_new (us:=us) (cap:=grownCap w ys.length 0 e) (w1:=w.drew) hd ho hs' hq' hF (by unfold maxLen;omega) hge ?_ ?_ ⟨rfl,rfl,rfl,Nat.le_refl _,fun _ _ _=>rfl⟩ rfl (exec (by rw [hx];exact hr))
   ·rw [Array.size_append,List.size_toArray,zsz,hlen,htl,← Nat.add_mul]
    exact Nat.mul_le_mul_right _ (by omega)
   ·intro k u hk
    rw [Array.getElem?_append_left (by simpa using (List.getElem?_eq_some_iff.1 hk).1)]
    simpa using hk
 refine ⟨fun hx hb1 hb2=>?_,fun nm b hx hb hbox htys hb1 hb2=>?_⟩
 ·have hxv:=opA_sound hs x
  rw [hx] at hxv
  refine fromNil st hs hq ?_ hb1 hb2
  generalize a.eval x=u at hxv
  cases hxv
  rfl
 ·subst htys
  have hxv:=opA_sound hs x
  rw [hx] at hxv
  have hB:=hs.blk nm b hb
  have hBl:=hB.len
  have hBw:=hB.width hbox
  have hs1:Sim C nt ⟨st.env,delH st.heap nm⟩ a w:=hs.withH (hs.toHSim.del nm) hs.env
  have hq1:cleanS (d :: π) ⟨st.env,delH st.heap nm⟩=true:=by
   unfold cleanS at hq ⊢
   rw [Bool.and_eq_true] at hq ⊢
   exact ⟨hq.1,cleanH_del hq.2 nm⟩
  obtain ⟨av',c',vs,hxe,⟨_,hG⟩,hvs⟩:=elems_sound hs hxv (show elemsA st.heap (.own nm)=some (b.tys,b.xs) by simp [elemsA,hb,hbox])
  have hG:=hG rfl
  generalize hxu:a.eval x=u at hxv
  cases hxv with
  | ownNil _ hz0 =>
   have hx0:b.xs=[]:=List.eq_nil_of_length_eq_zero (by omega)
   have:=fromNil _ hs1 hq1 hxu (by rw [hx0] at hb1;simpa using hb1) (by rw [hx0] at hb2;simpa using hb2)
   rw [hx0]
   exact this
  | own _ cap hr h1 h2 =>
   obtain ⟨r1,r2,r3,r4⟩:=hB.room hr
   have away:∀ n b1,getH (delH st.heap nm) n=some b1→C.real n=true→(C.loc n).1 ≠ (C.loc nm).1:=fun n b1 hn hrn=>by
    rw [getH_delH] at hn
    split at hn
    ·cases hn
    ·rename_i hne
     exact hs.apart n b1 nm b hn hb hrn hr (fun e=>hne e.symm)
   have amem:(∀ z v,C.mem z=some v→z.block ≠ (C.loc nm).1)∧¬ C.fr (C.loc nm).1:=⟨fun z v hz e=>(hs.mem z v hz).2.2 nm b hb hr e.symm,fun hf=>(hs.frame _ hf).2.2 nm b hb hr rfl⟩
   have hA0:C.at nm 0 0=⟨(C.loc nm).1,(C.loc nm).2,none⟩:=by unfold Ctx.at at_;simp
   have hvlen:vs.length=b.xs.length*P.cellsOf e:=by rw [hG.len,htl]
   have over:b.xs.length+ys.length≤cap→(execOp a.eval o).run P w = .ok (.value (.slice (some (C.at nm 0 0)) (C.len nm+ys.length) cap)) (w.setCells (C.loc nm).1 ((C.loc nm).2+b.xs.length*C.width nm) us) →
     Eff P π C nt o a w ⟨setE st.env d (.own (1 :: d :: π)),setH (delH st.heap nm) (1 :: d :: π) ⟨false,b.tys,b.xs++ys⟩⟩:=by
    intro hfit hrun
    have hdat:(C.set (1 :: d :: π) { C.dat nm with len:=(b.xs++ys).length }).dat (1 :: d :: π)={ C.dat nm with len:=(b.xs++ys).length }:=Ctx.set_dat _ _ _
    have hblk:BlkR (C.set (1 :: d :: π) { C.dat nm with len:=(b.xs++ys).length }) (w.setCells (C.loc nm).1 ((C.loc nm).2+b.xs.length*C.width nm) us) (1 :: d :: π) ⟨false,b.tys,b.xs++ys⟩:=by
     have hkle:(b.xs.length+ys.length)*C.width nm≤C.room nm*C.width nm:=Nat.mul_le_mul_right _ (by omega)
     have huw:us.length=ys.length*C.width nm:=by rw [hF.len,hBw]
     rw [Nat.add_mul] at hkle
     refine hB.written hr hdat rfl (by omega) (fun _=>hBw) (by rw [List.length_append];unfold maxLen;omega) (by simp;omega) (fun h=>by cases h) ?_
     intro k z hz'
     by_cases hk:k<b.xs.length
     ·rw [List.getElem?_append_left hk] at hz'
      obtain ⟨g1,g2⟩:=hB.cells k z hz'
      refine ⟨g1,fun j cc hj=>?_⟩
      obtain ⟨u,g3,g4⟩:=g2 j cc hj
      have hjw:j<C.width nm:=by rw [← g1];exact (List.getElem?_eq_some_iff.1 hj).1
      have hle:(k+1)*C.width nm≤b.xs.length*C.width nm:=Nat.mul_le_mul_right _ hk
      rw [Nat.add_mul,Nat.one_mul] at hle
      refine ⟨u,by rw [if_neg (by omega)];exact g3,?_⟩
      unfold cellR at g4 ⊢
      rw [hbox] at g4
      exact g4
     ·rw [List.getElem?_append_right (by omega)] at hz'
      obtain ⟨g1,g2⟩:=hF.cells _ z hz'
      refine ⟨by rw [hBw];exact g1,fun j cc hj=>?_⟩
      obtain ⟨u,ct,g3,g4,g5⟩:=g2 j cc hj
      have hlt:=(List.getElem?_eq_some_iff.1 g3).1
      rw [← hBw] at g3 hlt
      have e1:k*C.width nm=(k - b.xs.length)*C.width nm+b.xs.length*C.width nm:=by rw [← Nat.add_mul,Nat.sub_add_cancel (by omega)]
      refine ⟨u,?_,g5.oneCell',?_⟩
      ·rw [if_pos (by omega),← g3]
       congr 1
       omega
      ·simp only [Bool.false_eq_true,if_false]
       exact ⟨ct,g4,g5⟩
    refine slice_over (D:={ C.dat nm with len:=(b.xs++ys).length }) hd ho hs1 hq1 (grownBy_setCells w (C.loc nm).1 ((C.loc nm).2+b.xs.length*C.width nm) us) (fun k hk=>by
      obtain rfl:=Option.some.inj hk
      exact ⟨r1,fun n b1=>away n b1,amem⟩) hblk (fun _=>⟨fun n b1=>away n b1,amem⟩) ?_ hrun
    have e1:C.at nm 0 0=(C.set (1 :: d :: π) { C.dat nm with len:=(b.xs++ys).length }).at (1 :: d :: π) 0 0:=by
     unfold Ctx.at Ctx.loc Ctx.width
     rw [hdat]
    have e2:C.len nm+ys.length=(C.set (1 :: d :: π) { C.dat nm with len:=(b.xs++ys).length }).len (1 :: d :: π):=by
     unfold Ctx.len
     rw [hdat]
     simp only [List.length_append]
     have:(C.dat nm).len=b.xs.length:=hBl
     omega
    rw [e1,e2]
    refine .own _ cap ?_ ?_ ?_
    ·unfold Ctx.real;rw [hdat];exact hr
    ·rw [← e2];omega
    ·unfold Ctx.room;rw [hdat];exact h2
   by_cases h0:ys.length=0
   ·have hy0:us=[]:=List.eq_nil_of_length_eq_zero (by rw [hlen,h0];simp)
    refine over (by omega) (exec ?_)
    rw [hxu,hy0,h0,Nat.add_zero]
    have:=run_append_zero (P:=P) (w:=w) (ty:=o.type) (base:=some (C.at nm 0 0)) (av:=av) (n:=C.len nm) (cap:=cap) (c:=c) ht hi h1
    exact this
   ·have hpos:0<us.length:=by rw [hlen];exact Nat.mul_pos (by omega) (by omega)
    obtain ⟨ad,rfl,hcell⟩:=hus hpos
    by_cases hfit:b.xs.length+ys.length≤cap
    ·refine over hfit (exec ?_)
     rw [hxu]
     have hkle:(b.xs.length+ys.length)*C.width nm≤C.room nm*C.width nm:=Nat.mul_le_mul_right _ (by omega)
     have huw:us.length=ys.length*C.width nm:=by rw [hF.len,hBw]
     rw [Nat.add_mul] at hkle
     refine run_append_in ht hi (by rw [hsz];exact hlen) hcell (by omega) ?_
     rw [hA0,add_at,hBl,hsz,← htl,← hBw]
     have:=run_storeCells_cells (P:=P) (C.loc nm).1 ((C.loc nm).2+b.xs.length*C.width nm) us 0 w (fun j hj=>by
       have:=(r4 (b.xs.length*C.width nm+j) (by omega)).1
       rwa [show (C.loc nm).2+(b.xs.length*C.width nm+j)=(C.loc nm).2+b.xs.length*C.width nm+0+j by omega] at this)
      (fun j hj=>by
       have:=(r4 (b.xs.length*C.width nm+j) (by omega)).2
       rwa [show (C.loc nm).2+(b.xs.length*C.width nm+j)=(C.loc nm).2+b.xs.length*C.width nm+0+j by omega] at this) hF.one
     exact this
    ·
     have hold:∀ (j:Nat) (v:Value),vs[j]?=some v→w.cell? ((C.at nm 0 0).add j)=some v:=by
      intro j v hj
      obtain ⟨ad',e1,e2⟩:=hvs (by have:=(List.getElem?_eq_some_iff.1 hj).1;omega)
      rw [hxu] at hxe
      simp only [Value.slice.injEq] at hxe
      rw [e1] at hxe
      have:=Option.some.inj hxe.1
      rw [this]
      exact e2 j v hj
     have hr':=run_append_grow (P:=P) w t o.type e i zv ht hi hzero (C.at nm 0 0) b.xs.length cap vs (by rw [hsz];exact hvlen) hold ad ys.length c us (by rw [hsz];exact hlen) hcell (by omega) (by omega)
      (growslice_fits (by omega) (by rw [hby];exact hb1))
     have hge:=grownCap_ge w (b.xs.length+ys.length) cap e
     refine slice_new (us:=vs++us) (cap:=grownCap w (b.xs.length+ys.length) cap e) (w1:=w.drew) hd ho hs1 hq1 (hG.append hF) (by rw [List.length_append];unfold maxLen;omega) (by rw [List.length_append];exact hge) ?_ ?_ ⟨rfl,rfl,rfl,Nat.le_refl _,fun _ _ _=>rfl⟩ rfl (exec (by rw [hxu,hBl,List.length_append];exact hr'))
     ·rw [Array.size_append,Array.size_append,List.size_toArray,List.size_toArray,zsz,hlen,hvlen,htl,← Nat.add_mul,← Nat.add_mul]
      exact Nat.mul_le_mul_right _ (by omega)
     ·intro k u hk
      rw [Array.getElem?_append_left (by have:=(List.getElem?_eq_some_iff.1 hk).1;simpa using this)]
      simpa using hk
end
end Go.Proofs.VE
