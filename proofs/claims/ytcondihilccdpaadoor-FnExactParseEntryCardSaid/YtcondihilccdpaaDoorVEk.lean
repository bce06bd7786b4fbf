import Derived.Test.YtcondihilccdpaaDoorVEj
namespace Go.Proofs.VE
open Go
structure Flat (mem:Addr→Option Value) (tys:List CT) (xs:List AV) (us:List Value):Prop where
 len:us.length=xs.length*tys.length
 cells:∀ (i:Nat) (x:AV),xs[i]?=some x→x.cells.length=tys.length∧∀ (j:Nat) (c:AV),x.cells[j]?=some c→∃ u ct,us[i*tys.length+j]?=some u∧tys[j]?=some ct∧VC mem ct c u
theorem Flat.mono {mem mem':Addr→Option Value} (hm:∀ a v,mem a=some v→mem' a=some v) {tys:List CT} {xs:List AV} {us:List Value} (h:Flat mem tys xs us):Flat mem' tys xs us :=
 ⟨h.len,fun i x hx=>⟨(h.cells i x hx).1,fun j c hc=>by obtain ⟨u,ct,g1,g2,g3⟩:=(h.cells i x hx).2 j c hc;exact ⟨u,ct,g1,g2,g3.mono hm⟩⟩⟩
theorem Flat.flat {mem mem':Addr→Option Value} {tys:List CT} {xs:List AV} {us:List Value} (h:Flat mem tys xs us) (hf:tys.all flatCT=true):Flat mem' tys xs us :=
 ⟨h.len,fun i x hx=>⟨(h.cells i x hx).1,fun j c hc=>by
  obtain ⟨u,ct,g1,g2,g3⟩:=(h.cells i x hx).2 j c hc
  rw [List.all_eq_true] at hf
  exact ⟨u,ct,g1,g2,g3.flat (hf ct (List.mem_of_getElem? g2))⟩⟩⟩
theorem Flat.one {mem:Addr→Option Value} {tys:List CT} {xs:List AV} {us:List Value} (h:Flat mem tys xs us):∀ u ∈ us,u.oneCell'=true:=by
 intro u hu
 obtain ⟨k,hk⟩:=List.getElem?_of_mem hu
 have hlt:k<us.length:=(List.getElem?_eq_some_iff.1 hk).1
 rw [h.len] at hlt
 have hp:0<tys.length:=by
  rcases Nat.eq_zero_or_pos tys.length with e|e
  ·rw [e] at hlt;simp at hlt
  ·exact e
 have h1:k / tys.length<xs.length:=Nat.div_lt_of_lt_mul (by rw [Nat.mul_comm];exact hlt)
 have h2:k % tys.length<tys.length:=Nat.mod_lt _ hp
 obtain ⟨h3,h4⟩:=h.cells (k / tys.length) xs[k / tys.length] (List.getElem?_eq_getElem h1)
 obtain ⟨u',ct,h5,_,h7⟩:=h4 (k % tys.length) (xs[k / tys.length].cells[k % tys.length]'(by omega)) (List.getElem?_eq_getElem _)
 rw [Nat.mul_comm,Nat.div_add_mod,hk] at h5
 obtain rfl:=Option.some.inj h5
 exact h7.oneCell'
theorem Flat.append {mem:Addr→Option Value} {tys:List CT} {xs ys:List AV} {us vs:List Value} (h:Flat mem tys xs us) (k:Flat mem tys ys vs):Flat mem tys (xs++ys) (us++vs):=by
 refine ⟨by rw [List.length_append,List.length_append,h.len,k.len,Nat.add_mul],fun i x hx=>?_⟩
 by_cases hi:i<xs.length
 ·rw [List.getElem?_append_left hi] at hx
  obtain ⟨h1,h2⟩:=h.cells i x hx
  refine ⟨h1,fun j c hc=>?_⟩
  obtain ⟨u,ct,h3,h4,h5⟩:=h2 j c hc
  refine ⟨u,ct,?_,h4,h5⟩
  rw [List.getElem?_append_left (List.getElem?_eq_some_iff.1 h3).1]
  exact h3
 ·rw [List.getElem?_append_right (by omega)] at hx
  obtain ⟨h1,h2⟩:=k.cells _ x hx
  refine ⟨h1,fun j c hc=>?_⟩
  obtain ⟨u,ct,h3,h4,h5⟩:=h2 j c hc
  refine ⟨u,ct,?_,h4,h5⟩
  have e:i*tys.length=(i - xs.length)*tys.length+xs.length*tys.length:=by rw [← Nat.add_mul,Nat.sub_add_cancel (by omega)]
  rw [List.getElem?_append_right (by rw [h.len];omega),h.len,← h3]
  congr 1
  omega
section
variable {P:Program} {C C':Ctx} {nt:Nat} {st:St} {a:Act} {w w':World}
theorem elems_sound [Glob] {y:AV} {u:Value} {tys:List CT} {ys:List AV} (hs:Sim C nt st a w) (hy:VR C y u) (h:elemsA st.heap y=some (tys,ys)) :
  ∃ av cap us,u = .slice av ys.length cap∧(Flat C.mem tys ys us∧(elemsF st.heap y=true→Flat C.memF tys ys us))∧(0<us.length→∃ ad,av=some ad∧∀ j v,us[j]?=some v→w.cell? (ad.add j)=some v):=by
 have ofCells:∀ (mem:Addr→Option Value) (b o:Nat) (av:Option Addr) (cap:Nat),u = .slice av ys.length cap→(0<ys.length→av=some ⟨b,o,none⟩) →
   (∀ (i:Nat) (x:AV),ys[i]?=some x→x.cells.length=tys.length∧∀ (j:Nat) (c:AV),x.cells[j]?=some c→∃ v ct,w.cell? ⟨b,o+(i*tys.length+j),none⟩=some v∧tys[j]?=some ct∧VC mem ct c v) →
   ∃ av cap us,u = .slice av ys.length cap∧Flat mem tys ys us∧(0<us.length→∃ ad,av=some ad∧∀ j v,us[j]?=some v→w.cell? (ad.add j)=some v):=by
  intro mem b o av cap hu hav hc
  refine ⟨av,cap,(List.range (ys.length*tys.length)).map fun k=>(w.cell? ⟨b,o+k,none⟩).getD undef,hu,⟨by simp,fun i x hx=>?_⟩,fun hlen=>?_⟩
  ·obtain ⟨h1,h2⟩:=hc i x hx
   refine ⟨h1,fun j c hcj=>?_⟩
   obtain ⟨v,ct,h3,h4,h5⟩:=h2 j c hcj
   have hi:i<ys.length:=(List.getElem?_eq_some_iff.1 hx).1
   have hj:j<tys.length:=(List.getElem?_eq_some_iff.1 h4).1
   have hle:(i+1)*tys.length≤ys.length*tys.length:=Nat.mul_le_mul_right _ hi
   rw [Nat.add_mul,Nat.one_mul] at hle
   refine ⟨v,ct,?_,h4,h5⟩
   rw [List.getElem?_map,List.getElem?_range (by omega)]
   simp only [Option.map_some,h3,Option.getD_some]
  ·simp only [List.length_map,List.length_range] at hlen
   have hy0:0<ys.length:=Nat.pos_of_ne_zero fun e=>by rw [e] at hlen;simp at hlen
   have ht0:0<tys.length:=Nat.pos_of_ne_zero fun e=>by rw [e] at hlen;simp at hlen
   refine ⟨_,hav hy0,fun j v hj=>?_⟩
   rw [List.getElem?_map] at hj
   obtain ⟨k,hk,rfl⟩:=Option.map_eq_some_iff.1 hj
   have hlt:j<ys.length*tys.length:=by have:=(List.getElem?_eq_some_iff.1 hk).1;simpa using this
   rw [List.getElem?_range hlt] at hk
   obtain rfl:=Option.some.inj hk
   rw [add_at]
   have g1:j / tys.length<ys.length:=Nat.div_lt_of_lt_mul (by rw [Nat.mul_comm];exact hlt)
   obtain ⟨g2,g3⟩:=hc (j / tys.length) ys[j / tys.length] (List.getElem?_eq_getElem g1)
   obtain ⟨v,ct,g4,_⟩:=g3 (j % tys.length) (ys[j / tys.length].cells[j % tys.length]'(by rw [g2];exact Nat.mod_lt _ ht0)) (List.getElem?_eq_getElem _)
   rw [Nat.mul_comm,Nat.div_add_mod] at g4
   rw [g4]
   rfl
 have up:(∃ av cap us,u = .slice av ys.length cap∧Flat C.memF tys ys us∧(0<us.length→∃ ad,av=some ad∧∀ j v,us[j]?=some v→w.cell? (ad.add j)=some v)) →
   ∃ av cap us,u = .slice av ys.length cap∧(Flat C.mem tys ys us∧(elemsF st.heap y=true→Flat C.memF tys ys us))∧(0<us.length→∃ ad,av=some ad∧∀ j v,us[j]?=some v→w.cell? (ad.add j)=some v):=by
  rintro ⟨av,cap,us,h1,h2,h3⟩
  exact ⟨av,cap,us,h1,⟨h2.mono fun a v h=>(hs.own a v h).1,fun _=>h2⟩,h3⟩
 have dn:(elemsF st.heap y=true→tys.all flatCT=true∨ys=[])→(∃ av cap us,u = .slice av ys.length cap∧Flat C.mem tys ys us∧(0<us.length→∃ ad,av=some ad∧∀ j v,us[j]?=some v→w.cell? (ad.add j)=some v)) →
   ∃ av cap us,u = .slice av ys.length cap∧(Flat C.mem tys ys us∧(elemsF st.heap y=true→Flat C.memF tys ys us))∧(0<us.length→∃ ad,av=some ad∧∀ j v,us[j]?=some v→w.cell? (ad.add j)=some v):=by
  rintro hf ⟨av,cap,us,h1,h2,h3⟩
  refine ⟨av,cap,us,h1,⟨h2,fun he=>?_⟩,h3⟩
  rcases hf he with hf|rfl
  ·exact h2.flat hf
  ·exact ⟨h2.len,fun i x hx=>by simp at hx⟩
 unfold elemsA at h
 split at h
 ·rename_i nm
  split at h
  ·rename_i b hb
   have B:=hs.blk nm b hb
   cases hbox:b.box with
   | true=>rw [hbox] at h;simp at h
   | false =>
    rw [hbox] at h
    simp only [cond_false,Option.some.injEq,Prod.mk.injEq] at h
    obtain ⟨rfl,rfl⟩:=h
    have hl:=B.len
    have hw:=B.width hbox
    have cells:∀ (i:Nat) (x:AV),b.xs[i]?=some x→x.cells.length=b.tys.length∧∀ (j:Nat) (c:AV),x.cells[j]?=some c→∃ v ct,w.cell? ⟨(C.loc nm).1,(C.loc nm).2+(i*b.tys.length+j),none⟩=some v∧b.tys[j]?=some ct∧VC C.memF ct c v:=fun i x hx=>by
     obtain ⟨h1,h2⟩:=B.cells i x hx
     refine ⟨by rw [← hw];exact h1,fun j c hc=>?_⟩
     obtain ⟨v,h3,_,h5⟩:=h2 j c hc
     rw [hbox] at h5
     simp only [Bool.false_eq_true,if_false] at h5
     obtain ⟨ct,h6,h7⟩:=h5
     refine ⟨v,ct,?_,h6,h7⟩
     unfold Ctx.at at_ at h3
     rw [hw,Nat.add_assoc] at h3
     exact h3
    cases hy with
    | own _ cap hr h1 h2=>exact up <| ofCells C.memF _ _ _ cap (by rw [hl]) (fun _=>by unfold Ctx.at at_;simp) cells
    | ownNil _ hz =>
     rw [hl] at hz
     exact up <| ofCells C.memF (C.loc nm).1 (C.loc nm).2 none 0 (by rw [hz]) (fun h0=>by omega) cells
  ·cases h
 ·rename_i nm o n
  split at h
  ·rename_i b hb
   have B:=hs.blk nm b hb
   cases hbox : !b.box && decide (o+n≤b.xs.length) with
   | false=>rw [hbox] at h;simp at h
   | true =>
    rw [hbox] at h
    simp only [Bool.and_eq_true,Bool.not_eq_true',decide_eq_true_eq] at hbox
    simp only [cond_true,Option.some.injEq,Prod.mk.injEq] at h
    obtain ⟨rfl,rfl⟩:=h
    have hl:=B.len
    have hw:=B.width hbox.1
    have hlen:((b.xs.drop o).take n).length=n:=by simp;omega
    cases hy with
    | sub _ _ _ cap av h1 h2 _ _ =>
     refine up <| ofCells C.memF (C.loc nm).1 ((C.loc nm).2+o*b.tys.length) av cap (by rw [hlen]) (fun h0=>?_) (fun i x hx=>?_)
     ·rw [hlen] at h0
      rw [(h2 h0).2]
      unfold Ctx.at at_
      rw [hw]
      simp
     ·have hx':b.xs[o+i]?=some x:=by
       have hlt:=(List.getElem?_eq_some_iff.1 hx).1
       rw [hlen] at hlt
       rw [List.getElem?_take_of_lt hlt,List.getElem?_drop] at hx
       exact hx
      obtain ⟨g1,g2⟩:=B.cells (o+i) x hx'
      refine ⟨by rw [← hw];exact g1,fun j c hc=>?_⟩
      obtain ⟨v,h3,_,h5⟩:=g2 j c hc
      rw [hbox.1] at h5
      simp only [Bool.false_eq_true,if_false] at h5
      obtain ⟨ct,h6,h7⟩:=h5
      refine ⟨v,ct,?_,h6,h7⟩
      unfold Ctx.at at_ at h3
      rw [hw,Nat.add_mul] at h3
      rw [show (C.loc nm).2+o*b.tys.length+(i*b.tys.length+j)=(C.loc nm).2+(o*b.tys.length+i*b.tys.length)+j by omega]
      exact h3
  ·cases h
 ·rename_i tys' ys'
  simp only [Option.some.injEq,Prod.mk.injEq] at h
  obtain ⟨e1,e2⟩:=h
  subst e1;subst e2
  cases hy with
  | sl _ _ _ hv =>
   cases hv with
   | sl _ _ av cap U hcap hmax hm ha hx hv =>
    by_cases h0:0<ys'.length
    ·obtain ⟨b,o,rfl⟩:=ha h0
     refine dn (fun he => .inl he) <| ofCells C.mem b o _ cap rfl (fun _=>rfl) fun i x hxi=>⟨hx i x hxi,fun j c hc=>?_⟩
     have hi:i<ys'.length:=(List.getElem?_eq_some_iff.1 hxi).1
     have hj:j<tys'.length:=by rw [← hx i x hxi];exact (List.getElem?_eq_some_iff.1 hc).1
     have htj:tys'[j]?=some tys'[j]:=List.getElem?_eq_getElem hj
     obtain ⟨b',o',e,hme⟩:=hm i j hi hj
     simp only [Option.some.injEq,Addr.mk.injEq,and_true] at e
     obtain ⟨rfl,rfl⟩:=e
     refine ⟨U i j,tys'[j],?_,htj,hv i x j _ c hxi htj hc⟩
     have:=(hs.mem _ _ hme).1
     unfold at_ at this
     rw [Nat.add_assoc] at this
     exact this
    ·exact dn (fun he => .inl he) <| ofCells C.mem 0 0 av cap rfl (fun h=>absurd h h0) fun i x hxi=>by
      have hi:i<ys'.length:=(List.getElem?_eq_some_iff.1 hxi).1
      omega
 ·simp only [Option.some.injEq,Prod.mk.injEq] at h
  obtain ⟨e1,e2⟩:=h
  subst e1;subst e2
  cases hy with
  | sle _ _ ad cap=>exact dn (fun _ => .inr rfl) <| ofCells C.mem 0 0 ad cap rfl (fun h=>by simp at h) (fun i x h=>by simp at h)
 ·cases h
theorem slice_new [Glob] {o:Oper} {d:Nat} {π:Nm} {tys:List CT} {xs:List AV} {us:List Value} {cs:Array Value} {e:TypeId} {cap:Nat} (hd:d<nt) (ho:o.dst=some d) (hs:Sim C nt st a w) (hq:cleanS (d :: π) st=true)
  (hf:Flat C.memF tys xs us) (hmax:xs.length≤maxLen) (hcap:xs.length≤cap) (hsz:cap*tys.length≤cs.size) (hcs:∀ (k:Nat) (u:Value),us[k]?=some u→cs[k]?=some u) {w1:World} (hw1:w.grownBy w1 none) (hw1s:w1.heap.size=w.heap.size)
  (hr:(execOp a.eval o).run P w = .ok (.value (.slice (some ⟨w.heap.size,0,none⟩) xs.length cap)) (w1.alloc (.cells cs e))) :
  Eff P π C nt o a w ⟨setE st.env d (.own (1 :: d :: π)),setH st.heap (1 :: d :: π) ⟨false,tys,xs⟩⟩:=by
 have hb:BlkR (C.set (1 :: d :: π) ⟨true,(w1.heap.size,0),tys.length,xs.length,cap⟩) (w1.alloc (.cells cs e)) (1 :: d :: π) ⟨false,tys,xs⟩:=by
  refine newBlk (by rw [Ctx.set_dat]) (by rw [hw1s];exact hs.grown) (fun _=>rfl) (fun h=>by cases h) hmax hcap hsz ?_
  intro i x hx
  obtain ⟨h1,h2⟩:=hf.cells i x hx
  refine ⟨h1,fun j c hj=>?_⟩
  obtain ⟨u,ct,h3,h4,h5⟩:=h2 j c hj
  refine ⟨u,hcs _ u h3,h5.oneCell',?_⟩
  simp only [Bool.false_eq_true,if_false]
  exact ⟨ct,h4,h5⟩
 have hg:w.grownBy (w1.alloc (.cells cs e)) none :=
  ⟨hw1.os,hw1.tape,hw1.output,Nat.le_trans hw1.size (by simp),fun k hk hne=>by rw [heap_alloc_old w1 _ k (by omega)];exact hw1.block k hk hne⟩
 obtain ⟨h1,h2⟩:=hs.new (r:=none) hq (under_new d π) hg (fun k h=>by cases h) hb fun _=>by rw [show (⟨true,(w1.heap.size,0),tys.length,xs.length,cap⟩:Dat).loc.1=w.heap.size from hw1s];exact lt_old hs
 refine ⟨_,_,_,_,hr,.inl rfl,h2.mono fun nm h=>under_isLoc h,?_⟩
 rw [ho]
 refine h1.put ?_ hd
 have e1:(⟨w.heap.size,0,none⟩:Addr)=(C.set (1 :: d :: π) ⟨true,(w1.heap.size,0),tys.length,xs.length,cap⟩).at (1 :: d :: π) 0 0:=by
  unfold Ctx.at Ctx.loc Ctx.width at_
  rw [Ctx.set_dat,hw1s]
  simp
 have e2:xs.length=(C.set (1 :: d :: π) ⟨true,(w1.heap.size,0),tys.length,xs.length,cap⟩).len (1 :: d :: π):=by unfold Ctx.len;rw [Ctx.set_dat]
 rw [e1]
 have:=VR.own (C:=C.set (1 :: d :: π) ⟨true,(w1.heap.size,0),tys.length,xs.length,cap⟩) (1 :: d :: π) cap (by unfold Ctx.real;rw [Ctx.set_dat]) (by rw [← e2];exact hcap) (by unfold Ctx.room;rw [Ctx.set_dat];exact Nat.le_refl _)
 rw [← e2] at this
 exact this
theorem BlkR.put {nm n:Nm} {tys:List CT} {xs ys zs:List AV} {us:List Value} {p:Nat} (hB:BlkR C w nm ⟨false,tys,xs⟩) (hr:C.real nm=true) (hF:Flat C.memF tys ys us) (hz:zs=xs.take p++ys++xs.drop (p+ys.length))
  (hd:C'.dat n={ C.dat nm with len:=zs.length }) (hbase:C'.base=C.base) (hmem:C'.memF=C.memF) (hp:p≤xs.length) (hroom:p+ys.length≤C.room nm) (hroom':zs.length≤C.room nm) (hmax:zs.length≤maxLen) :
  BlkR C' (w.setCells (C.loc nm).1 ((C.loc nm).2+p*C.width nm) us) n ⟨false,tys,zs⟩:=by
 have hw:=hB.width rfl
 have hul:us.length=ys.length*C.width nm:=by rw [hF.len,hw]
 have hkle:(p+ys.length)*C.width nm≤C.room nm*C.width nm:=Nat.mul_le_mul_right _ hroom
 rw [Nat.add_mul] at hkle
 refine hB.written hr hd hbase (by omega) (fun _=>hw) hmax hroom' (fun h=>by cases h) fun i x hx=>?_
 have old:xs[i]?=some x→¬ (p≤i∧i<p+ys.length)→x.cells.length=C.width nm∧∀ j c,x.cells[j]?=some c→∃ u,(if p*C.width nm≤i*C.width nm+j∧i*C.width nm+j<p*C.width nm+us.length then us[i*C.width nm+j - p*C.width nm]?=some u else w.cell? (C.at nm i j)=some u)∧cellR C' ⟨false,tys,zs⟩ j c u:=by
  intro hx hn
  obtain ⟨g1,g2⟩:=hB.cells i x hx
  refine ⟨g1,fun j c hj=>?_⟩
  obtain ⟨u,g3,g4,g5⟩:=g2 j c hj
  have hjw:j<C.width nm:=by rw [← g1];exact (List.getElem?_eq_some_iff.1 hj).1
  refine ⟨u,?_,g4,?_⟩
  ·rw [if_neg]
   ·exact g3
   ·rintro ⟨k1,k2⟩
    apply hn
    constructor
    ·refine Nat.le_of_not_lt fun hlt=>?_
     have:(i+1)*C.width nm≤p*C.width nm:=Nat.mul_le_mul_right _ hlt
     rw [Nat.add_mul,Nat.one_mul] at this
     omega
    ·refine Nat.lt_of_not_le fun hle=>?_
     have:(p+ys.length)*C.width nm≤i*C.width nm:=Nat.mul_le_mul_right _ hle
     rw [Nat.add_mul] at this
     omega
  ·simp only [Bool.false_eq_true,if_false] at g5 ⊢
   rw [hmem]
   exact g5
 rw [hz,List.append_assoc] at hx
 by_cases h1:i<p
 ·rw [List.getElem?_append_left (by rw [List.length_take];omega),List.getElem?_take_of_lt h1] at hx
  exact old hx (by omega)
 ·rw [List.getElem?_append_right (by rw [List.length_take];omega),List.length_take,Nat.min_eq_left hp] at hx
  by_cases h2:i<p+ys.length
  ·rw [List.getElem?_append_left (by omega)] at hx
   obtain ⟨g1,g2⟩:=hF.cells _ x hx
   refine ⟨by rw [hw];exact g1,fun j c hj=>?_⟩
   obtain ⟨u,ct,g3,g4,g5⟩:=g2 j c hj
   have hlt:=(List.getElem?_eq_some_iff.1 g3).1
   rw [← hw] at g3 hlt
   have e1:i*C.width nm=(i - p)*C.width nm+p*C.width nm:=by rw [← Nat.add_mul,Nat.sub_add_cancel (by omega)]
   refine ⟨u,?_,g5.oneCell',?_⟩
   ·rw [if_pos (by omega),← g3]
    congr 1
    omega
   ·simp only [Bool.false_eq_true,if_false]
    rw [hmem]
    exact ⟨ct,g4,g5⟩
  ·rw [List.getElem?_append_right (by omega),List.getElem?_drop,show p+ys.length+(i - p - ys.length)=i by omega] at hx
   exact old hx (by omega)
end
end Go.Proofs.VE
