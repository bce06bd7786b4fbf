import Derived.Test.YtcondihilccdpaaDoorVEk
namespace Go.Proofs.VE
open Go
section
variable {P:Program} {C C':Ctx} {nt:Nat} {st:St} {a:Act} {w w':World}
theorem zeroOK_spec {e:TypeId} (h:zeroOK P e=true) (C:Ctx):∃ zv i,zeroA P e=some (ofVal zv)∧P.info? e=some i∧i.zero=some zv∧zv.cells.size=P.cellsOf e∧i.size=P.cellsOf e∧i.bytes=P.bytesOf e∧CellsR C (ofVal zv).cells zv.cells:=by
 unfold zeroOK at h
 split at h
 ·rename_i z hz
  rw [Bool.and_eq_true] at h
  obtain ⟨zv,i,rfl,hi,hzero⟩:=zero_spec hz
  have hc:=okV_cells (ofVal_sound (C:=C) zv) h.1
  refine ⟨zv,i,hz,hi,hzero,?_,?_,?_,hc⟩
  ·rw [← hc.size];exact Nat.eq_of_beq_eq_true h.2
  ·simp [Program.cellsOf,hi]
  ·simp [Program.bytesOf,hi]
 ·cases h
theorem made_get (z:Array Value) (n k:Nat) (h:k<n):(madeCells z n)[k]?=some (z[k % z.size]!):=by
 unfold madeCells
 simp [h]
theorem make_eff [Glob] {o:Oper} {d:Nat} {π:Nm} {t e:TypeId} {lo co:Operand} {l c:Int} {z:AV} (hd:d<nt) (ho:o.dst=some d) (hop:o.op = .makeSlice t lo co) (hs:Sim C nt st a w) (he:elemT P t=some e)
  (hl:intOf? (opA st.env lo)=some l) (hc:intOf? (opA st.env co)=some c) (hz:(zeroA P e).bind (zfV (ctsT P 6 e))=some z) (hq:cleanS (d :: π) st=true) (hok:zeroOK P e=true)
  (hlen:(ctsT P 6 e).length=P.cellsOf e) (h0:0≤l) (hlc:l≤c) (hb:c*P.bytesOf e≤140737488355328) (h63:c≤140737488355328) :
  Eff P π C nt o a w ⟨setE st.env d (.own (1 :: d :: π)),setH st.heap (1 :: d :: π) ⟨false,ctsT P 6 e,List.replicate l.toNat z⟩⟩:=by
 obtain ⟨zv,i,h1,hi,hzero,h2,h3,h4,hcells⟩:=zeroOK_spec hok C
 rw [h1] at hz
 obtain ⟨zf0,zf1,zf2⟩:=zfV_sound (mem:=C.memF) (ofVal_sound (C:=C) zv) hz
 obtain ⟨kl,hkl⟩:=intOf_sound (opA_sound hs lo) hl
 obtain ⟨kc,hkc⟩:=intOf_sound (opA_sound hs co) hc
 obtain ⟨ht,_⟩:=elemT_spec he
 have hrun:=run_make (P:=P) w t e i zv ht hi hzero kl kc l c h0 hlc (by rw [h4,Int.mul_comm];omega) (by omega)
 have hlc':l.toNat≤c.toNat:=by omega
 have hzl:z.cells.length=P.cellsOf e:=by rw [zf0,hlen]
 have hmul:l.toNat*P.cellsOf e≤c.toNat*P.cellsOf e:=Nat.mul_le_mul_right _ hlc'
 refine slice_new (tys:=ctsT P 6 e) (us:=(madeCells zv.cells (l.toNat*P.cellsOf e)).toList) (cs:=madeCells zv.cells (c.toNat*i.size)) (e:=e) (cap:=c.toNat) (w1:=w) hd ho hs hq ⟨by simp [size_madeCells,hlen],?_⟩ (by rw [List.length_replicate];unfold maxLen;omega) (by rw [List.length_replicate];exact hlc') (by rw [size_madeCells,hlen,h3];exact Nat.le_refl _) ?_ ⟨rfl,rfl,rfl,Nat.le_refl _,fun _ _ _=>rfl⟩ rfl ?_
 ·intro k x hx
  have hk:k<l.toNat:=by have:=(List.getElem?_eq_some_iff.1 hx).1;simpa using this
  have hx':x=z:=by
   have:=List.mem_of_getElem? hx
   exact (List.mem_replicate.1 this).2
  subst hx'
  refine ⟨by rw [hlen];exact hzl,fun j cc hj=>?_⟩
  have hjl:j<P.cellsOf e:=by rw [← hzl];exact (List.getElem?_eq_some_iff.1 hj).1
  have hle:(k+1)*P.cellsOf e≤l.toNat*P.cellsOf e:=Nat.mul_le_mul_right _ hk
  rw [Nat.add_mul,Nat.one_mul] at hle
  have htj:(ctsT P 6 e)[j]?=some ((ctsT P 6 e)[j]'(by omega)):=List.getElem?_eq_getElem (by omega)
  have huj:zv.cells[j]?=some (zv.cells[j]'(by omega)):=Array.getElem?_eq_getElem (by omega)
  refine ⟨zv.cells[j]'(by omega),_,?_,htj,zf2 j _ cc _ htj hj huj⟩
  rw [hlen,Array.getElem?_toList,made_get _ _ _ (by omega)]
  have:(k*P.cellsOf e+j) % zv.cells.size=j:=by rw [h2,Nat.mul_comm,Nat.mul_add_mod];exact Nat.mod_eq_of_lt hjl
  rw [this]
  simp [h2,hjl]
 ·intro k u hk
  rw [Array.getElem?_toList] at hk
  have hlt:k<l.toNat*P.cellsOf e:=by have:=(Array.getElem?_eq_some_iff.1 hk).1;rwa [size_madeCells] at this
  rw [made_get _ _ _ hlt] at hk
  rw [made_get _ _ _ (by rw [h3];omega)]
  exact hk
 ·unfold execOp
  simp only [hop,hkl,hkc,List.length_replicate]
  exact run_v hrun
theorem fill_range {size:Nat}:∀ (vs:List Value) (k:Nat) (cs:Array Value),(∀ v ∈ vs,v.cells.size=size)→(k+vs.length)*size≤cs.size →
  ∃ r,Instr.fill (fun i=>some (i*size,size)) cs ((vs.zipIdx k).map fun p=>(p.2,p.1))=some r∧r.size=cs.size∧(∀ p,p<k*size→r[p]?=cs[p]?) ∧
   ∀ (i:Nat) (v:Value),vs[i]?=some v→∀ j,j<size→r[(k+i)*size+j]?=v.cells[j]?
 | [],k,cs,_,_=>⟨cs,rfl,rfl,fun _ _=>rfl,fun i v h=>by simp at h⟩
 | v :: vs,k,cs,hv,hc=>by
  have hvs:=hv v List.mem_cons_self
  have e:(v.cells.zipIdx.foldl (fun cs (c,j)=>cs.setIfInBounds (k*size+j) c) cs)=((v.cells.toList.zipIdx 0).foldl (fun cs (x:Value × Nat)=>cs.setIfInBounds (k*size+x.2) x.1) cs):=by
   rw [← Array.foldl_toList,Array.toList_zipIdx]
  obtain ⟨g1,g2⟩:=Go.Great.foldl_set (k*size) v.cells.toList 0 cs
  rw [← e] at g1 g2
  have hle:(k+1)*size≤(k+(v :: vs).length)*size:=Nat.mul_le_mul_right _ (by simp)
  rw [Nat.add_mul,Nat.one_mul] at hle
  obtain ⟨r,h1,h2,h3,h4⟩:=fill_range vs (k+1) (v.cells.zipIdx.foldl (fun cs (c,j)=>cs.setIfInBounds (k*size+j) c) cs) (fun u hu=>hv u (List.mem_cons_of_mem _ hu))
   (by rw [g1];simp only [List.length_cons] at hc;rw [show k+1+vs.length=k+(vs.length+1) by omega];exact hc)
  refine ⟨r,?_,by rw [h2,g1],fun p hp=>?_,fun i u hu j hj=>?_⟩
  ·simp only [List.zipIdx_cons,List.map_cons]
   unfold Instr.fill
   simp only
   rw [if_neg (by simp;omega)]
   exact h1
  ·rw [h3 p (by rw [Nat.add_mul];omega),g2 p]
   rw [if_neg (by omega)]
  ·cases i with
   | zero =>
    simp at hu
    subst hu
    rw [Nat.add_zero,h3 _ (by rw [Nat.add_mul];omega),g2]
    simp only [Nat.add_zero,Array.length_toList]
    rw [if_pos (by omega)]
    rw [show k*size+j - k*size=j by omega]
    simp
   | succ i =>
    rw [show k+(i+1)=k+1+i by omega]
    exact h4 i u (by simpa using hu) j hj
theorem parts_zip {α β:Type} (f:α→β):∀ (l:List (Nat × α)) (k:Nat),l.map (·.1)=List.range' k l.length→l.map (fun p=>(p.1,f p.2))=((l.map fun p=>f p.2).zipIdx k).map fun p=>(p.2,p.1)
 | [],_,_=>rfl
 | (i,x) :: r,k,h=>by
  simp only [List.map_cons,List.length_cons,List.range'_succ,List.cons.injEq] at h
  simp only [List.map_cons,List.zipIdx_cons]
  rw [parts_zip f r (k+1) h.2,h.1]
theorem run_buildSlice' {t e:TypeId} {n:Nat} {parts:Array (Nat × Value)} {cells:Array Value} {ie:TypeInfo} {z:Value}
  (hu:P.underlying t=some (.slice e)) (hie:P.info? e=some ie) (hz:ie.zero=some z) (hsmall:n*ie.size≤16777216)
  (h:Instr.fill (fun i=>some (i*ie.size,ie.size)) ((Array.range (n*ie.size)).map (z.cells[· % z.cells.size]!)) parts.toList=some cells) :
  (Instr.buildSlice t n parts).run P w = .ok (.slice (some ⟨w.heap.size,0,none⟩) n n) (w.alloc (.cells cells e)):=by
 by_cases h0:n*ie.size=0
 ·rw [h0] at h
  simp only [Array.range_zero',Array.map_empty] at h
  unfold Instr.buildSlice
  rw [run_bind' (run_underlying hu)]
  simp only
  rw [run_bind' (x:=ie.size) (w':=w) (by unfold sizeOf;rw [run_bind' (run_typeInfo hie)];rfl)]
  rw [h0]
  have e0:∀ f:Nat→Value,Array.map f (Array.range 0)=#[]:=fun f=>by simp
  simp [newRow]
  rw [e0,h]
  rfl
 ·exact run_buildSlice w t e n parts cells ie z hu hie hz (by omega) h0 h
theorem build_eff [Glob] {o:Oper} {d:Nat} {π:Nm} {t e:TypeId} {n:Nat} {parts:Array (Nat × Operand)} {xs:List AV} (hd:d<nt) (ho:o.dst=some d) (hop:o.op = .buildSlice t n parts) (hs:Sim C nt st a w) (he:elemT P t=some e)
  (hq:cleanS (d :: π) st=true) (hn:parts.size=n) (hn24:n≤16777216) (hix:parts.toList.map (·.1)=List.range n) (hsmall:n*P.cellsOf e≤16777216) (hlen:(ctsT P 6 e).length=P.cellsOf e) (hok:zeroOK P e=true)
  (hxl:xs.length=(parts.toList.map fun p=>a.eval p.2).length)
  (hp:∀ (k:Nat) (y:AV) (u:Value),xs[k]?=some y→(parts.toList.map fun p=>a.eval p.2)[k]?=some u→y.cells.length=(ctsT P 6 e).length∧u.cells.size=(ctsT P 6 e).length ∧
   ∀ (j:Nat) (t:CT) (c:AV) (x:Value),(ctsT P 6 e)[j]?=some t→y.cells[j]?=some c→u.cells[j]?=some x→VC C.memF t c x) :
  Eff P π C nt o a w ⟨setE st.env d (.own (1 :: d :: π)),setH st.heap (1 :: d :: π) ⟨false,ctsT P 6 e,xs⟩⟩:=by
 obtain ⟨zv,i,h1,hi,hzero,h2,h3,h4,hcells⟩:=zeroOK_spec hok C
 obtain ⟨ht,_⟩:=elemT_spec he
 have hnl:parts.toList.length=n:=by simpa using hn
 have hxn:xs.length=n:=by rw [hxl,List.length_map,hnl]
 have hcs:∀ v ∈ parts.toList.map fun p=>a.eval p.2,v.cells.size=P.cellsOf e:=fun v hm=>by
  obtain ⟨k,hk,hv⟩:=List.getElem_of_mem hm
  have:=(hp k (xs[k]'(by rw [hxl];exact hk)) v (List.getElem?_eq_getElem _) (by rw [List.getElem?_eq_getElem hk,hv])).2.1
  rw [this,hlen]
 obtain ⟨r,g1,g2,_,g4⟩:=fill_range (size:=P.cellsOf e) (parts.toList.map fun p=>a.eval p.2) 0 ((Array.range (n*P.cellsOf e)).map (zv.cells[· % zv.cells.size]!)) hcs (by simp [hnl])
 simp only [Array.size_map,Array.size_range] at g2
 have hzip:=parts_zip a.eval parts.toList 0 (by rw [hnl,← List.range_eq_range'];exact hix)
 rw [← hzip] at g1
 have hrun:=run_buildSlice' (P:=P) (w:=w) (parts:=parts.map fun (i,x)=>(i,a.eval x)) ht hi hzero (by rw [h3];exact hsmall) (by
  rw [h3,Array.toList_map]
  exact g1)
 refine slice_new (tys:=ctsT P 6 e) (us:=r.toList) (cs:=r) (e:=e) (cap:=n) (w1:=w) hd ho hs hq ⟨?_,?_⟩ (by rw [hxn];unfold maxLen;omega) (by omega) (by rw [hlen,g2];exact Nat.le_refl _) (fun k u hk=>by simpa using hk) ⟨rfl,rfl,rfl,Nat.le_refl _,fun _ _ _=>rfl⟩ rfl ?_
 ·simp [g2,hxn,hlen]
 ·intro k x hx
  have hk:k<xs.length:=(List.getElem?_eq_some_iff.1 hx).1
  have hk':k<(parts.toList.map fun p=>a.eval p.2).length:=by rw [← hxl];exact hk
  obtain ⟨v,hv⟩:∃ v,(parts.toList.map fun p=>a.eval p.2)[k]?=some v:=⟨_,List.getElem?_eq_getElem hk'⟩
  obtain ⟨q1,q2,q3⟩:=hp k x v hx hv
  refine ⟨q1,fun j c hj=>?_⟩
  have hjl:j<(ctsT P 6 e).length:=by rw [← q1];exact (List.getElem?_eq_some_iff.1 hj).1
  have htj:(ctsT P 6 e)[j]?=some (ctsT P 6 e)[j]:=List.getElem?_eq_getElem hjl
  obtain ⟨x0,huj⟩:∃ x0,v.cells[j]?=some x0:=⟨_,Array.getElem?_eq_getElem (by rw [q2];exact hjl)⟩
  refine ⟨x0,_,?_,htj,q3 j _ c _ htj hj huj⟩
  have:=g4 k v hv j (by rw [← hlen];exact hjl)
  rw [Nat.zero_add] at this
  rw [hlen,Array.getElem?_toList,this]
  exact huj
 ·unfold execOp
  simp only [hop,hxn]
  exact run_v hrun
theorem clear_eff [Glob] {o:Oper} {π:Nm} {x:Operand} {args:Array Operand} {argTypes:Array TypeId} {t e:TypeId} {nm:Nm} {lo n:Nat} {b:Blk} {z:AV} (hd:∀ d,o.dst=some d→d<nt)
  (hop:o.op = .call { callee := .builtin .clear,args,argTypes }) (hargs:args.toList=[x]) (hts:argTypes.toList=[t]) (hs:Sim C nt st a w) (he:elemT P t=some e) (hx:opA st.env x = .sub nm lo n) (hb:getH st.heap nm=some b)
  (hbox:b.box=false) (hty:b.tys=ctsT P 6 e) (hlen:(ctsT P 6 e).length=P.cellsOf e) (hok:zeroOK P e=true) (hz:(zeroA P e).bind (zfV (ctsT P 6 e))=some z) :
  Eff P π C nt o a w (St.set ⟨st.env,setH st.heap nm ⟨false,b.tys,b.xs.take lo++List.replicate n z++b.xs.drop (lo+n)⟩⟩ o.dst (.tup [])):=by
 obtain ⟨zv,i,h1,hi,hzero,h2,h3,h4,hcells⟩:=zeroOK_spec hok C
 rw [h1] at hz
 obtain ⟨zf0,zf1,zf2⟩:=zfV_sound (mem:=C.memF) (ofVal_sound (C:=C) zv) hz
 obtain ⟨ht,_⟩:=elemT_spec he
 have hv:=opA_sound hs x
 rw [hx] at hv
 have hB:=hs.blk nm b hb
 have hBl:=hB.len
 have hw:=hB.width hbox
 have eb:b=⟨false,b.tys,b.xs⟩:=by rw [← hbox]
 have htup:VR C (.tup []) (.tuple #[]) := .tup [] [] rfl (fun i c v h=>by simp at h)
 have et:argTypes=#[t]:=by apply Array.ext';simp [hts]
 generalize hau:a.eval x=u at hv
 have ea:args.map a.eval=#[u]:=by apply Array.ext';simp [hargs,hau]
 have exec:∀ {w':World},(Builtin.clear_ #[t] o.type #[u]).run P w = .ok (.tuple #[]) w'→(execOp a.eval o).run P w = .ok (.value (.tuple #[])) w':=by
  intro w' h
  unfold execOp
  simp only [hop]
  unfold resolve
  simp only [pure_bind]
  unfold invoke
  simp only
  rw [ea,et]
  exact run_v h
 cases hv with
 | sub _ _ _ cap av c1 c2 c3 c4 =>
  by_cases h0:n=0
  ·subst h0
   have hrun:(Builtin.clear_ #[t] o.type #[.slice av 0 cap]).run P w = .ok (.tuple #[]) w:=by
    cases av <;> simp [Builtin.clear_,run_underlying ht]
   have hsame:(⟨false,b.tys,b.xs.take lo++List.replicate 0 z++b.xs.drop (lo+0)⟩:Blk)=b:=by
    conv=>rhs;rw [eb]
    simp
   rw [hsame]
   refine ⟨C,.value (.tuple #[]),.tuple #[],w,exec hrun,.inl rfl,Agree.refl _ _,?_⟩
   refine Sim.puts ?_ htup hd
   have hset:∀ nm' b',getH (setH st.heap nm b) nm'=some b'→getH st.heap nm'=some b':=fun nm' b' h=>by
    rw [getH_setH] at h
    split at h
    ·rename_i e;subst e;rw [hb];exact h
    ·exact h
   exact hs.withH ⟨fun n b1 h=>hs.blk n b1 (hset n b1 h),fun n b1 n' b2 g1 g2=>hs.apart n b1 n' b2 (hset n b1 g1) (hset n' b2 g2),fun z v hz=>⟨(hs.mem z v hz).1,(hs.mem z v hz).2.1,fun n b1 h=>(hs.mem z v hz).2.2 n b1 (hset n b1 h)⟩,hs.grown,hs.kept,hs.blk0,hs.own,hs.glob,fun k hk=>⟨(hs.frame k hk).1,(hs.frame k hk).2.1,fun n b1 h=>(hs.frame k hk).2.2 n b1 (hset n b1 h)⟩⟩ hs.env
  ·obtain ⟨hr,rfl⟩:=c2 (by omega)
   obtain ⟨r1,r2,r3,r4⟩:=hB.room hr
   rw [hBl] at c4
   have hus:(Builtin.zeroCells zv.cells n).size=n*P.cellsOf e:=by rw [size_zeroCells,h2]
   obtain ⟨us,hus'⟩:∃ us,us=(Builtin.zeroCells zv.cells n).toList:=⟨_,rfl⟩
   have hul:us.length=n*C.width nm:=by rw [hus',Array.length_toList,hus,hw,hty,hlen]
   have hget:∀ k,k<n*P.cellsOf e→us[k]?=some (zv.cells[k % P.cellsOf e]!):=fun k hk=>by
    rw [hus',Array.getElem?_toList]
    simp [Builtin.zeroCells,h2,hk]
   have hF:Flat C.memF b.tys (List.replicate n z) us:=by
    refine ⟨by rw [hul,List.length_replicate,hw],fun k y hy=>?_⟩
    have hk:k<n:=by have:=(List.getElem?_eq_some_iff.1 hy).1;simpa using this
    obtain rfl:y=z:=(List.mem_replicate.1 (List.mem_of_getElem? hy)).2
    rw [hty]
    refine ⟨zf0,fun j c hj=>?_⟩
    have hjl:j<P.cellsOf e:=by rw [← hlen,← zf0];exact (List.getElem?_eq_some_iff.1 hj).1
    have hle:(k+1)*P.cellsOf e≤n*P.cellsOf e:=Nat.mul_le_mul_right _ hk
    rw [Nat.add_mul,Nat.one_mul] at hle
    have htj:(ctsT P 6 e)[j]?=some ((ctsT P 6 e)[j]'(by omega)):=List.getElem?_eq_getElem (by omega)
    have huj:zv.cells[j]?=some (zv.cells[j]'(by omega)):=Array.getElem?_eq_getElem (by omega)
    refine ⟨zv.cells[j]'(by omega),_,?_,htj,zf2 j _ c _ htj hj huj⟩
    rw [hlen,hget _ (by omega),show (k*P.cellsOf e+j) % P.cellsOf e=j by rw [Nat.mul_comm,Nat.mul_add_mod];exact Nat.mod_eq_of_lt hjl]
    simp [h2,hjl]
   have hzl:(b.xs.take lo++List.replicate n z++b.xs.drop (lo+n)).length=b.xs.length:=by simp;omega
   have st1:BlkR C (w.setCells (C.loc nm).1 ((C.loc nm).2+lo*C.width nm) us) nm ⟨false,b.tys,b.xs.take lo++List.replicate n z++b.xs.drop (lo+n)⟩ :=
    (eb ▸ hB:BlkR C w nm ⟨false,b.tys,b.xs⟩).put hr hF (p:=lo) (by rw [List.length_replicate]) (by rw [hzl,← hBl]) rfl rfl (by omega) (by rw [List.length_replicate];omega) (by rw [hzl];exact r3) (by rw [hzl];exact hB.max)
   have hkle:(lo+n)*C.width nm≤C.room nm*C.width nm:=Nat.mul_le_mul_right _ (by omega)
   rw [Nat.add_mul] at hkle
   have hrun:(Builtin.clear_ #[t] o.type #[.slice (some (C.at nm lo 0)) n cap]).run P w = .ok (.tuple #[]) (w.setCells (C.loc nm).1 ((C.loc nm).2+lo*C.width nm) us):=by
    have hat:C.at nm lo 0=⟨(C.loc nm).1,(C.loc nm).2+lo*C.width nm,none⟩:=by unfold Ctx.at at_;simp
    have hst:=run_storeCells_cells (P:=P) (C.loc nm).1 ((C.loc nm).2+lo*C.width nm) us 0 w (fun j hj=>by
      have:=(r4 (lo*C.width nm+j) (by omega)).1
      rwa [show (C.loc nm).2+(lo*C.width nm+j)=(C.loc nm).2+lo*C.width nm+0+j by omega] at this)
     (fun j hj=>by
      have:=(r4 (lo*C.width nm+j) (by omega)).2
      rwa [show (C.loc nm).2+(lo*C.width nm+j)=(C.loc nm).2+lo*C.width nm+0+j by omega] at this) hF.one
    rw [Nat.add_zero] at hst
    have hn1:∃ m,n=m+1:=Nat.exists_eq_succ_of_ne_zero h0
    rw [hat]
    clear hF st1 hget
    obtain ⟨m,hm⟩:=hn1
    rw [hm] at hus' ⊢
    simp [Builtin.clear_,run_underlying ht,run_zero hi hzero,← hus',hst]
   have hdel:=hs.toHSim.del nm
   have away:∀ n b1,getH (delH st.heap nm) n=some b1→C.real n=true→(C.loc n).1 ≠ (C.loc nm).1:=fun n b1 hn hrn=>by
    rw [getH_delH] at hn
    split at hn
    ·cases hn
    ·rename_i hne
     exact hs.apart n b1 nm b hn hb hrn hr (fun e=>hne e.symm)
   have amem:(∀ z v,C.mem z=some v→z.block ≠ (C.loc nm).1)∧¬ C.fr (C.loc nm).1:=⟨fun z v hz e=>(hs.mem z v hz).2.2 nm b hb hr e.symm,fun hf=>(hs.frame _ hf).2.2 nm b hb hr rfl⟩
   have hw1:=hdel.world (grownBy_setCells w (C.loc nm).1 ((C.loc nm).2+lo*C.width nm) us) (fun k hk=>by
    obtain rfl:=Option.some.inj hk
    exact ⟨r1,fun n b1=>away n b1,amem⟩)
   have hw2:=hw1.setBlk st1 fun _=>⟨fun n b1 _ hn hrn=>away n b1 hn hrn,amem⟩
   have hsame:∀ n' b',getH (setH (delH st.heap nm) nm b') n'=getH (setH st.heap nm b') n':=fun n' b'=>by
    rw [getH_setH,getH_setH,getH_delH]
    split <;> rfl
   have hw3:HSim C (setH st.heap nm ⟨false,b.tys,b.xs.take lo++List.replicate n z++b.xs.drop (lo+n)⟩) (w.setCells (C.loc nm).1 ((C.loc nm).2+lo*C.width nm) us) :=
    ⟨fun n b1 hn=>hw2.blk n b1 (by rw [hsame];exact hn),fun n b1 n' b2 g1 g2=>hw2.apart n b1 n' b2 (by rw [hsame];exact g1) (by rw [hsame];exact g2),
     fun z v hz=>⟨(hw2.mem z v hz).1,(hw2.mem z v hz).2.1,fun n b1 hn=>(hw2.mem z v hz).2.2 n b1 (by rw [hsame];exact hn)⟩,hw2.grown,hw2.kept,hw2.blk0,hw2.own,hw2.glob,fun k hk=>⟨(hw2.frame k hk).1,(hw2.frame k hk).2.1,fun n b1 hn=>(hw2.frame k hk).2.2 n b1 (by rw [hsame];exact hn)⟩⟩
   exact ⟨C,.value (.tuple #[]),.tuple #[],_,exec hrun,.inl rfl,Agree.refl _ _,(hs.withH hw3 hs.env).puts htup hd⟩
end
end Go.Proofs.VE
