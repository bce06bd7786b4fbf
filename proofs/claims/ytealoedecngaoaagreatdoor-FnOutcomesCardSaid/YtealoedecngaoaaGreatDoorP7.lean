import Derived.Test.YtealoedecngaoaaGreatDoorP4
import Derived.Lib.RowBridge
import Derived.Shelf.Sort.Plain
import Derived.Shelf.Slices.In.SortNone
namespace Go.Proofs.VE
open Go Go.Sort
def sortL (xs:List AV):List AV:=((xs.map fun x=>fI x 0).mergeSort fun x y=>decide (x≤y)).map (AV.int .i64)
theorem sortL_len (xs:List AV):(sortL xs).length=xs.length:=by simp [sortL,List.length_mergeSort]
def sortM:WModel:=fun args bs =>
 match args,bs with
 | [.own n],[b]=>bif !b.box && nmEq n [1] && ctsEq b.tys [.int .i64] then some (decide (b.xs.length*8≤140737488355328),.tup [],[⟨false,b.tys,sortL b.xs⟩]) else none
 | _,_=>none
structure SortWalk (P:Program) (g:FuncId):Prop where
 known:Known P g
 some_:∀ (blk off cap:Nat) (zs:List Int) (w:World),Holds (Value.int .i64) w blk off zs.toArray→blk<w.heap.size→zs.length<4611686018427387904 →
  Calls P g #[.slice (some ⟨blk,off,none⟩) zs.length cap] w fun e w' =>
   e = .returned (.tuple #[])∧∃ n os,w'=grow (putRow (Value.int .i64) (Sort.ahead w n) blk off (zs.mergeSort fun x y=>decide (x≤y)).toArray) os
 none_:∀ (p:Option Addr) (cap:Nat) (w:World),Calls P g #[.slice p 0 cap] w fun e w'=>e = .returned (.tuple #[])∧w'=w
theorem sort_meets [Glob] {P:Program} {g:FuncId} (h:SortWalk P g):MeetsM P g sortM:=by
 refine ⟨h.known,fun xs bs r bs' hm hf1 hf2 hsc hln C w us hl hv hh=>?_⟩
 unfold sortM at hm
 split at hm
 ·rename_i n b
  match us,hl with
  | [u],_ =>
  have v0:=hv 0 _ _ rfl rfl
  have hm2:=bif_pair hm
  clear hm
  obtain ⟨hg,hm⟩:=hm2
  simp only [Bool.and_eq_true,Bool.not_eq_true'] at hg
  obtain ⟨⟨gb,gn⟩,gt⟩:=hg
  obtain rfl:=(nmEq_iff _ _).1 gn
  have gt:=ctsEq_eq _ _ gt
  obtain ⟨hbig,rfl,rfl⟩:=trip_inj hm
  have hbig:=of_decide_eq_true hbig
  have hget:getH (canH 1 [b]) [1]=some b:=by simp [canH,getH,nmEq_refl]
  have hB:=hh.blk [1] b hget
  have hw1:C.width [1]=1:=by rw [hB.width gb,gt];rfl
  have hBl:=hB.len
  have htup:VR C (.tup []) (.tuple #[]) := .tup [] [] rfl (fun i c v h=>by cases i <;> cases h)
  have empty:b.xs.length=0→sortL b.xs=b.xs:=fun e=>by rw [List.eq_nil_of_length_eq_zero e];simp [sortL]
  have hbe:b=⟨false,b.tys,b.xs⟩:=by rw [← gb]
  cases v0 with
  | ownNil _ hz =>
   refine (h.none_ none 0 w).mono fun e w' hw'=>?_
   obtain ⟨rfl,rfl⟩:=hw'
   refine ⟨_,rfl,htup,?_⟩
   rw [empty (by rw [← hBl];exact hz),← hbe]
   exact hh
  | own _ cap hr h1 h2 =>
   by_cases hz:b.xs.length=0
   ·rw [hBl,hz]
    refine (h.none_ _ cap w).mono fun e w' hw'=>?_
    obtain ⟨rfl,rfl⟩:=hw'
    refine ⟨_,rfl,htup,?_⟩
    rw [empty hz,← hbe]
    exact hh
   ·obtain ⟨r1,r2,r3,r4⟩:=hB.room hr
    have hA0:C.at [1] 0 0=⟨(C.loc [1]).1,(C.loc [1]).2,none⟩:=by unfold Ctx.at at_;simp
    obtain ⟨zs,hzs⟩:∃ zs,zs=b.xs.map fun x=>fI x 0:=⟨_,rfl⟩
    have hzl:zs.length=b.xs.length:=by rw [hzs,List.length_map]
    have hcell:∀ i,i<b.xs.length→w.cell? ⟨(C.loc [1]).1,(C.loc [1]).2+i,none⟩=some (.int .i64 (zs[i]!)):=fun i hi=>by
     obtain ⟨g1,g2⟩:=hB.cells i b.xs[i] (List.getElem?_eq_getElem hi)
     rw [hw1] at g1
     obtain ⟨u,g3,g4,g5⟩:=g2 0 b.xs[i].cells[0] (List.getElem?_eq_getElem (by omega))
     simp only [gb,Bool.false_eq_true,if_false] at g5
     obtain ⟨ct,g6,g7⟩:=g5
     rw [gt] at g6
     obtain rfl:CT.int .i64=ct:=Option.some.inj g6
     unfold Ctx.at at_ at g3
     rw [hw1,Nat.mul_one,Nat.add_zero] at g3
     rw [g3]
     have e1:zs[i]! = fI b.xs[i] 0:=by rw [hzs];simp [hi]
     rw [e1]
     unfold fI
     rw [List.getElem?_eq_getElem (by omega)]
     generalize b.xs[i].cells[0]=c at g7
     cases g7
     rfl
    have hH:Holds (Value.int .i64) w (C.loc [1]).1 (C.loc [1]).2 zs.toArray:=fun j hj=>by
     have hj':j<b.xs.length:=by rw [← hzl];simpa using hj
     refine ⟨?_,(r4 j (by rw [hw1];omega)).2⟩
     rw [hcell j hj']
     simp
    have key:=h.some_ (C.loc [1]).1 (C.loc [1]).2 cap zs w hH r2 (by omega)
    rw [hzl,← hBl,← hA0] at key
    refine key.mono fun e w' hw'=>?_
    obtain ⟨rfl,q,os,rfl⟩:=hw'
    refine ⟨_,rfl,htup,?_⟩
    have hsl:(zs.mergeSort fun x y=>decide (x≤y)).length=zs.length:=List.length_mergeSort _
    rw [Lib.putRow_eq_setCells (Value.int .i64) w (C.loc [1]).1 (C.loc [1]).2 zs.toArray (zs.mergeSort fun x y=>decide (x≤y)) q hH (by simp [hsl])]
    obtain ⟨us,hus⟩:∃ us,us=(zs.mergeSort fun x y=>decide (x≤y)).map (Value.int .i64):=⟨_,rfl⟩
    have hul:us.length=b.xs.length:=by rw [hus,List.length_map,hsl,hzl]
    have hsr:sortL b.xs=(zs.mergeSort fun x y=>decide (x≤y)).map (AV.int .i64):=by rw [hzs];rfl
    rw [← hus]
    have hF:Flat C.memF b.tys (sortL b.xs) us:=by
     refine ⟨by rw [sortL_len,gt,hul];simp,fun i x hx=>?_⟩
     rw [hsr,List.getElem?_map] at hx
     cases hi:(zs.mergeSort fun x y=>decide (x≤y))[i]? with
     | none=>rw [hi] at hx;cases hx
     | some z =>
      rw [hi] at hx
      obtain rfl:=Option.some.inj hx
      rw [gt]
      refine ⟨rfl,fun j c hc=>?_⟩
      cases j with
      | succ j=>cases hc
      | zero =>
       obtain rfl:=Option.some.inj hc
       refine ⟨.int .i64 z,.int .i64,?_,rfl,.int _ _⟩
       rw [hus,List.getElem?_map]
       simp [hi]
    have hBd:BlkR C (w.drewN q) [1] ⟨false,b.tys,b.xs⟩:=by
     rw [← hbe]
     exact hB.world (fun _=>rfl) (Nat.le_refl _)
    have st1:BlkR C ((w.drewN q).setCells (C.loc [1]).1 ((C.loc [1]).2+0*C.width [1]) us) [1] ⟨false,b.tys,sortL b.xs⟩ :=
     hBd.put hr hF (p:=0) (by rw [sortL_len,Nat.zero_add,List.drop_length,List.append_nil];rfl) (by rw [sortL_len,← hBl]) rfl rfl (Nat.zero_le _) (by rw [sortL_len];omega) (by rw [sortL_len];exact r3) (by rw [sortL_len];exact hB.max)
    rw [Nat.zero_mul,Nat.add_zero] at st1
    have hg0:w.grownBy (w.drewN q) none:=⟨rfl,rfl,rfl,Nat.le_refl _,fun k _ _=>rfl⟩
    have hg1:=grownBy_setCells (w.drewN q) (C.loc [1]).1 (C.loc [1]).2 us
    have hg2:((w.drewN q).setCells (C.loc [1]).1 (C.loc [1]).2 us).grownBy (grow ((w.drewN q).setCells (C.loc [1]).1 (C.loc [1]).2 us) os) none :=
     ⟨rfl,rfl,rfl,by rw [size_grow];omega,fun k hk _=>heap_grow_old _ _ hk⟩
    have hsz:=hg1.size
    have hmem:(∀ z v,C.mem z=some v→z.block ≠ (C.loc [1]).1)∧¬ C.fr (C.loc [1]).1:=⟨fun z v hz e=>(hh.mem z v hz).2.2 [1] b hget hr e.symm,fun hf=>(hh.frame _ hf).2.2 [1] b hget hr rfl⟩
    have hnone:HSim C [] w:=by
     have:=hh.del [1]
     simpa [canH,delH,nmEq_refl] using this
    have a1:HSim C [] (w.drewN q):=hnone.world hg0 fun k hk=>by cases hk
    have a2:HSim C [] ((w.drewN q).setCells (C.loc [1]).1 (C.loc [1]).2 us):=a1.world hg1 fun k hk=>by
     obtain rfl:=Option.some.inj hk
     exact ⟨r1,fun nm b hb=>(by simp [getH] at hb),hmem⟩
    have a3:HSim C (setH [] [1] ⟨false,b.tys,sortL b.xs⟩) ((w.drewN q).setCells (C.loc [1]).1 (C.loc [1]).2 us):=a2.setBlk st1 fun _=>⟨fun nm b' _ hb=>(by simp [getH] at hb),hmem⟩
    have a4:=a3.world hg2 fun k hk=>by cases hk
    exact a4
 ·cases hm
end Go.Proofs.VE
