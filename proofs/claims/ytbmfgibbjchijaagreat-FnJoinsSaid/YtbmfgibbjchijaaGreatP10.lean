import Derived.Test.YtbmfgibbjchijaaGreatP9
import Derived.Shelf.SlSortCmp.NoneTotal
namespace Go.Proofs.VE
open Go Go.Sort
def leP (x y:Int × Int):Bool:=decide (x.1<y.1) || (decide (x.1=y.1) && decide (x.2≤y.2))
def encP (x:Int × Int):List Value:=[.int .i64 x.1,.int .i64 x.2]
def avP (x:Int × Int):AV := .agg [.int .i64 x.1,.int .i64 x.2]
def sortPL (xs:List AV):List AV:=((xs.map fun x=>(fI x 0,fI x 1)).mergeSort leP).map avP
theorem sortPL_len (xs:List AV):(sortPL xs).length=xs.length:=by simp [sortPL,List.length_mergeSort]
def sortPM (c:Nat):WModel:=fun args bs =>
 match args,bs with
 | [.own n,.fn f []],[b]=>bif !b.box && nmEq n [1] && ctsEq b.tys [.int .i64,.int .i64] && Nat.beq f c then some (decide (b.xs.length*16≤140737488355328),.tup [],[⟨false,b.tys,sortPL b.xs⟩]) else none
 | _,_=>none
def cmpP (x y:Int × Int):Int:=if Lib.compareInt x.1 y.1 ≠ 0 then Lib.compareInt x.1 y.1 else Lib.compareInt x.2 y.2
theorem ltP (x y:Int × Int):ltOf cmpP x y=(decide (x.1<y.1) || (decide (x.1=y.1) && decide (x.2<y.2))):=by
 have h1:Lib.compareInt x.1 y.1=if x.1<y.1 then -1 else if y.1<x.1 then 1 else 0:=by
  unfold Lib.compareInt;split <;> rfl
 have h2:Lib.compareInt x.2 y.2=if x.2<y.2 then -1 else if y.2<x.2 then 1 else 0:=by
  unfold Lib.compareInt;split <;> rfl
 unfold ltOf cmpP
 rw [h1,h2]
 by_cases a:x.1<y.1
 ·simp [a]
 ·by_cases b:y.1<x.1
  ·have:¬ x.1=y.1:=by omega
   simp [a,b,this]
  ·have:x.1=y.1:=by omega
   by_cases c:x.2<y.2
   ·simp [this,c]
   ·by_cases d:y.2<x.2 <;> simp [this,c,d]
theorem swoP:SWO (ltOf cmpP) where
 irrefl x:=by rw [ltP];simp
 trans x y z h1 h2:=by rw [ltP] at *;simp only [Bool.or_eq_true,Bool.and_eq_true,decide_eq_true_eq] at *;omega
 ntrans x y z h1 h2:=by
  rw [ltP] at *;simp only [Bool.or_eq_false_iff,Bool.and_eq_false_iff,decide_eq_false_iff_not] at *;omega
theorem antiP (x y:Int × Int) (h1:ltOf cmpP x y=false) (h2:ltOf cmpP y x=false):x=y:=by
 rw [ltP] at *
 simp only [Bool.or_eq_false_iff,Bool.and_eq_false_iff,decide_eq_false_iff_not] at *
 exact Prod.ext (by omega) (by omega)
theorem leP_lt:(fun x y => !(ltOf cmpP) y x)=leP:=by
 funext x y
 rw [ltP]
 unfold leP
 apply Bool.eq_iff_iff.2
 simp only [Bool.not_eq_true',Bool.or_eq_false_iff,Bool.and_eq_false_iff,decide_eq_false_iff_not,Bool.or_eq_true,Bool.and_eq_true,decide_eq_true_eq]
 omega
structure SortPWalk (P:Program) (g c:FuncId):Prop where
 known:Known P g
 some_:∀ (blk off cap:Nat) (zs:List (Int × Int)) (w:World),HoldsK encP 2 w blk off zs.toArray→blk<w.heap.size→zs.length<4611686018427387904 →
  Calls P g #[.slice (some ⟨blk,off,none⟩) zs.length cap,.func (.func c) #[] #[]] w fun e w' =>
   e = .returned (.tuple #[])∧∃ n os,w'=sortWorldK encP 2 w blk off n (zs.mergeSort leP).toArray os
 none_:∀ (p:Option Addr) (cap:Nat) (fv:Value) (w:World),Calls P g #[.slice p 0 cap,fv] w fun e w'=>e = .returned (.tuple #[])∧w'=w
theorem sortP_meets [Glob] {P:Program} {g c:FuncId} (h:SortPWalk P g c):MeetsM P g (sortPM c):=by
 refine ⟨h.known,fun xs bs r bs' hm hf1 hf2 hsc hln C w us hl hv hh=>?_⟩
 unfold sortPM at hm
 split at hm
 ·rename_i n f b
  match us,hl with
  | [u,u'],_ =>
  have v0:=hv 0 _ _ rfl rfl
  have v1:=hv 1 _ _ rfl rfl
  have hm2:=bif_pair hm
  clear hm
  obtain ⟨hg,hm⟩:=hm2
  simp only [Bool.and_eq_true,Bool.not_eq_true'] at hg
  obtain ⟨⟨⟨gb,gn⟩,gt⟩,gf⟩:=hg
  obtain rfl:=(nmEq_iff _ _).1 gn
  have gt:=ctsEq_eq _ _ gt
  obtain rfl:=Nat.eq_of_beq_eq_true gf
  obtain ⟨hbig,rfl,rfl⟩:=trip_inj hm
  have hbig:=of_decide_eq_true hbig
  have hget:getH (canH 1 [b]) [1]=some b:=by simp [canH,getH,nmEq_refl]
  have hB:=hh.blk [1] b hget
  have hw1:C.width [1]=2:=by rw [hB.width gb,gt];rfl
  have hBl:=hB.len
  have htup:VR C (.tup []) (.tuple #[]) := .tup [] [] rfl (fun i c v h=>by cases i <;> cases h)
  have empty:b.xs.length=0→sortPL b.xs=b.xs:=fun e=>by rw [List.eq_nil_of_length_eq_zero e];simp [sortPL]
  have hbe:b=⟨false,b.tys,b.xs⟩:=by rw [← gb]
  obtain rfl:u' = .func (.func f) #[] #[]:=by
   cases v1 with
   | fn _ _ vs k1 _ =>
    have:vs=[]:=List.eq_nil_of_length_eq_zero k1.symm
    subst this
    rfl
  cases v0 with
  | ownNil _ hz =>
   refine (h.none_ none 0 _ w).mono fun e w' hw'=>?_
   obtain ⟨rfl,rfl⟩:=hw'
   refine ⟨_,rfl,htup,?_⟩
   rw [empty (by rw [← hBl];exact hz),← hbe]
   exact hh
  | own _ cap hr h1 h2 =>
   by_cases hz:b.xs.length=0
   ·rw [hBl,hz]
    refine (h.none_ _ cap _ w).mono fun e w' hw'=>?_
    obtain ⟨rfl,rfl⟩:=hw'
    refine ⟨_,rfl,htup,?_⟩
    rw [empty hz,← hbe]
    exact hh
   ·obtain ⟨r1,r2,r3,r4⟩:=hB.room hr
    have hA0:C.at [1] 0 0=⟨(C.loc [1]).1,(C.loc [1]).2,none⟩:=by unfold Ctx.at at_;simp
    obtain ⟨zs,hzs⟩:∃ zs,zs=b.xs.map fun x=>(fI x 0,fI x 1):=⟨_,rfl⟩
    have hzl:zs.length=b.xs.length:=by rw [hzs,List.length_map]
    have hcell:∀ i,i<b.xs.length→∀ j,j<2→w.cell? ⟨(C.loc [1]).1,(C.loc [1]).2+(i*2+j),none⟩=some ((encP zs[i]!)[j]!):=fun i hi j hj=>by
     obtain ⟨g1,g2⟩:=hB.cells i b.xs[i] (List.getElem?_eq_getElem hi)
     rw [hw1] at g1
     obtain ⟨u,g3,g4,g5⟩:=g2 j b.xs[i].cells[j] (List.getElem?_eq_getElem (by omega))
     simp only [gb,Bool.false_eq_true,if_false] at g5
     obtain ⟨ct,g6,g7⟩:=g5
     rw [gt] at g6
     have e1:zs[i]! = (fI b.xs[i] 0,fI b.xs[i] 1):=by rw [hzs];simp [hi]
     unfold Ctx.at at_ at g3
     rw [hw1,Nat.add_assoc] at g3
     rw [g3,e1]
     match j,hj with
     | 0,_ =>
      obtain rfl:CT.int .i64=ct:=Option.some.inj g6
      show some u=some (Value.int .i64 (fI b.xs[i] 0))
      unfold fI
      rw [List.getElem?_eq_getElem (by omega)]
      generalize b.xs[i].cells[0]=c at g7
      cases g7
      rfl
     | 1,_ =>
      obtain rfl:CT.int .i64=ct:=Option.some.inj g6
      show some u=some (Value.int .i64 (fI b.xs[i] 1))
      unfold fI
      rw [List.getElem?_eq_getElem (by omega)]
      generalize b.xs[i].cells[1]=c at g7
      cases g7
      rfl
    have hH:HoldsK encP 2 w (C.loc [1]).1 (C.loc [1]).2 zs.toArray:=fun t ht=>by
     rw [size_flatK] at ht
     have ht2:t<b.xs.length*2:=by rw [← hzl];simpa using ht
     refine ⟨?_,(r4 t (by
      rw [hw1]
      have:=Nat.mul_le_mul_right 2 r3
      omega)).2⟩
     rw [get_flatK _ _ _ _ ht]
     have e0:t=t / 2*2+t % 2:=by omega
     have e2:=hcell (t / 2) (by omega) (t % 2) (by omega)
     rw [← e0] at e2
     rw [e2]
     congr 1
     congr 2
     simp
    have key:=h.some_ (C.loc [1]).1 (C.loc [1]).2 cap zs w hH r2 (by omega)
    rw [hzl,← hBl,← hA0] at key
    refine key.mono fun e w' hw'=>?_
    obtain ⟨rfl,q,os,rfl⟩:=hw'
    refine ⟨_,rfl,htup,?_⟩
    have hsl:(zs.mergeSort leP).length=zs.length:=List.length_mergeSort _
    obtain ⟨us,hus⟩:∃ us,us=(flatK encP 2 (zs.mergeSort leP).toArray).toList:=⟨_,rfl⟩
    have hul:us.length=b.xs.length*2:=by rw [hus];simp [hsl,hzl]
    have hput:putRowK encP 2 (Sort.ahead w q) (C.loc [1]).1 (C.loc [1]).2 (zs.mergeSort leP).toArray=(w.drewN q).setCells (C.loc [1]).1 (C.loc [1]).2 us:=by
     have:=Lib.putRow_eq_setCells (id:Value→Value) w (C.loc [1]).1 (C.loc [1]).2 (flatK encP 2 zs.toArray) us q hH (by rw [hul,size_flatK];simp [hzl])
     rw [List.map_id] at this
     rw [← this,hus]
     rfl
    unfold sortWorldK
    rw [hput]
    have hF:Flat C.memF b.tys (sortPL b.xs) us:=by
     refine ⟨by rw [sortPL_len,gt,hul];rfl,fun i x hx=>?_⟩
     have hsr:sortPL b.xs=(zs.mergeSort leP).map avP:=by rw [hzs];rfl
     rw [hsr,List.getElem?_map] at hx
     cases hi:(zs.mergeSort leP)[i]? with
     | none=>rw [hi] at hx;cases hx
     | some z =>
      rw [hi] at hx
      obtain rfl:=Option.some.inj hx
      rw [gt]
      have hil:=(List.getElem?_eq_some_iff.1 hi).1
      have hiz:(zs.mergeSort leP).toArray[i]! = z:=by
       rw [getElem!_pos (zs.mergeSort leP).toArray i (by simpa using hil)]
       have:=List.getElem?_eq_some_iff.1 hi
       obtain ⟨_,e⟩:=this
       simpa using e
      have hu:∀ j,j<2→us[i*2+j]?=some ((encP z)[j]!):=fun j hj=>by
       have hlt:i*2+j<(zs.mergeSort leP).toArray.size*2:=by simp only [List.size_toArray];omega
       have:=get_flatK encP 2 (zs.mergeSort leP).toArray (i*2+j) hlt
       rw [show (i*2+j) / 2=i by omega,show (i*2+j) % 2=j by omega,hiz] at this
       have hlt':i*2+j<(flatK encP 2 (zs.mergeSort leP).toArray).size:=by rw [size_flatK];exact hlt
       rw [hus,← this,getElem!_pos (flatK encP 2 (zs.mergeSort leP).toArray) (i*2+j) hlt',Array.getElem?_toList,Array.getElem?_eq_getElem hlt']
      refine ⟨rfl,fun j c hc=>?_⟩
      match j with
      | 0 =>
       obtain rfl:=Option.some.inj hc
       exact ⟨.int .i64 z.1,.int .i64,hu 0 (by omega),rfl,.int _ _⟩
      | 1 =>
       obtain rfl:=Option.some.inj hc
       exact ⟨.int .i64 z.2,.int .i64,hu 1 (by omega),rfl,.int _ _⟩
      | j+2=>cases hc
    have hBd:BlkR C (w.drewN q) [1] ⟨false,b.tys,b.xs⟩:=by
     rw [← hbe]
     exact hB.world (fun _=>rfl) (Nat.le_refl _)
    have st1:BlkR C ((w.drewN q).setCells (C.loc [1]).1 ((C.loc [1]).2+0*C.width [1]) us) [1] ⟨false,b.tys,sortPL b.xs⟩ :=
     hBd.put hr hF (p:=0) (by rw [sortPL_len,Nat.zero_add,List.drop_length,List.append_nil];rfl) (by rw [sortPL_len,← hBl]) rfl rfl (Nat.zero_le _) (by rw [sortPL_len];omega) (by rw [sortPL_len];exact r3) (by rw [sortPL_len];exact hB.max)
    rw [Nat.zero_mul,Nat.add_zero] at st1
    have hg0:w.grownBy (w.drewN q) none:=⟨rfl,rfl,rfl,Nat.le_refl _,fun k _ _=>rfl⟩
    have hg1:=grownBy_setCells (w.drewN q) (C.loc [1]).1 (C.loc [1]).2 us
    have hg2:((w.drewN q).setCells (C.loc [1]).1 (C.loc [1]).2 us).grownBy (grow ((w.drewN q).setCells (C.loc [1]).1 (C.loc [1]).2 us) os) none :=
     ⟨rfl,rfl,rfl,by rw [size_grow];omega,fun k hk _=>heap_grow_old _ _ hk⟩
    have hsz:=hg1.size
    have hmem:(∀ z v,C.mem z=some v→z.block ≠ (C.loc [1]).1)∧¬ C.fr (C.loc [1]).1:=⟨fun z v hz e=>(hh.mem z v hz).2.2 [1] b hget hr e.symm,fun hf=>(hh.frame _ hf).2.2 [1] b hget hr rfl⟩
    have hnone:HSim C [] w:=by
     have:=hh.del [1]
     simpa [canH,delH,nmEq_refl] using this
    have a1:HSim C [] (w.drewN q):=hnone.world hg0 fun k hk=>by cases hk
    have a2:HSim C [] ((w.drewN q).setCells (C.loc [1]).1 (C.loc [1]).2 us):=a1.world hg1 fun k hk=>by
     obtain rfl:=Option.some.inj hk
     exact ⟨r1,fun nm b hb=>(by simp [getH] at hb),hmem⟩
    have a3:HSim C (setH [] [1] ⟨false,b.tys,sortPL b.xs⟩) ((w.drewN q).setCells (C.loc [1]).1 (C.loc [1]).2 us):=a2.setBlk st1 fun _=>⟨fun nm b' _ hb=>(by simp [getH] at hb),hmem⟩
    have a4:=a3.world hg2 fun k hk=>by cases hk
    exact a4
 ·cases hm
end Go.Proofs.VE
