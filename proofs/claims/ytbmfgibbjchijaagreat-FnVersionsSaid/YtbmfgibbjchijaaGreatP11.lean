import Derived.Test.YtbmfgibbjchijaaGreatP10
import Derived.Test.YtbmfgibbjchijaaGreatProg
import Derived.KernelRfl
namespace Go.Proofs.YtbmfgibbjchijaaGreat
open Go Go.Proofs.VE
set_option linter.unusedVariables false
set_option linter.unusedSimpArgs false
set_option maxRecDepth 100000
set_option maxHeartbeats 4000000
noncomputable section
def G143_0 {β:Type} (t1:Int) (t7:Int) (t14:List AV) (t15:Int) (t6:Int) (t16:Int) (N:((Int × Int))→β) (K:(Int ⊕ (Int × Int × Int × Int))→β) (d:β):β:=(bif decide (t16<t15) then (bif (decide (0≤t16) && decide (t16<(t14.length:Int))) then (bif decide (fI (t14.getD t16.toNat .undef) 0≤t1) then (bif decide (fI (t14.getD t16.toNat .undef) 0 ≥ t1) then K (.inr (fI (t14.getD t16.toNat .undef) 1,fI (t14.getD t16.toNat .undef) 1,fI (t14.getD t16.toNat .undef) 0,fI (t14.getD t16.toNat .undef) 1))
 else N (fI (t14.getD t16.toNat .undef) 1,IntKind.i64.wrap (t16+1)))
 else (bif decide (fI (t14.getD t16.toNat .undef) 0 ≥ t1) then K (.inr (t6,fI (t14.getD t16.toNat .undef) 1,fI (t14.getD t16.toNat .undef) 0,fI (t14.getD t16.toNat .undef) 1))
 else N (t6,IntKind.i64.wrap (t16+1))))
 else d)
 else K (.inl t6))
def F143_0 (t1 t7:Int) (t14:List AV) (t15 t6 t16:Int):Out ((Int × Int)) (Int ⊕ (Int × Int × Int × Int)):=G143_0 t1 t7 t14 t15 t6 t16 .next .stop .fail
def R143_0 (t1 t7:Int) (t14:List AV) (t15:Int):((Int × Int))→Out ((Int × Int)) (Int ⊕ (Int × Int × Int × Int)):=fun s:Int × Int=>F143_0 t1 t7 t14 t15 s.1 s.2
def E143_0 (t1 t7:Int) (t14:List AV) (t15:Int):((Int × Int))→St:=fun s:Int × Int=>⟨[(1,Ai t1),(6,Ai s.1),(7,Ai t7),(14,AV.sl [.int .i64,.int .i64] t14),(15,Ai t15),(16,Ai s.2)],[]⟩
def K143_0 (t1 t7:Int) (t14:List AV) (t15:Int) (k:Kont):(Int ⊕ (Int × Int × Int × Int))→Option AV:=sumE (fun p:Int=>k (.exit 0) ⟨[(6,Ai p),(7,Ai t7)],[]⟩) (fun p:Int × Int × Int × Int=>k .ret ⟨[(4,Ai p.1),(5,Ai p.2.1)],[([1,9],⟨true,[],[AV.agg [Ai p.2.2.1,Ai p.2.2.2]]⟩)]⟩)
def l143_0:LModel:=fun _ _ st k=>match st with
 | ⟨[(1,.int .i64 t1),(6,.int .i64 t6),(7,.int .i64 t7),(14,.sl g0 t14),(15,.int .i64 t15),(16,.int .i64 t16)],[]⟩=>bif ctsEq g0 ([.int .i64,.int .i64]) then ro (runW (R143_0 t1 t7 t14 t15) ((t15 - t16:Int).toNat+1) (t6,t16)) none (K143_0 t1 t7 t14 t15 k) else none
 | _=>none
noncomputable def c143:Cfg:=cfg Tryz.prog [(143,0,[1,6,7,14,15,16]),(143,999,[4,5]),(143,1000,[6,7]),(143,1001,[1,6,7,14,15,16])] [] [] [] [(143,0,l143_0)]
theorem s143_0 (t1 t7:Int) (t14:List AV) (t15:Int) (ce:CallE) (k:Kont) (s:Int × Int) (next:St→Option AV):stepA (codeA c143 ce [] 143 0 (sub [1,1,0,1,0,0] (body Tryz.f143))) (normA [] [1,6,7,14,15,16]) next ((E143_0 t1 t7 t14 t15) s) k=G143_0 t1 t7 t14 t15 s.1 s.2 (fun s=>next ((E143_0 t1 t7 t14 t15) s)) (K143_0 t1 t7 t14 t15 k) none:=by kernel_rfl
theorem st143_0 (t1 t7:Int) (t14:List AV) (t15:Int) (ce:CallE) (k:Kont) (s:(Int × Int)) (next:St→Option AV):stepA (codeA c143 ce [] 143 0 (sub [1,1,0,1,0,0] (body Tryz.f143))) (normA [] [1,6,7,14,15,16]) next ((E143_0 t1 t7 t14 t15) s) k=(R143_0 t1 t7 t14 t15 s).el none (fun s=>next ((E143_0 t1 t7 t14 t15) s)) (K143_0 t1 t7 t14 t15 k):=(s143_0 t1 t7 t14 t15 ce k s next).trans (by unfold R143_0;unfold F143_0 G143_0;simp only [el_cond,el_ro,el_sum,el_fail,el_next,el_stop] <;> rfl)
theorem ok143_0 {ce:CallE}:LoopOK c143 ce [] 143 0 (sub [1,1,0,1,0,0] (body Tryz.f143)):=by
 intro m hm st k r h
 obtain rfl:l143_0=m:=Option.some.inj hm
 unfold l143_0 at h
 split at h
 ·rename_i t1 t6 t7 g0 t14 t15 t16
  obtain ⟨hg,h⟩:=bif_some h
  have q0:=hg
  obtain rfl:=cE q0
  refine ⟨((t15 - t16:Int).toNat+1),?_⟩
  rw [← h]
  exact loop_run (E143_0 t1 t7 t14 t15) (K143_0 t1 t7 t14 t15 k) (st143_0 t1 t7 t14 t15 ce k) _ (t6,t16)
 ·cases h
def q143 (xa xb xc:List AV) (a1:Int):Bool:=(ro (runW (R143_0 a1 (xa.length:Int) xc (xc.length:Int)) (((xc.length:Int) - 0:Int).toNat+1) (0,0)) false (sumE (fun p57=>true) (fun p58=>true)))
def v143_0 (xa xb xc:List AV) (a1:Int):Int:=(ro (runW (R143_0 a1 (xa.length:Int) xc (xc.length:Int)) (((xc.length:Int) - 0:Int).toNat+1) (0,0)) 0 (sumE (fun p57=>p57) (fun p58=>p58.1)))
def v143_1 (xa xb xc:List AV) (a1:Int):Int:=(ro (runW (R143_0 a1 (xa.length:Int) xc (xc.length:Int)) (((xc.length:Int) - 0:Int).toNat+1) (0,0)) 0 (sumE (fun p57=>(xa.length:Int)) (fun p58=>p58.2.1)))
theorem e143 (xa xb xc:List AV) (a1:Int):funA c143 0 143 [AV.agg [AV.sl [.int .i64] xa,AV.sl [.int .i64] xb,AV.sl [.int .i64,.int .i64] xc],Ai a1]=(ro (runW (R143_0 a1 (xa.length:Int) xc (xc.length:Int)) (((xc.length:Int) - 0:Int).toNat+1) (0,0)) none (sumE (fun p57=>some (AV.tup [Ai p57,Ai (xa.length:Int)])) (fun p58=>some (AV.tup [Ai p58.1,Ai p58.2.1])))):=by kernel_rfl
def m143:TModel
 | [.agg [.sl g0 xa,.sl g1 xb,.sl g2 xc],.int .i64 a1]=>bif ctsEq g0 ([.int .i64]) && ctsEq g1 ([.int .i64]) && ctsEq g2 ([.int .i64,.int .i64]) then some (q143 xa xb xc a1,AV.tup [AV.int .i64 (v143_0 xa xb xc a1),AV.int .i64 (v143_1 xa xb xc a1)]) else none
 | _=>none
theorem k143:Known Tryz.prog 143:=⟨Tryz.f143,Tryz.func143,by kernel_rfl,by kernel_rfl⟩
theorem meets143:Meets Tryz.prog 143 m143:=by
 refine mt (lvl:=0) (cf:=c143) rfl mixed k143 Tryz.func143 (by kernel_rfl) (loops_cons ok143_0 noLoop) allT_nil allM_nil noI fun xs r h=>?_
 unfold m143 at h
 split at h
 ·rename_i g0 xa g1 xb g2 xc a1
  obtain ⟨hg,h⟩:=bif_pair h
  simp only [Bool.and_eq_true] at hg
  obtain ⟨⟨q0,q1⟩,q2⟩:=hg
  obtain rfl:=cE q0
  obtain rfl:=cE q1
  obtain rfl:=cE q2
  obtain ⟨h1,rfl⟩:=pair_inj h
  exact (e143 xa xb xc a1).trans ((brO (fun o:Option (Int ⊕ (Int × Int × Int × Int))=>some (AV.tup [Ai (ro o 0 (sumE (fun p57=>p57) (fun p58=>p58.1))),Ai (ro o 0 (sumE (fun p57=>(xa.length:Int)) (fun p58=>p58.2.1)))])) (brS (fun o:Int ⊕ (Int × Int × Int × Int)=>some (AV.tup [Ai ((sumE (fun p57=>p57) (fun p58=>p58.1)) o),Ai ((sumE (fun p57=>(xa.length:Int)) (fun p58=>p58.2.1)) o)])) (fun p57=>(fun _=>rfl)) (fun p58=>(fun _=>rfl)))) h1)
 ·cases h
noncomputable def c163:Cfg:=cfg Tryz.prog [(163,999,[8,9,10]),(163,1000,[1,2])] [] [] [] []
def q163 (a0:List AV) (a1 a2 a3:Int):Bool:=((decide (0≤a1) && decide (a1<(a0.length:Int))) && (bif decide (fI (a0.getD a1.toNat .undef) 0<a3) then true else (decide (0≤a2) && decide (a2<(a0.length:Int)))))
def v163_0 (a0:List AV) (a1 a2 a3:Int):Int:=(bif decide (fI (a0.getD a1.toNat .undef) 0<a3) then IntKind.i64.wrap (a1+1) else (bif decide (fI (a0.getD a2.toNat .undef) 0 ≥ a3) then a1 else IntKind.i64.wrap (a1+1)))
def v163_1 (a0:List AV) (a1 a2 a3:Int):Int:=(bif decide (fI (a0.getD a1.toNat .undef) 0<a3) then a2 else IntKind.i64.wrap (a2 - 1))
def v163_2 (a0:List AV) (a1 a2 a3:Int):Bool:=(bif decide (fI (a0.getD a1.toNat .undef) 0<a3) then false else (bif decide (fI (a0.getD a2.toNat .undef) 0 ≥ a3) then false else true))
theorem e163 (a0:List AV) (a1 a2 a3:Int):funA c163 0 163 [AV.sl [.int .i64] a0,Ai a1,Ai a2,Ai a3]=(bif (decide (0≤a1) && decide (a1<(a0.length:Int))) then (bif decide (fI (a0.getD a1.toNat .undef) 0<a3) then some (AV.tup [Ai (IntKind.i64.wrap (a1+1)),Ai a2,AV.bool false])
 else (bif (decide (0≤a2) && decide (a2<(a0.length:Int))) then (bif decide (fI (a0.getD a2.toNat .undef) 0 ≥ a3) then some (AV.tup [Ai a1,Ai (IntKind.i64.wrap (a2 - 1)),AV.bool false])
 else some (AV.tup [Ai (IntKind.i64.wrap (a1+1)),Ai (IntKind.i64.wrap (a2 - 1)),AV.bool true]))
 else none))
 else none):=by kernel_rfl
def m163:TModel
 | [.sl g0 a0,.int .i64 a1,.int .i64 a2,.int .i64 a3]=>bif ctsEq g0 ([.int .i64]) then some (q163 a0 a1 a2 a3,AV.tup [AV.int .i64 (v163_0 a0 a1 a2 a3),AV.int .i64 (v163_1 a0 a1 a2 a3),AV.bool (v163_2 a0 a1 a2 a3)]) else none
 | _=>none
theorem k163:Known Tryz.prog 163:=⟨Tryz.f163,Tryz.func163,by kernel_rfl,by kernel_rfl⟩
theorem meets163:Meets Tryz.prog 163 m163:=by
 refine mt (lvl:=0) (cf:=c163) rfl mixed k163 Tryz.func163 (by kernel_rfl) noLoop allT_nil allM_nil noI fun xs r h=>?_
 unfold m163 at h
 split at h
 ·rename_i g0 a0 a1 a2 a3
  obtain ⟨hg,h⟩:=bif_pair h
  have q0:=hg
  obtain rfl:=cE q0
  obtain ⟨h1,rfl⟩:=pair_inj h
  exact (e163 a0 a1 a2 a3).trans ((brL (br (fun b=>some (AV.tup [Ai (bif b then IntKind.i64.wrap (a1+1) else (bif decide (fI (a0.getD a2.toNat .undef) 0 ≥ a3) then a1 else IntKind.i64.wrap (a1+1))),Ai (bif b then a2 else IntKind.i64.wrap (a2 - 1)),AV.bool (bif b then false else (bif decide (fI (a0.getD a2.toNat .undef) 0 ≥ a3) then false else true))])) (fun _=>rfl) (brL1 (brT (fun b=>some (AV.tup [Ai (bif b then a1 else IntKind.i64.wrap (a1+1)),Ai (IntKind.i64.wrap (a2 - 1)),AV.bool (bif b then false else true)])) (fun _=>rfl) (fun _=>rfl))))) h1)
 ·cases h
def G144_0 {β:Type} (t3:Int) (t12:Int) (t13:Int) (h0:List AV) (h1:List AV) (N:((Int × Int × (List AV) × (List AV)))→β) (K:((Int × (List AV) × (List AV)))→β) (d:β):β:=(bif decide (t12≤t13) then (bif q163 h0 t12 t13 t3 then (bif (v163_2 h0 t12 t13 t3) then (bif (decide (0≤t13) && decide (t13<(h0.length:Int))) then (bif (decide (0≤t12) && decide (t12<(h0.length:Int))) then (bif (decide (0≤t12) && decide (t12<(h0.length:Int))) then (bif (decide (0≤t13) && decide (t13<((h0.set t12.toNat (AV.agg [AV.int .i64 (fI (h0.getD t13.toNat .undef) 0)])).length:Int))) then (bif (decide ((h1.length+([AV.agg [AV.int .i64 t12,AV.int .i64 t13]]).length)*16≤140737488355328) && decide ((h1.length+([AV.agg [AV.int .i64 t12,AV.int .i64 t13]]).length)≤140737488355328)) then N ((v163_0 h0 t12 t13 t3),(v163_1 h0 t12 t13 t3),(h0.set t12.toNat (AV.agg [AV.int .i64 (fI (h0.getD t13.toNat .undef) 0)])).set t13.toNat (AV.agg [AV.int .i64 (fI (h0.getD t12.toNat .undef) 0)]),h1++([AV.agg [AV.int .i64 t12,AV.int .i64 t13]]))
 else d)
 else d)
 else d)
 else d)
 else d)
 else N ((v163_0 h0 t12 t13 t3),(v163_1 h0 t12 t13 t3),h0,h1))
 else d)
 else K (t12,h0,h1))
def F144_0 (t3 t12 t13:Int) (h0 h1:List AV):Out ((Int × Int × (List AV) × (List AV))) ((Int × (List AV) × (List AV))):=G144_0 t3 t12 t13 h0 h1 .next .stop .fail
def R144_0 (t3:Int):((Int × Int × (List AV) × (List AV)))→Out ((Int × Int × (List AV) × (List AV))) ((Int × (List AV) × (List AV))):=fun s:Int × Int × (List AV) × (List AV)=>F144_0 t3 s.1 s.2.1 s.2.2.1 s.2.2.2
def E144_0 (t3:Int):((Int × Int × (List AV) × (List AV)))→St:=fun s:Int × Int × (List AV) × (List AV)=>⟨[(3,Ai t3),(10,AV.own [0,10]),(11,AV.own [0,11]),(12,Ai s.1),(13,Ai s.2.1)],[([0,10],⟨false,[.int .i64],s.2.2.1⟩),([0,11],⟨false,[.int .i64,.int .i64],s.2.2.2⟩)]⟩
def K144_0 (t3:Int) (k:Kont):((Int × (List AV) × (List AV)))→Option AV:=fun p:Int × (List AV) × (List AV)=>k (.exit 0) ⟨[(11,AV.own [0,11]),(12,Ai p.1)],[([0,10],⟨false,[.int .i64],p.2.1⟩),([0,11],⟨false,[.int .i64,.int .i64],p.2.2⟩)]⟩
def l144_0:LModel:=fun _ _ st k=>match st with
 | ⟨[(3,.int .i64 t3),(10,.own g0),(11,.own g1),(12,.int .i64 t12),(13,.int .i64 t13)],[(g2,⟨false,g3,h0⟩),(g4,⟨false,g5,h1⟩)]⟩=>bif nmEq g0 ([0,10]) && nmEq g1 ([0,11]) && nmEq g2 ([0,10]) && ctsEq g3 ([.int .i64]) && nmEq g4 ([0,11]) && ctsEq g5 ([.int .i64,.int .i64]) then ro (runW (R144_0 t3) ((t13 - t12+1:Int).toNat+1) (t12,t13,h0,h1)) none (K144_0 t3 k) else none
 | _=>none
noncomputable def c144:Cfg:=cfg Tryz.prog [(144,0,[3,10,11,12,13]),(144,999,[8,9]),(144,1000,[11,12]),(144,1001,[3,10,11,12,13])] [(108,m108),(163,m163)] [] [] [(144,0,l144_0)]
theorem s144_0 (t3:Int) (ce:CallE) (k:Kont) (s:Int × Int × (List AV) × (List AV)) (next:St→Option AV):stepA (codeA c144 ce [] 144 0 (sub [1,1,1,1,0,0,0] (body Tryz.f144))) (normA [] [3,10,11,12,13]) next ((E144_0 t3) s) k=G144_0 t3 s.1 s.2.1 s.2.2.1 s.2.2.2 (fun s=>next ((E144_0 t3) s)) (K144_0 t3 k) none:=by kernel_rfl
theorem st144_0 (t3:Int) (ce:CallE) (k:Kont) (s:(Int × Int × (List AV) × (List AV))) (next:St→Option AV):stepA (codeA c144 ce [] 144 0 (sub [1,1,1,1,0,0,0] (body Tryz.f144))) (normA [] [3,10,11,12,13]) next ((E144_0 t3) s) k=(R144_0 t3 s).el none (fun s=>next ((E144_0 t3) s)) (K144_0 t3 k):=(s144_0 t3 ce k s next).trans (by unfold R144_0;unfold F144_0 G144_0;simp only [el_cond,el_ro,el_sum,el_fail,el_next,el_stop] <;> rfl)
theorem ok144_0 {ce:CallE}:LoopOK c144 ce [] 144 0 (sub [1,1,1,1,0,0,0] (body Tryz.f144)):=by
 intro m hm st k r h
 obtain rfl:l144_0=m:=Option.some.inj hm
 unfold l144_0 at h
 split at h
 ·rename_i t3 g0 g1 t12 t13 g2 g3 h0 g4 g5 h1
  obtain ⟨hg,h⟩:=bif_some h
  simp only [Bool.and_eq_true] at hg
  obtain ⟨⟨⟨⟨⟨q0,q1⟩,q2⟩,q3⟩,q4⟩,q5⟩:=hg
  obtain rfl:=nE q0
  obtain rfl:=nE q1
  obtain rfl:=nE q2
  obtain rfl:=cE q3
  obtain rfl:=nE q4
  obtain rfl:=cE q5
  refine ⟨((t13 - t12+1:Int).toNat+1),?_⟩
  rw [← h]
  exact loop_run (E144_0 t3) (K144_0 t3 k) (st144_0 t3 ce k) _ (t12,t13,h0,h1)
 ·cases h
def q144 (a0:List AV) (a1 a2 a3:Int):Bool:=(bif decide (a1<0) then true else (bif decide (a1 > a2) then true else (bif decide (a2 > (a0.length:Int)) then true else (q108 a0 && (ro (runW (R144_0 a3) (((IntKind.i64.wrap (a2 - 1)) - a1+1:Int).toNat+1) (a1,IntKind.i64.wrap (a2 - 1),(v108_0 a0),([]:List AV))) false (fun p59=>true))))))
def v144_0 (a0:List AV) (a1 a2 a3:Int):List AV:=(bif decide (a1<0) then ([]:List AV) else (bif decide (a1 > a2) then ([]:List AV) else (bif decide (a2 > (a0.length:Int)) then ([]:List AV) else (ro (runW (R144_0 a3) (((IntKind.i64.wrap (a2 - 1)) - a1+1:Int).toNat+1) (a1,IntKind.i64.wrap (a2 - 1),(v108_0 a0),([]:List AV))) [] (fun p59=>p59.2.2)))))
def v144_1 (a0:List AV) (a1 a2 a3:Int):Int:=(bif decide (a1<0) then 0 else (bif decide (a1 > a2) then 0 else (bif decide (a2 > (a0.length:Int)) then 0 else (ro (runW (R144_0 a3) (((IntKind.i64.wrap (a2 - 1)) - a1+1:Int).toNat+1) (a1,IntKind.i64.wrap (a2 - 1),(v108_0 a0),([]:List AV))) 0 (fun p59=>p59.1)))))
theorem e144 (a0:List AV) (a1 a2 a3:Int):funA c144 0 144 [AV.sl [.int .i64] a0,Ai a1,Ai a2,Ai a3]=(bif decide (a1<0) then some (AV.tup [AV.fl [.int .i64,.int .i64] ([]:List AV),Ai 0])
 else (bif decide (a1 > a2) then some (AV.tup [AV.fl [.int .i64,.int .i64] ([]:List AV),Ai 0])
 else (bif decide (a2 > (a0.length:Int)) then some (AV.tup [AV.fl [.int .i64,.int .i64] ([]:List AV),Ai 0])
 else (bif q108 a0 then (ro (runW (R144_0 a3) (((IntKind.i64.wrap (a2 - 1)) - a1+1:Int).toNat+1) (a1,IntKind.i64.wrap (a2 - 1),(v108_0 a0),([]:List AV))) none (fun p59=>some (AV.tup [AV.fl [.int .i64,.int .i64] p59.2.2,Ai p59.1])))
 else none)))):=by kernel_rfl
theorem r144 (a0:List AV) (a1 a2 a3:Int) (h:q144 a0 a1 a2 a3=true):funA c144 0 144 [AV.sl [.int .i64] a0,AV.int .i64 a1,AV.int .i64 a2,AV.int .i64 a3]=some (AV.tup [AV.fl [.int .i64,.int .i64] (v144_0 a0 a1 a2 a3),AV.int .i64 (v144_1 a0 a1 a2 a3)]):=by
 refine (e144 a0 a1 a2 a3).trans ?_
 unfold q144 at h
 unfold v144_0 v144_1
 refine ifG (fun hc=>?_) (fun hc=>?_) <;> first|rw [hc] at h ⊢|rw [hc] at h|rw [hc]|skip
 ·rfl
 ·refine ifG (fun hc=>?_) (fun hc=>?_) <;> first|rw [hc] at h ⊢|rw [hc] at h|rw [hc]|skip
  ·rfl
  ·refine ifG (fun hc=>?_) (fun hc=>?_) <;> first|rw [hc] at h ⊢|rw [hc] at h|rw [hc]|skip
   ·rfl
   ·refine ifG (fun hc=>?_) (fun hc=>?_) <;> first|rw [hc] at h ⊢|rw [hc] at h|rw [hc]|skip
    ·refine roG (fun hc=>?_) (fun r hc=>?_) <;> first|rw [hc] at h ⊢|rw [hc] at h|rw [hc]|skip
     ·exact Bool.noConfusion h
     ·try simp only [ro] at h ⊢
      rfl
    ·first|exact Bool.noConfusion h|exact Bool.noConfusion hc
def m144:TModel
 | [.sl g0 a0,.int .i64 a1,.int .i64 a2,.int .i64 a3]=>bif ctsEq g0 ([.int .i64]) then some (q144 a0 a1 a2 a3,AV.tup [AV.fl [.int .i64,.int .i64] (v144_0 a0 a1 a2 a3),AV.int .i64 (v144_1 a0 a1 a2 a3)]) else none
 | _=>none
theorem k144:Known Tryz.prog 144:=⟨Tryz.f144,Tryz.func144,by kernel_rfl,by kernel_rfl⟩
theorem meets144:Meets Tryz.prog 144 m144:=by
 refine mt (lvl:=0) (cf:=c144) rfl mixed k144 Tryz.func144 (by kernel_rfl) (loops_cons ok144_0 noLoop) (allT_cons meets108 (allT_cons meets163 allT_nil)) allM_nil noI fun xs r h=>?_
 unfold m144 at h
 split at h
 ·rename_i g0 a0 a1 a2 a3
  obtain ⟨hg,h⟩:=bif_pair h
  have q0:=hg
  obtain rfl:=cE q0
  obtain ⟨h1,rfl⟩:=pair_inj h
  exact r144 a0 a1 a2 a3 h1
 ·cases h
def G145_0 {β:Type} (t7:Int) (t21:List AV) (t22:Int) (h2_0:List AV) (h2_1:List AV) (h2_2:List AV) (h3:List AV) (t23:Int) (h0:List AV) (h1:List AV) (N:((Int × (List AV) × (List AV)))→β) (K:(((List AV) × (List AV)) ⊕ ((List AV) × (List AV) × (List AV) × (List AV) × Int × Int × (List AV)))→β) (d:β):β:=by
 refine (?f0:(List AV)→(List AV)→(List AV)→β) (v64_0 h2_0 h2_1 h2_2) (v64_1 h2_0 h2_1 h2_2) (v64_2 h2_0 h2_1 h2_2);intro x1 x2 x3
 exact (bif decide (t23<t22) then (bif (decide (0≤t23) && decide (t23<(t21.length:Int))) then (bif decide (fI (t21.getD t23.toNat .undef) 0<0) then (bif q64 h2_0 h2_1 h2_2 then K (.inr (h0,h1,x1,x2,fI (t21.getD t23.toNat .undef) 0,fI (t21.getD t23.toNat .undef) 1,x3))
 else d)
 else (bif decide (fI (t21.getD t23.toNat .undef) 0 ≥ t7) then (bif q64 h2_0 h2_1 h2_2 then K (.inr (h0,h1,x1,x2,fI (t21.getD t23.toNat .undef) 0,fI (t21.getD t23.toNat .undef) 1,x3))
 else d)
 else (bif decide (fI (t21.getD t23.toNat .undef) 1<0) then (bif q64 h2_0 h2_1 h2_2 then K (.inr (h0,h1,x1,x2,fI (t21.getD t23.toNat .undef) 0,fI (t21.getD t23.toNat .undef) 1,x3))
 else d)
 else (bif decide (fI (t21.getD t23.toNat .undef) 1 ≥ t7) then (bif q64 h2_0 h2_1 h2_2 then K (.inr (h0,h1,x1,x2,fI (t21.getD t23.toNat .undef) 0,fI (t21.getD t23.toNat .undef) 1,x3))
 else d)
 else (bif (decide (0≤fI (t21.getD t23.toNat .undef) 1) && decide (fI (t21.getD t23.toNat .undef) 1<(h0.length:Int))) then (bif (decide (0≤fI (t21.getD t23.toNat .undef) 0) && decide (fI (t21.getD t23.toNat .undef) 0<(h0.length:Int))) then (bif (decide (0≤fI (t21.getD t23.toNat .undef) 0) && decide (fI (t21.getD t23.toNat .undef) 0<(h0.length:Int))) then (bif (decide (0≤fI (t21.getD t23.toNat .undef) 1) && decide (fI (t21.getD t23.toNat .undef) 1<((h0.set (fI (t21.getD t23.toNat .undef) 0).toNat (AV.agg [AV.int .i64 (fI (h0.getD (fI (t21.getD t23.toNat .undef) 1).toNat .undef) 0)])).length:Int))) then (bif (decide (0≤fI (t21.getD t23.toNat .undef) 1) && decide (fI (t21.getD t23.toNat .undef) 1<(h1.length:Int))) then (bif (decide (0≤fI (t21.getD t23.toNat .undef) 0) && decide (fI (t21.getD t23.toNat .undef) 0<(h1.length:Int))) then (bif (decide (0≤fI (t21.getD t23.toNat .undef) 0) && decide (fI (t21.getD t23.toNat .undef) 0<(h1.length:Int))) then (bif (decide (0≤fI (t21.getD t23.toNat .undef) 1) && decide (fI (t21.getD t23.toNat .undef) 1<((h1.set (fI (t21.getD t23.toNat .undef) 0).toNat (AV.agg [AV.int .i64 (fI (h1.getD (fI (t21.getD t23.toNat .undef) 1).toNat .undef) 0)])).length:Int))) then N (IntKind.i64.wrap (t23+1),(h0.set (fI (t21.getD t23.toNat .undef) 0).toNat (AV.agg [AV.int .i64 (fI (h0.getD (fI (t21.getD t23.toNat .undef) 1).toNat .undef) 0)])).set (fI (t21.getD t23.toNat .undef) 1).toNat (AV.agg [AV.int .i64 (fI (h0.getD (fI (t21.getD t23.toNat .undef) 0).toNat .undef) 0)]),(h1.set (fI (t21.getD t23.toNat .undef) 0).toNat (AV.agg [AV.int .i64 (fI (h1.getD (fI (t21.getD t23.toNat .undef) 1).toNat .undef) 0)])).set (fI (t21.getD t23.toNat .undef) 1).toNat (AV.agg [AV.int .i64 (fI (h1.getD (fI (t21.getD t23.toNat .undef) 0).toNat .undef) 0)]))
 else d)
 else d)
 else d)
 else d)
 else d)
 else d)
 else d)
 else d)))))
 else d)
 else K (.inl (h0,h1)))
def F145_0 (t7:Int) (t21:List AV) (t22:Int) (h2_0 h2_1 h2_2 h3:List AV) (t23:Int) (h0 h1:List AV):Out ((Int × (List AV) × (List AV))) (((List AV) × (List AV)) ⊕ ((List AV) × (List AV) × (List AV) × (List AV) × Int × Int × (List AV))):=G145_0 t7 t21 t22 h2_0 h2_1 h2_2 h3 t23 h0 h1 .next .stop .fail
def R145_0 (t7:Int) (t21:List AV) (t22:Int) (h2_0 h2_1 h2_2 h3:List AV):((Int × (List AV) × (List AV)))→Out ((Int × (List AV) × (List AV))) (((List AV) × (List AV)) ⊕ ((List AV) × (List AV) × (List AV) × (List AV) × Int × Int × (List AV))):=fun s:Int × (List AV) × (List AV)=>F145_0 t7 t21 t22 h2_0 h2_1 h2_2 h3 s.1 s.2.1 s.2.2
def E145_0 (t7:Int) (t21:List AV) (t22:Int) (h2_0 h2_1 h2_2 h3:List AV):((Int × (List AV) × (List AV)))→St:=fun s:Int × (List AV) × (List AV)=>⟨[(2,AV.ptr [0,2] 0 0),(4,AV.ptr [0,4] 0 0),(6,AV.ptr [0,6] 0 0),(7,Ai t7),(21,AV.sl [.int .i64,.int .i64] t21),(22,Ai t22),(23,Ai s.1)],[([0,0,6],⟨false,[.int .i64],s.2.1⟩),([0,1,6],⟨false,[.int .i64],s.2.2⟩),([0,2],⟨true,[],[AV.agg [AV.sl [.int .i64] h2_0,AV.sl [.int .i64] h2_1,AV.sl [.int .i64,.int .i64] h2_2]]⟩),([0,2,6],⟨false,[.int .i64,.int .i64],h3⟩),([0,4],⟨true,[],[AV.agg [AV.snil,AV.snil,AV.snil]]⟩),([0,6],⟨true,[],[AV.agg [AV.own [0,0,6],AV.own [0,1,6],AV.own [0,2,6]]]⟩)]⟩
def K145_0 (t7:Int) (t21:List AV) (t22:Int) (h2_0 h2_1 h2_2 h3:List AV) (k:Kont):(((List AV) × (List AV)) ⊕ ((List AV) × (List AV) × (List AV) × (List AV) × Int × Int × (List AV)))→Option AV:=sumE (fun p:(List AV) × (List AV)=>k (.exit 0) ⟨[(4,AV.ptr [0,4] 0 0),(6,AV.ptr [0,6] 0 0)],[([0,0,6],⟨false,[.int .i64],p.1⟩),([0,1,6],⟨false,[.int .i64],p.2⟩),([0,2],⟨true,[],[AV.agg [AV.sl [.int .i64] h2_0,AV.sl [.int .i64] h2_1,AV.sl [.int .i64,.int .i64] h2_2]]⟩),([0,2,6],⟨false,[.int .i64,.int .i64],h3⟩),([0,4],⟨true,[],[AV.agg [AV.snil,AV.snil,AV.snil]]⟩),([0,6],⟨true,[],[AV.agg [AV.own [0,0,6],AV.own [0,1,6],AV.own [0,2,6]]]⟩)]⟩) (fun p:(List AV) × (List AV) × (List AV) × (List AV) × Int × Int × (List AV)=>k .ret ⟨[(4,AV.ptr [0,4] 0 0),(5,AV.bool false)],[([0,0,6],⟨false,[.int .i64],p.1⟩),([0,1,6],⟨false,[.int .i64],p.2.1⟩),([0,1,48],⟨false,[.int .i64],p.2.2.1⟩),([0,2],⟨true,[],[AV.agg [AV.sl [.int .i64] h2_0,AV.sl [.int .i64] h2_1,AV.sl [.int .i64,.int .i64] h2_2]]⟩),([0,2,6],⟨false,[.int .i64,.int .i64],h3⟩),([0,4],⟨true,[],[AV.agg [AV.own [0,1,48],AV.own [1,1,48],AV.own [2,1,48]]]⟩),([0,6],⟨true,[],[AV.agg [AV.own [0,0,6],AV.own [0,1,6],AV.own [0,2,6]]]⟩),([1,1,48],⟨false,[.int .i64],p.2.2.2.1⟩),([1,9],⟨true,[],[AV.agg [Ai p.2.2.2.2.1,Ai p.2.2.2.2.2.1]]⟩),([2,1,48],⟨false,[.int .i64,.int .i64],p.2.2.2.2.2.2⟩)]⟩)
def l145_0:LModel:=fun _ _ st k=>match st with
 | ⟨[(2,.ptr g0 g1 g2),(4,.ptr g3 g4 g5),(6,.ptr g6 g7 g8),(7,.int .i64 t7),(21,.sl g9 t21),(22,.int .i64 t22),(23,.int .i64 t23)],[(g10,⟨false,g11,h0⟩),(g12,⟨false,g13,h1⟩),(g14,⟨true,[],[.agg [.sl g15 h2_0,.sl g16 h2_1,.sl g17 h2_2]]⟩),(g18,⟨false,g19,h3⟩),(g20,⟨true,[],[.agg [.snil,.snil,.snil]]⟩),(g21,⟨true,[],[.agg [.own g22,.own g23,.own g24]]⟩)]⟩=>bif nmEq g0 ([0,2]) && Nat.beq g1 0 && Nat.beq g2 0 && nmEq g3 ([0,4]) && Nat.beq g4 0 && Nat.beq g5 0 && nmEq g6 ([0,6]) && Nat.beq g7 0 && Nat.beq g8 0 && ctsEq g9 ([.int .i64,.int .i64]) && nmEq g10 ([0,0,6]) && ctsEq g11 ([.int .i64]) && nmEq g12 ([0,1,6]) && ctsEq g13 ([.int .i64]) && nmEq g14 ([0,2]) && ctsEq g15 ([.int .i64]) && ctsEq g16 ([.int .i64]) && ctsEq g17 ([.int .i64,.int .i64]) && nmEq g18 ([0,2,6]) && ctsEq g19 ([.int .i64,.int .i64]) && nmEq g20 ([0,4]) && nmEq g21 ([0,6]) && nmEq g22 ([0,0,6]) && nmEq g23 ([0,1,6]) && nmEq g24 ([0,2,6]) then ro (runW (R145_0 t7 t21 t22 h2_0 h2_1 h2_2 h3) ((t22 - t23:Int).toNat+1) (t23,h0,h1)) none (K145_0 t7 t21 t22 h2_0 h2_1 h2_2 h3 k) else none
 | _=>none
noncomputable def c145:Cfg:=cfg Tryz.prog [(145,0,[2,4,6,7,21,22,23]),(145,999,[4,5]),(145,1000,[4,6]),(145,1001,[2,4,6,7,21,22,23])] [(64,m64)] [] [] [(145,0,l145_0)]
theorem s145_0 (t7:Int) (t21:List AV) (t22:Int) (h2_0 h2_1 h2_2 h3:List AV) (ce:CallE) (k:Kont) (s:Int × (List AV) × (List AV)) (next:St→Option AV):stepA (codeA c145 ce [] 145 0 (sub [1,1,1,0,1,0,0] (body Tryz.f145))) (normA [] [2,4,6,7,21,22,23]) next ((E145_0 t7 t21 t22 h2_0 h2_1 h2_2 h3) s) k=G145_0 t7 t21 t22 h2_0 h2_1 h2_2 h3 s.1 s.2.1 s.2.2 (fun s=>next ((E145_0 t7 t21 t22 h2_0 h2_1 h2_2 h3) s)) (K145_0 t7 t21 t22 h2_0 h2_1 h2_2 h3 k) none:=by kernel_rfl
theorem st145_0 (t7:Int) (t21:List AV) (t22:Int) (h2_0 h2_1 h2_2 h3:List AV) (ce:CallE) (k:Kont) (s:(Int × (List AV) × (List AV))) (next:St→Option AV):stepA (codeA c145 ce [] 145 0 (sub [1,1,1,0,1,0,0] (body Tryz.f145))) (normA [] [2,4,6,7,21,22,23]) next ((E145_0 t7 t21 t22 h2_0 h2_1 h2_2 h3) s) k=(R145_0 t7 t21 t22 h2_0 h2_1 h2_2 h3 s).el none (fun s=>next ((E145_0 t7 t21 t22 h2_0 h2_1 h2_2 h3) s)) (K145_0 t7 t21 t22 h2_0 h2_1 h2_2 h3 k):=(s145_0 t7 t21 t22 h2_0 h2_1 h2_2 h3 ce k s next).trans (by unfold R145_0;unfold F145_0 G145_0;simp only [el_cond,el_ro,el_sum,el_fail,el_next,el_stop] <;> rfl)
theorem ok145_0 {ce:CallE}:LoopOK c145 ce [] 145 0 (sub [1,1,1,0,1,0,0] (body Tryz.f145)):=by
 intro m hm st k r h
 obtain rfl:l145_0=m:=Option.some.inj hm
 unfold l145_0 at h
 split at h
 ·rename_i g0 g1 g2 g3 g4 g5 g6 g7 g8 t7 g9 t21 t22 t23 g10 g11 h0 g12 g13 h1 g14 g15 h2_0 g16 h2_1 g17 h2_2 g18 g19 h3 g20 g21 g22 g23 g24
  obtain ⟨hg,h⟩:=bif_some h
  simp only [Bool.and_eq_true] at hg
  obtain ⟨⟨⟨⟨⟨⟨⟨⟨⟨⟨⟨⟨⟨⟨⟨⟨⟨⟨⟨⟨⟨⟨⟨⟨q0,q1⟩,q2⟩,q3⟩,q4⟩,q5⟩,q6⟩,q7⟩,q8⟩,q9⟩,q10⟩,q11⟩,q12⟩,q13⟩,q14⟩,q15⟩,q16⟩,q17⟩,q18⟩,q19⟩,q20⟩,q21⟩,q22⟩,q23⟩,q24⟩:=hg
  obtain rfl:=nE q0
  obtain rfl:=bE q1
  obtain rfl:=bE q2
  obtain rfl:=nE q3
  obtain rfl:=bE q4
  obtain rfl:=bE q5
  obtain rfl:=nE q6
  obtain rfl:=bE q7
  obtain rfl:=bE q8
  obtain rfl:=cE q9
  obtain rfl:=nE q10
  obtain rfl:=cE q11
  obtain rfl:=nE q12
  obtain rfl:=cE q13
  obtain rfl:=nE q14
  obtain rfl:=cE q15
  obtain rfl:=cE q16
  obtain rfl:=cE q17
  obtain rfl:=nE q18
  obtain rfl:=cE q19
  obtain rfl:=nE q20
  obtain rfl:=nE q21
  obtain rfl:=nE q22
  obtain rfl:=nE q23
  obtain rfl:=nE q24
  refine ⟨((t22 - t23:Int).toNat+1),?_⟩
  rw [← h]
  exact loop_run (E145_0 t7 t21 t22 h2_0 h2_1 h2_2 h3) (K145_0 t7 t21 t22 h2_0 h2_1 h2_2 h3 k) (st145_0 t7 t21 t22 h2_0 h2_1 h2_2 h3 ce k) _ (t23,h0,h1)
 ·cases h
def q145 (xa xb xc a1:List AV):Bool:=(q64 xa xb xc && (bif !decide ((xb.length:Int)=(xa.length:Int)) then true else (ro (runW (R145_0 (xa.length:Int) a1 (a1.length:Int) xa xb xc (v64_2 xa xb xc)) (((a1.length:Int) - 0:Int).toNat+1) (0,(v64_0 xa xb xc),(v64_1 xa xb xc))) false (sumE (fun p60=>true) (fun p61=>true)))))
def v145_0 (xa xb xc a1:List AV):List AV:=(bif !decide ((xb.length:Int)=(xa.length:Int)) then (v64_0 xa xb xc) else (ro (runW (R145_0 (xa.length:Int) a1 (a1.length:Int) xa xb xc (v64_2 xa xb xc)) (((a1.length:Int) - 0:Int).toNat+1) (0,(v64_0 xa xb xc),(v64_1 xa xb xc))) [] (sumE (fun p60=>p60.1) (fun p61=>p61.2.2.1))))
def v145_1 (xa xb xc a1:List AV):List AV:=(bif !decide ((xb.length:Int)=(xa.length:Int)) then (v64_1 xa xb xc) else (ro (runW (R145_0 (xa.length:Int) a1 (a1.length:Int) xa xb xc (v64_2 xa xb xc)) (((a1.length:Int) - 0:Int).toNat+1) (0,(v64_0 xa xb xc),(v64_1 xa xb xc))) [] (sumE (fun p60=>p60.2) (fun p61=>p61.2.2.2.1))))
def v145_2 (xa xb xc a1:List AV):List AV:=(bif !decide ((xb.length:Int)=(xa.length:Int)) then (v64_2 xa xb xc) else (ro (runW (R145_0 (xa.length:Int) a1 (a1.length:Int) xa xb xc (v64_2 xa xb xc)) (((a1.length:Int) - 0:Int).toNat+1) (0,(v64_0 xa xb xc),(v64_1 xa xb xc))) [] (sumE (fun p60=>(v64_2 xa xb xc)) (fun p61=>p61.2.2.2.2.2.2))))
def v145_3 (xa xb xc a1:List AV):Bool:=(bif !decide ((xb.length:Int)=(xa.length:Int)) then false else (ro (runW (R145_0 (xa.length:Int) a1 (a1.length:Int) xa xb xc (v64_2 xa xb xc)) (((a1.length:Int) - 0:Int).toNat+1) (0,(v64_0 xa xb xc),(v64_1 xa xb xc))) false (sumE (fun p60=>true) (fun p61=>false))))
theorem e145 (xa xb xc a1:List AV):funA c145 0 145 [AV.agg [AV.sl [.int .i64] xa,AV.sl [.int .i64] xb,AV.sl [.int .i64,.int .i64] xc],AV.sl [.int .i64,.int .i64] a1]=(bif q64 xa xb xc then (bif !decide ((xb.length:Int)=(xa.length:Int)) then some (AV.tup [AV.agg [AV.fl [.int .i64] (v64_0 xa xb xc),AV.fl [.int .i64] (v64_1 xa xb xc),AV.fl [.int .i64,.int .i64] (v64_2 xa xb xc)],AV.bool false])
 else (ro (runW (R145_0 (xa.length:Int) a1 (a1.length:Int) xa xb xc (v64_2 xa xb xc)) (((a1.length:Int) - 0:Int).toNat+1) (0,(v64_0 xa xb xc),(v64_1 xa xb xc))) none (sumE (fun p60=>some (AV.tup [AV.agg [AV.fl [.int .i64] p60.1,AV.fl [.int .i64] p60.2,AV.fl [.int .i64,.int .i64] (v64_2 xa xb xc)],AV.bool true])) (fun p61=>some (AV.tup [AV.agg [AV.fl [.int .i64] p61.2.2.1,AV.fl [.int .i64] p61.2.2.2.1,AV.fl [.int .i64,.int .i64] p61.2.2.2.2.2.2],AV.bool false])))))
 else none):=by kernel_rfl
theorem r145 (xa xb xc a1:List AV) (h:q145 xa xb xc a1=true):funA c145 0 145 [AV.agg [AV.sl [.int .i64] xa,AV.sl [.int .i64] xb,AV.sl [.int .i64,.int .i64] xc],AV.sl [.int .i64,.int .i64] a1]=some (AV.tup [AV.agg [AV.fl [.int .i64] (v145_0 xa xb xc a1),AV.fl [.int .i64] (v145_1 xa xb xc a1),AV.fl [.int .i64,.int .i64] (v145_2 xa xb xc a1)],AV.bool (v145_3 xa xb xc a1)]):=by
 refine (e145 xa xb xc a1).trans ?_
 unfold q145 at h
 unfold v145_0 v145_1 v145_2 v145_3
 refine ifG (fun hc=>?_) (fun hc=>?_) <;> first|rw [hc] at h ⊢|rw [hc] at h|rw [hc]|skip
 ·refine ifG (fun hc=>?_) (fun hc=>?_) <;> first|rw [hc] at h ⊢|rw [hc] at h|rw [hc]|skip
  ·rfl
  ·refine roG (fun hc=>?_) (fun r hc=>?_) <;> first|rw [hc] at h ⊢|rw [hc] at h|rw [hc]|skip
   ·exact Bool.noConfusion h
   ·try simp only [ro] at h ⊢
    cases r with
    | inl p60 =>
     try simp only [sumE] at h ⊢
     rfl
    | inr p61 =>
     try simp only [sumE] at h ⊢
     rfl
 ·first|exact Bool.noConfusion h|exact Bool.noConfusion hc
def m145:TModel
 | [.agg [.sl g0 xa,.sl g1 xb,.sl g2 xc],.sl g3 a1]=>bif ctsEq g0 ([.int .i64]) && ctsEq g1 ([.int .i64]) && ctsEq g2 ([.int .i64,.int .i64]) && ctsEq g3 ([.int .i64,.int .i64]) then some (q145 xa xb xc a1,AV.tup [AV.agg [AV.fl [.int .i64] (v145_0 xa xb xc a1),AV.fl [.int .i64] (v145_1 xa xb xc a1),AV.fl [.int .i64,.int .i64] (v145_2 xa xb xc a1)],AV.bool (v145_3 xa xb xc a1)]) else none
 | _=>none
theorem k145:Known Tryz.prog 145:=⟨Tryz.f145,Tryz.func145,by kernel_rfl,by kernel_rfl⟩
theorem meets145:Meets Tryz.prog 145 m145:=by
 refine mt (lvl:=0) (cf:=c145) rfl mixed k145 Tryz.func145 (by kernel_rfl) (loops_cons ok145_0 noLoop) (allT_cons meets64 allT_nil) allM_nil noI fun xs r h=>?_
 unfold m145 at h
 split at h
 ·rename_i g0 xa g1 xb g2 xc g3 a1
  obtain ⟨hg,h⟩:=bif_pair h
  simp only [Bool.and_eq_true] at hg
  obtain ⟨⟨⟨q0,q1⟩,q2⟩,q3⟩:=hg
  obtain rfl:=cE q0
  obtain rfl:=cE q1
  obtain rfl:=cE q2
  obtain rfl:=cE q3
  obtain ⟨h1,rfl⟩:=pair_inj h
  exact r145 xa xb xc a1 h1
 ·cases h
noncomputable def c165:Cfg:=cfg Tryz.prog [(165,999,[3])] [] [] [] []
def v165_0 (xa xb:Int) (a1:AV):Bool:=decide (xa > fI a1 0)
theorem e165 (xa xb:Int) (a1:AV):funA c165 0 165 [AV.agg [Ai xa,Ai xb],AV.rptr [.int .i64,.int .i64] a1 0]=some (AV.bool (decide (xa > fI a1 0))):=by kernel_rfl
def m165:TModel
 | [.agg [.int .i64 xa,.int .i64 xb],.rptr g0 a1 g1]=>bif ctsEq g0 ([.int .i64,.int .i64]) && Nat.beq g1 0 then some (true,AV.bool (v165_0 xa xb a1)) else none
 | _=>none
theorem k165:Known Tryz.prog 165:=⟨Tryz.f165,Tryz.func165,by kernel_rfl,by kernel_rfl⟩
theorem meets165:Meets Tryz.prog 165 m165:=by
 refine mt (lvl:=0) (cf:=c165) rfl mixed k165 Tryz.func165 (by kernel_rfl) noLoop allT_nil allM_nil noI fun xs r h=>?_
 unfold m165 at h
 split at h
 ·rename_i xa xb g0 a1 g1
  obtain ⟨hg,h⟩:=bif_pair h
  simp only [Bool.and_eq_true] at hg
  obtain ⟨q0,q1⟩:=hg
  obtain rfl:=cE q0
  obtain rfl:=bE q1
  obtain ⟨h1,rfl⟩:=pair_inj h
  exact (e165 xa xb a1).trans (of_tt (fun _=>rfl))
 ·cases h
def G164_0 {β:Type} (t0:List AV) (t1:AV) (t7:Int) (t8:Int) (N:(Int)→β) (K:(Unit ⊕ Int)→β) (d:β):β:=(bif decide (t8<t7) then (bif (decide (0≤t8) && decide (t8<(t0.length:Int))) then (bif (v165_0 (fI (t0.getD t8.toNat .undef) 0) (fI (t0.getD t8.toNat .undef) 1) t1) then K (.inr t8)
 else N (IntKind.i64.wrap (t8+1)))
 else d)
 else K (.inl ()))
def F164_0 (t0:List AV) (t1:AV) (t7 t8:Int):Out (Int) (Unit ⊕ Int):=G164_0 t0 t1 t7 t8 .next .stop .fail
def R164_0 (t0:List AV) (t1:AV) (t7:Int):(Int)→Out (Int) (Unit ⊕ Int):=fun s:Int=>F164_0 t0 t1 t7 s
def E164_0 (t0:List AV) (t1:AV) (t7:Int):(Int)→St:=fun s:Int=>⟨[(0,AV.sl [.int .i64,.int .i64] t0),(1,AV.fn 165 [AV.rptr [.int .i64,.int .i64] t1 0]),(7,Ai t7),(8,Ai s)],[]⟩
def K164_0 (t0:List AV) (t1:AV) (t7:Int) (k:Kont):(Unit ⊕ Int)→Option AV:=sumE (fun _:Unit=>k (.exit 0) ⟨[],[]⟩) (fun p:Int=>k .ret ⟨[(4,Ai p)],[]⟩)
def l164_0:LModel:=fun _ _ st k=>match st with
 | ⟨[(0,.sl g0 t0),(1,.fn g1 [.rptr g2 t1 g3]),(7,.int .i64 t7),(8,.int .i64 t8)],[]⟩=>bif ctsEq g0 ([.int .i64,.int .i64]) && Nat.beq g1 165 && ctsEq g2 ([.int .i64,.int .i64]) && Nat.beq g3 0 then ro (runW (R164_0 t0 t1 t7) ((t7 - t8:Int).toNat+1) t8) none (K164_0 t0 t1 t7 k) else none
 | _=>none
noncomputable def c164:Cfg:=cfg Tryz.prog [(164,0,[0,1,7,8]),(164,999,[4]),(164,1000,[]),(164,1001,[0,1,7,8])] [(165,m165)] [] [] [(164,0,l164_0)]
theorem s164_0 (t0:List AV) (t1:AV) (t7:Int) (ce:CallE) (k:Kont) (s:Int) (next:St→Option AV):stepA (codeA c164 ce [] 164 0 (sub [1,0,1,0,0] (body Tryz.f164))) (normA [] [0,1,7,8]) next ((E164_0 t0 t1 t7) s) k=G164_0 t0 t1 t7 s (fun s=>next ((E164_0 t0 t1 t7) s)) (K164_0 t0 t1 t7 k) none:=by kernel_rfl
theorem st164_0 (t0:List AV) (t1:AV) (t7:Int) (ce:CallE) (k:Kont) (s:Int) (next:St→Option AV):stepA (codeA c164 ce [] 164 0 (sub [1,0,1,0,0] (body Tryz.f164))) (normA [] [0,1,7,8]) next ((E164_0 t0 t1 t7) s) k=(R164_0 t0 t1 t7 s).el none (fun s=>next ((E164_0 t0 t1 t7) s)) (K164_0 t0 t1 t7 k):=(s164_0 t0 t1 t7 ce k s next).trans (by unfold R164_0;unfold F164_0 G164_0;simp only [el_cond,el_ro,el_sum,el_fail,el_next,el_stop] <;> rfl)
theorem ok164_0 {ce:CallE}:LoopOK c164 ce [] 164 0 (sub [1,0,1,0,0] (body Tryz.f164)):=by
 intro m hm st k r h
 obtain rfl:l164_0=m:=Option.some.inj hm
 unfold l164_0 at h
 split at h
 ·rename_i g0 t0 g1 g2 t1 g3 t7 t8
  obtain ⟨hg,h⟩:=bif_some h
  simp only [Bool.and_eq_true] at hg
  obtain ⟨⟨⟨q0,q1⟩,q2⟩,q3⟩:=hg
  obtain rfl:=cE q0
  obtain rfl:=bE q1
  obtain rfl:=cE q2
  obtain rfl:=bE q3
  refine ⟨((t7 - t8:Int).toNat+1),?_⟩
  rw [← h]
  exact loop_run (E164_0 t0 t1 t7) (K164_0 t0 t1 t7 k) (st164_0 t0 t1 t7 ce k) _ t8
 ·cases h
def q164 (a0:List AV) (a1:AV):Bool:=(ro (runW (R164_0 a0 a1 (a0.length:Int)) (((a0.length:Int) - 0:Int).toNat+1) 0) false (sumE (fun _=>true) (fun p63=>true)))
def v164_0 (a0:List AV) (a1:AV):Int:=(ro (runW (R164_0 a0 a1 (a0.length:Int)) (((a0.length:Int) - 0:Int).toNat+1) 0) 0 (sumE (fun _=>(-1)) (fun p63=>p63)))
theorem e164 (a0:List AV) (a1:AV):funA c164 0 164 [AV.sl [.int .i64,.int .i64] a0,AV.fn 165 [AV.rptr [.int .i64,.int .i64] a1 0]]=(ro (runW (R164_0 a0 a1 (a0.length:Int)) (((a0.length:Int) - 0:Int).toNat+1) 0) none (sumE (fun _=>some (Ai (-1))) (fun p63=>some (Ai p63)))):=by kernel_rfl
def m164:TModel
 | [.sl g0 a0,.fn g1 [.rptr g2 a1 g3]]=>bif ctsEq g0 ([.int .i64,.int .i64]) && Nat.beq g1 165 && ctsEq g2 ([.int .i64,.int .i64]) && Nat.beq g3 0 then some (q164 a0 a1,AV.int .i64 (v164_0 a0 a1)) else none
 | _=>none
theorem k164:Known Tryz.prog 164:=⟨Tryz.f164,Tryz.func164,by kernel_rfl,by kernel_rfl⟩
theorem meets164:Meets Tryz.prog 164 m164:=by
 refine mt (lvl:=0) (cf:=c164) rfl mixed k164 Tryz.func164 (by kernel_rfl) (loops_cons ok164_0 noLoop) (allT_cons meets165 allT_nil) allM_nil noI fun xs r h=>?_
 unfold m164 at h
 split at h
 ·rename_i g0 a0 g1 g2 a1 g3
  obtain ⟨hg,h⟩:=bif_pair h
  simp only [Bool.and_eq_true] at hg
  obtain ⟨⟨⟨q0,q1⟩,q2⟩,q3⟩:=hg
  obtain rfl:=cE q0
  obtain rfl:=bE q1
  obtain rfl:=cE q2
  obtain rfl:=bE q3
  obtain ⟨h1,rfl⟩:=pair_inj h
  exact (e164 a0 a1).trans ((brO (fun o:Option (Unit ⊕ Int)=>some (Ai (ro o 0 (sumE (fun _=>(-1)) (fun p63=>p63))))) (brS (fun o:Unit ⊕ Int=>some (Ai ((sumE (fun _=>(-1)) (fun p63=>p63)) o))) (fun _=>(fun _=>rfl)) (fun p63=>(fun _=>rfl)))) h1)
 ·cases h
noncomputable def c146:Cfg:=cfg Tryz.prog [(146,999,[4]),(166,999,[6])] [(64,m64),(164,m164)] [] [166] [] [(166,insA Tryz.prog 26)]
def q146 (xa xb xc:List AV) (ya yb:Int):Bool:=(q64 xa xb xc && (q164 (v64_2 xa xb xc) (AV.agg [AV.int .i64 ya,AV.int .i64 yb]) && (bif decide ((v164_0 (v64_2 xa xb xc) (AV.agg [AV.int .i64 ya,AV.int .i64 yb]))<0) then (decide (0≤((v64_2 xa xb xc).length:Int)) && decide (((v64_2 xa xb xc).length:Int)≤((v64_2 xa xb xc).length:Int)) && decide (((v64_2 xa xb xc).length+1)*16≤140737488355328)) else (decide (0≤(v164_0 (v64_2 xa xb xc) (AV.agg [AV.int .i64 ya,AV.int .i64 yb]))) && decide ((v164_0 (v64_2 xa xb xc) (AV.agg [AV.int .i64 ya,AV.int .i64 yb]))≤((v64_2 xa xb xc).length:Int)) && decide (((v64_2 xa xb xc).length+1)*16≤140737488355328)))))
def v146_0 (xa xb xc:List AV) (ya yb:Int):List AV:=(v64_0 xa xb xc)
def v146_1 (xa xb xc:List AV) (ya yb:Int):List AV:=(v64_1 xa xb xc)
def v146_2 (xa xb xc:List AV) (ya yb:Int):List AV:=(bif decide ((v164_0 (v64_2 xa xb xc) (AV.agg [AV.int .i64 ya,AV.int .i64 yb]))<0) then (v64_2 xa xb xc).take (Int.toNat ((v64_2 xa xb xc).length:Int))++([AV.agg [AV.int .i64 ya,AV.int .i64 yb]])++(v64_2 xa xb xc).drop (Int.toNat ((v64_2 xa xb xc).length:Int)) else (v64_2 xa xb xc).take (Int.toNat (v164_0 (v64_2 xa xb xc) (AV.agg [AV.int .i64 ya,AV.int .i64 yb])))++([AV.agg [AV.int .i64 ya,AV.int .i64 yb]])++(v64_2 xa xb xc).drop (Int.toNat (v164_0 (v64_2 xa xb xc) (AV.agg [AV.int .i64 ya,AV.int .i64 yb]))))
theorem e146 (xa xb xc:List AV) (ya yb:Int):funA c146 1 146 [AV.agg [AV.sl [.int .i64] xa,AV.sl [.int .i64] xb,AV.sl [.int .i64,.int .i64] xc],AV.agg [Ai ya,Ai yb]]=((fun (x1:List AV) (x2:List AV) (x3:List AV)=>((fun (x4:Int)=>(bif q64 xa xb xc then (bif q164 x3 (AV.agg [Ai ya,Ai yb]) then (bif decide (x4<0) then (bif (decide (0≤(x3.length:Int)) && decide ((x3.length:Int)≤(x3.length:Int)) && decide ((x3.length+1)*16≤140737488355328)) then some (AV.agg [AV.fl [.int .i64] x1,AV.fl [.int .i64] x2,AV.fl [.int .i64,.int .i64] (x3.take (Int.toNat (x3.length:Int))++([AV.agg [Ai ya,Ai yb]])++x3.drop (Int.toNat (x3.length:Int)))])
 else none)
 else (bif (decide (0≤x4) && decide (x4≤(x3.length:Int)) && decide ((x3.length+1)*16≤140737488355328)) then some (AV.agg [AV.fl [.int .i64] x1,AV.fl [.int .i64] x2,AV.fl [.int .i64,.int .i64] (x3.take (Int.toNat x4)++([AV.agg [Ai ya,Ai yb]])++x3.drop (Int.toNat x4))])
 else none))
 else none)
 else none)) (v164_0 x3 (AV.agg [Ai ya,Ai yb])))) (v64_0 xa xb xc) (v64_1 xa xb xc) (v64_2 xa xb xc)):=by kernel_rfl
def m146:TModel
 | [.agg [.sl g0 xa,.sl g1 xb,.sl g2 xc],.agg [.int .i64 ya,.int .i64 yb]]=>bif ctsEq g0 ([.int .i64]) && ctsEq g1 ([.int .i64]) && ctsEq g2 ([.int .i64,.int .i64]) then some (q146 xa xb xc ya yb,AV.agg [AV.fl [.int .i64] (v146_0 xa xb xc ya yb),AV.fl [.int .i64] (v146_1 xa xb xc ya yb),AV.fl [.int .i64,.int .i64] (v146_2 xa xb xc ya yb)]) else none
 | _=>none
theorem k146:Known Tryz.prog 146:=⟨Tryz.f146,Tryz.func146,by kernel_rfl,by kernel_rfl⟩
theorem i146_166:InlK Tryz.prog [(146,999,[4]),(166,999,[6])] [(64,m64),(164,m164)] [] [166] [] 166 [(166,insA Tryz.prog 26)]:=⟨⟨Tryz.f166,Tryz.func166,by kernel_rfl,by kernel_rfl⟩,Tryz.f166,[],Tryz.func166,by kernel_rfl,fun ce π=>noLoop⟩
theorem meets146:Meets Tryz.prog 146 m146:=by
 refine mt (hS:=(allS_cons ins166 allS_nil)) (lvl:=1) (cf:=c146) rfl mixed k146 Tryz.func146 (by kernel_rfl) noLoop (allT_cons meets64 (allT_cons meets164 allT_nil)) allM_nil (allI_cons i146_166 noI) fun xs r h=>?_
 unfold m146 at h
 split at h
 ·rename_i g0 xa g1 xb g2 xc ya yb
  obtain ⟨hg,h⟩:=bif_pair h
  simp only [Bool.and_eq_true] at hg
  obtain ⟨⟨q0,q1⟩,q2⟩:=hg
  obtain rfl:=cE q0
  obtain rfl:=cE q1
  obtain rfl:=cE q2
  obtain ⟨h1,rfl⟩:=pair_inj h
  exact (e146 xa xb xc ya yb).trans ((brL (brL (br (fun b=>some (AV.agg [AV.fl [.int .i64] (v64_0 xa xb xc),AV.fl [.int .i64] (v64_1 xa xb xc),AV.fl [.int .i64,.int .i64] (bif b then (v64_2 xa xb xc).take (Int.toNat ((v64_2 xa xb xc).length:Int))++([AV.agg [Ai ya,Ai yb]])++(v64_2 xa xb xc).drop (Int.toNat ((v64_2 xa xb xc).length:Int)) else (v64_2 xa xb xc).take (Int.toNat (v164_0 (v64_2 xa xb xc) (AV.agg [Ai ya,Ai yb])))++([AV.agg [Ai ya,Ai yb]])++(v64_2 xa xb xc).drop (Int.toNat (v164_0 (v64_2 xa xb xc) (AV.agg [Ai ya,Ai yb]))))])) (brL1 (fun _=>rfl)) (brL1 (fun _=>rfl))))) h1)
 ·cases h
noncomputable def c110:Cfg:=cfg Tryz.prog [(110,999,[4,5])] [(64,m64),(142,m142),(143,m143),(144,m144),(145,m145),(146,m146)] [] [] []
def q110 (xa xb xc:List AV) (a1:Int):Bool:=(q142 xa xb xc a1 && (bif (v142_0 xa xb xc a1) then q64 xa xb xc else (q143 xa xb xc a1 && (q144 xa (v143_0 xa xb xc a1) (v143_1 xa xb xc a1) a1 && (q145 xa xb xc (v144_0 xa (v143_0 xa xb xc a1) (v143_1 xa xb xc a1) a1) && q146 (v145_0 xa xb xc (v144_0 xa (v143_0 xa xb xc a1) (v143_1 xa xb xc a1) a1)) (v145_1 xa xb xc (v144_0 xa (v143_0 xa xb xc a1) (v143_1 xa xb xc a1) a1)) (v145_2 xa xb xc (v144_0 xa (v143_0 xa xb xc a1) (v143_1 xa xb xc a1) a1)) a1 (v144_1 xa (v143_0 xa xb xc a1) (v143_1 xa xb xc a1) a1))))))
def v110_0 (xa xb xc:List AV) (a1:Int):List AV:=(bif (v142_0 xa xb xc a1) then (v64_0 xa xb xc) else (v146_0 (v145_0 xa xb xc (v144_0 xa (v143_0 xa xb xc a1) (v143_1 xa xb xc a1) a1)) (v145_1 xa xb xc (v144_0 xa (v143_0 xa xb xc a1) (v143_1 xa xb xc a1) a1)) (v145_2 xa xb xc (v144_0 xa (v143_0 xa xb xc a1) (v143_1 xa xb xc a1) a1)) a1 (v144_1 xa (v143_0 xa xb xc a1) (v143_1 xa xb xc a1) a1)))
def v110_1 (xa xb xc:List AV) (a1:Int):List AV:=(bif (v142_0 xa xb xc a1) then (v64_1 xa xb xc) else (v146_1 (v145_0 xa xb xc (v144_0 xa (v143_0 xa xb xc a1) (v143_1 xa xb xc a1) a1)) (v145_1 xa xb xc (v144_0 xa (v143_0 xa xb xc a1) (v143_1 xa xb xc a1) a1)) (v145_2 xa xb xc (v144_0 xa (v143_0 xa xb xc a1) (v143_1 xa xb xc a1) a1)) a1 (v144_1 xa (v143_0 xa xb xc a1) (v143_1 xa xb xc a1) a1)))
def v110_2 (xa xb xc:List AV) (a1:Int):List AV:=(bif (v142_0 xa xb xc a1) then (v64_2 xa xb xc) else (v146_2 (v145_0 xa xb xc (v144_0 xa (v143_0 xa xb xc a1) (v143_1 xa xb xc a1) a1)) (v145_1 xa xb xc (v144_0 xa (v143_0 xa xb xc a1) (v143_1 xa xb xc a1) a1)) (v145_2 xa xb xc (v144_0 xa (v143_0 xa xb xc a1) (v143_1 xa xb xc a1) a1)) a1 (v144_1 xa (v143_0 xa xb xc a1) (v143_1 xa xb xc a1) a1)))
def v110_3 (xa xb xc:List AV) (a1:Int):List AV:=(bif (v142_0 xa xb xc a1) then ([]:List AV) else (v144_0 xa (v143_0 xa xb xc a1) (v143_1 xa xb xc a1) a1))
theorem e110 (xa xb xc:List AV) (a1:Int):funA c110 0 110 [AV.agg [AV.sl [.int .i64] xa,AV.sl [.int .i64] xb,AV.sl [.int .i64,.int .i64] xc],Ai a1]=((fun (x1:Int) (x2:Int)=>((fun (x3:List AV) (x4:Int)=>((fun (x5:List AV) (x6:List AV) (x7:List AV)=>(bif q142 xa xb xc a1 then (bif (v142_0 xa xb xc a1) then (bif q64 xa xb xc then some (AV.tup [AV.agg [AV.fl [.int .i64] (v64_0 xa xb xc),AV.fl [.int .i64] (v64_1 xa xb xc),AV.fl [.int .i64,.int .i64] (v64_2 xa xb xc)],AV.fl [.int .i64,.int .i64] ([]:List AV)])
 else none)
 else (bif q143 xa xb xc a1 then (bif q144 xa x1 x2 a1 then (bif q145 xa xb xc x3 then (bif q146 x5 x6 x7 a1 x4 then some (AV.tup [AV.agg [AV.fl [.int .i64] (v146_0 x5 x6 x7 a1 x4),AV.fl [.int .i64] (v146_1 x5 x6 x7 a1 x4),AV.fl [.int .i64,.int .i64] (v146_2 x5 x6 x7 a1 x4)],AV.fl [.int .i64,.int .i64] x3])
 else none)
 else none)
 else none)
 else none))
 else none)) (v145_0 xa xb xc x3) (v145_1 xa xb xc x3) (v145_2 xa xb xc x3))) (v144_0 xa x1 x2 a1) (v144_1 xa x1 x2 a1))) (v143_0 xa xb xc a1) (v143_1 xa xb xc a1)):=by kernel_rfl
theorem r110 (xa xb xc:List AV) (a1:Int) (h:q110 xa xb xc a1=true):funA c110 0 110 [AV.agg [AV.sl [.int .i64] xa,AV.sl [.int .i64] xb,AV.sl [.int .i64,.int .i64] xc],AV.int .i64 a1]=some (AV.tup [AV.agg [AV.fl [.int .i64] (v110_0 xa xb xc a1),AV.fl [.int .i64] (v110_1 xa xb xc a1),AV.fl [.int .i64,.int .i64] (v110_2 xa xb xc a1)],AV.fl [.int .i64,.int .i64] (v110_3 xa xb xc a1)]):=by
 refine (e110 xa xb xc a1).trans ?_
 unfold q110 at h
 unfold v110_0 v110_1 v110_2 v110_3
 refine ifG (fun hc=>?_) (fun hc=>?_) <;> first|rw [hc] at h ⊢|rw [hc] at h|rw [hc]|skip
 ·refine ifG (fun hc=>?_) (fun hc=>?_) <;> first|rw [hc] at h ⊢|rw [hc] at h|rw [hc]|skip
  ·refine ifG (fun hc=>?_) (fun hc=>?_) <;> first|rw [hc] at h ⊢|rw [hc] at h|rw [hc]|skip
   ·rfl
   ·first|exact Bool.noConfusion h|exact Bool.noConfusion hc
  ·refine ifG (fun hc=>?_) (fun hc=>?_) <;> first|rw [hc] at h ⊢|rw [hc] at h|rw [hc]|skip
   ·refine ifG (fun hc=>?_) (fun hc=>?_) <;> first|rw [hc] at h ⊢|rw [hc] at h|rw [hc]|skip
    ·refine ifG (fun hc=>?_) (fun hc=>?_) <;> first|rw [hc] at h ⊢|rw [hc] at h|rw [hc]|skip
     ·refine ifG (fun hc=>?_) (fun hc=>?_) <;> first|rw [hc] at h ⊢|rw [hc] at h|rw [hc]|skip
      ·rfl
      ·first|exact Bool.noConfusion h|exact Bool.noConfusion hc
     ·first|exact Bool.noConfusion h|exact Bool.noConfusion hc
    ·first|exact Bool.noConfusion h|exact Bool.noConfusion hc
   ·first|exact Bool.noConfusion h|exact Bool.noConfusion hc
 ·first|exact Bool.noConfusion h|exact Bool.noConfusion hc
def m110:TModel
 | [.agg [.sl g0 xa,.sl g1 xb,.sl g2 xc],.int .i64 a1]=>bif ctsEq g0 ([.int .i64]) && ctsEq g1 ([.int .i64]) && ctsEq g2 ([.int .i64,.int .i64]) then some (q110 xa xb xc a1,AV.tup [AV.agg [AV.fl [.int .i64] (v110_0 xa xb xc a1),AV.fl [.int .i64] (v110_1 xa xb xc a1),AV.fl [.int .i64,.int .i64] (v110_2 xa xb xc a1)],AV.fl [.int .i64,.int .i64] (v110_3 xa xb xc a1)]) else none
 | _=>none
theorem k110:Known Tryz.prog 110:=⟨Tryz.f110,Tryz.func110,by kernel_rfl,by kernel_rfl⟩
theorem meets110:Meets Tryz.prog 110 m110:=by
 refine mt (lvl:=0) (cf:=c110) rfl mixed k110 Tryz.func110 (by kernel_rfl) noLoop (allT_cons meets64 (allT_cons meets142 (allT_cons meets143 (allT_cons meets144 (allT_cons meets145 (allT_cons meets146 allT_nil)))))) allM_nil noI fun xs r h=>?_
 unfold m110 at h
 split at h
 ·rename_i g0 xa g1 xb g2 xc a1
  obtain ⟨hg,h⟩:=bif_pair h
  simp only [Bool.and_eq_true] at hg
  obtain ⟨⟨q0,q1⟩,q2⟩:=hg
  obtain rfl:=cE q0
  obtain rfl:=cE q1
  obtain rfl:=cE q2
  obtain ⟨h1,rfl⟩:=pair_inj h
  exact r110 xa xb xc a1 h1
 ·cases h
noncomputable def c65:Cfg:=cfg Tryz.prog [(65,999,[4,5,6,7])] [(45,m45),(61,m61),(64,m64),(110,m110),(111,m111)] [] [] []
def q65 (xa xb xc:List AV) (ya yb:Int):Bool:=(q61 xa xb xc && (bif !(v61_0 xa xb xc) then q64 xa xb xc else (bif !(v45_0 ya yb) then q64 xa xb xc else (q110 xa xb xc ya && (q110 (v110_0 xa xb xc ya) (v110_1 xa xb xc ya) (v110_2 xa xb xc ya) yb && (q111 (v110_0 (v110_0 xa xb xc ya) (v110_1 xa xb xc ya) (v110_2 xa xb xc ya) yb) (v110_1 (v110_0 xa xb xc ya) (v110_1 xa xb xc ya) (v110_2 xa xb xc ya) yb) (v110_2 (v110_0 xa xb xc ya) (v110_1 xa xb xc ya) (v110_2 xa xb xc ya) yb) ya && q111 (v110_0 (v110_0 xa xb xc ya) (v110_1 xa xb xc ya) (v110_2 xa xb xc ya) yb) (v110_1 (v110_0 xa xb xc ya) (v110_1 xa xb xc ya) (v110_2 xa xb xc ya) yb) (v110_2 (v110_0 xa xb xc ya) (v110_1 xa xb xc ya) (v110_2 xa xb xc ya) yb) yb))))))
def v65_0 (xa xb xc:List AV) (ya yb:Int):List AV:=(bif !(v61_0 xa xb xc) then (v64_0 xa xb xc) else (bif !(v45_0 ya yb) then (v64_0 xa xb xc) else (v110_0 (v110_0 xa xb xc ya) (v110_1 xa xb xc ya) (v110_2 xa xb xc ya) yb)))
def v65_1 (xa xb xc:List AV) (ya yb:Int):List AV:=(bif !(v61_0 xa xb xc) then (v64_1 xa xb xc) else (bif !(v45_0 ya yb) then (v64_1 xa xb xc) else (v110_1 (v110_0 xa xb xc ya) (v110_1 xa xb xc ya) (v110_2 xa xb xc ya) yb)))
def v65_2 (xa xb xc:List AV) (ya yb:Int):List AV:=(bif !(v61_0 xa xb xc) then (v64_2 xa xb xc) else (bif !(v45_0 ya yb) then (v64_2 xa xb xc) else (v110_2 (v110_0 xa xb xc ya) (v110_1 xa xb xc ya) (v110_2 xa xb xc ya) yb)))
def v65_3 (xa xb xc:List AV) (ya yb:Int):Int:=(bif !(v61_0 xa xb xc) then 0 else (bif !(v45_0 ya yb) then 0 else (v111_0 (v110_0 (v110_0 xa xb xc ya) (v110_1 xa xb xc ya) (v110_2 xa xb xc ya) yb) (v110_1 (v110_0 xa xb xc ya) (v110_1 xa xb xc ya) (v110_2 xa xb xc ya) yb) (v110_2 (v110_0 xa xb xc ya) (v110_1 xa xb xc ya) (v110_2 xa xb xc ya) yb) ya)))
def v65_4 (xa xb xc:List AV) (ya yb:Int):Int:=(bif !(v61_0 xa xb xc) then 0 else (bif !(v45_0 ya yb) then 0 else (v111_0 (v110_0 (v110_0 xa xb xc ya) (v110_1 xa xb xc ya) (v110_2 xa xb xc ya) yb) (v110_1 (v110_0 xa xb xc ya) (v110_1 xa xb xc ya) (v110_2 xa xb xc ya) yb) (v110_2 (v110_0 xa xb xc ya) (v110_1 xa xb xc ya) (v110_2 xa xb xc ya) yb) yb)))
def v65_5 (xa xb xc:List AV) (ya yb:Int):Int:=(bif !(v61_0 xa xb xc) then 0 else (bif !(v45_0 ya yb) then 0 else IntKind.i64.wrap (((v110_3 xa xb xc ya).length:Int)+((v110_3 (v110_0 xa xb xc ya) (v110_1 xa xb xc ya) (v110_2 xa xb xc ya) yb).length:Int))))
theorem e65 (xa xb xc:List AV) (ya yb:Int):funA c65 0 65 [AV.agg [AV.sl [.int .i64] xa,AV.sl [.int .i64] xb,AV.sl [.int .i64,.int .i64] xc],AV.agg [Ai ya,Ai yb]]=((fun (x1:List AV) (x2:List AV) (x3:List AV) (x4:List AV)=>((fun (x5:List AV) (x6:List AV) (x7:List AV) (x8:List AV)=>(bif q61 xa xb xc then (bif !(v61_0 xa xb xc) then (bif q64 xa xb xc then some (AV.tup [AV.agg [AV.fl [.int .i64] (v64_0 xa xb xc),AV.fl [.int .i64] (v64_1 xa xb xc),AV.fl [.int .i64,.int .i64] (v64_2 xa xb xc)],Ai 0,Ai 0,Ai 0])
 else none)
 else (bif !(v45_0 ya yb) then (bif q64 xa xb xc then some (AV.tup [AV.agg [AV.fl [.int .i64] (v64_0 xa xb xc),AV.fl [.int .i64] (v64_1 xa xb xc),AV.fl [.int .i64,.int .i64] (v64_2 xa xb xc)],Ai 0,Ai 0,Ai 0])
 else none)
 else (bif q110 xa xb xc ya then (bif q110 x1 x2 x3 yb then (bif q111 x5 x6 x7 ya then (bif q111 x5 x6 x7 yb then some (AV.tup [AV.agg [AV.fl [.int .i64] x5,AV.fl [.int .i64] x6,AV.fl [.int .i64,.int .i64] x7],Ai (v111_0 x5 x6 x7 ya),Ai (v111_0 x5 x6 x7 yb),Ai (IntKind.i64.wrap ((x4.length:Int)+(x8.length:Int)))])
 else none)
 else none)
 else none)
 else none)))
 else none)) (v110_0 x1 x2 x3 yb) (v110_1 x1 x2 x3 yb) (v110_2 x1 x2 x3 yb) (v110_3 x1 x2 x3 yb))) (v110_0 xa xb xc ya) (v110_1 xa xb xc ya) (v110_2 xa xb xc ya) (v110_3 xa xb xc ya)):=by kernel_rfl
theorem r65 (xa xb xc:List AV) (ya yb:Int) (h:q65 xa xb xc ya yb=true):funA c65 0 65 [AV.agg [AV.sl [.int .i64] xa,AV.sl [.int .i64] xb,AV.sl [.int .i64,.int .i64] xc],AV.agg [AV.int .i64 ya,AV.int .i64 yb]]=some (AV.tup [AV.agg [AV.fl [.int .i64] (v65_0 xa xb xc ya yb),AV.fl [.int .i64] (v65_1 xa xb xc ya yb),AV.fl [.int .i64,.int .i64] (v65_2 xa xb xc ya yb)],AV.int .i64 (v65_3 xa xb xc ya yb),AV.int .i64 (v65_4 xa xb xc ya yb),AV.int .i64 (v65_5 xa xb xc ya yb)]):=by
 refine (e65 xa xb xc ya yb).trans ?_
 unfold q65 at h
 unfold v65_0 v65_1 v65_2 v65_3 v65_4 v65_5
 refine ifG (fun hc=>?_) (fun hc=>?_) <;> first|rw [hc] at h ⊢|rw [hc] at h|rw [hc]|skip
 ·refine ifG (fun hc=>?_) (fun hc=>?_) <;> first|rw [hc] at h ⊢|rw [hc] at h|rw [hc]|skip
  ·refine ifG (fun hc=>?_) (fun hc=>?_) <;> first|rw [hc] at h ⊢|rw [hc] at h|rw [hc]|skip
   ·rfl
   ·first|exact Bool.noConfusion h|exact Bool.noConfusion hc
  ·refine ifG (fun hc=>?_) (fun hc=>?_) <;> first|rw [hc] at h ⊢|rw [hc] at h|rw [hc]|skip
   ·refine ifG (fun hc=>?_) (fun hc=>?_) <;> first|rw [hc] at h ⊢|rw [hc] at h|rw [hc]|skip
    ·rfl
    ·first|exact Bool.noConfusion h|exact Bool.noConfusion hc
   ·refine ifG (fun hc=>?_) (fun hc=>?_) <;> first|rw [hc] at h ⊢|rw [hc] at h|rw [hc]|skip
    ·refine ifG (fun hc=>?_) (fun hc=>?_) <;> first|rw [hc] at h ⊢|rw [hc] at h|rw [hc]|skip
     ·refine ifG (fun hc=>?_) (fun hc=>?_) <;> first|rw [hc] at h ⊢|rw [hc] at h|rw [hc]|skip
      ·refine ifG (fun hc=>?_) (fun hc=>?_) <;> first|rw [hc] at h ⊢|rw [hc] at h|rw [hc]|skip
       ·rfl
       ·first|exact Bool.noConfusion h|exact Bool.noConfusion hc
      ·first|exact Bool.noConfusion h|exact Bool.noConfusion hc
     ·first|exact Bool.noConfusion h|exact Bool.noConfusion hc
    ·first|exact Bool.noConfusion h|exact Bool.noConfusion hc
 ·first|exact Bool.noConfusion h|exact Bool.noConfusion hc
def m65:TModel
 | [.agg [.sl g0 xa,.sl g1 xb,.sl g2 xc],.agg [.int .i64 ya,.int .i64 yb]]=>bif ctsEq g0 ([.int .i64]) && ctsEq g1 ([.int .i64]) && ctsEq g2 ([.int .i64,.int .i64]) then some (q65 xa xb xc ya yb,AV.tup [AV.agg [AV.fl [.int .i64] (v65_0 xa xb xc ya yb),AV.fl [.int .i64] (v65_1 xa xb xc ya yb),AV.fl [.int .i64,.int .i64] (v65_2 xa xb xc ya yb)],AV.int .i64 (v65_3 xa xb xc ya yb),AV.int .i64 (v65_4 xa xb xc ya yb),AV.int .i64 (v65_5 xa xb xc ya yb)]) else none
 | _=>none
theorem k65:Known Tryz.prog 65:=⟨Tryz.f65,Tryz.func65,by kernel_rfl,by kernel_rfl⟩
theorem meets65:Meets Tryz.prog 65 m65:=by
 refine mt (lvl:=0) (cf:=c65) rfl mixed k65 Tryz.func65 (by kernel_rfl) noLoop (allT_cons meets45 (allT_cons meets61 (allT_cons meets64 (allT_cons meets110 (allT_cons meets111 allT_nil))))) allM_nil noI fun xs r h=>?_
 unfold m65 at h
 split at h
 ·rename_i g0 xa g1 xb g2 xc ya yb
  obtain ⟨hg,h⟩:=bif_pair h
  simp only [Bool.and_eq_true] at hg
  obtain ⟨⟨q0,q1⟩,q2⟩:=hg
  obtain rfl:=cE q0
  obtain rfl:=cE q1
  obtain rfl:=cE q2
  obtain ⟨h1,rfl⟩:=pair_inj h
  exact r65 xa xb xc ya yb h1
 ·cases h
def q128 (b0:List AV):Bool:=decide (b0.length*8≤140737488355328)
def v128_0 (b0:List AV):List AV:=sortL b0
def m128:WModel:=sortM
theorem k128:Known Tryz.prog 128:=⟨Tryz.f128,Tryz.func128,by kernel_rfl,by kernel_rfl⟩
theorem meets128:MeetsM Tryz.prog 128 m128:=sort_meets ⟨k128,fun blk off cap zs w h1 h2 h3=>Any.slices_Sort_int lays189 blk off cap zs w h1 h2 h3,fun p cap w=>Any.slices_Sort_int_none lays189 p cap w⟩
noncomputable def c82:Cfg:=cfg Tryz.prog [(82,999,[2])] [(108,m108)] [(128,.w m128)] [] []
def q82 (a0:List AV):Bool:=(q108 a0 && q128 (v108_0 a0))
def v82_0 (a0:List AV):List AV:=(v128_0 (v108_0 a0))
theorem e82 (a0:List AV):funA c82 0 82 [AV.sl [.int .i64] a0]=(bif q108 a0 then (bif q128 (v108_0 a0) then some (AV.fl [.int .i64] (v128_0 (v108_0 a0)))
 else none)
 else none):=by kernel_rfl
def m82:TModel
 | [.sl g0 a0]=>bif ctsEq g0 ([.int .i64]) then some (q82 a0,AV.fl [.int .i64] (v82_0 a0)) else none
 | _=>none
theorem k82:Known Tryz.prog 82:=⟨Tryz.f82,Tryz.func82,by kernel_rfl,by kernel_rfl⟩
theorem meets82:Meets Tryz.prog 82 m82:=by
 refine mt (lvl:=0) (cf:=c82) rfl mixed k82 Tryz.func82 (by kernel_rfl) noLoop (allT_cons meets108 allT_nil) (allM_cons meets128 allM_nil) noI fun xs r h=>?_
 unfold m82 at h
 split at h
 ·rename_i g0 a0
  obtain ⟨hg,h⟩:=bif_pair h
  have q0:=hg
  obtain rfl:=cE q0
  obtain ⟨h1,rfl⟩:=pair_inj h
  exact (e82 a0).trans ((brL (brL1 (fun _=>rfl))) h1)
 ·cases h
noncomputable def c100:Cfg:=cfg Tryz.prog [(100,999,[6])] [(61,m61),(82,m82)] [] [] []
def q100 (xa xb xc:List AV) (a1 a2:Int):Bool:=(q61 xa xb xc && (bif !(v61_0 xa xb xc) then true else (bif decide (a1<0) then true else (bif decide (a1 > a2) then true else (bif decide (a2 > (xb.length:Int)) then true else ((decide (0≤a1) && decide (a1≤a2) && decide (a2≤(xb.length:Int))) && q82 ((xb.take (Int.toNat a2)).drop (Int.toNat a1))))))))
def v100_0 (xa xb xc:List AV) (a1 a2:Int):List AV:=(bif !(v61_0 xa xb xc) then ([]:List AV) else (bif decide (a1<0) then ([]:List AV) else (bif decide (a1 > a2) then ([]:List AV) else (bif decide (a2 > (xb.length:Int)) then ([]:List AV) else (v82_0 ((xb.take (Int.toNat a2)).drop (Int.toNat a1)))))))
theorem e100 (xa xb xc:List AV) (a1 a2:Int):funA c100 0 100 [AV.agg [AV.sl [.int .i64] xa,AV.sl [.int .i64] xb,AV.sl [.int .i64,.int .i64] xc],Ai a1,Ai a2]=(bif q61 xa xb xc then (bif !(v61_0 xa xb xc) then some (AV.fl [.int .i64] ([]:List AV))
 else (bif decide (a1<0) then some (AV.fl [.int .i64] ([]:List AV))
 else (bif decide (a1 > a2) then some (AV.fl [.int .i64] ([]:List AV))
 else (bif decide (a2 > (xb.length:Int)) then some (AV.fl [.int .i64] ([]:List AV))
 else (bif (decide (0≤a1) && decide (a1≤a2) && decide (a2≤(xb.length:Int))) then (bif q82 ((xb.take (Int.toNat a2)).drop (Int.toNat a1)) then some (AV.fl [.int .i64] (v82_0 ((xb.take (Int.toNat a2)).drop (Int.toNat a1))))
 else none)
 else none)))))
 else none):=by kernel_rfl
def m100:TModel
 | [.agg [.sl g0 xa,.sl g1 xb,.sl g2 xc],.int .i64 a1,.int .i64 a2]=>bif ctsEq g0 ([.int .i64]) && ctsEq g1 ([.int .i64]) && ctsEq g2 ([.int .i64,.int .i64]) then some (q100 xa xb xc a1 a2,AV.fl [.int .i64] (v100_0 xa xb xc a1 a2)) else none
 | _=>none
theorem k100:Known Tryz.prog 100:=⟨Tryz.f100,Tryz.func100,by kernel_rfl,by kernel_rfl⟩
theorem meets100:Meets Tryz.prog 100 m100:=by
 refine mt (lvl:=0) (cf:=c100) rfl mixed k100 Tryz.func100 (by kernel_rfl) noLoop (allT_cons meets61 (allT_cons meets82 allT_nil)) allM_nil noI fun xs r h=>?_
 unfold m100 at h
 split at h
 ·rename_i g0 xa g1 xb g2 xc a1 a2
  obtain ⟨hg,h⟩:=bif_pair h
  simp only [Bool.and_eq_true] at hg
  obtain ⟨⟨q0,q1⟩,q2⟩:=hg
  obtain rfl:=cE q0
  obtain rfl:=cE q1
  obtain rfl:=cE q2
  obtain ⟨h1,rfl⟩:=pair_inj h
  exact (e100 xa xb xc a1 a2).trans ((brL (br (fun b=>some (AV.fl [.int .i64] (bif b then ([]:List AV) else (bif decide (a1<0) then ([]:List AV) else (bif decide (a1 > a2) then ([]:List AV) else (bif decide (a2 > (xb.length:Int)) then ([]:List AV) else (v82_0 ((xb.take (Int.toNat a2)).drop (Int.toNat a1))))))))) (fun _=>rfl) (br (fun b=>some (AV.fl [.int .i64] (bif b then ([]:List AV) else (bif decide (a1 > a2) then ([]:List AV) else (bif decide (a2 > (xb.length:Int)) then ([]:List AV) else (v82_0 ((xb.take (Int.toNat a2)).drop (Int.toNat a1)))))))) (fun _=>rfl) (br (fun b=>some (AV.fl [.int .i64] (bif b then ([]:List AV) else (bif decide (a2 > (xb.length:Int)) then ([]:List AV) else (v82_0 ((xb.take (Int.toNat a2)).drop (Int.toNat a1))))))) (fun _=>rfl) (br (fun b=>some (AV.fl [.int .i64] (bif b then ([]:List AV) else (v82_0 ((xb.take (Int.toNat a2)).drop (Int.toNat a1)))))) (fun _=>rfl) (brL (brL1 (fun _=>rfl)))))))) h1)
 ·cases h
noncomputable def c46:Cfg:=cfg Tryz.prog [(46,999,[4,5])] [(65,m65),(100,m100)] [] [] []
def q46 (xa xb xc:List AV) (ya yb:Int):Bool:=(q65 xa xb xc ya yb && q100 (v65_0 xa xb xc ya yb) (v65_1 xa xb xc ya yb) (v65_2 xa xb xc ya yb) (v65_3 xa xb xc ya yb) (v65_4 xa xb xc ya yb))
def v46_0 (xa xb xc:List AV) (ya yb:Int):List AV:=(v65_0 xa xb xc ya yb)
def v46_1 (xa xb xc:List AV) (ya yb:Int):List AV:=(v65_1 xa xb xc ya yb)
def v46_2 (xa xb xc:List AV) (ya yb:Int):List AV:=(v65_2 xa xb xc ya yb)
def v46_3 (xa xb xc:List AV) (ya yb:Int):List AV:=(v100_0 (v65_0 xa xb xc ya yb) (v65_1 xa xb xc ya yb) (v65_2 xa xb xc ya yb) (v65_3 xa xb xc ya yb) (v65_4 xa xb xc ya yb))
theorem e46 (xa xb xc:List AV) (ya yb:Int):funA c46 0 46 [AV.agg [AV.sl [.int .i64] xa,AV.sl [.int .i64] xb,AV.sl [.int .i64,.int .i64] xc],AV.agg [Ai ya,Ai yb]]=((fun (x1:List AV) (x2:List AV) (x3:List AV) (x4:Int) (x5:Int)=>(bif q65 xa xb xc ya yb then (bif q100 x1 x2 x3 x4 x5 then some (AV.tup [AV.agg [AV.fl [.int .i64] x1,AV.fl [.int .i64] x2,AV.fl [.int .i64,.int .i64] x3],AV.fl [.int .i64] (v100_0 x1 x2 x3 x4 x5)])
 else none)
 else none)) (v65_0 xa xb xc ya yb) (v65_1 xa xb xc ya yb) (v65_2 xa xb xc ya yb) (v65_3 xa xb xc ya yb) (v65_4 xa xb xc ya yb)):=by kernel_rfl
def m46:TModel
 | [.agg [.sl g0 xa,.sl g1 xb,.sl g2 xc],.agg [.int .i64 ya,.int .i64 yb]]=>bif ctsEq g0 ([.int .i64]) && ctsEq g1 ([.int .i64]) && ctsEq g2 ([.int .i64,.int .i64]) then some (q46 xa xb xc ya yb,AV.tup [AV.agg [AV.fl [.int .i64] (v46_0 xa xb xc ya yb),AV.fl [.int .i64] (v46_1 xa xb xc ya yb),AV.fl [.int .i64,.int .i64] (v46_2 xa xb xc ya yb)],AV.fl [.int .i64] (v46_3 xa xb xc ya yb)]) else none
 | _=>none
theorem k46:Known Tryz.prog 46:=⟨Tryz.f46,Tryz.func46,by kernel_rfl,by kernel_rfl⟩
theorem meets46:Meets Tryz.prog 46 m46:=by
 refine mt (lvl:=0) (cf:=c46) rfl mixed k46 Tryz.func46 (by kernel_rfl) noLoop (allT_cons meets65 (allT_cons meets100 allT_nil)) allM_nil noI fun xs r h=>?_
 unfold m46 at h
 split at h
 ·rename_i g0 xa g1 xb g2 xc ya yb
  obtain ⟨hg,h⟩:=bif_pair h
  simp only [Bool.and_eq_true] at hg
  obtain ⟨⟨q0,q1⟩,q2⟩:=hg
  obtain rfl:=cE q0
  obtain rfl:=cE q1
  obtain rfl:=cE q2
  obtain ⟨h1,rfl⟩:=pair_inj h
  exact (e46 xa xb xc ya yb).trans ((brL (brL1 (fun _=>rfl))) h1)
 ·cases h
noncomputable def c47:Cfg:=cfg Tryz.prog [(47,999,[4])] [] [] [] []
def v47_0 (xa xb xc xd a1:Int):Bool:=(bif decide (xc≤a1) then (bif decide (xd=(-1)) then true else decide (xd > a1)) else false)
theorem e47 (xa xb xc xd a1:Int):funA c47 0 47 [AV.agg [Ai xa,Ai xb,Ai xc,Ai xd],Ai a1]=(bif decide (xc≤a1) then (bif decide (xd=(-1)) then some (AV.bool true)
 else some (AV.bool (decide (xd > a1))))
 else some (AV.bool false)):=by kernel_rfl
def m47:TModel
 | [.agg [.int .i64 xa,.int .i64 xb,.int .i64 xc,.int .i64 xd],.int .i64 a1]=>some (true,AV.bool (v47_0 xa xb xc xd a1))
 | _=>none
theorem k47:Known Tryz.prog 47:=⟨Tryz.f47,Tryz.func47,by kernel_rfl,by kernel_rfl⟩
theorem meets47:Meets Tryz.prog 47 m47:=by
 refine mt (lvl:=0) (cf:=c47) rfl mixed k47 Tryz.func47 (by kernel_rfl) noLoop allT_nil allM_nil noI fun xs r h=>?_
 unfold m47 at h
 split at h
 ·rename_i xa xb xc xd a1
  obtain ⟨h1,rfl⟩:=pair_inj h
  exact (e47 xa xb xc xd a1).trans (of_tt (brT (fun b=>some (AV.bool (bif b then (bif decide (xd=(-1)) then true else decide (xd > a1)) else false))) (brT (fun b=>some (AV.bool (bif b then true else decide (xd > a1)))) (fun _=>rfl) (fun _=>rfl)) (fun _=>rfl)))
 ·cases h
def G8_0 {β:Type} (t1:Int) (t47:List AV) (t48:Int) (h0:List AV) (h1:List AV) (h2:List AV) (h3:List AV) (h4:Int) (h5:Int) (h6:List AV) (t49:Int) (h7:List AV) (N:((Int × (List AV)))→β) (K:(((List AV)))→β) (d:β):β:=(bif decide (t49<t48) then (bif (decide (0≤t49) && decide (t49<(t47.length:Int))) then (bif (v47_0 (fI (t47.getD t49.toNat .undef) 0) (fI (t47.getD t49.toNat .undef) 1) (fI (t47.getD t49.toNat .undef) 2) (fI (t47.getD t49.toNat .undef) 3) t1) then (bif q48 h6 (fI (t47.getD t49.toNat .undef) 1) then (bif (v48_0 h6 (fI (t47.getD t49.toNat .undef) 1)) then (bif (decide ((h7.length+([AV.int .i64 (fI (t47.getD t49.toNat .undef) 1)]).length)*8≤140737488355328) && decide ((h7.length+([AV.int .i64 (fI (t47.getD t49.toNat .undef) 1)]).length)≤140737488355328)) then N (IntKind.i64.wrap (t49+1),h7++([AV.int .i64 (fI (t47.getD t49.toNat .undef) 1)]))
 else d)
 else N (IntKind.i64.wrap (t49+1),h7))
 else d)
 else N (IntKind.i64.wrap (t49+1),h7))
 else d)
 else K h7)
def F8_0 (t1:Int) (t47:List AV) (t48:Int) (h0 h1 h2 h3:List AV) (h4 h5:Int) (h6:List AV) (t49:Int) (h7:List AV):Out ((Int × (List AV))) (((List AV))):=G8_0 t1 t47 t48 h0 h1 h2 h3 h4 h5 h6 t49 h7 .next .stop .fail
def R8_0 (t1:Int) (t47:List AV) (t48:Int) (h0 h1 h2 h3:List AV) (h4 h5:Int) (h6:List AV):((Int × (List AV)))→Out ((Int × (List AV))) (((List AV))):=fun s:Int × (List AV)=>F8_0 t1 t47 t48 h0 h1 h2 h3 h4 h5 h6 s.1 s.2
def E8_0 (t1:Int) (t47:List AV) (t48:Int) (h0 h1 h2 h3:List AV) (h4 h5:Int) (h6:List AV):((Int × (List AV)))→St:=fun s:Int × (List AV)=>⟨[(1,Ai t1),(6,AV.ptr [0,6] 0 0),(9,AV.ptr [0,9] 0 0),(11,AV.own [0,11]),(12,AV.own [0,12]),(47,AV.sl [.int .i64,.int .i64,.int .i64,.int .i64] t47),(48,Ai t48),(49,Ai s.1)],[([0,0,9],⟨false,[.int .i64,.int .i64,.int .i64,.int .i64],h0⟩),([0,2,9],⟨false,[.int .i64],h1⟩),([0,3,9],⟨false,[.int .i64],h2⟩),([0,4,9],⟨false,[.int .i64,.int .i64],h3⟩),([0,6],⟨true,[],[AV.agg [AV.snil,Ai h4,AV.snil,AV.snil,AV.snil]]⟩),([0,9],⟨true,[],[AV.agg [AV.own [0,0,9],Ai h5,AV.own [0,2,9],AV.own [0,3,9],AV.own [0,4,9]]]⟩),([0,11],⟨false,[.int .i64],h6⟩),([0,12],⟨false,[.int .i64],s.2⟩)]⟩
def K8_0 (t1:Int) (t47:List AV) (t48:Int) (h0 h1 h2 h3:List AV) (h4 h5:Int) (h6:List AV) (k:Kont):(((List AV)))→Option AV:=fun p:(List AV)=>k (.exit 0) ⟨[(6,AV.ptr [0,6] 0 0),(9,AV.ptr [0,9] 0 0),(12,AV.own [0,12])],[([0,0,9],⟨false,[.int .i64,.int .i64,.int .i64,.int .i64],h0⟩),([0,2,9],⟨false,[.int .i64],h1⟩),([0,3,9],⟨false,[.int .i64],h2⟩),([0,4,9],⟨false,[.int .i64,.int .i64],h3⟩),([0,6],⟨true,[],[AV.agg [AV.snil,Ai h4,AV.snil,AV.snil,AV.snil]]⟩),([0,9],⟨true,[],[AV.agg [AV.own [0,0,9],Ai h5,AV.own [0,2,9],AV.own [0,3,9],AV.own [0,4,9]]]⟩),([0,11],⟨false,[.int .i64],h6⟩),([0,12],⟨false,[.int .i64],p⟩)]⟩
def l8_0:LModel:=fun _ _ st k=>match st with
 | ⟨[(1,.int .i64 t1),(6,.ptr g0 g1 g2),(9,.ptr g3 g4 g5),(11,.own g6),(12,.own g7),(47,.sl g8 t47),(48,.int .i64 t48),(49,.int .i64 t49)],[(g9,⟨false,g10,h0⟩),(g11,⟨false,g12,h1⟩),(g13,⟨false,g14,h2⟩),(g15,⟨false,g16,h3⟩),(g17,⟨true,[],[.agg [.snil,.int .i64 h4,.snil,.snil,.snil]]⟩),(g18,⟨true,[],[.agg [.own g19,.int .i64 h5,.own g20,.own g21,.own g22]]⟩),(g23,⟨false,g24,h6⟩),(g25,⟨false,g26,h7⟩)]⟩=>bif nmEq g0 ([0,6]) && Nat.beq g1 0 && Nat.beq g2 0 && nmEq g3 ([0,9]) && Nat.beq g4 0 && Nat.beq g5 0 && nmEq g6 ([0,11]) && nmEq g7 ([0,12]) && ctsEq g8 ([.int .i64,.int .i64,.int .i64,.int .i64]) && nmEq g9 ([0,0,9]) && ctsEq g10 ([.int .i64,.int .i64,.int .i64,.int .i64]) && nmEq g11 ([0,2,9]) && ctsEq g12 ([.int .i64]) && nmEq g13 ([0,3,9]) && ctsEq g14 ([.int .i64]) && nmEq g15 ([0,4,9]) && ctsEq g16 ([.int .i64,.int .i64]) && nmEq g17 ([0,6]) && nmEq g18 ([0,9]) && nmEq g19 ([0,0,9]) && nmEq g20 ([0,2,9]) && nmEq g21 ([0,3,9]) && nmEq g22 ([0,4,9]) && nmEq g23 ([0,11]) && ctsEq g24 ([.int .i64]) && nmEq g25 ([0,12]) && ctsEq g26 ([.int .i64]) then ro (runW (R8_0 t1 t47 t48 h0 h1 h2 h3 h4 h5 h6) ((t48 - t49:Int).toNat+1) (t49,h7)) none (K8_0 t1 t47 t48 h0 h1 h2 h3 h4 h5 h6 k) else none
 | _=>none
noncomputable def c8:Cfg:=cfg Tryz.prog [(8,0,[1,6,9,11,12,47,48,49]),(8,999,[6,7,8]),(8,1000,[6,9,12]),(8,1001,[1,6,9,11,12,47,48,49])] [(17,m17),(44,m44),(45,m45),(46,m46),(47,m47),(48,m48)] [] [] [(8,0,l8_0)]
theorem s8_0 (t1:Int) (t47:List AV) (t48:Int) (h0 h1 h2 h3:List AV) (h4 h5:Int) (h6:List AV) (ce:CallE) (k:Kont) (s:Int × (List AV)) (next:St→Option AV):stepA (codeA c8 ce [] 8 0 (sub [1,1,1,1,1,1,0,1,0,0] (body Tryz.f8))) (normA [] [1,6,9,11,12,47,48,49]) next ((E8_0 t1 t47 t48 h0 h1 h2 h3 h4 h5 h6) s) k=G8_0 t1 t47 t48 h0 h1 h2 h3 h4 h5 h6 s.1 s.2 (fun s=>next ((E8_0 t1 t47 t48 h0 h1 h2 h3 h4 h5 h6) s)) (K8_0 t1 t47 t48 h0 h1 h2 h3 h4 h5 h6 k) none:=by kernel_rfl
theorem st8_0 (t1:Int) (t47:List AV) (t48:Int) (h0 h1 h2 h3:List AV) (h4 h5:Int) (h6:List AV) (ce:CallE) (k:Kont) (s:(Int × (List AV))) (next:St→Option AV):stepA (codeA c8 ce [] 8 0 (sub [1,1,1,1,1,1,0,1,0,0] (body Tryz.f8))) (normA [] [1,6,9,11,12,47,48,49]) next ((E8_0 t1 t47 t48 h0 h1 h2 h3 h4 h5 h6) s) k=(R8_0 t1 t47 t48 h0 h1 h2 h3 h4 h5 h6 s).el none (fun s=>next ((E8_0 t1 t47 t48 h0 h1 h2 h3 h4 h5 h6) s)) (K8_0 t1 t47 t48 h0 h1 h2 h3 h4 h5 h6 k):=(s8_0 t1 t47 t48 h0 h1 h2 h3 h4 h5 h6 ce k s next).trans (by unfold R8_0;unfold F8_0 G8_0;simp only [el_cond,el_ro,el_sum,el_fail,el_next,el_stop] <;> rfl)
theorem ok8_0 {ce:CallE}:LoopOK c8 ce [] 8 0 (sub [1,1,1,1,1,1,0,1,0,0] (body Tryz.f8)):=by
 intro m hm st k r h
 obtain rfl:l8_0=m:=Option.some.inj hm
 unfold l8_0 at h
 split at h
 ·rename_i t1 g0 g1 g2 g3 g4 g5 g6 g7 g8 t47 t48 t49 g9 g10 h0 g11 g12 h1 g13 g14 h2 g15 g16 h3 g17 h4 g18 g19 h5 g20 g21 g22 g23 g24 h6 g25 g26 h7
  obtain ⟨hg,h⟩:=bif_some h
  simp only [Bool.and_eq_true] at hg
  obtain ⟨⟨⟨⟨⟨⟨⟨⟨⟨⟨⟨⟨⟨⟨⟨⟨⟨⟨⟨⟨⟨⟨⟨⟨⟨⟨q0,q1⟩,q2⟩,q3⟩,q4⟩,q5⟩,q6⟩,q7⟩,q8⟩,q9⟩,q10⟩,q11⟩,q12⟩,q13⟩,q14⟩,q15⟩,q16⟩,q17⟩,q18⟩,q19⟩,q20⟩,q21⟩,q22⟩,q23⟩,q24⟩,q25⟩,q26⟩:=hg
  obtain rfl:=nE q0
  obtain rfl:=bE q1
  obtain rfl:=bE q2
  obtain rfl:=nE q3
  obtain rfl:=bE q4
  obtain rfl:=bE q5
  obtain rfl:=nE q6
  obtain rfl:=nE q7
  obtain rfl:=cE q8
  obtain rfl:=nE q9
  obtain rfl:=cE q10
  obtain rfl:=nE q11
  obtain rfl:=cE q12
  obtain rfl:=nE q13
  obtain rfl:=cE q14
  obtain rfl:=nE q15
  obtain rfl:=cE q16
  obtain rfl:=nE q17
  obtain rfl:=nE q18
  obtain rfl:=nE q19
  obtain rfl:=nE q20
  obtain rfl:=nE q21
  obtain rfl:=nE q22
  obtain rfl:=nE q23
  obtain rfl:=cE q24
  obtain rfl:=nE q25
  obtain rfl:=cE q26
  refine ⟨((t48 - t49:Int).toNat+1),?_⟩
  rw [← h]
  exact loop_run (E8_0 t1 t47 t48 h0 h1 h2 h3 h4 h5 h6) (K8_0 t1 t47 t48 h0 h1 h2 h3 h4 h5 h6 k) (st8_0 t1 t47 t48 h0 h1 h2 h3 h4 h5 h6 ce k) _ (t49,h7)
 ·cases h
def q8 (xa:List AV) (xb:Int) (xc xd xe:List AV) (a1 za zb:Int):Bool:=(q44 xa xb xc xd xe && (q17 xa xb xc xd xe && (bif !(v17_0 xa xb xc xd xe) then true else (bif !(v45_0 za zb) then true else (bif decide (a1<0) then true else (bif decide (a1 > xb) then true else (q46 xc xd xe za zb && (ro (runW (R8_0 a1 xa (xa.length:Int) (v44_0 xa xb xc xd xe) (v46_0 xc xd xe za zb) (v46_1 xc xd xe za zb) (v46_2 xc xd xe za zb) 0 (v44_1 xa xb xc xd xe) (v46_3 xc xd xe za zb)) (((xa.length:Int) - 0:Int).toNat+1) (0,([]:List AV))) false (fun p64=>true)))))))))
def v8_0 (xa:List AV) (xb:Int) (xc xd xe:List AV) (a1 za zb:Int):List AV:=(v44_0 xa xb xc xd xe)
def v8_1 (xa:List AV) (xb:Int) (xc xd xe:List AV) (a1 za zb:Int):Int:=(v44_1 xa xb xc xd xe)
def v8_2 (xa:List AV) (xb:Int) (xc xd xe:List AV) (a1 za zb:Int):List AV:=(bif !(v17_0 xa xb xc xd xe) then (v44_2 xa xb xc xd xe) else (bif !(v45_0 za zb) then (v44_2 xa xb xc xd xe) else (bif decide (a1<0) then (v44_2 xa xb xc xd xe) else (bif decide (a1 > xb) then (v44_2 xa xb xc xd xe) else (v46_0 xc xd xe za zb)))))
def v8_3 (xa:List AV) (xb:Int) (xc xd xe:List AV) (a1 za zb:Int):List AV:=(bif !(v17_0 xa xb xc xd xe) then (v44_3 xa xb xc xd xe) else (bif !(v45_0 za zb) then (v44_3 xa xb xc xd xe) else (bif decide (a1<0) then (v44_3 xa xb xc xd xe) else (bif decide (a1 > xb) then (v44_3 xa xb xc xd xe) else (v46_1 xc xd xe za zb)))))
def v8_4 (xa:List AV) (xb:Int) (xc xd xe:List AV) (a1 za zb:Int):List AV:=(bif !(v17_0 xa xb xc xd xe) then (v44_4 xa xb xc xd xe) else (bif !(v45_0 za zb) then (v44_4 xa xb xc xd xe) else (bif decide (a1<0) then (v44_4 xa xb xc xd xe) else (bif decide (a1 > xb) then (v44_4 xa xb xc xd xe) else (v46_2 xc xd xe za zb)))))
def v8_5 (xa:List AV) (xb:Int) (xc xd xe:List AV) (a1 za zb:Int):List AV:=(bif !(v17_0 xa xb xc xd xe) then ([]:List AV) else (bif !(v45_0 za zb) then ([]:List AV) else (bif decide (a1<0) then ([]:List AV) else (bif decide (a1 > xb) then ([]:List AV) else (ro (runW (R8_0 a1 xa (xa.length:Int) (v44_0 xa xb xc xd xe) (v46_0 xc xd xe za zb) (v46_1 xc xd xe za zb) (v46_2 xc xd xe za zb) 0 (v44_1 xa xb xc xd xe) (v46_3 xc xd xe za zb)) (((xa.length:Int) - 0:Int).toNat+1) (0,([]:List AV))) [] (fun p64=>p64))))))
def v8_6 (xa:List AV) (xb:Int) (xc xd xe:List AV) (a1 za zb:Int):Bool:=(bif !(v17_0 xa xb xc xd xe) then false else (bif !(v45_0 za zb) then false else (bif decide (a1<0) then false else (bif decide (a1 > xb) then false else true))))
theorem e8 (xa:List AV) (xb:Int) (xc xd xe:List AV) (a1 za zb:Int):funA c8 0 8 [AV.agg [AV.sl [.int .i64,.int .i64,.int .i64,.int .i64] xa,Ai xb,AV.sl [.int .i64] xc,AV.sl [.int .i64] xd,AV.sl [.int .i64,.int .i64] xe],Ai a1,AV.agg [Ai za,Ai zb]]=((fun (x1:List AV) (x2:Int) (x3:List AV) (x4:List AV) (x5:List AV)=>(bif q44 xa xb xc xd xe then (bif q17 xa xb xc xd xe then (bif !(v17_0 xa xb xc xd xe) then some (AV.tup [AV.agg [AV.fl [.int .i64,.int .i64,.int .i64,.int .i64] x1,Ai x2,AV.fl [.int .i64] x3,AV.fl [.int .i64] x4,AV.fl [.int .i64,.int .i64] x5],AV.fl [.int .i64] ([]:List AV),AV.bool false])
 else (bif !(v45_0 za zb) then some (AV.tup [AV.agg [AV.fl [.int .i64,.int .i64,.int .i64,.int .i64] x1,Ai x2,AV.fl [.int .i64] x3,AV.fl [.int .i64] x4,AV.fl [.int .i64,.int .i64] x5],AV.fl [.int .i64] ([]:List AV),AV.bool false])
 else (bif decide (a1<0) then some (AV.tup [AV.agg [AV.fl [.int .i64,.int .i64,.int .i64,.int .i64] x1,Ai x2,AV.fl [.int .i64] x3,AV.fl [.int .i64] x4,AV.fl [.int .i64,.int .i64] x5],AV.fl [.int .i64] ([]:List AV),AV.bool false])
 else (bif decide (a1 > xb) then some (AV.tup [AV.agg [AV.fl [.int .i64,.int .i64,.int .i64,.int .i64] x1,Ai x2,AV.fl [.int .i64] x3,AV.fl [.int .i64] x4,AV.fl [.int .i64,.int .i64] x5],AV.fl [.int .i64] ([]:List AV),AV.bool false])
 else (bif q46 xc xd xe za zb then (ro (runW (R8_0 a1 xa (xa.length:Int) x1 (v46_0 xc xd xe za zb) (v46_1 xc xd xe za zb) (v46_2 xc xd xe za zb) 0 x2 (v46_3 xc xd xe za zb)) (((xa.length:Int) - 0:Int).toNat+1) (0,([]:List AV))) none (fun p64=>some (AV.tup [AV.agg [AV.fl [.int .i64,.int .i64,.int .i64,.int .i64] x1,Ai x2,AV.fl [.int .i64] (v46_0 xc xd xe za zb),AV.fl [.int .i64] (v46_1 xc xd xe za zb),AV.fl [.int .i64,.int .i64] (v46_2 xc xd xe za zb)],AV.fl [.int .i64] p64,AV.bool true])))
 else none)))))
 else none)
 else none)) (v44_0 xa xb xc xd xe) (v44_1 xa xb xc xd xe) (v44_2 xa xb xc xd xe) (v44_3 xa xb xc xd xe) (v44_4 xa xb xc xd xe)):=by kernel_rfl
theorem r8 (xa:List AV) (xb:Int) (xc xd xe:List AV) (a1 za zb:Int) (h:q8 xa xb xc xd xe a1 za zb=true):funA c8 0 8 [AV.agg [AV.sl [.int .i64,.int .i64,.int .i64,.int .i64] xa,AV.int .i64 xb,AV.sl [.int .i64] xc,AV.sl [.int .i64] xd,AV.sl [.int .i64,.int .i64] xe],AV.int .i64 a1,AV.agg [AV.int .i64 za,AV.int .i64 zb]]=some (AV.tup [AV.agg [AV.fl [.int .i64,.int .i64,.int .i64,.int .i64] (v8_0 xa xb xc xd xe a1 za zb),AV.int .i64 (v8_1 xa xb xc xd xe a1 za zb),AV.fl [.int .i64] (v8_2 xa xb xc xd xe a1 za zb),AV.fl [.int .i64] (v8_3 xa xb xc xd xe a1 za zb),AV.fl [.int .i64,.int .i64] (v8_4 xa xb xc xd xe a1 za zb)],AV.fl [.int .i64] (v8_5 xa xb xc xd xe a1 za zb),AV.bool (v8_6 xa xb xc xd xe a1 za zb)]):=by
 refine (e8 xa xb xc xd xe a1 za zb).trans ?_
 unfold q8 at h
 unfold v8_0 v8_1 v8_2 v8_3 v8_4 v8_5 v8_6
 refine ifG (fun hc=>?_) (fun hc=>?_) <;> first|rw [hc] at h ⊢|rw [hc] at h|rw [hc]|skip
 ·refine ifG (fun hc=>?_) (fun hc=>?_) <;> first|rw [hc] at h ⊢|rw [hc] at h|rw [hc]|skip
  ·refine ifG (fun hc=>?_) (fun hc=>?_) <;> first|rw [hc] at h ⊢|rw [hc] at h|rw [hc]|skip
   ·rfl
   ·refine ifG (fun hc=>?_) (fun hc=>?_) <;> first|rw [hc] at h ⊢|rw [hc] at h|rw [hc]|skip
    ·rfl
    ·refine ifG (fun hc=>?_) (fun hc=>?_) <;> first|rw [hc] at h ⊢|rw [hc] at h|rw [hc]|skip
     ·rfl
     ·refine ifG (fun hc=>?_) (fun hc=>?_) <;> first|rw [hc] at h ⊢|rw [hc] at h|rw [hc]|skip
      ·rfl
      ·refine ifG (fun hc=>?_) (fun hc=>?_) <;> first|rw [hc] at h ⊢|rw [hc] at h|rw [hc]|skip
       ·refine roG (fun hc=>?_) (fun r hc=>?_) <;> first|rw [hc] at h ⊢|rw [hc] at h|rw [hc]|skip
        ·exact Bool.noConfusion h
        ·try simp only [ro] at h ⊢
         rfl
       ·first|exact Bool.noConfusion h|exact Bool.noConfusion hc
  ·first|exact Bool.noConfusion h|exact Bool.noConfusion hc
 ·first|exact Bool.noConfusion h|exact Bool.noConfusion hc
def m8:TModel
 | [.agg [.sl g0 xa,.int .i64 xb,.sl g1 xc,.sl g2 xd,.sl g3 xe],.int .i64 a1,.agg [.int .i64 za,.int .i64 zb]]=>bif ctsEq g0 ([.int .i64,.int .i64,.int .i64,.int .i64]) && ctsEq g1 ([.int .i64]) && ctsEq g2 ([.int .i64]) && ctsEq g3 ([.int .i64,.int .i64]) then some (q8 xa xb xc xd xe a1 za zb,AV.tup [AV.agg [AV.fl [.int .i64,.int .i64,.int .i64,.int .i64] (v8_0 xa xb xc xd xe a1 za zb),AV.int .i64 (v8_1 xa xb xc xd xe a1 za zb),AV.fl [.int .i64] (v8_2 xa xb xc xd xe a1 za zb),AV.fl [.int .i64] (v8_3 xa xb xc xd xe a1 za zb),AV.fl [.int .i64,.int .i64] (v8_4 xa xb xc xd xe a1 za zb)],AV.fl [.int .i64] (v8_5 xa xb xc xd xe a1 za zb),AV.bool (v8_6 xa xb xc xd xe a1 za zb)]) else none
 | _=>none
theorem k8:Known Tryz.prog 8:=⟨Tryz.f8,Tryz.func8,by kernel_rfl,by kernel_rfl⟩
theorem meets8:Meets Tryz.prog 8 m8:=by
 refine mt (lvl:=0) (cf:=c8) rfl mixed k8 Tryz.func8 (by kernel_rfl) (loops_cons ok8_0 noLoop) (allT_cons meets17 (allT_cons meets44 (allT_cons meets45 (allT_cons meets46 (allT_cons meets47 (allT_cons meets48 allT_nil)))))) allM_nil noI fun xs r h=>?_
 unfold m8 at h
 split at h
 ·rename_i g0 xa xb g1 xc g2 xd g3 xe a1 za zb
  obtain ⟨hg,h⟩:=bif_pair h
  simp only [Bool.and_eq_true] at hg
  obtain ⟨⟨⟨q0,q1⟩,q2⟩,q3⟩:=hg
  obtain rfl:=cE q0
  obtain rfl:=cE q1
  obtain rfl:=cE q2
  obtain rfl:=cE q3
  obtain ⟨h1,rfl⟩:=pair_inj h
  exact r8 xa xb xc xd xe a1 za zb h1
 ·cases h
def G73_0 {β:Type} (t0:List AV) (t1:List AV) (t5:Int) (N:(Int)→β) (K:(Unit ⊕ Unit)→β) (d:β):β:=(bif decide (t5<(t0.length:Int)) then (bif (decide (0≤t5) && decide (t5<(t0.length:Int))) then (bif (decide (0≤t5) && decide (t5<(t1.length:Int))) then (bif !decide (fI (t0.getD t5.toNat .undef) 0=fI (t1.getD t5.toNat .undef) 0) then K (.inr ())
 else N (IntKind.i64.wrap (t5+1)))
 else d)
 else d)
 else K (.inl ()))
def F73_0 (t0 t1:List AV) (t5:Int):Out (Int) (Unit ⊕ Unit):=G73_0 t0 t1 t5 .next .stop .fail
def R73_0 (t0 t1:List AV):(Int)→Out (Int) (Unit ⊕ Unit):=fun s:Int=>F73_0 t0 t1 s
def E73_0 (t0 t1:List AV):(Int)→St:=fun s:Int=>⟨[(0,AV.sl [.int .i64] t0),(1,AV.sl [.int .i64] t1),(5,Ai s)],[]⟩
def K73_0 (t0 t1:List AV) (k:Kont):(Unit ⊕ Unit)→Option AV:=sumE (fun _:Unit=>k (.exit 0) ⟨[],[]⟩) (fun _:Unit=>k .ret ⟨[(4,AV.bool false)],[]⟩)
def l73_0:LModel:=fun _ _ st k=>match st with
 | ⟨[(0,.sl g0 t0),(1,.sl g1 t1),(5,.int .i64 t5)],[]⟩=>bif ctsEq g0 ([.int .i64]) && ctsEq g1 ([.int .i64]) then ro (runW (R73_0 t0 t1) (((t0.length:Int) - t5:Int).toNat+1) t5) none (K73_0 t0 t1 k) else none
 | _=>none
noncomputable def c73:Cfg:=cfg Tryz.prog [(73,0,[0,1,5]),(73,999,[4]),(73,1000,[]),(73,1001,[0,1,5])] [] [] [] [(73,0,l73_0)]
theorem s73_0 (t0 t1:List AV) (ce:CallE) (k:Kont) (s:Int) (next:St→Option AV):stepA (codeA c73 ce [] 73 0 (sub [1,1,0,1,0,0] (body Tryz.f73))) (normA [] [0,1,5]) next ((E73_0 t0 t1) s) k=G73_0 t0 t1 s (fun s=>next ((E73_0 t0 t1) s)) (K73_0 t0 t1 k) none:=by kernel_rfl
theorem st73_0 (t0 t1:List AV) (ce:CallE) (k:Kont) (s:Int) (next:St→Option AV):stepA (codeA c73 ce [] 73 0 (sub [1,1,0,1,0,0] (body Tryz.f73))) (normA [] [0,1,5]) next ((E73_0 t0 t1) s) k=(R73_0 t0 t1 s).el none (fun s=>next ((E73_0 t0 t1) s)) (K73_0 t0 t1 k):=(s73_0 t0 t1 ce k s next).trans (by unfold R73_0;unfold F73_0 G73_0;simp only [el_cond,el_ro,el_sum,el_fail,el_next,el_stop] <;> rfl)
theorem ok73_0 {ce:CallE}:LoopOK c73 ce [] 73 0 (sub [1,1,0,1,0,0] (body Tryz.f73)):=by
 intro m hm st k r h
 obtain rfl:l73_0=m:=Option.some.inj hm
 unfold l73_0 at h
 split at h
 ·rename_i g0 t0 g1 t1 t5
  obtain ⟨hg,h⟩:=bif_some h
  simp only [Bool.and_eq_true] at hg
  obtain ⟨q0,q1⟩:=hg
  obtain rfl:=cE q0
  obtain rfl:=cE q1
  refine ⟨(((t0.length:Int) - t5:Int).toNat+1),?_⟩
  rw [← h]
  exact loop_run (E73_0 t0 t1) (K73_0 t0 t1 k) (st73_0 t0 t1 ce k) _ t5
 ·cases h
def q73 (a0 a1:List AV):Bool:=(bif !decide ((a0.length:Int)=(a1.length:Int)) then true else (ro (runW (R73_0 a0 a1) (((a0.length:Int) - 0:Int).toNat+1) 0) false (sumE (fun _=>true) (fun _=>true))))
def v73_0 (a0 a1:List AV):Bool:=(bif !decide ((a0.length:Int)=(a1.length:Int)) then false else (ro (runW (R73_0 a0 a1) (((a0.length:Int) - 0:Int).toNat+1) 0) false (sumE (fun _=>true) (fun _=>false))))
theorem e73 (a0 a1:List AV):funA c73 0 73 [AV.sl [.int .i64] a0,AV.sl [.int .i64] a1]=(bif !decide ((a0.length:Int)=(a1.length:Int)) then some (AV.bool false)
 else (ro (runW (R73_0 a0 a1) (((a0.length:Int) - 0:Int).toNat+1) 0) none (sumE (fun _=>some (AV.bool true)) (fun _=>some (AV.bool false))))):=by kernel_rfl
def m73:TModel
 | [.sl g0 a0,.sl g1 a1]=>bif ctsEq g0 ([.int .i64]) && ctsEq g1 ([.int .i64]) then some (q73 a0 a1,AV.bool (v73_0 a0 a1)) else none
 | _=>none
theorem k73:Known Tryz.prog 73:=⟨Tryz.f73,Tryz.func73,by kernel_rfl,by kernel_rfl⟩
theorem meets73:Meets Tryz.prog 73 m73:=by
 refine mt (lvl:=0) (cf:=c73) rfl mixed k73 Tryz.func73 (by kernel_rfl) (loops_cons ok73_0 noLoop) allT_nil allM_nil noI fun xs r h=>?_
 unfold m73 at h
 split at h
 ·rename_i g0 a0 g1 a1
  obtain ⟨hg,h⟩:=bif_pair h
  simp only [Bool.and_eq_true] at hg
  obtain ⟨q0,q1⟩:=hg
  obtain rfl:=cE q0
  obtain rfl:=cE q1
  obtain ⟨h1,rfl⟩:=pair_inj h
  exact (e73 a0 a1).trans ((br (fun b=>some (AV.bool (bif b then false else (ro (runW (R73_0 a0 a1) (((a0.length:Int) - 0:Int).toNat+1) 0) false (sumE (fun _=>true) (fun _=>false)))))) (fun _=>rfl) (brO (fun o:Option (Unit ⊕ Unit)=>some (AV.bool (ro o false (sumE (fun _=>true) (fun _=>false))))) (brS (fun o:Unit ⊕ Unit=>some (AV.bool ((sumE (fun _=>true) (fun _=>false)) o))) (fun _=>(fun _=>rfl)) (fun _=>(fun _=>rfl))))) h1)
 ·cases h
def G74_0 {β:Type} (t0:List AV) (t1:List AV) (t5:Int) (N:(Int)→β) (K:(Unit ⊕ Unit)→β) (d:β):β:=(bif decide (t5<(t0.length:Int)) then (bif (decide (0≤t5) && decide (t5<(t0.length:Int))) then (bif (decide (0≤t5) && decide (t5<(t1.length:Int))) then (bif !(bif decide (fI (t0.getD t5.toNat .undef) 0=fI (t1.getD t5.toNat .undef) 0) then (bif decide (fI (t0.getD t5.toNat .undef) 1=fI (t1.getD t5.toNat .undef) 1) then true else false) else false) then K (.inr ())
 else N (IntKind.i64.wrap (t5+1)))
 else d)
 else d)
 else K (.inl ()))
def F74_0 (t0 t1:List AV) (t5:Int):Out (Int) (Unit ⊕ Unit):=G74_0 t0 t1 t5 .next .stop .fail
def R74_0 (t0 t1:List AV):(Int)→Out (Int) (Unit ⊕ Unit):=fun s:Int=>F74_0 t0 t1 s
def E74_0 (t0 t1:List AV):(Int)→St:=fun s:Int=>⟨[(0,AV.sl [.int .i64,.int .i64] t0),(1,AV.sl [.int .i64,.int .i64] t1),(5,Ai s)],[]⟩
def K74_0 (t0 t1:List AV) (k:Kont):(Unit ⊕ Unit)→Option AV:=sumE (fun _:Unit=>k (.exit 0) ⟨[],[]⟩) (fun _:Unit=>k .ret ⟨[(4,AV.bool false)],[]⟩)
def l74_0:LModel:=fun _ _ st k=>match st with
 | ⟨[(0,.sl g0 t0),(1,.sl g1 t1),(5,.int .i64 t5)],[]⟩=>bif ctsEq g0 ([.int .i64,.int .i64]) && ctsEq g1 ([.int .i64,.int .i64]) then ro (runW (R74_0 t0 t1) (((t0.length:Int) - t5:Int).toNat+1) t5) none (K74_0 t0 t1 k) else none
 | _=>none
noncomputable def c74:Cfg:=cfg Tryz.prog [(74,0,[0,1,5]),(74,999,[4]),(74,1000,[]),(74,1001,[0,1,5])] [] [] [] [(74,0,l74_0)]
theorem s74_0 (t0 t1:List AV) (ce:CallE) (k:Kont) (s:Int) (next:St→Option AV):stepA (codeA c74 ce [] 74 0 (sub [1,1,0,1,0,0] (body Tryz.f74))) (normA [] [0,1,5]) next ((E74_0 t0 t1) s) k=G74_0 t0 t1 s (fun s=>next ((E74_0 t0 t1) s)) (K74_0 t0 t1 k) none:=by kernel_rfl
theorem st74_0 (t0 t1:List AV) (ce:CallE) (k:Kont) (s:Int) (next:St→Option AV):stepA (codeA c74 ce [] 74 0 (sub [1,1,0,1,0,0] (body Tryz.f74))) (normA [] [0,1,5]) next ((E74_0 t0 t1) s) k=(R74_0 t0 t1 s).el none (fun s=>next ((E74_0 t0 t1) s)) (K74_0 t0 t1 k):=(s74_0 t0 t1 ce k s next).trans (by unfold R74_0;unfold F74_0 G74_0;simp only [el_cond,el_ro,el_sum,el_fail,el_next,el_stop] <;> rfl)
theorem ok74_0 {ce:CallE}:LoopOK c74 ce [] 74 0 (sub [1,1,0,1,0,0] (body Tryz.f74)):=by
 intro m hm st k r h
 obtain rfl:l74_0=m:=Option.some.inj hm
 unfold l74_0 at h
 split at h
 ·rename_i g0 t0 g1 t1 t5
  obtain ⟨hg,h⟩:=bif_some h
  simp only [Bool.and_eq_true] at hg
  obtain ⟨q0,q1⟩:=hg
  obtain rfl:=cE q0
  obtain rfl:=cE q1
  refine ⟨(((t0.length:Int) - t5:Int).toNat+1),?_⟩
  rw [← h]
  exact loop_run (E74_0 t0 t1) (K74_0 t0 t1 k) (st74_0 t0 t1 ce k) _ t5
 ·cases h
def q74 (a0 a1:List AV):Bool:=(bif !decide ((a0.length:Int)=(a1.length:Int)) then true else (ro (runW (R74_0 a0 a1) (((a0.length:Int) - 0:Int).toNat+1) 0) false (sumE (fun _=>true) (fun _=>true))))
def v74_0 (a0 a1:List AV):Bool:=(bif !decide ((a0.length:Int)=(a1.length:Int)) then false else (ro (runW (R74_0 a0 a1) (((a0.length:Int) - 0:Int).toNat+1) 0) false (sumE (fun _=>true) (fun _=>false))))
theorem e74 (a0 a1:List AV):funA c74 0 74 [AV.sl [.int .i64,.int .i64] a0,AV.sl [.int .i64,.int .i64] a1]=(bif !decide ((a0.length:Int)=(a1.length:Int)) then some (AV.bool false)
 else (ro (runW (R74_0 a0 a1) (((a0.length:Int) - 0:Int).toNat+1) 0) none (sumE (fun _=>some (AV.bool true)) (fun _=>some (AV.bool false))))):=by kernel_rfl
def m74:TModel
 | [.sl g0 a0,.sl g1 a1]=>bif ctsEq g0 ([.int .i64,.int .i64]) && ctsEq g1 ([.int .i64,.int .i64]) then some (q74 a0 a1,AV.bool (v74_0 a0 a1)) else none
 | _=>none
theorem k74:Known Tryz.prog 74:=⟨Tryz.f74,Tryz.func74,by kernel_rfl,by kernel_rfl⟩
theorem meets74:Meets Tryz.prog 74 m74:=by
 refine mt (lvl:=0) (cf:=c74) rfl mixed k74 Tryz.func74 (by kernel_rfl) (loops_cons ok74_0 noLoop) allT_nil allM_nil noI fun xs r h=>?_
 unfold m74 at h
 split at h
 ·rename_i g0 a0 g1 a1
  obtain ⟨hg,h⟩:=bif_pair h
  simp only [Bool.and_eq_true] at hg
  obtain ⟨q0,q1⟩:=hg
  obtain rfl:=cE q0
  obtain rfl:=cE q1
  obtain ⟨h1,rfl⟩:=pair_inj h
  exact (e74 a0 a1).trans ((br (fun b=>some (AV.bool (bif b then false else (ro (runW (R74_0 a0 a1) (((a0.length:Int) - 0:Int).toNat+1) 0) false (sumE (fun _=>true) (fun _=>false)))))) (fun _=>rfl) (brO (fun o:Option (Unit ⊕ Unit)=>some (AV.bool (ro o false (sumE (fun _=>true) (fun _=>false))))) (brS (fun o:Unit ⊕ Unit=>some (AV.bool ((sumE (fun _=>true) (fun _=>false)) o))) (fun _=>(fun _=>rfl)) (fun _=>(fun _=>rfl))))) h1)
 ·cases h
noncomputable def c21:Cfg:=cfg Tryz.prog [(21,999,[4])] [(73,m73),(74,m74)] [] [] []
def q21 (xa xb xc ya yb yc:List AV):Bool:=(q73 xa ya && (bif (v73_0 xa ya) then (q73 xb yb && (bif (v73_0 xb yb) then q74 xc yc else true)) else true))
def v21_0 (xa xb xc ya yb yc:List AV):Bool:=(bif (v73_0 xa ya) then (bif (v73_0 xb yb) then (v74_0 xc yc) else false) else false)
theorem e21 (xa xb xc ya yb yc:List AV):funA c21 0 21 [AV.agg [AV.sl [.int .i64] xa,AV.sl [.int .i64] xb,AV.sl [.int .i64,.int .i64] xc],AV.agg [AV.sl [.int .i64] ya,AV.sl [.int .i64] yb,AV.sl [.int .i64,.int .i64] yc]]=(bif q73 xa ya then (bif (v73_0 xa ya) then (bif q73 xb yb then (bif (v73_0 xb yb) then (bif q74 xc yc then some (AV.bool (v74_0 xc yc))
 else none)
 else some (AV.bool false))
 else none)
 else some (AV.bool false))
 else none):=by kernel_rfl
def m21:TModel
 | [.agg [.sl g0 xa,.sl g1 xb,.sl g2 xc],.agg [.sl g3 ya,.sl g4 yb,.sl g5 yc]]=>bif ctsEq g0 ([.int .i64]) && ctsEq g1 ([.int .i64]) && ctsEq g2 ([.int .i64,.int .i64]) && ctsEq g3 ([.int .i64]) && ctsEq g4 ([.int .i64]) && ctsEq g5 ([.int .i64,.int .i64]) then some (q21 xa xb xc ya yb yc,AV.bool (v21_0 xa xb xc ya yb yc)) else none
 | _=>none
theorem k21:Known Tryz.prog 21:=⟨Tryz.f21,Tryz.func21,by kernel_rfl,by kernel_rfl⟩
theorem meets21:Meets Tryz.prog 21 m21:=by
 refine mt (lvl:=0) (cf:=c21) rfl mixed k21 Tryz.func21 (by kernel_rfl) noLoop (allT_cons meets73 (allT_cons meets74 allT_nil)) allM_nil noI fun xs r h=>?_
 unfold m21 at h
 split at h
 ·rename_i g0 xa g1 xb g2 xc g3 ya g4 yb g5 yc
  obtain ⟨hg,h⟩:=bif_pair h
  simp only [Bool.and_eq_true] at hg
  obtain ⟨⟨⟨⟨⟨q0,q1⟩,q2⟩,q3⟩,q4⟩,q5⟩:=hg
  obtain rfl:=cE q0
  obtain rfl:=cE q1
  obtain rfl:=cE q2
  obtain rfl:=cE q3
  obtain rfl:=cE q4
  obtain rfl:=cE q5
  obtain ⟨h1,rfl⟩:=pair_inj h
  exact (e21 xa xb xc ya yb yc).trans ((brL (br (fun b=>some (AV.bool (bif b then (bif (v73_0 xb yb) then (v74_0 xc yc) else false) else false))) (brL (br (fun b=>some (AV.bool (bif b then (v74_0 xc yc) else false))) (brL1 (fun _=>rfl)) (fun _=>rfl))) (fun _=>rfl))) h1)
 ·cases h
def G10_0 {β:Type} (h0_0:List AV) (h0_1:Int) (h0_2:List AV) (h0_3:List AV) (h0_4:List AV) (h1_0:List AV) (h1_1:Int) (h1_2:List AV) (h1_3:List AV) (h1_4:List AV) (t5:Int) (N:(Int)→β) (K:(Unit ⊕ Unit)→β) (d:β):β:=(bif decide (t5<(h0_0.length:Int)) then (bif (decide (0≤t5) && decide (t5<(h0_0.length:Int))) then (bif (decide (0≤t5) && decide (t5<(h1_0.length:Int))) then (bif !(bif decide (fI (h0_0.getD t5.toNat .undef) 0=fI (h1_0.getD t5.toNat .undef) 0) then (bif decide (fI (h0_0.getD t5.toNat .undef) 1=fI (h1_0.getD t5.toNat .undef) 1) then (bif decide (fI (h0_0.getD t5.toNat .undef) 2=fI (h1_0.getD t5.toNat .undef) 2) then (bif decide (fI (h0_0.getD t5.toNat .undef) 3=fI (h1_0.getD t5.toNat .undef) 3) then true else false) else false) else false) else false) then K (.inr ())
 else N (IntKind.i64.wrap (t5+1)))
 else d)
 else d)
 else K (.inl ()))
def F10_0 (h0_0:List AV) (h0_1:Int) (h0_2 h0_3 h0_4 h1_0:List AV) (h1_1:Int) (h1_2 h1_3 h1_4:List AV) (t5:Int):Out (Int) (Unit ⊕ Unit):=G10_0 h0_0 h0_1 h0_2 h0_3 h0_4 h1_0 h1_1 h1_2 h1_3 h1_4 t5 .next .stop .fail
def R10_0 (h0_0:List AV) (h0_1:Int) (h0_2 h0_3 h0_4 h1_0:List AV) (h1_1:Int) (h1_2 h1_3 h1_4:List AV):(Int)→Out (Int) (Unit ⊕ Unit):=fun s:Int=>F10_0 h0_0 h0_1 h0_2 h0_3 h0_4 h1_0 h1_1 h1_2 h1_3 h1_4 s
def E10_0 (h0_0:List AV) (h0_1:Int) (h0_2 h0_3 h0_4 h1_0:List AV) (h1_1:Int) (h1_2 h1_3 h1_4:List AV):(Int)→St:=fun s:Int=>⟨[(2,AV.ptr [0,2] 0 0),(3,AV.ptr [0,3] 0 0),(5,Ai s)],[([0,2],⟨true,[],[AV.agg [AV.sl [.int .i64,.int .i64,.int .i64,.int .i64] h0_0,Ai h0_1,AV.sl [.int .i64] h0_2,AV.sl [.int .i64] h0_3,AV.sl [.int .i64,.int .i64] h0_4]]⟩),([0,3],⟨true,[],[AV.agg [AV.sl [.int .i64,.int .i64,.int .i64,.int .i64] h1_0,Ai h1_1,AV.sl [.int .i64] h1_2,AV.sl [.int .i64] h1_3,AV.sl [.int .i64,.int .i64] h1_4]]⟩)]⟩
def K10_0 (h0_0:List AV) (h0_1:Int) (h0_2 h0_3 h0_4 h1_0:List AV) (h1_1:Int) (h1_2 h1_3 h1_4:List AV) (k:Kont):(Unit ⊕ Unit)→Option AV:=sumE (fun _:Unit=>k (.exit 0) ⟨[],[([0,2],⟨true,[],[AV.agg [AV.sl [.int .i64,.int .i64,.int .i64,.int .i64] h0_0,Ai h0_1,AV.sl [.int .i64] h0_2,AV.sl [.int .i64] h0_3,AV.sl [.int .i64,.int .i64] h0_4]]⟩),([0,3],⟨true,[],[AV.agg [AV.sl [.int .i64,.int .i64,.int .i64,.int .i64] h1_0,Ai h1_1,AV.sl [.int .i64] h1_2,AV.sl [.int .i64] h1_3,AV.sl [.int .i64,.int .i64] h1_4]]⟩)]⟩) (fun _:Unit=>k .ret ⟨[(4,AV.bool false)],[([0,2],⟨true,[],[AV.agg [AV.sl [.int .i64,.int .i64,.int .i64,.int .i64] h0_0,Ai h0_1,AV.sl [.int .i64] h0_2,AV.sl [.int .i64] h0_3,AV.sl [.int .i64,.int .i64] h0_4]]⟩),([0,3],⟨true,[],[AV.agg [AV.sl [.int .i64,.int .i64,.int .i64,.int .i64] h1_0,Ai h1_1,AV.sl [.int .i64] h1_2,AV.sl [.int .i64] h1_3,AV.sl [.int .i64,.int .i64] h1_4]]⟩)]⟩)
def l10_0:LModel:=fun _ _ st k=>match st with
 | ⟨[(2,.ptr g0 g1 g2),(3,.ptr g3 g4 g5),(5,.int .i64 t5)],[(g6,⟨true,[],[.agg [.sl g7 h0_0,.int .i64 h0_1,.sl g8 h0_2,.sl g9 h0_3,.sl g10 h0_4]]⟩),(g11,⟨true,[],[.agg [.sl g12 h1_0,.int .i64 h1_1,.sl g13 h1_2,.sl g14 h1_3,.sl g15 h1_4]]⟩)]⟩=>bif nmEq g0 ([0,2]) && Nat.beq g1 0 && Nat.beq g2 0 && nmEq g3 ([0,3]) && Nat.beq g4 0 && Nat.beq g5 0 && nmEq g6 ([0,2]) && ctsEq g7 ([.int .i64,.int .i64,.int .i64,.int .i64]) && ctsEq g8 ([.int .i64]) && ctsEq g9 ([.int .i64]) && ctsEq g10 ([.int .i64,.int .i64]) && nmEq g11 ([0,3]) && ctsEq g12 ([.int .i64,.int .i64,.int .i64,.int .i64]) && ctsEq g13 ([.int .i64]) && ctsEq g14 ([.int .i64]) && ctsEq g15 ([.int .i64,.int .i64]) then ro (runW (R10_0 h0_0 h0_1 h0_2 h0_3 h0_4 h1_0 h1_1 h1_2 h1_3 h1_4) (((h0_0.length:Int) - t5:Int).toNat+1) t5) none (K10_0 h0_0 h0_1 h0_2 h0_3 h0_4 h1_0 h1_1 h1_2 h1_3 h1_4 k) else none
 | _=>none
noncomputable def c10:Cfg:=cfg Tryz.prog [(10,0,[2,3,5]),(10,999,[4]),(10,1000,[]),(10,1001,[2,3,5])] [(21,m21)] [] [] [(10,0,l10_0)]
theorem s10_0 (h0_0:List AV) (h0_1:Int) (h0_2 h0_3 h0_4 h1_0:List AV) (h1_1:Int) (h1_2 h1_3 h1_4:List AV) (ce:CallE) (k:Kont) (s:Int) (next:St→Option AV):stepA (codeA c10 ce [] 10 0 (sub [1,1,0,1,0,0] (body Tryz.f10))) (normA [] [2,3,5]) next ((E10_0 h0_0 h0_1 h0_2 h0_3 h0_4 h1_0 h1_1 h1_2 h1_3 h1_4) s) k=G10_0 h0_0 h0_1 h0_2 h0_3 h0_4 h1_0 h1_1 h1_2 h1_3 h1_4 s (fun s=>next ((E10_0 h0_0 h0_1 h0_2 h0_3 h0_4 h1_0 h1_1 h1_2 h1_3 h1_4) s)) (K10_0 h0_0 h0_1 h0_2 h0_3 h0_4 h1_0 h1_1 h1_2 h1_3 h1_4 k) none:=by kernel_rfl
theorem st10_0 (h0_0:List AV) (h0_1:Int) (h0_2 h0_3 h0_4 h1_0:List AV) (h1_1:Int) (h1_2 h1_3 h1_4:List AV) (ce:CallE) (k:Kont) (s:Int) (next:St→Option AV):stepA (codeA c10 ce [] 10 0 (sub [1,1,0,1,0,0] (body Tryz.f10))) (normA [] [2,3,5]) next ((E10_0 h0_0 h0_1 h0_2 h0_3 h0_4 h1_0 h1_1 h1_2 h1_3 h1_4) s) k=(R10_0 h0_0 h0_1 h0_2 h0_3 h0_4 h1_0 h1_1 h1_2 h1_3 h1_4 s).el none (fun s=>next ((E10_0 h0_0 h0_1 h0_2 h0_3 h0_4 h1_0 h1_1 h1_2 h1_3 h1_4) s)) (K10_0 h0_0 h0_1 h0_2 h0_3 h0_4 h1_0 h1_1 h1_2 h1_3 h1_4 k):=(s10_0 h0_0 h0_1 h0_2 h0_3 h0_4 h1_0 h1_1 h1_2 h1_3 h1_4 ce k s next).trans (by unfold R10_0;unfold F10_0 G10_0;simp only [el_cond,el_ro,el_sum,el_fail,el_next,el_stop] <;> rfl)
theorem ok10_0 {ce:CallE}:LoopOK c10 ce [] 10 0 (sub [1,1,0,1,0,0] (body Tryz.f10)):=by
 intro m hm st k r h
 obtain rfl:l10_0=m:=Option.some.inj hm
 unfold l10_0 at h
 split at h
 ·rename_i g0 g1 g2 g3 g4 g5 t5 g6 g7 h0_0 h0_1 g8 h0_2 g9 h0_3 g10 h0_4 g11 g12 h1_0 h1_1 g13 h1_2 g14 h1_3 g15 h1_4
  obtain ⟨hg,h⟩:=bif_some h
  simp only [Bool.and_eq_true] at hg
  obtain ⟨⟨⟨⟨⟨⟨⟨⟨⟨⟨⟨⟨⟨⟨⟨q0,q1⟩,q2⟩,q3⟩,q4⟩,q5⟩,q6⟩,q7⟩,q8⟩,q9⟩,q10⟩,q11⟩,q12⟩,q13⟩,q14⟩,q15⟩:=hg
  obtain rfl:=nE q0
  obtain rfl:=bE q1
  obtain rfl:=bE q2
  obtain rfl:=nE q3
  obtain rfl:=bE q4
  obtain rfl:=bE q5
  obtain rfl:=nE q6
  obtain rfl:=cE q7
  obtain rfl:=cE q8
  obtain rfl:=cE q9
  obtain rfl:=cE q10
  obtain rfl:=nE q11
  obtain rfl:=cE q12
  obtain rfl:=cE q13
  obtain rfl:=cE q14
  obtain rfl:=cE q15
  refine ⟨(((h0_0.length:Int) - t5:Int).toNat+1),?_⟩
  rw [← h]
  exact loop_run (E10_0 h0_0 h0_1 h0_2 h0_3 h0_4 h1_0 h1_1 h1_2 h1_3 h1_4) (K10_0 h0_0 h0_1 h0_2 h0_3 h0_4 h1_0 h1_1 h1_2 h1_3 h1_4 k) (st10_0 h0_0 h0_1 h0_2 h0_3 h0_4 h1_0 h1_1 h1_2 h1_3 h1_4 ce k) _ t5
 ·cases h
def q10 (xa:List AV) (xb:Int) (xc xd xe ya:List AV) (yb:Int) (yc yd ye:List AV):Bool:=(bif !decide ((xa.length:Int)=(ya.length:Int)) then true else (bif !decide (xb=yb) then true else (q21 xc xd xe yc yd ye && (bif !(v21_0 xc xd xe yc yd ye) then true else (ro (runW (R10_0 xa xb xc xd xe ya yb yc yd ye) (((xa.length:Int) - 0:Int).toNat+1) 0) false (sumE (fun _=>true) (fun _=>true)))))))
def v10_0 (xa:List AV) (xb:Int) (xc xd xe ya:List AV) (yb:Int) (yc yd ye:List AV):Bool:=(bif !decide ((xa.length:Int)=(ya.length:Int)) then false else (bif !decide (xb=yb) then false else (bif !(v21_0 xc xd xe yc yd ye) then false else (ro (runW (R10_0 xa xb xc xd xe ya yb yc yd ye) (((xa.length:Int) - 0:Int).toNat+1) 0) false (sumE (fun _=>true) (fun _=>false))))))
theorem e10 (xa:List AV) (xb:Int) (xc xd xe ya:List AV) (yb:Int) (yc yd ye:List AV):funA c10 0 10 [AV.agg [AV.sl [.int .i64,.int .i64,.int .i64,.int .i64] xa,Ai xb,AV.sl [.int .i64] xc,AV.sl [.int .i64] xd,AV.sl [.int .i64,.int .i64] xe],AV.agg [AV.sl [.int .i64,.int .i64,.int .i64,.int .i64] ya,Ai yb,AV.sl [.int .i64] yc,AV.sl [.int .i64] yd,AV.sl [.int .i64,.int .i64] ye]]=(bif !decide ((xa.length:Int)=(ya.length:Int)) then some (AV.bool false)
 else (bif !decide (xb=yb) then some (AV.bool false)
 else (bif q21 xc xd xe yc yd ye then (bif !(v21_0 xc xd xe yc yd ye) then some (AV.bool false)
 else (ro (runW (R10_0 xa xb xc xd xe ya yb yc yd ye) (((xa.length:Int) - 0:Int).toNat+1) 0) none (sumE (fun _=>some (AV.bool true)) (fun _=>some (AV.bool false)))))
 else none))):=by kernel_rfl
def m10:TModel
 | [.agg [.sl g0 xa,.int .i64 xb,.sl g1 xc,.sl g2 xd,.sl g3 xe],.agg [.sl g4 ya,.int .i64 yb,.sl g5 yc,.sl g6 yd,.sl g7 ye]]=>bif ctsEq g0 ([.int .i64,.int .i64,.int .i64,.int .i64]) && ctsEq g1 ([.int .i64]) && ctsEq g2 ([.int .i64]) && ctsEq g3 ([.int .i64,.int .i64]) && ctsEq g4 ([.int .i64,.int .i64,.int .i64,.int .i64]) && ctsEq g5 ([.int .i64]) && ctsEq g6 ([.int .i64]) && ctsEq g7 ([.int .i64,.int .i64]) then some (q10 xa xb xc xd xe ya yb yc yd ye,AV.bool (v10_0 xa xb xc xd xe ya yb yc yd ye)) else none
 | _=>none
theorem k10:Known Tryz.prog 10:=⟨Tryz.f10,Tryz.func10,by kernel_rfl,by kernel_rfl⟩
theorem meets10:Meets Tryz.prog 10 m10:=by
 refine mt (lvl:=0) (cf:=c10) rfl mixed k10 Tryz.func10 (by kernel_rfl) (loops_cons ok10_0 noLoop) (allT_cons meets21 allT_nil) allM_nil noI fun xs r h=>?_
 unfold m10 at h
 split at h
 ·rename_i g0 xa xb g1 xc g2 xd g3 xe g4 ya yb g5 yc g6 yd g7 ye
  obtain ⟨hg,h⟩:=bif_pair h
  simp only [Bool.and_eq_true] at hg
  obtain ⟨⟨⟨⟨⟨⟨⟨q0,q1⟩,q2⟩,q3⟩,q4⟩,q5⟩,q6⟩,q7⟩:=hg
  obtain rfl:=cE q0
  obtain rfl:=cE q1
  obtain rfl:=cE q2
  obtain rfl:=cE q3
  obtain rfl:=cE q4
  obtain rfl:=cE q5
  obtain rfl:=cE q6
  obtain rfl:=cE q7
  obtain ⟨h1,rfl⟩:=pair_inj h
  exact (e10 xa xb xc xd xe ya yb yc yd ye).trans ((br (fun b=>some (AV.bool (bif b then false else (bif !decide (xb=yb) then false else (bif !(v21_0 xc xd xe yc yd ye) then false else (ro (runW (R10_0 xa xb xc xd xe ya yb yc yd ye) (((xa.length:Int) - 0:Int).toNat+1) 0) false (sumE (fun _=>true) (fun _=>false)))))))) (fun _=>rfl) (br (fun b=>some (AV.bool (bif b then false else (bif !(v21_0 xc xd xe yc yd ye) then false else (ro (runW (R10_0 xa xb xc xd xe ya yb yc yd ye) (((xa.length:Int) - 0:Int).toNat+1) 0) false (sumE (fun _=>true) (fun _=>false))))))) (fun _=>rfl) (brL (br (fun b=>some (AV.bool (bif b then false else (ro (runW (R10_0 xa xb xc xd xe ya yb yc yd ye) (((xa.length:Int) - 0:Int).toNat+1) 0) false (sumE (fun _=>true) (fun _=>false)))))) (fun _=>rfl) (brO (fun o:Option (Unit ⊕ Unit)=>some (AV.bool (ro o false (sumE (fun _=>true) (fun _=>false))))) (brS (fun o:Unit ⊕ Unit=>some (AV.bool ((sumE (fun _=>true) (fun _=>false)) o))) (fun _=>(fun _=>rfl)) (fun _=>(fun _=>rfl)))))))) h1)
 ·cases h
def G11_0 {β:Type} (t0:List AV) (t1:List AV) (t5:Int) (N:(Int)→β) (K:(Unit ⊕ Unit)→β) (d:β):β:=(bif decide (t5<(t0.length:Int)) then (bif (decide (0≤t5) && decide (t5<(t0.length:Int))) then (bif (decide (0≤t5) && decide (t5<(t1.length:Int))) then (bif !decide (fI (t0.getD t5.toNat .undef) 0=fI (t1.getD t5.toNat .undef) 0) then K (.inr ())
 else N (IntKind.i64.wrap (t5+1)))
 else d)
 else d)
 else K (.inl ()))
def F11_0 (t0 t1:List AV) (t5:Int):Out (Int) (Unit ⊕ Unit):=G11_0 t0 t1 t5 .next .stop .fail
def R11_0 (t0 t1:List AV):(Int)→Out (Int) (Unit ⊕ Unit):=fun s:Int=>F11_0 t0 t1 s
def E11_0 (t0 t1:List AV):(Int)→St:=fun s:Int=>⟨[(0,AV.sl [.int .i64] t0),(1,AV.sl [.int .i64] t1),(5,Ai s)],[]⟩
def K11_0 (t0 t1:List AV) (k:Kont):(Unit ⊕ Unit)→Option AV:=sumE (fun _:Unit=>k (.exit 0) ⟨[],[]⟩) (fun _:Unit=>k .ret ⟨[(4,AV.bool false)],[]⟩)
def l11_0:LModel:=fun _ _ st k=>match st with
 | ⟨[(0,.sl g0 t0),(1,.sl g1 t1),(5,.int .i64 t5)],[]⟩=>bif ctsEq g0 ([.int .i64]) && ctsEq g1 ([.int .i64]) then ro (runW (R11_0 t0 t1) (((t0.length:Int) - t5:Int).toNat+1) t5) none (K11_0 t0 t1 k) else none
 | _=>none
noncomputable def c11:Cfg:=cfg Tryz.prog [(11,0,[0,1,5]),(11,999,[4]),(11,1000,[]),(11,1001,[0,1,5])] [] [] [] [(11,0,l11_0)]
theorem s11_0 (t0 t1:List AV) (ce:CallE) (k:Kont) (s:Int) (next:St→Option AV):stepA (codeA c11 ce [] 11 0 (sub [1,1,0,1,0,0] (body Tryz.f11))) (normA [] [0,1,5]) next ((E11_0 t0 t1) s) k=G11_0 t0 t1 s (fun s=>next ((E11_0 t0 t1) s)) (K11_0 t0 t1 k) none:=by kernel_rfl
theorem st11_0 (t0 t1:List AV) (ce:CallE) (k:Kont) (s:Int) (next:St→Option AV):stepA (codeA c11 ce [] 11 0 (sub [1,1,0,1,0,0] (body Tryz.f11))) (normA [] [0,1,5]) next ((E11_0 t0 t1) s) k=(R11_0 t0 t1 s).el none (fun s=>next ((E11_0 t0 t1) s)) (K11_0 t0 t1 k):=(s11_0 t0 t1 ce k s next).trans (by unfold R11_0;unfold F11_0 G11_0;simp only [el_cond,el_ro,el_sum,el_fail,el_next,el_stop] <;> rfl)
theorem ok11_0 {ce:CallE}:LoopOK c11 ce [] 11 0 (sub [1,1,0,1,0,0] (body Tryz.f11)):=by
 intro m hm st k r h
 obtain rfl:l11_0=m:=Option.some.inj hm
 unfold l11_0 at h
 split at h
 ·rename_i g0 t0 g1 t1 t5
  obtain ⟨hg,h⟩:=bif_some h
  simp only [Bool.and_eq_true] at hg
  obtain ⟨q0,q1⟩:=hg
  obtain rfl:=cE q0
  obtain rfl:=cE q1
  refine ⟨(((t0.length:Int) - t5:Int).toNat+1),?_⟩
  rw [← h]
  exact loop_run (E11_0 t0 t1) (K11_0 t0 t1 k) (st11_0 t0 t1 ce k) _ t5
 ·cases h
def q11 (a0 a1:List AV):Bool:=(bif !decide ((a0.length:Int)=(a1.length:Int)) then true else (ro (runW (R11_0 a0 a1) (((a0.length:Int) - 0:Int).toNat+1) 0) false (sumE (fun _=>true) (fun _=>true))))
def v11_0 (a0 a1:List AV):Bool:=(bif !decide ((a0.length:Int)=(a1.length:Int)) then false else (ro (runW (R11_0 a0 a1) (((a0.length:Int) - 0:Int).toNat+1) 0) false (sumE (fun _=>true) (fun _=>false))))
theorem e11 (a0 a1:List AV):funA c11 0 11 [AV.sl [.int .i64] a0,AV.sl [.int .i64] a1]=(bif !decide ((a0.length:Int)=(a1.length:Int)) then some (AV.bool false)
 else (ro (runW (R11_0 a0 a1) (((a0.length:Int) - 0:Int).toNat+1) 0) none (sumE (fun _=>some (AV.bool true)) (fun _=>some (AV.bool false))))):=by kernel_rfl
def m11:TModel
 | [.sl g0 a0,.sl g1 a1]=>bif ctsEq g0 ([.int .i64]) && ctsEq g1 ([.int .i64]) then some (q11 a0 a1,AV.bool (v11_0 a0 a1)) else none
 | _=>none
theorem k11:Known Tryz.prog 11:=⟨Tryz.f11,Tryz.func11,by kernel_rfl,by kernel_rfl⟩
theorem meets11:Meets Tryz.prog 11 m11:=by
 refine mt (lvl:=0) (cf:=c11) rfl mixed k11 Tryz.func11 (by kernel_rfl) (loops_cons ok11_0 noLoop) allT_nil allM_nil noI fun xs r h=>?_
 unfold m11 at h
 split at h
 ·rename_i g0 a0 g1 a1
  obtain ⟨hg,h⟩:=bif_pair h
  simp only [Bool.and_eq_true] at hg
  obtain ⟨q0,q1⟩:=hg
  obtain rfl:=cE q0
  obtain rfl:=cE q1
  obtain ⟨h1,rfl⟩:=pair_inj h
  exact (e11 a0 a1).trans ((br (fun b=>some (AV.bool (bif b then false else (ro (runW (R11_0 a0 a1) (((a0.length:Int) - 0:Int).toNat+1) 0) false (sumE (fun _=>true) (fun _=>false)))))) (fun _=>rfl) (brO (fun o:Option (Unit ⊕ Unit)=>some (AV.bool (ro o false (sumE (fun _=>true) (fun _=>false))))) (brS (fun o:Unit ⊕ Unit=>some (AV.bool ((sumE (fun _=>true) (fun _=>false)) o))) (fun _=>(fun _=>rfl)) (fun _=>(fun _=>rfl))))) h1)
 ·cases h
noncomputable def c13:Cfg:=cfg Tryz.prog [(13,999,[4])] [] [] [] []
def q13 (a0:List AV) (a1:Int):Bool:=(bif decide (a1<(a0.length:Int)) then (decide (0≤a1) && decide (a1<(a0.length:Int))) else !decide (256=0))
def v13_0 (a0:List AV) (a1:Int):Int:=(bif decide (a1<(a0.length:Int)) then IntKind.i64.wrap (fI (a0.getD a1.toNat .undef) 0) else Int.tmod (IntKind.i64.wrap (IntKind.i64.wrap (a1*37)+IntKind.i64.wrap ((a0.length:Int)*11))) 256)
theorem e13 (a0:List AV) (a1:Int):funA c13 0 13 [AV.sl [.int .u8] a0,Ai a1]=(bif decide (a1<(a0.length:Int)) then (bif (decide (0≤a1) && decide (a1<(a0.length:Int))) then some (Ai (IntKind.i64.wrap (fI (a0.getD a1.toNat .undef) 0)))
 else none)
 else (bif !decide (256=0) then some (Ai (Int.tmod (IntKind.i64.wrap (IntKind.i64.wrap (a1*37)+IntKind.i64.wrap ((a0.length:Int)*11))) 256))
 else none)):=by kernel_rfl
def m13:TModel
 | [.sl g0 a0,.int .i64 a1]=>bif ctsEq g0 ([.int .u8]) then some (q13 a0 a1,AV.int .i64 (v13_0 a0 a1)) else none
 | _=>none
theorem k13:Known Tryz.prog 13:=⟨Tryz.f13,Tryz.func13,by kernel_rfl,by kernel_rfl⟩
theorem meets13:Meets Tryz.prog 13 m13:=by
 refine mt (lvl:=0) (cf:=c13) rfl mixed k13 Tryz.func13 (by kernel_rfl) noLoop allT_nil allM_nil noI fun xs r h=>?_
 unfold m13 at h
 split at h
 ·rename_i g0 a0 a1
  obtain ⟨hg,h⟩:=bif_pair h
  have q0:=hg
  obtain rfl:=cE q0
  obtain ⟨h1,rfl⟩:=pair_inj h
  exact (e13 a0 a1).trans ((br (fun b=>some (Ai (bif b then IntKind.i64.wrap (fI (a0.getD a1.toNat .undef) 0) else Int.tmod (IntKind.i64.wrap (IntKind.i64.wrap (a1*37)+IntKind.i64.wrap ((a0.length:Int)*11))) 256))) (brL1 (fun _=>rfl)) (brL1 (fun _=>rfl))) h1)
 ·cases h
noncomputable def c103:Cfg:=cfg Tryz.prog [(103,999,[2])] [] [] [] []
def v103_0 (xa xb:Int):Bool:=(bif decide (xa ≥ (-999)) then (bif decide (xa≤999) then (bif decide (xb ≥ 0) then decide (xb≤999) else false) else false) else false)
theorem e103 (xa xb:Int):funA c103 0 103 [AV.agg [Ai xa,Ai xb]]=(bif decide (xa ≥ (-999)) then (bif decide (xa≤999) then (bif decide (xb ≥ 0) then some (AV.bool (decide (xb≤999)))
 else some (AV.bool false))
 else some (AV.bool false))
 else some (AV.bool false)):=by kernel_rfl
def m103:TModel
 | [.agg [.int .i64 xa,.int .i64 xb]]=>some (true,AV.bool (v103_0 xa xb))
 | _=>none
theorem k103:Known Tryz.prog 103:=⟨Tryz.f103,Tryz.func103,by kernel_rfl,by kernel_rfl⟩
theorem meets103:Meets Tryz.prog 103 m103:=by
 refine mt (lvl:=0) (cf:=c103) rfl mixed k103 Tryz.func103 (by kernel_rfl) noLoop allT_nil allM_nil noI fun xs r h=>?_
 unfold m103 at h
 split at h
 ·rename_i xa xb
  obtain ⟨h1,rfl⟩:=pair_inj h
  exact (e103 xa xb).trans (of_tt (brT (fun b=>some (AV.bool (bif b then (bif decide (xa≤999) then (bif decide (xb ≥ 0) then decide (xb≤999) else false) else false) else false))) (brT (fun b=>some (AV.bool (bif b then (bif decide (xb ≥ 0) then decide (xb≤999) else false) else false))) (brT (fun b=>some (AV.bool (bif b then decide (xb≤999) else false))) (fun _=>rfl) (fun _=>rfl)) (fun _=>rfl)) (fun _=>rfl)))
 ·cases h
def G56_0 {β:Type} (h3_0:Int) (h3_1:Int) (t8:Int) (t9:Int) (t10:Int) (h0:List AV) (h1:List AV) (h2:List AV) (N:((Int × Int × Int × (List AV) × (List AV) × (List AV)))→β) (K:((Int × Int × (List AV) × (List AV) × (List AV)))→β) (d:β):β:=(bif decide (t10 ≥ 0) then (bif (decide (0≤t10) && decide (t10<(h2.length:Int))) then (bif decide (fI (h2.getD t10.toNat .undef) 0 > h3_0) then (bif (decide (0≤t10) && decide (t10<(h2.length:Int))) then (bif decide (t8=fI (h2.getD t10.toNat .undef) 1) then (bif (decide (0≤t10) && decide (t10<(h2.length:Int))) then (bif (decide (0≤t10) && decide (t10<(h2.length:Int))) then N (fI (h2.getD t10.toNat .undef) 1,IntKind.i64.wrap (t9+0),IntKind.i64.wrap (t10 - 1),h0,h1,h2.set t10.toNat (AV.agg [AV.int .i64 (fI (h2.getD t10.toNat .undef) 0),AV.int .i64 (IntKind.i64.wrap (fI (h2.getD t10.toNat .undef) 1+1))]))
 else d)
 else d)
 else (bif (decide (0≤fI (h2.getD t10.toNat .undef) 1) && decide (fI (h2.getD t10.toNat .undef) 1<(h0.length:Int))) then (bif (decide (0≤fI (h2.getD t10.toNat .undef) 1) && decide (fI (h2.getD t10.toNat .undef) 1<(h1.length:Int))) then (bif (decide (0≤t8) && decide (t8<(h0.length:Int))) then (bif (decide (0≤t8) && decide (t8<(h1.length:Int))) then (bif (decide (0≤t10) && decide (t10<(h2.length:Int))) then (bif (decide (0≤t10) && decide (t10<(h2.length:Int))) then N (fI (h2.getD t10.toNat .undef) 1,IntKind.i64.wrap (t9+1),IntKind.i64.wrap (t10 - 1),h0.set t8.toNat (AV.agg [AV.int .i64 (fI (h0.getD (fI (h2.getD t10.toNat .undef) 1).toNat .undef) 0)]),h1.set t8.toNat (AV.agg [AV.int .i64 (fI (h1.getD (fI (h2.getD t10.toNat .undef) 1).toNat .undef) 0)]),h2.set t10.toNat (AV.agg [AV.int .i64 (fI (h2.getD t10.toNat .undef) 0),AV.int .i64 (IntKind.i64.wrap (fI (h2.getD t10.toNat .undef) 1+1))]))
 else d)
 else d)
 else d)
 else d)
 else d)
 else d))
 else d)
 else K (t8,t9,h0,h1,h2))
 else d)
 else K (t8,t9,h0,h1,h2))
def F56_0 (h3_0 h3_1 t8 t9 t10:Int) (h0 h1 h2:List AV):Out ((Int × Int × Int × (List AV) × (List AV) × (List AV))) ((Int × Int × (List AV) × (List AV) × (List AV))):=G56_0 h3_0 h3_1 t8 t9 t10 h0 h1 h2 .next .stop .fail
def R56_0 (h3_0 h3_1:Int):((Int × Int × Int × (List AV) × (List AV) × (List AV)))→Out ((Int × Int × Int × (List AV) × (List AV) × (List AV))) ((Int × Int × (List AV) × (List AV) × (List AV))):=fun s:Int × Int × Int × (List AV) × (List AV) × (List AV)=>F56_0 h3_0 h3_1 s.1 s.2.1 s.2.2.1 s.2.2.2.1 s.2.2.2.2.1 s.2.2.2.2.2
def E56_0 (h3_0 h3_1:Int):((Int × Int × Int × (List AV) × (List AV) × (List AV)))→St:=fun s:Int × Int × Int × (List AV) × (List AV) × (List AV)=>⟨[(3,AV.ptr [0,3] 0 0),(4,AV.ptr [0,4] 0 0),(7,AV.ptr [0,7] 0 0),(8,Ai s.1),(9,Ai s.2.1),(10,Ai s.2.2.1)],[([0,0,7],⟨false,[.int .i64],s.2.2.2.1⟩),([0,1,7],⟨false,[.int .i64],s.2.2.2.2.1⟩),([0,2,7],⟨false,[.int .i64,.int .i64],s.2.2.2.2.2⟩),([0,3],⟨true,[],[AV.agg [Ai h3_0,Ai h3_1]]⟩),([0,4],⟨true,[],[AV.agg [AV.snil,AV.snil,AV.snil]]⟩),([0,7],⟨true,[],[AV.agg [AV.own [0,0,7],AV.own [0,1,7],AV.own [0,2,7]]]⟩)]⟩
def K56_0 (h3_0 h3_1:Int) (k:Kont):((Int × Int × (List AV) × (List AV) × (List AV)))→Option AV:=fun p:Int × Int × (List AV) × (List AV) × (List AV)=>k (.exit 0) ⟨[(3,AV.ptr [0,3] 0 0),(4,AV.ptr [0,4] 0 0),(7,AV.ptr [0,7] 0 0),(8,Ai p.1),(9,Ai p.2.1)],[([0,0,7],⟨false,[.int .i64],p.2.2.1⟩),([0,1,7],⟨false,[.int .i64],p.2.2.2.1⟩),([0,2,7],⟨false,[.int .i64,.int .i64],p.2.2.2.2⟩),([0,3],⟨true,[],[AV.agg [Ai h3_0,Ai h3_1]]⟩),([0,4],⟨true,[],[AV.agg [AV.snil,AV.snil,AV.snil]]⟩),([0,7],⟨true,[],[AV.agg [AV.own [0,0,7],AV.own [0,1,7],AV.own [0,2,7]]]⟩)]⟩
def l56_0:LModel:=fun _ _ st k=>match st with
 | ⟨[(3,.ptr g0 g1 g2),(4,.ptr g3 g4 g5),(7,.ptr g6 g7 g8),(8,.int .i64 t8),(9,.int .i64 t9),(10,.int .i64 t10)],[(g9,⟨false,g10,h0⟩),(g11,⟨false,g12,h1⟩),(g13,⟨false,g14,h2⟩),(g15,⟨true,[],[.agg [.int .i64 h3_0,.int .i64 h3_1]]⟩),(g16,⟨true,[],[.agg [.snil,.snil,.snil]]⟩),(g17,⟨true,[],[.agg [.own g18,.own g19,.own g20]]⟩)]⟩=>bif nmEq g0 ([0,3]) && Nat.beq g1 0 && Nat.beq g2 0 && nmEq g3 ([0,4]) && Nat.beq g4 0 && Nat.beq g5 0 && nmEq g6 ([0,7]) && Nat.beq g7 0 && Nat.beq g8 0 && nmEq g9 ([0,0,7]) && ctsEq g10 ([.int .i64]) && nmEq g11 ([0,1,7]) && ctsEq g12 ([.int .i64]) && nmEq g13 ([0,2,7]) && ctsEq g14 ([.int .i64,.int .i64]) && nmEq g15 ([0,3]) && nmEq g16 ([0,4]) && nmEq g17 ([0,7]) && nmEq g18 ([0,0,7]) && nmEq g19 ([0,1,7]) && nmEq g20 ([0,2,7]) then ro (runW (R56_0 h3_0 h3_1) ((t10 - 0+1:Int).toNat+1) (t8,t9,t10,h0,h1,h2)) none (K56_0 h3_0 h3_1 k) else none
 | _=>none
noncomputable def c56:Cfg:=cfg Tryz.prog [(56,0,[3,4,7,8,9,10]),(56,999,[4,5,6]),(56,1000,[3,4,7,8,9]),(56,1001,[3,4,7,8,9,10]),(104,999,[6])] [(61,m61),(62,m62),(64,m64),(103,m103)] [] [104] [(56,0,l56_0)]
theorem s56_0 (h3_0 h3_1:Int) (k:Kont) (s:Int × Int × Int × (List AV) × (List AV) × (List AV)) (next:St→Option AV):stepA (codeA c56 (inlA c56 1) [] 56 0 (sub [1,1,1,1,1,0,1,0,0] (body Tryz.f56))) (normA [] [3,4,7,8,9,10]) next ((E56_0 h3_0 h3_1) s) k=G56_0 h3_0 h3_1 s.1 s.2.1 s.2.2.1 s.2.2.2.1 s.2.2.2.2.1 s.2.2.2.2.2 (fun s=>next ((E56_0 h3_0 h3_1) s)) (K56_0 h3_0 h3_1 k) none:=by kernel_rfl
theorem st56_0 (h3_0 h3_1:Int) (k:Kont) (s:(Int × Int × Int × (List AV) × (List AV) × (List AV))) (next:St→Option AV):stepA (codeA c56 (inlA c56 1) [] 56 0 (sub [1,1,1,1,1,0,1,0,0] (body Tryz.f56))) (normA [] [3,4,7,8,9,10]) next ((E56_0 h3_0 h3_1) s) k=(R56_0 h3_0 h3_1 s).el none (fun s=>next ((E56_0 h3_0 h3_1) s)) (K56_0 h3_0 h3_1 k):=(s56_0 h3_0 h3_1 k s next).trans (by unfold R56_0;unfold F56_0 G56_0;simp only [el_cond,el_ro,el_sum,el_fail,el_next,el_stop] <;> rfl)
theorem ok56_0:LoopOK c56 (inlA c56 1) [] 56 0 (sub [1,1,1,1,1,0,1,0,0] (body Tryz.f56)):=by
 intro m hm st k r h
 obtain rfl:l56_0=m:=Option.some.inj hm
 unfold l56_0 at h
 split at h
 ·rename_i g0 g1 g2 g3 g4 g5 g6 g7 g8 t8 t9 t10 g9 g10 h0 g11 g12 h1 g13 g14 h2 g15 h3_0 h3_1 g16 g17 g18 g19 g20
  obtain ⟨hg,h⟩:=bif_some h
  simp only [Bool.and_eq_true] at hg
  obtain ⟨⟨⟨⟨⟨⟨⟨⟨⟨⟨⟨⟨⟨⟨⟨⟨⟨⟨⟨⟨q0,q1⟩,q2⟩,q3⟩,q4⟩,q5⟩,q6⟩,q7⟩,q8⟩,q9⟩,q10⟩,q11⟩,q12⟩,q13⟩,q14⟩,q15⟩,q16⟩,q17⟩,q18⟩,q19⟩,q20⟩:=hg
  obtain rfl:=nE q0
  obtain rfl:=bE q1
  obtain rfl:=bE q2
  obtain rfl:=nE q3
  obtain rfl:=bE q4
  obtain rfl:=bE q5
  obtain rfl:=nE q6
  obtain rfl:=bE q7
  obtain rfl:=bE q8
  obtain rfl:=nE q9
  obtain rfl:=cE q10
  obtain rfl:=nE q11
  obtain rfl:=cE q12
  obtain rfl:=nE q13
  obtain rfl:=cE q14
  obtain rfl:=nE q15
  obtain rfl:=nE q16
  obtain rfl:=nE q17
  obtain rfl:=nE q18
  obtain rfl:=nE q19
  obtain rfl:=nE q20
  refine ⟨((t10 - 0+1:Int).toNat+1),?_⟩
  rw [← h]
  exact loop_run (E56_0 h3_0 h3_1) (K56_0 h3_0 h3_1 k) (st56_0 h3_0 h3_1 k) _ (t8,t9,t10,h0,h1,h2)
 ·cases h
def q56 (xa xb xc:List AV) (ya yb:Int):Bool:=(q64 xa xb xc && (q61 xa xb xc && (bif !(v61_0 xa xb xc) then true else (bif !(v103_0 ya yb) then true else (q62 xa xb xc yb && (bif decide ((v62_0 xa xb xc yb) ≥ 0) then true else (bif decide ((xa.length:Int) ≥ 64) then true else ((decide (((v64_0 xa xb xc).length+([AV.int .i64 ya]).length)*8≤140737488355328) && decide (((v64_0 xa xb xc).length+([AV.int .i64 ya]).length)≤140737488355328)) && ((decide (((v64_1 xa xb xc).length+([AV.int .i64 yb]).length)*8≤140737488355328) && decide (((v64_1 xa xb xc).length+([AV.int .i64 yb]).length)≤140737488355328)) && (ro (runW (R56_0 ya yb) (((IntKind.i64.wrap (((v64_2 xa xb xc).length:Int) - 1)) - 0+1:Int).toNat+1) ((xa.length:Int),0,IntKind.i64.wrap (((v64_2 xa xb xc).length:Int) - 1),(v64_0 xa xb xc)++([AV.int .i64 ya]),(v64_1 xa xb xc)++([AV.int .i64 yb]),(v64_2 xa xb xc))) false (fun p73=>((decide (0≤p73.1) && decide (p73.1<(p73.2.2.1.length:Int))) && (decide (0≤p73.1) && decide (p73.1<(p73.2.2.2.1.length:Int)))))))))))))))
def v56_0 (xa xb xc:List AV) (ya yb:Int):List AV:=(bif !(v61_0 xa xb xc) then (v64_0 xa xb xc) else (bif !(v103_0 ya yb) then (v64_0 xa xb xc) else (bif decide ((v62_0 xa xb xc yb) ≥ 0) then (v64_0 xa xb xc) else (bif decide ((xa.length:Int) ≥ 64) then (v64_0 xa xb xc) else (ro (runW (R56_0 ya yb) (((IntKind.i64.wrap (((v64_2 xa xb xc).length:Int) - 1)) - 0+1:Int).toNat+1) ((xa.length:Int),0,IntKind.i64.wrap (((v64_2 xa xb xc).length:Int) - 1),(v64_0 xa xb xc)++([AV.int .i64 ya]),(v64_1 xa xb xc)++([AV.int .i64 yb]),(v64_2 xa xb xc))) [] (fun p73=>p73.2.2.1.set p73.1.toNat (AV.agg [AV.int .i64 ya])))))))
def v56_1 (xa xb xc:List AV) (ya yb:Int):List AV:=(bif !(v61_0 xa xb xc) then (v64_1 xa xb xc) else (bif !(v103_0 ya yb) then (v64_1 xa xb xc) else (bif decide ((v62_0 xa xb xc yb) ≥ 0) then (v64_1 xa xb xc) else (bif decide ((xa.length:Int) ≥ 64) then (v64_1 xa xb xc) else (ro (runW (R56_0 ya yb) (((IntKind.i64.wrap (((v64_2 xa xb xc).length:Int) - 1)) - 0+1:Int).toNat+1) ((xa.length:Int),0,IntKind.i64.wrap (((v64_2 xa xb xc).length:Int) - 1),(v64_0 xa xb xc)++([AV.int .i64 ya]),(v64_1 xa xb xc)++([AV.int .i64 yb]),(v64_2 xa xb xc))) [] (fun p73=>p73.2.2.2.1.set p73.1.toNat (AV.agg [AV.int .i64 yb])))))))
def v56_2 (xa xb xc:List AV) (ya yb:Int):List AV:=(bif !(v61_0 xa xb xc) then (v64_2 xa xb xc) else (bif !(v103_0 ya yb) then (v64_2 xa xb xc) else (bif decide ((v62_0 xa xb xc yb) ≥ 0) then (v64_2 xa xb xc) else (bif decide ((xa.length:Int) ≥ 64) then (v64_2 xa xb xc) else (ro (runW (R56_0 ya yb) (((IntKind.i64.wrap (((v64_2 xa xb xc).length:Int) - 1)) - 0+1:Int).toNat+1) ((xa.length:Int),0,IntKind.i64.wrap (((v64_2 xa xb xc).length:Int) - 1),(v64_0 xa xb xc)++([AV.int .i64 ya]),(v64_1 xa xb xc)++([AV.int .i64 yb]),(v64_2 xa xb xc))) [] (fun p73=>p73.2.2.2.2))))))
def v56_3 (xa xb xc:List AV) (ya yb:Int):Int:=(bif !(v61_0 xa xb xc) then 0 else (bif !(v103_0 ya yb) then 0 else (bif decide ((v62_0 xa xb xc yb) ≥ 0) then 0 else (bif decide ((xa.length:Int) ≥ 64) then 0 else (ro (runW (R56_0 ya yb) (((IntKind.i64.wrap (((v64_2 xa xb xc).length:Int) - 1)) - 0+1:Int).toNat+1) ((xa.length:Int),0,IntKind.i64.wrap (((v64_2 xa xb xc).length:Int) - 1),(v64_0 xa xb xc)++([AV.int .i64 ya]),(v64_1 xa xb xc)++([AV.int .i64 yb]),(v64_2 xa xb xc))) 0 (fun p73=>p73.2.1))))))
def v56_4 (xa xb xc:List AV) (ya yb:Int):Bool:=(bif !(v61_0 xa xb xc) then false else (bif !(v103_0 ya yb) then false else (bif decide ((v62_0 xa xb xc yb) ≥ 0) then false else (bif decide ((xa.length:Int) ≥ 64) then false else true))))
theorem e56 (xa xb xc:List AV) (ya yb:Int):funA c56 1 56 [AV.agg [AV.sl [.int .i64] xa,AV.sl [.int .i64] xb,AV.sl [.int .i64,.int .i64] xc],AV.agg [Ai ya,Ai yb]]=((fun (x1:List AV) (x2:List AV) (x3:List AV)=>(bif q64 xa xb xc then (bif q61 xa xb xc then (bif !(v61_0 xa xb xc) then some (AV.tup [AV.agg [AV.fl [.int .i64] x1,AV.fl [.int .i64] x2,AV.fl [.int .i64,.int .i64] x3],Ai 0,AV.bool false])
 else (bif !(v103_0 ya yb) then some (AV.tup [AV.agg [AV.fl [.int .i64] x1,AV.fl [.int .i64] x2,AV.fl [.int .i64,.int .i64] x3],Ai 0,AV.bool false])
 else (bif q62 xa xb xc yb then (bif decide ((v62_0 xa xb xc yb) ≥ 0) then some (AV.tup [AV.agg [AV.fl [.int .i64] x1,AV.fl [.int .i64] x2,AV.fl [.int .i64,.int .i64] x3],Ai 0,AV.bool false])
 else (bif decide ((xa.length:Int) ≥ 64) then some (AV.tup [AV.agg [AV.fl [.int .i64] x1,AV.fl [.int .i64] x2,AV.fl [.int .i64,.int .i64] x3],Ai 0,AV.bool false])
 else (bif (decide ((x1.length+([Ai ya]).length)*8≤140737488355328) && decide ((x1.length+([Ai ya]).length)≤140737488355328)) then (bif (decide ((x2.length+([Ai yb]).length)*8≤140737488355328) && decide ((x2.length+([Ai yb]).length)≤140737488355328)) then (ro (runW (R56_0 ya yb) (((IntKind.i64.wrap ((x3.length:Int) - 1)) - 0+1:Int).toNat+1) ((xa.length:Int),0,IntKind.i64.wrap ((x3.length:Int) - 1),x1++([Ai ya]),x2++([Ai yb]),x3)) none (fun p73=>(bif (decide (0≤p73.1) && decide (p73.1<(p73.2.2.1.length:Int))) then (bif (decide (0≤p73.1) && decide (p73.1<(p73.2.2.2.1.length:Int))) then some (AV.tup [AV.agg [AV.fl [.int .i64] (p73.2.2.1.set p73.1.toNat (AV.agg [Ai ya])),AV.fl [.int .i64] (p73.2.2.2.1.set p73.1.toNat (AV.agg [Ai yb])),AV.fl [.int .i64,.int .i64] p73.2.2.2.2],Ai p73.2.1,AV.bool true])
 else none)
 else none)))
 else none)
 else none)))
 else none)))
 else none)
 else none)) (v64_0 xa xb xc) (v64_1 xa xb xc) (v64_2 xa xb xc)):=by kernel_rfl
theorem r56 (xa xb xc:List AV) (ya yb:Int) (h:q56 xa xb xc ya yb=true):funA c56 1 56 [AV.agg [AV.sl [.int .i64] xa,AV.sl [.int .i64] xb,AV.sl [.int .i64,.int .i64] xc],AV.agg [AV.int .i64 ya,AV.int .i64 yb]]=some (AV.tup [AV.agg [AV.fl [.int .i64] (v56_0 xa xb xc ya yb),AV.fl [.int .i64] (v56_1 xa xb xc ya yb),AV.fl [.int .i64,.int .i64] (v56_2 xa xb xc ya yb)],AV.int .i64 (v56_3 xa xb xc ya yb),AV.bool (v56_4 xa xb xc ya yb)]):=by
 refine (e56 xa xb xc ya yb).trans ?_
 unfold q56 at h
 unfold v56_0 v56_1 v56_2 v56_3 v56_4
 refine ifG (fun hc=>?_) (fun hc=>?_) <;> first|rw [hc] at h ⊢|rw [hc] at h|rw [hc]|skip
 ·refine ifG (fun hc=>?_) (fun hc=>?_) <;> first|rw [hc] at h ⊢|rw [hc] at h|rw [hc]|skip
  ·refine ifG (fun hc=>?_) (fun hc=>?_) <;> first|rw [hc] at h ⊢|rw [hc] at h|rw [hc]|skip
   ·rfl
   ·refine ifG (fun hc=>?_) (fun hc=>?_) <;> first|rw [hc] at h ⊢|rw [hc] at h|rw [hc]|skip
    ·rfl
    ·refine ifG (fun hc=>?_) (fun hc=>?_) <;> first|rw [hc] at h ⊢|rw [hc] at h|rw [hc]|skip
     ·refine ifG (fun hc=>?_) (fun hc=>?_) <;> first|rw [hc] at h ⊢|rw [hc] at h|rw [hc]|skip
      ·rfl
      ·refine ifG (fun hc=>?_) (fun hc=>?_) <;> first|rw [hc] at h ⊢|rw [hc] at h|rw [hc]|skip
       ·rfl
       ·refine ifG (fun hc=>?_) (fun hc=>?_) <;> first|rw [hc] at h ⊢|rw [hc] at h|rw [hc]|skip
        ·refine ifG (fun hc=>?_) (fun hc=>?_) <;> first|rw [hc] at h ⊢|rw [hc] at h|rw [hc]|skip
         ·refine roG (fun hc=>?_) (fun r hc=>?_) <;> first|rw [hc] at h ⊢|rw [hc] at h|rw [hc]|skip
          ·exact Bool.noConfusion h
          ·try simp only [ro] at h ⊢
           refine ifG (fun hc=>?_) (fun hc=>?_) <;> first|rw [hc] at h ⊢|rw [hc] at h|rw [hc]|skip
           ·refine ifG (fun hc=>?_) (fun hc=>?_) <;> first|rw [hc] at h ⊢|rw [hc] at h|rw [hc]|skip
            ·rfl
            ·first|exact Bool.noConfusion h|exact Bool.noConfusion hc
           ·first|exact Bool.noConfusion h|exact Bool.noConfusion hc
         ·first|exact Bool.noConfusion h|exact Bool.noConfusion hc
        ·first|exact Bool.noConfusion h|exact Bool.noConfusion hc
     ·first|exact Bool.noConfusion h|exact Bool.noConfusion hc
  ·first|exact Bool.noConfusion h|exact Bool.noConfusion hc
 ·first|exact Bool.noConfusion h|exact Bool.noConfusion hc
def m56:TModel
 | [.agg [.sl g0 xa,.sl g1 xb,.sl g2 xc],.agg [.int .i64 ya,.int .i64 yb]]=>bif ctsEq g0 ([.int .i64]) && ctsEq g1 ([.int .i64]) && ctsEq g2 ([.int .i64,.int .i64]) then some (q56 xa xb xc ya yb,AV.tup [AV.agg [AV.fl [.int .i64] (v56_0 xa xb xc ya yb),AV.fl [.int .i64] (v56_1 xa xb xc ya yb),AV.fl [.int .i64,.int .i64] (v56_2 xa xb xc ya yb)],AV.int .i64 (v56_3 xa xb xc ya yb),AV.bool (v56_4 xa xb xc ya yb)]) else none
 | _=>none
theorem k56:Known Tryz.prog 56:=⟨Tryz.f56,Tryz.func56,by kernel_rfl,by kernel_rfl⟩
theorem i56_104:InlK Tryz.prog [(56,0,[3,4,7,8,9,10]),(56,999,[4,5,6]),(56,1000,[3,4,7,8,9]),(56,1001,[3,4,7,8,9,10]),(104,999,[6])] [(61,m61),(62,m62),(64,m64),(103,m103)] [] [104] [(56,0,l56_0)] 104:=⟨⟨Tryz.f104,Tryz.func104,by kernel_rfl,by kernel_rfl⟩,Tryz.f104,[],Tryz.func104,by kernel_rfl,fun ce π=>noLoop⟩
theorem meets56:Meets Tryz.prog 56 m56:=by
 refine mt (lvl:=1) (cf:=c56) rfl mixed k56 Tryz.func56 (by kernel_rfl) (loops_cons ok56_0 noLoop) (allT_cons meets61 (allT_cons meets62 (allT_cons meets64 (allT_cons meets103 allT_nil)))) allM_nil (allI_cons i56_104 noI) fun xs r h=>?_
 unfold m56 at h
 split at h
 ·rename_i g0 xa g1 xb g2 xc ya yb
  obtain ⟨hg,h⟩:=bif_pair h
  simp only [Bool.and_eq_true] at hg
  obtain ⟨⟨q0,q1⟩,q2⟩:=hg
  obtain rfl:=cE q0
  obtain rfl:=cE q1
  obtain rfl:=cE q2
  obtain ⟨h1,rfl⟩:=pair_inj h
  exact r56 xa xb xc ya yb h1
 ·cases h
noncomputable def c12:Cfg:=cfg Tryz.prog [(12,999,[4,5,6])] [(17,m17),(44,m44),(56,m56)] [] [] []
def q12 (xa:List AV) (xb:Int) (xc xd xe:List AV) (a1:Int):Bool:=(q44 xa xb xc xd xe && (q17 xa xb xc xd xe && (bif !(v17_0 xa xb xc xd xe) then true else (bif decide (xb ≥ 1000) then true else (bif decide ((xa.length:Int) > 0) then ((decide (0≤IntKind.i64.wrap ((xa.length:Int) - 1)) && decide (IntKind.i64.wrap ((xa.length:Int) - 1)<(xa.length:Int))) && (q56 xc xd xe a1 (IntKind.i64.wrap (fI (xa.getD (IntKind.i64.wrap ((xa.length:Int) - 1)).toNat .undef) 1+1)) && (bif !(v56_4 xc xd xe a1 (IntKind.i64.wrap (fI (xa.getD (IntKind.i64.wrap ((xa.length:Int) - 1)).toNat .undef) 1+1))) then true else (decide (((v44_0 xa xb xc xd xe).length+([AV.agg [AV.int .i64 a1,AV.int .i64 (IntKind.i64.wrap (fI (xa.getD (IntKind.i64.wrap ((xa.length:Int) - 1)).toNat .undef) 1+1)),AV.int .i64 (IntKind.i64.wrap ((v44_1 xa xb xc xd xe)+1)),AV.int .i64 (-1)]]).length)*32≤140737488355328) && decide (((v44_0 xa xb xc xd xe).length+([AV.agg [AV.int .i64 a1,AV.int .i64 (IntKind.i64.wrap (fI (xa.getD (IntKind.i64.wrap ((xa.length:Int) - 1)).toNat .undef) 1+1)),AV.int .i64 (IntKind.i64.wrap ((v44_1 xa xb xc xd xe)+1)),AV.int .i64 (-1)]]).length)≤140737488355328))))) else (q56 xc xd xe a1 0 && (bif !(v56_4 xc xd xe a1 0) then true else (decide (((v44_0 xa xb xc xd xe).length+([AV.agg [AV.int .i64 a1,AV.int .i64 0,AV.int .i64 (IntKind.i64.wrap ((v44_1 xa xb xc xd xe)+1)),AV.int .i64 (-1)]]).length)*32≤140737488355328) && decide (((v44_0 xa xb xc xd xe).length+([AV.agg [AV.int .i64 a1,AV.int .i64 0,AV.int .i64 (IntKind.i64.wrap ((v44_1 xa xb xc xd xe)+1)),AV.int .i64 (-1)]]).length)≤140737488355328)))))))))
def v12_0 (xa:List AV) (xb:Int) (xc xd xe:List AV) (a1:Int):List AV:=(bif !(v17_0 xa xb xc xd xe) then (v44_0 xa xb xc xd xe) else (bif decide (xb ≥ 1000) then (v44_0 xa xb xc xd xe) else (bif decide ((xa.length:Int) > 0) then (bif !(v56_4 xc xd xe a1 (IntKind.i64.wrap (fI (xa.getD (IntKind.i64.wrap ((xa.length:Int) - 1)).toNat .undef) 1+1))) then (v44_0 xa xb xc xd xe) else (v44_0 xa xb xc xd xe)++([AV.agg [AV.int .i64 a1,AV.int .i64 (IntKind.i64.wrap (fI (xa.getD (IntKind.i64.wrap ((xa.length:Int) - 1)).toNat .undef) 1+1)),AV.int .i64 (IntKind.i64.wrap ((v44_1 xa xb xc xd xe)+1)),AV.int .i64 (-1)]])) else (bif !(v56_4 xc xd xe a1 0) then (v44_0 xa xb xc xd xe) else (v44_0 xa xb xc xd xe)++([AV.agg [AV.int .i64 a1,AV.int .i64 0,AV.int .i64 (IntKind.i64.wrap ((v44_1 xa xb xc xd xe)+1)),AV.int .i64 (-1)]])))))
def v12_1 (xa:List AV) (xb:Int) (xc xd xe:List AV) (a1:Int):Int:=(bif !(v17_0 xa xb xc xd xe) then (v44_1 xa xb xc xd xe) else (bif decide (xb ≥ 1000) then (v44_1 xa xb xc xd xe) else (bif decide ((xa.length:Int) > 0) then (bif !(v56_4 xc xd xe a1 (IntKind.i64.wrap (fI (xa.getD (IntKind.i64.wrap ((xa.length:Int) - 1)).toNat .undef) 1+1))) then (v44_1 xa xb xc xd xe) else IntKind.i64.wrap ((v44_1 xa xb xc xd xe)+1)) else (bif !(v56_4 xc xd xe a1 0) then (v44_1 xa xb xc xd xe) else IntKind.i64.wrap ((v44_1 xa xb xc xd xe)+1)))))
def v12_2 (xa:List AV) (xb:Int) (xc xd xe:List AV) (a1:Int):List AV:=(bif !(v17_0 xa xb xc xd xe) then (v44_2 xa xb xc xd xe) else (bif decide (xb ≥ 1000) then (v44_2 xa xb xc xd xe) else (bif decide ((xa.length:Int) > 0) then (bif !(v56_4 xc xd xe a1 (IntKind.i64.wrap (fI (xa.getD (IntKind.i64.wrap ((xa.length:Int) - 1)).toNat .undef) 1+1))) then (v44_2 xa xb xc xd xe) else (v56_0 xc xd xe a1 (IntKind.i64.wrap (fI (xa.getD (IntKind.i64.wrap ((xa.length:Int) - 1)).toNat .undef) 1+1)))) else (bif !(v56_4 xc xd xe a1 0) then (v44_2 xa xb xc xd xe) else (v56_0 xc xd xe a1 0)))))
def v12_3 (xa:List AV) (xb:Int) (xc xd xe:List AV) (a1:Int):List AV:=(bif !(v17_0 xa xb xc xd xe) then (v44_3 xa xb xc xd xe) else (bif decide (xb ≥ 1000) then (v44_3 xa xb xc xd xe) else (bif decide ((xa.length:Int) > 0) then (bif !(v56_4 xc xd xe a1 (IntKind.i64.wrap (fI (xa.getD (IntKind.i64.wrap ((xa.length:Int) - 1)).toNat .undef) 1+1))) then (v44_3 xa xb xc xd xe) else (v56_1 xc xd xe a1 (IntKind.i64.wrap (fI (xa.getD (IntKind.i64.wrap ((xa.length:Int) - 1)).toNat .undef) 1+1)))) else (bif !(v56_4 xc xd xe a1 0) then (v44_3 xa xb xc xd xe) else (v56_1 xc xd xe a1 0)))))
def v12_4 (xa:List AV) (xb:Int) (xc xd xe:List AV) (a1:Int):List AV:=(bif !(v17_0 xa xb xc xd xe) then (v44_4 xa xb xc xd xe) else (bif decide (xb ≥ 1000) then (v44_4 xa xb xc xd xe) else (bif decide ((xa.length:Int) > 0) then (bif !(v56_4 xc xd xe a1 (IntKind.i64.wrap (fI (xa.getD (IntKind.i64.wrap ((xa.length:Int) - 1)).toNat .undef) 1+1))) then (v44_4 xa xb xc xd xe) else (v56_2 xc xd xe a1 (IntKind.i64.wrap (fI (xa.getD (IntKind.i64.wrap ((xa.length:Int) - 1)).toNat .undef) 1+1)))) else (bif !(v56_4 xc xd xe a1 0) then (v44_4 xa xb xc xd xe) else (v56_2 xc xd xe a1 0)))))
def v12_5 (xa:List AV) (xb:Int) (xc xd xe:List AV) (a1:Int):Int:=(bif !(v17_0 xa xb xc xd xe) then 0 else (bif decide (xb ≥ 1000) then 0 else (bif decide ((xa.length:Int) > 0) then (bif !(v56_4 xc xd xe a1 (IntKind.i64.wrap (fI (xa.getD (IntKind.i64.wrap ((xa.length:Int) - 1)).toNat .undef) 1+1))) then 0 else IntKind.i64.wrap (fI (xa.getD (IntKind.i64.wrap ((xa.length:Int) - 1)).toNat .undef) 1+1)) else 0)))
def v12_6 (xa:List AV) (xb:Int) (xc xd xe:List AV) (a1:Int):Bool:=(bif !(v17_0 xa xb xc xd xe) then false else (bif decide (xb ≥ 1000) then false else (bif decide ((xa.length:Int) > 0) then (bif !(v56_4 xc xd xe a1 (IntKind.i64.wrap (fI (xa.getD (IntKind.i64.wrap ((xa.length:Int) - 1)).toNat .undef) 1+1))) then false else true) else (bif !(v56_4 xc xd xe a1 0) then false else true))))
theorem e12 (xa:List AV) (xb:Int) (xc xd xe:List AV) (a1:Int):funA c12 0 12 [AV.agg [AV.sl [.int .i64,.int .i64,.int .i64,.int .i64] xa,Ai xb,AV.sl [.int .i64] xc,AV.sl [.int .i64] xd,AV.sl [.int .i64,.int .i64] xe],Ai a1]=((fun (x1:List AV) (x2:Int) (x3:List AV) (x4:List AV) (x5:List AV)=>(bif q44 xa xb xc xd xe then (bif q17 xa xb xc xd xe then (bif !(v17_0 xa xb xc xd xe) then some (AV.tup [AV.agg [AV.fl [.int .i64,.int .i64,.int .i64,.int .i64] x1,Ai x2,AV.fl [.int .i64] x3,AV.fl [.int .i64] x4,AV.fl [.int .i64,.int .i64] x5],Ai 0,AV.bool false])
 else (bif decide (xb ≥ 1000) then some (AV.tup [AV.agg [AV.fl [.int .i64,.int .i64,.int .i64,.int .i64] x1,Ai x2,AV.fl [.int .i64] x3,AV.fl [.int .i64] x4,AV.fl [.int .i64,.int .i64] x5],Ai 0,AV.bool false])
 else (bif decide ((xa.length:Int) > 0) then (bif (decide (0≤IntKind.i64.wrap ((xa.length:Int) - 1)) && decide (IntKind.i64.wrap ((xa.length:Int) - 1)<(xa.length:Int))) then (bif q56 xc xd xe a1 (IntKind.i64.wrap (fI (xa.getD (IntKind.i64.wrap ((xa.length:Int) - 1)).toNat .undef) 1+1)) then (bif !(v56_4 xc xd xe a1 (IntKind.i64.wrap (fI (xa.getD (IntKind.i64.wrap ((xa.length:Int) - 1)).toNat .undef) 1+1))) then some (AV.tup [AV.agg [AV.fl [.int .i64,.int .i64,.int .i64,.int .i64] x1,Ai x2,AV.fl [.int .i64] x3,AV.fl [.int .i64] x4,AV.fl [.int .i64,.int .i64] x5],Ai 0,AV.bool false])
 else (bif (decide ((x1.length+([AV.agg [Ai a1,Ai (IntKind.i64.wrap (fI (xa.getD (IntKind.i64.wrap ((xa.length:Int) - 1)).toNat .undef) 1+1)),Ai (IntKind.i64.wrap (x2+1)),Ai (-1)]]).length)*32≤140737488355328) && decide ((x1.length+([AV.agg [Ai a1,Ai (IntKind.i64.wrap (fI (xa.getD (IntKind.i64.wrap ((xa.length:Int) - 1)).toNat .undef) 1+1)),Ai (IntKind.i64.wrap (x2+1)),Ai (-1)]]).length)≤140737488355328)) then some (AV.tup [AV.agg [AV.fl [.int .i64,.int .i64,.int .i64,.int .i64] (x1++([AV.agg [Ai a1,Ai (IntKind.i64.wrap (fI (xa.getD (IntKind.i64.wrap ((xa.length:Int) - 1)).toNat .undef) 1+1)),Ai (IntKind.i64.wrap (x2+1)),Ai (-1)]])),Ai (IntKind.i64.wrap (x2+1)),AV.fl [.int .i64] (v56_0 xc xd xe a1 (IntKind.i64.wrap (fI (xa.getD (IntKind.i64.wrap ((xa.length:Int) - 1)).toNat .undef) 1+1))),AV.fl [.int .i64] (v56_1 xc xd xe a1 (IntKind.i64.wrap (fI (xa.getD (IntKind.i64.wrap ((xa.length:Int) - 1)).toNat .undef) 1+1))),AV.fl [.int .i64,.int .i64] (v56_2 xc xd xe a1 (IntKind.i64.wrap (fI (xa.getD (IntKind.i64.wrap ((xa.length:Int) - 1)).toNat .undef) 1+1)))],Ai (IntKind.i64.wrap (fI (xa.getD (IntKind.i64.wrap ((xa.length:Int) - 1)).toNat .undef) 1+1)),AV.bool true])
 else none))
 else none)
 else none)
 else (bif q56 xc xd xe a1 0 then (bif !(v56_4 xc xd xe a1 0) then some (AV.tup [AV.agg [AV.fl [.int .i64,.int .i64,.int .i64,.int .i64] x1,Ai x2,AV.fl [.int .i64] x3,AV.fl [.int .i64] x4,AV.fl [.int .i64,.int .i64] x5],Ai 0,AV.bool false])
 else (bif (decide ((x1.length+([AV.agg [Ai a1,Ai 0,Ai (IntKind.i64.wrap (x2+1)),Ai (-1)]]).length)*32≤140737488355328) && decide ((x1.length+([AV.agg [Ai a1,Ai 0,Ai (IntKind.i64.wrap (x2+1)),Ai (-1)]]).length)≤140737488355328)) then some (AV.tup [AV.agg [AV.fl [.int .i64,.int .i64,.int .i64,.int .i64] (x1++([AV.agg [Ai a1,Ai 0,Ai (IntKind.i64.wrap (x2+1)),Ai (-1)]])),Ai (IntKind.i64.wrap (x2+1)),AV.fl [.int .i64] (v56_0 xc xd xe a1 0),AV.fl [.int .i64] (v56_1 xc xd xe a1 0),AV.fl [.int .i64,.int .i64] (v56_2 xc xd xe a1 0)],Ai 0,AV.bool true])
 else none))
 else none))))
 else none)
 else none)) (v44_0 xa xb xc xd xe) (v44_1 xa xb xc xd xe) (v44_2 xa xb xc xd xe) (v44_3 xa xb xc xd xe) (v44_4 xa xb xc xd xe)):=by kernel_rfl
theorem r12 (xa:List AV) (xb:Int) (xc xd xe:List AV) (a1:Int) (h:q12 xa xb xc xd xe a1=true):funA c12 0 12 [AV.agg [AV.sl [.int .i64,.int .i64,.int .i64,.int .i64] xa,AV.int .i64 xb,AV.sl [.int .i64] xc,AV.sl [.int .i64] xd,AV.sl [.int .i64,.int .i64] xe],AV.int .i64 a1]=some (AV.tup [AV.agg [AV.fl [.int .i64,.int .i64,.int .i64,.int .i64] (v12_0 xa xb xc xd xe a1),AV.int .i64 (v12_1 xa xb xc xd xe a1),AV.fl [.int .i64] (v12_2 xa xb xc xd xe a1),AV.fl [.int .i64] (v12_3 xa xb xc xd xe a1),AV.fl [.int .i64,.int .i64] (v12_4 xa xb xc xd xe a1)],AV.int .i64 (v12_5 xa xb xc xd xe a1),AV.bool (v12_6 xa xb xc xd xe a1)]):=by
 refine (e12 xa xb xc xd xe a1).trans ?_
 unfold q12 at h
 unfold v12_0 v12_1 v12_2 v12_3 v12_4 v12_5 v12_6
 refine ifG (fun hc=>?_) (fun hc=>?_) <;> first|rw [hc] at h ⊢|rw [hc] at h|rw [hc]|skip
 ·refine ifG (fun hc=>?_) (fun hc=>?_) <;> first|rw [hc] at h ⊢|rw [hc] at h|rw [hc]|skip
  ·refine ifG (fun hc=>?_) (fun hc=>?_) <;> first|rw [hc] at h ⊢|rw [hc] at h|rw [hc]|skip
   ·rfl
   ·refine ifG (fun hc=>?_) (fun hc=>?_) <;> first|rw [hc] at h ⊢|rw [hc] at h|rw [hc]|skip
    ·rfl
    ·refine ifG (fun hc=>?_) (fun hc=>?_) <;> first|rw [hc] at h ⊢|rw [hc] at h|rw [hc]|skip
     ·refine ifG (fun hc=>?_) (fun hc=>?_) <;> first|rw [hc] at h ⊢|rw [hc] at h|rw [hc]|skip
      ·refine ifG (fun hc=>?_) (fun hc=>?_) <;> first|rw [hc] at h ⊢|rw [hc] at h|rw [hc]|skip
       ·refine ifG (fun hc=>?_) (fun hc=>?_) <;> first|rw [hc] at h ⊢|rw [hc] at h|rw [hc]|skip
        ·rfl
        ·refine ifG (fun hc=>?_) (fun hc=>?_) <;> first|rw [hc] at h ⊢|rw [hc] at h|rw [hc]|skip
         ·rfl
         ·first|exact Bool.noConfusion h|exact Bool.noConfusion hc
       ·first|exact Bool.noConfusion h|exact Bool.noConfusion hc
      ·first|exact Bool.noConfusion h|exact Bool.noConfusion hc
     ·refine ifG (fun hc=>?_) (fun hc=>?_) <;> first|rw [hc] at h ⊢|rw [hc] at h|rw [hc]|skip
      ·refine ifG (fun hc=>?_) (fun hc=>?_) <;> first|rw [hc] at h ⊢|rw [hc] at h|rw [hc]|skip
       ·rfl
       ·refine ifG (fun hc=>?_) (fun hc=>?_) <;> first|rw [hc] at h ⊢|rw [hc] at h|rw [hc]|skip
        ·rfl
        ·first|exact Bool.noConfusion h|exact Bool.noConfusion hc
      ·first|exact Bool.noConfusion h|exact Bool.noConfusion hc
  ·first|exact Bool.noConfusion h|exact Bool.noConfusion hc
 ·first|exact Bool.noConfusion h|exact Bool.noConfusion hc
def m12:TModel
 | [.agg [.sl g0 xa,.int .i64 xb,.sl g1 xc,.sl g2 xd,.sl g3 xe],.int .i64 a1]=>bif ctsEq g0 ([.int .i64,.int .i64,.int .i64,.int .i64]) && ctsEq g1 ([.int .i64]) && ctsEq g2 ([.int .i64]) && ctsEq g3 ([.int .i64,.int .i64]) then some (q12 xa xb xc xd xe a1,AV.tup [AV.agg [AV.fl [.int .i64,.int .i64,.int .i64,.int .i64] (v12_0 xa xb xc xd xe a1),AV.int .i64 (v12_1 xa xb xc xd xe a1),AV.fl [.int .i64] (v12_2 xa xb xc xd xe a1),AV.fl [.int .i64] (v12_3 xa xb xc xd xe a1),AV.fl [.int .i64,.int .i64] (v12_4 xa xb xc xd xe a1)],AV.int .i64 (v12_5 xa xb xc xd xe a1),AV.bool (v12_6 xa xb xc xd xe a1)]) else none
 | _=>none
theorem k12:Known Tryz.prog 12:=⟨Tryz.f12,Tryz.func12,by kernel_rfl,by kernel_rfl⟩
theorem meets12:Meets Tryz.prog 12 m12:=by
 refine mt (lvl:=0) (cf:=c12) rfl mixed k12 Tryz.func12 (by kernel_rfl) noLoop (allT_cons meets17 (allT_cons meets44 (allT_cons meets56 allT_nil))) allM_nil noI fun xs r h=>?_
 unfold m12 at h
 split at h
 ·rename_i g0 xa xb g1 xc g2 xd g3 xe a1
  obtain ⟨hg,h⟩:=bif_pair h
  simp only [Bool.and_eq_true] at hg
  obtain ⟨⟨⟨q0,q1⟩,q2⟩,q3⟩:=hg
  obtain rfl:=cE q0
  obtain rfl:=cE q1
  obtain rfl:=cE q2
  obtain rfl:=cE q3
  obtain ⟨h1,rfl⟩:=pair_inj h
  exact r12 xa xb xc xd xe a1 h1
 ·cases h
noncomputable def c58:Cfg:=cfg Tryz.prog [(58,999,[3])] [] [] [] []
def v58_0 (xa xb xc xd:Int) (a1:AV):Bool:=(bif decide (xb=fI a1 0) then decide (xd=(-1)) else false)
theorem e58 (xa xb xc xd:Int) (a1:AV):funA c58 0 58 [AV.agg [Ai xa,Ai xb,Ai xc,Ai xd],AV.rptr [.int .i64] a1 0]=(bif decide (xb=fI a1 0) then some (AV.bool (decide (xd=(-1))))
 else some (AV.bool false)):=by kernel_rfl
def m58:TModel
 | [.agg [.int .i64 xa,.int .i64 xb,.int .i64 xc,.int .i64 xd],.rptr g0 a1 g1]=>bif ctsEq g0 ([.int .i64]) && Nat.beq g1 0 then some (true,AV.bool (v58_0 xa xb xc xd a1)) else none
 | _=>none
theorem k58:Known Tryz.prog 58:=⟨Tryz.f58,Tryz.func58,by kernel_rfl,by kernel_rfl⟩
theorem meets58:Meets Tryz.prog 58 m58:=by
 refine mt (lvl:=0) (cf:=c58) rfl mixed k58 Tryz.func58 (by kernel_rfl) noLoop allT_nil allM_nil noI fun xs r h=>?_
 unfold m58 at h
 split at h
 ·rename_i xa xb xc xd g0 a1 g1
  obtain ⟨hg,h⟩:=bif_pair h
  simp only [Bool.and_eq_true] at hg
  obtain ⟨q0,q1⟩:=hg
  obtain rfl:=cE q0
  obtain rfl:=bE q1
  obtain ⟨h1,rfl⟩:=pair_inj h
  exact (e58 xa xb xc xd a1).trans (of_tt (brT (fun b=>some (AV.bool (bif b then decide (xd=(-1)) else false))) (fun _=>rfl) (fun _=>rfl)))
 ·cases h
def G57_0 {β:Type} (t0:List AV) (t1:AV) (t7:Int) (t8:Int) (N:(Int)→β) (K:(Unit ⊕ Int)→β) (d:β):β:=(bif decide (t8<t7) then (bif (decide (0≤t8) && decide (t8<(t0.length:Int))) then (bif (v58_0 (fI (t0.getD t8.toNat .undef) 0) (fI (t0.getD t8.toNat .undef) 1) (fI (t0.getD t8.toNat .undef) 2) (fI (t0.getD t8.toNat .undef) 3) t1) then K (.inr t8)
 else N (IntKind.i64.wrap (t8+1)))
 else d)
 else K (.inl ()))
def F57_0 (t0:List AV) (t1:AV) (t7 t8:Int):Out (Int) (Unit ⊕ Int):=G57_0 t0 t1 t7 t8 .next .stop .fail
def R57_0 (t0:List AV) (t1:AV) (t7:Int):(Int)→Out (Int) (Unit ⊕ Int):=fun s:Int=>F57_0 t0 t1 t7 s
def E57_0 (t0:List AV) (t1:AV) (t7:Int):(Int)→St:=fun s:Int=>⟨[(0,AV.sl [.int .i64,.int .i64,.int .i64,.int .i64] t0),(1,AV.fn 58 [AV.rptr [.int .i64] t1 0]),(7,Ai t7),(8,Ai s)],[]⟩
def K57_0 (t0:List AV) (t1:AV) (t7:Int) (k:Kont):(Unit ⊕ Int)→Option AV:=sumE (fun _:Unit=>k (.exit 0) ⟨[],[]⟩) (fun p:Int=>k .ret ⟨[(4,Ai p)],[]⟩)
def l57_0:LModel:=fun _ _ st k=>match st with
 | ⟨[(0,.sl g0 t0),(1,.fn g1 [.rptr g2 t1 g3]),(7,.int .i64 t7),(8,.int .i64 t8)],[]⟩=>bif ctsEq g0 ([.int .i64,.int .i64,.int .i64,.int .i64]) && Nat.beq g1 58 && ctsEq g2 ([.int .i64]) && Nat.beq g3 0 then ro (runW (R57_0 t0 t1 t7) ((t7 - t8:Int).toNat+1) t8) none (K57_0 t0 t1 t7 k) else none
 | _=>none
noncomputable def c57:Cfg:=cfg Tryz.prog [(57,0,[0,1,7,8]),(57,999,[4]),(57,1000,[]),(57,1001,[0,1,7,8])] [(58,m58)] [] [] [(57,0,l57_0)]
theorem s57_0 (t0:List AV) (t1:AV) (t7:Int) (ce:CallE) (k:Kont) (s:Int) (next:St→Option AV):stepA (codeA c57 ce [] 57 0 (sub [1,0,1,0,0] (body Tryz.f57))) (normA [] [0,1,7,8]) next ((E57_0 t0 t1 t7) s) k=G57_0 t0 t1 t7 s (fun s=>next ((E57_0 t0 t1 t7) s)) (K57_0 t0 t1 t7 k) none:=by kernel_rfl
theorem st57_0 (t0:List AV) (t1:AV) (t7:Int) (ce:CallE) (k:Kont) (s:Int) (next:St→Option AV):stepA (codeA c57 ce [] 57 0 (sub [1,0,1,0,0] (body Tryz.f57))) (normA [] [0,1,7,8]) next ((E57_0 t0 t1 t7) s) k=(R57_0 t0 t1 t7 s).el none (fun s=>next ((E57_0 t0 t1 t7) s)) (K57_0 t0 t1 t7 k):=(s57_0 t0 t1 t7 ce k s next).trans (by unfold R57_0;unfold F57_0 G57_0;simp only [el_cond,el_ro,el_sum,el_fail,el_next,el_stop] <;> rfl)
theorem ok57_0 {ce:CallE}:LoopOK c57 ce [] 57 0 (sub [1,0,1,0,0] (body Tryz.f57)):=by
 intro m hm st k r h
 obtain rfl:l57_0=m:=Option.some.inj hm
 unfold l57_0 at h
 split at h
 ·rename_i g0 t0 g1 g2 t1 g3 t7 t8
  obtain ⟨hg,h⟩:=bif_some h
  simp only [Bool.and_eq_true] at hg
  obtain ⟨⟨⟨q0,q1⟩,q2⟩,q3⟩:=hg
  obtain rfl:=cE q0
  obtain rfl:=bE q1
  obtain rfl:=cE q2
  obtain rfl:=bE q3
  refine ⟨((t7 - t8:Int).toNat+1),?_⟩
  rw [← h]
  exact loop_run (E57_0 t0 t1 t7) (K57_0 t0 t1 t7 k) (st57_0 t0 t1 t7 ce k) _ t8
 ·cases h
def q57 (a0:List AV) (a1:AV):Bool:=(ro (runW (R57_0 a0 a1 (a0.length:Int)) (((a0.length:Int) - 0:Int).toNat+1) 0) false (sumE (fun _=>true) (fun p75=>true)))
def v57_0 (a0:List AV) (a1:AV):Int:=(ro (runW (R57_0 a0 a1 (a0.length:Int)) (((a0.length:Int) - 0:Int).toNat+1) 0) 0 (sumE (fun _=>(-1)) (fun p75=>p75)))
theorem e57 (a0:List AV) (a1:AV):funA c57 0 57 [AV.sl [.int .i64,.int .i64,.int .i64,.int .i64] a0,AV.fn 58 [AV.rptr [.int .i64] a1 0]]=(ro (runW (R57_0 a0 a1 (a0.length:Int)) (((a0.length:Int) - 0:Int).toNat+1) 0) none (sumE (fun _=>some (Ai (-1))) (fun p75=>some (Ai p75)))):=by kernel_rfl
def m57:TModel
 | [.sl g0 a0,.fn g1 [.rptr g2 a1 g3]]=>bif ctsEq g0 ([.int .i64,.int .i64,.int .i64,.int .i64]) && Nat.beq g1 58 && ctsEq g2 ([.int .i64]) && Nat.beq g3 0 then some (q57 a0 a1,AV.int .i64 (v57_0 a0 a1)) else none
 | _=>none
theorem k57:Known Tryz.prog 57:=⟨Tryz.f57,Tryz.func57,by kernel_rfl,by kernel_rfl⟩
theorem meets57:Meets Tryz.prog 57 m57:=by
 refine mt (lvl:=0) (cf:=c57) rfl mixed k57 Tryz.func57 (by kernel_rfl) (loops_cons ok57_0 noLoop) (allT_cons meets58 allT_nil) allM_nil noI fun xs r h=>?_
 unfold m57 at h
 split at h
 ·rename_i g0 a0 g1 g2 a1 g3
  obtain ⟨hg,h⟩:=bif_pair h
  simp only [Bool.and_eq_true] at hg
  obtain ⟨⟨⟨q0,q1⟩,q2⟩,q3⟩:=hg
  obtain rfl:=cE q0
  obtain rfl:=bE q1
  obtain rfl:=cE q2
  obtain rfl:=bE q3
  obtain ⟨h1,rfl⟩:=pair_inj h
  exact (e57 a0 a1).trans ((brO (fun o:Option (Unit ⊕ Int)=>some (Ai (ro o 0 (sumE (fun _=>(-1)) (fun p75=>p75))))) (brS (fun o:Unit ⊕ Int=>some (Ai ((sumE (fun _=>(-1)) (fun p75=>p75)) o))) (fun _=>(fun _=>rfl)) (fun p75=>(fun _=>rfl)))) h1)
 ·cases h
noncomputable def c14:Cfg:=cfg Tryz.prog [(14,999,[4,5])] [(17,m17),(44,m44),(57,m57)] [] [] []
def q14 (xa:List AV) (xb:Int) (xc xd xe:List AV) (a1:Int):Bool:=(q44 xa xb xc xd xe && (q57 xa (AV.int .i64 a1) && (q17 xa xb xc xd xe && (bif !(v17_0 xa xb xc xd xe) then true else (bif decide (xb ≥ 1000) then true else (bif decide ((v57_0 xa (AV.int .i64 a1))<0) then true else (decide (0≤(v57_0 xa (AV.int .i64 a1))) && decide ((v57_0 xa (AV.int .i64 a1))<((v44_0 xa xb xc xd xe).length:Int)))))))))
def v14_0 (xa:List AV) (xb:Int) (xc xd xe:List AV) (a1:Int):List AV:=(bif !(v17_0 xa xb xc xd xe) then (v44_0 xa xb xc xd xe) else (bif decide (xb ≥ 1000) then (v44_0 xa xb xc xd xe) else (bif decide ((v57_0 xa (AV.int .i64 a1))<0) then (v44_0 xa xb xc xd xe) else (v44_0 xa xb xc xd xe).set (v57_0 xa (AV.int .i64 a1)).toNat (AV.agg [AV.int .i64 (fI ((v44_0 xa xb xc xd xe).getD (v57_0 xa (AV.int .i64 a1)).toNat .undef) 0),AV.int .i64 (fI ((v44_0 xa xb xc xd xe).getD (v57_0 xa (AV.int .i64 a1)).toNat .undef) 1),AV.int .i64 (fI ((v44_0 xa xb xc xd xe).getD (v57_0 xa (AV.int .i64 a1)).toNat .undef) 2),AV.int .i64 (IntKind.i64.wrap ((v44_1 xa xb xc xd xe)+1))]))))
def v14_1 (xa:List AV) (xb:Int) (xc xd xe:List AV) (a1:Int):Int:=(bif !(v17_0 xa xb xc xd xe) then (v44_1 xa xb xc xd xe) else (bif decide (xb ≥ 1000) then (v44_1 xa xb xc xd xe) else (bif decide ((v57_0 xa (AV.int .i64 a1))<0) then (v44_1 xa xb xc xd xe) else IntKind.i64.wrap ((v44_1 xa xb xc xd xe)+1))))
def v14_2 (xa:List AV) (xb:Int) (xc xd xe:List AV) (a1:Int):List AV:=(v44_2 xa xb xc xd xe)
def v14_3 (xa:List AV) (xb:Int) (xc xd xe:List AV) (a1:Int):List AV:=(v44_3 xa xb xc xd xe)
def v14_4 (xa:List AV) (xb:Int) (xc xd xe:List AV) (a1:Int):List AV:=(v44_4 xa xb xc xd xe)
def v14_5 (xa:List AV) (xb:Int) (xc xd xe:List AV) (a1:Int):Bool:=(bif !(v17_0 xa xb xc xd xe) then false else (bif decide (xb ≥ 1000) then false else (bif decide ((v57_0 xa (AV.int .i64 a1))<0) then false else true)))
theorem e14 (xa:List AV) (xb:Int) (xc xd xe:List AV) (a1:Int):funA c14 0 14 [AV.agg [AV.sl [.int .i64,.int .i64,.int .i64,.int .i64] xa,Ai xb,AV.sl [.int .i64] xc,AV.sl [.int .i64] xd,AV.sl [.int .i64,.int .i64] xe],Ai a1]=((fun (x1:List AV) (x2:Int) (x3:List AV) (x4:List AV) (x5:List AV) (x6:Int)=>(bif q44 xa xb xc xd xe then (bif q57 xa (Ai a1) then (bif q17 xa xb xc xd xe then (bif !(v17_0 xa xb xc xd xe) then some (AV.tup [AV.agg [AV.fl [.int .i64,.int .i64,.int .i64,.int .i64] x1,Ai x2,AV.fl [.int .i64] x3,AV.fl [.int .i64] x4,AV.fl [.int .i64,.int .i64] x5],AV.bool false])
 else (bif decide (xb ≥ 1000) then some (AV.tup [AV.agg [AV.fl [.int .i64,.int .i64,.int .i64,.int .i64] x1,Ai x2,AV.fl [.int .i64] x3,AV.fl [.int .i64] x4,AV.fl [.int .i64,.int .i64] x5],AV.bool false])
 else (bif decide (x6<0) then some (AV.tup [AV.agg [AV.fl [.int .i64,.int .i64,.int .i64,.int .i64] x1,Ai x2,AV.fl [.int .i64] x3,AV.fl [.int .i64] x4,AV.fl [.int .i64,.int .i64] x5],AV.bool false])
 else (bif (decide (0≤x6) && decide (x6<(x1.length:Int))) then some (AV.tup [AV.agg [AV.fl [.int .i64,.int .i64,.int .i64,.int .i64] (x1.set x6.toNat (AV.agg [Ai (fI (x1.getD x6.toNat .undef) 0),Ai (fI (x1.getD x6.toNat .undef) 1),Ai (fI (x1.getD x6.toNat .undef) 2),Ai (IntKind.i64.wrap (x2+1))])),Ai (IntKind.i64.wrap (x2+1)),AV.fl [.int .i64] x3,AV.fl [.int .i64] x4,AV.fl [.int .i64,.int .i64] x5],AV.bool true])
 else none))))
 else none)
 else none)
 else none)) (v44_0 xa xb xc xd xe) (v44_1 xa xb xc xd xe) (v44_2 xa xb xc xd xe) (v44_3 xa xb xc xd xe) (v44_4 xa xb xc xd xe) (v57_0 xa (Ai a1))):=by kernel_rfl
theorem r14 (xa:List AV) (xb:Int) (xc xd xe:List AV) (a1:Int) (h:q14 xa xb xc xd xe a1=true):funA c14 0 14 [AV.agg [AV.sl [.int .i64,.int .i64,.int .i64,.int .i64] xa,AV.int .i64 xb,AV.sl [.int .i64] xc,AV.sl [.int .i64] xd,AV.sl [.int .i64,.int .i64] xe],AV.int .i64 a1]=some (AV.tup [AV.agg [AV.fl [.int .i64,.int .i64,.int .i64,.int .i64] (v14_0 xa xb xc xd xe a1),AV.int .i64 (v14_1 xa xb xc xd xe a1),AV.fl [.int .i64] (v14_2 xa xb xc xd xe a1),AV.fl [.int .i64] (v14_3 xa xb xc xd xe a1),AV.fl [.int .i64,.int .i64] (v14_4 xa xb xc xd xe a1)],AV.bool (v14_5 xa xb xc xd xe a1)]):=by
 refine (e14 xa xb xc xd xe a1).trans ?_
 unfold q14 at h
 unfold v14_0 v14_1 v14_2 v14_3 v14_4 v14_5
 refine ifG (fun hc=>?_) (fun hc=>?_) <;> first|rw [hc] at h ⊢|rw [hc] at h|rw [hc]|skip
 ·refine ifG (fun hc=>?_) (fun hc=>?_) <;> first|rw [hc] at h ⊢|rw [hc] at h|rw [hc]|skip
  ·refine ifG (fun hc=>?_) (fun hc=>?_) <;> first|rw [hc] at h ⊢|rw [hc] at h|rw [hc]|skip
   ·refine ifG (fun hc=>?_) (fun hc=>?_) <;> first|rw [hc] at h ⊢|rw [hc] at h|rw [hc]|skip
    ·rfl
    ·refine ifG (fun hc=>?_) (fun hc=>?_) <;> first|rw [hc] at h ⊢|rw [hc] at h|rw [hc]|skip
     ·rfl
     ·refine ifG (fun hc=>?_) (fun hc=>?_) <;> first|rw [hc] at h ⊢|rw [hc] at h|rw [hc]|skip
      ·rfl
      ·refine ifG (fun hc=>?_) (fun hc=>?_) <;> first|rw [hc] at h ⊢|rw [hc] at h|rw [hc]|skip
       ·rfl
       ·first|exact Bool.noConfusion h|exact Bool.noConfusion hc
   ·first|exact Bool.noConfusion h|exact Bool.noConfusion hc
  ·first|exact Bool.noConfusion h|exact Bool.noConfusion hc
 ·first|exact Bool.noConfusion h|exact Bool.noConfusion hc
def m14:TModel
 | [.agg [.sl g0 xa,.int .i64 xb,.sl g1 xc,.sl g2 xd,.sl g3 xe],.int .i64 a1]=>bif ctsEq g0 ([.int .i64,.int .i64,.int .i64,.int .i64]) && ctsEq g1 ([.int .i64]) && ctsEq g2 ([.int .i64]) && ctsEq g3 ([.int .i64,.int .i64]) then some (q14 xa xb xc xd xe a1,AV.tup [AV.agg [AV.fl [.int .i64,.int .i64,.int .i64,.int .i64] (v14_0 xa xb xc xd xe a1),AV.int .i64 (v14_1 xa xb xc xd xe a1),AV.fl [.int .i64] (v14_2 xa xb xc xd xe a1),AV.fl [.int .i64] (v14_3 xa xb xc xd xe a1),AV.fl [.int .i64,.int .i64] (v14_4 xa xb xc xd xe a1)],AV.bool (v14_5 xa xb xc xd xe a1)]) else none
 | _=>none
theorem k14:Known Tryz.prog 14:=⟨Tryz.f14,Tryz.func14,by kernel_rfl,by kernel_rfl⟩
theorem meets14:Meets Tryz.prog 14 m14:=by
 refine mt (lvl:=0) (cf:=c14) rfl mixed k14 Tryz.func14 (by kernel_rfl) noLoop (allT_cons meets17 (allT_cons meets44 (allT_cons meets57 allT_nil))) allM_nil noI fun xs r h=>?_
 unfold m14 at h
 split at h
 ·rename_i g0 xa xb g1 xc g2 xd g3 xe a1
  obtain ⟨hg,h⟩:=bif_pair h
  simp only [Bool.and_eq_true] at hg
  obtain ⟨⟨⟨q0,q1⟩,q2⟩,q3⟩:=hg
  obtain rfl:=cE q0
  obtain rfl:=cE q1
  obtain rfl:=cE q2
  obtain rfl:=cE q3
  obtain ⟨h1,rfl⟩:=pair_inj h
  exact r14 xa xb xc xd xe a1 h1
 ·cases h
def G59_0 {β:Type} (t9:Int) (t34:Int) (t8:Int) (t10:Int) (t35:Int) (h0:List AV) (h1:List AV) (h4:List AV) (N:((Int × Int × Int × (List AV) × (List AV) × (List AV)))→β) (K:((Int × Int × (List AV) × (List AV) × (List AV)))→β) (d:β):β:=(bif decide (t35<t34) then (bif (decide (0≤t35) && decide (t35<(h4.length:Int))) then (bif decide (fI (h4.getD t35.toNat .undef) 0≤t9) then N (t8,t10,IntKind.i64.wrap (t35+1),h0,h1,h4)
 else (bif decide (t8=IntKind.i64.wrap (fI (h4.getD t35.toNat .undef) 1 - 1)) then (bif (decide (0≤t35) && decide (t35<(h4.length:Int))) then (bif (decide (0≤t35) && decide (t35<(h4.length:Int))) then N (IntKind.i64.wrap (fI (h4.getD t35.toNat .undef) 1 - 1),IntKind.i64.wrap (t10+0),IntKind.i64.wrap (t35+1),h0,h1,h4.set t35.toNat (AV.agg [AV.int .i64 (fI (h4.getD t35.toNat .undef) 0),AV.int .i64 (IntKind.i64.wrap (fI (h4.getD t35.toNat .undef) 1 - 1))]))
 else d)
 else d)
 else (bif (decide (0≤IntKind.i64.wrap (fI (h4.getD t35.toNat .undef) 1 - 1)) && decide (IntKind.i64.wrap (fI (h4.getD t35.toNat .undef) 1 - 1)<(h0.length:Int))) then (bif (decide (0≤IntKind.i64.wrap (fI (h4.getD t35.toNat .undef) 1 - 1)) && decide (IntKind.i64.wrap (fI (h4.getD t35.toNat .undef) 1 - 1)<(h1.length:Int))) then (bif (decide (0≤t8) && decide (t8<(h0.length:Int))) then (bif (decide (0≤t8) && decide (t8<(h1.length:Int))) then (bif (decide (0≤t35) && decide (t35<(h4.length:Int))) then (bif (decide (0≤t35) && decide (t35<(h4.length:Int))) then N (IntKind.i64.wrap (fI (h4.getD t35.toNat .undef) 1 - 1),IntKind.i64.wrap (t10+1),IntKind.i64.wrap (t35+1),h0.set t8.toNat (AV.agg [AV.int .i64 (fI (h0.getD (IntKind.i64.wrap (fI (h4.getD t35.toNat .undef) 1 - 1)).toNat .undef) 0)]),h1.set t8.toNat (AV.agg [AV.int .i64 (fI (h1.getD (IntKind.i64.wrap (fI (h4.getD t35.toNat .undef) 1 - 1)).toNat .undef) 0)]),h4.set t35.toNat (AV.agg [AV.int .i64 (fI (h4.getD t35.toNat .undef) 0),AV.int .i64 (IntKind.i64.wrap (fI (h4.getD t35.toNat .undef) 1 - 1))]))
 else d)
 else d)
 else d)
 else d)
 else d)
 else d)))
 else d)
 else K (t8,t10,h0,h1,h4))
def F59_0 (t9 t34 t8 t10 t35:Int) (h0 h1 h4:List AV):Out ((Int × Int × Int × (List AV) × (List AV) × (List AV))) ((Int × Int × (List AV) × (List AV) × (List AV))):=G59_0 t9 t34 t8 t10 t35 h0 h1 h4 .next .stop .fail
def R59_0 (t9 t34:Int):((Int × Int × Int × (List AV) × (List AV) × (List AV)))→Out ((Int × Int × Int × (List AV) × (List AV) × (List AV))) ((Int × Int × (List AV) × (List AV) × (List AV))):=fun s:Int × Int × Int × (List AV) × (List AV) × (List AV)=>F59_0 t9 t34 s.1 s.2.1 s.2.2.1 s.2.2.2.1 s.2.2.2.2.1 s.2.2.2.2.2
def E59_0 (t9 t34:Int):((Int × Int × Int × (List AV) × (List AV) × (List AV)))→St:=fun s:Int × Int × Int × (List AV) × (List AV) × (List AV)=>⟨[(4,AV.ptr [0,4] 0 0),(7,AV.ptr [0,7] 0 0),(8,Ai s.1),(9,Ai t9),(10,Ai s.2.1),(33,AV.own [0,33]),(34,Ai t34),(35,Ai s.2.2.1)],[([0,0,7],⟨false,[.int .i64],s.2.2.2.1⟩),([0,1,7],⟨false,[.int .i64],s.2.2.2.2.1⟩),([0,4],⟨true,[],[AV.agg [AV.snil,AV.snil,AV.snil]]⟩),([0,7],⟨true,[],[AV.agg [AV.own [0,0,7],AV.own [0,1,7],AV.own [0,33]]]⟩),([0,33],⟨false,[.int .i64,.int .i64],s.2.2.2.2.2⟩)]⟩
def K59_0 (t9 t34:Int) (k:Kont):((Int × Int × (List AV) × (List AV) × (List AV)))→Option AV:=fun p:Int × Int × (List AV) × (List AV) × (List AV)=>k (.exit 0) ⟨[(4,AV.ptr [0,4] 0 0),(7,AV.ptr [0,7] 0 0),(8,Ai p.1),(10,Ai p.2.1)],[([0,0,7],⟨false,[.int .i64],p.2.2.1⟩),([0,1,7],⟨false,[.int .i64],p.2.2.2.1⟩),([0,4],⟨true,[],[AV.agg [AV.snil,AV.snil,AV.snil]]⟩),([0,7],⟨true,[],[AV.agg [AV.own [0,0,7],AV.own [0,1,7],AV.own [0,33]]]⟩),([0,33],⟨false,[.int .i64,.int .i64],p.2.2.2.2⟩)]⟩
def l59_0:LModel:=fun _ _ st k=>match st with
 | ⟨[(4,.ptr g0 g1 g2),(7,.ptr g3 g4 g5),(8,.int .i64 t8),(9,.int .i64 t9),(10,.int .i64 t10),(33,.own g6),(34,.int .i64 t34),(35,.int .i64 t35)],[(g7,⟨false,g8,h0⟩),(g9,⟨false,g10,h1⟩),(g11,⟨true,[],[.agg [.snil,.snil,.snil]]⟩),(g12,⟨true,[],[.agg [.own g13,.own g14,.own g15]]⟩),(g16,⟨false,g17,h4⟩)]⟩=>bif nmEq g0 ([0,4]) && Nat.beq g1 0 && Nat.beq g2 0 && nmEq g3 ([0,7]) && Nat.beq g4 0 && Nat.beq g5 0 && nmEq g6 ([0,33]) && nmEq g7 ([0,0,7]) && ctsEq g8 ([.int .i64]) && nmEq g9 ([0,1,7]) && ctsEq g10 ([.int .i64]) && nmEq g11 ([0,4]) && nmEq g12 ([0,7]) && nmEq g13 ([0,0,7]) && nmEq g14 ([0,1,7]) && nmEq g15 ([0,33]) && nmEq g16 ([0,33]) && ctsEq g17 ([.int .i64,.int .i64]) then ro (runW (R59_0 t9 t34) ((t34 - t35:Int).toNat+1) (t8,t10,t35,h0,h1,h4)) none (K59_0 t9 t34 k) else none
 | _=>none
noncomputable def c59:Cfg:=cfg Tryz.prog [(59,0,[4,7,8,9,10,33,34,35]),(59,999,[4,5,6]),(59,1000,[4,7,8,10]),(59,1001,[4,7,8,9,10,33,34,35]),(104,999,[6])] [(61,m61),(62,m62),(64,m64)] [] [104] [(59,0,l59_0)]
theorem s59_0 (t9 t34:Int) (k:Kont) (s:Int × Int × Int × (List AV) × (List AV) × (List AV)) (next:St→Option AV):stepA (codeA c59 (inlA c59 1) [] 59 0 (sub [1,1,1,1,1,0,1,0,0] (body Tryz.f59))) (normA [] [4,7,8,9,10,33,34,35]) next ((E59_0 t9 t34) s) k=G59_0 t9 t34 s.1 s.2.1 s.2.2.1 s.2.2.2.1 s.2.2.2.2.1 s.2.2.2.2.2 (fun s=>next ((E59_0 t9 t34) s)) (K59_0 t9 t34 k) none:=by kernel_rfl
theorem st59_0 (t9 t34:Int) (k:Kont) (s:(Int × Int × Int × (List AV) × (List AV) × (List AV))) (next:St→Option AV):stepA (codeA c59 (inlA c59 1) [] 59 0 (sub [1,1,1,1,1,0,1,0,0] (body Tryz.f59))) (normA [] [4,7,8,9,10,33,34,35]) next ((E59_0 t9 t34) s) k=(R59_0 t9 t34 s).el none (fun s=>next ((E59_0 t9 t34) s)) (K59_0 t9 t34 k):=(s59_0 t9 t34 k s next).trans (by unfold R59_0;unfold F59_0 G59_0;simp only [el_cond,el_ro,el_sum,el_fail,el_next,el_stop] <;> rfl)
theorem ok59_0:LoopOK c59 (inlA c59 1) [] 59 0 (sub [1,1,1,1,1,0,1,0,0] (body Tryz.f59)):=by
 intro m hm st k r h
 obtain rfl:l59_0=m:=Option.some.inj hm
 unfold l59_0 at h
 split at h
 ·rename_i g0 g1 g2 g3 g4 g5 t8 t9 t10 g6 t34 t35 g7 g8 h0 g9 g10 h1 g11 g12 g13 g14 g15 g16 g17 h4
  obtain ⟨hg,h⟩:=bif_some h
  simp only [Bool.and_eq_true] at hg
  obtain ⟨⟨⟨⟨⟨⟨⟨⟨⟨⟨⟨⟨⟨⟨⟨⟨⟨q0,q1⟩,q2⟩,q3⟩,q4⟩,q5⟩,q6⟩,q7⟩,q8⟩,q9⟩,q10⟩,q11⟩,q12⟩,q13⟩,q14⟩,q15⟩,q16⟩,q17⟩:=hg
  obtain rfl:=nE q0
  obtain rfl:=bE q1
  obtain rfl:=bE q2
  obtain rfl:=nE q3
  obtain rfl:=bE q4
  obtain rfl:=bE q5
  obtain rfl:=nE q6
  obtain rfl:=nE q7
  obtain rfl:=cE q8
  obtain rfl:=nE q9
  obtain rfl:=cE q10
  obtain rfl:=nE q11
  obtain rfl:=nE q12
  obtain rfl:=nE q13
  obtain rfl:=nE q14
  obtain rfl:=nE q15
  obtain rfl:=nE q16
  obtain rfl:=cE q17
  refine ⟨((t34 - t35:Int).toNat+1),?_⟩
  rw [← h]
  exact loop_run (E59_0 t9 t34) (K59_0 t9 t34 k) (st59_0 t9 t34 k) _ (t8,t10,t35,h0,h1,h4)
 ·cases h
def q59 (xa xb xc:List AV) (a1:Int):Bool:=(q64 xa xb xc && (q62 xa xb xc a1 && (q61 xa xb xc && (bif !(v61_0 xa xb xc) then true else (bif decide ((v62_0 xa xb xc a1)<0) then true else ((decide (0≤(v62_0 xa xb xc a1)) && decide ((v62_0 xa xb xc a1)<(xa.length:Int))) && (ro (runW (R59_0 (fI (xa.getD (v62_0 xa xb xc a1).toNat .undef) 0) ((v64_2 xa xb xc).length:Int)) ((((v64_2 xa xb xc).length:Int) - 0:Int).toNat+1) ((v62_0 xa xb xc a1),0,0,(v64_0 xa xb xc),(v64_1 xa xb xc),(v64_2 xa xb xc))) false (fun p76=>(bif decide (p76.1=IntKind.i64.wrap ((p76.2.2.1.length:Int) - 1)) then ((decide (0≤0) && decide (0≤IntKind.i64.wrap ((p76.2.2.1.length:Int) - 1)) && decide (IntKind.i64.wrap ((p76.2.2.1.length:Int) - 1)≤(p76.2.2.1.length:Int))) && (decide (0≤0) && decide (0≤IntKind.i64.wrap ((p76.2.2.1.length:Int) - 1)) && decide (IntKind.i64.wrap ((p76.2.2.1.length:Int) - 1)≤(p76.2.2.2.1.length:Int)))) else ((decide (0≤IntKind.i64.wrap ((p76.2.2.1.length:Int) - 1)) && decide (IntKind.i64.wrap ((p76.2.2.1.length:Int) - 1)<(p76.2.2.1.length:Int))) && ((decide (0≤IntKind.i64.wrap ((p76.2.2.1.length:Int) - 1)) && decide (IntKind.i64.wrap ((p76.2.2.1.length:Int) - 1)<(p76.2.2.2.1.length:Int))) && ((decide (0≤p76.1) && decide (p76.1<(p76.2.2.1.length:Int))) && ((decide (0≤p76.1) && decide (p76.1<(p76.2.2.2.1.length:Int))) && ((decide (0≤0) && decide (0≤IntKind.i64.wrap ((p76.2.2.1.length:Int) - 1)) && decide (IntKind.i64.wrap ((p76.2.2.1.length:Int) - 1)≤((p76.2.2.1.set p76.1.toNat (AV.agg [AV.int .i64 (fI (p76.2.2.1.getD (IntKind.i64.wrap ((p76.2.2.1.length:Int) - 1)).toNat .undef) 0)])).length:Int))) && (decide (0≤0) && decide (0≤IntKind.i64.wrap ((p76.2.2.1.length:Int) - 1)) && decide (IntKind.i64.wrap ((p76.2.2.1.length:Int) - 1)≤((p76.2.2.2.1.set p76.1.toNat (AV.agg [AV.int .i64 (fI (p76.2.2.2.1.getD (IntKind.i64.wrap ((p76.2.2.1.length:Int) - 1)).toNat .undef) 0)])).length:Int)))))))))))))))))
def v59_0 (xa xb xc:List AV) (a1:Int):List AV:=(bif !(v61_0 xa xb xc) then (v64_0 xa xb xc) else (bif decide ((v62_0 xa xb xc a1)<0) then (v64_0 xa xb xc) else (ro (runW (R59_0 (fI (xa.getD (v62_0 xa xb xc a1).toNat .undef) 0) ((v64_2 xa xb xc).length:Int)) ((((v64_2 xa xb xc).length:Int) - 0:Int).toNat+1) ((v62_0 xa xb xc a1),0,0,(v64_0 xa xb xc),(v64_1 xa xb xc),(v64_2 xa xb xc))) [] (fun p76=>(bif decide (p76.1=IntKind.i64.wrap ((p76.2.2.1.length:Int) - 1)) then (p76.2.2.1.drop (Int.toNat 0)).take (Int.toNat (IntKind.i64.wrap ((p76.2.2.1.length:Int) - 1)) - (Int.toNat 0)) else ((p76.2.2.1.set p76.1.toNat (AV.agg [AV.int .i64 (fI (p76.2.2.1.getD (IntKind.i64.wrap ((p76.2.2.1.length:Int) - 1)).toNat .undef) 0)])).drop (Int.toNat 0)).take (Int.toNat (IntKind.i64.wrap ((p76.2.2.1.length:Int) - 1)) - (Int.toNat 0)))))))
def v59_1 (xa xb xc:List AV) (a1:Int):List AV:=(bif !(v61_0 xa xb xc) then (v64_1 xa xb xc) else (bif decide ((v62_0 xa xb xc a1)<0) then (v64_1 xa xb xc) else (ro (runW (R59_0 (fI (xa.getD (v62_0 xa xb xc a1).toNat .undef) 0) ((v64_2 xa xb xc).length:Int)) ((((v64_2 xa xb xc).length:Int) - 0:Int).toNat+1) ((v62_0 xa xb xc a1),0,0,(v64_0 xa xb xc),(v64_1 xa xb xc),(v64_2 xa xb xc))) [] (fun p76=>(bif decide (p76.1=IntKind.i64.wrap ((p76.2.2.1.length:Int) - 1)) then (p76.2.2.2.1.drop (Int.toNat 0)).take (Int.toNat (IntKind.i64.wrap ((p76.2.2.1.length:Int) - 1)) - (Int.toNat 0)) else ((p76.2.2.2.1.set p76.1.toNat (AV.agg [AV.int .i64 (fI (p76.2.2.2.1.getD (IntKind.i64.wrap ((p76.2.2.1.length:Int) - 1)).toNat .undef) 0)])).drop (Int.toNat 0)).take (Int.toNat (IntKind.i64.wrap ((p76.2.2.1.length:Int) - 1)) - (Int.toNat 0)))))))
def v59_2 (xa xb xc:List AV) (a1:Int):List AV:=(bif !(v61_0 xa xb xc) then (v64_2 xa xb xc) else (bif decide ((v62_0 xa xb xc a1)<0) then (v64_2 xa xb xc) else (ro (runW (R59_0 (fI (xa.getD (v62_0 xa xb xc a1).toNat .undef) 0) ((v64_2 xa xb xc).length:Int)) ((((v64_2 xa xb xc).length:Int) - 0:Int).toNat+1) ((v62_0 xa xb xc a1),0,0,(v64_0 xa xb xc),(v64_1 xa xb xc),(v64_2 xa xb xc))) [] (fun p76=>p76.2.2.2.2))))
def v59_3 (xa xb xc:List AV) (a1:Int):Int:=(bif !(v61_0 xa xb xc) then 0 else (bif decide ((v62_0 xa xb xc a1)<0) then 0 else (ro (runW (R59_0 (fI (xa.getD (v62_0 xa xb xc a1).toNat .undef) 0) ((v64_2 xa xb xc).length:Int)) ((((v64_2 xa xb xc).length:Int) - 0:Int).toNat+1) ((v62_0 xa xb xc a1),0,0,(v64_0 xa xb xc),(v64_1 xa xb xc),(v64_2 xa xb xc))) 0 (fun p76=>(bif decide (p76.1=IntKind.i64.wrap ((p76.2.2.1.length:Int) - 1)) then IntKind.i64.wrap (p76.2.1+0) else IntKind.i64.wrap (p76.2.1+1))))))
def v59_4 (xa xb xc:List AV) (a1:Int):Bool:=(bif !(v61_0 xa xb xc) then false else (bif decide ((v62_0 xa xb xc a1)<0) then false else true))
theorem e59 (xa xb xc:List AV) (a1:Int):funA c59 1 59 [AV.agg [AV.sl [.int .i64] xa,AV.sl [.int .i64] xb,AV.sl [.int .i64,.int .i64] xc],Ai a1]=((fun (x1:List AV) (x2:List AV) (x3:List AV)=>(bif q64 xa xb xc then (bif q62 xa xb xc a1 then (bif q61 xa xb xc then (bif !(v61_0 xa xb xc) then some (AV.tup [AV.agg [AV.fl [.int .i64] x1,AV.fl [.int .i64] x2,AV.fl [.int .i64,.int .i64] x3],Ai 0,AV.bool false])
 else (bif decide ((v62_0 xa xb xc a1)<0) then some (AV.tup [AV.agg [AV.fl [.int .i64] x1,AV.fl [.int .i64] x2,AV.fl [.int .i64,.int .i64] x3],Ai 0,AV.bool false])
 else (bif (decide (0≤(v62_0 xa xb xc a1)) && decide ((v62_0 xa xb xc a1)<(xa.length:Int))) then (ro (runW (R59_0 (fI (xa.getD (v62_0 xa xb xc a1).toNat .undef) 0) (x3.length:Int)) (((x3.length:Int) - 0:Int).toNat+1) ((v62_0 xa xb xc a1),0,0,x1,x2,x3)) none (fun p76=>(bif decide (p76.1=IntKind.i64.wrap ((p76.2.2.1.length:Int) - 1)) then (bif (decide (0≤0) && decide (0≤IntKind.i64.wrap ((p76.2.2.1.length:Int) - 1)) && decide (IntKind.i64.wrap ((p76.2.2.1.length:Int) - 1)≤(p76.2.2.1.length:Int))) then (bif (decide (0≤0) && decide (0≤IntKind.i64.wrap ((p76.2.2.1.length:Int) - 1)) && decide (IntKind.i64.wrap ((p76.2.2.1.length:Int) - 1)≤(p76.2.2.2.1.length:Int))) then some (AV.tup [AV.agg [AV.fl [.int .i64] ((p76.2.2.1.drop (Int.toNat 0)).take (Int.toNat (IntKind.i64.wrap ((p76.2.2.1.length:Int) - 1)) - (Int.toNat 0))),AV.fl [.int .i64] ((p76.2.2.2.1.drop (Int.toNat 0)).take (Int.toNat (IntKind.i64.wrap ((p76.2.2.1.length:Int) - 1)) - (Int.toNat 0))),AV.fl [.int .i64,.int .i64] p76.2.2.2.2],Ai (IntKind.i64.wrap (p76.2.1+0)),AV.bool true])
 else none)
 else none)
 else (bif (decide (0≤IntKind.i64.wrap ((p76.2.2.1.length:Int) - 1)) && decide (IntKind.i64.wrap ((p76.2.2.1.length:Int) - 1)<(p76.2.2.1.length:Int))) then (bif (decide (0≤IntKind.i64.wrap ((p76.2.2.1.length:Int) - 1)) && decide (IntKind.i64.wrap ((p76.2.2.1.length:Int) - 1)<(p76.2.2.2.1.length:Int))) then (bif (decide (0≤p76.1) && decide (p76.1<(p76.2.2.1.length:Int))) then (bif (decide (0≤p76.1) && decide (p76.1<(p76.2.2.2.1.length:Int))) then (bif (decide (0≤0) && decide (0≤IntKind.i64.wrap ((p76.2.2.1.length:Int) - 1)) && decide (IntKind.i64.wrap ((p76.2.2.1.length:Int) - 1)≤((p76.2.2.1.set p76.1.toNat (AV.agg [Ai (fI (p76.2.2.1.getD (IntKind.i64.wrap ((p76.2.2.1.length:Int) - 1)).toNat .undef) 0)])).length:Int))) then (bif (decide (0≤0) && decide (0≤IntKind.i64.wrap ((p76.2.2.1.length:Int) - 1)) && decide (IntKind.i64.wrap ((p76.2.2.1.length:Int) - 1)≤((p76.2.2.2.1.set p76.1.toNat (AV.agg [Ai (fI (p76.2.2.2.1.getD (IntKind.i64.wrap ((p76.2.2.1.length:Int) - 1)).toNat .undef) 0)])).length:Int))) then some (AV.tup [AV.agg [AV.fl [.int .i64] (((p76.2.2.1.set p76.1.toNat (AV.agg [Ai (fI (p76.2.2.1.getD (IntKind.i64.wrap ((p76.2.2.1.length:Int) - 1)).toNat .undef) 0)])).drop (Int.toNat 0)).take (Int.toNat (IntKind.i64.wrap ((p76.2.2.1.length:Int) - 1)) - (Int.toNat 0))),AV.fl [.int .i64] (((p76.2.2.2.1.set p76.1.toNat (AV.agg [Ai (fI (p76.2.2.2.1.getD (IntKind.i64.wrap ((p76.2.2.1.length:Int) - 1)).toNat .undef) 0)])).drop (Int.toNat 0)).take (Int.toNat (IntKind.i64.wrap ((p76.2.2.1.length:Int) - 1)) - (Int.toNat 0))),AV.fl [.int .i64,.int .i64] p76.2.2.2.2],Ai (IntKind.i64.wrap (p76.2.1+1)),AV.bool true])
 else none)
 else none)
 else none)
 else none)
 else none)
 else none))))
 else none)))
 else none)
 else none)
 else none)) (v64_0 xa xb xc) (v64_1 xa xb xc) (v64_2 xa xb xc)):=by kernel_rfl
theorem r59 (xa xb xc:List AV) (a1:Int) (h:q59 xa xb xc a1=true):funA c59 1 59 [AV.agg [AV.sl [.int .i64] xa,AV.sl [.int .i64] xb,AV.sl [.int .i64,.int .i64] xc],AV.int .i64 a1]=some (AV.tup [AV.agg [AV.fl [.int .i64] (v59_0 xa xb xc a1),AV.fl [.int .i64] (v59_1 xa xb xc a1),AV.fl [.int .i64,.int .i64] (v59_2 xa xb xc a1)],AV.int .i64 (v59_3 xa xb xc a1),AV.bool (v59_4 xa xb xc a1)]):=by
 refine (e59 xa xb xc a1).trans ?_
 unfold q59 at h
 unfold v59_0 v59_1 v59_2 v59_3 v59_4
 refine ifG (fun hc=>?_) (fun hc=>?_) <;> first|rw [hc] at h ⊢|rw [hc] at h|rw [hc]|skip
 ·refine ifG (fun hc=>?_) (fun hc=>?_) <;> first|rw [hc] at h ⊢|rw [hc] at h|rw [hc]|skip
  ·refine ifG (fun hc=>?_) (fun hc=>?_) <;> first|rw [hc] at h ⊢|rw [hc] at h|rw [hc]|skip
   ·refine ifG (fun hc=>?_) (fun hc=>?_) <;> first|rw [hc] at h ⊢|rw [hc] at h|rw [hc]|skip
    ·rfl
    ·refine ifG (fun hc=>?_) (fun hc=>?_) <;> first|rw [hc] at h ⊢|rw [hc] at h|rw [hc]|skip
     ·rfl
     ·refine ifG (fun hc=>?_) (fun hc=>?_) <;> first|rw [hc] at h ⊢|rw [hc] at h|rw [hc]|skip
      ·refine roG (fun hc=>?_) (fun r hc=>?_) <;> first|rw [hc] at h ⊢|rw [hc] at h|rw [hc]|skip
       ·exact Bool.noConfusion h
       ·try simp only [ro] at h ⊢
        refine ifG (fun hc=>?_) (fun hc=>?_) <;> first|rw [hc] at h ⊢|rw [hc] at h|rw [hc]|skip
        ·refine ifG (fun hc=>?_) (fun hc=>?_) <;> first|rw [hc] at h ⊢|rw [hc] at h|rw [hc]|skip
         ·refine ifG (fun hc=>?_) (fun hc=>?_) <;> first|rw [hc] at h ⊢|rw [hc] at h|rw [hc]|skip
          ·rfl
          ·first|exact Bool.noConfusion h|exact Bool.noConfusion hc
         ·first|exact Bool.noConfusion h|exact Bool.noConfusion hc
        ·refine ifG (fun hc=>?_) (fun hc=>?_) <;> first|rw [hc] at h ⊢|rw [hc] at h|rw [hc]|skip
         ·refine ifG (fun hc=>?_) (fun hc=>?_) <;> first|rw [hc] at h ⊢|rw [hc] at h|rw [hc]|skip
          ·refine ifG (fun hc=>?_) (fun hc=>?_) <;> first|rw [hc] at h ⊢|rw [hc] at h|rw [hc]|skip
           ·refine ifG (fun hc=>?_) (fun hc=>?_) <;> first|rw [hc] at h ⊢|rw [hc] at h|rw [hc]|skip
            ·refine ifG (fun hc=>?_) (fun hc=>?_) <;> first|rw [hc] at h ⊢|rw [hc] at h|rw [hc]|skip
             ·refine ifG (fun hc=>?_) (fun hc=>?_) <;> first|rw [hc] at h ⊢|rw [hc] at h|rw [hc]|skip
              ·rfl
              ·first|exact Bool.noConfusion h|exact Bool.noConfusion hc
             ·first|exact Bool.noConfusion h|exact Bool.noConfusion hc
            ·first|exact Bool.noConfusion h|exact Bool.noConfusion hc
           ·first|exact Bool.noConfusion h|exact Bool.noConfusion hc
          ·first|exact Bool.noConfusion h|exact Bool.noConfusion hc
         ·first|exact Bool.noConfusion h|exact Bool.noConfusion hc
      ·first|exact Bool.noConfusion h|exact Bool.noConfusion hc
   ·first|exact Bool.noConfusion h|exact Bool.noConfusion hc
  ·first|exact Bool.noConfusion h|exact Bool.noConfusion hc
 ·first|exact Bool.noConfusion h|exact Bool.noConfusion hc
def m59:TModel
 | [.agg [.sl g0 xa,.sl g1 xb,.sl g2 xc],.int .i64 a1]=>bif ctsEq g0 ([.int .i64]) && ctsEq g1 ([.int .i64]) && ctsEq g2 ([.int .i64,.int .i64]) then some (q59 xa xb xc a1,AV.tup [AV.agg [AV.fl [.int .i64] (v59_0 xa xb xc a1),AV.fl [.int .i64] (v59_1 xa xb xc a1),AV.fl [.int .i64,.int .i64] (v59_2 xa xb xc a1)],AV.int .i64 (v59_3 xa xb xc a1),AV.bool (v59_4 xa xb xc a1)]) else none
 | _=>none
theorem k59:Known Tryz.prog 59:=⟨Tryz.f59,Tryz.func59,by kernel_rfl,by kernel_rfl⟩
theorem i59_104:InlK Tryz.prog [(59,0,[4,7,8,9,10,33,34,35]),(59,999,[4,5,6]),(59,1000,[4,7,8,10]),(59,1001,[4,7,8,9,10,33,34,35]),(104,999,[6])] [(61,m61),(62,m62),(64,m64)] [] [104] [(59,0,l59_0)] 104:=⟨⟨Tryz.f104,Tryz.func104,by kernel_rfl,by kernel_rfl⟩,Tryz.f104,[],Tryz.func104,by kernel_rfl,fun ce π=>noLoop⟩
theorem meets59:Meets Tryz.prog 59 m59:=by
 refine mt (lvl:=1) (cf:=c59) rfl mixed k59 Tryz.func59 (by kernel_rfl) (loops_cons ok59_0 noLoop) (allT_cons meets61 (allT_cons meets62 (allT_cons meets64 allT_nil))) allM_nil (allI_cons i59_104 noI) fun xs r h=>?_
 unfold m59 at h
 split at h
 ·rename_i g0 xa g1 xb g2 xc a1
  obtain ⟨hg,h⟩:=bif_pair h
  simp only [Bool.and_eq_true] at hg
  obtain ⟨⟨q0,q1⟩,q2⟩:=hg
  obtain rfl:=cE q0
  obtain rfl:=cE q1
  obtain rfl:=cE q2
  obtain ⟨h1,rfl⟩:=pair_inj h
  exact r59 xa xb xc a1 h1
 ·cases h
end
end Go.Proofs.YtbmfgibbjchijaaGreat
