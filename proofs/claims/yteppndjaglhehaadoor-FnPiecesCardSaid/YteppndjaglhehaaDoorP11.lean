import Derived.Test.YteppndjaglhehaaDoorP10
import Derived.Test.YteppndjaglhehaaDoorProg
import Derived.KernelRfl
import Derived.Test.YteppndjaglhehaaDoorP3
namespace Go.Proofs.YteppndjaglhehaaDoor
open Go Go.Proofs.VE
set_option linter.unusedVariables false
set_option linter.unusedSimpArgs false
set_option maxRecDepth 100000
set_option maxHeartbeats 4000000
noncomputable section
def G31_0 {β:Type} (t17:Int) (h1:List AV) (t4:Int) (t18:Int) (h0:List AV) (N:((Int × Int × (List AV)))→β) (K:(((List AV)))→β) (d:β):β:=(bif decide (t18<t17) then (bif (decide (0≤t18) && decide (t18<(h1.length:Int))) then (bif decide (fI (h1.getD t18.toNat .undef) 1 > t4) then (bif (decide ((h0.length+([AV.agg [AV.int .i64 t4,AV.int .i64 (fI (h1.getD t18.toNat .undef) 1)]]).length)*16≤140737488355328) && decide ((h0.length+([AV.agg [AV.int .i64 t4,AV.int .i64 (fI (h1.getD t18.toNat .undef) 1)]]).length)≤140737488355328)) then N (fI (h1.getD t18.toNat .undef) 1,IntKind.i64.wrap (t18+1),h0++([AV.agg [AV.int .i64 t4,AV.int .i64 (fI (h1.getD t18.toNat .undef) 1)]]))
 else d)
 else N (fI (h1.getD t18.toNat .undef) 1,IntKind.i64.wrap (t18+1),h0))
 else d)
 else K h0)
def F31_0 (t17:Int) (h1:List AV) (t4 t18:Int) (h0:List AV):Out ((Int × Int × (List AV))) (((List AV))):=G31_0 t17 h1 t4 t18 h0 .next .stop .fail
def R31_0 (t17:Int) (h1:List AV):((Int × Int × (List AV)))→Out ((Int × Int × (List AV))) (((List AV))):=fun s:Int × Int × (List AV)=>F31_0 t17 h1 s.1 s.2.1 s.2.2
def E31_0 (t17:Int) (h1:List AV):((Int × Int × (List AV)))→St:=fun s:Int × Int × (List AV)=>⟨[(3,AV.own [0,3]),(4,Ai s.1),(16,AV.own [0,16]),(17,Ai t17),(18,Ai s.2.1)],[([0,3],⟨false,[.int .i64,.int .i64],s.2.2⟩),([0,16],⟨false,[.int .i64,.int .i64],h1⟩)]⟩
def K31_0 (t17:Int) (h1:List AV) (k:Kont):(((List AV)))→Option AV:=fun p:(List AV)=>k (.exit 0) ⟨[(3,AV.own [0,3])],[([0,3],⟨false,[.int .i64,.int .i64],p⟩),([0,16],⟨false,[.int .i64,.int .i64],h1⟩)]⟩
def l31_0:LModel:=fun _ _ st k=>match st with
 | ⟨[(3,.own g0),(4,.int .i64 t4),(16,.own g1),(17,.int .i64 t17),(18,.int .i64 t18)],[(g2,⟨false,g3,h0⟩),(g4,⟨false,g5,h1⟩)]⟩=>bif nmEq g0 ([0,3]) && nmEq g1 ([0,16]) && nmEq g2 ([0,3]) && ctsEq g3 ([.int .i64,.int .i64]) && nmEq g4 ([0,16]) && ctsEq g5 ([.int .i64,.int .i64]) then ro (runW (R31_0 t17 h1) ((t17 - t18:Int).toNat+1) (t4,t18,h0)) none (K31_0 t17 h1 k) else none
 | _=>none
noncomputable def c31:Cfg:=cfg Tryd.prog [(31,0,[3,4,16,17,18]),(31,999,[2]),(31,1000,[3]),(31,1001,[3,4,16,17,18])] [(63,m63)] [] [] [(31,0,l31_0)]
theorem s31_0 (t17:Int) (h1:List AV) (ce:CallE) (k:Kont) (s:Int × Int × (List AV)) (next:St→Option AV):stepA (codeA c31 ce [] 31 0 (sub [1,1,0,1,0,0] (body Tryd.f31))) (normA [] [3,4,16,17,18]) next ((E31_0 t17 h1) s) k=G31_0 t17 h1 s.1 s.2.1 s.2.2 (fun s=>next ((E31_0 t17 h1) s)) (K31_0 t17 h1 k) none:=by kernel_rfl
theorem st31_0 (t17:Int) (h1:List AV) (ce:CallE) (k:Kont) (s:(Int × Int × (List AV))) (next:St→Option AV):stepA (codeA c31 ce [] 31 0 (sub [1,1,0,1,0,0] (body Tryd.f31))) (normA [] [3,4,16,17,18]) next ((E31_0 t17 h1) s) k=(R31_0 t17 h1 s).el none (fun s=>next ((E31_0 t17 h1) s)) (K31_0 t17 h1 k):=(s31_0 t17 h1 ce k s next).trans (by unfold R31_0;unfold F31_0 G31_0;simp only [el_cond,el_ro,el_sum,el_fail,el_next,el_stop] <;> rfl)
theorem ok31_0 {ce:CallE}:LoopOK c31 ce [] 31 0 (sub [1,1,0,1,0,0] (body Tryd.f31)):=by
 intro m hm st k r h
 obtain rfl:l31_0=m:=Option.some.inj hm
 unfold l31_0 at h
 split at h
 ·rename_i g0 t4 g1 t17 t18 g2 g3 h0 g4 g5 h1
  obtain ⟨hg,h⟩:=bif_some h
  simp only [Bool.and_eq_true] at hg
  obtain ⟨⟨⟨⟨⟨q0,q1⟩,q2⟩,q3⟩,q4⟩,q5⟩:=hg
  obtain rfl:=nE q0
  obtain rfl:=nE q1
  obtain rfl:=nE q2
  obtain rfl:=cE q3
  obtain rfl:=nE q4
  obtain rfl:=cE q5
  refine ⟨((t17 - t18:Int).toNat+1),?_⟩
  rw [← h]
  exact loop_run (E31_0 t17 h1) (K31_0 t17 h1 k) (st31_0 t17 h1 ce k) _ (t4,t18,h0)
 ·cases h
def q31 (xa xb xc:List AV):Bool:=(q63 xc && ((decide (((v63_0 xc).length+([AV.agg [AV.int .i64 0,AV.int .i64 (xa.length:Int)]]).length)*16≤140737488355328) && decide (((v63_0 xc).length+([AV.agg [AV.int .i64 0,AV.int .i64 (xa.length:Int)]]).length)≤140737488355328)) && (ro (runW (R31_0 (((v63_0 xc)++([AV.agg [AV.int .i64 0,AV.int .i64 (xa.length:Int)]])).length:Int) ((v63_0 xc)++([AV.agg [AV.int .i64 0,AV.int .i64 (xa.length:Int)]]))) (((((v63_0 xc)++([AV.agg [AV.int .i64 0,AV.int .i64 (xa.length:Int)]])).length:Int) - 0:Int).toNat+1) (0,0,([]:List AV))) false (fun p40=>true))))
def v31_0 (xa xb xc:List AV):List AV:=(ro (runW (R31_0 (((v63_0 xc)++([AV.agg [AV.int .i64 0,AV.int .i64 (xa.length:Int)]])).length:Int) ((v63_0 xc)++([AV.agg [AV.int .i64 0,AV.int .i64 (xa.length:Int)]]))) (((((v63_0 xc)++([AV.agg [AV.int .i64 0,AV.int .i64 (xa.length:Int)]])).length:Int) - 0:Int).toNat+1) (0,0,([]:List AV))) [] (fun p40=>p40))
theorem e31 (xa xb xc:List AV):funA c31 0 31 [AV.agg [AV.sl [.int .i64] xa,AV.sl [.int .i64] xb,AV.sl [.int .i64,.int .i64] xc]]=(bif q63 xc then (bif (decide (((v63_0 xc).length+([AV.agg [Ai 0,Ai (xa.length:Int)]]).length)*16≤140737488355328) && decide (((v63_0 xc).length+([AV.agg [Ai 0,Ai (xa.length:Int)]]).length)≤140737488355328)) then (ro (runW (R31_0 (((v63_0 xc)++([AV.agg [Ai 0,Ai (xa.length:Int)]])).length:Int) ((v63_0 xc)++([AV.agg [Ai 0,Ai (xa.length:Int)]]))) (((((v63_0 xc)++([AV.agg [Ai 0,Ai (xa.length:Int)]])).length:Int) - 0:Int).toNat+1) (0,0,([]:List AV))) none (fun p40=>some (AV.fl [.int .i64,.int .i64] p40)))
 else none)
 else none):=by kernel_rfl
def m31:TModel
 | [.agg [.sl g0 xa,.sl g1 xb,.sl g2 xc]]=>bif ctsEq g0 ([.int .i64]) && ctsEq g1 ([.int .i64]) && ctsEq g2 ([.int .i64,.int .i64]) then some (q31 xa xb xc,AV.fl [.int .i64,.int .i64] (v31_0 xa xb xc)) else none
 | _=>none
theorem k31:Known Tryd.prog 31:=⟨Tryd.f31,Tryd.func31,by kernel_rfl,by kernel_rfl⟩
theorem meets31:Meets Tryd.prog 31 m31:=by
 refine mt (lvl:=0) (cf:=c31) rfl mixed k31 Tryd.func31 (by kernel_rfl) (loops_cons ok31_0 noLoop) (allT_cons meets63 allT_nil) allM_nil noI fun xs r h=>?_
 unfold m31 at h
 split at h
 ·rename_i g0 xa g1 xb g2 xc
  obtain ⟨hg,h⟩:=bif_pair h
  simp only [Bool.and_eq_true] at hg
  obtain ⟨⟨q0,q1⟩,q2⟩:=hg
  obtain rfl:=cE q0
  obtain rfl:=cE q1
  obtain rfl:=cE q2
  obtain ⟨h1,rfl⟩:=pair_inj h
  exact (e31 xa xb xc).trans ((brL (brL (brO (fun o:Option (((List AV)))=>some (AV.fl [.int .i64,.int .i64] (ro o [] (fun p40=>p40)))) (fun p40=>(fun _=>rfl))))) h1)
 ·cases h
noncomputable def c7:Cfg:=cfg Tryd.prog [(7,999,[2])] [(11,m11),(31,m31)] [] [] []
def q7 (xa xb xc:List AV):Bool:=(q11 xa xb xc && (bif !(v11_0 xa xb xc) then true else q31 xa xb xc))
def v7_0 (xa xb xc:List AV):Int:=(bif !(v11_0 xa xb xc) then 0 else ((v31_0 xa xb xc).length:Int))
theorem e7 (xa xb xc:List AV):funA c7 0 7 [AV.agg [AV.sl [.int .i64] xa,AV.sl [.int .i64] xb,AV.sl [.int .i64,.int .i64] xc]]=(bif q11 xa xb xc then (bif !(v11_0 xa xb xc) then some (Ai 0)
 else (bif q31 xa xb xc then some (Ai ((v31_0 xa xb xc).length:Int))
 else none))
 else none):=by kernel_rfl
def m7:TModel
 | [.agg [.sl g0 xa,.sl g1 xb,.sl g2 xc]]=>bif ctsEq g0 ([.int .i64]) && ctsEq g1 ([.int .i64]) && ctsEq g2 ([.int .i64,.int .i64]) then some (q7 xa xb xc,AV.int .i64 (v7_0 xa xb xc)) else none
 | _=>none
theorem k7:Known Tryd.prog 7:=⟨Tryd.f7,Tryd.func7,by kernel_rfl,by kernel_rfl⟩
theorem meets7:Meets Tryd.prog 7 m7:=by
 refine mt (lvl:=0) (cf:=c7) rfl mixed k7 Tryd.func7 (by kernel_rfl) noLoop (allT_cons meets11 (allT_cons meets31 allT_nil)) allM_nil noI fun xs r h=>?_
 unfold m7 at h
 split at h
 ·rename_i g0 xa g1 xb g2 xc
  obtain ⟨hg,h⟩:=bif_pair h
  simp only [Bool.and_eq_true] at hg
  obtain ⟨⟨q0,q1⟩,q2⟩:=hg
  obtain rfl:=cE q0
  obtain rfl:=cE q1
  obtain rfl:=cE q2
  obtain ⟨h1,rfl⟩:=pair_inj h
  exact (e7 xa xb xc).trans ((brL (br (fun b=>some (Ai (bif b then 0 else ((v31_0 xa xb xc).length:Int)))) (fun _=>rfl) (brL1 (fun _=>rfl)))) h1)
 ·cases h
def G8_0 {β:Type} (t11:Int) (h0:List AV) (t3:Int) (t12:Int) (N:((Int × Int))→β) (K:(Int)→β) (d:β):β:=(bif decide (t12<t11) then (bif (decide (0≤t12) && decide (t12<(h0.length:Int))) then N ((if IntKind.i64.wrap (fI (h0.getD t12.toNat .undef) 1 - fI (h0.getD t12.toNat .undef) 0) > t3 then IntKind.i64.wrap (fI (h0.getD t12.toNat .undef) 1 - fI (h0.getD t12.toNat .undef) 0) else t3),IntKind.i64.wrap (t12+1))
 else d)
 else K t3)
def F8_0 (t11:Int) (h0:List AV) (t3 t12:Int):Out ((Int × Int)) (Int):=G8_0 t11 h0 t3 t12 .next .stop .fail
def R8_0 (t11:Int) (h0:List AV):((Int × Int))→Out ((Int × Int)) (Int):=fun s:Int × Int=>F8_0 t11 h0 s.1 s.2
def E8_0 (t11:Int) (h0:List AV):((Int × Int))→St:=fun s:Int × Int=>⟨[(3,Ai s.1),(10,AV.own [0,10]),(11,Ai t11),(12,Ai s.2)],[([0,10],⟨false,[.int .i64,.int .i64],h0⟩)]⟩
def K8_0 (t11:Int) (h0:List AV) (k:Kont):(Int)→Option AV:=fun p:Int=>k (.exit 0) ⟨[(3,Ai p)],[([0,10],⟨false,[.int .i64,.int .i64],h0⟩)]⟩
def l8_0:LModel:=fun _ _ st k=>match st with
 | ⟨[(3,.int .i64 t3),(10,.own g0),(11,.int .i64 t11),(12,.int .i64 t12)],[(g1,⟨false,g2,h0⟩)]⟩=>bif nmEq g0 ([0,10]) && nmEq g1 ([0,10]) && ctsEq g2 ([.int .i64,.int .i64]) then ro (runW (R8_0 t11 h0) ((t11 - t12:Int).toNat+1) (t3,t12)) none (K8_0 t11 h0 k) else none
 | _=>none
noncomputable def c8:Cfg:=cfg Tryd.prog [(8,0,[3,10,11,12]),(8,999,[2]),(8,1000,[3]),(8,1001,[3,10,11,12])] [(11,m11),(31,m31)] [] [] [(8,0,l8_0)]
theorem s8_0 (t11:Int) (h0:List AV) (ce:CallE) (k:Kont) (s:Int × Int) (next:St→Option AV):stepA (codeA c8 ce [] 8 0 (sub [1,1,1,0,1,0,0] (body Tryd.f8))) (normA [] [3,10,11,12]) next ((E8_0 t11 h0) s) k=G8_0 t11 h0 s.1 s.2 (fun s=>next ((E8_0 t11 h0) s)) (K8_0 t11 h0 k) none:=by kernel_rfl
theorem st8_0 (t11:Int) (h0:List AV) (ce:CallE) (k:Kont) (s:(Int × Int)) (next:St→Option AV):stepA (codeA c8 ce [] 8 0 (sub [1,1,1,0,1,0,0] (body Tryd.f8))) (normA [] [3,10,11,12]) next ((E8_0 t11 h0) s) k=(R8_0 t11 h0 s).el none (fun s=>next ((E8_0 t11 h0) s)) (K8_0 t11 h0 k):=(s8_0 t11 h0 ce k s next).trans (by unfold R8_0;unfold F8_0 G8_0;simp only [el_cond,el_ro,el_sum,el_fail,el_next,el_stop] <;> rfl)
theorem ok8_0 {ce:CallE}:LoopOK c8 ce [] 8 0 (sub [1,1,1,0,1,0,0] (body Tryd.f8)):=by
 intro m hm st k r h
 obtain rfl:l8_0=m:=Option.some.inj hm
 unfold l8_0 at h
 split at h
 ·rename_i t3 g0 t11 t12 g1 g2 h0
  obtain ⟨hg,h⟩:=bif_some h
  simp only [Bool.and_eq_true] at hg
  obtain ⟨⟨q0,q1⟩,q2⟩:=hg
  obtain rfl:=nE q0
  obtain rfl:=nE q1
  obtain rfl:=cE q2
  refine ⟨((t11 - t12:Int).toNat+1),?_⟩
  rw [← h]
  exact loop_run (E8_0 t11 h0) (K8_0 t11 h0 k) (st8_0 t11 h0 ce k) _ (t3,t12)
 ·cases h
def q8 (xa xb xc:List AV):Bool:=(q11 xa xb xc && (bif !(v11_0 xa xb xc) then true else (q31 xa xb xc && (ro (runW (R8_0 ((v31_0 xa xb xc).length:Int) (v31_0 xa xb xc)) ((((v31_0 xa xb xc).length:Int) - 0:Int).toNat+1) (0,0)) false (fun p41=>true)))))
def v8_0 (xa xb xc:List AV):Int:=(bif !(v11_0 xa xb xc) then 0 else (ro (runW (R8_0 ((v31_0 xa xb xc).length:Int) (v31_0 xa xb xc)) ((((v31_0 xa xb xc).length:Int) - 0:Int).toNat+1) (0,0)) 0 (fun p41=>p41)))
theorem e8 (xa xb xc:List AV):funA c8 0 8 [AV.agg [AV.sl [.int .i64] xa,AV.sl [.int .i64] xb,AV.sl [.int .i64,.int .i64] xc]]=(bif q11 xa xb xc then (bif !(v11_0 xa xb xc) then some (Ai 0)
 else (bif q31 xa xb xc then (ro (runW (R8_0 ((v31_0 xa xb xc).length:Int) (v31_0 xa xb xc)) ((((v31_0 xa xb xc).length:Int) - 0:Int).toNat+1) (0,0)) none (fun p41=>some (Ai p41)))
 else none))
 else none):=by kernel_rfl
def m8:TModel
 | [.agg [.sl g0 xa,.sl g1 xb,.sl g2 xc]]=>bif ctsEq g0 ([.int .i64]) && ctsEq g1 ([.int .i64]) && ctsEq g2 ([.int .i64,.int .i64]) then some (q8 xa xb xc,AV.int .i64 (v8_0 xa xb xc)) else none
 | _=>none
theorem k8:Known Tryd.prog 8:=⟨Tryd.f8,Tryd.func8,by kernel_rfl,by kernel_rfl⟩
theorem meets8:Meets Tryd.prog 8 m8:=by
 refine mt (lvl:=0) (cf:=c8) rfl mixed k8 Tryd.func8 (by kernel_rfl) (loops_cons ok8_0 noLoop) (allT_cons meets11 (allT_cons meets31 allT_nil)) allM_nil noI fun xs r h=>?_
 unfold m8 at h
 split at h
 ·rename_i g0 xa g1 xb g2 xc
  obtain ⟨hg,h⟩:=bif_pair h
  simp only [Bool.and_eq_true] at hg
  obtain ⟨⟨q0,q1⟩,q2⟩:=hg
  obtain rfl:=cE q0
  obtain rfl:=cE q1
  obtain rfl:=cE q2
  obtain ⟨h1,rfl⟩:=pair_inj h
  exact (e8 xa xb xc).trans ((brL (br (fun b=>some (Ai (bif b then 0 else (ro (runW (R8_0 ((v31_0 xa xb xc).length:Int) (v31_0 xa xb xc)) ((((v31_0 xa xb xc).length:Int) - 0:Int).toNat+1) (0,0)) 0 (fun p41=>p41))))) (fun _=>rfl) (brL (brO (fun o:Option (Int)=>some (Ai (ro o 0 (fun p41=>p41)))) (fun p41=>(fun _=>rfl)))))) h1)
 ·cases h
def G32_0 {β:Type} (h0_0:List AV) (h0_1:List AV) (h0_2:List AV) (t4:Int) (h1:List AV) (N:((Int × (List AV)))→β) (K:(((List AV)))→β) (d:β):β:=(bif decide (t4<(h0_2.length:Int)) then (bif (decide (0≤t4) && decide (t4<(h0_2.length:Int))) then (bif (decide ((h1.length+([AV.int .i64 (fI (h0_2.getD t4.toNat .undef) 1)]).length)*8≤140737488355328) && decide ((h1.length+([AV.int .i64 (fI (h0_2.getD t4.toNat .undef) 1)]).length)≤140737488355328)) then N (IntKind.i64.wrap (t4+1),h1++([AV.int .i64 (fI (h0_2.getD t4.toNat .undef) 1)]))
 else d)
 else d)
 else K h1)
def F32_0 (h0_0 h0_1 h0_2:List AV) (t4:Int) (h1:List AV):Out ((Int × (List AV))) (((List AV))):=G32_0 h0_0 h0_1 h0_2 t4 h1 .next .stop .fail
def R32_0 (h0_0 h0_1 h0_2:List AV):((Int × (List AV)))→Out ((Int × (List AV))) (((List AV))):=fun s:Int × (List AV)=>F32_0 h0_0 h0_1 h0_2 s.1 s.2
def E32_0 (h0_0 h0_1 h0_2:List AV):((Int × (List AV)))→St:=fun s:Int × (List AV)=>⟨[(1,AV.ptr [0,1] 0 0),(3,AV.own [0,3]),(4,Ai s.1)],[([0,1],⟨true,[],[AV.agg [AV.sl [.int .i64] h0_0,AV.sl [.int .i64] h0_1,AV.sl [.int .i64,.int .i64] h0_2]]⟩),([0,3],⟨false,[.int .i64],s.2⟩)]⟩
def K32_0 (h0_0 h0_1 h0_2:List AV) (k:Kont):(((List AV)))→Option AV:=fun p:(List AV)=>k (.exit 0) ⟨[(1,AV.ptr [0,1] 0 0),(3,AV.own [0,3])],[([0,1],⟨true,[],[AV.agg [AV.sl [.int .i64] h0_0,AV.sl [.int .i64] h0_1,AV.sl [.int .i64,.int .i64] h0_2]]⟩),([0,3],⟨false,[.int .i64],p⟩)]⟩
def l32_0:LModel:=fun _ _ st k=>match st with
 | ⟨[(1,.ptr g0 g1 g2),(3,.own g3),(4,.int .i64 t4)],[(g4,⟨true,[],[.agg [.sl g5 h0_0,.sl g6 h0_1,.sl g7 h0_2]]⟩),(g8,⟨false,g9,h1⟩)]⟩=>bif nmEq g0 ([0,1]) && Nat.beq g1 0 && Nat.beq g2 0 && nmEq g3 ([0,3]) && nmEq g4 ([0,1]) && ctsEq g5 ([.int .i64]) && ctsEq g6 ([.int .i64]) && ctsEq g7 ([.int .i64,.int .i64]) && nmEq g8 ([0,3]) && ctsEq g9 ([.int .i64]) then ro (runW (R32_0 h0_0 h0_1 h0_2) (((h0_2.length:Int) - t4:Int).toNat+1) (t4,h1)) none (K32_0 h0_0 h0_1 h0_2 k) else none
 | _=>none
noncomputable def c32:Cfg:=cfg Tryd.prog [(32,0,[1,3,4]),(32,999,[2]),(32,1000,[1,3]),(32,1001,[1,3,4])] [] [] [] [(32,0,l32_0)]
theorem s32_0 (h0_0 h0_1 h0_2:List AV) (ce:CallE) (k:Kont) (s:Int × (List AV)) (next:St→Option AV):stepA (codeA c32 ce [] 32 0 (sub [1,1,0,1,0,0] (body Tryd.f32))) (normA [] [1,3,4]) next ((E32_0 h0_0 h0_1 h0_2) s) k=G32_0 h0_0 h0_1 h0_2 s.1 s.2 (fun s=>next ((E32_0 h0_0 h0_1 h0_2) s)) (K32_0 h0_0 h0_1 h0_2 k) none:=by kernel_rfl
theorem st32_0 (h0_0 h0_1 h0_2:List AV) (ce:CallE) (k:Kont) (s:(Int × (List AV))) (next:St→Option AV):stepA (codeA c32 ce [] 32 0 (sub [1,1,0,1,0,0] (body Tryd.f32))) (normA [] [1,3,4]) next ((E32_0 h0_0 h0_1 h0_2) s) k=(R32_0 h0_0 h0_1 h0_2 s).el none (fun s=>next ((E32_0 h0_0 h0_1 h0_2) s)) (K32_0 h0_0 h0_1 h0_2 k):=(s32_0 h0_0 h0_1 h0_2 ce k s next).trans (by unfold R32_0;unfold F32_0 G32_0;simp only [el_cond,el_ro,el_sum,el_fail,el_next,el_stop] <;> rfl)
theorem ok32_0 {ce:CallE}:LoopOK c32 ce [] 32 0 (sub [1,1,0,1,0,0] (body Tryd.f32)):=by
 intro m hm st k r h
 obtain rfl:l32_0=m:=Option.some.inj hm
 unfold l32_0 at h
 split at h
 ·rename_i g0 g1 g2 g3 t4 g4 g5 h0_0 g6 h0_1 g7 h0_2 g8 g9 h1
  obtain ⟨hg,h⟩:=bif_some h
  simp only [Bool.and_eq_true] at hg
  obtain ⟨⟨⟨⟨⟨⟨⟨⟨⟨q0,q1⟩,q2⟩,q3⟩,q4⟩,q5⟩,q6⟩,q7⟩,q8⟩,q9⟩:=hg
  obtain rfl:=nE q0
  obtain rfl:=bE q1
  obtain rfl:=bE q2
  obtain rfl:=nE q3
  obtain rfl:=nE q4
  obtain rfl:=cE q5
  obtain rfl:=cE q6
  obtain rfl:=cE q7
  obtain rfl:=nE q8
  obtain rfl:=cE q9
  refine ⟨(((h0_2.length:Int) - t4:Int).toNat+1),?_⟩
  rw [← h]
  exact loop_run (E32_0 h0_0 h0_1 h0_2) (K32_0 h0_0 h0_1 h0_2 k) (st32_0 h0_0 h0_1 h0_2 ce k) _ (t4,h1)
 ·cases h
def q32 (xa xb xc:List AV):Bool:=(ro (runW (R32_0 xa xb xc) (((xc.length:Int) - 0:Int).toNat+1) (0,([]:List AV))) false (fun p42=>(decide ((p42.length+([AV.int .i64 (xa.length:Int)]).length)*8≤140737488355328) && decide ((p42.length+([AV.int .i64 (xa.length:Int)]).length)≤140737488355328))))
def v32_0 (xa xb xc:List AV):List AV:=(ro (runW (R32_0 xa xb xc) (((xc.length:Int) - 0:Int).toNat+1) (0,([]:List AV))) [] (fun p42=>p42++([AV.int .i64 (xa.length:Int)])))
theorem e32 (xa xb xc:List AV):funA c32 0 32 [AV.agg [AV.sl [.int .i64] xa,AV.sl [.int .i64] xb,AV.sl [.int .i64,.int .i64] xc]]=(ro (runW (R32_0 xa xb xc) (((xc.length:Int) - 0:Int).toNat+1) (0,([]:List AV))) none (fun p42=>(bif (decide ((p42.length+([Ai (xa.length:Int)]).length)*8≤140737488355328) && decide ((p42.length+([Ai (xa.length:Int)]).length)≤140737488355328)) then some (AV.fl [.int .i64] (p42++([Ai (xa.length:Int)])))
 else none))):=by kernel_rfl
def m32:TModel
 | [.agg [.sl g0 xa,.sl g1 xb,.sl g2 xc]]=>bif ctsEq g0 ([.int .i64]) && ctsEq g1 ([.int .i64]) && ctsEq g2 ([.int .i64,.int .i64]) then some (q32 xa xb xc,AV.fl [.int .i64] (v32_0 xa xb xc)) else none
 | _=>none
theorem k32:Known Tryd.prog 32:=⟨Tryd.f32,Tryd.func32,by kernel_rfl,by kernel_rfl⟩
theorem meets32:Meets Tryd.prog 32 m32:=by
 refine mt (lvl:=0) (cf:=c32) rfl mixed k32 Tryd.func32 (by kernel_rfl) (loops_cons ok32_0 noLoop) allT_nil allM_nil noI fun xs r h=>?_
 unfold m32 at h
 split at h
 ·rename_i g0 xa g1 xb g2 xc
  obtain ⟨hg,h⟩:=bif_pair h
  simp only [Bool.and_eq_true] at hg
  obtain ⟨⟨q0,q1⟩,q2⟩:=hg
  obtain rfl:=cE q0
  obtain rfl:=cE q1
  obtain rfl:=cE q2
  obtain ⟨h1,rfl⟩:=pair_inj h
  exact (e32 xa xb xc).trans ((brO (fun o:Option (((List AV)))=>some (AV.fl [.int .i64] (ro o [] (fun p42=>p42++([Ai (xa.length:Int)]))))) (fun p42=>(brL1 (fun _=>rfl)))) h1)
 ·cases h
def G9_0 {β:Type} (h0_0:List AV) (h0_1:List AV) (h0_2:List AV) (h1:List AV) (t3:Int) (t4:Int) (t6:Int) (N:((Int × Int × Int))→β) (K:(Int)→β) (d:β):β:=(bif decide (t6<(h1.length:Int)) then (bif q12 h0_0 h0_1 h0_2 then (bif (v12_0 h0_0 h0_1 h0_2) then (bif (decide (0≤t6) && decide (t6<(h1.length:Int))) then (bif decide (fI (h1.getD t6.toNat .undef) 0 > t4) then (bif (decide (0≤t6) && decide (t6<(h1.length:Int))) then N (IntKind.i64.wrap (t3+1),fI (h1.getD t6.toNat .undef) 0,IntKind.i64.wrap (t6+1))
 else d)
 else (bif (decide (0≤t6) && decide (t6<(h1.length:Int))) then N (t3,fI (h1.getD t6.toNat .undef) 0,IntKind.i64.wrap (t6+1))
 else d))
 else d)
 else K t3)
 else d)
 else K t3)
def F9_0 (h0_0 h0_1 h0_2 h1:List AV) (t3 t4 t6:Int):Out ((Int × Int × Int)) (Int):=G9_0 h0_0 h0_1 h0_2 h1 t3 t4 t6 .next .stop .fail
def R9_0 (h0_0 h0_1 h0_2 h1:List AV):((Int × Int × Int))→Out ((Int × Int × Int)) (Int):=fun s:Int × Int × Int=>F9_0 h0_0 h0_1 h0_2 h1 s.1 s.2.1 s.2.2
def E9_0 (h0_0 h0_1 h0_2 h1:List AV):((Int × Int × Int))→St:=fun s:Int × Int × Int=>⟨[(1,AV.ptr [0,1] 0 0),(3,Ai s.1),(4,Ai s.2.1),(5,AV.own [0,5]),(6,Ai s.2.2)],[([0,1],⟨true,[],[AV.agg [AV.sl [.int .i64] h0_0,AV.sl [.int .i64] h0_1,AV.sl [.int .i64,.int .i64] h0_2]]⟩),([0,5],⟨false,[.int .i64],h1⟩)]⟩
def K9_0 (h0_0 h0_1 h0_2 h1:List AV) (k:Kont):(Int)→Option AV:=fun p:Int=>k (.exit 0) ⟨[(3,Ai p)],[([0,1],⟨true,[],[AV.agg [AV.sl [.int .i64] h0_0,AV.sl [.int .i64] h0_1,AV.sl [.int .i64,.int .i64] h0_2]]⟩),([0,5],⟨false,[.int .i64],h1⟩)]⟩
def l9_0:LModel:=fun _ _ st k=>match st with
 | ⟨[(1,.ptr g0 g1 g2),(3,.int .i64 t3),(4,.int .i64 t4),(5,.own g3),(6,.int .i64 t6)],[(g4,⟨true,[],[.agg [.sl g5 h0_0,.sl g6 h0_1,.sl g7 h0_2]]⟩),(g8,⟨false,g9,h1⟩)]⟩=>bif nmEq g0 ([0,1]) && Nat.beq g1 0 && Nat.beq g2 0 && nmEq g3 ([0,5]) && nmEq g4 ([0,1]) && ctsEq g5 ([.int .i64]) && ctsEq g6 ([.int .i64]) && ctsEq g7 ([.int .i64,.int .i64]) && nmEq g8 ([0,5]) && ctsEq g9 ([.int .i64]) then ro (runW (R9_0 h0_0 h0_1 h0_2 h1) (((h1.length:Int) - t6:Int).toNat+1) (t3,t4,t6)) none (K9_0 h0_0 h0_1 h0_2 h1 k) else none
 | _=>none
noncomputable def c9:Cfg:=cfg Tryd.prog [(9,0,[1,3,4,5,6]),(9,999,[2]),(9,1000,[3]),(9,1001,[1,3,4,5,6])] [(12,m12),(32,m32)] [] [] [(9,0,l9_0)]
theorem s9_0 (h0_0 h0_1 h0_2 h1:List AV) (ce:CallE) (k:Kont) (s:Int × Int × Int) (next:St→Option AV):stepA (codeA c9 ce [] 9 0 (sub [1,1,1,1,0,1,0,0] (body Tryd.f9))) (normA [] [1,3,4,5,6]) next ((E9_0 h0_0 h0_1 h0_2 h1) s) k=G9_0 h0_0 h0_1 h0_2 h1 s.1 s.2.1 s.2.2 (fun s=>next ((E9_0 h0_0 h0_1 h0_2 h1) s)) (K9_0 h0_0 h0_1 h0_2 h1 k) none:=by kernel_rfl
theorem st9_0 (h0_0 h0_1 h0_2 h1:List AV) (ce:CallE) (k:Kont) (s:(Int × Int × Int)) (next:St→Option AV):stepA (codeA c9 ce [] 9 0 (sub [1,1,1,1,0,1,0,0] (body Tryd.f9))) (normA [] [1,3,4,5,6]) next ((E9_0 h0_0 h0_1 h0_2 h1) s) k=(R9_0 h0_0 h0_1 h0_2 h1 s).el none (fun s=>next ((E9_0 h0_0 h0_1 h0_2 h1) s)) (K9_0 h0_0 h0_1 h0_2 h1 k):=(s9_0 h0_0 h0_1 h0_2 h1 ce k s next).trans (by unfold R9_0;unfold F9_0 G9_0;simp only [el_cond,el_ro,el_sum,el_fail,el_next,el_stop] <;> rfl)
theorem ok9_0 {ce:CallE}:LoopOK c9 ce [] 9 0 (sub [1,1,1,1,0,1,0,0] (body Tryd.f9)):=by
 intro m hm st k r h
 obtain rfl:l9_0=m:=Option.some.inj hm
 unfold l9_0 at h
 split at h
 ·rename_i g0 g1 g2 t3 t4 g3 t6 g4 g5 h0_0 g6 h0_1 g7 h0_2 g8 g9 h1
  obtain ⟨hg,h⟩:=bif_some h
  simp only [Bool.and_eq_true] at hg
  obtain ⟨⟨⟨⟨⟨⟨⟨⟨⟨q0,q1⟩,q2⟩,q3⟩,q4⟩,q5⟩,q6⟩,q7⟩,q8⟩,q9⟩:=hg
  obtain rfl:=nE q0
  obtain rfl:=bE q1
  obtain rfl:=bE q2
  obtain rfl:=nE q3
  obtain rfl:=nE q4
  obtain rfl:=cE q5
  obtain rfl:=cE q6
  obtain rfl:=cE q7
  obtain rfl:=nE q8
  obtain rfl:=cE q9
  refine ⟨(((h1.length:Int) - t6:Int).toNat+1),?_⟩
  rw [← h]
  exact loop_run (E9_0 h0_0 h0_1 h0_2 h1) (K9_0 h0_0 h0_1 h0_2 h1 k) (st9_0 h0_0 h0_1 h0_2 h1 ce k) _ (t3,t4,t6)
 ·cases h
def q9 (xa xb xc:List AV):Bool:=(q32 xa xb xc && (ro (runW (R9_0 xa xb xc (v32_0 xa xb xc)) ((((v32_0 xa xb xc).length:Int) - 0:Int).toNat+1) (0,0,0)) false (fun p43=>true)))
def v9_0 (xa xb xc:List AV):Int:=(ro (runW (R9_0 xa xb xc (v32_0 xa xb xc)) ((((v32_0 xa xb xc).length:Int) - 0:Int).toNat+1) (0,0,0)) 0 (fun p43=>p43))
theorem e9 (xa xb xc:List AV):funA c9 0 9 [AV.agg [AV.sl [.int .i64] xa,AV.sl [.int .i64] xb,AV.sl [.int .i64,.int .i64] xc]]=(bif q32 xa xb xc then (ro (runW (R9_0 xa xb xc (v32_0 xa xb xc)) ((((v32_0 xa xb xc).length:Int) - 0:Int).toNat+1) (0,0,0)) none (fun p43=>some (Ai p43)))
 else none):=by kernel_rfl
def m9:TModel
 | [.agg [.sl g0 xa,.sl g1 xb,.sl g2 xc]]=>bif ctsEq g0 ([.int .i64]) && ctsEq g1 ([.int .i64]) && ctsEq g2 ([.int .i64,.int .i64]) then some (q9 xa xb xc,AV.int .i64 (v9_0 xa xb xc)) else none
 | _=>none
theorem k9:Known Tryd.prog 9:=⟨Tryd.f9,Tryd.func9,by kernel_rfl,by kernel_rfl⟩
theorem meets9:Meets Tryd.prog 9 m9:=by
 refine mt (lvl:=0) (cf:=c9) rfl mixed k9 Tryd.func9 (by kernel_rfl) (loops_cons ok9_0 noLoop) (allT_cons meets12 (allT_cons meets32 allT_nil)) allM_nil noI fun xs r h=>?_
 unfold m9 at h
 split at h
 ·rename_i g0 xa g1 xb g2 xc
  obtain ⟨hg,h⟩:=bif_pair h
  simp only [Bool.and_eq_true] at hg
  obtain ⟨⟨q0,q1⟩,q2⟩:=hg
  obtain rfl:=cE q0
  obtain rfl:=cE q1
  obtain rfl:=cE q2
  obtain ⟨h1,rfl⟩:=pair_inj h
  exact (e9 xa xb xc).trans ((brL (brO (fun o:Option (Int)=>some (Ai (ro o 0 (fun p43=>p43)))) (fun p43=>(fun _=>rfl)))) h1)
 ·cases h
def G10_0 {β:Type} (h0_0:List AV) (h0_1:List AV) (h0_2:List AV) (h1:List AV) (t3:Int) (t4:Int) (t6:Int) (N:((Int × Int × Int))→β) (K:(Int)→β) (d:β):β:=(bif decide (t6<(h1.length:Int)) then (bif q12 h0_0 h0_1 h0_2 then (bif (v12_0 h0_0 h0_1 h0_2) then (bif (decide (0≤t6) && decide (t6<(h1.length:Int))) then (bif (decide (0≤t6) && decide (t6<(h1.length:Int))) then N ((if IntKind.i64.wrap (fI (h1.getD t6.toNat .undef) 0 - t4) > t3 then IntKind.i64.wrap (fI (h1.getD t6.toNat .undef) 0 - t4) else t3),fI (h1.getD t6.toNat .undef) 0,IntKind.i64.wrap (t6+1))
 else d)
 else d)
 else K t3)
 else d)
 else K t3)
def F10_0 (h0_0 h0_1 h0_2 h1:List AV) (t3 t4 t6:Int):Out ((Int × Int × Int)) (Int):=G10_0 h0_0 h0_1 h0_2 h1 t3 t4 t6 .next .stop .fail
def R10_0 (h0_0 h0_1 h0_2 h1:List AV):((Int × Int × Int))→Out ((Int × Int × Int)) (Int):=fun s:Int × Int × Int=>F10_0 h0_0 h0_1 h0_2 h1 s.1 s.2.1 s.2.2
def E10_0 (h0_0 h0_1 h0_2 h1:List AV):((Int × Int × Int))→St:=fun s:Int × Int × Int=>⟨[(1,AV.ptr [0,1] 0 0),(3,Ai s.1),(4,Ai s.2.1),(5,AV.own [0,5]),(6,Ai s.2.2)],[([0,1],⟨true,[],[AV.agg [AV.sl [.int .i64] h0_0,AV.sl [.int .i64] h0_1,AV.sl [.int .i64,.int .i64] h0_2]]⟩),([0,5],⟨false,[.int .i64],h1⟩)]⟩
def K10_0 (h0_0 h0_1 h0_2 h1:List AV) (k:Kont):(Int)→Option AV:=fun p:Int=>k (.exit 0) ⟨[(3,Ai p)],[([0,1],⟨true,[],[AV.agg [AV.sl [.int .i64] h0_0,AV.sl [.int .i64] h0_1,AV.sl [.int .i64,.int .i64] h0_2]]⟩),([0,5],⟨false,[.int .i64],h1⟩)]⟩
def l10_0:LModel:=fun _ _ st k=>match st with
 | ⟨[(1,.ptr g0 g1 g2),(3,.int .i64 t3),(4,.int .i64 t4),(5,.own g3),(6,.int .i64 t6)],[(g4,⟨true,[],[.agg [.sl g5 h0_0,.sl g6 h0_1,.sl g7 h0_2]]⟩),(g8,⟨false,g9,h1⟩)]⟩=>bif nmEq g0 ([0,1]) && Nat.beq g1 0 && Nat.beq g2 0 && nmEq g3 ([0,5]) && nmEq g4 ([0,1]) && ctsEq g5 ([.int .i64]) && ctsEq g6 ([.int .i64]) && ctsEq g7 ([.int .i64,.int .i64]) && nmEq g8 ([0,5]) && ctsEq g9 ([.int .i64]) then ro (runW (R10_0 h0_0 h0_1 h0_2 h1) (((h1.length:Int) - t6:Int).toNat+1) (t3,t4,t6)) none (K10_0 h0_0 h0_1 h0_2 h1 k) else none
 | _=>none
noncomputable def c10:Cfg:=cfg Tryd.prog [(10,0,[1,3,4,5,6]),(10,999,[2]),(10,1000,[3]),(10,1001,[1,3,4,5,6])] [(12,m12),(32,m32)] [] [] [(10,0,l10_0)]
theorem s10_0 (h0_0 h0_1 h0_2 h1:List AV) (ce:CallE) (k:Kont) (s:Int × Int × Int) (next:St→Option AV):stepA (codeA c10 ce [] 10 0 (sub [1,1,1,1,0,1,0,0] (body Tryd.f10))) (normA [] [1,3,4,5,6]) next ((E10_0 h0_0 h0_1 h0_2 h1) s) k=G10_0 h0_0 h0_1 h0_2 h1 s.1 s.2.1 s.2.2 (fun s=>next ((E10_0 h0_0 h0_1 h0_2 h1) s)) (K10_0 h0_0 h0_1 h0_2 h1 k) none:=by kernel_rfl
theorem st10_0 (h0_0 h0_1 h0_2 h1:List AV) (ce:CallE) (k:Kont) (s:(Int × Int × Int)) (next:St→Option AV):stepA (codeA c10 ce [] 10 0 (sub [1,1,1,1,0,1,0,0] (body Tryd.f10))) (normA [] [1,3,4,5,6]) next ((E10_0 h0_0 h0_1 h0_2 h1) s) k=(R10_0 h0_0 h0_1 h0_2 h1 s).el none (fun s=>next ((E10_0 h0_0 h0_1 h0_2 h1) s)) (K10_0 h0_0 h0_1 h0_2 h1 k):=(s10_0 h0_0 h0_1 h0_2 h1 ce k s next).trans (by unfold R10_0;unfold F10_0 G10_0;simp only [el_cond,el_ro,el_sum,el_fail,el_next,el_stop] <;> rfl)
theorem ok10_0 {ce:CallE}:LoopOK c10 ce [] 10 0 (sub [1,1,1,1,0,1,0,0] (body Tryd.f10)):=by
 intro m hm st k r h
 obtain rfl:l10_0=m:=Option.some.inj hm
 unfold l10_0 at h
 split at h
 ·rename_i g0 g1 g2 t3 t4 g3 t6 g4 g5 h0_0 g6 h0_1 g7 h0_2 g8 g9 h1
  obtain ⟨hg,h⟩:=bif_some h
  simp only [Bool.and_eq_true] at hg
  obtain ⟨⟨⟨⟨⟨⟨⟨⟨⟨q0,q1⟩,q2⟩,q3⟩,q4⟩,q5⟩,q6⟩,q7⟩,q8⟩,q9⟩:=hg
  obtain rfl:=nE q0
  obtain rfl:=bE q1
  obtain rfl:=bE q2
  obtain rfl:=nE q3
  obtain rfl:=nE q4
  obtain rfl:=cE q5
  obtain rfl:=cE q6
  obtain rfl:=cE q7
  obtain rfl:=nE q8
  obtain rfl:=cE q9
  refine ⟨(((h1.length:Int) - t6:Int).toNat+1),?_⟩
  rw [← h]
  exact loop_run (E10_0 h0_0 h0_1 h0_2 h1) (K10_0 h0_0 h0_1 h0_2 h1 k) (st10_0 h0_0 h0_1 h0_2 h1 ce k) _ (t3,t4,t6)
 ·cases h
def q10 (xa xb xc:List AV):Bool:=(q32 xa xb xc && (ro (runW (R10_0 xa xb xc (v32_0 xa xb xc)) ((((v32_0 xa xb xc).length:Int) - 0:Int).toNat+1) (0,0,0)) false (fun p44=>true)))
def v10_0 (xa xb xc:List AV):Int:=(ro (runW (R10_0 xa xb xc (v32_0 xa xb xc)) ((((v32_0 xa xb xc).length:Int) - 0:Int).toNat+1) (0,0,0)) 0 (fun p44=>p44))
theorem e10 (xa xb xc:List AV):funA c10 0 10 [AV.agg [AV.sl [.int .i64] xa,AV.sl [.int .i64] xb,AV.sl [.int .i64,.int .i64] xc]]=(bif q32 xa xb xc then (ro (runW (R10_0 xa xb xc (v32_0 xa xb xc)) ((((v32_0 xa xb xc).length:Int) - 0:Int).toNat+1) (0,0,0)) none (fun p44=>some (Ai p44)))
 else none):=by kernel_rfl
def m10:TModel
 | [.agg [.sl g0 xa,.sl g1 xb,.sl g2 xc]]=>bif ctsEq g0 ([.int .i64]) && ctsEq g1 ([.int .i64]) && ctsEq g2 ([.int .i64,.int .i64]) then some (q10 xa xb xc,AV.int .i64 (v10_0 xa xb xc)) else none
 | _=>none
theorem k10:Known Tryd.prog 10:=⟨Tryd.f10,Tryd.func10,by kernel_rfl,by kernel_rfl⟩
theorem meets10:Meets Tryd.prog 10 m10:=by
 refine mt (lvl:=0) (cf:=c10) rfl mixed k10 Tryd.func10 (by kernel_rfl) (loops_cons ok10_0 noLoop) (allT_cons meets12 (allT_cons meets32 allT_nil)) allM_nil noI fun xs r h=>?_
 unfold m10 at h
 split at h
 ·rename_i g0 xa g1 xb g2 xc
  obtain ⟨hg,h⟩:=bif_pair h
  simp only [Bool.and_eq_true] at hg
  obtain ⟨⟨q0,q1⟩,q2⟩:=hg
  obtain rfl:=cE q0
  obtain rfl:=cE q1
  obtain rfl:=cE q2
  obtain ⟨h1,rfl⟩:=pair_inj h
  exact (e10 xa xb xc).trans ((brL (brO (fun o:Option (Int)=>some (Ai (ro o 0 (fun p44=>p44)))) (fun p44=>(fun _=>rfl)))) h1)
 ·cases h
def q67 (a0:Int):Bool:=decide (-9223372036854775808≤a0) && decide (a0≤9223372036854775807)
def v67_0 (a0:Int):ByteArray:=itoaB a0
def m67:TModel:=itoaM
theorem k67:Known Tryd.prog 67:=⟨Tryd.f67,Tryd.func67,by kernel_rfl,by kernel_rfl⟩
theorem meets67:Meets Tryd.prog 67 m67:=itoa_meets ⟨k67,fun n w h0 h1 hG=>Any.strconv_Itoa lays171 n h0 h1 w hG⟩
noncomputable def c41:Cfg:=cfg Tryd.prog [(41,999,[2])] [(67,m67)] [] [] []
def q41 (a0:Int):Bool:=q67 a0
def v41_0 (a0:Int):ByteArray:=(v67_0 a0)
theorem e41 (a0:Int):funA c41 0 41 [Ai a0]=(bif q67 a0 then some (AV.str (v67_0 a0))
 else none):=by kernel_rfl
def m41:TModel
 | [.int .i64 a0]=>some (q41 a0,AV.str (v41_0 a0))
 | _=>none
theorem k41:Known Tryd.prog 41:=⟨Tryd.f41,Tryd.func41,by kernel_rfl,by kernel_rfl⟩
theorem meets41:Meets Tryd.prog 41 m41:=by
 refine mt (lvl:=0) (cf:=c41) rfl mixed k41 Tryd.func41 (by kernel_rfl) noLoop (allT_cons meets67 allT_nil) allM_nil noI fun xs r h=>?_
 unfold m41 at h
 split at h
 ·rename_i a0
  obtain ⟨h1,rfl⟩:=pair_inj h
  exact (e41 a0).trans ((brL1 (fun _=>rfl)) h1)
 ·cases h
def q42 (a0:List AV) (a1:ByteArray):Bool:=decide (a0.length≤140737488355328) && decide ((joinB a0 a1).size≤140737488355328)
def v42_0 (a0:List AV) (a1:ByteArray):ByteArray:=joinB a0 a1
def m42:TModel:=joinM
theorem k42:Known Tryd.prog 42:=⟨Tryd.f42,Tryd.func42,by kernel_rfl,by kernel_rfl⟩
theorem meets42:Meets Tryd.prog 42 m42:=join_meets ⟨k42,fun a c sep w=>Any.strings_Join_none lays156 extra156 a c sep w,fun bk o c xs sep w h1 h2 h3 h4 h5=>Any.strings_Join lays156 extra156 bk o c xs sep w h1 h2 h3 h4 h5⟩
def G13_2 {β:Type} (t5:Int) (t13:Int) (t14:Int) (h0_0:List AV) (h0_1:List AV) (h0_2:List AV) (t4:Int) (h1:List AV) (N:((Int × (List AV)))→β) (K:((Int × (List AV)))→β) (d:β):β:=by
 refine (?f0:ByteArray→β) (v41_0 (fI (h0_2.getD t4.toNat .undef) 0));intro x1
 exact (bif decide (t4<(h0_2.length:Int)) then (bif (decide (0≤t4) && decide (t4<(h0_2.length:Int))) then (bif decide (fI (h0_2.getD t4.toNat .undef) 1=t5) then (bif (decide (0≤t4) && decide (t4<(h0_2.length:Int))) then (bif q41 (fI (h0_2.getD t4.toNat .undef) 0) then (bif decide ((ByteArray.mk #[91]).size+x1.size≤4611686018427387904) then (bif decide (((ByteArray.mk #[91])++x1).size+(ByteArray.mk #[93]).size≤4611686018427387904) then (bif (decide ((h1.length+([AV.str (((ByteArray.mk #[91])++x1)++(ByteArray.mk #[93]))]).length)*16≤140737488355328) && decide ((h1.length+([AV.str (((ByteArray.mk #[91])++x1)++(ByteArray.mk #[93]))]).length)≤140737488355328)) then N (IntKind.i64.wrap (t4+1),h1++([AV.str (((ByteArray.mk #[91])++x1)++(ByteArray.mk #[93]))]))
 else d)
 else d)
 else d)
 else d)
 else d)
 else K (t4,h1))
 else d)
 else K (t4,h1))
def F13_2 (t5 t13 t14:Int) (h0_0 h0_1 h0_2:List AV) (t4:Int) (h1:List AV):Out ((Int × (List AV))) ((Int × (List AV))):=G13_2 t5 t13 t14 h0_0 h0_1 h0_2 t4 h1 .next .stop .fail
def R13_2 (t5 t13 t14:Int) (h0_0 h0_1 h0_2:List AV):((Int × (List AV)))→Out ((Int × (List AV))) ((Int × (List AV))):=fun s:Int × (List AV)=>F13_2 t5 t13 t14 h0_0 h0_1 h0_2 s.1 s.2
def E13_2 (t5 t13 t14:Int) (h0_0 h0_1 h0_2:List AV):((Int × (List AV)))→St:=fun s:Int × (List AV)=>⟨[(1,AV.ptr [0,1] 0 0),(3,AV.own [0,3]),(4,Ai s.1),(5,Ai t5),(13,Ai t13),(14,Ai t14)],[([0,1],⟨true,[],[AV.agg [AV.sl [.int .i64] h0_0,AV.sl [.int .i64] h0_1,AV.sl [.int .i64,.int .i64] h0_2]]⟩),([0,3],⟨false,[.str],s.2⟩)]⟩
def K13_2 (t5 t13 t14:Int) (h0_0 h0_1 h0_2:List AV) (k:Kont):((Int × (List AV)))→Option AV:=fun p:Int × (List AV)=>k (.exit 2) ⟨[(1,AV.ptr [0,1] 0 0),(3,AV.own [0,3]),(4,Ai p.1),(5,Ai t5),(13,Ai t13),(14,Ai t14)],[([0,1],⟨true,[],[AV.agg [AV.sl [.int .i64] h0_0,AV.sl [.int .i64] h0_1,AV.sl [.int .i64,.int .i64] h0_2]]⟩),([0,3],⟨false,[.str],p.2⟩)]⟩
def l13_2:LModel:=fun _ _ st k=>match st with
 | ⟨[(1,.ptr g0 g1 g2),(3,.own g3),(4,.int .i64 t4),(5,.int .i64 t5),(13,.int .i64 t13),(14,.int .i64 t14)],[(g4,⟨true,[],[.agg [.sl g5 h0_0,.sl g6 h0_1,.sl g7 h0_2]]⟩),(g8,⟨false,g9,h1⟩)]⟩=>bif nmEq g0 ([0,1]) && Nat.beq g1 0 && Nat.beq g2 0 && nmEq g3 ([0,3]) && nmEq g4 ([0,1]) && ctsEq g5 ([.int .i64]) && ctsEq g6 ([.int .i64]) && ctsEq g7 ([.int .i64,.int .i64]) && nmEq g8 ([0,3]) && ctsEq g9 ([.str]) then ro (runW (R13_2 t5 t13 t14 h0_0 h0_1 h0_2) (((h0_2.length:Int) - t4:Int).toNat+1) (t4,h1)) none (K13_2 t5 t13 t14 h0_0 h0_1 h0_2 k) else none
 | _=>none
def G13_0 {β:Type} (t13:Int) (h0_0:List AV) (h0_1:List AV) (h0_2:List AV) (t4:Int) (t14:Int) (h1:List AV) (N:((Int × Int × (List AV)))→β) (K:(((List AV)))→β) (d:β):β:=(bif decide (t14<t13) then (ro (runW (R13_2 t14 t13 t14 h0_0 h0_1 h0_2) (((h0_2.length:Int) - t4:Int).toNat+1) (t4,h1)) d (fun p45=>(bif decide (t14<(h0_0.length:Int)) then (bif (decide (0≤t14) && decide (t14<(h0_0.length:Int))) then (bif q41 (fI (h0_0.getD t14.toNat .undef) 0) then (bif (decide ((p45.2.length+([AV.str (v41_0 (fI (h0_0.getD t14.toNat .undef) 0))]).length)*16≤140737488355328) && decide ((p45.2.length+([AV.str (v41_0 (fI (h0_0.getD t14.toNat .undef) 0))]).length)≤140737488355328)) then N (p45.1,IntKind.i64.wrap (t14+1),p45.2++([AV.str (v41_0 (fI (h0_0.getD t14.toNat .undef) 0))]))
 else d)
 else d)
 else d)
 else N (p45.1,IntKind.i64.wrap (t14+1),p45.2))))
 else K h1)
def F13_0 (t13:Int) (h0_0 h0_1 h0_2:List AV) (t4 t14:Int) (h1:List AV):Out ((Int × Int × (List AV))) (((List AV))):=G13_0 t13 h0_0 h0_1 h0_2 t4 t14 h1 .next .stop .fail
def R13_0 (t13:Int) (h0_0 h0_1 h0_2:List AV):((Int × Int × (List AV)))→Out ((Int × Int × (List AV))) (((List AV))):=fun s:Int × Int × (List AV)=>F13_0 t13 h0_0 h0_1 h0_2 s.1 s.2.1 s.2.2
def E13_0 (t13:Int) (h0_0 h0_1 h0_2:List AV):((Int × Int × (List AV)))→St:=fun s:Int × Int × (List AV)=>⟨[(1,AV.ptr [0,1] 0 0),(3,AV.own [0,3]),(4,Ai s.1),(13,Ai t13),(14,Ai s.2.1)],[([0,1],⟨true,[],[AV.agg [AV.sl [.int .i64] h0_0,AV.sl [.int .i64] h0_1,AV.sl [.int .i64,.int .i64] h0_2]]⟩),([0,3],⟨false,[.str],s.2.2⟩)]⟩
def K13_0 (t13:Int) (h0_0 h0_1 h0_2:List AV) (k:Kont):(((List AV)))→Option AV:=fun p:(List AV)=>k (.exit 0) ⟨[(3,AV.own [0,3])],[([0,1],⟨true,[],[AV.agg [AV.sl [.int .i64] h0_0,AV.sl [.int .i64] h0_1,AV.sl [.int .i64,.int .i64] h0_2]]⟩),([0,3],⟨false,[.str],p⟩)]⟩
def l13_0:LModel:=fun _ _ st k=>match st with
 | ⟨[(1,.ptr g0 g1 g2),(3,.own g3),(4,.int .i64 t4),(13,.int .i64 t13),(14,.int .i64 t14)],[(g4,⟨true,[],[.agg [.sl g5 h0_0,.sl g6 h0_1,.sl g7 h0_2]]⟩),(g8,⟨false,g9,h1⟩)]⟩=>bif nmEq g0 ([0,1]) && Nat.beq g1 0 && Nat.beq g2 0 && nmEq g3 ([0,3]) && nmEq g4 ([0,1]) && ctsEq g5 ([.int .i64]) && ctsEq g6 ([.int .i64]) && ctsEq g7 ([.int .i64,.int .i64]) && nmEq g8 ([0,3]) && ctsEq g9 ([.str]) then ro (runW (R13_0 t13 h0_0 h0_1 h0_2) ((t13 - t14:Int).toNat+1) (t4,t14,h1)) none (K13_0 t13 h0_0 h0_1 h0_2 k) else none
 | _=>none
noncomputable def c13:Cfg:=cfg Tryd.prog [(13,0,[1,3,4,13,14]),(13,2,[1,3,4,5,13,14]),(13,999,[2]),(13,1000,[3]),(13,1001,[1,3,4,13,14]),(13,1002,[1,3,4,5,13,14]),(13,1003,[1,3,4,5,13,14])] [(11,m11),(41,m41),(42,m42)] [] [] [(13,0,l13_0),(13,2,l13_2)]
theorem s13_2 (t5 t13 t14:Int) (h0_0 h0_1 h0_2:List AV) (ce:CallE) (k:Kont) (s:Int × (List AV)) (next:St→Option AV):stepA (codeA c13 ce [] 13 2 (sub [1,1,1,0,1,0,0,1,1,0,0,1,0,0,0] (body Tryd.f13))) (normA [] [1,3,4,5,13,14]) next ((E13_2 t5 t13 t14 h0_0 h0_1 h0_2) s) k=G13_2 t5 t13 t14 h0_0 h0_1 h0_2 s.1 s.2 (fun s=>next ((E13_2 t5 t13 t14 h0_0 h0_1 h0_2) s)) (K13_2 t5 t13 t14 h0_0 h0_1 h0_2 k) none:=by kernel_rfl
theorem st13_2 (t5 t13 t14:Int) (h0_0 h0_1 h0_2:List AV) (ce:CallE) (k:Kont) (s:(Int × (List AV))) (next:St→Option AV):stepA (codeA c13 ce [] 13 2 (sub [1,1,1,0,1,0,0,1,1,0,0,1,0,0,0] (body Tryd.f13))) (normA [] [1,3,4,5,13,14]) next ((E13_2 t5 t13 t14 h0_0 h0_1 h0_2) s) k=(R13_2 t5 t13 t14 h0_0 h0_1 h0_2 s).el none (fun s=>next ((E13_2 t5 t13 t14 h0_0 h0_1 h0_2) s)) (K13_2 t5 t13 t14 h0_0 h0_1 h0_2 k):=(s13_2 t5 t13 t14 h0_0 h0_1 h0_2 ce k s next).trans (by unfold R13_2;unfold F13_2 G13_2;simp only [el_cond,el_ro,el_sum,el_fail,el_next,el_stop] <;> rfl)
theorem ok13_2 {ce:CallE}:LoopOK c13 ce [] 13 2 (sub [1,1,1,0,1,0,0,1,1,0,0,1,0,0,0] (body Tryd.f13)):=by
 intro m hm st k r h
 obtain rfl:l13_2=m:=Option.some.inj hm
 unfold l13_2 at h
 split at h
 ·rename_i g0 g1 g2 g3 t4 t5 t13 t14 g4 g5 h0_0 g6 h0_1 g7 h0_2 g8 g9 h1
  obtain ⟨hg,h⟩:=bif_some h
  simp only [Bool.and_eq_true] at hg
  obtain ⟨⟨⟨⟨⟨⟨⟨⟨⟨q0,q1⟩,q2⟩,q3⟩,q4⟩,q5⟩,q6⟩,q7⟩,q8⟩,q9⟩:=hg
  obtain rfl:=nE q0
  obtain rfl:=bE q1
  obtain rfl:=bE q2
  obtain rfl:=nE q3
  obtain rfl:=nE q4
  obtain rfl:=cE q5
  obtain rfl:=cE q6
  obtain rfl:=cE q7
  obtain rfl:=nE q8
  obtain rfl:=cE q9
  refine ⟨(((h0_2.length:Int) - t4:Int).toNat+1),?_⟩
  rw [← h]
  exact loop_run (E13_2 t5 t13 t14 h0_0 h0_1 h0_2) (K13_2 t5 t13 t14 h0_0 h0_1 h0_2 k) (st13_2 t5 t13 t14 h0_0 h0_1 h0_2 ce k) _ (t4,h1)
 ·cases h
theorem s13_0 (t13:Int) (h0_0 h0_1 h0_2:List AV) (ce:CallE) (k:Kont) (s:Int × Int × (List AV)) (next:St→Option AV):stepA (codeA c13 ce [] 13 0 (sub [1,1,1,0,1,0,0] (body Tryd.f13))) (normA [] [1,3,4,13,14]) next ((E13_0 t13 h0_0 h0_1 h0_2) s) k=G13_0 t13 h0_0 h0_1 h0_2 s.1 s.2.1 s.2.2 (fun s=>next ((E13_0 t13 h0_0 h0_1 h0_2) s)) (K13_0 t13 h0_0 h0_1 h0_2 k) none:=by kernel_rfl
theorem st13_0 (t13:Int) (h0_0 h0_1 h0_2:List AV) (ce:CallE) (k:Kont) (s:(Int × Int × (List AV))) (next:St→Option AV):stepA (codeA c13 ce [] 13 0 (sub [1,1,1,0,1,0,0] (body Tryd.f13))) (normA [] [1,3,4,13,14]) next ((E13_0 t13 h0_0 h0_1 h0_2) s) k=(R13_0 t13 h0_0 h0_1 h0_2 s).el none (fun s=>next ((E13_0 t13 h0_0 h0_1 h0_2) s)) (K13_0 t13 h0_0 h0_1 h0_2 k):=(s13_0 t13 h0_0 h0_1 h0_2 ce k s next).trans (by unfold R13_0;unfold F13_0 G13_0;simp only [el_cond,el_ro,el_sum,el_fail,el_next,el_stop] <;> rfl)
theorem ok13_0 {ce:CallE}:LoopOK c13 ce [] 13 0 (sub [1,1,1,0,1,0,0] (body Tryd.f13)):=by
 intro m hm st k r h
 obtain rfl:l13_0=m:=Option.some.inj hm
 unfold l13_0 at h
 split at h
 ·rename_i g0 g1 g2 g3 t4 t13 t14 g4 g5 h0_0 g6 h0_1 g7 h0_2 g8 g9 h1
  obtain ⟨hg,h⟩:=bif_some h
  simp only [Bool.and_eq_true] at hg
  obtain ⟨⟨⟨⟨⟨⟨⟨⟨⟨q0,q1⟩,q2⟩,q3⟩,q4⟩,q5⟩,q6⟩,q7⟩,q8⟩,q9⟩:=hg
  obtain rfl:=nE q0
  obtain rfl:=bE q1
  obtain rfl:=bE q2
  obtain rfl:=nE q3
  obtain rfl:=nE q4
  obtain rfl:=cE q5
  obtain rfl:=cE q6
  obtain rfl:=cE q7
  obtain rfl:=nE q8
  obtain rfl:=cE q9
  refine ⟨((t13 - t14:Int).toNat+1),?_⟩
  rw [← h]
  exact loop_run (E13_0 t13 h0_0 h0_1 h0_2) (K13_0 t13 h0_0 h0_1 h0_2 k) (st13_0 t13 h0_0 h0_1 h0_2 ce k) _ (t4,t14,h1)
 ·cases h
def q13 (xa xb xc:List AV):Bool:=(q11 xa xb xc && (bif !(v11_0 xa xb xc) then true else (ro (runW (R13_0 (IntKind.i64.wrap ((xa.length:Int)+1)) xa xb xc) (((IntKind.i64.wrap ((xa.length:Int)+1)) - 0:Int).toNat+1) (0,0,([]:List AV))) false (fun p46=>(bif decide ((p46.length:Int)=0) then true else q42 p46 (ByteArray.mk #[32]))))))
def v13_0 (xa xb xc:List AV):ByteArray:=(bif !(v11_0 xa xb xc) then ByteArray.empty else (ro (runW (R13_0 (IntKind.i64.wrap ((xa.length:Int)+1)) xa xb xc) (((IntKind.i64.wrap ((xa.length:Int)+1)) - 0:Int).toNat+1) (0,0,([]:List AV))) ByteArray.empty (fun p46=>(bif decide ((p46.length:Int)=0) then (ByteArray.mk #[110,111,110,101]) else (v42_0 p46 (ByteArray.mk #[32]))))))
theorem e13 (xa xb xc:List AV):funA c13 0 13 [AV.agg [AV.sl [.int .i64] xa,AV.sl [.int .i64] xb,AV.sl [.int .i64,.int .i64] xc]]=(bif q11 xa xb xc then (bif !(v11_0 xa xb xc) then some (AV.str ByteArray.empty)
 else (ro (runW (R13_0 (IntKind.i64.wrap ((xa.length:Int)+1)) xa xb xc) (((IntKind.i64.wrap ((xa.length:Int)+1)) - 0:Int).toNat+1) (0,0,([]:List AV))) none (fun p46=>(bif decide ((p46.length:Int)=0) then some (AV.str (ByteArray.mk #[110,111,110,101]))
 else (bif q42 p46 (ByteArray.mk #[32]) then some (AV.str (v42_0 p46 (ByteArray.mk #[32])))
 else none)))))
 else none):=by kernel_rfl
def m13:TModel
 | [.agg [.sl g0 xa,.sl g1 xb,.sl g2 xc]]=>bif ctsEq g0 ([.int .i64]) && ctsEq g1 ([.int .i64]) && ctsEq g2 ([.int .i64,.int .i64]) then some (q13 xa xb xc,AV.str (v13_0 xa xb xc)) else none
 | _=>none
theorem k13:Known Tryd.prog 13:=⟨Tryd.f13,Tryd.func13,by kernel_rfl,by kernel_rfl⟩
theorem meets13:Meets Tryd.prog 13 m13:=by
 refine mt (lvl:=0) (cf:=c13) rfl mixed k13 Tryd.func13 (by kernel_rfl) (loops_cons ok13_0 (loops_cons ok13_2 noLoop)) (allT_cons meets11 (allT_cons meets41 (allT_cons meets42 allT_nil))) allM_nil noI fun xs r h=>?_
 unfold m13 at h
 split at h
 ·rename_i g0 xa g1 xb g2 xc
  obtain ⟨hg,h⟩:=bif_pair h
  simp only [Bool.and_eq_true] at hg
  obtain ⟨⟨q0,q1⟩,q2⟩:=hg
  obtain rfl:=cE q0
  obtain rfl:=cE q1
  obtain rfl:=cE q2
  obtain ⟨h1,rfl⟩:=pair_inj h
  exact (e13 xa xb xc).trans ((brL (br (fun b=>some (AV.str (bif b then ByteArray.empty else (ro (runW (R13_0 (IntKind.i64.wrap ((xa.length:Int)+1)) xa xb xc) (((IntKind.i64.wrap ((xa.length:Int)+1)) - 0:Int).toNat+1) (0,0,([]:List AV))) ByteArray.empty (fun p46=>(bif decide ((p46.length:Int)=0) then (ByteArray.mk #[110,111,110,101]) else (v42_0 p46 (ByteArray.mk #[32])))))))) (fun _=>rfl) (brO (fun o:Option (((List AV)))=>some (AV.str (ro o ByteArray.empty (fun p46=>(bif decide ((p46.length:Int)=0) then (ByteArray.mk #[110,111,110,101]) else (v42_0 p46 (ByteArray.mk #[32]))))))) (fun p46=>(br (fun b=>some (AV.str (bif b then (ByteArray.mk #[110,111,110,101]) else (v42_0 p46 (ByteArray.mk #[32]))))) (fun _=>rfl) (brL1 (fun _=>rfl))))))) h1)
 ·cases h
def G43_0 {β:Type} (t4:Bool) (t0:Int) (t3:ByteArray) (N:((Int × ByteArray))→β) (K:(ByteArray)→β) (d:β):β:=(bif !decide (t0=0) then (bif !decide (10=0) then (bif decide (Int.tmod t0 10<0) then (bif decide ((bytesA ([AV.int .u8 (IntKind.u8.wrap (IntKind.i64.wrap (48+IntKind.i64.wrap (0 - (Int.tmod t0 10)))))])).size+t3.size≤4611686018427387904) then (bif !decide (10=0) then N (IntKind.i64.wrap (Int.tdiv t0 10),(bytesA ([AV.int .u8 (IntKind.u8.wrap (IntKind.i64.wrap (48+IntKind.i64.wrap (0 - (Int.tmod t0 10)))))]))++t3)
 else d)
 else d)
 else (bif decide ((bytesA ([AV.int .u8 (IntKind.u8.wrap (IntKind.i64.wrap (48+Int.tmod t0 10)))])).size+t3.size≤4611686018427387904) then (bif !decide (10=0) then N (IntKind.i64.wrap (Int.tdiv t0 10),(bytesA ([AV.int .u8 (IntKind.u8.wrap (IntKind.i64.wrap (48+Int.tmod t0 10)))]))++t3)
 else d)
 else d))
 else d)
 else K t3)
def F43_0 (t4:Bool) (t0:Int) (t3:ByteArray):Out ((Int × ByteArray)) (ByteArray):=G43_0 t4 t0 t3 .next .stop .fail
def R43_0 (t4:Bool):((Int × ByteArray))→Out ((Int × ByteArray)) (ByteArray):=fun s:Int × ByteArray=>F43_0 t4 s.1 s.2
def E43_0 (t4:Bool):((Int × ByteArray))→St:=fun s:Int × ByteArray=>⟨[(0,Ai s.1),(3,AV.str s.2),(4,AV.bool t4)],[]⟩
def K43_0 (t4:Bool) (k:Kont):(ByteArray)→Option AV:=fun p:ByteArray=>k (.exit 0) ⟨[(3,AV.str p),(4,AV.bool t4)],[]⟩
def l43_0:LModel:=fun _ _ st k=>match st with
 | ⟨[(0,.int .i64 t0),(3,.str t3),(4,.bool t4)],[]⟩=>ro (runW (R43_0 t4) (t0.natAbs+1) (t0,t3)) none (K43_0 t4 k)
 | _=>none
noncomputable def c43:Cfg:=cfg Tryd.prog [(43,0,[0,3,4]),(43,999,[2]),(43,1000,[3,4]),(43,1001,[0,3,4])] [] [] [] [(43,0,l43_0)]
theorem s43_0 (t4:Bool) (ce:CallE) (k:Kont) (s:Int × ByteArray) (next:St→Option AV):stepA (codeA c43 ce [] 43 0 (sub [1,1,1,1,0,0,0] (body Tryd.f43))) (normA [] [0,3,4]) next ((E43_0 t4) s) k=G43_0 t4 s.1 s.2 (fun s=>next ((E43_0 t4) s)) (K43_0 t4 k) none:=by kernel_rfl
theorem st43_0 (t4:Bool) (ce:CallE) (k:Kont) (s:(Int × ByteArray)) (next:St→Option AV):stepA (codeA c43 ce [] 43 0 (sub [1,1,1,1,0,0,0] (body Tryd.f43))) (normA [] [0,3,4]) next ((E43_0 t4) s) k=(R43_0 t4 s).el none (fun s=>next ((E43_0 t4) s)) (K43_0 t4 k):=(s43_0 t4 ce k s next).trans (by unfold R43_0;unfold F43_0 G43_0;simp only [el_cond,el_ro,el_sum,el_fail,el_next,el_stop] <;> rfl)
theorem ok43_0 {ce:CallE}:LoopOK c43 ce [] 43 0 (sub [1,1,1,1,0,0,0] (body Tryd.f43)):=by
 intro m hm st k r h
 obtain rfl:l43_0=m:=Option.some.inj hm
 unfold l43_0 at h
 split at h
 ·rename_i t0 t3 t4
  refine ⟨(t0.natAbs+1),?_⟩
  rw [← h]
  exact loop_run (E43_0 t4) (K43_0 t4 k) (st43_0 t4 ce k) _ (t0,t3)
 ·cases h
def q43 (a0:Int):Bool:=(bif decide (a0=0) then true else (ro (runW (R43_0 (decide (a0<0))) (a0.natAbs+1) (a0,ByteArray.empty)) false (fun p47=>(bif decide (a0<0) then decide ((ByteArray.mk #[45]).size+p47.size≤4611686018427387904) else true))))
def v43_0 (a0:Int):ByteArray:=(bif decide (a0=0) then (ByteArray.mk #[48]) else (ro (runW (R43_0 (decide (a0<0))) (a0.natAbs+1) (a0,ByteArray.empty)) ByteArray.empty (fun p47=>(bif decide (a0<0) then (ByteArray.mk #[45])++p47 else p47))))
theorem e43 (a0:Int):funA c43 0 43 [Ai a0]=(bif decide (a0=0) then some (AV.str (ByteArray.mk #[48]))
 else (ro (runW (R43_0 (decide (a0<0))) (a0.natAbs+1) (a0,ByteArray.empty)) none (fun p47=>(bif decide (a0<0) then (bif decide ((ByteArray.mk #[45]).size+p47.size≤4611686018427387904) then some (AV.str ((ByteArray.mk #[45])++p47))
 else none)
 else some (AV.str p47))))):=by kernel_rfl
def m43:TModel
 | [.int .i64 a0]=>some (q43 a0,AV.str (v43_0 a0))
 | _=>none
theorem k43:Known Tryd.prog 43:=⟨Tryd.f43,Tryd.func43,by kernel_rfl,by kernel_rfl⟩
theorem meets43:Meets Tryd.prog 43 m43:=by
 refine mt (lvl:=0) (cf:=c43) rfl mixed k43 Tryd.func43 (by kernel_rfl) (loops_cons ok43_0 noLoop) allT_nil allM_nil noI fun xs r h=>?_
 unfold m43 at h
 split at h
 ·rename_i a0
  obtain ⟨h1,rfl⟩:=pair_inj h
  exact (e43 a0).trans ((br (fun b=>some (AV.str (bif b then (ByteArray.mk #[48]) else (ro (runW (R43_0 (decide (a0<0))) (a0.natAbs+1) (a0,ByteArray.empty)) ByteArray.empty (fun p47=>(bif decide (a0<0) then (ByteArray.mk #[45])++p47 else p47)))))) (fun _=>rfl) (brO (fun o:Option (ByteArray)=>some (AV.str (ro o ByteArray.empty (fun p47=>(bif decide (a0<0) then (ByteArray.mk #[45])++p47 else p47))))) (fun p47=>(br (fun b=>some (AV.str (bif b then (ByteArray.mk #[45])++p47 else p47))) (brL1 (fun _=>rfl)) (fun _=>rfl))))) h1)
 ·cases h
def G14_2 {β:Type} (t5:Int) (h0_0:List AV) (h0_1:List AV) (h0_2:List AV) (t3:ByteArray) (t4:Int) (N:((ByteArray × Int))→β) (K:((ByteArray × Int))→β) (d:β):β:=(bif decide (t4<(h0_2.length:Int)) then (bif (decide (0≤t4) && decide (t4<(h0_2.length:Int))) then (bif decide (fI (h0_2.getD t4.toNat .undef) 1=t5) then (bif decide (t3.size+(ByteArray.mk #[32,91]).size≤4611686018427387904) then (bif (decide (0≤t4) && decide (t4<(h0_2.length:Int))) then (bif q43 (fI (h0_2.getD t4.toNat .undef) 0) then (bif decide ((t3++(ByteArray.mk #[32,91])).size+(v43_0 (fI (h0_2.getD t4.toNat .undef) 0)).size≤4611686018427387904) then (bif decide (((t3++(ByteArray.mk #[32,91]))++(v43_0 (fI (h0_2.getD t4.toNat .undef) 0))).size+(ByteArray.mk #[93]).size≤4611686018427387904) then N (((t3++(ByteArray.mk #[32,91]))++(v43_0 (fI (h0_2.getD t4.toNat .undef) 0)))++(ByteArray.mk #[93]),IntKind.i64.wrap (t4+1))
 else d)
 else d)
 else d)
 else d)
 else d)
 else K (t3,t4))
 else d)
 else K (t3,t4))
def F14_2 (t5:Int) (h0_0 h0_1 h0_2:List AV) (t3:ByteArray) (t4:Int):Out ((ByteArray × Int)) ((ByteArray × Int)):=G14_2 t5 h0_0 h0_1 h0_2 t3 t4 .next .stop .fail
def R14_2 (t5:Int) (h0_0 h0_1 h0_2:List AV):((ByteArray × Int))→Out ((ByteArray × Int)) ((ByteArray × Int)):=fun s:ByteArray × Int=>F14_2 t5 h0_0 h0_1 h0_2 s.1 s.2
def E14_2 (t5:Int) (h0_0 h0_1 h0_2:List AV):((ByteArray × Int))→St:=fun s:ByteArray × Int=>⟨[(1,AV.ptr [0,1] 0 0),(3,AV.str s.1),(4,Ai s.2),(5,Ai t5)],[([0,1],⟨true,[],[AV.agg [AV.sl [.int .i64] h0_0,AV.sl [.int .i64] h0_1,AV.sl [.int .i64,.int .i64] h0_2]]⟩)]⟩
def K14_2 (t5:Int) (h0_0 h0_1 h0_2:List AV) (k:Kont):((ByteArray × Int))→Option AV:=fun p:ByteArray × Int=>k (.exit 2) ⟨[(1,AV.ptr [0,1] 0 0),(3,AV.str p.1),(4,Ai p.2),(5,Ai t5)],[([0,1],⟨true,[],[AV.agg [AV.sl [.int .i64] h0_0,AV.sl [.int .i64] h0_1,AV.sl [.int .i64,.int .i64] h0_2]]⟩)]⟩
def l14_2:LModel:=fun _ _ st k=>match st with
 | ⟨[(1,.ptr g0 g1 g2),(3,.str t3),(4,.int .i64 t4),(5,.int .i64 t5)],[(g3,⟨true,[],[.agg [.sl g4 h0_0,.sl g5 h0_1,.sl g6 h0_2]]⟩)]⟩=>bif nmEq g0 ([0,1]) && Nat.beq g1 0 && Nat.beq g2 0 && nmEq g3 ([0,1]) && ctsEq g4 ([.int .i64]) && ctsEq g5 ([.int .i64]) && ctsEq g6 ([.int .i64,.int .i64]) then ro (runW (R14_2 t5 h0_0 h0_1 h0_2) (((h0_2.length:Int) - t4:Int).toNat+1) (t3,t4)) none (K14_2 t5 h0_0 h0_1 h0_2 k) else none
 | _=>none
def G14_0 {β:Type} (h0_0:List AV) (h0_1:List AV) (h0_2:List AV) (t3:ByteArray) (t4:Int) (t5:Int) (N:((ByteArray × Int × Int))→β) (K:(ByteArray)→β) (d:β):β:=(bif decide (t5≤(h0_0.length:Int)) then (ro (runW (R14_2 t5 h0_0 h0_1 h0_2) (((h0_2.length:Int) - t4:Int).toNat+1) (t3,t4)) d (fun p48=>(bif decide (t5<(h0_0.length:Int)) then (bif decide (p48.1.size+(ByteArray.mk #[32]).size≤4611686018427387904) then (bif (decide (0≤t5) && decide (t5<(h0_0.length:Int))) then (bif q43 (fI (h0_0.getD t5.toNat .undef) 0) then (bif decide ((p48.1++(ByteArray.mk #[32])).size+(v43_0 (fI (h0_0.getD t5.toNat .undef) 0)).size≤4611686018427387904) then N ((p48.1++(ByteArray.mk #[32]))++(v43_0 (fI (h0_0.getD t5.toNat .undef) 0)),p48.2,IntKind.i64.wrap (t5+1))
 else d)
 else d)
 else d)
 else d)
 else N (p48.1,p48.2,IntKind.i64.wrap (t5+1)))))
 else K t3)
def F14_0 (h0_0 h0_1 h0_2:List AV) (t3:ByteArray) (t4 t5:Int):Out ((ByteArray × Int × Int)) (ByteArray):=G14_0 h0_0 h0_1 h0_2 t3 t4 t5 .next .stop .fail
def R14_0 (h0_0 h0_1 h0_2:List AV):((ByteArray × Int × Int))→Out ((ByteArray × Int × Int)) (ByteArray):=fun s:ByteArray × Int × Int=>F14_0 h0_0 h0_1 h0_2 s.1 s.2.1 s.2.2
def E14_0 (h0_0 h0_1 h0_2:List AV):((ByteArray × Int × Int))→St:=fun s:ByteArray × Int × Int=>⟨[(1,AV.ptr [0,1] 0 0),(3,AV.str s.1),(4,Ai s.2.1),(5,Ai s.2.2)],[([0,1],⟨true,[],[AV.agg [AV.sl [.int .i64] h0_0,AV.sl [.int .i64] h0_1,AV.sl [.int .i64,.int .i64] h0_2]]⟩)]⟩
def K14_0 (h0_0 h0_1 h0_2:List AV) (k:Kont):(ByteArray)→Option AV:=fun p:ByteArray=>k (.exit 0) ⟨[(3,AV.str p)],[([0,1],⟨true,[],[AV.agg [AV.sl [.int .i64] h0_0,AV.sl [.int .i64] h0_1,AV.sl [.int .i64,.int .i64] h0_2]]⟩)]⟩
def l14_0:LModel:=fun _ _ st k=>match st with
 | ⟨[(1,.ptr g0 g1 g2),(3,.str t3),(4,.int .i64 t4),(5,.int .i64 t5)],[(g3,⟨true,[],[.agg [.sl g4 h0_0,.sl g5 h0_1,.sl g6 h0_2]]⟩)]⟩=>bif nmEq g0 ([0,1]) && Nat.beq g1 0 && Nat.beq g2 0 && nmEq g3 ([0,1]) && ctsEq g4 ([.int .i64]) && ctsEq g5 ([.int .i64]) && ctsEq g6 ([.int .i64,.int .i64]) then ro (runW (R14_0 h0_0 h0_1 h0_2) (((h0_0.length:Int) - t5+1:Int).toNat+1) (t3,t4,t5)) none (K14_0 h0_0 h0_1 h0_2 k) else none
 | _=>none
noncomputable def c14:Cfg:=cfg Tryd.prog [(14,0,[1,3,4,5]),(14,2,[1,3,4,5]),(14,999,[2]),(14,1000,[3]),(14,1001,[1,3,4,5]),(14,1002,[1,3,4,5]),(14,1003,[1,3,4,5])] [(12,m12),(43,m43)] [] [] [(14,0,l14_0),(14,2,l14_2)]
theorem s14_2 (t5:Int) (h0_0 h0_1 h0_2:List AV) (ce:CallE) (k:Kont) (s:ByteArray × Int) (next:St→Option AV):stepA (codeA c14 ce [] 14 2 (sub [1,1,1,1,0,1,0,0,1,0,0,0,0,0] (body Tryd.f14))) (normA [] [1,3,4,5]) next ((E14_2 t5 h0_0 h0_1 h0_2) s) k=G14_2 t5 h0_0 h0_1 h0_2 s.1 s.2 (fun s=>next ((E14_2 t5 h0_0 h0_1 h0_2) s)) (K14_2 t5 h0_0 h0_1 h0_2 k) none:=by kernel_rfl
theorem st14_2 (t5:Int) (h0_0 h0_1 h0_2:List AV) (ce:CallE) (k:Kont) (s:(ByteArray × Int)) (next:St→Option AV):stepA (codeA c14 ce [] 14 2 (sub [1,1,1,1,0,1,0,0,1,0,0,0,0,0] (body Tryd.f14))) (normA [] [1,3,4,5]) next ((E14_2 t5 h0_0 h0_1 h0_2) s) k=(R14_2 t5 h0_0 h0_1 h0_2 s).el none (fun s=>next ((E14_2 t5 h0_0 h0_1 h0_2) s)) (K14_2 t5 h0_0 h0_1 h0_2 k):=(s14_2 t5 h0_0 h0_1 h0_2 ce k s next).trans (by unfold R14_2;unfold F14_2 G14_2;simp only [el_cond,el_ro,el_sum,el_fail,el_next,el_stop] <;> rfl)
theorem ok14_2 {ce:CallE}:LoopOK c14 ce [] 14 2 (sub [1,1,1,1,0,1,0,0,1,0,0,0,0,0] (body Tryd.f14)):=by
 intro m hm st k r h
 obtain rfl:l14_2=m:=Option.some.inj hm
 unfold l14_2 at h
 split at h
 ·rename_i g0 g1 g2 t3 t4 t5 g3 g4 h0_0 g5 h0_1 g6 h0_2
  obtain ⟨hg,h⟩:=bif_some h
  simp only [Bool.and_eq_true] at hg
  obtain ⟨⟨⟨⟨⟨⟨q0,q1⟩,q2⟩,q3⟩,q4⟩,q5⟩,q6⟩:=hg
  obtain rfl:=nE q0
  obtain rfl:=bE q1
  obtain rfl:=bE q2
  obtain rfl:=nE q3
  obtain rfl:=cE q4
  obtain rfl:=cE q5
  obtain rfl:=cE q6
  refine ⟨(((h0_2.length:Int) - t4:Int).toNat+1),?_⟩
  rw [← h]
  exact loop_run (E14_2 t5 h0_0 h0_1 h0_2) (K14_2 t5 h0_0 h0_1 h0_2 k) (st14_2 t5 h0_0 h0_1 h0_2 ce k) _ (t3,t4)
 ·cases h
theorem s14_0 (h0_0 h0_1 h0_2:List AV) (ce:CallE) (k:Kont) (s:ByteArray × Int × Int) (next:St→Option AV):stepA (codeA c14 ce [] 14 0 (sub [1,1,1,1,0,1,0,0] (body Tryd.f14))) (normA [] [1,3,4,5]) next ((E14_0 h0_0 h0_1 h0_2) s) k=G14_0 h0_0 h0_1 h0_2 s.1 s.2.1 s.2.2 (fun s=>next ((E14_0 h0_0 h0_1 h0_2) s)) (K14_0 h0_0 h0_1 h0_2 k) none:=by kernel_rfl
theorem st14_0 (h0_0 h0_1 h0_2:List AV) (ce:CallE) (k:Kont) (s:(ByteArray × Int × Int)) (next:St→Option AV):stepA (codeA c14 ce [] 14 0 (sub [1,1,1,1,0,1,0,0] (body Tryd.f14))) (normA [] [1,3,4,5]) next ((E14_0 h0_0 h0_1 h0_2) s) k=(R14_0 h0_0 h0_1 h0_2 s).el none (fun s=>next ((E14_0 h0_0 h0_1 h0_2) s)) (K14_0 h0_0 h0_1 h0_2 k):=(s14_0 h0_0 h0_1 h0_2 ce k s next).trans (by unfold R14_0;unfold F14_0 G14_0;simp only [el_cond,el_ro,el_sum,el_fail,el_next,el_stop] <;> rfl)
theorem ok14_0 {ce:CallE}:LoopOK c14 ce [] 14 0 (sub [1,1,1,1,0,1,0,0] (body Tryd.f14)):=by
 intro m hm st k r h
 obtain rfl:l14_0=m:=Option.some.inj hm
 unfold l14_0 at h
 split at h
 ·rename_i g0 g1 g2 t3 t4 t5 g3 g4 h0_0 g5 h0_1 g6 h0_2
  obtain ⟨hg,h⟩:=bif_some h
  simp only [Bool.and_eq_true] at hg
  obtain ⟨⟨⟨⟨⟨⟨q0,q1⟩,q2⟩,q3⟩,q4⟩,q5⟩,q6⟩:=hg
  obtain rfl:=nE q0
  obtain rfl:=bE q1
  obtain rfl:=bE q2
  obtain rfl:=nE q3
  obtain rfl:=cE q4
  obtain rfl:=cE q5
  obtain rfl:=cE q6
  refine ⟨(((h0_0.length:Int) - t5+1:Int).toNat+1),?_⟩
  rw [← h]
  exact loop_run (E14_0 h0_0 h0_1 h0_2) (K14_0 h0_0 h0_1 h0_2 k) (st14_0 h0_0 h0_1 h0_2 ce k) _ (t3,t4,t5)
 ·cases h
def q14 (xa xb xc:List AV):Bool:=(q12 xa xb xc && (bif !(v12_0 xa xb xc) then true else (ro (runW (R14_0 xa xb xc) (((xa.length:Int) - 0+1:Int).toNat+1) (ByteArray.empty,0,0)) false (fun p49=>(bif (p49.toList == ByteArray.empty.toList) then true else (decide (0≤1) && decide (1≤(p49.size:Int)) && decide ((p49.size:Int)≤(p49.size:Int))))))))
def v14_0 (xa xb xc:List AV):ByteArray:=(bif !(v12_0 xa xb xc) then ByteArray.empty else (ro (runW (R14_0 xa xb xc) (((xa.length:Int) - 0+1:Int).toNat+1) (ByteArray.empty,0,0)) ByteArray.empty (fun p49=>(bif (p49.toList == ByteArray.empty.toList) then (ByteArray.mk #[110,111,110,101]) else p49.extract (Int.toNat 1) (Int.toNat (p49.size:Int))))))
theorem e14 (xa xb xc:List AV):funA c14 0 14 [AV.agg [AV.sl [.int .i64] xa,AV.sl [.int .i64] xb,AV.sl [.int .i64,.int .i64] xc]]=(bif q12 xa xb xc then (bif !(v12_0 xa xb xc) then some (AV.str ByteArray.empty)
 else (ro (runW (R14_0 xa xb xc) (((xa.length:Int) - 0+1:Int).toNat+1) (ByteArray.empty,0,0)) none (fun p49=>(bif (p49.toList == ByteArray.empty.toList) then some (AV.str (ByteArray.mk #[110,111,110,101]))
 else (bif (decide (0≤1) && decide (1≤(p49.size:Int)) && decide ((p49.size:Int)≤(p49.size:Int))) then some (AV.str (p49.extract (Int.toNat 1) (Int.toNat (p49.size:Int))))
 else none)))))
 else none):=by kernel_rfl
def m14:TModel
 | [.agg [.sl g0 xa,.sl g1 xb,.sl g2 xc]]=>bif ctsEq g0 ([.int .i64]) && ctsEq g1 ([.int .i64]) && ctsEq g2 ([.int .i64,.int .i64]) then some (q14 xa xb xc,AV.str (v14_0 xa xb xc)) else none
 | _=>none
theorem k14:Known Tryd.prog 14:=⟨Tryd.f14,Tryd.func14,by kernel_rfl,by kernel_rfl⟩
theorem meets14:Meets Tryd.prog 14 m14:=by
 refine mt (lvl:=0) (cf:=c14) rfl mixed k14 Tryd.func14 (by kernel_rfl) (loops_cons ok14_0 (loops_cons ok14_2 noLoop)) (allT_cons meets12 (allT_cons meets43 allT_nil)) allM_nil noI fun xs r h=>?_
 unfold m14 at h
 split at h
 ·rename_i g0 xa g1 xb g2 xc
  obtain ⟨hg,h⟩:=bif_pair h
  simp only [Bool.and_eq_true] at hg
  obtain ⟨⟨q0,q1⟩,q2⟩:=hg
  obtain rfl:=cE q0
  obtain rfl:=cE q1
  obtain rfl:=cE q2
  obtain ⟨h1,rfl⟩:=pair_inj h
  exact (e14 xa xb xc).trans ((brL (br (fun b=>some (AV.str (bif b then ByteArray.empty else (ro (runW (R14_0 xa xb xc) (((xa.length:Int) - 0+1:Int).toNat+1) (ByteArray.empty,0,0)) ByteArray.empty (fun p49=>(bif (p49.toList == ByteArray.empty.toList) then (ByteArray.mk #[110,111,110,101]) else p49.extract (Int.toNat 1) (Int.toNat (p49.size:Int)))))))) (fun _=>rfl) (brO (fun o:Option (ByteArray)=>some (AV.str (ro o ByteArray.empty (fun p49=>(bif (p49.toList == ByteArray.empty.toList) then (ByteArray.mk #[110,111,110,101]) else p49.extract (Int.toNat 1) (Int.toNat (p49.size:Int))))))) (fun p49=>(br (fun b=>some (AV.str (bif b then (ByteArray.mk #[110,111,110,101]) else p49.extract (Int.toNat 1) (Int.toNat (p49.size:Int))))) (fun _=>rfl) (brL1 (fun _=>rfl))))))) h1)
 ·cases h
def G44_0 {β:Type} (t6:List AV) (t7:Int) (t3:Int) (t8:Int) (N:((Int × Int))→β) (K:(Int)→β) (d:β):β:=(bif decide (t8<t7) then (bif (decide (0≤t8) && decide (t8<(t6.length:Int))) then N (IntKind.i64.wrap (t3+fI (t6.getD t8.toNat .undef) 0),IntKind.i64.wrap (t8+1))
 else d)
 else K t3)
def F44_0 (t6:List AV) (t7 t3 t8:Int):Out ((Int × Int)) (Int):=G44_0 t6 t7 t3 t8 .next .stop .fail
def R44_0 (t6:List AV) (t7:Int):((Int × Int))→Out ((Int × Int)) (Int):=fun s:Int × Int=>F44_0 t6 t7 s.1 s.2
def E44_0 (t6:List AV) (t7:Int):((Int × Int))→St:=fun s:Int × Int=>⟨[(3,Ai s.1),(6,AV.sl [.int .i64] t6),(7,Ai t7),(8,Ai s.2)],[]⟩
def K44_0 (t6:List AV) (t7:Int) (k:Kont):(Int)→Option AV:=fun p:Int=>k (.exit 0) ⟨[(3,Ai p)],[]⟩
def l44_0:LModel:=fun _ _ st k=>match st with
 | ⟨[(3,.int .i64 t3),(6,.sl g0 t6),(7,.int .i64 t7),(8,.int .i64 t8)],[]⟩=>bif ctsEq g0 ([.int .i64]) then ro (runW (R44_0 t6 t7) ((t7 - t8:Int).toNat+1) (t3,t8)) none (K44_0 t6 t7 k) else none
 | _=>none
noncomputable def c44:Cfg:=cfg Tryd.prog [(44,0,[3,6,7,8]),(44,999,[2]),(44,1000,[3]),(44,1001,[3,6,7,8])] [] [] [] [(44,0,l44_0)]
theorem s44_0 (t6:List AV) (t7:Int) (ce:CallE) (k:Kont) (s:Int × Int) (next:St→Option AV):stepA (codeA c44 ce [] 44 0 (sub [1,1,0,1,0,0] (body Tryd.f44))) (normA [] [3,6,7,8]) next ((E44_0 t6 t7) s) k=G44_0 t6 t7 s.1 s.2 (fun s=>next ((E44_0 t6 t7) s)) (K44_0 t6 t7 k) none:=by kernel_rfl
theorem st44_0 (t6:List AV) (t7:Int) (ce:CallE) (k:Kont) (s:(Int × Int)) (next:St→Option AV):stepA (codeA c44 ce [] 44 0 (sub [1,1,0,1,0,0] (body Tryd.f44))) (normA [] [3,6,7,8]) next ((E44_0 t6 t7) s) k=(R44_0 t6 t7 s).el none (fun s=>next ((E44_0 t6 t7) s)) (K44_0 t6 t7 k):=(s44_0 t6 t7 ce k s next).trans (by unfold R44_0;unfold F44_0 G44_0;simp only [el_cond,el_ro,el_sum,el_fail,el_next,el_stop] <;> rfl)
theorem ok44_0 {ce:CallE}:LoopOK c44 ce [] 44 0 (sub [1,1,0,1,0,0] (body Tryd.f44)):=by
 intro m hm st k r h
 obtain rfl:l44_0=m:=Option.some.inj hm
 unfold l44_0 at h
 split at h
 ·rename_i t3 g0 t6 t7 t8
  obtain ⟨hg,h⟩:=bif_some h
  have q0:=hg
  obtain rfl:=cE q0
  refine ⟨((t7 - t8:Int).toNat+1),?_⟩
  rw [← h]
  exact loop_run (E44_0 t6 t7) (K44_0 t6 t7 k) (st44_0 t6 t7 ce k) _ (t3,t8)
 ·cases h
def q44 (a0:List AV):Bool:=(ro (runW (R44_0 a0 (a0.length:Int)) (((a0.length:Int) - 0:Int).toNat+1) (0,0)) false (fun p50=>true))
def v44_0 (a0:List AV):Int:=(ro (runW (R44_0 a0 (a0.length:Int)) (((a0.length:Int) - 0:Int).toNat+1) (0,0)) 0 (fun p50=>p50))
theorem e44 (a0:List AV):funA c44 0 44 [AV.sl [.int .i64] a0]=(ro (runW (R44_0 a0 (a0.length:Int)) (((a0.length:Int) - 0:Int).toNat+1) (0,0)) none (fun p50=>some (Ai p50))):=by kernel_rfl
def m44:TModel
 | [.sl g0 a0]=>bif ctsEq g0 ([.int .i64]) then some (q44 a0,AV.int .i64 (v44_0 a0)) else none
 | _=>none
theorem k44:Known Tryd.prog 44:=⟨Tryd.f44,Tryd.func44,by kernel_rfl,by kernel_rfl⟩
theorem meets44:Meets Tryd.prog 44 m44:=by
 refine mt (lvl:=0) (cf:=c44) rfl mixed k44 Tryd.func44 (by kernel_rfl) (loops_cons ok44_0 noLoop) allT_nil allM_nil noI fun xs r h=>?_
 unfold m44 at h
 split at h
 ·rename_i g0 a0
  obtain ⟨hg,h⟩:=bif_pair h
  have q0:=hg
  obtain rfl:=cE q0
  obtain ⟨h1,rfl⟩:=pair_inj h
  exact (e44 a0).trans ((brO (fun o:Option (Int)=>some (Ai (ro o 0 (fun p50=>p50)))) (fun p50=>(fun _=>rfl))) h1)
 ·cases h
def G45_0 {β:Type} (t0:List AV) (t3:Int) (t4:Int) (N:((Int × Int))→β) (K:(Int)→β) (d:β):β:=(bif decide (t4<(t0.length:Int)) then (bif (decide (0≤t4) && decide (t4<(t0.length:Int))) then N ((if fI (t0.getD t4.toNat .undef) 0<t3 then fI (t0.getD t4.toNat .undef) 0 else t3),IntKind.i64.wrap (t4+1))
 else d)
 else K t3)
def F45_0 (t0:List AV) (t3 t4:Int):Out ((Int × Int)) (Int):=G45_0 t0 t3 t4 .next .stop .fail
def R45_0 (t0:List AV):((Int × Int))→Out ((Int × Int)) (Int):=fun s:Int × Int=>F45_0 t0 s.1 s.2
def E45_0 (t0:List AV):((Int × Int))→St:=fun s:Int × Int=>⟨[(0,AV.sl [.int .i64] t0),(3,Ai s.1),(4,Ai s.2)],[]⟩
def K45_0 (t0:List AV) (k:Kont):(Int)→Option AV:=fun p:Int=>k (.exit 0) ⟨[(3,Ai p)],[]⟩
def l45_0:LModel:=fun _ _ st k=>match st with
 | ⟨[(0,.sl g0 t0),(3,.int .i64 t3),(4,.int .i64 t4)],[]⟩=>bif ctsEq g0 ([.int .i64]) then ro (runW (R45_0 t0) (((t0.length:Int) - t4:Int).toNat+1) (t3,t4)) none (K45_0 t0 k) else none
 | _=>none
noncomputable def c45:Cfg:=cfg Tryd.prog [(45,0,[0,3,4]),(45,999,[2]),(45,1000,[3]),(45,1001,[0,3,4])] [] [] [] [(45,0,l45_0)]
theorem s45_0 (t0:List AV) (ce:CallE) (k:Kont) (s:Int × Int) (next:St→Option AV):stepA (codeA c45 ce [] 45 0 (sub [1,1,1,0,1,0,0] (body Tryd.f45))) (normA [] [0,3,4]) next ((E45_0 t0) s) k=G45_0 t0 s.1 s.2 (fun s=>next ((E45_0 t0) s)) (K45_0 t0 k) none:=by kernel_rfl
theorem st45_0 (t0:List AV) (ce:CallE) (k:Kont) (s:(Int × Int)) (next:St→Option AV):stepA (codeA c45 ce [] 45 0 (sub [1,1,1,0,1,0,0] (body Tryd.f45))) (normA [] [0,3,4]) next ((E45_0 t0) s) k=(R45_0 t0 s).el none (fun s=>next ((E45_0 t0) s)) (K45_0 t0 k):=(s45_0 t0 ce k s next).trans (by unfold R45_0;unfold F45_0 G45_0;simp only [el_cond,el_ro,el_sum,el_fail,el_next,el_stop] <;> rfl)
theorem ok45_0 {ce:CallE}:LoopOK c45 ce [] 45 0 (sub [1,1,1,0,1,0,0] (body Tryd.f45)):=by
 intro m hm st k r h
 obtain rfl:l45_0=m:=Option.some.inj hm
 unfold l45_0 at h
 split at h
 ·rename_i g0 t0 t3 t4
  obtain ⟨hg,h⟩:=bif_some h
  have q0:=hg
  obtain rfl:=cE q0
  refine ⟨(((t0.length:Int) - t4:Int).toNat+1),?_⟩
  rw [← h]
  exact loop_run (E45_0 t0) (K45_0 t0 k) (st45_0 t0 ce k) _ (t3,t4)
 ·cases h
def q45 (a0:List AV):Bool:=(!(decide ((a0.length:Int)<1)) && ((decide (0≤0) && decide (0<(a0.length:Int))) && (ro (runW (R45_0 a0) (((a0.length:Int) - 1:Int).toNat+1) (fI (a0.getD (0:Int).toNat .undef) 0,1)) false (fun p51=>true))))
def v45_0 (a0:List AV):Int:=(ro (runW (R45_0 a0) (((a0.length:Int) - 1:Int).toNat+1) (fI (a0.getD (0:Int).toNat .undef) 0,1)) 0 (fun p51=>p51))
theorem e45 (a0:List AV):funA c45 0 45 [AV.sl [.int .i64] a0]=(bif decide ((a0.length:Int)<1) then none
 else (bif (decide (0≤0) && decide (0<(a0.length:Int))) then (ro (runW (R45_0 a0) (((a0.length:Int) - 1:Int).toNat+1) (fI (a0.getD (0:Int).toNat .undef) 0,1)) none (fun p51=>some (Ai p51)))
 else none)):=by kernel_rfl
def m45:TModel
 | [.sl g0 a0]=>bif ctsEq g0 ([.int .i64]) then some (q45 a0,AV.int .i64 (v45_0 a0)) else none
 | _=>none
theorem k45:Known Tryd.prog 45:=⟨Tryd.f45,Tryd.func45,by kernel_rfl,by kernel_rfl⟩
theorem meets45:Meets Tryd.prog 45 m45:=by
 refine mt (lvl:=0) (cf:=c45) rfl mixed k45 Tryd.func45 (by kernel_rfl) (loops_cons ok45_0 noLoop) allT_nil allM_nil noI fun xs r h=>?_
 unfold m45 at h
 split at h
 ·rename_i g0 a0
  obtain ⟨hg,h⟩:=bif_pair h
  have q0:=hg
  obtain rfl:=cE q0
  obtain ⟨h1,rfl⟩:=pair_inj h
  exact (e45 a0).trans ((brR (brL (brO (fun o:Option (Int)=>some (Ai (ro o 0 (fun p51=>p51)))) (fun p51=>(fun _=>rfl))))) h1)
 ·cases h
def G46_0 {β:Type} (t0:List AV) (t3:Int) (t4:Int) (N:((Int × Int))→β) (K:(Int)→β) (d:β):β:=(bif decide (t4<(t0.length:Int)) then (bif (decide (0≤t4) && decide (t4<(t0.length:Int))) then N ((if fI (t0.getD t4.toNat .undef) 0 > t3 then fI (t0.getD t4.toNat .undef) 0 else t3),IntKind.i64.wrap (t4+1))
 else d)
 else K t3)
def F46_0 (t0:List AV) (t3 t4:Int):Out ((Int × Int)) (Int):=G46_0 t0 t3 t4 .next .stop .fail
def R46_0 (t0:List AV):((Int × Int))→Out ((Int × Int)) (Int):=fun s:Int × Int=>F46_0 t0 s.1 s.2
def E46_0 (t0:List AV):((Int × Int))→St:=fun s:Int × Int=>⟨[(0,AV.sl [.int .i64] t0),(3,Ai s.1),(4,Ai s.2)],[]⟩
def K46_0 (t0:List AV) (k:Kont):(Int)→Option AV:=fun p:Int=>k (.exit 0) ⟨[(3,Ai p)],[]⟩
def l46_0:LModel:=fun _ _ st k=>match st with
 | ⟨[(0,.sl g0 t0),(3,.int .i64 t3),(4,.int .i64 t4)],[]⟩=>bif ctsEq g0 ([.int .i64]) then ro (runW (R46_0 t0) (((t0.length:Int) - t4:Int).toNat+1) (t3,t4)) none (K46_0 t0 k) else none
 | _=>none
noncomputable def c46:Cfg:=cfg Tryd.prog [(46,0,[0,3,4]),(46,999,[2]),(46,1000,[3]),(46,1001,[0,3,4])] [] [] [] [(46,0,l46_0)]
theorem s46_0 (t0:List AV) (ce:CallE) (k:Kont) (s:Int × Int) (next:St→Option AV):stepA (codeA c46 ce [] 46 0 (sub [1,1,1,0,1,0,0] (body Tryd.f46))) (normA [] [0,3,4]) next ((E46_0 t0) s) k=G46_0 t0 s.1 s.2 (fun s=>next ((E46_0 t0) s)) (K46_0 t0 k) none:=by kernel_rfl
theorem st46_0 (t0:List AV) (ce:CallE) (k:Kont) (s:(Int × Int)) (next:St→Option AV):stepA (codeA c46 ce [] 46 0 (sub [1,1,1,0,1,0,0] (body Tryd.f46))) (normA [] [0,3,4]) next ((E46_0 t0) s) k=(R46_0 t0 s).el none (fun s=>next ((E46_0 t0) s)) (K46_0 t0 k):=(s46_0 t0 ce k s next).trans (by unfold R46_0;unfold F46_0 G46_0;simp only [el_cond,el_ro,el_sum,el_fail,el_next,el_stop] <;> rfl)
theorem ok46_0 {ce:CallE}:LoopOK c46 ce [] 46 0 (sub [1,1,1,0,1,0,0] (body Tryd.f46)):=by
 intro m hm st k r h
 obtain rfl:l46_0=m:=Option.some.inj hm
 unfold l46_0 at h
 split at h
 ·rename_i g0 t0 t3 t4
  obtain ⟨hg,h⟩:=bif_some h
  have q0:=hg
  obtain rfl:=cE q0
  refine ⟨(((t0.length:Int) - t4:Int).toNat+1),?_⟩
  rw [← h]
  exact loop_run (E46_0 t0) (K46_0 t0 k) (st46_0 t0 ce k) _ (t3,t4)
 ·cases h
def q46 (a0:List AV):Bool:=(!(decide ((a0.length:Int)<1)) && ((decide (0≤0) && decide (0<(a0.length:Int))) && (ro (runW (R46_0 a0) (((a0.length:Int) - 1:Int).toNat+1) (fI (a0.getD (0:Int).toNat .undef) 0,1)) false (fun p52=>true))))
def v46_0 (a0:List AV):Int:=(ro (runW (R46_0 a0) (((a0.length:Int) - 1:Int).toNat+1) (fI (a0.getD (0:Int).toNat .undef) 0,1)) 0 (fun p52=>p52))
theorem e46 (a0:List AV):funA c46 0 46 [AV.sl [.int .i64] a0]=(bif decide ((a0.length:Int)<1) then none
 else (bif (decide (0≤0) && decide (0<(a0.length:Int))) then (ro (runW (R46_0 a0) (((a0.length:Int) - 1:Int).toNat+1) (fI (a0.getD (0:Int).toNat .undef) 0,1)) none (fun p52=>some (Ai p52)))
 else none)):=by kernel_rfl
def m46:TModel
 | [.sl g0 a0]=>bif ctsEq g0 ([.int .i64]) then some (q46 a0,AV.int .i64 (v46_0 a0)) else none
 | _=>none
theorem k46:Known Tryd.prog 46:=⟨Tryd.f46,Tryd.func46,by kernel_rfl,by kernel_rfl⟩
theorem meets46:Meets Tryd.prog 46 m46:=by
 refine mt (lvl:=0) (cf:=c46) rfl mixed k46 Tryd.func46 (by kernel_rfl) (loops_cons ok46_0 noLoop) allT_nil allM_nil noI fun xs r h=>?_
 unfold m46 at h
 split at h
 ·rename_i g0 a0
  obtain ⟨hg,h⟩:=bif_pair h
  have q0:=hg
  obtain rfl:=cE q0
  obtain ⟨h1,rfl⟩:=pair_inj h
  exact (e46 a0).trans ((brR (brL (brO (fun o:Option (Int)=>some (Ai (ro o 0 (fun p52=>p52)))) (fun p52=>(fun _=>rfl))))) h1)
 ·cases h
noncomputable def c17:Cfg:=cfg Tryd.prog [(17,999,[2])] [(33,m33),(44,m44),(45,m45),(46,m46)] [] [] []
def q17 (a0:List AV):Bool:=(bif decide ((a0.length:Int)=0) then true else (q33 a0 && (bif !(v33_0 a0) then true else (q44 a0 && (q45 a0 && q46 a0)))))
def v17_0 (a0:List AV):Int:=(bif decide ((a0.length:Int)=0) then 0 else (bif !(v33_0 a0) then 0 else (a0.length:Int)))
def v17_1 (a0:List AV):Int:=(bif decide ((a0.length:Int)=0) then 0 else (bif !(v33_0 a0) then 0 else (v44_0 a0)))
def v17_2 (a0:List AV):Int:=(bif decide ((a0.length:Int)=0) then 0 else (bif !(v33_0 a0) then 0 else (v45_0 a0)))
def v17_3 (a0:List AV):Int:=(bif decide ((a0.length:Int)=0) then 0 else (bif !(v33_0 a0) then 0 else (v46_0 a0)))
theorem e17 (a0:List AV):funA c17 0 17 [AV.sl [.int .i64] a0]=(bif decide ((a0.length:Int)=0) then some (AV.agg [Ai 0,Ai 0,Ai 0,Ai 0])
 else (bif q33 a0 then (bif !(v33_0 a0) then some (AV.agg [Ai 0,Ai 0,Ai 0,Ai 0])
 else (bif q44 a0 then (bif q45 a0 then (bif q46 a0 then some (AV.agg [Ai (a0.length:Int),Ai (v44_0 a0),Ai (v45_0 a0),Ai (v46_0 a0)])
 else none)
 else none)
 else none))
 else none)):=by kernel_rfl
def m17:TModel
 | [.sl g0 a0]=>bif ctsEq g0 ([.int .i64]) then some (q17 a0,AV.agg [AV.int .i64 (v17_0 a0),AV.int .i64 (v17_1 a0),AV.int .i64 (v17_2 a0),AV.int .i64 (v17_3 a0)]) else none
 | _=>none
theorem k17:Known Tryd.prog 17:=⟨Tryd.f17,Tryd.func17,by kernel_rfl,by kernel_rfl⟩
theorem meets17:Meets Tryd.prog 17 m17:=by
 refine mt (lvl:=0) (cf:=c17) rfl mixed k17 Tryd.func17 (by kernel_rfl) noLoop (allT_cons meets33 (allT_cons meets44 (allT_cons meets45 (allT_cons meets46 allT_nil)))) allM_nil noI fun xs r h=>?_
 unfold m17 at h
 split at h
 ·rename_i g0 a0
  obtain ⟨hg,h⟩:=bif_pair h
  have q0:=hg
  obtain rfl:=cE q0
  obtain ⟨h1,rfl⟩:=pair_inj h
  exact (e17 a0).trans ((br (fun b=>some (AV.agg [Ai (bif b then 0 else (bif !(v33_0 a0) then 0 else (a0.length:Int))),Ai (bif b then 0 else (bif !(v33_0 a0) then 0 else (v44_0 a0))),Ai (bif b then 0 else (bif !(v33_0 a0) then 0 else (v45_0 a0))),Ai (bif b then 0 else (bif !(v33_0 a0) then 0 else (v46_0 a0)))])) (fun _=>rfl) (brL (br (fun b=>some (AV.agg [Ai (bif b then 0 else (a0.length:Int)),Ai (bif b then 0 else (v44_0 a0)),Ai (bif b then 0 else (v45_0 a0)),Ai (bif b then 0 else (v46_0 a0))])) (fun _=>rfl) (brL (brL (brL1 (fun _=>rfl))))))) h1)
 ·cases h
def G15_0 {β:Type} (t12:Int) (h0_0:List AV) (h0_1:List AV) (h0_2:List AV) (h2:List AV) (t13:Int) (h1:List AV) (N:((Int × (List AV)))→β) (K:(((List AV)))→β) (d:β):β:=by
 refine (?f0:Int→Int→Int→Int→β) (v17_0 ((h0_0.take (Int.toNat (fI (h2.getD t13.toNat .undef) 1))).drop (Int.toNat (fI (h2.getD t13.toNat .undef) 0)))) (v17_1 ((h0_0.take (Int.toNat (fI (h2.getD t13.toNat .undef) 1))).drop (Int.toNat (fI (h2.getD t13.toNat .undef) 0)))) (v17_2 ((h0_0.take (Int.toNat (fI (h2.getD t13.toNat .undef) 1))).drop (Int.toNat (fI (h2.getD t13.toNat .undef) 0)))) (v17_3 ((h0_0.take (Int.toNat (fI (h2.getD t13.toNat .undef) 1))).drop (Int.toNat (fI (h2.getD t13.toNat .undef) 0))));intro x1 x2 x3 x4
 exact (bif decide (t13<t12) then (bif (decide (0≤t13) && decide (t13<(h2.length:Int))) then (bif (decide (0≤fI (h2.getD t13.toNat .undef) 0) && decide (fI (h2.getD t13.toNat .undef) 0≤fI (h2.getD t13.toNat .undef) 1) && decide (fI (h2.getD t13.toNat .undef) 1≤(h0_0.length:Int))) then (bif q17 ((h0_0.take (Int.toNat (fI (h2.getD t13.toNat .undef) 1))).drop (Int.toNat (fI (h2.getD t13.toNat .undef) 0))) then (bif (decide ((h1.length+([AV.agg [AV.int .i64 x1,AV.int .i64 x2,AV.int .i64 x3,AV.int .i64 x4]]).length)*32≤140737488355328) && decide ((h1.length+([AV.agg [AV.int .i64 x1,AV.int .i64 x2,AV.int .i64 x3,AV.int .i64 x4]]).length)≤140737488355328)) then N (IntKind.i64.wrap (t13+1),h1++([AV.agg [AV.int .i64 x1,AV.int .i64 x2,AV.int .i64 x3,AV.int .i64 x4]]))
 else d)
 else d)
 else d)
 else d)
 else K h1)
def F15_0 (t12:Int) (h0_0 h0_1 h0_2 h2:List AV) (t13:Int) (h1:List AV):Out ((Int × (List AV))) (((List AV))):=G15_0 t12 h0_0 h0_1 h0_2 h2 t13 h1 .next .stop .fail
def R15_0 (t12:Int) (h0_0 h0_1 h0_2 h2:List AV):((Int × (List AV)))→Out ((Int × (List AV))) (((List AV))):=fun s:Int × (List AV)=>F15_0 t12 h0_0 h0_1 h0_2 h2 s.1 s.2
def E15_0 (t12:Int) (h0_0 h0_1 h0_2 h2:List AV):((Int × (List AV)))→St:=fun s:Int × (List AV)=>⟨[(1,AV.ptr [0,1] 0 0),(3,AV.own [0,3]),(11,AV.own [0,11]),(12,Ai t12),(13,Ai s.1)],[([0,1],⟨true,[],[AV.agg [AV.sl [.int .i64] h0_0,AV.sl [.int .i64] h0_1,AV.sl [.int .i64,.int .i64] h0_2]]⟩),([0,3],⟨false,[.int .i64,.int .i64,.int .i64,.int .i64],s.2⟩),([0,11],⟨false,[.int .i64,.int .i64],h2⟩)]⟩
def K15_0 (t12:Int) (h0_0 h0_1 h0_2 h2:List AV) (k:Kont):(((List AV)))→Option AV:=fun p:(List AV)=>k (.exit 0) ⟨[(3,AV.own [0,3])],[([0,1],⟨true,[],[AV.agg [AV.sl [.int .i64] h0_0,AV.sl [.int .i64] h0_1,AV.sl [.int .i64,.int .i64] h0_2]]⟩),([0,3],⟨false,[.int .i64,.int .i64,.int .i64,.int .i64],p⟩),([0,11],⟨false,[.int .i64,.int .i64],h2⟩)]⟩
def l15_0:LModel:=fun _ _ st k=>match st with
 | ⟨[(1,.ptr g0 g1 g2),(3,.own g3),(11,.own g4),(12,.int .i64 t12),(13,.int .i64 t13)],[(g5,⟨true,[],[.agg [.sl g6 h0_0,.sl g7 h0_1,.sl g8 h0_2]]⟩),(g9,⟨false,g10,h1⟩),(g11,⟨false,g12,h2⟩)]⟩=>bif nmEq g0 ([0,1]) && Nat.beq g1 0 && Nat.beq g2 0 && nmEq g3 ([0,3]) && nmEq g4 ([0,11]) && nmEq g5 ([0,1]) && ctsEq g6 ([.int .i64]) && ctsEq g7 ([.int .i64]) && ctsEq g8 ([.int .i64,.int .i64]) && nmEq g9 ([0,3]) && ctsEq g10 ([.int .i64,.int .i64,.int .i64,.int .i64]) && nmEq g11 ([0,11]) && ctsEq g12 ([.int .i64,.int .i64]) then ro (runW (R15_0 t12 h0_0 h0_1 h0_2 h2) ((t12 - t13:Int).toNat+1) (t13,h1)) none (K15_0 t12 h0_0 h0_1 h0_2 h2 k) else none
 | _=>none
noncomputable def c15:Cfg:=cfg Tryd.prog [(15,0,[1,3,11,12,13]),(15,999,[2]),(15,1000,[3]),(15,1001,[1,3,11,12,13])] [(11,m11),(17,m17),(31,m31)] [] [] [(15,0,l15_0)]
theorem s15_0 (t12:Int) (h0_0 h0_1 h0_2 h2:List AV) (ce:CallE) (k:Kont) (s:Int × (List AV)) (next:St→Option AV):stepA (codeA c15 ce [] 15 0 (sub [1,1,1,0,1,0,0] (body Tryd.f15))) (normA [] [1,3,11,12,13]) next ((E15_0 t12 h0_0 h0_1 h0_2 h2) s) k=G15_0 t12 h0_0 h0_1 h0_2 h2 s.1 s.2 (fun s=>next ((E15_0 t12 h0_0 h0_1 h0_2 h2) s)) (K15_0 t12 h0_0 h0_1 h0_2 h2 k) none:=by kernel_rfl
theorem st15_0 (t12:Int) (h0_0 h0_1 h0_2 h2:List AV) (ce:CallE) (k:Kont) (s:(Int × (List AV))) (next:St→Option AV):stepA (codeA c15 ce [] 15 0 (sub [1,1,1,0,1,0,0] (body Tryd.f15))) (normA [] [1,3,11,12,13]) next ((E15_0 t12 h0_0 h0_1 h0_2 h2) s) k=(R15_0 t12 h0_0 h0_1 h0_2 h2 s).el none (fun s=>next ((E15_0 t12 h0_0 h0_1 h0_2 h2) s)) (K15_0 t12 h0_0 h0_1 h0_2 h2 k):=(s15_0 t12 h0_0 h0_1 h0_2 h2 ce k s next).trans (by unfold R15_0;unfold F15_0 G15_0;simp only [el_cond,el_ro,el_sum,el_fail,el_next,el_stop] <;> rfl)
theorem ok15_0 {ce:CallE}:LoopOK c15 ce [] 15 0 (sub [1,1,1,0,1,0,0] (body Tryd.f15)):=by
 intro m hm st k r h
 obtain rfl:l15_0=m:=Option.some.inj hm
 unfold l15_0 at h
 split at h
 ·rename_i g0 g1 g2 g3 g4 t12 t13 g5 g6 h0_0 g7 h0_1 g8 h0_2 g9 g10 h1 g11 g12 h2
  obtain ⟨hg,h⟩:=bif_some h
  simp only [Bool.and_eq_true] at hg
  obtain ⟨⟨⟨⟨⟨⟨⟨⟨⟨⟨⟨⟨q0,q1⟩,q2⟩,q3⟩,q4⟩,q5⟩,q6⟩,q7⟩,q8⟩,q9⟩,q10⟩,q11⟩,q12⟩:=hg
  obtain rfl:=nE q0
  obtain rfl:=bE q1
  obtain rfl:=bE q2
  obtain rfl:=nE q3
  obtain rfl:=nE q4
  obtain rfl:=nE q5
  obtain rfl:=cE q6
  obtain rfl:=cE q7
  obtain rfl:=cE q8
  obtain rfl:=nE q9
  obtain rfl:=cE q10
  obtain rfl:=nE q11
  obtain rfl:=cE q12
  refine ⟨((t12 - t13:Int).toNat+1),?_⟩
  rw [← h]
  exact loop_run (E15_0 t12 h0_0 h0_1 h0_2 h2) (K15_0 t12 h0_0 h0_1 h0_2 h2 k) (st15_0 t12 h0_0 h0_1 h0_2 h2 ce k) _ (t13,h1)
 ·cases h
def q15 (xa xb xc:List AV):Bool:=(q11 xa xb xc && (bif !(v11_0 xa xb xc) then true else (q31 xa xb xc && (ro (runW (R15_0 ((v31_0 xa xb xc).length:Int) xa xb xc (v31_0 xa xb xc)) ((((v31_0 xa xb xc).length:Int) - 0:Int).toNat+1) (0,([]:List AV))) false (fun p53=>true)))))
def v15_0 (xa xb xc:List AV):List AV:=(bif !(v11_0 xa xb xc) then ([]:List AV) else (ro (runW (R15_0 ((v31_0 xa xb xc).length:Int) xa xb xc (v31_0 xa xb xc)) ((((v31_0 xa xb xc).length:Int) - 0:Int).toNat+1) (0,([]:List AV))) [] (fun p53=>p53)))
theorem e15 (xa xb xc:List AV):funA c15 0 15 [AV.agg [AV.sl [.int .i64] xa,AV.sl [.int .i64] xb,AV.sl [.int .i64,.int .i64] xc]]=(bif q11 xa xb xc then (bif !(v11_0 xa xb xc) then some (AV.fl [.int .i64,.int .i64,.int .i64,.int .i64] ([]:List AV))
 else (bif q31 xa xb xc then (ro (runW (R15_0 ((v31_0 xa xb xc).length:Int) xa xb xc (v31_0 xa xb xc)) ((((v31_0 xa xb xc).length:Int) - 0:Int).toNat+1) (0,([]:List AV))) none (fun p53=>some (AV.fl [.int .i64,.int .i64,.int .i64,.int .i64] p53)))
 else none))
 else none):=by kernel_rfl
def m15:TModel
 | [.agg [.sl g0 xa,.sl g1 xb,.sl g2 xc]]=>bif ctsEq g0 ([.int .i64]) && ctsEq g1 ([.int .i64]) && ctsEq g2 ([.int .i64,.int .i64]) then some (q15 xa xb xc,AV.fl [.int .i64,.int .i64,.int .i64,.int .i64] (v15_0 xa xb xc)) else none
 | _=>none
theorem k15:Known Tryd.prog 15:=⟨Tryd.f15,Tryd.func15,by kernel_rfl,by kernel_rfl⟩
theorem meets15:Meets Tryd.prog 15 m15:=by
 refine mt (lvl:=0) (cf:=c15) rfl mixed k15 Tryd.func15 (by kernel_rfl) (loops_cons ok15_0 noLoop) (allT_cons meets11 (allT_cons meets17 (allT_cons meets31 allT_nil))) allM_nil noI fun xs r h=>?_
 unfold m15 at h
 split at h
 ·rename_i g0 xa g1 xb g2 xc
  obtain ⟨hg,h⟩:=bif_pair h
  simp only [Bool.and_eq_true] at hg
  obtain ⟨⟨q0,q1⟩,q2⟩:=hg
  obtain rfl:=cE q0
  obtain rfl:=cE q1
  obtain rfl:=cE q2
  obtain ⟨h1,rfl⟩:=pair_inj h
  exact (e15 xa xb xc).trans ((brL (br (fun b=>some (AV.fl [.int .i64,.int .i64,.int .i64,.int .i64] (bif b then ([]:List AV) else (ro (runW (R15_0 ((v31_0 xa xb xc).length:Int) xa xb xc (v31_0 xa xb xc)) ((((v31_0 xa xb xc).length:Int) - 0:Int).toNat+1) (0,([]:List AV))) [] (fun p53=>p53))))) (fun _=>rfl) (brL (brO (fun o:Option (((List AV)))=>some (AV.fl [.int .i64,.int .i64,.int .i64,.int .i64] (ro o [] (fun p53=>p53)))) (fun p53=>(fun _=>rfl)))))) h1)
 ·cases h
noncomputable def c16:Cfg:=cfg Tryd.prog [(16,999,[4]),(16,1000,[2,3,4])] [] [] [] []
def q16 (xa xb xc xd ya yb yc yd:Int):Bool:=true
def v16_0 (xa xb xc xd ya yb yc yd:Int):Int:=(bif decide (xa≤0) then ya else (bif decide (ya≤0) then xa else IntKind.i64.wrap (xa+ya)))
def v16_1 (xa xb xc xd ya yb yc yd:Int):Int:=(bif decide (xa≤0) then yb else (bif decide (ya≤0) then xb else IntKind.i64.wrap (xb+yb)))
def v16_2 (xa xb xc xd ya yb yc yd:Int):Int:=(bif decide (xa≤0) then yc else (bif decide (ya≤0) then xc else (if yc<xc then yc else xc)))
def v16_3 (xa xb xc xd ya yb yc yd:Int):Int:=(bif decide (xa≤0) then yd else (bif decide (ya≤0) then xd else (if yd > xd then yd else xd)))
theorem e16 (xa xb xc xd ya yb yc yd:Int):funA c16 0 16 [AV.agg [Ai xa,Ai xb,Ai xc,Ai xd],AV.agg [Ai ya,Ai yb,Ai yc,Ai yd]]=(bif decide (xa≤0) then some (AV.agg [Ai ya,Ai yb,Ai yc,Ai yd])
 else (bif decide (ya≤0) then some (AV.agg [Ai xa,Ai xb,Ai xc,Ai xd])
 else some (AV.agg [Ai (IntKind.i64.wrap (xa+ya)),Ai (IntKind.i64.wrap (xb+yb)),Ai (if yc<xc then yc else xc),Ai (if yd > xd then yd else xd)]))):=by kernel_rfl
def m16:TModel
 | [.agg [.int .i64 xa,.int .i64 xb,.int .i64 xc,.int .i64 xd],.agg [.int .i64 ya,.int .i64 yb,.int .i64 yc,.int .i64 yd]]=>some (true,AV.agg [AV.int .i64 (v16_0 xa xb xc xd ya yb yc yd),AV.int .i64 (v16_1 xa xb xc xd ya yb yc yd),AV.int .i64 (v16_2 xa xb xc xd ya yb yc yd),AV.int .i64 (v16_3 xa xb xc xd ya yb yc yd)])
 | _=>none
theorem k16:Known Tryd.prog 16:=⟨Tryd.f16,Tryd.func16,by kernel_rfl,by kernel_rfl⟩
theorem meets16:Meets Tryd.prog 16 m16:=by
 refine mt (lvl:=0) (cf:=c16) rfl mixed k16 Tryd.func16 (by kernel_rfl) noLoop allT_nil allM_nil noI fun xs r h=>?_
 unfold m16 at h
 split at h
 ·rename_i xa xb xc xd ya yb yc yd
  obtain ⟨h1,rfl⟩:=pair_inj h
  exact (e16 xa xb xc xd ya yb yc yd).trans (of_tt (brT (fun b=>some (AV.agg [Ai (bif b then ya else (bif decide (ya≤0) then xa else IntKind.i64.wrap (xa+ya))),Ai (bif b then yb else (bif decide (ya≤0) then xb else IntKind.i64.wrap (xb+yb))),Ai (bif b then yc else (bif decide (ya≤0) then xc else (if yc<xc then yc else xc))),Ai (bif b then yd else (bif decide (ya≤0) then xd else (if yd > xd then yd else xd)))])) (fun _=>rfl) (brT (fun b=>some (AV.agg [Ai (bif b then xa else IntKind.i64.wrap (xa+ya)),Ai (bif b then xb else IntKind.i64.wrap (xb+yb)),Ai (bif b then xc else (if yc<xc then yc else xc)),Ai (bif b then xd else (if yd > xd then yd else xd))])) (fun _=>rfl) (fun _=>rfl))))
 ·cases h
noncomputable def c47:Cfg:=cfg Tryd.prog [(47,999,[2])] [(41,m41)] [] [] []
def q47 (xa xb xc xd:Int):Bool:=(bif decide (xa≤0) then true else (q41 xa && (decide ((v41_0 xa).size+(ByteArray.mk #[32,115,117,109,32]).size≤4611686018427387904) && (q41 xb && (decide (((v41_0 xa)++(ByteArray.mk #[32,115,117,109,32])).size+(v41_0 xb).size≤4611686018427387904) && (decide ((((v41_0 xa)++(ByteArray.mk #[32,115,117,109,32]))++(v41_0 xb)).size+(ByteArray.mk #[32,102,114,111,109,32]).size≤4611686018427387904) && (q41 xc && (decide (((((v41_0 xa)++(ByteArray.mk #[32,115,117,109,32]))++(v41_0 xb))++(ByteArray.mk #[32,102,114,111,109,32])).size+(v41_0 xc).size≤4611686018427387904) && (decide ((((((v41_0 xa)++(ByteArray.mk #[32,115,117,109,32]))++(v41_0 xb))++(ByteArray.mk #[32,102,114,111,109,32]))++(v41_0 xc)).size+(ByteArray.mk #[32,116,111,32]).size≤4611686018427387904) && (q41 xd && decide (((((((v41_0 xa)++(ByteArray.mk #[32,115,117,109,32]))++(v41_0 xb))++(ByteArray.mk #[32,102,114,111,109,32]))++(v41_0 xc))++(ByteArray.mk #[32,116,111,32])).size+(v41_0 xd).size≤4611686018427387904)))))))))))
def v47_0 (xa xb xc xd:Int):ByteArray:=(bif decide (xa≤0) then (ByteArray.mk #[110,111,110,101]) else ((((((v41_0 xa)++(ByteArray.mk #[32,115,117,109,32]))++(v41_0 xb))++(ByteArray.mk #[32,102,114,111,109,32]))++(v41_0 xc))++(ByteArray.mk #[32,116,111,32]))++(v41_0 xd))
theorem e47 (xa xb xc xd:Int):funA c47 0 47 [AV.agg [Ai xa,Ai xb,Ai xc,Ai xd]]=(bif decide (xa≤0) then some (AV.str (ByteArray.mk #[110,111,110,101]))
 else (bif q41 xa then (bif decide ((v41_0 xa).size+(ByteArray.mk #[32,115,117,109,32]).size≤4611686018427387904) then (bif q41 xb then (bif decide (((v41_0 xa)++(ByteArray.mk #[32,115,117,109,32])).size+(v41_0 xb).size≤4611686018427387904) then (bif decide ((((v41_0 xa)++(ByteArray.mk #[32,115,117,109,32]))++(v41_0 xb)).size+(ByteArray.mk #[32,102,114,111,109,32]).size≤4611686018427387904) then (bif q41 xc then (bif decide (((((v41_0 xa)++(ByteArray.mk #[32,115,117,109,32]))++(v41_0 xb))++(ByteArray.mk #[32,102,114,111,109,32])).size+(v41_0 xc).size≤4611686018427387904) then (bif decide ((((((v41_0 xa)++(ByteArray.mk #[32,115,117,109,32]))++(v41_0 xb))++(ByteArray.mk #[32,102,114,111,109,32]))++(v41_0 xc)).size+(ByteArray.mk #[32,116,111,32]).size≤4611686018427387904) then (bif q41 xd then (bif decide (((((((v41_0 xa)++(ByteArray.mk #[32,115,117,109,32]))++(v41_0 xb))++(ByteArray.mk #[32,102,114,111,109,32]))++(v41_0 xc))++(ByteArray.mk #[32,116,111,32])).size+(v41_0 xd).size≤4611686018427387904) then some (AV.str (((((((v41_0 xa)++(ByteArray.mk #[32,115,117,109,32]))++(v41_0 xb))++(ByteArray.mk #[32,102,114,111,109,32]))++(v41_0 xc))++(ByteArray.mk #[32,116,111,32]))++(v41_0 xd)))
 else none)
 else none)
 else none)
 else none)
 else none)
 else none)
 else none)
 else none)
 else none)
 else none)):=by kernel_rfl
def m47:TModel
 | [.agg [.int .i64 xa,.int .i64 xb,.int .i64 xc,.int .i64 xd]]=>some (q47 xa xb xc xd,AV.str (v47_0 xa xb xc xd))
 | _=>none
theorem k47:Known Tryd.prog 47:=⟨Tryd.f47,Tryd.func47,by kernel_rfl,by kernel_rfl⟩
theorem meets47:Meets Tryd.prog 47 m47:=by
 refine mt (lvl:=0) (cf:=c47) rfl mixed k47 Tryd.func47 (by kernel_rfl) noLoop (allT_cons meets41 allT_nil) allM_nil noI fun xs r h=>?_
 unfold m47 at h
 split at h
 ·rename_i xa xb xc xd
  obtain ⟨h1,rfl⟩:=pair_inj h
  exact (e47 xa xb xc xd).trans ((br (fun b=>some (AV.str (bif b then (ByteArray.mk #[110,111,110,101]) else ((((((v41_0 xa)++(ByteArray.mk #[32,115,117,109,32]))++(v41_0 xb))++(ByteArray.mk #[32,102,114,111,109,32]))++(v41_0 xc))++(ByteArray.mk #[32,116,111,32]))++(v41_0 xd)))) (fun _=>rfl) (brL (brL (brL (brL (brL (brL (brL (brL (brL (brL1 (fun _=>rfl)))))))))))) h1)
 ·cases h
def G72_0 {β:Type} (t2:Int) (h0_0:List AV) (h0_1:List AV) (h0_2:List AV) (t8:Int) (h1:List AV) (N:((Int × (List AV)))→β) (K:(((List AV)))→β) (d:β):β:=(bif decide (t8<t2) then (bif (decide (0≤t8) && decide (t8<(h0_0.length:Int))) then (bif (decide (0≤t8) && decide (t8<(h0_1.length:Int))) then (bif (decide ((h1.length+([AV.agg [AV.int .i64 (fI (h0_0.getD t8.toNat .undef) 0),AV.int .i64 (fI (h0_1.getD t8.toNat .undef) 0)]]).length)*16≤140737488355328) && decide ((h1.length+([AV.agg [AV.int .i64 (fI (h0_0.getD t8.toNat .undef) 0),AV.int .i64 (fI (h0_1.getD t8.toNat .undef) 0)]]).length)≤140737488355328)) then N (IntKind.i64.wrap (t8+1),h1++([AV.agg [AV.int .i64 (fI (h0_0.getD t8.toNat .undef) 0),AV.int .i64 (fI (h0_1.getD t8.toNat .undef) 0)]]))
 else d)
 else d)
 else d)
 else K h1)
def F72_0 (t2:Int) (h0_0 h0_1 h0_2:List AV) (t8:Int) (h1:List AV):Out ((Int × (List AV))) (((List AV))):=G72_0 t2 h0_0 h0_1 h0_2 t8 h1 .next .stop .fail
def R72_0 (t2:Int) (h0_0 h0_1 h0_2:List AV):((Int × (List AV)))→Out ((Int × (List AV))) (((List AV))):=fun s:Int × (List AV)=>F72_0 t2 h0_0 h0_1 h0_2 s.1 s.2
def E72_0 (t2:Int) (h0_0 h0_1 h0_2:List AV):((Int × (List AV)))→St:=fun s:Int × (List AV)=>⟨[(2,Ai t2),(3,AV.ptr [0,3] 0 0),(7,AV.own [0,7]),(8,Ai s.1)],[([0,3],⟨true,[],[AV.agg [AV.sl [.int .i64] h0_0,AV.sl [.int .i64] h0_1,AV.sl [.int .i64,.int .i64] h0_2]]⟩),([0,7],⟨false,[.int .i64,.int .i64],s.2⟩)]⟩
def K72_0 (t2:Int) (h0_0 h0_1 h0_2:List AV) (k:Kont):(((List AV)))→Option AV:=fun p:(List AV)=>k (.exit 0) ⟨[(7,AV.own [0,7])],[([0,3],⟨true,[],[AV.agg [AV.sl [.int .i64] h0_0,AV.sl [.int .i64] h0_1,AV.sl [.int .i64,.int .i64] h0_2]]⟩),([0,7],⟨false,[.int .i64,.int .i64],p⟩)]⟩
def l72_0:LModel:=fun _ _ st k=>match st with
 | ⟨[(2,.int .i64 t2),(3,.ptr g0 g1 g2),(7,.own g3),(8,.int .i64 t8)],[(g4,⟨true,[],[.agg [.sl g5 h0_0,.sl g6 h0_1,.sl g7 h0_2]]⟩),(g8,⟨false,g9,h1⟩)]⟩=>bif nmEq g0 ([0,3]) && Nat.beq g1 0 && Nat.beq g2 0 && nmEq g3 ([0,7]) && nmEq g4 ([0,3]) && ctsEq g5 ([.int .i64]) && ctsEq g6 ([.int .i64]) && ctsEq g7 ([.int .i64,.int .i64]) && nmEq g8 ([0,7]) && ctsEq g9 ([.int .i64,.int .i64]) then ro (runW (R72_0 t2 h0_0 h0_1 h0_2) ((t2 - t8:Int).toNat+1) (t8,h1)) none (K72_0 t2 h0_0 h0_1 h0_2 k) else none
 | _=>none
noncomputable def c72:Cfg:=cfg Tryd.prog [(72,0,[2,3,7,8]),(72,999,[6]),(72,1000,[7]),(72,1001,[2,3,7,8])] [] [] [] [(72,0,l72_0)]
theorem s72_0 (t2:Int) (h0_0 h0_1 h0_2:List AV) (ce:CallE) (k:Kont) (s:Int × (List AV)) (next:St→Option AV):stepA (codeA c72 ce [] 72 0 (sub [1,1,0,1,0,0] (body Tryd.f72))) (normA [] [2,3,7,8]) next ((E72_0 t2 h0_0 h0_1 h0_2) s) k=G72_0 t2 h0_0 h0_1 h0_2 s.1 s.2 (fun s=>next ((E72_0 t2 h0_0 h0_1 h0_2) s)) (K72_0 t2 h0_0 h0_1 h0_2 k) none:=by kernel_rfl
theorem st72_0 (t2:Int) (h0_0 h0_1 h0_2:List AV) (ce:CallE) (k:Kont) (s:(Int × (List AV))) (next:St→Option AV):stepA (codeA c72 ce [] 72 0 (sub [1,1,0,1,0,0] (body Tryd.f72))) (normA [] [2,3,7,8]) next ((E72_0 t2 h0_0 h0_1 h0_2) s) k=(R72_0 t2 h0_0 h0_1 h0_2 s).el none (fun s=>next ((E72_0 t2 h0_0 h0_1 h0_2) s)) (K72_0 t2 h0_0 h0_1 h0_2 k):=(s72_0 t2 h0_0 h0_1 h0_2 ce k s next).trans (by unfold R72_0;unfold F72_0 G72_0;simp only [el_cond,el_ro,el_sum,el_fail,el_next,el_stop] <;> rfl)
theorem ok72_0 {ce:CallE}:LoopOK c72 ce [] 72 0 (sub [1,1,0,1,0,0] (body Tryd.f72)):=by
 intro m hm st k r h
 obtain rfl:l72_0=m:=Option.some.inj hm
 unfold l72_0 at h
 split at h
 ·rename_i t2 g0 g1 g2 g3 t8 g4 g5 h0_0 g6 h0_1 g7 h0_2 g8 g9 h1
  obtain ⟨hg,h⟩:=bif_some h
  simp only [Bool.and_eq_true] at hg
  obtain ⟨⟨⟨⟨⟨⟨⟨⟨⟨q0,q1⟩,q2⟩,q3⟩,q4⟩,q5⟩,q6⟩,q7⟩,q8⟩,q9⟩:=hg
  obtain rfl:=nE q0
  obtain rfl:=bE q1
  obtain rfl:=bE q2
  obtain rfl:=nE q3
  obtain rfl:=nE q4
  obtain rfl:=cE q5
  obtain rfl:=cE q6
  obtain rfl:=cE q7
  obtain rfl:=nE q8
  obtain rfl:=cE q9
  refine ⟨((t2 - t8:Int).toNat+1),?_⟩
  rw [← h]
  exact loop_run (E72_0 t2 h0_0 h0_1 h0_2) (K72_0 t2 h0_0 h0_1 h0_2 k) (st72_0 t2 h0_0 h0_1 h0_2 ce k) _ (t8,h1)
 ·cases h
def q72 (xa xb xc:List AV) (a1 a2:Int):Bool:=(ro (runW (R72_0 a2 xa xb xc) ((a2 - a1:Int).toNat+1) (a1,([]:List AV))) false (fun p55=>true))
def v72_0 (xa xb xc:List AV) (a1 a2:Int):List AV:=(ro (runW (R72_0 a2 xa xb xc) ((a2 - a1:Int).toNat+1) (a1,([]:List AV))) [] (fun p55=>p55))
theorem e72 (xa xb xc:List AV) (a1 a2:Int):funA c72 0 72 [AV.agg [AV.sl [.int .i64] xa,AV.sl [.int .i64] xb,AV.sl [.int .i64,.int .i64] xc],Ai a1,Ai a2]=(ro (runW (R72_0 a2 xa xb xc) ((a2 - a1:Int).toNat+1) (a1,([]:List AV))) none (fun p55=>some (AV.fl [.int .i64,.int .i64] p55))):=by kernel_rfl
def m72:TModel
 | [.agg [.sl g0 xa,.sl g1 xb,.sl g2 xc],.int .i64 a1,.int .i64 a2]=>bif ctsEq g0 ([.int .i64]) && ctsEq g1 ([.int .i64]) && ctsEq g2 ([.int .i64,.int .i64]) then some (q72 xa xb xc a1 a2,AV.fl [.int .i64,.int .i64] (v72_0 xa xb xc a1 a2)) else none
 | _=>none
theorem k72:Known Tryd.prog 72:=⟨Tryd.f72,Tryd.func72,by kernel_rfl,by kernel_rfl⟩
theorem meets72:Meets Tryd.prog 72 m72:=by
 refine mt (lvl:=0) (cf:=c72) rfl mixed k72 Tryd.func72 (by kernel_rfl) (loops_cons ok72_0 noLoop) allT_nil allM_nil noI fun xs r h=>?_
 unfold m72 at h
 split at h
 ·rename_i g0 xa g1 xb g2 xc a1 a2
  obtain ⟨hg,h⟩:=bif_pair h
  simp only [Bool.and_eq_true] at hg
  obtain ⟨⟨q0,q1⟩,q2⟩:=hg
  obtain rfl:=cE q0
  obtain rfl:=cE q1
  obtain rfl:=cE q2
  obtain ⟨h1,rfl⟩:=pair_inj h
  exact (e72 xa xb xc a1 a2).trans ((brO (fun o:Option (((List AV)))=>some (AV.fl [.int .i64,.int .i64] (ro o [] (fun p55=>p55)))) (fun p55=>(fun _=>rfl))) h1)
 ·cases h
noncomputable def c107:Cfg:=cfg Tryd.prog [(107,999,[2])] [] [] [] []
def v107_0 (a0:Int):Bool := !decide (a0=a0)
theorem e107 (a0:Int):funA c107 0 107 [Ai a0]=some (AV.bool (!decide (a0=a0))):=by kernel_rfl
def m107:TModel
 | [.int .i64 a0]=>some (true,AV.bool (v107_0 a0))
 | _=>none
theorem k107:Known Tryd.prog 107:=⟨Tryd.f107,Tryd.func107,by kernel_rfl,by kernel_rfl⟩
theorem meets107:Meets Tryd.prog 107 m107:=by
 refine mt (lvl:=0) (cf:=c107) rfl mixed k107 Tryd.func107 (by kernel_rfl) noLoop allT_nil allM_nil noI fun xs r h=>?_
 unfold m107 at h
 split at h
 ·rename_i a0
  obtain ⟨h1,rfl⟩:=pair_inj h
  exact (e107 a0).trans (of_tt (fun _=>rfl))
 ·cases h
noncomputable def c90:Cfg:=cfg Tryd.prog [(90,999,[4])] [(107,m107)] [] [] []
def v90_0 (a0 a1:Int):Int:=(bif (v107_0 a0) then (bif (v107_0 a1) then 0 else (-1)) else (bif (v107_0 a1) then 1 else (bif decide (a0<a1) then (-1) else (bif decide (a0 > a1) then 1 else 0))))
theorem e90 (a0 a1:Int):funA c90 0 90 [Ai a0,Ai a1]=(bif (v107_0 a0) then (bif (v107_0 a1) then some (Ai 0)
 else some (Ai (-1)))
 else (bif (v107_0 a1) then some (Ai 1)
 else (bif decide (a0<a1) then some (Ai (-1))
 else (bif decide (a0 > a1) then some (Ai 1)
 else some (Ai 0))))):=by kernel_rfl
def m90:TModel
 | [.int .i64 a0,.int .i64 a1]=>some (true,AV.int .i64 (v90_0 a0 a1))
 | _=>none
theorem k90:Known Tryd.prog 90:=⟨Tryd.f90,Tryd.func90,by kernel_rfl,by kernel_rfl⟩
theorem meets90:Meets Tryd.prog 90 m90:=by
 refine mt (lvl:=0) (cf:=c90) rfl mixed k90 Tryd.func90 (by kernel_rfl) noLoop (allT_cons meets107 allT_nil) allM_nil noI fun xs r h=>?_
 unfold m90 at h
 split at h
 ·rename_i a0 a1
  obtain ⟨h1,rfl⟩:=pair_inj h
  exact (e90 a0 a1).trans (of_tt (brT (fun b=>some (Ai (bif b then (bif (v107_0 a1) then 0 else (-1)) else (bif (v107_0 a1) then 1 else (bif decide (a0<a1) then (-1) else (bif decide (a0 > a1) then 1 else 0)))))) (brT (fun b=>some (Ai (bif b then 0 else (-1)))) (fun _=>rfl) (fun _=>rfl)) (brT (fun b=>some (Ai (bif b then 1 else (bif decide (a0<a1) then (-1) else (bif decide (a0 > a1) then 1 else 0))))) (fun _=>rfl) (brT (fun b=>some (Ai (bif b then (-1) else (bif decide (a0 > a1) then 1 else 0)))) (fun _=>rfl) (brT (fun b=>some (Ai (bif b then 1 else 0))) (fun _=>rfl) (fun _=>rfl))))))
 ·cases h
def G89_0 {β:Type} (t3:Int) (t6:List AV) (t7:Int) (t8:Int) (N:(Int)→β) (K:(Unit ⊕ Int)→β) (d:β):β:=(bif decide (t8<t7) then (bif (decide (0≤t8) && decide (t8<(t6.length:Int))) then (bif !decide (fI (t6.getD t8.toNat .undef) 0=t3) then K (.inr (fI (t6.getD t8.toNat .undef) 0))
 else N (IntKind.i64.wrap (t8+1)))
 else d)
 else K (.inl ()))
def F89_0 (t3:Int) (t6:List AV) (t7 t8:Int):Out (Int) (Unit ⊕ Int):=G89_0 t3 t6 t7 t8 .next .stop .fail
def R89_0 (t3:Int) (t6:List AV) (t7:Int):(Int)→Out (Int) (Unit ⊕ Int):=fun s:Int=>F89_0 t3 t6 t7 s
def E89_0 (t3:Int) (t6:List AV) (t7:Int):(Int)→St:=fun s:Int=>⟨[(3,Ai t3),(6,AV.sl [.int .i64] t6),(7,Ai t7),(8,Ai s)],[]⟩
def K89_0 (t3:Int) (t6:List AV) (t7:Int) (k:Kont):(Unit ⊕ Int)→Option AV:=sumE (fun _:Unit=>k (.exit 0) ⟨[(3,Ai t3)],[]⟩) (fun p:Int=>k .ret ⟨[(2,Ai p)],[]⟩)
def l89_0:LModel:=fun _ _ st k=>match st with
 | ⟨[(3,.int .i64 t3),(6,.sl g0 t6),(7,.int .i64 t7),(8,.int .i64 t8)],[]⟩=>bif ctsEq g0 ([.int .i64]) then ro (runW (R89_0 t3 t6 t7) ((t7 - t8:Int).toNat+1) t8) none (K89_0 t3 t6 t7 k) else none
 | _=>none
noncomputable def c89:Cfg:=cfg Tryd.prog [(89,0,[3,6,7,8]),(89,999,[2]),(89,1000,[3]),(89,1001,[3,6,7,8])] [] [] [] [(89,0,l89_0)]
theorem s89_0 (t3:Int) (t6:List AV) (t7:Int) (ce:CallE) (k:Kont) (s:Int) (next:St→Option AV):stepA (codeA c89 ce [] 89 0 (sub [1,1,0,1,0,0] (body Tryd.f89))) (normA [] [3,6,7,8]) next ((E89_0 t3 t6 t7) s) k=G89_0 t3 t6 t7 s (fun s=>next ((E89_0 t3 t6 t7) s)) (K89_0 t3 t6 t7 k) none:=by kernel_rfl
theorem st89_0 (t3:Int) (t6:List AV) (t7:Int) (ce:CallE) (k:Kont) (s:Int) (next:St→Option AV):stepA (codeA c89 ce [] 89 0 (sub [1,1,0,1,0,0] (body Tryd.f89))) (normA [] [3,6,7,8]) next ((E89_0 t3 t6 t7) s) k=(R89_0 t3 t6 t7 s).el none (fun s=>next ((E89_0 t3 t6 t7) s)) (K89_0 t3 t6 t7 k):=(s89_0 t3 t6 t7 ce k s next).trans (by unfold R89_0;unfold F89_0 G89_0;simp only [el_cond,el_ro,el_sum,el_fail,el_next,el_stop] <;> rfl)
theorem ok89_0 {ce:CallE}:LoopOK c89 ce [] 89 0 (sub [1,1,0,1,0,0] (body Tryd.f89)):=by
 intro m hm st k r h
 obtain rfl:l89_0=m:=Option.some.inj hm
 unfold l89_0 at h
 split at h
 ·rename_i t3 g0 t6 t7 t8
  obtain ⟨hg,h⟩:=bif_some h
  have q0:=hg
  obtain rfl:=cE q0
  refine ⟨((t7 - t8:Int).toNat+1),?_⟩
  rw [← h]
  exact loop_run (E89_0 t3 t6 t7) (K89_0 t3 t6 t7 k) (st89_0 t3 t6 t7 ce k) _ t8
 ·cases h
def q89 (a0:List AV):Bool:=(ro (runW (R89_0 0 a0 (a0.length:Int)) (((a0.length:Int) - 0:Int).toNat+1) 0) false (sumE (fun _=>true) (fun p57=>true)))
def v89_0 (a0:List AV):Int:=(ro (runW (R89_0 0 a0 (a0.length:Int)) (((a0.length:Int) - 0:Int).toNat+1) 0) 0 (sumE (fun _=>0) (fun p57=>p57)))
theorem e89 (a0:List AV):funA c89 0 89 [AV.sl [.int .i64] a0]=(ro (runW (R89_0 0 a0 (a0.length:Int)) (((a0.length:Int) - 0:Int).toNat+1) 0) none (sumE (fun _=>some (Ai 0)) (fun p57=>some (Ai p57)))):=by kernel_rfl
def m89:TModel
 | [.sl g0 a0]=>bif ctsEq g0 ([.int .i64]) then some (q89 a0,AV.int .i64 (v89_0 a0)) else none
 | _=>none
theorem k89:Known Tryd.prog 89:=⟨Tryd.f89,Tryd.func89,by kernel_rfl,by kernel_rfl⟩
theorem meets89:Meets Tryd.prog 89 m89:=by
 refine mt (lvl:=0) (cf:=c89) rfl mixed k89 Tryd.func89 (by kernel_rfl) (loops_cons ok89_0 noLoop) allT_nil allM_nil noI fun xs r h=>?_
 unfold m89 at h
 split at h
 ·rename_i g0 a0
  obtain ⟨hg,h⟩:=bif_pair h
  have q0:=hg
  obtain rfl:=cE q0
  obtain ⟨h1,rfl⟩:=pair_inj h
  exact (e89 a0).trans ((brO (fun o:Option (Unit ⊕ Int)=>some (Ai (ro o 0 (sumE (fun _=>0) (fun p57=>p57))))) (brS (fun o:Unit ⊕ Int=>some (Ai ((sumE (fun _=>0) (fun p57=>p57)) o))) (fun _=>(fun _=>rfl)) (fun p57=>(fun _=>rfl)))) h1)
 ·cases h
noncomputable def c73:Cfg:=cfg Tryd.prog [(73,999,[4])] [(89,m89),(90,m90)] [] [] []
def q73 (xa xb ya yb:Int):Bool:=q89 ([AV.int .i64 (v90_0 xa ya),AV.int .i64 (v90_0 xb yb)])
def v73_0 (xa xb ya yb:Int):Int:=(v89_0 ([AV.int .i64 (v90_0 xa ya),AV.int .i64 (v90_0 xb yb)]))
theorem e73 (xa xb ya yb:Int):funA c73 0 73 [AV.agg [Ai xa,Ai xb],AV.agg [Ai ya,Ai yb]]=(bif q89 ([Ai (v90_0 xa ya),Ai (v90_0 xb yb)]) then some (Ai (v89_0 ([Ai (v90_0 xa ya),Ai (v90_0 xb yb)])))
 else none):=by kernel_rfl
def m73:TModel
 | [.agg [.int .i64 xa,.int .i64 xb],.agg [.int .i64 ya,.int .i64 yb]]=>some (q73 xa xb ya yb,AV.int .i64 (v73_0 xa xb ya yb))
 | _=>none
theorem k73:Known Tryd.prog 73:=⟨Tryd.f73,Tryd.func73,by kernel_rfl,by kernel_rfl⟩
theorem meets73:Meets Tryd.prog 73 m73:=by
 refine mt (lvl:=0) (cf:=c73) rfl mixed k73 Tryd.func73 (by kernel_rfl) noLoop (allT_cons meets89 (allT_cons meets90 allT_nil)) allM_nil noI fun xs r h=>?_
 unfold m73 at h
 split at h
 ·rename_i xa xb ya yb
  obtain ⟨h1,rfl⟩:=pair_inj h
  exact (e73 xa xb ya yb).trans ((brL1 (fun _=>rfl)) h1)
 ·cases h
def G71_0 {β:Type} (t0:List AV) (t5:Int) (N:(Int)→β) (K:(Unit ⊕ Unit)→β) (d:β):β:=(bif decide (t5 > 0) then (bif (decide (0≤t5) && decide (t5<(t0.length:Int))) then (bif (decide (0≤IntKind.i64.wrap (t5 - 1)) && decide (IntKind.i64.wrap (t5 - 1)<(t0.length:Int))) then (bif q73 (fI (t0.getD t5.toNat .undef) 0) (fI (t0.getD t5.toNat .undef) 1) (fI (t0.getD (IntKind.i64.wrap (t5 - 1)).toNat .undef) 0) (fI (t0.getD (IntKind.i64.wrap (t5 - 1)).toNat .undef) 1) then (bif decide ((v73_0 (fI (t0.getD t5.toNat .undef) 0) (fI (t0.getD t5.toNat .undef) 1) (fI (t0.getD (IntKind.i64.wrap (t5 - 1)).toNat .undef) 0) (fI (t0.getD (IntKind.i64.wrap (t5 - 1)).toNat .undef) 1))<0) then K (.inr ())
 else N (IntKind.i64.wrap (t5 - 1)))
 else d)
 else d)
 else d)
 else K (.inl ()))
def F71_0 (t0:List AV) (t5:Int):Out (Int) (Unit ⊕ Unit):=G71_0 t0 t5 .next .stop .fail
def R71_0 (t0:List AV):(Int)→Out (Int) (Unit ⊕ Unit):=fun s:Int=>F71_0 t0 s
def E71_0 (t0:List AV):(Int)→St:=fun s:Int=>⟨[(0,AV.sl [.int .i64,.int .i64] t0),(1,AV.fn 73 []),(5,Ai s)],[]⟩
def K71_0 (t0:List AV) (k:Kont):(Unit ⊕ Unit)→Option AV:=sumE (fun _:Unit=>k (.exit 0) ⟨[],[]⟩) (fun _:Unit=>k .ret ⟨[(4,AV.bool false)],[]⟩)
def l71_0:LModel:=fun _ _ st k=>match st with
 | ⟨[(0,.sl g0 t0),(1,.fn g1 []),(5,.int .i64 t5)],[]⟩=>bif ctsEq g0 ([.int .i64,.int .i64]) && Nat.beq g1 73 then ro (runW (R71_0 t0) ((t5 - 0:Int).toNat+1) t5) none (K71_0 t0 k) else none
 | _=>none
noncomputable def c71:Cfg:=cfg Tryd.prog [(71,0,[0,1,5]),(71,999,[4]),(71,1000,[]),(71,1001,[0,1,5])] [(73,m73)] [] [] [(71,0,l71_0)]
theorem s71_0 (t0:List AV) (ce:CallE) (k:Kont) (s:Int) (next:St→Option AV):stepA (codeA c71 ce [] 71 0 (sub [1,0,1,0,0] (body Tryd.f71))) (normA [] [0,1,5]) next ((E71_0 t0) s) k=G71_0 t0 s (fun s=>next ((E71_0 t0) s)) (K71_0 t0 k) none:=by kernel_rfl
theorem st71_0 (t0:List AV) (ce:CallE) (k:Kont) (s:Int) (next:St→Option AV):stepA (codeA c71 ce [] 71 0 (sub [1,0,1,0,0] (body Tryd.f71))) (normA [] [0,1,5]) next ((E71_0 t0) s) k=(R71_0 t0 s).el none (fun s=>next ((E71_0 t0) s)) (K71_0 t0 k):=(s71_0 t0 ce k s next).trans (by unfold R71_0;unfold F71_0 G71_0;simp only [el_cond,el_ro,el_sum,el_fail,el_next,el_stop] <;> rfl)
theorem ok71_0 {ce:CallE}:LoopOK c71 ce [] 71 0 (sub [1,0,1,0,0] (body Tryd.f71)):=by
 intro m hm st k r h
 obtain rfl:l71_0=m:=Option.some.inj hm
 unfold l71_0 at h
 split at h
 ·rename_i g0 t0 g1 t5
  obtain ⟨hg,h⟩:=bif_some h
  simp only [Bool.and_eq_true] at hg
  obtain ⟨q0,q1⟩:=hg
  obtain rfl:=cE q0
  obtain rfl:=bE q1
  refine ⟨((t5 - 0:Int).toNat+1),?_⟩
  rw [← h]
  exact loop_run (E71_0 t0) (K71_0 t0 k) (st71_0 t0 ce k) _ t5
 ·cases h
def q71 (a0:List AV):Bool:=(ro (runW (R71_0 a0) (((IntKind.i64.wrap ((a0.length:Int) - 1)) - 0:Int).toNat+1) (IntKind.i64.wrap ((a0.length:Int) - 1))) false (sumE (fun _=>true) (fun _=>true)))
def v71_0 (a0:List AV):Bool:=(ro (runW (R71_0 a0) (((IntKind.i64.wrap ((a0.length:Int) - 1)) - 0:Int).toNat+1) (IntKind.i64.wrap ((a0.length:Int) - 1))) false (sumE (fun _=>true) (fun _=>false)))
theorem e71 (a0:List AV):funA c71 0 71 [AV.sl [.int .i64,.int .i64] a0,AV.fn 73 []]=(ro (runW (R71_0 a0) (((IntKind.i64.wrap ((a0.length:Int) - 1)) - 0:Int).toNat+1) (IntKind.i64.wrap ((a0.length:Int) - 1))) none (sumE (fun _=>some (AV.bool true)) (fun _=>some (AV.bool false)))):=by kernel_rfl
def m71:TModel
 | [.sl g0 a0,.fn g1 []]=>bif ctsEq g0 ([.int .i64,.int .i64]) && Nat.beq g1 73 then some (q71 a0,AV.bool (v71_0 a0)) else none
 | _=>none
theorem k71:Known Tryd.prog 71:=⟨Tryd.f71,Tryd.func71,by kernel_rfl,by kernel_rfl⟩
theorem meets71:Meets Tryd.prog 71 m71:=by
 refine mt (lvl:=0) (cf:=c71) rfl mixed k71 Tryd.func71 (by kernel_rfl) (loops_cons ok71_0 noLoop) (allT_cons meets73 allT_nil) allM_nil noI fun xs r h=>?_
 unfold m71 at h
 split at h
 ·rename_i g0 a0 g1
  obtain ⟨hg,h⟩:=bif_pair h
  simp only [Bool.and_eq_true] at hg
  obtain ⟨q0,q1⟩:=hg
  obtain rfl:=cE q0
  obtain rfl:=bE q1
  obtain ⟨h1,rfl⟩:=pair_inj h
  exact (e71 a0).trans ((brO (fun o:Option (Unit ⊕ Unit)=>some (AV.bool (ro o false (sumE (fun _=>true) (fun _=>false))))) (brS (fun o:Unit ⊕ Unit=>some (AV.bool ((sumE (fun _=>true) (fun _=>false)) o))) (fun _=>(fun _=>rfl)) (fun _=>(fun _=>rfl)))) h1)
 ·cases h
noncomputable def c48:Cfg:=cfg Tryd.prog [(48,999,[6])] [(71,m71),(72,m72)] [] [] []
def q48 (xa xb xc:List AV) (a1 a2:Int):Bool:=(q72 xa xb xc a1 a2 && q71 (v72_0 xa xb xc a1 a2))
def v48_0 (xa xb xc:List AV) (a1 a2:Int):Bool:=(v71_0 (v72_0 xa xb xc a1 a2))
theorem e48 (xa xb xc:List AV) (a1 a2:Int):funA c48 0 48 [AV.agg [AV.sl [.int .i64] xa,AV.sl [.int .i64] xb,AV.sl [.int .i64,.int .i64] xc],Ai a1,Ai a2]=(bif q72 xa xb xc a1 a2 then (bif q71 (v72_0 xa xb xc a1 a2) then some (AV.bool (v71_0 (v72_0 xa xb xc a1 a2)))
 else none)
 else none):=by kernel_rfl
def m48:TModel
 | [.agg [.sl g0 xa,.sl g1 xb,.sl g2 xc],.int .i64 a1,.int .i64 a2]=>bif ctsEq g0 ([.int .i64]) && ctsEq g1 ([.int .i64]) && ctsEq g2 ([.int .i64,.int .i64]) then some (q48 xa xb xc a1 a2,AV.bool (v48_0 xa xb xc a1 a2)) else none
 | _=>none
theorem k48:Known Tryd.prog 48:=⟨Tryd.f48,Tryd.func48,by kernel_rfl,by kernel_rfl⟩
theorem meets48:Meets Tryd.prog 48 m48:=by
 refine mt (lvl:=0) (cf:=c48) rfl mixed k48 Tryd.func48 (by kernel_rfl) noLoop (allT_cons meets71 (allT_cons meets72 allT_nil)) allM_nil noI fun xs r h=>?_
 unfold m48 at h
 split at h
 ·rename_i g0 xa g1 xb g2 xc a1 a2
  obtain ⟨hg,h⟩:=bif_pair h
  simp only [Bool.and_eq_true] at hg
  obtain ⟨⟨q0,q1⟩,q2⟩:=hg
  obtain rfl:=cE q0
  obtain rfl:=cE q1
  obtain rfl:=cE q2
  obtain ⟨h1,rfl⟩:=pair_inj h
  exact (e48 xa xb xc a1 a2).trans ((brL (brL1 (fun _=>rfl))) h1)
 ·cases h
def G18_0 {β:Type} (t13:Int) (h0_0:List AV) (h0_1:List AV) (h0_2:List AV) (h2:List AV) (t14:Int) (h1:List AV) (N:((Int × (List AV)))→β) (K:(((List AV)))→β) (d:β):β:=by
 refine (?f0:ByteArray→ByteArray→Int→Int→Int→Int→β) (v41_0 (fI (h2.getD t14.toNat .undef) 0)) (v41_0 (fI (h2.getD t14.toNat .undef) 1)) (v17_0 ((h0_0.take (Int.toNat (fI (h2.getD t14.toNat .undef) 1))).drop (Int.toNat (fI (h2.getD t14.toNat .undef) 0)))) (v17_1 ((h0_0.take (Int.toNat (fI (h2.getD t14.toNat .undef) 1))).drop (Int.toNat (fI (h2.getD t14.toNat .undef) 0)))) (v17_2 ((h0_0.take (Int.toNat (fI (h2.getD t14.toNat .undef) 1))).drop (Int.toNat (fI (h2.getD t14.toNat .undef) 0)))) (v17_3 ((h0_0.take (Int.toNat (fI (h2.getD t14.toNat .undef) 1))).drop (Int.toNat (fI (h2.getD t14.toNat .undef) 0))));intro x1 x2 x3 x4 x5 x6
 refine (?f1:ByteArray→β) (v47_0 x3 x4 x5 x6);intro x7
 exact (bif decide (t14<t13) then (bif (decide (0≤t14) && decide (t14<(h2.length:Int))) then (bif q41 (fI (h2.getD t14.toNat .undef) 0) then (bif decide (x1.size+(ByteArray.mk #[46,46]).size≤4611686018427387904) then (bif q41 (fI (h2.getD t14.toNat .undef) 1) then (bif decide ((x1++(ByteArray.mk #[46,46])).size+x2.size≤4611686018427387904) then (bif decide (((x1++(ByteArray.mk #[46,46]))++x2).size+(ByteArray.mk #[32]).size≤4611686018427387904) then (bif (decide (0≤fI (h2.getD t14.toNat .undef) 0) && decide (fI (h2.getD t14.toNat .undef) 0≤fI (h2.getD t14.toNat .undef) 1) && decide (fI (h2.getD t14.toNat .undef) 1≤(h0_0.length:Int))) then (bif q17 ((h0_0.take (Int.toNat (fI (h2.getD t14.toNat .undef) 1))).drop (Int.toNat (fI (h2.getD t14.toNat .undef) 0))) then (bif q47 x3 x4 x5 x6 then (bif decide ((((x1++(ByteArray.mk #[46,46]))++x2)++(ByteArray.mk #[32])).size+x7.size≤4611686018427387904) then (bif q48 h0_0 h0_1 h0_2 (fI (h2.getD t14.toNat .undef) 0) (fI (h2.getD t14.toNat .undef) 1) then (bif (v48_0 h0_0 h0_1 h0_2 (fI (h2.getD t14.toNat .undef) 0) (fI (h2.getD t14.toNat .undef) 1)) then (bif decide (((((x1++(ByteArray.mk #[46,46]))++x2)++(ByteArray.mk #[32]))++x7).size+(ByteArray.mk #[32,115,111,114,116,101,100]).size≤4611686018427387904) then (bif (decide ((h1.length+([AV.str (((((x1++(ByteArray.mk #[46,46]))++x2)++(ByteArray.mk #[32]))++x7)++(ByteArray.mk #[32,115,111,114,116,101,100]))]).length)*16≤140737488355328) && decide ((h1.length+([AV.str (((((x1++(ByteArray.mk #[46,46]))++x2)++(ByteArray.mk #[32]))++x7)++(ByteArray.mk #[32,115,111,114,116,101,100]))]).length)≤140737488355328)) then N (IntKind.i64.wrap (t14+1),h1++([AV.str (((((x1++(ByteArray.mk #[46,46]))++x2)++(ByteArray.mk #[32]))++x7)++(ByteArray.mk #[32,115,111,114,116,101,100]))]))
 else d)
 else d)
 else (bif (decide ((h1.length+([AV.str ((((x1++(ByteArray.mk #[46,46]))++x2)++(ByteArray.mk #[32]))++x7)]).length)*16≤140737488355328) && decide ((h1.length+([AV.str ((((x1++(ByteArray.mk #[46,46]))++x2)++(ByteArray.mk #[32]))++x7)]).length)≤140737488355328)) then N (IntKind.i64.wrap (t14+1),h1++([AV.str ((((x1++(ByteArray.mk #[46,46]))++x2)++(ByteArray.mk #[32]))++x7)]))
 else d))
 else d)
 else d)
 else d)
 else d)
 else d)
 else d)
 else d)
 else d)
 else d)
 else d)
 else d)
 else K h1)
def F18_0 (t13:Int) (h0_0 h0_1 h0_2 h2:List AV) (t14:Int) (h1:List AV):Out ((Int × (List AV))) (((List AV))):=G18_0 t13 h0_0 h0_1 h0_2 h2 t14 h1 .next .stop .fail
def R18_0 (t13:Int) (h0_0 h0_1 h0_2 h2:List AV):((Int × (List AV)))→Out ((Int × (List AV))) (((List AV))):=fun s:Int × (List AV)=>F18_0 t13 h0_0 h0_1 h0_2 h2 s.1 s.2
def E18_0 (t13:Int) (h0_0 h0_1 h0_2 h2:List AV):((Int × (List AV)))→St:=fun s:Int × (List AV)=>⟨[(1,AV.ptr [0,1] 0 0),(3,AV.own [0,3]),(12,AV.own [0,12]),(13,Ai t13),(14,Ai s.1)],[([0,1],⟨true,[],[AV.agg [AV.sl [.int .i64] h0_0,AV.sl [.int .i64] h0_1,AV.sl [.int .i64,.int .i64] h0_2]]⟩),([0,3],⟨false,[.str],s.2⟩),([0,12],⟨false,[.int .i64,.int .i64],h2⟩)]⟩
def K18_0 (t13:Int) (h0_0 h0_1 h0_2 h2:List AV) (k:Kont):(((List AV)))→Option AV:=fun p:(List AV)=>k (.exit 0) ⟨[(3,AV.own [0,3])],[([0,1],⟨true,[],[AV.agg [AV.sl [.int .i64] h0_0,AV.sl [.int .i64] h0_1,AV.sl [.int .i64,.int .i64] h0_2]]⟩),([0,3],⟨false,[.str],p⟩),([0,12],⟨false,[.int .i64,.int .i64],h2⟩)]⟩
def l18_0:LModel:=fun _ _ st k=>match st with
 | ⟨[(1,.ptr g0 g1 g2),(3,.own g3),(12,.own g4),(13,.int .i64 t13),(14,.int .i64 t14)],[(g5,⟨true,[],[.agg [.sl g6 h0_0,.sl g7 h0_1,.sl g8 h0_2]]⟩),(g9,⟨false,g10,h1⟩),(g11,⟨false,g12,h2⟩)]⟩=>bif nmEq g0 ([0,1]) && Nat.beq g1 0 && Nat.beq g2 0 && nmEq g3 ([0,3]) && nmEq g4 ([0,12]) && nmEq g5 ([0,1]) && ctsEq g6 ([.int .i64]) && ctsEq g7 ([.int .i64]) && ctsEq g8 ([.int .i64,.int .i64]) && nmEq g9 ([0,3]) && ctsEq g10 ([.str]) && nmEq g11 ([0,12]) && ctsEq g12 ([.int .i64,.int .i64]) then ro (runW (R18_0 t13 h0_0 h0_1 h0_2 h2) ((t13 - t14:Int).toNat+1) (t14,h1)) none (K18_0 t13 h0_0 h0_1 h0_2 h2 k) else none
 | _=>none
noncomputable def c18:Cfg:=cfg Tryd.prog [(18,0,[1,3,12,13,14]),(18,999,[2]),(18,1000,[3]),(18,1001,[1,3,12,13,14])] [(11,m11),(17,m17),(31,m31),(41,m41),(47,m47),(48,m48)] [] [] [(18,0,l18_0)]
theorem s18_0 (t13:Int) (h0_0 h0_1 h0_2 h2:List AV) (ce:CallE) (k:Kont) (s:Int × (List AV)) (next:St→Option AV):stepA (codeA c18 ce [] 18 0 (sub [1,1,1,0,1,0,0] (body Tryd.f18))) (normA [] [1,3,12,13,14]) next ((E18_0 t13 h0_0 h0_1 h0_2 h2) s) k=G18_0 t13 h0_0 h0_1 h0_2 h2 s.1 s.2 (fun s=>next ((E18_0 t13 h0_0 h0_1 h0_2 h2) s)) (K18_0 t13 h0_0 h0_1 h0_2 h2 k) none:=by kernel_rfl
theorem st18_0 (t13:Int) (h0_0 h0_1 h0_2 h2:List AV) (ce:CallE) (k:Kont) (s:(Int × (List AV))) (next:St→Option AV):stepA (codeA c18 ce [] 18 0 (sub [1,1,1,0,1,0,0] (body Tryd.f18))) (normA [] [1,3,12,13,14]) next ((E18_0 t13 h0_0 h0_1 h0_2 h2) s) k=(R18_0 t13 h0_0 h0_1 h0_2 h2 s).el none (fun s=>next ((E18_0 t13 h0_0 h0_1 h0_2 h2) s)) (K18_0 t13 h0_0 h0_1 h0_2 h2 k):=(s18_0 t13 h0_0 h0_1 h0_2 h2 ce k s next).trans (by unfold R18_0;unfold F18_0 G18_0;simp only [el_cond,el_ro,el_sum,el_fail,el_next,el_stop] <;> rfl)
theorem ok18_0 {ce:CallE}:LoopOK c18 ce [] 18 0 (sub [1,1,1,0,1,0,0] (body Tryd.f18)):=by
 intro m hm st k r h
 obtain rfl:l18_0=m:=Option.some.inj hm
 unfold l18_0 at h
 split at h
 ·rename_i g0 g1 g2 g3 g4 t13 t14 g5 g6 h0_0 g7 h0_1 g8 h0_2 g9 g10 h1 g11 g12 h2
  obtain ⟨hg,h⟩:=bif_some h
  simp only [Bool.and_eq_true] at hg
  obtain ⟨⟨⟨⟨⟨⟨⟨⟨⟨⟨⟨⟨q0,q1⟩,q2⟩,q3⟩,q4⟩,q5⟩,q6⟩,q7⟩,q8⟩,q9⟩,q10⟩,q11⟩,q12⟩:=hg
  obtain rfl:=nE q0
  obtain rfl:=bE q1
  obtain rfl:=bE q2
  obtain rfl:=nE q3
  obtain rfl:=nE q4
  obtain rfl:=nE q5
  obtain rfl:=cE q6
  obtain rfl:=cE q7
  obtain rfl:=cE q8
  obtain rfl:=nE q9
  obtain rfl:=cE q10
  obtain rfl:=nE q11
  obtain rfl:=cE q12
  refine ⟨((t13 - t14:Int).toNat+1),?_⟩
  rw [← h]
  exact loop_run (E18_0 t13 h0_0 h0_1 h0_2 h2) (K18_0 t13 h0_0 h0_1 h0_2 h2 k) (st18_0 t13 h0_0 h0_1 h0_2 h2 ce k) _ (t14,h1)
 ·cases h
def q18 (xa xb xc:List AV):Bool:=(q11 xa xb xc && (bif !(v11_0 xa xb xc) then true else (q31 xa xb xc && (ro (runW (R18_0 ((v31_0 xa xb xc).length:Int) xa xb xc (v31_0 xa xb xc)) ((((v31_0 xa xb xc).length:Int) - 0:Int).toNat+1) (0,([]:List AV))) false (fun p60=>true)))))
def v18_0 (xa xb xc:List AV):List AV:=(bif !(v11_0 xa xb xc) then ([]:List AV) else (ro (runW (R18_0 ((v31_0 xa xb xc).length:Int) xa xb xc (v31_0 xa xb xc)) ((((v31_0 xa xb xc).length:Int) - 0:Int).toNat+1) (0,([]:List AV))) [] (fun p60=>p60)))
theorem e18 (xa xb xc:List AV):funA c18 0 18 [AV.agg [AV.sl [.int .i64] xa,AV.sl [.int .i64] xb,AV.sl [.int .i64,.int .i64] xc]]=(bif q11 xa xb xc then (bif !(v11_0 xa xb xc) then some (AV.fl [.str] ([]:List AV))
 else (bif q31 xa xb xc then (ro (runW (R18_0 ((v31_0 xa xb xc).length:Int) xa xb xc (v31_0 xa xb xc)) ((((v31_0 xa xb xc).length:Int) - 0:Int).toNat+1) (0,([]:List AV))) none (fun p60=>some (AV.fl [.str] p60)))
 else none))
 else none):=by kernel_rfl
def m18:TModel
 | [.agg [.sl g0 xa,.sl g1 xb,.sl g2 xc]]=>bif ctsEq g0 ([.int .i64]) && ctsEq g1 ([.int .i64]) && ctsEq g2 ([.int .i64,.int .i64]) then some (q18 xa xb xc,AV.fl [.str] (v18_0 xa xb xc)) else none
 | _=>none
theorem k18:Known Tryd.prog 18:=⟨Tryd.f18,Tryd.func18,by kernel_rfl,by kernel_rfl⟩
theorem meets18:Meets Tryd.prog 18 m18:=by
 refine mt (lvl:=0) (cf:=c18) rfl mixed k18 Tryd.func18 (by kernel_rfl) (loops_cons ok18_0 noLoop) (allT_cons meets11 (allT_cons meets17 (allT_cons meets31 (allT_cons meets41 (allT_cons meets47 (allT_cons meets48 allT_nil)))))) allM_nil noI fun xs r h=>?_
 unfold m18 at h
 split at h
 ·rename_i g0 xa g1 xb g2 xc
  obtain ⟨hg,h⟩:=bif_pair h
  simp only [Bool.and_eq_true] at hg
  obtain ⟨⟨q0,q1⟩,q2⟩:=hg
  obtain rfl:=cE q0
  obtain rfl:=cE q1
  obtain rfl:=cE q2
  obtain ⟨h1,rfl⟩:=pair_inj h
  exact (e18 xa xb xc).trans ((brL (br (fun b=>some (AV.fl [.str] (bif b then ([]:List AV) else (ro (runW (R18_0 ((v31_0 xa xb xc).length:Int) xa xb xc (v31_0 xa xb xc)) ((((v31_0 xa xb xc).length:Int) - 0:Int).toNat+1) (0,([]:List AV))) [] (fun p60=>p60))))) (fun _=>rfl) (brL (brO (fun o:Option (((List AV)))=>some (AV.fl [.str] (ro o [] (fun p60=>p60)))) (fun p60=>(fun _=>rfl)))))) h1)
 ·cases h
def G3_0 {β:Type} (t4:Int) (t5:Int) (h0:List AV) (h1:List AV) (h2:List AV) (h4:List AV) (t7:Int) (t9:Int) (h5_0:Int) (h5_1:Int) (h5_2:Int) (h5_3:Int) (N:((Int × Int × Int × Int × Int × Int))→β) (K:((Int × Int × Int × Int × Int) ⊕ (Int × Int × Int × Int))→β) (d:β):β:=by
 refine (?f0:Int→Int→Int→Int→β) (v16_0 h5_0 h5_1 h5_2 h5_3 (fI (h4.getD t9.toNat .undef) 0) (fI (h4.getD t9.toNat .undef) 1) (fI (h4.getD t9.toNat .undef) 2) (fI (h4.getD t9.toNat .undef) 3)) (v16_1 h5_0 h5_1 h5_2 h5_3 (fI (h4.getD t9.toNat .undef) 0) (fI (h4.getD t9.toNat .undef) 1) (fI (h4.getD t9.toNat .undef) 2) (fI (h4.getD t9.toNat .undef) 3)) (v16_2 h5_0 h5_1 h5_2 h5_3 (fI (h4.getD t9.toNat .undef) 0) (fI (h4.getD t9.toNat .undef) 1) (fI (h4.getD t9.toNat .undef) 2) (fI (h4.getD t9.toNat .undef) 3)) (v16_3 h5_0 h5_1 h5_2 h5_3 (fI (h4.getD t9.toNat .undef) 0) (fI (h4.getD t9.toNat .undef) 1) (fI (h4.getD t9.toNat .undef) 2) (fI (h4.getD t9.toNat .undef) 3));intro x1 x2 x3 x4
 exact (bif decide (t9<(h4.length:Int)) then (bif (decide (0≤t9) && decide (t9<(h4.length:Int))) then (bif (decide (0≤t9) && decide (t9<(h4.length:Int))) then (bif decide (fI (h4.getD t9.toNat .undef) 0 > t5) then K (.inr (h5_0,h5_1,h5_2,h5_3))
 else (bif decide (t9 > 0) then (bif (decide (0≤t9) && decide (t9<(h4.length:Int))) then (bif (decide (0≤IntKind.i64.wrap (t9 - 1)) && decide (IntKind.i64.wrap (t9 - 1)<(h4.length:Int))) then (bif decide (fI (h4.getD t9.toNat .undef) 2≤fI (h4.getD (IntKind.i64.wrap (t9 - 1)).toNat .undef) 3) then K (.inr (h5_0,h5_1,h5_2,h5_3))
 else (bif (decide (0≤t9) && decide (t9<(h4.length:Int))) then N (IntKind.i64.wrap (t7+fI (h4.getD t9.toNat .undef) 0),IntKind.i64.wrap (t9+1),x1,x2,x3,x4)
 else d))
 else d)
 else d)
 else (bif (decide (0≤t9) && decide (t9<(h4.length:Int))) then N (IntKind.i64.wrap (t7+fI (h4.getD t9.toNat .undef) 0),IntKind.i64.wrap (t9+1),x1,x2,x3,x4)
 else d)))
 else d)
 else d)
 else K (.inl (t7,h5_0,h5_1,h5_2,h5_3)))
def F3_0 (t4 t5:Int) (h0 h1 h2 h4:List AV) (t7 t9 h5_0 h5_1 h5_2 h5_3:Int):Out ((Int × Int × Int × Int × Int × Int)) ((Int × Int × Int × Int × Int) ⊕ (Int × Int × Int × Int)):=G3_0 t4 t5 h0 h1 h2 h4 t7 t9 h5_0 h5_1 h5_2 h5_3 .next .stop .fail
def R3_0 (t4 t5:Int) (h0 h1 h2 h4:List AV):((Int × Int × Int × Int × Int × Int))→Out ((Int × Int × Int × Int × Int × Int)) ((Int × Int × Int × Int × Int) ⊕ (Int × Int × Int × Int)):=fun s:Int × Int × Int × Int × Int × Int=>F3_0 t4 t5 h0 h1 h2 h4 s.1 s.2.1 s.2.2.1 s.2.2.2.1 s.2.2.2.2.1 s.2.2.2.2.2
def E3_0 (t4 t5:Int) (h0 h1 h2 h4:List AV):((Int × Int × Int × Int × Int × Int))→St:=fun s:Int × Int × Int × Int × Int × Int=>⟨[(3,AV.ptr [0,3] 0 0),(4,Ai t4),(5,Ai t5),(6,AV.own [0,6]),(7,Ai s.1),(8,AV.ptr [0,8] 0 0),(9,Ai s.2.1)],[([0,0,3],⟨false,[.int .i64],h0⟩),([0,1,3],⟨false,[.int .i64],h1⟩),([0,2,3],⟨false,[.int .i64,.int .i64],h2⟩),([0,3],⟨true,[],[AV.agg [AV.own [0,0,3],AV.own [0,1,3],AV.own [0,2,3]]]⟩),([0,6],⟨false,[.int .i64,.int .i64,.int .i64,.int .i64],h4⟩),([0,8],⟨true,[],[AV.agg [Ai s.2.2.1,Ai s.2.2.2.1,Ai s.2.2.2.2.1,Ai s.2.2.2.2.2]]⟩)]⟩
def K3_0 (t4 t5:Int) (h0 h1 h2 h4:List AV) (k:Kont):((Int × Int × Int × Int × Int) ⊕ (Int × Int × Int × Int))→Option AV:=sumE (fun p:Int × Int × Int × Int × Int=>k (.exit 0) ⟨[(3,AV.ptr [0,3] 0 0),(4,Ai t4),(6,AV.own [0,6]),(7,Ai p.1),(8,AV.ptr [0,8] 0 0)],[([0,0,3],⟨false,[.int .i64],h0⟩),([0,1,3],⟨false,[.int .i64],h1⟩),([0,2,3],⟨false,[.int .i64,.int .i64],h2⟩),([0,3],⟨true,[],[AV.agg [AV.own [0,0,3],AV.own [0,1,3],AV.own [0,2,3]]]⟩),([0,6],⟨false,[.int .i64,.int .i64,.int .i64,.int .i64],h4⟩),([0,8],⟨true,[],[AV.agg [Ai p.2.1,Ai p.2.2.1,Ai p.2.2.2.1,Ai p.2.2.2.2]]⟩)]⟩) (fun p:Int × Int × Int × Int=>k .ret ⟨[(2,AV.bool false)],[([0,0,3],⟨false,[.int .i64],h0⟩),([0,1,3],⟨false,[.int .i64],h1⟩),([0,2,3],⟨false,[.int .i64,.int .i64],h2⟩),([0,3],⟨true,[],[AV.agg [AV.own [0,0,3],AV.own [0,1,3],AV.own [0,2,3]]]⟩),([0,6],⟨false,[.int .i64,.int .i64,.int .i64,.int .i64],h4⟩),([0,8],⟨true,[],[AV.agg [Ai p.1,Ai p.2.1,Ai p.2.2.1,Ai p.2.2.2]]⟩)]⟩)
def l3_0:LModel:=fun _ _ st k=>match st with
 | ⟨[(3,.ptr g0 g1 g2),(4,.int .i64 t4),(5,.int .i64 t5),(6,.own g3),(7,.int .i64 t7),(8,.ptr g4 g5 g6),(9,.int .i64 t9)],[(g7,⟨false,g8,h0⟩),(g9,⟨false,g10,h1⟩),(g11,⟨false,g12,h2⟩),(g13,⟨true,[],[.agg [.own g14,.own g15,.own g16]]⟩),(g17,⟨false,g18,h4⟩),(g19,⟨true,[],[.agg [.int .i64 h5_0,.int .i64 h5_1,.int .i64 h5_2,.int .i64 h5_3]]⟩)]⟩=>bif nmEq g0 ([0,3]) && Nat.beq g1 0 && Nat.beq g2 0 && nmEq g3 ([0,6]) && nmEq g4 ([0,8]) && Nat.beq g5 0 && Nat.beq g6 0 && nmEq g7 ([0,0,3]) && ctsEq g8 ([.int .i64]) && nmEq g9 ([0,1,3]) && ctsEq g10 ([.int .i64]) && nmEq g11 ([0,2,3]) && ctsEq g12 ([.int .i64,.int .i64]) && nmEq g13 ([0,3]) && nmEq g14 ([0,0,3]) && nmEq g15 ([0,1,3]) && nmEq g16 ([0,2,3]) && nmEq g17 ([0,6]) && ctsEq g18 ([.int .i64,.int .i64,.int .i64,.int .i64]) && nmEq g19 ([0,8]) then ro (runW (R3_0 t4 t5 h0 h1 h2 h4) (((h4.length:Int) - t9:Int).toNat+1) (t7,t9,h5_0,h5_1,h5_2,h5_3)) none (K3_0 t4 t5 h0 h1 h2 h4 k) else none
 | _=>none
noncomputable def c3:Cfg:=cfg Tryd.prog [(3,0,[3,4,5,6,7,8,9]),(3,999,[2]),(3,1000,[3,4,6,7,8]),(3,1001,[3,4,5,6,7,8,9])] [(5,m5),(6,m6),(7,m7),(8,m8),(9,m9),(10,m10),(11,m11),(12,m12),(13,m13),(14,m14),(15,m15),(16,m16),(17,m17),(18,m18)] [] [] [(3,0,l3_0)]
theorem s3_0 (t4 t5:Int) (h0 h1 h2 h4:List AV) (ce:CallE) (k:Kont) (s:Int × Int × Int × Int × Int × Int) (next:St→Option AV):stepA (codeA c3 ce [] 3 0 (sub [1,1,1,1,1,1,1,1,1,1,0,1,0,0] (body Tryd.f3))) (normA [] [3,4,5,6,7,8,9]) next ((E3_0 t4 t5 h0 h1 h2 h4) s) k=G3_0 t4 t5 h0 h1 h2 h4 s.1 s.2.1 s.2.2.1 s.2.2.2.1 s.2.2.2.2.1 s.2.2.2.2.2 (fun s=>next ((E3_0 t4 t5 h0 h1 h2 h4) s)) (K3_0 t4 t5 h0 h1 h2 h4 k) none:=by kernel_rfl
theorem st3_0 (t4 t5:Int) (h0 h1 h2 h4:List AV) (ce:CallE) (k:Kont) (s:(Int × Int × Int × Int × Int × Int)) (next:St→Option AV):stepA (codeA c3 ce [] 3 0 (sub [1,1,1,1,1,1,1,1,1,1,0,1,0,0] (body Tryd.f3))) (normA [] [3,4,5,6,7,8,9]) next ((E3_0 t4 t5 h0 h1 h2 h4) s) k=(R3_0 t4 t5 h0 h1 h2 h4 s).el none (fun s=>next ((E3_0 t4 t5 h0 h1 h2 h4) s)) (K3_0 t4 t5 h0 h1 h2 h4 k):=(s3_0 t4 t5 h0 h1 h2 h4 ce k s next).trans (by unfold R3_0;unfold F3_0 G3_0;simp only [el_cond,el_ro,el_sum,el_fail,el_next,el_stop] <;> rfl)
theorem ok3_0 {ce:CallE}:LoopOK c3 ce [] 3 0 (sub [1,1,1,1,1,1,1,1,1,1,0,1,0,0] (body Tryd.f3)):=by
 intro m hm st k r h
 obtain rfl:l3_0=m:=Option.some.inj hm
 unfold l3_0 at h
 split at h
 ·rename_i g0 g1 g2 t4 t5 g3 t7 g4 g5 g6 t9 g7 g8 h0 g9 g10 h1 g11 g12 h2 g13 g14 g15 g16 g17 g18 h4 g19 h5_0 h5_1 h5_2 h5_3
  obtain ⟨hg,h⟩:=bif_some h
  simp only [Bool.and_eq_true] at hg
  obtain ⟨⟨⟨⟨⟨⟨⟨⟨⟨⟨⟨⟨⟨⟨⟨⟨⟨⟨⟨q0,q1⟩,q2⟩,q3⟩,q4⟩,q5⟩,q6⟩,q7⟩,q8⟩,q9⟩,q10⟩,q11⟩,q12⟩,q13⟩,q14⟩,q15⟩,q16⟩,q17⟩,q18⟩,q19⟩:=hg
  obtain rfl:=nE q0
  obtain rfl:=bE q1
  obtain rfl:=bE q2
  obtain rfl:=nE q3
  obtain rfl:=nE q4
  obtain rfl:=bE q5
  obtain rfl:=bE q6
  obtain rfl:=nE q7
  obtain rfl:=cE q8
  obtain rfl:=nE q9
  obtain rfl:=cE q10
  obtain rfl:=nE q11
  obtain rfl:=cE q12
  obtain rfl:=nE q13
  obtain rfl:=nE q14
  obtain rfl:=nE q15
  obtain rfl:=nE q16
  obtain rfl:=nE q17
  obtain rfl:=cE q18
  obtain rfl:=nE q19
  refine ⟨(((h4.length:Int) - t9:Int).toNat+1),?_⟩
  rw [← h]
  exact loop_run (E3_0 t4 t5 h0 h1 h2 h4) (K3_0 t4 t5 h0 h1 h2 h4 k) (st3_0 t4 t5 h0 h1 h2 h4 ce k) _ (t7,t9,h5_0,h5_1,h5_2,h5_3)
 ·cases h
def raw3 (a0:List AV):Option AV:=by
 refine (?f0:(List AV)→(List AV)→(List AV)→(Option AV)) (v6_0 a0) (v6_1 a0) (v6_2 a0);intro x1 x2 x3
 exact (bif (v5_0 a0) then some (AV.bool true)
 else (bif q6 a0 then (bif q7 x1 x2 x3 then (bif q8 x1 x2 x3 then (bif q9 x1 x2 x3 then (bif !decide ((v7_0 x1 x2 x3)=(v9_0 x1 x2 x3)) then some (AV.bool false)
 else (bif q10 x1 x2 x3 then (bif !decide ((v8_0 x1 x2 x3)=(v10_0 x1 x2 x3)) then some (AV.bool false)
 else (bif q11 x1 x2 x3 then (bif q12 x1 x2 x3 then (bif !((v11_0 x1 x2 x3) == (v12_0 x1 x2 x3)) then some (AV.bool false)
 else (bif q13 x1 x2 x3 then (bif q14 x1 x2 x3 then (bif !((v13_0 x1 x2 x3).toList == (v14_0 x1 x2 x3).toList) then some (AV.bool false)
 else (bif q12 x1 x2 x3 then (bif !(v12_0 x1 x2 x3) then (bif decide ((v7_0 x1 x2 x3)=0) then some (AV.bool (decide ((v8_0 x1 x2 x3)=0)))
 else some (AV.bool false))
 else (bif q15 x1 x2 x3 then (ro (runW (R3_0 (v7_0 x1 x2 x3) (v8_0 x1 x2 x3) x1 x2 x3 (v15_0 x1 x2 x3)) ((((v15_0 x1 x2 x3).length:Int) - 0:Int).toNat+1) (0,0,0,0,0,0)) none (sumE (fun p54=>(bif decide (((v15_0 x1 x2 x3).length:Int)=(v7_0 x1 x2 x3)) then (bif decide (p54.1=(x1.length:Int)) then (bif decide ((v7_0 x1 x2 x3)≤IntKind.i64.wrap ((x3.length:Int)+1)) then (bif q17 x1 then (bif (bif decide (p54.2.1=(v17_0 x1)) then (bif decide (p54.2.2.1=(v17_1 x1)) then (bif decide (p54.2.2.2.1=(v17_2 x1)) then (bif decide (p54.2.2.2.2=(v17_3 x1)) then true else false) else false) else false) else false) then (bif q18 x1 x2 x3 then some (AV.bool (decide (((v18_0 x1 x2 x3).length:Int)=(v7_0 x1 x2 x3))))
 else none)
 else some (AV.bool false))
 else none)
 else some (AV.bool false))
 else some (AV.bool false))
 else some (AV.bool false))) (fun p61=>some (AV.bool false))))
 else none))
 else none))
 else none)
 else none))
 else none)
 else none))
 else none))
 else none)
 else none)
 else none)
 else none))
theorem e3 (a0:List AV):funA c3 0 3 [AV.sl [.int .u8] a0]=raw3 a0:=by kernel_rfl
def m3:TModel
 | [.sl g0 a0]=>bif ctsEq g0 ([.int .u8]) then (raw3 a0).map fun r=>(true,r) else none
 | _=>none
theorem k3:Known Tryd.prog 3:=⟨Tryd.f3,Tryd.func3,by kernel_rfl,by kernel_rfl⟩
theorem meets3:Meets Tryd.prog 3 m3:=by
 refine mt (lvl:=0) (cf:=c3) rfl mixed k3 Tryd.func3 (by kernel_rfl) (loops_cons ok3_0 noLoop) (allT_cons meets5 (allT_cons meets6 (allT_cons meets7 (allT_cons meets8 (allT_cons meets9 (allT_cons meets10 (allT_cons meets11 (allT_cons meets12 (allT_cons meets13 (allT_cons meets14 (allT_cons meets15 (allT_cons meets16 (allT_cons meets17 (allT_cons meets18 allT_nil)))))))))))))) allM_nil noI fun xs r h=>?_
 unfold m3 at h
 split at h
 ·rename_i g0 a0
  obtain ⟨hg,h⟩:=bif_pair h
  have q0:=hg
  obtain rfl:=cE q0
  obtain ⟨r',h1,h2⟩:=Option.map_eq_some_iff.1 h
  obtain ⟨_,rfl⟩:=Prod.mk.inj h2
  exact (e3 a0).trans h1
 ·cases h
end
end Go.Proofs.YteppndjaglhehaaDoor

namespace Go.Proofs.YteppndjaglhehaaDoor
open Go Go.Proofs.VE
set_option linter.unusedVariables false
set_option linter.unusedSimpArgs false
theorem v38 (a b c:Int):v38_0 a b c=(decide (b≤a) && decide (a≤c)):=by
 unfold v38_0;cases h:decide (a ≥ b) <;> simp_all
theorem run37 (xs:List AV) (h:xs.length≤1048576):runW (R37_0 xs) (((xs.length:Int) - 0).toNat+1) 0=some (ro (findF (fun i => !v38_0 (fI (xs.getD i.toNat .undef) 0) (-999) 999) xs.length 0) (.inl ()) fun _ => .inr ()):=by
 refine runW_find (fun i=>i) xs.length _ _ _ (fun i h0 hn=>?_) ?_ xs.length _ 0 (Int.le_refl 0) (by omega) (by omega)
 ·simp only [R37_0,F37_0,G37_0,h0,hn,decide_true,Bool.and_self,cond_true]
  rw [wrap_in (a:=i+1) (by omega) (by omega)]
 ·simp only [R37_0,F37_0,G37_0,Int.lt_irrefl,decide_false,cond_false]
theorem run85 (xs:List AV) (lo hi:AV) (h:xs.length≤1048576):runW (R85_0 xs lo hi xs.length) (((xs.length:Int) - 0).toNat+1) 0=some (ro (findF (fun i=>v65_0 (fI (xs.getD i.toNat .undef) 0) lo hi) xs.length 0) (.inl ()) fun i => .inr i):=by
 refine runW_find (fun i=>i) xs.length _ _ _ (fun i h0 hn=>?_) ?_ xs.length _ 0 (Int.le_refl 0) (by omega) (by omega)
 ·simp only [R85_0,F85_0,G85_0,h0,hn,decide_true,Bool.and_self,cond_true]
  rw [wrap_in (a:=i+1) (by omega) (by omega)]
 ·simp only [R85_0,F85_0,G85_0,Int.lt_irrefl,decide_false,cond_false]
theorem P37 (xs:List AV) (h:xs.length≤1048576):q37 xs=true∧v37_0 xs=((findF (fun i => !v38_0 (fI (xs.getD i.toNat .undef) 0) (-999) 999) xs.length 0).isNone && decide (xs.length≤64)):=by
 unfold q37 v37_0
 rw [run37 xs h]
 cases findF (fun i => !v38_0 (fI (xs.getD i.toNat .undef) 0) (-999) 999) xs.length 0 with
 | none=>refine ⟨rfl,?_⟩;simp only [ro,sumE,Option.isNone_none,Bool.true_and];congr 1;simp only [eq_iff_iff];omega
 | some j=>exact ⟨rfl,rfl⟩
theorem P34 (xs:List AV) (lo hi:Int) (h:xs.length≤1048576):q34 xs lo hi=true∧v34_0 xs lo hi=(findF (fun i => !v38_0 (fI (xs.getD i.toNat .undef) 0) lo hi) xs.length 0).isNone:=by
 unfold q34 v34_0 v64_0 q64 q85 v85_0
 rw [run85 xs _ _ h]
 have e:(fun i:Int=>v65_0 (fI (xs.getD i.toNat .undef) 0) (AV.int .i64 lo) (AV.int .i64 hi))=fun i => !v38_0 (fI (xs.getD i.toNat .undef) 0) lo hi:=by
  funext i
  unfold v65_0
  rw [v38,show fI (AV.int .i64 lo) 0=lo from rfl,show fI (AV.int .i64 hi) 0=hi from rfl]
  generalize fI (xs.getD i.toNat .undef) 0=z
  by_cases h1:z<lo <;> by_cases h2:z > hi <;> simp [h1,h2] <;> omega
 rw [e]
 cases hf:findF (fun i => !v38_0 (fI (xs.getD i.toNat .undef) 0) lo hi) xs.length 0 with
 | none=>exact ⟨rfl,rfl⟩
 | some j =>
  have:=(findF_some _ _ hf).1
  refine ⟨rfl,?_⟩
  simp [ro,sumE]
  omega
theorem P33 (xs:List AV) (h:xs.length≤1048576):q33 xs=true∧v33_0 xs=v37_0 xs:=by
 rw [(P37 xs h).2]
 unfold q33 v33_0
 rw [(P34 xs _ _ h).1,(P34 xs _ _ h).2]
 have e64:decide ((xs.length:Int)≤64)=decide (xs.length≤64):=by congr 1;simp only [eq_iff_iff];omega
 rw [e64]
 cases decide (xs.length≤64) <;> simp
end Go.Proofs.YteppndjaglhehaaDoor

namespace Go.Proofs.YteppndjaglhehaaDoor
open Go Go.Proofs.VE
set_option linter.unusedVariables false
set_option linter.unusedSimpArgs false
def noneB (p:Int→Bool) (n:Nat):Bool:=(findF p n 0).isNone
theorem findF_isNone {p:Int→Bool}:∀ (m:Nat) (i:Int),(findF p m i).isNone=true ↔ ∀ j,i≤j→j<i+m→p j=false
 | 0,i=>⟨fun _ j h1 h2=>by omega,fun _=>rfl⟩
 | m+1,i=>by
  simp only [findF]
  cases hp:p i with
  | true =>
   refine ⟨fun h=>(by cases h),fun h=>?_⟩
   have:=h i (by omega) (by omega)
   rw [hp] at this
   cases this
  | false =>
   rw [cond_false,findF_isNone m (i+1)]
   refine ⟨fun h j h1 h2=>?_,fun h j h1 h2=>h j (by omega) (by omega)⟩
   by_cases e:j=i
   ·rw [e,hp]
   ·exact h j (by omega) (by omega)
theorem noneB_iff {p:Int→Bool} {n:Nat}:noneB p n=true ↔ ∀ j:Int,0≤j→j<n→p j=false:=by
 unfold noneB
 rw [findF_isNone]
 exact ⟨fun h j h1 h2=>h j h1 (by omega),fun h j h1 h2=>h j h1 (by omega)⟩
def hasI (xs:List AV) (x:Int):Bool:=(findF (fun i=>decide (fI (xs.getD i.toNat .undef) 0=x)) xs.length 0).isSome
theorem P39 (xs:List AV) (x:Int) (h:xs.length≤1048576):q39 xs x=true∧v39_0 xs x=hasI xs x:=by
 have hr:runW (R39_0 xs x) (((xs.length:Int) - 0).toNat+1) 0=some (ro (findF (fun i=>decide (fI (xs.getD i.toNat .undef) 0=x)) xs.length 0) (.inl ()) fun _ => .inr ()):=by
  refine runW_find (fun i=>i) xs.length _ _ _ (fun i h0 hn=>?_) ?_ xs.length _ 0 (Int.le_refl 0) (by omega) (by omega)
  ·simp only [R39_0,F39_0,G39_0,h0,hn,decide_true,Bool.and_self,cond_true]
   rw [wrap_in (a:=i+1) (by omega) (by omega)]
  ·simp only [R39_0,F39_0,G39_0,Int.lt_irrefl,decide_false,cond_false]
 unfold q39 v39_0 hasI
 rw [hr]
 cases findF (fun i=>decide (fI (xs.getD i.toNat .undef) 0=x)) xs.length 0 <;> exact ⟨rfl,rfl⟩
theorem P66 (xs:List AV) (x:Int) (h:xs.length≤1048576):q66 xs x=true∧v66_0 xs x=ro (findF (fun i=>decide (fI (xs.getD i.toNat .undef) 0=x)) xs.length 0) (-1) id:=by
 have hr:runW (R66_0 xs x xs.length) (((xs.length:Int) - 0).toNat+1) 0=some (ro (findF (fun i=>decide (fI (xs.getD i.toNat .undef) 0=x)) xs.length 0) (.inl ()) fun i => .inr i):=by
  refine runW_find (fun i=>i) xs.length _ _ _ (fun i h0 hn=>?_) ?_ xs.length _ 0 (Int.le_refl 0) (by omega) (by omega)
  ·simp only [R66_0,F66_0,G66_0,h0,hn,decide_true,Bool.and_self,cond_true]
   rw [wrap_in (a:=i+1) (by omega) (by omega)]
   have e:decide (x=fI (xs.getD i.toNat .undef) 0)=decide (fI (xs.getD i.toNat .undef) 0=x):=by congr 1;simp only [eq_iff_iff];omega
   rw [e]
  ·simp only [R66_0,F66_0,G66_0,Int.lt_irrefl,decide_false,cond_false]
 unfold q66 v66_0
 rw [hr]
 cases findF (fun i=>decide (fI (xs.getD i.toNat .undef) 0=x)) xs.length 0 <;> exact ⟨rfl,rfl⟩
theorem P35 (xs:List AV) (x:Int) (h:xs.length≤1048576):q35 xs x=true∧v35_0 xs x=hasI xs x:=by
 unfold q35 v35_0 hasI
 rw [(P66 xs x h).1,(P66 xs x h).2]
 refine ⟨rfl,?_⟩
 cases hf:findF (fun i=>decide (fI (xs.getD i.toNat .undef) 0=x)) xs.length 0 with
 | none=>rfl
 | some j =>
  have:=(findF_some _ _ hf).1
  simp [ro]
  omega
def badR (rs:List AV) (i:Int):Bool:=hasI ((rs.take (Int.toNat i)).drop (Int.toNat 0)) (fI (rs.getD i.toNat .undef) 0)
def badI (vs:List AV) (a b:Int):Bool := !noneB (fun k => !(decide (fI (vs.getD k.toNat .undef) 0<a) == decide (k<b))) vs.length
def badA (vs ps:List AV) (i:Int):Bool :=
 !v38_0 (fI (ps.getD i.toNat .undef) 0) (-1000) 1000 || (!v38_0 (fI (ps.getD i.toNat .undef) 1) 0 vs.length ||
  (decide (i > 0) && (decide (fI (ps.getD i.toNat .undef) 0≤fI (ps.getD (i - 1).toNat .undef) 0) || decide (fI (ps.getD i.toNat .undef) 1<fI (ps.getD (i - 1).toNat .undef) 1))))
def badP (vs ps:List AV) (i:Int):Bool:=badA vs ps i || badI vs (fI (ps.getD i.toNat .undef) 0) (fI (ps.getD i.toNat .undef) 1)
theorem run40i (vs ps:List AV) (t a b:Int) (h:vs.length≤1048576):runW (R40_2 vs ps t a b) (((vs.length:Int) - 0).toNat+1) 0=some (bif badI vs a b then .inr () else .inl ()):=by
 have hr:runW (R40_2 vs ps t a b) (((vs.length:Int) - 0).toNat+1) 0=some (ro (findF (fun k => !(decide (fI (vs.getD k.toNat .undef) 0<a) == decide (k<b))) vs.length 0) (.inl ()) fun _ => .inr ()):=by
  refine runW_find (fun i=>i) vs.length _ _ _ (fun i h0 hn=>?_) ?_ vs.length _ 0 (Int.le_refl 0) (by omega) (by omega)
  ·simp only [R40_2,F40_2,G40_2,h0,hn,decide_true,Bool.and_self,cond_true]
   rw [wrap_in (a:=i+1) (by omega) (by omega)]
  ·simp only [R40_2,F40_2,G40_2,Int.lt_irrefl,decide_false,cond_false]
 rw [hr]
 unfold badI noneB
 cases findF (fun k => !(decide (fI (vs.getD k.toNat .undef) 0<a) == decide (k<b))) vs.length 0 <;> rfl
def L40 (vs ps:List AV) (i:Int):Unit ⊕ (Int × Int) ⊕ (Int × Int):=bif badA vs ps i then .inr (.inl (fI (ps.getD i.toNat .undef) 0,fI (ps.getD i.toNat .undef) 1)) else .inr (.inr (fI (ps.getD i.toNat .undef) 0,fI (ps.getD i.toNat .undef) 1))
theorem step40 (vs ps:List AV) (i:Int) (h:vs.length≤1048576) (h':ps.length≤1048576) (h0:0≤i) (hn:i<ps.length):R40_0 vs ps i=bif badP vs ps i then .stop (L40 vs ps i) else .next (i+1):=by
 simp only [R40_0,F40_0,G40_0,h0,hn,decide_true,Bool.and_self,cond_true,run40i vs ps _ _ _ h,ro]
 rw [wrap_in (a:=i+1) (by omega) (by omega),wrap_in (a:=i - 1) (by omega) (by omega)]
 unfold badP L40 badA
 generalize badI vs (fI (ps.getD i.toNat AV.undef) 0) (fI (ps.getD i.toNat AV.undef) 1)=bi
 generalize v38_0 (fI (ps.getD i.toNat AV.undef) 0) (-1000) 1000=b1
 generalize v38_0 (fI (ps.getD i.toNat AV.undef) 1) 0 vs.length=b2
 by_cases hi:i > 0
 ·have hm:decide (0≤i - 1)=true:=decide_eq_true (by omega)
  have hm':decide (i - 1<(ps.length:Int))=true:=decide_eq_true (by omega)
  rw [decide_eq_true hi,hm,hm']
  generalize decide (fI (ps.getD i.toNat AV.undef) 0≤fI (ps.getD (i - 1).toNat AV.undef) 0)=b3
  generalize decide (fI (ps.getD i.toNat AV.undef) 1<fI (ps.getD (i - 1).toNat AV.undef) 1)=b4
  cases b1 <;> cases b2 <;> cases b3 <;> cases b4 <;> cases bi <;> rfl
 ·rw [decide_eq_false hi]
  cases b1 <;> cases b2 <;> cases bi <;> rfl
theorem P40 (vs ps:List AV) (h:vs.length≤1048576) (h':ps.length≤1048576):q40 vs ps=true∧v40_0 vs ps=noneB (badP vs ps) ps.length:=by
 have hr:runW (R40_0 vs ps) (((ps.length:Int) - 0).toNat+1) 0=some (ro (findF (badP vs ps) ps.length 0) (.inl ()) (L40 vs ps)):=by
  refine runW_find (fun i=>i) ps.length _ _ _ (fun i h0 hn=>step40 vs ps i h h' h0 hn) ?_ ps.length _ 0 (Int.le_refl 0) (by omega) (by omega)
  simp only [R40_0,F40_0,G40_0,Int.lt_irrefl,decide_false,cond_false]
 unfold q40 v40_0 noneB
 rw [hr]
 cases findF (badP vs ps) ps.length 0 with
 | none=>exact ⟨rfl,rfl⟩
 | some j =>
  simp only [ro,L40]
  cases badA vs ps j <;> exact ⟨rfl,rfl⟩
theorem run11i (vs rs ps p1 v1:List AV) (t1 t2 a b:Int) (h:vs.length≤1048576):runW (R11_4 p1 t1 t2 vs vs.length v1 rs ps a b) (((vs.length:Int) - 0).toNat+1) 0=some (bif badI vs a b then .inr () else .inl ()):=by
 have hr:runW (R11_4 p1 t1 t2 vs vs.length v1 rs ps a b) (((vs.length:Int) - 0).toNat+1) 0=some (ro (findF (fun k => !(decide (fI (vs.getD k.toNat .undef) 0<a) == decide (k<b))) vs.length 0) (.inl ()) fun _ => .inr ()):=by
  refine runW_find (fun i=>i) vs.length _ _ _ (fun i h0 hn=>?_) ?_ vs.length _ 0 (Int.le_refl 0) (by omega) (by omega)
  ·simp only [R11_4,F11_4,G11_4,h0,hn,decide_true,Bool.and_self,cond_true]
   rw [wrap_in (a:=i+1) (by omega) (by omega)]
  ·simp only [R11_4,F11_4,G11_4,Int.lt_irrefl,decide_false,cond_false]
 rw [hr]
 unfold badI noneB
 cases findF (fun k => !(decide (fI (vs.getD k.toNat .undef) 0<a) == decide (k<b))) vs.length 0 <;> rfl
theorem dlt (z n:Int):decide (z<n) = !decide (n≤z):=by
 by_cases h:n≤z
 ·rw [decide_eq_true h,decide_eq_false (by omega)];rfl
 ·rw [decide_eq_false h,decide_eq_true (by omega)];rfl
theorem dgt (z n:Int):decide (z > n) = !decide (z≤n):=by
 by_cases h:z≤n
 ·rw [decide_eq_true h,decide_eq_false (by omega)];rfl
 ·rw [decide_eq_false h,decide_eq_true (by omega)];rfl
theorem bound_eq (v:Int):v36_0 v=v38_0 v (-1000) 1000:=by
 unfold v36_0
 rw [v38]
 by_cases h1 : -1000≤v <;> by_cases h2:v≤1000 <;> simp [h1,h2]
theorem step11 (vs rs ps:List AV) (i:Int) (h:vs.length≤1048576) (h':ps.length≤1048576) (h0:0≤i) (hn:i<ps.length):R11_2 ps ps.length vs rs ps i=bif badP vs ps i then .stop (L40 vs ps i) else .next (i+1):=by
 simp only [R11_2,F11_2,G11_2,h0,hn,decide_true,Bool.and_self,cond_true,run11i vs rs ps ps vs _ _ _ _ h,ro,bound_eq]
 rw [wrap_in (a:=i+1) (by omega) (by omega),wrap_in (a:=i - 1) (by omega) (by omega)]
 unfold badP L40 badA
 rw [v38 (fI (ps.getD i.toNat AV.undef) 1) 0 vs.length]
 generalize badI vs (fI (ps.getD i.toNat AV.undef) 0) (fI (ps.getD i.toNat AV.undef) 1)=bi
 generalize v38_0 (fI (ps.getD i.toNat AV.undef) 0) (-1000) 1000=b1
 rw [dlt (fI (ps.getD i.toNat AV.undef) 1) 0,dgt (fI (ps.getD i.toNat AV.undef) 1)]
 generalize decide (0≤fI (ps.getD i.toNat AV.undef) 1)=b2
 generalize decide (fI (ps.getD i.toNat AV.undef) 1≤(vs.length:Int))=b5
 by_cases hi:i > 0
 ·have hm:decide (0≤i - 1)=true:=decide_eq_true (by omega)
  have hm':decide (i - 1<(ps.length:Int))=true:=decide_eq_true (by omega)
  rw [decide_eq_true hi,hm,hm']
  generalize decide (fI (ps.getD i.toNat AV.undef) 0≤fI (ps.getD (i - 1).toNat AV.undef) 0)=b3
  generalize decide (fI (ps.getD i.toNat AV.undef) 1<fI (ps.getD (i - 1).toNat AV.undef) 1)=b4
  cases b1 <;> cases b2 <;> cases b5 <;> cases b3 <;> cases b4 <;> cases bi <;> rfl
 ·rw [decide_eq_false hi]
  cases b1 <;> cases b2 <;> cases b5 <;> cases bi <;> rfl
theorem run11 (vs rs ps:List AV) (h:vs.length≤1048576) (h':ps.length≤1048576):runW (R11_2 ps ps.length vs rs ps) (((ps.length:Int) - 0).toNat+1) 0=some (ro (findF (badP vs ps) ps.length 0) (.inl ()) (L40 vs ps)):=by
 refine runW_find (fun i=>i) ps.length _ _ _ (fun i h0 hn=>step11 vs rs ps i h h' h0 hn) ?_ ps.length _ 0 (Int.le_refl 0) (by omega) (by omega)
 simp only [R11_2,F11_2,G11_2,Int.lt_irrefl,decide_false,cond_false]
theorem run12 (vs rs ps:List AV) (h:rs.length≤1048576):runW (R12_0 vs rs ps) (((rs.length:Int) - 0).toNat+1) 0=some (ro (findF (fun i => !v38_0 (fI (rs.getD i.toNat .undef) 0) 0 999 || badR rs i) rs.length 0) (.inl ()) fun _ => .inr ()):=by
 refine runW_find (fun i=>i) rs.length _ _ _ (fun i h0 hn=>?_) ?_ rs.length _ 0 (Int.le_refl 0) (by omega) (by omega)
 ·have hl:((rs.take (Int.toNat i)).drop (Int.toNat 0)).length≤1048576:=by rw [List.length_drop,List.length_take];omega
  have hle:decide (i≤(rs.length:Int))=true:=decide_eq_true (by omega)
  have h00:decide ((0:Int)≤0)=true:=rfl
  have h00n:decide ((0:Nat)≤0)=true:=rfl
  simp only [R12_0,F12_0,G12_0,h0,hn,hle,h00,h00n,decide_true,Bool.and_self,cond_true,(P39 _ _ hl).1,(P39 _ _ hl).2,badR]
  rw [wrap_in (a:=i+1) (by omega) (by omega)]
  cases v38_0 (fI (rs.getD i.toNat .undef) 0) 0 999 <;> cases hasI ((rs.take (Int.toNat i)).drop (Int.toNat 0)) (fI (rs.getD i.toNat .undef) 0) <;> rfl
 ·simp only [R12_0,F12_0,G12_0,Int.lt_irrefl,decide_false,cond_false]
theorem run11r (vs rs ps:List AV) (h:rs.length≤1048576):runW (R11_0 rs rs.length vs rs ps) (((rs.length:Int) - 0).toNat+1) 0=some (ro (findF (badR rs) rs.length 0) (.inl ()) fun _ => .inr ()):=by
 refine runW_find (fun i=>i) rs.length _ _ _ (fun i h0 hn=>?_) ?_ rs.length _ 0 (Int.le_refl 0) (by omega) (by omega)
 ·have hl:((rs.take (Int.toNat i)).drop (Int.toNat 0)).length≤1048576:=by rw [List.length_drop,List.length_take];omega
  have hle:decide (i≤(rs.length:Int))=true:=decide_eq_true (by omega)
  have h00:decide ((0:Int)≤0)=true:=rfl
  have h00n:decide ((0:Nat)≤0)=true:=rfl
  simp only [R11_0,F11_0,G11_0,h0,hn,hle,h00,h00n,decide_true,Bool.and_self,cond_true,(P35 _ _ hl).1,(P35 _ _ hl).2,badR]
  rw [wrap_in (a:=i+1) (by omega) (by omega)]
 ·simp only [R11_0,F11_0,G11_0,Int.lt_irrefl,decide_false,cond_false]
def isC (vs rs ps:List AV):Bool:=v37_0 vs && (decide ((rs.length:Int)=vs.length) && (noneB (fun i => !v38_0 (fI (rs.getD i.toNat .undef) 0) 0 999) rs.length && (noneB (badR rs) rs.length && noneB (badP vs ps) ps.length)))
theorem noneB_or (p q:Int→Bool) (n:Nat):noneB (fun i=>p i || q i) n=(noneB p n && noneB q n):=by
 rw [Bool.eq_iff_iff,Bool.and_eq_true,noneB_iff,noneB_iff,noneB_iff]
 constructor
 ·intro h
  exact ⟨fun j h1 h2=>by have:=h j h1 h2;simp only [Bool.or_eq_false_iff] at this;exact this.1,fun j h1 h2=>by have:=h j h1 h2;simp only [Bool.or_eq_false_iff] at this;exact this.2⟩
 ·rintro ⟨h,h'⟩ j h1 h2
  rw [h j h1 h2,h' j h1 h2]
  rfl
theorem P12 (vs rs ps:List AV) (h:vs.length≤1048576) (h':rs.length≤1048576) (h'':ps.length≤1048576):q12 vs rs ps=true∧v12_0 vs rs ps=isC vs rs ps:=by
 unfold q12 v12_0 isC
 rw [(P37 vs h).1,run12 vs rs ps h',(P40 vs ps h h'').1,(P40 vs ps h h'').2,← Bool.and_assoc (noneB _ _) (noneB _ _),← noneB_or]
 generalize noneB (badP vs ps) ps.length=bp
 unfold noneB
 cases v37_0 vs <;> cases decide ((rs.length:Int)=vs.length) <;> cases findF (fun i => !v38_0 (fI (rs.getD i.toNat .undef) 0) 0 999 || badR rs i) rs.length 0 <;> exact ⟨rfl,rfl⟩
theorem few (vs ps:List AV) (h:noneB (badP vs ps) ps.length=true):ps.length≤2001:=by
 rw [noneB_iff] at h
 have hb:∀ j:Int,0≤j→j<ps.length→(-1000≤fI (ps.getD j.toNat .undef) 0∧fI (ps.getD j.toNat .undef) 0≤1000)∧(0<j→fI (ps.getD (j - 1).toNat .undef) 0<fI (ps.getD j.toNat .undef) 0):=fun j h0 hn=>by
  have e:=h j h0 hn
  simp only [badP,badA,v38,Bool.or_eq_false_iff,Bool.not_eq_false',Bool.and_eq_true,decide_eq_true_eq] at e
  refine ⟨e.1.1,fun hj=>?_⟩
  have e3:=e.1.2.2
  rw [decide_eq_true hj,Bool.true_and,Bool.or_eq_false_iff] at e3
  have:=e3.1
  simp only [decide_eq_false_iff_not] at this
  omega
 have grow:∀ m:Nat,(m:Int)<ps.length→(m:Int) - 1000≤fI (ps.getD m .undef) 0:=by
  intro m
  induction m with
  | zero=>intro hm;have:=(hb 0 (by omega) hm).1.1;simp at this ⊢;exact this
  | succ m ih =>
   intro hm
   have h1:=ih (by omega)
   have h2:=(hb ((m:Int)+1) (by omega) (by omega)).2 (by omega)
   rw [show ((m:Int)+1 - 1).toNat=m by omega,show ((m:Int)+1).toNat=m+1 by omega] at h2
   omega
 by_cases hl:ps.length≤2001
 ·exact hl
 ·exfalso
  have h1:=grow 2001 (by omega)
  have h2:=(hb 2001 (by omega) (by omega)).1.2
  rw [show ((2001:Int)).toNat=2001 from rfl] at h2
  omega
theorem P11 (vs rs ps:List AV) (h:vs.length≤1048576) (h':rs.length≤1048576) (h'':ps.length≤1048576):q11 vs rs ps=true∧v11_0 vs rs ps=isC vs rs ps:=by
 unfold q11 v11_0 isC
 rw [(P33 vs h).1,(P33 vs h).2,(P34 rs _ _ h').1,(P34 rs _ _ h').2,run11r vs rs ps h',run11 vs rs ps h h'']
 have hf:=few vs ps
 unfold noneB at hf ⊢
 cases v37_0 vs with
 | false=>exact ⟨rfl,rfl⟩
 | true =>
  cases decide ((rs.length:Int)=vs.length) with
  | false=>exact ⟨rfl,rfl⟩
  | true =>
   cases findF (fun i => !v38_0 (fI (rs.getD i.toNat .undef) 0) 0 999) rs.length 0 with
   | some j=>exact ⟨rfl,rfl⟩
   | none =>
    cases hp:findF (badP vs ps) ps.length 0 with
    | none =>
     rw [hp] at hf
     have c:decide ((ps.length:Int) > 2001)=false:=decide_eq_false (by have:=hf rfl;omega)
     rw [c]
     cases findF (badR rs) rs.length 0 <;> exact ⟨rfl,rfl⟩
    | some j =>
     cases decide ((ps.length:Int) > 2001) with
     | true=>cases findF (badR rs) rs.length 0 <;> exact ⟨rfl,rfl⟩
     | false =>
      cases findF (badR rs) rs.length 0 with
      | some k=>exact ⟨rfl,rfl⟩
      | none =>
       simp only [ro,sumE,L40]
       cases badA vs ps j <;> exact ⟨rfl,rfl⟩
end Go.Proofs.YteppndjaglhehaaDoor

namespace Go.Proofs.YteppndjaglhehaaDoor
open Go Go.Proofs.VE
set_option linter.unusedVariables false
set_option linter.unusedSimpArgs false
def el (xs:List AV) (k:Int):Int:=fI (xs.getD k.toNat .undef) 0
def pat (ps:List AV) (k:Int):Int:=fI (ps.getD k.toNat .undef) 1
structure Col (vs rs ps:List AV):Prop where
 n64:vs.length≤64
 vals:∀ k:Int,0≤k→k<vs.length → -999≤el vs k∧el vs k≤999
 len:(rs.length:Int)=vs.length
 rows:∀ k:Int,0≤k→k<rs.length→0≤el rs k∧el rs k≤999
 dist:∀ j k:Int,0≤j→j<k→k<rs.length→el rs j ≠ el rs k
 pv:∀ i:Int,0≤i→i<ps.length → -1000≤el ps i∧el ps i≤1000
 pa:∀ i:Int,0≤i→i<ps.length→0≤pat ps i∧pat ps i≤vs.length
 asc:∀ i:Int,0<i→i<ps.length→el ps (i - 1)<el ps i∧pat ps (i - 1)≤pat ps i
 part:∀ i:Int,0≤i→i<ps.length→∀ k:Int,0≤k→k<vs.length→(el vs k<el ps i ↔ k<pat ps i)
theorem hasI_iff (xs:List AV) (x:Int):hasI xs x=true ↔ ∃ j:Int,0≤j∧j<xs.length∧el xs j=x:=by
 unfold hasI
 constructor
 ·intro h
  obtain ⟨j,hj⟩:=Option.isSome_iff_exists.1 h
  obtain ⟨h1,h2,h3⟩:=findF_some _ _ hj
  exact ⟨j,h1,by omega,of_decide_eq_true h3⟩
 ·rintro ⟨j,h1,h2,h3⟩
  cases hf:findF (fun i=>decide (fI (xs.getD i.toNat .undef) 0=x)) xs.length 0 with
  | some j=>rfl
  | none =>
   have h:(findF (fun i=>decide (fI (xs.getD i.toNat .undef) 0=x)) xs.length 0).isNone=true:=by rw [hf];rfl
   have:=(findF_isNone _ _).1 h j h1 (by omega)
   exact absurd h3 (of_decide_eq_false this)
theorem badR_iff (rs:List AV) (k:Int) (h0:0≤k) (h1:k<rs.length):badR rs k=false ↔ ∀ j:Int,0≤j→j<k→el rs j ≠ el rs k:=by
 have ek:fI (rs.getD k.toNat .undef) 0=el rs k:=rfl
 have e0:Int.toNat 0=0:=rfl
 unfold badR
 rw [ek,e0,List.drop_zero]
 have tl:(rs.take (Int.toNat k)).length=k.toNat:=by rw [List.length_take];omega
 have te:∀ j:Int,0≤j→j<k→el (rs.take (Int.toNat k)) j=el rs j:=fun j j0 j1=>by
  unfold el
  simp only [List.getD_eq_getElem?_getD]
  rw [List.getElem?_take_of_lt (by omega)]
 constructor
 ·intro h j j0 j1 e
  have:hasI (rs.take (Int.toNat k)) (el rs k)=true:=(hasI_iff _ _).2 ⟨j,j0,by rw [tl];omega,by rw [te j j0 j1];exact e⟩
  rw [h] at this
  cases this
 ·intro h
  cases hb:hasI (rs.take (Int.toNat k)) (el rs k) with
  | false=>rfl
  | true =>
   obtain ⟨j,j0,j1,j2⟩:=(hasI_iff _ _).1 hb
   rw [tl] at j1
   rw [te j j0 (by omega)] at j2
   exact absurd j2 (h j j0 (by omega))
theorem badI_iff (vs:List AV) (a b:Int):badI vs a b=false ↔ ∀ k:Int,0≤k→k<vs.length→(el vs k<a ↔ k<b):=by
 unfold badI
 rw [Bool.not_eq_false',noneB_iff]
 constructor
 ·intro h k h0 h1
  have:=h k h0 h1
  simp only [Bool.not_eq_false',beq_iff_eq] at this
  constructor
  ·intro hk
   rw [decide_eq_true (show fI (vs.getD k.toNat .undef) 0<a from hk)] at this
   exact of_decide_eq_true this.symm
  ·intro hk
   rw [decide_eq_true hk] at this
   exact of_decide_eq_true this
 ·intro h k h0 h1
  have:=h k h0 h1
  simp only [Bool.not_eq_false',beq_iff_eq]
  by_cases hk:k<b
  ·rw [decide_eq_true hk,decide_eq_true (show fI (vs.getD k.toNat .undef) 0<a from this.2 hk)]
  ·rw [decide_eq_false hk,decide_eq_false (show ¬ fI (vs.getD k.toNat .undef) 0<a from fun h=>hk (this.1 h))]
theorem badP_iff (vs ps:List AV) (i:Int):badP vs ps i=false ↔ ((-1000≤el ps i∧el ps i≤1000)∧(0≤pat ps i∧pat ps i≤vs.length)∧(0<i→el ps (i - 1)<el ps i∧pat ps (i - 1)≤pat ps i))∧∀ k:Int,0≤k→k<vs.length→(el vs k<el ps i ↔ k<pat ps i):=by
 unfold badP
 rw [Bool.or_eq_false_iff,badI_iff]
 have e:badA vs ps i=false ↔ ((-1000≤el ps i∧el ps i≤1000)∧(0≤pat ps i∧pat ps i≤vs.length)∧(0<i→el ps (i - 1)<el ps i∧pat ps (i - 1)≤pat ps i)):=by
  unfold badA el pat
  simp only [v38,Bool.or_eq_false_iff,Bool.not_eq_false',Bool.and_eq_true,decide_eq_true_eq,Bool.and_eq_false_iff,decide_eq_false_iff_not]
  constructor
  ·rintro ⟨h1,h2,h3⟩
   exact ⟨h1,h2,fun hi=>by rcases h3 with h3|h3 <;> omega⟩
  ·rintro ⟨h1,h2,h3⟩
   refine ⟨h1,h2,?_⟩
   by_cases hi:i > 0
   ·have:=h3 hi
    right
    omega
   ·exact .inl hi
 rw [e]
 rfl
theorem isC_iff (vs rs ps:List AV) (h:vs.length≤1048576):isC vs rs ps=true ↔ Col vs rs ps:=by
 unfold isC
 rw [(P37 vs h).2]
 simp only [Bool.and_eq_true,decide_eq_true_eq,noneB_iff]
 rw [findF_isNone]
 constructor
 ·rintro ⟨⟨h1,h2⟩,h3,h4,h5,h6⟩
  refine ⟨h2,fun k k0 k1=>?_,h3,fun k k0 k1=>?_,fun j k j0 jk k1=>(badR_iff rs k (by omega) k1).1 (h5 k (by omega) k1) j j0 jk,fun i i0 i1=>((badP_iff vs ps i).1 (h6 i i0 i1)).1.1,fun i i0 i1=>((badP_iff vs ps i).1 (h6 i i0 i1)).1.2.1,
   fun i i0 i1=>((badP_iff vs ps i).1 (h6 i (by omega) i1)).1.2.2 i0,fun i i0 i1=>((badP_iff vs ps i).1 (h6 i i0 i1)).2⟩
  ·have:=h1 k k0 (by omega)
   simp only [v38,Bool.not_eq_false',Bool.and_eq_true,decide_eq_true_eq] at this
   exact this
  ·have:=h4 k k0 k1
   simp only [v38,Bool.not_eq_false',Bool.and_eq_true,decide_eq_true_eq] at this
   exact this
 ·rintro ⟨a1,a2,a3,a4,a5,a6,a7,a8,a9⟩
  refine ⟨⟨fun k k0 k1=>?_,a1⟩,a3,fun k k0 k1=>?_,fun k k0 k1=>(badR_iff rs k k0 k1).2 fun j j0 jk=>a5 j k j0 jk k1,fun i i0 i1=>(badP_iff vs ps i).2 ⟨⟨a6 i i0 i1,a7 i i0 i1,fun hi=>a8 i hi i1⟩,a9 i i0 i1⟩⟩
  ·simp only [v38,Bool.not_eq_false',Bool.and_eq_true,decide_eq_true_eq]
   exact a2 k k0 (by omega)
  ·simp only [v38,Bool.not_eq_false',Bool.and_eq_true,decide_eq_true_eq]
   exact a4 k k0 k1
theorem Col.up {vs rs ps:List AV} (h:Col vs rs ps):∀ (d:Nat) (i:Int),0≤i→i+d<ps.length→(0<d→el ps i<el ps (i+d))∧pat ps i≤pat ps (i+d)
 | 0,i,_,_=>⟨fun h=>absurd h (by omega),by rw [show i+((0:Nat):Int)=i by omega];exact Int.le_refl _⟩
 | d+1,i,h0,h1=>by
  obtain ⟨a,b⟩:=Col.up h d i h0 (by omega)
  obtain ⟨c,e⟩:=h.asc (i+((d+1:Nat):Int)) (by omega) h1
  rw [show i+((d+1:Nat):Int) - 1=i+d by omega] at c e
  refine ⟨fun _=>?_,by omega⟩
  rcases Nat.eq_zero_or_pos d with hd|hd
  ·subst hd
   rw [show i+((0:Nat):Int)=i by omega] at c
   exact c
  ·have:=a hd
   omega
theorem Col.lt {vs rs ps:List AV} (h:Col vs rs ps) {i j:Int} (h0:0≤i) (h1:i<j) (h2:j<ps.length):el ps i<el ps j∧pat ps i≤pat ps j:=by
 have:=h.up (j - i).toNat i h0 (by omega)
 rw [show i+((j - i).toNat:Int)=j by omega] at this
 exact ⟨this.1 (by omega),this.2⟩
theorem sw_len (i j:Int) (xs:List AV):(v115_0 i j xs).length=xs.length:=by unfold v115_0;rw [List.length_set,List.length_set]
theorem el_set (xs:List AV) (i k:Int) (x:Int) (h0:0≤i) (h1:i<xs.length) (k0:0≤k):el (xs.set i.toNat (AV.agg [AV.int .i64 x])) k=if k=i then x else el xs k:=by
 unfold el
 by_cases e:k=i
 ·subst e
  rw [if_pos rfl,getD_set (by omega)]
  rfl
 ·rw [if_neg e]
  simp only [List.getD_eq_getElem?_getD]
  rw [List.getElem?_set_ne (by omega)]
theorem el_sw (xs:List AV) (i j k:Int) (i0:0≤i) (i1:i<xs.length) (j0:0≤j) (j1:j<xs.length) (k0:0≤k):el (v115_0 i j xs) k=if k=j then el xs i else if k=i then el xs j else el xs k:=by
 unfold v115_0
 rw [el_set _ _ _ _ j0 (by rw [List.length_set];exact j1) k0,el_set _ _ _ _ i0 i1 k0]
 rfl
theorem Col.sw {vs rs ps:List AV} (h:Col vs rs ps) {a b i j:Int} (a0:0≤a) (b1:b≤vs.length) (hab:∀ p:Int,0≤p→p<ps.length→pat ps p≤a∨b≤pat ps p) (i0:a≤i) (i1:i<b) (j0:a≤j) (j1:j<b) :
  Col (v115_0 i j vs) (v115_0 i j rs) ps:=by
 have hl:=h.len
 have ev:∀ k:Int,0≤k→el (v115_0 i j vs) k=if k=j then el vs i else if k=i then el vs j else el vs k:=fun k k0=>el_sw vs i j k (by omega) (by omega) (by omega) (by omega) k0
 have er:∀ k:Int,0≤k→el (v115_0 i j rs) k=if k=j then el rs i else if k=i then el rs j else el rs k:=fun k k0=>el_sw rs i j k (by omega) (by omega) (by omega) (by omega) k0
 have dd:∀ p q:Int,0≤p→p<rs.length→0≤q→q<rs.length→p ≠ q→el rs p ≠ el rs q:=fun p q p0 p1 q0 q1 hn e=>by
  rcases Int.lt_or_gt_of_ne hn with h1|h1
  ·exact h.dist p q p0 h1 q1 e
  ·exact h.dist q p q0 h1 p1 e.symm
 refine ⟨by rw [sw_len];exact h.n64,fun k k0 k1=>?_,by rw [sw_len,sw_len];exact h.len,fun k k0 k1=>?_,fun p q p0 pq q1=>?_,h.pv,fun i' i0' i1'=>by rw [sw_len];exact h.pa i' i0' i1',h.asc,fun p p0 p1 k k0 k1=>?_⟩
 ·rw [sw_len] at k1
  rw [ev k k0]
  split
  ·exact h.vals i (by omega) (by omega)
  ·split
   ·exact h.vals j (by omega) (by omega)
   ·exact h.vals k k0 k1
 ·rw [sw_len] at k1
  rw [er k k0]
  split
  ·exact h.rows i (by omega) (by omega)
  ·split
   ·exact h.rows j (by omega) (by omega)
   ·exact h.rows k k0 k1
 ·rw [sw_len] at q1
  rw [er p p0,er q (by omega)]
  split
  ·split
   ·omega
   ·split
    ·rename_i e1 e2 e3
     exact dd i j (by omega) (by omega) (by omega) (by omega) (by omega)
    ·rename_i e1 e2 e3
     exact dd i q (by omega) (by omega) (by omega) (by omega) (by omega)
  ·split
   ·split
    ·rename_i e1 e2 e3
     exact dd j i (by omega) (by omega) (by omega) (by omega) (by omega)
    ·split
     ·omega
     ·exact dd j q (by omega) (by omega) (by omega) (by omega) (by omega)
   ·split
    ·exact dd p i (by omega) (by omega) (by omega) (by omega) (by omega)
    ·split
     ·exact dd p j (by omega) (by omega) (by omega) (by omega) (by omega)
     ·exact h.dist p q p0 pq q1
 ·rw [sw_len] at k1
  rw [ev k k0]
  have hp:=hab p p0 p1
  have hi:=h.part p p0 p1 i (by omega) (by omega)
  have hj:=h.part p p0 p1 j (by omega) (by omega)
  split
  ·rw [hi]
   omega
  ·split
   ·rw [hj]
    omega
   ·exact h.part p p0 p1 k k0 k1
def appS (ss xs:List AV):List AV:=ss.foldl (fun xs s=>v115_0 (fI s 0) (fI s 1) xs) xs
theorem appS_cons (s:AV) (ss xs:List AV):appS (s :: ss) xs=appS ss (v115_0 (fI s 0) (fI s 1) xs):=rfl
theorem appS_snoc (s:AV) (ss xs:List AV):appS (ss++[s]) xs=v115_0 (fI s 0) (fI s 1) (appS ss xs):=by unfold appS;rw [List.foldl_append];rfl
theorem appS_len (ss:List AV):∀ xs:List AV,(appS ss xs).length=xs.length:=by
 induction ss with
 | nil=>intro xs;rfl
 | cons s ss ih=>intro xs;rw [appS_cons,ih,sw_len]
def inS (a b:Int) (ss:List AV):Prop:=∀ s ∈ ss,a≤fI s 0∧fI s 0<b∧a≤fI s 1∧fI s 1<b
theorem Col.swaps {ps:List AV} {a b:Int} (a0:0≤a) (hab:∀ p:Int,0≤p→p<ps.length→pat ps p≤a∨b≤pat ps p):∀ (ss vs rs:List AV),Col vs rs ps→b≤vs.length→inS a b ss→Col (appS ss vs) (appS ss rs) ps
 | [],vs,rs,h,_,_=>h
 | s :: ss,vs,rs,h,hb,hs=>by
  obtain ⟨h1,h2,h3,h4⟩:=hs s List.mem_cons_self
  exact Col.swaps a0 hab ss _ _ (h.sw a0 hb hab h1 h2 h3 h4) (by rw [sw_len];exact hb) fun x hx=>hs x (List.mem_cons_of_mem _ hx)
end Go.Proofs.YteppndjaglhehaaDoor

namespace Go.Proofs.YteppndjaglhehaaDoor
open Go Go.Proofs.VE
set_option linter.unusedVariables false
set_option linter.unusedSimpArgs false
def mk2 (a b:Int):AV:=AV.agg [AV.int .i64 a,AV.int .i64 b]
def N2 (ps:List AV):Prop:=∀ x ∈ ps,mk2 (fI x 0) (fI x 1)=x
theorem N2.at {ps:List AV} (h:N2 ps) {k:Int} (h0:0≤k) (h1:k<ps.length):mk2 (fI (ps.getD k.toNat .undef) 0) (fI (ps.getD k.toNat .undef) 1)=ps.getD k.toNat .undef:=by
 refine h _ ?_
 rw [List.getD_eq_getElem?_getD,List.getElem?_eq_getElem (by omega)]
 exact List.getElem_mem _
theorem N2.map {f:AV→AV} (hf:∀ x,∃ a b,f x=mk2 a b) (xs:List AV):N2 (xs.map f):=fun x hx=>by
 obtain ⟨y,_,rfl⟩:=List.mem_map.1 hx
 obtain ⟨a,b,e⟩:=hf y
 rw [e]
 rfl
theorem take_snoc {xs:List AV} {k:Int} (h0:0≤k) (h1:k<xs.length):xs.take (k+1).toNat=xs.take k.toNat++[xs.getD k.toNat .undef]:=by
 rw [show (k+1).toNat=k.toNat+1 by omega,List.take_add_one,List.getD_eq_getElem?_getD,List.getElem?_eq_getElem (by omega)]
 rfl
def findP (ps:List AV) (v:Int):Option Int:=findF (fun i=>decide (fI (ps.getD i.toNat .undef) 0=v)) ps.length 0
theorem P98 (vs rs ps:List AV) (v:Int) (h:ps.length≤1048576):q98 vs rs ps v=true∧v98_0 vs rs ps v=ro (findP ps v) 0 (pat ps)∧v98_1 vs rs ps v=(findP ps v).isSome:=by
 have hr:runW (R98_0 v vs rs ps) (((ps.length:Int) - 0).toNat+1) 0=some (ro (findP ps v) (.inl ()) fun i => .inr (fI (ps.getD i.toNat .undef) 1)):=by
  refine runW_find (fun i=>i) ps.length _ _ _ (fun i h0 hn=>?_) ?_ ps.length _ 0 (Int.le_refl 0) (by omega) (by omega)
  ·simp only [R98_0,F98_0,G98_0,h0,hn,decide_true,Bool.and_self,cond_true]
   rw [wrap_in (a:=i+1) (by omega) (by omega)]
  ·simp only [R98_0,F98_0,G98_0,Int.lt_irrefl,decide_false,cond_false]
 unfold q98 v98_0 v98_1
 rw [hr]
 cases findP ps v <;> exact ⟨rfl,rfl,rfl⟩
theorem findP_none {ps:List AV} {v:Int} (h:(findP ps v).isSome=false):∀ k:Int,0≤k→k<ps.length→el ps k ≠ v:=fun k h0 h1 e=>by
 have:(findP ps v).isNone=true:=by
  cases hf:findP ps v with
  | none=>rfl
  | some j=>rw [hf] at h;cases h
 have:=(findF_isNone _ _).1 this k h0 (by omega)
 exact of_decide_eq_false this e
structure Pc (n:Int) (ps:List AV) (v a b t:Int):Prop where
 t0:0≤t
 t1:t≤ps.length
 lo:∀ k:Int,0≤k→k<t→el ps k<v
 hi:∀ k:Int,t≤k→k<ps.length→v<el ps k
 ea:a=if t=0 then 0 else pat ps (t - 1)
 eb:b=if t=ps.length then n else pat ps t
def place (ps:List AV) (v:Int):Int:=ro (findF (fun i=>decide (fI (ps.getD i.toNat .undef) 0 > v)) ps.length 0) ps.length id
theorem place_spec (ps:List AV) (v:Int):0≤place ps v∧place ps v≤ps.length∧(∀ k:Int,0≤k→k<place ps v→el ps k≤v)∧(place ps v<ps.length→v<el ps (place ps v)):=by
 unfold place
 cases hf:findF (fun i=>decide (fI (ps.getD i.toNat .undef) 0 > v)) ps.length 0 with
 | none =>
  refine ⟨by simp [ro],by simp [ro],fun k h0 h1=>?_,fun h=>?_⟩
  ·have:(findF (fun i=>decide (fI (ps.getD i.toNat .undef) 0 > v)) ps.length 0).isNone=true:=by rw [hf];rfl
   have:=(findF_isNone _ _).1 this k h0 (by simp only [ro] at h1;omega)
   have:=of_decide_eq_false this
   unfold el
   omega
  ·simp only [ro] at h
   omega
 | some j =>
  obtain ⟨h1,h2,h3⟩:=findF_some _ _ hf
  refine ⟨by simpa [ro] using h1,by simp only [ro,id];omega,fun k h0 hk=>?_,fun _=>?_⟩
  ·simp only [ro,id] at hk
   have key:∀ (m:Nat) (i:Int),findF (fun i=>decide (fI (ps.getD i.toNat .undef) 0 > v)) m i=some j→∀ k,i≤k→k<j→¬ fI (ps.getD k.toNat .undef) 0 > v:=by
    intro m
    induction m with
    | zero=>intro i h;cases h
    | succ m ih =>
     intro i h k hk1 hk2
     simp only [findF] at h
     cases hp:decide (fI (ps.getD i.toNat .undef) 0 > v) with
     | true=>rw [hp] at h;simp only [cond_true,Option.some.injEq] at h;omega
     | false =>
      rw [hp] at h
      by_cases e:k=i
      ·subst e;exact of_decide_eq_false hp
      ·exact ih (i+1) h k (by omega) hk2
   have:=key _ _ hf k h0 hk
   unfold el
   omega
  ·simp only [ro,id]
   exact of_decide_eq_true h3
theorem pc_of {vs rs ps:List AV} (h:Col vs rs ps) {v:Int} (hf:(findP ps v).isSome=false):Pc vs.length ps v (if place ps v=0 then 0 else pat ps (place ps v - 1)) (if place ps v=ps.length then (vs.length:Int) else pat ps (place ps v)) (place ps v):=by
 obtain ⟨h0,h1,h2,h3⟩:=place_spec ps v
 refine ⟨h0,h1,fun k k0 k1=>?_,fun k k0 k1=>?_,rfl,rfl⟩
 ·have:=findP_none hf k k0 (by omega)
  have:=h2 k k0 k1
  omega
 ·by_cases e:k=place ps v
  ·rw [e];exact h3 (by omega)
  ·have:=(h.lt (i:=place ps v) (j:=k) h0 (by omega) k1).1
   have:=h3 (by omega)
   omega
theorem P114 {n:Nat} {ps:List AV} {v a b t:Int} (h:Pc n ps v a b t) (hl:ps.length≤1048576):q114 n ps v=true∧v114_0 n ps v=a∧v114_1 n ps v=b:=by
 have ht1:=h.t1
 have ht0:=h.t0
 obtain ⟨r,h1,h2⟩:=runW_ends (f:=R114_0 ps v (n:Int)) (fun s:Int × Int=>0≤s.2∧s.2≤ps.length∧s.1=if min s.2 t=0 then 0 else pat ps (min s.2 t - 1)) (fun r=>r=a) (fun s=>((ps.length:Int) - s.2).toNat) (fun s hs=>by
   obtain ⟨t8,k⟩:=s
   obtain ⟨k0,k1,e⟩:=hs
   simp only at k0 k1 e
   by_cases hk:k<ps.length
   ·have d1:decide (k<(ps.length:Int))=true:=decide_eq_true hk
    have d2:decide (0≤k)=true:=decide_eq_true k0
    have wk:IntKind.i64.wrap (k+1)=k+1:=wrap_in (by omega) (by omega)
    by_cases hkt:k<t
    ·have hv:=h.lo k k0 hkt
     have d3:decide (fI (ps.getD k.toNat .undef) 0≤v)=true:=decide_eq_true (Int.le_of_lt hv)
     refine .inl ⟨(pat ps k,k+1),?_,⟨by simp only;omega,by simp only;omega,?_⟩,by simp only;omega⟩
     ·simp only [R114_0,F114_0,G114_0,d1,d2,d3,wk,Bool.and_self,cond_true,cond_false]
      rfl
     ·simp only
      rw [Int.min_eq_left (by omega:k+1≤t),if_neg (by omega),show k+1 - 1=k by omega]
    ·have hv:=h.hi k (by omega) hk
     have d3:decide (fI (ps.getD k.toNat .undef) 0≤v)=false:=decide_eq_false (by unfold el at hv;omega)
     refine .inl ⟨(t8,k+1),?_,⟨by simp only;omega,by simp only;omega,?_⟩,by simp only;omega⟩
     ·simp only [R114_0,F114_0,G114_0,d1,d2,d3,wk,Bool.and_self,cond_true,cond_false]
     ·simp only
      rw [e,Int.min_eq_right (by omega:t≤k+1),Int.min_eq_right (by omega:t≤k)]
   ·have d1:decide (k<(ps.length:Int))=false:=decide_eq_false hk
    refine .inr ⟨t8,?_,?_⟩
    ·simp only [R114_0,F114_0,G114_0,d1,cond_false]
    ·rw [e,h.ea,Int.min_eq_right (by omega:t≤k)]) (((ps.length:Int) - 0).toNat+1) (0,0) ⟨by simp,by simp,by simp only;rw [Int.min_eq_left ht0];rfl⟩ (by simp)
 subst h2
 obtain ⟨r',h3,h4⟩:=runW_ends (f:=R114_2 ps v r) (fun s:Int × Int => -1≤s.2∧s.2<ps.length∧s.1=if max (s.2+1) t=ps.length then (n:Int) else pat ps (max (s.2+1) t)) (fun r=>r=b) (fun s=>(s.2+1).toNat) (fun s hs=>by
   obtain ⟨t9,k⟩:=s
   obtain ⟨k0,k1,e⟩:=hs
   simp only at k0 k1 e
   by_cases hk:k ≥ 0
   ·have d1:decide (k ≥ 0)=true:=decide_eq_true hk
    have d2:decide (0≤k)=true:=decide_eq_true hk
    have d3:decide (k<(ps.length:Int))=true:=decide_eq_true k1
    have wk:IntKind.i64.wrap (k - 1)=k - 1:=wrap_in (by omega) (by omega)
    by_cases hkt:k<t
    ·have hv:=h.lo k hk hkt
     have d4:decide (fI (ps.getD k.toNat .undef) 0 ≥ v)=false:=decide_eq_false (by unfold el at hv;omega)
     refine .inl ⟨(t9,k - 1),?_,⟨by simp only;omega,by simp only;omega,?_⟩,by simp only;omega⟩
     ·simp only [R114_2,F114_2,G114_2,d1,d2,d3,d4,wk,Bool.and_self,cond_true,cond_false]
     ·simp only
      rw [e,Int.max_eq_right (by omega:k+1≤t),Int.max_eq_right (by omega:k - 1+1≤t)]
    ·have hv:=h.hi k (by omega) k1
     have d4:decide (fI (ps.getD k.toNat .undef) 0 ≥ v)=true:=decide_eq_true (Int.le_of_lt hv)
     refine .inl ⟨(pat ps k,k - 1),?_,⟨by simp only;omega,by simp only;omega,?_⟩,by simp only;omega⟩
     ·simp only [R114_2,F114_2,G114_2,d1,d2,d3,d4,wk,Bool.and_self,cond_true,cond_false]
      rfl
     ·simp only
      rw [Int.max_eq_left (by omega:t≤k - 1+1),show k - 1+1=k by omega,if_neg (by omega)]
   ·have d1:decide (k ≥ 0)=false:=decide_eq_false hk
    refine .inr ⟨t9,?_,?_⟩
    ·simp only [R114_2,F114_2,G114_2,d1,cond_false]
    ·rw [e,h.eb,Int.max_eq_right (by omega:k+1≤t)]) (((((ps.length:Int) - 1)) - 0+1).toNat+1) ((n:Int),(ps.length:Int) - 1) ⟨by simp only;omega,by simp only;omega,by simp only;rw [Int.max_eq_left (by omega:t≤(ps.length:Int) - 1+1),if_pos (by omega)]⟩ (by simp only;omega)
 subst h4
 unfold q114 v114_0 v114_1
 rw [wrap_in (a:=(ps.length:Int) - 1) (by omega) (by omega),h1]
 simp only [ro]
 rw [h3]
 refine ⟨?_,?_,?_⟩ <;> first|rfl|trivial
structure Piece (vs ps:List AV) (v a b:Int):Prop where
 a0:0≤a
 ab:a≤b
 b1:b≤vs.length
 cut:∀ p:Int,0≤p→p<ps.length→pat ps p≤a∨b≤pat ps p
 lo:∀ k:Int,0≤k→k<a→el vs k<v
 hi:∀ k:Int,b≤k→k<vs.length→v≤el vs k
theorem piece_of {vs rs ps:List AV} (h:Col vs rs ps) {v a b t:Int} (hp:Pc vs.length ps v a b t):Piece vs ps v a b:=by
 obtain ⟨t0,t1,lo,hi,ea,eb⟩:=hp
 have fa:0≤a∧a≤vs.length∧∀ k:Int,0≤k→k<a→el vs k<v:=by
  rw [ea]
  split
  ·exact ⟨Int.le_refl 0,by omega,fun k h0 h1=>by omega⟩
  ·have:=h.pa (t - 1) (by omega) (by omega)
   refine ⟨this.1,this.2,fun k k0 k1=>?_⟩
   have h1:=(h.part (t - 1) (by omega) (by omega) k k0 (by omega)).2 k1
   have h2:=lo (t - 1) (by omega) (by omega)
   omega
 have fb:0≤b∧b≤vs.length∧∀ k:Int,b≤k→k<vs.length→v≤el vs k:=by
  rw [eb]
  split
  ·exact ⟨by omega,Int.le_refl _,fun k h0 h1=>by omega⟩
  ·have:=h.pa t (by omega) (by omega)
   refine ⟨this.1,this.2,fun k k0 k1=>?_⟩
   have h1:=h.part t (by omega) (by omega) k (by omega) k1
   have h2:=hi t (Int.le_refl _) (by omega)
   omega
 refine ⟨fa.1,?_,fb.2.1,fun p p0 p1=>?_,fa.2.2,fb.2.2⟩
 ·rw [ea,eb]
  split
  ·split
   ·omega
   ·exact (h.pa t (by omega) (by omega)).1
  ·split
   ·exact (h.pa (t - 1) (by omega) (by omega)).2
   ·exact (h.lt (i:=t - 1) (j:=t) (by omega) (by omega) (by omega)).2
 ·by_cases hpt:p<t
  ·left
   rw [ea,if_neg (by omega)]
   by_cases e:p=t - 1
   ·rw [e];exact Int.le_refl _
   ·exact (h.lt (i:=p) (j:=t - 1) p0 (by omega) (by omega)).2
  ·right
   rw [eb,if_neg (by omega)]
   by_cases e:p=t
   ·rw [e];exact Int.le_refl _
   ·exact (h.lt (i:=t) (j:=p) t0 (by omega) p1).2
end Go.Proofs.YteppndjaglhehaaDoor

namespace Go.Proofs.YteppndjaglhehaaDoor
open Go Go.Proofs.VE
set_option linter.unusedVariables false
set_option linter.unusedSimpArgs false
theorem P97 (v r p:List AV) (h1:v.length≤1048576) (h2:r.length≤1048576) (h3:p.length≤1048576):q97 v r p=true∧v97_0 v r p=v∧v97_1 v r p=r∧v97_2 v r p=p:=by
 unfold q97 v97_0 v97_1 v97_2
 simp only [List.length_nil,Nat.zero_add,List.nil_append]
 rw [decide_eq_true (by omega:v.length*8≤140737488355328),decide_eq_true (by omega:v.length≤140737488355328),decide_eq_true (by omega:r.length*8≤140737488355328),decide_eq_true (by omega:r.length≤140737488355328),decide_eq_true (by omega:p.length*16≤140737488355328),decide_eq_true (by omega:p.length≤140737488355328)]
 simp
abbrev PS:=Int × Int × List AV
structure Parted (vs:List AV) (v a b:Int) (ss:List AV) (at_:Int):Prop where
 i0:a≤at_
 i1:at_≤b
 ins:inS a b ss
 n2:N2 ss
 len:(ss.length:Int)≤at_ - a
 lo:∀ k:Int,a≤k→k<at_→el (appS ss vs) k<v
 hi:∀ k:Int,at_≤k→k<b→v≤el (appS ss vs) k
 ord:∀ x ∈ ss,fI x 0<fI x 1
theorem room2 (X:List AV) (a:AV) (h:X.length≤1048576):(decide ((X.length+[a].length)*16≤140737488355328) && decide (X.length+[a].length≤140737488355328))=true:=by
 simp only [List.length_singleton,Bool.and_eq_true,decide_eq_true_eq]
 omega
theorem q115_in (i j:Int) (xs:List AV) (i0:0≤i) (i1:i<xs.length) (j0:0≤j) (j1:j<xs.length):q115 i j xs=true:=by
 unfold q115
 rw [List.length_set,decide_eq_true i0,decide_eq_true i1,decide_eq_true j0,decide_eq_true j1]
 rfl
theorem mem_at {xs:List AV} {k:Int} (h0:0≤k) (h1:k<xs.length):xs.getD k.toNat .undef ∈ xs:=by
 rw [List.getD_eq_getElem?_getD,List.getElem?_eq_getElem (by omega)]
 exact List.getElem_mem _
theorem P101 (vs rs ps ss:List AV) (hv:vs.length≤1048576) (hp:ps.length≤1048576) (hl:(rs.length:Int)=vs.length) (hs:ss.length≤1048576) (h:inS 0 vs.length ss) :
  q101 vs rs ps ss=true∧v101_0 vs rs ps ss=appS ss vs∧v101_1 vs rs ps ss=appS ss rs∧v101_2 vs rs ps ss=ps∧v101_3 vs rs ps ss=true:=by
 obtain ⟨c0,c1,c2,c3⟩:=P97 vs rs ps hv (by omega) hp
 obtain ⟨r,h1,h2⟩:=runW_ends (f:=R101_0 ss vs rs ps ps) (fun s:Int × List AV × List AV=>0≤s.1∧s.1≤ss.length∧s.2.1=appS (ss.take s.1.toNat) vs∧s.2.2=appS (ss.take s.1.toNat) rs) (fun r=>r = .inl (appS ss vs,appS ss rs)) (fun s=>((ss.length:Int) - s.1).toNat) (fun s hI=>by
   obtain ⟨k,X,Y⟩:=s
   obtain ⟨k0,k1,ex,ey⟩:=hI
   simp only at k0 k1 ex ey
   subst ex ey
   by_cases hk:k<ss.length
   ·have d1:decide (k<(ss.length:Int))=true:=decide_eq_true hk
    have d2:decide (0≤k)=true:=decide_eq_true k0
    have wk:IntKind.i64.wrap (k+1)=k+1:=wrap_in (by omega) (by omega)
    obtain ⟨g1,g2,g3,g4⟩:=h _ (mem_at k0 hk)
    have lx:=appS_len (ss.take k.toNat) vs
    have ly:=appS_len (ss.take k.toNat) rs
    have wl:IntKind.i64.wrap (((appS (ss.take k.toNat) vs).length:Int) - 1)=(vs.length:Int) - 1:=by rw [lx,wrap_in (by omega) (by omega)]
    have e1:v38_0 (fI (ss.getD k.toNat AV.undef) 0) 0 ((vs.length:Int) - 1)=true:=by rw [v38,decide_eq_true g1,decide_eq_true (by omega)];rfl
    have e2:v38_0 (fI (ss.getD k.toNat AV.undef) 1) 0 ((vs.length:Int) - 1)=true:=by rw [v38,decide_eq_true g3,decide_eq_true (by omega)];rfl
    refine .inl ⟨(k+1,v115_0 (fI (ss.getD k.toNat AV.undef) 0) (fI (ss.getD k.toNat AV.undef) 1) (appS (ss.take k.toNat) vs),v115_0 (fI (ss.getD k.toNat AV.undef) 0) (fI (ss.getD k.toNat AV.undef) 1) (appS (ss.take k.toNat) rs)),?_,⟨by simp only;omega,by simp only;omega,?_,?_⟩,by simp only;omega⟩
    ·simp only [R101_0,F101_0,G101_0,d1,d2,wk,wl,e1,e2,q115_in _ _ (appS (ss.take k.toNat) vs) g1 (by omega) g3 (by omega),q115_in _ _ (appS (ss.take k.toNat) rs) g1 (by omega) g3 (by omega),Bool.and_self,Bool.not_true,cond_true,cond_false]
    ·simp only
     rw [take_snoc k0 hk,appS_snoc]
    ·simp only
     rw [take_snoc k0 hk,appS_snoc]
   ·have d1:decide (k<(ss.length:Int))=false:=decide_eq_false hk
    refine .inr ⟨_,by simp only [R101_0,F101_0,G101_0,d1,cond_false];rfl,?_⟩
    rw [List.take_of_length_le (by omega)]) (((ss.length:Int) - 0).toNat+1) (0,vs,rs) ⟨by simp,by simp,rfl,rfl⟩ (by simp)
 subst h2
 unfold q101 v101_0 v101_1 v101_2 v101_3
 rw [c0,c1,c2,c3,decide_eq_true hl,h1]
 exact ⟨rfl,rfl,rfl,rfl,rfl⟩
def insP (ps:List AV) (v a:Int):List AV:=ps.take (place ps v).toNat++[mk2 v a]++ps.drop (place ps v).toNat
theorem insP_len (ps:List AV) (v a:Int):(insP ps v a).length=ps.length+1:=by
 have:=place_spec ps v
 unfold insP
 simp only [List.length_append,List.length_take,List.length_drop,List.length_singleton]
 omega
theorem insP_N2 {ps:List AV} (h:N2 ps) (v a:Int):N2 (insP ps v a):=fun x hx=>by
 unfold insP at hx
 rcases List.mem_append.1 hx with hx|hx
 ·rcases List.mem_append.1 hx with hx|hx
  ·exact h x (List.mem_of_mem_take hx)
  ·rw [List.mem_singleton.1 hx]
   rfl
 ·exact h x (List.mem_of_mem_drop hx)
theorem insP_at (ps:List AV) (v a:Int) (i:Int) (h0:0≤i):(insP ps v a).getD i.toNat .undef=if i<place ps v then ps.getD i.toNat .undef else if i=place ps v then mk2 v a else ps.getD (i - 1).toNat .undef:=by
 obtain ⟨p0,p1,_,_⟩:=place_spec ps v
 unfold insP
 simp only [List.getD_eq_getElem?_getD]
 have tl:(ps.take (place ps v).toNat).length=(place ps v).toNat:=by rw [List.length_take];omega
 split
 ·rw [List.append_assoc,List.getElem?_append_left (by omega),List.getElem?_take_of_lt (by omega)]
 ·split
  ·rename_i e1 e2
   rw [List.append_assoc,List.getElem?_append_right (by omega),tl,e2,Nat.sub_self]
   rfl
  ·rw [List.append_assoc,List.getElem?_append_right (by omega),tl,List.getElem?_append_right (by simp;omega),List.getElem?_drop]
   congr 2
   simp only [List.length_singleton]
   omega
theorem Col.pivot {vs rs ps:List AV} (h:Col vs rs ps) {v at_:Int} (hf:∀ k:Int,0≤k→k<ps.length→el ps k ≠ v) (hv : -1000≤v∧v≤1000) (ha:0≤at_∧at_≤vs.length) (hat:∀ k:Int,0≤k→k<vs.length→(el vs k<v ↔ k<at_))
  (hcut:∀ p:Int,0≤p→p<ps.length→(el ps p<v→pat ps p≤at_)∧(v<el ps p→at_≤pat ps p)):Col vs rs (insP ps v at_):=by
 obtain ⟨p0,p1,p2,p3⟩:=place_spec ps v
 have hlen:=insP_len ps v at_
 generalize hpl:place ps v=t at *
 have eel:∀ i:Int,0≤i→el (insP ps v at_) i=if i<t then el ps i else if i=t then v else el ps (i - 1):=fun i h0=>by
  unfold el
  rw [insP_at ps v at_ i h0,hpl]
  split
  ·rfl
  ·split <;> rfl
 have epa:∀ i:Int,0≤i→pat (insP ps v at_) i=if i<t then pat ps i else if i=t then at_ else pat ps (i - 1):=fun i h0=>by
  unfold pat
  rw [insP_at ps v at_ i h0,hpl]
  split
  ·rfl
  ·split <;> rfl
 have lo:∀ k:Int,0≤k→k<t→el ps k<v:=fun k k0 k1=>by
  have:=p2 k k0 k1
  have:=hf k k0 (by omega)
  omega
 have hi:∀ k:Int,t≤k→k<ps.length→v<el ps k:=fun k k0 k1=>by
  by_cases e:k=t
  ·rw [e];exact p3 (by omega)
  ·have:=(h.lt (i:=t) (j:=k) p0 (by omega) k1).1
   have:=p3 (by omega)
   omega
 refine ⟨h.n64,h.vals,h.len,h.rows,h.dist,fun i i0 i1=>?_,fun i i0 i1=>?_,fun i i0 i1=>?_,fun i i0 i1 k k0 k1=>?_⟩
 ·rw [eel i i0]
  split
  ·exact h.pv i i0 (by omega)
  ·split
   ·exact hv
   ·exact h.pv (i - 1) (by omega) (by omega)
 ·rw [epa i i0]
  split
  ·exact h.pa i i0 (by omega)
  ·split
   ·exact ha
   ·exact h.pa (i - 1) (by omega) (by omega)
 ·rw [eel i (by omega),eel (i - 1) (by omega),epa i (by omega),epa (i - 1) (by omega)]
  by_cases h1:i<t
  ·have q:i - 1<t:=by omega
   rw [if_pos h1,if_pos h1,if_pos q,if_pos q]
   exact h.asc i i0 (by omega)
  ·by_cases h2:i=t
   ·have q:i - 1<t:=by omega
    rw [if_neg h1,if_neg h1,if_pos h2,if_pos h2,if_pos q,if_pos q]
    have a1:=lo (i - 1) (by omega) (by omega)
    exact ⟨a1,(hcut (i - 1) (by omega) (by omega)).1 a1⟩
   ·have q:¬ i - 1<t:=by omega
    rw [if_neg h1,if_neg h1,if_neg h2,if_neg h2,if_neg q,if_neg q]
    by_cases h3:i - 1=t
    ·rw [if_pos h3,if_pos h3]
     have a1:=hi (i - 1) (by omega) (by omega)
     exact ⟨a1,(hcut (i - 1) (by omega) (by omega)).2 a1⟩
    ·rw [if_neg h3,if_neg h3]
     exact h.asc (i - 1) (by omega) (by omega)
 ·rw [eel i i0,epa i i0]
  split
  ·exact h.part i i0 (by omega) k k0 k1
  ·split
   ·exact hat k k0 k1
   ·exact h.part (i - 1) (by omega) (by omega) k k0 k1
theorem drop_snoc {xs:List AV} {t k:Int} (h0:0≤t) (ht:t≤k) (h1:k<xs.length):(xs.take (k+1).toNat).drop t.toNat=(xs.take k.toNat).drop t.toNat++[xs.getD k.toNat .undef]:=by
 rw [take_snoc (by omega) h1,List.drop_append_of_le_length (by rw [List.length_take];omega)]
theorem run102 (a1 a2 vs rs ps:List AV) (v a:Int) (h3:ps.length≤1048576) (hN:N2 ps):∃ r:Bool × List AV,runW (R102_0 a1 a2 vs rs ps v a) (((ps.length:Int) - 0).toNat+1) (false,0,[])=some r∧(r.2.length≤1048577∧(r.1=false→r.2++[mk2 v a]=insP ps v a∧r.2.length≤1048576)∧(r.1=true→r.2=insP ps v a)):=by
 obtain ⟨p0,p1,p2,p3⟩:=place_spec ps v
 have hins:insP ps v a=ps.take (place ps v).toNat++[mk2 v a]++ps.drop (place ps v).toNat:=rfl
 have hlen:=insP_len ps v a
 generalize hpl:place ps v=t at *
 obtain ⟨r,h1,h2⟩:=runW_ends (f:=R102_0 a1 a2 vs rs ps v a) (fun s:Bool × Int × List AV=>0≤s.2.1∧s.2.1≤ps.length∧((s.1=false∧s.2.1≤t∧s.2.2=ps.take s.2.1.toNat)∨(s.1=true∧t<s.2.1∧s.2.2=ps.take t.toNat++[mk2 v a]++(ps.take s.2.1.toNat).drop t.toNat)))
  (fun r=>(r.1=false∧t=ps.length∧r.2=ps)∨(r.1=true∧t<ps.length∧r.2=ps.take t.toNat++[mk2 v a]++ps.drop t.toNat)) (fun s=>((ps.length:Int) - s.2.1).toNat) (fun s hI=>by
   obtain ⟨b,k,acc⟩:=s
   obtain ⟨k0,k1,hI⟩:=hI
   simp only at k0 k1 hI
   by_cases hk:k<ps.length
   ·have d1:decide (k<(ps.length:Int))=true:=decide_eq_true hk
    have d2:decide (0≤k)=true:=decide_eq_true k0
    have wk:IntKind.i64.wrap (k+1)=k+1:=wrap_in (by omega) (by omega)
    have en:AV.agg [AV.int .i64 (fI (ps.getD k.toNat AV.undef) 0),AV.int .i64 (fI (ps.getD k.toNat AV.undef) 1)]=ps.getD k.toNat .undef:=hN.at k0 hk
    rcases hI with ⟨rfl,kt,rfl⟩|⟨rfl,kt,rfl⟩
    ·have hl:(ps.take k.toNat).length≤1048576:=by rw [List.length_take];omega
     by_cases hkt:k<t
     ·have d3:decide (fI (ps.getD k.toNat AV.undef) 0 > v)=false:=decide_eq_false (by have:=p2 k k0 hkt;unfold el at this;omega)
      refine .inl ⟨(false,k+1,ps.take (k+1).toNat),?_,⟨by simp only;omega,by simp only;omega,.inl ⟨rfl,by simp only;omega,rfl⟩⟩,by simp only;omega⟩
      simp only [R102_0,F102_0,G102_0,d1,d2,d3,wk,en,room2 _ _ hl,Bool.and_self,Bool.not_false,cond_true,cond_false]
      rw [take_snoc k0 hk]
     ·have hkt':k=t:=by omega
      have d3:decide (fI (ps.getD k.toNat AV.undef) 0 > v)=true:=decide_eq_true (by have:=p3 (by omega);rw [← hkt'] at this;exact this)
      have hl2:(ps.take k.toNat++[AV.agg [AV.int .i64 v,AV.int .i64 a]]).length≤1048576:=by rw [List.length_append,List.length_take,List.length_singleton];omega
      refine .inl ⟨(true,k+1,ps.take t.toNat++[mk2 v a]++(ps.take (k+1).toNat).drop t.toNat),?_,⟨by simp only;omega,by simp only;omega,.inr ⟨rfl,by simp only;omega,rfl⟩⟩,by simp only;omega⟩
      simp only [R102_0,F102_0,G102_0,d1,d2,d3,wk,en,room2 _ _ hl,room2 _ _ hl2,Bool.and_self,Bool.not_false,cond_true,cond_false]
      rw [drop_snoc p0 (by omega) hk,List.drop_eq_nil_of_le (show (ps.take k.toNat).length≤t.toNat by rw [List.length_take];omega),← hkt']
      rfl
    ·have hl:(ps.take t.toNat++[mk2 v a]++(ps.take k.toNat).drop t.toNat).length≤1048576:=by
      simp only [List.length_append,List.length_take,List.length_drop,List.length_singleton]
      omega
     refine .inl ⟨(true,k+1,ps.take t.toNat++[mk2 v a]++(ps.take (k+1).toNat).drop t.toNat),?_,⟨by simp only;omega,by simp only;omega,.inr ⟨rfl,by simp only;omega,rfl⟩⟩,by simp only;omega⟩
     simp only [R102_0,F102_0,G102_0,d1,d2,wk,en,room2 _ _ hl,Bool.and_self,Bool.not_true,cond_true,cond_false]
     rw [drop_snoc p0 (by omega) hk,List.append_assoc _ _ [ps.getD k.toNat AV.undef]]
   ·have d1:decide (k<(ps.length:Int))=false:=decide_eq_false hk
    rcases hI with ⟨rfl,kt,rfl⟩|⟨rfl,kt,rfl⟩
    ·refine .inr ⟨(false,ps.take k.toNat),by simp only [R102_0,F102_0,G102_0,d1,cond_false],.inl ⟨rfl,by omega,?_⟩⟩
     exact List.take_of_length_le (by omega)
    ·refine .inr ⟨(true,ps.take t.toNat++[mk2 v a]++(ps.take k.toNat).drop t.toNat),by simp only [R102_0,F102_0,G102_0,d1,cond_false],.inr ⟨rfl,by omega,?_⟩⟩
     rw [List.take_of_length_le (l:=ps) (i:=k.toNat) (by omega)]) (((ps.length:Int) - 0).toNat+1) (false,0,[]) ⟨by simp,by simp,.inl ⟨rfl,p0,rfl⟩⟩ (by simp)
 refine ⟨r,h1,?_⟩
 obtain ⟨b,acc⟩:=r
 rcases h2 with ⟨e1,e2,e3⟩|⟨e1,e2,e3⟩
 ·simp only at e1 e3
  subst e1 e3
  refine ⟨by simp only;omega,fun _=>⟨?_,h3⟩,fun h=>by cases h⟩
  rw [hins,e2]
  simp
 ·simp only at e1 e3
  subst e1 e3
  refine ⟨?_,⟨fun h=>(by cases h),fun _=>hins.symm⟩⟩
  simp only
  rw [← hins,hlen]
  omega
theorem P102 (vs rs ps:List AV) (v a:Int) (h1:vs.length≤1048576) (h2:rs.length≤1048576) (h3:ps.length≤1048575) (hN:N2 ps) :
  q102 vs rs ps v a=true∧v102_0 vs rs ps v a=vs∧v102_1 vs rs ps v a=rs∧v102_2 vs rs ps v a=(bif isC vs rs ps && isC vs rs (insP ps v a) then insP ps v a else ps)∧v102_3 vs rs ps v a=(isC vs rs ps && isC vs rs (insP ps v a)):=by
 obtain ⟨c0,c1,c2,c3⟩:=P97 vs rs ps h1 h2 (by omega)
 obtain ⟨r,g1,g2,g3,g4⟩:=run102 vs rs vs rs ps v a (by omega) hN
 have hl:=insP_len ps v a
 have k1:=P12 vs rs ps h1 h2 (by omega)
 have k2:=P12 vs rs (insP ps v a) h1 h2 (by omega)
 unfold q102 v102_0 v102_1 v102_2 v102_3
 rw [c0,c1,c2,c3,k1.1,k1.2,g1]
 obtain ⟨b,acc⟩:=r
 cases b with
 | false =>
  obtain ⟨e1,e2⟩:=g3 rfl
  simp only at e1 e2
  have e1':acc++[AV.agg [AV.int .i64 v,AV.int .i64 a]]=insP ps v a:=e1
  simp only [ro,Bool.not_false,cond_true,room2 _ _ e2,e1',k2.1,k2.2]
  cases isC vs rs ps <;> cases isC vs rs (insP ps v a) <;> (refine ⟨?_,?_,?_,?_,?_⟩ <;> first|rfl|trivial)
 | true =>
  have e1:=g4 rfl
  simp only at e1
  subst e1
  simp only [ro,Bool.not_true,cond_false,k2.1,k2.2]
  cases isC vs rs ps <;> cases isC vs rs (insP ps v a) <;> (refine ⟨?_,?_,?_,?_,?_⟩ <;> first|rfl|trivial)
end Go.Proofs.YteppndjaglhehaaDoor

namespace Go.Proofs.YteppndjaglhehaaDoor
open Go Go.Proofs.VE
set_option linter.unusedVariables false
set_option linter.unusedSimpArgs false
theorem col_few {vs rs ps:List AV} (h:Col vs rs ps):ps.length≤2001:=by
 have hl:=h.n64
 have hc:=(isC_iff vs rs ps (by omega)).2 h
 unfold isC at hc
 simp only [Bool.and_eq_true] at hc
 exact few vs ps hc.2.2.2.2
theorem appS_out {a b:Int} (a0:0≤a):∀ (ss vs:List AV),b≤vs.length→inS a b ss→∀ k:Int,0≤k→(k<a∨b≤k)→el (appS ss vs) k=el vs k
 | [],vs,_,_,k,_,_=>rfl
 | s :: ss,vs,hb,hs,k,k0,hk=>by
  obtain ⟨h1,h2,h3,h4⟩:=hs s List.mem_cons_self
  rw [appS_cons,appS_out a0 ss _ (by rw [sw_len];exact hb) (fun x hx=>hs x (List.mem_cons_of_mem _ hx)) k k0 hk,el_sw vs _ _ k (by omega) (by omega) (by omega) (by omega) k0,if_neg (by omega),if_neg (by omega)]
theorem Pc.cut {vs rs ps:List AV} (h:Col vs rs ps) {v a b t:Int} (hp:Pc vs.length ps v a b t) {p:Int} (p0:0≤p) (p1:p<ps.length):(el ps p<v→pat ps p≤a)∧(v<el ps p→b≤pat ps p):=by
 obtain ⟨t0,t1,lo,hi,ea,eb⟩:=hp
 constructor
 ·intro hl
  have hpt:p<t:=by
   rcases Int.lt_or_le p t with h1|h1
   ·exact h1
   ·have:=hi p h1 p1;omega
  rw [ea,if_neg (by omega)]
  by_cases e:p=t - 1
  ·rw [e];exact Int.le_refl _
  ·exact (h.lt (i:=p) (j:=t - 1) p0 (by omega) (by omega)).2
 ·intro hl
  have hpt:t≤p:=by
   rcases Int.lt_or_le p t with h1|h1
   ·have:=lo p p0 h1;omega
   ·exact h1
  rw [eb,if_neg (by omega)]
  by_cases e:p=t
  ·rw [e];exact Int.le_refl _
  ·exact (h.lt (i:=t) (j:=p) t0 (by omega) p1).2
theorem bound_of {v:Int} (hv : -1000≤v∧v≤1000):v38_0 v (-1000) 1000=true:=by
 rw [v38,decide_eq_true hv.1,decide_eq_true hv.2]
 rfl
theorem P99 {vs rs ps:List AV} (h:Col vs rs ps) {v a b t:Int} (hv : -1000≤v∧v≤1000) (hp:Pc vs.length ps v a b t):q99 vs rs ps v=true∧v99_0 vs rs ps v=a∧v99_1 vs rs ps v=b:=by
 have hl:=h.n64
 have hlen:=h.len
 have hf:=col_few h
 have hc:=(isC_iff vs rs ps (by omega)).2 h
 obtain ⟨g1,g2⟩:=P12 vs rs ps (by omega) (by omega) (by omega)
 obtain ⟨k1,k2,k3⟩:=P114 hp (by omega)
 unfold q99 v99_0 v99_1
 rw [g1,g2,hc,bound_of hv,k1,k2,k3]
 exact ⟨rfl,rfl,rfl⟩
end Go.Proofs.YteppndjaglhehaaDoor

namespace Go.Proofs.YteppndjaglhehaaDoor
open Go Go.Proofs.VE
set_option linter.unusedVariables false
set_option linter.unusedSimpArgs false
structure ParJ (vs:List AV) (v a b:Int) (s:PS):Prop where
 i0:a≤s.1
 ij:s.1≤s.2.1+1
 j1:s.2.1<b
 ins:inS a b s.2.2
 n2:N2 s.2.2
 len:(s.2.2.length:Int)≤s.1 - a
 mid:∀ k:Int,s.1≤k→k≤s.2.1→el (appS s.2.2 vs) k=el vs k
 lo:∀ k:Int,a≤k→k<s.1→el (appS s.2.2 vs) k<v
 hi:∀ k:Int,s.2.1<k→k<b→v≤el (appS s.2.2 vs) k
 ord:∀ x ∈ s.2.2,fI x 0<fI x 1
theorem stepJ (vs:List AV) (v a b:Int) (hn:vs.length≤1048576) (a0:0≤a) (b1:b≤vs.length) (s:PS) (h:ParJ vs v a b s) :
  (∃ x,R100_0 vs v s = .next x∧ParJ vs v a b x∧(x.2.1+1 - x.1).toNat<(s.2.1+1 - s.1).toNat)∨∃ r,R100_0 vs v s = .stop r∧Parted vs v a b r.2 r.1:=by
 obtain ⟨i',j',ss'⟩:=s
 obtain ⟨i0,ij,j1,ins,n2,len,mid,lo,hi,ord⟩:=h
 simp only at i0 ij j1 ins n2 len mid lo hi ord
 have hlen:=appS_len ss' vs
 by_cases hij:i'≤j'
 ·have d0:decide (i'≤j')=true:=decide_eq_true hij
  have c1:decide (0≤i')=true:=decide_eq_true (by omega)
  have c2:decide (i'<(vs.length:Int))=true:=decide_eq_true (by omega)
  have c3:decide (0≤j')=true:=decide_eq_true (by omega)
  have c4:decide (j'<(vs.length:Int))=true:=decide_eq_true (by omega)
  have wi:IntKind.i64.wrap (i'+1)=i'+1:=wrap_in (by omega) (by omega)
  have wj:IntKind.i64.wrap (j' - 1)=j' - 1:=wrap_in (by omega) (by omega)
  have mi:=mid i' (Int.le_refl _) hij
  have mj:=mid j' hij (Int.le_refl _)
  have gi:fI (vs.getD i'.toNat AV.undef) 0=el vs i':=rfl
  have gj:fI (vs.getD j'.toNat AV.undef) 0=el vs j':=rfl
  by_cases h1:el vs i'<v
  ·have d1:decide (el vs i'<v)=true:=decide_eq_true h1
   refine .inl ⟨(i'+1,j',ss'),?_,⟨by simp only;omega,by simp only;omega,j1,ins,n2,by simp only;omega,fun k k0 k1=>mid k (by simp only at k0;omega) k1,fun k k0 k1=>?_,hi,ord⟩,by simp only;omega⟩
   ·simp only [R100_0,F100_0,G100_0,gi,d0,c1,c2,d1,wi,Bool.and_self,cond_true]
   ·simp only at k1 ⊢
    by_cases e:k=i'
    ·rw [e,mi];exact h1
    ·exact lo k k0 (by omega)
  ·have d1:decide (el vs i'<v)=false:=decide_eq_false h1
   by_cases h2:el vs j' ≥ v
   ·have d2:decide (el vs j' ≥ v)=true:=decide_eq_true h2
    refine .inl ⟨(i',j' - 1,ss'),?_,⟨i0,by simp only;omega,by simp only;omega,ins,n2,len,fun k k0 k1=>mid k k0 (by simp only at k1;omega),lo,fun k k0 k1=>?_,ord⟩,by simp only;omega⟩
    ·simp only [R100_0,F100_0,G100_0,gi,gj,d0,c1,c2,c3,c4,d1,d2,wj,Bool.and_self,cond_true,cond_false]
    ·simp only at k0 ⊢
     by_cases e:k=j'
     ·rw [e,mj];exact h2
     ·exact hi k (by omega) k1
   ·have d2:decide (el vs j' ≥ v)=false:=decide_eq_false h2
    have hne:i'<j':=by
     rcases Int.lt_or_eq_of_le hij with h|h
     ·exact h
     ·rw [h] at h1;omega
    have hr:=room2 ss' (AV.agg [AV.int .i64 i',AV.int .i64 j']) (by omega)
    have eap:appS (ss'++[AV.agg [AV.int .i64 i',AV.int .i64 j']]) vs=v115_0 i' j' (appS ss' vs):=appS_snoc _ _ _
    have ev:∀ k:Int,0≤k→el (v115_0 i' j' (appS ss' vs)) k=if k=j' then el (appS ss' vs) i' else if k=i' then el (appS ss' vs) j' else el (appS ss' vs) k:=fun k k0=>el_sw _ i' j' k (by omega) (by omega) (by omega) (by omega) k0
    refine .inl ⟨(i'+1,j' - 1,ss'++[AV.agg [AV.int .i64 i',AV.int .i64 j']]),?_,
     ⟨by simp only;omega,by simp only;omega,by simp only;omega,fun x hx=>?_,fun x hx=>?_,by simp only [List.length_append,List.length_singleton];omega,fun k k0 k1=>?_,fun k k0 k1=>?_,fun k k0 k1=>?_,fun x hx=>?_⟩,by simp only;omega⟩
    ·simp only [R100_0,F100_0,G100_0,gi,gj,d0,c1,c2,c3,c4,d1,d2,wi,wj,hr,Bool.and_self,cond_true,cond_false]
    ·rcases List.mem_append.1 hx with hx|hx
     ·exact ins x hx
     ·rw [List.mem_singleton.1 hx]
      exact ⟨i0,by show i'<b;omega,by show a≤j';omega,j1⟩
    ·rcases List.mem_append.1 hx with hx|hx
     ·exact n2 x hx
     ·rw [List.mem_singleton.1 hx]
      rfl
    ·simp only at k0 k1
     rw [eap,ev k (by omega),if_neg (by omega),if_neg (by omega)]
     exact mid k (by omega) (by omega)
    ·simp only at k1
     rw [eap,ev k (by omega),if_neg (by omega)]
     split
     ·rw [mj];omega
     ·exact lo k k0 (by omega)
    ·simp only at k0
     rw [eap,ev k (by omega)]
     split
     ·rw [mi];omega
     ·rw [if_neg (by omega)]
      exact hi k (by omega) k1
    ·rcases List.mem_append.1 hx with hx|hx
     ·exact ord x hx
     ·rw [List.mem_singleton.1 hx]
      exact hne
 ·have d0:decide (i'≤j')=false:=decide_eq_false hij
  refine .inr ⟨(i',ss'),?_,⟨i0,by simp only;omega,ins,n2,len,lo,fun k k0 k1=>hi k (by simp only at k0;omega) k1,ord⟩⟩
  simp only [R100_0,F100_0,G100_0,d0,cond_false]
theorem P100s (vs:List AV) (v a b:Int) (hn:vs.length≤1048576) (a0:0≤a) (ab:a≤b) (b1:b≤vs.length):q100 vs a b v=true∧Parted vs v a b (v100_0 vs a b v) (v100_1 vs a b v):=by
 obtain ⟨r,h1,h5⟩:=runW_ends (ParJ vs v a b) (fun (r:Int × List AV)=>Parted vs v a b r.2 r.1) (fun s=>(s.2.1+1 - s.1).toNat) (stepJ vs v a b hn a0 b1) (((b - 1) - a+1).toNat+1) (a,b - 1,[])
  ⟨Int.le_refl _,by simp only;omega,by simp only;omega,fun x hx=>by simp at hx,fun x hx=>by simp at hx,by simp,fun k _ _=>rfl,fun k k0 k1=>by simp only at k1;omega,fun k k0 k1=>by simp only at k0;omega,fun x hx=>by simp at hx⟩ (by simp only;omega)
 have wb:IntKind.i64.wrap (b - 1)=b - 1:=wrap_in (by omega) (by omega)
 have d3:decide (b > (vs.length:Int))=false:=decide_eq_false (by omega)
 have d4:v38_0 a 0 b=true:=by rw [v38,decide_eq_true a0,decide_eq_true ab];rfl
 unfold q100 v100_0 v100_1
 rw [wb,d3,d4,h1]
 exact ⟨rfl,h5⟩
structure Cs (vs rs ps:List AV) (v a b at_:Int) (ss:List AV):Prop where
 c:q83 vs rs ps v=true∧v83_0 vs rs ps v=appS ss vs∧v83_1 vs rs ps v=appS ss rs∧v83_2 vs rs ps v=insP ps v at_∧v83_4 vs rs ps v=true
 ok:Col (appS ss vs) (appS ss rs) (insP ps v at_)
 n2:N2 (insP ps v at_)
 ins:inS 0 vs.length ss
theorem crack_newS {vs rs ps:List AV} (h:Col vs rs ps) (hN:N2 ps) {v:Int} (hv : -1000≤v∧v≤1000) (hf:(findP ps v).isSome=false):∃ (a b at_:Int) (ss:List AV),Cs vs rs ps v a b at_ ss:=by
 have hl:=h.n64
 have hlen:=h.len
 have hfew:=col_few h
 have hp:=pc_of h hf
 have hpi:=piece_of h hp
 generalize (if place ps v=0 then 0 else pat ps (place ps v - 1))=a at hp hpi
 generalize (if place ps v=ps.length then (vs.length:Int) else pat ps (place ps v))=b at hp hpi
 have a0:=hpi.a0
 have ab:=hpi.ab
 have b1:=hpi.b1
 have k97:=P99 h hv hp
 obtain ⟨d1,par⟩:=P100s vs v a b (by omega) a0 ab b1
 generalize hss:v100_0 vs a b v=ss at par
 generalize hat:v100_1 vs a b v=at_ at par
 have i0:=par.i0
 have i1:=par.i1
 have hs64:ss.length≤64:=by have:=par.len;omega
 have hin:inS 0 vs.length ss:=fun s hs=>by obtain ⟨x1,x2,x3,x4⟩:=par.ins s hs;exact ⟨by omega,by omega,by omega,by omega⟩
 have hcol1:=Col.swaps (ps:=ps) a0 hpi.cut ss vs rs h b1 par.ins
 have la:=appS_len ss vs
 have lr:=appS_len ss rs
 have hout:=appS_out a0 ss vs b1 par.ins
 have hcol2:Col (appS ss vs) (appS ss rs) (insP ps v at_):=by
  refine hcol1.pivot (findP_none hf) hv ⟨by omega,by omega⟩ (fun k k0 k1=>?_) (fun p p0 p1=>?_)
  ·rw [la] at k1
   constructor
   ·intro hk
    rcases Int.lt_or_le k at_ with q|q
    ·exact q
    ·exfalso
     rcases Int.lt_or_le k b with q2|q2
     ·have:=par.hi k q q2;omega
     ·have:=hpi.hi k q2 k1
      rw [← hout k k0 (.inr q2)] at this
      omega
   ·intro hk
    rcases Int.lt_or_le k a with q|q
    ·rw [hout k k0 (.inl q)];exact hpi.lo k k0 q
    ·exact par.lo k q hk
  ·obtain ⟨x1,x2⟩:=Pc.cut h hp p0 p1
   exact ⟨fun q=>by have:=x1 q;omega,fun q=>by have:=x2 q;omega⟩
 have hc0:=(isC_iff vs rs ps (by omega)).2 h
 have hc1:=(isC_iff (appS ss vs) (appS ss rs) ps (by omega)).2 hcol1
 have hc2:=(isC_iff (appS ss vs) (appS ss rs) (insP ps v at_) (by omega)).2 hcol2
 obtain ⟨e1,e2,e3,e4,e5⟩:=P101 vs rs ps ss (by omega) (by omega) hlen (by omega) hin
 obtain ⟨g1,g2,g3,g4,g5⟩:=P102 (appS ss vs) (appS ss rs) ps v at_ (by omega) (by omega) (by omega) hN
 rw [hc1,hc2] at g4
 obtain ⟨m1,m2⟩:=P12 vs rs ps (by omega) (by omega) (by omega)
 obtain ⟨n1,n2,n3⟩:=P98 vs rs ps v (by omega)
 obtain ⟨k1,k2,k3⟩:=k97
 refine ⟨a,b,at_,ss,?_,hcol2,insP_N2 hN v at_,hin⟩
 unfold q83 v83_0 v83_1 v83_2 v83_4
 rw [m1,m2,hc0,bound_of hv,n1,n3,hf,k1,k2,k3,d1,hss,hat,e1,e2,e3,e4,g1,g2,g3,g4]
 exact ⟨rfl,rfl,rfl,rfl,rfl⟩
theorem crack_oldS {vs rs ps:List AV} (h:Col vs rs ps) {v:Int} (hv : -1000≤v∧v≤1000) (hf:(findP ps v).isSome=true) :
  q83 vs rs ps v=true∧v83_0 vs rs ps v=vs∧v83_1 vs rs ps v=rs∧v83_2 vs rs ps v=ps∧v83_4 vs rs ps v=true:=by
 have hl:=h.n64
 have hlen:=h.len
 have hfew:=col_few h
 have hc0:=(isC_iff vs rs ps (by omega)).2 h
 obtain ⟨m1,m2⟩:=P12 vs rs ps (by omega) (by omega) (by omega)
 obtain ⟨n1,n2,n3⟩:=P98 vs rs ps v (by omega)
 obtain ⟨c0,c1,c2,c3⟩:=P97 vs rs ps (by omega) (by omega) (by omega)
 unfold q83 v83_0 v83_1 v83_2 v83_4
 rw [m1,m2,hc0,bound_of hv,n1,n3,hf,c0,c1,c2,c3]
 exact ⟨rfl,rfl,rfl,rfl,rfl⟩
end Go.Proofs.YteppndjaglhehaaDoor

namespace Go.Proofs.YteppndjaglhehaaDoor
open Go Go.Proofs.VE
set_option linter.unusedVariables false
set_option linter.unusedSimpArgs false
def dI (i:Int):AV := .int .i64 i
def E81 (xs vs:List AV) (i:Int):List AV→Int ⊕ (Int × List AV)
 | [] => .inl i
 | y :: ys => .inr (i,y :: ys)
def K81 (xs vs:List AV):List AV→Unit ⊕ List AV
 | [] => .inl ()
 | y :: ys => .inr (y :: ys)
theorem run81 (xs vs:List AV) (h:xs.length≤1048576):runW (R81_0 xs vs) (((xs.length:Int) - 0).toNat+1) (E81 xs vs 0 [])=some (K81 xs vs (appF allT dI xs.length 0 [])):=by
 refine runW_appK (E81 xs vs) (K81 xs vs) xs.length allT dI (fun i ys h0 hn hl=>?_) (fun ys=>?_)
 ·have d1:decide (i<(xs.length:Int))=true:=decide_eq_true hn
  have d2:decide (0≤i)=true:=decide_eq_true h0
  cases ys with
  | nil =>
   have c1:decide ((([dI i]:List AV).length)*8≤140737488355328)=true:=by simp
   have c2:decide ((([dI i]:List AV).length)≤140737488355328)=true:=by simp
   simp only [dI] at c1 c2
   simp only [E81,R81_0,sumE,F81_0_s0,G81_0_s0,d1,d2,c1,c2,Bool.and_self,cond_true,allT,List.nil_append]
   rw [wrap_in (a:=i+1) (by omega) (by omega)]
   try rfl
  | cons y ys =>
   have hl':(y :: ys).length≤1048576:=by omega
   have c1:decide (((y :: ys).length+[dI i].length)*8≤140737488355328)=true:=decide_eq_true (by simp only [List.length_singleton];omega)
   have c2:decide ((y :: ys).length+[dI i].length≤140737488355328)=true:=decide_eq_true (by simp only [List.length_singleton];omega)
   simp only [dI] at c1 c2
   simp only [E81,R81_0,sumE,F81_0_s1,G81_0_s1,d1,d2,c1,c2,Bool.and_self,cond_true,allT,List.cons_append]
   rw [wrap_in (a:=i+1) (by omega) (by omega)]
   try rfl
 ·cases ys <;> simp only [E81,K81,R81_0,sumE,F81_0_s0,G81_0_s0,F81_0_s1,G81_0_s1,Int.lt_irrefl,decide_false,cond_false]
theorem appF_all (c:Int→AV):∀ (m:Nat) (i:Int) (ys:List AV),appF allT c m i ys=ys++(List.range m).map fun j:Nat=>c (i+j)
 | 0,i,ys=>by simp [appF,foldF]
 | m+1,i,ys=>by
  have e:appF allT c (m+1) i ys=appF allT c m (i+1) (ys++[c i]):=rfl
  rw [e,appF_all c m,List.range_succ_eq_map,List.map_cons,List.map_map,List.append_assoc]
  congr 1
  simp only [Int.natCast_zero,Int.add_zero,List.singleton_append,List.cons.injEq,true_and]
  refine List.map_congr_left fun j _=>?_
  simp only [Function.comp]
  congr 1
  omega
def rows (xs:List AV):List AV:=appF allT dI xs.length 0 []
theorem rows_len (xs:List AV):(rows xs).length=xs.length:=by
 unfold rows
 rw [appF_all]
 simp
theorem P81 (xs:List AV) (h:xs.length≤1048576):q81 xs=true∧v81_0 xs=(bif v37_0 xs then xs else [])∧v81_1 xs=(bif v37_0 xs then rows xs else [])∧v81_2 xs=[]:=by
 unfold q81 v81_0 v81_1 v81_2
 have hr:=run81 xs ([]++xs) h
 have c1:decide ((([]:List AV).length+xs.length)*8≤140737488355328)=true:=decide_eq_true (by simp;omega)
 have c2:decide (([]:List AV).length+xs.length≤140737488355328)=true:=decide_eq_true (by simp;omega)
 rw [(P37 xs h).1,show (.inl 0:Int ⊕ (Int × List AV))=E81 xs ([]++xs) 0 [] from rfl,hr,c1,c2]
 change _∧_∧_=(bif v37_0 xs then (appF allT dI xs.length 0 []) else [])∧_
 generalize appF allT dI xs.length 0 []=ys
 cases v37_0 xs
 ·exact ⟨rfl,rfl,rfl,rfl⟩
 ·cases ys <;> exact ⟨rfl,rfl,rfl,rfl⟩
theorem N2_nil:N2 []:=fun x hx=>by simp at hx
end Go.Proofs.YteppndjaglhehaaDoor

namespace Go.Proofs.YteppndjaglhehaaDoor
open Go Go.Proofs.VE
set_option linter.unusedVariables false
set_option linter.unusedSimpArgs false
theorem g50 {b0_0:List AV} {b0_1:Int} {b0_2:Int} {b1:List AV} {x0:Int} {x1:List AV} {x2:Int} {x3:Int} {x4:List AV} (h:W50 b0_0 b0_1 b0_2 b1=some (x0,x1,x2,x3,x4)):q50 b0_0 b0_1 b0_2 b1=true∧v50_0 b0_0 b0_1 b0_2 b1=x0∧v50_1 b0_0 b0_1 b0_2 b1=x1∧v50_2 b0_0 b0_1 b0_2 b1=x2∧v50_3 b0_0 b0_1 b0_2 b1=x3∧v50_4 b0_0 b0_1 b0_2 b1=x4:=by
 unfold q50 v50_0 v50_1 v50_2 v50_3 v50_4
 rw [h]
 exact ⟨rfl,rfl,rfl,rfl,rfl,rfl⟩
theorem g82 {a1:Int} {b0_0:List AV} {b0_1:Int} {b0_2:Int} {x0:List AV} {x1:List AV} {x2:Int} {x3:Int} (h:W82 a1 b0_0 b0_1 b0_2=some (x0,x1,x2,x3)):q82 a1 b0_0 b0_1 b0_2=true∧v82_0 a1 b0_0 b0_1 b0_2=x0∧v82_1 a1 b0_0 b0_1 b0_2=x1∧v82_2 a1 b0_0 b0_1 b0_2=x2∧v82_3 a1 b0_0 b0_1 b0_2=x3:=by
 unfold q82 v82_0 v82_1 v82_2 v82_3
 rw [h]
 exact ⟨rfl,rfl,rfl,rfl,rfl⟩
theorem g103 {a1:Int} {b0_0:List AV} {b0_1:Int} {b0_2:Int} {x0:Bool} {x1:List AV} {x2:Int} {x3:Int} (h:W103 a1 b0_0 b0_1 b0_2=some (x0,x1,x2,x3)):q103 a1 b0_0 b0_1 b0_2=true∧v103_0 a1 b0_0 b0_1 b0_2=x0∧v103_1 a1 b0_0 b0_1 b0_2=x1∧v103_2 a1 b0_0 b0_1 b0_2=x2∧v103_3 a1 b0_0 b0_1 b0_2=x3:=by
 unfold q103 v103_0 v103_1 v103_2 v103_3
 rw [h]
 exact ⟨rfl,rfl,rfl,rfl,rfl⟩
theorem g84 {b0_0:List AV} {b0_1:Int} {b0_2:Int} {b1:List AV} {b2:List AV} {b3:List AV} {x0:Int} {x1:List AV} {x2:Int} {x3:Int} {x4:List AV} {x5:List AV} {x6:List AV} (h:W84 b0_0 b0_1 b0_2 b1 b2 b3=some (x0,x1,x2,x3,x4,x5,x6)):q84 b0_0 b0_1 b0_2 b1 b2 b3=true∧v84_0 b0_0 b0_1 b0_2 b1 b2 b3=x0∧v84_1 b0_0 b0_1 b0_2 b1 b2 b3=x1∧v84_2 b0_0 b0_1 b0_2 b1 b2 b3=x2∧v84_3 b0_0 b0_1 b0_2 b1 b2 b3=x3∧v84_4 b0_0 b0_1 b0_2 b1 b2 b3=x4∧v84_5 b0_0 b0_1 b0_2 b1 b2 b3=x5∧v84_6 b0_0 b0_1 b0_2 b1 b2 b3=x6:=by
 unfold q84 v84_0 v84_1 v84_2 v84_3 v84_4 v84_5 v84_6
 rw [h]
 exact ⟨rfl,rfl,rfl,rfl,rfl,rfl,rfl,rfl⟩
theorem g62 {b0_0:List AV} {b0_1:Int} {b0_2:Int} {x0:List AV} {x1:List AV} {x2:List AV} {x3:List AV} {x4:Int} {x5:Int} (h:W62 b0_0 b0_1 b0_2=some (x0,x1,x2,x3,x4,x5)):q62 b0_0 b0_1 b0_2=true∧v62_0 b0_0 b0_1 b0_2=x0∧v62_1 b0_0 b0_1 b0_2=x1∧v62_2 b0_0 b0_1 b0_2=x2∧v62_3 b0_0 b0_1 b0_2=x3∧v62_4 b0_0 b0_1 b0_2=x4∧v62_5 b0_0 b0_1 b0_2=x5:=by
 unfold q62 v62_0 v62_1 v62_2 v62_3 v62_4 v62_5
 rw [h]
 exact ⟨rfl,rfl,rfl,rfl,rfl,rfl,rfl⟩
theorem g29 {b0_0:List AV} {b0_1:Int} {b0_2:Int} {x0:List AV} {x1:List AV} {x2:List AV} {x3:List AV} {x4:Int} {x5:Int} (h:W29 b0_0 b0_1 b0_2=some (x0,x1,x2,x3,x4,x5)):q29 b0_0 b0_1 b0_2=true∧v29_0 b0_0 b0_1 b0_2=x0∧v29_1 b0_0 b0_1 b0_2=x1∧v29_2 b0_0 b0_1 b0_2=x2∧v29_3 b0_0 b0_1 b0_2=x3∧v29_4 b0_0 b0_1 b0_2=x4∧v29_5 b0_0 b0_1 b0_2=x5:=by
 unfold q29 v29_0 v29_1 v29_2 v29_3 v29_4 v29_5
 rw [h]
 exact ⟨rfl,rfl,rfl,rfl,rfl,rfl,rfl⟩
theorem g6 {a0:List AV} {x0:List AV} {x1:List AV} {x2:List AV} (h:W6 a0=some (x0,x1,x2)):q6 a0=true∧v6_0 a0=x0∧v6_1 a0=x1∧v6_2 a0=x2:=by
 unfold q6 v6_0 v6_1 v6_2
 rw [h]
 exact ⟨rfl,rfl,rfl,rfl⟩
theorem P83g (vs rs ps:List AV) (v:Int) (h1:vs.length≤1048576) (h2:rs.length≤1048576) (h3:ps.length≤1048576) (hN:N2 ps) :
  q83 vs rs ps v=true∧(v83_0 vs rs ps v).length=vs.length∧(v83_1 vs rs ps v).length=rs.length∧((v83_2 vs rs ps v).length≤ps.length∨(v83_2 vs rs ps v).length≤2001)∧N2 (v83_2 vs rs ps v):=by
 obtain ⟨m1,m2⟩:=P12 vs rs ps h1 h2 h3
 obtain ⟨c0,c1,c2,c3⟩:=P97 vs rs ps h1 h2 h3
 cases hc:isC vs rs ps with
 | false =>
  unfold q83 v83_0 v83_1 v83_2
  rw [m1,m2,c0,c1,c2,c3,hc]
  exact ⟨rfl,rfl,rfl,.inl (Nat.le_refl _),hN⟩
 | true =>
  cases hb:v38_0 v (-1000) 1000 with
  | false =>
   unfold q83 v83_0 v83_1 v83_2
   rw [m1,m2,c0,c1,c2,c3,hc,hb]
   exact ⟨rfl,rfl,rfl,.inl (Nat.le_refl _),hN⟩
  | true =>
   rw [v38,Bool.and_eq_true,decide_eq_true_eq,decide_eq_true_eq] at hb
   have hcol:=(isC_iff vs rs ps h1).1 hc
   cases hf:(findP ps v).isSome with
   | true =>
    obtain ⟨e0,e1,e2,e3,_⟩:=crack_oldS hcol hb hf
    rw [e0,e1,e2,e3]
    exact ⟨rfl,rfl,rfl,.inl (Nat.le_refl _),hN⟩
   | false =>
    obtain ⟨a,b,at_,ss,hcr⟩:=crack_newS hcol hN hb hf
    obtain ⟨e0,e1,e2,e3,_⟩:=hcr.c
    rw [e0,e1,e2,e3]
    exact ⟨rfl,appS_len _ _,appS_len _ _,.inr (col_few hcr.ok),hcr.n2⟩
def Cur (b:List AV) (i:Int):Prop:=0≤i∧i≤b.length∧b.length≤1048576
theorem and255 (x:Int):0≤IntKind.i64.wrap ((BitVec.ofInt 64 x &&& BitVec.ofInt 64 255).toNat:Int)∧IntKind.i64.wrap ((BitVec.ofInt 64 x &&& BitVec.ofInt 64 255).toNat:Int)≤255:=by
 have h:(BitVec.ofInt 64 x &&& BitVec.ofInt 64 255).toNat≤255:=by
  rw [BitVec.toNat_and]
  exact Nat.and_le_right
 rw [wrap_in (by omega) (by omega)]
 omega
theorem byte {b:List AV} {i:Int} (hc:Cur b i) (h:Int):q74 b i h=true∧(0≤v74_0 b i h∧v74_0 b i h≤255)∧Cur b (v74_2 b i h):=by
 obtain ⟨h0,h1,h2⟩:=hc
 unfold q74 v74_0 v74_2
 rw [hid_eq,hid_eq]
 by_cases c:i<b.length
 ·rw [decide_eq_true c,decide_eq_true h0]
  simp only [cond_true]
  refine ⟨rfl,and255 _,?_⟩
  rw [wrap_in (by omega) (by omega)]
  exact ⟨by omega,by omega,h2⟩
 ·rw [decide_eq_false c]
  simp only [cond_false]
  exact ⟨trivial,and255 _,h0,h1,h2⟩
theorem tmod_in {x n:Int} (x0:0≤x) (n0:0<n):0≤Int.tmod x n∧Int.tmod x n<n:=⟨Int.tmod_nonneg _ x0,Int.tmod_lt_of_pos _ n0⟩
theorem four {x y z w:Int} (hx:0≤x∧x≤255) (hy:0≤y∧y≤255) (hz:0≤z∧z≤255) (hw:0≤w∧w≤255):0≤IntKind.i64.wrap (IntKind.i64.wrap (IntKind.i64.wrap (IntKind.i64.wrap (x*16777216)+IntKind.i64.wrap (y*65536))+IntKind.i64.wrap (z*256))+w):=by
 rw [wrap_in (a:=x*16777216) (by omega) (by omega),wrap_in (a:=y*65536) (by omega) (by omega),wrap_in (a:=z*256) (by omega) (by omega),wrap_in (a:=x*16777216+y*65536) (by omega) (by omega),wrap_in (a:=x*16777216+y*65536+z*256) (by omega) (by omega),wrap_in (by omega) (by omega)]
 omega
theorem below {b:List AV} {i:Int} (hc:Cur b i) (h:Int) {n:Int} (n0:0<n):∃ x i' h',q49 n b i h=true∧v49_0 n b i h=x∧v49_1 n b i h=b∧v49_2 n b i h=i'∧v49_3 n b i h=h'∧0≤x∧x<n∧Cur b i':=by
 obtain ⟨x0,x1,x2⟩:=byte hc h
 obtain ⟨y0,y1,y2⟩:=byte x2 (v74_3 b i h)
 obtain ⟨z0,z1,z2⟩:=byte y2 (v74_3 b (v74_2 b i h) (v74_3 b i h))
 obtain ⟨w0,w1,w2⟩:=byte z2 (v74_3 b (v74_2 b (v74_2 b i h) (v74_3 b i h)) (v74_3 b (v74_2 b i h) (v74_3 b i h)))
 have d1:decide (n≤0)=false:=decide_eq_false (by omega)
 have d2:decide (n=0)=false:=decide_eq_false (by omega)
 refine ⟨_,_,_,?_,rfl,?_,rfl,rfl,?_⟩
 ·unfold q49
  simp only [v74_1]
  rw [d1,d2,x0,y0,z0,w0]
  cases decide (n≤256) <;> rfl
 ·unfold v49_1
  first|rfl|(rw [hid_eq];simp only [v74_1];cases decide (n≤0) <;> cases decide (n≤256) <;> rfl)|(simp only [v74_1];cases decide (n≤0) <;> cases decide (n≤256) <;> rfl)
 ·unfold v49_0 v49_2
  rw [hid_eq,hid_eq]
  simp only [v74_1]
  rw [d1]
  simp only [cond_false]
  by_cases c:n≤256
  ·rw [decide_eq_true c]
   simp only [cond_true]
   exact ⟨(tmod_in x1.1 n0).1,(tmod_in x1.1 n0).2,x2⟩
  ·rw [decide_eq_false c]
   simp only [cond_false]
   exact ⟨(tmod_in (four x1 y1 z1 w1) n0).1,(tmod_in (four x1 y1 z1 w1) n0).2,w2⟩
theorem inL {L:List AV} {x:Int} (x0:0≤x) (x1:x<(L.length:Int)):(decide (0≤x) && decide (x<(L.length:Int)))=true:=by
 rw [decide_eq_true x0,decide_eq_true x1];rfl
theorem rm8 (L:List AV) (y:AV) (h:L.length≤2000000):(decide ((L.length+[y].length)*8≤140737488355328) && decide (L.length+[y].length≤140737488355328))=true:=by
 simp only [List.length_singleton,Bool.and_eq_true,decide_eq_true_eq]
 omega
theorem rm16 (L:List AV) (y:AV) (h:L.length≤2000000):(decide ((L.length+[y].length)*16≤140737488355328) && decide (L.length+[y].length≤140737488355328))=true:=by
 simp only [List.length_singleton,Bool.and_eq_true,decide_eq_true_eq]
 omega
theorem wrap1 {t:Int} (h:0<t) (h':t≤9223372036854775807):IntKind.i64.wrap (t - 1)=t - 1:=wrap_in (by omega) (by omega)
theorem wide_pos {x:Int} (h:∃ j:Nat,j<([AV.int .i64 3,AV.int .i64 10,AV.int .i64 30,AV.int .i64 1000]:List AV).length∧x=fI (([AV.int .i64 3,AV.int .i64 10,AV.int .i64 30,AV.int .i64 1000]:List AV).getD j .undef) 0):0<x:=by
 obtain ⟨j,hj,rfl⟩:=h
 have:j<4:=hj
 obtain rfl|rfl|rfl|rfl:j=0∨j=1∨j=2∨j=3:=by omega
 all_goals decide
theorem pick {b:List AV} {i:Int} (hc:Cur b i) (h:Int) {L:List AV} (L0:0<L.length):∃ x i' h',W50 b i h L=some (x,b,i',h',L)∧Cur b i'∧∃ j:Nat,j<L.length∧x=fI (L.getD j .undef) 0:=by
 obtain ⟨x,i1,h1,a0,a1,a2,a3,a4,x0,x1,c1⟩:=below hc h (n:=(L.length:Int)) (by omega)
 unfold W50 T50
 simp only [a0,a1,a2,a3,a4,inL x0 x1,cond_true]
 exact ⟨_,_,_,rfl,c1,x.toNat,by omega,rfl⟩
theorem once {b:List AV} {i:Int} (hc:Cur b i) (h:Int) {n:Int} (n0:0<n):∃ o i' h',W103 n b i h=some (o,b,i',h')∧Cur b i':=by
 obtain ⟨x,i1,h1,a0,a1,a2,a3,a4,x0,x1,c1⟩:=below hc h n0
 unfold W103 T103
 simp only [a0,a1,a2,a3,a4,cond_true]
 exact ⟨_,_,_,rfl,c1⟩
theorem values {b:List AV} {i:Int} (hc:Cur b i) (h:Int) {M:Int} (m0:0≤M) (m1:M≤100):∃ xs i' h',W82 M b i h=some (xs,b,i',h')∧xs.length≤100∧Cur b i':=by
 obtain ⟨w,i1,h1,hW,c1,hw⟩:=pick hc h (L:=[AV.int .i64 3,AV.int .i64 10,AV.int .i64 30,AV.int .i64 1000]) (by decide)
 obtain ⟨a0,a1,a2,a3,a4,_⟩:=g50 hW
 have pos:=wide_pos hw
 have wM:IntKind.i64.wrap (M+1)=M+1:=wrap_in (by omega) (by omega)
 obtain ⟨m,i2,h2,b0,b1,b2,b3,b4,n0,n1,c2⟩:=below c1 h1 (n:=M+1) (by omega)
 obtain ⟨r,r1,r2,r3,r4⟩:=runW_ends (f:=R82_0 w) (fun s:Int × List AV × List AV × Int × Int=>0≤s.1∧s.2.1.length+s.1=m∧s.2.2.1=b∧Cur b s.2.2.2.1) (fun r=>r.1.length≤100∧r.2.1=b∧Cur b r.2.2.1) (fun s=>s.1.toNat) (fun s hI=>by
   obtain ⟨t,L,b',k,g⟩:=s
   obtain ⟨t0,tl,rfl,hk⟩:=hI
   simp only at t0 tl hk
   by_cases ct:t > 0
   ·obtain ⟨y,k1,g1,e0,e1,e2,e3,e4,_,_,hk1⟩:=below hk g pos
    have d1:decide (t > 0)=true:=decide_eq_true ct
    have d3:(!decide ((3:Int)=0))=true:=rfl
    refine .inl ⟨(t - 1,L++[AV.int .i64 (IntKind.i64.wrap (y - IntKind.i64.wrap (Int.tdiv w 3)))],b',k1,g1),?_,⟨by simp only;omega,by simp only [List.length_append,List.length_singleton];omega,rfl,hk1⟩,by simp only;omega⟩
    show F82_0 w t L b' k g=_
    unfold F82_0 G82_0
    simp only [d1,d3,e0,e1,e2,e3,e4,rm8 L _ (by omega),wrap1 ct (by omega),cond_true] <;> rfl
   ·have d1:decide (t > 0)=false:=decide_eq_false ct
    refine .inr ⟨(L,b',k,g),?_,by simp only;omega,rfl,hk⟩
    show F82_0 w t L b' k g=_
    unfold F82_0 G82_0
    simp only [d1,cond_false]) ((m - 0).toNat+1) (m,[],b,i2,h2) ⟨n0,by simp,rfl,c2⟩ (by simp only;omega)
 obtain ⟨xs,b',i3,h3⟩:=r
 simp only at r2 r3 r4
 subst r3
 unfold W82 T82
 simp only [a0,a1,a2,a3,a4,wM,b0,b1,b2,b3,b4,r1,cond_true,ro]
 exact ⟨_,_,_,rfl,r2,r4⟩
theorem value {b:List AV} {i:Int} (hc:Cur b i) (h:Int) {x:List AV} (hx:x.length≤1048576) (y z:List AV):∃ v i' h',W84 b i h x y z=some (v,b,i',h',x,y,z)∧Cur b i':=by
 have six:0<[AV.int .i64 0,AV.int .i64 3,AV.int .i64 (-2),AV.int .i64 (-1000),AV.int .i64 1000,AV.int .i64 50].length:=by decide
 unfold W84 T84
 by_cases c:(x.length:Int) > 0
 ·obtain ⟨o,i1,h1,hW,c1⟩:=once hc h (n:=4) (by decide)
  obtain ⟨a0,a1,a2,a3,a4⟩:=g103 hW
  obtain ⟨u,i2,h2,hW2,c2,_⟩:=pick c1 h1 six
  obtain ⟨e0,e1,e2,e3,e4,e5⟩:=g50 hW2
  obtain ⟨p,i3,h3,b0,b1,b2,b3,b4,p0,p1,c3⟩:=below c1 h1 (n:=(x.length:Int)) (by omega)
  obtain ⟨r,i4,h4,f0,f1,f2,f3,f4,r0,r1,c4⟩:=below c3 h3 (n:=3) (by decide)
  simp only [decide_eq_true c,a0,a1,a2,a3,a4,e0,e1,e2,e3,e4,b0,b1,b2,b3,b4,f0,f1,f2,f3,f4,inL p0 p1,cond_true]
  cases o with
  | true=>exact ⟨_,_,_,rfl,c2⟩
  | false=>exact ⟨_,_,_,rfl,c4⟩
 ·obtain ⟨u,i2,h2,hW2,c2,_⟩:=pick hc h six
  obtain ⟨e0,e1,e2,e3,e4,e5⟩:=g50 hW2
  simp only [decide_eq_false c,e0,e1,e2,e3,e4,cond_true,cond_false]
  exact ⟨_,_,_,rfl,c2⟩
theorem crkr {b:List AV} {i:Int} (hc:Cur b i) (h:Int):∃ V R P i' h',W62 b i h=some (V,R,P,b,i',h')∧V.length≤100∧R.length≤100∧P.length≤2001∧N2 P∧Cur b i':=by
 obtain ⟨xs,i1,h1,hW,hl,c1⟩:=values hc h (M:=14) (by decide) (by decide)
 obtain ⟨a0,a1,a2,a3,a4⟩:=g82 hW
 obtain ⟨n1,n2,n3,n4⟩:=P81 xs (by omega)
 have l0:(v81_0 xs).length≤100:=by
  rw [n2];cases v37_0 xs
  ·simp
  ·exact hl
 have l1:(v81_1 xs).length≤100:=by
  rw [n3];cases v37_0 xs
  ·simp
  ·simp only [cond_true];rw [rows_len];exact hl
 obtain ⟨m,i2,h2,b0,b1,b2,b3,b4,m0,m1,c2⟩:=below c1 h1 (n:=5) (by decide)
 generalize hV0:v81_0 xs=V at *
 generalize hU0:v81_1 xs=U at *
 obtain ⟨r,r1,r2⟩:=runW_ends (f:=R62_0) (fun s:Int × List AV × List AV × List AV × List AV × Int × Int=>0≤s.1∧s.1≤5∧s.2.1.length≤100∧s.2.2.1.length≤100∧s.2.2.2.1.length≤2001∧N2 s.2.2.2.1∧s.2.2.2.2.1=b∧Cur b s.2.2.2.2.2.1) (fun r=>r.1.length≤100∧r.2.1.length≤100∧r.2.2.1.length≤2001∧N2 r.2.2.1∧r.2.2.2.1=b∧Cur b r.2.2.2.2.1) (fun s=>s.1.toNat) (fun s hI=>by
   obtain ⟨t,X,Y,Z,b',k,g⟩:=s
   obtain ⟨t0,t5,hX,hY,hZ,hN,rfl,hk⟩:=hI
   simp only at t0 t5 hX hY hZ hN hk
   by_cases ct:t > 0
   ·obtain ⟨v,k1,g1,hV,hk1⟩:=value hk g (x:=X) (by omega) Y Z
    obtain ⟨e0,e1,e2,e3,e4,e5,e6,e7⟩:=g84 hV
    obtain ⟨f0,f1,f2,f3,f4⟩:=P83g X Y Z v (by omega) (by omega) (by omega) hN
    refine .inl ⟨(t - 1,v83_0 X Y Z v,v83_1 X Y Z v,v83_2 X Y Z v,b',k1,g1),?_,⟨by simp only;omega,by simp only;omega,by simp only;omega,by simp only;omega,by simp only;omega,f4,rfl,hk1⟩,by simp only;omega⟩
    show F62_0 t X Y Z b' k g=_
    unfold F62_0 G62_0
    simp only [decide_eq_true ct,e0,e1,e2,e3,e4,e5,e6,e7,f0,wrap1 ct (by omega),cond_true]
   ·refine .inr ⟨(X,Y,Z,b',k,g),?_,hX,hY,hZ,hN,rfl,hk⟩
    show F62_0 t X Y Z b' k g=_
    unfold F62_0 G62_0
    simp only [decide_eq_false ct,cond_false]) ((m - 0).toNat+1) (m,V,U,[],b,i2,h2) ⟨m0,by simp only;omega,l0,l1,by simp,N2_nil,rfl,c2⟩ (by simp only;omega)
 obtain ⟨V',R',P',b',i3,h3⟩:=r
 obtain ⟨g1,g2,g3,g4,g5,g6⟩:=r2
 simp only at g1 g2 g3 g4 g5 g6
 subst g5
 unfold W62 T62
 simp only [a0,a1,a2,a3,a4,n1,n4,hV0,hU0,b0,b1,b2,b3,b4,r1,cond_true,ro]
 exact ⟨_,_,_,_,_,rfl,g1,g2,g3,g4,g6⟩
theorem N2.snoc {P:List AV} (h:N2 P) (a b:Int):N2 (P++[mk2 a b]):=fun x hx=>by
 rcases List.mem_append.1 hx with hx|hx
 ·exact h x hx
 ·rw [List.mem_singleton.1 hx];rfl
theorem anyCrk {b:List AV} {i:Int} (hc:Cur b i) (h:Int):∃ V R P i' h',W29 b i h=some (V,R,P,b,i',h')∧V.length≤1048576∧R.length≤1048576∧P.length≤1048576∧N2 P∧Cur b i':=by
 obtain ⟨V,R,P,i1,h1,hW,l0,l1,l2,n2,c1⟩:=crkr hc h
 obtain ⟨a0,a1,a2,a3,a4,a5,a6⟩:=g62 hW
 obtain ⟨x,i2,h2,b0,b1,b2,b3,b4,_,_,c2⟩:=below c1 h1 (n:=12) (by decide)
 obtain ⟨u,i3,h3,hW2,c3,_⟩:=pick c2 h2 (L:=[AV.int .i64 0,AV.int .i64 999,AV.int .i64 1000,AV.int .i64 (-5)]) (by decide)
 obtain ⟨e0,e1,e2,e3,e4,e5⟩:=g50 hW2
 obtain ⟨y,i4,h4,f0,f1,f2,f3,f4,_,_,c4⟩:=below c2 h2 (n:=9) (by decide)
 obtain ⟨z,i5,h5,d0,d1,d2,d3,d4,_,_,c5⟩:=below c4 h4 (n:=9) (by decide)
 unfold W29 T29
 simp only [a0,a1,a2,a3,a4,a5,a6,b0,b1,b2,b3,b4,e0,e1,e2,e3,e4,f0,f1,f2,f3,f4,d0,d1,d2,d3,d4,rm16 P _ (by omega),rm8 R _ (by omega),cond_true]
 cases decide (x=0) with
 | true =>
  by_cases cv:(V.length:Int) > 0
  ·have t0:(decide ((0:Int)≤0) && decide ((0:Int)<(V.length:Int)))=true:=by rw [decide_eq_true cv];rfl
   simp only [cond_true,decide_eq_true cv,t0]
   exact ⟨_,_,_,_,_,rfl,by rw [List.length_set];omega,by omega,by omega,n2,c3⟩
  ·simp only [cond_true,decide_eq_false cv,cond_false]
   exact ⟨_,_,_,_,_,rfl,by omega,by omega,by omega,n2,c2⟩
 | false =>
  cases decide (x=1) with
  | true=>exact ⟨_,_,_,_,_,rfl,by omega,by omega,by simp only [List.length_append,List.length_singleton];omega,n2.snoc _ _,c5⟩
  | false =>
   cases decide (x=2) with
   | true=>exact ⟨_,_,_,_,_,rfl,by omega,by simp only [List.length_append,List.length_singleton];omega,by omega,n2,c2⟩
   | false=>exact ⟨_,_,_,_,_,rfl,by omega,by omega,by omega,n2,c2⟩
theorem start_of {f:Int × Int→Out (Int × Int) Int} (code:List AV) (h1:∀ g k:Int,0≤k→k<code.length→(∃ g',f (g,k) = .next (g',k+1))∨f (g,k) = .stop g) (h2:∀ g k:Int,¬ k<code.length→f (g,k) = .stop g) (x:Int):∃ r,runW f (((code.length:Int) - 0).toNat+1) (x,0)=some r:=by
 obtain ⟨r,r1,_⟩:=runW_ends (f:=f) (fun s:Int × Int=>0≤s.2∧s.2≤code.length) (fun _=>True) (fun s=>((code.length:Int) - s.2).toNat) (fun s hI=>by
   obtain ⟨g,k⟩:=s
   obtain ⟨k0,k1⟩:=hI
   simp only at k0 k1
   by_cases ck:k<code.length
   ·rcases h1 g k k0 ck with ⟨g',e⟩|e
    ·exact .inl ⟨(g',k+1),e,⟨by simp only;omega,by simp only;omega⟩,by simp only;omega⟩
    ·exact .inr ⟨g,e,trivial⟩
   ·exact .inr ⟨g,h2 g k ck,trivial⟩) (((code.length:Int) - 0).toNat+1) (x,0) ⟨Int.le_refl 0,by simp only;omega⟩ (by simp only;omega)
 exact ⟨r,r1⟩
end Go.Proofs.YteppndjaglhehaaDoor

namespace Go.Proofs.YteppndjaglhehaaDoor
open Go Go.Proofs.VE
set_option linter.unusedVariables false
set_option linter.unusedSimpArgs false
def In64 (n:Int):Prop := -9223372036854775808≤n∧n≤9223372036854775807
theorem u8_digit:∀ d:Fin 10,IntKind.u8.wrap (48+(d.val:Int))=48+(d.val:Int)∧UInt8.ofNat (48+(d.val:Int)).toNat=UInt8.ofNat (48+d.val):=by decide +kernel
theorem digit_wrap (d:Nat) (h:d<10):IntKind.u8.wrap (IntKind.i64.wrap (48+(d:Int)))=48+(d:Int)∧UInt8.ofNat (48+(d:Int)).toNat=UInt8.ofNat (48+d):=by
 rw [wrap_in (by omega) (by omega)]
 exact u8_digit ⟨d,h⟩
theorem bytes_one (x:Int) (s:ByteArray):bytesA [AV.int .u8 x]++s=⟨(UInt8.ofNat x.toNat :: s.data.toList).toArray⟩:=by
 have e:bytesA [AV.int .u8 x]=⟨#[UInt8.ofNat x.toNat]⟩:=rfl
 rw [e]
 apply ByteArray.ext
 simp [ByteArray.data_append]
theorem bytes_one_size (x:Int):(bytesA [AV.int .u8 x]).size=1:=rfl
def digits (n:Int):List UInt8:=if n=0 then [] else Lib.decDigits n.natAbs
theorem digits_step (n:Int) (h:n ≠ 0):digits n=digits (Int.tdiv n 10)++[UInt8.ofNat (48+n.natAbs % 10)]:=by
 have e:(Int.tdiv n 10).natAbs=n.natAbs / 10:=by rw [Int.natAbs_tdiv];rfl
 unfold digits
 rw [if_neg h]
 by_cases h0:n.natAbs<10
 ·have:Int.tdiv n 10=0:=Int.natAbs_eq_zero.1 (by rw [e];omega)
  rw [if_pos this,Lib.decDigits,dif_pos h0,Nat.mod_eq_of_lt h0]
  rfl
 ·have:Int.tdiv n 10 ≠ 0:=fun h2=>by rw [h2] at e;simp at e;omega
  rw [if_neg this,e]
  conv=>lhs;rw [Lib.decDigits,dif_neg h0]
theorem fi_step (b:Bool) (n:Int) (s:ByteArray) (h:n ≠ 0) (h0 : -9223372036854775808≤n) (h1:n≤9223372036854775807) (hs:s.size≤100) :
  R43_0 b (n,s) = .next (Int.tdiv n 10,⟨(UInt8.ofNat (48+n.natAbs % 10) :: s.data.toList).toArray⟩):=by
 unfold R43_0 F43_0 G43_0
 have d0:decide (n=0)=false:=decide_eq_false h
 have d1:decide ((10:Nat)=0)=false:=rfl
 have d2:∀ x,decide ((bytesA [AV.int .u8 x]).size+s.size≤4611686018427387904)=true:=fun x=>decide_eq_true (by rw [bytes_one_size];omega)
 have ht : -9223372036854775808≤Int.tdiv n 10∧Int.tdiv n 10≤9223372036854775807:=by
  have e:(Int.tdiv n 10).natAbs=n.natAbs / 10:=by rw [Int.natAbs_tdiv];rfl
  omega
 rw [wrap_in ht.1 ht.2]
 simp only [d0,d1,d2,Bool.not_false,cond_true]
 rcases Int.lt_or_le n 0 with hn|hn
 ·have et:Int.tmod n 10 = -((n.natAbs % 10:Nat):Int):=by
   have:n = -(n.natAbs:Int):=by omega
   conv=>lhs;rw [this,Int.neg_tmod]
   rfl
  rw [et]
  by_cases hz:n.natAbs % 10=0
  ·rw [hz]
   have:=digit_wrap 0 (by decide)
   simp only [Int.ofNat_zero,Int.neg_zero,Int.add_zero] at this ⊢
   rw [show decide ((0:Int)<0)=false from rfl]
   simp only [cond_false]
   rw [bytes_one,this.1]
   rfl
  ·have d3:decide (-((n.natAbs % 10:Nat):Int)<0)=true:=decide_eq_true (by omega)
   rw [d3]
   simp only [cond_true]
   rw [wrap_in (a:=0 - -((n.natAbs % 10:Nat):Int)) (by omega) (by omega),show 0 - -((n.natAbs % 10:Nat):Int)=((n.natAbs % 10:Nat):Int) by omega,bytes_one]
   obtain ⟨e1,e2⟩:=digit_wrap (n.natAbs % 10) (Nat.mod_lt _ (by decide))
   rw [e1,e2]
 ·have et:Int.tmod n 10=((n.natAbs % 10:Nat):Int):=by
   have:n=(n.natAbs:Int):=by omega
   conv=>lhs;rw [this]
   rfl
  rw [et]
  have d3:decide (((n.natAbs % 10:Nat):Int)<0)=false:=decide_eq_false (by omega)
  rw [d3]
  simp only [cond_false]
  rw [bytes_one]
  obtain ⟨e1,e2⟩:=digit_wrap (n.natAbs % 10) (Nat.mod_lt _ (by decide))
  rw [e1,e2]
theorem fi_run (b:Bool):∀ (f k:Nat) (n:Int) (s:ByteArray),n.natAbs<10 ^ k→n.natAbs<f→s.size+k≤100 → -9223372036854775808≤n→n≤9223372036854775807 →
  runW (R43_0 b) f (n,s)=some (⟨(digits n++s.data.toList).toArray⟩)
 | 0,_,_,_,_,h,_,_,_=>by omega
 | f+1,k,n,s,hk,hf,hs,h0,h1=>by
  by_cases hz:n=0
  ·subst hz
   unfold runW R43_0 F43_0 G43_0 digits
   simp only [decide_true,Bool.not_true,cond_false,Out.el,if_true,List.nil_append]
  ·have e:(Int.tdiv n 10).natAbs=n.natAbs / 10:=by rw [Int.natAbs_tdiv];rfl
   cases k with
   | zero=>simp at hk;omega
   | succ k =>
    rw [Nat.pow_succ] at hk
    unfold runW
    rw [fi_step b n s hz h0 h1 (by omega)]
    simp only [Out.el]
    rw [fi_run b f k _ _ (by rw [e];omega) (by rw [e];omega) (by
     show (_ :: s.data.toList).toArray.size+k≤100
     rw [List.size_toArray,List.length_cons,Array.length_toList]
     have:s.data.size=s.size:=rfl
     omega) (by omega) (by omega),digits_step n hz]
    simp
theorem digits_len (n:Int) (h0 : -9223372036854775808≤n) (h1:n≤9223372036854775807):(Lib.decDigits n.natAbs).length≤19:=by
 rw [Lib.decDigits_length]
 by_cases hz:n.natAbs=0
 ·rw [hz,Lib.nDigits_small (by decide)];decide
 ·obtain ⟨k,h2,h3,hk⟩:∃ k,10 ^ k≤n.natAbs∧n.natAbs<10 ^ (k+1)∧k<19:=by
   have:∀ m,n.natAbs<10 ^ m→∃ k,10 ^ k≤n.natAbs∧n.natAbs<10 ^ (k+1)∧k<m:=by
    intro m
    induction m with
    | zero=>intro h;rw [Nat.pow_zero] at h;omega
    | succ m ih =>
     intro h
     by_cases hm:10 ^ m≤n.natAbs
     ·exact ⟨m,hm,h,Nat.lt_succ_self m⟩
     ·obtain ⟨k,a,b,c⟩:=ih (by omega)
      exact ⟨k,a,b,Nat.lt_succ_of_lt c⟩
   exact this 19 (by omega)
  rw [Lib.nDigits_unique k _ h2 h3]
  omega
theorem itoaB_len (n:Int) (h0 : -9223372036854775808≤n) (h1:n≤9223372036854775807):(itoaB n).size≤20:=by
 have:=digits_len n h0 h1
 have e:(itoaB n).size=(Lib.itoa n).length:=by simp [itoaB,ByteArray.size]
 rw [e]
 unfold Lib.itoa
 split
 ·simp only [List.length_cons];omega
 ·rename_i h
  rw [show n.toNat=n.natAbs by omega]
  omega
theorem fmtInt (n:Int) (h0 : -9223372036854775808≤n) (h1:n≤9223372036854775807):q43 n=true∧v43_0 n=itoaB n:=by
 unfold q43 v43_0
 by_cases hz:n=0
 ·subst hz
  refine ⟨rfl,?_⟩
  have:Lib.itoa 0=[48]:=by unfold Lib.itoa;rw [if_neg (by decide)];exact Lib.decDigits_one (i:=0) (by decide)
  unfold itoaB
  rw [this]
  rfl
 ·have hd:digits n=Lib.decDigits n.natAbs:=by unfold digits;rw [if_neg hz]
  have hl:=digits_len n h0 h1
  rw [decide_eq_false hz,fi_run _ _ 19 n ByteArray.empty (by omega) (Nat.lt_succ_self _) (by decide) h0 h1,hd]
  simp only [cond_false,ro]
  rcases Int.lt_or_le n 0 with hn|hn
  ·rw [decide_eq_true hn]
   simp only [cond_true]
   refine ⟨decide_eq_true ?_,?_⟩
   ·simp [ByteArray.size];omega
   ·unfold itoaB Lib.itoa
    rw [if_pos hn]
    apply ByteArray.ext
    simp [ByteArray.data_append]
  ·rw [decide_eq_false (by omega)]
   refine ⟨rfl,?_⟩
   unfold itoaB Lib.itoa
   rw [if_neg (by omega),show n.toNat=n.natAbs by omega]
   simp
theorem fmtInt' (n:Int) (h0 : -9223372036854775808≤n) (h1:n≤9223372036854775807):q41 n=true∧v41_0 n=itoaB n :=
 ⟨by unfold q41 q67;rw [decide_eq_true h0,decide_eq_true h1];rfl,rfl⟩
theorem beq_empty (t:ByteArray) (h:1≤t.size):(t.toList == ByteArray.empty.toList)=false:=by
 rw [Lib.toList_data,Lib.toList_data]
 cases h2:t.data.toList with
 | nil =>
  have:t.size=t.data.toList.length:=by rw [Array.length_toList];rfl
  rw [h2,List.length_nil] at this
  omega
 | cons _ _=>rfl
theorem joinB_snoc (l:List AV) (w sep:ByteArray):joinB (l++[AV.str w]) sep=bif decide (l.length=0) then w else (joinB l sep++sep)++w:=by
 apply ByteArray.ext
 apply Array.toList_inj.1
 cases l with
 | nil=>simp [joinB,Lib.join_one,fS,AV.cells]
 | cons x r =>
  simp [joinB,Lib.join_cons,Lib.joinTail,fS,AV.cells,ByteArray.data_append]
end Go.Proofs.YteppndjaglhehaaDoor

namespace Go.Proofs.YteppndjaglhehaaDoor
open Go Go.Proofs.VE
set_option linter.unusedVariables false
set_option linter.unusedSimpArgs false
def gS (xs:List AV) (i t:Int):Int:=IntKind.i64.wrap (t+fI (xs.getD i.toNat .undef) 0)
theorem sum47 (xs:List AV) (h:xs.length≤1048576):runW (R44_0 xs xs.length) (((xs.length:Int) - 0).toNat+1) (0,0)=some (foldF (gS xs) xs.length 0 0) :=
 runW_fold (f:=R44_0 xs xs.length) (fun i (t:Int)=>(t,i)) xs.length (gS xs) (fun t=>t) (fun _ _=>True) (fun i t h0 hn _=>by
  refine ⟨?_,trivial⟩
  simp only [R44_0,F44_0,G44_0,h0,hn,decide_true,Bool.and_self,cond_true]
  rw [wrap_in (a:=i+1) (by omega) (by omega)]
  rfl) (fun t _=>by simp only [R44_0,F44_0,G44_0,Int.lt_irrefl,decide_false,cond_false]) xs.length _ 0 0 (Int.le_refl 0) (by omega) (by omega) trivial
def gMin (xs:List AV) (i t:Int):Int:=if fI (xs.getD i.toNat .undef) 0<t then fI (xs.getD i.toNat .undef) 0 else t
def gMax (xs:List AV) (i t:Int):Int:=if fI (xs.getD i.toNat .undef) 0 > t then fI (xs.getD i.toNat .undef) 0 else t
theorem min95 (xs:List AV) (h:xs.length≤1048576) (h1:1≤xs.length) (t:Int):runW (R45_0 xs) (((xs.length:Int) - 1).toNat+1) (t,1)=some (foldF (gMin xs) (xs.length - 1) 1 t) :=
 runW_fold (f:=R45_0 xs) (fun i (t:Int)=>(t,i)) xs.length (gMin xs) (fun t=>t) (fun _ _=>True) (fun i t h0 hn _=>by
  refine ⟨?_,trivial⟩
  simp only [R45_0,F45_0,G45_0,h0,hn,decide_true,Bool.and_self,cond_true]
  rw [wrap_in (a:=i+1) (by omega) (by omega)]
  rfl) (fun t _=>by simp only [R45_0,F45_0,G45_0,Int.lt_irrefl,decide_false,cond_false]) (xs.length - 1) _ 1 t (by decide) (by omega) (by omega) trivial
theorem max96 (xs:List AV) (h:xs.length≤1048576) (h1:1≤xs.length) (t:Int):runW (R46_0 xs) (((xs.length:Int) - 1).toNat+1) (t,1)=some (foldF (gMax xs) (xs.length - 1) 1 t) :=
 runW_fold (f:=R46_0 xs) (fun i (t:Int)=>(t,i)) xs.length (gMax xs) (fun t=>t) (fun _ _=>True) (fun i t h0 hn _=>by
  refine ⟨?_,trivial⟩
  simp only [R46_0,F46_0,G46_0,h0,hn,decide_true,Bool.and_self,cond_true]
  rw [wrap_in (a:=i+1) (by omega) (by omega)]
  rfl) (fun t _=>by simp only [R46_0,F46_0,G46_0,Int.lt_irrefl,decide_false,cond_false]) (xs.length - 1) _ 1 t (by decide) (by omega) (by omega) trivial
theorem cmp_eq (a b c d:Int):q73 a b c d=true∧decide (v73_0 a b c d<0)=(decide (c > a) || (decide (c=a) && decide (d > b))):=by
 have hc:∀ x y:Int,v90_0 x y=if x<y then -1 else if x > y then 1 else 0:=fun x y=>by
  unfold v90_0 v107_0
  by_cases h1:x<y
  ·simp [h1]
  ·by_cases h2:x > y <;> simp [h1,h2]
 have hr:∀ x y:Int,runW (R89_0 0 [AV.int .i64 x,AV.int .i64 y] (([AV.int .i64 x,AV.int .i64 y]).length:Int)) ((((([AV.int .i64 x,AV.int .i64 y]).length:Int)) - 0).toNat+1) 0=some (if x=0 then (if y=0 then .inl () else .inr y) else .inr x):=fun x y=>by
  show runW (R89_0 0 [AV.int .i64 x,AV.int .i64 y] 2) 3 0=_
  have f0:R89_0 0 [AV.int .i64 x,AV.int .i64 y] 2 0=bif !decide (x=0) then .stop (.inr x) else .next 1:=rfl
  have f1:R89_0 0 [AV.int .i64 x,AV.int .i64 y] 2 1=bif !decide (y=0) then .stop (.inr y) else .next 2:=rfl
  have f2:R89_0 0 [AV.int .i64 x,AV.int .i64 y] 2 2 = .stop (.inl ()):=rfl
  unfold runW
  rw [f0]
  by_cases hx:x=0
  ·rw [decide_eq_true hx,if_pos hx]
   simp only [Bool.not_true,cond_false,Out.el]
   unfold runW
   rw [f1]
   by_cases hy:y=0
   ·rw [decide_eq_true hy,if_pos hy]
    simp only [Bool.not_true,cond_false,Out.el]
    unfold runW
    rw [f2]
    rfl
   ·rw [decide_eq_false hy,if_neg hy]
    rfl
  ·rw [decide_eq_false hx,if_neg hx]
   rfl
 unfold q73 v73_0 q89 v89_0
 rw [hr,hc,hc]
 by_cases h1:a<c
 ·simp [h1,ro,sumE]
 ·by_cases h2:a > c
  ·have:¬ c > a:=by omega
   have:¬ c=a:=by omega
   simp [h1,h2,ro,sumE, *]
  ·have h3:a=c:=by omega
   subst h3
   by_cases h4:b<d
   ·simp [h4,ro,sumE]
   ·by_cases h5:b > d
    ·have:¬ d > b:=by omega
     simp [h4,h5,ro,sumE]
    ·simp [h4,h5,ro,sumE]
theorem app_fold (c:Int→AV):∀ (m:Nat) (i:Int) (t:List AV),foldF (fun i t=>t++[c i]) m i t=t++(List.range m).map (fun k:Nat=>c (i+(k:Int)))
 | 0,i,t=>by simp [foldF]
 | m+1,i,t=>by
  show foldF (fun i t=>t++[c i]) m (i+1) (t++[c i])=_
  rw [app_fold c m (i+1) (t++[c i]),List.range_succ_eq_map,List.map_cons,List.map_map,List.append_assoc]
  have:((fun k:Nat=>c (i+(k:Int))) ∘ Nat.succ)=fun k:Nat=>c (i+1+(k:Int)):=by
   funext k
   show c (i+((k+1:Nat):Int))=_
   rw [show i+((k+1:Nat):Int)=i+1+(k:Int) by omega]
  rw [this]
  simp
def ce (vs rs:List AV) (i:Int):AV:=AV.agg [AV.int .i64 (fI (vs.getD i.toNat .undef) 0),AV.int .i64 (fI (rs.getD i.toNat .undef) 0)]
theorem run72 (vs rs ps:List AV) (l r:Int) (h:vs.length≤1048576) (h':(rs.length:Int)=vs.length) (l0:0≤l) (lr:l<r) (r1:r≤vs.length) :
  runW (R72_0 r vs rs ps) ((r - l).toNat+1) (l,([]:List AV))=some ((List.range (r - l).toNat).map (fun k:Nat=>ce vs rs (l+(k:Int)))):=by
 have hr:=runW_fold (f:=R72_0 r vs rs ps) (fun i (t:List AV)=>(i,t)) r (fun i t=>t++[ce vs rs i]) (fun t=>t) (fun i t=>l≤i∧(t.length:Int)=i - l) (fun i t h0 hn hI=>by
  refine ⟨?_,by rw [List.length_append];simp only [List.length_cons,List.length_nil];omega⟩
  have d0:decide (i<r)=true:=decide_eq_true hn
  have d1:decide (0≤i)=true:=decide_eq_true h0
  have d2:decide (i<(vs.length:Int))=true:=decide_eq_true (by omega)
  have d3:decide (i<(rs.length:Int))=true:=decide_eq_true (by omega)
  unfold R72_0 F72_0 G72_0 ce
  rw [d0,d1,d2,d3,wrap_in (a:=i+1) (by omega) (by omega)]
  have d4:∀ s:AV,decide ((t.length+([s]).length)*16≤140737488355328)=true:=fun s=>decide_eq_true (by simp only [List.length_cons,List.length_nil];omega)
  have d5:∀ s:AV,decide ((t.length+([s]).length)≤140737488355328)=true:=fun s=>decide_eq_true (by simp only [List.length_cons,List.length_nil];omega)
  rw [d4,d5]
  rfl) (fun t _=>by
  unfold R72_0 F72_0 G72_0
  rw [decide_eq_false (Int.lt_irrefl _)]
  rfl) (r - l).toNat ((r - l).toNat+1) l [] l0 (by omega) (by omega) ⟨Int.le_refl _,by simp⟩
 rw [hr,app_fold]
 rfl
theorem getD_range (c:Nat→AV) (n k:Nat) (h:k<n):((List.range n).map c).getD k .undef=c k:=by
 rw [List.getD_eq_getElem?_getD,List.getElem?_map,List.getElem?_range h]
 rfl
end Go.Proofs.YteppndjaglhehaaDoor
