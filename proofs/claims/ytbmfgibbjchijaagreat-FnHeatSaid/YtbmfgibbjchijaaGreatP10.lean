import Derived.Test.YtbmfgibbjchijaaGreatP9
import Derived.Test.YtbmfgibbjchijaaGreatProg
import Derived.KernelRfl
namespace Go.Proofs.YtbmfgibbjchijaaGreat
open Go Go.Proofs.VE
set_option linter.unusedVariables false
set_option linter.unusedSimpArgs false
set_option maxRecDepth 100000
set_option maxHeartbeats 4000000
noncomputable section
def G32_0 {β:Type} (t12:Int) (h1:List AV) (t13:Int) (h0:List AV) (N:((Int × (List AV)))→β) (K:(((List AV)))→β) (d:β):β:=(bif decide (t13<t12) then (bif (decide (0≤t13) && decide (t13<(h1.length:Int))) then (bif decide (fI (h1.getD t13.toNat .undef) 0=0) then (bif (decide ((h0.length+([AV.int .i64 t13]).length)*8≤140737488355328) && decide ((h0.length+([AV.int .i64 t13]).length)≤140737488355328)) then N (IntKind.i64.wrap (t13+1),h0++([AV.int .i64 t13]))
 else d)
 else N (IntKind.i64.wrap (t13+1),h0))
 else d)
 else K h0)
def F32_0 (t12:Int) (h1:List AV) (t13:Int) (h0:List AV):Out ((Int × (List AV))) (((List AV))):=G32_0 t12 h1 t13 h0 .next .stop .fail
def R32_0 (t12:Int) (h1:List AV):((Int × (List AV)))→Out ((Int × (List AV))) (((List AV))):=fun s:Int × (List AV)=>F32_0 t12 h1 s.1 s.2
def E32_0 (t12:Int) (h1:List AV):((Int × (List AV)))→St:=fun s:Int × (List AV)=>⟨[(5,AV.own [0,5]),(11,AV.own [0,11]),(12,Ai t12),(13,Ai s.1)],[([0,5],⟨false,[.int .i64],s.2⟩),([0,11],⟨false,[.int .i64],h1⟩)]⟩
def K32_0 (t12:Int) (h1:List AV) (k:Kont):(((List AV)))→Option AV:=fun p:(List AV)=>k (.exit 0) ⟨[(5,AV.own [0,5])],[([0,5],⟨false,[.int .i64],p⟩),([0,11],⟨false,[.int .i64],h1⟩)]⟩
def l32_0:LModel:=fun _ _ st k=>match st with
 | ⟨[(5,.own g0),(11,.own g1),(12,.int .i64 t12),(13,.int .i64 t13)],[(g2,⟨false,g3,h0⟩),(g4,⟨false,g5,h1⟩)]⟩=>bif nmEq g0 ([0,5]) && nmEq g1 ([0,11]) && nmEq g2 ([0,5]) && ctsEq g3 ([.int .i64]) && nmEq g4 ([0,11]) && ctsEq g5 ([.int .i64]) then ro (runW (R32_0 t12 h1) ((t12 - t13:Int).toNat+1) (t13,h0)) none (K32_0 t12 h1 k) else none
 | _=>none
noncomputable def c32:Cfg:=cfg Tryz.prog [(32,0,[5,11,12,13]),(32,999,[4]),(32,1000,[5]),(32,1001,[5,11,12,13])] [(28,m28)] [] [] [(32,0,l32_0)]
theorem s32_0 (t12:Int) (h1:List AV) (ce:CallE) (k:Kont) (s:Int × (List AV)) (next:St→Option AV):stepA (codeA c32 ce [] 32 0 (sub [1,1,0,1,0,0] (body Tryz.f32))) (normA [] [5,11,12,13]) next ((E32_0 t12 h1) s) k=G32_0 t12 h1 s.1 s.2 (fun s=>next ((E32_0 t12 h1) s)) (K32_0 t12 h1 k) none:=by kernel_rfl
theorem st32_0 (t12:Int) (h1:List AV) (ce:CallE) (k:Kont) (s:(Int × (List AV))) (next:St→Option AV):stepA (codeA c32 ce [] 32 0 (sub [1,1,0,1,0,0] (body Tryz.f32))) (normA [] [5,11,12,13]) next ((E32_0 t12 h1) s) k=(R32_0 t12 h1 s).el none (fun s=>next ((E32_0 t12 h1) s)) (K32_0 t12 h1 k):=(s32_0 t12 h1 ce k s next).trans (by unfold R32_0;unfold F32_0 G32_0;simp only [el_cond,el_ro,el_sum,el_fail,el_next,el_stop] <;> rfl)
theorem ok32_0 {ce:CallE}:LoopOK c32 ce [] 32 0 (sub [1,1,0,1,0,0] (body Tryz.f32)):=by
 intro m hm st k r h
 obtain rfl:l32_0=m:=Option.some.inj hm
 unfold l32_0 at h
 split at h
 ·rename_i g0 g1 t12 t13 g2 g3 h0 g4 g5 h1
  obtain ⟨hg,h⟩:=bif_some h
  simp only [Bool.and_eq_true] at hg
  obtain ⟨⟨⟨⟨⟨q0,q1⟩,q2⟩,q3⟩,q4⟩,q5⟩:=hg
  obtain rfl:=nE q0
  obtain rfl:=nE q1
  obtain rfl:=nE q2
  obtain rfl:=cE q3
  obtain rfl:=nE q4
  obtain rfl:=cE q5
  refine ⟨((t12 - t13:Int).toNat+1),?_⟩
  rw [← h]
  exact loop_run (E32_0 t12 h1) (K32_0 t12 h1 k) (st32_0 t12 h1 ce k) _ (t13,h0)
 ·cases h
def q32 (a0 a1:List AV):Bool:=(q28 a0 a1 && (ro (runW (R32_0 ((v28_0 a0 a1).length:Int) (v28_0 a0 a1)) ((((v28_0 a0 a1).length:Int) - 0:Int).toNat+1) (0,([]:List AV))) false (fun p32=>true)))
def v32_0 (a0 a1:List AV):List AV:=(ro (runW (R32_0 ((v28_0 a0 a1).length:Int) (v28_0 a0 a1)) ((((v28_0 a0 a1).length:Int) - 0:Int).toNat+1) (0,([]:List AV))) [] (fun p32=>p32))
theorem e32 (a0 a1:List AV):funA c32 0 32 [AV.sl [.int .i64] a0,AV.sl [.int .i64,.int .i64] a1]=(bif q28 a0 a1 then (ro (runW (R32_0 ((v28_0 a0 a1).length:Int) (v28_0 a0 a1)) ((((v28_0 a0 a1).length:Int) - 0:Int).toNat+1) (0,([]:List AV))) none (fun p32=>some (AV.fl [.int .i64] p32)))
 else none):=by kernel_rfl
def m32:TModel
 | [.sl g0 a0,.sl g1 a1]=>bif ctsEq g0 ([.int .i64]) && ctsEq g1 ([.int .i64,.int .i64]) then some (q32 a0 a1,AV.fl [.int .i64] (v32_0 a0 a1)) else none
 | _=>none
theorem k32:Known Tryz.prog 32:=⟨Tryz.f32,Tryz.func32,by kernel_rfl,by kernel_rfl⟩
theorem meets32:Meets Tryz.prog 32 m32:=by
 refine mt (lvl:=0) (cf:=c32) rfl mixed k32 Tryz.func32 (by kernel_rfl) (loops_cons ok32_0 noLoop) (allT_cons meets28 allT_nil) allM_nil noI fun xs r h=>?_
 unfold m32 at h
 split at h
 ·rename_i g0 a0 g1 a1
  obtain ⟨hg,h⟩:=bif_pair h
  simp only [Bool.and_eq_true] at hg
  obtain ⟨q0,q1⟩:=hg
  obtain rfl:=cE q0
  obtain rfl:=cE q1
  obtain ⟨h1,rfl⟩:=pair_inj h
  exact (e32 a0 a1).trans ((brL (brO (fun o:Option (((List AV)))=>some (AV.fl [.int .i64] (ro o [] (fun p32=>p32)))) (fun p32=>(fun _=>rfl)))) h1)
 ·cases h
def G33_0 {β:Type} (h1:List AV) (t7:Int) (h0:List AV) (N:((Int × (List AV)))→β) (K:(((List AV)))→β) (d:β):β:=(bif decide (t7<(h1.length:Int)) then (bif (decide (0≤t7) && decide (t7<(h1.length:Int))) then (bif decide (fI (h1.getD t7.toNat .undef) 0=0) then (bif (decide ((h0.length+([AV.int .i64 t7]).length)*8≤140737488355328) && decide ((h0.length+([AV.int .i64 t7]).length)≤140737488355328)) then N (IntKind.i64.wrap (t7+1),h0++([AV.int .i64 t7]))
 else d)
 else N (IntKind.i64.wrap (t7+1),h0))
 else d)
 else K h0)
def F33_0 (h1:List AV) (t7:Int) (h0:List AV):Out ((Int × (List AV))) (((List AV))):=G33_0 h1 t7 h0 .next .stop .fail
def R33_0 (h1:List AV):((Int × (List AV)))→Out ((Int × (List AV))) (((List AV))):=fun s:Int × (List AV)=>F33_0 h1 s.1 s.2
def E33_0 (h1:List AV):((Int × (List AV)))→St:=fun s:Int × (List AV)=>⟨[(5,AV.own [0,5]),(6,AV.own [0,6]),(7,Ai s.1)],[([0,5],⟨false,[.int .i64],s.2⟩),([0,6],⟨false,[.int .i64],h1⟩)]⟩
def K33_0 (h1:List AV) (k:Kont):(((List AV)))→Option AV:=fun p:(List AV)=>k (.exit 0) ⟨[(5,AV.own [0,5])],[([0,5],⟨false,[.int .i64],p⟩),([0,6],⟨false,[.int .i64],h1⟩)]⟩
def l33_0:LModel:=fun _ _ st k=>match st with
 | ⟨[(5,.own g0),(6,.own g1),(7,.int .i64 t7)],[(g2,⟨false,g3,h0⟩),(g4,⟨false,g5,h1⟩)]⟩=>bif nmEq g0 ([0,5]) && nmEq g1 ([0,6]) && nmEq g2 ([0,5]) && ctsEq g3 ([.int .i64]) && nmEq g4 ([0,6]) && ctsEq g5 ([.int .i64]) then ro (runW (R33_0 h1) (((h1.length:Int) - t7:Int).toNat+1) (t7,h0)) none (K33_0 h1 k) else none
 | _=>none
noncomputable def c33:Cfg:=cfg Tryz.prog [(33,0,[5,6,7]),(33,999,[4]),(33,1000,[5]),(33,1001,[5,6,7])] [(31,m31)] [] [] [(33,0,l33_0)]
theorem s33_0 (h1:List AV) (ce:CallE) (k:Kont) (s:Int × (List AV)) (next:St→Option AV):stepA (codeA c33 ce [] 33 0 (sub [1,1,1,0,1,0,0] (body Tryz.f33))) (normA [] [5,6,7]) next ((E33_0 h1) s) k=G33_0 h1 s.1 s.2 (fun s=>next ((E33_0 h1) s)) (K33_0 h1 k) none:=by kernel_rfl
theorem st33_0 (h1:List AV) (ce:CallE) (k:Kont) (s:(Int × (List AV))) (next:St→Option AV):stepA (codeA c33 ce [] 33 0 (sub [1,1,1,0,1,0,0] (body Tryz.f33))) (normA [] [5,6,7]) next ((E33_0 h1) s) k=(R33_0 h1 s).el none (fun s=>next ((E33_0 h1) s)) (K33_0 h1 k):=(s33_0 h1 ce k s next).trans (by unfold R33_0;unfold F33_0 G33_0;simp only [el_cond,el_ro,el_sum,el_fail,el_next,el_stop] <;> rfl)
theorem ok33_0 {ce:CallE}:LoopOK c33 ce [] 33 0 (sub [1,1,1,0,1,0,0] (body Tryz.f33)):=by
 intro m hm st k r h
 obtain rfl:l33_0=m:=Option.some.inj hm
 unfold l33_0 at h
 split at h
 ·rename_i g0 g1 t7 g2 g3 h0 g4 g5 h1
  obtain ⟨hg,h⟩:=bif_some h
  simp only [Bool.and_eq_true] at hg
  obtain ⟨⟨⟨⟨⟨q0,q1⟩,q2⟩,q3⟩,q4⟩,q5⟩:=hg
  obtain rfl:=nE q0
  obtain rfl:=nE q1
  obtain rfl:=nE q2
  obtain rfl:=cE q3
  obtain rfl:=nE q4
  obtain rfl:=cE q5
  refine ⟨(((h1.length:Int) - t7:Int).toNat+1),?_⟩
  rw [← h]
  exact loop_run (E33_0 h1) (K33_0 h1 k) (st33_0 h1 ce k) _ (t7,h0)
 ·cases h
def q33 (a0 a1:List AV):Bool:=(q31 a0 a1 && (ro (runW (R33_0 (v31_0 a0 a1)) ((((v31_0 a0 a1).length:Int) - 0:Int).toNat+1) (0,([]:List AV))) false (fun p33=>true)))
def v33_0 (a0 a1:List AV):List AV:=(ro (runW (R33_0 (v31_0 a0 a1)) ((((v31_0 a0 a1).length:Int) - 0:Int).toNat+1) (0,([]:List AV))) [] (fun p33=>p33))
theorem e33 (a0 a1:List AV):funA c33 0 33 [AV.sl [.int .i64] a0,AV.sl [.int .i64,.int .i64] a1]=(bif q31 a0 a1 then (ro (runW (R33_0 (v31_0 a0 a1)) ((((v31_0 a0 a1).length:Int) - 0:Int).toNat+1) (0,([]:List AV))) none (fun p33=>some (AV.fl [.int .i64] p33)))
 else none):=by kernel_rfl
def m33:TModel
 | [.sl g0 a0,.sl g1 a1]=>bif ctsEq g0 ([.int .i64]) && ctsEq g1 ([.int .i64,.int .i64]) then some (q33 a0 a1,AV.fl [.int .i64] (v33_0 a0 a1)) else none
 | _=>none
theorem k33:Known Tryz.prog 33:=⟨Tryz.f33,Tryz.func33,by kernel_rfl,by kernel_rfl⟩
theorem meets33:Meets Tryz.prog 33 m33:=by
 refine mt (lvl:=0) (cf:=c33) rfl mixed k33 Tryz.func33 (by kernel_rfl) (loops_cons ok33_0 noLoop) (allT_cons meets31 allT_nil) allM_nil noI fun xs r h=>?_
 unfold m33 at h
 split at h
 ·rename_i g0 a0 g1 a1
  obtain ⟨hg,h⟩:=bif_pair h
  simp only [Bool.and_eq_true] at hg
  obtain ⟨q0,q1⟩:=hg
  obtain rfl:=cE q0
  obtain rfl:=cE q1
  obtain ⟨h1,rfl⟩:=pair_inj h
  exact (e33 a0 a1).trans ((brL (brO (fun o:Option (((List AV)))=>some (AV.fl [.int .i64] (ro o [] (fun p33=>p33)))) (fun p33=>(fun _=>rfl)))) h1)
 ·cases h
def G24_0 {β:Type} (t0:List AV) (t1:Int) (t5:Int) (N:(Int)→β) (K:(Unit ⊕ Unit)→β) (d:β):β:=(bif decide (t5<(t0.length:Int)) then (bif (decide (0≤t5) && decide (t5<(t0.length:Int))) then (bif decide (fI (t0.getD t5.toNat .undef) 0=t1) then K (.inr ())
 else N (IntKind.i64.wrap (t5+1)))
 else d)
 else K (.inl ()))
def F24_0 (t0:List AV) (t1 t5:Int):Out (Int) (Unit ⊕ Unit):=G24_0 t0 t1 t5 .next .stop .fail
def R24_0 (t0:List AV) (t1:Int):(Int)→Out (Int) (Unit ⊕ Unit):=fun s:Int=>F24_0 t0 t1 s
def E24_0 (t0:List AV) (t1:Int):(Int)→St:=fun s:Int=>⟨[(0,AV.sl [.int .i64] t0),(1,Ai t1),(5,Ai s)],[]⟩
def K24_0 (t0:List AV) (t1:Int) (k:Kont):(Unit ⊕ Unit)→Option AV:=sumE (fun _:Unit=>k (.exit 0) ⟨[],[]⟩) (fun _:Unit=>k .ret ⟨[(4,AV.bool true)],[]⟩)
def l24_0:LModel:=fun _ _ st k=>match st with
 | ⟨[(0,.sl g0 t0),(1,.int .i64 t1),(5,.int .i64 t5)],[]⟩=>bif ctsEq g0 ([.int .i64]) then ro (runW (R24_0 t0 t1) (((t0.length:Int) - t5:Int).toNat+1) t5) none (K24_0 t0 t1 k) else none
 | _=>none
noncomputable def c24:Cfg:=cfg Tryz.prog [(24,0,[0,1,5]),(24,999,[4]),(24,1000,[]),(24,1001,[0,1,5])] [] [] [] [(24,0,l24_0)]
theorem s24_0 (t0:List AV) (t1:Int) (ce:CallE) (k:Kont) (s:Int) (next:St→Option AV):stepA (codeA c24 ce [] 24 0 (sub [1,0,1,0,0] (body Tryz.f24))) (normA [] [0,1,5]) next ((E24_0 t0 t1) s) k=G24_0 t0 t1 s (fun s=>next ((E24_0 t0 t1) s)) (K24_0 t0 t1 k) none:=by kernel_rfl
theorem st24_0 (t0:List AV) (t1:Int) (ce:CallE) (k:Kont) (s:Int) (next:St→Option AV):stepA (codeA c24 ce [] 24 0 (sub [1,0,1,0,0] (body Tryz.f24))) (normA [] [0,1,5]) next ((E24_0 t0 t1) s) k=(R24_0 t0 t1 s).el none (fun s=>next ((E24_0 t0 t1) s)) (K24_0 t0 t1 k):=(s24_0 t0 t1 ce k s next).trans (by unfold R24_0;unfold F24_0 G24_0;simp only [el_cond,el_ro,el_sum,el_fail,el_next,el_stop] <;> rfl)
theorem ok24_0 {ce:CallE}:LoopOK c24 ce [] 24 0 (sub [1,0,1,0,0] (body Tryz.f24)):=by
 intro m hm st k r h
 obtain rfl:l24_0=m:=Option.some.inj hm
 unfold l24_0 at h
 split at h
 ·rename_i g0 t0 t1 t5
  obtain ⟨hg,h⟩:=bif_some h
  have q0:=hg
  obtain rfl:=cE q0
  refine ⟨(((t0.length:Int) - t5:Int).toNat+1),?_⟩
  rw [← h]
  exact loop_run (E24_0 t0 t1) (K24_0 t0 t1 k) (st24_0 t0 t1 ce k) _ t5
 ·cases h
def q24 (a0:List AV) (a1:Int):Bool:=(ro (runW (R24_0 a0 a1) (((a0.length:Int) - 0:Int).toNat+1) 0) false (sumE (fun _=>true) (fun _=>true)))
def v24_0 (a0:List AV) (a1:Int):Bool:=(ro (runW (R24_0 a0 a1) (((a0.length:Int) - 0:Int).toNat+1) 0) false (sumE (fun _=>false) (fun _=>true)))
theorem e24 (a0:List AV) (a1:Int):funA c24 0 24 [AV.sl [.int .i64] a0,Ai a1]=(ro (runW (R24_0 a0 a1) (((a0.length:Int) - 0:Int).toNat+1) 0) none (sumE (fun _=>some (AV.bool false)) (fun _=>some (AV.bool true)))):=by kernel_rfl
def m24:TModel
 | [.sl g0 a0,.int .i64 a1]=>bif ctsEq g0 ([.int .i64]) then some (q24 a0 a1,AV.bool (v24_0 a0 a1)) else none
 | _=>none
theorem k24:Known Tryz.prog 24:=⟨Tryz.f24,Tryz.func24,by kernel_rfl,by kernel_rfl⟩
theorem meets24:Meets Tryz.prog 24 m24:=by
 refine mt (lvl:=0) (cf:=c24) rfl mixed k24 Tryz.func24 (by kernel_rfl) (loops_cons ok24_0 noLoop) allT_nil allM_nil noI fun xs r h=>?_
 unfold m24 at h
 split at h
 ·rename_i g0 a0 a1
  obtain ⟨hg,h⟩:=bif_pair h
  have q0:=hg
  obtain rfl:=cE q0
  obtain ⟨h1,rfl⟩:=pair_inj h
  exact (e24 a0 a1).trans ((brO (fun o:Option (Unit ⊕ Unit)=>some (AV.bool (ro o false (sumE (fun _=>false) (fun _=>true))))) (brS (fun o:Unit ⊕ Unit=>some (AV.bool ((sumE (fun _=>false) (fun _=>true)) o))) (fun _=>(fun _=>rfl)) (fun _=>(fun _=>rfl)))) h1)
 ·cases h
def G36_0 {β:Type} (t0:List AV) (h0_0:Int) (h0_1:Int) (t6:Int) (h1:List AV) (N:((Int × (List AV)))→β) (K:(((List AV)))→β) (d:β):β:=(bif decide (t6<(t0.length:Int)) then (bif (decide (0≤t6) && decide (t6<(t0.length:Int))) then (bif (v34_0 h0_0 h0_1 (fI (t0.getD t6.toNat .undef) 0)) then (bif (decide ((h1.length+([AV.int .i64 t6]).length)*8≤140737488355328) && decide ((h1.length+([AV.int .i64 t6]).length)≤140737488355328)) then N (IntKind.i64.wrap (t6+1),h1++([AV.int .i64 t6]))
 else d)
 else N (IntKind.i64.wrap (t6+1),h1))
 else d)
 else K h1)
def F36_0 (t0:List AV) (h0_0 h0_1 t6:Int) (h1:List AV):Out ((Int × (List AV))) (((List AV))):=G36_0 t0 h0_0 h0_1 t6 h1 .next .stop .fail
def R36_0 (t0:List AV) (h0_0 h0_1:Int):((Int × (List AV)))→Out ((Int × (List AV))) (((List AV))):=fun s:Int × (List AV)=>F36_0 t0 h0_0 h0_1 s.1 s.2
def E36_0 (t0:List AV) (h0_0 h0_1:Int):((Int × (List AV)))→St:=fun s:Int × (List AV)=>⟨[(0,AV.sl [.int .i64] t0),(3,AV.ptr [0,3] 0 0),(5,AV.own [0,5]),(6,Ai s.1)],[([0,3],⟨true,[],[AV.agg [Ai h0_0,Ai h0_1]]⟩),([0,5],⟨false,[.int .i64],s.2⟩)]⟩
def K36_0 (t0:List AV) (h0_0 h0_1:Int) (k:Kont):(((List AV)))→Option AV:=fun p:(List AV)=>k (.exit 0) ⟨[(5,AV.own [0,5])],[([0,3],⟨true,[],[AV.agg [Ai h0_0,Ai h0_1]]⟩),([0,5],⟨false,[.int .i64],p⟩)]⟩
def l36_0:LModel:=fun _ _ st k=>match st with
 | ⟨[(0,.sl g0 t0),(3,.ptr g1 g2 g3),(5,.own g4),(6,.int .i64 t6)],[(g5,⟨true,[],[.agg [.int .i64 h0_0,.int .i64 h0_1]]⟩),(g6,⟨false,g7,h1⟩)]⟩=>bif ctsEq g0 ([.int .i64]) && nmEq g1 ([0,3]) && Nat.beq g2 0 && Nat.beq g3 0 && nmEq g4 ([0,5]) && nmEq g5 ([0,3]) && nmEq g6 ([0,5]) && ctsEq g7 ([.int .i64]) then ro (runW (R36_0 t0 h0_0 h0_1) (((t0.length:Int) - t6:Int).toNat+1) (t6,h1)) none (K36_0 t0 h0_0 h0_1 k) else none
 | _=>none
noncomputable def c36:Cfg:=cfg Tryz.prog [(36,0,[0,3,5,6]),(36,999,[4]),(36,1000,[5]),(36,1001,[0,3,5,6])] [(34,m34)] [] [] [(36,0,l36_0)]
theorem s36_0 (t0:List AV) (h0_0 h0_1:Int) (ce:CallE) (k:Kont) (s:Int × (List AV)) (next:St→Option AV):stepA (codeA c36 ce [] 36 0 (sub [1,1,0,1,0,0] (body Tryz.f36))) (normA [] [0,3,5,6]) next ((E36_0 t0 h0_0 h0_1) s) k=G36_0 t0 h0_0 h0_1 s.1 s.2 (fun s=>next ((E36_0 t0 h0_0 h0_1) s)) (K36_0 t0 h0_0 h0_1 k) none:=by kernel_rfl
theorem st36_0 (t0:List AV) (h0_0 h0_1:Int) (ce:CallE) (k:Kont) (s:(Int × (List AV))) (next:St→Option AV):stepA (codeA c36 ce [] 36 0 (sub [1,1,0,1,0,0] (body Tryz.f36))) (normA [] [0,3,5,6]) next ((E36_0 t0 h0_0 h0_1) s) k=(R36_0 t0 h0_0 h0_1 s).el none (fun s=>next ((E36_0 t0 h0_0 h0_1) s)) (K36_0 t0 h0_0 h0_1 k):=(s36_0 t0 h0_0 h0_1 ce k s next).trans (by unfold R36_0;unfold F36_0 G36_0;simp only [el_cond,el_ro,el_sum,el_fail,el_next,el_stop] <;> rfl)
theorem ok36_0 {ce:CallE}:LoopOK c36 ce [] 36 0 (sub [1,1,0,1,0,0] (body Tryz.f36)):=by
 intro m hm st k r h
 obtain rfl:l36_0=m:=Option.some.inj hm
 unfold l36_0 at h
 split at h
 ·rename_i g0 t0 g1 g2 g3 g4 t6 g5 h0_0 h0_1 g6 g7 h1
  obtain ⟨hg,h⟩:=bif_some h
  simp only [Bool.and_eq_true] at hg
  obtain ⟨⟨⟨⟨⟨⟨⟨q0,q1⟩,q2⟩,q3⟩,q4⟩,q5⟩,q6⟩,q7⟩:=hg
  obtain rfl:=cE q0
  obtain rfl:=nE q1
  obtain rfl:=bE q2
  obtain rfl:=bE q3
  obtain rfl:=nE q4
  obtain rfl:=nE q5
  obtain rfl:=nE q6
  obtain rfl:=cE q7
  refine ⟨(((t0.length:Int) - t6:Int).toNat+1),?_⟩
  rw [← h]
  exact loop_run (E36_0 t0 h0_0 h0_1) (K36_0 t0 h0_0 h0_1 k) (st36_0 t0 h0_0 h0_1 ce k) _ (t6,h1)
 ·cases h
def q36 (a0:List AV) (ya yb:Int):Bool:=(ro (runW (R36_0 a0 ya yb) (((a0.length:Int) - 0:Int).toNat+1) (0,([]:List AV))) false (fun p37=>true))
def v36_0 (a0:List AV) (ya yb:Int):List AV:=(ro (runW (R36_0 a0 ya yb) (((a0.length:Int) - 0:Int).toNat+1) (0,([]:List AV))) [] (fun p37=>p37))
theorem e36 (a0:List AV) (ya yb:Int):funA c36 0 36 [AV.sl [.int .i64] a0,AV.agg [Ai ya,Ai yb]]=(ro (runW (R36_0 a0 ya yb) (((a0.length:Int) - 0:Int).toNat+1) (0,([]:List AV))) none (fun p37=>some (AV.fl [.int .i64] p37))):=by kernel_rfl
def m36:TModel
 | [.sl g0 a0,.agg [.int .i64 ya,.int .i64 yb]]=>bif ctsEq g0 ([.int .i64]) then some (q36 a0 ya yb,AV.fl [.int .i64] (v36_0 a0 ya yb)) else none
 | _=>none
theorem k36:Known Tryz.prog 36:=⟨Tryz.f36,Tryz.func36,by kernel_rfl,by kernel_rfl⟩
theorem meets36:Meets Tryz.prog 36 m36:=by
 refine mt (lvl:=0) (cf:=c36) rfl mixed k36 Tryz.func36 (by kernel_rfl) (loops_cons ok36_0 noLoop) (allT_cons meets34 allT_nil) allM_nil noI fun xs r h=>?_
 unfold m36 at h
 split at h
 ·rename_i g0 a0 ya yb
  obtain ⟨hg,h⟩:=bif_pair h
  have q0:=hg
  obtain rfl:=cE q0
  obtain ⟨h1,rfl⟩:=pair_inj h
  exact (e36 a0 ya yb).trans ((brO (fun o:Option (((List AV)))=>some (AV.fl [.int .i64] (ro o [] (fun p37=>p37)))) (fun p37=>(fun _=>rfl))) h1)
 ·cases h
def G37i40_0 {β:Type} (t0:List AV) (t3:Int) (t4:Int) (N:((Int × Int))→β) (K:(Int)→β) (d:β):β:=(bif decide (t4<(t0.length:Int)) then (bif decide (t4<4000) then (bif (decide (0≤t4) && decide (t4<(t0.length:Int))) then N (IntKind.i64.wrap ((BitVec.ofInt 64 (IntKind.i64.wrap (IntKind.i64.wrap (IntKind.i64.wrap (t3*131)+IntKind.i64.wrap (fI (t0.getD t4.toNat .undef) 0))+7)) &&& BitVec.ofInt 64 1073741823).toNat:Int),IntKind.i64.wrap (t4+1))
 else d)
 else K t3)
 else K t3)
def F37i40_0 (t0:List AV) (t3 t4:Int):Out ((Int × Int)) (Int):=G37i40_0 t0 t3 t4 .next .stop .fail
def R37i40_0 (t0:List AV):((Int × Int))→Out ((Int × Int)) (Int):=fun s:Int × Int=>F37i40_0 t0 s.1 s.2
def E37i40_0 (t0:List AV):((Int × Int))→St:=fun s:Int × Int=>⟨[(0,AV.sl [.int .u8] t0),(3,Ai s.1),(4,Ai s.2)],[]⟩
def K37i40_0 (t0:List AV) (k:Kont):(Int)→Option AV:=fun p:Int=>k (.exit 0) ⟨[(0,AV.sl [.int .u8] t0),(3,Ai p)],[]⟩
def l37i40_0:LModel:=fun _ π st k=>match st with
 | ⟨[(0,.sl g1 t0),(3,.int .i64 t3),(4,.int .i64 t4)],[]⟩=>bif nmEq π ([10]) && ctsEq g1 ([.int .u8]) then ro (runW (R37i40_0 t0) (((t0.length:Int) - t4:Int).toNat+1) (t3,t4)) none (K37i40_0 t0 k) else none
 | _=>none
noncomputable def c37:Cfg:=cfg Tryz.prog [(37,999,[2,3,4]),(40,0,[0,3,4]),(40,999,[2]),(40,1000,[0,3]),(40,1001,[0,3,4])] [] [(78,.g m78)] [40] [(40,0,l37i40_0)]
theorem s37i40_0 (t0:List AV) (ce:CallE) (k:Kont) (s:Int × Int) (next:St→Option AV):stepA (codeA c37 ce [10] 40 0 (sub [1,1,0,1,0,0] (body Tryz.f40))) (normA [10] [0,3,4]) next ((E37i40_0 t0) s) k=G37i40_0 t0 s.1 s.2 (fun s=>next ((E37i40_0 t0) s)) (K37i40_0 t0 k) none:=by kernel_rfl
theorem st37i40_0 (t0:List AV) (ce:CallE) (k:Kont) (s:(Int × Int)) (next:St→Option AV):stepA (codeA c37 ce [10] 40 0 (sub [1,1,0,1,0,0] (body Tryz.f40))) (normA [10] [0,3,4]) next ((E37i40_0 t0) s) k=(R37i40_0 t0 s).el none (fun s=>next ((E37i40_0 t0) s)) (K37i40_0 t0 k):=(s37i40_0 t0 ce k s next).trans (by unfold R37i40_0;unfold F37i40_0 G37i40_0;simp only [el_cond,el_ro,el_sum,el_fail,el_next,el_stop] <;> rfl)
theorem ok37i40_0 {ce:CallE} {π:Nm}:LoopOK c37 ce π 40 0 (sub [1,1,0,1,0,0] (body Tryz.f40)):=by
 intro m hm st k r h
 obtain rfl:l37i40_0=m:=Option.some.inj hm
 unfold l37i40_0 at h
 split at h
 ·rename_i g1 t0 t3 t4
  obtain ⟨hg,h⟩:=bif_some h
  simp only [Bool.and_eq_true] at hg
  obtain ⟨q0,q1⟩:=hg
  obtain rfl:=nE q0
  obtain rfl:=cE q1
  refine ⟨(((t0.length:Int) - t4:Int).toNat+1),?_⟩
  rw [← h]
  exact loop_run (E37i40_0 t0) (K37i40_0 t0 k) (st37i40_0 t0 ce k) _ (t3,t4)
 ·cases h
def T37 {β:Type} (k:((List AV) × Int × (List AV))→β) (n:β) (a0:List AV):β:=(ro (runW (R37i40_0 a0) (((a0.length:Int) - 0:Int).toNat+1) (IntKind.i64.wrap (10101+(a0.length:Int)),0)) n (fun p39=>(bif q78 a0 0 p39 then k ((v78_0 a0 0 p39),(v78_3 a0 0 p39),(v78_4 a0 0 p39))
 else n)))
abbrev W37 (a0:List AV):Option ((List AV) × Int × (List AV)):=T37 some none a0
theorem n37 {β:Type} (k:((List AV) × Int × (List AV))→β) (n:β) (a0:List AV):T37 k n a0=oe k n (W37 a0):=by
 unfold W37 T37
 simp only [oe_cond,oe_ro,oe_sum,oe_some,oe_none]
def q37 (a0:List AV):Bool:=(W37 a0).isSome
def v37_0 (a0:List AV):List AV:=oe (fun t=>t.1) [] (W37 a0)
def v37_1 (a0:List AV):Int:=oe (fun t=>t.2.1) 0 (W37 a0)
def v37_2 (a0:List AV):List AV:=oe (fun t=>t.2.2) [] (W37 a0)
theorem e37 (a0:List AV):funA c37 1 37 [AV.sl [.int .u8] a0]=T37 (fun t=>some (AV.tup [AV.fl [.int .i64] t.1,Ai t.2.1,AV.fl [.int .i64,.int .i64] t.2.2])) none a0:=by kernel_rfl
theorem r37 (a0:List AV) (h:q37 a0=true):funA c37 1 37 [AV.sl [.int .u8] a0]=some (AV.tup [AV.fl [.int .i64] (v37_0 a0),AV.int .i64 (v37_1 a0),AV.fl [.int .i64,.int .i64] (v37_2 a0)]):=by
 refine ((e37 a0).trans (n37 _ _ a0)).trans ?_
 unfold q37 at h
 unfold v37_0 v37_1 v37_2
 generalize W37 a0=o at *
 cases o with
 | none=>cases h
 | some t=>rfl
def m37:TModel
 | [.sl g0 a0]=>bif ctsEq g0 ([.int .u8]) then some (q37 a0,AV.tup [AV.fl [.int .i64] (v37_0 a0),AV.int .i64 (v37_1 a0),AV.fl [.int .i64,.int .i64] (v37_2 a0)]) else none
 | _=>none
theorem k37:Known Tryz.prog 37:=⟨Tryz.f37,Tryz.func37,by kernel_rfl,by kernel_rfl⟩
theorem i37_40:InlK Tryz.prog [(37,999,[2,3,4]),(40,0,[0,3,4]),(40,999,[2]),(40,1000,[0,3]),(40,1001,[0,3,4])] [] [(78,.g m78)] [40] [(40,0,l37i40_0)] 40:=⟨⟨Tryz.f40,Tryz.func40,by kernel_rfl,by kernel_rfl⟩,Tryz.f40,[(0,sub [1,1,0,1,0,0] (body Tryz.f40))],Tryz.func40,by kernel_rfl,fun ce π=>(loops_cons (ok37i40_0 (ce:=ce) (π:=π)) noLoop)⟩
theorem meets37:Meets Tryz.prog 37 m37:=by
 refine mt (lvl:=1) (cf:=c37) rfl mixed k37 Tryz.func37 (by kernel_rfl) noLoop allT_nil (allG_cons meets78 allM_nil) (allI_cons i37_40 noI) fun xs r h=>?_
 unfold m37 at h
 split at h
 ·rename_i g0 a0
  obtain ⟨hg,h⟩:=bif_pair h
  have q0:=hg
  obtain rfl:=cE q0
  obtain ⟨h1,rfl⟩:=pair_inj h
  exact r37 a0 h1
 ·cases h
noncomputable def c130:Cfg:=cfg Tryz.prog [(130,999,[2])] [] [] [] []
def v130_0 (xa xb xc:Int):Bool:=(bif decide (xa ≥ 0) then (bif decide (xa≤2) then (bif decide (xb ≥ 1) then (bif decide (xb≤64) then (bif decide (xc ≥ 0) then decide (xc≤10006) else false) else false) else false) else false) else false)
theorem e130 (xa xb xc:Int):funA c130 0 130 [AV.agg [Ai xa,Ai xb,Ai xc]]=(bif decide (xa ≥ 0) then (bif decide (xa≤2) then (bif decide (xb ≥ 1) then (bif decide (xb≤64) then (bif decide (xc ≥ 0) then some (AV.bool (decide (xc≤10006)))
 else some (AV.bool false))
 else some (AV.bool false))
 else some (AV.bool false))
 else some (AV.bool false))
 else some (AV.bool false)):=by kernel_rfl
def m130:TModel
 | [.agg [.int .i64 xa,.int .i64 xb,.int .i64 xc]]=>some (true,AV.bool (v130_0 xa xb xc))
 | _=>none
theorem k130:Known Tryz.prog 130:=⟨Tryz.f130,Tryz.func130,by kernel_rfl,by kernel_rfl⟩
theorem meets130:Meets Tryz.prog 130 m130:=by
 refine mt (lvl:=0) (cf:=c130) rfl mixed k130 Tryz.func130 (by kernel_rfl) noLoop allT_nil allM_nil noI fun xs r h=>?_
 unfold m130 at h
 split at h
 ·rename_i xa xb xc
  obtain ⟨h1,rfl⟩:=pair_inj h
  exact (e130 xa xb xc).trans (of_tt (brT (fun b=>some (AV.bool (bif b then (bif decide (xa≤2) then (bif decide (xb ≥ 1) then (bif decide (xb≤64) then (bif decide (xc ≥ 0) then decide (xc≤10006) else false) else false) else false) else false) else false))) (brT (fun b=>some (AV.bool (bif b then (bif decide (xb ≥ 1) then (bif decide (xb≤64) then (bif decide (xc ≥ 0) then decide (xc≤10006) else false) else false) else false) else false))) (brT (fun b=>some (AV.bool (bif b then (bif decide (xb≤64) then (bif decide (xc ≥ 0) then decide (xc≤10006) else false) else false) else false))) (brT (fun b=>some (AV.bool (bif b then (bif decide (xc ≥ 0) then decide (xc≤10006) else false) else false))) (brT (fun b=>some (AV.bool (bif b then decide (xc≤10006) else false))) (fun _=>rfl) (fun _=>rfl)) (fun _=>rfl)) (fun _=>rfl)) (fun _=>rfl)) (fun _=>rfl)))
 ·cases h
noncomputable def c87:Cfg:=cfg Tryz.prog [(87,999,[6])] [(79,m79),(80,m80),(130,m130)] [] [] []
def q87 (a0:List AV) (ya yb yc:Int) (a2:List AV):Bool:=(q79 a0 && (bif (v79_0 a0) then (bif (v130_0 ya yb yc) then q80 a2 else true) else true))
def v87_0 (a0:List AV) (ya yb yc:Int) (a2:List AV):Bool:=(bif (v79_0 a0) then (bif (v130_0 ya yb yc) then (v80_0 a2) else false) else false)
theorem e87 (a0:List AV) (ya yb yc:Int) (a2:List AV):funA c87 0 87 [AV.sl [.int .i64] a0,AV.agg [Ai ya,Ai yb,Ai yc],AV.sl [.int .i64,.int .i64] a2]=(bif q79 a0 then (bif (v79_0 a0) then (bif (v130_0 ya yb yc) then (bif q80 a2 then some (AV.bool (v80_0 a2))
 else none)
 else some (AV.bool false))
 else some (AV.bool false))
 else none):=by kernel_rfl
def m87:TModel
 | [.sl g0 a0,.agg [.int .i64 ya,.int .i64 yb,.int .i64 yc],.sl g1 a2]=>bif ctsEq g0 ([.int .i64]) && ctsEq g1 ([.int .i64,.int .i64]) then some (q87 a0 ya yb yc a2,AV.bool (v87_0 a0 ya yb yc a2)) else none
 | _=>none
theorem k87:Known Tryz.prog 87:=⟨Tryz.f87,Tryz.func87,by kernel_rfl,by kernel_rfl⟩
theorem meets87:Meets Tryz.prog 87 m87:=by
 refine mt (lvl:=0) (cf:=c87) rfl mixed k87 Tryz.func87 (by kernel_rfl) noLoop (allT_cons meets79 (allT_cons meets80 (allT_cons meets130 allT_nil))) allM_nil noI fun xs r h=>?_
 unfold m87 at h
 split at h
 ·rename_i g0 a0 ya yb yc g1 a2
  obtain ⟨hg,h⟩:=bif_pair h
  simp only [Bool.and_eq_true] at hg
  obtain ⟨q0,q1⟩:=hg
  obtain rfl:=cE q0
  obtain rfl:=cE q1
  obtain ⟨h1,rfl⟩:=pair_inj h
  exact (e87 a0 ya yb yc a2).trans ((brL (br (fun b=>some (AV.bool (bif b then (bif (v130_0 ya yb yc) then (v80_0 a2) else false) else false))) (br (fun b=>some (AV.bool (bif b then (v80_0 a2) else false))) (brL1 (fun _=>rfl)) (fun _=>rfl)) (fun _=>rfl))) h1)
 ·cases h
def G157_0_s0 {β:Type} (t13:Int) (h0:List AV) (t14:Int) (N:(Int ⊕ (Int × (List AV)))→β) (K:(Unit ⊕ ((List AV)))→β) (d:β):β:=(bif decide (t14<t13) then (bif (decide ((([AV.int .i64 t14]).length)*8≤140737488355328) && decide ((([AV.int .i64 t14]).length)≤140737488355328)) then N (.inr (IntKind.i64.wrap (t14+1),[AV.int .i64 t14]))
 else d)
 else K (.inl ()))
def F157_0_s0 (t13:Int) (h0:List AV) (t14:Int):Out (Int ⊕ (Int × (List AV))) (Unit ⊕ ((List AV))):=G157_0_s0 t13 h0 t14 .next .stop .fail
def G157_0_s1 {β:Type} (t13:Int) (h0:List AV) (t14:Int) (h1:List AV) (N:(Int ⊕ (Int × (List AV)))→β) (K:(Unit ⊕ ((List AV)))→β) (d:β):β:=(bif decide (t14<t13) then (bif (decide ((h1.length+([AV.int .i64 t14]).length)*8≤140737488355328) && decide ((h1.length+([AV.int .i64 t14]).length)≤140737488355328)) then N (.inr (IntKind.i64.wrap (t14+1),h1++([AV.int .i64 t14])))
 else d)
 else K (.inr h1))
def F157_0_s1 (t13:Int) (h0:List AV) (t14:Int) (h1:List AV):Out (Int ⊕ (Int × (List AV))) (Unit ⊕ ((List AV))):=G157_0_s1 t13 h0 t14 h1 .next .stop .fail
def R157_0 (t13:Int) (h0:List AV):(Int ⊕ (Int × (List AV)))→Out (Int ⊕ (Int × (List AV))) (Unit ⊕ ((List AV))):=sumE (fun s:Int=>F157_0_s0 t13 h0 s) (fun s:Int × (List AV)=>F157_0_s1 t13 h0 s.1 s.2)
def E157_0 (t13:Int) (h0:List AV):(Int ⊕ (Int × (List AV)))→St:=sumE (fun s:Int=>⟨[(2,AV.ptr [0,2] 0 0),(3,AV.ptr [0,3] 0 0),(13,Ai t13),(14,Ai s)],[([0,0,3],⟨false,[.int .i64],h0⟩),([0,2],⟨true,[],[AV.agg [AV.snil,AV.snil,AV.snil]]⟩),([0,3],⟨true,[],[AV.agg [AV.own [0,0,3],AV.snil,AV.snil]]⟩)]⟩) (fun s:Int × (List AV)=>⟨[(2,AV.ptr [0,2] 0 0),(3,AV.ptr [0,3] 0 0),(13,Ai t13),(14,Ai s.1)],[([0,0,3],⟨false,[.int .i64],h0⟩),([0,1,3],⟨false,[.int .i64],s.2⟩),([0,2],⟨true,[],[AV.agg [AV.snil,AV.snil,AV.snil]]⟩),([0,3],⟨true,[],[AV.agg [AV.own [0,0,3],AV.own [0,1,3],AV.snil]]⟩)]⟩)
def K157_0 (t13:Int) (h0:List AV) (k:Kont):(Unit ⊕ ((List AV)))→Option AV:=sumE (fun _:Unit=>k (.exit 0) ⟨[(2,AV.ptr [0,2] 0 0),(3,AV.ptr [0,3] 0 0)],[([0,0,3],⟨false,[.int .i64],h0⟩),([0,2],⟨true,[],[AV.agg [AV.snil,AV.snil,AV.snil]]⟩),([0,3],⟨true,[],[AV.agg [AV.own [0,0,3],AV.snil,AV.snil]]⟩)]⟩) (fun p:(List AV)=>k (.exit 0) ⟨[(2,AV.ptr [0,2] 0 0),(3,AV.ptr [0,3] 0 0)],[([0,0,3],⟨false,[.int .i64],h0⟩),([0,1,3],⟨false,[.int .i64],p⟩),([0,2],⟨true,[],[AV.agg [AV.snil,AV.snil,AV.snil]]⟩),([0,3],⟨true,[],[AV.agg [AV.own [0,0,3],AV.own [0,1,3],AV.snil]]⟩)]⟩)
def l157_0:LModel:=fun _ _ st k=>match st with
 | ⟨[(2,.ptr g0 g1 g2),(3,.ptr g3 g4 g5),(13,.int .i64 t13),(14,.int .i64 t14)],[(g6,⟨false,g7,h0⟩),(g8,⟨true,[],[.agg [.snil,.snil,.snil]]⟩),(g9,⟨true,[],[.agg [.own g10,.snil,.snil]]⟩)]⟩=>bif nmEq g0 ([0,2]) && Nat.beq g1 0 && Nat.beq g2 0 && nmEq g3 ([0,3]) && Nat.beq g4 0 && Nat.beq g5 0 && nmEq g6 ([0,0,3]) && ctsEq g7 ([.int .i64]) && nmEq g8 ([0,2]) && nmEq g9 ([0,3]) && nmEq g10 ([0,0,3]) then ro (runW (R157_0 t13 h0) ((t13 - t14:Int).toNat+1) (.inl t14)) none (K157_0 t13 h0 k) else none
 | ⟨[(2,.ptr g0 g1 g2),(3,.ptr g3 g4 g5),(13,.int .i64 t13),(14,.int .i64 t14)],[(g6,⟨false,g7,h0⟩),(g8,⟨false,g9,h1⟩),(g10,⟨true,[],[.agg [.snil,.snil,.snil]]⟩),(g11,⟨true,[],[.agg [.own g12,.own g13,.snil]]⟩)]⟩=>bif nmEq g0 ([0,2]) && Nat.beq g1 0 && Nat.beq g2 0 && nmEq g3 ([0,3]) && Nat.beq g4 0 && Nat.beq g5 0 && nmEq g6 ([0,0,3]) && ctsEq g7 ([.int .i64]) && nmEq g8 ([0,1,3]) && ctsEq g9 ([.int .i64]) && nmEq g10 ([0,2]) && nmEq g11 ([0,3]) && nmEq g12 ([0,0,3]) && nmEq g13 ([0,1,3]) then ro (runW (R157_0 t13 h0) ((t13 - t14:Int).toNat+1) (.inr (t14,h1))) none (K157_0 t13 h0 k) else none
 | _=>none
noncomputable def c157:Cfg:=cfg Tryz.prog [(157,0,[2,3,13,14]),(157,999,[2]),(157,1000,[2,3]),(157,1001,[2,3,13,14])] [(79,m79),(108,m108)] [] [] [(157,0,l157_0)]
theorem s157_0_s0 (t13:Int) (h0:List AV) (ce:CallE) (k:Kont) (s:Int) (next:St→Option AV):stepA (codeA c157 ce [] 157 0 (sub [1,1,1,0,1,0,0] (body Tryz.f157))) (normA [] [2,3,13,14]) next ((E157_0 t13 h0) (.inl s)) k=G157_0_s0 t13 h0 s (fun s=>next ((E157_0 t13 h0) s)) (K157_0 t13 h0 k) none:=by kernel_rfl
theorem s157_0_s1 (t13:Int) (h0:List AV) (ce:CallE) (k:Kont) (s:Int × (List AV)) (next:St→Option AV):stepA (codeA c157 ce [] 157 0 (sub [1,1,1,0,1,0,0] (body Tryz.f157))) (normA [] [2,3,13,14]) next ((E157_0 t13 h0) (.inr s)) k=G157_0_s1 t13 h0 s.1 s.2 (fun s=>next ((E157_0 t13 h0) s)) (K157_0 t13 h0 k) none:=by kernel_rfl
theorem st157_0 (t13:Int) (h0:List AV) (ce:CallE) (k:Kont) (s:Int ⊕ (Int × (List AV))) (next:St→Option AV):stepA (codeA c157 ce [] 157 0 (sub [1,1,1,0,1,0,0] (body Tryz.f157))) (normA [] [2,3,13,14]) next ((E157_0 t13 h0) s) k=(R157_0 t13 h0 s).el none (fun s=>next ((E157_0 t13 h0) s)) (K157_0 t13 h0 k):=(match s with | .inl s=>(s157_0_s0 t13 h0 ce k s next).trans (by unfold R157_0;unfold F157_0_s0 G157_0_s0;simp only [el_cond,el_ro,el_sum,el_fail,el_next,el_stop] <;> rfl) | .inr s=>(s157_0_s1 t13 h0 ce k s next).trans (by unfold R157_0;unfold F157_0_s1 G157_0_s1;simp only [el_cond,el_ro,el_sum,el_fail,el_next,el_stop] <;> rfl))
theorem ok157_0 {ce:CallE}:LoopOK c157 ce [] 157 0 (sub [1,1,1,0,1,0,0] (body Tryz.f157)):=by
 intro m hm st k r h
 obtain rfl:l157_0=m:=Option.some.inj hm
 unfold l157_0 at h
 split at h
 ·rename_i g0 g1 g2 g3 g4 g5 t13 t14 g6 g7 h0 g8 g9 g10
  obtain ⟨hg,h⟩:=bif_some h
  simp only [Bool.and_eq_true] at hg
  obtain ⟨⟨⟨⟨⟨⟨⟨⟨⟨⟨q0,q1⟩,q2⟩,q3⟩,q4⟩,q5⟩,q6⟩,q7⟩,q8⟩,q9⟩,q10⟩:=hg
  obtain rfl:=nE q0
  obtain rfl:=bE q1
  obtain rfl:=bE q2
  obtain rfl:=nE q3
  obtain rfl:=bE q4
  obtain rfl:=bE q5
  obtain rfl:=nE q6
  obtain rfl:=cE q7
  obtain rfl:=nE q8
  obtain rfl:=nE q9
  obtain rfl:=nE q10
  refine ⟨((t13 - t14:Int).toNat+1),?_⟩
  rw [← h]
  exact loop_run (E157_0 t13 h0) (K157_0 t13 h0 k) (st157_0 t13 h0 ce k) _ (.inl t14)
 ·rename_i g0 g1 g2 g3 g4 g5 t13 t14 g6 g7 h0 g8 g9 h1 g10 g11 g12 g13
  obtain ⟨hg,h⟩:=bif_some h
  simp only [Bool.and_eq_true] at hg
  obtain ⟨⟨⟨⟨⟨⟨⟨⟨⟨⟨⟨⟨⟨q0,q1⟩,q2⟩,q3⟩,q4⟩,q5⟩,q6⟩,q7⟩,q8⟩,q9⟩,q10⟩,q11⟩,q12⟩,q13⟩:=hg
  obtain rfl:=nE q0
  obtain rfl:=bE q1
  obtain rfl:=bE q2
  obtain rfl:=nE q3
  obtain rfl:=bE q4
  obtain rfl:=bE q5
  obtain rfl:=nE q6
  obtain rfl:=cE q7
  obtain rfl:=nE q8
  obtain rfl:=cE q9
  obtain rfl:=nE q10
  obtain rfl:=nE q11
  obtain rfl:=nE q12
  obtain rfl:=nE q13
  refine ⟨((t13 - t14:Int).toNat+1),?_⟩
  rw [← h]
  exact loop_run (E157_0 t13 h0) (K157_0 t13 h0 k) (st157_0 t13 h0 ce k) _ (.inr (t14,h1))
 ·cases h
def q157 (a0:List AV):Bool:=(q79 a0 && (bif !(v79_0 a0) then true else (q108 a0 && (ro (runW (R157_0 (a0.length:Int) (v108_0 a0)) (((a0.length:Int) - 0:Int).toNat+1) (.inl 0)) false (sumE (fun _=>true) (fun p41=>true))))))
def v157_0 (a0:List AV):List AV:=(bif !(v79_0 a0) then ([]:List AV) else (v108_0 a0))
def v157_1 (a0:List AV):List AV:=(bif !(v79_0 a0) then ([]:List AV) else (ro (runW (R157_0 (a0.length:Int) (v108_0 a0)) (((a0.length:Int) - 0:Int).toNat+1) (.inl 0)) [] (sumE (fun _=>([]:List AV)) (fun p41=>p41))))
def v157_2 (a0:List AV):List AV:=([]:List AV)
theorem e157 (a0:List AV):funA c157 0 157 [AV.sl [.int .i64] a0]=(bif q79 a0 then (bif !(v79_0 a0) then some (AV.agg [AV.fl [.int .i64] ([]:List AV),AV.fl [.int .i64] ([]:List AV),AV.fl [.int .i64,.int .i64] ([]:List AV)])
 else (bif q108 a0 then (ro (runW (R157_0 (a0.length:Int) (v108_0 a0)) (((a0.length:Int) - 0:Int).toNat+1) (.inl 0)) none (sumE (fun _=>some (AV.agg [AV.fl [.int .i64] (v108_0 a0),AV.fl [.int .i64] ([]:List AV),AV.fl [.int .i64,.int .i64] ([]:List AV)])) (fun p41=>some (AV.agg [AV.fl [.int .i64] (v108_0 a0),AV.fl [.int .i64] p41,AV.fl [.int .i64,.int .i64] ([]:List AV)]))))
 else none))
 else none):=by kernel_rfl
def m157:TModel
 | [.sl g0 a0]=>bif ctsEq g0 ([.int .i64]) then some (q157 a0,AV.agg [AV.fl [.int .i64] (v157_0 a0),AV.fl [.int .i64] (v157_1 a0),AV.fl [.int .i64,.int .i64] (v157_2 a0)]) else none
 | _=>none
theorem k157:Known Tryz.prog 157:=⟨Tryz.f157,Tryz.func157,by kernel_rfl,by kernel_rfl⟩
theorem meets157:Meets Tryz.prog 157 m157:=by
 refine mt (lvl:=0) (cf:=c157) rfl mixed k157 Tryz.func157 (by kernel_rfl) (loops_cons ok157_0 noLoop) (allT_cons meets79 (allT_cons meets108 allT_nil)) allM_nil noI fun xs r h=>?_
 unfold m157 at h
 split at h
 ·rename_i g0 a0
  obtain ⟨hg,h⟩:=bif_pair h
  have q0:=hg
  obtain rfl:=cE q0
  obtain ⟨h1,rfl⟩:=pair_inj h
  exact (e157 a0).trans ((brL (br (fun b=>some (AV.agg [AV.fl [.int .i64] (bif b then ([]:List AV) else (v108_0 a0)),AV.fl [.int .i64] (bif b then ([]:List AV) else (ro (runW (R157_0 (a0.length:Int) (v108_0 a0)) (((a0.length:Int) - 0:Int).toNat+1) (.inl 0)) [] (sumE (fun _=>([]:List AV)) (fun p41=>p41)))),AV.fl [.int .i64,.int .i64] ([]:List AV)])) (fun _=>rfl) (brL (brO (fun o:Option (Unit ⊕ ((List AV)))=>some (AV.agg [AV.fl [.int .i64] (v108_0 a0),AV.fl [.int .i64] (ro o [] (sumE (fun _=>([]:List AV)) (fun p41=>p41))),AV.fl [.int .i64,.int .i64] ([]:List AV)])) (brS (fun o:Unit ⊕ ((List AV))=>some (AV.agg [AV.fl [.int .i64] (v108_0 a0),AV.fl [.int .i64] ((sumE (fun _=>([]:List AV)) (fun p41=>p41)) o),AV.fl [.int .i64,.int .i64] ([]:List AV)])) (fun _=>(fun _=>rfl)) (fun p41=>(fun _=>rfl))))))) h1)
 ·cases h
def G111_0 {β:Type} (t1:Int) (t9:List AV) (t10:Int) (t11:Int) (N:(Int)→β) (K:(Unit ⊕ (Int × Int × Int))→β) (d:β):β:=(bif decide (t11<t10) then (bif (decide (0≤t11) && decide (t11<(t9.length:Int))) then (bif decide (fI (t9.getD t11.toNat .undef) 0=t1) then K (.inr (fI (t9.getD t11.toNat .undef) 1,fI (t9.getD t11.toNat .undef) 0,fI (t9.getD t11.toNat .undef) 1))
 else N (IntKind.i64.wrap (t11+1)))
 else d)
 else K (.inl ()))
def F111_0 (t1:Int) (t9:List AV) (t10 t11:Int):Out (Int) (Unit ⊕ (Int × Int × Int)):=G111_0 t1 t9 t10 t11 .next .stop .fail
def R111_0 (t1:Int) (t9:List AV) (t10:Int):(Int)→Out (Int) (Unit ⊕ (Int × Int × Int)):=fun s:Int=>F111_0 t1 t9 t10 s
def E111_0 (t1:Int) (t9:List AV) (t10:Int):(Int)→St:=fun s:Int=>⟨[(1,Ai t1),(9,AV.sl [.int .i64,.int .i64] t9),(10,Ai t10),(11,Ai s)],[]⟩
def K111_0 (t1:Int) (t9:List AV) (t10:Int) (k:Kont):(Unit ⊕ (Int × Int × Int))→Option AV:=sumE (fun _:Unit=>k (.exit 0) ⟨[],[]⟩) (fun p:Int × Int × Int=>k .ret ⟨[(4,Ai p.1),(5,AV.bool true)],[([1,7],⟨true,[],[AV.agg [Ai p.2.1,Ai p.2.2]]⟩)]⟩)
def l111_0:LModel:=fun _ _ st k=>match st with
 | ⟨[(1,.int .i64 t1),(9,.sl g0 t9),(10,.int .i64 t10),(11,.int .i64 t11)],[]⟩=>bif ctsEq g0 ([.int .i64,.int .i64]) then ro (runW (R111_0 t1 t9 t10) ((t10 - t11:Int).toNat+1) t11) none (K111_0 t1 t9 t10 k) else none
 | _=>none
noncomputable def c111:Cfg:=cfg Tryz.prog [(111,0,[1,9,10,11]),(111,999,[4,5]),(111,1000,[]),(111,1001,[1,9,10,11])] [] [] [] [(111,0,l111_0)]
theorem s111_0 (t1:Int) (t9:List AV) (t10:Int) (ce:CallE) (k:Kont) (s:Int) (next:St→Option AV):stepA (codeA c111 ce [] 111 0 (sub [1,0,1,0,0] (body Tryz.f111))) (normA [] [1,9,10,11]) next ((E111_0 t1 t9 t10) s) k=G111_0 t1 t9 t10 s (fun s=>next ((E111_0 t1 t9 t10) s)) (K111_0 t1 t9 t10 k) none:=by kernel_rfl
theorem st111_0 (t1:Int) (t9:List AV) (t10:Int) (ce:CallE) (k:Kont) (s:Int) (next:St→Option AV):stepA (codeA c111 ce [] 111 0 (sub [1,0,1,0,0] (body Tryz.f111))) (normA [] [1,9,10,11]) next ((E111_0 t1 t9 t10) s) k=(R111_0 t1 t9 t10 s).el none (fun s=>next ((E111_0 t1 t9 t10) s)) (K111_0 t1 t9 t10 k):=(s111_0 t1 t9 t10 ce k s next).trans (by unfold R111_0;unfold F111_0 G111_0;simp only [el_cond,el_ro,el_sum,el_fail,el_next,el_stop] <;> rfl)
theorem ok111_0 {ce:CallE}:LoopOK c111 ce [] 111 0 (sub [1,0,1,0,0] (body Tryz.f111)):=by
 intro m hm st k r h
 obtain rfl:l111_0=m:=Option.some.inj hm
 unfold l111_0 at h
 split at h
 ·rename_i t1 g0 t9 t10 t11
  obtain ⟨hg,h⟩:=bif_some h
  have q0:=hg
  obtain rfl:=cE q0
  refine ⟨((t10 - t11:Int).toNat+1),?_⟩
  rw [← h]
  exact loop_run (E111_0 t1 t9 t10) (K111_0 t1 t9 t10 k) (st111_0 t1 t9 t10 ce k) _ t11
 ·cases h
def q111 (xa xb xc:List AV) (a1:Int):Bool:=(ro (runW (R111_0 a1 xc (xc.length:Int)) (((xc.length:Int) - 0:Int).toNat+1) 0) false (sumE (fun _=>true) (fun p43=>true)))
def v111_0 (xa xb xc:List AV) (a1:Int):Int:=(ro (runW (R111_0 a1 xc (xc.length:Int)) (((xc.length:Int) - 0:Int).toNat+1) 0) 0 (sumE (fun _=>0) (fun p43=>p43.1)))
def v111_1 (xa xb xc:List AV) (a1:Int):Bool:=(ro (runW (R111_0 a1 xc (xc.length:Int)) (((xc.length:Int) - 0:Int).toNat+1) 0) false (sumE (fun _=>false) (fun p43=>true)))
theorem e111 (xa xb xc:List AV) (a1:Int):funA c111 0 111 [AV.agg [AV.sl [.int .i64] xa,AV.sl [.int .i64] xb,AV.sl [.int .i64,.int .i64] xc],Ai a1]=(ro (runW (R111_0 a1 xc (xc.length:Int)) (((xc.length:Int) - 0:Int).toNat+1) 0) none (sumE (fun _=>some (AV.tup [Ai 0,AV.bool false])) (fun p43=>some (AV.tup [Ai p43.1,AV.bool true])))):=by kernel_rfl
def m111:TModel
 | [.agg [.sl g0 xa,.sl g1 xb,.sl g2 xc],.int .i64 a1]=>bif ctsEq g0 ([.int .i64]) && ctsEq g1 ([.int .i64]) && ctsEq g2 ([.int .i64,.int .i64]) then some (q111 xa xb xc a1,AV.tup [AV.int .i64 (v111_0 xa xb xc a1),AV.bool (v111_1 xa xb xc a1)]) else none
 | _=>none
theorem k111:Known Tryz.prog 111:=⟨Tryz.f111,Tryz.func111,by kernel_rfl,by kernel_rfl⟩
theorem meets111:Meets Tryz.prog 111 m111:=by
 refine mt (lvl:=0) (cf:=c111) rfl mixed k111 Tryz.func111 (by kernel_rfl) (loops_cons ok111_0 noLoop) allT_nil allM_nil noI fun xs r h=>?_
 unfold m111 at h
 split at h
 ·rename_i g0 xa g1 xb g2 xc a1
  obtain ⟨hg,h⟩:=bif_pair h
  simp only [Bool.and_eq_true] at hg
  obtain ⟨⟨q0,q1⟩,q2⟩:=hg
  obtain rfl:=cE q0
  obtain rfl:=cE q1
  obtain rfl:=cE q2
  obtain ⟨h1,rfl⟩:=pair_inj h
  exact (e111 xa xb xc a1).trans ((brO (fun o:Option (Unit ⊕ (Int × Int × Int))=>some (AV.tup [Ai (ro o 0 (sumE (fun _=>0) (fun p43=>p43.1))),AV.bool (ro o false (sumE (fun _=>false) (fun p43=>true)))])) (brS (fun o:Unit ⊕ (Int × Int × Int)=>some (AV.tup [Ai ((sumE (fun _=>0) (fun p43=>p43.1)) o),AV.bool ((sumE (fun _=>false) (fun p43=>true)) o)])) (fun _=>(fun _=>rfl)) (fun p43=>(fun _=>rfl)))) h1)
 ·cases h
noncomputable def c142:Cfg:=cfg Tryz.prog [(142,999,[4])] [(111,m111)] [] [] []
def q142 (xa xb xc:List AV) (a1:Int):Bool:=q111 xa xb xc a1
def v142_0 (xa xb xc:List AV) (a1:Int):Bool:=(v111_1 xa xb xc a1)
theorem e142 (xa xb xc:List AV) (a1:Int):funA c142 0 142 [AV.agg [AV.sl [.int .i64] xa,AV.sl [.int .i64] xb,AV.sl [.int .i64,.int .i64] xc],Ai a1]=(bif q111 xa xb xc a1 then some (AV.bool (v111_1 xa xb xc a1))
 else none):=by kernel_rfl
def m142:TModel
 | [.agg [.sl g0 xa,.sl g1 xb,.sl g2 xc],.int .i64 a1]=>bif ctsEq g0 ([.int .i64]) && ctsEq g1 ([.int .i64]) && ctsEq g2 ([.int .i64,.int .i64]) then some (q142 xa xb xc a1,AV.bool (v142_0 xa xb xc a1)) else none
 | _=>none
theorem k142:Known Tryz.prog 142:=⟨Tryz.f142,Tryz.func142,by kernel_rfl,by kernel_rfl⟩
theorem meets142:Meets Tryz.prog 142 m142:=by
 refine mt (lvl:=0) (cf:=c142) rfl mixed k142 Tryz.func142 (by kernel_rfl) noLoop (allT_cons meets111 allT_nil) allM_nil noI fun xs r h=>?_
 unfold m142 at h
 split at h
 ·rename_i g0 xa g1 xb g2 xc a1
  obtain ⟨hg,h⟩:=bif_pair h
  simp only [Bool.and_eq_true] at hg
  obtain ⟨⟨q0,q1⟩,q2⟩:=hg
  obtain rfl:=cE q0
  obtain rfl:=cE q1
  obtain rfl:=cE q2
  obtain ⟨h1,rfl⟩:=pair_inj h
  exact (e142 xa xb xc a1).trans ((brL1 (fun _=>rfl)) h1)
 ·cases h
def G143_0 {β:Type} (t1:Int) (t7:Int) (t14:List AV) (t15:Int) (t6:Int) (t16:Int) (N:((Int × Int))→β) (K:(Int ⊕ (Int × Int × Int × Int))→β) (d:β):β:=(bif decide (t16<t15) then (bif (decide (0≤t16) && decide (t16<(t14.length:Int))) then (bif decide (fI (t14.getD t16.toNat .undef) 0≤t1) then (bif decide (fI (t14.getD t16.toNat .undef) 0 ≥ t1) then K (.inr (fI (t14.getD t16.toNat .undef) 1,fI (t14.getD t16.toNat .undef) 1,fI (t14.getD t16.toNat .undef) 0,fI (t14.getD t16.toNat .undef) 1))
 else N (fI (t14.getD t16.toNat .undef) 1,IntKind.i64.wrap (t16+1)))
 else (bif decide (fI (t14.getD t16.toNat .undef) 0 ≥ t1) then K (.inr (t6,fI (t14.getD t16.toNat .undef) 1,fI (t14.getD t16.toNat .undef) 0,fI (t14.getD t16.toNat .undef) 1))
 else N (t6,IntKind.i64.wrap (t16+1))))
 else d)
 else K (.inl t6))
def F143_0 (t1 t7:Int) (t14:List AV) (t15 t6 t16:Int):Out ((Int × Int)) (Int ⊕ (Int × Int × Int × Int)):=G143_0 t1 t7 t14 t15 t6 t16 .next .stop .fail
def R143_0 (t1 t7:Int) (t14:List AV) (t15:Int):((Int × Int))→Out ((Int × Int)) (Int ⊕ (Int × Int × Int × Int)):=fun s:Int × Int=>F143_0 t1 t7 t14 t15 s.1 s.2
def E143_0 (t1 t7:Int) (t14:List AV) (t15:Int):((Int × Int))→St:=fun s:Int × Int=>⟨[(1,Ai t1),(6,Ai s.1),(7,Ai t7),(14,AV.sl [.int .i64,.int .i64] t14),(15,Ai t15),(16,Ai s.2)],[]⟩
def K143_0 (t1 t7:Int) (t14:List AV) (t15:Int) (k:Kont):(Int ⊕ (Int × Int × Int × Int))→Option AV:=sumE (fun p:Int=>k (.exit 0) ⟨[(6,Ai p),(7,Ai t7)],[]⟩) (fun p:Int × Int × Int × Int=>k .ret ⟨[(4,Ai p.1),(5,Ai p.2.1)],[([1,9],⟨true,[],[AV.agg [Ai p.2.2.1,Ai p.2.2.2]]⟩)]⟩)
def l143_0:LModel:=fun _ _ st k=>match st with
 | ⟨[(1,.int .i64 t1),(6,.int .i64 t6),(7,.int .i64 t7),(14,.sl g0 t14),(15,.int .i64 t15),(16,.int .i64 t16)],[]⟩=>bif ctsEq g0 ([.int .i64,.int .i64]) then ro (runW (R143_0 t1 t7 t14 t15) ((t15 - t16:Int).toNat+1) (t6,t16)) none (K143_0 t1 t7 t14 t15 k) else none
 | _=>none
noncomputable def c143:Cfg:=cfg Tryz.prog [(143,0,[1,6,7,14,15,16]),(143,999,[4,5]),(143,1000,[6,7]),(143,1001,[1,6,7,14,15,16])] [] [] [] [(143,0,l143_0)]
theorem s143_0 (t1 t7:Int) (t14:List AV) (t15:Int) (ce:CallE) (k:Kont) (s:Int × Int) (next:St→Option AV):stepA (codeA c143 ce [] 143 0 (sub [1,1,0,1,0,0] (body Tryz.f143))) (normA [] [1,6,7,14,15,16]) next ((E143_0 t1 t7 t14 t15) s) k=G143_0 t1 t7 t14 t15 s.1 s.2 (fun s=>next ((E143_0 t1 t7 t14 t15) s)) (K143_0 t1 t7 t14 t15 k) none:=by kernel_rfl
theorem st143_0 (t1 t7:Int) (t14:List AV) (t15:Int) (ce:CallE) (k:Kont) (s:(Int × Int)) (next:St→Option AV):stepA (codeA c143 ce [] 143 0 (sub [1,1,0,1,0,0] (body Tryz.f143))) (normA [] [1,6,7,14,15,16]) next ((E143_0 t1 t7 t14 t15) s) k=(R143_0 t1 t7 t14 t15 s).el none (fun s=>next ((E143_0 t1 t7 t14 t15) s)) (K143_0 t1 t7 t14 t15 k):=(s143_0 t1 t7 t14 t15 ce k s next).trans (by unfold R143_0;unfold F143_0 G143_0;simp only [el_cond,el_ro,el_sum,el_fail,el_next,el_stop] <;> rfl)
theorem ok143_0 {ce:CallE}:LoopOK c143 ce [] 143 0 (sub [1,1,0,1,0,0] (body Tryz.f143)):=by
 intro m hm st k r h
 obtain rfl:l143_0=m:=Option.some.inj hm
 unfold l143_0 at h
 split at h
 ·rename_i t1 t6 t7 g0 t14 t15 t16
  obtain ⟨hg,h⟩:=bif_some h
  have q0:=hg
  obtain rfl:=cE q0
  refine ⟨((t15 - t16:Int).toNat+1),?_⟩
  rw [← h]
  exact loop_run (E143_0 t1 t7 t14 t15) (K143_0 t1 t7 t14 t15 k) (st143_0 t1 t7 t14 t15 ce k) _ (t6,t16)
 ·cases h
def q143 (xa xb xc:List AV) (a1:Int):Bool:=(ro (runW (R143_0 a1 (xa.length:Int) xc (xc.length:Int)) (((xc.length:Int) - 0:Int).toNat+1) (0,0)) false (sumE (fun p44=>true) (fun p45=>true)))
def v143_0 (xa xb xc:List AV) (a1:Int):Int:=(ro (runW (R143_0 a1 (xa.length:Int) xc (xc.length:Int)) (((xc.length:Int) - 0:Int).toNat+1) (0,0)) 0 (sumE (fun p44=>p44) (fun p45=>p45.1)))
def v143_1 (xa xb xc:List AV) (a1:Int):Int:=(ro (runW (R143_0 a1 (xa.length:Int) xc (xc.length:Int)) (((xc.length:Int) - 0:Int).toNat+1) (0,0)) 0 (sumE (fun p44=>(xa.length:Int)) (fun p45=>p45.2.1)))
theorem e143 (xa xb xc:List AV) (a1:Int):funA c143 0 143 [AV.agg [AV.sl [.int .i64] xa,AV.sl [.int .i64] xb,AV.sl [.int .i64,.int .i64] xc],Ai a1]=(ro (runW (R143_0 a1 (xa.length:Int) xc (xc.length:Int)) (((xc.length:Int) - 0:Int).toNat+1) (0,0)) none (sumE (fun p44=>some (AV.tup [Ai p44,Ai (xa.length:Int)])) (fun p45=>some (AV.tup [Ai p45.1,Ai p45.2.1])))):=by kernel_rfl
def m143:TModel
 | [.agg [.sl g0 xa,.sl g1 xb,.sl g2 xc],.int .i64 a1]=>bif ctsEq g0 ([.int .i64]) && ctsEq g1 ([.int .i64]) && ctsEq g2 ([.int .i64,.int .i64]) then some (q143 xa xb xc a1,AV.tup [AV.int .i64 (v143_0 xa xb xc a1),AV.int .i64 (v143_1 xa xb xc a1)]) else none
 | _=>none
theorem k143:Known Tryz.prog 143:=⟨Tryz.f143,Tryz.func143,by kernel_rfl,by kernel_rfl⟩
theorem meets143:Meets Tryz.prog 143 m143:=by
 refine mt (lvl:=0) (cf:=c143) rfl mixed k143 Tryz.func143 (by kernel_rfl) (loops_cons ok143_0 noLoop) allT_nil allM_nil noI fun xs r h=>?_
 unfold m143 at h
 split at h
 ·rename_i g0 xa g1 xb g2 xc a1
  obtain ⟨hg,h⟩:=bif_pair h
  simp only [Bool.and_eq_true] at hg
  obtain ⟨⟨q0,q1⟩,q2⟩:=hg
  obtain rfl:=cE q0
  obtain rfl:=cE q1
  obtain rfl:=cE q2
  obtain ⟨h1,rfl⟩:=pair_inj h
  exact (e143 xa xb xc a1).trans ((brO (fun o:Option (Int ⊕ (Int × Int × Int × Int))=>some (AV.tup [Ai (ro o 0 (sumE (fun p44=>p44) (fun p45=>p45.1))),Ai (ro o 0 (sumE (fun p44=>(xa.length:Int)) (fun p45=>p45.2.1)))])) (brS (fun o:Int ⊕ (Int × Int × Int × Int)=>some (AV.tup [Ai ((sumE (fun p44=>p44) (fun p45=>p45.1)) o),Ai ((sumE (fun p44=>(xa.length:Int)) (fun p45=>p45.2.1)) o)])) (fun p44=>(fun _=>rfl)) (fun p45=>(fun _=>rfl)))) h1)
 ·cases h
noncomputable def c48:Cfg:=cfg Tryz.prog [(48,999,[4])] [(83,m83)] [] [] []
def q48 (a0:List AV) (a1:Int):Bool:=q83 a0 a1
def v48_0 (a0:List AV) (a1:Int):Bool:=decide ((v83_0 a0 a1) ≥ 0)
theorem e48 (a0:List AV) (a1:Int):funA c48 0 48 [AV.sl [.int .i64] a0,Ai a1]=(bif q83 a0 a1 then some (AV.bool (decide ((v83_0 a0 a1) ≥ 0)))
 else none):=by kernel_rfl
def m48:TModel
 | [.sl g0 a0,.int .i64 a1]=>bif ctsEq g0 ([.int .i64]) then some (q48 a0 a1,AV.bool (v48_0 a0 a1)) else none
 | _=>none
theorem k48:Known Tryz.prog 48:=⟨Tryz.f48,Tryz.func48,by kernel_rfl,by kernel_rfl⟩
theorem meets48:Meets Tryz.prog 48 m48:=by
 refine mt (lvl:=0) (cf:=c48) rfl mixed k48 Tryz.func48 (by kernel_rfl) noLoop (allT_cons meets83 allT_nil) allM_nil noI fun xs r h=>?_
 unfold m48 at h
 split at h
 ·rename_i g0 a0 a1
  obtain ⟨hg,h⟩:=bif_pair h
  have q0:=hg
  obtain rfl:=cE q0
  obtain ⟨h1,rfl⟩:=pair_inj h
  exact (e48 a0 a1).trans ((brL1 (fun _=>rfl)) h1)
 ·cases h
noncomputable def c107:Cfg:=cfg Tryz.prog [(107,999,[2])] [] [] [] []
def v107_0 (a0:Int):Bool:=(bif decide (a0 ≥ (-1000)) then decide (a0≤1000) else false)
theorem e107 (a0:Int):funA c107 0 107 [Ai a0]=(bif decide (a0 ≥ (-1000)) then some (AV.bool (decide (a0≤1000)))
 else some (AV.bool false)):=by kernel_rfl
def m107:TModel
 | [.int .i64 a0]=>some (true,AV.bool (v107_0 a0))
 | _=>none
theorem k107:Known Tryz.prog 107:=⟨Tryz.f107,Tryz.func107,by kernel_rfl,by kernel_rfl⟩
theorem meets107:Meets Tryz.prog 107 m107:=by
 refine mt (lvl:=0) (cf:=c107) rfl mixed k107 Tryz.func107 (by kernel_rfl) noLoop allT_nil allM_nil noI fun xs r h=>?_
 unfold m107 at h
 split at h
 ·rename_i a0
  obtain ⟨h1,rfl⟩:=pair_inj h
  exact (e107 a0).trans (of_tt (brT (fun b=>some (AV.bool (bif b then decide (a0≤1000) else false))) (fun _=>rfl) (fun _=>rfl)))
 ·cases h
def G61_4 {β:Type} (t50:List AV) (t51:Int) (t52:Int) (t103:List AV) (t104:Int) (h0_0:List AV) (h0_1:List AV) (h0_2:List AV) (h1_0:Int) (h1_1:Int) (t105:Int) (N:(Int)→β) (K:(Unit ⊕ Unit)→β) (d:β):β:=(bif decide (t105<t104) then (bif (decide (0≤t105) && decide (t105<(t103.length:Int))) then (bif !(decide (fI (t103.getD t105.toNat .undef) 0<h1_0) == decide (t105<h1_1)) then K (.inr ())
 else N (IntKind.i64.wrap (t105+1)))
 else d)
 else K (.inl ()))
def F61_4 (t50:List AV) (t51 t52:Int) (t103:List AV) (t104:Int) (h0_0 h0_1 h0_2:List AV) (h1_0 h1_1 t105:Int):Out (Int) (Unit ⊕ Unit):=G61_4 t50 t51 t52 t103 t104 h0_0 h0_1 h0_2 h1_0 h1_1 t105 .next .stop .fail
def R61_4 (t50:List AV) (t51 t52:Int) (t103:List AV) (t104:Int) (h0_0 h0_1 h0_2:List AV) (h1_0 h1_1:Int):(Int)→Out (Int) (Unit ⊕ Unit):=fun s:Int=>F61_4 t50 t51 t52 t103 t104 h0_0 h0_1 h0_2 h1_0 h1_1 s
def E61_4 (t50:List AV) (t51 t52:Int) (t103:List AV) (t104:Int) (h0_0 h0_1 h0_2:List AV) (h1_0 h1_1:Int):(Int)→St:=fun s:Int=>⟨[(1,AV.ptr [0,1] 0 0),(6,AV.ptr [0,6] 0 0),(50,AV.sl [.int .i64,.int .i64] t50),(51,Ai t51),(52,Ai t52),(103,AV.sl [.int .i64] t103),(104,Ai t104),(105,Ai s)],[([0,1],⟨true,[],[AV.agg [AV.sl [.int .i64] h0_0,AV.sl [.int .i64] h0_1,AV.sl [.int .i64,.int .i64] h0_2]]⟩),([0,6],⟨true,[],[AV.agg [Ai h1_0,Ai h1_1]]⟩)]⟩
def K61_4 (t50:List AV) (t51 t52:Int) (t103:List AV) (t104:Int) (h0_0 h0_1 h0_2:List AV) (h1_0 h1_1:Int) (k:Kont):(Unit ⊕ Unit)→Option AV:=sumE (fun _:Unit=>k (.exit 4) ⟨[(1,AV.ptr [0,1] 0 0),(50,AV.sl [.int .i64,.int .i64] t50),(51,Ai t51),(52,Ai t52)],[([0,1],⟨true,[],[AV.agg [AV.sl [.int .i64] h0_0,AV.sl [.int .i64] h0_1,AV.sl [.int .i64,.int .i64] h0_2]]⟩),([0,6],⟨true,[],[AV.agg [Ai h1_0,Ai h1_1]]⟩)]⟩) (fun _:Unit=>k .ret ⟨[(2,AV.bool false)],[([0,1],⟨true,[],[AV.agg [AV.sl [.int .i64] h0_0,AV.sl [.int .i64] h0_1,AV.sl [.int .i64,.int .i64] h0_2]]⟩),([0,6],⟨true,[],[AV.agg [Ai h1_0,Ai h1_1]]⟩)]⟩)
def l61_4:LModel:=fun _ _ st k=>match st with
 | ⟨[(1,.ptr g0 g1 g2),(6,.ptr g3 g4 g5),(50,.sl g6 t50),(51,.int .i64 t51),(52,.int .i64 t52),(103,.sl g7 t103),(104,.int .i64 t104),(105,.int .i64 t105)],[(g8,⟨true,[],[.agg [.sl g9 h0_0,.sl g10 h0_1,.sl g11 h0_2]]⟩),(g12,⟨true,[],[.agg [.int .i64 h1_0,.int .i64 h1_1]]⟩)]⟩=>bif nmEq g0 ([0,1]) && Nat.beq g1 0 && Nat.beq g2 0 && nmEq g3 ([0,6]) && Nat.beq g4 0 && Nat.beq g5 0 && ctsEq g6 ([.int .i64,.int .i64]) && ctsEq g7 ([.int .i64]) && nmEq g8 ([0,1]) && ctsEq g9 ([.int .i64]) && ctsEq g10 ([.int .i64]) && ctsEq g11 ([.int .i64,.int .i64]) && nmEq g12 ([0,6]) then ro (runW (R61_4 t50 t51 t52 t103 t104 h0_0 h0_1 h0_2 h1_0 h1_1) ((t104 - t105:Int).toNat+1) t105) none (K61_4 t50 t51 t52 t103 t104 h0_0 h0_1 h0_2 h1_0 h1_1 k) else none
 | _=>none
def G61_2 {β:Type} (t50:List AV) (t51:Int) (h0_0:List AV) (h0_1:List AV) (h0_2:List AV) (t52:Int) (N:(Int)→β) (K:(Unit ⊕ (Int × Int) ⊕ (Int × Int))→β) (d:β):β:=(bif decide (t52<t51) then (bif (decide (0≤t52) && decide (t52<(t50.length:Int))) then (bif !(v107_0 (fI (t50.getD t52.toNat .undef) 0)) then K (.inr (.inl (fI (t50.getD t52.toNat .undef) 0,fI (t50.getD t52.toNat .undef) 1)))
 else (bif decide (fI (t50.getD t52.toNat .undef) 1<0) then K (.inr (.inl (fI (t50.getD t52.toNat .undef) 0,fI (t50.getD t52.toNat .undef) 1)))
 else (bif decide (fI (t50.getD t52.toNat .undef) 1 > (h0_0.length:Int)) then K (.inr (.inl (fI (t50.getD t52.toNat .undef) 0,fI (t50.getD t52.toNat .undef) 1)))
 else (bif decide (t52 > 0) then (bif (decide (0≤IntKind.i64.wrap (t52 - 1)) && decide (IntKind.i64.wrap (t52 - 1)<(h0_2.length:Int))) then (bif decide (fI (t50.getD t52.toNat .undef) 0≤fI (h0_2.getD (IntKind.i64.wrap (t52 - 1)).toNat .undef) 0) then K (.inr (.inl (fI (t50.getD t52.toNat .undef) 0,fI (t50.getD t52.toNat .undef) 1)))
 else (bif (decide (0≤IntKind.i64.wrap (t52 - 1)) && decide (IntKind.i64.wrap (t52 - 1)<(h0_2.length:Int))) then (bif decide (fI (t50.getD t52.toNat .undef) 1<fI (h0_2.getD (IntKind.i64.wrap (t52 - 1)).toNat .undef) 1) then K (.inr (.inl (fI (t50.getD t52.toNat .undef) 0,fI (t50.getD t52.toNat .undef) 1)))
 else (ro (runW (R61_4 t50 t51 t52 h0_0 (h0_0.length:Int) h0_0 h0_1 h0_2 (fI (t50.getD t52.toNat .undef) 0) (fI (t50.getD t52.toNat .undef) 1)) (((h0_0.length:Int) - 0:Int).toNat+1) 0) d (sumE (fun _=>N (IntKind.i64.wrap (t52+1))) (fun _=>K (.inr (.inr (fI (t50.getD t52.toNat .undef) 0,fI (t50.getD t52.toNat .undef) 1)))))))
 else d))
 else d)
 else (ro (runW (R61_4 t50 t51 t52 h0_0 (h0_0.length:Int) h0_0 h0_1 h0_2 (fI (t50.getD t52.toNat .undef) 0) (fI (t50.getD t52.toNat .undef) 1)) (((h0_0.length:Int) - 0:Int).toNat+1) 0) d (sumE (fun _=>N (IntKind.i64.wrap (t52+1))) (fun _=>K (.inr (.inr (fI (t50.getD t52.toNat .undef) 0,fI (t50.getD t52.toNat .undef) 1))))))))))
 else d)
 else K (.inl ()))
def F61_2 (t50:List AV) (t51:Int) (h0_0 h0_1 h0_2:List AV) (t52:Int):Out (Int) (Unit ⊕ (Int × Int) ⊕ (Int × Int)):=G61_2 t50 t51 h0_0 h0_1 h0_2 t52 .next .stop .fail
def R61_2 (t50:List AV) (t51:Int) (h0_0 h0_1 h0_2:List AV):(Int)→Out (Int) (Unit ⊕ (Int × Int) ⊕ (Int × Int)):=fun s:Int=>F61_2 t50 t51 h0_0 h0_1 h0_2 s
def E61_2 (t50:List AV) (t51:Int) (h0_0 h0_1 h0_2:List AV):(Int)→St:=fun s:Int=>⟨[(1,AV.ptr [0,1] 0 0),(50,AV.sl [.int .i64,.int .i64] t50),(51,Ai t51),(52,Ai s)],[([0,1],⟨true,[],[AV.agg [AV.sl [.int .i64] h0_0,AV.sl [.int .i64] h0_1,AV.sl [.int .i64,.int .i64] h0_2]]⟩)]⟩
def K61_2 (t50:List AV) (t51:Int) (h0_0 h0_1 h0_2:List AV) (k:Kont):(Unit ⊕ (Int × Int) ⊕ (Int × Int))→Option AV:=sumE (fun _:Unit=>k (.exit 2) ⟨[],[([0,1],⟨true,[],[AV.agg [AV.sl [.int .i64] h0_0,AV.sl [.int .i64] h0_1,AV.sl [.int .i64,.int .i64] h0_2]]⟩)]⟩) (sumE (fun p:Int × Int=>k .ret ⟨[(2,AV.bool false)],[([0,1],⟨true,[],[AV.agg [AV.sl [.int .i64] h0_0,AV.sl [.int .i64] h0_1,AV.sl [.int .i64,.int .i64] h0_2]]⟩),([1,6],⟨true,[],[AV.agg [Ai p.1,Ai p.2]]⟩)]⟩) (fun p:Int × Int=>k .ret ⟨[(2,AV.bool false)],[([0,1],⟨true,[],[AV.agg [AV.sl [.int .i64] h0_0,AV.sl [.int .i64] h0_1,AV.sl [.int .i64,.int .i64] h0_2]]⟩),([0,6],⟨true,[],[AV.agg [Ai p.1,Ai p.2]]⟩)]⟩))
def l61_2:LModel:=fun _ _ st k=>match st with
 | ⟨[(1,.ptr g0 g1 g2),(50,.sl g3 t50),(51,.int .i64 t51),(52,.int .i64 t52)],[(g4,⟨true,[],[.agg [.sl g5 h0_0,.sl g6 h0_1,.sl g7 h0_2]]⟩)]⟩=>bif nmEq g0 ([0,1]) && Nat.beq g1 0 && Nat.beq g2 0 && ctsEq g3 ([.int .i64,.int .i64]) && nmEq g4 ([0,1]) && ctsEq g5 ([.int .i64]) && ctsEq g6 ([.int .i64]) && ctsEq g7 ([.int .i64,.int .i64]) then ro (runW (R61_2 t50 t51 h0_0 h0_1 h0_2) ((t51 - t52:Int).toNat+1) t52) none (K61_2 t50 t51 h0_0 h0_1 h0_2 k) else none
 | _=>none
def G61_0 {β:Type} (t35:List AV) (t36:Int) (h0_0:List AV) (h0_1:List AV) (h0_2:List AV) (t37:Int) (N:(Int)→β) (K:(Unit ⊕ Unit)→β) (d:β):β:=(bif decide (t37<t36) then (bif (decide (0≤t37) && decide (t37<(t35.length:Int))) then (bif (decide (0≤0) && decide (0≤t37) && decide (t37≤(h0_1.length:Int))) then (bif q48 ((h0_1.take (Int.toNat t37)).drop (Int.toNat 0)) (fI (t35.getD t37.toNat .undef) 0) then (bif (v48_0 ((h0_1.take (Int.toNat t37)).drop (Int.toNat 0)) (fI (t35.getD t37.toNat .undef) 0)) then K (.inr ())
 else N (IntKind.i64.wrap (t37+1)))
 else d)
 else d)
 else d)
 else K (.inl ()))
def F61_0 (t35:List AV) (t36:Int) (h0_0 h0_1 h0_2:List AV) (t37:Int):Out (Int) (Unit ⊕ Unit):=G61_0 t35 t36 h0_0 h0_1 h0_2 t37 .next .stop .fail
def R61_0 (t35:List AV) (t36:Int) (h0_0 h0_1 h0_2:List AV):(Int)→Out (Int) (Unit ⊕ Unit):=fun s:Int=>F61_0 t35 t36 h0_0 h0_1 h0_2 s
def E61_0 (t35:List AV) (t36:Int) (h0_0 h0_1 h0_2:List AV):(Int)→St:=fun s:Int=>⟨[(1,AV.ptr [0,1] 0 0),(35,AV.sl [.int .i64] t35),(36,Ai t36),(37,Ai s)],[([0,1],⟨true,[],[AV.agg [AV.sl [.int .i64] h0_0,AV.sl [.int .i64] h0_1,AV.sl [.int .i64,.int .i64] h0_2]]⟩)]⟩
def K61_0 (t35:List AV) (t36:Int) (h0_0 h0_1 h0_2:List AV) (k:Kont):(Unit ⊕ Unit)→Option AV:=sumE (fun _:Unit=>k (.exit 0) ⟨[(1,AV.ptr [0,1] 0 0)],[([0,1],⟨true,[],[AV.agg [AV.sl [.int .i64] h0_0,AV.sl [.int .i64] h0_1,AV.sl [.int .i64,.int .i64] h0_2]]⟩)]⟩) (fun _:Unit=>k .ret ⟨[(2,AV.bool false)],[([0,1],⟨true,[],[AV.agg [AV.sl [.int .i64] h0_0,AV.sl [.int .i64] h0_1,AV.sl [.int .i64,.int .i64] h0_2]]⟩)]⟩)
def l61_0:LModel:=fun _ _ st k=>match st with
 | ⟨[(1,.ptr g0 g1 g2),(35,.sl g3 t35),(36,.int .i64 t36),(37,.int .i64 t37)],[(g4,⟨true,[],[.agg [.sl g5 h0_0,.sl g6 h0_1,.sl g7 h0_2]]⟩)]⟩=>bif nmEq g0 ([0,1]) && Nat.beq g1 0 && Nat.beq g2 0 && ctsEq g3 ([.int .i64]) && nmEq g4 ([0,1]) && ctsEq g5 ([.int .i64]) && ctsEq g6 ([.int .i64]) && ctsEq g7 ([.int .i64,.int .i64]) then ro (runW (R61_0 t35 t36 h0_0 h0_1 h0_2) ((t36 - t37:Int).toNat+1) t37) none (K61_0 t35 t36 h0_0 h0_1 h0_2 k) else none
 | _=>none
noncomputable def c61:Cfg:=cfg Tryz.prog [(61,0,[1,35,36,37]),(61,2,[1,50,51,52]),(61,4,[1,6,50,51,52,103,104,105]),(61,999,[2]),(61,1000,[1]),(61,1001,[1,35,36,37]),(61,1002,[]),(61,1003,[1,50,51,52]),(61,1004,[1,50,51,52]),(61,1005,[1,6,50,51,52,103,104,105])] [(48,m48),(79,m79),(106,m106),(107,m107)] [] [] [(61,0,l61_0),(61,2,l61_2),(61,4,l61_4)]
theorem s61_4 (t50:List AV) (t51 t52:Int) (t103:List AV) (t104:Int) (h0_0 h0_1 h0_2:List AV) (h1_0 h1_1:Int) (ce:CallE) (k:Kont) (s:Int) (next:St→Option AV):stepA (codeA c61 ce [] 61 4 (sub [1,1,1,0,1,0,0,1,1,0,0,1,1,1,0,0] (body Tryz.f61))) (normA [] [1,6,50,51,52,103,104,105]) next ((E61_4 t50 t51 t52 t103 t104 h0_0 h0_1 h0_2 h1_0 h1_1) s) k=G61_4 t50 t51 t52 t103 t104 h0_0 h0_1 h0_2 h1_0 h1_1 s (fun s=>next ((E61_4 t50 t51 t52 t103 t104 h0_0 h0_1 h0_2 h1_0 h1_1) s)) (K61_4 t50 t51 t52 t103 t104 h0_0 h0_1 h0_2 h1_0 h1_1 k) none:=by kernel_rfl
theorem st61_4 (t50:List AV) (t51 t52:Int) (t103:List AV) (t104:Int) (h0_0 h0_1 h0_2:List AV) (h1_0 h1_1:Int) (ce:CallE) (k:Kont) (s:Int) (next:St→Option AV):stepA (codeA c61 ce [] 61 4 (sub [1,1,1,0,1,0,0,1,1,0,0,1,1,1,0,0] (body Tryz.f61))) (normA [] [1,6,50,51,52,103,104,105]) next ((E61_4 t50 t51 t52 t103 t104 h0_0 h0_1 h0_2 h1_0 h1_1) s) k=(R61_4 t50 t51 t52 t103 t104 h0_0 h0_1 h0_2 h1_0 h1_1 s).el none (fun s=>next ((E61_4 t50 t51 t52 t103 t104 h0_0 h0_1 h0_2 h1_0 h1_1) s)) (K61_4 t50 t51 t52 t103 t104 h0_0 h0_1 h0_2 h1_0 h1_1 k):=(s61_4 t50 t51 t52 t103 t104 h0_0 h0_1 h0_2 h1_0 h1_1 ce k s next).trans (by unfold R61_4;unfold F61_4 G61_4;simp only [el_cond,el_ro,el_sum,el_fail,el_next,el_stop] <;> rfl)
theorem ok61_4 {ce:CallE}:LoopOK c61 ce [] 61 4 (sub [1,1,1,0,1,0,0,1,1,0,0,1,1,1,0,0] (body Tryz.f61)):=by
 intro m hm st k r h
 obtain rfl:l61_4=m:=Option.some.inj hm
 unfold l61_4 at h
 split at h
 ·rename_i g0 g1 g2 g3 g4 g5 g6 t50 t51 t52 g7 t103 t104 t105 g8 g9 h0_0 g10 h0_1 g11 h0_2 g12 h1_0 h1_1
  obtain ⟨hg,h⟩:=bif_some h
  simp only [Bool.and_eq_true] at hg
  obtain ⟨⟨⟨⟨⟨⟨⟨⟨⟨⟨⟨⟨q0,q1⟩,q2⟩,q3⟩,q4⟩,q5⟩,q6⟩,q7⟩,q8⟩,q9⟩,q10⟩,q11⟩,q12⟩:=hg
  obtain rfl:=nE q0
  obtain rfl:=bE q1
  obtain rfl:=bE q2
  obtain rfl:=nE q3
  obtain rfl:=bE q4
  obtain rfl:=bE q5
  obtain rfl:=cE q6
  obtain rfl:=cE q7
  obtain rfl:=nE q8
  obtain rfl:=cE q9
  obtain rfl:=cE q10
  obtain rfl:=cE q11
  obtain rfl:=nE q12
  refine ⟨((t104 - t105:Int).toNat+1),?_⟩
  rw [← h]
  exact loop_run (E61_4 t50 t51 t52 t103 t104 h0_0 h0_1 h0_2 h1_0 h1_1) (K61_4 t50 t51 t52 t103 t104 h0_0 h0_1 h0_2 h1_0 h1_1 k) (st61_4 t50 t51 t52 t103 t104 h0_0 h0_1 h0_2 h1_0 h1_1 ce k) _ t105
 ·cases h
theorem s61_2 (t50:List AV) (t51:Int) (h0_0 h0_1 h0_2:List AV) (ce:CallE) (k:Kont) (s:Int) (next:St→Option AV):stepA (codeA c61 ce [] 61 2 (sub [1,1,1,0,1,0,0] (body Tryz.f61))) (normA [] [1,50,51,52]) next ((E61_2 t50 t51 h0_0 h0_1 h0_2) s) k=G61_2 t50 t51 h0_0 h0_1 h0_2 s (fun s=>next ((E61_2 t50 t51 h0_0 h0_1 h0_2) s)) (K61_2 t50 t51 h0_0 h0_1 h0_2 k) none:=by kernel_rfl
theorem st61_2 (t50:List AV) (t51:Int) (h0_0 h0_1 h0_2:List AV) (ce:CallE) (k:Kont) (s:Int) (next:St→Option AV):stepA (codeA c61 ce [] 61 2 (sub [1,1,1,0,1,0,0] (body Tryz.f61))) (normA [] [1,50,51,52]) next ((E61_2 t50 t51 h0_0 h0_1 h0_2) s) k=(R61_2 t50 t51 h0_0 h0_1 h0_2 s).el none (fun s=>next ((E61_2 t50 t51 h0_0 h0_1 h0_2) s)) (K61_2 t50 t51 h0_0 h0_1 h0_2 k):=(s61_2 t50 t51 h0_0 h0_1 h0_2 ce k s next).trans (by unfold R61_2;unfold F61_2 G61_2;simp only [el_cond,el_ro,el_sum,el_fail,el_next,el_stop] <;> rfl)
theorem ok61_2 {ce:CallE}:LoopOK c61 ce [] 61 2 (sub [1,1,1,0,1,0,0] (body Tryz.f61)):=by
 intro m hm st k r h
 obtain rfl:l61_2=m:=Option.some.inj hm
 unfold l61_2 at h
 split at h
 ·rename_i g0 g1 g2 g3 t50 t51 t52 g4 g5 h0_0 g6 h0_1 g7 h0_2
  obtain ⟨hg,h⟩:=bif_some h
  simp only [Bool.and_eq_true] at hg
  obtain ⟨⟨⟨⟨⟨⟨⟨q0,q1⟩,q2⟩,q3⟩,q4⟩,q5⟩,q6⟩,q7⟩:=hg
  obtain rfl:=nE q0
  obtain rfl:=bE q1
  obtain rfl:=bE q2
  obtain rfl:=cE q3
  obtain rfl:=nE q4
  obtain rfl:=cE q5
  obtain rfl:=cE q6
  obtain rfl:=cE q7
  refine ⟨((t51 - t52:Int).toNat+1),?_⟩
  rw [← h]
  exact loop_run (E61_2 t50 t51 h0_0 h0_1 h0_2) (K61_2 t50 t51 h0_0 h0_1 h0_2 k) (st61_2 t50 t51 h0_0 h0_1 h0_2 ce k) _ t52
 ·cases h
theorem s61_0 (t35:List AV) (t36:Int) (h0_0 h0_1 h0_2:List AV) (ce:CallE) (k:Kont) (s:Int) (next:St→Option AV):stepA (codeA c61 ce [] 61 0 (sub [1,1,0,1,0,0] (body Tryz.f61))) (normA [] [1,35,36,37]) next ((E61_0 t35 t36 h0_0 h0_1 h0_2) s) k=G61_0 t35 t36 h0_0 h0_1 h0_2 s (fun s=>next ((E61_0 t35 t36 h0_0 h0_1 h0_2) s)) (K61_0 t35 t36 h0_0 h0_1 h0_2 k) none:=by kernel_rfl
theorem st61_0 (t35:List AV) (t36:Int) (h0_0 h0_1 h0_2:List AV) (ce:CallE) (k:Kont) (s:Int) (next:St→Option AV):stepA (codeA c61 ce [] 61 0 (sub [1,1,0,1,0,0] (body Tryz.f61))) (normA [] [1,35,36,37]) next ((E61_0 t35 t36 h0_0 h0_1 h0_2) s) k=(R61_0 t35 t36 h0_0 h0_1 h0_2 s).el none (fun s=>next ((E61_0 t35 t36 h0_0 h0_1 h0_2) s)) (K61_0 t35 t36 h0_0 h0_1 h0_2 k):=(s61_0 t35 t36 h0_0 h0_1 h0_2 ce k s next).trans (by unfold R61_0;unfold F61_0 G61_0;simp only [el_cond,el_ro,el_sum,el_fail,el_next,el_stop] <;> rfl)
theorem ok61_0 {ce:CallE}:LoopOK c61 ce [] 61 0 (sub [1,1,0,1,0,0] (body Tryz.f61)):=by
 intro m hm st k r h
 obtain rfl:l61_0=m:=Option.some.inj hm
 unfold l61_0 at h
 split at h
 ·rename_i g0 g1 g2 g3 t35 t36 t37 g4 g5 h0_0 g6 h0_1 g7 h0_2
  obtain ⟨hg,h⟩:=bif_some h
  simp only [Bool.and_eq_true] at hg
  obtain ⟨⟨⟨⟨⟨⟨⟨q0,q1⟩,q2⟩,q3⟩,q4⟩,q5⟩,q6⟩,q7⟩:=hg
  obtain rfl:=nE q0
  obtain rfl:=bE q1
  obtain rfl:=bE q2
  obtain rfl:=cE q3
  obtain rfl:=nE q4
  obtain rfl:=cE q5
  obtain rfl:=cE q6
  obtain rfl:=cE q7
  refine ⟨((t36 - t37:Int).toNat+1),?_⟩
  rw [← h]
  exact loop_run (E61_0 t35 t36 h0_0 h0_1 h0_2) (K61_0 t35 t36 h0_0 h0_1 h0_2 k) (st61_0 t35 t36 h0_0 h0_1 h0_2 ce k) _ t37
 ·cases h
def q61 (xa xb xc:List AV):Bool:=(q79 xa && (bif !(v79_0 xa) then true else (bif !decide ((xb.length:Int)=(xa.length:Int)) then true else (q106 xb 0 999 && (bif !(v106_0 xb 0 999) then true else (bif decide ((xc.length:Int) > 2001) then true else (ro (runW (R61_0 xb (xb.length:Int) xa xb xc) (((xb.length:Int) - 0:Int).toNat+1) 0) false (sumE (fun _=>(ro (runW (R61_2 xc (xc.length:Int) xa xb xc) (((xc.length:Int) - 0:Int).toNat+1) 0) false (sumE (fun _=>true) (sumE (fun p52=>true) (fun p53=>true))))) (fun _=>true)))))))))
def v61_0 (xa xb xc:List AV):Bool:=(bif !(v79_0 xa) then false else (bif !decide ((xb.length:Int)=(xa.length:Int)) then false else (bif !(v106_0 xb 0 999) then false else (bif decide ((xc.length:Int) > 2001) then false else (ro (runW (R61_0 xb (xb.length:Int) xa xb xc) (((xb.length:Int) - 0:Int).toNat+1) 0) false (sumE (fun _=>(ro (runW (R61_2 xc (xc.length:Int) xa xb xc) (((xc.length:Int) - 0:Int).toNat+1) 0) false (sumE (fun _=>true) (sumE (fun p52=>false) (fun p53=>false))))) (fun _=>false)))))))
theorem e61 (xa xb xc:List AV):funA c61 0 61 [AV.agg [AV.sl [.int .i64] xa,AV.sl [.int .i64] xb,AV.sl [.int .i64,.int .i64] xc]]=(bif q79 xa then (bif !(v79_0 xa) then some (AV.bool false)
 else (bif !decide ((xb.length:Int)=(xa.length:Int)) then some (AV.bool false)
 else (bif q106 xb 0 999 then (bif !(v106_0 xb 0 999) then some (AV.bool false)
 else (bif decide ((xc.length:Int) > 2001) then some (AV.bool false)
 else (ro (runW (R61_0 xb (xb.length:Int) xa xb xc) (((xb.length:Int) - 0:Int).toNat+1) 0) none (sumE (fun _=>(ro (runW (R61_2 xc (xc.length:Int) xa xb xc) (((xc.length:Int) - 0:Int).toNat+1) 0) none (sumE (fun _=>some (AV.bool true)) (sumE (fun p52=>some (AV.bool false)) (fun p53=>some (AV.bool false)))))) (fun _=>some (AV.bool false))))))
 else none)))
 else none):=by kernel_rfl
theorem r61 (xa xb xc:List AV) (h:q61 xa xb xc=true):funA c61 0 61 [AV.agg [AV.sl [.int .i64] xa,AV.sl [.int .i64] xb,AV.sl [.int .i64,.int .i64] xc]]=some (AV.bool (v61_0 xa xb xc)):=by
 refine (e61 xa xb xc).trans ?_
 unfold q61 at h
 unfold v61_0
 refine ifG (fun hc=>?_) (fun hc=>?_) <;> first|rw [hc] at h ⊢|rw [hc] at h|rw [hc]|skip
 ·refine ifG (fun hc=>?_) (fun hc=>?_) <;> first|rw [hc] at h ⊢|rw [hc] at h|rw [hc]|skip
  ·rfl
  ·refine ifG (fun hc=>?_) (fun hc=>?_) <;> first|rw [hc] at h ⊢|rw [hc] at h|rw [hc]|skip
   ·rfl
   ·refine ifG (fun hc=>?_) (fun hc=>?_) <;> first|rw [hc] at h ⊢|rw [hc] at h|rw [hc]|skip
    ·refine ifG (fun hc=>?_) (fun hc=>?_) <;> first|rw [hc] at h ⊢|rw [hc] at h|rw [hc]|skip
     ·rfl
     ·refine ifG (fun hc=>?_) (fun hc=>?_) <;> first|rw [hc] at h ⊢|rw [hc] at h|rw [hc]|skip
      ·rfl
      ·refine roG (fun hc=>?_) (fun r hc=>?_) <;> first|rw [hc] at h ⊢|rw [hc] at h|rw [hc]|skip
       ·exact Bool.noConfusion h
       ·try simp only [ro] at h ⊢
        cases r with
        | inl _ =>
         try simp only [sumE] at h ⊢
         refine roG (fun hc=>?_) (fun r hc=>?_) <;> first|rw [hc] at h ⊢|rw [hc] at h|rw [hc]|skip
         ·exact Bool.noConfusion h
         ·try simp only [ro] at h ⊢
          cases r with
          | inl _ =>
           try simp only [sumE] at h ⊢
           rfl
          | inr r =>
           try simp only [sumE] at h ⊢
           cases r with
           | inl p52 =>
            try simp only [sumE] at h ⊢
            rfl
           | inr p53 =>
            try simp only [sumE] at h ⊢
            rfl
        | inr _ =>
         try simp only [sumE] at h ⊢
         rfl
    ·first|exact Bool.noConfusion h|exact Bool.noConfusion hc
 ·first|exact Bool.noConfusion h|exact Bool.noConfusion hc
def m61:TModel
 | [.agg [.sl g0 xa,.sl g1 xb,.sl g2 xc]]=>bif ctsEq g0 ([.int .i64]) && ctsEq g1 ([.int .i64]) && ctsEq g2 ([.int .i64,.int .i64]) then some (q61 xa xb xc,AV.bool (v61_0 xa xb xc)) else none
 | _=>none
theorem k61:Known Tryz.prog 61:=⟨Tryz.f61,Tryz.func61,by kernel_rfl,by kernel_rfl⟩
theorem meets61:Meets Tryz.prog 61 m61:=by
 refine mt (lvl:=0) (cf:=c61) rfl mixed k61 Tryz.func61 (by kernel_rfl) (loops_cons ok61_0 (loops_cons ok61_2 (loops_cons ok61_4 noLoop))) (allT_cons meets48 (allT_cons meets79 (allT_cons meets106 (allT_cons meets107 allT_nil)))) allM_nil noI fun xs r h=>?_
 unfold m61 at h
 split at h
 ·rename_i g0 xa g1 xb g2 xc
  obtain ⟨hg,h⟩:=bif_pair h
  simp only [Bool.and_eq_true] at hg
  obtain ⟨⟨q0,q1⟩,q2⟩:=hg
  obtain rfl:=cE q0
  obtain rfl:=cE q1
  obtain rfl:=cE q2
  obtain ⟨h1,rfl⟩:=pair_inj h
  exact r61 xa xb xc h1
 ·cases h
noncomputable def c208:Cfg:=cfg Tryz.prog [(208,999,[2])] [] [] [] []
def q208 (a0:Int):Bool:=(!decide (10007=0) && (bif decide (Int.tmod a0 10007<0) then !decide (10007=0) else !decide (10007=0)))
def v208_0 (a0:Int):Int:=(bif decide (Int.tmod a0 10007<0) then Int.tmod (IntKind.i64.wrap (IntKind.i64.wrap (IntKind.i64.wrap (Int.tmod a0 10007+10007)*1103)+2345)) 10007 else Int.tmod (IntKind.i64.wrap (IntKind.i64.wrap (Int.tmod a0 10007*1103)+2345)) 10007)
theorem e208 (a0:Int):funA c208 0 208 [Ai a0]=(bif !decide (10007=0) then (bif decide (Int.tmod a0 10007<0) then (bif !decide (10007=0) then some (Ai (Int.tmod (IntKind.i64.wrap (IntKind.i64.wrap (IntKind.i64.wrap (Int.tmod a0 10007+10007)*1103)+2345)) 10007))
 else none)
 else (bif !decide (10007=0) then some (Ai (Int.tmod (IntKind.i64.wrap (IntKind.i64.wrap (Int.tmod a0 10007*1103)+2345)) 10007))
 else none))
 else none):=by kernel_rfl
def m208:TModel
 | [.int .i64 a0]=>some (q208 a0,AV.int .i64 (v208_0 a0))
 | _=>none
theorem k208:Known Tryz.prog 208:=⟨Tryz.f208,Tryz.func208,by kernel_rfl,by kernel_rfl⟩
theorem meets208:Meets Tryz.prog 208 m208:=by
 refine mt (lvl:=0) (cf:=c208) rfl mixed k208 Tryz.func208 (by kernel_rfl) noLoop allT_nil allM_nil noI fun xs r h=>?_
 unfold m208 at h
 split at h
 ·rename_i a0
  obtain ⟨h1,rfl⟩:=pair_inj h
  exact (e208 a0).trans ((brL (br (fun b=>some (Ai (bif b then Int.tmod (IntKind.i64.wrap (IntKind.i64.wrap (IntKind.i64.wrap (Int.tmod a0 10007+10007)*1103)+2345)) 10007 else Int.tmod (IntKind.i64.wrap (IntKind.i64.wrap (Int.tmod a0 10007*1103)+2345)) 10007))) (brL1 (fun _=>rfl)) (brL1 (fun _=>rfl)))) h1)
 ·cases h
noncomputable def c209:Cfg:=cfg Tryz.prog [(209,999,[2])] [(82,m82)] [] [] []
def q209 (a0:List AV):Bool:=(bif decide ((a0.length:Int)=0) then true else (bif decide ((a0.length:Int) > 64) then true else (q82 a0 && (!decide (2=0) && (decide (0≤IntKind.i64.wrap (Int.tdiv (IntKind.i64.wrap ((a0.length:Int) - 1)) 2)) && decide (IntKind.i64.wrap (Int.tdiv (IntKind.i64.wrap ((a0.length:Int) - 1)) 2)<((v82_0 a0).length:Int)))))))
def v209_0 (a0:List AV):Int:=(bif decide ((a0.length:Int)=0) then 0 else (bif decide ((a0.length:Int) > 64) then 0 else fI ((v82_0 a0).getD (IntKind.i64.wrap (Int.tdiv (IntKind.i64.wrap ((a0.length:Int) - 1)) 2)).toNat .undef) 0))
theorem e209 (a0:List AV):funA c209 0 209 [AV.sl [.int .i64] a0]=(bif decide ((a0.length:Int)=0) then some (Ai 0)
 else (bif decide ((a0.length:Int) > 64) then some (Ai 0)
 else (bif q82 a0 then (bif !decide (2=0) then (bif (decide (0≤IntKind.i64.wrap (Int.tdiv (IntKind.i64.wrap ((a0.length:Int) - 1)) 2)) && decide (IntKind.i64.wrap (Int.tdiv (IntKind.i64.wrap ((a0.length:Int) - 1)) 2)<((v82_0 a0).length:Int))) then some (Ai (fI ((v82_0 a0).getD (IntKind.i64.wrap (Int.tdiv (IntKind.i64.wrap ((a0.length:Int) - 1)) 2)).toNat .undef) 0))
 else none)
 else none)
 else none))):=by kernel_rfl
def m209:TModel
 | [.sl g0 a0]=>bif ctsEq g0 ([.int .i64]) then some (q209 a0,AV.int .i64 (v209_0 a0)) else none
 | _=>none
theorem k209:Known Tryz.prog 209:=⟨Tryz.f209,Tryz.func209,by kernel_rfl,by kernel_rfl⟩
theorem meets209:Meets Tryz.prog 209 m209:=by
 refine mt (lvl:=0) (cf:=c209) rfl mixed k209 Tryz.func209 (by kernel_rfl) noLoop (allT_cons meets82 allT_nil) allM_nil noI fun xs r h=>?_
 unfold m209 at h
 split at h
 ·rename_i g0 a0
  obtain ⟨hg,h⟩:=bif_pair h
  have q0:=hg
  obtain rfl:=cE q0
  obtain ⟨h1,rfl⟩:=pair_inj h
  exact (e209 a0).trans ((br (fun b=>some (Ai (bif b then 0 else (bif decide ((a0.length:Int) > 64) then 0 else fI ((v82_0 a0).getD (IntKind.i64.wrap (Int.tdiv (IntKind.i64.wrap ((a0.length:Int) - 1)) 2)).toNat .undef) 0)))) (fun _=>rfl) (br (fun b=>some (Ai (bif b then 0 else fI ((v82_0 a0).getD (IntKind.i64.wrap (Int.tdiv (IntKind.i64.wrap ((a0.length:Int) - 1)) 2)).toNat .undef) 0))) (fun _=>rfl) (brL (brL (brL1 (fun _=>rfl)))))) h1)
 ·cases h
noncomputable def c202:Cfg:=cfg Tryz.prog [(202,999,[8,9])] [(61,m61),(130,m130),(208,m208),(209,m209)] [] [] []
def q202 (xa xb xc:List AV) (ya yb yc a2 a3:Int):Bool:=(q61 xa xb xc && (bif !(v61_0 xa xb xc) then true else (bif !(v130_0 ya yb yc) then true else (bif decide (a2<0) then true else (bif decide (a2 ≥ a3) then true else (bif decide (a3 > (xa.length:Int)) then true else (bif decide (ya=2) then (q208 yc && (!decide (IntKind.i64.wrap (a3 - a2)=0) && (decide (0≤IntKind.i64.wrap (a2+Int.tmod (v208_0 yc) (IntKind.i64.wrap (a3 - a2)))) && decide (IntKind.i64.wrap (a2+Int.tmod (v208_0 yc) (IntKind.i64.wrap (a3 - a2)))<(xa.length:Int))))) else ((decide (0≤a2) && decide (a2≤a3) && decide (a3≤(xa.length:Int))) && q209 ((xa.take (Int.toNat a3)).drop (Int.toNat a2))))))))))
def v202_0 (xa xb xc:List AV) (ya yb yc a2 a3:Int):Int:=(bif !(v61_0 xa xb xc) then 0 else (bif !(v130_0 ya yb yc) then 0 else (bif decide (a2<0) then 0 else (bif decide (a2 ≥ a3) then 0 else (bif decide (a3 > (xa.length:Int)) then 0 else (bif decide (ya=2) then fI (xa.getD (IntKind.i64.wrap (a2+Int.tmod (v208_0 yc) (IntKind.i64.wrap (a3 - a2)))).toNat .undef) 0 else (v209_0 ((xa.take (Int.toNat a3)).drop (Int.toNat a2)))))))))
def v202_1 (xa xb xc:List AV) (ya yb yc a2 a3:Int):Int:=ya
def v202_2 (xa xb xc:List AV) (ya yb yc a2 a3:Int):Int:=yb
def v202_3 (xa xb xc:List AV) (ya yb yc a2 a3:Int):Int:=(bif !(v61_0 xa xb xc) then yc else (bif !(v130_0 ya yb yc) then yc else (bif decide (a2<0) then yc else (bif decide (a2 ≥ a3) then yc else (bif decide (a3 > (xa.length:Int)) then yc else (bif decide (ya=2) then (v208_0 yc) else yc))))))
theorem e202 (xa xb xc:List AV) (ya yb yc a2 a3:Int):funA c202 0 202 [AV.agg [AV.sl [.int .i64] xa,AV.sl [.int .i64] xb,AV.sl [.int .i64,.int .i64] xc],AV.agg [Ai ya,Ai yb,Ai yc],Ai a2,Ai a3]=(bif q61 xa xb xc then (bif !(v61_0 xa xb xc) then some (AV.tup [Ai 0,AV.agg [Ai ya,Ai yb,Ai yc]])
 else (bif !(v130_0 ya yb yc) then some (AV.tup [Ai 0,AV.agg [Ai ya,Ai yb,Ai yc]])
 else (bif decide (a2<0) then some (AV.tup [Ai 0,AV.agg [Ai ya,Ai yb,Ai yc]])
 else (bif decide (a2 ≥ a3) then some (AV.tup [Ai 0,AV.agg [Ai ya,Ai yb,Ai yc]])
 else (bif decide (a3 > (xa.length:Int)) then some (AV.tup [Ai 0,AV.agg [Ai ya,Ai yb,Ai yc]])
 else (bif decide (ya=2) then (bif q208 yc then (bif !decide (IntKind.i64.wrap (a3 - a2)=0) then (bif (decide (0≤IntKind.i64.wrap (a2+Int.tmod (v208_0 yc) (IntKind.i64.wrap (a3 - a2)))) && decide (IntKind.i64.wrap (a2+Int.tmod (v208_0 yc) (IntKind.i64.wrap (a3 - a2)))<(xa.length:Int))) then some (AV.tup [Ai (fI (xa.getD (IntKind.i64.wrap (a2+Int.tmod (v208_0 yc) (IntKind.i64.wrap (a3 - a2)))).toNat .undef) 0),AV.agg [Ai ya,Ai yb,Ai (v208_0 yc)]])
 else none)
 else none)
 else none)
 else (bif (decide (0≤a2) && decide (a2≤a3) && decide (a3≤(xa.length:Int))) then (bif q209 ((xa.take (Int.toNat a3)).drop (Int.toNat a2)) then some (AV.tup [Ai (v209_0 ((xa.take (Int.toNat a3)).drop (Int.toNat a2))),AV.agg [Ai ya,Ai yb,Ai yc]])
 else none)
 else none)))))))
 else none):=by kernel_rfl
theorem r202 (xa xb xc:List AV) (ya yb yc a2 a3:Int) (h:q202 xa xb xc ya yb yc a2 a3=true):funA c202 0 202 [AV.agg [AV.sl [.int .i64] xa,AV.sl [.int .i64] xb,AV.sl [.int .i64,.int .i64] xc],AV.agg [AV.int .i64 ya,AV.int .i64 yb,AV.int .i64 yc],AV.int .i64 a2,AV.int .i64 a3]=some (AV.tup [AV.int .i64 (v202_0 xa xb xc ya yb yc a2 a3),AV.agg [AV.int .i64 (v202_1 xa xb xc ya yb yc a2 a3),AV.int .i64 (v202_2 xa xb xc ya yb yc a2 a3),AV.int .i64 (v202_3 xa xb xc ya yb yc a2 a3)]]):=by
 refine (e202 xa xb xc ya yb yc a2 a3).trans ?_
 unfold q202 at h
 unfold v202_0 v202_1 v202_2 v202_3
 refine ifG (fun hc=>?_) (fun hc=>?_) <;> first|rw [hc] at h ⊢|rw [hc] at h|rw [hc]|skip
 ·refine ifG (fun hc=>?_) (fun hc=>?_) <;> first|rw [hc] at h ⊢|rw [hc] at h|rw [hc]|skip
  ·rfl
  ·refine ifG (fun hc=>?_) (fun hc=>?_) <;> first|rw [hc] at h ⊢|rw [hc] at h|rw [hc]|skip
   ·rfl
   ·refine ifG (fun hc=>?_) (fun hc=>?_) <;> first|rw [hc] at h ⊢|rw [hc] at h|rw [hc]|skip
    ·rfl
    ·refine ifG (fun hc=>?_) (fun hc=>?_) <;> first|rw [hc] at h ⊢|rw [hc] at h|rw [hc]|skip
     ·rfl
     ·refine ifG (fun hc=>?_) (fun hc=>?_) <;> first|rw [hc] at h ⊢|rw [hc] at h|rw [hc]|skip
      ·rfl
      ·refine ifG (fun hc=>?_) (fun hc=>?_) <;> first|rw [hc] at h ⊢|rw [hc] at h|rw [hc]|skip
       ·refine ifG (fun hc=>?_) (fun hc=>?_) <;> first|rw [hc] at h ⊢|rw [hc] at h|rw [hc]|skip
        ·refine ifG (fun hc=>?_) (fun hc=>?_) <;> first|rw [hc] at h ⊢|rw [hc] at h|rw [hc]|skip
         ·refine ifG (fun hc=>?_) (fun hc=>?_) <;> first|rw [hc] at h ⊢|rw [hc] at h|rw [hc]|skip
          ·rfl
          ·first|exact Bool.noConfusion h|exact Bool.noConfusion hc
         ·first|exact Bool.noConfusion h|exact Bool.noConfusion hc
        ·first|exact Bool.noConfusion h|exact Bool.noConfusion hc
       ·refine ifG (fun hc=>?_) (fun hc=>?_) <;> first|rw [hc] at h ⊢|rw [hc] at h|rw [hc]|skip
        ·refine ifG (fun hc=>?_) (fun hc=>?_) <;> first|rw [hc] at h ⊢|rw [hc] at h|rw [hc]|skip
         ·rfl
         ·first|exact Bool.noConfusion h|exact Bool.noConfusion hc
        ·first|exact Bool.noConfusion h|exact Bool.noConfusion hc
 ·first|exact Bool.noConfusion h|exact Bool.noConfusion hc
def m202:TModel
 | [.agg [.sl g0 xa,.sl g1 xb,.sl g2 xc],.agg [.int .i64 ya,.int .i64 yb,.int .i64 yc],.int .i64 a2,.int .i64 a3]=>bif ctsEq g0 ([.int .i64]) && ctsEq g1 ([.int .i64]) && ctsEq g2 ([.int .i64,.int .i64]) then some (q202 xa xb xc ya yb yc a2 a3,AV.tup [AV.int .i64 (v202_0 xa xb xc ya yb yc a2 a3),AV.agg [AV.int .i64 (v202_1 xa xb xc ya yb yc a2 a3),AV.int .i64 (v202_2 xa xb xc ya yb yc a2 a3),AV.int .i64 (v202_3 xa xb xc ya yb yc a2 a3)]]) else none
 | _=>none
theorem k202:Known Tryz.prog 202:=⟨Tryz.f202,Tryz.func202,by kernel_rfl,by kernel_rfl⟩
theorem meets202:Meets Tryz.prog 202 m202:=by
 refine mt (lvl:=0) (cf:=c202) rfl mixed k202 Tryz.func202 (by kernel_rfl) noLoop (allT_cons meets61 (allT_cons meets130 (allT_cons meets208 (allT_cons meets209 allT_nil)))) allM_nil noI fun xs r h=>?_
 unfold m202 at h
 split at h
 ·rename_i g0 xa g1 xb g2 xc ya yb yc a2 a3
  obtain ⟨hg,h⟩:=bif_pair h
  simp only [Bool.and_eq_true] at hg
  obtain ⟨⟨q0,q1⟩,q2⟩:=hg
  obtain rfl:=cE q0
  obtain rfl:=cE q1
  obtain rfl:=cE q2
  obtain ⟨h1,rfl⟩:=pair_inj h
  exact r202 xa xb xc ya yb yc a2 a3 h1
 ·cases h
noncomputable def c109:Cfg:=cfg Tryz.prog [(109,999,[2])] [] [] [] []
def q109 (a0:List AV):Bool:=decide (a0.length*16≤140737488355328) && decide (a0.length≤140737488355328)
def v109_0 (a0:List AV):List AV:=a0
theorem e109 (a0:List AV):funA c109 0 109 [AV.sl [.int .i64,.int .i64] a0]=(bif decide (0<a0.length) then (bif (decide ((([]:List AV).length+a0.length)*16≤140737488355328) && decide ((([]:List AV).length+a0.length)≤140737488355328)) then some (AV.fl [.int .i64,.int .i64] (([]:List AV)++a0))
 else none)
 else none):=by kernel_rfl
theorem e109n (b:Bool):funA c109 0 109 [AV.sle b [.int .i64,.int .i64]]=some (AV.fl [.int .i64,.int .i64] []):=by cases b <;> kernel_rfl
def m109:TModel
 | [.sl g0 a0]=>bif ctsEq g0 [.int .i64,.int .i64] then some (q109 a0,AV.fl [.int .i64,.int .i64] (v109_0 a0)) else none
 | _=>none
theorem k109:Known Tryz.prog 109:=⟨Tryz.f109,Tryz.func109,by kernel_rfl,by kernel_rfl⟩
theorem meets109:Meets Tryz.prog 109 m109:=by
 refine meet_nil (f:=Tryz.f109) (l:=[]) (hs:=[(109,999,[2])]) (ts:=[]) (ws:=[]) (is:=[]) (ls:=[]) (lvl:=0) (tys:=[.int .i64,.int .i64]) mixed k109 Tryz.func109 (by kernel_rfl) noLoop allT_nil allM_nil noI (fun xs r h=>?_) (fun b r h=>?_) (fun ys r h0 h=>?_)
 ·unfold m109 at h
  split at h
  ·rename_i g0 a0
   obtain ⟨hg,h⟩:=bif_pair h
   obtain rfl:=ctsEq_eq _ _ hg
   exact ⟨a0,rfl⟩
  ·cases h
 ·obtain ⟨hg,h⟩:=bif_pair (g:=ctsEq [.int .i64,.int .i64] [.int .i64,.int .i64]) h
  obtain ⟨_,rfl⟩:=pair_inj h
  exact e109n b
 ·obtain ⟨hg,h⟩:=bif_pair (g:=ctsEq [.int .i64,.int .i64] [.int .i64,.int .i64]) h
  obtain ⟨hq,rfl⟩:=pair_inj h
  refine (e109 ys).trans ?_
  unfold q109 at hq
  have e:([]:List AV).length+ys.length=ys.length:=by simp
  rw [e,hq,decide_eq_true h0]
  rfl
noncomputable def c64:Cfg:=cfg Tryz.prog [(64,999,[2])] [(108,m108),(109,m109)] [] [] []
def q64 (xa xb xc:List AV):Bool:=(q108 xa && (q108 xb && q109 xc))
def v64_0 (xa xb xc:List AV):List AV:=(v108_0 xa)
def v64_1 (xa xb xc:List AV):List AV:=(v108_0 xb)
def v64_2 (xa xb xc:List AV):List AV:=(v109_0 xc)
theorem e64 (xa xb xc:List AV):funA c64 0 64 [AV.agg [AV.sl [.int .i64] xa,AV.sl [.int .i64] xb,AV.sl [.int .i64,.int .i64] xc]]=(bif q108 xa then (bif q108 xb then (bif q109 xc then some (AV.agg [AV.fl [.int .i64] (v108_0 xa),AV.fl [.int .i64] (v108_0 xb),AV.fl [.int .i64,.int .i64] (v109_0 xc)])
 else none)
 else none)
 else none):=by kernel_rfl
def m64:TModel
 | [.agg [.sl g0 xa,.sl g1 xb,.sl g2 xc]]=>bif ctsEq g0 ([.int .i64]) && ctsEq g1 ([.int .i64]) && ctsEq g2 ([.int .i64,.int .i64]) then some (q64 xa xb xc,AV.agg [AV.fl [.int .i64] (v64_0 xa xb xc),AV.fl [.int .i64] (v64_1 xa xb xc),AV.fl [.int .i64,.int .i64] (v64_2 xa xb xc)]) else none
 | _=>none
theorem k64:Known Tryz.prog 64:=⟨Tryz.f64,Tryz.func64,by kernel_rfl,by kernel_rfl⟩
theorem meets64:Meets Tryz.prog 64 m64:=by
 refine mt (lvl:=0) (cf:=c64) rfl mixed k64 Tryz.func64 (by kernel_rfl) noLoop (allT_cons meets108 (allT_cons meets109 allT_nil)) allM_nil noI fun xs r h=>?_
 unfold m64 at h
 split at h
 ·rename_i g0 xa g1 xb g2 xc
  obtain ⟨hg,h⟩:=bif_pair h
  simp only [Bool.and_eq_true] at hg
  obtain ⟨⟨q0,q1⟩,q2⟩:=hg
  obtain rfl:=cE q0
  obtain rfl:=cE q1
  obtain rfl:=cE q2
  obtain ⟨h1,rfl⟩:=pair_inj h
  exact (e64 xa xb xc).trans ((brL (brL (brL1 (fun _=>rfl)))) h1)
 ·cases h
noncomputable def c163:Cfg:=cfg Tryz.prog [(163,999,[8,9,10]),(163,1000,[1,2])] [] [] [] []
def q163 (a0:List AV) (a1 a2 a3:Int):Bool:=((decide (0≤a1) && decide (a1<(a0.length:Int))) && (bif decide (fI (a0.getD a1.toNat .undef) 0<a3) then true else (decide (0≤a2) && decide (a2<(a0.length:Int)))))
def v163_0 (a0:List AV) (a1 a2 a3:Int):Int:=(bif decide (fI (a0.getD a1.toNat .undef) 0<a3) then IntKind.i64.wrap (a1+1) else (bif decide (fI (a0.getD a2.toNat .undef) 0 ≥ a3) then a1 else IntKind.i64.wrap (a1+1)))
def v163_1 (a0:List AV) (a1 a2 a3:Int):Int:=(bif decide (fI (a0.getD a1.toNat .undef) 0<a3) then a2 else IntKind.i64.wrap (a2 - 1))
def v163_2 (a0:List AV) (a1 a2 a3:Int):Bool:=(bif decide (fI (a0.getD a1.toNat .undef) 0<a3) then false else (bif decide (fI (a0.getD a2.toNat .undef) 0 ≥ a3) then false else true))
theorem e163 (a0:List AV) (a1 a2 a3:Int):funA c163 0 163 [AV.sl [.int .i64] a0,Ai a1,Ai a2,Ai a3]=(bif (decide (0≤a1) && decide (a1<(a0.length:Int))) then (bif decide (fI (a0.getD a1.toNat .undef) 0<a3) then some (AV.tup [Ai (IntKind.i64.wrap (a1+1)),Ai a2,AV.bool false])
 else (bif (decide (0≤a2) && decide (a2<(a0.length:Int))) then (bif decide (fI (a0.getD a2.toNat .undef) 0 ≥ a3) then some (AV.tup [Ai a1,Ai (IntKind.i64.wrap (a2 - 1)),AV.bool false])
 else some (AV.tup [Ai (IntKind.i64.wrap (a1+1)),Ai (IntKind.i64.wrap (a2 - 1)),AV.bool true]))
 else none))
 else none):=by kernel_rfl
def m163:TModel
 | [.sl g0 a0,.int .i64 a1,.int .i64 a2,.int .i64 a3]=>bif ctsEq g0 ([.int .i64]) then some (q163 a0 a1 a2 a3,AV.tup [AV.int .i64 (v163_0 a0 a1 a2 a3),AV.int .i64 (v163_1 a0 a1 a2 a3),AV.bool (v163_2 a0 a1 a2 a3)]) else none
 | _=>none
theorem k163:Known Tryz.prog 163:=⟨Tryz.f163,Tryz.func163,by kernel_rfl,by kernel_rfl⟩
theorem meets163:Meets Tryz.prog 163 m163:=by
 refine mt (lvl:=0) (cf:=c163) rfl mixed k163 Tryz.func163 (by kernel_rfl) noLoop allT_nil allM_nil noI fun xs r h=>?_
 unfold m163 at h
 split at h
 ·rename_i g0 a0 a1 a2 a3
  obtain ⟨hg,h⟩:=bif_pair h
  have q0:=hg
  obtain rfl:=cE q0
  obtain ⟨h1,rfl⟩:=pair_inj h
  exact (e163 a0 a1 a2 a3).trans ((brL (br (fun b=>some (AV.tup [Ai (bif b then IntKind.i64.wrap (a1+1) else (bif decide (fI (a0.getD a2.toNat .undef) 0 ≥ a3) then a1 else IntKind.i64.wrap (a1+1))),Ai (bif b then a2 else IntKind.i64.wrap (a2 - 1)),AV.bool (bif b then false else (bif decide (fI (a0.getD a2.toNat .undef) 0 ≥ a3) then false else true))])) (fun _=>rfl) (brL1 (brT (fun b=>some (AV.tup [Ai (bif b then a1 else IntKind.i64.wrap (a1+1)),Ai (IntKind.i64.wrap (a2 - 1)),AV.bool (bif b then false else true)])) (fun _=>rfl) (fun _=>rfl))))) h1)
 ·cases h
def G144_0 {β:Type} (t3:Int) (t12:Int) (t13:Int) (h0:List AV) (h1:List AV) (N:((Int × Int × (List AV) × (List AV)))→β) (K:((Int × (List AV) × (List AV)))→β) (d:β):β:=(bif decide (t12≤t13) then (bif q163 h0 t12 t13 t3 then (bif (v163_2 h0 t12 t13 t3) then (bif (decide (0≤t13) && decide (t13<(h0.length:Int))) then (bif (decide (0≤t12) && decide (t12<(h0.length:Int))) then (bif (decide (0≤t12) && decide (t12<(h0.length:Int))) then (bif (decide (0≤t13) && decide (t13<((h0.set t12.toNat (AV.agg [AV.int .i64 (fI (h0.getD t13.toNat .undef) 0)])).length:Int))) then (bif (decide ((h1.length+([AV.agg [AV.int .i64 t12,AV.int .i64 t13]]).length)*16≤140737488355328) && decide ((h1.length+([AV.agg [AV.int .i64 t12,AV.int .i64 t13]]).length)≤140737488355328)) then N ((v163_0 h0 t12 t13 t3),(v163_1 h0 t12 t13 t3),(h0.set t12.toNat (AV.agg [AV.int .i64 (fI (h0.getD t13.toNat .undef) 0)])).set t13.toNat (AV.agg [AV.int .i64 (fI (h0.getD t12.toNat .undef) 0)]),h1++([AV.agg [AV.int .i64 t12,AV.int .i64 t13]]))
 else d)
 else d)
 else d)
 else d)
 else d)
 else N ((v163_0 h0 t12 t13 t3),(v163_1 h0 t12 t13 t3),h0,h1))
 else d)
 else K (t12,h0,h1))
def F144_0 (t3 t12 t13:Int) (h0 h1:List AV):Out ((Int × Int × (List AV) × (List AV))) ((Int × (List AV) × (List AV))):=G144_0 t3 t12 t13 h0 h1 .next .stop .fail
def R144_0 (t3:Int):((Int × Int × (List AV) × (List AV)))→Out ((Int × Int × (List AV) × (List AV))) ((Int × (List AV) × (List AV))):=fun s:Int × Int × (List AV) × (List AV)=>F144_0 t3 s.1 s.2.1 s.2.2.1 s.2.2.2
def E144_0 (t3:Int):((Int × Int × (List AV) × (List AV)))→St:=fun s:Int × Int × (List AV) × (List AV)=>⟨[(3,Ai t3),(10,AV.own [0,10]),(11,AV.own [0,11]),(12,Ai s.1),(13,Ai s.2.1)],[([0,10],⟨false,[.int .i64],s.2.2.1⟩),([0,11],⟨false,[.int .i64,.int .i64],s.2.2.2⟩)]⟩
def K144_0 (t3:Int) (k:Kont):((Int × (List AV) × (List AV)))→Option AV:=fun p:Int × (List AV) × (List AV)=>k (.exit 0) ⟨[(11,AV.own [0,11]),(12,Ai p.1)],[([0,10],⟨false,[.int .i64],p.2.1⟩),([0,11],⟨false,[.int .i64,.int .i64],p.2.2⟩)]⟩
def l144_0:LModel:=fun _ _ st k=>match st with
 | ⟨[(3,.int .i64 t3),(10,.own g0),(11,.own g1),(12,.int .i64 t12),(13,.int .i64 t13)],[(g2,⟨false,g3,h0⟩),(g4,⟨false,g5,h1⟩)]⟩=>bif nmEq g0 ([0,10]) && nmEq g1 ([0,11]) && nmEq g2 ([0,10]) && ctsEq g3 ([.int .i64]) && nmEq g4 ([0,11]) && ctsEq g5 ([.int .i64,.int .i64]) then ro (runW (R144_0 t3) ((t13 - t12+1:Int).toNat+1) (t12,t13,h0,h1)) none (K144_0 t3 k) else none
 | _=>none
noncomputable def c144:Cfg:=cfg Tryz.prog [(144,0,[3,10,11,12,13]),(144,999,[8,9]),(144,1000,[11,12]),(144,1001,[3,10,11,12,13])] [(108,m108),(163,m163)] [] [] [(144,0,l144_0)]
theorem s144_0 (t3:Int) (ce:CallE) (k:Kont) (s:Int × Int × (List AV) × (List AV)) (next:St→Option AV):stepA (codeA c144 ce [] 144 0 (sub [1,1,1,1,0,0,0] (body Tryz.f144))) (normA [] [3,10,11,12,13]) next ((E144_0 t3) s) k=G144_0 t3 s.1 s.2.1 s.2.2.1 s.2.2.2 (fun s=>next ((E144_0 t3) s)) (K144_0 t3 k) none:=by kernel_rfl
theorem st144_0 (t3:Int) (ce:CallE) (k:Kont) (s:(Int × Int × (List AV) × (List AV))) (next:St→Option AV):stepA (codeA c144 ce [] 144 0 (sub [1,1,1,1,0,0,0] (body Tryz.f144))) (normA [] [3,10,11,12,13]) next ((E144_0 t3) s) k=(R144_0 t3 s).el none (fun s=>next ((E144_0 t3) s)) (K144_0 t3 k):=(s144_0 t3 ce k s next).trans (by unfold R144_0;unfold F144_0 G144_0;simp only [el_cond,el_ro,el_sum,el_fail,el_next,el_stop] <;> rfl)
theorem ok144_0 {ce:CallE}:LoopOK c144 ce [] 144 0 (sub [1,1,1,1,0,0,0] (body Tryz.f144)):=by
 intro m hm st k r h
 obtain rfl:l144_0=m:=Option.some.inj hm
 unfold l144_0 at h
 split at h
 ·rename_i t3 g0 g1 t12 t13 g2 g3 h0 g4 g5 h1
  obtain ⟨hg,h⟩:=bif_some h
  simp only [Bool.and_eq_true] at hg
  obtain ⟨⟨⟨⟨⟨q0,q1⟩,q2⟩,q3⟩,q4⟩,q5⟩:=hg
  obtain rfl:=nE q0
  obtain rfl:=nE q1
  obtain rfl:=nE q2
  obtain rfl:=cE q3
  obtain rfl:=nE q4
  obtain rfl:=cE q5
  refine ⟨((t13 - t12+1:Int).toNat+1),?_⟩
  rw [← h]
  exact loop_run (E144_0 t3) (K144_0 t3 k) (st144_0 t3 ce k) _ (t12,t13,h0,h1)
 ·cases h
def q144 (a0:List AV) (a1 a2 a3:Int):Bool:=(bif decide (a1<0) then true else (bif decide (a1 > a2) then true else (bif decide (a2 > (a0.length:Int)) then true else (q108 a0 && (ro (runW (R144_0 a3) (((IntKind.i64.wrap (a2 - 1)) - a1+1:Int).toNat+1) (a1,IntKind.i64.wrap (a2 - 1),(v108_0 a0),([]:List AV))) false (fun p55=>true))))))
def v144_0 (a0:List AV) (a1 a2 a3:Int):List AV:=(bif decide (a1<0) then ([]:List AV) else (bif decide (a1 > a2) then ([]:List AV) else (bif decide (a2 > (a0.length:Int)) then ([]:List AV) else (ro (runW (R144_0 a3) (((IntKind.i64.wrap (a2 - 1)) - a1+1:Int).toNat+1) (a1,IntKind.i64.wrap (a2 - 1),(v108_0 a0),([]:List AV))) [] (fun p55=>p55.2.2)))))
def v144_1 (a0:List AV) (a1 a2 a3:Int):Int:=(bif decide (a1<0) then 0 else (bif decide (a1 > a2) then 0 else (bif decide (a2 > (a0.length:Int)) then 0 else (ro (runW (R144_0 a3) (((IntKind.i64.wrap (a2 - 1)) - a1+1:Int).toNat+1) (a1,IntKind.i64.wrap (a2 - 1),(v108_0 a0),([]:List AV))) 0 (fun p55=>p55.1)))))
theorem e144 (a0:List AV) (a1 a2 a3:Int):funA c144 0 144 [AV.sl [.int .i64] a0,Ai a1,Ai a2,Ai a3]=(bif decide (a1<0) then some (AV.tup [AV.fl [.int .i64,.int .i64] ([]:List AV),Ai 0])
 else (bif decide (a1 > a2) then some (AV.tup [AV.fl [.int .i64,.int .i64] ([]:List AV),Ai 0])
 else (bif decide (a2 > (a0.length:Int)) then some (AV.tup [AV.fl [.int .i64,.int .i64] ([]:List AV),Ai 0])
 else (bif q108 a0 then (ro (runW (R144_0 a3) (((IntKind.i64.wrap (a2 - 1)) - a1+1:Int).toNat+1) (a1,IntKind.i64.wrap (a2 - 1),(v108_0 a0),([]:List AV))) none (fun p55=>some (AV.tup [AV.fl [.int .i64,.int .i64] p55.2.2,Ai p55.1])))
 else none)))):=by kernel_rfl
theorem r144 (a0:List AV) (a1 a2 a3:Int) (h:q144 a0 a1 a2 a3=true):funA c144 0 144 [AV.sl [.int .i64] a0,AV.int .i64 a1,AV.int .i64 a2,AV.int .i64 a3]=some (AV.tup [AV.fl [.int .i64,.int .i64] (v144_0 a0 a1 a2 a3),AV.int .i64 (v144_1 a0 a1 a2 a3)]):=by
 refine (e144 a0 a1 a2 a3).trans ?_
 unfold q144 at h
 unfold v144_0 v144_1
 refine ifG (fun hc=>?_) (fun hc=>?_) <;> first|rw [hc] at h ⊢|rw [hc] at h|rw [hc]|skip
 ·rfl
 ·refine ifG (fun hc=>?_) (fun hc=>?_) <;> first|rw [hc] at h ⊢|rw [hc] at h|rw [hc]|skip
  ·rfl
  ·refine ifG (fun hc=>?_) (fun hc=>?_) <;> first|rw [hc] at h ⊢|rw [hc] at h|rw [hc]|skip
   ·rfl
   ·refine ifG (fun hc=>?_) (fun hc=>?_) <;> first|rw [hc] at h ⊢|rw [hc] at h|rw [hc]|skip
    ·refine roG (fun hc=>?_) (fun r hc=>?_) <;> first|rw [hc] at h ⊢|rw [hc] at h|rw [hc]|skip
     ·exact Bool.noConfusion h
     ·try simp only [ro] at h ⊢
      rfl
    ·first|exact Bool.noConfusion h|exact Bool.noConfusion hc
def m144:TModel
 | [.sl g0 a0,.int .i64 a1,.int .i64 a2,.int .i64 a3]=>bif ctsEq g0 ([.int .i64]) then some (q144 a0 a1 a2 a3,AV.tup [AV.fl [.int .i64,.int .i64] (v144_0 a0 a1 a2 a3),AV.int .i64 (v144_1 a0 a1 a2 a3)]) else none
 | _=>none
theorem k144:Known Tryz.prog 144:=⟨Tryz.f144,Tryz.func144,by kernel_rfl,by kernel_rfl⟩
theorem meets144:Meets Tryz.prog 144 m144:=by
 refine mt (lvl:=0) (cf:=c144) rfl mixed k144 Tryz.func144 (by kernel_rfl) (loops_cons ok144_0 noLoop) (allT_cons meets108 (allT_cons meets163 allT_nil)) allM_nil noI fun xs r h=>?_
 unfold m144 at h
 split at h
 ·rename_i g0 a0 a1 a2 a3
  obtain ⟨hg,h⟩:=bif_pair h
  have q0:=hg
  obtain rfl:=cE q0
  obtain ⟨h1,rfl⟩:=pair_inj h
  exact r144 a0 a1 a2 a3 h1
 ·cases h
def G145_0 {β:Type} (t7:Int) (t21:List AV) (t22:Int) (h2_0:List AV) (h2_1:List AV) (h2_2:List AV) (h3:List AV) (t23:Int) (h0:List AV) (h1:List AV) (N:((Int × (List AV) × (List AV)))→β) (K:(((List AV) × (List AV)) ⊕ ((List AV) × (List AV) × (List AV) × (List AV) × Int × Int × (List AV)))→β) (d:β):β:=by
 refine (?f0:(List AV)→(List AV)→(List AV)→β) (v64_0 h2_0 h2_1 h2_2) (v64_1 h2_0 h2_1 h2_2) (v64_2 h2_0 h2_1 h2_2);intro x1 x2 x3
 exact (bif decide (t23<t22) then (bif (decide (0≤t23) && decide (t23<(t21.length:Int))) then (bif decide (fI (t21.getD t23.toNat .undef) 0<0) then (bif q64 h2_0 h2_1 h2_2 then K (.inr (h0,h1,x1,x2,fI (t21.getD t23.toNat .undef) 0,fI (t21.getD t23.toNat .undef) 1,x3))
 else d)
 else (bif decide (fI (t21.getD t23.toNat .undef) 0 ≥ t7) then (bif q64 h2_0 h2_1 h2_2 then K (.inr (h0,h1,x1,x2,fI (t21.getD t23.toNat .undef) 0,fI (t21.getD t23.toNat .undef) 1,x3))
 else d)
 else (bif decide (fI (t21.getD t23.toNat .undef) 1<0) then (bif q64 h2_0 h2_1 h2_2 then K (.inr (h0,h1,x1,x2,fI (t21.getD t23.toNat .undef) 0,fI (t21.getD t23.toNat .undef) 1,x3))
 else d)
 else (bif decide (fI (t21.getD t23.toNat .undef) 1 ≥ t7) then (bif q64 h2_0 h2_1 h2_2 then K (.inr (h0,h1,x1,x2,fI (t21.getD t23.toNat .undef) 0,fI (t21.getD t23.toNat .undef) 1,x3))
 else d)
 else (bif (decide (0≤fI (t21.getD t23.toNat .undef) 1) && decide (fI (t21.getD t23.toNat .undef) 1<(h0.length:Int))) then (bif (decide (0≤fI (t21.getD t23.toNat .undef) 0) && decide (fI (t21.getD t23.toNat .undef) 0<(h0.length:Int))) then (bif (decide (0≤fI (t21.getD t23.toNat .undef) 0) && decide (fI (t21.getD t23.toNat .undef) 0<(h0.length:Int))) then (bif (decide (0≤fI (t21.getD t23.toNat .undef) 1) && decide (fI (t21.getD t23.toNat .undef) 1<((h0.set (fI (t21.getD t23.toNat .undef) 0).toNat (AV.agg [AV.int .i64 (fI (h0.getD (fI (t21.getD t23.toNat .undef) 1).toNat .undef) 0)])).length:Int))) then (bif (decide (0≤fI (t21.getD t23.toNat .undef) 1) && decide (fI (t21.getD t23.toNat .undef) 1<(h1.length:Int))) then (bif (decide (0≤fI (t21.getD t23.toNat .undef) 0) && decide (fI (t21.getD t23.toNat .undef) 0<(h1.length:Int))) then (bif (decide (0≤fI (t21.getD t23.toNat .undef) 0) && decide (fI (t21.getD t23.toNat .undef) 0<(h1.length:Int))) then (bif (decide (0≤fI (t21.getD t23.toNat .undef) 1) && decide (fI (t21.getD t23.toNat .undef) 1<((h1.set (fI (t21.getD t23.toNat .undef) 0).toNat (AV.agg [AV.int .i64 (fI (h1.getD (fI (t21.getD t23.toNat .undef) 1).toNat .undef) 0)])).length:Int))) then N (IntKind.i64.wrap (t23+1),(h0.set (fI (t21.getD t23.toNat .undef) 0).toNat (AV.agg [AV.int .i64 (fI (h0.getD (fI (t21.getD t23.toNat .undef) 1).toNat .undef) 0)])).set (fI (t21.getD t23.toNat .undef) 1).toNat (AV.agg [AV.int .i64 (fI (h0.getD (fI (t21.getD t23.toNat .undef) 0).toNat .undef) 0)]),(h1.set (fI (t21.getD t23.toNat .undef) 0).toNat (AV.agg [AV.int .i64 (fI (h1.getD (fI (t21.getD t23.toNat .undef) 1).toNat .undef) 0)])).set (fI (t21.getD t23.toNat .undef) 1).toNat (AV.agg [AV.int .i64 (fI (h1.getD (fI (t21.getD t23.toNat .undef) 0).toNat .undef) 0)]))
 else d)
 else d)
 else d)
 else d)
 else d)
 else d)
 else d)
 else d)))))
 else d)
 else K (.inl (h0,h1)))
def F145_0 (t7:Int) (t21:List AV) (t22:Int) (h2_0 h2_1 h2_2 h3:List AV) (t23:Int) (h0 h1:List AV):Out ((Int × (List AV) × (List AV))) (((List AV) × (List AV)) ⊕ ((List AV) × (List AV) × (List AV) × (List AV) × Int × Int × (List AV))):=G145_0 t7 t21 t22 h2_0 h2_1 h2_2 h3 t23 h0 h1 .next .stop .fail
def R145_0 (t7:Int) (t21:List AV) (t22:Int) (h2_0 h2_1 h2_2 h3:List AV):((Int × (List AV) × (List AV)))→Out ((Int × (List AV) × (List AV))) (((List AV) × (List AV)) ⊕ ((List AV) × (List AV) × (List AV) × (List AV) × Int × Int × (List AV))):=fun s:Int × (List AV) × (List AV)=>F145_0 t7 t21 t22 h2_0 h2_1 h2_2 h3 s.1 s.2.1 s.2.2
def E145_0 (t7:Int) (t21:List AV) (t22:Int) (h2_0 h2_1 h2_2 h3:List AV):((Int × (List AV) × (List AV)))→St:=fun s:Int × (List AV) × (List AV)=>⟨[(2,AV.ptr [0,2] 0 0),(4,AV.ptr [0,4] 0 0),(6,AV.ptr [0,6] 0 0),(7,Ai t7),(21,AV.sl [.int .i64,.int .i64] t21),(22,Ai t22),(23,Ai s.1)],[([0,0,6],⟨false,[.int .i64],s.2.1⟩),([0,1,6],⟨false,[.int .i64],s.2.2⟩),([0,2],⟨true,[],[AV.agg [AV.sl [.int .i64] h2_0,AV.sl [.int .i64] h2_1,AV.sl [.int .i64,.int .i64] h2_2]]⟩),([0,2,6],⟨false,[.int .i64,.int .i64],h3⟩),([0,4],⟨true,[],[AV.agg [AV.snil,AV.snil,AV.snil]]⟩),([0,6],⟨true,[],[AV.agg [AV.own [0,0,6],AV.own [0,1,6],AV.own [0,2,6]]]⟩)]⟩
def K145_0 (t7:Int) (t21:List AV) (t22:Int) (h2_0 h2_1 h2_2 h3:List AV) (k:Kont):(((List AV) × (List AV)) ⊕ ((List AV) × (List AV) × (List AV) × (List AV) × Int × Int × (List AV)))→Option AV:=sumE (fun p:(List AV) × (List AV)=>k (.exit 0) ⟨[(4,AV.ptr [0,4] 0 0),(6,AV.ptr [0,6] 0 0)],[([0,0,6],⟨false,[.int .i64],p.1⟩),([0,1,6],⟨false,[.int .i64],p.2⟩),([0,2],⟨true,[],[AV.agg [AV.sl [.int .i64] h2_0,AV.sl [.int .i64] h2_1,AV.sl [.int .i64,.int .i64] h2_2]]⟩),([0,2,6],⟨false,[.int .i64,.int .i64],h3⟩),([0,4],⟨true,[],[AV.agg [AV.snil,AV.snil,AV.snil]]⟩),([0,6],⟨true,[],[AV.agg [AV.own [0,0,6],AV.own [0,1,6],AV.own [0,2,6]]]⟩)]⟩) (fun p:(List AV) × (List AV) × (List AV) × (List AV) × Int × Int × (List AV)=>k .ret ⟨[(4,AV.ptr [0,4] 0 0),(5,AV.bool false)],[([0,0,6],⟨false,[.int .i64],p.1⟩),([0,1,6],⟨false,[.int .i64],p.2.1⟩),([0,1,48],⟨false,[.int .i64],p.2.2.1⟩),([0,2],⟨true,[],[AV.agg [AV.sl [.int .i64] h2_0,AV.sl [.int .i64] h2_1,AV.sl [.int .i64,.int .i64] h2_2]]⟩),([0,2,6],⟨false,[.int .i64,.int .i64],h3⟩),([0,4],⟨true,[],[AV.agg [AV.own [0,1,48],AV.own [1,1,48],AV.own [2,1,48]]]⟩),([0,6],⟨true,[],[AV.agg [AV.own [0,0,6],AV.own [0,1,6],AV.own [0,2,6]]]⟩),([1,1,48],⟨false,[.int .i64],p.2.2.2.1⟩),([1,9],⟨true,[],[AV.agg [Ai p.2.2.2.2.1,Ai p.2.2.2.2.2.1]]⟩),([2,1,48],⟨false,[.int .i64,.int .i64],p.2.2.2.2.2.2⟩)]⟩)
def l145_0:LModel:=fun _ _ st k=>match st with
 | ⟨[(2,.ptr g0 g1 g2),(4,.ptr g3 g4 g5),(6,.ptr g6 g7 g8),(7,.int .i64 t7),(21,.sl g9 t21),(22,.int .i64 t22),(23,.int .i64 t23)],[(g10,⟨false,g11,h0⟩),(g12,⟨false,g13,h1⟩),(g14,⟨true,[],[.agg [.sl g15 h2_0,.sl g16 h2_1,.sl g17 h2_2]]⟩),(g18,⟨false,g19,h3⟩),(g20,⟨true,[],[.agg [.snil,.snil,.snil]]⟩),(g21,⟨true,[],[.agg [.own g22,.own g23,.own g24]]⟩)]⟩=>bif nmEq g0 ([0,2]) && Nat.beq g1 0 && Nat.beq g2 0 && nmEq g3 ([0,4]) && Nat.beq g4 0 && Nat.beq g5 0 && nmEq g6 ([0,6]) && Nat.beq g7 0 && Nat.beq g8 0 && ctsEq g9 ([.int .i64,.int .i64]) && nmEq g10 ([0,0,6]) && ctsEq g11 ([.int .i64]) && nmEq g12 ([0,1,6]) && ctsEq g13 ([.int .i64]) && nmEq g14 ([0,2]) && ctsEq g15 ([.int .i64]) && ctsEq g16 ([.int .i64]) && ctsEq g17 ([.int .i64,.int .i64]) && nmEq g18 ([0,2,6]) && ctsEq g19 ([.int .i64,.int .i64]) && nmEq g20 ([0,4]) && nmEq g21 ([0,6]) && nmEq g22 ([0,0,6]) && nmEq g23 ([0,1,6]) && nmEq g24 ([0,2,6]) then ro (runW (R145_0 t7 t21 t22 h2_0 h2_1 h2_2 h3) ((t22 - t23:Int).toNat+1) (t23,h0,h1)) none (K145_0 t7 t21 t22 h2_0 h2_1 h2_2 h3 k) else none
 | _=>none
noncomputable def c145:Cfg:=cfg Tryz.prog [(145,0,[2,4,6,7,21,22,23]),(145,999,[4,5]),(145,1000,[4,6]),(145,1001,[2,4,6,7,21,22,23])] [(64,m64)] [] [] [(145,0,l145_0)]
theorem s145_0 (t7:Int) (t21:List AV) (t22:Int) (h2_0 h2_1 h2_2 h3:List AV) (ce:CallE) (k:Kont) (s:Int × (List AV) × (List AV)) (next:St→Option AV):stepA (codeA c145 ce [] 145 0 (sub [1,1,1,0,1,0,0] (body Tryz.f145))) (normA [] [2,4,6,7,21,22,23]) next ((E145_0 t7 t21 t22 h2_0 h2_1 h2_2 h3) s) k=G145_0 t7 t21 t22 h2_0 h2_1 h2_2 h3 s.1 s.2.1 s.2.2 (fun s=>next ((E145_0 t7 t21 t22 h2_0 h2_1 h2_2 h3) s)) (K145_0 t7 t21 t22 h2_0 h2_1 h2_2 h3 k) none:=by kernel_rfl
theorem st145_0 (t7:Int) (t21:List AV) (t22:Int) (h2_0 h2_1 h2_2 h3:List AV) (ce:CallE) (k:Kont) (s:(Int × (List AV) × (List AV))) (next:St→Option AV):stepA (codeA c145 ce [] 145 0 (sub [1,1,1,0,1,0,0] (body Tryz.f145))) (normA [] [2,4,6,7,21,22,23]) next ((E145_0 t7 t21 t22 h2_0 h2_1 h2_2 h3) s) k=(R145_0 t7 t21 t22 h2_0 h2_1 h2_2 h3 s).el none (fun s=>next ((E145_0 t7 t21 t22 h2_0 h2_1 h2_2 h3) s)) (K145_0 t7 t21 t22 h2_0 h2_1 h2_2 h3 k):=(s145_0 t7 t21 t22 h2_0 h2_1 h2_2 h3 ce k s next).trans (by unfold R145_0;unfold F145_0 G145_0;simp only [el_cond,el_ro,el_sum,el_fail,el_next,el_stop] <;> rfl)
theorem ok145_0 {ce:CallE}:LoopOK c145 ce [] 145 0 (sub [1,1,1,0,1,0,0] (body Tryz.f145)):=by
 intro m hm st k r h
 obtain rfl:l145_0=m:=Option.some.inj hm
 unfold l145_0 at h
 split at h
 ·rename_i g0 g1 g2 g3 g4 g5 g6 g7 g8 t7 g9 t21 t22 t23 g10 g11 h0 g12 g13 h1 g14 g15 h2_0 g16 h2_1 g17 h2_2 g18 g19 h3 g20 g21 g22 g23 g24
  obtain ⟨hg,h⟩:=bif_some h
  simp only [Bool.and_eq_true] at hg
  obtain ⟨⟨⟨⟨⟨⟨⟨⟨⟨⟨⟨⟨⟨⟨⟨⟨⟨⟨⟨⟨⟨⟨⟨⟨q0,q1⟩,q2⟩,q3⟩,q4⟩,q5⟩,q6⟩,q7⟩,q8⟩,q9⟩,q10⟩,q11⟩,q12⟩,q13⟩,q14⟩,q15⟩,q16⟩,q17⟩,q18⟩,q19⟩,q20⟩,q21⟩,q22⟩,q23⟩,q24⟩:=hg
  obtain rfl:=nE q0
  obtain rfl:=bE q1
  obtain rfl:=bE q2
  obtain rfl:=nE q3
  obtain rfl:=bE q4
  obtain rfl:=bE q5
  obtain rfl:=nE q6
  obtain rfl:=bE q7
  obtain rfl:=bE q8
  obtain rfl:=cE q9
  obtain rfl:=nE q10
  obtain rfl:=cE q11
  obtain rfl:=nE q12
  obtain rfl:=cE q13
  obtain rfl:=nE q14
  obtain rfl:=cE q15
  obtain rfl:=cE q16
  obtain rfl:=cE q17
  obtain rfl:=nE q18
  obtain rfl:=cE q19
  obtain rfl:=nE q20
  obtain rfl:=nE q21
  obtain rfl:=nE q22
  obtain rfl:=nE q23
  obtain rfl:=nE q24
  refine ⟨((t22 - t23:Int).toNat+1),?_⟩
  rw [← h]
  exact loop_run (E145_0 t7 t21 t22 h2_0 h2_1 h2_2 h3) (K145_0 t7 t21 t22 h2_0 h2_1 h2_2 h3 k) (st145_0 t7 t21 t22 h2_0 h2_1 h2_2 h3 ce k) _ (t23,h0,h1)
 ·cases h
def q145 (xa xb xc a1:List AV):Bool:=(q64 xa xb xc && (bif !decide ((xb.length:Int)=(xa.length:Int)) then true else (ro (runW (R145_0 (xa.length:Int) a1 (a1.length:Int) xa xb xc (v64_2 xa xb xc)) (((a1.length:Int) - 0:Int).toNat+1) (0,(v64_0 xa xb xc),(v64_1 xa xb xc))) false (sumE (fun p56=>true) (fun p57=>true)))))
def v145_0 (xa xb xc a1:List AV):List AV:=(bif !decide ((xb.length:Int)=(xa.length:Int)) then (v64_0 xa xb xc) else (ro (runW (R145_0 (xa.length:Int) a1 (a1.length:Int) xa xb xc (v64_2 xa xb xc)) (((a1.length:Int) - 0:Int).toNat+1) (0,(v64_0 xa xb xc),(v64_1 xa xb xc))) [] (sumE (fun p56=>p56.1) (fun p57=>p57.2.2.1))))
def v145_1 (xa xb xc a1:List AV):List AV:=(bif !decide ((xb.length:Int)=(xa.length:Int)) then (v64_1 xa xb xc) else (ro (runW (R145_0 (xa.length:Int) a1 (a1.length:Int) xa xb xc (v64_2 xa xb xc)) (((a1.length:Int) - 0:Int).toNat+1) (0,(v64_0 xa xb xc),(v64_1 xa xb xc))) [] (sumE (fun p56=>p56.2) (fun p57=>p57.2.2.2.1))))
def v145_2 (xa xb xc a1:List AV):List AV:=(bif !decide ((xb.length:Int)=(xa.length:Int)) then (v64_2 xa xb xc) else (ro (runW (R145_0 (xa.length:Int) a1 (a1.length:Int) xa xb xc (v64_2 xa xb xc)) (((a1.length:Int) - 0:Int).toNat+1) (0,(v64_0 xa xb xc),(v64_1 xa xb xc))) [] (sumE (fun p56=>(v64_2 xa xb xc)) (fun p57=>p57.2.2.2.2.2.2))))
def v145_3 (xa xb xc a1:List AV):Bool:=(bif !decide ((xb.length:Int)=(xa.length:Int)) then false else (ro (runW (R145_0 (xa.length:Int) a1 (a1.length:Int) xa xb xc (v64_2 xa xb xc)) (((a1.length:Int) - 0:Int).toNat+1) (0,(v64_0 xa xb xc),(v64_1 xa xb xc))) false (sumE (fun p56=>true) (fun p57=>false))))
theorem e145 (xa xb xc a1:List AV):funA c145 0 145 [AV.agg [AV.sl [.int .i64] xa,AV.sl [.int .i64] xb,AV.sl [.int .i64,.int .i64] xc],AV.sl [.int .i64,.int .i64] a1]=(bif q64 xa xb xc then (bif !decide ((xb.length:Int)=(xa.length:Int)) then some (AV.tup [AV.agg [AV.fl [.int .i64] (v64_0 xa xb xc),AV.fl [.int .i64] (v64_1 xa xb xc),AV.fl [.int .i64,.int .i64] (v64_2 xa xb xc)],AV.bool false])
 else (ro (runW (R145_0 (xa.length:Int) a1 (a1.length:Int) xa xb xc (v64_2 xa xb xc)) (((a1.length:Int) - 0:Int).toNat+1) (0,(v64_0 xa xb xc),(v64_1 xa xb xc))) none (sumE (fun p56=>some (AV.tup [AV.agg [AV.fl [.int .i64] p56.1,AV.fl [.int .i64] p56.2,AV.fl [.int .i64,.int .i64] (v64_2 xa xb xc)],AV.bool true])) (fun p57=>some (AV.tup [AV.agg [AV.fl [.int .i64] p57.2.2.1,AV.fl [.int .i64] p57.2.2.2.1,AV.fl [.int .i64,.int .i64] p57.2.2.2.2.2.2],AV.bool false])))))
 else none):=by kernel_rfl
theorem r145 (xa xb xc a1:List AV) (h:q145 xa xb xc a1=true):funA c145 0 145 [AV.agg [AV.sl [.int .i64] xa,AV.sl [.int .i64] xb,AV.sl [.int .i64,.int .i64] xc],AV.sl [.int .i64,.int .i64] a1]=some (AV.tup [AV.agg [AV.fl [.int .i64] (v145_0 xa xb xc a1),AV.fl [.int .i64] (v145_1 xa xb xc a1),AV.fl [.int .i64,.int .i64] (v145_2 xa xb xc a1)],AV.bool (v145_3 xa xb xc a1)]):=by
 refine (e145 xa xb xc a1).trans ?_
 unfold q145 at h
 unfold v145_0 v145_1 v145_2 v145_3
 refine ifG (fun hc=>?_) (fun hc=>?_) <;> first|rw [hc] at h ⊢|rw [hc] at h|rw [hc]|skip
 ·refine ifG (fun hc=>?_) (fun hc=>?_) <;> first|rw [hc] at h ⊢|rw [hc] at h|rw [hc]|skip
  ·rfl
  ·refine roG (fun hc=>?_) (fun r hc=>?_) <;> first|rw [hc] at h ⊢|rw [hc] at h|rw [hc]|skip
   ·exact Bool.noConfusion h
   ·try simp only [ro] at h ⊢
    cases r with
    | inl p56 =>
     try simp only [sumE] at h ⊢
     rfl
    | inr p57 =>
     try simp only [sumE] at h ⊢
     rfl
 ·first|exact Bool.noConfusion h|exact Bool.noConfusion hc
def m145:TModel
 | [.agg [.sl g0 xa,.sl g1 xb,.sl g2 xc],.sl g3 a1]=>bif ctsEq g0 ([.int .i64]) && ctsEq g1 ([.int .i64]) && ctsEq g2 ([.int .i64,.int .i64]) && ctsEq g3 ([.int .i64,.int .i64]) then some (q145 xa xb xc a1,AV.tup [AV.agg [AV.fl [.int .i64] (v145_0 xa xb xc a1),AV.fl [.int .i64] (v145_1 xa xb xc a1),AV.fl [.int .i64,.int .i64] (v145_2 xa xb xc a1)],AV.bool (v145_3 xa xb xc a1)]) else none
 | _=>none
theorem k145:Known Tryz.prog 145:=⟨Tryz.f145,Tryz.func145,by kernel_rfl,by kernel_rfl⟩
theorem meets145:Meets Tryz.prog 145 m145:=by
 refine mt (lvl:=0) (cf:=c145) rfl mixed k145 Tryz.func145 (by kernel_rfl) (loops_cons ok145_0 noLoop) (allT_cons meets64 allT_nil) allM_nil noI fun xs r h=>?_
 unfold m145 at h
 split at h
 ·rename_i g0 xa g1 xb g2 xc g3 a1
  obtain ⟨hg,h⟩:=bif_pair h
  simp only [Bool.and_eq_true] at hg
  obtain ⟨⟨⟨q0,q1⟩,q2⟩,q3⟩:=hg
  obtain rfl:=cE q0
  obtain rfl:=cE q1
  obtain rfl:=cE q2
  obtain rfl:=cE q3
  obtain ⟨h1,rfl⟩:=pair_inj h
  exact r145 xa xb xc a1 h1
 ·cases h
noncomputable def c165:Cfg:=cfg Tryz.prog [(165,999,[3])] [] [] [] []
def v165_0 (xa xb:Int) (a1:AV):Bool:=decide (xa > fI a1 0)
theorem e165 (xa xb:Int) (a1:AV):funA c165 0 165 [AV.agg [Ai xa,Ai xb],AV.rptr [.int .i64,.int .i64] a1 0]=some (AV.bool (decide (xa > fI a1 0))):=by kernel_rfl
def m165:TModel
 | [.agg [.int .i64 xa,.int .i64 xb],.rptr g0 a1 g1]=>bif ctsEq g0 ([.int .i64,.int .i64]) && Nat.beq g1 0 then some (true,AV.bool (v165_0 xa xb a1)) else none
 | _=>none
theorem k165:Known Tryz.prog 165:=⟨Tryz.f165,Tryz.func165,by kernel_rfl,by kernel_rfl⟩
theorem meets165:Meets Tryz.prog 165 m165:=by
 refine mt (lvl:=0) (cf:=c165) rfl mixed k165 Tryz.func165 (by kernel_rfl) noLoop allT_nil allM_nil noI fun xs r h=>?_
 unfold m165 at h
 split at h
 ·rename_i xa xb g0 a1 g1
  obtain ⟨hg,h⟩:=bif_pair h
  simp only [Bool.and_eq_true] at hg
  obtain ⟨q0,q1⟩:=hg
  obtain rfl:=cE q0
  obtain rfl:=bE q1
  obtain ⟨h1,rfl⟩:=pair_inj h
  exact (e165 xa xb a1).trans (of_tt (fun _=>rfl))
 ·cases h
def G164_0 {β:Type} (t0:List AV) (t1:AV) (t7:Int) (t8:Int) (N:(Int)→β) (K:(Unit ⊕ Int)→β) (d:β):β:=(bif decide (t8<t7) then (bif (decide (0≤t8) && decide (t8<(t0.length:Int))) then (bif (v165_0 (fI (t0.getD t8.toNat .undef) 0) (fI (t0.getD t8.toNat .undef) 1) t1) then K (.inr t8)
 else N (IntKind.i64.wrap (t8+1)))
 else d)
 else K (.inl ()))
def F164_0 (t0:List AV) (t1:AV) (t7 t8:Int):Out (Int) (Unit ⊕ Int):=G164_0 t0 t1 t7 t8 .next .stop .fail
def R164_0 (t0:List AV) (t1:AV) (t7:Int):(Int)→Out (Int) (Unit ⊕ Int):=fun s:Int=>F164_0 t0 t1 t7 s
def E164_0 (t0:List AV) (t1:AV) (t7:Int):(Int)→St:=fun s:Int=>⟨[(0,AV.sl [.int .i64,.int .i64] t0),(1,AV.fn 165 [AV.rptr [.int .i64,.int .i64] t1 0]),(7,Ai t7),(8,Ai s)],[]⟩
def K164_0 (t0:List AV) (t1:AV) (t7:Int) (k:Kont):(Unit ⊕ Int)→Option AV:=sumE (fun _:Unit=>k (.exit 0) ⟨[],[]⟩) (fun p:Int=>k .ret ⟨[(4,Ai p)],[]⟩)
def l164_0:LModel:=fun _ _ st k=>match st with
 | ⟨[(0,.sl g0 t0),(1,.fn g1 [.rptr g2 t1 g3]),(7,.int .i64 t7),(8,.int .i64 t8)],[]⟩=>bif ctsEq g0 ([.int .i64,.int .i64]) && Nat.beq g1 165 && ctsEq g2 ([.int .i64,.int .i64]) && Nat.beq g3 0 then ro (runW (R164_0 t0 t1 t7) ((t7 - t8:Int).toNat+1) t8) none (K164_0 t0 t1 t7 k) else none
 | _=>none
noncomputable def c164:Cfg:=cfg Tryz.prog [(164,0,[0,1,7,8]),(164,999,[4]),(164,1000,[]),(164,1001,[0,1,7,8])] [(165,m165)] [] [] [(164,0,l164_0)]
theorem s164_0 (t0:List AV) (t1:AV) (t7:Int) (ce:CallE) (k:Kont) (s:Int) (next:St→Option AV):stepA (codeA c164 ce [] 164 0 (sub [1,0,1,0,0] (body Tryz.f164))) (normA [] [0,1,7,8]) next ((E164_0 t0 t1 t7) s) k=G164_0 t0 t1 t7 s (fun s=>next ((E164_0 t0 t1 t7) s)) (K164_0 t0 t1 t7 k) none:=by kernel_rfl
theorem st164_0 (t0:List AV) (t1:AV) (t7:Int) (ce:CallE) (k:Kont) (s:Int) (next:St→Option AV):stepA (codeA c164 ce [] 164 0 (sub [1,0,1,0,0] (body Tryz.f164))) (normA [] [0,1,7,8]) next ((E164_0 t0 t1 t7) s) k=(R164_0 t0 t1 t7 s).el none (fun s=>next ((E164_0 t0 t1 t7) s)) (K164_0 t0 t1 t7 k):=(s164_0 t0 t1 t7 ce k s next).trans (by unfold R164_0;unfold F164_0 G164_0;simp only [el_cond,el_ro,el_sum,el_fail,el_next,el_stop] <;> rfl)
theorem ok164_0 {ce:CallE}:LoopOK c164 ce [] 164 0 (sub [1,0,1,0,0] (body Tryz.f164)):=by
 intro m hm st k r h
 obtain rfl:l164_0=m:=Option.some.inj hm
 unfold l164_0 at h
 split at h
 ·rename_i g0 t0 g1 g2 t1 g3 t7 t8
  obtain ⟨hg,h⟩:=bif_some h
  simp only [Bool.and_eq_true] at hg
  obtain ⟨⟨⟨q0,q1⟩,q2⟩,q3⟩:=hg
  obtain rfl:=cE q0
  obtain rfl:=bE q1
  obtain rfl:=cE q2
  obtain rfl:=bE q3
  refine ⟨((t7 - t8:Int).toNat+1),?_⟩
  rw [← h]
  exact loop_run (E164_0 t0 t1 t7) (K164_0 t0 t1 t7 k) (st164_0 t0 t1 t7 ce k) _ t8
 ·cases h
def q164 (a0:List AV) (a1:AV):Bool:=(ro (runW (R164_0 a0 a1 (a0.length:Int)) (((a0.length:Int) - 0:Int).toNat+1) 0) false (sumE (fun _=>true) (fun p59=>true)))
def v164_0 (a0:List AV) (a1:AV):Int:=(ro (runW (R164_0 a0 a1 (a0.length:Int)) (((a0.length:Int) - 0:Int).toNat+1) 0) 0 (sumE (fun _=>(-1)) (fun p59=>p59)))
theorem e164 (a0:List AV) (a1:AV):funA c164 0 164 [AV.sl [.int .i64,.int .i64] a0,AV.fn 165 [AV.rptr [.int .i64,.int .i64] a1 0]]=(ro (runW (R164_0 a0 a1 (a0.length:Int)) (((a0.length:Int) - 0:Int).toNat+1) 0) none (sumE (fun _=>some (Ai (-1))) (fun p59=>some (Ai p59)))):=by kernel_rfl
def m164:TModel
 | [.sl g0 a0,.fn g1 [.rptr g2 a1 g3]]=>bif ctsEq g0 ([.int .i64,.int .i64]) && Nat.beq g1 165 && ctsEq g2 ([.int .i64,.int .i64]) && Nat.beq g3 0 then some (q164 a0 a1,AV.int .i64 (v164_0 a0 a1)) else none
 | _=>none
theorem k164:Known Tryz.prog 164:=⟨Tryz.f164,Tryz.func164,by kernel_rfl,by kernel_rfl⟩
theorem meets164:Meets Tryz.prog 164 m164:=by
 refine mt (lvl:=0) (cf:=c164) rfl mixed k164 Tryz.func164 (by kernel_rfl) (loops_cons ok164_0 noLoop) (allT_cons meets165 allT_nil) allM_nil noI fun xs r h=>?_
 unfold m164 at h
 split at h
 ·rename_i g0 a0 g1 g2 a1 g3
  obtain ⟨hg,h⟩:=bif_pair h
  simp only [Bool.and_eq_true] at hg
  obtain ⟨⟨⟨q0,q1⟩,q2⟩,q3⟩:=hg
  obtain rfl:=cE q0
  obtain rfl:=bE q1
  obtain rfl:=cE q2
  obtain rfl:=bE q3
  obtain ⟨h1,rfl⟩:=pair_inj h
  exact (e164 a0 a1).trans ((brO (fun o:Option (Unit ⊕ Int)=>some (Ai (ro o 0 (sumE (fun _=>(-1)) (fun p59=>p59))))) (brS (fun o:Unit ⊕ Int=>some (Ai ((sumE (fun _=>(-1)) (fun p59=>p59)) o))) (fun _=>(fun _=>rfl)) (fun p59=>(fun _=>rfl)))) h1)
 ·cases h
noncomputable def c146:Cfg:=cfg Tryz.prog [(146,999,[4]),(166,999,[6])] [(64,m64),(164,m164)] [] [166] [] [(166,insA Tryz.prog 26)]
def q146 (xa xb xc:List AV) (ya yb:Int):Bool:=(q64 xa xb xc && (q164 (v64_2 xa xb xc) (AV.agg [AV.int .i64 ya,AV.int .i64 yb]) && (bif decide ((v164_0 (v64_2 xa xb xc) (AV.agg [AV.int .i64 ya,AV.int .i64 yb]))<0) then (decide (0≤((v64_2 xa xb xc).length:Int)) && decide (((v64_2 xa xb xc).length:Int)≤((v64_2 xa xb xc).length:Int)) && decide (((v64_2 xa xb xc).length+1)*16≤140737488355328)) else (decide (0≤(v164_0 (v64_2 xa xb xc) (AV.agg [AV.int .i64 ya,AV.int .i64 yb]))) && decide ((v164_0 (v64_2 xa xb xc) (AV.agg [AV.int .i64 ya,AV.int .i64 yb]))≤((v64_2 xa xb xc).length:Int)) && decide (((v64_2 xa xb xc).length+1)*16≤140737488355328)))))
def v146_0 (xa xb xc:List AV) (ya yb:Int):List AV:=(v64_0 xa xb xc)
def v146_1 (xa xb xc:List AV) (ya yb:Int):List AV:=(v64_1 xa xb xc)
def v146_2 (xa xb xc:List AV) (ya yb:Int):List AV:=(bif decide ((v164_0 (v64_2 xa xb xc) (AV.agg [AV.int .i64 ya,AV.int .i64 yb]))<0) then (v64_2 xa xb xc).take (Int.toNat ((v64_2 xa xb xc).length:Int))++([AV.agg [AV.int .i64 ya,AV.int .i64 yb]])++(v64_2 xa xb xc).drop (Int.toNat ((v64_2 xa xb xc).length:Int)) else (v64_2 xa xb xc).take (Int.toNat (v164_0 (v64_2 xa xb xc) (AV.agg [AV.int .i64 ya,AV.int .i64 yb])))++([AV.agg [AV.int .i64 ya,AV.int .i64 yb]])++(v64_2 xa xb xc).drop (Int.toNat (v164_0 (v64_2 xa xb xc) (AV.agg [AV.int .i64 ya,AV.int .i64 yb]))))
theorem e146 (xa xb xc:List AV) (ya yb:Int):funA c146 1 146 [AV.agg [AV.sl [.int .i64] xa,AV.sl [.int .i64] xb,AV.sl [.int .i64,.int .i64] xc],AV.agg [Ai ya,Ai yb]]=((fun (x1:List AV) (x2:List AV) (x3:List AV)=>((fun (x4:Int)=>(bif q64 xa xb xc then (bif q164 x3 (AV.agg [Ai ya,Ai yb]) then (bif decide (x4<0) then (bif (decide (0≤(x3.length:Int)) && decide ((x3.length:Int)≤(x3.length:Int)) && decide ((x3.length+1)*16≤140737488355328)) then some (AV.agg [AV.fl [.int .i64] x1,AV.fl [.int .i64] x2,AV.fl [.int .i64,.int .i64] (x3.take (Int.toNat (x3.length:Int))++([AV.agg [Ai ya,Ai yb]])++x3.drop (Int.toNat (x3.length:Int)))])
 else none)
 else (bif (decide (0≤x4) && decide (x4≤(x3.length:Int)) && decide ((x3.length+1)*16≤140737488355328)) then some (AV.agg [AV.fl [.int .i64] x1,AV.fl [.int .i64] x2,AV.fl [.int .i64,.int .i64] (x3.take (Int.toNat x4)++([AV.agg [Ai ya,Ai yb]])++x3.drop (Int.toNat x4))])
 else none))
 else none)
 else none)) (v164_0 x3 (AV.agg [Ai ya,Ai yb])))) (v64_0 xa xb xc) (v64_1 xa xb xc) (v64_2 xa xb xc)):=by kernel_rfl
def m146:TModel
 | [.agg [.sl g0 xa,.sl g1 xb,.sl g2 xc],.agg [.int .i64 ya,.int .i64 yb]]=>bif ctsEq g0 ([.int .i64]) && ctsEq g1 ([.int .i64]) && ctsEq g2 ([.int .i64,.int .i64]) then some (q146 xa xb xc ya yb,AV.agg [AV.fl [.int .i64] (v146_0 xa xb xc ya yb),AV.fl [.int .i64] (v146_1 xa xb xc ya yb),AV.fl [.int .i64,.int .i64] (v146_2 xa xb xc ya yb)]) else none
 | _=>none
theorem k146:Known Tryz.prog 146:=⟨Tryz.f146,Tryz.func146,by kernel_rfl,by kernel_rfl⟩
theorem i146_166:InlK Tryz.prog [(146,999,[4]),(166,999,[6])] [(64,m64),(164,m164)] [] [166] [] 166 [(166,insA Tryz.prog 26)]:=⟨⟨Tryz.f166,Tryz.func166,by kernel_rfl,by kernel_rfl⟩,Tryz.f166,[],Tryz.func166,by kernel_rfl,fun ce π=>noLoop⟩
theorem meets146:Meets Tryz.prog 146 m146:=by
 refine mt (hS:=(allS_cons ins166 allS_nil)) (lvl:=1) (cf:=c146) rfl mixed k146 Tryz.func146 (by kernel_rfl) noLoop (allT_cons meets64 (allT_cons meets164 allT_nil)) allM_nil (allI_cons i146_166 noI) fun xs r h=>?_
 unfold m146 at h
 split at h
 ·rename_i g0 xa g1 xb g2 xc ya yb
  obtain ⟨hg,h⟩:=bif_pair h
  simp only [Bool.and_eq_true] at hg
  obtain ⟨⟨q0,q1⟩,q2⟩:=hg
  obtain rfl:=cE q0
  obtain rfl:=cE q1
  obtain rfl:=cE q2
  obtain ⟨h1,rfl⟩:=pair_inj h
  exact (e146 xa xb xc ya yb).trans ((brL (brL (br (fun b=>some (AV.agg [AV.fl [.int .i64] (v64_0 xa xb xc),AV.fl [.int .i64] (v64_1 xa xb xc),AV.fl [.int .i64,.int .i64] (bif b then (v64_2 xa xb xc).take (Int.toNat ((v64_2 xa xb xc).length:Int))++([AV.agg [Ai ya,Ai yb]])++(v64_2 xa xb xc).drop (Int.toNat ((v64_2 xa xb xc).length:Int)) else (v64_2 xa xb xc).take (Int.toNat (v164_0 (v64_2 xa xb xc) (AV.agg [Ai ya,Ai yb])))++([AV.agg [Ai ya,Ai yb]])++(v64_2 xa xb xc).drop (Int.toNat (v164_0 (v64_2 xa xb xc) (AV.agg [Ai ya,Ai yb]))))])) (brL1 (fun _=>rfl)) (brL1 (fun _=>rfl))))) h1)
 ·cases h
noncomputable def c110:Cfg:=cfg Tryz.prog [(110,999,[4,5])] [(64,m64),(142,m142),(143,m143),(144,m144),(145,m145),(146,m146)] [] [] []
def q110 (xa xb xc:List AV) (a1:Int):Bool:=(q142 xa xb xc a1 && (bif (v142_0 xa xb xc a1) then q64 xa xb xc else (q143 xa xb xc a1 && (q144 xa (v143_0 xa xb xc a1) (v143_1 xa xb xc a1) a1 && (q145 xa xb xc (v144_0 xa (v143_0 xa xb xc a1) (v143_1 xa xb xc a1) a1) && q146 (v145_0 xa xb xc (v144_0 xa (v143_0 xa xb xc a1) (v143_1 xa xb xc a1) a1)) (v145_1 xa xb xc (v144_0 xa (v143_0 xa xb xc a1) (v143_1 xa xb xc a1) a1)) (v145_2 xa xb xc (v144_0 xa (v143_0 xa xb xc a1) (v143_1 xa xb xc a1) a1)) a1 (v144_1 xa (v143_0 xa xb xc a1) (v143_1 xa xb xc a1) a1))))))
def v110_0 (xa xb xc:List AV) (a1:Int):List AV:=(bif (v142_0 xa xb xc a1) then (v64_0 xa xb xc) else (v146_0 (v145_0 xa xb xc (v144_0 xa (v143_0 xa xb xc a1) (v143_1 xa xb xc a1) a1)) (v145_1 xa xb xc (v144_0 xa (v143_0 xa xb xc a1) (v143_1 xa xb xc a1) a1)) (v145_2 xa xb xc (v144_0 xa (v143_0 xa xb xc a1) (v143_1 xa xb xc a1) a1)) a1 (v144_1 xa (v143_0 xa xb xc a1) (v143_1 xa xb xc a1) a1)))
def v110_1 (xa xb xc:List AV) (a1:Int):List AV:=(bif (v142_0 xa xb xc a1) then (v64_1 xa xb xc) else (v146_1 (v145_0 xa xb xc (v144_0 xa (v143_0 xa xb xc a1) (v143_1 xa xb xc a1) a1)) (v145_1 xa xb xc (v144_0 xa (v143_0 xa xb xc a1) (v143_1 xa xb xc a1) a1)) (v145_2 xa xb xc (v144_0 xa (v143_0 xa xb xc a1) (v143_1 xa xb xc a1) a1)) a1 (v144_1 xa (v143_0 xa xb xc a1) (v143_1 xa xb xc a1) a1)))
def v110_2 (xa xb xc:List AV) (a1:Int):List AV:=(bif (v142_0 xa xb xc a1) then (v64_2 xa xb xc) else (v146_2 (v145_0 xa xb xc (v144_0 xa (v143_0 xa xb xc a1) (v143_1 xa xb xc a1) a1)) (v145_1 xa xb xc (v144_0 xa (v143_0 xa xb xc a1) (v143_1 xa xb xc a1) a1)) (v145_2 xa xb xc (v144_0 xa (v143_0 xa xb xc a1) (v143_1 xa xb xc a1) a1)) a1 (v144_1 xa (v143_0 xa xb xc a1) (v143_1 xa xb xc a1) a1)))
def v110_3 (xa xb xc:List AV) (a1:Int):List AV:=(bif (v142_0 xa xb xc a1) then ([]:List AV) else (v144_0 xa (v143_0 xa xb xc a1) (v143_1 xa xb xc a1) a1))
theorem e110 (xa xb xc:List AV) (a1:Int):funA c110 0 110 [AV.agg [AV.sl [.int .i64] xa,AV.sl [.int .i64] xb,AV.sl [.int .i64,.int .i64] xc],Ai a1]=((fun (x1:Int) (x2:Int)=>((fun (x3:List AV) (x4:Int)=>((fun (x5:List AV) (x6:List AV) (x7:List AV)=>(bif q142 xa xb xc a1 then (bif (v142_0 xa xb xc a1) then (bif q64 xa xb xc then some (AV.tup [AV.agg [AV.fl [.int .i64] (v64_0 xa xb xc),AV.fl [.int .i64] (v64_1 xa xb xc),AV.fl [.int .i64,.int .i64] (v64_2 xa xb xc)],AV.fl [.int .i64,.int .i64] ([]:List AV)])
 else none)
 else (bif q143 xa xb xc a1 then (bif q144 xa x1 x2 a1 then (bif q145 xa xb xc x3 then (bif q146 x5 x6 x7 a1 x4 then some (AV.tup [AV.agg [AV.fl [.int .i64] (v146_0 x5 x6 x7 a1 x4),AV.fl [.int .i64] (v146_1 x5 x6 x7 a1 x4),AV.fl [.int .i64,.int .i64] (v146_2 x5 x6 x7 a1 x4)],AV.fl [.int .i64,.int .i64] x3])
 else none)
 else none)
 else none)
 else none))
 else none)) (v145_0 xa xb xc x3) (v145_1 xa xb xc x3) (v145_2 xa xb xc x3))) (v144_0 xa x1 x2 a1) (v144_1 xa x1 x2 a1))) (v143_0 xa xb xc a1) (v143_1 xa xb xc a1)):=by kernel_rfl
theorem r110 (xa xb xc:List AV) (a1:Int) (h:q110 xa xb xc a1=true):funA c110 0 110 [AV.agg [AV.sl [.int .i64] xa,AV.sl [.int .i64] xb,AV.sl [.int .i64,.int .i64] xc],AV.int .i64 a1]=some (AV.tup [AV.agg [AV.fl [.int .i64] (v110_0 xa xb xc a1),AV.fl [.int .i64] (v110_1 xa xb xc a1),AV.fl [.int .i64,.int .i64] (v110_2 xa xb xc a1)],AV.fl [.int .i64,.int .i64] (v110_3 xa xb xc a1)]):=by
 refine (e110 xa xb xc a1).trans ?_
 unfold q110 at h
 unfold v110_0 v110_1 v110_2 v110_3
 refine ifG (fun hc=>?_) (fun hc=>?_) <;> first|rw [hc] at h ⊢|rw [hc] at h|rw [hc]|skip
 ·refine ifG (fun hc=>?_) (fun hc=>?_) <;> first|rw [hc] at h ⊢|rw [hc] at h|rw [hc]|skip
  ·refine ifG (fun hc=>?_) (fun hc=>?_) <;> first|rw [hc] at h ⊢|rw [hc] at h|rw [hc]|skip
   ·rfl
   ·first|exact Bool.noConfusion h|exact Bool.noConfusion hc
  ·refine ifG (fun hc=>?_) (fun hc=>?_) <;> first|rw [hc] at h ⊢|rw [hc] at h|rw [hc]|skip
   ·refine ifG (fun hc=>?_) (fun hc=>?_) <;> first|rw [hc] at h ⊢|rw [hc] at h|rw [hc]|skip
    ·refine ifG (fun hc=>?_) (fun hc=>?_) <;> first|rw [hc] at h ⊢|rw [hc] at h|rw [hc]|skip
     ·refine ifG (fun hc=>?_) (fun hc=>?_) <;> first|rw [hc] at h ⊢|rw [hc] at h|rw [hc]|skip
      ·rfl
      ·first|exact Bool.noConfusion h|exact Bool.noConfusion hc
     ·first|exact Bool.noConfusion h|exact Bool.noConfusion hc
    ·first|exact Bool.noConfusion h|exact Bool.noConfusion hc
   ·first|exact Bool.noConfusion h|exact Bool.noConfusion hc
 ·first|exact Bool.noConfusion h|exact Bool.noConfusion hc
def m110:TModel
 | [.agg [.sl g0 xa,.sl g1 xb,.sl g2 xc],.int .i64 a1]=>bif ctsEq g0 ([.int .i64]) && ctsEq g1 ([.int .i64]) && ctsEq g2 ([.int .i64,.int .i64]) then some (q110 xa xb xc a1,AV.tup [AV.agg [AV.fl [.int .i64] (v110_0 xa xb xc a1),AV.fl [.int .i64] (v110_1 xa xb xc a1),AV.fl [.int .i64,.int .i64] (v110_2 xa xb xc a1)],AV.fl [.int .i64,.int .i64] (v110_3 xa xb xc a1)]) else none
 | _=>none
theorem k110:Known Tryz.prog 110:=⟨Tryz.f110,Tryz.func110,by kernel_rfl,by kernel_rfl⟩
theorem meets110:Meets Tryz.prog 110 m110:=by
 refine mt (lvl:=0) (cf:=c110) rfl mixed k110 Tryz.func110 (by kernel_rfl) noLoop (allT_cons meets64 (allT_cons meets142 (allT_cons meets143 (allT_cons meets144 (allT_cons meets145 (allT_cons meets146 allT_nil)))))) allM_nil noI fun xs r h=>?_
 unfold m110 at h
 split at h
 ·rename_i g0 xa g1 xb g2 xc a1
  obtain ⟨hg,h⟩:=bif_pair h
  simp only [Bool.and_eq_true] at hg
  obtain ⟨⟨q0,q1⟩,q2⟩:=hg
  obtain rfl:=cE q0
  obtain rfl:=cE q1
  obtain rfl:=cE q2
  obtain ⟨h1,rfl⟩:=pair_inj h
  exact r110 xa xb xc a1 h1
 ·cases h
noncomputable def c132:Cfg:=cfg Tryz.prog [(132,999,[])] [] [] [] []
theorem e132 (a0 a1 a2 a3 a4:Int):funA c132 0 132 [Ai a0,Ai a1,Ai a2,Ai a3,Ai a4]=some (AV.tup []):=by kernel_rfl
def m132:TModel
 | [.int .i64 a0,.int .i64 a1,.int .i64 a2,.int .i64 a3,.int .i64 a4]=>some (true,AV.tup [])
 | _=>none
theorem k132:Known Tryz.prog 132:=⟨Tryz.f132,Tryz.func132,by kernel_rfl,by kernel_rfl⟩
theorem meets132:Meets Tryz.prog 132 m132:=by
 refine mt (lvl:=0) (cf:=c132) rfl mixed k132 Tryz.func132 (by kernel_rfl) noLoop allT_nil allM_nil noI fun xs r h=>?_
 unfold m132 at h
 split at h
 ·rename_i a0 a1 a2 a3 a4
  obtain ⟨h1,rfl⟩:=pair_inj h
  exact (e132 a0 a1 a2 a3 a4).trans (of_tt (fun _=>rfl))
 ·cases h
noncomputable def c159:Cfg:=cfg Tryz.prog [(159,999,[])] [(132,m132)] [] [] []
theorem e159 (a0 a1 a2 a3:Int) (a4 a5:AV):funA c159 0 159 [Ai a0,Ai a1,Ai a2,Ai a3,AV.rptr [.fnc 132] a4 0,AV.rptr [.int .i64] a5 0]=some (AV.tup []):=by kernel_rfl
def m159:TModel
 | [.int .i64 a0,.int .i64 a1,.int .i64 a2,.int .i64 a3,.rptr g0 a4 g1,.rptr g2 a5 g3]=>bif ctsEq g0 ([.fnc 132]) && Nat.beq g1 0 && ctsEq g2 ([.int .i64]) && Nat.beq g3 0 then some (true,AV.tup []) else none
 | _=>none
theorem k159:Known Tryz.prog 159:=⟨Tryz.f159,Tryz.func159,by kernel_rfl,by kernel_rfl⟩
theorem meets159:Meets Tryz.prog 159 m159:=by
 refine mt (lvl:=0) (cf:=c159) rfl mixed k159 Tryz.func159 (by kernel_rfl) noLoop (allT_cons meets132 allT_nil) allM_nil noI fun xs r h=>?_
 unfold m159 at h
 split at h
 ·rename_i a0 a1 a2 a3 g0 a4 g1 g2 a5 g3
  obtain ⟨hg,h⟩:=bif_pair h
  simp only [Bool.and_eq_true] at hg
  obtain ⟨⟨⟨q0,q1⟩,q2⟩,q3⟩:=hg
  obtain rfl:=cE q0
  obtain rfl:=bE q1
  obtain rfl:=cE q2
  obtain rfl:=bE q3
  obtain ⟨h1,rfl⟩:=pair_inj h
  exact (e159 a0 a1 a2 a3 a4 a5).trans (of_tt (fun _=>rfl))
 ·cases h
def G187_0_s0 {β:Type} (t2:Int) (h2_0:Int) (h2_1:Int) (h2_2:Int) (h4_0:Int) (h4_1:Int) (h4_2:Int) (h5:Int) (h6:List AV) (h7:List AV) (h8:List AV) (h10:Int) (N:((Int × Int × Int × Int × Int × Int × Int × (List AV) × (List AV) × (List AV) × Int) ⊕ ((List AV) × (List AV) × (List AV) × Int × Int × Int × Int × Int × Int × Int × (List AV) × (List AV) × (List AV) × Int))→β) (K:((Int × Int × Int × Int × Int × Int × Int × (List AV) × (List AV) × (List AV) × Int) ⊕ ((List AV) × (List AV) × (List AV) × Int × Int × Int × Int × Int × Int × Int × (List AV) × (List AV) × (List AV) × Int))→β) (d:β):β:=by
 refine (?f0:Int→Int→β) (v143_0 h6 h7 h8 t2) (v143_1 h6 h7 h8 t2);intro x1 x2
 refine (?f1:Int→Int→Int→Int→β) (v202_0 h6 h7 h8 h2_0 h2_1 h2_2 x1 x2) (v202_1 h6 h7 h8 h2_0 h2_1 h2_2 x1 x2) (v202_2 h6 h7 h8 h2_0 h2_1 h2_2 x1 x2) (v202_3 h6 h7 h8 h2_0 h2_1 h2_2 x1 x2);intro x3 x4 x5 x6
 refine (?f2:(List AV)→(List AV)→(List AV)→(List AV)→β) (v110_0 h6 h7 h8 x3) (v110_1 h6 h7 h8 x3) (v110_2 h6 h7 h8 x3) (v110_3 h6 h7 h8 x3);intro x7 x8 x9 x10
 exact (bif !decide (h2_0=0) then (bif q142 h6 h7 h8 t2 then (bif !(v142_0 h6 h7 h8 t2) then (bif q143 h6 h7 h8 t2 then (bif decide (IntKind.i64.wrap (x2 - x1)≤h2_1) then K (.inl (h2_0,h2_1,h2_2,h4_0,h4_1,h4_2,h5,h6,h7,h8,h10))
 else (bif q202 h6 h7 h8 h2_0 h2_1 h2_2 x1 x2 then (bif q142 h6 h7 h8 x3 then (bif (v142_0 h6 h7 h8 x3) then (bif q142 h6 h7 h8 (IntKind.i64.wrap (x3+1)) then (bif (v142_0 h6 h7 h8 (IntKind.i64.wrap (x3+1))) then N (.inl (x4,x5,x6,h4_0,h4_1,h4_2,h5,h6,h7,h8,h10))
 else (bif q143 h6 h7 h8 (IntKind.i64.wrap (x3+1)) then (bif q110 h6 h7 h8 (IntKind.i64.wrap (x3+1)) then N (.inr ((v110_0 h6 h7 h8 (IntKind.i64.wrap (x3+1))),(v110_1 h6 h7 h8 (IntKind.i64.wrap (x3+1))),(v110_2 h6 h7 h8 (IntKind.i64.wrap (x3+1))),x4,x5,x6,h4_0,h4_1,h4_2,IntKind.i64.wrap (h5+((v110_3 h6 h7 h8 (IntKind.i64.wrap (x3+1))).length:Int)),h6,h7,h8,h10))
 else d)
 else d))
 else d)
 else (bif q143 h6 h7 h8 x3 then (bif q110 h6 h7 h8 x3 then (bif q142 x7 x8 x9 (IntKind.i64.wrap (x3+1)) then (bif (v142_0 x7 x8 x9 (IntKind.i64.wrap (x3+1))) then N (.inr (x7,x8,x9,x4,x5,x6,h4_0,h4_1,h4_2,IntKind.i64.wrap (h5+(x10.length:Int)),h6,h7,h8,h10))
 else (bif q143 x7 x8 x9 (IntKind.i64.wrap (x3+1)) then (bif q110 x7 x8 x9 (IntKind.i64.wrap (x3+1)) then N (.inr ((v110_0 x7 x8 x9 (IntKind.i64.wrap (x3+1))),(v110_1 x7 x8 x9 (IntKind.i64.wrap (x3+1))),(v110_2 x7 x8 x9 (IntKind.i64.wrap (x3+1))),x4,x5,x6,h4_0,h4_1,h4_2,IntKind.i64.wrap (IntKind.i64.wrap (h5+(x10.length:Int))+((v110_3 x7 x8 x9 (IntKind.i64.wrap (x3+1))).length:Int)),h6,h7,h8,h10))
 else d)
 else d))
 else d)
 else d)
 else d))
 else d)
 else d))
 else d)
 else K (.inl (h2_0,h2_1,h2_2,h4_0,h4_1,h4_2,h5,h6,h7,h8,h10)))
 else d)
 else K (.inl (h2_0,h2_1,h2_2,h4_0,h4_1,h4_2,h5,h6,h7,h8,h10)))
def F187_0_s0 (t2 h2_0 h2_1 h2_2 h4_0 h4_1 h4_2 h5:Int) (h6 h7 h8:List AV) (h10:Int):Out ((Int × Int × Int × Int × Int × Int × Int × (List AV) × (List AV) × (List AV) × Int) ⊕ ((List AV) × (List AV) × (List AV) × Int × Int × Int × Int × Int × Int × Int × (List AV) × (List AV) × (List AV) × Int)) ((Int × Int × Int × Int × Int × Int × Int × (List AV) × (List AV) × (List AV) × Int) ⊕ ((List AV) × (List AV) × (List AV) × Int × Int × Int × Int × Int × Int × Int × (List AV) × (List AV) × (List AV) × Int)):=G187_0_s0 t2 h2_0 h2_1 h2_2 h4_0 h4_1 h4_2 h5 h6 h7 h8 h10 .next .stop .fail
def G187_0_s1 {β:Type} (t2:Int) (h0:List AV) (h1:List AV) (h2:List AV) (h5_0:Int) (h5_1:Int) (h5_2:Int) (h7_0:Int) (h7_1:Int) (h7_2:Int) (h8:Int) (h9:List AV) (h10:List AV) (h11:List AV) (h13:Int) (N:((Int × Int × Int × Int × Int × Int × Int × (List AV) × (List AV) × (List AV) × Int) ⊕ ((List AV) × (List AV) × (List AV) × Int × Int × Int × Int × Int × Int × Int × (List AV) × (List AV) × (List AV) × Int))→β) (K:((Int × Int × Int × Int × Int × Int × Int × (List AV) × (List AV) × (List AV) × Int) ⊕ ((List AV) × (List AV) × (List AV) × Int × Int × Int × Int × Int × Int × Int × (List AV) × (List AV) × (List AV) × Int))→β) (d:β):β:=by
 refine (?f0:Int→Int→β) (v143_0 h0 h1 h2 t2) (v143_1 h0 h1 h2 t2);intro x1 x2
 refine (?f1:Int→Int→Int→Int→β) (v202_0 h0 h1 h2 h5_0 h5_1 h5_2 x1 x2) (v202_1 h0 h1 h2 h5_0 h5_1 h5_2 x1 x2) (v202_2 h0 h1 h2 h5_0 h5_1 h5_2 x1 x2) (v202_3 h0 h1 h2 h5_0 h5_1 h5_2 x1 x2);intro x3 x4 x5 x6
 refine (?f2:(List AV)→(List AV)→(List AV)→(List AV)→β) (v110_0 h0 h1 h2 x3) (v110_1 h0 h1 h2 x3) (v110_2 h0 h1 h2 x3) (v110_3 h0 h1 h2 x3);intro x7 x8 x9 x10
 exact (bif !decide (h5_0=0) then (bif q142 h0 h1 h2 t2 then (bif !(v142_0 h0 h1 h2 t2) then (bif q143 h0 h1 h2 t2 then (bif decide (IntKind.i64.wrap (x2 - x1)≤h5_1) then K (.inr (h0,h1,h2,h5_0,h5_1,h5_2,h7_0,h7_1,h7_2,h8,h9,h10,h11,h13))
 else (bif q202 h0 h1 h2 h5_0 h5_1 h5_2 x1 x2 then (bif q142 h0 h1 h2 x3 then (bif (v142_0 h0 h1 h2 x3) then (bif q142 h0 h1 h2 (IntKind.i64.wrap (x3+1)) then (bif (v142_0 h0 h1 h2 (IntKind.i64.wrap (x3+1))) then N (.inr (h0,h1,h2,x4,x5,x6,h7_0,h7_1,h7_2,h8,h9,h10,h11,h13))
 else (bif q143 h0 h1 h2 (IntKind.i64.wrap (x3+1)) then (bif q110 h0 h1 h2 (IntKind.i64.wrap (x3+1)) then N (.inr ((v110_0 h0 h1 h2 (IntKind.i64.wrap (x3+1))),(v110_1 h0 h1 h2 (IntKind.i64.wrap (x3+1))),(v110_2 h0 h1 h2 (IntKind.i64.wrap (x3+1))),x4,x5,x6,h7_0,h7_1,h7_2,IntKind.i64.wrap (h8+((v110_3 h0 h1 h2 (IntKind.i64.wrap (x3+1))).length:Int)),h9,h10,h11,h13))
 else d)
 else d))
 else d)
 else (bif q143 h0 h1 h2 x3 then (bif q110 h0 h1 h2 x3 then (bif q142 x7 x8 x9 (IntKind.i64.wrap (x3+1)) then (bif (v142_0 x7 x8 x9 (IntKind.i64.wrap (x3+1))) then N (.inr (x7,x8,x9,x4,x5,x6,h7_0,h7_1,h7_2,IntKind.i64.wrap (h8+(x10.length:Int)),h9,h10,h11,h13))
 else (bif q143 x7 x8 x9 (IntKind.i64.wrap (x3+1)) then (bif q110 x7 x8 x9 (IntKind.i64.wrap (x3+1)) then N (.inr ((v110_0 x7 x8 x9 (IntKind.i64.wrap (x3+1))),(v110_1 x7 x8 x9 (IntKind.i64.wrap (x3+1))),(v110_2 x7 x8 x9 (IntKind.i64.wrap (x3+1))),x4,x5,x6,h7_0,h7_1,h7_2,IntKind.i64.wrap (IntKind.i64.wrap (h8+(x10.length:Int))+((v110_3 x7 x8 x9 (IntKind.i64.wrap (x3+1))).length:Int)),h9,h10,h11,h13))
 else d)
 else d))
 else d)
 else d)
 else d))
 else d)
 else d))
 else d)
 else K (.inr (h0,h1,h2,h5_0,h5_1,h5_2,h7_0,h7_1,h7_2,h8,h9,h10,h11,h13)))
 else d)
 else K (.inr (h0,h1,h2,h5_0,h5_1,h5_2,h7_0,h7_1,h7_2,h8,h9,h10,h11,h13)))
def F187_0_s1 (t2:Int) (h0 h1 h2:List AV) (h5_0 h5_1 h5_2 h7_0 h7_1 h7_2 h8:Int) (h9 h10 h11:List AV) (h13:Int):Out ((Int × Int × Int × Int × Int × Int × Int × (List AV) × (List AV) × (List AV) × Int) ⊕ ((List AV) × (List AV) × (List AV) × Int × Int × Int × Int × Int × Int × Int × (List AV) × (List AV) × (List AV) × Int)) ((Int × Int × Int × Int × Int × Int × Int × (List AV) × (List AV) × (List AV) × Int) ⊕ ((List AV) × (List AV) × (List AV) × Int × Int × Int × Int × Int × Int × Int × (List AV) × (List AV) × (List AV) × Int)):=G187_0_s1 t2 h0 h1 h2 h5_0 h5_1 h5_2 h7_0 h7_1 h7_2 h8 h9 h10 h11 h13 .next .stop .fail
def R187_0 (t2:Int):((Int × Int × Int × Int × Int × Int × Int × (List AV) × (List AV) × (List AV) × Int) ⊕ ((List AV) × (List AV) × (List AV) × Int × Int × Int × Int × Int × Int × Int × (List AV) × (List AV) × (List AV) × Int))→Out ((Int × Int × Int × Int × Int × Int × Int × (List AV) × (List AV) × (List AV) × Int) ⊕ ((List AV) × (List AV) × (List AV) × Int × Int × Int × Int × Int × Int × Int × (List AV) × (List AV) × (List AV) × Int)) ((Int × Int × Int × Int × Int × Int × Int × (List AV) × (List AV) × (List AV) × Int) ⊕ ((List AV) × (List AV) × (List AV) × Int × Int × Int × Int × Int × Int × Int × (List AV) × (List AV) × (List AV) × Int)):=sumE (fun s:Int × Int × Int × Int × Int × Int × Int × (List AV) × (List AV) × (List AV) × Int=>F187_0_s0 t2 s.1 s.2.1 s.2.2.1 s.2.2.2.1 s.2.2.2.2.1 s.2.2.2.2.2.1 s.2.2.2.2.2.2.1 s.2.2.2.2.2.2.2.1 s.2.2.2.2.2.2.2.2.1 s.2.2.2.2.2.2.2.2.2.1 s.2.2.2.2.2.2.2.2.2.2) (fun s:(List AV) × (List AV) × (List AV) × Int × Int × Int × Int × Int × Int × Int × (List AV) × (List AV) × (List AV) × Int=>F187_0_s1 t2 s.1 s.2.1 s.2.2.1 s.2.2.2.1 s.2.2.2.2.1 s.2.2.2.2.2.1 s.2.2.2.2.2.2.1 s.2.2.2.2.2.2.2.1 s.2.2.2.2.2.2.2.2.1 s.2.2.2.2.2.2.2.2.2.1 s.2.2.2.2.2.2.2.2.2.2.1 s.2.2.2.2.2.2.2.2.2.2.2.1 s.2.2.2.2.2.2.2.2.2.2.2.2.1 s.2.2.2.2.2.2.2.2.2.2.2.2.2)
def E187_0 (t2:Int):((Int × Int × Int × Int × Int × Int × Int × (List AV) × (List AV) × (List AV) × Int) ⊕ ((List AV) × (List AV) × (List AV) × Int × Int × Int × Int × Int × Int × Int × (List AV) × (List AV) × (List AV) × Int))→St:=sumE (fun s:Int × Int × Int × Int × Int × Int × Int × (List AV) × (List AV) × (List AV) × Int=>⟨[(2,Ai t2),(4,AV.ptr [0,4,0] 0 0),(5,AV.ptr [0,5,0] 0 0),(8,AV.ptr [0,8,0] 0 0),(9,AV.ptr [0,9,0] 0 0),(11,AV.ptr [0,11,0] 0 0),(12,AV.fn 201 [AV.ptr [0,4,0] 0 0,AV.ptr [0,11,0] 0 0,AV.ptr [0,2,12,0] 0 0])],[([0,2,12,0],⟨true,[],[AV.fn 159 [AV.ptr [4] 0 0,AV.ptr [5] 0 0]]⟩),([0,4,0],⟨true,[],[AV.agg [AV.own [1],AV.own [2],AV.own [3]]]⟩),([0,5,0],⟨true,[],[AV.agg [Ai s.1,Ai s.2.1,Ai s.2.2.1]]⟩),([0,8,0],⟨true,[],[AV.agg [AV.snil,AV.snil,AV.snil]]⟩),([0,9,0],⟨true,[],[AV.agg [Ai s.2.2.2.1,Ai s.2.2.2.2.1,Ai s.2.2.2.2.2.1]]⟩),([0,11,0],⟨true,[],[Ai s.2.2.2.2.2.2.1]⟩),([1],⟨false,[.int .i64],s.2.2.2.2.2.2.2.1⟩),([2],⟨false,[.int .i64],s.2.2.2.2.2.2.2.2.1⟩),([3],⟨false,[.int .i64,.int .i64],s.2.2.2.2.2.2.2.2.2.1⟩),([4],⟨true,[],[AV.fn 132 []]⟩),([5],⟨true,[],[Ai s.2.2.2.2.2.2.2.2.2.2]⟩)]⟩) (fun s:(List AV) × (List AV) × (List AV) × Int × Int × Int × Int × Int × Int × Int × (List AV) × (List AV) × (List AV) × Int=>⟨[(2,Ai t2),(4,AV.ptr [0,4,0] 0 0),(5,AV.ptr [0,5,0] 0 0),(8,AV.ptr [0,8,0] 0 0),(9,AV.ptr [0,9,0] 0 0),(11,AV.ptr [0,11,0] 0 0),(12,AV.fn 201 [AV.ptr [0,4,0] 0 0,AV.ptr [0,11,0] 0 0,AV.ptr [0,2,12,0] 0 0])],[([0,0,4,0],⟨false,[.int .i64],s.1⟩),([0,1,4,0],⟨false,[.int .i64],s.2.1⟩),([0,2,4,0],⟨false,[.int .i64,.int .i64],s.2.2.1⟩),([0,2,12,0],⟨true,[],[AV.fn 159 [AV.ptr [4] 0 0,AV.ptr [5] 0 0]]⟩),([0,4,0],⟨true,[],[AV.agg [AV.own [0,0,4,0],AV.own [0,1,4,0],AV.own [0,2,4,0]]]⟩),([0,5,0],⟨true,[],[AV.agg [Ai s.2.2.2.1,Ai s.2.2.2.2.1,Ai s.2.2.2.2.2.1]]⟩),([0,8,0],⟨true,[],[AV.agg [AV.snil,AV.snil,AV.snil]]⟩),([0,9,0],⟨true,[],[AV.agg [Ai s.2.2.2.2.2.2.1,Ai s.2.2.2.2.2.2.2.1,Ai s.2.2.2.2.2.2.2.2.1]]⟩),([0,11,0],⟨true,[],[Ai s.2.2.2.2.2.2.2.2.2.1]⟩),([1],⟨false,[.int .i64],s.2.2.2.2.2.2.2.2.2.2.1⟩),([2],⟨false,[.int .i64],s.2.2.2.2.2.2.2.2.2.2.2.1⟩),([3],⟨false,[.int .i64,.int .i64],s.2.2.2.2.2.2.2.2.2.2.2.2.1⟩),([4],⟨true,[],[AV.fn 132 []]⟩),([5],⟨true,[],[Ai s.2.2.2.2.2.2.2.2.2.2.2.2.2]⟩)]⟩)
def K187_0 (t2:Int) (k:Kont):((Int × Int × Int × Int × Int × Int × Int × (List AV) × (List AV) × (List AV) × Int) ⊕ ((List AV) × (List AV) × (List AV) × Int × Int × Int × Int × Int × Int × Int × (List AV) × (List AV) × (List AV) × Int))→Option AV:=sumE (fun p:Int × Int × Int × Int × Int × Int × Int × (List AV) × (List AV) × (List AV) × Int=>k (.exit 0) ⟨[(2,Ai t2),(4,AV.ptr [0,4,0] 0 0),(5,AV.ptr [0,5,0] 0 0),(8,AV.ptr [0,8,0] 0 0),(9,AV.ptr [0,9,0] 0 0),(11,AV.ptr [0,11,0] 0 0),(12,AV.fn 201 [AV.ptr [0,4,0] 0 0,AV.ptr [0,11,0] 0 0,AV.ptr [0,2,12,0] 0 0])],[([0,2,12,0],⟨true,[],[AV.fn 159 [AV.ptr [4] 0 0,AV.ptr [5] 0 0]]⟩),([0,4,0],⟨true,[],[AV.agg [AV.own [1],AV.own [2],AV.own [3]]]⟩),([0,5,0],⟨true,[],[AV.agg [Ai p.1,Ai p.2.1,Ai p.2.2.1]]⟩),([0,8,0],⟨true,[],[AV.agg [AV.snil,AV.snil,AV.snil]]⟩),([0,9,0],⟨true,[],[AV.agg [Ai p.2.2.2.1,Ai p.2.2.2.2.1,Ai p.2.2.2.2.2.1]]⟩),([0,11,0],⟨true,[],[Ai p.2.2.2.2.2.2.1]⟩),([1],⟨false,[.int .i64],p.2.2.2.2.2.2.2.1⟩),([2],⟨false,[.int .i64],p.2.2.2.2.2.2.2.2.1⟩),([3],⟨false,[.int .i64,.int .i64],p.2.2.2.2.2.2.2.2.2.1⟩),([4],⟨true,[],[AV.fn 132 []]⟩),([5],⟨true,[],[Ai p.2.2.2.2.2.2.2.2.2.2]⟩)]⟩) (fun p:(List AV) × (List AV) × (List AV) × Int × Int × Int × Int × Int × Int × Int × (List AV) × (List AV) × (List AV) × Int=>k (.exit 0) ⟨[(2,Ai t2),(4,AV.ptr [0,4,0] 0 0),(5,AV.ptr [0,5,0] 0 0),(8,AV.ptr [0,8,0] 0 0),(9,AV.ptr [0,9,0] 0 0),(11,AV.ptr [0,11,0] 0 0),(12,AV.fn 201 [AV.ptr [0,4,0] 0 0,AV.ptr [0,11,0] 0 0,AV.ptr [0,2,12,0] 0 0])],[([0,0,4,0],⟨false,[.int .i64],p.1⟩),([0,1,4,0],⟨false,[.int .i64],p.2.1⟩),([0,2,4,0],⟨false,[.int .i64,.int .i64],p.2.2.1⟩),([0,2,12,0],⟨true,[],[AV.fn 159 [AV.ptr [4] 0 0,AV.ptr [5] 0 0]]⟩),([0,4,0],⟨true,[],[AV.agg [AV.own [0,0,4,0],AV.own [0,1,4,0],AV.own [0,2,4,0]]]⟩),([0,5,0],⟨true,[],[AV.agg [Ai p.2.2.2.1,Ai p.2.2.2.2.1,Ai p.2.2.2.2.2.1]]⟩),([0,8,0],⟨true,[],[AV.agg [AV.snil,AV.snil,AV.snil]]⟩),([0,9,0],⟨true,[],[AV.agg [Ai p.2.2.2.2.2.2.1,Ai p.2.2.2.2.2.2.2.1,Ai p.2.2.2.2.2.2.2.2.1]]⟩),([0,11,0],⟨true,[],[Ai p.2.2.2.2.2.2.2.2.2.1]⟩),([1],⟨false,[.int .i64],p.2.2.2.2.2.2.2.2.2.2.1⟩),([2],⟨false,[.int .i64],p.2.2.2.2.2.2.2.2.2.2.2.1⟩),([3],⟨false,[.int .i64,.int .i64],p.2.2.2.2.2.2.2.2.2.2.2.2.1⟩),([4],⟨true,[],[AV.fn 132 []]⟩),([5],⟨true,[],[Ai p.2.2.2.2.2.2.2.2.2.2.2.2.2]⟩)]⟩)
def l187_0:LModel:=fun _ _ st k=>match st with
 | ⟨[(2,.int .i64 t2),(4,.ptr g0 g1 g2),(5,.ptr g3 g4 g5),(8,.ptr g6 g7 g8),(9,.ptr g9 g10 g11),(11,.ptr g12 g13 g14),(12,.fn g15 [.ptr g16 g17 g18,.ptr g19 g20 g21,.ptr g22 g23 g24])],[(g25,⟨true,[],[.fn g26 [.ptr g27 g28 g29,.ptr g30 g31 g32]]⟩),(g33,⟨true,[],[.agg [.own g34,.own g35,.own g36]]⟩),(g37,⟨true,[],[.agg [.int .i64 h2_0,.int .i64 h2_1,.int .i64 h2_2]]⟩),(g38,⟨true,[],[.agg [.snil,.snil,.snil]]⟩),(g39,⟨true,[],[.agg [.int .i64 h4_0,.int .i64 h4_1,.int .i64 h4_2]]⟩),(g40,⟨true,[],[.int .i64 h5]⟩),(g41,⟨false,g42,h6⟩),(g43,⟨false,g44,h7⟩),(g45,⟨false,g46,h8⟩),(g47,⟨true,[],[.fn g48 []]⟩),(g49,⟨true,[],[.int .i64 h10]⟩)]⟩=>bif nmEq g0 ([0,4,0]) && Nat.beq g1 0 && Nat.beq g2 0 && nmEq g3 ([0,5,0]) && Nat.beq g4 0 && Nat.beq g5 0 && nmEq g6 ([0,8,0]) && Nat.beq g7 0 && Nat.beq g8 0 && nmEq g9 ([0,9,0]) && Nat.beq g10 0 && Nat.beq g11 0 && nmEq g12 ([0,11,0]) && Nat.beq g13 0 && Nat.beq g14 0 && Nat.beq g15 201 && nmEq g16 ([0,4,0]) && Nat.beq g17 0 && Nat.beq g18 0 && nmEq g19 ([0,11,0]) && Nat.beq g20 0 && Nat.beq g21 0 && nmEq g22 ([0,2,12,0]) && Nat.beq g23 0 && Nat.beq g24 0 && nmEq g25 ([0,2,12,0]) && Nat.beq g26 159 && nmEq g27 ([4]) && Nat.beq g28 0 && Nat.beq g29 0 && nmEq g30 ([5]) && Nat.beq g31 0 && Nat.beq g32 0 && nmEq g33 ([0,4,0]) && nmEq g34 ([1]) && nmEq g35 ([2]) && nmEq g36 ([3]) && nmEq g37 ([0,5,0]) && nmEq g38 ([0,8,0]) && nmEq g39 ([0,9,0]) && nmEq g40 ([0,11,0]) && nmEq g41 ([1]) && ctsEq g42 ([.int .i64]) && nmEq g43 ([2]) && ctsEq g44 ([.int .i64]) && nmEq g45 ([3]) && ctsEq g46 ([.int .i64,.int .i64]) && nmEq g47 ([4]) && Nat.beq g48 132 && nmEq g49 ([5]) then ro (runW (R187_0 t2) (2100) (.inl (h2_0,h2_1,h2_2,h4_0,h4_1,h4_2,h5,h6,h7,h8,h10))) none (K187_0 t2 k) else none
 | ⟨[(2,.int .i64 t2),(4,.ptr g0 g1 g2),(5,.ptr g3 g4 g5),(8,.ptr g6 g7 g8),(9,.ptr g9 g10 g11),(11,.ptr g12 g13 g14),(12,.fn g15 [.ptr g16 g17 g18,.ptr g19 g20 g21,.ptr g22 g23 g24])],[(g25,⟨false,g26,h0⟩),(g27,⟨false,g28,h1⟩),(g29,⟨false,g30,h2⟩),(g31,⟨true,[],[.fn g32 [.ptr g33 g34 g35,.ptr g36 g37 g38]]⟩),(g39,⟨true,[],[.agg [.own g40,.own g41,.own g42]]⟩),(g43,⟨true,[],[.agg [.int .i64 h5_0,.int .i64 h5_1,.int .i64 h5_2]]⟩),(g44,⟨true,[],[.agg [.snil,.snil,.snil]]⟩),(g45,⟨true,[],[.agg [.int .i64 h7_0,.int .i64 h7_1,.int .i64 h7_2]]⟩),(g46,⟨true,[],[.int .i64 h8]⟩),(g47,⟨false,g48,h9⟩),(g49,⟨false,g50,h10⟩),(g51,⟨false,g52,h11⟩),(g53,⟨true,[],[.fn g54 []]⟩),(g55,⟨true,[],[.int .i64 h13]⟩)]⟩=>bif nmEq g0 ([0,4,0]) && Nat.beq g1 0 && Nat.beq g2 0 && nmEq g3 ([0,5,0]) && Nat.beq g4 0 && Nat.beq g5 0 && nmEq g6 ([0,8,0]) && Nat.beq g7 0 && Nat.beq g8 0 && nmEq g9 ([0,9,0]) && Nat.beq g10 0 && Nat.beq g11 0 && nmEq g12 ([0,11,0]) && Nat.beq g13 0 && Nat.beq g14 0 && Nat.beq g15 201 && nmEq g16 ([0,4,0]) && Nat.beq g17 0 && Nat.beq g18 0 && nmEq g19 ([0,11,0]) && Nat.beq g20 0 && Nat.beq g21 0 && nmEq g22 ([0,2,12,0]) && Nat.beq g23 0 && Nat.beq g24 0 && nmEq g25 ([0,0,4,0]) && ctsEq g26 ([.int .i64]) && nmEq g27 ([0,1,4,0]) && ctsEq g28 ([.int .i64]) && nmEq g29 ([0,2,4,0]) && ctsEq g30 ([.int .i64,.int .i64]) && nmEq g31 ([0,2,12,0]) && Nat.beq g32 159 && nmEq g33 ([4]) && Nat.beq g34 0 && Nat.beq g35 0 && nmEq g36 ([5]) && Nat.beq g37 0 && Nat.beq g38 0 && nmEq g39 ([0,4,0]) && nmEq g40 ([0,0,4,0]) && nmEq g41 ([0,1,4,0]) && nmEq g42 ([0,2,4,0]) && nmEq g43 ([0,5,0]) && nmEq g44 ([0,8,0]) && nmEq g45 ([0,9,0]) && nmEq g46 ([0,11,0]) && nmEq g47 ([1]) && ctsEq g48 ([.int .i64]) && nmEq g49 ([2]) && ctsEq g50 ([.int .i64]) && nmEq g51 ([3]) && ctsEq g52 ([.int .i64,.int .i64]) && nmEq g53 ([4]) && Nat.beq g54 132 && nmEq g55 ([5]) then ro (runW (R187_0 t2) (2100) (.inr (h0,h1,h2,h5_0,h5_1,h5_2,h7_0,h7_1,h7_2,h8,h9,h10,h11,h13))) none (K187_0 t2 k) else none
 | _=>none
noncomputable def c187:Cfg:=cfg Tryz.prog [(187,0,[2,4,5,8,9,11,12]),(187,999,[8,9,10]),(187,1000,[2,4,5,8,9,11,12]),(187,1001,[2,4,5,8,9,11,12]),(201,999,[])] [(110,m110),(142,m142),(143,m143),(159,m159),(202,m202)] [] [201] [(187,0,l187_0)]
theorem s187_0_s0 (t2:Int) (k:Kont) (s:Int × Int × Int × Int × Int × Int × Int × (List AV) × (List AV) × (List AV) × Int) (next:St→Option AV):stepA (codeA c187 (inlA c187 1) [0] 187 0 (sub [1,1,1,0,0,0] (body Tryz.f187))) (normA [0] [2,4,5,8,9,11,12]) next ((E187_0 t2) (.inl s)) k=G187_0_s0 t2 s.1 s.2.1 s.2.2.1 s.2.2.2.1 s.2.2.2.2.1 s.2.2.2.2.2.1 s.2.2.2.2.2.2.1 s.2.2.2.2.2.2.2.1 s.2.2.2.2.2.2.2.2.1 s.2.2.2.2.2.2.2.2.2.1 s.2.2.2.2.2.2.2.2.2.2 (fun s=>next ((E187_0 t2) s)) (K187_0 t2 k) none:=by kernel_rfl
theorem s187_0_s1 (t2:Int) (k:Kont) (s:(List AV) × (List AV) × (List AV) × Int × Int × Int × Int × Int × Int × Int × (List AV) × (List AV) × (List AV) × Int) (next:St→Option AV):stepA (codeA c187 (inlA c187 1) [0] 187 0 (sub [1,1,1,0,0,0] (body Tryz.f187))) (normA [0] [2,4,5,8,9,11,12]) next ((E187_0 t2) (.inr s)) k=G187_0_s1 t2 s.1 s.2.1 s.2.2.1 s.2.2.2.1 s.2.2.2.2.1 s.2.2.2.2.2.1 s.2.2.2.2.2.2.1 s.2.2.2.2.2.2.2.1 s.2.2.2.2.2.2.2.2.1 s.2.2.2.2.2.2.2.2.2.1 s.2.2.2.2.2.2.2.2.2.2.1 s.2.2.2.2.2.2.2.2.2.2.2.1 s.2.2.2.2.2.2.2.2.2.2.2.2.1 s.2.2.2.2.2.2.2.2.2.2.2.2.2 (fun s=>next ((E187_0 t2) s)) (K187_0 t2 k) none:=by kernel_rfl
theorem st187_0 (t2:Int) (k:Kont) (s:(Int × Int × Int × Int × Int × Int × Int × (List AV) × (List AV) × (List AV) × Int) ⊕ ((List AV) × (List AV) × (List AV) × Int × Int × Int × Int × Int × Int × Int × (List AV) × (List AV) × (List AV) × Int)) (next:St→Option AV):stepA (codeA c187 (inlA c187 1) [0] 187 0 (sub [1,1,1,0,0,0] (body Tryz.f187))) (normA [0] [2,4,5,8,9,11,12]) next ((E187_0 t2) s) k=(R187_0 t2 s).el none (fun s=>next ((E187_0 t2) s)) (K187_0 t2 k):=(match s with | .inl s=>(s187_0_s0 t2 k s next).trans (by unfold R187_0;unfold F187_0_s0 G187_0_s0;simp only [el_cond,el_ro,el_sum,el_fail,el_next,el_stop] <;> rfl) | .inr s=>(s187_0_s1 t2 k s next).trans (by unfold R187_0;unfold F187_0_s1 G187_0_s1;simp only [el_cond,el_ro,el_sum,el_fail,el_next,el_stop] <;> rfl))
theorem ok187_0:LoopOK c187 (inlA c187 1) [0] 187 0 (sub [1,1,1,0,0,0] (body Tryz.f187)):=by
 intro m hm st k r h
 obtain rfl:l187_0=m:=Option.some.inj hm
 unfold l187_0 at h
 split at h
 ·rename_i t2 g0 g1 g2 g3 g4 g5 g6 g7 g8 g9 g10 g11 g12 g13 g14 g15 g16 g17 g18 g19 g20 g21 g22 g23 g24 g25 g26 g27 g28 g29 g30 g31 g32 g33 g34 g35 g36 g37 h2_0 h2_1 h2_2 g38 g39 h4_0 h4_1 h4_2 g40 h5 g41 g42 h6 g43 g44 h7 g45 g46 h8 g47 g48 g49 h10
  obtain ⟨hg,h⟩:=bif_some h
  simp only [Bool.and_eq_true] at hg
  obtain ⟨⟨⟨⟨⟨⟨⟨⟨⟨⟨⟨⟨⟨⟨⟨⟨⟨⟨⟨⟨⟨⟨⟨⟨⟨⟨⟨⟨⟨⟨⟨⟨⟨⟨⟨⟨⟨⟨⟨⟨⟨⟨⟨⟨⟨⟨⟨⟨⟨q0,q1⟩,q2⟩,q3⟩,q4⟩,q5⟩,q6⟩,q7⟩,q8⟩,q9⟩,q10⟩,q11⟩,q12⟩,q13⟩,q14⟩,q15⟩,q16⟩,q17⟩,q18⟩,q19⟩,q20⟩,q21⟩,q22⟩,q23⟩,q24⟩,q25⟩,q26⟩,q27⟩,q28⟩,q29⟩,q30⟩,q31⟩,q32⟩,q33⟩,q34⟩,q35⟩,q36⟩,q37⟩,q38⟩,q39⟩,q40⟩,q41⟩,q42⟩,q43⟩,q44⟩,q45⟩,q46⟩,q47⟩,q48⟩,q49⟩:=hg
  obtain rfl:=nE q0
  obtain rfl:=bE q1
  obtain rfl:=bE q2
  obtain rfl:=nE q3
  obtain rfl:=bE q4
  obtain rfl:=bE q5
  obtain rfl:=nE q6
  obtain rfl:=bE q7
  obtain rfl:=bE q8
  obtain rfl:=nE q9
  obtain rfl:=bE q10
  obtain rfl:=bE q11
  obtain rfl:=nE q12
  obtain rfl:=bE q13
  obtain rfl:=bE q14
  obtain rfl:=bE q15
  obtain rfl:=nE q16
  obtain rfl:=bE q17
  obtain rfl:=bE q18
  obtain rfl:=nE q19
  obtain rfl:=bE q20
  obtain rfl:=bE q21
  obtain rfl:=nE q22
  obtain rfl:=bE q23
  obtain rfl:=bE q24
  obtain rfl:=nE q25
  obtain rfl:=bE q26
  obtain rfl:=nE q27
  obtain rfl:=bE q28
  obtain rfl:=bE q29
  obtain rfl:=nE q30
  obtain rfl:=bE q31
  obtain rfl:=bE q32
  obtain rfl:=nE q33
  obtain rfl:=nE q34
  obtain rfl:=nE q35
  obtain rfl:=nE q36
  obtain rfl:=nE q37
  obtain rfl:=nE q38
  obtain rfl:=nE q39
  obtain rfl:=nE q40
  obtain rfl:=nE q41
  obtain rfl:=cE q42
  obtain rfl:=nE q43
  obtain rfl:=cE q44
  obtain rfl:=nE q45
  obtain rfl:=cE q46
  obtain rfl:=nE q47
  obtain rfl:=bE q48
  obtain rfl:=nE q49
  refine ⟨(2100),?_⟩
  rw [← h]
  exact loop_run (E187_0 t2) (K187_0 t2 k) (st187_0 t2 k) _ (.inl (h2_0,h2_1,h2_2,h4_0,h4_1,h4_2,h5,h6,h7,h8,h10))
 ·rename_i t2 g0 g1 g2 g3 g4 g5 g6 g7 g8 g9 g10 g11 g12 g13 g14 g15 g16 g17 g18 g19 g20 g21 g22 g23 g24 g25 g26 h0 g27 g28 h1 g29 g30 h2 g31 g32 g33 g34 g35 g36 g37 g38 g39 g40 g41 g42 g43 h5_0 h5_1 h5_2 g44 g45 h7_0 h7_1 h7_2 g46 h8 g47 g48 h9 g49 g50 h10 g51 g52 h11 g53 g54 g55 h13
  obtain ⟨hg,h⟩:=bif_some h
  simp only [Bool.and_eq_true] at hg
  obtain ⟨⟨⟨⟨⟨⟨⟨⟨⟨⟨⟨⟨⟨⟨⟨⟨⟨⟨⟨⟨⟨⟨⟨⟨⟨⟨⟨⟨⟨⟨⟨⟨⟨⟨⟨⟨⟨⟨⟨⟨⟨⟨⟨⟨⟨⟨⟨⟨⟨⟨⟨⟨⟨⟨⟨q0,q1⟩,q2⟩,q3⟩,q4⟩,q5⟩,q6⟩,q7⟩,q8⟩,q9⟩,q10⟩,q11⟩,q12⟩,q13⟩,q14⟩,q15⟩,q16⟩,q17⟩,q18⟩,q19⟩,q20⟩,q21⟩,q22⟩,q23⟩,q24⟩,q25⟩,q26⟩,q27⟩,q28⟩,q29⟩,q30⟩,q31⟩,q32⟩,q33⟩,q34⟩,q35⟩,q36⟩,q37⟩,q38⟩,q39⟩,q40⟩,q41⟩,q42⟩,q43⟩,q44⟩,q45⟩,q46⟩,q47⟩,q48⟩,q49⟩,q50⟩,q51⟩,q52⟩,q53⟩,q54⟩,q55⟩:=hg
  obtain rfl:=nE q0
  obtain rfl:=bE q1
  obtain rfl:=bE q2
  obtain rfl:=nE q3
  obtain rfl:=bE q4
  obtain rfl:=bE q5
  obtain rfl:=nE q6
  obtain rfl:=bE q7
  obtain rfl:=bE q8
  obtain rfl:=nE q9
  obtain rfl:=bE q10
  obtain rfl:=bE q11
  obtain rfl:=nE q12
  obtain rfl:=bE q13
  obtain rfl:=bE q14
  obtain rfl:=bE q15
  obtain rfl:=nE q16
  obtain rfl:=bE q17
  obtain rfl:=bE q18
  obtain rfl:=nE q19
  obtain rfl:=bE q20
  obtain rfl:=bE q21
  obtain rfl:=nE q22
  obtain rfl:=bE q23
  obtain rfl:=bE q24
  obtain rfl:=nE q25
  obtain rfl:=cE q26
  obtain rfl:=nE q27
  obtain rfl:=cE q28
  obtain rfl:=nE q29
  obtain rfl:=cE q30
  obtain rfl:=nE q31
  obtain rfl:=bE q32
  obtain rfl:=nE q33
  obtain rfl:=bE q34
  obtain rfl:=bE q35
  obtain rfl:=nE q36
  obtain rfl:=bE q37
  obtain rfl:=bE q38
  obtain rfl:=nE q39
  obtain rfl:=nE q40
  obtain rfl:=nE q41
  obtain rfl:=nE q42
  obtain rfl:=nE q43
  obtain rfl:=nE q44
  obtain rfl:=nE q45
  obtain rfl:=nE q46
  obtain rfl:=nE q47
  obtain rfl:=cE q48
  obtain rfl:=nE q49
  obtain rfl:=cE q50
  obtain rfl:=nE q51
  obtain rfl:=cE q52
  obtain rfl:=nE q53
  obtain rfl:=bE q54
  obtain rfl:=nE q55
  refine ⟨(2100),?_⟩
  rw [← h]
  exact loop_run (E187_0 t2) (K187_0 t2 k) (st187_0 t2 k) _ (.inr (h0,h1,h2,h5_0,h5_1,h5_2,h7_0,h7_1,h7_2,h8,h9,h10,h11,h13))
 ·cases h
def q187 (ya yb yc a2:Int) (b0 b1 b2:List AV) (b4:Int):Bool:=(ro (runW (R187_0 a2) (2100) (.inl (ya,yb,yc,0,0,0,0,b0,b1,b2,b4))) false (sumE (fun p60=>(q142 p60.2.2.2.2.2.2.2.1 p60.2.2.2.2.2.2.2.2.1 p60.2.2.2.2.2.2.2.2.2.1 a2 && (bif (v142_0 p60.2.2.2.2.2.2.2.1 p60.2.2.2.2.2.2.2.2.1 p60.2.2.2.2.2.2.2.2.2.1 a2) then true else (q143 p60.2.2.2.2.2.2.2.1 p60.2.2.2.2.2.2.2.2.1 p60.2.2.2.2.2.2.2.2.2.1 a2 && q110 p60.2.2.2.2.2.2.2.1 p60.2.2.2.2.2.2.2.2.1 p60.2.2.2.2.2.2.2.2.2.1 a2)))) (fun p61=>(q142 p61.1 p61.2.1 p61.2.2.1 a2 && (bif (v142_0 p61.1 p61.2.1 p61.2.2.1 a2) then true else (q143 p61.1 p61.2.1 p61.2.2.1 a2 && q110 p61.1 p61.2.1 p61.2.2.1 a2))))))
def v187_0 (ya yb yc a2:Int) (b0 b1 b2:List AV) (b4:Int):List AV:=(ro (runW (R187_0 a2) (2100) (.inl (ya,yb,yc,0,0,0,0,b0,b1,b2,b4))) [] (sumE (fun p60=>(bif (v142_0 p60.2.2.2.2.2.2.2.1 p60.2.2.2.2.2.2.2.2.1 p60.2.2.2.2.2.2.2.2.2.1 a2) then p60.2.2.2.2.2.2.2.1 else (v110_0 p60.2.2.2.2.2.2.2.1 p60.2.2.2.2.2.2.2.2.1 p60.2.2.2.2.2.2.2.2.2.1 a2))) (fun p61=>(bif (v142_0 p61.1 p61.2.1 p61.2.2.1 a2) then p61.1 else (v110_0 p61.1 p61.2.1 p61.2.2.1 a2)))))
def v187_1 (ya yb yc a2:Int) (b0 b1 b2:List AV) (b4:Int):List AV:=(ro (runW (R187_0 a2) (2100) (.inl (ya,yb,yc,0,0,0,0,b0,b1,b2,b4))) [] (sumE (fun p60=>(bif (v142_0 p60.2.2.2.2.2.2.2.1 p60.2.2.2.2.2.2.2.2.1 p60.2.2.2.2.2.2.2.2.2.1 a2) then p60.2.2.2.2.2.2.2.2.1 else (v110_1 p60.2.2.2.2.2.2.2.1 p60.2.2.2.2.2.2.2.2.1 p60.2.2.2.2.2.2.2.2.2.1 a2))) (fun p61=>(bif (v142_0 p61.1 p61.2.1 p61.2.2.1 a2) then p61.2.1 else (v110_1 p61.1 p61.2.1 p61.2.2.1 a2)))))
def v187_2 (ya yb yc a2:Int) (b0 b1 b2:List AV) (b4:Int):List AV:=(ro (runW (R187_0 a2) (2100) (.inl (ya,yb,yc,0,0,0,0,b0,b1,b2,b4))) [] (sumE (fun p60=>(bif (v142_0 p60.2.2.2.2.2.2.2.1 p60.2.2.2.2.2.2.2.2.1 p60.2.2.2.2.2.2.2.2.2.1 a2) then p60.2.2.2.2.2.2.2.2.2.1 else (v110_2 p60.2.2.2.2.2.2.2.1 p60.2.2.2.2.2.2.2.2.1 p60.2.2.2.2.2.2.2.2.2.1 a2))) (fun p61=>(bif (v142_0 p61.1 p61.2.1 p61.2.2.1 a2) then p61.2.2.1 else (v110_2 p61.1 p61.2.1 p61.2.2.1 a2)))))
def v187_3 (ya yb yc a2:Int) (b0 b1 b2:List AV) (b4:Int):Int:=(ro (runW (R187_0 a2) (2100) (.inl (ya,yb,yc,0,0,0,0,b0,b1,b2,b4))) 0 (sumE (fun p60=>p60.1) (fun p61=>p61.2.2.2.1)))
def v187_4 (ya yb yc a2:Int) (b0 b1 b2:List AV) (b4:Int):Int:=(ro (runW (R187_0 a2) (2100) (.inl (ya,yb,yc,0,0,0,0,b0,b1,b2,b4))) 0 (sumE (fun p60=>p60.2.1) (fun p61=>p61.2.2.2.2.1)))
def v187_5 (ya yb yc a2:Int) (b0 b1 b2:List AV) (b4:Int):Int:=(ro (runW (R187_0 a2) (2100) (.inl (ya,yb,yc,0,0,0,0,b0,b1,b2,b4))) 0 (sumE (fun p60=>p60.2.2.1) (fun p61=>p61.2.2.2.2.2.1)))
def v187_6 (ya yb yc a2:Int) (b0 b1 b2:List AV) (b4:Int):Int:=(ro (runW (R187_0 a2) (2100) (.inl (ya,yb,yc,0,0,0,0,b0,b1,b2,b4))) 0 (sumE (fun p60=>(bif (v142_0 p60.2.2.2.2.2.2.2.1 p60.2.2.2.2.2.2.2.2.1 p60.2.2.2.2.2.2.2.2.2.1 a2) then p60.2.2.2.2.2.2.1 else IntKind.i64.wrap (p60.2.2.2.2.2.2.1+((v110_3 p60.2.2.2.2.2.2.2.1 p60.2.2.2.2.2.2.2.2.1 p60.2.2.2.2.2.2.2.2.2.1 a2).length:Int)))) (fun p61=>(bif (v142_0 p61.1 p61.2.1 p61.2.2.1 a2) then p61.2.2.2.2.2.2.2.2.2.1 else IntKind.i64.wrap (p61.2.2.2.2.2.2.2.2.2.1+((v110_3 p61.1 p61.2.1 p61.2.2.1 a2).length:Int))))))
def v187_7 (ya yb yc a2:Int) (b0 b1 b2:List AV) (b4:Int):Int:=(ro (runW (R187_0 a2) (2100) (.inl (ya,yb,yc,0,0,0,0,b0,b1,b2,b4))) 0 (sumE (fun p60=>p60.2.2.2.2.2.2.2.2.2.2) (fun p61=>p61.2.2.2.2.2.2.2.2.2.2.2.2.2)))
theorem e187 (ya yb yc a2:Int) (b0 b1 b2:List AV) (b4:Int) (K:List AV→List (Option Blk)→Option AV):inlA c187 2 187 [AV.agg [AV.own [1],AV.own [2],AV.own [3]],AV.agg [Ai ya,Ai yb,Ai yc],Ai a2,AV.fn 159 [AV.ptr [4] 0 0,AV.ptr [5] 0 0]] [0] (canH 1 [⟨false,[.int .i64],b0⟩,⟨false,[.int .i64],b1⟩,⟨false,[.int .i64,.int .i64],b2⟩,⟨true,[],[AV.fn 132 []]⟩,⟨true,[],[Ai b4]⟩]) (keepG Tryz.prog 5 [28,106,3] [0,1,2] K)=(ro (runW (R187_0 a2) (2100) (.inl (ya,yb,yc,0,0,0,0,b0,b1,b2,b4))) none (sumE (fun p60=>(bif q142 p60.2.2.2.2.2.2.2.1 p60.2.2.2.2.2.2.2.2.1 p60.2.2.2.2.2.2.2.2.2.1 a2 then (bif (v142_0 p60.2.2.2.2.2.2.2.1 p60.2.2.2.2.2.2.2.2.1 p60.2.2.2.2.2.2.2.2.2.1 a2) then K [AV.agg [AV.fl [.int .i64] p60.2.2.2.2.2.2.2.1,AV.fl [.int .i64] p60.2.2.2.2.2.2.2.2.1,AV.fl [.int .i64,.int .i64] p60.2.2.2.2.2.2.2.2.2.1],AV.agg [Ai p60.1,Ai p60.2.1,Ai p60.2.2.1],Ai p60.2.2.2.2.2.2.1] [none,none,none,some ⟨true,[],[AV.fn 132 []]⟩,some ⟨true,[],[Ai p60.2.2.2.2.2.2.2.2.2.2]⟩]
 else (bif q143 p60.2.2.2.2.2.2.2.1 p60.2.2.2.2.2.2.2.2.1 p60.2.2.2.2.2.2.2.2.2.1 a2 then (bif q110 p60.2.2.2.2.2.2.2.1 p60.2.2.2.2.2.2.2.2.1 p60.2.2.2.2.2.2.2.2.2.1 a2 then K [AV.agg [AV.fl [.int .i64] (v110_0 p60.2.2.2.2.2.2.2.1 p60.2.2.2.2.2.2.2.2.1 p60.2.2.2.2.2.2.2.2.2.1 a2),AV.fl [.int .i64] (v110_1 p60.2.2.2.2.2.2.2.1 p60.2.2.2.2.2.2.2.2.1 p60.2.2.2.2.2.2.2.2.2.1 a2),AV.fl [.int .i64,.int .i64] (v110_2 p60.2.2.2.2.2.2.2.1 p60.2.2.2.2.2.2.2.2.1 p60.2.2.2.2.2.2.2.2.2.1 a2)],AV.agg [Ai p60.1,Ai p60.2.1,Ai p60.2.2.1],Ai (IntKind.i64.wrap (p60.2.2.2.2.2.2.1+((v110_3 p60.2.2.2.2.2.2.2.1 p60.2.2.2.2.2.2.2.2.1 p60.2.2.2.2.2.2.2.2.2.1 a2).length:Int)))] [none,none,none,some ⟨true,[],[AV.fn 132 []]⟩,some ⟨true,[],[Ai p60.2.2.2.2.2.2.2.2.2.2]⟩]
 else none)
 else none))
 else none)) (fun p61=>(bif q142 p61.1 p61.2.1 p61.2.2.1 a2 then (bif (v142_0 p61.1 p61.2.1 p61.2.2.1 a2) then K [AV.agg [AV.fl [.int .i64] p61.1,AV.fl [.int .i64] p61.2.1,AV.fl [.int .i64,.int .i64] p61.2.2.1],AV.agg [Ai p61.2.2.2.1,Ai p61.2.2.2.2.1,Ai p61.2.2.2.2.2.1],Ai p61.2.2.2.2.2.2.2.2.2.1] [none,none,none,some ⟨true,[],[AV.fn 132 []]⟩,some ⟨true,[],[Ai p61.2.2.2.2.2.2.2.2.2.2.2.2.2]⟩]
 else (bif q143 p61.1 p61.2.1 p61.2.2.1 a2 then (bif q110 p61.1 p61.2.1 p61.2.2.1 a2 then K [AV.agg [AV.fl [.int .i64] (v110_0 p61.1 p61.2.1 p61.2.2.1 a2),AV.fl [.int .i64] (v110_1 p61.1 p61.2.1 p61.2.2.1 a2),AV.fl [.int .i64,.int .i64] (v110_2 p61.1 p61.2.1 p61.2.2.1 a2)],AV.agg [Ai p61.2.2.2.1,Ai p61.2.2.2.2.1,Ai p61.2.2.2.2.2.1],Ai (IntKind.i64.wrap (p61.2.2.2.2.2.2.2.2.2.1+((v110_3 p61.1 p61.2.1 p61.2.2.1 a2).length:Int)))] [none,none,none,some ⟨true,[],[AV.fn 132 []]⟩,some ⟨true,[],[Ai p61.2.2.2.2.2.2.2.2.2.2.2.2.2]⟩]
 else none)
 else none))
 else none)))):=by kernel_rfl
theorem r187 (ya yb yc a2:Int) (b0 b1 b2:List AV) (b4:Int) (K:List AV→List (Option Blk)→Option AV) (h:q187 ya yb yc a2 b0 b1 b2 b4=true):inlA c187 2 187 [AV.agg [AV.own [1],AV.own [2],AV.own [3]],AV.agg [AV.int .i64 ya,AV.int .i64 yb,AV.int .i64 yc],AV.int .i64 a2,AV.fn 159 [AV.ptr [4] 0 0,AV.ptr [5] 0 0]] [0] (canH 1 [⟨false,[.int .i64],b0⟩,⟨false,[.int .i64],b1⟩,⟨false,[.int .i64,.int .i64],b2⟩,⟨true,[],[AV.fn 132 []]⟩,⟨true,[],[AV.int .i64 b4]⟩]) (keepG Tryz.prog 5 [28,106,3] [0,1,2] K)=K [AV.agg [AV.fl [.int .i64] (v187_0 ya yb yc a2 b0 b1 b2 b4),AV.fl [.int .i64] (v187_1 ya yb yc a2 b0 b1 b2 b4),AV.fl [.int .i64,.int .i64] (v187_2 ya yb yc a2 b0 b1 b2 b4)],AV.agg [AV.int .i64 (v187_3 ya yb yc a2 b0 b1 b2 b4),AV.int .i64 (v187_4 ya yb yc a2 b0 b1 b2 b4),AV.int .i64 (v187_5 ya yb yc a2 b0 b1 b2 b4)],AV.int .i64 (v187_6 ya yb yc a2 b0 b1 b2 b4)] [none,none,none,some ⟨true,[],[AV.fn 132 []]⟩,some ⟨true,[],[AV.int .i64 (v187_7 ya yb yc a2 b0 b1 b2 b4)]⟩]:=by
 refine (e187 ya yb yc a2 b0 b1 b2 b4 K).trans ?_
 unfold q187 at h
 unfold v187_0 v187_1 v187_2 v187_3 v187_4 v187_5 v187_6 v187_7
 generalize runW (R187_0 a2) (2100) (.inl (ya,yb,yc,0,0,0,0,b0,b1,b2,b4))=o at h ⊢
 cases o with
 | none=>cases h
 | some o =>
  cases o with
  | inl p60 =>
   simp only [ro,sumE] at h ⊢
   exact (brL (br (fun b=>K [AV.agg [AV.fl [.int .i64] (bif b then p60.2.2.2.2.2.2.2.1 else (v110_0 p60.2.2.2.2.2.2.2.1 p60.2.2.2.2.2.2.2.2.1 p60.2.2.2.2.2.2.2.2.2.1 a2)),AV.fl [.int .i64] (bif b then p60.2.2.2.2.2.2.2.2.1 else (v110_1 p60.2.2.2.2.2.2.2.1 p60.2.2.2.2.2.2.2.2.1 p60.2.2.2.2.2.2.2.2.2.1 a2)),AV.fl [.int .i64,.int .i64] (bif b then p60.2.2.2.2.2.2.2.2.2.1 else (v110_2 p60.2.2.2.2.2.2.2.1 p60.2.2.2.2.2.2.2.2.1 p60.2.2.2.2.2.2.2.2.2.1 a2))],AV.agg [AV.int .i64 p60.1,AV.int .i64 p60.2.1,AV.int .i64 p60.2.2.1],AV.int .i64 (bif b then p60.2.2.2.2.2.2.1 else IntKind.i64.wrap (p60.2.2.2.2.2.2.1+((v110_3 p60.2.2.2.2.2.2.2.1 p60.2.2.2.2.2.2.2.2.1 p60.2.2.2.2.2.2.2.2.2.1 a2).length:Int)))] [none,none,none,some ⟨true,[],[AV.fn 132 []]⟩,some ⟨true,[],[AV.int .i64 p60.2.2.2.2.2.2.2.2.2.2]⟩]) (fun _=>rfl) (brL (brL1 (fun _=>rfl))))) h
  | inr p61 =>
   simp only [ro,sumE] at h ⊢
   exact (brL (br (fun b=>K [AV.agg [AV.fl [.int .i64] (bif b then p61.1 else (v110_0 p61.1 p61.2.1 p61.2.2.1 a2)),AV.fl [.int .i64] (bif b then p61.2.1 else (v110_1 p61.1 p61.2.1 p61.2.2.1 a2)),AV.fl [.int .i64,.int .i64] (bif b then p61.2.2.1 else (v110_2 p61.1 p61.2.1 p61.2.2.1 a2))],AV.agg [AV.int .i64 p61.2.2.2.1,AV.int .i64 p61.2.2.2.2.1,AV.int .i64 p61.2.2.2.2.2.1],AV.int .i64 (bif b then p61.2.2.2.2.2.2.2.2.2.1 else IntKind.i64.wrap (p61.2.2.2.2.2.2.2.2.2.1+((v110_3 p61.1 p61.2.1 p61.2.2.1 a2).length:Int)))] [none,none,none,some ⟨true,[],[AV.fn 132 []]⟩,some ⟨true,[],[AV.int .i64 p61.2.2.2.2.2.2.2.2.2.2.2.2.2]⟩]) (fun _=>rfl) (brL (brL1 (fun _=>rfl))))) h
def m187:GModel
 | [.agg [.own g0,.own g1,.own g2],.agg [.int .i64 ya,.int .i64 yb,.int .i64 yc],.int .i64 a2,.fn g3 [.ptr g4 g5 g6,.ptr g7 g8 g9]],[⟨false,g10,b0⟩,⟨false,g11,b1⟩,⟨false,g12,b2⟩,⟨true,[],[.fn g13 []]⟩,⟨true,[],[.int .i64 b4]⟩]=>bif nmEq g0 ([1]) && nmEq g1 ([2]) && nmEq g2 ([3]) && Nat.beq g3 159 && nmEq g4 ([4]) && Nat.beq g5 0 && Nat.beq g6 0 && nmEq g7 ([5]) && Nat.beq g8 0 && Nat.beq g9 0 && ctsEq g10 ([.int .i64]) && ctsEq g11 ([.int .i64]) && ctsEq g12 ([.int .i64,.int .i64]) && Nat.beq g13 132 then some (q187 ya yb yc a2 b0 b1 b2 b4,[AV.agg [AV.fl [.int .i64] (v187_0 ya yb yc a2 b0 b1 b2 b4),AV.fl [.int .i64] (v187_1 ya yb yc a2 b0 b1 b2 b4),AV.fl [.int .i64,.int .i64] (v187_2 ya yb yc a2 b0 b1 b2 b4)],AV.agg [AV.int .i64 (v187_3 ya yb yc a2 b0 b1 b2 b4),AV.int .i64 (v187_4 ya yb yc a2 b0 b1 b2 b4),AV.int .i64 (v187_5 ya yb yc a2 b0 b1 b2 b4)],AV.int .i64 (v187_6 ya yb yc a2 b0 b1 b2 b4)],[none,none,none,some ⟨true,[],[AV.fn 132 []]⟩,some ⟨true,[],[AV.int .i64 (v187_7 ya yb yc a2 b0 b1 b2 b4)]⟩]) else none
 | _,_=>none
theorem k187:Known Tryz.prog 187:=⟨Tryz.f187,Tryz.func187,by kernel_rfl,by kernel_rfl⟩
theorem i187_201:InlK Tryz.prog [(187,0,[2,4,5,8,9,11,12]),(187,999,[8,9,10]),(187,1000,[2,4,5,8,9,11,12]),(187,1001,[2,4,5,8,9,11,12]),(201,999,[])] [(110,m110),(142,m142),(143,m143),(159,m159),(202,m202)] [] [201] [(187,0,l187_0)] 201:=⟨⟨Tryz.f201,Tryz.func201,by kernel_rfl,by kernel_rfl⟩,Tryz.f201,[],Tryz.func201,by kernel_rfl,fun ce π=>noLoop⟩
theorem meets187:MeetsG Tryz.prog 187 m187:=by
 refine mg (rt:=[28,106,3]) (gs:=[0,1,2]) (lvl:=1) (cf:=c187) rfl mixed k187 Tryz.func187 (by kernel_rfl) (loops_cons ok187_0 noLoop) (allT_cons meets110 (allT_cons meets142 (allT_cons meets143 (allT_cons meets159 (allT_cons meets202 allT_nil))))) allM_nil (allI_cons i187_201 noI) fun xs bs r bs' h K=>?_
 unfold m187 at h
 split at h
 ·rename_i g0 g1 g2 ya yb yc a2 g3 g4 g5 g6 g7 g8 g9 g10 b0 g11 b1 g12 b2 g13 b4
  obtain ⟨hg,h⟩:=bif_pair h
  simp only [Bool.and_eq_true] at hg
  obtain ⟨⟨⟨⟨⟨⟨⟨⟨⟨⟨⟨⟨⟨q0,q1⟩,q2⟩,q3⟩,q4⟩,q5⟩,q6⟩,q7⟩,q8⟩,q9⟩,q10⟩,q11⟩,q12⟩,q13⟩:=hg
  obtain rfl:=nE q0
  obtain rfl:=nE q1
  obtain rfl:=nE q2
  obtain rfl:=bE q3
  obtain rfl:=nE q4
  obtain rfl:=bE q5
  obtain rfl:=bE q6
  obtain rfl:=nE q7
  obtain rfl:=bE q8
  obtain rfl:=bE q9
  obtain rfl:=cE q10
  obtain rfl:=cE q11
  obtain rfl:=cE q12
  obtain rfl:=bE q13
  obtain ⟨h1,rfl,rfl⟩:=trip_inj h
  exact r187 ya yb yc a2 b0 b1 b2 b4 K h1
 ·cases h
noncomputable def c100:Cfg:=cfg Tryz.prog [(100,999,[6])] [(61,m61),(82,m82)] [] [] []
def q100 (xa xb xc:List AV) (a1 a2:Int):Bool:=(q61 xa xb xc && (bif !(v61_0 xa xb xc) then true else (bif decide (a1<0) then true else (bif decide (a1 > a2) then true else (bif decide (a2 > (xb.length:Int)) then true else ((decide (0≤a1) && decide (a1≤a2) && decide (a2≤(xb.length:Int))) && q82 ((xb.take (Int.toNat a2)).drop (Int.toNat a1))))))))
def v100_0 (xa xb xc:List AV) (a1 a2:Int):List AV:=(bif !(v61_0 xa xb xc) then ([]:List AV) else (bif decide (a1<0) then ([]:List AV) else (bif decide (a1 > a2) then ([]:List AV) else (bif decide (a2 > (xb.length:Int)) then ([]:List AV) else (v82_0 ((xb.take (Int.toNat a2)).drop (Int.toNat a1)))))))
theorem e100 (xa xb xc:List AV) (a1 a2:Int):funA c100 0 100 [AV.agg [AV.sl [.int .i64] xa,AV.sl [.int .i64] xb,AV.sl [.int .i64,.int .i64] xc],Ai a1,Ai a2]=(bif q61 xa xb xc then (bif !(v61_0 xa xb xc) then some (AV.fl [.int .i64] ([]:List AV))
 else (bif decide (a1<0) then some (AV.fl [.int .i64] ([]:List AV))
 else (bif decide (a1 > a2) then some (AV.fl [.int .i64] ([]:List AV))
 else (bif decide (a2 > (xb.length:Int)) then some (AV.fl [.int .i64] ([]:List AV))
 else (bif (decide (0≤a1) && decide (a1≤a2) && decide (a2≤(xb.length:Int))) then (bif q82 ((xb.take (Int.toNat a2)).drop (Int.toNat a1)) then some (AV.fl [.int .i64] (v82_0 ((xb.take (Int.toNat a2)).drop (Int.toNat a1))))
 else none)
 else none)))))
 else none):=by kernel_rfl
def m100:TModel
 | [.agg [.sl g0 xa,.sl g1 xb,.sl g2 xc],.int .i64 a1,.int .i64 a2]=>bif ctsEq g0 ([.int .i64]) && ctsEq g1 ([.int .i64]) && ctsEq g2 ([.int .i64,.int .i64]) then some (q100 xa xb xc a1 a2,AV.fl [.int .i64] (v100_0 xa xb xc a1 a2)) else none
 | _=>none
theorem k100:Known Tryz.prog 100:=⟨Tryz.f100,Tryz.func100,by kernel_rfl,by kernel_rfl⟩
theorem meets100:Meets Tryz.prog 100 m100:=by
 refine mt (lvl:=0) (cf:=c100) rfl mixed k100 Tryz.func100 (by kernel_rfl) noLoop (allT_cons meets61 (allT_cons meets82 allT_nil)) allM_nil noI fun xs r h=>?_
 unfold m100 at h
 split at h
 ·rename_i g0 xa g1 xb g2 xc a1 a2
  obtain ⟨hg,h⟩:=bif_pair h
  simp only [Bool.and_eq_true] at hg
  obtain ⟨⟨q0,q1⟩,q2⟩:=hg
  obtain rfl:=cE q0
  obtain rfl:=cE q1
  obtain rfl:=cE q2
  obtain ⟨h1,rfl⟩:=pair_inj h
  exact (e100 xa xb xc a1 a2).trans ((brL (br (fun b=>some (AV.fl [.int .i64] (bif b then ([]:List AV) else (bif decide (a1<0) then ([]:List AV) else (bif decide (a1 > a2) then ([]:List AV) else (bif decide (a2 > (xb.length:Int)) then ([]:List AV) else (v82_0 ((xb.take (Int.toNat a2)).drop (Int.toNat a1))))))))) (fun _=>rfl) (br (fun b=>some (AV.fl [.int .i64] (bif b then ([]:List AV) else (bif decide (a1 > a2) then ([]:List AV) else (bif decide (a2 > (xb.length:Int)) then ([]:List AV) else (v82_0 ((xb.take (Int.toNat a2)).drop (Int.toNat a1)))))))) (fun _=>rfl) (br (fun b=>some (AV.fl [.int .i64] (bif b then ([]:List AV) else (bif decide (a2 > (xb.length:Int)) then ([]:List AV) else (v82_0 ((xb.take (Int.toNat a2)).drop (Int.toNat a1))))))) (fun _=>rfl) (br (fun b=>some (AV.fl [.int .i64] (bif b then ([]:List AV) else (v82_0 ((xb.take (Int.toNat a2)).drop (Int.toNat a1)))))) (fun _=>rfl) (brL (brL1 (fun _=>rfl)))))))) h1)
 ·cases h
noncomputable def c158:Cfg:=cfg Tryz.prog [(158,999,[8,9,10,11])] [(100,m100),(111,m111)] [(187,.g m187)] [] []
def q158 (ya yb yc za zb:Int) (b0 b1 b2:List AV) (b4:Int):Bool:=(q187 ya yb yc za b0 b1 b2 b4 && (q187 (v187_3 ya yb yc za b0 b1 b2 b4) (v187_4 ya yb yc za b0 b1 b2 b4) (v187_5 ya yb yc za b0 b1 b2 b4) zb (v187_0 ya yb yc za b0 b1 b2 b4) (v187_1 ya yb yc za b0 b1 b2 b4) (v187_2 ya yb yc za b0 b1 b2 b4) (v187_7 ya yb yc za b0 b1 b2 b4) && (q111 (v187_0 (v187_3 ya yb yc za b0 b1 b2 b4) (v187_4 ya yb yc za b0 b1 b2 b4) (v187_5 ya yb yc za b0 b1 b2 b4) zb (v187_0 ya yb yc za b0 b1 b2 b4) (v187_1 ya yb yc za b0 b1 b2 b4) (v187_2 ya yb yc za b0 b1 b2 b4) (v187_7 ya yb yc za b0 b1 b2 b4)) (v187_1 (v187_3 ya yb yc za b0 b1 b2 b4) (v187_4 ya yb yc za b0 b1 b2 b4) (v187_5 ya yb yc za b0 b1 b2 b4) zb (v187_0 ya yb yc za b0 b1 b2 b4) (v187_1 ya yb yc za b0 b1 b2 b4) (v187_2 ya yb yc za b0 b1 b2 b4) (v187_7 ya yb yc za b0 b1 b2 b4)) (v187_2 (v187_3 ya yb yc za b0 b1 b2 b4) (v187_4 ya yb yc za b0 b1 b2 b4) (v187_5 ya yb yc za b0 b1 b2 b4) zb (v187_0 ya yb yc za b0 b1 b2 b4) (v187_1 ya yb yc za b0 b1 b2 b4) (v187_2 ya yb yc za b0 b1 b2 b4) (v187_7 ya yb yc za b0 b1 b2 b4)) za && (q111 (v187_0 (v187_3 ya yb yc za b0 b1 b2 b4) (v187_4 ya yb yc za b0 b1 b2 b4) (v187_5 ya yb yc za b0 b1 b2 b4) zb (v187_0 ya yb yc za b0 b1 b2 b4) (v187_1 ya yb yc za b0 b1 b2 b4) (v187_2 ya yb yc za b0 b1 b2 b4) (v187_7 ya yb yc za b0 b1 b2 b4)) (v187_1 (v187_3 ya yb yc za b0 b1 b2 b4) (v187_4 ya yb yc za b0 b1 b2 b4) (v187_5 ya yb yc za b0 b1 b2 b4) zb (v187_0 ya yb yc za b0 b1 b2 b4) (v187_1 ya yb yc za b0 b1 b2 b4) (v187_2 ya yb yc za b0 b1 b2 b4) (v187_7 ya yb yc za b0 b1 b2 b4)) (v187_2 (v187_3 ya yb yc za b0 b1 b2 b4) (v187_4 ya yb yc za b0 b1 b2 b4) (v187_5 ya yb yc za b0 b1 b2 b4) zb (v187_0 ya yb yc za b0 b1 b2 b4) (v187_1 ya yb yc za b0 b1 b2 b4) (v187_2 ya yb yc za b0 b1 b2 b4) (v187_7 ya yb yc za b0 b1 b2 b4)) zb && q100 (v187_0 (v187_3 ya yb yc za b0 b1 b2 b4) (v187_4 ya yb yc za b0 b1 b2 b4) (v187_5 ya yb yc za b0 b1 b2 b4) zb (v187_0 ya yb yc za b0 b1 b2 b4) (v187_1 ya yb yc za b0 b1 b2 b4) (v187_2 ya yb yc za b0 b1 b2 b4) (v187_7 ya yb yc za b0 b1 b2 b4)) (v187_1 (v187_3 ya yb yc za b0 b1 b2 b4) (v187_4 ya yb yc za b0 b1 b2 b4) (v187_5 ya yb yc za b0 b1 b2 b4) zb (v187_0 ya yb yc za b0 b1 b2 b4) (v187_1 ya yb yc za b0 b1 b2 b4) (v187_2 ya yb yc za b0 b1 b2 b4) (v187_7 ya yb yc za b0 b1 b2 b4)) (v187_2 (v187_3 ya yb yc za b0 b1 b2 b4) (v187_4 ya yb yc za b0 b1 b2 b4) (v187_5 ya yb yc za b0 b1 b2 b4) zb (v187_0 ya yb yc za b0 b1 b2 b4) (v187_1 ya yb yc za b0 b1 b2 b4) (v187_2 ya yb yc za b0 b1 b2 b4) (v187_7 ya yb yc za b0 b1 b2 b4)) (v111_0 (v187_0 (v187_3 ya yb yc za b0 b1 b2 b4) (v187_4 ya yb yc za b0 b1 b2 b4) (v187_5 ya yb yc za b0 b1 b2 b4) zb (v187_0 ya yb yc za b0 b1 b2 b4) (v187_1 ya yb yc za b0 b1 b2 b4) (v187_2 ya yb yc za b0 b1 b2 b4) (v187_7 ya yb yc za b0 b1 b2 b4)) (v187_1 (v187_3 ya yb yc za b0 b1 b2 b4) (v187_4 ya yb yc za b0 b1 b2 b4) (v187_5 ya yb yc za b0 b1 b2 b4) zb (v187_0 ya yb yc za b0 b1 b2 b4) (v187_1 ya yb yc za b0 b1 b2 b4) (v187_2 ya yb yc za b0 b1 b2 b4) (v187_7 ya yb yc za b0 b1 b2 b4)) (v187_2 (v187_3 ya yb yc za b0 b1 b2 b4) (v187_4 ya yb yc za b0 b1 b2 b4) (v187_5 ya yb yc za b0 b1 b2 b4) zb (v187_0 ya yb yc za b0 b1 b2 b4) (v187_1 ya yb yc za b0 b1 b2 b4) (v187_2 ya yb yc za b0 b1 b2 b4) (v187_7 ya yb yc za b0 b1 b2 b4)) za) (v111_0 (v187_0 (v187_3 ya yb yc za b0 b1 b2 b4) (v187_4 ya yb yc za b0 b1 b2 b4) (v187_5 ya yb yc za b0 b1 b2 b4) zb (v187_0 ya yb yc za b0 b1 b2 b4) (v187_1 ya yb yc za b0 b1 b2 b4) (v187_2 ya yb yc za b0 b1 b2 b4) (v187_7 ya yb yc za b0 b1 b2 b4)) (v187_1 (v187_3 ya yb yc za b0 b1 b2 b4) (v187_4 ya yb yc za b0 b1 b2 b4) (v187_5 ya yb yc za b0 b1 b2 b4) zb (v187_0 ya yb yc za b0 b1 b2 b4) (v187_1 ya yb yc za b0 b1 b2 b4) (v187_2 ya yb yc za b0 b1 b2 b4) (v187_7 ya yb yc za b0 b1 b2 b4)) (v187_2 (v187_3 ya yb yc za b0 b1 b2 b4) (v187_4 ya yb yc za b0 b1 b2 b4) (v187_5 ya yb yc za b0 b1 b2 b4) zb (v187_0 ya yb yc za b0 b1 b2 b4) (v187_1 ya yb yc za b0 b1 b2 b4) (v187_2 ya yb yc za b0 b1 b2 b4) (v187_7 ya yb yc za b0 b1 b2 b4)) zb)))))
def v158_0 (ya yb yc za zb:Int) (b0 b1 b2:List AV) (b4:Int):List AV:=(v187_0 (v187_3 ya yb yc za b0 b1 b2 b4) (v187_4 ya yb yc za b0 b1 b2 b4) (v187_5 ya yb yc za b0 b1 b2 b4) zb (v187_0 ya yb yc za b0 b1 b2 b4) (v187_1 ya yb yc za b0 b1 b2 b4) (v187_2 ya yb yc za b0 b1 b2 b4) (v187_7 ya yb yc za b0 b1 b2 b4))
def v158_1 (ya yb yc za zb:Int) (b0 b1 b2:List AV) (b4:Int):List AV:=(v187_1 (v187_3 ya yb yc za b0 b1 b2 b4) (v187_4 ya yb yc za b0 b1 b2 b4) (v187_5 ya yb yc za b0 b1 b2 b4) zb (v187_0 ya yb yc za b0 b1 b2 b4) (v187_1 ya yb yc za b0 b1 b2 b4) (v187_2 ya yb yc za b0 b1 b2 b4) (v187_7 ya yb yc za b0 b1 b2 b4))
def v158_2 (ya yb yc za zb:Int) (b0 b1 b2:List AV) (b4:Int):List AV:=(v187_2 (v187_3 ya yb yc za b0 b1 b2 b4) (v187_4 ya yb yc za b0 b1 b2 b4) (v187_5 ya yb yc za b0 b1 b2 b4) zb (v187_0 ya yb yc za b0 b1 b2 b4) (v187_1 ya yb yc za b0 b1 b2 b4) (v187_2 ya yb yc za b0 b1 b2 b4) (v187_7 ya yb yc za b0 b1 b2 b4))
def v158_3 (ya yb yc za zb:Int) (b0 b1 b2:List AV) (b4:Int):Int:=(v187_3 (v187_3 ya yb yc za b0 b1 b2 b4) (v187_4 ya yb yc za b0 b1 b2 b4) (v187_5 ya yb yc za b0 b1 b2 b4) zb (v187_0 ya yb yc za b0 b1 b2 b4) (v187_1 ya yb yc za b0 b1 b2 b4) (v187_2 ya yb yc za b0 b1 b2 b4) (v187_7 ya yb yc za b0 b1 b2 b4))
def v158_4 (ya yb yc za zb:Int) (b0 b1 b2:List AV) (b4:Int):Int:=(v187_4 (v187_3 ya yb yc za b0 b1 b2 b4) (v187_4 ya yb yc za b0 b1 b2 b4) (v187_5 ya yb yc za b0 b1 b2 b4) zb (v187_0 ya yb yc za b0 b1 b2 b4) (v187_1 ya yb yc za b0 b1 b2 b4) (v187_2 ya yb yc za b0 b1 b2 b4) (v187_7 ya yb yc za b0 b1 b2 b4))
def v158_5 (ya yb yc za zb:Int) (b0 b1 b2:List AV) (b4:Int):Int:=(v187_5 (v187_3 ya yb yc za b0 b1 b2 b4) (v187_4 ya yb yc za b0 b1 b2 b4) (v187_5 ya yb yc za b0 b1 b2 b4) zb (v187_0 ya yb yc za b0 b1 b2 b4) (v187_1 ya yb yc za b0 b1 b2 b4) (v187_2 ya yb yc za b0 b1 b2 b4) (v187_7 ya yb yc za b0 b1 b2 b4))
def v158_6 (ya yb yc za zb:Int) (b0 b1 b2:List AV) (b4:Int):List AV:=(v100_0 (v187_0 (v187_3 ya yb yc za b0 b1 b2 b4) (v187_4 ya yb yc za b0 b1 b2 b4) (v187_5 ya yb yc za b0 b1 b2 b4) zb (v187_0 ya yb yc za b0 b1 b2 b4) (v187_1 ya yb yc za b0 b1 b2 b4) (v187_2 ya yb yc za b0 b1 b2 b4) (v187_7 ya yb yc za b0 b1 b2 b4)) (v187_1 (v187_3 ya yb yc za b0 b1 b2 b4) (v187_4 ya yb yc za b0 b1 b2 b4) (v187_5 ya yb yc za b0 b1 b2 b4) zb (v187_0 ya yb yc za b0 b1 b2 b4) (v187_1 ya yb yc za b0 b1 b2 b4) (v187_2 ya yb yc za b0 b1 b2 b4) (v187_7 ya yb yc za b0 b1 b2 b4)) (v187_2 (v187_3 ya yb yc za b0 b1 b2 b4) (v187_4 ya yb yc za b0 b1 b2 b4) (v187_5 ya yb yc za b0 b1 b2 b4) zb (v187_0 ya yb yc za b0 b1 b2 b4) (v187_1 ya yb yc za b0 b1 b2 b4) (v187_2 ya yb yc za b0 b1 b2 b4) (v187_7 ya yb yc za b0 b1 b2 b4)) (v111_0 (v187_0 (v187_3 ya yb yc za b0 b1 b2 b4) (v187_4 ya yb yc za b0 b1 b2 b4) (v187_5 ya yb yc za b0 b1 b2 b4) zb (v187_0 ya yb yc za b0 b1 b2 b4) (v187_1 ya yb yc za b0 b1 b2 b4) (v187_2 ya yb yc za b0 b1 b2 b4) (v187_7 ya yb yc za b0 b1 b2 b4)) (v187_1 (v187_3 ya yb yc za b0 b1 b2 b4) (v187_4 ya yb yc za b0 b1 b2 b4) (v187_5 ya yb yc za b0 b1 b2 b4) zb (v187_0 ya yb yc za b0 b1 b2 b4) (v187_1 ya yb yc za b0 b1 b2 b4) (v187_2 ya yb yc za b0 b1 b2 b4) (v187_7 ya yb yc za b0 b1 b2 b4)) (v187_2 (v187_3 ya yb yc za b0 b1 b2 b4) (v187_4 ya yb yc za b0 b1 b2 b4) (v187_5 ya yb yc za b0 b1 b2 b4) zb (v187_0 ya yb yc za b0 b1 b2 b4) (v187_1 ya yb yc za b0 b1 b2 b4) (v187_2 ya yb yc za b0 b1 b2 b4) (v187_7 ya yb yc za b0 b1 b2 b4)) za) (v111_0 (v187_0 (v187_3 ya yb yc za b0 b1 b2 b4) (v187_4 ya yb yc za b0 b1 b2 b4) (v187_5 ya yb yc za b0 b1 b2 b4) zb (v187_0 ya yb yc za b0 b1 b2 b4) (v187_1 ya yb yc za b0 b1 b2 b4) (v187_2 ya yb yc za b0 b1 b2 b4) (v187_7 ya yb yc za b0 b1 b2 b4)) (v187_1 (v187_3 ya yb yc za b0 b1 b2 b4) (v187_4 ya yb yc za b0 b1 b2 b4) (v187_5 ya yb yc za b0 b1 b2 b4) zb (v187_0 ya yb yc za b0 b1 b2 b4) (v187_1 ya yb yc za b0 b1 b2 b4) (v187_2 ya yb yc za b0 b1 b2 b4) (v187_7 ya yb yc za b0 b1 b2 b4)) (v187_2 (v187_3 ya yb yc za b0 b1 b2 b4) (v187_4 ya yb yc za b0 b1 b2 b4) (v187_5 ya yb yc za b0 b1 b2 b4) zb (v187_0 ya yb yc za b0 b1 b2 b4) (v187_1 ya yb yc za b0 b1 b2 b4) (v187_2 ya yb yc za b0 b1 b2 b4) (v187_7 ya yb yc za b0 b1 b2 b4)) zb))
def v158_7 (ya yb yc za zb:Int) (b0 b1 b2:List AV) (b4:Int):Int:=IntKind.i64.wrap ((v187_6 ya yb yc za b0 b1 b2 b4)+(v187_6 (v187_3 ya yb yc za b0 b1 b2 b4) (v187_4 ya yb yc za b0 b1 b2 b4) (v187_5 ya yb yc za b0 b1 b2 b4) zb (v187_0 ya yb yc za b0 b1 b2 b4) (v187_1 ya yb yc za b0 b1 b2 b4) (v187_2 ya yb yc za b0 b1 b2 b4) (v187_7 ya yb yc za b0 b1 b2 b4)))
def v158_8 (ya yb yc za zb:Int) (b0 b1 b2:List AV) (b4:Int):Int:=(v187_7 (v187_3 ya yb yc za b0 b1 b2 b4) (v187_4 ya yb yc za b0 b1 b2 b4) (v187_5 ya yb yc za b0 b1 b2 b4) zb (v187_0 ya yb yc za b0 b1 b2 b4) (v187_1 ya yb yc za b0 b1 b2 b4) (v187_2 ya yb yc za b0 b1 b2 b4) (v187_7 ya yb yc za b0 b1 b2 b4))
theorem e158 (ya yb yc za zb:Int) (b0 b1 b2:List AV) (b4:Int) (K:List AV→List (Option Blk)→Option AV):inlA c158 1 158 [AV.agg [AV.own [1],AV.own [2],AV.own [3]],AV.agg [Ai ya,Ai yb,Ai yc],AV.agg [Ai za,Ai zb],AV.fn 159 [AV.ptr [4] 0 0,AV.ptr [5] 0 0]] [0] (canH 1 [⟨false,[.int .i64],b0⟩,⟨false,[.int .i64],b1⟩,⟨false,[.int .i64,.int .i64],b2⟩,⟨true,[],[AV.fn 132 []]⟩,⟨true,[],[Ai b4]⟩]) (keepG Tryz.prog 5 [28,106,25,3] [0,1,2] K)=((fun (x1:List AV) (x2:List AV) (x3:List AV) (x4:Int) (x5:Int) (x6:Int) (x7:Int) (x8:Int)=>((fun (x9:List AV) (x10:List AV) (x11:List AV) (x12:Int) (x13:Int) (x14:Int) (x15:Int) (x16:Int)=>(bif q187 ya yb yc za b0 b1 b2 b4 then (bif q187 x4 x5 x6 zb x1 x2 x3 x8 then (bif q111 x9 x10 x11 za then (bif q111 x9 x10 x11 zb then (bif q100 x9 x10 x11 (v111_0 x9 x10 x11 za) (v111_0 x9 x10 x11 zb) then K [AV.agg [AV.fl [.int .i64] x9,AV.fl [.int .i64] x10,AV.fl [.int .i64,.int .i64] x11],AV.agg [Ai x12,Ai x13,Ai x14],AV.fl [.int .i64] (v100_0 x9 x10 x11 (v111_0 x9 x10 x11 za) (v111_0 x9 x10 x11 zb)),Ai (IntKind.i64.wrap (x7+x15))] [none,none,none,some ⟨true,[],[AV.fn 132 []]⟩,some ⟨true,[],[Ai x16]⟩]
 else none)
 else none)
 else none)
 else none)
 else none)) (v187_0 x4 x5 x6 zb x1 x2 x3 x8) (v187_1 x4 x5 x6 zb x1 x2 x3 x8) (v187_2 x4 x5 x6 zb x1 x2 x3 x8) (v187_3 x4 x5 x6 zb x1 x2 x3 x8) (v187_4 x4 x5 x6 zb x1 x2 x3 x8) (v187_5 x4 x5 x6 zb x1 x2 x3 x8) (v187_6 x4 x5 x6 zb x1 x2 x3 x8) (v187_7 x4 x5 x6 zb x1 x2 x3 x8))) (v187_0 ya yb yc za b0 b1 b2 b4) (v187_1 ya yb yc za b0 b1 b2 b4) (v187_2 ya yb yc za b0 b1 b2 b4) (v187_3 ya yb yc za b0 b1 b2 b4) (v187_4 ya yb yc za b0 b1 b2 b4) (v187_5 ya yb yc za b0 b1 b2 b4) (v187_6 ya yb yc za b0 b1 b2 b4) (v187_7 ya yb yc za b0 b1 b2 b4)):=by kernel_rfl
theorem r158 (ya yb yc za zb:Int) (b0 b1 b2:List AV) (b4:Int) (K:List AV→List (Option Blk)→Option AV) (h:q158 ya yb yc za zb b0 b1 b2 b4=true):inlA c158 1 158 [AV.agg [AV.own [1],AV.own [2],AV.own [3]],AV.agg [AV.int .i64 ya,AV.int .i64 yb,AV.int .i64 yc],AV.agg [AV.int .i64 za,AV.int .i64 zb],AV.fn 159 [AV.ptr [4] 0 0,AV.ptr [5] 0 0]] [0] (canH 1 [⟨false,[.int .i64],b0⟩,⟨false,[.int .i64],b1⟩,⟨false,[.int .i64,.int .i64],b2⟩,⟨true,[],[AV.fn 132 []]⟩,⟨true,[],[AV.int .i64 b4]⟩]) (keepG Tryz.prog 5 [28,106,25,3] [0,1,2] K)=K [AV.agg [AV.fl [.int .i64] (v158_0 ya yb yc za zb b0 b1 b2 b4),AV.fl [.int .i64] (v158_1 ya yb yc za zb b0 b1 b2 b4),AV.fl [.int .i64,.int .i64] (v158_2 ya yb yc za zb b0 b1 b2 b4)],AV.agg [AV.int .i64 (v158_3 ya yb yc za zb b0 b1 b2 b4),AV.int .i64 (v158_4 ya yb yc za zb b0 b1 b2 b4),AV.int .i64 (v158_5 ya yb yc za zb b0 b1 b2 b4)],AV.fl [.int .i64] (v158_6 ya yb yc za zb b0 b1 b2 b4),AV.int .i64 (v158_7 ya yb yc za zb b0 b1 b2 b4)] [none,none,none,some ⟨true,[],[AV.fn 132 []]⟩,some ⟨true,[],[AV.int .i64 (v158_8 ya yb yc za zb b0 b1 b2 b4)]⟩]:=(e158 ya yb yc za zb b0 b1 b2 b4 K).trans ((brL (brL (brL (brL (brL1 (fun _=>rfl)))))) h)
def m158:GModel
 | [.agg [.own g0,.own g1,.own g2],.agg [.int .i64 ya,.int .i64 yb,.int .i64 yc],.agg [.int .i64 za,.int .i64 zb],.fn g3 [.ptr g4 g5 g6,.ptr g7 g8 g9]],[⟨false,g10,b0⟩,⟨false,g11,b1⟩,⟨false,g12,b2⟩,⟨true,[],[.fn g13 []]⟩,⟨true,[],[.int .i64 b4]⟩]=>bif nmEq g0 ([1]) && nmEq g1 ([2]) && nmEq g2 ([3]) && Nat.beq g3 159 && nmEq g4 ([4]) && Nat.beq g5 0 && Nat.beq g6 0 && nmEq g7 ([5]) && Nat.beq g8 0 && Nat.beq g9 0 && ctsEq g10 ([.int .i64]) && ctsEq g11 ([.int .i64]) && ctsEq g12 ([.int .i64,.int .i64]) && Nat.beq g13 132 then some (q158 ya yb yc za zb b0 b1 b2 b4,[AV.agg [AV.fl [.int .i64] (v158_0 ya yb yc za zb b0 b1 b2 b4),AV.fl [.int .i64] (v158_1 ya yb yc za zb b0 b1 b2 b4),AV.fl [.int .i64,.int .i64] (v158_2 ya yb yc za zb b0 b1 b2 b4)],AV.agg [AV.int .i64 (v158_3 ya yb yc za zb b0 b1 b2 b4),AV.int .i64 (v158_4 ya yb yc za zb b0 b1 b2 b4),AV.int .i64 (v158_5 ya yb yc za zb b0 b1 b2 b4)],AV.fl [.int .i64] (v158_6 ya yb yc za zb b0 b1 b2 b4),AV.int .i64 (v158_7 ya yb yc za zb b0 b1 b2 b4)],[none,none,none,some ⟨true,[],[AV.fn 132 []]⟩,some ⟨true,[],[AV.int .i64 (v158_8 ya yb yc za zb b0 b1 b2 b4)]⟩]) else none
 | _,_=>none
theorem k158:Known Tryz.prog 158:=⟨Tryz.f158,Tryz.func158,by kernel_rfl,by kernel_rfl⟩
theorem meets158:MeetsG Tryz.prog 158 m158:=by
 refine mg (rt:=[28,106,25,3]) (gs:=[0,1,2]) (lvl:=0) (cf:=c158) rfl mixed k158 Tryz.func158 (by kernel_rfl) noLoop (allT_cons meets100 (allT_cons meets111 allT_nil)) (allG_cons meets187 allM_nil) noI fun xs bs r bs' h K=>?_
 unfold m158 at h
 split at h
 ·rename_i g0 g1 g2 ya yb yc za zb g3 g4 g5 g6 g7 g8 g9 g10 b0 g11 b1 g12 b2 g13 b4
  obtain ⟨hg,h⟩:=bif_pair h
  simp only [Bool.and_eq_true] at hg
  obtain ⟨⟨⟨⟨⟨⟨⟨⟨⟨⟨⟨⟨⟨q0,q1⟩,q2⟩,q3⟩,q4⟩,q5⟩,q6⟩,q7⟩,q8⟩,q9⟩,q10⟩,q11⟩,q12⟩,q13⟩:=hg
  obtain rfl:=nE q0
  obtain rfl:=nE q1
  obtain rfl:=nE q2
  obtain rfl:=bE q3
  obtain rfl:=nE q4
  obtain rfl:=bE q5
  obtain rfl:=bE q6
  obtain rfl:=nE q7
  obtain rfl:=bE q8
  obtain rfl:=bE q9
  obtain rfl:=cE q10
  obtain rfl:=cE q11
  obtain rfl:=cE q12
  obtain rfl:=bE q13
  obtain ⟨h1,rfl,rfl⟩:=trip_inj h
  exact r158 ya yb yc za zb b0 b1 b2 b4 K h1
 ·cases h
def G131_0 {β:Type} (t22:List AV) (t23:Int) (t24:Int) (h0:List AV) (h1:List AV) (h2:List AV) (h3_0:Int) (h3_1:Int) (h3_2:Int) (h7:List AV) (h8:List AV) (N:((Int × (List AV) × (List AV) × (List AV) × Int × Int × Int × (List AV) × (List AV)))→β) (K:(((List AV) × (List AV) × (List AV) × Int × Int × Int × (List AV) × (List AV)))→β) (d:β):β:=by
 refine (?f0:(List AV)→(List AV)→(List AV)→Int→Int→Int→(List AV)→Int→β) (v158_0 h3_0 h3_1 h3_2 (fI (t22.getD t24.toNat .undef) 0) (fI (t22.getD t24.toNat .undef) 1) h0 h1 h2 t24) (v158_1 h3_0 h3_1 h3_2 (fI (t22.getD t24.toNat .undef) 0) (fI (t22.getD t24.toNat .undef) 1) h0 h1 h2 t24) (v158_2 h3_0 h3_1 h3_2 (fI (t22.getD t24.toNat .undef) 0) (fI (t22.getD t24.toNat .undef) 1) h0 h1 h2 t24) (v158_3 h3_0 h3_1 h3_2 (fI (t22.getD t24.toNat .undef) 0) (fI (t22.getD t24.toNat .undef) 1) h0 h1 h2 t24) (v158_4 h3_0 h3_1 h3_2 (fI (t22.getD t24.toNat .undef) 0) (fI (t22.getD t24.toNat .undef) 1) h0 h1 h2 t24) (v158_5 h3_0 h3_1 h3_2 (fI (t22.getD t24.toNat .undef) 0) (fI (t22.getD t24.toNat .undef) 1) h0 h1 h2 t24) (v158_6 h3_0 h3_1 h3_2 (fI (t22.getD t24.toNat .undef) 0) (fI (t22.getD t24.toNat .undef) 1) h0 h1 h2 t24) (v158_7 h3_0 h3_1 h3_2 (fI (t22.getD t24.toNat .undef) 0) (fI (t22.getD t24.toNat .undef) 1) h0 h1 h2 t24);intro x1 x2 x3 x4 x5 x6 x7 x8
 exact (bif decide (t24<t23) then (bif (decide (0≤t24) && decide (t24<(t22.length:Int))) then (bif q158 h3_0 h3_1 h3_2 (fI (t22.getD t24.toNat .undef) 0) (fI (t22.getD t24.toNat .undef) 1) h0 h1 h2 t24 then (bif (decide ((h7.length+([AV.sl [.int .i64] x7]).length)*24≤140737488355328) && decide ((h7.length+([AV.sl [.int .i64] x7]).length)≤140737488355328)) then (bif (decide ((h8.length+([AV.int .i64 x8]).length)*8≤140737488355328) && decide ((h8.length+([AV.int .i64 x8]).length)≤140737488355328)) then N (IntKind.i64.wrap (t24+1),x1,x2,x3,x4,x5,x6,h7++([AV.sl [.int .i64] x7]),h8++([AV.int .i64 x8]))
 else d)
 else d)
 else d)
 else d)
 else K (h0,h1,h2,h3_0,h3_1,h3_2,h7,h8))
def F131_0 (t22:List AV) (t23 t24:Int) (h0 h1 h2:List AV) (h3_0 h3_1 h3_2:Int) (h7 h8:List AV):Out ((Int × (List AV) × (List AV) × (List AV) × Int × Int × Int × (List AV) × (List AV))) (((List AV) × (List AV) × (List AV) × Int × Int × Int × (List AV) × (List AV))):=G131_0 t22 t23 t24 h0 h1 h2 h3_0 h3_1 h3_2 h7 h8 .next .stop .fail
def R131_0 (t22:List AV) (t23:Int):((Int × (List AV) × (List AV) × (List AV) × Int × Int × Int × (List AV) × (List AV)))→Out ((Int × (List AV) × (List AV) × (List AV) × Int × Int × Int × (List AV) × (List AV))) (((List AV) × (List AV) × (List AV) × Int × Int × Int × (List AV) × (List AV))):=fun s:Int × (List AV) × (List AV) × (List AV) × Int × Int × Int × (List AV) × (List AV)=>F131_0 t22 t23 s.1 s.2.1 s.2.2.1 s.2.2.2.1 s.2.2.2.2.1 s.2.2.2.2.2.1 s.2.2.2.2.2.2.1 s.2.2.2.2.2.2.2.1 s.2.2.2.2.2.2.2.2
def E131_0 (t22:List AV) (t23:Int):((Int × (List AV) × (List AV) × (List AV) × Int × Int × Int × (List AV) × (List AV)))→St:=fun s:Int × (List AV) × (List AV) × (List AV) × Int × Int × Int × (List AV) × (List AV)=>⟨[(5,AV.ptr [0,5] 0 0),(7,AV.ptr [0,7] 0 0),(8,AV.ptr [0,8] 0 0),(11,AV.ptr [0,11] 0 0),(12,AV.own [0,12]),(13,AV.own [0,13]),(22,AV.sl [.int .i64,.int .i64] t22),(23,Ai t23),(24,Ai s.1)],[([0,0,11],⟨false,[.int .i64],s.2.1⟩),([0,1,11],⟨false,[.int .i64],s.2.2.1⟩),([0,2,11],⟨false,[.int .i64,.int .i64],s.2.2.2.1⟩),([0,5],⟨true,[],[AV.agg [Ai s.2.2.2.2.1,Ai s.2.2.2.2.2.1,Ai s.2.2.2.2.2.2.1]]⟩),([0,7],⟨true,[],[AV.fn 132 []]⟩),([0,8],⟨true,[],[AV.agg [AV.snil,AV.snil,AV.snil]]⟩),([0,11],⟨true,[],[AV.agg [AV.own [0,0,11],AV.own [0,1,11],AV.own [0,2,11]]]⟩),([0,12],⟨false,[.sl [.int .i64]],s.2.2.2.2.2.2.2.1⟩),([0,13],⟨false,[.int .i64],s.2.2.2.2.2.2.2.2⟩)]⟩
def K131_0 (t22:List AV) (t23:Int) (k:Kont):(((List AV) × (List AV) × (List AV) × Int × Int × Int × (List AV) × (List AV)))→Option AV:=fun p:(List AV) × (List AV) × (List AV) × Int × Int × Int × (List AV) × (List AV)=>k (.exit 0) ⟨[(8,AV.ptr [0,8] 0 0),(11,AV.ptr [0,11] 0 0),(12,AV.own [0,12]),(13,AV.own [0,13])],[([0,0,11],⟨false,[.int .i64],p.1⟩),([0,1,11],⟨false,[.int .i64],p.2.1⟩),([0,2,11],⟨false,[.int .i64,.int .i64],p.2.2.1⟩),([0,5],⟨true,[],[AV.agg [Ai p.2.2.2.1,Ai p.2.2.2.2.1,Ai p.2.2.2.2.2.1]]⟩),([0,7],⟨true,[],[AV.fn 132 []]⟩),([0,8],⟨true,[],[AV.agg [AV.snil,AV.snil,AV.snil]]⟩),([0,11],⟨true,[],[AV.agg [AV.own [0,0,11],AV.own [0,1,11],AV.own [0,2,11]]]⟩),([0,12],⟨false,[.sl [.int .i64]],p.2.2.2.2.2.2.1⟩),([0,13],⟨false,[.int .i64],p.2.2.2.2.2.2.2⟩)]⟩
def l131_0:LModel:=fun _ _ st k=>match st with
 | ⟨[(5,.ptr g0 g1 g2),(7,.ptr g3 g4 g5),(8,.ptr g6 g7 g8),(11,.ptr g9 g10 g11),(12,.own g12),(13,.own g13),(22,.sl g14 t22),(23,.int .i64 t23),(24,.int .i64 t24)],[(g15,⟨false,g16,h0⟩),(g17,⟨false,g18,h1⟩),(g19,⟨false,g20,h2⟩),(g21,⟨true,[],[.agg [.int .i64 h3_0,.int .i64 h3_1,.int .i64 h3_2]]⟩),(g22,⟨true,[],[.fn g23 []]⟩),(g24,⟨true,[],[.agg [.snil,.snil,.snil]]⟩),(g25,⟨true,[],[.agg [.own g26,.own g27,.own g28]]⟩),(g29,⟨false,g30,h7⟩),(g31,⟨false,g32,h8⟩)]⟩=>bif nmEq g0 ([0,5]) && Nat.beq g1 0 && Nat.beq g2 0 && nmEq g3 ([0,7]) && Nat.beq g4 0 && Nat.beq g5 0 && nmEq g6 ([0,8]) && Nat.beq g7 0 && Nat.beq g8 0 && nmEq g9 ([0,11]) && Nat.beq g10 0 && Nat.beq g11 0 && nmEq g12 ([0,12]) && nmEq g13 ([0,13]) && ctsEq g14 ([.int .i64,.int .i64]) && nmEq g15 ([0,0,11]) && ctsEq g16 ([.int .i64]) && nmEq g17 ([0,1,11]) && ctsEq g18 ([.int .i64]) && nmEq g19 ([0,2,11]) && ctsEq g20 ([.int .i64,.int .i64]) && nmEq g21 ([0,5]) && nmEq g22 ([0,7]) && Nat.beq g23 132 && nmEq g24 ([0,8]) && nmEq g25 ([0,11]) && nmEq g26 ([0,0,11]) && nmEq g27 ([0,1,11]) && nmEq g28 ([0,2,11]) && nmEq g29 ([0,12]) && ctsEq g30 ([.sl [.int .i64]]) && nmEq g31 ([0,13]) && ctsEq g32 ([.int .i64]) then ro (runW (R131_0 t22 t23) ((t23 - t24:Int).toNat+1) (t24,h0,h1,h2,h3_0,h3_1,h3_2,h7,h8)) none (K131_0 t22 t23 k) else none
 | _=>none
noncomputable def c131:Cfg:=cfg Tryz.prog [(131,0,[5,7,8,11,12,13,22,23,24]),(131,999,[8,9,10]),(131,1000,[8,11,12,13]),(131,1001,[5,7,8,11,12,13,22,23,24])] [(157,m157)] [(158,.g m158)] [] [(131,0,l131_0)]
theorem s131_0 (t22:List AV) (t23:Int) (ce:CallE) (k:Kont) (s:Int × (List AV) × (List AV) × (List AV) × Int × Int × Int × (List AV) × (List AV)) (next:St→Option AV):stepA (codeA c131 ce [] 131 0 (sub [1,1,0,1,0,0] (body Tryz.f131))) (normA [] [5,7,8,11,12,13,22,23,24]) next ((E131_0 t22 t23) s) k=G131_0 t22 t23 s.1 s.2.1 s.2.2.1 s.2.2.2.1 s.2.2.2.2.1 s.2.2.2.2.2.1 s.2.2.2.2.2.2.1 s.2.2.2.2.2.2.2.1 s.2.2.2.2.2.2.2.2 (fun s=>next ((E131_0 t22 t23) s)) (K131_0 t22 t23 k) none:=by kernel_rfl
theorem st131_0 (t22:List AV) (t23:Int) (ce:CallE) (k:Kont) (s:(Int × (List AV) × (List AV) × (List AV) × Int × Int × Int × (List AV) × (List AV))) (next:St→Option AV):stepA (codeA c131 ce [] 131 0 (sub [1,1,0,1,0,0] (body Tryz.f131))) (normA [] [5,7,8,11,12,13,22,23,24]) next ((E131_0 t22 t23) s) k=(R131_0 t22 t23 s).el none (fun s=>next ((E131_0 t22 t23) s)) (K131_0 t22 t23 k):=(s131_0 t22 t23 ce k s next).trans (by unfold R131_0;unfold F131_0 G131_0;simp only [el_cond,el_ro,el_sum,el_fail,el_next,el_stop] <;> rfl)
theorem ok131_0 {ce:CallE}:LoopOK c131 ce [] 131 0 (sub [1,1,0,1,0,0] (body Tryz.f131)):=by
 intro m hm st k r h
 obtain rfl:l131_0=m:=Option.some.inj hm
 unfold l131_0 at h
 split at h
 ·rename_i g0 g1 g2 g3 g4 g5 g6 g7 g8 g9 g10 g11 g12 g13 g14 t22 t23 t24 g15 g16 h0 g17 g18 h1 g19 g20 h2 g21 h3_0 h3_1 h3_2 g22 g23 g24 g25 g26 g27 g28 g29 g30 h7 g31 g32 h8
  obtain ⟨hg,h⟩:=bif_some h
  simp only [Bool.and_eq_true] at hg
  obtain ⟨⟨⟨⟨⟨⟨⟨⟨⟨⟨⟨⟨⟨⟨⟨⟨⟨⟨⟨⟨⟨⟨⟨⟨⟨⟨⟨⟨⟨⟨⟨⟨q0,q1⟩,q2⟩,q3⟩,q4⟩,q5⟩,q6⟩,q7⟩,q8⟩,q9⟩,q10⟩,q11⟩,q12⟩,q13⟩,q14⟩,q15⟩,q16⟩,q17⟩,q18⟩,q19⟩,q20⟩,q21⟩,q22⟩,q23⟩,q24⟩,q25⟩,q26⟩,q27⟩,q28⟩,q29⟩,q30⟩,q31⟩,q32⟩:=hg
  obtain rfl:=nE q0
  obtain rfl:=bE q1
  obtain rfl:=bE q2
  obtain rfl:=nE q3
  obtain rfl:=bE q4
  obtain rfl:=bE q5
  obtain rfl:=nE q6
  obtain rfl:=bE q7
  obtain rfl:=bE q8
  obtain rfl:=nE q9
  obtain rfl:=bE q10
  obtain rfl:=bE q11
  obtain rfl:=nE q12
  obtain rfl:=nE q13
  obtain rfl:=cE q14
  obtain rfl:=nE q15
  obtain rfl:=cE q16
  obtain rfl:=nE q17
  obtain rfl:=cE q18
  obtain rfl:=nE q19
  obtain rfl:=cE q20
  obtain rfl:=nE q21
  obtain rfl:=nE q22
  obtain rfl:=bE q23
  obtain rfl:=nE q24
  obtain rfl:=nE q25
  obtain rfl:=nE q26
  obtain rfl:=nE q27
  obtain rfl:=nE q28
  obtain rfl:=nE q29
  obtain rfl:=cE q30
  obtain rfl:=nE q31
  obtain rfl:=cE q32
  refine ⟨((t23 - t24:Int).toNat+1),?_⟩
  rw [← h]
  exact loop_run (E131_0 t22 t23) (K131_0 t22 t23 k) (st131_0 t22 t23 ce k) _ (t24,h0,h1,h2,h3_0,h3_1,h3_2,h7,h8)
 ·cases h
def q131 (a0:List AV) (ya yb yc:Int) (a2:List AV):Bool:=(q157 a0 && (ro (runW (R131_0 a2 (a2.length:Int)) (((a2.length:Int) - 0:Int).toNat+1) (0,(v157_0 a0),(v157_1 a0),(v157_2 a0),ya,yb,yc,([]:List AV),([]:List AV))) false (fun p62=>true)))
def v131_0 (a0:List AV) (ya yb yc:Int) (a2:List AV):List AV:=(ro (runW (R131_0 a2 (a2.length:Int)) (((a2.length:Int) - 0:Int).toNat+1) (0,(v157_0 a0),(v157_1 a0),(v157_2 a0),ya,yb,yc,([]:List AV),([]:List AV))) [] (fun p62=>p62.1))
def v131_1 (a0:List AV) (ya yb yc:Int) (a2:List AV):List AV:=(ro (runW (R131_0 a2 (a2.length:Int)) (((a2.length:Int) - 0:Int).toNat+1) (0,(v157_0 a0),(v157_1 a0),(v157_2 a0),ya,yb,yc,([]:List AV),([]:List AV))) [] (fun p62=>p62.2.1))
def v131_2 (a0:List AV) (ya yb yc:Int) (a2:List AV):List AV:=(ro (runW (R131_0 a2 (a2.length:Int)) (((a2.length:Int) - 0:Int).toNat+1) (0,(v157_0 a0),(v157_1 a0),(v157_2 a0),ya,yb,yc,([]:List AV),([]:List AV))) [] (fun p62=>p62.2.2.1))
def v131_3 (a0:List AV) (ya yb yc:Int) (a2:List AV):List AV:=(ro (runW (R131_0 a2 (a2.length:Int)) (((a2.length:Int) - 0:Int).toNat+1) (0,(v157_0 a0),(v157_1 a0),(v157_2 a0),ya,yb,yc,([]:List AV),([]:List AV))) [] (fun p62=>p62.2.2.2.2.2.2.1))
def v131_4 (a0:List AV) (ya yb yc:Int) (a2:List AV):List AV:=(ro (runW (R131_0 a2 (a2.length:Int)) (((a2.length:Int) - 0:Int).toNat+1) (0,(v157_0 a0),(v157_1 a0),(v157_2 a0),ya,yb,yc,([]:List AV),([]:List AV))) [] (fun p62=>p62.2.2.2.2.2.2.2))
theorem e131 (a0:List AV) (ya yb yc:Int) (a2:List AV):funA c131 0 131 [AV.sl [.int .i64] a0,AV.agg [Ai ya,Ai yb,Ai yc],AV.sl [.int .i64,.int .i64] a2,AV.fn 132 []]=(bif q157 a0 then (ro (runW (R131_0 a2 (a2.length:Int)) (((a2.length:Int) - 0:Int).toNat+1) (0,(v157_0 a0),(v157_1 a0),(v157_2 a0),ya,yb,yc,([]:List AV),([]:List AV))) none (fun p62=>some (AV.tup [AV.agg [AV.fl [.int .i64] p62.1,AV.fl [.int .i64] p62.2.1,AV.fl [.int .i64,.int .i64] p62.2.2.1],AV.fl [.sl [.int .i64]] p62.2.2.2.2.2.2.1,AV.fl [.int .i64] p62.2.2.2.2.2.2.2])))
 else none):=by kernel_rfl
def m131:TModel
 | [.sl g0 a0,.agg [.int .i64 ya,.int .i64 yb,.int .i64 yc],.sl g1 a2,.fn g2 []]=>bif ctsEq g0 ([.int .i64]) && ctsEq g1 ([.int .i64,.int .i64]) && Nat.beq g2 132 then some (q131 a0 ya yb yc a2,AV.tup [AV.agg [AV.fl [.int .i64] (v131_0 a0 ya yb yc a2),AV.fl [.int .i64] (v131_1 a0 ya yb yc a2),AV.fl [.int .i64,.int .i64] (v131_2 a0 ya yb yc a2)],AV.fl [.sl [.int .i64]] (v131_3 a0 ya yb yc a2),AV.fl [.int .i64] (v131_4 a0 ya yb yc a2)]) else none
 | _=>none
theorem k131:Known Tryz.prog 131:=⟨Tryz.f131,Tryz.func131,by kernel_rfl,by kernel_rfl⟩
theorem meets131:Meets Tryz.prog 131 m131:=by
 refine mt (lvl:=0) (cf:=c131) rfl mixed k131 Tryz.func131 (by kernel_rfl) (loops_cons ok131_0 noLoop) (allT_cons meets157 allT_nil) (allG_cons meets158 allM_nil) noI fun xs r h=>?_
 unfold m131 at h
 split at h
 ·rename_i g0 a0 ya yb yc g1 a2 g2
  obtain ⟨hg,h⟩:=bif_pair h
  simp only [Bool.and_eq_true] at hg
  obtain ⟨⟨q0,q1⟩,q2⟩:=hg
  obtain rfl:=cE q0
  obtain rfl:=cE q1
  obtain rfl:=bE q2
  obtain ⟨h1,rfl⟩:=pair_inj h
  exact (e131 a0 ya yb yc a2).trans ((brL (brO (fun o:Option (((List AV) × (List AV) × (List AV) × Int × Int × Int × (List AV) × (List AV)))=>some (AV.tup [AV.agg [AV.fl [.int .i64] (ro o [] (fun p62=>p62.1)),AV.fl [.int .i64] (ro o [] (fun p62=>p62.2.1)),AV.fl [.int .i64,.int .i64] (ro o [] (fun p62=>p62.2.2.1))],AV.fl [.sl [.int .i64]] (ro o [] (fun p62=>p62.2.2.2.2.2.2.1)),AV.fl [.int .i64] (ro o [] (fun p62=>p62.2.2.2.2.2.2.2))])) (fun p62=>(fun _=>rfl)))) h1)
 ·cases h
end
end Go.Proofs.YtbmfgibbjchijaaGreat
