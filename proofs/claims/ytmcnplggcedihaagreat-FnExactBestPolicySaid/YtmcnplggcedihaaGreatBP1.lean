import Derived.Test.YtmcnplggcedihaaGreatINS7
import Derived.Test.YtmcnplggcedihaaGreatVEzb
import Derived.Test.YtmcnplggcedihaaGreatLAY7
import Derived.Test.YtmcnplggcedihaaGreatGL7
import Derived.Test.YtmcnplggcedihaaGreatProg
import Derived.KernelRfl
namespace Go.Proofs.YtmcnplggcedihaaGreat
open Go Go.Proofs.VE
set_option linter.unusedVariables false
set_option linter.unusedSimpArgs false
set_option maxRecDepth 100000
set_option maxHeartbeats 4000000
theorem mixed:Tryz.prog.follows .mixedOrders=true:=by kernel_rfl
noncomputable def c7:Cfg:=cfg Tryz.prog [(7,999,[4])] [] [] [] []
def q7 (a0:List AV) (a1:Int):Bool:=true
def v7_0 (a0:List AV) (a1:Int):Int:=(bif decide (IntKind.i64.wrap (a1 - (a0.length:Int))<0) then (-1) else IntKind.i64.wrap (a1 - (a0.length:Int)))
theorem e7 (a0:List AV) (a1:Int):funA c7 0 7 [AV.sl [.int .i64,.int .i64] a0,Ai a1]=(bif decide (IntKind.i64.wrap (a1 - (a0.length:Int))<0) then some (Ai (-1))
 else some (Ai (IntKind.i64.wrap (a1 - (a0.length:Int))))):=by kernel_rfl
def m7:TModel
 | [.sl g0 a0,.int .i64 a1]=>bif ctsEq g0 ([.int .i64,.int .i64]) then some (true,AV.int .i64 (v7_0 a0 a1)) else none
 | _=>none
theorem k7:Known Tryz.prog 7:=⟨Tryz.f7,Tryz.func7,by kernel_rfl,by kernel_rfl⟩
theorem meets7:Meets Tryz.prog 7 m7:=by
 refine meet (f:=Tryz.f7) (l:=[]) (hs:=[(7,999,[4])]) (ts:=[]) (ws:=[]) (is:=[]) (ls:=[]) (lvl:=0) mixed k7 Tryz.func7 (by kernel_rfl) noLoop allT_nil allM_nil noI fun w xs us r hl hv h=>?_
 unfold m7 at h
 split at h
 ·rename_i g0 a0 a1
  obtain ⟨hg,h⟩:=bif_pair h
  have q0:=hg
  obtain rfl:=ctsEq_eq _ _ q0
  obtain ⟨h1,rfl⟩:=pair_inj h
  exact (e7 a0 a1).trans (of_tt (brT (fun b=>some (Ai (bif b then (-1) else IntKind.i64.wrap (a1 - (a0.length:Int))))) (fun _=>rfl) (fun _=>rfl)))
 ·cases h
def F9_0 (t0:List AV) (t4:Int) (h0:List AV):Out ((Int × (List AV))) (((List AV))):=(bif decide (t4<(t0.length:Int)) then (bif (decide (0≤t4) && decide (t4<(t0.length:Int))) then (bif (decide (0≤t4) && decide (t4<(h0.length:Int))) then .next (IntKind.i64.wrap (t4+1),h0.set t4.toNat (AV.agg [AV.int .i64 (fI (t0.getD t4.toNat .undef) 0)]))
 else .fail)
 else .fail)
 else .stop h0)
def R9_0 (t0:List AV):((Int × (List AV)))→Out ((Int × (List AV))) (((List AV))):=fun s:Int × (List AV)=>F9_0 t0 s.1 s.2
def E9_0 (t0:List AV):((Int × (List AV)))→St:=fun s:Int × (List AV)=>⟨[(0,AV.sl [.int .i64] t0),(3,AV.own [0,3]),(4,Ai s.1)],[([0,3],⟨false,[.int .i64],s.2⟩)]⟩
def K9_0 (k:Kont):(((List AV)))→Option AV:=fun p:(List AV)=>k (.exit 0) ⟨[(3,AV.own [0,3])],[([0,3],⟨false,[.int .i64],p⟩)]⟩
def l9_0:LModel:=fun _ _ st k=>match st with
 | ⟨[(0,.sl g0 t0),(3,.own g1),(4,.int .i64 t4)],[(g2,⟨false,g3,h0⟩)]⟩=>bif ctsEq g0 ([.int .i64]) && nmEq g1 ([0,3]) && nmEq g2 ([0,3]) && ctsEq g3 ([.int .i64]) then ro (runW (R9_0 t0) (((t0.length:Int) - t4:Int).toNat+1) (t4,h0)) none (K9_0 k) else none
 | _=>none
noncomputable def c9:Cfg:=cfg Tryz.prog [(9,0,[0,3,4]),(9,999,[2]),(9,1000,[3]),(9,1001,[0,3,4])] [] [] [] [(9,0,l9_0)]
theorem s9_0 (ce:CallE) (t0:List AV) (t4:Int) (h0:List AV) (next:St→Option AV) (k:Kont):stepA (codeA c9 ce [] 9 0 (sub [1,1,0,1,0,0] (body Tryz.f9))) (normA [] [0,3,4]) next ⟨[(0,AV.sl [.int .i64] t0),(3,AV.own [0,3]),(4,Ai t4)],[([0,3],⟨false,[.int .i64],h0⟩)]⟩ k=(bif decide (t4<(t0.length:Int)) then (bif (decide (0≤t4) && decide (t4<(t0.length:Int))) then (bif (decide (0≤t4) && decide (t4<(h0.length:Int))) then next ⟨[(0,AV.sl [.int .i64] t0),(3,AV.own [0,3]),(4,Ai (IntKind.i64.wrap (t4+1)))],[([0,3],⟨false,[.int .i64],h0.set t4.toNat (AV.agg [Ai (fI (t0.getD t4.toNat .undef) 0)])⟩)]⟩
 else none)
 else none)
 else k (.exit 0) ⟨[(3,AV.own [0,3])],[([0,3],⟨false,[.int .i64],h0⟩)]⟩):=by kernel_rfl
theorem st9_0 (t0:List AV) (ce:CallE) (k:Kont) (s:(Int × (List AV))) (next:St→Option AV):stepA (codeA c9 ce [] 9 0 (sub [1,1,0,1,0,0] (body Tryz.f9))) (normA [] [0,3,4]) next ((E9_0 t0) s) k=(R9_0 t0 s).el none (fun s=>next ((E9_0 t0) s)) (K9_0 k):=(s9_0 ce t0 s.1 s.2 next k).trans (by unfold R9_0;unfold F9_0;simp only [el_cond,el_ro,el_sum,el_fail,el_next,el_stop] <;> rfl)
theorem ok9_0 {ce:CallE}:LoopOK c9 ce [] 9 0 (sub [1,1,0,1,0,0] (body Tryz.f9)):=by
 intro m hm st k r h
 obtain rfl:l9_0=m:=Option.some.inj hm
 unfold l9_0 at h
 split at h
 ·rename_i g0 t0 g1 t4 g2 g3 h0
  obtain ⟨hg,h⟩:=bif_some h
  simp only [Bool.and_eq_true] at hg
  obtain ⟨⟨⟨q0,q1⟩,q2⟩,q3⟩:=hg
  obtain rfl:=ctsEq_eq _ _ q0
  obtain rfl:=(nmEq_iff _ _).1 q1
  obtain rfl:=(nmEq_iff _ _).1 q2
  obtain rfl:=ctsEq_eq _ _ q3
  refine ⟨(((t0.length:Int) - t4:Int).toNat+1),?_⟩
  rw [← h]
  exact loop_run (E9_0 t0) (K9_0 k) (st9_0 t0 ce k) _ (t4,h0)
 ·cases h
def q9 (a0:List AV):Bool:=((decide (0≤(a0.length:Int)) && decide ((a0.length:Int)≤(a0.length:Int)) && decide ((a0.length:Int)*8≤140737488355328) && decide ((a0.length:Int)≤140737488355328)) && (ro (runW (R9_0 a0) (((a0.length:Int) - 0:Int).toNat+1) (0,List.replicate (Int.toNat (a0.length:Int)) (AV.int .i64 0))) false (fun p1=>true)))
def v9_0 (a0:List AV):List AV:=(ro (runW (R9_0 a0) (((a0.length:Int) - 0:Int).toNat+1) (0,List.replicate (Int.toNat (a0.length:Int)) (AV.int .i64 0))) [] (fun p1=>p1))
theorem e9 (a0:List AV):funA c9 0 9 [AV.sl [.int .i64] a0]=(bif (decide (0≤(a0.length:Int)) && decide ((a0.length:Int)≤(a0.length:Int)) && decide ((a0.length:Int)*8≤140737488355328) && decide ((a0.length:Int)≤140737488355328)) then (ro (runW (R9_0 a0) (((a0.length:Int) - 0:Int).toNat+1) (0,List.replicate (Int.toNat (a0.length:Int)) (Ai 0))) none (fun p1=>some (AV.fl [.int .i64] p1)))
 else none):=by kernel_rfl
def m9:TModel
 | [.sl g0 a0]=>bif ctsEq g0 ([.int .i64]) then some (q9 a0,AV.fl [.int .i64] (v9_0 a0)) else none
 | _=>none
theorem k9:Known Tryz.prog 9:=⟨Tryz.f9,Tryz.func9,by kernel_rfl,by kernel_rfl⟩
theorem meets9:Meets Tryz.prog 9 m9:=by
 refine meet (f:=Tryz.f9) (l:=[(0,sub [1,1,0,1,0,0] (body Tryz.f9))]) (hs:=[(9,0,[0,3,4]),(9,999,[2]),(9,1000,[3]),(9,1001,[0,3,4])]) (ts:=[]) (ws:=[]) (is:=[]) (ls:=[(9,0,l9_0)]) (lvl:=0) mixed k9 Tryz.func9 (by kernel_rfl) (loops_cons ok9_0 noLoop) allT_nil allM_nil noI fun w xs us r hl hv h=>?_
 unfold m9 at h
 split at h
 ·rename_i g0 a0
  obtain ⟨hg,h⟩:=bif_pair h
  have q0:=hg
  obtain rfl:=ctsEq_eq _ _ q0
  obtain ⟨h1,rfl⟩:=pair_inj h
  exact (e9 a0).trans ((brL (brO (fun o:Option (((List AV)))=>some (AV.fl [.int .i64] (ro o [] (fun p1=>p1)))) (fun p1=>(fun _=>rfl)))) h1)
 ·cases h
noncomputable def c31:Cfg:=cfg Tryz.prog [(31,999,[2])] [] [] [] []
def q31 (xa xb:Int):Bool:=true
def v31_0 (xa xb:Int):Int:=xa
def v31_1 (xa xb:Int):Int:=xb
theorem e31 (xa xb:Int):funA c31 0 31 [AV.agg [Ai xa,Ai xb]]=some (AV.agg [Ai xa,Ai xb]):=by kernel_rfl
def m31:TModel
 | [.agg [.int .i64 xa,.int .i64 xb]]=>some (true,AV.agg [AV.int .i64 (v31_0 xa xb),AV.int .i64 (v31_1 xa xb)])
 | _=>none
theorem k31:Known Tryz.prog 31:=⟨Tryz.f31,Tryz.func31,by kernel_rfl,by kernel_rfl⟩
theorem meets31:Meets Tryz.prog 31 m31:=by
 refine meet (f:=Tryz.f31) (l:=[]) (hs:=[(31,999,[2])]) (ts:=[]) (ws:=[]) (is:=[]) (ls:=[]) (lvl:=0) mixed k31 Tryz.func31 (by kernel_rfl) noLoop allT_nil allM_nil noI fun w xs us r hl hv h=>?_
 unfold m31 at h
 split at h
 ·rename_i xa xb
  obtain ⟨h1,rfl⟩:=pair_inj h
  exact (e31 xa xb).trans (of_tt (fun _=>rfl))
 ·cases h
def F10_0 (t0:List AV) (t4:Int) (h0:List AV):Out ((Int × (List AV))) (((List AV))):=(bif decide (t4<(t0.length:Int)) then (bif (decide (0≤t4) && decide (t4<(t0.length:Int))) then (bif (decide (0≤t4) && decide (t4<(h0.length:Int))) then .next (IntKind.i64.wrap (t4+1),h0.set t4.toNat (AV.agg [AV.int .i64 (v31_0 (fI (t0.getD t4.toNat .undef) 0) (fI (t0.getD t4.toNat .undef) 1)),AV.int .i64 (v31_1 (fI (t0.getD t4.toNat .undef) 0) (fI (t0.getD t4.toNat .undef) 1))]))
 else .fail)
 else .fail)
 else .stop h0)
def R10_0 (t0:List AV):((Int × (List AV)))→Out ((Int × (List AV))) (((List AV))):=fun s:Int × (List AV)=>F10_0 t0 s.1 s.2
def E10_0 (t0:List AV):((Int × (List AV)))→St:=fun s:Int × (List AV)=>⟨[(0,AV.sl [.int .i64,.int .i64] t0),(3,AV.own [0,3]),(4,Ai s.1)],[([0,3],⟨false,[.int .i64,.int .i64],s.2⟩)]⟩
def K10_0 (k:Kont):(((List AV)))→Option AV:=fun p:(List AV)=>k (.exit 0) ⟨[(3,AV.own [0,3])],[([0,3],⟨false,[.int .i64,.int .i64],p⟩)]⟩
def l10_0:LModel:=fun _ _ st k=>match st with
 | ⟨[(0,.sl g0 t0),(3,.own g1),(4,.int .i64 t4)],[(g2,⟨false,g3,h0⟩)]⟩=>bif ctsEq g0 ([.int .i64,.int .i64]) && nmEq g1 ([0,3]) && nmEq g2 ([0,3]) && ctsEq g3 ([.int .i64,.int .i64]) then ro (runW (R10_0 t0) (((t0.length:Int) - t4:Int).toNat+1) (t4,h0)) none (K10_0 k) else none
 | _=>none
noncomputable def c10:Cfg:=cfg Tryz.prog [(10,0,[0,3,4]),(10,999,[2]),(10,1000,[3]),(10,1001,[0,3,4])] [(31,m31)] [] [] [(10,0,l10_0)]
theorem s10_0 (ce:CallE) (t0:List AV) (t4:Int) (h0:List AV) (next:St→Option AV) (k:Kont):stepA (codeA c10 ce [] 10 0 (sub [1,1,0,1,0,0] (body Tryz.f10))) (normA [] [0,3,4]) next ⟨[(0,AV.sl [.int .i64,.int .i64] t0),(3,AV.own [0,3]),(4,Ai t4)],[([0,3],⟨false,[.int .i64,.int .i64],h0⟩)]⟩ k=(bif decide (t4<(t0.length:Int)) then (bif (decide (0≤t4) && decide (t4<(t0.length:Int))) then (bif (decide (0≤t4) && decide (t4<(h0.length:Int))) then next ⟨[(0,AV.sl [.int .i64,.int .i64] t0),(3,AV.own [0,3]),(4,Ai (IntKind.i64.wrap (t4+1)))],[([0,3],⟨false,[.int .i64,.int .i64],h0.set t4.toNat (AV.agg [Ai (v31_0 (fI (t0.getD t4.toNat .undef) 0) (fI (t0.getD t4.toNat .undef) 1)),Ai (v31_1 (fI (t0.getD t4.toNat .undef) 0) (fI (t0.getD t4.toNat .undef) 1))])⟩)]⟩
 else none)
 else none)
 else k (.exit 0) ⟨[(3,AV.own [0,3])],[([0,3],⟨false,[.int .i64,.int .i64],h0⟩)]⟩):=by kernel_rfl
theorem st10_0 (t0:List AV) (ce:CallE) (k:Kont) (s:(Int × (List AV))) (next:St→Option AV):stepA (codeA c10 ce [] 10 0 (sub [1,1,0,1,0,0] (body Tryz.f10))) (normA [] [0,3,4]) next ((E10_0 t0) s) k=(R10_0 t0 s).el none (fun s=>next ((E10_0 t0) s)) (K10_0 k):=(s10_0 ce t0 s.1 s.2 next k).trans (by unfold R10_0;unfold F10_0;simp only [el_cond,el_ro,el_sum,el_fail,el_next,el_stop] <;> rfl)
theorem ok10_0 {ce:CallE}:LoopOK c10 ce [] 10 0 (sub [1,1,0,1,0,0] (body Tryz.f10)):=by
 intro m hm st k r h
 obtain rfl:l10_0=m:=Option.some.inj hm
 unfold l10_0 at h
 split at h
 ·rename_i g0 t0 g1 t4 g2 g3 h0
  obtain ⟨hg,h⟩:=bif_some h
  simp only [Bool.and_eq_true] at hg
  obtain ⟨⟨⟨q0,q1⟩,q2⟩,q3⟩:=hg
  obtain rfl:=ctsEq_eq _ _ q0
  obtain rfl:=(nmEq_iff _ _).1 q1
  obtain rfl:=(nmEq_iff _ _).1 q2
  obtain rfl:=ctsEq_eq _ _ q3
  refine ⟨(((t0.length:Int) - t4:Int).toNat+1),?_⟩
  rw [← h]
  exact loop_run (E10_0 t0) (K10_0 k) (st10_0 t0 ce k) _ (t4,h0)
 ·cases h
def q10 (a0:List AV):Bool:=((decide (0≤(a0.length:Int)) && decide ((a0.length:Int)≤(a0.length:Int)) && decide ((a0.length:Int)*16≤140737488355328) && decide ((a0.length:Int)≤140737488355328)) && (ro (runW (R10_0 a0) (((a0.length:Int) - 0:Int).toNat+1) (0,List.replicate (Int.toNat (a0.length:Int)) (AV.agg [AV.int .i64 0,AV.int .i64 0]))) false (fun p2=>true)))
def v10_0 (a0:List AV):List AV:=(ro (runW (R10_0 a0) (((a0.length:Int) - 0:Int).toNat+1) (0,List.replicate (Int.toNat (a0.length:Int)) (AV.agg [AV.int .i64 0,AV.int .i64 0]))) [] (fun p2=>p2))
theorem e10 (a0:List AV):funA c10 0 10 [AV.sl [.int .i64,.int .i64] a0]=(bif (decide (0≤(a0.length:Int)) && decide ((a0.length:Int)≤(a0.length:Int)) && decide ((a0.length:Int)*16≤140737488355328) && decide ((a0.length:Int)≤140737488355328)) then (ro (runW (R10_0 a0) (((a0.length:Int) - 0:Int).toNat+1) (0,List.replicate (Int.toNat (a0.length:Int)) (AV.agg [Ai 0,Ai 0]))) none (fun p2=>some (AV.fl [.int .i64,.int .i64] p2)))
 else none):=by kernel_rfl
def m10:TModel
 | [.sl g0 a0]=>bif ctsEq g0 ([.int .i64,.int .i64]) then some (q10 a0,AV.fl [.int .i64,.int .i64] (v10_0 a0)) else none
 | _=>none
theorem k10:Known Tryz.prog 10:=⟨Tryz.f10,Tryz.func10,by kernel_rfl,by kernel_rfl⟩
theorem meets10:Meets Tryz.prog 10 m10:=by
 refine meet (f:=Tryz.f10) (l:=[(0,sub [1,1,0,1,0,0] (body Tryz.f10))]) (hs:=[(10,0,[0,3,4]),(10,999,[2]),(10,1000,[3]),(10,1001,[0,3,4])]) (ts:=[(31,m31)]) (ws:=[]) (is:=[]) (ls:=[(10,0,l10_0)]) (lvl:=0) mixed k10 Tryz.func10 (by kernel_rfl) (loops_cons ok10_0 noLoop) (allT_cons meets31 allT_nil) allM_nil noI fun w xs us r hl hv h=>?_
 unfold m10 at h
 split at h
 ·rename_i g0 a0
  obtain ⟨hg,h⟩:=bif_pair h
  have q0:=hg
  obtain rfl:=ctsEq_eq _ _ q0
  obtain ⟨h1,rfl⟩:=pair_inj h
  exact (e10 a0).trans ((brL (brO (fun o:Option (((List AV)))=>some (AV.fl [.int .i64,.int .i64] (ro o [] (fun p2=>p2)))) (fun p2=>(fun _=>rfl)))) h1)
 ·cases h
noncomputable def c28:Cfg:=cfg Tryz.prog [(28,999,[6])] [] [] [] []
def q28 (a0 a1 a2:Int):Bool:=true
def v28_0 (a0 a1 a2:Int):Bool:=(bif decide (a0 ≥ a1) then decide (a0≤a2) else false)
theorem e28 (a0 a1 a2:Int):funA c28 0 28 [Ai a0,Ai a1,Ai a2]=(bif decide (a0 ≥ a1) then some (AV.bool (decide (a0≤a2)))
 else some (AV.bool false)):=by kernel_rfl
def m28:TModel
 | [.int .i64 a0,.int .i64 a1,.int .i64 a2]=>some (true,AV.bool (v28_0 a0 a1 a2))
 | _=>none
theorem k28:Known Tryz.prog 28:=⟨Tryz.f28,Tryz.func28,by kernel_rfl,by kernel_rfl⟩
theorem meets28:Meets Tryz.prog 28 m28:=by
 refine meet (f:=Tryz.f28) (l:=[]) (hs:=[(28,999,[6])]) (ts:=[]) (ws:=[]) (is:=[]) (ls:=[]) (lvl:=0) mixed k28 Tryz.func28 (by kernel_rfl) noLoop allT_nil allM_nil noI fun w xs us r hl hv h=>?_
 unfold m28 at h
 split at h
 ·rename_i a0 a1 a2
  obtain ⟨h1,rfl⟩:=pair_inj h
  exact (e28 a0 a1 a2).trans (of_tt (brT (fun b=>some (AV.bool (bif b then decide (a0≤a2) else false))) (fun _=>rfl) (fun _=>rfl)))
 ·cases h
def F36_0 (t0:List AV) (t3:Int):Out (Int) (Unit ⊕ Unit):=(bif decide (t3<(t0.length:Int)) then (bif (decide (0≤t3) && decide (t3<(t0.length:Int))) then (bif !(v28_0 (fI (t0.getD t3.toNat .undef) 0) (-999) 999) then .stop (.inr ())
 else .next (IntKind.i64.wrap (t3+1)))
 else .fail)
 else .stop (.inl ()))
def R36_0 (t0:List AV):(Int)→Out (Int) (Unit ⊕ Unit):=fun s:Int=>F36_0 t0 s
def E36_0 (t0:List AV):(Int)→St:=fun s:Int=>⟨[(0,AV.sl [.int .i64] t0),(3,Ai s)],[]⟩
def K36_0 (t0:List AV) (k:Kont):(Unit ⊕ Unit)→Option AV:=sumE (fun _:Unit=>k (.exit 0) ⟨[(0,AV.sl [.int .i64] t0)],[]⟩) (fun _:Unit=>k .ret ⟨[(2,AV.bool false)],[]⟩)
def l36_0:LModel:=fun _ _ st k=>match st with
 | ⟨[(0,.sl g0 t0),(3,.int .i64 t3)],[]⟩=>bif ctsEq g0 ([.int .i64]) then ro (runW (R36_0 t0) (((t0.length:Int) - t3:Int).toNat+1) t3) none (K36_0 t0 k) else none
 | _=>none
noncomputable def c36:Cfg:=cfg Tryz.prog [(36,0,[0,3]),(36,999,[2]),(36,1000,[0]),(36,1001,[0,3])] [(28,m28)] [] [] [(36,0,l36_0)]
theorem s36_0 (ce:CallE) (t0:List AV) (t3:Int) (next:St→Option AV) (k:Kont):stepA (codeA c36 ce [] 36 0 (sub [1,0,1,0,0] (body Tryz.f36))) (normA [] [0,3]) next ⟨[(0,AV.sl [.int .i64] t0),(3,Ai t3)],[]⟩ k=(bif decide (t3<(t0.length:Int)) then (bif (decide (0≤t3) && decide (t3<(t0.length:Int))) then (bif !(v28_0 (fI (t0.getD t3.toNat .undef) 0) (-999) 999) then k .ret ⟨[(2,AV.bool false)],[]⟩
 else next ⟨[(0,AV.sl [.int .i64] t0),(3,Ai (IntKind.i64.wrap (t3+1)))],[]⟩)
 else none)
 else k (.exit 0) ⟨[(0,AV.sl [.int .i64] t0)],[]⟩):=by kernel_rfl
theorem st36_0 (t0:List AV) (ce:CallE) (k:Kont) (s:Int) (next:St→Option AV):stepA (codeA c36 ce [] 36 0 (sub [1,0,1,0,0] (body Tryz.f36))) (normA [] [0,3]) next ((E36_0 t0) s) k=(R36_0 t0 s).el none (fun s=>next ((E36_0 t0) s)) (K36_0 t0 k):=(s36_0 ce t0 s next k).trans (by unfold R36_0;unfold F36_0;simp only [el_cond,el_ro,el_sum,el_fail,el_next,el_stop] <;> rfl)
theorem ok36_0 {ce:CallE}:LoopOK c36 ce [] 36 0 (sub [1,0,1,0,0] (body Tryz.f36)):=by
 intro m hm st k r h
 obtain rfl:l36_0=m:=Option.some.inj hm
 unfold l36_0 at h
 split at h
 ·rename_i g0 t0 t3
  obtain ⟨hg,h⟩:=bif_some h
  have q0:=hg
  obtain rfl:=ctsEq_eq _ _ q0
  refine ⟨(((t0.length:Int) - t3:Int).toNat+1),?_⟩
  rw [← h]
  exact loop_run (E36_0 t0) (K36_0 t0 k) (st36_0 t0 ce k) _ t3
 ·cases h
def q36 (a0:List AV):Bool:=(ro (runW (R36_0 a0) (((a0.length:Int) - 0:Int).toNat+1) 0) false (sumE (fun _=>true) (fun _=>true)))
def v36_0 (a0:List AV):Bool:=(ro (runW (R36_0 a0) (((a0.length:Int) - 0:Int).toNat+1) 0) false (sumE (fun _=>decide ((a0.length:Int)≤64)) (fun _=>false)))
theorem e36 (a0:List AV):funA c36 0 36 [AV.sl [.int .i64] a0]=(ro (runW (R36_0 a0) (((a0.length:Int) - 0:Int).toNat+1) 0) none (sumE (fun _=>some (AV.bool (decide ((a0.length:Int)≤64)))) (fun _=>some (AV.bool false)))):=by kernel_rfl
def m36:TModel
 | [.sl g0 a0]=>bif ctsEq g0 ([.int .i64]) then some (q36 a0,AV.bool (v36_0 a0)) else none
 | _=>none
theorem k36:Known Tryz.prog 36:=⟨Tryz.f36,Tryz.func36,by kernel_rfl,by kernel_rfl⟩
theorem meets36:Meets Tryz.prog 36 m36:=by
 refine meet (f:=Tryz.f36) (l:=[(0,sub [1,0,1,0,0] (body Tryz.f36))]) (hs:=[(36,0,[0,3]),(36,999,[2]),(36,1000,[0]),(36,1001,[0,3])]) (ts:=[(28,m28)]) (ws:=[]) (is:=[]) (ls:=[(36,0,l36_0)]) (lvl:=0) mixed k36 Tryz.func36 (by kernel_rfl) (loops_cons ok36_0 noLoop) (allT_cons meets28 allT_nil) allM_nil noI fun w xs us r hl hv h=>?_
 unfold m36 at h
 split at h
 ·rename_i g0 a0
  obtain ⟨hg,h⟩:=bif_pair h
  have q0:=hg
  obtain rfl:=ctsEq_eq _ _ q0
  obtain ⟨h1,rfl⟩:=pair_inj h
  exact (e36 a0).trans ((brO (fun o:Option (Unit ⊕ Unit)=>some (AV.bool (ro o false (sumE (fun _=>decide ((a0.length:Int)≤64)) (fun _=>false))))) (brS (fun o:Unit ⊕ Unit=>some (AV.bool ((sumE (fun _=>decide ((a0.length:Int)≤64)) (fun _=>false)) o))) (fun _=>(fun _=>rfl)) (fun _=>(fun _=>rfl)))) h1)
 ·cases h
noncomputable def c37:Cfg:=cfg Tryz.prog [(37,999,[2])] [(28,m28)] [] [] []
def q37 (xa xb xc:Int):Bool:=true
def v37_0 (xa xb xc:Int):Bool:=(bif (v28_0 xa 0 2) then (bif (v28_0 xb 1 64) then (v28_0 xc 0 10006) else false) else false)
theorem e37 (xa xb xc:Int):funA c37 0 37 [AV.agg [Ai xa,Ai xb,Ai xc]]=(bif (v28_0 xa 0 2) then (bif (v28_0 xb 1 64) then some (AV.bool (v28_0 xc 0 10006))
 else some (AV.bool false))
 else some (AV.bool false)):=by kernel_rfl
def m37:TModel
 | [.agg [.int .i64 xa,.int .i64 xb,.int .i64 xc]]=>some (true,AV.bool (v37_0 xa xb xc))
 | _=>none
theorem k37:Known Tryz.prog 37:=⟨Tryz.f37,Tryz.func37,by kernel_rfl,by kernel_rfl⟩
theorem meets37:Meets Tryz.prog 37 m37:=by
 refine meet (f:=Tryz.f37) (l:=[]) (hs:=[(37,999,[2])]) (ts:=[(28,m28)]) (ws:=[]) (is:=[]) (ls:=[]) (lvl:=0) mixed k37 Tryz.func37 (by kernel_rfl) noLoop (allT_cons meets28 allT_nil) allM_nil noI fun w xs us r hl hv h=>?_
 unfold m37 at h
 split at h
 ·rename_i xa xb xc
  obtain ⟨h1,rfl⟩:=pair_inj h
  exact (e37 xa xb xc).trans (of_tt (brT (fun b=>some (AV.bool (bif b then (bif (v28_0 xb 1 64) then (v28_0 xc 0 10006) else false) else false))) (brT (fun b=>some (AV.bool (bif b then (v28_0 xc 0 10006) else false))) (fun _=>rfl) (fun _=>rfl)) (fun _=>rfl)))
 ·cases h
noncomputable def c51:Cfg:=cfg Tryz.prog [(51,999,[2])] [(28,m28)] [] [] []
def q51 (xa xb:Int):Bool:=true
def v51_0 (xa xb:Int):Bool:=(bif (v28_0 xa (-1000) 1000) then (v28_0 xb xa 1000) else false)
theorem e51 (xa xb:Int):funA c51 0 51 [AV.agg [Ai xa,Ai xb]]=(bif (v28_0 xa (-1000) 1000) then some (AV.bool (v28_0 xb xa 1000))
 else some (AV.bool false)):=by kernel_rfl
def m51:TModel
 | [.agg [.int .i64 xa,.int .i64 xb]]=>some (true,AV.bool (v51_0 xa xb))
 | _=>none
theorem k51:Known Tryz.prog 51:=⟨Tryz.f51,Tryz.func51,by kernel_rfl,by kernel_rfl⟩
theorem meets51:Meets Tryz.prog 51 m51:=by
 refine meet (f:=Tryz.f51) (l:=[]) (hs:=[(51,999,[2])]) (ts:=[(28,m28)]) (ws:=[]) (is:=[]) (ls:=[]) (lvl:=0) mixed k51 Tryz.func51 (by kernel_rfl) noLoop (allT_cons meets28 allT_nil) allM_nil noI fun w xs us r hl hv h=>?_
 unfold m51 at h
 split at h
 ·rename_i xa xb
  obtain ⟨h1,rfl⟩:=pair_inj h
  exact (e51 xa xb).trans (of_tt (brT (fun b=>some (AV.bool (bif b then (v28_0 xb xa 1000) else false))) (fun _=>rfl) (fun _=>rfl)))
 ·cases h
def F38_0 (t0:List AV) (t3:Int):Out (Int) (Unit ⊕ Unit):=(bif decide (t3<(t0.length:Int)) then (bif (decide (0≤t3) && decide (t3<(t0.length:Int))) then (bif !(v51_0 (fI (t0.getD t3.toNat .undef) 0) (fI (t0.getD t3.toNat .undef) 1)) then .stop (.inr ())
 else .next (IntKind.i64.wrap (t3+1)))
 else .fail)
 else .stop (.inl ()))
def R38_0 (t0:List AV):(Int)→Out (Int) (Unit ⊕ Unit):=fun s:Int=>F38_0 t0 s
def E38_0 (t0:List AV):(Int)→St:=fun s:Int=>⟨[(0,AV.sl [.int .i64,.int .i64] t0),(3,Ai s)],[]⟩
def K38_0 (t0:List AV) (k:Kont):(Unit ⊕ Unit)→Option AV:=sumE (fun _:Unit=>k (.exit 0) ⟨[(0,AV.sl [.int .i64,.int .i64] t0)],[]⟩) (fun _:Unit=>k .ret ⟨[(2,AV.bool false)],[]⟩)
def l38_0:LModel:=fun _ _ st k=>match st with
 | ⟨[(0,.sl g0 t0),(3,.int .i64 t3)],[]⟩=>bif ctsEq g0 ([.int .i64,.int .i64]) then ro (runW (R38_0 t0) (((t0.length:Int) - t3:Int).toNat+1) t3) none (K38_0 t0 k) else none
 | _=>none
noncomputable def c38:Cfg:=cfg Tryz.prog [(38,0,[0,3]),(38,999,[2]),(38,1000,[0]),(38,1001,[0,3])] [(51,m51)] [] [] [(38,0,l38_0)]
theorem s38_0 (ce:CallE) (t0:List AV) (t3:Int) (next:St→Option AV) (k:Kont):stepA (codeA c38 ce [] 38 0 (sub [1,0,1,0,0] (body Tryz.f38))) (normA [] [0,3]) next ⟨[(0,AV.sl [.int .i64,.int .i64] t0),(3,Ai t3)],[]⟩ k=(bif decide (t3<(t0.length:Int)) then (bif (decide (0≤t3) && decide (t3<(t0.length:Int))) then (bif !(v51_0 (fI (t0.getD t3.toNat .undef) 0) (fI (t0.getD t3.toNat .undef) 1)) then k .ret ⟨[(2,AV.bool false)],[]⟩
 else next ⟨[(0,AV.sl [.int .i64,.int .i64] t0),(3,Ai (IntKind.i64.wrap (t3+1)))],[]⟩)
 else none)
 else k (.exit 0) ⟨[(0,AV.sl [.int .i64,.int .i64] t0)],[]⟩):=by kernel_rfl
theorem st38_0 (t0:List AV) (ce:CallE) (k:Kont) (s:Int) (next:St→Option AV):stepA (codeA c38 ce [] 38 0 (sub [1,0,1,0,0] (body Tryz.f38))) (normA [] [0,3]) next ((E38_0 t0) s) k=(R38_0 t0 s).el none (fun s=>next ((E38_0 t0) s)) (K38_0 t0 k):=(s38_0 ce t0 s next k).trans (by unfold R38_0;unfold F38_0;simp only [el_cond,el_ro,el_sum,el_fail,el_next,el_stop] <;> rfl)
theorem ok38_0 {ce:CallE}:LoopOK c38 ce [] 38 0 (sub [1,0,1,0,0] (body Tryz.f38)):=by
 intro m hm st k r h
 obtain rfl:l38_0=m:=Option.some.inj hm
 unfold l38_0 at h
 split at h
 ·rename_i g0 t0 t3
  obtain ⟨hg,h⟩:=bif_some h
  have q0:=hg
  obtain rfl:=ctsEq_eq _ _ q0
  refine ⟨(((t0.length:Int) - t3:Int).toNat+1),?_⟩
  rw [← h]
  exact loop_run (E38_0 t0) (K38_0 t0 k) (st38_0 t0 ce k) _ t3
 ·cases h
def q38 (a0:List AV):Bool:=(ro (runW (R38_0 a0) (((a0.length:Int) - 0:Int).toNat+1) 0) false (sumE (fun _=>true) (fun _=>true)))
def v38_0 (a0:List AV):Bool:=(ro (runW (R38_0 a0) (((a0.length:Int) - 0:Int).toNat+1) 0) false (sumE (fun _=>decide ((a0.length:Int)≤30)) (fun _=>false)))
theorem e38 (a0:List AV):funA c38 0 38 [AV.sl [.int .i64,.int .i64] a0]=(ro (runW (R38_0 a0) (((a0.length:Int) - 0:Int).toNat+1) 0) none (sumE (fun _=>some (AV.bool (decide ((a0.length:Int)≤30)))) (fun _=>some (AV.bool false)))):=by kernel_rfl
def m38:TModel
 | [.sl g0 a0]=>bif ctsEq g0 ([.int .i64,.int .i64]) then some (q38 a0,AV.bool (v38_0 a0)) else none
 | _=>none
theorem k38:Known Tryz.prog 38:=⟨Tryz.f38,Tryz.func38,by kernel_rfl,by kernel_rfl⟩
theorem meets38:Meets Tryz.prog 38 m38:=by
 refine meet (f:=Tryz.f38) (l:=[(0,sub [1,0,1,0,0] (body Tryz.f38))]) (hs:=[(38,0,[0,3]),(38,999,[2]),(38,1000,[0]),(38,1001,[0,3])]) (ts:=[(51,m51)]) (ws:=[]) (is:=[]) (ls:=[(38,0,l38_0)]) (lvl:=0) mixed k38 Tryz.func38 (by kernel_rfl) (loops_cons ok38_0 noLoop) (allT_cons meets51 allT_nil) allM_nil noI fun w xs us r hl hv h=>?_
 unfold m38 at h
 split at h
 ·rename_i g0 a0
  obtain ⟨hg,h⟩:=bif_pair h
  have q0:=hg
  obtain rfl:=ctsEq_eq _ _ q0
  obtain ⟨h1,rfl⟩:=pair_inj h
  exact (e38 a0).trans ((brO (fun o:Option (Unit ⊕ Unit)=>some (AV.bool (ro o false (sumE (fun _=>decide ((a0.length:Int)≤30)) (fun _=>false))))) (brS (fun o:Unit ⊕ Unit=>some (AV.bool ((sumE (fun _=>decide ((a0.length:Int)≤30)) (fun _=>false)) o))) (fun _=>(fun _=>rfl)) (fun _=>(fun _=>rfl)))) h1)
 ·cases h
def F44_0_s0 (t0 h0:List AV) (t4:Int):Out (Int ⊕ (Int × (List AV))) (Unit ⊕ ((List AV))):=(bif decide (t4<(t0.length:Int)) then (bif (decide ((([AV.int .i64 t4]).length)*8≤140737488355328) && decide ((([AV.int .i64 t4]).length)≤140737488355328)) then .next (.inr (IntKind.i64.wrap (t4+1),[AV.int .i64 t4]))
 else .fail)
 else .stop (.inl ()))
def F44_0_s1 (t0 h0:List AV) (t4:Int) (h1:List AV):Out (Int ⊕ (Int × (List AV))) (Unit ⊕ ((List AV))):=(bif decide (t4<(t0.length:Int)) then (bif (decide ((h1.length+([AV.int .i64 t4]).length)*8≤140737488355328) && decide ((h1.length+([AV.int .i64 t4]).length)≤140737488355328)) then .next (.inr (IntKind.i64.wrap (t4+1),h1++([AV.int .i64 t4])))
 else .fail)
 else .stop (.inr h1))
def R44_0 (t0 h0:List AV):(Int ⊕ (Int × (List AV)))→Out (Int ⊕ (Int × (List AV))) (Unit ⊕ ((List AV))):=sumE (fun s:Int=>F44_0_s0 t0 h0 s) (fun s:Int × (List AV)=>F44_0_s1 t0 h0 s.1 s.2)
def E44_0 (t0 h0:List AV):(Int ⊕ (Int × (List AV)))→St:=sumE (fun s:Int=>⟨[(0,AV.sl [.int .i64] t0),(2,AV.ptr [0,2] 0 0),(3,AV.ptr [0,3] 0 0),(4,Ai s)],[([0,0,3],⟨false,[.int .i64],h0⟩),([0,2],⟨true,[],[AV.agg [AV.snil,AV.snil,AV.snil]]⟩),([0,3],⟨true,[],[AV.agg [AV.own [0,0,3],AV.snil,AV.snil]]⟩)]⟩) (fun s:Int × (List AV)=>⟨[(0,AV.sl [.int .i64] t0),(2,AV.ptr [0,2] 0 0),(3,AV.ptr [0,3] 0 0),(4,Ai s.1)],[([0,0,3],⟨false,[.int .i64],h0⟩),([0,1,3],⟨false,[.int .i64],s.2⟩),([0,2],⟨true,[],[AV.agg [AV.snil,AV.snil,AV.snil]]⟩),([0,3],⟨true,[],[AV.agg [AV.own [0,0,3],AV.own [0,1,3],AV.snil]]⟩)]⟩)
def K44_0 (h0:List AV) (k:Kont):(Unit ⊕ ((List AV)))→Option AV:=sumE (fun _:Unit=>k (.exit 0) ⟨[(2,AV.ptr [0,2] 0 0),(3,AV.ptr [0,3] 0 0)],[([0,0,3],⟨false,[.int .i64],h0⟩),([0,2],⟨true,[],[AV.agg [AV.snil,AV.snil,AV.snil]]⟩),([0,3],⟨true,[],[AV.agg [AV.own [0,0,3],AV.snil,AV.snil]]⟩)]⟩) (fun p:(List AV)=>k (.exit 0) ⟨[(2,AV.ptr [0,2] 0 0),(3,AV.ptr [0,3] 0 0)],[([0,0,3],⟨false,[.int .i64],h0⟩),([0,1,3],⟨false,[.int .i64],p⟩),([0,2],⟨true,[],[AV.agg [AV.snil,AV.snil,AV.snil]]⟩),([0,3],⟨true,[],[AV.agg [AV.own [0,0,3],AV.own [0,1,3],AV.snil]]⟩)]⟩)
def l44_0:LModel:=fun _ _ st k=>match st with
 | ⟨[(0,.sl g0 t0),(2,.ptr g1 g2 g3),(3,.ptr g4 g5 g6),(4,.int .i64 t4)],[(g7,⟨false,g8,h0⟩),(g9,⟨true,[],[.agg [.snil,.snil,.snil]]⟩),(g10,⟨true,[],[.agg [.own g11,.snil,.snil]]⟩)]⟩=>bif ctsEq g0 ([.int .i64]) && nmEq g1 ([0,2]) && Nat.beq g2 0 && Nat.beq g3 0 && nmEq g4 ([0,3]) && Nat.beq g5 0 && Nat.beq g6 0 && nmEq g7 ([0,0,3]) && ctsEq g8 ([.int .i64]) && nmEq g9 ([0,2]) && nmEq g10 ([0,3]) && nmEq g11 ([0,0,3]) then ro (runW (R44_0 t0 h0) (((t0.length:Int) - t4:Int).toNat+1) (.inl t4)) none (K44_0 h0 k) else none
 | ⟨[(0,.sl g0 t0),(2,.ptr g1 g2 g3),(3,.ptr g4 g5 g6),(4,.int .i64 t4)],[(g7,⟨false,g8,h0⟩),(g9,⟨false,g10,h1⟩),(g11,⟨true,[],[.agg [.snil,.snil,.snil]]⟩),(g12,⟨true,[],[.agg [.own g13,.own g14,.snil]]⟩)]⟩=>bif ctsEq g0 ([.int .i64]) && nmEq g1 ([0,2]) && Nat.beq g2 0 && Nat.beq g3 0 && nmEq g4 ([0,3]) && Nat.beq g5 0 && Nat.beq g6 0 && nmEq g7 ([0,0,3]) && ctsEq g8 ([.int .i64]) && nmEq g9 ([0,1,3]) && ctsEq g10 ([.int .i64]) && nmEq g11 ([0,2]) && nmEq g12 ([0,3]) && nmEq g13 ([0,0,3]) && nmEq g14 ([0,1,3]) then ro (runW (R44_0 t0 h0) (((t0.length:Int) - t4:Int).toNat+1) (.inr (t4,h1))) none (K44_0 h0 k) else none
 | _=>none
noncomputable def c44:Cfg:=cfg Tryz.prog [(44,0,[0,2,3,4]),(44,999,[2]),(44,1000,[2,3]),(44,1001,[0,2,3,4])] [(36,m36)] [] [] [(44,0,l44_0)]
theorem s44_0_s0 (ce:CallE) (t0:List AV) (t4:Int) (h0:List AV) (next:St→Option AV) (k:Kont):stepA (codeA c44 ce [] 44 0 (sub [1,1,1,0,1,0,0] (body Tryz.f44))) (normA [] [0,2,3,4]) next ⟨[(0,AV.sl [.int .i64] t0),(2,AV.ptr [0,2] 0 0),(3,AV.ptr [0,3] 0 0),(4,Ai t4)],[([0,0,3],⟨false,[.int .i64],h0⟩),([0,2],⟨true,[],[AV.agg [AV.snil,AV.snil,AV.snil]]⟩),([0,3],⟨true,[],[AV.agg [AV.own [0,0,3],AV.snil,AV.snil]]⟩)]⟩ k=(bif decide (t4<(t0.length:Int)) then (bif (decide ((([Ai t4]).length)*8≤140737488355328) && decide ((([Ai t4]).length)≤140737488355328)) then next ⟨[(0,AV.sl [.int .i64] t0),(2,AV.ptr [0,2] 0 0),(3,AV.ptr [0,3] 0 0),(4,Ai (IntKind.i64.wrap (t4+1)))],[([0,0,3],⟨false,[.int .i64],h0⟩),([0,1,3],⟨false,[.int .i64],[Ai t4]⟩),([0,2],⟨true,[],[AV.agg [AV.snil,AV.snil,AV.snil]]⟩),([0,3],⟨true,[],[AV.agg [AV.own [0,0,3],AV.own [0,1,3],AV.snil]]⟩)]⟩
 else none)
 else k (.exit 0) ⟨[(2,AV.ptr [0,2] 0 0),(3,AV.ptr [0,3] 0 0)],[([0,0,3],⟨false,[.int .i64],h0⟩),([0,2],⟨true,[],[AV.agg [AV.snil,AV.snil,AV.snil]]⟩),([0,3],⟨true,[],[AV.agg [AV.own [0,0,3],AV.snil,AV.snil]]⟩)]⟩):=by kernel_rfl
theorem s44_0_s1 (ce:CallE) (t0:List AV) (t4:Int) (h0 h1:List AV) (next:St→Option AV) (k:Kont):stepA (codeA c44 ce [] 44 0 (sub [1,1,1,0,1,0,0] (body Tryz.f44))) (normA [] [0,2,3,4]) next ⟨[(0,AV.sl [.int .i64] t0),(2,AV.ptr [0,2] 0 0),(3,AV.ptr [0,3] 0 0),(4,Ai t4)],[([0,0,3],⟨false,[.int .i64],h0⟩),([0,1,3],⟨false,[.int .i64],h1⟩),([0,2],⟨true,[],[AV.agg [AV.snil,AV.snil,AV.snil]]⟩),([0,3],⟨true,[],[AV.agg [AV.own [0,0,3],AV.own [0,1,3],AV.snil]]⟩)]⟩ k=(bif decide (t4<(t0.length:Int)) then (bif (decide ((h1.length+([Ai t4]).length)*8≤140737488355328) && decide ((h1.length+([Ai t4]).length)≤140737488355328)) then next ⟨[(0,AV.sl [.int .i64] t0),(2,AV.ptr [0,2] 0 0),(3,AV.ptr [0,3] 0 0),(4,Ai (IntKind.i64.wrap (t4+1)))],[([0,0,3],⟨false,[.int .i64],h0⟩),([0,1,3],⟨false,[.int .i64],h1++([Ai t4])⟩),([0,2],⟨true,[],[AV.agg [AV.snil,AV.snil,AV.snil]]⟩),([0,3],⟨true,[],[AV.agg [AV.own [0,0,3],AV.own [0,1,3],AV.snil]]⟩)]⟩
 else none)
 else k (.exit 0) ⟨[(2,AV.ptr [0,2] 0 0),(3,AV.ptr [0,3] 0 0)],[([0,0,3],⟨false,[.int .i64],h0⟩),([0,1,3],⟨false,[.int .i64],h1⟩),([0,2],⟨true,[],[AV.agg [AV.snil,AV.snil,AV.snil]]⟩),([0,3],⟨true,[],[AV.agg [AV.own [0,0,3],AV.own [0,1,3],AV.snil]]⟩)]⟩):=by kernel_rfl
theorem st44_0 (t0 h0:List AV) (ce:CallE) (k:Kont) (s:Int ⊕ (Int × (List AV))) (next:St→Option AV):stepA (codeA c44 ce [] 44 0 (sub [1,1,1,0,1,0,0] (body Tryz.f44))) (normA [] [0,2,3,4]) next ((E44_0 t0 h0) s) k=(R44_0 t0 h0 s).el none (fun s=>next ((E44_0 t0 h0) s)) (K44_0 h0 k):=(match s with | .inl s=>(s44_0_s0 ce t0 s h0 next k).trans (by unfold R44_0;unfold F44_0_s0;simp only [el_cond,el_ro,el_sum,el_fail,el_next,el_stop] <;> rfl) | .inr s=>(s44_0_s1 ce t0 s.1 h0 s.2 next k).trans (by unfold R44_0;unfold F44_0_s1;simp only [el_cond,el_ro,el_sum,el_fail,el_next,el_stop] <;> rfl))
theorem ok44_0 {ce:CallE}:LoopOK c44 ce [] 44 0 (sub [1,1,1,0,1,0,0] (body Tryz.f44)):=by
 intro m hm st k r h
 obtain rfl:l44_0=m:=Option.some.inj hm
 unfold l44_0 at h
 split at h
 ·rename_i g0 t0 g1 g2 g3 g4 g5 g6 t4 g7 g8 h0 g9 g10 g11
  obtain ⟨hg,h⟩:=bif_some h
  simp only [Bool.and_eq_true] at hg
  obtain ⟨⟨⟨⟨⟨⟨⟨⟨⟨⟨⟨q0,q1⟩,q2⟩,q3⟩,q4⟩,q5⟩,q6⟩,q7⟩,q8⟩,q9⟩,q10⟩,q11⟩:=hg
  obtain rfl:=ctsEq_eq _ _ q0
  obtain rfl:=(nmEq_iff _ _).1 q1
  obtain rfl:=Nat.eq_of_beq_eq_true q2
  obtain rfl:=Nat.eq_of_beq_eq_true q3
  obtain rfl:=(nmEq_iff _ _).1 q4
  obtain rfl:=Nat.eq_of_beq_eq_true q5
  obtain rfl:=Nat.eq_of_beq_eq_true q6
  obtain rfl:=(nmEq_iff _ _).1 q7
  obtain rfl:=ctsEq_eq _ _ q8
  obtain rfl:=(nmEq_iff _ _).1 q9
  obtain rfl:=(nmEq_iff _ _).1 q10
  obtain rfl:=(nmEq_iff _ _).1 q11
  refine ⟨(((t0.length:Int) - t4:Int).toNat+1),?_⟩
  rw [← h]
  exact loop_run (E44_0 t0 h0) (K44_0 h0 k) (st44_0 t0 h0 ce k) _ (.inl t4)
 ·rename_i g0 t0 g1 g2 g3 g4 g5 g6 t4 g7 g8 h0 g9 g10 h1 g11 g12 g13 g14
  obtain ⟨hg,h⟩:=bif_some h
  simp only [Bool.and_eq_true] at hg
  obtain ⟨⟨⟨⟨⟨⟨⟨⟨⟨⟨⟨⟨⟨⟨q0,q1⟩,q2⟩,q3⟩,q4⟩,q5⟩,q6⟩,q7⟩,q8⟩,q9⟩,q10⟩,q11⟩,q12⟩,q13⟩,q14⟩:=hg
  obtain rfl:=ctsEq_eq _ _ q0
  obtain rfl:=(nmEq_iff _ _).1 q1
  obtain rfl:=Nat.eq_of_beq_eq_true q2
  obtain rfl:=Nat.eq_of_beq_eq_true q3
  obtain rfl:=(nmEq_iff _ _).1 q4
  obtain rfl:=Nat.eq_of_beq_eq_true q5
  obtain rfl:=Nat.eq_of_beq_eq_true q6
  obtain rfl:=(nmEq_iff _ _).1 q7
  obtain rfl:=ctsEq_eq _ _ q8
  obtain rfl:=(nmEq_iff _ _).1 q9
  obtain rfl:=ctsEq_eq _ _ q10
  obtain rfl:=(nmEq_iff _ _).1 q11
  obtain rfl:=(nmEq_iff _ _).1 q12
  obtain rfl:=(nmEq_iff _ _).1 q13
  obtain rfl:=(nmEq_iff _ _).1 q14
  refine ⟨(((t0.length:Int) - t4:Int).toNat+1),?_⟩
  rw [← h]
  exact loop_run (E44_0 t0 h0) (K44_0 h0 k) (st44_0 t0 h0 ce k) _ (.inr (t4,h1))
 ·cases h
def q44 (a0:List AV):Bool:=(q36 a0 && (bif !(v36_0 a0) then true else ((decide ((([]:List AV).length+a0.length)*8≤140737488355328) && decide ((([]:List AV).length+a0.length)≤140737488355328)) && (ro (runW (R44_0 a0 (([]:List AV)++a0)) (((a0.length:Int) - 0:Int).toNat+1) (.inl 0)) false (sumE (fun _=>true) (fun p8=>true))))))
def v44_0 (a0:List AV):List AV:=(bif !(v36_0 a0) then ([]:List AV) else ([]:List AV)++a0)
def v44_1 (a0:List AV):List AV:=(bif !(v36_0 a0) then ([]:List AV) else (ro (runW (R44_0 a0 (([]:List AV)++a0)) (((a0.length:Int) - 0:Int).toNat+1) (.inl 0)) [] (sumE (fun _=>([]:List AV)) (fun p8=>p8))))
def v44_2 (a0:List AV):List AV:=([]:List AV)
theorem e44 (a0:List AV):funA c44 0 44 [AV.sl [.int .i64] a0]=(bif q36 a0 then (bif !(v36_0 a0) then some (AV.agg [AV.fl [.int .i64] ([]:List AV),AV.fl [.int .i64] ([]:List AV),AV.fl [.int .i64,.int .i64] ([]:List AV)])
 else (bif (decide ((([]:List AV).length+a0.length)*8≤140737488355328) && decide ((([]:List AV).length+a0.length)≤140737488355328)) then (ro (runW (R44_0 a0 (([]:List AV)++a0)) (((a0.length:Int) - 0:Int).toNat+1) (.inl 0)) none (sumE (fun _=>some (AV.agg [AV.fl [.int .i64] (([]:List AV)++a0),AV.fl [.int .i64] ([]:List AV),AV.fl [.int .i64,.int .i64] ([]:List AV)])) (fun p8=>some (AV.agg [AV.fl [.int .i64] (([]:List AV)++a0),AV.fl [.int .i64] p8,AV.fl [.int .i64,.int .i64] ([]:List AV)]))))
 else none))
 else none):=by kernel_rfl
def m44:TModel
 | [.sl g0 a0]=>bif ctsEq g0 ([.int .i64]) then some (q44 a0,AV.agg [AV.fl [.int .i64] (v44_0 a0),AV.fl [.int .i64] (v44_1 a0),AV.fl [.int .i64,.int .i64] (v44_2 a0)]) else none
 | _=>none
theorem k44:Known Tryz.prog 44:=⟨Tryz.f44,Tryz.func44,by kernel_rfl,by kernel_rfl⟩
theorem meets44:Meets Tryz.prog 44 m44:=by
 refine meet (f:=Tryz.f44) (l:=[(0,sub [1,1,1,0,1,0,0] (body Tryz.f44))]) (hs:=[(44,0,[0,2,3,4]),(44,999,[2]),(44,1000,[2,3]),(44,1001,[0,2,3,4])]) (ts:=[(36,m36)]) (ws:=[]) (is:=[]) (ls:=[(44,0,l44_0)]) (lvl:=0) mixed k44 Tryz.func44 (by kernel_rfl) (loops_cons ok44_0 noLoop) (allT_cons meets36 allT_nil) allM_nil noI fun w xs us r hl hv h=>?_
 unfold m44 at h
 split at h
 ·rename_i g0 a0
  obtain ⟨hg,h⟩:=bif_pair h
  have q0:=hg
  obtain rfl:=ctsEq_eq _ _ q0
  obtain ⟨h1,rfl⟩:=pair_inj h
  exact (e44 a0).trans ((brL (br (fun b=>some (AV.agg [AV.fl [.int .i64] (bif b then ([]:List AV) else ([]:List AV)++a0),AV.fl [.int .i64] (bif b then ([]:List AV) else (ro (runW (R44_0 a0 (([]:List AV)++a0)) (((a0.length:Int) - 0:Int).toNat+1) (.inl 0)) [] (sumE (fun _=>([]:List AV)) (fun p8=>p8)))),AV.fl [.int .i64,.int .i64] ([]:List AV)])) (fun _=>rfl) (brL (brO (fun o:Option (Unit ⊕ ((List AV)))=>some (AV.agg [AV.fl [.int .i64] (([]:List AV)++a0),AV.fl [.int .i64] (ro o [] (sumE (fun _=>([]:List AV)) (fun p8=>p8))),AV.fl [.int .i64,.int .i64] ([]:List AV)])) (brS (fun o:Unit ⊕ ((List AV))=>some (AV.agg [AV.fl [.int .i64] (([]:List AV)++a0),AV.fl [.int .i64] ((sumE (fun _=>([]:List AV)) (fun p8=>p8)) o),AV.fl [.int .i64,.int .i64] ([]:List AV)])) (fun _=>(fun _=>rfl)) (fun p8=>(fun _=>rfl))))))) h1)
 ·cases h
def F67_0 (t0:List AV) (t1 t5:Int):Out (Int) (Unit ⊕ Unit):=(bif decide (t5<(t0.length:Int)) then (bif (decide (0≤t5) && decide (t5<(t0.length:Int))) then (bif decide (fI (t0.getD t5.toNat .undef) 0=t1) then .stop (.inr ())
 else .next (IntKind.i64.wrap (t5+1)))
 else .fail)
 else .stop (.inl ()))
def R67_0 (t0:List AV) (t1:Int):(Int)→Out (Int) (Unit ⊕ Unit):=fun s:Int=>F67_0 t0 t1 s
def E67_0 (t0:List AV) (t1:Int):(Int)→St:=fun s:Int=>⟨[(0,AV.sl [.int .i64] t0),(1,Ai t1),(5,Ai s)],[]⟩
def K67_0 (k:Kont):(Unit ⊕ Unit)→Option AV:=sumE (fun _:Unit=>k (.exit 0) ⟨[],[]⟩) (fun _:Unit=>k .ret ⟨[(4,AV.bool true)],[]⟩)
def l67_0:LModel:=fun _ _ st k=>match st with
 | ⟨[(0,.sl g0 t0),(1,.int .i64 t1),(5,.int .i64 t5)],[]⟩=>bif ctsEq g0 ([.int .i64]) then ro (runW (R67_0 t0 t1) (((t0.length:Int) - t5:Int).toNat+1) t5) none (K67_0 k) else none
 | _=>none
noncomputable def c67:Cfg:=cfg Tryz.prog [(67,0,[0,1,5]),(67,999,[4]),(67,1000,[]),(67,1001,[0,1,5])] [] [] [] [(67,0,l67_0)]
theorem s67_0 (ce:CallE) (t0:List AV) (t1 t5:Int) (next:St→Option AV) (k:Kont):stepA (codeA c67 ce [] 67 0 (sub [1,0,1,0,0] (body Tryz.f67))) (normA [] [0,1,5]) next ⟨[(0,AV.sl [.int .i64] t0),(1,Ai t1),(5,Ai t5)],[]⟩ k=(bif decide (t5<(t0.length:Int)) then (bif (decide (0≤t5) && decide (t5<(t0.length:Int))) then (bif decide (fI (t0.getD t5.toNat .undef) 0=t1) then k .ret ⟨[(4,AV.bool true)],[]⟩
 else next ⟨[(0,AV.sl [.int .i64] t0),(1,Ai t1),(5,Ai (IntKind.i64.wrap (t5+1)))],[]⟩)
 else none)
 else k (.exit 0) ⟨[],[]⟩):=by kernel_rfl
theorem st67_0 (t0:List AV) (t1:Int) (ce:CallE) (k:Kont) (s:Int) (next:St→Option AV):stepA (codeA c67 ce [] 67 0 (sub [1,0,1,0,0] (body Tryz.f67))) (normA [] [0,1,5]) next ((E67_0 t0 t1) s) k=(R67_0 t0 t1 s).el none (fun s=>next ((E67_0 t0 t1) s)) (K67_0 k):=(s67_0 ce t0 t1 s next k).trans (by unfold R67_0;unfold F67_0;simp only [el_cond,el_ro,el_sum,el_fail,el_next,el_stop] <;> rfl)
theorem ok67_0 {ce:CallE}:LoopOK c67 ce [] 67 0 (sub [1,0,1,0,0] (body Tryz.f67)):=by
 intro m hm st k r h
 obtain rfl:l67_0=m:=Option.some.inj hm
 unfold l67_0 at h
 split at h
 ·rename_i g0 t0 t1 t5
  obtain ⟨hg,h⟩:=bif_some h
  have q0:=hg
  obtain rfl:=ctsEq_eq _ _ q0
  refine ⟨(((t0.length:Int) - t5:Int).toNat+1),?_⟩
  rw [← h]
  exact loop_run (E67_0 t0 t1) (K67_0 k) (st67_0 t0 t1 ce k) _ t5
 ·cases h
def q67 (a0:List AV) (a1:Int):Bool:=(ro (runW (R67_0 a0 a1) (((a0.length:Int) - 0:Int).toNat+1) 0) false (sumE (fun _=>true) (fun _=>true)))
def v67_0 (a0:List AV) (a1:Int):Bool:=(ro (runW (R67_0 a0 a1) (((a0.length:Int) - 0:Int).toNat+1) 0) false (sumE (fun _=>false) (fun _=>true)))
theorem e67 (a0:List AV) (a1:Int):funA c67 0 67 [AV.sl [.int .i64] a0,Ai a1]=(ro (runW (R67_0 a0 a1) (((a0.length:Int) - 0:Int).toNat+1) 0) none (sumE (fun _=>some (AV.bool false)) (fun _=>some (AV.bool true)))):=by kernel_rfl
def m67:TModel
 | [.sl g0 a0,.int .i64 a1]=>bif ctsEq g0 ([.int .i64]) then some (q67 a0 a1,AV.bool (v67_0 a0 a1)) else none
 | _=>none
theorem k67:Known Tryz.prog 67:=⟨Tryz.f67,Tryz.func67,by kernel_rfl,by kernel_rfl⟩
theorem meets67:Meets Tryz.prog 67 m67:=by
 refine meet (f:=Tryz.f67) (l:=[(0,sub [1,0,1,0,0] (body Tryz.f67))]) (hs:=[(67,0,[0,1,5]),(67,999,[4]),(67,1000,[]),(67,1001,[0,1,5])]) (ts:=[]) (ws:=[]) (is:=[]) (ls:=[(67,0,l67_0)]) (lvl:=0) mixed k67 Tryz.func67 (by kernel_rfl) (loops_cons ok67_0 noLoop) allT_nil allM_nil noI fun w xs us r hl hv h=>?_
 unfold m67 at h
 split at h
 ·rename_i g0 a0 a1
  obtain ⟨hg,h⟩:=bif_pair h
  have q0:=hg
  obtain rfl:=ctsEq_eq _ _ q0
  obtain ⟨h1,rfl⟩:=pair_inj h
  exact (e67 a0 a1).trans ((brO (fun o:Option (Unit ⊕ Unit)=>some (AV.bool (ro o false (sumE (fun _=>false) (fun _=>true))))) (brS (fun o:Unit ⊕ Unit=>some (AV.bool ((sumE (fun _=>false) (fun _=>true)) o))) (fun _=>(fun _=>rfl)) (fun _=>(fun _=>rfl)))) h1)
 ·cases h
def F68_2 (t0 t1:List AV) (t5 h0_0 h0_1 t7:Int):Out (Int) (Unit ⊕ Unit):=(bif decide (t7<(t0.length:Int)) then (bif (decide (0≤t7) && decide (t7<(t0.length:Int))) then (bif !(decide (fI (t0.getD t7.toNat .undef) 0<h0_0) == decide (t7<h0_1)) then .stop (.inr ())
 else .next (IntKind.i64.wrap (t7+1)))
 else .fail)
 else .stop (.inl ()))
def R68_2 (t0 t1:List AV) (t5 h0_0 h0_1:Int):(Int)→Out (Int) (Unit ⊕ Unit):=fun s:Int=>F68_2 t0 t1 t5 h0_0 h0_1 s
def E68_2 (t0 t1:List AV) (t5 h0_0 h0_1:Int):(Int)→St:=fun s:Int=>⟨[(0,AV.sl [.int .i64] t0),(1,AV.sl [.int .i64,.int .i64] t1),(5,Ai t5),(6,AV.ptr [0,6] 0 0),(7,Ai s)],[([0,6],⟨true,[],[AV.agg [Ai h0_0,Ai h0_1]]⟩)]⟩
def K68_2 (t0 t1:List AV) (t5 h0_0 h0_1:Int) (k:Kont):(Unit ⊕ Unit)→Option AV:=sumE (fun _:Unit=>k (.exit 2) ⟨[(0,AV.sl [.int .i64] t0),(1,AV.sl [.int .i64,.int .i64] t1),(5,Ai t5)],[([0,6],⟨true,[],[AV.agg [Ai h0_0,Ai h0_1]]⟩)]⟩) (fun _:Unit=>k .ret ⟨[(4,AV.bool false)],[([0,6],⟨true,[],[AV.agg [Ai h0_0,Ai h0_1]]⟩)]⟩)
def l68_2:LModel:=fun _ _ st k=>match st with
 | ⟨[(0,.sl g0 t0),(1,.sl g1 t1),(5,.int .i64 t5),(6,.ptr g2 g3 g4),(7,.int .i64 t7)],[(g5,⟨true,[],[.agg [.int .i64 h0_0,.int .i64 h0_1]]⟩)]⟩=>bif ctsEq g0 ([.int .i64]) && ctsEq g1 ([.int .i64,.int .i64]) && nmEq g2 ([0,6]) && Nat.beq g3 0 && Nat.beq g4 0 && nmEq g5 ([0,6]) then ro (runW (R68_2 t0 t1 t5 h0_0 h0_1) (((t0.length:Int) - t7:Int).toNat+1) t7) none (K68_2 t0 t1 t5 h0_0 h0_1 k) else none
 | _=>none
def F68_0 (t0 t1:List AV) (t5:Int):Out (Int) (Unit ⊕ (Int × Int) ⊕ (Int × Int)):=(bif decide (t5<(t1.length:Int)) then (bif (decide (0≤t5) && decide (t5<(t1.length:Int))) then (bif !(v28_0 (fI (t1.getD t5.toNat .undef) 0) (-1000) 1000) then .stop (.inr (.inl (fI (t1.getD t5.toNat .undef) 0,fI (t1.getD t5.toNat .undef) 1)))
 else (bif !(v28_0 (fI (t1.getD t5.toNat .undef) 1) 0 (t0.length:Int)) then .stop (.inr (.inl (fI (t1.getD t5.toNat .undef) 0,fI (t1.getD t5.toNat .undef) 1)))
 else (bif decide (t5 > 0) then (bif (decide (0≤IntKind.i64.wrap (t5 - 1)) && decide (IntKind.i64.wrap (t5 - 1)<(t1.length:Int))) then (bif decide (fI (t1.getD t5.toNat .undef) 0≤fI (t1.getD (IntKind.i64.wrap (t5 - 1)).toNat .undef) 0) then .stop (.inr (.inl (fI (t1.getD t5.toNat .undef) 0,fI (t1.getD t5.toNat .undef) 1)))
 else (bif (decide (0≤IntKind.i64.wrap (t5 - 1)) && decide (IntKind.i64.wrap (t5 - 1)<(t1.length:Int))) then (bif decide (fI (t1.getD t5.toNat .undef) 1<fI (t1.getD (IntKind.i64.wrap (t5 - 1)).toNat .undef) 1) then .stop (.inr (.inl (fI (t1.getD t5.toNat .undef) 0,fI (t1.getD t5.toNat .undef) 1)))
 else (ro (runW (R68_2 t0 t1 t5 (fI (t1.getD t5.toNat .undef) 0) (fI (t1.getD t5.toNat .undef) 1)) (((t0.length:Int) - 0:Int).toNat+1) 0) .fail (sumE (fun _ => .next (IntKind.i64.wrap (t5+1))) (fun _ => .stop (.inr (.inr (fI (t1.getD t5.toNat .undef) 0,fI (t1.getD t5.toNat .undef) 1)))))))
 else .fail))
 else .fail)
 else (ro (runW (R68_2 t0 t1 t5 (fI (t1.getD t5.toNat .undef) 0) (fI (t1.getD t5.toNat .undef) 1)) (((t0.length:Int) - 0:Int).toNat+1) 0) .fail (sumE (fun _ => .next (IntKind.i64.wrap (t5+1))) (fun _ => .stop (.inr (.inr (fI (t1.getD t5.toNat .undef) 0,fI (t1.getD t5.toNat .undef) 1)))))))))
 else .fail)
 else .stop (.inl ()))
def R68_0 (t0 t1:List AV):(Int)→Out (Int) (Unit ⊕ (Int × Int) ⊕ (Int × Int)):=fun s:Int=>F68_0 t0 t1 s
def E68_0 (t0 t1:List AV):(Int)→St:=fun s:Int=>⟨[(0,AV.sl [.int .i64] t0),(1,AV.sl [.int .i64,.int .i64] t1),(5,Ai s)],[]⟩
def K68_0 (k:Kont):(Unit ⊕ (Int × Int) ⊕ (Int × Int))→Option AV:=sumE (fun _:Unit=>k (.exit 0) ⟨[],[]⟩) (sumE (fun p:Int × Int=>k .ret ⟨[(4,AV.bool false)],[([1,6],⟨true,[],[AV.agg [Ai p.1,Ai p.2]]⟩)]⟩) (fun p:Int × Int=>k .ret ⟨[(4,AV.bool false)],[([0,6],⟨true,[],[AV.agg [Ai p.1,Ai p.2]]⟩)]⟩))
def l68_0:LModel:=fun _ _ st k=>match st with
 | ⟨[(0,.sl g0 t0),(1,.sl g1 t1),(5,.int .i64 t5)],[]⟩=>bif ctsEq g0 ([.int .i64]) && ctsEq g1 ([.int .i64,.int .i64]) then ro (runW (R68_0 t0 t1) (((t1.length:Int) - t5:Int).toNat+1) t5) none (K68_0 k) else none
 | _=>none
noncomputable def c68:Cfg:=cfg Tryz.prog [(68,0,[0,1,5]),(68,2,[0,1,5,6,7]),(68,999,[4]),(68,1000,[]),(68,1001,[0,1,5]),(68,1002,[0,1,5]),(68,1003,[0,1,5,6,7])] [(28,m28)] [] [] [(68,0,l68_0),(68,2,l68_2)]
theorem s68_2 (ce:CallE) (t0 t1:List AV) (t5 t7 h0_0 h0_1:Int) (next:St→Option AV) (k:Kont):stepA (codeA c68 ce [] 68 2 (sub [1,0,1,0,0,1,0,0,1,1,1,0,0] (body Tryz.f68))) (normA [] [0,1,5,6,7]) next ⟨[(0,AV.sl [.int .i64] t0),(1,AV.sl [.int .i64,.int .i64] t1),(5,Ai t5),(6,AV.ptr [0,6] 0 0),(7,Ai t7)],[([0,6],⟨true,[],[AV.agg [Ai h0_0,Ai h0_1]]⟩)]⟩ k=(bif decide (t7<(t0.length:Int)) then (bif (decide (0≤t7) && decide (t7<(t0.length:Int))) then (bif !(decide (fI (t0.getD t7.toNat .undef) 0<h0_0) == decide (t7<h0_1)) then k .ret ⟨[(4,AV.bool false)],[([0,6],⟨true,[],[AV.agg [Ai h0_0,Ai h0_1]]⟩)]⟩
 else next ⟨[(0,AV.sl [.int .i64] t0),(1,AV.sl [.int .i64,.int .i64] t1),(5,Ai t5),(6,AV.ptr [0,6] 0 0),(7,Ai (IntKind.i64.wrap (t7+1)))],[([0,6],⟨true,[],[AV.agg [Ai h0_0,Ai h0_1]]⟩)]⟩)
 else none)
 else k (.exit 2) ⟨[(0,AV.sl [.int .i64] t0),(1,AV.sl [.int .i64,.int .i64] t1),(5,Ai t5)],[([0,6],⟨true,[],[AV.agg [Ai h0_0,Ai h0_1]]⟩)]⟩):=by kernel_rfl
theorem st68_2 (t0 t1:List AV) (t5 h0_0 h0_1:Int) (ce:CallE) (k:Kont) (s:Int) (next:St→Option AV):stepA (codeA c68 ce [] 68 2 (sub [1,0,1,0,0,1,0,0,1,1,1,0,0] (body Tryz.f68))) (normA [] [0,1,5,6,7]) next ((E68_2 t0 t1 t5 h0_0 h0_1) s) k=(R68_2 t0 t1 t5 h0_0 h0_1 s).el none (fun s=>next ((E68_2 t0 t1 t5 h0_0 h0_1) s)) (K68_2 t0 t1 t5 h0_0 h0_1 k):=(s68_2 ce t0 t1 t5 s h0_0 h0_1 next k).trans (by unfold R68_2;unfold F68_2;simp only [el_cond,el_ro,el_sum,el_fail,el_next,el_stop] <;> rfl)
theorem ok68_2 {ce:CallE}:LoopOK c68 ce [] 68 2 (sub [1,0,1,0,0,1,0,0,1,1,1,0,0] (body Tryz.f68)):=by
 intro m hm st k r h
 obtain rfl:l68_2=m:=Option.some.inj hm
 unfold l68_2 at h
 split at h
 ·rename_i g0 t0 g1 t1 t5 g2 g3 g4 t7 g5 h0_0 h0_1
  obtain ⟨hg,h⟩:=bif_some h
  simp only [Bool.and_eq_true] at hg
  obtain ⟨⟨⟨⟨⟨q0,q1⟩,q2⟩,q3⟩,q4⟩,q5⟩:=hg
  obtain rfl:=ctsEq_eq _ _ q0
  obtain rfl:=ctsEq_eq _ _ q1
  obtain rfl:=(nmEq_iff _ _).1 q2
  obtain rfl:=Nat.eq_of_beq_eq_true q3
  obtain rfl:=Nat.eq_of_beq_eq_true q4
  obtain rfl:=(nmEq_iff _ _).1 q5
  refine ⟨(((t0.length:Int) - t7:Int).toNat+1),?_⟩
  rw [← h]
  exact loop_run (E68_2 t0 t1 t5 h0_0 h0_1) (K68_2 t0 t1 t5 h0_0 h0_1 k) (st68_2 t0 t1 t5 h0_0 h0_1 ce k) _ t7
 ·cases h
theorem s68_0 (ce:CallE) (t0 t1:List AV) (t5:Int) (next:St→Option AV) (k:Kont):stepA (codeA c68 ce [] 68 0 (sub [1,0,1,0,0] (body Tryz.f68))) (normA [] [0,1,5]) next ⟨[(0,AV.sl [.int .i64] t0),(1,AV.sl [.int .i64,.int .i64] t1),(5,Ai t5)],[]⟩ k=(bif decide (t5<(t1.length:Int)) then (bif (decide (0≤t5) && decide (t5<(t1.length:Int))) then (bif !(v28_0 (fI (t1.getD t5.toNat .undef) 0) (-1000) 1000) then k .ret ⟨[(4,AV.bool false)],[([1,6],⟨true,[],[AV.agg [Ai (fI (t1.getD t5.toNat .undef) 0),Ai (fI (t1.getD t5.toNat .undef) 1)]]⟩)]⟩
 else (bif !(v28_0 (fI (t1.getD t5.toNat .undef) 1) 0 (t0.length:Int)) then k .ret ⟨[(4,AV.bool false)],[([1,6],⟨true,[],[AV.agg [Ai (fI (t1.getD t5.toNat .undef) 0),Ai (fI (t1.getD t5.toNat .undef) 1)]]⟩)]⟩
 else (bif decide (t5 > 0) then (bif (decide (0≤IntKind.i64.wrap (t5 - 1)) && decide (IntKind.i64.wrap (t5 - 1)<(t1.length:Int))) then (bif decide (fI (t1.getD t5.toNat .undef) 0≤fI (t1.getD (IntKind.i64.wrap (t5 - 1)).toNat .undef) 0) then k .ret ⟨[(4,AV.bool false)],[([1,6],⟨true,[],[AV.agg [Ai (fI (t1.getD t5.toNat .undef) 0),Ai (fI (t1.getD t5.toNat .undef) 1)]]⟩)]⟩
 else (bif (decide (0≤IntKind.i64.wrap (t5 - 1)) && decide (IntKind.i64.wrap (t5 - 1)<(t1.length:Int))) then (bif decide (fI (t1.getD t5.toNat .undef) 1<fI (t1.getD (IntKind.i64.wrap (t5 - 1)).toNat .undef) 1) then k .ret ⟨[(4,AV.bool false)],[([1,6],⟨true,[],[AV.agg [Ai (fI (t1.getD t5.toNat .undef) 0),Ai (fI (t1.getD t5.toNat .undef) 1)]]⟩)]⟩
 else (ro (runW (R68_2 t0 t1 t5 (fI (t1.getD t5.toNat .undef) 0) (fI (t1.getD t5.toNat .undef) 1)) (((t0.length:Int) - 0:Int).toNat+1) 0) none (sumE (fun _=>next ⟨[(0,AV.sl [.int .i64] t0),(1,AV.sl [.int .i64,.int .i64] t1),(5,Ai (IntKind.i64.wrap (t5+1)))],[]⟩) (fun _=>k .ret ⟨[(4,AV.bool false)],[([0,6],⟨true,[],[AV.agg [Ai (fI (t1.getD t5.toNat .undef) 0),Ai (fI (t1.getD t5.toNat .undef) 1)]]⟩)]⟩))))
 else none))
 else none)
 else (ro (runW (R68_2 t0 t1 t5 (fI (t1.getD t5.toNat .undef) 0) (fI (t1.getD t5.toNat .undef) 1)) (((t0.length:Int) - 0:Int).toNat+1) 0) none (sumE (fun _=>next ⟨[(0,AV.sl [.int .i64] t0),(1,AV.sl [.int .i64,.int .i64] t1),(5,Ai (IntKind.i64.wrap (t5+1)))],[]⟩) (fun _=>k .ret ⟨[(4,AV.bool false)],[([0,6],⟨true,[],[AV.agg [Ai (fI (t1.getD t5.toNat .undef) 0),Ai (fI (t1.getD t5.toNat .undef) 1)]]⟩)]⟩))))))
 else none)
 else k (.exit 0) ⟨[],[]⟩):=by kernel_rfl
theorem st68_0 (t0 t1:List AV) (ce:CallE) (k:Kont) (s:Int) (next:St→Option AV):stepA (codeA c68 ce [] 68 0 (sub [1,0,1,0,0] (body Tryz.f68))) (normA [] [0,1,5]) next ((E68_0 t0 t1) s) k=(R68_0 t0 t1 s).el none (fun s=>next ((E68_0 t0 t1) s)) (K68_0 k):=(s68_0 ce t0 t1 s next k).trans (by unfold R68_0;unfold F68_0;simp only [el_cond,el_ro,el_sum,el_fail,el_next,el_stop] <;> rfl)
theorem ok68_0 {ce:CallE}:LoopOK c68 ce [] 68 0 (sub [1,0,1,0,0] (body Tryz.f68)):=by
 intro m hm st k r h
 obtain rfl:l68_0=m:=Option.some.inj hm
 unfold l68_0 at h
 split at h
 ·rename_i g0 t0 g1 t1 t5
  obtain ⟨hg,h⟩:=bif_some h
  simp only [Bool.and_eq_true] at hg
  obtain ⟨q0,q1⟩:=hg
  obtain rfl:=ctsEq_eq _ _ q0
  obtain rfl:=ctsEq_eq _ _ q1
  refine ⟨(((t1.length:Int) - t5:Int).toNat+1),?_⟩
  rw [← h]
  exact loop_run (E68_0 t0 t1) (K68_0 k) (st68_0 t0 t1 ce k) _ t5
 ·cases h
def q68 (a0 a1:List AV):Bool:=(ro (runW (R68_0 a0 a1) (((a1.length:Int) - 0:Int).toNat+1) 0) false (sumE (fun _=>true) (sumE (fun p17=>true) (fun p18=>true))))
def v68_0 (a0 a1:List AV):Bool:=(ro (runW (R68_0 a0 a1) (((a1.length:Int) - 0:Int).toNat+1) 0) false (sumE (fun _=>true) (sumE (fun p17=>false) (fun p18=>false))))
theorem e68 (a0 a1:List AV):funA c68 0 68 [AV.sl [.int .i64] a0,AV.sl [.int .i64,.int .i64] a1]=(ro (runW (R68_0 a0 a1) (((a1.length:Int) - 0:Int).toNat+1) 0) none (sumE (fun _=>some (AV.bool true)) (sumE (fun p17=>some (AV.bool false)) (fun p18=>some (AV.bool false))))):=by kernel_rfl
def m68:TModel
 | [.sl g0 a0,.sl g1 a1]=>bif ctsEq g0 ([.int .i64]) && ctsEq g1 ([.int .i64,.int .i64]) then some (q68 a0 a1,AV.bool (v68_0 a0 a1)) else none
 | _=>none
theorem k68:Known Tryz.prog 68:=⟨Tryz.f68,Tryz.func68,by kernel_rfl,by kernel_rfl⟩
theorem meets68:Meets Tryz.prog 68 m68:=by
 refine meet (f:=Tryz.f68) (l:=[(0,sub [1,0,1,0,0] (body Tryz.f68)),(2,sub [1,0,1,0,0,1,0,0,1,1,1,0,0] (body Tryz.f68))]) (hs:=[(68,0,[0,1,5]),(68,2,[0,1,5,6,7]),(68,999,[4]),(68,1000,[]),(68,1001,[0,1,5]),(68,1002,[0,1,5]),(68,1003,[0,1,5,6,7])]) (ts:=[(28,m28)]) (ws:=[]) (is:=[]) (ls:=[(68,0,l68_0),(68,2,l68_2)]) (lvl:=0) mixed k68 Tryz.func68 (by kernel_rfl) (loops_cons ok68_0 (loops_cons ok68_2 noLoop)) (allT_cons meets28 allT_nil) allM_nil noI fun w xs us r hl hv h=>?_
 unfold m68 at h
 split at h
 ·rename_i g0 a0 g1 a1
  obtain ⟨hg,h⟩:=bif_pair h
  simp only [Bool.and_eq_true] at hg
  obtain ⟨q0,q1⟩:=hg
  obtain rfl:=ctsEq_eq _ _ q0
  obtain rfl:=ctsEq_eq _ _ q1
  obtain ⟨h1,rfl⟩:=pair_inj h
  exact (e68 a0 a1).trans ((brO (fun o:Option (Unit ⊕ (Int × Int) ⊕ (Int × Int))=>some (AV.bool (ro o false (sumE (fun _=>true) (sumE (fun p17=>false) (fun p18=>false)))))) (brS (fun o:Unit ⊕ (Int × Int) ⊕ (Int × Int)=>some (AV.bool ((sumE (fun _=>true) (sumE (fun p17=>false) (fun p18=>false))) o))) (fun _=>(fun _=>rfl)) (brS (fun o:(Int × Int) ⊕ (Int × Int)=>some (AV.bool ((sumE (fun p17=>false) (fun p18=>false)) o))) (fun p17=>(fun _=>rfl)) (fun p18=>(fun _=>rfl))))) h1)
 ·cases h
def F53_0 (h0_0 h0_1 h0_2:List AV) (t3:Int):Out (Int) (Unit ⊕ Unit):=(bif decide (t3<(h0_1.length:Int)) then (bif (decide (0≤t3) && decide (t3<(h0_1.length:Int))) then (bif !(v28_0 (fI (h0_1.getD t3.toNat .undef) 0) 0 999) then .stop (.inr ())
 else (bif (decide (0≤0) && decide (0≤t3) && decide (t3≤(h0_1.length:Int))) then (bif (decide (0≤t3) && decide (t3<(h0_1.length:Int))) then (bif q67 ((h0_1.take (Int.toNat t3)).drop (Int.toNat 0)) (fI (h0_1.getD t3.toNat .undef) 0) then (bif (v67_0 ((h0_1.take (Int.toNat t3)).drop (Int.toNat 0)) (fI (h0_1.getD t3.toNat .undef) 0)) then .stop (.inr ())
 else .next (IntKind.i64.wrap (t3+1)))
 else .fail)
 else .fail)
 else .fail))
 else .fail)
 else .stop (.inl ()))
def R53_0 (h0_0 h0_1 h0_2:List AV):(Int)→Out (Int) (Unit ⊕ Unit):=fun s:Int=>F53_0 h0_0 h0_1 h0_2 s
def E53_0 (h0_0 h0_1 h0_2:List AV):(Int)→St:=fun s:Int=>⟨[(1,AV.ptr [0,1] 0 0),(3,Ai s)],[([0,1],⟨true,[],[AV.agg [AV.sl [.int .i64] h0_0,AV.sl [.int .i64] h0_1,AV.sl [.int .i64,.int .i64] h0_2]]⟩)]⟩
def K53_0 (h0_0 h0_1 h0_2:List AV) (k:Kont):(Unit ⊕ Unit)→Option AV:=sumE (fun _:Unit=>k (.exit 0) ⟨[(1,AV.ptr [0,1] 0 0)],[([0,1],⟨true,[],[AV.agg [AV.sl [.int .i64] h0_0,AV.sl [.int .i64] h0_1,AV.sl [.int .i64,.int .i64] h0_2]]⟩)]⟩) (fun _:Unit=>k .ret ⟨[(2,AV.bool false)],[([0,1],⟨true,[],[AV.agg [AV.sl [.int .i64] h0_0,AV.sl [.int .i64] h0_1,AV.sl [.int .i64,.int .i64] h0_2]]⟩)]⟩)
def l53_0:LModel:=fun _ _ st k=>match st with
 | ⟨[(1,.ptr g0 g1 g2),(3,.int .i64 t3)],[(g3,⟨true,[],[.agg [.sl g4 h0_0,.sl g5 h0_1,.sl g6 h0_2]]⟩)]⟩=>bif nmEq g0 ([0,1]) && Nat.beq g1 0 && Nat.beq g2 0 && nmEq g3 ([0,1]) && ctsEq g4 ([.int .i64]) && ctsEq g5 ([.int .i64]) && ctsEq g6 ([.int .i64,.int .i64]) then ro (runW (R53_0 h0_0 h0_1 h0_2) (((h0_1.length:Int) - t3:Int).toNat+1) t3) none (K53_0 h0_0 h0_1 h0_2 k) else none
 | _=>none
noncomputable def c53:Cfg:=cfg Tryz.prog [(53,0,[1,3]),(53,999,[2]),(53,1000,[1]),(53,1001,[1,3])] [(28,m28),(36,m36),(67,m67),(68,m68)] [] [] [(53,0,l53_0)]
theorem s53_0 (ce:CallE) (t3:Int) (h0_0 h0_1 h0_2:List AV) (next:St→Option AV) (k:Kont):stepA (codeA c53 ce [] 53 0 (sub [1,1,0,1,0,0] (body Tryz.f53))) (normA [] [1,3]) next ⟨[(1,AV.ptr [0,1] 0 0),(3,Ai t3)],[([0,1],⟨true,[],[AV.agg [AV.sl [.int .i64] h0_0,AV.sl [.int .i64] h0_1,AV.sl [.int .i64,.int .i64] h0_2]]⟩)]⟩ k=(bif decide (t3<(h0_1.length:Int)) then (bif (decide (0≤t3) && decide (t3<(h0_1.length:Int))) then (bif !(v28_0 (fI (h0_1.getD t3.toNat .undef) 0) 0 999) then k .ret ⟨[(2,AV.bool false)],[([0,1],⟨true,[],[AV.agg [AV.sl [.int .i64] h0_0,AV.sl [.int .i64] h0_1,AV.sl [.int .i64,.int .i64] h0_2]]⟩)]⟩
 else (bif (decide (0≤0) && decide (0≤t3) && decide (t3≤(h0_1.length:Int))) then (bif (decide (0≤t3) && decide (t3<(h0_1.length:Int))) then (bif q67 ((h0_1.take (Int.toNat t3)).drop (Int.toNat 0)) (fI (h0_1.getD t3.toNat .undef) 0) then (bif (v67_0 ((h0_1.take (Int.toNat t3)).drop (Int.toNat 0)) (fI (h0_1.getD t3.toNat .undef) 0)) then k .ret ⟨[(2,AV.bool false)],[([0,1],⟨true,[],[AV.agg [AV.sl [.int .i64] h0_0,AV.sl [.int .i64] h0_1,AV.sl [.int .i64,.int .i64] h0_2]]⟩)]⟩
 else next ⟨[(1,AV.ptr [0,1] 0 0),(3,Ai (IntKind.i64.wrap (t3+1)))],[([0,1],⟨true,[],[AV.agg [AV.sl [.int .i64] h0_0,AV.sl [.int .i64] h0_1,AV.sl [.int .i64,.int .i64] h0_2]]⟩)]⟩)
 else none)
 else none)
 else none))
 else none)
 else k (.exit 0) ⟨[(1,AV.ptr [0,1] 0 0)],[([0,1],⟨true,[],[AV.agg [AV.sl [.int .i64] h0_0,AV.sl [.int .i64] h0_1,AV.sl [.int .i64,.int .i64] h0_2]]⟩)]⟩):=by kernel_rfl
theorem st53_0 (h0_0 h0_1 h0_2:List AV) (ce:CallE) (k:Kont) (s:Int) (next:St→Option AV):stepA (codeA c53 ce [] 53 0 (sub [1,1,0,1,0,0] (body Tryz.f53))) (normA [] [1,3]) next ((E53_0 h0_0 h0_1 h0_2) s) k=(R53_0 h0_0 h0_1 h0_2 s).el none (fun s=>next ((E53_0 h0_0 h0_1 h0_2) s)) (K53_0 h0_0 h0_1 h0_2 k):=(s53_0 ce s h0_0 h0_1 h0_2 next k).trans (by unfold R53_0;unfold F53_0;simp only [el_cond,el_ro,el_sum,el_fail,el_next,el_stop] <;> rfl)
theorem ok53_0 {ce:CallE}:LoopOK c53 ce [] 53 0 (sub [1,1,0,1,0,0] (body Tryz.f53)):=by
 intro m hm st k r h
 obtain rfl:l53_0=m:=Option.some.inj hm
 unfold l53_0 at h
 split at h
 ·rename_i g0 g1 g2 t3 g3 g4 h0_0 g5 h0_1 g6 h0_2
  obtain ⟨hg,h⟩:=bif_some h
  simp only [Bool.and_eq_true] at hg
  obtain ⟨⟨⟨⟨⟨⟨q0,q1⟩,q2⟩,q3⟩,q4⟩,q5⟩,q6⟩:=hg
  obtain rfl:=(nmEq_iff _ _).1 q0
  obtain rfl:=Nat.eq_of_beq_eq_true q1
  obtain rfl:=Nat.eq_of_beq_eq_true q2
  obtain rfl:=(nmEq_iff _ _).1 q3
  obtain rfl:=ctsEq_eq _ _ q4
  obtain rfl:=ctsEq_eq _ _ q5
  obtain rfl:=ctsEq_eq _ _ q6
  refine ⟨(((h0_1.length:Int) - t3:Int).toNat+1),?_⟩
  rw [← h]
  exact loop_run (E53_0 h0_0 h0_1 h0_2) (K53_0 h0_0 h0_1 h0_2 k) (st53_0 h0_0 h0_1 h0_2 ce k) _ t3
 ·cases h
def q53 (xa xb xc:List AV):Bool:=(q36 xa && (bif !(v36_0 xa) then true else (bif !decide ((xb.length:Int)=(xa.length:Int)) then true else (ro (runW (R53_0 xa xb xc) (((xb.length:Int) - 0:Int).toNat+1) 0) false (sumE (fun _=>q68 xa xc) (fun _=>true))))))
def v53_0 (xa xb xc:List AV):Bool:=(bif !(v36_0 xa) then false else (bif !decide ((xb.length:Int)=(xa.length:Int)) then false else (ro (runW (R53_0 xa xb xc) (((xb.length:Int) - 0:Int).toNat+1) 0) false (sumE (fun _=>(v68_0 xa xc)) (fun _=>false)))))
theorem e53 (xa xb xc:List AV):funA c53 0 53 [AV.agg [AV.sl [.int .i64] xa,AV.sl [.int .i64] xb,AV.sl [.int .i64,.int .i64] xc]]=(bif q36 xa then (bif !(v36_0 xa) then some (AV.bool false)
 else (bif !decide ((xb.length:Int)=(xa.length:Int)) then some (AV.bool false)
 else (ro (runW (R53_0 xa xb xc) (((xb.length:Int) - 0:Int).toNat+1) 0) none (sumE (fun _=>(bif q68 xa xc then some (AV.bool (v68_0 xa xc))
 else none)) (fun _=>some (AV.bool false))))))
 else none):=by kernel_rfl
def m53:TModel
 | [.agg [.sl g0 xa,.sl g1 xb,.sl g2 xc]]=>bif ctsEq g0 ([.int .i64]) && ctsEq g1 ([.int .i64]) && ctsEq g2 ([.int .i64,.int .i64]) then some (q53 xa xb xc,AV.bool (v53_0 xa xb xc)) else none
 | _=>none
theorem k53:Known Tryz.prog 53:=⟨Tryz.f53,Tryz.func53,by kernel_rfl,by kernel_rfl⟩
theorem meets53:Meets Tryz.prog 53 m53:=by
 refine meet (f:=Tryz.f53) (l:=[(0,sub [1,1,0,1,0,0] (body Tryz.f53))]) (hs:=[(53,0,[1,3]),(53,999,[2]),(53,1000,[1]),(53,1001,[1,3])]) (ts:=[(28,m28),(36,m36),(67,m67),(68,m68)]) (ws:=[]) (is:=[]) (ls:=[(53,0,l53_0)]) (lvl:=0) mixed k53 Tryz.func53 (by kernel_rfl) (loops_cons ok53_0 noLoop) (allT_cons meets28 (allT_cons meets36 (allT_cons meets67 (allT_cons meets68 allT_nil)))) allM_nil noI fun w xs us r hl hv h=>?_
 unfold m53 at h
 split at h
 ·rename_i g0 xa g1 xb g2 xc
  obtain ⟨hg,h⟩:=bif_pair h
  simp only [Bool.and_eq_true] at hg
  obtain ⟨⟨q0,q1⟩,q2⟩:=hg
  obtain rfl:=ctsEq_eq _ _ q0
  obtain rfl:=ctsEq_eq _ _ q1
  obtain rfl:=ctsEq_eq _ _ q2
  obtain ⟨h1,rfl⟩:=pair_inj h
  exact (e53 xa xb xc).trans ((brL (br (fun b=>some (AV.bool (bif b then false else (bif !decide ((xb.length:Int)=(xa.length:Int)) then false else (ro (runW (R53_0 xa xb xc) (((xb.length:Int) - 0:Int).toNat+1) 0) false (sumE (fun _=>(v68_0 xa xc)) (fun _=>false))))))) (fun _=>rfl) (br (fun b=>some (AV.bool (bif b then false else (ro (runW (R53_0 xa xb xc) (((xb.length:Int) - 0:Int).toNat+1) 0) false (sumE (fun _=>(v68_0 xa xc)) (fun _=>false)))))) (fun _=>rfl) (brO (fun o:Option (Unit ⊕ Unit)=>some (AV.bool (ro o false (sumE (fun _=>(v68_0 xa xc)) (fun _=>false))))) (brS (fun o:Unit ⊕ Unit=>some (AV.bool ((sumE (fun _=>(v68_0 xa xc)) (fun _=>false)) o))) (fun _=>(brL1 (fun _=>rfl))) (fun _=>(fun _=>rfl))))))) h1)
 ·cases h
noncomputable def c56:Cfg:=cfg Tryz.prog [(56,999,[2])] [] [] [] []
def q56 (xa xb xc:List AV):Bool:=((decide ((([]:List AV).length+xa.length)*8≤140737488355328) && decide ((([]:List AV).length+xa.length)≤140737488355328)) && ((decide ((([]:List AV).length+xb.length)*8≤140737488355328) && decide ((([]:List AV).length+xb.length)≤140737488355328)) && (decide ((([]:List AV).length+xc.length)*16≤140737488355328) && decide ((([]:List AV).length+xc.length)≤140737488355328))))
def v56_0 (xa xb xc:List AV):List AV:=([]:List AV)++xa
def v56_1 (xa xb xc:List AV):List AV:=([]:List AV)++xb
def v56_2 (xa xb xc:List AV):List AV:=([]:List AV)++xc
theorem e56 (xa xb xc:List AV):funA c56 0 56 [AV.agg [AV.sl [.int .i64] xa,AV.sl [.int .i64] xb,AV.sl [.int .i64,.int .i64] xc]]=(bif (decide ((([]:List AV).length+xa.length)*8≤140737488355328) && decide ((([]:List AV).length+xa.length)≤140737488355328)) then (bif (decide ((([]:List AV).length+xb.length)*8≤140737488355328) && decide ((([]:List AV).length+xb.length)≤140737488355328)) then (bif (decide ((([]:List AV).length+xc.length)*16≤140737488355328) && decide ((([]:List AV).length+xc.length)≤140737488355328)) then some (AV.agg [AV.fl [.int .i64] (([]:List AV)++xa),AV.fl [.int .i64] (([]:List AV)++xb),AV.fl [.int .i64,.int .i64] (([]:List AV)++xc)])
 else none)
 else none)
 else none):=by kernel_rfl
def m56:TModel
 | [.agg [.sl g0 xa,.sl g1 xb,.sl g2 xc]]=>bif ctsEq g0 ([.int .i64]) && ctsEq g1 ([.int .i64]) && ctsEq g2 ([.int .i64,.int .i64]) then some (q56 xa xb xc,AV.agg [AV.fl [.int .i64] (v56_0 xa xb xc),AV.fl [.int .i64] (v56_1 xa xb xc),AV.fl [.int .i64,.int .i64] (v56_2 xa xb xc)]) else none
 | _=>none
theorem k56:Known Tryz.prog 56:=⟨Tryz.f56,Tryz.func56,by kernel_rfl,by kernel_rfl⟩
theorem meets56:Meets Tryz.prog 56 m56:=by
 refine meet (f:=Tryz.f56) (l:=[]) (hs:=[(56,999,[2])]) (ts:=[]) (ws:=[]) (is:=[]) (ls:=[]) (lvl:=0) mixed k56 Tryz.func56 (by kernel_rfl) noLoop allT_nil allM_nil noI fun w xs us r hl hv h=>?_
 unfold m56 at h
 split at h
 ·rename_i g0 xa g1 xb g2 xc
  obtain ⟨hg,h⟩:=bif_pair h
  simp only [Bool.and_eq_true] at hg
  obtain ⟨⟨q0,q1⟩,q2⟩:=hg
  obtain rfl:=ctsEq_eq _ _ q0
  obtain rfl:=ctsEq_eq _ _ q1
  obtain rfl:=ctsEq_eq _ _ q2
  obtain ⟨h1,rfl⟩:=pair_inj h
  exact (e56 xa xb xc).trans ((brL (brL (brL1 (fun _=>rfl)))) h1)
 ·cases h
def F94_2 (t1:List AV) (t2 t8 t9 t11:Int):Out ((Int × Int)) (Int):=(bif decide (t11 ≥ 0) then (bif (decide (0≤t11) && decide (t11<(t1.length:Int))) then (bif decide (fI (t1.getD t11.toNat .undef) 0 ≥ t2) then (bif (decide (0≤t11) && decide (t11<(t1.length:Int))) then .next (fI (t1.getD t11.toNat .undef) 1,IntKind.i64.wrap (t11 - 1))
 else .fail)
 else .next (t9,IntKind.i64.wrap (t11 - 1)))
 else .fail)
 else .stop t9)
def R94_2 (t1:List AV) (t2 t8:Int):((Int × Int))→Out ((Int × Int)) (Int):=fun s:Int × Int=>F94_2 t1 t2 t8 s.1 s.2
def E94_2 (t1:List AV) (t2 t8:Int):((Int × Int))→St:=fun s:Int × Int=>⟨[(1,AV.sl [.int .i64,.int .i64] t1),(2,Ai t2),(8,Ai t8),(9,Ai s.1),(11,Ai s.2)],[]⟩
def K94_2 (t8:Int) (k:Kont):(Int)→Option AV:=fun p:Int=>k (.exit 2) ⟨[(8,Ai t8),(9,Ai p)],[]⟩
def l94_2:LModel:=fun _ _ st k=>match st with
 | ⟨[(1,.sl g0 t1),(2,.int .i64 t2),(8,.int .i64 t8),(9,.int .i64 t9),(11,.int .i64 t11)],[]⟩=>bif ctsEq g0 ([.int .i64,.int .i64]) then ro (runW (R94_2 t1 t2 t8) ((t11 - 0+1:Int).toNat+1) (t9,t11)) none (K94_2 t8 k) else none
 | _=>none
def F94_0 (t1:List AV) (t2 t9 t8 t10:Int):Out ((Int × Int)) (Int):=(bif decide (t10<(t1.length:Int)) then (bif (decide (0≤t10) && decide (t10<(t1.length:Int))) then (bif decide (fI (t1.getD t10.toNat .undef) 0≤t2) then (bif (decide (0≤t10) && decide (t10<(t1.length:Int))) then .next (fI (t1.getD t10.toNat .undef) 1,IntKind.i64.wrap (t10+1))
 else .fail)
 else .next (t8,IntKind.i64.wrap (t10+1)))
 else .fail)
 else .stop t8)
def R94_0 (t1:List AV) (t2 t9:Int):((Int × Int))→Out ((Int × Int)) (Int):=fun s:Int × Int=>F94_0 t1 t2 t9 s.1 s.2
def E94_0 (t1:List AV) (t2 t9:Int):((Int × Int))→St:=fun s:Int × Int=>⟨[(1,AV.sl [.int .i64,.int .i64] t1),(2,Ai t2),(8,Ai s.1),(9,Ai t9),(10,Ai s.2)],[]⟩
def K94_0 (t1:List AV) (t2 t9:Int) (k:Kont):(Int)→Option AV:=fun p:Int=>k (.exit 0) ⟨[(1,AV.sl [.int .i64,.int .i64] t1),(2,Ai t2),(8,Ai p),(9,Ai t9)],[]⟩
def l94_0:LModel:=fun _ _ st k=>match st with
 | ⟨[(1,.sl g0 t1),(2,.int .i64 t2),(8,.int .i64 t8),(9,.int .i64 t9),(10,.int .i64 t10)],[]⟩=>bif ctsEq g0 ([.int .i64,.int .i64]) then ro (runW (R94_0 t1 t2 t9) (((t1.length:Int) - t10:Int).toNat+1) (t8,t10)) none (K94_0 t1 t2 t9 k) else none
 | _=>none
noncomputable def c94:Cfg:=cfg Tryz.prog [(94,0,[1,2,8,9,10]),(94,2,[1,2,8,9,11]),(94,999,[6,7]),(94,1000,[1,2,8,9]),(94,1001,[1,2,8,9,10]),(94,1002,[8,9]),(94,1003,[1,2,8,9,11])] [] [] [] [(94,0,l94_0),(94,2,l94_2)]
theorem s94_2 (ce:CallE) (t1:List AV) (t2 t8 t9 t11:Int) (next:St→Option AV) (k:Kont):stepA (codeA c94 ce [] 94 2 (sub [1,1,1,1,0,1,0,0] (body Tryz.f94))) (normA [] [1,2,8,9,11]) next ⟨[(1,AV.sl [.int .i64,.int .i64] t1),(2,Ai t2),(8,Ai t8),(9,Ai t9),(11,Ai t11)],[]⟩ k=(bif decide (t11 ≥ 0) then (bif (decide (0≤t11) && decide (t11<(t1.length:Int))) then (bif decide (fI (t1.getD t11.toNat .undef) 0 ≥ t2) then (bif (decide (0≤t11) && decide (t11<(t1.length:Int))) then next ⟨[(1,AV.sl [.int .i64,.int .i64] t1),(2,Ai t2),(8,Ai t8),(9,Ai (fI (t1.getD t11.toNat .undef) 1)),(11,Ai (IntKind.i64.wrap (t11 - 1)))],[]⟩
 else none)
 else next ⟨[(1,AV.sl [.int .i64,.int .i64] t1),(2,Ai t2),(8,Ai t8),(9,Ai t9),(11,Ai (IntKind.i64.wrap (t11 - 1)))],[]⟩)
 else none)
 else k (.exit 2) ⟨[(8,Ai t8),(9,Ai t9)],[]⟩):=by kernel_rfl
theorem st94_2 (t1:List AV) (t2 t8:Int) (ce:CallE) (k:Kont) (s:(Int × Int)) (next:St→Option AV):stepA (codeA c94 ce [] 94 2 (sub [1,1,1,1,0,1,0,0] (body Tryz.f94))) (normA [] [1,2,8,9,11]) next ((E94_2 t1 t2 t8) s) k=(R94_2 t1 t2 t8 s).el none (fun s=>next ((E94_2 t1 t2 t8) s)) (K94_2 t8 k):=(s94_2 ce t1 t2 t8 s.1 s.2 next k).trans (by unfold R94_2;unfold F94_2;simp only [el_cond,el_ro,el_sum,el_fail,el_next,el_stop] <;> rfl)
theorem ok94_2 {ce:CallE}:LoopOK c94 ce [] 94 2 (sub [1,1,1,1,0,1,0,0] (body Tryz.f94)):=by
 intro m hm st k r h
 obtain rfl:l94_2=m:=Option.some.inj hm
 unfold l94_2 at h
 split at h
 ·rename_i g0 t1 t2 t8 t9 t11
  obtain ⟨hg,h⟩:=bif_some h
  have q0:=hg
  obtain rfl:=ctsEq_eq _ _ q0
  refine ⟨((t11 - 0+1:Int).toNat+1),?_⟩
  rw [← h]
  exact loop_run (E94_2 t1 t2 t8) (K94_2 t8 k) (st94_2 t1 t2 t8 ce k) _ (t9,t11)
 ·cases h
theorem s94_0 (ce:CallE) (t1:List AV) (t2 t8 t9 t10:Int) (next:St→Option AV) (k:Kont):stepA (codeA c94 ce [] 94 0 (sub [1,1,1,0,1,0,0] (body Tryz.f94))) (normA [] [1,2,8,9,10]) next ⟨[(1,AV.sl [.int .i64,.int .i64] t1),(2,Ai t2),(8,Ai t8),(9,Ai t9),(10,Ai t10)],[]⟩ k=(bif decide (t10<(t1.length:Int)) then (bif (decide (0≤t10) && decide (t10<(t1.length:Int))) then (bif decide (fI (t1.getD t10.toNat .undef) 0≤t2) then (bif (decide (0≤t10) && decide (t10<(t1.length:Int))) then next ⟨[(1,AV.sl [.int .i64,.int .i64] t1),(2,Ai t2),(8,Ai (fI (t1.getD t10.toNat .undef) 1)),(9,Ai t9),(10,Ai (IntKind.i64.wrap (t10+1)))],[]⟩
 else none)
 else next ⟨[(1,AV.sl [.int .i64,.int .i64] t1),(2,Ai t2),(8,Ai t8),(9,Ai t9),(10,Ai (IntKind.i64.wrap (t10+1)))],[]⟩)
 else none)
 else k (.exit 0) ⟨[(1,AV.sl [.int .i64,.int .i64] t1),(2,Ai t2),(8,Ai t8),(9,Ai t9)],[]⟩):=by kernel_rfl
theorem st94_0 (t1:List AV) (t2 t9:Int) (ce:CallE) (k:Kont) (s:(Int × Int)) (next:St→Option AV):stepA (codeA c94 ce [] 94 0 (sub [1,1,1,0,1,0,0] (body Tryz.f94))) (normA [] [1,2,8,9,10]) next ((E94_0 t1 t2 t9) s) k=(R94_0 t1 t2 t9 s).el none (fun s=>next ((E94_0 t1 t2 t9) s)) (K94_0 t1 t2 t9 k):=(s94_0 ce t1 t2 s.1 t9 s.2 next k).trans (by unfold R94_0;unfold F94_0;simp only [el_cond,el_ro,el_sum,el_fail,el_next,el_stop] <;> rfl)
theorem ok94_0 {ce:CallE}:LoopOK c94 ce [] 94 0 (sub [1,1,1,0,1,0,0] (body Tryz.f94)):=by
 intro m hm st k r h
 obtain rfl:l94_0=m:=Option.some.inj hm
 unfold l94_0 at h
 split at h
 ·rename_i g0 t1 t2 t8 t9 t10
  obtain ⟨hg,h⟩:=bif_some h
  have q0:=hg
  obtain rfl:=ctsEq_eq _ _ q0
  refine ⟨(((t1.length:Int) - t10:Int).toNat+1),?_⟩
  rw [← h]
  exact loop_run (E94_0 t1 t2 t9) (K94_0 t1 t2 t9 k) (st94_0 t1 t2 t9 ce k) _ (t8,t10)
 ·cases h
def q94 (a0:Int) (a1:List AV) (a2:Int):Bool:=(ro (runW (R94_0 a1 a2 a0) (((a1.length:Int) - 0:Int).toNat+1) (0,0)) false (fun p20=>(ro (runW (R94_2 a1 a2 p20) (((IntKind.i64.wrap ((a1.length:Int) - 1)) - 0+1:Int).toNat+1) (a0,IntKind.i64.wrap ((a1.length:Int) - 1))) false (fun p21=>true))))
def v94_0 (a0:Int) (a1:List AV) (a2:Int):Int:=(ro (runW (R94_0 a1 a2 a0) (((a1.length:Int) - 0:Int).toNat+1) (0,0)) 0 (fun p20=>p20))
def v94_1 (a0:Int) (a1:List AV) (a2:Int):Int:=(ro (runW (R94_0 a1 a2 a0) (((a1.length:Int) - 0:Int).toNat+1) (0,0)) 0 (fun p20=>(ro (runW (R94_2 a1 a2 p20) (((IntKind.i64.wrap ((a1.length:Int) - 1)) - 0+1:Int).toNat+1) (a0,IntKind.i64.wrap ((a1.length:Int) - 1))) 0 (fun p21=>p21))))
theorem e94 (a0:Int) (a1:List AV) (a2:Int):funA c94 0 94 [Ai a0,AV.sl [.int .i64,.int .i64] a1,Ai a2]=(ro (runW (R94_0 a1 a2 a0) (((a1.length:Int) - 0:Int).toNat+1) (0,0)) none (fun p20=>(ro (runW (R94_2 a1 a2 p20) (((IntKind.i64.wrap ((a1.length:Int) - 1)) - 0+1:Int).toNat+1) (a0,IntKind.i64.wrap ((a1.length:Int) - 1))) none (fun p21=>some (AV.tup [Ai p20,Ai p21]))))):=by kernel_rfl
def m94:TModel
 | [.int .i64 a0,.sl g0 a1,.int .i64 a2]=>bif ctsEq g0 ([.int .i64,.int .i64]) then some (q94 a0 a1 a2,AV.tup [AV.int .i64 (v94_0 a0 a1 a2),AV.int .i64 (v94_1 a0 a1 a2)]) else none
 | _=>none
theorem k94:Known Tryz.prog 94:=⟨Tryz.f94,Tryz.func94,by kernel_rfl,by kernel_rfl⟩
theorem meets94:Meets Tryz.prog 94 m94:=by
 refine meet (f:=Tryz.f94) (l:=[(0,sub [1,1,1,0,1,0,0] (body Tryz.f94)),(2,sub [1,1,1,1,0,1,0,0] (body Tryz.f94))]) (hs:=[(94,0,[1,2,8,9,10]),(94,2,[1,2,8,9,11]),(94,999,[6,7]),(94,1000,[1,2,8,9]),(94,1001,[1,2,8,9,10]),(94,1002,[8,9]),(94,1003,[1,2,8,9,11])]) (ts:=[]) (ws:=[]) (is:=[]) (ls:=[(94,0,l94_0),(94,2,l94_2)]) (lvl:=0) mixed k94 Tryz.func94 (by kernel_rfl) (loops_cons ok94_0 (loops_cons ok94_2 noLoop)) allT_nil allM_nil noI fun w xs us r hl hv h=>?_
 unfold m94 at h
 split at h
 ·rename_i a0 g0 a1 a2
  obtain ⟨hg,h⟩:=bif_pair h
  have q0:=hg
  obtain rfl:=ctsEq_eq _ _ q0
  obtain ⟨h1,rfl⟩:=pair_inj h
  exact (e94 a0 a1 a2).trans ((brO (fun o:Option (Int)=>some (AV.tup [Ai (ro o 0 (fun p20=>p20)),Ai (ro o 0 (fun p20=>(ro (runW (R94_2 a1 a2 p20) (((IntKind.i64.wrap ((a1.length:Int) - 1)) - 0+1:Int).toNat+1) (a0,IntKind.i64.wrap ((a1.length:Int) - 1))) 0 (fun p21=>p21))))])) (fun p20=>(brO (fun o:Option (Int)=>some (AV.tup [Ai p20,Ai (ro o 0 (fun p21=>p21))])) (fun p21=>(fun _=>rfl))))) h1)
 ·cases h
noncomputable def c83:Cfg:=cfg Tryz.prog [(83,999,[4,5])] [(28,m28),(53,m53),(94,m94)] [] [] []
def q83 (xa xb xc:List AV) (a1:Int):Bool:=(q53 xa xb xc && (bif !(v53_0 xa xb xc) then true else (bif !(v28_0 a1 (-1000) 1000) then true else q94 (xa.length:Int) xc a1)))
def v83_0 (xa xb xc:List AV) (a1:Int):Int:=(bif !(v53_0 xa xb xc) then 0 else (bif !(v28_0 a1 (-1000) 1000) then 0 else (v94_0 (xa.length:Int) xc a1)))
def v83_1 (xa xb xc:List AV) (a1:Int):Int:=(bif !(v53_0 xa xb xc) then 0 else (bif !(v28_0 a1 (-1000) 1000) then 0 else (v94_1 (xa.length:Int) xc a1)))
theorem e83 (xa xb xc:List AV) (a1:Int):funA c83 0 83 [AV.agg [AV.sl [.int .i64] xa,AV.sl [.int .i64] xb,AV.sl [.int .i64,.int .i64] xc],Ai a1]=(bif q53 xa xb xc then (bif !(v53_0 xa xb xc) then some (AV.tup [Ai 0,Ai 0])
 else (bif !(v28_0 a1 (-1000) 1000) then some (AV.tup [Ai 0,Ai 0])
 else (bif q94 (xa.length:Int) xc a1 then some (AV.tup [Ai (v94_0 (xa.length:Int) xc a1),Ai (v94_1 (xa.length:Int) xc a1)])
 else none)))
 else none):=by kernel_rfl
def m83:TModel
 | [.agg [.sl g0 xa,.sl g1 xb,.sl g2 xc],.int .i64 a1]=>bif ctsEq g0 ([.int .i64]) && ctsEq g1 ([.int .i64]) && ctsEq g2 ([.int .i64,.int .i64]) then some (q83 xa xb xc a1,AV.tup [AV.int .i64 (v83_0 xa xb xc a1),AV.int .i64 (v83_1 xa xb xc a1)]) else none
 | _=>none
theorem k83:Known Tryz.prog 83:=⟨Tryz.f83,Tryz.func83,by kernel_rfl,by kernel_rfl⟩
theorem meets83:Meets Tryz.prog 83 m83:=by
 refine meet (f:=Tryz.f83) (l:=[]) (hs:=[(83,999,[4,5])]) (ts:=[(28,m28),(53,m53),(94,m94)]) (ws:=[]) (is:=[]) (ls:=[]) (lvl:=0) mixed k83 Tryz.func83 (by kernel_rfl) noLoop (allT_cons meets28 (allT_cons meets53 (allT_cons meets94 allT_nil))) allM_nil noI fun w xs us r hl hv h=>?_
 unfold m83 at h
 split at h
 ·rename_i g0 xa g1 xb g2 xc a1
  obtain ⟨hg,h⟩:=bif_pair h
  simp only [Bool.and_eq_true] at hg
  obtain ⟨⟨q0,q1⟩,q2⟩:=hg
  obtain rfl:=ctsEq_eq _ _ q0
  obtain rfl:=ctsEq_eq _ _ q1
  obtain rfl:=ctsEq_eq _ _ q2
  obtain ⟨h1,rfl⟩:=pair_inj h
  exact (e83 xa xb xc a1).trans ((brL (br (fun b=>some (AV.tup [Ai (bif b then 0 else (bif !(v28_0 a1 (-1000) 1000) then 0 else (v94_0 (xa.length:Int) xc a1))),Ai (bif b then 0 else (bif !(v28_0 a1 (-1000) 1000) then 0 else (v94_1 (xa.length:Int) xc a1)))])) (fun _=>rfl) (br (fun b=>some (AV.tup [Ai (bif b then 0 else (v94_0 (xa.length:Int) xc a1)),Ai (bif b then 0 else (v94_1 (xa.length:Int) xc a1))])) (fun _=>rfl) (brL1 (fun _=>rfl))))) h1)
 ·cases h
def F58_0 (t1:Int) (h0_0 h0_1 h0_2:List AV) (t6:Int):Out (Int) (Unit ⊕ Int):=(bif decide (t6<(h0_2.length:Int)) then (bif (decide (0≤t6) && decide (t6<(h0_2.length:Int))) then (bif decide (fI (h0_2.getD t6.toNat .undef) 0=t1) then (bif (decide (0≤t6) && decide (t6<(h0_2.length:Int))) then .stop (.inr (fI (h0_2.getD t6.toNat .undef) 1))
 else .fail)
 else .next (IntKind.i64.wrap (t6+1)))
 else .fail)
 else .stop (.inl ()))
def R58_0 (t1:Int) (h0_0 h0_1 h0_2:List AV):(Int)→Out (Int) (Unit ⊕ Int):=fun s:Int=>F58_0 t1 h0_0 h0_1 h0_2 s
def E58_0 (t1:Int) (h0_0 h0_1 h0_2:List AV):(Int)→St:=fun s:Int=>⟨[(1,Ai t1),(2,AV.ptr [0,2] 0 0),(6,Ai s)],[([0,2],⟨true,[],[AV.agg [AV.sl [.int .i64] h0_0,AV.sl [.int .i64] h0_1,AV.sl [.int .i64,.int .i64] h0_2]]⟩)]⟩
def K58_0 (h0_0 h0_1 h0_2:List AV) (k:Kont):(Unit ⊕ Int)→Option AV:=sumE (fun _:Unit=>k (.exit 0) ⟨[],[([0,2],⟨true,[],[AV.agg [AV.sl [.int .i64] h0_0,AV.sl [.int .i64] h0_1,AV.sl [.int .i64,.int .i64] h0_2]]⟩)]⟩) (fun p:Int=>k .ret ⟨[(4,Ai p),(5,AV.bool true)],[([0,2],⟨true,[],[AV.agg [AV.sl [.int .i64] h0_0,AV.sl [.int .i64] h0_1,AV.sl [.int .i64,.int .i64] h0_2]]⟩)]⟩)
def l58_0:LModel:=fun _ _ st k=>match st with
 | ⟨[(1,.int .i64 t1),(2,.ptr g0 g1 g2),(6,.int .i64 t6)],[(g3,⟨true,[],[.agg [.sl g4 h0_0,.sl g5 h0_1,.sl g6 h0_2]]⟩)]⟩=>bif nmEq g0 ([0,2]) && Nat.beq g1 0 && Nat.beq g2 0 && nmEq g3 ([0,2]) && ctsEq g4 ([.int .i64]) && ctsEq g5 ([.int .i64]) && ctsEq g6 ([.int .i64,.int .i64]) then ro (runW (R58_0 t1 h0_0 h0_1 h0_2) (((h0_2.length:Int) - t6:Int).toNat+1) t6) none (K58_0 h0_0 h0_1 h0_2 k) else none
 | _=>none
noncomputable def c58:Cfg:=cfg Tryz.prog [(58,0,[1,2,6]),(58,999,[4,5]),(58,1000,[]),(58,1001,[1,2,6])] [] [] [] [(58,0,l58_0)]
theorem s58_0 (ce:CallE) (t1 t6:Int) (h0_0 h0_1 h0_2:List AV) (next:St→Option AV) (k:Kont):stepA (codeA c58 ce [] 58 0 (sub [1,0,1,0,0] (body Tryz.f58))) (normA [] [1,2,6]) next ⟨[(1,Ai t1),(2,AV.ptr [0,2] 0 0),(6,Ai t6)],[([0,2],⟨true,[],[AV.agg [AV.sl [.int .i64] h0_0,AV.sl [.int .i64] h0_1,AV.sl [.int .i64,.int .i64] h0_2]]⟩)]⟩ k=(bif decide (t6<(h0_2.length:Int)) then (bif (decide (0≤t6) && decide (t6<(h0_2.length:Int))) then (bif decide (fI (h0_2.getD t6.toNat .undef) 0=t1) then (bif (decide (0≤t6) && decide (t6<(h0_2.length:Int))) then k .ret ⟨[(4,Ai (fI (h0_2.getD t6.toNat .undef) 1)),(5,AV.bool true)],[([0,2],⟨true,[],[AV.agg [AV.sl [.int .i64] h0_0,AV.sl [.int .i64] h0_1,AV.sl [.int .i64,.int .i64] h0_2]]⟩)]⟩
 else none)
 else next ⟨[(1,Ai t1),(2,AV.ptr [0,2] 0 0),(6,Ai (IntKind.i64.wrap (t6+1)))],[([0,2],⟨true,[],[AV.agg [AV.sl [.int .i64] h0_0,AV.sl [.int .i64] h0_1,AV.sl [.int .i64,.int .i64] h0_2]]⟩)]⟩)
 else none)
 else k (.exit 0) ⟨[],[([0,2],⟨true,[],[AV.agg [AV.sl [.int .i64] h0_0,AV.sl [.int .i64] h0_1,AV.sl [.int .i64,.int .i64] h0_2]]⟩)]⟩):=by kernel_rfl
theorem st58_0 (t1:Int) (h0_0 h0_1 h0_2:List AV) (ce:CallE) (k:Kont) (s:Int) (next:St→Option AV):stepA (codeA c58 ce [] 58 0 (sub [1,0,1,0,0] (body Tryz.f58))) (normA [] [1,2,6]) next ((E58_0 t1 h0_0 h0_1 h0_2) s) k=(R58_0 t1 h0_0 h0_1 h0_2 s).el none (fun s=>next ((E58_0 t1 h0_0 h0_1 h0_2) s)) (K58_0 h0_0 h0_1 h0_2 k):=(s58_0 ce t1 s h0_0 h0_1 h0_2 next k).trans (by unfold R58_0;unfold F58_0;simp only [el_cond,el_ro,el_sum,el_fail,el_next,el_stop] <;> rfl)
theorem ok58_0 {ce:CallE}:LoopOK c58 ce [] 58 0 (sub [1,0,1,0,0] (body Tryz.f58)):=by
 intro m hm st k r h
 obtain rfl:l58_0=m:=Option.some.inj hm
 unfold l58_0 at h
 split at h
 ·rename_i t1 g0 g1 g2 t6 g3 g4 h0_0 g5 h0_1 g6 h0_2
  obtain ⟨hg,h⟩:=bif_some h
  simp only [Bool.and_eq_true] at hg
  obtain ⟨⟨⟨⟨⟨⟨q0,q1⟩,q2⟩,q3⟩,q4⟩,q5⟩,q6⟩:=hg
  obtain rfl:=(nmEq_iff _ _).1 q0
  obtain rfl:=Nat.eq_of_beq_eq_true q1
  obtain rfl:=Nat.eq_of_beq_eq_true q2
  obtain rfl:=(nmEq_iff _ _).1 q3
  obtain rfl:=ctsEq_eq _ _ q4
  obtain rfl:=ctsEq_eq _ _ q5
  obtain rfl:=ctsEq_eq _ _ q6
  refine ⟨(((h0_2.length:Int) - t6:Int).toNat+1),?_⟩
  rw [← h]
  exact loop_run (E58_0 t1 h0_0 h0_1 h0_2) (K58_0 h0_0 h0_1 h0_2 k) (st58_0 t1 h0_0 h0_1 h0_2 ce k) _ t6
 ·cases h
def q58 (xa xb xc:List AV) (a1:Int):Bool:=(ro (runW (R58_0 a1 xa xb xc) (((xc.length:Int) - 0:Int).toNat+1) 0) false (sumE (fun _=>true) (fun p23=>true)))
def v58_0 (xa xb xc:List AV) (a1:Int):Int:=(ro (runW (R58_0 a1 xa xb xc) (((xc.length:Int) - 0:Int).toNat+1) 0) 0 (sumE (fun _=>0) (fun p23=>p23)))
def v58_1 (xa xb xc:List AV) (a1:Int):Bool:=(ro (runW (R58_0 a1 xa xb xc) (((xc.length:Int) - 0:Int).toNat+1) 0) false (sumE (fun _=>false) (fun p23=>true)))
theorem e58 (xa xb xc:List AV) (a1:Int):funA c58 0 58 [AV.agg [AV.sl [.int .i64] xa,AV.sl [.int .i64] xb,AV.sl [.int .i64,.int .i64] xc],Ai a1]=(ro (runW (R58_0 a1 xa xb xc) (((xc.length:Int) - 0:Int).toNat+1) 0) none (sumE (fun _=>some (AV.tup [Ai 0,AV.bool false])) (fun p23=>some (AV.tup [Ai p23,AV.bool true])))):=by kernel_rfl
def m58:TModel
 | [.agg [.sl g0 xa,.sl g1 xb,.sl g2 xc],.int .i64 a1]=>bif ctsEq g0 ([.int .i64]) && ctsEq g1 ([.int .i64]) && ctsEq g2 ([.int .i64,.int .i64]) then some (q58 xa xb xc a1,AV.tup [AV.int .i64 (v58_0 xa xb xc a1),AV.bool (v58_1 xa xb xc a1)]) else none
 | _=>none
theorem k58:Known Tryz.prog 58:=⟨Tryz.f58,Tryz.func58,by kernel_rfl,by kernel_rfl⟩
theorem meets58:Meets Tryz.prog 58 m58:=by
 refine meet (f:=Tryz.f58) (l:=[(0,sub [1,0,1,0,0] (body Tryz.f58))]) (hs:=[(58,0,[1,2,6]),(58,999,[4,5]),(58,1000,[]),(58,1001,[1,2,6])]) (ts:=[]) (ws:=[]) (is:=[]) (ls:=[(58,0,l58_0)]) (lvl:=0) mixed k58 Tryz.func58 (by kernel_rfl) (loops_cons ok58_0 noLoop) allT_nil allM_nil noI fun w xs us r hl hv h=>?_
 unfold m58 at h
 split at h
 ·rename_i g0 xa g1 xb g2 xc a1
  obtain ⟨hg,h⟩:=bif_pair h
  simp only [Bool.and_eq_true] at hg
  obtain ⟨⟨q0,q1⟩,q2⟩:=hg
  obtain rfl:=ctsEq_eq _ _ q0
  obtain rfl:=ctsEq_eq _ _ q1
  obtain rfl:=ctsEq_eq _ _ q2
  obtain ⟨h1,rfl⟩:=pair_inj h
  exact (e58 xa xb xc a1).trans ((brO (fun o:Option (Unit ⊕ Int)=>some (AV.tup [Ai (ro o 0 (sumE (fun _=>0) (fun p23=>p23))),AV.bool (ro o false (sumE (fun _=>false) (fun p23=>true)))])) (brS (fun o:Unit ⊕ Int=>some (AV.tup [Ai ((sumE (fun _=>0) (fun p23=>p23)) o),AV.bool ((sumE (fun _=>false) (fun p23=>true)) o)])) (fun _=>(fun _=>rfl)) (fun p23=>(fun _=>rfl)))) h1)
 ·cases h
noncomputable def c95:Cfg:=cfg Tryz.prog [(95,999,[2])] [] [] [] []
def q95 (a0:Int):Bool:=(!decide (10007=0) && (!decide (10007=0) && !decide (10007=0)))
def v95_0 (a0:Int):Int:=Int.tmod (IntKind.i64.wrap (IntKind.i64.wrap (Int.tmod (IntKind.i64.wrap (Int.tmod a0 10007+10007)) 10007*1103)+2345)) 10007
theorem e95 (a0:Int):funA c95 0 95 [Ai a0]=(bif !decide (10007=0) then (bif !decide (10007=0) then (bif !decide (10007=0) then some (Ai (Int.tmod (IntKind.i64.wrap (IntKind.i64.wrap (Int.tmod (IntKind.i64.wrap (Int.tmod a0 10007+10007)) 10007*1103)+2345)) 10007))
 else none)
 else none)
 else none):=by kernel_rfl
def m95:TModel
 | [.int .i64 a0]=>some (q95 a0,AV.int .i64 (v95_0 a0))
 | _=>none
theorem k95:Known Tryz.prog 95:=⟨Tryz.f95,Tryz.func95,by kernel_rfl,by kernel_rfl⟩
theorem meets95:Meets Tryz.prog 95 m95:=by
 refine meet (f:=Tryz.f95) (l:=[]) (hs:=[(95,999,[2])]) (ts:=[]) (ws:=[]) (is:=[]) (ls:=[]) (lvl:=0) mixed k95 Tryz.func95 (by kernel_rfl) noLoop allT_nil allM_nil noI fun w xs us r hl hv h=>?_
 unfold m95 at h
 split at h
 ·rename_i a0
  obtain ⟨h1,rfl⟩:=pair_inj h
  exact (e95 a0).trans ((brL (brL (brL1 (fun _=>rfl)))) h1)
 ·cases h
noncomputable def c86:Cfg:=cfg Tryz.prog [(86,999,[])] [] [] [] []
def q86 (a1 a2:Int) (b0:List AV):Bool:=((decide (0≤a1) && decide (a1<(b0.length:Int))) && ((decide (0≤a2) && decide (a2<(b0.length:Int))) && ((decide (0≤a1) && decide (a1<(b0.length:Int))) && (decide (0≤a2) && decide (a2<((b0.set a1.toNat (AV.agg [AV.int .i64 (fI (b0.getD a2.toNat .undef) 0)])).length:Int))))))
def v86_0 (a1 a2:Int) (b0:List AV):List AV:=(b0.set a1.toNat (AV.agg [AV.int .i64 (fI (b0.getD a2.toNat .undef) 0)])).set a2.toNat (AV.agg [AV.int .i64 (fI (b0.getD a1.toNat .undef) 0)])
theorem e86 (a1 a2:Int) (b0:List AV) (K:AV→List Blk→Option AV):inlA c86 1 86 [AV.own [1],Ai a1,Ai a2] [0] (canH 1 [⟨false,[.int .i64],b0⟩]) (keepB 1 K)=(bif (decide (0≤a1) && decide (a1<(b0.length:Int))) then (bif (decide (0≤a2) && decide (a2<(b0.length:Int))) then (bif (decide (0≤a1) && decide (a1<(b0.length:Int))) then (bif (decide (0≤a2) && decide (a2<((b0.set a1.toNat (AV.agg [Ai (fI (b0.getD a2.toNat .undef) 0)])).length:Int))) then K (AV.tup []) [⟨false,[.int .i64],(b0.set a1.toNat (AV.agg [Ai (fI (b0.getD a2.toNat .undef) 0)])).set a2.toNat (AV.agg [Ai (fI (b0.getD a1.toNat .undef) 0)])⟩]
 else none)
 else none)
 else none)
 else none):=by kernel_rfl
theorem r86 (a1 a2:Int) (b0:List AV) (K:AV→List Blk→Option AV) (h:q86 a1 a2 b0=true):inlA c86 1 86 [AV.own [1],AV.int .i64 a1,AV.int .i64 a2] [0] (canH 1 [⟨false,[.int .i64],b0⟩]) (keepB 1 K)=K (AV.tup []) [⟨false,[.int .i64],(v86_0 a1 a2 b0)⟩]:=(e86 a1 a2 b0 K).trans ((brL (brL (brL (brL1 (fun _=>rfl))))) h)
def m86:WModel
 | [.own g0,.int .i64 a1,.int .i64 a2],[⟨false,g1,b0⟩]=>bif nmEq g0 ([1]) && ctsEq g1 ([.int .i64]) then some (q86 a1 a2 b0,AV.tup [],[⟨false,[.int .i64],(v86_0 a1 a2 b0)⟩]) else none
 | _,_=>none
theorem k86:Known Tryz.prog 86:=⟨Tryz.f86,Tryz.func86,by kernel_rfl,by kernel_rfl⟩
theorem meets86:MeetsM Tryz.prog 86 m86:=by
 refine meetM (f:=Tryz.f86) (l:=[]) (hs:=[(86,999,[])]) (ts:=[]) (ws:=[]) (is:=[]) (ls:=[]) (lvl:=0) mixed k86 Tryz.func86 (by kernel_rfl) noLoop allT_nil allM_nil noI fun C w xs us bs r bs' hl hv hh h K=>?_
 unfold m86 at h
 split at h
 ·rename_i g0 a1 a2 g1 b0
  obtain ⟨hg,h⟩:=bif_pair h
  simp only [Bool.and_eq_true] at hg
  obtain ⟨q0,q1⟩:=hg
  obtain rfl:=(nmEq_iff _ _).1 q0
  obtain rfl:=ctsEq_eq _ _ q1
  obtain ⟨h1,rfl,rfl⟩:=trip_inj h
  exact r86 a1 a2 b0 K h1
 ·cases h
def F74_2 (t4 t5:Int) (h0:List AV):Out ((Int × (List AV))) (((List AV))):=(bif decide (t5 > 0) then (bif (decide (0≤IntKind.i64.wrap (t5 - 1)) && decide (IntKind.i64.wrap (t5 - 1)<(h0.length:Int))) then (bif (decide (0≤t5) && decide (t5<(h0.length:Int))) then (bif decide (fI (h0.getD (IntKind.i64.wrap (t5 - 1)).toNat .undef) 0 > fI (h0.getD t5.toNat .undef) 0) then (bif q86 (IntKind.i64.wrap (t5 - 1)) t5 h0 then .next (IntKind.i64.wrap (t5 - 1),(v86_0 (IntKind.i64.wrap (t5 - 1)) t5 h0))
 else .fail)
 else .stop h0)
 else .fail)
 else .fail)
 else .stop h0)
def R74_2 (t4:Int):((Int × (List AV)))→Out ((Int × (List AV))) (((List AV))):=fun s:Int × (List AV)=>F74_2 t4 s.1 s.2
def E74_2 (t4:Int):((Int × (List AV)))→St:=fun s:Int × (List AV)=>⟨[(3,AV.own [0,3]),(4,Ai t4),(5,Ai s.1)],[([0,3],⟨false,[.int .i64],s.2⟩)]⟩
def K74_2 (t4:Int) (k:Kont):(((List AV)))→Option AV:=fun p:(List AV)=>k (.exit 2) ⟨[(3,AV.own [0,3]),(4,Ai t4)],[([0,3],⟨false,[.int .i64],p⟩)]⟩
def l74_2:LModel:=fun _ _ st k=>match st with
 | ⟨[(3,.own g0),(4,.int .i64 t4),(5,.int .i64 t5)],[(g1,⟨false,g2,h0⟩)]⟩=>bif nmEq g0 ([0,3]) && nmEq g1 ([0,3]) && ctsEq g2 ([.int .i64]) then ro (runW (R74_2 t4) ((t5 - 0:Int).toNat+1) (t5,h0)) none (K74_2 t4 k) else none
 | _=>none
def F74_0 (t4:Int) (h0:List AV):Out ((Int × (List AV))) (((List AV))):=(bif decide (t4<(h0.length:Int)) then (ro (runW (R74_2 t4) ((t4 - 0:Int).toNat+1) (t4,h0)) .fail (fun p24 => .next (IntKind.i64.wrap (t4+1),p24)))
 else .stop h0)
def R74_0:((Int × (List AV)))→Out ((Int × (List AV))) (((List AV))):=fun s:Int × (List AV)=>F74_0 s.1 s.2
def E74_0:((Int × (List AV)))→St:=fun s:Int × (List AV)=>⟨[(3,AV.own [0,3]),(4,Ai s.1)],[([0,3],⟨false,[.int .i64],s.2⟩)]⟩
def K74_0 (k:Kont):(((List AV)))→Option AV:=fun p:(List AV)=>k (.exit 0) ⟨[(3,AV.own [0,3])],[([0,3],⟨false,[.int .i64],p⟩)]⟩
def l74_0:LModel:=fun _ _ st k=>match st with
 | ⟨[(3,.own g0),(4,.int .i64 t4)],[(g1,⟨false,g2,h0⟩)]⟩=>bif nmEq g0 ([0,3]) && nmEq g1 ([0,3]) && ctsEq g2 ([.int .i64]) then ro (runW (R74_0) (((h0.length:Int) - t4:Int).toNat+1) (t4,h0)) none (K74_0 k) else none
 | _=>none
noncomputable def c74:Cfg:=cfg Tryz.prog [(74,0,[3,4]),(74,2,[3,4,5]),(74,999,[2]),(74,1000,[3]),(74,1001,[3,4]),(74,1002,[3,4]),(74,1003,[3,4,5])] [] [(86,.w m86)] [] [(74,0,l74_0),(74,2,l74_2)]
theorem s74_2 (ce:CallE) (t4 t5:Int) (h0:List AV) (next:St→Option AV) (k:Kont):stepA (codeA c74 ce [] 74 2 (sub [1,1,0,1,0,0,1,0,0,1,0,0] (body Tryz.f74))) (normA [] [3,4,5]) next ⟨[(3,AV.own [0,3]),(4,Ai t4),(5,Ai t5)],[([0,3],⟨false,[.int .i64],h0⟩)]⟩ k=(bif decide (t5 > 0) then (bif (decide (0≤IntKind.i64.wrap (t5 - 1)) && decide (IntKind.i64.wrap (t5 - 1)<(h0.length:Int))) then (bif (decide (0≤t5) && decide (t5<(h0.length:Int))) then (bif decide (fI (h0.getD (IntKind.i64.wrap (t5 - 1)).toNat .undef) 0 > fI (h0.getD t5.toNat .undef) 0) then (bif q86 (IntKind.i64.wrap (t5 - 1)) t5 h0 then next ⟨[(3,AV.own [0,3]),(4,Ai t4),(5,Ai (IntKind.i64.wrap (t5 - 1)))],[([0,3],⟨false,[.int .i64],(v86_0 (IntKind.i64.wrap (t5 - 1)) t5 h0)⟩)]⟩
 else none)
 else k (.exit 2) ⟨[(3,AV.own [0,3]),(4,Ai t4)],[([0,3],⟨false,[.int .i64],h0⟩)]⟩)
 else none)
 else none)
 else k (.exit 2) ⟨[(3,AV.own [0,3]),(4,Ai t4)],[([0,3],⟨false,[.int .i64],h0⟩)]⟩):=by kernel_rfl
theorem st74_2 (t4:Int) (ce:CallE) (k:Kont) (s:(Int × (List AV))) (next:St→Option AV):stepA (codeA c74 ce [] 74 2 (sub [1,1,0,1,0,0,1,0,0,1,0,0] (body Tryz.f74))) (normA [] [3,4,5]) next ((E74_2 t4) s) k=(R74_2 t4 s).el none (fun s=>next ((E74_2 t4) s)) (K74_2 t4 k):=(s74_2 ce t4 s.1 s.2 next k).trans (by unfold R74_2;unfold F74_2;simp only [el_cond,el_ro,el_sum,el_fail,el_next,el_stop] <;> rfl)
theorem ok74_2 {ce:CallE}:LoopOK c74 ce [] 74 2 (sub [1,1,0,1,0,0,1,0,0,1,0,0] (body Tryz.f74)):=by
 intro m hm st k r h
 obtain rfl:l74_2=m:=Option.some.inj hm
 unfold l74_2 at h
 split at h
 ·rename_i g0 t4 t5 g1 g2 h0
  obtain ⟨hg,h⟩:=bif_some h
  simp only [Bool.and_eq_true] at hg
  obtain ⟨⟨q0,q1⟩,q2⟩:=hg
  obtain rfl:=(nmEq_iff _ _).1 q0
  obtain rfl:=(nmEq_iff _ _).1 q1
  obtain rfl:=ctsEq_eq _ _ q2
  refine ⟨((t5 - 0:Int).toNat+1),?_⟩
  rw [← h]
  exact loop_run (E74_2 t4) (K74_2 t4 k) (st74_2 t4 ce k) _ (t5,h0)
 ·cases h
theorem s74_0 (ce:CallE) (t4:Int) (h0:List AV) (next:St→Option AV) (k:Kont):stepA (codeA c74 ce [] 74 0 (sub [1,1,0,1,0,0] (body Tryz.f74))) (normA [] [3,4]) next ⟨[(3,AV.own [0,3]),(4,Ai t4)],[([0,3],⟨false,[.int .i64],h0⟩)]⟩ k=(bif decide (t4<(h0.length:Int)) then (ro (runW (R74_2 t4) ((t4 - 0:Int).toNat+1) (t4,h0)) none (fun p24=>next ⟨[(3,AV.own [0,3]),(4,Ai (IntKind.i64.wrap (t4+1)))],[([0,3],⟨false,[.int .i64],p24⟩)]⟩))
 else k (.exit 0) ⟨[(3,AV.own [0,3])],[([0,3],⟨false,[.int .i64],h0⟩)]⟩):=by kernel_rfl
theorem st74_0 (ce:CallE) (k:Kont) (s:(Int × (List AV))) (next:St→Option AV):stepA (codeA c74 ce [] 74 0 (sub [1,1,0,1,0,0] (body Tryz.f74))) (normA [] [3,4]) next (E74_0 s) k=(R74_0 s).el none (fun s=>next (E74_0 s)) (K74_0 k):=(s74_0 ce s.1 s.2 next k).trans (by unfold R74_0;unfold F74_0;simp only [el_cond,el_ro,el_sum,el_fail,el_next,el_stop] <;> rfl)
theorem ok74_0 {ce:CallE}:LoopOK c74 ce [] 74 0 (sub [1,1,0,1,0,0] (body Tryz.f74)):=by
 intro m hm st k r h
 obtain rfl:l74_0=m:=Option.some.inj hm
 unfold l74_0 at h
 split at h
 ·rename_i g0 t4 g1 g2 h0
  obtain ⟨hg,h⟩:=bif_some h
  simp only [Bool.and_eq_true] at hg
  obtain ⟨⟨q0,q1⟩,q2⟩:=hg
  obtain rfl:=(nmEq_iff _ _).1 q0
  obtain rfl:=(nmEq_iff _ _).1 q1
  obtain rfl:=ctsEq_eq _ _ q2
  refine ⟨(((h0.length:Int) - t4:Int).toNat+1),?_⟩
  rw [← h]
  exact loop_run E74_0 (K74_0 k) (st74_0 ce k) _ (t4,h0)
 ·cases h
def q74 (a0:List AV):Bool:=((decide ((([]:List AV).length+a0.length)*8≤140737488355328) && decide ((([]:List AV).length+a0.length)≤140737488355328)) && (ro (runW (R74_0) ((((([]:List AV)++a0).length:Int) - 1:Int).toNat+1) (1,([]:List AV)++a0)) false (fun p25=>true)))
def v74_0 (a0:List AV):List AV:=(ro (runW (R74_0) ((((([]:List AV)++a0).length:Int) - 1:Int).toNat+1) (1,([]:List AV)++a0)) [] (fun p25=>p25))
theorem e74 (a0:List AV):funA c74 0 74 [AV.sl [.int .i64] a0]=(bif (decide ((([]:List AV).length+a0.length)*8≤140737488355328) && decide ((([]:List AV).length+a0.length)≤140737488355328)) then (ro (runW (R74_0) ((((([]:List AV)++a0).length:Int) - 1:Int).toNat+1) (1,([]:List AV)++a0)) none (fun p25=>some (AV.fl [.int .i64] p25)))
 else none):=by kernel_rfl
def m74:TModel
 | [.sl g0 a0]=>bif ctsEq g0 ([.int .i64]) then some (q74 a0,AV.fl [.int .i64] (v74_0 a0)) else none
 | _=>none
theorem k74:Known Tryz.prog 74:=⟨Tryz.f74,Tryz.func74,by kernel_rfl,by kernel_rfl⟩
theorem meets74:Meets Tryz.prog 74 m74:=by
 refine meet (f:=Tryz.f74) (l:=[(0,sub [1,1,0,1,0,0] (body Tryz.f74)),(2,sub [1,1,0,1,0,0,1,0,0,1,0,0] (body Tryz.f74))]) (hs:=[(74,0,[3,4]),(74,2,[3,4,5]),(74,999,[2]),(74,1000,[3]),(74,1001,[3,4]),(74,1002,[3,4]),(74,1003,[3,4,5])]) (ts:=[]) (ws:=[(86,.w m86)]) (is:=[]) (ls:=[(74,0,l74_0),(74,2,l74_2)]) (lvl:=0) mixed k74 Tryz.func74 (by kernel_rfl) (loops_cons ok74_0 (loops_cons ok74_2 noLoop)) allT_nil (allM_cons meets86 allM_nil) noI fun w xs us r hl hv h=>?_
 unfold m74 at h
 split at h
 ·rename_i g0 a0
  obtain ⟨hg,h⟩:=bif_pair h
  have q0:=hg
  obtain rfl:=ctsEq_eq _ _ q0
  obtain ⟨h1,rfl⟩:=pair_inj h
  exact (e74 a0).trans ((brL (brO (fun o:Option (((List AV)))=>some (AV.fl [.int .i64] (ro o [] (fun p25=>p25)))) (fun p25=>(fun _=>rfl)))) h1)
 ·cases h
noncomputable def c96:Cfg:=cfg Tryz.prog [(96,999,[2])] [(74,m74)] [] [] []
def q96 (a0:List AV):Bool:=(bif decide ((a0.length:Int)=0) then true else (bif decide ((a0.length:Int) > 64) then true else (q74 a0 && (!decide (2=0) && (decide (0≤IntKind.i64.wrap (Int.tdiv (IntKind.i64.wrap ((a0.length:Int) - 1)) 2)) && decide (IntKind.i64.wrap (Int.tdiv (IntKind.i64.wrap ((a0.length:Int) - 1)) 2)<((v74_0 a0).length:Int)))))))
def v96_0 (a0:List AV):Int:=(bif decide ((a0.length:Int)=0) then 0 else (bif decide ((a0.length:Int) > 64) then 0 else fI ((v74_0 a0).getD (IntKind.i64.wrap (Int.tdiv (IntKind.i64.wrap ((a0.length:Int) - 1)) 2)).toNat .undef) 0))
theorem e96 (a0:List AV):funA c96 0 96 [AV.sl [.int .i64] a0]=(bif decide ((a0.length:Int)=0) then some (Ai 0)
 else (bif decide ((a0.length:Int) > 64) then some (Ai 0)
 else (bif q74 a0 then (bif !decide (2=0) then (bif (decide (0≤IntKind.i64.wrap (Int.tdiv (IntKind.i64.wrap ((a0.length:Int) - 1)) 2)) && decide (IntKind.i64.wrap (Int.tdiv (IntKind.i64.wrap ((a0.length:Int) - 1)) 2)<((v74_0 a0).length:Int))) then some (Ai (fI ((v74_0 a0).getD (IntKind.i64.wrap (Int.tdiv (IntKind.i64.wrap ((a0.length:Int) - 1)) 2)).toNat .undef) 0))
 else none)
 else none)
 else none))):=by kernel_rfl
def m96:TModel
 | [.sl g0 a0]=>bif ctsEq g0 ([.int .i64]) then some (q96 a0,AV.int .i64 (v96_0 a0)) else none
 | _=>none
theorem k96:Known Tryz.prog 96:=⟨Tryz.f96,Tryz.func96,by kernel_rfl,by kernel_rfl⟩
theorem meets96:Meets Tryz.prog 96 m96:=by
 refine meet (f:=Tryz.f96) (l:=[]) (hs:=[(96,999,[2])]) (ts:=[(74,m74)]) (ws:=[]) (is:=[]) (ls:=[]) (lvl:=0) mixed k96 Tryz.func96 (by kernel_rfl) noLoop (allT_cons meets74 allT_nil) allM_nil noI fun w xs us r hl hv h=>?_
 unfold m96 at h
 split at h
 ·rename_i g0 a0
  obtain ⟨hg,h⟩:=bif_pair h
  have q0:=hg
  obtain rfl:=ctsEq_eq _ _ q0
  obtain ⟨h1,rfl⟩:=pair_inj h
  exact (e96 a0).trans ((br (fun b=>some (Ai (bif b then 0 else (bif decide ((a0.length:Int) > 64) then 0 else fI ((v74_0 a0).getD (IntKind.i64.wrap (Int.tdiv (IntKind.i64.wrap ((a0.length:Int) - 1)) 2)).toNat .undef) 0)))) (fun _=>rfl) (br (fun b=>some (Ai (bif b then 0 else fI ((v74_0 a0).getD (IntKind.i64.wrap (Int.tdiv (IntKind.i64.wrap ((a0.length:Int) - 1)) 2)).toNat .undef) 0))) (fun _=>rfl) (brL (brL (brL1 (fun _=>rfl)))))) h1)
 ·cases h
noncomputable def c84:Cfg:=cfg Tryz.prog [(84,999,[8,9])] [(37,m37),(53,m53),(95,m95),(96,m96)] [] [] []
def q84 (xa xb xc:List AV) (ya yb yc a2 a3:Int):Bool:=(q53 xa xb xc && (bif !(v53_0 xa xb xc) then true else (bif !(v37_0 ya yb yc) then true else (bif decide (a2<0) then true else (bif decide (a2 ≥ a3) then true else (bif decide (a3 > (xa.length:Int)) then true else (bif decide (ya=2) then (q95 yc && (!decide (IntKind.i64.wrap (a3 - a2)=0) && (decide (0≤IntKind.i64.wrap (a2+Int.tmod (v95_0 yc) (IntKind.i64.wrap (a3 - a2)))) && decide (IntKind.i64.wrap (a2+Int.tmod (v95_0 yc) (IntKind.i64.wrap (a3 - a2)))<(xa.length:Int))))) else ((decide (0≤a2) && decide (a2≤a3) && decide (a3≤(xa.length:Int))) && q96 ((xa.take (Int.toNat a3)).drop (Int.toNat a2))))))))))
def v84_0 (xa xb xc:List AV) (ya yb yc a2 a3:Int):Int:=(bif !(v53_0 xa xb xc) then 0 else (bif !(v37_0 ya yb yc) then 0 else (bif decide (a2<0) then 0 else (bif decide (a2 ≥ a3) then 0 else (bif decide (a3 > (xa.length:Int)) then 0 else (bif decide (ya=2) then fI (xa.getD (IntKind.i64.wrap (a2+Int.tmod (v95_0 yc) (IntKind.i64.wrap (a3 - a2)))).toNat .undef) 0 else (v96_0 ((xa.take (Int.toNat a3)).drop (Int.toNat a2)))))))))
def v84_1 (xa xb xc:List AV) (ya yb yc a2 a3:Int):Int:=ya
def v84_2 (xa xb xc:List AV) (ya yb yc a2 a3:Int):Int:=yb
def v84_3 (xa xb xc:List AV) (ya yb yc a2 a3:Int):Int:=(bif !(v53_0 xa xb xc) then yc else (bif !(v37_0 ya yb yc) then yc else (bif decide (a2<0) then yc else (bif decide (a2 ≥ a3) then yc else (bif decide (a3 > (xa.length:Int)) then yc else (bif decide (ya=2) then (v95_0 yc) else yc))))))
theorem e84 (xa xb xc:List AV) (ya yb yc a2 a3:Int):funA c84 0 84 [AV.agg [AV.sl [.int .i64] xa,AV.sl [.int .i64] xb,AV.sl [.int .i64,.int .i64] xc],AV.agg [Ai ya,Ai yb,Ai yc],Ai a2,Ai a3]=(bif q53 xa xb xc then (bif !(v53_0 xa xb xc) then some (AV.tup [Ai 0,AV.agg [Ai ya,Ai yb,Ai yc]])
 else (bif !(v37_0 ya yb yc) then some (AV.tup [Ai 0,AV.agg [Ai ya,Ai yb,Ai yc]])
 else (bif decide (a2<0) then some (AV.tup [Ai 0,AV.agg [Ai ya,Ai yb,Ai yc]])
 else (bif decide (a2 ≥ a3) then some (AV.tup [Ai 0,AV.agg [Ai ya,Ai yb,Ai yc]])
 else (bif decide (a3 > (xa.length:Int)) then some (AV.tup [Ai 0,AV.agg [Ai ya,Ai yb,Ai yc]])
 else (bif decide (ya=2) then (bif q95 yc then (bif !decide (IntKind.i64.wrap (a3 - a2)=0) then (bif (decide (0≤IntKind.i64.wrap (a2+Int.tmod (v95_0 yc) (IntKind.i64.wrap (a3 - a2)))) && decide (IntKind.i64.wrap (a2+Int.tmod (v95_0 yc) (IntKind.i64.wrap (a3 - a2)))<(xa.length:Int))) then some (AV.tup [Ai (fI (xa.getD (IntKind.i64.wrap (a2+Int.tmod (v95_0 yc) (IntKind.i64.wrap (a3 - a2)))).toNat .undef) 0),AV.agg [Ai ya,Ai yb,Ai (v95_0 yc)]])
 else none)
 else none)
 else none)
 else (bif (decide (0≤a2) && decide (a2≤a3) && decide (a3≤(xa.length:Int))) then (bif q96 ((xa.take (Int.toNat a3)).drop (Int.toNat a2)) then some (AV.tup [Ai (v96_0 ((xa.take (Int.toNat a3)).drop (Int.toNat a2))),AV.agg [Ai ya,Ai yb,Ai yc]])
 else none)
 else none)))))))
 else none):=by kernel_rfl
def m84:TModel
 | [.agg [.sl g0 xa,.sl g1 xb,.sl g2 xc],.agg [.int .i64 ya,.int .i64 yb,.int .i64 yc],.int .i64 a2,.int .i64 a3]=>bif ctsEq g0 ([.int .i64]) && ctsEq g1 ([.int .i64]) && ctsEq g2 ([.int .i64,.int .i64]) then some (q84 xa xb xc ya yb yc a2 a3,AV.tup [AV.int .i64 (v84_0 xa xb xc ya yb yc a2 a3),AV.agg [AV.int .i64 (v84_1 xa xb xc ya yb yc a2 a3),AV.int .i64 (v84_2 xa xb xc ya yb yc a2 a3),AV.int .i64 (v84_3 xa xb xc ya yb yc a2 a3)]]) else none
 | _=>none
theorem k84:Known Tryz.prog 84:=⟨Tryz.f84,Tryz.func84,by kernel_rfl,by kernel_rfl⟩
theorem meets84:Meets Tryz.prog 84 m84:=by
 refine meet (f:=Tryz.f84) (l:=[]) (hs:=[(84,999,[8,9])]) (ts:=[(37,m37),(53,m53),(95,m95),(96,m96)]) (ws:=[]) (is:=[]) (ls:=[]) (lvl:=0) mixed k84 Tryz.func84 (by kernel_rfl) noLoop (allT_cons meets37 (allT_cons meets53 (allT_cons meets95 (allT_cons meets96 allT_nil)))) allM_nil noI fun w xs us r hl hv h=>?_
 unfold m84 at h
 split at h
 ·rename_i g0 xa g1 xb g2 xc ya yb yc a2 a3
  obtain ⟨hg,h⟩:=bif_pair h
  simp only [Bool.and_eq_true] at hg
  obtain ⟨⟨q0,q1⟩,q2⟩:=hg
  obtain rfl:=ctsEq_eq _ _ q0
  obtain rfl:=ctsEq_eq _ _ q1
  obtain rfl:=ctsEq_eq _ _ q2
  obtain ⟨h1,rfl⟩:=pair_inj h
  exact (e84 xa xb xc ya yb yc a2 a3).trans ((brL (br (fun b=>some (AV.tup [Ai (bif b then 0 else (bif !(v37_0 ya yb yc) then 0 else (bif decide (a2<0) then 0 else (bif decide (a2 ≥ a3) then 0 else (bif decide (a3 > (xa.length:Int)) then 0 else (bif decide (ya=2) then fI (xa.getD (IntKind.i64.wrap (a2+Int.tmod (v95_0 yc) (IntKind.i64.wrap (a3 - a2)))).toNat .undef) 0 else (v96_0 ((xa.take (Int.toNat a3)).drop (Int.toNat a2))))))))),AV.agg [Ai ya,Ai yb,Ai (bif b then yc else (bif !(v37_0 ya yb yc) then yc else (bif decide (a2<0) then yc else (bif decide (a2 ≥ a3) then yc else (bif decide (a3 > (xa.length:Int)) then yc else (bif decide (ya=2) then (v95_0 yc) else yc))))))]])) (fun _=>rfl) (br (fun b=>some (AV.tup [Ai (bif b then 0 else (bif decide (a2<0) then 0 else (bif decide (a2 ≥ a3) then 0 else (bif decide (a3 > (xa.length:Int)) then 0 else (bif decide (ya=2) then fI (xa.getD (IntKind.i64.wrap (a2+Int.tmod (v95_0 yc) (IntKind.i64.wrap (a3 - a2)))).toNat .undef) 0 else (v96_0 ((xa.take (Int.toNat a3)).drop (Int.toNat a2)))))))),AV.agg [Ai ya,Ai yb,Ai (bif b then yc else (bif decide (a2<0) then yc else (bif decide (a2 ≥ a3) then yc else (bif decide (a3 > (xa.length:Int)) then yc else (bif decide (ya=2) then (v95_0 yc) else yc)))))]])) (fun _=>rfl) (br (fun b=>some (AV.tup [Ai (bif b then 0 else (bif decide (a2 ≥ a3) then 0 else (bif decide (a3 > (xa.length:Int)) then 0 else (bif decide (ya=2) then fI (xa.getD (IntKind.i64.wrap (a2+Int.tmod (v95_0 yc) (IntKind.i64.wrap (a3 - a2)))).toNat .undef) 0 else (v96_0 ((xa.take (Int.toNat a3)).drop (Int.toNat a2))))))),AV.agg [Ai ya,Ai yb,Ai (bif b then yc else (bif decide (a2 ≥ a3) then yc else (bif decide (a3 > (xa.length:Int)) then yc else (bif decide (ya=2) then (v95_0 yc) else yc))))]])) (fun _=>rfl) (br (fun b=>some (AV.tup [Ai (bif b then 0 else (bif decide (a3 > (xa.length:Int)) then 0 else (bif decide (ya=2) then fI (xa.getD (IntKind.i64.wrap (a2+Int.tmod (v95_0 yc) (IntKind.i64.wrap (a3 - a2)))).toNat .undef) 0 else (v96_0 ((xa.take (Int.toNat a3)).drop (Int.toNat a2)))))),AV.agg [Ai ya,Ai yb,Ai (bif b then yc else (bif decide (a3 > (xa.length:Int)) then yc else (bif decide (ya=2) then (v95_0 yc) else yc)))]])) (fun _=>rfl) (br (fun b=>some (AV.tup [Ai (bif b then 0 else (bif decide (ya=2) then fI (xa.getD (IntKind.i64.wrap (a2+Int.tmod (v95_0 yc) (IntKind.i64.wrap (a3 - a2)))).toNat .undef) 0 else (v96_0 ((xa.take (Int.toNat a3)).drop (Int.toNat a2))))),AV.agg [Ai ya,Ai yb,Ai (bif b then yc else (bif decide (ya=2) then (v95_0 yc) else yc))]])) (fun _=>rfl) (br (fun b=>some (AV.tup [Ai (bif b then fI (xa.getD (IntKind.i64.wrap (a2+Int.tmod (v95_0 yc) (IntKind.i64.wrap (a3 - a2)))).toNat .undef) 0 else (v96_0 ((xa.take (Int.toNat a3)).drop (Int.toNat a2)))),AV.agg [Ai ya,Ai yb,Ai (bif b then (v95_0 yc) else yc)]])) (brL (brL (brL1 (fun _=>rfl)))) (brL (brL1 (fun _=>rfl)))))))))) h1)
 ·cases h
def F105_0 (t0:List AV) (t3 t11 t12:Int) (h0:List AV):Out ((Int × Int × (List AV))) ((Int × (List AV))):=(bif decide (t11≤t12) then (bif (decide (0≤t11) && decide (t11<(t0.length:Int))) then (bif decide (fI (t0.getD t11.toNat .undef) 0<t3) then .next (IntKind.i64.wrap (t11+1),t12,h0)
 else (bif (decide (0≤t12) && decide (t12<(t0.length:Int))) then (bif decide (fI (t0.getD t12.toNat .undef) 0 ≥ t3) then .next (t11,IntKind.i64.wrap (t12 - 1),h0)
 else (bif (decide ((h0.length+([AV.agg [AV.int .i64 t11,AV.int .i64 t12]]).length)*16≤140737488355328) && decide ((h0.length+([AV.agg [AV.int .i64 t11,AV.int .i64 t12]]).length)≤140737488355328)) then .next (IntKind.i64.wrap (t11+1),IntKind.i64.wrap (t12 - 1),h0++([AV.agg [AV.int .i64 t11,AV.int .i64 t12]]))
 else .fail))
 else .fail))
 else .fail)
 else .stop (t11,h0))
def R105_0 (t0:List AV) (t3:Int):((Int × Int × (List AV)))→Out ((Int × Int × (List AV))) ((Int × (List AV))):=fun s:Int × Int × (List AV)=>F105_0 t0 t3 s.1 s.2.1 s.2.2
def E105_0 (t0:List AV) (t3:Int):((Int × Int × (List AV)))→St:=fun s:Int × Int × (List AV)=>⟨[(0,AV.sl [.int .i64] t0),(3,Ai t3),(10,AV.own [0,10]),(11,Ai s.1),(12,Ai s.2.1)],[([0,10],⟨false,[.int .i64,.int .i64],s.2.2⟩)]⟩
def K105_0 (k:Kont):((Int × (List AV)))→Option AV:=fun p:Int × (List AV)=>k (.exit 0) ⟨[(10,AV.own [0,10]),(11,Ai p.1)],[([0,10],⟨false,[.int .i64,.int .i64],p.2⟩)]⟩
def l105_0:LModel:=fun _ _ st k=>match st with
 | ⟨[(0,.sl g0 t0),(3,.int .i64 t3),(10,.own g1),(11,.int .i64 t11),(12,.int .i64 t12)],[(g2,⟨false,g3,h0⟩)]⟩=>bif ctsEq g0 ([.int .i64]) && nmEq g1 ([0,10]) && nmEq g2 ([0,10]) && ctsEq g3 ([.int .i64,.int .i64]) then ro (runW (R105_0 t0 t3) ((t12 - t11+1:Int).toNat+1) (t11,t12,h0)) none (K105_0 k) else none
 | _=>none
noncomputable def c105:Cfg:=cfg Tryz.prog [(105,0,[0,3,10,11,12]),(105,999,[8,9]),(105,1000,[10,11]),(105,1001,[0,3,10,11,12]),(105,1002,[0,3,10,11,12])] [(28,m28)] [] [] [(105,0,l105_0)]
theorem s105_0 (ce:CallE) (t0:List AV) (t3 t11 t12:Int) (h0:List AV) (next:St→Option AV) (k:Kont):stepA (codeA c105 ce [] 105 0 (sub [1,1,1,1,1,0,0,0] (body Tryz.f105))) (normA [] [0,3,10,11,12]) next ⟨[(0,AV.sl [.int .i64] t0),(3,Ai t3),(10,AV.own [0,10]),(11,Ai t11),(12,Ai t12)],[([0,10],⟨false,[.int .i64,.int .i64],h0⟩)]⟩ k=(bif decide (t11≤t12) then (bif (decide (0≤t11) && decide (t11<(t0.length:Int))) then (bif decide (fI (t0.getD t11.toNat .undef) 0<t3) then next ⟨[(0,AV.sl [.int .i64] t0),(3,Ai t3),(10,AV.own [0,10]),(11,Ai (IntKind.i64.wrap (t11+1))),(12,Ai t12)],[([0,10],⟨false,[.int .i64,.int .i64],h0⟩)]⟩
 else (bif (decide (0≤t12) && decide (t12<(t0.length:Int))) then (bif decide (fI (t0.getD t12.toNat .undef) 0 ≥ t3) then next ⟨[(0,AV.sl [.int .i64] t0),(3,Ai t3),(10,AV.own [0,10]),(11,Ai t11),(12,Ai (IntKind.i64.wrap (t12 - 1)))],[([0,10],⟨false,[.int .i64,.int .i64],h0⟩)]⟩
 else (bif (decide ((h0.length+([AV.agg [Ai t11,Ai t12]]).length)*16≤140737488355328) && decide ((h0.length+([AV.agg [Ai t11,Ai t12]]).length)≤140737488355328)) then next ⟨[(0,AV.sl [.int .i64] t0),(3,Ai t3),(10,AV.own [0,10]),(11,Ai (IntKind.i64.wrap (t11+1))),(12,Ai (IntKind.i64.wrap (t12 - 1)))],[([0,10],⟨false,[.int .i64,.int .i64],h0++([AV.agg [Ai t11,Ai t12]])⟩)]⟩
 else none))
 else none))
 else none)
 else k (.exit 0) ⟨[(10,AV.own [0,10]),(11,Ai t11)],[([0,10],⟨false,[.int .i64,.int .i64],h0⟩)]⟩):=by kernel_rfl
theorem st105_0 (t0:List AV) (t3:Int) (ce:CallE) (k:Kont) (s:(Int × Int × (List AV))) (next:St→Option AV):stepA (codeA c105 ce [] 105 0 (sub [1,1,1,1,1,0,0,0] (body Tryz.f105))) (normA [] [0,3,10,11,12]) next ((E105_0 t0 t3) s) k=(R105_0 t0 t3 s).el none (fun s=>next ((E105_0 t0 t3) s)) (K105_0 k):=(s105_0 ce t0 t3 s.1 s.2.1 s.2.2 next k).trans (by unfold R105_0;unfold F105_0;simp only [el_cond,el_ro,el_sum,el_fail,el_next,el_stop] <;> rfl)
theorem ok105_0 {ce:CallE}:LoopOK c105 ce [] 105 0 (sub [1,1,1,1,1,0,0,0] (body Tryz.f105)):=by
 intro m hm st k r h
 obtain rfl:l105_0=m:=Option.some.inj hm
 unfold l105_0 at h
 split at h
 ·rename_i g0 t0 t3 g1 t11 t12 g2 g3 h0
  obtain ⟨hg,h⟩:=bif_some h
  simp only [Bool.and_eq_true] at hg
  obtain ⟨⟨⟨q0,q1⟩,q2⟩,q3⟩:=hg
  obtain rfl:=ctsEq_eq _ _ q0
  obtain rfl:=(nmEq_iff _ _).1 q1
  obtain rfl:=(nmEq_iff _ _).1 q2
  obtain rfl:=ctsEq_eq _ _ q3
  refine ⟨((t12 - t11+1:Int).toNat+1),?_⟩
  rw [← h]
  exact loop_run (E105_0 t0 t3) (K105_0 k) (st105_0 t0 t3 ce k) _ (t11,t12,h0)
 ·cases h
def q105 (a0:List AV) (a1 a2 a3:Int):Bool:=(bif !(v28_0 a1 0 a2) then true else (bif decide (a2 > (a0.length:Int)) then true else (ro (runW (R105_0 a0 a3) (((IntKind.i64.wrap (a2 - 1)) - a1+1:Int).toNat+1) (a1,IntKind.i64.wrap (a2 - 1),([]:List AV))) false (fun p26=>true))))
def v105_0 (a0:List AV) (a1 a2 a3:Int):List AV:=(bif !(v28_0 a1 0 a2) then ([]:List AV) else (bif decide (a2 > (a0.length:Int)) then ([]:List AV) else (ro (runW (R105_0 a0 a3) (((IntKind.i64.wrap (a2 - 1)) - a1+1:Int).toNat+1) (a1,IntKind.i64.wrap (a2 - 1),([]:List AV))) [] (fun p26=>p26.2))))
def v105_1 (a0:List AV) (a1 a2 a3:Int):Int:=(bif !(v28_0 a1 0 a2) then 0 else (bif decide (a2 > (a0.length:Int)) then 0 else (ro (runW (R105_0 a0 a3) (((IntKind.i64.wrap (a2 - 1)) - a1+1:Int).toNat+1) (a1,IntKind.i64.wrap (a2 - 1),([]:List AV))) 0 (fun p26=>p26.1))))
theorem e105 (a0:List AV) (a1 a2 a3:Int):funA c105 0 105 [AV.sl [.int .i64] a0,Ai a1,Ai a2,Ai a3]=(bif !(v28_0 a1 0 a2) then some (AV.tup [AV.fl [.int .i64,.int .i64] ([]:List AV),Ai 0])
 else (bif decide (a2 > (a0.length:Int)) then some (AV.tup [AV.fl [.int .i64,.int .i64] ([]:List AV),Ai 0])
 else (ro (runW (R105_0 a0 a3) (((IntKind.i64.wrap (a2 - 1)) - a1+1:Int).toNat+1) (a1,IntKind.i64.wrap (a2 - 1),([]:List AV))) none (fun p26=>some (AV.tup [AV.fl [.int .i64,.int .i64] p26.2,Ai p26.1]))))):=by kernel_rfl
def m105:TModel
 | [.sl g0 a0,.int .i64 a1,.int .i64 a2,.int .i64 a3]=>bif ctsEq g0 ([.int .i64]) then some (q105 a0 a1 a2 a3,AV.tup [AV.fl [.int .i64,.int .i64] (v105_0 a0 a1 a2 a3),AV.int .i64 (v105_1 a0 a1 a2 a3)]) else none
 | _=>none
theorem k105:Known Tryz.prog 105:=⟨Tryz.f105,Tryz.func105,by kernel_rfl,by kernel_rfl⟩
theorem meets105:Meets Tryz.prog 105 m105:=by
 refine meet (f:=Tryz.f105) (l:=[(0,sub [1,1,1,1,1,0,0,0] (body Tryz.f105))]) (hs:=[(105,0,[0,3,10,11,12]),(105,999,[8,9]),(105,1000,[10,11]),(105,1001,[0,3,10,11,12]),(105,1002,[0,3,10,11,12])]) (ts:=[(28,m28)]) (ws:=[]) (is:=[]) (ls:=[(105,0,l105_0)]) (lvl:=0) mixed k105 Tryz.func105 (by kernel_rfl) (loops_cons ok105_0 noLoop) (allT_cons meets28 allT_nil) allM_nil noI fun w xs us r hl hv h=>?_
 unfold m105 at h
 split at h
 ·rename_i g0 a0 a1 a2 a3
  obtain ⟨hg,h⟩:=bif_pair h
  have q0:=hg
  obtain rfl:=ctsEq_eq _ _ q0
  obtain ⟨h1,rfl⟩:=pair_inj h
  exact (e105 a0 a1 a2 a3).trans ((br (fun b=>some (AV.tup [AV.fl [.int .i64,.int .i64] (bif b then ([]:List AV) else (bif decide (a2 > (a0.length:Int)) then ([]:List AV) else (ro (runW (R105_0 a0 a3) (((IntKind.i64.wrap (a2 - 1)) - a1+1:Int).toNat+1) (a1,IntKind.i64.wrap (a2 - 1),([]:List AV))) [] (fun p26=>p26.2)))),Ai (bif b then 0 else (bif decide (a2 > (a0.length:Int)) then 0 else (ro (runW (R105_0 a0 a3) (((IntKind.i64.wrap (a2 - 1)) - a1+1:Int).toNat+1) (a1,IntKind.i64.wrap (a2 - 1),([]:List AV))) 0 (fun p26=>p26.1))))])) (fun _=>rfl) (br (fun b=>some (AV.tup [AV.fl [.int .i64,.int .i64] (bif b then ([]:List AV) else (ro (runW (R105_0 a0 a3) (((IntKind.i64.wrap (a2 - 1)) - a1+1:Int).toNat+1) (a1,IntKind.i64.wrap (a2 - 1),([]:List AV))) [] (fun p26=>p26.2))),Ai (bif b then 0 else (ro (runW (R105_0 a0 a3) (((IntKind.i64.wrap (a2 - 1)) - a1+1:Int).toNat+1) (a1,IntKind.i64.wrap (a2 - 1),([]:List AV))) 0 (fun p26=>p26.1)))])) (fun _=>rfl) (brO (fun o:Option ((Int × (List AV)))=>some (AV.tup [AV.fl [.int .i64,.int .i64] (ro o [] (fun p26=>p26.2)),Ai (ro o 0 (fun p26=>p26.1))])) (fun p26=>(fun _=>rfl))))) h1)
 ·cases h
def F106_0 (t1 h2_0 h2_1 h2_2 h3:List AV) (t7:Int) (h0 h1:List AV):Out ((Int × (List AV) × (List AV))) (((List AV) × (List AV)) ⊕ ((List AV) × (List AV) × (List AV) × (List AV) × (List AV))):=(bif decide (t7<(t1.length:Int)) then (bif (decide (0≤t7) && decide (t7<(t1.length:Int))) then (bif (decide (0≤t7) && decide (t7<(t1.length:Int))) then (bif !(v28_0 (fI (t1.getD t7.toNat .undef) 0) 0 (IntKind.i64.wrap ((h0.length:Int) - 1))) then (bif q56 h2_0 h2_1 h2_2 then .stop (.inr (h0,h1,(v56_0 h2_0 h2_1 h2_2),(v56_1 h2_0 h2_1 h2_2),(v56_2 h2_0 h2_1 h2_2)))
 else .fail)
 else (bif !(v28_0 (fI (t1.getD t7.toNat .undef) 1) 0 (IntKind.i64.wrap ((h0.length:Int) - 1))) then (bif q56 h2_0 h2_1 h2_2 then .stop (.inr (h0,h1,(v56_0 h2_0 h2_1 h2_2),(v56_1 h2_0 h2_1 h2_2),(v56_2 h2_0 h2_1 h2_2)))
 else .fail)
 else (bif q86 (fI (t1.getD t7.toNat .undef) 0) (fI (t1.getD t7.toNat .undef) 1) h0 then (bif q86 (fI (t1.getD t7.toNat .undef) 0) (fI (t1.getD t7.toNat .undef) 1) h1 then .next (IntKind.i64.wrap (t7+1),(v86_0 (fI (t1.getD t7.toNat .undef) 0) (fI (t1.getD t7.toNat .undef) 1) h0),(v86_0 (fI (t1.getD t7.toNat .undef) 0) (fI (t1.getD t7.toNat .undef) 1) h1))
 else .fail)
 else .fail)))
 else .fail)
 else .fail)
 else .stop (.inl (h0,h1)))
def R106_0 (t1 h2_0 h2_1 h2_2 h3:List AV):((Int × (List AV) × (List AV)))→Out ((Int × (List AV) × (List AV))) (((List AV) × (List AV)) ⊕ ((List AV) × (List AV) × (List AV) × (List AV) × (List AV))):=fun s:Int × (List AV) × (List AV)=>F106_0 t1 h2_0 h2_1 h2_2 h3 s.1 s.2.1 s.2.2
def E106_0 (t1 h2_0 h2_1 h2_2 h3:List AV):((Int × (List AV) × (List AV)))→St:=fun s:Int × (List AV) × (List AV)=>⟨[(1,AV.sl [.int .i64,.int .i64] t1),(2,AV.ptr [0,2] 0 0),(4,AV.ptr [0,4] 0 0),(6,AV.ptr [0,6] 0 0),(7,Ai s.1)],[([0,0,6],⟨false,[.int .i64],s.2.1⟩),([0,1,6],⟨false,[.int .i64],s.2.2⟩),([0,2],⟨true,[],[AV.agg [AV.sl [.int .i64] h2_0,AV.sl [.int .i64] h2_1,AV.sl [.int .i64,.int .i64] h2_2]]⟩),([0,2,6],⟨false,[.int .i64,.int .i64],h3⟩),([0,4],⟨true,[],[AV.agg [AV.snil,AV.snil,AV.snil]]⟩),([0,6],⟨true,[],[AV.agg [AV.own [0,0,6],AV.own [0,1,6],AV.own [0,2,6]]]⟩)]⟩
def K106_0 (h2_0 h2_1 h2_2 h3:List AV) (k:Kont):(((List AV) × (List AV)) ⊕ ((List AV) × (List AV) × (List AV) × (List AV) × (List AV)))→Option AV:=sumE (fun p:(List AV) × (List AV)=>k (.exit 0) ⟨[(4,AV.ptr [0,4] 0 0),(6,AV.ptr [0,6] 0 0)],[([0,0,6],⟨false,[.int .i64],p.1⟩),([0,1,6],⟨false,[.int .i64],p.2⟩),([0,2],⟨true,[],[AV.agg [AV.sl [.int .i64] h2_0,AV.sl [.int .i64] h2_1,AV.sl [.int .i64,.int .i64] h2_2]]⟩),([0,2,6],⟨false,[.int .i64,.int .i64],h3⟩),([0,4],⟨true,[],[AV.agg [AV.snil,AV.snil,AV.snil]]⟩),([0,6],⟨true,[],[AV.agg [AV.own [0,0,6],AV.own [0,1,6],AV.own [0,2,6]]]⟩)]⟩) (fun p:(List AV) × (List AV) × (List AV) × (List AV) × (List AV)=>k .ret ⟨[(4,AV.ptr [0,4] 0 0),(5,AV.bool false)],[([0,0,6],⟨false,[.int .i64],p.1⟩),([0,1,6],⟨false,[.int .i64],p.2.1⟩),([0,1,53],⟨false,[.int .i64],p.2.2.1⟩),([0,2],⟨true,[],[AV.agg [AV.sl [.int .i64] h2_0,AV.sl [.int .i64] h2_1,AV.sl [.int .i64,.int .i64] h2_2]]⟩),([0,2,6],⟨false,[.int .i64,.int .i64],h3⟩),([0,4],⟨true,[],[AV.agg [AV.own [0,1,53],AV.own [1,1,53],AV.own [2,1,53]]]⟩),([0,6],⟨true,[],[AV.agg [AV.own [0,0,6],AV.own [0,1,6],AV.own [0,2,6]]]⟩),([1,1,53],⟨false,[.int .i64],p.2.2.2.1⟩),([2,1,53],⟨false,[.int .i64,.int .i64],p.2.2.2.2⟩)]⟩)
def l106_0:LModel:=fun _ _ st k=>match st with
 | ⟨[(1,.sl g0 t1),(2,.ptr g1 g2 g3),(4,.ptr g4 g5 g6),(6,.ptr g7 g8 g9),(7,.int .i64 t7)],[(g10,⟨false,g11,h0⟩),(g12,⟨false,g13,h1⟩),(g14,⟨true,[],[.agg [.sl g15 h2_0,.sl g16 h2_1,.sl g17 h2_2]]⟩),(g18,⟨false,g19,h3⟩),(g20,⟨true,[],[.agg [.snil,.snil,.snil]]⟩),(g21,⟨true,[],[.agg [.own g22,.own g23,.own g24]]⟩)]⟩=>bif ctsEq g0 ([.int .i64,.int .i64]) && nmEq g1 ([0,2]) && Nat.beq g2 0 && Nat.beq g3 0 && nmEq g4 ([0,4]) && Nat.beq g5 0 && Nat.beq g6 0 && nmEq g7 ([0,6]) && Nat.beq g8 0 && Nat.beq g9 0 && nmEq g10 ([0,0,6]) && ctsEq g11 ([.int .i64]) && nmEq g12 ([0,1,6]) && ctsEq g13 ([.int .i64]) && nmEq g14 ([0,2]) && ctsEq g15 ([.int .i64]) && ctsEq g16 ([.int .i64]) && ctsEq g17 ([.int .i64,.int .i64]) && nmEq g18 ([0,2,6]) && ctsEq g19 ([.int .i64,.int .i64]) && nmEq g20 ([0,4]) && nmEq g21 ([0,6]) && nmEq g22 ([0,0,6]) && nmEq g23 ([0,1,6]) && nmEq g24 ([0,2,6]) then ro (runW (R106_0 t1 h2_0 h2_1 h2_2 h3) (((t1.length:Int) - t7:Int).toNat+1) (t7,h0,h1)) none (K106_0 h2_0 h2_1 h2_2 h3 k) else none
 | _=>none
noncomputable def c106:Cfg:=cfg Tryz.prog [(106,0,[1,2,4,6,7]),(106,999,[4,5]),(106,1000,[4,6]),(106,1001,[1,2,4,6,7])] [(28,m28),(56,m56)] [(86,.w m86)] [] [(106,0,l106_0)]
theorem s106_0 (ce:CallE) (t1:List AV) (t7:Int) (h0 h1 h2_0 h2_1 h2_2 h3:List AV) (next:St→Option AV) (k:Kont):stepA (codeA c106 ce [] 106 0 (sub [1,1,1,0,1,0,0] (body Tryz.f106))) (normA [] [1,2,4,6,7]) next ⟨[(1,AV.sl [.int .i64,.int .i64] t1),(2,AV.ptr [0,2] 0 0),(4,AV.ptr [0,4] 0 0),(6,AV.ptr [0,6] 0 0),(7,Ai t7)],[([0,0,6],⟨false,[.int .i64],h0⟩),([0,1,6],⟨false,[.int .i64],h1⟩),([0,2],⟨true,[],[AV.agg [AV.sl [.int .i64] h2_0,AV.sl [.int .i64] h2_1,AV.sl [.int .i64,.int .i64] h2_2]]⟩),([0,2,6],⟨false,[.int .i64,.int .i64],h3⟩),([0,4],⟨true,[],[AV.agg [AV.snil,AV.snil,AV.snil]]⟩),([0,6],⟨true,[],[AV.agg [AV.own [0,0,6],AV.own [0,1,6],AV.own [0,2,6]]]⟩)]⟩ k=(bif decide (t7<(t1.length:Int)) then (bif (decide (0≤t7) && decide (t7<(t1.length:Int))) then (bif (decide (0≤t7) && decide (t7<(t1.length:Int))) then (bif !(v28_0 (fI (t1.getD t7.toNat .undef) 0) 0 (IntKind.i64.wrap ((h0.length:Int) - 1))) then (bif q56 h2_0 h2_1 h2_2 then k .ret ⟨[(4,AV.ptr [0,4] 0 0),(5,AV.bool false)],[([0,0,6],⟨false,[.int .i64],h0⟩),([0,1,6],⟨false,[.int .i64],h1⟩),([0,1,53],⟨false,[.int .i64],(v56_0 h2_0 h2_1 h2_2)⟩),([0,2],⟨true,[],[AV.agg [AV.sl [.int .i64] h2_0,AV.sl [.int .i64] h2_1,AV.sl [.int .i64,.int .i64] h2_2]]⟩),([0,2,6],⟨false,[.int .i64,.int .i64],h3⟩),([0,4],⟨true,[],[AV.agg [AV.own [0,1,53],AV.own [1,1,53],AV.own [2,1,53]]]⟩),([0,6],⟨true,[],[AV.agg [AV.own [0,0,6],AV.own [0,1,6],AV.own [0,2,6]]]⟩),([1,1,53],⟨false,[.int .i64],(v56_1 h2_0 h2_1 h2_2)⟩),([2,1,53],⟨false,[.int .i64,.int .i64],(v56_2 h2_0 h2_1 h2_2)⟩)]⟩
 else none)
 else (bif !(v28_0 (fI (t1.getD t7.toNat .undef) 1) 0 (IntKind.i64.wrap ((h0.length:Int) - 1))) then (bif q56 h2_0 h2_1 h2_2 then k .ret ⟨[(4,AV.ptr [0,4] 0 0),(5,AV.bool false)],[([0,0,6],⟨false,[.int .i64],h0⟩),([0,1,6],⟨false,[.int .i64],h1⟩),([0,1,53],⟨false,[.int .i64],(v56_0 h2_0 h2_1 h2_2)⟩),([0,2],⟨true,[],[AV.agg [AV.sl [.int .i64] h2_0,AV.sl [.int .i64] h2_1,AV.sl [.int .i64,.int .i64] h2_2]]⟩),([0,2,6],⟨false,[.int .i64,.int .i64],h3⟩),([0,4],⟨true,[],[AV.agg [AV.own [0,1,53],AV.own [1,1,53],AV.own [2,1,53]]]⟩),([0,6],⟨true,[],[AV.agg [AV.own [0,0,6],AV.own [0,1,6],AV.own [0,2,6]]]⟩),([1,1,53],⟨false,[.int .i64],(v56_1 h2_0 h2_1 h2_2)⟩),([2,1,53],⟨false,[.int .i64,.int .i64],(v56_2 h2_0 h2_1 h2_2)⟩)]⟩
 else none)
 else (bif q86 (fI (t1.getD t7.toNat .undef) 0) (fI (t1.getD t7.toNat .undef) 1) h0 then (bif q86 (fI (t1.getD t7.toNat .undef) 0) (fI (t1.getD t7.toNat .undef) 1) h1 then next ⟨[(1,AV.sl [.int .i64,.int .i64] t1),(2,AV.ptr [0,2] 0 0),(4,AV.ptr [0,4] 0 0),(6,AV.ptr [0,6] 0 0),(7,Ai (IntKind.i64.wrap (t7+1)))],[([0,0,6],⟨false,[.int .i64],(v86_0 (fI (t1.getD t7.toNat .undef) 0) (fI (t1.getD t7.toNat .undef) 1) h0)⟩),([0,1,6],⟨false,[.int .i64],(v86_0 (fI (t1.getD t7.toNat .undef) 0) (fI (t1.getD t7.toNat .undef) 1) h1)⟩),([0,2],⟨true,[],[AV.agg [AV.sl [.int .i64] h2_0,AV.sl [.int .i64] h2_1,AV.sl [.int .i64,.int .i64] h2_2]]⟩),([0,2,6],⟨false,[.int .i64,.int .i64],h3⟩),([0,4],⟨true,[],[AV.agg [AV.snil,AV.snil,AV.snil]]⟩),([0,6],⟨true,[],[AV.agg [AV.own [0,0,6],AV.own [0,1,6],AV.own [0,2,6]]]⟩)]⟩
 else none)
 else none)))
 else none)
 else none)
 else k (.exit 0) ⟨[(4,AV.ptr [0,4] 0 0),(6,AV.ptr [0,6] 0 0)],[([0,0,6],⟨false,[.int .i64],h0⟩),([0,1,6],⟨false,[.int .i64],h1⟩),([0,2],⟨true,[],[AV.agg [AV.sl [.int .i64] h2_0,AV.sl [.int .i64] h2_1,AV.sl [.int .i64,.int .i64] h2_2]]⟩),([0,2,6],⟨false,[.int .i64,.int .i64],h3⟩),([0,4],⟨true,[],[AV.agg [AV.snil,AV.snil,AV.snil]]⟩),([0,6],⟨true,[],[AV.agg [AV.own [0,0,6],AV.own [0,1,6],AV.own [0,2,6]]]⟩)]⟩):=by kernel_rfl
theorem st106_0 (t1 h2_0 h2_1 h2_2 h3:List AV) (ce:CallE) (k:Kont) (s:(Int × (List AV) × (List AV))) (next:St→Option AV):stepA (codeA c106 ce [] 106 0 (sub [1,1,1,0,1,0,0] (body Tryz.f106))) (normA [] [1,2,4,6,7]) next ((E106_0 t1 h2_0 h2_1 h2_2 h3) s) k=(R106_0 t1 h2_0 h2_1 h2_2 h3 s).el none (fun s=>next ((E106_0 t1 h2_0 h2_1 h2_2 h3) s)) (K106_0 h2_0 h2_1 h2_2 h3 k):=(s106_0 ce t1 s.1 s.2.1 s.2.2 h2_0 h2_1 h2_2 h3 next k).trans (by unfold R106_0;unfold F106_0;simp only [el_cond,el_ro,el_sum,el_fail,el_next,el_stop] <;> rfl)
theorem ok106_0 {ce:CallE}:LoopOK c106 ce [] 106 0 (sub [1,1,1,0,1,0,0] (body Tryz.f106)):=by
 intro m hm st k r h
 obtain rfl:l106_0=m:=Option.some.inj hm
 unfold l106_0 at h
 split at h
 ·rename_i g0 t1 g1 g2 g3 g4 g5 g6 g7 g8 g9 t7 g10 g11 h0 g12 g13 h1 g14 g15 h2_0 g16 h2_1 g17 h2_2 g18 g19 h3 g20 g21 g22 g23 g24
  obtain ⟨hg,h⟩:=bif_some h
  simp only [Bool.and_eq_true] at hg
  obtain ⟨⟨⟨⟨⟨⟨⟨⟨⟨⟨⟨⟨⟨⟨⟨⟨⟨⟨⟨⟨⟨⟨⟨⟨q0,q1⟩,q2⟩,q3⟩,q4⟩,q5⟩,q6⟩,q7⟩,q8⟩,q9⟩,q10⟩,q11⟩,q12⟩,q13⟩,q14⟩,q15⟩,q16⟩,q17⟩,q18⟩,q19⟩,q20⟩,q21⟩,q22⟩,q23⟩,q24⟩:=hg
  obtain rfl:=ctsEq_eq _ _ q0
  obtain rfl:=(nmEq_iff _ _).1 q1
  obtain rfl:=Nat.eq_of_beq_eq_true q2
  obtain rfl:=Nat.eq_of_beq_eq_true q3
  obtain rfl:=(nmEq_iff _ _).1 q4
  obtain rfl:=Nat.eq_of_beq_eq_true q5
  obtain rfl:=Nat.eq_of_beq_eq_true q6
  obtain rfl:=(nmEq_iff _ _).1 q7
  obtain rfl:=Nat.eq_of_beq_eq_true q8
  obtain rfl:=Nat.eq_of_beq_eq_true q9
  obtain rfl:=(nmEq_iff _ _).1 q10
  obtain rfl:=ctsEq_eq _ _ q11
  obtain rfl:=(nmEq_iff _ _).1 q12
  obtain rfl:=ctsEq_eq _ _ q13
  obtain rfl:=(nmEq_iff _ _).1 q14
  obtain rfl:=ctsEq_eq _ _ q15
  obtain rfl:=ctsEq_eq _ _ q16
  obtain rfl:=ctsEq_eq _ _ q17
  obtain rfl:=(nmEq_iff _ _).1 q18
  obtain rfl:=ctsEq_eq _ _ q19
  obtain rfl:=(nmEq_iff _ _).1 q20
  obtain rfl:=(nmEq_iff _ _).1 q21
  obtain rfl:=(nmEq_iff _ _).1 q22
  obtain rfl:=(nmEq_iff _ _).1 q23
  obtain rfl:=(nmEq_iff _ _).1 q24
  refine ⟨(((t1.length:Int) - t7:Int).toNat+1),?_⟩
  rw [← h]
  exact loop_run (E106_0 t1 h2_0 h2_1 h2_2 h3) (K106_0 h2_0 h2_1 h2_2 h3 k) (st106_0 t1 h2_0 h2_1 h2_2 h3 ce k) _ (t7,h0,h1)
 ·cases h
def q106 (xa xb xc a1:List AV):Bool:=(q56 xa xb xc && (bif !decide (((v56_1 xa xb xc).length:Int)=((v56_0 xa xb xc).length:Int)) then true else (ro (runW (R106_0 a1 xa xb xc (v56_2 xa xb xc)) (((a1.length:Int) - 0:Int).toNat+1) (0,(v56_0 xa xb xc),(v56_1 xa xb xc))) false (sumE (fun p27=>true) (fun p28=>true)))))
def v106_0 (xa xb xc a1:List AV):List AV:=(bif !decide (((v56_1 xa xb xc).length:Int)=((v56_0 xa xb xc).length:Int)) then (v56_0 xa xb xc) else (ro (runW (R106_0 a1 xa xb xc (v56_2 xa xb xc)) (((a1.length:Int) - 0:Int).toNat+1) (0,(v56_0 xa xb xc),(v56_1 xa xb xc))) [] (sumE (fun p27=>p27.1) (fun p28=>p28.2.2.1))))
def v106_1 (xa xb xc a1:List AV):List AV:=(bif !decide (((v56_1 xa xb xc).length:Int)=((v56_0 xa xb xc).length:Int)) then (v56_1 xa xb xc) else (ro (runW (R106_0 a1 xa xb xc (v56_2 xa xb xc)) (((a1.length:Int) - 0:Int).toNat+1) (0,(v56_0 xa xb xc),(v56_1 xa xb xc))) [] (sumE (fun p27=>p27.2) (fun p28=>p28.2.2.2.1))))
def v106_2 (xa xb xc a1:List AV):List AV:=(bif !decide (((v56_1 xa xb xc).length:Int)=((v56_0 xa xb xc).length:Int)) then (v56_2 xa xb xc) else (ro (runW (R106_0 a1 xa xb xc (v56_2 xa xb xc)) (((a1.length:Int) - 0:Int).toNat+1) (0,(v56_0 xa xb xc),(v56_1 xa xb xc))) [] (sumE (fun p27=>(v56_2 xa xb xc)) (fun p28=>p28.2.2.2.2))))
def v106_3 (xa xb xc a1:List AV):Bool:=(bif !decide (((v56_1 xa xb xc).length:Int)=((v56_0 xa xb xc).length:Int)) then false else (ro (runW (R106_0 a1 xa xb xc (v56_2 xa xb xc)) (((a1.length:Int) - 0:Int).toNat+1) (0,(v56_0 xa xb xc),(v56_1 xa xb xc))) false (sumE (fun p27=>true) (fun p28=>false))))
theorem e106 (xa xb xc a1:List AV):funA c106 0 106 [AV.agg [AV.sl [.int .i64] xa,AV.sl [.int .i64] xb,AV.sl [.int .i64,.int .i64] xc],AV.sl [.int .i64,.int .i64] a1]=(bif q56 xa xb xc then (bif !decide (((v56_1 xa xb xc).length:Int)=((v56_0 xa xb xc).length:Int)) then some (AV.tup [AV.agg [AV.fl [.int .i64] (v56_0 xa xb xc),AV.fl [.int .i64] (v56_1 xa xb xc),AV.fl [.int .i64,.int .i64] (v56_2 xa xb xc)],AV.bool false])
 else (ro (runW (R106_0 a1 xa xb xc (v56_2 xa xb xc)) (((a1.length:Int) - 0:Int).toNat+1) (0,(v56_0 xa xb xc),(v56_1 xa xb xc))) none (sumE (fun p27=>some (AV.tup [AV.agg [AV.fl [.int .i64] p27.1,AV.fl [.int .i64] p27.2,AV.fl [.int .i64,.int .i64] (v56_2 xa xb xc)],AV.bool true])) (fun p28=>some (AV.tup [AV.agg [AV.fl [.int .i64] p28.2.2.1,AV.fl [.int .i64] p28.2.2.2.1,AV.fl [.int .i64,.int .i64] p28.2.2.2.2],AV.bool false])))))
 else none):=by kernel_rfl
def m106:TModel
 | [.agg [.sl g0 xa,.sl g1 xb,.sl g2 xc],.sl g3 a1]=>bif ctsEq g0 ([.int .i64]) && ctsEq g1 ([.int .i64]) && ctsEq g2 ([.int .i64,.int .i64]) && ctsEq g3 ([.int .i64,.int .i64]) then some (q106 xa xb xc a1,AV.tup [AV.agg [AV.fl [.int .i64] (v106_0 xa xb xc a1),AV.fl [.int .i64] (v106_1 xa xb xc a1),AV.fl [.int .i64,.int .i64] (v106_2 xa xb xc a1)],AV.bool (v106_3 xa xb xc a1)]) else none
 | _=>none
theorem k106:Known Tryz.prog 106:=⟨Tryz.f106,Tryz.func106,by kernel_rfl,by kernel_rfl⟩
theorem meets106:Meets Tryz.prog 106 m106:=by
 refine meet (f:=Tryz.f106) (l:=[(0,sub [1,1,1,0,1,0,0] (body Tryz.f106))]) (hs:=[(106,0,[1,2,4,6,7]),(106,999,[4,5]),(106,1000,[4,6]),(106,1001,[1,2,4,6,7])]) (ts:=[(28,m28),(56,m56)]) (ws:=[(86,.w m86)]) (is:=[]) (ls:=[(106,0,l106_0)]) (lvl:=0) mixed k106 Tryz.func106 (by kernel_rfl) (loops_cons ok106_0 noLoop) (allT_cons meets28 (allT_cons meets56 allT_nil)) (allM_cons meets86 allM_nil) noI fun w xs us r hl hv h=>?_
 unfold m106 at h
 split at h
 ·rename_i g0 xa g1 xb g2 xc g3 a1
  obtain ⟨hg,h⟩:=bif_pair h
  simp only [Bool.and_eq_true] at hg
  obtain ⟨⟨⟨q0,q1⟩,q2⟩,q3⟩:=hg
  obtain rfl:=ctsEq_eq _ _ q0
  obtain rfl:=ctsEq_eq _ _ q1
  obtain rfl:=ctsEq_eq _ _ q2
  obtain rfl:=ctsEq_eq _ _ q3
  obtain ⟨h1,rfl⟩:=pair_inj h
  exact (e106 xa xb xc a1).trans ((brL (br (fun b=>some (AV.tup [AV.agg [AV.fl [.int .i64] (bif b then (v56_0 xa xb xc) else (ro (runW (R106_0 a1 xa xb xc (v56_2 xa xb xc)) (((a1.length:Int) - 0:Int).toNat+1) (0,(v56_0 xa xb xc),(v56_1 xa xb xc))) [] (sumE (fun p27=>p27.1) (fun p28=>p28.2.2.1)))),AV.fl [.int .i64] (bif b then (v56_1 xa xb xc) else (ro (runW (R106_0 a1 xa xb xc (v56_2 xa xb xc)) (((a1.length:Int) - 0:Int).toNat+1) (0,(v56_0 xa xb xc),(v56_1 xa xb xc))) [] (sumE (fun p27=>p27.2) (fun p28=>p28.2.2.2.1)))),AV.fl [.int .i64,.int .i64] (bif b then (v56_2 xa xb xc) else (ro (runW (R106_0 a1 xa xb xc (v56_2 xa xb xc)) (((a1.length:Int) - 0:Int).toNat+1) (0,(v56_0 xa xb xc),(v56_1 xa xb xc))) [] (sumE (fun p27=>(v56_2 xa xb xc)) (fun p28=>p28.2.2.2.2))))],AV.bool (bif b then false else (ro (runW (R106_0 a1 xa xb xc (v56_2 xa xb xc)) (((a1.length:Int) - 0:Int).toNat+1) (0,(v56_0 xa xb xc),(v56_1 xa xb xc))) false (sumE (fun p27=>true) (fun p28=>false))))])) (fun _=>rfl) (brO (fun o:Option (((List AV) × (List AV)) ⊕ ((List AV) × (List AV) × (List AV) × (List AV) × (List AV)))=>some (AV.tup [AV.agg [AV.fl [.int .i64] (ro o [] (sumE (fun p27=>p27.1) (fun p28=>p28.2.2.1))),AV.fl [.int .i64] (ro o [] (sumE (fun p27=>p27.2) (fun p28=>p28.2.2.2.1))),AV.fl [.int .i64,.int .i64] (ro o [] (sumE (fun p27=>(v56_2 xa xb xc)) (fun p28=>p28.2.2.2.2)))],AV.bool (ro o false (sumE (fun p27=>true) (fun p28=>false)))])) (brS (fun o:((List AV) × (List AV)) ⊕ ((List AV) × (List AV) × (List AV) × (List AV) × (List AV))=>some (AV.tup [AV.agg [AV.fl [.int .i64] ((sumE (fun p27=>p27.1) (fun p28=>p28.2.2.1)) o),AV.fl [.int .i64] ((sumE (fun p27=>p27.2) (fun p28=>p28.2.2.2.1)) o),AV.fl [.int .i64,.int .i64] ((sumE (fun p27=>(v56_2 xa xb xc)) (fun p28=>p28.2.2.2.2)) o)],AV.bool ((sumE (fun p27=>true) (fun p28=>false)) o)])) (fun p27=>(fun _=>rfl)) (fun p28=>(fun _=>rfl)))))) h1)
 ·cases h
def F107_0 (h0 h1 h2_0 h2_1 h2_2:List AV) (h4_0 h4_1:Int) (t7:Bool) (t8:Int) (h3:List AV):Out ((Bool × Int × (List AV))) ((Bool × (List AV))):=(bif decide (t8<(h2_2.length:Int)) then (bif !t7 then (bif (decide (0≤t8) && decide (t8<(h2_2.length:Int))) then (bif decide (fI (h2_2.getD t8.toNat .undef) 0 > h4_0) then (bif (decide ((h3.length+([AV.agg [AV.int .i64 h4_0,AV.int .i64 h4_1]]).length)*16≤140737488355328) && decide ((h3.length+([AV.agg [AV.int .i64 h4_0,AV.int .i64 h4_1]]).length)≤140737488355328)) then (bif (decide (0≤t8) && decide (t8<(h2_2.length:Int))) then (bif (decide (((h3++([AV.agg [AV.int .i64 h4_0,AV.int .i64 h4_1]])).length+([AV.agg [AV.int .i64 (fI (h2_2.getD t8.toNat .undef) 0),AV.int .i64 (fI (h2_2.getD t8.toNat .undef) 1)]]).length)*16≤140737488355328) && decide (((h3++([AV.agg [AV.int .i64 h4_0,AV.int .i64 h4_1]])).length+([AV.agg [AV.int .i64 (fI (h2_2.getD t8.toNat .undef) 0),AV.int .i64 (fI (h2_2.getD t8.toNat .undef) 1)]]).length)≤140737488355328)) then .next (true,IntKind.i64.wrap (t8+1),(h3++([AV.agg [AV.int .i64 h4_0,AV.int .i64 h4_1]]))++([AV.agg [AV.int .i64 (fI (h2_2.getD t8.toNat .undef) 0),AV.int .i64 (fI (h2_2.getD t8.toNat .undef) 1)]]))
 else .fail)
 else .fail)
 else .fail)
 else (bif (decide (0≤t8) && decide (t8<(h2_2.length:Int))) then (bif (decide ((h3.length+([AV.agg [AV.int .i64 (fI (h2_2.getD t8.toNat .undef) 0),AV.int .i64 (fI (h2_2.getD t8.toNat .undef) 1)]]).length)*16≤140737488355328) && decide ((h3.length+([AV.agg [AV.int .i64 (fI (h2_2.getD t8.toNat .undef) 0),AV.int .i64 (fI (h2_2.getD t8.toNat .undef) 1)]]).length)≤140737488355328)) then .next (t7,IntKind.i64.wrap (t8+1),h3++([AV.agg [AV.int .i64 (fI (h2_2.getD t8.toNat .undef) 0),AV.int .i64 (fI (h2_2.getD t8.toNat .undef) 1)]]))
 else .fail)
 else .fail))
 else .fail)
 else (bif (decide (0≤t8) && decide (t8<(h2_2.length:Int))) then (bif (decide ((h3.length+([AV.agg [AV.int .i64 (fI (h2_2.getD t8.toNat .undef) 0),AV.int .i64 (fI (h2_2.getD t8.toNat .undef) 1)]]).length)*16≤140737488355328) && decide ((h3.length+([AV.agg [AV.int .i64 (fI (h2_2.getD t8.toNat .undef) 0),AV.int .i64 (fI (h2_2.getD t8.toNat .undef) 1)]]).length)≤140737488355328)) then .next (t7,IntKind.i64.wrap (t8+1),h3++([AV.agg [AV.int .i64 (fI (h2_2.getD t8.toNat .undef) 0),AV.int .i64 (fI (h2_2.getD t8.toNat .undef) 1)]]))
 else .fail)
 else .fail))
 else .stop (t7,h3))
def R107_0 (h0 h1 h2_0 h2_1 h2_2:List AV) (h4_0 h4_1:Int):((Bool × Int × (List AV)))→Out ((Bool × Int × (List AV))) ((Bool × (List AV))):=fun s:Bool × Int × (List AV)=>F107_0 h0 h1 h2_0 h2_1 h2_2 h4_0 h4_1 s.1 s.2.1 s.2.2
def E107_0 (h0 h1 h2_0 h2_1 h2_2:List AV) (h4_0 h4_1:Int):((Bool × Int × (List AV)))→St:=fun s:Bool × Int × (List AV)=>⟨[(2,AV.ptr [0,2] 0 0),(3,AV.ptr [0,3] 0 0),(4,AV.ptr [0,4] 0 0),(6,AV.ptr [0,6] 0 0),(7,AV.bool s.1),(8,Ai s.2.1)],[([0,0,6],⟨false,[.int .i64],h0⟩),([0,1,6],⟨false,[.int .i64],h1⟩),([0,2],⟨true,[],[AV.agg [AV.sl [.int .i64] h2_0,AV.sl [.int .i64] h2_1,AV.sl [.int .i64,.int .i64] h2_2]]⟩),([0,2,6],⟨false,[.int .i64,.int .i64],s.2.2⟩),([0,3],⟨true,[],[AV.agg [Ai h4_0,Ai h4_1]]⟩),([0,4],⟨true,[],[AV.agg [AV.snil,AV.snil,AV.snil]]⟩),([0,6],⟨true,[],[AV.agg [AV.own [0,0,6],AV.own [0,1,6],AV.own [0,2,6]]]⟩)]⟩
def K107_0 (h0 h1 h2_0 h2_1 h2_2:List AV) (h4_0 h4_1:Int) (k:Kont):((Bool × (List AV)))→Option AV:=fun p:Bool × (List AV)=>k (.exit 0) ⟨[(2,AV.ptr [0,2] 0 0),(3,AV.ptr [0,3] 0 0),(4,AV.ptr [0,4] 0 0),(6,AV.ptr [0,6] 0 0),(7,AV.bool p.1)],[([0,0,6],⟨false,[.int .i64],h0⟩),([0,1,6],⟨false,[.int .i64],h1⟩),([0,2],⟨true,[],[AV.agg [AV.sl [.int .i64] h2_0,AV.sl [.int .i64] h2_1,AV.sl [.int .i64,.int .i64] h2_2]]⟩),([0,2,6],⟨false,[.int .i64,.int .i64],p.2⟩),([0,3],⟨true,[],[AV.agg [Ai h4_0,Ai h4_1]]⟩),([0,4],⟨true,[],[AV.agg [AV.snil,AV.snil,AV.snil]]⟩),([0,6],⟨true,[],[AV.agg [AV.own [0,0,6],AV.own [0,1,6],AV.own [0,2,6]]]⟩)]⟩
def l107_0:LModel:=fun _ _ st k=>match st with
 | ⟨[(2,.ptr g0 g1 g2),(3,.ptr g3 g4 g5),(4,.ptr g6 g7 g8),(6,.ptr g9 g10 g11),(7,.bool t7),(8,.int .i64 t8)],[(g12,⟨false,g13,h0⟩),(g14,⟨false,g15,h1⟩),(g16,⟨true,[],[.agg [.sl g17 h2_0,.sl g18 h2_1,.sl g19 h2_2]]⟩),(g20,⟨false,g21,h3⟩),(g22,⟨true,[],[.agg [.int .i64 h4_0,.int .i64 h4_1]]⟩),(g23,⟨true,[],[.agg [.snil,.snil,.snil]]⟩),(g24,⟨true,[],[.agg [.own g25,.own g26,.own g27]]⟩)]⟩=>bif nmEq g0 ([0,2]) && Nat.beq g1 0 && Nat.beq g2 0 && nmEq g3 ([0,3]) && Nat.beq g4 0 && Nat.beq g5 0 && nmEq g6 ([0,4]) && Nat.beq g7 0 && Nat.beq g8 0 && nmEq g9 ([0,6]) && Nat.beq g10 0 && Nat.beq g11 0 && nmEq g12 ([0,0,6]) && ctsEq g13 ([.int .i64]) && nmEq g14 ([0,1,6]) && ctsEq g15 ([.int .i64]) && nmEq g16 ([0,2]) && ctsEq g17 ([.int .i64]) && ctsEq g18 ([.int .i64]) && ctsEq g19 ([.int .i64,.int .i64]) && nmEq g20 ([0,2,6]) && ctsEq g21 ([.int .i64,.int .i64]) && nmEq g22 ([0,3]) && nmEq g23 ([0,4]) && nmEq g24 ([0,6]) && nmEq g25 ([0,0,6]) && nmEq g26 ([0,1,6]) && nmEq g27 ([0,2,6]) then ro (runW (R107_0 h0 h1 h2_0 h2_1 h2_2 h4_0 h4_1) (((h2_2.length:Int) - t8:Int).toNat+1) (t7,t8,h3)) none (K107_0 h0 h1 h2_0 h2_1 h2_2 h4_0 h4_1 k) else none
 | _=>none
noncomputable def c107:Cfg:=cfg Tryz.prog [(107,0,[2,3,4,6,7,8]),(107,999,[4,5]),(107,1000,[2,3,4,6,7]),(107,1001,[2,3,4,6,7,8])] [(53,m53),(56,m56)] [] [] [(107,0,l107_0)]
theorem s107_0 (ce:CallE) (t7:Bool) (t8:Int) (h0 h1 h2_0 h2_1 h2_2 h3:List AV) (h4_0 h4_1:Int) (next:St→Option AV) (k:Kont):stepA (codeA c107 ce [] 107 0 (sub [1,1,1,1,0,1,0,0] (body Tryz.f107))) (normA [] [2,3,4,6,7,8]) next ⟨[(2,AV.ptr [0,2] 0 0),(3,AV.ptr [0,3] 0 0),(4,AV.ptr [0,4] 0 0),(6,AV.ptr [0,6] 0 0),(7,AV.bool t7),(8,Ai t8)],[([0,0,6],⟨false,[.int .i64],h0⟩),([0,1,6],⟨false,[.int .i64],h1⟩),([0,2],⟨true,[],[AV.agg [AV.sl [.int .i64] h2_0,AV.sl [.int .i64] h2_1,AV.sl [.int .i64,.int .i64] h2_2]]⟩),([0,2,6],⟨false,[.int .i64,.int .i64],h3⟩),([0,3],⟨true,[],[AV.agg [Ai h4_0,Ai h4_1]]⟩),([0,4],⟨true,[],[AV.agg [AV.snil,AV.snil,AV.snil]]⟩),([0,6],⟨true,[],[AV.agg [AV.own [0,0,6],AV.own [0,1,6],AV.own [0,2,6]]]⟩)]⟩ k=(bif decide (t8<(h2_2.length:Int)) then (bif !t7 then (bif (decide (0≤t8) && decide (t8<(h2_2.length:Int))) then (bif decide (fI (h2_2.getD t8.toNat .undef) 0 > h4_0) then (bif (decide ((h3.length+([AV.agg [Ai h4_0,Ai h4_1]]).length)*16≤140737488355328) && decide ((h3.length+([AV.agg [Ai h4_0,Ai h4_1]]).length)≤140737488355328)) then (bif (decide (0≤t8) && decide (t8<(h2_2.length:Int))) then (bif (decide (((h3++([AV.agg [Ai h4_0,Ai h4_1]])).length+([AV.agg [Ai (fI (h2_2.getD t8.toNat .undef) 0),Ai (fI (h2_2.getD t8.toNat .undef) 1)]]).length)*16≤140737488355328) && decide (((h3++([AV.agg [Ai h4_0,Ai h4_1]])).length+([AV.agg [Ai (fI (h2_2.getD t8.toNat .undef) 0),Ai (fI (h2_2.getD t8.toNat .undef) 1)]]).length)≤140737488355328)) then next ⟨[(2,AV.ptr [0,2] 0 0),(3,AV.ptr [0,3] 0 0),(4,AV.ptr [0,4] 0 0),(6,AV.ptr [0,6] 0 0),(7,AV.bool true),(8,Ai (IntKind.i64.wrap (t8+1)))],[([0,0,6],⟨false,[.int .i64],h0⟩),([0,1,6],⟨false,[.int .i64],h1⟩),([0,2],⟨true,[],[AV.agg [AV.sl [.int .i64] h2_0,AV.sl [.int .i64] h2_1,AV.sl [.int .i64,.int .i64] h2_2]]⟩),([0,2,6],⟨false,[.int .i64,.int .i64],(h3++([AV.agg [Ai h4_0,Ai h4_1]]))++([AV.agg [Ai (fI (h2_2.getD t8.toNat .undef) 0),Ai (fI (h2_2.getD t8.toNat .undef) 1)]])⟩),([0,3],⟨true,[],[AV.agg [Ai h4_0,Ai h4_1]]⟩),([0,4],⟨true,[],[AV.agg [AV.snil,AV.snil,AV.snil]]⟩),([0,6],⟨true,[],[AV.agg [AV.own [0,0,6],AV.own [0,1,6],AV.own [0,2,6]]]⟩)]⟩
 else none)
 else none)
 else none)
 else (bif (decide (0≤t8) && decide (t8<(h2_2.length:Int))) then (bif (decide ((h3.length+([AV.agg [Ai (fI (h2_2.getD t8.toNat .undef) 0),Ai (fI (h2_2.getD t8.toNat .undef) 1)]]).length)*16≤140737488355328) && decide ((h3.length+([AV.agg [Ai (fI (h2_2.getD t8.toNat .undef) 0),Ai (fI (h2_2.getD t8.toNat .undef) 1)]]).length)≤140737488355328)) then next ⟨[(2,AV.ptr [0,2] 0 0),(3,AV.ptr [0,3] 0 0),(4,AV.ptr [0,4] 0 0),(6,AV.ptr [0,6] 0 0),(7,AV.bool t7),(8,Ai (IntKind.i64.wrap (t8+1)))],[([0,0,6],⟨false,[.int .i64],h0⟩),([0,1,6],⟨false,[.int .i64],h1⟩),([0,2],⟨true,[],[AV.agg [AV.sl [.int .i64] h2_0,AV.sl [.int .i64] h2_1,AV.sl [.int .i64,.int .i64] h2_2]]⟩),([0,2,6],⟨false,[.int .i64,.int .i64],h3++([AV.agg [Ai (fI (h2_2.getD t8.toNat .undef) 0),Ai (fI (h2_2.getD t8.toNat .undef) 1)]])⟩),([0,3],⟨true,[],[AV.agg [Ai h4_0,Ai h4_1]]⟩),([0,4],⟨true,[],[AV.agg [AV.snil,AV.snil,AV.snil]]⟩),([0,6],⟨true,[],[AV.agg [AV.own [0,0,6],AV.own [0,1,6],AV.own [0,2,6]]]⟩)]⟩
 else none)
 else none))
 else none)
 else (bif (decide (0≤t8) && decide (t8<(h2_2.length:Int))) then (bif (decide ((h3.length+([AV.agg [Ai (fI (h2_2.getD t8.toNat .undef) 0),Ai (fI (h2_2.getD t8.toNat .undef) 1)]]).length)*16≤140737488355328) && decide ((h3.length+([AV.agg [Ai (fI (h2_2.getD t8.toNat .undef) 0),Ai (fI (h2_2.getD t8.toNat .undef) 1)]]).length)≤140737488355328)) then next ⟨[(2,AV.ptr [0,2] 0 0),(3,AV.ptr [0,3] 0 0),(4,AV.ptr [0,4] 0 0),(6,AV.ptr [0,6] 0 0),(7,AV.bool t7),(8,Ai (IntKind.i64.wrap (t8+1)))],[([0,0,6],⟨false,[.int .i64],h0⟩),([0,1,6],⟨false,[.int .i64],h1⟩),([0,2],⟨true,[],[AV.agg [AV.sl [.int .i64] h2_0,AV.sl [.int .i64] h2_1,AV.sl [.int .i64,.int .i64] h2_2]]⟩),([0,2,6],⟨false,[.int .i64,.int .i64],h3++([AV.agg [Ai (fI (h2_2.getD t8.toNat .undef) 0),Ai (fI (h2_2.getD t8.toNat .undef) 1)]])⟩),([0,3],⟨true,[],[AV.agg [Ai h4_0,Ai h4_1]]⟩),([0,4],⟨true,[],[AV.agg [AV.snil,AV.snil,AV.snil]]⟩),([0,6],⟨true,[],[AV.agg [AV.own [0,0,6],AV.own [0,1,6],AV.own [0,2,6]]]⟩)]⟩
 else none)
 else none))
 else k (.exit 0) ⟨[(2,AV.ptr [0,2] 0 0),(3,AV.ptr [0,3] 0 0),(4,AV.ptr [0,4] 0 0),(6,AV.ptr [0,6] 0 0),(7,AV.bool t7)],[([0,0,6],⟨false,[.int .i64],h0⟩),([0,1,6],⟨false,[.int .i64],h1⟩),([0,2],⟨true,[],[AV.agg [AV.sl [.int .i64] h2_0,AV.sl [.int .i64] h2_1,AV.sl [.int .i64,.int .i64] h2_2]]⟩),([0,2,6],⟨false,[.int .i64,.int .i64],h3⟩),([0,3],⟨true,[],[AV.agg [Ai h4_0,Ai h4_1]]⟩),([0,4],⟨true,[],[AV.agg [AV.snil,AV.snil,AV.snil]]⟩),([0,6],⟨true,[],[AV.agg [AV.own [0,0,6],AV.own [0,1,6],AV.own [0,2,6]]]⟩)]⟩):=by kernel_rfl
theorem st107_0 (h0 h1 h2_0 h2_1 h2_2:List AV) (h4_0 h4_1:Int) (ce:CallE) (k:Kont) (s:(Bool × Int × (List AV))) (next:St→Option AV):stepA (codeA c107 ce [] 107 0 (sub [1,1,1,1,0,1,0,0] (body Tryz.f107))) (normA [] [2,3,4,6,7,8]) next ((E107_0 h0 h1 h2_0 h2_1 h2_2 h4_0 h4_1) s) k=(R107_0 h0 h1 h2_0 h2_1 h2_2 h4_0 h4_1 s).el none (fun s=>next ((E107_0 h0 h1 h2_0 h2_1 h2_2 h4_0 h4_1) s)) (K107_0 h0 h1 h2_0 h2_1 h2_2 h4_0 h4_1 k):=(s107_0 ce s.1 s.2.1 h0 h1 h2_0 h2_1 h2_2 s.2.2 h4_0 h4_1 next k).trans (by unfold R107_0;unfold F107_0;simp only [el_cond,el_ro,el_sum,el_fail,el_next,el_stop] <;> rfl)
theorem ok107_0 {ce:CallE}:LoopOK c107 ce [] 107 0 (sub [1,1,1,1,0,1,0,0] (body Tryz.f107)):=by
 intro m hm st k r h
 obtain rfl:l107_0=m:=Option.some.inj hm
 unfold l107_0 at h
 split at h
 ·rename_i g0 g1 g2 g3 g4 g5 g6 g7 g8 g9 g10 g11 t7 t8 g12 g13 h0 g14 g15 h1 g16 g17 h2_0 g18 h2_1 g19 h2_2 g20 g21 h3 g22 h4_0 h4_1 g23 g24 g25 g26 g27
  obtain ⟨hg,h⟩:=bif_some h
  simp only [Bool.and_eq_true] at hg
  obtain ⟨⟨⟨⟨⟨⟨⟨⟨⟨⟨⟨⟨⟨⟨⟨⟨⟨⟨⟨⟨⟨⟨⟨⟨⟨⟨⟨q0,q1⟩,q2⟩,q3⟩,q4⟩,q5⟩,q6⟩,q7⟩,q8⟩,q9⟩,q10⟩,q11⟩,q12⟩,q13⟩,q14⟩,q15⟩,q16⟩,q17⟩,q18⟩,q19⟩,q20⟩,q21⟩,q22⟩,q23⟩,q24⟩,q25⟩,q26⟩,q27⟩:=hg
  obtain rfl:=(nmEq_iff _ _).1 q0
  obtain rfl:=Nat.eq_of_beq_eq_true q1
  obtain rfl:=Nat.eq_of_beq_eq_true q2
  obtain rfl:=(nmEq_iff _ _).1 q3
  obtain rfl:=Nat.eq_of_beq_eq_true q4
  obtain rfl:=Nat.eq_of_beq_eq_true q5
  obtain rfl:=(nmEq_iff _ _).1 q6
  obtain rfl:=Nat.eq_of_beq_eq_true q7
  obtain rfl:=Nat.eq_of_beq_eq_true q8
  obtain rfl:=(nmEq_iff _ _).1 q9
  obtain rfl:=Nat.eq_of_beq_eq_true q10
  obtain rfl:=Nat.eq_of_beq_eq_true q11
  obtain rfl:=(nmEq_iff _ _).1 q12
  obtain rfl:=ctsEq_eq _ _ q13
  obtain rfl:=(nmEq_iff _ _).1 q14
  obtain rfl:=ctsEq_eq _ _ q15
  obtain rfl:=(nmEq_iff _ _).1 q16
  obtain rfl:=ctsEq_eq _ _ q17
  obtain rfl:=ctsEq_eq _ _ q18
  obtain rfl:=ctsEq_eq _ _ q19
  obtain rfl:=(nmEq_iff _ _).1 q20
  obtain rfl:=ctsEq_eq _ _ q21
  obtain rfl:=(nmEq_iff _ _).1 q22
  obtain rfl:=(nmEq_iff _ _).1 q23
  obtain rfl:=(nmEq_iff _ _).1 q24
  obtain rfl:=(nmEq_iff _ _).1 q25
  obtain rfl:=(nmEq_iff _ _).1 q26
  obtain rfl:=(nmEq_iff _ _).1 q27
  refine ⟨(((h2_2.length:Int) - t8:Int).toNat+1),?_⟩
  rw [← h]
  exact loop_run (E107_0 h0 h1 h2_0 h2_1 h2_2 h4_0 h4_1) (K107_0 h0 h1 h2_0 h2_1 h2_2 h4_0 h4_1 k) (st107_0 h0 h1 h2_0 h2_1 h2_2 h4_0 h4_1 ce k) _ (t7,t8,h3)
 ·cases h
def q107 (xa xb xc:List AV) (ya yb:Int):Bool:=(q56 xa xb xc && (ro (runW (R107_0 (v56_0 xa xb xc) (v56_1 xa xb xc) xa xb xc ya yb) (((xc.length:Int) - 0:Int).toNat+1) (false,0,([]:List AV))) false (fun p29=>(bif !p29.1 then ((decide ((p29.2.length+([AV.agg [AV.int .i64 ya,AV.int .i64 yb]]).length)*16≤140737488355328) && decide ((p29.2.length+([AV.agg [AV.int .i64 ya,AV.int .i64 yb]]).length)≤140737488355328)) && (q53 xa xb xc && (bif !(v53_0 xa xb xc) then q56 xa xb xc else (q53 (v56_0 xa xb xc) (v56_1 xa xb xc) (p29.2++([AV.agg [AV.int .i64 ya,AV.int .i64 yb]])) && (bif !(v53_0 (v56_0 xa xb xc) (v56_1 xa xb xc) (p29.2++([AV.agg [AV.int .i64 ya,AV.int .i64 yb]]))) then q56 xa xb xc else true))))) else (q53 xa xb xc && (bif !(v53_0 xa xb xc) then q56 xa xb xc else (q53 (v56_0 xa xb xc) (v56_1 xa xb xc) p29.2 && (bif !(v53_0 (v56_0 xa xb xc) (v56_1 xa xb xc) p29.2) then q56 xa xb xc else true))))))))
def v107_0 (xa xb xc:List AV) (ya yb:Int):List AV:=(v56_0 xa xb xc)
def v107_1 (xa xb xc:List AV) (ya yb:Int):List AV:=(v56_1 xa xb xc)
def v107_2 (xa xb xc:List AV) (ya yb:Int):List AV:=(ro (runW (R107_0 (v56_0 xa xb xc) (v56_1 xa xb xc) xa xb xc ya yb) (((xc.length:Int) - 0:Int).toNat+1) (false,0,([]:List AV))) [] (fun p29=>(bif !p29.1 then (bif !(v53_0 xa xb xc) then (v56_2 xa xb xc) else (bif !(v53_0 (v56_0 xa xb xc) (v56_1 xa xb xc) (p29.2++([AV.agg [AV.int .i64 ya,AV.int .i64 yb]]))) then (v56_2 xa xb xc) else p29.2++([AV.agg [AV.int .i64 ya,AV.int .i64 yb]]))) else (bif !(v53_0 xa xb xc) then (v56_2 xa xb xc) else (bif !(v53_0 (v56_0 xa xb xc) (v56_1 xa xb xc) p29.2) then (v56_2 xa xb xc) else p29.2)))))
def v107_3 (xa xb xc:List AV) (ya yb:Int):Bool:=(ro (runW (R107_0 (v56_0 xa xb xc) (v56_1 xa xb xc) xa xb xc ya yb) (((xc.length:Int) - 0:Int).toNat+1) (false,0,([]:List AV))) false (fun p29=>(bif !p29.1 then (bif !(v53_0 xa xb xc) then false else (bif !(v53_0 (v56_0 xa xb xc) (v56_1 xa xb xc) (p29.2++([AV.agg [AV.int .i64 ya,AV.int .i64 yb]]))) then false else true)) else (bif !(v53_0 xa xb xc) then false else (bif !(v53_0 (v56_0 xa xb xc) (v56_1 xa xb xc) p29.2) then false else true)))))
theorem e107 (xa xb xc:List AV) (ya yb:Int):funA c107 0 107 [AV.agg [AV.sl [.int .i64] xa,AV.sl [.int .i64] xb,AV.sl [.int .i64,.int .i64] xc],AV.agg [Ai ya,Ai yb]]=(bif q56 xa xb xc then (ro (runW (R107_0 (v56_0 xa xb xc) (v56_1 xa xb xc) xa xb xc ya yb) (((xc.length:Int) - 0:Int).toNat+1) (false,0,([]:List AV))) none (fun p29=>(bif !p29.1 then (bif (decide ((p29.2.length+([AV.agg [Ai ya,Ai yb]]).length)*16≤140737488355328) && decide ((p29.2.length+([AV.agg [Ai ya,Ai yb]]).length)≤140737488355328)) then (bif q53 xa xb xc then (bif !(v53_0 xa xb xc) then (bif q56 xa xb xc then some (AV.tup [AV.agg [AV.fl [.int .i64] (v56_0 xa xb xc),AV.fl [.int .i64] (v56_1 xa xb xc),AV.fl [.int .i64,.int .i64] (v56_2 xa xb xc)],AV.bool false])
 else none)
 else (bif q53 (v56_0 xa xb xc) (v56_1 xa xb xc) (p29.2++([AV.agg [Ai ya,Ai yb]])) then (bif !(v53_0 (v56_0 xa xb xc) (v56_1 xa xb xc) (p29.2++([AV.agg [Ai ya,Ai yb]]))) then (bif q56 xa xb xc then some (AV.tup [AV.agg [AV.fl [.int .i64] (v56_0 xa xb xc),AV.fl [.int .i64] (v56_1 xa xb xc),AV.fl [.int .i64,.int .i64] (v56_2 xa xb xc)],AV.bool false])
 else none)
 else some (AV.tup [AV.agg [AV.fl [.int .i64] (v56_0 xa xb xc),AV.fl [.int .i64] (v56_1 xa xb xc),AV.fl [.int .i64,.int .i64] (p29.2++([AV.agg [Ai ya,Ai yb]]))],AV.bool true]))
 else none))
 else none)
 else none)
 else (bif q53 xa xb xc then (bif !(v53_0 xa xb xc) then (bif q56 xa xb xc then some (AV.tup [AV.agg [AV.fl [.int .i64] (v56_0 xa xb xc),AV.fl [.int .i64] (v56_1 xa xb xc),AV.fl [.int .i64,.int .i64] (v56_2 xa xb xc)],AV.bool false])
 else none)
 else (bif q53 (v56_0 xa xb xc) (v56_1 xa xb xc) p29.2 then (bif !(v53_0 (v56_0 xa xb xc) (v56_1 xa xb xc) p29.2) then (bif q56 xa xb xc then some (AV.tup [AV.agg [AV.fl [.int .i64] (v56_0 xa xb xc),AV.fl [.int .i64] (v56_1 xa xb xc),AV.fl [.int .i64,.int .i64] (v56_2 xa xb xc)],AV.bool false])
 else none)
 else some (AV.tup [AV.agg [AV.fl [.int .i64] (v56_0 xa xb xc),AV.fl [.int .i64] (v56_1 xa xb xc),AV.fl [.int .i64,.int .i64] p29.2],AV.bool true]))
 else none))
 else none))))
 else none):=by kernel_rfl
def m107:TModel
 | [.agg [.sl g0 xa,.sl g1 xb,.sl g2 xc],.agg [.int .i64 ya,.int .i64 yb]]=>bif ctsEq g0 ([.int .i64]) && ctsEq g1 ([.int .i64]) && ctsEq g2 ([.int .i64,.int .i64]) then some (q107 xa xb xc ya yb,AV.tup [AV.agg [AV.fl [.int .i64] (v107_0 xa xb xc ya yb),AV.fl [.int .i64] (v107_1 xa xb xc ya yb),AV.fl [.int .i64,.int .i64] (v107_2 xa xb xc ya yb)],AV.bool (v107_3 xa xb xc ya yb)]) else none
 | _=>none
theorem k107:Known Tryz.prog 107:=⟨Tryz.f107,Tryz.func107,by kernel_rfl,by kernel_rfl⟩
theorem meets107:Meets Tryz.prog 107 m107:=by
 refine meet (f:=Tryz.f107) (l:=[(0,sub [1,1,1,1,0,1,0,0] (body Tryz.f107))]) (hs:=[(107,0,[2,3,4,6,7,8]),(107,999,[4,5]),(107,1000,[2,3,4,6,7]),(107,1001,[2,3,4,6,7,8])]) (ts:=[(53,m53),(56,m56)]) (ws:=[]) (is:=[]) (ls:=[(107,0,l107_0)]) (lvl:=0) mixed k107 Tryz.func107 (by kernel_rfl) (loops_cons ok107_0 noLoop) (allT_cons meets53 (allT_cons meets56 allT_nil)) allM_nil noI fun w xs us r hl hv h=>?_
 unfold m107 at h
 split at h
 ·rename_i g0 xa g1 xb g2 xc ya yb
  obtain ⟨hg,h⟩:=bif_pair h
  simp only [Bool.and_eq_true] at hg
  obtain ⟨⟨q0,q1⟩,q2⟩:=hg
  obtain rfl:=ctsEq_eq _ _ q0
  obtain rfl:=ctsEq_eq _ _ q1
  obtain rfl:=ctsEq_eq _ _ q2
  obtain ⟨h1,rfl⟩:=pair_inj h
  exact (e107 xa xb xc ya yb).trans ((brL (brO (fun o:Option ((Bool × (List AV)))=>some (AV.tup [AV.agg [AV.fl [.int .i64] (v56_0 xa xb xc),AV.fl [.int .i64] (v56_1 xa xb xc),AV.fl [.int .i64,.int .i64] (ro o [] (fun p29=>(bif !p29.1 then (bif !(v53_0 xa xb xc) then (v56_2 xa xb xc) else (bif !(v53_0 (v56_0 xa xb xc) (v56_1 xa xb xc) (p29.2++([AV.agg [Ai ya,Ai yb]]))) then (v56_2 xa xb xc) else p29.2++([AV.agg [Ai ya,Ai yb]]))) else (bif !(v53_0 xa xb xc) then (v56_2 xa xb xc) else (bif !(v53_0 (v56_0 xa xb xc) (v56_1 xa xb xc) p29.2) then (v56_2 xa xb xc) else p29.2)))))],AV.bool (ro o false (fun p29=>(bif !p29.1 then (bif !(v53_0 xa xb xc) then false else (bif !(v53_0 (v56_0 xa xb xc) (v56_1 xa xb xc) (p29.2++([AV.agg [Ai ya,Ai yb]]))) then false else true)) else (bif !(v53_0 xa xb xc) then false else (bif !(v53_0 (v56_0 xa xb xc) (v56_1 xa xb xc) p29.2) then false else true)))))])) (fun p29=>(br (fun b=>some (AV.tup [AV.agg [AV.fl [.int .i64] (v56_0 xa xb xc),AV.fl [.int .i64] (v56_1 xa xb xc),AV.fl [.int .i64,.int .i64] (bif b then (bif !(v53_0 xa xb xc) then (v56_2 xa xb xc) else (bif !(v53_0 (v56_0 xa xb xc) (v56_1 xa xb xc) (p29.2++([AV.agg [Ai ya,Ai yb]]))) then (v56_2 xa xb xc) else p29.2++([AV.agg [Ai ya,Ai yb]]))) else (bif !(v53_0 xa xb xc) then (v56_2 xa xb xc) else (bif !(v53_0 (v56_0 xa xb xc) (v56_1 xa xb xc) p29.2) then (v56_2 xa xb xc) else p29.2)))],AV.bool (bif b then (bif !(v53_0 xa xb xc) then false else (bif !(v53_0 (v56_0 xa xb xc) (v56_1 xa xb xc) (p29.2++([AV.agg [Ai ya,Ai yb]]))) then false else true)) else (bif !(v53_0 xa xb xc) then false else (bif !(v53_0 (v56_0 xa xb xc) (v56_1 xa xb xc) p29.2) then false else true)))])) (brL (brL (br (fun b=>some (AV.tup [AV.agg [AV.fl [.int .i64] (v56_0 xa xb xc),AV.fl [.int .i64] (v56_1 xa xb xc),AV.fl [.int .i64,.int .i64] (bif b then (v56_2 xa xb xc) else (bif !(v53_0 (v56_0 xa xb xc) (v56_1 xa xb xc) (p29.2++([AV.agg [Ai ya,Ai yb]]))) then (v56_2 xa xb xc) else p29.2++([AV.agg [Ai ya,Ai yb]])))],AV.bool (bif b then false else (bif !(v53_0 (v56_0 xa xb xc) (v56_1 xa xb xc) (p29.2++([AV.agg [Ai ya,Ai yb]]))) then false else true))])) (brL1 (fun _=>rfl)) (brL (br (fun b=>some (AV.tup [AV.agg [AV.fl [.int .i64] (v56_0 xa xb xc),AV.fl [.int .i64] (v56_1 xa xb xc),AV.fl [.int .i64,.int .i64] (bif b then (v56_2 xa xb xc) else p29.2++([AV.agg [Ai ya,Ai yb]]))],AV.bool (bif b then false else true)])) (brL1 (fun _=>rfl)) (fun _=>rfl)))))) (brL (br (fun b=>some (AV.tup [AV.agg [AV.fl [.int .i64] (v56_0 xa xb xc),AV.fl [.int .i64] (v56_1 xa xb xc),AV.fl [.int .i64,.int .i64] (bif b then (v56_2 xa xb xc) else (bif !(v53_0 (v56_0 xa xb xc) (v56_1 xa xb xc) p29.2) then (v56_2 xa xb xc) else p29.2))],AV.bool (bif b then false else (bif !(v53_0 (v56_0 xa xb xc) (v56_1 xa xb xc) p29.2) then false else true))])) (brL1 (fun _=>rfl)) (brL (br (fun b=>some (AV.tup [AV.agg [AV.fl [.int .i64] (v56_0 xa xb xc),AV.fl [.int .i64] (v56_1 xa xb xc),AV.fl [.int .i64,.int .i64] (bif b then (v56_2 xa xb xc) else p29.2)],AV.bool (bif b then false else true)])) (brL1 (fun _=>rfl)) (fun _=>rfl))))))))) h1)
 ·cases h
noncomputable def c97:Cfg:=cfg Tryz.prog [(97,999,[4,5,6])] [(28,m28),(53,m53),(56,m56),(58,m58),(83,m83),(105,m105),(106,m106),(107,m107)] [] [] []
def q97 (xa xb xc:List AV) (a1:Int):Bool:=(q53 xa xb xc && (bif !(v53_0 xa xb xc) then q56 xa xb xc else (bif !(v28_0 a1 (-1000) 1000) then q56 xa xb xc else (q58 xa xb xc a1 && (bif (v58_1 xa xb xc a1) then q56 xa xb xc else (q83 xa xb xc a1 && (q105 xa (v83_0 xa xb xc a1) (v83_1 xa xb xc a1) a1 && (q106 xa xb xc (v105_0 xa (v83_0 xa xb xc a1) (v83_1 xa xb xc a1) a1) && q107 (v106_0 xa xb xc (v105_0 xa (v83_0 xa xb xc a1) (v83_1 xa xb xc a1) a1)) (v106_1 xa xb xc (v105_0 xa (v83_0 xa xb xc a1) (v83_1 xa xb xc a1) a1)) (v106_2 xa xb xc (v105_0 xa (v83_0 xa xb xc a1) (v83_1 xa xb xc a1) a1)) a1 (v105_1 xa (v83_0 xa xb xc a1) (v83_1 xa xb xc a1) a1)))))))))
def v97_0 (xa xb xc:List AV) (a1:Int):List AV:=(bif !(v53_0 xa xb xc) then (v56_0 xa xb xc) else (bif !(v28_0 a1 (-1000) 1000) then (v56_0 xa xb xc) else (bif (v58_1 xa xb xc a1) then (v56_0 xa xb xc) else (v107_0 (v106_0 xa xb xc (v105_0 xa (v83_0 xa xb xc a1) (v83_1 xa xb xc a1) a1)) (v106_1 xa xb xc (v105_0 xa (v83_0 xa xb xc a1) (v83_1 xa xb xc a1) a1)) (v106_2 xa xb xc (v105_0 xa (v83_0 xa xb xc a1) (v83_1 xa xb xc a1) a1)) a1 (v105_1 xa (v83_0 xa xb xc a1) (v83_1 xa xb xc a1) a1)))))
def v97_1 (xa xb xc:List AV) (a1:Int):List AV:=(bif !(v53_0 xa xb xc) then (v56_1 xa xb xc) else (bif !(v28_0 a1 (-1000) 1000) then (v56_1 xa xb xc) else (bif (v58_1 xa xb xc a1) then (v56_1 xa xb xc) else (v107_1 (v106_0 xa xb xc (v105_0 xa (v83_0 xa xb xc a1) (v83_1 xa xb xc a1) a1)) (v106_1 xa xb xc (v105_0 xa (v83_0 xa xb xc a1) (v83_1 xa xb xc a1) a1)) (v106_2 xa xb xc (v105_0 xa (v83_0 xa xb xc a1) (v83_1 xa xb xc a1) a1)) a1 (v105_1 xa (v83_0 xa xb xc a1) (v83_1 xa xb xc a1) a1)))))
def v97_2 (xa xb xc:List AV) (a1:Int):List AV:=(bif !(v53_0 xa xb xc) then (v56_2 xa xb xc) else (bif !(v28_0 a1 (-1000) 1000) then (v56_2 xa xb xc) else (bif (v58_1 xa xb xc a1) then (v56_2 xa xb xc) else (v107_2 (v106_0 xa xb xc (v105_0 xa (v83_0 xa xb xc a1) (v83_1 xa xb xc a1) a1)) (v106_1 xa xb xc (v105_0 xa (v83_0 xa xb xc a1) (v83_1 xa xb xc a1) a1)) (v106_2 xa xb xc (v105_0 xa (v83_0 xa xb xc a1) (v83_1 xa xb xc a1) a1)) a1 (v105_1 xa (v83_0 xa xb xc a1) (v83_1 xa xb xc a1) a1)))))
def v97_3 (xa xb xc:List AV) (a1:Int):List AV:=(bif !(v53_0 xa xb xc) then ([]:List AV) else (bif !(v28_0 a1 (-1000) 1000) then ([]:List AV) else (bif (v58_1 xa xb xc a1) then ([]:List AV) else (v105_0 xa (v83_0 xa xb xc a1) (v83_1 xa xb xc a1) a1))))
def v97_4 (xa xb xc:List AV) (a1:Int):Bool:=(bif !(v53_0 xa xb xc) then false else (bif !(v28_0 a1 (-1000) 1000) then false else true))
theorem e97 (xa xb xc:List AV) (a1:Int):funA c97 0 97 [AV.agg [AV.sl [.int .i64] xa,AV.sl [.int .i64] xb,AV.sl [.int .i64,.int .i64] xc],Ai a1]=(bif q53 xa xb xc then (bif !(v53_0 xa xb xc) then (bif q56 xa xb xc then some (AV.tup [AV.agg [AV.fl [.int .i64] (v56_0 xa xb xc),AV.fl [.int .i64] (v56_1 xa xb xc),AV.fl [.int .i64,.int .i64] (v56_2 xa xb xc)],AV.fl [.int .i64,.int .i64] ([]:List AV),AV.bool false])
 else none)
 else (bif !(v28_0 a1 (-1000) 1000) then (bif q56 xa xb xc then some (AV.tup [AV.agg [AV.fl [.int .i64] (v56_0 xa xb xc),AV.fl [.int .i64] (v56_1 xa xb xc),AV.fl [.int .i64,.int .i64] (v56_2 xa xb xc)],AV.fl [.int .i64,.int .i64] ([]:List AV),AV.bool false])
 else none)
 else (bif q58 xa xb xc a1 then (bif (v58_1 xa xb xc a1) then (bif q56 xa xb xc then some (AV.tup [AV.agg [AV.fl [.int .i64] (v56_0 xa xb xc),AV.fl [.int .i64] (v56_1 xa xb xc),AV.fl [.int .i64,.int .i64] (v56_2 xa xb xc)],AV.fl [.int .i64,.int .i64] ([]:List AV),AV.bool true])
 else none)
 else (bif q83 xa xb xc a1 then (bif q105 xa (v83_0 xa xb xc a1) (v83_1 xa xb xc a1) a1 then (bif q106 xa xb xc (v105_0 xa (v83_0 xa xb xc a1) (v83_1 xa xb xc a1) a1) then (bif q107 (v106_0 xa xb xc (v105_0 xa (v83_0 xa xb xc a1) (v83_1 xa xb xc a1) a1)) (v106_1 xa xb xc (v105_0 xa (v83_0 xa xb xc a1) (v83_1 xa xb xc a1) a1)) (v106_2 xa xb xc (v105_0 xa (v83_0 xa xb xc a1) (v83_1 xa xb xc a1) a1)) a1 (v105_1 xa (v83_0 xa xb xc a1) (v83_1 xa xb xc a1) a1) then some (AV.tup [AV.agg [AV.fl [.int .i64] (v107_0 (v106_0 xa xb xc (v105_0 xa (v83_0 xa xb xc a1) (v83_1 xa xb xc a1) a1)) (v106_1 xa xb xc (v105_0 xa (v83_0 xa xb xc a1) (v83_1 xa xb xc a1) a1)) (v106_2 xa xb xc (v105_0 xa (v83_0 xa xb xc a1) (v83_1 xa xb xc a1) a1)) a1 (v105_1 xa (v83_0 xa xb xc a1) (v83_1 xa xb xc a1) a1)),AV.fl [.int .i64] (v107_1 (v106_0 xa xb xc (v105_0 xa (v83_0 xa xb xc a1) (v83_1 xa xb xc a1) a1)) (v106_1 xa xb xc (v105_0 xa (v83_0 xa xb xc a1) (v83_1 xa xb xc a1) a1)) (v106_2 xa xb xc (v105_0 xa (v83_0 xa xb xc a1) (v83_1 xa xb xc a1) a1)) a1 (v105_1 xa (v83_0 xa xb xc a1) (v83_1 xa xb xc a1) a1)),AV.fl [.int .i64,.int .i64] (v107_2 (v106_0 xa xb xc (v105_0 xa (v83_0 xa xb xc a1) (v83_1 xa xb xc a1) a1)) (v106_1 xa xb xc (v105_0 xa (v83_0 xa xb xc a1) (v83_1 xa xb xc a1) a1)) (v106_2 xa xb xc (v105_0 xa (v83_0 xa xb xc a1) (v83_1 xa xb xc a1) a1)) a1 (v105_1 xa (v83_0 xa xb xc a1) (v83_1 xa xb xc a1) a1))],AV.fl [.int .i64,.int .i64] (v105_0 xa (v83_0 xa xb xc a1) (v83_1 xa xb xc a1) a1),AV.bool true])
 else none)
 else none)
 else none)
 else none))
 else none)))
 else none):=by kernel_rfl
def m97:TModel
 | [.agg [.sl g0 xa,.sl g1 xb,.sl g2 xc],.int .i64 a1]=>bif ctsEq g0 ([.int .i64]) && ctsEq g1 ([.int .i64]) && ctsEq g2 ([.int .i64,.int .i64]) then some (q97 xa xb xc a1,AV.tup [AV.agg [AV.fl [.int .i64] (v97_0 xa xb xc a1),AV.fl [.int .i64] (v97_1 xa xb xc a1),AV.fl [.int .i64,.int .i64] (v97_2 xa xb xc a1)],AV.fl [.int .i64,.int .i64] (v97_3 xa xb xc a1),AV.bool (v97_4 xa xb xc a1)]) else none
 | _=>none
theorem k97:Known Tryz.prog 97:=⟨Tryz.f97,Tryz.func97,by kernel_rfl,by kernel_rfl⟩
theorem meets97:Meets Tryz.prog 97 m97:=by
 refine meet (f:=Tryz.f97) (l:=[]) (hs:=[(97,999,[4,5,6])]) (ts:=[(28,m28),(53,m53),(56,m56),(58,m58),(83,m83),(105,m105),(106,m106),(107,m107)]) (ws:=[]) (is:=[]) (ls:=[]) (lvl:=0) mixed k97 Tryz.func97 (by kernel_rfl) noLoop (allT_cons meets28 (allT_cons meets53 (allT_cons meets56 (allT_cons meets58 (allT_cons meets83 (allT_cons meets105 (allT_cons meets106 (allT_cons meets107 allT_nil)))))))) allM_nil noI fun w xs us r hl hv h=>?_
 unfold m97 at h
 split at h
 ·rename_i g0 xa g1 xb g2 xc a1
  obtain ⟨hg,h⟩:=bif_pair h
  simp only [Bool.and_eq_true] at hg
  obtain ⟨⟨q0,q1⟩,q2⟩:=hg
  obtain rfl:=ctsEq_eq _ _ q0
  obtain rfl:=ctsEq_eq _ _ q1
  obtain rfl:=ctsEq_eq _ _ q2
  obtain ⟨h1,rfl⟩:=pair_inj h
  exact (e97 xa xb xc a1).trans ((brL (br (fun b=>some (AV.tup [AV.agg [AV.fl [.int .i64] (bif b then (v56_0 xa xb xc) else (bif !(v28_0 a1 (-1000) 1000) then (v56_0 xa xb xc) else (bif (v58_1 xa xb xc a1) then (v56_0 xa xb xc) else (v107_0 (v106_0 xa xb xc (v105_0 xa (v83_0 xa xb xc a1) (v83_1 xa xb xc a1) a1)) (v106_1 xa xb xc (v105_0 xa (v83_0 xa xb xc a1) (v83_1 xa xb xc a1) a1)) (v106_2 xa xb xc (v105_0 xa (v83_0 xa xb xc a1) (v83_1 xa xb xc a1) a1)) a1 (v105_1 xa (v83_0 xa xb xc a1) (v83_1 xa xb xc a1) a1))))),AV.fl [.int .i64] (bif b then (v56_1 xa xb xc) else (bif !(v28_0 a1 (-1000) 1000) then (v56_1 xa xb xc) else (bif (v58_1 xa xb xc a1) then (v56_1 xa xb xc) else (v107_1 (v106_0 xa xb xc (v105_0 xa (v83_0 xa xb xc a1) (v83_1 xa xb xc a1) a1)) (v106_1 xa xb xc (v105_0 xa (v83_0 xa xb xc a1) (v83_1 xa xb xc a1) a1)) (v106_2 xa xb xc (v105_0 xa (v83_0 xa xb xc a1) (v83_1 xa xb xc a1) a1)) a1 (v105_1 xa (v83_0 xa xb xc a1) (v83_1 xa xb xc a1) a1))))),AV.fl [.int .i64,.int .i64] (bif b then (v56_2 xa xb xc) else (bif !(v28_0 a1 (-1000) 1000) then (v56_2 xa xb xc) else (bif (v58_1 xa xb xc a1) then (v56_2 xa xb xc) else (v107_2 (v106_0 xa xb xc (v105_0 xa (v83_0 xa xb xc a1) (v83_1 xa xb xc a1) a1)) (v106_1 xa xb xc (v105_0 xa (v83_0 xa xb xc a1) (v83_1 xa xb xc a1) a1)) (v106_2 xa xb xc (v105_0 xa (v83_0 xa xb xc a1) (v83_1 xa xb xc a1) a1)) a1 (v105_1 xa (v83_0 xa xb xc a1) (v83_1 xa xb xc a1) a1)))))],AV.fl [.int .i64,.int .i64] (bif b then ([]:List AV) else (bif !(v28_0 a1 (-1000) 1000) then ([]:List AV) else (bif (v58_1 xa xb xc a1) then ([]:List AV) else (v105_0 xa (v83_0 xa xb xc a1) (v83_1 xa xb xc a1) a1)))),AV.bool (bif b then false else (bif !(v28_0 a1 (-1000) 1000) then false else true))])) (brL1 (fun _=>rfl)) (br (fun b=>some (AV.tup [AV.agg [AV.fl [.int .i64] (bif b then (v56_0 xa xb xc) else (bif (v58_1 xa xb xc a1) then (v56_0 xa xb xc) else (v107_0 (v106_0 xa xb xc (v105_0 xa (v83_0 xa xb xc a1) (v83_1 xa xb xc a1) a1)) (v106_1 xa xb xc (v105_0 xa (v83_0 xa xb xc a1) (v83_1 xa xb xc a1) a1)) (v106_2 xa xb xc (v105_0 xa (v83_0 xa xb xc a1) (v83_1 xa xb xc a1) a1)) a1 (v105_1 xa (v83_0 xa xb xc a1) (v83_1 xa xb xc a1) a1)))),AV.fl [.int .i64] (bif b then (v56_1 xa xb xc) else (bif (v58_1 xa xb xc a1) then (v56_1 xa xb xc) else (v107_1 (v106_0 xa xb xc (v105_0 xa (v83_0 xa xb xc a1) (v83_1 xa xb xc a1) a1)) (v106_1 xa xb xc (v105_0 xa (v83_0 xa xb xc a1) (v83_1 xa xb xc a1) a1)) (v106_2 xa xb xc (v105_0 xa (v83_0 xa xb xc a1) (v83_1 xa xb xc a1) a1)) a1 (v105_1 xa (v83_0 xa xb xc a1) (v83_1 xa xb xc a1) a1)))),AV.fl [.int .i64,.int .i64] (bif b then (v56_2 xa xb xc) else (bif (v58_1 xa xb xc a1) then (v56_2 xa xb xc) else (v107_2 (v106_0 xa xb xc (v105_0 xa (v83_0 xa xb xc a1) (v83_1 xa xb xc a1) a1)) (v106_1 xa xb xc (v105_0 xa (v83_0 xa xb xc a1) (v83_1 xa xb xc a1) a1)) (v106_2 xa xb xc (v105_0 xa (v83_0 xa xb xc a1) (v83_1 xa xb xc a1) a1)) a1 (v105_1 xa (v83_0 xa xb xc a1) (v83_1 xa xb xc a1) a1))))],AV.fl [.int .i64,.int .i64] (bif b then ([]:List AV) else (bif (v58_1 xa xb xc a1) then ([]:List AV) else (v105_0 xa (v83_0 xa xb xc a1) (v83_1 xa xb xc a1) a1))),AV.bool (bif b then false else true)])) (brL1 (fun _=>rfl)) (brL (br (fun b=>some (AV.tup [AV.agg [AV.fl [.int .i64] (bif b then (v56_0 xa xb xc) else (v107_0 (v106_0 xa xb xc (v105_0 xa (v83_0 xa xb xc a1) (v83_1 xa xb xc a1) a1)) (v106_1 xa xb xc (v105_0 xa (v83_0 xa xb xc a1) (v83_1 xa xb xc a1) a1)) (v106_2 xa xb xc (v105_0 xa (v83_0 xa xb xc a1) (v83_1 xa xb xc a1) a1)) a1 (v105_1 xa (v83_0 xa xb xc a1) (v83_1 xa xb xc a1) a1))),AV.fl [.int .i64] (bif b then (v56_1 xa xb xc) else (v107_1 (v106_0 xa xb xc (v105_0 xa (v83_0 xa xb xc a1) (v83_1 xa xb xc a1) a1)) (v106_1 xa xb xc (v105_0 xa (v83_0 xa xb xc a1) (v83_1 xa xb xc a1) a1)) (v106_2 xa xb xc (v105_0 xa (v83_0 xa xb xc a1) (v83_1 xa xb xc a1) a1)) a1 (v105_1 xa (v83_0 xa xb xc a1) (v83_1 xa xb xc a1) a1))),AV.fl [.int .i64,.int .i64] (bif b then (v56_2 xa xb xc) else (v107_2 (v106_0 xa xb xc (v105_0 xa (v83_0 xa xb xc a1) (v83_1 xa xb xc a1) a1)) (v106_1 xa xb xc (v105_0 xa (v83_0 xa xb xc a1) (v83_1 xa xb xc a1) a1)) (v106_2 xa xb xc (v105_0 xa (v83_0 xa xb xc a1) (v83_1 xa xb xc a1) a1)) a1 (v105_1 xa (v83_0 xa xb xc a1) (v83_1 xa xb xc a1) a1)))],AV.fl [.int .i64,.int .i64] (bif b then ([]:List AV) else (v105_0 xa (v83_0 xa xb xc a1) (v83_1 xa xb xc a1) a1)),AV.bool true])) (brL1 (fun _=>rfl)) (brL (brL (brL (brL1 (fun _=>rfl)))))))))) h1)
 ·cases h
noncomputable def c85:Cfg:=cfg Tryz.prog [(85,999,[8])] [(58,m58),(83,m83),(97,m97)] [] [] []
def q85 (a1 a2:Int) (b0 b1 b2 b4:List AV):Bool:=(q83 b0 b1 b2 a1 && (q58 b0 b1 b2 a1 && (q97 b0 b1 b2 a1 && (bif (v97_4 b0 b1 b2 a1) then (bif !(v58_1 b0 b1 b2 a1) then (decide ((b4.length+([AV.agg [AV.int .i64 a2,AV.int .i64 a1,AV.int .i64 (v83_0 b0 b1 b2 a1),AV.int .i64 (v83_1 b0 b1 b2 a1),AV.int .i64 ((v97_3 b0 b1 b2 a1).length:Int)]]).length)*40≤140737488355328) && decide ((b4.length+([AV.agg [AV.int .i64 a2,AV.int .i64 a1,AV.int .i64 (v83_0 b0 b1 b2 a1),AV.int .i64 (v83_1 b0 b1 b2 a1),AV.int .i64 ((v97_3 b0 b1 b2 a1).length:Int)]]).length)≤140737488355328)) else true) else true))))
def v85_0 (a1 a2:Int) (b0 b1 b2 b4:List AV):List AV:=(v97_0 b0 b1 b2 a1)
def v85_1 (a1 a2:Int) (b0 b1 b2 b4:List AV):List AV:=(v97_1 b0 b1 b2 a1)
def v85_2 (a1 a2:Int) (b0 b1 b2 b4:List AV):List AV:=(v97_2 b0 b1 b2 a1)
def v85_3 (a1 a2:Int) (b0 b1 b2 b4:List AV):List AV:=b0
def v85_4 (a1 a2:Int) (b0 b1 b2 b4:List AV):List AV:=b1
def v85_5 (a1 a2:Int) (b0 b1 b2 b4:List AV):List AV:=b2
def v85_6 (a1 a2:Int) (b0 b1 b2 b4:List AV):List AV:=(bif (v97_4 b0 b1 b2 a1) then (bif !(v58_1 b0 b1 b2 a1) then b4++([AV.agg [AV.int .i64 a2,AV.int .i64 a1,AV.int .i64 (v83_0 b0 b1 b2 a1),AV.int .i64 (v83_1 b0 b1 b2 a1),AV.int .i64 ((v97_3 b0 b1 b2 a1).length:Int)]]) else b4) else b4)
theorem e85 (a1 a2:Int) (b0 b1 b2 b4:List AV) (K:List AV→List (Option Blk)→Option AV):inlA c85 1 85 [AV.agg [AV.own [1],AV.own [2],AV.own [3]],Ai a1,Ai a2,AV.ptr [4] 0 0] [0] (canH 1 [⟨false,[.int .i64],b0⟩,⟨false,[.int .i64],b1⟩,⟨false,[.int .i64,.int .i64],b2⟩,⟨true,[],[AV.own [5]]⟩,⟨false,[.int .i64,.int .i64,.int .i64,.int .i64,.int .i64],b4⟩]) (keepG Tryz.prog 5 [54] [4] K)=(bif q83 b0 b1 b2 a1 then (bif q58 b0 b1 b2 a1 then (bif q97 b0 b1 b2 a1 then (bif (v97_4 b0 b1 b2 a1) then (bif !(v58_1 b0 b1 b2 a1) then (bif (decide ((b4.length+([AV.agg [Ai a2,Ai a1,Ai (v83_0 b0 b1 b2 a1),Ai (v83_1 b0 b1 b2 a1),Ai ((v97_3 b0 b1 b2 a1).length:Int)]]).length)*40≤140737488355328) && decide ((b4.length+([AV.agg [Ai a2,Ai a1,Ai (v83_0 b0 b1 b2 a1),Ai (v83_1 b0 b1 b2 a1),Ai ((v97_3 b0 b1 b2 a1).length:Int)]]).length)≤140737488355328)) then K [AV.agg [AV.fl [.int .i64] (v97_0 b0 b1 b2 a1),AV.fl [.int .i64] (v97_1 b0 b1 b2 a1),AV.fl [.int .i64,.int .i64] (v97_2 b0 b1 b2 a1)]] [some ⟨false,[.int .i64],b0⟩,some ⟨false,[.int .i64],b1⟩,some ⟨false,[.int .i64,.int .i64],b2⟩,some ⟨true,[],[AV.fl [.int .i64,.int .i64,.int .i64,.int .i64,.int .i64] (b4++([AV.agg [Ai a2,Ai a1,Ai (v83_0 b0 b1 b2 a1),Ai (v83_1 b0 b1 b2 a1),Ai ((v97_3 b0 b1 b2 a1).length:Int)]]))]⟩,none]
 else none)
 else K [AV.agg [AV.fl [.int .i64] (v97_0 b0 b1 b2 a1),AV.fl [.int .i64] (v97_1 b0 b1 b2 a1),AV.fl [.int .i64,.int .i64] (v97_2 b0 b1 b2 a1)]] [some ⟨false,[.int .i64],b0⟩,some ⟨false,[.int .i64],b1⟩,some ⟨false,[.int .i64,.int .i64],b2⟩,some ⟨true,[],[AV.fl [.int .i64,.int .i64,.int .i64,.int .i64,.int .i64] b4]⟩,none])
 else K [AV.agg [AV.fl [.int .i64] (v97_0 b0 b1 b2 a1),AV.fl [.int .i64] (v97_1 b0 b1 b2 a1),AV.fl [.int .i64,.int .i64] (v97_2 b0 b1 b2 a1)]] [some ⟨false,[.int .i64],b0⟩,some ⟨false,[.int .i64],b1⟩,some ⟨false,[.int .i64,.int .i64],b2⟩,some ⟨true,[],[AV.fl [.int .i64,.int .i64,.int .i64,.int .i64,.int .i64] b4]⟩,none])
 else none)
 else none)
 else none):=by kernel_rfl
theorem r85 (a1 a2:Int) (b0 b1 b2 b4:List AV) (K:List AV→List (Option Blk)→Option AV) (h:q85 a1 a2 b0 b1 b2 b4=true):inlA c85 1 85 [AV.agg [AV.own [1],AV.own [2],AV.own [3]],AV.int .i64 a1,AV.int .i64 a2,AV.ptr [4] 0 0] [0] (canH 1 [⟨false,[.int .i64],b0⟩,⟨false,[.int .i64],b1⟩,⟨false,[.int .i64,.int .i64],b2⟩,⟨true,[],[AV.own [5]]⟩,⟨false,[.int .i64,.int .i64,.int .i64,.int .i64,.int .i64],b4⟩]) (keepG Tryz.prog 5 [54] [4] K)=K [AV.agg [AV.fl [.int .i64] (v85_0 a1 a2 b0 b1 b2 b4),AV.fl [.int .i64] (v85_1 a1 a2 b0 b1 b2 b4),AV.fl [.int .i64,.int .i64] (v85_2 a1 a2 b0 b1 b2 b4)]] [some ⟨false,[.int .i64],(v85_3 a1 a2 b0 b1 b2 b4)⟩,some ⟨false,[.int .i64],(v85_4 a1 a2 b0 b1 b2 b4)⟩,some ⟨false,[.int .i64,.int .i64],(v85_5 a1 a2 b0 b1 b2 b4)⟩,some ⟨true,[],[AV.fl [.int .i64,.int .i64,.int .i64,.int .i64,.int .i64] (v85_6 a1 a2 b0 b1 b2 b4)]⟩,none]:=(e85 a1 a2 b0 b1 b2 b4 K).trans ((brL (brL (brL (br (fun b=>K [AV.agg [AV.fl [.int .i64] (v97_0 b0 b1 b2 a1),AV.fl [.int .i64] (v97_1 b0 b1 b2 a1),AV.fl [.int .i64,.int .i64] (v97_2 b0 b1 b2 a1)]] [some ⟨false,[.int .i64],b0⟩,some ⟨false,[.int .i64],b1⟩,some ⟨false,[.int .i64,.int .i64],b2⟩,some ⟨true,[],[AV.fl [.int .i64,.int .i64,.int .i64,.int .i64,.int .i64] (bif b then (bif !(v58_1 b0 b1 b2 a1) then b4++([AV.agg [AV.int .i64 a2,AV.int .i64 a1,AV.int .i64 (v83_0 b0 b1 b2 a1),AV.int .i64 (v83_1 b0 b1 b2 a1),AV.int .i64 ((v97_3 b0 b1 b2 a1).length:Int)]]) else b4) else b4)]⟩,none]) (br (fun b=>K [AV.agg [AV.fl [.int .i64] (v97_0 b0 b1 b2 a1),AV.fl [.int .i64] (v97_1 b0 b1 b2 a1),AV.fl [.int .i64,.int .i64] (v97_2 b0 b1 b2 a1)]] [some ⟨false,[.int .i64],b0⟩,some ⟨false,[.int .i64],b1⟩,some ⟨false,[.int .i64,.int .i64],b2⟩,some ⟨true,[],[AV.fl [.int .i64,.int .i64,.int .i64,.int .i64,.int .i64] (bif b then b4++([AV.agg [AV.int .i64 a2,AV.int .i64 a1,AV.int .i64 (v83_0 b0 b1 b2 a1),AV.int .i64 (v83_1 b0 b1 b2 a1),AV.int .i64 ((v97_3 b0 b1 b2 a1).length:Int)]]) else b4)]⟩,none]) (brL1 (fun _=>rfl)) (fun _=>rfl)) (fun _=>rfl))))) h)
def m85:GModel
 | [.agg [.own g0,.own g1,.own g2],.int .i64 a1,.int .i64 a2,.ptr g3 g4 g5],[⟨false,g6,b0⟩,⟨false,g7,b1⟩,⟨false,g8,b2⟩,⟨true,[],[.own g9]⟩,⟨false,g10,b4⟩]=>bif nmEq g0 ([1]) && nmEq g1 ([2]) && nmEq g2 ([3]) && nmEq g3 ([4]) && Nat.beq g4 0 && Nat.beq g5 0 && ctsEq g6 ([.int .i64]) && ctsEq g7 ([.int .i64]) && ctsEq g8 ([.int .i64,.int .i64]) && nmEq g9 ([5]) && ctsEq g10 ([.int .i64,.int .i64,.int .i64,.int .i64,.int .i64]) then some (q85 a1 a2 b0 b1 b2 b4,[AV.agg [AV.fl [.int .i64] (v85_0 a1 a2 b0 b1 b2 b4),AV.fl [.int .i64] (v85_1 a1 a2 b0 b1 b2 b4),AV.fl [.int .i64,.int .i64] (v85_2 a1 a2 b0 b1 b2 b4)]],[some ⟨false,[.int .i64],(v85_3 a1 a2 b0 b1 b2 b4)⟩,some ⟨false,[.int .i64],(v85_4 a1 a2 b0 b1 b2 b4)⟩,some ⟨false,[.int .i64,.int .i64],(v85_5 a1 a2 b0 b1 b2 b4)⟩,some ⟨true,[],[AV.fl [.int .i64,.int .i64,.int .i64,.int .i64,.int .i64] (v85_6 a1 a2 b0 b1 b2 b4)]⟩,none]) else none
 | _,_=>none
theorem k85:Known Tryz.prog 85:=⟨Tryz.f85,Tryz.func85,by kernel_rfl,by kernel_rfl⟩
theorem meets85:MeetsG Tryz.prog 85 m85:=by
 refine meetG (rt:=[54]) (gs:=[4]) (f:=Tryz.f85) (l:=[]) (hs:=[(85,999,[8])]) (ts:=[(58,m58),(83,m83),(97,m97)]) (ws:=[]) (is:=[]) (ls:=[]) (lvl:=0) mixed k85 Tryz.func85 (by kernel_rfl) noLoop (allT_cons meets58 (allT_cons meets83 (allT_cons meets97 allT_nil))) allM_nil noI fun C w xs us bs r bs' hl hv hh h K=>?_
 unfold m85 at h
 split at h
 ·rename_i g0 g1 g2 a1 a2 g3 g4 g5 g6 b0 g7 b1 g8 b2 g9 g10 b4
  obtain ⟨hg,h⟩:=bif_pair h
  simp only [Bool.and_eq_true] at hg
  obtain ⟨⟨⟨⟨⟨⟨⟨⟨⟨⟨q0,q1⟩,q2⟩,q3⟩,q4⟩,q5⟩,q6⟩,q7⟩,q8⟩,q9⟩,q10⟩:=hg
  obtain rfl:=(nmEq_iff _ _).1 q0
  obtain rfl:=(nmEq_iff _ _).1 q1
  obtain rfl:=(nmEq_iff _ _).1 q2
  obtain rfl:=(nmEq_iff _ _).1 q3
  obtain rfl:=Nat.eq_of_beq_eq_true q4
  obtain rfl:=Nat.eq_of_beq_eq_true q5
  obtain rfl:=ctsEq_eq _ _ q6
  obtain rfl:=ctsEq_eq _ _ q7
  obtain rfl:=ctsEq_eq _ _ q8
  obtain rfl:=(nmEq_iff _ _).1 q9
  obtain rfl:=ctsEq_eq _ _ q10
  obtain ⟨h1,rfl,rfl⟩:=trip_inj h
  exact r85 a1 a2 b0 b1 b2 b4 K h1
 ·cases h
end Go.Proofs.YtmcnplggcedihaaGreat
