import Derived.Test.YtbmfgibbjchijaaGreatP9
import Derived.Test.YtbmfgibbjchijaaGreatProg
import Derived.KernelRfl
namespace Go.Proofs.YtbmfgibbjchijaaGreat
open Go Go.Proofs.VE
set_option linter.unusedVariables false
set_option linter.unusedSimpArgs false
set_option maxRecDepth 100000
set_option maxHeartbeats 4000000
noncomputable section
def G151_0 {β:Type} (t0:List AV) (t3:Int) (t11:Int) (t12:Int) (h0:List AV) (N:((Int × Int × (List AV)))→β) (K:((Int × (List AV)))→β) (d:β):β:=(bif decide (t11≤t12) then (bif (decide (0≤t11) && decide (t11<(t0.length:Int))) then (bif decide (fI (t0.getD t11.toNat .undef) 0<t3) then N (IntKind.i64.wrap (t11+1),t12,h0)
 else (bif (decide (0≤t12) && decide (t12<(t0.length:Int))) then (bif decide (fI (t0.getD t12.toNat .undef) 0 ≥ t3) then N (t11,IntKind.i64.wrap (t12 - 1),h0)
 else (bif (decide ((h0.length+([AV.agg [AV.int .i64 t11,AV.int .i64 t12]]).length)*16≤140737488355328) && decide ((h0.length+([AV.agg [AV.int .i64 t11,AV.int .i64 t12]]).length)≤140737488355328)) then N (IntKind.i64.wrap (t11+1),IntKind.i64.wrap (t12 - 1),h0++([AV.agg [AV.int .i64 t11,AV.int .i64 t12]]))
 else d))
 else d))
 else d)
 else K (t11,h0))
def F151_0 (t0:List AV) (t3 t11 t12:Int) (h0:List AV):Out ((Int × Int × (List AV))) ((Int × (List AV))):=G151_0 t0 t3 t11 t12 h0 .next .stop .fail
def R151_0 (t0:List AV) (t3:Int):((Int × Int × (List AV)))→Out ((Int × Int × (List AV))) ((Int × (List AV))):=fun s:Int × Int × (List AV)=>F151_0 t0 t3 s.1 s.2.1 s.2.2
def E151_0 (t0:List AV) (t3:Int):((Int × Int × (List AV)))→St:=fun s:Int × Int × (List AV)=>⟨[(0,AV.sl [.int .i64] t0),(3,Ai t3),(10,AV.own [0,10]),(11,Ai s.1),(12,Ai s.2.1)],[([0,10],⟨false,[.int .i64,.int .i64],s.2.2⟩)]⟩
def K151_0 (t0:List AV) (t3:Int) (k:Kont):((Int × (List AV)))→Option AV:=fun p:Int × (List AV)=>k (.exit 0) ⟨[(10,AV.own [0,10]),(11,Ai p.1)],[([0,10],⟨false,[.int .i64,.int .i64],p.2⟩)]⟩
def l151_0:LModel:=fun _ _ st k=>match st with
 | ⟨[(0,.sl g0 t0),(3,.int .i64 t3),(10,.own g1),(11,.int .i64 t11),(12,.int .i64 t12)],[(g2,⟨false,g3,h0⟩)]⟩=>bif ctsEq g0 ([.int .i64]) && nmEq g1 ([0,10]) && nmEq g2 ([0,10]) && ctsEq g3 ([.int .i64,.int .i64]) then ro (runW (R151_0 t0 t3) ((t12 - t11+1:Int).toNat+1) (t11,t12,h0)) none (K151_0 t0 t3 k) else none
 | _=>none
noncomputable def c151:Cfg:=cfg Tryz.prog [(151,0,[0,3,10,11,12]),(151,999,[8,9]),(151,1000,[10,11]),(151,1001,[0,3,10,11,12]),(151,1002,[0,3,10,11,12])] [(52,m52)] [] [] [(151,0,l151_0)]
theorem s151_0 (t0:List AV) (t3:Int) (ce:CallE) (k:Kont) (s:Int × Int × (List AV)) (next:St→Option AV):stepA (codeA c151 ce [] 151 0 (sub [1,1,1,1,1,0,0,0] (body Tryz.f151))) (normA [] [0,3,10,11,12]) next ((E151_0 t0 t3) s) k=G151_0 t0 t3 s.1 s.2.1 s.2.2 (fun s=>next ((E151_0 t0 t3) s)) (K151_0 t0 t3 k) none:=by kernel_rfl
theorem st151_0 (t0:List AV) (t3:Int) (ce:CallE) (k:Kont) (s:(Int × Int × (List AV))) (next:St→Option AV):stepA (codeA c151 ce [] 151 0 (sub [1,1,1,1,1,0,0,0] (body Tryz.f151))) (normA [] [0,3,10,11,12]) next ((E151_0 t0 t3) s) k=(R151_0 t0 t3 s).el none (fun s=>next ((E151_0 t0 t3) s)) (K151_0 t0 t3 k):=(s151_0 t0 t3 ce k s next).trans (by unfold R151_0;unfold F151_0 G151_0;simp only [el_cond,el_ro,el_sum,el_fail,el_next,el_stop] <;> rfl)
theorem ok151_0 {ce:CallE}:LoopOK c151 ce [] 151 0 (sub [1,1,1,1,1,0,0,0] (body Tryz.f151)):=by
 intro m hm st k r h
 obtain rfl:l151_0=m:=Option.some.inj hm
 unfold l151_0 at h
 split at h
 ·rename_i g0 t0 t3 g1 t11 t12 g2 g3 h0
  obtain ⟨hg,h⟩:=bif_some h
  simp only [Bool.and_eq_true] at hg
  obtain ⟨⟨⟨q0,q1⟩,q2⟩,q3⟩:=hg
  obtain rfl:=cE q0
  obtain rfl:=nE q1
  obtain rfl:=nE q2
  obtain rfl:=cE q3
  refine ⟨((t12 - t11+1:Int).toNat+1),?_⟩
  rw [← h]
  exact loop_run (E151_0 t0 t3) (K151_0 t0 t3 k) (st151_0 t0 t3 ce k) _ (t11,t12,h0)
 ·cases h
def q151 (a0:List AV) (a1 a2 a3:Int):Bool:=(bif !(v52_0 a1 0 a2) then true else (bif decide (a2 > (a0.length:Int)) then true else (ro (runW (R151_0 a0 a3) (((IntKind.i64.wrap (a2 - 1)) - a1+1:Int).toNat+1) (a1,IntKind.i64.wrap (a2 - 1),([]:List AV))) false (fun p31=>true))))
def v151_0 (a0:List AV) (a1 a2 a3:Int):List AV:=(bif !(v52_0 a1 0 a2) then ([]:List AV) else (bif decide (a2 > (a0.length:Int)) then ([]:List AV) else (ro (runW (R151_0 a0 a3) (((IntKind.i64.wrap (a2 - 1)) - a1+1:Int).toNat+1) (a1,IntKind.i64.wrap (a2 - 1),([]:List AV))) [] (fun p31=>p31.2))))
def v151_1 (a0:List AV) (a1 a2 a3:Int):Int:=(bif !(v52_0 a1 0 a2) then 0 else (bif decide (a2 > (a0.length:Int)) then 0 else (ro (runW (R151_0 a0 a3) (((IntKind.i64.wrap (a2 - 1)) - a1+1:Int).toNat+1) (a1,IntKind.i64.wrap (a2 - 1),([]:List AV))) 0 (fun p31=>p31.1))))
theorem e151 (a0:List AV) (a1 a2 a3:Int):funA c151 0 151 [AV.sl [.int .i64] a0,Ai a1,Ai a2,Ai a3]=(bif !(v52_0 a1 0 a2) then some (AV.tup [AV.fl [.int .i64,.int .i64] ([]:List AV),Ai 0])
 else (bif decide (a2 > (a0.length:Int)) then some (AV.tup [AV.fl [.int .i64,.int .i64] ([]:List AV),Ai 0])
 else (ro (runW (R151_0 a0 a3) (((IntKind.i64.wrap (a2 - 1)) - a1+1:Int).toNat+1) (a1,IntKind.i64.wrap (a2 - 1),([]:List AV))) none (fun p31=>some (AV.tup [AV.fl [.int .i64,.int .i64] p31.2,Ai p31.1]))))):=by kernel_rfl
def m151:TModel
 | [.sl g0 a0,.int .i64 a1,.int .i64 a2,.int .i64 a3]=>bif ctsEq g0 ([.int .i64]) then some (q151 a0 a1 a2 a3,AV.tup [AV.fl [.int .i64,.int .i64] (v151_0 a0 a1 a2 a3),AV.int .i64 (v151_1 a0 a1 a2 a3)]) else none
 | _=>none
theorem k151:Known Tryz.prog 151:=⟨Tryz.f151,Tryz.func151,by kernel_rfl,by kernel_rfl⟩
theorem meets151:Meets Tryz.prog 151 m151:=by
 refine mt (lvl:=0) (cf:=c151) rfl mixed k151 Tryz.func151 (by kernel_rfl) (loops_cons ok151_0 noLoop) (allT_cons meets52 allT_nil) allM_nil noI fun xs r h=>?_
 unfold m151 at h
 split at h
 ·rename_i g0 a0 a1 a2 a3
  obtain ⟨hg,h⟩:=bif_pair h
  have q0:=hg
  obtain rfl:=cE q0
  obtain ⟨h1,rfl⟩:=pair_inj h
  exact (e151 a0 a1 a2 a3).trans ((br (fun b=>some (AV.tup [AV.fl [.int .i64,.int .i64] (bif b then ([]:List AV) else (bif decide (a2 > (a0.length:Int)) then ([]:List AV) else (ro (runW (R151_0 a0 a3) (((IntKind.i64.wrap (a2 - 1)) - a1+1:Int).toNat+1) (a1,IntKind.i64.wrap (a2 - 1),([]:List AV))) [] (fun p31=>p31.2)))),Ai (bif b then 0 else (bif decide (a2 > (a0.length:Int)) then 0 else (ro (runW (R151_0 a0 a3) (((IntKind.i64.wrap (a2 - 1)) - a1+1:Int).toNat+1) (a1,IntKind.i64.wrap (a2 - 1),([]:List AV))) 0 (fun p31=>p31.1))))])) (fun _=>rfl) (br (fun b=>some (AV.tup [AV.fl [.int .i64,.int .i64] (bif b then ([]:List AV) else (ro (runW (R151_0 a0 a3) (((IntKind.i64.wrap (a2 - 1)) - a1+1:Int).toNat+1) (a1,IntKind.i64.wrap (a2 - 1),([]:List AV))) [] (fun p31=>p31.2))),Ai (bif b then 0 else (ro (runW (R151_0 a0 a3) (((IntKind.i64.wrap (a2 - 1)) - a1+1:Int).toNat+1) (a1,IntKind.i64.wrap (a2 - 1),([]:List AV))) 0 (fun p31=>p31.1)))])) (fun _=>rfl) (brO (fun o:Option ((Int × (List AV)))=>some (AV.tup [AV.fl [.int .i64,.int .i64] (ro o [] (fun p31=>p31.2)),Ai (ro o 0 (fun p31=>p31.1))])) (fun p31=>(fun _=>rfl))))) h1)
 ·cases h
noncomputable def c122:Cfg:=cfg Tryz.prog [(122,999,[])] [] [] [] []
def q122 (a1 a2:Int) (b0:List AV):Bool:=((decide (0≤a1) && decide (a1<(b0.length:Int))) && ((decide (0≤a2) && decide (a2<(b0.length:Int))) && ((decide (0≤a1) && decide (a1<(b0.length:Int))) && (decide (0≤a2) && decide (a2<((b0.set a1.toNat (AV.agg [AV.int .i64 (fI (b0.getD a2.toNat .undef) 0)])).length:Int))))))
def v122_0 (a1 a2:Int) (b0:List AV):List AV:=(b0.set a1.toNat (AV.agg [AV.int .i64 (fI (b0.getD a2.toNat .undef) 0)])).set a2.toNat (AV.agg [AV.int .i64 (fI (b0.getD a1.toNat .undef) 0)])
theorem e122 (a1 a2:Int) (b0:List AV) (K:AV→List Blk→Option AV):inlA c122 1 122 [AV.own [1],Ai a1,Ai a2] [0] (canH 1 [⟨false,[.int .i64],b0⟩]) (keepB 1 K)=(bif (decide (0≤a1) && decide (a1<(b0.length:Int))) then (bif (decide (0≤a2) && decide (a2<(b0.length:Int))) then (bif (decide (0≤a1) && decide (a1<(b0.length:Int))) then (bif (decide (0≤a2) && decide (a2<((b0.set a1.toNat (AV.agg [Ai (fI (b0.getD a2.toNat .undef) 0)])).length:Int))) then K (AV.tup []) [⟨false,[.int .i64],(b0.set a1.toNat (AV.agg [Ai (fI (b0.getD a2.toNat .undef) 0)])).set a2.toNat (AV.agg [Ai (fI (b0.getD a1.toNat .undef) 0)])⟩]
 else none)
 else none)
 else none)
 else none):=by kernel_rfl
theorem r122 (a1 a2:Int) (b0:List AV) (K:AV→List Blk→Option AV) (h:q122 a1 a2 b0=true):inlA c122 1 122 [AV.own [1],AV.int .i64 a1,AV.int .i64 a2] [0] (canH 1 [⟨false,[.int .i64],b0⟩]) (keepB 1 K)=K (AV.tup []) [⟨false,[.int .i64],(v122_0 a1 a2 b0)⟩]:=(e122 a1 a2 b0 K).trans ((brL (brL (brL (brL1 (fun _=>rfl))))) h)
def m122:WModel
 | [.own g0,.int .i64 a1,.int .i64 a2],[⟨false,g1,b0⟩]=>bif nmEq g0 ([1]) && ctsEq g1 ([.int .i64]) then some (q122 a1 a2 b0,AV.tup [],[⟨false,[.int .i64],(v122_0 a1 a2 b0)⟩]) else none
 | _,_=>none
theorem k122:Known Tryz.prog 122:=⟨Tryz.f122,Tryz.func122,by kernel_rfl,by kernel_rfl⟩
theorem meets122:MeetsM Tryz.prog 122 m122:=by
 refine mw (lvl:=0) (cf:=c122) rfl mixed k122 Tryz.func122 (by kernel_rfl) noLoop allT_nil allM_nil noI fun xs bs r bs' h K=>?_
 unfold m122 at h
 split at h
 ·rename_i g0 a1 a2 g1 b0
  obtain ⟨hg,h⟩:=bif_pair h
  simp only [Bool.and_eq_true] at hg
  obtain ⟨q0,q1⟩:=hg
  obtain rfl:=nE q0
  obtain rfl:=cE q1
  obtain ⟨h1,rfl,rfl⟩:=trip_inj h
  exact r122 a1 a2 b0 K h1
 ·cases h
def G152_0 {β:Type} (t1:List AV) (h2_0:List AV) (h2_1:List AV) (h2_2:List AV) (h3:List AV) (t7:Int) (h0:List AV) (h1:List AV) (N:((Int × (List AV) × (List AV)))→β) (K:(((List AV) × (List AV)) ⊕ ((List AV) × (List AV) × (List AV) × (List AV) × (List AV)))→β) (d:β):β:=(bif decide (t7<(t1.length:Int)) then (bif (decide (0≤t7) && decide (t7<(t1.length:Int))) then (bif (decide (0≤t7) && decide (t7<(t1.length:Int))) then (bif !(v52_0 (fI (t1.getD t7.toNat .undef) 0) 0 (IntKind.i64.wrap ((h0.length:Int) - 1))) then (bif q69 h2_0 h2_1 h2_2 then K (.inr (h0,h1,(v69_0 h2_0 h2_1 h2_2),(v69_1 h2_0 h2_1 h2_2),(v69_2 h2_0 h2_1 h2_2)))
 else d)
 else (bif !(v52_0 (fI (t1.getD t7.toNat .undef) 1) 0 (IntKind.i64.wrap ((h0.length:Int) - 1))) then (bif q69 h2_0 h2_1 h2_2 then K (.inr (h0,h1,(v69_0 h2_0 h2_1 h2_2),(v69_1 h2_0 h2_1 h2_2),(v69_2 h2_0 h2_1 h2_2)))
 else d)
 else (bif q122 (fI (t1.getD t7.toNat .undef) 0) (fI (t1.getD t7.toNat .undef) 1) h0 then (bif q122 (fI (t1.getD t7.toNat .undef) 0) (fI (t1.getD t7.toNat .undef) 1) h1 then N (IntKind.i64.wrap (t7+1),(v122_0 (fI (t1.getD t7.toNat .undef) 0) (fI (t1.getD t7.toNat .undef) 1) h0),(v122_0 (fI (t1.getD t7.toNat .undef) 0) (fI (t1.getD t7.toNat .undef) 1) h1))
 else d)
 else d)))
 else d)
 else d)
 else K (.inl (h0,h1)))
def F152_0 (t1 h2_0 h2_1 h2_2 h3:List AV) (t7:Int) (h0 h1:List AV):Out ((Int × (List AV) × (List AV))) (((List AV) × (List AV)) ⊕ ((List AV) × (List AV) × (List AV) × (List AV) × (List AV))):=G152_0 t1 h2_0 h2_1 h2_2 h3 t7 h0 h1 .next .stop .fail
def R152_0 (t1 h2_0 h2_1 h2_2 h3:List AV):((Int × (List AV) × (List AV)))→Out ((Int × (List AV) × (List AV))) (((List AV) × (List AV)) ⊕ ((List AV) × (List AV) × (List AV) × (List AV) × (List AV))):=fun s:Int × (List AV) × (List AV)=>F152_0 t1 h2_0 h2_1 h2_2 h3 s.1 s.2.1 s.2.2
def E152_0 (t1 h2_0 h2_1 h2_2 h3:List AV):((Int × (List AV) × (List AV)))→St:=fun s:Int × (List AV) × (List AV)=>⟨[(1,AV.sl [.int .i64,.int .i64] t1),(2,AV.ptr [0,2] 0 0),(4,AV.ptr [0,4] 0 0),(6,AV.ptr [0,6] 0 0),(7,Ai s.1)],[([0,0,6],⟨false,[.int .i64],s.2.1⟩),([0,1,6],⟨false,[.int .i64],s.2.2⟩),([0,2],⟨true,[],[AV.agg [AV.sl [.int .i64] h2_0,AV.sl [.int .i64] h2_1,AV.sl [.int .i64,.int .i64] h2_2]]⟩),([0,2,6],⟨false,[.int .i64,.int .i64],h3⟩),([0,4],⟨true,[],[AV.agg [AV.snil,AV.snil,AV.snil]]⟩),([0,6],⟨true,[],[AV.agg [AV.own [0,0,6],AV.own [0,1,6],AV.own [0,2,6]]]⟩)]⟩
def K152_0 (t1 h2_0 h2_1 h2_2 h3:List AV) (k:Kont):(((List AV) × (List AV)) ⊕ ((List AV) × (List AV) × (List AV) × (List AV) × (List AV)))→Option AV:=sumE (fun p:(List AV) × (List AV)=>k (.exit 0) ⟨[(4,AV.ptr [0,4] 0 0),(6,AV.ptr [0,6] 0 0)],[([0,0,6],⟨false,[.int .i64],p.1⟩),([0,1,6],⟨false,[.int .i64],p.2⟩),([0,2],⟨true,[],[AV.agg [AV.sl [.int .i64] h2_0,AV.sl [.int .i64] h2_1,AV.sl [.int .i64,.int .i64] h2_2]]⟩),([0,2,6],⟨false,[.int .i64,.int .i64],h3⟩),([0,4],⟨true,[],[AV.agg [AV.snil,AV.snil,AV.snil]]⟩),([0,6],⟨true,[],[AV.agg [AV.own [0,0,6],AV.own [0,1,6],AV.own [0,2,6]]]⟩)]⟩) (fun p:(List AV) × (List AV) × (List AV) × (List AV) × (List AV)=>k .ret ⟨[(4,AV.ptr [0,4] 0 0),(5,AV.bool false)],[([0,0,6],⟨false,[.int .i64],p.1⟩),([0,1,6],⟨false,[.int .i64],p.2.1⟩),([0,1,53],⟨false,[.int .i64],p.2.2.1⟩),([0,2],⟨true,[],[AV.agg [AV.sl [.int .i64] h2_0,AV.sl [.int .i64] h2_1,AV.sl [.int .i64,.int .i64] h2_2]]⟩),([0,2,6],⟨false,[.int .i64,.int .i64],h3⟩),([0,4],⟨true,[],[AV.agg [AV.own [0,1,53],AV.own [1,1,53],AV.own [2,1,53]]]⟩),([0,6],⟨true,[],[AV.agg [AV.own [0,0,6],AV.own [0,1,6],AV.own [0,2,6]]]⟩),([1,1,53],⟨false,[.int .i64],p.2.2.2.1⟩),([2,1,53],⟨false,[.int .i64,.int .i64],p.2.2.2.2⟩)]⟩)
def l152_0:LModel:=fun _ _ st k=>match st with
 | ⟨[(1,.sl g0 t1),(2,.ptr g1 g2 g3),(4,.ptr g4 g5 g6),(6,.ptr g7 g8 g9),(7,.int .i64 t7)],[(g10,⟨false,g11,h0⟩),(g12,⟨false,g13,h1⟩),(g14,⟨true,[],[.agg [.sl g15 h2_0,.sl g16 h2_1,.sl g17 h2_2]]⟩),(g18,⟨false,g19,h3⟩),(g20,⟨true,[],[.agg [.snil,.snil,.snil]]⟩),(g21,⟨true,[],[.agg [.own g22,.own g23,.own g24]]⟩)]⟩=>bif ctsEq g0 ([.int .i64,.int .i64]) && nmEq g1 ([0,2]) && Nat.beq g2 0 && Nat.beq g3 0 && nmEq g4 ([0,4]) && Nat.beq g5 0 && Nat.beq g6 0 && nmEq g7 ([0,6]) && Nat.beq g8 0 && Nat.beq g9 0 && nmEq g10 ([0,0,6]) && ctsEq g11 ([.int .i64]) && nmEq g12 ([0,1,6]) && ctsEq g13 ([.int .i64]) && nmEq g14 ([0,2]) && ctsEq g15 ([.int .i64]) && ctsEq g16 ([.int .i64]) && ctsEq g17 ([.int .i64,.int .i64]) && nmEq g18 ([0,2,6]) && ctsEq g19 ([.int .i64,.int .i64]) && nmEq g20 ([0,4]) && nmEq g21 ([0,6]) && nmEq g22 ([0,0,6]) && nmEq g23 ([0,1,6]) && nmEq g24 ([0,2,6]) then ro (runW (R152_0 t1 h2_0 h2_1 h2_2 h3) (((t1.length:Int) - t7:Int).toNat+1) (t7,h0,h1)) none (K152_0 t1 h2_0 h2_1 h2_2 h3 k) else none
 | _=>none
noncomputable def c152:Cfg:=cfg Tryz.prog [(152,0,[1,2,4,6,7]),(152,999,[4,5]),(152,1000,[4,6]),(152,1001,[1,2,4,6,7])] [(52,m52),(69,m69)] [(122,.w m122)] [] [(152,0,l152_0)]
theorem s152_0 (t1 h2_0 h2_1 h2_2 h3:List AV) (ce:CallE) (k:Kont) (s:Int × (List AV) × (List AV)) (next:St→Option AV):stepA (codeA c152 ce [] 152 0 (sub [1,1,1,0,1,0,0] (body Tryz.f152))) (normA [] [1,2,4,6,7]) next ((E152_0 t1 h2_0 h2_1 h2_2 h3) s) k=G152_0 t1 h2_0 h2_1 h2_2 h3 s.1 s.2.1 s.2.2 (fun s=>next ((E152_0 t1 h2_0 h2_1 h2_2 h3) s)) (K152_0 t1 h2_0 h2_1 h2_2 h3 k) none:=by kernel_rfl
theorem st152_0 (t1 h2_0 h2_1 h2_2 h3:List AV) (ce:CallE) (k:Kont) (s:(Int × (List AV) × (List AV))) (next:St→Option AV):stepA (codeA c152 ce [] 152 0 (sub [1,1,1,0,1,0,0] (body Tryz.f152))) (normA [] [1,2,4,6,7]) next ((E152_0 t1 h2_0 h2_1 h2_2 h3) s) k=(R152_0 t1 h2_0 h2_1 h2_2 h3 s).el none (fun s=>next ((E152_0 t1 h2_0 h2_1 h2_2 h3) s)) (K152_0 t1 h2_0 h2_1 h2_2 h3 k):=(s152_0 t1 h2_0 h2_1 h2_2 h3 ce k s next).trans (by unfold R152_0;unfold F152_0 G152_0;simp only [el_cond,el_ro,el_sum,el_fail,el_next,el_stop] <;> rfl)
theorem ok152_0 {ce:CallE}:LoopOK c152 ce [] 152 0 (sub [1,1,1,0,1,0,0] (body Tryz.f152)):=by
 intro m hm st k r h
 obtain rfl:l152_0=m:=Option.some.inj hm
 unfold l152_0 at h
 split at h
 ·rename_i g0 t1 g1 g2 g3 g4 g5 g6 g7 g8 g9 t7 g10 g11 h0 g12 g13 h1 g14 g15 h2_0 g16 h2_1 g17 h2_2 g18 g19 h3 g20 g21 g22 g23 g24
  obtain ⟨hg,h⟩:=bif_some h
  simp only [Bool.and_eq_true] at hg
  obtain ⟨⟨⟨⟨⟨⟨⟨⟨⟨⟨⟨⟨⟨⟨⟨⟨⟨⟨⟨⟨⟨⟨⟨⟨q0,q1⟩,q2⟩,q3⟩,q4⟩,q5⟩,q6⟩,q7⟩,q8⟩,q9⟩,q10⟩,q11⟩,q12⟩,q13⟩,q14⟩,q15⟩,q16⟩,q17⟩,q18⟩,q19⟩,q20⟩,q21⟩,q22⟩,q23⟩,q24⟩:=hg
  obtain rfl:=cE q0
  obtain rfl:=nE q1
  obtain rfl:=bE q2
  obtain rfl:=bE q3
  obtain rfl:=nE q4
  obtain rfl:=bE q5
  obtain rfl:=bE q6
  obtain rfl:=nE q7
  obtain rfl:=bE q8
  obtain rfl:=bE q9
  obtain rfl:=nE q10
  obtain rfl:=cE q11
  obtain rfl:=nE q12
  obtain rfl:=cE q13
  obtain rfl:=nE q14
  obtain rfl:=cE q15
  obtain rfl:=cE q16
  obtain rfl:=cE q17
  obtain rfl:=nE q18
  obtain rfl:=cE q19
  obtain rfl:=nE q20
  obtain rfl:=nE q21
  obtain rfl:=nE q22
  obtain rfl:=nE q23
  obtain rfl:=nE q24
  refine ⟨(((t1.length:Int) - t7:Int).toNat+1),?_⟩
  rw [← h]
  exact loop_run (E152_0 t1 h2_0 h2_1 h2_2 h3) (K152_0 t1 h2_0 h2_1 h2_2 h3 k) (st152_0 t1 h2_0 h2_1 h2_2 h3 ce k) _ (t7,h0,h1)
 ·cases h
def q152 (xa xb xc a1:List AV):Bool:=(q69 xa xb xc && (bif !decide (((v69_1 xa xb xc).length:Int)=((v69_0 xa xb xc).length:Int)) then true else (ro (runW (R152_0 a1 xa xb xc (v69_2 xa xb xc)) (((a1.length:Int) - 0:Int).toNat+1) (0,(v69_0 xa xb xc),(v69_1 xa xb xc))) false (sumE (fun p32=>true) (fun p33=>true)))))
def v152_0 (xa xb xc a1:List AV):List AV:=(bif !decide (((v69_1 xa xb xc).length:Int)=((v69_0 xa xb xc).length:Int)) then (v69_0 xa xb xc) else (ro (runW (R152_0 a1 xa xb xc (v69_2 xa xb xc)) (((a1.length:Int) - 0:Int).toNat+1) (0,(v69_0 xa xb xc),(v69_1 xa xb xc))) [] (sumE (fun p32=>p32.1) (fun p33=>p33.2.2.1))))
def v152_1 (xa xb xc a1:List AV):List AV:=(bif !decide (((v69_1 xa xb xc).length:Int)=((v69_0 xa xb xc).length:Int)) then (v69_1 xa xb xc) else (ro (runW (R152_0 a1 xa xb xc (v69_2 xa xb xc)) (((a1.length:Int) - 0:Int).toNat+1) (0,(v69_0 xa xb xc),(v69_1 xa xb xc))) [] (sumE (fun p32=>p32.2) (fun p33=>p33.2.2.2.1))))
def v152_2 (xa xb xc a1:List AV):List AV:=(bif !decide (((v69_1 xa xb xc).length:Int)=((v69_0 xa xb xc).length:Int)) then (v69_2 xa xb xc) else (ro (runW (R152_0 a1 xa xb xc (v69_2 xa xb xc)) (((a1.length:Int) - 0:Int).toNat+1) (0,(v69_0 xa xb xc),(v69_1 xa xb xc))) [] (sumE (fun p32=>(v69_2 xa xb xc)) (fun p33=>p33.2.2.2.2))))
def v152_3 (xa xb xc a1:List AV):Bool:=(bif !decide (((v69_1 xa xb xc).length:Int)=((v69_0 xa xb xc).length:Int)) then false else (ro (runW (R152_0 a1 xa xb xc (v69_2 xa xb xc)) (((a1.length:Int) - 0:Int).toNat+1) (0,(v69_0 xa xb xc),(v69_1 xa xb xc))) false (sumE (fun p32=>true) (fun p33=>false))))
theorem e152 (xa xb xc a1:List AV):funA c152 0 152 [AV.agg [AV.sl [.int .i64] xa,AV.sl [.int .i64] xb,AV.sl [.int .i64,.int .i64] xc],AV.sl [.int .i64,.int .i64] a1]=(bif q69 xa xb xc then (bif !decide (((v69_1 xa xb xc).length:Int)=((v69_0 xa xb xc).length:Int)) then some (AV.tup [AV.agg [AV.fl [.int .i64] (v69_0 xa xb xc),AV.fl [.int .i64] (v69_1 xa xb xc),AV.fl [.int .i64,.int .i64] (v69_2 xa xb xc)],AV.bool false])
 else (ro (runW (R152_0 a1 xa xb xc (v69_2 xa xb xc)) (((a1.length:Int) - 0:Int).toNat+1) (0,(v69_0 xa xb xc),(v69_1 xa xb xc))) none (sumE (fun p32=>some (AV.tup [AV.agg [AV.fl [.int .i64] p32.1,AV.fl [.int .i64] p32.2,AV.fl [.int .i64,.int .i64] (v69_2 xa xb xc)],AV.bool true])) (fun p33=>some (AV.tup [AV.agg [AV.fl [.int .i64] p33.2.2.1,AV.fl [.int .i64] p33.2.2.2.1,AV.fl [.int .i64,.int .i64] p33.2.2.2.2],AV.bool false])))))
 else none):=by kernel_rfl
theorem r152 (xa xb xc a1:List AV) (h:q152 xa xb xc a1=true):funA c152 0 152 [AV.agg [AV.sl [.int .i64] xa,AV.sl [.int .i64] xb,AV.sl [.int .i64,.int .i64] xc],AV.sl [.int .i64,.int .i64] a1]=some (AV.tup [AV.agg [AV.fl [.int .i64] (v152_0 xa xb xc a1),AV.fl [.int .i64] (v152_1 xa xb xc a1),AV.fl [.int .i64,.int .i64] (v152_2 xa xb xc a1)],AV.bool (v152_3 xa xb xc a1)]):=by
 refine (e152 xa xb xc a1).trans ?_
 unfold q152 at h
 unfold v152_0 v152_1 v152_2 v152_3
 refine ifG (fun hc=>?_) (fun hc=>?_) <;> first|rw [hc] at h ⊢|rw [hc] at h|rw [hc]|skip
 ·refine ifG (fun hc=>?_) (fun hc=>?_) <;> first|rw [hc] at h ⊢|rw [hc] at h|rw [hc]|skip
  ·rfl
  ·refine roG (fun hc=>?_) (fun r hc=>?_) <;> first|rw [hc] at h ⊢|rw [hc] at h|rw [hc]|skip
   ·exact Bool.noConfusion h
   ·try simp only [ro] at h ⊢
    cases r with
    | inl p32 =>
     try simp only [sumE] at h ⊢
     rfl
    | inr p33 =>
     try simp only [sumE] at h ⊢
     rfl
 ·first|exact Bool.noConfusion h|exact Bool.noConfusion hc
def m152:TModel
 | [.agg [.sl g0 xa,.sl g1 xb,.sl g2 xc],.sl g3 a1]=>bif ctsEq g0 ([.int .i64]) && ctsEq g1 ([.int .i64]) && ctsEq g2 ([.int .i64,.int .i64]) && ctsEq g3 ([.int .i64,.int .i64]) then some (q152 xa xb xc a1,AV.tup [AV.agg [AV.fl [.int .i64] (v152_0 xa xb xc a1),AV.fl [.int .i64] (v152_1 xa xb xc a1),AV.fl [.int .i64,.int .i64] (v152_2 xa xb xc a1)],AV.bool (v152_3 xa xb xc a1)]) else none
 | _=>none
theorem k152:Known Tryz.prog 152:=⟨Tryz.f152,Tryz.func152,by kernel_rfl,by kernel_rfl⟩
theorem meets152:Meets Tryz.prog 152 m152:=by
 refine mt (lvl:=0) (cf:=c152) rfl mixed k152 Tryz.func152 (by kernel_rfl) (loops_cons ok152_0 noLoop) (allT_cons meets52 (allT_cons meets69 allT_nil)) (allM_cons meets122 allM_nil) noI fun xs r h=>?_
 unfold m152 at h
 split at h
 ·rename_i g0 xa g1 xb g2 xc g3 a1
  obtain ⟨hg,h⟩:=bif_pair h
  simp only [Bool.and_eq_true] at hg
  obtain ⟨⟨⟨q0,q1⟩,q2⟩,q3⟩:=hg
  obtain rfl:=cE q0
  obtain rfl:=cE q1
  obtain rfl:=cE q2
  obtain rfl:=cE q3
  obtain ⟨h1,rfl⟩:=pair_inj h
  exact r152 xa xb xc a1 h1
 ·cases h
def G153_0 {β:Type} (h0:List AV) (h1:List AV) (h2_0:List AV) (h2_1:List AV) (h2_2:List AV) (h4_0:Int) (h4_1:Int) (t7:Bool) (t8:Int) (h3:List AV) (N:((Bool × Int × (List AV)))→β) (K:((Bool × (List AV)))→β) (d:β):β:=(bif decide (t8<(h2_2.length:Int)) then (bif !t7 then (bif (decide (0≤t8) && decide (t8<(h2_2.length:Int))) then (bif decide (fI (h2_2.getD t8.toNat .undef) 0 > h4_0) then (bif (decide ((h3.length+([AV.agg [AV.int .i64 h4_0,AV.int .i64 h4_1]]).length)*16≤140737488355328) && decide ((h3.length+([AV.agg [AV.int .i64 h4_0,AV.int .i64 h4_1]]).length)≤140737488355328)) then (bif (decide (0≤t8) && decide (t8<(h2_2.length:Int))) then (bif (decide (((h3++([AV.agg [AV.int .i64 h4_0,AV.int .i64 h4_1]])).length+([AV.agg [AV.int .i64 (fI (h2_2.getD t8.toNat .undef) 0),AV.int .i64 (fI (h2_2.getD t8.toNat .undef) 1)]]).length)*16≤140737488355328) && decide (((h3++([AV.agg [AV.int .i64 h4_0,AV.int .i64 h4_1]])).length+([AV.agg [AV.int .i64 (fI (h2_2.getD t8.toNat .undef) 0),AV.int .i64 (fI (h2_2.getD t8.toNat .undef) 1)]]).length)≤140737488355328)) then N (true,IntKind.i64.wrap (t8+1),(h3++([AV.agg [AV.int .i64 h4_0,AV.int .i64 h4_1]]))++([AV.agg [AV.int .i64 (fI (h2_2.getD t8.toNat .undef) 0),AV.int .i64 (fI (h2_2.getD t8.toNat .undef) 1)]]))
 else d)
 else d)
 else d)
 else (bif (decide (0≤t8) && decide (t8<(h2_2.length:Int))) then (bif (decide ((h3.length+([AV.agg [AV.int .i64 (fI (h2_2.getD t8.toNat .undef) 0),AV.int .i64 (fI (h2_2.getD t8.toNat .undef) 1)]]).length)*16≤140737488355328) && decide ((h3.length+([AV.agg [AV.int .i64 (fI (h2_2.getD t8.toNat .undef) 0),AV.int .i64 (fI (h2_2.getD t8.toNat .undef) 1)]]).length)≤140737488355328)) then N (t7,IntKind.i64.wrap (t8+1),h3++([AV.agg [AV.int .i64 (fI (h2_2.getD t8.toNat .undef) 0),AV.int .i64 (fI (h2_2.getD t8.toNat .undef) 1)]]))
 else d)
 else d))
 else d)
 else (bif (decide (0≤t8) && decide (t8<(h2_2.length:Int))) then (bif (decide ((h3.length+([AV.agg [AV.int .i64 (fI (h2_2.getD t8.toNat .undef) 0),AV.int .i64 (fI (h2_2.getD t8.toNat .undef) 1)]]).length)*16≤140737488355328) && decide ((h3.length+([AV.agg [AV.int .i64 (fI (h2_2.getD t8.toNat .undef) 0),AV.int .i64 (fI (h2_2.getD t8.toNat .undef) 1)]]).length)≤140737488355328)) then N (t7,IntKind.i64.wrap (t8+1),h3++([AV.agg [AV.int .i64 (fI (h2_2.getD t8.toNat .undef) 0),AV.int .i64 (fI (h2_2.getD t8.toNat .undef) 1)]]))
 else d)
 else d))
 else K (t7,h3))
def F153_0 (h0 h1 h2_0 h2_1 h2_2:List AV) (h4_0 h4_1:Int) (t7:Bool) (t8:Int) (h3:List AV):Out ((Bool × Int × (List AV))) ((Bool × (List AV))):=G153_0 h0 h1 h2_0 h2_1 h2_2 h4_0 h4_1 t7 t8 h3 .next .stop .fail
def R153_0 (h0 h1 h2_0 h2_1 h2_2:List AV) (h4_0 h4_1:Int):((Bool × Int × (List AV)))→Out ((Bool × Int × (List AV))) ((Bool × (List AV))):=fun s:Bool × Int × (List AV)=>F153_0 h0 h1 h2_0 h2_1 h2_2 h4_0 h4_1 s.1 s.2.1 s.2.2
def E153_0 (h0 h1 h2_0 h2_1 h2_2:List AV) (h4_0 h4_1:Int):((Bool × Int × (List AV)))→St:=fun s:Bool × Int × (List AV)=>⟨[(2,AV.ptr [0,2] 0 0),(3,AV.ptr [0,3] 0 0),(4,AV.ptr [0,4] 0 0),(6,AV.ptr [0,6] 0 0),(7,AV.bool s.1),(8,Ai s.2.1)],[([0,0,6],⟨false,[.int .i64],h0⟩),([0,1,6],⟨false,[.int .i64],h1⟩),([0,2],⟨true,[],[AV.agg [AV.sl [.int .i64] h2_0,AV.sl [.int .i64] h2_1,AV.sl [.int .i64,.int .i64] h2_2]]⟩),([0,2,6],⟨false,[.int .i64,.int .i64],s.2.2⟩),([0,3],⟨true,[],[AV.agg [Ai h4_0,Ai h4_1]]⟩),([0,4],⟨true,[],[AV.agg [AV.snil,AV.snil,AV.snil]]⟩),([0,6],⟨true,[],[AV.agg [AV.own [0,0,6],AV.own [0,1,6],AV.own [0,2,6]]]⟩)]⟩
def K153_0 (h0 h1 h2_0 h2_1 h2_2:List AV) (h4_0 h4_1:Int) (k:Kont):((Bool × (List AV)))→Option AV:=fun p:Bool × (List AV)=>k (.exit 0) ⟨[(2,AV.ptr [0,2] 0 0),(3,AV.ptr [0,3] 0 0),(4,AV.ptr [0,4] 0 0),(6,AV.ptr [0,6] 0 0),(7,AV.bool p.1)],[([0,0,6],⟨false,[.int .i64],h0⟩),([0,1,6],⟨false,[.int .i64],h1⟩),([0,2],⟨true,[],[AV.agg [AV.sl [.int .i64] h2_0,AV.sl [.int .i64] h2_1,AV.sl [.int .i64,.int .i64] h2_2]]⟩),([0,2,6],⟨false,[.int .i64,.int .i64],p.2⟩),([0,3],⟨true,[],[AV.agg [Ai h4_0,Ai h4_1]]⟩),([0,4],⟨true,[],[AV.agg [AV.snil,AV.snil,AV.snil]]⟩),([0,6],⟨true,[],[AV.agg [AV.own [0,0,6],AV.own [0,1,6],AV.own [0,2,6]]]⟩)]⟩
def l153_0:LModel:=fun _ _ st k=>match st with
 | ⟨[(2,.ptr g0 g1 g2),(3,.ptr g3 g4 g5),(4,.ptr g6 g7 g8),(6,.ptr g9 g10 g11),(7,.bool t7),(8,.int .i64 t8)],[(g12,⟨false,g13,h0⟩),(g14,⟨false,g15,h1⟩),(g16,⟨true,[],[.agg [.sl g17 h2_0,.sl g18 h2_1,.sl g19 h2_2]]⟩),(g20,⟨false,g21,h3⟩),(g22,⟨true,[],[.agg [.int .i64 h4_0,.int .i64 h4_1]]⟩),(g23,⟨true,[],[.agg [.snil,.snil,.snil]]⟩),(g24,⟨true,[],[.agg [.own g25,.own g26,.own g27]]⟩)]⟩=>bif nmEq g0 ([0,2]) && Nat.beq g1 0 && Nat.beq g2 0 && nmEq g3 ([0,3]) && Nat.beq g4 0 && Nat.beq g5 0 && nmEq g6 ([0,4]) && Nat.beq g7 0 && Nat.beq g8 0 && nmEq g9 ([0,6]) && Nat.beq g10 0 && Nat.beq g11 0 && nmEq g12 ([0,0,6]) && ctsEq g13 ([.int .i64]) && nmEq g14 ([0,1,6]) && ctsEq g15 ([.int .i64]) && nmEq g16 ([0,2]) && ctsEq g17 ([.int .i64]) && ctsEq g18 ([.int .i64]) && ctsEq g19 ([.int .i64,.int .i64]) && nmEq g20 ([0,2,6]) && ctsEq g21 ([.int .i64,.int .i64]) && nmEq g22 ([0,3]) && nmEq g23 ([0,4]) && nmEq g24 ([0,6]) && nmEq g25 ([0,0,6]) && nmEq g26 ([0,1,6]) && nmEq g27 ([0,2,6]) then ro (runW (R153_0 h0 h1 h2_0 h2_1 h2_2 h4_0 h4_1) (((h2_2.length:Int) - t8:Int).toNat+1) (t7,t8,h3)) none (K153_0 h0 h1 h2_0 h2_1 h2_2 h4_0 h4_1 k) else none
 | _=>none
noncomputable def c153:Cfg:=cfg Tryz.prog [(153,0,[2,3,4,6,7,8]),(153,999,[4,5]),(153,1000,[2,3,4,6,7]),(153,1001,[2,3,4,6,7,8])] [(68,m68),(69,m69)] [] [] [(153,0,l153_0)]
theorem s153_0 (h0 h1 h2_0 h2_1 h2_2:List AV) (h4_0 h4_1:Int) (ce:CallE) (k:Kont) (s:Bool × Int × (List AV)) (next:St→Option AV):stepA (codeA c153 ce [] 153 0 (sub [1,1,1,1,0,1,0,0] (body Tryz.f153))) (normA [] [2,3,4,6,7,8]) next ((E153_0 h0 h1 h2_0 h2_1 h2_2 h4_0 h4_1) s) k=G153_0 h0 h1 h2_0 h2_1 h2_2 h4_0 h4_1 s.1 s.2.1 s.2.2 (fun s=>next ((E153_0 h0 h1 h2_0 h2_1 h2_2 h4_0 h4_1) s)) (K153_0 h0 h1 h2_0 h2_1 h2_2 h4_0 h4_1 k) none:=by kernel_rfl
theorem st153_0 (h0 h1 h2_0 h2_1 h2_2:List AV) (h4_0 h4_1:Int) (ce:CallE) (k:Kont) (s:(Bool × Int × (List AV))) (next:St→Option AV):stepA (codeA c153 ce [] 153 0 (sub [1,1,1,1,0,1,0,0] (body Tryz.f153))) (normA [] [2,3,4,6,7,8]) next ((E153_0 h0 h1 h2_0 h2_1 h2_2 h4_0 h4_1) s) k=(R153_0 h0 h1 h2_0 h2_1 h2_2 h4_0 h4_1 s).el none (fun s=>next ((E153_0 h0 h1 h2_0 h2_1 h2_2 h4_0 h4_1) s)) (K153_0 h0 h1 h2_0 h2_1 h2_2 h4_0 h4_1 k):=(s153_0 h0 h1 h2_0 h2_1 h2_2 h4_0 h4_1 ce k s next).trans (by unfold R153_0;unfold F153_0 G153_0;simp only [el_cond,el_ro,el_sum,el_fail,el_next,el_stop] <;> rfl)
theorem ok153_0 {ce:CallE}:LoopOK c153 ce [] 153 0 (sub [1,1,1,1,0,1,0,0] (body Tryz.f153)):=by
 intro m hm st k r h
 obtain rfl:l153_0=m:=Option.some.inj hm
 unfold l153_0 at h
 split at h
 ·rename_i g0 g1 g2 g3 g4 g5 g6 g7 g8 g9 g10 g11 t7 t8 g12 g13 h0 g14 g15 h1 g16 g17 h2_0 g18 h2_1 g19 h2_2 g20 g21 h3 g22 h4_0 h4_1 g23 g24 g25 g26 g27
  obtain ⟨hg,h⟩:=bif_some h
  simp only [Bool.and_eq_true] at hg
  obtain ⟨⟨⟨⟨⟨⟨⟨⟨⟨⟨⟨⟨⟨⟨⟨⟨⟨⟨⟨⟨⟨⟨⟨⟨⟨⟨⟨q0,q1⟩,q2⟩,q3⟩,q4⟩,q5⟩,q6⟩,q7⟩,q8⟩,q9⟩,q10⟩,q11⟩,q12⟩,q13⟩,q14⟩,q15⟩,q16⟩,q17⟩,q18⟩,q19⟩,q20⟩,q21⟩,q22⟩,q23⟩,q24⟩,q25⟩,q26⟩,q27⟩:=hg
  obtain rfl:=nE q0
  obtain rfl:=bE q1
  obtain rfl:=bE q2
  obtain rfl:=nE q3
  obtain rfl:=bE q4
  obtain rfl:=bE q5
  obtain rfl:=nE q6
  obtain rfl:=bE q7
  obtain rfl:=bE q8
  obtain rfl:=nE q9
  obtain rfl:=bE q10
  obtain rfl:=bE q11
  obtain rfl:=nE q12
  obtain rfl:=cE q13
  obtain rfl:=nE q14
  obtain rfl:=cE q15
  obtain rfl:=nE q16
  obtain rfl:=cE q17
  obtain rfl:=cE q18
  obtain rfl:=cE q19
  obtain rfl:=nE q20
  obtain rfl:=cE q21
  obtain rfl:=nE q22
  obtain rfl:=nE q23
  obtain rfl:=nE q24
  obtain rfl:=nE q25
  obtain rfl:=nE q26
  obtain rfl:=nE q27
  refine ⟨(((h2_2.length:Int) - t8:Int).toNat+1),?_⟩
  rw [← h]
  exact loop_run (E153_0 h0 h1 h2_0 h2_1 h2_2 h4_0 h4_1) (K153_0 h0 h1 h2_0 h2_1 h2_2 h4_0 h4_1 k) (st153_0 h0 h1 h2_0 h2_1 h2_2 h4_0 h4_1 ce k) _ (t7,t8,h3)
 ·cases h
def q153 (xa xb xc:List AV) (ya yb:Int):Bool:=(q69 xa xb xc && (ro (runW (R153_0 (v69_0 xa xb xc) (v69_1 xa xb xc) xa xb xc ya yb) (((xc.length:Int) - 0:Int).toNat+1) (false,0,([]:List AV))) false (fun p34=>(bif !p34.1 then ((decide ((p34.2.length+([AV.agg [AV.int .i64 ya,AV.int .i64 yb]]).length)*16≤140737488355328) && decide ((p34.2.length+([AV.agg [AV.int .i64 ya,AV.int .i64 yb]]).length)≤140737488355328)) && (q68 xa xb xc && (bif !(v68_0 xa xb xc) then q69 xa xb xc else (q68 (v69_0 xa xb xc) (v69_1 xa xb xc) (p34.2++([AV.agg [AV.int .i64 ya,AV.int .i64 yb]])) && (bif !(v68_0 (v69_0 xa xb xc) (v69_1 xa xb xc) (p34.2++([AV.agg [AV.int .i64 ya,AV.int .i64 yb]]))) then q69 xa xb xc else true))))) else (q68 xa xb xc && (bif !(v68_0 xa xb xc) then q69 xa xb xc else (q68 (v69_0 xa xb xc) (v69_1 xa xb xc) p34.2 && (bif !(v68_0 (v69_0 xa xb xc) (v69_1 xa xb xc) p34.2) then q69 xa xb xc else true))))))))
def v153_0 (xa xb xc:List AV) (ya yb:Int):List AV:=(v69_0 xa xb xc)
def v153_1 (xa xb xc:List AV) (ya yb:Int):List AV:=(v69_1 xa xb xc)
def v153_2 (xa xb xc:List AV) (ya yb:Int):List AV:=(ro (runW (R153_0 (v69_0 xa xb xc) (v69_1 xa xb xc) xa xb xc ya yb) (((xc.length:Int) - 0:Int).toNat+1) (false,0,([]:List AV))) [] (fun p34=>(bif !p34.1 then (bif !(v68_0 xa xb xc) then (v69_2 xa xb xc) else (bif !(v68_0 (v69_0 xa xb xc) (v69_1 xa xb xc) (p34.2++([AV.agg [AV.int .i64 ya,AV.int .i64 yb]]))) then (v69_2 xa xb xc) else p34.2++([AV.agg [AV.int .i64 ya,AV.int .i64 yb]]))) else (bif !(v68_0 xa xb xc) then (v69_2 xa xb xc) else (bif !(v68_0 (v69_0 xa xb xc) (v69_1 xa xb xc) p34.2) then (v69_2 xa xb xc) else p34.2)))))
def v153_3 (xa xb xc:List AV) (ya yb:Int):Bool:=(ro (runW (R153_0 (v69_0 xa xb xc) (v69_1 xa xb xc) xa xb xc ya yb) (((xc.length:Int) - 0:Int).toNat+1) (false,0,([]:List AV))) false (fun p34=>(bif !p34.1 then (bif !(v68_0 xa xb xc) then false else (bif !(v68_0 (v69_0 xa xb xc) (v69_1 xa xb xc) (p34.2++([AV.agg [AV.int .i64 ya,AV.int .i64 yb]]))) then false else true)) else (bif !(v68_0 xa xb xc) then false else (bif !(v68_0 (v69_0 xa xb xc) (v69_1 xa xb xc) p34.2) then false else true)))))
theorem e153 (xa xb xc:List AV) (ya yb:Int):funA c153 0 153 [AV.agg [AV.sl [.int .i64] xa,AV.sl [.int .i64] xb,AV.sl [.int .i64,.int .i64] xc],AV.agg [Ai ya,Ai yb]]=((fun (x1:List AV) (x2:List AV) (x3:List AV)=>(bif q69 xa xb xc then (ro (runW (R153_0 x1 x2 xa xb xc ya yb) (((xc.length:Int) - 0:Int).toNat+1) (false,0,([]:List AV))) none (fun p34=>(bif !p34.1 then (bif (decide ((p34.2.length+([AV.agg [Ai ya,Ai yb]]).length)*16≤140737488355328) && decide ((p34.2.length+([AV.agg [Ai ya,Ai yb]]).length)≤140737488355328)) then (bif q68 xa xb xc then (bif !(v68_0 xa xb xc) then (bif q69 xa xb xc then some (AV.tup [AV.agg [AV.fl [.int .i64] x1,AV.fl [.int .i64] x2,AV.fl [.int .i64,.int .i64] x3],AV.bool false])
 else none)
 else (bif q68 x1 x2 (p34.2++([AV.agg [Ai ya,Ai yb]])) then (bif !(v68_0 x1 x2 (p34.2++([AV.agg [Ai ya,Ai yb]]))) then (bif q69 xa xb xc then some (AV.tup [AV.agg [AV.fl [.int .i64] x1,AV.fl [.int .i64] x2,AV.fl [.int .i64,.int .i64] x3],AV.bool false])
 else none)
 else some (AV.tup [AV.agg [AV.fl [.int .i64] x1,AV.fl [.int .i64] x2,AV.fl [.int .i64,.int .i64] (p34.2++([AV.agg [Ai ya,Ai yb]]))],AV.bool true]))
 else none))
 else none)
 else none)
 else (bif q68 xa xb xc then (bif !(v68_0 xa xb xc) then (bif q69 xa xb xc then some (AV.tup [AV.agg [AV.fl [.int .i64] x1,AV.fl [.int .i64] x2,AV.fl [.int .i64,.int .i64] x3],AV.bool false])
 else none)
 else (bif q68 x1 x2 p34.2 then (bif !(v68_0 x1 x2 p34.2) then (bif q69 xa xb xc then some (AV.tup [AV.agg [AV.fl [.int .i64] x1,AV.fl [.int .i64] x2,AV.fl [.int .i64,.int .i64] x3],AV.bool false])
 else none)
 else some (AV.tup [AV.agg [AV.fl [.int .i64] x1,AV.fl [.int .i64] x2,AV.fl [.int .i64,.int .i64] p34.2],AV.bool true]))
 else none))
 else none))))
 else none)) (v69_0 xa xb xc) (v69_1 xa xb xc) (v69_2 xa xb xc)):=by kernel_rfl
theorem r153 (xa xb xc:List AV) (ya yb:Int) (h:q153 xa xb xc ya yb=true):funA c153 0 153 [AV.agg [AV.sl [.int .i64] xa,AV.sl [.int .i64] xb,AV.sl [.int .i64,.int .i64] xc],AV.agg [AV.int .i64 ya,AV.int .i64 yb]]=some (AV.tup [AV.agg [AV.fl [.int .i64] (v153_0 xa xb xc ya yb),AV.fl [.int .i64] (v153_1 xa xb xc ya yb),AV.fl [.int .i64,.int .i64] (v153_2 xa xb xc ya yb)],AV.bool (v153_3 xa xb xc ya yb)]):=by
 refine (e153 xa xb xc ya yb).trans ?_
 unfold q153 at h
 unfold v153_0 v153_1 v153_2 v153_3
 refine ifG (fun hc=>?_) (fun hc=>?_) <;> first|rw [hc] at h ⊢|rw [hc] at h|rw [hc]|skip
 ·refine roG (fun hc=>?_) (fun r hc=>?_) <;> first|rw [hc] at h ⊢|rw [hc] at h|rw [hc]|skip
  ·exact Bool.noConfusion h
  ·try simp only [ro] at h ⊢
   refine ifG (fun hc=>?_) (fun hc=>?_) <;> first|rw [hc] at h ⊢|rw [hc] at h|rw [hc]|skip
   ·refine ifG (fun hc=>?_) (fun hc=>?_) <;> first|rw [hc] at h ⊢|rw [hc] at h|rw [hc]|skip
    ·refine ifG (fun hc=>?_) (fun hc=>?_) <;> first|rw [hc] at h ⊢|rw [hc] at h|rw [hc]|skip
     ·refine ifG (fun hc=>?_) (fun hc=>?_) <;> first|rw [hc] at h ⊢|rw [hc] at h|rw [hc]|skip
      ·refine ifT ?_
       rfl
      ·refine ifG (fun hc=>?_) (fun hc=>?_) <;> first|rw [hc] at h ⊢|rw [hc] at h|rw [hc]|skip
       ·refine ifG (fun hc=>?_) (fun hc=>?_) <;> first|rw [hc] at h ⊢|rw [hc] at h|rw [hc]|skip
        ·refine ifT ?_
         rfl
        ·rfl
       ·first|exact Bool.noConfusion h|exact Bool.noConfusion hc
     ·first|exact Bool.noConfusion h|exact Bool.noConfusion hc
    ·first|exact Bool.noConfusion h|exact Bool.noConfusion hc
   ·refine ifG (fun hc=>?_) (fun hc=>?_) <;> first|rw [hc] at h ⊢|rw [hc] at h|rw [hc]|skip
    ·refine ifG (fun hc=>?_) (fun hc=>?_) <;> first|rw [hc] at h ⊢|rw [hc] at h|rw [hc]|skip
     ·refine ifT ?_
      rfl
     ·refine ifG (fun hc=>?_) (fun hc=>?_) <;> first|rw [hc] at h ⊢|rw [hc] at h|rw [hc]|skip
      ·refine ifG (fun hc=>?_) (fun hc=>?_) <;> first|rw [hc] at h ⊢|rw [hc] at h|rw [hc]|skip
       ·refine ifT ?_
        rfl
       ·rfl
      ·first|exact Bool.noConfusion h|exact Bool.noConfusion hc
    ·first|exact Bool.noConfusion h|exact Bool.noConfusion hc
 ·first|exact Bool.noConfusion h|exact Bool.noConfusion hc
def m153:TModel
 | [.agg [.sl g0 xa,.sl g1 xb,.sl g2 xc],.agg [.int .i64 ya,.int .i64 yb]]=>bif ctsEq g0 ([.int .i64]) && ctsEq g1 ([.int .i64]) && ctsEq g2 ([.int .i64,.int .i64]) then some (q153 xa xb xc ya yb,AV.tup [AV.agg [AV.fl [.int .i64] (v153_0 xa xb xc ya yb),AV.fl [.int .i64] (v153_1 xa xb xc ya yb),AV.fl [.int .i64,.int .i64] (v153_2 xa xb xc ya yb)],AV.bool (v153_3 xa xb xc ya yb)]) else none
 | _=>none
theorem k153:Known Tryz.prog 153:=⟨Tryz.f153,Tryz.func153,by kernel_rfl,by kernel_rfl⟩
theorem meets153:Meets Tryz.prog 153 m153:=by
 refine mt (lvl:=0) (cf:=c153) rfl mixed k153 Tryz.func153 (by kernel_rfl) (loops_cons ok153_0 noLoop) (allT_cons meets68 (allT_cons meets69 allT_nil)) allM_nil noI fun xs r h=>?_
 unfold m153 at h
 split at h
 ·rename_i g0 xa g1 xb g2 xc ya yb
  obtain ⟨hg,h⟩:=bif_pair h
  simp only [Bool.and_eq_true] at hg
  obtain ⟨⟨q0,q1⟩,q2⟩:=hg
  obtain rfl:=cE q0
  obtain rfl:=cE q1
  obtain rfl:=cE q2
  obtain ⟨h1,rfl⟩:=pair_inj h
  exact r153 xa xb xc ya yb h1
 ·cases h
noncomputable def c118:Cfg:=cfg Tryz.prog [(118,999,[4,5,6])] [(52,m52),(68,m68),(69,m69),(119,m119),(150,m150),(151,m151),(152,m152),(153,m153)] [] [] []
def q118 (xa xb xc:List AV) (a1:Int):Bool:=(q68 xa xb xc && (bif !(v68_0 xa xb xc) then q69 xa xb xc else (bif !(v52_0 a1 (-1000) 1000) then q69 xa xb xc else (q119 xa xb xc a1 && (bif (v119_1 xa xb xc a1) then q69 xa xb xc else (q150 xa xb xc a1 && (q151 xa (v150_0 xa xb xc a1) (v150_1 xa xb xc a1) a1 && (q152 xa xb xc (v151_0 xa (v150_0 xa xb xc a1) (v150_1 xa xb xc a1) a1) && q153 (v152_0 xa xb xc (v151_0 xa (v150_0 xa xb xc a1) (v150_1 xa xb xc a1) a1)) (v152_1 xa xb xc (v151_0 xa (v150_0 xa xb xc a1) (v150_1 xa xb xc a1) a1)) (v152_2 xa xb xc (v151_0 xa (v150_0 xa xb xc a1) (v150_1 xa xb xc a1) a1)) a1 (v151_1 xa (v150_0 xa xb xc a1) (v150_1 xa xb xc a1) a1)))))))))
def v118_0 (xa xb xc:List AV) (a1:Int):List AV:=(bif !(v68_0 xa xb xc) then (v69_0 xa xb xc) else (bif !(v52_0 a1 (-1000) 1000) then (v69_0 xa xb xc) else (bif (v119_1 xa xb xc a1) then (v69_0 xa xb xc) else (v153_0 (v152_0 xa xb xc (v151_0 xa (v150_0 xa xb xc a1) (v150_1 xa xb xc a1) a1)) (v152_1 xa xb xc (v151_0 xa (v150_0 xa xb xc a1) (v150_1 xa xb xc a1) a1)) (v152_2 xa xb xc (v151_0 xa (v150_0 xa xb xc a1) (v150_1 xa xb xc a1) a1)) a1 (v151_1 xa (v150_0 xa xb xc a1) (v150_1 xa xb xc a1) a1)))))
def v118_1 (xa xb xc:List AV) (a1:Int):List AV:=(bif !(v68_0 xa xb xc) then (v69_1 xa xb xc) else (bif !(v52_0 a1 (-1000) 1000) then (v69_1 xa xb xc) else (bif (v119_1 xa xb xc a1) then (v69_1 xa xb xc) else (v153_1 (v152_0 xa xb xc (v151_0 xa (v150_0 xa xb xc a1) (v150_1 xa xb xc a1) a1)) (v152_1 xa xb xc (v151_0 xa (v150_0 xa xb xc a1) (v150_1 xa xb xc a1) a1)) (v152_2 xa xb xc (v151_0 xa (v150_0 xa xb xc a1) (v150_1 xa xb xc a1) a1)) a1 (v151_1 xa (v150_0 xa xb xc a1) (v150_1 xa xb xc a1) a1)))))
def v118_2 (xa xb xc:List AV) (a1:Int):List AV:=(bif !(v68_0 xa xb xc) then (v69_2 xa xb xc) else (bif !(v52_0 a1 (-1000) 1000) then (v69_2 xa xb xc) else (bif (v119_1 xa xb xc a1) then (v69_2 xa xb xc) else (v153_2 (v152_0 xa xb xc (v151_0 xa (v150_0 xa xb xc a1) (v150_1 xa xb xc a1) a1)) (v152_1 xa xb xc (v151_0 xa (v150_0 xa xb xc a1) (v150_1 xa xb xc a1) a1)) (v152_2 xa xb xc (v151_0 xa (v150_0 xa xb xc a1) (v150_1 xa xb xc a1) a1)) a1 (v151_1 xa (v150_0 xa xb xc a1) (v150_1 xa xb xc a1) a1)))))
def v118_3 (xa xb xc:List AV) (a1:Int):List AV:=(bif !(v68_0 xa xb xc) then ([]:List AV) else (bif !(v52_0 a1 (-1000) 1000) then ([]:List AV) else (bif (v119_1 xa xb xc a1) then ([]:List AV) else (v151_0 xa (v150_0 xa xb xc a1) (v150_1 xa xb xc a1) a1))))
def v118_4 (xa xb xc:List AV) (a1:Int):Bool:=(bif !(v68_0 xa xb xc) then false else (bif !(v52_0 a1 (-1000) 1000) then false else true))
theorem e118 (xa xb xc:List AV) (a1:Int):funA c118 0 118 [AV.agg [AV.sl [.int .i64] xa,AV.sl [.int .i64] xb,AV.sl [.int .i64,.int .i64] xc],Ai a1]=((fun (x1:Int) (x2:Int)=>((fun (x3:List AV) (x4:Int)=>((fun (x5:List AV) (x6:List AV) (x7:List AV)=>(bif q68 xa xb xc then (bif !(v68_0 xa xb xc) then (bif q69 xa xb xc then some (AV.tup [AV.agg [AV.fl [.int .i64] (v69_0 xa xb xc),AV.fl [.int .i64] (v69_1 xa xb xc),AV.fl [.int .i64,.int .i64] (v69_2 xa xb xc)],AV.fl [.int .i64,.int .i64] ([]:List AV),AV.bool false])
 else none)
 else (bif !(v52_0 a1 (-1000) 1000) then (bif q69 xa xb xc then some (AV.tup [AV.agg [AV.fl [.int .i64] (v69_0 xa xb xc),AV.fl [.int .i64] (v69_1 xa xb xc),AV.fl [.int .i64,.int .i64] (v69_2 xa xb xc)],AV.fl [.int .i64,.int .i64] ([]:List AV),AV.bool false])
 else none)
 else (bif q119 xa xb xc a1 then (bif (v119_1 xa xb xc a1) then (bif q69 xa xb xc then some (AV.tup [AV.agg [AV.fl [.int .i64] (v69_0 xa xb xc),AV.fl [.int .i64] (v69_1 xa xb xc),AV.fl [.int .i64,.int .i64] (v69_2 xa xb xc)],AV.fl [.int .i64,.int .i64] ([]:List AV),AV.bool true])
 else none)
 else (bif q150 xa xb xc a1 then (bif q151 xa x1 x2 a1 then (bif q152 xa xb xc x3 then (bif q153 x5 x6 x7 a1 x4 then some (AV.tup [AV.agg [AV.fl [.int .i64] (v153_0 x5 x6 x7 a1 x4),AV.fl [.int .i64] (v153_1 x5 x6 x7 a1 x4),AV.fl [.int .i64,.int .i64] (v153_2 x5 x6 x7 a1 x4)],AV.fl [.int .i64,.int .i64] x3,AV.bool true])
 else none)
 else none)
 else none)
 else none))
 else none)))
 else none)) (v152_0 xa xb xc x3) (v152_1 xa xb xc x3) (v152_2 xa xb xc x3))) (v151_0 xa x1 x2 a1) (v151_1 xa x1 x2 a1))) (v150_0 xa xb xc a1) (v150_1 xa xb xc a1)):=by kernel_rfl
theorem r118 (xa xb xc:List AV) (a1:Int) (h:q118 xa xb xc a1=true):funA c118 0 118 [AV.agg [AV.sl [.int .i64] xa,AV.sl [.int .i64] xb,AV.sl [.int .i64,.int .i64] xc],AV.int .i64 a1]=some (AV.tup [AV.agg [AV.fl [.int .i64] (v118_0 xa xb xc a1),AV.fl [.int .i64] (v118_1 xa xb xc a1),AV.fl [.int .i64,.int .i64] (v118_2 xa xb xc a1)],AV.fl [.int .i64,.int .i64] (v118_3 xa xb xc a1),AV.bool (v118_4 xa xb xc a1)]):=by
 refine (e118 xa xb xc a1).trans ?_
 unfold q118 at h
 unfold v118_0 v118_1 v118_2 v118_3 v118_4
 refine ifG (fun hc=>?_) (fun hc=>?_) <;> first|rw [hc] at h ⊢|rw [hc] at h|rw [hc]|skip
 ·refine ifG (fun hc=>?_) (fun hc=>?_) <;> first|rw [hc] at h ⊢|rw [hc] at h|rw [hc]|skip
  ·refine ifG (fun hc=>?_) (fun hc=>?_) <;> first|rw [hc] at h ⊢|rw [hc] at h|rw [hc]|skip
   ·rfl
   ·first|exact Bool.noConfusion h|exact Bool.noConfusion hc
  ·refine ifG (fun hc=>?_) (fun hc=>?_) <;> first|rw [hc] at h ⊢|rw [hc] at h|rw [hc]|skip
   ·refine ifG (fun hc=>?_) (fun hc=>?_) <;> first|rw [hc] at h ⊢|rw [hc] at h|rw [hc]|skip
    ·rfl
    ·first|exact Bool.noConfusion h|exact Bool.noConfusion hc
   ·refine ifG (fun hc=>?_) (fun hc=>?_) <;> first|rw [hc] at h ⊢|rw [hc] at h|rw [hc]|skip
    ·refine ifG (fun hc=>?_) (fun hc=>?_) <;> first|rw [hc] at h ⊢|rw [hc] at h|rw [hc]|skip
     ·refine ifG (fun hc=>?_) (fun hc=>?_) <;> first|rw [hc] at h ⊢|rw [hc] at h|rw [hc]|skip
      ·rfl
      ·first|exact Bool.noConfusion h|exact Bool.noConfusion hc
     ·refine ifG (fun hc=>?_) (fun hc=>?_) <;> first|rw [hc] at h ⊢|rw [hc] at h|rw [hc]|skip
      ·refine ifG (fun hc=>?_) (fun hc=>?_) <;> first|rw [hc] at h ⊢|rw [hc] at h|rw [hc]|skip
       ·refine ifG (fun hc=>?_) (fun hc=>?_) <;> first|rw [hc] at h ⊢|rw [hc] at h|rw [hc]|skip
        ·refine ifG (fun hc=>?_) (fun hc=>?_) <;> first|rw [hc] at h ⊢|rw [hc] at h|rw [hc]|skip
         ·rfl
         ·first|exact Bool.noConfusion h|exact Bool.noConfusion hc
        ·first|exact Bool.noConfusion h|exact Bool.noConfusion hc
       ·first|exact Bool.noConfusion h|exact Bool.noConfusion hc
      ·first|exact Bool.noConfusion h|exact Bool.noConfusion hc
    ·first|exact Bool.noConfusion h|exact Bool.noConfusion hc
 ·first|exact Bool.noConfusion h|exact Bool.noConfusion hc
def m118:TModel
 | [.agg [.sl g0 xa,.sl g1 xb,.sl g2 xc],.int .i64 a1]=>bif ctsEq g0 ([.int .i64]) && ctsEq g1 ([.int .i64]) && ctsEq g2 ([.int .i64,.int .i64]) then some (q118 xa xb xc a1,AV.tup [AV.agg [AV.fl [.int .i64] (v118_0 xa xb xc a1),AV.fl [.int .i64] (v118_1 xa xb xc a1),AV.fl [.int .i64,.int .i64] (v118_2 xa xb xc a1)],AV.fl [.int .i64,.int .i64] (v118_3 xa xb xc a1),AV.bool (v118_4 xa xb xc a1)]) else none
 | _=>none
theorem k118:Known Tryz.prog 118:=⟨Tryz.f118,Tryz.func118,by kernel_rfl,by kernel_rfl⟩
theorem meets118:Meets Tryz.prog 118 m118:=by
 refine mt (lvl:=0) (cf:=c118) rfl mixed k118 Tryz.func118 (by kernel_rfl) noLoop (allT_cons meets52 (allT_cons meets68 (allT_cons meets69 (allT_cons meets119 (allT_cons meets150 (allT_cons meets151 (allT_cons meets152 (allT_cons meets153 allT_nil)))))))) allM_nil noI fun xs r h=>?_
 unfold m118 at h
 split at h
 ·rename_i g0 xa g1 xb g2 xc a1
  obtain ⟨hg,h⟩:=bif_pair h
  simp only [Bool.and_eq_true] at hg
  obtain ⟨⟨q0,q1⟩,q2⟩:=hg
  obtain rfl:=cE q0
  obtain rfl:=cE q1
  obtain rfl:=cE q2
  obtain ⟨h1,rfl⟩:=pair_inj h
  exact r118 xa xb xc a1 h1
 ·cases h
noncomputable def c70:Cfg:=cfg Tryz.prog [(70,999,[4,5,6,7])] [(51,m51),(68,m68),(69,m69),(118,m118),(119,m119)] [] [] []
def q70 (xa xb xc:List AV) (ya yb:Int):Bool:=(q68 xa xb xc && (bif !(v68_0 xa xb xc) then q69 xa xb xc else (bif !(v51_0 ya yb) then q69 xa xb xc else (q118 xa xb xc ya && (q118 (v118_0 xa xb xc ya) (v118_1 xa xb xc ya) (v118_2 xa xb xc ya) yb && (q119 (v118_0 (v118_0 xa xb xc ya) (v118_1 xa xb xc ya) (v118_2 xa xb xc ya) yb) (v118_1 (v118_0 xa xb xc ya) (v118_1 xa xb xc ya) (v118_2 xa xb xc ya) yb) (v118_2 (v118_0 xa xb xc ya) (v118_1 xa xb xc ya) (v118_2 xa xb xc ya) yb) ya && q119 (v118_0 (v118_0 xa xb xc ya) (v118_1 xa xb xc ya) (v118_2 xa xb xc ya) yb) (v118_1 (v118_0 xa xb xc ya) (v118_1 xa xb xc ya) (v118_2 xa xb xc ya) yb) (v118_2 (v118_0 xa xb xc ya) (v118_1 xa xb xc ya) (v118_2 xa xb xc ya) yb) yb))))))
def v70_0 (xa xb xc:List AV) (ya yb:Int):List AV:=(bif !(v68_0 xa xb xc) then (v69_0 xa xb xc) else (bif !(v51_0 ya yb) then (v69_0 xa xb xc) else (v118_0 (v118_0 xa xb xc ya) (v118_1 xa xb xc ya) (v118_2 xa xb xc ya) yb)))
def v70_1 (xa xb xc:List AV) (ya yb:Int):List AV:=(bif !(v68_0 xa xb xc) then (v69_1 xa xb xc) else (bif !(v51_0 ya yb) then (v69_1 xa xb xc) else (v118_1 (v118_0 xa xb xc ya) (v118_1 xa xb xc ya) (v118_2 xa xb xc ya) yb)))
def v70_2 (xa xb xc:List AV) (ya yb:Int):List AV:=(bif !(v68_0 xa xb xc) then (v69_2 xa xb xc) else (bif !(v51_0 ya yb) then (v69_2 xa xb xc) else (v118_2 (v118_0 xa xb xc ya) (v118_1 xa xb xc ya) (v118_2 xa xb xc ya) yb)))
def v70_3 (xa xb xc:List AV) (ya yb:Int):Int:=(bif !(v68_0 xa xb xc) then 0 else (bif !(v51_0 ya yb) then 0 else (v119_0 (v118_0 (v118_0 xa xb xc ya) (v118_1 xa xb xc ya) (v118_2 xa xb xc ya) yb) (v118_1 (v118_0 xa xb xc ya) (v118_1 xa xb xc ya) (v118_2 xa xb xc ya) yb) (v118_2 (v118_0 xa xb xc ya) (v118_1 xa xb xc ya) (v118_2 xa xb xc ya) yb) ya)))
def v70_4 (xa xb xc:List AV) (ya yb:Int):Int:=(bif !(v68_0 xa xb xc) then 0 else (bif !(v51_0 ya yb) then 0 else (v119_0 (v118_0 (v118_0 xa xb xc ya) (v118_1 xa xb xc ya) (v118_2 xa xb xc ya) yb) (v118_1 (v118_0 xa xb xc ya) (v118_1 xa xb xc ya) (v118_2 xa xb xc ya) yb) (v118_2 (v118_0 xa xb xc ya) (v118_1 xa xb xc ya) (v118_2 xa xb xc ya) yb) yb)))
def v70_5 (xa xb xc:List AV) (ya yb:Int):Int:=(bif !(v68_0 xa xb xc) then 0 else (bif !(v51_0 ya yb) then 0 else IntKind.i64.wrap (((v118_3 xa xb xc ya).length:Int)+((v118_3 (v118_0 xa xb xc ya) (v118_1 xa xb xc ya) (v118_2 xa xb xc ya) yb).length:Int))))
theorem e70 (xa xb xc:List AV) (ya yb:Int):funA c70 0 70 [AV.agg [AV.sl [.int .i64] xa,AV.sl [.int .i64] xb,AV.sl [.int .i64,.int .i64] xc],AV.agg [Ai ya,Ai yb]]=((fun (x1:List AV) (x2:List AV) (x3:List AV) (x4:List AV)=>((fun (x5:List AV) (x6:List AV) (x7:List AV) (x8:List AV)=>(bif q68 xa xb xc then (bif !(v68_0 xa xb xc) then (bif q69 xa xb xc then some (AV.tup [AV.agg [AV.fl [.int .i64] (v69_0 xa xb xc),AV.fl [.int .i64] (v69_1 xa xb xc),AV.fl [.int .i64,.int .i64] (v69_2 xa xb xc)],Ai 0,Ai 0,Ai 0])
 else none)
 else (bif !(v51_0 ya yb) then (bif q69 xa xb xc then some (AV.tup [AV.agg [AV.fl [.int .i64] (v69_0 xa xb xc),AV.fl [.int .i64] (v69_1 xa xb xc),AV.fl [.int .i64,.int .i64] (v69_2 xa xb xc)],Ai 0,Ai 0,Ai 0])
 else none)
 else (bif q118 xa xb xc ya then (bif q118 x1 x2 x3 yb then (bif q119 x5 x6 x7 ya then (bif q119 x5 x6 x7 yb then some (AV.tup [AV.agg [AV.fl [.int .i64] x5,AV.fl [.int .i64] x6,AV.fl [.int .i64,.int .i64] x7],Ai (v119_0 x5 x6 x7 ya),Ai (v119_0 x5 x6 x7 yb),Ai (IntKind.i64.wrap ((x4.length:Int)+(x8.length:Int)))])
 else none)
 else none)
 else none)
 else none)))
 else none)) (v118_0 x1 x2 x3 yb) (v118_1 x1 x2 x3 yb) (v118_2 x1 x2 x3 yb) (v118_3 x1 x2 x3 yb))) (v118_0 xa xb xc ya) (v118_1 xa xb xc ya) (v118_2 xa xb xc ya) (v118_3 xa xb xc ya)):=by kernel_rfl
theorem r70 (xa xb xc:List AV) (ya yb:Int) (h:q70 xa xb xc ya yb=true):funA c70 0 70 [AV.agg [AV.sl [.int .i64] xa,AV.sl [.int .i64] xb,AV.sl [.int .i64,.int .i64] xc],AV.agg [AV.int .i64 ya,AV.int .i64 yb]]=some (AV.tup [AV.agg [AV.fl [.int .i64] (v70_0 xa xb xc ya yb),AV.fl [.int .i64] (v70_1 xa xb xc ya yb),AV.fl [.int .i64,.int .i64] (v70_2 xa xb xc ya yb)],AV.int .i64 (v70_3 xa xb xc ya yb),AV.int .i64 (v70_4 xa xb xc ya yb),AV.int .i64 (v70_5 xa xb xc ya yb)]):=by
 refine (e70 xa xb xc ya yb).trans ?_
 unfold q70 at h
 unfold v70_0 v70_1 v70_2 v70_3 v70_4 v70_5
 refine ifG (fun hc=>?_) (fun hc=>?_) <;> first|rw [hc] at h ⊢|rw [hc] at h|rw [hc]|skip
 ·refine ifG (fun hc=>?_) (fun hc=>?_) <;> first|rw [hc] at h ⊢|rw [hc] at h|rw [hc]|skip
  ·refine ifG (fun hc=>?_) (fun hc=>?_) <;> first|rw [hc] at h ⊢|rw [hc] at h|rw [hc]|skip
   ·rfl
   ·first|exact Bool.noConfusion h|exact Bool.noConfusion hc
  ·refine ifG (fun hc=>?_) (fun hc=>?_) <;> first|rw [hc] at h ⊢|rw [hc] at h|rw [hc]|skip
   ·refine ifG (fun hc=>?_) (fun hc=>?_) <;> first|rw [hc] at h ⊢|rw [hc] at h|rw [hc]|skip
    ·rfl
    ·first|exact Bool.noConfusion h|exact Bool.noConfusion hc
   ·refine ifG (fun hc=>?_) (fun hc=>?_) <;> first|rw [hc] at h ⊢|rw [hc] at h|rw [hc]|skip
    ·refine ifG (fun hc=>?_) (fun hc=>?_) <;> first|rw [hc] at h ⊢|rw [hc] at h|rw [hc]|skip
     ·refine ifG (fun hc=>?_) (fun hc=>?_) <;> first|rw [hc] at h ⊢|rw [hc] at h|rw [hc]|skip
      ·refine ifG (fun hc=>?_) (fun hc=>?_) <;> first|rw [hc] at h ⊢|rw [hc] at h|rw [hc]|skip
       ·rfl
       ·first|exact Bool.noConfusion h|exact Bool.noConfusion hc
      ·first|exact Bool.noConfusion h|exact Bool.noConfusion hc
     ·first|exact Bool.noConfusion h|exact Bool.noConfusion hc
    ·first|exact Bool.noConfusion h|exact Bool.noConfusion hc
 ·first|exact Bool.noConfusion h|exact Bool.noConfusion hc
def m70:TModel
 | [.agg [.sl g0 xa,.sl g1 xb,.sl g2 xc],.agg [.int .i64 ya,.int .i64 yb]]=>bif ctsEq g0 ([.int .i64]) && ctsEq g1 ([.int .i64]) && ctsEq g2 ([.int .i64,.int .i64]) then some (q70 xa xb xc ya yb,AV.tup [AV.agg [AV.fl [.int .i64] (v70_0 xa xb xc ya yb),AV.fl [.int .i64] (v70_1 xa xb xc ya yb),AV.fl [.int .i64,.int .i64] (v70_2 xa xb xc ya yb)],AV.int .i64 (v70_3 xa xb xc ya yb),AV.int .i64 (v70_4 xa xb xc ya yb),AV.int .i64 (v70_5 xa xb xc ya yb)]) else none
 | _=>none
theorem k70:Known Tryz.prog 70:=⟨Tryz.f70,Tryz.func70,by kernel_rfl,by kernel_rfl⟩
theorem meets70:Meets Tryz.prog 70 m70:=by
 refine mt (lvl:=0) (cf:=c70) rfl mixed k70 Tryz.func70 (by kernel_rfl) noLoop (allT_cons meets51 (allT_cons meets68 (allT_cons meets69 (allT_cons meets118 (allT_cons meets119 allT_nil))))) allM_nil noI fun xs r h=>?_
 unfold m70 at h
 split at h
 ·rename_i g0 xa g1 xb g2 xc ya yb
  obtain ⟨hg,h⟩:=bif_pair h
  simp only [Bool.and_eq_true] at hg
  obtain ⟨⟨q0,q1⟩,q2⟩:=hg
  obtain rfl:=cE q0
  obtain rfl:=cE q1
  obtain rfl:=cE q2
  obtain ⟨h1,rfl⟩:=pair_inj h
  exact r70 xa xb xc ya yb h1
 ·cases h
def G77_2 {β:Type} (t4:Int) (t5:Int) (h0:List AV) (N:((Int × (List AV)))→β) (K:(((List AV)))→β) (d:β):β:=(bif decide (t5 > 0) then (bif (decide (0≤IntKind.i64.wrap (t5 - 1)) && decide (IntKind.i64.wrap (t5 - 1)<(h0.length:Int))) then (bif (decide (0≤t5) && decide (t5<(h0.length:Int))) then (bif decide (fI (h0.getD (IntKind.i64.wrap (t5 - 1)).toNat .undef) 0 > fI (h0.getD t5.toNat .undef) 0) then (bif q122 (IntKind.i64.wrap (t5 - 1)) t5 h0 then N (IntKind.i64.wrap (t5 - 1),(v122_0 (IntKind.i64.wrap (t5 - 1)) t5 h0))
 else d)
 else K h0)
 else d)
 else d)
 else K h0)
def F77_2 (t4 t5:Int) (h0:List AV):Out ((Int × (List AV))) (((List AV))):=G77_2 t4 t5 h0 .next .stop .fail
def R77_2 (t4:Int):((Int × (List AV)))→Out ((Int × (List AV))) (((List AV))):=fun s:Int × (List AV)=>F77_2 t4 s.1 s.2
def E77_2 (t4:Int):((Int × (List AV)))→St:=fun s:Int × (List AV)=>⟨[(3,AV.own [0,3]),(4,Ai t4),(5,Ai s.1)],[([0,3],⟨false,[.int .i64],s.2⟩)]⟩
def K77_2 (t4:Int) (k:Kont):(((List AV)))→Option AV:=fun p:(List AV)=>k (.exit 2) ⟨[(3,AV.own [0,3]),(4,Ai t4)],[([0,3],⟨false,[.int .i64],p⟩)]⟩
def l77_2:LModel:=fun _ _ st k=>match st with
 | ⟨[(3,.own g0),(4,.int .i64 t4),(5,.int .i64 t5)],[(g1,⟨false,g2,h0⟩)]⟩=>bif nmEq g0 ([0,3]) && nmEq g1 ([0,3]) && ctsEq g2 ([.int .i64]) then ro (runW (R77_2 t4) ((t5 - 0:Int).toNat+1) (t5,h0)) none (K77_2 t4 k) else none
 | _=>none
def G77_0 {β:Type} (t4:Int) (h0:List AV) (N:((Int × (List AV)))→β) (K:(((List AV)))→β) (d:β):β:=(bif decide (t4<(h0.length:Int)) then (ro (runW (R77_2 t4) ((t4 - 0:Int).toNat+1) (t4,h0)) d (fun p35=>N (IntKind.i64.wrap (t4+1),p35)))
 else K h0)
def F77_0 (t4:Int) (h0:List AV):Out ((Int × (List AV))) (((List AV))):=G77_0 t4 h0 .next .stop .fail
def R77_0:((Int × (List AV)))→Out ((Int × (List AV))) (((List AV))):=fun s:Int × (List AV)=>F77_0 s.1 s.2
def E77_0:((Int × (List AV)))→St:=fun s:Int × (List AV)=>⟨[(3,AV.own [0,3]),(4,Ai s.1)],[([0,3],⟨false,[.int .i64],s.2⟩)]⟩
def K77_0 (k:Kont):(((List AV)))→Option AV:=fun p:(List AV)=>k (.exit 0) ⟨[(3,AV.own [0,3])],[([0,3],⟨false,[.int .i64],p⟩)]⟩
def l77_0:LModel:=fun _ _ st k=>match st with
 | ⟨[(3,.own g0),(4,.int .i64 t4)],[(g1,⟨false,g2,h0⟩)]⟩=>bif nmEq g0 ([0,3]) && nmEq g1 ([0,3]) && ctsEq g2 ([.int .i64]) then ro (runW (R77_0) (((h0.length:Int) - t4:Int).toNat+1) (t4,h0)) none (K77_0 k) else none
 | _=>none
noncomputable def c77:Cfg:=cfg Tryz.prog [(77,0,[3,4]),(77,2,[3,4,5]),(77,999,[2]),(77,1000,[3]),(77,1001,[3,4]),(77,1002,[3,4]),(77,1003,[3,4,5])] [] [(122,.w m122)] [] [(77,0,l77_0),(77,2,l77_2)]
theorem s77_2 (t4:Int) (ce:CallE) (k:Kont) (s:Int × (List AV)) (next:St→Option AV):stepA (codeA c77 ce [] 77 2 (sub [1,1,0,1,0,0,1,0,0,1,0,0] (body Tryz.f77))) (normA [] [3,4,5]) next ((E77_2 t4) s) k=G77_2 t4 s.1 s.2 (fun s=>next ((E77_2 t4) s)) (K77_2 t4 k) none:=by kernel_rfl
theorem st77_2 (t4:Int) (ce:CallE) (k:Kont) (s:(Int × (List AV))) (next:St→Option AV):stepA (codeA c77 ce [] 77 2 (sub [1,1,0,1,0,0,1,0,0,1,0,0] (body Tryz.f77))) (normA [] [3,4,5]) next ((E77_2 t4) s) k=(R77_2 t4 s).el none (fun s=>next ((E77_2 t4) s)) (K77_2 t4 k):=(s77_2 t4 ce k s next).trans (by unfold R77_2;unfold F77_2 G77_2;simp only [el_cond,el_ro,el_sum,el_fail,el_next,el_stop] <;> rfl)
theorem ok77_2 {ce:CallE}:LoopOK c77 ce [] 77 2 (sub [1,1,0,1,0,0,1,0,0,1,0,0] (body Tryz.f77)):=by
 intro m hm st k r h
 obtain rfl:l77_2=m:=Option.some.inj hm
 unfold l77_2 at h
 split at h
 ·rename_i g0 t4 t5 g1 g2 h0
  obtain ⟨hg,h⟩:=bif_some h
  simp only [Bool.and_eq_true] at hg
  obtain ⟨⟨q0,q1⟩,q2⟩:=hg
  obtain rfl:=nE q0
  obtain rfl:=nE q1
  obtain rfl:=cE q2
  refine ⟨((t5 - 0:Int).toNat+1),?_⟩
  rw [← h]
  exact loop_run (E77_2 t4) (K77_2 t4 k) (st77_2 t4 ce k) _ (t5,h0)
 ·cases h
theorem s77_0 (ce:CallE) (k:Kont) (s:Int × (List AV)) (next:St→Option AV):stepA (codeA c77 ce [] 77 0 (sub [1,1,0,1,0,0] (body Tryz.f77))) (normA [] [3,4]) next (E77_0 s) k=G77_0 s.1 s.2 (fun s=>next (E77_0 s)) (K77_0 k) none:=by kernel_rfl
theorem st77_0 (ce:CallE) (k:Kont) (s:(Int × (List AV))) (next:St→Option AV):stepA (codeA c77 ce [] 77 0 (sub [1,1,0,1,0,0] (body Tryz.f77))) (normA [] [3,4]) next (E77_0 s) k=(R77_0 s).el none (fun s=>next (E77_0 s)) (K77_0 k):=(s77_0 ce k s next).trans (by unfold R77_0;unfold F77_0 G77_0;simp only [el_cond,el_ro,el_sum,el_fail,el_next,el_stop] <;> rfl)
theorem ok77_0 {ce:CallE}:LoopOK c77 ce [] 77 0 (sub [1,1,0,1,0,0] (body Tryz.f77)):=by
 intro m hm st k r h
 obtain rfl:l77_0=m:=Option.some.inj hm
 unfold l77_0 at h
 split at h
 ·rename_i g0 t4 g1 g2 h0
  obtain ⟨hg,h⟩:=bif_some h
  simp only [Bool.and_eq_true] at hg
  obtain ⟨⟨q0,q1⟩,q2⟩:=hg
  obtain rfl:=nE q0
  obtain rfl:=nE q1
  obtain rfl:=cE q2
  refine ⟨(((h0.length:Int) - t4:Int).toNat+1),?_⟩
  rw [← h]
  exact loop_run E77_0 (K77_0 k) (st77_0 ce k) _ (t4,h0)
 ·cases h
def q77 (a0:List AV):Bool:=((decide ((([]:List AV).length+a0.length)*8≤140737488355328) && decide ((([]:List AV).length+a0.length)≤140737488355328)) && (ro (runW (R77_0) ((((([]:List AV)++a0).length:Int) - 1:Int).toNat+1) (1,([]:List AV)++a0)) false (fun p36=>true)))
def v77_0 (a0:List AV):List AV:=(ro (runW (R77_0) ((((([]:List AV)++a0).length:Int) - 1:Int).toNat+1) (1,([]:List AV)++a0)) [] (fun p36=>p36))
theorem e77 (a0:List AV):funA c77 0 77 [AV.sl [.int .i64] a0]=(bif (decide ((([]:List AV).length+a0.length)*8≤140737488355328) && decide ((([]:List AV).length+a0.length)≤140737488355328)) then (ro (runW (R77_0) ((((([]:List AV)++a0).length:Int) - 1:Int).toNat+1) (1,([]:List AV)++a0)) none (fun p36=>some (AV.fl [.int .i64] p36)))
 else none):=by kernel_rfl
def m77:TModel
 | [.sl g0 a0]=>bif ctsEq g0 ([.int .i64]) then some (q77 a0,AV.fl [.int .i64] (v77_0 a0)) else none
 | _=>none
theorem k77:Known Tryz.prog 77:=⟨Tryz.f77,Tryz.func77,by kernel_rfl,by kernel_rfl⟩
theorem meets77:Meets Tryz.prog 77 m77:=by
 refine mt (lvl:=0) (cf:=c77) rfl mixed k77 Tryz.func77 (by kernel_rfl) (loops_cons ok77_0 (loops_cons ok77_2 noLoop)) allT_nil (allM_cons meets122 allM_nil) noI fun xs r h=>?_
 unfold m77 at h
 split at h
 ·rename_i g0 a0
  obtain ⟨hg,h⟩:=bif_pair h
  have q0:=hg
  obtain rfl:=cE q0
  obtain ⟨h1,rfl⟩:=pair_inj h
  exact (e77 a0).trans ((brL (brO (fun o:Option (((List AV)))=>some (AV.fl [.int .i64] (ro o [] (fun p36=>p36)))) (fun p36=>(fun _=>rfl)))) h1)
 ·cases h
noncomputable def c102:Cfg:=cfg Tryz.prog [(102,999,[6])] [(52,m52),(68,m68),(77,m77)] [] [] []
def q102 (xa xb xc:List AV) (a1 a2:Int):Bool:=(q68 xa xb xc && (bif !(v68_0 xa xb xc) then true else (bif !(v52_0 a1 0 a2) then true else (bif decide (a2 > (xb.length:Int)) then true else ((decide (0≤a1) && decide (a1≤a2) && decide (a2≤(xb.length:Int))) && q77 ((xb.take (Int.toNat a2)).drop (Int.toNat a1)))))))
def v102_0 (xa xb xc:List AV) (a1 a2:Int):List AV:=(bif !(v68_0 xa xb xc) then ([]:List AV) else (bif !(v52_0 a1 0 a2) then ([]:List AV) else (bif decide (a2 > (xb.length:Int)) then ([]:List AV) else (v77_0 ((xb.take (Int.toNat a2)).drop (Int.toNat a1))))))
theorem e102 (xa xb xc:List AV) (a1 a2:Int):funA c102 0 102 [AV.agg [AV.sl [.int .i64] xa,AV.sl [.int .i64] xb,AV.sl [.int .i64,.int .i64] xc],Ai a1,Ai a2]=(bif q68 xa xb xc then (bif !(v68_0 xa xb xc) then some (AV.fl [.int .i64] ([]:List AV))
 else (bif !(v52_0 a1 0 a2) then some (AV.fl [.int .i64] ([]:List AV))
 else (bif decide (a2 > (xb.length:Int)) then some (AV.fl [.int .i64] ([]:List AV))
 else (bif (decide (0≤a1) && decide (a1≤a2) && decide (a2≤(xb.length:Int))) then (bif q77 ((xb.take (Int.toNat a2)).drop (Int.toNat a1)) then some (AV.fl [.int .i64] (v77_0 ((xb.take (Int.toNat a2)).drop (Int.toNat a1))))
 else none)
 else none))))
 else none):=by kernel_rfl
def m102:TModel
 | [.agg [.sl g0 xa,.sl g1 xb,.sl g2 xc],.int .i64 a1,.int .i64 a2]=>bif ctsEq g0 ([.int .i64]) && ctsEq g1 ([.int .i64]) && ctsEq g2 ([.int .i64,.int .i64]) then some (q102 xa xb xc a1 a2,AV.fl [.int .i64] (v102_0 xa xb xc a1 a2)) else none
 | _=>none
theorem k102:Known Tryz.prog 102:=⟨Tryz.f102,Tryz.func102,by kernel_rfl,by kernel_rfl⟩
theorem meets102:Meets Tryz.prog 102 m102:=by
 refine mt (lvl:=0) (cf:=c102) rfl mixed k102 Tryz.func102 (by kernel_rfl) noLoop (allT_cons meets52 (allT_cons meets68 (allT_cons meets77 allT_nil))) allM_nil noI fun xs r h=>?_
 unfold m102 at h
 split at h
 ·rename_i g0 xa g1 xb g2 xc a1 a2
  obtain ⟨hg,h⟩:=bif_pair h
  simp only [Bool.and_eq_true] at hg
  obtain ⟨⟨q0,q1⟩,q2⟩:=hg
  obtain rfl:=cE q0
  obtain rfl:=cE q1
  obtain rfl:=cE q2
  obtain ⟨h1,rfl⟩:=pair_inj h
  exact (e102 xa xb xc a1 a2).trans ((brL (br (fun b=>some (AV.fl [.int .i64] (bif b then ([]:List AV) else (bif !(v52_0 a1 0 a2) then ([]:List AV) else (bif decide (a2 > (xb.length:Int)) then ([]:List AV) else (v77_0 ((xb.take (Int.toNat a2)).drop (Int.toNat a1)))))))) (fun _=>rfl) (br (fun b=>some (AV.fl [.int .i64] (bif b then ([]:List AV) else (bif decide (a2 > (xb.length:Int)) then ([]:List AV) else (v77_0 ((xb.take (Int.toNat a2)).drop (Int.toNat a1))))))) (fun _=>rfl) (br (fun b=>some (AV.fl [.int .i64] (bif b then ([]:List AV) else (v77_0 ((xb.take (Int.toNat a2)).drop (Int.toNat a1)))))) (fun _=>rfl) (brL (brL1 (fun _=>rfl))))))) h1)
 ·cases h
noncomputable def c53:Cfg:=cfg Tryz.prog [(53,999,[4,5])] [(70,m70),(102,m102)] [] [] []
def q53 (xa xb xc:List AV) (ya yb:Int):Bool:=(q70 xa xb xc ya yb && q102 (v70_0 xa xb xc ya yb) (v70_1 xa xb xc ya yb) (v70_2 xa xb xc ya yb) (v70_3 xa xb xc ya yb) (v70_4 xa xb xc ya yb))
def v53_0 (xa xb xc:List AV) (ya yb:Int):List AV:=(v70_0 xa xb xc ya yb)
def v53_1 (xa xb xc:List AV) (ya yb:Int):List AV:=(v70_1 xa xb xc ya yb)
def v53_2 (xa xb xc:List AV) (ya yb:Int):List AV:=(v70_2 xa xb xc ya yb)
def v53_3 (xa xb xc:List AV) (ya yb:Int):List AV:=(v102_0 (v70_0 xa xb xc ya yb) (v70_1 xa xb xc ya yb) (v70_2 xa xb xc ya yb) (v70_3 xa xb xc ya yb) (v70_4 xa xb xc ya yb))
theorem e53 (xa xb xc:List AV) (ya yb:Int):funA c53 0 53 [AV.agg [AV.sl [.int .i64] xa,AV.sl [.int .i64] xb,AV.sl [.int .i64,.int .i64] xc],AV.agg [Ai ya,Ai yb]]=((fun (x1:List AV) (x2:List AV) (x3:List AV) (x4:Int) (x5:Int)=>(bif q70 xa xb xc ya yb then (bif q102 x1 x2 x3 x4 x5 then some (AV.tup [AV.agg [AV.fl [.int .i64] x1,AV.fl [.int .i64] x2,AV.fl [.int .i64,.int .i64] x3],AV.fl [.int .i64] (v102_0 x1 x2 x3 x4 x5)])
 else none)
 else none)) (v70_0 xa xb xc ya yb) (v70_1 xa xb xc ya yb) (v70_2 xa xb xc ya yb) (v70_3 xa xb xc ya yb) (v70_4 xa xb xc ya yb)):=by kernel_rfl
def m53:TModel
 | [.agg [.sl g0 xa,.sl g1 xb,.sl g2 xc],.agg [.int .i64 ya,.int .i64 yb]]=>bif ctsEq g0 ([.int .i64]) && ctsEq g1 ([.int .i64]) && ctsEq g2 ([.int .i64,.int .i64]) then some (q53 xa xb xc ya yb,AV.tup [AV.agg [AV.fl [.int .i64] (v53_0 xa xb xc ya yb),AV.fl [.int .i64] (v53_1 xa xb xc ya yb),AV.fl [.int .i64,.int .i64] (v53_2 xa xb xc ya yb)],AV.fl [.int .i64] (v53_3 xa xb xc ya yb)]) else none
 | _=>none
theorem k53:Known Tryz.prog 53:=⟨Tryz.f53,Tryz.func53,by kernel_rfl,by kernel_rfl⟩
theorem meets53:Meets Tryz.prog 53 m53:=by
 refine mt (lvl:=0) (cf:=c53) rfl mixed k53 Tryz.func53 (by kernel_rfl) noLoop (allT_cons meets70 (allT_cons meets102 allT_nil)) allM_nil noI fun xs r h=>?_
 unfold m53 at h
 split at h
 ·rename_i g0 xa g1 xb g2 xc ya yb
  obtain ⟨hg,h⟩:=bif_pair h
  simp only [Bool.and_eq_true] at hg
  obtain ⟨⟨q0,q1⟩,q2⟩:=hg
  obtain rfl:=cE q0
  obtain rfl:=cE q1
  obtain rfl:=cE q2
  obtain ⟨h1,rfl⟩:=pair_inj h
  exact (e53 xa xb xc ya yb).trans ((brL (brL1 (fun _=>rfl))) h1)
 ·cases h
noncomputable def c55:Cfg:=cfg Tryz.prog [(55,999,[4])] [] [] [] []
def v55_0 (xa xb xc xd a1:Int):Bool:=(bif decide (xc≤a1) then (bif decide (xd=(-1)) then true else decide (a1<xd)) else false)
theorem e55 (xa xb xc xd a1:Int):funA c55 0 55 [AV.agg [Ai xa,Ai xb,Ai xc,Ai xd],Ai a1]=(bif decide (xc≤a1) then (bif decide (xd=(-1)) then some (AV.bool true)
 else some (AV.bool (decide (a1<xd))))
 else some (AV.bool false)):=by kernel_rfl
def m55:TModel
 | [.agg [.int .i64 xa,.int .i64 xb,.int .i64 xc,.int .i64 xd],.int .i64 a1]=>some (true,AV.bool (v55_0 xa xb xc xd a1))
 | _=>none
theorem k55:Known Tryz.prog 55:=⟨Tryz.f55,Tryz.func55,by kernel_rfl,by kernel_rfl⟩
theorem meets55:Meets Tryz.prog 55 m55:=by
 refine mt (lvl:=0) (cf:=c55) rfl mixed k55 Tryz.func55 (by kernel_rfl) noLoop allT_nil allM_nil noI fun xs r h=>?_
 unfold m55 at h
 split at h
 ·rename_i xa xb xc xd a1
  obtain ⟨h1,rfl⟩:=pair_inj h
  exact (e55 xa xb xc xd a1).trans (of_tt (brT (fun b=>some (AV.bool (bif b then (bif decide (xd=(-1)) then true else decide (a1<xd)) else false))) (brT (fun b=>some (AV.bool (bif b then true else decide (a1<xd)))) (fun _=>rfl) (fun _=>rfl)) (fun _=>rfl)))
 ·cases h
def G9_0 {β:Type} (t1:Int) (h0:List AV) (h1:List AV) (h2_0:List AV) (h2_1:Int) (h2_2:List AV) (h2_3:List AV) (h2_4:List AV) (h3:List AV) (h4:List AV) (h5:Int) (h6:Int) (h7:List AV) (t13:Int) (h8:List AV) (N:((Int × (List AV)))→β) (K:(((List AV)))→β) (d:β):β:=(bif decide (t13<(h2_0.length:Int)) then (bif (decide (0≤t13) && decide (t13<(h2_0.length:Int))) then (bif q54 h7 (fI (h2_0.getD t13.toNat .undef) 1) then (bif (v54_0 h7 (fI (h2_0.getD t13.toNat .undef) 1)) then (bif (decide (0≤t13) && decide (t13<(h2_0.length:Int))) then (bif (v55_0 (fI (h2_0.getD t13.toNat .undef) 0) (fI (h2_0.getD t13.toNat .undef) 1) (fI (h2_0.getD t13.toNat .undef) 2) (fI (h2_0.getD t13.toNat .undef) 3) t1) then (bif (decide (0≤t13) && decide (t13<(h2_0.length:Int))) then (bif (decide ((h8.length+([AV.int .i64 (fI (h2_0.getD t13.toNat .undef) 1)]).length)*8≤140737488355328) && decide ((h8.length+([AV.int .i64 (fI (h2_0.getD t13.toNat .undef) 1)]).length)≤140737488355328)) then N (IntKind.i64.wrap (t13+1),h8++([AV.int .i64 (fI (h2_0.getD t13.toNat .undef) 1)]))
 else d)
 else d)
 else N (IntKind.i64.wrap (t13+1),h8))
 else d)
 else N (IntKind.i64.wrap (t13+1),h8))
 else d)
 else d)
 else K h8)
def F9_0 (t1:Int) (h0 h1 h2_0:List AV) (h2_1:Int) (h2_2 h2_3 h2_4 h3 h4:List AV) (h5 h6:Int) (h7:List AV) (t13:Int) (h8:List AV):Out ((Int × (List AV))) (((List AV))):=G9_0 t1 h0 h1 h2_0 h2_1 h2_2 h2_3 h2_4 h3 h4 h5 h6 h7 t13 h8 .next .stop .fail
def R9_0 (t1:Int) (h0 h1 h2_0:List AV) (h2_1:Int) (h2_2 h2_3 h2_4 h3 h4:List AV) (h5 h6:Int) (h7:List AV):((Int × (List AV)))→Out ((Int × (List AV))) (((List AV))):=fun s:Int × (List AV)=>F9_0 t1 h0 h1 h2_0 h2_1 h2_2 h2_3 h2_4 h3 h4 h5 h6 h7 s.1 s.2
def E9_0 (t1:Int) (h0 h1 h2_0:List AV) (h2_1:Int) (h2_2 h2_3 h2_4 h3 h4:List AV) (h5 h6:Int) (h7:List AV):((Int × (List AV)))→St:=fun s:Int × (List AV)=>⟨[(1,Ai t1),(3,AV.ptr [0,3] 0 0),(6,AV.ptr [0,6] 0 0),(9,AV.ptr [0,9] 0 0),(11,AV.own [0,11]),(12,AV.own [0,12]),(13,Ai s.1)],[([0,0,9],⟨false,[.int .i64,.int .i64,.int .i64,.int .i64],h0⟩),([0,2,9],⟨false,[.int .i64],h1⟩),([0,3],⟨true,[],[AV.agg [AV.sl [.int .i64,.int .i64,.int .i64,.int .i64] h2_0,Ai h2_1,AV.sl [.int .i64] h2_2,AV.sl [.int .i64] h2_3,AV.sl [.int .i64,.int .i64] h2_4]]⟩),([0,3,9],⟨false,[.int .i64],h3⟩),([0,4,9],⟨false,[.int .i64,.int .i64],h4⟩),([0,6],⟨true,[],[AV.agg [AV.snil,Ai h5,AV.snil,AV.snil,AV.snil]]⟩),([0,9],⟨true,[],[AV.agg [AV.own [0,0,9],Ai h6,AV.own [0,2,9],AV.own [0,3,9],AV.own [0,4,9]]]⟩),([0,11],⟨false,[.int .i64],h7⟩),([0,12],⟨false,[.int .i64],s.2⟩)]⟩
def K9_0 (t1:Int) (h0 h1 h2_0:List AV) (h2_1:Int) (h2_2 h2_3 h2_4 h3 h4:List AV) (h5 h6:Int) (h7:List AV) (k:Kont):(((List AV)))→Option AV:=fun p:(List AV)=>k (.exit 0) ⟨[(6,AV.ptr [0,6] 0 0),(9,AV.ptr [0,9] 0 0),(12,AV.own [0,12])],[([0,0,9],⟨false,[.int .i64,.int .i64,.int .i64,.int .i64],h0⟩),([0,2,9],⟨false,[.int .i64],h1⟩),([0,3],⟨true,[],[AV.agg [AV.sl [.int .i64,.int .i64,.int .i64,.int .i64] h2_0,Ai h2_1,AV.sl [.int .i64] h2_2,AV.sl [.int .i64] h2_3,AV.sl [.int .i64,.int .i64] h2_4]]⟩),([0,3,9],⟨false,[.int .i64],h3⟩),([0,4,9],⟨false,[.int .i64,.int .i64],h4⟩),([0,6],⟨true,[],[AV.agg [AV.snil,Ai h5,AV.snil,AV.snil,AV.snil]]⟩),([0,9],⟨true,[],[AV.agg [AV.own [0,0,9],Ai h6,AV.own [0,2,9],AV.own [0,3,9],AV.own [0,4,9]]]⟩),([0,11],⟨false,[.int .i64],h7⟩),([0,12],⟨false,[.int .i64],p⟩)]⟩
def l9_0:LModel:=fun _ _ st k=>match st with
 | ⟨[(1,.int .i64 t1),(3,.ptr g0 g1 g2),(6,.ptr g3 g4 g5),(9,.ptr g6 g7 g8),(11,.own g9),(12,.own g10),(13,.int .i64 t13)],[(g11,⟨false,g12,h0⟩),(g13,⟨false,g14,h1⟩),(g15,⟨true,[],[.agg [.sl g16 h2_0,.int .i64 h2_1,.sl g17 h2_2,.sl g18 h2_3,.sl g19 h2_4]]⟩),(g20,⟨false,g21,h3⟩),(g22,⟨false,g23,h4⟩),(g24,⟨true,[],[.agg [.snil,.int .i64 h5,.snil,.snil,.snil]]⟩),(g25,⟨true,[],[.agg [.own g26,.int .i64 h6,.own g27,.own g28,.own g29]]⟩),(g30,⟨false,g31,h7⟩),(g32,⟨false,g33,h8⟩)]⟩=>bif nmEq g0 ([0,3]) && Nat.beq g1 0 && Nat.beq g2 0 && nmEq g3 ([0,6]) && Nat.beq g4 0 && Nat.beq g5 0 && nmEq g6 ([0,9]) && Nat.beq g7 0 && Nat.beq g8 0 && nmEq g9 ([0,11]) && nmEq g10 ([0,12]) && nmEq g11 ([0,0,9]) && ctsEq g12 ([.int .i64,.int .i64,.int .i64,.int .i64]) && nmEq g13 ([0,2,9]) && ctsEq g14 ([.int .i64]) && nmEq g15 ([0,3]) && ctsEq g16 ([.int .i64,.int .i64,.int .i64,.int .i64]) && ctsEq g17 ([.int .i64]) && ctsEq g18 ([.int .i64]) && ctsEq g19 ([.int .i64,.int .i64]) && nmEq g20 ([0,3,9]) && ctsEq g21 ([.int .i64]) && nmEq g22 ([0,4,9]) && ctsEq g23 ([.int .i64,.int .i64]) && nmEq g24 ([0,6]) && nmEq g25 ([0,9]) && nmEq g26 ([0,0,9]) && nmEq g27 ([0,2,9]) && nmEq g28 ([0,3,9]) && nmEq g29 ([0,4,9]) && nmEq g30 ([0,11]) && ctsEq g31 ([.int .i64]) && nmEq g32 ([0,12]) && ctsEq g33 ([.int .i64]) then ro (runW (R9_0 t1 h0 h1 h2_0 h2_1 h2_2 h2_3 h2_4 h3 h4 h5 h6 h7) (((h2_0.length:Int) - t13:Int).toNat+1) (t13,h8)) none (K9_0 t1 h0 h1 h2_0 h2_1 h2_2 h2_3 h2_4 h3 h4 h5 h6 h7 k) else none
 | _=>none
noncomputable def c9:Cfg:=cfg Tryz.prog [(9,0,[1,3,6,9,11,12,13]),(9,999,[6,7,8]),(9,1000,[6,9,12]),(9,1001,[1,3,6,9,11,12,13])] [(49,m49),(50,m50),(51,m51),(52,m52),(53,m53),(54,m54),(55,m55)] [] [] [(9,0,l9_0)]
theorem s9_0 (t1:Int) (h0 h1 h2_0:List AV) (h2_1:Int) (h2_2 h2_3 h2_4 h3 h4:List AV) (h5 h6:Int) (h7:List AV) (ce:CallE) (k:Kont) (s:Int × (List AV)) (next:St→Option AV):stepA (codeA c9 ce [] 9 0 (sub [1,1,1,1,1,1,0,1,0,0] (body Tryz.f9))) (normA [] [1,3,6,9,11,12,13]) next ((E9_0 t1 h0 h1 h2_0 h2_1 h2_2 h2_3 h2_4 h3 h4 h5 h6 h7) s) k=G9_0 t1 h0 h1 h2_0 h2_1 h2_2 h2_3 h2_4 h3 h4 h5 h6 h7 s.1 s.2 (fun s=>next ((E9_0 t1 h0 h1 h2_0 h2_1 h2_2 h2_3 h2_4 h3 h4 h5 h6 h7) s)) (K9_0 t1 h0 h1 h2_0 h2_1 h2_2 h2_3 h2_4 h3 h4 h5 h6 h7 k) none:=by kernel_rfl
theorem st9_0 (t1:Int) (h0 h1 h2_0:List AV) (h2_1:Int) (h2_2 h2_3 h2_4 h3 h4:List AV) (h5 h6:Int) (h7:List AV) (ce:CallE) (k:Kont) (s:(Int × (List AV))) (next:St→Option AV):stepA (codeA c9 ce [] 9 0 (sub [1,1,1,1,1,1,0,1,0,0] (body Tryz.f9))) (normA [] [1,3,6,9,11,12,13]) next ((E9_0 t1 h0 h1 h2_0 h2_1 h2_2 h2_3 h2_4 h3 h4 h5 h6 h7) s) k=(R9_0 t1 h0 h1 h2_0 h2_1 h2_2 h2_3 h2_4 h3 h4 h5 h6 h7 s).el none (fun s=>next ((E9_0 t1 h0 h1 h2_0 h2_1 h2_2 h2_3 h2_4 h3 h4 h5 h6 h7) s)) (K9_0 t1 h0 h1 h2_0 h2_1 h2_2 h2_3 h2_4 h3 h4 h5 h6 h7 k):=(s9_0 t1 h0 h1 h2_0 h2_1 h2_2 h2_3 h2_4 h3 h4 h5 h6 h7 ce k s next).trans (by unfold R9_0;unfold F9_0 G9_0;simp only [el_cond,el_ro,el_sum,el_fail,el_next,el_stop] <;> rfl)
theorem ok9_0 {ce:CallE}:LoopOK c9 ce [] 9 0 (sub [1,1,1,1,1,1,0,1,0,0] (body Tryz.f9)):=by
 intro m hm st k r h
 obtain rfl:l9_0=m:=Option.some.inj hm
 unfold l9_0 at h
 split at h
 ·rename_i t1 g0 g1 g2 g3 g4 g5 g6 g7 g8 g9 g10 t13 g11 g12 h0 g13 g14 h1 g15 g16 h2_0 h2_1 g17 h2_2 g18 h2_3 g19 h2_4 g20 g21 h3 g22 g23 h4 g24 h5 g25 g26 h6 g27 g28 g29 g30 g31 h7 g32 g33 h8
  obtain ⟨hg,h⟩:=bif_some h
  simp only [Bool.and_eq_true] at hg
  obtain ⟨⟨⟨⟨⟨⟨⟨⟨⟨⟨⟨⟨⟨⟨⟨⟨⟨⟨⟨⟨⟨⟨⟨⟨⟨⟨⟨⟨⟨⟨⟨⟨⟨q0,q1⟩,q2⟩,q3⟩,q4⟩,q5⟩,q6⟩,q7⟩,q8⟩,q9⟩,q10⟩,q11⟩,q12⟩,q13⟩,q14⟩,q15⟩,q16⟩,q17⟩,q18⟩,q19⟩,q20⟩,q21⟩,q22⟩,q23⟩,q24⟩,q25⟩,q26⟩,q27⟩,q28⟩,q29⟩,q30⟩,q31⟩,q32⟩,q33⟩:=hg
  obtain rfl:=nE q0
  obtain rfl:=bE q1
  obtain rfl:=bE q2
  obtain rfl:=nE q3
  obtain rfl:=bE q4
  obtain rfl:=bE q5
  obtain rfl:=nE q6
  obtain rfl:=bE q7
  obtain rfl:=bE q8
  obtain rfl:=nE q9
  obtain rfl:=nE q10
  obtain rfl:=nE q11
  obtain rfl:=cE q12
  obtain rfl:=nE q13
  obtain rfl:=cE q14
  obtain rfl:=nE q15
  obtain rfl:=cE q16
  obtain rfl:=cE q17
  obtain rfl:=cE q18
  obtain rfl:=cE q19
  obtain rfl:=nE q20
  obtain rfl:=cE q21
  obtain rfl:=nE q22
  obtain rfl:=cE q23
  obtain rfl:=nE q24
  obtain rfl:=nE q25
  obtain rfl:=nE q26
  obtain rfl:=nE q27
  obtain rfl:=nE q28
  obtain rfl:=nE q29
  obtain rfl:=nE q30
  obtain rfl:=cE q31
  obtain rfl:=nE q32
  obtain rfl:=cE q33
  refine ⟨(((h2_0.length:Int) - t13:Int).toNat+1),?_⟩
  rw [← h]
  exact loop_run (E9_0 t1 h0 h1 h2_0 h2_1 h2_2 h2_3 h2_4 h3 h4 h5 h6 h7) (K9_0 t1 h0 h1 h2_0 h2_1 h2_2 h2_3 h2_4 h3 h4 h5 h6 h7 k) (st9_0 t1 h0 h1 h2_0 h2_1 h2_2 h2_3 h2_4 h3 h4 h5 h6 h7 ce k) _ (t13,h8)
 ·cases h
def q9 (xa:List AV) (xb:Int) (xc xd xe:List AV) (a1 za zb:Int):Bool:=(q49 xa xb xc xd xe && (q50 xa xb xc xd xe && (bif !(v50_0 xa xb xc xd xe) then true else (bif !(v51_0 za zb) then true else (bif !(v52_0 a1 0 xb) then true else (q53 xc xd xe za zb && (ro (runW (R9_0 a1 (v49_0 xa xb xc xd xe) (v53_0 xc xd xe za zb) xa xb xc xd xe (v53_1 xc xd xe za zb) (v53_2 xc xd xe za zb) 0 (v49_1 xa xb xc xd xe) (v53_3 xc xd xe za zb)) (((xa.length:Int) - 0:Int).toNat+1) (0,([]:List AV))) false (fun p37=>true))))))))
def v9_0 (xa:List AV) (xb:Int) (xc xd xe:List AV) (a1 za zb:Int):List AV:=(v49_0 xa xb xc xd xe)
def v9_1 (xa:List AV) (xb:Int) (xc xd xe:List AV) (a1 za zb:Int):Int:=(v49_1 xa xb xc xd xe)
def v9_2 (xa:List AV) (xb:Int) (xc xd xe:List AV) (a1 za zb:Int):List AV:=(bif !(v50_0 xa xb xc xd xe) then (v49_2 xa xb xc xd xe) else (bif !(v51_0 za zb) then (v49_2 xa xb xc xd xe) else (bif !(v52_0 a1 0 xb) then (v49_2 xa xb xc xd xe) else (v53_0 xc xd xe za zb))))
def v9_3 (xa:List AV) (xb:Int) (xc xd xe:List AV) (a1 za zb:Int):List AV:=(bif !(v50_0 xa xb xc xd xe) then (v49_3 xa xb xc xd xe) else (bif !(v51_0 za zb) then (v49_3 xa xb xc xd xe) else (bif !(v52_0 a1 0 xb) then (v49_3 xa xb xc xd xe) else (v53_1 xc xd xe za zb))))
def v9_4 (xa:List AV) (xb:Int) (xc xd xe:List AV) (a1 za zb:Int):List AV:=(bif !(v50_0 xa xb xc xd xe) then (v49_4 xa xb xc xd xe) else (bif !(v51_0 za zb) then (v49_4 xa xb xc xd xe) else (bif !(v52_0 a1 0 xb) then (v49_4 xa xb xc xd xe) else (v53_2 xc xd xe za zb))))
def v9_5 (xa:List AV) (xb:Int) (xc xd xe:List AV) (a1 za zb:Int):List AV:=(bif !(v50_0 xa xb xc xd xe) then ([]:List AV) else (bif !(v51_0 za zb) then ([]:List AV) else (bif !(v52_0 a1 0 xb) then ([]:List AV) else (ro (runW (R9_0 a1 (v49_0 xa xb xc xd xe) (v53_0 xc xd xe za zb) xa xb xc xd xe (v53_1 xc xd xe za zb) (v53_2 xc xd xe za zb) 0 (v49_1 xa xb xc xd xe) (v53_3 xc xd xe za zb)) (((xa.length:Int) - 0:Int).toNat+1) (0,([]:List AV))) [] (fun p37=>p37)))))
def v9_6 (xa:List AV) (xb:Int) (xc xd xe:List AV) (a1 za zb:Int):Bool:=(bif !(v50_0 xa xb xc xd xe) then false else (bif !(v51_0 za zb) then false else (bif !(v52_0 a1 0 xb) then false else true)))
theorem e9 (xa:List AV) (xb:Int) (xc xd xe:List AV) (a1 za zb:Int):funA c9 0 9 [AV.agg [AV.sl [.int .i64,.int .i64,.int .i64,.int .i64] xa,Ai xb,AV.sl [.int .i64] xc,AV.sl [.int .i64] xd,AV.sl [.int .i64,.int .i64] xe],Ai a1,AV.agg [Ai za,Ai zb]]=((fun (x1:List AV) (x2:Int) (x3:List AV) (x4:List AV) (x5:List AV)=>(bif q49 xa xb xc xd xe then (bif q50 xa xb xc xd xe then (bif !(v50_0 xa xb xc xd xe) then some (AV.tup [AV.agg [AV.fl [.int .i64,.int .i64,.int .i64,.int .i64] x1,Ai x2,AV.fl [.int .i64] x3,AV.fl [.int .i64] x4,AV.fl [.int .i64,.int .i64] x5],AV.fl [.int .i64] ([]:List AV),AV.bool false])
 else (bif !(v51_0 za zb) then some (AV.tup [AV.agg [AV.fl [.int .i64,.int .i64,.int .i64,.int .i64] x1,Ai x2,AV.fl [.int .i64] x3,AV.fl [.int .i64] x4,AV.fl [.int .i64,.int .i64] x5],AV.fl [.int .i64] ([]:List AV),AV.bool false])
 else (bif !(v52_0 a1 0 xb) then some (AV.tup [AV.agg [AV.fl [.int .i64,.int .i64,.int .i64,.int .i64] x1,Ai x2,AV.fl [.int .i64] x3,AV.fl [.int .i64] x4,AV.fl [.int .i64,.int .i64] x5],AV.fl [.int .i64] ([]:List AV),AV.bool false])
 else (bif q53 xc xd xe za zb then (ro (runW (R9_0 a1 x1 (v53_0 xc xd xe za zb) xa xb xc xd xe (v53_1 xc xd xe za zb) (v53_2 xc xd xe za zb) 0 x2 (v53_3 xc xd xe za zb)) (((xa.length:Int) - 0:Int).toNat+1) (0,([]:List AV))) none (fun p37=>some (AV.tup [AV.agg [AV.fl [.int .i64,.int .i64,.int .i64,.int .i64] x1,Ai x2,AV.fl [.int .i64] (v53_0 xc xd xe za zb),AV.fl [.int .i64] (v53_1 xc xd xe za zb),AV.fl [.int .i64,.int .i64] (v53_2 xc xd xe za zb)],AV.fl [.int .i64] p37,AV.bool true])))
 else none))))
 else none)
 else none)) (v49_0 xa xb xc xd xe) (v49_1 xa xb xc xd xe) (v49_2 xa xb xc xd xe) (v49_3 xa xb xc xd xe) (v49_4 xa xb xc xd xe)):=by kernel_rfl
theorem r9 (xa:List AV) (xb:Int) (xc xd xe:List AV) (a1 za zb:Int) (h:q9 xa xb xc xd xe a1 za zb=true):funA c9 0 9 [AV.agg [AV.sl [.int .i64,.int .i64,.int .i64,.int .i64] xa,AV.int .i64 xb,AV.sl [.int .i64] xc,AV.sl [.int .i64] xd,AV.sl [.int .i64,.int .i64] xe],AV.int .i64 a1,AV.agg [AV.int .i64 za,AV.int .i64 zb]]=some (AV.tup [AV.agg [AV.fl [.int .i64,.int .i64,.int .i64,.int .i64] (v9_0 xa xb xc xd xe a1 za zb),AV.int .i64 (v9_1 xa xb xc xd xe a1 za zb),AV.fl [.int .i64] (v9_2 xa xb xc xd xe a1 za zb),AV.fl [.int .i64] (v9_3 xa xb xc xd xe a1 za zb),AV.fl [.int .i64,.int .i64] (v9_4 xa xb xc xd xe a1 za zb)],AV.fl [.int .i64] (v9_5 xa xb xc xd xe a1 za zb),AV.bool (v9_6 xa xb xc xd xe a1 za zb)]):=by
 refine (e9 xa xb xc xd xe a1 za zb).trans ?_
 unfold q9 at h
 unfold v9_0 v9_1 v9_2 v9_3 v9_4 v9_5 v9_6
 refine ifG (fun hc=>?_) (fun hc=>?_) <;> first|rw [hc] at h ⊢|rw [hc] at h|rw [hc]|skip
 ·refine ifG (fun hc=>?_) (fun hc=>?_) <;> first|rw [hc] at h ⊢|rw [hc] at h|rw [hc]|skip
  ·refine ifG (fun hc=>?_) (fun hc=>?_) <;> first|rw [hc] at h ⊢|rw [hc] at h|rw [hc]|skip
   ·rfl
   ·refine ifG (fun hc=>?_) (fun hc=>?_) <;> first|rw [hc] at h ⊢|rw [hc] at h|rw [hc]|skip
    ·rfl
    ·refine ifG (fun hc=>?_) (fun hc=>?_) <;> first|rw [hc] at h ⊢|rw [hc] at h|rw [hc]|skip
     ·rfl
     ·refine ifG (fun hc=>?_) (fun hc=>?_) <;> first|rw [hc] at h ⊢|rw [hc] at h|rw [hc]|skip
      ·refine roG (fun hc=>?_) (fun r hc=>?_) <;> first|rw [hc] at h ⊢|rw [hc] at h|rw [hc]|skip
       ·exact Bool.noConfusion h
       ·try simp only [ro] at h ⊢
        rfl
      ·first|exact Bool.noConfusion h|exact Bool.noConfusion hc
  ·first|exact Bool.noConfusion h|exact Bool.noConfusion hc
 ·first|exact Bool.noConfusion h|exact Bool.noConfusion hc
def m9:TModel
 | [.agg [.sl g0 xa,.int .i64 xb,.sl g1 xc,.sl g2 xd,.sl g3 xe],.int .i64 a1,.agg [.int .i64 za,.int .i64 zb]]=>bif ctsEq g0 ([.int .i64,.int .i64,.int .i64,.int .i64]) && ctsEq g1 ([.int .i64]) && ctsEq g2 ([.int .i64]) && ctsEq g3 ([.int .i64,.int .i64]) then some (q9 xa xb xc xd xe a1 za zb,AV.tup [AV.agg [AV.fl [.int .i64,.int .i64,.int .i64,.int .i64] (v9_0 xa xb xc xd xe a1 za zb),AV.int .i64 (v9_1 xa xb xc xd xe a1 za zb),AV.fl [.int .i64] (v9_2 xa xb xc xd xe a1 za zb),AV.fl [.int .i64] (v9_3 xa xb xc xd xe a1 za zb),AV.fl [.int .i64,.int .i64] (v9_4 xa xb xc xd xe a1 za zb)],AV.fl [.int .i64] (v9_5 xa xb xc xd xe a1 za zb),AV.bool (v9_6 xa xb xc xd xe a1 za zb)]) else none
 | _=>none
theorem k9:Known Tryz.prog 9:=⟨Tryz.f9,Tryz.func9,by kernel_rfl,by kernel_rfl⟩
theorem meets9:Meets Tryz.prog 9 m9:=by
 refine mt (lvl:=0) (cf:=c9) rfl mixed k9 Tryz.func9 (by kernel_rfl) (loops_cons ok9_0 noLoop) (allT_cons meets49 (allT_cons meets50 (allT_cons meets51 (allT_cons meets52 (allT_cons meets53 (allT_cons meets54 (allT_cons meets55 allT_nil))))))) allM_nil noI fun xs r h=>?_
 unfold m9 at h
 split at h
 ·rename_i g0 xa xb g1 xc g2 xd g3 xe a1 za zb
  obtain ⟨hg,h⟩:=bif_pair h
  simp only [Bool.and_eq_true] at hg
  obtain ⟨⟨⟨q0,q1⟩,q2⟩,q3⟩:=hg
  obtain rfl:=cE q0
  obtain rfl:=cE q1
  obtain rfl:=cE q2
  obtain rfl:=cE q3
  obtain ⟨h1,rfl⟩:=pair_inj h
  exact r9 xa xb xc xd xe a1 za zb h1
 ·cases h
def G92_0 {β:Type} (h1:Int) (t4:Int) (h0:List AV) (h2:List AV) (h3:Int) (h4:List AV) (h5:List AV) (h6_0:List AV) (h6_1:Int) (h6_2:Int) (N:((Int × (List AV) × (List AV) × Int × (List AV) × (List AV) × (List AV) × Int × Int))→β) (K:(((List AV) × (List AV) × Int × (List AV) × (List AV) × (List AV) × Int × Int))→β) (d:β):β:=by
 refine (?f0:Int→(List AV)→Int→Int→β) (v42_0 3 h6_0 h6_1 h6_2) (v42_1 3 h6_0 h6_1 h6_2) (v42_2 3 h6_0 h6_1 h6_2) (v42_3 3 h6_0 h6_1 h6_2);intro x1 x2 x3 x4
 refine (?f1:Int→(List AV)→Int→Int→(List AV)→(List AV)→(List AV)→Int→Int→(List AV)→Int→Int→(List AV)→(List AV)→(List AV)→β) (v96_0 x2 x3 x4 h2 h4 h5) (v96_1 x2 x3 x4 h2 h4 h5) (v96_2 x2 x3 x4 h2 h4 h5) (v96_3 x2 x3 x4 h2 h4 h5) (v96_4 x2 x3 x4 h2 h4 h5) (v96_5 x2 x3 x4 h2 h4 h5) (v96_6 x2 x3 x4 h2 h4 h5) (v43_0 x2 x3 x4 h2 h4 h5) (v43_1 x2 x3 x4 h2 h4 h5) (v43_2 x2 x3 x4 h2 h4 h5) (v43_3 x2 x3 x4 h2 h4 h5) (v43_4 x2 x3 x4 h2 h4 h5) (v43_5 x2 x3 x4 h2 h4 h5) (v43_6 x2 x3 x4 h2 h4 h5) (v43_7 x2 x3 x4 h2 h4 h5);intro x5 x6 x7 x8 x9 x10 x11 x12 x13 x14 x15 x16 x17 x18 x19
 exact (bif decide (t4 > 0) then (bif q42 3 h6_0 h6_1 h6_2 then (bif decide (x1=0) then (bif q96 x2 x3 x4 h2 h4 h5 then (bif q136 h0 h3 x9 x10 x11 (if (if x5<999 then x5 else 999) > (-999) then (if x5<999 then x5 else 999) else (-999)) then N (IntKind.i64.wrap (t4 - 1),(v136_0 h0 h3 x9 x10 x11 (if (if x5<999 then x5 else 999) > (-999) then (if x5<999 then x5 else 999) else (-999))),(v136_2 h0 h3 x9 x10 x11 (if (if x5<999 then x5 else 999) > (-999) then (if x5<999 then x5 else 999) else (-999))),(v136_1 h0 h3 x9 x10 x11 (if (if x5<999 then x5 else 999) > (-999) then (if x5<999 then x5 else 999) else (-999))),(v136_3 h0 h3 x9 x10 x11 (if (if x5<999 then x5 else 999) > (-999) then (if x5<999 then x5 else 999) else (-999))),(v136_4 h0 h3 x9 x10 x11 (if (if x5<999 then x5 else 999) > (-999) then (if x5<999 then x5 else 999) else (-999))),x6,x7,x8)
 else d)
 else d)
 else (bif decide (x1=1) then (bif q42 10 x2 x3 x4 then (bif q137 h0 h3 h2 h4 h5 (v42_0 10 x2 x3 x4) then N (IntKind.i64.wrap (t4 - 1),(v137_0 h0 h3 h2 h4 h5 (v42_0 10 x2 x3 x4)),(v137_2 h0 h3 h2 h4 h5 (v42_0 10 x2 x3 x4)),(v137_1 h0 h3 h2 h4 h5 (v42_0 10 x2 x3 x4)),(v137_3 h0 h3 h2 h4 h5 (v42_0 10 x2 x3 x4)),(v137_4 h0 h3 h2 h4 h5 (v42_0 10 x2 x3 x4)),(v42_1 10 x2 x3 x4),(v42_2 10 x2 x3 x4),(v42_3 10 x2 x3 x4))
 else d)
 else d)
 else (bif q43 x2 x3 x4 h2 h4 h5 then (bif q9 h0 h3 x17 x18 x19 h3 x12 x13 then N (IntKind.i64.wrap (t4 - 1),(v9_0 h0 h3 x17 x18 x19 h3 x12 x13),(v9_2 h0 h3 x17 x18 x19 h3 x12 x13),(v9_1 h0 h3 x17 x18 x19 h3 x12 x13),(v9_3 h0 h3 x17 x18 x19 h3 x12 x13),(v9_4 h0 h3 x17 x18 x19 h3 x12 x13),x14,x15,x16)
 else d)
 else d)))
 else d)
 else K (h0,h2,h3,h4,h5,h6_0,h6_1,h6_2))
def F92_0 (h1 t4:Int) (h0 h2:List AV) (h3:Int) (h4 h5 h6_0:List AV) (h6_1 h6_2:Int):Out ((Int × (List AV) × (List AV) × Int × (List AV) × (List AV) × (List AV) × Int × Int)) (((List AV) × (List AV) × Int × (List AV) × (List AV) × (List AV) × Int × Int)):=G92_0 h1 t4 h0 h2 h3 h4 h5 h6_0 h6_1 h6_2 .next .stop .fail
def R92_0 (h1:Int):((Int × (List AV) × (List AV) × Int × (List AV) × (List AV) × (List AV) × Int × Int))→Out ((Int × (List AV) × (List AV) × Int × (List AV) × (List AV) × (List AV) × Int × Int)) (((List AV) × (List AV) × Int × (List AV) × (List AV) × (List AV) × Int × Int)):=fun s:Int × (List AV) × (List AV) × Int × (List AV) × (List AV) × (List AV) × Int × Int=>F92_0 h1 s.1 s.2.1 s.2.2.1 s.2.2.2.1 s.2.2.2.2.1 s.2.2.2.2.2.1 s.2.2.2.2.2.2.1 s.2.2.2.2.2.2.2.1 s.2.2.2.2.2.2.2.2
def E92_0 (h1:Int):((Int × (List AV) × (List AV) × Int × (List AV) × (List AV) × (List AV) × Int × Int))→St:=fun s:Int × (List AV) × (List AV) × Int × (List AV) × (List AV) × (List AV) × Int × Int=>⟨[(0,AV.ptr [1] 0 0),(2,AV.ptr [0,2,0] 0 0),(3,AV.ptr [0,3,0] 0 0),(4,Ai s.1)],[([0,0,3,0],⟨false,[.int .i64,.int .i64,.int .i64,.int .i64],s.2.1⟩),([0,2,0],⟨true,[],[AV.agg [AV.snil,Ai h1,AV.snil,AV.snil,AV.snil]]⟩),([0,2,3,0],⟨false,[.int .i64],s.2.2.1⟩),([0,3,0],⟨true,[],[AV.agg [AV.own [0,0,3,0],Ai s.2.2.2.1,AV.own [0,2,3,0],AV.own [0,3,3,0],AV.own [0,4,3,0]]]⟩),([0,3,3,0],⟨false,[.int .i64],s.2.2.2.2.1⟩),([0,4,3,0],⟨false,[.int .i64,.int .i64],s.2.2.2.2.2.1⟩),([1],⟨true,[],[AV.agg [AV.sl [.int .u8] s.2.2.2.2.2.2.1,Ai s.2.2.2.2.2.2.2.1,Ai s.2.2.2.2.2.2.2.2]]⟩)]⟩
def K92_0 (h1:Int) (k:Kont):(((List AV) × (List AV) × Int × (List AV) × (List AV) × (List AV) × Int × Int))→Option AV:=fun p:(List AV) × (List AV) × Int × (List AV) × (List AV) × (List AV) × Int × Int=>k (.exit 0) ⟨[(2,AV.ptr [0,2,0] 0 0),(3,AV.ptr [0,3,0] 0 0)],[([0,0,3,0],⟨false,[.int .i64,.int .i64,.int .i64,.int .i64],p.1⟩),([0,2,0],⟨true,[],[AV.agg [AV.snil,Ai h1,AV.snil,AV.snil,AV.snil]]⟩),([0,2,3,0],⟨false,[.int .i64],p.2.1⟩),([0,3,0],⟨true,[],[AV.agg [AV.own [0,0,3,0],Ai p.2.2.1,AV.own [0,2,3,0],AV.own [0,3,3,0],AV.own [0,4,3,0]]]⟩),([0,3,3,0],⟨false,[.int .i64],p.2.2.2.1⟩),([0,4,3,0],⟨false,[.int .i64,.int .i64],p.2.2.2.2.1⟩),([1],⟨true,[],[AV.agg [AV.sl [.int .u8] p.2.2.2.2.2.1,Ai p.2.2.2.2.2.2.1,Ai p.2.2.2.2.2.2.2]]⟩)]⟩
def l92_0:LModel:=fun _ _ st k=>match st with
 | ⟨[(0,.ptr g0 g1 g2),(2,.ptr g3 g4 g5),(3,.ptr g6 g7 g8),(4,.int .i64 t4)],[(g9,⟨false,g10,h0⟩),(g11,⟨true,[],[.agg [.snil,.int .i64 h1,.snil,.snil,.snil]]⟩),(g12,⟨false,g13,h2⟩),(g14,⟨true,[],[.agg [.own g15,.int .i64 h3,.own g16,.own g17,.own g18]]⟩),(g19,⟨false,g20,h4⟩),(g21,⟨false,g22,h5⟩),(g23,⟨true,[],[.agg [.sl g24 h6_0,.int .i64 h6_1,.int .i64 h6_2]]⟩)]⟩=>bif nmEq g0 ([1]) && Nat.beq g1 0 && Nat.beq g2 0 && nmEq g3 ([0,2,0]) && Nat.beq g4 0 && Nat.beq g5 0 && nmEq g6 ([0,3,0]) && Nat.beq g7 0 && Nat.beq g8 0 && nmEq g9 ([0,0,3,0]) && ctsEq g10 ([.int .i64,.int .i64,.int .i64,.int .i64]) && nmEq g11 ([0,2,0]) && nmEq g12 ([0,2,3,0]) && ctsEq g13 ([.int .i64]) && nmEq g14 ([0,3,0]) && nmEq g15 ([0,0,3,0]) && nmEq g16 ([0,2,3,0]) && nmEq g17 ([0,3,3,0]) && nmEq g18 ([0,4,3,0]) && nmEq g19 ([0,3,3,0]) && ctsEq g20 ([.int .i64]) && nmEq g21 ([0,4,3,0]) && ctsEq g22 ([.int .i64,.int .i64]) && nmEq g23 ([1]) && ctsEq g24 ([.int .u8]) then ro (runW (R92_0 h1) ((t4 - 0:Int).toNat+1) (t4,h0,h2,h3,h4,h5,h6_0,h6_1,h6_2)) none (K92_0 h1 k) else none
 | _=>none
noncomputable def c92:Cfg:=cfg Tryz.prog [(92,0,[0,2,3,4]),(92,999,[2]),(92,1000,[2,3]),(92,1001,[0,2,3,4]),(92,1002,[0,2,3,4])] [(9,m9),(135,m135),(136,m136),(137,m137)] [(42,.g m42),(43,.g m43),(96,.g m96),(123,.g m123)] [] [(92,0,l92_0)]
theorem s92_0 (h1:Int) (ce:CallE) (k:Kont) (s:Int × (List AV) × (List AV) × Int × (List AV) × (List AV) × (List AV) × Int × Int) (next:St→Option AV):stepA (codeA c92 ce [0] 92 0 (sub [1,1,0,1,0,0] (body Tryz.f92))) (normA [0] [0,2,3,4]) next ((E92_0 h1) s) k=G92_0 h1 s.1 s.2.1 s.2.2.1 s.2.2.2.1 s.2.2.2.2.1 s.2.2.2.2.2.1 s.2.2.2.2.2.2.1 s.2.2.2.2.2.2.2.1 s.2.2.2.2.2.2.2.2 (fun s=>next ((E92_0 h1) s)) (K92_0 h1 k) none:=by kernel_rfl
theorem st92_0 (h1:Int) (ce:CallE) (k:Kont) (s:(Int × (List AV) × (List AV) × Int × (List AV) × (List AV) × (List AV) × Int × Int)) (next:St→Option AV):stepA (codeA c92 ce [0] 92 0 (sub [1,1,0,1,0,0] (body Tryz.f92))) (normA [0] [0,2,3,4]) next ((E92_0 h1) s) k=(R92_0 h1 s).el none (fun s=>next ((E92_0 h1) s)) (K92_0 h1 k):=(s92_0 h1 ce k s next).trans (by unfold R92_0;unfold F92_0 G92_0;simp only [el_cond,el_ro,el_sum,el_fail,el_next,el_stop] <;> rfl)
theorem ok92_0 {ce:CallE}:LoopOK c92 ce [0] 92 0 (sub [1,1,0,1,0,0] (body Tryz.f92)):=by
 intro m hm st k r h
 obtain rfl:l92_0=m:=Option.some.inj hm
 unfold l92_0 at h
 split at h
 ·rename_i g0 g1 g2 g3 g4 g5 g6 g7 g8 t4 g9 g10 h0 g11 h1 g12 g13 h2 g14 g15 h3 g16 g17 g18 g19 g20 h4 g21 g22 h5 g23 g24 h6_0 h6_1 h6_2
  obtain ⟨hg,h⟩:=bif_some h
  simp only [Bool.and_eq_true] at hg
  obtain ⟨⟨⟨⟨⟨⟨⟨⟨⟨⟨⟨⟨⟨⟨⟨⟨⟨⟨⟨⟨⟨⟨⟨⟨q0,q1⟩,q2⟩,q3⟩,q4⟩,q5⟩,q6⟩,q7⟩,q8⟩,q9⟩,q10⟩,q11⟩,q12⟩,q13⟩,q14⟩,q15⟩,q16⟩,q17⟩,q18⟩,q19⟩,q20⟩,q21⟩,q22⟩,q23⟩,q24⟩:=hg
  obtain rfl:=nE q0
  obtain rfl:=bE q1
  obtain rfl:=bE q2
  obtain rfl:=nE q3
  obtain rfl:=bE q4
  obtain rfl:=bE q5
  obtain rfl:=nE q6
  obtain rfl:=bE q7
  obtain rfl:=bE q8
  obtain rfl:=nE q9
  obtain rfl:=cE q10
  obtain rfl:=nE q11
  obtain rfl:=nE q12
  obtain rfl:=cE q13
  obtain rfl:=nE q14
  obtain rfl:=nE q15
  obtain rfl:=nE q16
  obtain rfl:=nE q17
  obtain rfl:=nE q18
  obtain rfl:=nE q19
  obtain rfl:=cE q20
  obtain rfl:=nE q21
  obtain rfl:=cE q22
  obtain rfl:=nE q23
  obtain rfl:=cE q24
  refine ⟨((t4 - 0:Int).toNat+1),?_⟩
  rw [← h]
  exact loop_run (E92_0 h1) (K92_0 h1 k) (st92_0 h1 ce k) _ (t4,h0,h2,h3,h4,h5,h6_0,h6_1,h6_2)
 ·cases h
def T92 {β:Type} (k:((List AV) × Int × (List AV) × (List AV) × (List AV) × (List AV) × Int × Int)→β) (n:β) (ua:List AV) (ub:Int) (uc:Int):β:=by
 refine (?f0:(List AV)→(List AV)→Int→Int→β) (v123_0 8 ua ub uc) (v123_1 8 ua ub uc) (v123_2 8 ua ub uc) (v123_3 8 ua ub uc);intro x1 x2 x3 x4
 exact (bif q123 8 ua ub uc then (bif q135 x1 then (bif q42 8 x2 x3 x4 then (ro (runW (R92_0 0) (((v42_0 8 x2 x3 x4) - 0:Int).toNat+1) ((v42_0 8 x2 x3 x4),(v135_0 x1),(v135_2 x1),(v135_1 x1),(v135_3 x1),(v135_4 x1),(v42_1 8 x2 x3 x4),(v42_2 8 x2 x3 x4),(v42_3 8 x2 x3 x4))) n (fun p38=>k (p38.1,p38.2.2.1,p38.2.1,p38.2.2.2.1,p38.2.2.2.2.1,p38.2.2.2.2.2.1,p38.2.2.2.2.2.2.1,p38.2.2.2.2.2.2.2)))
 else n)
 else n)
 else n)
abbrev W92 (ua:List AV) (ub:Int) (uc:Int):Option ((List AV) × Int × (List AV) × (List AV) × (List AV) × (List AV) × Int × Int):=T92 some none ua ub uc
theorem n92 {β:Type} (k:((List AV) × Int × (List AV) × (List AV) × (List AV) × (List AV) × Int × Int)→β) (n:β) (ua:List AV) (ub:Int) (uc:Int):T92 k n ua ub uc=oe k n (W92 ua ub uc):=by
 unfold W92 T92
 simp only [oe_cond,oe_ro,oe_sum,oe_some,oe_none]
def q92 (ua:List AV) (ub uc:Int):Bool:=(W92 ua ub uc).isSome
def v92_0 (ua:List AV) (ub uc:Int):List AV:=oe (fun t=>t.1) [] (W92 ua ub uc)
def v92_1 (ua:List AV) (ub uc:Int):Int:=oe (fun t=>t.2.1) 0 (W92 ua ub uc)
def v92_2 (ua:List AV) (ub uc:Int):List AV:=oe (fun t=>t.2.2.1) [] (W92 ua ub uc)
def v92_3 (ua:List AV) (ub uc:Int):List AV:=oe (fun t=>t.2.2.2.1) [] (W92 ua ub uc)
def v92_4 (ua:List AV) (ub uc:Int):List AV:=oe (fun t=>t.2.2.2.2.1) [] (W92 ua ub uc)
def v92_5 (ua:List AV) (ub uc:Int):List AV:=oe (fun t=>t.2.2.2.2.2.1) [] (W92 ua ub uc)
def v92_6 (ua:List AV) (ub uc:Int):Int:=oe (fun t=>t.2.2.2.2.2.2.1) 0 (W92 ua ub uc)
def v92_7 (ua:List AV) (ub uc:Int):Int:=oe (fun t=>t.2.2.2.2.2.2.2) 0 (W92 ua ub uc)
theorem e92 (ua:List AV) (ub uc:Int) (K:List AV→List (Option Blk)→Option AV):inlA c92 1 92 [AV.ptr [1] 0 0] [0] (canH 1 [⟨true,[],[AV.agg [AV.sl [.int .u8] ua,Ai ub,Ai uc]]⟩]) (keepG Tryz.prog 1 [30] [] K)=T92 (fun t=>K [AV.agg [AV.fl [.int .i64,.int .i64,.int .i64,.int .i64] t.1,Ai t.2.1,AV.fl [.int .i64] t.2.2.1,AV.fl [.int .i64] t.2.2.2.1,AV.fl [.int .i64,.int .i64] t.2.2.2.2.1]] [some ⟨true,[],[AV.agg [AV.sl [.int .u8] t.2.2.2.2.2.1,Ai t.2.2.2.2.2.2.1,Ai t.2.2.2.2.2.2.2]]⟩]) none ua ub uc:=by kernel_rfl
theorem r92 (ua:List AV) (ub uc:Int) (K:List AV→List (Option Blk)→Option AV) (h:q92 ua ub uc=true):inlA c92 1 92 [AV.ptr [1] 0 0] [0] (canH 1 [⟨true,[],[AV.agg [AV.sl [.int .u8] ua,AV.int .i64 ub,AV.int .i64 uc]]⟩]) (keepG Tryz.prog 1 [30] [] K)=K [AV.agg [AV.fl [.int .i64,.int .i64,.int .i64,.int .i64] (v92_0 ua ub uc),AV.int .i64 (v92_1 ua ub uc),AV.fl [.int .i64] (v92_2 ua ub uc),AV.fl [.int .i64] (v92_3 ua ub uc),AV.fl [.int .i64,.int .i64] (v92_4 ua ub uc)]] [some ⟨true,[],[AV.agg [AV.sl [.int .u8] (v92_5 ua ub uc),AV.int .i64 (v92_6 ua ub uc),AV.int .i64 (v92_7 ua ub uc)]]⟩]:=by
 refine ((e92 ua ub uc K).trans (n92 _ _ ua ub uc)).trans ?_
 unfold q92 at h
 unfold v92_0 v92_1 v92_2 v92_3 v92_4 v92_5 v92_6 v92_7
 generalize W92 ua ub uc=o at *
 cases o with
 | none=>cases h
 | some t=>rfl
def m92:GModel
 | [.ptr g0 g1 g2],[⟨true,[],[.agg [.sl g3 ua,.int .i64 ub,.int .i64 uc]]⟩]=>bif nmEq g0 ([1]) && Nat.beq g1 0 && Nat.beq g2 0 && ctsEq g3 ([.int .u8]) then some (q92 ua ub uc,[AV.agg [AV.fl [.int .i64,.int .i64,.int .i64,.int .i64] (v92_0 ua ub uc),AV.int .i64 (v92_1 ua ub uc),AV.fl [.int .i64] (v92_2 ua ub uc),AV.fl [.int .i64] (v92_3 ua ub uc),AV.fl [.int .i64,.int .i64] (v92_4 ua ub uc)]],[some ⟨true,[],[AV.agg [AV.sl [.int .u8] (v92_5 ua ub uc),AV.int .i64 (v92_6 ua ub uc),AV.int .i64 (v92_7 ua ub uc)]]⟩]) else none
 | _,_=>none
theorem k92:Known Tryz.prog 92:=⟨Tryz.f92,Tryz.func92,by kernel_rfl,by kernel_rfl⟩
theorem meets92:MeetsG Tryz.prog 92 m92:=by
 refine mg (rt:=[30]) (gs:=[]) (lvl:=0) (cf:=c92) rfl mixed k92 Tryz.func92 (by kernel_rfl) (loops_cons ok92_0 noLoop) (allT_cons meets9 (allT_cons meets135 (allT_cons meets136 (allT_cons meets137 allT_nil)))) (allG_cons meets42 (allG_cons meets43 (allG_cons meets96 (allG_cons meets123 allM_nil)))) noI fun xs bs r bs' h K=>?_
 unfold m92 at h
 split at h
 ·rename_i g0 g1 g2 g3 ua ub uc
  obtain ⟨hg,h⟩:=bif_pair h
  simp only [Bool.and_eq_true] at hg
  obtain ⟨⟨⟨q0,q1⟩,q2⟩,q3⟩:=hg
  obtain rfl:=nE q0
  obtain rfl:=bE q1
  obtain rfl:=bE q2
  obtain rfl:=cE q3
  obtain ⟨h1,rfl,rfl⟩:=trip_inj h
  exact r92 ua ub uc K h1
 ·cases h
def G138_0 {β:Type} (t4:Int) (h0:List AV) (h1:List AV) (h3:List AV) (h5_0:List AV) (h5_1:Int) (h5_2:Int) (N:((Int × (List AV) × (List AV) × (List AV) × (List AV) × Int × Int))→β) (K:(((List AV) × (List AV) × (List AV) × (List AV) × Int × Int))→β) (d:β):β:=by
 refine (?f0:Int→(List AV)→Int→Int→(List AV)→(List AV)→(List AV)→β) (v96_0 h5_0 h5_1 h5_2 h0 h1 h3) (v96_1 h5_0 h5_1 h5_2 h0 h1 h3) (v96_2 h5_0 h5_1 h5_2 h0 h1 h3) (v96_3 h5_0 h5_1 h5_2 h0 h1 h3) (v96_4 h5_0 h5_1 h5_2 h0 h1 h3) (v96_5 h5_0 h5_1 h5_2 h0 h1 h3) (v96_6 h5_0 h5_1 h5_2 h0 h1 h3);intro x1 x2 x3 x4 x5 x6 x7
 exact (bif decide (t4 > 0) then (bif q96 h5_0 h5_1 h5_2 h0 h1 h3 then (bif q118 x5 x6 x7 x1 then N (IntKind.i64.wrap (t4 - 1),(v118_0 x5 x6 x7 x1),(v118_1 x5 x6 x7 x1),(v118_2 x5 x6 x7 x1),x2,x3,x4)
 else d)
 else d)
 else K (h0,h1,h3,h5_0,h5_1,h5_2))
def F138_0 (t4:Int) (h0 h1 h3 h5_0:List AV) (h5_1 h5_2:Int):Out ((Int × (List AV) × (List AV) × (List AV) × (List AV) × Int × Int)) (((List AV) × (List AV) × (List AV) × (List AV) × Int × Int)):=G138_0 t4 h0 h1 h3 h5_0 h5_1 h5_2 .next .stop .fail
def R138_0:((Int × (List AV) × (List AV) × (List AV) × (List AV) × Int × Int))→Out ((Int × (List AV) × (List AV) × (List AV) × (List AV) × Int × Int)) (((List AV) × (List AV) × (List AV) × (List AV) × Int × Int)):=fun s:Int × (List AV) × (List AV) × (List AV) × (List AV) × Int × Int=>F138_0 s.1 s.2.1 s.2.2.1 s.2.2.2.1 s.2.2.2.2.1 s.2.2.2.2.2.1 s.2.2.2.2.2.2
def E138_0:((Int × (List AV) × (List AV) × (List AV) × (List AV) × Int × Int))→St:=fun s:Int × (List AV) × (List AV) × (List AV) × (List AV) × Int × Int=>⟨[(0,AV.ptr [1] 0 0),(2,AV.ptr [0,2,0] 0 0),(3,AV.ptr [0,3,0] 0 0),(4,Ai s.1)],[([0,0,3,0],⟨false,[.int .i64],s.2.1⟩),([0,1,3,0],⟨false,[.int .i64],s.2.2.1⟩),([0,2,0],⟨true,[],[AV.agg [AV.snil,AV.snil,AV.snil]]⟩),([0,2,3,0],⟨false,[.int .i64,.int .i64],s.2.2.2.1⟩),([0,3,0],⟨true,[],[AV.agg [AV.own [0,0,3,0],AV.own [0,1,3,0],AV.own [0,2,3,0]]]⟩),([1],⟨true,[],[AV.agg [AV.sl [.int .u8] s.2.2.2.2.1,Ai s.2.2.2.2.2.1,Ai s.2.2.2.2.2.2]]⟩)]⟩
def K138_0 (k:Kont):(((List AV) × (List AV) × (List AV) × (List AV) × Int × Int))→Option AV:=fun p:(List AV) × (List AV) × (List AV) × (List AV) × Int × Int=>k (.exit 0) ⟨[(2,AV.ptr [0,2,0] 0 0),(3,AV.ptr [0,3,0] 0 0)],[([0,0,3,0],⟨false,[.int .i64],p.1⟩),([0,1,3,0],⟨false,[.int .i64],p.2.1⟩),([0,2,0],⟨true,[],[AV.agg [AV.snil,AV.snil,AV.snil]]⟩),([0,2,3,0],⟨false,[.int .i64,.int .i64],p.2.2.1⟩),([0,3,0],⟨true,[],[AV.agg [AV.own [0,0,3,0],AV.own [0,1,3,0],AV.own [0,2,3,0]]]⟩),([1],⟨true,[],[AV.agg [AV.sl [.int .u8] p.2.2.2.1,Ai p.2.2.2.2.1,Ai p.2.2.2.2.2]]⟩)]⟩
def l138_0:LModel:=fun _ _ st k=>match st with
 | ⟨[(0,.ptr g0 g1 g2),(2,.ptr g3 g4 g5),(3,.ptr g6 g7 g8),(4,.int .i64 t4)],[(g9,⟨false,g10,h0⟩),(g11,⟨false,g12,h1⟩),(g13,⟨true,[],[.agg [.snil,.snil,.snil]]⟩),(g14,⟨false,g15,h3⟩),(g16,⟨true,[],[.agg [.own g17,.own g18,.own g19]]⟩),(g20,⟨true,[],[.agg [.sl g21 h5_0,.int .i64 h5_1,.int .i64 h5_2]]⟩)]⟩=>bif nmEq g0 ([1]) && Nat.beq g1 0 && Nat.beq g2 0 && nmEq g3 ([0,2,0]) && Nat.beq g4 0 && Nat.beq g5 0 && nmEq g6 ([0,3,0]) && Nat.beq g7 0 && Nat.beq g8 0 && nmEq g9 ([0,0,3,0]) && ctsEq g10 ([.int .i64]) && nmEq g11 ([0,1,3,0]) && ctsEq g12 ([.int .i64]) && nmEq g13 ([0,2,0]) && nmEq g14 ([0,2,3,0]) && ctsEq g15 ([.int .i64,.int .i64]) && nmEq g16 ([0,3,0]) && nmEq g17 ([0,0,3,0]) && nmEq g18 ([0,1,3,0]) && nmEq g19 ([0,2,3,0]) && nmEq g20 ([1]) && ctsEq g21 ([.int .u8]) then ro (runW (R138_0) ((t4 - 0:Int).toNat+1) (t4,h0,h1,h3,h5_0,h5_1,h5_2)) none (K138_0 k) else none
 | _=>none
noncomputable def c138:Cfg:=cfg Tryz.prog [(138,0,[0,2,3,4]),(138,999,[2]),(138,1000,[2,3]),(138,1001,[0,2,3,4])] [(118,m118),(125,m125)] [(42,.g m42),(96,.g m96),(123,.g m123)] [] [(138,0,l138_0)]
theorem s138_0 (ce:CallE) (k:Kont) (s:Int × (List AV) × (List AV) × (List AV) × (List AV) × Int × Int) (next:St→Option AV):stepA (codeA c138 ce [0] 138 0 (sub [1,1,0,1,0,0] (body Tryz.f138))) (normA [0] [0,2,3,4]) next (E138_0 s) k=G138_0 s.1 s.2.1 s.2.2.1 s.2.2.2.1 s.2.2.2.2.1 s.2.2.2.2.2.1 s.2.2.2.2.2.2 (fun s=>next (E138_0 s)) (K138_0 k) none:=by kernel_rfl
theorem st138_0 (ce:CallE) (k:Kont) (s:(Int × (List AV) × (List AV) × (List AV) × (List AV) × Int × Int)) (next:St→Option AV):stepA (codeA c138 ce [0] 138 0 (sub [1,1,0,1,0,0] (body Tryz.f138))) (normA [0] [0,2,3,4]) next (E138_0 s) k=(R138_0 s).el none (fun s=>next (E138_0 s)) (K138_0 k):=(s138_0 ce k s next).trans (by unfold R138_0;unfold F138_0 G138_0;simp only [el_cond,el_ro,el_sum,el_fail,el_next,el_stop] <;> rfl)
theorem ok138_0 {ce:CallE}:LoopOK c138 ce [0] 138 0 (sub [1,1,0,1,0,0] (body Tryz.f138)):=by
 intro m hm st k r h
 obtain rfl:l138_0=m:=Option.some.inj hm
 unfold l138_0 at h
 split at h
 ·rename_i g0 g1 g2 g3 g4 g5 g6 g7 g8 t4 g9 g10 h0 g11 g12 h1 g13 g14 g15 h3 g16 g17 g18 g19 g20 g21 h5_0 h5_1 h5_2
  obtain ⟨hg,h⟩:=bif_some h
  simp only [Bool.and_eq_true] at hg
  obtain ⟨⟨⟨⟨⟨⟨⟨⟨⟨⟨⟨⟨⟨⟨⟨⟨⟨⟨⟨⟨⟨q0,q1⟩,q2⟩,q3⟩,q4⟩,q5⟩,q6⟩,q7⟩,q8⟩,q9⟩,q10⟩,q11⟩,q12⟩,q13⟩,q14⟩,q15⟩,q16⟩,q17⟩,q18⟩,q19⟩,q20⟩,q21⟩:=hg
  obtain rfl:=nE q0
  obtain rfl:=bE q1
  obtain rfl:=bE q2
  obtain rfl:=nE q3
  obtain rfl:=bE q4
  obtain rfl:=bE q5
  obtain rfl:=nE q6
  obtain rfl:=bE q7
  obtain rfl:=bE q8
  obtain rfl:=nE q9
  obtain rfl:=cE q10
  obtain rfl:=nE q11
  obtain rfl:=cE q12
  obtain rfl:=nE q13
  obtain rfl:=nE q14
  obtain rfl:=cE q15
  obtain rfl:=nE q16
  obtain rfl:=nE q17
  obtain rfl:=nE q18
  obtain rfl:=nE q19
  obtain rfl:=nE q20
  obtain rfl:=cE q21
  refine ⟨((t4 - 0:Int).toNat+1),?_⟩
  rw [← h]
  exact loop_run E138_0 (K138_0 k) (st138_0 ce k) _ (t4,h0,h1,h3,h5_0,h5_1,h5_2)
 ·cases h
def T138 {β:Type} (k:((List AV) × (List AV) × (List AV) × (List AV) × Int × Int)→β) (n:β) (ua:List AV) (ub:Int) (uc:Int):β:=by
 refine (?f0:(List AV)→(List AV)→Int→Int→β) (v123_0 14 ua ub uc) (v123_1 14 ua ub uc) (v123_2 14 ua ub uc) (v123_3 14 ua ub uc);intro x1 x2 x3 x4
 exact (bif q123 14 ua ub uc then (bif q125 x1 then (bif q42 5 x2 x3 x4 then (ro (runW (R138_0) (((v42_0 5 x2 x3 x4) - 0:Int).toNat+1) ((v42_0 5 x2 x3 x4),(v125_0 x1),(v125_1 x1),(v125_2 x1),(v42_1 5 x2 x3 x4),(v42_2 5 x2 x3 x4),(v42_3 5 x2 x3 x4))) n (fun p39=>k (p39.1,p39.2.1,p39.2.2.1,p39.2.2.2.1,p39.2.2.2.2.1,p39.2.2.2.2.2)))
 else n)
 else n)
 else n)
abbrev W138 (ua:List AV) (ub:Int) (uc:Int):Option ((List AV) × (List AV) × (List AV) × (List AV) × Int × Int):=T138 some none ua ub uc
theorem n138 {β:Type} (k:((List AV) × (List AV) × (List AV) × (List AV) × Int × Int)→β) (n:β) (ua:List AV) (ub:Int) (uc:Int):T138 k n ua ub uc=oe k n (W138 ua ub uc):=by
 unfold W138 T138
 simp only [oe_cond,oe_ro,oe_sum,oe_some,oe_none]
def q138 (ua:List AV) (ub uc:Int):Bool:=(W138 ua ub uc).isSome
def v138_0 (ua:List AV) (ub uc:Int):List AV:=oe (fun t=>t.1) [] (W138 ua ub uc)
def v138_1 (ua:List AV) (ub uc:Int):List AV:=oe (fun t=>t.2.1) [] (W138 ua ub uc)
def v138_2 (ua:List AV) (ub uc:Int):List AV:=oe (fun t=>t.2.2.1) [] (W138 ua ub uc)
def v138_3 (ua:List AV) (ub uc:Int):List AV:=oe (fun t=>t.2.2.2.1) [] (W138 ua ub uc)
def v138_4 (ua:List AV) (ub uc:Int):Int:=oe (fun t=>t.2.2.2.2.1) 0 (W138 ua ub uc)
def v138_5 (ua:List AV) (ub uc:Int):Int:=oe (fun t=>t.2.2.2.2.2) 0 (W138 ua ub uc)
theorem e138 (ua:List AV) (ub uc:Int) (K:List AV→List (Option Blk)→Option AV):inlA c138 1 138 [AV.ptr [1] 0 0] [0] (canH 1 [⟨true,[],[AV.agg [AV.sl [.int .u8] ua,Ai ub,Ai uc]]⟩]) (keepG Tryz.prog 1 [28] [] K)=T138 (fun t=>K [AV.agg [AV.fl [.int .i64] t.1,AV.fl [.int .i64] t.2.1,AV.fl [.int .i64,.int .i64] t.2.2.1]] [some ⟨true,[],[AV.agg [AV.sl [.int .u8] t.2.2.2.1,Ai t.2.2.2.2.1,Ai t.2.2.2.2.2]]⟩]) none ua ub uc:=by kernel_rfl
theorem r138 (ua:List AV) (ub uc:Int) (K:List AV→List (Option Blk)→Option AV) (h:q138 ua ub uc=true):inlA c138 1 138 [AV.ptr [1] 0 0] [0] (canH 1 [⟨true,[],[AV.agg [AV.sl [.int .u8] ua,AV.int .i64 ub,AV.int .i64 uc]]⟩]) (keepG Tryz.prog 1 [28] [] K)=K [AV.agg [AV.fl [.int .i64] (v138_0 ua ub uc),AV.fl [.int .i64] (v138_1 ua ub uc),AV.fl [.int .i64,.int .i64] (v138_2 ua ub uc)]] [some ⟨true,[],[AV.agg [AV.sl [.int .u8] (v138_3 ua ub uc),AV.int .i64 (v138_4 ua ub uc),AV.int .i64 (v138_5 ua ub uc)]]⟩]:=by
 refine ((e138 ua ub uc K).trans (n138 _ _ ua ub uc)).trans ?_
 unfold q138 at h
 unfold v138_0 v138_1 v138_2 v138_3 v138_4 v138_5
 generalize W138 ua ub uc=o at *
 cases o with
 | none=>cases h
 | some t=>rfl
def m138:GModel
 | [.ptr g0 g1 g2],[⟨true,[],[.agg [.sl g3 ua,.int .i64 ub,.int .i64 uc]]⟩]=>bif nmEq g0 ([1]) && Nat.beq g1 0 && Nat.beq g2 0 && ctsEq g3 ([.int .u8]) then some (q138 ua ub uc,[AV.agg [AV.fl [.int .i64] (v138_0 ua ub uc),AV.fl [.int .i64] (v138_1 ua ub uc),AV.fl [.int .i64,.int .i64] (v138_2 ua ub uc)]],[some ⟨true,[],[AV.agg [AV.sl [.int .u8] (v138_3 ua ub uc),AV.int .i64 (v138_4 ua ub uc),AV.int .i64 (v138_5 ua ub uc)]]⟩]) else none
 | _,_=>none
theorem k138:Known Tryz.prog 138:=⟨Tryz.f138,Tryz.func138,by kernel_rfl,by kernel_rfl⟩
theorem meets138:MeetsG Tryz.prog 138 m138:=by
 refine mg (rt:=[28]) (gs:=[]) (lvl:=0) (cf:=c138) rfl mixed k138 Tryz.func138 (by kernel_rfl) (loops_cons ok138_0 noLoop) (allT_cons meets118 (allT_cons meets125 allT_nil)) (allG_cons meets42 (allG_cons meets96 (allG_cons meets123 allM_nil))) noI fun xs bs r bs' h K=>?_
 unfold m138 at h
 split at h
 ·rename_i g0 g1 g2 g3 ua ub uc
  obtain ⟨hg,h⟩:=bif_pair h
  simp only [Bool.and_eq_true] at hg
  obtain ⟨⟨⟨q0,q1⟩,q2⟩,q3⟩:=hg
  obtain rfl:=nE q0
  obtain rfl:=bE q1
  obtain rfl:=bE q2
  obtain rfl:=cE q3
  obtain ⟨h1,rfl,rfl⟩:=trip_inj h
  exact r138 ua ub uc K h1
 ·cases h
noncomputable def c94:Cfg:=cfg Tryz.prog [(94,999,[2]),(94,1000,[2,3])] [] [(42,.g m42),(93,.g m93),(138,.g m138)] [] []
def T94 {β:Type} (k:((List AV) × (List AV) × (List AV) × (List AV) × Int × Int)→β) (n:β) (ua:List AV) (ub:Int) (uc:Int):β:=by
 refine (?f0:(List AV)→(List AV)→(List AV)→(List AV)→Int→Int→β) (v138_0 ua ub uc) (v138_1 ua ub uc) (v138_2 ua ub uc) (v138_3 ua ub uc) (v138_4 ua ub uc) (v138_5 ua ub uc);intro x1 x2 x3 x4 x5 x6
 refine (?f1:Int→(List AV)→Int→Int→β) (v42_0 12 x4 x5 x6) (v42_1 12 x4 x5 x6) (v42_2 12 x4 x5 x6) (v42_3 12 x4 x5 x6);intro x7 x8 x9 x10
 refine (?f2:Int→(List AV)→Int→Int→β) (v42_0 9 x8 x9 x10) (v42_1 9 x8 x9 x10) (v42_2 9 x8 x9 x10) (v42_3 9 x8 x9 x10);intro x11 x12 x13 x14
 exact (bif q138 ua ub uc then (bif q42 12 x4 x5 x6 then (bif decide (x7=0) then (bif decide ((x1.length:Int) > 0) then (bif q93 x8 x9 x10 ([AV.int .i64 0,AV.int .i64 999,AV.int .i64 1000,AV.int .i64 (-5)]) then (bif (decide (0≤0) && decide (0<(x1.length:Int))) then k (x1.set (0:Int).toNat (AV.agg [AV.int .i64 (v93_0 x8 x9 x10 ([AV.int .i64 0,AV.int .i64 999,AV.int .i64 1000,AV.int .i64 (-5)]))]),x2,x3,(v93_1 x8 x9 x10 ([AV.int .i64 0,AV.int .i64 999,AV.int .i64 1000,AV.int .i64 (-5)])),(v93_2 x8 x9 x10 ([AV.int .i64 0,AV.int .i64 999,AV.int .i64 1000,AV.int .i64 (-5)])),(v93_3 x8 x9 x10 ([AV.int .i64 0,AV.int .i64 999,AV.int .i64 1000,AV.int .i64 (-5)])))
 else n)
 else n)
 else k (x1,x2,x3,x8,x9,x10))
 else (bif decide (x7=1) then (bif q42 9 x8 x9 x10 then (bif q42 9 x12 x13 x14 then (bif (decide ((x3.length+([AV.agg [AV.int .i64 x11,AV.int .i64 (v42_0 9 x12 x13 x14)]]).length)*16≤140737488355328) && decide ((x3.length+([AV.agg [AV.int .i64 x11,AV.int .i64 (v42_0 9 x12 x13 x14)]]).length)≤140737488355328)) then k (x1,x2,x3++([AV.agg [AV.int .i64 x11,AV.int .i64 (v42_0 9 x12 x13 x14)]]),(v42_1 9 x12 x13 x14),(v42_2 9 x12 x13 x14),(v42_3 9 x12 x13 x14))
 else n)
 else n)
 else n)
 else (bif decide (x7=2) then (bif (decide ((x2.length+([AV.int .i64 0]).length)*8≤140737488355328) && decide ((x2.length+([AV.int .i64 0]).length)≤140737488355328)) then k (x1,x2++([AV.int .i64 0]),x3,x8,x9,x10)
 else n)
 else k (x1,x2,x3,x8,x9,x10))))
 else n)
 else n)
abbrev W94 (ua:List AV) (ub:Int) (uc:Int):Option ((List AV) × (List AV) × (List AV) × (List AV) × Int × Int):=T94 some none ua ub uc
theorem n94 {β:Type} (k:((List AV) × (List AV) × (List AV) × (List AV) × Int × Int)→β) (n:β) (ua:List AV) (ub:Int) (uc:Int):T94 k n ua ub uc=oe k n (W94 ua ub uc):=by
 unfold W94 T94
 simp only [oe_cond,oe_ro,oe_sum,oe_some,oe_none]
def q94 (ua:List AV) (ub uc:Int):Bool:=(W94 ua ub uc).isSome
def v94_0 (ua:List AV) (ub uc:Int):List AV:=oe (fun t=>t.1) [] (W94 ua ub uc)
def v94_1 (ua:List AV) (ub uc:Int):List AV:=oe (fun t=>t.2.1) [] (W94 ua ub uc)
def v94_2 (ua:List AV) (ub uc:Int):List AV:=oe (fun t=>t.2.2.1) [] (W94 ua ub uc)
def v94_3 (ua:List AV) (ub uc:Int):List AV:=oe (fun t=>t.2.2.2.1) [] (W94 ua ub uc)
def v94_4 (ua:List AV) (ub uc:Int):Int:=oe (fun t=>t.2.2.2.2.1) 0 (W94 ua ub uc)
def v94_5 (ua:List AV) (ub uc:Int):Int:=oe (fun t=>t.2.2.2.2.2) 0 (W94 ua ub uc)
theorem e94 (ua:List AV) (ub uc:Int) (K:List AV→List (Option Blk)→Option AV):inlA c94 1 94 [AV.ptr [1] 0 0] [0] (canH 1 [⟨true,[],[AV.agg [AV.sl [.int .u8] ua,Ai ub,Ai uc]]⟩]) (keepG Tryz.prog 1 [28] [] K)=T94 (fun t=>K [AV.agg [AV.fl [.int .i64] t.1,AV.fl [.int .i64] t.2.1,AV.fl [.int .i64,.int .i64] t.2.2.1]] [some ⟨true,[],[AV.agg [AV.sl [.int .u8] t.2.2.2.1,Ai t.2.2.2.2.1,Ai t.2.2.2.2.2]]⟩]) none ua ub uc:=by kernel_rfl
theorem r94 (ua:List AV) (ub uc:Int) (K:List AV→List (Option Blk)→Option AV) (h:q94 ua ub uc=true):inlA c94 1 94 [AV.ptr [1] 0 0] [0] (canH 1 [⟨true,[],[AV.agg [AV.sl [.int .u8] ua,AV.int .i64 ub,AV.int .i64 uc]]⟩]) (keepG Tryz.prog 1 [28] [] K)=K [AV.agg [AV.fl [.int .i64] (v94_0 ua ub uc),AV.fl [.int .i64] (v94_1 ua ub uc),AV.fl [.int .i64,.int .i64] (v94_2 ua ub uc)]] [some ⟨true,[],[AV.agg [AV.sl [.int .u8] (v94_3 ua ub uc),AV.int .i64 (v94_4 ua ub uc),AV.int .i64 (v94_5 ua ub uc)]]⟩]:=by
 refine ((e94 ua ub uc K).trans (n94 _ _ ua ub uc)).trans ?_
 unfold q94 at h
 unfold v94_0 v94_1 v94_2 v94_3 v94_4 v94_5
 generalize W94 ua ub uc=o at *
 cases o with
 | none=>cases h
 | some t=>rfl
def m94:GModel
 | [.ptr g0 g1 g2],[⟨true,[],[.agg [.sl g3 ua,.int .i64 ub,.int .i64 uc]]⟩]=>bif nmEq g0 ([1]) && Nat.beq g1 0 && Nat.beq g2 0 && ctsEq g3 ([.int .u8]) then some (q94 ua ub uc,[AV.agg [AV.fl [.int .i64] (v94_0 ua ub uc),AV.fl [.int .i64] (v94_1 ua ub uc),AV.fl [.int .i64,.int .i64] (v94_2 ua ub uc)]],[some ⟨true,[],[AV.agg [AV.sl [.int .u8] (v94_3 ua ub uc),AV.int .i64 (v94_4 ua ub uc),AV.int .i64 (v94_5 ua ub uc)]]⟩]) else none
 | _,_=>none
theorem k94:Known Tryz.prog 94:=⟨Tryz.f94,Tryz.func94,by kernel_rfl,by kernel_rfl⟩
theorem meets94:MeetsG Tryz.prog 94 m94:=by
 refine mg (rt:=[28]) (gs:=[]) (lvl:=0) (cf:=c94) rfl mixed k94 Tryz.func94 (by kernel_rfl) noLoop allT_nil (allG_cons meets42 (allG_cons meets93 (allG_cons meets138 allM_nil))) noI fun xs bs r bs' h K=>?_
 unfold m94 at h
 split at h
 ·rename_i g0 g1 g2 g3 ua ub uc
  obtain ⟨hg,h⟩:=bif_pair h
  simp only [Bool.and_eq_true] at hg
  obtain ⟨⟨⟨q0,q1⟩,q2⟩,q3⟩:=hg
  obtain rfl:=nE q0
  obtain rfl:=bE q1
  obtain rfl:=bE q2
  obtain rfl:=cE q3
  obtain ⟨h1,rfl,rfl⟩:=trip_inj h
  exact r94 ua ub uc K h1
 ·cases h
noncomputable def c41:Cfg:=cfg Tryz.prog [(41,999,[2]),(41,1000,[2,3])] [] [(42,.g m42),(92,.g m92),(93,.g m93),(94,.g m94)] [] []
def T41 {β:Type} (k:((List AV) × Int × (List AV) × (List AV) × (List AV) × (List AV) × Int × Int)→β) (n:β) (ua:List AV) (ub:Int) (uc:Int):β:=by
 refine (?f0:(List AV)→Int→(List AV)→(List AV)→(List AV)→(List AV)→Int→Int→β) (v92_0 ua ub uc) (v92_1 ua ub uc) (v92_2 ua ub uc) (v92_3 ua ub uc) (v92_4 ua ub uc) (v92_5 ua ub uc) (v92_6 ua ub uc) (v92_7 ua ub uc);intro x1 x2 x3 x4 x5 x6 x7 x8
 refine (?f1:Int→(List AV)→Int→Int→β) (v42_0 14 x6 x7 x8) (v42_1 14 x6 x7 x8) (v42_2 14 x6 x7 x8) (v42_3 14 x6 x7 x8);intro x9 x10 x11 x12
 exact (bif q92 ua ub uc then (bif q42 14 x6 x7 x8 then (bif decide (x9=0) then (bif q93 x10 x11 x12 ([AV.int .i64 (-1),AV.int .i64 0,AV.int .i64 1000,AV.int .i64 1001]) then k (x1,(v93_0 x10 x11 x12 ([AV.int .i64 (-1),AV.int .i64 0,AV.int .i64 1000,AV.int .i64 1001])),x3,x4,x5,(v93_1 x10 x11 x12 ([AV.int .i64 (-1),AV.int .i64 0,AV.int .i64 1000,AV.int .i64 1001])),(v93_2 x10 x11 x12 ([AV.int .i64 (-1),AV.int .i64 0,AV.int .i64 1000,AV.int .i64 1001])),(v93_3 x10 x11 x12 ([AV.int .i64 (-1),AV.int .i64 0,AV.int .i64 1000,AV.int .i64 1001])))
 else n)
 else (bif decide (x9=1) then (bif decide ((x1.length:Int) > 0) then (bif q93 x10 x11 x12 ([AV.int .i64 (-2),AV.int .i64 0,AV.int .i64 1]) then (bif (decide (0≤0) && decide (0<(x1.length:Int))) then k (x1.set (0:Int).toNat (AV.agg [AV.int .i64 (fI (x1.getD (0:Int).toNat .undef) 0),AV.int .i64 (fI (x1.getD (0:Int).toNat .undef) 1),AV.int .i64 (fI (x1.getD (0:Int).toNat .undef) 2),AV.int .i64 (v93_0 x10 x11 x12 ([AV.int .i64 (-2),AV.int .i64 0,AV.int .i64 1]))]),x2,x3,x4,x5,(v93_1 x10 x11 x12 ([AV.int .i64 (-2),AV.int .i64 0,AV.int .i64 1])),(v93_2 x10 x11 x12 ([AV.int .i64 (-2),AV.int .i64 0,AV.int .i64 1])),(v93_3 x10 x11 x12 ([AV.int .i64 (-2),AV.int .i64 0,AV.int .i64 1])))
 else n)
 else n)
 else k (x1,x2,x3,x4,x5,x10,x11,x12))
 else (bif decide (x9=2) then (bif q94 x10 x11 x12 then k (x1,x2,(v94_0 x10 x11 x12),(v94_1 x10 x11 x12),(v94_2 x10 x11 x12),(v94_3 x10 x11 x12),(v94_4 x10 x11 x12),(v94_5 x10 x11 x12))
 else n)
 else k (x1,x2,x3,x4,x5,x10,x11,x12))))
 else n)
 else n)
abbrev W41 (ua:List AV) (ub:Int) (uc:Int):Option ((List AV) × Int × (List AV) × (List AV) × (List AV) × (List AV) × Int × Int):=T41 some none ua ub uc
theorem n41 {β:Type} (k:((List AV) × Int × (List AV) × (List AV) × (List AV) × (List AV) × Int × Int)→β) (n:β) (ua:List AV) (ub:Int) (uc:Int):T41 k n ua ub uc=oe k n (W41 ua ub uc):=by
 unfold W41 T41
 simp only [oe_cond,oe_ro,oe_sum,oe_some,oe_none]
def q41 (ua:List AV) (ub uc:Int):Bool:=(W41 ua ub uc).isSome
def v41_0 (ua:List AV) (ub uc:Int):List AV:=oe (fun t=>t.1) [] (W41 ua ub uc)
def v41_1 (ua:List AV) (ub uc:Int):Int:=oe (fun t=>t.2.1) 0 (W41 ua ub uc)
def v41_2 (ua:List AV) (ub uc:Int):List AV:=oe (fun t=>t.2.2.1) [] (W41 ua ub uc)
def v41_3 (ua:List AV) (ub uc:Int):List AV:=oe (fun t=>t.2.2.2.1) [] (W41 ua ub uc)
def v41_4 (ua:List AV) (ub uc:Int):List AV:=oe (fun t=>t.2.2.2.2.1) [] (W41 ua ub uc)
def v41_5 (ua:List AV) (ub uc:Int):List AV:=oe (fun t=>t.2.2.2.2.2.1) [] (W41 ua ub uc)
def v41_6 (ua:List AV) (ub uc:Int):Int:=oe (fun t=>t.2.2.2.2.2.2.1) 0 (W41 ua ub uc)
def v41_7 (ua:List AV) (ub uc:Int):Int:=oe (fun t=>t.2.2.2.2.2.2.2) 0 (W41 ua ub uc)
theorem e41 (ua:List AV) (ub uc:Int) (K:List AV→List (Option Blk)→Option AV):inlA c41 1 41 [AV.ptr [1] 0 0] [0] (canH 1 [⟨true,[],[AV.agg [AV.sl [.int .u8] ua,Ai ub,Ai uc]]⟩]) (keepG Tryz.prog 1 [30] [] K)=T41 (fun t=>K [AV.agg [AV.fl [.int .i64,.int .i64,.int .i64,.int .i64] t.1,Ai t.2.1,AV.fl [.int .i64] t.2.2.1,AV.fl [.int .i64] t.2.2.2.1,AV.fl [.int .i64,.int .i64] t.2.2.2.2.1]] [some ⟨true,[],[AV.agg [AV.sl [.int .u8] t.2.2.2.2.2.1,Ai t.2.2.2.2.2.2.1,Ai t.2.2.2.2.2.2.2]]⟩]) none ua ub uc:=by kernel_rfl
theorem r41 (ua:List AV) (ub uc:Int) (K:List AV→List (Option Blk)→Option AV) (h:q41 ua ub uc=true):inlA c41 1 41 [AV.ptr [1] 0 0] [0] (canH 1 [⟨true,[],[AV.agg [AV.sl [.int .u8] ua,AV.int .i64 ub,AV.int .i64 uc]]⟩]) (keepG Tryz.prog 1 [30] [] K)=K [AV.agg [AV.fl [.int .i64,.int .i64,.int .i64,.int .i64] (v41_0 ua ub uc),AV.int .i64 (v41_1 ua ub uc),AV.fl [.int .i64] (v41_2 ua ub uc),AV.fl [.int .i64] (v41_3 ua ub uc),AV.fl [.int .i64,.int .i64] (v41_4 ua ub uc)]] [some ⟨true,[],[AV.agg [AV.sl [.int .u8] (v41_5 ua ub uc),AV.int .i64 (v41_6 ua ub uc),AV.int .i64 (v41_7 ua ub uc)]]⟩]:=by
 refine ((e41 ua ub uc K).trans (n41 _ _ ua ub uc)).trans ?_
 unfold q41 at h
 unfold v41_0 v41_1 v41_2 v41_3 v41_4 v41_5 v41_6 v41_7
 generalize W41 ua ub uc=o at *
 cases o with
 | none=>cases h
 | some t=>rfl
def m41:GModel
 | [.ptr g0 g1 g2],[⟨true,[],[.agg [.sl g3 ua,.int .i64 ub,.int .i64 uc]]⟩]=>bif nmEq g0 ([1]) && Nat.beq g1 0 && Nat.beq g2 0 && ctsEq g3 ([.int .u8]) then some (q41 ua ub uc,[AV.agg [AV.fl [.int .i64,.int .i64,.int .i64,.int .i64] (v41_0 ua ub uc),AV.int .i64 (v41_1 ua ub uc),AV.fl [.int .i64] (v41_2 ua ub uc),AV.fl [.int .i64] (v41_3 ua ub uc),AV.fl [.int .i64,.int .i64] (v41_4 ua ub uc)]],[some ⟨true,[],[AV.agg [AV.sl [.int .u8] (v41_5 ua ub uc),AV.int .i64 (v41_6 ua ub uc),AV.int .i64 (v41_7 ua ub uc)]]⟩]) else none
 | _,_=>none
theorem k41:Known Tryz.prog 41:=⟨Tryz.f41,Tryz.func41,by kernel_rfl,by kernel_rfl⟩
theorem meets41:MeetsG Tryz.prog 41 m41:=by
 refine mg (rt:=[30]) (gs:=[]) (lvl:=0) (cf:=c41) rfl mixed k41 Tryz.func41 (by kernel_rfl) noLoop allT_nil (allG_cons meets42 (allG_cons meets92 (allG_cons meets93 (allG_cons meets94 allM_nil)))) noI fun xs bs r bs' h K=>?_
 unfold m41 at h
 split at h
 ·rename_i g0 g1 g2 g3 ua ub uc
  obtain ⟨hg,h⟩:=bif_pair h
  simp only [Bool.and_eq_true] at hg
  obtain ⟨⟨⟨q0,q1⟩,q2⟩,q3⟩:=hg
  obtain rfl:=nE q0
  obtain rfl:=bE q1
  obtain rfl:=bE q2
  obtain rfl:=cE q3
  obtain ⟨h1,rfl,rfl⟩:=trip_inj h
  exact r41 ua ub uc K h1
 ·cases h
def G7i40_0 {β:Type} (t0:List AV) (h0:Int) (h1_0:Int) (h1_1:Int) (t3:Int) (t4:Int) (N:((Int × Int))→β) (K:(Int)→β) (d:β):β:=(bif decide (t4<(t0.length:Int)) then (bif decide (t4<4000) then (bif (decide (0≤t4) && decide (t4<(t0.length:Int))) then N (IntKind.i64.wrap ((BitVec.ofInt 64 (IntKind.i64.wrap (IntKind.i64.wrap (IntKind.i64.wrap (t3*131)+IntKind.i64.wrap (fI (t0.getD t4.toNat .undef) 0))+7)) &&& BitVec.ofInt 64 1073741823).toNat:Int),IntKind.i64.wrap (t4+1))
 else d)
 else K t3)
 else K t3)
def F7i40_0 (t0:List AV) (h0 h1_0 h1_1 t3 t4:Int):Out ((Int × Int)) (Int):=G7i40_0 t0 h0 h1_0 h1_1 t3 t4 .next .stop .fail
def R7i40_0 (t0:List AV) (h0 h1_0 h1_1:Int):((Int × Int))→Out ((Int × Int)) (Int):=fun s:Int × Int=>F7i40_0 t0 h0 h1_0 h1_1 s.1 s.2
def E7i40_0 (t0:List AV) (h0 h1_0 h1_1:Int):((Int × Int))→St:=fun s:Int × Int=>⟨[(0,AV.sl [.int .u8] t0),(3,Ai s.1),(4,Ai s.2)],[([1,2],⟨true,[],[AV.agg [AV.snil,Ai h0,AV.snil,AV.snil,AV.snil]]⟩),([1,4],⟨true,[],[AV.agg [Ai h1_0,Ai h1_1]]⟩)]⟩
def K7i40_0 (t0:List AV) (h0 h1_0 h1_1:Int) (k:Kont):(Int)→Option AV:=fun p:Int=>k (.exit 0) ⟨[(0,AV.sl [.int .u8] t0),(3,Ai p)],[([1,2],⟨true,[],[AV.agg [AV.snil,Ai h0,AV.snil,AV.snil,AV.snil]]⟩),([1,4],⟨true,[],[AV.agg [Ai h1_0,Ai h1_1]]⟩)]⟩
def l7i40_0:LModel:=fun _ π st k=>match st with
 | ⟨[(0,.sl g1 t0),(3,.int .i64 t3),(4,.int .i64 t4)],[(g2,⟨true,[],[.agg [.snil,.int .i64 h0,.snil,.snil,.snil]]⟩),(g3,⟨true,[],[.agg [.int .i64 h1_0,.int .i64 h1_1]]⟩)]⟩=>bif nmEq π ([9]) && ctsEq g1 ([.int .u8]) && nmEq g2 ([1,2]) && nmEq g3 ([1,4]) then ro (runW (R7i40_0 t0 h0 h1_0 h1_1) (((t0.length:Int) - t4:Int).toNat+1) (t3,t4)) none (K7i40_0 t0 h0 h1_0 h1_1 k) else none
 | _=>none
noncomputable def c7:Cfg:=cfg Tryz.prog [(7,999,[2,3,4]),(40,0,[0,3,4]),(40,999,[2]),(40,1000,[0,3]),(40,1001,[0,3,4])] [] [(41,.g m41),(42,.g m42),(43,.g m43)] [40] [(40,0,l7i40_0)]
theorem s7i40_0 (t0:List AV) (h0 h1_0 h1_1:Int) (ce:CallE) (k:Kont) (s:Int × Int) (next:St→Option AV):stepA (codeA c7 ce [9] 40 0 (sub [1,1,0,1,0,0] (body Tryz.f40))) (normA [9] [0,3,4]) next ((E7i40_0 t0 h0 h1_0 h1_1) s) k=G7i40_0 t0 h0 h1_0 h1_1 s.1 s.2 (fun s=>next ((E7i40_0 t0 h0 h1_0 h1_1) s)) (K7i40_0 t0 h0 h1_0 h1_1 k) none:=by kernel_rfl
theorem st7i40_0 (t0:List AV) (h0 h1_0 h1_1:Int) (ce:CallE) (k:Kont) (s:(Int × Int)) (next:St→Option AV):stepA (codeA c7 ce [9] 40 0 (sub [1,1,0,1,0,0] (body Tryz.f40))) (normA [9] [0,3,4]) next ((E7i40_0 t0 h0 h1_0 h1_1) s) k=(R7i40_0 t0 h0 h1_0 h1_1 s).el none (fun s=>next ((E7i40_0 t0 h0 h1_0 h1_1) s)) (K7i40_0 t0 h0 h1_0 h1_1 k):=(s7i40_0 t0 h0 h1_0 h1_1 ce k s next).trans (by unfold R7i40_0;unfold F7i40_0 G7i40_0;simp only [el_cond,el_ro,el_sum,el_fail,el_next,el_stop] <;> rfl)
theorem ok7i40_0 {ce:CallE} {π:Nm}:LoopOK c7 ce π 40 0 (sub [1,1,0,1,0,0] (body Tryz.f40)):=by
 intro m hm st k r h
 obtain rfl:l7i40_0=m:=Option.some.inj hm
 unfold l7i40_0 at h
 split at h
 ·rename_i g1 t0 t3 t4 g2 h0 g3 h1_0 h1_1
  obtain ⟨hg,h⟩:=bif_some h
  simp only [Bool.and_eq_true] at hg
  obtain ⟨⟨⟨q0,q1⟩,q2⟩,q3⟩:=hg
  obtain rfl:=nE q0
  obtain rfl:=cE q1
  obtain rfl:=nE q2
  obtain rfl:=nE q3
  refine ⟨(((t0.length:Int) - t4:Int).toNat+1),?_⟩
  rw [← h]
  exact loop_run (E7i40_0 t0 h0 h1_0 h1_1) (K7i40_0 t0 h0 h1_0 h1_1 k) (st7i40_0 t0 h0 h1_0 h1_1 ce k) _ (t3,t4)
 ·cases h
def T7 {β:Type} (k:((List AV) × Int × (List AV) × (List AV) × (List AV) × Int × Int × Int)→β) (n:β) (a0:List AV):β:=(ro (runW (R7i40_0 a0 0 0 0) (((a0.length:Int) - 0:Int).toNat+1) (IntKind.i64.wrap (10101+(a0.length:Int)),0)) n (fun p1=>(bif q41 a0 0 p1 then (bif q42 8 (v41_5 a0 0 p1) (v41_6 a0 0 p1) (v41_7 a0 0 p1) then (bif q43 (v42_1 8 (v41_5 a0 0 p1) (v41_6 a0 0 p1) (v41_7 a0 0 p1)) (v42_2 8 (v41_5 a0 0 p1) (v41_6 a0 0 p1) (v41_7 a0 0 p1)) (v42_3 8 (v41_5 a0 0 p1) (v41_6 a0 0 p1) (v41_7 a0 0 p1)) (v41_2 a0 0 p1) (v41_3 a0 0 p1) (v41_4 a0 0 p1) then k ((v41_0 a0 0 p1),(v41_1 a0 0 p1),(v43_5 (v42_1 8 (v41_5 a0 0 p1) (v41_6 a0 0 p1) (v41_7 a0 0 p1)) (v42_2 8 (v41_5 a0 0 p1) (v41_6 a0 0 p1) (v41_7 a0 0 p1)) (v42_3 8 (v41_5 a0 0 p1) (v41_6 a0 0 p1) (v41_7 a0 0 p1)) (v41_2 a0 0 p1) (v41_3 a0 0 p1) (v41_4 a0 0 p1)),(v43_6 (v42_1 8 (v41_5 a0 0 p1) (v41_6 a0 0 p1) (v41_7 a0 0 p1)) (v42_2 8 (v41_5 a0 0 p1) (v41_6 a0 0 p1) (v41_7 a0 0 p1)) (v42_3 8 (v41_5 a0 0 p1) (v41_6 a0 0 p1) (v41_7 a0 0 p1)) (v41_2 a0 0 p1) (v41_3 a0 0 p1) (v41_4 a0 0 p1)),(v43_7 (v42_1 8 (v41_5 a0 0 p1) (v41_6 a0 0 p1) (v41_7 a0 0 p1)) (v42_2 8 (v41_5 a0 0 p1) (v41_6 a0 0 p1) (v41_7 a0 0 p1)) (v42_3 8 (v41_5 a0 0 p1) (v41_6 a0 0 p1) (v41_7 a0 0 p1)) (v41_2 a0 0 p1) (v41_3 a0 0 p1) (v41_4 a0 0 p1)),IntKind.i64.wrap ((v42_0 8 (v41_5 a0 0 p1) (v41_6 a0 0 p1) (v41_7 a0 0 p1)) - 1),(v43_0 (v42_1 8 (v41_5 a0 0 p1) (v41_6 a0 0 p1) (v41_7 a0 0 p1)) (v42_2 8 (v41_5 a0 0 p1) (v41_6 a0 0 p1) (v41_7 a0 0 p1)) (v42_3 8 (v41_5 a0 0 p1) (v41_6 a0 0 p1) (v41_7 a0 0 p1)) (v41_2 a0 0 p1) (v41_3 a0 0 p1) (v41_4 a0 0 p1)),(v43_1 (v42_1 8 (v41_5 a0 0 p1) (v41_6 a0 0 p1) (v41_7 a0 0 p1)) (v42_2 8 (v41_5 a0 0 p1) (v41_6 a0 0 p1) (v41_7 a0 0 p1)) (v42_3 8 (v41_5 a0 0 p1) (v41_6 a0 0 p1) (v41_7 a0 0 p1)) (v41_2 a0 0 p1) (v41_3 a0 0 p1) (v41_4 a0 0 p1)))
 else n)
 else n)
 else n)))
abbrev W7 (a0:List AV):Option ((List AV) × Int × (List AV) × (List AV) × (List AV) × Int × Int × Int):=T7 some none a0
theorem n7 {β:Type} (k:((List AV) × Int × (List AV) × (List AV) × (List AV) × Int × Int × Int)→β) (n:β) (a0:List AV):T7 k n a0=oe k n (W7 a0):=by
 unfold W7 T7
 simp only [oe_cond,oe_ro,oe_sum,oe_some,oe_none]
def q7 (a0:List AV):Bool:=(W7 a0).isSome
def v7_0 (a0:List AV):List AV:=oe (fun t=>t.1) [] (W7 a0)
def v7_1 (a0:List AV):Int:=oe (fun t=>t.2.1) 0 (W7 a0)
def v7_2 (a0:List AV):List AV:=oe (fun t=>t.2.2.1) [] (W7 a0)
def v7_3 (a0:List AV):List AV:=oe (fun t=>t.2.2.2.1) [] (W7 a0)
def v7_4 (a0:List AV):List AV:=oe (fun t=>t.2.2.2.2.1) [] (W7 a0)
def v7_5 (a0:List AV):Int:=oe (fun t=>t.2.2.2.2.2.1) 0 (W7 a0)
def v7_6 (a0:List AV):Int:=oe (fun t=>t.2.2.2.2.2.2.1) 0 (W7 a0)
def v7_7 (a0:List AV):Int:=oe (fun t=>t.2.2.2.2.2.2.2) 0 (W7 a0)
theorem e7 (a0:List AV):funA c7 1 7 [AV.sl [.int .u8] a0]=T7 (fun t=>some (AV.tup [AV.agg [AV.fl [.int .i64,.int .i64,.int .i64,.int .i64] t.1,Ai t.2.1,AV.fl [.int .i64] t.2.2.1,AV.fl [.int .i64] t.2.2.2.1,AV.fl [.int .i64,.int .i64] t.2.2.2.2.1],Ai t.2.2.2.2.2.1,AV.agg [Ai t.2.2.2.2.2.2.1,Ai t.2.2.2.2.2.2.2]])) none a0:=by kernel_rfl
theorem r7 (a0:List AV) (h:q7 a0=true):funA c7 1 7 [AV.sl [.int .u8] a0]=some (AV.tup [AV.agg [AV.fl [.int .i64,.int .i64,.int .i64,.int .i64] (v7_0 a0),AV.int .i64 (v7_1 a0),AV.fl [.int .i64] (v7_2 a0),AV.fl [.int .i64] (v7_3 a0),AV.fl [.int .i64,.int .i64] (v7_4 a0)],AV.int .i64 (v7_5 a0),AV.agg [AV.int .i64 (v7_6 a0),AV.int .i64 (v7_7 a0)]]):=by
 refine ((e7 a0).trans (n7 _ _ a0)).trans ?_
 unfold q7 at h
 unfold v7_0 v7_1 v7_2 v7_3 v7_4 v7_5 v7_6 v7_7
 generalize W7 a0=o at *
 cases o with
 | none=>cases h
 | some t=>rfl
def m7:TModel
 | [.sl g0 a0]=>bif ctsEq g0 ([.int .u8]) then some (q7 a0,AV.tup [AV.agg [AV.fl [.int .i64,.int .i64,.int .i64,.int .i64] (v7_0 a0),AV.int .i64 (v7_1 a0),AV.fl [.int .i64] (v7_2 a0),AV.fl [.int .i64] (v7_3 a0),AV.fl [.int .i64,.int .i64] (v7_4 a0)],AV.int .i64 (v7_5 a0),AV.agg [AV.int .i64 (v7_6 a0),AV.int .i64 (v7_7 a0)]]) else none
 | _=>none
theorem k7:Known Tryz.prog 7:=⟨Tryz.f7,Tryz.func7,by kernel_rfl,by kernel_rfl⟩
theorem i7_40:InlK Tryz.prog [(7,999,[2,3,4]),(40,0,[0,3,4]),(40,999,[2]),(40,1000,[0,3]),(40,1001,[0,3,4])] [] [(41,.g m41),(42,.g m42),(43,.g m43)] [40] [(40,0,l7i40_0)] 40:=⟨⟨Tryz.f40,Tryz.func40,by kernel_rfl,by kernel_rfl⟩,Tryz.f40,[(0,sub [1,1,0,1,0,0] (body Tryz.f40))],Tryz.func40,by kernel_rfl,fun ce π=>(loops_cons (ok7i40_0 (ce:=ce) (π:=π)) noLoop)⟩
theorem meets7:Meets Tryz.prog 7 m7:=by
 refine mt (lvl:=1) (cf:=c7) rfl mixed k7 Tryz.func7 (by kernel_rfl) noLoop allT_nil (allG_cons meets41 (allG_cons meets42 (allG_cons meets43 allM_nil))) (allI_cons i7_40 noI) fun xs r h=>?_
 unfold m7 at h
 split at h
 ·rename_i g0 a0
  obtain ⟨hg,h⟩:=bif_pair h
  have q0:=hg
  obtain rfl:=cE q0
  obtain ⟨h1,rfl⟩:=pair_inj h
  exact r7 a0 h1
 ·cases h
noncomputable def c99:Cfg:=cfg Tryz.prog [(99,999,[2])] [] [] [] []
def q99 (a0:List AV):Bool:=decide (a0.length*32≤140737488355328) && decide (a0.length≤140737488355328)
def v99_0 (a0:List AV):List AV:=a0
theorem e99 (a0:List AV):funA c99 0 99 [AV.sl [.int .i64,.int .i64,.int .i64,.int .i64] a0]=(bif decide (0<a0.length) then (bif (decide ((([]:List AV).length+a0.length)*32≤140737488355328) && decide ((([]:List AV).length+a0.length)≤140737488355328)) then some (AV.fl [.int .i64,.int .i64,.int .i64,.int .i64] (([]:List AV)++a0))
 else none)
 else none):=by kernel_rfl
theorem e99n (b:Bool):funA c99 0 99 [AV.sle b [.int .i64,.int .i64,.int .i64,.int .i64]]=some (AV.fl [.int .i64,.int .i64,.int .i64,.int .i64] []):=by cases b <;> kernel_rfl
def m99:TModel
 | [.sl g0 a0]=>bif ctsEq g0 [.int .i64,.int .i64,.int .i64,.int .i64] then some (q99 a0,AV.fl [.int .i64,.int .i64,.int .i64,.int .i64] (v99_0 a0)) else none
 | _=>none
theorem k99:Known Tryz.prog 99:=⟨Tryz.f99,Tryz.func99,by kernel_rfl,by kernel_rfl⟩
theorem meets99:Meets Tryz.prog 99 m99:=by
 refine meet_nil (f:=Tryz.f99) (l:=[]) (hs:=[(99,999,[2])]) (ts:=[]) (ws:=[]) (is:=[]) (ls:=[]) (lvl:=0) (tys:=[.int .i64,.int .i64,.int .i64,.int .i64]) mixed k99 Tryz.func99 (by kernel_rfl) noLoop allT_nil allM_nil noI (fun xs r h=>?_) (fun b r h=>?_) (fun ys r h0 h=>?_)
 ·unfold m99 at h
  split at h
  ·rename_i g0 a0
   obtain ⟨hg,h⟩:=bif_pair h
   obtain rfl:=ctsEq_eq _ _ hg
   exact ⟨a0,rfl⟩
  ·cases h
 ·obtain ⟨hg,h⟩:=bif_pair (g:=ctsEq [.int .i64,.int .i64,.int .i64,.int .i64] [.int .i64,.int .i64,.int .i64,.int .i64]) h
  obtain ⟨_,rfl⟩:=pair_inj h
  exact e99n b
 ·obtain ⟨hg,h⟩:=bif_pair (g:=ctsEq [.int .i64,.int .i64,.int .i64,.int .i64] [.int .i64,.int .i64,.int .i64,.int .i64]) h
  obtain ⟨hq,rfl⟩:=pair_inj h
  refine (e99 ys).trans ?_
  unfold q99 at hq
  have e:([]:List AV).length+ys.length=ys.length:=by simp
  rw [e,hq,decide_eq_true h0]
  rfl
noncomputable def c108:Cfg:=cfg Tryz.prog [(108,999,[2])] [] [] [] []
def q108 (a0:List AV):Bool:=decide (a0.length*8≤140737488355328) && decide (a0.length≤140737488355328)
def v108_0 (a0:List AV):List AV:=a0
theorem e108 (a0:List AV):funA c108 0 108 [AV.sl [.int .i64] a0]=(bif decide (0<a0.length) then (bif (decide ((([]:List AV).length+a0.length)*8≤140737488355328) && decide ((([]:List AV).length+a0.length)≤140737488355328)) then some (AV.fl [.int .i64] (([]:List AV)++a0))
 else none)
 else none):=by kernel_rfl
theorem e108n (b:Bool):funA c108 0 108 [AV.sle b [.int .i64]]=some (AV.fl [.int .i64] []):=by cases b <;> kernel_rfl
def m108:TModel
 | [.sl g0 a0]=>bif ctsEq g0 [.int .i64] then some (q108 a0,AV.fl [.int .i64] (v108_0 a0)) else none
 | _=>none
theorem k108:Known Tryz.prog 108:=⟨Tryz.f108,Tryz.func108,by kernel_rfl,by kernel_rfl⟩
theorem meets108:Meets Tryz.prog 108 m108:=by
 refine meet_nil (f:=Tryz.f108) (l:=[]) (hs:=[(108,999,[2])]) (ts:=[]) (ws:=[]) (is:=[]) (ls:=[]) (lvl:=0) (tys:=[.int .i64]) mixed k108 Tryz.func108 (by kernel_rfl) noLoop allT_nil allM_nil noI (fun xs r h=>?_) (fun b r h=>?_) (fun ys r h0 h=>?_)
 ·unfold m108 at h
  split at h
  ·rename_i g0 a0
   obtain ⟨hg,h⟩:=bif_pair h
   obtain rfl:=ctsEq_eq _ _ hg
   exact ⟨a0,rfl⟩
  ·cases h
 ·obtain ⟨hg,h⟩:=bif_pair (g:=ctsEq [.int .i64] [.int .i64]) h
  obtain ⟨_,rfl⟩:=pair_inj h
  exact e108n b
 ·obtain ⟨hg,h⟩:=bif_pair (g:=ctsEq [.int .i64] [.int .i64]) h
  obtain ⟨hq,rfl⟩:=pair_inj h
  refine (e108 ys).trans ?_
  unfold q108 at hq
  have e:([]:List AV).length+ys.length=ys.length:=by simp
  rw [e,hq,decide_eq_true h0]
  rfl
noncomputable def c109:Cfg:=cfg Tryz.prog [(109,999,[2])] [] [] [] []
def q109 (a0:List AV):Bool:=decide (a0.length*16≤140737488355328) && decide (a0.length≤140737488355328)
def v109_0 (a0:List AV):List AV:=a0
theorem e109 (a0:List AV):funA c109 0 109 [AV.sl [.int .i64,.int .i64] a0]=(bif decide (0<a0.length) then (bif (decide ((([]:List AV).length+a0.length)*16≤140737488355328) && decide ((([]:List AV).length+a0.length)≤140737488355328)) then some (AV.fl [.int .i64,.int .i64] (([]:List AV)++a0))
 else none)
 else none):=by kernel_rfl
theorem e109n (b:Bool):funA c109 0 109 [AV.sle b [.int .i64,.int .i64]]=some (AV.fl [.int .i64,.int .i64] []):=by cases b <;> kernel_rfl
def m109:TModel
 | [.sl g0 a0]=>bif ctsEq g0 [.int .i64,.int .i64] then some (q109 a0,AV.fl [.int .i64,.int .i64] (v109_0 a0)) else none
 | _=>none
theorem k109:Known Tryz.prog 109:=⟨Tryz.f109,Tryz.func109,by kernel_rfl,by kernel_rfl⟩
theorem meets109:Meets Tryz.prog 109 m109:=by
 refine meet_nil (f:=Tryz.f109) (l:=[]) (hs:=[(109,999,[2])]) (ts:=[]) (ws:=[]) (is:=[]) (ls:=[]) (lvl:=0) (tys:=[.int .i64,.int .i64]) mixed k109 Tryz.func109 (by kernel_rfl) noLoop allT_nil allM_nil noI (fun xs r h=>?_) (fun b r h=>?_) (fun ys r h0 h=>?_)
 ·unfold m109 at h
  split at h
  ·rename_i g0 a0
   obtain ⟨hg,h⟩:=bif_pair h
   obtain rfl:=ctsEq_eq _ _ hg
   exact ⟨a0,rfl⟩
  ·cases h
 ·obtain ⟨hg,h⟩:=bif_pair (g:=ctsEq [.int .i64,.int .i64] [.int .i64,.int .i64]) h
  obtain ⟨_,rfl⟩:=pair_inj h
  exact e109n b
 ·obtain ⟨hg,h⟩:=bif_pair (g:=ctsEq [.int .i64,.int .i64] [.int .i64,.int .i64]) h
  obtain ⟨hq,rfl⟩:=pair_inj h
  refine (e109 ys).trans ?_
  unfold q109 at hq
  have e:([]:List AV).length+ys.length=ys.length:=by simp
  rw [e,hq,decide_eq_true h0]
  rfl
noncomputable def c64:Cfg:=cfg Tryz.prog [(64,999,[2])] [(108,m108),(109,m109)] [] [] []
def q64 (xa xb xc:List AV):Bool:=(q108 xa && (q108 xb && q109 xc))
def v64_0 (xa xb xc:List AV):List AV:=(v108_0 xa)
def v64_1 (xa xb xc:List AV):List AV:=(v108_0 xb)
def v64_2 (xa xb xc:List AV):List AV:=(v109_0 xc)
theorem e64 (xa xb xc:List AV):funA c64 0 64 [AV.agg [AV.sl [.int .i64] xa,AV.sl [.int .i64] xb,AV.sl [.int .i64,.int .i64] xc]]=(bif q108 xa then (bif q108 xb then (bif q109 xc then some (AV.agg [AV.fl [.int .i64] (v108_0 xa),AV.fl [.int .i64] (v108_0 xb),AV.fl [.int .i64,.int .i64] (v109_0 xc)])
 else none)
 else none)
 else none):=by kernel_rfl
def m64:TModel
 | [.agg [.sl g0 xa,.sl g1 xb,.sl g2 xc]]=>bif ctsEq g0 ([.int .i64]) && ctsEq g1 ([.int .i64]) && ctsEq g2 ([.int .i64,.int .i64]) then some (q64 xa xb xc,AV.agg [AV.fl [.int .i64] (v64_0 xa xb xc),AV.fl [.int .i64] (v64_1 xa xb xc),AV.fl [.int .i64,.int .i64] (v64_2 xa xb xc)]) else none
 | _=>none
theorem k64:Known Tryz.prog 64:=⟨Tryz.f64,Tryz.func64,by kernel_rfl,by kernel_rfl⟩
theorem meets64:Meets Tryz.prog 64 m64:=by
 refine mt (lvl:=0) (cf:=c64) rfl mixed k64 Tryz.func64 (by kernel_rfl) noLoop (allT_cons meets108 (allT_cons meets109 allT_nil)) allM_nil noI fun xs r h=>?_
 unfold m64 at h
 split at h
 ·rename_i g0 xa g1 xb g2 xc
  obtain ⟨hg,h⟩:=bif_pair h
  simp only [Bool.and_eq_true] at hg
  obtain ⟨⟨q0,q1⟩,q2⟩:=hg
  obtain rfl:=cE q0
  obtain rfl:=cE q1
  obtain rfl:=cE q2
  obtain ⟨h1,rfl⟩:=pair_inj h
  exact (e64 xa xb xc).trans ((brL (brL (brL1 (fun _=>rfl)))) h1)
 ·cases h
noncomputable def c44:Cfg:=cfg Tryz.prog [(44,999,[2])] [(64,m64),(99,m99)] [] [] []
def q44 (xa:List AV) (xb:Int) (xc xd xe:List AV):Bool:=(q99 xa && q64 xc xd xe)
def v44_0 (xa:List AV) (xb:Int) (xc xd xe:List AV):List AV:=(v99_0 xa)
def v44_1 (xa:List AV) (xb:Int) (xc xd xe:List AV):Int:=xb
def v44_2 (xa:List AV) (xb:Int) (xc xd xe:List AV):List AV:=(v64_0 xc xd xe)
def v44_3 (xa:List AV) (xb:Int) (xc xd xe:List AV):List AV:=(v64_1 xc xd xe)
def v44_4 (xa:List AV) (xb:Int) (xc xd xe:List AV):List AV:=(v64_2 xc xd xe)
theorem e44 (xa:List AV) (xb:Int) (xc xd xe:List AV):funA c44 0 44 [AV.agg [AV.sl [.int .i64,.int .i64,.int .i64,.int .i64] xa,Ai xb,AV.sl [.int .i64] xc,AV.sl [.int .i64] xd,AV.sl [.int .i64,.int .i64] xe]]=(bif q99 xa then (bif q64 xc xd xe then some (AV.agg [AV.fl [.int .i64,.int .i64,.int .i64,.int .i64] (v99_0 xa),Ai xb,AV.fl [.int .i64] (v64_0 xc xd xe),AV.fl [.int .i64] (v64_1 xc xd xe),AV.fl [.int .i64,.int .i64] (v64_2 xc xd xe)])
 else none)
 else none):=by kernel_rfl
def m44:TModel
 | [.agg [.sl g0 xa,.int .i64 xb,.sl g1 xc,.sl g2 xd,.sl g3 xe]]=>bif ctsEq g0 ([.int .i64,.int .i64,.int .i64,.int .i64]) && ctsEq g1 ([.int .i64]) && ctsEq g2 ([.int .i64]) && ctsEq g3 ([.int .i64,.int .i64]) then some (q44 xa xb xc xd xe,AV.agg [AV.fl [.int .i64,.int .i64,.int .i64,.int .i64] (v44_0 xa xb xc xd xe),AV.int .i64 (v44_1 xa xb xc xd xe),AV.fl [.int .i64] (v44_2 xa xb xc xd xe),AV.fl [.int .i64] (v44_3 xa xb xc xd xe),AV.fl [.int .i64,.int .i64] (v44_4 xa xb xc xd xe)]) else none
 | _=>none
theorem k44:Known Tryz.prog 44:=⟨Tryz.f44,Tryz.func44,by kernel_rfl,by kernel_rfl⟩
theorem meets44:Meets Tryz.prog 44 m44:=by
 refine mt (lvl:=0) (cf:=c44) rfl mixed k44 Tryz.func44 (by kernel_rfl) noLoop (allT_cons meets64 (allT_cons meets99 allT_nil)) allM_nil noI fun xs r h=>?_
 unfold m44 at h
 split at h
 ·rename_i g0 xa xb g1 xc g2 xd g3 xe
  obtain ⟨hg,h⟩:=bif_pair h
  simp only [Bool.and_eq_true] at hg
  obtain ⟨⟨⟨q0,q1⟩,q2⟩,q3⟩:=hg
  obtain rfl:=cE q0
  obtain rfl:=cE q1
  obtain rfl:=cE q2
  obtain rfl:=cE q3
  obtain ⟨h1,rfl⟩:=pair_inj h
  exact (e44 xa xb xc xd xe).trans ((brL (brL1 (fun _=>rfl))) h1)
 ·cases h
noncomputable def c141:Cfg:=cfg Tryz.prog [(141,999,[4])] [] [] [] []
def v141_0 (a0:Int) (a1 a2:AV):Bool:=(bif decide (a0<fI a1 0) then true else decide (a0 > fI a2 0))
theorem e141 (a0:Int) (a1 a2:AV):funA c141 0 141 [Ai a0,AV.rptr [.int .i64] a1 0,AV.rptr [.int .i64] a2 0]=(bif decide (a0<fI a1 0) then some (AV.bool true)
 else some (AV.bool (decide (a0 > fI a2 0)))):=by kernel_rfl
def m141:TModel
 | [.int .i64 a0,.rptr g0 a1 g1,.rptr g2 a2 g3]=>bif ctsEq g0 ([.int .i64]) && Nat.beq g1 0 && ctsEq g2 ([.int .i64]) && Nat.beq g3 0 then some (true,AV.bool (v141_0 a0 a1 a2)) else none
 | _=>none
theorem k141:Known Tryz.prog 141:=⟨Tryz.f141,Tryz.func141,by kernel_rfl,by kernel_rfl⟩
theorem meets141:Meets Tryz.prog 141 m141:=by
 refine mt (lvl:=0) (cf:=c141) rfl mixed k141 Tryz.func141 (by kernel_rfl) noLoop allT_nil allM_nil noI fun xs r h=>?_
 unfold m141 at h
 split at h
 ·rename_i a0 g0 a1 g1 g2 a2 g3
  obtain ⟨hg,h⟩:=bif_pair h
  simp only [Bool.and_eq_true] at hg
  obtain ⟨⟨⟨q0,q1⟩,q2⟩,q3⟩:=hg
  obtain rfl:=cE q0
  obtain rfl:=bE q1
  obtain rfl:=cE q2
  obtain rfl:=bE q3
  obtain ⟨h1,rfl⟩:=pair_inj h
  exact (e141 a0 a1 a2).trans (of_tt (brT (fun b=>some (AV.bool (bif b then true else decide (a0 > fI a2 0)))) (fun _=>rfl) (fun _=>rfl)))
 ·cases h
def G162_0 {β:Type} (t0:List AV) (t1_0:AV) (t1_1:AV) (t7:Int) (t8:Int) (N:(Int)→β) (K:(Unit ⊕ Int)→β) (d:β):β:=(bif decide (t8<t7) then (bif (decide (0≤t8) && decide (t8<(t0.length:Int))) then (bif (v141_0 (fI (t0.getD t8.toNat .undef) 0) t1_0 t1_1) then K (.inr t8)
 else N (IntKind.i64.wrap (t8+1)))
 else d)
 else K (.inl ()))
def F162_0 (t0:List AV) (t1_0 t1_1:AV) (t7 t8:Int):Out (Int) (Unit ⊕ Int):=G162_0 t0 t1_0 t1_1 t7 t8 .next .stop .fail
def R162_0 (t0:List AV) (t1_0 t1_1:AV) (t7:Int):(Int)→Out (Int) (Unit ⊕ Int):=fun s:Int=>F162_0 t0 t1_0 t1_1 t7 s
def E162_0 (t0:List AV) (t1_0 t1_1:AV) (t7:Int):(Int)→St:=fun s:Int=>⟨[(0,AV.sl [.int .i64] t0),(1,AV.fn 141 [AV.rptr [.int .i64] t1_0 0,AV.rptr [.int .i64] t1_1 0]),(7,Ai t7),(8,Ai s)],[]⟩
def K162_0 (t0:List AV) (t1_0 t1_1:AV) (t7:Int) (k:Kont):(Unit ⊕ Int)→Option AV:=sumE (fun _:Unit=>k (.exit 0) ⟨[],[]⟩) (fun p:Int=>k .ret ⟨[(4,Ai p)],[]⟩)
def l162_0:LModel:=fun _ _ st k=>match st with
 | ⟨[(0,.sl g0 t0),(1,.fn g1 [.rptr g2 t1_0 g3,.rptr g4 t1_1 g5]),(7,.int .i64 t7),(8,.int .i64 t8)],[]⟩=>bif ctsEq g0 ([.int .i64]) && Nat.beq g1 141 && ctsEq g2 ([.int .i64]) && Nat.beq g3 0 && ctsEq g4 ([.int .i64]) && Nat.beq g5 0 then ro (runW (R162_0 t0 t1_0 t1_1 t7) ((t7 - t8:Int).toNat+1) t8) none (K162_0 t0 t1_0 t1_1 t7 k) else none
 | _=>none
noncomputable def c162:Cfg:=cfg Tryz.prog [(162,0,[0,1,7,8]),(162,999,[4]),(162,1000,[]),(162,1001,[0,1,7,8])] [(141,m141)] [] [] [(162,0,l162_0)]
theorem s162_0 (t0:List AV) (t1_0 t1_1:AV) (t7:Int) (ce:CallE) (k:Kont) (s:Int) (next:St→Option AV):stepA (codeA c162 ce [] 162 0 (sub [1,0,1,0,0] (body Tryz.f162))) (normA [] [0,1,7,8]) next ((E162_0 t0 t1_0 t1_1 t7) s) k=G162_0 t0 t1_0 t1_1 t7 s (fun s=>next ((E162_0 t0 t1_0 t1_1 t7) s)) (K162_0 t0 t1_0 t1_1 t7 k) none:=by kernel_rfl
theorem st162_0 (t0:List AV) (t1_0 t1_1:AV) (t7:Int) (ce:CallE) (k:Kont) (s:Int) (next:St→Option AV):stepA (codeA c162 ce [] 162 0 (sub [1,0,1,0,0] (body Tryz.f162))) (normA [] [0,1,7,8]) next ((E162_0 t0 t1_0 t1_1 t7) s) k=(R162_0 t0 t1_0 t1_1 t7 s).el none (fun s=>next ((E162_0 t0 t1_0 t1_1 t7) s)) (K162_0 t0 t1_0 t1_1 t7 k):=(s162_0 t0 t1_0 t1_1 t7 ce k s next).trans (by unfold R162_0;unfold F162_0 G162_0;simp only [el_cond,el_ro,el_sum,el_fail,el_next,el_stop] <;> rfl)
theorem ok162_0 {ce:CallE}:LoopOK c162 ce [] 162 0 (sub [1,0,1,0,0] (body Tryz.f162)):=by
 intro m hm st k r h
 obtain rfl:l162_0=m:=Option.some.inj hm
 unfold l162_0 at h
 split at h
 ·rename_i g0 t0 g1 g2 t1_0 g3 g4 t1_1 g5 t7 t8
  obtain ⟨hg,h⟩:=bif_some h
  simp only [Bool.and_eq_true] at hg
  obtain ⟨⟨⟨⟨⟨q0,q1⟩,q2⟩,q3⟩,q4⟩,q5⟩:=hg
  obtain rfl:=cE q0
  obtain rfl:=bE q1
  obtain rfl:=cE q2
  obtain rfl:=bE q3
  obtain rfl:=cE q4
  obtain rfl:=bE q5
  refine ⟨((t7 - t8:Int).toNat+1),?_⟩
  rw [← h]
  exact loop_run (E162_0 t0 t1_0 t1_1 t7) (K162_0 t0 t1_0 t1_1 t7 k) (st162_0 t0 t1_0 t1_1 t7 ce k) _ t8
 ·cases h
def q162 (a0:List AV) (ya yb:AV):Bool:=(ro (runW (R162_0 a0 ya yb (a0.length:Int)) (((a0.length:Int) - 0:Int).toNat+1) 0) false (sumE (fun _=>true) (fun p41=>true)))
def v162_0 (a0:List AV) (ya yb:AV):Int:=(ro (runW (R162_0 a0 ya yb (a0.length:Int)) (((a0.length:Int) - 0:Int).toNat+1) 0) 0 (sumE (fun _=>(-1)) (fun p41=>p41)))
theorem e162 (a0:List AV) (ya yb:AV):funA c162 0 162 [AV.sl [.int .i64] a0,AV.fn 141 [AV.rptr [.int .i64] ya 0,AV.rptr [.int .i64] yb 0]]=(ro (runW (R162_0 a0 ya yb (a0.length:Int)) (((a0.length:Int) - 0:Int).toNat+1) 0) none (sumE (fun _=>some (Ai (-1))) (fun p41=>some (Ai p41)))):=by kernel_rfl
def m162:TModel
 | [.sl g0 a0,.fn g1 [.rptr g2 ya g3,.rptr g4 yb g5]]=>bif ctsEq g0 ([.int .i64]) && Nat.beq g1 141 && ctsEq g2 ([.int .i64]) && Nat.beq g3 0 && ctsEq g4 ([.int .i64]) && Nat.beq g5 0 then some (q162 a0 ya yb,AV.int .i64 (v162_0 a0 ya yb)) else none
 | _=>none
theorem k162:Known Tryz.prog 162:=⟨Tryz.f162,Tryz.func162,by kernel_rfl,by kernel_rfl⟩
theorem meets162:Meets Tryz.prog 162 m162:=by
 refine mt (lvl:=0) (cf:=c162) rfl mixed k162 Tryz.func162 (by kernel_rfl) (loops_cons ok162_0 noLoop) (allT_cons meets141 allT_nil) allM_nil noI fun xs r h=>?_
 unfold m162 at h
 split at h
 ·rename_i g0 a0 g1 g2 ya g3 g4 yb g5
  obtain ⟨hg,h⟩:=bif_pair h
  simp only [Bool.and_eq_true] at hg
  obtain ⟨⟨⟨⟨⟨q0,q1⟩,q2⟩,q3⟩,q4⟩,q5⟩:=hg
  obtain rfl:=cE q0
  obtain rfl:=bE q1
  obtain rfl:=cE q2
  obtain rfl:=bE q3
  obtain rfl:=cE q4
  obtain rfl:=bE q5
  obtain ⟨h1,rfl⟩:=pair_inj h
  exact (e162 a0 ya yb).trans ((brO (fun o:Option (Unit ⊕ Int)=>some (Ai (ro o 0 (sumE (fun _=>(-1)) (fun p41=>p41))))) (brS (fun o:Unit ⊕ Int=>some (Ai ((sumE (fun _=>(-1)) (fun p41=>p41)) o))) (fun _=>(fun _=>rfl)) (fun p41=>(fun _=>rfl)))) h1)
 ·cases h
noncomputable def c140:Cfg:=cfg Tryz.prog [(140,999,[4])] [(162,m162)] [] [] []
def q140 (a0:List AV) (ya yb:AV):Bool:=q162 a0 ya yb
def v140_0 (a0:List AV) (ya yb:AV):Bool:=decide ((v162_0 a0 ya yb) ≥ 0)
theorem e140 (a0:List AV) (ya yb:AV):funA c140 0 140 [AV.sl [.int .i64] a0,AV.fn 141 [AV.rptr [.int .i64] ya 0,AV.rptr [.int .i64] yb 0]]=(bif q162 a0 ya yb then some (AV.bool (decide ((v162_0 a0 ya yb) ≥ 0)))
 else none):=by kernel_rfl
def m140:TModel
 | [.sl g0 a0,.fn g1 [.rptr g2 ya g3,.rptr g4 yb g5]]=>bif ctsEq g0 ([.int .i64]) && Nat.beq g1 141 && ctsEq g2 ([.int .i64]) && Nat.beq g3 0 && ctsEq g4 ([.int .i64]) && Nat.beq g5 0 then some (q140 a0 ya yb,AV.bool (v140_0 a0 ya yb)) else none
 | _=>none
theorem k140:Known Tryz.prog 140:=⟨Tryz.f140,Tryz.func140,by kernel_rfl,by kernel_rfl⟩
theorem meets140:Meets Tryz.prog 140 m140:=by
 refine mt (lvl:=0) (cf:=c140) rfl mixed k140 Tryz.func140 (by kernel_rfl) noLoop (allT_cons meets162 allT_nil) allM_nil noI fun xs r h=>?_
 unfold m140 at h
 split at h
 ·rename_i g0 a0 g1 g2 ya g3 g4 yb g5
  obtain ⟨hg,h⟩:=bif_pair h
  simp only [Bool.and_eq_true] at hg
  obtain ⟨⟨⟨⟨⟨q0,q1⟩,q2⟩,q3⟩,q4⟩,q5⟩:=hg
  obtain rfl:=cE q0
  obtain rfl:=bE q1
  obtain rfl:=cE q2
  obtain rfl:=bE q3
  obtain rfl:=cE q4
  obtain rfl:=bE q5
  obtain ⟨h1,rfl⟩:=pair_inj h
  exact (e140 a0 ya yb).trans ((brL1 (fun _=>rfl)) h1)
 ·cases h
noncomputable def c106:Cfg:=cfg Tryz.prog [(106,999,[6])] [(140,m140)] [] [] []
def q106 (a0:List AV) (a1 a2:Int):Bool:=q140 a0 (AV.int .i64 a1) (AV.int .i64 a2)
def v106_0 (a0:List AV) (a1 a2:Int):Bool := !(v140_0 a0 (AV.int .i64 a1) (AV.int .i64 a2))
theorem e106 (a0:List AV) (a1 a2:Int):funA c106 0 106 [AV.sl [.int .i64] a0,Ai a1,Ai a2]=(bif q140 a0 (Ai a1) (Ai a2) then some (AV.bool (!(v140_0 a0 (Ai a1) (Ai a2))))
 else none):=by kernel_rfl
def m106:TModel
 | [.sl g0 a0,.int .i64 a1,.int .i64 a2]=>bif ctsEq g0 ([.int .i64]) then some (q106 a0 a1 a2,AV.bool (v106_0 a0 a1 a2)) else none
 | _=>none
theorem k106:Known Tryz.prog 106:=⟨Tryz.f106,Tryz.func106,by kernel_rfl,by kernel_rfl⟩
theorem meets106:Meets Tryz.prog 106 m106:=by
 refine mt (lvl:=0) (cf:=c106) rfl mixed k106 Tryz.func106 (by kernel_rfl) noLoop (allT_cons meets140 allT_nil) allM_nil noI fun xs r h=>?_
 unfold m106 at h
 split at h
 ·rename_i g0 a0 a1 a2
  obtain ⟨hg,h⟩:=bif_pair h
  have q0:=hg
  obtain rfl:=cE q0
  obtain ⟨h1,rfl⟩:=pair_inj h
  exact (e106 a0 a1 a2).trans ((brL1 (fun _=>rfl)) h1)
 ·cases h
noncomputable def c79:Cfg:=cfg Tryz.prog [(79,999,[2])] [(106,m106)] [] [] []
def q79 (a0:List AV):Bool:=(bif decide ((a0.length:Int)≤64) then q106 a0 (-999) 999 else true)
def v79_0 (a0:List AV):Bool:=(bif decide ((a0.length:Int)≤64) then (v106_0 a0 (-999) 999) else false)
theorem e79 (a0:List AV):funA c79 0 79 [AV.sl [.int .i64] a0]=(bif decide ((a0.length:Int)≤64) then (bif q106 a0 (-999) 999 then some (AV.bool (v106_0 a0 (-999) 999))
 else none)
 else some (AV.bool false)):=by kernel_rfl
def m79:TModel
 | [.sl g0 a0]=>bif ctsEq g0 ([.int .i64]) then some (q79 a0,AV.bool (v79_0 a0)) else none
 | _=>none
theorem k79:Known Tryz.prog 79:=⟨Tryz.f79,Tryz.func79,by kernel_rfl,by kernel_rfl⟩
theorem meets79:Meets Tryz.prog 79 m79:=by
 refine mt (lvl:=0) (cf:=c79) rfl mixed k79 Tryz.func79 (by kernel_rfl) noLoop (allT_cons meets106 allT_nil) allM_nil noI fun xs r h=>?_
 unfold m79 at h
 split at h
 ·rename_i g0 a0
  obtain ⟨hg,h⟩:=bif_pair h
  have q0:=hg
  obtain rfl:=cE q0
  obtain ⟨h1,rfl⟩:=pair_inj h
  exact (e79 a0).trans ((br (fun b=>some (AV.bool (bif b then (v106_0 a0 (-999) 999) else false))) (brL1 (fun _=>rfl)) (fun _=>rfl)) h1)
 ·cases h
def G83_0 {β:Type} (t0:List AV) (t1:Int) (t7:Int) (t8:Int) (N:(Int)→β) (K:(Unit ⊕ Int)→β) (d:β):β:=(bif decide (t8<t7) then (bif (decide (0≤t8) && decide (t8<(t0.length:Int))) then (bif decide (t1=fI (t0.getD t8.toNat .undef) 0) then K (.inr t8)
 else N (IntKind.i64.wrap (t8+1)))
 else d)
 else K (.inl ()))
def F83_0 (t0:List AV) (t1 t7 t8:Int):Out (Int) (Unit ⊕ Int):=G83_0 t0 t1 t7 t8 .next .stop .fail
def R83_0 (t0:List AV) (t1 t7:Int):(Int)→Out (Int) (Unit ⊕ Int):=fun s:Int=>F83_0 t0 t1 t7 s
def E83_0 (t0:List AV) (t1 t7:Int):(Int)→St:=fun s:Int=>⟨[(0,AV.sl [.int .i64] t0),(1,Ai t1),(7,Ai t7),(8,Ai s)],[]⟩
def K83_0 (t0:List AV) (t1 t7:Int) (k:Kont):(Unit ⊕ Int)→Option AV:=sumE (fun _:Unit=>k (.exit 0) ⟨[],[]⟩) (fun p:Int=>k .ret ⟨[(4,Ai p)],[]⟩)
def l83_0:LModel:=fun _ _ st k=>match st with
 | ⟨[(0,.sl g0 t0),(1,.int .i64 t1),(7,.int .i64 t7),(8,.int .i64 t8)],[]⟩=>bif ctsEq g0 ([.int .i64]) then ro (runW (R83_0 t0 t1 t7) ((t7 - t8:Int).toNat+1) t8) none (K83_0 t0 t1 t7 k) else none
 | _=>none
noncomputable def c83:Cfg:=cfg Tryz.prog [(83,0,[0,1,7,8]),(83,999,[4]),(83,1000,[]),(83,1001,[0,1,7,8])] [] [] [] [(83,0,l83_0)]
theorem s83_0 (t0:List AV) (t1 t7:Int) (ce:CallE) (k:Kont) (s:Int) (next:St→Option AV):stepA (codeA c83 ce [] 83 0 (sub [1,0,1,0,0] (body Tryz.f83))) (normA [] [0,1,7,8]) next ((E83_0 t0 t1 t7) s) k=G83_0 t0 t1 t7 s (fun s=>next ((E83_0 t0 t1 t7) s)) (K83_0 t0 t1 t7 k) none:=by kernel_rfl
theorem st83_0 (t0:List AV) (t1 t7:Int) (ce:CallE) (k:Kont) (s:Int) (next:St→Option AV):stepA (codeA c83 ce [] 83 0 (sub [1,0,1,0,0] (body Tryz.f83))) (normA [] [0,1,7,8]) next ((E83_0 t0 t1 t7) s) k=(R83_0 t0 t1 t7 s).el none (fun s=>next ((E83_0 t0 t1 t7) s)) (K83_0 t0 t1 t7 k):=(s83_0 t0 t1 t7 ce k s next).trans (by unfold R83_0;unfold F83_0 G83_0;simp only [el_cond,el_ro,el_sum,el_fail,el_next,el_stop] <;> rfl)
theorem ok83_0 {ce:CallE}:LoopOK c83 ce [] 83 0 (sub [1,0,1,0,0] (body Tryz.f83)):=by
 intro m hm st k r h
 obtain rfl:l83_0=m:=Option.some.inj hm
 unfold l83_0 at h
 split at h
 ·rename_i g0 t0 t1 t7 t8
  obtain ⟨hg,h⟩:=bif_some h
  have q0:=hg
  obtain rfl:=cE q0
  refine ⟨((t7 - t8:Int).toNat+1),?_⟩
  rw [← h]
  exact loop_run (E83_0 t0 t1 t7) (K83_0 t0 t1 t7 k) (st83_0 t0 t1 t7 ce k) _ t8
 ·cases h
def q83 (a0:List AV) (a1:Int):Bool:=(ro (runW (R83_0 a0 a1 (a0.length:Int)) (((a0.length:Int) - 0:Int).toNat+1) 0) false (sumE (fun _=>true) (fun p43=>true)))
def v83_0 (a0:List AV) (a1:Int):Int:=(ro (runW (R83_0 a0 a1 (a0.length:Int)) (((a0.length:Int) - 0:Int).toNat+1) 0) 0 (sumE (fun _=>(-1)) (fun p43=>p43)))
theorem e83 (a0:List AV) (a1:Int):funA c83 0 83 [AV.sl [.int .i64] a0,Ai a1]=(ro (runW (R83_0 a0 a1 (a0.length:Int)) (((a0.length:Int) - 0:Int).toNat+1) 0) none (sumE (fun _=>some (Ai (-1))) (fun p43=>some (Ai p43)))):=by kernel_rfl
def m83:TModel
 | [.sl g0 a0,.int .i64 a1]=>bif ctsEq g0 ([.int .i64]) then some (q83 a0 a1,AV.int .i64 (v83_0 a0 a1)) else none
 | _=>none
theorem k83:Known Tryz.prog 83:=⟨Tryz.f83,Tryz.func83,by kernel_rfl,by kernel_rfl⟩
theorem meets83:Meets Tryz.prog 83 m83:=by
 refine mt (lvl:=0) (cf:=c83) rfl mixed k83 Tryz.func83 (by kernel_rfl) (loops_cons ok83_0 noLoop) allT_nil allM_nil noI fun xs r h=>?_
 unfold m83 at h
 split at h
 ·rename_i g0 a0 a1
  obtain ⟨hg,h⟩:=bif_pair h
  have q0:=hg
  obtain rfl:=cE q0
  obtain ⟨h1,rfl⟩:=pair_inj h
  exact (e83 a0 a1).trans ((brO (fun o:Option (Unit ⊕ Int)=>some (Ai (ro o 0 (sumE (fun _=>(-1)) (fun p43=>p43))))) (brS (fun o:Unit ⊕ Int=>some (Ai ((sumE (fun _=>(-1)) (fun p43=>p43)) o))) (fun _=>(fun _=>rfl)) (fun p43=>(fun _=>rfl)))) h1)
 ·cases h
noncomputable def c48:Cfg:=cfg Tryz.prog [(48,999,[4])] [(83,m83)] [] [] []
def q48 (a0:List AV) (a1:Int):Bool:=q83 a0 a1
def v48_0 (a0:List AV) (a1:Int):Bool:=decide ((v83_0 a0 a1) ≥ 0)
theorem e48 (a0:List AV) (a1:Int):funA c48 0 48 [AV.sl [.int .i64] a0,Ai a1]=(bif q83 a0 a1 then some (AV.bool (decide ((v83_0 a0 a1) ≥ 0)))
 else none):=by kernel_rfl
def m48:TModel
 | [.sl g0 a0,.int .i64 a1]=>bif ctsEq g0 ([.int .i64]) then some (q48 a0 a1,AV.bool (v48_0 a0 a1)) else none
 | _=>none
theorem k48:Known Tryz.prog 48:=⟨Tryz.f48,Tryz.func48,by kernel_rfl,by kernel_rfl⟩
theorem meets48:Meets Tryz.prog 48 m48:=by
 refine mt (lvl:=0) (cf:=c48) rfl mixed k48 Tryz.func48 (by kernel_rfl) noLoop (allT_cons meets83 allT_nil) allM_nil noI fun xs r h=>?_
 unfold m48 at h
 split at h
 ·rename_i g0 a0 a1
  obtain ⟨hg,h⟩:=bif_pair h
  have q0:=hg
  obtain rfl:=cE q0
  obtain ⟨h1,rfl⟩:=pair_inj h
  exact (e48 a0 a1).trans ((brL1 (fun _=>rfl)) h1)
 ·cases h
noncomputable def c107:Cfg:=cfg Tryz.prog [(107,999,[2])] [] [] [] []
def v107_0 (a0:Int):Bool:=(bif decide (a0 ≥ (-1000)) then decide (a0≤1000) else false)
theorem e107 (a0:Int):funA c107 0 107 [Ai a0]=(bif decide (a0 ≥ (-1000)) then some (AV.bool (decide (a0≤1000)))
 else some (AV.bool false)):=by kernel_rfl
def m107:TModel
 | [.int .i64 a0]=>some (true,AV.bool (v107_0 a0))
 | _=>none
theorem k107:Known Tryz.prog 107:=⟨Tryz.f107,Tryz.func107,by kernel_rfl,by kernel_rfl⟩
theorem meets107:Meets Tryz.prog 107 m107:=by
 refine mt (lvl:=0) (cf:=c107) rfl mixed k107 Tryz.func107 (by kernel_rfl) noLoop allT_nil allM_nil noI fun xs r h=>?_
 unfold m107 at h
 split at h
 ·rename_i a0
  obtain ⟨h1,rfl⟩:=pair_inj h
  exact (e107 a0).trans (of_tt (brT (fun b=>some (AV.bool (bif b then decide (a0≤1000) else false))) (fun _=>rfl) (fun _=>rfl)))
 ·cases h
def G61_4 {β:Type} (t50:List AV) (t51:Int) (t52:Int) (t103:List AV) (t104:Int) (h0_0:List AV) (h0_1:List AV) (h0_2:List AV) (h1_0:Int) (h1_1:Int) (t105:Int) (N:(Int)→β) (K:(Unit ⊕ Unit)→β) (d:β):β:=(bif decide (t105<t104) then (bif (decide (0≤t105) && decide (t105<(t103.length:Int))) then (bif !(decide (fI (t103.getD t105.toNat .undef) 0<h1_0) == decide (t105<h1_1)) then K (.inr ())
 else N (IntKind.i64.wrap (t105+1)))
 else d)
 else K (.inl ()))
def F61_4 (t50:List AV) (t51 t52:Int) (t103:List AV) (t104:Int) (h0_0 h0_1 h0_2:List AV) (h1_0 h1_1 t105:Int):Out (Int) (Unit ⊕ Unit):=G61_4 t50 t51 t52 t103 t104 h0_0 h0_1 h0_2 h1_0 h1_1 t105 .next .stop .fail
def R61_4 (t50:List AV) (t51 t52:Int) (t103:List AV) (t104:Int) (h0_0 h0_1 h0_2:List AV) (h1_0 h1_1:Int):(Int)→Out (Int) (Unit ⊕ Unit):=fun s:Int=>F61_4 t50 t51 t52 t103 t104 h0_0 h0_1 h0_2 h1_0 h1_1 s
def E61_4 (t50:List AV) (t51 t52:Int) (t103:List AV) (t104:Int) (h0_0 h0_1 h0_2:List AV) (h1_0 h1_1:Int):(Int)→St:=fun s:Int=>⟨[(1,AV.ptr [0,1] 0 0),(6,AV.ptr [0,6] 0 0),(50,AV.sl [.int .i64,.int .i64] t50),(51,Ai t51),(52,Ai t52),(103,AV.sl [.int .i64] t103),(104,Ai t104),(105,Ai s)],[([0,1],⟨true,[],[AV.agg [AV.sl [.int .i64] h0_0,AV.sl [.int .i64] h0_1,AV.sl [.int .i64,.int .i64] h0_2]]⟩),([0,6],⟨true,[],[AV.agg [Ai h1_0,Ai h1_1]]⟩)]⟩
def K61_4 (t50:List AV) (t51 t52:Int) (t103:List AV) (t104:Int) (h0_0 h0_1 h0_2:List AV) (h1_0 h1_1:Int) (k:Kont):(Unit ⊕ Unit)→Option AV:=sumE (fun _:Unit=>k (.exit 4) ⟨[(1,AV.ptr [0,1] 0 0),(50,AV.sl [.int .i64,.int .i64] t50),(51,Ai t51),(52,Ai t52)],[([0,1],⟨true,[],[AV.agg [AV.sl [.int .i64] h0_0,AV.sl [.int .i64] h0_1,AV.sl [.int .i64,.int .i64] h0_2]]⟩),([0,6],⟨true,[],[AV.agg [Ai h1_0,Ai h1_1]]⟩)]⟩) (fun _:Unit=>k .ret ⟨[(2,AV.bool false)],[([0,1],⟨true,[],[AV.agg [AV.sl [.int .i64] h0_0,AV.sl [.int .i64] h0_1,AV.sl [.int .i64,.int .i64] h0_2]]⟩),([0,6],⟨true,[],[AV.agg [Ai h1_0,Ai h1_1]]⟩)]⟩)
def l61_4:LModel:=fun _ _ st k=>match st with
 | ⟨[(1,.ptr g0 g1 g2),(6,.ptr g3 g4 g5),(50,.sl g6 t50),(51,.int .i64 t51),(52,.int .i64 t52),(103,.sl g7 t103),(104,.int .i64 t104),(105,.int .i64 t105)],[(g8,⟨true,[],[.agg [.sl g9 h0_0,.sl g10 h0_1,.sl g11 h0_2]]⟩),(g12,⟨true,[],[.agg [.int .i64 h1_0,.int .i64 h1_1]]⟩)]⟩=>bif nmEq g0 ([0,1]) && Nat.beq g1 0 && Nat.beq g2 0 && nmEq g3 ([0,6]) && Nat.beq g4 0 && Nat.beq g5 0 && ctsEq g6 ([.int .i64,.int .i64]) && ctsEq g7 ([.int .i64]) && nmEq g8 ([0,1]) && ctsEq g9 ([.int .i64]) && ctsEq g10 ([.int .i64]) && ctsEq g11 ([.int .i64,.int .i64]) && nmEq g12 ([0,6]) then ro (runW (R61_4 t50 t51 t52 t103 t104 h0_0 h0_1 h0_2 h1_0 h1_1) ((t104 - t105:Int).toNat+1) t105) none (K61_4 t50 t51 t52 t103 t104 h0_0 h0_1 h0_2 h1_0 h1_1 k) else none
 | _=>none
def G61_2 {β:Type} (t50:List AV) (t51:Int) (h0_0:List AV) (h0_1:List AV) (h0_2:List AV) (t52:Int) (N:(Int)→β) (K:(Unit ⊕ (Int × Int) ⊕ (Int × Int))→β) (d:β):β:=(bif decide (t52<t51) then (bif (decide (0≤t52) && decide (t52<(t50.length:Int))) then (bif !(v107_0 (fI (t50.getD t52.toNat .undef) 0)) then K (.inr (.inl (fI (t50.getD t52.toNat .undef) 0,fI (t50.getD t52.toNat .undef) 1)))
 else (bif decide (fI (t50.getD t52.toNat .undef) 1<0) then K (.inr (.inl (fI (t50.getD t52.toNat .undef) 0,fI (t50.getD t52.toNat .undef) 1)))
 else (bif decide (fI (t50.getD t52.toNat .undef) 1 > (h0_0.length:Int)) then K (.inr (.inl (fI (t50.getD t52.toNat .undef) 0,fI (t50.getD t52.toNat .undef) 1)))
 else (bif decide (t52 > 0) then (bif (decide (0≤IntKind.i64.wrap (t52 - 1)) && decide (IntKind.i64.wrap (t52 - 1)<(h0_2.length:Int))) then (bif decide (fI (t50.getD t52.toNat .undef) 0≤fI (h0_2.getD (IntKind.i64.wrap (t52 - 1)).toNat .undef) 0) then K (.inr (.inl (fI (t50.getD t52.toNat .undef) 0,fI (t50.getD t52.toNat .undef) 1)))
 else (bif (decide (0≤IntKind.i64.wrap (t52 - 1)) && decide (IntKind.i64.wrap (t52 - 1)<(h0_2.length:Int))) then (bif decide (fI (t50.getD t52.toNat .undef) 1<fI (h0_2.getD (IntKind.i64.wrap (t52 - 1)).toNat .undef) 1) then K (.inr (.inl (fI (t50.getD t52.toNat .undef) 0,fI (t50.getD t52.toNat .undef) 1)))
 else (ro (runW (R61_4 t50 t51 t52 h0_0 (h0_0.length:Int) h0_0 h0_1 h0_2 (fI (t50.getD t52.toNat .undef) 0) (fI (t50.getD t52.toNat .undef) 1)) (((h0_0.length:Int) - 0:Int).toNat+1) 0) d (sumE (fun _=>N (IntKind.i64.wrap (t52+1))) (fun _=>K (.inr (.inr (fI (t50.getD t52.toNat .undef) 0,fI (t50.getD t52.toNat .undef) 1)))))))
 else d))
 else d)
 else (ro (runW (R61_4 t50 t51 t52 h0_0 (h0_0.length:Int) h0_0 h0_1 h0_2 (fI (t50.getD t52.toNat .undef) 0) (fI (t50.getD t52.toNat .undef) 1)) (((h0_0.length:Int) - 0:Int).toNat+1) 0) d (sumE (fun _=>N (IntKind.i64.wrap (t52+1))) (fun _=>K (.inr (.inr (fI (t50.getD t52.toNat .undef) 0,fI (t50.getD t52.toNat .undef) 1))))))))))
 else d)
 else K (.inl ()))
def F61_2 (t50:List AV) (t51:Int) (h0_0 h0_1 h0_2:List AV) (t52:Int):Out (Int) (Unit ⊕ (Int × Int) ⊕ (Int × Int)):=G61_2 t50 t51 h0_0 h0_1 h0_2 t52 .next .stop .fail
def R61_2 (t50:List AV) (t51:Int) (h0_0 h0_1 h0_2:List AV):(Int)→Out (Int) (Unit ⊕ (Int × Int) ⊕ (Int × Int)):=fun s:Int=>F61_2 t50 t51 h0_0 h0_1 h0_2 s
def E61_2 (t50:List AV) (t51:Int) (h0_0 h0_1 h0_2:List AV):(Int)→St:=fun s:Int=>⟨[(1,AV.ptr [0,1] 0 0),(50,AV.sl [.int .i64,.int .i64] t50),(51,Ai t51),(52,Ai s)],[([0,1],⟨true,[],[AV.agg [AV.sl [.int .i64] h0_0,AV.sl [.int .i64] h0_1,AV.sl [.int .i64,.int .i64] h0_2]]⟩)]⟩
def K61_2 (t50:List AV) (t51:Int) (h0_0 h0_1 h0_2:List AV) (k:Kont):(Unit ⊕ (Int × Int) ⊕ (Int × Int))→Option AV:=sumE (fun _:Unit=>k (.exit 2) ⟨[],[([0,1],⟨true,[],[AV.agg [AV.sl [.int .i64] h0_0,AV.sl [.int .i64] h0_1,AV.sl [.int .i64,.int .i64] h0_2]]⟩)]⟩) (sumE (fun p:Int × Int=>k .ret ⟨[(2,AV.bool false)],[([0,1],⟨true,[],[AV.agg [AV.sl [.int .i64] h0_0,AV.sl [.int .i64] h0_1,AV.sl [.int .i64,.int .i64] h0_2]]⟩),([1,6],⟨true,[],[AV.agg [Ai p.1,Ai p.2]]⟩)]⟩) (fun p:Int × Int=>k .ret ⟨[(2,AV.bool false)],[([0,1],⟨true,[],[AV.agg [AV.sl [.int .i64] h0_0,AV.sl [.int .i64] h0_1,AV.sl [.int .i64,.int .i64] h0_2]]⟩),([0,6],⟨true,[],[AV.agg [Ai p.1,Ai p.2]]⟩)]⟩))
def l61_2:LModel:=fun _ _ st k=>match st with
 | ⟨[(1,.ptr g0 g1 g2),(50,.sl g3 t50),(51,.int .i64 t51),(52,.int .i64 t52)],[(g4,⟨true,[],[.agg [.sl g5 h0_0,.sl g6 h0_1,.sl g7 h0_2]]⟩)]⟩=>bif nmEq g0 ([0,1]) && Nat.beq g1 0 && Nat.beq g2 0 && ctsEq g3 ([.int .i64,.int .i64]) && nmEq g4 ([0,1]) && ctsEq g5 ([.int .i64]) && ctsEq g6 ([.int .i64]) && ctsEq g7 ([.int .i64,.int .i64]) then ro (runW (R61_2 t50 t51 h0_0 h0_1 h0_2) ((t51 - t52:Int).toNat+1) t52) none (K61_2 t50 t51 h0_0 h0_1 h0_2 k) else none
 | _=>none
def G61_0 {β:Type} (t35:List AV) (t36:Int) (h0_0:List AV) (h0_1:List AV) (h0_2:List AV) (t37:Int) (N:(Int)→β) (K:(Unit ⊕ Unit)→β) (d:β):β:=(bif decide (t37<t36) then (bif (decide (0≤t37) && decide (t37<(t35.length:Int))) then (bif (decide (0≤0) && decide (0≤t37) && decide (t37≤(h0_1.length:Int))) then (bif q48 ((h0_1.take (Int.toNat t37)).drop (Int.toNat 0)) (fI (t35.getD t37.toNat .undef) 0) then (bif (v48_0 ((h0_1.take (Int.toNat t37)).drop (Int.toNat 0)) (fI (t35.getD t37.toNat .undef) 0)) then K (.inr ())
 else N (IntKind.i64.wrap (t37+1)))
 else d)
 else d)
 else d)
 else K (.inl ()))
def F61_0 (t35:List AV) (t36:Int) (h0_0 h0_1 h0_2:List AV) (t37:Int):Out (Int) (Unit ⊕ Unit):=G61_0 t35 t36 h0_0 h0_1 h0_2 t37 .next .stop .fail
def R61_0 (t35:List AV) (t36:Int) (h0_0 h0_1 h0_2:List AV):(Int)→Out (Int) (Unit ⊕ Unit):=fun s:Int=>F61_0 t35 t36 h0_0 h0_1 h0_2 s
def E61_0 (t35:List AV) (t36:Int) (h0_0 h0_1 h0_2:List AV):(Int)→St:=fun s:Int=>⟨[(1,AV.ptr [0,1] 0 0),(35,AV.sl [.int .i64] t35),(36,Ai t36),(37,Ai s)],[([0,1],⟨true,[],[AV.agg [AV.sl [.int .i64] h0_0,AV.sl [.int .i64] h0_1,AV.sl [.int .i64,.int .i64] h0_2]]⟩)]⟩
def K61_0 (t35:List AV) (t36:Int) (h0_0 h0_1 h0_2:List AV) (k:Kont):(Unit ⊕ Unit)→Option AV:=sumE (fun _:Unit=>k (.exit 0) ⟨[(1,AV.ptr [0,1] 0 0)],[([0,1],⟨true,[],[AV.agg [AV.sl [.int .i64] h0_0,AV.sl [.int .i64] h0_1,AV.sl [.int .i64,.int .i64] h0_2]]⟩)]⟩) (fun _:Unit=>k .ret ⟨[(2,AV.bool false)],[([0,1],⟨true,[],[AV.agg [AV.sl [.int .i64] h0_0,AV.sl [.int .i64] h0_1,AV.sl [.int .i64,.int .i64] h0_2]]⟩)]⟩)
def l61_0:LModel:=fun _ _ st k=>match st with
 | ⟨[(1,.ptr g0 g1 g2),(35,.sl g3 t35),(36,.int .i64 t36),(37,.int .i64 t37)],[(g4,⟨true,[],[.agg [.sl g5 h0_0,.sl g6 h0_1,.sl g7 h0_2]]⟩)]⟩=>bif nmEq g0 ([0,1]) && Nat.beq g1 0 && Nat.beq g2 0 && ctsEq g3 ([.int .i64]) && nmEq g4 ([0,1]) && ctsEq g5 ([.int .i64]) && ctsEq g6 ([.int .i64]) && ctsEq g7 ([.int .i64,.int .i64]) then ro (runW (R61_0 t35 t36 h0_0 h0_1 h0_2) ((t36 - t37:Int).toNat+1) t37) none (K61_0 t35 t36 h0_0 h0_1 h0_2 k) else none
 | _=>none
noncomputable def c61:Cfg:=cfg Tryz.prog [(61,0,[1,35,36,37]),(61,2,[1,50,51,52]),(61,4,[1,6,50,51,52,103,104,105]),(61,999,[2]),(61,1000,[1]),(61,1001,[1,35,36,37]),(61,1002,[]),(61,1003,[1,50,51,52]),(61,1004,[1,50,51,52]),(61,1005,[1,6,50,51,52,103,104,105])] [(48,m48),(79,m79),(106,m106),(107,m107)] [] [] [(61,0,l61_0),(61,2,l61_2),(61,4,l61_4)]
theorem s61_4 (t50:List AV) (t51 t52:Int) (t103:List AV) (t104:Int) (h0_0 h0_1 h0_2:List AV) (h1_0 h1_1:Int) (ce:CallE) (k:Kont) (s:Int) (next:St→Option AV):stepA (codeA c61 ce [] 61 4 (sub [1,1,1,0,1,0,0,1,1,0,0,1,1,1,0,0] (body Tryz.f61))) (normA [] [1,6,50,51,52,103,104,105]) next ((E61_4 t50 t51 t52 t103 t104 h0_0 h0_1 h0_2 h1_0 h1_1) s) k=G61_4 t50 t51 t52 t103 t104 h0_0 h0_1 h0_2 h1_0 h1_1 s (fun s=>next ((E61_4 t50 t51 t52 t103 t104 h0_0 h0_1 h0_2 h1_0 h1_1) s)) (K61_4 t50 t51 t52 t103 t104 h0_0 h0_1 h0_2 h1_0 h1_1 k) none:=by kernel_rfl
theorem st61_4 (t50:List AV) (t51 t52:Int) (t103:List AV) (t104:Int) (h0_0 h0_1 h0_2:List AV) (h1_0 h1_1:Int) (ce:CallE) (k:Kont) (s:Int) (next:St→Option AV):stepA (codeA c61 ce [] 61 4 (sub [1,1,1,0,1,0,0,1,1,0,0,1,1,1,0,0] (body Tryz.f61))) (normA [] [1,6,50,51,52,103,104,105]) next ((E61_4 t50 t51 t52 t103 t104 h0_0 h0_1 h0_2 h1_0 h1_1) s) k=(R61_4 t50 t51 t52 t103 t104 h0_0 h0_1 h0_2 h1_0 h1_1 s).el none (fun s=>next ((E61_4 t50 t51 t52 t103 t104 h0_0 h0_1 h0_2 h1_0 h1_1) s)) (K61_4 t50 t51 t52 t103 t104 h0_0 h0_1 h0_2 h1_0 h1_1 k):=(s61_4 t50 t51 t52 t103 t104 h0_0 h0_1 h0_2 h1_0 h1_1 ce k s next).trans (by unfold R61_4;unfold F61_4 G61_4;simp only [el_cond,el_ro,el_sum,el_fail,el_next,el_stop] <;> rfl)
theorem ok61_4 {ce:CallE}:LoopOK c61 ce [] 61 4 (sub [1,1,1,0,1,0,0,1,1,0,0,1,1,1,0,0] (body Tryz.f61)):=by
 intro m hm st k r h
 obtain rfl:l61_4=m:=Option.some.inj hm
 unfold l61_4 at h
 split at h
 ·rename_i g0 g1 g2 g3 g4 g5 g6 t50 t51 t52 g7 t103 t104 t105 g8 g9 h0_0 g10 h0_1 g11 h0_2 g12 h1_0 h1_1
  obtain ⟨hg,h⟩:=bif_some h
  simp only [Bool.and_eq_true] at hg
  obtain ⟨⟨⟨⟨⟨⟨⟨⟨⟨⟨⟨⟨q0,q1⟩,q2⟩,q3⟩,q4⟩,q5⟩,q6⟩,q7⟩,q8⟩,q9⟩,q10⟩,q11⟩,q12⟩:=hg
  obtain rfl:=nE q0
  obtain rfl:=bE q1
  obtain rfl:=bE q2
  obtain rfl:=nE q3
  obtain rfl:=bE q4
  obtain rfl:=bE q5
  obtain rfl:=cE q6
  obtain rfl:=cE q7
  obtain rfl:=nE q8
  obtain rfl:=cE q9
  obtain rfl:=cE q10
  obtain rfl:=cE q11
  obtain rfl:=nE q12
  refine ⟨((t104 - t105:Int).toNat+1),?_⟩
  rw [← h]
  exact loop_run (E61_4 t50 t51 t52 t103 t104 h0_0 h0_1 h0_2 h1_0 h1_1) (K61_4 t50 t51 t52 t103 t104 h0_0 h0_1 h0_2 h1_0 h1_1 k) (st61_4 t50 t51 t52 t103 t104 h0_0 h0_1 h0_2 h1_0 h1_1 ce k) _ t105
 ·cases h
theorem s61_2 (t50:List AV) (t51:Int) (h0_0 h0_1 h0_2:List AV) (ce:CallE) (k:Kont) (s:Int) (next:St→Option AV):stepA (codeA c61 ce [] 61 2 (sub [1,1,1,0,1,0,0] (body Tryz.f61))) (normA [] [1,50,51,52]) next ((E61_2 t50 t51 h0_0 h0_1 h0_2) s) k=G61_2 t50 t51 h0_0 h0_1 h0_2 s (fun s=>next ((E61_2 t50 t51 h0_0 h0_1 h0_2) s)) (K61_2 t50 t51 h0_0 h0_1 h0_2 k) none:=by kernel_rfl
theorem st61_2 (t50:List AV) (t51:Int) (h0_0 h0_1 h0_2:List AV) (ce:CallE) (k:Kont) (s:Int) (next:St→Option AV):stepA (codeA c61 ce [] 61 2 (sub [1,1,1,0,1,0,0] (body Tryz.f61))) (normA [] [1,50,51,52]) next ((E61_2 t50 t51 h0_0 h0_1 h0_2) s) k=(R61_2 t50 t51 h0_0 h0_1 h0_2 s).el none (fun s=>next ((E61_2 t50 t51 h0_0 h0_1 h0_2) s)) (K61_2 t50 t51 h0_0 h0_1 h0_2 k):=(s61_2 t50 t51 h0_0 h0_1 h0_2 ce k s next).trans (by unfold R61_2;unfold F61_2 G61_2;simp only [el_cond,el_ro,el_sum,el_fail,el_next,el_stop] <;> rfl)
theorem ok61_2 {ce:CallE}:LoopOK c61 ce [] 61 2 (sub [1,1,1,0,1,0,0] (body Tryz.f61)):=by
 intro m hm st k r h
 obtain rfl:l61_2=m:=Option.some.inj hm
 unfold l61_2 at h
 split at h
 ·rename_i g0 g1 g2 g3 t50 t51 t52 g4 g5 h0_0 g6 h0_1 g7 h0_2
  obtain ⟨hg,h⟩:=bif_some h
  simp only [Bool.and_eq_true] at hg
  obtain ⟨⟨⟨⟨⟨⟨⟨q0,q1⟩,q2⟩,q3⟩,q4⟩,q5⟩,q6⟩,q7⟩:=hg
  obtain rfl:=nE q0
  obtain rfl:=bE q1
  obtain rfl:=bE q2
  obtain rfl:=cE q3
  obtain rfl:=nE q4
  obtain rfl:=cE q5
  obtain rfl:=cE q6
  obtain rfl:=cE q7
  refine ⟨((t51 - t52:Int).toNat+1),?_⟩
  rw [← h]
  exact loop_run (E61_2 t50 t51 h0_0 h0_1 h0_2) (K61_2 t50 t51 h0_0 h0_1 h0_2 k) (st61_2 t50 t51 h0_0 h0_1 h0_2 ce k) _ t52
 ·cases h
theorem s61_0 (t35:List AV) (t36:Int) (h0_0 h0_1 h0_2:List AV) (ce:CallE) (k:Kont) (s:Int) (next:St→Option AV):stepA (codeA c61 ce [] 61 0 (sub [1,1,0,1,0,0] (body Tryz.f61))) (normA [] [1,35,36,37]) next ((E61_0 t35 t36 h0_0 h0_1 h0_2) s) k=G61_0 t35 t36 h0_0 h0_1 h0_2 s (fun s=>next ((E61_0 t35 t36 h0_0 h0_1 h0_2) s)) (K61_0 t35 t36 h0_0 h0_1 h0_2 k) none:=by kernel_rfl
theorem st61_0 (t35:List AV) (t36:Int) (h0_0 h0_1 h0_2:List AV) (ce:CallE) (k:Kont) (s:Int) (next:St→Option AV):stepA (codeA c61 ce [] 61 0 (sub [1,1,0,1,0,0] (body Tryz.f61))) (normA [] [1,35,36,37]) next ((E61_0 t35 t36 h0_0 h0_1 h0_2) s) k=(R61_0 t35 t36 h0_0 h0_1 h0_2 s).el none (fun s=>next ((E61_0 t35 t36 h0_0 h0_1 h0_2) s)) (K61_0 t35 t36 h0_0 h0_1 h0_2 k):=(s61_0 t35 t36 h0_0 h0_1 h0_2 ce k s next).trans (by unfold R61_0;unfold F61_0 G61_0;simp only [el_cond,el_ro,el_sum,el_fail,el_next,el_stop] <;> rfl)
theorem ok61_0 {ce:CallE}:LoopOK c61 ce [] 61 0 (sub [1,1,0,1,0,0] (body Tryz.f61)):=by
 intro m hm st k r h
 obtain rfl:l61_0=m:=Option.some.inj hm
 unfold l61_0 at h
 split at h
 ·rename_i g0 g1 g2 g3 t35 t36 t37 g4 g5 h0_0 g6 h0_1 g7 h0_2
  obtain ⟨hg,h⟩:=bif_some h
  simp only [Bool.and_eq_true] at hg
  obtain ⟨⟨⟨⟨⟨⟨⟨q0,q1⟩,q2⟩,q3⟩,q4⟩,q5⟩,q6⟩,q7⟩:=hg
  obtain rfl:=nE q0
  obtain rfl:=bE q1
  obtain rfl:=bE q2
  obtain rfl:=cE q3
  obtain rfl:=nE q4
  obtain rfl:=cE q5
  obtain rfl:=cE q6
  obtain rfl:=cE q7
  refine ⟨((t36 - t37:Int).toNat+1),?_⟩
  rw [← h]
  exact loop_run (E61_0 t35 t36 h0_0 h0_1 h0_2) (K61_0 t35 t36 h0_0 h0_1 h0_2 k) (st61_0 t35 t36 h0_0 h0_1 h0_2 ce k) _ t37
 ·cases h
def q61 (xa xb xc:List AV):Bool:=(q79 xa && (bif !(v79_0 xa) then true else (bif !decide ((xb.length:Int)=(xa.length:Int)) then true else (q106 xb 0 999 && (bif !(v106_0 xb 0 999) then true else (bif decide ((xc.length:Int) > 2001) then true else (ro (runW (R61_0 xb (xb.length:Int) xa xb xc) (((xb.length:Int) - 0:Int).toNat+1) 0) false (sumE (fun _=>(ro (runW (R61_2 xc (xc.length:Int) xa xb xc) (((xc.length:Int) - 0:Int).toNat+1) 0) false (sumE (fun _=>true) (sumE (fun p50=>true) (fun p51=>true))))) (fun _=>true)))))))))
def v61_0 (xa xb xc:List AV):Bool:=(bif !(v79_0 xa) then false else (bif !decide ((xb.length:Int)=(xa.length:Int)) then false else (bif !(v106_0 xb 0 999) then false else (bif decide ((xc.length:Int) > 2001) then false else (ro (runW (R61_0 xb (xb.length:Int) xa xb xc) (((xb.length:Int) - 0:Int).toNat+1) 0) false (sumE (fun _=>(ro (runW (R61_2 xc (xc.length:Int) xa xb xc) (((xc.length:Int) - 0:Int).toNat+1) 0) false (sumE (fun _=>true) (sumE (fun p50=>false) (fun p51=>false))))) (fun _=>false)))))))
theorem e61 (xa xb xc:List AV):funA c61 0 61 [AV.agg [AV.sl [.int .i64] xa,AV.sl [.int .i64] xb,AV.sl [.int .i64,.int .i64] xc]]=(bif q79 xa then (bif !(v79_0 xa) then some (AV.bool false)
 else (bif !decide ((xb.length:Int)=(xa.length:Int)) then some (AV.bool false)
 else (bif q106 xb 0 999 then (bif !(v106_0 xb 0 999) then some (AV.bool false)
 else (bif decide ((xc.length:Int) > 2001) then some (AV.bool false)
 else (ro (runW (R61_0 xb (xb.length:Int) xa xb xc) (((xb.length:Int) - 0:Int).toNat+1) 0) none (sumE (fun _=>(ro (runW (R61_2 xc (xc.length:Int) xa xb xc) (((xc.length:Int) - 0:Int).toNat+1) 0) none (sumE (fun _=>some (AV.bool true)) (sumE (fun p50=>some (AV.bool false)) (fun p51=>some (AV.bool false)))))) (fun _=>some (AV.bool false))))))
 else none)))
 else none):=by kernel_rfl
theorem r61 (xa xb xc:List AV) (h:q61 xa xb xc=true):funA c61 0 61 [AV.agg [AV.sl [.int .i64] xa,AV.sl [.int .i64] xb,AV.sl [.int .i64,.int .i64] xc]]=some (AV.bool (v61_0 xa xb xc)):=by
 refine (e61 xa xb xc).trans ?_
 unfold q61 at h
 unfold v61_0
 refine ifG (fun hc=>?_) (fun hc=>?_) <;> first|rw [hc] at h ⊢|rw [hc] at h|rw [hc]|skip
 ·refine ifG (fun hc=>?_) (fun hc=>?_) <;> first|rw [hc] at h ⊢|rw [hc] at h|rw [hc]|skip
  ·rfl
  ·refine ifG (fun hc=>?_) (fun hc=>?_) <;> first|rw [hc] at h ⊢|rw [hc] at h|rw [hc]|skip
   ·rfl
   ·refine ifG (fun hc=>?_) (fun hc=>?_) <;> first|rw [hc] at h ⊢|rw [hc] at h|rw [hc]|skip
    ·refine ifG (fun hc=>?_) (fun hc=>?_) <;> first|rw [hc] at h ⊢|rw [hc] at h|rw [hc]|skip
     ·rfl
     ·refine ifG (fun hc=>?_) (fun hc=>?_) <;> first|rw [hc] at h ⊢|rw [hc] at h|rw [hc]|skip
      ·rfl
      ·refine roG (fun hc=>?_) (fun r hc=>?_) <;> first|rw [hc] at h ⊢|rw [hc] at h|rw [hc]|skip
       ·exact Bool.noConfusion h
       ·try simp only [ro] at h ⊢
        cases r with
        | inl _ =>
         try simp only [sumE] at h ⊢
         refine roG (fun hc=>?_) (fun r hc=>?_) <;> first|rw [hc] at h ⊢|rw [hc] at h|rw [hc]|skip
         ·exact Bool.noConfusion h
         ·try simp only [ro] at h ⊢
          cases r with
          | inl _ =>
           try simp only [sumE] at h ⊢
           rfl
          | inr r =>
           try simp only [sumE] at h ⊢
           cases r with
           | inl p50 =>
            try simp only [sumE] at h ⊢
            rfl
           | inr p51 =>
            try simp only [sumE] at h ⊢
            rfl
        | inr _ =>
         try simp only [sumE] at h ⊢
         rfl
    ·first|exact Bool.noConfusion h|exact Bool.noConfusion hc
 ·first|exact Bool.noConfusion h|exact Bool.noConfusion hc
def m61:TModel
 | [.agg [.sl g0 xa,.sl g1 xb,.sl g2 xc]]=>bif ctsEq g0 ([.int .i64]) && ctsEq g1 ([.int .i64]) && ctsEq g2 ([.int .i64,.int .i64]) then some (q61 xa xb xc,AV.bool (v61_0 xa xb xc)) else none
 | _=>none
theorem k61:Known Tryz.prog 61:=⟨Tryz.f61,Tryz.func61,by kernel_rfl,by kernel_rfl⟩
theorem meets61:Meets Tryz.prog 61 m61:=by
 refine mt (lvl:=0) (cf:=c61) rfl mixed k61 Tryz.func61 (by kernel_rfl) (loops_cons ok61_0 (loops_cons ok61_2 (loops_cons ok61_4 noLoop))) (allT_cons meets48 (allT_cons meets79 (allT_cons meets106 (allT_cons meets107 allT_nil)))) allM_nil noI fun xs r h=>?_
 unfold m61 at h
 split at h
 ·rename_i g0 xa g1 xb g2 xc
  obtain ⟨hg,h⟩:=bif_pair h
  simp only [Bool.and_eq_true] at hg
  obtain ⟨⟨q0,q1⟩,q2⟩:=hg
  obtain rfl:=cE q0
  obtain rfl:=cE q1
  obtain rfl:=cE q2
  obtain ⟨h1,rfl⟩:=pair_inj h
  exact r61 xa xb xc h1
 ·cases h
noncomputable def c62:Cfg:=cfg Tryz.prog [(62,999,[4])] [(83,m83)] [] [] []
def q62 (xa xb xc:List AV) (a1:Int):Bool:=q83 xb a1
def v62_0 (xa xb xc:List AV) (a1:Int):Int:=(v83_0 xb a1)
theorem e62 (xa xb xc:List AV) (a1:Int):funA c62 0 62 [AV.agg [AV.sl [.int .i64] xa,AV.sl [.int .i64] xb,AV.sl [.int .i64,.int .i64] xc],Ai a1]=(bif q83 xb a1 then some (Ai (v83_0 xb a1))
 else none):=by kernel_rfl
def m62:TModel
 | [.agg [.sl g0 xa,.sl g1 xb,.sl g2 xc],.int .i64 a1]=>bif ctsEq g0 ([.int .i64]) && ctsEq g1 ([.int .i64]) && ctsEq g2 ([.int .i64,.int .i64]) then some (q62 xa xb xc a1,AV.int .i64 (v62_0 xa xb xc a1)) else none
 | _=>none
theorem k62:Known Tryz.prog 62:=⟨Tryz.f62,Tryz.func62,by kernel_rfl,by kernel_rfl⟩
theorem meets62:Meets Tryz.prog 62 m62:=by
 refine mt (lvl:=0) (cf:=c62) rfl mixed k62 Tryz.func62 (by kernel_rfl) noLoop (allT_cons meets83 allT_nil) allM_nil noI fun xs r h=>?_
 unfold m62 at h
 split at h
 ·rename_i g0 xa g1 xb g2 xc a1
  obtain ⟨hg,h⟩:=bif_pair h
  simp only [Bool.and_eq_true] at hg
  obtain ⟨⟨q0,q1⟩,q2⟩:=hg
  obtain rfl:=cE q0
  obtain rfl:=cE q1
  obtain rfl:=cE q2
  obtain ⟨h1,rfl⟩:=pair_inj h
  exact (e62 xa xb xc a1).trans ((brL1 (fun _=>rfl)) h1)
 ·cases h
def G17_0 {β:Type} (t31:List AV) (t32:Int) (h0_0:List AV) (h0_1:Int) (h0_2:List AV) (h0_3:List AV) (h0_4:List AV) (t33:Int) (N:(Int)→β) (K:(Unit ⊕ (Int × Int × Int × Int))→β) (d:β):β:=by
 refine (?f0:Int→β) (v62_0 h0_2 h0_3 h0_4 (fI (t31.getD t33.toNat .undef) 1));intro x1
 exact (bif decide (t33<t32) then (bif (decide (0≤t33) && decide (t33<(t31.length:Int))) then (bif q62 h0_2 h0_3 h0_4 (fI (t31.getD t33.toNat .undef) 1) then (bif decide (x1<0) then K (.inr (fI (t31.getD t33.toNat .undef) 0,fI (t31.getD t33.toNat .undef) 1,fI (t31.getD t33.toNat .undef) 2,fI (t31.getD t33.toNat .undef) 3))
 else (bif (decide (0≤x1) && decide (x1<(h0_2.length:Int))) then (bif !decide (fI (h0_2.getD x1.toNat .undef) 0=fI (t31.getD t33.toNat .undef) 0) then K (.inr (fI (t31.getD t33.toNat .undef) 0,fI (t31.getD t33.toNat .undef) 1,fI (t31.getD t33.toNat .undef) 2,fI (t31.getD t33.toNat .undef) 3))
 else (bif decide (t33 > 0) then (bif (decide (0≤IntKind.i64.wrap (t33 - 1)) && decide (IntKind.i64.wrap (t33 - 1)<(h0_0.length:Int))) then (bif decide (fI (h0_0.getD (IntKind.i64.wrap (t33 - 1)).toNat .undef) 1 ≥ fI (t31.getD t33.toNat .undef) 1) then K (.inr (fI (t31.getD t33.toNat .undef) 0,fI (t31.getD t33.toNat .undef) 1,fI (t31.getD t33.toNat .undef) 2,fI (t31.getD t33.toNat .undef) 3))
 else (bif decide (fI (t31.getD t33.toNat .undef) 2<0) then K (.inr (fI (t31.getD t33.toNat .undef) 0,fI (t31.getD t33.toNat .undef) 1,fI (t31.getD t33.toNat .undef) 2,fI (t31.getD t33.toNat .undef) 3))
 else (bif decide (fI (t31.getD t33.toNat .undef) 2 > h0_1) then K (.inr (fI (t31.getD t33.toNat .undef) 0,fI (t31.getD t33.toNat .undef) 1,fI (t31.getD t33.toNat .undef) 2,fI (t31.getD t33.toNat .undef) 3))
 else (bif !decide (fI (t31.getD t33.toNat .undef) 3=(-1)) then (bif decide (fI (t31.getD t33.toNat .undef) 3≤fI (t31.getD t33.toNat .undef) 2) then K (.inr (fI (t31.getD t33.toNat .undef) 0,fI (t31.getD t33.toNat .undef) 1,fI (t31.getD t33.toNat .undef) 2,fI (t31.getD t33.toNat .undef) 3))
 else (bif decide (fI (t31.getD t33.toNat .undef) 3 > h0_1) then K (.inr (fI (t31.getD t33.toNat .undef) 0,fI (t31.getD t33.toNat .undef) 1,fI (t31.getD t33.toNat .undef) 2,fI (t31.getD t33.toNat .undef) 3))
 else N (IntKind.i64.wrap (t33+1))))
 else N (IntKind.i64.wrap (t33+1))))))
 else d)
 else (bif decide (fI (t31.getD t33.toNat .undef) 2<0) then K (.inr (fI (t31.getD t33.toNat .undef) 0,fI (t31.getD t33.toNat .undef) 1,fI (t31.getD t33.toNat .undef) 2,fI (t31.getD t33.toNat .undef) 3))
 else (bif decide (fI (t31.getD t33.toNat .undef) 2 > h0_1) then K (.inr (fI (t31.getD t33.toNat .undef) 0,fI (t31.getD t33.toNat .undef) 1,fI (t31.getD t33.toNat .undef) 2,fI (t31.getD t33.toNat .undef) 3))
 else (bif !decide (fI (t31.getD t33.toNat .undef) 3=(-1)) then (bif decide (fI (t31.getD t33.toNat .undef) 3≤fI (t31.getD t33.toNat .undef) 2) then K (.inr (fI (t31.getD t33.toNat .undef) 0,fI (t31.getD t33.toNat .undef) 1,fI (t31.getD t33.toNat .undef) 2,fI (t31.getD t33.toNat .undef) 3))
 else (bif decide (fI (t31.getD t33.toNat .undef) 3 > h0_1) then K (.inr (fI (t31.getD t33.toNat .undef) 0,fI (t31.getD t33.toNat .undef) 1,fI (t31.getD t33.toNat .undef) 2,fI (t31.getD t33.toNat .undef) 3))
 else N (IntKind.i64.wrap (t33+1))))
 else N (IntKind.i64.wrap (t33+1)))))))
 else d))
 else d)
 else d)
 else K (.inl ()))
def F17_0 (t31:List AV) (t32:Int) (h0_0:List AV) (h0_1:Int) (h0_2 h0_3 h0_4:List AV) (t33:Int):Out (Int) (Unit ⊕ (Int × Int × Int × Int)):=G17_0 t31 t32 h0_0 h0_1 h0_2 h0_3 h0_4 t33 .next .stop .fail
def R17_0 (t31:List AV) (t32:Int) (h0_0:List AV) (h0_1:Int) (h0_2 h0_3 h0_4:List AV):(Int)→Out (Int) (Unit ⊕ (Int × Int × Int × Int)):=fun s:Int=>F17_0 t31 t32 h0_0 h0_1 h0_2 h0_3 h0_4 s
def E17_0 (t31:List AV) (t32:Int) (h0_0:List AV) (h0_1:Int) (h0_2 h0_3 h0_4:List AV):(Int)→St:=fun s:Int=>⟨[(1,AV.ptr [0,1] 0 0),(31,AV.sl [.int .i64,.int .i64,.int .i64,.int .i64] t31),(32,Ai t32),(33,Ai s)],[([0,1],⟨true,[],[AV.agg [AV.sl [.int .i64,.int .i64,.int .i64,.int .i64] h0_0,Ai h0_1,AV.sl [.int .i64] h0_2,AV.sl [.int .i64] h0_3,AV.sl [.int .i64,.int .i64] h0_4]]⟩)]⟩
def K17_0 (t31:List AV) (t32:Int) (h0_0:List AV) (h0_1:Int) (h0_2 h0_3 h0_4:List AV) (k:Kont):(Unit ⊕ (Int × Int × Int × Int))→Option AV:=sumE (fun _:Unit=>k (.exit 0) ⟨[],[([0,1],⟨true,[],[AV.agg [AV.sl [.int .i64,.int .i64,.int .i64,.int .i64] h0_0,Ai h0_1,AV.sl [.int .i64] h0_2,AV.sl [.int .i64] h0_3,AV.sl [.int .i64,.int .i64] h0_4]]⟩)]⟩) (fun p:Int × Int × Int × Int=>k .ret ⟨[(2,AV.bool false)],[([0,1],⟨true,[],[AV.agg [AV.sl [.int .i64,.int .i64,.int .i64,.int .i64] h0_0,Ai h0_1,AV.sl [.int .i64] h0_2,AV.sl [.int .i64] h0_3,AV.sl [.int .i64,.int .i64] h0_4]]⟩),([1,4],⟨true,[],[AV.agg [Ai p.1,Ai p.2.1,Ai p.2.2.1,Ai p.2.2.2]]⟩)]⟩)
def l17_0:LModel:=fun _ _ st k=>match st with
 | ⟨[(1,.ptr g0 g1 g2),(31,.sl g3 t31),(32,.int .i64 t32),(33,.int .i64 t33)],[(g4,⟨true,[],[.agg [.sl g5 h0_0,.int .i64 h0_1,.sl g6 h0_2,.sl g7 h0_3,.sl g8 h0_4]]⟩)]⟩=>bif nmEq g0 ([0,1]) && Nat.beq g1 0 && Nat.beq g2 0 && ctsEq g3 ([.int .i64,.int .i64,.int .i64,.int .i64]) && nmEq g4 ([0,1]) && ctsEq g5 ([.int .i64,.int .i64,.int .i64,.int .i64]) && ctsEq g6 ([.int .i64]) && ctsEq g7 ([.int .i64]) && ctsEq g8 ([.int .i64,.int .i64]) then ro (runW (R17_0 t31 t32 h0_0 h0_1 h0_2 h0_3 h0_4) ((t32 - t33:Int).toNat+1) t33) none (K17_0 t31 t32 h0_0 h0_1 h0_2 h0_3 h0_4 k) else none
 | _=>none
noncomputable def c17:Cfg:=cfg Tryz.prog [(17,0,[1,31,32,33]),(17,999,[2]),(17,1000,[]),(17,1001,[1,31,32,33])] [(61,m61),(62,m62)] [] [] [(17,0,l17_0)]
theorem s17_0 (t31:List AV) (t32:Int) (h0_0:List AV) (h0_1:Int) (h0_2 h0_3 h0_4:List AV) (ce:CallE) (k:Kont) (s:Int) (next:St→Option AV):stepA (codeA c17 ce [] 17 0 (sub [1,1,0,1,0,0] (body Tryz.f17))) (normA [] [1,31,32,33]) next ((E17_0 t31 t32 h0_0 h0_1 h0_2 h0_3 h0_4) s) k=G17_0 t31 t32 h0_0 h0_1 h0_2 h0_3 h0_4 s (fun s=>next ((E17_0 t31 t32 h0_0 h0_1 h0_2 h0_3 h0_4) s)) (K17_0 t31 t32 h0_0 h0_1 h0_2 h0_3 h0_4 k) none:=by kernel_rfl
theorem st17_0 (t31:List AV) (t32:Int) (h0_0:List AV) (h0_1:Int) (h0_2 h0_3 h0_4:List AV) (ce:CallE) (k:Kont) (s:Int) (next:St→Option AV):stepA (codeA c17 ce [] 17 0 (sub [1,1,0,1,0,0] (body Tryz.f17))) (normA [] [1,31,32,33]) next ((E17_0 t31 t32 h0_0 h0_1 h0_2 h0_3 h0_4) s) k=(R17_0 t31 t32 h0_0 h0_1 h0_2 h0_3 h0_4 s).el none (fun s=>next ((E17_0 t31 t32 h0_0 h0_1 h0_2 h0_3 h0_4) s)) (K17_0 t31 t32 h0_0 h0_1 h0_2 h0_3 h0_4 k):=(s17_0 t31 t32 h0_0 h0_1 h0_2 h0_3 h0_4 ce k s next).trans (by unfold R17_0;unfold F17_0 G17_0;simp only [el_cond,el_ro,el_sum,el_fail,el_next,el_stop] <;> rfl)
theorem ok17_0 {ce:CallE}:LoopOK c17 ce [] 17 0 (sub [1,1,0,1,0,0] (body Tryz.f17)):=by
 intro m hm st k r h
 obtain rfl:l17_0=m:=Option.some.inj hm
 unfold l17_0 at h
 split at h
 ·rename_i g0 g1 g2 g3 t31 t32 t33 g4 g5 h0_0 h0_1 g6 h0_2 g7 h0_3 g8 h0_4
  obtain ⟨hg,h⟩:=bif_some h
  simp only [Bool.and_eq_true] at hg
  obtain ⟨⟨⟨⟨⟨⟨⟨⟨q0,q1⟩,q2⟩,q3⟩,q4⟩,q5⟩,q6⟩,q7⟩,q8⟩:=hg
  obtain rfl:=nE q0
  obtain rfl:=bE q1
  obtain rfl:=bE q2
  obtain rfl:=cE q3
  obtain rfl:=nE q4
  obtain rfl:=cE q5
  obtain rfl:=cE q6
  obtain rfl:=cE q7
  obtain rfl:=cE q8
  refine ⟨((t32 - t33:Int).toNat+1),?_⟩
  rw [← h]
  exact loop_run (E17_0 t31 t32 h0_0 h0_1 h0_2 h0_3 h0_4) (K17_0 t31 t32 h0_0 h0_1 h0_2 h0_3 h0_4 k) (st17_0 t31 t32 h0_0 h0_1 h0_2 h0_3 h0_4 ce k) _ t33
 ·cases h
def q17 (xa:List AV) (xb:Int) (xc xd xe:List AV):Bool:=(q61 xc xd xe && (bif !(v61_0 xc xd xe) then true else (bif !decide ((xa.length:Int)=(xc.length:Int)) then true else (bif decide (xb<0) then true else (bif decide (xb > 1000) then true else (ro (runW (R17_0 xa (xa.length:Int) xa xb xc xd xe) (((xa.length:Int) - 0:Int).toNat+1) 0) false (sumE (fun _=>true) (fun p54=>true))))))))
def v17_0 (xa:List AV) (xb:Int) (xc xd xe:List AV):Bool:=(bif !(v61_0 xc xd xe) then false else (bif !decide ((xa.length:Int)=(xc.length:Int)) then false else (bif decide (xb<0) then false else (bif decide (xb > 1000) then false else (ro (runW (R17_0 xa (xa.length:Int) xa xb xc xd xe) (((xa.length:Int) - 0:Int).toNat+1) 0) false (sumE (fun _=>true) (fun p54=>false)))))))
theorem e17 (xa:List AV) (xb:Int) (xc xd xe:List AV):funA c17 0 17 [AV.agg [AV.sl [.int .i64,.int .i64,.int .i64,.int .i64] xa,Ai xb,AV.sl [.int .i64] xc,AV.sl [.int .i64] xd,AV.sl [.int .i64,.int .i64] xe]]=(bif q61 xc xd xe then (bif !(v61_0 xc xd xe) then some (AV.bool false)
 else (bif !decide ((xa.length:Int)=(xc.length:Int)) then some (AV.bool false)
 else (bif decide (xb<0) then some (AV.bool false)
 else (bif decide (xb > 1000) then some (AV.bool false)
 else (ro (runW (R17_0 xa (xa.length:Int) xa xb xc xd xe) (((xa.length:Int) - 0:Int).toNat+1) 0) none (sumE (fun _=>some (AV.bool true)) (fun p54=>some (AV.bool false))))))))
 else none):=by kernel_rfl
theorem r17 (xa:List AV) (xb:Int) (xc xd xe:List AV) (h:q17 xa xb xc xd xe=true):funA c17 0 17 [AV.agg [AV.sl [.int .i64,.int .i64,.int .i64,.int .i64] xa,AV.int .i64 xb,AV.sl [.int .i64] xc,AV.sl [.int .i64] xd,AV.sl [.int .i64,.int .i64] xe]]=some (AV.bool (v17_0 xa xb xc xd xe)):=by
 refine (e17 xa xb xc xd xe).trans ?_
 unfold q17 at h
 unfold v17_0
 refine ifG (fun hc=>?_) (fun hc=>?_) <;> first|rw [hc] at h ⊢|rw [hc] at h|rw [hc]|skip
 ·refine ifG (fun hc=>?_) (fun hc=>?_) <;> first|rw [hc] at h ⊢|rw [hc] at h|rw [hc]|skip
  ·rfl
  ·refine ifG (fun hc=>?_) (fun hc=>?_) <;> first|rw [hc] at h ⊢|rw [hc] at h|rw [hc]|skip
   ·rfl
   ·refine ifG (fun hc=>?_) (fun hc=>?_) <;> first|rw [hc] at h ⊢|rw [hc] at h|rw [hc]|skip
    ·rfl
    ·refine ifG (fun hc=>?_) (fun hc=>?_) <;> first|rw [hc] at h ⊢|rw [hc] at h|rw [hc]|skip
     ·rfl
     ·refine roG (fun hc=>?_) (fun r hc=>?_) <;> first|rw [hc] at h ⊢|rw [hc] at h|rw [hc]|skip
      ·exact Bool.noConfusion h
      ·try simp only [ro] at h ⊢
       cases r with
       | inl _ =>
        try simp only [sumE] at h ⊢
        rfl
       | inr p54 =>
        try simp only [sumE] at h ⊢
        rfl
 ·first|exact Bool.noConfusion h|exact Bool.noConfusion hc
def m17:TModel
 | [.agg [.sl g0 xa,.int .i64 xb,.sl g1 xc,.sl g2 xd,.sl g3 xe]]=>bif ctsEq g0 ([.int .i64,.int .i64,.int .i64,.int .i64]) && ctsEq g1 ([.int .i64]) && ctsEq g2 ([.int .i64]) && ctsEq g3 ([.int .i64,.int .i64]) then some (q17 xa xb xc xd xe,AV.bool (v17_0 xa xb xc xd xe)) else none
 | _=>none
theorem k17:Known Tryz.prog 17:=⟨Tryz.f17,Tryz.func17,by kernel_rfl,by kernel_rfl⟩
theorem meets17:Meets Tryz.prog 17 m17:=by
 refine mt (lvl:=0) (cf:=c17) rfl mixed k17 Tryz.func17 (by kernel_rfl) (loops_cons ok17_0 noLoop) (allT_cons meets61 (allT_cons meets62 allT_nil)) allM_nil noI fun xs r h=>?_
 unfold m17 at h
 split at h
 ·rename_i g0 xa xb g1 xc g2 xd g3 xe
  obtain ⟨hg,h⟩:=bif_pair h
  simp only [Bool.and_eq_true] at hg
  obtain ⟨⟨⟨q0,q1⟩,q2⟩,q3⟩:=hg
  obtain rfl:=cE q0
  obtain rfl:=cE q1
  obtain rfl:=cE q2
  obtain rfl:=cE q3
  obtain ⟨h1,rfl⟩:=pair_inj h
  exact r17 xa xb xc xd xe h1
 ·cases h
noncomputable def c45:Cfg:=cfg Tryz.prog [(45,999,[2])] [] [] [] []
def v45_0 (xa xb:Int):Bool:=(bif decide ((-1000)≤xa) then (bif decide (xa≤xb) then decide (xb≤1000) else false) else false)
theorem e45 (xa xb:Int):funA c45 0 45 [AV.agg [Ai xa,Ai xb]]=(bif decide ((-1000)≤xa) then (bif decide (xa≤xb) then some (AV.bool (decide (xb≤1000)))
 else some (AV.bool false))
 else some (AV.bool false)):=by kernel_rfl
def m45:TModel
 | [.agg [.int .i64 xa,.int .i64 xb]]=>some (true,AV.bool (v45_0 xa xb))
 | _=>none
theorem k45:Known Tryz.prog 45:=⟨Tryz.f45,Tryz.func45,by kernel_rfl,by kernel_rfl⟩
theorem meets45:Meets Tryz.prog 45 m45:=by
 refine mt (lvl:=0) (cf:=c45) rfl mixed k45 Tryz.func45 (by kernel_rfl) noLoop allT_nil allM_nil noI fun xs r h=>?_
 unfold m45 at h
 split at h
 ·rename_i xa xb
  obtain ⟨h1,rfl⟩:=pair_inj h
  exact (e45 xa xb).trans (of_tt (brT (fun b=>some (AV.bool (bif b then (bif decide (xa≤xb) then decide (xb≤1000) else false) else false))) (brT (fun b=>some (AV.bool (bif b then decide (xb≤1000) else false))) (fun _=>rfl) (fun _=>rfl)) (fun _=>rfl)))
 ·cases h
def G111_0 {β:Type} (t1:Int) (t9:List AV) (t10:Int) (t11:Int) (N:(Int)→β) (K:(Unit ⊕ (Int × Int × Int))→β) (d:β):β:=(bif decide (t11<t10) then (bif (decide (0≤t11) && decide (t11<(t9.length:Int))) then (bif decide (fI (t9.getD t11.toNat .undef) 0=t1) then K (.inr (fI (t9.getD t11.toNat .undef) 1,fI (t9.getD t11.toNat .undef) 0,fI (t9.getD t11.toNat .undef) 1))
 else N (IntKind.i64.wrap (t11+1)))
 else d)
 else K (.inl ()))
def F111_0 (t1:Int) (t9:List AV) (t10 t11:Int):Out (Int) (Unit ⊕ (Int × Int × Int)):=G111_0 t1 t9 t10 t11 .next .stop .fail
def R111_0 (t1:Int) (t9:List AV) (t10:Int):(Int)→Out (Int) (Unit ⊕ (Int × Int × Int)):=fun s:Int=>F111_0 t1 t9 t10 s
def E111_0 (t1:Int) (t9:List AV) (t10:Int):(Int)→St:=fun s:Int=>⟨[(1,Ai t1),(9,AV.sl [.int .i64,.int .i64] t9),(10,Ai t10),(11,Ai s)],[]⟩
def K111_0 (t1:Int) (t9:List AV) (t10:Int) (k:Kont):(Unit ⊕ (Int × Int × Int))→Option AV:=sumE (fun _:Unit=>k (.exit 0) ⟨[],[]⟩) (fun p:Int × Int × Int=>k .ret ⟨[(4,Ai p.1),(5,AV.bool true)],[([1,7],⟨true,[],[AV.agg [Ai p.2.1,Ai p.2.2]]⟩)]⟩)
def l111_0:LModel:=fun _ _ st k=>match st with
 | ⟨[(1,.int .i64 t1),(9,.sl g0 t9),(10,.int .i64 t10),(11,.int .i64 t11)],[]⟩=>bif ctsEq g0 ([.int .i64,.int .i64]) then ro (runW (R111_0 t1 t9 t10) ((t10 - t11:Int).toNat+1) t11) none (K111_0 t1 t9 t10 k) else none
 | _=>none
noncomputable def c111:Cfg:=cfg Tryz.prog [(111,0,[1,9,10,11]),(111,999,[4,5]),(111,1000,[]),(111,1001,[1,9,10,11])] [] [] [] [(111,0,l111_0)]
theorem s111_0 (t1:Int) (t9:List AV) (t10:Int) (ce:CallE) (k:Kont) (s:Int) (next:St→Option AV):stepA (codeA c111 ce [] 111 0 (sub [1,0,1,0,0] (body Tryz.f111))) (normA [] [1,9,10,11]) next ((E111_0 t1 t9 t10) s) k=G111_0 t1 t9 t10 s (fun s=>next ((E111_0 t1 t9 t10) s)) (K111_0 t1 t9 t10 k) none:=by kernel_rfl
theorem st111_0 (t1:Int) (t9:List AV) (t10:Int) (ce:CallE) (k:Kont) (s:Int) (next:St→Option AV):stepA (codeA c111 ce [] 111 0 (sub [1,0,1,0,0] (body Tryz.f111))) (normA [] [1,9,10,11]) next ((E111_0 t1 t9 t10) s) k=(R111_0 t1 t9 t10 s).el none (fun s=>next ((E111_0 t1 t9 t10) s)) (K111_0 t1 t9 t10 k):=(s111_0 t1 t9 t10 ce k s next).trans (by unfold R111_0;unfold F111_0 G111_0;simp only [el_cond,el_ro,el_sum,el_fail,el_next,el_stop] <;> rfl)
theorem ok111_0 {ce:CallE}:LoopOK c111 ce [] 111 0 (sub [1,0,1,0,0] (body Tryz.f111)):=by
 intro m hm st k r h
 obtain rfl:l111_0=m:=Option.some.inj hm
 unfold l111_0 at h
 split at h
 ·rename_i t1 g0 t9 t10 t11
  obtain ⟨hg,h⟩:=bif_some h
  have q0:=hg
  obtain rfl:=cE q0
  refine ⟨((t10 - t11:Int).toNat+1),?_⟩
  rw [← h]
  exact loop_run (E111_0 t1 t9 t10) (K111_0 t1 t9 t10 k) (st111_0 t1 t9 t10 ce k) _ t11
 ·cases h
def q111 (xa xb xc:List AV) (a1:Int):Bool:=(ro (runW (R111_0 a1 xc (xc.length:Int)) (((xc.length:Int) - 0:Int).toNat+1) 0) false (sumE (fun _=>true) (fun p56=>true)))
def v111_0 (xa xb xc:List AV) (a1:Int):Int:=(ro (runW (R111_0 a1 xc (xc.length:Int)) (((xc.length:Int) - 0:Int).toNat+1) 0) 0 (sumE (fun _=>0) (fun p56=>p56.1)))
def v111_1 (xa xb xc:List AV) (a1:Int):Bool:=(ro (runW (R111_0 a1 xc (xc.length:Int)) (((xc.length:Int) - 0:Int).toNat+1) 0) false (sumE (fun _=>false) (fun p56=>true)))
theorem e111 (xa xb xc:List AV) (a1:Int):funA c111 0 111 [AV.agg [AV.sl [.int .i64] xa,AV.sl [.int .i64] xb,AV.sl [.int .i64,.int .i64] xc],Ai a1]=(ro (runW (R111_0 a1 xc (xc.length:Int)) (((xc.length:Int) - 0:Int).toNat+1) 0) none (sumE (fun _=>some (AV.tup [Ai 0,AV.bool false])) (fun p56=>some (AV.tup [Ai p56.1,AV.bool true])))):=by kernel_rfl
def m111:TModel
 | [.agg [.sl g0 xa,.sl g1 xb,.sl g2 xc],.int .i64 a1]=>bif ctsEq g0 ([.int .i64]) && ctsEq g1 ([.int .i64]) && ctsEq g2 ([.int .i64,.int .i64]) then some (q111 xa xb xc a1,AV.tup [AV.int .i64 (v111_0 xa xb xc a1),AV.bool (v111_1 xa xb xc a1)]) else none
 | _=>none
theorem k111:Known Tryz.prog 111:=⟨Tryz.f111,Tryz.func111,by kernel_rfl,by kernel_rfl⟩
theorem meets111:Meets Tryz.prog 111 m111:=by
 refine mt (lvl:=0) (cf:=c111) rfl mixed k111 Tryz.func111 (by kernel_rfl) (loops_cons ok111_0 noLoop) allT_nil allM_nil noI fun xs r h=>?_
 unfold m111 at h
 split at h
 ·rename_i g0 xa g1 xb g2 xc a1
  obtain ⟨hg,h⟩:=bif_pair h
  simp only [Bool.and_eq_true] at hg
  obtain ⟨⟨q0,q1⟩,q2⟩:=hg
  obtain rfl:=cE q0
  obtain rfl:=cE q1
  obtain rfl:=cE q2
  obtain ⟨h1,rfl⟩:=pair_inj h
  exact (e111 xa xb xc a1).trans ((brO (fun o:Option (Unit ⊕ (Int × Int × Int))=>some (AV.tup [Ai (ro o 0 (sumE (fun _=>0) (fun p56=>p56.1))),AV.bool (ro o false (sumE (fun _=>false) (fun p56=>true)))])) (brS (fun o:Unit ⊕ (Int × Int × Int)=>some (AV.tup [Ai ((sumE (fun _=>0) (fun p56=>p56.1)) o),AV.bool ((sumE (fun _=>false) (fun p56=>true)) o)])) (fun _=>(fun _=>rfl)) (fun p56=>(fun _=>rfl)))) h1)
 ·cases h
noncomputable def c142:Cfg:=cfg Tryz.prog [(142,999,[4])] [(111,m111)] [] [] []
def q142 (xa xb xc:List AV) (a1:Int):Bool:=q111 xa xb xc a1
def v142_0 (xa xb xc:List AV) (a1:Int):Bool:=(v111_1 xa xb xc a1)
theorem e142 (xa xb xc:List AV) (a1:Int):funA c142 0 142 [AV.agg [AV.sl [.int .i64] xa,AV.sl [.int .i64] xb,AV.sl [.int .i64,.int .i64] xc],Ai a1]=(bif q111 xa xb xc a1 then some (AV.bool (v111_1 xa xb xc a1))
 else none):=by kernel_rfl
def m142:TModel
 | [.agg [.sl g0 xa,.sl g1 xb,.sl g2 xc],.int .i64 a1]=>bif ctsEq g0 ([.int .i64]) && ctsEq g1 ([.int .i64]) && ctsEq g2 ([.int .i64,.int .i64]) then some (q142 xa xb xc a1,AV.bool (v142_0 xa xb xc a1)) else none
 | _=>none
theorem k142:Known Tryz.prog 142:=⟨Tryz.f142,Tryz.func142,by kernel_rfl,by kernel_rfl⟩
theorem meets142:Meets Tryz.prog 142 m142:=by
 refine mt (lvl:=0) (cf:=c142) rfl mixed k142 Tryz.func142 (by kernel_rfl) noLoop (allT_cons meets111 allT_nil) allM_nil noI fun xs r h=>?_
 unfold m142 at h
 split at h
 ·rename_i g0 xa g1 xb g2 xc a1
  obtain ⟨hg,h⟩:=bif_pair h
  simp only [Bool.and_eq_true] at hg
  obtain ⟨⟨q0,q1⟩,q2⟩:=hg
  obtain rfl:=cE q0
  obtain rfl:=cE q1
  obtain rfl:=cE q2
  obtain ⟨h1,rfl⟩:=pair_inj h
  exact (e142 xa xb xc a1).trans ((brL1 (fun _=>rfl)) h1)
 ·cases h
end
end Go.Proofs.YtbmfgibbjchijaaGreat
