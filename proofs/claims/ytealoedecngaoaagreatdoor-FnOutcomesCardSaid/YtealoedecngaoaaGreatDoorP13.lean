import Derived.Test.YtealoedecngaoaaGreatDoorP12
import Derived.Test.YtealoedecngaoaaGreatDoorProg
import Derived.KernelRfl
namespace Go.Proofs.YtealoedecngaoaaGreatDoor
open Go Go.Proofs.VE
set_option linter.unusedVariables false
set_option linter.unusedSimpArgs false
set_option maxRecDepth 100000
set_option maxHeartbeats 4000000
noncomputable section
def G192_0 {β:Type} (t3:Int) (t12:Int) (t13:Int) (h0:List AV) (h1:List AV) (N:((Int × Int × (List AV) × (List AV)))→β) (K:((Int × (List AV) × (List AV)))→β) (d:β):β:=(bif decide (t12≤t13) then (bif q184 h0 t12 t13 t3 then (bif (v184_2 h0 t12 t13 t3) then (bif (decide (0≤t13) && decide (t13<(h0.length:Int))) then (bif (decide (0≤t12) && decide (t12<(h0.length:Int))) then (bif (decide (0≤t12) && decide (t12<(h0.length:Int))) then (bif (decide (0≤t13) && decide (t13<((h0.set t12.toNat (AV.agg [AV.int .i64 (fI (h0.getD t13.toNat .undef) 0)])).length:Int))) then (bif (decide ((h1.length+([AV.agg [AV.int .i64 t12,AV.int .i64 t13]]).length)*16≤140737488355328) && decide ((h1.length+([AV.agg [AV.int .i64 t12,AV.int .i64 t13]]).length)≤140737488355328)) then N ((v184_0 h0 t12 t13 t3),(v184_1 h0 t12 t13 t3),(h0.set t12.toNat (AV.agg [AV.int .i64 (fI (h0.getD t13.toNat .undef) 0)])).set t13.toNat (AV.agg [AV.int .i64 (fI (h0.getD t12.toNat .undef) 0)]),h1++([AV.agg [AV.int .i64 t12,AV.int .i64 t13]]))
 else d)
 else d)
 else d)
 else d)
 else d)
 else N ((v184_0 h0 t12 t13 t3),(v184_1 h0 t12 t13 t3),h0,h1))
 else d)
 else K (t12,h0,h1))
def F192_0 (t3 t12 t13:Int) (h0 h1:List AV):Out ((Int × Int × (List AV) × (List AV))) ((Int × (List AV) × (List AV))):=G192_0 t3 t12 t13 h0 h1 .next .stop .fail
def R192_0 (t3:Int):((Int × Int × (List AV) × (List AV)))→Out ((Int × Int × (List AV) × (List AV))) ((Int × (List AV) × (List AV))):=fun s:Int × Int × (List AV) × (List AV)=>F192_0 t3 s.1 s.2.1 s.2.2.1 s.2.2.2
def E192_0 (t3:Int):((Int × Int × (List AV) × (List AV)))→St:=fun s:Int × Int × (List AV) × (List AV)=>⟨[(3,Ai t3),(10,AV.own [0,10]),(11,AV.own [0,11]),(12,Ai s.1),(13,Ai s.2.1)],[([0,10],⟨false,[.int .i64],s.2.2.1⟩),([0,11],⟨false,[.int .i64,.int .i64],s.2.2.2⟩)]⟩
def K192_0 (t3:Int) (k:Kont):((Int × (List AV) × (List AV)))→Option AV:=fun p:Int × (List AV) × (List AV)=>k (.exit 0) ⟨[(11,AV.own [0,11]),(12,Ai p.1)],[([0,10],⟨false,[.int .i64],p.2.1⟩),([0,11],⟨false,[.int .i64,.int .i64],p.2.2⟩)]⟩
def l192_0:LModel:=fun _ _ st k=>match st with
 | ⟨[(3,.int .i64 t3),(10,.own g0),(11,.own g1),(12,.int .i64 t12),(13,.int .i64 t13)],[(g2,⟨false,g3,h0⟩),(g4,⟨false,g5,h1⟩)]⟩=>bif nmEq g0 ([0,10]) && nmEq g1 ([0,11]) && nmEq g2 ([0,10]) && ctsEq g3 ([.int .i64]) && nmEq g4 ([0,11]) && ctsEq g5 ([.int .i64,.int .i64]) then ro (runW (R192_0 t3) ((t13 - t12+1:Int).toNat+1) (t12,t13,h0,h1)) none (K192_0 t3 k) else none
 | _=>none
noncomputable def c192:Cfg:=cfg Tryz.prog [(192,0,[3,10,11,12,13]),(192,999,[8,9]),(192,1000,[11,12]),(192,1001,[3,10,11,12,13])] [(135,m135),(184,m184)] [] [] [(192,0,l192_0)]
theorem s192_0 (t3:Int) (ce:CallE) (k:Kont) (s:Int × Int × (List AV) × (List AV)) (next:St→Option AV):stepA (codeA c192 ce [] 192 0 (sub [1,1,1,1,0,0,0] (body Tryz.f192))) (normA [] [3,10,11,12,13]) next ((E192_0 t3) s) k=G192_0 t3 s.1 s.2.1 s.2.2.1 s.2.2.2 (fun s=>next ((E192_0 t3) s)) (K192_0 t3 k) none:=by kernel_rfl
theorem st192_0 (t3:Int) (ce:CallE) (k:Kont) (s:(Int × Int × (List AV) × (List AV))) (next:St→Option AV):stepA (codeA c192 ce [] 192 0 (sub [1,1,1,1,0,0,0] (body Tryz.f192))) (normA [] [3,10,11,12,13]) next ((E192_0 t3) s) k=(R192_0 t3 s).el none (fun s=>next ((E192_0 t3) s)) (K192_0 t3 k):=(s192_0 t3 ce k s next).trans (by unfold R192_0;unfold F192_0 G192_0;simp only [el_cond,el_ro,el_sum,el_fail,el_next,el_stop] <;> rfl)
theorem ok192_0 {ce:CallE}:LoopOK c192 ce [] 192 0 (sub [1,1,1,1,0,0,0] (body Tryz.f192)):=by
 intro m hm st k r h
 obtain rfl:l192_0=m:=Option.some.inj hm
 unfold l192_0 at h
 split at h
 ·rename_i t3 g0 g1 t12 t13 g2 g3 h0 g4 g5 h1
  obtain ⟨hg,h⟩:=bif_some h
  simp only [Bool.and_eq_true] at hg
  obtain ⟨⟨⟨⟨⟨q0,q1⟩,q2⟩,q3⟩,q4⟩,q5⟩:=hg
  obtain rfl:=nE q0
  obtain rfl:=nE q1
  obtain rfl:=nE q2
  obtain rfl:=cE q3
  obtain rfl:=nE q4
  obtain rfl:=cE q5
  refine ⟨((t13 - t12+1:Int).toNat+1),?_⟩
  rw [← h]
  exact loop_run (E192_0 t3) (K192_0 t3 k) (st192_0 t3 ce k) _ (t12,t13,h0,h1)
 ·cases h
def q192 (a0:List AV) (a1 a2 a3:Int):Bool:=(bif decide (a1<0) then true else (bif decide (a1 > a2) then true else (bif decide (a2 > (a0.length:Int)) then true else (q135 a0 && (ro (runW (R192_0 a3) (((IntKind.i64.wrap (a2 - 1)) - a1+1:Int).toNat+1) (a1,IntKind.i64.wrap (a2 - 1),(v135_0 a0),([]:List AV))) false (fun p31=>true))))))
def v192_0 (a0:List AV) (a1 a2 a3:Int):List AV:=(bif decide (a1<0) then ([]:List AV) else (bif decide (a1 > a2) then ([]:List AV) else (bif decide (a2 > (a0.length:Int)) then ([]:List AV) else (ro (runW (R192_0 a3) (((IntKind.i64.wrap (a2 - 1)) - a1+1:Int).toNat+1) (a1,IntKind.i64.wrap (a2 - 1),(v135_0 a0),([]:List AV))) [] (fun p31=>p31.2.2)))))
def v192_1 (a0:List AV) (a1 a2 a3:Int):Int:=(bif decide (a1<0) then 0 else (bif decide (a1 > a2) then 0 else (bif decide (a2 > (a0.length:Int)) then 0 else (ro (runW (R192_0 a3) (((IntKind.i64.wrap (a2 - 1)) - a1+1:Int).toNat+1) (a1,IntKind.i64.wrap (a2 - 1),(v135_0 a0),([]:List AV))) 0 (fun p31=>p31.1)))))
theorem e192 (a0:List AV) (a1 a2 a3:Int):funA c192 0 192 [AV.sl [.int .i64] a0,Ai a1,Ai a2,Ai a3]=(bif decide (a1<0) then some (AV.tup [AV.fl [.int .i64,.int .i64] ([]:List AV),Ai 0])
 else (bif decide (a1 > a2) then some (AV.tup [AV.fl [.int .i64,.int .i64] ([]:List AV),Ai 0])
 else (bif decide (a2 > (a0.length:Int)) then some (AV.tup [AV.fl [.int .i64,.int .i64] ([]:List AV),Ai 0])
 else (bif q135 a0 then (ro (runW (R192_0 a3) (((IntKind.i64.wrap (a2 - 1)) - a1+1:Int).toNat+1) (a1,IntKind.i64.wrap (a2 - 1),(v135_0 a0),([]:List AV))) none (fun p31=>some (AV.tup [AV.fl [.int .i64,.int .i64] p31.2.2,Ai p31.1])))
 else none)))):=by kernel_rfl
theorem r192 (a0:List AV) (a1 a2 a3:Int) (h:q192 a0 a1 a2 a3=true):funA c192 0 192 [AV.sl [.int .i64] a0,AV.int .i64 a1,AV.int .i64 a2,AV.int .i64 a3]=some (AV.tup [AV.fl [.int .i64,.int .i64] (v192_0 a0 a1 a2 a3),AV.int .i64 (v192_1 a0 a1 a2 a3)]):=by
 refine (e192 a0 a1 a2 a3).trans ?_
 unfold q192 at h
 unfold v192_0 v192_1
 refine ifG (fun hc=>?_) (fun hc=>?_) <;> first|rw [hc] at h ⊢|rw [hc] at h|rw [hc]|skip
 ·rfl
 ·refine ifG (fun hc=>?_) (fun hc=>?_) <;> first|rw [hc] at h ⊢|rw [hc] at h|rw [hc]|skip
  ·rfl
  ·refine ifG (fun hc=>?_) (fun hc=>?_) <;> first|rw [hc] at h ⊢|rw [hc] at h|rw [hc]|skip
   ·rfl
   ·refine ifG (fun hc=>?_) (fun hc=>?_) <;> first|rw [hc] at h ⊢|rw [hc] at h|rw [hc]|skip
    ·refine roG (fun hc=>?_) (fun r hc=>?_) <;> first|rw [hc] at h ⊢|rw [hc] at h|rw [hc]|skip
     ·exact Bool.noConfusion h
     ·try simp only [ro] at h ⊢
      rfl
    ·first|exact Bool.noConfusion h|exact Bool.noConfusion hc
def m192:TModel
 | [.sl g0 a0,.int .i64 a1,.int .i64 a2,.int .i64 a3]=>bif ctsEq g0 ([.int .i64]) then some (q192 a0 a1 a2 a3,AV.tup [AV.fl [.int .i64,.int .i64] (v192_0 a0 a1 a2 a3),AV.int .i64 (v192_1 a0 a1 a2 a3)]) else none
 | _=>none
theorem k192:Known Tryz.prog 192:=⟨Tryz.f192,Tryz.func192,by kernel_rfl,by kernel_rfl⟩
theorem meets192:Meets Tryz.prog 192 m192:=by
 refine mt (lvl:=0) (cf:=c192) rfl mixed k192 Tryz.func192 (by kernel_rfl) (loops_cons ok192_0 noLoop) (allT_cons meets135 (allT_cons meets184 allT_nil)) allM_nil noI fun xs r h=>?_
 unfold m192 at h
 split at h
 ·rename_i g0 a0 a1 a2 a3
  obtain ⟨hg,h⟩:=bif_pair h
  have q0:=hg
  obtain rfl:=cE q0
  obtain ⟨h1,rfl⟩:=pair_inj h
  exact r192 a0 a1 a2 a3 h1
 ·cases h
def G160_0 {β:Type} (t7:Int) (t21:List AV) (t22:Int) (h2_0:List AV) (h2_1:List AV) (h2_2:List AV) (h3:List AV) (t23:Int) (h0:List AV) (h1:List AV) (N:((Int × (List AV) × (List AV)))→β) (K:(((List AV) × (List AV)) ⊕ ((List AV) × (List AV) × (List AV) × (List AV) × Int × Int × (List AV)))→β) (d:β):β:=by
 refine (?f0:(List AV)→(List AV)→(List AV)→β) (v133_0 h2_0 h2_1 h2_2) (v133_1 h2_0 h2_1 h2_2) (v133_2 h2_0 h2_1 h2_2);intro x1 x2 x3
 exact (bif decide (t23<t22) then (bif (decide (0≤t23) && decide (t23<(t21.length:Int))) then (bif decide (fI (t21.getD t23.toNat .undef) 0<0) then (bif q133 h2_0 h2_1 h2_2 then K (.inr (h0,h1,x1,x2,fI (t21.getD t23.toNat .undef) 0,fI (t21.getD t23.toNat .undef) 1,x3))
 else d)
 else (bif decide (fI (t21.getD t23.toNat .undef) 0 ≥ t7) then (bif q133 h2_0 h2_1 h2_2 then K (.inr (h0,h1,x1,x2,fI (t21.getD t23.toNat .undef) 0,fI (t21.getD t23.toNat .undef) 1,x3))
 else d)
 else (bif decide (fI (t21.getD t23.toNat .undef) 1<0) then (bif q133 h2_0 h2_1 h2_2 then K (.inr (h0,h1,x1,x2,fI (t21.getD t23.toNat .undef) 0,fI (t21.getD t23.toNat .undef) 1,x3))
 else d)
 else (bif decide (fI (t21.getD t23.toNat .undef) 1 ≥ t7) then (bif q133 h2_0 h2_1 h2_2 then K (.inr (h0,h1,x1,x2,fI (t21.getD t23.toNat .undef) 0,fI (t21.getD t23.toNat .undef) 1,x3))
 else d)
 else (bif (decide (0≤fI (t21.getD t23.toNat .undef) 1) && decide (fI (t21.getD t23.toNat .undef) 1<(h0.length:Int))) then (bif (decide (0≤fI (t21.getD t23.toNat .undef) 0) && decide (fI (t21.getD t23.toNat .undef) 0<(h0.length:Int))) then (bif (decide (0≤fI (t21.getD t23.toNat .undef) 0) && decide (fI (t21.getD t23.toNat .undef) 0<(h0.length:Int))) then (bif (decide (0≤fI (t21.getD t23.toNat .undef) 1) && decide (fI (t21.getD t23.toNat .undef) 1<((h0.set (fI (t21.getD t23.toNat .undef) 0).toNat (AV.agg [AV.int .i64 (fI (h0.getD (fI (t21.getD t23.toNat .undef) 1).toNat .undef) 0)])).length:Int))) then (bif (decide (0≤fI (t21.getD t23.toNat .undef) 1) && decide (fI (t21.getD t23.toNat .undef) 1<(h1.length:Int))) then (bif (decide (0≤fI (t21.getD t23.toNat .undef) 0) && decide (fI (t21.getD t23.toNat .undef) 0<(h1.length:Int))) then (bif (decide (0≤fI (t21.getD t23.toNat .undef) 0) && decide (fI (t21.getD t23.toNat .undef) 0<(h1.length:Int))) then (bif (decide (0≤fI (t21.getD t23.toNat .undef) 1) && decide (fI (t21.getD t23.toNat .undef) 1<((h1.set (fI (t21.getD t23.toNat .undef) 0).toNat (AV.agg [AV.int .i64 (fI (h1.getD (fI (t21.getD t23.toNat .undef) 1).toNat .undef) 0)])).length:Int))) then N (IntKind.i64.wrap (t23+1),(h0.set (fI (t21.getD t23.toNat .undef) 0).toNat (AV.agg [AV.int .i64 (fI (h0.getD (fI (t21.getD t23.toNat .undef) 1).toNat .undef) 0)])).set (fI (t21.getD t23.toNat .undef) 1).toNat (AV.agg [AV.int .i64 (fI (h0.getD (fI (t21.getD t23.toNat .undef) 0).toNat .undef) 0)]),(h1.set (fI (t21.getD t23.toNat .undef) 0).toNat (AV.agg [AV.int .i64 (fI (h1.getD (fI (t21.getD t23.toNat .undef) 1).toNat .undef) 0)])).set (fI (t21.getD t23.toNat .undef) 1).toNat (AV.agg [AV.int .i64 (fI (h1.getD (fI (t21.getD t23.toNat .undef) 0).toNat .undef) 0)]))
 else d)
 else d)
 else d)
 else d)
 else d)
 else d)
 else d)
 else d)))))
 else d)
 else K (.inl (h0,h1)))
def F160_0 (t7:Int) (t21:List AV) (t22:Int) (h2_0 h2_1 h2_2 h3:List AV) (t23:Int) (h0 h1:List AV):Out ((Int × (List AV) × (List AV))) (((List AV) × (List AV)) ⊕ ((List AV) × (List AV) × (List AV) × (List AV) × Int × Int × (List AV))):=G160_0 t7 t21 t22 h2_0 h2_1 h2_2 h3 t23 h0 h1 .next .stop .fail
def R160_0 (t7:Int) (t21:List AV) (t22:Int) (h2_0 h2_1 h2_2 h3:List AV):((Int × (List AV) × (List AV)))→Out ((Int × (List AV) × (List AV))) (((List AV) × (List AV)) ⊕ ((List AV) × (List AV) × (List AV) × (List AV) × Int × Int × (List AV))):=fun s:Int × (List AV) × (List AV)=>F160_0 t7 t21 t22 h2_0 h2_1 h2_2 h3 s.1 s.2.1 s.2.2
def E160_0 (t7:Int) (t21:List AV) (t22:Int) (h2_0 h2_1 h2_2 h3:List AV):((Int × (List AV) × (List AV)))→St:=fun s:Int × (List AV) × (List AV)=>⟨[(2,AV.ptr [0,2] 0 0),(4,AV.ptr [0,4] 0 0),(6,AV.ptr [0,6] 0 0),(7,Ai t7),(21,AV.sl [.int .i64,.int .i64] t21),(22,Ai t22),(23,Ai s.1)],[([0,0,6],⟨false,[.int .i64],s.2.1⟩),([0,1,6],⟨false,[.int .i64],s.2.2⟩),([0,2],⟨true,[],[AV.agg [AV.sl [.int .i64] h2_0,AV.sl [.int .i64] h2_1,AV.sl [.int .i64,.int .i64] h2_2]]⟩),([0,2,6],⟨false,[.int .i64,.int .i64],h3⟩),([0,4],⟨true,[],[AV.agg [AV.snil,AV.snil,AV.snil]]⟩),([0,6],⟨true,[],[AV.agg [AV.own [0,0,6],AV.own [0,1,6],AV.own [0,2,6]]]⟩)]⟩
def K160_0 (t7:Int) (t21:List AV) (t22:Int) (h2_0 h2_1 h2_2 h3:List AV) (k:Kont):(((List AV) × (List AV)) ⊕ ((List AV) × (List AV) × (List AV) × (List AV) × Int × Int × (List AV)))→Option AV:=sumE (fun p:(List AV) × (List AV)=>k (.exit 0) ⟨[(4,AV.ptr [0,4] 0 0),(6,AV.ptr [0,6] 0 0)],[([0,0,6],⟨false,[.int .i64],p.1⟩),([0,1,6],⟨false,[.int .i64],p.2⟩),([0,2],⟨true,[],[AV.agg [AV.sl [.int .i64] h2_0,AV.sl [.int .i64] h2_1,AV.sl [.int .i64,.int .i64] h2_2]]⟩),([0,2,6],⟨false,[.int .i64,.int .i64],h3⟩),([0,4],⟨true,[],[AV.agg [AV.snil,AV.snil,AV.snil]]⟩),([0,6],⟨true,[],[AV.agg [AV.own [0,0,6],AV.own [0,1,6],AV.own [0,2,6]]]⟩)]⟩) (fun p:(List AV) × (List AV) × (List AV) × (List AV) × Int × Int × (List AV)=>k .ret ⟨[(4,AV.ptr [0,4] 0 0),(5,AV.bool false)],[([0,0,6],⟨false,[.int .i64],p.1⟩),([0,1,6],⟨false,[.int .i64],p.2.1⟩),([0,1,48],⟨false,[.int .i64],p.2.2.1⟩),([0,2],⟨true,[],[AV.agg [AV.sl [.int .i64] h2_0,AV.sl [.int .i64] h2_1,AV.sl [.int .i64,.int .i64] h2_2]]⟩),([0,2,6],⟨false,[.int .i64,.int .i64],h3⟩),([0,4],⟨true,[],[AV.agg [AV.own [0,1,48],AV.own [1,1,48],AV.own [2,1,48]]]⟩),([0,6],⟨true,[],[AV.agg [AV.own [0,0,6],AV.own [0,1,6],AV.own [0,2,6]]]⟩),([1,1,48],⟨false,[.int .i64],p.2.2.2.1⟩),([1,9],⟨true,[],[AV.agg [Ai p.2.2.2.2.1,Ai p.2.2.2.2.2.1]]⟩),([2,1,48],⟨false,[.int .i64,.int .i64],p.2.2.2.2.2.2⟩)]⟩)
def l160_0:LModel:=fun _ _ st k=>match st with
 | ⟨[(2,.ptr g0 g1 g2),(4,.ptr g3 g4 g5),(6,.ptr g6 g7 g8),(7,.int .i64 t7),(21,.sl g9 t21),(22,.int .i64 t22),(23,.int .i64 t23)],[(g10,⟨false,g11,h0⟩),(g12,⟨false,g13,h1⟩),(g14,⟨true,[],[.agg [.sl g15 h2_0,.sl g16 h2_1,.sl g17 h2_2]]⟩),(g18,⟨false,g19,h3⟩),(g20,⟨true,[],[.agg [.snil,.snil,.snil]]⟩),(g21,⟨true,[],[.agg [.own g22,.own g23,.own g24]]⟩)]⟩=>bif nmEq g0 ([0,2]) && Nat.beq g1 0 && Nat.beq g2 0 && nmEq g3 ([0,4]) && Nat.beq g4 0 && Nat.beq g5 0 && nmEq g6 ([0,6]) && Nat.beq g7 0 && Nat.beq g8 0 && ctsEq g9 ([.int .i64,.int .i64]) && nmEq g10 ([0,0,6]) && ctsEq g11 ([.int .i64]) && nmEq g12 ([0,1,6]) && ctsEq g13 ([.int .i64]) && nmEq g14 ([0,2]) && ctsEq g15 ([.int .i64]) && ctsEq g16 ([.int .i64]) && ctsEq g17 ([.int .i64,.int .i64]) && nmEq g18 ([0,2,6]) && ctsEq g19 ([.int .i64,.int .i64]) && nmEq g20 ([0,4]) && nmEq g21 ([0,6]) && nmEq g22 ([0,0,6]) && nmEq g23 ([0,1,6]) && nmEq g24 ([0,2,6]) then ro (runW (R160_0 t7 t21 t22 h2_0 h2_1 h2_2 h3) ((t22 - t23:Int).toNat+1) (t23,h0,h1)) none (K160_0 t7 t21 t22 h2_0 h2_1 h2_2 h3 k) else none
 | _=>none
noncomputable def c160:Cfg:=cfg Tryz.prog [(160,0,[2,4,6,7,21,22,23]),(160,999,[4,5]),(160,1000,[4,6]),(160,1001,[2,4,6,7,21,22,23])] [(133,m133)] [] [] [(160,0,l160_0)]
theorem s160_0 (t7:Int) (t21:List AV) (t22:Int) (h2_0 h2_1 h2_2 h3:List AV) (ce:CallE) (k:Kont) (s:Int × (List AV) × (List AV)) (next:St→Option AV):stepA (codeA c160 ce [] 160 0 (sub [1,1,1,0,1,0,0] (body Tryz.f160))) (normA [] [2,4,6,7,21,22,23]) next ((E160_0 t7 t21 t22 h2_0 h2_1 h2_2 h3) s) k=G160_0 t7 t21 t22 h2_0 h2_1 h2_2 h3 s.1 s.2.1 s.2.2 (fun s=>next ((E160_0 t7 t21 t22 h2_0 h2_1 h2_2 h3) s)) (K160_0 t7 t21 t22 h2_0 h2_1 h2_2 h3 k) none:=by kernel_rfl
theorem st160_0 (t7:Int) (t21:List AV) (t22:Int) (h2_0 h2_1 h2_2 h3:List AV) (ce:CallE) (k:Kont) (s:(Int × (List AV) × (List AV))) (next:St→Option AV):stepA (codeA c160 ce [] 160 0 (sub [1,1,1,0,1,0,0] (body Tryz.f160))) (normA [] [2,4,6,7,21,22,23]) next ((E160_0 t7 t21 t22 h2_0 h2_1 h2_2 h3) s) k=(R160_0 t7 t21 t22 h2_0 h2_1 h2_2 h3 s).el none (fun s=>next ((E160_0 t7 t21 t22 h2_0 h2_1 h2_2 h3) s)) (K160_0 t7 t21 t22 h2_0 h2_1 h2_2 h3 k):=(s160_0 t7 t21 t22 h2_0 h2_1 h2_2 h3 ce k s next).trans (by unfold R160_0;unfold F160_0 G160_0;simp only [el_cond,el_ro,el_sum,el_fail,el_next,el_stop] <;> rfl)
theorem ok160_0 {ce:CallE}:LoopOK c160 ce [] 160 0 (sub [1,1,1,0,1,0,0] (body Tryz.f160)):=by
 intro m hm st k r h
 obtain rfl:l160_0=m:=Option.some.inj hm
 unfold l160_0 at h
 split at h
 ·rename_i g0 g1 g2 g3 g4 g5 g6 g7 g8 t7 g9 t21 t22 t23 g10 g11 h0 g12 g13 h1 g14 g15 h2_0 g16 h2_1 g17 h2_2 g18 g19 h3 g20 g21 g22 g23 g24
  obtain ⟨hg,h⟩:=bif_some h
  simp only [Bool.and_eq_true] at hg
  obtain ⟨⟨⟨⟨⟨⟨⟨⟨⟨⟨⟨⟨⟨⟨⟨⟨⟨⟨⟨⟨⟨⟨⟨⟨q0,q1⟩,q2⟩,q3⟩,q4⟩,q5⟩,q6⟩,q7⟩,q8⟩,q9⟩,q10⟩,q11⟩,q12⟩,q13⟩,q14⟩,q15⟩,q16⟩,q17⟩,q18⟩,q19⟩,q20⟩,q21⟩,q22⟩,q23⟩,q24⟩:=hg
  obtain rfl:=nE q0
  obtain rfl:=bE q1
  obtain rfl:=bE q2
  obtain rfl:=nE q3
  obtain rfl:=bE q4
  obtain rfl:=bE q5
  obtain rfl:=nE q6
  obtain rfl:=bE q7
  obtain rfl:=bE q8
  obtain rfl:=cE q9
  obtain rfl:=nE q10
  obtain rfl:=cE q11
  obtain rfl:=nE q12
  obtain rfl:=cE q13
  obtain rfl:=nE q14
  obtain rfl:=cE q15
  obtain rfl:=cE q16
  obtain rfl:=cE q17
  obtain rfl:=nE q18
  obtain rfl:=cE q19
  obtain rfl:=nE q20
  obtain rfl:=nE q21
  obtain rfl:=nE q22
  obtain rfl:=nE q23
  obtain rfl:=nE q24
  refine ⟨((t22 - t23:Int).toNat+1),?_⟩
  rw [← h]
  exact loop_run (E160_0 t7 t21 t22 h2_0 h2_1 h2_2 h3) (K160_0 t7 t21 t22 h2_0 h2_1 h2_2 h3 k) (st160_0 t7 t21 t22 h2_0 h2_1 h2_2 h3 ce k) _ (t23,h0,h1)
 ·cases h
def q160 (xa xb xc a1:List AV):Bool:=(q133 xa xb xc && (bif !decide ((xb.length:Int)=(xa.length:Int)) then true else (ro (runW (R160_0 (xa.length:Int) a1 (a1.length:Int) xa xb xc (v133_2 xa xb xc)) (((a1.length:Int) - 0:Int).toNat+1) (0,(v133_0 xa xb xc),(v133_1 xa xb xc))) false (sumE (fun p32=>true) (fun p33=>true)))))
def v160_0 (xa xb xc a1:List AV):List AV:=(bif !decide ((xb.length:Int)=(xa.length:Int)) then (v133_0 xa xb xc) else (ro (runW (R160_0 (xa.length:Int) a1 (a1.length:Int) xa xb xc (v133_2 xa xb xc)) (((a1.length:Int) - 0:Int).toNat+1) (0,(v133_0 xa xb xc),(v133_1 xa xb xc))) [] (sumE (fun p32=>p32.1) (fun p33=>p33.2.2.1))))
def v160_1 (xa xb xc a1:List AV):List AV:=(bif !decide ((xb.length:Int)=(xa.length:Int)) then (v133_1 xa xb xc) else (ro (runW (R160_0 (xa.length:Int) a1 (a1.length:Int) xa xb xc (v133_2 xa xb xc)) (((a1.length:Int) - 0:Int).toNat+1) (0,(v133_0 xa xb xc),(v133_1 xa xb xc))) [] (sumE (fun p32=>p32.2) (fun p33=>p33.2.2.2.1))))
def v160_2 (xa xb xc a1:List AV):List AV:=(bif !decide ((xb.length:Int)=(xa.length:Int)) then (v133_2 xa xb xc) else (ro (runW (R160_0 (xa.length:Int) a1 (a1.length:Int) xa xb xc (v133_2 xa xb xc)) (((a1.length:Int) - 0:Int).toNat+1) (0,(v133_0 xa xb xc),(v133_1 xa xb xc))) [] (sumE (fun p32=>(v133_2 xa xb xc)) (fun p33=>p33.2.2.2.2.2.2))))
def v160_3 (xa xb xc a1:List AV):Bool:=(bif !decide ((xb.length:Int)=(xa.length:Int)) then false else (ro (runW (R160_0 (xa.length:Int) a1 (a1.length:Int) xa xb xc (v133_2 xa xb xc)) (((a1.length:Int) - 0:Int).toNat+1) (0,(v133_0 xa xb xc),(v133_1 xa xb xc))) false (sumE (fun p32=>true) (fun p33=>false))))
theorem e160 (xa xb xc a1:List AV):funA c160 0 160 [AV.agg [AV.sl [.int .i64] xa,AV.sl [.int .i64] xb,AV.sl [.int .i64,.int .i64] xc],AV.sl [.int .i64,.int .i64] a1]=(bif q133 xa xb xc then (bif !decide ((xb.length:Int)=(xa.length:Int)) then some (AV.tup [AV.agg [AV.fl [.int .i64] (v133_0 xa xb xc),AV.fl [.int .i64] (v133_1 xa xb xc),AV.fl [.int .i64,.int .i64] (v133_2 xa xb xc)],AV.bool false])
 else (ro (runW (R160_0 (xa.length:Int) a1 (a1.length:Int) xa xb xc (v133_2 xa xb xc)) (((a1.length:Int) - 0:Int).toNat+1) (0,(v133_0 xa xb xc),(v133_1 xa xb xc))) none (sumE (fun p32=>some (AV.tup [AV.agg [AV.fl [.int .i64] p32.1,AV.fl [.int .i64] p32.2,AV.fl [.int .i64,.int .i64] (v133_2 xa xb xc)],AV.bool true])) (fun p33=>some (AV.tup [AV.agg [AV.fl [.int .i64] p33.2.2.1,AV.fl [.int .i64] p33.2.2.2.1,AV.fl [.int .i64,.int .i64] p33.2.2.2.2.2.2],AV.bool false])))))
 else none):=by kernel_rfl
theorem r160 (xa xb xc a1:List AV) (h:q160 xa xb xc a1=true):funA c160 0 160 [AV.agg [AV.sl [.int .i64] xa,AV.sl [.int .i64] xb,AV.sl [.int .i64,.int .i64] xc],AV.sl [.int .i64,.int .i64] a1]=some (AV.tup [AV.agg [AV.fl [.int .i64] (v160_0 xa xb xc a1),AV.fl [.int .i64] (v160_1 xa xb xc a1),AV.fl [.int .i64,.int .i64] (v160_2 xa xb xc a1)],AV.bool (v160_3 xa xb xc a1)]):=by
 refine (e160 xa xb xc a1).trans ?_
 unfold q160 at h
 unfold v160_0 v160_1 v160_2 v160_3
 refine ifG (fun hc=>?_) (fun hc=>?_) <;> first|rw [hc] at h ⊢|rw [hc] at h|rw [hc]|skip
 ·refine ifG (fun hc=>?_) (fun hc=>?_) <;> first|rw [hc] at h ⊢|rw [hc] at h|rw [hc]|skip
  ·rfl
  ·refine roG (fun hc=>?_) (fun r hc=>?_) <;> first|rw [hc] at h ⊢|rw [hc] at h|rw [hc]|skip
   ·exact Bool.noConfusion h
   ·try simp only [ro] at h ⊢
    cases r with
    | inl p32 =>
     try simp only [sumE] at h ⊢
     rfl
    | inr p33 =>
     try simp only [sumE] at h ⊢
     rfl
 ·first|exact Bool.noConfusion h|exact Bool.noConfusion hc
def m160:TModel
 | [.agg [.sl g0 xa,.sl g1 xb,.sl g2 xc],.sl g3 a1]=>bif ctsEq g0 ([.int .i64]) && ctsEq g1 ([.int .i64]) && ctsEq g2 ([.int .i64,.int .i64]) && ctsEq g3 ([.int .i64,.int .i64]) then some (q160 xa xb xc a1,AV.tup [AV.agg [AV.fl [.int .i64] (v160_0 xa xb xc a1),AV.fl [.int .i64] (v160_1 xa xb xc a1),AV.fl [.int .i64,.int .i64] (v160_2 xa xb xc a1)],AV.bool (v160_3 xa xb xc a1)]) else none
 | _=>none
theorem k160:Known Tryz.prog 160:=⟨Tryz.f160,Tryz.func160,by kernel_rfl,by kernel_rfl⟩
theorem meets160:Meets Tryz.prog 160 m160:=by
 refine mt (lvl:=0) (cf:=c160) rfl mixed k160 Tryz.func160 (by kernel_rfl) (loops_cons ok160_0 noLoop) (allT_cons meets133 allT_nil) allM_nil noI fun xs r h=>?_
 unfold m160 at h
 split at h
 ·rename_i g0 xa g1 xb g2 xc g3 a1
  obtain ⟨hg,h⟩:=bif_pair h
  simp only [Bool.and_eq_true] at hg
  obtain ⟨⟨⟨q0,q1⟩,q2⟩,q3⟩:=hg
  obtain rfl:=cE q0
  obtain rfl:=cE q1
  obtain rfl:=cE q2
  obtain rfl:=cE q3
  obtain ⟨h1,rfl⟩:=pair_inj h
  exact r160 xa xb xc a1 h1
 ·cases h
noncomputable def c207:Cfg:=cfg Tryz.prog [(207,999,[3])] [] [] [] []
def v207_0 (xa xb:Int) (a1:AV):Bool:=decide (xa > fI a1 0)
theorem e207 (xa xb:Int) (a1:AV):funA c207 0 207 [AV.agg [Ai xa,Ai xb],AV.rptr [.int .i64,.int .i64] a1 0]=some (AV.bool (decide (xa > fI a1 0))):=by kernel_rfl
def m207:TModel
 | [.agg [.int .i64 xa,.int .i64 xb],.rptr g0 a1 g1]=>bif ctsEq g0 ([.int .i64,.int .i64]) && Nat.beq g1 0 then some (true,AV.bool (v207_0 xa xb a1)) else none
 | _=>none
theorem k207:Known Tryz.prog 207:=⟨Tryz.f207,Tryz.func207,by kernel_rfl,by kernel_rfl⟩
theorem meets207:Meets Tryz.prog 207 m207:=by
 refine mt (lvl:=0) (cf:=c207) rfl mixed k207 Tryz.func207 (by kernel_rfl) noLoop allT_nil allM_nil noI fun xs r h=>?_
 unfold m207 at h
 split at h
 ·rename_i xa xb g0 a1 g1
  obtain ⟨hg,h⟩:=bif_pair h
  simp only [Bool.and_eq_true] at hg
  obtain ⟨q0,q1⟩:=hg
  obtain rfl:=cE q0
  obtain rfl:=bE q1
  obtain ⟨h1,rfl⟩:=pair_inj h
  exact (e207 xa xb a1).trans (of_tt (fun _=>rfl))
 ·cases h
def G206_0 {β:Type} (t0:List AV) (t1:AV) (t7:Int) (t8:Int) (N:(Int)→β) (K:(Unit ⊕ Int)→β) (d:β):β:=(bif decide (t8<t7) then (bif (decide (0≤t8) && decide (t8<(t0.length:Int))) then (bif (v207_0 (fI (t0.getD t8.toNat .undef) 0) (fI (t0.getD t8.toNat .undef) 1) t1) then K (.inr t8)
 else N (IntKind.i64.wrap (t8+1)))
 else d)
 else K (.inl ()))
def F206_0 (t0:List AV) (t1:AV) (t7 t8:Int):Out (Int) (Unit ⊕ Int):=G206_0 t0 t1 t7 t8 .next .stop .fail
def R206_0 (t0:List AV) (t1:AV) (t7:Int):(Int)→Out (Int) (Unit ⊕ Int):=fun s:Int=>F206_0 t0 t1 t7 s
def E206_0 (t0:List AV) (t1:AV) (t7:Int):(Int)→St:=fun s:Int=>⟨[(0,AV.sl [.int .i64,.int .i64] t0),(1,AV.fn 207 [AV.rptr [.int .i64,.int .i64] t1 0]),(7,Ai t7),(8,Ai s)],[]⟩
def K206_0 (t0:List AV) (t1:AV) (t7:Int) (k:Kont):(Unit ⊕ Int)→Option AV:=sumE (fun _:Unit=>k (.exit 0) ⟨[],[]⟩) (fun p:Int=>k .ret ⟨[(4,Ai p)],[]⟩)
def l206_0:LModel:=fun _ _ st k=>match st with
 | ⟨[(0,.sl g0 t0),(1,.fn g1 [.rptr g2 t1 g3]),(7,.int .i64 t7),(8,.int .i64 t8)],[]⟩=>bif ctsEq g0 ([.int .i64,.int .i64]) && Nat.beq g1 207 && ctsEq g2 ([.int .i64,.int .i64]) && Nat.beq g3 0 then ro (runW (R206_0 t0 t1 t7) ((t7 - t8:Int).toNat+1) t8) none (K206_0 t0 t1 t7 k) else none
 | _=>none
noncomputable def c206:Cfg:=cfg Tryz.prog [(206,0,[0,1,7,8]),(206,999,[4]),(206,1000,[]),(206,1001,[0,1,7,8])] [(207,m207)] [] [] [(206,0,l206_0)]
theorem s206_0 (t0:List AV) (t1:AV) (t7:Int) (ce:CallE) (k:Kont) (s:Int) (next:St→Option AV):stepA (codeA c206 ce [] 206 0 (sub [1,0,1,0,0] (body Tryz.f206))) (normA [] [0,1,7,8]) next ((E206_0 t0 t1 t7) s) k=G206_0 t0 t1 t7 s (fun s=>next ((E206_0 t0 t1 t7) s)) (K206_0 t0 t1 t7 k) none:=by kernel_rfl
theorem st206_0 (t0:List AV) (t1:AV) (t7:Int) (ce:CallE) (k:Kont) (s:Int) (next:St→Option AV):stepA (codeA c206 ce [] 206 0 (sub [1,0,1,0,0] (body Tryz.f206))) (normA [] [0,1,7,8]) next ((E206_0 t0 t1 t7) s) k=(R206_0 t0 t1 t7 s).el none (fun s=>next ((E206_0 t0 t1 t7) s)) (K206_0 t0 t1 t7 k):=(s206_0 t0 t1 t7 ce k s next).trans (by unfold R206_0;unfold F206_0 G206_0;simp only [el_cond,el_ro,el_sum,el_fail,el_next,el_stop] <;> rfl)
theorem ok206_0 {ce:CallE}:LoopOK c206 ce [] 206 0 (sub [1,0,1,0,0] (body Tryz.f206)):=by
 intro m hm st k r h
 obtain rfl:l206_0=m:=Option.some.inj hm
 unfold l206_0 at h
 split at h
 ·rename_i g0 t0 g1 g2 t1 g3 t7 t8
  obtain ⟨hg,h⟩:=bif_some h
  simp only [Bool.and_eq_true] at hg
  obtain ⟨⟨⟨q0,q1⟩,q2⟩,q3⟩:=hg
  obtain rfl:=cE q0
  obtain rfl:=bE q1
  obtain rfl:=cE q2
  obtain rfl:=bE q3
  refine ⟨((t7 - t8:Int).toNat+1),?_⟩
  rw [← h]
  exact loop_run (E206_0 t0 t1 t7) (K206_0 t0 t1 t7 k) (st206_0 t0 t1 t7 ce k) _ t8
 ·cases h
def q206 (a0:List AV) (a1:AV):Bool:=(ro (runW (R206_0 a0 a1 (a0.length:Int)) (((a0.length:Int) - 0:Int).toNat+1) 0) false (sumE (fun _=>true) (fun p35=>true)))
def v206_0 (a0:List AV) (a1:AV):Int:=(ro (runW (R206_0 a0 a1 (a0.length:Int)) (((a0.length:Int) - 0:Int).toNat+1) 0) 0 (sumE (fun _=>(-1)) (fun p35=>p35)))
theorem e206 (a0:List AV) (a1:AV):funA c206 0 206 [AV.sl [.int .i64,.int .i64] a0,AV.fn 207 [AV.rptr [.int .i64,.int .i64] a1 0]]=(ro (runW (R206_0 a0 a1 (a0.length:Int)) (((a0.length:Int) - 0:Int).toNat+1) 0) none (sumE (fun _=>some (Ai (-1))) (fun p35=>some (Ai p35)))):=by kernel_rfl
def m206:TModel
 | [.sl g0 a0,.fn g1 [.rptr g2 a1 g3]]=>bif ctsEq g0 ([.int .i64,.int .i64]) && Nat.beq g1 207 && ctsEq g2 ([.int .i64,.int .i64]) && Nat.beq g3 0 then some (q206 a0 a1,AV.int .i64 (v206_0 a0 a1)) else none
 | _=>none
theorem k206:Known Tryz.prog 206:=⟨Tryz.f206,Tryz.func206,by kernel_rfl,by kernel_rfl⟩
theorem meets206:Meets Tryz.prog 206 m206:=by
 refine mt (lvl:=0) (cf:=c206) rfl mixed k206 Tryz.func206 (by kernel_rfl) (loops_cons ok206_0 noLoop) (allT_cons meets207 allT_nil) allM_nil noI fun xs r h=>?_
 unfold m206 at h
 split at h
 ·rename_i g0 a0 g1 g2 a1 g3
  obtain ⟨hg,h⟩:=bif_pair h
  simp only [Bool.and_eq_true] at hg
  obtain ⟨⟨⟨q0,q1⟩,q2⟩,q3⟩:=hg
  obtain rfl:=cE q0
  obtain rfl:=bE q1
  obtain rfl:=cE q2
  obtain rfl:=bE q3
  obtain ⟨h1,rfl⟩:=pair_inj h
  exact (e206 a0 a1).trans ((brO (fun o:Option (Unit ⊕ Int)=>some (Ai (ro o 0 (sumE (fun _=>(-1)) (fun p35=>p35))))) (brS (fun o:Unit ⊕ Int=>some (Ai ((sumE (fun _=>(-1)) (fun p35=>p35)) o))) (fun _=>(fun _=>rfl)) (fun p35=>(fun _=>rfl)))) h1)
 ·cases h
noncomputable def c183:Cfg:=cfg Tryz.prog [(183,999,[4]),(208,999,[6])] [(133,m133),(206,m206)] [] [208] [] [(208,insA Tryz.prog 25)]
def q183 (xa xb xc:List AV) (ya yb:Int):Bool:=(q133 xa xb xc && (q206 (v133_2 xa xb xc) (AV.agg [AV.int .i64 ya,AV.int .i64 yb]) && (bif decide ((v206_0 (v133_2 xa xb xc) (AV.agg [AV.int .i64 ya,AV.int .i64 yb]))<0) then (decide (0≤((v133_2 xa xb xc).length:Int)) && decide (((v133_2 xa xb xc).length:Int)≤((v133_2 xa xb xc).length:Int)) && decide (((v133_2 xa xb xc).length+1)*16≤140737488355328)) else (decide (0≤(v206_0 (v133_2 xa xb xc) (AV.agg [AV.int .i64 ya,AV.int .i64 yb]))) && decide ((v206_0 (v133_2 xa xb xc) (AV.agg [AV.int .i64 ya,AV.int .i64 yb]))≤((v133_2 xa xb xc).length:Int)) && decide (((v133_2 xa xb xc).length+1)*16≤140737488355328)))))
def v183_0 (xa xb xc:List AV) (ya yb:Int):List AV:=(v133_0 xa xb xc)
def v183_1 (xa xb xc:List AV) (ya yb:Int):List AV:=(v133_1 xa xb xc)
def v183_2 (xa xb xc:List AV) (ya yb:Int):List AV:=(bif decide ((v206_0 (v133_2 xa xb xc) (AV.agg [AV.int .i64 ya,AV.int .i64 yb]))<0) then (v133_2 xa xb xc).take (Int.toNat ((v133_2 xa xb xc).length:Int))++([AV.agg [AV.int .i64 ya,AV.int .i64 yb]])++(v133_2 xa xb xc).drop (Int.toNat ((v133_2 xa xb xc).length:Int)) else (v133_2 xa xb xc).take (Int.toNat (v206_0 (v133_2 xa xb xc) (AV.agg [AV.int .i64 ya,AV.int .i64 yb])))++([AV.agg [AV.int .i64 ya,AV.int .i64 yb]])++(v133_2 xa xb xc).drop (Int.toNat (v206_0 (v133_2 xa xb xc) (AV.agg [AV.int .i64 ya,AV.int .i64 yb]))))
theorem e183 (xa xb xc:List AV) (ya yb:Int):funA c183 1 183 [AV.agg [AV.sl [.int .i64] xa,AV.sl [.int .i64] xb,AV.sl [.int .i64,.int .i64] xc],AV.agg [Ai ya,Ai yb]]=((fun (x1:List AV) (x2:List AV) (x3:List AV)=>((fun (x4:Int)=>(bif q133 xa xb xc then (bif q206 x3 (AV.agg [Ai ya,Ai yb]) then (bif decide (x4<0) then (bif (decide (0≤(x3.length:Int)) && decide ((x3.length:Int)≤(x3.length:Int)) && decide ((x3.length+1)*16≤140737488355328)) then some (AV.agg [AV.fl [.int .i64] x1,AV.fl [.int .i64] x2,AV.fl [.int .i64,.int .i64] (x3.take (Int.toNat (x3.length:Int))++([AV.agg [Ai ya,Ai yb]])++x3.drop (Int.toNat (x3.length:Int)))])
 else none)
 else (bif (decide (0≤x4) && decide (x4≤(x3.length:Int)) && decide ((x3.length+1)*16≤140737488355328)) then some (AV.agg [AV.fl [.int .i64] x1,AV.fl [.int .i64] x2,AV.fl [.int .i64,.int .i64] (x3.take (Int.toNat x4)++([AV.agg [Ai ya,Ai yb]])++x3.drop (Int.toNat x4))])
 else none))
 else none)
 else none)) (v206_0 x3 (AV.agg [Ai ya,Ai yb])))) (v133_0 xa xb xc) (v133_1 xa xb xc) (v133_2 xa xb xc)):=by kernel_rfl
def m183:TModel
 | [.agg [.sl g0 xa,.sl g1 xb,.sl g2 xc],.agg [.int .i64 ya,.int .i64 yb]]=>bif ctsEq g0 ([.int .i64]) && ctsEq g1 ([.int .i64]) && ctsEq g2 ([.int .i64,.int .i64]) then some (q183 xa xb xc ya yb,AV.agg [AV.fl [.int .i64] (v183_0 xa xb xc ya yb),AV.fl [.int .i64] (v183_1 xa xb xc ya yb),AV.fl [.int .i64,.int .i64] (v183_2 xa xb xc ya yb)]) else none
 | _=>none
theorem k183:Known Tryz.prog 183:=⟨Tryz.f183,Tryz.func183,by kernel_rfl,by kernel_rfl⟩
theorem i183_208:InlK Tryz.prog [(183,999,[4]),(208,999,[6])] [(133,m133),(206,m206)] [] [208] [] 208 [(208,insA Tryz.prog 25)]:=⟨⟨Tryz.f208,Tryz.func208,by kernel_rfl,by kernel_rfl⟩,Tryz.f208,[],Tryz.func208,by kernel_rfl,fun ce π=>noLoop⟩
theorem meets183:Meets Tryz.prog 183 m183:=by
 refine mt (hS:=(allS_cons ins208 allS_nil)) (lvl:=1) (cf:=c183) rfl mixed k183 Tryz.func183 (by kernel_rfl) noLoop (allT_cons meets133 (allT_cons meets206 allT_nil)) allM_nil (allI_cons i183_208 noI) fun xs r h=>?_
 unfold m183 at h
 split at h
 ·rename_i g0 xa g1 xb g2 xc ya yb
  obtain ⟨hg,h⟩:=bif_pair h
  simp only [Bool.and_eq_true] at hg
  obtain ⟨⟨q0,q1⟩,q2⟩:=hg
  obtain rfl:=cE q0
  obtain rfl:=cE q1
  obtain rfl:=cE q2
  obtain ⟨h1,rfl⟩:=pair_inj h
  exact (e183 xa xb xc ya yb).trans ((brL (brL (br (fun b=>some (AV.agg [AV.fl [.int .i64] (v133_0 xa xb xc),AV.fl [.int .i64] (v133_1 xa xb xc),AV.fl [.int .i64,.int .i64] (bif b then (v133_2 xa xb xc).take (Int.toNat ((v133_2 xa xb xc).length:Int))++([AV.agg [Ai ya,Ai yb]])++(v133_2 xa xb xc).drop (Int.toNat ((v133_2 xa xb xc).length:Int)) else (v133_2 xa xb xc).take (Int.toNat (v206_0 (v133_2 xa xb xc) (AV.agg [Ai ya,Ai yb])))++([AV.agg [Ai ya,Ai yb]])++(v133_2 xa xb xc).drop (Int.toNat (v206_0 (v133_2 xa xb xc) (AV.agg [Ai ya,Ai yb]))))])) (brL1 (fun _=>rfl)) (brL1 (fun _=>rfl))))) h1)
 ·cases h
noncomputable def c168:Cfg:=cfg Tryz.prog [(168,999,[4,5])] [(133,m133),(143,m143),(144,m144),(160,m160),(183,m183),(192,m192)] [] [] []
def q168 (xa xb xc:List AV) (a1:Int):Bool:=(q143 xa xb xc a1 && (bif (v143_0 xa xb xc a1) then q133 xa xb xc else (q144 xa xb xc a1 && (q192 xa (v144_0 xa xb xc a1) (v144_1 xa xb xc a1) a1 && (q160 xa xb xc (v192_0 xa (v144_0 xa xb xc a1) (v144_1 xa xb xc a1) a1) && q183 (v160_0 xa xb xc (v192_0 xa (v144_0 xa xb xc a1) (v144_1 xa xb xc a1) a1)) (v160_1 xa xb xc (v192_0 xa (v144_0 xa xb xc a1) (v144_1 xa xb xc a1) a1)) (v160_2 xa xb xc (v192_0 xa (v144_0 xa xb xc a1) (v144_1 xa xb xc a1) a1)) a1 (v192_1 xa (v144_0 xa xb xc a1) (v144_1 xa xb xc a1) a1))))))
def v168_0 (xa xb xc:List AV) (a1:Int):List AV:=(bif (v143_0 xa xb xc a1) then (v133_0 xa xb xc) else (v183_0 (v160_0 xa xb xc (v192_0 xa (v144_0 xa xb xc a1) (v144_1 xa xb xc a1) a1)) (v160_1 xa xb xc (v192_0 xa (v144_0 xa xb xc a1) (v144_1 xa xb xc a1) a1)) (v160_2 xa xb xc (v192_0 xa (v144_0 xa xb xc a1) (v144_1 xa xb xc a1) a1)) a1 (v192_1 xa (v144_0 xa xb xc a1) (v144_1 xa xb xc a1) a1)))
def v168_1 (xa xb xc:List AV) (a1:Int):List AV:=(bif (v143_0 xa xb xc a1) then (v133_1 xa xb xc) else (v183_1 (v160_0 xa xb xc (v192_0 xa (v144_0 xa xb xc a1) (v144_1 xa xb xc a1) a1)) (v160_1 xa xb xc (v192_0 xa (v144_0 xa xb xc a1) (v144_1 xa xb xc a1) a1)) (v160_2 xa xb xc (v192_0 xa (v144_0 xa xb xc a1) (v144_1 xa xb xc a1) a1)) a1 (v192_1 xa (v144_0 xa xb xc a1) (v144_1 xa xb xc a1) a1)))
def v168_2 (xa xb xc:List AV) (a1:Int):List AV:=(bif (v143_0 xa xb xc a1) then (v133_2 xa xb xc) else (v183_2 (v160_0 xa xb xc (v192_0 xa (v144_0 xa xb xc a1) (v144_1 xa xb xc a1) a1)) (v160_1 xa xb xc (v192_0 xa (v144_0 xa xb xc a1) (v144_1 xa xb xc a1) a1)) (v160_2 xa xb xc (v192_0 xa (v144_0 xa xb xc a1) (v144_1 xa xb xc a1) a1)) a1 (v192_1 xa (v144_0 xa xb xc a1) (v144_1 xa xb xc a1) a1)))
def v168_3 (xa xb xc:List AV) (a1:Int):List AV:=(bif (v143_0 xa xb xc a1) then ([]:List AV) else (v192_0 xa (v144_0 xa xb xc a1) (v144_1 xa xb xc a1) a1))
theorem e168 (xa xb xc:List AV) (a1:Int):funA c168 0 168 [AV.agg [AV.sl [.int .i64] xa,AV.sl [.int .i64] xb,AV.sl [.int .i64,.int .i64] xc],Ai a1]=((fun (x1:Int) (x2:Int)=>((fun (x3:List AV) (x4:Int)=>((fun (x5:List AV) (x6:List AV) (x7:List AV)=>(bif q143 xa xb xc a1 then (bif (v143_0 xa xb xc a1) then (bif q133 xa xb xc then some (AV.tup [AV.agg [AV.fl [.int .i64] (v133_0 xa xb xc),AV.fl [.int .i64] (v133_1 xa xb xc),AV.fl [.int .i64,.int .i64] (v133_2 xa xb xc)],AV.fl [.int .i64,.int .i64] ([]:List AV)])
 else none)
 else (bif q144 xa xb xc a1 then (bif q192 xa x1 x2 a1 then (bif q160 xa xb xc x3 then (bif q183 x5 x6 x7 a1 x4 then some (AV.tup [AV.agg [AV.fl [.int .i64] (v183_0 x5 x6 x7 a1 x4),AV.fl [.int .i64] (v183_1 x5 x6 x7 a1 x4),AV.fl [.int .i64,.int .i64] (v183_2 x5 x6 x7 a1 x4)],AV.fl [.int .i64,.int .i64] x3])
 else none)
 else none)
 else none)
 else none))
 else none)) (v160_0 xa xb xc x3) (v160_1 xa xb xc x3) (v160_2 xa xb xc x3))) (v192_0 xa x1 x2 a1) (v192_1 xa x1 x2 a1))) (v144_0 xa xb xc a1) (v144_1 xa xb xc a1)):=by kernel_rfl
theorem r168 (xa xb xc:List AV) (a1:Int) (h:q168 xa xb xc a1=true):funA c168 0 168 [AV.agg [AV.sl [.int .i64] xa,AV.sl [.int .i64] xb,AV.sl [.int .i64,.int .i64] xc],AV.int .i64 a1]=some (AV.tup [AV.agg [AV.fl [.int .i64] (v168_0 xa xb xc a1),AV.fl [.int .i64] (v168_1 xa xb xc a1),AV.fl [.int .i64,.int .i64] (v168_2 xa xb xc a1)],AV.fl [.int .i64,.int .i64] (v168_3 xa xb xc a1)]):=by
 refine (e168 xa xb xc a1).trans ?_
 unfold q168 at h
 unfold v168_0 v168_1 v168_2 v168_3
 refine ifG (fun hc=>?_) (fun hc=>?_) <;> first|rw [hc] at h ⊢|rw [hc] at h|rw [hc]|skip
 ·refine ifG (fun hc=>?_) (fun hc=>?_) <;> first|rw [hc] at h ⊢|rw [hc] at h|rw [hc]|skip
  ·refine ifG (fun hc=>?_) (fun hc=>?_) <;> first|rw [hc] at h ⊢|rw [hc] at h|rw [hc]|skip
   ·rfl
   ·first|exact Bool.noConfusion h|exact Bool.noConfusion hc
  ·refine ifG (fun hc=>?_) (fun hc=>?_) <;> first|rw [hc] at h ⊢|rw [hc] at h|rw [hc]|skip
   ·refine ifG (fun hc=>?_) (fun hc=>?_) <;> first|rw [hc] at h ⊢|rw [hc] at h|rw [hc]|skip
    ·refine ifG (fun hc=>?_) (fun hc=>?_) <;> first|rw [hc] at h ⊢|rw [hc] at h|rw [hc]|skip
     ·refine ifG (fun hc=>?_) (fun hc=>?_) <;> first|rw [hc] at h ⊢|rw [hc] at h|rw [hc]|skip
      ·rfl
      ·first|exact Bool.noConfusion h|exact Bool.noConfusion hc
     ·first|exact Bool.noConfusion h|exact Bool.noConfusion hc
    ·first|exact Bool.noConfusion h|exact Bool.noConfusion hc
   ·first|exact Bool.noConfusion h|exact Bool.noConfusion hc
 ·first|exact Bool.noConfusion h|exact Bool.noConfusion hc
def m168:TModel
 | [.agg [.sl g0 xa,.sl g1 xb,.sl g2 xc],.int .i64 a1]=>bif ctsEq g0 ([.int .i64]) && ctsEq g1 ([.int .i64]) && ctsEq g2 ([.int .i64,.int .i64]) then some (q168 xa xb xc a1,AV.tup [AV.agg [AV.fl [.int .i64] (v168_0 xa xb xc a1),AV.fl [.int .i64] (v168_1 xa xb xc a1),AV.fl [.int .i64,.int .i64] (v168_2 xa xb xc a1)],AV.fl [.int .i64,.int .i64] (v168_3 xa xb xc a1)]) else none
 | _=>none
theorem k168:Known Tryz.prog 168:=⟨Tryz.f168,Tryz.func168,by kernel_rfl,by kernel_rfl⟩
theorem meets168:Meets Tryz.prog 168 m168:=by
 refine mt (lvl:=0) (cf:=c168) rfl mixed k168 Tryz.func168 (by kernel_rfl) noLoop (allT_cons meets133 (allT_cons meets143 (allT_cons meets144 (allT_cons meets160 (allT_cons meets183 (allT_cons meets192 allT_nil)))))) allM_nil noI fun xs r h=>?_
 unfold m168 at h
 split at h
 ·rename_i g0 xa g1 xb g2 xc a1
  obtain ⟨hg,h⟩:=bif_pair h
  simp only [Bool.and_eq_true] at hg
  obtain ⟨⟨q0,q1⟩,q2⟩:=hg
  obtain rfl:=cE q0
  obtain rfl:=cE q1
  obtain rfl:=cE q2
  obtain ⟨h1,rfl⟩:=pair_inj h
  exact r168 xa xb xc a1 h1
 ·cases h
noncomputable def c177:Cfg:=cfg Tryz.prog [(177,999,[])] [] [] [] []
theorem e177 (a0 a1 a2 a3 a4:Int):funA c177 0 177 [Ai a0,Ai a1,Ai a2,Ai a3,Ai a4]=some (AV.tup []):=by kernel_rfl
def m177:TModel
 | [.int .i64 a0,.int .i64 a1,.int .i64 a2,.int .i64 a3,.int .i64 a4]=>some (true,AV.tup [])
 | _=>none
theorem k177:Known Tryz.prog 177:=⟨Tryz.f177,Tryz.func177,by kernel_rfl,by kernel_rfl⟩
theorem meets177:Meets Tryz.prog 177 m177:=by
 refine mt (lvl:=0) (cf:=c177) rfl mixed k177 Tryz.func177 (by kernel_rfl) noLoop allT_nil allM_nil noI fun xs r h=>?_
 unfold m177 at h
 split at h
 ·rename_i a0 a1 a2 a3 a4
  obtain ⟨h1,rfl⟩:=pair_inj h
  exact (e177 a0 a1 a2 a3 a4).trans (of_tt (fun _=>rfl))
 ·cases h
noncomputable def c203:Cfg:=cfg Tryz.prog [(203,999,[])] [(177,m177)] [] [] []
theorem e203 (a0 a1 a2 a3:Int) (a4 a5:AV):funA c203 0 203 [Ai a0,Ai a1,Ai a2,Ai a3,AV.rptr [.fnc 177] a4 0,AV.rptr [.int .i64] a5 0]=some (AV.tup []):=by kernel_rfl
def m203:TModel
 | [.int .i64 a0,.int .i64 a1,.int .i64 a2,.int .i64 a3,.rptr g0 a4 g1,.rptr g2 a5 g3]=>bif ctsEq g0 ([.fnc 177]) && Nat.beq g1 0 && ctsEq g2 ([.int .i64]) && Nat.beq g3 0 then some (true,AV.tup []) else none
 | _=>none
theorem k203:Known Tryz.prog 203:=⟨Tryz.f203,Tryz.func203,by kernel_rfl,by kernel_rfl⟩
theorem meets203:Meets Tryz.prog 203 m203:=by
 refine mt (lvl:=0) (cf:=c203) rfl mixed k203 Tryz.func203 (by kernel_rfl) noLoop (allT_cons meets177 allT_nil) allM_nil noI fun xs r h=>?_
 unfold m203 at h
 split at h
 ·rename_i a0 a1 a2 a3 g0 a4 g1 g2 a5 g3
  obtain ⟨hg,h⟩:=bif_pair h
  simp only [Bool.and_eq_true] at hg
  obtain ⟨⟨⟨q0,q1⟩,q2⟩,q3⟩:=hg
  obtain rfl:=cE q0
  obtain rfl:=bE q1
  obtain rfl:=cE q2
  obtain rfl:=bE q3
  obtain ⟨h1,rfl⟩:=pair_inj h
  exact (e203 a0 a1 a2 a3 a4 a5).trans (of_tt (fun _=>rfl))
 ·cases h
def G224_0_s0 {β:Type} (t2:Int) (h2_0:Int) (h2_1:Int) (h2_2:Int) (h4_0:Int) (h4_1:Int) (h4_2:Int) (h5:Int) (h6:List AV) (h7:List AV) (h8:List AV) (h10:Int) (N:((Int × Int × Int × Int × Int × Int × Int × (List AV) × (List AV) × (List AV) × Int) ⊕ ((List AV) × (List AV) × (List AV) × Int × Int × Int × Int × Int × Int × Int × (List AV) × (List AV) × (List AV) × Int))→β) (K:((Int × Int × Int × Int × Int × Int × Int × (List AV) × (List AV) × (List AV) × Int) ⊕ ((List AV) × (List AV) × (List AV) × Int × Int × Int × Int × Int × Int × Int × (List AV) × (List AV) × (List AV) × Int))→β) (d:β):β:=by
 refine (?f0:Int→Int→β) (v144_0 h6 h7 h8 t2) (v144_1 h6 h7 h8 t2);intro x1 x2
 refine (?f1:Int→Int→Int→Int→β) (v243_0 h6 h7 h8 h2_0 h2_1 h2_2 x1 x2) (v243_1 h6 h7 h8 h2_0 h2_1 h2_2 x1 x2) (v243_2 h6 h7 h8 h2_0 h2_1 h2_2 x1 x2) (v243_3 h6 h7 h8 h2_0 h2_1 h2_2 x1 x2);intro x3 x4 x5 x6
 refine (?f2:(List AV)→(List AV)→(List AV)→(List AV)→β) (v168_0 h6 h7 h8 x3) (v168_1 h6 h7 h8 x3) (v168_2 h6 h7 h8 x3) (v168_3 h6 h7 h8 x3);intro x7 x8 x9 x10
 exact (bif !decide (h2_0=0) then (bif q143 h6 h7 h8 t2 then (bif !(v143_0 h6 h7 h8 t2) then (bif q144 h6 h7 h8 t2 then (bif decide (IntKind.i64.wrap (x2 - x1)≤h2_1) then K (.inl (h2_0,h2_1,h2_2,h4_0,h4_1,h4_2,h5,h6,h7,h8,h10))
 else (bif q243 h6 h7 h8 h2_0 h2_1 h2_2 x1 x2 then (bif q143 h6 h7 h8 x3 then (bif (v143_0 h6 h7 h8 x3) then (bif q143 h6 h7 h8 (IntKind.i64.wrap (x3+1)) then (bif (v143_0 h6 h7 h8 (IntKind.i64.wrap (x3+1))) then N (.inl (x4,x5,x6,h4_0,h4_1,h4_2,h5,h6,h7,h8,h10))
 else (bif q144 h6 h7 h8 (IntKind.i64.wrap (x3+1)) then (bif q168 h6 h7 h8 (IntKind.i64.wrap (x3+1)) then N (.inr ((v168_0 h6 h7 h8 (IntKind.i64.wrap (x3+1))),(v168_1 h6 h7 h8 (IntKind.i64.wrap (x3+1))),(v168_2 h6 h7 h8 (IntKind.i64.wrap (x3+1))),x4,x5,x6,h4_0,h4_1,h4_2,IntKind.i64.wrap (h5+((v168_3 h6 h7 h8 (IntKind.i64.wrap (x3+1))).length:Int)),h6,h7,h8,h10))
 else d)
 else d))
 else d)
 else (bif q144 h6 h7 h8 x3 then (bif q168 h6 h7 h8 x3 then (bif q143 x7 x8 x9 (IntKind.i64.wrap (x3+1)) then (bif (v143_0 x7 x8 x9 (IntKind.i64.wrap (x3+1))) then N (.inr (x7,x8,x9,x4,x5,x6,h4_0,h4_1,h4_2,IntKind.i64.wrap (h5+(x10.length:Int)),h6,h7,h8,h10))
 else (bif q144 x7 x8 x9 (IntKind.i64.wrap (x3+1)) then (bif q168 x7 x8 x9 (IntKind.i64.wrap (x3+1)) then N (.inr ((v168_0 x7 x8 x9 (IntKind.i64.wrap (x3+1))),(v168_1 x7 x8 x9 (IntKind.i64.wrap (x3+1))),(v168_2 x7 x8 x9 (IntKind.i64.wrap (x3+1))),x4,x5,x6,h4_0,h4_1,h4_2,IntKind.i64.wrap (IntKind.i64.wrap (h5+(x10.length:Int))+((v168_3 x7 x8 x9 (IntKind.i64.wrap (x3+1))).length:Int)),h6,h7,h8,h10))
 else d)
 else d))
 else d)
 else d)
 else d))
 else d)
 else d))
 else d)
 else K (.inl (h2_0,h2_1,h2_2,h4_0,h4_1,h4_2,h5,h6,h7,h8,h10)))
 else d)
 else K (.inl (h2_0,h2_1,h2_2,h4_0,h4_1,h4_2,h5,h6,h7,h8,h10)))
def F224_0_s0 (t2 h2_0 h2_1 h2_2 h4_0 h4_1 h4_2 h5:Int) (h6 h7 h8:List AV) (h10:Int):Out ((Int × Int × Int × Int × Int × Int × Int × (List AV) × (List AV) × (List AV) × Int) ⊕ ((List AV) × (List AV) × (List AV) × Int × Int × Int × Int × Int × Int × Int × (List AV) × (List AV) × (List AV) × Int)) ((Int × Int × Int × Int × Int × Int × Int × (List AV) × (List AV) × (List AV) × Int) ⊕ ((List AV) × (List AV) × (List AV) × Int × Int × Int × Int × Int × Int × Int × (List AV) × (List AV) × (List AV) × Int)):=G224_0_s0 t2 h2_0 h2_1 h2_2 h4_0 h4_1 h4_2 h5 h6 h7 h8 h10 .next .stop .fail
def G224_0_s1 {β:Type} (t2:Int) (h0:List AV) (h1:List AV) (h2:List AV) (h5_0:Int) (h5_1:Int) (h5_2:Int) (h7_0:Int) (h7_1:Int) (h7_2:Int) (h8:Int) (h9:List AV) (h10:List AV) (h11:List AV) (h13:Int) (N:((Int × Int × Int × Int × Int × Int × Int × (List AV) × (List AV) × (List AV) × Int) ⊕ ((List AV) × (List AV) × (List AV) × Int × Int × Int × Int × Int × Int × Int × (List AV) × (List AV) × (List AV) × Int))→β) (K:((Int × Int × Int × Int × Int × Int × Int × (List AV) × (List AV) × (List AV) × Int) ⊕ ((List AV) × (List AV) × (List AV) × Int × Int × Int × Int × Int × Int × Int × (List AV) × (List AV) × (List AV) × Int))→β) (d:β):β:=by
 refine (?f0:Int→Int→β) (v144_0 h0 h1 h2 t2) (v144_1 h0 h1 h2 t2);intro x1 x2
 refine (?f1:Int→Int→Int→Int→β) (v243_0 h0 h1 h2 h5_0 h5_1 h5_2 x1 x2) (v243_1 h0 h1 h2 h5_0 h5_1 h5_2 x1 x2) (v243_2 h0 h1 h2 h5_0 h5_1 h5_2 x1 x2) (v243_3 h0 h1 h2 h5_0 h5_1 h5_2 x1 x2);intro x3 x4 x5 x6
 refine (?f2:(List AV)→(List AV)→(List AV)→(List AV)→β) (v168_0 h0 h1 h2 x3) (v168_1 h0 h1 h2 x3) (v168_2 h0 h1 h2 x3) (v168_3 h0 h1 h2 x3);intro x7 x8 x9 x10
 exact (bif !decide (h5_0=0) then (bif q143 h0 h1 h2 t2 then (bif !(v143_0 h0 h1 h2 t2) then (bif q144 h0 h1 h2 t2 then (bif decide (IntKind.i64.wrap (x2 - x1)≤h5_1) then K (.inr (h0,h1,h2,h5_0,h5_1,h5_2,h7_0,h7_1,h7_2,h8,h9,h10,h11,h13))
 else (bif q243 h0 h1 h2 h5_0 h5_1 h5_2 x1 x2 then (bif q143 h0 h1 h2 x3 then (bif (v143_0 h0 h1 h2 x3) then (bif q143 h0 h1 h2 (IntKind.i64.wrap (x3+1)) then (bif (v143_0 h0 h1 h2 (IntKind.i64.wrap (x3+1))) then N (.inr (h0,h1,h2,x4,x5,x6,h7_0,h7_1,h7_2,h8,h9,h10,h11,h13))
 else (bif q144 h0 h1 h2 (IntKind.i64.wrap (x3+1)) then (bif q168 h0 h1 h2 (IntKind.i64.wrap (x3+1)) then N (.inr ((v168_0 h0 h1 h2 (IntKind.i64.wrap (x3+1))),(v168_1 h0 h1 h2 (IntKind.i64.wrap (x3+1))),(v168_2 h0 h1 h2 (IntKind.i64.wrap (x3+1))),x4,x5,x6,h7_0,h7_1,h7_2,IntKind.i64.wrap (h8+((v168_3 h0 h1 h2 (IntKind.i64.wrap (x3+1))).length:Int)),h9,h10,h11,h13))
 else d)
 else d))
 else d)
 else (bif q144 h0 h1 h2 x3 then (bif q168 h0 h1 h2 x3 then (bif q143 x7 x8 x9 (IntKind.i64.wrap (x3+1)) then (bif (v143_0 x7 x8 x9 (IntKind.i64.wrap (x3+1))) then N (.inr (x7,x8,x9,x4,x5,x6,h7_0,h7_1,h7_2,IntKind.i64.wrap (h8+(x10.length:Int)),h9,h10,h11,h13))
 else (bif q144 x7 x8 x9 (IntKind.i64.wrap (x3+1)) then (bif q168 x7 x8 x9 (IntKind.i64.wrap (x3+1)) then N (.inr ((v168_0 x7 x8 x9 (IntKind.i64.wrap (x3+1))),(v168_1 x7 x8 x9 (IntKind.i64.wrap (x3+1))),(v168_2 x7 x8 x9 (IntKind.i64.wrap (x3+1))),x4,x5,x6,h7_0,h7_1,h7_2,IntKind.i64.wrap (IntKind.i64.wrap (h8+(x10.length:Int))+((v168_3 x7 x8 x9 (IntKind.i64.wrap (x3+1))).length:Int)),h9,h10,h11,h13))
 else d)
 else d))
 else d)
 else d)
 else d))
 else d)
 else d))
 else d)
 else K (.inr (h0,h1,h2,h5_0,h5_1,h5_2,h7_0,h7_1,h7_2,h8,h9,h10,h11,h13)))
 else d)
 else K (.inr (h0,h1,h2,h5_0,h5_1,h5_2,h7_0,h7_1,h7_2,h8,h9,h10,h11,h13)))
def F224_0_s1 (t2:Int) (h0 h1 h2:List AV) (h5_0 h5_1 h5_2 h7_0 h7_1 h7_2 h8:Int) (h9 h10 h11:List AV) (h13:Int):Out ((Int × Int × Int × Int × Int × Int × Int × (List AV) × (List AV) × (List AV) × Int) ⊕ ((List AV) × (List AV) × (List AV) × Int × Int × Int × Int × Int × Int × Int × (List AV) × (List AV) × (List AV) × Int)) ((Int × Int × Int × Int × Int × Int × Int × (List AV) × (List AV) × (List AV) × Int) ⊕ ((List AV) × (List AV) × (List AV) × Int × Int × Int × Int × Int × Int × Int × (List AV) × (List AV) × (List AV) × Int)):=G224_0_s1 t2 h0 h1 h2 h5_0 h5_1 h5_2 h7_0 h7_1 h7_2 h8 h9 h10 h11 h13 .next .stop .fail
def R224_0 (t2:Int):((Int × Int × Int × Int × Int × Int × Int × (List AV) × (List AV) × (List AV) × Int) ⊕ ((List AV) × (List AV) × (List AV) × Int × Int × Int × Int × Int × Int × Int × (List AV) × (List AV) × (List AV) × Int))→Out ((Int × Int × Int × Int × Int × Int × Int × (List AV) × (List AV) × (List AV) × Int) ⊕ ((List AV) × (List AV) × (List AV) × Int × Int × Int × Int × Int × Int × Int × (List AV) × (List AV) × (List AV) × Int)) ((Int × Int × Int × Int × Int × Int × Int × (List AV) × (List AV) × (List AV) × Int) ⊕ ((List AV) × (List AV) × (List AV) × Int × Int × Int × Int × Int × Int × Int × (List AV) × (List AV) × (List AV) × Int)):=sumE (fun s:Int × Int × Int × Int × Int × Int × Int × (List AV) × (List AV) × (List AV) × Int=>F224_0_s0 t2 s.1 s.2.1 s.2.2.1 s.2.2.2.1 s.2.2.2.2.1 s.2.2.2.2.2.1 s.2.2.2.2.2.2.1 s.2.2.2.2.2.2.2.1 s.2.2.2.2.2.2.2.2.1 s.2.2.2.2.2.2.2.2.2.1 s.2.2.2.2.2.2.2.2.2.2) (fun s:(List AV) × (List AV) × (List AV) × Int × Int × Int × Int × Int × Int × Int × (List AV) × (List AV) × (List AV) × Int=>F224_0_s1 t2 s.1 s.2.1 s.2.2.1 s.2.2.2.1 s.2.2.2.2.1 s.2.2.2.2.2.1 s.2.2.2.2.2.2.1 s.2.2.2.2.2.2.2.1 s.2.2.2.2.2.2.2.2.1 s.2.2.2.2.2.2.2.2.2.1 s.2.2.2.2.2.2.2.2.2.2.1 s.2.2.2.2.2.2.2.2.2.2.2.1 s.2.2.2.2.2.2.2.2.2.2.2.2.1 s.2.2.2.2.2.2.2.2.2.2.2.2.2)
def E224_0 (t2:Int):((Int × Int × Int × Int × Int × Int × Int × (List AV) × (List AV) × (List AV) × Int) ⊕ ((List AV) × (List AV) × (List AV) × Int × Int × Int × Int × Int × Int × Int × (List AV) × (List AV) × (List AV) × Int))→St:=sumE (fun s:Int × Int × Int × Int × Int × Int × Int × (List AV) × (List AV) × (List AV) × Int=>⟨[(2,Ai t2),(4,AV.ptr [0,4,0] 0 0),(5,AV.ptr [0,5,0] 0 0),(8,AV.ptr [0,8,0] 0 0),(9,AV.ptr [0,9,0] 0 0),(11,AV.ptr [0,11,0] 0 0),(12,AV.fn 242 [AV.ptr [0,4,0] 0 0,AV.ptr [0,11,0] 0 0,AV.ptr [0,2,12,0] 0 0])],[([0,2,12,0],⟨true,[],[AV.fn 203 [AV.ptr [4] 0 0,AV.ptr [5] 0 0]]⟩),([0,4,0],⟨true,[],[AV.agg [AV.own [1],AV.own [2],AV.own [3]]]⟩),([0,5,0],⟨true,[],[AV.agg [Ai s.1,Ai s.2.1,Ai s.2.2.1]]⟩),([0,8,0],⟨true,[],[AV.agg [AV.snil,AV.snil,AV.snil]]⟩),([0,9,0],⟨true,[],[AV.agg [Ai s.2.2.2.1,Ai s.2.2.2.2.1,Ai s.2.2.2.2.2.1]]⟩),([0,11,0],⟨true,[],[Ai s.2.2.2.2.2.2.1]⟩),([1],⟨false,[.int .i64],s.2.2.2.2.2.2.2.1⟩),([2],⟨false,[.int .i64],s.2.2.2.2.2.2.2.2.1⟩),([3],⟨false,[.int .i64,.int .i64],s.2.2.2.2.2.2.2.2.2.1⟩),([4],⟨true,[],[AV.fn 177 []]⟩),([5],⟨true,[],[Ai s.2.2.2.2.2.2.2.2.2.2]⟩)]⟩) (fun s:(List AV) × (List AV) × (List AV) × Int × Int × Int × Int × Int × Int × Int × (List AV) × (List AV) × (List AV) × Int=>⟨[(2,Ai t2),(4,AV.ptr [0,4,0] 0 0),(5,AV.ptr [0,5,0] 0 0),(8,AV.ptr [0,8,0] 0 0),(9,AV.ptr [0,9,0] 0 0),(11,AV.ptr [0,11,0] 0 0),(12,AV.fn 242 [AV.ptr [0,4,0] 0 0,AV.ptr [0,11,0] 0 0,AV.ptr [0,2,12,0] 0 0])],[([0,0,4,0],⟨false,[.int .i64],s.1⟩),([0,1,4,0],⟨false,[.int .i64],s.2.1⟩),([0,2,4,0],⟨false,[.int .i64,.int .i64],s.2.2.1⟩),([0,2,12,0],⟨true,[],[AV.fn 203 [AV.ptr [4] 0 0,AV.ptr [5] 0 0]]⟩),([0,4,0],⟨true,[],[AV.agg [AV.own [0,0,4,0],AV.own [0,1,4,0],AV.own [0,2,4,0]]]⟩),([0,5,0],⟨true,[],[AV.agg [Ai s.2.2.2.1,Ai s.2.2.2.2.1,Ai s.2.2.2.2.2.1]]⟩),([0,8,0],⟨true,[],[AV.agg [AV.snil,AV.snil,AV.snil]]⟩),([0,9,0],⟨true,[],[AV.agg [Ai s.2.2.2.2.2.2.1,Ai s.2.2.2.2.2.2.2.1,Ai s.2.2.2.2.2.2.2.2.1]]⟩),([0,11,0],⟨true,[],[Ai s.2.2.2.2.2.2.2.2.2.1]⟩),([1],⟨false,[.int .i64],s.2.2.2.2.2.2.2.2.2.2.1⟩),([2],⟨false,[.int .i64],s.2.2.2.2.2.2.2.2.2.2.2.1⟩),([3],⟨false,[.int .i64,.int .i64],s.2.2.2.2.2.2.2.2.2.2.2.2.1⟩),([4],⟨true,[],[AV.fn 177 []]⟩),([5],⟨true,[],[Ai s.2.2.2.2.2.2.2.2.2.2.2.2.2]⟩)]⟩)
def K224_0 (t2:Int) (k:Kont):((Int × Int × Int × Int × Int × Int × Int × (List AV) × (List AV) × (List AV) × Int) ⊕ ((List AV) × (List AV) × (List AV) × Int × Int × Int × Int × Int × Int × Int × (List AV) × (List AV) × (List AV) × Int))→Option AV:=sumE (fun p:Int × Int × Int × Int × Int × Int × Int × (List AV) × (List AV) × (List AV) × Int=>k (.exit 0) ⟨[(2,Ai t2),(4,AV.ptr [0,4,0] 0 0),(5,AV.ptr [0,5,0] 0 0),(8,AV.ptr [0,8,0] 0 0),(9,AV.ptr [0,9,0] 0 0),(11,AV.ptr [0,11,0] 0 0),(12,AV.fn 242 [AV.ptr [0,4,0] 0 0,AV.ptr [0,11,0] 0 0,AV.ptr [0,2,12,0] 0 0])],[([0,2,12,0],⟨true,[],[AV.fn 203 [AV.ptr [4] 0 0,AV.ptr [5] 0 0]]⟩),([0,4,0],⟨true,[],[AV.agg [AV.own [1],AV.own [2],AV.own [3]]]⟩),([0,5,0],⟨true,[],[AV.agg [Ai p.1,Ai p.2.1,Ai p.2.2.1]]⟩),([0,8,0],⟨true,[],[AV.agg [AV.snil,AV.snil,AV.snil]]⟩),([0,9,0],⟨true,[],[AV.agg [Ai p.2.2.2.1,Ai p.2.2.2.2.1,Ai p.2.2.2.2.2.1]]⟩),([0,11,0],⟨true,[],[Ai p.2.2.2.2.2.2.1]⟩),([1],⟨false,[.int .i64],p.2.2.2.2.2.2.2.1⟩),([2],⟨false,[.int .i64],p.2.2.2.2.2.2.2.2.1⟩),([3],⟨false,[.int .i64,.int .i64],p.2.2.2.2.2.2.2.2.2.1⟩),([4],⟨true,[],[AV.fn 177 []]⟩),([5],⟨true,[],[Ai p.2.2.2.2.2.2.2.2.2.2]⟩)]⟩) (fun p:(List AV) × (List AV) × (List AV) × Int × Int × Int × Int × Int × Int × Int × (List AV) × (List AV) × (List AV) × Int=>k (.exit 0) ⟨[(2,Ai t2),(4,AV.ptr [0,4,0] 0 0),(5,AV.ptr [0,5,0] 0 0),(8,AV.ptr [0,8,0] 0 0),(9,AV.ptr [0,9,0] 0 0),(11,AV.ptr [0,11,0] 0 0),(12,AV.fn 242 [AV.ptr [0,4,0] 0 0,AV.ptr [0,11,0] 0 0,AV.ptr [0,2,12,0] 0 0])],[([0,0,4,0],⟨false,[.int .i64],p.1⟩),([0,1,4,0],⟨false,[.int .i64],p.2.1⟩),([0,2,4,0],⟨false,[.int .i64,.int .i64],p.2.2.1⟩),([0,2,12,0],⟨true,[],[AV.fn 203 [AV.ptr [4] 0 0,AV.ptr [5] 0 0]]⟩),([0,4,0],⟨true,[],[AV.agg [AV.own [0,0,4,0],AV.own [0,1,4,0],AV.own [0,2,4,0]]]⟩),([0,5,0],⟨true,[],[AV.agg [Ai p.2.2.2.1,Ai p.2.2.2.2.1,Ai p.2.2.2.2.2.1]]⟩),([0,8,0],⟨true,[],[AV.agg [AV.snil,AV.snil,AV.snil]]⟩),([0,9,0],⟨true,[],[AV.agg [Ai p.2.2.2.2.2.2.1,Ai p.2.2.2.2.2.2.2.1,Ai p.2.2.2.2.2.2.2.2.1]]⟩),([0,11,0],⟨true,[],[Ai p.2.2.2.2.2.2.2.2.2.1]⟩),([1],⟨false,[.int .i64],p.2.2.2.2.2.2.2.2.2.2.1⟩),([2],⟨false,[.int .i64],p.2.2.2.2.2.2.2.2.2.2.2.1⟩),([3],⟨false,[.int .i64,.int .i64],p.2.2.2.2.2.2.2.2.2.2.2.2.1⟩),([4],⟨true,[],[AV.fn 177 []]⟩),([5],⟨true,[],[Ai p.2.2.2.2.2.2.2.2.2.2.2.2.2]⟩)]⟩)
def l224_0:LModel:=fun _ _ st k=>match st with
 | ⟨[(2,.int .i64 t2),(4,.ptr g0 g1 g2),(5,.ptr g3 g4 g5),(8,.ptr g6 g7 g8),(9,.ptr g9 g10 g11),(11,.ptr g12 g13 g14),(12,.fn g15 [.ptr g16 g17 g18,.ptr g19 g20 g21,.ptr g22 g23 g24])],[(g25,⟨true,[],[.fn g26 [.ptr g27 g28 g29,.ptr g30 g31 g32]]⟩),(g33,⟨true,[],[.agg [.own g34,.own g35,.own g36]]⟩),(g37,⟨true,[],[.agg [.int .i64 h2_0,.int .i64 h2_1,.int .i64 h2_2]]⟩),(g38,⟨true,[],[.agg [.snil,.snil,.snil]]⟩),(g39,⟨true,[],[.agg [.int .i64 h4_0,.int .i64 h4_1,.int .i64 h4_2]]⟩),(g40,⟨true,[],[.int .i64 h5]⟩),(g41,⟨false,g42,h6⟩),(g43,⟨false,g44,h7⟩),(g45,⟨false,g46,h8⟩),(g47,⟨true,[],[.fn g48 []]⟩),(g49,⟨true,[],[.int .i64 h10]⟩)]⟩=>bif nmEq g0 ([0,4,0]) && Nat.beq g1 0 && Nat.beq g2 0 && nmEq g3 ([0,5,0]) && Nat.beq g4 0 && Nat.beq g5 0 && nmEq g6 ([0,8,0]) && Nat.beq g7 0 && Nat.beq g8 0 && nmEq g9 ([0,9,0]) && Nat.beq g10 0 && Nat.beq g11 0 && nmEq g12 ([0,11,0]) && Nat.beq g13 0 && Nat.beq g14 0 && Nat.beq g15 242 && nmEq g16 ([0,4,0]) && Nat.beq g17 0 && Nat.beq g18 0 && nmEq g19 ([0,11,0]) && Nat.beq g20 0 && Nat.beq g21 0 && nmEq g22 ([0,2,12,0]) && Nat.beq g23 0 && Nat.beq g24 0 && nmEq g25 ([0,2,12,0]) && Nat.beq g26 203 && nmEq g27 ([4]) && Nat.beq g28 0 && Nat.beq g29 0 && nmEq g30 ([5]) && Nat.beq g31 0 && Nat.beq g32 0 && nmEq g33 ([0,4,0]) && nmEq g34 ([1]) && nmEq g35 ([2]) && nmEq g36 ([3]) && nmEq g37 ([0,5,0]) && nmEq g38 ([0,8,0]) && nmEq g39 ([0,9,0]) && nmEq g40 ([0,11,0]) && nmEq g41 ([1]) && ctsEq g42 ([.int .i64]) && nmEq g43 ([2]) && ctsEq g44 ([.int .i64]) && nmEq g45 ([3]) && ctsEq g46 ([.int .i64,.int .i64]) && nmEq g47 ([4]) && Nat.beq g48 177 && nmEq g49 ([5]) then ro (runW (R224_0 t2) (2100) (.inl (h2_0,h2_1,h2_2,h4_0,h4_1,h4_2,h5,h6,h7,h8,h10))) none (K224_0 t2 k) else none
 | ⟨[(2,.int .i64 t2),(4,.ptr g0 g1 g2),(5,.ptr g3 g4 g5),(8,.ptr g6 g7 g8),(9,.ptr g9 g10 g11),(11,.ptr g12 g13 g14),(12,.fn g15 [.ptr g16 g17 g18,.ptr g19 g20 g21,.ptr g22 g23 g24])],[(g25,⟨false,g26,h0⟩),(g27,⟨false,g28,h1⟩),(g29,⟨false,g30,h2⟩),(g31,⟨true,[],[.fn g32 [.ptr g33 g34 g35,.ptr g36 g37 g38]]⟩),(g39,⟨true,[],[.agg [.own g40,.own g41,.own g42]]⟩),(g43,⟨true,[],[.agg [.int .i64 h5_0,.int .i64 h5_1,.int .i64 h5_2]]⟩),(g44,⟨true,[],[.agg [.snil,.snil,.snil]]⟩),(g45,⟨true,[],[.agg [.int .i64 h7_0,.int .i64 h7_1,.int .i64 h7_2]]⟩),(g46,⟨true,[],[.int .i64 h8]⟩),(g47,⟨false,g48,h9⟩),(g49,⟨false,g50,h10⟩),(g51,⟨false,g52,h11⟩),(g53,⟨true,[],[.fn g54 []]⟩),(g55,⟨true,[],[.int .i64 h13]⟩)]⟩=>bif nmEq g0 ([0,4,0]) && Nat.beq g1 0 && Nat.beq g2 0 && nmEq g3 ([0,5,0]) && Nat.beq g4 0 && Nat.beq g5 0 && nmEq g6 ([0,8,0]) && Nat.beq g7 0 && Nat.beq g8 0 && nmEq g9 ([0,9,0]) && Nat.beq g10 0 && Nat.beq g11 0 && nmEq g12 ([0,11,0]) && Nat.beq g13 0 && Nat.beq g14 0 && Nat.beq g15 242 && nmEq g16 ([0,4,0]) && Nat.beq g17 0 && Nat.beq g18 0 && nmEq g19 ([0,11,0]) && Nat.beq g20 0 && Nat.beq g21 0 && nmEq g22 ([0,2,12,0]) && Nat.beq g23 0 && Nat.beq g24 0 && nmEq g25 ([0,0,4,0]) && ctsEq g26 ([.int .i64]) && nmEq g27 ([0,1,4,0]) && ctsEq g28 ([.int .i64]) && nmEq g29 ([0,2,4,0]) && ctsEq g30 ([.int .i64,.int .i64]) && nmEq g31 ([0,2,12,0]) && Nat.beq g32 203 && nmEq g33 ([4]) && Nat.beq g34 0 && Nat.beq g35 0 && nmEq g36 ([5]) && Nat.beq g37 0 && Nat.beq g38 0 && nmEq g39 ([0,4,0]) && nmEq g40 ([0,0,4,0]) && nmEq g41 ([0,1,4,0]) && nmEq g42 ([0,2,4,0]) && nmEq g43 ([0,5,0]) && nmEq g44 ([0,8,0]) && nmEq g45 ([0,9,0]) && nmEq g46 ([0,11,0]) && nmEq g47 ([1]) && ctsEq g48 ([.int .i64]) && nmEq g49 ([2]) && ctsEq g50 ([.int .i64]) && nmEq g51 ([3]) && ctsEq g52 ([.int .i64,.int .i64]) && nmEq g53 ([4]) && Nat.beq g54 177 && nmEq g55 ([5]) then ro (runW (R224_0 t2) (2100) (.inr (h0,h1,h2,h5_0,h5_1,h5_2,h7_0,h7_1,h7_2,h8,h9,h10,h11,h13))) none (K224_0 t2 k) else none
 | _=>none
noncomputable def c224:Cfg:=cfg Tryz.prog [(224,0,[2,4,5,8,9,11,12]),(224,999,[8,9,10]),(224,1000,[2,4,5,8,9,11,12]),(224,1001,[2,4,5,8,9,11,12]),(242,999,[])] [(143,m143),(144,m144),(168,m168),(203,m203),(243,m243)] [] [242] [(224,0,l224_0)]
theorem s224_0_s0 (t2:Int) (k:Kont) (s:Int × Int × Int × Int × Int × Int × Int × (List AV) × (List AV) × (List AV) × Int) (next:St→Option AV):stepA (codeA c224 (inlA c224 1) [0] 224 0 (sub [1,1,1,0,0,0] (body Tryz.f224))) (normA [0] [2,4,5,8,9,11,12]) next ((E224_0 t2) (.inl s)) k=G224_0_s0 t2 s.1 s.2.1 s.2.2.1 s.2.2.2.1 s.2.2.2.2.1 s.2.2.2.2.2.1 s.2.2.2.2.2.2.1 s.2.2.2.2.2.2.2.1 s.2.2.2.2.2.2.2.2.1 s.2.2.2.2.2.2.2.2.2.1 s.2.2.2.2.2.2.2.2.2.2 (fun s=>next ((E224_0 t2) s)) (K224_0 t2 k) none:=by kernel_rfl
theorem s224_0_s1 (t2:Int) (k:Kont) (s:(List AV) × (List AV) × (List AV) × Int × Int × Int × Int × Int × Int × Int × (List AV) × (List AV) × (List AV) × Int) (next:St→Option AV):stepA (codeA c224 (inlA c224 1) [0] 224 0 (sub [1,1,1,0,0,0] (body Tryz.f224))) (normA [0] [2,4,5,8,9,11,12]) next ((E224_0 t2) (.inr s)) k=G224_0_s1 t2 s.1 s.2.1 s.2.2.1 s.2.2.2.1 s.2.2.2.2.1 s.2.2.2.2.2.1 s.2.2.2.2.2.2.1 s.2.2.2.2.2.2.2.1 s.2.2.2.2.2.2.2.2.1 s.2.2.2.2.2.2.2.2.2.1 s.2.2.2.2.2.2.2.2.2.2.1 s.2.2.2.2.2.2.2.2.2.2.2.1 s.2.2.2.2.2.2.2.2.2.2.2.2.1 s.2.2.2.2.2.2.2.2.2.2.2.2.2 (fun s=>next ((E224_0 t2) s)) (K224_0 t2 k) none:=by kernel_rfl
theorem st224_0 (t2:Int) (k:Kont) (s:(Int × Int × Int × Int × Int × Int × Int × (List AV) × (List AV) × (List AV) × Int) ⊕ ((List AV) × (List AV) × (List AV) × Int × Int × Int × Int × Int × Int × Int × (List AV) × (List AV) × (List AV) × Int)) (next:St→Option AV):stepA (codeA c224 (inlA c224 1) [0] 224 0 (sub [1,1,1,0,0,0] (body Tryz.f224))) (normA [0] [2,4,5,8,9,11,12]) next ((E224_0 t2) s) k=(R224_0 t2 s).el none (fun s=>next ((E224_0 t2) s)) (K224_0 t2 k):=(match s with | .inl s=>(s224_0_s0 t2 k s next).trans (by unfold R224_0;unfold F224_0_s0 G224_0_s0;simp only [el_cond,el_ro,el_sum,el_fail,el_next,el_stop] <;> rfl) | .inr s=>(s224_0_s1 t2 k s next).trans (by unfold R224_0;unfold F224_0_s1 G224_0_s1;simp only [el_cond,el_ro,el_sum,el_fail,el_next,el_stop] <;> rfl))
theorem ok224_0:LoopOK c224 (inlA c224 1) [0] 224 0 (sub [1,1,1,0,0,0] (body Tryz.f224)):=by
 intro m hm st k r h
 obtain rfl:l224_0=m:=Option.some.inj hm
 unfold l224_0 at h
 split at h
 ·rename_i t2 g0 g1 g2 g3 g4 g5 g6 g7 g8 g9 g10 g11 g12 g13 g14 g15 g16 g17 g18 g19 g20 g21 g22 g23 g24 g25 g26 g27 g28 g29 g30 g31 g32 g33 g34 g35 g36 g37 h2_0 h2_1 h2_2 g38 g39 h4_0 h4_1 h4_2 g40 h5 g41 g42 h6 g43 g44 h7 g45 g46 h8 g47 g48 g49 h10
  obtain ⟨hg,h⟩:=bif_some h
  simp only [Bool.and_eq_true] at hg
  obtain ⟨⟨⟨⟨⟨⟨⟨⟨⟨⟨⟨⟨⟨⟨⟨⟨⟨⟨⟨⟨⟨⟨⟨⟨⟨⟨⟨⟨⟨⟨⟨⟨⟨⟨⟨⟨⟨⟨⟨⟨⟨⟨⟨⟨⟨⟨⟨⟨⟨q0,q1⟩,q2⟩,q3⟩,q4⟩,q5⟩,q6⟩,q7⟩,q8⟩,q9⟩,q10⟩,q11⟩,q12⟩,q13⟩,q14⟩,q15⟩,q16⟩,q17⟩,q18⟩,q19⟩,q20⟩,q21⟩,q22⟩,q23⟩,q24⟩,q25⟩,q26⟩,q27⟩,q28⟩,q29⟩,q30⟩,q31⟩,q32⟩,q33⟩,q34⟩,q35⟩,q36⟩,q37⟩,q38⟩,q39⟩,q40⟩,q41⟩,q42⟩,q43⟩,q44⟩,q45⟩,q46⟩,q47⟩,q48⟩,q49⟩:=hg
  obtain rfl:=nE q0
  obtain rfl:=bE q1
  obtain rfl:=bE q2
  obtain rfl:=nE q3
  obtain rfl:=bE q4
  obtain rfl:=bE q5
  obtain rfl:=nE q6
  obtain rfl:=bE q7
  obtain rfl:=bE q8
  obtain rfl:=nE q9
  obtain rfl:=bE q10
  obtain rfl:=bE q11
  obtain rfl:=nE q12
  obtain rfl:=bE q13
  obtain rfl:=bE q14
  obtain rfl:=bE q15
  obtain rfl:=nE q16
  obtain rfl:=bE q17
  obtain rfl:=bE q18
  obtain rfl:=nE q19
  obtain rfl:=bE q20
  obtain rfl:=bE q21
  obtain rfl:=nE q22
  obtain rfl:=bE q23
  obtain rfl:=bE q24
  obtain rfl:=nE q25
  obtain rfl:=bE q26
  obtain rfl:=nE q27
  obtain rfl:=bE q28
  obtain rfl:=bE q29
  obtain rfl:=nE q30
  obtain rfl:=bE q31
  obtain rfl:=bE q32
  obtain rfl:=nE q33
  obtain rfl:=nE q34
  obtain rfl:=nE q35
  obtain rfl:=nE q36
  obtain rfl:=nE q37
  obtain rfl:=nE q38
  obtain rfl:=nE q39
  obtain rfl:=nE q40
  obtain rfl:=nE q41
  obtain rfl:=cE q42
  obtain rfl:=nE q43
  obtain rfl:=cE q44
  obtain rfl:=nE q45
  obtain rfl:=cE q46
  obtain rfl:=nE q47
  obtain rfl:=bE q48
  obtain rfl:=nE q49
  refine ⟨(2100),?_⟩
  rw [← h]
  exact loop_run (E224_0 t2) (K224_0 t2 k) (st224_0 t2 k) _ (.inl (h2_0,h2_1,h2_2,h4_0,h4_1,h4_2,h5,h6,h7,h8,h10))
 ·rename_i t2 g0 g1 g2 g3 g4 g5 g6 g7 g8 g9 g10 g11 g12 g13 g14 g15 g16 g17 g18 g19 g20 g21 g22 g23 g24 g25 g26 h0 g27 g28 h1 g29 g30 h2 g31 g32 g33 g34 g35 g36 g37 g38 g39 g40 g41 g42 g43 h5_0 h5_1 h5_2 g44 g45 h7_0 h7_1 h7_2 g46 h8 g47 g48 h9 g49 g50 h10 g51 g52 h11 g53 g54 g55 h13
  obtain ⟨hg,h⟩:=bif_some h
  simp only [Bool.and_eq_true] at hg
  obtain ⟨⟨⟨⟨⟨⟨⟨⟨⟨⟨⟨⟨⟨⟨⟨⟨⟨⟨⟨⟨⟨⟨⟨⟨⟨⟨⟨⟨⟨⟨⟨⟨⟨⟨⟨⟨⟨⟨⟨⟨⟨⟨⟨⟨⟨⟨⟨⟨⟨⟨⟨⟨⟨⟨⟨q0,q1⟩,q2⟩,q3⟩,q4⟩,q5⟩,q6⟩,q7⟩,q8⟩,q9⟩,q10⟩,q11⟩,q12⟩,q13⟩,q14⟩,q15⟩,q16⟩,q17⟩,q18⟩,q19⟩,q20⟩,q21⟩,q22⟩,q23⟩,q24⟩,q25⟩,q26⟩,q27⟩,q28⟩,q29⟩,q30⟩,q31⟩,q32⟩,q33⟩,q34⟩,q35⟩,q36⟩,q37⟩,q38⟩,q39⟩,q40⟩,q41⟩,q42⟩,q43⟩,q44⟩,q45⟩,q46⟩,q47⟩,q48⟩,q49⟩,q50⟩,q51⟩,q52⟩,q53⟩,q54⟩,q55⟩:=hg
  obtain rfl:=nE q0
  obtain rfl:=bE q1
  obtain rfl:=bE q2
  obtain rfl:=nE q3
  obtain rfl:=bE q4
  obtain rfl:=bE q5
  obtain rfl:=nE q6
  obtain rfl:=bE q7
  obtain rfl:=bE q8
  obtain rfl:=nE q9
  obtain rfl:=bE q10
  obtain rfl:=bE q11
  obtain rfl:=nE q12
  obtain rfl:=bE q13
  obtain rfl:=bE q14
  obtain rfl:=bE q15
  obtain rfl:=nE q16
  obtain rfl:=bE q17
  obtain rfl:=bE q18
  obtain rfl:=nE q19
  obtain rfl:=bE q20
  obtain rfl:=bE q21
  obtain rfl:=nE q22
  obtain rfl:=bE q23
  obtain rfl:=bE q24
  obtain rfl:=nE q25
  obtain rfl:=cE q26
  obtain rfl:=nE q27
  obtain rfl:=cE q28
  obtain rfl:=nE q29
  obtain rfl:=cE q30
  obtain rfl:=nE q31
  obtain rfl:=bE q32
  obtain rfl:=nE q33
  obtain rfl:=bE q34
  obtain rfl:=bE q35
  obtain rfl:=nE q36
  obtain rfl:=bE q37
  obtain rfl:=bE q38
  obtain rfl:=nE q39
  obtain rfl:=nE q40
  obtain rfl:=nE q41
  obtain rfl:=nE q42
  obtain rfl:=nE q43
  obtain rfl:=nE q44
  obtain rfl:=nE q45
  obtain rfl:=nE q46
  obtain rfl:=nE q47
  obtain rfl:=cE q48
  obtain rfl:=nE q49
  obtain rfl:=cE q50
  obtain rfl:=nE q51
  obtain rfl:=cE q52
  obtain rfl:=nE q53
  obtain rfl:=bE q54
  obtain rfl:=nE q55
  refine ⟨(2100),?_⟩
  rw [← h]
  exact loop_run (E224_0 t2) (K224_0 t2 k) (st224_0 t2 k) _ (.inr (h0,h1,h2,h5_0,h5_1,h5_2,h7_0,h7_1,h7_2,h8,h9,h10,h11,h13))
 ·cases h
def q224 (ya yb yc a2:Int) (b0 b1 b2:List AV) (b4:Int):Bool:=(ro (runW (R224_0 a2) (2100) (.inl (ya,yb,yc,0,0,0,0,b0,b1,b2,b4))) false (sumE (fun p36=>(q143 p36.2.2.2.2.2.2.2.1 p36.2.2.2.2.2.2.2.2.1 p36.2.2.2.2.2.2.2.2.2.1 a2 && (bif (v143_0 p36.2.2.2.2.2.2.2.1 p36.2.2.2.2.2.2.2.2.1 p36.2.2.2.2.2.2.2.2.2.1 a2) then true else (q144 p36.2.2.2.2.2.2.2.1 p36.2.2.2.2.2.2.2.2.1 p36.2.2.2.2.2.2.2.2.2.1 a2 && q168 p36.2.2.2.2.2.2.2.1 p36.2.2.2.2.2.2.2.2.1 p36.2.2.2.2.2.2.2.2.2.1 a2)))) (fun p37=>(q143 p37.1 p37.2.1 p37.2.2.1 a2 && (bif (v143_0 p37.1 p37.2.1 p37.2.2.1 a2) then true else (q144 p37.1 p37.2.1 p37.2.2.1 a2 && q168 p37.1 p37.2.1 p37.2.2.1 a2))))))
def v224_0 (ya yb yc a2:Int) (b0 b1 b2:List AV) (b4:Int):List AV:=(ro (runW (R224_0 a2) (2100) (.inl (ya,yb,yc,0,0,0,0,b0,b1,b2,b4))) [] (sumE (fun p36=>(bif (v143_0 p36.2.2.2.2.2.2.2.1 p36.2.2.2.2.2.2.2.2.1 p36.2.2.2.2.2.2.2.2.2.1 a2) then p36.2.2.2.2.2.2.2.1 else (v168_0 p36.2.2.2.2.2.2.2.1 p36.2.2.2.2.2.2.2.2.1 p36.2.2.2.2.2.2.2.2.2.1 a2))) (fun p37=>(bif (v143_0 p37.1 p37.2.1 p37.2.2.1 a2) then p37.1 else (v168_0 p37.1 p37.2.1 p37.2.2.1 a2)))))
def v224_1 (ya yb yc a2:Int) (b0 b1 b2:List AV) (b4:Int):List AV:=(ro (runW (R224_0 a2) (2100) (.inl (ya,yb,yc,0,0,0,0,b0,b1,b2,b4))) [] (sumE (fun p36=>(bif (v143_0 p36.2.2.2.2.2.2.2.1 p36.2.2.2.2.2.2.2.2.1 p36.2.2.2.2.2.2.2.2.2.1 a2) then p36.2.2.2.2.2.2.2.2.1 else (v168_1 p36.2.2.2.2.2.2.2.1 p36.2.2.2.2.2.2.2.2.1 p36.2.2.2.2.2.2.2.2.2.1 a2))) (fun p37=>(bif (v143_0 p37.1 p37.2.1 p37.2.2.1 a2) then p37.2.1 else (v168_1 p37.1 p37.2.1 p37.2.2.1 a2)))))
def v224_2 (ya yb yc a2:Int) (b0 b1 b2:List AV) (b4:Int):List AV:=(ro (runW (R224_0 a2) (2100) (.inl (ya,yb,yc,0,0,0,0,b0,b1,b2,b4))) [] (sumE (fun p36=>(bif (v143_0 p36.2.2.2.2.2.2.2.1 p36.2.2.2.2.2.2.2.2.1 p36.2.2.2.2.2.2.2.2.2.1 a2) then p36.2.2.2.2.2.2.2.2.2.1 else (v168_2 p36.2.2.2.2.2.2.2.1 p36.2.2.2.2.2.2.2.2.1 p36.2.2.2.2.2.2.2.2.2.1 a2))) (fun p37=>(bif (v143_0 p37.1 p37.2.1 p37.2.2.1 a2) then p37.2.2.1 else (v168_2 p37.1 p37.2.1 p37.2.2.1 a2)))))
def v224_3 (ya yb yc a2:Int) (b0 b1 b2:List AV) (b4:Int):Int:=(ro (runW (R224_0 a2) (2100) (.inl (ya,yb,yc,0,0,0,0,b0,b1,b2,b4))) 0 (sumE (fun p36=>p36.1) (fun p37=>p37.2.2.2.1)))
def v224_4 (ya yb yc a2:Int) (b0 b1 b2:List AV) (b4:Int):Int:=(ro (runW (R224_0 a2) (2100) (.inl (ya,yb,yc,0,0,0,0,b0,b1,b2,b4))) 0 (sumE (fun p36=>p36.2.1) (fun p37=>p37.2.2.2.2.1)))
def v224_5 (ya yb yc a2:Int) (b0 b1 b2:List AV) (b4:Int):Int:=(ro (runW (R224_0 a2) (2100) (.inl (ya,yb,yc,0,0,0,0,b0,b1,b2,b4))) 0 (sumE (fun p36=>p36.2.2.1) (fun p37=>p37.2.2.2.2.2.1)))
def v224_6 (ya yb yc a2:Int) (b0 b1 b2:List AV) (b4:Int):Int:=(ro (runW (R224_0 a2) (2100) (.inl (ya,yb,yc,0,0,0,0,b0,b1,b2,b4))) 0 (sumE (fun p36=>(bif (v143_0 p36.2.2.2.2.2.2.2.1 p36.2.2.2.2.2.2.2.2.1 p36.2.2.2.2.2.2.2.2.2.1 a2) then p36.2.2.2.2.2.2.1 else IntKind.i64.wrap (p36.2.2.2.2.2.2.1+((v168_3 p36.2.2.2.2.2.2.2.1 p36.2.2.2.2.2.2.2.2.1 p36.2.2.2.2.2.2.2.2.2.1 a2).length:Int)))) (fun p37=>(bif (v143_0 p37.1 p37.2.1 p37.2.2.1 a2) then p37.2.2.2.2.2.2.2.2.2.1 else IntKind.i64.wrap (p37.2.2.2.2.2.2.2.2.2.1+((v168_3 p37.1 p37.2.1 p37.2.2.1 a2).length:Int))))))
def v224_7 (ya yb yc a2:Int) (b0 b1 b2:List AV) (b4:Int):Int:=(ro (runW (R224_0 a2) (2100) (.inl (ya,yb,yc,0,0,0,0,b0,b1,b2,b4))) 0 (sumE (fun p36=>p36.2.2.2.2.2.2.2.2.2.2) (fun p37=>p37.2.2.2.2.2.2.2.2.2.2.2.2.2)))
theorem e224 (ya yb yc a2:Int) (b0 b1 b2:List AV) (b4:Int) (K:List AV→List (Option Blk)→Option AV):inlA c224 2 224 [AV.agg [AV.own [1],AV.own [2],AV.own [3]],AV.agg [Ai ya,Ai yb,Ai yc],Ai a2,AV.fn 203 [AV.ptr [4] 0 0,AV.ptr [5] 0 0]] [0] (canH 1 [⟨false,[.int .i64],b0⟩,⟨false,[.int .i64],b1⟩,⟨false,[.int .i64,.int .i64],b2⟩,⟨true,[],[AV.fn 177 []]⟩,⟨true,[],[Ai b4]⟩]) (keepG Tryz.prog 5 [27,82,3] [0,1,2] K)=(ro (runW (R224_0 a2) (2100) (.inl (ya,yb,yc,0,0,0,0,b0,b1,b2,b4))) none (sumE (fun p36=>(bif q143 p36.2.2.2.2.2.2.2.1 p36.2.2.2.2.2.2.2.2.1 p36.2.2.2.2.2.2.2.2.2.1 a2 then (bif (v143_0 p36.2.2.2.2.2.2.2.1 p36.2.2.2.2.2.2.2.2.1 p36.2.2.2.2.2.2.2.2.2.1 a2) then K [AV.agg [AV.fl [.int .i64] p36.2.2.2.2.2.2.2.1,AV.fl [.int .i64] p36.2.2.2.2.2.2.2.2.1,AV.fl [.int .i64,.int .i64] p36.2.2.2.2.2.2.2.2.2.1],AV.agg [Ai p36.1,Ai p36.2.1,Ai p36.2.2.1],Ai p36.2.2.2.2.2.2.1] [none,none,none,some ⟨true,[],[AV.fn 177 []]⟩,some ⟨true,[],[Ai p36.2.2.2.2.2.2.2.2.2.2]⟩]
 else (bif q144 p36.2.2.2.2.2.2.2.1 p36.2.2.2.2.2.2.2.2.1 p36.2.2.2.2.2.2.2.2.2.1 a2 then (bif q168 p36.2.2.2.2.2.2.2.1 p36.2.2.2.2.2.2.2.2.1 p36.2.2.2.2.2.2.2.2.2.1 a2 then K [AV.agg [AV.fl [.int .i64] (v168_0 p36.2.2.2.2.2.2.2.1 p36.2.2.2.2.2.2.2.2.1 p36.2.2.2.2.2.2.2.2.2.1 a2),AV.fl [.int .i64] (v168_1 p36.2.2.2.2.2.2.2.1 p36.2.2.2.2.2.2.2.2.1 p36.2.2.2.2.2.2.2.2.2.1 a2),AV.fl [.int .i64,.int .i64] (v168_2 p36.2.2.2.2.2.2.2.1 p36.2.2.2.2.2.2.2.2.1 p36.2.2.2.2.2.2.2.2.2.1 a2)],AV.agg [Ai p36.1,Ai p36.2.1,Ai p36.2.2.1],Ai (IntKind.i64.wrap (p36.2.2.2.2.2.2.1+((v168_3 p36.2.2.2.2.2.2.2.1 p36.2.2.2.2.2.2.2.2.1 p36.2.2.2.2.2.2.2.2.2.1 a2).length:Int)))] [none,none,none,some ⟨true,[],[AV.fn 177 []]⟩,some ⟨true,[],[Ai p36.2.2.2.2.2.2.2.2.2.2]⟩]
 else none)
 else none))
 else none)) (fun p37=>(bif q143 p37.1 p37.2.1 p37.2.2.1 a2 then (bif (v143_0 p37.1 p37.2.1 p37.2.2.1 a2) then K [AV.agg [AV.fl [.int .i64] p37.1,AV.fl [.int .i64] p37.2.1,AV.fl [.int .i64,.int .i64] p37.2.2.1],AV.agg [Ai p37.2.2.2.1,Ai p37.2.2.2.2.1,Ai p37.2.2.2.2.2.1],Ai p37.2.2.2.2.2.2.2.2.2.1] [none,none,none,some ⟨true,[],[AV.fn 177 []]⟩,some ⟨true,[],[Ai p37.2.2.2.2.2.2.2.2.2.2.2.2.2]⟩]
 else (bif q144 p37.1 p37.2.1 p37.2.2.1 a2 then (bif q168 p37.1 p37.2.1 p37.2.2.1 a2 then K [AV.agg [AV.fl [.int .i64] (v168_0 p37.1 p37.2.1 p37.2.2.1 a2),AV.fl [.int .i64] (v168_1 p37.1 p37.2.1 p37.2.2.1 a2),AV.fl [.int .i64,.int .i64] (v168_2 p37.1 p37.2.1 p37.2.2.1 a2)],AV.agg [Ai p37.2.2.2.1,Ai p37.2.2.2.2.1,Ai p37.2.2.2.2.2.1],Ai (IntKind.i64.wrap (p37.2.2.2.2.2.2.2.2.2.1+((v168_3 p37.1 p37.2.1 p37.2.2.1 a2).length:Int)))] [none,none,none,some ⟨true,[],[AV.fn 177 []]⟩,some ⟨true,[],[Ai p37.2.2.2.2.2.2.2.2.2.2.2.2.2]⟩]
 else none)
 else none))
 else none)))):=by kernel_rfl
theorem r224 (ya yb yc a2:Int) (b0 b1 b2:List AV) (b4:Int) (K:List AV→List (Option Blk)→Option AV) (h:q224 ya yb yc a2 b0 b1 b2 b4=true):inlA c224 2 224 [AV.agg [AV.own [1],AV.own [2],AV.own [3]],AV.agg [AV.int .i64 ya,AV.int .i64 yb,AV.int .i64 yc],AV.int .i64 a2,AV.fn 203 [AV.ptr [4] 0 0,AV.ptr [5] 0 0]] [0] (canH 1 [⟨false,[.int .i64],b0⟩,⟨false,[.int .i64],b1⟩,⟨false,[.int .i64,.int .i64],b2⟩,⟨true,[],[AV.fn 177 []]⟩,⟨true,[],[AV.int .i64 b4]⟩]) (keepG Tryz.prog 5 [27,82,3] [0,1,2] K)=K [AV.agg [AV.fl [.int .i64] (v224_0 ya yb yc a2 b0 b1 b2 b4),AV.fl [.int .i64] (v224_1 ya yb yc a2 b0 b1 b2 b4),AV.fl [.int .i64,.int .i64] (v224_2 ya yb yc a2 b0 b1 b2 b4)],AV.agg [AV.int .i64 (v224_3 ya yb yc a2 b0 b1 b2 b4),AV.int .i64 (v224_4 ya yb yc a2 b0 b1 b2 b4),AV.int .i64 (v224_5 ya yb yc a2 b0 b1 b2 b4)],AV.int .i64 (v224_6 ya yb yc a2 b0 b1 b2 b4)] [none,none,none,some ⟨true,[],[AV.fn 177 []]⟩,some ⟨true,[],[AV.int .i64 (v224_7 ya yb yc a2 b0 b1 b2 b4)]⟩]:=by
 refine (e224 ya yb yc a2 b0 b1 b2 b4 K).trans ?_
 unfold q224 at h
 unfold v224_0 v224_1 v224_2 v224_3 v224_4 v224_5 v224_6 v224_7
 generalize runW (R224_0 a2) (2100) (.inl (ya,yb,yc,0,0,0,0,b0,b1,b2,b4))=o at h ⊢
 cases o with
 | none=>cases h
 | some o =>
  cases o with
  | inl p36 =>
   simp only [ro,sumE] at h ⊢
   exact (brL (br (fun b=>K [AV.agg [AV.fl [.int .i64] (bif b then p36.2.2.2.2.2.2.2.1 else (v168_0 p36.2.2.2.2.2.2.2.1 p36.2.2.2.2.2.2.2.2.1 p36.2.2.2.2.2.2.2.2.2.1 a2)),AV.fl [.int .i64] (bif b then p36.2.2.2.2.2.2.2.2.1 else (v168_1 p36.2.2.2.2.2.2.2.1 p36.2.2.2.2.2.2.2.2.1 p36.2.2.2.2.2.2.2.2.2.1 a2)),AV.fl [.int .i64,.int .i64] (bif b then p36.2.2.2.2.2.2.2.2.2.1 else (v168_2 p36.2.2.2.2.2.2.2.1 p36.2.2.2.2.2.2.2.2.1 p36.2.2.2.2.2.2.2.2.2.1 a2))],AV.agg [AV.int .i64 p36.1,AV.int .i64 p36.2.1,AV.int .i64 p36.2.2.1],AV.int .i64 (bif b then p36.2.2.2.2.2.2.1 else IntKind.i64.wrap (p36.2.2.2.2.2.2.1+((v168_3 p36.2.2.2.2.2.2.2.1 p36.2.2.2.2.2.2.2.2.1 p36.2.2.2.2.2.2.2.2.2.1 a2).length:Int)))] [none,none,none,some ⟨true,[],[AV.fn 177 []]⟩,some ⟨true,[],[AV.int .i64 p36.2.2.2.2.2.2.2.2.2.2]⟩]) (fun _=>rfl) (brL (brL1 (fun _=>rfl))))) h
  | inr p37 =>
   simp only [ro,sumE] at h ⊢
   exact (brL (br (fun b=>K [AV.agg [AV.fl [.int .i64] (bif b then p37.1 else (v168_0 p37.1 p37.2.1 p37.2.2.1 a2)),AV.fl [.int .i64] (bif b then p37.2.1 else (v168_1 p37.1 p37.2.1 p37.2.2.1 a2)),AV.fl [.int .i64,.int .i64] (bif b then p37.2.2.1 else (v168_2 p37.1 p37.2.1 p37.2.2.1 a2))],AV.agg [AV.int .i64 p37.2.2.2.1,AV.int .i64 p37.2.2.2.2.1,AV.int .i64 p37.2.2.2.2.2.1],AV.int .i64 (bif b then p37.2.2.2.2.2.2.2.2.2.1 else IntKind.i64.wrap (p37.2.2.2.2.2.2.2.2.2.1+((v168_3 p37.1 p37.2.1 p37.2.2.1 a2).length:Int)))] [none,none,none,some ⟨true,[],[AV.fn 177 []]⟩,some ⟨true,[],[AV.int .i64 p37.2.2.2.2.2.2.2.2.2.2.2.2.2]⟩]) (fun _=>rfl) (brL (brL1 (fun _=>rfl))))) h
def m224:GModel
 | [.agg [.own g0,.own g1,.own g2],.agg [.int .i64 ya,.int .i64 yb,.int .i64 yc],.int .i64 a2,.fn g3 [.ptr g4 g5 g6,.ptr g7 g8 g9]],[⟨false,g10,b0⟩,⟨false,g11,b1⟩,⟨false,g12,b2⟩,⟨true,[],[.fn g13 []]⟩,⟨true,[],[.int .i64 b4]⟩]=>bif nmEq g0 ([1]) && nmEq g1 ([2]) && nmEq g2 ([3]) && Nat.beq g3 203 && nmEq g4 ([4]) && Nat.beq g5 0 && Nat.beq g6 0 && nmEq g7 ([5]) && Nat.beq g8 0 && Nat.beq g9 0 && ctsEq g10 ([.int .i64]) && ctsEq g11 ([.int .i64]) && ctsEq g12 ([.int .i64,.int .i64]) && Nat.beq g13 177 then some (q224 ya yb yc a2 b0 b1 b2 b4,[AV.agg [AV.fl [.int .i64] (v224_0 ya yb yc a2 b0 b1 b2 b4),AV.fl [.int .i64] (v224_1 ya yb yc a2 b0 b1 b2 b4),AV.fl [.int .i64,.int .i64] (v224_2 ya yb yc a2 b0 b1 b2 b4)],AV.agg [AV.int .i64 (v224_3 ya yb yc a2 b0 b1 b2 b4),AV.int .i64 (v224_4 ya yb yc a2 b0 b1 b2 b4),AV.int .i64 (v224_5 ya yb yc a2 b0 b1 b2 b4)],AV.int .i64 (v224_6 ya yb yc a2 b0 b1 b2 b4)],[none,none,none,some ⟨true,[],[AV.fn 177 []]⟩,some ⟨true,[],[AV.int .i64 (v224_7 ya yb yc a2 b0 b1 b2 b4)]⟩]) else none
 | _,_=>none
theorem k224:Known Tryz.prog 224:=⟨Tryz.f224,Tryz.func224,by kernel_rfl,by kernel_rfl⟩
theorem i224_242:InlK Tryz.prog [(224,0,[2,4,5,8,9,11,12]),(224,999,[8,9,10]),(224,1000,[2,4,5,8,9,11,12]),(224,1001,[2,4,5,8,9,11,12]),(242,999,[])] [(143,m143),(144,m144),(168,m168),(203,m203),(243,m243)] [] [242] [(224,0,l224_0)] 242:=⟨⟨Tryz.f242,Tryz.func242,by kernel_rfl,by kernel_rfl⟩,Tryz.f242,[],Tryz.func242,by kernel_rfl,fun ce π=>noLoop⟩
theorem meets224:MeetsG Tryz.prog 224 m224:=by
 refine mg (rt:=[27,82,3]) (gs:=[0,1,2]) (lvl:=1) (cf:=c224) rfl mixed k224 Tryz.func224 (by kernel_rfl) (loops_cons ok224_0 noLoop) (allT_cons meets143 (allT_cons meets144 (allT_cons meets168 (allT_cons meets203 (allT_cons meets243 allT_nil))))) allM_nil (allI_cons i224_242 noI) fun xs bs r bs' h K=>?_
 unfold m224 at h
 split at h
 ·rename_i g0 g1 g2 ya yb yc a2 g3 g4 g5 g6 g7 g8 g9 g10 b0 g11 b1 g12 b2 g13 b4
  obtain ⟨hg,h⟩:=bif_pair h
  simp only [Bool.and_eq_true] at hg
  obtain ⟨⟨⟨⟨⟨⟨⟨⟨⟨⟨⟨⟨⟨q0,q1⟩,q2⟩,q3⟩,q4⟩,q5⟩,q6⟩,q7⟩,q8⟩,q9⟩,q10⟩,q11⟩,q12⟩,q13⟩:=hg
  obtain rfl:=nE q0
  obtain rfl:=nE q1
  obtain rfl:=nE q2
  obtain rfl:=bE q3
  obtain rfl:=nE q4
  obtain rfl:=bE q5
  obtain rfl:=bE q6
  obtain rfl:=nE q7
  obtain rfl:=bE q8
  obtain rfl:=bE q9
  obtain rfl:=cE q10
  obtain rfl:=cE q11
  obtain rfl:=cE q12
  obtain rfl:=bE q13
  obtain ⟨h1,rfl,rfl⟩:=trip_inj h
  exact r224 ya yb yc a2 b0 b1 b2 b4 K h1
 ·cases h
noncomputable def c225:Cfg:=cfg Tryz.prog [(225,999,[6])] [(39,m39),(244,m244)] [] [] []
def q225 (xa xb xc:List AV) (a1 a2:Int):Bool:=(q39 xa xb xc && (bif !(v39_0 xa xb xc) then true else (bif decide (a1<0) then true else (bif decide (a1 > a2) then true else (bif decide (a2 > (xb.length:Int)) then true else ((decide (0≤a1) && decide (a1≤a2) && decide (a2≤(xb.length:Int))) && q244 ((xb.take (Int.toNat a2)).drop (Int.toNat a1))))))))
def v225_0 (xa xb xc:List AV) (a1 a2:Int):List AV:=(bif !(v39_0 xa xb xc) then ([]:List AV) else (bif decide (a1<0) then ([]:List AV) else (bif decide (a1 > a2) then ([]:List AV) else (bif decide (a2 > (xb.length:Int)) then ([]:List AV) else (v244_0 ((xb.take (Int.toNat a2)).drop (Int.toNat a1)))))))
theorem e225 (xa xb xc:List AV) (a1 a2:Int):funA c225 0 225 [AV.agg [AV.sl [.int .i64] xa,AV.sl [.int .i64] xb,AV.sl [.int .i64,.int .i64] xc],Ai a1,Ai a2]=(bif q39 xa xb xc then (bif !(v39_0 xa xb xc) then some (AV.fl [.int .i64] ([]:List AV))
 else (bif decide (a1<0) then some (AV.fl [.int .i64] ([]:List AV))
 else (bif decide (a1 > a2) then some (AV.fl [.int .i64] ([]:List AV))
 else (bif decide (a2 > (xb.length:Int)) then some (AV.fl [.int .i64] ([]:List AV))
 else (bif (decide (0≤a1) && decide (a1≤a2) && decide (a2≤(xb.length:Int))) then (bif q244 ((xb.take (Int.toNat a2)).drop (Int.toNat a1)) then some (AV.fl [.int .i64] (v244_0 ((xb.take (Int.toNat a2)).drop (Int.toNat a1))))
 else none)
 else none)))))
 else none):=by kernel_rfl
def m225:TModel
 | [.agg [.sl g0 xa,.sl g1 xb,.sl g2 xc],.int .i64 a1,.int .i64 a2]=>bif ctsEq g0 ([.int .i64]) && ctsEq g1 ([.int .i64]) && ctsEq g2 ([.int .i64,.int .i64]) then some (q225 xa xb xc a1 a2,AV.fl [.int .i64] (v225_0 xa xb xc a1 a2)) else none
 | _=>none
theorem k225:Known Tryz.prog 225:=⟨Tryz.f225,Tryz.func225,by kernel_rfl,by kernel_rfl⟩
theorem meets225:Meets Tryz.prog 225 m225:=by
 refine mt (lvl:=0) (cf:=c225) rfl mixed k225 Tryz.func225 (by kernel_rfl) noLoop (allT_cons meets39 (allT_cons meets244 allT_nil)) allM_nil noI fun xs r h=>?_
 unfold m225 at h
 split at h
 ·rename_i g0 xa g1 xb g2 xc a1 a2
  obtain ⟨hg,h⟩:=bif_pair h
  simp only [Bool.and_eq_true] at hg
  obtain ⟨⟨q0,q1⟩,q2⟩:=hg
  obtain rfl:=cE q0
  obtain rfl:=cE q1
  obtain rfl:=cE q2
  obtain ⟨h1,rfl⟩:=pair_inj h
  exact (e225 xa xb xc a1 a2).trans ((brL (br (fun b=>some (AV.fl [.int .i64] (bif b then ([]:List AV) else (bif decide (a1<0) then ([]:List AV) else (bif decide (a1 > a2) then ([]:List AV) else (bif decide (a2 > (xb.length:Int)) then ([]:List AV) else (v244_0 ((xb.take (Int.toNat a2)).drop (Int.toNat a1))))))))) (fun _=>rfl) (br (fun b=>some (AV.fl [.int .i64] (bif b then ([]:List AV) else (bif decide (a1 > a2) then ([]:List AV) else (bif decide (a2 > (xb.length:Int)) then ([]:List AV) else (v244_0 ((xb.take (Int.toNat a2)).drop (Int.toNat a1)))))))) (fun _=>rfl) (br (fun b=>some (AV.fl [.int .i64] (bif b then ([]:List AV) else (bif decide (a2 > (xb.length:Int)) then ([]:List AV) else (v244_0 ((xb.take (Int.toNat a2)).drop (Int.toNat a1))))))) (fun _=>rfl) (br (fun b=>some (AV.fl [.int .i64] (bif b then ([]:List AV) else (v244_0 ((xb.take (Int.toNat a2)).drop (Int.toNat a1)))))) (fun _=>rfl) (brL (brL1 (fun _=>rfl)))))))) h1)
 ·cases h
noncomputable def c202:Cfg:=cfg Tryz.prog [(202,999,[8,9,10,11])] [(19,m19),(225,m225)] [(224,.g m224)] [] []
def q202 (ya yb yc za zb:Int) (b0 b1 b2:List AV) (b4:Int):Bool:=(q224 ya yb yc za b0 b1 b2 b4 && (q224 (v224_3 ya yb yc za b0 b1 b2 b4) (v224_4 ya yb yc za b0 b1 b2 b4) (v224_5 ya yb yc za b0 b1 b2 b4) zb (v224_0 ya yb yc za b0 b1 b2 b4) (v224_1 ya yb yc za b0 b1 b2 b4) (v224_2 ya yb yc za b0 b1 b2 b4) (v224_7 ya yb yc za b0 b1 b2 b4) && (q19 (v224_0 (v224_3 ya yb yc za b0 b1 b2 b4) (v224_4 ya yb yc za b0 b1 b2 b4) (v224_5 ya yb yc za b0 b1 b2 b4) zb (v224_0 ya yb yc za b0 b1 b2 b4) (v224_1 ya yb yc za b0 b1 b2 b4) (v224_2 ya yb yc za b0 b1 b2 b4) (v224_7 ya yb yc za b0 b1 b2 b4)) (v224_1 (v224_3 ya yb yc za b0 b1 b2 b4) (v224_4 ya yb yc za b0 b1 b2 b4) (v224_5 ya yb yc za b0 b1 b2 b4) zb (v224_0 ya yb yc za b0 b1 b2 b4) (v224_1 ya yb yc za b0 b1 b2 b4) (v224_2 ya yb yc za b0 b1 b2 b4) (v224_7 ya yb yc za b0 b1 b2 b4)) (v224_2 (v224_3 ya yb yc za b0 b1 b2 b4) (v224_4 ya yb yc za b0 b1 b2 b4) (v224_5 ya yb yc za b0 b1 b2 b4) zb (v224_0 ya yb yc za b0 b1 b2 b4) (v224_1 ya yb yc za b0 b1 b2 b4) (v224_2 ya yb yc za b0 b1 b2 b4) (v224_7 ya yb yc za b0 b1 b2 b4)) za && (q19 (v224_0 (v224_3 ya yb yc za b0 b1 b2 b4) (v224_4 ya yb yc za b0 b1 b2 b4) (v224_5 ya yb yc za b0 b1 b2 b4) zb (v224_0 ya yb yc za b0 b1 b2 b4) (v224_1 ya yb yc za b0 b1 b2 b4) (v224_2 ya yb yc za b0 b1 b2 b4) (v224_7 ya yb yc za b0 b1 b2 b4)) (v224_1 (v224_3 ya yb yc za b0 b1 b2 b4) (v224_4 ya yb yc za b0 b1 b2 b4) (v224_5 ya yb yc za b0 b1 b2 b4) zb (v224_0 ya yb yc za b0 b1 b2 b4) (v224_1 ya yb yc za b0 b1 b2 b4) (v224_2 ya yb yc za b0 b1 b2 b4) (v224_7 ya yb yc za b0 b1 b2 b4)) (v224_2 (v224_3 ya yb yc za b0 b1 b2 b4) (v224_4 ya yb yc za b0 b1 b2 b4) (v224_5 ya yb yc za b0 b1 b2 b4) zb (v224_0 ya yb yc za b0 b1 b2 b4) (v224_1 ya yb yc za b0 b1 b2 b4) (v224_2 ya yb yc za b0 b1 b2 b4) (v224_7 ya yb yc za b0 b1 b2 b4)) zb && q225 (v224_0 (v224_3 ya yb yc za b0 b1 b2 b4) (v224_4 ya yb yc za b0 b1 b2 b4) (v224_5 ya yb yc za b0 b1 b2 b4) zb (v224_0 ya yb yc za b0 b1 b2 b4) (v224_1 ya yb yc za b0 b1 b2 b4) (v224_2 ya yb yc za b0 b1 b2 b4) (v224_7 ya yb yc za b0 b1 b2 b4)) (v224_1 (v224_3 ya yb yc za b0 b1 b2 b4) (v224_4 ya yb yc za b0 b1 b2 b4) (v224_5 ya yb yc za b0 b1 b2 b4) zb (v224_0 ya yb yc za b0 b1 b2 b4) (v224_1 ya yb yc za b0 b1 b2 b4) (v224_2 ya yb yc za b0 b1 b2 b4) (v224_7 ya yb yc za b0 b1 b2 b4)) (v224_2 (v224_3 ya yb yc za b0 b1 b2 b4) (v224_4 ya yb yc za b0 b1 b2 b4) (v224_5 ya yb yc za b0 b1 b2 b4) zb (v224_0 ya yb yc za b0 b1 b2 b4) (v224_1 ya yb yc za b0 b1 b2 b4) (v224_2 ya yb yc za b0 b1 b2 b4) (v224_7 ya yb yc za b0 b1 b2 b4)) (v19_0 (v224_0 (v224_3 ya yb yc za b0 b1 b2 b4) (v224_4 ya yb yc za b0 b1 b2 b4) (v224_5 ya yb yc za b0 b1 b2 b4) zb (v224_0 ya yb yc za b0 b1 b2 b4) (v224_1 ya yb yc za b0 b1 b2 b4) (v224_2 ya yb yc za b0 b1 b2 b4) (v224_7 ya yb yc za b0 b1 b2 b4)) (v224_1 (v224_3 ya yb yc za b0 b1 b2 b4) (v224_4 ya yb yc za b0 b1 b2 b4) (v224_5 ya yb yc za b0 b1 b2 b4) zb (v224_0 ya yb yc za b0 b1 b2 b4) (v224_1 ya yb yc za b0 b1 b2 b4) (v224_2 ya yb yc za b0 b1 b2 b4) (v224_7 ya yb yc za b0 b1 b2 b4)) (v224_2 (v224_3 ya yb yc za b0 b1 b2 b4) (v224_4 ya yb yc za b0 b1 b2 b4) (v224_5 ya yb yc za b0 b1 b2 b4) zb (v224_0 ya yb yc za b0 b1 b2 b4) (v224_1 ya yb yc za b0 b1 b2 b4) (v224_2 ya yb yc za b0 b1 b2 b4) (v224_7 ya yb yc za b0 b1 b2 b4)) za) (v19_0 (v224_0 (v224_3 ya yb yc za b0 b1 b2 b4) (v224_4 ya yb yc za b0 b1 b2 b4) (v224_5 ya yb yc za b0 b1 b2 b4) zb (v224_0 ya yb yc za b0 b1 b2 b4) (v224_1 ya yb yc za b0 b1 b2 b4) (v224_2 ya yb yc za b0 b1 b2 b4) (v224_7 ya yb yc za b0 b1 b2 b4)) (v224_1 (v224_3 ya yb yc za b0 b1 b2 b4) (v224_4 ya yb yc za b0 b1 b2 b4) (v224_5 ya yb yc za b0 b1 b2 b4) zb (v224_0 ya yb yc za b0 b1 b2 b4) (v224_1 ya yb yc za b0 b1 b2 b4) (v224_2 ya yb yc za b0 b1 b2 b4) (v224_7 ya yb yc za b0 b1 b2 b4)) (v224_2 (v224_3 ya yb yc za b0 b1 b2 b4) (v224_4 ya yb yc za b0 b1 b2 b4) (v224_5 ya yb yc za b0 b1 b2 b4) zb (v224_0 ya yb yc za b0 b1 b2 b4) (v224_1 ya yb yc za b0 b1 b2 b4) (v224_2 ya yb yc za b0 b1 b2 b4) (v224_7 ya yb yc za b0 b1 b2 b4)) zb)))))
def v202_0 (ya yb yc za zb:Int) (b0 b1 b2:List AV) (b4:Int):List AV:=(v224_0 (v224_3 ya yb yc za b0 b1 b2 b4) (v224_4 ya yb yc za b0 b1 b2 b4) (v224_5 ya yb yc za b0 b1 b2 b4) zb (v224_0 ya yb yc za b0 b1 b2 b4) (v224_1 ya yb yc za b0 b1 b2 b4) (v224_2 ya yb yc za b0 b1 b2 b4) (v224_7 ya yb yc za b0 b1 b2 b4))
def v202_1 (ya yb yc za zb:Int) (b0 b1 b2:List AV) (b4:Int):List AV:=(v224_1 (v224_3 ya yb yc za b0 b1 b2 b4) (v224_4 ya yb yc za b0 b1 b2 b4) (v224_5 ya yb yc za b0 b1 b2 b4) zb (v224_0 ya yb yc za b0 b1 b2 b4) (v224_1 ya yb yc za b0 b1 b2 b4) (v224_2 ya yb yc za b0 b1 b2 b4) (v224_7 ya yb yc za b0 b1 b2 b4))
def v202_2 (ya yb yc za zb:Int) (b0 b1 b2:List AV) (b4:Int):List AV:=(v224_2 (v224_3 ya yb yc za b0 b1 b2 b4) (v224_4 ya yb yc za b0 b1 b2 b4) (v224_5 ya yb yc za b0 b1 b2 b4) zb (v224_0 ya yb yc za b0 b1 b2 b4) (v224_1 ya yb yc za b0 b1 b2 b4) (v224_2 ya yb yc za b0 b1 b2 b4) (v224_7 ya yb yc za b0 b1 b2 b4))
def v202_3 (ya yb yc za zb:Int) (b0 b1 b2:List AV) (b4:Int):Int:=(v224_3 (v224_3 ya yb yc za b0 b1 b2 b4) (v224_4 ya yb yc za b0 b1 b2 b4) (v224_5 ya yb yc za b0 b1 b2 b4) zb (v224_0 ya yb yc za b0 b1 b2 b4) (v224_1 ya yb yc za b0 b1 b2 b4) (v224_2 ya yb yc za b0 b1 b2 b4) (v224_7 ya yb yc za b0 b1 b2 b4))
def v202_4 (ya yb yc za zb:Int) (b0 b1 b2:List AV) (b4:Int):Int:=(v224_4 (v224_3 ya yb yc za b0 b1 b2 b4) (v224_4 ya yb yc za b0 b1 b2 b4) (v224_5 ya yb yc za b0 b1 b2 b4) zb (v224_0 ya yb yc za b0 b1 b2 b4) (v224_1 ya yb yc za b0 b1 b2 b4) (v224_2 ya yb yc za b0 b1 b2 b4) (v224_7 ya yb yc za b0 b1 b2 b4))
def v202_5 (ya yb yc za zb:Int) (b0 b1 b2:List AV) (b4:Int):Int:=(v224_5 (v224_3 ya yb yc za b0 b1 b2 b4) (v224_4 ya yb yc za b0 b1 b2 b4) (v224_5 ya yb yc za b0 b1 b2 b4) zb (v224_0 ya yb yc za b0 b1 b2 b4) (v224_1 ya yb yc za b0 b1 b2 b4) (v224_2 ya yb yc za b0 b1 b2 b4) (v224_7 ya yb yc za b0 b1 b2 b4))
def v202_6 (ya yb yc za zb:Int) (b0 b1 b2:List AV) (b4:Int):List AV:=(v225_0 (v224_0 (v224_3 ya yb yc za b0 b1 b2 b4) (v224_4 ya yb yc za b0 b1 b2 b4) (v224_5 ya yb yc za b0 b1 b2 b4) zb (v224_0 ya yb yc za b0 b1 b2 b4) (v224_1 ya yb yc za b0 b1 b2 b4) (v224_2 ya yb yc za b0 b1 b2 b4) (v224_7 ya yb yc za b0 b1 b2 b4)) (v224_1 (v224_3 ya yb yc za b0 b1 b2 b4) (v224_4 ya yb yc za b0 b1 b2 b4) (v224_5 ya yb yc za b0 b1 b2 b4) zb (v224_0 ya yb yc za b0 b1 b2 b4) (v224_1 ya yb yc za b0 b1 b2 b4) (v224_2 ya yb yc za b0 b1 b2 b4) (v224_7 ya yb yc za b0 b1 b2 b4)) (v224_2 (v224_3 ya yb yc za b0 b1 b2 b4) (v224_4 ya yb yc za b0 b1 b2 b4) (v224_5 ya yb yc za b0 b1 b2 b4) zb (v224_0 ya yb yc za b0 b1 b2 b4) (v224_1 ya yb yc za b0 b1 b2 b4) (v224_2 ya yb yc za b0 b1 b2 b4) (v224_7 ya yb yc za b0 b1 b2 b4)) (v19_0 (v224_0 (v224_3 ya yb yc za b0 b1 b2 b4) (v224_4 ya yb yc za b0 b1 b2 b4) (v224_5 ya yb yc za b0 b1 b2 b4) zb (v224_0 ya yb yc za b0 b1 b2 b4) (v224_1 ya yb yc za b0 b1 b2 b4) (v224_2 ya yb yc za b0 b1 b2 b4) (v224_7 ya yb yc za b0 b1 b2 b4)) (v224_1 (v224_3 ya yb yc za b0 b1 b2 b4) (v224_4 ya yb yc za b0 b1 b2 b4) (v224_5 ya yb yc za b0 b1 b2 b4) zb (v224_0 ya yb yc za b0 b1 b2 b4) (v224_1 ya yb yc za b0 b1 b2 b4) (v224_2 ya yb yc za b0 b1 b2 b4) (v224_7 ya yb yc za b0 b1 b2 b4)) (v224_2 (v224_3 ya yb yc za b0 b1 b2 b4) (v224_4 ya yb yc za b0 b1 b2 b4) (v224_5 ya yb yc za b0 b1 b2 b4) zb (v224_0 ya yb yc za b0 b1 b2 b4) (v224_1 ya yb yc za b0 b1 b2 b4) (v224_2 ya yb yc za b0 b1 b2 b4) (v224_7 ya yb yc za b0 b1 b2 b4)) za) (v19_0 (v224_0 (v224_3 ya yb yc za b0 b1 b2 b4) (v224_4 ya yb yc za b0 b1 b2 b4) (v224_5 ya yb yc za b0 b1 b2 b4) zb (v224_0 ya yb yc za b0 b1 b2 b4) (v224_1 ya yb yc za b0 b1 b2 b4) (v224_2 ya yb yc za b0 b1 b2 b4) (v224_7 ya yb yc za b0 b1 b2 b4)) (v224_1 (v224_3 ya yb yc za b0 b1 b2 b4) (v224_4 ya yb yc za b0 b1 b2 b4) (v224_5 ya yb yc za b0 b1 b2 b4) zb (v224_0 ya yb yc za b0 b1 b2 b4) (v224_1 ya yb yc za b0 b1 b2 b4) (v224_2 ya yb yc za b0 b1 b2 b4) (v224_7 ya yb yc za b0 b1 b2 b4)) (v224_2 (v224_3 ya yb yc za b0 b1 b2 b4) (v224_4 ya yb yc za b0 b1 b2 b4) (v224_5 ya yb yc za b0 b1 b2 b4) zb (v224_0 ya yb yc za b0 b1 b2 b4) (v224_1 ya yb yc za b0 b1 b2 b4) (v224_2 ya yb yc za b0 b1 b2 b4) (v224_7 ya yb yc za b0 b1 b2 b4)) zb))
def v202_7 (ya yb yc za zb:Int) (b0 b1 b2:List AV) (b4:Int):Int:=IntKind.i64.wrap ((v224_6 ya yb yc za b0 b1 b2 b4)+(v224_6 (v224_3 ya yb yc za b0 b1 b2 b4) (v224_4 ya yb yc za b0 b1 b2 b4) (v224_5 ya yb yc za b0 b1 b2 b4) zb (v224_0 ya yb yc za b0 b1 b2 b4) (v224_1 ya yb yc za b0 b1 b2 b4) (v224_2 ya yb yc za b0 b1 b2 b4) (v224_7 ya yb yc za b0 b1 b2 b4)))
def v202_8 (ya yb yc za zb:Int) (b0 b1 b2:List AV) (b4:Int):Int:=(v224_7 (v224_3 ya yb yc za b0 b1 b2 b4) (v224_4 ya yb yc za b0 b1 b2 b4) (v224_5 ya yb yc za b0 b1 b2 b4) zb (v224_0 ya yb yc za b0 b1 b2 b4) (v224_1 ya yb yc za b0 b1 b2 b4) (v224_2 ya yb yc za b0 b1 b2 b4) (v224_7 ya yb yc za b0 b1 b2 b4))
theorem e202 (ya yb yc za zb:Int) (b0 b1 b2:List AV) (b4:Int) (K:List AV→List (Option Blk)→Option AV):inlA c202 1 202 [AV.agg [AV.own [1],AV.own [2],AV.own [3]],AV.agg [Ai ya,Ai yb,Ai yc],AV.agg [Ai za,Ai zb],AV.fn 203 [AV.ptr [4] 0 0,AV.ptr [5] 0 0]] [0] (canH 1 [⟨false,[.int .i64],b0⟩,⟨false,[.int .i64],b1⟩,⟨false,[.int .i64,.int .i64],b2⟩,⟨true,[],[AV.fn 177 []]⟩,⟨true,[],[Ai b4]⟩]) (keepG Tryz.prog 5 [27,82,24,3] [0,1,2] K)=((fun (x1:List AV) (x2:List AV) (x3:List AV) (x4:Int) (x5:Int) (x6:Int) (x7:Int) (x8:Int)=>((fun (x9:List AV) (x10:List AV) (x11:List AV) (x12:Int) (x13:Int) (x14:Int) (x15:Int) (x16:Int)=>(bif q224 ya yb yc za b0 b1 b2 b4 then (bif q224 x4 x5 x6 zb x1 x2 x3 x8 then (bif q19 x9 x10 x11 za then (bif q19 x9 x10 x11 zb then (bif q225 x9 x10 x11 (v19_0 x9 x10 x11 za) (v19_0 x9 x10 x11 zb) then K [AV.agg [AV.fl [.int .i64] x9,AV.fl [.int .i64] x10,AV.fl [.int .i64,.int .i64] x11],AV.agg [Ai x12,Ai x13,Ai x14],AV.fl [.int .i64] (v225_0 x9 x10 x11 (v19_0 x9 x10 x11 za) (v19_0 x9 x10 x11 zb)),Ai (IntKind.i64.wrap (x7+x15))] [none,none,none,some ⟨true,[],[AV.fn 177 []]⟩,some ⟨true,[],[Ai x16]⟩]
 else none)
 else none)
 else none)
 else none)
 else none)) (v224_0 x4 x5 x6 zb x1 x2 x3 x8) (v224_1 x4 x5 x6 zb x1 x2 x3 x8) (v224_2 x4 x5 x6 zb x1 x2 x3 x8) (v224_3 x4 x5 x6 zb x1 x2 x3 x8) (v224_4 x4 x5 x6 zb x1 x2 x3 x8) (v224_5 x4 x5 x6 zb x1 x2 x3 x8) (v224_6 x4 x5 x6 zb x1 x2 x3 x8) (v224_7 x4 x5 x6 zb x1 x2 x3 x8))) (v224_0 ya yb yc za b0 b1 b2 b4) (v224_1 ya yb yc za b0 b1 b2 b4) (v224_2 ya yb yc za b0 b1 b2 b4) (v224_3 ya yb yc za b0 b1 b2 b4) (v224_4 ya yb yc za b0 b1 b2 b4) (v224_5 ya yb yc za b0 b1 b2 b4) (v224_6 ya yb yc za b0 b1 b2 b4) (v224_7 ya yb yc za b0 b1 b2 b4)):=by kernel_rfl
theorem r202 (ya yb yc za zb:Int) (b0 b1 b2:List AV) (b4:Int) (K:List AV→List (Option Blk)→Option AV) (h:q202 ya yb yc za zb b0 b1 b2 b4=true):inlA c202 1 202 [AV.agg [AV.own [1],AV.own [2],AV.own [3]],AV.agg [AV.int .i64 ya,AV.int .i64 yb,AV.int .i64 yc],AV.agg [AV.int .i64 za,AV.int .i64 zb],AV.fn 203 [AV.ptr [4] 0 0,AV.ptr [5] 0 0]] [0] (canH 1 [⟨false,[.int .i64],b0⟩,⟨false,[.int .i64],b1⟩,⟨false,[.int .i64,.int .i64],b2⟩,⟨true,[],[AV.fn 177 []]⟩,⟨true,[],[AV.int .i64 b4]⟩]) (keepG Tryz.prog 5 [27,82,24,3] [0,1,2] K)=K [AV.agg [AV.fl [.int .i64] (v202_0 ya yb yc za zb b0 b1 b2 b4),AV.fl [.int .i64] (v202_1 ya yb yc za zb b0 b1 b2 b4),AV.fl [.int .i64,.int .i64] (v202_2 ya yb yc za zb b0 b1 b2 b4)],AV.agg [AV.int .i64 (v202_3 ya yb yc za zb b0 b1 b2 b4),AV.int .i64 (v202_4 ya yb yc za zb b0 b1 b2 b4),AV.int .i64 (v202_5 ya yb yc za zb b0 b1 b2 b4)],AV.fl [.int .i64] (v202_6 ya yb yc za zb b0 b1 b2 b4),AV.int .i64 (v202_7 ya yb yc za zb b0 b1 b2 b4)] [none,none,none,some ⟨true,[],[AV.fn 177 []]⟩,some ⟨true,[],[AV.int .i64 (v202_8 ya yb yc za zb b0 b1 b2 b4)]⟩]:=(e202 ya yb yc za zb b0 b1 b2 b4 K).trans ((brL (brL (brL (brL (brL1 (fun _=>rfl)))))) h)
def m202:GModel
 | [.agg [.own g0,.own g1,.own g2],.agg [.int .i64 ya,.int .i64 yb,.int .i64 yc],.agg [.int .i64 za,.int .i64 zb],.fn g3 [.ptr g4 g5 g6,.ptr g7 g8 g9]],[⟨false,g10,b0⟩,⟨false,g11,b1⟩,⟨false,g12,b2⟩,⟨true,[],[.fn g13 []]⟩,⟨true,[],[.int .i64 b4]⟩]=>bif nmEq g0 ([1]) && nmEq g1 ([2]) && nmEq g2 ([3]) && Nat.beq g3 203 && nmEq g4 ([4]) && Nat.beq g5 0 && Nat.beq g6 0 && nmEq g7 ([5]) && Nat.beq g8 0 && Nat.beq g9 0 && ctsEq g10 ([.int .i64]) && ctsEq g11 ([.int .i64]) && ctsEq g12 ([.int .i64,.int .i64]) && Nat.beq g13 177 then some (q202 ya yb yc za zb b0 b1 b2 b4,[AV.agg [AV.fl [.int .i64] (v202_0 ya yb yc za zb b0 b1 b2 b4),AV.fl [.int .i64] (v202_1 ya yb yc za zb b0 b1 b2 b4),AV.fl [.int .i64,.int .i64] (v202_2 ya yb yc za zb b0 b1 b2 b4)],AV.agg [AV.int .i64 (v202_3 ya yb yc za zb b0 b1 b2 b4),AV.int .i64 (v202_4 ya yb yc za zb b0 b1 b2 b4),AV.int .i64 (v202_5 ya yb yc za zb b0 b1 b2 b4)],AV.fl [.int .i64] (v202_6 ya yb yc za zb b0 b1 b2 b4),AV.int .i64 (v202_7 ya yb yc za zb b0 b1 b2 b4)],[none,none,none,some ⟨true,[],[AV.fn 177 []]⟩,some ⟨true,[],[AV.int .i64 (v202_8 ya yb yc za zb b0 b1 b2 b4)]⟩]) else none
 | _,_=>none
theorem k202:Known Tryz.prog 202:=⟨Tryz.f202,Tryz.func202,by kernel_rfl,by kernel_rfl⟩
theorem meets202:MeetsG Tryz.prog 202 m202:=by
 refine mg (rt:=[27,82,24,3]) (gs:=[0,1,2]) (lvl:=0) (cf:=c202) rfl mixed k202 Tryz.func202 (by kernel_rfl) noLoop (allT_cons meets19 (allT_cons meets225 allT_nil)) (allG_cons meets224 allM_nil) noI fun xs bs r bs' h K=>?_
 unfold m202 at h
 split at h
 ·rename_i g0 g1 g2 ya yb yc za zb g3 g4 g5 g6 g7 g8 g9 g10 b0 g11 b1 g12 b2 g13 b4
  obtain ⟨hg,h⟩:=bif_pair h
  simp only [Bool.and_eq_true] at hg
  obtain ⟨⟨⟨⟨⟨⟨⟨⟨⟨⟨⟨⟨⟨q0,q1⟩,q2⟩,q3⟩,q4⟩,q5⟩,q6⟩,q7⟩,q8⟩,q9⟩,q10⟩,q11⟩,q12⟩,q13⟩:=hg
  obtain rfl:=nE q0
  obtain rfl:=nE q1
  obtain rfl:=nE q2
  obtain rfl:=bE q3
  obtain rfl:=nE q4
  obtain rfl:=bE q5
  obtain rfl:=bE q6
  obtain rfl:=nE q7
  obtain rfl:=bE q8
  obtain rfl:=bE q9
  obtain rfl:=cE q10
  obtain rfl:=cE q11
  obtain rfl:=cE q12
  obtain rfl:=bE q13
  obtain ⟨h1,rfl,rfl⟩:=trip_inj h
  exact r202 ya yb yc za zb b0 b1 b2 b4 K h1
 ·cases h
def G176_0 {β:Type} (t22:List AV) (t23:Int) (t24:Int) (h0:List AV) (h1:List AV) (h2:List AV) (h3_0:Int) (h3_1:Int) (h3_2:Int) (h7:List AV) (h8:List AV) (N:((Int × (List AV) × (List AV) × (List AV) × Int × Int × Int × (List AV) × (List AV)))→β) (K:(((List AV) × (List AV) × (List AV) × Int × Int × Int × (List AV) × (List AV)))→β) (d:β):β:=by
 refine (?f0:(List AV)→(List AV)→(List AV)→Int→Int→Int→(List AV)→Int→β) (v202_0 h3_0 h3_1 h3_2 (fI (t22.getD t24.toNat .undef) 0) (fI (t22.getD t24.toNat .undef) 1) h0 h1 h2 t24) (v202_1 h3_0 h3_1 h3_2 (fI (t22.getD t24.toNat .undef) 0) (fI (t22.getD t24.toNat .undef) 1) h0 h1 h2 t24) (v202_2 h3_0 h3_1 h3_2 (fI (t22.getD t24.toNat .undef) 0) (fI (t22.getD t24.toNat .undef) 1) h0 h1 h2 t24) (v202_3 h3_0 h3_1 h3_2 (fI (t22.getD t24.toNat .undef) 0) (fI (t22.getD t24.toNat .undef) 1) h0 h1 h2 t24) (v202_4 h3_0 h3_1 h3_2 (fI (t22.getD t24.toNat .undef) 0) (fI (t22.getD t24.toNat .undef) 1) h0 h1 h2 t24) (v202_5 h3_0 h3_1 h3_2 (fI (t22.getD t24.toNat .undef) 0) (fI (t22.getD t24.toNat .undef) 1) h0 h1 h2 t24) (v202_6 h3_0 h3_1 h3_2 (fI (t22.getD t24.toNat .undef) 0) (fI (t22.getD t24.toNat .undef) 1) h0 h1 h2 t24) (v202_7 h3_0 h3_1 h3_2 (fI (t22.getD t24.toNat .undef) 0) (fI (t22.getD t24.toNat .undef) 1) h0 h1 h2 t24);intro x1 x2 x3 x4 x5 x6 x7 x8
 exact (bif decide (t24<t23) then (bif (decide (0≤t24) && decide (t24<(t22.length:Int))) then (bif q202 h3_0 h3_1 h3_2 (fI (t22.getD t24.toNat .undef) 0) (fI (t22.getD t24.toNat .undef) 1) h0 h1 h2 t24 then (bif (decide ((h7.length+([AV.sl [.int .i64] x7]).length)*24≤140737488355328) && decide ((h7.length+([AV.sl [.int .i64] x7]).length)≤140737488355328)) then (bif (decide ((h8.length+([AV.int .i64 x8]).length)*8≤140737488355328) && decide ((h8.length+([AV.int .i64 x8]).length)≤140737488355328)) then N (IntKind.i64.wrap (t24+1),x1,x2,x3,x4,x5,x6,h7++([AV.sl [.int .i64] x7]),h8++([AV.int .i64 x8]))
 else d)
 else d)
 else d)
 else d)
 else K (h0,h1,h2,h3_0,h3_1,h3_2,h7,h8))
def F176_0 (t22:List AV) (t23 t24:Int) (h0 h1 h2:List AV) (h3_0 h3_1 h3_2:Int) (h7 h8:List AV):Out ((Int × (List AV) × (List AV) × (List AV) × Int × Int × Int × (List AV) × (List AV))) (((List AV) × (List AV) × (List AV) × Int × Int × Int × (List AV) × (List AV))):=G176_0 t22 t23 t24 h0 h1 h2 h3_0 h3_1 h3_2 h7 h8 .next .stop .fail
def R176_0 (t22:List AV) (t23:Int):((Int × (List AV) × (List AV) × (List AV) × Int × Int × Int × (List AV) × (List AV)))→Out ((Int × (List AV) × (List AV) × (List AV) × Int × Int × Int × (List AV) × (List AV))) (((List AV) × (List AV) × (List AV) × Int × Int × Int × (List AV) × (List AV))):=fun s:Int × (List AV) × (List AV) × (List AV) × Int × Int × Int × (List AV) × (List AV)=>F176_0 t22 t23 s.1 s.2.1 s.2.2.1 s.2.2.2.1 s.2.2.2.2.1 s.2.2.2.2.2.1 s.2.2.2.2.2.2.1 s.2.2.2.2.2.2.2.1 s.2.2.2.2.2.2.2.2
def E176_0 (t22:List AV) (t23:Int):((Int × (List AV) × (List AV) × (List AV) × Int × Int × Int × (List AV) × (List AV)))→St:=fun s:Int × (List AV) × (List AV) × (List AV) × Int × Int × Int × (List AV) × (List AV)=>⟨[(5,AV.ptr [0,5] 0 0),(7,AV.ptr [0,7] 0 0),(8,AV.ptr [0,8] 0 0),(11,AV.ptr [0,11] 0 0),(12,AV.own [0,12]),(13,AV.own [0,13]),(22,AV.sl [.int .i64,.int .i64] t22),(23,Ai t23),(24,Ai s.1)],[([0,0,11],⟨false,[.int .i64],s.2.1⟩),([0,1,11],⟨false,[.int .i64],s.2.2.1⟩),([0,2,11],⟨false,[.int .i64,.int .i64],s.2.2.2.1⟩),([0,5],⟨true,[],[AV.agg [Ai s.2.2.2.2.1,Ai s.2.2.2.2.2.1,Ai s.2.2.2.2.2.2.1]]⟩),([0,7],⟨true,[],[AV.fn 177 []]⟩),([0,8],⟨true,[],[AV.agg [AV.snil,AV.snil,AV.snil]]⟩),([0,11],⟨true,[],[AV.agg [AV.own [0,0,11],AV.own [0,1,11],AV.own [0,2,11]]]⟩),([0,12],⟨false,[.sl [.int .i64]],s.2.2.2.2.2.2.2.1⟩),([0,13],⟨false,[.int .i64],s.2.2.2.2.2.2.2.2⟩)]⟩
def K176_0 (t22:List AV) (t23:Int) (k:Kont):(((List AV) × (List AV) × (List AV) × Int × Int × Int × (List AV) × (List AV)))→Option AV:=fun p:(List AV) × (List AV) × (List AV) × Int × Int × Int × (List AV) × (List AV)=>k (.exit 0) ⟨[(8,AV.ptr [0,8] 0 0),(11,AV.ptr [0,11] 0 0),(12,AV.own [0,12]),(13,AV.own [0,13])],[([0,0,11],⟨false,[.int .i64],p.1⟩),([0,1,11],⟨false,[.int .i64],p.2.1⟩),([0,2,11],⟨false,[.int .i64,.int .i64],p.2.2.1⟩),([0,5],⟨true,[],[AV.agg [Ai p.2.2.2.1,Ai p.2.2.2.2.1,Ai p.2.2.2.2.2.1]]⟩),([0,7],⟨true,[],[AV.fn 177 []]⟩),([0,8],⟨true,[],[AV.agg [AV.snil,AV.snil,AV.snil]]⟩),([0,11],⟨true,[],[AV.agg [AV.own [0,0,11],AV.own [0,1,11],AV.own [0,2,11]]]⟩),([0,12],⟨false,[.sl [.int .i64]],p.2.2.2.2.2.2.1⟩),([0,13],⟨false,[.int .i64],p.2.2.2.2.2.2.2⟩)]⟩
def l176_0:LModel:=fun _ _ st k=>match st with
 | ⟨[(5,.ptr g0 g1 g2),(7,.ptr g3 g4 g5),(8,.ptr g6 g7 g8),(11,.ptr g9 g10 g11),(12,.own g12),(13,.own g13),(22,.sl g14 t22),(23,.int .i64 t23),(24,.int .i64 t24)],[(g15,⟨false,g16,h0⟩),(g17,⟨false,g18,h1⟩),(g19,⟨false,g20,h2⟩),(g21,⟨true,[],[.agg [.int .i64 h3_0,.int .i64 h3_1,.int .i64 h3_2]]⟩),(g22,⟨true,[],[.fn g23 []]⟩),(g24,⟨true,[],[.agg [.snil,.snil,.snil]]⟩),(g25,⟨true,[],[.agg [.own g26,.own g27,.own g28]]⟩),(g29,⟨false,g30,h7⟩),(g31,⟨false,g32,h8⟩)]⟩=>bif nmEq g0 ([0,5]) && Nat.beq g1 0 && Nat.beq g2 0 && nmEq g3 ([0,7]) && Nat.beq g4 0 && Nat.beq g5 0 && nmEq g6 ([0,8]) && Nat.beq g7 0 && Nat.beq g8 0 && nmEq g9 ([0,11]) && Nat.beq g10 0 && Nat.beq g11 0 && nmEq g12 ([0,12]) && nmEq g13 ([0,13]) && ctsEq g14 ([.int .i64,.int .i64]) && nmEq g15 ([0,0,11]) && ctsEq g16 ([.int .i64]) && nmEq g17 ([0,1,11]) && ctsEq g18 ([.int .i64]) && nmEq g19 ([0,2,11]) && ctsEq g20 ([.int .i64,.int .i64]) && nmEq g21 ([0,5]) && nmEq g22 ([0,7]) && Nat.beq g23 177 && nmEq g24 ([0,8]) && nmEq g25 ([0,11]) && nmEq g26 ([0,0,11]) && nmEq g27 ([0,1,11]) && nmEq g28 ([0,2,11]) && nmEq g29 ([0,12]) && ctsEq g30 ([.sl [.int .i64]]) && nmEq g31 ([0,13]) && ctsEq g32 ([.int .i64]) then ro (runW (R176_0 t22 t23) ((t23 - t24:Int).toNat+1) (t24,h0,h1,h2,h3_0,h3_1,h3_2,h7,h8)) none (K176_0 t22 t23 k) else none
 | _=>none
noncomputable def c176:Cfg:=cfg Tryz.prog [(176,0,[5,7,8,11,12,13,22,23,24]),(176,999,[8,9,10]),(176,1000,[8,11,12,13]),(176,1001,[5,7,8,11,12,13,22,23,24])] [(96,m96)] [(202,.g m202)] [] [(176,0,l176_0)]
theorem s176_0 (t22:List AV) (t23:Int) (ce:CallE) (k:Kont) (s:Int × (List AV) × (List AV) × (List AV) × Int × Int × Int × (List AV) × (List AV)) (next:St→Option AV):stepA (codeA c176 ce [] 176 0 (sub [1,1,0,1,0,0] (body Tryz.f176))) (normA [] [5,7,8,11,12,13,22,23,24]) next ((E176_0 t22 t23) s) k=G176_0 t22 t23 s.1 s.2.1 s.2.2.1 s.2.2.2.1 s.2.2.2.2.1 s.2.2.2.2.2.1 s.2.2.2.2.2.2.1 s.2.2.2.2.2.2.2.1 s.2.2.2.2.2.2.2.2 (fun s=>next ((E176_0 t22 t23) s)) (K176_0 t22 t23 k) none:=by kernel_rfl
theorem st176_0 (t22:List AV) (t23:Int) (ce:CallE) (k:Kont) (s:(Int × (List AV) × (List AV) × (List AV) × Int × Int × Int × (List AV) × (List AV))) (next:St→Option AV):stepA (codeA c176 ce [] 176 0 (sub [1,1,0,1,0,0] (body Tryz.f176))) (normA [] [5,7,8,11,12,13,22,23,24]) next ((E176_0 t22 t23) s) k=(R176_0 t22 t23 s).el none (fun s=>next ((E176_0 t22 t23) s)) (K176_0 t22 t23 k):=(s176_0 t22 t23 ce k s next).trans (by unfold R176_0;unfold F176_0 G176_0;simp only [el_cond,el_ro,el_sum,el_fail,el_next,el_stop] <;> rfl)
theorem ok176_0 {ce:CallE}:LoopOK c176 ce [] 176 0 (sub [1,1,0,1,0,0] (body Tryz.f176)):=by
 intro m hm st k r h
 obtain rfl:l176_0=m:=Option.some.inj hm
 unfold l176_0 at h
 split at h
 ·rename_i g0 g1 g2 g3 g4 g5 g6 g7 g8 g9 g10 g11 g12 g13 g14 t22 t23 t24 g15 g16 h0 g17 g18 h1 g19 g20 h2 g21 h3_0 h3_1 h3_2 g22 g23 g24 g25 g26 g27 g28 g29 g30 h7 g31 g32 h8
  obtain ⟨hg,h⟩:=bif_some h
  simp only [Bool.and_eq_true] at hg
  obtain ⟨⟨⟨⟨⟨⟨⟨⟨⟨⟨⟨⟨⟨⟨⟨⟨⟨⟨⟨⟨⟨⟨⟨⟨⟨⟨⟨⟨⟨⟨⟨⟨q0,q1⟩,q2⟩,q3⟩,q4⟩,q5⟩,q6⟩,q7⟩,q8⟩,q9⟩,q10⟩,q11⟩,q12⟩,q13⟩,q14⟩,q15⟩,q16⟩,q17⟩,q18⟩,q19⟩,q20⟩,q21⟩,q22⟩,q23⟩,q24⟩,q25⟩,q26⟩,q27⟩,q28⟩,q29⟩,q30⟩,q31⟩,q32⟩:=hg
  obtain rfl:=nE q0
  obtain rfl:=bE q1
  obtain rfl:=bE q2
  obtain rfl:=nE q3
  obtain rfl:=bE q4
  obtain rfl:=bE q5
  obtain rfl:=nE q6
  obtain rfl:=bE q7
  obtain rfl:=bE q8
  obtain rfl:=nE q9
  obtain rfl:=bE q10
  obtain rfl:=bE q11
  obtain rfl:=nE q12
  obtain rfl:=nE q13
  obtain rfl:=cE q14
  obtain rfl:=nE q15
  obtain rfl:=cE q16
  obtain rfl:=nE q17
  obtain rfl:=cE q18
  obtain rfl:=nE q19
  obtain rfl:=cE q20
  obtain rfl:=nE q21
  obtain rfl:=nE q22
  obtain rfl:=bE q23
  obtain rfl:=nE q24
  obtain rfl:=nE q25
  obtain rfl:=nE q26
  obtain rfl:=nE q27
  obtain rfl:=nE q28
  obtain rfl:=nE q29
  obtain rfl:=cE q30
  obtain rfl:=nE q31
  obtain rfl:=cE q32
  refine ⟨((t23 - t24:Int).toNat+1),?_⟩
  rw [← h]
  exact loop_run (E176_0 t22 t23) (K176_0 t22 t23 k) (st176_0 t22 t23 ce k) _ (t24,h0,h1,h2,h3_0,h3_1,h3_2,h7,h8)
 ·cases h
def q176 (a0:List AV) (ya yb yc:Int) (a2:List AV):Bool:=(q96 a0 && (ro (runW (R176_0 a2 (a2.length:Int)) (((a2.length:Int) - 0:Int).toNat+1) (0,(v96_0 a0),(v96_1 a0),(v96_2 a0),ya,yb,yc,([]:List AV),([]:List AV))) false (fun p38=>true)))
def v176_0 (a0:List AV) (ya yb yc:Int) (a2:List AV):List AV:=(ro (runW (R176_0 a2 (a2.length:Int)) (((a2.length:Int) - 0:Int).toNat+1) (0,(v96_0 a0),(v96_1 a0),(v96_2 a0),ya,yb,yc,([]:List AV),([]:List AV))) [] (fun p38=>p38.1))
def v176_1 (a0:List AV) (ya yb yc:Int) (a2:List AV):List AV:=(ro (runW (R176_0 a2 (a2.length:Int)) (((a2.length:Int) - 0:Int).toNat+1) (0,(v96_0 a0),(v96_1 a0),(v96_2 a0),ya,yb,yc,([]:List AV),([]:List AV))) [] (fun p38=>p38.2.1))
def v176_2 (a0:List AV) (ya yb yc:Int) (a2:List AV):List AV:=(ro (runW (R176_0 a2 (a2.length:Int)) (((a2.length:Int) - 0:Int).toNat+1) (0,(v96_0 a0),(v96_1 a0),(v96_2 a0),ya,yb,yc,([]:List AV),([]:List AV))) [] (fun p38=>p38.2.2.1))
def v176_3 (a0:List AV) (ya yb yc:Int) (a2:List AV):List AV:=(ro (runW (R176_0 a2 (a2.length:Int)) (((a2.length:Int) - 0:Int).toNat+1) (0,(v96_0 a0),(v96_1 a0),(v96_2 a0),ya,yb,yc,([]:List AV),([]:List AV))) [] (fun p38=>p38.2.2.2.2.2.2.1))
def v176_4 (a0:List AV) (ya yb yc:Int) (a2:List AV):List AV:=(ro (runW (R176_0 a2 (a2.length:Int)) (((a2.length:Int) - 0:Int).toNat+1) (0,(v96_0 a0),(v96_1 a0),(v96_2 a0),ya,yb,yc,([]:List AV),([]:List AV))) [] (fun p38=>p38.2.2.2.2.2.2.2))
theorem e176 (a0:List AV) (ya yb yc:Int) (a2:List AV):funA c176 0 176 [AV.sl [.int .i64] a0,AV.agg [Ai ya,Ai yb,Ai yc],AV.sl [.int .i64,.int .i64] a2,AV.fn 177 []]=(bif q96 a0 then (ro (runW (R176_0 a2 (a2.length:Int)) (((a2.length:Int) - 0:Int).toNat+1) (0,(v96_0 a0),(v96_1 a0),(v96_2 a0),ya,yb,yc,([]:List AV),([]:List AV))) none (fun p38=>some (AV.tup [AV.agg [AV.fl [.int .i64] p38.1,AV.fl [.int .i64] p38.2.1,AV.fl [.int .i64,.int .i64] p38.2.2.1],AV.fl [.sl [.int .i64]] p38.2.2.2.2.2.2.1,AV.fl [.int .i64] p38.2.2.2.2.2.2.2])))
 else none):=by kernel_rfl
def m176:TModel
 | [.sl g0 a0,.agg [.int .i64 ya,.int .i64 yb,.int .i64 yc],.sl g1 a2,.fn g2 []]=>bif ctsEq g0 ([.int .i64]) && ctsEq g1 ([.int .i64,.int .i64]) && Nat.beq g2 177 then some (q176 a0 ya yb yc a2,AV.tup [AV.agg [AV.fl [.int .i64] (v176_0 a0 ya yb yc a2),AV.fl [.int .i64] (v176_1 a0 ya yb yc a2),AV.fl [.int .i64,.int .i64] (v176_2 a0 ya yb yc a2)],AV.fl [.sl [.int .i64]] (v176_3 a0 ya yb yc a2),AV.fl [.int .i64] (v176_4 a0 ya yb yc a2)]) else none
 | _=>none
theorem k176:Known Tryz.prog 176:=⟨Tryz.f176,Tryz.func176,by kernel_rfl,by kernel_rfl⟩
theorem meets176:Meets Tryz.prog 176 m176:=by
 refine mt (lvl:=0) (cf:=c176) rfl mixed k176 Tryz.func176 (by kernel_rfl) (loops_cons ok176_0 noLoop) (allT_cons meets96 allT_nil) (allG_cons meets202 allM_nil) noI fun xs r h=>?_
 unfold m176 at h
 split at h
 ·rename_i g0 a0 ya yb yc g1 a2 g2
  obtain ⟨hg,h⟩:=bif_pair h
  simp only [Bool.and_eq_true] at hg
  obtain ⟨⟨q0,q1⟩,q2⟩:=hg
  obtain rfl:=cE q0
  obtain rfl:=cE q1
  obtain rfl:=bE q2
  obtain ⟨h1,rfl⟩:=pair_inj h
  exact (e176 a0 ya yb yc a2).trans ((brL (brO (fun o:Option (((List AV) × (List AV) × (List AV) × Int × Int × Int × (List AV) × (List AV)))=>some (AV.tup [AV.agg [AV.fl [.int .i64] (ro o [] (fun p38=>p38.1)),AV.fl [.int .i64] (ro o [] (fun p38=>p38.2.1)),AV.fl [.int .i64,.int .i64] (ro o [] (fun p38=>p38.2.2.1))],AV.fl [.sl [.int .i64]] (ro o [] (fun p38=>p38.2.2.2.2.2.2.1)),AV.fl [.int .i64] (ro o [] (fun p38=>p38.2.2.2.2.2.2.2))])) (fun p38=>(fun _=>rfl)))) h1)
 ·cases h
noncomputable def c122:Cfg:=cfg Tryz.prog [(122,999,[6,7,8])] [(121,m121),(176,m176)] [] [] []
def q122 (a0:List AV) (ya yb yc:Int) (a2:List AV):Bool:=(q121 a0 ya yb yc a2 && (bif !(v121_0 a0 ya yb yc a2) then true else q176 a0 ya yb yc a2))
def v122_0 (a0:List AV) (ya yb yc:Int) (a2:List AV):List AV:=(bif !(v121_0 a0 ya yb yc a2) then ([]:List AV) else (v176_0 a0 ya yb yc a2))
def v122_1 (a0:List AV) (ya yb yc:Int) (a2:List AV):List AV:=(bif !(v121_0 a0 ya yb yc a2) then ([]:List AV) else (v176_1 a0 ya yb yc a2))
def v122_2 (a0:List AV) (ya yb yc:Int) (a2:List AV):List AV:=(bif !(v121_0 a0 ya yb yc a2) then ([]:List AV) else (v176_2 a0 ya yb yc a2))
def v122_3 (a0:List AV) (ya yb yc:Int) (a2:List AV):List AV:=(bif !(v121_0 a0 ya yb yc a2) then ([]:List AV) else (v176_3 a0 ya yb yc a2))
def v122_4 (a0:List AV) (ya yb yc:Int) (a2:List AV):List AV:=(bif !(v121_0 a0 ya yb yc a2) then ([]:List AV) else (v176_4 a0 ya yb yc a2))
theorem e122 (a0:List AV) (ya yb yc:Int) (a2:List AV):funA c122 0 122 [AV.sl [.int .i64] a0,AV.agg [Ai ya,Ai yb,Ai yc],AV.sl [.int .i64,.int .i64] a2]=(bif q121 a0 ya yb yc a2 then (bif !(v121_0 a0 ya yb yc a2) then some (AV.tup [AV.agg [AV.fl [.int .i64] ([]:List AV),AV.fl [.int .i64] ([]:List AV),AV.fl [.int .i64,.int .i64] ([]:List AV)],AV.fl [.sl [.int .i64]] ([]:List AV),AV.fl [.int .i64] ([]:List AV)])
 else (bif q176 a0 ya yb yc a2 then some (AV.tup [AV.agg [AV.fl [.int .i64] (v176_0 a0 ya yb yc a2),AV.fl [.int .i64] (v176_1 a0 ya yb yc a2),AV.fl [.int .i64,.int .i64] (v176_2 a0 ya yb yc a2)],AV.fl [.sl [.int .i64]] (v176_3 a0 ya yb yc a2),AV.fl [.int .i64] (v176_4 a0 ya yb yc a2)])
 else none))
 else none):=by kernel_rfl
def m122:TModel
 | [.sl g0 a0,.agg [.int .i64 ya,.int .i64 yb,.int .i64 yc],.sl g1 a2]=>bif ctsEq g0 ([.int .i64]) && ctsEq g1 ([.int .i64,.int .i64]) then some (q122 a0 ya yb yc a2,AV.tup [AV.agg [AV.fl [.int .i64] (v122_0 a0 ya yb yc a2),AV.fl [.int .i64] (v122_1 a0 ya yb yc a2),AV.fl [.int .i64,.int .i64] (v122_2 a0 ya yb yc a2)],AV.fl [.sl [.int .i64]] (v122_3 a0 ya yb yc a2),AV.fl [.int .i64] (v122_4 a0 ya yb yc a2)]) else none
 | _=>none
theorem k122:Known Tryz.prog 122:=⟨Tryz.f122,Tryz.func122,by kernel_rfl,by kernel_rfl⟩
theorem meets122:Meets Tryz.prog 122 m122:=by
 refine mt (lvl:=0) (cf:=c122) rfl mixed k122 Tryz.func122 (by kernel_rfl) noLoop (allT_cons meets121 (allT_cons meets176 allT_nil)) allM_nil noI fun xs r h=>?_
 unfold m122 at h
 split at h
 ·rename_i g0 a0 ya yb yc g1 a2
  obtain ⟨hg,h⟩:=bif_pair h
  simp only [Bool.and_eq_true] at hg
  obtain ⟨q0,q1⟩:=hg
  obtain rfl:=cE q0
  obtain rfl:=cE q1
  obtain ⟨h1,rfl⟩:=pair_inj h
  exact (e122 a0 ya yb yc a2).trans ((brL (br (fun b=>some (AV.tup [AV.agg [AV.fl [.int .i64] (bif b then ([]:List AV) else (v176_0 a0 ya yb yc a2)),AV.fl [.int .i64] (bif b then ([]:List AV) else (v176_1 a0 ya yb yc a2)),AV.fl [.int .i64,.int .i64] (bif b then ([]:List AV) else (v176_2 a0 ya yb yc a2))],AV.fl [.sl [.int .i64]] (bif b then ([]:List AV) else (v176_3 a0 ya yb yc a2)),AV.fl [.int .i64] (bif b then ([]:List AV) else (v176_4 a0 ya yb yc a2))])) (fun _=>rfl) (brL1 (fun _=>rfl)))) h1)
 ·cases h
def G92_0 {β:Type} (t6:List AV) (t7:Int) (t3:Int) (t8:Int) (N:((Int × Int))→β) (K:(Int)→β) (d:β):β:=(bif decide (t8<t7) then (bif (decide (0≤t8) && decide (t8<(t6.length:Int))) then N (IntKind.i64.wrap (t3+fI (t6.getD t8.toNat .undef) 0),IntKind.i64.wrap (t8+1))
 else d)
 else K t3)
def F92_0 (t6:List AV) (t7 t3 t8:Int):Out ((Int × Int)) (Int):=G92_0 t6 t7 t3 t8 .next .stop .fail
def R92_0 (t6:List AV) (t7:Int):((Int × Int))→Out ((Int × Int)) (Int):=fun s:Int × Int=>F92_0 t6 t7 s.1 s.2
def E92_0 (t6:List AV) (t7:Int):((Int × Int))→St:=fun s:Int × Int=>⟨[(3,Ai s.1),(6,AV.sl [.int .i64] t6),(7,Ai t7),(8,Ai s.2)],[]⟩
def K92_0 (t6:List AV) (t7:Int) (k:Kont):(Int)→Option AV:=fun p:Int=>k (.exit 0) ⟨[(3,Ai p)],[]⟩
def l92_0:LModel:=fun _ _ st k=>match st with
 | ⟨[(3,.int .i64 t3),(6,.sl g0 t6),(7,.int .i64 t7),(8,.int .i64 t8)],[]⟩=>bif ctsEq g0 ([.int .i64]) then ro (runW (R92_0 t6 t7) ((t7 - t8:Int).toNat+1) (t3,t8)) none (K92_0 t6 t7 k) else none
 | _=>none
noncomputable def c92:Cfg:=cfg Tryz.prog [(92,0,[3,6,7,8]),(92,999,[2]),(92,1000,[3]),(92,1001,[3,6,7,8])] [] [] [] [(92,0,l92_0)]
theorem s92_0 (t6:List AV) (t7:Int) (ce:CallE) (k:Kont) (s:Int × Int) (next:St→Option AV):stepA (codeA c92 ce [] 92 0 (sub [1,1,0,1,0,0] (body Tryz.f92))) (normA [] [3,6,7,8]) next ((E92_0 t6 t7) s) k=G92_0 t6 t7 s.1 s.2 (fun s=>next ((E92_0 t6 t7) s)) (K92_0 t6 t7 k) none:=by kernel_rfl
theorem st92_0 (t6:List AV) (t7:Int) (ce:CallE) (k:Kont) (s:(Int × Int)) (next:St→Option AV):stepA (codeA c92 ce [] 92 0 (sub [1,1,0,1,0,0] (body Tryz.f92))) (normA [] [3,6,7,8]) next ((E92_0 t6 t7) s) k=(R92_0 t6 t7 s).el none (fun s=>next ((E92_0 t6 t7) s)) (K92_0 t6 t7 k):=(s92_0 t6 t7 ce k s next).trans (by unfold R92_0;unfold F92_0 G92_0;simp only [el_cond,el_ro,el_sum,el_fail,el_next,el_stop] <;> rfl)
theorem ok92_0 {ce:CallE}:LoopOK c92 ce [] 92 0 (sub [1,1,0,1,0,0] (body Tryz.f92)):=by
 intro m hm st k r h
 obtain rfl:l92_0=m:=Option.some.inj hm
 unfold l92_0 at h
 split at h
 ·rename_i t3 g0 t6 t7 t8
  obtain ⟨hg,h⟩:=bif_some h
  have q0:=hg
  obtain rfl:=cE q0
  refine ⟨((t7 - t8:Int).toNat+1),?_⟩
  rw [← h]
  exact loop_run (E92_0 t6 t7) (K92_0 t6 t7 k) (st92_0 t6 t7 ce k) _ (t3,t8)
 ·cases h
def q92 (a0:List AV):Bool:=(ro (runW (R92_0 a0 (a0.length:Int)) (((a0.length:Int) - 0:Int).toNat+1) (0,0)) false (fun p39=>true))
def v92_0 (a0:List AV):Int:=(ro (runW (R92_0 a0 (a0.length:Int)) (((a0.length:Int) - 0:Int).toNat+1) (0,0)) 0 (fun p39=>p39))
theorem e92 (a0:List AV):funA c92 0 92 [AV.sl [.int .i64] a0]=(ro (runW (R92_0 a0 (a0.length:Int)) (((a0.length:Int) - 0:Int).toNat+1) (0,0)) none (fun p39=>some (Ai p39))):=by kernel_rfl
def m92:TModel
 | [.sl g0 a0]=>bif ctsEq g0 ([.int .i64]) then some (q92 a0,AV.int .i64 (v92_0 a0)) else none
 | _=>none
theorem k92:Known Tryz.prog 92:=⟨Tryz.f92,Tryz.func92,by kernel_rfl,by kernel_rfl⟩
theorem meets92:Meets Tryz.prog 92 m92:=by
 refine mt (lvl:=0) (cf:=c92) rfl mixed k92 Tryz.func92 (by kernel_rfl) (loops_cons ok92_0 noLoop) allT_nil allM_nil noI fun xs r h=>?_
 unfold m92 at h
 split at h
 ·rename_i g0 a0
  obtain ⟨hg,h⟩:=bif_pair h
  have q0:=hg
  obtain rfl:=cE q0
  obtain ⟨h1,rfl⟩:=pair_inj h
  exact (e92 a0).trans ((brO (fun o:Option (Int)=>some (Ai (ro o 0 (fun p39=>p39)))) (fun p39=>(fun _=>rfl))) h1)
 ·cases h
def G123_0 {β:Type} (t0:List AV) (t3:Int) (t4:Int) (N:((Int × Int))→β) (K:(Int)→β) (d:β):β:=(bif decide (t4<(t0.length:Int)) then (bif (decide (0≤t4) && decide (t4<(t0.length:Int))) then N ((if fI (t0.getD t4.toNat .undef) 0 > t3 then fI (t0.getD t4.toNat .undef) 0 else t3),IntKind.i64.wrap (t4+1))
 else d)
 else K t3)
def F123_0 (t0:List AV) (t3 t4:Int):Out ((Int × Int)) (Int):=G123_0 t0 t3 t4 .next .stop .fail
def R123_0 (t0:List AV):((Int × Int))→Out ((Int × Int)) (Int):=fun s:Int × Int=>F123_0 t0 s.1 s.2
def E123_0 (t0:List AV):((Int × Int))→St:=fun s:Int × Int=>⟨[(0,AV.sl [.int .i64] t0),(3,Ai s.1),(4,Ai s.2)],[]⟩
def K123_0 (t0:List AV) (k:Kont):(Int)→Option AV:=fun p:Int=>k (.exit 0) ⟨[(3,Ai p)],[]⟩
def l123_0:LModel:=fun _ _ st k=>match st with
 | ⟨[(0,.sl g0 t0),(3,.int .i64 t3),(4,.int .i64 t4)],[]⟩=>bif ctsEq g0 ([.int .i64]) then ro (runW (R123_0 t0) (((t0.length:Int) - t4:Int).toNat+1) (t3,t4)) none (K123_0 t0 k) else none
 | _=>none
noncomputable def c123:Cfg:=cfg Tryz.prog [(123,0,[0,3,4]),(123,999,[2]),(123,1000,[3]),(123,1001,[0,3,4])] [] [] [] [(123,0,l123_0)]
theorem s123_0 (t0:List AV) (ce:CallE) (k:Kont) (s:Int × Int) (next:St→Option AV):stepA (codeA c123 ce [] 123 0 (sub [1,1,1,0,1,0,0] (body Tryz.f123))) (normA [] [0,3,4]) next ((E123_0 t0) s) k=G123_0 t0 s.1 s.2 (fun s=>next ((E123_0 t0) s)) (K123_0 t0 k) none:=by kernel_rfl
theorem st123_0 (t0:List AV) (ce:CallE) (k:Kont) (s:(Int × Int)) (next:St→Option AV):stepA (codeA c123 ce [] 123 0 (sub [1,1,1,0,1,0,0] (body Tryz.f123))) (normA [] [0,3,4]) next ((E123_0 t0) s) k=(R123_0 t0 s).el none (fun s=>next ((E123_0 t0) s)) (K123_0 t0 k):=(s123_0 t0 ce k s next).trans (by unfold R123_0;unfold F123_0 G123_0;simp only [el_cond,el_ro,el_sum,el_fail,el_next,el_stop] <;> rfl)
theorem ok123_0 {ce:CallE}:LoopOK c123 ce [] 123 0 (sub [1,1,1,0,1,0,0] (body Tryz.f123)):=by
 intro m hm st k r h
 obtain rfl:l123_0=m:=Option.some.inj hm
 unfold l123_0 at h
 split at h
 ·rename_i g0 t0 t3 t4
  obtain ⟨hg,h⟩:=bif_some h
  have q0:=hg
  obtain rfl:=cE q0
  refine ⟨(((t0.length:Int) - t4:Int).toNat+1),?_⟩
  rw [← h]
  exact loop_run (E123_0 t0) (K123_0 t0 k) (st123_0 t0 ce k) _ (t3,t4)
 ·cases h
def q123 (a0:List AV):Bool:=(!(decide ((a0.length:Int)<1)) && ((decide (0≤0) && decide (0<(a0.length:Int))) && (ro (runW (R123_0 a0) (((a0.length:Int) - 1:Int).toNat+1) (fI (a0.getD (0:Int).toNat .undef) 0,1)) false (fun p40=>true))))
def v123_0 (a0:List AV):Int:=(ro (runW (R123_0 a0) (((a0.length:Int) - 1:Int).toNat+1) (fI (a0.getD (0:Int).toNat .undef) 0,1)) 0 (fun p40=>p40))
theorem e123 (a0:List AV):funA c123 0 123 [AV.sl [.int .i64] a0]=(bif decide ((a0.length:Int)<1) then none
 else (bif (decide (0≤0) && decide (0<(a0.length:Int))) then (ro (runW (R123_0 a0) (((a0.length:Int) - 1:Int).toNat+1) (fI (a0.getD (0:Int).toNat .undef) 0,1)) none (fun p40=>some (Ai p40)))
 else none)):=by kernel_rfl
def m123:TModel
 | [.sl g0 a0]=>bif ctsEq g0 ([.int .i64]) then some (q123 a0,AV.int .i64 (v123_0 a0)) else none
 | _=>none
theorem k123:Known Tryz.prog 123:=⟨Tryz.f123,Tryz.func123,by kernel_rfl,by kernel_rfl⟩
theorem meets123:Meets Tryz.prog 123 m123:=by
 refine mt (lvl:=0) (cf:=c123) rfl mixed k123 Tryz.func123 (by kernel_rfl) (loops_cons ok123_0 noLoop) allT_nil allM_nil noI fun xs r h=>?_
 unfold m123 at h
 split at h
 ·rename_i g0 a0
  obtain ⟨hg,h⟩:=bif_pair h
  have q0:=hg
  obtain rfl:=cE q0
  obtain ⟨h1,rfl⟩:=pair_inj h
  exact (e123 a0).trans ((brR (brL (brO (fun o:Option (Int)=>some (Ai (ro o 0 (fun p40=>p40)))) (fun p40=>(fun _=>rfl))))) h1)
 ·cases h
def G81_0 {β:Type} (t17:Int) (h1:List AV) (t4:Int) (t18:Int) (h0:List AV) (N:((Int × Int × (List AV)))→β) (K:(((List AV)))→β) (d:β):β:=(bif decide (t18<t17) then (bif (decide (0≤t18) && decide (t18<(h1.length:Int))) then (bif decide (fI (h1.getD t18.toNat .undef) 1 > t4) then (bif (decide ((h0.length+([AV.agg [AV.int .i64 t4,AV.int .i64 (fI (h1.getD t18.toNat .undef) 1)]]).length)*16≤140737488355328) && decide ((h0.length+([AV.agg [AV.int .i64 t4,AV.int .i64 (fI (h1.getD t18.toNat .undef) 1)]]).length)≤140737488355328)) then N (fI (h1.getD t18.toNat .undef) 1,IntKind.i64.wrap (t18+1),h0++([AV.agg [AV.int .i64 t4,AV.int .i64 (fI (h1.getD t18.toNat .undef) 1)]]))
 else d)
 else N (fI (h1.getD t18.toNat .undef) 1,IntKind.i64.wrap (t18+1),h0))
 else d)
 else K h0)
def F81_0 (t17:Int) (h1:List AV) (t4 t18:Int) (h0:List AV):Out ((Int × Int × (List AV))) (((List AV))):=G81_0 t17 h1 t4 t18 h0 .next .stop .fail
def R81_0 (t17:Int) (h1:List AV):((Int × Int × (List AV)))→Out ((Int × Int × (List AV))) (((List AV))):=fun s:Int × Int × (List AV)=>F81_0 t17 h1 s.1 s.2.1 s.2.2
def E81_0 (t17:Int) (h1:List AV):((Int × Int × (List AV)))→St:=fun s:Int × Int × (List AV)=>⟨[(3,AV.own [0,3]),(4,Ai s.1),(16,AV.own [0,16]),(17,Ai t17),(18,Ai s.2.1)],[([0,3],⟨false,[.int .i64,.int .i64],s.2.2⟩),([0,16],⟨false,[.int .i64,.int .i64],h1⟩)]⟩
def K81_0 (t17:Int) (h1:List AV) (k:Kont):(((List AV)))→Option AV:=fun p:(List AV)=>k (.exit 0) ⟨[(3,AV.own [0,3])],[([0,3],⟨false,[.int .i64,.int .i64],p⟩),([0,16],⟨false,[.int .i64,.int .i64],h1⟩)]⟩
def l81_0:LModel:=fun _ _ st k=>match st with
 | ⟨[(3,.own g0),(4,.int .i64 t4),(16,.own g1),(17,.int .i64 t17),(18,.int .i64 t18)],[(g2,⟨false,g3,h0⟩),(g4,⟨false,g5,h1⟩)]⟩=>bif nmEq g0 ([0,3]) && nmEq g1 ([0,16]) && nmEq g2 ([0,3]) && ctsEq g3 ([.int .i64,.int .i64]) && nmEq g4 ([0,16]) && ctsEq g5 ([.int .i64,.int .i64]) then ro (runW (R81_0 t17 h1) ((t17 - t18:Int).toNat+1) (t4,t18,h0)) none (K81_0 t17 h1 k) else none
 | _=>none
noncomputable def c81:Cfg:=cfg Tryz.prog [(81,0,[3,4,16,17,18]),(81,999,[2]),(81,1000,[3]),(81,1001,[3,4,16,17,18])] [(152,m152)] [] [] [(81,0,l81_0)]
theorem s81_0 (t17:Int) (h1:List AV) (ce:CallE) (k:Kont) (s:Int × Int × (List AV)) (next:St→Option AV):stepA (codeA c81 ce [] 81 0 (sub [1,1,0,1,0,0] (body Tryz.f81))) (normA [] [3,4,16,17,18]) next ((E81_0 t17 h1) s) k=G81_0 t17 h1 s.1 s.2.1 s.2.2 (fun s=>next ((E81_0 t17 h1) s)) (K81_0 t17 h1 k) none:=by kernel_rfl
theorem st81_0 (t17:Int) (h1:List AV) (ce:CallE) (k:Kont) (s:(Int × Int × (List AV))) (next:St→Option AV):stepA (codeA c81 ce [] 81 0 (sub [1,1,0,1,0,0] (body Tryz.f81))) (normA [] [3,4,16,17,18]) next ((E81_0 t17 h1) s) k=(R81_0 t17 h1 s).el none (fun s=>next ((E81_0 t17 h1) s)) (K81_0 t17 h1 k):=(s81_0 t17 h1 ce k s next).trans (by unfold R81_0;unfold F81_0 G81_0;simp only [el_cond,el_ro,el_sum,el_fail,el_next,el_stop] <;> rfl)
theorem ok81_0 {ce:CallE}:LoopOK c81 ce [] 81 0 (sub [1,1,0,1,0,0] (body Tryz.f81)):=by
 intro m hm st k r h
 obtain rfl:l81_0=m:=Option.some.inj hm
 unfold l81_0 at h
 split at h
 ·rename_i g0 t4 g1 t17 t18 g2 g3 h0 g4 g5 h1
  obtain ⟨hg,h⟩:=bif_some h
  simp only [Bool.and_eq_true] at hg
  obtain ⟨⟨⟨⟨⟨q0,q1⟩,q2⟩,q3⟩,q4⟩,q5⟩:=hg
  obtain rfl:=nE q0
  obtain rfl:=nE q1
  obtain rfl:=nE q2
  obtain rfl:=cE q3
  obtain rfl:=nE q4
  obtain rfl:=cE q5
  refine ⟨((t17 - t18:Int).toNat+1),?_⟩
  rw [← h]
  exact loop_run (E81_0 t17 h1) (K81_0 t17 h1 k) (st81_0 t17 h1 ce k) _ (t4,t18,h0)
 ·cases h
def q81 (xa xb xc:List AV):Bool:=(q152 xc && ((decide (((v152_0 xc).length+([AV.agg [AV.int .i64 0,AV.int .i64 (xa.length:Int)]]).length)*16≤140737488355328) && decide (((v152_0 xc).length+([AV.agg [AV.int .i64 0,AV.int .i64 (xa.length:Int)]]).length)≤140737488355328)) && (ro (runW (R81_0 (((v152_0 xc)++([AV.agg [AV.int .i64 0,AV.int .i64 (xa.length:Int)]])).length:Int) ((v152_0 xc)++([AV.agg [AV.int .i64 0,AV.int .i64 (xa.length:Int)]]))) (((((v152_0 xc)++([AV.agg [AV.int .i64 0,AV.int .i64 (xa.length:Int)]])).length:Int) - 0:Int).toNat+1) (0,0,([]:List AV))) false (fun p41=>true))))
def v81_0 (xa xb xc:List AV):List AV:=(ro (runW (R81_0 (((v152_0 xc)++([AV.agg [AV.int .i64 0,AV.int .i64 (xa.length:Int)]])).length:Int) ((v152_0 xc)++([AV.agg [AV.int .i64 0,AV.int .i64 (xa.length:Int)]]))) (((((v152_0 xc)++([AV.agg [AV.int .i64 0,AV.int .i64 (xa.length:Int)]])).length:Int) - 0:Int).toNat+1) (0,0,([]:List AV))) [] (fun p41=>p41))
theorem e81 (xa xb xc:List AV):funA c81 0 81 [AV.agg [AV.sl [.int .i64] xa,AV.sl [.int .i64] xb,AV.sl [.int .i64,.int .i64] xc]]=(bif q152 xc then (bif (decide (((v152_0 xc).length+([AV.agg [Ai 0,Ai (xa.length:Int)]]).length)*16≤140737488355328) && decide (((v152_0 xc).length+([AV.agg [Ai 0,Ai (xa.length:Int)]]).length)≤140737488355328)) then (ro (runW (R81_0 (((v152_0 xc)++([AV.agg [Ai 0,Ai (xa.length:Int)]])).length:Int) ((v152_0 xc)++([AV.agg [Ai 0,Ai (xa.length:Int)]]))) (((((v152_0 xc)++([AV.agg [Ai 0,Ai (xa.length:Int)]])).length:Int) - 0:Int).toNat+1) (0,0,([]:List AV))) none (fun p41=>some (AV.fl [.int .i64,.int .i64] p41)))
 else none)
 else none):=by kernel_rfl
def m81:TModel
 | [.agg [.sl g0 xa,.sl g1 xb,.sl g2 xc]]=>bif ctsEq g0 ([.int .i64]) && ctsEq g1 ([.int .i64]) && ctsEq g2 ([.int .i64,.int .i64]) then some (q81 xa xb xc,AV.fl [.int .i64,.int .i64] (v81_0 xa xb xc)) else none
 | _=>none
theorem k81:Known Tryz.prog 81:=⟨Tryz.f81,Tryz.func81,by kernel_rfl,by kernel_rfl⟩
theorem meets81:Meets Tryz.prog 81 m81:=by
 refine mt (lvl:=0) (cf:=c81) rfl mixed k81 Tryz.func81 (by kernel_rfl) (loops_cons ok81_0 noLoop) (allT_cons meets152 allT_nil) allM_nil noI fun xs r h=>?_
 unfold m81 at h
 split at h
 ·rename_i g0 xa g1 xb g2 xc
  obtain ⟨hg,h⟩:=bif_pair h
  simp only [Bool.and_eq_true] at hg
  obtain ⟨⟨q0,q1⟩,q2⟩:=hg
  obtain rfl:=cE q0
  obtain rfl:=cE q1
  obtain rfl:=cE q2
  obtain ⟨h1,rfl⟩:=pair_inj h
  exact (e81 xa xb xc).trans ((brL (brL (brO (fun o:Option (((List AV)))=>some (AV.fl [.int .i64,.int .i64] (ro o [] (fun p41=>p41)))) (fun p41=>(fun _=>rfl))))) h1)
 ·cases h
noncomputable def c124:Cfg:=cfg Tryz.prog [(124,999,[2])] [(39,m39),(81,m81)] [] [] []
def q124 (xa xb xc:List AV):Bool:=(q39 xa xb xc && (bif !(v39_0 xa xb xc) then true else q81 xa xb xc))
def v124_0 (xa xb xc:List AV):Int:=(bif !(v39_0 xa xb xc) then 0 else ((v81_0 xa xb xc).length:Int))
theorem e124 (xa xb xc:List AV):funA c124 0 124 [AV.agg [AV.sl [.int .i64] xa,AV.sl [.int .i64] xb,AV.sl [.int .i64,.int .i64] xc]]=(bif q39 xa xb xc then (bif !(v39_0 xa xb xc) then some (Ai 0)
 else (bif q81 xa xb xc then some (Ai ((v81_0 xa xb xc).length:Int))
 else none))
 else none):=by kernel_rfl
def m124:TModel
 | [.agg [.sl g0 xa,.sl g1 xb,.sl g2 xc]]=>bif ctsEq g0 ([.int .i64]) && ctsEq g1 ([.int .i64]) && ctsEq g2 ([.int .i64,.int .i64]) then some (q124 xa xb xc,AV.int .i64 (v124_0 xa xb xc)) else none
 | _=>none
theorem k124:Known Tryz.prog 124:=⟨Tryz.f124,Tryz.func124,by kernel_rfl,by kernel_rfl⟩
theorem meets124:Meets Tryz.prog 124 m124:=by
 refine mt (lvl:=0) (cf:=c124) rfl mixed k124 Tryz.func124 (by kernel_rfl) noLoop (allT_cons meets39 (allT_cons meets81 allT_nil)) allM_nil noI fun xs r h=>?_
 unfold m124 at h
 split at h
 ·rename_i g0 xa g1 xb g2 xc
  obtain ⟨hg,h⟩:=bif_pair h
  simp only [Bool.and_eq_true] at hg
  obtain ⟨⟨q0,q1⟩,q2⟩:=hg
  obtain rfl:=cE q0
  obtain rfl:=cE q1
  obtain rfl:=cE q2
  obtain ⟨h1,rfl⟩:=pair_inj h
  exact (e124 xa xb xc).trans ((brL (br (fun b=>some (Ai (bif b then 0 else ((v81_0 xa xb xc).length:Int)))) (fun _=>rfl) (brL1 (fun _=>rfl)))) h1)
 ·cases h
def G125_0 {β:Type} (t11:Int) (h0:List AV) (t3:Int) (t12:Int) (N:((Int × Int))→β) (K:(Int)→β) (d:β):β:=(bif decide (t12<t11) then (bif (decide (0≤t12) && decide (t12<(h0.length:Int))) then N ((if IntKind.i64.wrap (fI (h0.getD t12.toNat .undef) 1 - fI (h0.getD t12.toNat .undef) 0) > t3 then IntKind.i64.wrap (fI (h0.getD t12.toNat .undef) 1 - fI (h0.getD t12.toNat .undef) 0) else t3),IntKind.i64.wrap (t12+1))
 else d)
 else K t3)
def F125_0 (t11:Int) (h0:List AV) (t3 t12:Int):Out ((Int × Int)) (Int):=G125_0 t11 h0 t3 t12 .next .stop .fail
def R125_0 (t11:Int) (h0:List AV):((Int × Int))→Out ((Int × Int)) (Int):=fun s:Int × Int=>F125_0 t11 h0 s.1 s.2
def E125_0 (t11:Int) (h0:List AV):((Int × Int))→St:=fun s:Int × Int=>⟨[(3,Ai s.1),(10,AV.own [0,10]),(11,Ai t11),(12,Ai s.2)],[([0,10],⟨false,[.int .i64,.int .i64],h0⟩)]⟩
def K125_0 (t11:Int) (h0:List AV) (k:Kont):(Int)→Option AV:=fun p:Int=>k (.exit 0) ⟨[(3,Ai p)],[([0,10],⟨false,[.int .i64,.int .i64],h0⟩)]⟩
def l125_0:LModel:=fun _ _ st k=>match st with
 | ⟨[(3,.int .i64 t3),(10,.own g0),(11,.int .i64 t11),(12,.int .i64 t12)],[(g1,⟨false,g2,h0⟩)]⟩=>bif nmEq g0 ([0,10]) && nmEq g1 ([0,10]) && ctsEq g2 ([.int .i64,.int .i64]) then ro (runW (R125_0 t11 h0) ((t11 - t12:Int).toNat+1) (t3,t12)) none (K125_0 t11 h0 k) else none
 | _=>none
noncomputable def c125:Cfg:=cfg Tryz.prog [(125,0,[3,10,11,12]),(125,999,[2]),(125,1000,[3]),(125,1001,[3,10,11,12])] [(39,m39),(81,m81)] [] [] [(125,0,l125_0)]
theorem s125_0 (t11:Int) (h0:List AV) (ce:CallE) (k:Kont) (s:Int × Int) (next:St→Option AV):stepA (codeA c125 ce [] 125 0 (sub [1,1,1,0,1,0,0] (body Tryz.f125))) (normA [] [3,10,11,12]) next ((E125_0 t11 h0) s) k=G125_0 t11 h0 s.1 s.2 (fun s=>next ((E125_0 t11 h0) s)) (K125_0 t11 h0 k) none:=by kernel_rfl
theorem st125_0 (t11:Int) (h0:List AV) (ce:CallE) (k:Kont) (s:(Int × Int)) (next:St→Option AV):stepA (codeA c125 ce [] 125 0 (sub [1,1,1,0,1,0,0] (body Tryz.f125))) (normA [] [3,10,11,12]) next ((E125_0 t11 h0) s) k=(R125_0 t11 h0 s).el none (fun s=>next ((E125_0 t11 h0) s)) (K125_0 t11 h0 k):=(s125_0 t11 h0 ce k s next).trans (by unfold R125_0;unfold F125_0 G125_0;simp only [el_cond,el_ro,el_sum,el_fail,el_next,el_stop] <;> rfl)
theorem ok125_0 {ce:CallE}:LoopOK c125 ce [] 125 0 (sub [1,1,1,0,1,0,0] (body Tryz.f125)):=by
 intro m hm st k r h
 obtain rfl:l125_0=m:=Option.some.inj hm
 unfold l125_0 at h
 split at h
 ·rename_i t3 g0 t11 t12 g1 g2 h0
  obtain ⟨hg,h⟩:=bif_some h
  simp only [Bool.and_eq_true] at hg
  obtain ⟨⟨q0,q1⟩,q2⟩:=hg
  obtain rfl:=nE q0
  obtain rfl:=nE q1
  obtain rfl:=cE q2
  refine ⟨((t11 - t12:Int).toNat+1),?_⟩
  rw [← h]
  exact loop_run (E125_0 t11 h0) (K125_0 t11 h0 k) (st125_0 t11 h0 ce k) _ (t3,t12)
 ·cases h
def q125 (xa xb xc:List AV):Bool:=(q39 xa xb xc && (bif !(v39_0 xa xb xc) then true else (q81 xa xb xc && (ro (runW (R125_0 ((v81_0 xa xb xc).length:Int) (v81_0 xa xb xc)) ((((v81_0 xa xb xc).length:Int) - 0:Int).toNat+1) (0,0)) false (fun p42=>true)))))
def v125_0 (xa xb xc:List AV):Int:=(bif !(v39_0 xa xb xc) then 0 else (ro (runW (R125_0 ((v81_0 xa xb xc).length:Int) (v81_0 xa xb xc)) ((((v81_0 xa xb xc).length:Int) - 0:Int).toNat+1) (0,0)) 0 (fun p42=>p42)))
theorem e125 (xa xb xc:List AV):funA c125 0 125 [AV.agg [AV.sl [.int .i64] xa,AV.sl [.int .i64] xb,AV.sl [.int .i64,.int .i64] xc]]=(bif q39 xa xb xc then (bif !(v39_0 xa xb xc) then some (Ai 0)
 else (bif q81 xa xb xc then (ro (runW (R125_0 ((v81_0 xa xb xc).length:Int) (v81_0 xa xb xc)) ((((v81_0 xa xb xc).length:Int) - 0:Int).toNat+1) (0,0)) none (fun p42=>some (Ai p42)))
 else none))
 else none):=by kernel_rfl
def m125:TModel
 | [.agg [.sl g0 xa,.sl g1 xb,.sl g2 xc]]=>bif ctsEq g0 ([.int .i64]) && ctsEq g1 ([.int .i64]) && ctsEq g2 ([.int .i64,.int .i64]) then some (q125 xa xb xc,AV.int .i64 (v125_0 xa xb xc)) else none
 | _=>none
theorem k125:Known Tryz.prog 125:=⟨Tryz.f125,Tryz.func125,by kernel_rfl,by kernel_rfl⟩
theorem meets125:Meets Tryz.prog 125 m125:=by
 refine mt (lvl:=0) (cf:=c125) rfl mixed k125 Tryz.func125 (by kernel_rfl) (loops_cons ok125_0 noLoop) (allT_cons meets39 (allT_cons meets81 allT_nil)) allM_nil noI fun xs r h=>?_
 unfold m125 at h
 split at h
 ·rename_i g0 xa g1 xb g2 xc
  obtain ⟨hg,h⟩:=bif_pair h
  simp only [Bool.and_eq_true] at hg
  obtain ⟨⟨q0,q1⟩,q2⟩:=hg
  obtain rfl:=cE q0
  obtain rfl:=cE q1
  obtain rfl:=cE q2
  obtain ⟨h1,rfl⟩:=pair_inj h
  exact (e125 xa xb xc).trans ((brL (br (fun b=>some (Ai (bif b then 0 else (ro (runW (R125_0 ((v81_0 xa xb xc).length:Int) (v81_0 xa xb xc)) ((((v81_0 xa xb xc).length:Int) - 0:Int).toNat+1) (0,0)) 0 (fun p42=>p42))))) (fun _=>rfl) (brL (brO (fun o:Option (Int)=>some (Ai (ro o 0 (fun p42=>p42)))) (fun p42=>(fun _=>rfl)))))) h1)
 ·cases h
noncomputable def c59:Cfg:=cfg Tryz.prog [(59,999,[6,7])] [(92,m92),(121,m121),(122,m122),(123,m123),(124,m124),(125,m125)] [] [] []
def q59 (a0:List AV) (ya yb yc:Int) (a2:List AV):Bool:=(q121 a0 ya yb yc a2 && (bif !(v121_0 a0 ya yb yc a2) then true else (q122 a0 ya yb yc a2 && (q92 (v122_4 a0 ya yb yc a2) && ((decide (((v122_4 a0 ya yb yc a2).length+([AV.int .i64 0]).length)*8≤140737488355328) && decide (((v122_4 a0 ya yb yc a2).length+([AV.int .i64 0]).length)≤140737488355328)) && (q123 ((v122_4 a0 ya yb yc a2)++([AV.int .i64 0])) && (q124 (v122_0 a0 ya yb yc a2) (v122_1 a0 ya yb yc a2) (v122_2 a0 ya yb yc a2) && q125 (v122_0 a0 ya yb yc a2) (v122_1 a0 ya yb yc a2) (v122_2 a0 ya yb yc a2))))))))
def v59_0 (a0:List AV) (ya yb yc:Int) (a2:List AV):Int:=(bif !(v121_0 a0 ya yb yc a2) then 0 else ya)
def v59_1 (a0:List AV) (ya yb yc:Int) (a2:List AV):Int:=(bif !(v121_0 a0 ya yb yc a2) then 0 else (v92_0 (v122_4 a0 ya yb yc a2)))
def v59_2 (a0:List AV) (ya yb yc:Int) (a2:List AV):Int:=(bif !(v121_0 a0 ya yb yc a2) then 0 else (v123_0 ((v122_4 a0 ya yb yc a2)++([AV.int .i64 0]))))
def v59_3 (a0:List AV) (ya yb yc:Int) (a2:List AV):Int:=(bif !(v121_0 a0 ya yb yc a2) then 0 else (v124_0 (v122_0 a0 ya yb yc a2) (v122_1 a0 ya yb yc a2) (v122_2 a0 ya yb yc a2)))
def v59_4 (a0:List AV) (ya yb yc:Int) (a2:List AV):Int:=(bif !(v121_0 a0 ya yb yc a2) then 0 else (v125_0 (v122_0 a0 ya yb yc a2) (v122_1 a0 ya yb yc a2) (v122_2 a0 ya yb yc a2)))
def v59_5 (a0:List AV) (ya yb yc:Int) (a2:List AV):Bool:=(bif !(v121_0 a0 ya yb yc a2) then false else true)
theorem e59 (a0:List AV) (ya yb yc:Int) (a2:List AV):funA c59 0 59 [AV.sl [.int .i64] a0,AV.agg [Ai ya,Ai yb,Ai yc],AV.sl [.int .i64,.int .i64] a2]=((fun (x1:List AV) (x2:List AV) (x3:List AV) (x4:List AV)=>(bif q121 a0 ya yb yc a2 then (bif !(v121_0 a0 ya yb yc a2) then some (AV.tup [AV.agg [Ai 0,Ai 0,Ai 0,Ai 0,Ai 0],AV.bool false])
 else (bif q122 a0 ya yb yc a2 then (bif q92 x4 then (bif (decide ((x4.length+([Ai 0]).length)*8≤140737488355328) && decide ((x4.length+([Ai 0]).length)≤140737488355328)) then (bif q123 (x4++([Ai 0])) then (bif q124 x1 x2 x3 then (bif q125 x1 x2 x3 then some (AV.tup [AV.agg [Ai ya,Ai (v92_0 x4),Ai (v123_0 (x4++([Ai 0]))),Ai (v124_0 x1 x2 x3),Ai (v125_0 x1 x2 x3)],AV.bool true])
 else none)
 else none)
 else none)
 else none)
 else none)
 else none))
 else none)) (v122_0 a0 ya yb yc a2) (v122_1 a0 ya yb yc a2) (v122_2 a0 ya yb yc a2) (v122_4 a0 ya yb yc a2)):=by kernel_rfl
def m59:TModel
 | [.sl g0 a0,.agg [.int .i64 ya,.int .i64 yb,.int .i64 yc],.sl g1 a2]=>bif ctsEq g0 ([.int .i64]) && ctsEq g1 ([.int .i64,.int .i64]) then some (q59 a0 ya yb yc a2,AV.tup [AV.agg [AV.int .i64 (v59_0 a0 ya yb yc a2),AV.int .i64 (v59_1 a0 ya yb yc a2),AV.int .i64 (v59_2 a0 ya yb yc a2),AV.int .i64 (v59_3 a0 ya yb yc a2),AV.int .i64 (v59_4 a0 ya yb yc a2)],AV.bool (v59_5 a0 ya yb yc a2)]) else none
 | _=>none
theorem k59:Known Tryz.prog 59:=⟨Tryz.f59,Tryz.func59,by kernel_rfl,by kernel_rfl⟩
theorem meets59:Meets Tryz.prog 59 m59:=by
 refine mt (lvl:=0) (cf:=c59) rfl mixed k59 Tryz.func59 (by kernel_rfl) noLoop (allT_cons meets92 (allT_cons meets121 (allT_cons meets122 (allT_cons meets123 (allT_cons meets124 (allT_cons meets125 allT_nil)))))) allM_nil noI fun xs r h=>?_
 unfold m59 at h
 split at h
 ·rename_i g0 a0 ya yb yc g1 a2
  obtain ⟨hg,h⟩:=bif_pair h
  simp only [Bool.and_eq_true] at hg
  obtain ⟨q0,q1⟩:=hg
  obtain rfl:=cE q0
  obtain rfl:=cE q1
  obtain ⟨h1,rfl⟩:=pair_inj h
  exact (e59 a0 ya yb yc a2).trans ((brL (br (fun b=>some (AV.tup [AV.agg [Ai (bif b then 0 else ya),Ai (bif b then 0 else (v92_0 (v122_4 a0 ya yb yc a2))),Ai (bif b then 0 else (v123_0 ((v122_4 a0 ya yb yc a2)++([Ai 0])))),Ai (bif b then 0 else (v124_0 (v122_0 a0 ya yb yc a2) (v122_1 a0 ya yb yc a2) (v122_2 a0 ya yb yc a2))),Ai (bif b then 0 else (v125_0 (v122_0 a0 ya yb yc a2) (v122_1 a0 ya yb yc a2) (v122_2 a0 ya yb yc a2)))],AV.bool (bif b then false else true)])) (fun _=>rfl) (brL (brL (brL (brL (brL (brL1 (fun _=>rfl))))))))) h1)
 ·cases h
def G49_0 {β:Type} (t0:List AV) (t1:Int) (t2:Int) (t3:List AV) (t10:Int) (h0:List AV) (N:((Int × (List AV)))→β) (K:(((List AV)) ⊕ ((List AV) × Int × Int × Int × Int × Int))→β) (d:β):β:=by
 refine (?f0:Int→Int→Int→Int→Int→Bool→β) (v59_0 t0 t10 t1 t2 t3) (v59_1 t0 t10 t1 t2 t3) (v59_2 t0 t10 t1 t2 t3) (v59_3 t0 t10 t1 t2 t3) (v59_4 t0 t10 t1 t2 t3) (v59_5 t0 t10 t1 t2 t3);intro x1 x2 x3 x4 x5 x6
 exact (bif decide (t10≤2) then (bif q59 t0 t10 t1 t2 t3 then (bif !x6 then K (.inr (h0,x1,x2,x3,x4,x5))
 else (bif (decide ((h0.length+([AV.agg [AV.int .i64 x1,AV.int .i64 x2,AV.int .i64 x3,AV.int .i64 x4,AV.int .i64 x5]]).length)*40≤140737488355328) && decide ((h0.length+([AV.agg [AV.int .i64 x1,AV.int .i64 x2,AV.int .i64 x3,AV.int .i64 x4,AV.int .i64 x5]]).length)≤140737488355328)) then N (IntKind.i64.wrap (t10+1),h0++([AV.agg [AV.int .i64 x1,AV.int .i64 x2,AV.int .i64 x3,AV.int .i64 x4,AV.int .i64 x5]]))
 else d))
 else d)
 else K (.inl h0))
def F49_0 (t0:List AV) (t1 t2:Int) (t3:List AV) (t10:Int) (h0:List AV):Out ((Int × (List AV))) (((List AV)) ⊕ ((List AV) × Int × Int × Int × Int × Int)):=G49_0 t0 t1 t2 t3 t10 h0 .next .stop .fail
def R49_0 (t0:List AV) (t1 t2:Int) (t3:List AV):((Int × (List AV)))→Out ((Int × (List AV))) (((List AV)) ⊕ ((List AV) × Int × Int × Int × Int × Int)):=fun s:Int × (List AV)=>F49_0 t0 t1 t2 t3 s.1 s.2
def E49_0 (t0:List AV) (t1 t2:Int) (t3:List AV):((Int × (List AV)))→St:=fun s:Int × (List AV)=>⟨[(0,AV.sl [.int .i64] t0),(1,Ai t1),(2,Ai t2),(3,AV.sl [.int .i64,.int .i64] t3),(9,AV.own [0,9]),(10,Ai s.1)],[([0,9],⟨false,[.int .i64,.int .i64,.int .i64,.int .i64,.int .i64],s.2⟩)]⟩
def K49_0 (t0:List AV) (t1 t2:Int) (t3:List AV) (k:Kont):(((List AV)) ⊕ ((List AV) × Int × Int × Int × Int × Int))→Option AV:=sumE (fun p:(List AV)=>k (.exit 0) ⟨[(9,AV.own [0,9])],[([0,9],⟨false,[.int .i64,.int .i64,.int .i64,.int .i64,.int .i64],p⟩)]⟩) (fun p:(List AV) × Int × Int × Int × Int × Int=>k .ret ⟨[(8,AV.snil)],[([0,9],⟨false,[.int .i64,.int .i64,.int .i64,.int .i64,.int .i64],p.1⟩),([1,11],⟨true,[],[AV.agg [Ai p.2.1,Ai p.2.2.1,Ai p.2.2.2.1,Ai p.2.2.2.2.1,Ai p.2.2.2.2.2]]⟩)]⟩)
def l49_0:LModel:=fun _ _ st k=>match st with
 | ⟨[(0,.sl g0 t0),(1,.int .i64 t1),(2,.int .i64 t2),(3,.sl g1 t3),(9,.own g2),(10,.int .i64 t10)],[(g3,⟨false,g4,h0⟩)]⟩=>bif ctsEq g0 ([.int .i64]) && ctsEq g1 ([.int .i64,.int .i64]) && nmEq g2 ([0,9]) && nmEq g3 ([0,9]) && ctsEq g4 ([.int .i64,.int .i64,.int .i64,.int .i64,.int .i64]) then ro (runW (R49_0 t0 t1 t2 t3) ((2 - t10+1:Int).toNat+1) (t10,h0)) none (K49_0 t0 t1 t2 t3 k) else none
 | _=>none
noncomputable def c49:Cfg:=cfg Tryz.prog [(49,0,[0,1,2,3,9,10]),(49,999,[8]),(49,1000,[9]),(49,1001,[0,1,2,3,9,10])] [(59,m59)] [] [] [(49,0,l49_0)]
theorem s49_0 (t0:List AV) (t1 t2:Int) (t3:List AV) (ce:CallE) (k:Kont) (s:Int × (List AV)) (next:St→Option AV):stepA (codeA c49 ce [] 49 0 (sub [1,1,0,1,0,0] (body Tryz.f49))) (normA [] [0,1,2,3,9,10]) next ((E49_0 t0 t1 t2 t3) s) k=G49_0 t0 t1 t2 t3 s.1 s.2 (fun s=>next ((E49_0 t0 t1 t2 t3) s)) (K49_0 t0 t1 t2 t3 k) none:=by kernel_rfl
theorem st49_0 (t0:List AV) (t1 t2:Int) (t3:List AV) (ce:CallE) (k:Kont) (s:(Int × (List AV))) (next:St→Option AV):stepA (codeA c49 ce [] 49 0 (sub [1,1,0,1,0,0] (body Tryz.f49))) (normA [] [0,1,2,3,9,10]) next ((E49_0 t0 t1 t2 t3) s) k=(R49_0 t0 t1 t2 t3 s).el none (fun s=>next ((E49_0 t0 t1 t2 t3) s)) (K49_0 t0 t1 t2 t3 k):=(s49_0 t0 t1 t2 t3 ce k s next).trans (by unfold R49_0;unfold F49_0 G49_0;simp only [el_cond,el_ro,el_sum,el_fail,el_next,el_stop] <;> rfl)
theorem ok49_0 {ce:CallE}:LoopOK c49 ce [] 49 0 (sub [1,1,0,1,0,0] (body Tryz.f49)):=by
 intro m hm st k r h
 obtain rfl:l49_0=m:=Option.some.inj hm
 unfold l49_0 at h
 split at h
 ·rename_i g0 t0 t1 t2 g1 t3 g2 t10 g3 g4 h0
  obtain ⟨hg,h⟩:=bif_some h
  simp only [Bool.and_eq_true] at hg
  obtain ⟨⟨⟨⟨q0,q1⟩,q2⟩,q3⟩,q4⟩:=hg
  obtain rfl:=cE q0
  obtain rfl:=cE q1
  obtain rfl:=nE q2
  obtain rfl:=nE q3
  obtain rfl:=cE q4
  refine ⟨((2 - t10+1:Int).toNat+1),?_⟩
  rw [← h]
  exact loop_run (E49_0 t0 t1 t2 t3) (K49_0 t0 t1 t2 t3 k) (st49_0 t0 t1 t2 t3 ce k) _ (t10,h0)
 ·cases h
def q49 (a0:List AV) (a1 a2:Int) (a3:List AV):Bool:=(ro (runW (R49_0 a0 a1 a2 a3) ((2 - 0+1:Int).toNat+1) (0,([]:List AV))) false (sumE (fun p43=>true) (fun p44=>true)))
def v49_0 (a0:List AV) (a1 a2:Int) (a3:List AV):List AV:=(ro (runW (R49_0 a0 a1 a2 a3) ((2 - 0+1:Int).toNat+1) (0,([]:List AV))) [] (sumE (fun p43=>p43) (fun p44=>([]:List AV))))
theorem e49 (a0:List AV) (a1 a2:Int) (a3:List AV):funA c49 0 49 [AV.sl [.int .i64] a0,Ai a1,Ai a2,AV.sl [.int .i64,.int .i64] a3]=(ro (runW (R49_0 a0 a1 a2 a3) ((2 - 0+1:Int).toNat+1) (0,([]:List AV))) none (sumE (fun p43=>some (AV.fl [.int .i64,.int .i64,.int .i64,.int .i64,.int .i64] p43)) (fun p44=>some (AV.fl [.int .i64,.int .i64,.int .i64,.int .i64,.int .i64] ([]:List AV))))):=by kernel_rfl
def m49:TModel
 | [.sl g0 a0,.int .i64 a1,.int .i64 a2,.sl g1 a3]=>bif ctsEq g0 ([.int .i64]) && ctsEq g1 ([.int .i64,.int .i64]) then some (q49 a0 a1 a2 a3,AV.fl [.int .i64,.int .i64,.int .i64,.int .i64,.int .i64] (v49_0 a0 a1 a2 a3)) else none
 | _=>none
theorem k49:Known Tryz.prog 49:=⟨Tryz.f49,Tryz.func49,by kernel_rfl,by kernel_rfl⟩
theorem meets49:Meets Tryz.prog 49 m49:=by
 refine mt (lvl:=0) (cf:=c49) rfl mixed k49 Tryz.func49 (by kernel_rfl) (loops_cons ok49_0 noLoop) (allT_cons meets59 allT_nil) allM_nil noI fun xs r h=>?_
 unfold m49 at h
 split at h
 ·rename_i g0 a0 a1 a2 g1 a3
  obtain ⟨hg,h⟩:=bif_pair h
  simp only [Bool.and_eq_true] at hg
  obtain ⟨q0,q1⟩:=hg
  obtain rfl:=cE q0
  obtain rfl:=cE q1
  obtain ⟨h1,rfl⟩:=pair_inj h
  exact (e49 a0 a1 a2 a3).trans ((brO (fun o:Option (((List AV)) ⊕ ((List AV) × Int × Int × Int × Int × Int))=>some (AV.fl [.int .i64,.int .i64,.int .i64,.int .i64,.int .i64] (ro o [] (sumE (fun p43=>p43) (fun p44=>([]:List AV)))))) (brS (fun o:((List AV)) ⊕ ((List AV) × Int × Int × Int × Int × Int)=>some (AV.fl [.int .i64,.int .i64,.int .i64,.int .i64,.int .i64] ((sumE (fun p43=>p43) (fun p44=>([]:List AV))) o))) (fun p43=>(fun _=>rfl)) (fun p44=>(fun _=>rfl)))) h1)
 ·cases h
noncomputable def c126:Cfg:=cfg Tryz.prog [(126,999,[2])] [(72,m72)] [] [] []
def v126_0 (xa xb xc:Int):Bool:=(bif (v72_0 xa 0 2) then (bif (v72_0 xb 1 64) then (v72_0 xc 0 10006) else false) else false)
theorem e126 (xa xb xc:Int):funA c126 0 126 [AV.agg [Ai xa,Ai xb,Ai xc]]=(bif (v72_0 xa 0 2) then (bif (v72_0 xb 1 64) then some (AV.bool (v72_0 xc 0 10006))
 else some (AV.bool false))
 else some (AV.bool false)):=by kernel_rfl
def m126:TModel
 | [.agg [.int .i64 xa,.int .i64 xb,.int .i64 xc]]=>some (true,AV.bool (v126_0 xa xb xc))
 | _=>none
theorem k126:Known Tryz.prog 126:=⟨Tryz.f126,Tryz.func126,by kernel_rfl,by kernel_rfl⟩
theorem meets126:Meets Tryz.prog 126 m126:=by
 refine mt (lvl:=0) (cf:=c126) rfl mixed k126 Tryz.func126 (by kernel_rfl) noLoop (allT_cons meets72 allT_nil) allM_nil noI fun xs r h=>?_
 unfold m126 at h
 split at h
 ·rename_i xa xb xc
  obtain ⟨h1,rfl⟩:=pair_inj h
  exact (e126 xa xb xc).trans (of_tt (brT (fun b=>some (AV.bool (bif b then (bif (v72_0 xb 1 64) then (v72_0 xc 0 10006) else false) else false))) (brT (fun b=>some (AV.bool (bif b then (v72_0 xc 0 10006) else false))) (fun _=>rfl) (fun _=>rfl)) (fun _=>rfl)))
 ·cases h
noncomputable def c178:Cfg:=cfg Tryz.prog [(178,999,[2])] [(72,m72)] [] [] []
def v178_0 (xa xb:Int):Bool:=(bif (v72_0 xa (-1000) 1000) then (v72_0 xb xa 1000) else false)
theorem e178 (xa xb:Int):funA c178 0 178 [AV.agg [Ai xa,Ai xb]]=(bif (v72_0 xa (-1000) 1000) then some (AV.bool (v72_0 xb xa 1000))
 else some (AV.bool false)):=by kernel_rfl
def m178:TModel
 | [.agg [.int .i64 xa,.int .i64 xb]]=>some (true,AV.bool (v178_0 xa xb))
 | _=>none
theorem k178:Known Tryz.prog 178:=⟨Tryz.f178,Tryz.func178,by kernel_rfl,by kernel_rfl⟩
theorem meets178:Meets Tryz.prog 178 m178:=by
 refine mt (lvl:=0) (cf:=c178) rfl mixed k178 Tryz.func178 (by kernel_rfl) noLoop (allT_cons meets72 allT_nil) allM_nil noI fun xs r h=>?_
 unfold m178 at h
 split at h
 ·rename_i xa xb
  obtain ⟨h1,rfl⟩:=pair_inj h
  exact (e178 xa xb).trans (of_tt (brT (fun b=>some (AV.bool (bif b then (v72_0 xb xa 1000) else false))) (fun _=>rfl) (fun _=>rfl)))
 ·cases h
def G127_0 {β:Type} (t0:List AV) (t3:Int) (N:(Int)→β) (K:(Unit ⊕ Unit)→β) (d:β):β:=(bif decide (t3<(t0.length:Int)) then (bif (decide (0≤t3) && decide (t3<(t0.length:Int))) then (bif !(v178_0 (fI (t0.getD t3.toNat .undef) 0) (fI (t0.getD t3.toNat .undef) 1)) then K (.inr ())
 else N (IntKind.i64.wrap (t3+1)))
 else d)
 else K (.inl ()))
def F127_0 (t0:List AV) (t3:Int):Out (Int) (Unit ⊕ Unit):=G127_0 t0 t3 .next .stop .fail
def R127_0 (t0:List AV):(Int)→Out (Int) (Unit ⊕ Unit):=fun s:Int=>F127_0 t0 s
def E127_0 (t0:List AV):(Int)→St:=fun s:Int=>⟨[(0,AV.sl [.int .i64,.int .i64] t0),(3,Ai s)],[]⟩
def K127_0 (t0:List AV) (k:Kont):(Unit ⊕ Unit)→Option AV:=sumE (fun _:Unit=>k (.exit 0) ⟨[(0,AV.sl [.int .i64,.int .i64] t0)],[]⟩) (fun _:Unit=>k .ret ⟨[(2,AV.bool false)],[]⟩)
def l127_0:LModel:=fun _ _ st k=>match st with
 | ⟨[(0,.sl g0 t0),(3,.int .i64 t3)],[]⟩=>bif ctsEq g0 ([.int .i64,.int .i64]) then ro (runW (R127_0 t0) (((t0.length:Int) - t3:Int).toNat+1) t3) none (K127_0 t0 k) else none
 | _=>none
noncomputable def c127:Cfg:=cfg Tryz.prog [(127,0,[0,3]),(127,999,[2]),(127,1000,[0]),(127,1001,[0,3])] [(178,m178)] [] [] [(127,0,l127_0)]
theorem s127_0 (t0:List AV) (ce:CallE) (k:Kont) (s:Int) (next:St→Option AV):stepA (codeA c127 ce [] 127 0 (sub [1,0,1,0,0] (body Tryz.f127))) (normA [] [0,3]) next ((E127_0 t0) s) k=G127_0 t0 s (fun s=>next ((E127_0 t0) s)) (K127_0 t0 k) none:=by kernel_rfl
theorem st127_0 (t0:List AV) (ce:CallE) (k:Kont) (s:Int) (next:St→Option AV):stepA (codeA c127 ce [] 127 0 (sub [1,0,1,0,0] (body Tryz.f127))) (normA [] [0,3]) next ((E127_0 t0) s) k=(R127_0 t0 s).el none (fun s=>next ((E127_0 t0) s)) (K127_0 t0 k):=(s127_0 t0 ce k s next).trans (by unfold R127_0;unfold F127_0 G127_0;simp only [el_cond,el_ro,el_sum,el_fail,el_next,el_stop] <;> rfl)
theorem ok127_0 {ce:CallE}:LoopOK c127 ce [] 127 0 (sub [1,0,1,0,0] (body Tryz.f127)):=by
 intro m hm st k r h
 obtain rfl:l127_0=m:=Option.some.inj hm
 unfold l127_0 at h
 split at h
 ·rename_i g0 t0 t3
  obtain ⟨hg,h⟩:=bif_some h
  have q0:=hg
  obtain rfl:=cE q0
  refine ⟨(((t0.length:Int) - t3:Int).toNat+1),?_⟩
  rw [← h]
  exact loop_run (E127_0 t0) (K127_0 t0 k) (st127_0 t0 ce k) _ t3
 ·cases h
def q127 (a0:List AV):Bool:=(ro (runW (R127_0 a0) (((a0.length:Int) - 0:Int).toNat+1) 0) false (sumE (fun _=>true) (fun _=>true)))
def v127_0 (a0:List AV):Bool:=(ro (runW (R127_0 a0) (((a0.length:Int) - 0:Int).toNat+1) 0) false (sumE (fun _=>decide ((a0.length:Int)≤30)) (fun _=>false)))
theorem e127 (a0:List AV):funA c127 0 127 [AV.sl [.int .i64,.int .i64] a0]=(ro (runW (R127_0 a0) (((a0.length:Int) - 0:Int).toNat+1) 0) none (sumE (fun _=>some (AV.bool (decide ((a0.length:Int)≤30)))) (fun _=>some (AV.bool false)))):=by kernel_rfl
def m127:TModel
 | [.sl g0 a0]=>bif ctsEq g0 ([.int .i64,.int .i64]) then some (q127 a0,AV.bool (v127_0 a0)) else none
 | _=>none
theorem k127:Known Tryz.prog 127:=⟨Tryz.f127,Tryz.func127,by kernel_rfl,by kernel_rfl⟩
theorem meets127:Meets Tryz.prog 127 m127:=by
 refine mt (lvl:=0) (cf:=c127) rfl mixed k127 Tryz.func127 (by kernel_rfl) (loops_cons ok127_0 noLoop) (allT_cons meets178 allT_nil) allM_nil noI fun xs r h=>?_
 unfold m127 at h
 split at h
 ·rename_i g0 a0
  obtain ⟨hg,h⟩:=bif_pair h
  have q0:=hg
  obtain rfl:=cE q0
  obtain ⟨h1,rfl⟩:=pair_inj h
  exact (e127 a0).trans ((brO (fun o:Option (Unit ⊕ Unit)=>some (AV.bool (ro o false (sumE (fun _=>decide ((a0.length:Int)≤30)) (fun _=>false))))) (brS (fun o:Unit ⊕ Unit=>some (AV.bool ((sumE (fun _=>decide ((a0.length:Int)≤30)) (fun _=>false)) o))) (fun _=>(fun _=>rfl)) (fun _=>(fun _=>rfl)))) h1)
 ·cases h
def G145_0 {β:Type} (t0:List AV) (t1:Int) (t5:Int) (N:(Int)→β) (K:(Unit ⊕ Unit)→β) (d:β):β:=(bif decide (t5<(t0.length:Int)) then (bif (decide (0≤t5) && decide (t5<(t0.length:Int))) then (bif decide (fI (t0.getD t5.toNat .undef) 0=t1) then K (.inr ())
 else N (IntKind.i64.wrap (t5+1)))
 else d)
 else K (.inl ()))
def F145_0 (t0:List AV) (t1 t5:Int):Out (Int) (Unit ⊕ Unit):=G145_0 t0 t1 t5 .next .stop .fail
def R145_0 (t0:List AV) (t1:Int):(Int)→Out (Int) (Unit ⊕ Unit):=fun s:Int=>F145_0 t0 t1 s
def E145_0 (t0:List AV) (t1:Int):(Int)→St:=fun s:Int=>⟨[(0,AV.sl [.int .i64] t0),(1,Ai t1),(5,Ai s)],[]⟩
def K145_0 (t0:List AV) (t1:Int) (k:Kont):(Unit ⊕ Unit)→Option AV:=sumE (fun _:Unit=>k (.exit 0) ⟨[],[]⟩) (fun _:Unit=>k .ret ⟨[(4,AV.bool true)],[]⟩)
def l145_0:LModel:=fun _ _ st k=>match st with
 | ⟨[(0,.sl g0 t0),(1,.int .i64 t1),(5,.int .i64 t5)],[]⟩=>bif ctsEq g0 ([.int .i64]) then ro (runW (R145_0 t0 t1) (((t0.length:Int) - t5:Int).toNat+1) t5) none (K145_0 t0 t1 k) else none
 | _=>none
noncomputable def c145:Cfg:=cfg Tryz.prog [(145,0,[0,1,5]),(145,999,[4]),(145,1000,[]),(145,1001,[0,1,5])] [] [] [] [(145,0,l145_0)]
theorem s145_0 (t0:List AV) (t1:Int) (ce:CallE) (k:Kont) (s:Int) (next:St→Option AV):stepA (codeA c145 ce [] 145 0 (sub [1,0,1,0,0] (body Tryz.f145))) (normA [] [0,1,5]) next ((E145_0 t0 t1) s) k=G145_0 t0 t1 s (fun s=>next ((E145_0 t0 t1) s)) (K145_0 t0 t1 k) none:=by kernel_rfl
theorem st145_0 (t0:List AV) (t1:Int) (ce:CallE) (k:Kont) (s:Int) (next:St→Option AV):stepA (codeA c145 ce [] 145 0 (sub [1,0,1,0,0] (body Tryz.f145))) (normA [] [0,1,5]) next ((E145_0 t0 t1) s) k=(R145_0 t0 t1 s).el none (fun s=>next ((E145_0 t0 t1) s)) (K145_0 t0 t1 k):=(s145_0 t0 t1 ce k s next).trans (by unfold R145_0;unfold F145_0 G145_0;simp only [el_cond,el_ro,el_sum,el_fail,el_next,el_stop] <;> rfl)
theorem ok145_0 {ce:CallE}:LoopOK c145 ce [] 145 0 (sub [1,0,1,0,0] (body Tryz.f145)):=by
 intro m hm st k r h
 obtain rfl:l145_0=m:=Option.some.inj hm
 unfold l145_0 at h
 split at h
 ·rename_i g0 t0 t1 t5
  obtain ⟨hg,h⟩:=bif_some h
  have q0:=hg
  obtain rfl:=cE q0
  refine ⟨(((t0.length:Int) - t5:Int).toNat+1),?_⟩
  rw [← h]
  exact loop_run (E145_0 t0 t1) (K145_0 t0 t1 k) (st145_0 t0 t1 ce k) _ t5
 ·cases h
def q145 (a0:List AV) (a1:Int):Bool:=(ro (runW (R145_0 a0 a1) (((a0.length:Int) - 0:Int).toNat+1) 0) false (sumE (fun _=>true) (fun _=>true)))
def v145_0 (a0:List AV) (a1:Int):Bool:=(ro (runW (R145_0 a0 a1) (((a0.length:Int) - 0:Int).toNat+1) 0) false (sumE (fun _=>false) (fun _=>true)))
theorem e145 (a0:List AV) (a1:Int):funA c145 0 145 [AV.sl [.int .i64] a0,Ai a1]=(ro (runW (R145_0 a0 a1) (((a0.length:Int) - 0:Int).toNat+1) 0) none (sumE (fun _=>some (AV.bool false)) (fun _=>some (AV.bool true)))):=by kernel_rfl
def m145:TModel
 | [.sl g0 a0,.int .i64 a1]=>bif ctsEq g0 ([.int .i64]) then some (q145 a0 a1,AV.bool (v145_0 a0 a1)) else none
 | _=>none
theorem k145:Known Tryz.prog 145:=⟨Tryz.f145,Tryz.func145,by kernel_rfl,by kernel_rfl⟩
theorem meets145:Meets Tryz.prog 145 m145:=by
 refine mt (lvl:=0) (cf:=c145) rfl mixed k145 Tryz.func145 (by kernel_rfl) (loops_cons ok145_0 noLoop) allT_nil allM_nil noI fun xs r h=>?_
 unfold m145 at h
 split at h
 ·rename_i g0 a0 a1
  obtain ⟨hg,h⟩:=bif_pair h
  have q0:=hg
  obtain rfl:=cE q0
  obtain ⟨h1,rfl⟩:=pair_inj h
  exact (e145 a0 a1).trans ((brO (fun o:Option (Unit ⊕ Unit)=>some (AV.bool (ro o false (sumE (fun _=>false) (fun _=>true))))) (brS (fun o:Unit ⊕ Unit=>some (AV.bool ((sumE (fun _=>false) (fun _=>true)) o))) (fun _=>(fun _=>rfl)) (fun _=>(fun _=>rfl)))) h1)
 ·cases h
def G146_2 {β:Type} (t0:List AV) (t1:List AV) (t5:Int) (h0_0:Int) (h0_1:Int) (t7:Int) (N:(Int)→β) (K:(Unit ⊕ Unit)→β) (d:β):β:=(bif decide (t7<(t0.length:Int)) then (bif (decide (0≤t7) && decide (t7<(t0.length:Int))) then (bif !(decide (fI (t0.getD t7.toNat .undef) 0<h0_0) == decide (t7<h0_1)) then K (.inr ())
 else N (IntKind.i64.wrap (t7+1)))
 else d)
 else K (.inl ()))
def F146_2 (t0 t1:List AV) (t5 h0_0 h0_1 t7:Int):Out (Int) (Unit ⊕ Unit):=G146_2 t0 t1 t5 h0_0 h0_1 t7 .next .stop .fail
def R146_2 (t0 t1:List AV) (t5 h0_0 h0_1:Int):(Int)→Out (Int) (Unit ⊕ Unit):=fun s:Int=>F146_2 t0 t1 t5 h0_0 h0_1 s
def E146_2 (t0 t1:List AV) (t5 h0_0 h0_1:Int):(Int)→St:=fun s:Int=>⟨[(0,AV.sl [.int .i64] t0),(1,AV.sl [.int .i64,.int .i64] t1),(5,Ai t5),(6,AV.ptr [0,6] 0 0),(7,Ai s)],[([0,6],⟨true,[],[AV.agg [Ai h0_0,Ai h0_1]]⟩)]⟩
def K146_2 (t0 t1:List AV) (t5 h0_0 h0_1:Int) (k:Kont):(Unit ⊕ Unit)→Option AV:=sumE (fun _:Unit=>k (.exit 2) ⟨[(0,AV.sl [.int .i64] t0),(1,AV.sl [.int .i64,.int .i64] t1),(5,Ai t5)],[([0,6],⟨true,[],[AV.agg [Ai h0_0,Ai h0_1]]⟩)]⟩) (fun _:Unit=>k .ret ⟨[(4,AV.bool false)],[([0,6],⟨true,[],[AV.agg [Ai h0_0,Ai h0_1]]⟩)]⟩)
def l146_2:LModel:=fun _ _ st k=>match st with
 | ⟨[(0,.sl g0 t0),(1,.sl g1 t1),(5,.int .i64 t5),(6,.ptr g2 g3 g4),(7,.int .i64 t7)],[(g5,⟨true,[],[.agg [.int .i64 h0_0,.int .i64 h0_1]]⟩)]⟩=>bif ctsEq g0 ([.int .i64]) && ctsEq g1 ([.int .i64,.int .i64]) && nmEq g2 ([0,6]) && Nat.beq g3 0 && Nat.beq g4 0 && nmEq g5 ([0,6]) then ro (runW (R146_2 t0 t1 t5 h0_0 h0_1) (((t0.length:Int) - t7:Int).toNat+1) t7) none (K146_2 t0 t1 t5 h0_0 h0_1 k) else none
 | _=>none
def G146_0 {β:Type} (t0:List AV) (t1:List AV) (t5:Int) (N:(Int)→β) (K:(Unit ⊕ (Int × Int) ⊕ (Int × Int))→β) (d:β):β:=(bif decide (t5<(t1.length:Int)) then (bif (decide (0≤t5) && decide (t5<(t1.length:Int))) then (bif !(v72_0 (fI (t1.getD t5.toNat .undef) 0) (-1000) 1000) then K (.inr (.inl (fI (t1.getD t5.toNat .undef) 0,fI (t1.getD t5.toNat .undef) 1)))
 else (bif !(v72_0 (fI (t1.getD t5.toNat .undef) 1) 0 (t0.length:Int)) then K (.inr (.inl (fI (t1.getD t5.toNat .undef) 0,fI (t1.getD t5.toNat .undef) 1)))
 else (bif decide (t5 > 0) then (bif (decide (0≤IntKind.i64.wrap (t5 - 1)) && decide (IntKind.i64.wrap (t5 - 1)<(t1.length:Int))) then (bif decide (fI (t1.getD t5.toNat .undef) 0≤fI (t1.getD (IntKind.i64.wrap (t5 - 1)).toNat .undef) 0) then K (.inr (.inl (fI (t1.getD t5.toNat .undef) 0,fI (t1.getD t5.toNat .undef) 1)))
 else (bif (decide (0≤IntKind.i64.wrap (t5 - 1)) && decide (IntKind.i64.wrap (t5 - 1)<(t1.length:Int))) then (bif decide (fI (t1.getD t5.toNat .undef) 1<fI (t1.getD (IntKind.i64.wrap (t5 - 1)).toNat .undef) 1) then K (.inr (.inl (fI (t1.getD t5.toNat .undef) 0,fI (t1.getD t5.toNat .undef) 1)))
 else (ro (runW (R146_2 t0 t1 t5 (fI (t1.getD t5.toNat .undef) 0) (fI (t1.getD t5.toNat .undef) 1)) (((t0.length:Int) - 0:Int).toNat+1) 0) d (sumE (fun _=>N (IntKind.i64.wrap (t5+1))) (fun _=>K (.inr (.inr (fI (t1.getD t5.toNat .undef) 0,fI (t1.getD t5.toNat .undef) 1)))))))
 else d))
 else d)
 else (ro (runW (R146_2 t0 t1 t5 (fI (t1.getD t5.toNat .undef) 0) (fI (t1.getD t5.toNat .undef) 1)) (((t0.length:Int) - 0:Int).toNat+1) 0) d (sumE (fun _=>N (IntKind.i64.wrap (t5+1))) (fun _=>K (.inr (.inr (fI (t1.getD t5.toNat .undef) 0,fI (t1.getD t5.toNat .undef) 1)))))))))
 else d)
 else K (.inl ()))
def F146_0 (t0 t1:List AV) (t5:Int):Out (Int) (Unit ⊕ (Int × Int) ⊕ (Int × Int)):=G146_0 t0 t1 t5 .next .stop .fail
def R146_0 (t0 t1:List AV):(Int)→Out (Int) (Unit ⊕ (Int × Int) ⊕ (Int × Int)):=fun s:Int=>F146_0 t0 t1 s
def E146_0 (t0 t1:List AV):(Int)→St:=fun s:Int=>⟨[(0,AV.sl [.int .i64] t0),(1,AV.sl [.int .i64,.int .i64] t1),(5,Ai s)],[]⟩
def K146_0 (t0 t1:List AV) (k:Kont):(Unit ⊕ (Int × Int) ⊕ (Int × Int))→Option AV:=sumE (fun _:Unit=>k (.exit 0) ⟨[],[]⟩) (sumE (fun p:Int × Int=>k .ret ⟨[(4,AV.bool false)],[([1,6],⟨true,[],[AV.agg [Ai p.1,Ai p.2]]⟩)]⟩) (fun p:Int × Int=>k .ret ⟨[(4,AV.bool false)],[([0,6],⟨true,[],[AV.agg [Ai p.1,Ai p.2]]⟩)]⟩))
def l146_0:LModel:=fun _ _ st k=>match st with
 | ⟨[(0,.sl g0 t0),(1,.sl g1 t1),(5,.int .i64 t5)],[]⟩=>bif ctsEq g0 ([.int .i64]) && ctsEq g1 ([.int .i64,.int .i64]) then ro (runW (R146_0 t0 t1) (((t1.length:Int) - t5:Int).toNat+1) t5) none (K146_0 t0 t1 k) else none
 | _=>none
noncomputable def c146:Cfg:=cfg Tryz.prog [(146,0,[0,1,5]),(146,2,[0,1,5,6,7]),(146,999,[4]),(146,1000,[]),(146,1001,[0,1,5]),(146,1002,[0,1,5]),(146,1003,[0,1,5,6,7])] [(72,m72)] [] [] [(146,0,l146_0),(146,2,l146_2)]
theorem s146_2 (t0 t1:List AV) (t5 h0_0 h0_1:Int) (ce:CallE) (k:Kont) (s:Int) (next:St→Option AV):stepA (codeA c146 ce [] 146 2 (sub [1,0,1,0,0,1,0,0,1,1,1,0,0] (body Tryz.f146))) (normA [] [0,1,5,6,7]) next ((E146_2 t0 t1 t5 h0_0 h0_1) s) k=G146_2 t0 t1 t5 h0_0 h0_1 s (fun s=>next ((E146_2 t0 t1 t5 h0_0 h0_1) s)) (K146_2 t0 t1 t5 h0_0 h0_1 k) none:=by kernel_rfl
theorem st146_2 (t0 t1:List AV) (t5 h0_0 h0_1:Int) (ce:CallE) (k:Kont) (s:Int) (next:St→Option AV):stepA (codeA c146 ce [] 146 2 (sub [1,0,1,0,0,1,0,0,1,1,1,0,0] (body Tryz.f146))) (normA [] [0,1,5,6,7]) next ((E146_2 t0 t1 t5 h0_0 h0_1) s) k=(R146_2 t0 t1 t5 h0_0 h0_1 s).el none (fun s=>next ((E146_2 t0 t1 t5 h0_0 h0_1) s)) (K146_2 t0 t1 t5 h0_0 h0_1 k):=(s146_2 t0 t1 t5 h0_0 h0_1 ce k s next).trans (by unfold R146_2;unfold F146_2 G146_2;simp only [el_cond,el_ro,el_sum,el_fail,el_next,el_stop] <;> rfl)
theorem ok146_2 {ce:CallE}:LoopOK c146 ce [] 146 2 (sub [1,0,1,0,0,1,0,0,1,1,1,0,0] (body Tryz.f146)):=by
 intro m hm st k r h
 obtain rfl:l146_2=m:=Option.some.inj hm
 unfold l146_2 at h
 split at h
 ·rename_i g0 t0 g1 t1 t5 g2 g3 g4 t7 g5 h0_0 h0_1
  obtain ⟨hg,h⟩:=bif_some h
  simp only [Bool.and_eq_true] at hg
  obtain ⟨⟨⟨⟨⟨q0,q1⟩,q2⟩,q3⟩,q4⟩,q5⟩:=hg
  obtain rfl:=cE q0
  obtain rfl:=cE q1
  obtain rfl:=nE q2
  obtain rfl:=bE q3
  obtain rfl:=bE q4
  obtain rfl:=nE q5
  refine ⟨(((t0.length:Int) - t7:Int).toNat+1),?_⟩
  rw [← h]
  exact loop_run (E146_2 t0 t1 t5 h0_0 h0_1) (K146_2 t0 t1 t5 h0_0 h0_1 k) (st146_2 t0 t1 t5 h0_0 h0_1 ce k) _ t7
 ·cases h
theorem s146_0 (t0 t1:List AV) (ce:CallE) (k:Kont) (s:Int) (next:St→Option AV):stepA (codeA c146 ce [] 146 0 (sub [1,0,1,0,0] (body Tryz.f146))) (normA [] [0,1,5]) next ((E146_0 t0 t1) s) k=G146_0 t0 t1 s (fun s=>next ((E146_0 t0 t1) s)) (K146_0 t0 t1 k) none:=by kernel_rfl
theorem st146_0 (t0 t1:List AV) (ce:CallE) (k:Kont) (s:Int) (next:St→Option AV):stepA (codeA c146 ce [] 146 0 (sub [1,0,1,0,0] (body Tryz.f146))) (normA [] [0,1,5]) next ((E146_0 t0 t1) s) k=(R146_0 t0 t1 s).el none (fun s=>next ((E146_0 t0 t1) s)) (K146_0 t0 t1 k):=(s146_0 t0 t1 ce k s next).trans (by unfold R146_0;unfold F146_0 G146_0;simp only [el_cond,el_ro,el_sum,el_fail,el_next,el_stop] <;> rfl)
theorem ok146_0 {ce:CallE}:LoopOK c146 ce [] 146 0 (sub [1,0,1,0,0] (body Tryz.f146)):=by
 intro m hm st k r h
 obtain rfl:l146_0=m:=Option.some.inj hm
 unfold l146_0 at h
 split at h
 ·rename_i g0 t0 g1 t1 t5
  obtain ⟨hg,h⟩:=bif_some h
  simp only [Bool.and_eq_true] at hg
  obtain ⟨q0,q1⟩:=hg
  obtain rfl:=cE q0
  obtain rfl:=cE q1
  refine ⟨(((t1.length:Int) - t5:Int).toNat+1),?_⟩
  rw [← h]
  exact loop_run (E146_0 t0 t1) (K146_0 t0 t1 k) (st146_0 t0 t1 ce k) _ t5
 ·cases h
def q146 (a0 a1:List AV):Bool:=(ro (runW (R146_0 a0 a1) (((a1.length:Int) - 0:Int).toNat+1) 0) false (sumE (fun _=>true) (sumE (fun p55=>true) (fun p56=>true))))
def v146_0 (a0 a1:List AV):Bool:=(ro (runW (R146_0 a0 a1) (((a1.length:Int) - 0:Int).toNat+1) 0) false (sumE (fun _=>true) (sumE (fun p55=>false) (fun p56=>false))))
theorem e146 (a0 a1:List AV):funA c146 0 146 [AV.sl [.int .i64] a0,AV.sl [.int .i64,.int .i64] a1]=(ro (runW (R146_0 a0 a1) (((a1.length:Int) - 0:Int).toNat+1) 0) none (sumE (fun _=>some (AV.bool true)) (sumE (fun p55=>some (AV.bool false)) (fun p56=>some (AV.bool false))))):=by kernel_rfl
def m146:TModel
 | [.sl g0 a0,.sl g1 a1]=>bif ctsEq g0 ([.int .i64]) && ctsEq g1 ([.int .i64,.int .i64]) then some (q146 a0 a1,AV.bool (v146_0 a0 a1)) else none
 | _=>none
theorem k146:Known Tryz.prog 146:=⟨Tryz.f146,Tryz.func146,by kernel_rfl,by kernel_rfl⟩
theorem meets146:Meets Tryz.prog 146 m146:=by
 refine mt (lvl:=0) (cf:=c146) rfl mixed k146 Tryz.func146 (by kernel_rfl) (loops_cons ok146_0 (loops_cons ok146_2 noLoop)) (allT_cons meets72 allT_nil) allM_nil noI fun xs r h=>?_
 unfold m146 at h
 split at h
 ·rename_i g0 a0 g1 a1
  obtain ⟨hg,h⟩:=bif_pair h
  simp only [Bool.and_eq_true] at hg
  obtain ⟨q0,q1⟩:=hg
  obtain rfl:=cE q0
  obtain rfl:=cE q1
  obtain ⟨h1,rfl⟩:=pair_inj h
  exact (e146 a0 a1).trans ((brO (fun o:Option (Unit ⊕ (Int × Int) ⊕ (Int × Int))=>some (AV.bool (ro o false (sumE (fun _=>true) (sumE (fun p55=>false) (fun p56=>false)))))) (brS (fun o:Unit ⊕ (Int × Int) ⊕ (Int × Int)=>some (AV.bool ((sumE (fun _=>true) (sumE (fun p55=>false) (fun p56=>false))) o))) (fun _=>(fun _=>rfl)) (brS (fun o:(Int × Int) ⊕ (Int × Int)=>some (AV.bool ((sumE (fun p55=>false) (fun p56=>false)) o))) (fun p55=>(fun _=>rfl)) (fun p56=>(fun _=>rfl))))) h1)
 ·cases h
def G71_0 {β:Type} (h0_0:List AV) (h0_1:List AV) (h0_2:List AV) (t3:Int) (N:(Int)→β) (K:(Unit ⊕ Unit)→β) (d:β):β:=(bif decide (t3<(h0_1.length:Int)) then (bif (decide (0≤t3) && decide (t3<(h0_1.length:Int))) then (bif !(v72_0 (fI (h0_1.getD t3.toNat .undef) 0) 0 999) then K (.inr ())
 else (bif (decide (0≤0) && decide (0≤t3) && decide (t3≤(h0_1.length:Int))) then (bif (decide (0≤t3) && decide (t3<(h0_1.length:Int))) then (bif q145 ((h0_1.take (Int.toNat t3)).drop (Int.toNat 0)) (fI (h0_1.getD t3.toNat .undef) 0) then (bif (v145_0 ((h0_1.take (Int.toNat t3)).drop (Int.toNat 0)) (fI (h0_1.getD t3.toNat .undef) 0)) then K (.inr ())
 else N (IntKind.i64.wrap (t3+1)))
 else d)
 else d)
 else d))
 else d)
 else K (.inl ()))
def F71_0 (h0_0 h0_1 h0_2:List AV) (t3:Int):Out (Int) (Unit ⊕ Unit):=G71_0 h0_0 h0_1 h0_2 t3 .next .stop .fail
def R71_0 (h0_0 h0_1 h0_2:List AV):(Int)→Out (Int) (Unit ⊕ Unit):=fun s:Int=>F71_0 h0_0 h0_1 h0_2 s
def E71_0 (h0_0 h0_1 h0_2:List AV):(Int)→St:=fun s:Int=>⟨[(1,AV.ptr [0,1] 0 0),(3,Ai s)],[([0,1],⟨true,[],[AV.agg [AV.sl [.int .i64] h0_0,AV.sl [.int .i64] h0_1,AV.sl [.int .i64,.int .i64] h0_2]]⟩)]⟩
def K71_0 (h0_0 h0_1 h0_2:List AV) (k:Kont):(Unit ⊕ Unit)→Option AV:=sumE (fun _:Unit=>k (.exit 0) ⟨[(1,AV.ptr [0,1] 0 0)],[([0,1],⟨true,[],[AV.agg [AV.sl [.int .i64] h0_0,AV.sl [.int .i64] h0_1,AV.sl [.int .i64,.int .i64] h0_2]]⟩)]⟩) (fun _:Unit=>k .ret ⟨[(2,AV.bool false)],[([0,1],⟨true,[],[AV.agg [AV.sl [.int .i64] h0_0,AV.sl [.int .i64] h0_1,AV.sl [.int .i64,.int .i64] h0_2]]⟩)]⟩)
def l71_0:LModel:=fun _ _ st k=>match st with
 | ⟨[(1,.ptr g0 g1 g2),(3,.int .i64 t3)],[(g3,⟨true,[],[.agg [.sl g4 h0_0,.sl g5 h0_1,.sl g6 h0_2]]⟩)]⟩=>bif nmEq g0 ([0,1]) && Nat.beq g1 0 && Nat.beq g2 0 && nmEq g3 ([0,1]) && ctsEq g4 ([.int .i64]) && ctsEq g5 ([.int .i64]) && ctsEq g6 ([.int .i64,.int .i64]) then ro (runW (R71_0 h0_0 h0_1 h0_2) (((h0_1.length:Int) - t3:Int).toNat+1) t3) none (K71_0 h0_0 h0_1 h0_2 k) else none
 | _=>none
noncomputable def c71:Cfg:=cfg Tryz.prog [(71,0,[1,3]),(71,999,[2]),(71,1000,[1]),(71,1001,[1,3])] [(72,m72),(100,m100),(145,m145),(146,m146)] [] [] [(71,0,l71_0)]
theorem s71_0 (h0_0 h0_1 h0_2:List AV) (ce:CallE) (k:Kont) (s:Int) (next:St→Option AV):stepA (codeA c71 ce [] 71 0 (sub [1,1,0,1,0,0] (body Tryz.f71))) (normA [] [1,3]) next ((E71_0 h0_0 h0_1 h0_2) s) k=G71_0 h0_0 h0_1 h0_2 s (fun s=>next ((E71_0 h0_0 h0_1 h0_2) s)) (K71_0 h0_0 h0_1 h0_2 k) none:=by kernel_rfl
theorem st71_0 (h0_0 h0_1 h0_2:List AV) (ce:CallE) (k:Kont) (s:Int) (next:St→Option AV):stepA (codeA c71 ce [] 71 0 (sub [1,1,0,1,0,0] (body Tryz.f71))) (normA [] [1,3]) next ((E71_0 h0_0 h0_1 h0_2) s) k=(R71_0 h0_0 h0_1 h0_2 s).el none (fun s=>next ((E71_0 h0_0 h0_1 h0_2) s)) (K71_0 h0_0 h0_1 h0_2 k):=(s71_0 h0_0 h0_1 h0_2 ce k s next).trans (by unfold R71_0;unfold F71_0 G71_0;simp only [el_cond,el_ro,el_sum,el_fail,el_next,el_stop] <;> rfl)
theorem ok71_0 {ce:CallE}:LoopOK c71 ce [] 71 0 (sub [1,1,0,1,0,0] (body Tryz.f71)):=by
 intro m hm st k r h
 obtain rfl:l71_0=m:=Option.some.inj hm
 unfold l71_0 at h
 split at h
 ·rename_i g0 g1 g2 t3 g3 g4 h0_0 g5 h0_1 g6 h0_2
  obtain ⟨hg,h⟩:=bif_some h
  simp only [Bool.and_eq_true] at hg
  obtain ⟨⟨⟨⟨⟨⟨q0,q1⟩,q2⟩,q3⟩,q4⟩,q5⟩,q6⟩:=hg
  obtain rfl:=nE q0
  obtain rfl:=bE q1
  obtain rfl:=bE q2
  obtain rfl:=nE q3
  obtain rfl:=cE q4
  obtain rfl:=cE q5
  obtain rfl:=cE q6
  refine ⟨(((h0_1.length:Int) - t3:Int).toNat+1),?_⟩
  rw [← h]
  exact loop_run (E71_0 h0_0 h0_1 h0_2) (K71_0 h0_0 h0_1 h0_2 k) (st71_0 h0_0 h0_1 h0_2 ce k) _ t3
 ·cases h
def q71 (xa xb xc:List AV):Bool:=(q100 xa && (bif !(v100_0 xa) then true else (bif !decide ((xb.length:Int)=(xa.length:Int)) then true else (ro (runW (R71_0 xa xb xc) (((xb.length:Int) - 0:Int).toNat+1) 0) false (sumE (fun _=>q146 xa xc) (fun _=>true))))))
def v71_0 (xa xb xc:List AV):Bool:=(bif !(v100_0 xa) then false else (bif !decide ((xb.length:Int)=(xa.length:Int)) then false else (ro (runW (R71_0 xa xb xc) (((xb.length:Int) - 0:Int).toNat+1) 0) false (sumE (fun _=>(v146_0 xa xc)) (fun _=>false)))))
theorem e71 (xa xb xc:List AV):funA c71 0 71 [AV.agg [AV.sl [.int .i64] xa,AV.sl [.int .i64] xb,AV.sl [.int .i64,.int .i64] xc]]=(bif q100 xa then (bif !(v100_0 xa) then some (AV.bool false)
 else (bif !decide ((xb.length:Int)=(xa.length:Int)) then some (AV.bool false)
 else (ro (runW (R71_0 xa xb xc) (((xb.length:Int) - 0:Int).toNat+1) 0) none (sumE (fun _=>(bif q146 xa xc then some (AV.bool (v146_0 xa xc))
 else none)) (fun _=>some (AV.bool false))))))
 else none):=by kernel_rfl
def m71:TModel
 | [.agg [.sl g0 xa,.sl g1 xb,.sl g2 xc]]=>bif ctsEq g0 ([.int .i64]) && ctsEq g1 ([.int .i64]) && ctsEq g2 ([.int .i64,.int .i64]) then some (q71 xa xb xc,AV.bool (v71_0 xa xb xc)) else none
 | _=>none
theorem k71:Known Tryz.prog 71:=⟨Tryz.f71,Tryz.func71,by kernel_rfl,by kernel_rfl⟩
theorem meets71:Meets Tryz.prog 71 m71:=by
 refine mt (lvl:=0) (cf:=c71) rfl mixed k71 Tryz.func71 (by kernel_rfl) (loops_cons ok71_0 noLoop) (allT_cons meets72 (allT_cons meets100 (allT_cons meets145 (allT_cons meets146 allT_nil)))) allM_nil noI fun xs r h=>?_
 unfold m71 at h
 split at h
 ·rename_i g0 xa g1 xb g2 xc
  obtain ⟨hg,h⟩:=bif_pair h
  simp only [Bool.and_eq_true] at hg
  obtain ⟨⟨q0,q1⟩,q2⟩:=hg
  obtain rfl:=cE q0
  obtain rfl:=cE q1
  obtain rfl:=cE q2
  obtain ⟨h1,rfl⟩:=pair_inj h
  exact (e71 xa xb xc).trans ((brL (br (fun b=>some (AV.bool (bif b then false else (bif !decide ((xb.length:Int)=(xa.length:Int)) then false else (ro (runW (R71_0 xa xb xc) (((xb.length:Int) - 0:Int).toNat+1) 0) false (sumE (fun _=>(v146_0 xa xc)) (fun _=>false))))))) (fun _=>rfl) (br (fun b=>some (AV.bool (bif b then false else (ro (runW (R71_0 xa xb xc) (((xb.length:Int) - 0:Int).toNat+1) 0) false (sumE (fun _=>(v146_0 xa xc)) (fun _=>false)))))) (fun _=>rfl) (brO (fun o:Option (Unit ⊕ Unit)=>some (AV.bool (ro o false (sumE (fun _=>(v146_0 xa xc)) (fun _=>false))))) (brS (fun o:Unit ⊕ Unit=>some (AV.bool ((sumE (fun _=>(v146_0 xa xc)) (fun _=>false)) o))) (fun _=>(brL1 (fun _=>rfl))) (fun _=>(fun _=>rfl))))))) h1)
 ·cases h
noncomputable def c138:Cfg:=cfg Tryz.prog [(138,999,[2])] [] [] [] []
def q138 (xa xb xc:List AV):Bool:=((decide ((([]:List AV).length+xa.length)*8≤140737488355328) && decide ((([]:List AV).length+xa.length)≤140737488355328)) && ((decide ((([]:List AV).length+xb.length)*8≤140737488355328) && decide ((([]:List AV).length+xb.length)≤140737488355328)) && (decide ((([]:List AV).length+xc.length)*16≤140737488355328) && decide ((([]:List AV).length+xc.length)≤140737488355328))))
def v138_0 (xa xb xc:List AV):List AV:=([]:List AV)++xa
def v138_1 (xa xb xc:List AV):List AV:=([]:List AV)++xb
def v138_2 (xa xb xc:List AV):List AV:=([]:List AV)++xc
theorem e138 (xa xb xc:List AV):funA c138 0 138 [AV.agg [AV.sl [.int .i64] xa,AV.sl [.int .i64] xb,AV.sl [.int .i64,.int .i64] xc]]=(bif (decide ((([]:List AV).length+xa.length)*8≤140737488355328) && decide ((([]:List AV).length+xa.length)≤140737488355328)) then (bif (decide ((([]:List AV).length+xb.length)*8≤140737488355328) && decide ((([]:List AV).length+xb.length)≤140737488355328)) then (bif (decide ((([]:List AV).length+xc.length)*16≤140737488355328) && decide ((([]:List AV).length+xc.length)≤140737488355328)) then some (AV.agg [AV.fl [.int .i64] (([]:List AV)++xa),AV.fl [.int .i64] (([]:List AV)++xb),AV.fl [.int .i64,.int .i64] (([]:List AV)++xc)])
 else none)
 else none)
 else none):=by kernel_rfl
def m138:TModel
 | [.agg [.sl g0 xa,.sl g1 xb,.sl g2 xc]]=>bif ctsEq g0 ([.int .i64]) && ctsEq g1 ([.int .i64]) && ctsEq g2 ([.int .i64,.int .i64]) then some (q138 xa xb xc,AV.agg [AV.fl [.int .i64] (v138_0 xa xb xc),AV.fl [.int .i64] (v138_1 xa xb xc),AV.fl [.int .i64,.int .i64] (v138_2 xa xb xc)]) else none
 | _=>none
theorem k138:Known Tryz.prog 138:=⟨Tryz.f138,Tryz.func138,by kernel_rfl,by kernel_rfl⟩
theorem meets138:Meets Tryz.prog 138 m138:=by
 refine mt (lvl:=0) (cf:=c138) rfl mixed k138 Tryz.func138 (by kernel_rfl) noLoop allT_nil allM_nil noI fun xs r h=>?_
 unfold m138 at h
 split at h
 ·rename_i g0 xa g1 xb g2 xc
  obtain ⟨hg,h⟩:=bif_pair h
  simp only [Bool.and_eq_true] at hg
  obtain ⟨⟨q0,q1⟩,q2⟩:=hg
  obtain rfl:=cE q0
  obtain rfl:=cE q1
  obtain rfl:=cE q2
  obtain ⟨h1,rfl⟩:=pair_inj h
  exact (e138 xa xb xc).trans ((brL (brL (brL1 (fun _=>rfl)))) h1)
 ·cases h
def G164_2 {β:Type} (t1:List AV) (t2:Int) (t8:Int) (t9:Int) (t11:Int) (N:((Int × Int))→β) (K:(Int)→β) (d:β):β:=(bif decide (t11 ≥ 0) then (bif (decide (0≤t11) && decide (t11<(t1.length:Int))) then (bif decide (fI (t1.getD t11.toNat .undef) 0 ≥ t2) then (bif (decide (0≤t11) && decide (t11<(t1.length:Int))) then N (fI (t1.getD t11.toNat .undef) 1,IntKind.i64.wrap (t11 - 1))
 else d)
 else N (t9,IntKind.i64.wrap (t11 - 1)))
 else d)
 else K t9)
def F164_2 (t1:List AV) (t2 t8 t9 t11:Int):Out ((Int × Int)) (Int):=G164_2 t1 t2 t8 t9 t11 .next .stop .fail
def R164_2 (t1:List AV) (t2 t8:Int):((Int × Int))→Out ((Int × Int)) (Int):=fun s:Int × Int=>F164_2 t1 t2 t8 s.1 s.2
def E164_2 (t1:List AV) (t2 t8:Int):((Int × Int))→St:=fun s:Int × Int=>⟨[(1,AV.sl [.int .i64,.int .i64] t1),(2,Ai t2),(8,Ai t8),(9,Ai s.1),(11,Ai s.2)],[]⟩
def K164_2 (t1:List AV) (t2 t8:Int) (k:Kont):(Int)→Option AV:=fun p:Int=>k (.exit 2) ⟨[(8,Ai t8),(9,Ai p)],[]⟩
def l164_2:LModel:=fun _ _ st k=>match st with
 | ⟨[(1,.sl g0 t1),(2,.int .i64 t2),(8,.int .i64 t8),(9,.int .i64 t9),(11,.int .i64 t11)],[]⟩=>bif ctsEq g0 ([.int .i64,.int .i64]) then ro (runW (R164_2 t1 t2 t8) ((t11 - 0+1:Int).toNat+1) (t9,t11)) none (K164_2 t1 t2 t8 k) else none
 | _=>none
def G164_0 {β:Type} (t1:List AV) (t2:Int) (t9:Int) (t8:Int) (t10:Int) (N:((Int × Int))→β) (K:(Int)→β) (d:β):β:=(bif decide (t10<(t1.length:Int)) then (bif (decide (0≤t10) && decide (t10<(t1.length:Int))) then (bif decide (fI (t1.getD t10.toNat .undef) 0≤t2) then (bif (decide (0≤t10) && decide (t10<(t1.length:Int))) then N (fI (t1.getD t10.toNat .undef) 1,IntKind.i64.wrap (t10+1))
 else d)
 else N (t8,IntKind.i64.wrap (t10+1)))
 else d)
 else K t8)
def F164_0 (t1:List AV) (t2 t9 t8 t10:Int):Out ((Int × Int)) (Int):=G164_0 t1 t2 t9 t8 t10 .next .stop .fail
def R164_0 (t1:List AV) (t2 t9:Int):((Int × Int))→Out ((Int × Int)) (Int):=fun s:Int × Int=>F164_0 t1 t2 t9 s.1 s.2
def E164_0 (t1:List AV) (t2 t9:Int):((Int × Int))→St:=fun s:Int × Int=>⟨[(1,AV.sl [.int .i64,.int .i64] t1),(2,Ai t2),(8,Ai s.1),(9,Ai t9),(10,Ai s.2)],[]⟩
def K164_0 (t1:List AV) (t2 t9:Int) (k:Kont):(Int)→Option AV:=fun p:Int=>k (.exit 0) ⟨[(1,AV.sl [.int .i64,.int .i64] t1),(2,Ai t2),(8,Ai p),(9,Ai t9)],[]⟩
def l164_0:LModel:=fun _ _ st k=>match st with
 | ⟨[(1,.sl g0 t1),(2,.int .i64 t2),(8,.int .i64 t8),(9,.int .i64 t9),(10,.int .i64 t10)],[]⟩=>bif ctsEq g0 ([.int .i64,.int .i64]) then ro (runW (R164_0 t1 t2 t9) (((t1.length:Int) - t10:Int).toNat+1) (t8,t10)) none (K164_0 t1 t2 t9 k) else none
 | _=>none
noncomputable def c164:Cfg:=cfg Tryz.prog [(164,0,[1,2,8,9,10]),(164,2,[1,2,8,9,11]),(164,999,[6,7]),(164,1000,[1,2,8,9]),(164,1001,[1,2,8,9,10]),(164,1002,[8,9]),(164,1003,[1,2,8,9,11])] [] [] [] [(164,0,l164_0),(164,2,l164_2)]
theorem s164_2 (t1:List AV) (t2 t8:Int) (ce:CallE) (k:Kont) (s:Int × Int) (next:St→Option AV):stepA (codeA c164 ce [] 164 2 (sub [1,1,1,1,0,1,0,0] (body Tryz.f164))) (normA [] [1,2,8,9,11]) next ((E164_2 t1 t2 t8) s) k=G164_2 t1 t2 t8 s.1 s.2 (fun s=>next ((E164_2 t1 t2 t8) s)) (K164_2 t1 t2 t8 k) none:=by kernel_rfl
theorem st164_2 (t1:List AV) (t2 t8:Int) (ce:CallE) (k:Kont) (s:(Int × Int)) (next:St→Option AV):stepA (codeA c164 ce [] 164 2 (sub [1,1,1,1,0,1,0,0] (body Tryz.f164))) (normA [] [1,2,8,9,11]) next ((E164_2 t1 t2 t8) s) k=(R164_2 t1 t2 t8 s).el none (fun s=>next ((E164_2 t1 t2 t8) s)) (K164_2 t1 t2 t8 k):=(s164_2 t1 t2 t8 ce k s next).trans (by unfold R164_2;unfold F164_2 G164_2;simp only [el_cond,el_ro,el_sum,el_fail,el_next,el_stop] <;> rfl)
theorem ok164_2 {ce:CallE}:LoopOK c164 ce [] 164 2 (sub [1,1,1,1,0,1,0,0] (body Tryz.f164)):=by
 intro m hm st k r h
 obtain rfl:l164_2=m:=Option.some.inj hm
 unfold l164_2 at h
 split at h
 ·rename_i g0 t1 t2 t8 t9 t11
  obtain ⟨hg,h⟩:=bif_some h
  have q0:=hg
  obtain rfl:=cE q0
  refine ⟨((t11 - 0+1:Int).toNat+1),?_⟩
  rw [← h]
  exact loop_run (E164_2 t1 t2 t8) (K164_2 t1 t2 t8 k) (st164_2 t1 t2 t8 ce k) _ (t9,t11)
 ·cases h
theorem s164_0 (t1:List AV) (t2 t9:Int) (ce:CallE) (k:Kont) (s:Int × Int) (next:St→Option AV):stepA (codeA c164 ce [] 164 0 (sub [1,1,1,0,1,0,0] (body Tryz.f164))) (normA [] [1,2,8,9,10]) next ((E164_0 t1 t2 t9) s) k=G164_0 t1 t2 t9 s.1 s.2 (fun s=>next ((E164_0 t1 t2 t9) s)) (K164_0 t1 t2 t9 k) none:=by kernel_rfl
theorem st164_0 (t1:List AV) (t2 t9:Int) (ce:CallE) (k:Kont) (s:(Int × Int)) (next:St→Option AV):stepA (codeA c164 ce [] 164 0 (sub [1,1,1,0,1,0,0] (body Tryz.f164))) (normA [] [1,2,8,9,10]) next ((E164_0 t1 t2 t9) s) k=(R164_0 t1 t2 t9 s).el none (fun s=>next ((E164_0 t1 t2 t9) s)) (K164_0 t1 t2 t9 k):=(s164_0 t1 t2 t9 ce k s next).trans (by unfold R164_0;unfold F164_0 G164_0;simp only [el_cond,el_ro,el_sum,el_fail,el_next,el_stop] <;> rfl)
theorem ok164_0 {ce:CallE}:LoopOK c164 ce [] 164 0 (sub [1,1,1,0,1,0,0] (body Tryz.f164)):=by
 intro m hm st k r h
 obtain rfl:l164_0=m:=Option.some.inj hm
 unfold l164_0 at h
 split at h
 ·rename_i g0 t1 t2 t8 t9 t10
  obtain ⟨hg,h⟩:=bif_some h
  have q0:=hg
  obtain rfl:=cE q0
  refine ⟨(((t1.length:Int) - t10:Int).toNat+1),?_⟩
  rw [← h]
  exact loop_run (E164_0 t1 t2 t9) (K164_0 t1 t2 t9 k) (st164_0 t1 t2 t9 ce k) _ (t8,t10)
 ·cases h
def q164 (a0:Int) (a1:List AV) (a2:Int):Bool:=(ro (runW (R164_0 a1 a2 a0) (((a1.length:Int) - 0:Int).toNat+1) (0,0)) false (fun p58=>(ro (runW (R164_2 a1 a2 p58) (((IntKind.i64.wrap ((a1.length:Int) - 1)) - 0+1:Int).toNat+1) (a0,IntKind.i64.wrap ((a1.length:Int) - 1))) false (fun p59=>true))))
def v164_0 (a0:Int) (a1:List AV) (a2:Int):Int:=(ro (runW (R164_0 a1 a2 a0) (((a1.length:Int) - 0:Int).toNat+1) (0,0)) 0 (fun p58=>p58))
def v164_1 (a0:Int) (a1:List AV) (a2:Int):Int:=(ro (runW (R164_0 a1 a2 a0) (((a1.length:Int) - 0:Int).toNat+1) (0,0)) 0 (fun p58=>(ro (runW (R164_2 a1 a2 p58) (((IntKind.i64.wrap ((a1.length:Int) - 1)) - 0+1:Int).toNat+1) (a0,IntKind.i64.wrap ((a1.length:Int) - 1))) 0 (fun p59=>p59))))
theorem e164 (a0:Int) (a1:List AV) (a2:Int):funA c164 0 164 [Ai a0,AV.sl [.int .i64,.int .i64] a1,Ai a2]=(ro (runW (R164_0 a1 a2 a0) (((a1.length:Int) - 0:Int).toNat+1) (0,0)) none (fun p58=>(ro (runW (R164_2 a1 a2 p58) (((IntKind.i64.wrap ((a1.length:Int) - 1)) - 0+1:Int).toNat+1) (a0,IntKind.i64.wrap ((a1.length:Int) - 1))) none (fun p59=>some (AV.tup [Ai p58,Ai p59]))))):=by kernel_rfl
def m164:TModel
 | [.int .i64 a0,.sl g0 a1,.int .i64 a2]=>bif ctsEq g0 ([.int .i64,.int .i64]) then some (q164 a0 a1 a2,AV.tup [AV.int .i64 (v164_0 a0 a1 a2),AV.int .i64 (v164_1 a0 a1 a2)]) else none
 | _=>none
theorem k164:Known Tryz.prog 164:=⟨Tryz.f164,Tryz.func164,by kernel_rfl,by kernel_rfl⟩
theorem meets164:Meets Tryz.prog 164 m164:=by
 refine mt (lvl:=0) (cf:=c164) rfl mixed k164 Tryz.func164 (by kernel_rfl) (loops_cons ok164_0 (loops_cons ok164_2 noLoop)) allT_nil allM_nil noI fun xs r h=>?_
 unfold m164 at h
 split at h
 ·rename_i a0 g0 a1 a2
  obtain ⟨hg,h⟩:=bif_pair h
  have q0:=hg
  obtain rfl:=cE q0
  obtain ⟨h1,rfl⟩:=pair_inj h
  exact (e164 a0 a1 a2).trans ((brO (fun o:Option (Int)=>some (AV.tup [Ai (ro o 0 (fun p58=>p58)),Ai (ro o 0 (fun p58=>(ro (runW (R164_2 a1 a2 p58) (((IntKind.i64.wrap ((a1.length:Int) - 1)) - 0+1:Int).toNat+1) (a0,IntKind.i64.wrap ((a1.length:Int) - 1))) 0 (fun p59=>p59))))])) (fun p58=>(brO (fun o:Option (Int)=>some (AV.tup [Ai p58,Ai (ro o 0 (fun p59=>p59))])) (fun p59=>(fun _=>rfl))))) h1)
 ·cases h
noncomputable def c101:Cfg:=cfg Tryz.prog [(101,999,[4,5])] [(71,m71),(72,m72),(164,m164)] [] [] []
def q101 (xa xb xc:List AV) (a1:Int):Bool:=(q71 xa xb xc && (bif !(v71_0 xa xb xc) then true else (bif !(v72_0 a1 (-1000) 1000) then true else q164 (xa.length:Int) xc a1)))
def v101_0 (xa xb xc:List AV) (a1:Int):Int:=(bif !(v71_0 xa xb xc) then 0 else (bif !(v72_0 a1 (-1000) 1000) then 0 else (v164_0 (xa.length:Int) xc a1)))
def v101_1 (xa xb xc:List AV) (a1:Int):Int:=(bif !(v71_0 xa xb xc) then 0 else (bif !(v72_0 a1 (-1000) 1000) then 0 else (v164_1 (xa.length:Int) xc a1)))
theorem e101 (xa xb xc:List AV) (a1:Int):funA c101 0 101 [AV.agg [AV.sl [.int .i64] xa,AV.sl [.int .i64] xb,AV.sl [.int .i64,.int .i64] xc],Ai a1]=(bif q71 xa xb xc then (bif !(v71_0 xa xb xc) then some (AV.tup [Ai 0,Ai 0])
 else (bif !(v72_0 a1 (-1000) 1000) then some (AV.tup [Ai 0,Ai 0])
 else (bif q164 (xa.length:Int) xc a1 then some (AV.tup [Ai (v164_0 (xa.length:Int) xc a1),Ai (v164_1 (xa.length:Int) xc a1)])
 else none)))
 else none):=by kernel_rfl
def m101:TModel
 | [.agg [.sl g0 xa,.sl g1 xb,.sl g2 xc],.int .i64 a1]=>bif ctsEq g0 ([.int .i64]) && ctsEq g1 ([.int .i64]) && ctsEq g2 ([.int .i64,.int .i64]) then some (q101 xa xb xc a1,AV.tup [AV.int .i64 (v101_0 xa xb xc a1),AV.int .i64 (v101_1 xa xb xc a1)]) else none
 | _=>none
theorem k101:Known Tryz.prog 101:=⟨Tryz.f101,Tryz.func101,by kernel_rfl,by kernel_rfl⟩
theorem meets101:Meets Tryz.prog 101 m101:=by
 refine mt (lvl:=0) (cf:=c101) rfl mixed k101 Tryz.func101 (by kernel_rfl) noLoop (allT_cons meets71 (allT_cons meets72 (allT_cons meets164 allT_nil))) allM_nil noI fun xs r h=>?_
 unfold m101 at h
 split at h
 ·rename_i g0 xa g1 xb g2 xc a1
  obtain ⟨hg,h⟩:=bif_pair h
  simp only [Bool.and_eq_true] at hg
  obtain ⟨⟨q0,q1⟩,q2⟩:=hg
  obtain rfl:=cE q0
  obtain rfl:=cE q1
  obtain rfl:=cE q2
  obtain ⟨h1,rfl⟩:=pair_inj h
  exact (e101 xa xb xc a1).trans ((brL (br (fun b=>some (AV.tup [Ai (bif b then 0 else (bif !(v72_0 a1 (-1000) 1000) then 0 else (v164_0 (xa.length:Int) xc a1))),Ai (bif b then 0 else (bif !(v72_0 a1 (-1000) 1000) then 0 else (v164_1 (xa.length:Int) xc a1)))])) (fun _=>rfl) (br (fun b=>some (AV.tup [Ai (bif b then 0 else (v164_0 (xa.length:Int) xc a1)),Ai (bif b then 0 else (v164_1 (xa.length:Int) xc a1))])) (fun _=>rfl) (brL1 (fun _=>rfl))))) h1)
 ·cases h
def G21_0 {β:Type} (t1:Int) (h0_0:List AV) (h0_1:List AV) (h0_2:List AV) (t6:Int) (N:(Int)→β) (K:(Unit ⊕ Int)→β) (d:β):β:=(bif decide (t6<(h0_2.length:Int)) then (bif (decide (0≤t6) && decide (t6<(h0_2.length:Int))) then (bif decide (fI (h0_2.getD t6.toNat .undef) 0=t1) then (bif (decide (0≤t6) && decide (t6<(h0_2.length:Int))) then K (.inr (fI (h0_2.getD t6.toNat .undef) 1))
 else d)
 else N (IntKind.i64.wrap (t6+1)))
 else d)
 else K (.inl ()))
def F21_0 (t1:Int) (h0_0 h0_1 h0_2:List AV) (t6:Int):Out (Int) (Unit ⊕ Int):=G21_0 t1 h0_0 h0_1 h0_2 t6 .next .stop .fail
def R21_0 (t1:Int) (h0_0 h0_1 h0_2:List AV):(Int)→Out (Int) (Unit ⊕ Int):=fun s:Int=>F21_0 t1 h0_0 h0_1 h0_2 s
def E21_0 (t1:Int) (h0_0 h0_1 h0_2:List AV):(Int)→St:=fun s:Int=>⟨[(1,Ai t1),(2,AV.ptr [0,2] 0 0),(6,Ai s)],[([0,2],⟨true,[],[AV.agg [AV.sl [.int .i64] h0_0,AV.sl [.int .i64] h0_1,AV.sl [.int .i64,.int .i64] h0_2]]⟩)]⟩
def K21_0 (t1:Int) (h0_0 h0_1 h0_2:List AV) (k:Kont):(Unit ⊕ Int)→Option AV:=sumE (fun _:Unit=>k (.exit 0) ⟨[],[([0,2],⟨true,[],[AV.agg [AV.sl [.int .i64] h0_0,AV.sl [.int .i64] h0_1,AV.sl [.int .i64,.int .i64] h0_2]]⟩)]⟩) (fun p:Int=>k .ret ⟨[(4,Ai p),(5,AV.bool true)],[([0,2],⟨true,[],[AV.agg [AV.sl [.int .i64] h0_0,AV.sl [.int .i64] h0_1,AV.sl [.int .i64,.int .i64] h0_2]]⟩)]⟩)
def l21_0:LModel:=fun _ _ st k=>match st with
 | ⟨[(1,.int .i64 t1),(2,.ptr g0 g1 g2),(6,.int .i64 t6)],[(g3,⟨true,[],[.agg [.sl g4 h0_0,.sl g5 h0_1,.sl g6 h0_2]]⟩)]⟩=>bif nmEq g0 ([0,2]) && Nat.beq g1 0 && Nat.beq g2 0 && nmEq g3 ([0,2]) && ctsEq g4 ([.int .i64]) && ctsEq g5 ([.int .i64]) && ctsEq g6 ([.int .i64,.int .i64]) then ro (runW (R21_0 t1 h0_0 h0_1 h0_2) (((h0_2.length:Int) - t6:Int).toNat+1) t6) none (K21_0 t1 h0_0 h0_1 h0_2 k) else none
 | _=>none
noncomputable def c21:Cfg:=cfg Tryz.prog [(21,0,[1,2,6]),(21,999,[4,5]),(21,1000,[]),(21,1001,[1,2,6])] [] [] [] [(21,0,l21_0)]
theorem s21_0 (t1:Int) (h0_0 h0_1 h0_2:List AV) (ce:CallE) (k:Kont) (s:Int) (next:St→Option AV):stepA (codeA c21 ce [] 21 0 (sub [1,0,1,0,0] (body Tryz.f21))) (normA [] [1,2,6]) next ((E21_0 t1 h0_0 h0_1 h0_2) s) k=G21_0 t1 h0_0 h0_1 h0_2 s (fun s=>next ((E21_0 t1 h0_0 h0_1 h0_2) s)) (K21_0 t1 h0_0 h0_1 h0_2 k) none:=by kernel_rfl
theorem st21_0 (t1:Int) (h0_0 h0_1 h0_2:List AV) (ce:CallE) (k:Kont) (s:Int) (next:St→Option AV):stepA (codeA c21 ce [] 21 0 (sub [1,0,1,0,0] (body Tryz.f21))) (normA [] [1,2,6]) next ((E21_0 t1 h0_0 h0_1 h0_2) s) k=(R21_0 t1 h0_0 h0_1 h0_2 s).el none (fun s=>next ((E21_0 t1 h0_0 h0_1 h0_2) s)) (K21_0 t1 h0_0 h0_1 h0_2 k):=(s21_0 t1 h0_0 h0_1 h0_2 ce k s next).trans (by unfold R21_0;unfold F21_0 G21_0;simp only [el_cond,el_ro,el_sum,el_fail,el_next,el_stop] <;> rfl)
theorem ok21_0 {ce:CallE}:LoopOK c21 ce [] 21 0 (sub [1,0,1,0,0] (body Tryz.f21)):=by
 intro m hm st k r h
 obtain rfl:l21_0=m:=Option.some.inj hm
 unfold l21_0 at h
 split at h
 ·rename_i t1 g0 g1 g2 t6 g3 g4 h0_0 g5 h0_1 g6 h0_2
  obtain ⟨hg,h⟩:=bif_some h
  simp only [Bool.and_eq_true] at hg
  obtain ⟨⟨⟨⟨⟨⟨q0,q1⟩,q2⟩,q3⟩,q4⟩,q5⟩,q6⟩:=hg
  obtain rfl:=nE q0
  obtain rfl:=bE q1
  obtain rfl:=bE q2
  obtain rfl:=nE q3
  obtain rfl:=cE q4
  obtain rfl:=cE q5
  obtain rfl:=cE q6
  refine ⟨(((h0_2.length:Int) - t6:Int).toNat+1),?_⟩
  rw [← h]
  exact loop_run (E21_0 t1 h0_0 h0_1 h0_2) (K21_0 t1 h0_0 h0_1 h0_2 k) (st21_0 t1 h0_0 h0_1 h0_2 ce k) _ t6
 ·cases h
def q21 (xa xb xc:List AV) (a1:Int):Bool:=(ro (runW (R21_0 a1 xa xb xc) (((xc.length:Int) - 0:Int).toNat+1) 0) false (sumE (fun _=>true) (fun p61=>true)))
def v21_0 (xa xb xc:List AV) (a1:Int):Int:=(ro (runW (R21_0 a1 xa xb xc) (((xc.length:Int) - 0:Int).toNat+1) 0) 0 (sumE (fun _=>0) (fun p61=>p61)))
def v21_1 (xa xb xc:List AV) (a1:Int):Bool:=(ro (runW (R21_0 a1 xa xb xc) (((xc.length:Int) - 0:Int).toNat+1) 0) false (sumE (fun _=>false) (fun p61=>true)))
theorem e21 (xa xb xc:List AV) (a1:Int):funA c21 0 21 [AV.agg [AV.sl [.int .i64] xa,AV.sl [.int .i64] xb,AV.sl [.int .i64,.int .i64] xc],Ai a1]=(ro (runW (R21_0 a1 xa xb xc) (((xc.length:Int) - 0:Int).toNat+1) 0) none (sumE (fun _=>some (AV.tup [Ai 0,AV.bool false])) (fun p61=>some (AV.tup [Ai p61,AV.bool true])))):=by kernel_rfl
def m21:TModel
 | [.agg [.sl g0 xa,.sl g1 xb,.sl g2 xc],.int .i64 a1]=>bif ctsEq g0 ([.int .i64]) && ctsEq g1 ([.int .i64]) && ctsEq g2 ([.int .i64,.int .i64]) then some (q21 xa xb xc a1,AV.tup [AV.int .i64 (v21_0 xa xb xc a1),AV.bool (v21_1 xa xb xc a1)]) else none
 | _=>none
theorem k21:Known Tryz.prog 21:=⟨Tryz.f21,Tryz.func21,by kernel_rfl,by kernel_rfl⟩
theorem meets21:Meets Tryz.prog 21 m21:=by
 refine mt (lvl:=0) (cf:=c21) rfl mixed k21 Tryz.func21 (by kernel_rfl) (loops_cons ok21_0 noLoop) allT_nil allM_nil noI fun xs r h=>?_
 unfold m21 at h
 split at h
 ·rename_i g0 xa g1 xb g2 xc a1
  obtain ⟨hg,h⟩:=bif_pair h
  simp only [Bool.and_eq_true] at hg
  obtain ⟨⟨q0,q1⟩,q2⟩:=hg
  obtain rfl:=cE q0
  obtain rfl:=cE q1
  obtain rfl:=cE q2
  obtain ⟨h1,rfl⟩:=pair_inj h
  exact (e21 xa xb xc a1).trans ((brO (fun o:Option (Unit ⊕ Int)=>some (AV.tup [Ai (ro o 0 (sumE (fun _=>0) (fun p61=>p61))),AV.bool (ro o false (sumE (fun _=>false) (fun p61=>true)))])) (brS (fun o:Unit ⊕ Int=>some (AV.tup [Ai ((sumE (fun _=>0) (fun p61=>p61)) o),AV.bool ((sumE (fun _=>false) (fun p61=>true)) o)])) (fun _=>(fun _=>rfl)) (fun p61=>(fun _=>rfl)))) h1)
 ·cases h
noncomputable def c260:Cfg:=cfg Tryz.prog [(260,999,[2])] [] [] [] []
def q260 (a0:Int):Bool:=(!decide (10007=0) && (!decide (10007=0) && !decide (10007=0)))
def v260_0 (a0:Int):Int:=Int.tmod (IntKind.i64.wrap (IntKind.i64.wrap (Int.tmod (IntKind.i64.wrap (Int.tmod a0 10007+10007)) 10007*1103)+2345)) 10007
theorem e260 (a0:Int):funA c260 0 260 [Ai a0]=(bif !decide (10007=0) then (bif !decide (10007=0) then (bif !decide (10007=0) then some (Ai (Int.tmod (IntKind.i64.wrap (IntKind.i64.wrap (Int.tmod (IntKind.i64.wrap (Int.tmod a0 10007+10007)) 10007*1103)+2345)) 10007))
 else none)
 else none)
 else none):=by kernel_rfl
def m260:TModel
 | [.int .i64 a0]=>some (q260 a0,AV.int .i64 (v260_0 a0))
 | _=>none
theorem k260:Known Tryz.prog 260:=⟨Tryz.f260,Tryz.func260,by kernel_rfl,by kernel_rfl⟩
theorem meets260:Meets Tryz.prog 260 m260:=by
 refine mt (lvl:=0) (cf:=c260) rfl mixed k260 Tryz.func260 (by kernel_rfl) noLoop allT_nil allM_nil noI fun xs r h=>?_
 unfold m260 at h
 split at h
 ·rename_i a0
  obtain ⟨h1,rfl⟩:=pair_inj h
  exact (e260 a0).trans ((brL (brL (brL1 (fun _=>rfl)))) h1)
 ·cases h
noncomputable def c149:Cfg:=cfg Tryz.prog [(149,999,[])] [] [] [] []
def q149 (a1 a2:Int) (b0:List AV):Bool:=((decide (0≤a1) && decide (a1<(b0.length:Int))) && ((decide (0≤a2) && decide (a2<(b0.length:Int))) && ((decide (0≤a1) && decide (a1<(b0.length:Int))) && (decide (0≤a2) && decide (a2<((b0.set a1.toNat (AV.agg [AV.int .i64 (fI (b0.getD a2.toNat .undef) 0)])).length:Int))))))
def v149_0 (a1 a2:Int) (b0:List AV):List AV:=(b0.set a1.toNat (AV.agg [AV.int .i64 (fI (b0.getD a2.toNat .undef) 0)])).set a2.toNat (AV.agg [AV.int .i64 (fI (b0.getD a1.toNat .undef) 0)])
theorem e149 (a1 a2:Int) (b0:List AV) (K:AV→List Blk→Option AV):inlA c149 1 149 [AV.own [1],Ai a1,Ai a2] [0] (canH 1 [⟨false,[.int .i64],b0⟩]) (keepB 1 K)=(bif (decide (0≤a1) && decide (a1<(b0.length:Int))) then (bif (decide (0≤a2) && decide (a2<(b0.length:Int))) then (bif (decide (0≤a1) && decide (a1<(b0.length:Int))) then (bif (decide (0≤a2) && decide (a2<((b0.set a1.toNat (AV.agg [Ai (fI (b0.getD a2.toNat .undef) 0)])).length:Int))) then K (AV.tup []) [⟨false,[.int .i64],(b0.set a1.toNat (AV.agg [Ai (fI (b0.getD a2.toNat .undef) 0)])).set a2.toNat (AV.agg [Ai (fI (b0.getD a1.toNat .undef) 0)])⟩]
 else none)
 else none)
 else none)
 else none):=by kernel_rfl
theorem r149 (a1 a2:Int) (b0:List AV) (K:AV→List Blk→Option AV) (h:q149 a1 a2 b0=true):inlA c149 1 149 [AV.own [1],AV.int .i64 a1,AV.int .i64 a2] [0] (canH 1 [⟨false,[.int .i64],b0⟩]) (keepB 1 K)=K (AV.tup []) [⟨false,[.int .i64],(v149_0 a1 a2 b0)⟩]:=(e149 a1 a2 b0 K).trans ((brL (brL (brL (brL1 (fun _=>rfl))))) h)
def m149:WModel
 | [.own g0,.int .i64 a1,.int .i64 a2],[⟨false,g1,b0⟩]=>bif nmEq g0 ([1]) && ctsEq g1 ([.int .i64]) then some (q149 a1 a2 b0,AV.tup [],[⟨false,[.int .i64],(v149_0 a1 a2 b0)⟩]) else none
 | _,_=>none
theorem k149:Known Tryz.prog 149:=⟨Tryz.f149,Tryz.func149,by kernel_rfl,by kernel_rfl⟩
theorem meets149:MeetsM Tryz.prog 149 m149:=by
 refine mw (lvl:=0) (cf:=c149) rfl mixed k149 Tryz.func149 (by kernel_rfl) noLoop allT_nil allM_nil noI fun xs bs r bs' h K=>?_
 unfold m149 at h
 split at h
 ·rename_i g0 a1 a2 g1 b0
  obtain ⟨hg,h⟩:=bif_pair h
  simp only [Bool.and_eq_true] at hg
  obtain ⟨q0,q1⟩:=hg
  obtain rfl:=nE q0
  obtain rfl:=cE q1
  obtain ⟨h1,rfl,rfl⟩:=trip_inj h
  exact r149 a1 a2 b0 K h1
 ·cases h
def G77_2 {β:Type} (t4:Int) (t5:Int) (h0:List AV) (N:((Int × (List AV)))→β) (K:(((List AV)))→β) (d:β):β:=(bif decide (t5 > 0) then (bif (decide (0≤IntKind.i64.wrap (t5 - 1)) && decide (IntKind.i64.wrap (t5 - 1)<(h0.length:Int))) then (bif (decide (0≤t5) && decide (t5<(h0.length:Int))) then (bif decide (fI (h0.getD (IntKind.i64.wrap (t5 - 1)).toNat .undef) 0 > fI (h0.getD t5.toNat .undef) 0) then (bif q149 (IntKind.i64.wrap (t5 - 1)) t5 h0 then N (IntKind.i64.wrap (t5 - 1),(v149_0 (IntKind.i64.wrap (t5 - 1)) t5 h0))
 else d)
 else K h0)
 else d)
 else d)
 else K h0)
def F77_2 (t4 t5:Int) (h0:List AV):Out ((Int × (List AV))) (((List AV))):=G77_2 t4 t5 h0 .next .stop .fail
def R77_2 (t4:Int):((Int × (List AV)))→Out ((Int × (List AV))) (((List AV))):=fun s:Int × (List AV)=>F77_2 t4 s.1 s.2
def E77_2 (t4:Int):((Int × (List AV)))→St:=fun s:Int × (List AV)=>⟨[(3,AV.own [0,3]),(4,Ai t4),(5,Ai s.1)],[([0,3],⟨false,[.int .i64],s.2⟩)]⟩
def K77_2 (t4:Int) (k:Kont):(((List AV)))→Option AV:=fun p:(List AV)=>k (.exit 2) ⟨[(3,AV.own [0,3]),(4,Ai t4)],[([0,3],⟨false,[.int .i64],p⟩)]⟩
def l77_2:LModel:=fun _ _ st k=>match st with
 | ⟨[(3,.own g0),(4,.int .i64 t4),(5,.int .i64 t5)],[(g1,⟨false,g2,h0⟩)]⟩=>bif nmEq g0 ([0,3]) && nmEq g1 ([0,3]) && ctsEq g2 ([.int .i64]) then ro (runW (R77_2 t4) ((t5 - 0:Int).toNat+1) (t5,h0)) none (K77_2 t4 k) else none
 | _=>none
def G77_0 {β:Type} (t4:Int) (h0:List AV) (N:((Int × (List AV)))→β) (K:(((List AV)))→β) (d:β):β:=(bif decide (t4<(h0.length:Int)) then (ro (runW (R77_2 t4) ((t4 - 0:Int).toNat+1) (t4,h0)) d (fun p62=>N (IntKind.i64.wrap (t4+1),p62)))
 else K h0)
def F77_0 (t4:Int) (h0:List AV):Out ((Int × (List AV))) (((List AV))):=G77_0 t4 h0 .next .stop .fail
def R77_0:((Int × (List AV)))→Out ((Int × (List AV))) (((List AV))):=fun s:Int × (List AV)=>F77_0 s.1 s.2
def E77_0:((Int × (List AV)))→St:=fun s:Int × (List AV)=>⟨[(3,AV.own [0,3]),(4,Ai s.1)],[([0,3],⟨false,[.int .i64],s.2⟩)]⟩
def K77_0 (k:Kont):(((List AV)))→Option AV:=fun p:(List AV)=>k (.exit 0) ⟨[(3,AV.own [0,3])],[([0,3],⟨false,[.int .i64],p⟩)]⟩
def l77_0:LModel:=fun _ _ st k=>match st with
 | ⟨[(3,.own g0),(4,.int .i64 t4)],[(g1,⟨false,g2,h0⟩)]⟩=>bif nmEq g0 ([0,3]) && nmEq g1 ([0,3]) && ctsEq g2 ([.int .i64]) then ro (runW (R77_0) (((h0.length:Int) - t4:Int).toNat+1) (t4,h0)) none (K77_0 k) else none
 | _=>none
noncomputable def c77:Cfg:=cfg Tryz.prog [(77,0,[3,4]),(77,2,[3,4,5]),(77,999,[2]),(77,1000,[3]),(77,1001,[3,4]),(77,1002,[3,4]),(77,1003,[3,4,5])] [] [(149,.w m149)] [] [(77,0,l77_0),(77,2,l77_2)]
theorem s77_2 (t4:Int) (ce:CallE) (k:Kont) (s:Int × (List AV)) (next:St→Option AV):stepA (codeA c77 ce [] 77 2 (sub [1,1,0,1,0,0,1,0,0,1,0,0] (body Tryz.f77))) (normA [] [3,4,5]) next ((E77_2 t4) s) k=G77_2 t4 s.1 s.2 (fun s=>next ((E77_2 t4) s)) (K77_2 t4 k) none:=by kernel_rfl
theorem st77_2 (t4:Int) (ce:CallE) (k:Kont) (s:(Int × (List AV))) (next:St→Option AV):stepA (codeA c77 ce [] 77 2 (sub [1,1,0,1,0,0,1,0,0,1,0,0] (body Tryz.f77))) (normA [] [3,4,5]) next ((E77_2 t4) s) k=(R77_2 t4 s).el none (fun s=>next ((E77_2 t4) s)) (K77_2 t4 k):=(s77_2 t4 ce k s next).trans (by unfold R77_2;unfold F77_2 G77_2;simp only [el_cond,el_ro,el_sum,el_fail,el_next,el_stop] <;> rfl)
theorem ok77_2 {ce:CallE}:LoopOK c77 ce [] 77 2 (sub [1,1,0,1,0,0,1,0,0,1,0,0] (body Tryz.f77)):=by
 intro m hm st k r h
 obtain rfl:l77_2=m:=Option.some.inj hm
 unfold l77_2 at h
 split at h
 ·rename_i g0 t4 t5 g1 g2 h0
  obtain ⟨hg,h⟩:=bif_some h
  simp only [Bool.and_eq_true] at hg
  obtain ⟨⟨q0,q1⟩,q2⟩:=hg
  obtain rfl:=nE q0
  obtain rfl:=nE q1
  obtain rfl:=cE q2
  refine ⟨((t5 - 0:Int).toNat+1),?_⟩
  rw [← h]
  exact loop_run (E77_2 t4) (K77_2 t4 k) (st77_2 t4 ce k) _ (t5,h0)
 ·cases h
theorem s77_0 (ce:CallE) (k:Kont) (s:Int × (List AV)) (next:St→Option AV):stepA (codeA c77 ce [] 77 0 (sub [1,1,0,1,0,0] (body Tryz.f77))) (normA [] [3,4]) next (E77_0 s) k=G77_0 s.1 s.2 (fun s=>next (E77_0 s)) (K77_0 k) none:=by kernel_rfl
theorem st77_0 (ce:CallE) (k:Kont) (s:(Int × (List AV))) (next:St→Option AV):stepA (codeA c77 ce [] 77 0 (sub [1,1,0,1,0,0] (body Tryz.f77))) (normA [] [3,4]) next (E77_0 s) k=(R77_0 s).el none (fun s=>next (E77_0 s)) (K77_0 k):=(s77_0 ce k s next).trans (by unfold R77_0;unfold F77_0 G77_0;simp only [el_cond,el_ro,el_sum,el_fail,el_next,el_stop] <;> rfl)
theorem ok77_0 {ce:CallE}:LoopOK c77 ce [] 77 0 (sub [1,1,0,1,0,0] (body Tryz.f77)):=by
 intro m hm st k r h
 obtain rfl:l77_0=m:=Option.some.inj hm
 unfold l77_0 at h
 split at h
 ·rename_i g0 t4 g1 g2 h0
  obtain ⟨hg,h⟩:=bif_some h
  simp only [Bool.and_eq_true] at hg
  obtain ⟨⟨q0,q1⟩,q2⟩:=hg
  obtain rfl:=nE q0
  obtain rfl:=nE q1
  obtain rfl:=cE q2
  refine ⟨(((h0.length:Int) - t4:Int).toNat+1),?_⟩
  rw [← h]
  exact loop_run E77_0 (K77_0 k) (st77_0 ce k) _ (t4,h0)
 ·cases h
def q77 (a0:List AV):Bool:=((decide ((([]:List AV).length+a0.length)*8≤140737488355328) && decide ((([]:List AV).length+a0.length)≤140737488355328)) && (ro (runW (R77_0) ((((([]:List AV)++a0).length:Int) - 1:Int).toNat+1) (1,([]:List AV)++a0)) false (fun p63=>true)))
def v77_0 (a0:List AV):List AV:=(ro (runW (R77_0) ((((([]:List AV)++a0).length:Int) - 1:Int).toNat+1) (1,([]:List AV)++a0)) [] (fun p63=>p63))
theorem e77 (a0:List AV):funA c77 0 77 [AV.sl [.int .i64] a0]=(bif (decide ((([]:List AV).length+a0.length)*8≤140737488355328) && decide ((([]:List AV).length+a0.length)≤140737488355328)) then (ro (runW (R77_0) ((((([]:List AV)++a0).length:Int) - 1:Int).toNat+1) (1,([]:List AV)++a0)) none (fun p63=>some (AV.fl [.int .i64] p63)))
 else none):=by kernel_rfl
def m77:TModel
 | [.sl g0 a0]=>bif ctsEq g0 ([.int .i64]) then some (q77 a0,AV.fl [.int .i64] (v77_0 a0)) else none
 | _=>none
theorem k77:Known Tryz.prog 77:=⟨Tryz.f77,Tryz.func77,by kernel_rfl,by kernel_rfl⟩
theorem meets77:Meets Tryz.prog 77 m77:=by
 refine mt (lvl:=0) (cf:=c77) rfl mixed k77 Tryz.func77 (by kernel_rfl) (loops_cons ok77_0 (loops_cons ok77_2 noLoop)) allT_nil (allM_cons meets149 allM_nil) noI fun xs r h=>?_
 unfold m77 at h
 split at h
 ·rename_i g0 a0
  obtain ⟨hg,h⟩:=bif_pair h
  have q0:=hg
  obtain rfl:=cE q0
  obtain ⟨h1,rfl⟩:=pair_inj h
  exact (e77 a0).trans ((brL (brO (fun o:Option (((List AV)))=>some (AV.fl [.int .i64] (ro o [] (fun p63=>p63)))) (fun p63=>(fun _=>rfl)))) h1)
 ·cases h
end
end Go.Proofs.YtealoedecngaoaaGreatDoor
