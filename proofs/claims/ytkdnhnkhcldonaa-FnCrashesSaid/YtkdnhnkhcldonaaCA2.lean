import Derived.Test.YtkdnhnkhcldonaaCA1
import Derived.Test.YtkdnhnkhcldonaaProg
import Derived.KernelRfl
namespace Go.Proofs.Ytkdnhnkhcldonaa
open Go Go.Proofs.VE
set_option linter.unusedVariables false
set_option linter.unusedSimpArgs false
set_option maxRecDepth 100000
set_option maxHeartbeats 4000000
noncomputable section
def F71_0 (t7:Int) (t21:List AV) (t22:Int) (h2_0 h2_1 h2_2 h3:List AV) (t23:Int) (h0 h1:List AV):Out ((Int × (List AV) × (List AV))) (((List AV) × (List AV)) ⊕ ((List AV) × (List AV) × (List AV) × (List AV) × Int × Int × (List AV))):=(bif decide (t23<t22) then (bif (decide (0≤t23) && decide (t23<(t21.length:Int))) then (bif decide (fI (t21.getD t23.toNat .undef) 0<0) then (bif q69 h2_0 h2_1 h2_2 then .stop (.inr (h0,h1,(v69_0 h2_0 h2_1 h2_2),(v69_1 h2_0 h2_1 h2_2),fI (t21.getD t23.toNat .undef) 0,fI (t21.getD t23.toNat .undef) 1,(v69_2 h2_0 h2_1 h2_2)))
 else .fail)
 else (bif decide (fI (t21.getD t23.toNat .undef) 0 ≥ t7) then (bif q69 h2_0 h2_1 h2_2 then .stop (.inr (h0,h1,(v69_0 h2_0 h2_1 h2_2),(v69_1 h2_0 h2_1 h2_2),fI (t21.getD t23.toNat .undef) 0,fI (t21.getD t23.toNat .undef) 1,(v69_2 h2_0 h2_1 h2_2)))
 else .fail)
 else (bif decide (fI (t21.getD t23.toNat .undef) 1<0) then (bif q69 h2_0 h2_1 h2_2 then .stop (.inr (h0,h1,(v69_0 h2_0 h2_1 h2_2),(v69_1 h2_0 h2_1 h2_2),fI (t21.getD t23.toNat .undef) 0,fI (t21.getD t23.toNat .undef) 1,(v69_2 h2_0 h2_1 h2_2)))
 else .fail)
 else (bif decide (fI (t21.getD t23.toNat .undef) 1 ≥ t7) then (bif q69 h2_0 h2_1 h2_2 then .stop (.inr (h0,h1,(v69_0 h2_0 h2_1 h2_2),(v69_1 h2_0 h2_1 h2_2),fI (t21.getD t23.toNat .undef) 0,fI (t21.getD t23.toNat .undef) 1,(v69_2 h2_0 h2_1 h2_2)))
 else .fail)
 else (bif (decide (0≤fI (t21.getD t23.toNat .undef) 1) && decide (fI (t21.getD t23.toNat .undef) 1<(h0.length:Int))) then (bif (decide (0≤fI (t21.getD t23.toNat .undef) 0) && decide (fI (t21.getD t23.toNat .undef) 0<(h0.length:Int))) then (bif (decide (0≤fI (t21.getD t23.toNat .undef) 0) && decide (fI (t21.getD t23.toNat .undef) 0<(h0.length:Int))) then (bif (decide (0≤fI (t21.getD t23.toNat .undef) 1) && decide (fI (t21.getD t23.toNat .undef) 1<((h0.set (fI (t21.getD t23.toNat .undef) 0).toNat (AV.agg [AV.int .i64 (fI (h0.getD (fI (t21.getD t23.toNat .undef) 1).toNat .undef) 0)])).length:Int))) then (bif (decide (0≤fI (t21.getD t23.toNat .undef) 1) && decide (fI (t21.getD t23.toNat .undef) 1<(h1.length:Int))) then (bif (decide (0≤fI (t21.getD t23.toNat .undef) 0) && decide (fI (t21.getD t23.toNat .undef) 0<(h1.length:Int))) then (bif (decide (0≤fI (t21.getD t23.toNat .undef) 0) && decide (fI (t21.getD t23.toNat .undef) 0<(h1.length:Int))) then (bif (decide (0≤fI (t21.getD t23.toNat .undef) 1) && decide (fI (t21.getD t23.toNat .undef) 1<((h1.set (fI (t21.getD t23.toNat .undef) 0).toNat (AV.agg [AV.int .i64 (fI (h1.getD (fI (t21.getD t23.toNat .undef) 1).toNat .undef) 0)])).length:Int))) then .next (IntKind.i64.wrap (t23+1),(h0.set (fI (t21.getD t23.toNat .undef) 0).toNat (AV.agg [AV.int .i64 (fI (h0.getD (fI (t21.getD t23.toNat .undef) 1).toNat .undef) 0)])).set (fI (t21.getD t23.toNat .undef) 1).toNat (AV.agg [AV.int .i64 (fI (h0.getD (fI (t21.getD t23.toNat .undef) 0).toNat .undef) 0)]),(h1.set (fI (t21.getD t23.toNat .undef) 0).toNat (AV.agg [AV.int .i64 (fI (h1.getD (fI (t21.getD t23.toNat .undef) 1).toNat .undef) 0)])).set (fI (t21.getD t23.toNat .undef) 1).toNat (AV.agg [AV.int .i64 (fI (h1.getD (fI (t21.getD t23.toNat .undef) 0).toNat .undef) 0)]))
 else .fail)
 else .fail)
 else .fail)
 else .fail)
 else .fail)
 else .fail)
 else .fail)
 else .fail)))))
 else .fail)
 else .stop (.inl (h0,h1)))
def R71_0 (t7:Int) (t21:List AV) (t22:Int) (h2_0 h2_1 h2_2 h3:List AV):((Int × (List AV) × (List AV)))→Out ((Int × (List AV) × (List AV))) (((List AV) × (List AV)) ⊕ ((List AV) × (List AV) × (List AV) × (List AV) × Int × Int × (List AV))):=fun s:Int × (List AV) × (List AV)=>F71_0 t7 t21 t22 h2_0 h2_1 h2_2 h3 s.1 s.2.1 s.2.2
def E71_0 (t7:Int) (t21:List AV) (t22:Int) (h2_0 h2_1 h2_2 h3:List AV):((Int × (List AV) × (List AV)))→St:=fun s:Int × (List AV) × (List AV)=>⟨[(2,AV.ptr [0,2] 0 0),(4,AV.ptr [0,4] 0 0),(6,AV.ptr [0,6] 0 0),(7,Ai t7),(21,AV.sl [.int .i64,.int .i64] t21),(22,Ai t22),(23,Ai s.1)],[([0,0,6],⟨false,[.int .i64],s.2.1⟩),([0,1,6],⟨false,[.int .i64],s.2.2⟩),([0,2],⟨true,[],[AV.agg [AV.sl [.int .i64] h2_0,AV.sl [.int .i64] h2_1,AV.sl [.int .i64,.int .i64] h2_2]]⟩),([0,2,6],⟨false,[.int .i64,.int .i64],h3⟩),([0,4],⟨true,[],[AV.agg [AV.snil,AV.snil,AV.snil]]⟩),([0,6],⟨true,[],[AV.agg [AV.own [0,0,6],AV.own [0,1,6],AV.own [0,2,6]]]⟩)]⟩
def K71_0 (h2_0 h2_1 h2_2 h3:List AV) (k:Kont):(((List AV) × (List AV)) ⊕ ((List AV) × (List AV) × (List AV) × (List AV) × Int × Int × (List AV)))→Option AV:=sumE (fun p:(List AV) × (List AV)=>k (.exit 0) ⟨[(4,AV.ptr [0,4] 0 0),(6,AV.ptr [0,6] 0 0)],[([0,0,6],⟨false,[.int .i64],p.1⟩),([0,1,6],⟨false,[.int .i64],p.2⟩),([0,2],⟨true,[],[AV.agg [AV.sl [.int .i64] h2_0,AV.sl [.int .i64] h2_1,AV.sl [.int .i64,.int .i64] h2_2]]⟩),([0,2,6],⟨false,[.int .i64,.int .i64],h3⟩),([0,4],⟨true,[],[AV.agg [AV.snil,AV.snil,AV.snil]]⟩),([0,6],⟨true,[],[AV.agg [AV.own [0,0,6],AV.own [0,1,6],AV.own [0,2,6]]]⟩)]⟩) (fun p:(List AV) × (List AV) × (List AV) × (List AV) × Int × Int × (List AV)=>k .ret ⟨[(4,AV.ptr [0,4] 0 0),(5,AV.bool false)],[([0,0,6],⟨false,[.int .i64],p.1⟩),([0,1,6],⟨false,[.int .i64],p.2.1⟩),([0,1,48],⟨false,[.int .i64],p.2.2.1⟩),([0,2],⟨true,[],[AV.agg [AV.sl [.int .i64] h2_0,AV.sl [.int .i64] h2_1,AV.sl [.int .i64,.int .i64] h2_2]]⟩),([0,2,6],⟨false,[.int .i64,.int .i64],h3⟩),([0,4],⟨true,[],[AV.agg [AV.own [0,1,48],AV.own [1,1,48],AV.own [2,1,48]]]⟩),([0,6],⟨true,[],[AV.agg [AV.own [0,0,6],AV.own [0,1,6],AV.own [0,2,6]]]⟩),([1,1,48],⟨false,[.int .i64],p.2.2.2.1⟩),([1,9],⟨true,[],[AV.agg [Ai p.2.2.2.2.1,Ai p.2.2.2.2.2.1]]⟩),([2,1,48],⟨false,[.int .i64,.int .i64],p.2.2.2.2.2.2⟩)]⟩)
def l71_0:LModel:=fun _ _ st k=>match st with
 | ⟨[(2,.ptr g0 g1 g2),(4,.ptr g3 g4 g5),(6,.ptr g6 g7 g8),(7,.int .i64 t7),(21,.sl g9 t21),(22,.int .i64 t22),(23,.int .i64 t23)],[(g10,⟨false,g11,h0⟩),(g12,⟨false,g13,h1⟩),(g14,⟨true,[],[.agg [.sl g15 h2_0,.sl g16 h2_1,.sl g17 h2_2]]⟩),(g18,⟨false,g19,h3⟩),(g20,⟨true,[],[.agg [.snil,.snil,.snil]]⟩),(g21,⟨true,[],[.agg [.own g22,.own g23,.own g24]]⟩)]⟩=>bif nmEq g0 ([0,2]) && Nat.beq g1 0 && Nat.beq g2 0 && nmEq g3 ([0,4]) && Nat.beq g4 0 && Nat.beq g5 0 && nmEq g6 ([0,6]) && Nat.beq g7 0 && Nat.beq g8 0 && ctsEq g9 ([.int .i64,.int .i64]) && nmEq g10 ([0,0,6]) && ctsEq g11 ([.int .i64]) && nmEq g12 ([0,1,6]) && ctsEq g13 ([.int .i64]) && nmEq g14 ([0,2]) && ctsEq g15 ([.int .i64]) && ctsEq g16 ([.int .i64]) && ctsEq g17 ([.int .i64,.int .i64]) && nmEq g18 ([0,2,6]) && ctsEq g19 ([.int .i64,.int .i64]) && nmEq g20 ([0,4]) && nmEq g21 ([0,6]) && nmEq g22 ([0,0,6]) && nmEq g23 ([0,1,6]) && nmEq g24 ([0,2,6]) then ro (runW (R71_0 t7 t21 t22 h2_0 h2_1 h2_2 h3) ((t22 - t23:Int).toNat+1) (t23,h0,h1)) none (K71_0 h2_0 h2_1 h2_2 h3 k) else none
 | _=>none
noncomputable def c71:Cfg:=cfg Try.prog [(71,0,[2,4,6,7,21,22,23]),(71,999,[4,5]),(71,1000,[4,6]),(71,1001,[2,4,6,7,21,22,23])] [(69,m69)] [] [] [(71,0,l71_0)]
theorem s71_0 (ce:CallE) (t7:Int) (t21:List AV) (t22 t23:Int) (h0 h1 h2_0 h2_1 h2_2 h3:List AV) (next:St→Option AV) (k:Kont):stepA (codeA c71 ce [] 71 0 (sub [1,1,1,0,1,0,0] (body Try.f71))) (normA [] [2,4,6,7,21,22,23]) next ⟨[(2,AV.ptr [0,2] 0 0),(4,AV.ptr [0,4] 0 0),(6,AV.ptr [0,6] 0 0),(7,Ai t7),(21,AV.sl [.int .i64,.int .i64] t21),(22,Ai t22),(23,Ai t23)],[([0,0,6],⟨false,[.int .i64],h0⟩),([0,1,6],⟨false,[.int .i64],h1⟩),([0,2],⟨true,[],[AV.agg [AV.sl [.int .i64] h2_0,AV.sl [.int .i64] h2_1,AV.sl [.int .i64,.int .i64] h2_2]]⟩),([0,2,6],⟨false,[.int .i64,.int .i64],h3⟩),([0,4],⟨true,[],[AV.agg [AV.snil,AV.snil,AV.snil]]⟩),([0,6],⟨true,[],[AV.agg [AV.own [0,0,6],AV.own [0,1,6],AV.own [0,2,6]]]⟩)]⟩ k=(bif decide (t23<t22) then (bif (decide (0≤t23) && decide (t23<(t21.length:Int))) then (bif decide (fI (t21.getD t23.toNat .undef) 0<0) then (bif q69 h2_0 h2_1 h2_2 then k .ret ⟨[(4,AV.ptr [0,4] 0 0),(5,AV.bool false)],[([0,0,6],⟨false,[.int .i64],h0⟩),([0,1,6],⟨false,[.int .i64],h1⟩),([0,1,48],⟨false,[.int .i64],(v69_0 h2_0 h2_1 h2_2)⟩),([0,2],⟨true,[],[AV.agg [AV.sl [.int .i64] h2_0,AV.sl [.int .i64] h2_1,AV.sl [.int .i64,.int .i64] h2_2]]⟩),([0,2,6],⟨false,[.int .i64,.int .i64],h3⟩),([0,4],⟨true,[],[AV.agg [AV.own [0,1,48],AV.own [1,1,48],AV.own [2,1,48]]]⟩),([0,6],⟨true,[],[AV.agg [AV.own [0,0,6],AV.own [0,1,6],AV.own [0,2,6]]]⟩),([1,1,48],⟨false,[.int .i64],(v69_1 h2_0 h2_1 h2_2)⟩),([1,9],⟨true,[],[AV.agg [Ai (fI (t21.getD t23.toNat .undef) 0),Ai (fI (t21.getD t23.toNat .undef) 1)]]⟩),([2,1,48],⟨false,[.int .i64,.int .i64],(v69_2 h2_0 h2_1 h2_2)⟩)]⟩
 else none)
 else (bif decide (fI (t21.getD t23.toNat .undef) 0 ≥ t7) then (bif q69 h2_0 h2_1 h2_2 then k .ret ⟨[(4,AV.ptr [0,4] 0 0),(5,AV.bool false)],[([0,0,6],⟨false,[.int .i64],h0⟩),([0,1,6],⟨false,[.int .i64],h1⟩),([0,1,48],⟨false,[.int .i64],(v69_0 h2_0 h2_1 h2_2)⟩),([0,2],⟨true,[],[AV.agg [AV.sl [.int .i64] h2_0,AV.sl [.int .i64] h2_1,AV.sl [.int .i64,.int .i64] h2_2]]⟩),([0,2,6],⟨false,[.int .i64,.int .i64],h3⟩),([0,4],⟨true,[],[AV.agg [AV.own [0,1,48],AV.own [1,1,48],AV.own [2,1,48]]]⟩),([0,6],⟨true,[],[AV.agg [AV.own [0,0,6],AV.own [0,1,6],AV.own [0,2,6]]]⟩),([1,1,48],⟨false,[.int .i64],(v69_1 h2_0 h2_1 h2_2)⟩),([1,9],⟨true,[],[AV.agg [Ai (fI (t21.getD t23.toNat .undef) 0),Ai (fI (t21.getD t23.toNat .undef) 1)]]⟩),([2,1,48],⟨false,[.int .i64,.int .i64],(v69_2 h2_0 h2_1 h2_2)⟩)]⟩
 else none)
 else (bif decide (fI (t21.getD t23.toNat .undef) 1<0) then (bif q69 h2_0 h2_1 h2_2 then k .ret ⟨[(4,AV.ptr [0,4] 0 0),(5,AV.bool false)],[([0,0,6],⟨false,[.int .i64],h0⟩),([0,1,6],⟨false,[.int .i64],h1⟩),([0,1,48],⟨false,[.int .i64],(v69_0 h2_0 h2_1 h2_2)⟩),([0,2],⟨true,[],[AV.agg [AV.sl [.int .i64] h2_0,AV.sl [.int .i64] h2_1,AV.sl [.int .i64,.int .i64] h2_2]]⟩),([0,2,6],⟨false,[.int .i64,.int .i64],h3⟩),([0,4],⟨true,[],[AV.agg [AV.own [0,1,48],AV.own [1,1,48],AV.own [2,1,48]]]⟩),([0,6],⟨true,[],[AV.agg [AV.own [0,0,6],AV.own [0,1,6],AV.own [0,2,6]]]⟩),([1,1,48],⟨false,[.int .i64],(v69_1 h2_0 h2_1 h2_2)⟩),([1,9],⟨true,[],[AV.agg [Ai (fI (t21.getD t23.toNat .undef) 0),Ai (fI (t21.getD t23.toNat .undef) 1)]]⟩),([2,1,48],⟨false,[.int .i64,.int .i64],(v69_2 h2_0 h2_1 h2_2)⟩)]⟩
 else none)
 else (bif decide (fI (t21.getD t23.toNat .undef) 1 ≥ t7) then (bif q69 h2_0 h2_1 h2_2 then k .ret ⟨[(4,AV.ptr [0,4] 0 0),(5,AV.bool false)],[([0,0,6],⟨false,[.int .i64],h0⟩),([0,1,6],⟨false,[.int .i64],h1⟩),([0,1,48],⟨false,[.int .i64],(v69_0 h2_0 h2_1 h2_2)⟩),([0,2],⟨true,[],[AV.agg [AV.sl [.int .i64] h2_0,AV.sl [.int .i64] h2_1,AV.sl [.int .i64,.int .i64] h2_2]]⟩),([0,2,6],⟨false,[.int .i64,.int .i64],h3⟩),([0,4],⟨true,[],[AV.agg [AV.own [0,1,48],AV.own [1,1,48],AV.own [2,1,48]]]⟩),([0,6],⟨true,[],[AV.agg [AV.own [0,0,6],AV.own [0,1,6],AV.own [0,2,6]]]⟩),([1,1,48],⟨false,[.int .i64],(v69_1 h2_0 h2_1 h2_2)⟩),([1,9],⟨true,[],[AV.agg [Ai (fI (t21.getD t23.toNat .undef) 0),Ai (fI (t21.getD t23.toNat .undef) 1)]]⟩),([2,1,48],⟨false,[.int .i64,.int .i64],(v69_2 h2_0 h2_1 h2_2)⟩)]⟩
 else none)
 else (bif (decide (0≤fI (t21.getD t23.toNat .undef) 1) && decide (fI (t21.getD t23.toNat .undef) 1<(h0.length:Int))) then (bif (decide (0≤fI (t21.getD t23.toNat .undef) 0) && decide (fI (t21.getD t23.toNat .undef) 0<(h0.length:Int))) then (bif (decide (0≤fI (t21.getD t23.toNat .undef) 0) && decide (fI (t21.getD t23.toNat .undef) 0<(h0.length:Int))) then (bif (decide (0≤fI (t21.getD t23.toNat .undef) 1) && decide (fI (t21.getD t23.toNat .undef) 1<((h0.set (fI (t21.getD t23.toNat .undef) 0).toNat (AV.agg [Ai (fI (h0.getD (fI (t21.getD t23.toNat .undef) 1).toNat .undef) 0)])).length:Int))) then (bif (decide (0≤fI (t21.getD t23.toNat .undef) 1) && decide (fI (t21.getD t23.toNat .undef) 1<(h1.length:Int))) then (bif (decide (0≤fI (t21.getD t23.toNat .undef) 0) && decide (fI (t21.getD t23.toNat .undef) 0<(h1.length:Int))) then (bif (decide (0≤fI (t21.getD t23.toNat .undef) 0) && decide (fI (t21.getD t23.toNat .undef) 0<(h1.length:Int))) then (bif (decide (0≤fI (t21.getD t23.toNat .undef) 1) && decide (fI (t21.getD t23.toNat .undef) 1<((h1.set (fI (t21.getD t23.toNat .undef) 0).toNat (AV.agg [Ai (fI (h1.getD (fI (t21.getD t23.toNat .undef) 1).toNat .undef) 0)])).length:Int))) then next ⟨[(2,AV.ptr [0,2] 0 0),(4,AV.ptr [0,4] 0 0),(6,AV.ptr [0,6] 0 0),(7,Ai t7),(21,AV.sl [.int .i64,.int .i64] t21),(22,Ai t22),(23,Ai (IntKind.i64.wrap (t23+1)))],[([0,0,6],⟨false,[.int .i64],(h0.set (fI (t21.getD t23.toNat .undef) 0).toNat (AV.agg [Ai (fI (h0.getD (fI (t21.getD t23.toNat .undef) 1).toNat .undef) 0)])).set (fI (t21.getD t23.toNat .undef) 1).toNat (AV.agg [Ai (fI (h0.getD (fI (t21.getD t23.toNat .undef) 0).toNat .undef) 0)])⟩),([0,1,6],⟨false,[.int .i64],(h1.set (fI (t21.getD t23.toNat .undef) 0).toNat (AV.agg [Ai (fI (h1.getD (fI (t21.getD t23.toNat .undef) 1).toNat .undef) 0)])).set (fI (t21.getD t23.toNat .undef) 1).toNat (AV.agg [Ai (fI (h1.getD (fI (t21.getD t23.toNat .undef) 0).toNat .undef) 0)])⟩),([0,2],⟨true,[],[AV.agg [AV.sl [.int .i64] h2_0,AV.sl [.int .i64] h2_1,AV.sl [.int .i64,.int .i64] h2_2]]⟩),([0,2,6],⟨false,[.int .i64,.int .i64],h3⟩),([0,4],⟨true,[],[AV.agg [AV.snil,AV.snil,AV.snil]]⟩),([0,6],⟨true,[],[AV.agg [AV.own [0,0,6],AV.own [0,1,6],AV.own [0,2,6]]]⟩)]⟩
 else none)
 else none)
 else none)
 else none)
 else none)
 else none)
 else none)
 else none)))))
 else none)
 else k (.exit 0) ⟨[(4,AV.ptr [0,4] 0 0),(6,AV.ptr [0,6] 0 0)],[([0,0,6],⟨false,[.int .i64],h0⟩),([0,1,6],⟨false,[.int .i64],h1⟩),([0,2],⟨true,[],[AV.agg [AV.sl [.int .i64] h2_0,AV.sl [.int .i64] h2_1,AV.sl [.int .i64,.int .i64] h2_2]]⟩),([0,2,6],⟨false,[.int .i64,.int .i64],h3⟩),([0,4],⟨true,[],[AV.agg [AV.snil,AV.snil,AV.snil]]⟩),([0,6],⟨true,[],[AV.agg [AV.own [0,0,6],AV.own [0,1,6],AV.own [0,2,6]]]⟩)]⟩):=by kernel_rfl
theorem st71_0 (t7:Int) (t21:List AV) (t22:Int) (h2_0 h2_1 h2_2 h3:List AV) (ce:CallE) (k:Kont) (s:(Int × (List AV) × (List AV))) (next:St→Option AV):stepA (codeA c71 ce [] 71 0 (sub [1,1,1,0,1,0,0] (body Try.f71))) (normA [] [2,4,6,7,21,22,23]) next ((E71_0 t7 t21 t22 h2_0 h2_1 h2_2 h3) s) k=(R71_0 t7 t21 t22 h2_0 h2_1 h2_2 h3 s).el none (fun s=>next ((E71_0 t7 t21 t22 h2_0 h2_1 h2_2 h3) s)) (K71_0 h2_0 h2_1 h2_2 h3 k):=(s71_0 ce t7 t21 t22 s.1 s.2.1 s.2.2 h2_0 h2_1 h2_2 h3 next k).trans (by unfold R71_0;unfold F71_0;simp only [el_cond,el_ro,el_sum,el_fail,el_next,el_stop] <;> rfl)
theorem ok71_0 {ce:CallE}:LoopOK c71 ce [] 71 0 (sub [1,1,1,0,1,0,0] (body Try.f71)):=by
 intro m hm st k r h
 obtain rfl:l71_0=m:=Option.some.inj hm
 unfold l71_0 at h
 split at h
 ·rename_i g0 g1 g2 g3 g4 g5 g6 g7 g8 t7 g9 t21 t22 t23 g10 g11 h0 g12 g13 h1 g14 g15 h2_0 g16 h2_1 g17 h2_2 g18 g19 h3 g20 g21 g22 g23 g24
  obtain ⟨hg,h⟩:=bif_some h
  simp only [Bool.and_eq_true] at hg
  obtain ⟨⟨⟨⟨⟨⟨⟨⟨⟨⟨⟨⟨⟨⟨⟨⟨⟨⟨⟨⟨⟨⟨⟨⟨q0,q1⟩,q2⟩,q3⟩,q4⟩,q5⟩,q6⟩,q7⟩,q8⟩,q9⟩,q10⟩,q11⟩,q12⟩,q13⟩,q14⟩,q15⟩,q16⟩,q17⟩,q18⟩,q19⟩,q20⟩,q21⟩,q22⟩,q23⟩,q24⟩:=hg
  obtain rfl:=(nmEq_iff _ _).1 q0
  obtain rfl:=Nat.eq_of_beq_eq_true q1
  obtain rfl:=Nat.eq_of_beq_eq_true q2
  obtain rfl:=(nmEq_iff _ _).1 q3
  obtain rfl:=Nat.eq_of_beq_eq_true q4
  obtain rfl:=Nat.eq_of_beq_eq_true q5
  obtain rfl:=(nmEq_iff _ _).1 q6
  obtain rfl:=Nat.eq_of_beq_eq_true q7
  obtain rfl:=Nat.eq_of_beq_eq_true q8
  obtain rfl:=ctsEq_eq _ _ q9
  obtain rfl:=(nmEq_iff _ _).1 q10
  obtain rfl:=ctsEq_eq _ _ q11
  obtain rfl:=(nmEq_iff _ _).1 q12
  obtain rfl:=ctsEq_eq _ _ q13
  obtain rfl:=(nmEq_iff _ _).1 q14
  obtain rfl:=ctsEq_eq _ _ q15
  obtain rfl:=ctsEq_eq _ _ q16
  obtain rfl:=ctsEq_eq _ _ q17
  obtain rfl:=(nmEq_iff _ _).1 q18
  obtain rfl:=ctsEq_eq _ _ q19
  obtain rfl:=(nmEq_iff _ _).1 q20
  obtain rfl:=(nmEq_iff _ _).1 q21
  obtain rfl:=(nmEq_iff _ _).1 q22
  obtain rfl:=(nmEq_iff _ _).1 q23
  obtain rfl:=(nmEq_iff _ _).1 q24
  refine ⟨((t22 - t23:Int).toNat+1),?_⟩
  rw [← h]
  exact loop_run (E71_0 t7 t21 t22 h2_0 h2_1 h2_2 h3) (K71_0 h2_0 h2_1 h2_2 h3 k) (st71_0 t7 t21 t22 h2_0 h2_1 h2_2 h3 ce k) _ (t23,h0,h1)
 ·cases h
def q71 (xa xb xc a1:List AV):Bool:=(q69 xa xb xc && (bif !decide ((xb.length:Int)=(xa.length:Int)) then true else (ro (runW (R71_0 (xa.length:Int) a1 (a1.length:Int) xa xb xc (v69_2 xa xb xc)) (((a1.length:Int) - 0:Int).toNat+1) (0,(v69_0 xa xb xc),(v69_1 xa xb xc))) false (sumE (fun p17=>true) (fun p18=>true)))))
def v71_0 (xa xb xc a1:List AV):List AV:=(bif !decide ((xb.length:Int)=(xa.length:Int)) then (v69_0 xa xb xc) else (ro (runW (R71_0 (xa.length:Int) a1 (a1.length:Int) xa xb xc (v69_2 xa xb xc)) (((a1.length:Int) - 0:Int).toNat+1) (0,(v69_0 xa xb xc),(v69_1 xa xb xc))) [] (sumE (fun p17=>p17.1) (fun p18=>p18.2.2.1))))
def v71_1 (xa xb xc a1:List AV):List AV:=(bif !decide ((xb.length:Int)=(xa.length:Int)) then (v69_1 xa xb xc) else (ro (runW (R71_0 (xa.length:Int) a1 (a1.length:Int) xa xb xc (v69_2 xa xb xc)) (((a1.length:Int) - 0:Int).toNat+1) (0,(v69_0 xa xb xc),(v69_1 xa xb xc))) [] (sumE (fun p17=>p17.2) (fun p18=>p18.2.2.2.1))))
def v71_2 (xa xb xc a1:List AV):List AV:=(bif !decide ((xb.length:Int)=(xa.length:Int)) then (v69_2 xa xb xc) else (ro (runW (R71_0 (xa.length:Int) a1 (a1.length:Int) xa xb xc (v69_2 xa xb xc)) (((a1.length:Int) - 0:Int).toNat+1) (0,(v69_0 xa xb xc),(v69_1 xa xb xc))) [] (sumE (fun p17=>(v69_2 xa xb xc)) (fun p18=>p18.2.2.2.2.2.2))))
def v71_3 (xa xb xc a1:List AV):Bool:=(bif !decide ((xb.length:Int)=(xa.length:Int)) then false else (ro (runW (R71_0 (xa.length:Int) a1 (a1.length:Int) xa xb xc (v69_2 xa xb xc)) (((a1.length:Int) - 0:Int).toNat+1) (0,(v69_0 xa xb xc),(v69_1 xa xb xc))) false (sumE (fun p17=>true) (fun p18=>false))))
theorem e71 (xa xb xc a1:List AV):funA c71 0 71 [AV.agg [AV.sl [.int .i64] xa,AV.sl [.int .i64] xb,AV.sl [.int .i64,.int .i64] xc],AV.sl [.int .i64,.int .i64] a1]=(bif q69 xa xb xc then (bif !decide ((xb.length:Int)=(xa.length:Int)) then some (AV.tup [AV.agg [AV.fl [.int .i64] (v69_0 xa xb xc),AV.fl [.int .i64] (v69_1 xa xb xc),AV.fl [.int .i64,.int .i64] (v69_2 xa xb xc)],AV.bool false])
 else (ro (runW (R71_0 (xa.length:Int) a1 (a1.length:Int) xa xb xc (v69_2 xa xb xc)) (((a1.length:Int) - 0:Int).toNat+1) (0,(v69_0 xa xb xc),(v69_1 xa xb xc))) none (sumE (fun p17=>some (AV.tup [AV.agg [AV.fl [.int .i64] p17.1,AV.fl [.int .i64] p17.2,AV.fl [.int .i64,.int .i64] (v69_2 xa xb xc)],AV.bool true])) (fun p18=>some (AV.tup [AV.agg [AV.fl [.int .i64] p18.2.2.1,AV.fl [.int .i64] p18.2.2.2.1,AV.fl [.int .i64,.int .i64] p18.2.2.2.2.2.2],AV.bool false])))))
 else none):=by kernel_rfl
def m71:TModel
 | [.agg [.sl g0 xa,.sl g1 xb,.sl g2 xc],.sl g3 a1]=>bif ctsEq g0 ([.int .i64]) && ctsEq g1 ([.int .i64]) && ctsEq g2 ([.int .i64,.int .i64]) && ctsEq g3 ([.int .i64,.int .i64]) then some (q71 xa xb xc a1,AV.tup [AV.agg [AV.fl [.int .i64] (v71_0 xa xb xc a1),AV.fl [.int .i64] (v71_1 xa xb xc a1),AV.fl [.int .i64,.int .i64] (v71_2 xa xb xc a1)],AV.bool (v71_3 xa xb xc a1)]) else none
 | _=>none
theorem k71:Known Try.prog 71:=⟨Try.f71,Try.func71,by kernel_rfl,by kernel_rfl⟩
theorem meets71:Meets Try.prog 71 m71:=by
 refine meet (f:=Try.f71) (l:=[(0,sub [1,1,1,0,1,0,0] (body Try.f71))]) (hs:=[(71,0,[2,4,6,7,21,22,23]),(71,999,[4,5]),(71,1000,[4,6]),(71,1001,[2,4,6,7,21,22,23])]) (ts:=[(69,m69)]) (ws:=[]) (is:=[]) (ls:=[(71,0,l71_0)]) (lvl:=0) mixed k71 Try.func71 (by kernel_rfl) (loops_cons ok71_0 noLoop) (allT_cons meets69 allT_nil) allM_nil noI fun w xs us r hl hv h=>?_
 unfold m71 at h
 split at h
 ·rename_i g0 xa g1 xb g2 xc g3 a1
  obtain ⟨hg,h⟩:=bif_pair h
  simp only [Bool.and_eq_true] at hg
  obtain ⟨⟨⟨q0,q1⟩,q2⟩,q3⟩:=hg
  obtain rfl:=ctsEq_eq _ _ q0
  obtain rfl:=ctsEq_eq _ _ q1
  obtain rfl:=ctsEq_eq _ _ q2
  obtain rfl:=ctsEq_eq _ _ q3
  obtain ⟨h1,rfl⟩:=pair_inj h
  exact (e71 xa xb xc a1).trans ((brL (br (fun b=>some (AV.tup [AV.agg [AV.fl [.int .i64] (bif b then (v69_0 xa xb xc) else (ro (runW (R71_0 (xa.length:Int) a1 (a1.length:Int) xa xb xc (v69_2 xa xb xc)) (((a1.length:Int) - 0:Int).toNat+1) (0,(v69_0 xa xb xc),(v69_1 xa xb xc))) [] (sumE (fun p17=>p17.1) (fun p18=>p18.2.2.1)))),AV.fl [.int .i64] (bif b then (v69_1 xa xb xc) else (ro (runW (R71_0 (xa.length:Int) a1 (a1.length:Int) xa xb xc (v69_2 xa xb xc)) (((a1.length:Int) - 0:Int).toNat+1) (0,(v69_0 xa xb xc),(v69_1 xa xb xc))) [] (sumE (fun p17=>p17.2) (fun p18=>p18.2.2.2.1)))),AV.fl [.int .i64,.int .i64] (bif b then (v69_2 xa xb xc) else (ro (runW (R71_0 (xa.length:Int) a1 (a1.length:Int) xa xb xc (v69_2 xa xb xc)) (((a1.length:Int) - 0:Int).toNat+1) (0,(v69_0 xa xb xc),(v69_1 xa xb xc))) [] (sumE (fun p17=>(v69_2 xa xb xc)) (fun p18=>p18.2.2.2.2.2.2))))],AV.bool (bif b then false else (ro (runW (R71_0 (xa.length:Int) a1 (a1.length:Int) xa xb xc (v69_2 xa xb xc)) (((a1.length:Int) - 0:Int).toNat+1) (0,(v69_0 xa xb xc),(v69_1 xa xb xc))) false (sumE (fun p17=>true) (fun p18=>false))))])) (fun _=>rfl) (brO (fun o:Option (((List AV) × (List AV)) ⊕ ((List AV) × (List AV) × (List AV) × (List AV) × Int × Int × (List AV)))=>some (AV.tup [AV.agg [AV.fl [.int .i64] (ro o [] (sumE (fun p17=>p17.1) (fun p18=>p18.2.2.1))),AV.fl [.int .i64] (ro o [] (sumE (fun p17=>p17.2) (fun p18=>p18.2.2.2.1))),AV.fl [.int .i64,.int .i64] (ro o [] (sumE (fun p17=>(v69_2 xa xb xc)) (fun p18=>p18.2.2.2.2.2.2)))],AV.bool (ro o false (sumE (fun p17=>true) (fun p18=>false)))])) (brS (fun o:((List AV) × (List AV)) ⊕ ((List AV) × (List AV) × (List AV) × (List AV) × Int × Int × (List AV))=>some (AV.tup [AV.agg [AV.fl [.int .i64] ((sumE (fun p17=>p17.1) (fun p18=>p18.2.2.1)) o),AV.fl [.int .i64] ((sumE (fun p17=>p17.2) (fun p18=>p18.2.2.2.1)) o),AV.fl [.int .i64,.int .i64] ((sumE (fun p17=>(v69_2 xa xb xc)) (fun p18=>p18.2.2.2.2.2.2)) o)],AV.bool ((sumE (fun p17=>true) (fun p18=>false)) o)])) (fun p17=>(fun _=>rfl)) (fun p18=>(fun _=>rfl)))))) h1)
 ·cases h
noncomputable def c100:Cfg:=cfg Try.prog [(100,999,[3])] [] [] [] []
def q100 (xa xb:Int) (a1:AV):Bool:=true
def v100_0 (xa xb:Int) (a1:AV):Bool:=decide (xa > fI a1 0)
theorem e100 (xa xb:Int) (a1:AV):funA c100 0 100 [AV.agg [Ai xa,Ai xb],AV.rptr [.int .i64,.int .i64] a1 0]=some (AV.bool (decide (xa > fI a1 0))):=by kernel_rfl
def m100:TModel
 | [.agg [.int .i64 xa,.int .i64 xb],.rptr g0 a1 g1]=>bif ctsEq g0 ([.int .i64,.int .i64]) && Nat.beq g1 0 then some (true,AV.bool (v100_0 xa xb a1)) else none
 | _=>none
theorem k100:Known Try.prog 100:=⟨Try.f100,Try.func100,by kernel_rfl,by kernel_rfl⟩
theorem meets100:Meets Try.prog 100 m100:=by
 refine meet (f:=Try.f100) (l:=[]) (hs:=[(100,999,[3])]) (ts:=[]) (ws:=[]) (is:=[]) (ls:=[]) (lvl:=0) mixed k100 Try.func100 (by kernel_rfl) noLoop allT_nil allM_nil noI fun w xs us r hl hv h=>?_
 unfold m100 at h
 split at h
 ·rename_i xa xb g0 a1 g1
  obtain ⟨hg,h⟩:=bif_pair h
  simp only [Bool.and_eq_true] at hg
  obtain ⟨q0,q1⟩:=hg
  obtain rfl:=ctsEq_eq _ _ q0
  obtain rfl:=Nat.eq_of_beq_eq_true q1
  obtain ⟨h1,rfl⟩:=pair_inj h
  exact (e100 xa xb a1).trans (of_tt (fun _=>rfl))
 ·cases h
def F99_0 (t0:List AV) (t1:AV) (t7 t8:Int):Out (Int) (Unit ⊕ Int):=(bif decide (t8<t7) then (bif (decide (0≤t8) && decide (t8<(t0.length:Int))) then (bif (v100_0 (fI (t0.getD t8.toNat .undef) 0) (fI (t0.getD t8.toNat .undef) 1) t1) then .stop (.inr t8)
 else .next (IntKind.i64.wrap (t8+1)))
 else .fail)
 else .stop (.inl ()))
def R99_0 (t0:List AV) (t1:AV) (t7:Int):(Int)→Out (Int) (Unit ⊕ Int):=fun s:Int=>F99_0 t0 t1 t7 s
def E99_0 (t0:List AV) (t1:AV) (t7:Int):(Int)→St:=fun s:Int=>⟨[(0,AV.sl [.int .i64,.int .i64] t0),(1,AV.fn 100 [AV.rptr [.int .i64,.int .i64] t1 0]),(7,Ai t7),(8,Ai s)],[]⟩
def K99_0 (k:Kont):(Unit ⊕ Int)→Option AV:=sumE (fun _:Unit=>k (.exit 0) ⟨[],[]⟩) (fun p:Int=>k .ret ⟨[(4,Ai p)],[]⟩)
def l99_0:LModel:=fun _ _ st k=>match st with
 | ⟨[(0,.sl g0 t0),(1,.fn g1 [.rptr g2 t1 g3]),(7,.int .i64 t7),(8,.int .i64 t8)],[]⟩=>bif ctsEq g0 ([.int .i64,.int .i64]) && Nat.beq g1 100 && ctsEq g2 ([.int .i64,.int .i64]) && Nat.beq g3 0 then ro (runW (R99_0 t0 t1 t7) ((t7 - t8:Int).toNat+1) t8) none (K99_0 k) else none
 | _=>none
noncomputable def c99:Cfg:=cfg Try.prog [(99,0,[0,1,7,8]),(99,999,[4]),(99,1000,[]),(99,1001,[0,1,7,8])] [(100,m100)] [] [] [(99,0,l99_0)]
theorem s99_0 (ce:CallE) (t0:List AV) (t1:AV) (t7 t8:Int) (next:St→Option AV) (k:Kont):stepA (codeA c99 ce [] 99 0 (sub [1,0,1,0,0] (body Try.f99))) (normA [] [0,1,7,8]) next ⟨[(0,AV.sl [.int .i64,.int .i64] t0),(1,AV.fn 100 [AV.rptr [.int .i64,.int .i64] t1 0]),(7,Ai t7),(8,Ai t8)],[]⟩ k=(bif decide (t8<t7) then (bif (decide (0≤t8) && decide (t8<(t0.length:Int))) then (bif (v100_0 (fI (t0.getD t8.toNat .undef) 0) (fI (t0.getD t8.toNat .undef) 1) t1) then k .ret ⟨[(4,Ai t8)],[]⟩
 else next ⟨[(0,AV.sl [.int .i64,.int .i64] t0),(1,AV.fn 100 [AV.rptr [.int .i64,.int .i64] t1 0]),(7,Ai t7),(8,Ai (IntKind.i64.wrap (t8+1)))],[]⟩)
 else none)
 else k (.exit 0) ⟨[],[]⟩):=by kernel_rfl
theorem st99_0 (t0:List AV) (t1:AV) (t7:Int) (ce:CallE) (k:Kont) (s:Int) (next:St→Option AV):stepA (codeA c99 ce [] 99 0 (sub [1,0,1,0,0] (body Try.f99))) (normA [] [0,1,7,8]) next ((E99_0 t0 t1 t7) s) k=(R99_0 t0 t1 t7 s).el none (fun s=>next ((E99_0 t0 t1 t7) s)) (K99_0 k):=(s99_0 ce t0 t1 t7 s next k).trans (by unfold R99_0;unfold F99_0;simp only [el_cond,el_ro,el_sum,el_fail,el_next,el_stop] <;> rfl)
theorem ok99_0 {ce:CallE}:LoopOK c99 ce [] 99 0 (sub [1,0,1,0,0] (body Try.f99)):=by
 intro m hm st k r h
 obtain rfl:l99_0=m:=Option.some.inj hm
 unfold l99_0 at h
 split at h
 ·rename_i g0 t0 g1 g2 t1 g3 t7 t8
  obtain ⟨hg,h⟩:=bif_some h
  simp only [Bool.and_eq_true] at hg
  obtain ⟨⟨⟨q0,q1⟩,q2⟩,q3⟩:=hg
  obtain rfl:=ctsEq_eq _ _ q0
  obtain rfl:=Nat.eq_of_beq_eq_true q1
  obtain rfl:=ctsEq_eq _ _ q2
  obtain rfl:=Nat.eq_of_beq_eq_true q3
  refine ⟨((t7 - t8:Int).toNat+1),?_⟩
  rw [← h]
  exact loop_run (E99_0 t0 t1 t7) (K99_0 k) (st99_0 t0 t1 t7 ce k) _ t8
 ·cases h
def q99 (a0:List AV) (a1:AV):Bool:=(ro (runW (R99_0 a0 a1 (a0.length:Int)) (((a0.length:Int) - 0:Int).toNat+1) 0) false (sumE (fun _=>true) (fun p20=>true)))
def v99_0 (a0:List AV) (a1:AV):Int:=(ro (runW (R99_0 a0 a1 (a0.length:Int)) (((a0.length:Int) - 0:Int).toNat+1) 0) 0 (sumE (fun _=>(-1)) (fun p20=>p20)))
theorem e99 (a0:List AV) (a1:AV):funA c99 0 99 [AV.sl [.int .i64,.int .i64] a0,AV.fn 100 [AV.rptr [.int .i64,.int .i64] a1 0]]=(ro (runW (R99_0 a0 a1 (a0.length:Int)) (((a0.length:Int) - 0:Int).toNat+1) 0) none (sumE (fun _=>some (Ai (-1))) (fun p20=>some (Ai p20)))):=by kernel_rfl
def m99:TModel
 | [.sl g0 a0,.fn g1 [.rptr g2 a1 g3]]=>bif ctsEq g0 ([.int .i64,.int .i64]) && Nat.beq g1 100 && ctsEq g2 ([.int .i64,.int .i64]) && Nat.beq g3 0 then some (q99 a0 a1,AV.int .i64 (v99_0 a0 a1)) else none
 | _=>none
theorem k99:Known Try.prog 99:=⟨Try.f99,Try.func99,by kernel_rfl,by kernel_rfl⟩
theorem meets99:Meets Try.prog 99 m99:=by
 refine meet (f:=Try.f99) (l:=[(0,sub [1,0,1,0,0] (body Try.f99))]) (hs:=[(99,0,[0,1,7,8]),(99,999,[4]),(99,1000,[]),(99,1001,[0,1,7,8])]) (ts:=[(100,m100)]) (ws:=[]) (is:=[]) (ls:=[(99,0,l99_0)]) (lvl:=0) mixed k99 Try.func99 (by kernel_rfl) (loops_cons ok99_0 noLoop) (allT_cons meets100 allT_nil) allM_nil noI fun w xs us r hl hv h=>?_
 unfold m99 at h
 split at h
 ·rename_i g0 a0 g1 g2 a1 g3
  obtain ⟨hg,h⟩:=bif_pair h
  simp only [Bool.and_eq_true] at hg
  obtain ⟨⟨⟨q0,q1⟩,q2⟩,q3⟩:=hg
  obtain rfl:=ctsEq_eq _ _ q0
  obtain rfl:=Nat.eq_of_beq_eq_true q1
  obtain rfl:=ctsEq_eq _ _ q2
  obtain rfl:=Nat.eq_of_beq_eq_true q3
  obtain ⟨h1,rfl⟩:=pair_inj h
  exact (e99 a0 a1).trans ((brO (fun o:Option (Unit ⊕ Int)=>some (Ai (ro o 0 (sumE (fun _=>(-1)) (fun p20=>p20))))) (brS (fun o:Unit ⊕ Int=>some (Ai ((sumE (fun _=>(-1)) (fun p20=>p20)) o))) (fun _=>(fun _=>rfl)) (fun p20=>(fun _=>rfl)))) h1)
 ·cases h
noncomputable def c72:Cfg:=cfg Try.prog [(72,999,[4]),(101,999,[6])] [(69,m69),(99,m99)] [] [101] [] [(101,insA Try.prog 27)]
def q72 (xa xb xc:List AV) (ya yb:Int):Bool:=(q69 xa xb xc && (q99 (v69_2 xa xb xc) (AV.agg [AV.int .i64 ya,AV.int .i64 yb]) && (bif decide ((v99_0 (v69_2 xa xb xc) (AV.agg [AV.int .i64 ya,AV.int .i64 yb]))<0) then (decide (0≤((v69_2 xa xb xc).length:Int)) && decide (((v69_2 xa xb xc).length:Int)≤((v69_2 xa xb xc).length:Int)) && decide (((v69_2 xa xb xc).length+1)*16≤140737488355328)) else (decide (0≤(v99_0 (v69_2 xa xb xc) (AV.agg [AV.int .i64 ya,AV.int .i64 yb]))) && decide ((v99_0 (v69_2 xa xb xc) (AV.agg [AV.int .i64 ya,AV.int .i64 yb]))≤((v69_2 xa xb xc).length:Int)) && decide (((v69_2 xa xb xc).length+1)*16≤140737488355328)))))
def v72_0 (xa xb xc:List AV) (ya yb:Int):List AV:=(v69_0 xa xb xc)
def v72_1 (xa xb xc:List AV) (ya yb:Int):List AV:=(v69_1 xa xb xc)
def v72_2 (xa xb xc:List AV) (ya yb:Int):List AV:=(bif decide ((v99_0 (v69_2 xa xb xc) (AV.agg [AV.int .i64 ya,AV.int .i64 yb]))<0) then (v69_2 xa xb xc).take (Int.toNat ((v69_2 xa xb xc).length:Int))++([AV.agg [AV.int .i64 ya,AV.int .i64 yb]])++(v69_2 xa xb xc).drop (Int.toNat ((v69_2 xa xb xc).length:Int)) else (v69_2 xa xb xc).take (Int.toNat (v99_0 (v69_2 xa xb xc) (AV.agg [AV.int .i64 ya,AV.int .i64 yb])))++([AV.agg [AV.int .i64 ya,AV.int .i64 yb]])++(v69_2 xa xb xc).drop (Int.toNat (v99_0 (v69_2 xa xb xc) (AV.agg [AV.int .i64 ya,AV.int .i64 yb]))))
theorem e72 (xa xb xc:List AV) (ya yb:Int):funA c72 1 72 [AV.agg [AV.sl [.int .i64] xa,AV.sl [.int .i64] xb,AV.sl [.int .i64,.int .i64] xc],AV.agg [Ai ya,Ai yb]]=(bif q69 xa xb xc then (bif q99 (v69_2 xa xb xc) (AV.agg [Ai ya,Ai yb]) then (bif decide ((v99_0 (v69_2 xa xb xc) (AV.agg [Ai ya,Ai yb]))<0) then (bif (decide (0≤((v69_2 xa xb xc).length:Int)) && decide (((v69_2 xa xb xc).length:Int)≤((v69_2 xa xb xc).length:Int)) && decide (((v69_2 xa xb xc).length+1)*16≤140737488355328)) then some (AV.agg [AV.fl [.int .i64] (v69_0 xa xb xc),AV.fl [.int .i64] (v69_1 xa xb xc),AV.fl [.int .i64,.int .i64] ((v69_2 xa xb xc).take (Int.toNat ((v69_2 xa xb xc).length:Int))++([AV.agg [Ai ya,Ai yb]])++(v69_2 xa xb xc).drop (Int.toNat ((v69_2 xa xb xc).length:Int)))])
 else none)
 else (bif (decide (0≤(v99_0 (v69_2 xa xb xc) (AV.agg [Ai ya,Ai yb]))) && decide ((v99_0 (v69_2 xa xb xc) (AV.agg [Ai ya,Ai yb]))≤((v69_2 xa xb xc).length:Int)) && decide (((v69_2 xa xb xc).length+1)*16≤140737488355328)) then some (AV.agg [AV.fl [.int .i64] (v69_0 xa xb xc),AV.fl [.int .i64] (v69_1 xa xb xc),AV.fl [.int .i64,.int .i64] ((v69_2 xa xb xc).take (Int.toNat (v99_0 (v69_2 xa xb xc) (AV.agg [Ai ya,Ai yb])))++([AV.agg [Ai ya,Ai yb]])++(v69_2 xa xb xc).drop (Int.toNat (v99_0 (v69_2 xa xb xc) (AV.agg [Ai ya,Ai yb]))))])
 else none))
 else none)
 else none):=by kernel_rfl
def m72:TModel
 | [.agg [.sl g0 xa,.sl g1 xb,.sl g2 xc],.agg [.int .i64 ya,.int .i64 yb]]=>bif ctsEq g0 ([.int .i64]) && ctsEq g1 ([.int .i64]) && ctsEq g2 ([.int .i64,.int .i64]) then some (q72 xa xb xc ya yb,AV.agg [AV.fl [.int .i64] (v72_0 xa xb xc ya yb),AV.fl [.int .i64] (v72_1 xa xb xc ya yb),AV.fl [.int .i64,.int .i64] (v72_2 xa xb xc ya yb)]) else none
 | _=>none
theorem k72:Known Try.prog 72:=⟨Try.f72,Try.func72,by kernel_rfl,by kernel_rfl⟩
theorem i72_101:InlK Try.prog [(72,999,[4]),(101,999,[6])] [(69,m69),(99,m99)] [] [101] [] 101 [(101,insA Try.prog 27)]:=⟨⟨Try.f101,Try.func101,by kernel_rfl,by kernel_rfl⟩,Try.f101,[],Try.func101,by kernel_rfl,fun ce π=>noLoop⟩
theorem meets72:Meets Try.prog 72 m72:=by
 refine meet (f:=Try.f72) (l:=[]) (hs:=[(72,999,[4]),(101,999,[6])]) (ts:=[(69,m69),(99,m99)]) (ws:=[]) (is:=[101]) (ls:=[]) (sp:=[(101,insA Try.prog 27)]) (hS:=(allS_cons ins101 allS_nil)) (lvl:=1) mixed k72 Try.func72 (by kernel_rfl) noLoop (allT_cons meets69 (allT_cons meets99 allT_nil)) allM_nil (allI_cons i72_101 noI) fun w xs us r hl hv h=>?_
 unfold m72 at h
 split at h
 ·rename_i g0 xa g1 xb g2 xc ya yb
  obtain ⟨hg,h⟩:=bif_pair h
  simp only [Bool.and_eq_true] at hg
  obtain ⟨⟨q0,q1⟩,q2⟩:=hg
  obtain rfl:=ctsEq_eq _ _ q0
  obtain rfl:=ctsEq_eq _ _ q1
  obtain rfl:=ctsEq_eq _ _ q2
  obtain ⟨h1,rfl⟩:=pair_inj h
  exact (e72 xa xb xc ya yb).trans ((brL (brL (br (fun b=>some (AV.agg [AV.fl [.int .i64] (v69_0 xa xb xc),AV.fl [.int .i64] (v69_1 xa xb xc),AV.fl [.int .i64,.int .i64] (bif b then (v69_2 xa xb xc).take (Int.toNat ((v69_2 xa xb xc).length:Int))++([AV.agg [Ai ya,Ai yb]])++(v69_2 xa xb xc).drop (Int.toNat ((v69_2 xa xb xc).length:Int)) else (v69_2 xa xb xc).take (Int.toNat (v99_0 (v69_2 xa xb xc) (AV.agg [Ai ya,Ai yb])))++([AV.agg [Ai ya,Ai yb]])++(v69_2 xa xb xc).drop (Int.toNat (v99_0 (v69_2 xa xb xc) (AV.agg [Ai ya,Ai yb]))))])) (brL1 (fun _=>rfl)) (brL1 (fun _=>rfl))))) h1)
 ·cases h
noncomputable def c34:Cfg:=cfg Try.prog [(34,999,[4,5])] [(66,m66),(67,m67),(69,m69),(70,m70),(71,m71),(72,m72)] [] [] []
def q34 (xa xb xc:List AV) (a1:Int):Bool:=(q66 xa xb xc a1 && (bif (v66_0 xa xb xc a1) then q69 xa xb xc else (q67 xa xb xc a1 && (q70 xa (v67_0 xa xb xc a1) (v67_1 xa xb xc a1) a1 && (q71 xa xb xc (v70_0 xa (v67_0 xa xb xc a1) (v67_1 xa xb xc a1) a1) && q72 (v71_0 xa xb xc (v70_0 xa (v67_0 xa xb xc a1) (v67_1 xa xb xc a1) a1)) (v71_1 xa xb xc (v70_0 xa (v67_0 xa xb xc a1) (v67_1 xa xb xc a1) a1)) (v71_2 xa xb xc (v70_0 xa (v67_0 xa xb xc a1) (v67_1 xa xb xc a1) a1)) a1 (v70_1 xa (v67_0 xa xb xc a1) (v67_1 xa xb xc a1) a1))))))
def v34_0 (xa xb xc:List AV) (a1:Int):List AV:=(bif (v66_0 xa xb xc a1) then (v69_0 xa xb xc) else (v72_0 (v71_0 xa xb xc (v70_0 xa (v67_0 xa xb xc a1) (v67_1 xa xb xc a1) a1)) (v71_1 xa xb xc (v70_0 xa (v67_0 xa xb xc a1) (v67_1 xa xb xc a1) a1)) (v71_2 xa xb xc (v70_0 xa (v67_0 xa xb xc a1) (v67_1 xa xb xc a1) a1)) a1 (v70_1 xa (v67_0 xa xb xc a1) (v67_1 xa xb xc a1) a1)))
def v34_1 (xa xb xc:List AV) (a1:Int):List AV:=(bif (v66_0 xa xb xc a1) then (v69_1 xa xb xc) else (v72_1 (v71_0 xa xb xc (v70_0 xa (v67_0 xa xb xc a1) (v67_1 xa xb xc a1) a1)) (v71_1 xa xb xc (v70_0 xa (v67_0 xa xb xc a1) (v67_1 xa xb xc a1) a1)) (v71_2 xa xb xc (v70_0 xa (v67_0 xa xb xc a1) (v67_1 xa xb xc a1) a1)) a1 (v70_1 xa (v67_0 xa xb xc a1) (v67_1 xa xb xc a1) a1)))
def v34_2 (xa xb xc:List AV) (a1:Int):List AV:=(bif (v66_0 xa xb xc a1) then (v69_2 xa xb xc) else (v72_2 (v71_0 xa xb xc (v70_0 xa (v67_0 xa xb xc a1) (v67_1 xa xb xc a1) a1)) (v71_1 xa xb xc (v70_0 xa (v67_0 xa xb xc a1) (v67_1 xa xb xc a1) a1)) (v71_2 xa xb xc (v70_0 xa (v67_0 xa xb xc a1) (v67_1 xa xb xc a1) a1)) a1 (v70_1 xa (v67_0 xa xb xc a1) (v67_1 xa xb xc a1) a1)))
def v34_3 (xa xb xc:List AV) (a1:Int):List AV:=(bif (v66_0 xa xb xc a1) then ([]:List AV) else (v70_0 xa (v67_0 xa xb xc a1) (v67_1 xa xb xc a1) a1))
theorem e34 (xa xb xc:List AV) (a1:Int):funA c34 0 34 [AV.agg [AV.sl [.int .i64] xa,AV.sl [.int .i64] xb,AV.sl [.int .i64,.int .i64] xc],Ai a1]=(bif q66 xa xb xc a1 then (bif (v66_0 xa xb xc a1) then (bif q69 xa xb xc then some (AV.tup [AV.agg [AV.fl [.int .i64] (v69_0 xa xb xc),AV.fl [.int .i64] (v69_1 xa xb xc),AV.fl [.int .i64,.int .i64] (v69_2 xa xb xc)],AV.fl [.int .i64,.int .i64] ([]:List AV)])
 else none)
 else (bif q67 xa xb xc a1 then (bif q70 xa (v67_0 xa xb xc a1) (v67_1 xa xb xc a1) a1 then (bif q71 xa xb xc (v70_0 xa (v67_0 xa xb xc a1) (v67_1 xa xb xc a1) a1) then (bif q72 (v71_0 xa xb xc (v70_0 xa (v67_0 xa xb xc a1) (v67_1 xa xb xc a1) a1)) (v71_1 xa xb xc (v70_0 xa (v67_0 xa xb xc a1) (v67_1 xa xb xc a1) a1)) (v71_2 xa xb xc (v70_0 xa (v67_0 xa xb xc a1) (v67_1 xa xb xc a1) a1)) a1 (v70_1 xa (v67_0 xa xb xc a1) (v67_1 xa xb xc a1) a1) then some (AV.tup [AV.agg [AV.fl [.int .i64] (v72_0 (v71_0 xa xb xc (v70_0 xa (v67_0 xa xb xc a1) (v67_1 xa xb xc a1) a1)) (v71_1 xa xb xc (v70_0 xa (v67_0 xa xb xc a1) (v67_1 xa xb xc a1) a1)) (v71_2 xa xb xc (v70_0 xa (v67_0 xa xb xc a1) (v67_1 xa xb xc a1) a1)) a1 (v70_1 xa (v67_0 xa xb xc a1) (v67_1 xa xb xc a1) a1)),AV.fl [.int .i64] (v72_1 (v71_0 xa xb xc (v70_0 xa (v67_0 xa xb xc a1) (v67_1 xa xb xc a1) a1)) (v71_1 xa xb xc (v70_0 xa (v67_0 xa xb xc a1) (v67_1 xa xb xc a1) a1)) (v71_2 xa xb xc (v70_0 xa (v67_0 xa xb xc a1) (v67_1 xa xb xc a1) a1)) a1 (v70_1 xa (v67_0 xa xb xc a1) (v67_1 xa xb xc a1) a1)),AV.fl [.int .i64,.int .i64] (v72_2 (v71_0 xa xb xc (v70_0 xa (v67_0 xa xb xc a1) (v67_1 xa xb xc a1) a1)) (v71_1 xa xb xc (v70_0 xa (v67_0 xa xb xc a1) (v67_1 xa xb xc a1) a1)) (v71_2 xa xb xc (v70_0 xa (v67_0 xa xb xc a1) (v67_1 xa xb xc a1) a1)) a1 (v70_1 xa (v67_0 xa xb xc a1) (v67_1 xa xb xc a1) a1))],AV.fl [.int .i64,.int .i64] (v70_0 xa (v67_0 xa xb xc a1) (v67_1 xa xb xc a1) a1)])
 else none)
 else none)
 else none)
 else none))
 else none):=by kernel_rfl
def m34:TModel
 | [.agg [.sl g0 xa,.sl g1 xb,.sl g2 xc],.int .i64 a1]=>bif ctsEq g0 ([.int .i64]) && ctsEq g1 ([.int .i64]) && ctsEq g2 ([.int .i64,.int .i64]) then some (q34 xa xb xc a1,AV.tup [AV.agg [AV.fl [.int .i64] (v34_0 xa xb xc a1),AV.fl [.int .i64] (v34_1 xa xb xc a1),AV.fl [.int .i64,.int .i64] (v34_2 xa xb xc a1)],AV.fl [.int .i64,.int .i64] (v34_3 xa xb xc a1)]) else none
 | _=>none
theorem k34:Known Try.prog 34:=⟨Try.f34,Try.func34,by kernel_rfl,by kernel_rfl⟩
theorem meets34:Meets Try.prog 34 m34:=by
 refine meet (f:=Try.f34) (l:=[]) (hs:=[(34,999,[4,5])]) (ts:=[(66,m66),(67,m67),(69,m69),(70,m70),(71,m71),(72,m72)]) (ws:=[]) (is:=[]) (ls:=[]) (lvl:=0) mixed k34 Try.func34 (by kernel_rfl) noLoop (allT_cons meets66 (allT_cons meets67 (allT_cons meets69 (allT_cons meets70 (allT_cons meets71 (allT_cons meets72 allT_nil)))))) allM_nil noI fun w xs us r hl hv h=>?_
 unfold m34 at h
 split at h
 ·rename_i g0 xa g1 xb g2 xc a1
  obtain ⟨hg,h⟩:=bif_pair h
  simp only [Bool.and_eq_true] at hg
  obtain ⟨⟨q0,q1⟩,q2⟩:=hg
  obtain rfl:=ctsEq_eq _ _ q0
  obtain rfl:=ctsEq_eq _ _ q1
  obtain rfl:=ctsEq_eq _ _ q2
  obtain ⟨h1,rfl⟩:=pair_inj h
  exact (e34 xa xb xc a1).trans ((brL (br (fun b=>some (AV.tup [AV.agg [AV.fl [.int .i64] (bif b then (v69_0 xa xb xc) else (v72_0 (v71_0 xa xb xc (v70_0 xa (v67_0 xa xb xc a1) (v67_1 xa xb xc a1) a1)) (v71_1 xa xb xc (v70_0 xa (v67_0 xa xb xc a1) (v67_1 xa xb xc a1) a1)) (v71_2 xa xb xc (v70_0 xa (v67_0 xa xb xc a1) (v67_1 xa xb xc a1) a1)) a1 (v70_1 xa (v67_0 xa xb xc a1) (v67_1 xa xb xc a1) a1))),AV.fl [.int .i64] (bif b then (v69_1 xa xb xc) else (v72_1 (v71_0 xa xb xc (v70_0 xa (v67_0 xa xb xc a1) (v67_1 xa xb xc a1) a1)) (v71_1 xa xb xc (v70_0 xa (v67_0 xa xb xc a1) (v67_1 xa xb xc a1) a1)) (v71_2 xa xb xc (v70_0 xa (v67_0 xa xb xc a1) (v67_1 xa xb xc a1) a1)) a1 (v70_1 xa (v67_0 xa xb xc a1) (v67_1 xa xb xc a1) a1))),AV.fl [.int .i64,.int .i64] (bif b then (v69_2 xa xb xc) else (v72_2 (v71_0 xa xb xc (v70_0 xa (v67_0 xa xb xc a1) (v67_1 xa xb xc a1) a1)) (v71_1 xa xb xc (v70_0 xa (v67_0 xa xb xc a1) (v67_1 xa xb xc a1) a1)) (v71_2 xa xb xc (v70_0 xa (v67_0 xa xb xc a1) (v67_1 xa xb xc a1) a1)) a1 (v70_1 xa (v67_0 xa xb xc a1) (v67_1 xa xb xc a1) a1)))],AV.fl [.int .i64,.int .i64] (bif b then ([]:List AV) else (v70_0 xa (v67_0 xa xb xc a1) (v67_1 xa xb xc a1) a1))])) (brL1 (fun _=>rfl)) (brL (brL (brL (brL1 (fun _=>rfl))))))) h1)
 ·cases h
def F33_0 (t1 t35:Int) (h0 h1 h2 h5:List AV) (t36:Int) (h4:List AV):Out ((Int × (List AV))) (((List AV))):=(bif decide (t36<t35) then (bif (decide (0≤t36) && decide (t36<(h5.length:Int))) then (bif (decide ((h4.length+([AV.agg [AV.int .i64 2,AV.int .i64 (fI (h5.getD t36.toNat .undef) 0),AV.int .i64 (fI (h5.getD t36.toNat .undef) 1),AV.int .i64 0]]).length)*32≤140737488355328) && decide ((h4.length+([AV.agg [AV.int .i64 2,AV.int .i64 (fI (h5.getD t36.toNat .undef) 0),AV.int .i64 (fI (h5.getD t36.toNat .undef) 1),AV.int .i64 0]]).length)≤140737488355328)) then .next (IntKind.i64.wrap (t36+1),h4++([AV.agg [AV.int .i64 2,AV.int .i64 (fI (h5.getD t36.toNat .undef) 0),AV.int .i64 (fI (h5.getD t36.toNat .undef) 1),AV.int .i64 0]]))
 else .fail)
 else .fail)
 else .stop h4)
def R33_0 (t1 t35:Int) (h0 h1 h2 h5:List AV):((Int × (List AV)))→Out ((Int × (List AV))) (((List AV))):=fun s:Int × (List AV)=>F33_0 t1 t35 h0 h1 h2 h5 s.1 s.2
def E33_0 (t1 t35:Int) (h0 h1 h2 h5:List AV):((Int × (List AV)))→St:=fun s:Int × (List AV)=>⟨[(1,Ai t1),(7,AV.ptr [0,7] 0 0),(9,AV.own [0,9]),(34,AV.own [0,34]),(35,Ai t35),(36,Ai s.1)],[([0,0,7],⟨false,[.int .i64],h0⟩),([0,1,7],⟨false,[.int .i64],h1⟩),([0,2,7],⟨false,[.int .i64,.int .i64],h2⟩),([0,7],⟨true,[],[AV.agg [AV.own [0,0,7],AV.own [0,1,7],AV.own [0,2,7]]]⟩),([0,9],⟨false,[.int .i64,.int .i64,.int .i64,.int .i64],s.2⟩),([0,34],⟨false,[.int .i64,.int .i64],h5⟩)]⟩
def K33_0 (t1:Int) (h0 h1 h2 h5:List AV) (k:Kont):(((List AV)))→Option AV:=fun p:(List AV)=>k (.exit 0) ⟨[(1,Ai t1),(7,AV.ptr [0,7] 0 0),(9,AV.own [0,9])],[([0,0,7],⟨false,[.int .i64],h0⟩),([0,1,7],⟨false,[.int .i64],h1⟩),([0,2,7],⟨false,[.int .i64,.int .i64],h2⟩),([0,7],⟨true,[],[AV.agg [AV.own [0,0,7],AV.own [0,1,7],AV.own [0,2,7]]]⟩),([0,9],⟨false,[.int .i64,.int .i64,.int .i64,.int .i64],p⟩),([0,34],⟨false,[.int .i64,.int .i64],h5⟩)]⟩
def l33_0:LModel:=fun _ _ st k=>match st with
 | ⟨[(1,.int .i64 t1),(7,.ptr g0 g1 g2),(9,.own g3),(34,.own g4),(35,.int .i64 t35),(36,.int .i64 t36)],[(g5,⟨false,g6,h0⟩),(g7,⟨false,g8,h1⟩),(g9,⟨false,g10,h2⟩),(g11,⟨true,[],[.agg [.own g12,.own g13,.own g14]]⟩),(g15,⟨false,g16,h4⟩),(g17,⟨false,g18,h5⟩)]⟩=>bif nmEq g0 ([0,7]) && Nat.beq g1 0 && Nat.beq g2 0 && nmEq g3 ([0,9]) && nmEq g4 ([0,34]) && nmEq g5 ([0,0,7]) && ctsEq g6 ([.int .i64]) && nmEq g7 ([0,1,7]) && ctsEq g8 ([.int .i64]) && nmEq g9 ([0,2,7]) && ctsEq g10 ([.int .i64,.int .i64]) && nmEq g11 ([0,7]) && nmEq g12 ([0,0,7]) && nmEq g13 ([0,1,7]) && nmEq g14 ([0,2,7]) && nmEq g15 ([0,9]) && ctsEq g16 ([.int .i64,.int .i64,.int .i64,.int .i64]) && nmEq g17 ([0,34]) && ctsEq g18 ([.int .i64,.int .i64]) then ro (runW (R33_0 t1 t35 h0 h1 h2 h5) ((t35 - t36:Int).toNat+1) (t36,h4)) none (K33_0 t1 h0 h1 h2 h5 k) else none
 | _=>none
noncomputable def c33:Cfg:=cfg Try.prog [(33,0,[1,7,9,34,35,36]),(33,999,[4]),(33,1000,[1,7,9]),(33,1001,[1,7,9,34,35,36])] [(34,m34),(66,m66),(67,m67),(68,m68)] [] [] [(33,0,l33_0)]
theorem s33_0 (ce:CallE) (t1 t35 t36:Int) (h0 h1 h2 h4 h5:List AV) (next:St→Option AV) (k:Kont):stepA (codeA c33 ce [] 33 0 (sub [1,1,1,1,1,0,1,0,0] (body Try.f33))) (normA [] [1,7,9,34,35,36]) next ⟨[(1,Ai t1),(7,AV.ptr [0,7] 0 0),(9,AV.own [0,9]),(34,AV.own [0,34]),(35,Ai t35),(36,Ai t36)],[([0,0,7],⟨false,[.int .i64],h0⟩),([0,1,7],⟨false,[.int .i64],h1⟩),([0,2,7],⟨false,[.int .i64,.int .i64],h2⟩),([0,7],⟨true,[],[AV.agg [AV.own [0,0,7],AV.own [0,1,7],AV.own [0,2,7]]]⟩),([0,9],⟨false,[.int .i64,.int .i64,.int .i64,.int .i64],h4⟩),([0,34],⟨false,[.int .i64,.int .i64],h5⟩)]⟩ k=(bif decide (t36<t35) then (bif (decide (0≤t36) && decide (t36<(h5.length:Int))) then (bif (decide ((h4.length+([AV.agg [Ai 2,Ai (fI (h5.getD t36.toNat .undef) 0),Ai (fI (h5.getD t36.toNat .undef) 1),Ai 0]]).length)*32≤140737488355328) && decide ((h4.length+([AV.agg [Ai 2,Ai (fI (h5.getD t36.toNat .undef) 0),Ai (fI (h5.getD t36.toNat .undef) 1),Ai 0]]).length)≤140737488355328)) then next ⟨[(1,Ai t1),(7,AV.ptr [0,7] 0 0),(9,AV.own [0,9]),(34,AV.own [0,34]),(35,Ai t35),(36,Ai (IntKind.i64.wrap (t36+1)))],[([0,0,7],⟨false,[.int .i64],h0⟩),([0,1,7],⟨false,[.int .i64],h1⟩),([0,2,7],⟨false,[.int .i64,.int .i64],h2⟩),([0,7],⟨true,[],[AV.agg [AV.own [0,0,7],AV.own [0,1,7],AV.own [0,2,7]]]⟩),([0,9],⟨false,[.int .i64,.int .i64,.int .i64,.int .i64],h4++([AV.agg [Ai 2,Ai (fI (h5.getD t36.toNat .undef) 0),Ai (fI (h5.getD t36.toNat .undef) 1),Ai 0]])⟩),([0,34],⟨false,[.int .i64,.int .i64],h5⟩)]⟩
 else none)
 else none)
 else k (.exit 0) ⟨[(1,Ai t1),(7,AV.ptr [0,7] 0 0),(9,AV.own [0,9])],[([0,0,7],⟨false,[.int .i64],h0⟩),([0,1,7],⟨false,[.int .i64],h1⟩),([0,2,7],⟨false,[.int .i64,.int .i64],h2⟩),([0,7],⟨true,[],[AV.agg [AV.own [0,0,7],AV.own [0,1,7],AV.own [0,2,7]]]⟩),([0,9],⟨false,[.int .i64,.int .i64,.int .i64,.int .i64],h4⟩),([0,34],⟨false,[.int .i64,.int .i64],h5⟩)]⟩):=by kernel_rfl
theorem st33_0 (t1 t35:Int) (h0 h1 h2 h5:List AV) (ce:CallE) (k:Kont) (s:(Int × (List AV))) (next:St→Option AV):stepA (codeA c33 ce [] 33 0 (sub [1,1,1,1,1,0,1,0,0] (body Try.f33))) (normA [] [1,7,9,34,35,36]) next ((E33_0 t1 t35 h0 h1 h2 h5) s) k=(R33_0 t1 t35 h0 h1 h2 h5 s).el none (fun s=>next ((E33_0 t1 t35 h0 h1 h2 h5) s)) (K33_0 t1 h0 h1 h2 h5 k):=(s33_0 ce t1 t35 s.1 h0 h1 h2 s.2 h5 next k).trans (by unfold R33_0;unfold F33_0;simp only [el_cond,el_ro,el_sum,el_fail,el_next,el_stop] <;> rfl)
theorem ok33_0 {ce:CallE}:LoopOK c33 ce [] 33 0 (sub [1,1,1,1,1,0,1,0,0] (body Try.f33)):=by
 intro m hm st k r h
 obtain rfl:l33_0=m:=Option.some.inj hm
 unfold l33_0 at h
 split at h
 ·rename_i t1 g0 g1 g2 g3 g4 t35 t36 g5 g6 h0 g7 g8 h1 g9 g10 h2 g11 g12 g13 g14 g15 g16 h4 g17 g18 h5
  obtain ⟨hg,h⟩:=bif_some h
  simp only [Bool.and_eq_true] at hg
  obtain ⟨⟨⟨⟨⟨⟨⟨⟨⟨⟨⟨⟨⟨⟨⟨⟨⟨⟨q0,q1⟩,q2⟩,q3⟩,q4⟩,q5⟩,q6⟩,q7⟩,q8⟩,q9⟩,q10⟩,q11⟩,q12⟩,q13⟩,q14⟩,q15⟩,q16⟩,q17⟩,q18⟩:=hg
  obtain rfl:=(nmEq_iff _ _).1 q0
  obtain rfl:=Nat.eq_of_beq_eq_true q1
  obtain rfl:=Nat.eq_of_beq_eq_true q2
  obtain rfl:=(nmEq_iff _ _).1 q3
  obtain rfl:=(nmEq_iff _ _).1 q4
  obtain rfl:=(nmEq_iff _ _).1 q5
  obtain rfl:=ctsEq_eq _ _ q6
  obtain rfl:=(nmEq_iff _ _).1 q7
  obtain rfl:=ctsEq_eq _ _ q8
  obtain rfl:=(nmEq_iff _ _).1 q9
  obtain rfl:=ctsEq_eq _ _ q10
  obtain rfl:=(nmEq_iff _ _).1 q11
  obtain rfl:=(nmEq_iff _ _).1 q12
  obtain rfl:=(nmEq_iff _ _).1 q13
  obtain rfl:=(nmEq_iff _ _).1 q14
  obtain rfl:=(nmEq_iff _ _).1 q15
  obtain rfl:=ctsEq_eq _ _ q16
  obtain rfl:=(nmEq_iff _ _).1 q17
  obtain rfl:=ctsEq_eq _ _ q18
  refine ⟨((t35 - t36:Int).toNat+1),?_⟩
  rw [← h]
  exact loop_run (E33_0 t1 t35 h0 h1 h2 h5) (K33_0 t1 h0 h1 h2 h5 k) (st33_0 t1 t35 h0 h1 h2 h5 ce k) _ (t36,h4)
 ·cases h
def q33 (xa xb xc:List AV) (a1:Int):Bool:=(q66 xa xb xc a1 && (bif (v66_0 xa xb xc a1) then true else (q67 xa xb xc a1 && (q34 xa xb xc a1 && (ro (runW (R33_0 a1 ((v34_3 xa xb xc a1).length:Int) (v34_0 xa xb xc a1) (v34_1 xa xb xc a1) (v34_2 xa xb xc a1) (v34_3 xa xb xc a1)) ((((v34_3 xa xb xc a1).length:Int) - 0:Int).toNat+1) (0,[AV.agg [AV.int .i64 1,AV.int .i64 a1,AV.int .i64 (v67_0 xa xb xc a1),AV.int .i64 (v67_1 xa xb xc a1)]])) false (fun p21=>(q68 (v34_0 xa xb xc a1) (v34_1 xa xb xc a1) (v34_2 xa xb xc a1) a1 && (decide ((p21.length+([AV.agg [AV.int .i64 3,AV.int .i64 a1,AV.int .i64 (v68_0 (v34_0 xa xb xc a1) (v34_1 xa xb xc a1) (v34_2 xa xb xc a1) a1),AV.int .i64 0]]).length)*32≤140737488355328) && decide ((p21.length+([AV.agg [AV.int .i64 3,AV.int .i64 a1,AV.int .i64 (v68_0 (v34_0 xa xb xc a1) (v34_1 xa xb xc a1) (v34_2 xa xb xc a1) a1),AV.int .i64 0]]).length)≤140737488355328)))))))))
def v33_0 (xa xb xc:List AV) (a1:Int):List AV:=(bif (v66_0 xa xb xc a1) then ([]:List AV) else (ro (runW (R33_0 a1 ((v34_3 xa xb xc a1).length:Int) (v34_0 xa xb xc a1) (v34_1 xa xb xc a1) (v34_2 xa xb xc a1) (v34_3 xa xb xc a1)) ((((v34_3 xa xb xc a1).length:Int) - 0:Int).toNat+1) (0,[AV.agg [AV.int .i64 1,AV.int .i64 a1,AV.int .i64 (v67_0 xa xb xc a1),AV.int .i64 (v67_1 xa xb xc a1)]])) [] (fun p21=>p21++([AV.agg [AV.int .i64 3,AV.int .i64 a1,AV.int .i64 (v68_0 (v34_0 xa xb xc a1) (v34_1 xa xb xc a1) (v34_2 xa xb xc a1) a1),AV.int .i64 0]]))))
theorem e33 (xa xb xc:List AV) (a1:Int):funA c33 0 33 [AV.agg [AV.sl [.int .i64] xa,AV.sl [.int .i64] xb,AV.sl [.int .i64,.int .i64] xc],Ai a1]=(bif q66 xa xb xc a1 then (bif (v66_0 xa xb xc a1) then some (AV.fl [.int .i64,.int .i64,.int .i64,.int .i64] ([]:List AV))
 else (bif q67 xa xb xc a1 then (bif q34 xa xb xc a1 then (ro (runW (R33_0 a1 ((v34_3 xa xb xc a1).length:Int) (v34_0 xa xb xc a1) (v34_1 xa xb xc a1) (v34_2 xa xb xc a1) (v34_3 xa xb xc a1)) ((((v34_3 xa xb xc a1).length:Int) - 0:Int).toNat+1) (0,[AV.agg [Ai 1,Ai a1,Ai (v67_0 xa xb xc a1),Ai (v67_1 xa xb xc a1)]])) none (fun p21=>(bif q68 (v34_0 xa xb xc a1) (v34_1 xa xb xc a1) (v34_2 xa xb xc a1) a1 then (bif (decide ((p21.length+([AV.agg [Ai 3,Ai a1,Ai (v68_0 (v34_0 xa xb xc a1) (v34_1 xa xb xc a1) (v34_2 xa xb xc a1) a1),Ai 0]]).length)*32≤140737488355328) && decide ((p21.length+([AV.agg [Ai 3,Ai a1,Ai (v68_0 (v34_0 xa xb xc a1) (v34_1 xa xb xc a1) (v34_2 xa xb xc a1) a1),Ai 0]]).length)≤140737488355328)) then some (AV.fl [.int .i64,.int .i64,.int .i64,.int .i64] (p21++([AV.agg [Ai 3,Ai a1,Ai (v68_0 (v34_0 xa xb xc a1) (v34_1 xa xb xc a1) (v34_2 xa xb xc a1) a1),Ai 0]])))
 else none)
 else none)))
 else none)
 else none))
 else none):=by kernel_rfl
def m33:TModel
 | [.agg [.sl g0 xa,.sl g1 xb,.sl g2 xc],.int .i64 a1]=>bif ctsEq g0 ([.int .i64]) && ctsEq g1 ([.int .i64]) && ctsEq g2 ([.int .i64,.int .i64]) then some (q33 xa xb xc a1,AV.fl [.int .i64,.int .i64,.int .i64,.int .i64] (v33_0 xa xb xc a1)) else none
 | _=>none
theorem k33:Known Try.prog 33:=⟨Try.f33,Try.func33,by kernel_rfl,by kernel_rfl⟩
theorem meets33:Meets Try.prog 33 m33:=by
 refine meet (f:=Try.f33) (l:=[(0,sub [1,1,1,1,1,0,1,0,0] (body Try.f33))]) (hs:=[(33,0,[1,7,9,34,35,36]),(33,999,[4]),(33,1000,[1,7,9]),(33,1001,[1,7,9,34,35,36])]) (ts:=[(34,m34),(66,m66),(67,m67),(68,m68)]) (ws:=[]) (is:=[]) (ls:=[(33,0,l33_0)]) (lvl:=0) mixed k33 Try.func33 (by kernel_rfl) (loops_cons ok33_0 noLoop) (allT_cons meets34 (allT_cons meets66 (allT_cons meets67 (allT_cons meets68 allT_nil)))) allM_nil noI fun w xs us r hl hv h=>?_
 unfold m33 at h
 split at h
 ·rename_i g0 xa g1 xb g2 xc a1
  obtain ⟨hg,h⟩:=bif_pair h
  simp only [Bool.and_eq_true] at hg
  obtain ⟨⟨q0,q1⟩,q2⟩:=hg
  obtain rfl:=ctsEq_eq _ _ q0
  obtain rfl:=ctsEq_eq _ _ q1
  obtain rfl:=ctsEq_eq _ _ q2
  obtain ⟨h1,rfl⟩:=pair_inj h
  exact (e33 xa xb xc a1).trans ((brL (br (fun b=>some (AV.fl [.int .i64,.int .i64,.int .i64,.int .i64] (bif b then ([]:List AV) else (ro (runW (R33_0 a1 ((v34_3 xa xb xc a1).length:Int) (v34_0 xa xb xc a1) (v34_1 xa xb xc a1) (v34_2 xa xb xc a1) (v34_3 xa xb xc a1)) ((((v34_3 xa xb xc a1).length:Int) - 0:Int).toNat+1) (0,[AV.agg [Ai 1,Ai a1,Ai (v67_0 xa xb xc a1),Ai (v67_1 xa xb xc a1)]])) [] (fun p21=>p21++([AV.agg [Ai 3,Ai a1,Ai (v68_0 (v34_0 xa xb xc a1) (v34_1 xa xb xc a1) (v34_2 xa xb xc a1) a1),Ai 0]])))))) (fun _=>rfl) (brL (brL (brO (fun o:Option (((List AV)))=>some (AV.fl [.int .i64,.int .i64,.int .i64,.int .i64] (ro o [] (fun p21=>p21++([AV.agg [Ai 3,Ai a1,Ai (v68_0 (v34_0 xa xb xc a1) (v34_1 xa xb xc a1) (v34_2 xa xb xc a1) a1),Ai 0]]))))) (fun p21=>(brL (brL1 (fun _=>rfl))))))))) h1)
 ·cases h
def F7_0 (t23:List AV) (t24 t25:Int) (h0 h1 h2 h5:List AV):Out ((Int × (List AV) × (List AV) × (List AV) × (List AV))) (((List AV) × (List AV) × (List AV) × (List AV))):=(bif decide (t25<t24) then (bif (decide (0≤t25) && decide (t25<(t23.length:Int))) then (bif q33 h0 h1 h2 (fI (t23.getD t25.toNat .undef) 0) then (bif (decide ((h5.length+(v33_0 h0 h1 h2 (fI (t23.getD t25.toNat .undef) 0)).length)*32≤140737488355328) && decide ((h5.length+(v33_0 h0 h1 h2 (fI (t23.getD t25.toNat .undef) 0)).length)≤140737488355328)) then (bif q34 h0 h1 h2 (fI (t23.getD t25.toNat .undef) 0) then .next (IntKind.i64.wrap (t25+1),(v34_0 h0 h1 h2 (fI (t23.getD t25.toNat .undef) 0)),(v34_1 h0 h1 h2 (fI (t23.getD t25.toNat .undef) 0)),(v34_2 h0 h1 h2 (fI (t23.getD t25.toNat .undef) 0)),h5++(v33_0 h0 h1 h2 (fI (t23.getD t25.toNat .undef) 0)))
 else .fail)
 else .fail)
 else .fail)
 else .fail)
 else .stop (h0,h1,h2,h5))
def R7_0 (t23:List AV) (t24:Int):((Int × (List AV) × (List AV) × (List AV) × (List AV)))→Out ((Int × (List AV) × (List AV) × (List AV) × (List AV))) (((List AV) × (List AV) × (List AV) × (List AV))):=fun s:Int × (List AV) × (List AV) × (List AV) × (List AV)=>F7_0 t23 t24 s.1 s.2.1 s.2.2.1 s.2.2.2.1 s.2.2.2.2
def E7_0 (t23:List AV) (t24:Int):((Int × (List AV) × (List AV) × (List AV) × (List AV)))→St:=fun s:Int × (List AV) × (List AV) × (List AV) × (List AV)=>⟨[(4,AV.ptr [0,4] 0 0),(7,AV.ptr [0,7] 0 0),(8,AV.own [0,8]),(23,AV.sl [.int .i64] t23),(24,Ai t24),(25,Ai s.1)],[([0,0,7],⟨false,[.int .i64],s.2.1⟩),([0,1,7],⟨false,[.int .i64],s.2.2.1⟩),([0,2,7],⟨false,[.int .i64,.int .i64],s.2.2.2.1⟩),([0,4],⟨true,[],[AV.agg [AV.snil,AV.snil,AV.snil]]⟩),([0,7],⟨true,[],[AV.agg [AV.own [0,0,7],AV.own [0,1,7],AV.own [0,2,7]]]⟩),([0,8],⟨false,[.int .i64,.int .i64,.int .i64,.int .i64],s.2.2.2.2⟩)]⟩
def K7_0 (k:Kont):(((List AV) × (List AV) × (List AV) × (List AV)))→Option AV:=fun p:(List AV) × (List AV) × (List AV) × (List AV)=>k (.exit 0) ⟨[(4,AV.ptr [0,4] 0 0),(7,AV.ptr [0,7] 0 0),(8,AV.own [0,8])],[([0,0,7],⟨false,[.int .i64],p.1⟩),([0,1,7],⟨false,[.int .i64],p.2.1⟩),([0,2,7],⟨false,[.int .i64,.int .i64],p.2.2.1⟩),([0,4],⟨true,[],[AV.agg [AV.snil,AV.snil,AV.snil]]⟩),([0,7],⟨true,[],[AV.agg [AV.own [0,0,7],AV.own [0,1,7],AV.own [0,2,7]]]⟩),([0,8],⟨false,[.int .i64,.int .i64,.int .i64,.int .i64],p.2.2.2⟩)]⟩
def l7_0:LModel:=fun _ _ st k=>match st with
 | ⟨[(4,.ptr g0 g1 g2),(7,.ptr g3 g4 g5),(8,.own g6),(23,.sl g7 t23),(24,.int .i64 t24),(25,.int .i64 t25)],[(g8,⟨false,g9,h0⟩),(g10,⟨false,g11,h1⟩),(g12,⟨false,g13,h2⟩),(g14,⟨true,[],[.agg [.snil,.snil,.snil]]⟩),(g15,⟨true,[],[.agg [.own g16,.own g17,.own g18]]⟩),(g19,⟨false,g20,h5⟩)]⟩=>bif nmEq g0 ([0,4]) && Nat.beq g1 0 && Nat.beq g2 0 && nmEq g3 ([0,7]) && Nat.beq g4 0 && Nat.beq g5 0 && nmEq g6 ([0,8]) && ctsEq g7 ([.int .i64]) && nmEq g8 ([0,0,7]) && ctsEq g9 ([.int .i64]) && nmEq g10 ([0,1,7]) && ctsEq g11 ([.int .i64]) && nmEq g12 ([0,2,7]) && ctsEq g13 ([.int .i64,.int .i64]) && nmEq g14 ([0,4]) && nmEq g15 ([0,7]) && nmEq g16 ([0,0,7]) && nmEq g17 ([0,1,7]) && nmEq g18 ([0,2,7]) && nmEq g19 ([0,8]) && ctsEq g20 ([.int .i64,.int .i64,.int .i64,.int .i64]) then ro (runW (R7_0 t23 t24) ((t24 - t25:Int).toNat+1) (t25,h0,h1,h2,h5)) none (K7_0 k) else none
 | _=>none
noncomputable def c7:Cfg:=cfg Try.prog [(7,0,[4,7,8,23,24,25]),(7,999,[4,5,6]),(7,1000,[4,7,8]),(7,1001,[4,7,8,23,24,25])] [(30,m30),(31,m31),(32,m32),(33,m33),(34,m34)] [] [] [(7,0,l7_0)]
theorem s7_0 (ce:CallE) (t23:List AV) (t24 t25:Int) (h0 h1 h2 h5:List AV) (next:St→Option AV) (k:Kont):stepA (codeA c7 ce [] 7 0 (sub [1,1,1,0,1,0,0] (body Try.f7))) (normA [] [4,7,8,23,24,25]) next ⟨[(4,AV.ptr [0,4] 0 0),(7,AV.ptr [0,7] 0 0),(8,AV.own [0,8]),(23,AV.sl [.int .i64] t23),(24,Ai t24),(25,Ai t25)],[([0,0,7],⟨false,[.int .i64],h0⟩),([0,1,7],⟨false,[.int .i64],h1⟩),([0,2,7],⟨false,[.int .i64,.int .i64],h2⟩),([0,4],⟨true,[],[AV.agg [AV.snil,AV.snil,AV.snil]]⟩),([0,7],⟨true,[],[AV.agg [AV.own [0,0,7],AV.own [0,1,7],AV.own [0,2,7]]]⟩),([0,8],⟨false,[.int .i64,.int .i64,.int .i64,.int .i64],h5⟩)]⟩ k=(bif decide (t25<t24) then (bif (decide (0≤t25) && decide (t25<(t23.length:Int))) then (bif q33 h0 h1 h2 (fI (t23.getD t25.toNat .undef) 0) then (bif (decide ((h5.length+(v33_0 h0 h1 h2 (fI (t23.getD t25.toNat .undef) 0)).length)*32≤140737488355328) && decide ((h5.length+(v33_0 h0 h1 h2 (fI (t23.getD t25.toNat .undef) 0)).length)≤140737488355328)) then (bif q34 h0 h1 h2 (fI (t23.getD t25.toNat .undef) 0) then next ⟨[(4,AV.ptr [0,4] 0 0),(7,AV.ptr [0,7] 0 0),(8,AV.own [0,8]),(23,AV.sl [.int .i64] t23),(24,Ai t24),(25,Ai (IntKind.i64.wrap (t25+1)))],[([0,0,7],⟨false,[.int .i64],(v34_0 h0 h1 h2 (fI (t23.getD t25.toNat .undef) 0))⟩),([0,1,7],⟨false,[.int .i64],(v34_1 h0 h1 h2 (fI (t23.getD t25.toNat .undef) 0))⟩),([0,2,7],⟨false,[.int .i64,.int .i64],(v34_2 h0 h1 h2 (fI (t23.getD t25.toNat .undef) 0))⟩),([0,4],⟨true,[],[AV.agg [AV.snil,AV.snil,AV.snil]]⟩),([0,7],⟨true,[],[AV.agg [AV.own [0,0,7],AV.own [0,1,7],AV.own [0,2,7]]]⟩),([0,8],⟨false,[.int .i64,.int .i64,.int .i64,.int .i64],h5++(v33_0 h0 h1 h2 (fI (t23.getD t25.toNat .undef) 0))⟩)]⟩
 else none)
 else none)
 else none)
 else none)
 else k (.exit 0) ⟨[(4,AV.ptr [0,4] 0 0),(7,AV.ptr [0,7] 0 0),(8,AV.own [0,8])],[([0,0,7],⟨false,[.int .i64],h0⟩),([0,1,7],⟨false,[.int .i64],h1⟩),([0,2,7],⟨false,[.int .i64,.int .i64],h2⟩),([0,4],⟨true,[],[AV.agg [AV.snil,AV.snil,AV.snil]]⟩),([0,7],⟨true,[],[AV.agg [AV.own [0,0,7],AV.own [0,1,7],AV.own [0,2,7]]]⟩),([0,8],⟨false,[.int .i64,.int .i64,.int .i64,.int .i64],h5⟩)]⟩):=by kernel_rfl
theorem st7_0 (t23:List AV) (t24:Int) (ce:CallE) (k:Kont) (s:(Int × (List AV) × (List AV) × (List AV) × (List AV))) (next:St→Option AV):stepA (codeA c7 ce [] 7 0 (sub [1,1,1,0,1,0,0] (body Try.f7))) (normA [] [4,7,8,23,24,25]) next ((E7_0 t23 t24) s) k=(R7_0 t23 t24 s).el none (fun s=>next ((E7_0 t23 t24) s)) (K7_0 k):=(s7_0 ce t23 t24 s.1 s.2.1 s.2.2.1 s.2.2.2.1 s.2.2.2.2 next k).trans (by unfold R7_0;unfold F7_0;simp only [el_cond,el_ro,el_sum,el_fail,el_next,el_stop] <;> rfl)
theorem ok7_0 {ce:CallE}:LoopOK c7 ce [] 7 0 (sub [1,1,1,0,1,0,0] (body Try.f7)):=by
 intro m hm st k r h
 obtain rfl:l7_0=m:=Option.some.inj hm
 unfold l7_0 at h
 split at h
 ·rename_i g0 g1 g2 g3 g4 g5 g6 g7 t23 t24 t25 g8 g9 h0 g10 g11 h1 g12 g13 h2 g14 g15 g16 g17 g18 g19 g20 h5
  obtain ⟨hg,h⟩:=bif_some h
  simp only [Bool.and_eq_true] at hg
  obtain ⟨⟨⟨⟨⟨⟨⟨⟨⟨⟨⟨⟨⟨⟨⟨⟨⟨⟨⟨⟨q0,q1⟩,q2⟩,q3⟩,q4⟩,q5⟩,q6⟩,q7⟩,q8⟩,q9⟩,q10⟩,q11⟩,q12⟩,q13⟩,q14⟩,q15⟩,q16⟩,q17⟩,q18⟩,q19⟩,q20⟩:=hg
  obtain rfl:=(nmEq_iff _ _).1 q0
  obtain rfl:=Nat.eq_of_beq_eq_true q1
  obtain rfl:=Nat.eq_of_beq_eq_true q2
  obtain rfl:=(nmEq_iff _ _).1 q3
  obtain rfl:=Nat.eq_of_beq_eq_true q4
  obtain rfl:=Nat.eq_of_beq_eq_true q5
  obtain rfl:=(nmEq_iff _ _).1 q6
  obtain rfl:=ctsEq_eq _ _ q7
  obtain rfl:=(nmEq_iff _ _).1 q8
  obtain rfl:=ctsEq_eq _ _ q9
  obtain rfl:=(nmEq_iff _ _).1 q10
  obtain rfl:=ctsEq_eq _ _ q11
  obtain rfl:=(nmEq_iff _ _).1 q12
  obtain rfl:=ctsEq_eq _ _ q13
  obtain rfl:=(nmEq_iff _ _).1 q14
  obtain rfl:=(nmEq_iff _ _).1 q15
  obtain rfl:=(nmEq_iff _ _).1 q16
  obtain rfl:=(nmEq_iff _ _).1 q17
  obtain rfl:=(nmEq_iff _ _).1 q18
  obtain rfl:=(nmEq_iff _ _).1 q19
  obtain rfl:=ctsEq_eq _ _ q20
  refine ⟨((t24 - t25:Int).toNat+1),?_⟩
  rw [← h]
  exact loop_run (E7_0 t23 t24) (K7_0 k) (st7_0 t23 t24 ce k) _ (t25,h0,h1,h2,h5)
 ·cases h
def q7 (a0 a1:List AV):Bool:=(q30 a0 && (bif !(v30_0 a0) then true else (q31 a1 && (bif !(v31_0 a1) then true else (q32 a0 && (ro (runW (R7_0 a1 (a1.length:Int)) (((a1.length:Int) - 0:Int).toNat+1) (0,(v32_0 a0),(v32_1 a0),(v32_2 a0),([]:List AV))) false (fun p22=>true)))))))
def v7_0 (a0 a1:List AV):List AV:=(bif !(v30_0 a0) then ([]:List AV) else (bif !(v31_0 a1) then ([]:List AV) else (ro (runW (R7_0 a1 (a1.length:Int)) (((a1.length:Int) - 0:Int).toNat+1) (0,(v32_0 a0),(v32_1 a0),(v32_2 a0),([]:List AV))) [] (fun p22=>p22.1))))
def v7_1 (a0 a1:List AV):List AV:=(bif !(v30_0 a0) then ([]:List AV) else (bif !(v31_0 a1) then ([]:List AV) else (ro (runW (R7_0 a1 (a1.length:Int)) (((a1.length:Int) - 0:Int).toNat+1) (0,(v32_0 a0),(v32_1 a0),(v32_2 a0),([]:List AV))) [] (fun p22=>p22.2.1))))
def v7_2 (a0 a1:List AV):List AV:=(bif !(v30_0 a0) then ([]:List AV) else (bif !(v31_0 a1) then ([]:List AV) else (ro (runW (R7_0 a1 (a1.length:Int)) (((a1.length:Int) - 0:Int).toNat+1) (0,(v32_0 a0),(v32_1 a0),(v32_2 a0),([]:List AV))) [] (fun p22=>p22.2.2.1))))
def v7_3 (a0 a1:List AV):List AV:=(bif !(v30_0 a0) then ([]:List AV) else (bif !(v31_0 a1) then ([]:List AV) else (ro (runW (R7_0 a1 (a1.length:Int)) (((a1.length:Int) - 0:Int).toNat+1) (0,(v32_0 a0),(v32_1 a0),(v32_2 a0),([]:List AV))) [] (fun p22=>p22.2.2.2))))
def v7_4 (a0 a1:List AV):Bool:=(bif !(v30_0 a0) then false else (bif !(v31_0 a1) then false else true))
theorem e7 (a0 a1:List AV):funA c7 0 7 [AV.sl [.int .i64] a0,AV.sl [.int .i64] a1]=(bif q30 a0 then (bif !(v30_0 a0) then some (AV.tup [AV.agg [AV.fl [.int .i64] ([]:List AV),AV.fl [.int .i64] ([]:List AV),AV.fl [.int .i64,.int .i64] ([]:List AV)],AV.fl [.int .i64,.int .i64,.int .i64,.int .i64] ([]:List AV),AV.bool false])
 else (bif q31 a1 then (bif !(v31_0 a1) then some (AV.tup [AV.agg [AV.fl [.int .i64] ([]:List AV),AV.fl [.int .i64] ([]:List AV),AV.fl [.int .i64,.int .i64] ([]:List AV)],AV.fl [.int .i64,.int .i64,.int .i64,.int .i64] ([]:List AV),AV.bool false])
 else (bif q32 a0 then (ro (runW (R7_0 a1 (a1.length:Int)) (((a1.length:Int) - 0:Int).toNat+1) (0,(v32_0 a0),(v32_1 a0),(v32_2 a0),([]:List AV))) none (fun p22=>some (AV.tup [AV.agg [AV.fl [.int .i64] p22.1,AV.fl [.int .i64] p22.2.1,AV.fl [.int .i64,.int .i64] p22.2.2.1],AV.fl [.int .i64,.int .i64,.int .i64,.int .i64] p22.2.2.2,AV.bool true])))
 else none))
 else none))
 else none):=by kernel_rfl
def m7:TModel
 | [.sl g0 a0,.sl g1 a1]=>bif ctsEq g0 ([.int .i64]) && ctsEq g1 ([.int .i64]) then some (q7 a0 a1,AV.tup [AV.agg [AV.fl [.int .i64] (v7_0 a0 a1),AV.fl [.int .i64] (v7_1 a0 a1),AV.fl [.int .i64,.int .i64] (v7_2 a0 a1)],AV.fl [.int .i64,.int .i64,.int .i64,.int .i64] (v7_3 a0 a1),AV.bool (v7_4 a0 a1)]) else none
 | _=>none
theorem k7:Known Try.prog 7:=⟨Try.f7,Try.func7,by kernel_rfl,by kernel_rfl⟩
theorem meets7:Meets Try.prog 7 m7:=by
 refine meet (f:=Try.f7) (l:=[(0,sub [1,1,1,0,1,0,0] (body Try.f7))]) (hs:=[(7,0,[4,7,8,23,24,25]),(7,999,[4,5,6]),(7,1000,[4,7,8]),(7,1001,[4,7,8,23,24,25])]) (ts:=[(30,m30),(31,m31),(32,m32),(33,m33),(34,m34)]) (ws:=[]) (is:=[]) (ls:=[(7,0,l7_0)]) (lvl:=0) mixed k7 Try.func7 (by kernel_rfl) (loops_cons ok7_0 noLoop) (allT_cons meets30 (allT_cons meets31 (allT_cons meets32 (allT_cons meets33 (allT_cons meets34 allT_nil))))) allM_nil noI fun w xs us r hl hv h=>?_
 unfold m7 at h
 split at h
 ·rename_i g0 a0 g1 a1
  obtain ⟨hg,h⟩:=bif_pair h
  simp only [Bool.and_eq_true] at hg
  obtain ⟨q0,q1⟩:=hg
  obtain rfl:=ctsEq_eq _ _ q0
  obtain rfl:=ctsEq_eq _ _ q1
  obtain ⟨h1,rfl⟩:=pair_inj h
  exact (e7 a0 a1).trans ((brL (br (fun b=>some (AV.tup [AV.agg [AV.fl [.int .i64] (bif b then ([]:List AV) else (bif !(v31_0 a1) then ([]:List AV) else (ro (runW (R7_0 a1 (a1.length:Int)) (((a1.length:Int) - 0:Int).toNat+1) (0,(v32_0 a0),(v32_1 a0),(v32_2 a0),([]:List AV))) [] (fun p22=>p22.1)))),AV.fl [.int .i64] (bif b then ([]:List AV) else (bif !(v31_0 a1) then ([]:List AV) else (ro (runW (R7_0 a1 (a1.length:Int)) (((a1.length:Int) - 0:Int).toNat+1) (0,(v32_0 a0),(v32_1 a0),(v32_2 a0),([]:List AV))) [] (fun p22=>p22.2.1)))),AV.fl [.int .i64,.int .i64] (bif b then ([]:List AV) else (bif !(v31_0 a1) then ([]:List AV) else (ro (runW (R7_0 a1 (a1.length:Int)) (((a1.length:Int) - 0:Int).toNat+1) (0,(v32_0 a0),(v32_1 a0),(v32_2 a0),([]:List AV))) [] (fun p22=>p22.2.2.1))))],AV.fl [.int .i64,.int .i64,.int .i64,.int .i64] (bif b then ([]:List AV) else (bif !(v31_0 a1) then ([]:List AV) else (ro (runW (R7_0 a1 (a1.length:Int)) (((a1.length:Int) - 0:Int).toNat+1) (0,(v32_0 a0),(v32_1 a0),(v32_2 a0),([]:List AV))) [] (fun p22=>p22.2.2.2)))),AV.bool (bif b then false else (bif !(v31_0 a1) then false else true))])) (fun _=>rfl) (brL (br (fun b=>some (AV.tup [AV.agg [AV.fl [.int .i64] (bif b then ([]:List AV) else (ro (runW (R7_0 a1 (a1.length:Int)) (((a1.length:Int) - 0:Int).toNat+1) (0,(v32_0 a0),(v32_1 a0),(v32_2 a0),([]:List AV))) [] (fun p22=>p22.1))),AV.fl [.int .i64] (bif b then ([]:List AV) else (ro (runW (R7_0 a1 (a1.length:Int)) (((a1.length:Int) - 0:Int).toNat+1) (0,(v32_0 a0),(v32_1 a0),(v32_2 a0),([]:List AV))) [] (fun p22=>p22.2.1))),AV.fl [.int .i64,.int .i64] (bif b then ([]:List AV) else (ro (runW (R7_0 a1 (a1.length:Int)) (((a1.length:Int) - 0:Int).toNat+1) (0,(v32_0 a0),(v32_1 a0),(v32_2 a0),([]:List AV))) [] (fun p22=>p22.2.2.1)))],AV.fl [.int .i64,.int .i64,.int .i64,.int .i64] (bif b then ([]:List AV) else (ro (runW (R7_0 a1 (a1.length:Int)) (((a1.length:Int) - 0:Int).toNat+1) (0,(v32_0 a0),(v32_1 a0),(v32_2 a0),([]:List AV))) [] (fun p22=>p22.2.2.2))),AV.bool (bif b then false else true)])) (fun _=>rfl) (brL (brO (fun o:Option (((List AV) × (List AV) × (List AV) × (List AV)))=>some (AV.tup [AV.agg [AV.fl [.int .i64] (ro o [] (fun p22=>p22.1)),AV.fl [.int .i64] (ro o [] (fun p22=>p22.2.1)),AV.fl [.int .i64,.int .i64] (ro o [] (fun p22=>p22.2.2.1))],AV.fl [.int .i64,.int .i64,.int .i64,.int .i64] (ro o [] (fun p22=>p22.2.2.2)),AV.bool true])) (fun p22=>(fun _=>rfl)))))))) h1)
 ·cases h
def F37_0 (t0:List AV) (t3:Int):Out (Int) (Unit ⊕ Unit):=(bif decide (t3<(t0.length:Int)) then (bif (decide (0≤t3) && decide (t3<(t0.length:Int))) then (bif !(v52_0 (fI (t0.getD t3.toNat .undef) 0) (-1000) 1000) then .stop (.inr ())
 else .next (IntKind.i64.wrap (t3+1)))
 else .fail)
 else .stop (.inl ()))
def R37_0 (t0:List AV):(Int)→Out (Int) (Unit ⊕ Unit):=fun s:Int=>F37_0 t0 s
def E37_0 (t0:List AV):(Int)→St:=fun s:Int=>⟨[(0,AV.sl [.int .i64] t0),(3,Ai s)],[]⟩
def K37_0 (t0:List AV) (k:Kont):(Unit ⊕ Unit)→Option AV:=sumE (fun _:Unit=>k (.exit 0) ⟨[(0,AV.sl [.int .i64] t0)],[]⟩) (fun _:Unit=>k .ret ⟨[(2,AV.bool false)],[]⟩)
def l37_0:LModel:=fun _ _ st k=>match st with
 | ⟨[(0,.sl g0 t0),(3,.int .i64 t3)],[]⟩=>bif ctsEq g0 ([.int .i64]) then ro (runW (R37_0 t0) (((t0.length:Int) - t3:Int).toNat+1) t3) none (K37_0 t0 k) else none
 | _=>none
noncomputable def c37:Cfg:=cfg Try.prog [(37,0,[0,3]),(37,999,[2]),(37,1000,[0]),(37,1001,[0,3])] [(52,m52)] [] [] [(37,0,l37_0)]
theorem s37_0 (ce:CallE) (t0:List AV) (t3:Int) (next:St→Option AV) (k:Kont):stepA (codeA c37 ce [] 37 0 (sub [1,0,1,0,0] (body Try.f37))) (normA [] [0,3]) next ⟨[(0,AV.sl [.int .i64] t0),(3,Ai t3)],[]⟩ k=(bif decide (t3<(t0.length:Int)) then (bif (decide (0≤t3) && decide (t3<(t0.length:Int))) then (bif !(v52_0 (fI (t0.getD t3.toNat .undef) 0) (-1000) 1000) then k .ret ⟨[(2,AV.bool false)],[]⟩
 else next ⟨[(0,AV.sl [.int .i64] t0),(3,Ai (IntKind.i64.wrap (t3+1)))],[]⟩)
 else none)
 else k (.exit 0) ⟨[(0,AV.sl [.int .i64] t0)],[]⟩):=by kernel_rfl
theorem st37_0 (t0:List AV) (ce:CallE) (k:Kont) (s:Int) (next:St→Option AV):stepA (codeA c37 ce [] 37 0 (sub [1,0,1,0,0] (body Try.f37))) (normA [] [0,3]) next ((E37_0 t0) s) k=(R37_0 t0 s).el none (fun s=>next ((E37_0 t0) s)) (K37_0 t0 k):=(s37_0 ce t0 s next k).trans (by unfold R37_0;unfold F37_0;simp only [el_cond,el_ro,el_sum,el_fail,el_next,el_stop] <;> rfl)
theorem ok37_0 {ce:CallE}:LoopOK c37 ce [] 37 0 (sub [1,0,1,0,0] (body Try.f37)):=by
 intro m hm st k r h
 obtain rfl:l37_0=m:=Option.some.inj hm
 unfold l37_0 at h
 split at h
 ·rename_i g0 t0 t3
  obtain ⟨hg,h⟩:=bif_some h
  have q0:=hg
  obtain rfl:=ctsEq_eq _ _ q0
  refine ⟨(((t0.length:Int) - t3:Int).toNat+1),?_⟩
  rw [← h]
  exact loop_run (E37_0 t0) (K37_0 t0 k) (st37_0 t0 ce k) _ t3
 ·cases h
def q37 (a0:List AV):Bool:=(ro (runW (R37_0 a0) (((a0.length:Int) - 0:Int).toNat+1) 0) false (sumE (fun _=>true) (fun _=>true)))
def v37_0 (a0:List AV):Bool:=(ro (runW (R37_0 a0) (((a0.length:Int) - 0:Int).toNat+1) 0) false (sumE (fun _=>decide ((a0.length:Int)≤60)) (fun _=>false)))
theorem e37 (a0:List AV):funA c37 0 37 [AV.sl [.int .i64] a0]=(ro (runW (R37_0 a0) (((a0.length:Int) - 0:Int).toNat+1) 0) none (sumE (fun _=>some (AV.bool (decide ((a0.length:Int)≤60)))) (fun _=>some (AV.bool false)))):=by kernel_rfl
def m37:TModel
 | [.sl g0 a0]=>bif ctsEq g0 ([.int .i64]) then some (q37 a0,AV.bool (v37_0 a0)) else none
 | _=>none
theorem k37:Known Try.prog 37:=⟨Try.f37,Try.func37,by kernel_rfl,by kernel_rfl⟩
theorem meets37:Meets Try.prog 37 m37:=by
 refine meet (f:=Try.f37) (l:=[(0,sub [1,0,1,0,0] (body Try.f37))]) (hs:=[(37,0,[0,3]),(37,999,[2]),(37,1000,[0]),(37,1001,[0,3])]) (ts:=[(52,m52)]) (ws:=[]) (is:=[]) (ls:=[(37,0,l37_0)]) (lvl:=0) mixed k37 Try.func37 (by kernel_rfl) (loops_cons ok37_0 noLoop) (allT_cons meets52 allT_nil) allM_nil noI fun w xs us r hl hv h=>?_
 unfold m37 at h
 split at h
 ·rename_i g0 a0
  obtain ⟨hg,h⟩:=bif_pair h
  have q0:=hg
  obtain rfl:=ctsEq_eq _ _ q0
  obtain ⟨h1,rfl⟩:=pair_inj h
  exact (e37 a0).trans ((brO (fun o:Option (Unit ⊕ Unit)=>some (AV.bool (ro o false (sumE (fun _=>decide ((a0.length:Int)≤60)) (fun _=>false))))) (brS (fun o:Unit ⊕ Unit=>some (AV.bool ((sumE (fun _=>decide ((a0.length:Int)≤60)) (fun _=>false)) o))) (fun _=>(fun _=>rfl)) (fun _=>(fun _=>rfl)))) h1)
 ·cases h
def F73_0 (t1:Int) (h0_0 h0_1 h0_2:List AV) (t6:Int):Out (Int) (Unit ⊕ Int):=(bif decide (t6<(h0_2.length:Int)) then (bif (decide (0≤t6) && decide (t6<(h0_2.length:Int))) then (bif decide (fI (h0_2.getD t6.toNat .undef) 0=t1) then (bif (decide (0≤t6) && decide (t6<(h0_2.length:Int))) then .stop (.inr (fI (h0_2.getD t6.toNat .undef) 1))
 else .fail)
 else .next (IntKind.i64.wrap (t6+1)))
 else .fail)
 else .stop (.inl ()))
def R73_0 (t1:Int) (h0_0 h0_1 h0_2:List AV):(Int)→Out (Int) (Unit ⊕ Int):=fun s:Int=>F73_0 t1 h0_0 h0_1 h0_2 s
def E73_0 (t1:Int) (h0_0 h0_1 h0_2:List AV):(Int)→St:=fun s:Int=>⟨[(1,Ai t1),(2,AV.ptr [0,2] 0 0),(6,Ai s)],[([0,2],⟨true,[],[AV.agg [AV.sl [.int .i64] h0_0,AV.sl [.int .i64] h0_1,AV.sl [.int .i64,.int .i64] h0_2]]⟩)]⟩
def K73_0 (h0_0 h0_1 h0_2:List AV) (k:Kont):(Unit ⊕ Int)→Option AV:=sumE (fun _:Unit=>k (.exit 0) ⟨[],[([0,2],⟨true,[],[AV.agg [AV.sl [.int .i64] h0_0,AV.sl [.int .i64] h0_1,AV.sl [.int .i64,.int .i64] h0_2]]⟩)]⟩) (fun p:Int=>k .ret ⟨[(4,Ai p),(5,AV.bool true)],[([0,2],⟨true,[],[AV.agg [AV.sl [.int .i64] h0_0,AV.sl [.int .i64] h0_1,AV.sl [.int .i64,.int .i64] h0_2]]⟩)]⟩)
def l73_0:LModel:=fun _ _ st k=>match st with
 | ⟨[(1,.int .i64 t1),(2,.ptr g0 g1 g2),(6,.int .i64 t6)],[(g3,⟨true,[],[.agg [.sl g4 h0_0,.sl g5 h0_1,.sl g6 h0_2]]⟩)]⟩=>bif nmEq g0 ([0,2]) && Nat.beq g1 0 && Nat.beq g2 0 && nmEq g3 ([0,2]) && ctsEq g4 ([.int .i64]) && ctsEq g5 ([.int .i64]) && ctsEq g6 ([.int .i64,.int .i64]) then ro (runW (R73_0 t1 h0_0 h0_1 h0_2) (((h0_2.length:Int) - t6:Int).toNat+1) t6) none (K73_0 h0_0 h0_1 h0_2 k) else none
 | _=>none
noncomputable def c73:Cfg:=cfg Try.prog [(73,0,[1,2,6]),(73,999,[4,5]),(73,1000,[]),(73,1001,[1,2,6])] [] [] [] [(73,0,l73_0)]
theorem s73_0 (ce:CallE) (t1 t6:Int) (h0_0 h0_1 h0_2:List AV) (next:St→Option AV) (k:Kont):stepA (codeA c73 ce [] 73 0 (sub [1,0,1,0,0] (body Try.f73))) (normA [] [1,2,6]) next ⟨[(1,Ai t1),(2,AV.ptr [0,2] 0 0),(6,Ai t6)],[([0,2],⟨true,[],[AV.agg [AV.sl [.int .i64] h0_0,AV.sl [.int .i64] h0_1,AV.sl [.int .i64,.int .i64] h0_2]]⟩)]⟩ k=(bif decide (t6<(h0_2.length:Int)) then (bif (decide (0≤t6) && decide (t6<(h0_2.length:Int))) then (bif decide (fI (h0_2.getD t6.toNat .undef) 0=t1) then (bif (decide (0≤t6) && decide (t6<(h0_2.length:Int))) then k .ret ⟨[(4,Ai (fI (h0_2.getD t6.toNat .undef) 1)),(5,AV.bool true)],[([0,2],⟨true,[],[AV.agg [AV.sl [.int .i64] h0_0,AV.sl [.int .i64] h0_1,AV.sl [.int .i64,.int .i64] h0_2]]⟩)]⟩
 else none)
 else next ⟨[(1,Ai t1),(2,AV.ptr [0,2] 0 0),(6,Ai (IntKind.i64.wrap (t6+1)))],[([0,2],⟨true,[],[AV.agg [AV.sl [.int .i64] h0_0,AV.sl [.int .i64] h0_1,AV.sl [.int .i64,.int .i64] h0_2]]⟩)]⟩)
 else none)
 else k (.exit 0) ⟨[],[([0,2],⟨true,[],[AV.agg [AV.sl [.int .i64] h0_0,AV.sl [.int .i64] h0_1,AV.sl [.int .i64,.int .i64] h0_2]]⟩)]⟩):=by kernel_rfl
theorem st73_0 (t1:Int) (h0_0 h0_1 h0_2:List AV) (ce:CallE) (k:Kont) (s:Int) (next:St→Option AV):stepA (codeA c73 ce [] 73 0 (sub [1,0,1,0,0] (body Try.f73))) (normA [] [1,2,6]) next ((E73_0 t1 h0_0 h0_1 h0_2) s) k=(R73_0 t1 h0_0 h0_1 h0_2 s).el none (fun s=>next ((E73_0 t1 h0_0 h0_1 h0_2) s)) (K73_0 h0_0 h0_1 h0_2 k):=(s73_0 ce t1 s h0_0 h0_1 h0_2 next k).trans (by unfold R73_0;unfold F73_0;simp only [el_cond,el_ro,el_sum,el_fail,el_next,el_stop] <;> rfl)
theorem ok73_0 {ce:CallE}:LoopOK c73 ce [] 73 0 (sub [1,0,1,0,0] (body Try.f73)):=by
 intro m hm st k r h
 obtain rfl:l73_0=m:=Option.some.inj hm
 unfold l73_0 at h
 split at h
 ·rename_i t1 g0 g1 g2 t6 g3 g4 h0_0 g5 h0_1 g6 h0_2
  obtain ⟨hg,h⟩:=bif_some h
  simp only [Bool.and_eq_true] at hg
  obtain ⟨⟨⟨⟨⟨⟨q0,q1⟩,q2⟩,q3⟩,q4⟩,q5⟩,q6⟩:=hg
  obtain rfl:=(nmEq_iff _ _).1 q0
  obtain rfl:=Nat.eq_of_beq_eq_true q1
  obtain rfl:=Nat.eq_of_beq_eq_true q2
  obtain rfl:=(nmEq_iff _ _).1 q3
  obtain rfl:=ctsEq_eq _ _ q4
  obtain rfl:=ctsEq_eq _ _ q5
  obtain rfl:=ctsEq_eq _ _ q6
  refine ⟨(((h0_2.length:Int) - t6:Int).toNat+1),?_⟩
  rw [← h]
  exact loop_run (E73_0 t1 h0_0 h0_1 h0_2) (K73_0 h0_0 h0_1 h0_2 k) (st73_0 t1 h0_0 h0_1 h0_2 ce k) _ t6
 ·cases h
def q73 (xa xb xc:List AV) (a1:Int):Bool:=(ro (runW (R73_0 a1 xa xb xc) (((xc.length:Int) - 0:Int).toNat+1) 0) false (sumE (fun _=>true) (fun p26=>true)))
def v73_0 (xa xb xc:List AV) (a1:Int):Int:=(ro (runW (R73_0 a1 xa xb xc) (((xc.length:Int) - 0:Int).toNat+1) 0) 0 (sumE (fun _=>0) (fun p26=>p26)))
def v73_1 (xa xb xc:List AV) (a1:Int):Bool:=(ro (runW (R73_0 a1 xa xb xc) (((xc.length:Int) - 0:Int).toNat+1) 0) false (sumE (fun _=>false) (fun p26=>true)))
theorem e73 (xa xb xc:List AV) (a1:Int):funA c73 0 73 [AV.agg [AV.sl [.int .i64] xa,AV.sl [.int .i64] xb,AV.sl [.int .i64,.int .i64] xc],Ai a1]=(ro (runW (R73_0 a1 xa xb xc) (((xc.length:Int) - 0:Int).toNat+1) 0) none (sumE (fun _=>some (AV.tup [Ai 0,AV.bool false])) (fun p26=>some (AV.tup [Ai p26,AV.bool true])))):=by kernel_rfl
def m73:TModel
 | [.agg [.sl g0 xa,.sl g1 xb,.sl g2 xc],.int .i64 a1]=>bif ctsEq g0 ([.int .i64]) && ctsEq g1 ([.int .i64]) && ctsEq g2 ([.int .i64,.int .i64]) then some (q73 xa xb xc a1,AV.tup [AV.int .i64 (v73_0 xa xb xc a1),AV.bool (v73_1 xa xb xc a1)]) else none
 | _=>none
theorem k73:Known Try.prog 73:=⟨Try.f73,Try.func73,by kernel_rfl,by kernel_rfl⟩
theorem meets73:Meets Try.prog 73 m73:=by
 refine meet (f:=Try.f73) (l:=[(0,sub [1,0,1,0,0] (body Try.f73))]) (hs:=[(73,0,[1,2,6]),(73,999,[4,5]),(73,1000,[]),(73,1001,[1,2,6])]) (ts:=[]) (ws:=[]) (is:=[]) (ls:=[(73,0,l73_0)]) (lvl:=0) mixed k73 Try.func73 (by kernel_rfl) (loops_cons ok73_0 noLoop) allT_nil allM_nil noI fun w xs us r hl hv h=>?_
 unfold m73 at h
 split at h
 ·rename_i g0 xa g1 xb g2 xc a1
  obtain ⟨hg,h⟩:=bif_pair h
  simp only [Bool.and_eq_true] at hg
  obtain ⟨⟨q0,q1⟩,q2⟩:=hg
  obtain rfl:=ctsEq_eq _ _ q0
  obtain rfl:=ctsEq_eq _ _ q1
  obtain rfl:=ctsEq_eq _ _ q2
  obtain ⟨h1,rfl⟩:=pair_inj h
  exact (e73 xa xb xc a1).trans ((brO (fun o:Option (Unit ⊕ Int)=>some (AV.tup [Ai (ro o 0 (sumE (fun _=>0) (fun p26=>p26))),AV.bool (ro o false (sumE (fun _=>false) (fun p26=>true)))])) (brS (fun o:Unit ⊕ Int=>some (AV.tup [Ai ((sumE (fun _=>0) (fun p26=>p26)) o),AV.bool ((sumE (fun _=>false) (fun p26=>true)) o)])) (fun _=>(fun _=>rfl)) (fun p26=>(fun _=>rfl)))) h1)
 ·cases h
def F56_0 (t0:List AV) (t1 t5:Int):Out (Int) (Unit ⊕ Unit):=(bif decide (t5<(t0.length:Int)) then (bif (decide (0≤t5) && decide (t5<(t0.length:Int))) then (bif decide (fI (t0.getD t5.toNat .undef) 0=t1) then .stop (.inr ())
 else .next (IntKind.i64.wrap (t5+1)))
 else .fail)
 else .stop (.inl ()))
def R56_0 (t0:List AV) (t1:Int):(Int)→Out (Int) (Unit ⊕ Unit):=fun s:Int=>F56_0 t0 t1 s
def E56_0 (t0:List AV) (t1:Int):(Int)→St:=fun s:Int=>⟨[(0,AV.sl [.int .i64] t0),(1,Ai t1),(5,Ai s)],[]⟩
def K56_0 (k:Kont):(Unit ⊕ Unit)→Option AV:=sumE (fun _:Unit=>k (.exit 0) ⟨[],[]⟩) (fun _:Unit=>k .ret ⟨[(4,AV.bool true)],[]⟩)
def l56_0:LModel:=fun _ _ st k=>match st with
 | ⟨[(0,.sl g0 t0),(1,.int .i64 t1),(5,.int .i64 t5)],[]⟩=>bif ctsEq g0 ([.int .i64]) then ro (runW (R56_0 t0 t1) (((t0.length:Int) - t5:Int).toNat+1) t5) none (K56_0 k) else none
 | _=>none
noncomputable def c56:Cfg:=cfg Try.prog [(56,0,[0,1,5]),(56,999,[4]),(56,1000,[]),(56,1001,[0,1,5])] [] [] [] [(56,0,l56_0)]
theorem s56_0 (ce:CallE) (t0:List AV) (t1 t5:Int) (next:St→Option AV) (k:Kont):stepA (codeA c56 ce [] 56 0 (sub [1,0,1,0,0] (body Try.f56))) (normA [] [0,1,5]) next ⟨[(0,AV.sl [.int .i64] t0),(1,Ai t1),(5,Ai t5)],[]⟩ k=(bif decide (t5<(t0.length:Int)) then (bif (decide (0≤t5) && decide (t5<(t0.length:Int))) then (bif decide (fI (t0.getD t5.toNat .undef) 0=t1) then k .ret ⟨[(4,AV.bool true)],[]⟩
 else next ⟨[(0,AV.sl [.int .i64] t0),(1,Ai t1),(5,Ai (IntKind.i64.wrap (t5+1)))],[]⟩)
 else none)
 else k (.exit 0) ⟨[],[]⟩):=by kernel_rfl
theorem st56_0 (t0:List AV) (t1:Int) (ce:CallE) (k:Kont) (s:Int) (next:St→Option AV):stepA (codeA c56 ce [] 56 0 (sub [1,0,1,0,0] (body Try.f56))) (normA [] [0,1,5]) next ((E56_0 t0 t1) s) k=(R56_0 t0 t1 s).el none (fun s=>next ((E56_0 t0 t1) s)) (K56_0 k):=(s56_0 ce t0 t1 s next k).trans (by unfold R56_0;unfold F56_0;simp only [el_cond,el_ro,el_sum,el_fail,el_next,el_stop] <;> rfl)
theorem ok56_0 {ce:CallE}:LoopOK c56 ce [] 56 0 (sub [1,0,1,0,0] (body Try.f56)):=by
 intro m hm st k r h
 obtain rfl:l56_0=m:=Option.some.inj hm
 unfold l56_0 at h
 split at h
 ·rename_i g0 t0 t1 t5
  obtain ⟨hg,h⟩:=bif_some h
  have q0:=hg
  obtain rfl:=ctsEq_eq _ _ q0
  refine ⟨(((t0.length:Int) - t5:Int).toNat+1),?_⟩
  rw [← h]
  exact loop_run (E56_0 t0 t1) (K56_0 k) (st56_0 t0 t1 ce k) _ t5
 ·cases h
def q56 (a0:List AV) (a1:Int):Bool:=(ro (runW (R56_0 a0 a1) (((a0.length:Int) - 0:Int).toNat+1) 0) false (sumE (fun _=>true) (fun _=>true)))
def v56_0 (a0:List AV) (a1:Int):Bool:=(ro (runW (R56_0 a0 a1) (((a0.length:Int) - 0:Int).toNat+1) 0) false (sumE (fun _=>false) (fun _=>true)))
theorem e56 (a0:List AV) (a1:Int):funA c56 0 56 [AV.sl [.int .i64] a0,Ai a1]=(ro (runW (R56_0 a0 a1) (((a0.length:Int) - 0:Int).toNat+1) 0) none (sumE (fun _=>some (AV.bool false)) (fun _=>some (AV.bool true)))):=by kernel_rfl
def m56:TModel
 | [.sl g0 a0,.int .i64 a1]=>bif ctsEq g0 ([.int .i64]) then some (q56 a0 a1,AV.bool (v56_0 a0 a1)) else none
 | _=>none
theorem k56:Known Try.prog 56:=⟨Try.f56,Try.func56,by kernel_rfl,by kernel_rfl⟩
theorem meets56:Meets Try.prog 56 m56:=by
 refine meet (f:=Try.f56) (l:=[(0,sub [1,0,1,0,0] (body Try.f56))]) (hs:=[(56,0,[0,1,5]),(56,999,[4]),(56,1000,[]),(56,1001,[0,1,5])]) (ts:=[]) (ws:=[]) (is:=[]) (ls:=[(56,0,l56_0)]) (lvl:=0) mixed k56 Try.func56 (by kernel_rfl) (loops_cons ok56_0 noLoop) allT_nil allM_nil noI fun w xs us r hl hv h=>?_
 unfold m56 at h
 split at h
 ·rename_i g0 a0 a1
  obtain ⟨hg,h⟩:=bif_pair h
  have q0:=hg
  obtain rfl:=ctsEq_eq _ _ q0
  obtain ⟨h1,rfl⟩:=pair_inj h
  exact (e56 a0 a1).trans ((brO (fun o:Option (Unit ⊕ Unit)=>some (AV.bool (ro o false (sumE (fun _=>false) (fun _=>true))))) (brS (fun o:Unit ⊕ Unit=>some (AV.bool ((sumE (fun _=>false) (fun _=>true)) o))) (fun _=>(fun _=>rfl)) (fun _=>(fun _=>rfl)))) h1)
 ·cases h
def F91_2 (t0 t1:List AV) (t5 h0_0 h0_1 t7:Int):Out (Int) (Unit ⊕ Unit):=(bif decide (t7<(t0.length:Int)) then (bif (decide (0≤t7) && decide (t7<(t0.length:Int))) then (bif !(decide (fI (t0.getD t7.toNat .undef) 0<h0_0) == decide (t7<h0_1)) then .stop (.inr ())
 else .next (IntKind.i64.wrap (t7+1)))
 else .fail)
 else .stop (.inl ()))
def R91_2 (t0 t1:List AV) (t5 h0_0 h0_1:Int):(Int)→Out (Int) (Unit ⊕ Unit):=fun s:Int=>F91_2 t0 t1 t5 h0_0 h0_1 s
def E91_2 (t0 t1:List AV) (t5 h0_0 h0_1:Int):(Int)→St:=fun s:Int=>⟨[(0,AV.sl [.int .i64] t0),(1,AV.sl [.int .i64,.int .i64] t1),(5,Ai t5),(6,AV.ptr [0,6] 0 0),(7,Ai s)],[([0,6],⟨true,[],[AV.agg [Ai h0_0,Ai h0_1]]⟩)]⟩
def K91_2 (t0 t1:List AV) (t5 h0_0 h0_1:Int) (k:Kont):(Unit ⊕ Unit)→Option AV:=sumE (fun _:Unit=>k (.exit 2) ⟨[(0,AV.sl [.int .i64] t0),(1,AV.sl [.int .i64,.int .i64] t1),(5,Ai t5)],[([0,6],⟨true,[],[AV.agg [Ai h0_0,Ai h0_1]]⟩)]⟩) (fun _:Unit=>k .ret ⟨[(4,AV.bool false)],[([0,6],⟨true,[],[AV.agg [Ai h0_0,Ai h0_1]]⟩)]⟩)
def l91_2:LModel:=fun _ _ st k=>match st with
 | ⟨[(0,.sl g0 t0),(1,.sl g1 t1),(5,.int .i64 t5),(6,.ptr g2 g3 g4),(7,.int .i64 t7)],[(g5,⟨true,[],[.agg [.int .i64 h0_0,.int .i64 h0_1]]⟩)]⟩=>bif ctsEq g0 ([.int .i64]) && ctsEq g1 ([.int .i64,.int .i64]) && nmEq g2 ([0,6]) && Nat.beq g3 0 && Nat.beq g4 0 && nmEq g5 ([0,6]) then ro (runW (R91_2 t0 t1 t5 h0_0 h0_1) (((t0.length:Int) - t7:Int).toNat+1) t7) none (K91_2 t0 t1 t5 h0_0 h0_1 k) else none
 | _=>none
def F91_0 (t0 t1:List AV) (t5:Int):Out (Int) (Unit ⊕ (Int × Int) ⊕ (Int × Int)):=(bif decide (t5<(t1.length:Int)) then (bif (decide (0≤t5) && decide (t5<(t1.length:Int))) then (bif !(v52_0 (fI (t1.getD t5.toNat .undef) 0) (-1000) 1000) then .stop (.inr (.inl (fI (t1.getD t5.toNat .undef) 0,fI (t1.getD t5.toNat .undef) 1)))
 else (bif !(v52_0 (fI (t1.getD t5.toNat .undef) 1) 0 (t0.length:Int)) then .stop (.inr (.inl (fI (t1.getD t5.toNat .undef) 0,fI (t1.getD t5.toNat .undef) 1)))
 else (bif decide (t5 > 0) then (bif (decide (0≤IntKind.i64.wrap (t5 - 1)) && decide (IntKind.i64.wrap (t5 - 1)<(t1.length:Int))) then (bif decide (fI (t1.getD t5.toNat .undef) 0≤fI (t1.getD (IntKind.i64.wrap (t5 - 1)).toNat .undef) 0) then .stop (.inr (.inl (fI (t1.getD t5.toNat .undef) 0,fI (t1.getD t5.toNat .undef) 1)))
 else (bif (decide (0≤IntKind.i64.wrap (t5 - 1)) && decide (IntKind.i64.wrap (t5 - 1)<(t1.length:Int))) then (bif decide (fI (t1.getD t5.toNat .undef) 1<fI (t1.getD (IntKind.i64.wrap (t5 - 1)).toNat .undef) 1) then .stop (.inr (.inl (fI (t1.getD t5.toNat .undef) 0,fI (t1.getD t5.toNat .undef) 1)))
 else (ro (runW (R91_2 t0 t1 t5 (fI (t1.getD t5.toNat .undef) 0) (fI (t1.getD t5.toNat .undef) 1)) (((t0.length:Int) - 0:Int).toNat+1) 0) .fail (sumE (fun _ => .next (IntKind.i64.wrap (t5+1))) (fun _ => .stop (.inr (.inr (fI (t1.getD t5.toNat .undef) 0,fI (t1.getD t5.toNat .undef) 1)))))))
 else .fail))
 else .fail)
 else (ro (runW (R91_2 t0 t1 t5 (fI (t1.getD t5.toNat .undef) 0) (fI (t1.getD t5.toNat .undef) 1)) (((t0.length:Int) - 0:Int).toNat+1) 0) .fail (sumE (fun _ => .next (IntKind.i64.wrap (t5+1))) (fun _ => .stop (.inr (.inr (fI (t1.getD t5.toNat .undef) 0,fI (t1.getD t5.toNat .undef) 1)))))))))
 else .fail)
 else .stop (.inl ()))
def R91_0 (t0 t1:List AV):(Int)→Out (Int) (Unit ⊕ (Int × Int) ⊕ (Int × Int)):=fun s:Int=>F91_0 t0 t1 s
def E91_0 (t0 t1:List AV):(Int)→St:=fun s:Int=>⟨[(0,AV.sl [.int .i64] t0),(1,AV.sl [.int .i64,.int .i64] t1),(5,Ai s)],[]⟩
def K91_0 (k:Kont):(Unit ⊕ (Int × Int) ⊕ (Int × Int))→Option AV:=sumE (fun _:Unit=>k (.exit 0) ⟨[],[]⟩) (sumE (fun p:Int × Int=>k .ret ⟨[(4,AV.bool false)],[([1,6],⟨true,[],[AV.agg [Ai p.1,Ai p.2]]⟩)]⟩) (fun p:Int × Int=>k .ret ⟨[(4,AV.bool false)],[([0,6],⟨true,[],[AV.agg [Ai p.1,Ai p.2]]⟩)]⟩))
def l91_0:LModel:=fun _ _ st k=>match st with
 | ⟨[(0,.sl g0 t0),(1,.sl g1 t1),(5,.int .i64 t5)],[]⟩=>bif ctsEq g0 ([.int .i64]) && ctsEq g1 ([.int .i64,.int .i64]) then ro (runW (R91_0 t0 t1) (((t1.length:Int) - t5:Int).toNat+1) t5) none (K91_0 k) else none
 | _=>none
noncomputable def c91:Cfg:=cfg Try.prog [(91,0,[0,1,5]),(91,2,[0,1,5,6,7]),(91,999,[4]),(91,1000,[]),(91,1001,[0,1,5]),(91,1002,[0,1,5]),(91,1003,[0,1,5,6,7])] [(52,m52)] [] [] [(91,0,l91_0),(91,2,l91_2)]
theorem s91_2 (ce:CallE) (t0 t1:List AV) (t5 t7 h0_0 h0_1:Int) (next:St→Option AV) (k:Kont):stepA (codeA c91 ce [] 91 2 (sub [1,0,1,0,0,1,0,0,1,1,1,0,0] (body Try.f91))) (normA [] [0,1,5,6,7]) next ⟨[(0,AV.sl [.int .i64] t0),(1,AV.sl [.int .i64,.int .i64] t1),(5,Ai t5),(6,AV.ptr [0,6] 0 0),(7,Ai t7)],[([0,6],⟨true,[],[AV.agg [Ai h0_0,Ai h0_1]]⟩)]⟩ k=(bif decide (t7<(t0.length:Int)) then (bif (decide (0≤t7) && decide (t7<(t0.length:Int))) then (bif !(decide (fI (t0.getD t7.toNat .undef) 0<h0_0) == decide (t7<h0_1)) then k .ret ⟨[(4,AV.bool false)],[([0,6],⟨true,[],[AV.agg [Ai h0_0,Ai h0_1]]⟩)]⟩
 else next ⟨[(0,AV.sl [.int .i64] t0),(1,AV.sl [.int .i64,.int .i64] t1),(5,Ai t5),(6,AV.ptr [0,6] 0 0),(7,Ai (IntKind.i64.wrap (t7+1)))],[([0,6],⟨true,[],[AV.agg [Ai h0_0,Ai h0_1]]⟩)]⟩)
 else none)
 else k (.exit 2) ⟨[(0,AV.sl [.int .i64] t0),(1,AV.sl [.int .i64,.int .i64] t1),(5,Ai t5)],[([0,6],⟨true,[],[AV.agg [Ai h0_0,Ai h0_1]]⟩)]⟩):=by kernel_rfl
theorem st91_2 (t0 t1:List AV) (t5 h0_0 h0_1:Int) (ce:CallE) (k:Kont) (s:Int) (next:St→Option AV):stepA (codeA c91 ce [] 91 2 (sub [1,0,1,0,0,1,0,0,1,1,1,0,0] (body Try.f91))) (normA [] [0,1,5,6,7]) next ((E91_2 t0 t1 t5 h0_0 h0_1) s) k=(R91_2 t0 t1 t5 h0_0 h0_1 s).el none (fun s=>next ((E91_2 t0 t1 t5 h0_0 h0_1) s)) (K91_2 t0 t1 t5 h0_0 h0_1 k):=(s91_2 ce t0 t1 t5 s h0_0 h0_1 next k).trans (by unfold R91_2;unfold F91_2;simp only [el_cond,el_ro,el_sum,el_fail,el_next,el_stop] <;> rfl)
theorem ok91_2 {ce:CallE}:LoopOK c91 ce [] 91 2 (sub [1,0,1,0,0,1,0,0,1,1,1,0,0] (body Try.f91)):=by
 intro m hm st k r h
 obtain rfl:l91_2=m:=Option.some.inj hm
 unfold l91_2 at h
 split at h
 ·rename_i g0 t0 g1 t1 t5 g2 g3 g4 t7 g5 h0_0 h0_1
  obtain ⟨hg,h⟩:=bif_some h
  simp only [Bool.and_eq_true] at hg
  obtain ⟨⟨⟨⟨⟨q0,q1⟩,q2⟩,q3⟩,q4⟩,q5⟩:=hg
  obtain rfl:=ctsEq_eq _ _ q0
  obtain rfl:=ctsEq_eq _ _ q1
  obtain rfl:=(nmEq_iff _ _).1 q2
  obtain rfl:=Nat.eq_of_beq_eq_true q3
  obtain rfl:=Nat.eq_of_beq_eq_true q4
  obtain rfl:=(nmEq_iff _ _).1 q5
  refine ⟨(((t0.length:Int) - t7:Int).toNat+1),?_⟩
  rw [← h]
  exact loop_run (E91_2 t0 t1 t5 h0_0 h0_1) (K91_2 t0 t1 t5 h0_0 h0_1 k) (st91_2 t0 t1 t5 h0_0 h0_1 ce k) _ t7
 ·cases h
theorem s91_0 (ce:CallE) (t0 t1:List AV) (t5:Int) (next:St→Option AV) (k:Kont):stepA (codeA c91 ce [] 91 0 (sub [1,0,1,0,0] (body Try.f91))) (normA [] [0,1,5]) next ⟨[(0,AV.sl [.int .i64] t0),(1,AV.sl [.int .i64,.int .i64] t1),(5,Ai t5)],[]⟩ k=(bif decide (t5<(t1.length:Int)) then (bif (decide (0≤t5) && decide (t5<(t1.length:Int))) then (bif !(v52_0 (fI (t1.getD t5.toNat .undef) 0) (-1000) 1000) then k .ret ⟨[(4,AV.bool false)],[([1,6],⟨true,[],[AV.agg [Ai (fI (t1.getD t5.toNat .undef) 0),Ai (fI (t1.getD t5.toNat .undef) 1)]]⟩)]⟩
 else (bif !(v52_0 (fI (t1.getD t5.toNat .undef) 1) 0 (t0.length:Int)) then k .ret ⟨[(4,AV.bool false)],[([1,6],⟨true,[],[AV.agg [Ai (fI (t1.getD t5.toNat .undef) 0),Ai (fI (t1.getD t5.toNat .undef) 1)]]⟩)]⟩
 else (bif decide (t5 > 0) then (bif (decide (0≤IntKind.i64.wrap (t5 - 1)) && decide (IntKind.i64.wrap (t5 - 1)<(t1.length:Int))) then (bif decide (fI (t1.getD t5.toNat .undef) 0≤fI (t1.getD (IntKind.i64.wrap (t5 - 1)).toNat .undef) 0) then k .ret ⟨[(4,AV.bool false)],[([1,6],⟨true,[],[AV.agg [Ai (fI (t1.getD t5.toNat .undef) 0),Ai (fI (t1.getD t5.toNat .undef) 1)]]⟩)]⟩
 else (bif (decide (0≤IntKind.i64.wrap (t5 - 1)) && decide (IntKind.i64.wrap (t5 - 1)<(t1.length:Int))) then (bif decide (fI (t1.getD t5.toNat .undef) 1<fI (t1.getD (IntKind.i64.wrap (t5 - 1)).toNat .undef) 1) then k .ret ⟨[(4,AV.bool false)],[([1,6],⟨true,[],[AV.agg [Ai (fI (t1.getD t5.toNat .undef) 0),Ai (fI (t1.getD t5.toNat .undef) 1)]]⟩)]⟩
 else (ro (runW (R91_2 t0 t1 t5 (fI (t1.getD t5.toNat .undef) 0) (fI (t1.getD t5.toNat .undef) 1)) (((t0.length:Int) - 0:Int).toNat+1) 0) none (sumE (fun _=>next ⟨[(0,AV.sl [.int .i64] t0),(1,AV.sl [.int .i64,.int .i64] t1),(5,Ai (IntKind.i64.wrap (t5+1)))],[]⟩) (fun _=>k .ret ⟨[(4,AV.bool false)],[([0,6],⟨true,[],[AV.agg [Ai (fI (t1.getD t5.toNat .undef) 0),Ai (fI (t1.getD t5.toNat .undef) 1)]]⟩)]⟩))))
 else none))
 else none)
 else (ro (runW (R91_2 t0 t1 t5 (fI (t1.getD t5.toNat .undef) 0) (fI (t1.getD t5.toNat .undef) 1)) (((t0.length:Int) - 0:Int).toNat+1) 0) none (sumE (fun _=>next ⟨[(0,AV.sl [.int .i64] t0),(1,AV.sl [.int .i64,.int .i64] t1),(5,Ai (IntKind.i64.wrap (t5+1)))],[]⟩) (fun _=>k .ret ⟨[(4,AV.bool false)],[([0,6],⟨true,[],[AV.agg [Ai (fI (t1.getD t5.toNat .undef) 0),Ai (fI (t1.getD t5.toNat .undef) 1)]]⟩)]⟩))))))
 else none)
 else k (.exit 0) ⟨[],[]⟩):=by kernel_rfl
theorem st91_0 (t0 t1:List AV) (ce:CallE) (k:Kont) (s:Int) (next:St→Option AV):stepA (codeA c91 ce [] 91 0 (sub [1,0,1,0,0] (body Try.f91))) (normA [] [0,1,5]) next ((E91_0 t0 t1) s) k=(R91_0 t0 t1 s).el none (fun s=>next ((E91_0 t0 t1) s)) (K91_0 k):=(s91_0 ce t0 t1 s next k).trans (by unfold R91_0;unfold F91_0;simp only [el_cond,el_ro,el_sum,el_fail,el_next,el_stop] <;> rfl)
theorem ok91_0 {ce:CallE}:LoopOK c91 ce [] 91 0 (sub [1,0,1,0,0] (body Try.f91)):=by
 intro m hm st k r h
 obtain rfl:l91_0=m:=Option.some.inj hm
 unfold l91_0 at h
 split at h
 ·rename_i g0 t0 g1 t1 t5
  obtain ⟨hg,h⟩:=bif_some h
  simp only [Bool.and_eq_true] at hg
  obtain ⟨q0,q1⟩:=hg
  obtain rfl:=ctsEq_eq _ _ q0
  obtain rfl:=ctsEq_eq _ _ q1
  refine ⟨(((t1.length:Int) - t5:Int).toNat+1),?_⟩
  rw [← h]
  exact loop_run (E91_0 t0 t1) (K91_0 k) (st91_0 t0 t1 ce k) _ t5
 ·cases h
def q91 (a0 a1:List AV):Bool:=(ro (runW (R91_0 a0 a1) (((a1.length:Int) - 0:Int).toNat+1) 0) false (sumE (fun _=>true) (sumE (fun p35=>true) (fun p36=>true))))
def v91_0 (a0 a1:List AV):Bool:=(ro (runW (R91_0 a0 a1) (((a1.length:Int) - 0:Int).toNat+1) 0) false (sumE (fun _=>true) (sumE (fun p35=>false) (fun p36=>false))))
theorem e91 (a0 a1:List AV):funA c91 0 91 [AV.sl [.int .i64] a0,AV.sl [.int .i64,.int .i64] a1]=(ro (runW (R91_0 a0 a1) (((a1.length:Int) - 0:Int).toNat+1) 0) none (sumE (fun _=>some (AV.bool true)) (sumE (fun p35=>some (AV.bool false)) (fun p36=>some (AV.bool false))))):=by kernel_rfl
def m91:TModel
 | [.sl g0 a0,.sl g1 a1]=>bif ctsEq g0 ([.int .i64]) && ctsEq g1 ([.int .i64,.int .i64]) then some (q91 a0 a1,AV.bool (v91_0 a0 a1)) else none
 | _=>none
theorem k91:Known Try.prog 91:=⟨Try.f91,Try.func91,by kernel_rfl,by kernel_rfl⟩
theorem meets91:Meets Try.prog 91 m91:=by
 refine meet (f:=Try.f91) (l:=[(0,sub [1,0,1,0,0] (body Try.f91)),(2,sub [1,0,1,0,0,1,0,0,1,1,1,0,0] (body Try.f91))]) (hs:=[(91,0,[0,1,5]),(91,2,[0,1,5,6,7]),(91,999,[4]),(91,1000,[]),(91,1001,[0,1,5]),(91,1002,[0,1,5]),(91,1003,[0,1,5,6,7])]) (ts:=[(52,m52)]) (ws:=[]) (is:=[]) (ls:=[(91,0,l91_0),(91,2,l91_2)]) (lvl:=0) mixed k91 Try.func91 (by kernel_rfl) (loops_cons ok91_0 (loops_cons ok91_2 noLoop)) (allT_cons meets52 allT_nil) allM_nil noI fun w xs us r hl hv h=>?_
 unfold m91 at h
 split at h
 ·rename_i g0 a0 g1 a1
  obtain ⟨hg,h⟩:=bif_pair h
  simp only [Bool.and_eq_true] at hg
  obtain ⟨q0,q1⟩:=hg
  obtain rfl:=ctsEq_eq _ _ q0
  obtain rfl:=ctsEq_eq _ _ q1
  obtain ⟨h1,rfl⟩:=pair_inj h
  exact (e91 a0 a1).trans ((brO (fun o:Option (Unit ⊕ (Int × Int) ⊕ (Int × Int))=>some (AV.bool (ro o false (sumE (fun _=>true) (sumE (fun p35=>false) (fun p36=>false)))))) (brS (fun o:Unit ⊕ (Int × Int) ⊕ (Int × Int)=>some (AV.bool ((sumE (fun _=>true) (sumE (fun p35=>false) (fun p36=>false))) o))) (fun _=>(fun _=>rfl)) (brS (fun o:(Int × Int) ⊕ (Int × Int)=>some (AV.bool ((sumE (fun p35=>false) (fun p36=>false)) o))) (fun p35=>(fun _=>rfl)) (fun p36=>(fun _=>rfl))))) h1)
 ·cases h
def F51_0 (h0_0 h0_1 h0_2:List AV) (t3:Int):Out (Int) (Unit ⊕ Unit):=(bif decide (t3<(h0_1.length:Int)) then (bif (decide (0≤t3) && decide (t3<(h0_1.length:Int))) then (bif !(v52_0 (fI (h0_1.getD t3.toNat .undef) 0) 0 999) then .stop (.inr ())
 else (bif (decide (0≤0) && decide (0≤t3) && decide (t3≤(h0_1.length:Int))) then (bif (decide (0≤t3) && decide (t3<(h0_1.length:Int))) then (bif q56 ((h0_1.take (Int.toNat t3)).drop (Int.toNat 0)) (fI (h0_1.getD t3.toNat .undef) 0) then (bif (v56_0 ((h0_1.take (Int.toNat t3)).drop (Int.toNat 0)) (fI (h0_1.getD t3.toNat .undef) 0)) then .stop (.inr ())
 else .next (IntKind.i64.wrap (t3+1)))
 else .fail)
 else .fail)
 else .fail))
 else .fail)
 else .stop (.inl ()))
def R51_0 (h0_0 h0_1 h0_2:List AV):(Int)→Out (Int) (Unit ⊕ Unit):=fun s:Int=>F51_0 h0_0 h0_1 h0_2 s
def E51_0 (h0_0 h0_1 h0_2:List AV):(Int)→St:=fun s:Int=>⟨[(1,AV.ptr [0,1] 0 0),(3,Ai s)],[([0,1],⟨true,[],[AV.agg [AV.sl [.int .i64] h0_0,AV.sl [.int .i64] h0_1,AV.sl [.int .i64,.int .i64] h0_2]]⟩)]⟩
def K51_0 (h0_0 h0_1 h0_2:List AV) (k:Kont):(Unit ⊕ Unit)→Option AV:=sumE (fun _:Unit=>k (.exit 0) ⟨[(1,AV.ptr [0,1] 0 0)],[([0,1],⟨true,[],[AV.agg [AV.sl [.int .i64] h0_0,AV.sl [.int .i64] h0_1,AV.sl [.int .i64,.int .i64] h0_2]]⟩)]⟩) (fun _:Unit=>k .ret ⟨[(2,AV.bool false)],[([0,1],⟨true,[],[AV.agg [AV.sl [.int .i64] h0_0,AV.sl [.int .i64] h0_1,AV.sl [.int .i64,.int .i64] h0_2]]⟩)]⟩)
def l51_0:LModel:=fun _ _ st k=>match st with
 | ⟨[(1,.ptr g0 g1 g2),(3,.int .i64 t3)],[(g3,⟨true,[],[.agg [.sl g4 h0_0,.sl g5 h0_1,.sl g6 h0_2]]⟩)]⟩=>bif nmEq g0 ([0,1]) && Nat.beq g1 0 && Nat.beq g2 0 && nmEq g3 ([0,1]) && ctsEq g4 ([.int .i64]) && ctsEq g5 ([.int .i64]) && ctsEq g6 ([.int .i64,.int .i64]) then ro (runW (R51_0 h0_0 h0_1 h0_2) (((h0_1.length:Int) - t3:Int).toNat+1) t3) none (K51_0 h0_0 h0_1 h0_2 k) else none
 | _=>none
noncomputable def c51:Cfg:=cfg Try.prog [(51,0,[1,3]),(51,999,[2]),(51,1000,[1]),(51,1001,[1,3])] [(36,m36),(52,m52),(56,m56),(91,m91)] [] [] [(51,0,l51_0)]
theorem s51_0 (ce:CallE) (t3:Int) (h0_0 h0_1 h0_2:List AV) (next:St→Option AV) (k:Kont):stepA (codeA c51 ce [] 51 0 (sub [1,1,0,1,0,0] (body Try.f51))) (normA [] [1,3]) next ⟨[(1,AV.ptr [0,1] 0 0),(3,Ai t3)],[([0,1],⟨true,[],[AV.agg [AV.sl [.int .i64] h0_0,AV.sl [.int .i64] h0_1,AV.sl [.int .i64,.int .i64] h0_2]]⟩)]⟩ k=(bif decide (t3<(h0_1.length:Int)) then (bif (decide (0≤t3) && decide (t3<(h0_1.length:Int))) then (bif !(v52_0 (fI (h0_1.getD t3.toNat .undef) 0) 0 999) then k .ret ⟨[(2,AV.bool false)],[([0,1],⟨true,[],[AV.agg [AV.sl [.int .i64] h0_0,AV.sl [.int .i64] h0_1,AV.sl [.int .i64,.int .i64] h0_2]]⟩)]⟩
 else (bif (decide (0≤0) && decide (0≤t3) && decide (t3≤(h0_1.length:Int))) then (bif (decide (0≤t3) && decide (t3<(h0_1.length:Int))) then (bif q56 ((h0_1.take (Int.toNat t3)).drop (Int.toNat 0)) (fI (h0_1.getD t3.toNat .undef) 0) then (bif (v56_0 ((h0_1.take (Int.toNat t3)).drop (Int.toNat 0)) (fI (h0_1.getD t3.toNat .undef) 0)) then k .ret ⟨[(2,AV.bool false)],[([0,1],⟨true,[],[AV.agg [AV.sl [.int .i64] h0_0,AV.sl [.int .i64] h0_1,AV.sl [.int .i64,.int .i64] h0_2]]⟩)]⟩
 else next ⟨[(1,AV.ptr [0,1] 0 0),(3,Ai (IntKind.i64.wrap (t3+1)))],[([0,1],⟨true,[],[AV.agg [AV.sl [.int .i64] h0_0,AV.sl [.int .i64] h0_1,AV.sl [.int .i64,.int .i64] h0_2]]⟩)]⟩)
 else none)
 else none)
 else none))
 else none)
 else k (.exit 0) ⟨[(1,AV.ptr [0,1] 0 0)],[([0,1],⟨true,[],[AV.agg [AV.sl [.int .i64] h0_0,AV.sl [.int .i64] h0_1,AV.sl [.int .i64,.int .i64] h0_2]]⟩)]⟩):=by kernel_rfl
theorem st51_0 (h0_0 h0_1 h0_2:List AV) (ce:CallE) (k:Kont) (s:Int) (next:St→Option AV):stepA (codeA c51 ce [] 51 0 (sub [1,1,0,1,0,0] (body Try.f51))) (normA [] [1,3]) next ((E51_0 h0_0 h0_1 h0_2) s) k=(R51_0 h0_0 h0_1 h0_2 s).el none (fun s=>next ((E51_0 h0_0 h0_1 h0_2) s)) (K51_0 h0_0 h0_1 h0_2 k):=(s51_0 ce s h0_0 h0_1 h0_2 next k).trans (by unfold R51_0;unfold F51_0;simp only [el_cond,el_ro,el_sum,el_fail,el_next,el_stop] <;> rfl)
theorem ok51_0 {ce:CallE}:LoopOK c51 ce [] 51 0 (sub [1,1,0,1,0,0] (body Try.f51)):=by
 intro m hm st k r h
 obtain rfl:l51_0=m:=Option.some.inj hm
 unfold l51_0 at h
 split at h
 ·rename_i g0 g1 g2 t3 g3 g4 h0_0 g5 h0_1 g6 h0_2
  obtain ⟨hg,h⟩:=bif_some h
  simp only [Bool.and_eq_true] at hg
  obtain ⟨⟨⟨⟨⟨⟨q0,q1⟩,q2⟩,q3⟩,q4⟩,q5⟩,q6⟩:=hg
  obtain rfl:=(nmEq_iff _ _).1 q0
  obtain rfl:=Nat.eq_of_beq_eq_true q1
  obtain rfl:=Nat.eq_of_beq_eq_true q2
  obtain rfl:=(nmEq_iff _ _).1 q3
  obtain rfl:=ctsEq_eq _ _ q4
  obtain rfl:=ctsEq_eq _ _ q5
  obtain rfl:=ctsEq_eq _ _ q6
  refine ⟨(((h0_1.length:Int) - t3:Int).toNat+1),?_⟩
  rw [← h]
  exact loop_run (E51_0 h0_0 h0_1 h0_2) (K51_0 h0_0 h0_1 h0_2 k) (st51_0 h0_0 h0_1 h0_2 ce k) _ t3
 ·cases h
def q51 (xa xb xc:List AV):Bool:=(q36 xa && (bif !(v36_0 xa) then true else (bif !decide ((xb.length:Int)=(xa.length:Int)) then true else (ro (runW (R51_0 xa xb xc) (((xb.length:Int) - 0:Int).toNat+1) 0) false (sumE (fun _=>q91 xa xc) (fun _=>true))))))
def v51_0 (xa xb xc:List AV):Bool:=(bif !(v36_0 xa) then false else (bif !decide ((xb.length:Int)=(xa.length:Int)) then false else (ro (runW (R51_0 xa xb xc) (((xb.length:Int) - 0:Int).toNat+1) 0) false (sumE (fun _=>(v91_0 xa xc)) (fun _=>false)))))
theorem e51 (xa xb xc:List AV):funA c51 0 51 [AV.agg [AV.sl [.int .i64] xa,AV.sl [.int .i64] xb,AV.sl [.int .i64,.int .i64] xc]]=(bif q36 xa then (bif !(v36_0 xa) then some (AV.bool false)
 else (bif !decide ((xb.length:Int)=(xa.length:Int)) then some (AV.bool false)
 else (ro (runW (R51_0 xa xb xc) (((xb.length:Int) - 0:Int).toNat+1) 0) none (sumE (fun _=>(bif q91 xa xc then some (AV.bool (v91_0 xa xc))
 else none)) (fun _=>some (AV.bool false))))))
 else none):=by kernel_rfl
def m51:TModel
 | [.agg [.sl g0 xa,.sl g1 xb,.sl g2 xc]]=>bif ctsEq g0 ([.int .i64]) && ctsEq g1 ([.int .i64]) && ctsEq g2 ([.int .i64,.int .i64]) then some (q51 xa xb xc,AV.bool (v51_0 xa xb xc)) else none
 | _=>none
theorem k51:Known Try.prog 51:=⟨Try.f51,Try.func51,by kernel_rfl,by kernel_rfl⟩
theorem meets51:Meets Try.prog 51 m51:=by
 refine meet (f:=Try.f51) (l:=[(0,sub [1,1,0,1,0,0] (body Try.f51))]) (hs:=[(51,0,[1,3]),(51,999,[2]),(51,1000,[1]),(51,1001,[1,3])]) (ts:=[(36,m36),(52,m52),(56,m56),(91,m91)]) (ws:=[]) (is:=[]) (ls:=[(51,0,l51_0)]) (lvl:=0) mixed k51 Try.func51 (by kernel_rfl) (loops_cons ok51_0 noLoop) (allT_cons meets36 (allT_cons meets52 (allT_cons meets56 (allT_cons meets91 allT_nil)))) allM_nil noI fun w xs us r hl hv h=>?_
 unfold m51 at h
 split at h
 ·rename_i g0 xa g1 xb g2 xc
  obtain ⟨hg,h⟩:=bif_pair h
  simp only [Bool.and_eq_true] at hg
  obtain ⟨⟨q0,q1⟩,q2⟩:=hg
  obtain rfl:=ctsEq_eq _ _ q0
  obtain rfl:=ctsEq_eq _ _ q1
  obtain rfl:=ctsEq_eq _ _ q2
  obtain ⟨h1,rfl⟩:=pair_inj h
  exact (e51 xa xb xc).trans ((brL (br (fun b=>some (AV.bool (bif b then false else (bif !decide ((xb.length:Int)=(xa.length:Int)) then false else (ro (runW (R51_0 xa xb xc) (((xb.length:Int) - 0:Int).toNat+1) 0) false (sumE (fun _=>(v91_0 xa xc)) (fun _=>false))))))) (fun _=>rfl) (br (fun b=>some (AV.bool (bif b then false else (ro (runW (R51_0 xa xb xc) (((xb.length:Int) - 0:Int).toNat+1) 0) false (sumE (fun _=>(v91_0 xa xc)) (fun _=>false)))))) (fun _=>rfl) (brO (fun o:Option (Unit ⊕ Unit)=>some (AV.bool (ro o false (sumE (fun _=>(v91_0 xa xc)) (fun _=>false))))) (brS (fun o:Unit ⊕ Unit=>some (AV.bool ((sumE (fun _=>(v91_0 xa xc)) (fun _=>false)) o))) (fun _=>(brL1 (fun _=>rfl))) (fun _=>(fun _=>rfl))))))) h1)
 ·cases h
noncomputable def c75:Cfg:=cfg Try.prog [(75,999,[2])] [] [] [] []
def q75 (xa xb xc:List AV):Bool:=((decide ((([]:List AV).length+xa.length)*8≤140737488355328) && decide ((([]:List AV).length+xa.length)≤140737488355328)) && ((decide ((([]:List AV).length+xb.length)*8≤140737488355328) && decide ((([]:List AV).length+xb.length)≤140737488355328)) && (decide ((([]:List AV).length+xc.length)*16≤140737488355328) && decide ((([]:List AV).length+xc.length)≤140737488355328))))
def v75_0 (xa xb xc:List AV):List AV:=([]:List AV)++xa
def v75_1 (xa xb xc:List AV):List AV:=([]:List AV)++xb
def v75_2 (xa xb xc:List AV):List AV:=([]:List AV)++xc
theorem e75 (xa xb xc:List AV):funA c75 0 75 [AV.agg [AV.sl [.int .i64] xa,AV.sl [.int .i64] xb,AV.sl [.int .i64,.int .i64] xc]]=(bif (decide ((([]:List AV).length+xa.length)*8≤140737488355328) && decide ((([]:List AV).length+xa.length)≤140737488355328)) then (bif (decide ((([]:List AV).length+xb.length)*8≤140737488355328) && decide ((([]:List AV).length+xb.length)≤140737488355328)) then (bif (decide ((([]:List AV).length+xc.length)*16≤140737488355328) && decide ((([]:List AV).length+xc.length)≤140737488355328)) then some (AV.agg [AV.fl [.int .i64] (([]:List AV)++xa),AV.fl [.int .i64] (([]:List AV)++xb),AV.fl [.int .i64,.int .i64] (([]:List AV)++xc)])
 else none)
 else none)
 else none):=by kernel_rfl
def m75:TModel
 | [.agg [.sl g0 xa,.sl g1 xb,.sl g2 xc]]=>bif ctsEq g0 ([.int .i64]) && ctsEq g1 ([.int .i64]) && ctsEq g2 ([.int .i64,.int .i64]) then some (q75 xa xb xc,AV.agg [AV.fl [.int .i64] (v75_0 xa xb xc),AV.fl [.int .i64] (v75_1 xa xb xc),AV.fl [.int .i64,.int .i64] (v75_2 xa xb xc)]) else none
 | _=>none
theorem k75:Known Try.prog 75:=⟨Try.f75,Try.func75,by kernel_rfl,by kernel_rfl⟩
theorem meets75:Meets Try.prog 75 m75:=by
 refine meet (f:=Try.f75) (l:=[]) (hs:=[(75,999,[2])]) (ts:=[]) (ws:=[]) (is:=[]) (ls:=[]) (lvl:=0) mixed k75 Try.func75 (by kernel_rfl) noLoop allT_nil allM_nil noI fun w xs us r hl hv h=>?_
 unfold m75 at h
 split at h
 ·rename_i g0 xa g1 xb g2 xc
  obtain ⟨hg,h⟩:=bif_pair h
  simp only [Bool.and_eq_true] at hg
  obtain ⟨⟨q0,q1⟩,q2⟩:=hg
  obtain rfl:=ctsEq_eq _ _ q0
  obtain rfl:=ctsEq_eq _ _ q1
  obtain rfl:=ctsEq_eq _ _ q2
  obtain ⟨h1,rfl⟩:=pair_inj h
  exact (e75 xa xb xc).trans ((brL (brL (brL1 (fun _=>rfl)))) h1)
 ·cases h
def F102_2 (t1:List AV) (t2 t8 t9 t11:Int):Out ((Int × Int)) (Int):=(bif decide (t11 ≥ 0) then (bif (decide (0≤t11) && decide (t11<(t1.length:Int))) then (bif decide (fI (t1.getD t11.toNat .undef) 0 ≥ t2) then (bif (decide (0≤t11) && decide (t11<(t1.length:Int))) then .next (fI (t1.getD t11.toNat .undef) 1,IntKind.i64.wrap (t11 - 1))
 else .fail)
 else .next (t9,IntKind.i64.wrap (t11 - 1)))
 else .fail)
 else .stop t9)
def R102_2 (t1:List AV) (t2 t8:Int):((Int × Int))→Out ((Int × Int)) (Int):=fun s:Int × Int=>F102_2 t1 t2 t8 s.1 s.2
def E102_2 (t1:List AV) (t2 t8:Int):((Int × Int))→St:=fun s:Int × Int=>⟨[(1,AV.sl [.int .i64,.int .i64] t1),(2,Ai t2),(8,Ai t8),(9,Ai s.1),(11,Ai s.2)],[]⟩
def K102_2 (t8:Int) (k:Kont):(Int)→Option AV:=fun p:Int=>k (.exit 2) ⟨[(8,Ai t8),(9,Ai p)],[]⟩
def l102_2:LModel:=fun _ _ st k=>match st with
 | ⟨[(1,.sl g0 t1),(2,.int .i64 t2),(8,.int .i64 t8),(9,.int .i64 t9),(11,.int .i64 t11)],[]⟩=>bif ctsEq g0 ([.int .i64,.int .i64]) then ro (runW (R102_2 t1 t2 t8) ((t11 - 0+1:Int).toNat+1) (t9,t11)) none (K102_2 t8 k) else none
 | _=>none
def F102_0 (t1:List AV) (t2 t9 t8 t10:Int):Out ((Int × Int)) (Int):=(bif decide (t10<(t1.length:Int)) then (bif (decide (0≤t10) && decide (t10<(t1.length:Int))) then (bif decide (fI (t1.getD t10.toNat .undef) 0≤t2) then (bif (decide (0≤t10) && decide (t10<(t1.length:Int))) then .next (fI (t1.getD t10.toNat .undef) 1,IntKind.i64.wrap (t10+1))
 else .fail)
 else .next (t8,IntKind.i64.wrap (t10+1)))
 else .fail)
 else .stop t8)
def R102_0 (t1:List AV) (t2 t9:Int):((Int × Int))→Out ((Int × Int)) (Int):=fun s:Int × Int=>F102_0 t1 t2 t9 s.1 s.2
def E102_0 (t1:List AV) (t2 t9:Int):((Int × Int))→St:=fun s:Int × Int=>⟨[(1,AV.sl [.int .i64,.int .i64] t1),(2,Ai t2),(8,Ai s.1),(9,Ai t9),(10,Ai s.2)],[]⟩
def K102_0 (t1:List AV) (t2 t9:Int) (k:Kont):(Int)→Option AV:=fun p:Int=>k (.exit 0) ⟨[(1,AV.sl [.int .i64,.int .i64] t1),(2,Ai t2),(8,Ai p),(9,Ai t9)],[]⟩
def l102_0:LModel:=fun _ _ st k=>match st with
 | ⟨[(1,.sl g0 t1),(2,.int .i64 t2),(8,.int .i64 t8),(9,.int .i64 t9),(10,.int .i64 t10)],[]⟩=>bif ctsEq g0 ([.int .i64,.int .i64]) then ro (runW (R102_0 t1 t2 t9) (((t1.length:Int) - t10:Int).toNat+1) (t8,t10)) none (K102_0 t1 t2 t9 k) else none
 | _=>none
noncomputable def c102:Cfg:=cfg Try.prog [(102,0,[1,2,8,9,10]),(102,2,[1,2,8,9,11]),(102,999,[6,7]),(102,1000,[1,2,8,9]),(102,1001,[1,2,8,9,10]),(102,1002,[8,9]),(102,1003,[1,2,8,9,11])] [] [] [] [(102,0,l102_0),(102,2,l102_2)]
theorem s102_2 (ce:CallE) (t1:List AV) (t2 t8 t9 t11:Int) (next:St→Option AV) (k:Kont):stepA (codeA c102 ce [] 102 2 (sub [1,1,1,1,0,1,0,0] (body Try.f102))) (normA [] [1,2,8,9,11]) next ⟨[(1,AV.sl [.int .i64,.int .i64] t1),(2,Ai t2),(8,Ai t8),(9,Ai t9),(11,Ai t11)],[]⟩ k=(bif decide (t11 ≥ 0) then (bif (decide (0≤t11) && decide (t11<(t1.length:Int))) then (bif decide (fI (t1.getD t11.toNat .undef) 0 ≥ t2) then (bif (decide (0≤t11) && decide (t11<(t1.length:Int))) then next ⟨[(1,AV.sl [.int .i64,.int .i64] t1),(2,Ai t2),(8,Ai t8),(9,Ai (fI (t1.getD t11.toNat .undef) 1)),(11,Ai (IntKind.i64.wrap (t11 - 1)))],[]⟩
 else none)
 else next ⟨[(1,AV.sl [.int .i64,.int .i64] t1),(2,Ai t2),(8,Ai t8),(9,Ai t9),(11,Ai (IntKind.i64.wrap (t11 - 1)))],[]⟩)
 else none)
 else k (.exit 2) ⟨[(8,Ai t8),(9,Ai t9)],[]⟩):=by kernel_rfl
theorem st102_2 (t1:List AV) (t2 t8:Int) (ce:CallE) (k:Kont) (s:(Int × Int)) (next:St→Option AV):stepA (codeA c102 ce [] 102 2 (sub [1,1,1,1,0,1,0,0] (body Try.f102))) (normA [] [1,2,8,9,11]) next ((E102_2 t1 t2 t8) s) k=(R102_2 t1 t2 t8 s).el none (fun s=>next ((E102_2 t1 t2 t8) s)) (K102_2 t8 k):=(s102_2 ce t1 t2 t8 s.1 s.2 next k).trans (by unfold R102_2;unfold F102_2;simp only [el_cond,el_ro,el_sum,el_fail,el_next,el_stop] <;> rfl)
theorem ok102_2 {ce:CallE}:LoopOK c102 ce [] 102 2 (sub [1,1,1,1,0,1,0,0] (body Try.f102)):=by
 intro m hm st k r h
 obtain rfl:l102_2=m:=Option.some.inj hm
 unfold l102_2 at h
 split at h
 ·rename_i g0 t1 t2 t8 t9 t11
  obtain ⟨hg,h⟩:=bif_some h
  have q0:=hg
  obtain rfl:=ctsEq_eq _ _ q0
  refine ⟨((t11 - 0+1:Int).toNat+1),?_⟩
  rw [← h]
  exact loop_run (E102_2 t1 t2 t8) (K102_2 t8 k) (st102_2 t1 t2 t8 ce k) _ (t9,t11)
 ·cases h
theorem s102_0 (ce:CallE) (t1:List AV) (t2 t8 t9 t10:Int) (next:St→Option AV) (k:Kont):stepA (codeA c102 ce [] 102 0 (sub [1,1,1,0,1,0,0] (body Try.f102))) (normA [] [1,2,8,9,10]) next ⟨[(1,AV.sl [.int .i64,.int .i64] t1),(2,Ai t2),(8,Ai t8),(9,Ai t9),(10,Ai t10)],[]⟩ k=(bif decide (t10<(t1.length:Int)) then (bif (decide (0≤t10) && decide (t10<(t1.length:Int))) then (bif decide (fI (t1.getD t10.toNat .undef) 0≤t2) then (bif (decide (0≤t10) && decide (t10<(t1.length:Int))) then next ⟨[(1,AV.sl [.int .i64,.int .i64] t1),(2,Ai t2),(8,Ai (fI (t1.getD t10.toNat .undef) 1)),(9,Ai t9),(10,Ai (IntKind.i64.wrap (t10+1)))],[]⟩
 else none)
 else next ⟨[(1,AV.sl [.int .i64,.int .i64] t1),(2,Ai t2),(8,Ai t8),(9,Ai t9),(10,Ai (IntKind.i64.wrap (t10+1)))],[]⟩)
 else none)
 else k (.exit 0) ⟨[(1,AV.sl [.int .i64,.int .i64] t1),(2,Ai t2),(8,Ai t8),(9,Ai t9)],[]⟩):=by kernel_rfl
theorem st102_0 (t1:List AV) (t2 t9:Int) (ce:CallE) (k:Kont) (s:(Int × Int)) (next:St→Option AV):stepA (codeA c102 ce [] 102 0 (sub [1,1,1,0,1,0,0] (body Try.f102))) (normA [] [1,2,8,9,10]) next ((E102_0 t1 t2 t9) s) k=(R102_0 t1 t2 t9 s).el none (fun s=>next ((E102_0 t1 t2 t9) s)) (K102_0 t1 t2 t9 k):=(s102_0 ce t1 t2 s.1 t9 s.2 next k).trans (by unfold R102_0;unfold F102_0;simp only [el_cond,el_ro,el_sum,el_fail,el_next,el_stop] <;> rfl)
theorem ok102_0 {ce:CallE}:LoopOK c102 ce [] 102 0 (sub [1,1,1,0,1,0,0] (body Try.f102)):=by
 intro m hm st k r h
 obtain rfl:l102_0=m:=Option.some.inj hm
 unfold l102_0 at h
 split at h
 ·rename_i g0 t1 t2 t8 t9 t10
  obtain ⟨hg,h⟩:=bif_some h
  have q0:=hg
  obtain rfl:=ctsEq_eq _ _ q0
  refine ⟨(((t1.length:Int) - t10:Int).toNat+1),?_⟩
  rw [← h]
  exact loop_run (E102_0 t1 t2 t9) (K102_0 t1 t2 t9 k) (st102_0 t1 t2 t9 ce k) _ (t8,t10)
 ·cases h
def q102 (a0:Int) (a1:List AV) (a2:Int):Bool:=(ro (runW (R102_0 a1 a2 a0) (((a1.length:Int) - 0:Int).toNat+1) (0,0)) false (fun p38=>(ro (runW (R102_2 a1 a2 p38) (((IntKind.i64.wrap ((a1.length:Int) - 1)) - 0+1:Int).toNat+1) (a0,IntKind.i64.wrap ((a1.length:Int) - 1))) false (fun p39=>true))))
def v102_0 (a0:Int) (a1:List AV) (a2:Int):Int:=(ro (runW (R102_0 a1 a2 a0) (((a1.length:Int) - 0:Int).toNat+1) (0,0)) 0 (fun p38=>p38))
def v102_1 (a0:Int) (a1:List AV) (a2:Int):Int:=(ro (runW (R102_0 a1 a2 a0) (((a1.length:Int) - 0:Int).toNat+1) (0,0)) 0 (fun p38=>(ro (runW (R102_2 a1 a2 p38) (((IntKind.i64.wrap ((a1.length:Int) - 1)) - 0+1:Int).toNat+1) (a0,IntKind.i64.wrap ((a1.length:Int) - 1))) 0 (fun p39=>p39))))
theorem e102 (a0:Int) (a1:List AV) (a2:Int):funA c102 0 102 [Ai a0,AV.sl [.int .i64,.int .i64] a1,Ai a2]=(ro (runW (R102_0 a1 a2 a0) (((a1.length:Int) - 0:Int).toNat+1) (0,0)) none (fun p38=>(ro (runW (R102_2 a1 a2 p38) (((IntKind.i64.wrap ((a1.length:Int) - 1)) - 0+1:Int).toNat+1) (a0,IntKind.i64.wrap ((a1.length:Int) - 1))) none (fun p39=>some (AV.tup [Ai p38,Ai p39]))))):=by kernel_rfl
def m102:TModel
 | [.int .i64 a0,.sl g0 a1,.int .i64 a2]=>bif ctsEq g0 ([.int .i64,.int .i64]) then some (q102 a0 a1 a2,AV.tup [AV.int .i64 (v102_0 a0 a1 a2),AV.int .i64 (v102_1 a0 a1 a2)]) else none
 | _=>none
theorem k102:Known Try.prog 102:=⟨Try.f102,Try.func102,by kernel_rfl,by kernel_rfl⟩
theorem meets102:Meets Try.prog 102 m102:=by
 refine meet (f:=Try.f102) (l:=[(0,sub [1,1,1,0,1,0,0] (body Try.f102)),(2,sub [1,1,1,1,0,1,0,0] (body Try.f102))]) (hs:=[(102,0,[1,2,8,9,10]),(102,2,[1,2,8,9,11]),(102,999,[6,7]),(102,1000,[1,2,8,9]),(102,1001,[1,2,8,9,10]),(102,1002,[8,9]),(102,1003,[1,2,8,9,11])]) (ts:=[]) (ws:=[]) (is:=[]) (ls:=[(102,0,l102_0),(102,2,l102_2)]) (lvl:=0) mixed k102 Try.func102 (by kernel_rfl) (loops_cons ok102_0 (loops_cons ok102_2 noLoop)) allT_nil allM_nil noI fun w xs us r hl hv h=>?_
 unfold m102 at h
 split at h
 ·rename_i a0 g0 a1 a2
  obtain ⟨hg,h⟩:=bif_pair h
  have q0:=hg
  obtain rfl:=ctsEq_eq _ _ q0
  obtain ⟨h1,rfl⟩:=pair_inj h
  exact (e102 a0 a1 a2).trans ((brO (fun o:Option (Int)=>some (AV.tup [Ai (ro o 0 (fun p38=>p38)),Ai (ro o 0 (fun p38=>(ro (runW (R102_2 a1 a2 p38) (((IntKind.i64.wrap ((a1.length:Int) - 1)) - 0+1:Int).toNat+1) (a0,IntKind.i64.wrap ((a1.length:Int) - 1))) 0 (fun p39=>p39))))])) (fun p38=>(brO (fun o:Option (Int)=>some (AV.tup [Ai p38,Ai (ro o 0 (fun p39=>p39))])) (fun p39=>(fun _=>rfl))))) h1)
 ·cases h
noncomputable def c74:Cfg:=cfg Try.prog [(74,999,[4,5])] [(51,m51),(52,m52),(102,m102)] [] [] []
def q74 (xa xb xc:List AV) (a1:Int):Bool:=(q51 xa xb xc && (bif !(v51_0 xa xb xc) then true else (bif !(v52_0 a1 (-1000) 1000) then true else q102 (xa.length:Int) xc a1)))
def v74_0 (xa xb xc:List AV) (a1:Int):Int:=(bif !(v51_0 xa xb xc) then 0 else (bif !(v52_0 a1 (-1000) 1000) then 0 else (v102_0 (xa.length:Int) xc a1)))
def v74_1 (xa xb xc:List AV) (a1:Int):Int:=(bif !(v51_0 xa xb xc) then 0 else (bif !(v52_0 a1 (-1000) 1000) then 0 else (v102_1 (xa.length:Int) xc a1)))
theorem e74 (xa xb xc:List AV) (a1:Int):funA c74 0 74 [AV.agg [AV.sl [.int .i64] xa,AV.sl [.int .i64] xb,AV.sl [.int .i64,.int .i64] xc],Ai a1]=(bif q51 xa xb xc then (bif !(v51_0 xa xb xc) then some (AV.tup [Ai 0,Ai 0])
 else (bif !(v52_0 a1 (-1000) 1000) then some (AV.tup [Ai 0,Ai 0])
 else (bif q102 (xa.length:Int) xc a1 then some (AV.tup [Ai (v102_0 (xa.length:Int) xc a1),Ai (v102_1 (xa.length:Int) xc a1)])
 else none)))
 else none):=by kernel_rfl
def m74:TModel
 | [.agg [.sl g0 xa,.sl g1 xb,.sl g2 xc],.int .i64 a1]=>bif ctsEq g0 ([.int .i64]) && ctsEq g1 ([.int .i64]) && ctsEq g2 ([.int .i64,.int .i64]) then some (q74 xa xb xc a1,AV.tup [AV.int .i64 (v74_0 xa xb xc a1),AV.int .i64 (v74_1 xa xb xc a1)]) else none
 | _=>none
theorem k74:Known Try.prog 74:=⟨Try.f74,Try.func74,by kernel_rfl,by kernel_rfl⟩
theorem meets74:Meets Try.prog 74 m74:=by
 refine meet (f:=Try.f74) (l:=[]) (hs:=[(74,999,[4,5])]) (ts:=[(51,m51),(52,m52),(102,m102)]) (ws:=[]) (is:=[]) (ls:=[]) (lvl:=0) mixed k74 Try.func74 (by kernel_rfl) noLoop (allT_cons meets51 (allT_cons meets52 (allT_cons meets102 allT_nil))) allM_nil noI fun w xs us r hl hv h=>?_
 unfold m74 at h
 split at h
 ·rename_i g0 xa g1 xb g2 xc a1
  obtain ⟨hg,h⟩:=bif_pair h
  simp only [Bool.and_eq_true] at hg
  obtain ⟨⟨q0,q1⟩,q2⟩:=hg
  obtain rfl:=ctsEq_eq _ _ q0
  obtain rfl:=ctsEq_eq _ _ q1
  obtain rfl:=ctsEq_eq _ _ q2
  obtain ⟨h1,rfl⟩:=pair_inj h
  exact (e74 xa xb xc a1).trans ((brL (br (fun b=>some (AV.tup [Ai (bif b then 0 else (bif !(v52_0 a1 (-1000) 1000) then 0 else (v102_0 (xa.length:Int) xc a1))),Ai (bif b then 0 else (bif !(v52_0 a1 (-1000) 1000) then 0 else (v102_1 (xa.length:Int) xc a1)))])) (fun _=>rfl) (br (fun b=>some (AV.tup [Ai (bif b then 0 else (v102_0 (xa.length:Int) xc a1)),Ai (bif b then 0 else (v102_1 (xa.length:Int) xc a1))])) (fun _=>rfl) (brL1 (fun _=>rfl))))) h1)
 ·cases h
def F76_0 (t0:List AV) (t3 t11 t12:Int) (h0:List AV):Out ((Int × Int × (List AV))) ((Int × (List AV))):=(bif decide (t11≤t12) then (bif (decide (0≤t11) && decide (t11<(t0.length:Int))) then (bif decide (fI (t0.getD t11.toNat .undef) 0<t3) then .next (IntKind.i64.wrap (t11+1),t12,h0)
 else (bif (decide (0≤t12) && decide (t12<(t0.length:Int))) then (bif decide (fI (t0.getD t12.toNat .undef) 0 ≥ t3) then .next (t11,IntKind.i64.wrap (t12 - 1),h0)
 else (bif (decide ((h0.length+([AV.agg [AV.int .i64 t11,AV.int .i64 t12]]).length)*16≤140737488355328) && decide ((h0.length+([AV.agg [AV.int .i64 t11,AV.int .i64 t12]]).length)≤140737488355328)) then .next (IntKind.i64.wrap (t11+1),IntKind.i64.wrap (t12 - 1),h0++([AV.agg [AV.int .i64 t11,AV.int .i64 t12]]))
 else .fail))
 else .fail))
 else .fail)
 else .stop (t11,h0))
def R76_0 (t0:List AV) (t3:Int):((Int × Int × (List AV)))→Out ((Int × Int × (List AV))) ((Int × (List AV))):=fun s:Int × Int × (List AV)=>F76_0 t0 t3 s.1 s.2.1 s.2.2
def E76_0 (t0:List AV) (t3:Int):((Int × Int × (List AV)))→St:=fun s:Int × Int × (List AV)=>⟨[(0,AV.sl [.int .i64] t0),(3,Ai t3),(10,AV.own [0,10]),(11,Ai s.1),(12,Ai s.2.1)],[([0,10],⟨false,[.int .i64,.int .i64],s.2.2⟩)]⟩
def K76_0 (k:Kont):((Int × (List AV)))→Option AV:=fun p:Int × (List AV)=>k (.exit 0) ⟨[(10,AV.own [0,10]),(11,Ai p.1)],[([0,10],⟨false,[.int .i64,.int .i64],p.2⟩)]⟩
def l76_0:LModel:=fun _ _ st k=>match st with
 | ⟨[(0,.sl g0 t0),(3,.int .i64 t3),(10,.own g1),(11,.int .i64 t11),(12,.int .i64 t12)],[(g2,⟨false,g3,h0⟩)]⟩=>bif ctsEq g0 ([.int .i64]) && nmEq g1 ([0,10]) && nmEq g2 ([0,10]) && ctsEq g3 ([.int .i64,.int .i64]) then ro (runW (R76_0 t0 t3) ((t12 - t11+1:Int).toNat+1) (t11,t12,h0)) none (K76_0 k) else none
 | _=>none
noncomputable def c76:Cfg:=cfg Try.prog [(76,0,[0,3,10,11,12]),(76,999,[8,9]),(76,1000,[10,11]),(76,1001,[0,3,10,11,12]),(76,1002,[0,3,10,11,12])] [(52,m52)] [] [] [(76,0,l76_0)]
theorem s76_0 (ce:CallE) (t0:List AV) (t3 t11 t12:Int) (h0:List AV) (next:St→Option AV) (k:Kont):stepA (codeA c76 ce [] 76 0 (sub [1,1,1,1,1,0,0,0] (body Try.f76))) (normA [] [0,3,10,11,12]) next ⟨[(0,AV.sl [.int .i64] t0),(3,Ai t3),(10,AV.own [0,10]),(11,Ai t11),(12,Ai t12)],[([0,10],⟨false,[.int .i64,.int .i64],h0⟩)]⟩ k=(bif decide (t11≤t12) then (bif (decide (0≤t11) && decide (t11<(t0.length:Int))) then (bif decide (fI (t0.getD t11.toNat .undef) 0<t3) then next ⟨[(0,AV.sl [.int .i64] t0),(3,Ai t3),(10,AV.own [0,10]),(11,Ai (IntKind.i64.wrap (t11+1))),(12,Ai t12)],[([0,10],⟨false,[.int .i64,.int .i64],h0⟩)]⟩
 else (bif (decide (0≤t12) && decide (t12<(t0.length:Int))) then (bif decide (fI (t0.getD t12.toNat .undef) 0 ≥ t3) then next ⟨[(0,AV.sl [.int .i64] t0),(3,Ai t3),(10,AV.own [0,10]),(11,Ai t11),(12,Ai (IntKind.i64.wrap (t12 - 1)))],[([0,10],⟨false,[.int .i64,.int .i64],h0⟩)]⟩
 else (bif (decide ((h0.length+([AV.agg [Ai t11,Ai t12]]).length)*16≤140737488355328) && decide ((h0.length+([AV.agg [Ai t11,Ai t12]]).length)≤140737488355328)) then next ⟨[(0,AV.sl [.int .i64] t0),(3,Ai t3),(10,AV.own [0,10]),(11,Ai (IntKind.i64.wrap (t11+1))),(12,Ai (IntKind.i64.wrap (t12 - 1)))],[([0,10],⟨false,[.int .i64,.int .i64],h0++([AV.agg [Ai t11,Ai t12]])⟩)]⟩
 else none))
 else none))
 else none)
 else k (.exit 0) ⟨[(10,AV.own [0,10]),(11,Ai t11)],[([0,10],⟨false,[.int .i64,.int .i64],h0⟩)]⟩):=by kernel_rfl
theorem st76_0 (t0:List AV) (t3:Int) (ce:CallE) (k:Kont) (s:(Int × Int × (List AV))) (next:St→Option AV):stepA (codeA c76 ce [] 76 0 (sub [1,1,1,1,1,0,0,0] (body Try.f76))) (normA [] [0,3,10,11,12]) next ((E76_0 t0 t3) s) k=(R76_0 t0 t3 s).el none (fun s=>next ((E76_0 t0 t3) s)) (K76_0 k):=(s76_0 ce t0 t3 s.1 s.2.1 s.2.2 next k).trans (by unfold R76_0;unfold F76_0;simp only [el_cond,el_ro,el_sum,el_fail,el_next,el_stop] <;> rfl)
theorem ok76_0 {ce:CallE}:LoopOK c76 ce [] 76 0 (sub [1,1,1,1,1,0,0,0] (body Try.f76)):=by
 intro m hm st k r h
 obtain rfl:l76_0=m:=Option.some.inj hm
 unfold l76_0 at h
 split at h
 ·rename_i g0 t0 t3 g1 t11 t12 g2 g3 h0
  obtain ⟨hg,h⟩:=bif_some h
  simp only [Bool.and_eq_true] at hg
  obtain ⟨⟨⟨q0,q1⟩,q2⟩,q3⟩:=hg
  obtain rfl:=ctsEq_eq _ _ q0
  obtain rfl:=(nmEq_iff _ _).1 q1
  obtain rfl:=(nmEq_iff _ _).1 q2
  obtain rfl:=ctsEq_eq _ _ q3
  refine ⟨((t12 - t11+1:Int).toNat+1),?_⟩
  rw [← h]
  exact loop_run (E76_0 t0 t3) (K76_0 k) (st76_0 t0 t3 ce k) _ (t11,t12,h0)
 ·cases h
def q76 (a0:List AV) (a1 a2 a3:Int):Bool:=(bif !(v52_0 a1 0 a2) then true else (bif decide (a2 > (a0.length:Int)) then true else (ro (runW (R76_0 a0 a3) (((IntKind.i64.wrap (a2 - 1)) - a1+1:Int).toNat+1) (a1,IntKind.i64.wrap (a2 - 1),([]:List AV))) false (fun p40=>true))))
def v76_0 (a0:List AV) (a1 a2 a3:Int):List AV:=(bif !(v52_0 a1 0 a2) then ([]:List AV) else (bif decide (a2 > (a0.length:Int)) then ([]:List AV) else (ro (runW (R76_0 a0 a3) (((IntKind.i64.wrap (a2 - 1)) - a1+1:Int).toNat+1) (a1,IntKind.i64.wrap (a2 - 1),([]:List AV))) [] (fun p40=>p40.2))))
def v76_1 (a0:List AV) (a1 a2 a3:Int):Int:=(bif !(v52_0 a1 0 a2) then 0 else (bif decide (a2 > (a0.length:Int)) then 0 else (ro (runW (R76_0 a0 a3) (((IntKind.i64.wrap (a2 - 1)) - a1+1:Int).toNat+1) (a1,IntKind.i64.wrap (a2 - 1),([]:List AV))) 0 (fun p40=>p40.1))))
theorem e76 (a0:List AV) (a1 a2 a3:Int):funA c76 0 76 [AV.sl [.int .i64] a0,Ai a1,Ai a2,Ai a3]=(bif !(v52_0 a1 0 a2) then some (AV.tup [AV.fl [.int .i64,.int .i64] ([]:List AV),Ai 0])
 else (bif decide (a2 > (a0.length:Int)) then some (AV.tup [AV.fl [.int .i64,.int .i64] ([]:List AV),Ai 0])
 else (ro (runW (R76_0 a0 a3) (((IntKind.i64.wrap (a2 - 1)) - a1+1:Int).toNat+1) (a1,IntKind.i64.wrap (a2 - 1),([]:List AV))) none (fun p40=>some (AV.tup [AV.fl [.int .i64,.int .i64] p40.2,Ai p40.1]))))):=by kernel_rfl
def m76:TModel
 | [.sl g0 a0,.int .i64 a1,.int .i64 a2,.int .i64 a3]=>bif ctsEq g0 ([.int .i64]) then some (q76 a0 a1 a2 a3,AV.tup [AV.fl [.int .i64,.int .i64] (v76_0 a0 a1 a2 a3),AV.int .i64 (v76_1 a0 a1 a2 a3)]) else none
 | _=>none
theorem k76:Known Try.prog 76:=⟨Try.f76,Try.func76,by kernel_rfl,by kernel_rfl⟩
theorem meets76:Meets Try.prog 76 m76:=by
 refine meet (f:=Try.f76) (l:=[(0,sub [1,1,1,1,1,0,0,0] (body Try.f76))]) (hs:=[(76,0,[0,3,10,11,12]),(76,999,[8,9]),(76,1000,[10,11]),(76,1001,[0,3,10,11,12]),(76,1002,[0,3,10,11,12])]) (ts:=[(52,m52)]) (ws:=[]) (is:=[]) (ls:=[(76,0,l76_0)]) (lvl:=0) mixed k76 Try.func76 (by kernel_rfl) (loops_cons ok76_0 noLoop) (allT_cons meets52 allT_nil) allM_nil noI fun w xs us r hl hv h=>?_
 unfold m76 at h
 split at h
 ·rename_i g0 a0 a1 a2 a3
  obtain ⟨hg,h⟩:=bif_pair h
  have q0:=hg
  obtain rfl:=ctsEq_eq _ _ q0
  obtain ⟨h1,rfl⟩:=pair_inj h
  exact (e76 a0 a1 a2 a3).trans ((br (fun b=>some (AV.tup [AV.fl [.int .i64,.int .i64] (bif b then ([]:List AV) else (bif decide (a2 > (a0.length:Int)) then ([]:List AV) else (ro (runW (R76_0 a0 a3) (((IntKind.i64.wrap (a2 - 1)) - a1+1:Int).toNat+1) (a1,IntKind.i64.wrap (a2 - 1),([]:List AV))) [] (fun p40=>p40.2)))),Ai (bif b then 0 else (bif decide (a2 > (a0.length:Int)) then 0 else (ro (runW (R76_0 a0 a3) (((IntKind.i64.wrap (a2 - 1)) - a1+1:Int).toNat+1) (a1,IntKind.i64.wrap (a2 - 1),([]:List AV))) 0 (fun p40=>p40.1))))])) (fun _=>rfl) (br (fun b=>some (AV.tup [AV.fl [.int .i64,.int .i64] (bif b then ([]:List AV) else (ro (runW (R76_0 a0 a3) (((IntKind.i64.wrap (a2 - 1)) - a1+1:Int).toNat+1) (a1,IntKind.i64.wrap (a2 - 1),([]:List AV))) [] (fun p40=>p40.2))),Ai (bif b then 0 else (ro (runW (R76_0 a0 a3) (((IntKind.i64.wrap (a2 - 1)) - a1+1:Int).toNat+1) (a1,IntKind.i64.wrap (a2 - 1),([]:List AV))) 0 (fun p40=>p40.1)))])) (fun _=>rfl) (brO (fun o:Option ((Int × (List AV)))=>some (AV.tup [AV.fl [.int .i64,.int .i64] (ro o [] (fun p40=>p40.2)),Ai (ro o 0 (fun p40=>p40.1))])) (fun p40=>(fun _=>rfl))))) h1)
 ·cases h
noncomputable def c103:Cfg:=cfg Try.prog [(103,999,[])] [] [] [] []
def q103 (a1 a2:Int) (b0:List AV):Bool:=((decide (0≤a1) && decide (a1<(b0.length:Int))) && ((decide (0≤a2) && decide (a2<(b0.length:Int))) && ((decide (0≤a1) && decide (a1<(b0.length:Int))) && (decide (0≤a2) && decide (a2<((b0.set a1.toNat (AV.agg [AV.int .i64 (fI (b0.getD a2.toNat .undef) 0)])).length:Int))))))
def v103_0 (a1 a2:Int) (b0:List AV):List AV:=(b0.set a1.toNat (AV.agg [AV.int .i64 (fI (b0.getD a2.toNat .undef) 0)])).set a2.toNat (AV.agg [AV.int .i64 (fI (b0.getD a1.toNat .undef) 0)])
theorem e103 (a1 a2:Int) (b0:List AV) (K:AV→List Blk→Option AV):inlA c103 1 103 [AV.own [1],Ai a1,Ai a2] [0] (canH 1 [⟨false,[.int .i64],b0⟩]) (keepB 1 K)=(bif (decide (0≤a1) && decide (a1<(b0.length:Int))) then (bif (decide (0≤a2) && decide (a2<(b0.length:Int))) then (bif (decide (0≤a1) && decide (a1<(b0.length:Int))) then (bif (decide (0≤a2) && decide (a2<((b0.set a1.toNat (AV.agg [Ai (fI (b0.getD a2.toNat .undef) 0)])).length:Int))) then K (AV.tup []) [⟨false,[.int .i64],(b0.set a1.toNat (AV.agg [Ai (fI (b0.getD a2.toNat .undef) 0)])).set a2.toNat (AV.agg [Ai (fI (b0.getD a1.toNat .undef) 0)])⟩]
 else none)
 else none)
 else none)
 else none):=by kernel_rfl
theorem r103 (a1 a2:Int) (b0:List AV) (K:AV→List Blk→Option AV) (h:q103 a1 a2 b0=true):inlA c103 1 103 [AV.own [1],AV.int .i64 a1,AV.int .i64 a2] [0] (canH 1 [⟨false,[.int .i64],b0⟩]) (keepB 1 K)=K (AV.tup []) [⟨false,[.int .i64],(v103_0 a1 a2 b0)⟩]:=(e103 a1 a2 b0 K).trans ((brL (brL (brL (brL1 (fun _=>rfl))))) h)
def m103:WModel
 | [.own g0,.int .i64 a1,.int .i64 a2],[⟨false,g1,b0⟩]=>bif nmEq g0 ([1]) && ctsEq g1 ([.int .i64]) then some (q103 a1 a2 b0,AV.tup [],[⟨false,[.int .i64],(v103_0 a1 a2 b0)⟩]) else none
 | _,_=>none
theorem k103:Known Try.prog 103:=⟨Try.f103,Try.func103,by kernel_rfl,by kernel_rfl⟩
theorem meets103:MeetsM Try.prog 103 m103:=by
 refine meetM (f:=Try.f103) (l:=[]) (hs:=[(103,999,[])]) (ts:=[]) (ws:=[]) (is:=[]) (ls:=[]) (lvl:=0) mixed k103 Try.func103 (by kernel_rfl) noLoop allT_nil allM_nil noI fun C w xs us bs r bs' hl hv hh h K=>?_
 unfold m103 at h
 split at h
 ·rename_i g0 a1 a2 g1 b0
  obtain ⟨hg,h⟩:=bif_pair h
  simp only [Bool.and_eq_true] at hg
  obtain ⟨q0,q1⟩:=hg
  obtain rfl:=(nmEq_iff _ _).1 q0
  obtain rfl:=ctsEq_eq _ _ q1
  obtain ⟨h1,rfl,rfl⟩:=trip_inj h
  exact r103 a1 a2 b0 K h1
 ·cases h
def F77_0 (t1 h2_0 h2_1 h2_2 h3:List AV) (t7:Int) (h0 h1:List AV):Out ((Int × (List AV) × (List AV))) (((List AV) × (List AV)) ⊕ ((List AV) × (List AV) × (List AV) × (List AV) × (List AV))):=(bif decide (t7<(t1.length:Int)) then (bif (decide (0≤t7) && decide (t7<(t1.length:Int))) then (bif (decide (0≤t7) && decide (t7<(t1.length:Int))) then (bif !(v52_0 (fI (t1.getD t7.toNat .undef) 0) 0 (IntKind.i64.wrap ((h0.length:Int) - 1))) then (bif q75 h2_0 h2_1 h2_2 then .stop (.inr (h0,h1,(v75_0 h2_0 h2_1 h2_2),(v75_1 h2_0 h2_1 h2_2),(v75_2 h2_0 h2_1 h2_2)))
 else .fail)
 else (bif !(v52_0 (fI (t1.getD t7.toNat .undef) 1) 0 (IntKind.i64.wrap ((h0.length:Int) - 1))) then (bif q75 h2_0 h2_1 h2_2 then .stop (.inr (h0,h1,(v75_0 h2_0 h2_1 h2_2),(v75_1 h2_0 h2_1 h2_2),(v75_2 h2_0 h2_1 h2_2)))
 else .fail)
 else (bif q103 (fI (t1.getD t7.toNat .undef) 0) (fI (t1.getD t7.toNat .undef) 1) h0 then (bif q103 (fI (t1.getD t7.toNat .undef) 0) (fI (t1.getD t7.toNat .undef) 1) h1 then .next (IntKind.i64.wrap (t7+1),(v103_0 (fI (t1.getD t7.toNat .undef) 0) (fI (t1.getD t7.toNat .undef) 1) h0),(v103_0 (fI (t1.getD t7.toNat .undef) 0) (fI (t1.getD t7.toNat .undef) 1) h1))
 else .fail)
 else .fail)))
 else .fail)
 else .fail)
 else .stop (.inl (h0,h1)))
def R77_0 (t1 h2_0 h2_1 h2_2 h3:List AV):((Int × (List AV) × (List AV)))→Out ((Int × (List AV) × (List AV))) (((List AV) × (List AV)) ⊕ ((List AV) × (List AV) × (List AV) × (List AV) × (List AV))):=fun s:Int × (List AV) × (List AV)=>F77_0 t1 h2_0 h2_1 h2_2 h3 s.1 s.2.1 s.2.2
def E77_0 (t1 h2_0 h2_1 h2_2 h3:List AV):((Int × (List AV) × (List AV)))→St:=fun s:Int × (List AV) × (List AV)=>⟨[(1,AV.sl [.int .i64,.int .i64] t1),(2,AV.ptr [0,2] 0 0),(4,AV.ptr [0,4] 0 0),(6,AV.ptr [0,6] 0 0),(7,Ai s.1)],[([0,0,6],⟨false,[.int .i64],s.2.1⟩),([0,1,6],⟨false,[.int .i64],s.2.2⟩),([0,2],⟨true,[],[AV.agg [AV.sl [.int .i64] h2_0,AV.sl [.int .i64] h2_1,AV.sl [.int .i64,.int .i64] h2_2]]⟩),([0,2,6],⟨false,[.int .i64,.int .i64],h3⟩),([0,4],⟨true,[],[AV.agg [AV.snil,AV.snil,AV.snil]]⟩),([0,6],⟨true,[],[AV.agg [AV.own [0,0,6],AV.own [0,1,6],AV.own [0,2,6]]]⟩)]⟩
def K77_0 (h2_0 h2_1 h2_2 h3:List AV) (k:Kont):(((List AV) × (List AV)) ⊕ ((List AV) × (List AV) × (List AV) × (List AV) × (List AV)))→Option AV:=sumE (fun p:(List AV) × (List AV)=>k (.exit 0) ⟨[(4,AV.ptr [0,4] 0 0),(6,AV.ptr [0,6] 0 0)],[([0,0,6],⟨false,[.int .i64],p.1⟩),([0,1,6],⟨false,[.int .i64],p.2⟩),([0,2],⟨true,[],[AV.agg [AV.sl [.int .i64] h2_0,AV.sl [.int .i64] h2_1,AV.sl [.int .i64,.int .i64] h2_2]]⟩),([0,2,6],⟨false,[.int .i64,.int .i64],h3⟩),([0,4],⟨true,[],[AV.agg [AV.snil,AV.snil,AV.snil]]⟩),([0,6],⟨true,[],[AV.agg [AV.own [0,0,6],AV.own [0,1,6],AV.own [0,2,6]]]⟩)]⟩) (fun p:(List AV) × (List AV) × (List AV) × (List AV) × (List AV)=>k .ret ⟨[(4,AV.ptr [0,4] 0 0),(5,AV.bool false)],[([0,0,6],⟨false,[.int .i64],p.1⟩),([0,1,6],⟨false,[.int .i64],p.2.1⟩),([0,1,53],⟨false,[.int .i64],p.2.2.1⟩),([0,2],⟨true,[],[AV.agg [AV.sl [.int .i64] h2_0,AV.sl [.int .i64] h2_1,AV.sl [.int .i64,.int .i64] h2_2]]⟩),([0,2,6],⟨false,[.int .i64,.int .i64],h3⟩),([0,4],⟨true,[],[AV.agg [AV.own [0,1,53],AV.own [1,1,53],AV.own [2,1,53]]]⟩),([0,6],⟨true,[],[AV.agg [AV.own [0,0,6],AV.own [0,1,6],AV.own [0,2,6]]]⟩),([1,1,53],⟨false,[.int .i64],p.2.2.2.1⟩),([2,1,53],⟨false,[.int .i64,.int .i64],p.2.2.2.2⟩)]⟩)
def l77_0:LModel:=fun _ _ st k=>match st with
 | ⟨[(1,.sl g0 t1),(2,.ptr g1 g2 g3),(4,.ptr g4 g5 g6),(6,.ptr g7 g8 g9),(7,.int .i64 t7)],[(g10,⟨false,g11,h0⟩),(g12,⟨false,g13,h1⟩),(g14,⟨true,[],[.agg [.sl g15 h2_0,.sl g16 h2_1,.sl g17 h2_2]]⟩),(g18,⟨false,g19,h3⟩),(g20,⟨true,[],[.agg [.snil,.snil,.snil]]⟩),(g21,⟨true,[],[.agg [.own g22,.own g23,.own g24]]⟩)]⟩=>bif ctsEq g0 ([.int .i64,.int .i64]) && nmEq g1 ([0,2]) && Nat.beq g2 0 && Nat.beq g3 0 && nmEq g4 ([0,4]) && Nat.beq g5 0 && Nat.beq g6 0 && nmEq g7 ([0,6]) && Nat.beq g8 0 && Nat.beq g9 0 && nmEq g10 ([0,0,6]) && ctsEq g11 ([.int .i64]) && nmEq g12 ([0,1,6]) && ctsEq g13 ([.int .i64]) && nmEq g14 ([0,2]) && ctsEq g15 ([.int .i64]) && ctsEq g16 ([.int .i64]) && ctsEq g17 ([.int .i64,.int .i64]) && nmEq g18 ([0,2,6]) && ctsEq g19 ([.int .i64,.int .i64]) && nmEq g20 ([0,4]) && nmEq g21 ([0,6]) && nmEq g22 ([0,0,6]) && nmEq g23 ([0,1,6]) && nmEq g24 ([0,2,6]) then ro (runW (R77_0 t1 h2_0 h2_1 h2_2 h3) (((t1.length:Int) - t7:Int).toNat+1) (t7,h0,h1)) none (K77_0 h2_0 h2_1 h2_2 h3 k) else none
 | _=>none
noncomputable def c77:Cfg:=cfg Try.prog [(77,0,[1,2,4,6,7]),(77,999,[4,5]),(77,1000,[4,6]),(77,1001,[1,2,4,6,7])] [(52,m52),(75,m75)] [(103,.w m103)] [] [(77,0,l77_0)]
theorem s77_0 (ce:CallE) (t1:List AV) (t7:Int) (h0 h1 h2_0 h2_1 h2_2 h3:List AV) (next:St→Option AV) (k:Kont):stepA (codeA c77 ce [] 77 0 (sub [1,1,1,0,1,0,0] (body Try.f77))) (normA [] [1,2,4,6,7]) next ⟨[(1,AV.sl [.int .i64,.int .i64] t1),(2,AV.ptr [0,2] 0 0),(4,AV.ptr [0,4] 0 0),(6,AV.ptr [0,6] 0 0),(7,Ai t7)],[([0,0,6],⟨false,[.int .i64],h0⟩),([0,1,6],⟨false,[.int .i64],h1⟩),([0,2],⟨true,[],[AV.agg [AV.sl [.int .i64] h2_0,AV.sl [.int .i64] h2_1,AV.sl [.int .i64,.int .i64] h2_2]]⟩),([0,2,6],⟨false,[.int .i64,.int .i64],h3⟩),([0,4],⟨true,[],[AV.agg [AV.snil,AV.snil,AV.snil]]⟩),([0,6],⟨true,[],[AV.agg [AV.own [0,0,6],AV.own [0,1,6],AV.own [0,2,6]]]⟩)]⟩ k=(bif decide (t7<(t1.length:Int)) then (bif (decide (0≤t7) && decide (t7<(t1.length:Int))) then (bif (decide (0≤t7) && decide (t7<(t1.length:Int))) then (bif !(v52_0 (fI (t1.getD t7.toNat .undef) 0) 0 (IntKind.i64.wrap ((h0.length:Int) - 1))) then (bif q75 h2_0 h2_1 h2_2 then k .ret ⟨[(4,AV.ptr [0,4] 0 0),(5,AV.bool false)],[([0,0,6],⟨false,[.int .i64],h0⟩),([0,1,6],⟨false,[.int .i64],h1⟩),([0,1,53],⟨false,[.int .i64],(v75_0 h2_0 h2_1 h2_2)⟩),([0,2],⟨true,[],[AV.agg [AV.sl [.int .i64] h2_0,AV.sl [.int .i64] h2_1,AV.sl [.int .i64,.int .i64] h2_2]]⟩),([0,2,6],⟨false,[.int .i64,.int .i64],h3⟩),([0,4],⟨true,[],[AV.agg [AV.own [0,1,53],AV.own [1,1,53],AV.own [2,1,53]]]⟩),([0,6],⟨true,[],[AV.agg [AV.own [0,0,6],AV.own [0,1,6],AV.own [0,2,6]]]⟩),([1,1,53],⟨false,[.int .i64],(v75_1 h2_0 h2_1 h2_2)⟩),([2,1,53],⟨false,[.int .i64,.int .i64],(v75_2 h2_0 h2_1 h2_2)⟩)]⟩
 else none)
 else (bif !(v52_0 (fI (t1.getD t7.toNat .undef) 1) 0 (IntKind.i64.wrap ((h0.length:Int) - 1))) then (bif q75 h2_0 h2_1 h2_2 then k .ret ⟨[(4,AV.ptr [0,4] 0 0),(5,AV.bool false)],[([0,0,6],⟨false,[.int .i64],h0⟩),([0,1,6],⟨false,[.int .i64],h1⟩),([0,1,53],⟨false,[.int .i64],(v75_0 h2_0 h2_1 h2_2)⟩),([0,2],⟨true,[],[AV.agg [AV.sl [.int .i64] h2_0,AV.sl [.int .i64] h2_1,AV.sl [.int .i64,.int .i64] h2_2]]⟩),([0,2,6],⟨false,[.int .i64,.int .i64],h3⟩),([0,4],⟨true,[],[AV.agg [AV.own [0,1,53],AV.own [1,1,53],AV.own [2,1,53]]]⟩),([0,6],⟨true,[],[AV.agg [AV.own [0,0,6],AV.own [0,1,6],AV.own [0,2,6]]]⟩),([1,1,53],⟨false,[.int .i64],(v75_1 h2_0 h2_1 h2_2)⟩),([2,1,53],⟨false,[.int .i64,.int .i64],(v75_2 h2_0 h2_1 h2_2)⟩)]⟩
 else none)
 else (bif q103 (fI (t1.getD t7.toNat .undef) 0) (fI (t1.getD t7.toNat .undef) 1) h0 then (bif q103 (fI (t1.getD t7.toNat .undef) 0) (fI (t1.getD t7.toNat .undef) 1) h1 then next ⟨[(1,AV.sl [.int .i64,.int .i64] t1),(2,AV.ptr [0,2] 0 0),(4,AV.ptr [0,4] 0 0),(6,AV.ptr [0,6] 0 0),(7,Ai (IntKind.i64.wrap (t7+1)))],[([0,0,6],⟨false,[.int .i64],(v103_0 (fI (t1.getD t7.toNat .undef) 0) (fI (t1.getD t7.toNat .undef) 1) h0)⟩),([0,1,6],⟨false,[.int .i64],(v103_0 (fI (t1.getD t7.toNat .undef) 0) (fI (t1.getD t7.toNat .undef) 1) h1)⟩),([0,2],⟨true,[],[AV.agg [AV.sl [.int .i64] h2_0,AV.sl [.int .i64] h2_1,AV.sl [.int .i64,.int .i64] h2_2]]⟩),([0,2,6],⟨false,[.int .i64,.int .i64],h3⟩),([0,4],⟨true,[],[AV.agg [AV.snil,AV.snil,AV.snil]]⟩),([0,6],⟨true,[],[AV.agg [AV.own [0,0,6],AV.own [0,1,6],AV.own [0,2,6]]]⟩)]⟩
 else none)
 else none)))
 else none)
 else none)
 else k (.exit 0) ⟨[(4,AV.ptr [0,4] 0 0),(6,AV.ptr [0,6] 0 0)],[([0,0,6],⟨false,[.int .i64],h0⟩),([0,1,6],⟨false,[.int .i64],h1⟩),([0,2],⟨true,[],[AV.agg [AV.sl [.int .i64] h2_0,AV.sl [.int .i64] h2_1,AV.sl [.int .i64,.int .i64] h2_2]]⟩),([0,2,6],⟨false,[.int .i64,.int .i64],h3⟩),([0,4],⟨true,[],[AV.agg [AV.snil,AV.snil,AV.snil]]⟩),([0,6],⟨true,[],[AV.agg [AV.own [0,0,6],AV.own [0,1,6],AV.own [0,2,6]]]⟩)]⟩):=by kernel_rfl
theorem st77_0 (t1 h2_0 h2_1 h2_2 h3:List AV) (ce:CallE) (k:Kont) (s:(Int × (List AV) × (List AV))) (next:St→Option AV):stepA (codeA c77 ce [] 77 0 (sub [1,1,1,0,1,0,0] (body Try.f77))) (normA [] [1,2,4,6,7]) next ((E77_0 t1 h2_0 h2_1 h2_2 h3) s) k=(R77_0 t1 h2_0 h2_1 h2_2 h3 s).el none (fun s=>next ((E77_0 t1 h2_0 h2_1 h2_2 h3) s)) (K77_0 h2_0 h2_1 h2_2 h3 k):=(s77_0 ce t1 s.1 s.2.1 s.2.2 h2_0 h2_1 h2_2 h3 next k).trans (by unfold R77_0;unfold F77_0;simp only [el_cond,el_ro,el_sum,el_fail,el_next,el_stop] <;> rfl)
theorem ok77_0 {ce:CallE}:LoopOK c77 ce [] 77 0 (sub [1,1,1,0,1,0,0] (body Try.f77)):=by
 intro m hm st k r h
 obtain rfl:l77_0=m:=Option.some.inj hm
 unfold l77_0 at h
 split at h
 ·rename_i g0 t1 g1 g2 g3 g4 g5 g6 g7 g8 g9 t7 g10 g11 h0 g12 g13 h1 g14 g15 h2_0 g16 h2_1 g17 h2_2 g18 g19 h3 g20 g21 g22 g23 g24
  obtain ⟨hg,h⟩:=bif_some h
  simp only [Bool.and_eq_true] at hg
  obtain ⟨⟨⟨⟨⟨⟨⟨⟨⟨⟨⟨⟨⟨⟨⟨⟨⟨⟨⟨⟨⟨⟨⟨⟨q0,q1⟩,q2⟩,q3⟩,q4⟩,q5⟩,q6⟩,q7⟩,q8⟩,q9⟩,q10⟩,q11⟩,q12⟩,q13⟩,q14⟩,q15⟩,q16⟩,q17⟩,q18⟩,q19⟩,q20⟩,q21⟩,q22⟩,q23⟩,q24⟩:=hg
  obtain rfl:=ctsEq_eq _ _ q0
  obtain rfl:=(nmEq_iff _ _).1 q1
  obtain rfl:=Nat.eq_of_beq_eq_true q2
  obtain rfl:=Nat.eq_of_beq_eq_true q3
  obtain rfl:=(nmEq_iff _ _).1 q4
  obtain rfl:=Nat.eq_of_beq_eq_true q5
  obtain rfl:=Nat.eq_of_beq_eq_true q6
  obtain rfl:=(nmEq_iff _ _).1 q7
  obtain rfl:=Nat.eq_of_beq_eq_true q8
  obtain rfl:=Nat.eq_of_beq_eq_true q9
  obtain rfl:=(nmEq_iff _ _).1 q10
  obtain rfl:=ctsEq_eq _ _ q11
  obtain rfl:=(nmEq_iff _ _).1 q12
  obtain rfl:=ctsEq_eq _ _ q13
  obtain rfl:=(nmEq_iff _ _).1 q14
  obtain rfl:=ctsEq_eq _ _ q15
  obtain rfl:=ctsEq_eq _ _ q16
  obtain rfl:=ctsEq_eq _ _ q17
  obtain rfl:=(nmEq_iff _ _).1 q18
  obtain rfl:=ctsEq_eq _ _ q19
  obtain rfl:=(nmEq_iff _ _).1 q20
  obtain rfl:=(nmEq_iff _ _).1 q21
  obtain rfl:=(nmEq_iff _ _).1 q22
  obtain rfl:=(nmEq_iff _ _).1 q23
  obtain rfl:=(nmEq_iff _ _).1 q24
  refine ⟨(((t1.length:Int) - t7:Int).toNat+1),?_⟩
  rw [← h]
  exact loop_run (E77_0 t1 h2_0 h2_1 h2_2 h3) (K77_0 h2_0 h2_1 h2_2 h3 k) (st77_0 t1 h2_0 h2_1 h2_2 h3 ce k) _ (t7,h0,h1)
 ·cases h
def q77 (xa xb xc a1:List AV):Bool:=(q75 xa xb xc && (bif !decide (((v75_1 xa xb xc).length:Int)=((v75_0 xa xb xc).length:Int)) then true else (ro (runW (R77_0 a1 xa xb xc (v75_2 xa xb xc)) (((a1.length:Int) - 0:Int).toNat+1) (0,(v75_0 xa xb xc),(v75_1 xa xb xc))) false (sumE (fun p41=>true) (fun p42=>true)))))
def v77_0 (xa xb xc a1:List AV):List AV:=(bif !decide (((v75_1 xa xb xc).length:Int)=((v75_0 xa xb xc).length:Int)) then (v75_0 xa xb xc) else (ro (runW (R77_0 a1 xa xb xc (v75_2 xa xb xc)) (((a1.length:Int) - 0:Int).toNat+1) (0,(v75_0 xa xb xc),(v75_1 xa xb xc))) [] (sumE (fun p41=>p41.1) (fun p42=>p42.2.2.1))))
def v77_1 (xa xb xc a1:List AV):List AV:=(bif !decide (((v75_1 xa xb xc).length:Int)=((v75_0 xa xb xc).length:Int)) then (v75_1 xa xb xc) else (ro (runW (R77_0 a1 xa xb xc (v75_2 xa xb xc)) (((a1.length:Int) - 0:Int).toNat+1) (0,(v75_0 xa xb xc),(v75_1 xa xb xc))) [] (sumE (fun p41=>p41.2) (fun p42=>p42.2.2.2.1))))
def v77_2 (xa xb xc a1:List AV):List AV:=(bif !decide (((v75_1 xa xb xc).length:Int)=((v75_0 xa xb xc).length:Int)) then (v75_2 xa xb xc) else (ro (runW (R77_0 a1 xa xb xc (v75_2 xa xb xc)) (((a1.length:Int) - 0:Int).toNat+1) (0,(v75_0 xa xb xc),(v75_1 xa xb xc))) [] (sumE (fun p41=>(v75_2 xa xb xc)) (fun p42=>p42.2.2.2.2))))
def v77_3 (xa xb xc a1:List AV):Bool:=(bif !decide (((v75_1 xa xb xc).length:Int)=((v75_0 xa xb xc).length:Int)) then false else (ro (runW (R77_0 a1 xa xb xc (v75_2 xa xb xc)) (((a1.length:Int) - 0:Int).toNat+1) (0,(v75_0 xa xb xc),(v75_1 xa xb xc))) false (sumE (fun p41=>true) (fun p42=>false))))
theorem e77 (xa xb xc a1:List AV):funA c77 0 77 [AV.agg [AV.sl [.int .i64] xa,AV.sl [.int .i64] xb,AV.sl [.int .i64,.int .i64] xc],AV.sl [.int .i64,.int .i64] a1]=(bif q75 xa xb xc then (bif !decide (((v75_1 xa xb xc).length:Int)=((v75_0 xa xb xc).length:Int)) then some (AV.tup [AV.agg [AV.fl [.int .i64] (v75_0 xa xb xc),AV.fl [.int .i64] (v75_1 xa xb xc),AV.fl [.int .i64,.int .i64] (v75_2 xa xb xc)],AV.bool false])
 else (ro (runW (R77_0 a1 xa xb xc (v75_2 xa xb xc)) (((a1.length:Int) - 0:Int).toNat+1) (0,(v75_0 xa xb xc),(v75_1 xa xb xc))) none (sumE (fun p41=>some (AV.tup [AV.agg [AV.fl [.int .i64] p41.1,AV.fl [.int .i64] p41.2,AV.fl [.int .i64,.int .i64] (v75_2 xa xb xc)],AV.bool true])) (fun p42=>some (AV.tup [AV.agg [AV.fl [.int .i64] p42.2.2.1,AV.fl [.int .i64] p42.2.2.2.1,AV.fl [.int .i64,.int .i64] p42.2.2.2.2],AV.bool false])))))
 else none):=by kernel_rfl
def m77:TModel
 | [.agg [.sl g0 xa,.sl g1 xb,.sl g2 xc],.sl g3 a1]=>bif ctsEq g0 ([.int .i64]) && ctsEq g1 ([.int .i64]) && ctsEq g2 ([.int .i64,.int .i64]) && ctsEq g3 ([.int .i64,.int .i64]) then some (q77 xa xb xc a1,AV.tup [AV.agg [AV.fl [.int .i64] (v77_0 xa xb xc a1),AV.fl [.int .i64] (v77_1 xa xb xc a1),AV.fl [.int .i64,.int .i64] (v77_2 xa xb xc a1)],AV.bool (v77_3 xa xb xc a1)]) else none
 | _=>none
theorem k77:Known Try.prog 77:=⟨Try.f77,Try.func77,by kernel_rfl,by kernel_rfl⟩
theorem meets77:Meets Try.prog 77 m77:=by
 refine meet (f:=Try.f77) (l:=[(0,sub [1,1,1,0,1,0,0] (body Try.f77))]) (hs:=[(77,0,[1,2,4,6,7]),(77,999,[4,5]),(77,1000,[4,6]),(77,1001,[1,2,4,6,7])]) (ts:=[(52,m52),(75,m75)]) (ws:=[(103,.w m103)]) (is:=[]) (ls:=[(77,0,l77_0)]) (lvl:=0) mixed k77 Try.func77 (by kernel_rfl) (loops_cons ok77_0 noLoop) (allT_cons meets52 (allT_cons meets75 allT_nil)) (allM_cons meets103 allM_nil) noI fun w xs us r hl hv h=>?_
 unfold m77 at h
 split at h
 ·rename_i g0 xa g1 xb g2 xc g3 a1
  obtain ⟨hg,h⟩:=bif_pair h
  simp only [Bool.and_eq_true] at hg
  obtain ⟨⟨⟨q0,q1⟩,q2⟩,q3⟩:=hg
  obtain rfl:=ctsEq_eq _ _ q0
  obtain rfl:=ctsEq_eq _ _ q1
  obtain rfl:=ctsEq_eq _ _ q2
  obtain rfl:=ctsEq_eq _ _ q3
  obtain ⟨h1,rfl⟩:=pair_inj h
  exact (e77 xa xb xc a1).trans ((brL (br (fun b=>some (AV.tup [AV.agg [AV.fl [.int .i64] (bif b then (v75_0 xa xb xc) else (ro (runW (R77_0 a1 xa xb xc (v75_2 xa xb xc)) (((a1.length:Int) - 0:Int).toNat+1) (0,(v75_0 xa xb xc),(v75_1 xa xb xc))) [] (sumE (fun p41=>p41.1) (fun p42=>p42.2.2.1)))),AV.fl [.int .i64] (bif b then (v75_1 xa xb xc) else (ro (runW (R77_0 a1 xa xb xc (v75_2 xa xb xc)) (((a1.length:Int) - 0:Int).toNat+1) (0,(v75_0 xa xb xc),(v75_1 xa xb xc))) [] (sumE (fun p41=>p41.2) (fun p42=>p42.2.2.2.1)))),AV.fl [.int .i64,.int .i64] (bif b then (v75_2 xa xb xc) else (ro (runW (R77_0 a1 xa xb xc (v75_2 xa xb xc)) (((a1.length:Int) - 0:Int).toNat+1) (0,(v75_0 xa xb xc),(v75_1 xa xb xc))) [] (sumE (fun p41=>(v75_2 xa xb xc)) (fun p42=>p42.2.2.2.2))))],AV.bool (bif b then false else (ro (runW (R77_0 a1 xa xb xc (v75_2 xa xb xc)) (((a1.length:Int) - 0:Int).toNat+1) (0,(v75_0 xa xb xc),(v75_1 xa xb xc))) false (sumE (fun p41=>true) (fun p42=>false))))])) (fun _=>rfl) (brO (fun o:Option (((List AV) × (List AV)) ⊕ ((List AV) × (List AV) × (List AV) × (List AV) × (List AV)))=>some (AV.tup [AV.agg [AV.fl [.int .i64] (ro o [] (sumE (fun p41=>p41.1) (fun p42=>p42.2.2.1))),AV.fl [.int .i64] (ro o [] (sumE (fun p41=>p41.2) (fun p42=>p42.2.2.2.1))),AV.fl [.int .i64,.int .i64] (ro o [] (sumE (fun p41=>(v75_2 xa xb xc)) (fun p42=>p42.2.2.2.2)))],AV.bool (ro o false (sumE (fun p41=>true) (fun p42=>false)))])) (brS (fun o:((List AV) × (List AV)) ⊕ ((List AV) × (List AV) × (List AV) × (List AV) × (List AV))=>some (AV.tup [AV.agg [AV.fl [.int .i64] ((sumE (fun p41=>p41.1) (fun p42=>p42.2.2.1)) o),AV.fl [.int .i64] ((sumE (fun p41=>p41.2) (fun p42=>p42.2.2.2.1)) o),AV.fl [.int .i64,.int .i64] ((sumE (fun p41=>(v75_2 xa xb xc)) (fun p42=>p42.2.2.2.2)) o)],AV.bool ((sumE (fun p41=>true) (fun p42=>false)) o)])) (fun p41=>(fun _=>rfl)) (fun p42=>(fun _=>rfl)))))) h1)
 ·cases h
def F78_0 (h0 h1 h2_0 h2_1 h2_2:List AV) (h4_0 h4_1:Int) (t7:Bool) (t8:Int) (h3:List AV):Out ((Bool × Int × (List AV))) ((Bool × (List AV))):=(bif decide (t8<(h2_2.length:Int)) then (bif !t7 then (bif (decide (0≤t8) && decide (t8<(h2_2.length:Int))) then (bif decide (fI (h2_2.getD t8.toNat .undef) 0 > h4_0) then (bif (decide ((h3.length+([AV.agg [AV.int .i64 h4_0,AV.int .i64 h4_1]]).length)*16≤140737488355328) && decide ((h3.length+([AV.agg [AV.int .i64 h4_0,AV.int .i64 h4_1]]).length)≤140737488355328)) then (bif (decide (0≤t8) && decide (t8<(h2_2.length:Int))) then (bif (decide (((h3++([AV.agg [AV.int .i64 h4_0,AV.int .i64 h4_1]])).length+([AV.agg [AV.int .i64 (fI (h2_2.getD t8.toNat .undef) 0),AV.int .i64 (fI (h2_2.getD t8.toNat .undef) 1)]]).length)*16≤140737488355328) && decide (((h3++([AV.agg [AV.int .i64 h4_0,AV.int .i64 h4_1]])).length+([AV.agg [AV.int .i64 (fI (h2_2.getD t8.toNat .undef) 0),AV.int .i64 (fI (h2_2.getD t8.toNat .undef) 1)]]).length)≤140737488355328)) then .next (true,IntKind.i64.wrap (t8+1),(h3++([AV.agg [AV.int .i64 h4_0,AV.int .i64 h4_1]]))++([AV.agg [AV.int .i64 (fI (h2_2.getD t8.toNat .undef) 0),AV.int .i64 (fI (h2_2.getD t8.toNat .undef) 1)]]))
 else .fail)
 else .fail)
 else .fail)
 else (bif (decide (0≤t8) && decide (t8<(h2_2.length:Int))) then (bif (decide ((h3.length+([AV.agg [AV.int .i64 (fI (h2_2.getD t8.toNat .undef) 0),AV.int .i64 (fI (h2_2.getD t8.toNat .undef) 1)]]).length)*16≤140737488355328) && decide ((h3.length+([AV.agg [AV.int .i64 (fI (h2_2.getD t8.toNat .undef) 0),AV.int .i64 (fI (h2_2.getD t8.toNat .undef) 1)]]).length)≤140737488355328)) then .next (t7,IntKind.i64.wrap (t8+1),h3++([AV.agg [AV.int .i64 (fI (h2_2.getD t8.toNat .undef) 0),AV.int .i64 (fI (h2_2.getD t8.toNat .undef) 1)]]))
 else .fail)
 else .fail))
 else .fail)
 else (bif (decide (0≤t8) && decide (t8<(h2_2.length:Int))) then (bif (decide ((h3.length+([AV.agg [AV.int .i64 (fI (h2_2.getD t8.toNat .undef) 0),AV.int .i64 (fI (h2_2.getD t8.toNat .undef) 1)]]).length)*16≤140737488355328) && decide ((h3.length+([AV.agg [AV.int .i64 (fI (h2_2.getD t8.toNat .undef) 0),AV.int .i64 (fI (h2_2.getD t8.toNat .undef) 1)]]).length)≤140737488355328)) then .next (t7,IntKind.i64.wrap (t8+1),h3++([AV.agg [AV.int .i64 (fI (h2_2.getD t8.toNat .undef) 0),AV.int .i64 (fI (h2_2.getD t8.toNat .undef) 1)]]))
 else .fail)
 else .fail))
 else .stop (t7,h3))
def R78_0 (h0 h1 h2_0 h2_1 h2_2:List AV) (h4_0 h4_1:Int):((Bool × Int × (List AV)))→Out ((Bool × Int × (List AV))) ((Bool × (List AV))):=fun s:Bool × Int × (List AV)=>F78_0 h0 h1 h2_0 h2_1 h2_2 h4_0 h4_1 s.1 s.2.1 s.2.2
def E78_0 (h0 h1 h2_0 h2_1 h2_2:List AV) (h4_0 h4_1:Int):((Bool × Int × (List AV)))→St:=fun s:Bool × Int × (List AV)=>⟨[(2,AV.ptr [0,2] 0 0),(3,AV.ptr [0,3] 0 0),(4,AV.ptr [0,4] 0 0),(6,AV.ptr [0,6] 0 0),(7,AV.bool s.1),(8,Ai s.2.1)],[([0,0,6],⟨false,[.int .i64],h0⟩),([0,1,6],⟨false,[.int .i64],h1⟩),([0,2],⟨true,[],[AV.agg [AV.sl [.int .i64] h2_0,AV.sl [.int .i64] h2_1,AV.sl [.int .i64,.int .i64] h2_2]]⟩),([0,2,6],⟨false,[.int .i64,.int .i64],s.2.2⟩),([0,3],⟨true,[],[AV.agg [Ai h4_0,Ai h4_1]]⟩),([0,4],⟨true,[],[AV.agg [AV.snil,AV.snil,AV.snil]]⟩),([0,6],⟨true,[],[AV.agg [AV.own [0,0,6],AV.own [0,1,6],AV.own [0,2,6]]]⟩)]⟩
def K78_0 (h0 h1 h2_0 h2_1 h2_2:List AV) (h4_0 h4_1:Int) (k:Kont):((Bool × (List AV)))→Option AV:=fun p:Bool × (List AV)=>k (.exit 0) ⟨[(2,AV.ptr [0,2] 0 0),(3,AV.ptr [0,3] 0 0),(4,AV.ptr [0,4] 0 0),(6,AV.ptr [0,6] 0 0),(7,AV.bool p.1)],[([0,0,6],⟨false,[.int .i64],h0⟩),([0,1,6],⟨false,[.int .i64],h1⟩),([0,2],⟨true,[],[AV.agg [AV.sl [.int .i64] h2_0,AV.sl [.int .i64] h2_1,AV.sl [.int .i64,.int .i64] h2_2]]⟩),([0,2,6],⟨false,[.int .i64,.int .i64],p.2⟩),([0,3],⟨true,[],[AV.agg [Ai h4_0,Ai h4_1]]⟩),([0,4],⟨true,[],[AV.agg [AV.snil,AV.snil,AV.snil]]⟩),([0,6],⟨true,[],[AV.agg [AV.own [0,0,6],AV.own [0,1,6],AV.own [0,2,6]]]⟩)]⟩
def l78_0:LModel:=fun _ _ st k=>match st with
 | ⟨[(2,.ptr g0 g1 g2),(3,.ptr g3 g4 g5),(4,.ptr g6 g7 g8),(6,.ptr g9 g10 g11),(7,.bool t7),(8,.int .i64 t8)],[(g12,⟨false,g13,h0⟩),(g14,⟨false,g15,h1⟩),(g16,⟨true,[],[.agg [.sl g17 h2_0,.sl g18 h2_1,.sl g19 h2_2]]⟩),(g20,⟨false,g21,h3⟩),(g22,⟨true,[],[.agg [.int .i64 h4_0,.int .i64 h4_1]]⟩),(g23,⟨true,[],[.agg [.snil,.snil,.snil]]⟩),(g24,⟨true,[],[.agg [.own g25,.own g26,.own g27]]⟩)]⟩=>bif nmEq g0 ([0,2]) && Nat.beq g1 0 && Nat.beq g2 0 && nmEq g3 ([0,3]) && Nat.beq g4 0 && Nat.beq g5 0 && nmEq g6 ([0,4]) && Nat.beq g7 0 && Nat.beq g8 0 && nmEq g9 ([0,6]) && Nat.beq g10 0 && Nat.beq g11 0 && nmEq g12 ([0,0,6]) && ctsEq g13 ([.int .i64]) && nmEq g14 ([0,1,6]) && ctsEq g15 ([.int .i64]) && nmEq g16 ([0,2]) && ctsEq g17 ([.int .i64]) && ctsEq g18 ([.int .i64]) && ctsEq g19 ([.int .i64,.int .i64]) && nmEq g20 ([0,2,6]) && ctsEq g21 ([.int .i64,.int .i64]) && nmEq g22 ([0,3]) && nmEq g23 ([0,4]) && nmEq g24 ([0,6]) && nmEq g25 ([0,0,6]) && nmEq g26 ([0,1,6]) && nmEq g27 ([0,2,6]) then ro (runW (R78_0 h0 h1 h2_0 h2_1 h2_2 h4_0 h4_1) (((h2_2.length:Int) - t8:Int).toNat+1) (t7,t8,h3)) none (K78_0 h0 h1 h2_0 h2_1 h2_2 h4_0 h4_1 k) else none
 | _=>none
noncomputable def c78:Cfg:=cfg Try.prog [(78,0,[2,3,4,6,7,8]),(78,999,[4,5]),(78,1000,[2,3,4,6,7]),(78,1001,[2,3,4,6,7,8])] [(51,m51),(75,m75)] [] [] [(78,0,l78_0)]
theorem s78_0 (ce:CallE) (t7:Bool) (t8:Int) (h0 h1 h2_0 h2_1 h2_2 h3:List AV) (h4_0 h4_1:Int) (next:St→Option AV) (k:Kont):stepA (codeA c78 ce [] 78 0 (sub [1,1,1,1,0,1,0,0] (body Try.f78))) (normA [] [2,3,4,6,7,8]) next ⟨[(2,AV.ptr [0,2] 0 0),(3,AV.ptr [0,3] 0 0),(4,AV.ptr [0,4] 0 0),(6,AV.ptr [0,6] 0 0),(7,AV.bool t7),(8,Ai t8)],[([0,0,6],⟨false,[.int .i64],h0⟩),([0,1,6],⟨false,[.int .i64],h1⟩),([0,2],⟨true,[],[AV.agg [AV.sl [.int .i64] h2_0,AV.sl [.int .i64] h2_1,AV.sl [.int .i64,.int .i64] h2_2]]⟩),([0,2,6],⟨false,[.int .i64,.int .i64],h3⟩),([0,3],⟨true,[],[AV.agg [Ai h4_0,Ai h4_1]]⟩),([0,4],⟨true,[],[AV.agg [AV.snil,AV.snil,AV.snil]]⟩),([0,6],⟨true,[],[AV.agg [AV.own [0,0,6],AV.own [0,1,6],AV.own [0,2,6]]]⟩)]⟩ k=(bif decide (t8<(h2_2.length:Int)) then (bif !t7 then (bif (decide (0≤t8) && decide (t8<(h2_2.length:Int))) then (bif decide (fI (h2_2.getD t8.toNat .undef) 0 > h4_0) then (bif (decide ((h3.length+([AV.agg [Ai h4_0,Ai h4_1]]).length)*16≤140737488355328) && decide ((h3.length+([AV.agg [Ai h4_0,Ai h4_1]]).length)≤140737488355328)) then (bif (decide (0≤t8) && decide (t8<(h2_2.length:Int))) then (bif (decide (((h3++([AV.agg [Ai h4_0,Ai h4_1]])).length+([AV.agg [Ai (fI (h2_2.getD t8.toNat .undef) 0),Ai (fI (h2_2.getD t8.toNat .undef) 1)]]).length)*16≤140737488355328) && decide (((h3++([AV.agg [Ai h4_0,Ai h4_1]])).length+([AV.agg [Ai (fI (h2_2.getD t8.toNat .undef) 0),Ai (fI (h2_2.getD t8.toNat .undef) 1)]]).length)≤140737488355328)) then next ⟨[(2,AV.ptr [0,2] 0 0),(3,AV.ptr [0,3] 0 0),(4,AV.ptr [0,4] 0 0),(6,AV.ptr [0,6] 0 0),(7,AV.bool true),(8,Ai (IntKind.i64.wrap (t8+1)))],[([0,0,6],⟨false,[.int .i64],h0⟩),([0,1,6],⟨false,[.int .i64],h1⟩),([0,2],⟨true,[],[AV.agg [AV.sl [.int .i64] h2_0,AV.sl [.int .i64] h2_1,AV.sl [.int .i64,.int .i64] h2_2]]⟩),([0,2,6],⟨false,[.int .i64,.int .i64],(h3++([AV.agg [Ai h4_0,Ai h4_1]]))++([AV.agg [Ai (fI (h2_2.getD t8.toNat .undef) 0),Ai (fI (h2_2.getD t8.toNat .undef) 1)]])⟩),([0,3],⟨true,[],[AV.agg [Ai h4_0,Ai h4_1]]⟩),([0,4],⟨true,[],[AV.agg [AV.snil,AV.snil,AV.snil]]⟩),([0,6],⟨true,[],[AV.agg [AV.own [0,0,6],AV.own [0,1,6],AV.own [0,2,6]]]⟩)]⟩
 else none)
 else none)
 else none)
 else (bif (decide (0≤t8) && decide (t8<(h2_2.length:Int))) then (bif (decide ((h3.length+([AV.agg [Ai (fI (h2_2.getD t8.toNat .undef) 0),Ai (fI (h2_2.getD t8.toNat .undef) 1)]]).length)*16≤140737488355328) && decide ((h3.length+([AV.agg [Ai (fI (h2_2.getD t8.toNat .undef) 0),Ai (fI (h2_2.getD t8.toNat .undef) 1)]]).length)≤140737488355328)) then next ⟨[(2,AV.ptr [0,2] 0 0),(3,AV.ptr [0,3] 0 0),(4,AV.ptr [0,4] 0 0),(6,AV.ptr [0,6] 0 0),(7,AV.bool t7),(8,Ai (IntKind.i64.wrap (t8+1)))],[([0,0,6],⟨false,[.int .i64],h0⟩),([0,1,6],⟨false,[.int .i64],h1⟩),([0,2],⟨true,[],[AV.agg [AV.sl [.int .i64] h2_0,AV.sl [.int .i64] h2_1,AV.sl [.int .i64,.int .i64] h2_2]]⟩),([0,2,6],⟨false,[.int .i64,.int .i64],h3++([AV.agg [Ai (fI (h2_2.getD t8.toNat .undef) 0),Ai (fI (h2_2.getD t8.toNat .undef) 1)]])⟩),([0,3],⟨true,[],[AV.agg [Ai h4_0,Ai h4_1]]⟩),([0,4],⟨true,[],[AV.agg [AV.snil,AV.snil,AV.snil]]⟩),([0,6],⟨true,[],[AV.agg [AV.own [0,0,6],AV.own [0,1,6],AV.own [0,2,6]]]⟩)]⟩
 else none)
 else none))
 else none)
 else (bif (decide (0≤t8) && decide (t8<(h2_2.length:Int))) then (bif (decide ((h3.length+([AV.agg [Ai (fI (h2_2.getD t8.toNat .undef) 0),Ai (fI (h2_2.getD t8.toNat .undef) 1)]]).length)*16≤140737488355328) && decide ((h3.length+([AV.agg [Ai (fI (h2_2.getD t8.toNat .undef) 0),Ai (fI (h2_2.getD t8.toNat .undef) 1)]]).length)≤140737488355328)) then next ⟨[(2,AV.ptr [0,2] 0 0),(3,AV.ptr [0,3] 0 0),(4,AV.ptr [0,4] 0 0),(6,AV.ptr [0,6] 0 0),(7,AV.bool t7),(8,Ai (IntKind.i64.wrap (t8+1)))],[([0,0,6],⟨false,[.int .i64],h0⟩),([0,1,6],⟨false,[.int .i64],h1⟩),([0,2],⟨true,[],[AV.agg [AV.sl [.int .i64] h2_0,AV.sl [.int .i64] h2_1,AV.sl [.int .i64,.int .i64] h2_2]]⟩),([0,2,6],⟨false,[.int .i64,.int .i64],h3++([AV.agg [Ai (fI (h2_2.getD t8.toNat .undef) 0),Ai (fI (h2_2.getD t8.toNat .undef) 1)]])⟩),([0,3],⟨true,[],[AV.agg [Ai h4_0,Ai h4_1]]⟩),([0,4],⟨true,[],[AV.agg [AV.snil,AV.snil,AV.snil]]⟩),([0,6],⟨true,[],[AV.agg [AV.own [0,0,6],AV.own [0,1,6],AV.own [0,2,6]]]⟩)]⟩
 else none)
 else none))
 else k (.exit 0) ⟨[(2,AV.ptr [0,2] 0 0),(3,AV.ptr [0,3] 0 0),(4,AV.ptr [0,4] 0 0),(6,AV.ptr [0,6] 0 0),(7,AV.bool t7)],[([0,0,6],⟨false,[.int .i64],h0⟩),([0,1,6],⟨false,[.int .i64],h1⟩),([0,2],⟨true,[],[AV.agg [AV.sl [.int .i64] h2_0,AV.sl [.int .i64] h2_1,AV.sl [.int .i64,.int .i64] h2_2]]⟩),([0,2,6],⟨false,[.int .i64,.int .i64],h3⟩),([0,3],⟨true,[],[AV.agg [Ai h4_0,Ai h4_1]]⟩),([0,4],⟨true,[],[AV.agg [AV.snil,AV.snil,AV.snil]]⟩),([0,6],⟨true,[],[AV.agg [AV.own [0,0,6],AV.own [0,1,6],AV.own [0,2,6]]]⟩)]⟩):=by kernel_rfl
theorem st78_0 (h0 h1 h2_0 h2_1 h2_2:List AV) (h4_0 h4_1:Int) (ce:CallE) (k:Kont) (s:(Bool × Int × (List AV))) (next:St→Option AV):stepA (codeA c78 ce [] 78 0 (sub [1,1,1,1,0,1,0,0] (body Try.f78))) (normA [] [2,3,4,6,7,8]) next ((E78_0 h0 h1 h2_0 h2_1 h2_2 h4_0 h4_1) s) k=(R78_0 h0 h1 h2_0 h2_1 h2_2 h4_0 h4_1 s).el none (fun s=>next ((E78_0 h0 h1 h2_0 h2_1 h2_2 h4_0 h4_1) s)) (K78_0 h0 h1 h2_0 h2_1 h2_2 h4_0 h4_1 k):=(s78_0 ce s.1 s.2.1 h0 h1 h2_0 h2_1 h2_2 s.2.2 h4_0 h4_1 next k).trans (by unfold R78_0;unfold F78_0;simp only [el_cond,el_ro,el_sum,el_fail,el_next,el_stop] <;> rfl)
theorem ok78_0 {ce:CallE}:LoopOK c78 ce [] 78 0 (sub [1,1,1,1,0,1,0,0] (body Try.f78)):=by
 intro m hm st k r h
 obtain rfl:l78_0=m:=Option.some.inj hm
 unfold l78_0 at h
 split at h
 ·rename_i g0 g1 g2 g3 g4 g5 g6 g7 g8 g9 g10 g11 t7 t8 g12 g13 h0 g14 g15 h1 g16 g17 h2_0 g18 h2_1 g19 h2_2 g20 g21 h3 g22 h4_0 h4_1 g23 g24 g25 g26 g27
  obtain ⟨hg,h⟩:=bif_some h
  simp only [Bool.and_eq_true] at hg
  obtain ⟨⟨⟨⟨⟨⟨⟨⟨⟨⟨⟨⟨⟨⟨⟨⟨⟨⟨⟨⟨⟨⟨⟨⟨⟨⟨⟨q0,q1⟩,q2⟩,q3⟩,q4⟩,q5⟩,q6⟩,q7⟩,q8⟩,q9⟩,q10⟩,q11⟩,q12⟩,q13⟩,q14⟩,q15⟩,q16⟩,q17⟩,q18⟩,q19⟩,q20⟩,q21⟩,q22⟩,q23⟩,q24⟩,q25⟩,q26⟩,q27⟩:=hg
  obtain rfl:=(nmEq_iff _ _).1 q0
  obtain rfl:=Nat.eq_of_beq_eq_true q1
  obtain rfl:=Nat.eq_of_beq_eq_true q2
  obtain rfl:=(nmEq_iff _ _).1 q3
  obtain rfl:=Nat.eq_of_beq_eq_true q4
  obtain rfl:=Nat.eq_of_beq_eq_true q5
  obtain rfl:=(nmEq_iff _ _).1 q6
  obtain rfl:=Nat.eq_of_beq_eq_true q7
  obtain rfl:=Nat.eq_of_beq_eq_true q8
  obtain rfl:=(nmEq_iff _ _).1 q9
  obtain rfl:=Nat.eq_of_beq_eq_true q10
  obtain rfl:=Nat.eq_of_beq_eq_true q11
  obtain rfl:=(nmEq_iff _ _).1 q12
  obtain rfl:=ctsEq_eq _ _ q13
  obtain rfl:=(nmEq_iff _ _).1 q14
  obtain rfl:=ctsEq_eq _ _ q15
  obtain rfl:=(nmEq_iff _ _).1 q16
  obtain rfl:=ctsEq_eq _ _ q17
  obtain rfl:=ctsEq_eq _ _ q18
  obtain rfl:=ctsEq_eq _ _ q19
  obtain rfl:=(nmEq_iff _ _).1 q20
  obtain rfl:=ctsEq_eq _ _ q21
  obtain rfl:=(nmEq_iff _ _).1 q22
  obtain rfl:=(nmEq_iff _ _).1 q23
  obtain rfl:=(nmEq_iff _ _).1 q24
  obtain rfl:=(nmEq_iff _ _).1 q25
  obtain rfl:=(nmEq_iff _ _).1 q26
  obtain rfl:=(nmEq_iff _ _).1 q27
  refine ⟨(((h2_2.length:Int) - t8:Int).toNat+1),?_⟩
  rw [← h]
  exact loop_run (E78_0 h0 h1 h2_0 h2_1 h2_2 h4_0 h4_1) (K78_0 h0 h1 h2_0 h2_1 h2_2 h4_0 h4_1 k) (st78_0 h0 h1 h2_0 h2_1 h2_2 h4_0 h4_1 ce k) _ (t7,t8,h3)
 ·cases h
def q78 (xa xb xc:List AV) (ya yb:Int):Bool:=(q75 xa xb xc && (ro (runW (R78_0 (v75_0 xa xb xc) (v75_1 xa xb xc) xa xb xc ya yb) (((xc.length:Int) - 0:Int).toNat+1) (false,0,([]:List AV))) false (fun p43=>(bif !p43.1 then ((decide ((p43.2.length+([AV.agg [AV.int .i64 ya,AV.int .i64 yb]]).length)*16≤140737488355328) && decide ((p43.2.length+([AV.agg [AV.int .i64 ya,AV.int .i64 yb]]).length)≤140737488355328)) && (q51 xa xb xc && (bif !(v51_0 xa xb xc) then q75 xa xb xc else (q51 (v75_0 xa xb xc) (v75_1 xa xb xc) (p43.2++([AV.agg [AV.int .i64 ya,AV.int .i64 yb]])) && (bif !(v51_0 (v75_0 xa xb xc) (v75_1 xa xb xc) (p43.2++([AV.agg [AV.int .i64 ya,AV.int .i64 yb]]))) then q75 xa xb xc else true))))) else (q51 xa xb xc && (bif !(v51_0 xa xb xc) then q75 xa xb xc else (q51 (v75_0 xa xb xc) (v75_1 xa xb xc) p43.2 && (bif !(v51_0 (v75_0 xa xb xc) (v75_1 xa xb xc) p43.2) then q75 xa xb xc else true))))))))
def v78_0 (xa xb xc:List AV) (ya yb:Int):List AV:=(v75_0 xa xb xc)
def v78_1 (xa xb xc:List AV) (ya yb:Int):List AV:=(v75_1 xa xb xc)
def v78_2 (xa xb xc:List AV) (ya yb:Int):List AV:=(ro (runW (R78_0 (v75_0 xa xb xc) (v75_1 xa xb xc) xa xb xc ya yb) (((xc.length:Int) - 0:Int).toNat+1) (false,0,([]:List AV))) [] (fun p43=>(bif !p43.1 then (bif !(v51_0 xa xb xc) then (v75_2 xa xb xc) else (bif !(v51_0 (v75_0 xa xb xc) (v75_1 xa xb xc) (p43.2++([AV.agg [AV.int .i64 ya,AV.int .i64 yb]]))) then (v75_2 xa xb xc) else p43.2++([AV.agg [AV.int .i64 ya,AV.int .i64 yb]]))) else (bif !(v51_0 xa xb xc) then (v75_2 xa xb xc) else (bif !(v51_0 (v75_0 xa xb xc) (v75_1 xa xb xc) p43.2) then (v75_2 xa xb xc) else p43.2)))))
def v78_3 (xa xb xc:List AV) (ya yb:Int):Bool:=(ro (runW (R78_0 (v75_0 xa xb xc) (v75_1 xa xb xc) xa xb xc ya yb) (((xc.length:Int) - 0:Int).toNat+1) (false,0,([]:List AV))) false (fun p43=>(bif !p43.1 then (bif !(v51_0 xa xb xc) then false else (bif !(v51_0 (v75_0 xa xb xc) (v75_1 xa xb xc) (p43.2++([AV.agg [AV.int .i64 ya,AV.int .i64 yb]]))) then false else true)) else (bif !(v51_0 xa xb xc) then false else (bif !(v51_0 (v75_0 xa xb xc) (v75_1 xa xb xc) p43.2) then false else true)))))
theorem e78 (xa xb xc:List AV) (ya yb:Int):funA c78 0 78 [AV.agg [AV.sl [.int .i64] xa,AV.sl [.int .i64] xb,AV.sl [.int .i64,.int .i64] xc],AV.agg [Ai ya,Ai yb]]=(bif q75 xa xb xc then (ro (runW (R78_0 (v75_0 xa xb xc) (v75_1 xa xb xc) xa xb xc ya yb) (((xc.length:Int) - 0:Int).toNat+1) (false,0,([]:List AV))) none (fun p43=>(bif !p43.1 then (bif (decide ((p43.2.length+([AV.agg [Ai ya,Ai yb]]).length)*16≤140737488355328) && decide ((p43.2.length+([AV.agg [Ai ya,Ai yb]]).length)≤140737488355328)) then (bif q51 xa xb xc then (bif !(v51_0 xa xb xc) then (bif q75 xa xb xc then some (AV.tup [AV.agg [AV.fl [.int .i64] (v75_0 xa xb xc),AV.fl [.int .i64] (v75_1 xa xb xc),AV.fl [.int .i64,.int .i64] (v75_2 xa xb xc)],AV.bool false])
 else none)
 else (bif q51 (v75_0 xa xb xc) (v75_1 xa xb xc) (p43.2++([AV.agg [Ai ya,Ai yb]])) then (bif !(v51_0 (v75_0 xa xb xc) (v75_1 xa xb xc) (p43.2++([AV.agg [Ai ya,Ai yb]]))) then (bif q75 xa xb xc then some (AV.tup [AV.agg [AV.fl [.int .i64] (v75_0 xa xb xc),AV.fl [.int .i64] (v75_1 xa xb xc),AV.fl [.int .i64,.int .i64] (v75_2 xa xb xc)],AV.bool false])
 else none)
 else some (AV.tup [AV.agg [AV.fl [.int .i64] (v75_0 xa xb xc),AV.fl [.int .i64] (v75_1 xa xb xc),AV.fl [.int .i64,.int .i64] (p43.2++([AV.agg [Ai ya,Ai yb]]))],AV.bool true]))
 else none))
 else none)
 else none)
 else (bif q51 xa xb xc then (bif !(v51_0 xa xb xc) then (bif q75 xa xb xc then some (AV.tup [AV.agg [AV.fl [.int .i64] (v75_0 xa xb xc),AV.fl [.int .i64] (v75_1 xa xb xc),AV.fl [.int .i64,.int .i64] (v75_2 xa xb xc)],AV.bool false])
 else none)
 else (bif q51 (v75_0 xa xb xc) (v75_1 xa xb xc) p43.2 then (bif !(v51_0 (v75_0 xa xb xc) (v75_1 xa xb xc) p43.2) then (bif q75 xa xb xc then some (AV.tup [AV.agg [AV.fl [.int .i64] (v75_0 xa xb xc),AV.fl [.int .i64] (v75_1 xa xb xc),AV.fl [.int .i64,.int .i64] (v75_2 xa xb xc)],AV.bool false])
 else none)
 else some (AV.tup [AV.agg [AV.fl [.int .i64] (v75_0 xa xb xc),AV.fl [.int .i64] (v75_1 xa xb xc),AV.fl [.int .i64,.int .i64] p43.2],AV.bool true]))
 else none))
 else none))))
 else none):=by kernel_rfl
def m78:TModel
 | [.agg [.sl g0 xa,.sl g1 xb,.sl g2 xc],.agg [.int .i64 ya,.int .i64 yb]]=>bif ctsEq g0 ([.int .i64]) && ctsEq g1 ([.int .i64]) && ctsEq g2 ([.int .i64,.int .i64]) then some (q78 xa xb xc ya yb,AV.tup [AV.agg [AV.fl [.int .i64] (v78_0 xa xb xc ya yb),AV.fl [.int .i64] (v78_1 xa xb xc ya yb),AV.fl [.int .i64,.int .i64] (v78_2 xa xb xc ya yb)],AV.bool (v78_3 xa xb xc ya yb)]) else none
 | _=>none
theorem k78:Known Try.prog 78:=⟨Try.f78,Try.func78,by kernel_rfl,by kernel_rfl⟩
theorem meets78:Meets Try.prog 78 m78:=by
 refine meet (f:=Try.f78) (l:=[(0,sub [1,1,1,1,0,1,0,0] (body Try.f78))]) (hs:=[(78,0,[2,3,4,6,7,8]),(78,999,[4,5]),(78,1000,[2,3,4,6,7]),(78,1001,[2,3,4,6,7,8])]) (ts:=[(51,m51),(75,m75)]) (ws:=[]) (is:=[]) (ls:=[(78,0,l78_0)]) (lvl:=0) mixed k78 Try.func78 (by kernel_rfl) (loops_cons ok78_0 noLoop) (allT_cons meets51 (allT_cons meets75 allT_nil)) allM_nil noI fun w xs us r hl hv h=>?_
 unfold m78 at h
 split at h
 ·rename_i g0 xa g1 xb g2 xc ya yb
  obtain ⟨hg,h⟩:=bif_pair h
  simp only [Bool.and_eq_true] at hg
  obtain ⟨⟨q0,q1⟩,q2⟩:=hg
  obtain rfl:=ctsEq_eq _ _ q0
  obtain rfl:=ctsEq_eq _ _ q1
  obtain rfl:=ctsEq_eq _ _ q2
  obtain ⟨h1,rfl⟩:=pair_inj h
  exact (e78 xa xb xc ya yb).trans ((brL (brO (fun o:Option ((Bool × (List AV)))=>some (AV.tup [AV.agg [AV.fl [.int .i64] (v75_0 xa xb xc),AV.fl [.int .i64] (v75_1 xa xb xc),AV.fl [.int .i64,.int .i64] (ro o [] (fun p43=>(bif !p43.1 then (bif !(v51_0 xa xb xc) then (v75_2 xa xb xc) else (bif !(v51_0 (v75_0 xa xb xc) (v75_1 xa xb xc) (p43.2++([AV.agg [Ai ya,Ai yb]]))) then (v75_2 xa xb xc) else p43.2++([AV.agg [Ai ya,Ai yb]]))) else (bif !(v51_0 xa xb xc) then (v75_2 xa xb xc) else (bif !(v51_0 (v75_0 xa xb xc) (v75_1 xa xb xc) p43.2) then (v75_2 xa xb xc) else p43.2)))))],AV.bool (ro o false (fun p43=>(bif !p43.1 then (bif !(v51_0 xa xb xc) then false else (bif !(v51_0 (v75_0 xa xb xc) (v75_1 xa xb xc) (p43.2++([AV.agg [Ai ya,Ai yb]]))) then false else true)) else (bif !(v51_0 xa xb xc) then false else (bif !(v51_0 (v75_0 xa xb xc) (v75_1 xa xb xc) p43.2) then false else true)))))])) (fun p43=>(br (fun b=>some (AV.tup [AV.agg [AV.fl [.int .i64] (v75_0 xa xb xc),AV.fl [.int .i64] (v75_1 xa xb xc),AV.fl [.int .i64,.int .i64] (bif b then (bif !(v51_0 xa xb xc) then (v75_2 xa xb xc) else (bif !(v51_0 (v75_0 xa xb xc) (v75_1 xa xb xc) (p43.2++([AV.agg [Ai ya,Ai yb]]))) then (v75_2 xa xb xc) else p43.2++([AV.agg [Ai ya,Ai yb]]))) else (bif !(v51_0 xa xb xc) then (v75_2 xa xb xc) else (bif !(v51_0 (v75_0 xa xb xc) (v75_1 xa xb xc) p43.2) then (v75_2 xa xb xc) else p43.2)))],AV.bool (bif b then (bif !(v51_0 xa xb xc) then false else (bif !(v51_0 (v75_0 xa xb xc) (v75_1 xa xb xc) (p43.2++([AV.agg [Ai ya,Ai yb]]))) then false else true)) else (bif !(v51_0 xa xb xc) then false else (bif !(v51_0 (v75_0 xa xb xc) (v75_1 xa xb xc) p43.2) then false else true)))])) (brL (brL (br (fun b=>some (AV.tup [AV.agg [AV.fl [.int .i64] (v75_0 xa xb xc),AV.fl [.int .i64] (v75_1 xa xb xc),AV.fl [.int .i64,.int .i64] (bif b then (v75_2 xa xb xc) else (bif !(v51_0 (v75_0 xa xb xc) (v75_1 xa xb xc) (p43.2++([AV.agg [Ai ya,Ai yb]]))) then (v75_2 xa xb xc) else p43.2++([AV.agg [Ai ya,Ai yb]])))],AV.bool (bif b then false else (bif !(v51_0 (v75_0 xa xb xc) (v75_1 xa xb xc) (p43.2++([AV.agg [Ai ya,Ai yb]]))) then false else true))])) (brL1 (fun _=>rfl)) (brL (br (fun b=>some (AV.tup [AV.agg [AV.fl [.int .i64] (v75_0 xa xb xc),AV.fl [.int .i64] (v75_1 xa xb xc),AV.fl [.int .i64,.int .i64] (bif b then (v75_2 xa xb xc) else p43.2++([AV.agg [Ai ya,Ai yb]]))],AV.bool (bif b then false else true)])) (brL1 (fun _=>rfl)) (fun _=>rfl)))))) (brL (br (fun b=>some (AV.tup [AV.agg [AV.fl [.int .i64] (v75_0 xa xb xc),AV.fl [.int .i64] (v75_1 xa xb xc),AV.fl [.int .i64,.int .i64] (bif b then (v75_2 xa xb xc) else (bif !(v51_0 (v75_0 xa xb xc) (v75_1 xa xb xc) p43.2) then (v75_2 xa xb xc) else p43.2))],AV.bool (bif b then false else (bif !(v51_0 (v75_0 xa xb xc) (v75_1 xa xb xc) p43.2) then false else true))])) (brL1 (fun _=>rfl)) (brL (br (fun b=>some (AV.tup [AV.agg [AV.fl [.int .i64] (v75_0 xa xb xc),AV.fl [.int .i64] (v75_1 xa xb xc),AV.fl [.int .i64,.int .i64] (bif b then (v75_2 xa xb xc) else p43.2)],AV.bool (bif b then false else true)])) (brL1 (fun _=>rfl)) (fun _=>rfl))))))))) h1)
 ·cases h
noncomputable def c39:Cfg:=cfg Try.prog [(39,999,[4,5,6])] [(51,m51),(52,m52),(73,m73),(74,m74),(75,m75),(76,m76),(77,m77),(78,m78)] [] [] []
def q39 (xa xb xc:List AV) (a1:Int):Bool:=(q51 xa xb xc && (bif !(v51_0 xa xb xc) then q75 xa xb xc else (bif !(v52_0 a1 (-1000) 1000) then q75 xa xb xc else (q73 xa xb xc a1 && (bif (v73_1 xa xb xc a1) then q75 xa xb xc else (q74 xa xb xc a1 && (q76 xa (v74_0 xa xb xc a1) (v74_1 xa xb xc a1) a1 && (q77 xa xb xc (v76_0 xa (v74_0 xa xb xc a1) (v74_1 xa xb xc a1) a1) && q78 (v77_0 xa xb xc (v76_0 xa (v74_0 xa xb xc a1) (v74_1 xa xb xc a1) a1)) (v77_1 xa xb xc (v76_0 xa (v74_0 xa xb xc a1) (v74_1 xa xb xc a1) a1)) (v77_2 xa xb xc (v76_0 xa (v74_0 xa xb xc a1) (v74_1 xa xb xc a1) a1)) a1 (v76_1 xa (v74_0 xa xb xc a1) (v74_1 xa xb xc a1) a1)))))))))
def v39_0 (xa xb xc:List AV) (a1:Int):List AV:=(bif !(v51_0 xa xb xc) then (v75_0 xa xb xc) else (bif !(v52_0 a1 (-1000) 1000) then (v75_0 xa xb xc) else (bif (v73_1 xa xb xc a1) then (v75_0 xa xb xc) else (v78_0 (v77_0 xa xb xc (v76_0 xa (v74_0 xa xb xc a1) (v74_1 xa xb xc a1) a1)) (v77_1 xa xb xc (v76_0 xa (v74_0 xa xb xc a1) (v74_1 xa xb xc a1) a1)) (v77_2 xa xb xc (v76_0 xa (v74_0 xa xb xc a1) (v74_1 xa xb xc a1) a1)) a1 (v76_1 xa (v74_0 xa xb xc a1) (v74_1 xa xb xc a1) a1)))))
def v39_1 (xa xb xc:List AV) (a1:Int):List AV:=(bif !(v51_0 xa xb xc) then (v75_1 xa xb xc) else (bif !(v52_0 a1 (-1000) 1000) then (v75_1 xa xb xc) else (bif (v73_1 xa xb xc a1) then (v75_1 xa xb xc) else (v78_1 (v77_0 xa xb xc (v76_0 xa (v74_0 xa xb xc a1) (v74_1 xa xb xc a1) a1)) (v77_1 xa xb xc (v76_0 xa (v74_0 xa xb xc a1) (v74_1 xa xb xc a1) a1)) (v77_2 xa xb xc (v76_0 xa (v74_0 xa xb xc a1) (v74_1 xa xb xc a1) a1)) a1 (v76_1 xa (v74_0 xa xb xc a1) (v74_1 xa xb xc a1) a1)))))
def v39_2 (xa xb xc:List AV) (a1:Int):List AV:=(bif !(v51_0 xa xb xc) then (v75_2 xa xb xc) else (bif !(v52_0 a1 (-1000) 1000) then (v75_2 xa xb xc) else (bif (v73_1 xa xb xc a1) then (v75_2 xa xb xc) else (v78_2 (v77_0 xa xb xc (v76_0 xa (v74_0 xa xb xc a1) (v74_1 xa xb xc a1) a1)) (v77_1 xa xb xc (v76_0 xa (v74_0 xa xb xc a1) (v74_1 xa xb xc a1) a1)) (v77_2 xa xb xc (v76_0 xa (v74_0 xa xb xc a1) (v74_1 xa xb xc a1) a1)) a1 (v76_1 xa (v74_0 xa xb xc a1) (v74_1 xa xb xc a1) a1)))))
def v39_3 (xa xb xc:List AV) (a1:Int):List AV:=(bif !(v51_0 xa xb xc) then ([]:List AV) else (bif !(v52_0 a1 (-1000) 1000) then ([]:List AV) else (bif (v73_1 xa xb xc a1) then ([]:List AV) else (v76_0 xa (v74_0 xa xb xc a1) (v74_1 xa xb xc a1) a1))))
def v39_4 (xa xb xc:List AV) (a1:Int):Bool:=(bif !(v51_0 xa xb xc) then false else (bif !(v52_0 a1 (-1000) 1000) then false else true))
theorem e39 (xa xb xc:List AV) (a1:Int):funA c39 0 39 [AV.agg [AV.sl [.int .i64] xa,AV.sl [.int .i64] xb,AV.sl [.int .i64,.int .i64] xc],Ai a1]=(bif q51 xa xb xc then (bif !(v51_0 xa xb xc) then (bif q75 xa xb xc then some (AV.tup [AV.agg [AV.fl [.int .i64] (v75_0 xa xb xc),AV.fl [.int .i64] (v75_1 xa xb xc),AV.fl [.int .i64,.int .i64] (v75_2 xa xb xc)],AV.fl [.int .i64,.int .i64] ([]:List AV),AV.bool false])
 else none)
 else (bif !(v52_0 a1 (-1000) 1000) then (bif q75 xa xb xc then some (AV.tup [AV.agg [AV.fl [.int .i64] (v75_0 xa xb xc),AV.fl [.int .i64] (v75_1 xa xb xc),AV.fl [.int .i64,.int .i64] (v75_2 xa xb xc)],AV.fl [.int .i64,.int .i64] ([]:List AV),AV.bool false])
 else none)
 else (bif q73 xa xb xc a1 then (bif (v73_1 xa xb xc a1) then (bif q75 xa xb xc then some (AV.tup [AV.agg [AV.fl [.int .i64] (v75_0 xa xb xc),AV.fl [.int .i64] (v75_1 xa xb xc),AV.fl [.int .i64,.int .i64] (v75_2 xa xb xc)],AV.fl [.int .i64,.int .i64] ([]:List AV),AV.bool true])
 else none)
 else (bif q74 xa xb xc a1 then (bif q76 xa (v74_0 xa xb xc a1) (v74_1 xa xb xc a1) a1 then (bif q77 xa xb xc (v76_0 xa (v74_0 xa xb xc a1) (v74_1 xa xb xc a1) a1) then (bif q78 (v77_0 xa xb xc (v76_0 xa (v74_0 xa xb xc a1) (v74_1 xa xb xc a1) a1)) (v77_1 xa xb xc (v76_0 xa (v74_0 xa xb xc a1) (v74_1 xa xb xc a1) a1)) (v77_2 xa xb xc (v76_0 xa (v74_0 xa xb xc a1) (v74_1 xa xb xc a1) a1)) a1 (v76_1 xa (v74_0 xa xb xc a1) (v74_1 xa xb xc a1) a1) then some (AV.tup [AV.agg [AV.fl [.int .i64] (v78_0 (v77_0 xa xb xc (v76_0 xa (v74_0 xa xb xc a1) (v74_1 xa xb xc a1) a1)) (v77_1 xa xb xc (v76_0 xa (v74_0 xa xb xc a1) (v74_1 xa xb xc a1) a1)) (v77_2 xa xb xc (v76_0 xa (v74_0 xa xb xc a1) (v74_1 xa xb xc a1) a1)) a1 (v76_1 xa (v74_0 xa xb xc a1) (v74_1 xa xb xc a1) a1)),AV.fl [.int .i64] (v78_1 (v77_0 xa xb xc (v76_0 xa (v74_0 xa xb xc a1) (v74_1 xa xb xc a1) a1)) (v77_1 xa xb xc (v76_0 xa (v74_0 xa xb xc a1) (v74_1 xa xb xc a1) a1)) (v77_2 xa xb xc (v76_0 xa (v74_0 xa xb xc a1) (v74_1 xa xb xc a1) a1)) a1 (v76_1 xa (v74_0 xa xb xc a1) (v74_1 xa xb xc a1) a1)),AV.fl [.int .i64,.int .i64] (v78_2 (v77_0 xa xb xc (v76_0 xa (v74_0 xa xb xc a1) (v74_1 xa xb xc a1) a1)) (v77_1 xa xb xc (v76_0 xa (v74_0 xa xb xc a1) (v74_1 xa xb xc a1) a1)) (v77_2 xa xb xc (v76_0 xa (v74_0 xa xb xc a1) (v74_1 xa xb xc a1) a1)) a1 (v76_1 xa (v74_0 xa xb xc a1) (v74_1 xa xb xc a1) a1))],AV.fl [.int .i64,.int .i64] (v76_0 xa (v74_0 xa xb xc a1) (v74_1 xa xb xc a1) a1),AV.bool true])
 else none)
 else none)
 else none)
 else none))
 else none)))
 else none):=by kernel_rfl
def m39:TModel
 | [.agg [.sl g0 xa,.sl g1 xb,.sl g2 xc],.int .i64 a1]=>bif ctsEq g0 ([.int .i64]) && ctsEq g1 ([.int .i64]) && ctsEq g2 ([.int .i64,.int .i64]) then some (q39 xa xb xc a1,AV.tup [AV.agg [AV.fl [.int .i64] (v39_0 xa xb xc a1),AV.fl [.int .i64] (v39_1 xa xb xc a1),AV.fl [.int .i64,.int .i64] (v39_2 xa xb xc a1)],AV.fl [.int .i64,.int .i64] (v39_3 xa xb xc a1),AV.bool (v39_4 xa xb xc a1)]) else none
 | _=>none
theorem k39:Known Try.prog 39:=⟨Try.f39,Try.func39,by kernel_rfl,by kernel_rfl⟩
theorem meets39:Meets Try.prog 39 m39:=by
 refine meet (f:=Try.f39) (l:=[]) (hs:=[(39,999,[4,5,6])]) (ts:=[(51,m51),(52,m52),(73,m73),(74,m74),(75,m75),(76,m76),(77,m77),(78,m78)]) (ws:=[]) (is:=[]) (ls:=[]) (lvl:=0) mixed k39 Try.func39 (by kernel_rfl) noLoop (allT_cons meets51 (allT_cons meets52 (allT_cons meets73 (allT_cons meets74 (allT_cons meets75 (allT_cons meets76 (allT_cons meets77 (allT_cons meets78 allT_nil)))))))) allM_nil noI fun w xs us r hl hv h=>?_
 unfold m39 at h
 split at h
 ·rename_i g0 xa g1 xb g2 xc a1
  obtain ⟨hg,h⟩:=bif_pair h
  simp only [Bool.and_eq_true] at hg
  obtain ⟨⟨q0,q1⟩,q2⟩:=hg
  obtain rfl:=ctsEq_eq _ _ q0
  obtain rfl:=ctsEq_eq _ _ q1
  obtain rfl:=ctsEq_eq _ _ q2
  obtain ⟨h1,rfl⟩:=pair_inj h
  exact (e39 xa xb xc a1).trans ((brL (br (fun b=>some (AV.tup [AV.agg [AV.fl [.int .i64] (bif b then (v75_0 xa xb xc) else (bif !(v52_0 a1 (-1000) 1000) then (v75_0 xa xb xc) else (bif (v73_1 xa xb xc a1) then (v75_0 xa xb xc) else (v78_0 (v77_0 xa xb xc (v76_0 xa (v74_0 xa xb xc a1) (v74_1 xa xb xc a1) a1)) (v77_1 xa xb xc (v76_0 xa (v74_0 xa xb xc a1) (v74_1 xa xb xc a1) a1)) (v77_2 xa xb xc (v76_0 xa (v74_0 xa xb xc a1) (v74_1 xa xb xc a1) a1)) a1 (v76_1 xa (v74_0 xa xb xc a1) (v74_1 xa xb xc a1) a1))))),AV.fl [.int .i64] (bif b then (v75_1 xa xb xc) else (bif !(v52_0 a1 (-1000) 1000) then (v75_1 xa xb xc) else (bif (v73_1 xa xb xc a1) then (v75_1 xa xb xc) else (v78_1 (v77_0 xa xb xc (v76_0 xa (v74_0 xa xb xc a1) (v74_1 xa xb xc a1) a1)) (v77_1 xa xb xc (v76_0 xa (v74_0 xa xb xc a1) (v74_1 xa xb xc a1) a1)) (v77_2 xa xb xc (v76_0 xa (v74_0 xa xb xc a1) (v74_1 xa xb xc a1) a1)) a1 (v76_1 xa (v74_0 xa xb xc a1) (v74_1 xa xb xc a1) a1))))),AV.fl [.int .i64,.int .i64] (bif b then (v75_2 xa xb xc) else (bif !(v52_0 a1 (-1000) 1000) then (v75_2 xa xb xc) else (bif (v73_1 xa xb xc a1) then (v75_2 xa xb xc) else (v78_2 (v77_0 xa xb xc (v76_0 xa (v74_0 xa xb xc a1) (v74_1 xa xb xc a1) a1)) (v77_1 xa xb xc (v76_0 xa (v74_0 xa xb xc a1) (v74_1 xa xb xc a1) a1)) (v77_2 xa xb xc (v76_0 xa (v74_0 xa xb xc a1) (v74_1 xa xb xc a1) a1)) a1 (v76_1 xa (v74_0 xa xb xc a1) (v74_1 xa xb xc a1) a1)))))],AV.fl [.int .i64,.int .i64] (bif b then ([]:List AV) else (bif !(v52_0 a1 (-1000) 1000) then ([]:List AV) else (bif (v73_1 xa xb xc a1) then ([]:List AV) else (v76_0 xa (v74_0 xa xb xc a1) (v74_1 xa xb xc a1) a1)))),AV.bool (bif b then false else (bif !(v52_0 a1 (-1000) 1000) then false else true))])) (brL1 (fun _=>rfl)) (br (fun b=>some (AV.tup [AV.agg [AV.fl [.int .i64] (bif b then (v75_0 xa xb xc) else (bif (v73_1 xa xb xc a1) then (v75_0 xa xb xc) else (v78_0 (v77_0 xa xb xc (v76_0 xa (v74_0 xa xb xc a1) (v74_1 xa xb xc a1) a1)) (v77_1 xa xb xc (v76_0 xa (v74_0 xa xb xc a1) (v74_1 xa xb xc a1) a1)) (v77_2 xa xb xc (v76_0 xa (v74_0 xa xb xc a1) (v74_1 xa xb xc a1) a1)) a1 (v76_1 xa (v74_0 xa xb xc a1) (v74_1 xa xb xc a1) a1)))),AV.fl [.int .i64] (bif b then (v75_1 xa xb xc) else (bif (v73_1 xa xb xc a1) then (v75_1 xa xb xc) else (v78_1 (v77_0 xa xb xc (v76_0 xa (v74_0 xa xb xc a1) (v74_1 xa xb xc a1) a1)) (v77_1 xa xb xc (v76_0 xa (v74_0 xa xb xc a1) (v74_1 xa xb xc a1) a1)) (v77_2 xa xb xc (v76_0 xa (v74_0 xa xb xc a1) (v74_1 xa xb xc a1) a1)) a1 (v76_1 xa (v74_0 xa xb xc a1) (v74_1 xa xb xc a1) a1)))),AV.fl [.int .i64,.int .i64] (bif b then (v75_2 xa xb xc) else (bif (v73_1 xa xb xc a1) then (v75_2 xa xb xc) else (v78_2 (v77_0 xa xb xc (v76_0 xa (v74_0 xa xb xc a1) (v74_1 xa xb xc a1) a1)) (v77_1 xa xb xc (v76_0 xa (v74_0 xa xb xc a1) (v74_1 xa xb xc a1) a1)) (v77_2 xa xb xc (v76_0 xa (v74_0 xa xb xc a1) (v74_1 xa xb xc a1) a1)) a1 (v76_1 xa (v74_0 xa xb xc a1) (v74_1 xa xb xc a1) a1))))],AV.fl [.int .i64,.int .i64] (bif b then ([]:List AV) else (bif (v73_1 xa xb xc a1) then ([]:List AV) else (v76_0 xa (v74_0 xa xb xc a1) (v74_1 xa xb xc a1) a1))),AV.bool (bif b then false else true)])) (brL1 (fun _=>rfl)) (brL (br (fun b=>some (AV.tup [AV.agg [AV.fl [.int .i64] (bif b then (v75_0 xa xb xc) else (v78_0 (v77_0 xa xb xc (v76_0 xa (v74_0 xa xb xc a1) (v74_1 xa xb xc a1) a1)) (v77_1 xa xb xc (v76_0 xa (v74_0 xa xb xc a1) (v74_1 xa xb xc a1) a1)) (v77_2 xa xb xc (v76_0 xa (v74_0 xa xb xc a1) (v74_1 xa xb xc a1) a1)) a1 (v76_1 xa (v74_0 xa xb xc a1) (v74_1 xa xb xc a1) a1))),AV.fl [.int .i64] (bif b then (v75_1 xa xb xc) else (v78_1 (v77_0 xa xb xc (v76_0 xa (v74_0 xa xb xc a1) (v74_1 xa xb xc a1) a1)) (v77_1 xa xb xc (v76_0 xa (v74_0 xa xb xc a1) (v74_1 xa xb xc a1) a1)) (v77_2 xa xb xc (v76_0 xa (v74_0 xa xb xc a1) (v74_1 xa xb xc a1) a1)) a1 (v76_1 xa (v74_0 xa xb xc a1) (v74_1 xa xb xc a1) a1))),AV.fl [.int .i64,.int .i64] (bif b then (v75_2 xa xb xc) else (v78_2 (v77_0 xa xb xc (v76_0 xa (v74_0 xa xb xc a1) (v74_1 xa xb xc a1) a1)) (v77_1 xa xb xc (v76_0 xa (v74_0 xa xb xc a1) (v74_1 xa xb xc a1) a1)) (v77_2 xa xb xc (v76_0 xa (v74_0 xa xb xc a1) (v74_1 xa xb xc a1) a1)) a1 (v76_1 xa (v74_0 xa xb xc a1) (v74_1 xa xb xc a1) a1)))],AV.fl [.int .i64,.int .i64] (bif b then ([]:List AV) else (v76_0 xa (v74_0 xa xb xc a1) (v74_1 xa xb xc a1) a1)),AV.bool true])) (brL1 (fun _=>rfl)) (brL (brL (brL (brL1 (fun _=>rfl)))))))))) h1)
 ·cases h
end
end Go.Proofs.Ytkdnhnkhcldonaa
