import Derived.Test.YtbmfgibbjchijaaGreatP11
import Derived.Test.YtbmfgibbjchijaaGreatProg
import Derived.KernelRfl
import Derived.Test.YtbmfgibbjchijaaGreatP3
namespace Go.Proofs.YtbmfgibbjchijaaGreat
open Go Go.Proofs.VE
set_option linter.unusedVariables false
set_option linter.unusedSimpArgs false
set_option maxRecDepth 100000
set_option maxHeartbeats 4000000
noncomputable section
def G15_0_s0 {β:Type} (t1:Int) (t17:List AV) (t18:Int) (t19:Int) (h0_0:List AV) (h0_1:Int) (h0_2:List AV) (h0_3:List AV) (h0_4:List AV) (h1:List AV) (h2:List AV) (h3:Int) (h4:List AV) (h5:Int) (N:((Int × (List AV) × Int × (List AV) × (List AV) × (List AV) × (List AV) × (List AV) × Int × (List AV) × Int) ⊕ (Int × (List AV) × (List AV) × Int × (List AV) × (List AV) × (List AV) × (List AV) × (List AV) × Int × (List AV) × Int))→β) (K:(((List AV) × Int × (List AV) × (List AV) × (List AV) × (List AV) × (List AV) × Int × (List AV) × Int) ⊕ ((List AV) × (List AV) × Int × (List AV) × (List AV) × (List AV) × (List AV) × (List AV) × Int × (List AV) × Int))→β) (d:β):β:=(bif decide (t19<t18) then (bif (decide (0≤t19) && decide (t19<(t17.length:Int))) then (bif decide (fI (t17.getD t19.toNat .undef) 3=(-1)) then (bif (decide ((([AV.agg [AV.int .i64 (fI (t17.getD t19.toNat .undef) 0),AV.int .i64 (fI (t17.getD t19.toNat .undef) 1),AV.int .i64 (fI (t17.getD t19.toNat .undef) 2),AV.int .i64 (fI (t17.getD t19.toNat .undef) 3)]]).length)*32≤140737488355328) && decide ((([AV.agg [AV.int .i64 (fI (t17.getD t19.toNat .undef) 0),AV.int .i64 (fI (t17.getD t19.toNat .undef) 1),AV.int .i64 (fI (t17.getD t19.toNat .undef) 2),AV.int .i64 (fI (t17.getD t19.toNat .undef) 3)]]).length)≤140737488355328)) then N (.inr (IntKind.i64.wrap (t19+1),[AV.agg [AV.int .i64 (fI (t17.getD t19.toNat .undef) 0),AV.int .i64 (fI (t17.getD t19.toNat .undef) 1),AV.int .i64 (fI (t17.getD t19.toNat .undef) 2),AV.int .i64 (fI (t17.getD t19.toNat .undef) 3)]],h0_0,h0_1,h0_2,h0_3,h0_4,h1,h2,h3,h4,h5))
 else d)
 else (bif decide (fI (t17.getD t19.toNat .undef) 3 > t1) then (bif (decide ((([AV.agg [AV.int .i64 (fI (t17.getD t19.toNat .undef) 0),AV.int .i64 (fI (t17.getD t19.toNat .undef) 1),AV.int .i64 (fI (t17.getD t19.toNat .undef) 2),AV.int .i64 (fI (t17.getD t19.toNat .undef) 3)]]).length)*32≤140737488355328) && decide ((([AV.agg [AV.int .i64 (fI (t17.getD t19.toNat .undef) 0),AV.int .i64 (fI (t17.getD t19.toNat .undef) 1),AV.int .i64 (fI (t17.getD t19.toNat .undef) 2),AV.int .i64 (fI (t17.getD t19.toNat .undef) 3)]]).length)≤140737488355328)) then N (.inr (IntKind.i64.wrap (t19+1),[AV.agg [AV.int .i64 (fI (t17.getD t19.toNat .undef) 0),AV.int .i64 (fI (t17.getD t19.toNat .undef) 1),AV.int .i64 (fI (t17.getD t19.toNat .undef) 2),AV.int .i64 (fI (t17.getD t19.toNat .undef) 3)]],h0_0,h0_1,h0_2,h0_3,h0_4,h1,h2,h3,h4,h5))
 else d)
 else (bif q59 h1 h2 h4 (fI (t17.getD t19.toNat .undef) 1) then N (.inl (IntKind.i64.wrap (t19+1),h0_0,h0_1,h0_2,h0_3,h0_4,(v59_0 h1 h2 h4 (fI (t17.getD t19.toNat .undef) 1)),(v59_1 h1 h2 h4 (fI (t17.getD t19.toNat .undef) 1)),h3,(v59_2 h1 h2 h4 (fI (t17.getD t19.toNat .undef) 1)),h5))
 else d)))
 else d)
 else K (.inl (h0_0,h0_1,h0_2,h0_3,h0_4,h1,h2,h3,h4,h5)))
def F15_0_s0 (t1:Int) (t17:List AV) (t18 t19:Int) (h0_0:List AV) (h0_1:Int) (h0_2 h0_3 h0_4 h1 h2:List AV) (h3:Int) (h4:List AV) (h5:Int):Out ((Int × (List AV) × Int × (List AV) × (List AV) × (List AV) × (List AV) × (List AV) × Int × (List AV) × Int) ⊕ (Int × (List AV) × (List AV) × Int × (List AV) × (List AV) × (List AV) × (List AV) × (List AV) × Int × (List AV) × Int)) (((List AV) × Int × (List AV) × (List AV) × (List AV) × (List AV) × (List AV) × Int × (List AV) × Int) ⊕ ((List AV) × (List AV) × Int × (List AV) × (List AV) × (List AV) × (List AV) × (List AV) × Int × (List AV) × Int)):=G15_0_s0 t1 t17 t18 t19 h0_0 h0_1 h0_2 h0_3 h0_4 h1 h2 h3 h4 h5 .next .stop .fail
def G15_0_s1 {β:Type} (t1:Int) (t17:List AV) (t18:Int) (t19:Int) (h0:List AV) (h1_0:List AV) (h1_1:Int) (h1_2:List AV) (h1_3:List AV) (h1_4:List AV) (h2:List AV) (h3:List AV) (h4:Int) (h5:List AV) (h6:Int) (N:((Int × (List AV) × Int × (List AV) × (List AV) × (List AV) × (List AV) × (List AV) × Int × (List AV) × Int) ⊕ (Int × (List AV) × (List AV) × Int × (List AV) × (List AV) × (List AV) × (List AV) × (List AV) × Int × (List AV) × Int))→β) (K:(((List AV) × Int × (List AV) × (List AV) × (List AV) × (List AV) × (List AV) × Int × (List AV) × Int) ⊕ ((List AV) × (List AV) × Int × (List AV) × (List AV) × (List AV) × (List AV) × (List AV) × Int × (List AV) × Int))→β) (d:β):β:=(bif decide (t19<t18) then (bif (decide (0≤t19) && decide (t19<(t17.length:Int))) then (bif decide (fI (t17.getD t19.toNat .undef) 3=(-1)) then (bif (decide ((h0.length+([AV.agg [AV.int .i64 (fI (t17.getD t19.toNat .undef) 0),AV.int .i64 (fI (t17.getD t19.toNat .undef) 1),AV.int .i64 (fI (t17.getD t19.toNat .undef) 2),AV.int .i64 (fI (t17.getD t19.toNat .undef) 3)]]).length)*32≤140737488355328) && decide ((h0.length+([AV.agg [AV.int .i64 (fI (t17.getD t19.toNat .undef) 0),AV.int .i64 (fI (t17.getD t19.toNat .undef) 1),AV.int .i64 (fI (t17.getD t19.toNat .undef) 2),AV.int .i64 (fI (t17.getD t19.toNat .undef) 3)]]).length)≤140737488355328)) then N (.inr (IntKind.i64.wrap (t19+1),h0++([AV.agg [AV.int .i64 (fI (t17.getD t19.toNat .undef) 0),AV.int .i64 (fI (t17.getD t19.toNat .undef) 1),AV.int .i64 (fI (t17.getD t19.toNat .undef) 2),AV.int .i64 (fI (t17.getD t19.toNat .undef) 3)]]),h1_0,h1_1,h1_2,h1_3,h1_4,h2,h3,h4,h5,h6))
 else d)
 else (bif decide (fI (t17.getD t19.toNat .undef) 3 > t1) then (bif (decide ((h0.length+([AV.agg [AV.int .i64 (fI (t17.getD t19.toNat .undef) 0),AV.int .i64 (fI (t17.getD t19.toNat .undef) 1),AV.int .i64 (fI (t17.getD t19.toNat .undef) 2),AV.int .i64 (fI (t17.getD t19.toNat .undef) 3)]]).length)*32≤140737488355328) && decide ((h0.length+([AV.agg [AV.int .i64 (fI (t17.getD t19.toNat .undef) 0),AV.int .i64 (fI (t17.getD t19.toNat .undef) 1),AV.int .i64 (fI (t17.getD t19.toNat .undef) 2),AV.int .i64 (fI (t17.getD t19.toNat .undef) 3)]]).length)≤140737488355328)) then N (.inr (IntKind.i64.wrap (t19+1),h0++([AV.agg [AV.int .i64 (fI (t17.getD t19.toNat .undef) 0),AV.int .i64 (fI (t17.getD t19.toNat .undef) 1),AV.int .i64 (fI (t17.getD t19.toNat .undef) 2),AV.int .i64 (fI (t17.getD t19.toNat .undef) 3)]]),h1_0,h1_1,h1_2,h1_3,h1_4,h2,h3,h4,h5,h6))
 else d)
 else (bif q59 h2 h3 h5 (fI (t17.getD t19.toNat .undef) 1) then N (.inr (IntKind.i64.wrap (t19+1),h0,h1_0,h1_1,h1_2,h1_3,h1_4,(v59_0 h2 h3 h5 (fI (t17.getD t19.toNat .undef) 1)),(v59_1 h2 h3 h5 (fI (t17.getD t19.toNat .undef) 1)),h4,(v59_2 h2 h3 h5 (fI (t17.getD t19.toNat .undef) 1)),h6))
 else d)))
 else d)
 else K (.inr (h0,h1_0,h1_1,h1_2,h1_3,h1_4,h2,h3,h4,h5,h6)))
def F15_0_s1 (t1:Int) (t17:List AV) (t18 t19:Int) (h0 h1_0:List AV) (h1_1:Int) (h1_2 h1_3 h1_4 h2 h3:List AV) (h4:Int) (h5:List AV) (h6:Int):Out ((Int × (List AV) × Int × (List AV) × (List AV) × (List AV) × (List AV) × (List AV) × Int × (List AV) × Int) ⊕ (Int × (List AV) × (List AV) × Int × (List AV) × (List AV) × (List AV) × (List AV) × (List AV) × Int × (List AV) × Int)) (((List AV) × Int × (List AV) × (List AV) × (List AV) × (List AV) × (List AV) × Int × (List AV) × Int) ⊕ ((List AV) × (List AV) × Int × (List AV) × (List AV) × (List AV) × (List AV) × (List AV) × Int × (List AV) × Int)):=G15_0_s1 t1 t17 t18 t19 h0 h1_0 h1_1 h1_2 h1_3 h1_4 h2 h3 h4 h5 h6 .next .stop .fail
def R15_0 (t1:Int) (t17:List AV) (t18:Int):((Int × (List AV) × Int × (List AV) × (List AV) × (List AV) × (List AV) × (List AV) × Int × (List AV) × Int) ⊕ (Int × (List AV) × (List AV) × Int × (List AV) × (List AV) × (List AV) × (List AV) × (List AV) × Int × (List AV) × Int))→Out ((Int × (List AV) × Int × (List AV) × (List AV) × (List AV) × (List AV) × (List AV) × Int × (List AV) × Int) ⊕ (Int × (List AV) × (List AV) × Int × (List AV) × (List AV) × (List AV) × (List AV) × (List AV) × Int × (List AV) × Int)) (((List AV) × Int × (List AV) × (List AV) × (List AV) × (List AV) × (List AV) × Int × (List AV) × Int) ⊕ ((List AV) × (List AV) × Int × (List AV) × (List AV) × (List AV) × (List AV) × (List AV) × Int × (List AV) × Int)):=sumE (fun s:Int × (List AV) × Int × (List AV) × (List AV) × (List AV) × (List AV) × (List AV) × Int × (List AV) × Int=>F15_0_s0 t1 t17 t18 s.1 s.2.1 s.2.2.1 s.2.2.2.1 s.2.2.2.2.1 s.2.2.2.2.2.1 s.2.2.2.2.2.2.1 s.2.2.2.2.2.2.2.1 s.2.2.2.2.2.2.2.2.1 s.2.2.2.2.2.2.2.2.2.1 s.2.2.2.2.2.2.2.2.2.2) (fun s:Int × (List AV) × (List AV) × Int × (List AV) × (List AV) × (List AV) × (List AV) × (List AV) × Int × (List AV) × Int=>F15_0_s1 t1 t17 t18 s.1 s.2.1 s.2.2.1 s.2.2.2.1 s.2.2.2.2.1 s.2.2.2.2.2.1 s.2.2.2.2.2.2.1 s.2.2.2.2.2.2.2.1 s.2.2.2.2.2.2.2.2.1 s.2.2.2.2.2.2.2.2.2.1 s.2.2.2.2.2.2.2.2.2.2.1 s.2.2.2.2.2.2.2.2.2.2.2)
def E15_0 (t1:Int) (t17:List AV) (t18:Int):((Int × (List AV) × Int × (List AV) × (List AV) × (List AV) × (List AV) × (List AV) × Int × (List AV) × Int) ⊕ (Int × (List AV) × (List AV) × Int × (List AV) × (List AV) × (List AV) × (List AV) × (List AV) × Int × (List AV) × Int))→St:=sumE (fun s:Int × (List AV) × Int × (List AV) × (List AV) × (List AV) × (List AV) × (List AV) × Int × (List AV) × Int=>⟨[(1,Ai t1),(2,AV.ptr [0,2] 0 0),(4,AV.ptr [0,4] 0 0),(6,AV.ptr [0,6] 0 0),(17,AV.sl [.int .i64,.int .i64,.int .i64,.int .i64] t17),(18,Ai t18),(19,Ai s.1)],[([0,2],⟨true,[],[AV.agg [AV.sl [.int .i64,.int .i64,.int .i64,.int .i64] s.2.1,Ai s.2.2.1,AV.sl [.int .i64] s.2.2.2.1,AV.sl [.int .i64] s.2.2.2.2.1,AV.sl [.int .i64,.int .i64] s.2.2.2.2.2.1]]⟩),([0,2,6],⟨false,[.int .i64],s.2.2.2.2.2.2.1⟩),([0,3,6],⟨false,[.int .i64],s.2.2.2.2.2.2.2.1⟩),([0,4],⟨true,[],[AV.agg [AV.snil,Ai s.2.2.2.2.2.2.2.2.1,AV.snil,AV.snil,AV.snil]]⟩),([0,4,6],⟨false,[.int .i64,.int .i64],s.2.2.2.2.2.2.2.2.2.1⟩),([0,6],⟨true,[],[AV.agg [AV.snil,Ai s.2.2.2.2.2.2.2.2.2.2,AV.own [0,2,6],AV.own [0,3,6],AV.own [0,4,6]]]⟩)]⟩) (fun s:Int × (List AV) × (List AV) × Int × (List AV) × (List AV) × (List AV) × (List AV) × (List AV) × Int × (List AV) × Int=>⟨[(1,Ai t1),(2,AV.ptr [0,2] 0 0),(4,AV.ptr [0,4] 0 0),(6,AV.ptr [0,6] 0 0),(17,AV.sl [.int .i64,.int .i64,.int .i64,.int .i64] t17),(18,Ai t18),(19,Ai s.1)],[([0,0,6],⟨false,[.int .i64,.int .i64,.int .i64,.int .i64],s.2.1⟩),([0,2],⟨true,[],[AV.agg [AV.sl [.int .i64,.int .i64,.int .i64,.int .i64] s.2.2.1,Ai s.2.2.2.1,AV.sl [.int .i64] s.2.2.2.2.1,AV.sl [.int .i64] s.2.2.2.2.2.1,AV.sl [.int .i64,.int .i64] s.2.2.2.2.2.2.1]]⟩),([0,2,6],⟨false,[.int .i64],s.2.2.2.2.2.2.2.1⟩),([0,3,6],⟨false,[.int .i64],s.2.2.2.2.2.2.2.2.1⟩),([0,4],⟨true,[],[AV.agg [AV.snil,Ai s.2.2.2.2.2.2.2.2.2.1,AV.snil,AV.snil,AV.snil]]⟩),([0,4,6],⟨false,[.int .i64,.int .i64],s.2.2.2.2.2.2.2.2.2.2.1⟩),([0,6],⟨true,[],[AV.agg [AV.own [0,0,6],Ai s.2.2.2.2.2.2.2.2.2.2.2,AV.own [0,2,6],AV.own [0,3,6],AV.own [0,4,6]]]⟩)]⟩)
def K15_0 (t1:Int) (t17:List AV) (t18:Int) (k:Kont):(((List AV) × Int × (List AV) × (List AV) × (List AV) × (List AV) × (List AV) × Int × (List AV) × Int) ⊕ ((List AV) × (List AV) × Int × (List AV) × (List AV) × (List AV) × (List AV) × (List AV) × Int × (List AV) × Int))→Option AV:=sumE (fun p:(List AV) × Int × (List AV) × (List AV) × (List AV) × (List AV) × (List AV) × Int × (List AV) × Int=>k (.exit 0) ⟨[(2,AV.ptr [0,2] 0 0),(4,AV.ptr [0,4] 0 0),(6,AV.ptr [0,6] 0 0)],[([0,2],⟨true,[],[AV.agg [AV.sl [.int .i64,.int .i64,.int .i64,.int .i64] p.1,Ai p.2.1,AV.sl [.int .i64] p.2.2.1,AV.sl [.int .i64] p.2.2.2.1,AV.sl [.int .i64,.int .i64] p.2.2.2.2.1]]⟩),([0,2,6],⟨false,[.int .i64],p.2.2.2.2.2.1⟩),([0,3,6],⟨false,[.int .i64],p.2.2.2.2.2.2.1⟩),([0,4],⟨true,[],[AV.agg [AV.snil,Ai p.2.2.2.2.2.2.2.1,AV.snil,AV.snil,AV.snil]]⟩),([0,4,6],⟨false,[.int .i64,.int .i64],p.2.2.2.2.2.2.2.2.1⟩),([0,6],⟨true,[],[AV.agg [AV.snil,Ai p.2.2.2.2.2.2.2.2.2,AV.own [0,2,6],AV.own [0,3,6],AV.own [0,4,6]]]⟩)]⟩) (fun p:(List AV) × (List AV) × Int × (List AV) × (List AV) × (List AV) × (List AV) × (List AV) × Int × (List AV) × Int=>k (.exit 0) ⟨[(2,AV.ptr [0,2] 0 0),(4,AV.ptr [0,4] 0 0),(6,AV.ptr [0,6] 0 0)],[([0,0,6],⟨false,[.int .i64,.int .i64,.int .i64,.int .i64],p.1⟩),([0,2],⟨true,[],[AV.agg [AV.sl [.int .i64,.int .i64,.int .i64,.int .i64] p.2.1,Ai p.2.2.1,AV.sl [.int .i64] p.2.2.2.1,AV.sl [.int .i64] p.2.2.2.2.1,AV.sl [.int .i64,.int .i64] p.2.2.2.2.2.1]]⟩),([0,2,6],⟨false,[.int .i64],p.2.2.2.2.2.2.1⟩),([0,3,6],⟨false,[.int .i64],p.2.2.2.2.2.2.2.1⟩),([0,4],⟨true,[],[AV.agg [AV.snil,Ai p.2.2.2.2.2.2.2.2.1,AV.snil,AV.snil,AV.snil]]⟩),([0,4,6],⟨false,[.int .i64,.int .i64],p.2.2.2.2.2.2.2.2.2.1⟩),([0,6],⟨true,[],[AV.agg [AV.own [0,0,6],Ai p.2.2.2.2.2.2.2.2.2.2,AV.own [0,2,6],AV.own [0,3,6],AV.own [0,4,6]]]⟩)]⟩)
def l15_0:LModel:=fun _ _ st k=>match st with
 | ⟨[(1,.int .i64 t1),(2,.ptr g0 g1 g2),(4,.ptr g3 g4 g5),(6,.ptr g6 g7 g8),(17,.sl g9 t17),(18,.int .i64 t18),(19,.int .i64 t19)],[(g10,⟨true,[],[.agg [.sl g11 h0_0,.int .i64 h0_1,.sl g12 h0_2,.sl g13 h0_3,.sl g14 h0_4]]⟩),(g15,⟨false,g16,h1⟩),(g17,⟨false,g18,h2⟩),(g19,⟨true,[],[.agg [.snil,.int .i64 h3,.snil,.snil,.snil]]⟩),(g20,⟨false,g21,h4⟩),(g22,⟨true,[],[.agg [.snil,.int .i64 h5,.own g23,.own g24,.own g25]]⟩)]⟩=>bif nmEq g0 ([0,2]) && Nat.beq g1 0 && Nat.beq g2 0 && nmEq g3 ([0,4]) && Nat.beq g4 0 && Nat.beq g5 0 && nmEq g6 ([0,6]) && Nat.beq g7 0 && Nat.beq g8 0 && ctsEq g9 ([.int .i64,.int .i64,.int .i64,.int .i64]) && nmEq g10 ([0,2]) && ctsEq g11 ([.int .i64,.int .i64,.int .i64,.int .i64]) && ctsEq g12 ([.int .i64]) && ctsEq g13 ([.int .i64]) && ctsEq g14 ([.int .i64,.int .i64]) && nmEq g15 ([0,2,6]) && ctsEq g16 ([.int .i64]) && nmEq g17 ([0,3,6]) && ctsEq g18 ([.int .i64]) && nmEq g19 ([0,4]) && nmEq g20 ([0,4,6]) && ctsEq g21 ([.int .i64,.int .i64]) && nmEq g22 ([0,6]) && nmEq g23 ([0,2,6]) && nmEq g24 ([0,3,6]) && nmEq g25 ([0,4,6]) then ro (runW (R15_0 t1 t17 t18) ((t18 - t19:Int).toNat+1) (.inl (t19,h0_0,h0_1,h0_2,h0_3,h0_4,h1,h2,h3,h4,h5))) none (K15_0 t1 t17 t18 k) else none
 | ⟨[(1,.int .i64 t1),(2,.ptr g0 g1 g2),(4,.ptr g3 g4 g5),(6,.ptr g6 g7 g8),(17,.sl g9 t17),(18,.int .i64 t18),(19,.int .i64 t19)],[(g10,⟨false,g11,h0⟩),(g12,⟨true,[],[.agg [.sl g13 h1_0,.int .i64 h1_1,.sl g14 h1_2,.sl g15 h1_3,.sl g16 h1_4]]⟩),(g17,⟨false,g18,h2⟩),(g19,⟨false,g20,h3⟩),(g21,⟨true,[],[.agg [.snil,.int .i64 h4,.snil,.snil,.snil]]⟩),(g22,⟨false,g23,h5⟩),(g24,⟨true,[],[.agg [.own g25,.int .i64 h6,.own g26,.own g27,.own g28]]⟩)]⟩=>bif nmEq g0 ([0,2]) && Nat.beq g1 0 && Nat.beq g2 0 && nmEq g3 ([0,4]) && Nat.beq g4 0 && Nat.beq g5 0 && nmEq g6 ([0,6]) && Nat.beq g7 0 && Nat.beq g8 0 && ctsEq g9 ([.int .i64,.int .i64,.int .i64,.int .i64]) && nmEq g10 ([0,0,6]) && ctsEq g11 ([.int .i64,.int .i64,.int .i64,.int .i64]) && nmEq g12 ([0,2]) && ctsEq g13 ([.int .i64,.int .i64,.int .i64,.int .i64]) && ctsEq g14 ([.int .i64]) && ctsEq g15 ([.int .i64]) && ctsEq g16 ([.int .i64,.int .i64]) && nmEq g17 ([0,2,6]) && ctsEq g18 ([.int .i64]) && nmEq g19 ([0,3,6]) && ctsEq g20 ([.int .i64]) && nmEq g21 ([0,4]) && nmEq g22 ([0,4,6]) && ctsEq g23 ([.int .i64,.int .i64]) && nmEq g24 ([0,6]) && nmEq g25 ([0,0,6]) && nmEq g26 ([0,2,6]) && nmEq g27 ([0,3,6]) && nmEq g28 ([0,4,6]) then ro (runW (R15_0 t1 t17 t18) ((t18 - t19:Int).toNat+1) (.inr (t19,h0,h1_0,h1_1,h1_2,h1_3,h1_4,h2,h3,h4,h5,h6))) none (K15_0 t1 t17 t18 k) else none
 | _=>none
noncomputable def c15:Cfg:=cfg Tryz.prog [(15,0,[1,2,4,6,17,18,19]),(15,999,[4,5]),(15,1000,[2,4,6]),(15,1001,[1,2,4,6,17,18,19])] [(17,m17),(44,m44),(59,m59)] [] [] [(15,0,l15_0)]
theorem s15_0_s0 (t1:Int) (t17:List AV) (t18:Int) (ce:CallE) (k:Kont) (s:Int × (List AV) × Int × (List AV) × (List AV) × (List AV) × (List AV) × (List AV) × Int × (List AV) × Int) (next:St→Option AV):stepA (codeA c15 ce [] 15 0 (sub [1,1,1,1,0,1,0,0] (body Tryz.f15))) (normA [] [1,2,4,6,17,18,19]) next ((E15_0 t1 t17 t18) (.inl s)) k=G15_0_s0 t1 t17 t18 s.1 s.2.1 s.2.2.1 s.2.2.2.1 s.2.2.2.2.1 s.2.2.2.2.2.1 s.2.2.2.2.2.2.1 s.2.2.2.2.2.2.2.1 s.2.2.2.2.2.2.2.2.1 s.2.2.2.2.2.2.2.2.2.1 s.2.2.2.2.2.2.2.2.2.2 (fun s=>next ((E15_0 t1 t17 t18) s)) (K15_0 t1 t17 t18 k) none:=by kernel_rfl
theorem s15_0_s1 (t1:Int) (t17:List AV) (t18:Int) (ce:CallE) (k:Kont) (s:Int × (List AV) × (List AV) × Int × (List AV) × (List AV) × (List AV) × (List AV) × (List AV) × Int × (List AV) × Int) (next:St→Option AV):stepA (codeA c15 ce [] 15 0 (sub [1,1,1,1,0,1,0,0] (body Tryz.f15))) (normA [] [1,2,4,6,17,18,19]) next ((E15_0 t1 t17 t18) (.inr s)) k=G15_0_s1 t1 t17 t18 s.1 s.2.1 s.2.2.1 s.2.2.2.1 s.2.2.2.2.1 s.2.2.2.2.2.1 s.2.2.2.2.2.2.1 s.2.2.2.2.2.2.2.1 s.2.2.2.2.2.2.2.2.1 s.2.2.2.2.2.2.2.2.2.1 s.2.2.2.2.2.2.2.2.2.2.1 s.2.2.2.2.2.2.2.2.2.2.2 (fun s=>next ((E15_0 t1 t17 t18) s)) (K15_0 t1 t17 t18 k) none:=by kernel_rfl
theorem st15_0 (t1:Int) (t17:List AV) (t18:Int) (ce:CallE) (k:Kont) (s:(Int × (List AV) × Int × (List AV) × (List AV) × (List AV) × (List AV) × (List AV) × Int × (List AV) × Int) ⊕ (Int × (List AV) × (List AV) × Int × (List AV) × (List AV) × (List AV) × (List AV) × (List AV) × Int × (List AV) × Int)) (next:St→Option AV):stepA (codeA c15 ce [] 15 0 (sub [1,1,1,1,0,1,0,0] (body Tryz.f15))) (normA [] [1,2,4,6,17,18,19]) next ((E15_0 t1 t17 t18) s) k=(R15_0 t1 t17 t18 s).el none (fun s=>next ((E15_0 t1 t17 t18) s)) (K15_0 t1 t17 t18 k):=(match s with | .inl s=>(s15_0_s0 t1 t17 t18 ce k s next).trans (by unfold R15_0;unfold F15_0_s0 G15_0_s0;simp only [el_cond,el_ro,el_sum,el_fail,el_next,el_stop] <;> rfl) | .inr s=>(s15_0_s1 t1 t17 t18 ce k s next).trans (by unfold R15_0;unfold F15_0_s1 G15_0_s1;simp only [el_cond,el_ro,el_sum,el_fail,el_next,el_stop] <;> rfl))
theorem ok15_0 {ce:CallE}:LoopOK c15 ce [] 15 0 (sub [1,1,1,1,0,1,0,0] (body Tryz.f15)):=by
 intro m hm st k r h
 obtain rfl:l15_0=m:=Option.some.inj hm
 unfold l15_0 at h
 split at h
 ·rename_i t1 g0 g1 g2 g3 g4 g5 g6 g7 g8 g9 t17 t18 t19 g10 g11 h0_0 h0_1 g12 h0_2 g13 h0_3 g14 h0_4 g15 g16 h1 g17 g18 h2 g19 h3 g20 g21 h4 g22 h5 g23 g24 g25
  obtain ⟨hg,h⟩:=bif_some h
  simp only [Bool.and_eq_true] at hg
  obtain ⟨⟨⟨⟨⟨⟨⟨⟨⟨⟨⟨⟨⟨⟨⟨⟨⟨⟨⟨⟨⟨⟨⟨⟨⟨q0,q1⟩,q2⟩,q3⟩,q4⟩,q5⟩,q6⟩,q7⟩,q8⟩,q9⟩,q10⟩,q11⟩,q12⟩,q13⟩,q14⟩,q15⟩,q16⟩,q17⟩,q18⟩,q19⟩,q20⟩,q21⟩,q22⟩,q23⟩,q24⟩,q25⟩:=hg
  obtain rfl:=nE q0
  obtain rfl:=bE q1
  obtain rfl:=bE q2
  obtain rfl:=nE q3
  obtain rfl:=bE q4
  obtain rfl:=bE q5
  obtain rfl:=nE q6
  obtain rfl:=bE q7
  obtain rfl:=bE q8
  obtain rfl:=cE q9
  obtain rfl:=nE q10
  obtain rfl:=cE q11
  obtain rfl:=cE q12
  obtain rfl:=cE q13
  obtain rfl:=cE q14
  obtain rfl:=nE q15
  obtain rfl:=cE q16
  obtain rfl:=nE q17
  obtain rfl:=cE q18
  obtain rfl:=nE q19
  obtain rfl:=nE q20
  obtain rfl:=cE q21
  obtain rfl:=nE q22
  obtain rfl:=nE q23
  obtain rfl:=nE q24
  obtain rfl:=nE q25
  refine ⟨((t18 - t19:Int).toNat+1),?_⟩
  rw [← h]
  exact loop_run (E15_0 t1 t17 t18) (K15_0 t1 t17 t18 k) (st15_0 t1 t17 t18 ce k) _ (.inl (t19,h0_0,h0_1,h0_2,h0_3,h0_4,h1,h2,h3,h4,h5))
 ·rename_i t1 g0 g1 g2 g3 g4 g5 g6 g7 g8 g9 t17 t18 t19 g10 g11 h0 g12 g13 h1_0 h1_1 g14 h1_2 g15 h1_3 g16 h1_4 g17 g18 h2 g19 g20 h3 g21 h4 g22 g23 h5 g24 g25 h6 g26 g27 g28
  obtain ⟨hg,h⟩:=bif_some h
  simp only [Bool.and_eq_true] at hg
  obtain ⟨⟨⟨⟨⟨⟨⟨⟨⟨⟨⟨⟨⟨⟨⟨⟨⟨⟨⟨⟨⟨⟨⟨⟨⟨⟨⟨⟨q0,q1⟩,q2⟩,q3⟩,q4⟩,q5⟩,q6⟩,q7⟩,q8⟩,q9⟩,q10⟩,q11⟩,q12⟩,q13⟩,q14⟩,q15⟩,q16⟩,q17⟩,q18⟩,q19⟩,q20⟩,q21⟩,q22⟩,q23⟩,q24⟩,q25⟩,q26⟩,q27⟩,q28⟩:=hg
  obtain rfl:=nE q0
  obtain rfl:=bE q1
  obtain rfl:=bE q2
  obtain rfl:=nE q3
  obtain rfl:=bE q4
  obtain rfl:=bE q5
  obtain rfl:=nE q6
  obtain rfl:=bE q7
  obtain rfl:=bE q8
  obtain rfl:=cE q9
  obtain rfl:=nE q10
  obtain rfl:=cE q11
  obtain rfl:=nE q12
  obtain rfl:=cE q13
  obtain rfl:=cE q14
  obtain rfl:=cE q15
  obtain rfl:=cE q16
  obtain rfl:=nE q17
  obtain rfl:=cE q18
  obtain rfl:=nE q19
  obtain rfl:=cE q20
  obtain rfl:=nE q21
  obtain rfl:=nE q22
  obtain rfl:=cE q23
  obtain rfl:=nE q24
  obtain rfl:=nE q25
  obtain rfl:=nE q26
  obtain rfl:=nE q27
  obtain rfl:=nE q28
  refine ⟨((t18 - t19:Int).toNat+1),?_⟩
  rw [← h]
  exact loop_run (E15_0 t1 t17 t18) (K15_0 t1 t17 t18 k) (st15_0 t1 t17 t18 ce k) _ (.inr (t19,h0,h1_0,h1_1,h1_2,h1_3,h1_4,h2,h3,h4,h5,h6))
 ·cases h
def q15 (xa:List AV) (xb:Int) (xc xd xe:List AV) (a1:Int):Bool:=(q44 xa xb xc xd xe && (q17 xa xb xc xd xe && (bif !(v17_0 xa xb xc xd xe) then true else (ro (runW (R15_0 a1 xa (xa.length:Int)) (((xa.length:Int) - 0:Int).toNat+1) (.inl (0,xa,xb,xc,xd,xe,(v44_2 xa xb xc xd xe),(v44_3 xa xb xc xd xe),0,(v44_4 xa xb xc xd xe),(v44_1 xa xb xc xd xe)))) false (sumE (fun p77=>true) (fun p78=>true))))))
def v15_0 (xa:List AV) (xb:Int) (xc xd xe:List AV) (a1:Int):List AV:=(bif !(v17_0 xa xb xc xd xe) then (v44_0 xa xb xc xd xe) else (ro (runW (R15_0 a1 xa (xa.length:Int)) (((xa.length:Int) - 0:Int).toNat+1) (.inl (0,xa,xb,xc,xd,xe,(v44_2 xa xb xc xd xe),(v44_3 xa xb xc xd xe),0,(v44_4 xa xb xc xd xe),(v44_1 xa xb xc xd xe)))) [] (sumE (fun p77=>([]:List AV)) (fun p78=>p78.1))))
def v15_1 (xa:List AV) (xb:Int) (xc xd xe:List AV) (a1:Int):Int:=(bif !(v17_0 xa xb xc xd xe) then (v44_1 xa xb xc xd xe) else (ro (runW (R15_0 a1 xa (xa.length:Int)) (((xa.length:Int) - 0:Int).toNat+1) (.inl (0,xa,xb,xc,xd,xe,(v44_2 xa xb xc xd xe),(v44_3 xa xb xc xd xe),0,(v44_4 xa xb xc xd xe),(v44_1 xa xb xc xd xe)))) 0 (sumE (fun p77=>p77.2.2.2.2.2.2.2.2.2) (fun p78=>p78.2.2.2.2.2.2.2.2.2.2))))
def v15_2 (xa:List AV) (xb:Int) (xc xd xe:List AV) (a1:Int):List AV:=(bif !(v17_0 xa xb xc xd xe) then (v44_2 xa xb xc xd xe) else (ro (runW (R15_0 a1 xa (xa.length:Int)) (((xa.length:Int) - 0:Int).toNat+1) (.inl (0,xa,xb,xc,xd,xe,(v44_2 xa xb xc xd xe),(v44_3 xa xb xc xd xe),0,(v44_4 xa xb xc xd xe),(v44_1 xa xb xc xd xe)))) [] (sumE (fun p77=>p77.2.2.2.2.2.1) (fun p78=>p78.2.2.2.2.2.2.1))))
def v15_3 (xa:List AV) (xb:Int) (xc xd xe:List AV) (a1:Int):List AV:=(bif !(v17_0 xa xb xc xd xe) then (v44_3 xa xb xc xd xe) else (ro (runW (R15_0 a1 xa (xa.length:Int)) (((xa.length:Int) - 0:Int).toNat+1) (.inl (0,xa,xb,xc,xd,xe,(v44_2 xa xb xc xd xe),(v44_3 xa xb xc xd xe),0,(v44_4 xa xb xc xd xe),(v44_1 xa xb xc xd xe)))) [] (sumE (fun p77=>p77.2.2.2.2.2.2.1) (fun p78=>p78.2.2.2.2.2.2.2.1))))
def v15_4 (xa:List AV) (xb:Int) (xc xd xe:List AV) (a1:Int):List AV:=(bif !(v17_0 xa xb xc xd xe) then (v44_4 xa xb xc xd xe) else (ro (runW (R15_0 a1 xa (xa.length:Int)) (((xa.length:Int) - 0:Int).toNat+1) (.inl (0,xa,xb,xc,xd,xe,(v44_2 xa xb xc xd xe),(v44_3 xa xb xc xd xe),0,(v44_4 xa xb xc xd xe),(v44_1 xa xb xc xd xe)))) [] (sumE (fun p77=>p77.2.2.2.2.2.2.2.2.1) (fun p78=>p78.2.2.2.2.2.2.2.2.2.1))))
def v15_5 (xa:List AV) (xb:Int) (xc xd xe:List AV) (a1:Int):Int:=(bif !(v17_0 xa xb xc xd xe) then 0 else (ro (runW (R15_0 a1 xa (xa.length:Int)) (((xa.length:Int) - 0:Int).toNat+1) (.inl (0,xa,xb,xc,xd,xe,(v44_2 xa xb xc xd xe),(v44_3 xa xb xc xd xe),0,(v44_4 xa xb xc xd xe),(v44_1 xa xb xc xd xe)))) 0 (sumE (fun p77=>IntKind.i64.wrap ((p77.1.length:Int) - 0)) (fun p78=>IntKind.i64.wrap ((p78.2.1.length:Int) - (p78.1.length:Int))))))
theorem e15 (xa:List AV) (xb:Int) (xc xd xe:List AV) (a1:Int):funA c15 0 15 [AV.agg [AV.sl [.int .i64,.int .i64,.int .i64,.int .i64] xa,Ai xb,AV.sl [.int .i64] xc,AV.sl [.int .i64] xd,AV.sl [.int .i64,.int .i64] xe],Ai a1]=(bif q44 xa xb xc xd xe then (bif q17 xa xb xc xd xe then (bif !(v17_0 xa xb xc xd xe) then some (AV.tup [AV.agg [AV.fl [.int .i64,.int .i64,.int .i64,.int .i64] (v44_0 xa xb xc xd xe),Ai (v44_1 xa xb xc xd xe),AV.fl [.int .i64] (v44_2 xa xb xc xd xe),AV.fl [.int .i64] (v44_3 xa xb xc xd xe),AV.fl [.int .i64,.int .i64] (v44_4 xa xb xc xd xe)],Ai 0])
 else (ro (runW (R15_0 a1 xa (xa.length:Int)) (((xa.length:Int) - 0:Int).toNat+1) (.inl (0,xa,xb,xc,xd,xe,(v44_2 xa xb xc xd xe),(v44_3 xa xb xc xd xe),0,(v44_4 xa xb xc xd xe),(v44_1 xa xb xc xd xe)))) none (sumE (fun p77=>some (AV.tup [AV.agg [AV.fl [.int .i64,.int .i64,.int .i64,.int .i64] ([]:List AV),Ai p77.2.2.2.2.2.2.2.2.2,AV.fl [.int .i64] p77.2.2.2.2.2.1,AV.fl [.int .i64] p77.2.2.2.2.2.2.1,AV.fl [.int .i64,.int .i64] p77.2.2.2.2.2.2.2.2.1],Ai (IntKind.i64.wrap ((p77.1.length:Int) - 0))])) (fun p78=>some (AV.tup [AV.agg [AV.fl [.int .i64,.int .i64,.int .i64,.int .i64] p78.1,Ai p78.2.2.2.2.2.2.2.2.2.2,AV.fl [.int .i64] p78.2.2.2.2.2.2.1,AV.fl [.int .i64] p78.2.2.2.2.2.2.2.1,AV.fl [.int .i64,.int .i64] p78.2.2.2.2.2.2.2.2.2.1],Ai (IntKind.i64.wrap ((p78.2.1.length:Int) - (p78.1.length:Int)))])))))
 else none)
 else none):=by kernel_rfl
theorem r15 (xa:List AV) (xb:Int) (xc xd xe:List AV) (a1:Int) (h:q15 xa xb xc xd xe a1=true):funA c15 0 15 [AV.agg [AV.sl [.int .i64,.int .i64,.int .i64,.int .i64] xa,AV.int .i64 xb,AV.sl [.int .i64] xc,AV.sl [.int .i64] xd,AV.sl [.int .i64,.int .i64] xe],AV.int .i64 a1]=some (AV.tup [AV.agg [AV.fl [.int .i64,.int .i64,.int .i64,.int .i64] (v15_0 xa xb xc xd xe a1),AV.int .i64 (v15_1 xa xb xc xd xe a1),AV.fl [.int .i64] (v15_2 xa xb xc xd xe a1),AV.fl [.int .i64] (v15_3 xa xb xc xd xe a1),AV.fl [.int .i64,.int .i64] (v15_4 xa xb xc xd xe a1)],AV.int .i64 (v15_5 xa xb xc xd xe a1)]):=by
 refine (e15 xa xb xc xd xe a1).trans ?_
 unfold q15 at h
 unfold v15_0 v15_1 v15_2 v15_3 v15_4 v15_5
 refine ifG (fun hc=>?_) (fun hc=>?_) <;> first|rw [hc] at h ⊢|rw [hc] at h|rw [hc]|skip
 ·refine ifG (fun hc=>?_) (fun hc=>?_) <;> first|rw [hc] at h ⊢|rw [hc] at h|rw [hc]|skip
  ·refine ifG (fun hc=>?_) (fun hc=>?_) <;> first|rw [hc] at h ⊢|rw [hc] at h|rw [hc]|skip
   ·rfl
   ·refine roG (fun hc=>?_) (fun r hc=>?_) <;> first|rw [hc] at h ⊢|rw [hc] at h|rw [hc]|skip
    ·exact Bool.noConfusion h
    ·try simp only [ro] at h ⊢
     cases r with
     | inl p77 =>
      try simp only [sumE] at h ⊢
      rfl
     | inr p78 =>
      try simp only [sumE] at h ⊢
      rfl
  ·first|exact Bool.noConfusion h|exact Bool.noConfusion hc
 ·first|exact Bool.noConfusion h|exact Bool.noConfusion hc
def m15:TModel
 | [.agg [.sl g0 xa,.int .i64 xb,.sl g1 xc,.sl g2 xd,.sl g3 xe],.int .i64 a1]=>bif ctsEq g0 ([.int .i64,.int .i64,.int .i64,.int .i64]) && ctsEq g1 ([.int .i64]) && ctsEq g2 ([.int .i64]) && ctsEq g3 ([.int .i64,.int .i64]) then some (q15 xa xb xc xd xe a1,AV.tup [AV.agg [AV.fl [.int .i64,.int .i64,.int .i64,.int .i64] (v15_0 xa xb xc xd xe a1),AV.int .i64 (v15_1 xa xb xc xd xe a1),AV.fl [.int .i64] (v15_2 xa xb xc xd xe a1),AV.fl [.int .i64] (v15_3 xa xb xc xd xe a1),AV.fl [.int .i64,.int .i64] (v15_4 xa xb xc xd xe a1)],AV.int .i64 (v15_5 xa xb xc xd xe a1)]) else none
 | _=>none
theorem k15:Known Tryz.prog 15:=⟨Tryz.f15,Tryz.func15,by kernel_rfl,by kernel_rfl⟩
theorem meets15:Meets Tryz.prog 15 m15:=by
 refine mt (lvl:=0) (cf:=c15) rfl mixed k15 Tryz.func15 (by kernel_rfl) (loops_cons ok15_0 noLoop) (allT_cons meets17 (allT_cons meets44 (allT_cons meets59 allT_nil))) allM_nil noI fun xs r h=>?_
 unfold m15 at h
 split at h
 ·rename_i g0 xa xb g1 xc g2 xd g3 xe a1
  obtain ⟨hg,h⟩:=bif_pair h
  simp only [Bool.and_eq_true] at hg
  obtain ⟨⟨⟨q0,q1⟩,q2⟩,q3⟩:=hg
  obtain rfl:=cE q0
  obtain rfl:=cE q1
  obtain rfl:=cE q2
  obtain rfl:=cE q3
  obtain ⟨h1,rfl⟩:=pair_inj h
  exact r15 xa xb xc xd xe a1 h1
 ·cases h
def G60_0 {β:Type} (t9:Int) (t7:Int) (t10:Int) (t11:Int) (h0:List AV) (h1:List AV) (h2:List AV) (N:((Int × Int × Int × (List AV) × (List AV) × (List AV)))→β) (K:((Int × Int × (List AV) × (List AV) × (List AV)))→β) (d:β):β:=(bif decide (t11<(h2.length:Int)) then (bif (decide (0≤t11) && decide (t11<(h2.length:Int))) then (bif decide (fI (h2.getD t11.toNat .undef) 0≤t9) then N (t7,t10,IntKind.i64.wrap (t11+1),h0,h1,h2)
 else (bif (decide (0≤t11) && decide (t11<(h2.length:Int))) then (bif decide (IntKind.i64.wrap (fI (h2.getD t11.toNat .undef) 1 - 1)=t7) then (bif (decide (0≤t11) && decide (t11<(h2.length:Int))) then N (IntKind.i64.wrap (fI (h2.getD t11.toNat .undef) 1 - 1),IntKind.i64.wrap (t10+0),IntKind.i64.wrap (t11+1),h0,h1,h2.set t11.toNat (AV.agg [AV.int .i64 (fI (h2.getD t11.toNat .undef) 0),AV.int .i64 (IntKind.i64.wrap (fI (h2.getD t11.toNat .undef) 1 - 1))]))
 else d)
 else (bif (decide (0≤IntKind.i64.wrap (fI (h2.getD t11.toNat .undef) 1 - 1)) && decide (IntKind.i64.wrap (fI (h2.getD t11.toNat .undef) 1 - 1)<(h0.length:Int))) then (bif (decide (0≤t7) && decide (t7<(h0.length:Int))) then (bif (decide (0≤IntKind.i64.wrap (fI (h2.getD t11.toNat .undef) 1 - 1)) && decide (IntKind.i64.wrap (fI (h2.getD t11.toNat .undef) 1 - 1)<(h1.length:Int))) then (bif (decide (0≤t7) && decide (t7<(h1.length:Int))) then (bif (decide (0≤t11) && decide (t11<(h2.length:Int))) then N (IntKind.i64.wrap (fI (h2.getD t11.toNat .undef) 1 - 1),IntKind.i64.wrap (t10+1),IntKind.i64.wrap (t11+1),h0.set t7.toNat (AV.agg [AV.int .i64 (fI (h0.getD (IntKind.i64.wrap (fI (h2.getD t11.toNat .undef) 1 - 1)).toNat .undef) 0)]),h1.set t7.toNat (AV.agg [AV.int .i64 (fI (h1.getD (IntKind.i64.wrap (fI (h2.getD t11.toNat .undef) 1 - 1)).toNat .undef) 0)]),h2.set t11.toNat (AV.agg [AV.int .i64 (fI (h2.getD t11.toNat .undef) 0),AV.int .i64 (IntKind.i64.wrap (fI (h2.getD t11.toNat .undef) 1 - 1))]))
 else d)
 else d)
 else d)
 else d)
 else d))
 else d))
 else d)
 else K (t7,t10,h0,h1,h2))
def F60_0 (t9 t7 t10 t11:Int) (h0 h1 h2:List AV):Out ((Int × Int × Int × (List AV) × (List AV) × (List AV))) ((Int × Int × (List AV) × (List AV) × (List AV))):=G60_0 t9 t7 t10 t11 h0 h1 h2 .next .stop .fail
def R60_0 (t9:Int):((Int × Int × Int × (List AV) × (List AV) × (List AV)))→Out ((Int × Int × Int × (List AV) × (List AV) × (List AV))) ((Int × Int × (List AV) × (List AV) × (List AV))):=fun s:Int × Int × Int × (List AV) × (List AV) × (List AV)=>F60_0 t9 s.1 s.2.1 s.2.2.1 s.2.2.2.1 s.2.2.2.2.1 s.2.2.2.2.2
def E60_0 (t9:Int):((Int × Int × Int × (List AV) × (List AV) × (List AV)))→St:=fun s:Int × Int × Int × (List AV) × (List AV) × (List AV)=>⟨[(4,AV.ptr [0,4] 0 0),(7,Ai s.1),(8,AV.ptr [0,8] 0 0),(9,Ai t9),(10,Ai s.2.1),(11,Ai s.2.2.1)],[([0,0,8],⟨false,[.int .i64],s.2.2.2.1⟩),([0,1,8],⟨false,[.int .i64],s.2.2.2.2.1⟩),([0,2,8],⟨false,[.int .i64,.int .i64],s.2.2.2.2.2⟩),([0,4],⟨true,[],[AV.agg [AV.snil,AV.snil,AV.snil]]⟩),([0,8],⟨true,[],[AV.agg [AV.own [0,0,8],AV.own [0,1,8],AV.own [0,2,8]]]⟩)]⟩
def K60_0 (t9:Int) (k:Kont):((Int × Int × (List AV) × (List AV) × (List AV)))→Option AV:=fun p:Int × Int × (List AV) × (List AV) × (List AV)=>k (.exit 0) ⟨[(4,AV.ptr [0,4] 0 0),(7,Ai p.1),(8,AV.ptr [0,8] 0 0),(10,Ai p.2.1)],[([0,0,8],⟨false,[.int .i64],p.2.2.1⟩),([0,1,8],⟨false,[.int .i64],p.2.2.2.1⟩),([0,2,8],⟨false,[.int .i64,.int .i64],p.2.2.2.2⟩),([0,4],⟨true,[],[AV.agg [AV.snil,AV.snil,AV.snil]]⟩),([0,8],⟨true,[],[AV.agg [AV.own [0,0,8],AV.own [0,1,8],AV.own [0,2,8]]]⟩)]⟩
def l60_0:LModel:=fun _ _ st k=>match st with
 | ⟨[(4,.ptr g0 g1 g2),(7,.int .i64 t7),(8,.ptr g3 g4 g5),(9,.int .i64 t9),(10,.int .i64 t10),(11,.int .i64 t11)],[(g6,⟨false,g7,h0⟩),(g8,⟨false,g9,h1⟩),(g10,⟨false,g11,h2⟩),(g12,⟨true,[],[.agg [.snil,.snil,.snil]]⟩),(g13,⟨true,[],[.agg [.own g14,.own g15,.own g16]]⟩)]⟩=>bif nmEq g0 ([0,4]) && Nat.beq g1 0 && Nat.beq g2 0 && nmEq g3 ([0,8]) && Nat.beq g4 0 && Nat.beq g5 0 && nmEq g6 ([0,0,8]) && ctsEq g7 ([.int .i64]) && nmEq g8 ([0,1,8]) && ctsEq g9 ([.int .i64]) && nmEq g10 ([0,2,8]) && ctsEq g11 ([.int .i64,.int .i64]) && nmEq g12 ([0,4]) && nmEq g13 ([0,8]) && nmEq g14 ([0,0,8]) && nmEq g15 ([0,1,8]) && nmEq g16 ([0,2,8]) then ro (runW (R60_0 t9) (((h2.length:Int) - t11:Int).toNat+1) (t7,t10,t11,h0,h1,h2)) none (K60_0 t9 k) else none
 | _=>none
noncomputable def c60:Cfg:=cfg Tryz.prog [(60,0,[4,7,8,9,10,11]),(60,999,[4,5,6]),(60,1000,[4,7,8,10]),(60,1001,[4,7,8,9,10,11]),(105,999,[6])] [(68,m68),(69,m69),(101,m101)] [] [105] [(60,0,l60_0)]
theorem s60_0 (t9:Int) (k:Kont) (s:Int × Int × Int × (List AV) × (List AV) × (List AV)) (next:St→Option AV):stepA (codeA c60 (inlA c60 1) [] 60 0 (sub [1,1,1,1,1,1,0,1,0,0] (body Tryz.f60))) (normA [] [4,7,8,9,10,11]) next ((E60_0 t9) s) k=G60_0 t9 s.1 s.2.1 s.2.2.1 s.2.2.2.1 s.2.2.2.2.1 s.2.2.2.2.2 (fun s=>next ((E60_0 t9) s)) (K60_0 t9 k) none:=by kernel_rfl
theorem st60_0 (t9:Int) (k:Kont) (s:(Int × Int × Int × (List AV) × (List AV) × (List AV))) (next:St→Option AV):stepA (codeA c60 (inlA c60 1) [] 60 0 (sub [1,1,1,1,1,1,0,1,0,0] (body Tryz.f60))) (normA [] [4,7,8,9,10,11]) next ((E60_0 t9) s) k=(R60_0 t9 s).el none (fun s=>next ((E60_0 t9) s)) (K60_0 t9 k):=(s60_0 t9 k s next).trans (by unfold R60_0;unfold F60_0 G60_0;simp only [el_cond,el_ro,el_sum,el_fail,el_next,el_stop] <;> rfl)
theorem ok60_0:LoopOK c60 (inlA c60 1) [] 60 0 (sub [1,1,1,1,1,1,0,1,0,0] (body Tryz.f60)):=by
 intro m hm st k r h
 obtain rfl:l60_0=m:=Option.some.inj hm
 unfold l60_0 at h
 split at h
 ·rename_i g0 g1 g2 t7 g3 g4 g5 t9 t10 t11 g6 g7 h0 g8 g9 h1 g10 g11 h2 g12 g13 g14 g15 g16
  obtain ⟨hg,h⟩:=bif_some h
  simp only [Bool.and_eq_true] at hg
  obtain ⟨⟨⟨⟨⟨⟨⟨⟨⟨⟨⟨⟨⟨⟨⟨⟨q0,q1⟩,q2⟩,q3⟩,q4⟩,q5⟩,q6⟩,q7⟩,q8⟩,q9⟩,q10⟩,q11⟩,q12⟩,q13⟩,q14⟩,q15⟩,q16⟩:=hg
  obtain rfl:=nE q0
  obtain rfl:=bE q1
  obtain rfl:=bE q2
  obtain rfl:=nE q3
  obtain rfl:=bE q4
  obtain rfl:=bE q5
  obtain rfl:=nE q6
  obtain rfl:=cE q7
  obtain rfl:=nE q8
  obtain rfl:=cE q9
  obtain rfl:=nE q10
  obtain rfl:=cE q11
  obtain rfl:=nE q12
  obtain rfl:=nE q13
  obtain rfl:=nE q14
  obtain rfl:=nE q15
  obtain rfl:=nE q16
  refine ⟨(((h2.length:Int) - t11:Int).toNat+1),?_⟩
  rw [← h]
  exact loop_run (E60_0 t9) (K60_0 t9 k) (st60_0 t9 k) _ (t7,t10,t11,h0,h1,h2)
 ·cases h
def q60 (xa xb xc:List AV) (a1:Int):Bool:=(q101 xa xb xc a1 && (q68 xa xb xc && (bif !(v68_0 xa xb xc) then q69 xa xb xc else (bif decide ((v101_0 xa xb xc a1)<0) then q69 xa xb xc else (q69 xa xb xc && ((decide (0≤(v101_0 xa xb xc a1)) && decide ((v101_0 xa xb xc a1)<(xa.length:Int))) && (ro (runW (R60_0 (fI (xa.getD (v101_0 xa xb xc a1).toNat .undef) 0)) ((((v69_2 xa xb xc).length:Int) - 0:Int).toNat+1) ((v101_0 xa xb xc a1),0,0,(v69_0 xa xb xc),(v69_1 xa xb xc),(v69_2 xa xb xc))) false (fun p79=>(bif decide (IntKind.i64.wrap ((p79.2.2.1.length:Int) - 1)=p79.1) then ((decide (0≤0) && decide (0≤IntKind.i64.wrap ((p79.2.2.1.length:Int) - 1)) && decide (IntKind.i64.wrap ((p79.2.2.1.length:Int) - 1)≤(p79.2.2.1.length:Int))) && (decide (0≤0) && decide (0≤IntKind.i64.wrap ((p79.2.2.2.1.length:Int) - 1)) && decide (IntKind.i64.wrap ((p79.2.2.2.1.length:Int) - 1)≤(p79.2.2.2.1.length:Int)))) else ((decide (0≤IntKind.i64.wrap ((p79.2.2.1.length:Int) - 1)) && decide (IntKind.i64.wrap ((p79.2.2.1.length:Int) - 1)<(p79.2.2.1.length:Int))) && ((decide (0≤p79.1) && decide (p79.1<(p79.2.2.1.length:Int))) && ((decide (0≤IntKind.i64.wrap ((p79.2.2.1.length:Int) - 1)) && decide (IntKind.i64.wrap ((p79.2.2.1.length:Int) - 1)<(p79.2.2.2.1.length:Int))) && ((decide (0≤p79.1) && decide (p79.1<(p79.2.2.2.1.length:Int))) && ((decide (0≤0) && decide (0≤IntKind.i64.wrap (((p79.2.2.1.set p79.1.toNat (AV.agg [AV.int .i64 (fI (p79.2.2.1.getD (IntKind.i64.wrap ((p79.2.2.1.length:Int) - 1)).toNat .undef) 0)])).length:Int) - 1)) && decide (IntKind.i64.wrap (((p79.2.2.1.set p79.1.toNat (AV.agg [AV.int .i64 (fI (p79.2.2.1.getD (IntKind.i64.wrap ((p79.2.2.1.length:Int) - 1)).toNat .undef) 0)])).length:Int) - 1)≤((p79.2.2.1.set p79.1.toNat (AV.agg [AV.int .i64 (fI (p79.2.2.1.getD (IntKind.i64.wrap ((p79.2.2.1.length:Int) - 1)).toNat .undef) 0)])).length:Int))) && (decide (0≤0) && decide (0≤IntKind.i64.wrap (((p79.2.2.2.1.set p79.1.toNat (AV.agg [AV.int .i64 (fI (p79.2.2.2.1.getD (IntKind.i64.wrap ((p79.2.2.1.length:Int) - 1)).toNat .undef) 0)])).length:Int) - 1)) && decide (IntKind.i64.wrap (((p79.2.2.2.1.set p79.1.toNat (AV.agg [AV.int .i64 (fI (p79.2.2.2.1.getD (IntKind.i64.wrap ((p79.2.2.1.length:Int) - 1)).toNat .undef) 0)])).length:Int) - 1)≤((p79.2.2.2.1.set p79.1.toNat (AV.agg [AV.int .i64 (fI (p79.2.2.2.1.getD (IntKind.i64.wrap ((p79.2.2.1.length:Int) - 1)).toNat .undef) 0)])).length:Int)))))))))))))))))
def v60_0 (xa xb xc:List AV) (a1:Int):List AV:=(bif !(v68_0 xa xb xc) then (v69_0 xa xb xc) else (bif decide ((v101_0 xa xb xc a1)<0) then (v69_0 xa xb xc) else (ro (runW (R60_0 (fI (xa.getD (v101_0 xa xb xc a1).toNat .undef) 0)) ((((v69_2 xa xb xc).length:Int) - 0:Int).toNat+1) ((v101_0 xa xb xc a1),0,0,(v69_0 xa xb xc),(v69_1 xa xb xc),(v69_2 xa xb xc))) [] (fun p79=>(bif decide (IntKind.i64.wrap ((p79.2.2.1.length:Int) - 1)=p79.1) then (p79.2.2.1.drop (Int.toNat 0)).take (Int.toNat (IntKind.i64.wrap ((p79.2.2.1.length:Int) - 1)) - (Int.toNat 0)) else ((p79.2.2.1.set p79.1.toNat (AV.agg [AV.int .i64 (fI (p79.2.2.1.getD (IntKind.i64.wrap ((p79.2.2.1.length:Int) - 1)).toNat .undef) 0)])).drop (Int.toNat 0)).take (Int.toNat (IntKind.i64.wrap (((p79.2.2.1.set p79.1.toNat (AV.agg [AV.int .i64 (fI (p79.2.2.1.getD (IntKind.i64.wrap ((p79.2.2.1.length:Int) - 1)).toNat .undef) 0)])).length:Int) - 1)) - (Int.toNat 0)))))))
def v60_1 (xa xb xc:List AV) (a1:Int):List AV:=(bif !(v68_0 xa xb xc) then (v69_1 xa xb xc) else (bif decide ((v101_0 xa xb xc a1)<0) then (v69_1 xa xb xc) else (ro (runW (R60_0 (fI (xa.getD (v101_0 xa xb xc a1).toNat .undef) 0)) ((((v69_2 xa xb xc).length:Int) - 0:Int).toNat+1) ((v101_0 xa xb xc a1),0,0,(v69_0 xa xb xc),(v69_1 xa xb xc),(v69_2 xa xb xc))) [] (fun p79=>(bif decide (IntKind.i64.wrap ((p79.2.2.1.length:Int) - 1)=p79.1) then (p79.2.2.2.1.drop (Int.toNat 0)).take (Int.toNat (IntKind.i64.wrap ((p79.2.2.2.1.length:Int) - 1)) - (Int.toNat 0)) else ((p79.2.2.2.1.set p79.1.toNat (AV.agg [AV.int .i64 (fI (p79.2.2.2.1.getD (IntKind.i64.wrap ((p79.2.2.1.length:Int) - 1)).toNat .undef) 0)])).drop (Int.toNat 0)).take (Int.toNat (IntKind.i64.wrap (((p79.2.2.2.1.set p79.1.toNat (AV.agg [AV.int .i64 (fI (p79.2.2.2.1.getD (IntKind.i64.wrap ((p79.2.2.1.length:Int) - 1)).toNat .undef) 0)])).length:Int) - 1)) - (Int.toNat 0)))))))
def v60_2 (xa xb xc:List AV) (a1:Int):List AV:=(bif !(v68_0 xa xb xc) then (v69_2 xa xb xc) else (bif decide ((v101_0 xa xb xc a1)<0) then (v69_2 xa xb xc) else (ro (runW (R60_0 (fI (xa.getD (v101_0 xa xb xc a1).toNat .undef) 0)) ((((v69_2 xa xb xc).length:Int) - 0:Int).toNat+1) ((v101_0 xa xb xc a1),0,0,(v69_0 xa xb xc),(v69_1 xa xb xc),(v69_2 xa xb xc))) [] (fun p79=>p79.2.2.2.2))))
def v60_3 (xa xb xc:List AV) (a1:Int):Int:=(bif !(v68_0 xa xb xc) then 0 else (bif decide ((v101_0 xa xb xc a1)<0) then 0 else (ro (runW (R60_0 (fI (xa.getD (v101_0 xa xb xc a1).toNat .undef) 0)) ((((v69_2 xa xb xc).length:Int) - 0:Int).toNat+1) ((v101_0 xa xb xc a1),0,0,(v69_0 xa xb xc),(v69_1 xa xb xc),(v69_2 xa xb xc))) 0 (fun p79=>(bif decide (IntKind.i64.wrap ((p79.2.2.1.length:Int) - 1)=p79.1) then IntKind.i64.wrap (p79.2.1+0) else IntKind.i64.wrap (p79.2.1+1))))))
def v60_4 (xa xb xc:List AV) (a1:Int):Bool:=(bif !(v68_0 xa xb xc) then false else (bif decide ((v101_0 xa xb xc a1)<0) then false else true))
theorem e60 (xa xb xc:List AV) (a1:Int):funA c60 1 60 [AV.agg [AV.sl [.int .i64] xa,AV.sl [.int .i64] xb,AV.sl [.int .i64,.int .i64] xc],Ai a1]=(bif q101 xa xb xc a1 then (bif q68 xa xb xc then (bif !(v68_0 xa xb xc) then (bif q69 xa xb xc then some (AV.tup [AV.agg [AV.fl [.int .i64] (v69_0 xa xb xc),AV.fl [.int .i64] (v69_1 xa xb xc),AV.fl [.int .i64,.int .i64] (v69_2 xa xb xc)],Ai 0,AV.bool false])
 else none)
 else (bif decide ((v101_0 xa xb xc a1)<0) then (bif q69 xa xb xc then some (AV.tup [AV.agg [AV.fl [.int .i64] (v69_0 xa xb xc),AV.fl [.int .i64] (v69_1 xa xb xc),AV.fl [.int .i64,.int .i64] (v69_2 xa xb xc)],Ai 0,AV.bool false])
 else none)
 else (bif q69 xa xb xc then (bif (decide (0≤(v101_0 xa xb xc a1)) && decide ((v101_0 xa xb xc a1)<(xa.length:Int))) then (ro (runW (R60_0 (fI (xa.getD (v101_0 xa xb xc a1).toNat .undef) 0)) ((((v69_2 xa xb xc).length:Int) - 0:Int).toNat+1) ((v101_0 xa xb xc a1),0,0,(v69_0 xa xb xc),(v69_1 xa xb xc),(v69_2 xa xb xc))) none (fun p79=>(bif decide (IntKind.i64.wrap ((p79.2.2.1.length:Int) - 1)=p79.1) then (bif (decide (0≤0) && decide (0≤IntKind.i64.wrap ((p79.2.2.1.length:Int) - 1)) && decide (IntKind.i64.wrap ((p79.2.2.1.length:Int) - 1)≤(p79.2.2.1.length:Int))) then (bif (decide (0≤0) && decide (0≤IntKind.i64.wrap ((p79.2.2.2.1.length:Int) - 1)) && decide (IntKind.i64.wrap ((p79.2.2.2.1.length:Int) - 1)≤(p79.2.2.2.1.length:Int))) then some (AV.tup [AV.agg [AV.fl [.int .i64] ((p79.2.2.1.drop (Int.toNat 0)).take (Int.toNat (IntKind.i64.wrap ((p79.2.2.1.length:Int) - 1)) - (Int.toNat 0))),AV.fl [.int .i64] ((p79.2.2.2.1.drop (Int.toNat 0)).take (Int.toNat (IntKind.i64.wrap ((p79.2.2.2.1.length:Int) - 1)) - (Int.toNat 0))),AV.fl [.int .i64,.int .i64] p79.2.2.2.2],Ai (IntKind.i64.wrap (p79.2.1+0)),AV.bool true])
 else none)
 else none)
 else (bif (decide (0≤IntKind.i64.wrap ((p79.2.2.1.length:Int) - 1)) && decide (IntKind.i64.wrap ((p79.2.2.1.length:Int) - 1)<(p79.2.2.1.length:Int))) then (bif (decide (0≤p79.1) && decide (p79.1<(p79.2.2.1.length:Int))) then (bif (decide (0≤IntKind.i64.wrap ((p79.2.2.1.length:Int) - 1)) && decide (IntKind.i64.wrap ((p79.2.2.1.length:Int) - 1)<(p79.2.2.2.1.length:Int))) then (bif (decide (0≤p79.1) && decide (p79.1<(p79.2.2.2.1.length:Int))) then (bif (decide (0≤0) && decide (0≤IntKind.i64.wrap (((p79.2.2.1.set p79.1.toNat (AV.agg [Ai (fI (p79.2.2.1.getD (IntKind.i64.wrap ((p79.2.2.1.length:Int) - 1)).toNat .undef) 0)])).length:Int) - 1)) && decide (IntKind.i64.wrap (((p79.2.2.1.set p79.1.toNat (AV.agg [Ai (fI (p79.2.2.1.getD (IntKind.i64.wrap ((p79.2.2.1.length:Int) - 1)).toNat .undef) 0)])).length:Int) - 1)≤((p79.2.2.1.set p79.1.toNat (AV.agg [Ai (fI (p79.2.2.1.getD (IntKind.i64.wrap ((p79.2.2.1.length:Int) - 1)).toNat .undef) 0)])).length:Int))) then (bif (decide (0≤0) && decide (0≤IntKind.i64.wrap (((p79.2.2.2.1.set p79.1.toNat (AV.agg [Ai (fI (p79.2.2.2.1.getD (IntKind.i64.wrap ((p79.2.2.1.length:Int) - 1)).toNat .undef) 0)])).length:Int) - 1)) && decide (IntKind.i64.wrap (((p79.2.2.2.1.set p79.1.toNat (AV.agg [Ai (fI (p79.2.2.2.1.getD (IntKind.i64.wrap ((p79.2.2.1.length:Int) - 1)).toNat .undef) 0)])).length:Int) - 1)≤((p79.2.2.2.1.set p79.1.toNat (AV.agg [Ai (fI (p79.2.2.2.1.getD (IntKind.i64.wrap ((p79.2.2.1.length:Int) - 1)).toNat .undef) 0)])).length:Int))) then some (AV.tup [AV.agg [AV.fl [.int .i64] (((p79.2.2.1.set p79.1.toNat (AV.agg [Ai (fI (p79.2.2.1.getD (IntKind.i64.wrap ((p79.2.2.1.length:Int) - 1)).toNat .undef) 0)])).drop (Int.toNat 0)).take (Int.toNat (IntKind.i64.wrap (((p79.2.2.1.set p79.1.toNat (AV.agg [Ai (fI (p79.2.2.1.getD (IntKind.i64.wrap ((p79.2.2.1.length:Int) - 1)).toNat .undef) 0)])).length:Int) - 1)) - (Int.toNat 0))),AV.fl [.int .i64] (((p79.2.2.2.1.set p79.1.toNat (AV.agg [Ai (fI (p79.2.2.2.1.getD (IntKind.i64.wrap ((p79.2.2.1.length:Int) - 1)).toNat .undef) 0)])).drop (Int.toNat 0)).take (Int.toNat (IntKind.i64.wrap (((p79.2.2.2.1.set p79.1.toNat (AV.agg [Ai (fI (p79.2.2.2.1.getD (IntKind.i64.wrap ((p79.2.2.1.length:Int) - 1)).toNat .undef) 0)])).length:Int) - 1)) - (Int.toNat 0))),AV.fl [.int .i64,.int .i64] p79.2.2.2.2],Ai (IntKind.i64.wrap (p79.2.1+1)),AV.bool true])
 else none)
 else none)
 else none)
 else none)
 else none)
 else none))))
 else none)
 else none)))
 else none)
 else none):=by kernel_rfl
theorem r60 (xa xb xc:List AV) (a1:Int) (h:q60 xa xb xc a1=true):funA c60 1 60 [AV.agg [AV.sl [.int .i64] xa,AV.sl [.int .i64] xb,AV.sl [.int .i64,.int .i64] xc],AV.int .i64 a1]=some (AV.tup [AV.agg [AV.fl [.int .i64] (v60_0 xa xb xc a1),AV.fl [.int .i64] (v60_1 xa xb xc a1),AV.fl [.int .i64,.int .i64] (v60_2 xa xb xc a1)],AV.int .i64 (v60_3 xa xb xc a1),AV.bool (v60_4 xa xb xc a1)]):=by
 refine (e60 xa xb xc a1).trans ?_
 unfold q60 at h
 unfold v60_0 v60_1 v60_2 v60_3 v60_4
 refine ifG (fun hc=>?_) (fun hc=>?_) <;> first|rw [hc] at h ⊢|rw [hc] at h|rw [hc]|skip
 ·refine ifG (fun hc=>?_) (fun hc=>?_) <;> first|rw [hc] at h ⊢|rw [hc] at h|rw [hc]|skip
  ·refine ifG (fun hc=>?_) (fun hc=>?_) <;> first|rw [hc] at h ⊢|rw [hc] at h|rw [hc]|skip
   ·refine ifG (fun hc=>?_) (fun hc=>?_) <;> first|rw [hc] at h ⊢|rw [hc] at h|rw [hc]|skip
    ·rfl
    ·first|exact Bool.noConfusion h|exact Bool.noConfusion hc
   ·refine ifG (fun hc=>?_) (fun hc=>?_) <;> first|rw [hc] at h ⊢|rw [hc] at h|rw [hc]|skip
    ·refine ifG (fun hc=>?_) (fun hc=>?_) <;> first|rw [hc] at h ⊢|rw [hc] at h|rw [hc]|skip
     ·rfl
     ·first|exact Bool.noConfusion h|exact Bool.noConfusion hc
    ·refine ifG (fun hc=>?_) (fun hc=>?_) <;> first|rw [hc] at h ⊢|rw [hc] at h|rw [hc]|skip
     ·refine ifG (fun hc=>?_) (fun hc=>?_) <;> first|rw [hc] at h ⊢|rw [hc] at h|rw [hc]|skip
      ·refine roG (fun hc=>?_) (fun r hc=>?_) <;> first|rw [hc] at h ⊢|rw [hc] at h|rw [hc]|skip
       ·exact Bool.noConfusion h
       ·try simp only [ro] at h ⊢
        refine ifG (fun hc=>?_) (fun hc=>?_) <;> first|rw [hc] at h ⊢|rw [hc] at h|rw [hc]|skip
        ·refine ifG (fun hc=>?_) (fun hc=>?_) <;> first|rw [hc] at h ⊢|rw [hc] at h|rw [hc]|skip
         ·refine ifG (fun hc=>?_) (fun hc=>?_) <;> first|rw [hc] at h ⊢|rw [hc] at h|rw [hc]|skip
          ·rfl
          ·first|exact Bool.noConfusion h|exact Bool.noConfusion hc
         ·first|exact Bool.noConfusion h|exact Bool.noConfusion hc
        ·refine ifG (fun hc=>?_) (fun hc=>?_) <;> first|rw [hc] at h ⊢|rw [hc] at h|rw [hc]|skip
         ·refine ifG (fun hc=>?_) (fun hc=>?_) <;> first|rw [hc] at h ⊢|rw [hc] at h|rw [hc]|skip
          ·refine ifG (fun hc=>?_) (fun hc=>?_) <;> first|rw [hc] at h ⊢|rw [hc] at h|rw [hc]|skip
           ·refine ifG (fun hc=>?_) (fun hc=>?_) <;> first|rw [hc] at h ⊢|rw [hc] at h|rw [hc]|skip
            ·refine ifG (fun hc=>?_) (fun hc=>?_) <;> first|rw [hc] at h ⊢|rw [hc] at h|rw [hc]|skip
             ·refine ifG (fun hc=>?_) (fun hc=>?_) <;> first|rw [hc] at h ⊢|rw [hc] at h|rw [hc]|skip
              ·rfl
              ·first|exact Bool.noConfusion h|exact Bool.noConfusion hc
             ·first|exact Bool.noConfusion h|exact Bool.noConfusion hc
            ·first|exact Bool.noConfusion h|exact Bool.noConfusion hc
           ·first|exact Bool.noConfusion h|exact Bool.noConfusion hc
          ·first|exact Bool.noConfusion h|exact Bool.noConfusion hc
         ·first|exact Bool.noConfusion h|exact Bool.noConfusion hc
      ·first|exact Bool.noConfusion h|exact Bool.noConfusion hc
     ·first|exact Bool.noConfusion h|exact Bool.noConfusion hc
  ·first|exact Bool.noConfusion h|exact Bool.noConfusion hc
 ·first|exact Bool.noConfusion h|exact Bool.noConfusion hc
def m60:TModel
 | [.agg [.sl g0 xa,.sl g1 xb,.sl g2 xc],.int .i64 a1]=>bif ctsEq g0 ([.int .i64]) && ctsEq g1 ([.int .i64]) && ctsEq g2 ([.int .i64,.int .i64]) then some (q60 xa xb xc a1,AV.tup [AV.agg [AV.fl [.int .i64] (v60_0 xa xb xc a1),AV.fl [.int .i64] (v60_1 xa xb xc a1),AV.fl [.int .i64,.int .i64] (v60_2 xa xb xc a1)],AV.int .i64 (v60_3 xa xb xc a1),AV.bool (v60_4 xa xb xc a1)]) else none
 | _=>none
theorem k60:Known Tryz.prog 60:=⟨Tryz.f60,Tryz.func60,by kernel_rfl,by kernel_rfl⟩
theorem i60_105:InlK Tryz.prog [(60,0,[4,7,8,9,10,11]),(60,999,[4,5,6]),(60,1000,[4,7,8,10]),(60,1001,[4,7,8,9,10,11]),(105,999,[6])] [(68,m68),(69,m69),(101,m101)] [] [105] [(60,0,l60_0)] 105:=⟨⟨Tryz.f105,Tryz.func105,by kernel_rfl,by kernel_rfl⟩,Tryz.f105,[],Tryz.func105,by kernel_rfl,fun ce π=>noLoop⟩
theorem meets60:Meets Tryz.prog 60 m60:=by
 refine mt (lvl:=1) (cf:=c60) rfl mixed k60 Tryz.func60 (by kernel_rfl) (loops_cons ok60_0 noLoop) (allT_cons meets68 (allT_cons meets69 (allT_cons meets101 allT_nil))) allM_nil (allI_cons i60_105 noI) fun xs r h=>?_
 unfold m60 at h
 split at h
 ·rename_i g0 xa g1 xb g2 xc a1
  obtain ⟨hg,h⟩:=bif_pair h
  simp only [Bool.and_eq_true] at hg
  obtain ⟨⟨q0,q1⟩,q2⟩:=hg
  obtain rfl:=cE q0
  obtain rfl:=cE q1
  obtain rfl:=cE q2
  obtain ⟨h1,rfl⟩:=pair_inj h
  exact r60 xa xb xc a1 h1
 ·cases h
def G16_0 {β:Type} (t1:Int) (h1_0:List AV) (h1_1:Int) (h1_2:List AV) (h1_3:List AV) (h1_4:List AV) (h4:Int) (h6:Int) (t7:Int) (t8:Int) (h0:List AV) (h2:List AV) (h3:List AV) (h5:List AV) (N:((Int × Int × (List AV) × (List AV) × (List AV) × (List AV)))→β) (K:((Int × (List AV) × (List AV) × (List AV) × (List AV)))→β) (d:β):β:=(bif decide (t8<(h1_0.length:Int)) then (bif (decide (0≤t8) && decide (t8<(h1_0.length:Int))) then (bif decide (fI (h1_0.getD t8.toNat .undef) 3=(-1)) then (bif (decide ((h0.length+([AV.agg [AV.int .i64 (fI (h1_0.getD t8.toNat .undef) 0),AV.int .i64 (fI (h1_0.getD t8.toNat .undef) 1),AV.int .i64 (fI (h1_0.getD t8.toNat .undef) 2),AV.int .i64 (fI (h1_0.getD t8.toNat .undef) 3)]]).length)*32≤140737488355328) && decide ((h0.length+([AV.agg [AV.int .i64 (fI (h1_0.getD t8.toNat .undef) 0),AV.int .i64 (fI (h1_0.getD t8.toNat .undef) 1),AV.int .i64 (fI (h1_0.getD t8.toNat .undef) 2),AV.int .i64 (fI (h1_0.getD t8.toNat .undef) 3)]]).length)≤140737488355328)) then N (t7,IntKind.i64.wrap (t8+1),h0++([AV.agg [AV.int .i64 (fI (h1_0.getD t8.toNat .undef) 0),AV.int .i64 (fI (h1_0.getD t8.toNat .undef) 1),AV.int .i64 (fI (h1_0.getD t8.toNat .undef) 2),AV.int .i64 (fI (h1_0.getD t8.toNat .undef) 3)]]),h2,h3,h5)
 else d)
 else (bif decide (fI (h1_0.getD t8.toNat .undef) 3 > t1) then (bif (decide ((h0.length+([AV.agg [AV.int .i64 (fI (h1_0.getD t8.toNat .undef) 0),AV.int .i64 (fI (h1_0.getD t8.toNat .undef) 1),AV.int .i64 (fI (h1_0.getD t8.toNat .undef) 2),AV.int .i64 (fI (h1_0.getD t8.toNat .undef) 3)]]).length)*32≤140737488355328) && decide ((h0.length+([AV.agg [AV.int .i64 (fI (h1_0.getD t8.toNat .undef) 0),AV.int .i64 (fI (h1_0.getD t8.toNat .undef) 1),AV.int .i64 (fI (h1_0.getD t8.toNat .undef) 2),AV.int .i64 (fI (h1_0.getD t8.toNat .undef) 3)]]).length)≤140737488355328)) then N (t7,IntKind.i64.wrap (t8+1),h0++([AV.agg [AV.int .i64 (fI (h1_0.getD t8.toNat .undef) 0),AV.int .i64 (fI (h1_0.getD t8.toNat .undef) 1),AV.int .i64 (fI (h1_0.getD t8.toNat .undef) 2),AV.int .i64 (fI (h1_0.getD t8.toNat .undef) 3)]]),h2,h3,h5)
 else d)
 else (bif q60 h2 h3 h5 (fI (h1_0.getD t8.toNat .undef) 1) then N (IntKind.i64.wrap (t7+1),IntKind.i64.wrap (t8+1),h0,(v60_0 h2 h3 h5 (fI (h1_0.getD t8.toNat .undef) 1)),(v60_1 h2 h3 h5 (fI (h1_0.getD t8.toNat .undef) 1)),(v60_2 h2 h3 h5 (fI (h1_0.getD t8.toNat .undef) 1)))
 else d)))
 else d)
 else K (t7,h0,h2,h3,h5))
def F16_0 (t1:Int) (h1_0:List AV) (h1_1:Int) (h1_2 h1_3 h1_4:List AV) (h4 h6 t7 t8:Int) (h0 h2 h3 h5:List AV):Out ((Int × Int × (List AV) × (List AV) × (List AV) × (List AV))) ((Int × (List AV) × (List AV) × (List AV) × (List AV))):=G16_0 t1 h1_0 h1_1 h1_2 h1_3 h1_4 h4 h6 t7 t8 h0 h2 h3 h5 .next .stop .fail
def R16_0 (t1:Int) (h1_0:List AV) (h1_1:Int) (h1_2 h1_3 h1_4:List AV) (h4 h6:Int):((Int × Int × (List AV) × (List AV) × (List AV) × (List AV)))→Out ((Int × Int × (List AV) × (List AV) × (List AV) × (List AV))) ((Int × (List AV) × (List AV) × (List AV) × (List AV))):=fun s:Int × Int × (List AV) × (List AV) × (List AV) × (List AV)=>F16_0 t1 h1_0 h1_1 h1_2 h1_3 h1_4 h4 h6 s.1 s.2.1 s.2.2.1 s.2.2.2.1 s.2.2.2.2.1 s.2.2.2.2.2
def E16_0 (t1:Int) (h1_0:List AV) (h1_1:Int) (h1_2 h1_3 h1_4:List AV) (h4 h6:Int):((Int × Int × (List AV) × (List AV) × (List AV) × (List AV)))→St:=fun s:Int × Int × (List AV) × (List AV) × (List AV) × (List AV)=>⟨[(1,Ai t1),(2,AV.ptr [0,2] 0 0),(4,AV.ptr [0,4] 0 0),(6,AV.ptr [0,6] 0 0),(7,Ai s.1),(8,Ai s.2.1)],[([0,0,6],⟨false,[.int .i64,.int .i64,.int .i64,.int .i64],s.2.2.1⟩),([0,2],⟨true,[],[AV.agg [AV.sl [.int .i64,.int .i64,.int .i64,.int .i64] h1_0,Ai h1_1,AV.sl [.int .i64] h1_2,AV.sl [.int .i64] h1_3,AV.sl [.int .i64,.int .i64] h1_4]]⟩),([0,2,6],⟨false,[.int .i64],s.2.2.2.1⟩),([0,3,6],⟨false,[.int .i64],s.2.2.2.2.1⟩),([0,4],⟨true,[],[AV.agg [AV.snil,Ai h4,AV.snil,AV.snil,AV.snil]]⟩),([0,4,6],⟨false,[.int .i64,.int .i64],s.2.2.2.2.2⟩),([0,6],⟨true,[],[AV.agg [AV.own [0,0,6],Ai h6,AV.own [0,2,6],AV.own [0,3,6],AV.own [0,4,6]]]⟩)]⟩
def K16_0 (t1:Int) (h1_0:List AV) (h1_1:Int) (h1_2 h1_3 h1_4:List AV) (h4 h6:Int) (k:Kont):((Int × (List AV) × (List AV) × (List AV) × (List AV)))→Option AV:=fun p:Int × (List AV) × (List AV) × (List AV) × (List AV)=>k (.exit 0) ⟨[(4,AV.ptr [0,4] 0 0),(6,AV.ptr [0,6] 0 0),(7,Ai p.1)],[([0,0,6],⟨false,[.int .i64,.int .i64,.int .i64,.int .i64],p.2.1⟩),([0,2],⟨true,[],[AV.agg [AV.sl [.int .i64,.int .i64,.int .i64,.int .i64] h1_0,Ai h1_1,AV.sl [.int .i64] h1_2,AV.sl [.int .i64] h1_3,AV.sl [.int .i64,.int .i64] h1_4]]⟩),([0,2,6],⟨false,[.int .i64],p.2.2.1⟩),([0,3,6],⟨false,[.int .i64],p.2.2.2.1⟩),([0,4],⟨true,[],[AV.agg [AV.snil,Ai h4,AV.snil,AV.snil,AV.snil]]⟩),([0,4,6],⟨false,[.int .i64,.int .i64],p.2.2.2.2⟩),([0,6],⟨true,[],[AV.agg [AV.own [0,0,6],Ai h6,AV.own [0,2,6],AV.own [0,3,6],AV.own [0,4,6]]]⟩)]⟩
def l16_0:LModel:=fun _ _ st k=>match st with
 | ⟨[(1,.int .i64 t1),(2,.ptr g0 g1 g2),(4,.ptr g3 g4 g5),(6,.ptr g6 g7 g8),(7,.int .i64 t7),(8,.int .i64 t8)],[(g9,⟨false,g10,h0⟩),(g11,⟨true,[],[.agg [.sl g12 h1_0,.int .i64 h1_1,.sl g13 h1_2,.sl g14 h1_3,.sl g15 h1_4]]⟩),(g16,⟨false,g17,h2⟩),(g18,⟨false,g19,h3⟩),(g20,⟨true,[],[.agg [.snil,.int .i64 h4,.snil,.snil,.snil]]⟩),(g21,⟨false,g22,h5⟩),(g23,⟨true,[],[.agg [.own g24,.int .i64 h6,.own g25,.own g26,.own g27]]⟩)]⟩=>bif nmEq g0 ([0,2]) && Nat.beq g1 0 && Nat.beq g2 0 && nmEq g3 ([0,4]) && Nat.beq g4 0 && Nat.beq g5 0 && nmEq g6 ([0,6]) && Nat.beq g7 0 && Nat.beq g8 0 && nmEq g9 ([0,0,6]) && ctsEq g10 ([.int .i64,.int .i64,.int .i64,.int .i64]) && nmEq g11 ([0,2]) && ctsEq g12 ([.int .i64,.int .i64,.int .i64,.int .i64]) && ctsEq g13 ([.int .i64]) && ctsEq g14 ([.int .i64]) && ctsEq g15 ([.int .i64,.int .i64]) && nmEq g16 ([0,2,6]) && ctsEq g17 ([.int .i64]) && nmEq g18 ([0,3,6]) && ctsEq g19 ([.int .i64]) && nmEq g20 ([0,4]) && nmEq g21 ([0,4,6]) && ctsEq g22 ([.int .i64,.int .i64]) && nmEq g23 ([0,6]) && nmEq g24 ([0,0,6]) && nmEq g25 ([0,2,6]) && nmEq g26 ([0,3,6]) && nmEq g27 ([0,4,6]) then ro (runW (R16_0 t1 h1_0 h1_1 h1_2 h1_3 h1_4 h4 h6) (((h1_0.length:Int) - t8:Int).toNat+1) (t7,t8,h0,h2,h3,h5)) none (K16_0 t1 h1_0 h1_1 h1_2 h1_3 h1_4 h4 h6 k) else none
 | _=>none
noncomputable def c16:Cfg:=cfg Tryz.prog [(16,0,[1,2,4,6,7,8]),(16,999,[4,5]),(16,1000,[4,6,7]),(16,1001,[1,2,4,6,7,8])] [(49,m49),(50,m50),(60,m60)] [] [] [(16,0,l16_0)]
theorem s16_0 (t1:Int) (h1_0:List AV) (h1_1:Int) (h1_2 h1_3 h1_4:List AV) (h4 h6:Int) (ce:CallE) (k:Kont) (s:Int × Int × (List AV) × (List AV) × (List AV) × (List AV)) (next:St→Option AV):stepA (codeA c16 ce [] 16 0 (sub [1,1,1,1,1,0,1,0,0] (body Tryz.f16))) (normA [] [1,2,4,6,7,8]) next ((E16_0 t1 h1_0 h1_1 h1_2 h1_3 h1_4 h4 h6) s) k=G16_0 t1 h1_0 h1_1 h1_2 h1_3 h1_4 h4 h6 s.1 s.2.1 s.2.2.1 s.2.2.2.1 s.2.2.2.2.1 s.2.2.2.2.2 (fun s=>next ((E16_0 t1 h1_0 h1_1 h1_2 h1_3 h1_4 h4 h6) s)) (K16_0 t1 h1_0 h1_1 h1_2 h1_3 h1_4 h4 h6 k) none:=by kernel_rfl
theorem st16_0 (t1:Int) (h1_0:List AV) (h1_1:Int) (h1_2 h1_3 h1_4:List AV) (h4 h6:Int) (ce:CallE) (k:Kont) (s:(Int × Int × (List AV) × (List AV) × (List AV) × (List AV))) (next:St→Option AV):stepA (codeA c16 ce [] 16 0 (sub [1,1,1,1,1,0,1,0,0] (body Tryz.f16))) (normA [] [1,2,4,6,7,8]) next ((E16_0 t1 h1_0 h1_1 h1_2 h1_3 h1_4 h4 h6) s) k=(R16_0 t1 h1_0 h1_1 h1_2 h1_3 h1_4 h4 h6 s).el none (fun s=>next ((E16_0 t1 h1_0 h1_1 h1_2 h1_3 h1_4 h4 h6) s)) (K16_0 t1 h1_0 h1_1 h1_2 h1_3 h1_4 h4 h6 k):=(s16_0 t1 h1_0 h1_1 h1_2 h1_3 h1_4 h4 h6 ce k s next).trans (by unfold R16_0;unfold F16_0 G16_0;simp only [el_cond,el_ro,el_sum,el_fail,el_next,el_stop] <;> rfl)
theorem ok16_0 {ce:CallE}:LoopOK c16 ce [] 16 0 (sub [1,1,1,1,1,0,1,0,0] (body Tryz.f16)):=by
 intro m hm st k r h
 obtain rfl:l16_0=m:=Option.some.inj hm
 unfold l16_0 at h
 split at h
 ·rename_i t1 g0 g1 g2 g3 g4 g5 g6 g7 g8 t7 t8 g9 g10 h0 g11 g12 h1_0 h1_1 g13 h1_2 g14 h1_3 g15 h1_4 g16 g17 h2 g18 g19 h3 g20 h4 g21 g22 h5 g23 g24 h6 g25 g26 g27
  obtain ⟨hg,h⟩:=bif_some h
  simp only [Bool.and_eq_true] at hg
  obtain ⟨⟨⟨⟨⟨⟨⟨⟨⟨⟨⟨⟨⟨⟨⟨⟨⟨⟨⟨⟨⟨⟨⟨⟨⟨⟨⟨q0,q1⟩,q2⟩,q3⟩,q4⟩,q5⟩,q6⟩,q7⟩,q8⟩,q9⟩,q10⟩,q11⟩,q12⟩,q13⟩,q14⟩,q15⟩,q16⟩,q17⟩,q18⟩,q19⟩,q20⟩,q21⟩,q22⟩,q23⟩,q24⟩,q25⟩,q26⟩,q27⟩:=hg
  obtain rfl:=nE q0
  obtain rfl:=bE q1
  obtain rfl:=bE q2
  obtain rfl:=nE q3
  obtain rfl:=bE q4
  obtain rfl:=bE q5
  obtain rfl:=nE q6
  obtain rfl:=bE q7
  obtain rfl:=bE q8
  obtain rfl:=nE q9
  obtain rfl:=cE q10
  obtain rfl:=nE q11
  obtain rfl:=cE q12
  obtain rfl:=cE q13
  obtain rfl:=cE q14
  obtain rfl:=cE q15
  obtain rfl:=nE q16
  obtain rfl:=cE q17
  obtain rfl:=nE q18
  obtain rfl:=cE q19
  obtain rfl:=nE q20
  obtain rfl:=nE q21
  obtain rfl:=cE q22
  obtain rfl:=nE q23
  obtain rfl:=nE q24
  obtain rfl:=nE q25
  obtain rfl:=nE q26
  obtain rfl:=nE q27
  refine ⟨(((h1_0.length:Int) - t8:Int).toNat+1),?_⟩
  rw [← h]
  exact loop_run (E16_0 t1 h1_0 h1_1 h1_2 h1_3 h1_4 h4 h6) (K16_0 t1 h1_0 h1_1 h1_2 h1_3 h1_4 h4 h6 k) (st16_0 t1 h1_0 h1_1 h1_2 h1_3 h1_4 h4 h6 ce k) _ (t7,t8,h0,h2,h3,h5)
 ·cases h
def q16 (xa:List AV) (xb:Int) (xc xd xe:List AV) (a1:Int):Bool:=(q49 xa xb xc xd xe && (q50 xa xb xc xd xe && (bif !(v50_0 xa xb xc xd xe) then true else (ro (runW (R16_0 a1 xa xb xc xd xe 0 (v49_1 xa xb xc xd xe)) (((xa.length:Int) - 0:Int).toNat+1) (0,0,([]:List AV),(v49_2 xa xb xc xd xe),(v49_3 xa xb xc xd xe),(v49_4 xa xb xc xd xe))) false (fun p80=>true)))))
def v16_0 (xa:List AV) (xb:Int) (xc xd xe:List AV) (a1:Int):List AV:=(bif !(v50_0 xa xb xc xd xe) then (v49_0 xa xb xc xd xe) else (ro (runW (R16_0 a1 xa xb xc xd xe 0 (v49_1 xa xb xc xd xe)) (((xa.length:Int) - 0:Int).toNat+1) (0,0,([]:List AV),(v49_2 xa xb xc xd xe),(v49_3 xa xb xc xd xe),(v49_4 xa xb xc xd xe))) [] (fun p80=>p80.2.1)))
def v16_1 (xa:List AV) (xb:Int) (xc xd xe:List AV) (a1:Int):Int:=(v49_1 xa xb xc xd xe)
def v16_2 (xa:List AV) (xb:Int) (xc xd xe:List AV) (a1:Int):List AV:=(bif !(v50_0 xa xb xc xd xe) then (v49_2 xa xb xc xd xe) else (ro (runW (R16_0 a1 xa xb xc xd xe 0 (v49_1 xa xb xc xd xe)) (((xa.length:Int) - 0:Int).toNat+1) (0,0,([]:List AV),(v49_2 xa xb xc xd xe),(v49_3 xa xb xc xd xe),(v49_4 xa xb xc xd xe))) [] (fun p80=>p80.2.2.1)))
def v16_3 (xa:List AV) (xb:Int) (xc xd xe:List AV) (a1:Int):List AV:=(bif !(v50_0 xa xb xc xd xe) then (v49_3 xa xb xc xd xe) else (ro (runW (R16_0 a1 xa xb xc xd xe 0 (v49_1 xa xb xc xd xe)) (((xa.length:Int) - 0:Int).toNat+1) (0,0,([]:List AV),(v49_2 xa xb xc xd xe),(v49_3 xa xb xc xd xe),(v49_4 xa xb xc xd xe))) [] (fun p80=>p80.2.2.2.1)))
def v16_4 (xa:List AV) (xb:Int) (xc xd xe:List AV) (a1:Int):List AV:=(bif !(v50_0 xa xb xc xd xe) then (v49_4 xa xb xc xd xe) else (ro (runW (R16_0 a1 xa xb xc xd xe 0 (v49_1 xa xb xc xd xe)) (((xa.length:Int) - 0:Int).toNat+1) (0,0,([]:List AV),(v49_2 xa xb xc xd xe),(v49_3 xa xb xc xd xe),(v49_4 xa xb xc xd xe))) [] (fun p80=>p80.2.2.2.2)))
def v16_5 (xa:List AV) (xb:Int) (xc xd xe:List AV) (a1:Int):Int:=(bif !(v50_0 xa xb xc xd xe) then 0 else (ro (runW (R16_0 a1 xa xb xc xd xe 0 (v49_1 xa xb xc xd xe)) (((xa.length:Int) - 0:Int).toNat+1) (0,0,([]:List AV),(v49_2 xa xb xc xd xe),(v49_3 xa xb xc xd xe),(v49_4 xa xb xc xd xe))) 0 (fun p80=>p80.1)))
theorem e16 (xa:List AV) (xb:Int) (xc xd xe:List AV) (a1:Int):funA c16 0 16 [AV.agg [AV.sl [.int .i64,.int .i64,.int .i64,.int .i64] xa,Ai xb,AV.sl [.int .i64] xc,AV.sl [.int .i64] xd,AV.sl [.int .i64,.int .i64] xe],Ai a1]=(bif q49 xa xb xc xd xe then (bif q50 xa xb xc xd xe then (bif !(v50_0 xa xb xc xd xe) then some (AV.tup [AV.agg [AV.fl [.int .i64,.int .i64,.int .i64,.int .i64] (v49_0 xa xb xc xd xe),Ai (v49_1 xa xb xc xd xe),AV.fl [.int .i64] (v49_2 xa xb xc xd xe),AV.fl [.int .i64] (v49_3 xa xb xc xd xe),AV.fl [.int .i64,.int .i64] (v49_4 xa xb xc xd xe)],Ai 0])
 else (ro (runW (R16_0 a1 xa xb xc xd xe 0 (v49_1 xa xb xc xd xe)) (((xa.length:Int) - 0:Int).toNat+1) (0,0,([]:List AV),(v49_2 xa xb xc xd xe),(v49_3 xa xb xc xd xe),(v49_4 xa xb xc xd xe))) none (fun p80=>some (AV.tup [AV.agg [AV.fl [.int .i64,.int .i64,.int .i64,.int .i64] p80.2.1,Ai (v49_1 xa xb xc xd xe),AV.fl [.int .i64] p80.2.2.1,AV.fl [.int .i64] p80.2.2.2.1,AV.fl [.int .i64,.int .i64] p80.2.2.2.2],Ai p80.1]))))
 else none)
 else none):=by kernel_rfl
theorem r16 (xa:List AV) (xb:Int) (xc xd xe:List AV) (a1:Int) (h:q16 xa xb xc xd xe a1=true):funA c16 0 16 [AV.agg [AV.sl [.int .i64,.int .i64,.int .i64,.int .i64] xa,AV.int .i64 xb,AV.sl [.int .i64] xc,AV.sl [.int .i64] xd,AV.sl [.int .i64,.int .i64] xe],AV.int .i64 a1]=some (AV.tup [AV.agg [AV.fl [.int .i64,.int .i64,.int .i64,.int .i64] (v16_0 xa xb xc xd xe a1),AV.int .i64 (v16_1 xa xb xc xd xe a1),AV.fl [.int .i64] (v16_2 xa xb xc xd xe a1),AV.fl [.int .i64] (v16_3 xa xb xc xd xe a1),AV.fl [.int .i64,.int .i64] (v16_4 xa xb xc xd xe a1)],AV.int .i64 (v16_5 xa xb xc xd xe a1)]):=by
 refine (e16 xa xb xc xd xe a1).trans ?_
 unfold q16 at h
 unfold v16_0 v16_1 v16_2 v16_3 v16_4 v16_5
 refine ifG (fun hc=>?_) (fun hc=>?_) <;> first|rw [hc] at h ⊢|rw [hc] at h|rw [hc]|skip
 ·refine ifG (fun hc=>?_) (fun hc=>?_) <;> first|rw [hc] at h ⊢|rw [hc] at h|rw [hc]|skip
  ·refine ifG (fun hc=>?_) (fun hc=>?_) <;> first|rw [hc] at h ⊢|rw [hc] at h|rw [hc]|skip
   ·rfl
   ·refine roG (fun hc=>?_) (fun r hc=>?_) <;> first|rw [hc] at h ⊢|rw [hc] at h|rw [hc]|skip
    ·exact Bool.noConfusion h
    ·try simp only [ro] at h ⊢
     rfl
  ·first|exact Bool.noConfusion h|exact Bool.noConfusion hc
 ·first|exact Bool.noConfusion h|exact Bool.noConfusion hc
def m16:TModel
 | [.agg [.sl g0 xa,.int .i64 xb,.sl g1 xc,.sl g2 xd,.sl g3 xe],.int .i64 a1]=>bif ctsEq g0 ([.int .i64,.int .i64,.int .i64,.int .i64]) && ctsEq g1 ([.int .i64]) && ctsEq g2 ([.int .i64]) && ctsEq g3 ([.int .i64,.int .i64]) then some (q16 xa xb xc xd xe a1,AV.tup [AV.agg [AV.fl [.int .i64,.int .i64,.int .i64,.int .i64] (v16_0 xa xb xc xd xe a1),AV.int .i64 (v16_1 xa xb xc xd xe a1),AV.fl [.int .i64] (v16_2 xa xb xc xd xe a1),AV.fl [.int .i64] (v16_3 xa xb xc xd xe a1),AV.fl [.int .i64,.int .i64] (v16_4 xa xb xc xd xe a1)],AV.int .i64 (v16_5 xa xb xc xd xe a1)]) else none
 | _=>none
theorem k16:Known Tryz.prog 16:=⟨Tryz.f16,Tryz.func16,by kernel_rfl,by kernel_rfl⟩
theorem meets16:Meets Tryz.prog 16 m16:=by
 refine mt (lvl:=0) (cf:=c16) rfl mixed k16 Tryz.func16 (by kernel_rfl) (loops_cons ok16_0 noLoop) (allT_cons meets49 (allT_cons meets50 (allT_cons meets60 allT_nil))) allM_nil noI fun xs r h=>?_
 unfold m16 at h
 split at h
 ·rename_i g0 xa xb g1 xc g2 xd g3 xe a1
  obtain ⟨hg,h⟩:=bif_pair h
  simp only [Bool.and_eq_true] at hg
  obtain ⟨⟨⟨q0,q1⟩,q2⟩,q3⟩:=hg
  obtain rfl:=cE q0
  obtain rfl:=cE q1
  obtain rfl:=cE q2
  obtain rfl:=cE q3
  obtain ⟨h1,rfl⟩:=pair_inj h
  exact r16 xa xb xc xd xe a1 h1
 ·cases h
noncomputable def c3:Cfg:=cfg Tryz.prog [(3,999,[2])] [(6,m6),(7,m7),(8,m8),(9,m9),(10,m10),(11,m11),(12,m12),(13,m13),(14,m14),(15,m15),(16,m16),(17,m17)] [] [] []
def raw3 (a0:List AV):Option AV:=by
 refine (?f0:(List AV)→Int→(List AV)→(List AV)→(List AV)→Int→Int→Int→Int→Int→Int→(Option AV)) (v7_0 a0) (v7_1 a0) (v7_2 a0) (v7_3 a0) (v7_4 a0) (v7_5 a0) (v7_6 a0) (v7_7 a0) (v13_0 a0 1) (v13_0 a0 0) (v13_0 a0 2);intro x1 x2 x3 x4 x5 x6 x7 x8 x9 x10 x11
 refine (?f1:(List AV)→Int→(List AV)→(List AV)→(List AV)→(List AV)→Bool→(Option AV)) (v8_0 x1 x2 x3 x4 x5 x6 x7 x8) (v8_1 x1 x2 x3 x4 x5 x6 x7 x8) (v8_2 x1 x2 x3 x4 x5 x6 x7 x8) (v8_3 x1 x2 x3 x4 x5 x6 x7 x8) (v8_4 x1 x2 x3 x4 x5 x6 x7 x8) (v8_5 x1 x2 x3 x4 x5 x6 x7 x8) (v8_6 x1 x2 x3 x4 x5 x6 x7 x8);intro x12 x13 x14 x15 x16 x17 x18
 refine (?f2:(List AV)→Int→(List AV)→(List AV)→(List AV)→(Option AV)) (v12_0 x12 x13 x14 x15 x16 (IntKind.i64.wrap (x9 - 100))) (v12_1 x12 x13 x14 x15 x16 (IntKind.i64.wrap (x9 - 100))) (v12_2 x12 x13 x14 x15 x16 (IntKind.i64.wrap (x9 - 100))) (v12_3 x12 x13 x14 x15 x16 (IntKind.i64.wrap (x9 - 100))) (v12_4 x12 x13 x14 x15 x16 (IntKind.i64.wrap (x9 - 100)));intro x19 x20 x21 x22 x23
 refine (?f3:(List AV)→Int→(List AV)→(List AV)→(List AV)→(Option AV)) (v14_0 x19 x20 x21 x22 x23 (Int.tmod x10 12)) (v14_1 x19 x20 x21 x22 x23 (Int.tmod x10 12)) (v14_2 x19 x20 x21 x22 x23 (Int.tmod x10 12)) (v14_3 x19 x20 x21 x22 x23 (Int.tmod x10 12)) (v14_4 x19 x20 x21 x22 x23 (Int.tmod x10 12));intro x24 x25 x26 x27 x28
 refine (?f4:(List AV)→Int→(List AV)→(List AV)→(List AV)→Int→(List AV)→Int→(List AV)→(List AV)→(List AV)→Int→(Option AV)) (v15_0 x24 x25 x26 x27 x28 (Int.tmod x11 (IntKind.i64.wrap (x6+1)))) (v15_1 x24 x25 x26 x27 x28 (Int.tmod x11 (IntKind.i64.wrap (x6+1)))) (v15_2 x24 x25 x26 x27 x28 (Int.tmod x11 (IntKind.i64.wrap (x6+1)))) (v15_3 x24 x25 x26 x27 x28 (Int.tmod x11 (IntKind.i64.wrap (x6+1)))) (v15_4 x24 x25 x26 x27 x28 (Int.tmod x11 (IntKind.i64.wrap (x6+1)))) (v15_5 x24 x25 x26 x27 x28 (Int.tmod x11 (IntKind.i64.wrap (x6+1)))) (v16_0 x24 x25 x26 x27 x28 (Int.tmod x11 (IntKind.i64.wrap (x6+1)))) (v16_1 x24 x25 x26 x27 x28 (Int.tmod x11 (IntKind.i64.wrap (x6+1)))) (v16_2 x24 x25 x26 x27 x28 (Int.tmod x11 (IntKind.i64.wrap (x6+1)))) (v16_3 x24 x25 x26 x27 x28 (Int.tmod x11 (IntKind.i64.wrap (x6+1)))) (v16_4 x24 x25 x26 x27 x28 (Int.tmod x11 (IntKind.i64.wrap (x6+1)))) (v16_5 x24 x25 x26 x27 x28 (Int.tmod x11 (IntKind.i64.wrap (x6+1))));intro x29 x30 x31 x32 x33 x34 x35 x36 x37 x38 x39 x40
 exact (bif (v6_0 a0) then some (AV.bool true)
 else (bif q7 a0 then (bif q8 x1 x2 x3 x4 x5 x6 x7 x8 then (bif q9 x1 x2 x3 x4 x5 x6 x7 x8 then (bif !(x18 == (v9_6 x1 x2 x3 x4 x5 x6 x7 x8)) then some (AV.bool false)
 else (bif q10 x12 x13 x14 x15 x16 (v9_0 x1 x2 x3 x4 x5 x6 x7 x8) (v9_1 x1 x2 x3 x4 x5 x6 x7 x8) (v9_2 x1 x2 x3 x4 x5 x6 x7 x8) (v9_3 x1 x2 x3 x4 x5 x6 x7 x8) (v9_4 x1 x2 x3 x4 x5 x6 x7 x8) then (bif !(v10_0 x12 x13 x14 x15 x16 (v9_0 x1 x2 x3 x4 x5 x6 x7 x8) (v9_1 x1 x2 x3 x4 x5 x6 x7 x8) (v9_2 x1 x2 x3 x4 x5 x6 x7 x8) (v9_3 x1 x2 x3 x4 x5 x6 x7 x8) (v9_4 x1 x2 x3 x4 x5 x6 x7 x8)) then some (AV.bool false)
 else (bif q11 x17 (v9_5 x1 x2 x3 x4 x5 x6 x7 x8) then (bif !(v11_0 x17 (v9_5 x1 x2 x3 x4 x5 x6 x7 x8)) then some (AV.bool false)
 else (bif !x18 then (bif q10 x12 x13 x14 x15 x16 x1 x2 x3 x4 x5 then some (AV.bool (v10_0 x12 x13 x14 x15 x16 x1 x2 x3 x4 x5))
 else none)
 else (bif q13 a0 1 then (bif q12 x12 x13 x14 x15 x16 (IntKind.i64.wrap (x9 - 100)) then (bif q13 a0 0 then (bif !decide (12=0) then (bif q14 x19 x20 x21 x22 x23 (Int.tmod x10 12) then (bif q13 a0 2 then (bif !decide (IntKind.i64.wrap (x6+1)=0) then (bif q15 x24 x25 x26 x27 x28 (Int.tmod x11 (IntKind.i64.wrap (x6+1))) then (bif q13 a0 2 then (bif !decide (IntKind.i64.wrap (x6+1)=0) then (bif q16 x24 x25 x26 x27 x28 (Int.tmod x11 (IntKind.i64.wrap (x6+1))) then (bif q8 x29 x30 x31 x32 x33 x6 x7 x8 then (bif (v8_6 x29 x30 x31 x32 x33 x6 x7 x8) then (bif q11 (v8_5 x29 x30 x31 x32 x33 x6 x7 x8) x17 then (bif (v11_0 (v8_5 x29 x30 x31 x32 x33 x6 x7 x8) x17) then (bif q17 x29 x30 x31 x32 x33 then (bif (v17_0 x29 x30 x31 x32 x33) then (bif q10 x29 x30 x31 x32 x33 x35 x36 x37 x38 x39 then (bif (v10_0 x29 x30 x31 x32 x33 x35 x36 x37 x38 x39) then (bif decide (x34=x40) then some (AV.bool (decide (IntKind.i64.wrap ((x29.length:Int)+x34)=(x24.length:Int))))
 else some (AV.bool false))
 else some (AV.bool false))
 else none)
 else some (AV.bool false))
 else none)
 else some (AV.bool false))
 else none)
 else some (AV.bool false))
 else none)
 else none)
 else none)
 else none)
 else none)
 else none)
 else none)
 else none)
 else none)
 else none)
 else none)
 else none)))
 else none))
 else none))
 else none)
 else none)
 else none))
theorem e3 (a0:List AV):funA c3 0 3 [AV.sl [.int .u8] a0]=raw3 a0:=by kernel_rfl
def m3:TModel
 | [.sl g0 a0]=>bif ctsEq g0 ([.int .u8]) then (raw3 a0).map fun r=>(true,r) else none
 | _=>none
theorem k3:Known Tryz.prog 3:=⟨Tryz.f3,Tryz.func3,by kernel_rfl,by kernel_rfl⟩
theorem meets3:Meets Tryz.prog 3 m3:=by
 refine mt (lvl:=0) (cf:=c3) rfl mixed k3 Tryz.func3 (by kernel_rfl) noLoop (allT_cons meets6 (allT_cons meets7 (allT_cons meets8 (allT_cons meets9 (allT_cons meets10 (allT_cons meets11 (allT_cons meets12 (allT_cons meets13 (allT_cons meets14 (allT_cons meets15 (allT_cons meets16 (allT_cons meets17 allT_nil)))))))))))) allM_nil noI fun xs r h=>?_
 unfold m3 at h
 split at h
 ·rename_i g0 a0
  obtain ⟨hg,h⟩:=bif_pair h
  have q0:=hg
  obtain rfl:=cE q0
  obtain ⟨r',h1,h2⟩:=Option.map_eq_some_iff.1 h
  obtain ⟨_,rfl⟩:=Prod.mk.inj h2
  exact (e3 a0).trans h1
 ·cases h
end
end Go.Proofs.YtbmfgibbjchijaaGreat

namespace Go.Proofs.YtbmfgibbjchijaaGreat
open Go Go.Proofs.VE
set_option linter.unusedVariables false
set_option linter.unusedSimpArgs false
theorem P73 (xs ys:List AV) (h:xs.length≤1048576):q73 xs ys=true∧v73_0 xs ys=eqL ee1 xs ys:=by
 have hr:(xs.length:Int)=ys.length→runW (R73_0 xs ys) (((xs.length:Int) - 0).toNat+1) 0=some (ro (findF (fun i => !ee1 (xs.getD i.toNat .undef) (ys.getD i.toNat .undef)) xs.length 0) (.inl ()) fun _ => .inr ()):=fun hl=>by
  refine runW_find (fun i=>i) xs.length _ _ _ (fun i h0 hn=>?_) ?_ xs.length _ 0 (Int.le_refl 0) (by omega) (by omega)
  ·have hn':i<ys.length:=by omega
   simp only [R73_0,F73_0,G73_0,h0,hn,hn',decide_true,Bool.and_self,cond_true]
   rw [wrap_in (a:=i+1) (by omega) (by omega)]
   generalize xs.getD i.toNat .undef=x
   generalize ys.getD i.toNat .undef=y
   congr 1
   all_goals first|rfl|(simp only [ee1];done)|(simp only [ee1];cases decide (fI x 0=fI y 0) <;> rfl)
  ·simp only [R73_0,F73_0,G73_0,Int.lt_irrefl,decide_false,cond_false]
 unfold q73 v73_0 eqL
 by_cases hl:(xs.length:Int)=ys.length
 ·rw [decide_eq_true hl,hr hl]
  cases findF (fun i => !ee1 (xs.getD i.toNat .undef) (ys.getD i.toNat .undef)) xs.length 0 <;> exact ⟨rfl,rfl⟩
 ·rw [decide_eq_false hl]
  exact ⟨rfl,rfl⟩
theorem P74 (xs ys:List AV) (h:xs.length≤1048576):q74 xs ys=true∧v74_0 xs ys=eqL ee2 xs ys:=by
 have hr:(xs.length:Int)=ys.length→runW (R74_0 xs ys) (((xs.length:Int) - 0).toNat+1) 0=some (ro (findF (fun i => !ee2 (xs.getD i.toNat .undef) (ys.getD i.toNat .undef)) xs.length 0) (.inl ()) fun _ => .inr ()):=fun hl=>by
  refine runW_find (fun i=>i) xs.length _ _ _ (fun i h0 hn=>?_) ?_ xs.length _ 0 (Int.le_refl 0) (by omega) (by omega)
  ·have hn':i<ys.length:=by omega
   simp only [R74_0,F74_0,G74_0,h0,hn,hn',decide_true,Bool.and_self,cond_true]
   rw [wrap_in (a:=i+1) (by omega) (by omega)]
   generalize xs.getD i.toNat .undef=x
   generalize ys.getD i.toNat .undef=y
   congr 1
   all_goals first|rfl|(simp only [ee2];done)|(simp only [ee2];cases decide (fI x 0=fI y 0) <;> cases decide (fI x 1=fI y 1) <;> rfl)
  ·simp only [R74_0,F74_0,G74_0,Int.lt_irrefl,decide_false,cond_false]
 unfold q74 v74_0 eqL
 by_cases hl:(xs.length:Int)=ys.length
 ·rw [decide_eq_true hl,hr hl]
  cases findF (fun i => !ee2 (xs.getD i.toNat .undef) (ys.getD i.toNat .undef)) xs.length 0 <;> exact ⟨rfl,rfl⟩
 ·rw [decide_eq_false hl]
  exact ⟨rfl,rfl⟩
theorem P11 (xs ys:List AV) (h:xs.length≤1048576):q11 xs ys=true∧v11_0 xs ys=eqL ee1 xs ys:=by
 have hr:(xs.length:Int)=ys.length→runW (R11_0 xs ys) (((xs.length:Int) - 0).toNat+1) 0=some (ro (findF (fun i => !ee1 (xs.getD i.toNat .undef) (ys.getD i.toNat .undef)) xs.length 0) (.inl ()) fun _ => .inr ()):=fun hl=>by
  refine runW_find (fun i=>i) xs.length _ _ _ (fun i h0 hn=>?_) ?_ xs.length _ 0 (Int.le_refl 0) (by omega) (by omega)
  ·have hn':i<ys.length:=by omega
   simp only [R11_0,F11_0,G11_0,h0,hn,hn',decide_true,Bool.and_self,cond_true]
   rw [wrap_in (a:=i+1) (by omega) (by omega)]
   generalize xs.getD i.toNat .undef=x
   generalize ys.getD i.toNat .undef=y
   congr 1
   all_goals first|rfl|(simp only [ee1];done)|(simp only [ee1];cases decide (fI x 0=fI y 0) <;> rfl)
  ·simp only [R11_0,F11_0,G11_0,Int.lt_irrefl,decide_false,cond_false]
 unfold q11 v11_0 eqL
 by_cases hl:(xs.length:Int)=ys.length
 ·rw [decide_eq_true hl,hr hl]
  cases findF (fun i => !ee1 (xs.getD i.toNat .undef) (ys.getD i.toNat .undef)) xs.length 0 <;> exact ⟨rfl,rfl⟩
 ·rw [decide_eq_false hl]
  exact ⟨rfl,rfl⟩
theorem v52 (a b c:Int):v52_0 a b c=(decide (b≤a) && decide (a≤c)):=by
 unfold v52_0;cases h:decide (a ≥ b) <;> simp_all
theorem run116 (xs:List AV) (h:xs.length≤1048576):runW (R116_0 xs) (((xs.length:Int) - 0).toNat+1) 0=some (ro (findF (fun i => !v52_0 (fI (xs.getD i.toNat .undef) 0) (-999) 999) xs.length 0) (.inl ()) fun _ => .inr ()):=by
 refine runW_find (fun i=>i) xs.length _ _ _ (fun i h0 hn=>?_) ?_ xs.length _ 0 (Int.le_refl 0) (by omega) (by omega)
 ·simp only [R116_0,F116_0,G116_0,h0,hn,decide_true,Bool.and_self,cond_true]
  rw [wrap_in (a:=i+1) (by omega) (by omega)]
 ·simp only [R116_0,F116_0,G116_0,Int.lt_irrefl,decide_false,cond_false]
theorem run162 (xs:List AV) (lo hi:AV) (h:xs.length≤1048576):runW (R162_0 xs lo hi xs.length) (((xs.length:Int) - 0).toNat+1) 0=some (ro (findF (fun i=>v141_0 (fI (xs.getD i.toNat .undef) 0) lo hi) xs.length 0) (.inl ()) fun i => .inr i):=by
 refine runW_find (fun i=>i) xs.length _ _ _ (fun i h0 hn=>?_) ?_ xs.length _ 0 (Int.le_refl 0) (by omega) (by omega)
 ·simp only [R162_0,F162_0,G162_0,h0,hn,decide_true,Bool.and_self,cond_true]
  rw [wrap_in (a:=i+1) (by omega) (by omega)]
 ·simp only [R162_0,F162_0,G162_0,Int.lt_irrefl,decide_false,cond_false]
theorem P116 (xs:List AV) (h:xs.length≤1048576):q116 xs=true∧v116_0 xs=((findF (fun i => !v52_0 (fI (xs.getD i.toNat .undef) 0) (-999) 999) xs.length 0).isNone && decide (xs.length≤64)):=by
 unfold q116 v116_0
 rw [run116 xs h]
 cases findF (fun i => !v52_0 (fI (xs.getD i.toNat .undef) 0) (-999) 999) xs.length 0 with
 | none=>refine ⟨rfl,?_⟩;simp only [ro,sumE,Option.isNone_none,Bool.true_and];congr 1;simp only [eq_iff_iff];omega
 | some j=>exact ⟨rfl,rfl⟩
theorem P106 (xs:List AV) (lo hi:Int) (h:xs.length≤1048576):q106 xs lo hi=true∧v106_0 xs lo hi=(findF (fun i => !v52_0 (fI (xs.getD i.toNat .undef) 0) lo hi) xs.length 0).isNone:=by
 unfold q106 v106_0 v140_0 q140 q162 v162_0
 rw [run162 xs _ _ h]
 have e:(fun i:Int=>v141_0 (fI (xs.getD i.toNat .undef) 0) (AV.int .i64 lo) (AV.int .i64 hi))=fun i => !v52_0 (fI (xs.getD i.toNat .undef) 0) lo hi:=by
  funext i
  unfold v141_0
  rw [v52,show fI (AV.int .i64 lo) 0=lo from rfl,show fI (AV.int .i64 hi) 0=hi from rfl]
  generalize fI (xs.getD i.toNat .undef) 0=z
  by_cases h1:z<lo <;> by_cases h2:z > hi <;> simp [h1,h2] <;> omega
 rw [e]
 cases hf:findF (fun i => !v52_0 (fI (xs.getD i.toNat .undef) 0) lo hi) xs.length 0 with
 | none=>exact ⟨rfl,rfl⟩
 | some j =>
  have:=(findF_some _ _ hf).1
  refine ⟨rfl,?_⟩
  simp [ro,sumE]
  omega
theorem P79 (xs:List AV) (h:xs.length≤1048576):q79 xs=true∧v79_0 xs=v116_0 xs:=by
 rw [(P116 xs h).2]
 unfold q79 v79_0
 rw [(P106 xs _ _ h).1,(P106 xs _ _ h).2]
 have e64:decide ((xs.length:Int)≤64)=decide (xs.length≤64):=by congr 1;simp only [eq_iff_iff];omega
 rw [e64]
 cases decide (xs.length≤64) <;> simp
end Go.Proofs.YtbmfgibbjchijaaGreat

namespace Go.Proofs.YtbmfgibbjchijaaGreat
open Go Go.Proofs.VE
set_option linter.unusedVariables false
set_option linter.unusedSimpArgs false
def noneB (p:Int→Bool) (n:Nat):Bool:=(findF p n 0).isNone
theorem findF_isNone {p:Int→Bool}:∀ (m:Nat) (i:Int),(findF p m i).isNone=true ↔ ∀ j,i≤j→j<i+m→p j=false
 | 0,i=>⟨fun _ j h1 h2=>by omega,fun _=>rfl⟩
 | m+1,i=>by
  simp only [findF]
  cases hp:p i with
  | true =>
   refine ⟨fun h=>(by cases h),fun h=>?_⟩
   have:=h i (by omega) (by omega)
   rw [hp] at this
   cases this
  | false =>
   rw [cond_false,findF_isNone m (i+1)]
   refine ⟨fun h j h1 h2=>?_,fun h j h1 h2=>h j (by omega) (by omega)⟩
   by_cases e:j=i
   ·rw [e,hp]
   ·exact h j (by omega) (by omega)
theorem noneB_iff {p:Int→Bool} {n:Nat}:noneB p n=true ↔ ∀ j:Int,0≤j→j<n→p j=false:=by
 unfold noneB
 rw [findF_isNone]
 exact ⟨fun h j h1 h2=>h j h1 (by omega),fun h j h1 h2=>h j h1 (by omega)⟩
def hasI (xs:List AV) (x:Int):Bool:=(findF (fun i=>decide (fI (xs.getD i.toNat .undef) 0=x)) xs.length 0).isSome
theorem P54 (xs:List AV) (x:Int) (h:xs.length≤1048576):q54 xs x=true∧v54_0 xs x=hasI xs x:=by
 have hr:runW (R54_0 xs x) (((xs.length:Int) - 0).toNat+1) 0=some (ro (findF (fun i=>decide (fI (xs.getD i.toNat .undef) 0=x)) xs.length 0) (.inl ()) fun _ => .inr ()):=by
  refine runW_find (fun i=>i) xs.length _ _ _ (fun i h0 hn=>?_) ?_ xs.length _ 0 (Int.le_refl 0) (by omega) (by omega)
  ·simp only [R54_0,F54_0,G54_0,h0,hn,decide_true,Bool.and_self,cond_true]
   rw [wrap_in (a:=i+1) (by omega) (by omega)]
  ·simp only [R54_0,F54_0,G54_0,Int.lt_irrefl,decide_false,cond_false]
 unfold q54 v54_0 hasI
 rw [hr]
 cases findF (fun i=>decide (fI (xs.getD i.toNat .undef) 0=x)) xs.length 0 <;> exact ⟨rfl,rfl⟩
theorem P83 (xs:List AV) (x:Int) (h:xs.length≤1048576):q83 xs x=true∧v83_0 xs x=ro (findF (fun i=>decide (fI (xs.getD i.toNat .undef) 0=x)) xs.length 0) (-1) id:=by
 have hr:runW (R83_0 xs x xs.length) (((xs.length:Int) - 0).toNat+1) 0=some (ro (findF (fun i=>decide (fI (xs.getD i.toNat .undef) 0=x)) xs.length 0) (.inl ()) fun i => .inr i):=by
  refine runW_find (fun i=>i) xs.length _ _ _ (fun i h0 hn=>?_) ?_ xs.length _ 0 (Int.le_refl 0) (by omega) (by omega)
  ·simp only [R83_0,F83_0,G83_0,h0,hn,decide_true,Bool.and_self,cond_true]
   rw [wrap_in (a:=i+1) (by omega) (by omega)]
   have e:decide (x=fI (xs.getD i.toNat .undef) 0)=decide (fI (xs.getD i.toNat .undef) 0=x):=by congr 1;simp only [eq_iff_iff];omega
   rw [e]
  ·simp only [R83_0,F83_0,G83_0,Int.lt_irrefl,decide_false,cond_false]
 unfold q83 v83_0
 rw [hr]
 cases findF (fun i=>decide (fI (xs.getD i.toNat .undef) 0=x)) xs.length 0 <;> exact ⟨rfl,rfl⟩
theorem P48 (xs:List AV) (x:Int) (h:xs.length≤1048576):q48 xs x=true∧v48_0 xs x=hasI xs x:=by
 unfold q48 v48_0 hasI
 rw [(P83 xs x h).1,(P83 xs x h).2]
 refine ⟨rfl,?_⟩
 cases hf:findF (fun i=>decide (fI (xs.getD i.toNat .undef) 0=x)) xs.length 0 with
 | none=>rfl
 | some j =>
  have:=(findF_some _ _ hf).1
  simp [ro]
  omega
theorem P101 (vs rs ps:List AV) (x:Int) (h:rs.length≤1048576):q101 vs rs ps x=true∧v101_0 vs rs ps x=v83_0 rs x:=by
 have hr:runW (R101_0 x vs rs ps) (((rs.length:Int) - 0).toNat+1) 0=some (ro (findF (fun i=>decide (fI (rs.getD i.toNat .undef) 0=x)) rs.length 0) (.inl ()) fun i => .inr i):=by
  refine runW_find (fun i=>i) rs.length _ _ _ (fun i h0 hn=>?_) ?_ rs.length _ 0 (Int.le_refl 0) (by omega) (by omega)
  ·simp only [R101_0,F101_0,G101_0,h0,hn,decide_true,Bool.and_self,cond_true]
   rw [wrap_in (a:=i+1) (by omega) (by omega)]
  ·simp only [R101_0,F101_0,G101_0,Int.lt_irrefl,decide_false,cond_false]
 rw [(P83 rs x h).2]
 unfold q101 v101_0
 rw [hr]
 cases findF (fun i=>decide (fI (rs.getD i.toNat .undef) 0=x)) rs.length 0 <;> exact ⟨rfl,rfl⟩
theorem P62 (vs rs ps:List AV) (x:Int) (h:rs.length≤1048576):q62 vs rs ps x=true∧v62_0 vs rs ps x=v83_0 rs x:=⟨(P83 rs x h).1,rfl⟩
def badR (rs:List AV) (i:Int):Bool:=hasI ((rs.take (Int.toNat i)).drop (Int.toNat 0)) (fI (rs.getD i.toNat .undef) 0)
def badI (vs:List AV) (a b:Int):Bool := !noneB (fun k => !(decide (fI (vs.getD k.toNat .undef) 0<a) == decide (k<b))) vs.length
def badA (vs ps:List AV) (i:Int):Bool :=
 !v52_0 (fI (ps.getD i.toNat .undef) 0) (-1000) 1000 || (!v52_0 (fI (ps.getD i.toNat .undef) 1) 0 vs.length ||
  (decide (i > 0) && (decide (fI (ps.getD i.toNat .undef) 0≤fI (ps.getD (i - 1).toNat .undef) 0) || decide (fI (ps.getD i.toNat .undef) 1<fI (ps.getD (i - 1).toNat .undef) 1))))
def badP (vs ps:List AV) (i:Int):Bool:=badA vs ps i || badI vs (fI (ps.getD i.toNat .undef) 0) (fI (ps.getD i.toNat .undef) 1)
theorem run117i (vs ps:List AV) (t a b:Int) (h:vs.length≤1048576):runW (R117_2 vs ps t a b) (((vs.length:Int) - 0).toNat+1) 0=some (bif badI vs a b then .inr () else .inl ()):=by
 have hr:runW (R117_2 vs ps t a b) (((vs.length:Int) - 0).toNat+1) 0=some (ro (findF (fun k => !(decide (fI (vs.getD k.toNat .undef) 0<a) == decide (k<b))) vs.length 0) (.inl ()) fun _ => .inr ()):=by
  refine runW_find (fun i=>i) vs.length _ _ _ (fun i h0 hn=>?_) ?_ vs.length _ 0 (Int.le_refl 0) (by omega) (by omega)
  ·simp only [R117_2,F117_2,G117_2,h0,hn,decide_true,Bool.and_self,cond_true]
   rw [wrap_in (a:=i+1) (by omega) (by omega)]
  ·simp only [R117_2,F117_2,G117_2,Int.lt_irrefl,decide_false,cond_false]
 rw [hr]
 unfold badI noneB
 cases findF (fun k => !(decide (fI (vs.getD k.toNat .undef) 0<a) == decide (k<b))) vs.length 0 <;> rfl
def L117 (vs ps:List AV) (i:Int):Unit ⊕ (Int × Int) ⊕ (Int × Int):=bif badA vs ps i then .inr (.inl (fI (ps.getD i.toNat .undef) 0,fI (ps.getD i.toNat .undef) 1)) else .inr (.inr (fI (ps.getD i.toNat .undef) 0,fI (ps.getD i.toNat .undef) 1))
theorem step117 (vs ps:List AV) (i:Int) (h:vs.length≤1048576) (h':ps.length≤1048576) (h0:0≤i) (hn:i<ps.length):R117_0 vs ps i=bif badP vs ps i then .stop (L117 vs ps i) else .next (i+1):=by
 simp only [R117_0,F117_0,G117_0,h0,hn,decide_true,Bool.and_self,cond_true,run117i vs ps _ _ _ h,ro]
 rw [wrap_in (a:=i+1) (by omega) (by omega),wrap_in (a:=i - 1) (by omega) (by omega)]
 unfold badP L117 badA
 generalize badI vs (fI (ps.getD i.toNat AV.undef) 0) (fI (ps.getD i.toNat AV.undef) 1)=bi
 generalize v52_0 (fI (ps.getD i.toNat AV.undef) 0) (-1000) 1000=b1
 generalize v52_0 (fI (ps.getD i.toNat AV.undef) 1) 0 vs.length=b2
 by_cases hi:i > 0
 ·have hm:decide (0≤i - 1)=true:=decide_eq_true (by omega)
  have hm':decide (i - 1<(ps.length:Int))=true:=decide_eq_true (by omega)
  rw [decide_eq_true hi,hm,hm']
  generalize decide (fI (ps.getD i.toNat AV.undef) 0≤fI (ps.getD (i - 1).toNat AV.undef) 0)=b3
  generalize decide (fI (ps.getD i.toNat AV.undef) 1<fI (ps.getD (i - 1).toNat AV.undef) 1)=b4
  cases b1 <;> cases b2 <;> cases b3 <;> cases b4 <;> cases bi <;> rfl
 ·rw [decide_eq_false hi]
  cases b1 <;> cases b2 <;> cases bi <;> rfl
theorem P117 (vs ps:List AV) (h:vs.length≤1048576) (h':ps.length≤1048576):q117 vs ps=true∧v117_0 vs ps=noneB (badP vs ps) ps.length:=by
 have hr:runW (R117_0 vs ps) (((ps.length:Int) - 0).toNat+1) 0=some (ro (findF (badP vs ps) ps.length 0) (.inl ()) (L117 vs ps)):=by
  refine runW_find (fun i=>i) ps.length _ _ _ (fun i h0 hn=>step117 vs ps i h h' h0 hn) ?_ ps.length _ 0 (Int.le_refl 0) (by omega) (by omega)
  simp only [R117_0,F117_0,G117_0,Int.lt_irrefl,decide_false,cond_false]
 unfold q117 v117_0 noneB
 rw [hr]
 cases findF (badP vs ps) ps.length 0 with
 | none=>exact ⟨rfl,rfl⟩
 | some j =>
  simp only [ro,L117]
  cases badA vs ps j <;> exact ⟨rfl,rfl⟩
theorem run61i (vs rs ps p1 v1:List AV) (t1 t2 a b:Int) (h:vs.length≤1048576):runW (R61_4 p1 t1 t2 vs vs.length v1 rs ps a b) (((vs.length:Int) - 0).toNat+1) 0=some (bif badI vs a b then .inr () else .inl ()):=by
 have hr:runW (R61_4 p1 t1 t2 vs vs.length v1 rs ps a b) (((vs.length:Int) - 0).toNat+1) 0=some (ro (findF (fun k => !(decide (fI (vs.getD k.toNat .undef) 0<a) == decide (k<b))) vs.length 0) (.inl ()) fun _ => .inr ()):=by
  refine runW_find (fun i=>i) vs.length _ _ _ (fun i h0 hn=>?_) ?_ vs.length _ 0 (Int.le_refl 0) (by omega) (by omega)
  ·simp only [R61_4,F61_4,G61_4,h0,hn,decide_true,Bool.and_self,cond_true]
   rw [wrap_in (a:=i+1) (by omega) (by omega)]
  ·simp only [R61_4,F61_4,G61_4,Int.lt_irrefl,decide_false,cond_false]
 rw [hr]
 unfold badI noneB
 cases findF (fun k => !(decide (fI (vs.getD k.toNat .undef) 0<a) == decide (k<b))) vs.length 0 <;> rfl
theorem dlt (z n:Int):decide (z<n) = !decide (n≤z):=by
 by_cases h:n≤z
 ·rw [decide_eq_true h,decide_eq_false (by omega)];rfl
 ·rw [decide_eq_false h,decide_eq_true (by omega)];rfl
theorem dgt (z n:Int):decide (z > n) = !decide (z≤n):=by
 by_cases h:z≤n
 ·rw [decide_eq_true h,decide_eq_false (by omega)];rfl
 ·rw [decide_eq_false h,decide_eq_true (by omega)];rfl
theorem bound_eq (v:Int):v107_0 v=v52_0 v (-1000) 1000:=by
 unfold v107_0
 rw [v52]
 by_cases h1 : -1000≤v <;> by_cases h2:v≤1000 <;> simp [h1,h2]
theorem step61 (vs rs ps:List AV) (i:Int) (h:vs.length≤1048576) (h':ps.length≤1048576) (h0:0≤i) (hn:i<ps.length):R61_2 ps ps.length vs rs ps i=bif badP vs ps i then .stop (L117 vs ps i) else .next (i+1):=by
 simp only [R61_2,F61_2,G61_2,h0,hn,decide_true,Bool.and_self,cond_true,run61i vs rs ps ps vs _ _ _ _ h,ro,bound_eq]
 rw [wrap_in (a:=i+1) (by omega) (by omega),wrap_in (a:=i - 1) (by omega) (by omega)]
 unfold badP L117 badA
 rw [v52 (fI (ps.getD i.toNat AV.undef) 1) 0 vs.length]
 generalize badI vs (fI (ps.getD i.toNat AV.undef) 0) (fI (ps.getD i.toNat AV.undef) 1)=bi
 generalize v52_0 (fI (ps.getD i.toNat AV.undef) 0) (-1000) 1000=b1
 rw [dlt (fI (ps.getD i.toNat AV.undef) 1) 0,dgt (fI (ps.getD i.toNat AV.undef) 1)]
 generalize decide (0≤fI (ps.getD i.toNat AV.undef) 1)=b2
 generalize decide (fI (ps.getD i.toNat AV.undef) 1≤(vs.length:Int))=b5
 by_cases hi:i > 0
 ·have hm:decide (0≤i - 1)=true:=decide_eq_true (by omega)
  have hm':decide (i - 1<(ps.length:Int))=true:=decide_eq_true (by omega)
  rw [decide_eq_true hi,hm,hm']
  generalize decide (fI (ps.getD i.toNat AV.undef) 0≤fI (ps.getD (i - 1).toNat AV.undef) 0)=b3
  generalize decide (fI (ps.getD i.toNat AV.undef) 1<fI (ps.getD (i - 1).toNat AV.undef) 1)=b4
  cases b1 <;> cases b2 <;> cases b5 <;> cases b3 <;> cases b4 <;> cases bi <;> rfl
 ·rw [decide_eq_false hi]
  cases b1 <;> cases b2 <;> cases b5 <;> cases bi <;> rfl
theorem run61 (vs rs ps:List AV) (h:vs.length≤1048576) (h':ps.length≤1048576):runW (R61_2 ps ps.length vs rs ps) (((ps.length:Int) - 0).toNat+1) 0=some (ro (findF (badP vs ps) ps.length 0) (.inl ()) (L117 vs ps)):=by
 refine runW_find (fun i=>i) ps.length _ _ _ (fun i h0 hn=>step61 vs rs ps i h h' h0 hn) ?_ ps.length _ 0 (Int.le_refl 0) (by omega) (by omega)
 simp only [R61_2,F61_2,G61_2,Int.lt_irrefl,decide_false,cond_false]
theorem run68 (vs rs ps:List AV) (h:rs.length≤1048576):runW (R68_0 vs rs ps) (((rs.length:Int) - 0).toNat+1) 0=some (ro (findF (fun i => !v52_0 (fI (rs.getD i.toNat .undef) 0) 0 999 || badR rs i) rs.length 0) (.inl ()) fun _ => .inr ()):=by
 refine runW_find (fun i=>i) rs.length _ _ _ (fun i h0 hn=>?_) ?_ rs.length _ 0 (Int.le_refl 0) (by omega) (by omega)
 ·have hl:((rs.take (Int.toNat i)).drop (Int.toNat 0)).length≤1048576:=by rw [List.length_drop,List.length_take];omega
  have hle:decide (i≤(rs.length:Int))=true:=decide_eq_true (by omega)
  have h00:decide ((0:Int)≤0)=true:=rfl
  have h00n:decide ((0:Nat)≤0)=true:=rfl
  simp only [R68_0,F68_0,G68_0,h0,hn,hle,h00,h00n,decide_true,Bool.and_self,cond_true,(P54 _ _ hl).1,(P54 _ _ hl).2,badR]
  rw [wrap_in (a:=i+1) (by omega) (by omega)]
  cases v52_0 (fI (rs.getD i.toNat .undef) 0) 0 999 <;> cases hasI ((rs.take (Int.toNat i)).drop (Int.toNat 0)) (fI (rs.getD i.toNat .undef) 0) <;> rfl
 ·simp only [R68_0,F68_0,G68_0,Int.lt_irrefl,decide_false,cond_false]
theorem run61r (vs rs ps:List AV) (h:rs.length≤1048576):runW (R61_0 rs rs.length vs rs ps) (((rs.length:Int) - 0).toNat+1) 0=some (ro (findF (badR rs) rs.length 0) (.inl ()) fun _ => .inr ()):=by
 refine runW_find (fun i=>i) rs.length _ _ _ (fun i h0 hn=>?_) ?_ rs.length _ 0 (Int.le_refl 0) (by omega) (by omega)
 ·have hl:((rs.take (Int.toNat i)).drop (Int.toNat 0)).length≤1048576:=by rw [List.length_drop,List.length_take];omega
  have hle:decide (i≤(rs.length:Int))=true:=decide_eq_true (by omega)
  have h00:decide ((0:Int)≤0)=true:=rfl
  have h00n:decide ((0:Nat)≤0)=true:=rfl
  simp only [R61_0,F61_0,G61_0,h0,hn,hle,h00,h00n,decide_true,Bool.and_self,cond_true,(P48 _ _ hl).1,(P48 _ _ hl).2,badR]
  rw [wrap_in (a:=i+1) (by omega) (by omega)]
 ·simp only [R61_0,F61_0,G61_0,Int.lt_irrefl,decide_false,cond_false]
def isC (vs rs ps:List AV):Bool:=v116_0 vs && (decide ((rs.length:Int)=vs.length) && (noneB (fun i => !v52_0 (fI (rs.getD i.toNat .undef) 0) 0 999) rs.length && (noneB (badR rs) rs.length && noneB (badP vs ps) ps.length)))
theorem noneB_or (p q:Int→Bool) (n:Nat):noneB (fun i=>p i || q i) n=(noneB p n && noneB q n):=by
 rw [Bool.eq_iff_iff,Bool.and_eq_true,noneB_iff,noneB_iff,noneB_iff]
 constructor
 ·intro h
  exact ⟨fun j h1 h2=>by have:=h j h1 h2;simp only [Bool.or_eq_false_iff] at this;exact this.1,fun j h1 h2=>by have:=h j h1 h2;simp only [Bool.or_eq_false_iff] at this;exact this.2⟩
 ·rintro ⟨h,h'⟩ j h1 h2
  rw [h j h1 h2,h' j h1 h2]
  rfl
theorem P68 (vs rs ps:List AV) (h:vs.length≤1048576) (h':rs.length≤1048576) (h'':ps.length≤1048576):q68 vs rs ps=true∧v68_0 vs rs ps=isC vs rs ps:=by
 unfold q68 v68_0 isC
 rw [(P116 vs h).1,run68 vs rs ps h',(P117 vs ps h h'').1,(P117 vs ps h h'').2,← Bool.and_assoc (noneB _ _) (noneB _ _),← noneB_or]
 generalize noneB (badP vs ps) ps.length=bp
 unfold noneB
 cases v116_0 vs <;> cases decide ((rs.length:Int)=vs.length) <;> cases findF (fun i => !v52_0 (fI (rs.getD i.toNat .undef) 0) 0 999 || badR rs i) rs.length 0 <;> exact ⟨rfl,rfl⟩
theorem few (vs ps:List AV) (h:noneB (badP vs ps) ps.length=true):ps.length≤2001:=by
 rw [noneB_iff] at h
 have hb:∀ j:Int,0≤j→j<ps.length→(-1000≤fI (ps.getD j.toNat .undef) 0∧fI (ps.getD j.toNat .undef) 0≤1000)∧(0<j→fI (ps.getD (j - 1).toNat .undef) 0<fI (ps.getD j.toNat .undef) 0):=fun j h0 hn=>by
  have e:=h j h0 hn
  simp only [badP,badA,v52,Bool.or_eq_false_iff,Bool.not_eq_false',Bool.and_eq_true,decide_eq_true_eq] at e
  refine ⟨e.1.1,fun hj=>?_⟩
  have e3:=e.1.2.2
  rw [decide_eq_true hj,Bool.true_and,Bool.or_eq_false_iff] at e3
  have:=e3.1
  simp only [decide_eq_false_iff_not] at this
  omega
 have grow:∀ m:Nat,(m:Int)<ps.length→(m:Int) - 1000≤fI (ps.getD m .undef) 0:=by
  intro m
  induction m with
  | zero=>intro hm;have:=(hb 0 (by omega) hm).1.1;simp at this ⊢;exact this
  | succ m ih =>
   intro hm
   have h1:=ih (by omega)
   have h2:=(hb ((m:Int)+1) (by omega) (by omega)).2 (by omega)
   rw [show ((m:Int)+1 - 1).toNat=m by omega,show ((m:Int)+1).toNat=m+1 by omega] at h2
   omega
 by_cases hl:ps.length≤2001
 ·exact hl
 ·exfalso
  have h1:=grow 2001 (by omega)
  have h2:=(hb 2001 (by omega) (by omega)).1.2
  rw [show ((2001:Int)).toNat=2001 from rfl] at h2
  omega
theorem P61 (vs rs ps:List AV) (h:vs.length≤1048576) (h':rs.length≤1048576) (h'':ps.length≤1048576):q61 vs rs ps=true∧v61_0 vs rs ps=isC vs rs ps:=by
 unfold q61 v61_0 isC
 rw [(P79 vs h).1,(P79 vs h).2,(P106 rs _ _ h').1,(P106 rs _ _ h').2,run61r vs rs ps h',run61 vs rs ps h h'']
 have hf:=few vs ps
 unfold noneB at hf ⊢
 cases v116_0 vs with
 | false=>exact ⟨rfl,rfl⟩
 | true =>
  cases decide ((rs.length:Int)=vs.length) with
  | false=>exact ⟨rfl,rfl⟩
  | true =>
   cases findF (fun i => !v52_0 (fI (rs.getD i.toNat .undef) 0) 0 999) rs.length 0 with
   | some j=>exact ⟨rfl,rfl⟩
   | none =>
    cases hp:findF (badP vs ps) ps.length 0 with
    | none =>
     rw [hp] at hf
     have c:decide ((ps.length:Int) > 2001)=false:=decide_eq_false (by have:=hf rfl;omega)
     rw [c]
     cases findF (badR rs) rs.length 0 <;> exact ⟨rfl,rfl⟩
    | some j =>
     cases decide ((ps.length:Int) > 2001) with
     | true=>cases findF (badR rs) rs.length 0 <;> exact ⟨rfl,rfl⟩
     | false =>
      cases findF (badR rs) rs.length 0 with
      | some k=>exact ⟨rfl,rfl⟩
      | none =>
       simp only [ro,sumE,L117]
       cases badA vs ps j <;> exact ⟨rfl,rfl⟩
end Go.Proofs.YtbmfgibbjchijaaGreat

namespace Go.Proofs.YtbmfgibbjchijaaGreat
open Go Go.Proofs.VE
set_option linter.unusedVariables false
set_option linter.unusedSimpArgs false
def el (xs:List AV) (k:Int):Int:=fI (xs.getD k.toNat .undef) 0
def pat (ps:List AV) (k:Int):Int:=fI (ps.getD k.toNat .undef) 1
structure Col (vs rs ps:List AV):Prop where
 n64:vs.length≤64
 vals:∀ k:Int,0≤k→k<vs.length → -999≤el vs k∧el vs k≤999
 len:(rs.length:Int)=vs.length
 rows:∀ k:Int,0≤k→k<rs.length→0≤el rs k∧el rs k≤999
 dist:∀ j k:Int,0≤j→j<k→k<rs.length→el rs j ≠ el rs k
 pv:∀ i:Int,0≤i→i<ps.length → -1000≤el ps i∧el ps i≤1000
 pa:∀ i:Int,0≤i→i<ps.length→0≤pat ps i∧pat ps i≤vs.length
 asc:∀ i:Int,0<i→i<ps.length→el ps (i - 1)<el ps i∧pat ps (i - 1)≤pat ps i
 part:∀ i:Int,0≤i→i<ps.length→∀ k:Int,0≤k→k<vs.length→(el vs k<el ps i ↔ k<pat ps i)
theorem hasI_iff (xs:List AV) (x:Int):hasI xs x=true ↔ ∃ j:Int,0≤j∧j<xs.length∧el xs j=x:=by
 unfold hasI
 constructor
 ·intro h
  obtain ⟨j,hj⟩:=Option.isSome_iff_exists.1 h
  obtain ⟨h1,h2,h3⟩:=findF_some _ _ hj
  exact ⟨j,h1,by omega,of_decide_eq_true h3⟩
 ·rintro ⟨j,h1,h2,h3⟩
  cases hf:findF (fun i=>decide (fI (xs.getD i.toNat .undef) 0=x)) xs.length 0 with
  | some j=>rfl
  | none =>
   have h:(findF (fun i=>decide (fI (xs.getD i.toNat .undef) 0=x)) xs.length 0).isNone=true:=by rw [hf];rfl
   have:=(findF_isNone _ _).1 h j h1 (by omega)
   exact absurd h3 (of_decide_eq_false this)
theorem badR_iff (rs:List AV) (k:Int) (h0:0≤k) (h1:k<rs.length):badR rs k=false ↔ ∀ j:Int,0≤j→j<k→el rs j ≠ el rs k:=by
 have ek:fI (rs.getD k.toNat .undef) 0=el rs k:=rfl
 have e0:Int.toNat 0=0:=rfl
 unfold badR
 rw [ek,e0,List.drop_zero]
 have tl:(rs.take (Int.toNat k)).length=k.toNat:=by rw [List.length_take];omega
 have te:∀ j:Int,0≤j→j<k→el (rs.take (Int.toNat k)) j=el rs j:=fun j j0 j1=>by
  unfold el
  simp only [List.getD_eq_getElem?_getD]
  rw [List.getElem?_take_of_lt (by omega)]
 constructor
 ·intro h j j0 j1 e
  have:hasI (rs.take (Int.toNat k)) (el rs k)=true:=(hasI_iff _ _).2 ⟨j,j0,by rw [tl];omega,by rw [te j j0 j1];exact e⟩
  rw [h] at this
  cases this
 ·intro h
  cases hb:hasI (rs.take (Int.toNat k)) (el rs k) with
  | false=>rfl
  | true =>
   obtain ⟨j,j0,j1,j2⟩:=(hasI_iff _ _).1 hb
   rw [tl] at j1
   rw [te j j0 (by omega)] at j2
   exact absurd j2 (h j j0 (by omega))
theorem badI_iff (vs:List AV) (a b:Int):badI vs a b=false ↔ ∀ k:Int,0≤k→k<vs.length→(el vs k<a ↔ k<b):=by
 unfold badI
 rw [Bool.not_eq_false',noneB_iff]
 constructor
 ·intro h k h0 h1
  have:=h k h0 h1
  simp only [Bool.not_eq_false',beq_iff_eq] at this
  constructor
  ·intro hk
   rw [decide_eq_true (show fI (vs.getD k.toNat .undef) 0<a from hk)] at this
   exact of_decide_eq_true this.symm
  ·intro hk
   rw [decide_eq_true hk] at this
   exact of_decide_eq_true this
 ·intro h k h0 h1
  have:=h k h0 h1
  simp only [Bool.not_eq_false',beq_iff_eq]
  by_cases hk:k<b
  ·rw [decide_eq_true hk,decide_eq_true (show fI (vs.getD k.toNat .undef) 0<a from this.2 hk)]
  ·rw [decide_eq_false hk,decide_eq_false (show ¬ fI (vs.getD k.toNat .undef) 0<a from fun h=>hk (this.1 h))]
theorem badP_iff (vs ps:List AV) (i:Int):badP vs ps i=false ↔ ((-1000≤el ps i∧el ps i≤1000)∧(0≤pat ps i∧pat ps i≤vs.length)∧(0<i→el ps (i - 1)<el ps i∧pat ps (i - 1)≤pat ps i))∧∀ k:Int,0≤k→k<vs.length→(el vs k<el ps i ↔ k<pat ps i):=by
 unfold badP
 rw [Bool.or_eq_false_iff,badI_iff]
 have e:badA vs ps i=false ↔ ((-1000≤el ps i∧el ps i≤1000)∧(0≤pat ps i∧pat ps i≤vs.length)∧(0<i→el ps (i - 1)<el ps i∧pat ps (i - 1)≤pat ps i)):=by
  unfold badA el pat
  simp only [v52,Bool.or_eq_false_iff,Bool.not_eq_false',Bool.and_eq_true,decide_eq_true_eq,Bool.and_eq_false_iff,decide_eq_false_iff_not]
  constructor
  ·rintro ⟨h1,h2,h3⟩
   exact ⟨h1,h2,fun hi=>by rcases h3 with h3|h3 <;> omega⟩
  ·rintro ⟨h1,h2,h3⟩
   refine ⟨h1,h2,?_⟩
   by_cases hi:i > 0
   ·have:=h3 hi
    right
    omega
   ·exact .inl hi
 rw [e]
 rfl
theorem isC_iff (vs rs ps:List AV) (h:vs.length≤1048576):isC vs rs ps=true ↔ Col vs rs ps:=by
 unfold isC
 rw [(P116 vs h).2]
 simp only [Bool.and_eq_true,decide_eq_true_eq,noneB_iff]
 rw [findF_isNone]
 constructor
 ·rintro ⟨⟨h1,h2⟩,h3,h4,h5,h6⟩
  refine ⟨h2,fun k k0 k1=>?_,h3,fun k k0 k1=>?_,fun j k j0 jk k1=>(badR_iff rs k (by omega) k1).1 (h5 k (by omega) k1) j j0 jk,fun i i0 i1=>((badP_iff vs ps i).1 (h6 i i0 i1)).1.1,fun i i0 i1=>((badP_iff vs ps i).1 (h6 i i0 i1)).1.2.1,
   fun i i0 i1=>((badP_iff vs ps i).1 (h6 i (by omega) i1)).1.2.2 i0,fun i i0 i1=>((badP_iff vs ps i).1 (h6 i i0 i1)).2⟩
  ·have:=h1 k k0 (by omega)
   simp only [v52,Bool.not_eq_false',Bool.and_eq_true,decide_eq_true_eq] at this
   exact this
  ·have:=h4 k k0 k1
   simp only [v52,Bool.not_eq_false',Bool.and_eq_true,decide_eq_true_eq] at this
   exact this
 ·rintro ⟨a1,a2,a3,a4,a5,a6,a7,a8,a9⟩
  refine ⟨⟨fun k k0 k1=>?_,a1⟩,a3,fun k k0 k1=>?_,fun k k0 k1=>(badR_iff rs k k0 k1).2 fun j j0 jk=>a5 j k j0 jk k1,fun i i0 i1=>(badP_iff vs ps i).2 ⟨⟨a6 i i0 i1,a7 i i0 i1,fun hi=>a8 i hi i1⟩,a9 i i0 i1⟩⟩
  ·simp only [v52,Bool.not_eq_false',Bool.and_eq_true,decide_eq_true_eq]
   exact a2 k k0 (by omega)
  ·simp only [v52,Bool.not_eq_false',Bool.and_eq_true,decide_eq_true_eq]
   exact a4 k k0 k1
theorem Col.up {vs rs ps:List AV} (h:Col vs rs ps):∀ (d:Nat) (i:Int),0≤i→i+d<ps.length→(0<d→el ps i<el ps (i+d))∧pat ps i≤pat ps (i+d)
 | 0,i,_,_=>⟨fun h=>absurd h (by omega),by rw [show i+((0:Nat):Int)=i by omega];exact Int.le_refl _⟩
 | d+1,i,h0,h1=>by
  obtain ⟨a,b⟩:=Col.up h d i h0 (by omega)
  obtain ⟨c,e⟩:=h.asc (i+((d+1:Nat):Int)) (by omega) h1
  rw [show i+((d+1:Nat):Int) - 1=i+d by omega] at c e
  refine ⟨fun _=>?_,by omega⟩
  rcases Nat.eq_zero_or_pos d with hd|hd
  ·subst hd
   rw [show i+((0:Nat):Int)=i by omega] at c
   exact c
  ·have:=a hd
   omega
theorem Col.lt {vs rs ps:List AV} (h:Col vs rs ps) {i j:Int} (h0:0≤i) (h1:i<j) (h2:j<ps.length):el ps i<el ps j∧pat ps i≤pat ps j:=by
 have:=h.up (j - i).toNat i h0 (by omega)
 rw [show i+((j - i).toNat:Int)=j by omega] at this
 exact ⟨this.1 (by omega),this.2⟩
theorem sw_len (i j:Int) (xs:List AV):(v122_0 i j xs).length=xs.length:=by unfold v122_0;rw [List.length_set,List.length_set]
theorem el_set (xs:List AV) (i k:Int) (x:Int) (h0:0≤i) (h1:i<xs.length) (k0:0≤k):el (xs.set i.toNat (AV.agg [AV.int .i64 x])) k=if k=i then x else el xs k:=by
 unfold el
 by_cases e:k=i
 ·subst e
  rw [if_pos rfl,getD_set (by omega)]
  rfl
 ·rw [if_neg e]
  simp only [List.getD_eq_getElem?_getD]
  rw [List.getElem?_set_ne (by omega)]
theorem el_sw (xs:List AV) (i j k:Int) (i0:0≤i) (i1:i<xs.length) (j0:0≤j) (j1:j<xs.length) (k0:0≤k):el (v122_0 i j xs) k=if k=j then el xs i else if k=i then el xs j else el xs k:=by
 unfold v122_0
 rw [el_set _ _ _ _ j0 (by rw [List.length_set];exact j1) k0,el_set _ _ _ _ i0 i1 k0]
 rfl
theorem Col.sw {vs rs ps:List AV} (h:Col vs rs ps) {a b i j:Int} (a0:0≤a) (b1:b≤vs.length) (hab:∀ p:Int,0≤p→p<ps.length→pat ps p≤a∨b≤pat ps p) (i0:a≤i) (i1:i<b) (j0:a≤j) (j1:j<b) :
  Col (v122_0 i j vs) (v122_0 i j rs) ps:=by
 have hl:=h.len
 have ev:∀ k:Int,0≤k→el (v122_0 i j vs) k=if k=j then el vs i else if k=i then el vs j else el vs k:=fun k k0=>el_sw vs i j k (by omega) (by omega) (by omega) (by omega) k0
 have er:∀ k:Int,0≤k→el (v122_0 i j rs) k=if k=j then el rs i else if k=i then el rs j else el rs k:=fun k k0=>el_sw rs i j k (by omega) (by omega) (by omega) (by omega) k0
 have dd:∀ p q:Int,0≤p→p<rs.length→0≤q→q<rs.length→p ≠ q→el rs p ≠ el rs q:=fun p q p0 p1 q0 q1 hn e=>by
  rcases Int.lt_or_gt_of_ne hn with h1|h1
  ·exact h.dist p q p0 h1 q1 e
  ·exact h.dist q p q0 h1 p1 e.symm
 refine ⟨by rw [sw_len];exact h.n64,fun k k0 k1=>?_,by rw [sw_len,sw_len];exact h.len,fun k k0 k1=>?_,fun p q p0 pq q1=>?_,h.pv,fun i' i0' i1'=>by rw [sw_len];exact h.pa i' i0' i1',h.asc,fun p p0 p1 k k0 k1=>?_⟩
 ·rw [sw_len] at k1
  rw [ev k k0]
  split
  ·exact h.vals i (by omega) (by omega)
  ·split
   ·exact h.vals j (by omega) (by omega)
   ·exact h.vals k k0 k1
 ·rw [sw_len] at k1
  rw [er k k0]
  split
  ·exact h.rows i (by omega) (by omega)
  ·split
   ·exact h.rows j (by omega) (by omega)
   ·exact h.rows k k0 k1
 ·rw [sw_len] at q1
  rw [er p p0,er q (by omega)]
  split
  ·split
   ·omega
   ·split
    ·rename_i e1 e2 e3
     exact dd i j (by omega) (by omega) (by omega) (by omega) (by omega)
    ·rename_i e1 e2 e3
     exact dd i q (by omega) (by omega) (by omega) (by omega) (by omega)
  ·split
   ·split
    ·rename_i e1 e2 e3
     exact dd j i (by omega) (by omega) (by omega) (by omega) (by omega)
    ·split
     ·omega
     ·exact dd j q (by omega) (by omega) (by omega) (by omega) (by omega)
   ·split
    ·exact dd p i (by omega) (by omega) (by omega) (by omega) (by omega)
    ·split
     ·exact dd p j (by omega) (by omega) (by omega) (by omega) (by omega)
     ·exact h.dist p q p0 pq q1
 ·rw [sw_len] at k1
  rw [ev k k0]
  have hp:=hab p p0 p1
  have hi:=h.part p p0 p1 i (by omega) (by omega)
  have hj:=h.part p p0 p1 j (by omega) (by omega)
  split
  ·rw [hi]
   omega
  ·split
   ·rw [hj]
    omega
   ·exact h.part p p0 p1 k k0 k1
def appS (ss xs:List AV):List AV:=ss.foldl (fun xs s=>v122_0 (fI s 0) (fI s 1) xs) xs
theorem appS_cons (s:AV) (ss xs:List AV):appS (s :: ss) xs=appS ss (v122_0 (fI s 0) (fI s 1) xs):=rfl
theorem appS_snoc (s:AV) (ss xs:List AV):appS (ss++[s]) xs=v122_0 (fI s 0) (fI s 1) (appS ss xs):=by unfold appS;rw [List.foldl_append];rfl
theorem appS_len (ss:List AV):∀ xs:List AV,(appS ss xs).length=xs.length:=by
 induction ss with
 | nil=>intro xs;rfl
 | cons s ss ih=>intro xs;rw [appS_cons,ih,sw_len]
def inS (a b:Int) (ss:List AV):Prop:=∀ s ∈ ss,a≤fI s 0∧fI s 0<b∧a≤fI s 1∧fI s 1<b
theorem Col.swaps {ps:List AV} {a b:Int} (a0:0≤a) (hab:∀ p:Int,0≤p→p<ps.length→pat ps p≤a∨b≤pat ps p):∀ (ss vs rs:List AV),Col vs rs ps→b≤vs.length→inS a b ss→Col (appS ss vs) (appS ss rs) ps
 | [],vs,rs,h,_,_=>h
 | s :: ss,vs,rs,h,hb,hs=>by
  obtain ⟨h1,h2,h3,h4⟩:=hs s List.mem_cons_self
  exact Col.swaps a0 hab ss _ _ (h.sw a0 hb hab h1 h2 h3 h4) (by rw [sw_len];exact hb) fun x hx=>hs x (List.mem_cons_of_mem _ hx)
end Go.Proofs.YtbmfgibbjchijaaGreat

namespace Go.Proofs.YtbmfgibbjchijaaGreat
open Go Go.Proofs.VE
set_option linter.unusedVariables false
set_option linter.unusedSimpArgs false
def mk2 (a b:Int):AV:=AV.agg [AV.int .i64 a,AV.int .i64 b]
def N2 (ps:List AV):Prop:=∀ x ∈ ps,mk2 (fI x 0) (fI x 1)=x
theorem N2.at {ps:List AV} (h:N2 ps) {k:Int} (h0:0≤k) (h1:k<ps.length):mk2 (fI (ps.getD k.toNat .undef) 0) (fI (ps.getD k.toNat .undef) 1)=ps.getD k.toNat .undef:=by
 refine h _ ?_
 rw [List.getD_eq_getElem?_getD,List.getElem?_eq_getElem (by omega)]
 exact List.getElem_mem _
theorem N2.map {f:AV→AV} (hf:∀ x,∃ a b,f x=mk2 a b) (xs:List AV):N2 (xs.map f):=fun x hx=>by
 obtain ⟨y,_,rfl⟩:=List.mem_map.1 hx
 obtain ⟨a,b,e⟩:=hf y
 rw [e]
 rfl
theorem take_snoc {xs:List AV} {k:Int} (h0:0≤k) (h1:k<xs.length):xs.take (k+1).toNat=xs.take k.toNat++[xs.getD k.toNat .undef]:=by
 rw [show (k+1).toNat=k.toNat+1 by omega,List.take_add_one,List.getD_eq_getElem?_getD,List.getElem?_eq_getElem (by omega)]
 rfl
def findP (ps:List AV) (v:Int):Option Int:=findF (fun i=>decide (fI (ps.getD i.toNat .undef) 0=v)) ps.length 0
theorem P119 (vs rs ps:List AV) (v:Int) (h:ps.length≤1048576):q119 vs rs ps v=true∧v119_0 vs rs ps v=ro (findP ps v) 0 (pat ps)∧v119_1 vs rs ps v=(findP ps v).isSome:=by
 have hr:runW (R119_0 v vs rs ps) (((ps.length:Int) - 0).toNat+1) 0=some (ro (findP ps v) (.inl ()) fun i => .inr (fI (ps.getD i.toNat .undef) 1)):=by
  refine runW_find (fun i=>i) ps.length _ _ _ (fun i h0 hn=>?_) ?_ ps.length _ 0 (Int.le_refl 0) (by omega) (by omega)
  ·simp only [R119_0,F119_0,G119_0,h0,hn,decide_true,Bool.and_self,cond_true]
   rw [wrap_in (a:=i+1) (by omega) (by omega)]
  ·simp only [R119_0,F119_0,G119_0,Int.lt_irrefl,decide_false,cond_false]
 unfold q119 v119_0 v119_1
 rw [hr]
 cases findP ps v <;> exact ⟨rfl,rfl,rfl⟩
theorem P111 (vs rs ps:List AV) (v:Int) (h:ps.length≤1048576):q111 vs rs ps v=true∧v111_0 vs rs ps v=ro (findP ps v) 0 (pat ps)∧v111_1 vs rs ps v=(findP ps v).isSome:=by
 have hr:runW (R111_0 v ps ps.length) (((ps.length:Int) - 0).toNat+1) 0=some (ro (findP ps v) (.inl ()) fun i => .inr (fI (ps.getD i.toNat .undef) 1,fI (ps.getD i.toNat .undef) 0,fI (ps.getD i.toNat .undef) 1)):=by
  refine runW_find (fun i=>i) ps.length _ _ _ (fun i h0 hn=>?_) ?_ ps.length _ 0 (Int.le_refl 0) (by omega) (by omega)
  ·simp only [R111_0,F111_0,G111_0,h0,hn,decide_true,Bool.and_self,cond_true]
   rw [wrap_in (a:=i+1) (by omega) (by omega)]
  ·simp only [R111_0,F111_0,G111_0,Int.lt_irrefl,decide_false,cond_false]
 unfold q111 v111_0 v111_1
 rw [hr]
 cases findP ps v <;> exact ⟨rfl,rfl,rfl⟩
theorem P142 (vs rs ps:List AV) (v:Int) (h:ps.length≤1048576):q142 vs rs ps v=true∧v142_0 vs rs ps v=(findP ps v).isSome:=⟨(P111 vs rs ps v h).1,(P111 vs rs ps v h).2.2⟩
theorem findP_none {ps:List AV} {v:Int} (h:(findP ps v).isSome=false):∀ k:Int,0≤k→k<ps.length→el ps k ≠ v:=fun k h0 h1 e=>by
 have:(findP ps v).isNone=true:=by
  cases hf:findP ps v with
  | none=>rfl
  | some j=>rw [hf] at h;cases h
 have:=(findF_isNone _ _).1 this k h0 (by omega)
 exact of_decide_eq_false this e
structure Pc (n:Int) (ps:List AV) (v a b t:Int):Prop where
 t0:0≤t
 t1:t≤ps.length
 lo:∀ k:Int,0≤k→k<t→el ps k<v
 hi:∀ k:Int,t≤k→k<ps.length→v<el ps k
 ea:a=if t=0 then 0 else pat ps (t - 1)
 eb:b=if t=ps.length then n else pat ps t
def place (ps:List AV) (v:Int):Int:=ro (findF (fun i=>decide (fI (ps.getD i.toNat .undef) 0 > v)) ps.length 0) ps.length id
theorem place_spec (ps:List AV) (v:Int):0≤place ps v∧place ps v≤ps.length∧(∀ k:Int,0≤k→k<place ps v→el ps k≤v)∧(place ps v<ps.length→v<el ps (place ps v)):=by
 unfold place
 cases hf:findF (fun i=>decide (fI (ps.getD i.toNat .undef) 0 > v)) ps.length 0 with
 | none =>
  refine ⟨by simp [ro],by simp [ro],fun k h0 h1=>?_,fun h=>?_⟩
  ·have:(findF (fun i=>decide (fI (ps.getD i.toNat .undef) 0 > v)) ps.length 0).isNone=true:=by rw [hf];rfl
   have:=(findF_isNone _ _).1 this k h0 (by simp only [ro] at h1;omega)
   have:=of_decide_eq_false this
   unfold el
   omega
  ·simp only [ro] at h
   omega
 | some j =>
  obtain ⟨h1,h2,h3⟩:=findF_some _ _ hf
  refine ⟨by simpa [ro] using h1,by simp only [ro,id];omega,fun k h0 hk=>?_,fun _=>?_⟩
  ·simp only [ro,id] at hk
   have key:∀ (m:Nat) (i:Int),findF (fun i=>decide (fI (ps.getD i.toNat .undef) 0 > v)) m i=some j→∀ k,i≤k→k<j→¬ fI (ps.getD k.toNat .undef) 0 > v:=by
    intro m
    induction m with
    | zero=>intro i h;cases h
    | succ m ih =>
     intro i h k hk1 hk2
     simp only [findF] at h
     cases hp:decide (fI (ps.getD i.toNat .undef) 0 > v) with
     | true=>rw [hp] at h;simp only [cond_true,Option.some.injEq] at h;omega
     | false =>
      rw [hp] at h
      by_cases e:k=i
      ·subst e;exact of_decide_eq_false hp
      ·exact ih (i+1) h k (by omega) hk2
   have:=key _ _ hf k h0 hk
   unfold el
   omega
  ·simp only [ro,id]
   exact of_decide_eq_true h3
theorem pc_of {vs rs ps:List AV} (h:Col vs rs ps) {v:Int} (hf:(findP ps v).isSome=false):Pc vs.length ps v (if place ps v=0 then 0 else pat ps (place ps v - 1)) (if place ps v=ps.length then (vs.length:Int) else pat ps (place ps v)) (place ps v):=by
 obtain ⟨h0,h1,h2,h3⟩:=place_spec ps v
 refine ⟨h0,h1,fun k k0 k1=>?_,fun k k0 k1=>?_,rfl,rfl⟩
 ·have:=findP_none hf k k0 (by omega)
  have:=h2 k k0 k1
  omega
 ·by_cases e:k=place ps v
  ·rw [e];exact h3 (by omega)
  ·have:=(h.lt (i:=place ps v) (j:=k) h0 (by omega) k1).1
   have:=h3 (by omega)
   omega
theorem P143 {vs rs ps:List AV} {v a b t:Int} (h:Pc vs.length ps v a b t) (hl:ps.length≤1048576):q143 vs rs ps v=true∧v143_0 vs rs ps v=a∧v143_1 vs rs ps v=b:=by
 obtain ⟨r,h1,h2⟩:=runW_ends (f:=R143_0 v (vs.length:Int) ps ps.length) (fun s:Int × Int=>0≤s.2∧s.2≤t∧s.1=if s.2=0 then 0 else pat ps (s.2 - 1))
  (fun r=>match r with | .inl x=>t=ps.length∧x=a | .inr x=>t<ps.length∧x.1=a∧x.2.1=b) (fun s=>((ps.length:Int) - s.2).toNat) (fun s hs=>by
   obtain ⟨t6,k⟩:=s
   obtain ⟨k0,k1,e⟩:=hs
   simp only at k0 k1 e
   have ht1:=h.t1
   by_cases hk:k<ps.length
   ·have d1:decide (k<(ps.length:Int))=true:=decide_eq_true hk
    have d2:decide (0≤k)=true:=decide_eq_true k0
    have wk:IntKind.i64.wrap (k+1)=k+1:=wrap_in (by omega) (by omega)
    by_cases hkt:k<t
    ·have hv:=h.lo k k0 hkt
     have d3:decide (fI (ps.getD k.toNat .undef) 0≤v)=true:=decide_eq_true (Int.le_of_lt hv)
     have d4:decide (fI (ps.getD k.toNat .undef) 0 ≥ v)=false:=decide_eq_false (by unfold el at hv;omega)
     refine .inl ⟨(pat ps k,k+1),?_,⟨by simp only;omega,by simp only;omega,?_⟩,by simp only;omega⟩
     ·simp only [R143_0,F143_0,G143_0,d1,d2,d3,d4,wk,Bool.and_self,cond_true,cond_false]
      rfl
     ·simp only
      rw [if_neg (by omega),show k+1 - 1=k by omega]
    ·have hkt':k=t:=by omega
     subst hkt'
     have hv:=h.hi k (Int.le_refl _) hk
     have d3:decide (fI (ps.getD k.toNat .undef) 0≤v)=false:=decide_eq_false (by unfold el at hv;omega)
     have d4:decide (fI (ps.getD k.toNat .undef) 0 ≥ v)=true:=decide_eq_true (Int.le_of_lt hv)
     refine .inr ⟨.inr (t6,fI (ps.getD k.toNat .undef) 1,fI (ps.getD k.toNat .undef) 0,fI (ps.getD k.toNat .undef) 1),?_,hk,?_,?_⟩
     ·simp only [R143_0,F143_0,G143_0,d1,d2,d3,d4,Bool.and_self,cond_true,cond_false]
     ·simp only;rw [e,h.ea]
     ·simp only;rw [h.eb,if_neg (by omega)];rfl
   ·have d1:decide (k<(ps.length:Int))=false:=decide_eq_false hk
    have hkt':k=t:=by omega
    subst hkt'
    refine .inr ⟨.inl t6,?_,by omega,?_⟩
    ·simp only [R143_0,F143_0,G143_0,d1,cond_false]
    ·rw [e,h.ea]) (((ps.length:Int) - 0).toNat+1) (0,0) ⟨by simp,h.t0,rfl⟩ (by simp)
 unfold q143 v143_0 v143_1
 rw [h1]
 cases r with
 | inl x =>
  obtain ⟨e1,e2⟩:=h2
  refine ⟨rfl,e2,?_⟩
  simp only [ro,sumE]
  rw [h.eb,if_pos e1]
 | inr x =>
  obtain ⟨e1,e2,e3⟩:=h2
  exact ⟨rfl,e2,e3⟩
theorem P177 {n:Nat} {ps:List AV} {v a b t:Int} (h:Pc n ps v a b t) (hl:ps.length≤1048576):q177 n ps v=true∧v177_0 n ps v=a∧v177_1 n ps v=b:=by
 have ht1:=h.t1
 have ht0:=h.t0
 obtain ⟨r,h1,h2⟩:=runW_ends (f:=R177_0 ps v (n:Int)) (fun s:Int × Int=>0≤s.2∧s.2≤ps.length∧s.1=if min s.2 t=0 then 0 else pat ps (min s.2 t - 1)) (fun r=>r=a) (fun s=>((ps.length:Int) - s.2).toNat) (fun s hs=>by
   obtain ⟨t8,k⟩:=s
   obtain ⟨k0,k1,e⟩:=hs
   simp only at k0 k1 e
   by_cases hk:k<ps.length
   ·have d1:decide (k<(ps.length:Int))=true:=decide_eq_true hk
    have d2:decide (0≤k)=true:=decide_eq_true k0
    have wk:IntKind.i64.wrap (k+1)=k+1:=wrap_in (by omega) (by omega)
    by_cases hkt:k<t
    ·have hv:=h.lo k k0 hkt
     have d3:decide (fI (ps.getD k.toNat .undef) 0≤v)=true:=decide_eq_true (Int.le_of_lt hv)
     refine .inl ⟨(pat ps k,k+1),?_,⟨by simp only;omega,by simp only;omega,?_⟩,by simp only;omega⟩
     ·simp only [R177_0,F177_0,G177_0,d1,d2,d3,wk,Bool.and_self,cond_true,cond_false]
      rfl
     ·simp only
      rw [Int.min_eq_left (by omega:k+1≤t),if_neg (by omega),show k+1 - 1=k by omega]
    ·have hv:=h.hi k (by omega) hk
     have d3:decide (fI (ps.getD k.toNat .undef) 0≤v)=false:=decide_eq_false (by unfold el at hv;omega)
     refine .inl ⟨(t8,k+1),?_,⟨by simp only;omega,by simp only;omega,?_⟩,by simp only;omega⟩
     ·simp only [R177_0,F177_0,G177_0,d1,d2,d3,wk,Bool.and_self,cond_true,cond_false]
     ·simp only
      rw [e,Int.min_eq_right (by omega:t≤k+1),Int.min_eq_right (by omega:t≤k)]
   ·have d1:decide (k<(ps.length:Int))=false:=decide_eq_false hk
    refine .inr ⟨t8,?_,?_⟩
    ·simp only [R177_0,F177_0,G177_0,d1,cond_false]
    ·rw [e,h.ea,Int.min_eq_right (by omega:t≤k)]) (((ps.length:Int) - 0).toNat+1) (0,0) ⟨by simp,by simp,by simp only;rw [Int.min_eq_left ht0];rfl⟩ (by simp)
 subst h2
 obtain ⟨r',h3,h4⟩:=runW_ends (f:=R177_2 ps v r) (fun s:Int × Int => -1≤s.2∧s.2<ps.length∧s.1=if max (s.2+1) t=ps.length then (n:Int) else pat ps (max (s.2+1) t)) (fun r=>r=b) (fun s=>(s.2+1).toNat) (fun s hs=>by
   obtain ⟨t9,k⟩:=s
   obtain ⟨k0,k1,e⟩:=hs
   simp only at k0 k1 e
   by_cases hk:k ≥ 0
   ·have d1:decide (k ≥ 0)=true:=decide_eq_true hk
    have d2:decide (0≤k)=true:=decide_eq_true hk
    have d3:decide (k<(ps.length:Int))=true:=decide_eq_true k1
    have wk:IntKind.i64.wrap (k - 1)=k - 1:=wrap_in (by omega) (by omega)
    by_cases hkt:k<t
    ·have hv:=h.lo k hk hkt
     have d4:decide (fI (ps.getD k.toNat .undef) 0 ≥ v)=false:=decide_eq_false (by unfold el at hv;omega)
     refine .inl ⟨(t9,k - 1),?_,⟨by simp only;omega,by simp only;omega,?_⟩,by simp only;omega⟩
     ·simp only [R177_2,F177_2,G177_2,d1,d2,d3,d4,wk,Bool.and_self,cond_true,cond_false]
     ·simp only
      rw [e,Int.max_eq_right (by omega:k+1≤t),Int.max_eq_right (by omega:k - 1+1≤t)]
    ·have hv:=h.hi k (by omega) k1
     have d4:decide (fI (ps.getD k.toNat .undef) 0 ≥ v)=true:=decide_eq_true (Int.le_of_lt hv)
     refine .inl ⟨(pat ps k,k - 1),?_,⟨by simp only;omega,by simp only;omega,?_⟩,by simp only;omega⟩
     ·simp only [R177_2,F177_2,G177_2,d1,d2,d3,d4,wk,Bool.and_self,cond_true,cond_false]
      rfl
     ·simp only
      rw [Int.max_eq_left (by omega:t≤k - 1+1),show k - 1+1=k by omega,if_neg (by omega)]
   ·have d1:decide (k ≥ 0)=false:=decide_eq_false hk
    refine .inr ⟨t9,?_,?_⟩
    ·simp only [R177_2,F177_2,G177_2,d1,cond_false]
    ·rw [e,h.eb,Int.max_eq_right (by omega:k+1≤t)]) (((((ps.length:Int) - 1)) - 0+1).toNat+1) ((n:Int),(ps.length:Int) - 1) ⟨by simp only;omega,by simp only;omega,by simp only;rw [Int.max_eq_left (by omega:t≤(ps.length:Int) - 1+1),if_pos (by omega)]⟩ (by simp only;omega)
 subst h4
 unfold q177 v177_0 v177_1
 rw [wrap_in (a:=(ps.length:Int) - 1) (by omega) (by omega),h1]
 simp only [ro]
 rw [h3]
 refine ⟨?_,?_,?_⟩ <;> first|rfl|trivial
structure Piece (vs ps:List AV) (v a b:Int):Prop where
 a0:0≤a
 ab:a≤b
 b1:b≤vs.length
 cut:∀ p:Int,0≤p→p<ps.length→pat ps p≤a∨b≤pat ps p
 lo:∀ k:Int,0≤k→k<a→el vs k<v
 hi:∀ k:Int,b≤k→k<vs.length→v≤el vs k
theorem piece_of {vs rs ps:List AV} (h:Col vs rs ps) {v a b t:Int} (hp:Pc vs.length ps v a b t):Piece vs ps v a b:=by
 obtain ⟨t0,t1,lo,hi,ea,eb⟩:=hp
 have fa:0≤a∧a≤vs.length∧∀ k:Int,0≤k→k<a→el vs k<v:=by
  rw [ea]
  split
  ·exact ⟨Int.le_refl 0,by omega,fun k h0 h1=>by omega⟩
  ·have:=h.pa (t - 1) (by omega) (by omega)
   refine ⟨this.1,this.2,fun k k0 k1=>?_⟩
   have h1:=(h.part (t - 1) (by omega) (by omega) k k0 (by omega)).2 k1
   have h2:=lo (t - 1) (by omega) (by omega)
   omega
 have fb:0≤b∧b≤vs.length∧∀ k:Int,b≤k→k<vs.length→v≤el vs k:=by
  rw [eb]
  split
  ·exact ⟨by omega,Int.le_refl _,fun k h0 h1=>by omega⟩
  ·have:=h.pa t (by omega) (by omega)
   refine ⟨this.1,this.2,fun k k0 k1=>?_⟩
   have h1:=h.part t (by omega) (by omega) k (by omega) k1
   have h2:=hi t (Int.le_refl _) (by omega)
   omega
 refine ⟨fa.1,?_,fb.2.1,fun p p0 p1=>?_,fa.2.2,fb.2.2⟩
 ·rw [ea,eb]
  split
  ·split
   ·omega
   ·exact (h.pa t (by omega) (by omega)).1
  ·split
   ·exact (h.pa (t - 1) (by omega) (by omega)).2
   ·exact (h.lt (i:=t - 1) (j:=t) (by omega) (by omega) (by omega)).2
 ·by_cases hpt:p<t
  ·left
   rw [ea,if_neg (by omega)]
   by_cases e:p=t - 1
   ·rw [e];exact Int.le_refl _
   ·exact (h.lt (i:=p) (j:=t - 1) p0 (by omega) (by omega)).2
  ·right
   rw [eb,if_neg (by omega)]
   by_cases e:p=t
   ·rw [e];exact Int.le_refl _
   ·exact (h.lt (i:=t) (j:=p) t0 (by omega) p1).2
end Go.Proofs.YtbmfgibbjchijaaGreat

namespace Go.Proofs.YtbmfgibbjchijaaGreat
open Go Go.Proofs.VE
set_option linter.unusedVariables false
set_option linter.unusedSimpArgs false
theorem P69 (v r p:List AV) (h1:v.length≤1048576) (h2:r.length≤1048576) (h3:p.length≤1048576):q69 v r p=true∧v69_0 v r p=v∧v69_1 v r p=r∧v69_2 v r p=p:=by
 unfold q69 v69_0 v69_1 v69_2
 simp only [List.length_nil,Nat.zero_add,List.nil_append]
 rw [decide_eq_true (by omega:v.length*8≤140737488355328),decide_eq_true (by omega:v.length≤140737488355328),decide_eq_true (by omega:r.length*8≤140737488355328),decide_eq_true (by omega:r.length≤140737488355328),decide_eq_true (by omega:p.length*16≤140737488355328),decide_eq_true (by omega:p.length≤140737488355328)]
 simp
theorem P108 (xs:List AV) (h:xs.length≤1048576):q108 xs=true∧v108_0 xs=xs:=by
 unfold q108 v108_0
 rw [decide_eq_true (by omega:xs.length*8≤140737488355328),decide_eq_true (by omega:xs.length≤140737488355328)]
 exact ⟨rfl,rfl⟩
theorem P109 (xs:List AV) (h:xs.length≤1048576):q109 xs=true∧v109_0 xs=xs:=by
 unfold q109 v109_0
 rw [decide_eq_true (by omega:xs.length*16≤140737488355328),decide_eq_true (by omega:xs.length≤140737488355328)]
 exact ⟨rfl,rfl⟩
theorem P64 (v r p:List AV) (h1:v.length≤1048576) (h2:r.length≤1048576) (h3:p.length≤1048576):q64 v r p=true∧v64_0 v r p=v∧v64_1 v r p=r∧v64_2 v r p=p:=by
 unfold q64 v64_0 v64_1 v64_2
 rw [(P108 v h1).1,(P108 r h2).1,(P109 p h3).1]
 exact ⟨rfl,rfl,rfl,rfl⟩
abbrev PS:=Int × Int × List AV
abbrev PS':=Int × Int × List AV × List AV
structure ParI (vs:List AV) (v a b:Int) (s:PS) (s':PS'):Prop where
 e1:s'.1=s.1
 e2:s'.2.1=s.2.1
 e3:s'.2.2.2=s.2.2
 el_:s'.2.2.1=appS s.2.2 vs
 i0:a≤s.1
 ij:s.1≤s.2.1+1
 j1:s.2.1<b
 ins:inS a b s.2.2
 n2:N2 s.2.2
 len:(s.2.2.length:Int)≤s.1 - a
 mid:∀ k:Int,s.1≤k→k≤s.2.1→el (appS s.2.2 vs) k=el vs k
 lo:∀ k:Int,a≤k→k<s.1→el (appS s.2.2 vs) k<v
 hi:∀ k:Int,s.2.1<k→k<b→v≤el (appS s.2.2 vs) k
 ord:∀ x ∈ s.2.2,fI x 0<fI x 1
structure Parted (vs:List AV) (v a b:Int) (ss:List AV) (at_:Int):Prop where
 i0:a≤at_
 i1:at_≤b
 ins:inS a b ss
 n2:N2 ss
 len:(ss.length:Int)≤at_ - a
 lo:∀ k:Int,a≤k→k<at_→el (appS ss vs) k<v
 hi:∀ k:Int,at_≤k→k<b→v≤el (appS ss vs) k
 ord:∀ x ∈ ss,fI x 0<fI x 1
theorem room2 (X:List AV) (a:AV) (h:X.length≤1048576):(decide ((X.length+[a].length)*16≤140737488355328) && decide (X.length+[a].length≤140737488355328))=true:=by
 simp only [List.length_singleton,Bool.and_eq_true,decide_eq_true_eq]
 omega
theorem stepPar (vs:List AV) (v a b:Int) (hn:vs.length≤1048576) (a0:0≤a) (b1:b≤vs.length) (s:PS) (s':PS') (h:ParI vs v a b s s') :
  (∃ x y,R151_0 vs v s = .next x∧R144_0 v s' = .next y∧ParI vs v a b x y∧(x.2.1+1 - x.1).toNat<(s.2.1+1 - s.1).toNat)∨∃ r r',R151_0 vs v s = .stop r∧R144_0 v s' = .stop r'∧(r'.1=r.1∧r'.2.2=r.2∧Parted vs v a b r.2 r.1):=by
 obtain ⟨i,j,ss⟩:=s
 obtain ⟨i',j',l,ss'⟩:=s'
 obtain ⟨e1,e2,e3,e4,i0,ij,j1,ins,n2,len,mid,lo,hi,ord⟩:=h
 simp only at e1 e2 e3 e4 i0 ij j1 ins n2 len mid lo hi ord
 subst e1 e2 e3 e4
 have hlen:=appS_len ss' vs
 by_cases hij:i'≤j'
 ·have d0:decide (i'≤j')=true:=decide_eq_true hij
  have c1:decide (0≤i')=true:=decide_eq_true (by omega)
  have c2:decide (i'<(vs.length:Int))=true:=decide_eq_true (by omega)
  have c3:decide (0≤j')=true:=decide_eq_true (by omega)
  have c4:decide (j'<(vs.length:Int))=true:=decide_eq_true (by omega)
  have wi:IntKind.i64.wrap (i'+1)=i'+1:=wrap_in (by omega) (by omega)
  have wj:IntKind.i64.wrap (j' - 1)=j' - 1:=wrap_in (by omega) (by omega)
  have mi:=mid i' (Int.le_refl _) hij
  have mj:=mid j' hij (Int.le_refl _)
  have fi:fI ((appS ss' vs).getD i'.toNat AV.undef) 0=el vs i':=mi
  have fj:fI ((appS ss' vs).getD j'.toNat AV.undef) 0=el vs j':=mj
  have gi:fI (vs.getD i'.toNat AV.undef) 0=el vs i':=rfl
  have gj:fI (vs.getD j'.toNat AV.undef) 0=el vs j':=rfl
  by_cases h1:el vs i'<v
  ·have d1:decide (el vs i'<v)=true:=decide_eq_true h1
   refine .inl ⟨(i'+1,j',ss'),(i'+1,j',appS ss' vs,ss'),?_,?_,⟨rfl,rfl,rfl,rfl,by simp only;omega,by simp only;omega,j1,ins,n2,by simp only;omega,fun k k0 k1=>mid k (by simp only at k0;omega) k1,fun k k0 k1=>?_,hi,ord⟩,by simp only;omega⟩
   ·simp only [R151_0,F151_0,G151_0,gi,d0,c1,c2,d1,wi,Bool.and_self,cond_true]
   ·simp only [R144_0,F144_0,G144_0,q163,v163_0,v163_1,v163_2,hlen,fi,d0,c1,c2,d1,wi,Bool.and_self,cond_true,cond_false]
   ·simp only at k1 ⊢
    by_cases e:k=i'
    ·rw [e,mi];exact h1
    ·exact lo k k0 (by omega)
  ·have d1:decide (el vs i'<v)=false:=decide_eq_false h1
   by_cases h2:el vs j' ≥ v
   ·have d2:decide (el vs j' ≥ v)=true:=decide_eq_true h2
    refine .inl ⟨(i',j' - 1,ss'),(i',j' - 1,appS ss' vs,ss'),?_,?_,⟨rfl,rfl,rfl,rfl,i0,by simp only;omega,by simp only;omega,ins,n2,len,fun k k0 k1=>mid k k0 (by simp only at k1;omega),lo,fun k k0 k1=>?_,ord⟩,by simp only;omega⟩
    ·simp only [R151_0,F151_0,G151_0,gi,gj,d0,c1,c2,c3,c4,d1,d2,wj,Bool.and_self,cond_true,cond_false]
    ·simp only [R144_0,F144_0,G144_0,q163,v163_0,v163_1,v163_2,hlen,fi,fj,d0,c1,c2,c3,c4,d1,d2,wj,Bool.and_self,cond_true,cond_false]
    ·simp only at k0 ⊢
     by_cases e:k=j'
     ·rw [e,mj];exact h2
     ·exact hi k (by omega) k1
   ·have d2:decide (el vs j' ≥ v)=false:=decide_eq_false h2
    have hne:i'<j':=by
     rcases Int.lt_or_eq_of_le hij with h|h
     ·exact h
     ·rw [h] at h1;omega
    have hr:=room2 ss' (AV.agg [AV.int .i64 i',AV.int .i64 j']) (by omega)
    have eap:appS (ss'++[AV.agg [AV.int .i64 i',AV.int .i64 j']]) vs=v122_0 i' j' (appS ss' vs):=appS_snoc _ _ _
    have ev:∀ k:Int,0≤k→el (v122_0 i' j' (appS ss' vs)) k=if k=j' then el (appS ss' vs) i' else if k=i' then el (appS ss' vs) j' else el (appS ss' vs) k:=fun k k0=>el_sw _ i' j' k (by omega) (by omega) (by omega) (by omega) k0
    refine .inl ⟨(i'+1,j' - 1,ss'++[AV.agg [AV.int .i64 i',AV.int .i64 j']]),(i'+1,j' - 1,v122_0 i' j' (appS ss' vs),ss'++[AV.agg [AV.int .i64 i',AV.int .i64 j']]),?_,?_,
     ⟨rfl,rfl,rfl,eap.symm,by simp only;omega,by simp only;omega,by simp only;omega,fun x hx=>?_,fun x hx=>?_,by simp only [List.length_append,List.length_singleton];omega,fun k k0 k1=>?_,fun k k0 k1=>?_,fun k k0 k1=>?_,fun x hx=>?_⟩,by simp only;omega⟩
    ·simp only [R151_0,F151_0,G151_0,gi,gj,d0,c1,c2,c3,c4,d1,d2,wi,wj,hr,Bool.and_self,cond_true,cond_false]
    ·simp only [R144_0,F144_0,G144_0,q163,v163_0,v163_1,v163_2,hlen,List.length_set,fi,fj,d0,c1,c2,c3,c4,d1,d2,wi,wj,hr,Bool.and_self,cond_true,cond_false]
     unfold v122_0
     rw [fi,fj]
    ·rcases List.mem_append.1 hx with hx|hx
     ·exact ins x hx
     ·rw [List.mem_singleton.1 hx]
      exact ⟨i0,by show i'<b;omega,by show a≤j';omega,j1⟩
    ·rcases List.mem_append.1 hx with hx|hx
     ·exact n2 x hx
     ·rw [List.mem_singleton.1 hx]
      rfl
    ·simp only at k0 k1
     rw [eap,ev k (by omega),if_neg (by omega),if_neg (by omega)]
     exact mid k (by omega) (by omega)
    ·simp only at k1
     rw [eap,ev k (by omega),if_neg (by omega)]
     split
     ·rw [mj];omega
     ·exact lo k k0 (by omega)
    ·simp only at k0
     rw [eap,ev k (by omega)]
     split
     ·rw [mi];omega
     ·rw [if_neg (by omega)]
      exact hi k (by omega) k1
    ·rcases List.mem_append.1 hx with hx|hx
     ·exact ord x hx
     ·rw [List.mem_singleton.1 hx]
      exact hne
 ·have d0:decide (i'≤j')=false:=decide_eq_false hij
  refine .inr ⟨(i',ss'),(i',appS ss' vs,ss'),?_,?_,rfl,rfl,⟨i0,by simp only;omega,ins,n2,len,lo,fun k k0 k1=>hi k (by simp only at k0;omega) k1,ord⟩⟩
  ·simp only [R151_0,F151_0,G151_0,d0,cond_false]
  ·simp only [R144_0,F144_0,G144_0,d0,cond_false]
theorem P151 (vs:List AV) (v a b:Int) (hn:vs.length≤1048576) (a0:0≤a) (ab:a≤b) (b1:b≤vs.length) :
  q151 vs a b v=true∧q144 vs a b v=true∧v144_0 vs a b v=v151_0 vs a b v∧v144_1 vs a b v=v151_1 vs a b v∧Parted vs v a b (v151_0 vs a b v) (v151_1 vs a b v):=by
 obtain ⟨r,r',h1,h2,h3,h4,h5⟩:=runW_pair (ParI vs v a b) (fun (r:Int × List AV) (r':Int × List AV × List AV)=>r'.1=r.1∧r'.2.2=r.2∧Parted vs v a b r.2 r.1) (fun s=>(s.2.1+1 - s.1).toNat) (stepPar vs v a b hn a0 b1) (((b - 1) - a+1).toNat+1) (((b - 1) - a+1).toNat+1) (a,b - 1,[]) (a,b - 1,vs,[])
  ⟨rfl,rfl,rfl,rfl,Int.le_refl _,by simp only;omega,by simp only;omega,fun x hx=>by simp at hx,fun x hx=>by simp at hx,by simp,fun k _ _=>rfl,fun k k0 k1=>by simp only at k1;omega,fun k k0 k1=>by simp only at k0;omega,fun x hx=>by simp at hx⟩ (by simp only;omega) (by simp only;omega)
 have wb:IntKind.i64.wrap (b - 1)=b - 1:=wrap_in (by omega) (by omega)
 have d1:decide (a<0)=false:=decide_eq_false (by omega)
 have d2:decide (a > b)=false:=decide_eq_false (by omega)
 have d3:decide (b > (vs.length:Int))=false:=decide_eq_false (by omega)
 have d4:v52_0 a 0 b=true:=by rw [v52,decide_eq_true a0,decide_eq_true ab];rfl
 obtain ⟨c1,c2⟩:=P108 vs hn
 unfold q151 q144 v144_0 v151_0 v144_1 v151_1
 rw [wb,d1,d2,d3,d4,c1,c2,h1,h2]
 exact ⟨rfl,rfl,h4,h3,h5⟩
theorem q122_in (i j:Int) (xs:List AV) (i0:0≤i) (i1:i<xs.length) (j0:0≤j) (j1:j<xs.length):q122 i j xs=true:=by
 unfold q122
 rw [List.length_set,decide_eq_true i0,decide_eq_true i1,decide_eq_true j0,decide_eq_true j1]
 rfl
theorem mem_at {xs:List AV} {k:Int} (h0:0≤k) (h1:k<xs.length):xs.getD k.toNat .undef ∈ xs:=by
 rw [List.getD_eq_getElem?_getD,List.getElem?_eq_getElem (by omega)]
 exact List.getElem_mem _
theorem P152 (vs rs ps ss:List AV) (hv:vs.length≤1048576) (hp:ps.length≤1048576) (hl:(rs.length:Int)=vs.length) (hs:ss.length≤1048576) (h:inS 0 vs.length ss) :
  q152 vs rs ps ss=true∧v152_0 vs rs ps ss=appS ss vs∧v152_1 vs rs ps ss=appS ss rs∧v152_2 vs rs ps ss=ps∧v152_3 vs rs ps ss=true:=by
 obtain ⟨c0,c1,c2,c3⟩:=P69 vs rs ps hv (by omega) hp
 obtain ⟨r,h1,h2⟩:=runW_ends (f:=R152_0 ss vs rs ps ps) (fun s:Int × List AV × List AV=>0≤s.1∧s.1≤ss.length∧s.2.1=appS (ss.take s.1.toNat) vs∧s.2.2=appS (ss.take s.1.toNat) rs) (fun r=>r = .inl (appS ss vs,appS ss rs)) (fun s=>((ss.length:Int) - s.1).toNat) (fun s hI=>by
   obtain ⟨k,X,Y⟩:=s
   obtain ⟨k0,k1,ex,ey⟩:=hI
   simp only at k0 k1 ex ey
   subst ex ey
   by_cases hk:k<ss.length
   ·have d1:decide (k<(ss.length:Int))=true:=decide_eq_true hk
    have d2:decide (0≤k)=true:=decide_eq_true k0
    have wk:IntKind.i64.wrap (k+1)=k+1:=wrap_in (by omega) (by omega)
    obtain ⟨g1,g2,g3,g4⟩:=h _ (mem_at k0 hk)
    have lx:=appS_len (ss.take k.toNat) vs
    have ly:=appS_len (ss.take k.toNat) rs
    have wl:IntKind.i64.wrap (((appS (ss.take k.toNat) vs).length:Int) - 1)=(vs.length:Int) - 1:=by rw [lx,wrap_in (by omega) (by omega)]
    have e1:v52_0 (fI (ss.getD k.toNat AV.undef) 0) 0 ((vs.length:Int) - 1)=true:=by rw [v52,decide_eq_true g1,decide_eq_true (by omega)];rfl
    have e2:v52_0 (fI (ss.getD k.toNat AV.undef) 1) 0 ((vs.length:Int) - 1)=true:=by rw [v52,decide_eq_true g3,decide_eq_true (by omega)];rfl
    refine .inl ⟨(k+1,v122_0 (fI (ss.getD k.toNat AV.undef) 0) (fI (ss.getD k.toNat AV.undef) 1) (appS (ss.take k.toNat) vs),v122_0 (fI (ss.getD k.toNat AV.undef) 0) (fI (ss.getD k.toNat AV.undef) 1) (appS (ss.take k.toNat) rs)),?_,⟨by simp only;omega,by simp only;omega,?_,?_⟩,by simp only;omega⟩
    ·simp only [R152_0,F152_0,G152_0,d1,d2,wk,wl,e1,e2,q122_in _ _ (appS (ss.take k.toNat) vs) g1 (by omega) g3 (by omega),q122_in _ _ (appS (ss.take k.toNat) rs) g1 (by omega) g3 (by omega),Bool.and_self,Bool.not_true,cond_true,cond_false]
    ·simp only
     rw [take_snoc k0 hk,appS_snoc]
    ·simp only
     rw [take_snoc k0 hk,appS_snoc]
   ·have d1:decide (k<(ss.length:Int))=false:=decide_eq_false hk
    refine .inr ⟨_,by simp only [R152_0,F152_0,G152_0,d1,cond_false];rfl,?_⟩
    rw [List.take_of_length_le (by omega)]) (((ss.length:Int) - 0).toNat+1) (0,vs,rs) ⟨by simp,by simp,rfl,rfl⟩ (by simp)
 subst h2
 unfold q152 v152_0 v152_1 v152_2 v152_3
 rw [c0,c1,c2,c3,decide_eq_true hl,h1]
 exact ⟨rfl,rfl,rfl,rfl,rfl⟩
theorem P145 (vs rs ps ss:List AV) (hv:vs.length≤1048576) (hp:ps.length≤1048576) (hl:(rs.length:Int)=vs.length) (hs:ss.length≤1048576) (h:inS 0 vs.length ss) :
  q145 vs rs ps ss=true∧v145_0 vs rs ps ss=appS ss vs∧v145_1 vs rs ps ss=appS ss rs∧v145_2 vs rs ps ss=ps∧v145_3 vs rs ps ss=true:=by
 obtain ⟨c0,c1,c2,c3⟩:=P64 vs rs ps hv (by omega) hp
 obtain ⟨r,h1,h2⟩:=runW_ends (f:=R145_0 (vs.length:Int) ss ss.length vs rs ps ps) (fun s:Int × List AV × List AV=>0≤s.1∧s.1≤ss.length∧s.2.1=appS (ss.take s.1.toNat) vs∧s.2.2=appS (ss.take s.1.toNat) rs) (fun r=>r = .inl (appS ss vs,appS ss rs)) (fun s=>((ss.length:Int) - s.1).toNat) (fun s hI=>by
   obtain ⟨k,X,Y⟩:=s
   obtain ⟨k0,k1,ex,ey⟩:=hI
   simp only at k0 k1 ex ey
   subst ex ey
   by_cases hk:k<ss.length
   ·have d1:decide (k<(ss.length:Int))=true:=decide_eq_true hk
    have d2:decide (0≤k)=true:=decide_eq_true k0
    have wk:IntKind.i64.wrap (k+1)=k+1:=wrap_in (by omega) (by omega)
    obtain ⟨g1,g2,g3,g4⟩:=h _ (mem_at k0 hk)
    have lx:=appS_len (ss.take k.toNat) vs
    have ly:=appS_len (ss.take k.toNat) rs
    have ly':((appS (ss.take k.toNat) rs).length:Int)=vs.length:=by rw [ly];exact hl
    have e1:decide (fI (ss.getD k.toNat AV.undef) 0<0)=false:=decide_eq_false (by omega)
    have e2:decide (fI (ss.getD k.toNat AV.undef) 0 ≥ (vs.length:Int))=false:=decide_eq_false (by omega)
    have e3:decide (fI (ss.getD k.toNat AV.undef) 1<0)=false:=decide_eq_false (by omega)
    have e4:decide (fI (ss.getD k.toNat AV.undef) 1 ≥ (vs.length:Int))=false:=decide_eq_false (by omega)
    have e5:decide (0≤fI (ss.getD k.toNat AV.undef) 0)=true:=decide_eq_true g1
    have e6:decide (fI (ss.getD k.toNat AV.undef) 0<(vs.length:Int))=true:=decide_eq_true g2
    have e7:decide (0≤fI (ss.getD k.toNat AV.undef) 1)=true:=decide_eq_true g3
    have e8:decide (fI (ss.getD k.toNat AV.undef) 1<(vs.length:Int))=true:=decide_eq_true g4
    refine .inl ⟨(k+1,v122_0 (fI (ss.getD k.toNat AV.undef) 0) (fI (ss.getD k.toNat AV.undef) 1) (appS (ss.take k.toNat) vs),v122_0 (fI (ss.getD k.toNat AV.undef) 0) (fI (ss.getD k.toNat AV.undef) 1) (appS (ss.take k.toNat) rs)),?_,⟨by simp only;omega,by simp only;omega,?_,?_⟩,by simp only;omega⟩
    ·simp only [R145_0,F145_0,G145_0,List.length_set,lx,ly',d1,d2,wk,e1,e2,e3,e4,e5,e6,e7,e8,Bool.and_self,cond_true,cond_false]
     rfl
    ·simp only
     rw [take_snoc k0 hk,appS_snoc]
    ·simp only
     rw [take_snoc k0 hk,appS_snoc]
   ·have d1:decide (k<(ss.length:Int))=false:=decide_eq_false hk
    refine .inr ⟨_,by simp only [R145_0,F145_0,G145_0,d1,cond_false];rfl,?_⟩
    rw [List.take_of_length_le (by omega)]) (((ss.length:Int) - 0).toNat+1) (0,vs,rs) ⟨by simp,by simp,rfl,rfl⟩ (by simp)
 subst h2
 unfold q145 v145_0 v145_1 v145_2 v145_3
 rw [c0,c1,c2,c3,decide_eq_true hl,h1]
 exact ⟨rfl,rfl,rfl,rfl,rfl⟩
def insP (ps:List AV) (v a:Int):List AV:=ps.take (place ps v).toNat++[mk2 v a]++ps.drop (place ps v).toNat
theorem insP_len (ps:List AV) (v a:Int):(insP ps v a).length=ps.length+1:=by
 have:=place_spec ps v
 unfold insP
 simp only [List.length_append,List.length_take,List.length_drop,List.length_singleton]
 omega
theorem insP_N2 {ps:List AV} (h:N2 ps) (v a:Int):N2 (insP ps v a):=fun x hx=>by
 unfold insP at hx
 rcases List.mem_append.1 hx with hx|hx
 ·rcases List.mem_append.1 hx with hx|hx
  ·exact h x (List.mem_of_mem_take hx)
  ·rw [List.mem_singleton.1 hx]
   rfl
 ·exact h x (List.mem_of_mem_drop hx)
theorem insP_at (ps:List AV) (v a:Int) (i:Int) (h0:0≤i):(insP ps v a).getD i.toNat .undef=if i<place ps v then ps.getD i.toNat .undef else if i=place ps v then mk2 v a else ps.getD (i - 1).toNat .undef:=by
 obtain ⟨p0,p1,_,_⟩:=place_spec ps v
 unfold insP
 simp only [List.getD_eq_getElem?_getD]
 have tl:(ps.take (place ps v).toNat).length=(place ps v).toNat:=by rw [List.length_take];omega
 split
 ·rw [List.append_assoc,List.getElem?_append_left (by omega),List.getElem?_take_of_lt (by omega)]
 ·split
  ·rename_i e1 e2
   rw [List.append_assoc,List.getElem?_append_right (by omega),tl,e2,Nat.sub_self]
   rfl
  ·rw [List.append_assoc,List.getElem?_append_right (by omega),tl,List.getElem?_append_right (by simp;omega),List.getElem?_drop]
   congr 2
   simp only [List.length_singleton]
   omega
theorem Col.pivot {vs rs ps:List AV} (h:Col vs rs ps) {v at_:Int} (hf:∀ k:Int,0≤k→k<ps.length→el ps k ≠ v) (hv : -1000≤v∧v≤1000) (ha:0≤at_∧at_≤vs.length) (hat:∀ k:Int,0≤k→k<vs.length→(el vs k<v ↔ k<at_))
  (hcut:∀ p:Int,0≤p→p<ps.length→(el ps p<v→pat ps p≤at_)∧(v<el ps p→at_≤pat ps p)):Col vs rs (insP ps v at_):=by
 obtain ⟨p0,p1,p2,p3⟩:=place_spec ps v
 have hlen:=insP_len ps v at_
 generalize hpl:place ps v=t at *
 have eel:∀ i:Int,0≤i→el (insP ps v at_) i=if i<t then el ps i else if i=t then v else el ps (i - 1):=fun i h0=>by
  unfold el
  rw [insP_at ps v at_ i h0,hpl]
  split
  ·rfl
  ·split <;> rfl
 have epa:∀ i:Int,0≤i→pat (insP ps v at_) i=if i<t then pat ps i else if i=t then at_ else pat ps (i - 1):=fun i h0=>by
  unfold pat
  rw [insP_at ps v at_ i h0,hpl]
  split
  ·rfl
  ·split <;> rfl
 have lo:∀ k:Int,0≤k→k<t→el ps k<v:=fun k k0 k1=>by
  have:=p2 k k0 k1
  have:=hf k k0 (by omega)
  omega
 have hi:∀ k:Int,t≤k→k<ps.length→v<el ps k:=fun k k0 k1=>by
  by_cases e:k=t
  ·rw [e];exact p3 (by omega)
  ·have:=(h.lt (i:=t) (j:=k) p0 (by omega) k1).1
   have:=p3 (by omega)
   omega
 refine ⟨h.n64,h.vals,h.len,h.rows,h.dist,fun i i0 i1=>?_,fun i i0 i1=>?_,fun i i0 i1=>?_,fun i i0 i1 k k0 k1=>?_⟩
 ·rw [eel i i0]
  split
  ·exact h.pv i i0 (by omega)
  ·split
   ·exact hv
   ·exact h.pv (i - 1) (by omega) (by omega)
 ·rw [epa i i0]
  split
  ·exact h.pa i i0 (by omega)
  ·split
   ·exact ha
   ·exact h.pa (i - 1) (by omega) (by omega)
 ·rw [eel i (by omega),eel (i - 1) (by omega),epa i (by omega),epa (i - 1) (by omega)]
  by_cases h1:i<t
  ·have q:i - 1<t:=by omega
   rw [if_pos h1,if_pos h1,if_pos q,if_pos q]
   exact h.asc i i0 (by omega)
  ·by_cases h2:i=t
   ·have q:i - 1<t:=by omega
    rw [if_neg h1,if_neg h1,if_pos h2,if_pos h2,if_pos q,if_pos q]
    have a1:=lo (i - 1) (by omega) (by omega)
    exact ⟨a1,(hcut (i - 1) (by omega) (by omega)).1 a1⟩
   ·have q:¬ i - 1<t:=by omega
    rw [if_neg h1,if_neg h1,if_neg h2,if_neg h2,if_neg q,if_neg q]
    by_cases h3:i - 1=t
    ·rw [if_pos h3,if_pos h3]
     have a1:=hi (i - 1) (by omega) (by omega)
     exact ⟨a1,(hcut (i - 1) (by omega) (by omega)).2 a1⟩
    ·rw [if_neg h3,if_neg h3]
     exact h.asc (i - 1) (by omega) (by omega)
 ·rw [eel i i0,epa i i0]
  split
  ·exact h.part i i0 (by omega) k k0 k1
  ·split
   ·exact hat k k0 k1
   ·exact h.part (i - 1) (by omega) (by omega) k k0 k1
theorem P164 (ps:List AV) (v a:Int) (h:ps.length≤1048576):q164 ps (AV.agg [AV.int .i64 v,AV.int .i64 a])=true∧v164_0 ps (AV.agg [AV.int .i64 v,AV.int .i64 a])=ro (findF (fun i=>decide (fI (ps.getD i.toNat .undef) 0 > v)) ps.length 0) (-1) id:=by
 have hr:runW (R164_0 ps (AV.agg [AV.int .i64 v,AV.int .i64 a]) ps.length) (((ps.length:Int) - 0).toNat+1) 0=some (ro (findF (fun i=>decide (fI (ps.getD i.toNat .undef) 0 > v)) ps.length 0) (.inl ()) fun i => .inr i):=by
  refine runW_find (fun i=>i) ps.length _ _ _ (fun i h0 hn=>?_) ?_ ps.length _ 0 (Int.le_refl 0) (by omega) (by omega)
  ·simp only [R164_0,F164_0,G164_0,h0,hn,decide_true,Bool.and_self,cond_true,v165_0]
   rw [wrap_in (a:=i+1) (by omega) (by omega)]
   rfl
  ·simp only [R164_0,F164_0,G164_0,Int.lt_irrefl,decide_false,cond_false]
 unfold q164 v164_0
 rw [hr]
 cases findF (fun i=>decide (fI (ps.getD i.toNat .undef) 0 > v)) ps.length 0 <;> exact ⟨rfl,rfl⟩
theorem P146 (vs rs ps:List AV) (v a:Int) (h1:vs.length≤1048576) (h2:rs.length≤1048576) (h3:ps.length≤1048576):q146 vs rs ps v a=true∧v146_0 vs rs ps v a=vs∧v146_1 vs rs ps v a=rs∧v146_2 vs rs ps v a=insP ps v a:=by
 obtain ⟨c0,c1,c2,c3⟩:=P64 vs rs ps h1 h2 h3
 obtain ⟨d0,d1⟩:=P164 ps v a h3
 have hp:=place_spec ps v
 unfold q146 v146_0 v146_1 v146_2 insP
 unfold place at hp ⊢
 rw [c0,c1,c2,c3,d0,d1]
 have hroom:decide ((ps.length+1)*16≤140737488355328)=true:=decide_eq_true (by omega)
 cases hf:findF (fun i=>decide (fI (ps.getD i.toNat .undef) 0 > v)) ps.length 0 with
 | none =>
  have e1:decide (ro (none:Option Int) (-1) id<0)=true:=rfl
  have e2:decide (0≤(ps.length:Int))=true:=decide_eq_true (by omega)
  have e3:decide ((ps.length:Int)≤(ps.length:Int))=true:=decide_eq_true (Int.le_refl _)
  rw [e1,e2,e3,hroom]
  exact ⟨rfl,rfl,rfl,rfl⟩
 | some j =>
  rw [hf] at hp
  simp only [ro,id] at hp
  have e1:decide (ro (some j) (-1) id<0)=false:=decide_eq_false (by simp only [ro,id];omega)
  have e2:decide (0≤ro (some j) (-1) id)=true:=decide_eq_true (by simp only [ro,id];omega)
  have e3:decide (ro (some j) (-1) id≤(ps.length:Int))=true:=decide_eq_true (by simp only [ro,id];omega)
  rw [e1,e2,e3,hroom]
  exact ⟨rfl,rfl,rfl,rfl⟩
theorem drop_snoc {xs:List AV} {t k:Int} (h0:0≤t) (ht:t≤k) (h1:k<xs.length):(xs.take (k+1).toNat).drop t.toNat=(xs.take k.toNat).drop t.toNat++[xs.getD k.toNat .undef]:=by
 rw [take_snoc (by omega) h1,List.drop_append_of_le_length (by rw [List.length_take];omega)]
theorem run153 (a1 a2 vs rs ps:List AV) (v a:Int) (h3:ps.length≤1048576) (hN:N2 ps):∃ r:Bool × List AV,runW (R153_0 a1 a2 vs rs ps v a) (((ps.length:Int) - 0).toNat+1) (false,0,[])=some r∧(r.2.length≤1048577∧(r.1=false→r.2++[mk2 v a]=insP ps v a∧r.2.length≤1048576)∧(r.1=true→r.2=insP ps v a)):=by
 obtain ⟨p0,p1,p2,p3⟩:=place_spec ps v
 have hins:insP ps v a=ps.take (place ps v).toNat++[mk2 v a]++ps.drop (place ps v).toNat:=rfl
 have hlen:=insP_len ps v a
 generalize hpl:place ps v=t at *
 obtain ⟨r,h1,h2⟩:=runW_ends (f:=R153_0 a1 a2 vs rs ps v a) (fun s:Bool × Int × List AV=>0≤s.2.1∧s.2.1≤ps.length∧((s.1=false∧s.2.1≤t∧s.2.2=ps.take s.2.1.toNat)∨(s.1=true∧t<s.2.1∧s.2.2=ps.take t.toNat++[mk2 v a]++(ps.take s.2.1.toNat).drop t.toNat)))
  (fun r=>(r.1=false∧t=ps.length∧r.2=ps)∨(r.1=true∧t<ps.length∧r.2=ps.take t.toNat++[mk2 v a]++ps.drop t.toNat)) (fun s=>((ps.length:Int) - s.2.1).toNat) (fun s hI=>by
   obtain ⟨b,k,acc⟩:=s
   obtain ⟨k0,k1,hI⟩:=hI
   simp only at k0 k1 hI
   by_cases hk:k<ps.length
   ·have d1:decide (k<(ps.length:Int))=true:=decide_eq_true hk
    have d2:decide (0≤k)=true:=decide_eq_true k0
    have wk:IntKind.i64.wrap (k+1)=k+1:=wrap_in (by omega) (by omega)
    have en:AV.agg [AV.int .i64 (fI (ps.getD k.toNat AV.undef) 0),AV.int .i64 (fI (ps.getD k.toNat AV.undef) 1)]=ps.getD k.toNat .undef:=hN.at k0 hk
    rcases hI with ⟨rfl,kt,rfl⟩|⟨rfl,kt,rfl⟩
    ·have hl:(ps.take k.toNat).length≤1048576:=by rw [List.length_take];omega
     by_cases hkt:k<t
     ·have d3:decide (fI (ps.getD k.toNat AV.undef) 0 > v)=false:=decide_eq_false (by have:=p2 k k0 hkt;unfold el at this;omega)
      refine .inl ⟨(false,k+1,ps.take (k+1).toNat),?_,⟨by simp only;omega,by simp only;omega,.inl ⟨rfl,by simp only;omega,rfl⟩⟩,by simp only;omega⟩
      simp only [R153_0,F153_0,G153_0,d1,d2,d3,wk,en,room2 _ _ hl,Bool.and_self,Bool.not_false,cond_true,cond_false]
      rw [take_snoc k0 hk]
     ·have hkt':k=t:=by omega
      have d3:decide (fI (ps.getD k.toNat AV.undef) 0 > v)=true:=decide_eq_true (by have:=p3 (by omega);rw [← hkt'] at this;exact this)
      have hl2:(ps.take k.toNat++[AV.agg [AV.int .i64 v,AV.int .i64 a]]).length≤1048576:=by rw [List.length_append,List.length_take,List.length_singleton];omega
      refine .inl ⟨(true,k+1,ps.take t.toNat++[mk2 v a]++(ps.take (k+1).toNat).drop t.toNat),?_,⟨by simp only;omega,by simp only;omega,.inr ⟨rfl,by simp only;omega,rfl⟩⟩,by simp only;omega⟩
      simp only [R153_0,F153_0,G153_0,d1,d2,d3,wk,en,room2 _ _ hl,room2 _ _ hl2,Bool.and_self,Bool.not_false,cond_true,cond_false]
      rw [drop_snoc p0 (by omega) hk,List.drop_eq_nil_of_le (show (ps.take k.toNat).length≤t.toNat by rw [List.length_take];omega),← hkt']
      rfl
    ·have hl:(ps.take t.toNat++[mk2 v a]++(ps.take k.toNat).drop t.toNat).length≤1048576:=by
      simp only [List.length_append,List.length_take,List.length_drop,List.length_singleton]
      omega
     refine .inl ⟨(true,k+1,ps.take t.toNat++[mk2 v a]++(ps.take (k+1).toNat).drop t.toNat),?_,⟨by simp only;omega,by simp only;omega,.inr ⟨rfl,by simp only;omega,rfl⟩⟩,by simp only;omega⟩
     simp only [R153_0,F153_0,G153_0,d1,d2,wk,en,room2 _ _ hl,Bool.and_self,Bool.not_true,cond_true,cond_false]
     rw [drop_snoc p0 (by omega) hk,List.append_assoc _ _ [ps.getD k.toNat AV.undef]]
   ·have d1:decide (k<(ps.length:Int))=false:=decide_eq_false hk
    rcases hI with ⟨rfl,kt,rfl⟩|⟨rfl,kt,rfl⟩
    ·refine .inr ⟨(false,ps.take k.toNat),by simp only [R153_0,F153_0,G153_0,d1,cond_false],.inl ⟨rfl,by omega,?_⟩⟩
     exact List.take_of_length_le (by omega)
    ·refine .inr ⟨(true,ps.take t.toNat++[mk2 v a]++(ps.take k.toNat).drop t.toNat),by simp only [R153_0,F153_0,G153_0,d1,cond_false],.inr ⟨rfl,by omega,?_⟩⟩
     rw [List.take_of_length_le (l:=ps) (i:=k.toNat) (by omega)]) (((ps.length:Int) - 0).toNat+1) (false,0,[]) ⟨by simp,by simp,.inl ⟨rfl,p0,rfl⟩⟩ (by simp)
 refine ⟨r,h1,?_⟩
 obtain ⟨b,acc⟩:=r
 rcases h2 with ⟨e1,e2,e3⟩|⟨e1,e2,e3⟩
 ·simp only at e1 e3
  subst e1 e3
  refine ⟨by simp only;omega,fun _=>⟨?_,h3⟩,fun h=>by cases h⟩
  rw [hins,e2]
  simp
 ·simp only at e1 e3
  subst e1 e3
  refine ⟨?_,⟨fun h=>(by cases h),fun _=>hins.symm⟩⟩
  simp only
  rw [← hins,hlen]
  omega
theorem P153 (vs rs ps:List AV) (v a:Int) (h1:vs.length≤1048576) (h2:rs.length≤1048576) (h3:ps.length≤1048575) (hN:N2 ps) :
  q153 vs rs ps v a=true∧v153_0 vs rs ps v a=vs∧v153_1 vs rs ps v a=rs∧v153_2 vs rs ps v a=(bif isC vs rs ps && isC vs rs (insP ps v a) then insP ps v a else ps)∧v153_3 vs rs ps v a=(isC vs rs ps && isC vs rs (insP ps v a)):=by
 obtain ⟨c0,c1,c2,c3⟩:=P69 vs rs ps h1 h2 (by omega)
 obtain ⟨r,g1,g2,g3,g4⟩:=run153 vs rs vs rs ps v a (by omega) hN
 have hl:=insP_len ps v a
 have k1:=P68 vs rs ps h1 h2 (by omega)
 have k2:=P68 vs rs (insP ps v a) h1 h2 (by omega)
 unfold q153 v153_0 v153_1 v153_2 v153_3
 rw [c0,c1,c2,c3,k1.1,k1.2,g1]
 obtain ⟨b,acc⟩:=r
 cases b with
 | false =>
  obtain ⟨e1,e2⟩:=g3 rfl
  simp only at e1 e2
  have e1':acc++[AV.agg [AV.int .i64 v,AV.int .i64 a]]=insP ps v a:=e1
  simp only [ro,Bool.not_false,cond_true,room2 _ _ e2,e1',k2.1,k2.2]
  cases isC vs rs ps <;> cases isC vs rs (insP ps v a) <;> (refine ⟨?_,?_,?_,?_,?_⟩ <;> first|rfl|trivial)
 | true =>
  have e1:=g4 rfl
  simp only at e1
  subst e1
  simp only [ro,Bool.not_true,cond_false,k2.1,k2.2]
  cases isC vs rs ps <;> cases isC vs rs (insP ps v a) <;> (refine ⟨?_,?_,?_,?_,?_⟩ <;> first|rfl|trivial)
end Go.Proofs.YtbmfgibbjchijaaGreat

namespace Go.Proofs.YtbmfgibbjchijaaGreat
open Go Go.Proofs.VE
set_option linter.unusedVariables false
set_option linter.unusedSimpArgs false
theorem col_few {vs rs ps:List AV} (h:Col vs rs ps):ps.length≤2001:=by
 have hl:=h.n64
 have hc:=(isC_iff vs rs ps (by omega)).2 h
 unfold isC at hc
 simp only [Bool.and_eq_true] at hc
 exact few vs ps hc.2.2.2.2
theorem appS_out {a b:Int} (a0:0≤a):∀ (ss vs:List AV),b≤vs.length→inS a b ss→∀ k:Int,0≤k→(k<a∨b≤k)→el (appS ss vs) k=el vs k
 | [],vs,_,_,k,_,_=>rfl
 | s :: ss,vs,hb,hs,k,k0,hk=>by
  obtain ⟨h1,h2,h3,h4⟩:=hs s List.mem_cons_self
  rw [appS_cons,appS_out a0 ss _ (by rw [sw_len];exact hb) (fun x hx=>hs x (List.mem_cons_of_mem _ hx)) k k0 hk,el_sw vs _ _ k (by omega) (by omega) (by omega) (by omega) k0,if_neg (by omega),if_neg (by omega)]
theorem Pc.cut {vs rs ps:List AV} (h:Col vs rs ps) {v a b t:Int} (hp:Pc vs.length ps v a b t) {p:Int} (p0:0≤p) (p1:p<ps.length):(el ps p<v→pat ps p≤a)∧(v<el ps p→b≤pat ps p):=by
 obtain ⟨t0,t1,lo,hi,ea,eb⟩:=hp
 constructor
 ·intro hl
  have hpt:p<t:=by
   rcases Int.lt_or_le p t with h1|h1
   ·exact h1
   ·have:=hi p h1 p1;omega
  rw [ea,if_neg (by omega)]
  by_cases e:p=t - 1
  ·rw [e];exact Int.le_refl _
  ·exact (h.lt (i:=p) (j:=t - 1) p0 (by omega) (by omega)).2
 ·intro hl
  have hpt:t≤p:=by
   rcases Int.lt_or_le p t with h1|h1
   ·have:=lo p p0 h1;omega
   ·exact h1
  rw [eb,if_neg (by omega)]
  by_cases e:p=t
  ·rw [e];exact Int.le_refl _
  ·exact (h.lt (i:=t) (j:=p) t0 (by omega) p1).2
structure Cr (vs rs ps:List AV) (v a b at_:Int) (ss:List AV):Prop where
 pc:q150 vs rs ps v=true∧v150_0 vs rs ps v=a∧v150_1 vs rs ps v=b
 pc':q143 vs rs ps v=true∧v143_0 vs rs ps v=a∧v143_1 vs rs ps v=b
 c:q118 vs rs ps v=true∧v118_0 vs rs ps v=appS ss vs∧v118_1 vs rs ps v=appS ss rs∧v118_2 vs rs ps v=insP ps v at_∧v118_3 vs rs ps v=ss∧v118_4 vs rs ps v=true
 c':q110 vs rs ps v=true∧v110_0 vs rs ps v=appS ss vs∧v110_1 vs rs ps v=appS ss rs∧v110_2 vs rs ps v=insP ps v at_∧v110_3 vs rs ps v=ss
 ok:Col (appS ss vs) (appS ss rs) (insP ps v at_)
 n2:N2 (insP ps v at_)
 pi:Piece vs ps v a b
 par:Parted vs v a b ss at_
 s64:ss.length≤64
 sw:v151_0 vs a b v=ss∧v151_1 vs a b v=at_
theorem bound_of {v:Int} (hv : -1000≤v∧v≤1000):v52_0 v (-1000) 1000=true:=by
 rw [v52,decide_eq_true hv.1,decide_eq_true hv.2]
 rfl
theorem P150 {vs rs ps:List AV} (h:Col vs rs ps) {v a b t:Int} (hv : -1000≤v∧v≤1000) (hp:Pc vs.length ps v a b t):q150 vs rs ps v=true∧v150_0 vs rs ps v=a∧v150_1 vs rs ps v=b:=by
 have hl:=h.n64
 have hlen:=h.len
 have hf:=col_few h
 have hc:=(isC_iff vs rs ps (by omega)).2 h
 obtain ⟨g1,g2⟩:=P68 vs rs ps (by omega) (by omega) (by omega)
 obtain ⟨k1,k2,k3⟩:=P177 hp (by omega)
 unfold q150 v150_0 v150_1
 rw [g1,g2,hc,bound_of hv,k1,k2,k3]
 exact ⟨rfl,rfl,rfl⟩
theorem crack_new {vs rs ps:List AV} (h:Col vs rs ps) (hN:N2 ps) {v:Int} (hv : -1000≤v∧v≤1000) (hf:(findP ps v).isSome=false):∃ (a b at_:Int) (ss:List AV),Cr vs rs ps v a b at_ ss:=by
 have hl:=h.n64
 have hlen:=h.len
 have hfew:=col_few h
 have hp:=pc_of h hf
 have hpi:=piece_of h hp
 generalize (if place ps v=0 then 0 else pat ps (place ps v - 1))=a at hp hpi
 generalize (if place ps v=ps.length then (vs.length:Int) else pat ps (place ps v))=b at hp hpi
 have a0:=hpi.a0
 have ab:=hpi.ab
 have b1:=hpi.b1
 have k97:=P150 h hv hp
 have k146:=P143 (rs:=rs) hp (by omega)
 obtain ⟨d1,d2,d3,d4,par⟩:=P151 vs v a b (by omega) a0 ab b1
 generalize hss:v151_0 vs a b v=ss at d3 par
 generalize hat:v151_1 vs a b v=at_ at d4 par
 have i0:=par.i0
 have i1:=par.i1
 have hs64:ss.length≤64:=by have:=par.len;omega
 have hin:inS 0 vs.length ss:=fun s hs=>by obtain ⟨x1,x2,x3,x4⟩:=par.ins s hs;exact ⟨by omega,by omega,by omega,by omega⟩
 have hcol1:=Col.swaps (ps:=ps) a0 hpi.cut ss vs rs h b1 par.ins
 have la:=appS_len ss vs
 have lr:=appS_len ss rs
 have hout:=appS_out a0 ss vs b1 par.ins
 have hcol2:Col (appS ss vs) (appS ss rs) (insP ps v at_):=by
  refine hcol1.pivot (findP_none hf) hv ⟨by omega,by omega⟩ (fun k k0 k1=>?_) (fun p p0 p1=>?_)
  ·rw [la] at k1
   constructor
   ·intro hk
    rcases Int.lt_or_le k at_ with q|q
    ·exact q
    ·exfalso
     rcases Int.lt_or_le k b with q2|q2
     ·have:=par.hi k q q2;omega
     ·have:=hpi.hi k q2 k1
      rw [← hout k k0 (.inr q2)] at this
      omega
   ·intro hk
    rcases Int.lt_or_le k a with q|q
    ·rw [hout k k0 (.inl q)];exact hpi.lo k k0 q
    ·exact par.lo k q hk
  ·obtain ⟨x1,x2⟩:=Pc.cut h hp p0 p1
   exact ⟨fun q=>by have:=x1 q;omega,fun q=>by have:=x2 q;omega⟩
 have hc0:=(isC_iff vs rs ps (by omega)).2 h
 have hc1:=(isC_iff (appS ss vs) (appS ss rs) ps (by omega)).2 hcol1
 have hc2:=(isC_iff (appS ss vs) (appS ss rs) (insP ps v at_) (by omega)).2 hcol2
 obtain ⟨e1,e2,e3,e4,e5⟩:=P152 vs rs ps ss (by omega) (by omega) hlen (by omega) hin
 obtain ⟨f1,f2,f3,f4,f5⟩:=P145 vs rs ps ss (by omega) (by omega) hlen (by omega) hin
 obtain ⟨g1,g2,g3,g4,g5⟩:=P153 (appS ss vs) (appS ss rs) ps v at_ (by omega) (by omega) (by omega) hN
 obtain ⟨l1,l2,l3,l4⟩:=P146 (appS ss vs) (appS ss rs) ps v at_ (by omega) (by omega) (by omega)
 rw [hc1,hc2] at g4
 obtain ⟨m1,m2⟩:=P68 vs rs ps (by omega) (by omega) (by omega)
 obtain ⟨n1,n2,n3⟩:=P119 vs rs ps v (by omega)
 obtain ⟨o1,o2⟩:=P142 vs rs ps v (by omega)
 obtain ⟨k1,k2,k3⟩:=k97
 obtain ⟨k1',k2',k3'⟩:=k146
 refine ⟨a,b,at_,ss,⟨k1,k2,k3⟩,⟨k1',k2',k3'⟩,?_,?_,hcol2,insP_N2 hN v at_,hpi,par,hs64,hss,hat⟩
 ·unfold q118 v118_0 v118_1 v118_2 v118_3 v118_4
  rw [m1,m2,hc0,bound_of hv,n1,n3,hf,k1,k2,k3,d1,hss,hat,e1,e2,e3,e4,g1,g2,g3,g4]
  exact ⟨rfl,rfl,rfl,rfl,rfl,rfl⟩
 ·unfold q110 v110_0 v110_1 v110_2 v110_3
  rw [o1,o2,hf,k1',k2',k3',d2,d3,d4,f1,f2,f3,f4,l1,l2,l3,l4]
  exact ⟨rfl,rfl,rfl,rfl,rfl⟩
theorem crack_old {vs rs ps:List AV} (h:Col vs rs ps) {v:Int} (hv : -1000≤v∧v≤1000) (hf:(findP ps v).isSome=true) :
  (q118 vs rs ps v=true∧v118_0 vs rs ps v=vs∧v118_1 vs rs ps v=rs∧v118_2 vs rs ps v=ps∧v118_3 vs rs ps v=[]∧v118_4 vs rs ps v=true) ∧
  (q110 vs rs ps v=true∧v110_0 vs rs ps v=vs∧v110_1 vs rs ps v=rs∧v110_2 vs rs ps v=ps∧v110_3 vs rs ps v=[]):=by
 have hl:=h.n64
 have hlen:=h.len
 have hfew:=col_few h
 have hc0:=(isC_iff vs rs ps (by omega)).2 h
 obtain ⟨m1,m2⟩:=P68 vs rs ps (by omega) (by omega) (by omega)
 obtain ⟨n1,n2,n3⟩:=P119 vs rs ps v (by omega)
 obtain ⟨o1,o2⟩:=P142 vs rs ps v (by omega)
 obtain ⟨c0,c1,c2,c3⟩:=P69 vs rs ps (by omega) (by omega) (by omega)
 obtain ⟨d0,d1,d2,d3⟩:=P64 vs rs ps (by omega) (by omega) (by omega)
 constructor
 ·unfold q118 v118_0 v118_1 v118_2 v118_3 v118_4
  rw [m1,m2,hc0,bound_of hv,n1,n3,hf,c0,c1,c2,c3]
  exact ⟨rfl,rfl,rfl,rfl,rfl,rfl⟩
 ·unfold q110 v110_0 v110_1 v110_2 v110_3
  rw [o1,o2,hf,d0,d1,d2,d3]
  exact ⟨rfl,rfl,rfl,rfl,rfl⟩
end Go.Proofs.YtbmfgibbjchijaaGreat

namespace Go.Proofs.YtbmfgibbjchijaaGreat
open Go Go.Proofs.VE
set_option linter.unusedVariables false
set_option linter.unusedSimpArgs false
structure ParJ (vs:List AV) (v a b:Int) (s:PS):Prop where
 i0:a≤s.1
 ij:s.1≤s.2.1+1
 j1:s.2.1<b
 ins:inS a b s.2.2
 n2:N2 s.2.2
 len:(s.2.2.length:Int)≤s.1 - a
 mid:∀ k:Int,s.1≤k→k≤s.2.1→el (appS s.2.2 vs) k=el vs k
 lo:∀ k:Int,a≤k→k<s.1→el (appS s.2.2 vs) k<v
 hi:∀ k:Int,s.2.1<k→k<b→v≤el (appS s.2.2 vs) k
 ord:∀ x ∈ s.2.2,fI x 0<fI x 1
theorem stepJ (vs:List AV) (v a b:Int) (hn:vs.length≤1048576) (a0:0≤a) (b1:b≤vs.length) (s:PS) (h:ParJ vs v a b s) :
  (∃ x,R151_0 vs v s = .next x∧ParJ vs v a b x∧(x.2.1+1 - x.1).toNat<(s.2.1+1 - s.1).toNat)∨∃ r,R151_0 vs v s = .stop r∧Parted vs v a b r.2 r.1:=by
 obtain ⟨i',j',ss'⟩:=s
 obtain ⟨i0,ij,j1,ins,n2,len,mid,lo,hi,ord⟩:=h
 simp only at i0 ij j1 ins n2 len mid lo hi ord
 have hlen:=appS_len ss' vs
 by_cases hij:i'≤j'
 ·have d0:decide (i'≤j')=true:=decide_eq_true hij
  have c1:decide (0≤i')=true:=decide_eq_true (by omega)
  have c2:decide (i'<(vs.length:Int))=true:=decide_eq_true (by omega)
  have c3:decide (0≤j')=true:=decide_eq_true (by omega)
  have c4:decide (j'<(vs.length:Int))=true:=decide_eq_true (by omega)
  have wi:IntKind.i64.wrap (i'+1)=i'+1:=wrap_in (by omega) (by omega)
  have wj:IntKind.i64.wrap (j' - 1)=j' - 1:=wrap_in (by omega) (by omega)
  have mi:=mid i' (Int.le_refl _) hij
  have mj:=mid j' hij (Int.le_refl _)
  have gi:fI (vs.getD i'.toNat AV.undef) 0=el vs i':=rfl
  have gj:fI (vs.getD j'.toNat AV.undef) 0=el vs j':=rfl
  by_cases h1:el vs i'<v
  ·have d1:decide (el vs i'<v)=true:=decide_eq_true h1
   refine .inl ⟨(i'+1,j',ss'),?_,⟨by simp only;omega,by simp only;omega,j1,ins,n2,by simp only;omega,fun k k0 k1=>mid k (by simp only at k0;omega) k1,fun k k0 k1=>?_,hi,ord⟩,by simp only;omega⟩
   ·simp only [R151_0,F151_0,G151_0,gi,d0,c1,c2,d1,wi,Bool.and_self,cond_true]
   ·simp only at k1 ⊢
    by_cases e:k=i'
    ·rw [e,mi];exact h1
    ·exact lo k k0 (by omega)
  ·have d1:decide (el vs i'<v)=false:=decide_eq_false h1
   by_cases h2:el vs j' ≥ v
   ·have d2:decide (el vs j' ≥ v)=true:=decide_eq_true h2
    refine .inl ⟨(i',j' - 1,ss'),?_,⟨i0,by simp only;omega,by simp only;omega,ins,n2,len,fun k k0 k1=>mid k k0 (by simp only at k1;omega),lo,fun k k0 k1=>?_,ord⟩,by simp only;omega⟩
    ·simp only [R151_0,F151_0,G151_0,gi,gj,d0,c1,c2,c3,c4,d1,d2,wj,Bool.and_self,cond_true,cond_false]
    ·simp only at k0 ⊢
     by_cases e:k=j'
     ·rw [e,mj];exact h2
     ·exact hi k (by omega) k1
   ·have d2:decide (el vs j' ≥ v)=false:=decide_eq_false h2
    have hne:i'<j':=by
     rcases Int.lt_or_eq_of_le hij with h|h
     ·exact h
     ·rw [h] at h1;omega
    have hr:=room2 ss' (AV.agg [AV.int .i64 i',AV.int .i64 j']) (by omega)
    have eap:appS (ss'++[AV.agg [AV.int .i64 i',AV.int .i64 j']]) vs=v122_0 i' j' (appS ss' vs):=appS_snoc _ _ _
    have ev:∀ k:Int,0≤k→el (v122_0 i' j' (appS ss' vs)) k=if k=j' then el (appS ss' vs) i' else if k=i' then el (appS ss' vs) j' else el (appS ss' vs) k:=fun k k0=>el_sw _ i' j' k (by omega) (by omega) (by omega) (by omega) k0
    refine .inl ⟨(i'+1,j' - 1,ss'++[AV.agg [AV.int .i64 i',AV.int .i64 j']]),?_,
     ⟨by simp only;omega,by simp only;omega,by simp only;omega,fun x hx=>?_,fun x hx=>?_,by simp only [List.length_append,List.length_singleton];omega,fun k k0 k1=>?_,fun k k0 k1=>?_,fun k k0 k1=>?_,fun x hx=>?_⟩,by simp only;omega⟩
    ·simp only [R151_0,F151_0,G151_0,gi,gj,d0,c1,c2,c3,c4,d1,d2,wi,wj,hr,Bool.and_self,cond_true,cond_false]
    ·rcases List.mem_append.1 hx with hx|hx
     ·exact ins x hx
     ·rw [List.mem_singleton.1 hx]
      exact ⟨i0,by show i'<b;omega,by show a≤j';omega,j1⟩
    ·rcases List.mem_append.1 hx with hx|hx
     ·exact n2 x hx
     ·rw [List.mem_singleton.1 hx]
      rfl
    ·simp only at k0 k1
     rw [eap,ev k (by omega),if_neg (by omega),if_neg (by omega)]
     exact mid k (by omega) (by omega)
    ·simp only at k1
     rw [eap,ev k (by omega),if_neg (by omega)]
     split
     ·rw [mj];omega
     ·exact lo k k0 (by omega)
    ·simp only at k0
     rw [eap,ev k (by omega)]
     split
     ·rw [mi];omega
     ·rw [if_neg (by omega)]
      exact hi k (by omega) k1
    ·rcases List.mem_append.1 hx with hx|hx
     ·exact ord x hx
     ·rw [List.mem_singleton.1 hx]
      exact hne
 ·have d0:decide (i'≤j')=false:=decide_eq_false hij
  refine .inr ⟨(i',ss'),?_,⟨i0,by simp only;omega,ins,n2,len,lo,fun k k0 k1=>hi k (by simp only at k0;omega) k1,ord⟩⟩
  simp only [R151_0,F151_0,G151_0,d0,cond_false]
theorem P151s (vs:List AV) (v a b:Int) (hn:vs.length≤1048576) (a0:0≤a) (ab:a≤b) (b1:b≤vs.length):q151 vs a b v=true∧Parted vs v a b (v151_0 vs a b v) (v151_1 vs a b v):=by
 obtain ⟨r,h1,h5⟩:=runW_ends (ParJ vs v a b) (fun (r:Int × List AV)=>Parted vs v a b r.2 r.1) (fun s=>(s.2.1+1 - s.1).toNat) (stepJ vs v a b hn a0 b1) (((b - 1) - a+1).toNat+1) (a,b - 1,[])
  ⟨Int.le_refl _,by simp only;omega,by simp only;omega,fun x hx=>by simp at hx,fun x hx=>by simp at hx,by simp,fun k _ _=>rfl,fun k k0 k1=>by simp only at k1;omega,fun k k0 k1=>by simp only at k0;omega,fun x hx=>by simp at hx⟩ (by simp only;omega)
 have wb:IntKind.i64.wrap (b - 1)=b - 1:=wrap_in (by omega) (by omega)
 have d3:decide (b > (vs.length:Int))=false:=decide_eq_false (by omega)
 have d4:v52_0 a 0 b=true:=by rw [v52,decide_eq_true a0,decide_eq_true ab];rfl
 unfold q151 v151_0 v151_1
 rw [wb,d3,d4,h1]
 exact ⟨rfl,h5⟩
structure Cs (vs rs ps:List AV) (v a b at_:Int) (ss:List AV):Prop where
 c:q118 vs rs ps v=true∧v118_0 vs rs ps v=appS ss vs∧v118_1 vs rs ps v=appS ss rs∧v118_2 vs rs ps v=insP ps v at_∧v118_4 vs rs ps v=true
 ok:Col (appS ss vs) (appS ss rs) (insP ps v at_)
 n2:N2 (insP ps v at_)
 ins:inS 0 vs.length ss
theorem crack_newS {vs rs ps:List AV} (h:Col vs rs ps) (hN:N2 ps) {v:Int} (hv : -1000≤v∧v≤1000) (hf:(findP ps v).isSome=false):∃ (a b at_:Int) (ss:List AV),Cs vs rs ps v a b at_ ss:=by
 have hl:=h.n64
 have hlen:=h.len
 have hfew:=col_few h
 have hp:=pc_of h hf
 have hpi:=piece_of h hp
 generalize (if place ps v=0 then 0 else pat ps (place ps v - 1))=a at hp hpi
 generalize (if place ps v=ps.length then (vs.length:Int) else pat ps (place ps v))=b at hp hpi
 have a0:=hpi.a0
 have ab:=hpi.ab
 have b1:=hpi.b1
 have k97:=P150 h hv hp
 obtain ⟨d1,par⟩:=P151s vs v a b (by omega) a0 ab b1
 generalize hss:v151_0 vs a b v=ss at par
 generalize hat:v151_1 vs a b v=at_ at par
 have i0:=par.i0
 have i1:=par.i1
 have hs64:ss.length≤64:=by have:=par.len;omega
 have hin:inS 0 vs.length ss:=fun s hs=>by obtain ⟨x1,x2,x3,x4⟩:=par.ins s hs;exact ⟨by omega,by omega,by omega,by omega⟩
 have hcol1:=Col.swaps (ps:=ps) a0 hpi.cut ss vs rs h b1 par.ins
 have la:=appS_len ss vs
 have lr:=appS_len ss rs
 have hout:=appS_out a0 ss vs b1 par.ins
 have hcol2:Col (appS ss vs) (appS ss rs) (insP ps v at_):=by
  refine hcol1.pivot (findP_none hf) hv ⟨by omega,by omega⟩ (fun k k0 k1=>?_) (fun p p0 p1=>?_)
  ·rw [la] at k1
   constructor
   ·intro hk
    rcases Int.lt_or_le k at_ with q|q
    ·exact q
    ·exfalso
     rcases Int.lt_or_le k b with q2|q2
     ·have:=par.hi k q q2;omega
     ·have:=hpi.hi k q2 k1
      rw [← hout k k0 (.inr q2)] at this
      omega
   ·intro hk
    rcases Int.lt_or_le k a with q|q
    ·rw [hout k k0 (.inl q)];exact hpi.lo k k0 q
    ·exact par.lo k q hk
  ·obtain ⟨x1,x2⟩:=Pc.cut h hp p0 p1
   exact ⟨fun q=>by have:=x1 q;omega,fun q=>by have:=x2 q;omega⟩
 have hc0:=(isC_iff vs rs ps (by omega)).2 h
 have hc1:=(isC_iff (appS ss vs) (appS ss rs) ps (by omega)).2 hcol1
 have hc2:=(isC_iff (appS ss vs) (appS ss rs) (insP ps v at_) (by omega)).2 hcol2
 obtain ⟨e1,e2,e3,e4,e5⟩:=P152 vs rs ps ss (by omega) (by omega) hlen (by omega) hin
 obtain ⟨g1,g2,g3,g4,g5⟩:=P153 (appS ss vs) (appS ss rs) ps v at_ (by omega) (by omega) (by omega) hN
 rw [hc1,hc2] at g4
 obtain ⟨m1,m2⟩:=P68 vs rs ps (by omega) (by omega) (by omega)
 obtain ⟨n1,n2,n3⟩:=P119 vs rs ps v (by omega)
 obtain ⟨k1,k2,k3⟩:=k97
 refine ⟨a,b,at_,ss,?_,hcol2,insP_N2 hN v at_,hin⟩
 unfold q118 v118_0 v118_1 v118_2 v118_4
 rw [m1,m2,hc0,bound_of hv,n1,n3,hf,k1,k2,k3,d1,hss,hat,e1,e2,e3,e4,g1,g2,g3,g4]
 exact ⟨rfl,rfl,rfl,rfl,rfl⟩
theorem crack_oldS {vs rs ps:List AV} (h:Col vs rs ps) {v:Int} (hv : -1000≤v∧v≤1000) (hf:(findP ps v).isSome=true) :
  q118 vs rs ps v=true∧v118_0 vs rs ps v=vs∧v118_1 vs rs ps v=rs∧v118_2 vs rs ps v=ps∧v118_4 vs rs ps v=true:=by
 have hl:=h.n64
 have hlen:=h.len
 have hfew:=col_few h
 have hc0:=(isC_iff vs rs ps (by omega)).2 h
 obtain ⟨m1,m2⟩:=P68 vs rs ps (by omega) (by omega) (by omega)
 obtain ⟨n1,n2,n3⟩:=P119 vs rs ps v (by omega)
 obtain ⟨c0,c1,c2,c3⟩:=P69 vs rs ps (by omega) (by omega) (by omega)
 unfold q118 v118_0 v118_1 v118_2 v118_4
 rw [m1,m2,hc0,bound_of hv,n1,n3,hf,c0,c1,c2,c3]
 exact ⟨rfl,rfl,rfl,rfl,rfl⟩
end Go.Proofs.YtbmfgibbjchijaaGreat

namespace Go.Proofs.YtbmfgibbjchijaaGreat
open Go Go.Proofs.VE
set_option linter.unusedVariables false
set_option linter.unusedSimpArgs false
def dI (i:Int):AV := .int .i64 i
def E125 (xs vs:List AV) (i:Int):List AV→Int ⊕ (Int × List AV)
 | [] => .inl i
 | y :: ys => .inr (i,y :: ys)
def K125 (xs vs:List AV):List AV→Unit ⊕ List AV
 | [] => .inl ()
 | y :: ys => .inr (y :: ys)
theorem run125 (xs vs:List AV) (h:xs.length≤1048576):runW (R125_0 xs vs) (((xs.length:Int) - 0).toNat+1) (E125 xs vs 0 [])=some (K125 xs vs (appF allT dI xs.length 0 [])):=by
 refine runW_appK (E125 xs vs) (K125 xs vs) xs.length allT dI (fun i ys h0 hn hl=>?_) (fun ys=>?_)
 ·have d1:decide (i<(xs.length:Int))=true:=decide_eq_true hn
  have d2:decide (0≤i)=true:=decide_eq_true h0
  cases ys with
  | nil =>
   have c1:decide ((([dI i]:List AV).length)*8≤140737488355328)=true:=by simp
   have c2:decide ((([dI i]:List AV).length)≤140737488355328)=true:=by simp
   simp only [dI] at c1 c2
   simp only [E125,R125_0,sumE,F125_0_s0,G125_0_s0,d1,d2,c1,c2,Bool.and_self,cond_true,allT,List.nil_append]
   rw [wrap_in (a:=i+1) (by omega) (by omega)]
   try rfl
  | cons y ys =>
   have hl':(y :: ys).length≤1048576:=by omega
   have c1:decide (((y :: ys).length+[dI i].length)*8≤140737488355328)=true:=decide_eq_true (by simp only [List.length_singleton];omega)
   have c2:decide ((y :: ys).length+[dI i].length≤140737488355328)=true:=decide_eq_true (by simp only [List.length_singleton];omega)
   simp only [dI] at c1 c2
   simp only [E125,R125_0,sumE,F125_0_s1,G125_0_s1,d1,d2,c1,c2,Bool.and_self,cond_true,allT,List.cons_append]
   rw [wrap_in (a:=i+1) (by omega) (by omega)]
   try rfl
 ·cases ys <;> simp only [E125,K125,R125_0,sumE,F125_0_s0,G125_0_s0,F125_0_s1,G125_0_s1,Int.lt_irrefl,decide_false,cond_false]
theorem appF_all (c:Int→AV):∀ (m:Nat) (i:Int) (ys:List AV),appF allT c m i ys=ys++(List.range m).map fun j:Nat=>c (i+j)
 | 0,i,ys=>by simp [appF,foldF]
 | m+1,i,ys=>by
  have e:appF allT c (m+1) i ys=appF allT c m (i+1) (ys++[c i]):=rfl
  rw [e,appF_all c m,List.range_succ_eq_map,List.map_cons,List.map_map,List.append_assoc]
  congr 1
  simp only [Int.natCast_zero,Int.add_zero,List.singleton_append,List.cons.injEq,true_and]
  refine List.map_congr_left fun j _=>?_
  simp only [Function.comp]
  congr 1
  omega
def rows (xs:List AV):List AV:=appF allT dI xs.length 0 []
theorem rows_len (xs:List AV):(rows xs).length=xs.length:=by
 unfold rows
 rw [appF_all]
 simp
theorem P125 (xs:List AV) (h:xs.length≤1048576):q125 xs=true∧v125_0 xs=(bif v116_0 xs then xs else [])∧v125_1 xs=(bif v116_0 xs then rows xs else [])∧v125_2 xs=[]:=by
 unfold q125 v125_0 v125_1 v125_2
 have hr:=run125 xs ([]++xs) h
 have c1:decide ((([]:List AV).length+xs.length)*8≤140737488355328)=true:=decide_eq_true (by simp;omega)
 have c2:decide (([]:List AV).length+xs.length≤140737488355328)=true:=decide_eq_true (by simp;omega)
 rw [(P116 xs h).1,show (.inl 0:Int ⊕ (Int × List AV))=E125 xs ([]++xs) 0 [] from rfl,hr,c1,c2]
 change _∧_∧_=(bif v116_0 xs then (appF allT dI xs.length 0 []) else [])∧_
 generalize appF allT dI xs.length 0 []=ys
 cases v116_0 xs
 ·exact ⟨rfl,rfl,rfl,rfl⟩
 ·cases ys <;> exact ⟨rfl,rfl,rfl,rfl⟩
theorem N2_nil:N2 []:=fun x hx=>by simp at hx
def rowK (rs:List AV) (x:Int):Int:=ro (findF (fun i=>decide (fI (rs.getD i.toNat .undef) 0=x)) rs.length 0) (-1) id
theorem rowK_lt (rs:List AV) (x:Int):rowK rs x<rs.length∧(-1≤rowK rs x):=by
 unfold rowK
 cases hf:findF (fun i=>decide (fI (rs.getD i.toNat .undef) 0=x)) rs.length 0 with
 | none=>simp [ro];omega
 | some j =>
  have:=findF_some _ _ hf
  simp [ro]
  omega
def badT (now:Int) (ss:List AV) (i:Int):Bool :=
 !(
  decide (0≤fI (ss.getD i.toNat .undef) 2) && decide (fI (ss.getD i.toNat .undef) 2≤now)) ||
  (!decide (fI (ss.getD i.toNat .undef) 3 = -1) && (decide (fI (ss.getD i.toNat .undef) 3≤fI (ss.getD i.toNat .undef) 2) || !decide (fI (ss.getD i.toNat .undef) 3≤now)))
def badS (vs rs ss:List AV) (now:Int) (i:Int):Bool :=
 decide (rowK rs (fI (ss.getD i.toNat .undef) 1)<0) || (!decide (fI (vs.getD (rowK rs (fI (ss.getD i.toNat .undef) 1)).toNat .undef) 0=fI (ss.getD i.toNat .undef) 0) ||
  ((decide (i > 0) && decide (fI (ss.getD i.toNat .undef) 1≤fI (ss.getD (i - 1).toNat .undef) 1)) || badT now ss i))
def L50 (ss:List AV) (i:Int):Unit ⊕ (Int × Int × Int × Int) := .inr (fI (ss.getD i.toNat .undef) 0,fI (ss.getD i.toNat .undef) 1,fI (ss.getD i.toNat .undef) 2,fI (ss.getD i.toNat .undef) 3)
theorem step50 (ss:List AV) (now:Int) (vs rs ps:List AV) (i:Int) (hr:rs.length≤1048576) (hs:ss.length≤1048576) (he:(rs.length:Int)=vs.length) (hnow:now≤1000) (h0:0≤i) (hn:i<ss.length) :
  R50_0 ss now vs rs ps i=bif badS vs rs ss now i then .stop (L50 ss i) else .next (i+1):=by
 have hk:=rowK_lt rs (fI (ss.getD i.toNat .undef) 1)
 have ek:v101_0 vs rs ps (fI (ss.getD i.toNat .undef) 1)=rowK rs (fI (ss.getD i.toNat .undef) 1):=(P101 vs rs ps _ hr).2.trans (P83 rs _ hr).2
 simp only [R50_0,F50_0,G50_0,h0,hn,decide_true,Bool.and_self,cond_true,(P101 vs rs ps _ hr).1,ek]
 rw [wrap_in (a:=i+1) (by omega) (by omega),wrap_in (a:=i - 1) (by omega) (by omega)]
 unfold badS L50 badT
 simp only [v52]
 generalize rowK rs (fI (ss.getD i.toNat AV.undef) 1)=k at *
 by_cases hk0:k<0
 ·rw [decide_eq_true hk0];rfl
 have k1:decide (0≤k)=true:=decide_eq_true (by omega)
 have k2:decide (k<(vs.length:Int))=true:=decide_eq_true (by omega)
 rw [decide_eq_false hk0,k1,k2]
 generalize decide (fI (vs.getD k.toNat AV.undef) 0=fI (ss.getD i.toNat AV.undef) 0)=b1
 generalize fI (ss.getD i.toNat AV.undef) 2=bo
 have eb:(decide (0≤bo) && decide (bo≤now))=true→IntKind.i64.wrap (bo+1)=bo+1:=fun h=>by
  simp only [Bool.and_eq_true,decide_eq_true_eq] at h
  exact wrap_in (by omega) (by omega)
 have ed:decide (bo+1≤fI (ss.getD i.toNat AV.undef) 3) = !decide (fI (ss.getD i.toNat AV.undef) 3≤bo):=by
  by_cases h:fI (ss.getD i.toNat AV.undef) 3≤bo
  ·rw [decide_eq_true h,decide_eq_false (by omega)];rfl
  ·rw [decide_eq_false h,decide_eq_true (by omega)];rfl
 generalize (decide (0≤bo) && decide (bo≤now))=b2 at *
 generalize decide (fI (ss.getD i.toNat AV.undef) 3 = -1)=b3
 have hd:b2=true→(decide (IntKind.i64.wrap (bo+1)≤fI (ss.getD i.toNat AV.undef) 3))=(decide (bo+1≤fI (ss.getD i.toNat AV.undef) 3)):=fun h=>by rw [eb h]
 cases b2 with
 | false =>
  by_cases hi:i > 0
  ·have hm:decide (0≤i - 1)=true:=decide_eq_true (by omega)
   have hm':decide (i - 1<(ss.length:Int))=true:=decide_eq_true (by omega)
   rw [decide_eq_true hi,hm,hm']
   generalize decide (fI (ss.getD i.toNat AV.undef) 1≤fI (ss.getD (i - 1).toNat AV.undef) 1)=b4
   cases b1 <;> cases b4 <;> rfl
  ·rw [decide_eq_false hi]
   cases b1 <;> rfl
 | true =>
  rw [hd rfl,ed]
  generalize decide (fI (ss.getD i.toNat AV.undef) 3≤bo)=b5
  generalize decide (fI (ss.getD i.toNat AV.undef) 3≤now)=b6
  by_cases hi:i > 0
  ·have hm:decide (0≤i - 1)=true:=decide_eq_true (by omega)
   have hm':decide (i - 1<(ss.length:Int))=true:=decide_eq_true (by omega)
   rw [decide_eq_true hi,hm,hm']
   generalize decide (fI (ss.getD i.toNat AV.undef) 1≤fI (ss.getD (i - 1).toNat AV.undef) 1)=b4
   cases b1 <;> cases b3 <;> cases b4 <;> cases b5 <;> cases b6 <;> rfl
  ·rw [decide_eq_false hi]
   cases b1 <;> cases b3 <;> cases b5 <;> cases b6 <;> rfl
theorem step17 (ss:List AV) (now:Int) (vs rs ps:List AV) (i:Int) (hr:rs.length≤1048576) (hs:ss.length≤1048576) (he:(rs.length:Int)=vs.length) (hnow:now≤1000) (h0:0≤i) (hn:i<ss.length) :
  R17_0 ss ss.length ss now vs rs ps i=bif badS vs rs ss now i then .stop (L50 ss i) else .next (i+1):=by
 have hk:=rowK_lt rs (fI (ss.getD i.toNat .undef) 1)
 have ek:v62_0 vs rs ps (fI (ss.getD i.toNat .undef) 1)=rowK rs (fI (ss.getD i.toNat .undef) 1):=(P83 rs _ hr).2
 simp only [R17_0,F17_0,G17_0,h0,hn,decide_true,Bool.and_self,cond_true,(P62 vs rs ps _ hr).1,ek]
 rw [wrap_in (a:=i+1) (by omega) (by omega),wrap_in (a:=i - 1) (by omega) (by omega)]
 unfold badS L50 badT
 generalize rowK rs (fI (ss.getD i.toNat AV.undef) 1)=k at *
 by_cases hk0:k<0
 ·rw [decide_eq_true hk0];rfl
 have k1:decide (0≤k)=true:=decide_eq_true (by omega)
 have k2:decide (k<(vs.length:Int))=true:=decide_eq_true (by omega)
 rw [decide_eq_false hk0,k1,k2]
 generalize decide (fI (vs.getD k.toNat AV.undef) 0=fI (ss.getD i.toNat AV.undef) 0)=b1
 generalize fI (ss.getD i.toNat AV.undef) 2=bo
 generalize fI (ss.getD i.toNat AV.undef) 3=di
 rw [dlt bo 0,dgt bo now,dgt di now]
 generalize decide (0≤bo)=b2
 generalize decide (bo≤now)=b7
 generalize decide (di = -1)=b3
 generalize decide (di≤bo)=b5
 generalize decide (di≤now)=b6
 by_cases hi:i > 0
 ·have hm:decide (0≤i - 1)=true:=decide_eq_true (by omega)
  have hm':decide (i - 1<(ss.length:Int))=true:=decide_eq_true (by omega)
  rw [decide_eq_true hi,hm,hm',show decide (fI (ss.getD (i - 1).toNat AV.undef) 1 ≥ fI (ss.getD i.toNat AV.undef) 1)=decide (fI (ss.getD i.toNat AV.undef) 1≤fI (ss.getD (i - 1).toNat AV.undef) 1) from rfl]
  generalize decide (fI (ss.getD i.toNat AV.undef) 1≤fI (ss.getD (i - 1).toNat AV.undef) 1)=b4
  cases b1 <;> cases b2 <;> cases b3 <;> cases b4 <;> cases b5 <;> cases b6 <;> cases b7 <;> rfl
 ·rw [decide_eq_false hi]
  cases b1 <;> cases b2 <;> cases b3 <;> cases b5 <;> cases b6 <;> cases b7 <;> rfl
def isS (ss:List AV) (now:Int) (vs rs ps:List AV):Bool:=isC vs rs ps && (decide ((ss.length:Int)=vs.length) && ((decide (0≤now) && decide (now≤1000)) && noneB (badS vs rs ss now) ss.length))
theorem isC_len {vs rs ps:List AV} (h:isC vs rs ps=true):(rs.length:Int)=vs.length:=by
 unfold isC at h
 simp only [Bool.and_eq_true,decide_eq_true_eq] at h
 exact h.2.1
theorem P50 (ss:List AV) (now:Int) (vs rs ps:List AV) (hs:ss.length≤1048576) (h:vs.length≤1048576) (h':rs.length≤1048576) (h'':ps.length≤1048576):q50 ss now vs rs ps=true∧v50_0 ss now vs rs ps=isS ss now vs rs ps:=by
 unfold q50 v50_0 isS
 rw [(P68 vs rs ps h h' h'').1,(P68 vs rs ps h h' h'').2,v52]
 cases hc:isC vs rs ps with
 | false=>exact ⟨rfl,rfl⟩
 | true =>
  cases decide ((ss.length:Int)=vs.length) with
  | false=>exact ⟨rfl,rfl⟩
  | true =>
   cases hnow:(decide (0≤now) && decide (now≤1000)) with
   | false=>exact ⟨rfl,rfl⟩
   | true =>
    simp only [Bool.and_eq_true,decide_eq_true_eq] at hnow
    have hr:runW (R50_0 ss now vs rs ps) (((ss.length:Int) - 0).toNat+1) 0=some (ro (findF (badS vs rs ss now) ss.length 0) (.inl ()) (L50 ss)):=by
     refine runW_find (fun i=>i) ss.length _ _ _ (fun i h0 hn=>step50 ss now vs rs ps i h' hs (isC_len hc) hnow.2 h0 hn) ?_ ss.length _ 0 (Int.le_refl 0) (by omega) (by omega)
     simp only [R50_0,F50_0,G50_0,Int.lt_irrefl,decide_false,cond_false]
    rw [hr]
    unfold noneB
    cases findF (badS vs rs ss now) ss.length 0 <;> exact ⟨rfl,rfl⟩
theorem P17 (ss:List AV) (now:Int) (vs rs ps:List AV) (hs:ss.length≤1048576) (h:vs.length≤1048576) (h':rs.length≤1048576) (h'':ps.length≤1048576):q17 ss now vs rs ps=true∧v17_0 ss now vs rs ps=isS ss now vs rs ps:=by
 unfold q17 v17_0 isS
 rw [(P61 vs rs ps h h' h'').1,(P61 vs rs ps h h' h'').2,dlt now 0,dgt now 1000]
 cases hc:isC vs rs ps with
 | false=>exact ⟨rfl,rfl⟩
 | true =>
  cases decide ((ss.length:Int)=vs.length) with
  | false=>exact ⟨rfl,rfl⟩
  | true =>
   cases hn1:decide (0≤now) with
   | false=>exact ⟨rfl,rfl⟩
   | true =>
    cases hn2:decide (now≤1000) with
    | false=>exact ⟨rfl,rfl⟩
    | true =>
     simp only [decide_eq_true_eq] at hn1 hn2
     have hr:runW (R17_0 ss ss.length ss now vs rs ps) (((ss.length:Int) - 0).toNat+1) 0=some (ro (findF (badS vs rs ss now) ss.length 0) (.inl ()) (L50 ss)):=by
      refine runW_find (fun i=>i) ss.length _ _ _ (fun i h0 hn=>step17 ss now vs rs ps i h' hs (isC_len hc) hn2 h0 hn) ?_ ss.length _ 0 (Int.le_refl 0) (by omega) (by omega)
      simp only [R17_0,F17_0,G17_0,Int.lt_irrefl,decide_false,cond_false]
     rw [hr]
     unfold noneB
     cases findF (badS vs rs ss now) ss.length 0 <;> exact ⟨rfl,rfl⟩
theorem P49 (s:List AV) (n:Int) (v r p:List AV) (h0:s.length≤1048576) (h1:v.length≤1048576) (h2:r.length≤1048576) (h3:p.length≤1048576):q49 s n v r p=true∧v49_0 s n v r p=s∧v49_1 s n v r p=n∧v49_2 s n v r p=v∧v49_3 s n v r p=r∧v49_4 s n v r p=p:=by
 obtain ⟨a,b,c,d⟩:=P69 v r p h1 h2 h3
 unfold q49 v49_0 v49_1 v49_2 v49_3 v49_4
 simp only [List.length_nil,Nat.zero_add,List.nil_append,a,b,c,d]
 rw [decide_eq_true (by omega:s.length*32≤140737488355328),decide_eq_true (by omega:s.length≤140737488355328)]
 simp
theorem P99 (xs:List AV) (h:xs.length≤1048576):q99 xs=true∧v99_0 xs=xs:=by
 unfold q99 v99_0
 rw [decide_eq_true (by omega:xs.length*32≤140737488355328),decide_eq_true (by omega:xs.length≤140737488355328)]
 exact ⟨rfl,rfl⟩
theorem P44 (s:List AV) (n:Int) (v r p:List AV) (h0:s.length≤1048576) (h1:v.length≤1048576) (h2:r.length≤1048576) (h3:p.length≤1048576):q44 s n v r p=true∧v44_0 s n v r p=s∧v44_1 s n v r p=n∧v44_2 s n v r p=v∧v44_3 s n v r p=r∧v44_4 s n v r p=p:=by
 obtain ⟨a,b,c,d⟩:=P64 v r p h1 h2 h3
 unfold q44 v44_0 v44_1 v44_2 v44_3 v44_4
 rw [(P99 s h0).1,a]
 exact ⟨rfl,rfl,rfl,b,c,d⟩
end Go.Proofs.YtbmfgibbjchijaaGreat

namespace Go.Proofs.YtbmfgibbjchijaaGreat
open Go Go.Proofs.VE
set_option linter.unusedVariables false
set_option linter.unusedSimpArgs false
theorem getD_set_ne {xs:List AV} {i j:Nat} {v d:AV} (h:i ≠ j):(xs.set i v).getD j d=xs.getD j d:=by
 simp only [List.getD_eq_getElem?_getD]
 rw [List.getElem?_set_ne h]
abbrev S6:=Int × Int × Int × List AV × List AV × List AV
structure InsI (n m:Nat) (s s':S6):Prop where
 e1:s'.1=s.1
 e2:s'.2.1=s.2.1
 e3:s'.2.2.1=s.2.2.1
 e4:s'.2.2.2.2.2=s.2.2.2.2.2
 lv:s.2.2.2.1.length=n+1
 lv':s'.2.2.2.1.length=n+1
 lr:s.2.2.2.2.1.length=n+1
 lr':s'.2.2.2.2.1.length=n+1
 lp:s.2.2.2.2.2.length=m
 h0:0≤s.1
 h1:s.1≤n
 k0 : -1≤s.2.2.1
 k1:s.2.2.1<m
 m0:0≤s.2.1
 m1:s.2.1+s.2.2.1+1≤m
 hat:∀ j:Nat,(j:Int)≤s.2.2.1→0≤fI (s.2.2.2.2.2.getD j .undef) 1∧fI (s.2.2.2.2.2.getD j .undef) 1≤n
 av:∀ j:Nat,(j:Int) ≠ s.1→s.2.2.2.1.getD j .undef=s'.2.2.2.1.getD j .undef
 ar:∀ j:Nat,(j:Int) ≠ s.1→s.2.2.2.2.1.getD j .undef=s'.2.2.2.2.1.getD j .undef
theorem stepIns (x row:Int) (n m:Nat) (hn:n≤1048576) (hm:m≤1048576) (s s':S6) (h:InsI n m s s') :
  (∃ a b,R161_0 x row s = .next a∧R56_0 x row s' = .next b∧InsI n m a b∧(a.2.2.1+1).toNat<(s.2.2.1+1).toNat)∨∃ r r',R161_0 x row s = .stop r∧R56_0 x row s' = .stop r'∧(r.1=s.1∧r=(s.1,s.2.1,s.2.2.2.1,s.2.2.2.2.1,s.2.2.2.2.2)∧r'=(s'.1,s'.2.1,s'.2.2.2.1,s'.2.2.2.2.1,s'.2.2.2.2.2)∧InsI n m s s'):=by
 obtain ⟨hole,mv,k,V,Rr,P⟩:=s
 obtain ⟨hole',mv',k',V',Rr',P'⟩:=s'
 have h':=h
 obtain ⟨e1,e2,e3,e4,lv,lv',lr,lr',lp,h0,h1,k0,k1,m0,m1,hat,av,ar⟩:=h
 simp only at e1 e2 e3 e4 lv lv' lr lr' lp h0 h1 k0 k1 m0 m1 hat av ar
 subst e1 e2 e3 e4
 by_cases hk:k' ≥ 0
 ·have dk1:decide (k' ≥ 0)=true:=decide_eq_true hk
  have dk2:decide (0≤k')=true:=decide_eq_true hk
  have dk3:decide (k'<(P'.length:Int))=true:=decide_eq_true (by omega)
  by_cases hv:fI (P'.getD k'.toNat .undef) 0 > x
  ·have dv:decide (fI (P'.getD k'.toNat .undef) 0 > x)=true:=decide_eq_true hv
   obtain ⟨b0,b1⟩:=hat k'.toNat (by omega)
   have hat':∀ (c:AV) (j:Nat),(j:Int)≤k' - 1→0≤fI ((P'.set k'.toNat c).getD j .undef) 1∧fI ((P'.set k'.toNat c).getD j .undef) 1≤n:=fun c j hj=>by
    rw [getD_set_ne (by omega)]
    exact hat j (by omega)
   by_cases ha:fI (P'.getD k'.toNat .undef) 1=hole'
   ·have da:decide (fI (P'.getD k'.toNat .undef) 1=hole')=true:=decide_eq_true ha
    have da':decide (hole'=fI (P'.getD k'.toNat .undef) 1)=true:=decide_eq_true ha.symm
    refine .inl ⟨(fI (P'.getD k'.toNat .undef) 1,mv',k' - 1,V,Rr,P'.set k'.toNat (AV.agg [AV.int .i64 (fI (P'.getD k'.toNat .undef) 0),AV.int .i64 (fI (P'.getD k'.toNat .undef) 1+1)])),
     (fI (P'.getD k'.toNat .undef) 1,mv',k' - 1,V',Rr',P'.set k'.toNat (AV.agg [AV.int .i64 (fI (P'.getD k'.toNat .undef) 0),AV.int .i64 (fI (P'.getD k'.toNat .undef) 1+1)])),?_,?_,⟨rfl,rfl,rfl,rfl,lv,lv',lr,lr',by simp only [List.length_set];exact lp,b0,b1,by simp only;omega,by simp only;omega,m0,by simp only;omega,hat' _,by simp only;rw [ha];exact av,by simp only;rw [ha];exact ar⟩,by simp only;omega⟩
    ·simp only [R161_0,F161_0,G161_0,dk1,dk2,dk3,dv,da,Bool.and_self,cond_true]
     rw [wrap_in (a:=mv'+0) (by omega) (by omega),wrap_in (a:=k' - 1) (by omega) (by omega),wrap_in (a:=fI (P'.getD k'.toNat .undef) 1+1) (by omega) (by omega),Int.add_zero]
    ·simp only [R56_0,F56_0,G56_0,dk1,dk2,dk3,dv,da',Bool.and_self,cond_true]
     rw [wrap_in (a:=mv'+0) (by omega) (by omega),wrap_in (a:=k' - 1) (by omega) (by omega),wrap_in (a:=fI (P'.getD k'.toNat .undef) 1+1) (by omega) (by omega),Int.add_zero]
   ·have da:decide (fI (P'.getD k'.toNat .undef) 1=hole')=false:=decide_eq_false ha
    have da':decide (hole'=fI (P'.getD k'.toNat .undef) 1)=false:=decide_eq_false (fun e=>ha e.symm)
    have c1:decide (0≤fI (P'.getD k'.toNat .undef) 1)=true:=decide_eq_true b0
    have c2:decide (fI (P'.getD k'.toNat .undef) 1<(V.length:Int))=true:=decide_eq_true (by omega)
    have c3:decide (fI (P'.getD k'.toNat .undef) 1<(Rr.length:Int))=true:=decide_eq_true (by omega)
    have c4:decide (0≤hole')=true:=decide_eq_true h0
    have c5:decide (hole'<(V.length:Int))=true:=decide_eq_true (by omega)
    have c6:decide (hole'<(Rr.length:Int))=true:=decide_eq_true (by omega)
    have c2':decide (fI (P'.getD k'.toNat .undef) 1<(V'.length:Int))=true:=decide_eq_true (by omega)
    have c3':decide (fI (P'.getD k'.toNat .undef) 1<(Rr'.length:Int))=true:=decide_eq_true (by omega)
    have c5':decide (hole'<(V'.length:Int))=true:=decide_eq_true (by omega)
    have c6':decide (hole'<(Rr'.length:Int))=true:=decide_eq_true (by omega)
    have gv:=av (fI (P'.getD k'.toNat .undef) 1).toNat (by omega)
    have gr:=ar (fI (P'.getD k'.toNat .undef) 1).toNat (by omega)
    have keep:∀ (X Y:List AV) (c:AV),X.length=n+1→Y.length=n+1→(∀ j:Nat,(j:Int) ≠ hole'→X.getD j .undef=Y.getD j .undef)→∀ j:Nat,(j:Int) ≠ fI (P'.getD k'.toNat .undef) 1→(X.set hole'.toNat c).getD j .undef=(Y.set hole'.toNat c).getD j .undef:=fun X Y c hX hY hXY j _=>by
     by_cases hj:hole'.toNat=j
     ·rw [hj,getD_set (by omega),getD_set (by omega)]
     ·rw [getD_set_ne hj,getD_set_ne hj]
      exact hXY j (by omega)
    refine .inl ⟨(fI (P'.getD k'.toNat .undef) 1,mv'+1,k' - 1,V.set hole'.toNat (AV.agg [AV.int .i64 (fI (V.getD (fI (P'.getD k'.toNat .undef) 1).toNat .undef) 0)]),Rr.set hole'.toNat (AV.agg [AV.int .i64 (fI (Rr.getD (fI (P'.getD k'.toNat .undef) 1).toNat .undef) 0)]),P'.set k'.toNat (AV.agg [AV.int .i64 (fI (P'.getD k'.toNat .undef) 0),AV.int .i64 (fI (P'.getD k'.toNat .undef) 1+1)])),
     (fI (P'.getD k'.toNat .undef) 1,mv'+1,k' - 1,V'.set hole'.toNat (AV.agg [AV.int .i64 (fI (V'.getD (fI (P'.getD k'.toNat .undef) 1).toNat .undef) 0)]),Rr'.set hole'.toNat (AV.agg [AV.int .i64 (fI (Rr'.getD (fI (P'.getD k'.toNat .undef) 1).toNat .undef) 0)]),P'.set k'.toNat (AV.agg [AV.int .i64 (fI (P'.getD k'.toNat .undef) 0),AV.int .i64 (fI (P'.getD k'.toNat .undef) 1+1)])),?_,?_,
     ⟨rfl,rfl,rfl,rfl,by simp only [List.length_set];exact lv,by simp only [List.length_set];exact lv',by simp only [List.length_set];exact lr,by simp only [List.length_set];exact lr',by simp only [List.length_set];exact lp,b0,b1,by simp only;omega,by simp only;omega,by simp only;omega,by simp only;omega,hat' _,by simp only;rw [gv];exact keep V V' _ lv lv' av,by simp only;rw [gr];exact keep Rr Rr' _ lr lr' ar⟩,by simp only;omega⟩
    ·simp only [R161_0,F161_0,G161_0,dk1,dk2,dk3,dv,da,c1,c2,c3,c4,c5,c6,Bool.and_self,cond_true,cond_false]
     rw [wrap_in (a:=mv'+1) (by omega) (by omega),wrap_in (a:=k' - 1) (by omega) (by omega),wrap_in (a:=fI (P'.getD k'.toNat .undef) 1+1) (by omega) (by omega)]
    ·simp only [R56_0,F56_0,G56_0,dk1,dk2,dk3,dv,da',c1,c2',c3',c4,c5',c6',Bool.and_self,cond_true,cond_false]
     rw [wrap_in (a:=mv'+1) (by omega) (by omega),wrap_in (a:=k' - 1) (by omega) (by omega),wrap_in (a:=fI (P'.getD k'.toNat .undef) 1+1) (by omega) (by omega)]
  ·have dv:decide (fI (P'.getD k'.toNat .undef) 0 > x)=false:=decide_eq_false hv
   refine .inr ⟨(hole',mv',V,Rr,P'),(hole',mv',V',Rr',P'),?_,?_,rfl,rfl,rfl,h'⟩
   ·simp only [R161_0,F161_0,G161_0,dk1,dk2,dk3,dv,Bool.and_self,cond_true,cond_false]
   ·simp only [R56_0,F56_0,G56_0,dk1,dk2,dk3,dv,Bool.and_self,cond_true,cond_false]
 ·have dk1:decide (k' ≥ 0)=false:=decide_eq_false hk
  refine .inr ⟨(hole',mv',V,Rr,P'),(hole',mv',V',Rr',P'),?_,?_,rfl,rfl,rfl,h'⟩
  ·simp only [R161_0,F161_0,G161_0,dk1,cond_false]
  ·simp only [R56_0,F56_0,G56_0,dk1,cond_false]
def InsJ (n m:Nat) (r r':Int × Int × List AV × List AV × List AV):Prop:=∃ s s':S6,InsI n m s s'∧r=(s.1,s.2.1,s.2.2.2.1,s.2.2.2.2.1,s.2.2.2.2.2)∧r'=(s'.1,s'.2.1,s'.2.2.2.1,s'.2.2.2.2.1,s'.2.2.2.2.2)
theorem runIns (x row:Int) (n m:Nat) (hn:n≤1048576) (hm:m≤1048576) (s s':S6) (h:InsI n m s s') (fuel:Nat) (hf:(s.2.2.1+1).toNat<fuel):∃ r r',runW (R161_0 x row) fuel s=some r∧runW (R56_0 x row) fuel s'=some r'∧InsJ n m r r' :=
 runW_pair (InsI n m) (InsJ n m) (fun s=>(s.2.2.1+1).toNat) (fun s s' h=>by
  rcases stepIns x row n m hn hm s s' h with h|⟨r,r',h1,h2,_,h3,h4,h5⟩
  ·exact .inl h
  ·exact .inr ⟨r,r',h1,h2,s,s',h5,h3,h4⟩) fuel fuel s s' h hf hf
theorem isC_at {vs rs ps:List AV} (h:isC vs rs ps=true) (j:Nat) (hj:j<ps.length):0≤fI (ps.getD j .undef) 1∧fI (ps.getD j .undef) 1≤vs.length:=by
 unfold isC at h
 simp only [Bool.and_eq_true] at h
 have e:=(noneB_iff.1 h.2.2.2.2) (j:Int) (by omega) (by omega)
 simp only [badP,badA,v52,Bool.or_eq_false_iff,Bool.not_eq_false',Bool.and_eq_true,decide_eq_true_eq,Int.toNat_natCast] at e
 exact e.1.2.1
theorem item_eq (a b:Int):v103_0 a b=v190_0 a b:=by
 unfold v103_0 v190_0
 rw [v52,v52]
 have h1:decide (a ≥ -999)=decide (-999≤a):=rfl
 have h2:decide (b ≥ 0)=decide (0≤b):=rfl
 rw [h1,h2]
 cases decide (-999≤a) <;> cases decide (a≤999) <;> cases decide (0≤b) <;> cases decide (b≤999) <;> rfl
theorem set_same {V V':List AV} {n:Nat} {i:Int} {c:AV} (h1:V.length=n) (h2:V'.length=n) (h0:0≤i) (hi:i<n) (h:∀ j:Nat,(j:Int) ≠ i→V.getD j .undef=V'.getD j .undef):V.set i.toNat c=V'.set i.toNat c:=by
 apply List.ext_getElem
 ·rw [List.length_set,List.length_set,h1,h2]
 ·intro j g1 g2
  rw [List.length_set] at g1 g2
  by_cases e:i.toNat=j
  ·subst e
   rw [List.getElem_set_self,List.getElem_set_self]
  ·rw [List.getElem_set_ne e,List.getElem_set_ne e]
   have:=h j (by omega)
   rw [List.getD_eq_getElem?_getD,List.getD_eq_getElem?_getD,List.getElem?_eq_getElem g1,List.getElem?_eq_getElem g2] at this
   exact this
theorem ins_init (vs rs ps:List AV) (x row:Int) (hc:isC vs rs ps=true) (h:vs.length≤1048576) (h3:ps.length≤1048576):InsI vs.length ps.length ((vs.length:Int),0,(ps.length:Int) - 1,vs++[AV.int .i64 0],rs++[AV.int .i64 0],ps) ((vs.length:Int),0,(ps.length:Int) - 1,vs++[AV.int .i64 x],rs++[AV.int .i64 row],ps):=by
 have hl:=isC_len hc
 have app:∀ (X:List AV) (a b:AV),(X.length:Int)=vs.length→∀ j:Nat,(j:Int) ≠ vs.length→(X++[a]).getD j .undef=(X++[b]).getD j .undef:=fun X a b hX j hj=>by
  simp only [List.getD_eq_getElem?_getD]
  by_cases e:j<X.length
  ·rw [List.getElem?_append_left e,List.getElem?_append_left e]
  ·rw [List.getElem?_eq_none (by simp;omega),List.getElem?_eq_none (by simp;omega)]
 exact ⟨rfl,rfl,rfl,rfl,by simp,by simp,by simp only [List.length_append,List.length_singleton];omega,by simp only [List.length_append,List.length_singleton];omega,rfl,by simp only;omega,by simp only;omega,by simp only;omega,by simp only;omega,by simp only;omega,by simp only;omega,fun j hj=>isC_at hc j (by simp only at hj;omega),app vs _ _ rfl,app rs _ _ hl⟩
theorem same161 (vs rs ps:List AV) (x row:Int) (h1:vs.length≤1048576) (h2:rs.length≤1048576) (h3:ps.length≤1048576) :
  q161 vs rs ps x row=true∧q56 vs rs ps x row=true∧v56_0 vs rs ps x row=v161_0 vs rs ps x row∧v56_1 vs rs ps x row=v161_1 vs rs ps x row∧v56_2 vs rs ps x row=v161_2 vs rs ps x row∧v56_4 vs rs ps x row=v161_4 vs rs ps x row ∧
   (v161_4 vs rs ps x row=true→(v161_0 vs rs ps x row).length≤1048576∧(v161_1 vs rs ps x row).length≤1048576∧(v161_2 vs rs ps x row).length≤1048576∧vs.length<64):=by
 obtain ⟨a1,a2,a3,a4⟩:=P69 vs rs ps h1 h2 h3
 obtain ⟨b1,b2,b3,b4⟩:=P64 vs rs ps h1 h2 h3
 unfold q161 q56 v161_0 v161_1 v161_2 v161_4 v56_0 v56_1 v56_2 v56_4
 rw [a1,a2,a3,a4,b1,b2,b3,b4,(P68 vs rs ps h1 h2 h3).1,(P68 vs rs ps h1 h2 h3).2,(P61 vs rs ps h1 h2 h3).1,(P61 vs rs ps h1 h2 h3).2,item_eq,(P101 vs rs ps row h2).1,(P101 vs rs ps row h2).2,(P62 vs rs ps row h2).1,(P62 vs rs ps row h2).2]
 cases hc:isC vs rs ps with
 | false=>exact ⟨rfl,rfl,rfl,rfl,rfl,rfl,fun h=>by cases h⟩
 | true =>
  cases v190_0 x row with
  | false=>exact ⟨rfl,rfl,rfl,rfl,rfl,rfl,fun h=>by cases h⟩
  | true =>
   cases decide (v83_0 rs row ≥ 0) with
   | true=>exact ⟨rfl,rfl,rfl,rfl,rfl,rfl,fun h=>by cases h⟩
   | false =>
    by_cases hl:(vs.length:Int) ≥ 64
    ·rw [decide_eq_true hl]
     exact ⟨rfl,rfl,rfl,rfl,rfl,rfl,fun h=>by cases h⟩
    ·rw [decide_eq_false hl]
     have hle:=isC_len hc
     have w1:IntKind.i64.wrap ((ps.length:Int) - 1)=ps.length - 1:=wrap_in (by omega) (by omega)
     obtain ⟨r,r',g1,g2,s,s',hI,rfl,rfl⟩:=runIns x row vs.length ps.length h1 h3 _ _ (ins_init vs rs ps x row hc h1 h3) (((ps.length:Int) - 1 - 0+1).toNat+1) (by simp only;omega)
     rw [w1,g1,g2]
     obtain ⟨e1,e2,e3,e4,lv,lv',lr,lr',lp,h0,hh,k0,k1,m0,m1,hat,av,ar⟩:=hI
     have c1:decide ((vs.length+[AV.int .i64 0].length)*8≤140737488355328)=true:=decide_eq_true (by simp only [List.length_singleton];omega)
     have c2:decide (vs.length+[AV.int .i64 0].length≤140737488355328)=true:=decide_eq_true (by simp only [List.length_singleton];omega)
     have c3:decide ((rs.length+[AV.int .i64 0].length)*8≤140737488355328)=true:=decide_eq_true (by simp only [List.length_singleton];omega)
     have c4:decide (rs.length+[AV.int .i64 0].length≤140737488355328)=true:=decide_eq_true (by simp only [List.length_singleton];omega)
     have c5:decide ((vs.length+[AV.int .i64 x].length)*8≤140737488355328)=true:=c1
     have c6:decide (vs.length+[AV.int .i64 x].length≤140737488355328)=true:=c2
     have c7:decide ((rs.length+[AV.int .i64 row].length)*8≤140737488355328)=true:=c3
     have c8:decide (rs.length+[AV.int .i64 row].length≤140737488355328)=true:=c4
     have d1:decide (0≤s.1)=true:=decide_eq_true h0
     have d2:decide (s.1<(s.2.2.2.1.length:Int))=true:=decide_eq_true (by omega)
     have d3:decide (s.1<(s.2.2.2.2.1.length:Int))=true:=decide_eq_true (by omega)
     have d2':decide (s.1<(s'.2.2.2.1.length:Int))=true:=decide_eq_true (by omega)
     have d3':decide (s.1<(s'.2.2.2.2.1.length:Int))=true:=decide_eq_true (by omega)
     have sv:=set_same (c:=AV.agg [AV.int .i64 x]) lv lv' h0 (by omega) av
     have sr:=set_same (c:=AV.agg [AV.int .i64 row]) lr lr' h0 (by omega) ar
     simp only [ro,c1,c2,c3,c4,c5,c6,c7,c8,e1,e4,d1,d2,d3,d2',d3',sv,sr,Bool.not_true,cond_false,cond_true,Bool.and_self,List.length_set,lv',lr',lp,true_and]
     refine ⟨?_,fun _=>⟨by omega,by omega,h3,by omega⟩⟩
     have d4:decide (s.1<((vs.length+1:Nat):Int))=true:=decide_eq_true (by omega)
     rw [d4]
     rfl
theorem same136 (s:List AV) (n:Int) (v r p:List AV) (x:Int) (h0:s.length≤1048576) (h1:v.length≤1048576) (h2:r.length≤1048576) (h3:p.length≤1048576) :
  q136 s n v r p x=true∧q12 s n v r p x=true∧v12_0 s n v r p x=v136_0 s n v r p x∧v12_1 s n v r p x=v136_1 s n v r p x∧v12_2 s n v r p x=v136_2 s n v r p x∧v12_3 s n v r p x=v136_3 s n v r p x∧v12_4 s n v r p x=v136_4 s n v r p x∧v12_5 s n v r p x=v136_5 s n v r p x∧v12_6 s n v r p x=v136_6 s n v r p x ∧
   (v136_0 s n v r p x).length≤1048576∧(v136_2 s n v r p x).length≤1048576∧(v136_3 s n v r p x).length≤1048576∧(v136_4 s n v r p x).length≤1048576:=by
 obtain ⟨a,b,c,d,e,f⟩:=P49 s n v r p h0 h1 h2 h3
 obtain ⟨a',b',c',d',e',f'⟩:=P44 s n v r p h0 h1 h2 h3
 unfold q136 q12 v136_0 v136_1 v136_2 v136_3 v136_4 v136_5 v136_6 v12_0 v12_1 v12_2 v12_3 v12_4 v12_5 v12_6
 rw [a,b,c,d,e,f,a',b',c',d',e',f',(P50 s n v r p h0 h1 h2 h3).1,(P50 s n v r p h0 h1 h2 h3).2,(P17 s n v r p h0 h1 h2 h3).1,(P17 s n v r p h0 h1 h2 h3).2]
 have go:∀ row:Int,q161 v r p x row=true∧q56 v r p x row=true∧v56_0 v r p x row=v161_0 v r p x row∧v56_1 v r p x row=v161_1 v r p x row∧v56_2 v r p x row=v161_2 v r p x row∧v56_4 v r p x row=v161_4 v r p x row ∧
   (v161_4 v r p x row=true→(v161_0 v r p x row).length≤1048576∧(v161_1 v r p x row).length≤1048576∧(v161_2 v r p x row).length≤1048576∧v.length<64):=fun row=>same161 v r p x row h1 h2 h3
 have st:∀ y:AV,decide ((s.length+[y].length)*32≤140737488355328)=true∧decide (s.length+[y].length≤140737488355328)=true:=fun y=>⟨decide_eq_true (by simp only [List.length_singleton];omega),decide_eq_true (by simp only [List.length_singleton];omega)⟩
 have hsv:isS s n v r p=true→(s.length:Int)=v.length:=fun h=>by
  unfold isS at h
  simp only [Bool.and_eq_true,decide_eq_true_eq] at h
  exact h.2.1
 cases hS:isS s n v r p with
 | false=>exact ⟨rfl,rfl,rfl,rfl,rfl,rfl,rfl,rfl,rfl,by simp only [Bool.not_false,cond_true];omega,h1,h2,h3⟩
 | true =>
  cases decide (n ≥ 1000) with
  | true=>exact ⟨rfl,rfl,rfl,rfl,rfl,rfl,rfl,rfl,rfl,by simp only [Bool.not_true,cond_false,cond_true];omega,h1,h2,h3⟩
  | false =>
   by_cases hl:(s.length:Int) > 0
   ·have w1:IntKind.i64.wrap ((s.length:Int) - 1)=s.length - 1:=wrap_in (by omega) (by omega)
    have c1:decide (0≤(s.length:Int) - 1)=true:=decide_eq_true (by omega)
    have c2:decide ((s.length:Int) - 1<s.length)=true:=decide_eq_true (by omega)
    rw [decide_eq_true hl,w1,c1,c2]
    generalize IntKind.i64.wrap (fI (s.getD ((s.length:Int) - 1).toNat AV.undef) 1+1)=row
    obtain ⟨g1,g2,g3,g4,g5,g6,g7⟩:=go row
    rw [g1,g2,g3,g4,g5,g6]
    simp only [(st _).1,(st _).2]
    cases hv:v161_4 v r p x row with
    | false=>exact ⟨by first|trivial|rfl,by first|trivial|rfl,by first|trivial|rfl,by first|trivial|rfl,by first|trivial|rfl,by first|trivial|rfl,by first|trivial|rfl,by first|trivial|rfl,by first|trivial|rfl,by simp only [Bool.not_true,Bool.not_false,cond_false,cond_true];omega,h1,h2,h3⟩
    | true =>
     obtain ⟨k1,k2,k3,k4⟩:=g7 hv
     have hse:=hsv hS
     exact ⟨by first|trivial|rfl,by first|trivial|rfl,by first|trivial|rfl,by first|trivial|rfl,by first|trivial|rfl,by first|trivial|rfl,by first|trivial|rfl,by first|trivial|rfl,by first|trivial|rfl,by simp only [Bool.not_true,cond_false,cond_true,List.length_append,List.length_singleton];omega,k1,k2,k3⟩
   ·rw [decide_eq_false hl]
    obtain ⟨g1,g2,g3,g4,g5,g6,g7⟩:=go 0
    rw [g1,g2,g3,g4,g5,g6]
    simp only [(st _).1,(st _).2]
    cases hv:v161_4 v r p x 0 with
    | false=>exact ⟨by first|trivial|rfl,by first|trivial|rfl,by first|trivial|rfl,by first|trivial|rfl,by first|trivial|rfl,by first|trivial|rfl,by first|trivial|rfl,by first|trivial|rfl,by first|trivial|rfl,by simp only [Bool.not_true,Bool.not_false,cond_false,cond_true];omega,h1,h2,h3⟩
    | true =>
     obtain ⟨k1,k2,k3,k4⟩:=g7 hv
     have hse:=hsv hS
     exact ⟨by first|trivial|rfl,by first|trivial|rfl,by first|trivial|rfl,by first|trivial|rfl,by first|trivial|rfl,by first|trivial|rfl,by first|trivial|rfl,by first|trivial|rfl,by first|trivial|rfl,by simp only [Bool.not_true,cond_false,cond_true,List.length_append,List.length_singleton];omega,k1,k2,k3⟩
def pD (ss:List AV) (row:Int) (i:Int):Bool:=decide (fI (ss.getD i.toNat .undef) 1=row) && decide (fI (ss.getD i.toNat .undef) 3 = -1)
def cD (ss:List AV) (now:Int) (i:Int):AV:=AV.agg [AV.int .i64 (fI (ss.getD i.toNat AV.undef) 0),AV.int .i64 (fI (ss.getD i.toNat AV.undef) 1),AV.int .i64 (fI (ss.getD i.toNat AV.undef) 2),AV.int .i64 (now+1)]
theorem run137 (row:Int) (s:List AV) (n:Int) (v r p v' r' p':List AV) (z n':Int) (hs:s.length≤1048576) (hn:0≤n) (hn':n≤1000) :
  runW (R137_0 row s s n v r p v' r' z p' n') (((s.length:Int) - 0).toNat+1) 0=some (ro (findF (pD s row) s.length 0) (.inl ()) fun i => .inr (s.set i.toNat (cD s n i),n+1,n+1)):=by
 refine runW_find (fun i=>i) s.length _ _ _ (fun i h0 hl=>?_) ?_ s.length _ 0 (Int.le_refl 0) (by omega) (by omega)
 ·simp only [R137_0,F137_0,G137_0,h0,hl,decide_true,Bool.and_self,cond_true,pD,cD]
  rw [wrap_in (a:=i+1) (by omega) (by omega),wrap_in (a:=n+1) (by omega) (by omega)]
  cases decide (fI (s.getD i.toNat AV.undef) 1=row) <;> cases decide (fI (s.getD i.toNat AV.undef) 3 = -1) <;> rfl
 ·simp only [R137_0,F137_0,G137_0,Int.lt_irrefl,decide_false,cond_false]
theorem P57 (s:List AV) (row:Int) (hs:s.length≤1048576):q57 s (.int .i64 row)=true∧v57_0 s (.int .i64 row)=ro (findF (pD s row) s.length 0) (-1) id:=by
 have hr:runW (R57_0 s (.int .i64 row) s.length) (((s.length:Int) - 0).toNat+1) 0=some (ro (findF (pD s row) s.length 0) (.inl ()) fun i => .inr i):=by
  refine runW_find (fun i=>i) s.length _ _ _ (fun i h0 hl=>?_) ?_ s.length _ 0 (Int.le_refl 0) (by omega) (by omega)
  ·simp only [R57_0,F57_0,G57_0,h0,hl,decide_true,Bool.and_self,cond_true]
   rw [wrap_in (a:=i+1) (by omega) (by omega)]
   have e:v58_0 (fI (s.getD i.toNat AV.undef) 0) (fI (s.getD i.toNat AV.undef) 1) (fI (s.getD i.toNat AV.undef) 2) (fI (s.getD i.toNat AV.undef) 3) (AV.int .i64 row)=pD s row i:=by
    unfold v58_0 pD
    rw [show fI (AV.int .i64 row) 0=row from rfl]
    cases decide (fI (s.getD i.toNat AV.undef) 1=row) <;> rfl
   rw [e]
  ·simp only [R57_0,F57_0,G57_0,Int.lt_irrefl,decide_false,cond_false]
 unfold q57 v57_0
 rw [hr]
 cases findF (pD s row) s.length 0 <;> exact ⟨rfl,rfl⟩
def DB (s:List AV) (n:Int) (v r p:List AV) (row:Int):Bool:=isS s n v r p && (decide (n<1000) && (findF (pD s row) s.length 0).isSome)
def DS (s:List AV) (n:Int) (v r p:List AV) (row:Int):List AV:=bif DB s n v r p row then ro (findF (pD s row) s.length 0) s (fun i=>s.set i.toNat (cD s n i)) else s
def DN (s:List AV) (n:Int) (v r p:List AV) (row:Int):Int:=bif DB s n v r p row then n+1 else n
theorem DS_len (s:List AV) (n:Int) (v r p:List AV) (row:Int):(DS s n v r p row).length=s.length:=by
 unfold DS
 cases DB s n v r p row
 ·rfl
 ·cases findF (pD s row) s.length 0
  ·rfl
  ·simp [ro]
theorem isS_now {s:List AV} {n:Int} {v r p:List AV} (h:isS s n v r p=true):0≤n∧n≤1000:=by
 unfold isS at h
 simp only [Bool.and_eq_true,decide_eq_true_eq] at h
 exact h.2.2.1
theorem dge (z n:Int):decide (z ≥ n) = !decide (z<n):=by
 by_cases h:z<n
 ·rw [decide_eq_true h,decide_eq_false (by omega)];rfl
 ·rw [decide_eq_false h,decide_eq_true (by omega)];rfl
theorem P137 (s:List AV) (n:Int) (v r p:List AV) (row:Int) (h0:s.length≤1048576) (h1:v.length≤1048576) (h2:r.length≤1048576) (h3:p.length≤1048576) :
  q137 s n v r p row=true∧v137_0 s n v r p row=DS s n v r p row∧v137_1 s n v r p row=DN s n v r p row∧v137_2 s n v r p row=v∧v137_3 s n v r p row=r∧v137_4 s n v r p row=p∧v137_5 s n v r p row=DB s n v r p row:=by
 obtain ⟨a,b,c,d,e,f⟩:=P49 s n v r p h0 h1 h2 h3
 unfold q137 v137_0 v137_1 v137_2 v137_3 v137_4 v137_5 DS DN DB
 rw [a,b,c,d,e,f,(P50 s n v r p h0 h1 h2 h3).1,(P50 s n v r p h0 h1 h2 h3).2,dge]
 cases hS:isS s n v r p with
 | false=>exact ⟨rfl,rfl,rfl,rfl,rfl,rfl,rfl⟩
 | true =>
  cases decide (n<1000) with
  | false=>exact ⟨rfl,rfl,rfl,rfl,rfl,rfl,rfl⟩
  | true =>
   rw [run137 row s n v r p v r p 0 n h0 (isS_now hS).1 (isS_now hS).2]
   cases findF (pD s row) s.length 0 <;> exact ⟨rfl,rfl,rfl,rfl,rfl,rfl,rfl⟩
theorem P14 (s:List AV) (n:Int) (v r p:List AV) (row:Int) (h0:s.length≤1048576) (h1:v.length≤1048576) (h2:r.length≤1048576) (h3:p.length≤1048576) :
  q14 s n v r p row=true∧v14_0 s n v r p row=DS s n v r p row∧v14_1 s n v r p row=DN s n v r p row∧v14_2 s n v r p row=v∧v14_3 s n v r p row=r∧v14_4 s n v r p row=p∧v14_5 s n v r p row=DB s n v r p row:=by
 obtain ⟨a,b,c,d,e,f⟩:=P44 s n v r p h0 h1 h2 h3
 unfold q14 v14_0 v14_1 v14_2 v14_3 v14_4 v14_5 DS DN DB
 rw [a,b,c,d,e,f,(P17 s n v r p h0 h1 h2 h3).1,(P17 s n v r p h0 h1 h2 h3).2,dge,(P57 s row h0).1,(P57 s row h0).2]
 cases hS:isS s n v r p with
 | false=>exact ⟨rfl,rfl,rfl,rfl,rfl,rfl,rfl⟩
 | true =>
  cases decide (n<1000) with
  | false=>exact ⟨rfl,rfl,rfl,rfl,rfl,rfl,rfl⟩
  | true =>
   cases hf:findF (pD s row) s.length 0 with
   | none=>exact ⟨rfl,rfl,rfl,rfl,rfl,rfl,rfl⟩
   | some i =>
    obtain ⟨f1,f2,f3⟩:=findF_some _ _ hf
    have e1:decide (ro (some i) (-1) id<0)=false:=decide_eq_false (by simp [ro];omega)
    have e2:decide (0≤ro (some i) (-1) id)=true:=decide_eq_true (by simp [ro];omega)
    have e3:decide (ro (some i) (-1) id<(s.length:Int))=true:=decide_eq_true (by simp [ro];omega)
    obtain ⟨g1,g2⟩:=isS_now hS
    rw [e1,e2,e3,wrap_in (a:=n+1) (by omega) (by omega)]
    exact ⟨rfl,rfl,rfl,rfl,rfl,rfl,rfl⟩
abbrev D6:=Int × Int × Int × List AV × List AV × List AV
structure DelI (v:Int) (ps:List AV) (n m:Nat) (s s':D6):Prop where
 e:s'=s
 lv:s.2.2.2.1.length=n
 lr:s.2.2.2.2.1.length=n
 lp:s.2.2.2.2.2.length=m
 h0:0≤s.1
 h1:s.1<n
 k0:0≤s.2.2.1
 k1:s.2.2.1≤m
 m0:0≤s.2.1
 m1:s.2.1≤s.2.2.1
 same:∀ j:Nat,s.2.2.1≤j→j<m→s.2.2.2.2.2.getD j .undef=ps.getD j .undef
structure DelJ (n m:Nat) (r r':Int × Int × List AV × List AV × List AV):Prop where
 e:r'=r
 lv:r.2.2.1.length=n
 lr:r.2.2.2.1.length=n
 lp:r.2.2.2.2.length=m
 h0:0≤r.1
 h1:r.1<n
 m0:0≤r.2.1
 m1:r.2.1≤m
theorem getD_set_ne' {xs:List AV} {i j:Nat} {v d:AV} (h:i ≠ j):(xs.set i v).getD j d=xs.getD j d:=by
 simp only [List.getD_eq_getElem?_getD]
 rw [List.getElem?_set_ne h]
theorem stepDel (v:Int) (ps:List AV) (n m:Nat) (hn:n≤1048576) (hm:m≤1048576) (hat:∀ j:Nat,j<m→v<fI (ps.getD j .undef) 0→1≤fI (ps.getD j .undef) 1∧fI (ps.getD j .undef) 1≤n) (s s':D6) (h:DelI v ps n m s s') :
  (∃ a b,R60_0 v s = .next a∧R59_0 v m s' = .next b∧DelI v ps n m a b∧((m:Int) - a.2.2.1).toNat<((m:Int) - s.2.2.1).toNat)∨∃ r r',R60_0 v s = .stop r∧R59_0 v m s' = .stop r'∧DelJ n m r r':=by
 obtain ⟨hole,mv,k,V,Rr,P⟩:=s
 obtain ⟨e,lv,lr,lp,h0,h1,k0,k1,m0,m1,same⟩:=h
 subst e
 simp only at lv lr lp h0 h1 k0 k1 m0 m1 same
 by_cases hk:k<m
 ·have d1:decide (k<(P.length:Int))=true:=decide_eq_true (by omega)
  have d1':decide (k<(m:Int))=true:=decide_eq_true hk
  have d2:decide (0≤k)=true:=decide_eq_true k0
  have wk:IntKind.i64.wrap (k+1)=k+1:=wrap_in (by omega) (by omega)
  by_cases hv:fI (P.getD k.toNat .undef) 0≤v
  ·have d3:decide (fI (P.getD k.toNat .undef) 0≤v)=true:=decide_eq_true hv
   refine .inl ⟨(hole,mv,k+1,V,Rr,P),(hole,mv,k+1,V,Rr,P),?_,?_,⟨rfl,lv,lr,lp,h0,h1,by simp only;omega,by simp only;omega,m0,by simp only;omega,fun j hj=>same j (by simp only at hj;omega)⟩,by simp only;omega⟩
   ·simp only [R60_0,F60_0,G60_0,d1,d2,d3,Bool.and_self,cond_true,wk]
   ·simp only [R59_0,F59_0,G59_0,d1,d1',d2,d3,Bool.and_self,cond_true,wk]
  ·have d3:decide (fI (P.getD k.toNat .undef) 0≤v)=false:=decide_eq_false hv
   have ek:=same k.toNat (by omega) (by omega)
   obtain ⟨a1,a2⟩:=hat k.toNat (by omega) (by rw [← ek];omega)
   rw [← ek] at a1 a2
   generalize hA:fI (P.getD k.toNat .undef) 1=A at *
   generalize hZ:fI (P.getD k.toNat .undef) 0=Z at *
   have wA:IntKind.i64.wrap (A - 1)=A - 1:=wrap_in (by omega) (by omega)
   have hsame:∀ (c:AV) (j:Nat),k+1≤(j:Int)→j<m→(P.set k.toNat c).getD j .undef=ps.getD j .undef:=fun c j hj hjm=>by
    rw [getD_set_ne' (by omega)]
    exact same j (by omega) hjm
   by_cases ha:A - 1=hole
   ·have da:decide (A - 1=hole)=true:=decide_eq_true ha
    have da':decide (hole=A - 1)=true:=decide_eq_true ha.symm
    refine .inl ⟨(A - 1,mv,k+1,V,Rr,P.set k.toNat (AV.agg [AV.int .i64 Z,AV.int .i64 (A - 1)])),(A - 1,mv,k+1,V,Rr,P.set k.toNat (AV.agg [AV.int .i64 Z,AV.int .i64 (A - 1)])),?_,?_,
     ⟨rfl,lv,lr,by simp only [List.length_set];exact lp,by simp only;omega,by simp only;omega,by simp only;omega,by simp only;omega,m0,by simp only;omega,hsame _⟩,by simp only;omega⟩
    ·simp only [R60_0,F60_0,G60_0,d1,d2,d3,hA,hZ,wA,wk,da,Bool.and_self,cond_true,cond_false]
     rw [wrap_in (a:=mv+0) (by omega) (by omega),Int.add_zero]
    ·simp only [R59_0,F59_0,G59_0,d1,d1',d2,d3,hA,hZ,wA,wk,da',Bool.and_self,cond_true,cond_false]
     rw [wrap_in (a:=mv+0) (by omega) (by omega),Int.add_zero]
   ·have da:decide (A - 1=hole)=false:=decide_eq_false ha
    have da':decide (hole=A - 1)=false:=decide_eq_false (fun e=>ha e.symm)
    have c1:decide (0≤A - 1)=true:=decide_eq_true (by omega)
    have c2:decide (A - 1<(V.length:Int))=true:=decide_eq_true (by omega)
    have c3:decide (A - 1<(Rr.length:Int))=true:=decide_eq_true (by omega)
    have c4:decide (0≤hole)=true:=decide_eq_true h0
    have c5:decide (hole<(V.length:Int))=true:=decide_eq_true (by omega)
    have c6:decide (hole<(Rr.length:Int))=true:=decide_eq_true (by omega)
    refine .inl ⟨(A - 1,mv+1,k+1,V.set hole.toNat (AV.agg [AV.int .i64 (fI (V.getD (A - 1).toNat .undef) 0)]),Rr.set hole.toNat (AV.agg [AV.int .i64 (fI (Rr.getD (A - 1).toNat .undef) 0)]),P.set k.toNat (AV.agg [AV.int .i64 Z,AV.int .i64 (A - 1)])),_,?_,?_,
     ⟨rfl,by simp only [List.length_set];exact lv,by simp only [List.length_set];exact lr,by simp only [List.length_set];exact lp,by simp only;omega,by simp only;omega,by simp only;omega,by simp only;omega,by simp only;omega,by simp only;omega,hsame _⟩,by simp only;omega⟩
    ·simp only [R60_0,F60_0,G60_0,d1,d2,d3,hA,hZ,wA,wk,da,c1,c2,c3,c4,c5,c6,Bool.and_self,cond_true,cond_false]
     rw [wrap_in (a:=mv+1) (by omega) (by omega)]
    ·simp only [R59_0,F59_0,G59_0,d1,d1',d2,d3,hA,hZ,wA,wk,da',c1,c2,c3,c4,c5,c6,Bool.and_self,cond_true,cond_false]
     rw [wrap_in (a:=mv+1) (by omega) (by omega)]
 ·have d1:decide (k<(P.length:Int))=false:=decide_eq_false (by omega)
  have d1':decide (k<(m:Int))=false:=decide_eq_false hk
  refine .inr ⟨(hole,mv,V,Rr,P),(hole,mv,V,Rr,P),?_,?_,⟨rfl,lv,lr,lp,h0,h1,m0,by simp only;omega⟩⟩
  ·simp only [R60_0,F60_0,G60_0,d1,cond_false]
  ·simp only [R59_0,F59_0,G59_0,d1',cond_false]
theorem runDel (v:Int) (ps:List AV) (n m:Nat) (hn:n≤1048576) (hm:m≤1048576) (hat:∀ j:Nat,j<m→v<fI (ps.getD j .undef) 0→1≤fI (ps.getD j .undef) 1∧fI (ps.getD j .undef) 1≤n) (s:D6) (h:DelI v ps n m s s) (fuel:Nat) (hf:((m:Int) - s.2.2.1).toNat<fuel) :
  ∃ r,runW (R60_0 v) fuel s=some r∧runW (R59_0 v m) fuel s=some r∧DelJ n m r r:=by
 obtain ⟨r,r',h1,h2,h3⟩:=runW_pair (DelI v ps n m) (DelJ n m) (fun s=>((m:Int) - s.2.2.1).toNat) (stepDel v ps n m hn hm hat) fuel fuel s s h hf hf
 have:=h3.e
 subst this
 exact ⟨_,h1,h2,h3⟩
theorem isC_above {vs rs ps:List AV} (h:isC vs rs ps=true) (i:Int) (h0:0≤i) (h1:i<vs.length) (j:Nat) (hj:j<ps.length) (hv:fI (vs.getD i.toNat .undef) 0<fI (ps.getD j .undef) 0):i<fI (ps.getD j .undef) 1∧fI (ps.getD j .undef) 1≤vs.length:=by
 unfold isC at h
 simp only [Bool.and_eq_true] at h
 have e:=(noneB_iff.1 h.2.2.2.2) (j:Int) (by omega) (by omega)
 unfold badP at e
 rw [Bool.or_eq_false_iff] at e
 obtain ⟨e1,e2⟩:=e
 simp only [badA,v52,Bool.or_eq_false_iff,Bool.not_eq_false',Bool.and_eq_true,decide_eq_true_eq,Int.toNat_natCast] at e1
 unfold badI at e2
 rw [Bool.not_eq_false'] at e2
 have e3:=(noneB_iff.1 e2) i h0 h1
 simp only [Bool.not_eq_false',beq_iff_eq,Int.toNat_natCast] at e3
 rw [decide_eq_true hv] at e3
 exact ⟨of_decide_eq_true e3.symm,e1.2.1.2⟩
theorem v83_row (rs:List AV) (x:Int) (h:rs.length≤1048576):v83_0 rs x=rowK rs x:=(P83 rs x h).2
theorem same60 (vs rs ps:List AV) (row:Int) (h1:vs.length≤1048576) (h2:rs.length≤1048576) (h3:ps.length≤1048576) :
  q60 vs rs ps row=true∧q59 vs rs ps row=true∧v59_0 vs rs ps row=v60_0 vs rs ps row∧v59_1 vs rs ps row=v60_1 vs rs ps row∧v59_2 vs rs ps row=v60_2 vs rs ps row∧v59_4 vs rs ps row=v60_4 vs rs ps row ∧
   (v60_0 vs rs ps row).length≤1048576∧(v60_1 vs rs ps row).length≤1048576∧(v60_2 vs rs ps row).length≤1048576:=by
 obtain ⟨a1,a2,a3,a4⟩:=P69 vs rs ps h1 h2 h3
 obtain ⟨b1,b2,b3,b4⟩:=P64 vs rs ps h1 h2 h3
 unfold q60 q59 v60_0 v60_1 v60_2 v60_4 v59_0 v59_1 v59_2 v59_4
 rw [a1,a2,a3,a4,b1,b2,b3,b4,(P68 vs rs ps h1 h2 h3).1,(P68 vs rs ps h1 h2 h3).2,(P61 vs rs ps h1 h2 h3).1,(P61 vs rs ps h1 h2 h3).2,(P101 vs rs ps row h2).1,(P101 vs rs ps row h2).2,(P62 vs rs ps row h2).1,(P62 vs rs ps row h2).2,v83_row rs row h2]
 cases hc:isC vs rs ps with
 | false=>exact ⟨rfl,rfl,rfl,rfl,rfl,rfl,h1,h2,h3⟩
 | true =>
  have hl:=isC_len hc
  obtain ⟨k1,k2⟩:=rowK_lt rs row
  by_cases hr:rowK rs row<0
  ·rw [decide_eq_true hr]
   exact ⟨rfl,rfl,rfl,rfl,rfl,rfl,h1,h2,h3⟩
  ·rw [decide_eq_false hr]
   obtain ⟨r,r1,r2,r3⟩:=runDel (fI (vs.getD (rowK rs row).toNat .undef) 0) ps vs.length ps.length h1 h3 (fun j hj hv=>by
     have:=isC_above hc (rowK rs row) (by omega) (by omega) j hj hv
     omega) (rowK rs row,0,0,vs,rs,ps) ⟨rfl,rfl,by simp only;omega,rfl,by simp only;omega,by simp only;omega,by simp,by simp,by simp,by simp,fun _ _ _=>rfl⟩ (((ps.length:Int) - 0).toNat+1) (by simp)
   rw [r1,r2]
   obtain ⟨hole,mv,V,Rr,P⟩:=r
   obtain ⟨_,lv,lr,lp,g0,g1,m0,m1⟩:=r3
   simp only at lv lr lp g0 g1 m0 m1
   have wV:IntKind.i64.wrap ((V.length:Int) - 1)=(V.length:Int) - 1:=wrap_in (by omega) (by omega)
   have wR:IntKind.i64.wrap ((Rr.length:Int) - 1)=(V.length:Int) - 1:=by rw [wrap_in (by omega) (by omega)];omega
   have t0:decide ((0:Int)≤0)=true:=rfl
   have t1:decide (0≤(V.length:Int) - 1)=true:=decide_eq_true (by omega)
   have t2:decide ((V.length:Int) - 1≤(V.length:Int))=true:=decide_eq_true (by omega)
   have t3:decide ((V.length:Int) - 1≤(Rr.length:Int))=true:=decide_eq_true (by omega)
   have t4:decide ((V.length:Int) - 1<(V.length:Int))=true:=decide_eq_true (by omega)
   have t5:decide ((V.length:Int) - 1<(Rr.length:Int))=true:=decide_eq_true (by omega)
   have t6:decide (0≤hole)=true:=decide_eq_true g0
   have t7:decide (hole<(V.length:Int))=true:=decide_eq_true (by omega)
   have t8:decide (hole<(Rr.length:Int))=true:=decide_eq_true (by omega)
   have t9:decide (0≤rowK rs row)=true:=decide_eq_true (by omega)
   have t10:decide (rowK rs row<(vs.length:Int))=true:=decide_eq_true (by omega)
   by_cases ha:(V.length:Int) - 1=hole
   ·have da:decide ((V.length:Int) - 1=hole)=true:=decide_eq_true ha
    have da':decide (hole=(V.length:Int) - 1)=true:=decide_eq_true ha.symm
    simp only [ro,wV,wR,t0,t1,t2,t3,t9,t10,da,da',Bool.and_self,cond_true,cond_false,Bool.not_true,List.length_take,List.length_drop,eq_self,true_and]
    exact ⟨rfl,rfl,by omega,by omega,by omega⟩
   ·have da:decide ((V.length:Int) - 1=hole)=false:=decide_eq_false ha
    have da':decide (hole=(V.length:Int) - 1)=false:=decide_eq_false (fun e=>ha e.symm)
    simp only [ro,List.length_set,wV,wR,t0,t1,t2,t3,t4,t5,t6,t7,t8,t9,t10,da,da',Bool.and_self,cond_true,cond_false,Bool.not_true,List.length_take,List.length_drop,eq_self,true_and]
    exact ⟨rfl,rfl,by omega,by omega,by omega⟩
abbrev X24:=Int × Int × List AV × List AV × List AV × List AV
abbrev Y25:=(Int × List AV × Int × List AV × List AV × List AV × List AV × List AV × Int × List AV × Int) ⊕ (Int × List AV × List AV × Int × List AV × List AV × List AV × List AV × List AV × Int × List AV × Int)
abbrev Y25r:=(List AV × Int × List AV × List AV × List AV × List AV × List AV × Int × List AV × Int) ⊕ (List AV × List AV × Int × List AV × List AV × List AV × List AV × List AV × Int × List AV × Int)
def inY (b:Bool) (s:List AV) (n:Int) (v r p:List AV) (k:Int) (acc V Rr P:List AV):Y25:=bif b then .inl (k,s,n,v,r,p,V,Rr,0,P,n) else .inr (k,acc,s,n,v,r,p,V,Rr,0,P,n)
def inYr (b:Bool) (s:List AV) (n:Int) (v r p:List AV) (acc V Rr P:List AV):Y25r:=bif b then .inl (s,n,v,r,p,V,Rr,0,P,n) else .inr (acc,s,n,v,r,p,V,Rr,0,P,n)
structure VacI (s:List AV) (n:Int) (v r p:List AV) (x:X24) (y:Y25):Prop where
 ey:∃ b,(b=true→x.2.2.1=[])∧y=inY b s n v r p x.2.1 x.2.2.1 x.2.2.2.1 x.2.2.2.2.1 x.2.2.2.2.2
 k0:0≤x.2.1
 k1:x.2.1≤s.length
 c0:0≤x.1
 c1:x.1+x.2.2.1.length=x.2.1
 lv:x.2.2.2.1.length≤1048576
 lr:x.2.2.2.2.1.length≤1048576
 lp:x.2.2.2.2.2.length≤1048576
structure VacJ (s:List AV) (n:Int) (v r p:List AV) (x:Int × List AV × List AV × List AV × List AV) (y:Y25r):Prop where
 ey:∃ b,(b=true→x.2.1=[])∧y=inYr b s n v r p x.2.1 x.2.2.1 x.2.2.2.1 x.2.2.2.2
 c0:0≤x.1
 c1:x.1+x.2.1.length=s.length
 lv:x.2.2.1.length≤1048576
 lr:x.2.2.2.1.length≤1048576
 lp:x.2.2.2.2.length≤1048576
theorem room_app (X:List AV) (a:AV) (h:X.length≤1048576):(decide ((X.length+[a].length)*32≤140737488355328) && decide (X.length+[a].length≤140737488355328))=true:=by
 simp only [List.length_singleton,Bool.and_eq_true,decide_eq_true_eq]
 omega
theorem room_one (a:AV):(decide (([a].length)*32≤140737488355328) && decide (([a].length)≤140737488355328))=true:=by
 simp
theorem stepVac (old:Int) (s:List AV) (n:Int) (v r p:List AV) (v1 r1 p1:List AV) (z n1:Int) (hs:s.length≤1048576) (x:X24) (y:Y25) (h:VacI s n v r p x y) :
  (∃ a b,R16_0 old s n v1 r1 p1 z n1 x = .next a∧R15_0 old s s.length y = .next b∧VacI s n v r p a b∧((s.length:Int) - a.2.1).toNat<((s.length:Int) - x.2.1).toNat)∨∃ a b,R16_0 old s n v1 r1 p1 z n1 x = .stop a∧R15_0 old s s.length y = .stop b∧VacJ s n v r p a b:=by
 obtain ⟨cnt,k,acc,V,Rr,P⟩:=x
 obtain ⟨⟨b,hb,rfl⟩,k0,k1,c0,c1,lv,lr,lp⟩:=h
 simp only at hb k0 k1 c0 c1 lv lr lp
 by_cases hk:k<s.length
 ·have d1:decide (k<(s.length:Int))=true:=decide_eq_true hk
  have d2:decide (0≤k)=true:=decide_eq_true k0
  have wk:IntKind.i64.wrap (k+1)=k+1:=wrap_in (by omega) (by omega)
  have wc:IntKind.i64.wrap (cnt+1)=cnt+1:=wrap_in (by omega) (by omega)
  cases hkeep:decide (fI (s.getD k.toNat AV.undef) 3 = -1) || decide (fI (s.getD k.toNat AV.undef) 3 > old) with
  | true =>
   refine .inl ⟨(cnt,k+1,acc++[AV.agg [AV.int .i64 (fI (s.getD k.toNat AV.undef) 0),AV.int .i64 (fI (s.getD k.toNat AV.undef) 1),AV.int .i64 (fI (s.getD k.toNat AV.undef) 2),AV.int .i64 (fI (s.getD k.toNat AV.undef) 3)]],V,Rr,P),
    inY false s n v r p (k+1) (acc++[AV.agg [AV.int .i64 (fI (s.getD k.toNat AV.undef) 0),AV.int .i64 (fI (s.getD k.toNat AV.undef) 1),AV.int .i64 (fI (s.getD k.toNat AV.undef) 2),AV.int .i64 (fI (s.getD k.toNat AV.undef) 3)]]) V Rr P,?_,?_,⟨⟨false,(fun h=>by cases h),rfl⟩,by simp only;omega,by simp only;omega,c0,by simp only [List.length_append,List.length_singleton];omega,lv,lr,lp⟩,by simp only;omega⟩
   ·simp only [R16_0,F16_0,G16_0,d1,d2,wk,room_app acc _ (by omega:acc.length≤1048576),Bool.and_self,cond_true]
    cases h1:decide (fI (s.getD k.toNat AV.undef) 3 = -1) with
    | true=>rfl
    | false =>
     rw [h1,Bool.false_or] at hkeep
     rw [hkeep]
     rfl
   ·cases b with
    | true =>
     rw [hb rfl]
     simp only [R15_0,inY,cond_true,cond_false,sumE,F15_0_s0,G15_0_s0,d1,d2,wk,room_one,Bool.and_self,List.nil_append]
     cases h1:decide (fI (s.getD k.toNat AV.undef) 3 = -1) with
     | true=>rfl
     | false =>
      rw [h1,Bool.false_or] at hkeep
      rw [hkeep]
      rfl
    | false =>
     simp only [R15_0,inY,cond_true,cond_false,sumE,F15_0_s1,G15_0_s1,d1,d2,wk,room_app acc _ (by omega:acc.length≤1048576),Bool.and_self]
     cases h1:decide (fI (s.getD k.toNat AV.undef) 3 = -1) with
     | true=>rfl
     | false =>
      rw [h1,Bool.false_or] at hkeep
      rw [hkeep]
      rfl
  | false =>
   rw [Bool.or_eq_false_iff] at hkeep
   obtain ⟨e1,e2⟩:=hkeep
   obtain ⟨g1,g2,g3,g4,g5,_,g6,g7,g8⟩:=same60 V Rr P (fI (s.getD k.toNat AV.undef) 1) lv lr lp
   refine .inl ⟨(cnt+1,k+1,acc,v60_0 V Rr P (fI (s.getD k.toNat AV.undef) 1),v60_1 V Rr P (fI (s.getD k.toNat AV.undef) 1),v60_2 V Rr P (fI (s.getD k.toNat AV.undef) 1)),
    inY b s n v r p (k+1) acc (v60_0 V Rr P (fI (s.getD k.toNat AV.undef) 1)) (v60_1 V Rr P (fI (s.getD k.toNat AV.undef) 1)) (v60_2 V Rr P (fI (s.getD k.toNat AV.undef) 1)),?_,?_,⟨⟨b,hb,rfl⟩,by simp only;omega,by simp only;omega,by simp only;omega,by simp only;omega,g6,g7,g8⟩,by simp only;omega⟩
   ·simp only [R16_0,F16_0,G16_0,d1,d2,wk,wc,e1,e2,g1,Bool.and_self,cond_true,cond_false]
   ·cases b with
    | true=>simp only [R15_0,inY,cond_true,cond_false,sumE,F15_0_s0,G15_0_s0,d1,d2,wk,e1,e2,g2,g3,g4,g5,Bool.and_self]
    | false=>simp only [R15_0,inY,cond_true,cond_false,sumE,F15_0_s1,G15_0_s1,d1,d2,wk,e1,e2,g2,g3,g4,g5,Bool.and_self]
 ·have d1:decide (k<(s.length:Int))=false:=decide_eq_false hk
  refine .inr ⟨(cnt,acc,V,Rr,P),inYr b s n v r p acc V Rr P,?_,?_,⟨⟨b,hb,rfl⟩,c0,by simp only;omega,lv,lr,lp⟩⟩
  ·simp only [R16_0,F16_0,G16_0,d1,cond_false]
  ·cases b with
   | true=>simp only [R15_0,inY,inYr,cond_true,cond_false,sumE,F15_0_s0,G15_0_s0,d1]
   | false=>simp only [R15_0,inY,inYr,cond_true,cond_false,sumE,F15_0_s1,G15_0_s1,d1]
theorem same16 (s:List AV) (n:Int) (v r p:List AV) (old:Int) (h0:s.length≤1048576) (h1:v.length≤1048576) (h2:r.length≤1048576) (h3:p.length≤1048576) :
  q16 s n v r p old=true∧q15 s n v r p old=true∧v15_0 s n v r p old=v16_0 s n v r p old∧v15_1 s n v r p old=v16_1 s n v r p old∧v15_2 s n v r p old=v16_2 s n v r p old∧v15_3 s n v r p old=v16_3 s n v r p old∧v15_4 s n v r p old=v16_4 s n v r p old∧v15_5 s n v r p old=v16_5 s n v r p old ∧
   (v16_0 s n v r p old).length≤1048576∧(v16_2 s n v r p old).length≤1048576∧(v16_3 s n v r p old).length≤1048576∧(v16_4 s n v r p old).length≤1048576:=by
 obtain ⟨a,b,c,d,e,f⟩:=P49 s n v r p h0 h1 h2 h3
 obtain ⟨a',b',c',d',e',f'⟩:=P44 s n v r p h0 h1 h2 h3
 unfold q16 q15 v16_0 v16_1 v16_2 v16_3 v16_4 v16_5 v15_0 v15_1 v15_2 v15_3 v15_4 v15_5
 rw [a,b,c,d,e,f,a',b',c',d',e',f',(P50 s n v r p h0 h1 h2 h3).1,(P50 s n v r p h0 h1 h2 h3).2,(P17 s n v r p h0 h1 h2 h3).1,(P17 s n v r p h0 h1 h2 h3).2]
 cases hS:isS s n v r p with
 | false=>exact ⟨rfl,rfl,rfl,rfl,rfl,rfl,rfl,rfl,h0,h1,h2,h3⟩
 | true =>
  obtain ⟨x,y,x1,y1,hj⟩:=runW_pair (VacI s n v r p) (VacJ s n v r p) (fun x=>((s.length:Int) - x.2.1).toNat) (stepVac old s n v r p v r p 0 n h0) (((s.length:Int) - 0).toNat+1) (((s.length:Int) - 0).toNat+1) (0,0,[],v,r,p) (inY true s n v r p 0 [] v r p)
   ⟨⟨true,fun _=>rfl,rfl⟩,by simp,by simp,by simp,by simp,h1,h2,h3⟩ (by simp) (by simp)
  simp only [inY,cond_true] at y1
  rw [x1,y1]
  obtain ⟨cnt,acc,V,Rr,P⟩:=x
  obtain ⟨⟨b,hb,rfl⟩,c0,c1,lv,lr,lp⟩:=hj
  simp only at hb c0 c1 lv lr lp
  have hacc:acc.length≤1048576:=by omega
  cases b with
  | true =>
   have hn:=hb rfl
   subst hn
   have w:IntKind.i64.wrap ((s.length:Int) - 0)=cnt:=by
    rw [wrap_in (by omega) (by omega)]
    simp only [List.length_nil] at c1
    omega
   simp only [ro,inYr,cond_true,cond_false,sumE,Bool.not_true,Bool.and_self,w,true_and]
   exact ⟨hacc,lv,lr,lp⟩
  | false =>
   have w:IntKind.i64.wrap ((s.length:Int) - (acc.length:Int))=cnt:=by
    rw [wrap_in (by omega) (by omega)]
    omega
   simp only [ro,inYr,cond_true,cond_false,sumE,Bool.not_true,Bool.and_self,w,true_and]
   exact ⟨hacc,lv,lr,lp⟩
end Go.Proofs.YtbmfgibbjchijaaGreat

namespace Go.Proofs.YtbmfgibbjchijaaGreat
open Go Go.Proofs.VE
set_option linter.unusedVariables false
set_option linter.unusedSimpArgs false
def ints (xs:List AV):List Int:=xs.map fun x=>fI x 0
theorem ints_len (xs:List AV):(ints xs).length=xs.length:=List.length_map _
theorem ints_el (xs:List AV) (k:Int) (h0:0≤k) (h1:k<xs.length):(ints xs)[k.toNat]?=some (el xs k):=by
 unfold ints el
 rw [List.getElem?_map,List.getD_eq_getElem?_getD,List.getElem?_eq_getElem (by omega)]
 rfl
theorem ints_get (xs:List AV) (k:Nat) (h:k<(ints xs).length):(ints xs)[k]=el xs k:=by
 rw [ints_len] at h
 have:=ints_el xs k (by omega) (by omega)
 rw [show ((k:Int)).toNat=k by omega,List.getElem?_eq_getElem (by rw [ints_len];exact h)] at this
 exact Option.some.inj this
def srt (xs:List AV):List Int:=(ints xs).mergeSort fun x y=>decide (x≤y)
def asc (xs:List AV) (n:Int):Prop:=∀ a b:Int,0≤a→a<b→b<n→el xs a≤el xs b
theorem srt_pair (xs:List AV):(srt xs).Pairwise fun x y=>decide (x≤y)=true :=
 List.pairwise_mergeSort (le:=fun x y=>decide (x≤y)) (fun a b c h1 h2=>by simp only [decide_eq_true_eq] at *;omega) (fun a b=>by simp only [Bool.or_eq_true,decide_eq_true_eq];omega) _
theorem srt_of {xs ys:List AV} (hp:(ints ys).Perm (ints xs)) (ha:asc ys ys.length):ints ys=srt xs:=by
 refine List.Perm.eq_of_pairwise (le:=fun x y=>decide (x≤y)=true) (fun a b _ _ h1 h2=>by simp only [decide_eq_true_eq] at h1 h2;omega) ?_ (srt_pair xs) (hp.trans (List.mergeSort_perm _ _).symm)
 rw [List.pairwise_iff_getElem]
 intro i j hi hj hij
 rw [ints_len] at hi hj
 rw [ints_get ys i (by rw [ints_len];exact hi),ints_get ys j (by rw [ints_len];exact hj),decide_eq_true_eq]
 exact ha i j (by omega) (by omega) (by omega)
theorem ints_sw (i j:Int) (xs:List AV) (i0:0≤i) (i1:i<xs.length) (j0:0≤j) (j1:j<xs.length):(ints (v122_0 i j xs)).Perm (ints xs):=by
 have e:ints (v122_0 i j xs)=((ints xs).set i.toNat ((ints xs)[j.toNat]'(by rw [ints_len];omega))).set j.toNat ((ints xs)[i.toNat]'(by rw [ints_len];omega)):=by
  rw [ints_get xs j.toNat,ints_get xs i.toNat,show ((i.toNat:Nat):Int)=i by omega,show ((j.toNat:Nat):Int)=j by omega]
  unfold v122_0 ints
  rw [List.map_set,List.map_set]
  rfl
 rw [e]
 exact List.set_set_perm _ _
theorem run77i (t i:Int) (h:List AV) (hn:h.length≤1048576) (i0:0≤i) (i1:i<h.length) (ha:asc h i) :
  ∃ r,runW (R77_2 t) ((i - 0).toNat+1) (i,h)=some r∧r.length=h.length∧(ints r).Perm (ints h)∧asc r (i+1):=by
 refine runW_ends (f:=R77_2 t) (fun s:Int × List AV=>0≤s.1∧s.1≤i∧s.2.length=h.length∧(ints s.2).Perm (ints h)∧∀ a b:Int,0≤a→a<b→b≤i→b ≠ s.1→el s.2 a≤el s.2 b) (fun r=>r.length=h.length∧(ints r).Perm (ints h)∧asc r (i+1)) (fun s=>s.1.toNat) (fun s hI=>?_) _ (i,h)
  ⟨i0,Int.le_refl _,rfl,List.Perm.refl _,fun a b a0 ab bi bn=>ha a b a0 ab (by simp only at bn;omega)⟩ (by simp only;omega)
 obtain ⟨k,x⟩:=s
 obtain ⟨k0,k1,hl,hp,hI⟩:=hI
 simp only at k0 k1 hl hp hI
 by_cases hk:k > 0
 ·have d1:decide (k > 0)=true:=decide_eq_true hk
  have wk:IntKind.i64.wrap (k - 1)=k - 1:=wrap_in (by omega) (by omega)
  have d2:decide (0≤k - 1)=true:=decide_eq_true (by omega)
  have d3:decide (k - 1<(x.length:Int))=true:=decide_eq_true (by omega)
  have d4:decide (0≤k)=true:=decide_eq_true k0
  have d5:decide (k<(x.length:Int))=true:=decide_eq_true (by omega)
  have f1:fI (x.getD (k - 1).toNat AV.undef) 0=el x (k - 1):=rfl
  have f2:fI (x.getD k.toNat AV.undef) 0=el x k:=rfl
  by_cases hs:el x (k - 1) > el x k
  ·have d6:decide (el x (k - 1) > el x k)=true:=decide_eq_true hs
   have q1:=q122_in (k - 1) k x (by omega) (by omega) k0 (by omega)
   have ev:∀ c:Int,0≤c→el (v122_0 (k - 1) k x) c=if c=k then el x (k - 1) else if c=k - 1 then el x k else el x c:=fun c c0=>el_sw x (k - 1) k c (by omega) (by omega) k0 (by omega) c0
   refine .inl ⟨(k - 1,v122_0 (k - 1) k x),?_,⟨by simp only;omega,by simp only;omega,by simp only;rw [sw_len];exact hl,(ints_sw (k - 1) k x (by omega) (by omega) k0 (by omega)).trans hp,fun a b a0 ab bi bn=>?_⟩,by simp only;omega⟩
   ·simp only [R77_2,F77_2,G77_2,d1,d2,d3,d4,d5,f1,f2,d6,q1,wk,Bool.and_self,cond_true]
   ·simp only at bn ⊢
    rw [ev a a0,ev b (by omega)]
    by_cases e1:b=k
    ·rw [if_pos e1]
     by_cases e2:a=k - 1
     ·rw [if_neg (by omega),if_pos e2];omega
     ·rw [if_neg (by omega),if_neg e2]
      exact hI a (k - 1) a0 (by omega) (by omega) (by omega)
    ·rw [if_neg e1,if_neg bn]
     by_cases e2:a=k
     ·rw [if_pos e2]
      exact hI (k - 1) b (by omega) (by omega) bi e1
     ·rw [if_neg e2]
      by_cases e3:a=k - 1
      ·rw [if_pos e3]
       exact hI k b k0 (by omega) bi e1
      ·rw [if_neg e3]
       exact hI a b a0 ab bi e1
  ·have d6:decide (el x (k - 1) > el x k)=false:=decide_eq_false hs
   refine .inr ⟨x,by simp only [R77_2,F77_2,G77_2,d1,d2,d3,d4,d5,f1,f2,d6,wk,Bool.and_self,cond_true,cond_false],hl,hp,fun a b a0 ab bi=>?_⟩
   by_cases e1:b=k
   ·subst e1
    by_cases e2:a=b - 1
    ·subst e2;omega
    ·have:=hI a (b - 1) a0 (by omega) (by omega) (by omega)
     omega
   ·exact hI a b a0 ab (by omega) e1
 ·have d1:decide (k > 0)=false:=decide_eq_false hk
  exact .inr ⟨x,by simp only [R77_2,F77_2,G77_2,d1,cond_false],hl,hp,fun a b a0 ab bi=>hI a b a0 ab (by omega) (by omega)⟩
theorem P77 (xs:List AV) (h:xs.length≤1048576):q77 xs=true∧(v77_0 xs).length=xs.length∧ints (v77_0 xs)=srt xs:=by
 obtain ⟨r,h1,h2,h3,h4⟩:=runW_ends (f:=R77_0) (fun s:Int × List AV=>1≤s.1∧(s.1≤xs.length∨s.1=1)∧s.2.length=xs.length∧(ints s.2).Perm (ints xs)∧asc s.2 s.1) (fun r=>r.length=xs.length∧(ints r).Perm (ints xs)∧asc r xs.length) (fun s=>((xs.length:Int) - s.1).toNat) (fun s hI=>by
   obtain ⟨i,x⟩:=s
   obtain ⟨i0,i1,hl,hp,ha⟩:=hI
   simp only at i0 i1 hl hp ha
   by_cases hi:i<xs.length
   ·have d1:decide (i<(x.length:Int))=true:=decide_eq_true (by omega)
    have wi:IntKind.i64.wrap (i+1)=i+1:=wrap_in (by omega) (by omega)
    obtain ⟨r,k1,k2,k3,k4⟩:=run77i i i x (by omega) (by omega) (by omega) ha
    refine .inl ⟨(i+1,r),?_,⟨by simp only;omega,by simp only;omega,by simp only;omega,k3.trans hp,k4⟩,by simp only;omega⟩
    simp only [R77_0,F77_0,G77_0,d1,k1,ro,wi,cond_true]
   ·have d1:decide (i<(x.length:Int))=false:=decide_eq_false (by omega)
    exact .inr ⟨x,by simp only [R77_0,F77_0,G77_0,d1,cond_false],hl,hp,fun a b a0 ab hb=>ha a b a0 ab (by omega)⟩) ((((xs.length:Int) - 1).toNat+1)) (1,xs) ⟨Int.le_refl _,.inr rfl,rfl,List.Perm.refl _,fun a b a0 ab hb=>by simp only at hb;omega⟩ (by simp only;omega)
 unfold q77 v77_0
 simp only [List.length_nil,Nat.zero_add,List.nil_append]
 rw [h1,decide_eq_true (by omega:xs.length*8≤140737488355328),decide_eq_true (by omega:xs.length≤140737488355328)]
 exact ⟨rfl,h2,srt_of h3 (by simp only [ro];rw [h2];exact h4)⟩
theorem P82 (xs:List AV) (h:xs.length≤1048576):q82 xs=true∧(v82_0 xs).length=xs.length∧ints (v82_0 xs)=srt xs:=by
 unfold q82 v82_0
 rw [(P108 xs h).1,(P108 xs h).2]
 unfold q128 v128_0
 refine ⟨by rw [decide_eq_true (by omega:xs.length*8≤140737488355328)];rfl,sortL_len xs,?_⟩
 unfold ints sortL srt ints
 rw [List.map_map]
 exact (List.map_congr_left (g:=id) fun x _=>rfl).trans (List.map_id _)
theorem el_ints {xs ys:List AV} (h:ints xs=ints ys) (k:Int) (h0:0≤k) (h1:k<xs.length):el xs k=el ys k:=by
 have hl:xs.length=ys.length:=by rw [← ints_len xs,← ints_len ys,h]
 have a:=ints_el xs k h0 h1
 have b:=ints_el ys k h0 (by omega)
 rw [h,b] at a
 exact (Option.some.inj a).symm
theorem srt_in {xs ys:List AV} (h:ints ys=srt xs):(∀ k:Int,0≤k→k<ys.length→∃ j:Int,0≤j∧j<xs.length∧el xs j=el ys k)∧∀ j:Int,0≤j→j<xs.length→∃ k:Int,0≤k∧k<ys.length∧el ys k=el xs j:=by
 have hp:(ints ys).Perm (ints xs):=by rw [h];exact List.mergeSort_perm _ _
 constructor
 ·intro k k0 k1
  have:el ys k ∈ ints ys:=List.mem_of_getElem? (ints_el ys k k0 k1)
  obtain ⟨j,hj,e⟩:=List.getElem_of_mem (hp.mem_iff.1 this)
  rw [ints_get xs j hj] at e
  rw [ints_len] at hj
  exact ⟨j,by omega,by omega,e⟩
 ·intro j j0 j1
  have:el xs j ∈ ints xs:=List.mem_of_getElem? (ints_el xs j j0 j1)
  obtain ⟨k,hk,e⟩:=List.getElem_of_mem (hp.mem_iff.2 this)
  rw [ints_get ys k hk] at e
  rw [ints_len] at hk
  exact ⟨k,by omega,by omega,e⟩
end Go.Proofs.YtbmfgibbjchijaaGreat
