import Derived.Test.YtmcnplggcedihaaGreatAT1
import Derived.Test.YtmcnplggcedihaaGreatProg
import Derived.KernelRfl
namespace Go.Proofs.YtmcnplggcedihaaGreat
open Go Go.Proofs.VE
set_option linter.unusedVariables false
set_option linter.unusedSimpArgs false
set_option maxRecDepth 100000
set_option maxHeartbeats 4000000
def F72_0_s0 (t2 t3 h0_0 h0_1 h0_2 h2_0 h2_1 h2_2:Int) (h4 h5 h6 h8:List AV):Out ((Int × Int × Int × Int × Int × Int × (List AV) × (List AV) × (List AV) × (List AV)) ⊕ ((List AV) × (List AV) × (List AV) × (List AV) × Int × Int × Int × Int × Int × Int × (List AV) × (List AV) × (List AV))) ((Int × Int × Int × Int × Int × Int × (List AV) × (List AV) × (List AV) × (List AV)) ⊕ ((List AV) × (List AV) × (List AV) × (List AV) × Int × Int × Int × Int × Int × Int × (List AV) × (List AV) × (List AV))):=(bif !decide (h0_0=0) then (bif q83 h4 h5 h6 t2 then (bif q58 h4 h5 h6 t2 then (bif (v58_1 h4 h5 h6 t2) then .stop (.inl (h0_0,h0_1,h0_2,h2_0,h2_1,h2_2,h4,h5,h6,h8))
 else (bif decide (IntKind.i64.wrap ((v83_1 h4 h5 h6 t2) - (v83_0 h4 h5 h6 t2))≤h0_1) then .stop (.inl (h0_0,h0_1,h0_2,h2_0,h2_1,h2_2,h4,h5,h6,h8))
 else (bif q84 h4 h5 h6 h0_0 h0_1 h0_2 (v83_0 h4 h5 h6 t2) (v83_1 h4 h5 h6 t2) then (bif q85 (v84_0 h4 h5 h6 h0_0 h0_1 h0_2 (v83_0 h4 h5 h6 t2) (v83_1 h4 h5 h6 t2)) t3 h4 h5 h6 h8 then (bif q85 (IntKind.i64.wrap ((v84_0 h4 h5 h6 h0_0 h0_1 h0_2 (v83_0 h4 h5 h6 t2) (v83_1 h4 h5 h6 t2))+1)) t3 (v85_0 (v84_0 h4 h5 h6 h0_0 h0_1 h0_2 (v83_0 h4 h5 h6 t2) (v83_1 h4 h5 h6 t2)) t3 h4 h5 h6 h8) (v85_1 (v84_0 h4 h5 h6 h0_0 h0_1 h0_2 (v83_0 h4 h5 h6 t2) (v83_1 h4 h5 h6 t2)) t3 h4 h5 h6 h8) (v85_2 (v84_0 h4 h5 h6 h0_0 h0_1 h0_2 (v83_0 h4 h5 h6 t2) (v83_1 h4 h5 h6 t2)) t3 h4 h5 h6 h8) (v85_6 (v84_0 h4 h5 h6 h0_0 h0_1 h0_2 (v83_0 h4 h5 h6 t2) (v83_1 h4 h5 h6 t2)) t3 h4 h5 h6 h8) then .next (.inr ((v85_0 (IntKind.i64.wrap ((v84_0 h4 h5 h6 h0_0 h0_1 h0_2 (v83_0 h4 h5 h6 t2) (v83_1 h4 h5 h6 t2))+1)) t3 (v85_0 (v84_0 h4 h5 h6 h0_0 h0_1 h0_2 (v83_0 h4 h5 h6 t2) (v83_1 h4 h5 h6 t2)) t3 h4 h5 h6 h8) (v85_1 (v84_0 h4 h5 h6 h0_0 h0_1 h0_2 (v83_0 h4 h5 h6 t2) (v83_1 h4 h5 h6 t2)) t3 h4 h5 h6 h8) (v85_2 (v84_0 h4 h5 h6 h0_0 h0_1 h0_2 (v83_0 h4 h5 h6 t2) (v83_1 h4 h5 h6 t2)) t3 h4 h5 h6 h8) (v85_6 (v84_0 h4 h5 h6 h0_0 h0_1 h0_2 (v83_0 h4 h5 h6 t2) (v83_1 h4 h5 h6 t2)) t3 h4 h5 h6 h8)),(v85_1 (IntKind.i64.wrap ((v84_0 h4 h5 h6 h0_0 h0_1 h0_2 (v83_0 h4 h5 h6 t2) (v83_1 h4 h5 h6 t2))+1)) t3 (v85_0 (v84_0 h4 h5 h6 h0_0 h0_1 h0_2 (v83_0 h4 h5 h6 t2) (v83_1 h4 h5 h6 t2)) t3 h4 h5 h6 h8) (v85_1 (v84_0 h4 h5 h6 h0_0 h0_1 h0_2 (v83_0 h4 h5 h6 t2) (v83_1 h4 h5 h6 t2)) t3 h4 h5 h6 h8) (v85_2 (v84_0 h4 h5 h6 h0_0 h0_1 h0_2 (v83_0 h4 h5 h6 t2) (v83_1 h4 h5 h6 t2)) t3 h4 h5 h6 h8) (v85_6 (v84_0 h4 h5 h6 h0_0 h0_1 h0_2 (v83_0 h4 h5 h6 t2) (v83_1 h4 h5 h6 t2)) t3 h4 h5 h6 h8)),(v85_2 (IntKind.i64.wrap ((v84_0 h4 h5 h6 h0_0 h0_1 h0_2 (v83_0 h4 h5 h6 t2) (v83_1 h4 h5 h6 t2))+1)) t3 (v85_0 (v84_0 h4 h5 h6 h0_0 h0_1 h0_2 (v83_0 h4 h5 h6 t2) (v83_1 h4 h5 h6 t2)) t3 h4 h5 h6 h8) (v85_1 (v84_0 h4 h5 h6 h0_0 h0_1 h0_2 (v83_0 h4 h5 h6 t2) (v83_1 h4 h5 h6 t2)) t3 h4 h5 h6 h8) (v85_2 (v84_0 h4 h5 h6 h0_0 h0_1 h0_2 (v83_0 h4 h5 h6 t2) (v83_1 h4 h5 h6 t2)) t3 h4 h5 h6 h8) (v85_6 (v84_0 h4 h5 h6 h0_0 h0_1 h0_2 (v83_0 h4 h5 h6 t2) (v83_1 h4 h5 h6 t2)) t3 h4 h5 h6 h8)),(v85_6 (IntKind.i64.wrap ((v84_0 h4 h5 h6 h0_0 h0_1 h0_2 (v83_0 h4 h5 h6 t2) (v83_1 h4 h5 h6 t2))+1)) t3 (v85_0 (v84_0 h4 h5 h6 h0_0 h0_1 h0_2 (v83_0 h4 h5 h6 t2) (v83_1 h4 h5 h6 t2)) t3 h4 h5 h6 h8) (v85_1 (v84_0 h4 h5 h6 h0_0 h0_1 h0_2 (v83_0 h4 h5 h6 t2) (v83_1 h4 h5 h6 t2)) t3 h4 h5 h6 h8) (v85_2 (v84_0 h4 h5 h6 h0_0 h0_1 h0_2 (v83_0 h4 h5 h6 t2) (v83_1 h4 h5 h6 t2)) t3 h4 h5 h6 h8) (v85_6 (v84_0 h4 h5 h6 h0_0 h0_1 h0_2 (v83_0 h4 h5 h6 t2) (v83_1 h4 h5 h6 t2)) t3 h4 h5 h6 h8)),(v84_1 h4 h5 h6 h0_0 h0_1 h0_2 (v83_0 h4 h5 h6 t2) (v83_1 h4 h5 h6 t2)),(v84_2 h4 h5 h6 h0_0 h0_1 h0_2 (v83_0 h4 h5 h6 t2) (v83_1 h4 h5 h6 t2)),(v84_3 h4 h5 h6 h0_0 h0_1 h0_2 (v83_0 h4 h5 h6 t2) (v83_1 h4 h5 h6 t2)),h2_0,h2_1,h2_2,(v85_3 (v84_0 h4 h5 h6 h0_0 h0_1 h0_2 (v83_0 h4 h5 h6 t2) (v83_1 h4 h5 h6 t2)) t3 h4 h5 h6 h8),(v85_4 (v84_0 h4 h5 h6 h0_0 h0_1 h0_2 (v83_0 h4 h5 h6 t2) (v83_1 h4 h5 h6 t2)) t3 h4 h5 h6 h8),(v85_5 (v84_0 h4 h5 h6 h0_0 h0_1 h0_2 (v83_0 h4 h5 h6 t2) (v83_1 h4 h5 h6 t2)) t3 h4 h5 h6 h8)))
 else .fail)
 else .fail)
 else .fail)))
 else .fail)
 else .fail)
 else .stop (.inl (h0_0,h0_1,h0_2,h2_0,h2_1,h2_2,h4,h5,h6,h8)))
def F72_0_s1 (t2 t3:Int) (h0 h1 h2 h3:List AV) (h4_0 h4_1 h4_2 h6_0 h6_1 h6_2:Int) (h8 h9 h10:List AV):Out ((Int × Int × Int × Int × Int × Int × (List AV) × (List AV) × (List AV) × (List AV)) ⊕ ((List AV) × (List AV) × (List AV) × (List AV) × Int × Int × Int × Int × Int × Int × (List AV) × (List AV) × (List AV))) ((Int × Int × Int × Int × Int × Int × (List AV) × (List AV) × (List AV) × (List AV)) ⊕ ((List AV) × (List AV) × (List AV) × (List AV) × Int × Int × Int × Int × Int × Int × (List AV) × (List AV) × (List AV))):=(bif !decide (h4_0=0) then (bif q83 h0 h1 h2 t2 then (bif q58 h0 h1 h2 t2 then (bif (v58_1 h0 h1 h2 t2) then .stop (.inr (h0,h1,h2,h3,h4_0,h4_1,h4_2,h6_0,h6_1,h6_2,h8,h9,h10))
 else (bif decide (IntKind.i64.wrap ((v83_1 h0 h1 h2 t2) - (v83_0 h0 h1 h2 t2))≤h4_1) then .stop (.inr (h0,h1,h2,h3,h4_0,h4_1,h4_2,h6_0,h6_1,h6_2,h8,h9,h10))
 else (bif q84 h0 h1 h2 h4_0 h4_1 h4_2 (v83_0 h0 h1 h2 t2) (v83_1 h0 h1 h2 t2) then (bif q85 (v84_0 h0 h1 h2 h4_0 h4_1 h4_2 (v83_0 h0 h1 h2 t2) (v83_1 h0 h1 h2 t2)) t3 h0 h1 h2 h3 then (bif q85 (IntKind.i64.wrap ((v84_0 h0 h1 h2 h4_0 h4_1 h4_2 (v83_0 h0 h1 h2 t2) (v83_1 h0 h1 h2 t2))+1)) t3 (v85_0 (v84_0 h0 h1 h2 h4_0 h4_1 h4_2 (v83_0 h0 h1 h2 t2) (v83_1 h0 h1 h2 t2)) t3 h0 h1 h2 h3) (v85_1 (v84_0 h0 h1 h2 h4_0 h4_1 h4_2 (v83_0 h0 h1 h2 t2) (v83_1 h0 h1 h2 t2)) t3 h0 h1 h2 h3) (v85_2 (v84_0 h0 h1 h2 h4_0 h4_1 h4_2 (v83_0 h0 h1 h2 t2) (v83_1 h0 h1 h2 t2)) t3 h0 h1 h2 h3) (v85_6 (v84_0 h0 h1 h2 h4_0 h4_1 h4_2 (v83_0 h0 h1 h2 t2) (v83_1 h0 h1 h2 t2)) t3 h0 h1 h2 h3) then .next (.inr ((v85_0 (IntKind.i64.wrap ((v84_0 h0 h1 h2 h4_0 h4_1 h4_2 (v83_0 h0 h1 h2 t2) (v83_1 h0 h1 h2 t2))+1)) t3 (v85_0 (v84_0 h0 h1 h2 h4_0 h4_1 h4_2 (v83_0 h0 h1 h2 t2) (v83_1 h0 h1 h2 t2)) t3 h0 h1 h2 h3) (v85_1 (v84_0 h0 h1 h2 h4_0 h4_1 h4_2 (v83_0 h0 h1 h2 t2) (v83_1 h0 h1 h2 t2)) t3 h0 h1 h2 h3) (v85_2 (v84_0 h0 h1 h2 h4_0 h4_1 h4_2 (v83_0 h0 h1 h2 t2) (v83_1 h0 h1 h2 t2)) t3 h0 h1 h2 h3) (v85_6 (v84_0 h0 h1 h2 h4_0 h4_1 h4_2 (v83_0 h0 h1 h2 t2) (v83_1 h0 h1 h2 t2)) t3 h0 h1 h2 h3)),(v85_1 (IntKind.i64.wrap ((v84_0 h0 h1 h2 h4_0 h4_1 h4_2 (v83_0 h0 h1 h2 t2) (v83_1 h0 h1 h2 t2))+1)) t3 (v85_0 (v84_0 h0 h1 h2 h4_0 h4_1 h4_2 (v83_0 h0 h1 h2 t2) (v83_1 h0 h1 h2 t2)) t3 h0 h1 h2 h3) (v85_1 (v84_0 h0 h1 h2 h4_0 h4_1 h4_2 (v83_0 h0 h1 h2 t2) (v83_1 h0 h1 h2 t2)) t3 h0 h1 h2 h3) (v85_2 (v84_0 h0 h1 h2 h4_0 h4_1 h4_2 (v83_0 h0 h1 h2 t2) (v83_1 h0 h1 h2 t2)) t3 h0 h1 h2 h3) (v85_6 (v84_0 h0 h1 h2 h4_0 h4_1 h4_2 (v83_0 h0 h1 h2 t2) (v83_1 h0 h1 h2 t2)) t3 h0 h1 h2 h3)),(v85_2 (IntKind.i64.wrap ((v84_0 h0 h1 h2 h4_0 h4_1 h4_2 (v83_0 h0 h1 h2 t2) (v83_1 h0 h1 h2 t2))+1)) t3 (v85_0 (v84_0 h0 h1 h2 h4_0 h4_1 h4_2 (v83_0 h0 h1 h2 t2) (v83_1 h0 h1 h2 t2)) t3 h0 h1 h2 h3) (v85_1 (v84_0 h0 h1 h2 h4_0 h4_1 h4_2 (v83_0 h0 h1 h2 t2) (v83_1 h0 h1 h2 t2)) t3 h0 h1 h2 h3) (v85_2 (v84_0 h0 h1 h2 h4_0 h4_1 h4_2 (v83_0 h0 h1 h2 t2) (v83_1 h0 h1 h2 t2)) t3 h0 h1 h2 h3) (v85_6 (v84_0 h0 h1 h2 h4_0 h4_1 h4_2 (v83_0 h0 h1 h2 t2) (v83_1 h0 h1 h2 t2)) t3 h0 h1 h2 h3)),(v85_6 (IntKind.i64.wrap ((v84_0 h0 h1 h2 h4_0 h4_1 h4_2 (v83_0 h0 h1 h2 t2) (v83_1 h0 h1 h2 t2))+1)) t3 (v85_0 (v84_0 h0 h1 h2 h4_0 h4_1 h4_2 (v83_0 h0 h1 h2 t2) (v83_1 h0 h1 h2 t2)) t3 h0 h1 h2 h3) (v85_1 (v84_0 h0 h1 h2 h4_0 h4_1 h4_2 (v83_0 h0 h1 h2 t2) (v83_1 h0 h1 h2 t2)) t3 h0 h1 h2 h3) (v85_2 (v84_0 h0 h1 h2 h4_0 h4_1 h4_2 (v83_0 h0 h1 h2 t2) (v83_1 h0 h1 h2 t2)) t3 h0 h1 h2 h3) (v85_6 (v84_0 h0 h1 h2 h4_0 h4_1 h4_2 (v83_0 h0 h1 h2 t2) (v83_1 h0 h1 h2 t2)) t3 h0 h1 h2 h3)),(v84_1 h0 h1 h2 h4_0 h4_1 h4_2 (v83_0 h0 h1 h2 t2) (v83_1 h0 h1 h2 t2)),(v84_2 h0 h1 h2 h4_0 h4_1 h4_2 (v83_0 h0 h1 h2 t2) (v83_1 h0 h1 h2 t2)),(v84_3 h0 h1 h2 h4_0 h4_1 h4_2 (v83_0 h0 h1 h2 t2) (v83_1 h0 h1 h2 t2)),h6_0,h6_1,h6_2,h8,h9,h10))
 else .fail)
 else .fail)
 else .fail)))
 else .fail)
 else .fail)
 else .stop (.inr (h0,h1,h2,h3,h4_0,h4_1,h4_2,h6_0,h6_1,h6_2,h8,h9,h10)))
def R72_0 (t2 t3:Int):((Int × Int × Int × Int × Int × Int × (List AV) × (List AV) × (List AV) × (List AV)) ⊕ ((List AV) × (List AV) × (List AV) × (List AV) × Int × Int × Int × Int × Int × Int × (List AV) × (List AV) × (List AV)))→Out ((Int × Int × Int × Int × Int × Int × (List AV) × (List AV) × (List AV) × (List AV)) ⊕ ((List AV) × (List AV) × (List AV) × (List AV) × Int × Int × Int × Int × Int × Int × (List AV) × (List AV) × (List AV))) ((Int × Int × Int × Int × Int × Int × (List AV) × (List AV) × (List AV) × (List AV)) ⊕ ((List AV) × (List AV) × (List AV) × (List AV) × Int × Int × Int × Int × Int × Int × (List AV) × (List AV) × (List AV))):=sumE (fun s:Int × Int × Int × Int × Int × Int × (List AV) × (List AV) × (List AV) × (List AV)=>F72_0_s0 t2 t3 s.1 s.2.1 s.2.2.1 s.2.2.2.1 s.2.2.2.2.1 s.2.2.2.2.2.1 s.2.2.2.2.2.2.1 s.2.2.2.2.2.2.2.1 s.2.2.2.2.2.2.2.2.1 s.2.2.2.2.2.2.2.2.2) (fun s:(List AV) × (List AV) × (List AV) × (List AV) × Int × Int × Int × Int × Int × Int × (List AV) × (List AV) × (List AV)=>F72_0_s1 t2 t3 s.1 s.2.1 s.2.2.1 s.2.2.2.1 s.2.2.2.2.1 s.2.2.2.2.2.1 s.2.2.2.2.2.2.1 s.2.2.2.2.2.2.2.1 s.2.2.2.2.2.2.2.2.1 s.2.2.2.2.2.2.2.2.2.1 s.2.2.2.2.2.2.2.2.2.2.1 s.2.2.2.2.2.2.2.2.2.2.2.1 s.2.2.2.2.2.2.2.2.2.2.2.2)
def E72_0 (t2 t3:Int):((Int × Int × Int × Int × Int × Int × (List AV) × (List AV) × (List AV) × (List AV)) ⊕ ((List AV) × (List AV) × (List AV) × (List AV) × Int × Int × Int × Int × Int × Int × (List AV) × (List AV) × (List AV)))→St:=sumE (fun s:Int × Int × Int × Int × Int × Int × (List AV) × (List AV) × (List AV) × (List AV)=>⟨[(2,Ai t2),(3,Ai t3),(4,AV.ptr [4] 0 0),(6,AV.ptr [0,6,0] 0 0),(10,AV.ptr [0,10,0] 0 0),(11,AV.ptr [0,11,0] 0 0),(12,AV.ptr [0,12,0] 0 0)],[([0,6,0],⟨true,[],[AV.agg [Ai s.1,Ai s.2.1,Ai s.2.2.1]]⟩),([0,10,0],⟨true,[],[AV.agg [AV.snil,AV.snil,AV.snil]]⟩),([0,11,0],⟨true,[],[AV.agg [Ai s.2.2.2.1,Ai s.2.2.2.2.1,Ai s.2.2.2.2.2.1]]⟩),([0,12,0],⟨true,[],[AV.agg [AV.own [1],AV.own [2],AV.own [3]]]⟩),([1],⟨false,[.int .i64],s.2.2.2.2.2.2.1⟩),([2],⟨false,[.int .i64],s.2.2.2.2.2.2.2.1⟩),([3],⟨false,[.int .i64,.int .i64],s.2.2.2.2.2.2.2.2.1⟩),([4],⟨true,[],[AV.own [5]]⟩),([5],⟨false,[.int .i64,.int .i64,.int .i64,.int .i64,.int .i64],s.2.2.2.2.2.2.2.2.2⟩)]⟩) (fun s:(List AV) × (List AV) × (List AV) × (List AV) × Int × Int × Int × Int × Int × Int × (List AV) × (List AV) × (List AV)=>⟨[(2,Ai t2),(3,Ai t3),(4,AV.ptr [4] 0 0),(6,AV.ptr [0,6,0] 0 0),(10,AV.ptr [0,10,0] 0 0),(11,AV.ptr [0,11,0] 0 0),(12,AV.ptr [0,12,0] 0 0)],[([0,0,12,0],⟨false,[.int .i64],s.1⟩),([0,1,12,0],⟨false,[.int .i64],s.2.1⟩),([0,2,12,0],⟨false,[.int .i64,.int .i64],s.2.2.1⟩),([0,4,7,0],⟨false,[.int .i64,.int .i64,.int .i64,.int .i64,.int .i64],s.2.2.2.1⟩),([0,6,0],⟨true,[],[AV.agg [Ai s.2.2.2.2.1,Ai s.2.2.2.2.2.1,Ai s.2.2.2.2.2.2.1]]⟩),([0,10,0],⟨true,[],[AV.agg [AV.snil,AV.snil,AV.snil]]⟩),([0,11,0],⟨true,[],[AV.agg [Ai s.2.2.2.2.2.2.2.1,Ai s.2.2.2.2.2.2.2.2.1,Ai s.2.2.2.2.2.2.2.2.2.1]]⟩),([0,12,0],⟨true,[],[AV.agg [AV.own [0,0,12,0],AV.own [0,1,12,0],AV.own [0,2,12,0]]]⟩),([1],⟨false,[.int .i64],s.2.2.2.2.2.2.2.2.2.2.1⟩),([2],⟨false,[.int .i64],s.2.2.2.2.2.2.2.2.2.2.2.1⟩),([3],⟨false,[.int .i64,.int .i64],s.2.2.2.2.2.2.2.2.2.2.2.2⟩),([4],⟨true,[],[AV.own [0,4,7,0]]⟩)]⟩)
def K72_0 (t2 t3:Int) (k:Kont):((Int × Int × Int × Int × Int × Int × (List AV) × (List AV) × (List AV) × (List AV)) ⊕ ((List AV) × (List AV) × (List AV) × (List AV) × Int × Int × Int × Int × Int × Int × (List AV) × (List AV) × (List AV)))→Option AV:=sumE (fun p:Int × Int × Int × Int × Int × Int × (List AV) × (List AV) × (List AV) × (List AV)=>k (.exit 0) ⟨[(2,Ai t2),(3,Ai t3),(4,AV.ptr [4] 0 0),(6,AV.ptr [0,6,0] 0 0),(10,AV.ptr [0,10,0] 0 0),(11,AV.ptr [0,11,0] 0 0),(12,AV.ptr [0,12,0] 0 0)],[([0,6,0],⟨true,[],[AV.agg [Ai p.1,Ai p.2.1,Ai p.2.2.1]]⟩),([0,10,0],⟨true,[],[AV.agg [AV.snil,AV.snil,AV.snil]]⟩),([0,11,0],⟨true,[],[AV.agg [Ai p.2.2.2.1,Ai p.2.2.2.2.1,Ai p.2.2.2.2.2.1]]⟩),([0,12,0],⟨true,[],[AV.agg [AV.own [1],AV.own [2],AV.own [3]]]⟩),([1],⟨false,[.int .i64],p.2.2.2.2.2.2.1⟩),([2],⟨false,[.int .i64],p.2.2.2.2.2.2.2.1⟩),([3],⟨false,[.int .i64,.int .i64],p.2.2.2.2.2.2.2.2.1⟩),([4],⟨true,[],[AV.own [5]]⟩),([5],⟨false,[.int .i64,.int .i64,.int .i64,.int .i64,.int .i64],p.2.2.2.2.2.2.2.2.2⟩)]⟩) (fun p:(List AV) × (List AV) × (List AV) × (List AV) × Int × Int × Int × Int × Int × Int × (List AV) × (List AV) × (List AV)=>k (.exit 0) ⟨[(2,Ai t2),(3,Ai t3),(4,AV.ptr [4] 0 0),(6,AV.ptr [0,6,0] 0 0),(10,AV.ptr [0,10,0] 0 0),(11,AV.ptr [0,11,0] 0 0),(12,AV.ptr [0,12,0] 0 0)],[([0,0,12,0],⟨false,[.int .i64],p.1⟩),([0,1,12,0],⟨false,[.int .i64],p.2.1⟩),([0,2,12,0],⟨false,[.int .i64,.int .i64],p.2.2.1⟩),([0,4,7,0],⟨false,[.int .i64,.int .i64,.int .i64,.int .i64,.int .i64],p.2.2.2.1⟩),([0,6,0],⟨true,[],[AV.agg [Ai p.2.2.2.2.1,Ai p.2.2.2.2.2.1,Ai p.2.2.2.2.2.2.1]]⟩),([0,10,0],⟨true,[],[AV.agg [AV.snil,AV.snil,AV.snil]]⟩),([0,11,0],⟨true,[],[AV.agg [Ai p.2.2.2.2.2.2.2.1,Ai p.2.2.2.2.2.2.2.2.1,Ai p.2.2.2.2.2.2.2.2.2.1]]⟩),([0,12,0],⟨true,[],[AV.agg [AV.own [0,0,12,0],AV.own [0,1,12,0],AV.own [0,2,12,0]]]⟩),([1],⟨false,[.int .i64],p.2.2.2.2.2.2.2.2.2.2.1⟩),([2],⟨false,[.int .i64],p.2.2.2.2.2.2.2.2.2.2.2.1⟩),([3],⟨false,[.int .i64,.int .i64],p.2.2.2.2.2.2.2.2.2.2.2.2⟩),([4],⟨true,[],[AV.own [0,4,7,0]]⟩)]⟩)
def l72_0:LModel:=fun _ _ st k=>match st with
 | ⟨[(2,.int .i64 t2),(3,.int .i64 t3),(4,.ptr g0 g1 g2),(6,.ptr g3 g4 g5),(10,.ptr g6 g7 g8),(11,.ptr g9 g10 g11),(12,.ptr g12 g13 g14)],[(g15,⟨true,[],[.agg [.int .i64 h0_0,.int .i64 h0_1,.int .i64 h0_2]]⟩),(g16,⟨true,[],[.agg [.snil,.snil,.snil]]⟩),(g17,⟨true,[],[.agg [.int .i64 h2_0,.int .i64 h2_1,.int .i64 h2_2]]⟩),(g18,⟨true,[],[.agg [.own g19,.own g20,.own g21]]⟩),(g22,⟨false,g23,h4⟩),(g24,⟨false,g25,h5⟩),(g26,⟨false,g27,h6⟩),(g28,⟨true,[],[.own g29]⟩),(g30,⟨false,g31,h8⟩)]⟩=>bif nmEq g0 ([4]) && Nat.beq g1 0 && Nat.beq g2 0 && nmEq g3 ([0,6,0]) && Nat.beq g4 0 && Nat.beq g5 0 && nmEq g6 ([0,10,0]) && Nat.beq g7 0 && Nat.beq g8 0 && nmEq g9 ([0,11,0]) && Nat.beq g10 0 && Nat.beq g11 0 && nmEq g12 ([0,12,0]) && Nat.beq g13 0 && Nat.beq g14 0 && nmEq g15 ([0,6,0]) && nmEq g16 ([0,10,0]) && nmEq g17 ([0,11,0]) && nmEq g18 ([0,12,0]) && nmEq g19 ([1]) && nmEq g20 ([2]) && nmEq g21 ([3]) && nmEq g22 ([1]) && ctsEq g23 ([.int .i64]) && nmEq g24 ([2]) && ctsEq g25 ([.int .i64]) && nmEq g26 ([3]) && ctsEq g27 ([.int .i64,.int .i64]) && nmEq g28 ([4]) && nmEq g29 ([5]) && nmEq g30 ([5]) && ctsEq g31 ([.int .i64,.int .i64,.int .i64,.int .i64,.int .i64]) then ro (runW (R72_0 t2 t3) (2100) (.inl (h0_0,h0_1,h0_2,h2_0,h2_1,h2_2,h4,h5,h6,h8))) none (K72_0 t2 t3 k) else none
 | ⟨[(2,.int .i64 t2),(3,.int .i64 t3),(4,.ptr g0 g1 g2),(6,.ptr g3 g4 g5),(10,.ptr g6 g7 g8),(11,.ptr g9 g10 g11),(12,.ptr g12 g13 g14)],[(g15,⟨false,g16,h0⟩),(g17,⟨false,g18,h1⟩),(g19,⟨false,g20,h2⟩),(g21,⟨false,g22,h3⟩),(g23,⟨true,[],[.agg [.int .i64 h4_0,.int .i64 h4_1,.int .i64 h4_2]]⟩),(g24,⟨true,[],[.agg [.snil,.snil,.snil]]⟩),(g25,⟨true,[],[.agg [.int .i64 h6_0,.int .i64 h6_1,.int .i64 h6_2]]⟩),(g26,⟨true,[],[.agg [.own g27,.own g28,.own g29]]⟩),(g30,⟨false,g31,h8⟩),(g32,⟨false,g33,h9⟩),(g34,⟨false,g35,h10⟩),(g36,⟨true,[],[.own g37]⟩)]⟩=>bif nmEq g0 ([4]) && Nat.beq g1 0 && Nat.beq g2 0 && nmEq g3 ([0,6,0]) && Nat.beq g4 0 && Nat.beq g5 0 && nmEq g6 ([0,10,0]) && Nat.beq g7 0 && Nat.beq g8 0 && nmEq g9 ([0,11,0]) && Nat.beq g10 0 && Nat.beq g11 0 && nmEq g12 ([0,12,0]) && Nat.beq g13 0 && Nat.beq g14 0 && nmEq g15 ([0,0,12,0]) && ctsEq g16 ([.int .i64]) && nmEq g17 ([0,1,12,0]) && ctsEq g18 ([.int .i64]) && nmEq g19 ([0,2,12,0]) && ctsEq g20 ([.int .i64,.int .i64]) && nmEq g21 ([0,4,7,0]) && ctsEq g22 ([.int .i64,.int .i64,.int .i64,.int .i64,.int .i64]) && nmEq g23 ([0,6,0]) && nmEq g24 ([0,10,0]) && nmEq g25 ([0,11,0]) && nmEq g26 ([0,12,0]) && nmEq g27 ([0,0,12,0]) && nmEq g28 ([0,1,12,0]) && nmEq g29 ([0,2,12,0]) && nmEq g30 ([1]) && ctsEq g31 ([.int .i64]) && nmEq g32 ([2]) && ctsEq g33 ([.int .i64]) && nmEq g34 ([3]) && ctsEq g35 ([.int .i64,.int .i64]) && nmEq g36 ([4]) && nmEq g37 ([0,4,7,0]) then ro (runW (R72_0 t2 t3) (2100) (.inr (h0,h1,h2,h3,h4_0,h4_1,h4_2,h6_0,h6_1,h6_2,h8,h9,h10))) none (K72_0 t2 t3 k) else none
 | _=>none
noncomputable def c72:Cfg:=cfg Tryz.prog [(72,0,[2,3,4,6,10,11,12]),(72,999,[10,11]),(72,1000,[2,3,4,6,10,11,12]),(72,1001,[2,3,4,6,10,11,12])] [(58,m58),(83,m83),(84,m84)] [(85,.g m85)] [] [(72,0,l72_0)]
theorem s72_0_s0 (ce:CallE) (t2 t3 h0_0 h0_1 h0_2 h2_0 h2_1 h2_2:Int) (h4 h5 h6 h8:List AV) (next:St→Option AV) (k:Kont):stepA (codeA c72 ce [0] 72 0 (sub [1,1,0,0,0] (body Tryz.f72))) (normA [0] [2,3,4,6,10,11,12]) next ⟨[(2,Ai t2),(3,Ai t3),(4,AV.ptr [4] 0 0),(6,AV.ptr [0,6,0] 0 0),(10,AV.ptr [0,10,0] 0 0),(11,AV.ptr [0,11,0] 0 0),(12,AV.ptr [0,12,0] 0 0)],[([0,6,0],⟨true,[],[AV.agg [Ai h0_0,Ai h0_1,Ai h0_2]]⟩),([0,10,0],⟨true,[],[AV.agg [AV.snil,AV.snil,AV.snil]]⟩),([0,11,0],⟨true,[],[AV.agg [Ai h2_0,Ai h2_1,Ai h2_2]]⟩),([0,12,0],⟨true,[],[AV.agg [AV.own [1],AV.own [2],AV.own [3]]]⟩),([1],⟨false,[.int .i64],h4⟩),([2],⟨false,[.int .i64],h5⟩),([3],⟨false,[.int .i64,.int .i64],h6⟩),([4],⟨true,[],[AV.own [5]]⟩),([5],⟨false,[.int .i64,.int .i64,.int .i64,.int .i64,.int .i64],h8⟩)]⟩ k=(bif !decide (h0_0=0) then (bif q83 h4 h5 h6 t2 then (bif q58 h4 h5 h6 t2 then (bif (v58_1 h4 h5 h6 t2) then k (.exit 0) ⟨[(2,Ai t2),(3,Ai t3),(4,AV.ptr [4] 0 0),(6,AV.ptr [0,6,0] 0 0),(10,AV.ptr [0,10,0] 0 0),(11,AV.ptr [0,11,0] 0 0),(12,AV.ptr [0,12,0] 0 0)],[([0,6,0],⟨true,[],[AV.agg [Ai h0_0,Ai h0_1,Ai h0_2]]⟩),([0,10,0],⟨true,[],[AV.agg [AV.snil,AV.snil,AV.snil]]⟩),([0,11,0],⟨true,[],[AV.agg [Ai h2_0,Ai h2_1,Ai h2_2]]⟩),([0,12,0],⟨true,[],[AV.agg [AV.own [1],AV.own [2],AV.own [3]]]⟩),([1],⟨false,[.int .i64],h4⟩),([2],⟨false,[.int .i64],h5⟩),([3],⟨false,[.int .i64,.int .i64],h6⟩),([4],⟨true,[],[AV.own [5]]⟩),([5],⟨false,[.int .i64,.int .i64,.int .i64,.int .i64,.int .i64],h8⟩)]⟩
 else (bif decide (IntKind.i64.wrap ((v83_1 h4 h5 h6 t2) - (v83_0 h4 h5 h6 t2))≤h0_1) then k (.exit 0) ⟨[(2,Ai t2),(3,Ai t3),(4,AV.ptr [4] 0 0),(6,AV.ptr [0,6,0] 0 0),(10,AV.ptr [0,10,0] 0 0),(11,AV.ptr [0,11,0] 0 0),(12,AV.ptr [0,12,0] 0 0)],[([0,6,0],⟨true,[],[AV.agg [Ai h0_0,Ai h0_1,Ai h0_2]]⟩),([0,10,0],⟨true,[],[AV.agg [AV.snil,AV.snil,AV.snil]]⟩),([0,11,0],⟨true,[],[AV.agg [Ai h2_0,Ai h2_1,Ai h2_2]]⟩),([0,12,0],⟨true,[],[AV.agg [AV.own [1],AV.own [2],AV.own [3]]]⟩),([1],⟨false,[.int .i64],h4⟩),([2],⟨false,[.int .i64],h5⟩),([3],⟨false,[.int .i64,.int .i64],h6⟩),([4],⟨true,[],[AV.own [5]]⟩),([5],⟨false,[.int .i64,.int .i64,.int .i64,.int .i64,.int .i64],h8⟩)]⟩
 else (bif q84 h4 h5 h6 h0_0 h0_1 h0_2 (v83_0 h4 h5 h6 t2) (v83_1 h4 h5 h6 t2) then (bif q85 (v84_0 h4 h5 h6 h0_0 h0_1 h0_2 (v83_0 h4 h5 h6 t2) (v83_1 h4 h5 h6 t2)) t3 h4 h5 h6 h8 then (bif q85 (IntKind.i64.wrap ((v84_0 h4 h5 h6 h0_0 h0_1 h0_2 (v83_0 h4 h5 h6 t2) (v83_1 h4 h5 h6 t2))+1)) t3 (v85_0 (v84_0 h4 h5 h6 h0_0 h0_1 h0_2 (v83_0 h4 h5 h6 t2) (v83_1 h4 h5 h6 t2)) t3 h4 h5 h6 h8) (v85_1 (v84_0 h4 h5 h6 h0_0 h0_1 h0_2 (v83_0 h4 h5 h6 t2) (v83_1 h4 h5 h6 t2)) t3 h4 h5 h6 h8) (v85_2 (v84_0 h4 h5 h6 h0_0 h0_1 h0_2 (v83_0 h4 h5 h6 t2) (v83_1 h4 h5 h6 t2)) t3 h4 h5 h6 h8) (v85_6 (v84_0 h4 h5 h6 h0_0 h0_1 h0_2 (v83_0 h4 h5 h6 t2) (v83_1 h4 h5 h6 t2)) t3 h4 h5 h6 h8) then next ⟨[(2,Ai t2),(3,Ai t3),(4,AV.ptr [4] 0 0),(6,AV.ptr [0,6,0] 0 0),(10,AV.ptr [0,10,0] 0 0),(11,AV.ptr [0,11,0] 0 0),(12,AV.ptr [0,12,0] 0 0)],[([0,0,12,0],⟨false,[.int .i64],(v85_0 (IntKind.i64.wrap ((v84_0 h4 h5 h6 h0_0 h0_1 h0_2 (v83_0 h4 h5 h6 t2) (v83_1 h4 h5 h6 t2))+1)) t3 (v85_0 (v84_0 h4 h5 h6 h0_0 h0_1 h0_2 (v83_0 h4 h5 h6 t2) (v83_1 h4 h5 h6 t2)) t3 h4 h5 h6 h8) (v85_1 (v84_0 h4 h5 h6 h0_0 h0_1 h0_2 (v83_0 h4 h5 h6 t2) (v83_1 h4 h5 h6 t2)) t3 h4 h5 h6 h8) (v85_2 (v84_0 h4 h5 h6 h0_0 h0_1 h0_2 (v83_0 h4 h5 h6 t2) (v83_1 h4 h5 h6 t2)) t3 h4 h5 h6 h8) (v85_6 (v84_0 h4 h5 h6 h0_0 h0_1 h0_2 (v83_0 h4 h5 h6 t2) (v83_1 h4 h5 h6 t2)) t3 h4 h5 h6 h8))⟩),([0,1,12,0],⟨false,[.int .i64],(v85_1 (IntKind.i64.wrap ((v84_0 h4 h5 h6 h0_0 h0_1 h0_2 (v83_0 h4 h5 h6 t2) (v83_1 h4 h5 h6 t2))+1)) t3 (v85_0 (v84_0 h4 h5 h6 h0_0 h0_1 h0_2 (v83_0 h4 h5 h6 t2) (v83_1 h4 h5 h6 t2)) t3 h4 h5 h6 h8) (v85_1 (v84_0 h4 h5 h6 h0_0 h0_1 h0_2 (v83_0 h4 h5 h6 t2) (v83_1 h4 h5 h6 t2)) t3 h4 h5 h6 h8) (v85_2 (v84_0 h4 h5 h6 h0_0 h0_1 h0_2 (v83_0 h4 h5 h6 t2) (v83_1 h4 h5 h6 t2)) t3 h4 h5 h6 h8) (v85_6 (v84_0 h4 h5 h6 h0_0 h0_1 h0_2 (v83_0 h4 h5 h6 t2) (v83_1 h4 h5 h6 t2)) t3 h4 h5 h6 h8))⟩),([0,2,12,0],⟨false,[.int .i64,.int .i64],(v85_2 (IntKind.i64.wrap ((v84_0 h4 h5 h6 h0_0 h0_1 h0_2 (v83_0 h4 h5 h6 t2) (v83_1 h4 h5 h6 t2))+1)) t3 (v85_0 (v84_0 h4 h5 h6 h0_0 h0_1 h0_2 (v83_0 h4 h5 h6 t2) (v83_1 h4 h5 h6 t2)) t3 h4 h5 h6 h8) (v85_1 (v84_0 h4 h5 h6 h0_0 h0_1 h0_2 (v83_0 h4 h5 h6 t2) (v83_1 h4 h5 h6 t2)) t3 h4 h5 h6 h8) (v85_2 (v84_0 h4 h5 h6 h0_0 h0_1 h0_2 (v83_0 h4 h5 h6 t2) (v83_1 h4 h5 h6 t2)) t3 h4 h5 h6 h8) (v85_6 (v84_0 h4 h5 h6 h0_0 h0_1 h0_2 (v83_0 h4 h5 h6 t2) (v83_1 h4 h5 h6 t2)) t3 h4 h5 h6 h8))⟩),([0,4,7,0],⟨false,[.int .i64,.int .i64,.int .i64,.int .i64,.int .i64],(v85_6 (IntKind.i64.wrap ((v84_0 h4 h5 h6 h0_0 h0_1 h0_2 (v83_0 h4 h5 h6 t2) (v83_1 h4 h5 h6 t2))+1)) t3 (v85_0 (v84_0 h4 h5 h6 h0_0 h0_1 h0_2 (v83_0 h4 h5 h6 t2) (v83_1 h4 h5 h6 t2)) t3 h4 h5 h6 h8) (v85_1 (v84_0 h4 h5 h6 h0_0 h0_1 h0_2 (v83_0 h4 h5 h6 t2) (v83_1 h4 h5 h6 t2)) t3 h4 h5 h6 h8) (v85_2 (v84_0 h4 h5 h6 h0_0 h0_1 h0_2 (v83_0 h4 h5 h6 t2) (v83_1 h4 h5 h6 t2)) t3 h4 h5 h6 h8) (v85_6 (v84_0 h4 h5 h6 h0_0 h0_1 h0_2 (v83_0 h4 h5 h6 t2) (v83_1 h4 h5 h6 t2)) t3 h4 h5 h6 h8))⟩),([0,6,0],⟨true,[],[AV.agg [Ai (v84_1 h4 h5 h6 h0_0 h0_1 h0_2 (v83_0 h4 h5 h6 t2) (v83_1 h4 h5 h6 t2)),Ai (v84_2 h4 h5 h6 h0_0 h0_1 h0_2 (v83_0 h4 h5 h6 t2) (v83_1 h4 h5 h6 t2)),Ai (v84_3 h4 h5 h6 h0_0 h0_1 h0_2 (v83_0 h4 h5 h6 t2) (v83_1 h4 h5 h6 t2))]]⟩),([0,10,0],⟨true,[],[AV.agg [AV.snil,AV.snil,AV.snil]]⟩),([0,11,0],⟨true,[],[AV.agg [Ai h2_0,Ai h2_1,Ai h2_2]]⟩),([0,12,0],⟨true,[],[AV.agg [AV.own [0,0,12,0],AV.own [0,1,12,0],AV.own [0,2,12,0]]]⟩),([1],⟨false,[.int .i64],(v85_3 (v84_0 h4 h5 h6 h0_0 h0_1 h0_2 (v83_0 h4 h5 h6 t2) (v83_1 h4 h5 h6 t2)) t3 h4 h5 h6 h8)⟩),([2],⟨false,[.int .i64],(v85_4 (v84_0 h4 h5 h6 h0_0 h0_1 h0_2 (v83_0 h4 h5 h6 t2) (v83_1 h4 h5 h6 t2)) t3 h4 h5 h6 h8)⟩),([3],⟨false,[.int .i64,.int .i64],(v85_5 (v84_0 h4 h5 h6 h0_0 h0_1 h0_2 (v83_0 h4 h5 h6 t2) (v83_1 h4 h5 h6 t2)) t3 h4 h5 h6 h8)⟩),([4],⟨true,[],[AV.own [0,4,7,0]]⟩)]⟩
 else none)
 else none)
 else none)))
 else none)
 else none)
 else k (.exit 0) ⟨[(2,Ai t2),(3,Ai t3),(4,AV.ptr [4] 0 0),(6,AV.ptr [0,6,0] 0 0),(10,AV.ptr [0,10,0] 0 0),(11,AV.ptr [0,11,0] 0 0),(12,AV.ptr [0,12,0] 0 0)],[([0,6,0],⟨true,[],[AV.agg [Ai h0_0,Ai h0_1,Ai h0_2]]⟩),([0,10,0],⟨true,[],[AV.agg [AV.snil,AV.snil,AV.snil]]⟩),([0,11,0],⟨true,[],[AV.agg [Ai h2_0,Ai h2_1,Ai h2_2]]⟩),([0,12,0],⟨true,[],[AV.agg [AV.own [1],AV.own [2],AV.own [3]]]⟩),([1],⟨false,[.int .i64],h4⟩),([2],⟨false,[.int .i64],h5⟩),([3],⟨false,[.int .i64,.int .i64],h6⟩),([4],⟨true,[],[AV.own [5]]⟩),([5],⟨false,[.int .i64,.int .i64,.int .i64,.int .i64,.int .i64],h8⟩)]⟩):=by kernel_rfl
theorem s72_0_s1 (ce:CallE) (t2 t3:Int) (h0 h1 h2 h3:List AV) (h4_0 h4_1 h4_2 h6_0 h6_1 h6_2:Int) (h8 h9 h10:List AV) (next:St→Option AV) (k:Kont):stepA (codeA c72 ce [0] 72 0 (sub [1,1,0,0,0] (body Tryz.f72))) (normA [0] [2,3,4,6,10,11,12]) next ⟨[(2,Ai t2),(3,Ai t3),(4,AV.ptr [4] 0 0),(6,AV.ptr [0,6,0] 0 0),(10,AV.ptr [0,10,0] 0 0),(11,AV.ptr [0,11,0] 0 0),(12,AV.ptr [0,12,0] 0 0)],[([0,0,12,0],⟨false,[.int .i64],h0⟩),([0,1,12,0],⟨false,[.int .i64],h1⟩),([0,2,12,0],⟨false,[.int .i64,.int .i64],h2⟩),([0,4,7,0],⟨false,[.int .i64,.int .i64,.int .i64,.int .i64,.int .i64],h3⟩),([0,6,0],⟨true,[],[AV.agg [Ai h4_0,Ai h4_1,Ai h4_2]]⟩),([0,10,0],⟨true,[],[AV.agg [AV.snil,AV.snil,AV.snil]]⟩),([0,11,0],⟨true,[],[AV.agg [Ai h6_0,Ai h6_1,Ai h6_2]]⟩),([0,12,0],⟨true,[],[AV.agg [AV.own [0,0,12,0],AV.own [0,1,12,0],AV.own [0,2,12,0]]]⟩),([1],⟨false,[.int .i64],h8⟩),([2],⟨false,[.int .i64],h9⟩),([3],⟨false,[.int .i64,.int .i64],h10⟩),([4],⟨true,[],[AV.own [0,4,7,0]]⟩)]⟩ k=(bif !decide (h4_0=0) then (bif q83 h0 h1 h2 t2 then (bif q58 h0 h1 h2 t2 then (bif (v58_1 h0 h1 h2 t2) then k (.exit 0) ⟨[(2,Ai t2),(3,Ai t3),(4,AV.ptr [4] 0 0),(6,AV.ptr [0,6,0] 0 0),(10,AV.ptr [0,10,0] 0 0),(11,AV.ptr [0,11,0] 0 0),(12,AV.ptr [0,12,0] 0 0)],[([0,0,12,0],⟨false,[.int .i64],h0⟩),([0,1,12,0],⟨false,[.int .i64],h1⟩),([0,2,12,0],⟨false,[.int .i64,.int .i64],h2⟩),([0,4,7,0],⟨false,[.int .i64,.int .i64,.int .i64,.int .i64,.int .i64],h3⟩),([0,6,0],⟨true,[],[AV.agg [Ai h4_0,Ai h4_1,Ai h4_2]]⟩),([0,10,0],⟨true,[],[AV.agg [AV.snil,AV.snil,AV.snil]]⟩),([0,11,0],⟨true,[],[AV.agg [Ai h6_0,Ai h6_1,Ai h6_2]]⟩),([0,12,0],⟨true,[],[AV.agg [AV.own [0,0,12,0],AV.own [0,1,12,0],AV.own [0,2,12,0]]]⟩),([1],⟨false,[.int .i64],h8⟩),([2],⟨false,[.int .i64],h9⟩),([3],⟨false,[.int .i64,.int .i64],h10⟩),([4],⟨true,[],[AV.own [0,4,7,0]]⟩)]⟩
 else (bif decide (IntKind.i64.wrap ((v83_1 h0 h1 h2 t2) - (v83_0 h0 h1 h2 t2))≤h4_1) then k (.exit 0) ⟨[(2,Ai t2),(3,Ai t3),(4,AV.ptr [4] 0 0),(6,AV.ptr [0,6,0] 0 0),(10,AV.ptr [0,10,0] 0 0),(11,AV.ptr [0,11,0] 0 0),(12,AV.ptr [0,12,0] 0 0)],[([0,0,12,0],⟨false,[.int .i64],h0⟩),([0,1,12,0],⟨false,[.int .i64],h1⟩),([0,2,12,0],⟨false,[.int .i64,.int .i64],h2⟩),([0,4,7,0],⟨false,[.int .i64,.int .i64,.int .i64,.int .i64,.int .i64],h3⟩),([0,6,0],⟨true,[],[AV.agg [Ai h4_0,Ai h4_1,Ai h4_2]]⟩),([0,10,0],⟨true,[],[AV.agg [AV.snil,AV.snil,AV.snil]]⟩),([0,11,0],⟨true,[],[AV.agg [Ai h6_0,Ai h6_1,Ai h6_2]]⟩),([0,12,0],⟨true,[],[AV.agg [AV.own [0,0,12,0],AV.own [0,1,12,0],AV.own [0,2,12,0]]]⟩),([1],⟨false,[.int .i64],h8⟩),([2],⟨false,[.int .i64],h9⟩),([3],⟨false,[.int .i64,.int .i64],h10⟩),([4],⟨true,[],[AV.own [0,4,7,0]]⟩)]⟩
 else (bif q84 h0 h1 h2 h4_0 h4_1 h4_2 (v83_0 h0 h1 h2 t2) (v83_1 h0 h1 h2 t2) then (bif q85 (v84_0 h0 h1 h2 h4_0 h4_1 h4_2 (v83_0 h0 h1 h2 t2) (v83_1 h0 h1 h2 t2)) t3 h0 h1 h2 h3 then (bif q85 (IntKind.i64.wrap ((v84_0 h0 h1 h2 h4_0 h4_1 h4_2 (v83_0 h0 h1 h2 t2) (v83_1 h0 h1 h2 t2))+1)) t3 (v85_0 (v84_0 h0 h1 h2 h4_0 h4_1 h4_2 (v83_0 h0 h1 h2 t2) (v83_1 h0 h1 h2 t2)) t3 h0 h1 h2 h3) (v85_1 (v84_0 h0 h1 h2 h4_0 h4_1 h4_2 (v83_0 h0 h1 h2 t2) (v83_1 h0 h1 h2 t2)) t3 h0 h1 h2 h3) (v85_2 (v84_0 h0 h1 h2 h4_0 h4_1 h4_2 (v83_0 h0 h1 h2 t2) (v83_1 h0 h1 h2 t2)) t3 h0 h1 h2 h3) (v85_6 (v84_0 h0 h1 h2 h4_0 h4_1 h4_2 (v83_0 h0 h1 h2 t2) (v83_1 h0 h1 h2 t2)) t3 h0 h1 h2 h3) then next ⟨[(2,Ai t2),(3,Ai t3),(4,AV.ptr [4] 0 0),(6,AV.ptr [0,6,0] 0 0),(10,AV.ptr [0,10,0] 0 0),(11,AV.ptr [0,11,0] 0 0),(12,AV.ptr [0,12,0] 0 0)],[([0,0,12,0],⟨false,[.int .i64],(v85_0 (IntKind.i64.wrap ((v84_0 h0 h1 h2 h4_0 h4_1 h4_2 (v83_0 h0 h1 h2 t2) (v83_1 h0 h1 h2 t2))+1)) t3 (v85_0 (v84_0 h0 h1 h2 h4_0 h4_1 h4_2 (v83_0 h0 h1 h2 t2) (v83_1 h0 h1 h2 t2)) t3 h0 h1 h2 h3) (v85_1 (v84_0 h0 h1 h2 h4_0 h4_1 h4_2 (v83_0 h0 h1 h2 t2) (v83_1 h0 h1 h2 t2)) t3 h0 h1 h2 h3) (v85_2 (v84_0 h0 h1 h2 h4_0 h4_1 h4_2 (v83_0 h0 h1 h2 t2) (v83_1 h0 h1 h2 t2)) t3 h0 h1 h2 h3) (v85_6 (v84_0 h0 h1 h2 h4_0 h4_1 h4_2 (v83_0 h0 h1 h2 t2) (v83_1 h0 h1 h2 t2)) t3 h0 h1 h2 h3))⟩),([0,1,12,0],⟨false,[.int .i64],(v85_1 (IntKind.i64.wrap ((v84_0 h0 h1 h2 h4_0 h4_1 h4_2 (v83_0 h0 h1 h2 t2) (v83_1 h0 h1 h2 t2))+1)) t3 (v85_0 (v84_0 h0 h1 h2 h4_0 h4_1 h4_2 (v83_0 h0 h1 h2 t2) (v83_1 h0 h1 h2 t2)) t3 h0 h1 h2 h3) (v85_1 (v84_0 h0 h1 h2 h4_0 h4_1 h4_2 (v83_0 h0 h1 h2 t2) (v83_1 h0 h1 h2 t2)) t3 h0 h1 h2 h3) (v85_2 (v84_0 h0 h1 h2 h4_0 h4_1 h4_2 (v83_0 h0 h1 h2 t2) (v83_1 h0 h1 h2 t2)) t3 h0 h1 h2 h3) (v85_6 (v84_0 h0 h1 h2 h4_0 h4_1 h4_2 (v83_0 h0 h1 h2 t2) (v83_1 h0 h1 h2 t2)) t3 h0 h1 h2 h3))⟩),([0,2,12,0],⟨false,[.int .i64,.int .i64],(v85_2 (IntKind.i64.wrap ((v84_0 h0 h1 h2 h4_0 h4_1 h4_2 (v83_0 h0 h1 h2 t2) (v83_1 h0 h1 h2 t2))+1)) t3 (v85_0 (v84_0 h0 h1 h2 h4_0 h4_1 h4_2 (v83_0 h0 h1 h2 t2) (v83_1 h0 h1 h2 t2)) t3 h0 h1 h2 h3) (v85_1 (v84_0 h0 h1 h2 h4_0 h4_1 h4_2 (v83_0 h0 h1 h2 t2) (v83_1 h0 h1 h2 t2)) t3 h0 h1 h2 h3) (v85_2 (v84_0 h0 h1 h2 h4_0 h4_1 h4_2 (v83_0 h0 h1 h2 t2) (v83_1 h0 h1 h2 t2)) t3 h0 h1 h2 h3) (v85_6 (v84_0 h0 h1 h2 h4_0 h4_1 h4_2 (v83_0 h0 h1 h2 t2) (v83_1 h0 h1 h2 t2)) t3 h0 h1 h2 h3))⟩),([0,4,7,0],⟨false,[.int .i64,.int .i64,.int .i64,.int .i64,.int .i64],(v85_6 (IntKind.i64.wrap ((v84_0 h0 h1 h2 h4_0 h4_1 h4_2 (v83_0 h0 h1 h2 t2) (v83_1 h0 h1 h2 t2))+1)) t3 (v85_0 (v84_0 h0 h1 h2 h4_0 h4_1 h4_2 (v83_0 h0 h1 h2 t2) (v83_1 h0 h1 h2 t2)) t3 h0 h1 h2 h3) (v85_1 (v84_0 h0 h1 h2 h4_0 h4_1 h4_2 (v83_0 h0 h1 h2 t2) (v83_1 h0 h1 h2 t2)) t3 h0 h1 h2 h3) (v85_2 (v84_0 h0 h1 h2 h4_0 h4_1 h4_2 (v83_0 h0 h1 h2 t2) (v83_1 h0 h1 h2 t2)) t3 h0 h1 h2 h3) (v85_6 (v84_0 h0 h1 h2 h4_0 h4_1 h4_2 (v83_0 h0 h1 h2 t2) (v83_1 h0 h1 h2 t2)) t3 h0 h1 h2 h3))⟩),([0,6,0],⟨true,[],[AV.agg [Ai (v84_1 h0 h1 h2 h4_0 h4_1 h4_2 (v83_0 h0 h1 h2 t2) (v83_1 h0 h1 h2 t2)),Ai (v84_2 h0 h1 h2 h4_0 h4_1 h4_2 (v83_0 h0 h1 h2 t2) (v83_1 h0 h1 h2 t2)),Ai (v84_3 h0 h1 h2 h4_0 h4_1 h4_2 (v83_0 h0 h1 h2 t2) (v83_1 h0 h1 h2 t2))]]⟩),([0,10,0],⟨true,[],[AV.agg [AV.snil,AV.snil,AV.snil]]⟩),([0,11,0],⟨true,[],[AV.agg [Ai h6_0,Ai h6_1,Ai h6_2]]⟩),([0,12,0],⟨true,[],[AV.agg [AV.own [0,0,12,0],AV.own [0,1,12,0],AV.own [0,2,12,0]]]⟩),([1],⟨false,[.int .i64],h8⟩),([2],⟨false,[.int .i64],h9⟩),([3],⟨false,[.int .i64,.int .i64],h10⟩),([4],⟨true,[],[AV.own [0,4,7,0]]⟩)]⟩
 else none)
 else none)
 else none)))
 else none)
 else none)
 else k (.exit 0) ⟨[(2,Ai t2),(3,Ai t3),(4,AV.ptr [4] 0 0),(6,AV.ptr [0,6,0] 0 0),(10,AV.ptr [0,10,0] 0 0),(11,AV.ptr [0,11,0] 0 0),(12,AV.ptr [0,12,0] 0 0)],[([0,0,12,0],⟨false,[.int .i64],h0⟩),([0,1,12,0],⟨false,[.int .i64],h1⟩),([0,2,12,0],⟨false,[.int .i64,.int .i64],h2⟩),([0,4,7,0],⟨false,[.int .i64,.int .i64,.int .i64,.int .i64,.int .i64],h3⟩),([0,6,0],⟨true,[],[AV.agg [Ai h4_0,Ai h4_1,Ai h4_2]]⟩),([0,10,0],⟨true,[],[AV.agg [AV.snil,AV.snil,AV.snil]]⟩),([0,11,0],⟨true,[],[AV.agg [Ai h6_0,Ai h6_1,Ai h6_2]]⟩),([0,12,0],⟨true,[],[AV.agg [AV.own [0,0,12,0],AV.own [0,1,12,0],AV.own [0,2,12,0]]]⟩),([1],⟨false,[.int .i64],h8⟩),([2],⟨false,[.int .i64],h9⟩),([3],⟨false,[.int .i64,.int .i64],h10⟩),([4],⟨true,[],[AV.own [0,4,7,0]]⟩)]⟩):=by kernel_rfl
theorem st72_0 (t2 t3:Int) (ce:CallE) (k:Kont) (s:(Int × Int × Int × Int × Int × Int × (List AV) × (List AV) × (List AV) × (List AV)) ⊕ ((List AV) × (List AV) × (List AV) × (List AV) × Int × Int × Int × Int × Int × Int × (List AV) × (List AV) × (List AV))) (next:St→Option AV):stepA (codeA c72 ce [0] 72 0 (sub [1,1,0,0,0] (body Tryz.f72))) (normA [0] [2,3,4,6,10,11,12]) next ((E72_0 t2 t3) s) k=(R72_0 t2 t3 s).el none (fun s=>next ((E72_0 t2 t3) s)) (K72_0 t2 t3 k):=(match s with | .inl s=>(s72_0_s0 ce t2 t3 s.1 s.2.1 s.2.2.1 s.2.2.2.1 s.2.2.2.2.1 s.2.2.2.2.2.1 s.2.2.2.2.2.2.1 s.2.2.2.2.2.2.2.1 s.2.2.2.2.2.2.2.2.1 s.2.2.2.2.2.2.2.2.2 next k).trans (by unfold R72_0;unfold F72_0_s0;simp only [el_cond,el_ro,el_sum,el_fail,el_next,el_stop] <;> rfl) | .inr s=>(s72_0_s1 ce t2 t3 s.1 s.2.1 s.2.2.1 s.2.2.2.1 s.2.2.2.2.1 s.2.2.2.2.2.1 s.2.2.2.2.2.2.1 s.2.2.2.2.2.2.2.1 s.2.2.2.2.2.2.2.2.1 s.2.2.2.2.2.2.2.2.2.1 s.2.2.2.2.2.2.2.2.2.2.1 s.2.2.2.2.2.2.2.2.2.2.2.1 s.2.2.2.2.2.2.2.2.2.2.2.2 next k).trans (by unfold R72_0;unfold F72_0_s1;simp only [el_cond,el_ro,el_sum,el_fail,el_next,el_stop] <;> rfl))
theorem ok72_0 {ce:CallE}:LoopOK c72 ce [0] 72 0 (sub [1,1,0,0,0] (body Tryz.f72)):=by
 intro m hm st k r h
 obtain rfl:l72_0=m:=Option.some.inj hm
 unfold l72_0 at h
 split at h
 ·rename_i t2 t3 g0 g1 g2 g3 g4 g5 g6 g7 g8 g9 g10 g11 g12 g13 g14 g15 h0_0 h0_1 h0_2 g16 g17 h2_0 h2_1 h2_2 g18 g19 g20 g21 g22 g23 h4 g24 g25 h5 g26 g27 h6 g28 g29 g30 g31 h8
  obtain ⟨hg,h⟩:=bif_some h
  simp only [Bool.and_eq_true] at hg
  obtain ⟨⟨⟨⟨⟨⟨⟨⟨⟨⟨⟨⟨⟨⟨⟨⟨⟨⟨⟨⟨⟨⟨⟨⟨⟨⟨⟨⟨⟨⟨⟨q0,q1⟩,q2⟩,q3⟩,q4⟩,q5⟩,q6⟩,q7⟩,q8⟩,q9⟩,q10⟩,q11⟩,q12⟩,q13⟩,q14⟩,q15⟩,q16⟩,q17⟩,q18⟩,q19⟩,q20⟩,q21⟩,q22⟩,q23⟩,q24⟩,q25⟩,q26⟩,q27⟩,q28⟩,q29⟩,q30⟩,q31⟩:=hg
  obtain rfl:=(nmEq_iff _ _).1 q0
  obtain rfl:=Nat.eq_of_beq_eq_true q1
  obtain rfl:=Nat.eq_of_beq_eq_true q2
  obtain rfl:=(nmEq_iff _ _).1 q3
  obtain rfl:=Nat.eq_of_beq_eq_true q4
  obtain rfl:=Nat.eq_of_beq_eq_true q5
  obtain rfl:=(nmEq_iff _ _).1 q6
  obtain rfl:=Nat.eq_of_beq_eq_true q7
  obtain rfl:=Nat.eq_of_beq_eq_true q8
  obtain rfl:=(nmEq_iff _ _).1 q9
  obtain rfl:=Nat.eq_of_beq_eq_true q10
  obtain rfl:=Nat.eq_of_beq_eq_true q11
  obtain rfl:=(nmEq_iff _ _).1 q12
  obtain rfl:=Nat.eq_of_beq_eq_true q13
  obtain rfl:=Nat.eq_of_beq_eq_true q14
  obtain rfl:=(nmEq_iff _ _).1 q15
  obtain rfl:=(nmEq_iff _ _).1 q16
  obtain rfl:=(nmEq_iff _ _).1 q17
  obtain rfl:=(nmEq_iff _ _).1 q18
  obtain rfl:=(nmEq_iff _ _).1 q19
  obtain rfl:=(nmEq_iff _ _).1 q20
  obtain rfl:=(nmEq_iff _ _).1 q21
  obtain rfl:=(nmEq_iff _ _).1 q22
  obtain rfl:=ctsEq_eq _ _ q23
  obtain rfl:=(nmEq_iff _ _).1 q24
  obtain rfl:=ctsEq_eq _ _ q25
  obtain rfl:=(nmEq_iff _ _).1 q26
  obtain rfl:=ctsEq_eq _ _ q27
  obtain rfl:=(nmEq_iff _ _).1 q28
  obtain rfl:=(nmEq_iff _ _).1 q29
  obtain rfl:=(nmEq_iff _ _).1 q30
  obtain rfl:=ctsEq_eq _ _ q31
  refine ⟨(2100),?_⟩
  rw [← h]
  exact loop_run (E72_0 t2 t3) (K72_0 t2 t3 k) (st72_0 t2 t3 ce k) _ (.inl (h0_0,h0_1,h0_2,h2_0,h2_1,h2_2,h4,h5,h6,h8))
 ·rename_i t2 t3 g0 g1 g2 g3 g4 g5 g6 g7 g8 g9 g10 g11 g12 g13 g14 g15 g16 h0 g17 g18 h1 g19 g20 h2 g21 g22 h3 g23 h4_0 h4_1 h4_2 g24 g25 h6_0 h6_1 h6_2 g26 g27 g28 g29 g30 g31 h8 g32 g33 h9 g34 g35 h10 g36 g37
  obtain ⟨hg,h⟩:=bif_some h
  simp only [Bool.and_eq_true] at hg
  obtain ⟨⟨⟨⟨⟨⟨⟨⟨⟨⟨⟨⟨⟨⟨⟨⟨⟨⟨⟨⟨⟨⟨⟨⟨⟨⟨⟨⟨⟨⟨⟨⟨⟨⟨⟨⟨⟨q0,q1⟩,q2⟩,q3⟩,q4⟩,q5⟩,q6⟩,q7⟩,q8⟩,q9⟩,q10⟩,q11⟩,q12⟩,q13⟩,q14⟩,q15⟩,q16⟩,q17⟩,q18⟩,q19⟩,q20⟩,q21⟩,q22⟩,q23⟩,q24⟩,q25⟩,q26⟩,q27⟩,q28⟩,q29⟩,q30⟩,q31⟩,q32⟩,q33⟩,q34⟩,q35⟩,q36⟩,q37⟩:=hg
  obtain rfl:=(nmEq_iff _ _).1 q0
  obtain rfl:=Nat.eq_of_beq_eq_true q1
  obtain rfl:=Nat.eq_of_beq_eq_true q2
  obtain rfl:=(nmEq_iff _ _).1 q3
  obtain rfl:=Nat.eq_of_beq_eq_true q4
  obtain rfl:=Nat.eq_of_beq_eq_true q5
  obtain rfl:=(nmEq_iff _ _).1 q6
  obtain rfl:=Nat.eq_of_beq_eq_true q7
  obtain rfl:=Nat.eq_of_beq_eq_true q8
  obtain rfl:=(nmEq_iff _ _).1 q9
  obtain rfl:=Nat.eq_of_beq_eq_true q10
  obtain rfl:=Nat.eq_of_beq_eq_true q11
  obtain rfl:=(nmEq_iff _ _).1 q12
  obtain rfl:=Nat.eq_of_beq_eq_true q13
  obtain rfl:=Nat.eq_of_beq_eq_true q14
  obtain rfl:=(nmEq_iff _ _).1 q15
  obtain rfl:=ctsEq_eq _ _ q16
  obtain rfl:=(nmEq_iff _ _).1 q17
  obtain rfl:=ctsEq_eq _ _ q18
  obtain rfl:=(nmEq_iff _ _).1 q19
  obtain rfl:=ctsEq_eq _ _ q20
  obtain rfl:=(nmEq_iff _ _).1 q21
  obtain rfl:=ctsEq_eq _ _ q22
  obtain rfl:=(nmEq_iff _ _).1 q23
  obtain rfl:=(nmEq_iff _ _).1 q24
  obtain rfl:=(nmEq_iff _ _).1 q25
  obtain rfl:=(nmEq_iff _ _).1 q26
  obtain rfl:=(nmEq_iff _ _).1 q27
  obtain rfl:=(nmEq_iff _ _).1 q28
  obtain rfl:=(nmEq_iff _ _).1 q29
  obtain rfl:=(nmEq_iff _ _).1 q30
  obtain rfl:=ctsEq_eq _ _ q31
  obtain rfl:=(nmEq_iff _ _).1 q32
  obtain rfl:=ctsEq_eq _ _ q33
  obtain rfl:=(nmEq_iff _ _).1 q34
  obtain rfl:=ctsEq_eq _ _ q35
  obtain rfl:=(nmEq_iff _ _).1 q36
  obtain rfl:=(nmEq_iff _ _).1 q37
  refine ⟨(2100),?_⟩
  rw [← h]
  exact loop_run (E72_0 t2 t3) (K72_0 t2 t3 k) (st72_0 t2 t3 ce k) _ (.inr (h0,h1,h2,h3,h4_0,h4_1,h4_2,h6_0,h6_1,h6_2,h8,h9,h10))
 ·cases h
def q72 (ya yb yc a2 a3:Int) (b0 b1 b2 b4:List AV):Bool:=(ro (runW (R72_0 a2 a3) (2100) (.inl (ya,yb,yc,0,0,0,b0,b1,b2,b4))) false (sumE (fun p30=>q85 a2 a3 p30.2.2.2.2.2.2.1 p30.2.2.2.2.2.2.2.1 p30.2.2.2.2.2.2.2.2.1 p30.2.2.2.2.2.2.2.2.2) (fun p31=>q85 a2 a3 p31.1 p31.2.1 p31.2.2.1 p31.2.2.2.1)))
def v72_0 (ya yb yc a2 a3:Int) (b0 b1 b2 b4:List AV):List AV:=(ro (runW (R72_0 a2 a3) (2100) (.inl (ya,yb,yc,0,0,0,b0,b1,b2,b4))) [] (sumE (fun p30=>(v85_0 a2 a3 p30.2.2.2.2.2.2.1 p30.2.2.2.2.2.2.2.1 p30.2.2.2.2.2.2.2.2.1 p30.2.2.2.2.2.2.2.2.2)) (fun p31=>(v85_0 a2 a3 p31.1 p31.2.1 p31.2.2.1 p31.2.2.2.1))))
def v72_1 (ya yb yc a2 a3:Int) (b0 b1 b2 b4:List AV):List AV:=(ro (runW (R72_0 a2 a3) (2100) (.inl (ya,yb,yc,0,0,0,b0,b1,b2,b4))) [] (sumE (fun p30=>(v85_1 a2 a3 p30.2.2.2.2.2.2.1 p30.2.2.2.2.2.2.2.1 p30.2.2.2.2.2.2.2.2.1 p30.2.2.2.2.2.2.2.2.2)) (fun p31=>(v85_1 a2 a3 p31.1 p31.2.1 p31.2.2.1 p31.2.2.2.1))))
def v72_2 (ya yb yc a2 a3:Int) (b0 b1 b2 b4:List AV):List AV:=(ro (runW (R72_0 a2 a3) (2100) (.inl (ya,yb,yc,0,0,0,b0,b1,b2,b4))) [] (sumE (fun p30=>(v85_2 a2 a3 p30.2.2.2.2.2.2.1 p30.2.2.2.2.2.2.2.1 p30.2.2.2.2.2.2.2.2.1 p30.2.2.2.2.2.2.2.2.2)) (fun p31=>(v85_2 a2 a3 p31.1 p31.2.1 p31.2.2.1 p31.2.2.2.1))))
def v72_3 (ya yb yc a2 a3:Int) (b0 b1 b2 b4:List AV):Int:=(ro (runW (R72_0 a2 a3) (2100) (.inl (ya,yb,yc,0,0,0,b0,b1,b2,b4))) 0 (sumE (fun p30=>p30.1) (fun p31=>p31.2.2.2.2.1)))
def v72_4 (ya yb yc a2 a3:Int) (b0 b1 b2 b4:List AV):Int:=(ro (runW (R72_0 a2 a3) (2100) (.inl (ya,yb,yc,0,0,0,b0,b1,b2,b4))) 0 (sumE (fun p30=>p30.2.1) (fun p31=>p31.2.2.2.2.2.1)))
def v72_5 (ya yb yc a2 a3:Int) (b0 b1 b2 b4:List AV):Int:=(ro (runW (R72_0 a2 a3) (2100) (.inl (ya,yb,yc,0,0,0,b0,b1,b2,b4))) 0 (sumE (fun p30=>p30.2.2.1) (fun p31=>p31.2.2.2.2.2.2.1)))
def v72_6 (ya yb yc a2 a3:Int) (b0 b1 b2 b4:List AV):List AV:=(ro (runW (R72_0 a2 a3) (2100) (.inl (ya,yb,yc,0,0,0,b0,b1,b2,b4))) [] (sumE (fun p30=>(v85_3 a2 a3 p30.2.2.2.2.2.2.1 p30.2.2.2.2.2.2.2.1 p30.2.2.2.2.2.2.2.2.1 p30.2.2.2.2.2.2.2.2.2)) (fun p31=>p31.2.2.2.2.2.2.2.2.2.2.1)))
def v72_7 (ya yb yc a2 a3:Int) (b0 b1 b2 b4:List AV):List AV:=(ro (runW (R72_0 a2 a3) (2100) (.inl (ya,yb,yc,0,0,0,b0,b1,b2,b4))) [] (sumE (fun p30=>(v85_4 a2 a3 p30.2.2.2.2.2.2.1 p30.2.2.2.2.2.2.2.1 p30.2.2.2.2.2.2.2.2.1 p30.2.2.2.2.2.2.2.2.2)) (fun p31=>p31.2.2.2.2.2.2.2.2.2.2.2.1)))
def v72_8 (ya yb yc a2 a3:Int) (b0 b1 b2 b4:List AV):List AV:=(ro (runW (R72_0 a2 a3) (2100) (.inl (ya,yb,yc,0,0,0,b0,b1,b2,b4))) [] (sumE (fun p30=>(v85_5 a2 a3 p30.2.2.2.2.2.2.1 p30.2.2.2.2.2.2.2.1 p30.2.2.2.2.2.2.2.2.1 p30.2.2.2.2.2.2.2.2.2)) (fun p31=>p31.2.2.2.2.2.2.2.2.2.2.2.2)))
def v72_9 (ya yb yc a2 a3:Int) (b0 b1 b2 b4:List AV):List AV:=(ro (runW (R72_0 a2 a3) (2100) (.inl (ya,yb,yc,0,0,0,b0,b1,b2,b4))) [] (sumE (fun p30=>(v85_6 a2 a3 p30.2.2.2.2.2.2.1 p30.2.2.2.2.2.2.2.1 p30.2.2.2.2.2.2.2.2.1 p30.2.2.2.2.2.2.2.2.2)) (fun p31=>(v85_6 a2 a3 p31.1 p31.2.1 p31.2.2.1 p31.2.2.2.1))))
theorem e72 (ya yb yc a2 a3:Int) (b0 b1 b2 b4:List AV) (K:List AV→List (Option Blk)→Option AV):inlA c72 1 72 [AV.agg [AV.own [1],AV.own [2],AV.own [3]],AV.agg [Ai ya,Ai yb,Ai yc],Ai a2,Ai a3,AV.ptr [4] 0 0] [0] (canH 1 [⟨false,[.int .i64],b0⟩,⟨false,[.int .i64],b1⟩,⟨false,[.int .i64,.int .i64],b2⟩,⟨true,[],[AV.own [5]]⟩,⟨false,[.int .i64,.int .i64,.int .i64,.int .i64,.int .i64],b4⟩]) (keepG Tryz.prog 5 [54,38] [4] K)=(ro (runW (R72_0 a2 a3) (2100) (.inl (ya,yb,yc,0,0,0,b0,b1,b2,b4))) none (sumE (fun p30=>(bif q85 a2 a3 p30.2.2.2.2.2.2.1 p30.2.2.2.2.2.2.2.1 p30.2.2.2.2.2.2.2.2.1 p30.2.2.2.2.2.2.2.2.2 then K [AV.agg [AV.fl [.int .i64] (v85_0 a2 a3 p30.2.2.2.2.2.2.1 p30.2.2.2.2.2.2.2.1 p30.2.2.2.2.2.2.2.2.1 p30.2.2.2.2.2.2.2.2.2),AV.fl [.int .i64] (v85_1 a2 a3 p30.2.2.2.2.2.2.1 p30.2.2.2.2.2.2.2.1 p30.2.2.2.2.2.2.2.2.1 p30.2.2.2.2.2.2.2.2.2),AV.fl [.int .i64,.int .i64] (v85_2 a2 a3 p30.2.2.2.2.2.2.1 p30.2.2.2.2.2.2.2.1 p30.2.2.2.2.2.2.2.2.1 p30.2.2.2.2.2.2.2.2.2)],AV.agg [Ai p30.1,Ai p30.2.1,Ai p30.2.2.1]] [some ⟨false,[.int .i64],(v85_3 a2 a3 p30.2.2.2.2.2.2.1 p30.2.2.2.2.2.2.2.1 p30.2.2.2.2.2.2.2.2.1 p30.2.2.2.2.2.2.2.2.2)⟩,some ⟨false,[.int .i64],(v85_4 a2 a3 p30.2.2.2.2.2.2.1 p30.2.2.2.2.2.2.2.1 p30.2.2.2.2.2.2.2.2.1 p30.2.2.2.2.2.2.2.2.2)⟩,some ⟨false,[.int .i64,.int .i64],(v85_5 a2 a3 p30.2.2.2.2.2.2.1 p30.2.2.2.2.2.2.2.1 p30.2.2.2.2.2.2.2.2.1 p30.2.2.2.2.2.2.2.2.2)⟩,some ⟨true,[],[AV.fl [.int .i64,.int .i64,.int .i64,.int .i64,.int .i64] (v85_6 a2 a3 p30.2.2.2.2.2.2.1 p30.2.2.2.2.2.2.2.1 p30.2.2.2.2.2.2.2.2.1 p30.2.2.2.2.2.2.2.2.2)]⟩,none]
 else none)) (fun p31=>(bif q85 a2 a3 p31.1 p31.2.1 p31.2.2.1 p31.2.2.2.1 then K [AV.agg [AV.fl [.int .i64] (v85_0 a2 a3 p31.1 p31.2.1 p31.2.2.1 p31.2.2.2.1),AV.fl [.int .i64] (v85_1 a2 a3 p31.1 p31.2.1 p31.2.2.1 p31.2.2.2.1),AV.fl [.int .i64,.int .i64] (v85_2 a2 a3 p31.1 p31.2.1 p31.2.2.1 p31.2.2.2.1)],AV.agg [Ai p31.2.2.2.2.1,Ai p31.2.2.2.2.2.1,Ai p31.2.2.2.2.2.2.1]] [some ⟨false,[.int .i64],p31.2.2.2.2.2.2.2.2.2.2.1⟩,some ⟨false,[.int .i64],p31.2.2.2.2.2.2.2.2.2.2.2.1⟩,some ⟨false,[.int .i64,.int .i64],p31.2.2.2.2.2.2.2.2.2.2.2.2⟩,some ⟨true,[],[AV.fl [.int .i64,.int .i64,.int .i64,.int .i64,.int .i64] (v85_6 a2 a3 p31.1 p31.2.1 p31.2.2.1 p31.2.2.2.1)]⟩,none]
 else none)))):=by kernel_rfl
theorem r72 (ya yb yc a2 a3:Int) (b0 b1 b2 b4:List AV) (K:List AV→List (Option Blk)→Option AV) (h:q72 ya yb yc a2 a3 b0 b1 b2 b4=true):inlA c72 1 72 [AV.agg [AV.own [1],AV.own [2],AV.own [3]],AV.agg [AV.int .i64 ya,AV.int .i64 yb,AV.int .i64 yc],AV.int .i64 a2,AV.int .i64 a3,AV.ptr [4] 0 0] [0] (canH 1 [⟨false,[.int .i64],b0⟩,⟨false,[.int .i64],b1⟩,⟨false,[.int .i64,.int .i64],b2⟩,⟨true,[],[AV.own [5]]⟩,⟨false,[.int .i64,.int .i64,.int .i64,.int .i64,.int .i64],b4⟩]) (keepG Tryz.prog 5 [54,38] [4] K)=K [AV.agg [AV.fl [.int .i64] (v72_0 ya yb yc a2 a3 b0 b1 b2 b4),AV.fl [.int .i64] (v72_1 ya yb yc a2 a3 b0 b1 b2 b4),AV.fl [.int .i64,.int .i64] (v72_2 ya yb yc a2 a3 b0 b1 b2 b4)],AV.agg [AV.int .i64 (v72_3 ya yb yc a2 a3 b0 b1 b2 b4),AV.int .i64 (v72_4 ya yb yc a2 a3 b0 b1 b2 b4),AV.int .i64 (v72_5 ya yb yc a2 a3 b0 b1 b2 b4)]] [some ⟨false,[.int .i64],(v72_6 ya yb yc a2 a3 b0 b1 b2 b4)⟩,some ⟨false,[.int .i64],(v72_7 ya yb yc a2 a3 b0 b1 b2 b4)⟩,some ⟨false,[.int .i64,.int .i64],(v72_8 ya yb yc a2 a3 b0 b1 b2 b4)⟩,some ⟨true,[],[AV.fl [.int .i64,.int .i64,.int .i64,.int .i64,.int .i64] (v72_9 ya yb yc a2 a3 b0 b1 b2 b4)]⟩,none]:=by
 refine (e72 ya yb yc a2 a3 b0 b1 b2 b4 K).trans ?_
 unfold q72 at h
 unfold v72_0 v72_1 v72_2 v72_3 v72_4 v72_5 v72_6 v72_7 v72_8 v72_9
 generalize runW (R72_0 a2 a3) (2100) (.inl (ya,yb,yc,0,0,0,b0,b1,b2,b4))=o at h ⊢
 cases o with
 | none=>cases h
 | some o =>
  cases o with
  | inl p30 =>
   simp only [ro,sumE] at h ⊢
   exact (brL1 (fun _=>rfl)) h
  | inr p31 =>
   simp only [ro,sumE] at h ⊢
   exact (brL1 (fun _=>rfl)) h
def m72:GModel
 | [.agg [.own g0,.own g1,.own g2],.agg [.int .i64 ya,.int .i64 yb,.int .i64 yc],.int .i64 a2,.int .i64 a3,.ptr g3 g4 g5],[⟨false,g6,b0⟩,⟨false,g7,b1⟩,⟨false,g8,b2⟩,⟨true,[],[.own g9]⟩,⟨false,g10,b4⟩]=>bif nmEq g0 ([1]) && nmEq g1 ([2]) && nmEq g2 ([3]) && nmEq g3 ([4]) && Nat.beq g4 0 && Nat.beq g5 0 && ctsEq g6 ([.int .i64]) && ctsEq g7 ([.int .i64]) && ctsEq g8 ([.int .i64,.int .i64]) && nmEq g9 ([5]) && ctsEq g10 ([.int .i64,.int .i64,.int .i64,.int .i64,.int .i64]) then some (q72 ya yb yc a2 a3 b0 b1 b2 b4,[AV.agg [AV.fl [.int .i64] (v72_0 ya yb yc a2 a3 b0 b1 b2 b4),AV.fl [.int .i64] (v72_1 ya yb yc a2 a3 b0 b1 b2 b4),AV.fl [.int .i64,.int .i64] (v72_2 ya yb yc a2 a3 b0 b1 b2 b4)],AV.agg [AV.int .i64 (v72_3 ya yb yc a2 a3 b0 b1 b2 b4),AV.int .i64 (v72_4 ya yb yc a2 a3 b0 b1 b2 b4),AV.int .i64 (v72_5 ya yb yc a2 a3 b0 b1 b2 b4)]],[some ⟨false,[.int .i64],(v72_6 ya yb yc a2 a3 b0 b1 b2 b4)⟩,some ⟨false,[.int .i64],(v72_7 ya yb yc a2 a3 b0 b1 b2 b4)⟩,some ⟨false,[.int .i64,.int .i64],(v72_8 ya yb yc a2 a3 b0 b1 b2 b4)⟩,some ⟨true,[],[AV.fl [.int .i64,.int .i64,.int .i64,.int .i64,.int .i64] (v72_9 ya yb yc a2 a3 b0 b1 b2 b4)]⟩,none]) else none
 | _,_=>none
theorem k72:Known Tryz.prog 72:=⟨Tryz.f72,Tryz.func72,by kernel_rfl,by kernel_rfl⟩
theorem meets72:MeetsG Tryz.prog 72 m72:=by
 refine meetG (rt:=[54,38]) (gs:=[4]) (f:=Tryz.f72) (l:=[(0,sub [1,1,0,0,0] (body Tryz.f72))]) (hs:=[(72,0,[2,3,4,6,10,11,12]),(72,999,[10,11]),(72,1000,[2,3,4,6,10,11,12]),(72,1001,[2,3,4,6,10,11,12])]) (ts:=[(58,m58),(83,m83),(84,m84)]) (ws:=[(85,.g m85)]) (is:=[]) (ls:=[(72,0,l72_0)]) (lvl:=0) mixed k72 Tryz.func72 (by kernel_rfl) (loops_cons ok72_0 noLoop) (allT_cons meets58 (allT_cons meets83 (allT_cons meets84 allT_nil))) (allG_cons meets85 allM_nil) noI fun C w xs us bs r bs' hl hv hh h K=>?_
 unfold m72 at h
 split at h
 ·rename_i g0 g1 g2 ya yb yc a2 a3 g3 g4 g5 g6 b0 g7 b1 g8 b2 g9 g10 b4
  obtain ⟨hg,h⟩:=bif_pair h
  simp only [Bool.and_eq_true] at hg
  obtain ⟨⟨⟨⟨⟨⟨⟨⟨⟨⟨q0,q1⟩,q2⟩,q3⟩,q4⟩,q5⟩,q6⟩,q7⟩,q8⟩,q9⟩,q10⟩:=hg
  obtain rfl:=(nmEq_iff _ _).1 q0
  obtain rfl:=(nmEq_iff _ _).1 q1
  obtain rfl:=(nmEq_iff _ _).1 q2
  obtain rfl:=(nmEq_iff _ _).1 q3
  obtain rfl:=Nat.eq_of_beq_eq_true q4
  obtain rfl:=Nat.eq_of_beq_eq_true q5
  obtain rfl:=ctsEq_eq _ _ q6
  obtain rfl:=ctsEq_eq _ _ q7
  obtain rfl:=ctsEq_eq _ _ q8
  obtain rfl:=(nmEq_iff _ _).1 q9
  obtain rfl:=ctsEq_eq _ _ q10
  obtain ⟨h1,rfl,rfl⟩:=trip_inj h
  exact r72 ya yb yc a2 a3 b0 b1 b2 b4 K h1
 ·cases h
def F73_0 (t0:List AV) (t3 t4:Int):Out ((Int × Int)) (Int):=(bif decide (t4<(t0.length:Int)) then (bif (decide (0≤t4) && decide (t4<(t0.length:Int))) then .next (IntKind.i64.wrap (t3+fI (t0.getD t4.toNat .undef) 4),IntKind.i64.wrap (t4+1))
 else .fail)
 else .stop t3)
def R73_0 (t0:List AV):((Int × Int))→Out ((Int × Int)) (Int):=fun s:Int × Int=>F73_0 t0 s.1 s.2
def E73_0 (t0:List AV):((Int × Int))→St:=fun s:Int × Int=>⟨[(0,AV.sl [.int .i64,.int .i64,.int .i64,.int .i64,.int .i64] t0),(3,Ai s.1),(4,Ai s.2)],[]⟩
def K73_0 (k:Kont):(Int)→Option AV:=fun p:Int=>k (.exit 0) ⟨[(3,Ai p)],[]⟩
def l73_0:LModel:=fun _ _ st k=>match st with
 | ⟨[(0,.sl g0 t0),(3,.int .i64 t3),(4,.int .i64 t4)],[]⟩=>bif ctsEq g0 ([.int .i64,.int .i64,.int .i64,.int .i64,.int .i64]) then ro (runW (R73_0 t0) (((t0.length:Int) - t4:Int).toNat+1) (t3,t4)) none (K73_0 k) else none
 | _=>none
noncomputable def c73:Cfg:=cfg Tryz.prog [(73,0,[0,3,4]),(73,999,[2]),(73,1000,[3]),(73,1001,[0,3,4])] [] [] [] [(73,0,l73_0)]
theorem s73_0 (ce:CallE) (t0:List AV) (t3 t4:Int) (next:St→Option AV) (k:Kont):stepA (codeA c73 ce [] 73 0 (sub [1,1,0,1,0,0] (body Tryz.f73))) (normA [] [0,3,4]) next ⟨[(0,AV.sl [.int .i64,.int .i64,.int .i64,.int .i64,.int .i64] t0),(3,Ai t3),(4,Ai t4)],[]⟩ k=(bif decide (t4<(t0.length:Int)) then (bif (decide (0≤t4) && decide (t4<(t0.length:Int))) then next ⟨[(0,AV.sl [.int .i64,.int .i64,.int .i64,.int .i64,.int .i64] t0),(3,Ai (IntKind.i64.wrap (t3+fI (t0.getD t4.toNat .undef) 4))),(4,Ai (IntKind.i64.wrap (t4+1)))],[]⟩
 else none)
 else k (.exit 0) ⟨[(3,Ai t3)],[]⟩):=by kernel_rfl
theorem st73_0 (t0:List AV) (ce:CallE) (k:Kont) (s:(Int × Int)) (next:St→Option AV):stepA (codeA c73 ce [] 73 0 (sub [1,1,0,1,0,0] (body Tryz.f73))) (normA [] [0,3,4]) next ((E73_0 t0) s) k=(R73_0 t0 s).el none (fun s=>next ((E73_0 t0) s)) (K73_0 k):=(s73_0 ce t0 s.1 s.2 next k).trans (by unfold R73_0;unfold F73_0;simp only [el_cond,el_ro,el_sum,el_fail,el_next,el_stop] <;> rfl)
theorem ok73_0 {ce:CallE}:LoopOK c73 ce [] 73 0 (sub [1,1,0,1,0,0] (body Tryz.f73)):=by
 intro m hm st k r h
 obtain rfl:l73_0=m:=Option.some.inj hm
 unfold l73_0 at h
 split at h
 ·rename_i g0 t0 t3 t4
  obtain ⟨hg,h⟩:=bif_some h
  have q0:=hg
  obtain rfl:=ctsEq_eq _ _ q0
  refine ⟨(((t0.length:Int) - t4:Int).toNat+1),?_⟩
  rw [← h]
  exact loop_run (E73_0 t0) (K73_0 k) (st73_0 t0 ce k) _ (t3,t4)
 ·cases h
def q73 (a0:List AV):Bool:=(ro (runW (R73_0 a0) (((a0.length:Int) - 0:Int).toNat+1) (0,0)) false (fun p32=>true))
def v73_0 (a0:List AV):Int:=(ro (runW (R73_0 a0) (((a0.length:Int) - 0:Int).toNat+1) (0,0)) 0 (fun p32=>p32))
theorem e73 (a0:List AV):funA c73 0 73 [AV.sl [.int .i64,.int .i64,.int .i64,.int .i64,.int .i64] a0]=(ro (runW (R73_0 a0) (((a0.length:Int) - 0:Int).toNat+1) (0,0)) none (fun p32=>some (Ai p32))):=by kernel_rfl
def m73:TModel
 | [.sl g0 a0]=>bif ctsEq g0 ([.int .i64,.int .i64,.int .i64,.int .i64,.int .i64]) then some (q73 a0,AV.int .i64 (v73_0 a0)) else none
 | _=>none
theorem k73:Known Tryz.prog 73:=⟨Tryz.f73,Tryz.func73,by kernel_rfl,by kernel_rfl⟩
theorem meets73:Meets Tryz.prog 73 m73:=by
 refine meet (f:=Tryz.f73) (l:=[(0,sub [1,1,0,1,0,0] (body Tryz.f73))]) (hs:=[(73,0,[0,3,4]),(73,999,[2]),(73,1000,[3]),(73,1001,[0,3,4])]) (ts:=[]) (ws:=[]) (is:=[]) (ls:=[(73,0,l73_0)]) (lvl:=0) mixed k73 Tryz.func73 (by kernel_rfl) (loops_cons ok73_0 noLoop) allT_nil allM_nil noI fun w xs us r hl hv h=>?_
 unfold m73 at h
 split at h
 ·rename_i g0 a0
  obtain ⟨hg,h⟩:=bif_pair h
  have q0:=hg
  obtain rfl:=ctsEq_eq _ _ q0
  obtain ⟨h1,rfl⟩:=pair_inj h
  exact (e73 a0).trans ((brO (fun o:Option (Int)=>some (Ai (ro o 0 (fun p32=>p32)))) (fun p32=>(fun _=>rfl))) h1)
 ·cases h
noncomputable def c57:Cfg:=cfg Tryz.prog [(57,999,[6,7,8])] [(28,m28),(37,m37),(53,m53),(56,m56),(73,m73)] [(72,.g m72)] [] []
def q57 (xa xb xc:List AV) (ya yb yc a2:Int):Bool:=(q53 xa xb xc && (bif !(v53_0 xa xb xc) then q56 xa xb xc else (bif !(v37_0 ya yb yc) then q56 xa xb xc else (bif !(v28_0 a2 (-1000) 1000) then q56 xa xb xc else (q56 xa xb xc && (q72 ya yb yc a2 0 (v56_0 xa xb xc) (v56_1 xa xb xc) (v56_2 xa xb xc) ([]:List AV) && q73 (v72_9 ya yb yc a2 0 (v56_0 xa xb xc) (v56_1 xa xb xc) (v56_2 xa xb xc) ([]:List AV))))))))
def v57_0 (xa xb xc:List AV) (ya yb yc a2:Int):List AV:=(bif !(v53_0 xa xb xc) then (v56_0 xa xb xc) else (bif !(v37_0 ya yb yc) then (v56_0 xa xb xc) else (bif !(v28_0 a2 (-1000) 1000) then (v56_0 xa xb xc) else (v72_0 ya yb yc a2 0 (v56_0 xa xb xc) (v56_1 xa xb xc) (v56_2 xa xb xc) ([]:List AV)))))
def v57_1 (xa xb xc:List AV) (ya yb yc a2:Int):List AV:=(bif !(v53_0 xa xb xc) then (v56_1 xa xb xc) else (bif !(v37_0 ya yb yc) then (v56_1 xa xb xc) else (bif !(v28_0 a2 (-1000) 1000) then (v56_1 xa xb xc) else (v72_1 ya yb yc a2 0 (v56_0 xa xb xc) (v56_1 xa xb xc) (v56_2 xa xb xc) ([]:List AV)))))
def v57_2 (xa xb xc:List AV) (ya yb yc a2:Int):List AV:=(bif !(v53_0 xa xb xc) then (v56_2 xa xb xc) else (bif !(v37_0 ya yb yc) then (v56_2 xa xb xc) else (bif !(v28_0 a2 (-1000) 1000) then (v56_2 xa xb xc) else (v72_2 ya yb yc a2 0 (v56_0 xa xb xc) (v56_1 xa xb xc) (v56_2 xa xb xc) ([]:List AV)))))
def v57_3 (xa xb xc:List AV) (ya yb yc a2:Int):Int:=(bif !(v53_0 xa xb xc) then ya else (bif !(v37_0 ya yb yc) then ya else (bif !(v28_0 a2 (-1000) 1000) then ya else (v72_3 ya yb yc a2 0 (v56_0 xa xb xc) (v56_1 xa xb xc) (v56_2 xa xb xc) ([]:List AV)))))
def v57_4 (xa xb xc:List AV) (ya yb yc a2:Int):Int:=(bif !(v53_0 xa xb xc) then yb else (bif !(v37_0 ya yb yc) then yb else (bif !(v28_0 a2 (-1000) 1000) then yb else (v72_4 ya yb yc a2 0 (v56_0 xa xb xc) (v56_1 xa xb xc) (v56_2 xa xb xc) ([]:List AV)))))
def v57_5 (xa xb xc:List AV) (ya yb yc a2:Int):Int:=(bif !(v53_0 xa xb xc) then yc else (bif !(v37_0 ya yb yc) then yc else (bif !(v28_0 a2 (-1000) 1000) then yc else (v72_5 ya yb yc a2 0 (v56_0 xa xb xc) (v56_1 xa xb xc) (v56_2 xa xb xc) ([]:List AV)))))
def v57_6 (xa xb xc:List AV) (ya yb yc a2:Int):Int:=(bif !(v53_0 xa xb xc) then 0 else (bif !(v37_0 ya yb yc) then 0 else (bif !(v28_0 a2 (-1000) 1000) then 0 else (v73_0 (v72_9 ya yb yc a2 0 (v56_0 xa xb xc) (v56_1 xa xb xc) (v56_2 xa xb xc) ([]:List AV))))))
theorem e57 (xa xb xc:List AV) (ya yb yc a2:Int):funA c57 0 57 [AV.agg [AV.sl [.int .i64] xa,AV.sl [.int .i64] xb,AV.sl [.int .i64,.int .i64] xc],AV.agg [Ai ya,Ai yb,Ai yc],Ai a2]=(bif q53 xa xb xc then (bif !(v53_0 xa xb xc) then (bif q56 xa xb xc then some (AV.tup [AV.agg [AV.fl [.int .i64] (v56_0 xa xb xc),AV.fl [.int .i64] (v56_1 xa xb xc),AV.fl [.int .i64,.int .i64] (v56_2 xa xb xc)],AV.agg [Ai ya,Ai yb,Ai yc],Ai 0])
 else none)
 else (bif !(v37_0 ya yb yc) then (bif q56 xa xb xc then some (AV.tup [AV.agg [AV.fl [.int .i64] (v56_0 xa xb xc),AV.fl [.int .i64] (v56_1 xa xb xc),AV.fl [.int .i64,.int .i64] (v56_2 xa xb xc)],AV.agg [Ai ya,Ai yb,Ai yc],Ai 0])
 else none)
 else (bif !(v28_0 a2 (-1000) 1000) then (bif q56 xa xb xc then some (AV.tup [AV.agg [AV.fl [.int .i64] (v56_0 xa xb xc),AV.fl [.int .i64] (v56_1 xa xb xc),AV.fl [.int .i64,.int .i64] (v56_2 xa xb xc)],AV.agg [Ai ya,Ai yb,Ai yc],Ai 0])
 else none)
 else (bif q56 xa xb xc then (bif q72 ya yb yc a2 0 (v56_0 xa xb xc) (v56_1 xa xb xc) (v56_2 xa xb xc) ([]:List AV) then (bif q73 (v72_9 ya yb yc a2 0 (v56_0 xa xb xc) (v56_1 xa xb xc) (v56_2 xa xb xc) ([]:List AV)) then some (AV.tup [AV.agg [AV.fl [.int .i64] (v72_0 ya yb yc a2 0 (v56_0 xa xb xc) (v56_1 xa xb xc) (v56_2 xa xb xc) ([]:List AV)),AV.fl [.int .i64] (v72_1 ya yb yc a2 0 (v56_0 xa xb xc) (v56_1 xa xb xc) (v56_2 xa xb xc) ([]:List AV)),AV.fl [.int .i64,.int .i64] (v72_2 ya yb yc a2 0 (v56_0 xa xb xc) (v56_1 xa xb xc) (v56_2 xa xb xc) ([]:List AV))],AV.agg [Ai (v72_3 ya yb yc a2 0 (v56_0 xa xb xc) (v56_1 xa xb xc) (v56_2 xa xb xc) ([]:List AV)),Ai (v72_4 ya yb yc a2 0 (v56_0 xa xb xc) (v56_1 xa xb xc) (v56_2 xa xb xc) ([]:List AV)),Ai (v72_5 ya yb yc a2 0 (v56_0 xa xb xc) (v56_1 xa xb xc) (v56_2 xa xb xc) ([]:List AV))],Ai (v73_0 (v72_9 ya yb yc a2 0 (v56_0 xa xb xc) (v56_1 xa xb xc) (v56_2 xa xb xc) ([]:List AV)))])
 else none)
 else none)
 else none))))
 else none):=by kernel_rfl
def m57:TModel
 | [.agg [.sl g0 xa,.sl g1 xb,.sl g2 xc],.agg [.int .i64 ya,.int .i64 yb,.int .i64 yc],.int .i64 a2]=>bif ctsEq g0 ([.int .i64]) && ctsEq g1 ([.int .i64]) && ctsEq g2 ([.int .i64,.int .i64]) then some (q57 xa xb xc ya yb yc a2,AV.tup [AV.agg [AV.fl [.int .i64] (v57_0 xa xb xc ya yb yc a2),AV.fl [.int .i64] (v57_1 xa xb xc ya yb yc a2),AV.fl [.int .i64,.int .i64] (v57_2 xa xb xc ya yb yc a2)],AV.agg [AV.int .i64 (v57_3 xa xb xc ya yb yc a2),AV.int .i64 (v57_4 xa xb xc ya yb yc a2),AV.int .i64 (v57_5 xa xb xc ya yb yc a2)],AV.int .i64 (v57_6 xa xb xc ya yb yc a2)]) else none
 | _=>none
theorem k57:Known Tryz.prog 57:=⟨Tryz.f57,Tryz.func57,by kernel_rfl,by kernel_rfl⟩
theorem meets57:Meets Tryz.prog 57 m57:=by
 refine meet (f:=Tryz.f57) (l:=[]) (hs:=[(57,999,[6,7,8])]) (ts:=[(28,m28),(37,m37),(53,m53),(56,m56),(73,m73)]) (ws:=[(72,.g m72)]) (is:=[]) (ls:=[]) (lvl:=0) mixed k57 Tryz.func57 (by kernel_rfl) noLoop (allT_cons meets28 (allT_cons meets37 (allT_cons meets53 (allT_cons meets56 (allT_cons meets73 allT_nil))))) (allG_cons meets72 allM_nil) noI fun w xs us r hl hv h=>?_
 unfold m57 at h
 split at h
 ·rename_i g0 xa g1 xb g2 xc ya yb yc a2
  obtain ⟨hg,h⟩:=bif_pair h
  simp only [Bool.and_eq_true] at hg
  obtain ⟨⟨q0,q1⟩,q2⟩:=hg
  obtain rfl:=ctsEq_eq _ _ q0
  obtain rfl:=ctsEq_eq _ _ q1
  obtain rfl:=ctsEq_eq _ _ q2
  obtain ⟨h1,rfl⟩:=pair_inj h
  exact (e57 xa xb xc ya yb yc a2).trans ((brL (br (fun b=>some (AV.tup [AV.agg [AV.fl [.int .i64] (bif b then (v56_0 xa xb xc) else (bif !(v37_0 ya yb yc) then (v56_0 xa xb xc) else (bif !(v28_0 a2 (-1000) 1000) then (v56_0 xa xb xc) else (v72_0 ya yb yc a2 0 (v56_0 xa xb xc) (v56_1 xa xb xc) (v56_2 xa xb xc) ([]:List AV))))),AV.fl [.int .i64] (bif b then (v56_1 xa xb xc) else (bif !(v37_0 ya yb yc) then (v56_1 xa xb xc) else (bif !(v28_0 a2 (-1000) 1000) then (v56_1 xa xb xc) else (v72_1 ya yb yc a2 0 (v56_0 xa xb xc) (v56_1 xa xb xc) (v56_2 xa xb xc) ([]:List AV))))),AV.fl [.int .i64,.int .i64] (bif b then (v56_2 xa xb xc) else (bif !(v37_0 ya yb yc) then (v56_2 xa xb xc) else (bif !(v28_0 a2 (-1000) 1000) then (v56_2 xa xb xc) else (v72_2 ya yb yc a2 0 (v56_0 xa xb xc) (v56_1 xa xb xc) (v56_2 xa xb xc) ([]:List AV)))))],AV.agg [Ai (bif b then ya else (bif !(v37_0 ya yb yc) then ya else (bif !(v28_0 a2 (-1000) 1000) then ya else (v72_3 ya yb yc a2 0 (v56_0 xa xb xc) (v56_1 xa xb xc) (v56_2 xa xb xc) ([]:List AV))))),Ai (bif b then yb else (bif !(v37_0 ya yb yc) then yb else (bif !(v28_0 a2 (-1000) 1000) then yb else (v72_4 ya yb yc a2 0 (v56_0 xa xb xc) (v56_1 xa xb xc) (v56_2 xa xb xc) ([]:List AV))))),Ai (bif b then yc else (bif !(v37_0 ya yb yc) then yc else (bif !(v28_0 a2 (-1000) 1000) then yc else (v72_5 ya yb yc a2 0 (v56_0 xa xb xc) (v56_1 xa xb xc) (v56_2 xa xb xc) ([]:List AV)))))],Ai (bif b then 0 else (bif !(v37_0 ya yb yc) then 0 else (bif !(v28_0 a2 (-1000) 1000) then 0 else (v73_0 (v72_9 ya yb yc a2 0 (v56_0 xa xb xc) (v56_1 xa xb xc) (v56_2 xa xb xc) ([]:List AV))))))])) (brL1 (fun _=>rfl)) (br (fun b=>some (AV.tup [AV.agg [AV.fl [.int .i64] (bif b then (v56_0 xa xb xc) else (bif !(v28_0 a2 (-1000) 1000) then (v56_0 xa xb xc) else (v72_0 ya yb yc a2 0 (v56_0 xa xb xc) (v56_1 xa xb xc) (v56_2 xa xb xc) ([]:List AV)))),AV.fl [.int .i64] (bif b then (v56_1 xa xb xc) else (bif !(v28_0 a2 (-1000) 1000) then (v56_1 xa xb xc) else (v72_1 ya yb yc a2 0 (v56_0 xa xb xc) (v56_1 xa xb xc) (v56_2 xa xb xc) ([]:List AV)))),AV.fl [.int .i64,.int .i64] (bif b then (v56_2 xa xb xc) else (bif !(v28_0 a2 (-1000) 1000) then (v56_2 xa xb xc) else (v72_2 ya yb yc a2 0 (v56_0 xa xb xc) (v56_1 xa xb xc) (v56_2 xa xb xc) ([]:List AV))))],AV.agg [Ai (bif b then ya else (bif !(v28_0 a2 (-1000) 1000) then ya else (v72_3 ya yb yc a2 0 (v56_0 xa xb xc) (v56_1 xa xb xc) (v56_2 xa xb xc) ([]:List AV)))),Ai (bif b then yb else (bif !(v28_0 a2 (-1000) 1000) then yb else (v72_4 ya yb yc a2 0 (v56_0 xa xb xc) (v56_1 xa xb xc) (v56_2 xa xb xc) ([]:List AV)))),Ai (bif b then yc else (bif !(v28_0 a2 (-1000) 1000) then yc else (v72_5 ya yb yc a2 0 (v56_0 xa xb xc) (v56_1 xa xb xc) (v56_2 xa xb xc) ([]:List AV))))],Ai (bif b then 0 else (bif !(v28_0 a2 (-1000) 1000) then 0 else (v73_0 (v72_9 ya yb yc a2 0 (v56_0 xa xb xc) (v56_1 xa xb xc) (v56_2 xa xb xc) ([]:List AV)))))])) (brL1 (fun _=>rfl)) (br (fun b=>some (AV.tup [AV.agg [AV.fl [.int .i64] (bif b then (v56_0 xa xb xc) else (v72_0 ya yb yc a2 0 (v56_0 xa xb xc) (v56_1 xa xb xc) (v56_2 xa xb xc) ([]:List AV))),AV.fl [.int .i64] (bif b then (v56_1 xa xb xc) else (v72_1 ya yb yc a2 0 (v56_0 xa xb xc) (v56_1 xa xb xc) (v56_2 xa xb xc) ([]:List AV))),AV.fl [.int .i64,.int .i64] (bif b then (v56_2 xa xb xc) else (v72_2 ya yb yc a2 0 (v56_0 xa xb xc) (v56_1 xa xb xc) (v56_2 xa xb xc) ([]:List AV)))],AV.agg [Ai (bif b then ya else (v72_3 ya yb yc a2 0 (v56_0 xa xb xc) (v56_1 xa xb xc) (v56_2 xa xb xc) ([]:List AV))),Ai (bif b then yb else (v72_4 ya yb yc a2 0 (v56_0 xa xb xc) (v56_1 xa xb xc) (v56_2 xa xb xc) ([]:List AV))),Ai (bif b then yc else (v72_5 ya yb yc a2 0 (v56_0 xa xb xc) (v56_1 xa xb xc) (v56_2 xa xb xc) ([]:List AV)))],Ai (bif b then 0 else (v73_0 (v72_9 ya yb yc a2 0 (v56_0 xa xb xc) (v56_1 xa xb xc) (v56_2 xa xb xc) ([]:List AV))))])) (brL1 (fun _=>rfl)) (brL (brL (brL1 (fun _=>rfl)))))))) h1)
 ·cases h
noncomputable def c59:Cfg:=cfg Tryz.prog [(59,999,[6])] [(28,m28),(53,m53),(74,m74)] [] [] []
def q59 (xa xb xc:List AV) (a1 a2:Int):Bool:=(q53 xa xb xc && (bif !(v53_0 xa xb xc) then true else (bif !(v28_0 a1 0 a2) then true else (bif decide (a2 > (xb.length:Int)) then true else ((decide (0≤a1) && decide (a1≤a2) && decide (a2≤(xb.length:Int))) && q74 ((xb.take (Int.toNat a2)).drop (Int.toNat a1)))))))
def v59_0 (xa xb xc:List AV) (a1 a2:Int):List AV:=(bif !(v53_0 xa xb xc) then ([]:List AV) else (bif !(v28_0 a1 0 a2) then ([]:List AV) else (bif decide (a2 > (xb.length:Int)) then ([]:List AV) else (v74_0 ((xb.take (Int.toNat a2)).drop (Int.toNat a1))))))
theorem e59 (xa xb xc:List AV) (a1 a2:Int):funA c59 0 59 [AV.agg [AV.sl [.int .i64] xa,AV.sl [.int .i64] xb,AV.sl [.int .i64,.int .i64] xc],Ai a1,Ai a2]=(bif q53 xa xb xc then (bif !(v53_0 xa xb xc) then some (AV.fl [.int .i64] ([]:List AV))
 else (bif !(v28_0 a1 0 a2) then some (AV.fl [.int .i64] ([]:List AV))
 else (bif decide (a2 > (xb.length:Int)) then some (AV.fl [.int .i64] ([]:List AV))
 else (bif (decide (0≤a1) && decide (a1≤a2) && decide (a2≤(xb.length:Int))) then (bif q74 ((xb.take (Int.toNat a2)).drop (Int.toNat a1)) then some (AV.fl [.int .i64] (v74_0 ((xb.take (Int.toNat a2)).drop (Int.toNat a1))))
 else none)
 else none))))
 else none):=by kernel_rfl
def m59:TModel
 | [.agg [.sl g0 xa,.sl g1 xb,.sl g2 xc],.int .i64 a1,.int .i64 a2]=>bif ctsEq g0 ([.int .i64]) && ctsEq g1 ([.int .i64]) && ctsEq g2 ([.int .i64,.int .i64]) then some (q59 xa xb xc a1 a2,AV.fl [.int .i64] (v59_0 xa xb xc a1 a2)) else none
 | _=>none
theorem k59:Known Tryz.prog 59:=⟨Tryz.f59,Tryz.func59,by kernel_rfl,by kernel_rfl⟩
theorem meets59:Meets Tryz.prog 59 m59:=by
 refine meet (f:=Tryz.f59) (l:=[]) (hs:=[(59,999,[6])]) (ts:=[(28,m28),(53,m53),(74,m74)]) (ws:=[]) (is:=[]) (ls:=[]) (lvl:=0) mixed k59 Tryz.func59 (by kernel_rfl) noLoop (allT_cons meets28 (allT_cons meets53 (allT_cons meets74 allT_nil))) allM_nil noI fun w xs us r hl hv h=>?_
 unfold m59 at h
 split at h
 ·rename_i g0 xa g1 xb g2 xc a1 a2
  obtain ⟨hg,h⟩:=bif_pair h
  simp only [Bool.and_eq_true] at hg
  obtain ⟨⟨q0,q1⟩,q2⟩:=hg
  obtain rfl:=ctsEq_eq _ _ q0
  obtain rfl:=ctsEq_eq _ _ q1
  obtain rfl:=ctsEq_eq _ _ q2
  obtain ⟨h1,rfl⟩:=pair_inj h
  exact (e59 xa xb xc a1 a2).trans ((brL (br (fun b=>some (AV.fl [.int .i64] (bif b then ([]:List AV) else (bif !(v28_0 a1 0 a2) then ([]:List AV) else (bif decide (a2 > (xb.length:Int)) then ([]:List AV) else (v74_0 ((xb.take (Int.toNat a2)).drop (Int.toNat a1)))))))) (fun _=>rfl) (br (fun b=>some (AV.fl [.int .i64] (bif b then ([]:List AV) else (bif decide (a2 > (xb.length:Int)) then ([]:List AV) else (v74_0 ((xb.take (Int.toNat a2)).drop (Int.toNat a1))))))) (fun _=>rfl) (br (fun b=>some (AV.fl [.int .i64] (bif b then ([]:List AV) else (v74_0 ((xb.take (Int.toNat a2)).drop (Int.toNat a1)))))) (fun _=>rfl) (brL (brL1 (fun _=>rfl))))))) h1)
 ·cases h
noncomputable def c45:Cfg:=cfg Tryz.prog [(45,999,[6,7,8,9])] [(37,m37),(51,m51),(53,m53),(56,m56),(57,m57),(58,m58),(59,m59)] [] [] []
def q45 (xa xb xc:List AV) (ya yb yc za zb:Int):Bool:=(q53 xa xb xc && (bif !(v53_0 xa xb xc) then q56 xa xb xc else (bif !(v37_0 ya yb yc) then q56 xa xb xc else (bif !(v51_0 za zb) then q56 xa xb xc else (q57 xa xb xc ya yb yc za && (q57 (v57_0 xa xb xc ya yb yc za) (v57_1 xa xb xc ya yb yc za) (v57_2 xa xb xc ya yb yc za) (v57_3 xa xb xc ya yb yc za) (v57_4 xa xb xc ya yb yc za) (v57_5 xa xb xc ya yb yc za) zb && (q58 (v57_0 (v57_0 xa xb xc ya yb yc za) (v57_1 xa xb xc ya yb yc za) (v57_2 xa xb xc ya yb yc za) (v57_3 xa xb xc ya yb yc za) (v57_4 xa xb xc ya yb yc za) (v57_5 xa xb xc ya yb yc za) zb) (v57_1 (v57_0 xa xb xc ya yb yc za) (v57_1 xa xb xc ya yb yc za) (v57_2 xa xb xc ya yb yc za) (v57_3 xa xb xc ya yb yc za) (v57_4 xa xb xc ya yb yc za) (v57_5 xa xb xc ya yb yc za) zb) (v57_2 (v57_0 xa xb xc ya yb yc za) (v57_1 xa xb xc ya yb yc za) (v57_2 xa xb xc ya yb yc za) (v57_3 xa xb xc ya yb yc za) (v57_4 xa xb xc ya yb yc za) (v57_5 xa xb xc ya yb yc za) zb) za && (q58 (v57_0 (v57_0 xa xb xc ya yb yc za) (v57_1 xa xb xc ya yb yc za) (v57_2 xa xb xc ya yb yc za) (v57_3 xa xb xc ya yb yc za) (v57_4 xa xb xc ya yb yc za) (v57_5 xa xb xc ya yb yc za) zb) (v57_1 (v57_0 xa xb xc ya yb yc za) (v57_1 xa xb xc ya yb yc za) (v57_2 xa xb xc ya yb yc za) (v57_3 xa xb xc ya yb yc za) (v57_4 xa xb xc ya yb yc za) (v57_5 xa xb xc ya yb yc za) zb) (v57_2 (v57_0 xa xb xc ya yb yc za) (v57_1 xa xb xc ya yb yc za) (v57_2 xa xb xc ya yb yc za) (v57_3 xa xb xc ya yb yc za) (v57_4 xa xb xc ya yb yc za) (v57_5 xa xb xc ya yb yc za) zb) zb && q59 (v57_0 (v57_0 xa xb xc ya yb yc za) (v57_1 xa xb xc ya yb yc za) (v57_2 xa xb xc ya yb yc za) (v57_3 xa xb xc ya yb yc za) (v57_4 xa xb xc ya yb yc za) (v57_5 xa xb xc ya yb yc za) zb) (v57_1 (v57_0 xa xb xc ya yb yc za) (v57_1 xa xb xc ya yb yc za) (v57_2 xa xb xc ya yb yc za) (v57_3 xa xb xc ya yb yc za) (v57_4 xa xb xc ya yb yc za) (v57_5 xa xb xc ya yb yc za) zb) (v57_2 (v57_0 xa xb xc ya yb yc za) (v57_1 xa xb xc ya yb yc za) (v57_2 xa xb xc ya yb yc za) (v57_3 xa xb xc ya yb yc za) (v57_4 xa xb xc ya yb yc za) (v57_5 xa xb xc ya yb yc za) zb) (v58_0 (v57_0 (v57_0 xa xb xc ya yb yc za) (v57_1 xa xb xc ya yb yc za) (v57_2 xa xb xc ya yb yc za) (v57_3 xa xb xc ya yb yc za) (v57_4 xa xb xc ya yb yc za) (v57_5 xa xb xc ya yb yc za) zb) (v57_1 (v57_0 xa xb xc ya yb yc za) (v57_1 xa xb xc ya yb yc za) (v57_2 xa xb xc ya yb yc za) (v57_3 xa xb xc ya yb yc za) (v57_4 xa xb xc ya yb yc za) (v57_5 xa xb xc ya yb yc za) zb) (v57_2 (v57_0 xa xb xc ya yb yc za) (v57_1 xa xb xc ya yb yc za) (v57_2 xa xb xc ya yb yc za) (v57_3 xa xb xc ya yb yc za) (v57_4 xa xb xc ya yb yc za) (v57_5 xa xb xc ya yb yc za) zb) za) (v58_0 (v57_0 (v57_0 xa xb xc ya yb yc za) (v57_1 xa xb xc ya yb yc za) (v57_2 xa xb xc ya yb yc za) (v57_3 xa xb xc ya yb yc za) (v57_4 xa xb xc ya yb yc za) (v57_5 xa xb xc ya yb yc za) zb) (v57_1 (v57_0 xa xb xc ya yb yc za) (v57_1 xa xb xc ya yb yc za) (v57_2 xa xb xc ya yb yc za) (v57_3 xa xb xc ya yb yc za) (v57_4 xa xb xc ya yb yc za) (v57_5 xa xb xc ya yb yc za) zb) (v57_2 (v57_0 xa xb xc ya yb yc za) (v57_1 xa xb xc ya yb yc za) (v57_2 xa xb xc ya yb yc za) (v57_3 xa xb xc ya yb yc za) (v57_4 xa xb xc ya yb yc za) (v57_5 xa xb xc ya yb yc za) zb) zb)))))))))
def v45_0 (xa xb xc:List AV) (ya yb yc za zb:Int):List AV:=(bif !(v53_0 xa xb xc) then (v56_0 xa xb xc) else (bif !(v37_0 ya yb yc) then (v56_0 xa xb xc) else (bif !(v51_0 za zb) then (v56_0 xa xb xc) else (v57_0 (v57_0 xa xb xc ya yb yc za) (v57_1 xa xb xc ya yb yc za) (v57_2 xa xb xc ya yb yc za) (v57_3 xa xb xc ya yb yc za) (v57_4 xa xb xc ya yb yc za) (v57_5 xa xb xc ya yb yc za) zb))))
def v45_1 (xa xb xc:List AV) (ya yb yc za zb:Int):List AV:=(bif !(v53_0 xa xb xc) then (v56_1 xa xb xc) else (bif !(v37_0 ya yb yc) then (v56_1 xa xb xc) else (bif !(v51_0 za zb) then (v56_1 xa xb xc) else (v57_1 (v57_0 xa xb xc ya yb yc za) (v57_1 xa xb xc ya yb yc za) (v57_2 xa xb xc ya yb yc za) (v57_3 xa xb xc ya yb yc za) (v57_4 xa xb xc ya yb yc za) (v57_5 xa xb xc ya yb yc za) zb))))
def v45_2 (xa xb xc:List AV) (ya yb yc za zb:Int):List AV:=(bif !(v53_0 xa xb xc) then (v56_2 xa xb xc) else (bif !(v37_0 ya yb yc) then (v56_2 xa xb xc) else (bif !(v51_0 za zb) then (v56_2 xa xb xc) else (v57_2 (v57_0 xa xb xc ya yb yc za) (v57_1 xa xb xc ya yb yc za) (v57_2 xa xb xc ya yb yc za) (v57_3 xa xb xc ya yb yc za) (v57_4 xa xb xc ya yb yc za) (v57_5 xa xb xc ya yb yc za) zb))))
def v45_3 (xa xb xc:List AV) (ya yb yc za zb:Int):Int:=(bif !(v53_0 xa xb xc) then ya else (bif !(v37_0 ya yb yc) then ya else (bif !(v51_0 za zb) then ya else (v57_3 (v57_0 xa xb xc ya yb yc za) (v57_1 xa xb xc ya yb yc za) (v57_2 xa xb xc ya yb yc za) (v57_3 xa xb xc ya yb yc za) (v57_4 xa xb xc ya yb yc za) (v57_5 xa xb xc ya yb yc za) zb))))
def v45_4 (xa xb xc:List AV) (ya yb yc za zb:Int):Int:=(bif !(v53_0 xa xb xc) then yb else (bif !(v37_0 ya yb yc) then yb else (bif !(v51_0 za zb) then yb else (v57_4 (v57_0 xa xb xc ya yb yc za) (v57_1 xa xb xc ya yb yc za) (v57_2 xa xb xc ya yb yc za) (v57_3 xa xb xc ya yb yc za) (v57_4 xa xb xc ya yb yc za) (v57_5 xa xb xc ya yb yc za) zb))))
def v45_5 (xa xb xc:List AV) (ya yb yc za zb:Int):Int:=(bif !(v53_0 xa xb xc) then yc else (bif !(v37_0 ya yb yc) then yc else (bif !(v51_0 za zb) then yc else (v57_5 (v57_0 xa xb xc ya yb yc za) (v57_1 xa xb xc ya yb yc za) (v57_2 xa xb xc ya yb yc za) (v57_3 xa xb xc ya yb yc za) (v57_4 xa xb xc ya yb yc za) (v57_5 xa xb xc ya yb yc za) zb))))
def v45_6 (xa xb xc:List AV) (ya yb yc za zb:Int):List AV:=(bif !(v53_0 xa xb xc) then ([]:List AV) else (bif !(v37_0 ya yb yc) then ([]:List AV) else (bif !(v51_0 za zb) then ([]:List AV) else (v59_0 (v57_0 (v57_0 xa xb xc ya yb yc za) (v57_1 xa xb xc ya yb yc za) (v57_2 xa xb xc ya yb yc za) (v57_3 xa xb xc ya yb yc za) (v57_4 xa xb xc ya yb yc za) (v57_5 xa xb xc ya yb yc za) zb) (v57_1 (v57_0 xa xb xc ya yb yc za) (v57_1 xa xb xc ya yb yc za) (v57_2 xa xb xc ya yb yc za) (v57_3 xa xb xc ya yb yc za) (v57_4 xa xb xc ya yb yc za) (v57_5 xa xb xc ya yb yc za) zb) (v57_2 (v57_0 xa xb xc ya yb yc za) (v57_1 xa xb xc ya yb yc za) (v57_2 xa xb xc ya yb yc za) (v57_3 xa xb xc ya yb yc za) (v57_4 xa xb xc ya yb yc za) (v57_5 xa xb xc ya yb yc za) zb) (v58_0 (v57_0 (v57_0 xa xb xc ya yb yc za) (v57_1 xa xb xc ya yb yc za) (v57_2 xa xb xc ya yb yc za) (v57_3 xa xb xc ya yb yc za) (v57_4 xa xb xc ya yb yc za) (v57_5 xa xb xc ya yb yc za) zb) (v57_1 (v57_0 xa xb xc ya yb yc za) (v57_1 xa xb xc ya yb yc za) (v57_2 xa xb xc ya yb yc za) (v57_3 xa xb xc ya yb yc za) (v57_4 xa xb xc ya yb yc za) (v57_5 xa xb xc ya yb yc za) zb) (v57_2 (v57_0 xa xb xc ya yb yc za) (v57_1 xa xb xc ya yb yc za) (v57_2 xa xb xc ya yb yc za) (v57_3 xa xb xc ya yb yc za) (v57_4 xa xb xc ya yb yc za) (v57_5 xa xb xc ya yb yc za) zb) za) (v58_0 (v57_0 (v57_0 xa xb xc ya yb yc za) (v57_1 xa xb xc ya yb yc za) (v57_2 xa xb xc ya yb yc za) (v57_3 xa xb xc ya yb yc za) (v57_4 xa xb xc ya yb yc za) (v57_5 xa xb xc ya yb yc za) zb) (v57_1 (v57_0 xa xb xc ya yb yc za) (v57_1 xa xb xc ya yb yc za) (v57_2 xa xb xc ya yb yc za) (v57_3 xa xb xc ya yb yc za) (v57_4 xa xb xc ya yb yc za) (v57_5 xa xb xc ya yb yc za) zb) (v57_2 (v57_0 xa xb xc ya yb yc za) (v57_1 xa xb xc ya yb yc za) (v57_2 xa xb xc ya yb yc za) (v57_3 xa xb xc ya yb yc za) (v57_4 xa xb xc ya yb yc za) (v57_5 xa xb xc ya yb yc za) zb) zb)))))
def v45_7 (xa xb xc:List AV) (ya yb yc za zb:Int):Int:=(bif !(v53_0 xa xb xc) then 0 else (bif !(v37_0 ya yb yc) then 0 else (bif !(v51_0 za zb) then 0 else IntKind.i64.wrap ((v57_6 xa xb xc ya yb yc za)+(v57_6 (v57_0 xa xb xc ya yb yc za) (v57_1 xa xb xc ya yb yc za) (v57_2 xa xb xc ya yb yc za) (v57_3 xa xb xc ya yb yc za) (v57_4 xa xb xc ya yb yc za) (v57_5 xa xb xc ya yb yc za) zb)))))
theorem e45 (xa xb xc:List AV) (ya yb yc za zb:Int):funA c45 0 45 [AV.agg [AV.sl [.int .i64] xa,AV.sl [.int .i64] xb,AV.sl [.int .i64,.int .i64] xc],AV.agg [Ai ya,Ai yb,Ai yc],AV.agg [Ai za,Ai zb]]=(bif q53 xa xb xc then (bif !(v53_0 xa xb xc) then (bif q56 xa xb xc then some (AV.tup [AV.agg [AV.fl [.int .i64] (v56_0 xa xb xc),AV.fl [.int .i64] (v56_1 xa xb xc),AV.fl [.int .i64,.int .i64] (v56_2 xa xb xc)],AV.agg [Ai ya,Ai yb,Ai yc],AV.fl [.int .i64] ([]:List AV),Ai 0])
 else none)
 else (bif !(v37_0 ya yb yc) then (bif q56 xa xb xc then some (AV.tup [AV.agg [AV.fl [.int .i64] (v56_0 xa xb xc),AV.fl [.int .i64] (v56_1 xa xb xc),AV.fl [.int .i64,.int .i64] (v56_2 xa xb xc)],AV.agg [Ai ya,Ai yb,Ai yc],AV.fl [.int .i64] ([]:List AV),Ai 0])
 else none)
 else (bif !(v51_0 za zb) then (bif q56 xa xb xc then some (AV.tup [AV.agg [AV.fl [.int .i64] (v56_0 xa xb xc),AV.fl [.int .i64] (v56_1 xa xb xc),AV.fl [.int .i64,.int .i64] (v56_2 xa xb xc)],AV.agg [Ai ya,Ai yb,Ai yc],AV.fl [.int .i64] ([]:List AV),Ai 0])
 else none)
 else (bif q57 xa xb xc ya yb yc za then (bif q57 (v57_0 xa xb xc ya yb yc za) (v57_1 xa xb xc ya yb yc za) (v57_2 xa xb xc ya yb yc za) (v57_3 xa xb xc ya yb yc za) (v57_4 xa xb xc ya yb yc za) (v57_5 xa xb xc ya yb yc za) zb then (bif q58 (v57_0 (v57_0 xa xb xc ya yb yc za) (v57_1 xa xb xc ya yb yc za) (v57_2 xa xb xc ya yb yc za) (v57_3 xa xb xc ya yb yc za) (v57_4 xa xb xc ya yb yc za) (v57_5 xa xb xc ya yb yc za) zb) (v57_1 (v57_0 xa xb xc ya yb yc za) (v57_1 xa xb xc ya yb yc za) (v57_2 xa xb xc ya yb yc za) (v57_3 xa xb xc ya yb yc za) (v57_4 xa xb xc ya yb yc za) (v57_5 xa xb xc ya yb yc za) zb) (v57_2 (v57_0 xa xb xc ya yb yc za) (v57_1 xa xb xc ya yb yc za) (v57_2 xa xb xc ya yb yc za) (v57_3 xa xb xc ya yb yc za) (v57_4 xa xb xc ya yb yc za) (v57_5 xa xb xc ya yb yc za) zb) za then (bif q58 (v57_0 (v57_0 xa xb xc ya yb yc za) (v57_1 xa xb xc ya yb yc za) (v57_2 xa xb xc ya yb yc za) (v57_3 xa xb xc ya yb yc za) (v57_4 xa xb xc ya yb yc za) (v57_5 xa xb xc ya yb yc za) zb) (v57_1 (v57_0 xa xb xc ya yb yc za) (v57_1 xa xb xc ya yb yc za) (v57_2 xa xb xc ya yb yc za) (v57_3 xa xb xc ya yb yc za) (v57_4 xa xb xc ya yb yc za) (v57_5 xa xb xc ya yb yc za) zb) (v57_2 (v57_0 xa xb xc ya yb yc za) (v57_1 xa xb xc ya yb yc za) (v57_2 xa xb xc ya yb yc za) (v57_3 xa xb xc ya yb yc za) (v57_4 xa xb xc ya yb yc za) (v57_5 xa xb xc ya yb yc za) zb) zb then (bif q59 (v57_0 (v57_0 xa xb xc ya yb yc za) (v57_1 xa xb xc ya yb yc za) (v57_2 xa xb xc ya yb yc za) (v57_3 xa xb xc ya yb yc za) (v57_4 xa xb xc ya yb yc za) (v57_5 xa xb xc ya yb yc za) zb) (v57_1 (v57_0 xa xb xc ya yb yc za) (v57_1 xa xb xc ya yb yc za) (v57_2 xa xb xc ya yb yc za) (v57_3 xa xb xc ya yb yc za) (v57_4 xa xb xc ya yb yc za) (v57_5 xa xb xc ya yb yc za) zb) (v57_2 (v57_0 xa xb xc ya yb yc za) (v57_1 xa xb xc ya yb yc za) (v57_2 xa xb xc ya yb yc za) (v57_3 xa xb xc ya yb yc za) (v57_4 xa xb xc ya yb yc za) (v57_5 xa xb xc ya yb yc za) zb) (v58_0 (v57_0 (v57_0 xa xb xc ya yb yc za) (v57_1 xa xb xc ya yb yc za) (v57_2 xa xb xc ya yb yc za) (v57_3 xa xb xc ya yb yc za) (v57_4 xa xb xc ya yb yc za) (v57_5 xa xb xc ya yb yc za) zb) (v57_1 (v57_0 xa xb xc ya yb yc za) (v57_1 xa xb xc ya yb yc za) (v57_2 xa xb xc ya yb yc za) (v57_3 xa xb xc ya yb yc za) (v57_4 xa xb xc ya yb yc za) (v57_5 xa xb xc ya yb yc za) zb) (v57_2 (v57_0 xa xb xc ya yb yc za) (v57_1 xa xb xc ya yb yc za) (v57_2 xa xb xc ya yb yc za) (v57_3 xa xb xc ya yb yc za) (v57_4 xa xb xc ya yb yc za) (v57_5 xa xb xc ya yb yc za) zb) za) (v58_0 (v57_0 (v57_0 xa xb xc ya yb yc za) (v57_1 xa xb xc ya yb yc za) (v57_2 xa xb xc ya yb yc za) (v57_3 xa xb xc ya yb yc za) (v57_4 xa xb xc ya yb yc za) (v57_5 xa xb xc ya yb yc za) zb) (v57_1 (v57_0 xa xb xc ya yb yc za) (v57_1 xa xb xc ya yb yc za) (v57_2 xa xb xc ya yb yc za) (v57_3 xa xb xc ya yb yc za) (v57_4 xa xb xc ya yb yc za) (v57_5 xa xb xc ya yb yc za) zb) (v57_2 (v57_0 xa xb xc ya yb yc za) (v57_1 xa xb xc ya yb yc za) (v57_2 xa xb xc ya yb yc za) (v57_3 xa xb xc ya yb yc za) (v57_4 xa xb xc ya yb yc za) (v57_5 xa xb xc ya yb yc za) zb) zb) then some (AV.tup [AV.agg [AV.fl [.int .i64] (v57_0 (v57_0 xa xb xc ya yb yc za) (v57_1 xa xb xc ya yb yc za) (v57_2 xa xb xc ya yb yc za) (v57_3 xa xb xc ya yb yc za) (v57_4 xa xb xc ya yb yc za) (v57_5 xa xb xc ya yb yc za) zb),AV.fl [.int .i64] (v57_1 (v57_0 xa xb xc ya yb yc za) (v57_1 xa xb xc ya yb yc za) (v57_2 xa xb xc ya yb yc za) (v57_3 xa xb xc ya yb yc za) (v57_4 xa xb xc ya yb yc za) (v57_5 xa xb xc ya yb yc za) zb),AV.fl [.int .i64,.int .i64] (v57_2 (v57_0 xa xb xc ya yb yc za) (v57_1 xa xb xc ya yb yc za) (v57_2 xa xb xc ya yb yc za) (v57_3 xa xb xc ya yb yc za) (v57_4 xa xb xc ya yb yc za) (v57_5 xa xb xc ya yb yc za) zb)],AV.agg [Ai (v57_3 (v57_0 xa xb xc ya yb yc za) (v57_1 xa xb xc ya yb yc za) (v57_2 xa xb xc ya yb yc za) (v57_3 xa xb xc ya yb yc za) (v57_4 xa xb xc ya yb yc za) (v57_5 xa xb xc ya yb yc za) zb),Ai (v57_4 (v57_0 xa xb xc ya yb yc za) (v57_1 xa xb xc ya yb yc za) (v57_2 xa xb xc ya yb yc za) (v57_3 xa xb xc ya yb yc za) (v57_4 xa xb xc ya yb yc za) (v57_5 xa xb xc ya yb yc za) zb),Ai (v57_5 (v57_0 xa xb xc ya yb yc za) (v57_1 xa xb xc ya yb yc za) (v57_2 xa xb xc ya yb yc za) (v57_3 xa xb xc ya yb yc za) (v57_4 xa xb xc ya yb yc za) (v57_5 xa xb xc ya yb yc za) zb)],AV.fl [.int .i64] (v59_0 (v57_0 (v57_0 xa xb xc ya yb yc za) (v57_1 xa xb xc ya yb yc za) (v57_2 xa xb xc ya yb yc za) (v57_3 xa xb xc ya yb yc za) (v57_4 xa xb xc ya yb yc za) (v57_5 xa xb xc ya yb yc za) zb) (v57_1 (v57_0 xa xb xc ya yb yc za) (v57_1 xa xb xc ya yb yc za) (v57_2 xa xb xc ya yb yc za) (v57_3 xa xb xc ya yb yc za) (v57_4 xa xb xc ya yb yc za) (v57_5 xa xb xc ya yb yc za) zb) (v57_2 (v57_0 xa xb xc ya yb yc za) (v57_1 xa xb xc ya yb yc za) (v57_2 xa xb xc ya yb yc za) (v57_3 xa xb xc ya yb yc za) (v57_4 xa xb xc ya yb yc za) (v57_5 xa xb xc ya yb yc za) zb) (v58_0 (v57_0 (v57_0 xa xb xc ya yb yc za) (v57_1 xa xb xc ya yb yc za) (v57_2 xa xb xc ya yb yc za) (v57_3 xa xb xc ya yb yc za) (v57_4 xa xb xc ya yb yc za) (v57_5 xa xb xc ya yb yc za) zb) (v57_1 (v57_0 xa xb xc ya yb yc za) (v57_1 xa xb xc ya yb yc za) (v57_2 xa xb xc ya yb yc za) (v57_3 xa xb xc ya yb yc za) (v57_4 xa xb xc ya yb yc za) (v57_5 xa xb xc ya yb yc za) zb) (v57_2 (v57_0 xa xb xc ya yb yc za) (v57_1 xa xb xc ya yb yc za) (v57_2 xa xb xc ya yb yc za) (v57_3 xa xb xc ya yb yc za) (v57_4 xa xb xc ya yb yc za) (v57_5 xa xb xc ya yb yc za) zb) za) (v58_0 (v57_0 (v57_0 xa xb xc ya yb yc za) (v57_1 xa xb xc ya yb yc za) (v57_2 xa xb xc ya yb yc za) (v57_3 xa xb xc ya yb yc za) (v57_4 xa xb xc ya yb yc za) (v57_5 xa xb xc ya yb yc za) zb) (v57_1 (v57_0 xa xb xc ya yb yc za) (v57_1 xa xb xc ya yb yc za) (v57_2 xa xb xc ya yb yc za) (v57_3 xa xb xc ya yb yc za) (v57_4 xa xb xc ya yb yc za) (v57_5 xa xb xc ya yb yc za) zb) (v57_2 (v57_0 xa xb xc ya yb yc za) (v57_1 xa xb xc ya yb yc za) (v57_2 xa xb xc ya yb yc za) (v57_3 xa xb xc ya yb yc za) (v57_4 xa xb xc ya yb yc za) (v57_5 xa xb xc ya yb yc za) zb) zb)),Ai (IntKind.i64.wrap ((v57_6 xa xb xc ya yb yc za)+(v57_6 (v57_0 xa xb xc ya yb yc za) (v57_1 xa xb xc ya yb yc za) (v57_2 xa xb xc ya yb yc za) (v57_3 xa xb xc ya yb yc za) (v57_4 xa xb xc ya yb yc za) (v57_5 xa xb xc ya yb yc za) zb)))])
 else none)
 else none)
 else none)
 else none)
 else none))))
 else none):=by kernel_rfl
def m45:TModel
 | [.agg [.sl g0 xa,.sl g1 xb,.sl g2 xc],.agg [.int .i64 ya,.int .i64 yb,.int .i64 yc],.agg [.int .i64 za,.int .i64 zb]]=>bif ctsEq g0 ([.int .i64]) && ctsEq g1 ([.int .i64]) && ctsEq g2 ([.int .i64,.int .i64]) then some (q45 xa xb xc ya yb yc za zb,AV.tup [AV.agg [AV.fl [.int .i64] (v45_0 xa xb xc ya yb yc za zb),AV.fl [.int .i64] (v45_1 xa xb xc ya yb yc za zb),AV.fl [.int .i64,.int .i64] (v45_2 xa xb xc ya yb yc za zb)],AV.agg [AV.int .i64 (v45_3 xa xb xc ya yb yc za zb),AV.int .i64 (v45_4 xa xb xc ya yb yc za zb),AV.int .i64 (v45_5 xa xb xc ya yb yc za zb)],AV.fl [.int .i64] (v45_6 xa xb xc ya yb yc za zb),AV.int .i64 (v45_7 xa xb xc ya yb yc za zb)]) else none
 | _=>none
theorem k45:Known Tryz.prog 45:=⟨Tryz.f45,Tryz.func45,by kernel_rfl,by kernel_rfl⟩
theorem meets45:Meets Tryz.prog 45 m45:=by
 refine meet (f:=Tryz.f45) (l:=[]) (hs:=[(45,999,[6,7,8,9])]) (ts:=[(37,m37),(51,m51),(53,m53),(56,m56),(57,m57),(58,m58),(59,m59)]) (ws:=[]) (is:=[]) (ls:=[]) (lvl:=0) mixed k45 Tryz.func45 (by kernel_rfl) noLoop (allT_cons meets37 (allT_cons meets51 (allT_cons meets53 (allT_cons meets56 (allT_cons meets57 (allT_cons meets58 (allT_cons meets59 allT_nil))))))) allM_nil noI fun w xs us r hl hv h=>?_
 unfold m45 at h
 split at h
 ·rename_i g0 xa g1 xb g2 xc ya yb yc za zb
  obtain ⟨hg,h⟩:=bif_pair h
  simp only [Bool.and_eq_true] at hg
  obtain ⟨⟨q0,q1⟩,q2⟩:=hg
  obtain rfl:=ctsEq_eq _ _ q0
  obtain rfl:=ctsEq_eq _ _ q1
  obtain rfl:=ctsEq_eq _ _ q2
  obtain ⟨h1,rfl⟩:=pair_inj h
  exact (e45 xa xb xc ya yb yc za zb).trans ((brL (br (fun b=>some (AV.tup [AV.agg [AV.fl [.int .i64] (bif b then (v56_0 xa xb xc) else (bif !(v37_0 ya yb yc) then (v56_0 xa xb xc) else (bif !(v51_0 za zb) then (v56_0 xa xb xc) else (v57_0 (v57_0 xa xb xc ya yb yc za) (v57_1 xa xb xc ya yb yc za) (v57_2 xa xb xc ya yb yc za) (v57_3 xa xb xc ya yb yc za) (v57_4 xa xb xc ya yb yc za) (v57_5 xa xb xc ya yb yc za) zb)))),AV.fl [.int .i64] (bif b then (v56_1 xa xb xc) else (bif !(v37_0 ya yb yc) then (v56_1 xa xb xc) else (bif !(v51_0 za zb) then (v56_1 xa xb xc) else (v57_1 (v57_0 xa xb xc ya yb yc za) (v57_1 xa xb xc ya yb yc za) (v57_2 xa xb xc ya yb yc za) (v57_3 xa xb xc ya yb yc za) (v57_4 xa xb xc ya yb yc za) (v57_5 xa xb xc ya yb yc za) zb)))),AV.fl [.int .i64,.int .i64] (bif b then (v56_2 xa xb xc) else (bif !(v37_0 ya yb yc) then (v56_2 xa xb xc) else (bif !(v51_0 za zb) then (v56_2 xa xb xc) else (v57_2 (v57_0 xa xb xc ya yb yc za) (v57_1 xa xb xc ya yb yc za) (v57_2 xa xb xc ya yb yc za) (v57_3 xa xb xc ya yb yc za) (v57_4 xa xb xc ya yb yc za) (v57_5 xa xb xc ya yb yc za) zb))))],AV.agg [Ai (bif b then ya else (bif !(v37_0 ya yb yc) then ya else (bif !(v51_0 za zb) then ya else (v57_3 (v57_0 xa xb xc ya yb yc za) (v57_1 xa xb xc ya yb yc za) (v57_2 xa xb xc ya yb yc za) (v57_3 xa xb xc ya yb yc za) (v57_4 xa xb xc ya yb yc za) (v57_5 xa xb xc ya yb yc za) zb)))),Ai (bif b then yb else (bif !(v37_0 ya yb yc) then yb else (bif !(v51_0 za zb) then yb else (v57_4 (v57_0 xa xb xc ya yb yc za) (v57_1 xa xb xc ya yb yc za) (v57_2 xa xb xc ya yb yc za) (v57_3 xa xb xc ya yb yc za) (v57_4 xa xb xc ya yb yc za) (v57_5 xa xb xc ya yb yc za) zb)))),Ai (bif b then yc else (bif !(v37_0 ya yb yc) then yc else (bif !(v51_0 za zb) then yc else (v57_5 (v57_0 xa xb xc ya yb yc za) (v57_1 xa xb xc ya yb yc za) (v57_2 xa xb xc ya yb yc za) (v57_3 xa xb xc ya yb yc za) (v57_4 xa xb xc ya yb yc za) (v57_5 xa xb xc ya yb yc za) zb))))],AV.fl [.int .i64] (bif b then ([]:List AV) else (bif !(v37_0 ya yb yc) then ([]:List AV) else (bif !(v51_0 za zb) then ([]:List AV) else (v59_0 (v57_0 (v57_0 xa xb xc ya yb yc za) (v57_1 xa xb xc ya yb yc za) (v57_2 xa xb xc ya yb yc za) (v57_3 xa xb xc ya yb yc za) (v57_4 xa xb xc ya yb yc za) (v57_5 xa xb xc ya yb yc za) zb) (v57_1 (v57_0 xa xb xc ya yb yc za) (v57_1 xa xb xc ya yb yc za) (v57_2 xa xb xc ya yb yc za) (v57_3 xa xb xc ya yb yc za) (v57_4 xa xb xc ya yb yc za) (v57_5 xa xb xc ya yb yc za) zb) (v57_2 (v57_0 xa xb xc ya yb yc za) (v57_1 xa xb xc ya yb yc za) (v57_2 xa xb xc ya yb yc za) (v57_3 xa xb xc ya yb yc za) (v57_4 xa xb xc ya yb yc za) (v57_5 xa xb xc ya yb yc za) zb) (v58_0 (v57_0 (v57_0 xa xb xc ya yb yc za) (v57_1 xa xb xc ya yb yc za) (v57_2 xa xb xc ya yb yc za) (v57_3 xa xb xc ya yb yc za) (v57_4 xa xb xc ya yb yc za) (v57_5 xa xb xc ya yb yc za) zb) (v57_1 (v57_0 xa xb xc ya yb yc za) (v57_1 xa xb xc ya yb yc za) (v57_2 xa xb xc ya yb yc za) (v57_3 xa xb xc ya yb yc za) (v57_4 xa xb xc ya yb yc za) (v57_5 xa xb xc ya yb yc za) zb) (v57_2 (v57_0 xa xb xc ya yb yc za) (v57_1 xa xb xc ya yb yc za) (v57_2 xa xb xc ya yb yc za) (v57_3 xa xb xc ya yb yc za) (v57_4 xa xb xc ya yb yc za) (v57_5 xa xb xc ya yb yc za) zb) za) (v58_0 (v57_0 (v57_0 xa xb xc ya yb yc za) (v57_1 xa xb xc ya yb yc za) (v57_2 xa xb xc ya yb yc za) (v57_3 xa xb xc ya yb yc za) (v57_4 xa xb xc ya yb yc za) (v57_5 xa xb xc ya yb yc za) zb) (v57_1 (v57_0 xa xb xc ya yb yc za) (v57_1 xa xb xc ya yb yc za) (v57_2 xa xb xc ya yb yc za) (v57_3 xa xb xc ya yb yc za) (v57_4 xa xb xc ya yb yc za) (v57_5 xa xb xc ya yb yc za) zb) (v57_2 (v57_0 xa xb xc ya yb yc za) (v57_1 xa xb xc ya yb yc za) (v57_2 xa xb xc ya yb yc za) (v57_3 xa xb xc ya yb yc za) (v57_4 xa xb xc ya yb yc za) (v57_5 xa xb xc ya yb yc za) zb) zb))))),Ai (bif b then 0 else (bif !(v37_0 ya yb yc) then 0 else (bif !(v51_0 za zb) then 0 else IntKind.i64.wrap ((v57_6 xa xb xc ya yb yc za)+(v57_6 (v57_0 xa xb xc ya yb yc za) (v57_1 xa xb xc ya yb yc za) (v57_2 xa xb xc ya yb yc za) (v57_3 xa xb xc ya yb yc za) (v57_4 xa xb xc ya yb yc za) (v57_5 xa xb xc ya yb yc za) zb)))))])) (brL1 (fun _=>rfl)) (br (fun b=>some (AV.tup [AV.agg [AV.fl [.int .i64] (bif b then (v56_0 xa xb xc) else (bif !(v51_0 za zb) then (v56_0 xa xb xc) else (v57_0 (v57_0 xa xb xc ya yb yc za) (v57_1 xa xb xc ya yb yc za) (v57_2 xa xb xc ya yb yc za) (v57_3 xa xb xc ya yb yc za) (v57_4 xa xb xc ya yb yc za) (v57_5 xa xb xc ya yb yc za) zb))),AV.fl [.int .i64] (bif b then (v56_1 xa xb xc) else (bif !(v51_0 za zb) then (v56_1 xa xb xc) else (v57_1 (v57_0 xa xb xc ya yb yc za) (v57_1 xa xb xc ya yb yc za) (v57_2 xa xb xc ya yb yc za) (v57_3 xa xb xc ya yb yc za) (v57_4 xa xb xc ya yb yc za) (v57_5 xa xb xc ya yb yc za) zb))),AV.fl [.int .i64,.int .i64] (bif b then (v56_2 xa xb xc) else (bif !(v51_0 za zb) then (v56_2 xa xb xc) else (v57_2 (v57_0 xa xb xc ya yb yc za) (v57_1 xa xb xc ya yb yc za) (v57_2 xa xb xc ya yb yc za) (v57_3 xa xb xc ya yb yc za) (v57_4 xa xb xc ya yb yc za) (v57_5 xa xb xc ya yb yc za) zb)))],AV.agg [Ai (bif b then ya else (bif !(v51_0 za zb) then ya else (v57_3 (v57_0 xa xb xc ya yb yc za) (v57_1 xa xb xc ya yb yc za) (v57_2 xa xb xc ya yb yc za) (v57_3 xa xb xc ya yb yc za) (v57_4 xa xb xc ya yb yc za) (v57_5 xa xb xc ya yb yc za) zb))),Ai (bif b then yb else (bif !(v51_0 za zb) then yb else (v57_4 (v57_0 xa xb xc ya yb yc za) (v57_1 xa xb xc ya yb yc za) (v57_2 xa xb xc ya yb yc za) (v57_3 xa xb xc ya yb yc za) (v57_4 xa xb xc ya yb yc za) (v57_5 xa xb xc ya yb yc za) zb))),Ai (bif b then yc else (bif !(v51_0 za zb) then yc else (v57_5 (v57_0 xa xb xc ya yb yc za) (v57_1 xa xb xc ya yb yc za) (v57_2 xa xb xc ya yb yc za) (v57_3 xa xb xc ya yb yc za) (v57_4 xa xb xc ya yb yc za) (v57_5 xa xb xc ya yb yc za) zb)))],AV.fl [.int .i64] (bif b then ([]:List AV) else (bif !(v51_0 za zb) then ([]:List AV) else (v59_0 (v57_0 (v57_0 xa xb xc ya yb yc za) (v57_1 xa xb xc ya yb yc za) (v57_2 xa xb xc ya yb yc za) (v57_3 xa xb xc ya yb yc za) (v57_4 xa xb xc ya yb yc za) (v57_5 xa xb xc ya yb yc za) zb) (v57_1 (v57_0 xa xb xc ya yb yc za) (v57_1 xa xb xc ya yb yc za) (v57_2 xa xb xc ya yb yc za) (v57_3 xa xb xc ya yb yc za) (v57_4 xa xb xc ya yb yc za) (v57_5 xa xb xc ya yb yc za) zb) (v57_2 (v57_0 xa xb xc ya yb yc za) (v57_1 xa xb xc ya yb yc za) (v57_2 xa xb xc ya yb yc za) (v57_3 xa xb xc ya yb yc za) (v57_4 xa xb xc ya yb yc za) (v57_5 xa xb xc ya yb yc za) zb) (v58_0 (v57_0 (v57_0 xa xb xc ya yb yc za) (v57_1 xa xb xc ya yb yc za) (v57_2 xa xb xc ya yb yc za) (v57_3 xa xb xc ya yb yc za) (v57_4 xa xb xc ya yb yc za) (v57_5 xa xb xc ya yb yc za) zb) (v57_1 (v57_0 xa xb xc ya yb yc za) (v57_1 xa xb xc ya yb yc za) (v57_2 xa xb xc ya yb yc za) (v57_3 xa xb xc ya yb yc za) (v57_4 xa xb xc ya yb yc za) (v57_5 xa xb xc ya yb yc za) zb) (v57_2 (v57_0 xa xb xc ya yb yc za) (v57_1 xa xb xc ya yb yc za) (v57_2 xa xb xc ya yb yc za) (v57_3 xa xb xc ya yb yc za) (v57_4 xa xb xc ya yb yc za) (v57_5 xa xb xc ya yb yc za) zb) za) (v58_0 (v57_0 (v57_0 xa xb xc ya yb yc za) (v57_1 xa xb xc ya yb yc za) (v57_2 xa xb xc ya yb yc za) (v57_3 xa xb xc ya yb yc za) (v57_4 xa xb xc ya yb yc za) (v57_5 xa xb xc ya yb yc za) zb) (v57_1 (v57_0 xa xb xc ya yb yc za) (v57_1 xa xb xc ya yb yc za) (v57_2 xa xb xc ya yb yc za) (v57_3 xa xb xc ya yb yc za) (v57_4 xa xb xc ya yb yc za) (v57_5 xa xb xc ya yb yc za) zb) (v57_2 (v57_0 xa xb xc ya yb yc za) (v57_1 xa xb xc ya yb yc za) (v57_2 xa xb xc ya yb yc za) (v57_3 xa xb xc ya yb yc za) (v57_4 xa xb xc ya yb yc za) (v57_5 xa xb xc ya yb yc za) zb) zb)))),Ai (bif b then 0 else (bif !(v51_0 za zb) then 0 else IntKind.i64.wrap ((v57_6 xa xb xc ya yb yc za)+(v57_6 (v57_0 xa xb xc ya yb yc za) (v57_1 xa xb xc ya yb yc za) (v57_2 xa xb xc ya yb yc za) (v57_3 xa xb xc ya yb yc za) (v57_4 xa xb xc ya yb yc za) (v57_5 xa xb xc ya yb yc za) zb))))])) (brL1 (fun _=>rfl)) (br (fun b=>some (AV.tup [AV.agg [AV.fl [.int .i64] (bif b then (v56_0 xa xb xc) else (v57_0 (v57_0 xa xb xc ya yb yc za) (v57_1 xa xb xc ya yb yc za) (v57_2 xa xb xc ya yb yc za) (v57_3 xa xb xc ya yb yc za) (v57_4 xa xb xc ya yb yc za) (v57_5 xa xb xc ya yb yc za) zb)),AV.fl [.int .i64] (bif b then (v56_1 xa xb xc) else (v57_1 (v57_0 xa xb xc ya yb yc za) (v57_1 xa xb xc ya yb yc za) (v57_2 xa xb xc ya yb yc za) (v57_3 xa xb xc ya yb yc za) (v57_4 xa xb xc ya yb yc za) (v57_5 xa xb xc ya yb yc za) zb)),AV.fl [.int .i64,.int .i64] (bif b then (v56_2 xa xb xc) else (v57_2 (v57_0 xa xb xc ya yb yc za) (v57_1 xa xb xc ya yb yc za) (v57_2 xa xb xc ya yb yc za) (v57_3 xa xb xc ya yb yc za) (v57_4 xa xb xc ya yb yc za) (v57_5 xa xb xc ya yb yc za) zb))],AV.agg [Ai (bif b then ya else (v57_3 (v57_0 xa xb xc ya yb yc za) (v57_1 xa xb xc ya yb yc za) (v57_2 xa xb xc ya yb yc za) (v57_3 xa xb xc ya yb yc za) (v57_4 xa xb xc ya yb yc za) (v57_5 xa xb xc ya yb yc za) zb)),Ai (bif b then yb else (v57_4 (v57_0 xa xb xc ya yb yc za) (v57_1 xa xb xc ya yb yc za) (v57_2 xa xb xc ya yb yc za) (v57_3 xa xb xc ya yb yc za) (v57_4 xa xb xc ya yb yc za) (v57_5 xa xb xc ya yb yc za) zb)),Ai (bif b then yc else (v57_5 (v57_0 xa xb xc ya yb yc za) (v57_1 xa xb xc ya yb yc za) (v57_2 xa xb xc ya yb yc za) (v57_3 xa xb xc ya yb yc za) (v57_4 xa xb xc ya yb yc za) (v57_5 xa xb xc ya yb yc za) zb))],AV.fl [.int .i64] (bif b then ([]:List AV) else (v59_0 (v57_0 (v57_0 xa xb xc ya yb yc za) (v57_1 xa xb xc ya yb yc za) (v57_2 xa xb xc ya yb yc za) (v57_3 xa xb xc ya yb yc za) (v57_4 xa xb xc ya yb yc za) (v57_5 xa xb xc ya yb yc za) zb) (v57_1 (v57_0 xa xb xc ya yb yc za) (v57_1 xa xb xc ya yb yc za) (v57_2 xa xb xc ya yb yc za) (v57_3 xa xb xc ya yb yc za) (v57_4 xa xb xc ya yb yc za) (v57_5 xa xb xc ya yb yc za) zb) (v57_2 (v57_0 xa xb xc ya yb yc za) (v57_1 xa xb xc ya yb yc za) (v57_2 xa xb xc ya yb yc za) (v57_3 xa xb xc ya yb yc za) (v57_4 xa xb xc ya yb yc za) (v57_5 xa xb xc ya yb yc za) zb) (v58_0 (v57_0 (v57_0 xa xb xc ya yb yc za) (v57_1 xa xb xc ya yb yc za) (v57_2 xa xb xc ya yb yc za) (v57_3 xa xb xc ya yb yc za) (v57_4 xa xb xc ya yb yc za) (v57_5 xa xb xc ya yb yc za) zb) (v57_1 (v57_0 xa xb xc ya yb yc za) (v57_1 xa xb xc ya yb yc za) (v57_2 xa xb xc ya yb yc za) (v57_3 xa xb xc ya yb yc za) (v57_4 xa xb xc ya yb yc za) (v57_5 xa xb xc ya yb yc za) zb) (v57_2 (v57_0 xa xb xc ya yb yc za) (v57_1 xa xb xc ya yb yc za) (v57_2 xa xb xc ya yb yc za) (v57_3 xa xb xc ya yb yc za) (v57_4 xa xb xc ya yb yc za) (v57_5 xa xb xc ya yb yc za) zb) za) (v58_0 (v57_0 (v57_0 xa xb xc ya yb yc za) (v57_1 xa xb xc ya yb yc za) (v57_2 xa xb xc ya yb yc za) (v57_3 xa xb xc ya yb yc za) (v57_4 xa xb xc ya yb yc za) (v57_5 xa xb xc ya yb yc za) zb) (v57_1 (v57_0 xa xb xc ya yb yc za) (v57_1 xa xb xc ya yb yc za) (v57_2 xa xb xc ya yb yc za) (v57_3 xa xb xc ya yb yc za) (v57_4 xa xb xc ya yb yc za) (v57_5 xa xb xc ya yb yc za) zb) (v57_2 (v57_0 xa xb xc ya yb yc za) (v57_1 xa xb xc ya yb yc za) (v57_2 xa xb xc ya yb yc za) (v57_3 xa xb xc ya yb yc za) (v57_4 xa xb xc ya yb yc za) (v57_5 xa xb xc ya yb yc za) zb) zb))),Ai (bif b then 0 else IntKind.i64.wrap ((v57_6 xa xb xc ya yb yc za)+(v57_6 (v57_0 xa xb xc ya yb yc za) (v57_1 xa xb xc ya yb yc za) (v57_2 xa xb xc ya yb yc za) (v57_3 xa xb xc ya yb yc za) (v57_4 xa xb xc ya yb yc za) (v57_5 xa xb xc ya yb yc za) zb)))])) (brL1 (fun _=>rfl)) (brL (brL (brL (brL (brL1 (fun _=>rfl)))))))))) h1)
 ·cases h
def F29_0 (t2:List AV) (t13:Int) (h0 h1 h2 h5 h6:List AV) (h7_0 h7_1 h7_2:Int):Out ((Int × (List AV) × (List AV) × (List AV) × (List AV) × (List AV) × Int × Int × Int)) (((List AV) × (List AV) × (List AV) × (List AV) × (List AV) × Int × Int × Int)):=(bif decide (t13<(t2.length:Int)) then (bif (decide (0≤t13) && decide (t13<(t2.length:Int))) then (bif q45 h0 h1 h2 h7_0 h7_1 h7_2 (fI (t2.getD t13.toNat .undef) 0) (fI (t2.getD t13.toNat .undef) 1) then (bif (decide ((h5.length+([AV.sl [.int .i64] (v45_6 h0 h1 h2 h7_0 h7_1 h7_2 (fI (t2.getD t13.toNat .undef) 0) (fI (t2.getD t13.toNat .undef) 1))]).length)*24≤140737488355328) && decide ((h5.length+([AV.sl [.int .i64] (v45_6 h0 h1 h2 h7_0 h7_1 h7_2 (fI (t2.getD t13.toNat .undef) 0) (fI (t2.getD t13.toNat .undef) 1))]).length)≤140737488355328)) then (bif (decide ((h6.length+([AV.int .i64 (v45_7 h0 h1 h2 h7_0 h7_1 h7_2 (fI (t2.getD t13.toNat .undef) 0) (fI (t2.getD t13.toNat .undef) 1))]).length)*8≤140737488355328) && decide ((h6.length+([AV.int .i64 (v45_7 h0 h1 h2 h7_0 h7_1 h7_2 (fI (t2.getD t13.toNat .undef) 0) (fI (t2.getD t13.toNat .undef) 1))]).length)≤140737488355328)) then .next (IntKind.i64.wrap (t13+1),(v45_0 h0 h1 h2 h7_0 h7_1 h7_2 (fI (t2.getD t13.toNat .undef) 0) (fI (t2.getD t13.toNat .undef) 1)),(v45_1 h0 h1 h2 h7_0 h7_1 h7_2 (fI (t2.getD t13.toNat .undef) 0) (fI (t2.getD t13.toNat .undef) 1)),(v45_2 h0 h1 h2 h7_0 h7_1 h7_2 (fI (t2.getD t13.toNat .undef) 0) (fI (t2.getD t13.toNat .undef) 1)),h5++([AV.sl [.int .i64] (v45_6 h0 h1 h2 h7_0 h7_1 h7_2 (fI (t2.getD t13.toNat .undef) 0) (fI (t2.getD t13.toNat .undef) 1))]),h6++([AV.int .i64 (v45_7 h0 h1 h2 h7_0 h7_1 h7_2 (fI (t2.getD t13.toNat .undef) 0) (fI (t2.getD t13.toNat .undef) 1))]),(v45_3 h0 h1 h2 h7_0 h7_1 h7_2 (fI (t2.getD t13.toNat .undef) 0) (fI (t2.getD t13.toNat .undef) 1)),(v45_4 h0 h1 h2 h7_0 h7_1 h7_2 (fI (t2.getD t13.toNat .undef) 0) (fI (t2.getD t13.toNat .undef) 1)),(v45_5 h0 h1 h2 h7_0 h7_1 h7_2 (fI (t2.getD t13.toNat .undef) 0) (fI (t2.getD t13.toNat .undef) 1)))
 else .fail)
 else .fail)
 else .fail)
 else .fail)
 else .stop (h0,h1,h2,h5,h6,h7_0,h7_1,h7_2))
def R29_0 (t2:List AV):((Int × (List AV) × (List AV) × (List AV) × (List AV) × (List AV) × Int × Int × Int))→Out ((Int × (List AV) × (List AV) × (List AV) × (List AV) × (List AV) × Int × Int × Int)) (((List AV) × (List AV) × (List AV) × (List AV) × (List AV) × Int × Int × Int)):=fun s:Int × (List AV) × (List AV) × (List AV) × (List AV) × (List AV) × Int × Int × Int=>F29_0 t2 s.1 s.2.1 s.2.2.1 s.2.2.2.1 s.2.2.2.2.1 s.2.2.2.2.2.1 s.2.2.2.2.2.2.1 s.2.2.2.2.2.2.2.1 s.2.2.2.2.2.2.2.2
def E29_0 (t2:List AV):((Int × (List AV) × (List AV) × (List AV) × (List AV) × (List AV) × Int × Int × Int))→St:=fun s:Int × (List AV) × (List AV) × (List AV) × (List AV) × (List AV) × Int × Int × Int=>⟨[(2,AV.sl [.int .i64,.int .i64] t2),(6,AV.ptr [0,6] 0 0),(9,AV.ptr [0,9] 0 0),(10,AV.own [0,10]),(11,AV.own [0,11]),(12,AV.ptr [0,12] 0 0),(13,Ai s.1)],[([0,0,9],⟨false,[.int .i64],s.2.1⟩),([0,1,9],⟨false,[.int .i64],s.2.2.1⟩),([0,2,9],⟨false,[.int .i64,.int .i64],s.2.2.2.1⟩),([0,6],⟨true,[],[AV.agg [AV.snil,AV.snil,AV.snil]]⟩),([0,9],⟨true,[],[AV.agg [AV.own [0,0,9],AV.own [0,1,9],AV.own [0,2,9]]]⟩),([0,10],⟨false,[.sl [.int .i64]],s.2.2.2.2.1⟩),([0,11],⟨false,[.int .i64],s.2.2.2.2.2.1⟩),([0,12],⟨true,[],[AV.agg [Ai s.2.2.2.2.2.2.1,Ai s.2.2.2.2.2.2.2.1,Ai s.2.2.2.2.2.2.2.2]]⟩)]⟩
def K29_0 (k:Kont):(((List AV) × (List AV) × (List AV) × (List AV) × (List AV) × Int × Int × Int))→Option AV:=fun p:(List AV) × (List AV) × (List AV) × (List AV) × (List AV) × Int × Int × Int=>k (.exit 0) ⟨[(6,AV.ptr [0,6] 0 0),(9,AV.ptr [0,9] 0 0),(10,AV.own [0,10]),(11,AV.own [0,11])],[([0,0,9],⟨false,[.int .i64],p.1⟩),([0,1,9],⟨false,[.int .i64],p.2.1⟩),([0,2,9],⟨false,[.int .i64,.int .i64],p.2.2.1⟩),([0,6],⟨true,[],[AV.agg [AV.snil,AV.snil,AV.snil]]⟩),([0,9],⟨true,[],[AV.agg [AV.own [0,0,9],AV.own [0,1,9],AV.own [0,2,9]]]⟩),([0,10],⟨false,[.sl [.int .i64]],p.2.2.2.1⟩),([0,11],⟨false,[.int .i64],p.2.2.2.2.1⟩),([0,12],⟨true,[],[AV.agg [Ai p.2.2.2.2.2.1,Ai p.2.2.2.2.2.2.1,Ai p.2.2.2.2.2.2.2]]⟩)]⟩
def l29_0:LModel:=fun _ _ st k=>match st with
 | ⟨[(2,.sl g0 t2),(6,.ptr g1 g2 g3),(9,.ptr g4 g5 g6),(10,.own g7),(11,.own g8),(12,.ptr g9 g10 g11),(13,.int .i64 t13)],[(g12,⟨false,g13,h0⟩),(g14,⟨false,g15,h1⟩),(g16,⟨false,g17,h2⟩),(g18,⟨true,[],[.agg [.snil,.snil,.snil]]⟩),(g19,⟨true,[],[.agg [.own g20,.own g21,.own g22]]⟩),(g23,⟨false,g24,h5⟩),(g25,⟨false,g26,h6⟩),(g27,⟨true,[],[.agg [.int .i64 h7_0,.int .i64 h7_1,.int .i64 h7_2]]⟩)]⟩=>bif ctsEq g0 ([.int .i64,.int .i64]) && nmEq g1 ([0,6]) && Nat.beq g2 0 && Nat.beq g3 0 && nmEq g4 ([0,9]) && Nat.beq g5 0 && Nat.beq g6 0 && nmEq g7 ([0,10]) && nmEq g8 ([0,11]) && nmEq g9 ([0,12]) && Nat.beq g10 0 && Nat.beq g11 0 && nmEq g12 ([0,0,9]) && ctsEq g13 ([.int .i64]) && nmEq g14 ([0,1,9]) && ctsEq g15 ([.int .i64]) && nmEq g16 ([0,2,9]) && ctsEq g17 ([.int .i64,.int .i64]) && nmEq g18 ([0,6]) && nmEq g19 ([0,9]) && nmEq g20 ([0,0,9]) && nmEq g21 ([0,1,9]) && nmEq g22 ([0,2,9]) && nmEq g23 ([0,10]) && ctsEq g24 ([.sl [.int .i64]]) && nmEq g25 ([0,11]) && ctsEq g26 ([.int .i64]) && nmEq g27 ([0,12]) then ro (runW (R29_0 t2) (((t2.length:Int) - t13:Int).toNat+1) (t13,h0,h1,h2,h5,h6,h7_0,h7_1,h7_2)) none (K29_0 k) else none
 | _=>none
noncomputable def c29:Cfg:=cfg Tryz.prog [(29,0,[2,6,9,10,11,12,13]),(29,999,[6,7,8]),(29,1000,[6,9,10,11]),(29,1001,[2,6,9,10,11,12,13])] [(36,m36),(37,m37),(38,m38),(44,m44),(45,m45)] [] [] [(29,0,l29_0)]
theorem s29_0 (ce:CallE) (t2:List AV) (t13:Int) (h0 h1 h2 h5 h6:List AV) (h7_0 h7_1 h7_2:Int) (next:St→Option AV) (k:Kont):stepA (codeA c29 ce [] 29 0 (sub [1,1,1,1,1,1,0,1,0,0] (body Tryz.f29))) (normA [] [2,6,9,10,11,12,13]) next ⟨[(2,AV.sl [.int .i64,.int .i64] t2),(6,AV.ptr [0,6] 0 0),(9,AV.ptr [0,9] 0 0),(10,AV.own [0,10]),(11,AV.own [0,11]),(12,AV.ptr [0,12] 0 0),(13,Ai t13)],[([0,0,9],⟨false,[.int .i64],h0⟩),([0,1,9],⟨false,[.int .i64],h1⟩),([0,2,9],⟨false,[.int .i64,.int .i64],h2⟩),([0,6],⟨true,[],[AV.agg [AV.snil,AV.snil,AV.snil]]⟩),([0,9],⟨true,[],[AV.agg [AV.own [0,0,9],AV.own [0,1,9],AV.own [0,2,9]]]⟩),([0,10],⟨false,[.sl [.int .i64]],h5⟩),([0,11],⟨false,[.int .i64],h6⟩),([0,12],⟨true,[],[AV.agg [Ai h7_0,Ai h7_1,Ai h7_2]]⟩)]⟩ k=(bif decide (t13<(t2.length:Int)) then (bif (decide (0≤t13) && decide (t13<(t2.length:Int))) then (bif q45 h0 h1 h2 h7_0 h7_1 h7_2 (fI (t2.getD t13.toNat .undef) 0) (fI (t2.getD t13.toNat .undef) 1) then (bif (decide ((h5.length+([AV.sl [.int .i64] (v45_6 h0 h1 h2 h7_0 h7_1 h7_2 (fI (t2.getD t13.toNat .undef) 0) (fI (t2.getD t13.toNat .undef) 1))]).length)*24≤140737488355328) && decide ((h5.length+([AV.sl [.int .i64] (v45_6 h0 h1 h2 h7_0 h7_1 h7_2 (fI (t2.getD t13.toNat .undef) 0) (fI (t2.getD t13.toNat .undef) 1))]).length)≤140737488355328)) then (bif (decide ((h6.length+([Ai (v45_7 h0 h1 h2 h7_0 h7_1 h7_2 (fI (t2.getD t13.toNat .undef) 0) (fI (t2.getD t13.toNat .undef) 1))]).length)*8≤140737488355328) && decide ((h6.length+([Ai (v45_7 h0 h1 h2 h7_0 h7_1 h7_2 (fI (t2.getD t13.toNat .undef) 0) (fI (t2.getD t13.toNat .undef) 1))]).length)≤140737488355328)) then next ⟨[(2,AV.sl [.int .i64,.int .i64] t2),(6,AV.ptr [0,6] 0 0),(9,AV.ptr [0,9] 0 0),(10,AV.own [0,10]),(11,AV.own [0,11]),(12,AV.ptr [0,12] 0 0),(13,Ai (IntKind.i64.wrap (t13+1)))],[([0,0,9],⟨false,[.int .i64],(v45_0 h0 h1 h2 h7_0 h7_1 h7_2 (fI (t2.getD t13.toNat .undef) 0) (fI (t2.getD t13.toNat .undef) 1))⟩),([0,1,9],⟨false,[.int .i64],(v45_1 h0 h1 h2 h7_0 h7_1 h7_2 (fI (t2.getD t13.toNat .undef) 0) (fI (t2.getD t13.toNat .undef) 1))⟩),([0,2,9],⟨false,[.int .i64,.int .i64],(v45_2 h0 h1 h2 h7_0 h7_1 h7_2 (fI (t2.getD t13.toNat .undef) 0) (fI (t2.getD t13.toNat .undef) 1))⟩),([0,6],⟨true,[],[AV.agg [AV.snil,AV.snil,AV.snil]]⟩),([0,9],⟨true,[],[AV.agg [AV.own [0,0,9],AV.own [0,1,9],AV.own [0,2,9]]]⟩),([0,10],⟨false,[.sl [.int .i64]],h5++([AV.sl [.int .i64] (v45_6 h0 h1 h2 h7_0 h7_1 h7_2 (fI (t2.getD t13.toNat .undef) 0) (fI (t2.getD t13.toNat .undef) 1))])⟩),([0,11],⟨false,[.int .i64],h6++([Ai (v45_7 h0 h1 h2 h7_0 h7_1 h7_2 (fI (t2.getD t13.toNat .undef) 0) (fI (t2.getD t13.toNat .undef) 1))])⟩),([0,12],⟨true,[],[AV.agg [Ai (v45_3 h0 h1 h2 h7_0 h7_1 h7_2 (fI (t2.getD t13.toNat .undef) 0) (fI (t2.getD t13.toNat .undef) 1)),Ai (v45_4 h0 h1 h2 h7_0 h7_1 h7_2 (fI (t2.getD t13.toNat .undef) 0) (fI (t2.getD t13.toNat .undef) 1)),Ai (v45_5 h0 h1 h2 h7_0 h7_1 h7_2 (fI (t2.getD t13.toNat .undef) 0) (fI (t2.getD t13.toNat .undef) 1))]]⟩)]⟩
 else none)
 else none)
 else none)
 else none)
 else k (.exit 0) ⟨[(6,AV.ptr [0,6] 0 0),(9,AV.ptr [0,9] 0 0),(10,AV.own [0,10]),(11,AV.own [0,11])],[([0,0,9],⟨false,[.int .i64],h0⟩),([0,1,9],⟨false,[.int .i64],h1⟩),([0,2,9],⟨false,[.int .i64,.int .i64],h2⟩),([0,6],⟨true,[],[AV.agg [AV.snil,AV.snil,AV.snil]]⟩),([0,9],⟨true,[],[AV.agg [AV.own [0,0,9],AV.own [0,1,9],AV.own [0,2,9]]]⟩),([0,10],⟨false,[.sl [.int .i64]],h5⟩),([0,11],⟨false,[.int .i64],h6⟩),([0,12],⟨true,[],[AV.agg [Ai h7_0,Ai h7_1,Ai h7_2]]⟩)]⟩):=by kernel_rfl
theorem st29_0 (t2:List AV) (ce:CallE) (k:Kont) (s:(Int × (List AV) × (List AV) × (List AV) × (List AV) × (List AV) × Int × Int × Int)) (next:St→Option AV):stepA (codeA c29 ce [] 29 0 (sub [1,1,1,1,1,1,0,1,0,0] (body Tryz.f29))) (normA [] [2,6,9,10,11,12,13]) next ((E29_0 t2) s) k=(R29_0 t2 s).el none (fun s=>next ((E29_0 t2) s)) (K29_0 k):=(s29_0 ce t2 s.1 s.2.1 s.2.2.1 s.2.2.2.1 s.2.2.2.2.1 s.2.2.2.2.2.1 s.2.2.2.2.2.2.1 s.2.2.2.2.2.2.2.1 s.2.2.2.2.2.2.2.2 next k).trans (by unfold R29_0;unfold F29_0;simp only [el_cond,el_ro,el_sum,el_fail,el_next,el_stop] <;> rfl)
theorem ok29_0 {ce:CallE}:LoopOK c29 ce [] 29 0 (sub [1,1,1,1,1,1,0,1,0,0] (body Tryz.f29)):=by
 intro m hm st k r h
 obtain rfl:l29_0=m:=Option.some.inj hm
 unfold l29_0 at h
 split at h
 ·rename_i g0 t2 g1 g2 g3 g4 g5 g6 g7 g8 g9 g10 g11 t13 g12 g13 h0 g14 g15 h1 g16 g17 h2 g18 g19 g20 g21 g22 g23 g24 h5 g25 g26 h6 g27 h7_0 h7_1 h7_2
  obtain ⟨hg,h⟩:=bif_some h
  simp only [Bool.and_eq_true] at hg
  obtain ⟨⟨⟨⟨⟨⟨⟨⟨⟨⟨⟨⟨⟨⟨⟨⟨⟨⟨⟨⟨⟨⟨⟨⟨⟨⟨⟨q0,q1⟩,q2⟩,q3⟩,q4⟩,q5⟩,q6⟩,q7⟩,q8⟩,q9⟩,q10⟩,q11⟩,q12⟩,q13⟩,q14⟩,q15⟩,q16⟩,q17⟩,q18⟩,q19⟩,q20⟩,q21⟩,q22⟩,q23⟩,q24⟩,q25⟩,q26⟩,q27⟩:=hg
  obtain rfl:=ctsEq_eq _ _ q0
  obtain rfl:=(nmEq_iff _ _).1 q1
  obtain rfl:=Nat.eq_of_beq_eq_true q2
  obtain rfl:=Nat.eq_of_beq_eq_true q3
  obtain rfl:=(nmEq_iff _ _).1 q4
  obtain rfl:=Nat.eq_of_beq_eq_true q5
  obtain rfl:=Nat.eq_of_beq_eq_true q6
  obtain rfl:=(nmEq_iff _ _).1 q7
  obtain rfl:=(nmEq_iff _ _).1 q8
  obtain rfl:=(nmEq_iff _ _).1 q9
  obtain rfl:=Nat.eq_of_beq_eq_true q10
  obtain rfl:=Nat.eq_of_beq_eq_true q11
  obtain rfl:=(nmEq_iff _ _).1 q12
  obtain rfl:=ctsEq_eq _ _ q13
  obtain rfl:=(nmEq_iff _ _).1 q14
  obtain rfl:=ctsEq_eq _ _ q15
  obtain rfl:=(nmEq_iff _ _).1 q16
  obtain rfl:=ctsEq_eq _ _ q17
  obtain rfl:=(nmEq_iff _ _).1 q18
  obtain rfl:=(nmEq_iff _ _).1 q19
  obtain rfl:=(nmEq_iff _ _).1 q20
  obtain rfl:=(nmEq_iff _ _).1 q21
  obtain rfl:=(nmEq_iff _ _).1 q22
  obtain rfl:=(nmEq_iff _ _).1 q23
  obtain rfl:=ctsEq_eq _ _ q24
  obtain rfl:=(nmEq_iff _ _).1 q25
  obtain rfl:=ctsEq_eq _ _ q26
  obtain rfl:=(nmEq_iff _ _).1 q27
  refine ⟨(((t2.length:Int) - t13:Int).toNat+1),?_⟩
  rw [← h]
  exact loop_run (E29_0 t2) (K29_0 k) (st29_0 t2 ce k) _ (t13,h0,h1,h2,h5,h6,h7_0,h7_1,h7_2)
 ·cases h
def q29 (a0:List AV) (ya yb yc:Int) (a2:List AV):Bool:=(q44 a0 && (q36 a0 && (bif !(v36_0 a0) then true else (bif !(v37_0 ya yb yc) then true else (q38 a2 && (bif !(v38_0 a2) then true else (ro (runW (R29_0 a2) (((a2.length:Int) - 0:Int).toNat+1) (0,(v44_0 a0),(v44_1 a0),(v44_2 a0),([]:List AV),([]:List AV),ya,yb,yc)) false (fun p33=>true))))))))
def v29_0 (a0:List AV) (ya yb yc:Int) (a2:List AV):List AV:=(bif !(v36_0 a0) then ([]:List AV) else (bif !(v37_0 ya yb yc) then ([]:List AV) else (bif !(v38_0 a2) then ([]:List AV) else (ro (runW (R29_0 a2) (((a2.length:Int) - 0:Int).toNat+1) (0,(v44_0 a0),(v44_1 a0),(v44_2 a0),([]:List AV),([]:List AV),ya,yb,yc)) [] (fun p33=>p33.1)))))
def v29_1 (a0:List AV) (ya yb yc:Int) (a2:List AV):List AV:=(bif !(v36_0 a0) then ([]:List AV) else (bif !(v37_0 ya yb yc) then ([]:List AV) else (bif !(v38_0 a2) then ([]:List AV) else (ro (runW (R29_0 a2) (((a2.length:Int) - 0:Int).toNat+1) (0,(v44_0 a0),(v44_1 a0),(v44_2 a0),([]:List AV),([]:List AV),ya,yb,yc)) [] (fun p33=>p33.2.1)))))
def v29_2 (a0:List AV) (ya yb yc:Int) (a2:List AV):List AV:=(bif !(v36_0 a0) then ([]:List AV) else (bif !(v37_0 ya yb yc) then ([]:List AV) else (bif !(v38_0 a2) then ([]:List AV) else (ro (runW (R29_0 a2) (((a2.length:Int) - 0:Int).toNat+1) (0,(v44_0 a0),(v44_1 a0),(v44_2 a0),([]:List AV),([]:List AV),ya,yb,yc)) [] (fun p33=>p33.2.2.1)))))
def v29_3 (a0:List AV) (ya yb yc:Int) (a2:List AV):List AV:=(bif !(v36_0 a0) then ([]:List AV) else (bif !(v37_0 ya yb yc) then ([]:List AV) else (bif !(v38_0 a2) then ([]:List AV) else (ro (runW (R29_0 a2) (((a2.length:Int) - 0:Int).toNat+1) (0,(v44_0 a0),(v44_1 a0),(v44_2 a0),([]:List AV),([]:List AV),ya,yb,yc)) [] (fun p33=>p33.2.2.2.1)))))
def v29_4 (a0:List AV) (ya yb yc:Int) (a2:List AV):List AV:=(bif !(v36_0 a0) then ([]:List AV) else (bif !(v37_0 ya yb yc) then ([]:List AV) else (bif !(v38_0 a2) then ([]:List AV) else (ro (runW (R29_0 a2) (((a2.length:Int) - 0:Int).toNat+1) (0,(v44_0 a0),(v44_1 a0),(v44_2 a0),([]:List AV),([]:List AV),ya,yb,yc)) [] (fun p33=>p33.2.2.2.2.1)))))
theorem e29 (a0:List AV) (ya yb yc:Int) (a2:List AV):funA c29 0 29 [AV.sl [.int .i64] a0,AV.agg [Ai ya,Ai yb,Ai yc],AV.sl [.int .i64,.int .i64] a2]=(bif q44 a0 then (bif q36 a0 then (bif !(v36_0 a0) then some (AV.tup [AV.agg [AV.fl [.int .i64] ([]:List AV),AV.fl [.int .i64] ([]:List AV),AV.fl [.int .i64,.int .i64] ([]:List AV)],AV.fl [.sl [.int .i64]] ([]:List AV),AV.fl [.int .i64] ([]:List AV)])
 else (bif !(v37_0 ya yb yc) then some (AV.tup [AV.agg [AV.fl [.int .i64] ([]:List AV),AV.fl [.int .i64] ([]:List AV),AV.fl [.int .i64,.int .i64] ([]:List AV)],AV.fl [.sl [.int .i64]] ([]:List AV),AV.fl [.int .i64] ([]:List AV)])
 else (bif q38 a2 then (bif !(v38_0 a2) then some (AV.tup [AV.agg [AV.fl [.int .i64] ([]:List AV),AV.fl [.int .i64] ([]:List AV),AV.fl [.int .i64,.int .i64] ([]:List AV)],AV.fl [.sl [.int .i64]] ([]:List AV),AV.fl [.int .i64] ([]:List AV)])
 else (ro (runW (R29_0 a2) (((a2.length:Int) - 0:Int).toNat+1) (0,(v44_0 a0),(v44_1 a0),(v44_2 a0),([]:List AV),([]:List AV),ya,yb,yc)) none (fun p33=>some (AV.tup [AV.agg [AV.fl [.int .i64] p33.1,AV.fl [.int .i64] p33.2.1,AV.fl [.int .i64,.int .i64] p33.2.2.1],AV.fl [.sl [.int .i64]] p33.2.2.2.1,AV.fl [.int .i64] p33.2.2.2.2.1]))))
 else none)))
 else none)
 else none):=by kernel_rfl
def m29:TModel
 | [.sl g0 a0,.agg [.int .i64 ya,.int .i64 yb,.int .i64 yc],.sl g1 a2]=>bif ctsEq g0 ([.int .i64]) && ctsEq g1 ([.int .i64,.int .i64]) then some (q29 a0 ya yb yc a2,AV.tup [AV.agg [AV.fl [.int .i64] (v29_0 a0 ya yb yc a2),AV.fl [.int .i64] (v29_1 a0 ya yb yc a2),AV.fl [.int .i64,.int .i64] (v29_2 a0 ya yb yc a2)],AV.fl [.sl [.int .i64]] (v29_3 a0 ya yb yc a2),AV.fl [.int .i64] (v29_4 a0 ya yb yc a2)]) else none
 | _=>none
theorem k29:Known Tryz.prog 29:=⟨Tryz.f29,Tryz.func29,by kernel_rfl,by kernel_rfl⟩
theorem meets29:Meets Tryz.prog 29 m29:=by
 refine meet (f:=Tryz.f29) (l:=[(0,sub [1,1,1,1,1,1,0,1,0,0] (body Tryz.f29))]) (hs:=[(29,0,[2,6,9,10,11,12,13]),(29,999,[6,7,8]),(29,1000,[6,9,10,11]),(29,1001,[2,6,9,10,11,12,13])]) (ts:=[(36,m36),(37,m37),(38,m38),(44,m44),(45,m45)]) (ws:=[]) (is:=[]) (ls:=[(29,0,l29_0)]) (lvl:=0) mixed k29 Tryz.func29 (by kernel_rfl) (loops_cons ok29_0 noLoop) (allT_cons meets36 (allT_cons meets37 (allT_cons meets38 (allT_cons meets44 (allT_cons meets45 allT_nil))))) allM_nil noI fun w xs us r hl hv h=>?_
 unfold m29 at h
 split at h
 ·rename_i g0 a0 ya yb yc g1 a2
  obtain ⟨hg,h⟩:=bif_pair h
  simp only [Bool.and_eq_true] at hg
  obtain ⟨q0,q1⟩:=hg
  obtain rfl:=ctsEq_eq _ _ q0
  obtain rfl:=ctsEq_eq _ _ q1
  obtain ⟨h1,rfl⟩:=pair_inj h
  exact (e29 a0 ya yb yc a2).trans ((brL (brL (br (fun b=>some (AV.tup [AV.agg [AV.fl [.int .i64] (bif b then ([]:List AV) else (bif !(v37_0 ya yb yc) then ([]:List AV) else (bif !(v38_0 a2) then ([]:List AV) else (ro (runW (R29_0 a2) (((a2.length:Int) - 0:Int).toNat+1) (0,(v44_0 a0),(v44_1 a0),(v44_2 a0),([]:List AV),([]:List AV),ya,yb,yc)) [] (fun p33=>p33.1))))),AV.fl [.int .i64] (bif b then ([]:List AV) else (bif !(v37_0 ya yb yc) then ([]:List AV) else (bif !(v38_0 a2) then ([]:List AV) else (ro (runW (R29_0 a2) (((a2.length:Int) - 0:Int).toNat+1) (0,(v44_0 a0),(v44_1 a0),(v44_2 a0),([]:List AV),([]:List AV),ya,yb,yc)) [] (fun p33=>p33.2.1))))),AV.fl [.int .i64,.int .i64] (bif b then ([]:List AV) else (bif !(v37_0 ya yb yc) then ([]:List AV) else (bif !(v38_0 a2) then ([]:List AV) else (ro (runW (R29_0 a2) (((a2.length:Int) - 0:Int).toNat+1) (0,(v44_0 a0),(v44_1 a0),(v44_2 a0),([]:List AV),([]:List AV),ya,yb,yc)) [] (fun p33=>p33.2.2.1)))))],AV.fl [.sl [.int .i64]] (bif b then ([]:List AV) else (bif !(v37_0 ya yb yc) then ([]:List AV) else (bif !(v38_0 a2) then ([]:List AV) else (ro (runW (R29_0 a2) (((a2.length:Int) - 0:Int).toNat+1) (0,(v44_0 a0),(v44_1 a0),(v44_2 a0),([]:List AV),([]:List AV),ya,yb,yc)) [] (fun p33=>p33.2.2.2.1))))),AV.fl [.int .i64] (bif b then ([]:List AV) else (bif !(v37_0 ya yb yc) then ([]:List AV) else (bif !(v38_0 a2) then ([]:List AV) else (ro (runW (R29_0 a2) (((a2.length:Int) - 0:Int).toNat+1) (0,(v44_0 a0),(v44_1 a0),(v44_2 a0),([]:List AV),([]:List AV),ya,yb,yc)) [] (fun p33=>p33.2.2.2.2.1)))))])) (fun _=>rfl) (br (fun b=>some (AV.tup [AV.agg [AV.fl [.int .i64] (bif b then ([]:List AV) else (bif !(v38_0 a2) then ([]:List AV) else (ro (runW (R29_0 a2) (((a2.length:Int) - 0:Int).toNat+1) (0,(v44_0 a0),(v44_1 a0),(v44_2 a0),([]:List AV),([]:List AV),ya,yb,yc)) [] (fun p33=>p33.1)))),AV.fl [.int .i64] (bif b then ([]:List AV) else (bif !(v38_0 a2) then ([]:List AV) else (ro (runW (R29_0 a2) (((a2.length:Int) - 0:Int).toNat+1) (0,(v44_0 a0),(v44_1 a0),(v44_2 a0),([]:List AV),([]:List AV),ya,yb,yc)) [] (fun p33=>p33.2.1)))),AV.fl [.int .i64,.int .i64] (bif b then ([]:List AV) else (bif !(v38_0 a2) then ([]:List AV) else (ro (runW (R29_0 a2) (((a2.length:Int) - 0:Int).toNat+1) (0,(v44_0 a0),(v44_1 a0),(v44_2 a0),([]:List AV),([]:List AV),ya,yb,yc)) [] (fun p33=>p33.2.2.1))))],AV.fl [.sl [.int .i64]] (bif b then ([]:List AV) else (bif !(v38_0 a2) then ([]:List AV) else (ro (runW (R29_0 a2) (((a2.length:Int) - 0:Int).toNat+1) (0,(v44_0 a0),(v44_1 a0),(v44_2 a0),([]:List AV),([]:List AV),ya,yb,yc)) [] (fun p33=>p33.2.2.2.1)))),AV.fl [.int .i64] (bif b then ([]:List AV) else (bif !(v38_0 a2) then ([]:List AV) else (ro (runW (R29_0 a2) (((a2.length:Int) - 0:Int).toNat+1) (0,(v44_0 a0),(v44_1 a0),(v44_2 a0),([]:List AV),([]:List AV),ya,yb,yc)) [] (fun p33=>p33.2.2.2.2.1))))])) (fun _=>rfl) (brL (br (fun b=>some (AV.tup [AV.agg [AV.fl [.int .i64] (bif b then ([]:List AV) else (ro (runW (R29_0 a2) (((a2.length:Int) - 0:Int).toNat+1) (0,(v44_0 a0),(v44_1 a0),(v44_2 a0),([]:List AV),([]:List AV),ya,yb,yc)) [] (fun p33=>p33.1))),AV.fl [.int .i64] (bif b then ([]:List AV) else (ro (runW (R29_0 a2) (((a2.length:Int) - 0:Int).toNat+1) (0,(v44_0 a0),(v44_1 a0),(v44_2 a0),([]:List AV),([]:List AV),ya,yb,yc)) [] (fun p33=>p33.2.1))),AV.fl [.int .i64,.int .i64] (bif b then ([]:List AV) else (ro (runW (R29_0 a2) (((a2.length:Int) - 0:Int).toNat+1) (0,(v44_0 a0),(v44_1 a0),(v44_2 a0),([]:List AV),([]:List AV),ya,yb,yc)) [] (fun p33=>p33.2.2.1)))],AV.fl [.sl [.int .i64]] (bif b then ([]:List AV) else (ro (runW (R29_0 a2) (((a2.length:Int) - 0:Int).toNat+1) (0,(v44_0 a0),(v44_1 a0),(v44_2 a0),([]:List AV),([]:List AV),ya,yb,yc)) [] (fun p33=>p33.2.2.2.1))),AV.fl [.int .i64] (bif b then ([]:List AV) else (ro (runW (R29_0 a2) (((a2.length:Int) - 0:Int).toNat+1) (0,(v44_0 a0),(v44_1 a0),(v44_2 a0),([]:List AV),([]:List AV),ya,yb,yc)) [] (fun p33=>p33.2.2.2.2.1)))])) (fun _=>rfl) (brO (fun o:Option (((List AV) × (List AV) × (List AV) × (List AV) × (List AV) × Int × Int × Int))=>some (AV.tup [AV.agg [AV.fl [.int .i64] (ro o [] (fun p33=>p33.1)),AV.fl [.int .i64] (ro o [] (fun p33=>p33.2.1)),AV.fl [.int .i64,.int .i64] (ro o [] (fun p33=>p33.2.2.1))],AV.fl [.sl [.int .i64]] (ro o [] (fun p33=>p33.2.2.2.1)),AV.fl [.int .i64] (ro o [] (fun p33=>p33.2.2.2.2.1))])) (fun p33=>(fun _=>rfl))))))))) h1)
 ·cases h
def F30_0 (t0:List AV) (t3 t4:Int):Out ((Int × Int)) (Int):=(bif decide (t4<(t0.length:Int)) then (bif (decide (0≤t4) && decide (t4<(t0.length:Int))) then .next (IntKind.i64.wrap (t3+fI (t0.getD t4.toNat .undef) 0),IntKind.i64.wrap (t4+1))
 else .fail)
 else .stop t3)
def R30_0 (t0:List AV):((Int × Int))→Out ((Int × Int)) (Int):=fun s:Int × Int=>F30_0 t0 s.1 s.2
def E30_0 (t0:List AV):((Int × Int))→St:=fun s:Int × Int=>⟨[(0,AV.sl [.int .i64] t0),(3,Ai s.1),(4,Ai s.2)],[]⟩
def K30_0 (k:Kont):(Int)→Option AV:=fun p:Int=>k (.exit 0) ⟨[(3,Ai p)],[]⟩
def l30_0:LModel:=fun _ _ st k=>match st with
 | ⟨[(0,.sl g0 t0),(3,.int .i64 t3),(4,.int .i64 t4)],[]⟩=>bif ctsEq g0 ([.int .i64]) then ro (runW (R30_0 t0) (((t0.length:Int) - t4:Int).toNat+1) (t3,t4)) none (K30_0 k) else none
 | _=>none
noncomputable def c30:Cfg:=cfg Tryz.prog [(30,0,[0,3,4]),(30,999,[2]),(30,1000,[3]),(30,1001,[0,3,4])] [] [] [] [(30,0,l30_0)]
theorem s30_0 (ce:CallE) (t0:List AV) (t3 t4:Int) (next:St→Option AV) (k:Kont):stepA (codeA c30 ce [] 30 0 (sub [1,1,0,1,0,0] (body Tryz.f30))) (normA [] [0,3,4]) next ⟨[(0,AV.sl [.int .i64] t0),(3,Ai t3),(4,Ai t4)],[]⟩ k=(bif decide (t4<(t0.length:Int)) then (bif (decide (0≤t4) && decide (t4<(t0.length:Int))) then next ⟨[(0,AV.sl [.int .i64] t0),(3,Ai (IntKind.i64.wrap (t3+fI (t0.getD t4.toNat .undef) 0))),(4,Ai (IntKind.i64.wrap (t4+1)))],[]⟩
 else none)
 else k (.exit 0) ⟨[(3,Ai t3)],[]⟩):=by kernel_rfl
theorem st30_0 (t0:List AV) (ce:CallE) (k:Kont) (s:(Int × Int)) (next:St→Option AV):stepA (codeA c30 ce [] 30 0 (sub [1,1,0,1,0,0] (body Tryz.f30))) (normA [] [0,3,4]) next ((E30_0 t0) s) k=(R30_0 t0 s).el none (fun s=>next ((E30_0 t0) s)) (K30_0 k):=(s30_0 ce t0 s.1 s.2 next k).trans (by unfold R30_0;unfold F30_0;simp only [el_cond,el_ro,el_sum,el_fail,el_next,el_stop] <;> rfl)
theorem ok30_0 {ce:CallE}:LoopOK c30 ce [] 30 0 (sub [1,1,0,1,0,0] (body Tryz.f30)):=by
 intro m hm st k r h
 obtain rfl:l30_0=m:=Option.some.inj hm
 unfold l30_0 at h
 split at h
 ·rename_i g0 t0 t3 t4
  obtain ⟨hg,h⟩:=bif_some h
  have q0:=hg
  obtain rfl:=ctsEq_eq _ _ q0
  refine ⟨(((t0.length:Int) - t4:Int).toNat+1),?_⟩
  rw [← h]
  exact loop_run (E30_0 t0) (K30_0 k) (st30_0 t0 ce k) _ (t3,t4)
 ·cases h
def q30 (a0:List AV):Bool:=(ro (runW (R30_0 a0) (((a0.length:Int) - 0:Int).toNat+1) (0,0)) false (fun p34=>true))
def v30_0 (a0:List AV):Int:=(ro (runW (R30_0 a0) (((a0.length:Int) - 0:Int).toNat+1) (0,0)) 0 (fun p34=>p34))
theorem e30 (a0:List AV):funA c30 0 30 [AV.sl [.int .i64] a0]=(ro (runW (R30_0 a0) (((a0.length:Int) - 0:Int).toNat+1) (0,0)) none (fun p34=>some (Ai p34))):=by kernel_rfl
def m30:TModel
 | [.sl g0 a0]=>bif ctsEq g0 ([.int .i64]) then some (q30 a0,AV.int .i64 (v30_0 a0)) else none
 | _=>none
theorem k30:Known Tryz.prog 30:=⟨Tryz.f30,Tryz.func30,by kernel_rfl,by kernel_rfl⟩
theorem meets30:Meets Tryz.prog 30 m30:=by
 refine meet (f:=Tryz.f30) (l:=[(0,sub [1,1,0,1,0,0] (body Tryz.f30))]) (hs:=[(30,0,[0,3,4]),(30,999,[2]),(30,1000,[3]),(30,1001,[0,3,4])]) (ts:=[]) (ws:=[]) (is:=[]) (ls:=[(30,0,l30_0)]) (lvl:=0) mixed k30 Tryz.func30 (by kernel_rfl) (loops_cons ok30_0 noLoop) allT_nil allM_nil noI fun w xs us r hl hv h=>?_
 unfold m30 at h
 split at h
 ·rename_i g0 a0
  obtain ⟨hg,h⟩:=bif_pair h
  have q0:=hg
  obtain rfl:=ctsEq_eq _ _ q0
  obtain ⟨h1,rfl⟩:=pair_inj h
  exact (e30 a0).trans ((brO (fun o:Option (Int)=>some (Ai (ro o 0 (fun p34=>p34)))) (fun p34=>(fun _=>rfl))) h1)
 ·cases h
def F8_0 (t0:List AV) (t1:Int) (t2:List AV) (t7 t8 t9:Int):Out ((Int × Int × Int)) (Int):=(bif decide (t9≤64) then (bif q27 t0 t2 then (bif (v27_0 t0 t2) then (bif (v28_0 t1 0 10006) then (bif q29 t0 1 t9 t1 t2 then (bif q30 (v29_4 t0 1 t9 t1 t2) then (bif decide (t7=0) then .next (t9,(v30_0 (v29_4 t0 1 t9 t1 t2)),IntKind.i64.wrap (t9*2))
 else (bif decide ((v30_0 (v29_4 t0 1 t9 t1 t2))<t8) then .next (t9,(v30_0 (v29_4 t0 1 t9 t1 t2)),IntKind.i64.wrap (t9*2))
 else .next (t7,t8,IntKind.i64.wrap (t9*2))))
 else .fail)
 else .fail)
 else .stop t7)
 else .stop t7)
 else .fail)
 else .stop t7)
def R8_0 (t0:List AV) (t1:Int) (t2:List AV):((Int × Int × Int))→Out ((Int × Int × Int)) (Int):=fun s:Int × Int × Int=>F8_0 t0 t1 t2 s.1 s.2.1 s.2.2
def E8_0 (t0:List AV) (t1:Int) (t2:List AV):((Int × Int × Int))→St:=fun s:Int × Int × Int=>⟨[(0,AV.sl [.int .i64] t0),(1,Ai t1),(2,AV.sl [.int .i64,.int .i64] t2),(7,Ai s.1),(8,Ai s.2.1),(9,Ai s.2.2)],[]⟩
def K8_0 (k:Kont):(Int)→Option AV:=fun p:Int=>k (.exit 0) ⟨[(7,Ai p)],[]⟩
def l8_0:LModel:=fun _ _ st k=>match st with
 | ⟨[(0,.sl g0 t0),(1,.int .i64 t1),(2,.sl g1 t2),(7,.int .i64 t7),(8,.int .i64 t8),(9,.int .i64 t9)],[]⟩=>bif ctsEq g0 ([.int .i64]) && ctsEq g1 ([.int .i64,.int .i64]) then ro (runW (R8_0 t0 t1 t2) ((64 - t9+1:Int).toNat+1) (t7,t8,t9)) none (K8_0 k) else none
 | _=>none
noncomputable def c8:Cfg:=cfg Tryz.prog [(8,0,[0,1,2,7,8,9]),(8,999,[6]),(8,1000,[7]),(8,1001,[0,1,2,7,8,9])] [(27,m27),(28,m28),(29,m29),(30,m30)] [] [] [(8,0,l8_0)]
theorem s8_0 (ce:CallE) (t0:List AV) (t1:Int) (t2:List AV) (t7 t8 t9:Int) (next:St→Option AV) (k:Kont):stepA (codeA c8 ce [] 8 0 (sub [1,1,1,0,1,0,0] (body Tryz.f8))) (normA [] [0,1,2,7,8,9]) next ⟨[(0,AV.sl [.int .i64] t0),(1,Ai t1),(2,AV.sl [.int .i64,.int .i64] t2),(7,Ai t7),(8,Ai t8),(9,Ai t9)],[]⟩ k=(bif decide (t9≤64) then (bif q27 t0 t2 then (bif (v27_0 t0 t2) then (bif (v28_0 t1 0 10006) then (bif q29 t0 1 t9 t1 t2 then (bif q30 (v29_4 t0 1 t9 t1 t2) then (bif decide (t7=0) then next ⟨[(0,AV.sl [.int .i64] t0),(1,Ai t1),(2,AV.sl [.int .i64,.int .i64] t2),(7,Ai t9),(8,Ai (v30_0 (v29_4 t0 1 t9 t1 t2))),(9,Ai (IntKind.i64.wrap (t9*2)))],[]⟩
 else (bif decide ((v30_0 (v29_4 t0 1 t9 t1 t2))<t8) then next ⟨[(0,AV.sl [.int .i64] t0),(1,Ai t1),(2,AV.sl [.int .i64,.int .i64] t2),(7,Ai t9),(8,Ai (v30_0 (v29_4 t0 1 t9 t1 t2))),(9,Ai (IntKind.i64.wrap (t9*2)))],[]⟩
 else next ⟨[(0,AV.sl [.int .i64] t0),(1,Ai t1),(2,AV.sl [.int .i64,.int .i64] t2),(7,Ai t7),(8,Ai t8),(9,Ai (IntKind.i64.wrap (t9*2)))],[]⟩))
 else none)
 else none)
 else k (.exit 0) ⟨[(7,Ai t7)],[]⟩)
 else k (.exit 0) ⟨[(7,Ai t7)],[]⟩)
 else none)
 else k (.exit 0) ⟨[(7,Ai t7)],[]⟩):=by kernel_rfl
theorem st8_0 (t0:List AV) (t1:Int) (t2:List AV) (ce:CallE) (k:Kont) (s:(Int × Int × Int)) (next:St→Option AV):stepA (codeA c8 ce [] 8 0 (sub [1,1,1,0,1,0,0] (body Tryz.f8))) (normA [] [0,1,2,7,8,9]) next ((E8_0 t0 t1 t2) s) k=(R8_0 t0 t1 t2 s).el none (fun s=>next ((E8_0 t0 t1 t2) s)) (K8_0 k):=(s8_0 ce t0 t1 t2 s.1 s.2.1 s.2.2 next k).trans (by unfold R8_0;unfold F8_0;simp only [el_cond,el_ro,el_sum,el_fail,el_next,el_stop] <;> rfl)
theorem ok8_0 {ce:CallE}:LoopOK c8 ce [] 8 0 (sub [1,1,1,0,1,0,0] (body Tryz.f8)):=by
 intro m hm st k r h
 obtain rfl:l8_0=m:=Option.some.inj hm
 unfold l8_0 at h
 split at h
 ·rename_i g0 t0 t1 g1 t2 t7 t8 t9
  obtain ⟨hg,h⟩:=bif_some h
  simp only [Bool.and_eq_true] at hg
  obtain ⟨q0,q1⟩:=hg
  obtain rfl:=ctsEq_eq _ _ q0
  obtain rfl:=ctsEq_eq _ _ q1
  refine ⟨((64 - t9+1:Int).toNat+1),?_⟩
  rw [← h]
  exact loop_run (E8_0 t0 t1 t2) (K8_0 k) (st8_0 t0 t1 t2 ce k) _ (t7,t8,t9)
 ·cases h
def q8 (a0:List AV) (a1:Int) (a2:List AV):Bool:=(ro (runW (R8_0 a0 a1 a2) ((64 - 1+1:Int).toNat+1) (0,0,1)) false (fun p35=>true))
def v8_0 (a0:List AV) (a1:Int) (a2:List AV):Int:=(ro (runW (R8_0 a0 a1 a2) ((64 - 1+1:Int).toNat+1) (0,0,1)) 0 (fun p35=>p35))
theorem e8 (a0:List AV) (a1:Int) (a2:List AV):funA c8 0 8 [AV.sl [.int .i64] a0,Ai a1,AV.sl [.int .i64,.int .i64] a2]=(ro (runW (R8_0 a0 a1 a2) ((64 - 1+1:Int).toNat+1) (0,0,1)) none (fun p35=>some (Ai p35))):=by kernel_rfl
def m8:TModel
 | [.sl g0 a0,.int .i64 a1,.sl g1 a2]=>bif ctsEq g0 ([.int .i64]) && ctsEq g1 ([.int .i64,.int .i64]) then some (q8 a0 a1 a2,AV.int .i64 (v8_0 a0 a1 a2)) else none
 | _=>none
theorem k8:Known Tryz.prog 8:=⟨Tryz.f8,Tryz.func8,by kernel_rfl,by kernel_rfl⟩
theorem meets8:Meets Tryz.prog 8 m8:=by
 refine meet (f:=Tryz.f8) (l:=[(0,sub [1,1,1,0,1,0,0] (body Tryz.f8))]) (hs:=[(8,0,[0,1,2,7,8,9]),(8,999,[6]),(8,1000,[7]),(8,1001,[0,1,2,7,8,9])]) (ts:=[(27,m27),(28,m28),(29,m29),(30,m30)]) (ws:=[]) (is:=[]) (ls:=[(8,0,l8_0)]) (lvl:=0) mixed k8 Tryz.func8 (by kernel_rfl) (loops_cons ok8_0 noLoop) (allT_cons meets27 (allT_cons meets28 (allT_cons meets29 (allT_cons meets30 allT_nil)))) allM_nil noI fun w xs us r hl hv h=>?_
 unfold m8 at h
 split at h
 ·rename_i g0 a0 a1 g1 a2
  obtain ⟨hg,h⟩:=bif_pair h
  simp only [Bool.and_eq_true] at hg
  obtain ⟨q0,q1⟩:=hg
  obtain rfl:=ctsEq_eq _ _ q0
  obtain rfl:=ctsEq_eq _ _ q1
  obtain ⟨h1,rfl⟩:=pair_inj h
  exact (e8 a0 a1 a2).trans ((brO (fun o:Option (Int)=>some (Ai (ro o 0 (fun p35=>p35)))) (fun p35=>(fun _=>rfl))) h1)
 ·cases h
noncomputable def c76:Cfg:=cfg Tryz.prog [(76,999,[4])] [] [] [] []
def q76 (a0:Int) (a1 a2:AV):Bool:=true
def v76_0 (a0:Int) (a1 a2:AV):Bool:=(bif decide (a0<fI a1 0) then true else decide (a0 > fI a2 0))
theorem e76 (a0:Int) (a1 a2:AV):funA c76 0 76 [Ai a0,AV.rptr [.int .i64] a1 0,AV.rptr [.int .i64] a2 0]=(bif decide (a0<fI a1 0) then some (AV.bool true)
 else some (AV.bool (decide (a0 > fI a2 0)))):=by kernel_rfl
def m76:TModel
 | [.int .i64 a0,.rptr g0 a1 g1,.rptr g2 a2 g3]=>bif ctsEq g0 ([.int .i64]) && Nat.beq g1 0 && ctsEq g2 ([.int .i64]) && Nat.beq g3 0 then some (true,AV.bool (v76_0 a0 a1 a2)) else none
 | _=>none
theorem k76:Known Tryz.prog 76:=⟨Tryz.f76,Tryz.func76,by kernel_rfl,by kernel_rfl⟩
theorem meets76:Meets Tryz.prog 76 m76:=by
 refine meet (f:=Tryz.f76) (l:=[]) (hs:=[(76,999,[4])]) (ts:=[]) (ws:=[]) (is:=[]) (ls:=[]) (lvl:=0) mixed k76 Tryz.func76 (by kernel_rfl) noLoop allT_nil allM_nil noI fun w xs us r hl hv h=>?_
 unfold m76 at h
 split at h
 ·rename_i a0 g0 a1 g1 g2 a2 g3
  obtain ⟨hg,h⟩:=bif_pair h
  simp only [Bool.and_eq_true] at hg
  obtain ⟨⟨⟨q0,q1⟩,q2⟩,q3⟩:=hg
  obtain rfl:=ctsEq_eq _ _ q0
  obtain rfl:=Nat.eq_of_beq_eq_true q1
  obtain rfl:=ctsEq_eq _ _ q2
  obtain rfl:=Nat.eq_of_beq_eq_true q3
  obtain ⟨h1,rfl⟩:=pair_inj h
  exact (e76 a0 a1 a2).trans (of_tt (brT (fun b=>some (AV.bool (bif b then true else decide (a0 > fI a2 0)))) (fun _=>rfl) (fun _=>rfl)))
 ·cases h
def F87_0 (t0:List AV) (t1_0 t1_1:AV) (t7 t8:Int):Out (Int) (Unit ⊕ Int):=(bif decide (t8<t7) then (bif (decide (0≤t8) && decide (t8<(t0.length:Int))) then (bif (v76_0 (fI (t0.getD t8.toNat .undef) 0) t1_0 t1_1) then .stop (.inr t8)
 else .next (IntKind.i64.wrap (t8+1)))
 else .fail)
 else .stop (.inl ()))
def R87_0 (t0:List AV) (t1_0 t1_1:AV) (t7:Int):(Int)→Out (Int) (Unit ⊕ Int):=fun s:Int=>F87_0 t0 t1_0 t1_1 t7 s
def E87_0 (t0:List AV) (t1_0 t1_1:AV) (t7:Int):(Int)→St:=fun s:Int=>⟨[(0,AV.sl [.int .i64] t0),(1,AV.fn 76 [AV.rptr [.int .i64] t1_0 0,AV.rptr [.int .i64] t1_1 0]),(7,Ai t7),(8,Ai s)],[]⟩
def K87_0 (k:Kont):(Unit ⊕ Int)→Option AV:=sumE (fun _:Unit=>k (.exit 0) ⟨[],[]⟩) (fun p:Int=>k .ret ⟨[(4,Ai p)],[]⟩)
def l87_0:LModel:=fun _ _ st k=>match st with
 | ⟨[(0,.sl g0 t0),(1,.fn g1 [.rptr g2 t1_0 g3,.rptr g4 t1_1 g5]),(7,.int .i64 t7),(8,.int .i64 t8)],[]⟩=>bif ctsEq g0 ([.int .i64]) && Nat.beq g1 76 && ctsEq g2 ([.int .i64]) && Nat.beq g3 0 && ctsEq g4 ([.int .i64]) && Nat.beq g5 0 then ro (runW (R87_0 t0 t1_0 t1_1 t7) ((t7 - t8:Int).toNat+1) t8) none (K87_0 k) else none
 | _=>none
noncomputable def c87:Cfg:=cfg Tryz.prog [(87,0,[0,1,7,8]),(87,999,[4]),(87,1000,[]),(87,1001,[0,1,7,8])] [(76,m76)] [] [] [(87,0,l87_0)]
theorem s87_0 (ce:CallE) (t0:List AV) (t1_0 t1_1:AV) (t7 t8:Int) (next:St→Option AV) (k:Kont):stepA (codeA c87 ce [] 87 0 (sub [1,0,1,0,0] (body Tryz.f87))) (normA [] [0,1,7,8]) next ⟨[(0,AV.sl [.int .i64] t0),(1,AV.fn 76 [AV.rptr [.int .i64] t1_0 0,AV.rptr [.int .i64] t1_1 0]),(7,Ai t7),(8,Ai t8)],[]⟩ k=(bif decide (t8<t7) then (bif (decide (0≤t8) && decide (t8<(t0.length:Int))) then (bif (v76_0 (fI (t0.getD t8.toNat .undef) 0) t1_0 t1_1) then k .ret ⟨[(4,Ai t8)],[]⟩
 else next ⟨[(0,AV.sl [.int .i64] t0),(1,AV.fn 76 [AV.rptr [.int .i64] t1_0 0,AV.rptr [.int .i64] t1_1 0]),(7,Ai t7),(8,Ai (IntKind.i64.wrap (t8+1)))],[]⟩)
 else none)
 else k (.exit 0) ⟨[],[]⟩):=by kernel_rfl
theorem st87_0 (t0:List AV) (t1_0 t1_1:AV) (t7:Int) (ce:CallE) (k:Kont) (s:Int) (next:St→Option AV):stepA (codeA c87 ce [] 87 0 (sub [1,0,1,0,0] (body Tryz.f87))) (normA [] [0,1,7,8]) next ((E87_0 t0 t1_0 t1_1 t7) s) k=(R87_0 t0 t1_0 t1_1 t7 s).el none (fun s=>next ((E87_0 t0 t1_0 t1_1 t7) s)) (K87_0 k):=(s87_0 ce t0 t1_0 t1_1 t7 s next k).trans (by unfold R87_0;unfold F87_0;simp only [el_cond,el_ro,el_sum,el_fail,el_next,el_stop] <;> rfl)
theorem ok87_0 {ce:CallE}:LoopOK c87 ce [] 87 0 (sub [1,0,1,0,0] (body Tryz.f87)):=by
 intro m hm st k r h
 obtain rfl:l87_0=m:=Option.some.inj hm
 unfold l87_0 at h
 split at h
 ·rename_i g0 t0 g1 g2 t1_0 g3 g4 t1_1 g5 t7 t8
  obtain ⟨hg,h⟩:=bif_some h
  simp only [Bool.and_eq_true] at hg
  obtain ⟨⟨⟨⟨⟨q0,q1⟩,q2⟩,q3⟩,q4⟩,q5⟩:=hg
  obtain rfl:=ctsEq_eq _ _ q0
  obtain rfl:=Nat.eq_of_beq_eq_true q1
  obtain rfl:=ctsEq_eq _ _ q2
  obtain rfl:=Nat.eq_of_beq_eq_true q3
  obtain rfl:=ctsEq_eq _ _ q4
  obtain rfl:=Nat.eq_of_beq_eq_true q5
  refine ⟨((t7 - t8:Int).toNat+1),?_⟩
  rw [← h]
  exact loop_run (E87_0 t0 t1_0 t1_1 t7) (K87_0 k) (st87_0 t0 t1_0 t1_1 t7 ce k) _ t8
 ·cases h
def q87 (a0:List AV) (ya yb:AV):Bool:=(ro (runW (R87_0 a0 ya yb (a0.length:Int)) (((a0.length:Int) - 0:Int).toNat+1) 0) false (sumE (fun _=>true) (fun p37=>true)))
def v87_0 (a0:List AV) (ya yb:AV):Int:=(ro (runW (R87_0 a0 ya yb (a0.length:Int)) (((a0.length:Int) - 0:Int).toNat+1) 0) 0 (sumE (fun _=>(-1)) (fun p37=>p37)))
theorem e87 (a0:List AV) (ya yb:AV):funA c87 0 87 [AV.sl [.int .i64] a0,AV.fn 76 [AV.rptr [.int .i64] ya 0,AV.rptr [.int .i64] yb 0]]=(ro (runW (R87_0 a0 ya yb (a0.length:Int)) (((a0.length:Int) - 0:Int).toNat+1) 0) none (sumE (fun _=>some (Ai (-1))) (fun p37=>some (Ai p37)))):=by kernel_rfl
def m87:TModel
 | [.sl g0 a0,.fn g1 [.rptr g2 ya g3,.rptr g4 yb g5]]=>bif ctsEq g0 ([.int .i64]) && Nat.beq g1 76 && ctsEq g2 ([.int .i64]) && Nat.beq g3 0 && ctsEq g4 ([.int .i64]) && Nat.beq g5 0 then some (q87 a0 ya yb,AV.int .i64 (v87_0 a0 ya yb)) else none
 | _=>none
theorem k87:Known Tryz.prog 87:=⟨Tryz.f87,Tryz.func87,by kernel_rfl,by kernel_rfl⟩
theorem meets87:Meets Tryz.prog 87 m87:=by
 refine meet (f:=Tryz.f87) (l:=[(0,sub [1,0,1,0,0] (body Tryz.f87))]) (hs:=[(87,0,[0,1,7,8]),(87,999,[4]),(87,1000,[]),(87,1001,[0,1,7,8])]) (ts:=[(76,m76)]) (ws:=[]) (is:=[]) (ls:=[(87,0,l87_0)]) (lvl:=0) mixed k87 Tryz.func87 (by kernel_rfl) (loops_cons ok87_0 noLoop) (allT_cons meets76 allT_nil) allM_nil noI fun w xs us r hl hv h=>?_
 unfold m87 at h
 split at h
 ·rename_i g0 a0 g1 g2 ya g3 g4 yb g5
  obtain ⟨hg,h⟩:=bif_pair h
  simp only [Bool.and_eq_true] at hg
  obtain ⟨⟨⟨⟨⟨q0,q1⟩,q2⟩,q3⟩,q4⟩,q5⟩:=hg
  obtain rfl:=ctsEq_eq _ _ q0
  obtain rfl:=Nat.eq_of_beq_eq_true q1
  obtain rfl:=ctsEq_eq _ _ q2
  obtain rfl:=Nat.eq_of_beq_eq_true q3
  obtain rfl:=ctsEq_eq _ _ q4
  obtain rfl:=Nat.eq_of_beq_eq_true q5
  obtain ⟨h1,rfl⟩:=pair_inj h
  exact (e87 a0 ya yb).trans ((brO (fun o:Option (Unit ⊕ Int)=>some (Ai (ro o 0 (sumE (fun _=>(-1)) (fun p37=>p37))))) (brS (fun o:Unit ⊕ Int=>some (Ai ((sumE (fun _=>(-1)) (fun p37=>p37)) o))) (fun _=>(fun _=>rfl)) (fun p37=>(fun _=>rfl)))) h1)
 ·cases h
noncomputable def c75:Cfg:=cfg Tryz.prog [(75,999,[4])] [(87,m87)] [] [] []
def q75 (a0:List AV) (ya yb:AV):Bool:=q87 a0 ya yb
def v75_0 (a0:List AV) (ya yb:AV):Bool:=decide ((v87_0 a0 ya yb) ≥ 0)
theorem e75 (a0:List AV) (ya yb:AV):funA c75 0 75 [AV.sl [.int .i64] a0,AV.fn 76 [AV.rptr [.int .i64] ya 0,AV.rptr [.int .i64] yb 0]]=(bif q87 a0 ya yb then some (AV.bool (decide ((v87_0 a0 ya yb) ≥ 0)))
 else none):=by kernel_rfl
def m75:TModel
 | [.sl g0 a0,.fn g1 [.rptr g2 ya g3,.rptr g4 yb g5]]=>bif ctsEq g0 ([.int .i64]) && Nat.beq g1 76 && ctsEq g2 ([.int .i64]) && Nat.beq g3 0 && ctsEq g4 ([.int .i64]) && Nat.beq g5 0 then some (q75 a0 ya yb,AV.bool (v75_0 a0 ya yb)) else none
 | _=>none
theorem k75:Known Tryz.prog 75:=⟨Tryz.f75,Tryz.func75,by kernel_rfl,by kernel_rfl⟩
theorem meets75:Meets Tryz.prog 75 m75:=by
 refine meet (f:=Tryz.f75) (l:=[]) (hs:=[(75,999,[4])]) (ts:=[(87,m87)]) (ws:=[]) (is:=[]) (ls:=[]) (lvl:=0) mixed k75 Tryz.func75 (by kernel_rfl) noLoop (allT_cons meets87 allT_nil) allM_nil noI fun w xs us r hl hv h=>?_
 unfold m75 at h
 split at h
 ·rename_i g0 a0 g1 g2 ya g3 g4 yb g5
  obtain ⟨hg,h⟩:=bif_pair h
  simp only [Bool.and_eq_true] at hg
  obtain ⟨⟨⟨⟨⟨q0,q1⟩,q2⟩,q3⟩,q4⟩,q5⟩:=hg
  obtain rfl:=ctsEq_eq _ _ q0
  obtain rfl:=Nat.eq_of_beq_eq_true q1
  obtain rfl:=ctsEq_eq _ _ q2
  obtain rfl:=Nat.eq_of_beq_eq_true q3
  obtain rfl:=ctsEq_eq _ _ q4
  obtain rfl:=Nat.eq_of_beq_eq_true q5
  obtain ⟨h1,rfl⟩:=pair_inj h
  exact (e75 a0 ya yb).trans ((brL1 (fun _=>rfl)) h1)
 ·cases h
noncomputable def c60:Cfg:=cfg Tryz.prog [(60,999,[6])] [(75,m75)] [] [] []
def q60 (a0:List AV) (a1 a2:Int):Bool:=q75 a0 (AV.int .i64 a1) (AV.int .i64 a2)
def v60_0 (a0:List AV) (a1 a2:Int):Bool := !(v75_0 a0 (AV.int .i64 a1) (AV.int .i64 a2))
theorem e60 (a0:List AV) (a1 a2:Int):funA c60 0 60 [AV.sl [.int .i64] a0,Ai a1,Ai a2]=(bif q75 a0 (Ai a1) (Ai a2) then some (AV.bool (!(v75_0 a0 (Ai a1) (Ai a2))))
 else none):=by kernel_rfl
def m60:TModel
 | [.sl g0 a0,.int .i64 a1,.int .i64 a2]=>bif ctsEq g0 ([.int .i64]) then some (q60 a0 a1 a2,AV.bool (v60_0 a0 a1 a2)) else none
 | _=>none
theorem k60:Known Tryz.prog 60:=⟨Tryz.f60,Tryz.func60,by kernel_rfl,by kernel_rfl⟩
theorem meets60:Meets Tryz.prog 60 m60:=by
 refine meet (f:=Tryz.f60) (l:=[]) (hs:=[(60,999,[6])]) (ts:=[(75,m75)]) (ws:=[]) (is:=[]) (ls:=[]) (lvl:=0) mixed k60 Tryz.func60 (by kernel_rfl) noLoop (allT_cons meets75 allT_nil) allM_nil noI fun w xs us r hl hv h=>?_
 unfold m60 at h
 split at h
 ·rename_i g0 a0 a1 a2
  obtain ⟨hg,h⟩:=bif_pair h
  have q0:=hg
  obtain rfl:=ctsEq_eq _ _ q0
  obtain ⟨h1,rfl⟩:=pair_inj h
  exact (e60 a0 a1 a2).trans ((brL1 (fun _=>rfl)) h1)
 ·cases h
noncomputable def c46:Cfg:=cfg Tryz.prog [(46,999,[2])] [(60,m60)] [] [] []
def q46 (a0:List AV):Bool:=(bif decide ((a0.length:Int)≤64) then q60 a0 (-999) 999 else true)
def v46_0 (a0:List AV):Bool:=(bif decide ((a0.length:Int)≤64) then (v60_0 a0 (-999) 999) else false)
theorem e46 (a0:List AV):funA c46 0 46 [AV.sl [.int .i64] a0]=(bif decide ((a0.length:Int)≤64) then (bif q60 a0 (-999) 999 then some (AV.bool (v60_0 a0 (-999) 999))
 else none)
 else some (AV.bool false)):=by kernel_rfl
def m46:TModel
 | [.sl g0 a0]=>bif ctsEq g0 ([.int .i64]) then some (q46 a0,AV.bool (v46_0 a0)) else none
 | _=>none
theorem k46:Known Tryz.prog 46:=⟨Tryz.f46,Tryz.func46,by kernel_rfl,by kernel_rfl⟩
theorem meets46:Meets Tryz.prog 46 m46:=by
 refine meet (f:=Tryz.f46) (l:=[]) (hs:=[(46,999,[2])]) (ts:=[(60,m60)]) (ws:=[]) (is:=[]) (ls:=[]) (lvl:=0) mixed k46 Tryz.func46 (by kernel_rfl) noLoop (allT_cons meets60 allT_nil) allM_nil noI fun w xs us r hl hv h=>?_
 unfold m46 at h
 split at h
 ·rename_i g0 a0
  obtain ⟨hg,h⟩:=bif_pair h
  have q0:=hg
  obtain rfl:=ctsEq_eq _ _ q0
  obtain ⟨h1,rfl⟩:=pair_inj h
  exact (e46 a0).trans ((br (fun b=>some (AV.bool (bif b then (v60_0 a0 (-999) 999) else false))) (brL1 (fun _=>rfl)) (fun _=>rfl)) h1)
 ·cases h
noncomputable def c47:Cfg:=cfg Tryz.prog [(47,999,[2])] [] [] [] []
def q47 (xa xb xc:Int):Bool:=true
def v47_0 (xa xb xc:Int):Bool:=(bif decide (xa ≥ 0) then (bif decide (xa≤2) then (bif decide (xb ≥ 1) then (bif decide (xb≤64) then (bif decide (xc ≥ 0) then decide (xc≤10006) else false) else false) else false) else false) else false)
theorem e47 (xa xb xc:Int):funA c47 0 47 [AV.agg [Ai xa,Ai xb,Ai xc]]=(bif decide (xa ≥ 0) then (bif decide (xa≤2) then (bif decide (xb ≥ 1) then (bif decide (xb≤64) then (bif decide (xc ≥ 0) then some (AV.bool (decide (xc≤10006)))
 else some (AV.bool false))
 else some (AV.bool false))
 else some (AV.bool false))
 else some (AV.bool false))
 else some (AV.bool false)):=by kernel_rfl
def m47:TModel
 | [.agg [.int .i64 xa,.int .i64 xb,.int .i64 xc]]=>some (true,AV.bool (v47_0 xa xb xc))
 | _=>none
theorem k47:Known Tryz.prog 47:=⟨Tryz.f47,Tryz.func47,by kernel_rfl,by kernel_rfl⟩
theorem meets47:Meets Tryz.prog 47 m47:=by
 refine meet (f:=Tryz.f47) (l:=[]) (hs:=[(47,999,[2])]) (ts:=[]) (ws:=[]) (is:=[]) (ls:=[]) (lvl:=0) mixed k47 Tryz.func47 (by kernel_rfl) noLoop allT_nil allM_nil noI fun w xs us r hl hv h=>?_
 unfold m47 at h
 split at h
 ·rename_i xa xb xc
  obtain ⟨h1,rfl⟩:=pair_inj h
  exact (e47 xa xb xc).trans (of_tt (brT (fun b=>some (AV.bool (bif b then (bif decide (xa≤2) then (bif decide (xb ≥ 1) then (bif decide (xb≤64) then (bif decide (xc ≥ 0) then decide (xc≤10006) else false) else false) else false) else false) else false))) (brT (fun b=>some (AV.bool (bif b then (bif decide (xb ≥ 1) then (bif decide (xb≤64) then (bif decide (xc ≥ 0) then decide (xc≤10006) else false) else false) else false) else false))) (brT (fun b=>some (AV.bool (bif b then (bif decide (xb≤64) then (bif decide (xc ≥ 0) then decide (xc≤10006) else false) else false) else false))) (brT (fun b=>some (AV.bool (bif b then (bif decide (xc ≥ 0) then decide (xc≤10006) else false) else false))) (brT (fun b=>some (AV.bool (bif b then decide (xc≤10006) else false))) (fun _=>rfl) (fun _=>rfl)) (fun _=>rfl)) (fun _=>rfl)) (fun _=>rfl)) (fun _=>rfl)))
 ·cases h
noncomputable def c63:Cfg:=cfg Tryz.prog [(63,999,[2])] [] [] [] []
def q63 (xa xb:Int):Bool:=true
def v63_0 (xa xb:Int):Bool:=(bif decide ((-1000)≤xa) then (bif decide (xa≤xb) then decide (xb≤1000) else false) else false)
theorem e63 (xa xb:Int):funA c63 0 63 [AV.agg [Ai xa,Ai xb]]=(bif decide ((-1000)≤xa) then (bif decide (xa≤xb) then some (AV.bool (decide (xb≤1000)))
 else some (AV.bool false))
 else some (AV.bool false)):=by kernel_rfl
def m63:TModel
 | [.agg [.int .i64 xa,.int .i64 xb]]=>some (true,AV.bool (v63_0 xa xb))
 | _=>none
theorem k63:Known Tryz.prog 63:=⟨Tryz.f63,Tryz.func63,by kernel_rfl,by kernel_rfl⟩
theorem meets63:Meets Tryz.prog 63 m63:=by
 refine meet (f:=Tryz.f63) (l:=[]) (hs:=[(63,999,[2])]) (ts:=[]) (ws:=[]) (is:=[]) (ls:=[]) (lvl:=0) mixed k63 Tryz.func63 (by kernel_rfl) noLoop allT_nil allM_nil noI fun w xs us r hl hv h=>?_
 unfold m63 at h
 split at h
 ·rename_i xa xb
  obtain ⟨h1,rfl⟩:=pair_inj h
  exact (e63 xa xb).trans (of_tt (brT (fun b=>some (AV.bool (bif b then (bif decide (xa≤xb) then decide (xb≤1000) else false) else false))) (brT (fun b=>some (AV.bool (bif b then decide (xb≤1000) else false))) (fun _=>rfl) (fun _=>rfl)) (fun _=>rfl)))
 ·cases h
noncomputable def c62:Cfg:=cfg Tryz.prog [(62,999,[2])] [(63,m63)] [] [] []
def q62 (xa xb:Int):Bool:=true
def v62_0 (xa xb:Int):Bool := !(v63_0 xa xb)
theorem e62 (xa xb:Int):funA c62 0 62 [AV.agg [Ai xa,Ai xb]]=some (AV.bool (!(v63_0 xa xb))):=by kernel_rfl
def m62:TModel
 | [.agg [.int .i64 xa,.int .i64 xb]]=>some (true,AV.bool (v62_0 xa xb))
 | _=>none
theorem k62:Known Tryz.prog 62:=⟨Tryz.f62,Tryz.func62,by kernel_rfl,by kernel_rfl⟩
theorem meets62:Meets Tryz.prog 62 m62:=by
 refine meet (f:=Tryz.f62) (l:=[]) (hs:=[(62,999,[2])]) (ts:=[(63,m63)]) (ws:=[]) (is:=[]) (ls:=[]) (lvl:=0) mixed k62 Tryz.func62 (by kernel_rfl) noLoop (allT_cons meets63 allT_nil) allM_nil noI fun w xs us r hl hv h=>?_
 unfold m62 at h
 split at h
 ·rename_i xa xb
  obtain ⟨h1,rfl⟩:=pair_inj h
  exact (e62 xa xb).trans (of_tt (fun _=>rfl))
 ·cases h
def F77_0 (t0:List AV) (t7 t8:Int):Out (Int) (Unit ⊕ Int):=(bif decide (t8<t7) then (bif (decide (0≤t8) && decide (t8<(t0.length:Int))) then (bif (v62_0 (fI (t0.getD t8.toNat .undef) 0) (fI (t0.getD t8.toNat .undef) 1)) then .stop (.inr t8)
 else .next (IntKind.i64.wrap (t8+1)))
 else .fail)
 else .stop (.inl ()))
def R77_0 (t0:List AV) (t7:Int):(Int)→Out (Int) (Unit ⊕ Int):=fun s:Int=>F77_0 t0 t7 s
def E77_0 (t0:List AV) (t7:Int):(Int)→St:=fun s:Int=>⟨[(0,AV.sl [.int .i64,.int .i64] t0),(1,AV.fn 62 []),(7,Ai t7),(8,Ai s)],[]⟩
def K77_0 (k:Kont):(Unit ⊕ Int)→Option AV:=sumE (fun _:Unit=>k (.exit 0) ⟨[],[]⟩) (fun p:Int=>k .ret ⟨[(4,Ai p)],[]⟩)
def l77_0:LModel:=fun _ _ st k=>match st with
 | ⟨[(0,.sl g0 t0),(1,.fn g1 []),(7,.int .i64 t7),(8,.int .i64 t8)],[]⟩=>bif ctsEq g0 ([.int .i64,.int .i64]) && Nat.beq g1 62 then ro (runW (R77_0 t0 t7) ((t7 - t8:Int).toNat+1) t8) none (K77_0 k) else none
 | _=>none
noncomputable def c77:Cfg:=cfg Tryz.prog [(77,0,[0,1,7,8]),(77,999,[4]),(77,1000,[]),(77,1001,[0,1,7,8])] [(62,m62)] [] [] [(77,0,l77_0)]
theorem s77_0 (ce:CallE) (t0:List AV) (t7 t8:Int) (next:St→Option AV) (k:Kont):stepA (codeA c77 ce [] 77 0 (sub [1,0,1,0,0] (body Tryz.f77))) (normA [] [0,1,7,8]) next ⟨[(0,AV.sl [.int .i64,.int .i64] t0),(1,AV.fn 62 []),(7,Ai t7),(8,Ai t8)],[]⟩ k=(bif decide (t8<t7) then (bif (decide (0≤t8) && decide (t8<(t0.length:Int))) then (bif (v62_0 (fI (t0.getD t8.toNat .undef) 0) (fI (t0.getD t8.toNat .undef) 1)) then k .ret ⟨[(4,Ai t8)],[]⟩
 else next ⟨[(0,AV.sl [.int .i64,.int .i64] t0),(1,AV.fn 62 []),(7,Ai t7),(8,Ai (IntKind.i64.wrap (t8+1)))],[]⟩)
 else none)
 else k (.exit 0) ⟨[],[]⟩):=by kernel_rfl
theorem st77_0 (t0:List AV) (t7:Int) (ce:CallE) (k:Kont) (s:Int) (next:St→Option AV):stepA (codeA c77 ce [] 77 0 (sub [1,0,1,0,0] (body Tryz.f77))) (normA [] [0,1,7,8]) next ((E77_0 t0 t7) s) k=(R77_0 t0 t7 s).el none (fun s=>next ((E77_0 t0 t7) s)) (K77_0 k):=(s77_0 ce t0 t7 s next k).trans (by unfold R77_0;unfold F77_0;simp only [el_cond,el_ro,el_sum,el_fail,el_next,el_stop] <;> rfl)
theorem ok77_0 {ce:CallE}:LoopOK c77 ce [] 77 0 (sub [1,0,1,0,0] (body Tryz.f77)):=by
 intro m hm st k r h
 obtain rfl:l77_0=m:=Option.some.inj hm
 unfold l77_0 at h
 split at h
 ·rename_i g0 t0 g1 t7 t8
  obtain ⟨hg,h⟩:=bif_some h
  simp only [Bool.and_eq_true] at hg
  obtain ⟨q0,q1⟩:=hg
  obtain rfl:=ctsEq_eq _ _ q0
  obtain rfl:=Nat.eq_of_beq_eq_true q1
  refine ⟨((t7 - t8:Int).toNat+1),?_⟩
  rw [← h]
  exact loop_run (E77_0 t0 t7) (K77_0 k) (st77_0 t0 t7 ce k) _ t8
 ·cases h
def q77 (a0:List AV):Bool:=(ro (runW (R77_0 a0 (a0.length:Int)) (((a0.length:Int) - 0:Int).toNat+1) 0) false (sumE (fun _=>true) (fun p39=>true)))
def v77_0 (a0:List AV):Int:=(ro (runW (R77_0 a0 (a0.length:Int)) (((a0.length:Int) - 0:Int).toNat+1) 0) 0 (sumE (fun _=>(-1)) (fun p39=>p39)))
theorem e77 (a0:List AV):funA c77 0 77 [AV.sl [.int .i64,.int .i64] a0,AV.fn 62 []]=(ro (runW (R77_0 a0 (a0.length:Int)) (((a0.length:Int) - 0:Int).toNat+1) 0) none (sumE (fun _=>some (Ai (-1))) (fun p39=>some (Ai p39)))):=by kernel_rfl
def m77:TModel
 | [.sl g0 a0,.fn g1 []]=>bif ctsEq g0 ([.int .i64,.int .i64]) && Nat.beq g1 62 then some (q77 a0,AV.int .i64 (v77_0 a0)) else none
 | _=>none
theorem k77:Known Tryz.prog 77:=⟨Tryz.f77,Tryz.func77,by kernel_rfl,by kernel_rfl⟩
theorem meets77:Meets Tryz.prog 77 m77:=by
 refine meet (f:=Tryz.f77) (l:=[(0,sub [1,0,1,0,0] (body Tryz.f77))]) (hs:=[(77,0,[0,1,7,8]),(77,999,[4]),(77,1000,[]),(77,1001,[0,1,7,8])]) (ts:=[(62,m62)]) (ws:=[]) (is:=[]) (ls:=[(77,0,l77_0)]) (lvl:=0) mixed k77 Tryz.func77 (by kernel_rfl) (loops_cons ok77_0 noLoop) (allT_cons meets62 allT_nil) allM_nil noI fun w xs us r hl hv h=>?_
 unfold m77 at h
 split at h
 ·rename_i g0 a0 g1
  obtain ⟨hg,h⟩:=bif_pair h
  simp only [Bool.and_eq_true] at hg
  obtain ⟨q0,q1⟩:=hg
  obtain rfl:=ctsEq_eq _ _ q0
  obtain rfl:=Nat.eq_of_beq_eq_true q1
  obtain ⟨h1,rfl⟩:=pair_inj h
  exact (e77 a0).trans ((brO (fun o:Option (Unit ⊕ Int)=>some (Ai (ro o 0 (sumE (fun _=>(-1)) (fun p39=>p39))))) (brS (fun o:Unit ⊕ Int=>some (Ai ((sumE (fun _=>(-1)) (fun p39=>p39)) o))) (fun _=>(fun _=>rfl)) (fun p39=>(fun _=>rfl)))) h1)
 ·cases h
noncomputable def c61:Cfg:=cfg Tryz.prog [(61,999,[4])] [(77,m77)] [] [] []
def q61 (a0:List AV):Bool:=q77 a0
def v61_0 (a0:List AV):Bool:=decide ((v77_0 a0) ≥ 0)
theorem e61 (a0:List AV):funA c61 0 61 [AV.sl [.int .i64,.int .i64] a0,AV.fn 62 []]=(bif q77 a0 then some (AV.bool (decide ((v77_0 a0) ≥ 0)))
 else none):=by kernel_rfl
def m61:TModel
 | [.sl g0 a0,.fn g1 []]=>bif ctsEq g0 ([.int .i64,.int .i64]) && Nat.beq g1 62 then some (q61 a0,AV.bool (v61_0 a0)) else none
 | _=>none
theorem k61:Known Tryz.prog 61:=⟨Tryz.f61,Tryz.func61,by kernel_rfl,by kernel_rfl⟩
theorem meets61:Meets Tryz.prog 61 m61:=by
 refine meet (f:=Tryz.f61) (l:=[]) (hs:=[(61,999,[4])]) (ts:=[(77,m77)]) (ws:=[]) (is:=[]) (ls:=[]) (lvl:=0) mixed k61 Tryz.func61 (by kernel_rfl) noLoop (allT_cons meets77 allT_nil) allM_nil noI fun w xs us r hl hv h=>?_
 unfold m61 at h
 split at h
 ·rename_i g0 a0 g1
  obtain ⟨hg,h⟩:=bif_pair h
  simp only [Bool.and_eq_true] at hg
  obtain ⟨q0,q1⟩:=hg
  obtain rfl:=ctsEq_eq _ _ q0
  obtain rfl:=Nat.eq_of_beq_eq_true q1
  obtain ⟨h1,rfl⟩:=pair_inj h
  exact (e61 a0).trans ((brL1 (fun _=>rfl)) h1)
 ·cases h
noncomputable def c48:Cfg:=cfg Tryz.prog [(48,999,[2])] [(61,m61)] [] [] []
def q48 (a0:List AV):Bool:=(bif decide ((a0.length:Int)≤30) then q61 a0 else true)
def v48_0 (a0:List AV):Bool:=(bif decide ((a0.length:Int)≤30) then !(v61_0 a0) else false)
theorem e48 (a0:List AV):funA c48 0 48 [AV.sl [.int .i64,.int .i64] a0]=(bif decide ((a0.length:Int)≤30) then (bif q61 a0 then some (AV.bool (!(v61_0 a0)))
 else none)
 else some (AV.bool false)):=by kernel_rfl
def m48:TModel
 | [.sl g0 a0]=>bif ctsEq g0 ([.int .i64,.int .i64]) then some (q48 a0,AV.bool (v48_0 a0)) else none
 | _=>none
theorem k48:Known Tryz.prog 48:=⟨Tryz.f48,Tryz.func48,by kernel_rfl,by kernel_rfl⟩
theorem meets48:Meets Tryz.prog 48 m48:=by
 refine meet (f:=Tryz.f48) (l:=[]) (hs:=[(48,999,[2])]) (ts:=[(61,m61)]) (ws:=[]) (is:=[]) (ls:=[]) (lvl:=0) mixed k48 Tryz.func48 (by kernel_rfl) noLoop (allT_cons meets61 allT_nil) allM_nil noI fun w xs us r hl hv h=>?_
 unfold m48 at h
 split at h
 ·rename_i g0 a0
  obtain ⟨hg,h⟩:=bif_pair h
  have q0:=hg
  obtain rfl:=ctsEq_eq _ _ q0
  obtain ⟨h1,rfl⟩:=pair_inj h
  exact (e48 a0).trans ((br (fun b=>some (AV.bool (bif b then !(v61_0 a0) else false))) (brL1 (fun _=>rfl)) (fun _=>rfl)) h1)
 ·cases h
noncomputable def c32:Cfg:=cfg Tryz.prog [(32,999,[6])] [(46,m46),(47,m47),(48,m48)] [] [] []
def q32 (a0:List AV) (ya yb yc:Int) (a2:List AV):Bool:=(q46 a0 && (bif (v46_0 a0) then (bif (v47_0 ya yb yc) then q48 a2 else true) else true))
def v32_0 (a0:List AV) (ya yb yc:Int) (a2:List AV):Bool:=(bif (v46_0 a0) then (bif (v47_0 ya yb yc) then (v48_0 a2) else false) else false)
theorem e32 (a0:List AV) (ya yb yc:Int) (a2:List AV):funA c32 0 32 [AV.sl [.int .i64] a0,AV.agg [Ai ya,Ai yb,Ai yc],AV.sl [.int .i64,.int .i64] a2]=(bif q46 a0 then (bif (v46_0 a0) then (bif (v47_0 ya yb yc) then (bif q48 a2 then some (AV.bool (v48_0 a2))
 else none)
 else some (AV.bool false))
 else some (AV.bool false))
 else none):=by kernel_rfl
def m32:TModel
 | [.sl g0 a0,.agg [.int .i64 ya,.int .i64 yb,.int .i64 yc],.sl g1 a2]=>bif ctsEq g0 ([.int .i64]) && ctsEq g1 ([.int .i64,.int .i64]) then some (q32 a0 ya yb yc a2,AV.bool (v32_0 a0 ya yb yc a2)) else none
 | _=>none
theorem k32:Known Tryz.prog 32:=⟨Tryz.f32,Tryz.func32,by kernel_rfl,by kernel_rfl⟩
theorem meets32:Meets Tryz.prog 32 m32:=by
 refine meet (f:=Tryz.f32) (l:=[]) (hs:=[(32,999,[6])]) (ts:=[(46,m46),(47,m47),(48,m48)]) (ws:=[]) (is:=[]) (ls:=[]) (lvl:=0) mixed k32 Tryz.func32 (by kernel_rfl) noLoop (allT_cons meets46 (allT_cons meets47 (allT_cons meets48 allT_nil))) allM_nil noI fun w xs us r hl hv h=>?_
 unfold m32 at h
 split at h
 ·rename_i g0 a0 ya yb yc g1 a2
  obtain ⟨hg,h⟩:=bif_pair h
  simp only [Bool.and_eq_true] at hg
  obtain ⟨q0,q1⟩:=hg
  obtain rfl:=ctsEq_eq _ _ q0
  obtain rfl:=ctsEq_eq _ _ q1
  obtain ⟨h1,rfl⟩:=pair_inj h
  exact (e32 a0 ya yb yc a2).trans ((brL (br (fun b=>some (AV.bool (bif b then (bif (v47_0 ya yb yc) then (v48_0 a2) else false) else false))) (br (fun b=>some (AV.bool (bif b then (v48_0 a2) else false))) (brL1 (fun _=>rfl)) (fun _=>rfl)) (fun _=>rfl))) h1)
 ·cases h
noncomputable def c78:Cfg:=cfg Tryz.prog [(78,999,[2])] [] [] [] []
def q78 (a0:List AV):Bool:=decide (a0.length*8≤140737488355328) && decide (a0.length≤140737488355328)
def v78_0 (a0:List AV):List AV:=a0
theorem e78 (a0:List AV):funA c78 0 78 [AV.sl [.int .i64] a0]=(bif decide (0<a0.length) then (bif (decide ((([]:List AV).length+a0.length)*8≤140737488355328) && decide ((([]:List AV).length+a0.length)≤140737488355328)) then some (AV.fl [.int .i64] (([]:List AV)++a0))
 else none)
 else none):=by kernel_rfl
theorem e78n (b:Bool):funA c78 0 78 [AV.sle b [.int .i64]]=some (AV.fl [.int .i64] []):=by cases b <;> kernel_rfl
def m78:TModel
 | [.sl g0 a0]=>bif ctsEq g0 [.int .i64] then some (q78 a0,AV.fl [.int .i64] (v78_0 a0)) else none
 | _=>none
theorem k78:Known Tryz.prog 78:=⟨Tryz.f78,Tryz.func78,by kernel_rfl,by kernel_rfl⟩
theorem meets78:Meets Tryz.prog 78 m78:=by
 refine meet_nil (f:=Tryz.f78) (l:=[]) (hs:=[(78,999,[2])]) (ts:=[]) (ws:=[]) (is:=[]) (ls:=[]) (lvl:=0) (tys:=[.int .i64]) mixed k78 Tryz.func78 (by kernel_rfl) noLoop allT_nil allM_nil noI (fun xs r h=>?_) (fun b r h=>?_) (fun ys r h0 h=>?_)
 ·unfold m78 at h
  split at h
  ·rename_i g0 a0
   obtain ⟨hg,h⟩:=bif_pair h
   obtain rfl:=ctsEq_eq _ _ hg
   exact ⟨a0,rfl⟩
  ·cases h
 ·obtain ⟨hg,h⟩:=bif_pair (g:=ctsEq [.int .i64] [.int .i64]) h
  obtain ⟨_,rfl⟩:=pair_inj h
  exact e78n b
 ·obtain ⟨hg,h⟩:=bif_pair (g:=ctsEq [.int .i64] [.int .i64]) h
  obtain ⟨hq,rfl⟩:=pair_inj h
  refine (e78 ys).trans ?_
  unfold q78 at hq
  have e:([]:List AV).length+ys.length=ys.length:=by simp
  rw [e,hq,decide_eq_true h0]
  rfl
def F64_0_s0 (t13:Int) (h0:List AV) (t14:Int):Out (Int ⊕ (Int × (List AV))) (Unit ⊕ ((List AV))):=(bif decide (t14<t13) then (bif (decide ((([AV.int .i64 t14]).length)*8≤140737488355328) && decide ((([AV.int .i64 t14]).length)≤140737488355328)) then .next (.inr (IntKind.i64.wrap (t14+1),[AV.int .i64 t14]))
 else .fail)
 else .stop (.inl ()))
def F64_0_s1 (t13:Int) (h0:List AV) (t14:Int) (h1:List AV):Out (Int ⊕ (Int × (List AV))) (Unit ⊕ ((List AV))):=(bif decide (t14<t13) then (bif (decide ((h1.length+([AV.int .i64 t14]).length)*8≤140737488355328) && decide ((h1.length+([AV.int .i64 t14]).length)≤140737488355328)) then .next (.inr (IntKind.i64.wrap (t14+1),h1++([AV.int .i64 t14])))
 else .fail)
 else .stop (.inr h1))
def R64_0 (t13:Int) (h0:List AV):(Int ⊕ (Int × (List AV)))→Out (Int ⊕ (Int × (List AV))) (Unit ⊕ ((List AV))):=sumE (fun s:Int=>F64_0_s0 t13 h0 s) (fun s:Int × (List AV)=>F64_0_s1 t13 h0 s.1 s.2)
def E64_0 (t13:Int) (h0:List AV):(Int ⊕ (Int × (List AV)))→St:=sumE (fun s:Int=>⟨[(2,AV.ptr [0,2] 0 0),(3,AV.ptr [0,3] 0 0),(13,Ai t13),(14,Ai s)],[([0,0,3],⟨false,[.int .i64],h0⟩),([0,2],⟨true,[],[AV.agg [AV.snil,AV.snil,AV.snil]]⟩),([0,3],⟨true,[],[AV.agg [AV.own [0,0,3],AV.snil,AV.snil]]⟩)]⟩) (fun s:Int × (List AV)=>⟨[(2,AV.ptr [0,2] 0 0),(3,AV.ptr [0,3] 0 0),(13,Ai t13),(14,Ai s.1)],[([0,0,3],⟨false,[.int .i64],h0⟩),([0,1,3],⟨false,[.int .i64],s.2⟩),([0,2],⟨true,[],[AV.agg [AV.snil,AV.snil,AV.snil]]⟩),([0,3],⟨true,[],[AV.agg [AV.own [0,0,3],AV.own [0,1,3],AV.snil]]⟩)]⟩)
def K64_0 (h0:List AV) (k:Kont):(Unit ⊕ ((List AV)))→Option AV:=sumE (fun _:Unit=>k (.exit 0) ⟨[(2,AV.ptr [0,2] 0 0),(3,AV.ptr [0,3] 0 0)],[([0,0,3],⟨false,[.int .i64],h0⟩),([0,2],⟨true,[],[AV.agg [AV.snil,AV.snil,AV.snil]]⟩),([0,3],⟨true,[],[AV.agg [AV.own [0,0,3],AV.snil,AV.snil]]⟩)]⟩) (fun p:(List AV)=>k (.exit 0) ⟨[(2,AV.ptr [0,2] 0 0),(3,AV.ptr [0,3] 0 0)],[([0,0,3],⟨false,[.int .i64],h0⟩),([0,1,3],⟨false,[.int .i64],p⟩),([0,2],⟨true,[],[AV.agg [AV.snil,AV.snil,AV.snil]]⟩),([0,3],⟨true,[],[AV.agg [AV.own [0,0,3],AV.own [0,1,3],AV.snil]]⟩)]⟩)
def l64_0:LModel:=fun _ _ st k=>match st with
 | ⟨[(2,.ptr g0 g1 g2),(3,.ptr g3 g4 g5),(13,.int .i64 t13),(14,.int .i64 t14)],[(g6,⟨false,g7,h0⟩),(g8,⟨true,[],[.agg [.snil,.snil,.snil]]⟩),(g9,⟨true,[],[.agg [.own g10,.snil,.snil]]⟩)]⟩=>bif nmEq g0 ([0,2]) && Nat.beq g1 0 && Nat.beq g2 0 && nmEq g3 ([0,3]) && Nat.beq g4 0 && Nat.beq g5 0 && nmEq g6 ([0,0,3]) && ctsEq g7 ([.int .i64]) && nmEq g8 ([0,2]) && nmEq g9 ([0,3]) && nmEq g10 ([0,0,3]) then ro (runW (R64_0 t13 h0) ((t13 - t14:Int).toNat+1) (.inl t14)) none (K64_0 h0 k) else none
 | ⟨[(2,.ptr g0 g1 g2),(3,.ptr g3 g4 g5),(13,.int .i64 t13),(14,.int .i64 t14)],[(g6,⟨false,g7,h0⟩),(g8,⟨false,g9,h1⟩),(g10,⟨true,[],[.agg [.snil,.snil,.snil]]⟩),(g11,⟨true,[],[.agg [.own g12,.own g13,.snil]]⟩)]⟩=>bif nmEq g0 ([0,2]) && Nat.beq g1 0 && Nat.beq g2 0 && nmEq g3 ([0,3]) && Nat.beq g4 0 && Nat.beq g5 0 && nmEq g6 ([0,0,3]) && ctsEq g7 ([.int .i64]) && nmEq g8 ([0,1,3]) && ctsEq g9 ([.int .i64]) && nmEq g10 ([0,2]) && nmEq g11 ([0,3]) && nmEq g12 ([0,0,3]) && nmEq g13 ([0,1,3]) then ro (runW (R64_0 t13 h0) ((t13 - t14:Int).toNat+1) (.inr (t14,h1))) none (K64_0 h0 k) else none
 | _=>none
noncomputable def c64:Cfg:=cfg Tryz.prog [(64,0,[2,3,13,14]),(64,999,[2]),(64,1000,[2,3]),(64,1001,[2,3,13,14])] [(46,m46),(78,m78)] [] [] [(64,0,l64_0)]
theorem s64_0_s0 (ce:CallE) (t13 t14:Int) (h0:List AV) (next:St→Option AV) (k:Kont):stepA (codeA c64 ce [] 64 0 (sub [1,1,1,0,1,0,0] (body Tryz.f64))) (normA [] [2,3,13,14]) next ⟨[(2,AV.ptr [0,2] 0 0),(3,AV.ptr [0,3] 0 0),(13,Ai t13),(14,Ai t14)],[([0,0,3],⟨false,[.int .i64],h0⟩),([0,2],⟨true,[],[AV.agg [AV.snil,AV.snil,AV.snil]]⟩),([0,3],⟨true,[],[AV.agg [AV.own [0,0,3],AV.snil,AV.snil]]⟩)]⟩ k=(bif decide (t14<t13) then (bif (decide ((([Ai t14]).length)*8≤140737488355328) && decide ((([Ai t14]).length)≤140737488355328)) then next ⟨[(2,AV.ptr [0,2] 0 0),(3,AV.ptr [0,3] 0 0),(13,Ai t13),(14,Ai (IntKind.i64.wrap (t14+1)))],[([0,0,3],⟨false,[.int .i64],h0⟩),([0,1,3],⟨false,[.int .i64],[Ai t14]⟩),([0,2],⟨true,[],[AV.agg [AV.snil,AV.snil,AV.snil]]⟩),([0,3],⟨true,[],[AV.agg [AV.own [0,0,3],AV.own [0,1,3],AV.snil]]⟩)]⟩
 else none)
 else k (.exit 0) ⟨[(2,AV.ptr [0,2] 0 0),(3,AV.ptr [0,3] 0 0)],[([0,0,3],⟨false,[.int .i64],h0⟩),([0,2],⟨true,[],[AV.agg [AV.snil,AV.snil,AV.snil]]⟩),([0,3],⟨true,[],[AV.agg [AV.own [0,0,3],AV.snil,AV.snil]]⟩)]⟩):=by kernel_rfl
theorem s64_0_s1 (ce:CallE) (t13 t14:Int) (h0 h1:List AV) (next:St→Option AV) (k:Kont):stepA (codeA c64 ce [] 64 0 (sub [1,1,1,0,1,0,0] (body Tryz.f64))) (normA [] [2,3,13,14]) next ⟨[(2,AV.ptr [0,2] 0 0),(3,AV.ptr [0,3] 0 0),(13,Ai t13),(14,Ai t14)],[([0,0,3],⟨false,[.int .i64],h0⟩),([0,1,3],⟨false,[.int .i64],h1⟩),([0,2],⟨true,[],[AV.agg [AV.snil,AV.snil,AV.snil]]⟩),([0,3],⟨true,[],[AV.agg [AV.own [0,0,3],AV.own [0,1,3],AV.snil]]⟩)]⟩ k=(bif decide (t14<t13) then (bif (decide ((h1.length+([Ai t14]).length)*8≤140737488355328) && decide ((h1.length+([Ai t14]).length)≤140737488355328)) then next ⟨[(2,AV.ptr [0,2] 0 0),(3,AV.ptr [0,3] 0 0),(13,Ai t13),(14,Ai (IntKind.i64.wrap (t14+1)))],[([0,0,3],⟨false,[.int .i64],h0⟩),([0,1,3],⟨false,[.int .i64],h1++([Ai t14])⟩),([0,2],⟨true,[],[AV.agg [AV.snil,AV.snil,AV.snil]]⟩),([0,3],⟨true,[],[AV.agg [AV.own [0,0,3],AV.own [0,1,3],AV.snil]]⟩)]⟩
 else none)
 else k (.exit 0) ⟨[(2,AV.ptr [0,2] 0 0),(3,AV.ptr [0,3] 0 0)],[([0,0,3],⟨false,[.int .i64],h0⟩),([0,1,3],⟨false,[.int .i64],h1⟩),([0,2],⟨true,[],[AV.agg [AV.snil,AV.snil,AV.snil]]⟩),([0,3],⟨true,[],[AV.agg [AV.own [0,0,3],AV.own [0,1,3],AV.snil]]⟩)]⟩):=by kernel_rfl
theorem st64_0 (t13:Int) (h0:List AV) (ce:CallE) (k:Kont) (s:Int ⊕ (Int × (List AV))) (next:St→Option AV):stepA (codeA c64 ce [] 64 0 (sub [1,1,1,0,1,0,0] (body Tryz.f64))) (normA [] [2,3,13,14]) next ((E64_0 t13 h0) s) k=(R64_0 t13 h0 s).el none (fun s=>next ((E64_0 t13 h0) s)) (K64_0 h0 k):=(match s with | .inl s=>(s64_0_s0 ce t13 s h0 next k).trans (by unfold R64_0;unfold F64_0_s0;simp only [el_cond,el_ro,el_sum,el_fail,el_next,el_stop] <;> rfl) | .inr s=>(s64_0_s1 ce t13 s.1 h0 s.2 next k).trans (by unfold R64_0;unfold F64_0_s1;simp only [el_cond,el_ro,el_sum,el_fail,el_next,el_stop] <;> rfl))
theorem ok64_0 {ce:CallE}:LoopOK c64 ce [] 64 0 (sub [1,1,1,0,1,0,0] (body Tryz.f64)):=by
 intro m hm st k r h
 obtain rfl:l64_0=m:=Option.some.inj hm
 unfold l64_0 at h
 split at h
 ·rename_i g0 g1 g2 g3 g4 g5 t13 t14 g6 g7 h0 g8 g9 g10
  obtain ⟨hg,h⟩:=bif_some h
  simp only [Bool.and_eq_true] at hg
  obtain ⟨⟨⟨⟨⟨⟨⟨⟨⟨⟨q0,q1⟩,q2⟩,q3⟩,q4⟩,q5⟩,q6⟩,q7⟩,q8⟩,q9⟩,q10⟩:=hg
  obtain rfl:=(nmEq_iff _ _).1 q0
  obtain rfl:=Nat.eq_of_beq_eq_true q1
  obtain rfl:=Nat.eq_of_beq_eq_true q2
  obtain rfl:=(nmEq_iff _ _).1 q3
  obtain rfl:=Nat.eq_of_beq_eq_true q4
  obtain rfl:=Nat.eq_of_beq_eq_true q5
  obtain rfl:=(nmEq_iff _ _).1 q6
  obtain rfl:=ctsEq_eq _ _ q7
  obtain rfl:=(nmEq_iff _ _).1 q8
  obtain rfl:=(nmEq_iff _ _).1 q9
  obtain rfl:=(nmEq_iff _ _).1 q10
  refine ⟨((t13 - t14:Int).toNat+1),?_⟩
  rw [← h]
  exact loop_run (E64_0 t13 h0) (K64_0 h0 k) (st64_0 t13 h0 ce k) _ (.inl t14)
 ·rename_i g0 g1 g2 g3 g4 g5 t13 t14 g6 g7 h0 g8 g9 h1 g10 g11 g12 g13
  obtain ⟨hg,h⟩:=bif_some h
  simp only [Bool.and_eq_true] at hg
  obtain ⟨⟨⟨⟨⟨⟨⟨⟨⟨⟨⟨⟨⟨q0,q1⟩,q2⟩,q3⟩,q4⟩,q5⟩,q6⟩,q7⟩,q8⟩,q9⟩,q10⟩,q11⟩,q12⟩,q13⟩:=hg
  obtain rfl:=(nmEq_iff _ _).1 q0
  obtain rfl:=Nat.eq_of_beq_eq_true q1
  obtain rfl:=Nat.eq_of_beq_eq_true q2
  obtain rfl:=(nmEq_iff _ _).1 q3
  obtain rfl:=Nat.eq_of_beq_eq_true q4
  obtain rfl:=Nat.eq_of_beq_eq_true q5
  obtain rfl:=(nmEq_iff _ _).1 q6
  obtain rfl:=ctsEq_eq _ _ q7
  obtain rfl:=(nmEq_iff _ _).1 q8
  obtain rfl:=ctsEq_eq _ _ q9
  obtain rfl:=(nmEq_iff _ _).1 q10
  obtain rfl:=(nmEq_iff _ _).1 q11
  obtain rfl:=(nmEq_iff _ _).1 q12
  obtain rfl:=(nmEq_iff _ _).1 q13
  refine ⟨((t13 - t14:Int).toNat+1),?_⟩
  rw [← h]
  exact loop_run (E64_0 t13 h0) (K64_0 h0 k) (st64_0 t13 h0 ce k) _ (.inr (t14,h1))
 ·cases h
def q64 (a0:List AV):Bool:=(q46 a0 && (bif !(v46_0 a0) then true else (q78 a0 && (ro (runW (R64_0 (a0.length:Int) (v78_0 a0)) (((a0.length:Int) - 0:Int).toNat+1) (.inl 0)) false (sumE (fun _=>true) (fun p41=>true))))))
def v64_0 (a0:List AV):List AV:=(bif !(v46_0 a0) then ([]:List AV) else (v78_0 a0))
def v64_1 (a0:List AV):List AV:=(bif !(v46_0 a0) then ([]:List AV) else (ro (runW (R64_0 (a0.length:Int) (v78_0 a0)) (((a0.length:Int) - 0:Int).toNat+1) (.inl 0)) [] (sumE (fun _=>([]:List AV)) (fun p41=>p41))))
def v64_2 (a0:List AV):List AV:=([]:List AV)
theorem e64 (a0:List AV):funA c64 0 64 [AV.sl [.int .i64] a0]=(bif q46 a0 then (bif !(v46_0 a0) then some (AV.agg [AV.fl [.int .i64] ([]:List AV),AV.fl [.int .i64] ([]:List AV),AV.fl [.int .i64,.int .i64] ([]:List AV)])
 else (bif q78 a0 then (ro (runW (R64_0 (a0.length:Int) (v78_0 a0)) (((a0.length:Int) - 0:Int).toNat+1) (.inl 0)) none (sumE (fun _=>some (AV.agg [AV.fl [.int .i64] (v78_0 a0),AV.fl [.int .i64] ([]:List AV),AV.fl [.int .i64,.int .i64] ([]:List AV)])) (fun p41=>some (AV.agg [AV.fl [.int .i64] (v78_0 a0),AV.fl [.int .i64] p41,AV.fl [.int .i64,.int .i64] ([]:List AV)]))))
 else none))
 else none):=by kernel_rfl
def m64:TModel
 | [.sl g0 a0]=>bif ctsEq g0 ([.int .i64]) then some (q64 a0,AV.agg [AV.fl [.int .i64] (v64_0 a0),AV.fl [.int .i64] (v64_1 a0),AV.fl [.int .i64,.int .i64] (v64_2 a0)]) else none
 | _=>none
theorem k64:Known Tryz.prog 64:=⟨Tryz.f64,Tryz.func64,by kernel_rfl,by kernel_rfl⟩
theorem meets64:Meets Tryz.prog 64 m64:=by
 refine meet (f:=Tryz.f64) (l:=[(0,sub [1,1,1,0,1,0,0] (body Tryz.f64))]) (hs:=[(64,0,[2,3,13,14]),(64,999,[2]),(64,1000,[2,3]),(64,1001,[2,3,13,14])]) (ts:=[(46,m46),(78,m78)]) (ws:=[]) (is:=[]) (ls:=[(64,0,l64_0)]) (lvl:=0) mixed k64 Tryz.func64 (by kernel_rfl) (loops_cons ok64_0 noLoop) (allT_cons meets46 (allT_cons meets78 allT_nil)) allM_nil noI fun w xs us r hl hv h=>?_
 unfold m64 at h
 split at h
 ·rename_i g0 a0
  obtain ⟨hg,h⟩:=bif_pair h
  have q0:=hg
  obtain rfl:=ctsEq_eq _ _ q0
  obtain ⟨h1,rfl⟩:=pair_inj h
  exact (e64 a0).trans ((brL (br (fun b=>some (AV.agg [AV.fl [.int .i64] (bif b then ([]:List AV) else (v78_0 a0)),AV.fl [.int .i64] (bif b then ([]:List AV) else (ro (runW (R64_0 (a0.length:Int) (v78_0 a0)) (((a0.length:Int) - 0:Int).toNat+1) (.inl 0)) [] (sumE (fun _=>([]:List AV)) (fun p41=>p41)))),AV.fl [.int .i64,.int .i64] ([]:List AV)])) (fun _=>rfl) (brL (brO (fun o:Option (Unit ⊕ ((List AV)))=>some (AV.agg [AV.fl [.int .i64] (v78_0 a0),AV.fl [.int .i64] (ro o [] (sumE (fun _=>([]:List AV)) (fun p41=>p41))),AV.fl [.int .i64,.int .i64] ([]:List AV)])) (brS (fun o:Unit ⊕ ((List AV))=>some (AV.agg [AV.fl [.int .i64] (v78_0 a0),AV.fl [.int .i64] ((sumE (fun _=>([]:List AV)) (fun p41=>p41)) o),AV.fl [.int .i64,.int .i64] ([]:List AV)])) (fun _=>(fun _=>rfl)) (fun p41=>(fun _=>rfl))))))) h1)
 ·cases h
def F80_0 (t1:Int) (t9:List AV) (t10 t11:Int):Out (Int) (Unit ⊕ (Int × Int × Int)):=(bif decide (t11<t10) then (bif (decide (0≤t11) && decide (t11<(t9.length:Int))) then (bif decide (fI (t9.getD t11.toNat .undef) 0=t1) then .stop (.inr (fI (t9.getD t11.toNat .undef) 1,fI (t9.getD t11.toNat .undef) 0,fI (t9.getD t11.toNat .undef) 1))
 else .next (IntKind.i64.wrap (t11+1)))
 else .fail)
 else .stop (.inl ()))
def R80_0 (t1:Int) (t9:List AV) (t10:Int):(Int)→Out (Int) (Unit ⊕ (Int × Int × Int)):=fun s:Int=>F80_0 t1 t9 t10 s
def E80_0 (t1:Int) (t9:List AV) (t10:Int):(Int)→St:=fun s:Int=>⟨[(1,Ai t1),(9,AV.sl [.int .i64,.int .i64] t9),(10,Ai t10),(11,Ai s)],[]⟩
def K80_0 (k:Kont):(Unit ⊕ (Int × Int × Int))→Option AV:=sumE (fun _:Unit=>k (.exit 0) ⟨[],[]⟩) (fun p:Int × Int × Int=>k .ret ⟨[(4,Ai p.1),(5,AV.bool true)],[([1,7],⟨true,[],[AV.agg [Ai p.2.1,Ai p.2.2]]⟩)]⟩)
def l80_0:LModel:=fun _ _ st k=>match st with
 | ⟨[(1,.int .i64 t1),(9,.sl g0 t9),(10,.int .i64 t10),(11,.int .i64 t11)],[]⟩=>bif ctsEq g0 ([.int .i64,.int .i64]) then ro (runW (R80_0 t1 t9 t10) ((t10 - t11:Int).toNat+1) t11) none (K80_0 k) else none
 | _=>none
noncomputable def c80:Cfg:=cfg Tryz.prog [(80,0,[1,9,10,11]),(80,999,[4,5]),(80,1000,[]),(80,1001,[1,9,10,11])] [] [] [] [(80,0,l80_0)]
theorem s80_0 (ce:CallE) (t1:Int) (t9:List AV) (t10 t11:Int) (next:St→Option AV) (k:Kont):stepA (codeA c80 ce [] 80 0 (sub [1,0,1,0,0] (body Tryz.f80))) (normA [] [1,9,10,11]) next ⟨[(1,Ai t1),(9,AV.sl [.int .i64,.int .i64] t9),(10,Ai t10),(11,Ai t11)],[]⟩ k=(bif decide (t11<t10) then (bif (decide (0≤t11) && decide (t11<(t9.length:Int))) then (bif decide (fI (t9.getD t11.toNat .undef) 0=t1) then k .ret ⟨[(4,Ai (fI (t9.getD t11.toNat .undef) 1)),(5,AV.bool true)],[([1,7],⟨true,[],[AV.agg [Ai (fI (t9.getD t11.toNat .undef) 0),Ai (fI (t9.getD t11.toNat .undef) 1)]]⟩)]⟩
 else next ⟨[(1,Ai t1),(9,AV.sl [.int .i64,.int .i64] t9),(10,Ai t10),(11,Ai (IntKind.i64.wrap (t11+1)))],[]⟩)
 else none)
 else k (.exit 0) ⟨[],[]⟩):=by kernel_rfl
theorem st80_0 (t1:Int) (t9:List AV) (t10:Int) (ce:CallE) (k:Kont) (s:Int) (next:St→Option AV):stepA (codeA c80 ce [] 80 0 (sub [1,0,1,0,0] (body Tryz.f80))) (normA [] [1,9,10,11]) next ((E80_0 t1 t9 t10) s) k=(R80_0 t1 t9 t10 s).el none (fun s=>next ((E80_0 t1 t9 t10) s)) (K80_0 k):=(s80_0 ce t1 t9 t10 s next k).trans (by unfold R80_0;unfold F80_0;simp only [el_cond,el_ro,el_sum,el_fail,el_next,el_stop] <;> rfl)
theorem ok80_0 {ce:CallE}:LoopOK c80 ce [] 80 0 (sub [1,0,1,0,0] (body Tryz.f80)):=by
 intro m hm st k r h
 obtain rfl:l80_0=m:=Option.some.inj hm
 unfold l80_0 at h
 split at h
 ·rename_i t1 g0 t9 t10 t11
  obtain ⟨hg,h⟩:=bif_some h
  have q0:=hg
  obtain rfl:=ctsEq_eq _ _ q0
  refine ⟨((t10 - t11:Int).toNat+1),?_⟩
  rw [← h]
  exact loop_run (E80_0 t1 t9 t10) (K80_0 k) (st80_0 t1 t9 t10 ce k) _ t11
 ·cases h
def q80 (xa xb xc:List AV) (a1:Int):Bool:=(ro (runW (R80_0 a1 xc (xc.length:Int)) (((xc.length:Int) - 0:Int).toNat+1) 0) false (sumE (fun _=>true) (fun p43=>true)))
def v80_0 (xa xb xc:List AV) (a1:Int):Int:=(ro (runW (R80_0 a1 xc (xc.length:Int)) (((xc.length:Int) - 0:Int).toNat+1) 0) 0 (sumE (fun _=>0) (fun p43=>p43.1)))
def v80_1 (xa xb xc:List AV) (a1:Int):Bool:=(ro (runW (R80_0 a1 xc (xc.length:Int)) (((xc.length:Int) - 0:Int).toNat+1) 0) false (sumE (fun _=>false) (fun p43=>true)))
theorem e80 (xa xb xc:List AV) (a1:Int):funA c80 0 80 [AV.agg [AV.sl [.int .i64] xa,AV.sl [.int .i64] xb,AV.sl [.int .i64,.int .i64] xc],Ai a1]=(ro (runW (R80_0 a1 xc (xc.length:Int)) (((xc.length:Int) - 0:Int).toNat+1) 0) none (sumE (fun _=>some (AV.tup [Ai 0,AV.bool false])) (fun p43=>some (AV.tup [Ai p43.1,AV.bool true])))):=by kernel_rfl
def m80:TModel
 | [.agg [.sl g0 xa,.sl g1 xb,.sl g2 xc],.int .i64 a1]=>bif ctsEq g0 ([.int .i64]) && ctsEq g1 ([.int .i64]) && ctsEq g2 ([.int .i64,.int .i64]) then some (q80 xa xb xc a1,AV.tup [AV.int .i64 (v80_0 xa xb xc a1),AV.bool (v80_1 xa xb xc a1)]) else none
 | _=>none
theorem k80:Known Tryz.prog 80:=⟨Tryz.f80,Tryz.func80,by kernel_rfl,by kernel_rfl⟩
theorem meets80:Meets Tryz.prog 80 m80:=by
 refine meet (f:=Tryz.f80) (l:=[(0,sub [1,0,1,0,0] (body Tryz.f80))]) (hs:=[(80,0,[1,9,10,11]),(80,999,[4,5]),(80,1000,[]),(80,1001,[1,9,10,11])]) (ts:=[]) (ws:=[]) (is:=[]) (ls:=[(80,0,l80_0)]) (lvl:=0) mixed k80 Tryz.func80 (by kernel_rfl) (loops_cons ok80_0 noLoop) allT_nil allM_nil noI fun w xs us r hl hv h=>?_
 unfold m80 at h
 split at h
 ·rename_i g0 xa g1 xb g2 xc a1
  obtain ⟨hg,h⟩:=bif_pair h
  simp only [Bool.and_eq_true] at hg
  obtain ⟨⟨q0,q1⟩,q2⟩:=hg
  obtain rfl:=ctsEq_eq _ _ q0
  obtain rfl:=ctsEq_eq _ _ q1
  obtain rfl:=ctsEq_eq _ _ q2
  obtain ⟨h1,rfl⟩:=pair_inj h
  exact (e80 xa xb xc a1).trans ((brO (fun o:Option (Unit ⊕ (Int × Int × Int))=>some (AV.tup [Ai (ro o 0 (sumE (fun _=>0) (fun p43=>p43.1))),AV.bool (ro o false (sumE (fun _=>false) (fun p43=>true)))])) (brS (fun o:Unit ⊕ (Int × Int × Int)=>some (AV.tup [Ai ((sumE (fun _=>0) (fun p43=>p43.1)) o),AV.bool ((sumE (fun _=>false) (fun p43=>true)) o)])) (fun _=>(fun _=>rfl)) (fun p43=>(fun _=>rfl)))) h1)
 ·cases h
noncomputable def c89:Cfg:=cfg Tryz.prog [(89,999,[4])] [(80,m80)] [] [] []
def q89 (xa xb xc:List AV) (a1:Int):Bool:=q80 xa xb xc a1
def v89_0 (xa xb xc:List AV) (a1:Int):Bool:=(v80_1 xa xb xc a1)
theorem e89 (xa xb xc:List AV) (a1:Int):funA c89 0 89 [AV.agg [AV.sl [.int .i64] xa,AV.sl [.int .i64] xb,AV.sl [.int .i64,.int .i64] xc],Ai a1]=(bif q80 xa xb xc a1 then some (AV.bool (v80_1 xa xb xc a1))
 else none):=by kernel_rfl
def m89:TModel
 | [.agg [.sl g0 xa,.sl g1 xb,.sl g2 xc],.int .i64 a1]=>bif ctsEq g0 ([.int .i64]) && ctsEq g1 ([.int .i64]) && ctsEq g2 ([.int .i64,.int .i64]) then some (q89 xa xb xc a1,AV.bool (v89_0 xa xb xc a1)) else none
 | _=>none
theorem k89:Known Tryz.prog 89:=⟨Tryz.f89,Tryz.func89,by kernel_rfl,by kernel_rfl⟩
theorem meets89:Meets Tryz.prog 89 m89:=by
 refine meet (f:=Tryz.f89) (l:=[]) (hs:=[(89,999,[4])]) (ts:=[(80,m80)]) (ws:=[]) (is:=[]) (ls:=[]) (lvl:=0) mixed k89 Tryz.func89 (by kernel_rfl) noLoop (allT_cons meets80 allT_nil) allM_nil noI fun w xs us r hl hv h=>?_
 unfold m89 at h
 split at h
 ·rename_i g0 xa g1 xb g2 xc a1
  obtain ⟨hg,h⟩:=bif_pair h
  simp only [Bool.and_eq_true] at hg
  obtain ⟨⟨q0,q1⟩,q2⟩:=hg
  obtain rfl:=ctsEq_eq _ _ q0
  obtain rfl:=ctsEq_eq _ _ q1
  obtain rfl:=ctsEq_eq _ _ q2
  obtain ⟨h1,rfl⟩:=pair_inj h
  exact (e89 xa xb xc a1).trans ((brL1 (fun _=>rfl)) h1)
 ·cases h
end Go.Proofs.YtmcnplggcedihaaGreat
