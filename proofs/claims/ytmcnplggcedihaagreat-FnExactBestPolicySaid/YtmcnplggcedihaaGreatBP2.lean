import Derived.Test.YtmcnplggcedihaaGreatBP1
import Derived.Test.YtmcnplggcedihaaGreatProg
import Derived.KernelRfl
namespace Go.Proofs.YtmcnplggcedihaaGreat
open Go Go.Proofs.VE
set_option linter.unusedVariables false
set_option linter.unusedSimpArgs false
set_option maxRecDepth 100000
set_option maxHeartbeats 4000000
def F72_0_s0 (t2 t3 h0_0 h0_1 h0_2 h2_0 h2_1 h2_2:Int) (h4 h5 h6 h8:List AV):Out ((Int × Int × Int × Int × Int × Int × (List AV) × (List AV) × (List AV) × (List AV)) ⊕ ((List AV) × (List AV) × (List AV) × (List AV) × Int × Int × Int × Int × Int × Int × (List AV) × (List AV) × (List AV))) ((Int × Int × Int × Int × Int × Int × (List AV) × (List AV) × (List AV) × (List AV)) ⊕ ((List AV) × (List AV) × (List AV) × (List AV) × Int × Int × Int × Int × Int × Int × (List AV) × (List AV) × (List AV))):=(bif !decide (h0_0=0) then (bif q83 h4 h5 h6 t2 then (bif q58 h4 h5 h6 t2 then (bif (v58_1 h4 h5 h6 t2) then .stop (.inl (h0_0,h0_1,h0_2,h2_0,h2_1,h2_2,h4,h5,h6,h8))
 else (bif decide (IntKind.i64.wrap ((v83_1 h4 h5 h6 t2) - (v83_0 h4 h5 h6 t2))≤h0_1) then .stop (.inl (h0_0,h0_1,h0_2,h2_0,h2_1,h2_2,h4,h5,h6,h8))
 else (bif q84 h4 h5 h6 h0_0 h0_1 h0_2 (v83_0 h4 h5 h6 t2) (v83_1 h4 h5 h6 t2) then (bif q85 (v84_0 h4 h5 h6 h0_0 h0_1 h0_2 (v83_0 h4 h5 h6 t2) (v83_1 h4 h5 h6 t2)) t3 h4 h5 h6 h8 then (bif q85 (IntKind.i64.wrap ((v84_0 h4 h5 h6 h0_0 h0_1 h0_2 (v83_0 h4 h5 h6 t2) (v83_1 h4 h5 h6 t2))+1)) t3 (v85_0 (v84_0 h4 h5 h6 h0_0 h0_1 h0_2 (v83_0 h4 h5 h6 t2) (v83_1 h4 h5 h6 t2)) t3 h4 h5 h6 h8) (v85_1 (v84_0 h4 h5 h6 h0_0 h0_1 h0_2 (v83_0 h4 h5 h6 t2) (v83_1 h4 h5 h6 t2)) t3 h4 h5 h6 h8) (v85_2 (v84_0 h4 h5 h6 h0_0 h0_1 h0_2 (v83_0 h4 h5 h6 t2) (v83_1 h4 h5 h6 t2)) t3 h4 h5 h6 h8) (v85_6 (v84_0 h4 h5 h6 h0_0 h0_1 h0_2 (v83_0 h4 h5 h6 t2) (v83_1 h4 h5 h6 t2)) t3 h4 h5 h6 h8) then .next (.inr ((v85_0 (IntKind.i64.wrap ((v84_0 h4 h5 h6 h0_0 h0_1 h0_2 (v83_0 h4 h5 h6 t2) (v83_1 h4 h5 h6 t2))+1)) t3 (v85_0 (v84_0 h4 h5 h6 h0_0 h0_1 h0_2 (v83_0 h4 h5 h6 t2) (v83_1 h4 h5 h6 t2)) t3 h4 h5 h6 h8) (v85_1 (v84_0 h4 h5 h6 h0_0 h0_1 h0_2 (v83_0 h4 h5 h6 t2) (v83_1 h4 h5 h6 t2)) t3 h4 h5 h6 h8) (v85_2 (v84_0 h4 h5 h6 h0_0 h0_1 h0_2 (v83_0 h4 h5 h6 t2) (v83_1 h4 h5 h6 t2)) t3 h4 h5 h6 h8) (v85_6 (v84_0 h4 h5 h6 h0_0 h0_1 h0_2 (v83_0 h4 h5 h6 t2) (v83_1 h4 h5 h6 t2)) t3 h4 h5 h6 h8)),(v85_1 (IntKind.i64.wrap ((v84_0 h4 h5 h6 h0_0 h0_1 h0_2 (v83_0 h4 h5 h6 t2) (v83_1 h4 h5 h6 t2))+1)) t3 (v85_0 (v84_0 h4 h5 h6 h0_0 h0_1 h0_2 (v83_0 h4 h5 h6 t2) (v83_1 h4 h5 h6 t2)) t3 h4 h5 h6 h8) (v85_1 (v84_0 h4 h5 h6 h0_0 h0_1 h0_2 (v83_0 h4 h5 h6 t2) (v83_1 h4 h5 h6 t2)) t3 h4 h5 h6 h8) (v85_2 (v84_0 h4 h5 h6 h0_0 h0_1 h0_2 (v83_0 h4 h5 h6 t2) (v83_1 h4 h5 h6 t2)) t3 h4 h5 h6 h8) (v85_6 (v84_0 h4 h5 h6 h0_0 h0_1 h0_2 (v83_0 h4 h5 h6 t2) (v83_1 h4 h5 h6 t2)) t3 h4 h5 h6 h8)),(v85_2 (IntKind.i64.wrap ((v84_0 h4 h5 h6 h0_0 h0_1 h0_2 (v83_0 h4 h5 h6 t2) (v83_1 h4 h5 h6 t2))+1)) t3 (v85_0 (v84_0 h4 h5 h6 h0_0 h0_1 h0_2 (v83_0 h4 h5 h6 t2) (v83_1 h4 h5 h6 t2)) t3 h4 h5 h6 h8) (v85_1 (v84_0 h4 h5 h6 h0_0 h0_1 h0_2 (v83_0 h4 h5 h6 t2) (v83_1 h4 h5 h6 t2)) t3 h4 h5 h6 h8) (v85_2 (v84_0 h4 h5 h6 h0_0 h0_1 h0_2 (v83_0 h4 h5 h6 t2) (v83_1 h4 h5 h6 t2)) t3 h4 h5 h6 h8) (v85_6 (v84_0 h4 h5 h6 h0_0 h0_1 h0_2 (v83_0 h4 h5 h6 t2) (v83_1 h4 h5 h6 t2)) t3 h4 h5 h6 h8)),(v85_6 (IntKind.i64.wrap ((v84_0 h4 h5 h6 h0_0 h0_1 h0_2 (v83_0 h4 h5 h6 t2) (v83_1 h4 h5 h6 t2))+1)) t3 (v85_0 (v84_0 h4 h5 h6 h0_0 h0_1 h0_2 (v83_0 h4 h5 h6 t2) (v83_1 h4 h5 h6 t2)) t3 h4 h5 h6 h8) (v85_1 (v84_0 h4 h5 h6 h0_0 h0_1 h0_2 (v83_0 h4 h5 h6 t2) (v83_1 h4 h5 h6 t2)) t3 h4 h5 h6 h8) (v85_2 (v84_0 h4 h5 h6 h0_0 h0_1 h0_2 (v83_0 h4 h5 h6 t2) (v83_1 h4 h5 h6 t2)) t3 h4 h5 h6 h8) (v85_6 (v84_0 h4 h5 h6 h0_0 h0_1 h0_2 (v83_0 h4 h5 h6 t2) (v83_1 h4 h5 h6 t2)) t3 h4 h5 h6 h8)),(v84_1 h4 h5 h6 h0_0 h0_1 h0_2 (v83_0 h4 h5 h6 t2) (v83_1 h4 h5 h6 t2)),(v84_2 h4 h5 h6 h0_0 h0_1 h0_2 (v83_0 h4 h5 h6 t2) (v83_1 h4 h5 h6 t2)),(v84_3 h4 h5 h6 h0_0 h0_1 h0_2 (v83_0 h4 h5 h6 t2) (v83_1 h4 h5 h6 t2)),h2_0,h2_1,h2_2,(v85_3 (v84_0 h4 h5 h6 h0_0 h0_1 h0_2 (v83_0 h4 h5 h6 t2) (v83_1 h4 h5 h6 t2)) t3 h4 h5 h6 h8),(v85_4 (v84_0 h4 h5 h6 h0_0 h0_1 h0_2 (v83_0 h4 h5 h6 t2) (v83_1 h4 h5 h6 t2)) t3 h4 h5 h6 h8),(v85_5 (v84_0 h4 h5 h6 h0_0 h0_1 h0_2 (v83_0 h4 h5 h6 t2) (v83_1 h4 h5 h6 t2)) t3 h4 h5 h6 h8)))
 else .fail)
 else .fail)
 else .fail)))
 else .fail)
 else .fail)
 else .stop (.inl (h0_0,h0_1,h0_2,h2_0,h2_1,h2_2,h4,h5,h6,h8)))
def F72_0_s1 (t2 t3:Int) (h0 h1 h2 h3:List AV) (h4_0 h4_1 h4_2 h6_0 h6_1 h6_2:Int) (h8 h9 h10:List AV):Out ((Int × Int × Int × Int × Int × Int × (List AV) × (List AV) × (List AV) × (List AV)) ⊕ ((List AV) × (List AV) × (List AV) × (List AV) × Int × Int × Int × Int × Int × Int × (List AV) × (List AV) × (List AV))) ((Int × Int × Int × Int × Int × Int × (List AV) × (List AV) × (List AV) × (List AV)) ⊕ ((List AV) × (List AV) × (List AV) × (List AV) × Int × Int × Int × Int × Int × Int × (List AV) × (List AV) × (List AV))):=(bif !decide (h4_0=0) then (bif q83 h0 h1 h2 t2 then (bif q58 h0 h1 h2 t2 then (bif (v58_1 h0 h1 h2 t2) then .stop (.inr (h0,h1,h2,h3,h4_0,h4_1,h4_2,h6_0,h6_1,h6_2,h8,h9,h10))
 else (bif decide (IntKind.i64.wrap ((v83_1 h0 h1 h2 t2) - (v83_0 h0 h1 h2 t2))≤h4_1) then .stop (.inr (h0,h1,h2,h3,h4_0,h4_1,h4_2,h6_0,h6_1,h6_2,h8,h9,h10))
 else (bif q84 h0 h1 h2 h4_0 h4_1 h4_2 (v83_0 h0 h1 h2 t2) (v83_1 h0 h1 h2 t2) then (bif q85 (v84_0 h0 h1 h2 h4_0 h4_1 h4_2 (v83_0 h0 h1 h2 t2) (v83_1 h0 h1 h2 t2)) t3 h0 h1 h2 h3 then (bif q85 (IntKind.i64.wrap ((v84_0 h0 h1 h2 h4_0 h4_1 h4_2 (v83_0 h0 h1 h2 t2) (v83_1 h0 h1 h2 t2))+1)) t3 (v85_0 (v84_0 h0 h1 h2 h4_0 h4_1 h4_2 (v83_0 h0 h1 h2 t2) (v83_1 h0 h1 h2 t2)) t3 h0 h1 h2 h3) (v85_1 (v84_0 h0 h1 h2 h4_0 h4_1 h4_2 (v83_0 h0 h1 h2 t2) (v83_1 h0 h1 h2 t2)) t3 h0 h1 h2 h3) (v85_2 (v84_0 h0 h1 h2 h4_0 h4_1 h4_2 (v83_0 h0 h1 h2 t2) (v83_1 h0 h1 h2 t2)) t3 h0 h1 h2 h3) (v85_6 (v84_0 h0 h1 h2 h4_0 h4_1 h4_2 (v83_0 h0 h1 h2 t2) (v83_1 h0 h1 h2 t2)) t3 h0 h1 h2 h3) then .next (.inr ((v85_0 (IntKind.i64.wrap ((v84_0 h0 h1 h2 h4_0 h4_1 h4_2 (v83_0 h0 h1 h2 t2) (v83_1 h0 h1 h2 t2))+1)) t3 (v85_0 (v84_0 h0 h1 h2 h4_0 h4_1 h4_2 (v83_0 h0 h1 h2 t2) (v83_1 h0 h1 h2 t2)) t3 h0 h1 h2 h3) (v85_1 (v84_0 h0 h1 h2 h4_0 h4_1 h4_2 (v83_0 h0 h1 h2 t2) (v83_1 h0 h1 h2 t2)) t3 h0 h1 h2 h3) (v85_2 (v84_0 h0 h1 h2 h4_0 h4_1 h4_2 (v83_0 h0 h1 h2 t2) (v83_1 h0 h1 h2 t2)) t3 h0 h1 h2 h3) (v85_6 (v84_0 h0 h1 h2 h4_0 h4_1 h4_2 (v83_0 h0 h1 h2 t2) (v83_1 h0 h1 h2 t2)) t3 h0 h1 h2 h3)),(v85_1 (IntKind.i64.wrap ((v84_0 h0 h1 h2 h4_0 h4_1 h4_2 (v83_0 h0 h1 h2 t2) (v83_1 h0 h1 h2 t2))+1)) t3 (v85_0 (v84_0 h0 h1 h2 h4_0 h4_1 h4_2 (v83_0 h0 h1 h2 t2) (v83_1 h0 h1 h2 t2)) t3 h0 h1 h2 h3) (v85_1 (v84_0 h0 h1 h2 h4_0 h4_1 h4_2 (v83_0 h0 h1 h2 t2) (v83_1 h0 h1 h2 t2)) t3 h0 h1 h2 h3) (v85_2 (v84_0 h0 h1 h2 h4_0 h4_1 h4_2 (v83_0 h0 h1 h2 t2) (v83_1 h0 h1 h2 t2)) t3 h0 h1 h2 h3) (v85_6 (v84_0 h0 h1 h2 h4_0 h4_1 h4_2 (v83_0 h0 h1 h2 t2) (v83_1 h0 h1 h2 t2)) t3 h0 h1 h2 h3)),(v85_2 (IntKind.i64.wrap ((v84_0 h0 h1 h2 h4_0 h4_1 h4_2 (v83_0 h0 h1 h2 t2) (v83_1 h0 h1 h2 t2))+1)) t3 (v85_0 (v84_0 h0 h1 h2 h4_0 h4_1 h4_2 (v83_0 h0 h1 h2 t2) (v83_1 h0 h1 h2 t2)) t3 h0 h1 h2 h3) (v85_1 (v84_0 h0 h1 h2 h4_0 h4_1 h4_2 (v83_0 h0 h1 h2 t2) (v83_1 h0 h1 h2 t2)) t3 h0 h1 h2 h3) (v85_2 (v84_0 h0 h1 h2 h4_0 h4_1 h4_2 (v83_0 h0 h1 h2 t2) (v83_1 h0 h1 h2 t2)) t3 h0 h1 h2 h3) (v85_6 (v84_0 h0 h1 h2 h4_0 h4_1 h4_2 (v83_0 h0 h1 h2 t2) (v83_1 h0 h1 h2 t2)) t3 h0 h1 h2 h3)),(v85_6 (IntKind.i64.wrap ((v84_0 h0 h1 h2 h4_0 h4_1 h4_2 (v83_0 h0 h1 h2 t2) (v83_1 h0 h1 h2 t2))+1)) t3 (v85_0 (v84_0 h0 h1 h2 h4_0 h4_1 h4_2 (v83_0 h0 h1 h2 t2) (v83_1 h0 h1 h2 t2)) t3 h0 h1 h2 h3) (v85_1 (v84_0 h0 h1 h2 h4_0 h4_1 h4_2 (v83_0 h0 h1 h2 t2) (v83_1 h0 h1 h2 t2)) t3 h0 h1 h2 h3) (v85_2 (v84_0 h0 h1 h2 h4_0 h4_1 h4_2 (v83_0 h0 h1 h2 t2) (v83_1 h0 h1 h2 t2)) t3 h0 h1 h2 h3) (v85_6 (v84_0 h0 h1 h2 h4_0 h4_1 h4_2 (v83_0 h0 h1 h2 t2) (v83_1 h0 h1 h2 t2)) t3 h0 h1 h2 h3)),(v84_1 h0 h1 h2 h4_0 h4_1 h4_2 (v83_0 h0 h1 h2 t2) (v83_1 h0 h1 h2 t2)),(v84_2 h0 h1 h2 h4_0 h4_1 h4_2 (v83_0 h0 h1 h2 t2) (v83_1 h0 h1 h2 t2)),(v84_3 h0 h1 h2 h4_0 h4_1 h4_2 (v83_0 h0 h1 h2 t2) (v83_1 h0 h1 h2 t2)),h6_0,h6_1,h6_2,h8,h9,h10))
 else .fail)
 else .fail)
 else .fail)))
 else .fail)
 else .fail)
 else .stop (.inr (h0,h1,h2,h3,h4_0,h4_1,h4_2,h6_0,h6_1,h6_2,h8,h9,h10)))
def R72_0 (t2 t3:Int):((Int × Int × Int × Int × Int × Int × (List AV) × (List AV) × (List AV) × (List AV)) ⊕ ((List AV) × (List AV) × (List AV) × (List AV) × Int × Int × Int × Int × Int × Int × (List AV) × (List AV) × (List AV)))→Out ((Int × Int × Int × Int × Int × Int × (List AV) × (List AV) × (List AV) × (List AV)) ⊕ ((List AV) × (List AV) × (List AV) × (List AV) × Int × Int × Int × Int × Int × Int × (List AV) × (List AV) × (List AV))) ((Int × Int × Int × Int × Int × Int × (List AV) × (List AV) × (List AV) × (List AV)) ⊕ ((List AV) × (List AV) × (List AV) × (List AV) × Int × Int × Int × Int × Int × Int × (List AV) × (List AV) × (List AV))):=sumE (fun s:Int × Int × Int × Int × Int × Int × (List AV) × (List AV) × (List AV) × (List AV)=>F72_0_s0 t2 t3 s.1 s.2.1 s.2.2.1 s.2.2.2.1 s.2.2.2.2.1 s.2.2.2.2.2.1 s.2.2.2.2.2.2.1 s.2.2.2.2.2.2.2.1 s.2.2.2.2.2.2.2.2.1 s.2.2.2.2.2.2.2.2.2) (fun s:(List AV) × (List AV) × (List AV) × (List AV) × Int × Int × Int × Int × Int × Int × (List AV) × (List AV) × (List AV)=>F72_0_s1 t2 t3 s.1 s.2.1 s.2.2.1 s.2.2.2.1 s.2.2.2.2.1 s.2.2.2.2.2.1 s.2.2.2.2.2.2.1 s.2.2.2.2.2.2.2.1 s.2.2.2.2.2.2.2.2.1 s.2.2.2.2.2.2.2.2.2.1 s.2.2.2.2.2.2.2.2.2.2.1 s.2.2.2.2.2.2.2.2.2.2.2.1 s.2.2.2.2.2.2.2.2.2.2.2.2)
def E72_0 (t2 t3:Int):((Int × Int × Int × Int × Int × Int × (List AV) × (List AV) × (List AV) × (List AV)) ⊕ ((List AV) × (List AV) × (List AV) × (List AV) × Int × Int × Int × Int × Int × Int × (List AV) × (List AV) × (List AV)))→St:=sumE (fun s:Int × Int × Int × Int × Int × Int × (List AV) × (List AV) × (List AV) × (List AV)=>⟨[(2,Ai t2),(3,Ai t3),(4,AV.ptr [4] 0 0),(6,AV.ptr [0,6,0] 0 0),(10,AV.ptr [0,10,0] 0 0),(11,AV.ptr [0,11,0] 0 0),(12,AV.ptr [0,12,0] 0 0)],[([0,6,0],⟨true,[],[AV.agg [Ai s.1,Ai s.2.1,Ai s.2.2.1]]⟩),([0,10,0],⟨true,[],[AV.agg [AV.snil,AV.snil,AV.snil]]⟩),([0,11,0],⟨true,[],[AV.agg [Ai s.2.2.2.1,Ai s.2.2.2.2.1,Ai s.2.2.2.2.2.1]]⟩),([0,12,0],⟨true,[],[AV.agg [AV.own [1],AV.own [2],AV.own [3]]]⟩),([1],⟨false,[.int .i64],s.2.2.2.2.2.2.1⟩),([2],⟨false,[.int .i64],s.2.2.2.2.2.2.2.1⟩),([3],⟨false,[.int .i64,.int .i64],s.2.2.2.2.2.2.2.2.1⟩),([4],⟨true,[],[AV.own [5]]⟩),([5],⟨false,[.int .i64,.int .i64,.int .i64,.int .i64,.int .i64],s.2.2.2.2.2.2.2.2.2⟩)]⟩) (fun s:(List AV) × (List AV) × (List AV) × (List AV) × Int × Int × Int × Int × Int × Int × (List AV) × (List AV) × (List AV)=>⟨[(2,Ai t2),(3,Ai t3),(4,AV.ptr [4] 0 0),(6,AV.ptr [0,6,0] 0 0),(10,AV.ptr [0,10,0] 0 0),(11,AV.ptr [0,11,0] 0 0),(12,AV.ptr [0,12,0] 0 0)],[([0,0,12,0],⟨false,[.int .i64],s.1⟩),([0,1,12,0],⟨false,[.int .i64],s.2.1⟩),([0,2,12,0],⟨false,[.int .i64,.int .i64],s.2.2.1⟩),([0,4,7,0],⟨false,[.int .i64,.int .i64,.int .i64,.int .i64,.int .i64],s.2.2.2.1⟩),([0,6,0],⟨true,[],[AV.agg [Ai s.2.2.2.2.1,Ai s.2.2.2.2.2.1,Ai s.2.2.2.2.2.2.1]]⟩),([0,10,0],⟨true,[],[AV.agg [AV.snil,AV.snil,AV.snil]]⟩),([0,11,0],⟨true,[],[AV.agg [Ai s.2.2.2.2.2.2.2.1,Ai s.2.2.2.2.2.2.2.2.1,Ai s.2.2.2.2.2.2.2.2.2.1]]⟩),([0,12,0],⟨true,[],[AV.agg [AV.own [0,0,12,0],AV.own [0,1,12,0],AV.own [0,2,12,0]]]⟩),([1],⟨false,[.int .i64],s.2.2.2.2.2.2.2.2.2.2.1⟩),([2],⟨false,[.int .i64],s.2.2.2.2.2.2.2.2.2.2.2.1⟩),([3],⟨false,[.int .i64,.int .i64],s.2.2.2.2.2.2.2.2.2.2.2.2⟩),([4],⟨true,[],[AV.own [0,4,7,0]]⟩)]⟩)
def K72_0 (t2 t3:Int) (k:Kont):((Int × Int × Int × Int × Int × Int × (List AV) × (List AV) × (List AV) × (List AV)) ⊕ ((List AV) × (List AV) × (List AV) × (List AV) × Int × Int × Int × Int × Int × Int × (List AV) × (List AV) × (List AV)))→Option AV:=sumE (fun p:Int × Int × Int × Int × Int × Int × (List AV) × (List AV) × (List AV) × (List AV)=>k (.exit 0) ⟨[(2,Ai t2),(3,Ai t3),(4,AV.ptr [4] 0 0),(6,AV.ptr [0,6,0] 0 0),(10,AV.ptr [0,10,0] 0 0),(11,AV.ptr [0,11,0] 0 0),(12,AV.ptr [0,12,0] 0 0)],[([0,6,0],⟨true,[],[AV.agg [Ai p.1,Ai p.2.1,Ai p.2.2.1]]⟩),([0,10,0],⟨true,[],[AV.agg [AV.snil,AV.snil,AV.snil]]⟩),([0,11,0],⟨true,[],[AV.agg [Ai p.2.2.2.1,Ai p.2.2.2.2.1,Ai p.2.2.2.2.2.1]]⟩),([0,12,0],⟨true,[],[AV.agg [AV.own [1],AV.own [2],AV.own [3]]]⟩),([1],⟨false,[.int .i64],p.2.2.2.2.2.2.1⟩),([2],⟨false,[.int .i64],p.2.2.2.2.2.2.2.1⟩),([3],⟨false,[.int .i64,.int .i64],p.2.2.2.2.2.2.2.2.1⟩),([4],⟨true,[],[AV.own [5]]⟩),([5],⟨false,[.int .i64,.int .i64,.int .i64,.int .i64,.int .i64],p.2.2.2.2.2.2.2.2.2⟩)]⟩) (fun p:(List AV) × (List AV) × (List AV) × (List AV) × Int × Int × Int × Int × Int × Int × (List AV) × (List AV) × (List AV)=>k (.exit 0) ⟨[(2,Ai t2),(3,Ai t3),(4,AV.ptr [4] 0 0),(6,AV.ptr [0,6,0] 0 0),(10,AV.ptr [0,10,0] 0 0),(11,AV.ptr [0,11,0] 0 0),(12,AV.ptr [0,12,0] 0 0)],[([0,0,12,0],⟨false,[.int .i64],p.1⟩),([0,1,12,0],⟨false,[.int .i64],p.2.1⟩),([0,2,12,0],⟨false,[.int .i64,.int .i64],p.2.2.1⟩),([0,4,7,0],⟨false,[.int .i64,.int .i64,.int .i64,.int .i64,.int .i64],p.2.2.2.1⟩),([0,6,0],⟨true,[],[AV.agg [Ai p.2.2.2.2.1,Ai p.2.2.2.2.2.1,Ai p.2.2.2.2.2.2.1]]⟩),([0,10,0],⟨true,[],[AV.agg [AV.snil,AV.snil,AV.snil]]⟩),([0,11,0],⟨true,[],[AV.agg [Ai p.2.2.2.2.2.2.2.1,Ai p.2.2.2.2.2.2.2.2.1,Ai p.2.2.2.2.2.2.2.2.2.1]]⟩),([0,12,0],⟨true,[],[AV.agg [AV.own [0,0,12,0],AV.own [0,1,12,0],AV.own [0,2,12,0]]]⟩),([1],⟨false,[.int .i64],p.2.2.2.2.2.2.2.2.2.2.1⟩),([2],⟨false,[.int .i64],p.2.2.2.2.2.2.2.2.2.2.2.1⟩),([3],⟨false,[.int .i64,.int .i64],p.2.2.2.2.2.2.2.2.2.2.2.2⟩),([4],⟨true,[],[AV.own [0,4,7,0]]⟩)]⟩)
def l72_0:LModel:=fun _ _ st k=>match st with
 | ⟨[(2,.int .i64 t2),(3,.int .i64 t3),(4,.ptr g0 g1 g2),(6,.ptr g3 g4 g5),(10,.ptr g6 g7 g8),(11,.ptr g9 g10 g11),(12,.ptr g12 g13 g14)],[(g15,⟨true,[],[.agg [.int .i64 h0_0,.int .i64 h0_1,.int .i64 h0_2]]⟩),(g16,⟨true,[],[.agg [.snil,.snil,.snil]]⟩),(g17,⟨true,[],[.agg [.int .i64 h2_0,.int .i64 h2_1,.int .i64 h2_2]]⟩),(g18,⟨true,[],[.agg [.own g19,.own g20,.own g21]]⟩),(g22,⟨false,g23,h4⟩),(g24,⟨false,g25,h5⟩),(g26,⟨false,g27,h6⟩),(g28,⟨true,[],[.own g29]⟩),(g30,⟨false,g31,h8⟩)]⟩=>bif nmEq g0 ([4]) && Nat.beq g1 0 && Nat.beq g2 0 && nmEq g3 ([0,6,0]) && Nat.beq g4 0 && Nat.beq g5 0 && nmEq g6 ([0,10,0]) && Nat.beq g7 0 && Nat.beq g8 0 && nmEq g9 ([0,11,0]) && Nat.beq g10 0 && Nat.beq g11 0 && nmEq g12 ([0,12,0]) && Nat.beq g13 0 && Nat.beq g14 0 && nmEq g15 ([0,6,0]) && nmEq g16 ([0,10,0]) && nmEq g17 ([0,11,0]) && nmEq g18 ([0,12,0]) && nmEq g19 ([1]) && nmEq g20 ([2]) && nmEq g21 ([3]) && nmEq g22 ([1]) && ctsEq g23 ([.int .i64]) && nmEq g24 ([2]) && ctsEq g25 ([.int .i64]) && nmEq g26 ([3]) && ctsEq g27 ([.int .i64,.int .i64]) && nmEq g28 ([4]) && nmEq g29 ([5]) && nmEq g30 ([5]) && ctsEq g31 ([.int .i64,.int .i64,.int .i64,.int .i64,.int .i64]) then ro (runW (R72_0 t2 t3) (2100) (.inl (h0_0,h0_1,h0_2,h2_0,h2_1,h2_2,h4,h5,h6,h8))) none (K72_0 t2 t3 k) else none
 | ⟨[(2,.int .i64 t2),(3,.int .i64 t3),(4,.ptr g0 g1 g2),(6,.ptr g3 g4 g5),(10,.ptr g6 g7 g8),(11,.ptr g9 g10 g11),(12,.ptr g12 g13 g14)],[(g15,⟨false,g16,h0⟩),(g17,⟨false,g18,h1⟩),(g19,⟨false,g20,h2⟩),(g21,⟨false,g22,h3⟩),(g23,⟨true,[],[.agg [.int .i64 h4_0,.int .i64 h4_1,.int .i64 h4_2]]⟩),(g24,⟨true,[],[.agg [.snil,.snil,.snil]]⟩),(g25,⟨true,[],[.agg [.int .i64 h6_0,.int .i64 h6_1,.int .i64 h6_2]]⟩),(g26,⟨true,[],[.agg [.own g27,.own g28,.own g29]]⟩),(g30,⟨false,g31,h8⟩),(g32,⟨false,g33,h9⟩),(g34,⟨false,g35,h10⟩),(g36,⟨true,[],[.own g37]⟩)]⟩=>bif nmEq g0 ([4]) && Nat.beq g1 0 && Nat.beq g2 0 && nmEq g3 ([0,6,0]) && Nat.beq g4 0 && Nat.beq g5 0 && nmEq g6 ([0,10,0]) && Nat.beq g7 0 && Nat.beq g8 0 && nmEq g9 ([0,11,0]) && Nat.beq g10 0 && Nat.beq g11 0 && nmEq g12 ([0,12,0]) && Nat.beq g13 0 && Nat.beq g14 0 && nmEq g15 ([0,0,12,0]) && ctsEq g16 ([.int .i64]) && nmEq g17 ([0,1,12,0]) && ctsEq g18 ([.int .i64]) && nmEq g19 ([0,2,12,0]) && ctsEq g20 ([.int .i64,.int .i64]) && nmEq g21 ([0,4,7,0]) && ctsEq g22 ([.int .i64,.int .i64,.int .i64,.int .i64,.int .i64]) && nmEq g23 ([0,6,0]) && nmEq g24 ([0,10,0]) && nmEq g25 ([0,11,0]) && nmEq g26 ([0,12,0]) && nmEq g27 ([0,0,12,0]) && nmEq g28 ([0,1,12,0]) && nmEq g29 ([0,2,12,0]) && nmEq g30 ([1]) && ctsEq g31 ([.int .i64]) && nmEq g32 ([2]) && ctsEq g33 ([.int .i64]) && nmEq g34 ([3]) && ctsEq g35 ([.int .i64,.int .i64]) && nmEq g36 ([4]) && nmEq g37 ([0,4,7,0]) then ro (runW (R72_0 t2 t3) (2100) (.inr (h0,h1,h2,h3,h4_0,h4_1,h4_2,h6_0,h6_1,h6_2,h8,h9,h10))) none (K72_0 t2 t3 k) else none
 | _=>none
noncomputable def c72:Cfg:=cfg Tryz.prog [(72,0,[2,3,4,6,10,11,12]),(72,999,[10,11]),(72,1000,[2,3,4,6,10,11,12]),(72,1001,[2,3,4,6,10,11,12])] [(58,m58),(83,m83),(84,m84)] [(85,.g m85)] [] [(72,0,l72_0)]
theorem s72_0_s0 (ce:CallE) (t2 t3 h0_0 h0_1 h0_2 h2_0 h2_1 h2_2:Int) (h4 h5 h6 h8:List AV) (next:St→Option AV) (k:Kont):stepA (codeA c72 ce [0] 72 0 (sub [1,1,0,0,0] (body Tryz.f72))) (normA [0] [2,3,4,6,10,11,12]) next ⟨[(2,Ai t2),(3,Ai t3),(4,AV.ptr [4] 0 0),(6,AV.ptr [0,6,0] 0 0),(10,AV.ptr [0,10,0] 0 0),(11,AV.ptr [0,11,0] 0 0),(12,AV.ptr [0,12,0] 0 0)],[([0,6,0],⟨true,[],[AV.agg [Ai h0_0,Ai h0_1,Ai h0_2]]⟩),([0,10,0],⟨true,[],[AV.agg [AV.snil,AV.snil,AV.snil]]⟩),([0,11,0],⟨true,[],[AV.agg [Ai h2_0,Ai h2_1,Ai h2_2]]⟩),([0,12,0],⟨true,[],[AV.agg [AV.own [1],AV.own [2],AV.own [3]]]⟩),([1],⟨false,[.int .i64],h4⟩),([2],⟨false,[.int .i64],h5⟩),([3],⟨false,[.int .i64,.int .i64],h6⟩),([4],⟨true,[],[AV.own [5]]⟩),([5],⟨false,[.int .i64,.int .i64,.int .i64,.int .i64,.int .i64],h8⟩)]⟩ k=(bif !decide (h0_0=0) then (bif q83 h4 h5 h6 t2 then (bif q58 h4 h5 h6 t2 then (bif (v58_1 h4 h5 h6 t2) then k (.exit 0) ⟨[(2,Ai t2),(3,Ai t3),(4,AV.ptr [4] 0 0),(6,AV.ptr [0,6,0] 0 0),(10,AV.ptr [0,10,0] 0 0),(11,AV.ptr [0,11,0] 0 0),(12,AV.ptr [0,12,0] 0 0)],[([0,6,0],⟨true,[],[AV.agg [Ai h0_0,Ai h0_1,Ai h0_2]]⟩),([0,10,0],⟨true,[],[AV.agg [AV.snil,AV.snil,AV.snil]]⟩),([0,11,0],⟨true,[],[AV.agg [Ai h2_0,Ai h2_1,Ai h2_2]]⟩),([0,12,0],⟨true,[],[AV.agg [AV.own [1],AV.own [2],AV.own [3]]]⟩),([1],⟨false,[.int .i64],h4⟩),([2],⟨false,[.int .i64],h5⟩),([3],⟨false,[.int .i64,.int .i64],h6⟩),([4],⟨true,[],[AV.own [5]]⟩),([5],⟨false,[.int .i64,.int .i64,.int .i64,.int .i64,.int .i64],h8⟩)]⟩
 else (bif decide (IntKind.i64.wrap ((v83_1 h4 h5 h6 t2) - (v83_0 h4 h5 h6 t2))≤h0_1) then k (.exit 0) ⟨[(2,Ai t2),(3,Ai t3),(4,AV.ptr [4] 0 0),(6,AV.ptr [0,6,0] 0 0),(10,AV.ptr [0,10,0] 0 0),(11,AV.ptr [0,11,0] 0 0),(12,AV.ptr [0,12,0] 0 0)],[([0,6,0],⟨true,[],[AV.agg [Ai h0_0,Ai h0_1,Ai h0_2]]⟩),([0,10,0],⟨true,[],[AV.agg [AV.snil,AV.snil,AV.snil]]⟩),([0,11,0],⟨true,[],[AV.agg [Ai h2_0,Ai h2_1,Ai h2_2]]⟩),([0,12,0],⟨true,[],[AV.agg [AV.own [1],AV.own [2],AV.own [3]]]⟩),([1],⟨false,[.int .i64],h4⟩),([2],⟨false,[.int .i64],h5⟩),([3],⟨false,[.int .i64,.int .i64],h6⟩),([4],⟨true,[],[AV.own [5]]⟩),([5],⟨false,[.int .i64,.int .i64,.int .i64,.int .i64,.int .i64],h8⟩)]⟩
 else (bif q84 h4 h5 h6 h0_0 h0_1 h0_2 (v83_0 h4 h5 h6 t2) (v83_1 h4 h5 h6 t2) then (bif q85 (v84_0 h4 h5 h6 h0_0 h0_1 h0_2 (v83_0 h4 h5 h6 t2) (v83_1 h4 h5 h6 t2)) t3 h4 h5 h6 h8 then (bif q85 (IntKind.i64.wrap ((v84_0 h4 h5 h6 h0_0 h0_1 h0_2 (v83_0 h4 h5 h6 t2) (v83_1 h4 h5 h6 t2))+1)) t3 (v85_0 (v84_0 h4 h5 h6 h0_0 h0_1 h0_2 (v83_0 h4 h5 h6 t2) (v83_1 h4 h5 h6 t2)) t3 h4 h5 h6 h8) (v85_1 (v84_0 h4 h5 h6 h0_0 h0_1 h0_2 (v83_0 h4 h5 h6 t2) (v83_1 h4 h5 h6 t2)) t3 h4 h5 h6 h8) (v85_2 (v84_0 h4 h5 h6 h0_0 h0_1 h0_2 (v83_0 h4 h5 h6 t2) (v83_1 h4 h5 h6 t2)) t3 h4 h5 h6 h8) (v85_6 (v84_0 h4 h5 h6 h0_0 h0_1 h0_2 (v83_0 h4 h5 h6 t2) (v83_1 h4 h5 h6 t2)) t3 h4 h5 h6 h8) then next ⟨[(2,Ai t2),(3,Ai t3),(4,AV.ptr [4] 0 0),(6,AV.ptr [0,6,0] 0 0),(10,AV.ptr [0,10,0] 0 0),(11,AV.ptr [0,11,0] 0 0),(12,AV.ptr [0,12,0] 0 0)],[([0,0,12,0],⟨false,[.int .i64],(v85_0 (IntKind.i64.wrap ((v84_0 h4 h5 h6 h0_0 h0_1 h0_2 (v83_0 h4 h5 h6 t2) (v83_1 h4 h5 h6 t2))+1)) t3 (v85_0 (v84_0 h4 h5 h6 h0_0 h0_1 h0_2 (v83_0 h4 h5 h6 t2) (v83_1 h4 h5 h6 t2)) t3 h4 h5 h6 h8) (v85_1 (v84_0 h4 h5 h6 h0_0 h0_1 h0_2 (v83_0 h4 h5 h6 t2) (v83_1 h4 h5 h6 t2)) t3 h4 h5 h6 h8) (v85_2 (v84_0 h4 h5 h6 h0_0 h0_1 h0_2 (v83_0 h4 h5 h6 t2) (v83_1 h4 h5 h6 t2)) t3 h4 h5 h6 h8) (v85_6 (v84_0 h4 h5 h6 h0_0 h0_1 h0_2 (v83_0 h4 h5 h6 t2) (v83_1 h4 h5 h6 t2)) t3 h4 h5 h6 h8))⟩),([0,1,12,0],⟨false,[.int .i64],(v85_1 (IntKind.i64.wrap ((v84_0 h4 h5 h6 h0_0 h0_1 h0_2 (v83_0 h4 h5 h6 t2) (v83_1 h4 h5 h6 t2))+1)) t3 (v85_0 (v84_0 h4 h5 h6 h0_0 h0_1 h0_2 (v83_0 h4 h5 h6 t2) (v83_1 h4 h5 h6 t2)) t3 h4 h5 h6 h8) (v85_1 (v84_0 h4 h5 h6 h0_0 h0_1 h0_2 (v83_0 h4 h5 h6 t2) (v83_1 h4 h5 h6 t2)) t3 h4 h5 h6 h8) (v85_2 (v84_0 h4 h5 h6 h0_0 h0_1 h0_2 (v83_0 h4 h5 h6 t2) (v83_1 h4 h5 h6 t2)) t3 h4 h5 h6 h8) (v85_6 (v84_0 h4 h5 h6 h0_0 h0_1 h0_2 (v83_0 h4 h5 h6 t2) (v83_1 h4 h5 h6 t2)) t3 h4 h5 h6 h8))⟩),([0,2,12,0],⟨false,[.int .i64,.int .i64],(v85_2 (IntKind.i64.wrap ((v84_0 h4 h5 h6 h0_0 h0_1 h0_2 (v83_0 h4 h5 h6 t2) (v83_1 h4 h5 h6 t2))+1)) t3 (v85_0 (v84_0 h4 h5 h6 h0_0 h0_1 h0_2 (v83_0 h4 h5 h6 t2) (v83_1 h4 h5 h6 t2)) t3 h4 h5 h6 h8) (v85_1 (v84_0 h4 h5 h6 h0_0 h0_1 h0_2 (v83_0 h4 h5 h6 t2) (v83_1 h4 h5 h6 t2)) t3 h4 h5 h6 h8) (v85_2 (v84_0 h4 h5 h6 h0_0 h0_1 h0_2 (v83_0 h4 h5 h6 t2) (v83_1 h4 h5 h6 t2)) t3 h4 h5 h6 h8) (v85_6 (v84_0 h4 h5 h6 h0_0 h0_1 h0_2 (v83_0 h4 h5 h6 t2) (v83_1 h4 h5 h6 t2)) t3 h4 h5 h6 h8))⟩),([0,4,7,0],⟨false,[.int .i64,.int .i64,.int .i64,.int .i64,.int .i64],(v85_6 (IntKind.i64.wrap ((v84_0 h4 h5 h6 h0_0 h0_1 h0_2 (v83_0 h4 h5 h6 t2) (v83_1 h4 h5 h6 t2))+1)) t3 (v85_0 (v84_0 h4 h5 h6 h0_0 h0_1 h0_2 (v83_0 h4 h5 h6 t2) (v83_1 h4 h5 h6 t2)) t3 h4 h5 h6 h8) (v85_1 (v84_0 h4 h5 h6 h0_0 h0_1 h0_2 (v83_0 h4 h5 h6 t2) (v83_1 h4 h5 h6 t2)) t3 h4 h5 h6 h8) (v85_2 (v84_0 h4 h5 h6 h0_0 h0_1 h0_2 (v83_0 h4 h5 h6 t2) (v83_1 h4 h5 h6 t2)) t3 h4 h5 h6 h8) (v85_6 (v84_0 h4 h5 h6 h0_0 h0_1 h0_2 (v83_0 h4 h5 h6 t2) (v83_1 h4 h5 h6 t2)) t3 h4 h5 h6 h8))⟩),([0,6,0],⟨true,[],[AV.agg [Ai (v84_1 h4 h5 h6 h0_0 h0_1 h0_2 (v83_0 h4 h5 h6 t2) (v83_1 h4 h5 h6 t2)),Ai (v84_2 h4 h5 h6 h0_0 h0_1 h0_2 (v83_0 h4 h5 h6 t2) (v83_1 h4 h5 h6 t2)),Ai (v84_3 h4 h5 h6 h0_0 h0_1 h0_2 (v83_0 h4 h5 h6 t2) (v83_1 h4 h5 h6 t2))]]⟩),([0,10,0],⟨true,[],[AV.agg [AV.snil,AV.snil,AV.snil]]⟩),([0,11,0],⟨true,[],[AV.agg [Ai h2_0,Ai h2_1,Ai h2_2]]⟩),([0,12,0],⟨true,[],[AV.agg [AV.own [0,0,12,0],AV.own [0,1,12,0],AV.own [0,2,12,0]]]⟩),([1],⟨false,[.int .i64],(v85_3 (v84_0 h4 h5 h6 h0_0 h0_1 h0_2 (v83_0 h4 h5 h6 t2) (v83_1 h4 h5 h6 t2)) t3 h4 h5 h6 h8)⟩),([2],⟨false,[.int .i64],(v85_4 (v84_0 h4 h5 h6 h0_0 h0_1 h0_2 (v83_0 h4 h5 h6 t2) (v83_1 h4 h5 h6 t2)) t3 h4 h5 h6 h8)⟩),([3],⟨false,[.int .i64,.int .i64],(v85_5 (v84_0 h4 h5 h6 h0_0 h0_1 h0_2 (v83_0 h4 h5 h6 t2) (v83_1 h4 h5 h6 t2)) t3 h4 h5 h6 h8)⟩),([4],⟨true,[],[AV.own [0,4,7,0]]⟩)]⟩
 else none)
 else none)
 else none)))
 else none)
 else none)
 else k (.exit 0) ⟨[(2,Ai t2),(3,Ai t3),(4,AV.ptr [4] 0 0),(6,AV.ptr [0,6,0] 0 0),(10,AV.ptr [0,10,0] 0 0),(11,AV.ptr [0,11,0] 0 0),(12,AV.ptr [0,12,0] 0 0)],[([0,6,0],⟨true,[],[AV.agg [Ai h0_0,Ai h0_1,Ai h0_2]]⟩),([0,10,0],⟨true,[],[AV.agg [AV.snil,AV.snil,AV.snil]]⟩),([0,11,0],⟨true,[],[AV.agg [Ai h2_0,Ai h2_1,Ai h2_2]]⟩),([0,12,0],⟨true,[],[AV.agg [AV.own [1],AV.own [2],AV.own [3]]]⟩),([1],⟨false,[.int .i64],h4⟩),([2],⟨false,[.int .i64],h5⟩),([3],⟨false,[.int .i64,.int .i64],h6⟩),([4],⟨true,[],[AV.own [5]]⟩),([5],⟨false,[.int .i64,.int .i64,.int .i64,.int .i64,.int .i64],h8⟩)]⟩):=by kernel_rfl
theorem s72_0_s1 (ce:CallE) (t2 t3:Int) (h0 h1 h2 h3:List AV) (h4_0 h4_1 h4_2 h6_0 h6_1 h6_2:Int) (h8 h9 h10:List AV) (next:St→Option AV) (k:Kont):stepA (codeA c72 ce [0] 72 0 (sub [1,1,0,0,0] (body Tryz.f72))) (normA [0] [2,3,4,6,10,11,12]) next ⟨[(2,Ai t2),(3,Ai t3),(4,AV.ptr [4] 0 0),(6,AV.ptr [0,6,0] 0 0),(10,AV.ptr [0,10,0] 0 0),(11,AV.ptr [0,11,0] 0 0),(12,AV.ptr [0,12,0] 0 0)],[([0,0,12,0],⟨false,[.int .i64],h0⟩),([0,1,12,0],⟨false,[.int .i64],h1⟩),([0,2,12,0],⟨false,[.int .i64,.int .i64],h2⟩),([0,4,7,0],⟨false,[.int .i64,.int .i64,.int .i64,.int .i64,.int .i64],h3⟩),([0,6,0],⟨true,[],[AV.agg [Ai h4_0,Ai h4_1,Ai h4_2]]⟩),([0,10,0],⟨true,[],[AV.agg [AV.snil,AV.snil,AV.snil]]⟩),([0,11,0],⟨true,[],[AV.agg [Ai h6_0,Ai h6_1,Ai h6_2]]⟩),([0,12,0],⟨true,[],[AV.agg [AV.own [0,0,12,0],AV.own [0,1,12,0],AV.own [0,2,12,0]]]⟩),([1],⟨false,[.int .i64],h8⟩),([2],⟨false,[.int .i64],h9⟩),([3],⟨false,[.int .i64,.int .i64],h10⟩),([4],⟨true,[],[AV.own [0,4,7,0]]⟩)]⟩ k=(bif !decide (h4_0=0) then (bif q83 h0 h1 h2 t2 then (bif q58 h0 h1 h2 t2 then (bif (v58_1 h0 h1 h2 t2) then k (.exit 0) ⟨[(2,Ai t2),(3,Ai t3),(4,AV.ptr [4] 0 0),(6,AV.ptr [0,6,0] 0 0),(10,AV.ptr [0,10,0] 0 0),(11,AV.ptr [0,11,0] 0 0),(12,AV.ptr [0,12,0] 0 0)],[([0,0,12,0],⟨false,[.int .i64],h0⟩),([0,1,12,0],⟨false,[.int .i64],h1⟩),([0,2,12,0],⟨false,[.int .i64,.int .i64],h2⟩),([0,4,7,0],⟨false,[.int .i64,.int .i64,.int .i64,.int .i64,.int .i64],h3⟩),([0,6,0],⟨true,[],[AV.agg [Ai h4_0,Ai h4_1,Ai h4_2]]⟩),([0,10,0],⟨true,[],[AV.agg [AV.snil,AV.snil,AV.snil]]⟩),([0,11,0],⟨true,[],[AV.agg [Ai h6_0,Ai h6_1,Ai h6_2]]⟩),([0,12,0],⟨true,[],[AV.agg [AV.own [0,0,12,0],AV.own [0,1,12,0],AV.own [0,2,12,0]]]⟩),([1],⟨false,[.int .i64],h8⟩),([2],⟨false,[.int .i64],h9⟩),([3],⟨false,[.int .i64,.int .i64],h10⟩),([4],⟨true,[],[AV.own [0,4,7,0]]⟩)]⟩
 else (bif decide (IntKind.i64.wrap ((v83_1 h0 h1 h2 t2) - (v83_0 h0 h1 h2 t2))≤h4_1) then k (.exit 0) ⟨[(2,Ai t2),(3,Ai t3),(4,AV.ptr [4] 0 0),(6,AV.ptr [0,6,0] 0 0),(10,AV.ptr [0,10,0] 0 0),(11,AV.ptr [0,11,0] 0 0),(12,AV.ptr [0,12,0] 0 0)],[([0,0,12,0],⟨false,[.int .i64],h0⟩),([0,1,12,0],⟨false,[.int .i64],h1⟩),([0,2,12,0],⟨false,[.int .i64,.int .i64],h2⟩),([0,4,7,0],⟨false,[.int .i64,.int .i64,.int .i64,.int .i64,.int .i64],h3⟩),([0,6,0],⟨true,[],[AV.agg [Ai h4_0,Ai h4_1,Ai h4_2]]⟩),([0,10,0],⟨true,[],[AV.agg [AV.snil,AV.snil,AV.snil]]⟩),([0,11,0],⟨true,[],[AV.agg [Ai h6_0,Ai h6_1,Ai h6_2]]⟩),([0,12,0],⟨true,[],[AV.agg [AV.own [0,0,12,0],AV.own [0,1,12,0],AV.own [0,2,12,0]]]⟩),([1],⟨false,[.int .i64],h8⟩),([2],⟨false,[.int .i64],h9⟩),([3],⟨false,[.int .i64,.int .i64],h10⟩),([4],⟨true,[],[AV.own [0,4,7,0]]⟩)]⟩
 else (bif q84 h0 h1 h2 h4_0 h4_1 h4_2 (v83_0 h0 h1 h2 t2) (v83_1 h0 h1 h2 t2) then (bif q85 (v84_0 h0 h1 h2 h4_0 h4_1 h4_2 (v83_0 h0 h1 h2 t2) (v83_1 h0 h1 h2 t2)) t3 h0 h1 h2 h3 then (bif q85 (IntKind.i64.wrap ((v84_0 h0 h1 h2 h4_0 h4_1 h4_2 (v83_0 h0 h1 h2 t2) (v83_1 h0 h1 h2 t2))+1)) t3 (v85_0 (v84_0 h0 h1 h2 h4_0 h4_1 h4_2 (v83_0 h0 h1 h2 t2) (v83_1 h0 h1 h2 t2)) t3 h0 h1 h2 h3) (v85_1 (v84_0 h0 h1 h2 h4_0 h4_1 h4_2 (v83_0 h0 h1 h2 t2) (v83_1 h0 h1 h2 t2)) t3 h0 h1 h2 h3) (v85_2 (v84_0 h0 h1 h2 h4_0 h4_1 h4_2 (v83_0 h0 h1 h2 t2) (v83_1 h0 h1 h2 t2)) t3 h0 h1 h2 h3) (v85_6 (v84_0 h0 h1 h2 h4_0 h4_1 h4_2 (v83_0 h0 h1 h2 t2) (v83_1 h0 h1 h2 t2)) t3 h0 h1 h2 h3) then next ⟨[(2,Ai t2),(3,Ai t3),(4,AV.ptr [4] 0 0),(6,AV.ptr [0,6,0] 0 0),(10,AV.ptr [0,10,0] 0 0),(11,AV.ptr [0,11,0] 0 0),(12,AV.ptr [0,12,0] 0 0)],[([0,0,12,0],⟨false,[.int .i64],(v85_0 (IntKind.i64.wrap ((v84_0 h0 h1 h2 h4_0 h4_1 h4_2 (v83_0 h0 h1 h2 t2) (v83_1 h0 h1 h2 t2))+1)) t3 (v85_0 (v84_0 h0 h1 h2 h4_0 h4_1 h4_2 (v83_0 h0 h1 h2 t2) (v83_1 h0 h1 h2 t2)) t3 h0 h1 h2 h3) (v85_1 (v84_0 h0 h1 h2 h4_0 h4_1 h4_2 (v83_0 h0 h1 h2 t2) (v83_1 h0 h1 h2 t2)) t3 h0 h1 h2 h3) (v85_2 (v84_0 h0 h1 h2 h4_0 h4_1 h4_2 (v83_0 h0 h1 h2 t2) (v83_1 h0 h1 h2 t2)) t3 h0 h1 h2 h3) (v85_6 (v84_0 h0 h1 h2 h4_0 h4_1 h4_2 (v83_0 h0 h1 h2 t2) (v83_1 h0 h1 h2 t2)) t3 h0 h1 h2 h3))⟩),([0,1,12,0],⟨false,[.int .i64],(v85_1 (IntKind.i64.wrap ((v84_0 h0 h1 h2 h4_0 h4_1 h4_2 (v83_0 h0 h1 h2 t2) (v83_1 h0 h1 h2 t2))+1)) t3 (v85_0 (v84_0 h0 h1 h2 h4_0 h4_1 h4_2 (v83_0 h0 h1 h2 t2) (v83_1 h0 h1 h2 t2)) t3 h0 h1 h2 h3) (v85_1 (v84_0 h0 h1 h2 h4_0 h4_1 h4_2 (v83_0 h0 h1 h2 t2) (v83_1 h0 h1 h2 t2)) t3 h0 h1 h2 h3) (v85_2 (v84_0 h0 h1 h2 h4_0 h4_1 h4_2 (v83_0 h0 h1 h2 t2) (v83_1 h0 h1 h2 t2)) t3 h0 h1 h2 h3) (v85_6 (v84_0 h0 h1 h2 h4_0 h4_1 h4_2 (v83_0 h0 h1 h2 t2) (v83_1 h0 h1 h2 t2)) t3 h0 h1 h2 h3))⟩),([0,2,12,0],⟨false,[.int .i64,.int .i64],(v85_2 (IntKind.i64.wrap ((v84_0 h0 h1 h2 h4_0 h4_1 h4_2 (v83_0 h0 h1 h2 t2) (v83_1 h0 h1 h2 t2))+1)) t3 (v85_0 (v84_0 h0 h1 h2 h4_0 h4_1 h4_2 (v83_0 h0 h1 h2 t2) (v83_1 h0 h1 h2 t2)) t3 h0 h1 h2 h3) (v85_1 (v84_0 h0 h1 h2 h4_0 h4_1 h4_2 (v83_0 h0 h1 h2 t2) (v83_1 h0 h1 h2 t2)) t3 h0 h1 h2 h3) (v85_2 (v84_0 h0 h1 h2 h4_0 h4_1 h4_2 (v83_0 h0 h1 h2 t2) (v83_1 h0 h1 h2 t2)) t3 h0 h1 h2 h3) (v85_6 (v84_0 h0 h1 h2 h4_0 h4_1 h4_2 (v83_0 h0 h1 h2 t2) (v83_1 h0 h1 h2 t2)) t3 h0 h1 h2 h3))⟩),([0,4,7,0],⟨false,[.int .i64,.int .i64,.int .i64,.int .i64,.int .i64],(v85_6 (IntKind.i64.wrap ((v84_0 h0 h1 h2 h4_0 h4_1 h4_2 (v83_0 h0 h1 h2 t2) (v83_1 h0 h1 h2 t2))+1)) t3 (v85_0 (v84_0 h0 h1 h2 h4_0 h4_1 h4_2 (v83_0 h0 h1 h2 t2) (v83_1 h0 h1 h2 t2)) t3 h0 h1 h2 h3) (v85_1 (v84_0 h0 h1 h2 h4_0 h4_1 h4_2 (v83_0 h0 h1 h2 t2) (v83_1 h0 h1 h2 t2)) t3 h0 h1 h2 h3) (v85_2 (v84_0 h0 h1 h2 h4_0 h4_1 h4_2 (v83_0 h0 h1 h2 t2) (v83_1 h0 h1 h2 t2)) t3 h0 h1 h2 h3) (v85_6 (v84_0 h0 h1 h2 h4_0 h4_1 h4_2 (v83_0 h0 h1 h2 t2) (v83_1 h0 h1 h2 t2)) t3 h0 h1 h2 h3))⟩),([0,6,0],⟨true,[],[AV.agg [Ai (v84_1 h0 h1 h2 h4_0 h4_1 h4_2 (v83_0 h0 h1 h2 t2) (v83_1 h0 h1 h2 t2)),Ai (v84_2 h0 h1 h2 h4_0 h4_1 h4_2 (v83_0 h0 h1 h2 t2) (v83_1 h0 h1 h2 t2)),Ai (v84_3 h0 h1 h2 h4_0 h4_1 h4_2 (v83_0 h0 h1 h2 t2) (v83_1 h0 h1 h2 t2))]]⟩),([0,10,0],⟨true,[],[AV.agg [AV.snil,AV.snil,AV.snil]]⟩),([0,11,0],⟨true,[],[AV.agg [Ai h6_0,Ai h6_1,Ai h6_2]]⟩),([0,12,0],⟨true,[],[AV.agg [AV.own [0,0,12,0],AV.own [0,1,12,0],AV.own [0,2,12,0]]]⟩),([1],⟨false,[.int .i64],h8⟩),([2],⟨false,[.int .i64],h9⟩),([3],⟨false,[.int .i64,.int .i64],h10⟩),([4],⟨true,[],[AV.own [0,4,7,0]]⟩)]⟩
 else none)
 else none)
 else none)))
 else none)
 else none)
 else k (.exit 0) ⟨[(2,Ai t2),(3,Ai t3),(4,AV.ptr [4] 0 0),(6,AV.ptr [0,6,0] 0 0),(10,AV.ptr [0,10,0] 0 0),(11,AV.ptr [0,11,0] 0 0),(12,AV.ptr [0,12,0] 0 0)],[([0,0,12,0],⟨false,[.int .i64],h0⟩),([0,1,12,0],⟨false,[.int .i64],h1⟩),([0,2,12,0],⟨false,[.int .i64,.int .i64],h2⟩),([0,4,7,0],⟨false,[.int .i64,.int .i64,.int .i64,.int .i64,.int .i64],h3⟩),([0,6,0],⟨true,[],[AV.agg [Ai h4_0,Ai h4_1,Ai h4_2]]⟩),([0,10,0],⟨true,[],[AV.agg [AV.snil,AV.snil,AV.snil]]⟩),([0,11,0],⟨true,[],[AV.agg [Ai h6_0,Ai h6_1,Ai h6_2]]⟩),([0,12,0],⟨true,[],[AV.agg [AV.own [0,0,12,0],AV.own [0,1,12,0],AV.own [0,2,12,0]]]⟩),([1],⟨false,[.int .i64],h8⟩),([2],⟨false,[.int .i64],h9⟩),([3],⟨false,[.int .i64,.int .i64],h10⟩),([4],⟨true,[],[AV.own [0,4,7,0]]⟩)]⟩):=by kernel_rfl
theorem st72_0 (t2 t3:Int) (ce:CallE) (k:Kont) (s:(Int × Int × Int × Int × Int × Int × (List AV) × (List AV) × (List AV) × (List AV)) ⊕ ((List AV) × (List AV) × (List AV) × (List AV) × Int × Int × Int × Int × Int × Int × (List AV) × (List AV) × (List AV))) (next:St→Option AV):stepA (codeA c72 ce [0] 72 0 (sub [1,1,0,0,0] (body Tryz.f72))) (normA [0] [2,3,4,6,10,11,12]) next ((E72_0 t2 t3) s) k=(R72_0 t2 t3 s).el none (fun s=>next ((E72_0 t2 t3) s)) (K72_0 t2 t3 k):=(match s with | .inl s=>(s72_0_s0 ce t2 t3 s.1 s.2.1 s.2.2.1 s.2.2.2.1 s.2.2.2.2.1 s.2.2.2.2.2.1 s.2.2.2.2.2.2.1 s.2.2.2.2.2.2.2.1 s.2.2.2.2.2.2.2.2.1 s.2.2.2.2.2.2.2.2.2 next k).trans (by unfold R72_0;unfold F72_0_s0;simp only [el_cond,el_ro,el_sum,el_fail,el_next,el_stop] <;> rfl) | .inr s=>(s72_0_s1 ce t2 t3 s.1 s.2.1 s.2.2.1 s.2.2.2.1 s.2.2.2.2.1 s.2.2.2.2.2.1 s.2.2.2.2.2.2.1 s.2.2.2.2.2.2.2.1 s.2.2.2.2.2.2.2.2.1 s.2.2.2.2.2.2.2.2.2.1 s.2.2.2.2.2.2.2.2.2.2.1 s.2.2.2.2.2.2.2.2.2.2.2.1 s.2.2.2.2.2.2.2.2.2.2.2.2 next k).trans (by unfold R72_0;unfold F72_0_s1;simp only [el_cond,el_ro,el_sum,el_fail,el_next,el_stop] <;> rfl))
theorem ok72_0 {ce:CallE}:LoopOK c72 ce [0] 72 0 (sub [1,1,0,0,0] (body Tryz.f72)):=by
 intro m hm st k r h
 obtain rfl:l72_0=m:=Option.some.inj hm
 unfold l72_0 at h
 split at h
 ·rename_i t2 t3 g0 g1 g2 g3 g4 g5 g6 g7 g8 g9 g10 g11 g12 g13 g14 g15 h0_0 h0_1 h0_2 g16 g17 h2_0 h2_1 h2_2 g18 g19 g20 g21 g22 g23 h4 g24 g25 h5 g26 g27 h6 g28 g29 g30 g31 h8
  obtain ⟨hg,h⟩:=bif_some h
  simp only [Bool.and_eq_true] at hg
  obtain ⟨⟨⟨⟨⟨⟨⟨⟨⟨⟨⟨⟨⟨⟨⟨⟨⟨⟨⟨⟨⟨⟨⟨⟨⟨⟨⟨⟨⟨⟨⟨q0,q1⟩,q2⟩,q3⟩,q4⟩,q5⟩,q6⟩,q7⟩,q8⟩,q9⟩,q10⟩,q11⟩,q12⟩,q13⟩,q14⟩,q15⟩,q16⟩,q17⟩,q18⟩,q19⟩,q20⟩,q21⟩,q22⟩,q23⟩,q24⟩,q25⟩,q26⟩,q27⟩,q28⟩,q29⟩,q30⟩,q31⟩:=hg
  obtain rfl:=(nmEq_iff _ _).1 q0
  obtain rfl:=Nat.eq_of_beq_eq_true q1
  obtain rfl:=Nat.eq_of_beq_eq_true q2
  obtain rfl:=(nmEq_iff _ _).1 q3
  obtain rfl:=Nat.eq_of_beq_eq_true q4
  obtain rfl:=Nat.eq_of_beq_eq_true q5
  obtain rfl:=(nmEq_iff _ _).1 q6
  obtain rfl:=Nat.eq_of_beq_eq_true q7
  obtain rfl:=Nat.eq_of_beq_eq_true q8
  obtain rfl:=(nmEq_iff _ _).1 q9
  obtain rfl:=Nat.eq_of_beq_eq_true q10
  obtain rfl:=Nat.eq_of_beq_eq_true q11
  obtain rfl:=(nmEq_iff _ _).1 q12
  obtain rfl:=Nat.eq_of_beq_eq_true q13
  obtain rfl:=Nat.eq_of_beq_eq_true q14
  obtain rfl:=(nmEq_iff _ _).1 q15
  obtain rfl:=(nmEq_iff _ _).1 q16
  obtain rfl:=(nmEq_iff _ _).1 q17
  obtain rfl:=(nmEq_iff _ _).1 q18
  obtain rfl:=(nmEq_iff _ _).1 q19
  obtain rfl:=(nmEq_iff _ _).1 q20
  obtain rfl:=(nmEq_iff _ _).1 q21
  obtain rfl:=(nmEq_iff _ _).1 q22
  obtain rfl:=ctsEq_eq _ _ q23
  obtain rfl:=(nmEq_iff _ _).1 q24
  obtain rfl:=ctsEq_eq _ _ q25
  obtain rfl:=(nmEq_iff _ _).1 q26
  obtain rfl:=ctsEq_eq _ _ q27
  obtain rfl:=(nmEq_iff _ _).1 q28
  obtain rfl:=(nmEq_iff _ _).1 q29
  obtain rfl:=(nmEq_iff _ _).1 q30
  obtain rfl:=ctsEq_eq _ _ q31
  refine ⟨(2100),?_⟩
  rw [← h]
  exact loop_run (E72_0 t2 t3) (K72_0 t2 t3 k) (st72_0 t2 t3 ce k) _ (.inl (h0_0,h0_1,h0_2,h2_0,h2_1,h2_2,h4,h5,h6,h8))
 ·rename_i t2 t3 g0 g1 g2 g3 g4 g5 g6 g7 g8 g9 g10 g11 g12 g13 g14 g15 g16 h0 g17 g18 h1 g19 g20 h2 g21 g22 h3 g23 h4_0 h4_1 h4_2 g24 g25 h6_0 h6_1 h6_2 g26 g27 g28 g29 g30 g31 h8 g32 g33 h9 g34 g35 h10 g36 g37
  obtain ⟨hg,h⟩:=bif_some h
  simp only [Bool.and_eq_true] at hg
  obtain ⟨⟨⟨⟨⟨⟨⟨⟨⟨⟨⟨⟨⟨⟨⟨⟨⟨⟨⟨⟨⟨⟨⟨⟨⟨⟨⟨⟨⟨⟨⟨⟨⟨⟨⟨⟨⟨q0,q1⟩,q2⟩,q3⟩,q4⟩,q5⟩,q6⟩,q7⟩,q8⟩,q9⟩,q10⟩,q11⟩,q12⟩,q13⟩,q14⟩,q15⟩,q16⟩,q17⟩,q18⟩,q19⟩,q20⟩,q21⟩,q22⟩,q23⟩,q24⟩,q25⟩,q26⟩,q27⟩,q28⟩,q29⟩,q30⟩,q31⟩,q32⟩,q33⟩,q34⟩,q35⟩,q36⟩,q37⟩:=hg
  obtain rfl:=(nmEq_iff _ _).1 q0
  obtain rfl:=Nat.eq_of_beq_eq_true q1
  obtain rfl:=Nat.eq_of_beq_eq_true q2
  obtain rfl:=(nmEq_iff _ _).1 q3
  obtain rfl:=Nat.eq_of_beq_eq_true q4
  obtain rfl:=Nat.eq_of_beq_eq_true q5
  obtain rfl:=(nmEq_iff _ _).1 q6
  obtain rfl:=Nat.eq_of_beq_eq_true q7
  obtain rfl:=Nat.eq_of_beq_eq_true q8
  obtain rfl:=(nmEq_iff _ _).1 q9
  obtain rfl:=Nat.eq_of_beq_eq_true q10
  obtain rfl:=Nat.eq_of_beq_eq_true q11
  obtain rfl:=(nmEq_iff _ _).1 q12
  obtain rfl:=Nat.eq_of_beq_eq_true q13
  obtain rfl:=Nat.eq_of_beq_eq_true q14
  obtain rfl:=(nmEq_iff _ _).1 q15
  obtain rfl:=ctsEq_eq _ _ q16
  obtain rfl:=(nmEq_iff _ _).1 q17
  obtain rfl:=ctsEq_eq _ _ q18
  obtain rfl:=(nmEq_iff _ _).1 q19
  obtain rfl:=ctsEq_eq _ _ q20
  obtain rfl:=(nmEq_iff _ _).1 q21
  obtain rfl:=ctsEq_eq _ _ q22
  obtain rfl:=(nmEq_iff _ _).1 q23
  obtain rfl:=(nmEq_iff _ _).1 q24
  obtain rfl:=(nmEq_iff _ _).1 q25
  obtain rfl:=(nmEq_iff _ _).1 q26
  obtain rfl:=(nmEq_iff _ _).1 q27
  obtain rfl:=(nmEq_iff _ _).1 q28
  obtain rfl:=(nmEq_iff _ _).1 q29
  obtain rfl:=(nmEq_iff _ _).1 q30
  obtain rfl:=ctsEq_eq _ _ q31
  obtain rfl:=(nmEq_iff _ _).1 q32
  obtain rfl:=ctsEq_eq _ _ q33
  obtain rfl:=(nmEq_iff _ _).1 q34
  obtain rfl:=ctsEq_eq _ _ q35
  obtain rfl:=(nmEq_iff _ _).1 q36
  obtain rfl:=(nmEq_iff _ _).1 q37
  refine ⟨(2100),?_⟩
  rw [← h]
  exact loop_run (E72_0 t2 t3) (K72_0 t2 t3 k) (st72_0 t2 t3 ce k) _ (.inr (h0,h1,h2,h3,h4_0,h4_1,h4_2,h6_0,h6_1,h6_2,h8,h9,h10))
 ·cases h
def q72 (ya yb yc a2 a3:Int) (b0 b1 b2 b4:List AV):Bool:=(ro (runW (R72_0 a2 a3) (2100) (.inl (ya,yb,yc,0,0,0,b0,b1,b2,b4))) false (sumE (fun p30=>q85 a2 a3 p30.2.2.2.2.2.2.1 p30.2.2.2.2.2.2.2.1 p30.2.2.2.2.2.2.2.2.1 p30.2.2.2.2.2.2.2.2.2) (fun p31=>q85 a2 a3 p31.1 p31.2.1 p31.2.2.1 p31.2.2.2.1)))
def v72_0 (ya yb yc a2 a3:Int) (b0 b1 b2 b4:List AV):List AV:=(ro (runW (R72_0 a2 a3) (2100) (.inl (ya,yb,yc,0,0,0,b0,b1,b2,b4))) [] (sumE (fun p30=>(v85_0 a2 a3 p30.2.2.2.2.2.2.1 p30.2.2.2.2.2.2.2.1 p30.2.2.2.2.2.2.2.2.1 p30.2.2.2.2.2.2.2.2.2)) (fun p31=>(v85_0 a2 a3 p31.1 p31.2.1 p31.2.2.1 p31.2.2.2.1))))
def v72_1 (ya yb yc a2 a3:Int) (b0 b1 b2 b4:List AV):List AV:=(ro (runW (R72_0 a2 a3) (2100) (.inl (ya,yb,yc,0,0,0,b0,b1,b2,b4))) [] (sumE (fun p30=>(v85_1 a2 a3 p30.2.2.2.2.2.2.1 p30.2.2.2.2.2.2.2.1 p30.2.2.2.2.2.2.2.2.1 p30.2.2.2.2.2.2.2.2.2)) (fun p31=>(v85_1 a2 a3 p31.1 p31.2.1 p31.2.2.1 p31.2.2.2.1))))
def v72_2 (ya yb yc a2 a3:Int) (b0 b1 b2 b4:List AV):List AV:=(ro (runW (R72_0 a2 a3) (2100) (.inl (ya,yb,yc,0,0,0,b0,b1,b2,b4))) [] (sumE (fun p30=>(v85_2 a2 a3 p30.2.2.2.2.2.2.1 p30.2.2.2.2.2.2.2.1 p30.2.2.2.2.2.2.2.2.1 p30.2.2.2.2.2.2.2.2.2)) (fun p31=>(v85_2 a2 a3 p31.1 p31.2.1 p31.2.2.1 p31.2.2.2.1))))
def v72_3 (ya yb yc a2 a3:Int) (b0 b1 b2 b4:List AV):Int:=(ro (runW (R72_0 a2 a3) (2100) (.inl (ya,yb,yc,0,0,0,b0,b1,b2,b4))) 0 (sumE (fun p30=>p30.1) (fun p31=>p31.2.2.2.2.1)))
def v72_4 (ya yb yc a2 a3:Int) (b0 b1 b2 b4:List AV):Int:=(ro (runW (R72_0 a2 a3) (2100) (.inl (ya,yb,yc,0,0,0,b0,b1,b2,b4))) 0 (sumE (fun p30=>p30.2.1) (fun p31=>p31.2.2.2.2.2.1)))
def v72_5 (ya yb yc a2 a3:Int) (b0 b1 b2 b4:List AV):Int:=(ro (runW (R72_0 a2 a3) (2100) (.inl (ya,yb,yc,0,0,0,b0,b1,b2,b4))) 0 (sumE (fun p30=>p30.2.2.1) (fun p31=>p31.2.2.2.2.2.2.1)))
def v72_6 (ya yb yc a2 a3:Int) (b0 b1 b2 b4:List AV):List AV:=(ro (runW (R72_0 a2 a3) (2100) (.inl (ya,yb,yc,0,0,0,b0,b1,b2,b4))) [] (sumE (fun p30=>(v85_3 a2 a3 p30.2.2.2.2.2.2.1 p30.2.2.2.2.2.2.2.1 p30.2.2.2.2.2.2.2.2.1 p30.2.2.2.2.2.2.2.2.2)) (fun p31=>p31.2.2.2.2.2.2.2.2.2.2.1)))
def v72_7 (ya yb yc a2 a3:Int) (b0 b1 b2 b4:List AV):List AV:=(ro (runW (R72_0 a2 a3) (2100) (.inl (ya,yb,yc,0,0,0,b0,b1,b2,b4))) [] (sumE (fun p30=>(v85_4 a2 a3 p30.2.2.2.2.2.2.1 p30.2.2.2.2.2.2.2.1 p30.2.2.2.2.2.2.2.2.1 p30.2.2.2.2.2.2.2.2.2)) (fun p31=>p31.2.2.2.2.2.2.2.2.2.2.2.1)))
def v72_8 (ya yb yc a2 a3:Int) (b0 b1 b2 b4:List AV):List AV:=(ro (runW (R72_0 a2 a3) (2100) (.inl (ya,yb,yc,0,0,0,b0,b1,b2,b4))) [] (sumE (fun p30=>(v85_5 a2 a3 p30.2.2.2.2.2.2.1 p30.2.2.2.2.2.2.2.1 p30.2.2.2.2.2.2.2.2.1 p30.2.2.2.2.2.2.2.2.2)) (fun p31=>p31.2.2.2.2.2.2.2.2.2.2.2.2)))
def v72_9 (ya yb yc a2 a3:Int) (b0 b1 b2 b4:List AV):List AV:=(ro (runW (R72_0 a2 a3) (2100) (.inl (ya,yb,yc,0,0,0,b0,b1,b2,b4))) [] (sumE (fun p30=>(v85_6 a2 a3 p30.2.2.2.2.2.2.1 p30.2.2.2.2.2.2.2.1 p30.2.2.2.2.2.2.2.2.1 p30.2.2.2.2.2.2.2.2.2)) (fun p31=>(v85_6 a2 a3 p31.1 p31.2.1 p31.2.2.1 p31.2.2.2.1))))
theorem e72 (ya yb yc a2 a3:Int) (b0 b1 b2 b4:List AV) (K:List AV→List (Option Blk)→Option AV):inlA c72 1 72 [AV.agg [AV.own [1],AV.own [2],AV.own [3]],AV.agg [Ai ya,Ai yb,Ai yc],Ai a2,Ai a3,AV.ptr [4] 0 0] [0] (canH 1 [⟨false,[.int .i64],b0⟩,⟨false,[.int .i64],b1⟩,⟨false,[.int .i64,.int .i64],b2⟩,⟨true,[],[AV.own [5]]⟩,⟨false,[.int .i64,.int .i64,.int .i64,.int .i64,.int .i64],b4⟩]) (keepG Tryz.prog 5 [54,38] [4] K)=(ro (runW (R72_0 a2 a3) (2100) (.inl (ya,yb,yc,0,0,0,b0,b1,b2,b4))) none (sumE (fun p30=>(bif q85 a2 a3 p30.2.2.2.2.2.2.1 p30.2.2.2.2.2.2.2.1 p30.2.2.2.2.2.2.2.2.1 p30.2.2.2.2.2.2.2.2.2 then K [AV.agg [AV.fl [.int .i64] (v85_0 a2 a3 p30.2.2.2.2.2.2.1 p30.2.2.2.2.2.2.2.1 p30.2.2.2.2.2.2.2.2.1 p30.2.2.2.2.2.2.2.2.2),AV.fl [.int .i64] (v85_1 a2 a3 p30.2.2.2.2.2.2.1 p30.2.2.2.2.2.2.2.1 p30.2.2.2.2.2.2.2.2.1 p30.2.2.2.2.2.2.2.2.2),AV.fl [.int .i64,.int .i64] (v85_2 a2 a3 p30.2.2.2.2.2.2.1 p30.2.2.2.2.2.2.2.1 p30.2.2.2.2.2.2.2.2.1 p30.2.2.2.2.2.2.2.2.2)],AV.agg [Ai p30.1,Ai p30.2.1,Ai p30.2.2.1]] [some ⟨false,[.int .i64],(v85_3 a2 a3 p30.2.2.2.2.2.2.1 p30.2.2.2.2.2.2.2.1 p30.2.2.2.2.2.2.2.2.1 p30.2.2.2.2.2.2.2.2.2)⟩,some ⟨false,[.int .i64],(v85_4 a2 a3 p30.2.2.2.2.2.2.1 p30.2.2.2.2.2.2.2.1 p30.2.2.2.2.2.2.2.2.1 p30.2.2.2.2.2.2.2.2.2)⟩,some ⟨false,[.int .i64,.int .i64],(v85_5 a2 a3 p30.2.2.2.2.2.2.1 p30.2.2.2.2.2.2.2.1 p30.2.2.2.2.2.2.2.2.1 p30.2.2.2.2.2.2.2.2.2)⟩,some ⟨true,[],[AV.fl [.int .i64,.int .i64,.int .i64,.int .i64,.int .i64] (v85_6 a2 a3 p30.2.2.2.2.2.2.1 p30.2.2.2.2.2.2.2.1 p30.2.2.2.2.2.2.2.2.1 p30.2.2.2.2.2.2.2.2.2)]⟩,none]
 else none)) (fun p31=>(bif q85 a2 a3 p31.1 p31.2.1 p31.2.2.1 p31.2.2.2.1 then K [AV.agg [AV.fl [.int .i64] (v85_0 a2 a3 p31.1 p31.2.1 p31.2.2.1 p31.2.2.2.1),AV.fl [.int .i64] (v85_1 a2 a3 p31.1 p31.2.1 p31.2.2.1 p31.2.2.2.1),AV.fl [.int .i64,.int .i64] (v85_2 a2 a3 p31.1 p31.2.1 p31.2.2.1 p31.2.2.2.1)],AV.agg [Ai p31.2.2.2.2.1,Ai p31.2.2.2.2.2.1,Ai p31.2.2.2.2.2.2.1]] [some ⟨false,[.int .i64],p31.2.2.2.2.2.2.2.2.2.2.1⟩,some ⟨false,[.int .i64],p31.2.2.2.2.2.2.2.2.2.2.2.1⟩,some ⟨false,[.int .i64,.int .i64],p31.2.2.2.2.2.2.2.2.2.2.2.2⟩,some ⟨true,[],[AV.fl [.int .i64,.int .i64,.int .i64,.int .i64,.int .i64] (v85_6 a2 a3 p31.1 p31.2.1 p31.2.2.1 p31.2.2.2.1)]⟩,none]
 else none)))):=by kernel_rfl
theorem r72 (ya yb yc a2 a3:Int) (b0 b1 b2 b4:List AV) (K:List AV→List (Option Blk)→Option AV) (h:q72 ya yb yc a2 a3 b0 b1 b2 b4=true):inlA c72 1 72 [AV.agg [AV.own [1],AV.own [2],AV.own [3]],AV.agg [AV.int .i64 ya,AV.int .i64 yb,AV.int .i64 yc],AV.int .i64 a2,AV.int .i64 a3,AV.ptr [4] 0 0] [0] (canH 1 [⟨false,[.int .i64],b0⟩,⟨false,[.int .i64],b1⟩,⟨false,[.int .i64,.int .i64],b2⟩,⟨true,[],[AV.own [5]]⟩,⟨false,[.int .i64,.int .i64,.int .i64,.int .i64,.int .i64],b4⟩]) (keepG Tryz.prog 5 [54,38] [4] K)=K [AV.agg [AV.fl [.int .i64] (v72_0 ya yb yc a2 a3 b0 b1 b2 b4),AV.fl [.int .i64] (v72_1 ya yb yc a2 a3 b0 b1 b2 b4),AV.fl [.int .i64,.int .i64] (v72_2 ya yb yc a2 a3 b0 b1 b2 b4)],AV.agg [AV.int .i64 (v72_3 ya yb yc a2 a3 b0 b1 b2 b4),AV.int .i64 (v72_4 ya yb yc a2 a3 b0 b1 b2 b4),AV.int .i64 (v72_5 ya yb yc a2 a3 b0 b1 b2 b4)]] [some ⟨false,[.int .i64],(v72_6 ya yb yc a2 a3 b0 b1 b2 b4)⟩,some ⟨false,[.int .i64],(v72_7 ya yb yc a2 a3 b0 b1 b2 b4)⟩,some ⟨false,[.int .i64,.int .i64],(v72_8 ya yb yc a2 a3 b0 b1 b2 b4)⟩,some ⟨true,[],[AV.fl [.int .i64,.int .i64,.int .i64,.int .i64,.int .i64] (v72_9 ya yb yc a2 a3 b0 b1 b2 b4)]⟩,none]:=by
 refine (e72 ya yb yc a2 a3 b0 b1 b2 b4 K).trans ?_
 unfold q72 at h
 unfold v72_0 v72_1 v72_2 v72_3 v72_4 v72_5 v72_6 v72_7 v72_8 v72_9
 generalize runW (R72_0 a2 a3) (2100) (.inl (ya,yb,yc,0,0,0,b0,b1,b2,b4))=o at h ⊢
 cases o with
 | none=>cases h
 | some o =>
  cases o with
  | inl p30 =>
   simp only [ro,sumE] at h ⊢
   exact (brL1 (fun _=>rfl)) h
  | inr p31 =>
   simp only [ro,sumE] at h ⊢
   exact (brL1 (fun _=>rfl)) h
def m72:GModel
 | [.agg [.own g0,.own g1,.own g2],.agg [.int .i64 ya,.int .i64 yb,.int .i64 yc],.int .i64 a2,.int .i64 a3,.ptr g3 g4 g5],[⟨false,g6,b0⟩,⟨false,g7,b1⟩,⟨false,g8,b2⟩,⟨true,[],[.own g9]⟩,⟨false,g10,b4⟩]=>bif nmEq g0 ([1]) && nmEq g1 ([2]) && nmEq g2 ([3]) && nmEq g3 ([4]) && Nat.beq g4 0 && Nat.beq g5 0 && ctsEq g6 ([.int .i64]) && ctsEq g7 ([.int .i64]) && ctsEq g8 ([.int .i64,.int .i64]) && nmEq g9 ([5]) && ctsEq g10 ([.int .i64,.int .i64,.int .i64,.int .i64,.int .i64]) then some (q72 ya yb yc a2 a3 b0 b1 b2 b4,[AV.agg [AV.fl [.int .i64] (v72_0 ya yb yc a2 a3 b0 b1 b2 b4),AV.fl [.int .i64] (v72_1 ya yb yc a2 a3 b0 b1 b2 b4),AV.fl [.int .i64,.int .i64] (v72_2 ya yb yc a2 a3 b0 b1 b2 b4)],AV.agg [AV.int .i64 (v72_3 ya yb yc a2 a3 b0 b1 b2 b4),AV.int .i64 (v72_4 ya yb yc a2 a3 b0 b1 b2 b4),AV.int .i64 (v72_5 ya yb yc a2 a3 b0 b1 b2 b4)]],[some ⟨false,[.int .i64],(v72_6 ya yb yc a2 a3 b0 b1 b2 b4)⟩,some ⟨false,[.int .i64],(v72_7 ya yb yc a2 a3 b0 b1 b2 b4)⟩,some ⟨false,[.int .i64,.int .i64],(v72_8 ya yb yc a2 a3 b0 b1 b2 b4)⟩,some ⟨true,[],[AV.fl [.int .i64,.int .i64,.int .i64,.int .i64,.int .i64] (v72_9 ya yb yc a2 a3 b0 b1 b2 b4)]⟩,none]) else none
 | _,_=>none
theorem k72:Known Tryz.prog 72:=⟨Tryz.f72,Tryz.func72,by kernel_rfl,by kernel_rfl⟩
theorem meets72:MeetsG Tryz.prog 72 m72:=by
 refine meetG (rt:=[54,38]) (gs:=[4]) (f:=Tryz.f72) (l:=[(0,sub [1,1,0,0,0] (body Tryz.f72))]) (hs:=[(72,0,[2,3,4,6,10,11,12]),(72,999,[10,11]),(72,1000,[2,3,4,6,10,11,12]),(72,1001,[2,3,4,6,10,11,12])]) (ts:=[(58,m58),(83,m83),(84,m84)]) (ws:=[(85,.g m85)]) (is:=[]) (ls:=[(72,0,l72_0)]) (lvl:=0) mixed k72 Tryz.func72 (by kernel_rfl) (loops_cons ok72_0 noLoop) (allT_cons meets58 (allT_cons meets83 (allT_cons meets84 allT_nil))) (allG_cons meets85 allM_nil) noI fun C w xs us bs r bs' hl hv hh h K=>?_
 unfold m72 at h
 split at h
 ·rename_i g0 g1 g2 ya yb yc a2 a3 g3 g4 g5 g6 b0 g7 b1 g8 b2 g9 g10 b4
  obtain ⟨hg,h⟩:=bif_pair h
  simp only [Bool.and_eq_true] at hg
  obtain ⟨⟨⟨⟨⟨⟨⟨⟨⟨⟨q0,q1⟩,q2⟩,q3⟩,q4⟩,q5⟩,q6⟩,q7⟩,q8⟩,q9⟩,q10⟩:=hg
  obtain rfl:=(nmEq_iff _ _).1 q0
  obtain rfl:=(nmEq_iff _ _).1 q1
  obtain rfl:=(nmEq_iff _ _).1 q2
  obtain rfl:=(nmEq_iff _ _).1 q3
  obtain rfl:=Nat.eq_of_beq_eq_true q4
  obtain rfl:=Nat.eq_of_beq_eq_true q5
  obtain rfl:=ctsEq_eq _ _ q6
  obtain rfl:=ctsEq_eq _ _ q7
  obtain rfl:=ctsEq_eq _ _ q8
  obtain rfl:=(nmEq_iff _ _).1 q9
  obtain rfl:=ctsEq_eq _ _ q10
  obtain ⟨h1,rfl,rfl⟩:=trip_inj h
  exact r72 ya yb yc a2 a3 b0 b1 b2 b4 K h1
 ·cases h
def F73_0 (t0:List AV) (t3 t4:Int):Out ((Int × Int)) (Int):=(bif decide (t4<(t0.length:Int)) then (bif (decide (0≤t4) && decide (t4<(t0.length:Int))) then .next (IntKind.i64.wrap (t3+fI (t0.getD t4.toNat .undef) 4),IntKind.i64.wrap (t4+1))
 else .fail)
 else .stop t3)
def R73_0 (t0:List AV):((Int × Int))→Out ((Int × Int)) (Int):=fun s:Int × Int=>F73_0 t0 s.1 s.2
def E73_0 (t0:List AV):((Int × Int))→St:=fun s:Int × Int=>⟨[(0,AV.sl [.int .i64,.int .i64,.int .i64,.int .i64,.int .i64] t0),(3,Ai s.1),(4,Ai s.2)],[]⟩
def K73_0 (k:Kont):(Int)→Option AV:=fun p:Int=>k (.exit 0) ⟨[(3,Ai p)],[]⟩
def l73_0:LModel:=fun _ _ st k=>match st with
 | ⟨[(0,.sl g0 t0),(3,.int .i64 t3),(4,.int .i64 t4)],[]⟩=>bif ctsEq g0 ([.int .i64,.int .i64,.int .i64,.int .i64,.int .i64]) then ro (runW (R73_0 t0) (((t0.length:Int) - t4:Int).toNat+1) (t3,t4)) none (K73_0 k) else none
 | _=>none
noncomputable def c73:Cfg:=cfg Tryz.prog [(73,0,[0,3,4]),(73,999,[2]),(73,1000,[3]),(73,1001,[0,3,4])] [] [] [] [(73,0,l73_0)]
theorem s73_0 (ce:CallE) (t0:List AV) (t3 t4:Int) (next:St→Option AV) (k:Kont):stepA (codeA c73 ce [] 73 0 (sub [1,1,0,1,0,0] (body Tryz.f73))) (normA [] [0,3,4]) next ⟨[(0,AV.sl [.int .i64,.int .i64,.int .i64,.int .i64,.int .i64] t0),(3,Ai t3),(4,Ai t4)],[]⟩ k=(bif decide (t4<(t0.length:Int)) then (bif (decide (0≤t4) && decide (t4<(t0.length:Int))) then next ⟨[(0,AV.sl [.int .i64,.int .i64,.int .i64,.int .i64,.int .i64] t0),(3,Ai (IntKind.i64.wrap (t3+fI (t0.getD t4.toNat .undef) 4))),(4,Ai (IntKind.i64.wrap (t4+1)))],[]⟩
 else none)
 else k (.exit 0) ⟨[(3,Ai t3)],[]⟩):=by kernel_rfl
theorem st73_0 (t0:List AV) (ce:CallE) (k:Kont) (s:(Int × Int)) (next:St→Option AV):stepA (codeA c73 ce [] 73 0 (sub [1,1,0,1,0,0] (body Tryz.f73))) (normA [] [0,3,4]) next ((E73_0 t0) s) k=(R73_0 t0 s).el none (fun s=>next ((E73_0 t0) s)) (K73_0 k):=(s73_0 ce t0 s.1 s.2 next k).trans (by unfold R73_0;unfold F73_0;simp only [el_cond,el_ro,el_sum,el_fail,el_next,el_stop] <;> rfl)
theorem ok73_0 {ce:CallE}:LoopOK c73 ce [] 73 0 (sub [1,1,0,1,0,0] (body Tryz.f73)):=by
 intro m hm st k r h
 obtain rfl:l73_0=m:=Option.some.inj hm
 unfold l73_0 at h
 split at h
 ·rename_i g0 t0 t3 t4
  obtain ⟨hg,h⟩:=bif_some h
  have q0:=hg
  obtain rfl:=ctsEq_eq _ _ q0
  refine ⟨(((t0.length:Int) - t4:Int).toNat+1),?_⟩
  rw [← h]
  exact loop_run (E73_0 t0) (K73_0 k) (st73_0 t0 ce k) _ (t3,t4)
 ·cases h
def q73 (a0:List AV):Bool:=(ro (runW (R73_0 a0) (((a0.length:Int) - 0:Int).toNat+1) (0,0)) false (fun p32=>true))
def v73_0 (a0:List AV):Int:=(ro (runW (R73_0 a0) (((a0.length:Int) - 0:Int).toNat+1) (0,0)) 0 (fun p32=>p32))
theorem e73 (a0:List AV):funA c73 0 73 [AV.sl [.int .i64,.int .i64,.int .i64,.int .i64,.int .i64] a0]=(ro (runW (R73_0 a0) (((a0.length:Int) - 0:Int).toNat+1) (0,0)) none (fun p32=>some (Ai p32))):=by kernel_rfl
def m73:TModel
 | [.sl g0 a0]=>bif ctsEq g0 ([.int .i64,.int .i64,.int .i64,.int .i64,.int .i64]) then some (q73 a0,AV.int .i64 (v73_0 a0)) else none
 | _=>none
theorem k73:Known Tryz.prog 73:=⟨Tryz.f73,Tryz.func73,by kernel_rfl,by kernel_rfl⟩
theorem meets73:Meets Tryz.prog 73 m73:=by
 refine meet (f:=Tryz.f73) (l:=[(0,sub [1,1,0,1,0,0] (body Tryz.f73))]) (hs:=[(73,0,[0,3,4]),(73,999,[2]),(73,1000,[3]),(73,1001,[0,3,4])]) (ts:=[]) (ws:=[]) (is:=[]) (ls:=[(73,0,l73_0)]) (lvl:=0) mixed k73 Tryz.func73 (by kernel_rfl) (loops_cons ok73_0 noLoop) allT_nil allM_nil noI fun w xs us r hl hv h=>?_
 unfold m73 at h
 split at h
 ·rename_i g0 a0
  obtain ⟨hg,h⟩:=bif_pair h
  have q0:=hg
  obtain rfl:=ctsEq_eq _ _ q0
  obtain ⟨h1,rfl⟩:=pair_inj h
  exact (e73 a0).trans ((brO (fun o:Option (Int)=>some (Ai (ro o 0 (fun p32=>p32)))) (fun p32=>(fun _=>rfl))) h1)
 ·cases h
noncomputable def c57:Cfg:=cfg Tryz.prog [(57,999,[6,7,8])] [(28,m28),(37,m37),(53,m53),(56,m56),(73,m73)] [(72,.g m72)] [] []
def q57 (xa xb xc:List AV) (ya yb yc a2:Int):Bool:=(q53 xa xb xc && (bif !(v53_0 xa xb xc) then q56 xa xb xc else (bif !(v37_0 ya yb yc) then q56 xa xb xc else (bif !(v28_0 a2 (-1000) 1000) then q56 xa xb xc else (q56 xa xb xc && (q72 ya yb yc a2 0 (v56_0 xa xb xc) (v56_1 xa xb xc) (v56_2 xa xb xc) ([]:List AV) && q73 (v72_9 ya yb yc a2 0 (v56_0 xa xb xc) (v56_1 xa xb xc) (v56_2 xa xb xc) ([]:List AV))))))))
def v57_0 (xa xb xc:List AV) (ya yb yc a2:Int):List AV:=(bif !(v53_0 xa xb xc) then (v56_0 xa xb xc) else (bif !(v37_0 ya yb yc) then (v56_0 xa xb xc) else (bif !(v28_0 a2 (-1000) 1000) then (v56_0 xa xb xc) else (v72_0 ya yb yc a2 0 (v56_0 xa xb xc) (v56_1 xa xb xc) (v56_2 xa xb xc) ([]:List AV)))))
def v57_1 (xa xb xc:List AV) (ya yb yc a2:Int):List AV:=(bif !(v53_0 xa xb xc) then (v56_1 xa xb xc) else (bif !(v37_0 ya yb yc) then (v56_1 xa xb xc) else (bif !(v28_0 a2 (-1000) 1000) then (v56_1 xa xb xc) else (v72_1 ya yb yc a2 0 (v56_0 xa xb xc) (v56_1 xa xb xc) (v56_2 xa xb xc) ([]:List AV)))))
def v57_2 (xa xb xc:List AV) (ya yb yc a2:Int):List AV:=(bif !(v53_0 xa xb xc) then (v56_2 xa xb xc) else (bif !(v37_0 ya yb yc) then (v56_2 xa xb xc) else (bif !(v28_0 a2 (-1000) 1000) then (v56_2 xa xb xc) else (v72_2 ya yb yc a2 0 (v56_0 xa xb xc) (v56_1 xa xb xc) (v56_2 xa xb xc) ([]:List AV)))))
def v57_3 (xa xb xc:List AV) (ya yb yc a2:Int):Int:=(bif !(v53_0 xa xb xc) then ya else (bif !(v37_0 ya yb yc) then ya else (bif !(v28_0 a2 (-1000) 1000) then ya else (v72_3 ya yb yc a2 0 (v56_0 xa xb xc) (v56_1 xa xb xc) (v56_2 xa xb xc) ([]:List AV)))))
def v57_4 (xa xb xc:List AV) (ya yb yc a2:Int):Int:=(bif !(v53_0 xa xb xc) then yb else (bif !(v37_0 ya yb yc) then yb else (bif !(v28_0 a2 (-1000) 1000) then yb else (v72_4 ya yb yc a2 0 (v56_0 xa xb xc) (v56_1 xa xb xc) (v56_2 xa xb xc) ([]:List AV)))))
def v57_5 (xa xb xc:List AV) (ya yb yc a2:Int):Int:=(bif !(v53_0 xa xb xc) then yc else (bif !(v37_0 ya yb yc) then yc else (bif !(v28_0 a2 (-1000) 1000) then yc else (v72_5 ya yb yc a2 0 (v56_0 xa xb xc) (v56_1 xa xb xc) (v56_2 xa xb xc) ([]:List AV)))))
def v57_6 (xa xb xc:List AV) (ya yb yc a2:Int):Int:=(bif !(v53_0 xa xb xc) then 0 else (bif !(v37_0 ya yb yc) then 0 else (bif !(v28_0 a2 (-1000) 1000) then 0 else (v73_0 (v72_9 ya yb yc a2 0 (v56_0 xa xb xc) (v56_1 xa xb xc) (v56_2 xa xb xc) ([]:List AV))))))
theorem e57 (xa xb xc:List AV) (ya yb yc a2:Int):funA c57 0 57 [AV.agg [AV.sl [.int .i64] xa,AV.sl [.int .i64] xb,AV.sl [.int .i64,.int .i64] xc],AV.agg [Ai ya,Ai yb,Ai yc],Ai a2]=(bif q53 xa xb xc then (bif !(v53_0 xa xb xc) then (bif q56 xa xb xc then some (AV.tup [AV.agg [AV.fl [.int .i64] (v56_0 xa xb xc),AV.fl [.int .i64] (v56_1 xa xb xc),AV.fl [.int .i64,.int .i64] (v56_2 xa xb xc)],AV.agg [Ai ya,Ai yb,Ai yc],Ai 0])
 else none)
 else (bif !(v37_0 ya yb yc) then (bif q56 xa xb xc then some (AV.tup [AV.agg [AV.fl [.int .i64] (v56_0 xa xb xc),AV.fl [.int .i64] (v56_1 xa xb xc),AV.fl [.int .i64,.int .i64] (v56_2 xa xb xc)],AV.agg [Ai ya,Ai yb,Ai yc],Ai 0])
 else none)
 else (bif !(v28_0 a2 (-1000) 1000) then (bif q56 xa xb xc then some (AV.tup [AV.agg [AV.fl [.int .i64] (v56_0 xa xb xc),AV.fl [.int .i64] (v56_1 xa xb xc),AV.fl [.int .i64,.int .i64] (v56_2 xa xb xc)],AV.agg [Ai ya,Ai yb,Ai yc],Ai 0])
 else none)
 else (bif q56 xa xb xc then (bif q72 ya yb yc a2 0 (v56_0 xa xb xc) (v56_1 xa xb xc) (v56_2 xa xb xc) ([]:List AV) then (bif q73 (v72_9 ya yb yc a2 0 (v56_0 xa xb xc) (v56_1 xa xb xc) (v56_2 xa xb xc) ([]:List AV)) then some (AV.tup [AV.agg [AV.fl [.int .i64] (v72_0 ya yb yc a2 0 (v56_0 xa xb xc) (v56_1 xa xb xc) (v56_2 xa xb xc) ([]:List AV)),AV.fl [.int .i64] (v72_1 ya yb yc a2 0 (v56_0 xa xb xc) (v56_1 xa xb xc) (v56_2 xa xb xc) ([]:List AV)),AV.fl [.int .i64,.int .i64] (v72_2 ya yb yc a2 0 (v56_0 xa xb xc) (v56_1 xa xb xc) (v56_2 xa xb xc) ([]:List AV))],AV.agg [Ai (v72_3 ya yb yc a2 0 (v56_0 xa xb xc) (v56_1 xa xb xc) (v56_2 xa xb xc) ([]:List AV)),Ai (v72_4 ya yb yc a2 0 (v56_0 xa xb xc) (v56_1 xa xb xc) (v56_2 xa xb xc) ([]:List AV)),Ai (v72_5 ya yb yc a2 0 (v56_0 xa xb xc) (v56_1 xa xb xc) (v56_2 xa xb xc) ([]:List AV))],Ai (v73_0 (v72_9 ya yb yc a2 0 (v56_0 xa xb xc) (v56_1 xa xb xc) (v56_2 xa xb xc) ([]:List AV)))])
 else none)
 else none)
 else none))))
 else none):=by kernel_rfl
def m57:TModel
 | [.agg [.sl g0 xa,.sl g1 xb,.sl g2 xc],.agg [.int .i64 ya,.int .i64 yb,.int .i64 yc],.int .i64 a2]=>bif ctsEq g0 ([.int .i64]) && ctsEq g1 ([.int .i64]) && ctsEq g2 ([.int .i64,.int .i64]) then some (q57 xa xb xc ya yb yc a2,AV.tup [AV.agg [AV.fl [.int .i64] (v57_0 xa xb xc ya yb yc a2),AV.fl [.int .i64] (v57_1 xa xb xc ya yb yc a2),AV.fl [.int .i64,.int .i64] (v57_2 xa xb xc ya yb yc a2)],AV.agg [AV.int .i64 (v57_3 xa xb xc ya yb yc a2),AV.int .i64 (v57_4 xa xb xc ya yb yc a2),AV.int .i64 (v57_5 xa xb xc ya yb yc a2)],AV.int .i64 (v57_6 xa xb xc ya yb yc a2)]) else none
 | _=>none
theorem k57:Known Tryz.prog 57:=⟨Tryz.f57,Tryz.func57,by kernel_rfl,by kernel_rfl⟩
theorem meets57:Meets Tryz.prog 57 m57:=by
 refine meet (f:=Tryz.f57) (l:=[]) (hs:=[(57,999,[6,7,8])]) (ts:=[(28,m28),(37,m37),(53,m53),(56,m56),(73,m73)]) (ws:=[(72,.g m72)]) (is:=[]) (ls:=[]) (lvl:=0) mixed k57 Tryz.func57 (by kernel_rfl) noLoop (allT_cons meets28 (allT_cons meets37 (allT_cons meets53 (allT_cons meets56 (allT_cons meets73 allT_nil))))) (allG_cons meets72 allM_nil) noI fun w xs us r hl hv h=>?_
 unfold m57 at h
 split at h
 ·rename_i g0 xa g1 xb g2 xc ya yb yc a2
  obtain ⟨hg,h⟩:=bif_pair h
  simp only [Bool.and_eq_true] at hg
  obtain ⟨⟨q0,q1⟩,q2⟩:=hg
  obtain rfl:=ctsEq_eq _ _ q0
  obtain rfl:=ctsEq_eq _ _ q1
  obtain rfl:=ctsEq_eq _ _ q2
  obtain ⟨h1,rfl⟩:=pair_inj h
  exact (e57 xa xb xc ya yb yc a2).trans ((brL (br (fun b=>some (AV.tup [AV.agg [AV.fl [.int .i64] (bif b then (v56_0 xa xb xc) else (bif !(v37_0 ya yb yc) then (v56_0 xa xb xc) else (bif !(v28_0 a2 (-1000) 1000) then (v56_0 xa xb xc) else (v72_0 ya yb yc a2 0 (v56_0 xa xb xc) (v56_1 xa xb xc) (v56_2 xa xb xc) ([]:List AV))))),AV.fl [.int .i64] (bif b then (v56_1 xa xb xc) else (bif !(v37_0 ya yb yc) then (v56_1 xa xb xc) else (bif !(v28_0 a2 (-1000) 1000) then (v56_1 xa xb xc) else (v72_1 ya yb yc a2 0 (v56_0 xa xb xc) (v56_1 xa xb xc) (v56_2 xa xb xc) ([]:List AV))))),AV.fl [.int .i64,.int .i64] (bif b then (v56_2 xa xb xc) else (bif !(v37_0 ya yb yc) then (v56_2 xa xb xc) else (bif !(v28_0 a2 (-1000) 1000) then (v56_2 xa xb xc) else (v72_2 ya yb yc a2 0 (v56_0 xa xb xc) (v56_1 xa xb xc) (v56_2 xa xb xc) ([]:List AV)))))],AV.agg [Ai (bif b then ya else (bif !(v37_0 ya yb yc) then ya else (bif !(v28_0 a2 (-1000) 1000) then ya else (v72_3 ya yb yc a2 0 (v56_0 xa xb xc) (v56_1 xa xb xc) (v56_2 xa xb xc) ([]:List AV))))),Ai (bif b then yb else (bif !(v37_0 ya yb yc) then yb else (bif !(v28_0 a2 (-1000) 1000) then yb else (v72_4 ya yb yc a2 0 (v56_0 xa xb xc) (v56_1 xa xb xc) (v56_2 xa xb xc) ([]:List AV))))),Ai (bif b then yc else (bif !(v37_0 ya yb yc) then yc else (bif !(v28_0 a2 (-1000) 1000) then yc else (v72_5 ya yb yc a2 0 (v56_0 xa xb xc) (v56_1 xa xb xc) (v56_2 xa xb xc) ([]:List AV)))))],Ai (bif b then 0 else (bif !(v37_0 ya yb yc) then 0 else (bif !(v28_0 a2 (-1000) 1000) then 0 else (v73_0 (v72_9 ya yb yc a2 0 (v56_0 xa xb xc) (v56_1 xa xb xc) (v56_2 xa xb xc) ([]:List AV))))))])) (brL1 (fun _=>rfl)) (br (fun b=>some (AV.tup [AV.agg [AV.fl [.int .i64] (bif b then (v56_0 xa xb xc) else (bif !(v28_0 a2 (-1000) 1000) then (v56_0 xa xb xc) else (v72_0 ya yb yc a2 0 (v56_0 xa xb xc) (v56_1 xa xb xc) (v56_2 xa xb xc) ([]:List AV)))),AV.fl [.int .i64] (bif b then (v56_1 xa xb xc) else (bif !(v28_0 a2 (-1000) 1000) then (v56_1 xa xb xc) else (v72_1 ya yb yc a2 0 (v56_0 xa xb xc) (v56_1 xa xb xc) (v56_2 xa xb xc) ([]:List AV)))),AV.fl [.int .i64,.int .i64] (bif b then (v56_2 xa xb xc) else (bif !(v28_0 a2 (-1000) 1000) then (v56_2 xa xb xc) else (v72_2 ya yb yc a2 0 (v56_0 xa xb xc) (v56_1 xa xb xc) (v56_2 xa xb xc) ([]:List AV))))],AV.agg [Ai (bif b then ya else (bif !(v28_0 a2 (-1000) 1000) then ya else (v72_3 ya yb yc a2 0 (v56_0 xa xb xc) (v56_1 xa xb xc) (v56_2 xa xb xc) ([]:List AV)))),Ai (bif b then yb else (bif !(v28_0 a2 (-1000) 1000) then yb else (v72_4 ya yb yc a2 0 (v56_0 xa xb xc) (v56_1 xa xb xc) (v56_2 xa xb xc) ([]:List AV)))),Ai (bif b then yc else (bif !(v28_0 a2 (-1000) 1000) then yc else (v72_5 ya yb yc a2 0 (v56_0 xa xb xc) (v56_1 xa xb xc) (v56_2 xa xb xc) ([]:List AV))))],Ai (bif b then 0 else (bif !(v28_0 a2 (-1000) 1000) then 0 else (v73_0 (v72_9 ya yb yc a2 0 (v56_0 xa xb xc) (v56_1 xa xb xc) (v56_2 xa xb xc) ([]:List AV)))))])) (brL1 (fun _=>rfl)) (br (fun b=>some (AV.tup [AV.agg [AV.fl [.int .i64] (bif b then (v56_0 xa xb xc) else (v72_0 ya yb yc a2 0 (v56_0 xa xb xc) (v56_1 xa xb xc) (v56_2 xa xb xc) ([]:List AV))),AV.fl [.int .i64] (bif b then (v56_1 xa xb xc) else (v72_1 ya yb yc a2 0 (v56_0 xa xb xc) (v56_1 xa xb xc) (v56_2 xa xb xc) ([]:List AV))),AV.fl [.int .i64,.int .i64] (bif b then (v56_2 xa xb xc) else (v72_2 ya yb yc a2 0 (v56_0 xa xb xc) (v56_1 xa xb xc) (v56_2 xa xb xc) ([]:List AV)))],AV.agg [Ai (bif b then ya else (v72_3 ya yb yc a2 0 (v56_0 xa xb xc) (v56_1 xa xb xc) (v56_2 xa xb xc) ([]:List AV))),Ai (bif b then yb else (v72_4 ya yb yc a2 0 (v56_0 xa xb xc) (v56_1 xa xb xc) (v56_2 xa xb xc) ([]:List AV))),Ai (bif b then yc else (v72_5 ya yb yc a2 0 (v56_0 xa xb xc) (v56_1 xa xb xc) (v56_2 xa xb xc) ([]:List AV)))],Ai (bif b then 0 else (v73_0 (v72_9 ya yb yc a2 0 (v56_0 xa xb xc) (v56_1 xa xb xc) (v56_2 xa xb xc) ([]:List AV))))])) (brL1 (fun _=>rfl)) (brL (brL (brL1 (fun _=>rfl)))))))) h1)
 ·cases h
noncomputable def c59:Cfg:=cfg Tryz.prog [(59,999,[6])] [(28,m28),(53,m53),(74,m74)] [] [] []
def q59 (xa xb xc:List AV) (a1 a2:Int):Bool:=(q53 xa xb xc && (bif !(v53_0 xa xb xc) then true else (bif !(v28_0 a1 0 a2) then true else (bif decide (a2 > (xb.length:Int)) then true else ((decide (0≤a1) && decide (a1≤a2) && decide (a2≤(xb.length:Int))) && q74 ((xb.take (Int.toNat a2)).drop (Int.toNat a1)))))))
def v59_0 (xa xb xc:List AV) (a1 a2:Int):List AV:=(bif !(v53_0 xa xb xc) then ([]:List AV) else (bif !(v28_0 a1 0 a2) then ([]:List AV) else (bif decide (a2 > (xb.length:Int)) then ([]:List AV) else (v74_0 ((xb.take (Int.toNat a2)).drop (Int.toNat a1))))))
theorem e59 (xa xb xc:List AV) (a1 a2:Int):funA c59 0 59 [AV.agg [AV.sl [.int .i64] xa,AV.sl [.int .i64] xb,AV.sl [.int .i64,.int .i64] xc],Ai a1,Ai a2]=(bif q53 xa xb xc then (bif !(v53_0 xa xb xc) then some (AV.fl [.int .i64] ([]:List AV))
 else (bif !(v28_0 a1 0 a2) then some (AV.fl [.int .i64] ([]:List AV))
 else (bif decide (a2 > (xb.length:Int)) then some (AV.fl [.int .i64] ([]:List AV))
 else (bif (decide (0≤a1) && decide (a1≤a2) && decide (a2≤(xb.length:Int))) then (bif q74 ((xb.take (Int.toNat a2)).drop (Int.toNat a1)) then some (AV.fl [.int .i64] (v74_0 ((xb.take (Int.toNat a2)).drop (Int.toNat a1))))
 else none)
 else none))))
 else none):=by kernel_rfl
def m59:TModel
 | [.agg [.sl g0 xa,.sl g1 xb,.sl g2 xc],.int .i64 a1,.int .i64 a2]=>bif ctsEq g0 ([.int .i64]) && ctsEq g1 ([.int .i64]) && ctsEq g2 ([.int .i64,.int .i64]) then some (q59 xa xb xc a1 a2,AV.fl [.int .i64] (v59_0 xa xb xc a1 a2)) else none
 | _=>none
theorem k59:Known Tryz.prog 59:=⟨Tryz.f59,Tryz.func59,by kernel_rfl,by kernel_rfl⟩
theorem meets59:Meets Tryz.prog 59 m59:=by
 refine meet (f:=Tryz.f59) (l:=[]) (hs:=[(59,999,[6])]) (ts:=[(28,m28),(53,m53),(74,m74)]) (ws:=[]) (is:=[]) (ls:=[]) (lvl:=0) mixed k59 Tryz.func59 (by kernel_rfl) noLoop (allT_cons meets28 (allT_cons meets53 (allT_cons meets74 allT_nil))) allM_nil noI fun w xs us r hl hv h=>?_
 unfold m59 at h
 split at h
 ·rename_i g0 xa g1 xb g2 xc a1 a2
  obtain ⟨hg,h⟩:=bif_pair h
  simp only [Bool.and_eq_true] at hg
  obtain ⟨⟨q0,q1⟩,q2⟩:=hg
  obtain rfl:=ctsEq_eq _ _ q0
  obtain rfl:=ctsEq_eq _ _ q1
  obtain rfl:=ctsEq_eq _ _ q2
  obtain ⟨h1,rfl⟩:=pair_inj h
  exact (e59 xa xb xc a1 a2).trans ((brL (br (fun b=>some (AV.fl [.int .i64] (bif b then ([]:List AV) else (bif !(v28_0 a1 0 a2) then ([]:List AV) else (bif decide (a2 > (xb.length:Int)) then ([]:List AV) else (v74_0 ((xb.take (Int.toNat a2)).drop (Int.toNat a1)))))))) (fun _=>rfl) (br (fun b=>some (AV.fl [.int .i64] (bif b then ([]:List AV) else (bif decide (a2 > (xb.length:Int)) then ([]:List AV) else (v74_0 ((xb.take (Int.toNat a2)).drop (Int.toNat a1))))))) (fun _=>rfl) (br (fun b=>some (AV.fl [.int .i64] (bif b then ([]:List AV) else (v74_0 ((xb.take (Int.toNat a2)).drop (Int.toNat a1)))))) (fun _=>rfl) (brL (brL1 (fun _=>rfl))))))) h1)
 ·cases h
noncomputable def c45:Cfg:=cfg Tryz.prog [(45,999,[6,7,8,9])] [(37,m37),(51,m51),(53,m53),(56,m56),(57,m57),(58,m58),(59,m59)] [] [] []
def q45 (xa xb xc:List AV) (ya yb yc za zb:Int):Bool:=(q53 xa xb xc && (bif !(v53_0 xa xb xc) then q56 xa xb xc else (bif !(v37_0 ya yb yc) then q56 xa xb xc else (bif !(v51_0 za zb) then q56 xa xb xc else (q57 xa xb xc ya yb yc za && (q57 (v57_0 xa xb xc ya yb yc za) (v57_1 xa xb xc ya yb yc za) (v57_2 xa xb xc ya yb yc za) (v57_3 xa xb xc ya yb yc za) (v57_4 xa xb xc ya yb yc za) (v57_5 xa xb xc ya yb yc za) zb && (q58 (v57_0 (v57_0 xa xb xc ya yb yc za) (v57_1 xa xb xc ya yb yc za) (v57_2 xa xb xc ya yb yc za) (v57_3 xa xb xc ya yb yc za) (v57_4 xa xb xc ya yb yc za) (v57_5 xa xb xc ya yb yc za) zb) (v57_1 (v57_0 xa xb xc ya yb yc za) (v57_1 xa xb xc ya yb yc za) (v57_2 xa xb xc ya yb yc za) (v57_3 xa xb xc ya yb yc za) (v57_4 xa xb xc ya yb yc za) (v57_5 xa xb xc ya yb yc za) zb) (v57_2 (v57_0 xa xb xc ya yb yc za) (v57_1 xa xb xc ya yb yc za) (v57_2 xa xb xc ya yb yc za) (v57_3 xa xb xc ya yb yc za) (v57_4 xa xb xc ya yb yc za) (v57_5 xa xb xc ya yb yc za) zb) za && (q58 (v57_0 (v57_0 xa xb xc ya yb yc za) (v57_1 xa xb xc ya yb yc za) (v57_2 xa xb xc ya yb yc za) (v57_3 xa xb xc ya yb yc za) (v57_4 xa xb xc ya yb yc za) (v57_5 xa xb xc ya yb yc za) zb) (v57_1 (v57_0 xa xb xc ya yb yc za) (v57_1 xa xb xc ya yb yc za) (v57_2 xa xb xc ya yb yc za) (v57_3 xa xb xc ya yb yc za) (v57_4 xa xb xc ya yb yc za) (v57_5 xa xb xc ya yb yc za) zb) (v57_2 (v57_0 xa xb xc ya yb yc za) (v57_1 xa xb xc ya yb yc za) (v57_2 xa xb xc ya yb yc za) (v57_3 xa xb xc ya yb yc za) (v57_4 xa xb xc ya yb yc za) (v57_5 xa xb xc ya yb yc za) zb) zb && q59 (v57_0 (v57_0 xa xb xc ya yb yc za) (v57_1 xa xb xc ya yb yc za) (v57_2 xa xb xc ya yb yc za) (v57_3 xa xb xc ya yb yc za) (v57_4 xa xb xc ya yb yc za) (v57_5 xa xb xc ya yb yc za) zb) (v57_1 (v57_0 xa xb xc ya yb yc za) (v57_1 xa xb xc ya yb yc za) (v57_2 xa xb xc ya yb yc za) (v57_3 xa xb xc ya yb yc za) (v57_4 xa xb xc ya yb yc za) (v57_5 xa xb xc ya yb yc za) zb) (v57_2 (v57_0 xa xb xc ya yb yc za) (v57_1 xa xb xc ya yb yc za) (v57_2 xa xb xc ya yb yc za) (v57_3 xa xb xc ya yb yc za) (v57_4 xa xb xc ya yb yc za) (v57_5 xa xb xc ya yb yc za) zb) (v58_0 (v57_0 (v57_0 xa xb xc ya yb yc za) (v57_1 xa xb xc ya yb yc za) (v57_2 xa xb xc ya yb yc za) (v57_3 xa xb xc ya yb yc za) (v57_4 xa xb xc ya yb yc za) (v57_5 xa xb xc ya yb yc za) zb) (v57_1 (v57_0 xa xb xc ya yb yc za) (v57_1 xa xb xc ya yb yc za) (v57_2 xa xb xc ya yb yc za) (v57_3 xa xb xc ya yb yc za) (v57_4 xa xb xc ya yb yc za) (v57_5 xa xb xc ya yb yc za) zb) (v57_2 (v57_0 xa xb xc ya yb yc za) (v57_1 xa xb xc ya yb yc za) (v57_2 xa xb xc ya yb yc za) (v57_3 xa xb xc ya yb yc za) (v57_4 xa xb xc ya yb yc za) (v57_5 xa xb xc ya yb yc za) zb) za) (v58_0 (v57_0 (v57_0 xa xb xc ya yb yc za) (v57_1 xa xb xc ya yb yc za) (v57_2 xa xb xc ya yb yc za) (v57_3 xa xb xc ya yb yc za) (v57_4 xa xb xc ya yb yc za) (v57_5 xa xb xc ya yb yc za) zb) (v57_1 (v57_0 xa xb xc ya yb yc za) (v57_1 xa xb xc ya yb yc za) (v57_2 xa xb xc ya yb yc za) (v57_3 xa xb xc ya yb yc za) (v57_4 xa xb xc ya yb yc za) (v57_5 xa xb xc ya yb yc za) zb) (v57_2 (v57_0 xa xb xc ya yb yc za) (v57_1 xa xb xc ya yb yc za) (v57_2 xa xb xc ya yb yc za) (v57_3 xa xb xc ya yb yc za) (v57_4 xa xb xc ya yb yc za) (v57_5 xa xb xc ya yb yc za) zb) zb)))))))))
def v45_0 (xa xb xc:List AV) (ya yb yc za zb:Int):List AV:=(bif !(v53_0 xa xb xc) then (v56_0 xa xb xc) else (bif !(v37_0 ya yb yc) then (v56_0 xa xb xc) else (bif !(v51_0 za zb) then (v56_0 xa xb xc) else (v57_0 (v57_0 xa xb xc ya yb yc za) (v57_1 xa xb xc ya yb yc za) (v57_2 xa xb xc ya yb yc za) (v57_3 xa xb xc ya yb yc za) (v57_4 xa xb xc ya yb yc za) (v57_5 xa xb xc ya yb yc za) zb))))
def v45_1 (xa xb xc:List AV) (ya yb yc za zb:Int):List AV:=(bif !(v53_0 xa xb xc) then (v56_1 xa xb xc) else (bif !(v37_0 ya yb yc) then (v56_1 xa xb xc) else (bif !(v51_0 za zb) then (v56_1 xa xb xc) else (v57_1 (v57_0 xa xb xc ya yb yc za) (v57_1 xa xb xc ya yb yc za) (v57_2 xa xb xc ya yb yc za) (v57_3 xa xb xc ya yb yc za) (v57_4 xa xb xc ya yb yc za) (v57_5 xa xb xc ya yb yc za) zb))))
def v45_2 (xa xb xc:List AV) (ya yb yc za zb:Int):List AV:=(bif !(v53_0 xa xb xc) then (v56_2 xa xb xc) else (bif !(v37_0 ya yb yc) then (v56_2 xa xb xc) else (bif !(v51_0 za zb) then (v56_2 xa xb xc) else (v57_2 (v57_0 xa xb xc ya yb yc za) (v57_1 xa xb xc ya yb yc za) (v57_2 xa xb xc ya yb yc za) (v57_3 xa xb xc ya yb yc za) (v57_4 xa xb xc ya yb yc za) (v57_5 xa xb xc ya yb yc za) zb))))
def v45_3 (xa xb xc:List AV) (ya yb yc za zb:Int):Int:=(bif !(v53_0 xa xb xc) then ya else (bif !(v37_0 ya yb yc) then ya else (bif !(v51_0 za zb) then ya else (v57_3 (v57_0 xa xb xc ya yb yc za) (v57_1 xa xb xc ya yb yc za) (v57_2 xa xb xc ya yb yc za) (v57_3 xa xb xc ya yb yc za) (v57_4 xa xb xc ya yb yc za) (v57_5 xa xb xc ya yb yc za) zb))))
def v45_4 (xa xb xc:List AV) (ya yb yc za zb:Int):Int:=(bif !(v53_0 xa xb xc) then yb else (bif !(v37_0 ya yb yc) then yb else (bif !(v51_0 za zb) then yb else (v57_4 (v57_0 xa xb xc ya yb yc za) (v57_1 xa xb xc ya yb yc za) (v57_2 xa xb xc ya yb yc za) (v57_3 xa xb xc ya yb yc za) (v57_4 xa xb xc ya yb yc za) (v57_5 xa xb xc ya yb yc za) zb))))
def v45_5 (xa xb xc:List AV) (ya yb yc za zb:Int):Int:=(bif !(v53_0 xa xb xc) then yc else (bif !(v37_0 ya yb yc) then yc else (bif !(v51_0 za zb) then yc else (v57_5 (v57_0 xa xb xc ya yb yc za) (v57_1 xa xb xc ya yb yc za) (v57_2 xa xb xc ya yb yc za) (v57_3 xa xb xc ya yb yc za) (v57_4 xa xb xc ya yb yc za) (v57_5 xa xb xc ya yb yc za) zb))))
def v45_6 (xa xb xc:List AV) (ya yb yc za zb:Int):List AV:=(bif !(v53_0 xa xb xc) then ([]:List AV) else (bif !(v37_0 ya yb yc) then ([]:List AV) else (bif !(v51_0 za zb) then ([]:List AV) else (v59_0 (v57_0 (v57_0 xa xb xc ya yb yc za) (v57_1 xa xb xc ya yb yc za) (v57_2 xa xb xc ya yb yc za) (v57_3 xa xb xc ya yb yc za) (v57_4 xa xb xc ya yb yc za) (v57_5 xa xb xc ya yb yc za) zb) (v57_1 (v57_0 xa xb xc ya yb yc za) (v57_1 xa xb xc ya yb yc za) (v57_2 xa xb xc ya yb yc za) (v57_3 xa xb xc ya yb yc za) (v57_4 xa xb xc ya yb yc za) (v57_5 xa xb xc ya yb yc za) zb) (v57_2 (v57_0 xa xb xc ya yb yc za) (v57_1 xa xb xc ya yb yc za) (v57_2 xa xb xc ya yb yc za) (v57_3 xa xb xc ya yb yc za) (v57_4 xa xb xc ya yb yc za) (v57_5 xa xb xc ya yb yc za) zb) (v58_0 (v57_0 (v57_0 xa xb xc ya yb yc za) (v57_1 xa xb xc ya yb yc za) (v57_2 xa xb xc ya yb yc za) (v57_3 xa xb xc ya yb yc za) (v57_4 xa xb xc ya yb yc za) (v57_5 xa xb xc ya yb yc za) zb) (v57_1 (v57_0 xa xb xc ya yb yc za) (v57_1 xa xb xc ya yb yc za) (v57_2 xa xb xc ya yb yc za) (v57_3 xa xb xc ya yb yc za) (v57_4 xa xb xc ya yb yc za) (v57_5 xa xb xc ya yb yc za) zb) (v57_2 (v57_0 xa xb xc ya yb yc za) (v57_1 xa xb xc ya yb yc za) (v57_2 xa xb xc ya yb yc za) (v57_3 xa xb xc ya yb yc za) (v57_4 xa xb xc ya yb yc za) (v57_5 xa xb xc ya yb yc za) zb) za) (v58_0 (v57_0 (v57_0 xa xb xc ya yb yc za) (v57_1 xa xb xc ya yb yc za) (v57_2 xa xb xc ya yb yc za) (v57_3 xa xb xc ya yb yc za) (v57_4 xa xb xc ya yb yc za) (v57_5 xa xb xc ya yb yc za) zb) (v57_1 (v57_0 xa xb xc ya yb yc za) (v57_1 xa xb xc ya yb yc za) (v57_2 xa xb xc ya yb yc za) (v57_3 xa xb xc ya yb yc za) (v57_4 xa xb xc ya yb yc za) (v57_5 xa xb xc ya yb yc za) zb) (v57_2 (v57_0 xa xb xc ya yb yc za) (v57_1 xa xb xc ya yb yc za) (v57_2 xa xb xc ya yb yc za) (v57_3 xa xb xc ya yb yc za) (v57_4 xa xb xc ya yb yc za) (v57_5 xa xb xc ya yb yc za) zb) zb)))))
def v45_7 (xa xb xc:List AV) (ya yb yc za zb:Int):Int:=(bif !(v53_0 xa xb xc) then 0 else (bif !(v37_0 ya yb yc) then 0 else (bif !(v51_0 za zb) then 0 else IntKind.i64.wrap ((v57_6 xa xb xc ya yb yc za)+(v57_6 (v57_0 xa xb xc ya yb yc za) (v57_1 xa xb xc ya yb yc za) (v57_2 xa xb xc ya yb yc za) (v57_3 xa xb xc ya yb yc za) (v57_4 xa xb xc ya yb yc za) (v57_5 xa xb xc ya yb yc za) zb)))))
theorem e45 (xa xb xc:List AV) (ya yb yc za zb:Int):funA c45 0 45 [AV.agg [AV.sl [.int .i64] xa,AV.sl [.int .i64] xb,AV.sl [.int .i64,.int .i64] xc],AV.agg [Ai ya,Ai yb,Ai yc],AV.agg [Ai za,Ai zb]]=(bif q53 xa xb xc then (bif !(v53_0 xa xb xc) then (bif q56 xa xb xc then some (AV.tup [AV.agg [AV.fl [.int .i64] (v56_0 xa xb xc),AV.fl [.int .i64] (v56_1 xa xb xc),AV.fl [.int .i64,.int .i64] (v56_2 xa xb xc)],AV.agg [Ai ya,Ai yb,Ai yc],AV.fl [.int .i64] ([]:List AV),Ai 0])
 else none)
 else (bif !(v37_0 ya yb yc) then (bif q56 xa xb xc then some (AV.tup [AV.agg [AV.fl [.int .i64] (v56_0 xa xb xc),AV.fl [.int .i64] (v56_1 xa xb xc),AV.fl [.int .i64,.int .i64] (v56_2 xa xb xc)],AV.agg [Ai ya,Ai yb,Ai yc],AV.fl [.int .i64] ([]:List AV),Ai 0])
 else none)
 else (bif !(v51_0 za zb) then (bif q56 xa xb xc then some (AV.tup [AV.agg [AV.fl [.int .i64] (v56_0 xa xb xc),AV.fl [.int .i64] (v56_1 xa xb xc),AV.fl [.int .i64,.int .i64] (v56_2 xa xb xc)],AV.agg [Ai ya,Ai yb,Ai yc],AV.fl [.int .i64] ([]:List AV),Ai 0])
 else none)
 else (bif q57 xa xb xc ya yb yc za then (bif q57 (v57_0 xa xb xc ya yb yc za) (v57_1 xa xb xc ya yb yc za) (v57_2 xa xb xc ya yb yc za) (v57_3 xa xb xc ya yb yc za) (v57_4 xa xb xc ya yb yc za) (v57_5 xa xb xc ya yb yc za) zb then (bif q58 (v57_0 (v57_0 xa xb xc ya yb yc za) (v57_1 xa xb xc ya yb yc za) (v57_2 xa xb xc ya yb yc za) (v57_3 xa xb xc ya yb yc za) (v57_4 xa xb xc ya yb yc za) (v57_5 xa xb xc ya yb yc za) zb) (v57_1 (v57_0 xa xb xc ya yb yc za) (v57_1 xa xb xc ya yb yc za) (v57_2 xa xb xc ya yb yc za) (v57_3 xa xb xc ya yb yc za) (v57_4 xa xb xc ya yb yc za) (v57_5 xa xb xc ya yb yc za) zb) (v57_2 (v57_0 xa xb xc ya yb yc za) (v57_1 xa xb xc ya yb yc za) (v57_2 xa xb xc ya yb yc za) (v57_3 xa xb xc ya yb yc za) (v57_4 xa xb xc ya yb yc za) (v57_5 xa xb xc ya yb yc za) zb) za then (bif q58 (v57_0 (v57_0 xa xb xc ya yb yc za) (v57_1 xa xb xc ya yb yc za) (v57_2 xa xb xc ya yb yc za) (v57_3 xa xb xc ya yb yc za) (v57_4 xa xb xc ya yb yc za) (v57_5 xa xb xc ya yb yc za) zb) (v57_1 (v57_0 xa xb xc ya yb yc za) (v57_1 xa xb xc ya yb yc za) (v57_2 xa xb xc ya yb yc za) (v57_3 xa xb xc ya yb yc za) (v57_4 xa xb xc ya yb yc za) (v57_5 xa xb xc ya yb yc za) zb) (v57_2 (v57_0 xa xb xc ya yb yc za) (v57_1 xa xb xc ya yb yc za) (v57_2 xa xb xc ya yb yc za) (v57_3 xa xb xc ya yb yc za) (v57_4 xa xb xc ya yb yc za) (v57_5 xa xb xc ya yb yc za) zb) zb then (bif q59 (v57_0 (v57_0 xa xb xc ya yb yc za) (v57_1 xa xb xc ya yb yc za) (v57_2 xa xb xc ya yb yc za) (v57_3 xa xb xc ya yb yc za) (v57_4 xa xb xc ya yb yc za) (v57_5 xa xb xc ya yb yc za) zb) (v57_1 (v57_0 xa xb xc ya yb yc za) (v57_1 xa xb xc ya yb yc za) (v57_2 xa xb xc ya yb yc za) (v57_3 xa xb xc ya yb yc za) (v57_4 xa xb xc ya yb yc za) (v57_5 xa xb xc ya yb yc za) zb) (v57_2 (v57_0 xa xb xc ya yb yc za) (v57_1 xa xb xc ya yb yc za) (v57_2 xa xb xc ya yb yc za) (v57_3 xa xb xc ya yb yc za) (v57_4 xa xb xc ya yb yc za) (v57_5 xa xb xc ya yb yc za) zb) (v58_0 (v57_0 (v57_0 xa xb xc ya yb yc za) (v57_1 xa xb xc ya yb yc za) (v57_2 xa xb xc ya yb yc za) (v57_3 xa xb xc ya yb yc za) (v57_4 xa xb xc ya yb yc za) (v57_5 xa xb xc ya yb yc za) zb) (v57_1 (v57_0 xa xb xc ya yb yc za) (v57_1 xa xb xc ya yb yc za) (v57_2 xa xb xc ya yb yc za) (v57_3 xa xb xc ya yb yc za) (v57_4 xa xb xc ya yb yc za) (v57_5 xa xb xc ya yb yc za) zb) (v57_2 (v57_0 xa xb xc ya yb yc za) (v57_1 xa xb xc ya yb yc za) (v57_2 xa xb xc ya yb yc za) (v57_3 xa xb xc ya yb yc za) (v57_4 xa xb xc ya yb yc za) (v57_5 xa xb xc ya yb yc za) zb) za) (v58_0 (v57_0 (v57_0 xa xb xc ya yb yc za) (v57_1 xa xb xc ya yb yc za) (v57_2 xa xb xc ya yb yc za) (v57_3 xa xb xc ya yb yc za) (v57_4 xa xb xc ya yb yc za) (v57_5 xa xb xc ya yb yc za) zb) (v57_1 (v57_0 xa xb xc ya yb yc za) (v57_1 xa xb xc ya yb yc za) (v57_2 xa xb xc ya yb yc za) (v57_3 xa xb xc ya yb yc za) (v57_4 xa xb xc ya yb yc za) (v57_5 xa xb xc ya yb yc za) zb) (v57_2 (v57_0 xa xb xc ya yb yc za) (v57_1 xa xb xc ya yb yc za) (v57_2 xa xb xc ya yb yc za) (v57_3 xa xb xc ya yb yc za) (v57_4 xa xb xc ya yb yc za) (v57_5 xa xb xc ya yb yc za) zb) zb) then some (AV.tup [AV.agg [AV.fl [.int .i64] (v57_0 (v57_0 xa xb xc ya yb yc za) (v57_1 xa xb xc ya yb yc za) (v57_2 xa xb xc ya yb yc za) (v57_3 xa xb xc ya yb yc za) (v57_4 xa xb xc ya yb yc za) (v57_5 xa xb xc ya yb yc za) zb),AV.fl [.int .i64] (v57_1 (v57_0 xa xb xc ya yb yc za) (v57_1 xa xb xc ya yb yc za) (v57_2 xa xb xc ya yb yc za) (v57_3 xa xb xc ya yb yc za) (v57_4 xa xb xc ya yb yc za) (v57_5 xa xb xc ya yb yc za) zb),AV.fl [.int .i64,.int .i64] (v57_2 (v57_0 xa xb xc ya yb yc za) (v57_1 xa xb xc ya yb yc za) (v57_2 xa xb xc ya yb yc za) (v57_3 xa xb xc ya yb yc za) (v57_4 xa xb xc ya yb yc za) (v57_5 xa xb xc ya yb yc za) zb)],AV.agg [Ai (v57_3 (v57_0 xa xb xc ya yb yc za) (v57_1 xa xb xc ya yb yc za) (v57_2 xa xb xc ya yb yc za) (v57_3 xa xb xc ya yb yc za) (v57_4 xa xb xc ya yb yc za) (v57_5 xa xb xc ya yb yc za) zb),Ai (v57_4 (v57_0 xa xb xc ya yb yc za) (v57_1 xa xb xc ya yb yc za) (v57_2 xa xb xc ya yb yc za) (v57_3 xa xb xc ya yb yc za) (v57_4 xa xb xc ya yb yc za) (v57_5 xa xb xc ya yb yc za) zb),Ai (v57_5 (v57_0 xa xb xc ya yb yc za) (v57_1 xa xb xc ya yb yc za) (v57_2 xa xb xc ya yb yc za) (v57_3 xa xb xc ya yb yc za) (v57_4 xa xb xc ya yb yc za) (v57_5 xa xb xc ya yb yc za) zb)],AV.fl [.int .i64] (v59_0 (v57_0 (v57_0 xa xb xc ya yb yc za) (v57_1 xa xb xc ya yb yc za) (v57_2 xa xb xc ya yb yc za) (v57_3 xa xb xc ya yb yc za) (v57_4 xa xb xc ya yb yc za) (v57_5 xa xb xc ya yb yc za) zb) (v57_1 (v57_0 xa xb xc ya yb yc za) (v57_1 xa xb xc ya yb yc za) (v57_2 xa xb xc ya yb yc za) (v57_3 xa xb xc ya yb yc za) (v57_4 xa xb xc ya yb yc za) (v57_5 xa xb xc ya yb yc za) zb) (v57_2 (v57_0 xa xb xc ya yb yc za) (v57_1 xa xb xc ya yb yc za) (v57_2 xa xb xc ya yb yc za) (v57_3 xa xb xc ya yb yc za) (v57_4 xa xb xc ya yb yc za) (v57_5 xa xb xc ya yb yc za) zb) (v58_0 (v57_0 (v57_0 xa xb xc ya yb yc za) (v57_1 xa xb xc ya yb yc za) (v57_2 xa xb xc ya yb yc za) (v57_3 xa xb xc ya yb yc za) (v57_4 xa xb xc ya yb yc za) (v57_5 xa xb xc ya yb yc za) zb) (v57_1 (v57_0 xa xb xc ya yb yc za) (v57_1 xa xb xc ya yb yc za) (v57_2 xa xb xc ya yb yc za) (v57_3 xa xb xc ya yb yc za) (v57_4 xa xb xc ya yb yc za) (v57_5 xa xb xc ya yb yc za) zb) (v57_2 (v57_0 xa xb xc ya yb yc za) (v57_1 xa xb xc ya yb yc za) (v57_2 xa xb xc ya yb yc za) (v57_3 xa xb xc ya yb yc za) (v57_4 xa xb xc ya yb yc za) (v57_5 xa xb xc ya yb yc za) zb) za) (v58_0 (v57_0 (v57_0 xa xb xc ya yb yc za) (v57_1 xa xb xc ya yb yc za) (v57_2 xa xb xc ya yb yc za) (v57_3 xa xb xc ya yb yc za) (v57_4 xa xb xc ya yb yc za) (v57_5 xa xb xc ya yb yc za) zb) (v57_1 (v57_0 xa xb xc ya yb yc za) (v57_1 xa xb xc ya yb yc za) (v57_2 xa xb xc ya yb yc za) (v57_3 xa xb xc ya yb yc za) (v57_4 xa xb xc ya yb yc za) (v57_5 xa xb xc ya yb yc za) zb) (v57_2 (v57_0 xa xb xc ya yb yc za) (v57_1 xa xb xc ya yb yc za) (v57_2 xa xb xc ya yb yc za) (v57_3 xa xb xc ya yb yc za) (v57_4 xa xb xc ya yb yc za) (v57_5 xa xb xc ya yb yc za) zb) zb)),Ai (IntKind.i64.wrap ((v57_6 xa xb xc ya yb yc za)+(v57_6 (v57_0 xa xb xc ya yb yc za) (v57_1 xa xb xc ya yb yc za) (v57_2 xa xb xc ya yb yc za) (v57_3 xa xb xc ya yb yc za) (v57_4 xa xb xc ya yb yc za) (v57_5 xa xb xc ya yb yc za) zb)))])
 else none)
 else none)
 else none)
 else none)
 else none))))
 else none):=by kernel_rfl
def m45:TModel
 | [.agg [.sl g0 xa,.sl g1 xb,.sl g2 xc],.agg [.int .i64 ya,.int .i64 yb,.int .i64 yc],.agg [.int .i64 za,.int .i64 zb]]=>bif ctsEq g0 ([.int .i64]) && ctsEq g1 ([.int .i64]) && ctsEq g2 ([.int .i64,.int .i64]) then some (q45 xa xb xc ya yb yc za zb,AV.tup [AV.agg [AV.fl [.int .i64] (v45_0 xa xb xc ya yb yc za zb),AV.fl [.int .i64] (v45_1 xa xb xc ya yb yc za zb),AV.fl [.int .i64,.int .i64] (v45_2 xa xb xc ya yb yc za zb)],AV.agg [AV.int .i64 (v45_3 xa xb xc ya yb yc za zb),AV.int .i64 (v45_4 xa xb xc ya yb yc za zb),AV.int .i64 (v45_5 xa xb xc ya yb yc za zb)],AV.fl [.int .i64] (v45_6 xa xb xc ya yb yc za zb),AV.int .i64 (v45_7 xa xb xc ya yb yc za zb)]) else none
 | _=>none
theorem k45:Known Tryz.prog 45:=⟨Tryz.f45,Tryz.func45,by kernel_rfl,by kernel_rfl⟩
theorem meets45:Meets Tryz.prog 45 m45:=by
 refine meet (f:=Tryz.f45) (l:=[]) (hs:=[(45,999,[6,7,8,9])]) (ts:=[(37,m37),(51,m51),(53,m53),(56,m56),(57,m57),(58,m58),(59,m59)]) (ws:=[]) (is:=[]) (ls:=[]) (lvl:=0) mixed k45 Tryz.func45 (by kernel_rfl) noLoop (allT_cons meets37 (allT_cons meets51 (allT_cons meets53 (allT_cons meets56 (allT_cons meets57 (allT_cons meets58 (allT_cons meets59 allT_nil))))))) allM_nil noI fun w xs us r hl hv h=>?_
 unfold m45 at h
 split at h
 ·rename_i g0 xa g1 xb g2 xc ya yb yc za zb
  obtain ⟨hg,h⟩:=bif_pair h
  simp only [Bool.and_eq_true] at hg
  obtain ⟨⟨q0,q1⟩,q2⟩:=hg
  obtain rfl:=ctsEq_eq _ _ q0
  obtain rfl:=ctsEq_eq _ _ q1
  obtain rfl:=ctsEq_eq _ _ q2
  obtain ⟨h1,rfl⟩:=pair_inj h
  exact (e45 xa xb xc ya yb yc za zb).trans ((brL (br (fun b=>some (AV.tup [AV.agg [AV.fl [.int .i64] (bif b then (v56_0 xa xb xc) else (bif !(v37_0 ya yb yc) then (v56_0 xa xb xc) else (bif !(v51_0 za zb) then (v56_0 xa xb xc) else (v57_0 (v57_0 xa xb xc ya yb yc za) (v57_1 xa xb xc ya yb yc za) (v57_2 xa xb xc ya yb yc za) (v57_3 xa xb xc ya yb yc za) (v57_4 xa xb xc ya yb yc za) (v57_5 xa xb xc ya yb yc za) zb)))),AV.fl [.int .i64] (bif b then (v56_1 xa xb xc) else (bif !(v37_0 ya yb yc) then (v56_1 xa xb xc) else (bif !(v51_0 za zb) then (v56_1 xa xb xc) else (v57_1 (v57_0 xa xb xc ya yb yc za) (v57_1 xa xb xc ya yb yc za) (v57_2 xa xb xc ya yb yc za) (v57_3 xa xb xc ya yb yc za) (v57_4 xa xb xc ya yb yc za) (v57_5 xa xb xc ya yb yc za) zb)))),AV.fl [.int .i64,.int .i64] (bif b then (v56_2 xa xb xc) else (bif !(v37_0 ya yb yc) then (v56_2 xa xb xc) else (bif !(v51_0 za zb) then (v56_2 xa xb xc) else (v57_2 (v57_0 xa xb xc ya yb yc za) (v57_1 xa xb xc ya yb yc za) (v57_2 xa xb xc ya yb yc za) (v57_3 xa xb xc ya yb yc za) (v57_4 xa xb xc ya yb yc za) (v57_5 xa xb xc ya yb yc za) zb))))],AV.agg [Ai (bif b then ya else (bif !(v37_0 ya yb yc) then ya else (bif !(v51_0 za zb) then ya else (v57_3 (v57_0 xa xb xc ya yb yc za) (v57_1 xa xb xc ya yb yc za) (v57_2 xa xb xc ya yb yc za) (v57_3 xa xb xc ya yb yc za) (v57_4 xa xb xc ya yb yc za) (v57_5 xa xb xc ya yb yc za) zb)))),Ai (bif b then yb else (bif !(v37_0 ya yb yc) then yb else (bif !(v51_0 za zb) then yb else (v57_4 (v57_0 xa xb xc ya yb yc za) (v57_1 xa xb xc ya yb yc za) (v57_2 xa xb xc ya yb yc za) (v57_3 xa xb xc ya yb yc za) (v57_4 xa xb xc ya yb yc za) (v57_5 xa xb xc ya yb yc za) zb)))),Ai (bif b then yc else (bif !(v37_0 ya yb yc) then yc else (bif !(v51_0 za zb) then yc else (v57_5 (v57_0 xa xb xc ya yb yc za) (v57_1 xa xb xc ya yb yc za) (v57_2 xa xb xc ya yb yc za) (v57_3 xa xb xc ya yb yc za) (v57_4 xa xb xc ya yb yc za) (v57_5 xa xb xc ya yb yc za) zb))))],AV.fl [.int .i64] (bif b then ([]:List AV) else (bif !(v37_0 ya yb yc) then ([]:List AV) else (bif !(v51_0 za zb) then ([]:List AV) else (v59_0 (v57_0 (v57_0 xa xb xc ya yb yc za) (v57_1 xa xb xc ya yb yc za) (v57_2 xa xb xc ya yb yc za) (v57_3 xa xb xc ya yb yc za) (v57_4 xa xb xc ya yb yc za) (v57_5 xa xb xc ya yb yc za) zb) (v57_1 (v57_0 xa xb xc ya yb yc za) (v57_1 xa xb xc ya yb yc za) (v57_2 xa xb xc ya yb yc za) (v57_3 xa xb xc ya yb yc za) (v57_4 xa xb xc ya yb yc za) (v57_5 xa xb xc ya yb yc za) zb) (v57_2 (v57_0 xa xb xc ya yb yc za) (v57_1 xa xb xc ya yb yc za) (v57_2 xa xb xc ya yb yc za) (v57_3 xa xb xc ya yb yc za) (v57_4 xa xb xc ya yb yc za) (v57_5 xa xb xc ya yb yc za) zb) (v58_0 (v57_0 (v57_0 xa xb xc ya yb yc za) (v57_1 xa xb xc ya yb yc za) (v57_2 xa xb xc ya yb yc za) (v57_3 xa xb xc ya yb yc za) (v57_4 xa xb xc ya yb yc za) (v57_5 xa xb xc ya yb yc za) zb) (v57_1 (v57_0 xa xb xc ya yb yc za) (v57_1 xa xb xc ya yb yc za) (v57_2 xa xb xc ya yb yc za) (v57_3 xa xb xc ya yb yc za) (v57_4 xa xb xc ya yb yc za) (v57_5 xa xb xc ya yb yc za) zb) (v57_2 (v57_0 xa xb xc ya yb yc za) (v57_1 xa xb xc ya yb yc za) (v57_2 xa xb xc ya yb yc za) (v57_3 xa xb xc ya yb yc za) (v57_4 xa xb xc ya yb yc za) (v57_5 xa xb xc ya yb yc za) zb) za) (v58_0 (v57_0 (v57_0 xa xb xc ya yb yc za) (v57_1 xa xb xc ya yb yc za) (v57_2 xa xb xc ya yb yc za) (v57_3 xa xb xc ya yb yc za) (v57_4 xa xb xc ya yb yc za) (v57_5 xa xb xc ya yb yc za) zb) (v57_1 (v57_0 xa xb xc ya yb yc za) (v57_1 xa xb xc ya yb yc za) (v57_2 xa xb xc ya yb yc za) (v57_3 xa xb xc ya yb yc za) (v57_4 xa xb xc ya yb yc za) (v57_5 xa xb xc ya yb yc za) zb) (v57_2 (v57_0 xa xb xc ya yb yc za) (v57_1 xa xb xc ya yb yc za) (v57_2 xa xb xc ya yb yc za) (v57_3 xa xb xc ya yb yc za) (v57_4 xa xb xc ya yb yc za) (v57_5 xa xb xc ya yb yc za) zb) zb))))),Ai (bif b then 0 else (bif !(v37_0 ya yb yc) then 0 else (bif !(v51_0 za zb) then 0 else IntKind.i64.wrap ((v57_6 xa xb xc ya yb yc za)+(v57_6 (v57_0 xa xb xc ya yb yc za) (v57_1 xa xb xc ya yb yc za) (v57_2 xa xb xc ya yb yc za) (v57_3 xa xb xc ya yb yc za) (v57_4 xa xb xc ya yb yc za) (v57_5 xa xb xc ya yb yc za) zb)))))])) (brL1 (fun _=>rfl)) (br (fun b=>some (AV.tup [AV.agg [AV.fl [.int .i64] (bif b then (v56_0 xa xb xc) else (bif !(v51_0 za zb) then (v56_0 xa xb xc) else (v57_0 (v57_0 xa xb xc ya yb yc za) (v57_1 xa xb xc ya yb yc za) (v57_2 xa xb xc ya yb yc za) (v57_3 xa xb xc ya yb yc za) (v57_4 xa xb xc ya yb yc za) (v57_5 xa xb xc ya yb yc za) zb))),AV.fl [.int .i64] (bif b then (v56_1 xa xb xc) else (bif !(v51_0 za zb) then (v56_1 xa xb xc) else (v57_1 (v57_0 xa xb xc ya yb yc za) (v57_1 xa xb xc ya yb yc za) (v57_2 xa xb xc ya yb yc za) (v57_3 xa xb xc ya yb yc za) (v57_4 xa xb xc ya yb yc za) (v57_5 xa xb xc ya yb yc za) zb))),AV.fl [.int .i64,.int .i64] (bif b then (v56_2 xa xb xc) else (bif !(v51_0 za zb) then (v56_2 xa xb xc) else (v57_2 (v57_0 xa xb xc ya yb yc za) (v57_1 xa xb xc ya yb yc za) (v57_2 xa xb xc ya yb yc za) (v57_3 xa xb xc ya yb yc za) (v57_4 xa xb xc ya yb yc za) (v57_5 xa xb xc ya yb yc za) zb)))],AV.agg [Ai (bif b then ya else (bif !(v51_0 za zb) then ya else (v57_3 (v57_0 xa xb xc ya yb yc za) (v57_1 xa xb xc ya yb yc za) (v57_2 xa xb xc ya yb yc za) (v57_3 xa xb xc ya yb yc za) (v57_4 xa xb xc ya yb yc za) (v57_5 xa xb xc ya yb yc za) zb))),Ai (bif b then yb else (bif !(v51_0 za zb) then yb else (v57_4 (v57_0 xa xb xc ya yb yc za) (v57_1 xa xb xc ya yb yc za) (v57_2 xa xb xc ya yb yc za) (v57_3 xa xb xc ya yb yc za) (v57_4 xa xb xc ya yb yc za) (v57_5 xa xb xc ya yb yc za) zb))),Ai (bif b then yc else (bif !(v51_0 za zb) then yc else (v57_5 (v57_0 xa xb xc ya yb yc za) (v57_1 xa xb xc ya yb yc za) (v57_2 xa xb xc ya yb yc za) (v57_3 xa xb xc ya yb yc za) (v57_4 xa xb xc ya yb yc za) (v57_5 xa xb xc ya yb yc za) zb)))],AV.fl [.int .i64] (bif b then ([]:List AV) else (bif !(v51_0 za zb) then ([]:List AV) else (v59_0 (v57_0 (v57_0 xa xb xc ya yb yc za) (v57_1 xa xb xc ya yb yc za) (v57_2 xa xb xc ya yb yc za) (v57_3 xa xb xc ya yb yc za) (v57_4 xa xb xc ya yb yc za) (v57_5 xa xb xc ya yb yc za) zb) (v57_1 (v57_0 xa xb xc ya yb yc za) (v57_1 xa xb xc ya yb yc za) (v57_2 xa xb xc ya yb yc za) (v57_3 xa xb xc ya yb yc za) (v57_4 xa xb xc ya yb yc za) (v57_5 xa xb xc ya yb yc za) zb) (v57_2 (v57_0 xa xb xc ya yb yc za) (v57_1 xa xb xc ya yb yc za) (v57_2 xa xb xc ya yb yc za) (v57_3 xa xb xc ya yb yc za) (v57_4 xa xb xc ya yb yc za) (v57_5 xa xb xc ya yb yc za) zb) (v58_0 (v57_0 (v57_0 xa xb xc ya yb yc za) (v57_1 xa xb xc ya yb yc za) (v57_2 xa xb xc ya yb yc za) (v57_3 xa xb xc ya yb yc za) (v57_4 xa xb xc ya yb yc za) (v57_5 xa xb xc ya yb yc za) zb) (v57_1 (v57_0 xa xb xc ya yb yc za) (v57_1 xa xb xc ya yb yc za) (v57_2 xa xb xc ya yb yc za) (v57_3 xa xb xc ya yb yc za) (v57_4 xa xb xc ya yb yc za) (v57_5 xa xb xc ya yb yc za) zb) (v57_2 (v57_0 xa xb xc ya yb yc za) (v57_1 xa xb xc ya yb yc za) (v57_2 xa xb xc ya yb yc za) (v57_3 xa xb xc ya yb yc za) (v57_4 xa xb xc ya yb yc za) (v57_5 xa xb xc ya yb yc za) zb) za) (v58_0 (v57_0 (v57_0 xa xb xc ya yb yc za) (v57_1 xa xb xc ya yb yc za) (v57_2 xa xb xc ya yb yc za) (v57_3 xa xb xc ya yb yc za) (v57_4 xa xb xc ya yb yc za) (v57_5 xa xb xc ya yb yc za) zb) (v57_1 (v57_0 xa xb xc ya yb yc za) (v57_1 xa xb xc ya yb yc za) (v57_2 xa xb xc ya yb yc za) (v57_3 xa xb xc ya yb yc za) (v57_4 xa xb xc ya yb yc za) (v57_5 xa xb xc ya yb yc za) zb) (v57_2 (v57_0 xa xb xc ya yb yc za) (v57_1 xa xb xc ya yb yc za) (v57_2 xa xb xc ya yb yc za) (v57_3 xa xb xc ya yb yc za) (v57_4 xa xb xc ya yb yc za) (v57_5 xa xb xc ya yb yc za) zb) zb)))),Ai (bif b then 0 else (bif !(v51_0 za zb) then 0 else IntKind.i64.wrap ((v57_6 xa xb xc ya yb yc za)+(v57_6 (v57_0 xa xb xc ya yb yc za) (v57_1 xa xb xc ya yb yc za) (v57_2 xa xb xc ya yb yc za) (v57_3 xa xb xc ya yb yc za) (v57_4 xa xb xc ya yb yc za) (v57_5 xa xb xc ya yb yc za) zb))))])) (brL1 (fun _=>rfl)) (br (fun b=>some (AV.tup [AV.agg [AV.fl [.int .i64] (bif b then (v56_0 xa xb xc) else (v57_0 (v57_0 xa xb xc ya yb yc za) (v57_1 xa xb xc ya yb yc za) (v57_2 xa xb xc ya yb yc za) (v57_3 xa xb xc ya yb yc za) (v57_4 xa xb xc ya yb yc za) (v57_5 xa xb xc ya yb yc za) zb)),AV.fl [.int .i64] (bif b then (v56_1 xa xb xc) else (v57_1 (v57_0 xa xb xc ya yb yc za) (v57_1 xa xb xc ya yb yc za) (v57_2 xa xb xc ya yb yc za) (v57_3 xa xb xc ya yb yc za) (v57_4 xa xb xc ya yb yc za) (v57_5 xa xb xc ya yb yc za) zb)),AV.fl [.int .i64,.int .i64] (bif b then (v56_2 xa xb xc) else (v57_2 (v57_0 xa xb xc ya yb yc za) (v57_1 xa xb xc ya yb yc za) (v57_2 xa xb xc ya yb yc za) (v57_3 xa xb xc ya yb yc za) (v57_4 xa xb xc ya yb yc za) (v57_5 xa xb xc ya yb yc za) zb))],AV.agg [Ai (bif b then ya else (v57_3 (v57_0 xa xb xc ya yb yc za) (v57_1 xa xb xc ya yb yc za) (v57_2 xa xb xc ya yb yc za) (v57_3 xa xb xc ya yb yc za) (v57_4 xa xb xc ya yb yc za) (v57_5 xa xb xc ya yb yc za) zb)),Ai (bif b then yb else (v57_4 (v57_0 xa xb xc ya yb yc za) (v57_1 xa xb xc ya yb yc za) (v57_2 xa xb xc ya yb yc za) (v57_3 xa xb xc ya yb yc za) (v57_4 xa xb xc ya yb yc za) (v57_5 xa xb xc ya yb yc za) zb)),Ai (bif b then yc else (v57_5 (v57_0 xa xb xc ya yb yc za) (v57_1 xa xb xc ya yb yc za) (v57_2 xa xb xc ya yb yc za) (v57_3 xa xb xc ya yb yc za) (v57_4 xa xb xc ya yb yc za) (v57_5 xa xb xc ya yb yc za) zb))],AV.fl [.int .i64] (bif b then ([]:List AV) else (v59_0 (v57_0 (v57_0 xa xb xc ya yb yc za) (v57_1 xa xb xc ya yb yc za) (v57_2 xa xb xc ya yb yc za) (v57_3 xa xb xc ya yb yc za) (v57_4 xa xb xc ya yb yc za) (v57_5 xa xb xc ya yb yc za) zb) (v57_1 (v57_0 xa xb xc ya yb yc za) (v57_1 xa xb xc ya yb yc za) (v57_2 xa xb xc ya yb yc za) (v57_3 xa xb xc ya yb yc za) (v57_4 xa xb xc ya yb yc za) (v57_5 xa xb xc ya yb yc za) zb) (v57_2 (v57_0 xa xb xc ya yb yc za) (v57_1 xa xb xc ya yb yc za) (v57_2 xa xb xc ya yb yc za) (v57_3 xa xb xc ya yb yc za) (v57_4 xa xb xc ya yb yc za) (v57_5 xa xb xc ya yb yc za) zb) (v58_0 (v57_0 (v57_0 xa xb xc ya yb yc za) (v57_1 xa xb xc ya yb yc za) (v57_2 xa xb xc ya yb yc za) (v57_3 xa xb xc ya yb yc za) (v57_4 xa xb xc ya yb yc za) (v57_5 xa xb xc ya yb yc za) zb) (v57_1 (v57_0 xa xb xc ya yb yc za) (v57_1 xa xb xc ya yb yc za) (v57_2 xa xb xc ya yb yc za) (v57_3 xa xb xc ya yb yc za) (v57_4 xa xb xc ya yb yc za) (v57_5 xa xb xc ya yb yc za) zb) (v57_2 (v57_0 xa xb xc ya yb yc za) (v57_1 xa xb xc ya yb yc za) (v57_2 xa xb xc ya yb yc za) (v57_3 xa xb xc ya yb yc za) (v57_4 xa xb xc ya yb yc za) (v57_5 xa xb xc ya yb yc za) zb) za) (v58_0 (v57_0 (v57_0 xa xb xc ya yb yc za) (v57_1 xa xb xc ya yb yc za) (v57_2 xa xb xc ya yb yc za) (v57_3 xa xb xc ya yb yc za) (v57_4 xa xb xc ya yb yc za) (v57_5 xa xb xc ya yb yc za) zb) (v57_1 (v57_0 xa xb xc ya yb yc za) (v57_1 xa xb xc ya yb yc za) (v57_2 xa xb xc ya yb yc za) (v57_3 xa xb xc ya yb yc za) (v57_4 xa xb xc ya yb yc za) (v57_5 xa xb xc ya yb yc za) zb) (v57_2 (v57_0 xa xb xc ya yb yc za) (v57_1 xa xb xc ya yb yc za) (v57_2 xa xb xc ya yb yc za) (v57_3 xa xb xc ya yb yc za) (v57_4 xa xb xc ya yb yc za) (v57_5 xa xb xc ya yb yc za) zb) zb))),Ai (bif b then 0 else IntKind.i64.wrap ((v57_6 xa xb xc ya yb yc za)+(v57_6 (v57_0 xa xb xc ya yb yc za) (v57_1 xa xb xc ya yb yc za) (v57_2 xa xb xc ya yb yc za) (v57_3 xa xb xc ya yb yc za) (v57_4 xa xb xc ya yb yc za) (v57_5 xa xb xc ya yb yc za) zb)))])) (brL1 (fun _=>rfl)) (brL (brL (brL (brL (brL1 (fun _=>rfl)))))))))) h1)
 ·cases h
def F29_0 (t2:List AV) (t13:Int) (h0 h1 h2 h5 h6:List AV) (h7_0 h7_1 h7_2:Int):Out ((Int × (List AV) × (List AV) × (List AV) × (List AV) × (List AV) × Int × Int × Int)) (((List AV) × (List AV) × (List AV) × (List AV) × (List AV) × Int × Int × Int)):=(bif decide (t13<(t2.length:Int)) then (bif (decide (0≤t13) && decide (t13<(t2.length:Int))) then (bif q45 h0 h1 h2 h7_0 h7_1 h7_2 (fI (t2.getD t13.toNat .undef) 0) (fI (t2.getD t13.toNat .undef) 1) then (bif (decide ((h5.length+([AV.sl [.int .i64] (v45_6 h0 h1 h2 h7_0 h7_1 h7_2 (fI (t2.getD t13.toNat .undef) 0) (fI (t2.getD t13.toNat .undef) 1))]).length)*24≤140737488355328) && decide ((h5.length+([AV.sl [.int .i64] (v45_6 h0 h1 h2 h7_0 h7_1 h7_2 (fI (t2.getD t13.toNat .undef) 0) (fI (t2.getD t13.toNat .undef) 1))]).length)≤140737488355328)) then (bif (decide ((h6.length+([AV.int .i64 (v45_7 h0 h1 h2 h7_0 h7_1 h7_2 (fI (t2.getD t13.toNat .undef) 0) (fI (t2.getD t13.toNat .undef) 1))]).length)*8≤140737488355328) && decide ((h6.length+([AV.int .i64 (v45_7 h0 h1 h2 h7_0 h7_1 h7_2 (fI (t2.getD t13.toNat .undef) 0) (fI (t2.getD t13.toNat .undef) 1))]).length)≤140737488355328)) then .next (IntKind.i64.wrap (t13+1),(v45_0 h0 h1 h2 h7_0 h7_1 h7_2 (fI (t2.getD t13.toNat .undef) 0) (fI (t2.getD t13.toNat .undef) 1)),(v45_1 h0 h1 h2 h7_0 h7_1 h7_2 (fI (t2.getD t13.toNat .undef) 0) (fI (t2.getD t13.toNat .undef) 1)),(v45_2 h0 h1 h2 h7_0 h7_1 h7_2 (fI (t2.getD t13.toNat .undef) 0) (fI (t2.getD t13.toNat .undef) 1)),h5++([AV.sl [.int .i64] (v45_6 h0 h1 h2 h7_0 h7_1 h7_2 (fI (t2.getD t13.toNat .undef) 0) (fI (t2.getD t13.toNat .undef) 1))]),h6++([AV.int .i64 (v45_7 h0 h1 h2 h7_0 h7_1 h7_2 (fI (t2.getD t13.toNat .undef) 0) (fI (t2.getD t13.toNat .undef) 1))]),(v45_3 h0 h1 h2 h7_0 h7_1 h7_2 (fI (t2.getD t13.toNat .undef) 0) (fI (t2.getD t13.toNat .undef) 1)),(v45_4 h0 h1 h2 h7_0 h7_1 h7_2 (fI (t2.getD t13.toNat .undef) 0) (fI (t2.getD t13.toNat .undef) 1)),(v45_5 h0 h1 h2 h7_0 h7_1 h7_2 (fI (t2.getD t13.toNat .undef) 0) (fI (t2.getD t13.toNat .undef) 1)))
 else .fail)
 else .fail)
 else .fail)
 else .fail)
 else .stop (h0,h1,h2,h5,h6,h7_0,h7_1,h7_2))
def R29_0 (t2:List AV):((Int × (List AV) × (List AV) × (List AV) × (List AV) × (List AV) × Int × Int × Int))→Out ((Int × (List AV) × (List AV) × (List AV) × (List AV) × (List AV) × Int × Int × Int)) (((List AV) × (List AV) × (List AV) × (List AV) × (List AV) × Int × Int × Int)):=fun s:Int × (List AV) × (List AV) × (List AV) × (List AV) × (List AV) × Int × Int × Int=>F29_0 t2 s.1 s.2.1 s.2.2.1 s.2.2.2.1 s.2.2.2.2.1 s.2.2.2.2.2.1 s.2.2.2.2.2.2.1 s.2.2.2.2.2.2.2.1 s.2.2.2.2.2.2.2.2
def E29_0 (t2:List AV):((Int × (List AV) × (List AV) × (List AV) × (List AV) × (List AV) × Int × Int × Int))→St:=fun s:Int × (List AV) × (List AV) × (List AV) × (List AV) × (List AV) × Int × Int × Int=>⟨[(2,AV.sl [.int .i64,.int .i64] t2),(6,AV.ptr [0,6] 0 0),(9,AV.ptr [0,9] 0 0),(10,AV.own [0,10]),(11,AV.own [0,11]),(12,AV.ptr [0,12] 0 0),(13,Ai s.1)],[([0,0,9],⟨false,[.int .i64],s.2.1⟩),([0,1,9],⟨false,[.int .i64],s.2.2.1⟩),([0,2,9],⟨false,[.int .i64,.int .i64],s.2.2.2.1⟩),([0,6],⟨true,[],[AV.agg [AV.snil,AV.snil,AV.snil]]⟩),([0,9],⟨true,[],[AV.agg [AV.own [0,0,9],AV.own [0,1,9],AV.own [0,2,9]]]⟩),([0,10],⟨false,[.sl [.int .i64]],s.2.2.2.2.1⟩),([0,11],⟨false,[.int .i64],s.2.2.2.2.2.1⟩),([0,12],⟨true,[],[AV.agg [Ai s.2.2.2.2.2.2.1,Ai s.2.2.2.2.2.2.2.1,Ai s.2.2.2.2.2.2.2.2]]⟩)]⟩
def K29_0 (k:Kont):(((List AV) × (List AV) × (List AV) × (List AV) × (List AV) × Int × Int × Int))→Option AV:=fun p:(List AV) × (List AV) × (List AV) × (List AV) × (List AV) × Int × Int × Int=>k (.exit 0) ⟨[(6,AV.ptr [0,6] 0 0),(9,AV.ptr [0,9] 0 0),(10,AV.own [0,10]),(11,AV.own [0,11])],[([0,0,9],⟨false,[.int .i64],p.1⟩),([0,1,9],⟨false,[.int .i64],p.2.1⟩),([0,2,9],⟨false,[.int .i64,.int .i64],p.2.2.1⟩),([0,6],⟨true,[],[AV.agg [AV.snil,AV.snil,AV.snil]]⟩),([0,9],⟨true,[],[AV.agg [AV.own [0,0,9],AV.own [0,1,9],AV.own [0,2,9]]]⟩),([0,10],⟨false,[.sl [.int .i64]],p.2.2.2.1⟩),([0,11],⟨false,[.int .i64],p.2.2.2.2.1⟩),([0,12],⟨true,[],[AV.agg [Ai p.2.2.2.2.2.1,Ai p.2.2.2.2.2.2.1,Ai p.2.2.2.2.2.2.2]]⟩)]⟩
def l29_0:LModel:=fun _ _ st k=>match st with
 | ⟨[(2,.sl g0 t2),(6,.ptr g1 g2 g3),(9,.ptr g4 g5 g6),(10,.own g7),(11,.own g8),(12,.ptr g9 g10 g11),(13,.int .i64 t13)],[(g12,⟨false,g13,h0⟩),(g14,⟨false,g15,h1⟩),(g16,⟨false,g17,h2⟩),(g18,⟨true,[],[.agg [.snil,.snil,.snil]]⟩),(g19,⟨true,[],[.agg [.own g20,.own g21,.own g22]]⟩),(g23,⟨false,g24,h5⟩),(g25,⟨false,g26,h6⟩),(g27,⟨true,[],[.agg [.int .i64 h7_0,.int .i64 h7_1,.int .i64 h7_2]]⟩)]⟩=>bif ctsEq g0 ([.int .i64,.int .i64]) && nmEq g1 ([0,6]) && Nat.beq g2 0 && Nat.beq g3 0 && nmEq g4 ([0,9]) && Nat.beq g5 0 && Nat.beq g6 0 && nmEq g7 ([0,10]) && nmEq g8 ([0,11]) && nmEq g9 ([0,12]) && Nat.beq g10 0 && Nat.beq g11 0 && nmEq g12 ([0,0,9]) && ctsEq g13 ([.int .i64]) && nmEq g14 ([0,1,9]) && ctsEq g15 ([.int .i64]) && nmEq g16 ([0,2,9]) && ctsEq g17 ([.int .i64,.int .i64]) && nmEq g18 ([0,6]) && nmEq g19 ([0,9]) && nmEq g20 ([0,0,9]) && nmEq g21 ([0,1,9]) && nmEq g22 ([0,2,9]) && nmEq g23 ([0,10]) && ctsEq g24 ([.sl [.int .i64]]) && nmEq g25 ([0,11]) && ctsEq g26 ([.int .i64]) && nmEq g27 ([0,12]) then ro (runW (R29_0 t2) (((t2.length:Int) - t13:Int).toNat+1) (t13,h0,h1,h2,h5,h6,h7_0,h7_1,h7_2)) none (K29_0 k) else none
 | _=>none
noncomputable def c29:Cfg:=cfg Tryz.prog [(29,0,[2,6,9,10,11,12,13]),(29,999,[6,7,8]),(29,1000,[6,9,10,11]),(29,1001,[2,6,9,10,11,12,13])] [(36,m36),(37,m37),(38,m38),(44,m44),(45,m45)] [] [] [(29,0,l29_0)]
theorem s29_0 (ce:CallE) (t2:List AV) (t13:Int) (h0 h1 h2 h5 h6:List AV) (h7_0 h7_1 h7_2:Int) (next:St→Option AV) (k:Kont):stepA (codeA c29 ce [] 29 0 (sub [1,1,1,1,1,1,0,1,0,0] (body Tryz.f29))) (normA [] [2,6,9,10,11,12,13]) next ⟨[(2,AV.sl [.int .i64,.int .i64] t2),(6,AV.ptr [0,6] 0 0),(9,AV.ptr [0,9] 0 0),(10,AV.own [0,10]),(11,AV.own [0,11]),(12,AV.ptr [0,12] 0 0),(13,Ai t13)],[([0,0,9],⟨false,[.int .i64],h0⟩),([0,1,9],⟨false,[.int .i64],h1⟩),([0,2,9],⟨false,[.int .i64,.int .i64],h2⟩),([0,6],⟨true,[],[AV.agg [AV.snil,AV.snil,AV.snil]]⟩),([0,9],⟨true,[],[AV.agg [AV.own [0,0,9],AV.own [0,1,9],AV.own [0,2,9]]]⟩),([0,10],⟨false,[.sl [.int .i64]],h5⟩),([0,11],⟨false,[.int .i64],h6⟩),([0,12],⟨true,[],[AV.agg [Ai h7_0,Ai h7_1,Ai h7_2]]⟩)]⟩ k=(bif decide (t13<(t2.length:Int)) then (bif (decide (0≤t13) && decide (t13<(t2.length:Int))) then (bif q45 h0 h1 h2 h7_0 h7_1 h7_2 (fI (t2.getD t13.toNat .undef) 0) (fI (t2.getD t13.toNat .undef) 1) then (bif (decide ((h5.length+([AV.sl [.int .i64] (v45_6 h0 h1 h2 h7_0 h7_1 h7_2 (fI (t2.getD t13.toNat .undef) 0) (fI (t2.getD t13.toNat .undef) 1))]).length)*24≤140737488355328) && decide ((h5.length+([AV.sl [.int .i64] (v45_6 h0 h1 h2 h7_0 h7_1 h7_2 (fI (t2.getD t13.toNat .undef) 0) (fI (t2.getD t13.toNat .undef) 1))]).length)≤140737488355328)) then (bif (decide ((h6.length+([Ai (v45_7 h0 h1 h2 h7_0 h7_1 h7_2 (fI (t2.getD t13.toNat .undef) 0) (fI (t2.getD t13.toNat .undef) 1))]).length)*8≤140737488355328) && decide ((h6.length+([Ai (v45_7 h0 h1 h2 h7_0 h7_1 h7_2 (fI (t2.getD t13.toNat .undef) 0) (fI (t2.getD t13.toNat .undef) 1))]).length)≤140737488355328)) then next ⟨[(2,AV.sl [.int .i64,.int .i64] t2),(6,AV.ptr [0,6] 0 0),(9,AV.ptr [0,9] 0 0),(10,AV.own [0,10]),(11,AV.own [0,11]),(12,AV.ptr [0,12] 0 0),(13,Ai (IntKind.i64.wrap (t13+1)))],[([0,0,9],⟨false,[.int .i64],(v45_0 h0 h1 h2 h7_0 h7_1 h7_2 (fI (t2.getD t13.toNat .undef) 0) (fI (t2.getD t13.toNat .undef) 1))⟩),([0,1,9],⟨false,[.int .i64],(v45_1 h0 h1 h2 h7_0 h7_1 h7_2 (fI (t2.getD t13.toNat .undef) 0) (fI (t2.getD t13.toNat .undef) 1))⟩),([0,2,9],⟨false,[.int .i64,.int .i64],(v45_2 h0 h1 h2 h7_0 h7_1 h7_2 (fI (t2.getD t13.toNat .undef) 0) (fI (t2.getD t13.toNat .undef) 1))⟩),([0,6],⟨true,[],[AV.agg [AV.snil,AV.snil,AV.snil]]⟩),([0,9],⟨true,[],[AV.agg [AV.own [0,0,9],AV.own [0,1,9],AV.own [0,2,9]]]⟩),([0,10],⟨false,[.sl [.int .i64]],h5++([AV.sl [.int .i64] (v45_6 h0 h1 h2 h7_0 h7_1 h7_2 (fI (t2.getD t13.toNat .undef) 0) (fI (t2.getD t13.toNat .undef) 1))])⟩),([0,11],⟨false,[.int .i64],h6++([Ai (v45_7 h0 h1 h2 h7_0 h7_1 h7_2 (fI (t2.getD t13.toNat .undef) 0) (fI (t2.getD t13.toNat .undef) 1))])⟩),([0,12],⟨true,[],[AV.agg [Ai (v45_3 h0 h1 h2 h7_0 h7_1 h7_2 (fI (t2.getD t13.toNat .undef) 0) (fI (t2.getD t13.toNat .undef) 1)),Ai (v45_4 h0 h1 h2 h7_0 h7_1 h7_2 (fI (t2.getD t13.toNat .undef) 0) (fI (t2.getD t13.toNat .undef) 1)),Ai (v45_5 h0 h1 h2 h7_0 h7_1 h7_2 (fI (t2.getD t13.toNat .undef) 0) (fI (t2.getD t13.toNat .undef) 1))]]⟩)]⟩
 else none)
 else none)
 else none)
 else none)
 else k (.exit 0) ⟨[(6,AV.ptr [0,6] 0 0),(9,AV.ptr [0,9] 0 0),(10,AV.own [0,10]),(11,AV.own [0,11])],[([0,0,9],⟨false,[.int .i64],h0⟩),([0,1,9],⟨false,[.int .i64],h1⟩),([0,2,9],⟨false,[.int .i64,.int .i64],h2⟩),([0,6],⟨true,[],[AV.agg [AV.snil,AV.snil,AV.snil]]⟩),([0,9],⟨true,[],[AV.agg [AV.own [0,0,9],AV.own [0,1,9],AV.own [0,2,9]]]⟩),([0,10],⟨false,[.sl [.int .i64]],h5⟩),([0,11],⟨false,[.int .i64],h6⟩),([0,12],⟨true,[],[AV.agg [Ai h7_0,Ai h7_1,Ai h7_2]]⟩)]⟩):=by kernel_rfl
theorem st29_0 (t2:List AV) (ce:CallE) (k:Kont) (s:(Int × (List AV) × (List AV) × (List AV) × (List AV) × (List AV) × Int × Int × Int)) (next:St→Option AV):stepA (codeA c29 ce [] 29 0 (sub [1,1,1,1,1,1,0,1,0,0] (body Tryz.f29))) (normA [] [2,6,9,10,11,12,13]) next ((E29_0 t2) s) k=(R29_0 t2 s).el none (fun s=>next ((E29_0 t2) s)) (K29_0 k):=(s29_0 ce t2 s.1 s.2.1 s.2.2.1 s.2.2.2.1 s.2.2.2.2.1 s.2.2.2.2.2.1 s.2.2.2.2.2.2.1 s.2.2.2.2.2.2.2.1 s.2.2.2.2.2.2.2.2 next k).trans (by unfold R29_0;unfold F29_0;simp only [el_cond,el_ro,el_sum,el_fail,el_next,el_stop] <;> rfl)
theorem ok29_0 {ce:CallE}:LoopOK c29 ce [] 29 0 (sub [1,1,1,1,1,1,0,1,0,0] (body Tryz.f29)):=by
 intro m hm st k r h
 obtain rfl:l29_0=m:=Option.some.inj hm
 unfold l29_0 at h
 split at h
 ·rename_i g0 t2 g1 g2 g3 g4 g5 g6 g7 g8 g9 g10 g11 t13 g12 g13 h0 g14 g15 h1 g16 g17 h2 g18 g19 g20 g21 g22 g23 g24 h5 g25 g26 h6 g27 h7_0 h7_1 h7_2
  obtain ⟨hg,h⟩:=bif_some h
  simp only [Bool.and_eq_true] at hg
  obtain ⟨⟨⟨⟨⟨⟨⟨⟨⟨⟨⟨⟨⟨⟨⟨⟨⟨⟨⟨⟨⟨⟨⟨⟨⟨⟨⟨q0,q1⟩,q2⟩,q3⟩,q4⟩,q5⟩,q6⟩,q7⟩,q8⟩,q9⟩,q10⟩,q11⟩,q12⟩,q13⟩,q14⟩,q15⟩,q16⟩,q17⟩,q18⟩,q19⟩,q20⟩,q21⟩,q22⟩,q23⟩,q24⟩,q25⟩,q26⟩,q27⟩:=hg
  obtain rfl:=ctsEq_eq _ _ q0
  obtain rfl:=(nmEq_iff _ _).1 q1
  obtain rfl:=Nat.eq_of_beq_eq_true q2
  obtain rfl:=Nat.eq_of_beq_eq_true q3
  obtain rfl:=(nmEq_iff _ _).1 q4
  obtain rfl:=Nat.eq_of_beq_eq_true q5
  obtain rfl:=Nat.eq_of_beq_eq_true q6
  obtain rfl:=(nmEq_iff _ _).1 q7
  obtain rfl:=(nmEq_iff _ _).1 q8
  obtain rfl:=(nmEq_iff _ _).1 q9
  obtain rfl:=Nat.eq_of_beq_eq_true q10
  obtain rfl:=Nat.eq_of_beq_eq_true q11
  obtain rfl:=(nmEq_iff _ _).1 q12
  obtain rfl:=ctsEq_eq _ _ q13
  obtain rfl:=(nmEq_iff _ _).1 q14
  obtain rfl:=ctsEq_eq _ _ q15
  obtain rfl:=(nmEq_iff _ _).1 q16
  obtain rfl:=ctsEq_eq _ _ q17
  obtain rfl:=(nmEq_iff _ _).1 q18
  obtain rfl:=(nmEq_iff _ _).1 q19
  obtain rfl:=(nmEq_iff _ _).1 q20
  obtain rfl:=(nmEq_iff _ _).1 q21
  obtain rfl:=(nmEq_iff _ _).1 q22
  obtain rfl:=(nmEq_iff _ _).1 q23
  obtain rfl:=ctsEq_eq _ _ q24
  obtain rfl:=(nmEq_iff _ _).1 q25
  obtain rfl:=ctsEq_eq _ _ q26
  obtain rfl:=(nmEq_iff _ _).1 q27
  refine ⟨(((t2.length:Int) - t13:Int).toNat+1),?_⟩
  rw [← h]
  exact loop_run (E29_0 t2) (K29_0 k) (st29_0 t2 ce k) _ (t13,h0,h1,h2,h5,h6,h7_0,h7_1,h7_2)
 ·cases h
def q29 (a0:List AV) (ya yb yc:Int) (a2:List AV):Bool:=(q44 a0 && (q36 a0 && (bif !(v36_0 a0) then true else (bif !(v37_0 ya yb yc) then true else (q38 a2 && (bif !(v38_0 a2) then true else (ro (runW (R29_0 a2) (((a2.length:Int) - 0:Int).toNat+1) (0,(v44_0 a0),(v44_1 a0),(v44_2 a0),([]:List AV),([]:List AV),ya,yb,yc)) false (fun p33=>true))))))))
def v29_0 (a0:List AV) (ya yb yc:Int) (a2:List AV):List AV:=(bif !(v36_0 a0) then ([]:List AV) else (bif !(v37_0 ya yb yc) then ([]:List AV) else (bif !(v38_0 a2) then ([]:List AV) else (ro (runW (R29_0 a2) (((a2.length:Int) - 0:Int).toNat+1) (0,(v44_0 a0),(v44_1 a0),(v44_2 a0),([]:List AV),([]:List AV),ya,yb,yc)) [] (fun p33=>p33.1)))))
def v29_1 (a0:List AV) (ya yb yc:Int) (a2:List AV):List AV:=(bif !(v36_0 a0) then ([]:List AV) else (bif !(v37_0 ya yb yc) then ([]:List AV) else (bif !(v38_0 a2) then ([]:List AV) else (ro (runW (R29_0 a2) (((a2.length:Int) - 0:Int).toNat+1) (0,(v44_0 a0),(v44_1 a0),(v44_2 a0),([]:List AV),([]:List AV),ya,yb,yc)) [] (fun p33=>p33.2.1)))))
def v29_2 (a0:List AV) (ya yb yc:Int) (a2:List AV):List AV:=(bif !(v36_0 a0) then ([]:List AV) else (bif !(v37_0 ya yb yc) then ([]:List AV) else (bif !(v38_0 a2) then ([]:List AV) else (ro (runW (R29_0 a2) (((a2.length:Int) - 0:Int).toNat+1) (0,(v44_0 a0),(v44_1 a0),(v44_2 a0),([]:List AV),([]:List AV),ya,yb,yc)) [] (fun p33=>p33.2.2.1)))))
def v29_3 (a0:List AV) (ya yb yc:Int) (a2:List AV):List AV:=(bif !(v36_0 a0) then ([]:List AV) else (bif !(v37_0 ya yb yc) then ([]:List AV) else (bif !(v38_0 a2) then ([]:List AV) else (ro (runW (R29_0 a2) (((a2.length:Int) - 0:Int).toNat+1) (0,(v44_0 a0),(v44_1 a0),(v44_2 a0),([]:List AV),([]:List AV),ya,yb,yc)) [] (fun p33=>p33.2.2.2.1)))))
def v29_4 (a0:List AV) (ya yb yc:Int) (a2:List AV):List AV:=(bif !(v36_0 a0) then ([]:List AV) else (bif !(v37_0 ya yb yc) then ([]:List AV) else (bif !(v38_0 a2) then ([]:List AV) else (ro (runW (R29_0 a2) (((a2.length:Int) - 0:Int).toNat+1) (0,(v44_0 a0),(v44_1 a0),(v44_2 a0),([]:List AV),([]:List AV),ya,yb,yc)) [] (fun p33=>p33.2.2.2.2.1)))))
theorem e29 (a0:List AV) (ya yb yc:Int) (a2:List AV):funA c29 0 29 [AV.sl [.int .i64] a0,AV.agg [Ai ya,Ai yb,Ai yc],AV.sl [.int .i64,.int .i64] a2]=(bif q44 a0 then (bif q36 a0 then (bif !(v36_0 a0) then some (AV.tup [AV.agg [AV.fl [.int .i64] ([]:List AV),AV.fl [.int .i64] ([]:List AV),AV.fl [.int .i64,.int .i64] ([]:List AV)],AV.fl [.sl [.int .i64]] ([]:List AV),AV.fl [.int .i64] ([]:List AV)])
 else (bif !(v37_0 ya yb yc) then some (AV.tup [AV.agg [AV.fl [.int .i64] ([]:List AV),AV.fl [.int .i64] ([]:List AV),AV.fl [.int .i64,.int .i64] ([]:List AV)],AV.fl [.sl [.int .i64]] ([]:List AV),AV.fl [.int .i64] ([]:List AV)])
 else (bif q38 a2 then (bif !(v38_0 a2) then some (AV.tup [AV.agg [AV.fl [.int .i64] ([]:List AV),AV.fl [.int .i64] ([]:List AV),AV.fl [.int .i64,.int .i64] ([]:List AV)],AV.fl [.sl [.int .i64]] ([]:List AV),AV.fl [.int .i64] ([]:List AV)])
 else (ro (runW (R29_0 a2) (((a2.length:Int) - 0:Int).toNat+1) (0,(v44_0 a0),(v44_1 a0),(v44_2 a0),([]:List AV),([]:List AV),ya,yb,yc)) none (fun p33=>some (AV.tup [AV.agg [AV.fl [.int .i64] p33.1,AV.fl [.int .i64] p33.2.1,AV.fl [.int .i64,.int .i64] p33.2.2.1],AV.fl [.sl [.int .i64]] p33.2.2.2.1,AV.fl [.int .i64] p33.2.2.2.2.1]))))
 else none)))
 else none)
 else none):=by kernel_rfl
def m29:TModel
 | [.sl g0 a0,.agg [.int .i64 ya,.int .i64 yb,.int .i64 yc],.sl g1 a2]=>bif ctsEq g0 ([.int .i64]) && ctsEq g1 ([.int .i64,.int .i64]) then some (q29 a0 ya yb yc a2,AV.tup [AV.agg [AV.fl [.int .i64] (v29_0 a0 ya yb yc a2),AV.fl [.int .i64] (v29_1 a0 ya yb yc a2),AV.fl [.int .i64,.int .i64] (v29_2 a0 ya yb yc a2)],AV.fl [.sl [.int .i64]] (v29_3 a0 ya yb yc a2),AV.fl [.int .i64] (v29_4 a0 ya yb yc a2)]) else none
 | _=>none
theorem k29:Known Tryz.prog 29:=⟨Tryz.f29,Tryz.func29,by kernel_rfl,by kernel_rfl⟩
theorem meets29:Meets Tryz.prog 29 m29:=by
 refine meet (f:=Tryz.f29) (l:=[(0,sub [1,1,1,1,1,1,0,1,0,0] (body Tryz.f29))]) (hs:=[(29,0,[2,6,9,10,11,12,13]),(29,999,[6,7,8]),(29,1000,[6,9,10,11]),(29,1001,[2,6,9,10,11,12,13])]) (ts:=[(36,m36),(37,m37),(38,m38),(44,m44),(45,m45)]) (ws:=[]) (is:=[]) (ls:=[(29,0,l29_0)]) (lvl:=0) mixed k29 Tryz.func29 (by kernel_rfl) (loops_cons ok29_0 noLoop) (allT_cons meets36 (allT_cons meets37 (allT_cons meets38 (allT_cons meets44 (allT_cons meets45 allT_nil))))) allM_nil noI fun w xs us r hl hv h=>?_
 unfold m29 at h
 split at h
 ·rename_i g0 a0 ya yb yc g1 a2
  obtain ⟨hg,h⟩:=bif_pair h
  simp only [Bool.and_eq_true] at hg
  obtain ⟨q0,q1⟩:=hg
  obtain rfl:=ctsEq_eq _ _ q0
  obtain rfl:=ctsEq_eq _ _ q1
  obtain ⟨h1,rfl⟩:=pair_inj h
  exact (e29 a0 ya yb yc a2).trans ((brL (brL (br (fun b=>some (AV.tup [AV.agg [AV.fl [.int .i64] (bif b then ([]:List AV) else (bif !(v37_0 ya yb yc) then ([]:List AV) else (bif !(v38_0 a2) then ([]:List AV) else (ro (runW (R29_0 a2) (((a2.length:Int) - 0:Int).toNat+1) (0,(v44_0 a0),(v44_1 a0),(v44_2 a0),([]:List AV),([]:List AV),ya,yb,yc)) [] (fun p33=>p33.1))))),AV.fl [.int .i64] (bif b then ([]:List AV) else (bif !(v37_0 ya yb yc) then ([]:List AV) else (bif !(v38_0 a2) then ([]:List AV) else (ro (runW (R29_0 a2) (((a2.length:Int) - 0:Int).toNat+1) (0,(v44_0 a0),(v44_1 a0),(v44_2 a0),([]:List AV),([]:List AV),ya,yb,yc)) [] (fun p33=>p33.2.1))))),AV.fl [.int .i64,.int .i64] (bif b then ([]:List AV) else (bif !(v37_0 ya yb yc) then ([]:List AV) else (bif !(v38_0 a2) then ([]:List AV) else (ro (runW (R29_0 a2) (((a2.length:Int) - 0:Int).toNat+1) (0,(v44_0 a0),(v44_1 a0),(v44_2 a0),([]:List AV),([]:List AV),ya,yb,yc)) [] (fun p33=>p33.2.2.1)))))],AV.fl [.sl [.int .i64]] (bif b then ([]:List AV) else (bif !(v37_0 ya yb yc) then ([]:List AV) else (bif !(v38_0 a2) then ([]:List AV) else (ro (runW (R29_0 a2) (((a2.length:Int) - 0:Int).toNat+1) (0,(v44_0 a0),(v44_1 a0),(v44_2 a0),([]:List AV),([]:List AV),ya,yb,yc)) [] (fun p33=>p33.2.2.2.1))))),AV.fl [.int .i64] (bif b then ([]:List AV) else (bif !(v37_0 ya yb yc) then ([]:List AV) else (bif !(v38_0 a2) then ([]:List AV) else (ro (runW (R29_0 a2) (((a2.length:Int) - 0:Int).toNat+1) (0,(v44_0 a0),(v44_1 a0),(v44_2 a0),([]:List AV),([]:List AV),ya,yb,yc)) [] (fun p33=>p33.2.2.2.2.1)))))])) (fun _=>rfl) (br (fun b=>some (AV.tup [AV.agg [AV.fl [.int .i64] (bif b then ([]:List AV) else (bif !(v38_0 a2) then ([]:List AV) else (ro (runW (R29_0 a2) (((a2.length:Int) - 0:Int).toNat+1) (0,(v44_0 a0),(v44_1 a0),(v44_2 a0),([]:List AV),([]:List AV),ya,yb,yc)) [] (fun p33=>p33.1)))),AV.fl [.int .i64] (bif b then ([]:List AV) else (bif !(v38_0 a2) then ([]:List AV) else (ro (runW (R29_0 a2) (((a2.length:Int) - 0:Int).toNat+1) (0,(v44_0 a0),(v44_1 a0),(v44_2 a0),([]:List AV),([]:List AV),ya,yb,yc)) [] (fun p33=>p33.2.1)))),AV.fl [.int .i64,.int .i64] (bif b then ([]:List AV) else (bif !(v38_0 a2) then ([]:List AV) else (ro (runW (R29_0 a2) (((a2.length:Int) - 0:Int).toNat+1) (0,(v44_0 a0),(v44_1 a0),(v44_2 a0),([]:List AV),([]:List AV),ya,yb,yc)) [] (fun p33=>p33.2.2.1))))],AV.fl [.sl [.int .i64]] (bif b then ([]:List AV) else (bif !(v38_0 a2) then ([]:List AV) else (ro (runW (R29_0 a2) (((a2.length:Int) - 0:Int).toNat+1) (0,(v44_0 a0),(v44_1 a0),(v44_2 a0),([]:List AV),([]:List AV),ya,yb,yc)) [] (fun p33=>p33.2.2.2.1)))),AV.fl [.int .i64] (bif b then ([]:List AV) else (bif !(v38_0 a2) then ([]:List AV) else (ro (runW (R29_0 a2) (((a2.length:Int) - 0:Int).toNat+1) (0,(v44_0 a0),(v44_1 a0),(v44_2 a0),([]:List AV),([]:List AV),ya,yb,yc)) [] (fun p33=>p33.2.2.2.2.1))))])) (fun _=>rfl) (brL (br (fun b=>some (AV.tup [AV.agg [AV.fl [.int .i64] (bif b then ([]:List AV) else (ro (runW (R29_0 a2) (((a2.length:Int) - 0:Int).toNat+1) (0,(v44_0 a0),(v44_1 a0),(v44_2 a0),([]:List AV),([]:List AV),ya,yb,yc)) [] (fun p33=>p33.1))),AV.fl [.int .i64] (bif b then ([]:List AV) else (ro (runW (R29_0 a2) (((a2.length:Int) - 0:Int).toNat+1) (0,(v44_0 a0),(v44_1 a0),(v44_2 a0),([]:List AV),([]:List AV),ya,yb,yc)) [] (fun p33=>p33.2.1))),AV.fl [.int .i64,.int .i64] (bif b then ([]:List AV) else (ro (runW (R29_0 a2) (((a2.length:Int) - 0:Int).toNat+1) (0,(v44_0 a0),(v44_1 a0),(v44_2 a0),([]:List AV),([]:List AV),ya,yb,yc)) [] (fun p33=>p33.2.2.1)))],AV.fl [.sl [.int .i64]] (bif b then ([]:List AV) else (ro (runW (R29_0 a2) (((a2.length:Int) - 0:Int).toNat+1) (0,(v44_0 a0),(v44_1 a0),(v44_2 a0),([]:List AV),([]:List AV),ya,yb,yc)) [] (fun p33=>p33.2.2.2.1))),AV.fl [.int .i64] (bif b then ([]:List AV) else (ro (runW (R29_0 a2) (((a2.length:Int) - 0:Int).toNat+1) (0,(v44_0 a0),(v44_1 a0),(v44_2 a0),([]:List AV),([]:List AV),ya,yb,yc)) [] (fun p33=>p33.2.2.2.2.1)))])) (fun _=>rfl) (brO (fun o:Option (((List AV) × (List AV) × (List AV) × (List AV) × (List AV) × Int × Int × Int))=>some (AV.tup [AV.agg [AV.fl [.int .i64] (ro o [] (fun p33=>p33.1)),AV.fl [.int .i64] (ro o [] (fun p33=>p33.2.1)),AV.fl [.int .i64,.int .i64] (ro o [] (fun p33=>p33.2.2.1))],AV.fl [.sl [.int .i64]] (ro o [] (fun p33=>p33.2.2.2.1)),AV.fl [.int .i64] (ro o [] (fun p33=>p33.2.2.2.2.1))])) (fun p33=>(fun _=>rfl))))))))) h1)
 ·cases h
def F30_0 (t0:List AV) (t3 t4:Int):Out ((Int × Int)) (Int):=(bif decide (t4<(t0.length:Int)) then (bif (decide (0≤t4) && decide (t4<(t0.length:Int))) then .next (IntKind.i64.wrap (t3+fI (t0.getD t4.toNat .undef) 0),IntKind.i64.wrap (t4+1))
 else .fail)
 else .stop t3)
def R30_0 (t0:List AV):((Int × Int))→Out ((Int × Int)) (Int):=fun s:Int × Int=>F30_0 t0 s.1 s.2
def E30_0 (t0:List AV):((Int × Int))→St:=fun s:Int × Int=>⟨[(0,AV.sl [.int .i64] t0),(3,Ai s.1),(4,Ai s.2)],[]⟩
def K30_0 (k:Kont):(Int)→Option AV:=fun p:Int=>k (.exit 0) ⟨[(3,Ai p)],[]⟩
def l30_0:LModel:=fun _ _ st k=>match st with
 | ⟨[(0,.sl g0 t0),(3,.int .i64 t3),(4,.int .i64 t4)],[]⟩=>bif ctsEq g0 ([.int .i64]) then ro (runW (R30_0 t0) (((t0.length:Int) - t4:Int).toNat+1) (t3,t4)) none (K30_0 k) else none
 | _=>none
noncomputable def c30:Cfg:=cfg Tryz.prog [(30,0,[0,3,4]),(30,999,[2]),(30,1000,[3]),(30,1001,[0,3,4])] [] [] [] [(30,0,l30_0)]
theorem s30_0 (ce:CallE) (t0:List AV) (t3 t4:Int) (next:St→Option AV) (k:Kont):stepA (codeA c30 ce [] 30 0 (sub [1,1,0,1,0,0] (body Tryz.f30))) (normA [] [0,3,4]) next ⟨[(0,AV.sl [.int .i64] t0),(3,Ai t3),(4,Ai t4)],[]⟩ k=(bif decide (t4<(t0.length:Int)) then (bif (decide (0≤t4) && decide (t4<(t0.length:Int))) then next ⟨[(0,AV.sl [.int .i64] t0),(3,Ai (IntKind.i64.wrap (t3+fI (t0.getD t4.toNat .undef) 0))),(4,Ai (IntKind.i64.wrap (t4+1)))],[]⟩
 else none)
 else k (.exit 0) ⟨[(3,Ai t3)],[]⟩):=by kernel_rfl
theorem st30_0 (t0:List AV) (ce:CallE) (k:Kont) (s:(Int × Int)) (next:St→Option AV):stepA (codeA c30 ce [] 30 0 (sub [1,1,0,1,0,0] (body Tryz.f30))) (normA [] [0,3,4]) next ((E30_0 t0) s) k=(R30_0 t0 s).el none (fun s=>next ((E30_0 t0) s)) (K30_0 k):=(s30_0 ce t0 s.1 s.2 next k).trans (by unfold R30_0;unfold F30_0;simp only [el_cond,el_ro,el_sum,el_fail,el_next,el_stop] <;> rfl)
theorem ok30_0 {ce:CallE}:LoopOK c30 ce [] 30 0 (sub [1,1,0,1,0,0] (body Tryz.f30)):=by
 intro m hm st k r h
 obtain rfl:l30_0=m:=Option.some.inj hm
 unfold l30_0 at h
 split at h
 ·rename_i g0 t0 t3 t4
  obtain ⟨hg,h⟩:=bif_some h
  have q0:=hg
  obtain rfl:=ctsEq_eq _ _ q0
  refine ⟨(((t0.length:Int) - t4:Int).toNat+1),?_⟩
  rw [← h]
  exact loop_run (E30_0 t0) (K30_0 k) (st30_0 t0 ce k) _ (t3,t4)
 ·cases h
def q30 (a0:List AV):Bool:=(ro (runW (R30_0 a0) (((a0.length:Int) - 0:Int).toNat+1) (0,0)) false (fun p34=>true))
def v30_0 (a0:List AV):Int:=(ro (runW (R30_0 a0) (((a0.length:Int) - 0:Int).toNat+1) (0,0)) 0 (fun p34=>p34))
theorem e30 (a0:List AV):funA c30 0 30 [AV.sl [.int .i64] a0]=(ro (runW (R30_0 a0) (((a0.length:Int) - 0:Int).toNat+1) (0,0)) none (fun p34=>some (Ai p34))):=by kernel_rfl
def m30:TModel
 | [.sl g0 a0]=>bif ctsEq g0 ([.int .i64]) then some (q30 a0,AV.int .i64 (v30_0 a0)) else none
 | _=>none
theorem k30:Known Tryz.prog 30:=⟨Tryz.f30,Tryz.func30,by kernel_rfl,by kernel_rfl⟩
theorem meets30:Meets Tryz.prog 30 m30:=by
 refine meet (f:=Tryz.f30) (l:=[(0,sub [1,1,0,1,0,0] (body Tryz.f30))]) (hs:=[(30,0,[0,3,4]),(30,999,[2]),(30,1000,[3]),(30,1001,[0,3,4])]) (ts:=[]) (ws:=[]) (is:=[]) (ls:=[(30,0,l30_0)]) (lvl:=0) mixed k30 Tryz.func30 (by kernel_rfl) (loops_cons ok30_0 noLoop) allT_nil allM_nil noI fun w xs us r hl hv h=>?_
 unfold m30 at h
 split at h
 ·rename_i g0 a0
  obtain ⟨hg,h⟩:=bif_pair h
  have q0:=hg
  obtain rfl:=ctsEq_eq _ _ q0
  obtain ⟨h1,rfl⟩:=pair_inj h
  exact (e30 a0).trans ((brO (fun o:Option (Int)=>some (Ai (ro o 0 (fun p34=>p34)))) (fun p34=>(fun _=>rfl))) h1)
 ·cases h
def F52_0 (h0_0 h0_1 h0_2:List AV) (t4:Int) (h1:List AV):Out ((Int × (List AV))) (((List AV))):=(bif decide (t4<(h0_2.length:Int)) then (bif (decide (0≤t4) && decide (t4<(h0_2.length:Int))) then (bif (decide ((h1.length+([AV.int .i64 (fI (h0_2.getD t4.toNat .undef) 1)]).length)*8≤140737488355328) && decide ((h1.length+([AV.int .i64 (fI (h0_2.getD t4.toNat .undef) 1)]).length)≤140737488355328)) then .next (IntKind.i64.wrap (t4+1),h1++([AV.int .i64 (fI (h0_2.getD t4.toNat .undef) 1)]))
 else .fail)
 else .fail)
 else .stop h1)
def R52_0 (h0_0 h0_1 h0_2:List AV):((Int × (List AV)))→Out ((Int × (List AV))) (((List AV))):=fun s:Int × (List AV)=>F52_0 h0_0 h0_1 h0_2 s.1 s.2
def E52_0 (h0_0 h0_1 h0_2:List AV):((Int × (List AV)))→St:=fun s:Int × (List AV)=>⟨[(1,AV.ptr [0,1] 0 0),(3,AV.own [0,3]),(4,Ai s.1)],[([0,1],⟨true,[],[AV.agg [AV.sl [.int .i64] h0_0,AV.sl [.int .i64] h0_1,AV.sl [.int .i64,.int .i64] h0_2]]⟩),([0,3],⟨false,[.int .i64],s.2⟩)]⟩
def K52_0 (h0_0 h0_1 h0_2:List AV) (k:Kont):(((List AV)))→Option AV:=fun p:(List AV)=>k (.exit 0) ⟨[(1,AV.ptr [0,1] 0 0),(3,AV.own [0,3])],[([0,1],⟨true,[],[AV.agg [AV.sl [.int .i64] h0_0,AV.sl [.int .i64] h0_1,AV.sl [.int .i64,.int .i64] h0_2]]⟩),([0,3],⟨false,[.int .i64],p⟩)]⟩
def l52_0:LModel:=fun _ _ st k=>match st with
 | ⟨[(1,.ptr g0 g1 g2),(3,.own g3),(4,.int .i64 t4)],[(g4,⟨true,[],[.agg [.sl g5 h0_0,.sl g6 h0_1,.sl g7 h0_2]]⟩),(g8,⟨false,g9,h1⟩)]⟩=>bif nmEq g0 ([0,1]) && Nat.beq g1 0 && Nat.beq g2 0 && nmEq g3 ([0,3]) && nmEq g4 ([0,1]) && ctsEq g5 ([.int .i64]) && ctsEq g6 ([.int .i64]) && ctsEq g7 ([.int .i64,.int .i64]) && nmEq g8 ([0,3]) && ctsEq g9 ([.int .i64]) then ro (runW (R52_0 h0_0 h0_1 h0_2) (((h0_2.length:Int) - t4:Int).toNat+1) (t4,h1)) none (K52_0 h0_0 h0_1 h0_2 k) else none
 | _=>none
noncomputable def c52:Cfg:=cfg Tryz.prog [(52,0,[1,3,4]),(52,999,[2]),(52,1000,[1,3]),(52,1001,[1,3,4])] [] [] [] [(52,0,l52_0)]
theorem s52_0 (ce:CallE) (t4:Int) (h0_0 h0_1 h0_2 h1:List AV) (next:St→Option AV) (k:Kont):stepA (codeA c52 ce [] 52 0 (sub [1,1,0,1,0,0] (body Tryz.f52))) (normA [] [1,3,4]) next ⟨[(1,AV.ptr [0,1] 0 0),(3,AV.own [0,3]),(4,Ai t4)],[([0,1],⟨true,[],[AV.agg [AV.sl [.int .i64] h0_0,AV.sl [.int .i64] h0_1,AV.sl [.int .i64,.int .i64] h0_2]]⟩),([0,3],⟨false,[.int .i64],h1⟩)]⟩ k=(bif decide (t4<(h0_2.length:Int)) then (bif (decide (0≤t4) && decide (t4<(h0_2.length:Int))) then (bif (decide ((h1.length+([Ai (fI (h0_2.getD t4.toNat .undef) 1)]).length)*8≤140737488355328) && decide ((h1.length+([Ai (fI (h0_2.getD t4.toNat .undef) 1)]).length)≤140737488355328)) then next ⟨[(1,AV.ptr [0,1] 0 0),(3,AV.own [0,3]),(4,Ai (IntKind.i64.wrap (t4+1)))],[([0,1],⟨true,[],[AV.agg [AV.sl [.int .i64] h0_0,AV.sl [.int .i64] h0_1,AV.sl [.int .i64,.int .i64] h0_2]]⟩),([0,3],⟨false,[.int .i64],h1++([Ai (fI (h0_2.getD t4.toNat .undef) 1)])⟩)]⟩
 else none)
 else none)
 else k (.exit 0) ⟨[(1,AV.ptr [0,1] 0 0),(3,AV.own [0,3])],[([0,1],⟨true,[],[AV.agg [AV.sl [.int .i64] h0_0,AV.sl [.int .i64] h0_1,AV.sl [.int .i64,.int .i64] h0_2]]⟩),([0,3],⟨false,[.int .i64],h1⟩)]⟩):=by kernel_rfl
theorem st52_0 (h0_0 h0_1 h0_2:List AV) (ce:CallE) (k:Kont) (s:(Int × (List AV))) (next:St→Option AV):stepA (codeA c52 ce [] 52 0 (sub [1,1,0,1,0,0] (body Tryz.f52))) (normA [] [1,3,4]) next ((E52_0 h0_0 h0_1 h0_2) s) k=(R52_0 h0_0 h0_1 h0_2 s).el none (fun s=>next ((E52_0 h0_0 h0_1 h0_2) s)) (K52_0 h0_0 h0_1 h0_2 k):=(s52_0 ce s.1 h0_0 h0_1 h0_2 s.2 next k).trans (by unfold R52_0;unfold F52_0;simp only [el_cond,el_ro,el_sum,el_fail,el_next,el_stop] <;> rfl)
theorem ok52_0 {ce:CallE}:LoopOK c52 ce [] 52 0 (sub [1,1,0,1,0,0] (body Tryz.f52)):=by
 intro m hm st k r h
 obtain rfl:l52_0=m:=Option.some.inj hm
 unfold l52_0 at h
 split at h
 ·rename_i g0 g1 g2 g3 t4 g4 g5 h0_0 g6 h0_1 g7 h0_2 g8 g9 h1
  obtain ⟨hg,h⟩:=bif_some h
  simp only [Bool.and_eq_true] at hg
  obtain ⟨⟨⟨⟨⟨⟨⟨⟨⟨q0,q1⟩,q2⟩,q3⟩,q4⟩,q5⟩,q6⟩,q7⟩,q8⟩,q9⟩:=hg
  obtain rfl:=(nmEq_iff _ _).1 q0
  obtain rfl:=Nat.eq_of_beq_eq_true q1
  obtain rfl:=Nat.eq_of_beq_eq_true q2
  obtain rfl:=(nmEq_iff _ _).1 q3
  obtain rfl:=(nmEq_iff _ _).1 q4
  obtain rfl:=ctsEq_eq _ _ q5
  obtain rfl:=ctsEq_eq _ _ q6
  obtain rfl:=ctsEq_eq _ _ q7
  obtain rfl:=(nmEq_iff _ _).1 q8
  obtain rfl:=ctsEq_eq _ _ q9
  refine ⟨(((h0_2.length:Int) - t4:Int).toNat+1),?_⟩
  rw [← h]
  exact loop_run (E52_0 h0_0 h0_1 h0_2) (K52_0 h0_0 h0_1 h0_2 k) (st52_0 h0_0 h0_1 h0_2 ce k) _ (t4,h1)
 ·cases h
def q52 (xa xb xc:List AV):Bool:=(ro (runW (R52_0 xa xb xc) (((xc.length:Int) - 0:Int).toNat+1) (0,([]:List AV))) false (fun p35=>(decide ((p35.length+([AV.int .i64 (xa.length:Int)]).length)*8≤140737488355328) && decide ((p35.length+([AV.int .i64 (xa.length:Int)]).length)≤140737488355328))))
def v52_0 (xa xb xc:List AV):List AV:=(ro (runW (R52_0 xa xb xc) (((xc.length:Int) - 0:Int).toNat+1) (0,([]:List AV))) [] (fun p35=>p35++([AV.int .i64 (xa.length:Int)])))
theorem e52 (xa xb xc:List AV):funA c52 0 52 [AV.agg [AV.sl [.int .i64] xa,AV.sl [.int .i64] xb,AV.sl [.int .i64,.int .i64] xc]]=(ro (runW (R52_0 xa xb xc) (((xc.length:Int) - 0:Int).toNat+1) (0,([]:List AV))) none (fun p35=>(bif (decide ((p35.length+([Ai (xa.length:Int)]).length)*8≤140737488355328) && decide ((p35.length+([Ai (xa.length:Int)]).length)≤140737488355328)) then some (AV.fl [.int .i64] (p35++([Ai (xa.length:Int)])))
 else none))):=by kernel_rfl
def m52:TModel
 | [.agg [.sl g0 xa,.sl g1 xb,.sl g2 xc]]=>bif ctsEq g0 ([.int .i64]) && ctsEq g1 ([.int .i64]) && ctsEq g2 ([.int .i64,.int .i64]) then some (q52 xa xb xc,AV.fl [.int .i64] (v52_0 xa xb xc)) else none
 | _=>none
theorem k52:Known Tryz.prog 52:=⟨Tryz.f52,Tryz.func52,by kernel_rfl,by kernel_rfl⟩
theorem meets52:Meets Tryz.prog 52 m52:=by
 refine meet (f:=Tryz.f52) (l:=[(0,sub [1,1,0,1,0,0] (body Tryz.f52))]) (hs:=[(52,0,[1,3,4]),(52,999,[2]),(52,1000,[1,3]),(52,1001,[1,3,4])]) (ts:=[]) (ws:=[]) (is:=[]) (ls:=[(52,0,l52_0)]) (lvl:=0) mixed k52 Tryz.func52 (by kernel_rfl) (loops_cons ok52_0 noLoop) allT_nil allM_nil noI fun w xs us r hl hv h=>?_
 unfold m52 at h
 split at h
 ·rename_i g0 xa g1 xb g2 xc
  obtain ⟨hg,h⟩:=bif_pair h
  simp only [Bool.and_eq_true] at hg
  obtain ⟨⟨q0,q1⟩,q2⟩:=hg
  obtain rfl:=ctsEq_eq _ _ q0
  obtain rfl:=ctsEq_eq _ _ q1
  obtain rfl:=ctsEq_eq _ _ q2
  obtain ⟨h1,rfl⟩:=pair_inj h
  exact (e52 xa xb xc).trans ((brO (fun o:Option (((List AV)))=>some (AV.fl [.int .i64] (ro o [] (fun p35=>p35++([Ai (xa.length:Int)]))))) (fun p35=>(brL1 (fun _=>rfl)))) h1)
 ·cases h
def F39_0 (h0_0 h0_1 h0_2 h1:List AV) (t3 t4 t6:Int):Out ((Int × Int × Int)) (Int):=(bif decide (t6<(h1.length:Int)) then (bif q53 h0_0 h0_1 h0_2 then (bif (v53_0 h0_0 h0_1 h0_2) then (bif (decide (0≤t6) && decide (t6<(h1.length:Int))) then (bif decide (fI (h1.getD t6.toNat .undef) 0 > t4) then (bif (decide (0≤t6) && decide (t6<(h1.length:Int))) then .next (IntKind.i64.wrap (t3+1),fI (h1.getD t6.toNat .undef) 0,IntKind.i64.wrap (t6+1))
 else .fail)
 else (bif (decide (0≤t6) && decide (t6<(h1.length:Int))) then .next (t3,fI (h1.getD t6.toNat .undef) 0,IntKind.i64.wrap (t6+1))
 else .fail))
 else .fail)
 else .stop t3)
 else .fail)
 else .stop t3)
def R39_0 (h0_0 h0_1 h0_2 h1:List AV):((Int × Int × Int))→Out ((Int × Int × Int)) (Int):=fun s:Int × Int × Int=>F39_0 h0_0 h0_1 h0_2 h1 s.1 s.2.1 s.2.2
def E39_0 (h0_0 h0_1 h0_2 h1:List AV):((Int × Int × Int))→St:=fun s:Int × Int × Int=>⟨[(1,AV.ptr [0,1] 0 0),(3,Ai s.1),(4,Ai s.2.1),(5,AV.own [0,5]),(6,Ai s.2.2)],[([0,1],⟨true,[],[AV.agg [AV.sl [.int .i64] h0_0,AV.sl [.int .i64] h0_1,AV.sl [.int .i64,.int .i64] h0_2]]⟩),([0,5],⟨false,[.int .i64],h1⟩)]⟩
def K39_0 (h0_0 h0_1 h0_2 h1:List AV) (k:Kont):(Int)→Option AV:=fun p:Int=>k (.exit 0) ⟨[(3,Ai p)],[([0,1],⟨true,[],[AV.agg [AV.sl [.int .i64] h0_0,AV.sl [.int .i64] h0_1,AV.sl [.int .i64,.int .i64] h0_2]]⟩),([0,5],⟨false,[.int .i64],h1⟩)]⟩
def l39_0:LModel:=fun _ _ st k=>match st with
 | ⟨[(1,.ptr g0 g1 g2),(3,.int .i64 t3),(4,.int .i64 t4),(5,.own g3),(6,.int .i64 t6)],[(g4,⟨true,[],[.agg [.sl g5 h0_0,.sl g6 h0_1,.sl g7 h0_2]]⟩),(g8,⟨false,g9,h1⟩)]⟩=>bif nmEq g0 ([0,1]) && Nat.beq g1 0 && Nat.beq g2 0 && nmEq g3 ([0,5]) && nmEq g4 ([0,1]) && ctsEq g5 ([.int .i64]) && ctsEq g6 ([.int .i64]) && ctsEq g7 ([.int .i64,.int .i64]) && nmEq g8 ([0,5]) && ctsEq g9 ([.int .i64]) then ro (runW (R39_0 h0_0 h0_1 h0_2 h1) (((h1.length:Int) - t6:Int).toNat+1) (t3,t4,t6)) none (K39_0 h0_0 h0_1 h0_2 h1 k) else none
 | _=>none
noncomputable def c39:Cfg:=cfg Tryz.prog [(39,0,[1,3,4,5,6]),(39,999,[2]),(39,1000,[3]),(39,1001,[1,3,4,5,6])] [(52,m52),(53,m53)] [] [] [(39,0,l39_0)]
theorem s39_0 (ce:CallE) (t3 t4 t6:Int) (h0_0 h0_1 h0_2 h1:List AV) (next:St→Option AV) (k:Kont):stepA (codeA c39 ce [] 39 0 (sub [1,1,1,1,0,1,0,0] (body Tryz.f39))) (normA [] [1,3,4,5,6]) next ⟨[(1,AV.ptr [0,1] 0 0),(3,Ai t3),(4,Ai t4),(5,AV.own [0,5]),(6,Ai t6)],[([0,1],⟨true,[],[AV.agg [AV.sl [.int .i64] h0_0,AV.sl [.int .i64] h0_1,AV.sl [.int .i64,.int .i64] h0_2]]⟩),([0,5],⟨false,[.int .i64],h1⟩)]⟩ k=(bif decide (t6<(h1.length:Int)) then (bif q53 h0_0 h0_1 h0_2 then (bif (v53_0 h0_0 h0_1 h0_2) then (bif (decide (0≤t6) && decide (t6<(h1.length:Int))) then (bif decide (fI (h1.getD t6.toNat .undef) 0 > t4) then (bif (decide (0≤t6) && decide (t6<(h1.length:Int))) then next ⟨[(1,AV.ptr [0,1] 0 0),(3,Ai (IntKind.i64.wrap (t3+1))),(4,Ai (fI (h1.getD t6.toNat .undef) 0)),(5,AV.own [0,5]),(6,Ai (IntKind.i64.wrap (t6+1)))],[([0,1],⟨true,[],[AV.agg [AV.sl [.int .i64] h0_0,AV.sl [.int .i64] h0_1,AV.sl [.int .i64,.int .i64] h0_2]]⟩),([0,5],⟨false,[.int .i64],h1⟩)]⟩
 else none)
 else (bif (decide (0≤t6) && decide (t6<(h1.length:Int))) then next ⟨[(1,AV.ptr [0,1] 0 0),(3,Ai t3),(4,Ai (fI (h1.getD t6.toNat .undef) 0)),(5,AV.own [0,5]),(6,Ai (IntKind.i64.wrap (t6+1)))],[([0,1],⟨true,[],[AV.agg [AV.sl [.int .i64] h0_0,AV.sl [.int .i64] h0_1,AV.sl [.int .i64,.int .i64] h0_2]]⟩),([0,5],⟨false,[.int .i64],h1⟩)]⟩
 else none))
 else none)
 else k (.exit 0) ⟨[(3,Ai t3)],[([0,1],⟨true,[],[AV.agg [AV.sl [.int .i64] h0_0,AV.sl [.int .i64] h0_1,AV.sl [.int .i64,.int .i64] h0_2]]⟩),([0,5],⟨false,[.int .i64],h1⟩)]⟩)
 else none)
 else k (.exit 0) ⟨[(3,Ai t3)],[([0,1],⟨true,[],[AV.agg [AV.sl [.int .i64] h0_0,AV.sl [.int .i64] h0_1,AV.sl [.int .i64,.int .i64] h0_2]]⟩),([0,5],⟨false,[.int .i64],h1⟩)]⟩):=by kernel_rfl
theorem st39_0 (h0_0 h0_1 h0_2 h1:List AV) (ce:CallE) (k:Kont) (s:(Int × Int × Int)) (next:St→Option AV):stepA (codeA c39 ce [] 39 0 (sub [1,1,1,1,0,1,0,0] (body Tryz.f39))) (normA [] [1,3,4,5,6]) next ((E39_0 h0_0 h0_1 h0_2 h1) s) k=(R39_0 h0_0 h0_1 h0_2 h1 s).el none (fun s=>next ((E39_0 h0_0 h0_1 h0_2 h1) s)) (K39_0 h0_0 h0_1 h0_2 h1 k):=(s39_0 ce s.1 s.2.1 s.2.2 h0_0 h0_1 h0_2 h1 next k).trans (by unfold R39_0;unfold F39_0;simp only [el_cond,el_ro,el_sum,el_fail,el_next,el_stop] <;> rfl)
theorem ok39_0 {ce:CallE}:LoopOK c39 ce [] 39 0 (sub [1,1,1,1,0,1,0,0] (body Tryz.f39)):=by
 intro m hm st k r h
 obtain rfl:l39_0=m:=Option.some.inj hm
 unfold l39_0 at h
 split at h
 ·rename_i g0 g1 g2 t3 t4 g3 t6 g4 g5 h0_0 g6 h0_1 g7 h0_2 g8 g9 h1
  obtain ⟨hg,h⟩:=bif_some h
  simp only [Bool.and_eq_true] at hg
  obtain ⟨⟨⟨⟨⟨⟨⟨⟨⟨q0,q1⟩,q2⟩,q3⟩,q4⟩,q5⟩,q6⟩,q7⟩,q8⟩,q9⟩:=hg
  obtain rfl:=(nmEq_iff _ _).1 q0
  obtain rfl:=Nat.eq_of_beq_eq_true q1
  obtain rfl:=Nat.eq_of_beq_eq_true q2
  obtain rfl:=(nmEq_iff _ _).1 q3
  obtain rfl:=(nmEq_iff _ _).1 q4
  obtain rfl:=ctsEq_eq _ _ q5
  obtain rfl:=ctsEq_eq _ _ q6
  obtain rfl:=ctsEq_eq _ _ q7
  obtain rfl:=(nmEq_iff _ _).1 q8
  obtain rfl:=ctsEq_eq _ _ q9
  refine ⟨(((h1.length:Int) - t6:Int).toNat+1),?_⟩
  rw [← h]
  exact loop_run (E39_0 h0_0 h0_1 h0_2 h1) (K39_0 h0_0 h0_1 h0_2 h1 k) (st39_0 h0_0 h0_1 h0_2 h1 ce k) _ (t3,t4,t6)
 ·cases h
def q39 (xa xb xc:List AV):Bool:=(q52 xa xb xc && (ro (runW (R39_0 xa xb xc (v52_0 xa xb xc)) ((((v52_0 xa xb xc).length:Int) - 0:Int).toNat+1) (0,0,0)) false (fun p36=>true)))
def v39_0 (xa xb xc:List AV):Int:=(ro (runW (R39_0 xa xb xc (v52_0 xa xb xc)) ((((v52_0 xa xb xc).length:Int) - 0:Int).toNat+1) (0,0,0)) 0 (fun p36=>p36))
theorem e39 (xa xb xc:List AV):funA c39 0 39 [AV.agg [AV.sl [.int .i64] xa,AV.sl [.int .i64] xb,AV.sl [.int .i64,.int .i64] xc]]=(bif q52 xa xb xc then (ro (runW (R39_0 xa xb xc (v52_0 xa xb xc)) ((((v52_0 xa xb xc).length:Int) - 0:Int).toNat+1) (0,0,0)) none (fun p36=>some (Ai p36)))
 else none):=by kernel_rfl
def m39:TModel
 | [.agg [.sl g0 xa,.sl g1 xb,.sl g2 xc]]=>bif ctsEq g0 ([.int .i64]) && ctsEq g1 ([.int .i64]) && ctsEq g2 ([.int .i64,.int .i64]) then some (q39 xa xb xc,AV.int .i64 (v39_0 xa xb xc)) else none
 | _=>none
theorem k39:Known Tryz.prog 39:=⟨Tryz.f39,Tryz.func39,by kernel_rfl,by kernel_rfl⟩
theorem meets39:Meets Tryz.prog 39 m39:=by
 refine meet (f:=Tryz.f39) (l:=[(0,sub [1,1,1,1,0,1,0,0] (body Tryz.f39))]) (hs:=[(39,0,[1,3,4,5,6]),(39,999,[2]),(39,1000,[3]),(39,1001,[1,3,4,5,6])]) (ts:=[(52,m52),(53,m53)]) (ws:=[]) (is:=[]) (ls:=[(39,0,l39_0)]) (lvl:=0) mixed k39 Tryz.func39 (by kernel_rfl) (loops_cons ok39_0 noLoop) (allT_cons meets52 (allT_cons meets53 allT_nil)) allM_nil noI fun w xs us r hl hv h=>?_
 unfold m39 at h
 split at h
 ·rename_i g0 xa g1 xb g2 xc
  obtain ⟨hg,h⟩:=bif_pair h
  simp only [Bool.and_eq_true] at hg
  obtain ⟨⟨q0,q1⟩,q2⟩:=hg
  obtain rfl:=ctsEq_eq _ _ q0
  obtain rfl:=ctsEq_eq _ _ q1
  obtain rfl:=ctsEq_eq _ _ q2
  obtain ⟨h1,rfl⟩:=pair_inj h
  exact (e39 xa xb xc).trans ((brL (brO (fun o:Option (Int)=>some (Ai (ro o 0 (fun p36=>p36)))) (fun p36=>(fun _=>rfl)))) h1)
 ·cases h
def F40_0 (h0_0 h0_1 h0_2 h1:List AV) (t3 t4 t6:Int):Out ((Int × Int × Int)) (Int):=(bif decide (t6<(h1.length:Int)) then (bif q53 h0_0 h0_1 h0_2 then (bif (v53_0 h0_0 h0_1 h0_2) then (bif (decide (0≤t6) && decide (t6<(h1.length:Int))) then (bif (decide (0≤t6) && decide (t6<(h1.length:Int))) then .next ((if IntKind.i64.wrap (fI (h1.getD t6.toNat .undef) 0 - t4) > t3 then IntKind.i64.wrap (fI (h1.getD t6.toNat .undef) 0 - t4) else t3),fI (h1.getD t6.toNat .undef) 0,IntKind.i64.wrap (t6+1))
 else .fail)
 else .fail)
 else .stop t3)
 else .fail)
 else .stop t3)
def R40_0 (h0_0 h0_1 h0_2 h1:List AV):((Int × Int × Int))→Out ((Int × Int × Int)) (Int):=fun s:Int × Int × Int=>F40_0 h0_0 h0_1 h0_2 h1 s.1 s.2.1 s.2.2
def E40_0 (h0_0 h0_1 h0_2 h1:List AV):((Int × Int × Int))→St:=fun s:Int × Int × Int=>⟨[(1,AV.ptr [0,1] 0 0),(3,Ai s.1),(4,Ai s.2.1),(5,AV.own [0,5]),(6,Ai s.2.2)],[([0,1],⟨true,[],[AV.agg [AV.sl [.int .i64] h0_0,AV.sl [.int .i64] h0_1,AV.sl [.int .i64,.int .i64] h0_2]]⟩),([0,5],⟨false,[.int .i64],h1⟩)]⟩
def K40_0 (h0_0 h0_1 h0_2 h1:List AV) (k:Kont):(Int)→Option AV:=fun p:Int=>k (.exit 0) ⟨[(3,Ai p)],[([0,1],⟨true,[],[AV.agg [AV.sl [.int .i64] h0_0,AV.sl [.int .i64] h0_1,AV.sl [.int .i64,.int .i64] h0_2]]⟩),([0,5],⟨false,[.int .i64],h1⟩)]⟩
def l40_0:LModel:=fun _ _ st k=>match st with
 | ⟨[(1,.ptr g0 g1 g2),(3,.int .i64 t3),(4,.int .i64 t4),(5,.own g3),(6,.int .i64 t6)],[(g4,⟨true,[],[.agg [.sl g5 h0_0,.sl g6 h0_1,.sl g7 h0_2]]⟩),(g8,⟨false,g9,h1⟩)]⟩=>bif nmEq g0 ([0,1]) && Nat.beq g1 0 && Nat.beq g2 0 && nmEq g3 ([0,5]) && nmEq g4 ([0,1]) && ctsEq g5 ([.int .i64]) && ctsEq g6 ([.int .i64]) && ctsEq g7 ([.int .i64,.int .i64]) && nmEq g8 ([0,5]) && ctsEq g9 ([.int .i64]) then ro (runW (R40_0 h0_0 h0_1 h0_2 h1) (((h1.length:Int) - t6:Int).toNat+1) (t3,t4,t6)) none (K40_0 h0_0 h0_1 h0_2 h1 k) else none
 | _=>none
noncomputable def c40:Cfg:=cfg Tryz.prog [(40,0,[1,3,4,5,6]),(40,999,[2]),(40,1000,[3]),(40,1001,[1,3,4,5,6])] [(52,m52),(53,m53)] [] [] [(40,0,l40_0)]
theorem s40_0 (ce:CallE) (t3 t4 t6:Int) (h0_0 h0_1 h0_2 h1:List AV) (next:St→Option AV) (k:Kont):stepA (codeA c40 ce [] 40 0 (sub [1,1,1,1,0,1,0,0] (body Tryz.f40))) (normA [] [1,3,4,5,6]) next ⟨[(1,AV.ptr [0,1] 0 0),(3,Ai t3),(4,Ai t4),(5,AV.own [0,5]),(6,Ai t6)],[([0,1],⟨true,[],[AV.agg [AV.sl [.int .i64] h0_0,AV.sl [.int .i64] h0_1,AV.sl [.int .i64,.int .i64] h0_2]]⟩),([0,5],⟨false,[.int .i64],h1⟩)]⟩ k=(bif decide (t6<(h1.length:Int)) then (bif q53 h0_0 h0_1 h0_2 then (bif (v53_0 h0_0 h0_1 h0_2) then (bif (decide (0≤t6) && decide (t6<(h1.length:Int))) then (bif (decide (0≤t6) && decide (t6<(h1.length:Int))) then next ⟨[(1,AV.ptr [0,1] 0 0),(3,Ai (if IntKind.i64.wrap (fI (h1.getD t6.toNat .undef) 0 - t4) > t3 then IntKind.i64.wrap (fI (h1.getD t6.toNat .undef) 0 - t4) else t3)),(4,Ai (fI (h1.getD t6.toNat .undef) 0)),(5,AV.own [0,5]),(6,Ai (IntKind.i64.wrap (t6+1)))],[([0,1],⟨true,[],[AV.agg [AV.sl [.int .i64] h0_0,AV.sl [.int .i64] h0_1,AV.sl [.int .i64,.int .i64] h0_2]]⟩),([0,5],⟨false,[.int .i64],h1⟩)]⟩
 else none)
 else none)
 else k (.exit 0) ⟨[(3,Ai t3)],[([0,1],⟨true,[],[AV.agg [AV.sl [.int .i64] h0_0,AV.sl [.int .i64] h0_1,AV.sl [.int .i64,.int .i64] h0_2]]⟩),([0,5],⟨false,[.int .i64],h1⟩)]⟩)
 else none)
 else k (.exit 0) ⟨[(3,Ai t3)],[([0,1],⟨true,[],[AV.agg [AV.sl [.int .i64] h0_0,AV.sl [.int .i64] h0_1,AV.sl [.int .i64,.int .i64] h0_2]]⟩),([0,5],⟨false,[.int .i64],h1⟩)]⟩):=by kernel_rfl
theorem st40_0 (h0_0 h0_1 h0_2 h1:List AV) (ce:CallE) (k:Kont) (s:(Int × Int × Int)) (next:St→Option AV):stepA (codeA c40 ce [] 40 0 (sub [1,1,1,1,0,1,0,0] (body Tryz.f40))) (normA [] [1,3,4,5,6]) next ((E40_0 h0_0 h0_1 h0_2 h1) s) k=(R40_0 h0_0 h0_1 h0_2 h1 s).el none (fun s=>next ((E40_0 h0_0 h0_1 h0_2 h1) s)) (K40_0 h0_0 h0_1 h0_2 h1 k):=(s40_0 ce s.1 s.2.1 s.2.2 h0_0 h0_1 h0_2 h1 next k).trans (by unfold R40_0;unfold F40_0;simp only [el_cond,el_ro,el_sum,el_fail,el_next,el_stop] <;> rfl)
theorem ok40_0 {ce:CallE}:LoopOK c40 ce [] 40 0 (sub [1,1,1,1,0,1,0,0] (body Tryz.f40)):=by
 intro m hm st k r h
 obtain rfl:l40_0=m:=Option.some.inj hm
 unfold l40_0 at h
 split at h
 ·rename_i g0 g1 g2 t3 t4 g3 t6 g4 g5 h0_0 g6 h0_1 g7 h0_2 g8 g9 h1
  obtain ⟨hg,h⟩:=bif_some h
  simp only [Bool.and_eq_true] at hg
  obtain ⟨⟨⟨⟨⟨⟨⟨⟨⟨q0,q1⟩,q2⟩,q3⟩,q4⟩,q5⟩,q6⟩,q7⟩,q8⟩,q9⟩:=hg
  obtain rfl:=(nmEq_iff _ _).1 q0
  obtain rfl:=Nat.eq_of_beq_eq_true q1
  obtain rfl:=Nat.eq_of_beq_eq_true q2
  obtain rfl:=(nmEq_iff _ _).1 q3
  obtain rfl:=(nmEq_iff _ _).1 q4
  obtain rfl:=ctsEq_eq _ _ q5
  obtain rfl:=ctsEq_eq _ _ q6
  obtain rfl:=ctsEq_eq _ _ q7
  obtain rfl:=(nmEq_iff _ _).1 q8
  obtain rfl:=ctsEq_eq _ _ q9
  refine ⟨(((h1.length:Int) - t6:Int).toNat+1),?_⟩
  rw [← h]
  exact loop_run (E40_0 h0_0 h0_1 h0_2 h1) (K40_0 h0_0 h0_1 h0_2 h1 k) (st40_0 h0_0 h0_1 h0_2 h1 ce k) _ (t3,t4,t6)
 ·cases h
def q40 (xa xb xc:List AV):Bool:=(q52 xa xb xc && (ro (runW (R40_0 xa xb xc (v52_0 xa xb xc)) ((((v52_0 xa xb xc).length:Int) - 0:Int).toNat+1) (0,0,0)) false (fun p37=>true)))
def v40_0 (xa xb xc:List AV):Int:=(ro (runW (R40_0 xa xb xc (v52_0 xa xb xc)) ((((v52_0 xa xb xc).length:Int) - 0:Int).toNat+1) (0,0,0)) 0 (fun p37=>p37))
theorem e40 (xa xb xc:List AV):funA c40 0 40 [AV.agg [AV.sl [.int .i64] xa,AV.sl [.int .i64] xb,AV.sl [.int .i64,.int .i64] xc]]=(bif q52 xa xb xc then (ro (runW (R40_0 xa xb xc (v52_0 xa xb xc)) ((((v52_0 xa xb xc).length:Int) - 0:Int).toNat+1) (0,0,0)) none (fun p37=>some (Ai p37)))
 else none):=by kernel_rfl
def m40:TModel
 | [.agg [.sl g0 xa,.sl g1 xb,.sl g2 xc]]=>bif ctsEq g0 ([.int .i64]) && ctsEq g1 ([.int .i64]) && ctsEq g2 ([.int .i64,.int .i64]) then some (q40 xa xb xc,AV.int .i64 (v40_0 xa xb xc)) else none
 | _=>none
theorem k40:Known Tryz.prog 40:=⟨Tryz.f40,Tryz.func40,by kernel_rfl,by kernel_rfl⟩
theorem meets40:Meets Tryz.prog 40 m40:=by
 refine meet (f:=Tryz.f40) (l:=[(0,sub [1,1,1,1,0,1,0,0] (body Tryz.f40))]) (hs:=[(40,0,[1,3,4,5,6]),(40,999,[2]),(40,1000,[3]),(40,1001,[1,3,4,5,6])]) (ts:=[(52,m52),(53,m53)]) (ws:=[]) (is:=[]) (ls:=[(40,0,l40_0)]) (lvl:=0) mixed k40 Tryz.func40 (by kernel_rfl) (loops_cons ok40_0 noLoop) (allT_cons meets52 (allT_cons meets53 allT_nil)) allM_nil noI fun w xs us r hl hv h=>?_
 unfold m40 at h
 split at h
 ·rename_i g0 xa g1 xb g2 xc
  obtain ⟨hg,h⟩:=bif_pair h
  simp only [Bool.and_eq_true] at hg
  obtain ⟨⟨q0,q1⟩,q2⟩:=hg
  obtain rfl:=ctsEq_eq _ _ q0
  obtain rfl:=ctsEq_eq _ _ q1
  obtain rfl:=ctsEq_eq _ _ q2
  obtain ⟨h1,rfl⟩:=pair_inj h
  exact (e40 xa xb xc).trans ((brL (brO (fun o:Option (Int)=>some (Ai (ro o 0 (fun p37=>p37)))) (fun p37=>(fun _=>rfl)))) h1)
 ·cases h
def F14_0 (h0_0 h0_1 h0_2 h0_3 h0_4:Int) (h1:List AV) (h2_0 h2_1 h2_3 h2_4 t12 h2_2:Int):Out ((Int × Int)) (Int):=(bif decide (t12<(h1.length:Int)) then (bif (decide (0≤t12) && decide (t12<(h1.length:Int))) then .next (IntKind.i64.wrap (t12+1),(if fI (h1.getD t12.toNat .undef) 0 > h2_2 then fI (h1.getD t12.toNat .undef) 0 else h2_2))
 else .fail)
 else .stop h2_2)
def R14_0 (h0_0 h0_1 h0_2 h0_3 h0_4:Int) (h1:List AV) (h2_0 h2_1 h2_3 h2_4:Int):((Int × Int))→Out ((Int × Int)) (Int):=fun s:Int × Int=>F14_0 h0_0 h0_1 h0_2 h0_3 h0_4 h1 h2_0 h2_1 h2_3 h2_4 s.1 s.2
def E14_0 (h0_0 h0_1 h0_2 h0_3 h0_4:Int) (h1:List AV) (h2_0 h2_1 h2_3 h2_4:Int):((Int × Int))→St:=fun s:Int × Int=>⟨[(6,AV.ptr [0,6] 0 0),(10,AV.own [0,10]),(11,AV.ptr [0,11] 0 0),(12,Ai s.1)],[([0,6],⟨true,[],[AV.agg [Ai h0_0,Ai h0_1,Ai h0_2,Ai h0_3,Ai h0_4]]⟩),([0,10],⟨false,[.int .i64],h1⟩),([0,11],⟨true,[],[AV.agg [Ai h2_0,Ai h2_1,Ai s.2,Ai h2_3,Ai h2_4]]⟩)]⟩
def K14_0 (h0_0 h0_1 h0_2 h0_3 h0_4:Int) (h1:List AV) (h2_0 h2_1 h2_3 h2_4:Int) (k:Kont):(Int)→Option AV:=fun p:Int=>k (.exit 0) ⟨[(6,AV.ptr [0,6] 0 0),(11,AV.ptr [0,11] 0 0)],[([0,6],⟨true,[],[AV.agg [Ai h0_0,Ai h0_1,Ai h0_2,Ai h0_3,Ai h0_4]]⟩),([0,10],⟨false,[.int .i64],h1⟩),([0,11],⟨true,[],[AV.agg [Ai h2_0,Ai h2_1,Ai p,Ai h2_3,Ai h2_4]]⟩)]⟩
def l14_0:LModel:=fun _ _ st k=>match st with
 | ⟨[(6,.ptr g0 g1 g2),(10,.own g3),(11,.ptr g4 g5 g6),(12,.int .i64 t12)],[(g7,⟨true,[],[.agg [.int .i64 h0_0,.int .i64 h0_1,.int .i64 h0_2,.int .i64 h0_3,.int .i64 h0_4]]⟩),(g8,⟨false,g9,h1⟩),(g10,⟨true,[],[.agg [.int .i64 h2_0,.int .i64 h2_1,.int .i64 h2_2,.int .i64 h2_3,.int .i64 h2_4]]⟩)]⟩=>bif nmEq g0 ([0,6]) && Nat.beq g1 0 && Nat.beq g2 0 && nmEq g3 ([0,10]) && nmEq g4 ([0,11]) && Nat.beq g5 0 && Nat.beq g6 0 && nmEq g7 ([0,6]) && nmEq g8 ([0,10]) && ctsEq g9 ([.int .i64]) && nmEq g10 ([0,11]) then ro (runW (R14_0 h0_0 h0_1 h0_2 h0_3 h0_4 h1 h2_0 h2_1 h2_3 h2_4) (((h1.length:Int) - t12:Int).toNat+1) (t12,h2_2)) none (K14_0 h0_0 h0_1 h0_2 h0_3 h0_4 h1 h2_0 h2_1 h2_3 h2_4 k) else none
 | _=>none
noncomputable def c14:Cfg:=cfg Tryz.prog [(14,0,[6,10,11,12]),(14,999,[6,7]),(14,1000,[6,11]),(14,1001,[6,10,11,12])] [(29,m29),(30,m30),(36,m36),(37,m37),(38,m38),(39,m39),(40,m40)] [] [] [(14,0,l14_0)]
theorem s14_0 (ce:CallE) (t12 h0_0 h0_1 h0_2 h0_3 h0_4:Int) (h1:List AV) (h2_0 h2_1 h2_2 h2_3 h2_4:Int) (next:St→Option AV) (k:Kont):stepA (codeA c14 ce [] 14 0 (sub [1,1,1,1,0,1,0,0] (body Tryz.f14))) (normA [] [6,10,11,12]) next ⟨[(6,AV.ptr [0,6] 0 0),(10,AV.own [0,10]),(11,AV.ptr [0,11] 0 0),(12,Ai t12)],[([0,6],⟨true,[],[AV.agg [Ai h0_0,Ai h0_1,Ai h0_2,Ai h0_3,Ai h0_4]]⟩),([0,10],⟨false,[.int .i64],h1⟩),([0,11],⟨true,[],[AV.agg [Ai h2_0,Ai h2_1,Ai h2_2,Ai h2_3,Ai h2_4]]⟩)]⟩ k=(bif decide (t12<(h1.length:Int)) then (bif (decide (0≤t12) && decide (t12<(h1.length:Int))) then next ⟨[(6,AV.ptr [0,6] 0 0),(10,AV.own [0,10]),(11,AV.ptr [0,11] 0 0),(12,Ai (IntKind.i64.wrap (t12+1)))],[([0,6],⟨true,[],[AV.agg [Ai h0_0,Ai h0_1,Ai h0_2,Ai h0_3,Ai h0_4]]⟩),([0,10],⟨false,[.int .i64],h1⟩),([0,11],⟨true,[],[AV.agg [Ai h2_0,Ai h2_1,Ai (if fI (h1.getD t12.toNat .undef) 0 > h2_2 then fI (h1.getD t12.toNat .undef) 0 else h2_2),Ai h2_3,Ai h2_4]]⟩)]⟩
 else none)
 else k (.exit 0) ⟨[(6,AV.ptr [0,6] 0 0),(11,AV.ptr [0,11] 0 0)],[([0,6],⟨true,[],[AV.agg [Ai h0_0,Ai h0_1,Ai h0_2,Ai h0_3,Ai h0_4]]⟩),([0,10],⟨false,[.int .i64],h1⟩),([0,11],⟨true,[],[AV.agg [Ai h2_0,Ai h2_1,Ai h2_2,Ai h2_3,Ai h2_4]]⟩)]⟩):=by kernel_rfl
theorem st14_0 (h0_0 h0_1 h0_2 h0_3 h0_4:Int) (h1:List AV) (h2_0 h2_1 h2_3 h2_4:Int) (ce:CallE) (k:Kont) (s:(Int × Int)) (next:St→Option AV):stepA (codeA c14 ce [] 14 0 (sub [1,1,1,1,0,1,0,0] (body Tryz.f14))) (normA [] [6,10,11,12]) next ((E14_0 h0_0 h0_1 h0_2 h0_3 h0_4 h1 h2_0 h2_1 h2_3 h2_4) s) k=(R14_0 h0_0 h0_1 h0_2 h0_3 h0_4 h1 h2_0 h2_1 h2_3 h2_4 s).el none (fun s=>next ((E14_0 h0_0 h0_1 h0_2 h0_3 h0_4 h1 h2_0 h2_1 h2_3 h2_4) s)) (K14_0 h0_0 h0_1 h0_2 h0_3 h0_4 h1 h2_0 h2_1 h2_3 h2_4 k):=(s14_0 ce s.1 h0_0 h0_1 h0_2 h0_3 h0_4 h1 h2_0 h2_1 s.2 h2_3 h2_4 next k).trans (by unfold R14_0;unfold F14_0;simp only [el_cond,el_ro,el_sum,el_fail,el_next,el_stop] <;> rfl)
theorem ok14_0 {ce:CallE}:LoopOK c14 ce [] 14 0 (sub [1,1,1,1,0,1,0,0] (body Tryz.f14)):=by
 intro m hm st k r h
 obtain rfl:l14_0=m:=Option.some.inj hm
 unfold l14_0 at h
 split at h
 ·rename_i g0 g1 g2 g3 g4 g5 g6 t12 g7 h0_0 h0_1 h0_2 h0_3 h0_4 g8 g9 h1 g10 h2_0 h2_1 h2_2 h2_3 h2_4
  obtain ⟨hg,h⟩:=bif_some h
  simp only [Bool.and_eq_true] at hg
  obtain ⟨⟨⟨⟨⟨⟨⟨⟨⟨⟨q0,q1⟩,q2⟩,q3⟩,q4⟩,q5⟩,q6⟩,q7⟩,q8⟩,q9⟩,q10⟩:=hg
  obtain rfl:=(nmEq_iff _ _).1 q0
  obtain rfl:=Nat.eq_of_beq_eq_true q1
  obtain rfl:=Nat.eq_of_beq_eq_true q2
  obtain rfl:=(nmEq_iff _ _).1 q3
  obtain rfl:=(nmEq_iff _ _).1 q4
  obtain rfl:=Nat.eq_of_beq_eq_true q5
  obtain rfl:=Nat.eq_of_beq_eq_true q6
  obtain rfl:=(nmEq_iff _ _).1 q7
  obtain rfl:=(nmEq_iff _ _).1 q8
  obtain rfl:=ctsEq_eq _ _ q9
  obtain rfl:=(nmEq_iff _ _).1 q10
  refine ⟨(((h1.length:Int) - t12:Int).toNat+1),?_⟩
  rw [← h]
  exact loop_run (E14_0 h0_0 h0_1 h0_2 h0_3 h0_4 h1 h2_0 h2_1 h2_3 h2_4) (K14_0 h0_0 h0_1 h0_2 h0_3 h0_4 h1 h2_0 h2_1 h2_3 h2_4 k) (st14_0 h0_0 h0_1 h0_2 h0_3 h0_4 h1 h2_0 h2_1 h2_3 h2_4 ce k) _ (t12,h2_2)
 ·cases h
def q14 (a0:List AV) (ya yb yc:Int) (a2:List AV):Bool:=(q36 a0 && (bif !(v36_0 a0) then true else (bif !(v37_0 ya yb yc) then true else (q38 a2 && (bif !(v38_0 a2) then true else (q29 a0 ya yb yc a2 && (q30 (v29_4 a0 ya yb yc a2) && (q39 (v29_0 a0 ya yb yc a2) (v29_1 a0 ya yb yc a2) (v29_2 a0 ya yb yc a2) && (q40 (v29_0 a0 ya yb yc a2) (v29_1 a0 ya yb yc a2) (v29_2 a0 ya yb yc a2) && (ro (runW (R14_0 0 0 0 0 0 (v29_4 a0 ya yb yc a2) ya (v30_0 (v29_4 a0 ya yb yc a2)) (v39_0 (v29_0 a0 ya yb yc a2) (v29_1 a0 ya yb yc a2) (v29_2 a0 ya yb yc a2)) (v40_0 (v29_0 a0 ya yb yc a2) (v29_1 a0 ya yb yc a2) (v29_2 a0 ya yb yc a2))) ((((v29_4 a0 ya yb yc a2).length:Int) - 0:Int).toNat+1) (0,0)) false (fun p38=>true)))))))))))
def v14_0 (a0:List AV) (ya yb yc:Int) (a2:List AV):Int:=(bif !(v36_0 a0) then 0 else (bif !(v37_0 ya yb yc) then 0 else (bif !(v38_0 a2) then 0 else ya)))
def v14_1 (a0:List AV) (ya yb yc:Int) (a2:List AV):Int:=(bif !(v36_0 a0) then 0 else (bif !(v37_0 ya yb yc) then 0 else (bif !(v38_0 a2) then 0 else (v30_0 (v29_4 a0 ya yb yc a2)))))
def v14_2 (a0:List AV) (ya yb yc:Int) (a2:List AV):Int:=(bif !(v36_0 a0) then 0 else (bif !(v37_0 ya yb yc) then 0 else (bif !(v38_0 a2) then 0 else (ro (runW (R14_0 0 0 0 0 0 (v29_4 a0 ya yb yc a2) ya (v30_0 (v29_4 a0 ya yb yc a2)) (v39_0 (v29_0 a0 ya yb yc a2) (v29_1 a0 ya yb yc a2) (v29_2 a0 ya yb yc a2)) (v40_0 (v29_0 a0 ya yb yc a2) (v29_1 a0 ya yb yc a2) (v29_2 a0 ya yb yc a2))) ((((v29_4 a0 ya yb yc a2).length:Int) - 0:Int).toNat+1) (0,0)) 0 (fun p38=>p38)))))
def v14_3 (a0:List AV) (ya yb yc:Int) (a2:List AV):Int:=(bif !(v36_0 a0) then 0 else (bif !(v37_0 ya yb yc) then 0 else (bif !(v38_0 a2) then 0 else (v39_0 (v29_0 a0 ya yb yc a2) (v29_1 a0 ya yb yc a2) (v29_2 a0 ya yb yc a2)))))
def v14_4 (a0:List AV) (ya yb yc:Int) (a2:List AV):Int:=(bif !(v36_0 a0) then 0 else (bif !(v37_0 ya yb yc) then 0 else (bif !(v38_0 a2) then 0 else (v40_0 (v29_0 a0 ya yb yc a2) (v29_1 a0 ya yb yc a2) (v29_2 a0 ya yb yc a2)))))
def v14_5 (a0:List AV) (ya yb yc:Int) (a2:List AV):Bool:=(bif !(v36_0 a0) then false else (bif !(v37_0 ya yb yc) then false else (bif !(v38_0 a2) then false else true)))
theorem e14 (a0:List AV) (ya yb yc:Int) (a2:List AV):funA c14 0 14 [AV.sl [.int .i64] a0,AV.agg [Ai ya,Ai yb,Ai yc],AV.sl [.int .i64,.int .i64] a2]=(bif q36 a0 then (bif !(v36_0 a0) then some (AV.tup [AV.agg [Ai 0,Ai 0,Ai 0,Ai 0,Ai 0],AV.bool false])
 else (bif !(v37_0 ya yb yc) then some (AV.tup [AV.agg [Ai 0,Ai 0,Ai 0,Ai 0,Ai 0],AV.bool false])
 else (bif q38 a2 then (bif !(v38_0 a2) then some (AV.tup [AV.agg [Ai 0,Ai 0,Ai 0,Ai 0,Ai 0],AV.bool false])
 else (bif q29 a0 ya yb yc a2 then (bif q30 (v29_4 a0 ya yb yc a2) then (bif q39 (v29_0 a0 ya yb yc a2) (v29_1 a0 ya yb yc a2) (v29_2 a0 ya yb yc a2) then (bif q40 (v29_0 a0 ya yb yc a2) (v29_1 a0 ya yb yc a2) (v29_2 a0 ya yb yc a2) then (ro (runW (R14_0 0 0 0 0 0 (v29_4 a0 ya yb yc a2) ya (v30_0 (v29_4 a0 ya yb yc a2)) (v39_0 (v29_0 a0 ya yb yc a2) (v29_1 a0 ya yb yc a2) (v29_2 a0 ya yb yc a2)) (v40_0 (v29_0 a0 ya yb yc a2) (v29_1 a0 ya yb yc a2) (v29_2 a0 ya yb yc a2))) ((((v29_4 a0 ya yb yc a2).length:Int) - 0:Int).toNat+1) (0,0)) none (fun p38=>some (AV.tup [AV.agg [Ai ya,Ai (v30_0 (v29_4 a0 ya yb yc a2)),Ai p38,Ai (v39_0 (v29_0 a0 ya yb yc a2) (v29_1 a0 ya yb yc a2) (v29_2 a0 ya yb yc a2)),Ai (v40_0 (v29_0 a0 ya yb yc a2) (v29_1 a0 ya yb yc a2) (v29_2 a0 ya yb yc a2))],AV.bool true])))
 else none)
 else none)
 else none)
 else none))
 else none)))
 else none):=by kernel_rfl
def m14:TModel
 | [.sl g0 a0,.agg [.int .i64 ya,.int .i64 yb,.int .i64 yc],.sl g1 a2]=>bif ctsEq g0 ([.int .i64]) && ctsEq g1 ([.int .i64,.int .i64]) then some (q14 a0 ya yb yc a2,AV.tup [AV.agg [AV.int .i64 (v14_0 a0 ya yb yc a2),AV.int .i64 (v14_1 a0 ya yb yc a2),AV.int .i64 (v14_2 a0 ya yb yc a2),AV.int .i64 (v14_3 a0 ya yb yc a2),AV.int .i64 (v14_4 a0 ya yb yc a2)],AV.bool (v14_5 a0 ya yb yc a2)]) else none
 | _=>none
theorem k14:Known Tryz.prog 14:=⟨Tryz.f14,Tryz.func14,by kernel_rfl,by kernel_rfl⟩
theorem meets14:Meets Tryz.prog 14 m14:=by
 refine meet (f:=Tryz.f14) (l:=[(0,sub [1,1,1,1,0,1,0,0] (body Tryz.f14))]) (hs:=[(14,0,[6,10,11,12]),(14,999,[6,7]),(14,1000,[6,11]),(14,1001,[6,10,11,12])]) (ts:=[(29,m29),(30,m30),(36,m36),(37,m37),(38,m38),(39,m39),(40,m40)]) (ws:=[]) (is:=[]) (ls:=[(14,0,l14_0)]) (lvl:=0) mixed k14 Tryz.func14 (by kernel_rfl) (loops_cons ok14_0 noLoop) (allT_cons meets29 (allT_cons meets30 (allT_cons meets36 (allT_cons meets37 (allT_cons meets38 (allT_cons meets39 (allT_cons meets40 allT_nil))))))) allM_nil noI fun w xs us r hl hv h=>?_
 unfold m14 at h
 split at h
 ·rename_i g0 a0 ya yb yc g1 a2
  obtain ⟨hg,h⟩:=bif_pair h
  simp only [Bool.and_eq_true] at hg
  obtain ⟨q0,q1⟩:=hg
  obtain rfl:=ctsEq_eq _ _ q0
  obtain rfl:=ctsEq_eq _ _ q1
  obtain ⟨h1,rfl⟩:=pair_inj h
  exact (e14 a0 ya yb yc a2).trans ((brL (br (fun b=>some (AV.tup [AV.agg [Ai (bif b then 0 else (bif !(v37_0 ya yb yc) then 0 else (bif !(v38_0 a2) then 0 else ya))),Ai (bif b then 0 else (bif !(v37_0 ya yb yc) then 0 else (bif !(v38_0 a2) then 0 else (v30_0 (v29_4 a0 ya yb yc a2))))),Ai (bif b then 0 else (bif !(v37_0 ya yb yc) then 0 else (bif !(v38_0 a2) then 0 else (ro (runW (R14_0 0 0 0 0 0 (v29_4 a0 ya yb yc a2) ya (v30_0 (v29_4 a0 ya yb yc a2)) (v39_0 (v29_0 a0 ya yb yc a2) (v29_1 a0 ya yb yc a2) (v29_2 a0 ya yb yc a2)) (v40_0 (v29_0 a0 ya yb yc a2) (v29_1 a0 ya yb yc a2) (v29_2 a0 ya yb yc a2))) ((((v29_4 a0 ya yb yc a2).length:Int) - 0:Int).toNat+1) (0,0)) 0 (fun p38=>p38))))),Ai (bif b then 0 else (bif !(v37_0 ya yb yc) then 0 else (bif !(v38_0 a2) then 0 else (v39_0 (v29_0 a0 ya yb yc a2) (v29_1 a0 ya yb yc a2) (v29_2 a0 ya yb yc a2))))),Ai (bif b then 0 else (bif !(v37_0 ya yb yc) then 0 else (bif !(v38_0 a2) then 0 else (v40_0 (v29_0 a0 ya yb yc a2) (v29_1 a0 ya yb yc a2) (v29_2 a0 ya yb yc a2)))))],AV.bool (bif b then false else (bif !(v37_0 ya yb yc) then false else (bif !(v38_0 a2) then false else true)))])) (fun _=>rfl) (br (fun b=>some (AV.tup [AV.agg [Ai (bif b then 0 else (bif !(v38_0 a2) then 0 else ya)),Ai (bif b then 0 else (bif !(v38_0 a2) then 0 else (v30_0 (v29_4 a0 ya yb yc a2)))),Ai (bif b then 0 else (bif !(v38_0 a2) then 0 else (ro (runW (R14_0 0 0 0 0 0 (v29_4 a0 ya yb yc a2) ya (v30_0 (v29_4 a0 ya yb yc a2)) (v39_0 (v29_0 a0 ya yb yc a2) (v29_1 a0 ya yb yc a2) (v29_2 a0 ya yb yc a2)) (v40_0 (v29_0 a0 ya yb yc a2) (v29_1 a0 ya yb yc a2) (v29_2 a0 ya yb yc a2))) ((((v29_4 a0 ya yb yc a2).length:Int) - 0:Int).toNat+1) (0,0)) 0 (fun p38=>p38)))),Ai (bif b then 0 else (bif !(v38_0 a2) then 0 else (v39_0 (v29_0 a0 ya yb yc a2) (v29_1 a0 ya yb yc a2) (v29_2 a0 ya yb yc a2)))),Ai (bif b then 0 else (bif !(v38_0 a2) then 0 else (v40_0 (v29_0 a0 ya yb yc a2) (v29_1 a0 ya yb yc a2) (v29_2 a0 ya yb yc a2))))],AV.bool (bif b then false else (bif !(v38_0 a2) then false else true))])) (fun _=>rfl) (brL (br (fun b=>some (AV.tup [AV.agg [Ai (bif b then 0 else ya),Ai (bif b then 0 else (v30_0 (v29_4 a0 ya yb yc a2))),Ai (bif b then 0 else (ro (runW (R14_0 0 0 0 0 0 (v29_4 a0 ya yb yc a2) ya (v30_0 (v29_4 a0 ya yb yc a2)) (v39_0 (v29_0 a0 ya yb yc a2) (v29_1 a0 ya yb yc a2) (v29_2 a0 ya yb yc a2)) (v40_0 (v29_0 a0 ya yb yc a2) (v29_1 a0 ya yb yc a2) (v29_2 a0 ya yb yc a2))) ((((v29_4 a0 ya yb yc a2).length:Int) - 0:Int).toNat+1) (0,0)) 0 (fun p38=>p38))),Ai (bif b then 0 else (v39_0 (v29_0 a0 ya yb yc a2) (v29_1 a0 ya yb yc a2) (v29_2 a0 ya yb yc a2))),Ai (bif b then 0 else (v40_0 (v29_0 a0 ya yb yc a2) (v29_1 a0 ya yb yc a2) (v29_2 a0 ya yb yc a2)))],AV.bool (bif b then false else true)])) (fun _=>rfl) (brL (brL (brL (brL (brO (fun o:Option (Int)=>some (AV.tup [AV.agg [Ai ya,Ai (v30_0 (v29_4 a0 ya yb yc a2)),Ai (ro o 0 (fun p38=>p38)),Ai (v39_0 (v29_0 a0 ya yb yc a2) (v29_1 a0 ya yb yc a2) (v29_2 a0 ya yb yc a2)),Ai (v40_0 (v29_0 a0 ya yb yc a2) (v29_1 a0 ya yb yc a2) (v29_2 a0 ya yb yc a2))],AV.bool true])) (fun p38=>(fun _=>rfl)))))))))))) h1)
 ·cases h
def F20_0 (t0:List AV) (t1 t2:Int) (t3:List AV) (t10:Int) (h0:List AV):Out ((Int × (List AV))) (((List AV))):=(bif decide (t10≤2) then (bif q14 t0 t10 t1 t2 t3 then (bif (v14_5 t0 t10 t1 t2 t3) then (bif (decide ((h0.length+([AV.agg [AV.int .i64 (v14_0 t0 t10 t1 t2 t3),AV.int .i64 (v14_1 t0 t10 t1 t2 t3),AV.int .i64 (v14_2 t0 t10 t1 t2 t3),AV.int .i64 (v14_3 t0 t10 t1 t2 t3),AV.int .i64 (v14_4 t0 t10 t1 t2 t3)]]).length)*40≤140737488355328) && decide ((h0.length+([AV.agg [AV.int .i64 (v14_0 t0 t10 t1 t2 t3),AV.int .i64 (v14_1 t0 t10 t1 t2 t3),AV.int .i64 (v14_2 t0 t10 t1 t2 t3),AV.int .i64 (v14_3 t0 t10 t1 t2 t3),AV.int .i64 (v14_4 t0 t10 t1 t2 t3)]]).length)≤140737488355328)) then .next (IntKind.i64.wrap (t10+1),h0++([AV.agg [AV.int .i64 (v14_0 t0 t10 t1 t2 t3),AV.int .i64 (v14_1 t0 t10 t1 t2 t3),AV.int .i64 (v14_2 t0 t10 t1 t2 t3),AV.int .i64 (v14_3 t0 t10 t1 t2 t3),AV.int .i64 (v14_4 t0 t10 t1 t2 t3)]]))
 else .fail)
 else .next (IntKind.i64.wrap (t10+1),h0))
 else .fail)
 else .stop h0)
def R20_0 (t0:List AV) (t1 t2:Int) (t3:List AV):((Int × (List AV)))→Out ((Int × (List AV))) (((List AV))):=fun s:Int × (List AV)=>F20_0 t0 t1 t2 t3 s.1 s.2
def E20_0 (t0:List AV) (t1 t2:Int) (t3:List AV):((Int × (List AV)))→St:=fun s:Int × (List AV)=>⟨[(0,AV.sl [.int .i64] t0),(1,Ai t1),(2,Ai t2),(3,AV.sl [.int .i64,.int .i64] t3),(9,AV.own [0,9]),(10,Ai s.1)],[([0,9],⟨false,[.int .i64,.int .i64,.int .i64,.int .i64,.int .i64],s.2⟩)]⟩
def K20_0 (k:Kont):(((List AV)))→Option AV:=fun p:(List AV)=>k (.exit 0) ⟨[(9,AV.own [0,9])],[([0,9],⟨false,[.int .i64,.int .i64,.int .i64,.int .i64,.int .i64],p⟩)]⟩
def l20_0:LModel:=fun _ _ st k=>match st with
 | ⟨[(0,.sl g0 t0),(1,.int .i64 t1),(2,.int .i64 t2),(3,.sl g1 t3),(9,.own g2),(10,.int .i64 t10)],[(g3,⟨false,g4,h0⟩)]⟩=>bif ctsEq g0 ([.int .i64]) && ctsEq g1 ([.int .i64,.int .i64]) && nmEq g2 ([0,9]) && nmEq g3 ([0,9]) && ctsEq g4 ([.int .i64,.int .i64,.int .i64,.int .i64,.int .i64]) then ro (runW (R20_0 t0 t1 t2 t3) ((2 - t10+1:Int).toNat+1) (t10,h0)) none (K20_0 k) else none
 | _=>none
noncomputable def c20:Cfg:=cfg Tryz.prog [(20,0,[0,1,2,3,9,10]),(20,999,[8]),(20,1000,[9]),(20,1001,[0,1,2,3,9,10])] [(14,m14)] [] [] [(20,0,l20_0)]
theorem s20_0 (ce:CallE) (t0:List AV) (t1 t2:Int) (t3:List AV) (t10:Int) (h0:List AV) (next:St→Option AV) (k:Kont):stepA (codeA c20 ce [] 20 0 (sub [1,1,0,1,0,0] (body Tryz.f20))) (normA [] [0,1,2,3,9,10]) next ⟨[(0,AV.sl [.int .i64] t0),(1,Ai t1),(2,Ai t2),(3,AV.sl [.int .i64,.int .i64] t3),(9,AV.own [0,9]),(10,Ai t10)],[([0,9],⟨false,[.int .i64,.int .i64,.int .i64,.int .i64,.int .i64],h0⟩)]⟩ k=(bif decide (t10≤2) then (bif q14 t0 t10 t1 t2 t3 then (bif (v14_5 t0 t10 t1 t2 t3) then (bif (decide ((h0.length+([AV.agg [Ai (v14_0 t0 t10 t1 t2 t3),Ai (v14_1 t0 t10 t1 t2 t3),Ai (v14_2 t0 t10 t1 t2 t3),Ai (v14_3 t0 t10 t1 t2 t3),Ai (v14_4 t0 t10 t1 t2 t3)]]).length)*40≤140737488355328) && decide ((h0.length+([AV.agg [Ai (v14_0 t0 t10 t1 t2 t3),Ai (v14_1 t0 t10 t1 t2 t3),Ai (v14_2 t0 t10 t1 t2 t3),Ai (v14_3 t0 t10 t1 t2 t3),Ai (v14_4 t0 t10 t1 t2 t3)]]).length)≤140737488355328)) then next ⟨[(0,AV.sl [.int .i64] t0),(1,Ai t1),(2,Ai t2),(3,AV.sl [.int .i64,.int .i64] t3),(9,AV.own [0,9]),(10,Ai (IntKind.i64.wrap (t10+1)))],[([0,9],⟨false,[.int .i64,.int .i64,.int .i64,.int .i64,.int .i64],h0++([AV.agg [Ai (v14_0 t0 t10 t1 t2 t3),Ai (v14_1 t0 t10 t1 t2 t3),Ai (v14_2 t0 t10 t1 t2 t3),Ai (v14_3 t0 t10 t1 t2 t3),Ai (v14_4 t0 t10 t1 t2 t3)]])⟩)]⟩
 else none)
 else next ⟨[(0,AV.sl [.int .i64] t0),(1,Ai t1),(2,Ai t2),(3,AV.sl [.int .i64,.int .i64] t3),(9,AV.own [0,9]),(10,Ai (IntKind.i64.wrap (t10+1)))],[([0,9],⟨false,[.int .i64,.int .i64,.int .i64,.int .i64,.int .i64],h0⟩)]⟩)
 else none)
 else k (.exit 0) ⟨[(9,AV.own [0,9])],[([0,9],⟨false,[.int .i64,.int .i64,.int .i64,.int .i64,.int .i64],h0⟩)]⟩):=by kernel_rfl
theorem st20_0 (t0:List AV) (t1 t2:Int) (t3:List AV) (ce:CallE) (k:Kont) (s:(Int × (List AV))) (next:St→Option AV):stepA (codeA c20 ce [] 20 0 (sub [1,1,0,1,0,0] (body Tryz.f20))) (normA [] [0,1,2,3,9,10]) next ((E20_0 t0 t1 t2 t3) s) k=(R20_0 t0 t1 t2 t3 s).el none (fun s=>next ((E20_0 t0 t1 t2 t3) s)) (K20_0 k):=(s20_0 ce t0 t1 t2 t3 s.1 s.2 next k).trans (by unfold R20_0;unfold F20_0;simp only [el_cond,el_ro,el_sum,el_fail,el_next,el_stop] <;> rfl)
theorem ok20_0 {ce:CallE}:LoopOK c20 ce [] 20 0 (sub [1,1,0,1,0,0] (body Tryz.f20)):=by
 intro m hm st k r h
 obtain rfl:l20_0=m:=Option.some.inj hm
 unfold l20_0 at h
 split at h
 ·rename_i g0 t0 t1 t2 g1 t3 g2 t10 g3 g4 h0
  obtain ⟨hg,h⟩:=bif_some h
  simp only [Bool.and_eq_true] at hg
  obtain ⟨⟨⟨⟨q0,q1⟩,q2⟩,q3⟩,q4⟩:=hg
  obtain rfl:=ctsEq_eq _ _ q0
  obtain rfl:=ctsEq_eq _ _ q1
  obtain rfl:=(nmEq_iff _ _).1 q2
  obtain rfl:=(nmEq_iff _ _).1 q3
  obtain rfl:=ctsEq_eq _ _ q4
  refine ⟨((2 - t10+1:Int).toNat+1),?_⟩
  rw [← h]
  exact loop_run (E20_0 t0 t1 t2 t3) (K20_0 k) (st20_0 t0 t1 t2 t3 ce k) _ (t10,h0)
 ·cases h
def q20 (a0:List AV) (a1 a2:Int) (a3:List AV):Bool:=(ro (runW (R20_0 a0 a1 a2 a3) ((2 - 0+1:Int).toNat+1) (0,([]:List AV))) false (fun p39=>true))
def v20_0 (a0:List AV) (a1 a2:Int) (a3:List AV):List AV:=(ro (runW (R20_0 a0 a1 a2 a3) ((2 - 0+1:Int).toNat+1) (0,([]:List AV))) [] (fun p39=>p39))
theorem e20 (a0:List AV) (a1 a2:Int) (a3:List AV):funA c20 0 20 [AV.sl [.int .i64] a0,Ai a1,Ai a2,AV.sl [.int .i64,.int .i64] a3]=(ro (runW (R20_0 a0 a1 a2 a3) ((2 - 0+1:Int).toNat+1) (0,([]:List AV))) none (fun p39=>some (AV.fl [.int .i64,.int .i64,.int .i64,.int .i64,.int .i64] p39))):=by kernel_rfl
def m20:TModel
 | [.sl g0 a0,.int .i64 a1,.int .i64 a2,.sl g1 a3]=>bif ctsEq g0 ([.int .i64]) && ctsEq g1 ([.int .i64,.int .i64]) then some (q20 a0 a1 a2 a3,AV.fl [.int .i64,.int .i64,.int .i64,.int .i64,.int .i64] (v20_0 a0 a1 a2 a3)) else none
 | _=>none
theorem k20:Known Tryz.prog 20:=⟨Tryz.f20,Tryz.func20,by kernel_rfl,by kernel_rfl⟩
theorem meets20:Meets Tryz.prog 20 m20:=by
 refine meet (f:=Tryz.f20) (l:=[(0,sub [1,1,0,1,0,0] (body Tryz.f20))]) (hs:=[(20,0,[0,1,2,3,9,10]),(20,999,[8]),(20,1000,[9]),(20,1001,[0,1,2,3,9,10])]) (ts:=[(14,m14)]) (ws:=[]) (is:=[]) (ls:=[(20,0,l20_0)]) (lvl:=0) mixed k20 Tryz.func20 (by kernel_rfl) (loops_cons ok20_0 noLoop) (allT_cons meets14 allT_nil) allM_nil noI fun w xs us r hl hv h=>?_
 unfold m20 at h
 split at h
 ·rename_i g0 a0 a1 a2 g1 a3
  obtain ⟨hg,h⟩:=bif_pair h
  simp only [Bool.and_eq_true] at hg
  obtain ⟨q0,q1⟩:=hg
  obtain rfl:=ctsEq_eq _ _ q0
  obtain rfl:=ctsEq_eq _ _ q1
  obtain ⟨h1,rfl⟩:=pair_inj h
  exact (e20 a0 a1 a2 a3).trans ((brO (fun o:Option (((List AV)))=>some (AV.fl [.int .i64,.int .i64,.int .i64,.int .i64,.int .i64] (ro o [] (fun p39=>p39)))) (fun p39=>(fun _=>rfl))) h1)
 ·cases h
def F18_0 (h0:List AV) (t10 t11:Int):Out ((Int × Int)) (Int):=(bif decide (t11<(h0.length:Int)) then (bif decide (t10<0) then .next (t11,IntKind.i64.wrap (t11+1))
 else (bif (decide (0≤t11) && decide (t11<(h0.length:Int))) then (bif (decide (0≤t10) && decide (t10<(h0.length:Int))) then (bif decide (fI (h0.getD t11.toNat .undef) 2<fI (h0.getD t10.toNat .undef) 2) then .next (t11,IntKind.i64.wrap (t11+1))
 else (bif (decide (0≤t11) && decide (t11<(h0.length:Int))) then (bif (decide (0≤t10) && decide (t10<(h0.length:Int))) then (bif decide (fI (h0.getD t11.toNat .undef) 2=fI (h0.getD t10.toNat .undef) 2) then (bif (decide (0≤t11) && decide (t11<(h0.length:Int))) then (bif (decide (0≤t10) && decide (t10<(h0.length:Int))) then (bif decide (fI (h0.getD t11.toNat .undef) 1<fI (h0.getD t10.toNat .undef) 1) then .next (t11,IntKind.i64.wrap (t11+1))
 else .next (t10,IntKind.i64.wrap (t11+1)))
 else .fail)
 else .fail)
 else .next (t10,IntKind.i64.wrap (t11+1)))
 else .fail)
 else .fail))
 else .fail)
 else .fail))
 else .stop t10)
def R18_0 (h0:List AV):((Int × Int))→Out ((Int × Int)) (Int):=fun s:Int × Int=>F18_0 h0 s.1 s.2
def E18_0 (h0:List AV):((Int × Int))→St:=fun s:Int × Int=>⟨[(9,AV.own [0,9]),(10,Ai s.1),(11,Ai s.2)],[([0,9],⟨false,[.int .i64,.int .i64,.int .i64,.int .i64,.int .i64],h0⟩)]⟩
def K18_0 (h0:List AV) (k:Kont):(Int)→Option AV:=fun p:Int=>k (.exit 0) ⟨[(10,Ai p)],[([0,9],⟨false,[.int .i64,.int .i64,.int .i64,.int .i64,.int .i64],h0⟩)]⟩
def l18_0:LModel:=fun _ _ st k=>match st with
 | ⟨[(9,.own g0),(10,.int .i64 t10),(11,.int .i64 t11)],[(g1,⟨false,g2,h0⟩)]⟩=>bif nmEq g0 ([0,9]) && nmEq g1 ([0,9]) && ctsEq g2 ([.int .i64,.int .i64,.int .i64,.int .i64,.int .i64]) then ro (runW (R18_0 h0) (((h0.length:Int) - t11:Int).toNat+1) (t10,t11)) none (K18_0 h0 k) else none
 | _=>none
noncomputable def c18:Cfg:=cfg Tryz.prog [(18,0,[9,10,11]),(18,999,[8]),(18,1000,[10]),(18,1001,[9,10,11])] [(20,m20)] [] [] [(18,0,l18_0)]
theorem s18_0 (ce:CallE) (t10 t11:Int) (h0:List AV) (next:St→Option AV) (k:Kont):stepA (codeA c18 ce [] 18 0 (sub [1,1,1,0,1,0,0] (body Tryz.f18))) (normA [] [9,10,11]) next ⟨[(9,AV.own [0,9]),(10,Ai t10),(11,Ai t11)],[([0,9],⟨false,[.int .i64,.int .i64,.int .i64,.int .i64,.int .i64],h0⟩)]⟩ k=(bif decide (t11<(h0.length:Int)) then (bif decide (t10<0) then next ⟨[(9,AV.own [0,9]),(10,Ai t11),(11,Ai (IntKind.i64.wrap (t11+1)))],[([0,9],⟨false,[.int .i64,.int .i64,.int .i64,.int .i64,.int .i64],h0⟩)]⟩
 else (bif (decide (0≤t11) && decide (t11<(h0.length:Int))) then (bif (decide (0≤t10) && decide (t10<(h0.length:Int))) then (bif decide (fI (h0.getD t11.toNat .undef) 2<fI (h0.getD t10.toNat .undef) 2) then next ⟨[(9,AV.own [0,9]),(10,Ai t11),(11,Ai (IntKind.i64.wrap (t11+1)))],[([0,9],⟨false,[.int .i64,.int .i64,.int .i64,.int .i64,.int .i64],h0⟩)]⟩
 else (bif (decide (0≤t11) && decide (t11<(h0.length:Int))) then (bif (decide (0≤t10) && decide (t10<(h0.length:Int))) then (bif decide (fI (h0.getD t11.toNat .undef) 2=fI (h0.getD t10.toNat .undef) 2) then (bif (decide (0≤t11) && decide (t11<(h0.length:Int))) then (bif (decide (0≤t10) && decide (t10<(h0.length:Int))) then (bif decide (fI (h0.getD t11.toNat .undef) 1<fI (h0.getD t10.toNat .undef) 1) then next ⟨[(9,AV.own [0,9]),(10,Ai t11),(11,Ai (IntKind.i64.wrap (t11+1)))],[([0,9],⟨false,[.int .i64,.int .i64,.int .i64,.int .i64,.int .i64],h0⟩)]⟩
 else next ⟨[(9,AV.own [0,9]),(10,Ai t10),(11,Ai (IntKind.i64.wrap (t11+1)))],[([0,9],⟨false,[.int .i64,.int .i64,.int .i64,.int .i64,.int .i64],h0⟩)]⟩)
 else none)
 else none)
 else next ⟨[(9,AV.own [0,9]),(10,Ai t10),(11,Ai (IntKind.i64.wrap (t11+1)))],[([0,9],⟨false,[.int .i64,.int .i64,.int .i64,.int .i64,.int .i64],h0⟩)]⟩)
 else none)
 else none))
 else none)
 else none))
 else k (.exit 0) ⟨[(10,Ai t10)],[([0,9],⟨false,[.int .i64,.int .i64,.int .i64,.int .i64,.int .i64],h0⟩)]⟩):=by kernel_rfl
theorem st18_0 (h0:List AV) (ce:CallE) (k:Kont) (s:(Int × Int)) (next:St→Option AV):stepA (codeA c18 ce [] 18 0 (sub [1,1,1,0,1,0,0] (body Tryz.f18))) (normA [] [9,10,11]) next ((E18_0 h0) s) k=(R18_0 h0 s).el none (fun s=>next ((E18_0 h0) s)) (K18_0 h0 k):=(s18_0 ce s.1 s.2 h0 next k).trans (by unfold R18_0;unfold F18_0;simp only [el_cond,el_ro,el_sum,el_fail,el_next,el_stop] <;> rfl)
theorem ok18_0 {ce:CallE}:LoopOK c18 ce [] 18 0 (sub [1,1,1,0,1,0,0] (body Tryz.f18)):=by
 intro m hm st k r h
 obtain rfl:l18_0=m:=Option.some.inj hm
 unfold l18_0 at h
 split at h
 ·rename_i g0 t10 t11 g1 g2 h0
  obtain ⟨hg,h⟩:=bif_some h
  simp only [Bool.and_eq_true] at hg
  obtain ⟨⟨q0,q1⟩,q2⟩:=hg
  obtain rfl:=(nmEq_iff _ _).1 q0
  obtain rfl:=(nmEq_iff _ _).1 q1
  obtain rfl:=ctsEq_eq _ _ q2
  refine ⟨(((h0.length:Int) - t11:Int).toNat+1),?_⟩
  rw [← h]
  exact loop_run (E18_0 h0) (K18_0 h0 k) (st18_0 h0 ce k) _ (t10,t11)
 ·cases h
def q18 (a0:List AV) (a1 a2:Int) (a3:List AV):Bool:=(q20 a0 a1 a2 a3 && (ro (runW (R18_0 (v20_0 a0 a1 a2 a3)) ((((v20_0 a0 a1 a2 a3).length:Int) - 0:Int).toNat+1) ((-1),0)) false (fun p40=>true)))
def v18_0 (a0:List AV) (a1 a2:Int) (a3:List AV):Int:=(ro (runW (R18_0 (v20_0 a0 a1 a2 a3)) ((((v20_0 a0 a1 a2 a3).length:Int) - 0:Int).toNat+1) ((-1),0)) 0 (fun p40=>p40))
theorem e18 (a0:List AV) (a1 a2:Int) (a3:List AV):funA c18 0 18 [AV.sl [.int .i64] a0,Ai a1,Ai a2,AV.sl [.int .i64,.int .i64] a3]=(bif q20 a0 a1 a2 a3 then (ro (runW (R18_0 (v20_0 a0 a1 a2 a3)) ((((v20_0 a0 a1 a2 a3).length:Int) - 0:Int).toNat+1) ((-1),0)) none (fun p40=>some (Ai p40)))
 else none):=by kernel_rfl
def m18:TModel
 | [.sl g0 a0,.int .i64 a1,.int .i64 a2,.sl g1 a3]=>bif ctsEq g0 ([.int .i64]) && ctsEq g1 ([.int .i64,.int .i64]) then some (q18 a0 a1 a2 a3,AV.int .i64 (v18_0 a0 a1 a2 a3)) else none
 | _=>none
theorem k18:Known Tryz.prog 18:=⟨Tryz.f18,Tryz.func18,by kernel_rfl,by kernel_rfl⟩
theorem meets18:Meets Tryz.prog 18 m18:=by
 refine meet (f:=Tryz.f18) (l:=[(0,sub [1,1,1,0,1,0,0] (body Tryz.f18))]) (hs:=[(18,0,[9,10,11]),(18,999,[8]),(18,1000,[10]),(18,1001,[9,10,11])]) (ts:=[(20,m20)]) (ws:=[]) (is:=[]) (ls:=[(18,0,l18_0)]) (lvl:=0) mixed k18 Tryz.func18 (by kernel_rfl) (loops_cons ok18_0 noLoop) (allT_cons meets20 allT_nil) allM_nil noI fun w xs us r hl hv h=>?_
 unfold m18 at h
 split at h
 ·rename_i g0 a0 a1 a2 g1 a3
  obtain ⟨hg,h⟩:=bif_pair h
  simp only [Bool.and_eq_true] at hg
  obtain ⟨q0,q1⟩:=hg
  obtain rfl:=ctsEq_eq _ _ q0
  obtain rfl:=ctsEq_eq _ _ q1
  obtain ⟨h1,rfl⟩:=pair_inj h
  exact (e18 a0 a1 a2 a3).trans ((brL (brO (fun o:Option (Int)=>some (Ai (ro o 0 (fun p40=>p40)))) (fun p40=>(fun _=>rfl)))) h1)
 ·cases h
noncomputable def c76:Cfg:=cfg Tryz.prog [(76,999,[4])] [] [] [] []
def q76 (a0:Int) (a1 a2:AV):Bool:=true
def v76_0 (a0:Int) (a1 a2:AV):Bool:=(bif decide (a0<fI a1 0) then true else decide (a0 > fI a2 0))
theorem e76 (a0:Int) (a1 a2:AV):funA c76 0 76 [Ai a0,AV.rptr [.int .i64] a1 0,AV.rptr [.int .i64] a2 0]=(bif decide (a0<fI a1 0) then some (AV.bool true)
 else some (AV.bool (decide (a0 > fI a2 0)))):=by kernel_rfl
def m76:TModel
 | [.int .i64 a0,.rptr g0 a1 g1,.rptr g2 a2 g3]=>bif ctsEq g0 ([.int .i64]) && Nat.beq g1 0 && ctsEq g2 ([.int .i64]) && Nat.beq g3 0 then some (true,AV.bool (v76_0 a0 a1 a2)) else none
 | _=>none
theorem k76:Known Tryz.prog 76:=⟨Tryz.f76,Tryz.func76,by kernel_rfl,by kernel_rfl⟩
theorem meets76:Meets Tryz.prog 76 m76:=by
 refine meet (f:=Tryz.f76) (l:=[]) (hs:=[(76,999,[4])]) (ts:=[]) (ws:=[]) (is:=[]) (ls:=[]) (lvl:=0) mixed k76 Tryz.func76 (by kernel_rfl) noLoop allT_nil allM_nil noI fun w xs us r hl hv h=>?_
 unfold m76 at h
 split at h
 ·rename_i a0 g0 a1 g1 g2 a2 g3
  obtain ⟨hg,h⟩:=bif_pair h
  simp only [Bool.and_eq_true] at hg
  obtain ⟨⟨⟨q0,q1⟩,q2⟩,q3⟩:=hg
  obtain rfl:=ctsEq_eq _ _ q0
  obtain rfl:=Nat.eq_of_beq_eq_true q1
  obtain rfl:=ctsEq_eq _ _ q2
  obtain rfl:=Nat.eq_of_beq_eq_true q3
  obtain ⟨h1,rfl⟩:=pair_inj h
  exact (e76 a0 a1 a2).trans (of_tt (brT (fun b=>some (AV.bool (bif b then true else decide (a0 > fI a2 0)))) (fun _=>rfl) (fun _=>rfl)))
 ·cases h
end Go.Proofs.YtmcnplggcedihaaGreat
