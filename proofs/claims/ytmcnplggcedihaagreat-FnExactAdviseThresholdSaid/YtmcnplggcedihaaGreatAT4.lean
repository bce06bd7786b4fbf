import Derived.Test.YtmcnplggcedihaaGreatAT3
import Derived.Test.YtmcnplggcedihaaGreatProg
import Derived.KernelRfl
namespace Go.Proofs.YtmcnplggcedihaaGreat
open Go Go.Proofs.VE
set_option linter.unusedVariables false
set_option linter.unusedSimpArgs false
set_option maxRecDepth 100000
set_option maxHeartbeats 4000000
def F79_0_s0 (t2 h2_0 h2_1 h2_2 h4_0 h4_1 h4_2 h5:Int) (h6 h7 h8:List AV) (h10:Int):Out ((Int × Int × Int × Int × Int × Int × Int × (List AV) × (List AV) × (List AV) × Int) ⊕ ((List AV) × (List AV) × (List AV) × Int × Int × Int × Int × Int × Int × Int × (List AV) × (List AV) × (List AV) × Int)) ((Int × Int × Int × Int × Int × Int × Int × (List AV) × (List AV) × (List AV) × Int) ⊕ ((List AV) × (List AV) × (List AV) × Int × Int × Int × Int × Int × Int × Int × (List AV) × (List AV) × (List AV) × Int)):=(bif !decide (h2_0=0) then (bif q89 h6 h7 h8 t2 then (bif !(v89_0 h6 h7 h8 t2) then (bif q90 h6 h7 h8 t2 then (bif decide (IntKind.i64.wrap ((v90_1 h6 h7 h8 t2) - (v90_0 h6 h7 h8 t2))≤h2_1) then .stop (.inl (h2_0,h2_1,h2_2,h4_0,h4_1,h4_2,h5,h6,h7,h8,h10))
 else (bif q92 h6 h7 h8 h2_0 h2_1 h2_2 (v90_0 h6 h7 h8 t2) (v90_1 h6 h7 h8 t2) then (bif q89 h6 h7 h8 (v92_0 h6 h7 h8 h2_0 h2_1 h2_2 (v90_0 h6 h7 h8 t2) (v90_1 h6 h7 h8 t2)) then (bif (v89_0 h6 h7 h8 (v92_0 h6 h7 h8 h2_0 h2_1 h2_2 (v90_0 h6 h7 h8 t2) (v90_1 h6 h7 h8 t2))) then (bif q89 h6 h7 h8 (IntKind.i64.wrap ((v92_0 h6 h7 h8 h2_0 h2_1 h2_2 (v90_0 h6 h7 h8 t2) (v90_1 h6 h7 h8 t2))+1)) then (bif (v89_0 h6 h7 h8 (IntKind.i64.wrap ((v92_0 h6 h7 h8 h2_0 h2_1 h2_2 (v90_0 h6 h7 h8 t2) (v90_1 h6 h7 h8 t2))+1))) then .next (.inl ((v92_1 h6 h7 h8 h2_0 h2_1 h2_2 (v90_0 h6 h7 h8 t2) (v90_1 h6 h7 h8 t2)),(v92_2 h6 h7 h8 h2_0 h2_1 h2_2 (v90_0 h6 h7 h8 t2) (v90_1 h6 h7 h8 t2)),(v92_3 h6 h7 h8 h2_0 h2_1 h2_2 (v90_0 h6 h7 h8 t2) (v90_1 h6 h7 h8 t2)),h4_0,h4_1,h4_2,h5,h6,h7,h8,h10))
 else (bif q90 h6 h7 h8 (IntKind.i64.wrap ((v92_0 h6 h7 h8 h2_0 h2_1 h2_2 (v90_0 h6 h7 h8 t2) (v90_1 h6 h7 h8 t2))+1)) then (bif q91 h6 h7 h8 (IntKind.i64.wrap ((v92_0 h6 h7 h8 h2_0 h2_1 h2_2 (v90_0 h6 h7 h8 t2) (v90_1 h6 h7 h8 t2))+1)) then .next (.inr ((v91_0 h6 h7 h8 (IntKind.i64.wrap ((v92_0 h6 h7 h8 h2_0 h2_1 h2_2 (v90_0 h6 h7 h8 t2) (v90_1 h6 h7 h8 t2))+1))),(v91_1 h6 h7 h8 (IntKind.i64.wrap ((v92_0 h6 h7 h8 h2_0 h2_1 h2_2 (v90_0 h6 h7 h8 t2) (v90_1 h6 h7 h8 t2))+1))),(v91_2 h6 h7 h8 (IntKind.i64.wrap ((v92_0 h6 h7 h8 h2_0 h2_1 h2_2 (v90_0 h6 h7 h8 t2) (v90_1 h6 h7 h8 t2))+1))),(v92_1 h6 h7 h8 h2_0 h2_1 h2_2 (v90_0 h6 h7 h8 t2) (v90_1 h6 h7 h8 t2)),(v92_2 h6 h7 h8 h2_0 h2_1 h2_2 (v90_0 h6 h7 h8 t2) (v90_1 h6 h7 h8 t2)),(v92_3 h6 h7 h8 h2_0 h2_1 h2_2 (v90_0 h6 h7 h8 t2) (v90_1 h6 h7 h8 t2)),h4_0,h4_1,h4_2,IntKind.i64.wrap (h5+((v91_3 h6 h7 h8 (IntKind.i64.wrap ((v92_0 h6 h7 h8 h2_0 h2_1 h2_2 (v90_0 h6 h7 h8 t2) (v90_1 h6 h7 h8 t2))+1))).length:Int)),h6,h7,h8,h10))
 else .fail)
 else .fail))
 else .fail)
 else (bif q90 h6 h7 h8 (v92_0 h6 h7 h8 h2_0 h2_1 h2_2 (v90_0 h6 h7 h8 t2) (v90_1 h6 h7 h8 t2)) then (bif q91 h6 h7 h8 (v92_0 h6 h7 h8 h2_0 h2_1 h2_2 (v90_0 h6 h7 h8 t2) (v90_1 h6 h7 h8 t2)) then (bif q89 (v91_0 h6 h7 h8 (v92_0 h6 h7 h8 h2_0 h2_1 h2_2 (v90_0 h6 h7 h8 t2) (v90_1 h6 h7 h8 t2))) (v91_1 h6 h7 h8 (v92_0 h6 h7 h8 h2_0 h2_1 h2_2 (v90_0 h6 h7 h8 t2) (v90_1 h6 h7 h8 t2))) (v91_2 h6 h7 h8 (v92_0 h6 h7 h8 h2_0 h2_1 h2_2 (v90_0 h6 h7 h8 t2) (v90_1 h6 h7 h8 t2))) (IntKind.i64.wrap ((v92_0 h6 h7 h8 h2_0 h2_1 h2_2 (v90_0 h6 h7 h8 t2) (v90_1 h6 h7 h8 t2))+1)) then (bif (v89_0 (v91_0 h6 h7 h8 (v92_0 h6 h7 h8 h2_0 h2_1 h2_2 (v90_0 h6 h7 h8 t2) (v90_1 h6 h7 h8 t2))) (v91_1 h6 h7 h8 (v92_0 h6 h7 h8 h2_0 h2_1 h2_2 (v90_0 h6 h7 h8 t2) (v90_1 h6 h7 h8 t2))) (v91_2 h6 h7 h8 (v92_0 h6 h7 h8 h2_0 h2_1 h2_2 (v90_0 h6 h7 h8 t2) (v90_1 h6 h7 h8 t2))) (IntKind.i64.wrap ((v92_0 h6 h7 h8 h2_0 h2_1 h2_2 (v90_0 h6 h7 h8 t2) (v90_1 h6 h7 h8 t2))+1))) then .next (.inr ((v91_0 h6 h7 h8 (v92_0 h6 h7 h8 h2_0 h2_1 h2_2 (v90_0 h6 h7 h8 t2) (v90_1 h6 h7 h8 t2))),(v91_1 h6 h7 h8 (v92_0 h6 h7 h8 h2_0 h2_1 h2_2 (v90_0 h6 h7 h8 t2) (v90_1 h6 h7 h8 t2))),(v91_2 h6 h7 h8 (v92_0 h6 h7 h8 h2_0 h2_1 h2_2 (v90_0 h6 h7 h8 t2) (v90_1 h6 h7 h8 t2))),(v92_1 h6 h7 h8 h2_0 h2_1 h2_2 (v90_0 h6 h7 h8 t2) (v90_1 h6 h7 h8 t2)),(v92_2 h6 h7 h8 h2_0 h2_1 h2_2 (v90_0 h6 h7 h8 t2) (v90_1 h6 h7 h8 t2)),(v92_3 h6 h7 h8 h2_0 h2_1 h2_2 (v90_0 h6 h7 h8 t2) (v90_1 h6 h7 h8 t2)),h4_0,h4_1,h4_2,IntKind.i64.wrap (h5+((v91_3 h6 h7 h8 (v92_0 h6 h7 h8 h2_0 h2_1 h2_2 (v90_0 h6 h7 h8 t2) (v90_1 h6 h7 h8 t2))).length:Int)),h6,h7,h8,h10))
 else (bif q90 (v91_0 h6 h7 h8 (v92_0 h6 h7 h8 h2_0 h2_1 h2_2 (v90_0 h6 h7 h8 t2) (v90_1 h6 h7 h8 t2))) (v91_1 h6 h7 h8 (v92_0 h6 h7 h8 h2_0 h2_1 h2_2 (v90_0 h6 h7 h8 t2) (v90_1 h6 h7 h8 t2))) (v91_2 h6 h7 h8 (v92_0 h6 h7 h8 h2_0 h2_1 h2_2 (v90_0 h6 h7 h8 t2) (v90_1 h6 h7 h8 t2))) (IntKind.i64.wrap ((v92_0 h6 h7 h8 h2_0 h2_1 h2_2 (v90_0 h6 h7 h8 t2) (v90_1 h6 h7 h8 t2))+1)) then (bif q91 (v91_0 h6 h7 h8 (v92_0 h6 h7 h8 h2_0 h2_1 h2_2 (v90_0 h6 h7 h8 t2) (v90_1 h6 h7 h8 t2))) (v91_1 h6 h7 h8 (v92_0 h6 h7 h8 h2_0 h2_1 h2_2 (v90_0 h6 h7 h8 t2) (v90_1 h6 h7 h8 t2))) (v91_2 h6 h7 h8 (v92_0 h6 h7 h8 h2_0 h2_1 h2_2 (v90_0 h6 h7 h8 t2) (v90_1 h6 h7 h8 t2))) (IntKind.i64.wrap ((v92_0 h6 h7 h8 h2_0 h2_1 h2_2 (v90_0 h6 h7 h8 t2) (v90_1 h6 h7 h8 t2))+1)) then .next (.inr ((v91_0 (v91_0 h6 h7 h8 (v92_0 h6 h7 h8 h2_0 h2_1 h2_2 (v90_0 h6 h7 h8 t2) (v90_1 h6 h7 h8 t2))) (v91_1 h6 h7 h8 (v92_0 h6 h7 h8 h2_0 h2_1 h2_2 (v90_0 h6 h7 h8 t2) (v90_1 h6 h7 h8 t2))) (v91_2 h6 h7 h8 (v92_0 h6 h7 h8 h2_0 h2_1 h2_2 (v90_0 h6 h7 h8 t2) (v90_1 h6 h7 h8 t2))) (IntKind.i64.wrap ((v92_0 h6 h7 h8 h2_0 h2_1 h2_2 (v90_0 h6 h7 h8 t2) (v90_1 h6 h7 h8 t2))+1))),(v91_1 (v91_0 h6 h7 h8 (v92_0 h6 h7 h8 h2_0 h2_1 h2_2 (v90_0 h6 h7 h8 t2) (v90_1 h6 h7 h8 t2))) (v91_1 h6 h7 h8 (v92_0 h6 h7 h8 h2_0 h2_1 h2_2 (v90_0 h6 h7 h8 t2) (v90_1 h6 h7 h8 t2))) (v91_2 h6 h7 h8 (v92_0 h6 h7 h8 h2_0 h2_1 h2_2 (v90_0 h6 h7 h8 t2) (v90_1 h6 h7 h8 t2))) (IntKind.i64.wrap ((v92_0 h6 h7 h8 h2_0 h2_1 h2_2 (v90_0 h6 h7 h8 t2) (v90_1 h6 h7 h8 t2))+1))),(v91_2 (v91_0 h6 h7 h8 (v92_0 h6 h7 h8 h2_0 h2_1 h2_2 (v90_0 h6 h7 h8 t2) (v90_1 h6 h7 h8 t2))) (v91_1 h6 h7 h8 (v92_0 h6 h7 h8 h2_0 h2_1 h2_2 (v90_0 h6 h7 h8 t2) (v90_1 h6 h7 h8 t2))) (v91_2 h6 h7 h8 (v92_0 h6 h7 h8 h2_0 h2_1 h2_2 (v90_0 h6 h7 h8 t2) (v90_1 h6 h7 h8 t2))) (IntKind.i64.wrap ((v92_0 h6 h7 h8 h2_0 h2_1 h2_2 (v90_0 h6 h7 h8 t2) (v90_1 h6 h7 h8 t2))+1))),(v92_1 h6 h7 h8 h2_0 h2_1 h2_2 (v90_0 h6 h7 h8 t2) (v90_1 h6 h7 h8 t2)),(v92_2 h6 h7 h8 h2_0 h2_1 h2_2 (v90_0 h6 h7 h8 t2) (v90_1 h6 h7 h8 t2)),(v92_3 h6 h7 h8 h2_0 h2_1 h2_2 (v90_0 h6 h7 h8 t2) (v90_1 h6 h7 h8 t2)),h4_0,h4_1,h4_2,IntKind.i64.wrap (IntKind.i64.wrap (h5+((v91_3 h6 h7 h8 (v92_0 h6 h7 h8 h2_0 h2_1 h2_2 (v90_0 h6 h7 h8 t2) (v90_1 h6 h7 h8 t2))).length:Int))+((v91_3 (v91_0 h6 h7 h8 (v92_0 h6 h7 h8 h2_0 h2_1 h2_2 (v90_0 h6 h7 h8 t2) (v90_1 h6 h7 h8 t2))) (v91_1 h6 h7 h8 (v92_0 h6 h7 h8 h2_0 h2_1 h2_2 (v90_0 h6 h7 h8 t2) (v90_1 h6 h7 h8 t2))) (v91_2 h6 h7 h8 (v92_0 h6 h7 h8 h2_0 h2_1 h2_2 (v90_0 h6 h7 h8 t2) (v90_1 h6 h7 h8 t2))) (IntKind.i64.wrap ((v92_0 h6 h7 h8 h2_0 h2_1 h2_2 (v90_0 h6 h7 h8 t2) (v90_1 h6 h7 h8 t2))+1))).length:Int)),h6,h7,h8,h10))
 else .fail)
 else .fail))
 else .fail)
 else .fail)
 else .fail))
 else .fail)
 else .fail))
 else .fail)
 else .stop (.inl (h2_0,h2_1,h2_2,h4_0,h4_1,h4_2,h5,h6,h7,h8,h10)))
 else .fail)
 else .stop (.inl (h2_0,h2_1,h2_2,h4_0,h4_1,h4_2,h5,h6,h7,h8,h10)))
def F79_0_s1 (t2:Int) (h0 h1 h2:List AV) (h5_0 h5_1 h5_2 h7_0 h7_1 h7_2 h8:Int) (h9 h10 h11:List AV) (h13:Int):Out ((Int × Int × Int × Int × Int × Int × Int × (List AV) × (List AV) × (List AV) × Int) ⊕ ((List AV) × (List AV) × (List AV) × Int × Int × Int × Int × Int × Int × Int × (List AV) × (List AV) × (List AV) × Int)) ((Int × Int × Int × Int × Int × Int × Int × (List AV) × (List AV) × (List AV) × Int) ⊕ ((List AV) × (List AV) × (List AV) × Int × Int × Int × Int × Int × Int × Int × (List AV) × (List AV) × (List AV) × Int)):=(bif !decide (h5_0=0) then (bif q89 h0 h1 h2 t2 then (bif !(v89_0 h0 h1 h2 t2) then (bif q90 h0 h1 h2 t2 then (bif decide (IntKind.i64.wrap ((v90_1 h0 h1 h2 t2) - (v90_0 h0 h1 h2 t2))≤h5_1) then .stop (.inr (h0,h1,h2,h5_0,h5_1,h5_2,h7_0,h7_1,h7_2,h8,h9,h10,h11,h13))
 else (bif q92 h0 h1 h2 h5_0 h5_1 h5_2 (v90_0 h0 h1 h2 t2) (v90_1 h0 h1 h2 t2) then (bif q89 h0 h1 h2 (v92_0 h0 h1 h2 h5_0 h5_1 h5_2 (v90_0 h0 h1 h2 t2) (v90_1 h0 h1 h2 t2)) then (bif (v89_0 h0 h1 h2 (v92_0 h0 h1 h2 h5_0 h5_1 h5_2 (v90_0 h0 h1 h2 t2) (v90_1 h0 h1 h2 t2))) then (bif q89 h0 h1 h2 (IntKind.i64.wrap ((v92_0 h0 h1 h2 h5_0 h5_1 h5_2 (v90_0 h0 h1 h2 t2) (v90_1 h0 h1 h2 t2))+1)) then (bif (v89_0 h0 h1 h2 (IntKind.i64.wrap ((v92_0 h0 h1 h2 h5_0 h5_1 h5_2 (v90_0 h0 h1 h2 t2) (v90_1 h0 h1 h2 t2))+1))) then .next (.inr (h0,h1,h2,(v92_1 h0 h1 h2 h5_0 h5_1 h5_2 (v90_0 h0 h1 h2 t2) (v90_1 h0 h1 h2 t2)),(v92_2 h0 h1 h2 h5_0 h5_1 h5_2 (v90_0 h0 h1 h2 t2) (v90_1 h0 h1 h2 t2)),(v92_3 h0 h1 h2 h5_0 h5_1 h5_2 (v90_0 h0 h1 h2 t2) (v90_1 h0 h1 h2 t2)),h7_0,h7_1,h7_2,h8,h9,h10,h11,h13))
 else (bif q90 h0 h1 h2 (IntKind.i64.wrap ((v92_0 h0 h1 h2 h5_0 h5_1 h5_2 (v90_0 h0 h1 h2 t2) (v90_1 h0 h1 h2 t2))+1)) then (bif q91 h0 h1 h2 (IntKind.i64.wrap ((v92_0 h0 h1 h2 h5_0 h5_1 h5_2 (v90_0 h0 h1 h2 t2) (v90_1 h0 h1 h2 t2))+1)) then .next (.inr ((v91_0 h0 h1 h2 (IntKind.i64.wrap ((v92_0 h0 h1 h2 h5_0 h5_1 h5_2 (v90_0 h0 h1 h2 t2) (v90_1 h0 h1 h2 t2))+1))),(v91_1 h0 h1 h2 (IntKind.i64.wrap ((v92_0 h0 h1 h2 h5_0 h5_1 h5_2 (v90_0 h0 h1 h2 t2) (v90_1 h0 h1 h2 t2))+1))),(v91_2 h0 h1 h2 (IntKind.i64.wrap ((v92_0 h0 h1 h2 h5_0 h5_1 h5_2 (v90_0 h0 h1 h2 t2) (v90_1 h0 h1 h2 t2))+1))),(v92_1 h0 h1 h2 h5_0 h5_1 h5_2 (v90_0 h0 h1 h2 t2) (v90_1 h0 h1 h2 t2)),(v92_2 h0 h1 h2 h5_0 h5_1 h5_2 (v90_0 h0 h1 h2 t2) (v90_1 h0 h1 h2 t2)),(v92_3 h0 h1 h2 h5_0 h5_1 h5_2 (v90_0 h0 h1 h2 t2) (v90_1 h0 h1 h2 t2)),h7_0,h7_1,h7_2,IntKind.i64.wrap (h8+((v91_3 h0 h1 h2 (IntKind.i64.wrap ((v92_0 h0 h1 h2 h5_0 h5_1 h5_2 (v90_0 h0 h1 h2 t2) (v90_1 h0 h1 h2 t2))+1))).length:Int)),h9,h10,h11,h13))
 else .fail)
 else .fail))
 else .fail)
 else (bif q90 h0 h1 h2 (v92_0 h0 h1 h2 h5_0 h5_1 h5_2 (v90_0 h0 h1 h2 t2) (v90_1 h0 h1 h2 t2)) then (bif q91 h0 h1 h2 (v92_0 h0 h1 h2 h5_0 h5_1 h5_2 (v90_0 h0 h1 h2 t2) (v90_1 h0 h1 h2 t2)) then (bif q89 (v91_0 h0 h1 h2 (v92_0 h0 h1 h2 h5_0 h5_1 h5_2 (v90_0 h0 h1 h2 t2) (v90_1 h0 h1 h2 t2))) (v91_1 h0 h1 h2 (v92_0 h0 h1 h2 h5_0 h5_1 h5_2 (v90_0 h0 h1 h2 t2) (v90_1 h0 h1 h2 t2))) (v91_2 h0 h1 h2 (v92_0 h0 h1 h2 h5_0 h5_1 h5_2 (v90_0 h0 h1 h2 t2) (v90_1 h0 h1 h2 t2))) (IntKind.i64.wrap ((v92_0 h0 h1 h2 h5_0 h5_1 h5_2 (v90_0 h0 h1 h2 t2) (v90_1 h0 h1 h2 t2))+1)) then (bif (v89_0 (v91_0 h0 h1 h2 (v92_0 h0 h1 h2 h5_0 h5_1 h5_2 (v90_0 h0 h1 h2 t2) (v90_1 h0 h1 h2 t2))) (v91_1 h0 h1 h2 (v92_0 h0 h1 h2 h5_0 h5_1 h5_2 (v90_0 h0 h1 h2 t2) (v90_1 h0 h1 h2 t2))) (v91_2 h0 h1 h2 (v92_0 h0 h1 h2 h5_0 h5_1 h5_2 (v90_0 h0 h1 h2 t2) (v90_1 h0 h1 h2 t2))) (IntKind.i64.wrap ((v92_0 h0 h1 h2 h5_0 h5_1 h5_2 (v90_0 h0 h1 h2 t2) (v90_1 h0 h1 h2 t2))+1))) then .next (.inr ((v91_0 h0 h1 h2 (v92_0 h0 h1 h2 h5_0 h5_1 h5_2 (v90_0 h0 h1 h2 t2) (v90_1 h0 h1 h2 t2))),(v91_1 h0 h1 h2 (v92_0 h0 h1 h2 h5_0 h5_1 h5_2 (v90_0 h0 h1 h2 t2) (v90_1 h0 h1 h2 t2))),(v91_2 h0 h1 h2 (v92_0 h0 h1 h2 h5_0 h5_1 h5_2 (v90_0 h0 h1 h2 t2) (v90_1 h0 h1 h2 t2))),(v92_1 h0 h1 h2 h5_0 h5_1 h5_2 (v90_0 h0 h1 h2 t2) (v90_1 h0 h1 h2 t2)),(v92_2 h0 h1 h2 h5_0 h5_1 h5_2 (v90_0 h0 h1 h2 t2) (v90_1 h0 h1 h2 t2)),(v92_3 h0 h1 h2 h5_0 h5_1 h5_2 (v90_0 h0 h1 h2 t2) (v90_1 h0 h1 h2 t2)),h7_0,h7_1,h7_2,IntKind.i64.wrap (h8+((v91_3 h0 h1 h2 (v92_0 h0 h1 h2 h5_0 h5_1 h5_2 (v90_0 h0 h1 h2 t2) (v90_1 h0 h1 h2 t2))).length:Int)),h9,h10,h11,h13))
 else (bif q90 (v91_0 h0 h1 h2 (v92_0 h0 h1 h2 h5_0 h5_1 h5_2 (v90_0 h0 h1 h2 t2) (v90_1 h0 h1 h2 t2))) (v91_1 h0 h1 h2 (v92_0 h0 h1 h2 h5_0 h5_1 h5_2 (v90_0 h0 h1 h2 t2) (v90_1 h0 h1 h2 t2))) (v91_2 h0 h1 h2 (v92_0 h0 h1 h2 h5_0 h5_1 h5_2 (v90_0 h0 h1 h2 t2) (v90_1 h0 h1 h2 t2))) (IntKind.i64.wrap ((v92_0 h0 h1 h2 h5_0 h5_1 h5_2 (v90_0 h0 h1 h2 t2) (v90_1 h0 h1 h2 t2))+1)) then (bif q91 (v91_0 h0 h1 h2 (v92_0 h0 h1 h2 h5_0 h5_1 h5_2 (v90_0 h0 h1 h2 t2) (v90_1 h0 h1 h2 t2))) (v91_1 h0 h1 h2 (v92_0 h0 h1 h2 h5_0 h5_1 h5_2 (v90_0 h0 h1 h2 t2) (v90_1 h0 h1 h2 t2))) (v91_2 h0 h1 h2 (v92_0 h0 h1 h2 h5_0 h5_1 h5_2 (v90_0 h0 h1 h2 t2) (v90_1 h0 h1 h2 t2))) (IntKind.i64.wrap ((v92_0 h0 h1 h2 h5_0 h5_1 h5_2 (v90_0 h0 h1 h2 t2) (v90_1 h0 h1 h2 t2))+1)) then .next (.inr ((v91_0 (v91_0 h0 h1 h2 (v92_0 h0 h1 h2 h5_0 h5_1 h5_2 (v90_0 h0 h1 h2 t2) (v90_1 h0 h1 h2 t2))) (v91_1 h0 h1 h2 (v92_0 h0 h1 h2 h5_0 h5_1 h5_2 (v90_0 h0 h1 h2 t2) (v90_1 h0 h1 h2 t2))) (v91_2 h0 h1 h2 (v92_0 h0 h1 h2 h5_0 h5_1 h5_2 (v90_0 h0 h1 h2 t2) (v90_1 h0 h1 h2 t2))) (IntKind.i64.wrap ((v92_0 h0 h1 h2 h5_0 h5_1 h5_2 (v90_0 h0 h1 h2 t2) (v90_1 h0 h1 h2 t2))+1))),(v91_1 (v91_0 h0 h1 h2 (v92_0 h0 h1 h2 h5_0 h5_1 h5_2 (v90_0 h0 h1 h2 t2) (v90_1 h0 h1 h2 t2))) (v91_1 h0 h1 h2 (v92_0 h0 h1 h2 h5_0 h5_1 h5_2 (v90_0 h0 h1 h2 t2) (v90_1 h0 h1 h2 t2))) (v91_2 h0 h1 h2 (v92_0 h0 h1 h2 h5_0 h5_1 h5_2 (v90_0 h0 h1 h2 t2) (v90_1 h0 h1 h2 t2))) (IntKind.i64.wrap ((v92_0 h0 h1 h2 h5_0 h5_1 h5_2 (v90_0 h0 h1 h2 t2) (v90_1 h0 h1 h2 t2))+1))),(v91_2 (v91_0 h0 h1 h2 (v92_0 h0 h1 h2 h5_0 h5_1 h5_2 (v90_0 h0 h1 h2 t2) (v90_1 h0 h1 h2 t2))) (v91_1 h0 h1 h2 (v92_0 h0 h1 h2 h5_0 h5_1 h5_2 (v90_0 h0 h1 h2 t2) (v90_1 h0 h1 h2 t2))) (v91_2 h0 h1 h2 (v92_0 h0 h1 h2 h5_0 h5_1 h5_2 (v90_0 h0 h1 h2 t2) (v90_1 h0 h1 h2 t2))) (IntKind.i64.wrap ((v92_0 h0 h1 h2 h5_0 h5_1 h5_2 (v90_0 h0 h1 h2 t2) (v90_1 h0 h1 h2 t2))+1))),(v92_1 h0 h1 h2 h5_0 h5_1 h5_2 (v90_0 h0 h1 h2 t2) (v90_1 h0 h1 h2 t2)),(v92_2 h0 h1 h2 h5_0 h5_1 h5_2 (v90_0 h0 h1 h2 t2) (v90_1 h0 h1 h2 t2)),(v92_3 h0 h1 h2 h5_0 h5_1 h5_2 (v90_0 h0 h1 h2 t2) (v90_1 h0 h1 h2 t2)),h7_0,h7_1,h7_2,IntKind.i64.wrap (IntKind.i64.wrap (h8+((v91_3 h0 h1 h2 (v92_0 h0 h1 h2 h5_0 h5_1 h5_2 (v90_0 h0 h1 h2 t2) (v90_1 h0 h1 h2 t2))).length:Int))+((v91_3 (v91_0 h0 h1 h2 (v92_0 h0 h1 h2 h5_0 h5_1 h5_2 (v90_0 h0 h1 h2 t2) (v90_1 h0 h1 h2 t2))) (v91_1 h0 h1 h2 (v92_0 h0 h1 h2 h5_0 h5_1 h5_2 (v90_0 h0 h1 h2 t2) (v90_1 h0 h1 h2 t2))) (v91_2 h0 h1 h2 (v92_0 h0 h1 h2 h5_0 h5_1 h5_2 (v90_0 h0 h1 h2 t2) (v90_1 h0 h1 h2 t2))) (IntKind.i64.wrap ((v92_0 h0 h1 h2 h5_0 h5_1 h5_2 (v90_0 h0 h1 h2 t2) (v90_1 h0 h1 h2 t2))+1))).length:Int)),h9,h10,h11,h13))
 else .fail)
 else .fail))
 else .fail)
 else .fail)
 else .fail))
 else .fail)
 else .fail))
 else .fail)
 else .stop (.inr (h0,h1,h2,h5_0,h5_1,h5_2,h7_0,h7_1,h7_2,h8,h9,h10,h11,h13)))
 else .fail)
 else .stop (.inr (h0,h1,h2,h5_0,h5_1,h5_2,h7_0,h7_1,h7_2,h8,h9,h10,h11,h13)))
def R79_0 (t2:Int):((Int × Int × Int × Int × Int × Int × Int × (List AV) × (List AV) × (List AV) × Int) ⊕ ((List AV) × (List AV) × (List AV) × Int × Int × Int × Int × Int × Int × Int × (List AV) × (List AV) × (List AV) × Int))→Out ((Int × Int × Int × Int × Int × Int × Int × (List AV) × (List AV) × (List AV) × Int) ⊕ ((List AV) × (List AV) × (List AV) × Int × Int × Int × Int × Int × Int × Int × (List AV) × (List AV) × (List AV) × Int)) ((Int × Int × Int × Int × Int × Int × Int × (List AV) × (List AV) × (List AV) × Int) ⊕ ((List AV) × (List AV) × (List AV) × Int × Int × Int × Int × Int × Int × Int × (List AV) × (List AV) × (List AV) × Int)):=sumE (fun s:Int × Int × Int × Int × Int × Int × Int × (List AV) × (List AV) × (List AV) × Int=>F79_0_s0 t2 s.1 s.2.1 s.2.2.1 s.2.2.2.1 s.2.2.2.2.1 s.2.2.2.2.2.1 s.2.2.2.2.2.2.1 s.2.2.2.2.2.2.2.1 s.2.2.2.2.2.2.2.2.1 s.2.2.2.2.2.2.2.2.2.1 s.2.2.2.2.2.2.2.2.2.2) (fun s:(List AV) × (List AV) × (List AV) × Int × Int × Int × Int × Int × Int × Int × (List AV) × (List AV) × (List AV) × Int=>F79_0_s1 t2 s.1 s.2.1 s.2.2.1 s.2.2.2.1 s.2.2.2.2.1 s.2.2.2.2.2.1 s.2.2.2.2.2.2.1 s.2.2.2.2.2.2.2.1 s.2.2.2.2.2.2.2.2.1 s.2.2.2.2.2.2.2.2.2.1 s.2.2.2.2.2.2.2.2.2.2.1 s.2.2.2.2.2.2.2.2.2.2.2.1 s.2.2.2.2.2.2.2.2.2.2.2.2.1 s.2.2.2.2.2.2.2.2.2.2.2.2.2)
def E79_0 (t2:Int):((Int × Int × Int × Int × Int × Int × Int × (List AV) × (List AV) × (List AV) × Int) ⊕ ((List AV) × (List AV) × (List AV) × Int × Int × Int × Int × Int × Int × Int × (List AV) × (List AV) × (List AV) × Int))→St:=sumE (fun s:Int × Int × Int × Int × Int × Int × Int × (List AV) × (List AV) × (List AV) × Int=>⟨[(2,Ai t2),(4,AV.ptr [0,4,0] 0 0),(5,AV.ptr [0,5,0] 0 0),(8,AV.ptr [0,8,0] 0 0),(9,AV.ptr [0,9,0] 0 0),(11,AV.ptr [0,11,0] 0 0),(12,AV.fn 88 [AV.ptr [0,4,0] 0 0,AV.ptr [0,11,0] 0 0,AV.ptr [0,2,12,0] 0 0])],[([0,2,12,0],⟨true,[],[AV.fn 66 [AV.ptr [4] 0 0,AV.ptr [5] 0 0]]⟩),([0,4,0],⟨true,[],[AV.agg [AV.own [1],AV.own [2],AV.own [3]]]⟩),([0,5,0],⟨true,[],[AV.agg [Ai s.1,Ai s.2.1,Ai s.2.2.1]]⟩),([0,8,0],⟨true,[],[AV.agg [AV.snil,AV.snil,AV.snil]]⟩),([0,9,0],⟨true,[],[AV.agg [Ai s.2.2.2.1,Ai s.2.2.2.2.1,Ai s.2.2.2.2.2.1]]⟩),([0,11,0],⟨true,[],[Ai s.2.2.2.2.2.2.1]⟩),([1],⟨false,[.int .i64],s.2.2.2.2.2.2.2.1⟩),([2],⟨false,[.int .i64],s.2.2.2.2.2.2.2.2.1⟩),([3],⟨false,[.int .i64,.int .i64],s.2.2.2.2.2.2.2.2.2.1⟩),([4],⟨true,[],[AV.fn 50 []]⟩),([5],⟨true,[],[Ai s.2.2.2.2.2.2.2.2.2.2]⟩)]⟩) (fun s:(List AV) × (List AV) × (List AV) × Int × Int × Int × Int × Int × Int × Int × (List AV) × (List AV) × (List AV) × Int=>⟨[(2,Ai t2),(4,AV.ptr [0,4,0] 0 0),(5,AV.ptr [0,5,0] 0 0),(8,AV.ptr [0,8,0] 0 0),(9,AV.ptr [0,9,0] 0 0),(11,AV.ptr [0,11,0] 0 0),(12,AV.fn 88 [AV.ptr [0,4,0] 0 0,AV.ptr [0,11,0] 0 0,AV.ptr [0,2,12,0] 0 0])],[([0,0,4,0],⟨false,[.int .i64],s.1⟩),([0,1,4,0],⟨false,[.int .i64],s.2.1⟩),([0,2,4,0],⟨false,[.int .i64,.int .i64],s.2.2.1⟩),([0,2,12,0],⟨true,[],[AV.fn 66 [AV.ptr [4] 0 0,AV.ptr [5] 0 0]]⟩),([0,4,0],⟨true,[],[AV.agg [AV.own [0,0,4,0],AV.own [0,1,4,0],AV.own [0,2,4,0]]]⟩),([0,5,0],⟨true,[],[AV.agg [Ai s.2.2.2.1,Ai s.2.2.2.2.1,Ai s.2.2.2.2.2.1]]⟩),([0,8,0],⟨true,[],[AV.agg [AV.snil,AV.snil,AV.snil]]⟩),([0,9,0],⟨true,[],[AV.agg [Ai s.2.2.2.2.2.2.1,Ai s.2.2.2.2.2.2.2.1,Ai s.2.2.2.2.2.2.2.2.1]]⟩),([0,11,0],⟨true,[],[Ai s.2.2.2.2.2.2.2.2.2.1]⟩),([1],⟨false,[.int .i64],s.2.2.2.2.2.2.2.2.2.2.1⟩),([2],⟨false,[.int .i64],s.2.2.2.2.2.2.2.2.2.2.2.1⟩),([3],⟨false,[.int .i64,.int .i64],s.2.2.2.2.2.2.2.2.2.2.2.2.1⟩),([4],⟨true,[],[AV.fn 50 []]⟩),([5],⟨true,[],[Ai s.2.2.2.2.2.2.2.2.2.2.2.2.2]⟩)]⟩)
def K79_0 (t2:Int) (k:Kont):((Int × Int × Int × Int × Int × Int × Int × (List AV) × (List AV) × (List AV) × Int) ⊕ ((List AV) × (List AV) × (List AV) × Int × Int × Int × Int × Int × Int × Int × (List AV) × (List AV) × (List AV) × Int))→Option AV:=sumE (fun p:Int × Int × Int × Int × Int × Int × Int × (List AV) × (List AV) × (List AV) × Int=>k (.exit 0) ⟨[(2,Ai t2),(4,AV.ptr [0,4,0] 0 0),(5,AV.ptr [0,5,0] 0 0),(8,AV.ptr [0,8,0] 0 0),(9,AV.ptr [0,9,0] 0 0),(11,AV.ptr [0,11,0] 0 0),(12,AV.fn 88 [AV.ptr [0,4,0] 0 0,AV.ptr [0,11,0] 0 0,AV.ptr [0,2,12,0] 0 0])],[([0,2,12,0],⟨true,[],[AV.fn 66 [AV.ptr [4] 0 0,AV.ptr [5] 0 0]]⟩),([0,4,0],⟨true,[],[AV.agg [AV.own [1],AV.own [2],AV.own [3]]]⟩),([0,5,0],⟨true,[],[AV.agg [Ai p.1,Ai p.2.1,Ai p.2.2.1]]⟩),([0,8,0],⟨true,[],[AV.agg [AV.snil,AV.snil,AV.snil]]⟩),([0,9,0],⟨true,[],[AV.agg [Ai p.2.2.2.1,Ai p.2.2.2.2.1,Ai p.2.2.2.2.2.1]]⟩),([0,11,0],⟨true,[],[Ai p.2.2.2.2.2.2.1]⟩),([1],⟨false,[.int .i64],p.2.2.2.2.2.2.2.1⟩),([2],⟨false,[.int .i64],p.2.2.2.2.2.2.2.2.1⟩),([3],⟨false,[.int .i64,.int .i64],p.2.2.2.2.2.2.2.2.2.1⟩),([4],⟨true,[],[AV.fn 50 []]⟩),([5],⟨true,[],[Ai p.2.2.2.2.2.2.2.2.2.2]⟩)]⟩) (fun p:(List AV) × (List AV) × (List AV) × Int × Int × Int × Int × Int × Int × Int × (List AV) × (List AV) × (List AV) × Int=>k (.exit 0) ⟨[(2,Ai t2),(4,AV.ptr [0,4,0] 0 0),(5,AV.ptr [0,5,0] 0 0),(8,AV.ptr [0,8,0] 0 0),(9,AV.ptr [0,9,0] 0 0),(11,AV.ptr [0,11,0] 0 0),(12,AV.fn 88 [AV.ptr [0,4,0] 0 0,AV.ptr [0,11,0] 0 0,AV.ptr [0,2,12,0] 0 0])],[([0,0,4,0],⟨false,[.int .i64],p.1⟩),([0,1,4,0],⟨false,[.int .i64],p.2.1⟩),([0,2,4,0],⟨false,[.int .i64,.int .i64],p.2.2.1⟩),([0,2,12,0],⟨true,[],[AV.fn 66 [AV.ptr [4] 0 0,AV.ptr [5] 0 0]]⟩),([0,4,0],⟨true,[],[AV.agg [AV.own [0,0,4,0],AV.own [0,1,4,0],AV.own [0,2,4,0]]]⟩),([0,5,0],⟨true,[],[AV.agg [Ai p.2.2.2.1,Ai p.2.2.2.2.1,Ai p.2.2.2.2.2.1]]⟩),([0,8,0],⟨true,[],[AV.agg [AV.snil,AV.snil,AV.snil]]⟩),([0,9,0],⟨true,[],[AV.agg [Ai p.2.2.2.2.2.2.1,Ai p.2.2.2.2.2.2.2.1,Ai p.2.2.2.2.2.2.2.2.1]]⟩),([0,11,0],⟨true,[],[Ai p.2.2.2.2.2.2.2.2.2.1]⟩),([1],⟨false,[.int .i64],p.2.2.2.2.2.2.2.2.2.2.1⟩),([2],⟨false,[.int .i64],p.2.2.2.2.2.2.2.2.2.2.2.1⟩),([3],⟨false,[.int .i64,.int .i64],p.2.2.2.2.2.2.2.2.2.2.2.2.1⟩),([4],⟨true,[],[AV.fn 50 []]⟩),([5],⟨true,[],[Ai p.2.2.2.2.2.2.2.2.2.2.2.2.2]⟩)]⟩)
def l79_0:LModel:=fun _ _ st k=>match st with
 | ⟨[(2,.int .i64 t2),(4,.ptr g0 g1 g2),(5,.ptr g3 g4 g5),(8,.ptr g6 g7 g8),(9,.ptr g9 g10 g11),(11,.ptr g12 g13 g14),(12,.fn g15 [.ptr g16 g17 g18,.ptr g19 g20 g21,.ptr g22 g23 g24])],[(g25,⟨true,[],[.fn g26 [.ptr g27 g28 g29,.ptr g30 g31 g32]]⟩),(g33,⟨true,[],[.agg [.own g34,.own g35,.own g36]]⟩),(g37,⟨true,[],[.agg [.int .i64 h2_0,.int .i64 h2_1,.int .i64 h2_2]]⟩),(g38,⟨true,[],[.agg [.snil,.snil,.snil]]⟩),(g39,⟨true,[],[.agg [.int .i64 h4_0,.int .i64 h4_1,.int .i64 h4_2]]⟩),(g40,⟨true,[],[.int .i64 h5]⟩),(g41,⟨false,g42,h6⟩),(g43,⟨false,g44,h7⟩),(g45,⟨false,g46,h8⟩),(g47,⟨true,[],[.fn g48 []]⟩),(g49,⟨true,[],[.int .i64 h10]⟩)]⟩=>bif nmEq g0 ([0,4,0]) && Nat.beq g1 0 && Nat.beq g2 0 && nmEq g3 ([0,5,0]) && Nat.beq g4 0 && Nat.beq g5 0 && nmEq g6 ([0,8,0]) && Nat.beq g7 0 && Nat.beq g8 0 && nmEq g9 ([0,9,0]) && Nat.beq g10 0 && Nat.beq g11 0 && nmEq g12 ([0,11,0]) && Nat.beq g13 0 && Nat.beq g14 0 && Nat.beq g15 88 && nmEq g16 ([0,4,0]) && Nat.beq g17 0 && Nat.beq g18 0 && nmEq g19 ([0,11,0]) && Nat.beq g20 0 && Nat.beq g21 0 && nmEq g22 ([0,2,12,0]) && Nat.beq g23 0 && Nat.beq g24 0 && nmEq g25 ([0,2,12,0]) && Nat.beq g26 66 && nmEq g27 ([4]) && Nat.beq g28 0 && Nat.beq g29 0 && nmEq g30 ([5]) && Nat.beq g31 0 && Nat.beq g32 0 && nmEq g33 ([0,4,0]) && nmEq g34 ([1]) && nmEq g35 ([2]) && nmEq g36 ([3]) && nmEq g37 ([0,5,0]) && nmEq g38 ([0,8,0]) && nmEq g39 ([0,9,0]) && nmEq g40 ([0,11,0]) && nmEq g41 ([1]) && ctsEq g42 ([.int .i64]) && nmEq g43 ([2]) && ctsEq g44 ([.int .i64]) && nmEq g45 ([3]) && ctsEq g46 ([.int .i64,.int .i64]) && nmEq g47 ([4]) && Nat.beq g48 50 && nmEq g49 ([5]) then ro (runW (R79_0 t2) (2100) (.inl (h2_0,h2_1,h2_2,h4_0,h4_1,h4_2,h5,h6,h7,h8,h10))) none (K79_0 t2 k) else none
 | ⟨[(2,.int .i64 t2),(4,.ptr g0 g1 g2),(5,.ptr g3 g4 g5),(8,.ptr g6 g7 g8),(9,.ptr g9 g10 g11),(11,.ptr g12 g13 g14),(12,.fn g15 [.ptr g16 g17 g18,.ptr g19 g20 g21,.ptr g22 g23 g24])],[(g25,⟨false,g26,h0⟩),(g27,⟨false,g28,h1⟩),(g29,⟨false,g30,h2⟩),(g31,⟨true,[],[.fn g32 [.ptr g33 g34 g35,.ptr g36 g37 g38]]⟩),(g39,⟨true,[],[.agg [.own g40,.own g41,.own g42]]⟩),(g43,⟨true,[],[.agg [.int .i64 h5_0,.int .i64 h5_1,.int .i64 h5_2]]⟩),(g44,⟨true,[],[.agg [.snil,.snil,.snil]]⟩),(g45,⟨true,[],[.agg [.int .i64 h7_0,.int .i64 h7_1,.int .i64 h7_2]]⟩),(g46,⟨true,[],[.int .i64 h8]⟩),(g47,⟨false,g48,h9⟩),(g49,⟨false,g50,h10⟩),(g51,⟨false,g52,h11⟩),(g53,⟨true,[],[.fn g54 []]⟩),(g55,⟨true,[],[.int .i64 h13]⟩)]⟩=>bif nmEq g0 ([0,4,0]) && Nat.beq g1 0 && Nat.beq g2 0 && nmEq g3 ([0,5,0]) && Nat.beq g4 0 && Nat.beq g5 0 && nmEq g6 ([0,8,0]) && Nat.beq g7 0 && Nat.beq g8 0 && nmEq g9 ([0,9,0]) && Nat.beq g10 0 && Nat.beq g11 0 && nmEq g12 ([0,11,0]) && Nat.beq g13 0 && Nat.beq g14 0 && Nat.beq g15 88 && nmEq g16 ([0,4,0]) && Nat.beq g17 0 && Nat.beq g18 0 && nmEq g19 ([0,11,0]) && Nat.beq g20 0 && Nat.beq g21 0 && nmEq g22 ([0,2,12,0]) && Nat.beq g23 0 && Nat.beq g24 0 && nmEq g25 ([0,0,4,0]) && ctsEq g26 ([.int .i64]) && nmEq g27 ([0,1,4,0]) && ctsEq g28 ([.int .i64]) && nmEq g29 ([0,2,4,0]) && ctsEq g30 ([.int .i64,.int .i64]) && nmEq g31 ([0,2,12,0]) && Nat.beq g32 66 && nmEq g33 ([4]) && Nat.beq g34 0 && Nat.beq g35 0 && nmEq g36 ([5]) && Nat.beq g37 0 && Nat.beq g38 0 && nmEq g39 ([0,4,0]) && nmEq g40 ([0,0,4,0]) && nmEq g41 ([0,1,4,0]) && nmEq g42 ([0,2,4,0]) && nmEq g43 ([0,5,0]) && nmEq g44 ([0,8,0]) && nmEq g45 ([0,9,0]) && nmEq g46 ([0,11,0]) && nmEq g47 ([1]) && ctsEq g48 ([.int .i64]) && nmEq g49 ([2]) && ctsEq g50 ([.int .i64]) && nmEq g51 ([3]) && ctsEq g52 ([.int .i64,.int .i64]) && nmEq g53 ([4]) && Nat.beq g54 50 && nmEq g55 ([5]) then ro (runW (R79_0 t2) (2100) (.inr (h0,h1,h2,h5_0,h5_1,h5_2,h7_0,h7_1,h7_2,h8,h9,h10,h11,h13))) none (K79_0 t2 k) else none
 | _=>none
noncomputable def c79:Cfg:=cfg Tryz.prog [(79,0,[2,4,5,8,9,11,12]),(79,999,[8,9,10]),(79,1000,[2,4,5,8,9,11,12]),(79,1001,[2,4,5,8,9,11,12]),(88,999,[])] [(66,m66),(89,m89),(90,m90),(91,m91),(92,m92)] [] [88] [(79,0,l79_0)]
theorem s79_0_s0 (t2 h2_0 h2_1 h2_2 h4_0 h4_1 h4_2 h5:Int) (h6 h7 h8:List AV) (h10:Int) (next:St→Option AV) (k:Kont):stepA (codeA c79 (inlA c79 1) [0] 79 0 (sub [1,1,1,0,0,0] (body Tryz.f79))) (normA [0] [2,4,5,8,9,11,12]) next ⟨[(2,Ai t2),(4,AV.ptr [0,4,0] 0 0),(5,AV.ptr [0,5,0] 0 0),(8,AV.ptr [0,8,0] 0 0),(9,AV.ptr [0,9,0] 0 0),(11,AV.ptr [0,11,0] 0 0),(12,AV.fn 88 [AV.ptr [0,4,0] 0 0,AV.ptr [0,11,0] 0 0,AV.ptr [0,2,12,0] 0 0])],[([0,2,12,0],⟨true,[],[AV.fn 66 [AV.ptr [4] 0 0,AV.ptr [5] 0 0]]⟩),([0,4,0],⟨true,[],[AV.agg [AV.own [1],AV.own [2],AV.own [3]]]⟩),([0,5,0],⟨true,[],[AV.agg [Ai h2_0,Ai h2_1,Ai h2_2]]⟩),([0,8,0],⟨true,[],[AV.agg [AV.snil,AV.snil,AV.snil]]⟩),([0,9,0],⟨true,[],[AV.agg [Ai h4_0,Ai h4_1,Ai h4_2]]⟩),([0,11,0],⟨true,[],[Ai h5]⟩),([1],⟨false,[.int .i64],h6⟩),([2],⟨false,[.int .i64],h7⟩),([3],⟨false,[.int .i64,.int .i64],h8⟩),([4],⟨true,[],[AV.fn 50 []]⟩),([5],⟨true,[],[Ai h10]⟩)]⟩ k=(bif !decide (h2_0=0) then (bif q89 h6 h7 h8 t2 then (bif !(v89_0 h6 h7 h8 t2) then (bif q90 h6 h7 h8 t2 then (bif decide (IntKind.i64.wrap ((v90_1 h6 h7 h8 t2) - (v90_0 h6 h7 h8 t2))≤h2_1) then k (.exit 0) ⟨[(2,Ai t2),(4,AV.ptr [0,4,0] 0 0),(5,AV.ptr [0,5,0] 0 0),(8,AV.ptr [0,8,0] 0 0),(9,AV.ptr [0,9,0] 0 0),(11,AV.ptr [0,11,0] 0 0),(12,AV.fn 88 [AV.ptr [0,4,0] 0 0,AV.ptr [0,11,0] 0 0,AV.ptr [0,2,12,0] 0 0])],[([0,2,12,0],⟨true,[],[AV.fn 66 [AV.ptr [4] 0 0,AV.ptr [5] 0 0]]⟩),([0,4,0],⟨true,[],[AV.agg [AV.own [1],AV.own [2],AV.own [3]]]⟩),([0,5,0],⟨true,[],[AV.agg [Ai h2_0,Ai h2_1,Ai h2_2]]⟩),([0,8,0],⟨true,[],[AV.agg [AV.snil,AV.snil,AV.snil]]⟩),([0,9,0],⟨true,[],[AV.agg [Ai h4_0,Ai h4_1,Ai h4_2]]⟩),([0,11,0],⟨true,[],[Ai h5]⟩),([1],⟨false,[.int .i64],h6⟩),([2],⟨false,[.int .i64],h7⟩),([3],⟨false,[.int .i64,.int .i64],h8⟩),([4],⟨true,[],[AV.fn 50 []]⟩),([5],⟨true,[],[Ai h10]⟩)]⟩
 else (bif q92 h6 h7 h8 h2_0 h2_1 h2_2 (v90_0 h6 h7 h8 t2) (v90_1 h6 h7 h8 t2) then (bif q89 h6 h7 h8 (v92_0 h6 h7 h8 h2_0 h2_1 h2_2 (v90_0 h6 h7 h8 t2) (v90_1 h6 h7 h8 t2)) then (bif (v89_0 h6 h7 h8 (v92_0 h6 h7 h8 h2_0 h2_1 h2_2 (v90_0 h6 h7 h8 t2) (v90_1 h6 h7 h8 t2))) then (bif q89 h6 h7 h8 (IntKind.i64.wrap ((v92_0 h6 h7 h8 h2_0 h2_1 h2_2 (v90_0 h6 h7 h8 t2) (v90_1 h6 h7 h8 t2))+1)) then (bif (v89_0 h6 h7 h8 (IntKind.i64.wrap ((v92_0 h6 h7 h8 h2_0 h2_1 h2_2 (v90_0 h6 h7 h8 t2) (v90_1 h6 h7 h8 t2))+1))) then next ⟨[(2,Ai t2),(4,AV.ptr [0,4,0] 0 0),(5,AV.ptr [0,5,0] 0 0),(8,AV.ptr [0,8,0] 0 0),(9,AV.ptr [0,9,0] 0 0),(11,AV.ptr [0,11,0] 0 0),(12,AV.fn 88 [AV.ptr [0,4,0] 0 0,AV.ptr [0,11,0] 0 0,AV.ptr [0,2,12,0] 0 0])],[([0,2,12,0],⟨true,[],[AV.fn 66 [AV.ptr [4] 0 0,AV.ptr [5] 0 0]]⟩),([0,4,0],⟨true,[],[AV.agg [AV.own [1],AV.own [2],AV.own [3]]]⟩),([0,5,0],⟨true,[],[AV.agg [Ai (v92_1 h6 h7 h8 h2_0 h2_1 h2_2 (v90_0 h6 h7 h8 t2) (v90_1 h6 h7 h8 t2)),Ai (v92_2 h6 h7 h8 h2_0 h2_1 h2_2 (v90_0 h6 h7 h8 t2) (v90_1 h6 h7 h8 t2)),Ai (v92_3 h6 h7 h8 h2_0 h2_1 h2_2 (v90_0 h6 h7 h8 t2) (v90_1 h6 h7 h8 t2))]]⟩),([0,8,0],⟨true,[],[AV.agg [AV.snil,AV.snil,AV.snil]]⟩),([0,9,0],⟨true,[],[AV.agg [Ai h4_0,Ai h4_1,Ai h4_2]]⟩),([0,11,0],⟨true,[],[Ai h5]⟩),([1],⟨false,[.int .i64],h6⟩),([2],⟨false,[.int .i64],h7⟩),([3],⟨false,[.int .i64,.int .i64],h8⟩),([4],⟨true,[],[AV.fn 50 []]⟩),([5],⟨true,[],[Ai h10]⟩)]⟩
 else (bif q90 h6 h7 h8 (IntKind.i64.wrap ((v92_0 h6 h7 h8 h2_0 h2_1 h2_2 (v90_0 h6 h7 h8 t2) (v90_1 h6 h7 h8 t2))+1)) then (bif q91 h6 h7 h8 (IntKind.i64.wrap ((v92_0 h6 h7 h8 h2_0 h2_1 h2_2 (v90_0 h6 h7 h8 t2) (v90_1 h6 h7 h8 t2))+1)) then next ⟨[(2,Ai t2),(4,AV.ptr [0,4,0] 0 0),(5,AV.ptr [0,5,0] 0 0),(8,AV.ptr [0,8,0] 0 0),(9,AV.ptr [0,9,0] 0 0),(11,AV.ptr [0,11,0] 0 0),(12,AV.fn 88 [AV.ptr [0,4,0] 0 0,AV.ptr [0,11,0] 0 0,AV.ptr [0,2,12,0] 0 0])],[([0,0,4,0],⟨false,[.int .i64],(v91_0 h6 h7 h8 (IntKind.i64.wrap ((v92_0 h6 h7 h8 h2_0 h2_1 h2_2 (v90_0 h6 h7 h8 t2) (v90_1 h6 h7 h8 t2))+1)))⟩),([0,1,4,0],⟨false,[.int .i64],(v91_1 h6 h7 h8 (IntKind.i64.wrap ((v92_0 h6 h7 h8 h2_0 h2_1 h2_2 (v90_0 h6 h7 h8 t2) (v90_1 h6 h7 h8 t2))+1)))⟩),([0,2,4,0],⟨false,[.int .i64,.int .i64],(v91_2 h6 h7 h8 (IntKind.i64.wrap ((v92_0 h6 h7 h8 h2_0 h2_1 h2_2 (v90_0 h6 h7 h8 t2) (v90_1 h6 h7 h8 t2))+1)))⟩),([0,2,12,0],⟨true,[],[AV.fn 66 [AV.ptr [4] 0 0,AV.ptr [5] 0 0]]⟩),([0,4,0],⟨true,[],[AV.agg [AV.own [0,0,4,0],AV.own [0,1,4,0],AV.own [0,2,4,0]]]⟩),([0,5,0],⟨true,[],[AV.agg [Ai (v92_1 h6 h7 h8 h2_0 h2_1 h2_2 (v90_0 h6 h7 h8 t2) (v90_1 h6 h7 h8 t2)),Ai (v92_2 h6 h7 h8 h2_0 h2_1 h2_2 (v90_0 h6 h7 h8 t2) (v90_1 h6 h7 h8 t2)),Ai (v92_3 h6 h7 h8 h2_0 h2_1 h2_2 (v90_0 h6 h7 h8 t2) (v90_1 h6 h7 h8 t2))]]⟩),([0,8,0],⟨true,[],[AV.agg [AV.snil,AV.snil,AV.snil]]⟩),([0,9,0],⟨true,[],[AV.agg [Ai h4_0,Ai h4_1,Ai h4_2]]⟩),([0,11,0],⟨true,[],[Ai (IntKind.i64.wrap (h5+((v91_3 h6 h7 h8 (IntKind.i64.wrap ((v92_0 h6 h7 h8 h2_0 h2_1 h2_2 (v90_0 h6 h7 h8 t2) (v90_1 h6 h7 h8 t2))+1))).length:Int)))]⟩),([1],⟨false,[.int .i64],h6⟩),([2],⟨false,[.int .i64],h7⟩),([3],⟨false,[.int .i64,.int .i64],h8⟩),([4],⟨true,[],[AV.fn 50 []]⟩),([5],⟨true,[],[Ai h10]⟩)]⟩
 else none)
 else none))
 else none)
 else (bif q90 h6 h7 h8 (v92_0 h6 h7 h8 h2_0 h2_1 h2_2 (v90_0 h6 h7 h8 t2) (v90_1 h6 h7 h8 t2)) then (bif q91 h6 h7 h8 (v92_0 h6 h7 h8 h2_0 h2_1 h2_2 (v90_0 h6 h7 h8 t2) (v90_1 h6 h7 h8 t2)) then (bif q89 (v91_0 h6 h7 h8 (v92_0 h6 h7 h8 h2_0 h2_1 h2_2 (v90_0 h6 h7 h8 t2) (v90_1 h6 h7 h8 t2))) (v91_1 h6 h7 h8 (v92_0 h6 h7 h8 h2_0 h2_1 h2_2 (v90_0 h6 h7 h8 t2) (v90_1 h6 h7 h8 t2))) (v91_2 h6 h7 h8 (v92_0 h6 h7 h8 h2_0 h2_1 h2_2 (v90_0 h6 h7 h8 t2) (v90_1 h6 h7 h8 t2))) (IntKind.i64.wrap ((v92_0 h6 h7 h8 h2_0 h2_1 h2_2 (v90_0 h6 h7 h8 t2) (v90_1 h6 h7 h8 t2))+1)) then (bif (v89_0 (v91_0 h6 h7 h8 (v92_0 h6 h7 h8 h2_0 h2_1 h2_2 (v90_0 h6 h7 h8 t2) (v90_1 h6 h7 h8 t2))) (v91_1 h6 h7 h8 (v92_0 h6 h7 h8 h2_0 h2_1 h2_2 (v90_0 h6 h7 h8 t2) (v90_1 h6 h7 h8 t2))) (v91_2 h6 h7 h8 (v92_0 h6 h7 h8 h2_0 h2_1 h2_2 (v90_0 h6 h7 h8 t2) (v90_1 h6 h7 h8 t2))) (IntKind.i64.wrap ((v92_0 h6 h7 h8 h2_0 h2_1 h2_2 (v90_0 h6 h7 h8 t2) (v90_1 h6 h7 h8 t2))+1))) then next ⟨[(2,Ai t2),(4,AV.ptr [0,4,0] 0 0),(5,AV.ptr [0,5,0] 0 0),(8,AV.ptr [0,8,0] 0 0),(9,AV.ptr [0,9,0] 0 0),(11,AV.ptr [0,11,0] 0 0),(12,AV.fn 88 [AV.ptr [0,4,0] 0 0,AV.ptr [0,11,0] 0 0,AV.ptr [0,2,12,0] 0 0])],[([0,0,4,0],⟨false,[.int .i64],(v91_0 h6 h7 h8 (v92_0 h6 h7 h8 h2_0 h2_1 h2_2 (v90_0 h6 h7 h8 t2) (v90_1 h6 h7 h8 t2)))⟩),([0,1,4,0],⟨false,[.int .i64],(v91_1 h6 h7 h8 (v92_0 h6 h7 h8 h2_0 h2_1 h2_2 (v90_0 h6 h7 h8 t2) (v90_1 h6 h7 h8 t2)))⟩),([0,2,4,0],⟨false,[.int .i64,.int .i64],(v91_2 h6 h7 h8 (v92_0 h6 h7 h8 h2_0 h2_1 h2_2 (v90_0 h6 h7 h8 t2) (v90_1 h6 h7 h8 t2)))⟩),([0,2,12,0],⟨true,[],[AV.fn 66 [AV.ptr [4] 0 0,AV.ptr [5] 0 0]]⟩),([0,4,0],⟨true,[],[AV.agg [AV.own [0,0,4,0],AV.own [0,1,4,0],AV.own [0,2,4,0]]]⟩),([0,5,0],⟨true,[],[AV.agg [Ai (v92_1 h6 h7 h8 h2_0 h2_1 h2_2 (v90_0 h6 h7 h8 t2) (v90_1 h6 h7 h8 t2)),Ai (v92_2 h6 h7 h8 h2_0 h2_1 h2_2 (v90_0 h6 h7 h8 t2) (v90_1 h6 h7 h8 t2)),Ai (v92_3 h6 h7 h8 h2_0 h2_1 h2_2 (v90_0 h6 h7 h8 t2) (v90_1 h6 h7 h8 t2))]]⟩),([0,8,0],⟨true,[],[AV.agg [AV.snil,AV.snil,AV.snil]]⟩),([0,9,0],⟨true,[],[AV.agg [Ai h4_0,Ai h4_1,Ai h4_2]]⟩),([0,11,0],⟨true,[],[Ai (IntKind.i64.wrap (h5+((v91_3 h6 h7 h8 (v92_0 h6 h7 h8 h2_0 h2_1 h2_2 (v90_0 h6 h7 h8 t2) (v90_1 h6 h7 h8 t2))).length:Int)))]⟩),([1],⟨false,[.int .i64],h6⟩),([2],⟨false,[.int .i64],h7⟩),([3],⟨false,[.int .i64,.int .i64],h8⟩),([4],⟨true,[],[AV.fn 50 []]⟩),([5],⟨true,[],[Ai h10]⟩)]⟩
 else (bif q90 (v91_0 h6 h7 h8 (v92_0 h6 h7 h8 h2_0 h2_1 h2_2 (v90_0 h6 h7 h8 t2) (v90_1 h6 h7 h8 t2))) (v91_1 h6 h7 h8 (v92_0 h6 h7 h8 h2_0 h2_1 h2_2 (v90_0 h6 h7 h8 t2) (v90_1 h6 h7 h8 t2))) (v91_2 h6 h7 h8 (v92_0 h6 h7 h8 h2_0 h2_1 h2_2 (v90_0 h6 h7 h8 t2) (v90_1 h6 h7 h8 t2))) (IntKind.i64.wrap ((v92_0 h6 h7 h8 h2_0 h2_1 h2_2 (v90_0 h6 h7 h8 t2) (v90_1 h6 h7 h8 t2))+1)) then (bif q91 (v91_0 h6 h7 h8 (v92_0 h6 h7 h8 h2_0 h2_1 h2_2 (v90_0 h6 h7 h8 t2) (v90_1 h6 h7 h8 t2))) (v91_1 h6 h7 h8 (v92_0 h6 h7 h8 h2_0 h2_1 h2_2 (v90_0 h6 h7 h8 t2) (v90_1 h6 h7 h8 t2))) (v91_2 h6 h7 h8 (v92_0 h6 h7 h8 h2_0 h2_1 h2_2 (v90_0 h6 h7 h8 t2) (v90_1 h6 h7 h8 t2))) (IntKind.i64.wrap ((v92_0 h6 h7 h8 h2_0 h2_1 h2_2 (v90_0 h6 h7 h8 t2) (v90_1 h6 h7 h8 t2))+1)) then next ⟨[(2,Ai t2),(4,AV.ptr [0,4,0] 0 0),(5,AV.ptr [0,5,0] 0 0),(8,AV.ptr [0,8,0] 0 0),(9,AV.ptr [0,9,0] 0 0),(11,AV.ptr [0,11,0] 0 0),(12,AV.fn 88 [AV.ptr [0,4,0] 0 0,AV.ptr [0,11,0] 0 0,AV.ptr [0,2,12,0] 0 0])],[([0,0,4,0],⟨false,[.int .i64],(v91_0 (v91_0 h6 h7 h8 (v92_0 h6 h7 h8 h2_0 h2_1 h2_2 (v90_0 h6 h7 h8 t2) (v90_1 h6 h7 h8 t2))) (v91_1 h6 h7 h8 (v92_0 h6 h7 h8 h2_0 h2_1 h2_2 (v90_0 h6 h7 h8 t2) (v90_1 h6 h7 h8 t2))) (v91_2 h6 h7 h8 (v92_0 h6 h7 h8 h2_0 h2_1 h2_2 (v90_0 h6 h7 h8 t2) (v90_1 h6 h7 h8 t2))) (IntKind.i64.wrap ((v92_0 h6 h7 h8 h2_0 h2_1 h2_2 (v90_0 h6 h7 h8 t2) (v90_1 h6 h7 h8 t2))+1)))⟩),([0,1,4,0],⟨false,[.int .i64],(v91_1 (v91_0 h6 h7 h8 (v92_0 h6 h7 h8 h2_0 h2_1 h2_2 (v90_0 h6 h7 h8 t2) (v90_1 h6 h7 h8 t2))) (v91_1 h6 h7 h8 (v92_0 h6 h7 h8 h2_0 h2_1 h2_2 (v90_0 h6 h7 h8 t2) (v90_1 h6 h7 h8 t2))) (v91_2 h6 h7 h8 (v92_0 h6 h7 h8 h2_0 h2_1 h2_2 (v90_0 h6 h7 h8 t2) (v90_1 h6 h7 h8 t2))) (IntKind.i64.wrap ((v92_0 h6 h7 h8 h2_0 h2_1 h2_2 (v90_0 h6 h7 h8 t2) (v90_1 h6 h7 h8 t2))+1)))⟩),([0,2,4,0],⟨false,[.int .i64,.int .i64],(v91_2 (v91_0 h6 h7 h8 (v92_0 h6 h7 h8 h2_0 h2_1 h2_2 (v90_0 h6 h7 h8 t2) (v90_1 h6 h7 h8 t2))) (v91_1 h6 h7 h8 (v92_0 h6 h7 h8 h2_0 h2_1 h2_2 (v90_0 h6 h7 h8 t2) (v90_1 h6 h7 h8 t2))) (v91_2 h6 h7 h8 (v92_0 h6 h7 h8 h2_0 h2_1 h2_2 (v90_0 h6 h7 h8 t2) (v90_1 h6 h7 h8 t2))) (IntKind.i64.wrap ((v92_0 h6 h7 h8 h2_0 h2_1 h2_2 (v90_0 h6 h7 h8 t2) (v90_1 h6 h7 h8 t2))+1)))⟩),([0,2,12,0],⟨true,[],[AV.fn 66 [AV.ptr [4] 0 0,AV.ptr [5] 0 0]]⟩),([0,4,0],⟨true,[],[AV.agg [AV.own [0,0,4,0],AV.own [0,1,4,0],AV.own [0,2,4,0]]]⟩),([0,5,0],⟨true,[],[AV.agg [Ai (v92_1 h6 h7 h8 h2_0 h2_1 h2_2 (v90_0 h6 h7 h8 t2) (v90_1 h6 h7 h8 t2)),Ai (v92_2 h6 h7 h8 h2_0 h2_1 h2_2 (v90_0 h6 h7 h8 t2) (v90_1 h6 h7 h8 t2)),Ai (v92_3 h6 h7 h8 h2_0 h2_1 h2_2 (v90_0 h6 h7 h8 t2) (v90_1 h6 h7 h8 t2))]]⟩),([0,8,0],⟨true,[],[AV.agg [AV.snil,AV.snil,AV.snil]]⟩),([0,9,0],⟨true,[],[AV.agg [Ai h4_0,Ai h4_1,Ai h4_2]]⟩),([0,11,0],⟨true,[],[Ai (IntKind.i64.wrap (IntKind.i64.wrap (h5+((v91_3 h6 h7 h8 (v92_0 h6 h7 h8 h2_0 h2_1 h2_2 (v90_0 h6 h7 h8 t2) (v90_1 h6 h7 h8 t2))).length:Int))+((v91_3 (v91_0 h6 h7 h8 (v92_0 h6 h7 h8 h2_0 h2_1 h2_2 (v90_0 h6 h7 h8 t2) (v90_1 h6 h7 h8 t2))) (v91_1 h6 h7 h8 (v92_0 h6 h7 h8 h2_0 h2_1 h2_2 (v90_0 h6 h7 h8 t2) (v90_1 h6 h7 h8 t2))) (v91_2 h6 h7 h8 (v92_0 h6 h7 h8 h2_0 h2_1 h2_2 (v90_0 h6 h7 h8 t2) (v90_1 h6 h7 h8 t2))) (IntKind.i64.wrap ((v92_0 h6 h7 h8 h2_0 h2_1 h2_2 (v90_0 h6 h7 h8 t2) (v90_1 h6 h7 h8 t2))+1))).length:Int)))]⟩),([1],⟨false,[.int .i64],h6⟩),([2],⟨false,[.int .i64],h7⟩),([3],⟨false,[.int .i64,.int .i64],h8⟩),([4],⟨true,[],[AV.fn 50 []]⟩),([5],⟨true,[],[Ai h10]⟩)]⟩
 else none)
 else none))
 else none)
 else none)
 else none))
 else none)
 else none))
 else none)
 else k (.exit 0) ⟨[(2,Ai t2),(4,AV.ptr [0,4,0] 0 0),(5,AV.ptr [0,5,0] 0 0),(8,AV.ptr [0,8,0] 0 0),(9,AV.ptr [0,9,0] 0 0),(11,AV.ptr [0,11,0] 0 0),(12,AV.fn 88 [AV.ptr [0,4,0] 0 0,AV.ptr [0,11,0] 0 0,AV.ptr [0,2,12,0] 0 0])],[([0,2,12,0],⟨true,[],[AV.fn 66 [AV.ptr [4] 0 0,AV.ptr [5] 0 0]]⟩),([0,4,0],⟨true,[],[AV.agg [AV.own [1],AV.own [2],AV.own [3]]]⟩),([0,5,0],⟨true,[],[AV.agg [Ai h2_0,Ai h2_1,Ai h2_2]]⟩),([0,8,0],⟨true,[],[AV.agg [AV.snil,AV.snil,AV.snil]]⟩),([0,9,0],⟨true,[],[AV.agg [Ai h4_0,Ai h4_1,Ai h4_2]]⟩),([0,11,0],⟨true,[],[Ai h5]⟩),([1],⟨false,[.int .i64],h6⟩),([2],⟨false,[.int .i64],h7⟩),([3],⟨false,[.int .i64,.int .i64],h8⟩),([4],⟨true,[],[AV.fn 50 []]⟩),([5],⟨true,[],[Ai h10]⟩)]⟩)
 else none)
 else k (.exit 0) ⟨[(2,Ai t2),(4,AV.ptr [0,4,0] 0 0),(5,AV.ptr [0,5,0] 0 0),(8,AV.ptr [0,8,0] 0 0),(9,AV.ptr [0,9,0] 0 0),(11,AV.ptr [0,11,0] 0 0),(12,AV.fn 88 [AV.ptr [0,4,0] 0 0,AV.ptr [0,11,0] 0 0,AV.ptr [0,2,12,0] 0 0])],[([0,2,12,0],⟨true,[],[AV.fn 66 [AV.ptr [4] 0 0,AV.ptr [5] 0 0]]⟩),([0,4,0],⟨true,[],[AV.agg [AV.own [1],AV.own [2],AV.own [3]]]⟩),([0,5,0],⟨true,[],[AV.agg [Ai h2_0,Ai h2_1,Ai h2_2]]⟩),([0,8,0],⟨true,[],[AV.agg [AV.snil,AV.snil,AV.snil]]⟩),([0,9,0],⟨true,[],[AV.agg [Ai h4_0,Ai h4_1,Ai h4_2]]⟩),([0,11,0],⟨true,[],[Ai h5]⟩),([1],⟨false,[.int .i64],h6⟩),([2],⟨false,[.int .i64],h7⟩),([3],⟨false,[.int .i64,.int .i64],h8⟩),([4],⟨true,[],[AV.fn 50 []]⟩),([5],⟨true,[],[Ai h10]⟩)]⟩):=by kernel_rfl
theorem s79_0_s1 (t2:Int) (h0 h1 h2:List AV) (h5_0 h5_1 h5_2 h7_0 h7_1 h7_2 h8:Int) (h9 h10 h11:List AV) (h13:Int) (next:St→Option AV) (k:Kont):stepA (codeA c79 (inlA c79 1) [0] 79 0 (sub [1,1,1,0,0,0] (body Tryz.f79))) (normA [0] [2,4,5,8,9,11,12]) next ⟨[(2,Ai t2),(4,AV.ptr [0,4,0] 0 0),(5,AV.ptr [0,5,0] 0 0),(8,AV.ptr [0,8,0] 0 0),(9,AV.ptr [0,9,0] 0 0),(11,AV.ptr [0,11,0] 0 0),(12,AV.fn 88 [AV.ptr [0,4,0] 0 0,AV.ptr [0,11,0] 0 0,AV.ptr [0,2,12,0] 0 0])],[([0,0,4,0],⟨false,[.int .i64],h0⟩),([0,1,4,0],⟨false,[.int .i64],h1⟩),([0,2,4,0],⟨false,[.int .i64,.int .i64],h2⟩),([0,2,12,0],⟨true,[],[AV.fn 66 [AV.ptr [4] 0 0,AV.ptr [5] 0 0]]⟩),([0,4,0],⟨true,[],[AV.agg [AV.own [0,0,4,0],AV.own [0,1,4,0],AV.own [0,2,4,0]]]⟩),([0,5,0],⟨true,[],[AV.agg [Ai h5_0,Ai h5_1,Ai h5_2]]⟩),([0,8,0],⟨true,[],[AV.agg [AV.snil,AV.snil,AV.snil]]⟩),([0,9,0],⟨true,[],[AV.agg [Ai h7_0,Ai h7_1,Ai h7_2]]⟩),([0,11,0],⟨true,[],[Ai h8]⟩),([1],⟨false,[.int .i64],h9⟩),([2],⟨false,[.int .i64],h10⟩),([3],⟨false,[.int .i64,.int .i64],h11⟩),([4],⟨true,[],[AV.fn 50 []]⟩),([5],⟨true,[],[Ai h13]⟩)]⟩ k=(bif !decide (h5_0=0) then (bif q89 h0 h1 h2 t2 then (bif !(v89_0 h0 h1 h2 t2) then (bif q90 h0 h1 h2 t2 then (bif decide (IntKind.i64.wrap ((v90_1 h0 h1 h2 t2) - (v90_0 h0 h1 h2 t2))≤h5_1) then k (.exit 0) ⟨[(2,Ai t2),(4,AV.ptr [0,4,0] 0 0),(5,AV.ptr [0,5,0] 0 0),(8,AV.ptr [0,8,0] 0 0),(9,AV.ptr [0,9,0] 0 0),(11,AV.ptr [0,11,0] 0 0),(12,AV.fn 88 [AV.ptr [0,4,0] 0 0,AV.ptr [0,11,0] 0 0,AV.ptr [0,2,12,0] 0 0])],[([0,0,4,0],⟨false,[.int .i64],h0⟩),([0,1,4,0],⟨false,[.int .i64],h1⟩),([0,2,4,0],⟨false,[.int .i64,.int .i64],h2⟩),([0,2,12,0],⟨true,[],[AV.fn 66 [AV.ptr [4] 0 0,AV.ptr [5] 0 0]]⟩),([0,4,0],⟨true,[],[AV.agg [AV.own [0,0,4,0],AV.own [0,1,4,0],AV.own [0,2,4,0]]]⟩),([0,5,0],⟨true,[],[AV.agg [Ai h5_0,Ai h5_1,Ai h5_2]]⟩),([0,8,0],⟨true,[],[AV.agg [AV.snil,AV.snil,AV.snil]]⟩),([0,9,0],⟨true,[],[AV.agg [Ai h7_0,Ai h7_1,Ai h7_2]]⟩),([0,11,0],⟨true,[],[Ai h8]⟩),([1],⟨false,[.int .i64],h9⟩),([2],⟨false,[.int .i64],h10⟩),([3],⟨false,[.int .i64,.int .i64],h11⟩),([4],⟨true,[],[AV.fn 50 []]⟩),([5],⟨true,[],[Ai h13]⟩)]⟩
 else (bif q92 h0 h1 h2 h5_0 h5_1 h5_2 (v90_0 h0 h1 h2 t2) (v90_1 h0 h1 h2 t2) then (bif q89 h0 h1 h2 (v92_0 h0 h1 h2 h5_0 h5_1 h5_2 (v90_0 h0 h1 h2 t2) (v90_1 h0 h1 h2 t2)) then (bif (v89_0 h0 h1 h2 (v92_0 h0 h1 h2 h5_0 h5_1 h5_2 (v90_0 h0 h1 h2 t2) (v90_1 h0 h1 h2 t2))) then (bif q89 h0 h1 h2 (IntKind.i64.wrap ((v92_0 h0 h1 h2 h5_0 h5_1 h5_2 (v90_0 h0 h1 h2 t2) (v90_1 h0 h1 h2 t2))+1)) then (bif (v89_0 h0 h1 h2 (IntKind.i64.wrap ((v92_0 h0 h1 h2 h5_0 h5_1 h5_2 (v90_0 h0 h1 h2 t2) (v90_1 h0 h1 h2 t2))+1))) then next ⟨[(2,Ai t2),(4,AV.ptr [0,4,0] 0 0),(5,AV.ptr [0,5,0] 0 0),(8,AV.ptr [0,8,0] 0 0),(9,AV.ptr [0,9,0] 0 0),(11,AV.ptr [0,11,0] 0 0),(12,AV.fn 88 [AV.ptr [0,4,0] 0 0,AV.ptr [0,11,0] 0 0,AV.ptr [0,2,12,0] 0 0])],[([0,0,4,0],⟨false,[.int .i64],h0⟩),([0,1,4,0],⟨false,[.int .i64],h1⟩),([0,2,4,0],⟨false,[.int .i64,.int .i64],h2⟩),([0,2,12,0],⟨true,[],[AV.fn 66 [AV.ptr [4] 0 0,AV.ptr [5] 0 0]]⟩),([0,4,0],⟨true,[],[AV.agg [AV.own [0,0,4,0],AV.own [0,1,4,0],AV.own [0,2,4,0]]]⟩),([0,5,0],⟨true,[],[AV.agg [Ai (v92_1 h0 h1 h2 h5_0 h5_1 h5_2 (v90_0 h0 h1 h2 t2) (v90_1 h0 h1 h2 t2)),Ai (v92_2 h0 h1 h2 h5_0 h5_1 h5_2 (v90_0 h0 h1 h2 t2) (v90_1 h0 h1 h2 t2)),Ai (v92_3 h0 h1 h2 h5_0 h5_1 h5_2 (v90_0 h0 h1 h2 t2) (v90_1 h0 h1 h2 t2))]]⟩),([0,8,0],⟨true,[],[AV.agg [AV.snil,AV.snil,AV.snil]]⟩),([0,9,0],⟨true,[],[AV.agg [Ai h7_0,Ai h7_1,Ai h7_2]]⟩),([0,11,0],⟨true,[],[Ai h8]⟩),([1],⟨false,[.int .i64],h9⟩),([2],⟨false,[.int .i64],h10⟩),([3],⟨false,[.int .i64,.int .i64],h11⟩),([4],⟨true,[],[AV.fn 50 []]⟩),([5],⟨true,[],[Ai h13]⟩)]⟩
 else (bif q90 h0 h1 h2 (IntKind.i64.wrap ((v92_0 h0 h1 h2 h5_0 h5_1 h5_2 (v90_0 h0 h1 h2 t2) (v90_1 h0 h1 h2 t2))+1)) then (bif q91 h0 h1 h2 (IntKind.i64.wrap ((v92_0 h0 h1 h2 h5_0 h5_1 h5_2 (v90_0 h0 h1 h2 t2) (v90_1 h0 h1 h2 t2))+1)) then next ⟨[(2,Ai t2),(4,AV.ptr [0,4,0] 0 0),(5,AV.ptr [0,5,0] 0 0),(8,AV.ptr [0,8,0] 0 0),(9,AV.ptr [0,9,0] 0 0),(11,AV.ptr [0,11,0] 0 0),(12,AV.fn 88 [AV.ptr [0,4,0] 0 0,AV.ptr [0,11,0] 0 0,AV.ptr [0,2,12,0] 0 0])],[([0,0,4,0],⟨false,[.int .i64],(v91_0 h0 h1 h2 (IntKind.i64.wrap ((v92_0 h0 h1 h2 h5_0 h5_1 h5_2 (v90_0 h0 h1 h2 t2) (v90_1 h0 h1 h2 t2))+1)))⟩),([0,1,4,0],⟨false,[.int .i64],(v91_1 h0 h1 h2 (IntKind.i64.wrap ((v92_0 h0 h1 h2 h5_0 h5_1 h5_2 (v90_0 h0 h1 h2 t2) (v90_1 h0 h1 h2 t2))+1)))⟩),([0,2,4,0],⟨false,[.int .i64,.int .i64],(v91_2 h0 h1 h2 (IntKind.i64.wrap ((v92_0 h0 h1 h2 h5_0 h5_1 h5_2 (v90_0 h0 h1 h2 t2) (v90_1 h0 h1 h2 t2))+1)))⟩),([0,2,12,0],⟨true,[],[AV.fn 66 [AV.ptr [4] 0 0,AV.ptr [5] 0 0]]⟩),([0,4,0],⟨true,[],[AV.agg [AV.own [0,0,4,0],AV.own [0,1,4,0],AV.own [0,2,4,0]]]⟩),([0,5,0],⟨true,[],[AV.agg [Ai (v92_1 h0 h1 h2 h5_0 h5_1 h5_2 (v90_0 h0 h1 h2 t2) (v90_1 h0 h1 h2 t2)),Ai (v92_2 h0 h1 h2 h5_0 h5_1 h5_2 (v90_0 h0 h1 h2 t2) (v90_1 h0 h1 h2 t2)),Ai (v92_3 h0 h1 h2 h5_0 h5_1 h5_2 (v90_0 h0 h1 h2 t2) (v90_1 h0 h1 h2 t2))]]⟩),([0,8,0],⟨true,[],[AV.agg [AV.snil,AV.snil,AV.snil]]⟩),([0,9,0],⟨true,[],[AV.agg [Ai h7_0,Ai h7_1,Ai h7_2]]⟩),([0,11,0],⟨true,[],[Ai (IntKind.i64.wrap (h8+((v91_3 h0 h1 h2 (IntKind.i64.wrap ((v92_0 h0 h1 h2 h5_0 h5_1 h5_2 (v90_0 h0 h1 h2 t2) (v90_1 h0 h1 h2 t2))+1))).length:Int)))]⟩),([1],⟨false,[.int .i64],h9⟩),([2],⟨false,[.int .i64],h10⟩),([3],⟨false,[.int .i64,.int .i64],h11⟩),([4],⟨true,[],[AV.fn 50 []]⟩),([5],⟨true,[],[Ai h13]⟩)]⟩
 else none)
 else none))
 else none)
 else (bif q90 h0 h1 h2 (v92_0 h0 h1 h2 h5_0 h5_1 h5_2 (v90_0 h0 h1 h2 t2) (v90_1 h0 h1 h2 t2)) then (bif q91 h0 h1 h2 (v92_0 h0 h1 h2 h5_0 h5_1 h5_2 (v90_0 h0 h1 h2 t2) (v90_1 h0 h1 h2 t2)) then (bif q89 (v91_0 h0 h1 h2 (v92_0 h0 h1 h2 h5_0 h5_1 h5_2 (v90_0 h0 h1 h2 t2) (v90_1 h0 h1 h2 t2))) (v91_1 h0 h1 h2 (v92_0 h0 h1 h2 h5_0 h5_1 h5_2 (v90_0 h0 h1 h2 t2) (v90_1 h0 h1 h2 t2))) (v91_2 h0 h1 h2 (v92_0 h0 h1 h2 h5_0 h5_1 h5_2 (v90_0 h0 h1 h2 t2) (v90_1 h0 h1 h2 t2))) (IntKind.i64.wrap ((v92_0 h0 h1 h2 h5_0 h5_1 h5_2 (v90_0 h0 h1 h2 t2) (v90_1 h0 h1 h2 t2))+1)) then (bif (v89_0 (v91_0 h0 h1 h2 (v92_0 h0 h1 h2 h5_0 h5_1 h5_2 (v90_0 h0 h1 h2 t2) (v90_1 h0 h1 h2 t2))) (v91_1 h0 h1 h2 (v92_0 h0 h1 h2 h5_0 h5_1 h5_2 (v90_0 h0 h1 h2 t2) (v90_1 h0 h1 h2 t2))) (v91_2 h0 h1 h2 (v92_0 h0 h1 h2 h5_0 h5_1 h5_2 (v90_0 h0 h1 h2 t2) (v90_1 h0 h1 h2 t2))) (IntKind.i64.wrap ((v92_0 h0 h1 h2 h5_0 h5_1 h5_2 (v90_0 h0 h1 h2 t2) (v90_1 h0 h1 h2 t2))+1))) then next ⟨[(2,Ai t2),(4,AV.ptr [0,4,0] 0 0),(5,AV.ptr [0,5,0] 0 0),(8,AV.ptr [0,8,0] 0 0),(9,AV.ptr [0,9,0] 0 0),(11,AV.ptr [0,11,0] 0 0),(12,AV.fn 88 [AV.ptr [0,4,0] 0 0,AV.ptr [0,11,0] 0 0,AV.ptr [0,2,12,0] 0 0])],[([0,0,4,0],⟨false,[.int .i64],(v91_0 h0 h1 h2 (v92_0 h0 h1 h2 h5_0 h5_1 h5_2 (v90_0 h0 h1 h2 t2) (v90_1 h0 h1 h2 t2)))⟩),([0,1,4,0],⟨false,[.int .i64],(v91_1 h0 h1 h2 (v92_0 h0 h1 h2 h5_0 h5_1 h5_2 (v90_0 h0 h1 h2 t2) (v90_1 h0 h1 h2 t2)))⟩),([0,2,4,0],⟨false,[.int .i64,.int .i64],(v91_2 h0 h1 h2 (v92_0 h0 h1 h2 h5_0 h5_1 h5_2 (v90_0 h0 h1 h2 t2) (v90_1 h0 h1 h2 t2)))⟩),([0,2,12,0],⟨true,[],[AV.fn 66 [AV.ptr [4] 0 0,AV.ptr [5] 0 0]]⟩),([0,4,0],⟨true,[],[AV.agg [AV.own [0,0,4,0],AV.own [0,1,4,0],AV.own [0,2,4,0]]]⟩),([0,5,0],⟨true,[],[AV.agg [Ai (v92_1 h0 h1 h2 h5_0 h5_1 h5_2 (v90_0 h0 h1 h2 t2) (v90_1 h0 h1 h2 t2)),Ai (v92_2 h0 h1 h2 h5_0 h5_1 h5_2 (v90_0 h0 h1 h2 t2) (v90_1 h0 h1 h2 t2)),Ai (v92_3 h0 h1 h2 h5_0 h5_1 h5_2 (v90_0 h0 h1 h2 t2) (v90_1 h0 h1 h2 t2))]]⟩),([0,8,0],⟨true,[],[AV.agg [AV.snil,AV.snil,AV.snil]]⟩),([0,9,0],⟨true,[],[AV.agg [Ai h7_0,Ai h7_1,Ai h7_2]]⟩),([0,11,0],⟨true,[],[Ai (IntKind.i64.wrap (h8+((v91_3 h0 h1 h2 (v92_0 h0 h1 h2 h5_0 h5_1 h5_2 (v90_0 h0 h1 h2 t2) (v90_1 h0 h1 h2 t2))).length:Int)))]⟩),([1],⟨false,[.int .i64],h9⟩),([2],⟨false,[.int .i64],h10⟩),([3],⟨false,[.int .i64,.int .i64],h11⟩),([4],⟨true,[],[AV.fn 50 []]⟩),([5],⟨true,[],[Ai h13]⟩)]⟩
 else (bif q90 (v91_0 h0 h1 h2 (v92_0 h0 h1 h2 h5_0 h5_1 h5_2 (v90_0 h0 h1 h2 t2) (v90_1 h0 h1 h2 t2))) (v91_1 h0 h1 h2 (v92_0 h0 h1 h2 h5_0 h5_1 h5_2 (v90_0 h0 h1 h2 t2) (v90_1 h0 h1 h2 t2))) (v91_2 h0 h1 h2 (v92_0 h0 h1 h2 h5_0 h5_1 h5_2 (v90_0 h0 h1 h2 t2) (v90_1 h0 h1 h2 t2))) (IntKind.i64.wrap ((v92_0 h0 h1 h2 h5_0 h5_1 h5_2 (v90_0 h0 h1 h2 t2) (v90_1 h0 h1 h2 t2))+1)) then (bif q91 (v91_0 h0 h1 h2 (v92_0 h0 h1 h2 h5_0 h5_1 h5_2 (v90_0 h0 h1 h2 t2) (v90_1 h0 h1 h2 t2))) (v91_1 h0 h1 h2 (v92_0 h0 h1 h2 h5_0 h5_1 h5_2 (v90_0 h0 h1 h2 t2) (v90_1 h0 h1 h2 t2))) (v91_2 h0 h1 h2 (v92_0 h0 h1 h2 h5_0 h5_1 h5_2 (v90_0 h0 h1 h2 t2) (v90_1 h0 h1 h2 t2))) (IntKind.i64.wrap ((v92_0 h0 h1 h2 h5_0 h5_1 h5_2 (v90_0 h0 h1 h2 t2) (v90_1 h0 h1 h2 t2))+1)) then next ⟨[(2,Ai t2),(4,AV.ptr [0,4,0] 0 0),(5,AV.ptr [0,5,0] 0 0),(8,AV.ptr [0,8,0] 0 0),(9,AV.ptr [0,9,0] 0 0),(11,AV.ptr [0,11,0] 0 0),(12,AV.fn 88 [AV.ptr [0,4,0] 0 0,AV.ptr [0,11,0] 0 0,AV.ptr [0,2,12,0] 0 0])],[([0,0,4,0],⟨false,[.int .i64],(v91_0 (v91_0 h0 h1 h2 (v92_0 h0 h1 h2 h5_0 h5_1 h5_2 (v90_0 h0 h1 h2 t2) (v90_1 h0 h1 h2 t2))) (v91_1 h0 h1 h2 (v92_0 h0 h1 h2 h5_0 h5_1 h5_2 (v90_0 h0 h1 h2 t2) (v90_1 h0 h1 h2 t2))) (v91_2 h0 h1 h2 (v92_0 h0 h1 h2 h5_0 h5_1 h5_2 (v90_0 h0 h1 h2 t2) (v90_1 h0 h1 h2 t2))) (IntKind.i64.wrap ((v92_0 h0 h1 h2 h5_0 h5_1 h5_2 (v90_0 h0 h1 h2 t2) (v90_1 h0 h1 h2 t2))+1)))⟩),([0,1,4,0],⟨false,[.int .i64],(v91_1 (v91_0 h0 h1 h2 (v92_0 h0 h1 h2 h5_0 h5_1 h5_2 (v90_0 h0 h1 h2 t2) (v90_1 h0 h1 h2 t2))) (v91_1 h0 h1 h2 (v92_0 h0 h1 h2 h5_0 h5_1 h5_2 (v90_0 h0 h1 h2 t2) (v90_1 h0 h1 h2 t2))) (v91_2 h0 h1 h2 (v92_0 h0 h1 h2 h5_0 h5_1 h5_2 (v90_0 h0 h1 h2 t2) (v90_1 h0 h1 h2 t2))) (IntKind.i64.wrap ((v92_0 h0 h1 h2 h5_0 h5_1 h5_2 (v90_0 h0 h1 h2 t2) (v90_1 h0 h1 h2 t2))+1)))⟩),([0,2,4,0],⟨false,[.int .i64,.int .i64],(v91_2 (v91_0 h0 h1 h2 (v92_0 h0 h1 h2 h5_0 h5_1 h5_2 (v90_0 h0 h1 h2 t2) (v90_1 h0 h1 h2 t2))) (v91_1 h0 h1 h2 (v92_0 h0 h1 h2 h5_0 h5_1 h5_2 (v90_0 h0 h1 h2 t2) (v90_1 h0 h1 h2 t2))) (v91_2 h0 h1 h2 (v92_0 h0 h1 h2 h5_0 h5_1 h5_2 (v90_0 h0 h1 h2 t2) (v90_1 h0 h1 h2 t2))) (IntKind.i64.wrap ((v92_0 h0 h1 h2 h5_0 h5_1 h5_2 (v90_0 h0 h1 h2 t2) (v90_1 h0 h1 h2 t2))+1)))⟩),([0,2,12,0],⟨true,[],[AV.fn 66 [AV.ptr [4] 0 0,AV.ptr [5] 0 0]]⟩),([0,4,0],⟨true,[],[AV.agg [AV.own [0,0,4,0],AV.own [0,1,4,0],AV.own [0,2,4,0]]]⟩),([0,5,0],⟨true,[],[AV.agg [Ai (v92_1 h0 h1 h2 h5_0 h5_1 h5_2 (v90_0 h0 h1 h2 t2) (v90_1 h0 h1 h2 t2)),Ai (v92_2 h0 h1 h2 h5_0 h5_1 h5_2 (v90_0 h0 h1 h2 t2) (v90_1 h0 h1 h2 t2)),Ai (v92_3 h0 h1 h2 h5_0 h5_1 h5_2 (v90_0 h0 h1 h2 t2) (v90_1 h0 h1 h2 t2))]]⟩),([0,8,0],⟨true,[],[AV.agg [AV.snil,AV.snil,AV.snil]]⟩),([0,9,0],⟨true,[],[AV.agg [Ai h7_0,Ai h7_1,Ai h7_2]]⟩),([0,11,0],⟨true,[],[Ai (IntKind.i64.wrap (IntKind.i64.wrap (h8+((v91_3 h0 h1 h2 (v92_0 h0 h1 h2 h5_0 h5_1 h5_2 (v90_0 h0 h1 h2 t2) (v90_1 h0 h1 h2 t2))).length:Int))+((v91_3 (v91_0 h0 h1 h2 (v92_0 h0 h1 h2 h5_0 h5_1 h5_2 (v90_0 h0 h1 h2 t2) (v90_1 h0 h1 h2 t2))) (v91_1 h0 h1 h2 (v92_0 h0 h1 h2 h5_0 h5_1 h5_2 (v90_0 h0 h1 h2 t2) (v90_1 h0 h1 h2 t2))) (v91_2 h0 h1 h2 (v92_0 h0 h1 h2 h5_0 h5_1 h5_2 (v90_0 h0 h1 h2 t2) (v90_1 h0 h1 h2 t2))) (IntKind.i64.wrap ((v92_0 h0 h1 h2 h5_0 h5_1 h5_2 (v90_0 h0 h1 h2 t2) (v90_1 h0 h1 h2 t2))+1))).length:Int)))]⟩),([1],⟨false,[.int .i64],h9⟩),([2],⟨false,[.int .i64],h10⟩),([3],⟨false,[.int .i64,.int .i64],h11⟩),([4],⟨true,[],[AV.fn 50 []]⟩),([5],⟨true,[],[Ai h13]⟩)]⟩
 else none)
 else none))
 else none)
 else none)
 else none))
 else none)
 else none))
 else none)
 else k (.exit 0) ⟨[(2,Ai t2),(4,AV.ptr [0,4,0] 0 0),(5,AV.ptr [0,5,0] 0 0),(8,AV.ptr [0,8,0] 0 0),(9,AV.ptr [0,9,0] 0 0),(11,AV.ptr [0,11,0] 0 0),(12,AV.fn 88 [AV.ptr [0,4,0] 0 0,AV.ptr [0,11,0] 0 0,AV.ptr [0,2,12,0] 0 0])],[([0,0,4,0],⟨false,[.int .i64],h0⟩),([0,1,4,0],⟨false,[.int .i64],h1⟩),([0,2,4,0],⟨false,[.int .i64,.int .i64],h2⟩),([0,2,12,0],⟨true,[],[AV.fn 66 [AV.ptr [4] 0 0,AV.ptr [5] 0 0]]⟩),([0,4,0],⟨true,[],[AV.agg [AV.own [0,0,4,0],AV.own [0,1,4,0],AV.own [0,2,4,0]]]⟩),([0,5,0],⟨true,[],[AV.agg [Ai h5_0,Ai h5_1,Ai h5_2]]⟩),([0,8,0],⟨true,[],[AV.agg [AV.snil,AV.snil,AV.snil]]⟩),([0,9,0],⟨true,[],[AV.agg [Ai h7_0,Ai h7_1,Ai h7_2]]⟩),([0,11,0],⟨true,[],[Ai h8]⟩),([1],⟨false,[.int .i64],h9⟩),([2],⟨false,[.int .i64],h10⟩),([3],⟨false,[.int .i64,.int .i64],h11⟩),([4],⟨true,[],[AV.fn 50 []]⟩),([5],⟨true,[],[Ai h13]⟩)]⟩)
 else none)
 else k (.exit 0) ⟨[(2,Ai t2),(4,AV.ptr [0,4,0] 0 0),(5,AV.ptr [0,5,0] 0 0),(8,AV.ptr [0,8,0] 0 0),(9,AV.ptr [0,9,0] 0 0),(11,AV.ptr [0,11,0] 0 0),(12,AV.fn 88 [AV.ptr [0,4,0] 0 0,AV.ptr [0,11,0] 0 0,AV.ptr [0,2,12,0] 0 0])],[([0,0,4,0],⟨false,[.int .i64],h0⟩),([0,1,4,0],⟨false,[.int .i64],h1⟩),([0,2,4,0],⟨false,[.int .i64,.int .i64],h2⟩),([0,2,12,0],⟨true,[],[AV.fn 66 [AV.ptr [4] 0 0,AV.ptr [5] 0 0]]⟩),([0,4,0],⟨true,[],[AV.agg [AV.own [0,0,4,0],AV.own [0,1,4,0],AV.own [0,2,4,0]]]⟩),([0,5,0],⟨true,[],[AV.agg [Ai h5_0,Ai h5_1,Ai h5_2]]⟩),([0,8,0],⟨true,[],[AV.agg [AV.snil,AV.snil,AV.snil]]⟩),([0,9,0],⟨true,[],[AV.agg [Ai h7_0,Ai h7_1,Ai h7_2]]⟩),([0,11,0],⟨true,[],[Ai h8]⟩),([1],⟨false,[.int .i64],h9⟩),([2],⟨false,[.int .i64],h10⟩),([3],⟨false,[.int .i64,.int .i64],h11⟩),([4],⟨true,[],[AV.fn 50 []]⟩),([5],⟨true,[],[Ai h13]⟩)]⟩):=by kernel_rfl
theorem st79_0 (t2:Int) (k:Kont) (s:(Int × Int × Int × Int × Int × Int × Int × (List AV) × (List AV) × (List AV) × Int) ⊕ ((List AV) × (List AV) × (List AV) × Int × Int × Int × Int × Int × Int × Int × (List AV) × (List AV) × (List AV) × Int)) (next:St→Option AV):stepA (codeA c79 (inlA c79 1) [0] 79 0 (sub [1,1,1,0,0,0] (body Tryz.f79))) (normA [0] [2,4,5,8,9,11,12]) next ((E79_0 t2) s) k=(R79_0 t2 s).el none (fun s=>next ((E79_0 t2) s)) (K79_0 t2 k):=(match s with | .inl s=>(s79_0_s0 t2 s.1 s.2.1 s.2.2.1 s.2.2.2.1 s.2.2.2.2.1 s.2.2.2.2.2.1 s.2.2.2.2.2.2.1 s.2.2.2.2.2.2.2.1 s.2.2.2.2.2.2.2.2.1 s.2.2.2.2.2.2.2.2.2.1 s.2.2.2.2.2.2.2.2.2.2 next k).trans (by unfold R79_0;unfold F79_0_s0;simp only [el_cond,el_ro,el_sum,el_fail,el_next,el_stop] <;> rfl) | .inr s=>(s79_0_s1 t2 s.1 s.2.1 s.2.2.1 s.2.2.2.1 s.2.2.2.2.1 s.2.2.2.2.2.1 s.2.2.2.2.2.2.1 s.2.2.2.2.2.2.2.1 s.2.2.2.2.2.2.2.2.1 s.2.2.2.2.2.2.2.2.2.1 s.2.2.2.2.2.2.2.2.2.2.1 s.2.2.2.2.2.2.2.2.2.2.2.1 s.2.2.2.2.2.2.2.2.2.2.2.2.1 s.2.2.2.2.2.2.2.2.2.2.2.2.2 next k).trans (by unfold R79_0;unfold F79_0_s1;simp only [el_cond,el_ro,el_sum,el_fail,el_next,el_stop] <;> rfl))
theorem ok79_0:LoopOK c79 (inlA c79 1) [0] 79 0 (sub [1,1,1,0,0,0] (body Tryz.f79)):=by
 intro m hm st k r h
 obtain rfl:l79_0=m:=Option.some.inj hm
 unfold l79_0 at h
 split at h
 ·rename_i t2 g0 g1 g2 g3 g4 g5 g6 g7 g8 g9 g10 g11 g12 g13 g14 g15 g16 g17 g18 g19 g20 g21 g22 g23 g24 g25 g26 g27 g28 g29 g30 g31 g32 g33 g34 g35 g36 g37 h2_0 h2_1 h2_2 g38 g39 h4_0 h4_1 h4_2 g40 h5 g41 g42 h6 g43 g44 h7 g45 g46 h8 g47 g48 g49 h10
  obtain ⟨hg,h⟩:=bif_some h
  simp only [Bool.and_eq_true] at hg
  obtain ⟨⟨⟨⟨⟨⟨⟨⟨⟨⟨⟨⟨⟨⟨⟨⟨⟨⟨⟨⟨⟨⟨⟨⟨⟨⟨⟨⟨⟨⟨⟨⟨⟨⟨⟨⟨⟨⟨⟨⟨⟨⟨⟨⟨⟨⟨⟨⟨⟨q0,q1⟩,q2⟩,q3⟩,q4⟩,q5⟩,q6⟩,q7⟩,q8⟩,q9⟩,q10⟩,q11⟩,q12⟩,q13⟩,q14⟩,q15⟩,q16⟩,q17⟩,q18⟩,q19⟩,q20⟩,q21⟩,q22⟩,q23⟩,q24⟩,q25⟩,q26⟩,q27⟩,q28⟩,q29⟩,q30⟩,q31⟩,q32⟩,q33⟩,q34⟩,q35⟩,q36⟩,q37⟩,q38⟩,q39⟩,q40⟩,q41⟩,q42⟩,q43⟩,q44⟩,q45⟩,q46⟩,q47⟩,q48⟩,q49⟩:=hg
  obtain rfl:=(nmEq_iff _ _).1 q0
  obtain rfl:=Nat.eq_of_beq_eq_true q1
  obtain rfl:=Nat.eq_of_beq_eq_true q2
  obtain rfl:=(nmEq_iff _ _).1 q3
  obtain rfl:=Nat.eq_of_beq_eq_true q4
  obtain rfl:=Nat.eq_of_beq_eq_true q5
  obtain rfl:=(nmEq_iff _ _).1 q6
  obtain rfl:=Nat.eq_of_beq_eq_true q7
  obtain rfl:=Nat.eq_of_beq_eq_true q8
  obtain rfl:=(nmEq_iff _ _).1 q9
  obtain rfl:=Nat.eq_of_beq_eq_true q10
  obtain rfl:=Nat.eq_of_beq_eq_true q11
  obtain rfl:=(nmEq_iff _ _).1 q12
  obtain rfl:=Nat.eq_of_beq_eq_true q13
  obtain rfl:=Nat.eq_of_beq_eq_true q14
  obtain rfl:=Nat.eq_of_beq_eq_true q15
  obtain rfl:=(nmEq_iff _ _).1 q16
  obtain rfl:=Nat.eq_of_beq_eq_true q17
  obtain rfl:=Nat.eq_of_beq_eq_true q18
  obtain rfl:=(nmEq_iff _ _).1 q19
  obtain rfl:=Nat.eq_of_beq_eq_true q20
  obtain rfl:=Nat.eq_of_beq_eq_true q21
  obtain rfl:=(nmEq_iff _ _).1 q22
  obtain rfl:=Nat.eq_of_beq_eq_true q23
  obtain rfl:=Nat.eq_of_beq_eq_true q24
  obtain rfl:=(nmEq_iff _ _).1 q25
  obtain rfl:=Nat.eq_of_beq_eq_true q26
  obtain rfl:=(nmEq_iff _ _).1 q27
  obtain rfl:=Nat.eq_of_beq_eq_true q28
  obtain rfl:=Nat.eq_of_beq_eq_true q29
  obtain rfl:=(nmEq_iff _ _).1 q30
  obtain rfl:=Nat.eq_of_beq_eq_true q31
  obtain rfl:=Nat.eq_of_beq_eq_true q32
  obtain rfl:=(nmEq_iff _ _).1 q33
  obtain rfl:=(nmEq_iff _ _).1 q34
  obtain rfl:=(nmEq_iff _ _).1 q35
  obtain rfl:=(nmEq_iff _ _).1 q36
  obtain rfl:=(nmEq_iff _ _).1 q37
  obtain rfl:=(nmEq_iff _ _).1 q38
  obtain rfl:=(nmEq_iff _ _).1 q39
  obtain rfl:=(nmEq_iff _ _).1 q40
  obtain rfl:=(nmEq_iff _ _).1 q41
  obtain rfl:=ctsEq_eq _ _ q42
  obtain rfl:=(nmEq_iff _ _).1 q43
  obtain rfl:=ctsEq_eq _ _ q44
  obtain rfl:=(nmEq_iff _ _).1 q45
  obtain rfl:=ctsEq_eq _ _ q46
  obtain rfl:=(nmEq_iff _ _).1 q47
  obtain rfl:=Nat.eq_of_beq_eq_true q48
  obtain rfl:=(nmEq_iff _ _).1 q49
  refine ⟨(2100),?_⟩
  rw [← h]
  exact loop_run (E79_0 t2) (K79_0 t2 k) (st79_0 t2 k) _ (.inl (h2_0,h2_1,h2_2,h4_0,h4_1,h4_2,h5,h6,h7,h8,h10))
 ·rename_i t2 g0 g1 g2 g3 g4 g5 g6 g7 g8 g9 g10 g11 g12 g13 g14 g15 g16 g17 g18 g19 g20 g21 g22 g23 g24 g25 g26 h0 g27 g28 h1 g29 g30 h2 g31 g32 g33 g34 g35 g36 g37 g38 g39 g40 g41 g42 g43 h5_0 h5_1 h5_2 g44 g45 h7_0 h7_1 h7_2 g46 h8 g47 g48 h9 g49 g50 h10 g51 g52 h11 g53 g54 g55 h13
  obtain ⟨hg,h⟩:=bif_some h
  simp only [Bool.and_eq_true] at hg
  obtain ⟨⟨⟨⟨⟨⟨⟨⟨⟨⟨⟨⟨⟨⟨⟨⟨⟨⟨⟨⟨⟨⟨⟨⟨⟨⟨⟨⟨⟨⟨⟨⟨⟨⟨⟨⟨⟨⟨⟨⟨⟨⟨⟨⟨⟨⟨⟨⟨⟨⟨⟨⟨⟨⟨⟨q0,q1⟩,q2⟩,q3⟩,q4⟩,q5⟩,q6⟩,q7⟩,q8⟩,q9⟩,q10⟩,q11⟩,q12⟩,q13⟩,q14⟩,q15⟩,q16⟩,q17⟩,q18⟩,q19⟩,q20⟩,q21⟩,q22⟩,q23⟩,q24⟩,q25⟩,q26⟩,q27⟩,q28⟩,q29⟩,q30⟩,q31⟩,q32⟩,q33⟩,q34⟩,q35⟩,q36⟩,q37⟩,q38⟩,q39⟩,q40⟩,q41⟩,q42⟩,q43⟩,q44⟩,q45⟩,q46⟩,q47⟩,q48⟩,q49⟩,q50⟩,q51⟩,q52⟩,q53⟩,q54⟩,q55⟩:=hg
  obtain rfl:=(nmEq_iff _ _).1 q0
  obtain rfl:=Nat.eq_of_beq_eq_true q1
  obtain rfl:=Nat.eq_of_beq_eq_true q2
  obtain rfl:=(nmEq_iff _ _).1 q3
  obtain rfl:=Nat.eq_of_beq_eq_true q4
  obtain rfl:=Nat.eq_of_beq_eq_true q5
  obtain rfl:=(nmEq_iff _ _).1 q6
  obtain rfl:=Nat.eq_of_beq_eq_true q7
  obtain rfl:=Nat.eq_of_beq_eq_true q8
  obtain rfl:=(nmEq_iff _ _).1 q9
  obtain rfl:=Nat.eq_of_beq_eq_true q10
  obtain rfl:=Nat.eq_of_beq_eq_true q11
  obtain rfl:=(nmEq_iff _ _).1 q12
  obtain rfl:=Nat.eq_of_beq_eq_true q13
  obtain rfl:=Nat.eq_of_beq_eq_true q14
  obtain rfl:=Nat.eq_of_beq_eq_true q15
  obtain rfl:=(nmEq_iff _ _).1 q16
  obtain rfl:=Nat.eq_of_beq_eq_true q17
  obtain rfl:=Nat.eq_of_beq_eq_true q18
  obtain rfl:=(nmEq_iff _ _).1 q19
  obtain rfl:=Nat.eq_of_beq_eq_true q20
  obtain rfl:=Nat.eq_of_beq_eq_true q21
  obtain rfl:=(nmEq_iff _ _).1 q22
  obtain rfl:=Nat.eq_of_beq_eq_true q23
  obtain rfl:=Nat.eq_of_beq_eq_true q24
  obtain rfl:=(nmEq_iff _ _).1 q25
  obtain rfl:=ctsEq_eq _ _ q26
  obtain rfl:=(nmEq_iff _ _).1 q27
  obtain rfl:=ctsEq_eq _ _ q28
  obtain rfl:=(nmEq_iff _ _).1 q29
  obtain rfl:=ctsEq_eq _ _ q30
  obtain rfl:=(nmEq_iff _ _).1 q31
  obtain rfl:=Nat.eq_of_beq_eq_true q32
  obtain rfl:=(nmEq_iff _ _).1 q33
  obtain rfl:=Nat.eq_of_beq_eq_true q34
  obtain rfl:=Nat.eq_of_beq_eq_true q35
  obtain rfl:=(nmEq_iff _ _).1 q36
  obtain rfl:=Nat.eq_of_beq_eq_true q37
  obtain rfl:=Nat.eq_of_beq_eq_true q38
  obtain rfl:=(nmEq_iff _ _).1 q39
  obtain rfl:=(nmEq_iff _ _).1 q40
  obtain rfl:=(nmEq_iff _ _).1 q41
  obtain rfl:=(nmEq_iff _ _).1 q42
  obtain rfl:=(nmEq_iff _ _).1 q43
  obtain rfl:=(nmEq_iff _ _).1 q44
  obtain rfl:=(nmEq_iff _ _).1 q45
  obtain rfl:=(nmEq_iff _ _).1 q46
  obtain rfl:=(nmEq_iff _ _).1 q47
  obtain rfl:=ctsEq_eq _ _ q48
  obtain rfl:=(nmEq_iff _ _).1 q49
  obtain rfl:=ctsEq_eq _ _ q50
  obtain rfl:=(nmEq_iff _ _).1 q51
  obtain rfl:=ctsEq_eq _ _ q52
  obtain rfl:=(nmEq_iff _ _).1 q53
  obtain rfl:=Nat.eq_of_beq_eq_true q54
  obtain rfl:=(nmEq_iff _ _).1 q55
  refine ⟨(2100),?_⟩
  rw [← h]
  exact loop_run (E79_0 t2) (K79_0 t2 k) (st79_0 t2 k) _ (.inr (h0,h1,h2,h5_0,h5_1,h5_2,h7_0,h7_1,h7_2,h8,h9,h10,h11,h13))
 ·cases h
def q79 (ya yb yc a2:Int) (b0 b1 b2:List AV) (b4:Int):Bool:=(ro (runW (R79_0 a2) (2100) (.inl (ya,yb,yc,0,0,0,0,b0,b1,b2,b4))) false (sumE (fun p62=>(q89 p62.2.2.2.2.2.2.2.1 p62.2.2.2.2.2.2.2.2.1 p62.2.2.2.2.2.2.2.2.2.1 a2 && (bif (v89_0 p62.2.2.2.2.2.2.2.1 p62.2.2.2.2.2.2.2.2.1 p62.2.2.2.2.2.2.2.2.2.1 a2) then true else (q90 p62.2.2.2.2.2.2.2.1 p62.2.2.2.2.2.2.2.2.1 p62.2.2.2.2.2.2.2.2.2.1 a2 && q91 p62.2.2.2.2.2.2.2.1 p62.2.2.2.2.2.2.2.2.1 p62.2.2.2.2.2.2.2.2.2.1 a2)))) (fun p63=>(q89 p63.1 p63.2.1 p63.2.2.1 a2 && (bif (v89_0 p63.1 p63.2.1 p63.2.2.1 a2) then true else (q90 p63.1 p63.2.1 p63.2.2.1 a2 && q91 p63.1 p63.2.1 p63.2.2.1 a2))))))
def v79_0 (ya yb yc a2:Int) (b0 b1 b2:List AV) (b4:Int):List AV:=(ro (runW (R79_0 a2) (2100) (.inl (ya,yb,yc,0,0,0,0,b0,b1,b2,b4))) [] (sumE (fun p62=>(bif (v89_0 p62.2.2.2.2.2.2.2.1 p62.2.2.2.2.2.2.2.2.1 p62.2.2.2.2.2.2.2.2.2.1 a2) then p62.2.2.2.2.2.2.2.1 else (v91_0 p62.2.2.2.2.2.2.2.1 p62.2.2.2.2.2.2.2.2.1 p62.2.2.2.2.2.2.2.2.2.1 a2))) (fun p63=>(bif (v89_0 p63.1 p63.2.1 p63.2.2.1 a2) then p63.1 else (v91_0 p63.1 p63.2.1 p63.2.2.1 a2)))))
def v79_1 (ya yb yc a2:Int) (b0 b1 b2:List AV) (b4:Int):List AV:=(ro (runW (R79_0 a2) (2100) (.inl (ya,yb,yc,0,0,0,0,b0,b1,b2,b4))) [] (sumE (fun p62=>(bif (v89_0 p62.2.2.2.2.2.2.2.1 p62.2.2.2.2.2.2.2.2.1 p62.2.2.2.2.2.2.2.2.2.1 a2) then p62.2.2.2.2.2.2.2.2.1 else (v91_1 p62.2.2.2.2.2.2.2.1 p62.2.2.2.2.2.2.2.2.1 p62.2.2.2.2.2.2.2.2.2.1 a2))) (fun p63=>(bif (v89_0 p63.1 p63.2.1 p63.2.2.1 a2) then p63.2.1 else (v91_1 p63.1 p63.2.1 p63.2.2.1 a2)))))
def v79_2 (ya yb yc a2:Int) (b0 b1 b2:List AV) (b4:Int):List AV:=(ro (runW (R79_0 a2) (2100) (.inl (ya,yb,yc,0,0,0,0,b0,b1,b2,b4))) [] (sumE (fun p62=>(bif (v89_0 p62.2.2.2.2.2.2.2.1 p62.2.2.2.2.2.2.2.2.1 p62.2.2.2.2.2.2.2.2.2.1 a2) then p62.2.2.2.2.2.2.2.2.2.1 else (v91_2 p62.2.2.2.2.2.2.2.1 p62.2.2.2.2.2.2.2.2.1 p62.2.2.2.2.2.2.2.2.2.1 a2))) (fun p63=>(bif (v89_0 p63.1 p63.2.1 p63.2.2.1 a2) then p63.2.2.1 else (v91_2 p63.1 p63.2.1 p63.2.2.1 a2)))))
def v79_3 (ya yb yc a2:Int) (b0 b1 b2:List AV) (b4:Int):Int:=(ro (runW (R79_0 a2) (2100) (.inl (ya,yb,yc,0,0,0,0,b0,b1,b2,b4))) 0 (sumE (fun p62=>p62.1) (fun p63=>p63.2.2.2.1)))
def v79_4 (ya yb yc a2:Int) (b0 b1 b2:List AV) (b4:Int):Int:=(ro (runW (R79_0 a2) (2100) (.inl (ya,yb,yc,0,0,0,0,b0,b1,b2,b4))) 0 (sumE (fun p62=>p62.2.1) (fun p63=>p63.2.2.2.2.1)))
def v79_5 (ya yb yc a2:Int) (b0 b1 b2:List AV) (b4:Int):Int:=(ro (runW (R79_0 a2) (2100) (.inl (ya,yb,yc,0,0,0,0,b0,b1,b2,b4))) 0 (sumE (fun p62=>p62.2.2.1) (fun p63=>p63.2.2.2.2.2.1)))
def v79_6 (ya yb yc a2:Int) (b0 b1 b2:List AV) (b4:Int):Int:=(ro (runW (R79_0 a2) (2100) (.inl (ya,yb,yc,0,0,0,0,b0,b1,b2,b4))) 0 (sumE (fun p62=>(bif (v89_0 p62.2.2.2.2.2.2.2.1 p62.2.2.2.2.2.2.2.2.1 p62.2.2.2.2.2.2.2.2.2.1 a2) then p62.2.2.2.2.2.2.1 else IntKind.i64.wrap (p62.2.2.2.2.2.2.1+((v91_3 p62.2.2.2.2.2.2.2.1 p62.2.2.2.2.2.2.2.2.1 p62.2.2.2.2.2.2.2.2.2.1 a2).length:Int)))) (fun p63=>(bif (v89_0 p63.1 p63.2.1 p63.2.2.1 a2) then p63.2.2.2.2.2.2.2.2.2.1 else IntKind.i64.wrap (p63.2.2.2.2.2.2.2.2.2.1+((v91_3 p63.1 p63.2.1 p63.2.2.1 a2).length:Int))))))
def v79_7 (ya yb yc a2:Int) (b0 b1 b2:List AV) (b4:Int):Int:=(ro (runW (R79_0 a2) (2100) (.inl (ya,yb,yc,0,0,0,0,b0,b1,b2,b4))) 0 (sumE (fun p62=>p62.2.2.2.2.2.2.2.2.2.2) (fun p63=>p63.2.2.2.2.2.2.2.2.2.2.2.2.2)))
theorem e79 (ya yb yc a2:Int) (b0 b1 b2:List AV) (b4:Int) (K:List AV→List (Option Blk)→Option AV):inlA c79 2 79 [AV.agg [AV.own [1],AV.own [2],AV.own [3]],AV.agg [Ai ya,Ai yb,Ai yc],Ai a2,AV.fn 66 [AV.ptr [4] 0 0,AV.ptr [5] 0 0]] [0] (canH 1 [⟨false,[.int .i64],b0⟩,⟨false,[.int .i64],b1⟩,⟨false,[.int .i64,.int .i64],b2⟩,⟨true,[],[AV.fn 50 []]⟩,⟨true,[],[Ai b4]⟩]) (keepG Tryz.prog 5 [54,38,3] [0,1,2] K)=(ro (runW (R79_0 a2) (2100) (.inl (ya,yb,yc,0,0,0,0,b0,b1,b2,b4))) none (sumE (fun p62=>(bif q89 p62.2.2.2.2.2.2.2.1 p62.2.2.2.2.2.2.2.2.1 p62.2.2.2.2.2.2.2.2.2.1 a2 then (bif (v89_0 p62.2.2.2.2.2.2.2.1 p62.2.2.2.2.2.2.2.2.1 p62.2.2.2.2.2.2.2.2.2.1 a2) then K [AV.agg [AV.fl [.int .i64] p62.2.2.2.2.2.2.2.1,AV.fl [.int .i64] p62.2.2.2.2.2.2.2.2.1,AV.fl [.int .i64,.int .i64] p62.2.2.2.2.2.2.2.2.2.1],AV.agg [Ai p62.1,Ai p62.2.1,Ai p62.2.2.1],Ai p62.2.2.2.2.2.2.1] [none,none,none,some ⟨true,[],[AV.fn 50 []]⟩,some ⟨true,[],[Ai p62.2.2.2.2.2.2.2.2.2.2]⟩]
 else (bif q90 p62.2.2.2.2.2.2.2.1 p62.2.2.2.2.2.2.2.2.1 p62.2.2.2.2.2.2.2.2.2.1 a2 then (bif q91 p62.2.2.2.2.2.2.2.1 p62.2.2.2.2.2.2.2.2.1 p62.2.2.2.2.2.2.2.2.2.1 a2 then K [AV.agg [AV.fl [.int .i64] (v91_0 p62.2.2.2.2.2.2.2.1 p62.2.2.2.2.2.2.2.2.1 p62.2.2.2.2.2.2.2.2.2.1 a2),AV.fl [.int .i64] (v91_1 p62.2.2.2.2.2.2.2.1 p62.2.2.2.2.2.2.2.2.1 p62.2.2.2.2.2.2.2.2.2.1 a2),AV.fl [.int .i64,.int .i64] (v91_2 p62.2.2.2.2.2.2.2.1 p62.2.2.2.2.2.2.2.2.1 p62.2.2.2.2.2.2.2.2.2.1 a2)],AV.agg [Ai p62.1,Ai p62.2.1,Ai p62.2.2.1],Ai (IntKind.i64.wrap (p62.2.2.2.2.2.2.1+((v91_3 p62.2.2.2.2.2.2.2.1 p62.2.2.2.2.2.2.2.2.1 p62.2.2.2.2.2.2.2.2.2.1 a2).length:Int)))] [none,none,none,some ⟨true,[],[AV.fn 50 []]⟩,some ⟨true,[],[Ai p62.2.2.2.2.2.2.2.2.2.2]⟩]
 else none)
 else none))
 else none)) (fun p63=>(bif q89 p63.1 p63.2.1 p63.2.2.1 a2 then (bif (v89_0 p63.1 p63.2.1 p63.2.2.1 a2) then K [AV.agg [AV.fl [.int .i64] p63.1,AV.fl [.int .i64] p63.2.1,AV.fl [.int .i64,.int .i64] p63.2.2.1],AV.agg [Ai p63.2.2.2.1,Ai p63.2.2.2.2.1,Ai p63.2.2.2.2.2.1],Ai p63.2.2.2.2.2.2.2.2.2.1] [none,none,none,some ⟨true,[],[AV.fn 50 []]⟩,some ⟨true,[],[Ai p63.2.2.2.2.2.2.2.2.2.2.2.2.2]⟩]
 else (bif q90 p63.1 p63.2.1 p63.2.2.1 a2 then (bif q91 p63.1 p63.2.1 p63.2.2.1 a2 then K [AV.agg [AV.fl [.int .i64] (v91_0 p63.1 p63.2.1 p63.2.2.1 a2),AV.fl [.int .i64] (v91_1 p63.1 p63.2.1 p63.2.2.1 a2),AV.fl [.int .i64,.int .i64] (v91_2 p63.1 p63.2.1 p63.2.2.1 a2)],AV.agg [Ai p63.2.2.2.1,Ai p63.2.2.2.2.1,Ai p63.2.2.2.2.2.1],Ai (IntKind.i64.wrap (p63.2.2.2.2.2.2.2.2.2.1+((v91_3 p63.1 p63.2.1 p63.2.2.1 a2).length:Int)))] [none,none,none,some ⟨true,[],[AV.fn 50 []]⟩,some ⟨true,[],[Ai p63.2.2.2.2.2.2.2.2.2.2.2.2.2]⟩]
 else none)
 else none))
 else none)))):=by kernel_rfl
theorem r79 (ya yb yc a2:Int) (b0 b1 b2:List AV) (b4:Int) (K:List AV→List (Option Blk)→Option AV) (h:q79 ya yb yc a2 b0 b1 b2 b4=true):inlA c79 2 79 [AV.agg [AV.own [1],AV.own [2],AV.own [3]],AV.agg [AV.int .i64 ya,AV.int .i64 yb,AV.int .i64 yc],AV.int .i64 a2,AV.fn 66 [AV.ptr [4] 0 0,AV.ptr [5] 0 0]] [0] (canH 1 [⟨false,[.int .i64],b0⟩,⟨false,[.int .i64],b1⟩,⟨false,[.int .i64,.int .i64],b2⟩,⟨true,[],[AV.fn 50 []]⟩,⟨true,[],[AV.int .i64 b4]⟩]) (keepG Tryz.prog 5 [54,38,3] [0,1,2] K)=K [AV.agg [AV.fl [.int .i64] (v79_0 ya yb yc a2 b0 b1 b2 b4),AV.fl [.int .i64] (v79_1 ya yb yc a2 b0 b1 b2 b4),AV.fl [.int .i64,.int .i64] (v79_2 ya yb yc a2 b0 b1 b2 b4)],AV.agg [AV.int .i64 (v79_3 ya yb yc a2 b0 b1 b2 b4),AV.int .i64 (v79_4 ya yb yc a2 b0 b1 b2 b4),AV.int .i64 (v79_5 ya yb yc a2 b0 b1 b2 b4)],AV.int .i64 (v79_6 ya yb yc a2 b0 b1 b2 b4)] [none,none,none,some ⟨true,[],[AV.fn 50 []]⟩,some ⟨true,[],[AV.int .i64 (v79_7 ya yb yc a2 b0 b1 b2 b4)]⟩]:=by
 refine (e79 ya yb yc a2 b0 b1 b2 b4 K).trans ?_
 unfold q79 at h
 unfold v79_0 v79_1 v79_2 v79_3 v79_4 v79_5 v79_6 v79_7
 generalize runW (R79_0 a2) (2100) (.inl (ya,yb,yc,0,0,0,0,b0,b1,b2,b4))=o at h ⊢
 cases o with
 | none=>cases h
 | some o =>
  cases o with
  | inl p62 =>
   simp only [ro,sumE] at h ⊢
   exact (brL (br (fun b=>K [AV.agg [AV.fl [.int .i64] (bif b then p62.2.2.2.2.2.2.2.1 else (v91_0 p62.2.2.2.2.2.2.2.1 p62.2.2.2.2.2.2.2.2.1 p62.2.2.2.2.2.2.2.2.2.1 a2)),AV.fl [.int .i64] (bif b then p62.2.2.2.2.2.2.2.2.1 else (v91_1 p62.2.2.2.2.2.2.2.1 p62.2.2.2.2.2.2.2.2.1 p62.2.2.2.2.2.2.2.2.2.1 a2)),AV.fl [.int .i64,.int .i64] (bif b then p62.2.2.2.2.2.2.2.2.2.1 else (v91_2 p62.2.2.2.2.2.2.2.1 p62.2.2.2.2.2.2.2.2.1 p62.2.2.2.2.2.2.2.2.2.1 a2))],AV.agg [AV.int .i64 p62.1,AV.int .i64 p62.2.1,AV.int .i64 p62.2.2.1],AV.int .i64 (bif b then p62.2.2.2.2.2.2.1 else IntKind.i64.wrap (p62.2.2.2.2.2.2.1+((v91_3 p62.2.2.2.2.2.2.2.1 p62.2.2.2.2.2.2.2.2.1 p62.2.2.2.2.2.2.2.2.2.1 a2).length:Int)))] [none,none,none,some ⟨true,[],[AV.fn 50 []]⟩,some ⟨true,[],[AV.int .i64 p62.2.2.2.2.2.2.2.2.2.2]⟩]) (fun _=>rfl) (brL (brL1 (fun _=>rfl))))) h
  | inr p63 =>
   simp only [ro,sumE] at h ⊢
   exact (brL (br (fun b=>K [AV.agg [AV.fl [.int .i64] (bif b then p63.1 else (v91_0 p63.1 p63.2.1 p63.2.2.1 a2)),AV.fl [.int .i64] (bif b then p63.2.1 else (v91_1 p63.1 p63.2.1 p63.2.2.1 a2)),AV.fl [.int .i64,.int .i64] (bif b then p63.2.2.1 else (v91_2 p63.1 p63.2.1 p63.2.2.1 a2))],AV.agg [AV.int .i64 p63.2.2.2.1,AV.int .i64 p63.2.2.2.2.1,AV.int .i64 p63.2.2.2.2.2.1],AV.int .i64 (bif b then p63.2.2.2.2.2.2.2.2.2.1 else IntKind.i64.wrap (p63.2.2.2.2.2.2.2.2.2.1+((v91_3 p63.1 p63.2.1 p63.2.2.1 a2).length:Int)))] [none,none,none,some ⟨true,[],[AV.fn 50 []]⟩,some ⟨true,[],[AV.int .i64 p63.2.2.2.2.2.2.2.2.2.2.2.2.2]⟩]) (fun _=>rfl) (brL (brL1 (fun _=>rfl))))) h
def m79:GModel
 | [.agg [.own g0,.own g1,.own g2],.agg [.int .i64 ya,.int .i64 yb,.int .i64 yc],.int .i64 a2,.fn g3 [.ptr g4 g5 g6,.ptr g7 g8 g9]],[⟨false,g10,b0⟩,⟨false,g11,b1⟩,⟨false,g12,b2⟩,⟨true,[],[.fn g13 []]⟩,⟨true,[],[.int .i64 b4]⟩]=>bif nmEq g0 ([1]) && nmEq g1 ([2]) && nmEq g2 ([3]) && Nat.beq g3 66 && nmEq g4 ([4]) && Nat.beq g5 0 && Nat.beq g6 0 && nmEq g7 ([5]) && Nat.beq g8 0 && Nat.beq g9 0 && ctsEq g10 ([.int .i64]) && ctsEq g11 ([.int .i64]) && ctsEq g12 ([.int .i64,.int .i64]) && Nat.beq g13 50 then some (q79 ya yb yc a2 b0 b1 b2 b4,[AV.agg [AV.fl [.int .i64] (v79_0 ya yb yc a2 b0 b1 b2 b4),AV.fl [.int .i64] (v79_1 ya yb yc a2 b0 b1 b2 b4),AV.fl [.int .i64,.int .i64] (v79_2 ya yb yc a2 b0 b1 b2 b4)],AV.agg [AV.int .i64 (v79_3 ya yb yc a2 b0 b1 b2 b4),AV.int .i64 (v79_4 ya yb yc a2 b0 b1 b2 b4),AV.int .i64 (v79_5 ya yb yc a2 b0 b1 b2 b4)],AV.int .i64 (v79_6 ya yb yc a2 b0 b1 b2 b4)],[none,none,none,some ⟨true,[],[AV.fn 50 []]⟩,some ⟨true,[],[AV.int .i64 (v79_7 ya yb yc a2 b0 b1 b2 b4)]⟩]) else none
 | _,_=>none
theorem k79:Known Tryz.prog 79:=⟨Tryz.f79,Tryz.func79,by kernel_rfl,by kernel_rfl⟩
theorem i79_88:InlK Tryz.prog [(79,0,[2,4,5,8,9,11,12]),(79,999,[8,9,10]),(79,1000,[2,4,5,8,9,11,12]),(79,1001,[2,4,5,8,9,11,12]),(88,999,[])] [(66,m66),(89,m89),(90,m90),(91,m91),(92,m92)] [] [88] [(79,0,l79_0)] 88:=⟨⟨Tryz.f88,Tryz.func88,by kernel_rfl,by kernel_rfl⟩,Tryz.f88,[],Tryz.func88,by kernel_rfl,fun _ _=>noLoop⟩
theorem meets79:MeetsG Tryz.prog 79 m79:=by
 refine meetG (rt:=[54,38,3]) (gs:=[0,1,2]) (f:=Tryz.f79) (l:=[(0,sub [1,1,1,0,0,0] (body Tryz.f79))]) (hs:=[(79,0,[2,4,5,8,9,11,12]),(79,999,[8,9,10]),(79,1000,[2,4,5,8,9,11,12]),(79,1001,[2,4,5,8,9,11,12]),(88,999,[])]) (ts:=[(66,m66),(89,m89),(90,m90),(91,m91),(92,m92)]) (ws:=[]) (is:=[88]) (ls:=[(79,0,l79_0)]) (lvl:=1) mixed k79 Tryz.func79 (by kernel_rfl) (loops_cons ok79_0 noLoop) (allT_cons meets66 (allT_cons meets89 (allT_cons meets90 (allT_cons meets91 (allT_cons meets92 allT_nil))))) allM_nil (allI_cons i79_88 noI) fun C w xs us bs r bs' hl hv hh h K=>?_
 unfold m79 at h
 split at h
 ·rename_i g0 g1 g2 ya yb yc a2 g3 g4 g5 g6 g7 g8 g9 g10 b0 g11 b1 g12 b2 g13 b4
  obtain ⟨hg,h⟩:=bif_pair h
  simp only [Bool.and_eq_true] at hg
  obtain ⟨⟨⟨⟨⟨⟨⟨⟨⟨⟨⟨⟨⟨q0,q1⟩,q2⟩,q3⟩,q4⟩,q5⟩,q6⟩,q7⟩,q8⟩,q9⟩,q10⟩,q11⟩,q12⟩,q13⟩:=hg
  obtain rfl:=(nmEq_iff _ _).1 q0
  obtain rfl:=(nmEq_iff _ _).1 q1
  obtain rfl:=(nmEq_iff _ _).1 q2
  obtain rfl:=Nat.eq_of_beq_eq_true q3
  obtain rfl:=(nmEq_iff _ _).1 q4
  obtain rfl:=Nat.eq_of_beq_eq_true q5
  obtain rfl:=Nat.eq_of_beq_eq_true q6
  obtain rfl:=(nmEq_iff _ _).1 q7
  obtain rfl:=Nat.eq_of_beq_eq_true q8
  obtain rfl:=Nat.eq_of_beq_eq_true q9
  obtain rfl:=ctsEq_eq _ _ q10
  obtain rfl:=ctsEq_eq _ _ q11
  obtain rfl:=ctsEq_eq _ _ q12
  obtain rfl:=Nat.eq_of_beq_eq_true q13
  obtain ⟨h1,rfl,rfl⟩:=trip_inj h
  exact r79 ya yb yc a2 b0 b1 b2 b4 K h1
 ·cases h
noncomputable def c81:Cfg:=cfg Tryz.prog [(81,999,[6])] [(54,m54),(93,m93)] [] [] []
def q81 (xa xb xc:List AV) (a1 a2:Int):Bool:=(q54 xa xb xc && (bif !(v54_0 xa xb xc) then true else (bif decide (a1<0) then true else (bif decide (a1 > a2) then true else (bif decide (a2 > (xb.length:Int)) then true else ((decide (0≤a1) && decide (a1≤a2) && decide (a2≤(xb.length:Int))) && q93 ((xb.take (Int.toNat a2)).drop (Int.toNat a1))))))))
def v81_0 (xa xb xc:List AV) (a1 a2:Int):List AV:=(bif !(v54_0 xa xb xc) then ([]:List AV) else (bif decide (a1<0) then ([]:List AV) else (bif decide (a1 > a2) then ([]:List AV) else (bif decide (a2 > (xb.length:Int)) then ([]:List AV) else (v93_0 ((xb.take (Int.toNat a2)).drop (Int.toNat a1)))))))
theorem e81 (xa xb xc:List AV) (a1 a2:Int):funA c81 0 81 [AV.agg [AV.sl [.int .i64] xa,AV.sl [.int .i64] xb,AV.sl [.int .i64,.int .i64] xc],Ai a1,Ai a2]=(bif q54 xa xb xc then (bif !(v54_0 xa xb xc) then some (AV.fl [.int .i64] ([]:List AV))
 else (bif decide (a1<0) then some (AV.fl [.int .i64] ([]:List AV))
 else (bif decide (a1 > a2) then some (AV.fl [.int .i64] ([]:List AV))
 else (bif decide (a2 > (xb.length:Int)) then some (AV.fl [.int .i64] ([]:List AV))
 else (bif (decide (0≤a1) && decide (a1≤a2) && decide (a2≤(xb.length:Int))) then (bif q93 ((xb.take (Int.toNat a2)).drop (Int.toNat a1)) then some (AV.fl [.int .i64] (v93_0 ((xb.take (Int.toNat a2)).drop (Int.toNat a1))))
 else none)
 else none)))))
 else none):=by kernel_rfl
def m81:TModel
 | [.agg [.sl g0 xa,.sl g1 xb,.sl g2 xc],.int .i64 a1,.int .i64 a2]=>bif ctsEq g0 ([.int .i64]) && ctsEq g1 ([.int .i64]) && ctsEq g2 ([.int .i64,.int .i64]) then some (q81 xa xb xc a1 a2,AV.fl [.int .i64] (v81_0 xa xb xc a1 a2)) else none
 | _=>none
theorem k81:Known Tryz.prog 81:=⟨Tryz.f81,Tryz.func81,by kernel_rfl,by kernel_rfl⟩
theorem meets81:Meets Tryz.prog 81 m81:=by
 refine meet (f:=Tryz.f81) (l:=[]) (hs:=[(81,999,[6])]) (ts:=[(54,m54),(93,m93)]) (ws:=[]) (is:=[]) (ls:=[]) (lvl:=0) mixed k81 Tryz.func81 (by kernel_rfl) noLoop (allT_cons meets54 (allT_cons meets93 allT_nil)) allM_nil noI fun w xs us r hl hv h=>?_
 unfold m81 at h
 split at h
 ·rename_i g0 xa g1 xb g2 xc a1 a2
  obtain ⟨hg,h⟩:=bif_pair h
  simp only [Bool.and_eq_true] at hg
  obtain ⟨⟨q0,q1⟩,q2⟩:=hg
  obtain rfl:=ctsEq_eq _ _ q0
  obtain rfl:=ctsEq_eq _ _ q1
  obtain rfl:=ctsEq_eq _ _ q2
  obtain ⟨h1,rfl⟩:=pair_inj h
  exact (e81 xa xb xc a1 a2).trans ((brL (br (fun b=>some (AV.fl [.int .i64] (bif b then ([]:List AV) else (bif decide (a1<0) then ([]:List AV) else (bif decide (a1 > a2) then ([]:List AV) else (bif decide (a2 > (xb.length:Int)) then ([]:List AV) else (v93_0 ((xb.take (Int.toNat a2)).drop (Int.toNat a1))))))))) (fun _=>rfl) (br (fun b=>some (AV.fl [.int .i64] (bif b then ([]:List AV) else (bif decide (a1 > a2) then ([]:List AV) else (bif decide (a2 > (xb.length:Int)) then ([]:List AV) else (v93_0 ((xb.take (Int.toNat a2)).drop (Int.toNat a1)))))))) (fun _=>rfl) (br (fun b=>some (AV.fl [.int .i64] (bif b then ([]:List AV) else (bif decide (a2 > (xb.length:Int)) then ([]:List AV) else (v93_0 ((xb.take (Int.toNat a2)).drop (Int.toNat a1))))))) (fun _=>rfl) (br (fun b=>some (AV.fl [.int .i64] (bif b then ([]:List AV) else (v93_0 ((xb.take (Int.toNat a2)).drop (Int.toNat a1)))))) (fun _=>rfl) (brL (brL1 (fun _=>rfl)))))))) h1)
 ·cases h
noncomputable def c65:Cfg:=cfg Tryz.prog [(65,999,[8,9,10,11])] [(80,m80),(81,m81)] [(79,.g m79)] [] []
def q65 (ya yb yc za zb:Int) (b0 b1 b2:List AV) (b4:Int):Bool:=(q79 ya yb yc za b0 b1 b2 b4 && (q79 (v79_3 ya yb yc za b0 b1 b2 b4) (v79_4 ya yb yc za b0 b1 b2 b4) (v79_5 ya yb yc za b0 b1 b2 b4) zb (v79_0 ya yb yc za b0 b1 b2 b4) (v79_1 ya yb yc za b0 b1 b2 b4) (v79_2 ya yb yc za b0 b1 b2 b4) (v79_7 ya yb yc za b0 b1 b2 b4) && (q80 (v79_0 (v79_3 ya yb yc za b0 b1 b2 b4) (v79_4 ya yb yc za b0 b1 b2 b4) (v79_5 ya yb yc za b0 b1 b2 b4) zb (v79_0 ya yb yc za b0 b1 b2 b4) (v79_1 ya yb yc za b0 b1 b2 b4) (v79_2 ya yb yc za b0 b1 b2 b4) (v79_7 ya yb yc za b0 b1 b2 b4)) (v79_1 (v79_3 ya yb yc za b0 b1 b2 b4) (v79_4 ya yb yc za b0 b1 b2 b4) (v79_5 ya yb yc za b0 b1 b2 b4) zb (v79_0 ya yb yc za b0 b1 b2 b4) (v79_1 ya yb yc za b0 b1 b2 b4) (v79_2 ya yb yc za b0 b1 b2 b4) (v79_7 ya yb yc za b0 b1 b2 b4)) (v79_2 (v79_3 ya yb yc za b0 b1 b2 b4) (v79_4 ya yb yc za b0 b1 b2 b4) (v79_5 ya yb yc za b0 b1 b2 b4) zb (v79_0 ya yb yc za b0 b1 b2 b4) (v79_1 ya yb yc za b0 b1 b2 b4) (v79_2 ya yb yc za b0 b1 b2 b4) (v79_7 ya yb yc za b0 b1 b2 b4)) za && (q80 (v79_0 (v79_3 ya yb yc za b0 b1 b2 b4) (v79_4 ya yb yc za b0 b1 b2 b4) (v79_5 ya yb yc za b0 b1 b2 b4) zb (v79_0 ya yb yc za b0 b1 b2 b4) (v79_1 ya yb yc za b0 b1 b2 b4) (v79_2 ya yb yc za b0 b1 b2 b4) (v79_7 ya yb yc za b0 b1 b2 b4)) (v79_1 (v79_3 ya yb yc za b0 b1 b2 b4) (v79_4 ya yb yc za b0 b1 b2 b4) (v79_5 ya yb yc za b0 b1 b2 b4) zb (v79_0 ya yb yc za b0 b1 b2 b4) (v79_1 ya yb yc za b0 b1 b2 b4) (v79_2 ya yb yc za b0 b1 b2 b4) (v79_7 ya yb yc za b0 b1 b2 b4)) (v79_2 (v79_3 ya yb yc za b0 b1 b2 b4) (v79_4 ya yb yc za b0 b1 b2 b4) (v79_5 ya yb yc za b0 b1 b2 b4) zb (v79_0 ya yb yc za b0 b1 b2 b4) (v79_1 ya yb yc za b0 b1 b2 b4) (v79_2 ya yb yc za b0 b1 b2 b4) (v79_7 ya yb yc za b0 b1 b2 b4)) zb && q81 (v79_0 (v79_3 ya yb yc za b0 b1 b2 b4) (v79_4 ya yb yc za b0 b1 b2 b4) (v79_5 ya yb yc za b0 b1 b2 b4) zb (v79_0 ya yb yc za b0 b1 b2 b4) (v79_1 ya yb yc za b0 b1 b2 b4) (v79_2 ya yb yc za b0 b1 b2 b4) (v79_7 ya yb yc za b0 b1 b2 b4)) (v79_1 (v79_3 ya yb yc za b0 b1 b2 b4) (v79_4 ya yb yc za b0 b1 b2 b4) (v79_5 ya yb yc za b0 b1 b2 b4) zb (v79_0 ya yb yc za b0 b1 b2 b4) (v79_1 ya yb yc za b0 b1 b2 b4) (v79_2 ya yb yc za b0 b1 b2 b4) (v79_7 ya yb yc za b0 b1 b2 b4)) (v79_2 (v79_3 ya yb yc za b0 b1 b2 b4) (v79_4 ya yb yc za b0 b1 b2 b4) (v79_5 ya yb yc za b0 b1 b2 b4) zb (v79_0 ya yb yc za b0 b1 b2 b4) (v79_1 ya yb yc za b0 b1 b2 b4) (v79_2 ya yb yc za b0 b1 b2 b4) (v79_7 ya yb yc za b0 b1 b2 b4)) (v80_0 (v79_0 (v79_3 ya yb yc za b0 b1 b2 b4) (v79_4 ya yb yc za b0 b1 b2 b4) (v79_5 ya yb yc za b0 b1 b2 b4) zb (v79_0 ya yb yc za b0 b1 b2 b4) (v79_1 ya yb yc za b0 b1 b2 b4) (v79_2 ya yb yc za b0 b1 b2 b4) (v79_7 ya yb yc za b0 b1 b2 b4)) (v79_1 (v79_3 ya yb yc za b0 b1 b2 b4) (v79_4 ya yb yc za b0 b1 b2 b4) (v79_5 ya yb yc za b0 b1 b2 b4) zb (v79_0 ya yb yc za b0 b1 b2 b4) (v79_1 ya yb yc za b0 b1 b2 b4) (v79_2 ya yb yc za b0 b1 b2 b4) (v79_7 ya yb yc za b0 b1 b2 b4)) (v79_2 (v79_3 ya yb yc za b0 b1 b2 b4) (v79_4 ya yb yc za b0 b1 b2 b4) (v79_5 ya yb yc za b0 b1 b2 b4) zb (v79_0 ya yb yc za b0 b1 b2 b4) (v79_1 ya yb yc za b0 b1 b2 b4) (v79_2 ya yb yc za b0 b1 b2 b4) (v79_7 ya yb yc za b0 b1 b2 b4)) za) (v80_0 (v79_0 (v79_3 ya yb yc za b0 b1 b2 b4) (v79_4 ya yb yc za b0 b1 b2 b4) (v79_5 ya yb yc za b0 b1 b2 b4) zb (v79_0 ya yb yc za b0 b1 b2 b4) (v79_1 ya yb yc za b0 b1 b2 b4) (v79_2 ya yb yc za b0 b1 b2 b4) (v79_7 ya yb yc za b0 b1 b2 b4)) (v79_1 (v79_3 ya yb yc za b0 b1 b2 b4) (v79_4 ya yb yc za b0 b1 b2 b4) (v79_5 ya yb yc za b0 b1 b2 b4) zb (v79_0 ya yb yc za b0 b1 b2 b4) (v79_1 ya yb yc za b0 b1 b2 b4) (v79_2 ya yb yc za b0 b1 b2 b4) (v79_7 ya yb yc za b0 b1 b2 b4)) (v79_2 (v79_3 ya yb yc za b0 b1 b2 b4) (v79_4 ya yb yc za b0 b1 b2 b4) (v79_5 ya yb yc za b0 b1 b2 b4) zb (v79_0 ya yb yc za b0 b1 b2 b4) (v79_1 ya yb yc za b0 b1 b2 b4) (v79_2 ya yb yc za b0 b1 b2 b4) (v79_7 ya yb yc za b0 b1 b2 b4)) zb)))))
def v65_0 (ya yb yc za zb:Int) (b0 b1 b2:List AV) (b4:Int):List AV:=(v79_0 (v79_3 ya yb yc za b0 b1 b2 b4) (v79_4 ya yb yc za b0 b1 b2 b4) (v79_5 ya yb yc za b0 b1 b2 b4) zb (v79_0 ya yb yc za b0 b1 b2 b4) (v79_1 ya yb yc za b0 b1 b2 b4) (v79_2 ya yb yc za b0 b1 b2 b4) (v79_7 ya yb yc za b0 b1 b2 b4))
def v65_1 (ya yb yc za zb:Int) (b0 b1 b2:List AV) (b4:Int):List AV:=(v79_1 (v79_3 ya yb yc za b0 b1 b2 b4) (v79_4 ya yb yc za b0 b1 b2 b4) (v79_5 ya yb yc za b0 b1 b2 b4) zb (v79_0 ya yb yc za b0 b1 b2 b4) (v79_1 ya yb yc za b0 b1 b2 b4) (v79_2 ya yb yc za b0 b1 b2 b4) (v79_7 ya yb yc za b0 b1 b2 b4))
def v65_2 (ya yb yc za zb:Int) (b0 b1 b2:List AV) (b4:Int):List AV:=(v79_2 (v79_3 ya yb yc za b0 b1 b2 b4) (v79_4 ya yb yc za b0 b1 b2 b4) (v79_5 ya yb yc za b0 b1 b2 b4) zb (v79_0 ya yb yc za b0 b1 b2 b4) (v79_1 ya yb yc za b0 b1 b2 b4) (v79_2 ya yb yc za b0 b1 b2 b4) (v79_7 ya yb yc za b0 b1 b2 b4))
def v65_3 (ya yb yc za zb:Int) (b0 b1 b2:List AV) (b4:Int):Int:=(v79_3 (v79_3 ya yb yc za b0 b1 b2 b4) (v79_4 ya yb yc za b0 b1 b2 b4) (v79_5 ya yb yc za b0 b1 b2 b4) zb (v79_0 ya yb yc za b0 b1 b2 b4) (v79_1 ya yb yc za b0 b1 b2 b4) (v79_2 ya yb yc za b0 b1 b2 b4) (v79_7 ya yb yc za b0 b1 b2 b4))
def v65_4 (ya yb yc za zb:Int) (b0 b1 b2:List AV) (b4:Int):Int:=(v79_4 (v79_3 ya yb yc za b0 b1 b2 b4) (v79_4 ya yb yc za b0 b1 b2 b4) (v79_5 ya yb yc za b0 b1 b2 b4) zb (v79_0 ya yb yc za b0 b1 b2 b4) (v79_1 ya yb yc za b0 b1 b2 b4) (v79_2 ya yb yc za b0 b1 b2 b4) (v79_7 ya yb yc za b0 b1 b2 b4))
def v65_5 (ya yb yc za zb:Int) (b0 b1 b2:List AV) (b4:Int):Int:=(v79_5 (v79_3 ya yb yc za b0 b1 b2 b4) (v79_4 ya yb yc za b0 b1 b2 b4) (v79_5 ya yb yc za b0 b1 b2 b4) zb (v79_0 ya yb yc za b0 b1 b2 b4) (v79_1 ya yb yc za b0 b1 b2 b4) (v79_2 ya yb yc za b0 b1 b2 b4) (v79_7 ya yb yc za b0 b1 b2 b4))
def v65_6 (ya yb yc za zb:Int) (b0 b1 b2:List AV) (b4:Int):List AV:=(v81_0 (v79_0 (v79_3 ya yb yc za b0 b1 b2 b4) (v79_4 ya yb yc za b0 b1 b2 b4) (v79_5 ya yb yc za b0 b1 b2 b4) zb (v79_0 ya yb yc za b0 b1 b2 b4) (v79_1 ya yb yc za b0 b1 b2 b4) (v79_2 ya yb yc za b0 b1 b2 b4) (v79_7 ya yb yc za b0 b1 b2 b4)) (v79_1 (v79_3 ya yb yc za b0 b1 b2 b4) (v79_4 ya yb yc za b0 b1 b2 b4) (v79_5 ya yb yc za b0 b1 b2 b4) zb (v79_0 ya yb yc za b0 b1 b2 b4) (v79_1 ya yb yc za b0 b1 b2 b4) (v79_2 ya yb yc za b0 b1 b2 b4) (v79_7 ya yb yc za b0 b1 b2 b4)) (v79_2 (v79_3 ya yb yc za b0 b1 b2 b4) (v79_4 ya yb yc za b0 b1 b2 b4) (v79_5 ya yb yc za b0 b1 b2 b4) zb (v79_0 ya yb yc za b0 b1 b2 b4) (v79_1 ya yb yc za b0 b1 b2 b4) (v79_2 ya yb yc za b0 b1 b2 b4) (v79_7 ya yb yc za b0 b1 b2 b4)) (v80_0 (v79_0 (v79_3 ya yb yc za b0 b1 b2 b4) (v79_4 ya yb yc za b0 b1 b2 b4) (v79_5 ya yb yc za b0 b1 b2 b4) zb (v79_0 ya yb yc za b0 b1 b2 b4) (v79_1 ya yb yc za b0 b1 b2 b4) (v79_2 ya yb yc za b0 b1 b2 b4) (v79_7 ya yb yc za b0 b1 b2 b4)) (v79_1 (v79_3 ya yb yc za b0 b1 b2 b4) (v79_4 ya yb yc za b0 b1 b2 b4) (v79_5 ya yb yc za b0 b1 b2 b4) zb (v79_0 ya yb yc za b0 b1 b2 b4) (v79_1 ya yb yc za b0 b1 b2 b4) (v79_2 ya yb yc za b0 b1 b2 b4) (v79_7 ya yb yc za b0 b1 b2 b4)) (v79_2 (v79_3 ya yb yc za b0 b1 b2 b4) (v79_4 ya yb yc za b0 b1 b2 b4) (v79_5 ya yb yc za b0 b1 b2 b4) zb (v79_0 ya yb yc za b0 b1 b2 b4) (v79_1 ya yb yc za b0 b1 b2 b4) (v79_2 ya yb yc za b0 b1 b2 b4) (v79_7 ya yb yc za b0 b1 b2 b4)) za) (v80_0 (v79_0 (v79_3 ya yb yc za b0 b1 b2 b4) (v79_4 ya yb yc za b0 b1 b2 b4) (v79_5 ya yb yc za b0 b1 b2 b4) zb (v79_0 ya yb yc za b0 b1 b2 b4) (v79_1 ya yb yc za b0 b1 b2 b4) (v79_2 ya yb yc za b0 b1 b2 b4) (v79_7 ya yb yc za b0 b1 b2 b4)) (v79_1 (v79_3 ya yb yc za b0 b1 b2 b4) (v79_4 ya yb yc za b0 b1 b2 b4) (v79_5 ya yb yc za b0 b1 b2 b4) zb (v79_0 ya yb yc za b0 b1 b2 b4) (v79_1 ya yb yc za b0 b1 b2 b4) (v79_2 ya yb yc za b0 b1 b2 b4) (v79_7 ya yb yc za b0 b1 b2 b4)) (v79_2 (v79_3 ya yb yc za b0 b1 b2 b4) (v79_4 ya yb yc za b0 b1 b2 b4) (v79_5 ya yb yc za b0 b1 b2 b4) zb (v79_0 ya yb yc za b0 b1 b2 b4) (v79_1 ya yb yc za b0 b1 b2 b4) (v79_2 ya yb yc za b0 b1 b2 b4) (v79_7 ya yb yc za b0 b1 b2 b4)) zb))
def v65_7 (ya yb yc za zb:Int) (b0 b1 b2:List AV) (b4:Int):Int:=IntKind.i64.wrap ((v79_6 ya yb yc za b0 b1 b2 b4)+(v79_6 (v79_3 ya yb yc za b0 b1 b2 b4) (v79_4 ya yb yc za b0 b1 b2 b4) (v79_5 ya yb yc za b0 b1 b2 b4) zb (v79_0 ya yb yc za b0 b1 b2 b4) (v79_1 ya yb yc za b0 b1 b2 b4) (v79_2 ya yb yc za b0 b1 b2 b4) (v79_7 ya yb yc za b0 b1 b2 b4)))
def v65_8 (ya yb yc za zb:Int) (b0 b1 b2:List AV) (b4:Int):Int:=(v79_7 (v79_3 ya yb yc za b0 b1 b2 b4) (v79_4 ya yb yc za b0 b1 b2 b4) (v79_5 ya yb yc za b0 b1 b2 b4) zb (v79_0 ya yb yc za b0 b1 b2 b4) (v79_1 ya yb yc za b0 b1 b2 b4) (v79_2 ya yb yc za b0 b1 b2 b4) (v79_7 ya yb yc za b0 b1 b2 b4))
theorem e65 (ya yb yc za zb:Int) (b0 b1 b2:List AV) (b4:Int) (K:List AV→List (Option Blk)→Option AV):inlA c65 1 65 [AV.agg [AV.own [1],AV.own [2],AV.own [3]],AV.agg [Ai ya,Ai yb,Ai yc],AV.agg [Ai za,Ai zb],AV.fn 66 [AV.ptr [4] 0 0,AV.ptr [5] 0 0]] [0] (canH 1 [⟨false,[.int .i64],b0⟩,⟨false,[.int .i64],b1⟩,⟨false,[.int .i64,.int .i64],b2⟩,⟨true,[],[AV.fn 50 []]⟩,⟨true,[],[Ai b4]⟩]) (keepG Tryz.prog 5 [54,38,22,3] [0,1,2] K)=(bif q79 ya yb yc za b0 b1 b2 b4 then (bif q79 (v79_3 ya yb yc za b0 b1 b2 b4) (v79_4 ya yb yc za b0 b1 b2 b4) (v79_5 ya yb yc za b0 b1 b2 b4) zb (v79_0 ya yb yc za b0 b1 b2 b4) (v79_1 ya yb yc za b0 b1 b2 b4) (v79_2 ya yb yc za b0 b1 b2 b4) (v79_7 ya yb yc za b0 b1 b2 b4) then (bif q80 (v79_0 (v79_3 ya yb yc za b0 b1 b2 b4) (v79_4 ya yb yc za b0 b1 b2 b4) (v79_5 ya yb yc za b0 b1 b2 b4) zb (v79_0 ya yb yc za b0 b1 b2 b4) (v79_1 ya yb yc za b0 b1 b2 b4) (v79_2 ya yb yc za b0 b1 b2 b4) (v79_7 ya yb yc za b0 b1 b2 b4)) (v79_1 (v79_3 ya yb yc za b0 b1 b2 b4) (v79_4 ya yb yc za b0 b1 b2 b4) (v79_5 ya yb yc za b0 b1 b2 b4) zb (v79_0 ya yb yc za b0 b1 b2 b4) (v79_1 ya yb yc za b0 b1 b2 b4) (v79_2 ya yb yc za b0 b1 b2 b4) (v79_7 ya yb yc za b0 b1 b2 b4)) (v79_2 (v79_3 ya yb yc za b0 b1 b2 b4) (v79_4 ya yb yc za b0 b1 b2 b4) (v79_5 ya yb yc za b0 b1 b2 b4) zb (v79_0 ya yb yc za b0 b1 b2 b4) (v79_1 ya yb yc za b0 b1 b2 b4) (v79_2 ya yb yc za b0 b1 b2 b4) (v79_7 ya yb yc za b0 b1 b2 b4)) za then (bif q80 (v79_0 (v79_3 ya yb yc za b0 b1 b2 b4) (v79_4 ya yb yc za b0 b1 b2 b4) (v79_5 ya yb yc za b0 b1 b2 b4) zb (v79_0 ya yb yc za b0 b1 b2 b4) (v79_1 ya yb yc za b0 b1 b2 b4) (v79_2 ya yb yc za b0 b1 b2 b4) (v79_7 ya yb yc za b0 b1 b2 b4)) (v79_1 (v79_3 ya yb yc za b0 b1 b2 b4) (v79_4 ya yb yc za b0 b1 b2 b4) (v79_5 ya yb yc za b0 b1 b2 b4) zb (v79_0 ya yb yc za b0 b1 b2 b4) (v79_1 ya yb yc za b0 b1 b2 b4) (v79_2 ya yb yc za b0 b1 b2 b4) (v79_7 ya yb yc za b0 b1 b2 b4)) (v79_2 (v79_3 ya yb yc za b0 b1 b2 b4) (v79_4 ya yb yc za b0 b1 b2 b4) (v79_5 ya yb yc za b0 b1 b2 b4) zb (v79_0 ya yb yc za b0 b1 b2 b4) (v79_1 ya yb yc za b0 b1 b2 b4) (v79_2 ya yb yc za b0 b1 b2 b4) (v79_7 ya yb yc za b0 b1 b2 b4)) zb then (bif q81 (v79_0 (v79_3 ya yb yc za b0 b1 b2 b4) (v79_4 ya yb yc za b0 b1 b2 b4) (v79_5 ya yb yc za b0 b1 b2 b4) zb (v79_0 ya yb yc za b0 b1 b2 b4) (v79_1 ya yb yc za b0 b1 b2 b4) (v79_2 ya yb yc za b0 b1 b2 b4) (v79_7 ya yb yc za b0 b1 b2 b4)) (v79_1 (v79_3 ya yb yc za b0 b1 b2 b4) (v79_4 ya yb yc za b0 b1 b2 b4) (v79_5 ya yb yc za b0 b1 b2 b4) zb (v79_0 ya yb yc za b0 b1 b2 b4) (v79_1 ya yb yc za b0 b1 b2 b4) (v79_2 ya yb yc za b0 b1 b2 b4) (v79_7 ya yb yc za b0 b1 b2 b4)) (v79_2 (v79_3 ya yb yc za b0 b1 b2 b4) (v79_4 ya yb yc za b0 b1 b2 b4) (v79_5 ya yb yc za b0 b1 b2 b4) zb (v79_0 ya yb yc za b0 b1 b2 b4) (v79_1 ya yb yc za b0 b1 b2 b4) (v79_2 ya yb yc za b0 b1 b2 b4) (v79_7 ya yb yc za b0 b1 b2 b4)) (v80_0 (v79_0 (v79_3 ya yb yc za b0 b1 b2 b4) (v79_4 ya yb yc za b0 b1 b2 b4) (v79_5 ya yb yc za b0 b1 b2 b4) zb (v79_0 ya yb yc za b0 b1 b2 b4) (v79_1 ya yb yc za b0 b1 b2 b4) (v79_2 ya yb yc za b0 b1 b2 b4) (v79_7 ya yb yc za b0 b1 b2 b4)) (v79_1 (v79_3 ya yb yc za b0 b1 b2 b4) (v79_4 ya yb yc za b0 b1 b2 b4) (v79_5 ya yb yc za b0 b1 b2 b4) zb (v79_0 ya yb yc za b0 b1 b2 b4) (v79_1 ya yb yc za b0 b1 b2 b4) (v79_2 ya yb yc za b0 b1 b2 b4) (v79_7 ya yb yc za b0 b1 b2 b4)) (v79_2 (v79_3 ya yb yc za b0 b1 b2 b4) (v79_4 ya yb yc za b0 b1 b2 b4) (v79_5 ya yb yc za b0 b1 b2 b4) zb (v79_0 ya yb yc za b0 b1 b2 b4) (v79_1 ya yb yc za b0 b1 b2 b4) (v79_2 ya yb yc za b0 b1 b2 b4) (v79_7 ya yb yc za b0 b1 b2 b4)) za) (v80_0 (v79_0 (v79_3 ya yb yc za b0 b1 b2 b4) (v79_4 ya yb yc za b0 b1 b2 b4) (v79_5 ya yb yc za b0 b1 b2 b4) zb (v79_0 ya yb yc za b0 b1 b2 b4) (v79_1 ya yb yc za b0 b1 b2 b4) (v79_2 ya yb yc za b0 b1 b2 b4) (v79_7 ya yb yc za b0 b1 b2 b4)) (v79_1 (v79_3 ya yb yc za b0 b1 b2 b4) (v79_4 ya yb yc za b0 b1 b2 b4) (v79_5 ya yb yc za b0 b1 b2 b4) zb (v79_0 ya yb yc za b0 b1 b2 b4) (v79_1 ya yb yc za b0 b1 b2 b4) (v79_2 ya yb yc za b0 b1 b2 b4) (v79_7 ya yb yc za b0 b1 b2 b4)) (v79_2 (v79_3 ya yb yc za b0 b1 b2 b4) (v79_4 ya yb yc za b0 b1 b2 b4) (v79_5 ya yb yc za b0 b1 b2 b4) zb (v79_0 ya yb yc za b0 b1 b2 b4) (v79_1 ya yb yc za b0 b1 b2 b4) (v79_2 ya yb yc za b0 b1 b2 b4) (v79_7 ya yb yc za b0 b1 b2 b4)) zb) then K [AV.agg [AV.fl [.int .i64] (v79_0 (v79_3 ya yb yc za b0 b1 b2 b4) (v79_4 ya yb yc za b0 b1 b2 b4) (v79_5 ya yb yc za b0 b1 b2 b4) zb (v79_0 ya yb yc za b0 b1 b2 b4) (v79_1 ya yb yc za b0 b1 b2 b4) (v79_2 ya yb yc za b0 b1 b2 b4) (v79_7 ya yb yc za b0 b1 b2 b4)),AV.fl [.int .i64] (v79_1 (v79_3 ya yb yc za b0 b1 b2 b4) (v79_4 ya yb yc za b0 b1 b2 b4) (v79_5 ya yb yc za b0 b1 b2 b4) zb (v79_0 ya yb yc za b0 b1 b2 b4) (v79_1 ya yb yc za b0 b1 b2 b4) (v79_2 ya yb yc za b0 b1 b2 b4) (v79_7 ya yb yc za b0 b1 b2 b4)),AV.fl [.int .i64,.int .i64] (v79_2 (v79_3 ya yb yc za b0 b1 b2 b4) (v79_4 ya yb yc za b0 b1 b2 b4) (v79_5 ya yb yc za b0 b1 b2 b4) zb (v79_0 ya yb yc za b0 b1 b2 b4) (v79_1 ya yb yc za b0 b1 b2 b4) (v79_2 ya yb yc za b0 b1 b2 b4) (v79_7 ya yb yc za b0 b1 b2 b4))],AV.agg [Ai (v79_3 (v79_3 ya yb yc za b0 b1 b2 b4) (v79_4 ya yb yc za b0 b1 b2 b4) (v79_5 ya yb yc za b0 b1 b2 b4) zb (v79_0 ya yb yc za b0 b1 b2 b4) (v79_1 ya yb yc za b0 b1 b2 b4) (v79_2 ya yb yc za b0 b1 b2 b4) (v79_7 ya yb yc za b0 b1 b2 b4)),Ai (v79_4 (v79_3 ya yb yc za b0 b1 b2 b4) (v79_4 ya yb yc za b0 b1 b2 b4) (v79_5 ya yb yc za b0 b1 b2 b4) zb (v79_0 ya yb yc za b0 b1 b2 b4) (v79_1 ya yb yc za b0 b1 b2 b4) (v79_2 ya yb yc za b0 b1 b2 b4) (v79_7 ya yb yc za b0 b1 b2 b4)),Ai (v79_5 (v79_3 ya yb yc za b0 b1 b2 b4) (v79_4 ya yb yc za b0 b1 b2 b4) (v79_5 ya yb yc za b0 b1 b2 b4) zb (v79_0 ya yb yc za b0 b1 b2 b4) (v79_1 ya yb yc za b0 b1 b2 b4) (v79_2 ya yb yc za b0 b1 b2 b4) (v79_7 ya yb yc za b0 b1 b2 b4))],AV.fl [.int .i64] (v81_0 (v79_0 (v79_3 ya yb yc za b0 b1 b2 b4) (v79_4 ya yb yc za b0 b1 b2 b4) (v79_5 ya yb yc za b0 b1 b2 b4) zb (v79_0 ya yb yc za b0 b1 b2 b4) (v79_1 ya yb yc za b0 b1 b2 b4) (v79_2 ya yb yc za b0 b1 b2 b4) (v79_7 ya yb yc za b0 b1 b2 b4)) (v79_1 (v79_3 ya yb yc za b0 b1 b2 b4) (v79_4 ya yb yc za b0 b1 b2 b4) (v79_5 ya yb yc za b0 b1 b2 b4) zb (v79_0 ya yb yc za b0 b1 b2 b4) (v79_1 ya yb yc za b0 b1 b2 b4) (v79_2 ya yb yc za b0 b1 b2 b4) (v79_7 ya yb yc za b0 b1 b2 b4)) (v79_2 (v79_3 ya yb yc za b0 b1 b2 b4) (v79_4 ya yb yc za b0 b1 b2 b4) (v79_5 ya yb yc za b0 b1 b2 b4) zb (v79_0 ya yb yc za b0 b1 b2 b4) (v79_1 ya yb yc za b0 b1 b2 b4) (v79_2 ya yb yc za b0 b1 b2 b4) (v79_7 ya yb yc za b0 b1 b2 b4)) (v80_0 (v79_0 (v79_3 ya yb yc za b0 b1 b2 b4) (v79_4 ya yb yc za b0 b1 b2 b4) (v79_5 ya yb yc za b0 b1 b2 b4) zb (v79_0 ya yb yc za b0 b1 b2 b4) (v79_1 ya yb yc za b0 b1 b2 b4) (v79_2 ya yb yc za b0 b1 b2 b4) (v79_7 ya yb yc za b0 b1 b2 b4)) (v79_1 (v79_3 ya yb yc za b0 b1 b2 b4) (v79_4 ya yb yc za b0 b1 b2 b4) (v79_5 ya yb yc za b0 b1 b2 b4) zb (v79_0 ya yb yc za b0 b1 b2 b4) (v79_1 ya yb yc za b0 b1 b2 b4) (v79_2 ya yb yc za b0 b1 b2 b4) (v79_7 ya yb yc za b0 b1 b2 b4)) (v79_2 (v79_3 ya yb yc za b0 b1 b2 b4) (v79_4 ya yb yc za b0 b1 b2 b4) (v79_5 ya yb yc za b0 b1 b2 b4) zb (v79_0 ya yb yc za b0 b1 b2 b4) (v79_1 ya yb yc za b0 b1 b2 b4) (v79_2 ya yb yc za b0 b1 b2 b4) (v79_7 ya yb yc za b0 b1 b2 b4)) za) (v80_0 (v79_0 (v79_3 ya yb yc za b0 b1 b2 b4) (v79_4 ya yb yc za b0 b1 b2 b4) (v79_5 ya yb yc za b0 b1 b2 b4) zb (v79_0 ya yb yc za b0 b1 b2 b4) (v79_1 ya yb yc za b0 b1 b2 b4) (v79_2 ya yb yc za b0 b1 b2 b4) (v79_7 ya yb yc za b0 b1 b2 b4)) (v79_1 (v79_3 ya yb yc za b0 b1 b2 b4) (v79_4 ya yb yc za b0 b1 b2 b4) (v79_5 ya yb yc za b0 b1 b2 b4) zb (v79_0 ya yb yc za b0 b1 b2 b4) (v79_1 ya yb yc za b0 b1 b2 b4) (v79_2 ya yb yc za b0 b1 b2 b4) (v79_7 ya yb yc za b0 b1 b2 b4)) (v79_2 (v79_3 ya yb yc za b0 b1 b2 b4) (v79_4 ya yb yc za b0 b1 b2 b4) (v79_5 ya yb yc za b0 b1 b2 b4) zb (v79_0 ya yb yc za b0 b1 b2 b4) (v79_1 ya yb yc za b0 b1 b2 b4) (v79_2 ya yb yc za b0 b1 b2 b4) (v79_7 ya yb yc za b0 b1 b2 b4)) zb)),Ai (IntKind.i64.wrap ((v79_6 ya yb yc za b0 b1 b2 b4)+(v79_6 (v79_3 ya yb yc za b0 b1 b2 b4) (v79_4 ya yb yc za b0 b1 b2 b4) (v79_5 ya yb yc za b0 b1 b2 b4) zb (v79_0 ya yb yc za b0 b1 b2 b4) (v79_1 ya yb yc za b0 b1 b2 b4) (v79_2 ya yb yc za b0 b1 b2 b4) (v79_7 ya yb yc za b0 b1 b2 b4))))] [none,none,none,some ⟨true,[],[AV.fn 50 []]⟩,some ⟨true,[],[Ai (v79_7 (v79_3 ya yb yc za b0 b1 b2 b4) (v79_4 ya yb yc za b0 b1 b2 b4) (v79_5 ya yb yc za b0 b1 b2 b4) zb (v79_0 ya yb yc za b0 b1 b2 b4) (v79_1 ya yb yc za b0 b1 b2 b4) (v79_2 ya yb yc za b0 b1 b2 b4) (v79_7 ya yb yc za b0 b1 b2 b4))]⟩]
 else none)
 else none)
 else none)
 else none)
 else none):=by kernel_rfl
theorem r65 (ya yb yc za zb:Int) (b0 b1 b2:List AV) (b4:Int) (K:List AV→List (Option Blk)→Option AV) (h:q65 ya yb yc za zb b0 b1 b2 b4=true):inlA c65 1 65 [AV.agg [AV.own [1],AV.own [2],AV.own [3]],AV.agg [AV.int .i64 ya,AV.int .i64 yb,AV.int .i64 yc],AV.agg [AV.int .i64 za,AV.int .i64 zb],AV.fn 66 [AV.ptr [4] 0 0,AV.ptr [5] 0 0]] [0] (canH 1 [⟨false,[.int .i64],b0⟩,⟨false,[.int .i64],b1⟩,⟨false,[.int .i64,.int .i64],b2⟩,⟨true,[],[AV.fn 50 []]⟩,⟨true,[],[AV.int .i64 b4]⟩]) (keepG Tryz.prog 5 [54,38,22,3] [0,1,2] K)=K [AV.agg [AV.fl [.int .i64] (v65_0 ya yb yc za zb b0 b1 b2 b4),AV.fl [.int .i64] (v65_1 ya yb yc za zb b0 b1 b2 b4),AV.fl [.int .i64,.int .i64] (v65_2 ya yb yc za zb b0 b1 b2 b4)],AV.agg [AV.int .i64 (v65_3 ya yb yc za zb b0 b1 b2 b4),AV.int .i64 (v65_4 ya yb yc za zb b0 b1 b2 b4),AV.int .i64 (v65_5 ya yb yc za zb b0 b1 b2 b4)],AV.fl [.int .i64] (v65_6 ya yb yc za zb b0 b1 b2 b4),AV.int .i64 (v65_7 ya yb yc za zb b0 b1 b2 b4)] [none,none,none,some ⟨true,[],[AV.fn 50 []]⟩,some ⟨true,[],[AV.int .i64 (v65_8 ya yb yc za zb b0 b1 b2 b4)]⟩]:=(e65 ya yb yc za zb b0 b1 b2 b4 K).trans ((brL (brL (brL (brL (brL1 (fun _=>rfl)))))) h)
def m65:GModel
 | [.agg [.own g0,.own g1,.own g2],.agg [.int .i64 ya,.int .i64 yb,.int .i64 yc],.agg [.int .i64 za,.int .i64 zb],.fn g3 [.ptr g4 g5 g6,.ptr g7 g8 g9]],[⟨false,g10,b0⟩,⟨false,g11,b1⟩,⟨false,g12,b2⟩,⟨true,[],[.fn g13 []]⟩,⟨true,[],[.int .i64 b4]⟩]=>bif nmEq g0 ([1]) && nmEq g1 ([2]) && nmEq g2 ([3]) && Nat.beq g3 66 && nmEq g4 ([4]) && Nat.beq g5 0 && Nat.beq g6 0 && nmEq g7 ([5]) && Nat.beq g8 0 && Nat.beq g9 0 && ctsEq g10 ([.int .i64]) && ctsEq g11 ([.int .i64]) && ctsEq g12 ([.int .i64,.int .i64]) && Nat.beq g13 50 then some (q65 ya yb yc za zb b0 b1 b2 b4,[AV.agg [AV.fl [.int .i64] (v65_0 ya yb yc za zb b0 b1 b2 b4),AV.fl [.int .i64] (v65_1 ya yb yc za zb b0 b1 b2 b4),AV.fl [.int .i64,.int .i64] (v65_2 ya yb yc za zb b0 b1 b2 b4)],AV.agg [AV.int .i64 (v65_3 ya yb yc za zb b0 b1 b2 b4),AV.int .i64 (v65_4 ya yb yc za zb b0 b1 b2 b4),AV.int .i64 (v65_5 ya yb yc za zb b0 b1 b2 b4)],AV.fl [.int .i64] (v65_6 ya yb yc za zb b0 b1 b2 b4),AV.int .i64 (v65_7 ya yb yc za zb b0 b1 b2 b4)],[none,none,none,some ⟨true,[],[AV.fn 50 []]⟩,some ⟨true,[],[AV.int .i64 (v65_8 ya yb yc za zb b0 b1 b2 b4)]⟩]) else none
 | _,_=>none
theorem k65:Known Tryz.prog 65:=⟨Tryz.f65,Tryz.func65,by kernel_rfl,by kernel_rfl⟩
theorem meets65:MeetsG Tryz.prog 65 m65:=by
 refine meetG (rt:=[54,38,22,3]) (gs:=[0,1,2]) (f:=Tryz.f65) (l:=[]) (hs:=[(65,999,[8,9,10,11])]) (ts:=[(80,m80),(81,m81)]) (ws:=[(79,.g m79)]) (is:=[]) (ls:=[]) (lvl:=0) mixed k65 Tryz.func65 (by kernel_rfl) noLoop (allT_cons meets80 (allT_cons meets81 allT_nil)) (allG_cons meets79 allM_nil) noI fun C w xs us bs r bs' hl hv hh h K=>?_
 unfold m65 at h
 split at h
 ·rename_i g0 g1 g2 ya yb yc za zb g3 g4 g5 g6 g7 g8 g9 g10 b0 g11 b1 g12 b2 g13 b4
  obtain ⟨hg,h⟩:=bif_pair h
  simp only [Bool.and_eq_true] at hg
  obtain ⟨⟨⟨⟨⟨⟨⟨⟨⟨⟨⟨⟨⟨q0,q1⟩,q2⟩,q3⟩,q4⟩,q5⟩,q6⟩,q7⟩,q8⟩,q9⟩,q10⟩,q11⟩,q12⟩,q13⟩:=hg
  obtain rfl:=(nmEq_iff _ _).1 q0
  obtain rfl:=(nmEq_iff _ _).1 q1
  obtain rfl:=(nmEq_iff _ _).1 q2
  obtain rfl:=Nat.eq_of_beq_eq_true q3
  obtain rfl:=(nmEq_iff _ _).1 q4
  obtain rfl:=Nat.eq_of_beq_eq_true q5
  obtain rfl:=Nat.eq_of_beq_eq_true q6
  obtain rfl:=(nmEq_iff _ _).1 q7
  obtain rfl:=Nat.eq_of_beq_eq_true q8
  obtain rfl:=Nat.eq_of_beq_eq_true q9
  obtain rfl:=ctsEq_eq _ _ q10
  obtain rfl:=ctsEq_eq _ _ q11
  obtain rfl:=ctsEq_eq _ _ q12
  obtain rfl:=Nat.eq_of_beq_eq_true q13
  obtain ⟨h1,rfl,rfl⟩:=trip_inj h
  exact r65 ya yb yc za zb b0 b1 b2 b4 K h1
 ·cases h
def F49_0 (t22:List AV) (t23 t24:Int) (h0 h1 h2:List AV) (h3_0 h3_1 h3_2:Int) (h7 h8:List AV):Out ((Int × (List AV) × (List AV) × (List AV) × Int × Int × Int × (List AV) × (List AV))) (((List AV) × (List AV) × (List AV) × Int × Int × Int × (List AV) × (List AV))):=(bif decide (t24<t23) then (bif (decide (0≤t24) && decide (t24<(t22.length:Int))) then (bif q65 h3_0 h3_1 h3_2 (fI (t22.getD t24.toNat .undef) 0) (fI (t22.getD t24.toNat .undef) 1) h0 h1 h2 t24 then (bif (decide ((h7.length+([AV.sl [.int .i64] (v65_6 h3_0 h3_1 h3_2 (fI (t22.getD t24.toNat .undef) 0) (fI (t22.getD t24.toNat .undef) 1) h0 h1 h2 t24)]).length)*24≤140737488355328) && decide ((h7.length+([AV.sl [.int .i64] (v65_6 h3_0 h3_1 h3_2 (fI (t22.getD t24.toNat .undef) 0) (fI (t22.getD t24.toNat .undef) 1) h0 h1 h2 t24)]).length)≤140737488355328)) then (bif (decide ((h8.length+([AV.int .i64 (v65_7 h3_0 h3_1 h3_2 (fI (t22.getD t24.toNat .undef) 0) (fI (t22.getD t24.toNat .undef) 1) h0 h1 h2 t24)]).length)*8≤140737488355328) && decide ((h8.length+([AV.int .i64 (v65_7 h3_0 h3_1 h3_2 (fI (t22.getD t24.toNat .undef) 0) (fI (t22.getD t24.toNat .undef) 1) h0 h1 h2 t24)]).length)≤140737488355328)) then .next (IntKind.i64.wrap (t24+1),(v65_0 h3_0 h3_1 h3_2 (fI (t22.getD t24.toNat .undef) 0) (fI (t22.getD t24.toNat .undef) 1) h0 h1 h2 t24),(v65_1 h3_0 h3_1 h3_2 (fI (t22.getD t24.toNat .undef) 0) (fI (t22.getD t24.toNat .undef) 1) h0 h1 h2 t24),(v65_2 h3_0 h3_1 h3_2 (fI (t22.getD t24.toNat .undef) 0) (fI (t22.getD t24.toNat .undef) 1) h0 h1 h2 t24),(v65_3 h3_0 h3_1 h3_2 (fI (t22.getD t24.toNat .undef) 0) (fI (t22.getD t24.toNat .undef) 1) h0 h1 h2 t24),(v65_4 h3_0 h3_1 h3_2 (fI (t22.getD t24.toNat .undef) 0) (fI (t22.getD t24.toNat .undef) 1) h0 h1 h2 t24),(v65_5 h3_0 h3_1 h3_2 (fI (t22.getD t24.toNat .undef) 0) (fI (t22.getD t24.toNat .undef) 1) h0 h1 h2 t24),h7++([AV.sl [.int .i64] (v65_6 h3_0 h3_1 h3_2 (fI (t22.getD t24.toNat .undef) 0) (fI (t22.getD t24.toNat .undef) 1) h0 h1 h2 t24)]),h8++([AV.int .i64 (v65_7 h3_0 h3_1 h3_2 (fI (t22.getD t24.toNat .undef) 0) (fI (t22.getD t24.toNat .undef) 1) h0 h1 h2 t24)]))
 else .fail)
 else .fail)
 else .fail)
 else .fail)
 else .stop (h0,h1,h2,h3_0,h3_1,h3_2,h7,h8))
def R49_0 (t22:List AV) (t23:Int):((Int × (List AV) × (List AV) × (List AV) × Int × Int × Int × (List AV) × (List AV)))→Out ((Int × (List AV) × (List AV) × (List AV) × Int × Int × Int × (List AV) × (List AV))) (((List AV) × (List AV) × (List AV) × Int × Int × Int × (List AV) × (List AV))):=fun s:Int × (List AV) × (List AV) × (List AV) × Int × Int × Int × (List AV) × (List AV)=>F49_0 t22 t23 s.1 s.2.1 s.2.2.1 s.2.2.2.1 s.2.2.2.2.1 s.2.2.2.2.2.1 s.2.2.2.2.2.2.1 s.2.2.2.2.2.2.2.1 s.2.2.2.2.2.2.2.2
def E49_0 (t22:List AV) (t23:Int):((Int × (List AV) × (List AV) × (List AV) × Int × Int × Int × (List AV) × (List AV)))→St:=fun s:Int × (List AV) × (List AV) × (List AV) × Int × Int × Int × (List AV) × (List AV)=>⟨[(5,AV.ptr [0,5] 0 0),(7,AV.ptr [0,7] 0 0),(8,AV.ptr [0,8] 0 0),(11,AV.ptr [0,11] 0 0),(12,AV.own [0,12]),(13,AV.own [0,13]),(22,AV.sl [.int .i64,.int .i64] t22),(23,Ai t23),(24,Ai s.1)],[([0,0,11],⟨false,[.int .i64],s.2.1⟩),([0,1,11],⟨false,[.int .i64],s.2.2.1⟩),([0,2,11],⟨false,[.int .i64,.int .i64],s.2.2.2.1⟩),([0,5],⟨true,[],[AV.agg [Ai s.2.2.2.2.1,Ai s.2.2.2.2.2.1,Ai s.2.2.2.2.2.2.1]]⟩),([0,7],⟨true,[],[AV.fn 50 []]⟩),([0,8],⟨true,[],[AV.agg [AV.snil,AV.snil,AV.snil]]⟩),([0,11],⟨true,[],[AV.agg [AV.own [0,0,11],AV.own [0,1,11],AV.own [0,2,11]]]⟩),([0,12],⟨false,[.sl [.int .i64]],s.2.2.2.2.2.2.2.1⟩),([0,13],⟨false,[.int .i64],s.2.2.2.2.2.2.2.2⟩)]⟩
def K49_0 (k:Kont):(((List AV) × (List AV) × (List AV) × Int × Int × Int × (List AV) × (List AV)))→Option AV:=fun p:(List AV) × (List AV) × (List AV) × Int × Int × Int × (List AV) × (List AV)=>k (.exit 0) ⟨[(8,AV.ptr [0,8] 0 0),(11,AV.ptr [0,11] 0 0),(12,AV.own [0,12]),(13,AV.own [0,13])],[([0,0,11],⟨false,[.int .i64],p.1⟩),([0,1,11],⟨false,[.int .i64],p.2.1⟩),([0,2,11],⟨false,[.int .i64,.int .i64],p.2.2.1⟩),([0,5],⟨true,[],[AV.agg [Ai p.2.2.2.1,Ai p.2.2.2.2.1,Ai p.2.2.2.2.2.1]]⟩),([0,7],⟨true,[],[AV.fn 50 []]⟩),([0,8],⟨true,[],[AV.agg [AV.snil,AV.snil,AV.snil]]⟩),([0,11],⟨true,[],[AV.agg [AV.own [0,0,11],AV.own [0,1,11],AV.own [0,2,11]]]⟩),([0,12],⟨false,[.sl [.int .i64]],p.2.2.2.2.2.2.1⟩),([0,13],⟨false,[.int .i64],p.2.2.2.2.2.2.2⟩)]⟩
def l49_0:LModel:=fun _ _ st k=>match st with
 | ⟨[(5,.ptr g0 g1 g2),(7,.ptr g3 g4 g5),(8,.ptr g6 g7 g8),(11,.ptr g9 g10 g11),(12,.own g12),(13,.own g13),(22,.sl g14 t22),(23,.int .i64 t23),(24,.int .i64 t24)],[(g15,⟨false,g16,h0⟩),(g17,⟨false,g18,h1⟩),(g19,⟨false,g20,h2⟩),(g21,⟨true,[],[.agg [.int .i64 h3_0,.int .i64 h3_1,.int .i64 h3_2]]⟩),(g22,⟨true,[],[.fn g23 []]⟩),(g24,⟨true,[],[.agg [.snil,.snil,.snil]]⟩),(g25,⟨true,[],[.agg [.own g26,.own g27,.own g28]]⟩),(g29,⟨false,g30,h7⟩),(g31,⟨false,g32,h8⟩)]⟩=>bif nmEq g0 ([0,5]) && Nat.beq g1 0 && Nat.beq g2 0 && nmEq g3 ([0,7]) && Nat.beq g4 0 && Nat.beq g5 0 && nmEq g6 ([0,8]) && Nat.beq g7 0 && Nat.beq g8 0 && nmEq g9 ([0,11]) && Nat.beq g10 0 && Nat.beq g11 0 && nmEq g12 ([0,12]) && nmEq g13 ([0,13]) && ctsEq g14 ([.int .i64,.int .i64]) && nmEq g15 ([0,0,11]) && ctsEq g16 ([.int .i64]) && nmEq g17 ([0,1,11]) && ctsEq g18 ([.int .i64]) && nmEq g19 ([0,2,11]) && ctsEq g20 ([.int .i64,.int .i64]) && nmEq g21 ([0,5]) && nmEq g22 ([0,7]) && Nat.beq g23 50 && nmEq g24 ([0,8]) && nmEq g25 ([0,11]) && nmEq g26 ([0,0,11]) && nmEq g27 ([0,1,11]) && nmEq g28 ([0,2,11]) && nmEq g29 ([0,12]) && ctsEq g30 ([.sl [.int .i64]]) && nmEq g31 ([0,13]) && ctsEq g32 ([.int .i64]) then ro (runW (R49_0 t22 t23) ((t23 - t24:Int).toNat+1) (t24,h0,h1,h2,h3_0,h3_1,h3_2,h7,h8)) none (K49_0 k) else none
 | _=>none
noncomputable def c49:Cfg:=cfg Tryz.prog [(49,0,[5,7,8,11,12,13,22,23,24]),(49,999,[8,9,10]),(49,1000,[8,11,12,13]),(49,1001,[5,7,8,11,12,13,22,23,24])] [(64,m64)] [(65,.g m65)] [] [(49,0,l49_0)]
theorem s49_0 (ce:CallE) (t22:List AV) (t23 t24:Int) (h0 h1 h2:List AV) (h3_0 h3_1 h3_2:Int) (h7 h8:List AV) (next:St→Option AV) (k:Kont):stepA (codeA c49 ce [] 49 0 (sub [1,1,0,1,0,0] (body Tryz.f49))) (normA [] [5,7,8,11,12,13,22,23,24]) next ⟨[(5,AV.ptr [0,5] 0 0),(7,AV.ptr [0,7] 0 0),(8,AV.ptr [0,8] 0 0),(11,AV.ptr [0,11] 0 0),(12,AV.own [0,12]),(13,AV.own [0,13]),(22,AV.sl [.int .i64,.int .i64] t22),(23,Ai t23),(24,Ai t24)],[([0,0,11],⟨false,[.int .i64],h0⟩),([0,1,11],⟨false,[.int .i64],h1⟩),([0,2,11],⟨false,[.int .i64,.int .i64],h2⟩),([0,5],⟨true,[],[AV.agg [Ai h3_0,Ai h3_1,Ai h3_2]]⟩),([0,7],⟨true,[],[AV.fn 50 []]⟩),([0,8],⟨true,[],[AV.agg [AV.snil,AV.snil,AV.snil]]⟩),([0,11],⟨true,[],[AV.agg [AV.own [0,0,11],AV.own [0,1,11],AV.own [0,2,11]]]⟩),([0,12],⟨false,[.sl [.int .i64]],h7⟩),([0,13],⟨false,[.int .i64],h8⟩)]⟩ k=(bif decide (t24<t23) then (bif (decide (0≤t24) && decide (t24<(t22.length:Int))) then (bif q65 h3_0 h3_1 h3_2 (fI (t22.getD t24.toNat .undef) 0) (fI (t22.getD t24.toNat .undef) 1) h0 h1 h2 t24 then (bif (decide ((h7.length+([AV.sl [.int .i64] (v65_6 h3_0 h3_1 h3_2 (fI (t22.getD t24.toNat .undef) 0) (fI (t22.getD t24.toNat .undef) 1) h0 h1 h2 t24)]).length)*24≤140737488355328) && decide ((h7.length+([AV.sl [.int .i64] (v65_6 h3_0 h3_1 h3_2 (fI (t22.getD t24.toNat .undef) 0) (fI (t22.getD t24.toNat .undef) 1) h0 h1 h2 t24)]).length)≤140737488355328)) then (bif (decide ((h8.length+([Ai (v65_7 h3_0 h3_1 h3_2 (fI (t22.getD t24.toNat .undef) 0) (fI (t22.getD t24.toNat .undef) 1) h0 h1 h2 t24)]).length)*8≤140737488355328) && decide ((h8.length+([Ai (v65_7 h3_0 h3_1 h3_2 (fI (t22.getD t24.toNat .undef) 0) (fI (t22.getD t24.toNat .undef) 1) h0 h1 h2 t24)]).length)≤140737488355328)) then next ⟨[(5,AV.ptr [0,5] 0 0),(7,AV.ptr [0,7] 0 0),(8,AV.ptr [0,8] 0 0),(11,AV.ptr [0,11] 0 0),(12,AV.own [0,12]),(13,AV.own [0,13]),(22,AV.sl [.int .i64,.int .i64] t22),(23,Ai t23),(24,Ai (IntKind.i64.wrap (t24+1)))],[([0,0,11],⟨false,[.int .i64],(v65_0 h3_0 h3_1 h3_2 (fI (t22.getD t24.toNat .undef) 0) (fI (t22.getD t24.toNat .undef) 1) h0 h1 h2 t24)⟩),([0,1,11],⟨false,[.int .i64],(v65_1 h3_0 h3_1 h3_2 (fI (t22.getD t24.toNat .undef) 0) (fI (t22.getD t24.toNat .undef) 1) h0 h1 h2 t24)⟩),([0,2,11],⟨false,[.int .i64,.int .i64],(v65_2 h3_0 h3_1 h3_2 (fI (t22.getD t24.toNat .undef) 0) (fI (t22.getD t24.toNat .undef) 1) h0 h1 h2 t24)⟩),([0,5],⟨true,[],[AV.agg [Ai (v65_3 h3_0 h3_1 h3_2 (fI (t22.getD t24.toNat .undef) 0) (fI (t22.getD t24.toNat .undef) 1) h0 h1 h2 t24),Ai (v65_4 h3_0 h3_1 h3_2 (fI (t22.getD t24.toNat .undef) 0) (fI (t22.getD t24.toNat .undef) 1) h0 h1 h2 t24),Ai (v65_5 h3_0 h3_1 h3_2 (fI (t22.getD t24.toNat .undef) 0) (fI (t22.getD t24.toNat .undef) 1) h0 h1 h2 t24)]]⟩),([0,7],⟨true,[],[AV.fn 50 []]⟩),([0,8],⟨true,[],[AV.agg [AV.snil,AV.snil,AV.snil]]⟩),([0,11],⟨true,[],[AV.agg [AV.own [0,0,11],AV.own [0,1,11],AV.own [0,2,11]]]⟩),([0,12],⟨false,[.sl [.int .i64]],h7++([AV.sl [.int .i64] (v65_6 h3_0 h3_1 h3_2 (fI (t22.getD t24.toNat .undef) 0) (fI (t22.getD t24.toNat .undef) 1) h0 h1 h2 t24)])⟩),([0,13],⟨false,[.int .i64],h8++([Ai (v65_7 h3_0 h3_1 h3_2 (fI (t22.getD t24.toNat .undef) 0) (fI (t22.getD t24.toNat .undef) 1) h0 h1 h2 t24)])⟩)]⟩
 else none)
 else none)
 else none)
 else none)
 else k (.exit 0) ⟨[(8,AV.ptr [0,8] 0 0),(11,AV.ptr [0,11] 0 0),(12,AV.own [0,12]),(13,AV.own [0,13])],[([0,0,11],⟨false,[.int .i64],h0⟩),([0,1,11],⟨false,[.int .i64],h1⟩),([0,2,11],⟨false,[.int .i64,.int .i64],h2⟩),([0,5],⟨true,[],[AV.agg [Ai h3_0,Ai h3_1,Ai h3_2]]⟩),([0,7],⟨true,[],[AV.fn 50 []]⟩),([0,8],⟨true,[],[AV.agg [AV.snil,AV.snil,AV.snil]]⟩),([0,11],⟨true,[],[AV.agg [AV.own [0,0,11],AV.own [0,1,11],AV.own [0,2,11]]]⟩),([0,12],⟨false,[.sl [.int .i64]],h7⟩),([0,13],⟨false,[.int .i64],h8⟩)]⟩):=by kernel_rfl
theorem st49_0 (t22:List AV) (t23:Int) (ce:CallE) (k:Kont) (s:(Int × (List AV) × (List AV) × (List AV) × Int × Int × Int × (List AV) × (List AV))) (next:St→Option AV):stepA (codeA c49 ce [] 49 0 (sub [1,1,0,1,0,0] (body Tryz.f49))) (normA [] [5,7,8,11,12,13,22,23,24]) next ((E49_0 t22 t23) s) k=(R49_0 t22 t23 s).el none (fun s=>next ((E49_0 t22 t23) s)) (K49_0 k):=(s49_0 ce t22 t23 s.1 s.2.1 s.2.2.1 s.2.2.2.1 s.2.2.2.2.1 s.2.2.2.2.2.1 s.2.2.2.2.2.2.1 s.2.2.2.2.2.2.2.1 s.2.2.2.2.2.2.2.2 next k).trans (by unfold R49_0;unfold F49_0;simp only [el_cond,el_ro,el_sum,el_fail,el_next,el_stop] <;> rfl)
theorem ok49_0 {ce:CallE}:LoopOK c49 ce [] 49 0 (sub [1,1,0,1,0,0] (body Tryz.f49)):=by
 intro m hm st k r h
 obtain rfl:l49_0=m:=Option.some.inj hm
 unfold l49_0 at h
 split at h
 ·rename_i g0 g1 g2 g3 g4 g5 g6 g7 g8 g9 g10 g11 g12 g13 g14 t22 t23 t24 g15 g16 h0 g17 g18 h1 g19 g20 h2 g21 h3_0 h3_1 h3_2 g22 g23 g24 g25 g26 g27 g28 g29 g30 h7 g31 g32 h8
  obtain ⟨hg,h⟩:=bif_some h
  simp only [Bool.and_eq_true] at hg
  obtain ⟨⟨⟨⟨⟨⟨⟨⟨⟨⟨⟨⟨⟨⟨⟨⟨⟨⟨⟨⟨⟨⟨⟨⟨⟨⟨⟨⟨⟨⟨⟨⟨q0,q1⟩,q2⟩,q3⟩,q4⟩,q5⟩,q6⟩,q7⟩,q8⟩,q9⟩,q10⟩,q11⟩,q12⟩,q13⟩,q14⟩,q15⟩,q16⟩,q17⟩,q18⟩,q19⟩,q20⟩,q21⟩,q22⟩,q23⟩,q24⟩,q25⟩,q26⟩,q27⟩,q28⟩,q29⟩,q30⟩,q31⟩,q32⟩:=hg
  obtain rfl:=(nmEq_iff _ _).1 q0
  obtain rfl:=Nat.eq_of_beq_eq_true q1
  obtain rfl:=Nat.eq_of_beq_eq_true q2
  obtain rfl:=(nmEq_iff _ _).1 q3
  obtain rfl:=Nat.eq_of_beq_eq_true q4
  obtain rfl:=Nat.eq_of_beq_eq_true q5
  obtain rfl:=(nmEq_iff _ _).1 q6
  obtain rfl:=Nat.eq_of_beq_eq_true q7
  obtain rfl:=Nat.eq_of_beq_eq_true q8
  obtain rfl:=(nmEq_iff _ _).1 q9
  obtain rfl:=Nat.eq_of_beq_eq_true q10
  obtain rfl:=Nat.eq_of_beq_eq_true q11
  obtain rfl:=(nmEq_iff _ _).1 q12
  obtain rfl:=(nmEq_iff _ _).1 q13
  obtain rfl:=ctsEq_eq _ _ q14
  obtain rfl:=(nmEq_iff _ _).1 q15
  obtain rfl:=ctsEq_eq _ _ q16
  obtain rfl:=(nmEq_iff _ _).1 q17
  obtain rfl:=ctsEq_eq _ _ q18
  obtain rfl:=(nmEq_iff _ _).1 q19
  obtain rfl:=ctsEq_eq _ _ q20
  obtain rfl:=(nmEq_iff _ _).1 q21
  obtain rfl:=(nmEq_iff _ _).1 q22
  obtain rfl:=Nat.eq_of_beq_eq_true q23
  obtain rfl:=(nmEq_iff _ _).1 q24
  obtain rfl:=(nmEq_iff _ _).1 q25
  obtain rfl:=(nmEq_iff _ _).1 q26
  obtain rfl:=(nmEq_iff _ _).1 q27
  obtain rfl:=(nmEq_iff _ _).1 q28
  obtain rfl:=(nmEq_iff _ _).1 q29
  obtain rfl:=ctsEq_eq _ _ q30
  obtain rfl:=(nmEq_iff _ _).1 q31
  obtain rfl:=ctsEq_eq _ _ q32
  refine ⟨((t23 - t24:Int).toNat+1),?_⟩
  rw [← h]
  exact loop_run (E49_0 t22 t23) (K49_0 k) (st49_0 t22 t23 ce k) _ (t24,h0,h1,h2,h3_0,h3_1,h3_2,h7,h8)
 ·cases h
def q49 (a0:List AV) (ya yb yc:Int) (a2:List AV):Bool:=(q64 a0 && (ro (runW (R49_0 a2 (a2.length:Int)) (((a2.length:Int) - 0:Int).toNat+1) (0,(v64_0 a0),(v64_1 a0),(v64_2 a0),ya,yb,yc,([]:List AV),([]:List AV))) false (fun p64=>true)))
def v49_0 (a0:List AV) (ya yb yc:Int) (a2:List AV):List AV:=(ro (runW (R49_0 a2 (a2.length:Int)) (((a2.length:Int) - 0:Int).toNat+1) (0,(v64_0 a0),(v64_1 a0),(v64_2 a0),ya,yb,yc,([]:List AV),([]:List AV))) [] (fun p64=>p64.1))
def v49_1 (a0:List AV) (ya yb yc:Int) (a2:List AV):List AV:=(ro (runW (R49_0 a2 (a2.length:Int)) (((a2.length:Int) - 0:Int).toNat+1) (0,(v64_0 a0),(v64_1 a0),(v64_2 a0),ya,yb,yc,([]:List AV),([]:List AV))) [] (fun p64=>p64.2.1))
def v49_2 (a0:List AV) (ya yb yc:Int) (a2:List AV):List AV:=(ro (runW (R49_0 a2 (a2.length:Int)) (((a2.length:Int) - 0:Int).toNat+1) (0,(v64_0 a0),(v64_1 a0),(v64_2 a0),ya,yb,yc,([]:List AV),([]:List AV))) [] (fun p64=>p64.2.2.1))
def v49_3 (a0:List AV) (ya yb yc:Int) (a2:List AV):List AV:=(ro (runW (R49_0 a2 (a2.length:Int)) (((a2.length:Int) - 0:Int).toNat+1) (0,(v64_0 a0),(v64_1 a0),(v64_2 a0),ya,yb,yc,([]:List AV),([]:List AV))) [] (fun p64=>p64.2.2.2.2.2.2.1))
def v49_4 (a0:List AV) (ya yb yc:Int) (a2:List AV):List AV:=(ro (runW (R49_0 a2 (a2.length:Int)) (((a2.length:Int) - 0:Int).toNat+1) (0,(v64_0 a0),(v64_1 a0),(v64_2 a0),ya,yb,yc,([]:List AV),([]:List AV))) [] (fun p64=>p64.2.2.2.2.2.2.2))
theorem e49 (a0:List AV) (ya yb yc:Int) (a2:List AV):funA c49 0 49 [AV.sl [.int .i64] a0,AV.agg [Ai ya,Ai yb,Ai yc],AV.sl [.int .i64,.int .i64] a2,AV.fn 50 []]=(bif q64 a0 then (ro (runW (R49_0 a2 (a2.length:Int)) (((a2.length:Int) - 0:Int).toNat+1) (0,(v64_0 a0),(v64_1 a0),(v64_2 a0),ya,yb,yc,([]:List AV),([]:List AV))) none (fun p64=>some (AV.tup [AV.agg [AV.fl [.int .i64] p64.1,AV.fl [.int .i64] p64.2.1,AV.fl [.int .i64,.int .i64] p64.2.2.1],AV.fl [.sl [.int .i64]] p64.2.2.2.2.2.2.1,AV.fl [.int .i64] p64.2.2.2.2.2.2.2])))
 else none):=by kernel_rfl
def m49:TModel
 | [.sl g0 a0,.agg [.int .i64 ya,.int .i64 yb,.int .i64 yc],.sl g1 a2,.fn g2 []]=>bif ctsEq g0 ([.int .i64]) && ctsEq g1 ([.int .i64,.int .i64]) && Nat.beq g2 50 then some (q49 a0 ya yb yc a2,AV.tup [AV.agg [AV.fl [.int .i64] (v49_0 a0 ya yb yc a2),AV.fl [.int .i64] (v49_1 a0 ya yb yc a2),AV.fl [.int .i64,.int .i64] (v49_2 a0 ya yb yc a2)],AV.fl [.sl [.int .i64]] (v49_3 a0 ya yb yc a2),AV.fl [.int .i64] (v49_4 a0 ya yb yc a2)]) else none
 | _=>none
theorem k49:Known Tryz.prog 49:=⟨Tryz.f49,Tryz.func49,by kernel_rfl,by kernel_rfl⟩
theorem meets49:Meets Tryz.prog 49 m49:=by
 refine meet (f:=Tryz.f49) (l:=[(0,sub [1,1,0,1,0,0] (body Tryz.f49))]) (hs:=[(49,0,[5,7,8,11,12,13,22,23,24]),(49,999,[8,9,10]),(49,1000,[8,11,12,13]),(49,1001,[5,7,8,11,12,13,22,23,24])]) (ts:=[(64,m64)]) (ws:=[(65,.g m65)]) (is:=[]) (ls:=[(49,0,l49_0)]) (lvl:=0) mixed k49 Tryz.func49 (by kernel_rfl) (loops_cons ok49_0 noLoop) (allT_cons meets64 allT_nil) (allG_cons meets65 allM_nil) noI fun w xs us r hl hv h=>?_
 unfold m49 at h
 split at h
 ·rename_i g0 a0 ya yb yc g1 a2 g2
  obtain ⟨hg,h⟩:=bif_pair h
  simp only [Bool.and_eq_true] at hg
  obtain ⟨⟨q0,q1⟩,q2⟩:=hg
  obtain rfl:=ctsEq_eq _ _ q0
  obtain rfl:=ctsEq_eq _ _ q1
  obtain rfl:=Nat.eq_of_beq_eq_true q2
  obtain ⟨h1,rfl⟩:=pair_inj h
  exact (e49 a0 ya yb yc a2).trans ((brL (brO (fun o:Option (((List AV) × (List AV) × (List AV) × Int × Int × Int × (List AV) × (List AV)))=>some (AV.tup [AV.agg [AV.fl [.int .i64] (ro o [] (fun p64=>p64.1)),AV.fl [.int .i64] (ro o [] (fun p64=>p64.2.1)),AV.fl [.int .i64,.int .i64] (ro o [] (fun p64=>p64.2.2.1))],AV.fl [.sl [.int .i64]] (ro o [] (fun p64=>p64.2.2.2.2.2.2.1)),AV.fl [.int .i64] (ro o [] (fun p64=>p64.2.2.2.2.2.2.2))])) (fun p64=>(fun _=>rfl)))) h1)
 ·cases h
noncomputable def c33:Cfg:=cfg Tryz.prog [(33,999,[6,7,8])] [(32,m32),(49,m49)] [] [] []
def q33 (a0:List AV) (ya yb yc:Int) (a2:List AV):Bool:=(q32 a0 ya yb yc a2 && (bif !(v32_0 a0 ya yb yc a2) then true else q49 a0 ya yb yc a2))
def v33_0 (a0:List AV) (ya yb yc:Int) (a2:List AV):List AV:=(bif !(v32_0 a0 ya yb yc a2) then ([]:List AV) else (v49_0 a0 ya yb yc a2))
def v33_1 (a0:List AV) (ya yb yc:Int) (a2:List AV):List AV:=(bif !(v32_0 a0 ya yb yc a2) then ([]:List AV) else (v49_1 a0 ya yb yc a2))
def v33_2 (a0:List AV) (ya yb yc:Int) (a2:List AV):List AV:=(bif !(v32_0 a0 ya yb yc a2) then ([]:List AV) else (v49_2 a0 ya yb yc a2))
def v33_3 (a0:List AV) (ya yb yc:Int) (a2:List AV):List AV:=(bif !(v32_0 a0 ya yb yc a2) then ([]:List AV) else (v49_3 a0 ya yb yc a2))
def v33_4 (a0:List AV) (ya yb yc:Int) (a2:List AV):List AV:=(bif !(v32_0 a0 ya yb yc a2) then ([]:List AV) else (v49_4 a0 ya yb yc a2))
theorem e33 (a0:List AV) (ya yb yc:Int) (a2:List AV):funA c33 0 33 [AV.sl [.int .i64] a0,AV.agg [Ai ya,Ai yb,Ai yc],AV.sl [.int .i64,.int .i64] a2]=(bif q32 a0 ya yb yc a2 then (bif !(v32_0 a0 ya yb yc a2) then some (AV.tup [AV.agg [AV.fl [.int .i64] ([]:List AV),AV.fl [.int .i64] ([]:List AV),AV.fl [.int .i64,.int .i64] ([]:List AV)],AV.fl [.sl [.int .i64]] ([]:List AV),AV.fl [.int .i64] ([]:List AV)])
 else (bif q49 a0 ya yb yc a2 then some (AV.tup [AV.agg [AV.fl [.int .i64] (v49_0 a0 ya yb yc a2),AV.fl [.int .i64] (v49_1 a0 ya yb yc a2),AV.fl [.int .i64,.int .i64] (v49_2 a0 ya yb yc a2)],AV.fl [.sl [.int .i64]] (v49_3 a0 ya yb yc a2),AV.fl [.int .i64] (v49_4 a0 ya yb yc a2)])
 else none))
 else none):=by kernel_rfl
def m33:TModel
 | [.sl g0 a0,.agg [.int .i64 ya,.int .i64 yb,.int .i64 yc],.sl g1 a2]=>bif ctsEq g0 ([.int .i64]) && ctsEq g1 ([.int .i64,.int .i64]) then some (q33 a0 ya yb yc a2,AV.tup [AV.agg [AV.fl [.int .i64] (v33_0 a0 ya yb yc a2),AV.fl [.int .i64] (v33_1 a0 ya yb yc a2),AV.fl [.int .i64,.int .i64] (v33_2 a0 ya yb yc a2)],AV.fl [.sl [.int .i64]] (v33_3 a0 ya yb yc a2),AV.fl [.int .i64] (v33_4 a0 ya yb yc a2)]) else none
 | _=>none
theorem k33:Known Tryz.prog 33:=⟨Tryz.f33,Tryz.func33,by kernel_rfl,by kernel_rfl⟩
theorem meets33:Meets Tryz.prog 33 m33:=by
 refine meet (f:=Tryz.f33) (l:=[]) (hs:=[(33,999,[6,7,8])]) (ts:=[(32,m32),(49,m49)]) (ws:=[]) (is:=[]) (ls:=[]) (lvl:=0) mixed k33 Tryz.func33 (by kernel_rfl) noLoop (allT_cons meets32 (allT_cons meets49 allT_nil)) allM_nil noI fun w xs us r hl hv h=>?_
 unfold m33 at h
 split at h
 ·rename_i g0 a0 ya yb yc g1 a2
  obtain ⟨hg,h⟩:=bif_pair h
  simp only [Bool.and_eq_true] at hg
  obtain ⟨q0,q1⟩:=hg
  obtain rfl:=ctsEq_eq _ _ q0
  obtain rfl:=ctsEq_eq _ _ q1
  obtain ⟨h1,rfl⟩:=pair_inj h
  exact (e33 a0 ya yb yc a2).trans ((brL (br (fun b=>some (AV.tup [AV.agg [AV.fl [.int .i64] (bif b then ([]:List AV) else (v49_0 a0 ya yb yc a2)),AV.fl [.int .i64] (bif b then ([]:List AV) else (v49_1 a0 ya yb yc a2)),AV.fl [.int .i64,.int .i64] (bif b then ([]:List AV) else (v49_2 a0 ya yb yc a2))],AV.fl [.sl [.int .i64]] (bif b then ([]:List AV) else (v49_3 a0 ya yb yc a2)),AV.fl [.int .i64] (bif b then ([]:List AV) else (v49_4 a0 ya yb yc a2))])) (fun _=>rfl) (brL1 (fun _=>rfl)))) h1)
 ·cases h
def F34_0 (t6:List AV) (t7 t3 t8:Int):Out ((Int × Int)) (Int):=(bif decide (t8<t7) then (bif (decide (0≤t8) && decide (t8<(t6.length:Int))) then .next (IntKind.i64.wrap (t3+fI (t6.getD t8.toNat .undef) 0),IntKind.i64.wrap (t8+1))
 else .fail)
 else .stop t3)
def R34_0 (t6:List AV) (t7:Int):((Int × Int))→Out ((Int × Int)) (Int):=fun s:Int × Int=>F34_0 t6 t7 s.1 s.2
def E34_0 (t6:List AV) (t7:Int):((Int × Int))→St:=fun s:Int × Int=>⟨[(3,Ai s.1),(6,AV.sl [.int .i64] t6),(7,Ai t7),(8,Ai s.2)],[]⟩
def K34_0 (k:Kont):(Int)→Option AV:=fun p:Int=>k (.exit 0) ⟨[(3,Ai p)],[]⟩
def l34_0:LModel:=fun _ _ st k=>match st with
 | ⟨[(3,.int .i64 t3),(6,.sl g0 t6),(7,.int .i64 t7),(8,.int .i64 t8)],[]⟩=>bif ctsEq g0 ([.int .i64]) then ro (runW (R34_0 t6 t7) ((t7 - t8:Int).toNat+1) (t3,t8)) none (K34_0 k) else none
 | _=>none
noncomputable def c34:Cfg:=cfg Tryz.prog [(34,0,[3,6,7,8]),(34,999,[2]),(34,1000,[3]),(34,1001,[3,6,7,8])] [] [] [] [(34,0,l34_0)]
theorem s34_0 (ce:CallE) (t3:Int) (t6:List AV) (t7 t8:Int) (next:St→Option AV) (k:Kont):stepA (codeA c34 ce [] 34 0 (sub [1,1,0,1,0,0] (body Tryz.f34))) (normA [] [3,6,7,8]) next ⟨[(3,Ai t3),(6,AV.sl [.int .i64] t6),(7,Ai t7),(8,Ai t8)],[]⟩ k=(bif decide (t8<t7) then (bif (decide (0≤t8) && decide (t8<(t6.length:Int))) then next ⟨[(3,Ai (IntKind.i64.wrap (t3+fI (t6.getD t8.toNat .undef) 0))),(6,AV.sl [.int .i64] t6),(7,Ai t7),(8,Ai (IntKind.i64.wrap (t8+1)))],[]⟩
 else none)
 else k (.exit 0) ⟨[(3,Ai t3)],[]⟩):=by kernel_rfl
theorem st34_0 (t6:List AV) (t7:Int) (ce:CallE) (k:Kont) (s:(Int × Int)) (next:St→Option AV):stepA (codeA c34 ce [] 34 0 (sub [1,1,0,1,0,0] (body Tryz.f34))) (normA [] [3,6,7,8]) next ((E34_0 t6 t7) s) k=(R34_0 t6 t7 s).el none (fun s=>next ((E34_0 t6 t7) s)) (K34_0 k):=(s34_0 ce s.1 t6 t7 s.2 next k).trans (by unfold R34_0;unfold F34_0;simp only [el_cond,el_ro,el_sum,el_fail,el_next,el_stop] <;> rfl)
theorem ok34_0 {ce:CallE}:LoopOK c34 ce [] 34 0 (sub [1,1,0,1,0,0] (body Tryz.f34)):=by
 intro m hm st k r h
 obtain rfl:l34_0=m:=Option.some.inj hm
 unfold l34_0 at h
 split at h
 ·rename_i t3 g0 t6 t7 t8
  obtain ⟨hg,h⟩:=bif_some h
  have q0:=hg
  obtain rfl:=ctsEq_eq _ _ q0
  refine ⟨((t7 - t8:Int).toNat+1),?_⟩
  rw [← h]
  exact loop_run (E34_0 t6 t7) (K34_0 k) (st34_0 t6 t7 ce k) _ (t3,t8)
 ·cases h
def q34 (a0:List AV):Bool:=(ro (runW (R34_0 a0 (a0.length:Int)) (((a0.length:Int) - 0:Int).toNat+1) (0,0)) false (fun p65=>true))
def v34_0 (a0:List AV):Int:=(ro (runW (R34_0 a0 (a0.length:Int)) (((a0.length:Int) - 0:Int).toNat+1) (0,0)) 0 (fun p65=>p65))
theorem e34 (a0:List AV):funA c34 0 34 [AV.sl [.int .i64] a0]=(ro (runW (R34_0 a0 (a0.length:Int)) (((a0.length:Int) - 0:Int).toNat+1) (0,0)) none (fun p65=>some (Ai p65))):=by kernel_rfl
def m34:TModel
 | [.sl g0 a0]=>bif ctsEq g0 ([.int .i64]) then some (q34 a0,AV.int .i64 (v34_0 a0)) else none
 | _=>none
theorem k34:Known Tryz.prog 34:=⟨Tryz.f34,Tryz.func34,by kernel_rfl,by kernel_rfl⟩
theorem meets34:Meets Tryz.prog 34 m34:=by
 refine meet (f:=Tryz.f34) (l:=[(0,sub [1,1,0,1,0,0] (body Tryz.f34))]) (hs:=[(34,0,[3,6,7,8]),(34,999,[2]),(34,1000,[3]),(34,1001,[3,6,7,8])]) (ts:=[]) (ws:=[]) (is:=[]) (ls:=[(34,0,l34_0)]) (lvl:=0) mixed k34 Tryz.func34 (by kernel_rfl) (loops_cons ok34_0 noLoop) allT_nil allM_nil noI fun w xs us r hl hv h=>?_
 unfold m34 at h
 split at h
 ·rename_i g0 a0
  obtain ⟨hg,h⟩:=bif_pair h
  have q0:=hg
  obtain rfl:=ctsEq_eq _ _ q0
  obtain ⟨h1,rfl⟩:=pair_inj h
  exact (e34 a0).trans ((brO (fun o:Option (Int)=>some (Ai (ro o 0 (fun p65=>p65)))) (fun p65=>(fun _=>rfl))) h1)
 ·cases h
def F11_0 (t0:List AV) (t1:Int) (t2:List AV) (t7 t8 t9:Int):Out ((Int × Int × Int)) (Int):=(bif decide (t9≤64) then (bif q33 t0 1 t9 t1 t2 then (bif q34 (v33_4 t0 1 t9 t1 t2) then (bif decide (t7=0) then .next (t9,(v34_0 (v33_4 t0 1 t9 t1 t2)),IntKind.i64.wrap (t9*2))
 else (bif decide ((v34_0 (v33_4 t0 1 t9 t1 t2))<t8) then .next (t9,(v34_0 (v33_4 t0 1 t9 t1 t2)),IntKind.i64.wrap (t9*2))
 else .next (t7,t8,IntKind.i64.wrap (t9*2))))
 else .fail)
 else .fail)
 else .stop t7)
def R11_0 (t0:List AV) (t1:Int) (t2:List AV):((Int × Int × Int))→Out ((Int × Int × Int)) (Int):=fun s:Int × Int × Int=>F11_0 t0 t1 t2 s.1 s.2.1 s.2.2
def E11_0 (t0:List AV) (t1:Int) (t2:List AV):((Int × Int × Int))→St:=fun s:Int × Int × Int=>⟨[(0,AV.sl [.int .i64] t0),(1,Ai t1),(2,AV.sl [.int .i64,.int .i64] t2),(7,Ai s.1),(8,Ai s.2.1),(9,Ai s.2.2)],[]⟩
def K11_0 (k:Kont):(Int)→Option AV:=fun p:Int=>k (.exit 0) ⟨[(7,Ai p)],[]⟩
def l11_0:LModel:=fun _ _ st k=>match st with
 | ⟨[(0,.sl g0 t0),(1,.int .i64 t1),(2,.sl g1 t2),(7,.int .i64 t7),(8,.int .i64 t8),(9,.int .i64 t9)],[]⟩=>bif ctsEq g0 ([.int .i64]) && ctsEq g1 ([.int .i64,.int .i64]) then ro (runW (R11_0 t0 t1 t2) ((64 - t9+1:Int).toNat+1) (t7,t8,t9)) none (K11_0 k) else none
 | _=>none
noncomputable def c11:Cfg:=cfg Tryz.prog [(11,0,[0,1,2,7,8,9]),(11,999,[6]),(11,1000,[7]),(11,1001,[0,1,2,7,8,9])] [(32,m32),(33,m33),(34,m34)] [] [] [(11,0,l11_0)]
theorem s11_0 (ce:CallE) (t0:List AV) (t1:Int) (t2:List AV) (t7 t8 t9:Int) (next:St→Option AV) (k:Kont):stepA (codeA c11 ce [] 11 0 (sub [1,1,1,0,1,0,0] (body Tryz.f11))) (normA [] [0,1,2,7,8,9]) next ⟨[(0,AV.sl [.int .i64] t0),(1,Ai t1),(2,AV.sl [.int .i64,.int .i64] t2),(7,Ai t7),(8,Ai t8),(9,Ai t9)],[]⟩ k=(bif decide (t9≤64) then (bif q33 t0 1 t9 t1 t2 then (bif q34 (v33_4 t0 1 t9 t1 t2) then (bif decide (t7=0) then next ⟨[(0,AV.sl [.int .i64] t0),(1,Ai t1),(2,AV.sl [.int .i64,.int .i64] t2),(7,Ai t9),(8,Ai (v34_0 (v33_4 t0 1 t9 t1 t2))),(9,Ai (IntKind.i64.wrap (t9*2)))],[]⟩
 else (bif decide ((v34_0 (v33_4 t0 1 t9 t1 t2))<t8) then next ⟨[(0,AV.sl [.int .i64] t0),(1,Ai t1),(2,AV.sl [.int .i64,.int .i64] t2),(7,Ai t9),(8,Ai (v34_0 (v33_4 t0 1 t9 t1 t2))),(9,Ai (IntKind.i64.wrap (t9*2)))],[]⟩
 else next ⟨[(0,AV.sl [.int .i64] t0),(1,Ai t1),(2,AV.sl [.int .i64,.int .i64] t2),(7,Ai t7),(8,Ai t8),(9,Ai (IntKind.i64.wrap (t9*2)))],[]⟩))
 else none)
 else none)
 else k (.exit 0) ⟨[(7,Ai t7)],[]⟩):=by kernel_rfl
theorem st11_0 (t0:List AV) (t1:Int) (t2:List AV) (ce:CallE) (k:Kont) (s:(Int × Int × Int)) (next:St→Option AV):stepA (codeA c11 ce [] 11 0 (sub [1,1,1,0,1,0,0] (body Tryz.f11))) (normA [] [0,1,2,7,8,9]) next ((E11_0 t0 t1 t2) s) k=(R11_0 t0 t1 t2 s).el none (fun s=>next ((E11_0 t0 t1 t2) s)) (K11_0 k):=(s11_0 ce t0 t1 t2 s.1 s.2.1 s.2.2 next k).trans (by unfold R11_0;unfold F11_0;simp only [el_cond,el_ro,el_sum,el_fail,el_next,el_stop] <;> rfl)
theorem ok11_0 {ce:CallE}:LoopOK c11 ce [] 11 0 (sub [1,1,1,0,1,0,0] (body Tryz.f11)):=by
 intro m hm st k r h
 obtain rfl:l11_0=m:=Option.some.inj hm
 unfold l11_0 at h
 split at h
 ·rename_i g0 t0 t1 g1 t2 t7 t8 t9
  obtain ⟨hg,h⟩:=bif_some h
  simp only [Bool.and_eq_true] at hg
  obtain ⟨q0,q1⟩:=hg
  obtain rfl:=ctsEq_eq _ _ q0
  obtain rfl:=ctsEq_eq _ _ q1
  refine ⟨((64 - t9+1:Int).toNat+1),?_⟩
  rw [← h]
  exact loop_run (E11_0 t0 t1 t2) (K11_0 k) (st11_0 t0 t1 t2 ce k) _ (t7,t8,t9)
 ·cases h
def q11 (a0:List AV) (a1:Int) (a2:List AV):Bool:=(q32 a0 1 1 a1 a2 && (bif !(v32_0 a0 1 1 a1 a2) then true else (ro (runW (R11_0 a0 a1 a2) ((64 - 1+1:Int).toNat+1) (0,0,1)) false (fun p66=>true))))
def v11_0 (a0:List AV) (a1:Int) (a2:List AV):Int:=(bif !(v32_0 a0 1 1 a1 a2) then 0 else (ro (runW (R11_0 a0 a1 a2) ((64 - 1+1:Int).toNat+1) (0,0,1)) 0 (fun p66=>p66)))
theorem e11 (a0:List AV) (a1:Int) (a2:List AV):funA c11 0 11 [AV.sl [.int .i64] a0,Ai a1,AV.sl [.int .i64,.int .i64] a2]=(bif q32 a0 1 1 a1 a2 then (bif !(v32_0 a0 1 1 a1 a2) then some (Ai 0)
 else (ro (runW (R11_0 a0 a1 a2) ((64 - 1+1:Int).toNat+1) (0,0,1)) none (fun p66=>some (Ai p66))))
 else none):=by kernel_rfl
def m11:TModel
 | [.sl g0 a0,.int .i64 a1,.sl g1 a2]=>bif ctsEq g0 ([.int .i64]) && ctsEq g1 ([.int .i64,.int .i64]) then some (q11 a0 a1 a2,AV.int .i64 (v11_0 a0 a1 a2)) else none
 | _=>none
theorem k11:Known Tryz.prog 11:=⟨Tryz.f11,Tryz.func11,by kernel_rfl,by kernel_rfl⟩
theorem meets11:Meets Tryz.prog 11 m11:=by
 refine meet (f:=Tryz.f11) (l:=[(0,sub [1,1,1,0,1,0,0] (body Tryz.f11))]) (hs:=[(11,0,[0,1,2,7,8,9]),(11,999,[6]),(11,1000,[7]),(11,1001,[0,1,2,7,8,9])]) (ts:=[(32,m32),(33,m33),(34,m34)]) (ws:=[]) (is:=[]) (ls:=[(11,0,l11_0)]) (lvl:=0) mixed k11 Tryz.func11 (by kernel_rfl) (loops_cons ok11_0 noLoop) (allT_cons meets32 (allT_cons meets33 (allT_cons meets34 allT_nil))) allM_nil noI fun w xs us r hl hv h=>?_
 unfold m11 at h
 split at h
 ·rename_i g0 a0 a1 g1 a2
  obtain ⟨hg,h⟩:=bif_pair h
  simp only [Bool.and_eq_true] at hg
  obtain ⟨q0,q1⟩:=hg
  obtain rfl:=ctsEq_eq _ _ q0
  obtain rfl:=ctsEq_eq _ _ q1
  obtain ⟨h1,rfl⟩:=pair_inj h
  exact (e11 a0 a1 a2).trans ((brL (br (fun b=>some (Ai (bif b then 0 else (ro (runW (R11_0 a0 a1 a2) ((64 - 1+1:Int).toNat+1) (0,0,1)) 0 (fun p66=>p66))))) (fun _=>rfl) (brO (fun o:Option (Int)=>some (Ai (ro o 0 (fun p66=>p66)))) (fun p66=>(fun _=>rfl))))) h1)
 ·cases h
def F12_0 (t0 t1:List AV) (t5:Int):Out (Int) (Unit ⊕ Unit):=(bif decide (t5<(t0.length:Int)) then (bif (decide (0≤t5) && decide (t5<(t0.length:Int))) then (bif (decide (0≤t5) && decide (t5<(t1.length:Int))) then (bif !decide (fI (t0.getD t5.toNat .undef) 0=fI (t1.getD t5.toNat .undef) 0) then .stop (.inr ())
 else .next (IntKind.i64.wrap (t5+1)))
 else .fail)
 else .fail)
 else .stop (.inl ()))
def R12_0 (t0 t1:List AV):(Int)→Out (Int) (Unit ⊕ Unit):=fun s:Int=>F12_0 t0 t1 s
def E12_0 (t0 t1:List AV):(Int)→St:=fun s:Int=>⟨[(0,AV.sl [.int .i64] t0),(1,AV.sl [.int .i64] t1),(5,Ai s)],[]⟩
def K12_0 (k:Kont):(Unit ⊕ Unit)→Option AV:=sumE (fun _:Unit=>k (.exit 0) ⟨[],[]⟩) (fun _:Unit=>k .ret ⟨[(4,AV.bool false)],[]⟩)
def l12_0:LModel:=fun _ _ st k=>match st with
 | ⟨[(0,.sl g0 t0),(1,.sl g1 t1),(5,.int .i64 t5)],[]⟩=>bif ctsEq g0 ([.int .i64]) && ctsEq g1 ([.int .i64]) then ro (runW (R12_0 t0 t1) (((t0.length:Int) - t5:Int).toNat+1) t5) none (K12_0 k) else none
 | _=>none
noncomputable def c12:Cfg:=cfg Tryz.prog [(12,0,[0,1,5]),(12,999,[4]),(12,1000,[]),(12,1001,[0,1,5])] [] [] [] [(12,0,l12_0)]
theorem s12_0 (ce:CallE) (t0 t1:List AV) (t5:Int) (next:St→Option AV) (k:Kont):stepA (codeA c12 ce [] 12 0 (sub [1,1,0,1,0,0] (body Tryz.f12))) (normA [] [0,1,5]) next ⟨[(0,AV.sl [.int .i64] t0),(1,AV.sl [.int .i64] t1),(5,Ai t5)],[]⟩ k=(bif decide (t5<(t0.length:Int)) then (bif (decide (0≤t5) && decide (t5<(t0.length:Int))) then (bif (decide (0≤t5) && decide (t5<(t1.length:Int))) then (bif !decide (fI (t0.getD t5.toNat .undef) 0=fI (t1.getD t5.toNat .undef) 0) then k .ret ⟨[(4,AV.bool false)],[]⟩
 else next ⟨[(0,AV.sl [.int .i64] t0),(1,AV.sl [.int .i64] t1),(5,Ai (IntKind.i64.wrap (t5+1)))],[]⟩)
 else none)
 else none)
 else k (.exit 0) ⟨[],[]⟩):=by kernel_rfl
theorem st12_0 (t0 t1:List AV) (ce:CallE) (k:Kont) (s:Int) (next:St→Option AV):stepA (codeA c12 ce [] 12 0 (sub [1,1,0,1,0,0] (body Tryz.f12))) (normA [] [0,1,5]) next ((E12_0 t0 t1) s) k=(R12_0 t0 t1 s).el none (fun s=>next ((E12_0 t0 t1) s)) (K12_0 k):=(s12_0 ce t0 t1 s next k).trans (by unfold R12_0;unfold F12_0;simp only [el_cond,el_ro,el_sum,el_fail,el_next,el_stop] <;> rfl)
theorem ok12_0 {ce:CallE}:LoopOK c12 ce [] 12 0 (sub [1,1,0,1,0,0] (body Tryz.f12)):=by
 intro m hm st k r h
 obtain rfl:l12_0=m:=Option.some.inj hm
 unfold l12_0 at h
 split at h
 ·rename_i g0 t0 g1 t1 t5
  obtain ⟨hg,h⟩:=bif_some h
  simp only [Bool.and_eq_true] at hg
  obtain ⟨q0,q1⟩:=hg
  obtain rfl:=ctsEq_eq _ _ q0
  obtain rfl:=ctsEq_eq _ _ q1
  refine ⟨(((t0.length:Int) - t5:Int).toNat+1),?_⟩
  rw [← h]
  exact loop_run (E12_0 t0 t1) (K12_0 k) (st12_0 t0 t1 ce k) _ t5
 ·cases h
def q12 (a0 a1:List AV):Bool:=(bif !decide ((a0.length:Int)=(a1.length:Int)) then true else (ro (runW (R12_0 a0 a1) (((a0.length:Int) - 0:Int).toNat+1) 0) false (sumE (fun _=>true) (fun _=>true))))
def v12_0 (a0 a1:List AV):Bool:=(bif !decide ((a0.length:Int)=(a1.length:Int)) then false else (ro (runW (R12_0 a0 a1) (((a0.length:Int) - 0:Int).toNat+1) 0) false (sumE (fun _=>true) (fun _=>false))))
theorem e12 (a0 a1:List AV):funA c12 0 12 [AV.sl [.int .i64] a0,AV.sl [.int .i64] a1]=(bif !decide ((a0.length:Int)=(a1.length:Int)) then some (AV.bool false)
 else (ro (runW (R12_0 a0 a1) (((a0.length:Int) - 0:Int).toNat+1) 0) none (sumE (fun _=>some (AV.bool true)) (fun _=>some (AV.bool false))))):=by kernel_rfl
def m12:TModel
 | [.sl g0 a0,.sl g1 a1]=>bif ctsEq g0 ([.int .i64]) && ctsEq g1 ([.int .i64]) then some (q12 a0 a1,AV.bool (v12_0 a0 a1)) else none
 | _=>none
theorem k12:Known Tryz.prog 12:=⟨Tryz.f12,Tryz.func12,by kernel_rfl,by kernel_rfl⟩
theorem meets12:Meets Tryz.prog 12 m12:=by
 refine meet (f:=Tryz.f12) (l:=[(0,sub [1,1,0,1,0,0] (body Tryz.f12))]) (hs:=[(12,0,[0,1,5]),(12,999,[4]),(12,1000,[]),(12,1001,[0,1,5])]) (ts:=[]) (ws:=[]) (is:=[]) (ls:=[(12,0,l12_0)]) (lvl:=0) mixed k12 Tryz.func12 (by kernel_rfl) (loops_cons ok12_0 noLoop) allT_nil allM_nil noI fun w xs us r hl hv h=>?_
 unfold m12 at h
 split at h
 ·rename_i g0 a0 g1 a1
  obtain ⟨hg,h⟩:=bif_pair h
  simp only [Bool.and_eq_true] at hg
  obtain ⟨q0,q1⟩:=hg
  obtain rfl:=ctsEq_eq _ _ q0
  obtain rfl:=ctsEq_eq _ _ q1
  obtain ⟨h1,rfl⟩:=pair_inj h
  exact (e12 a0 a1).trans ((br (fun b=>some (AV.bool (bif b then false else (ro (runW (R12_0 a0 a1) (((a0.length:Int) - 0:Int).toNat+1) 0) false (sumE (fun _=>true) (fun _=>false)))))) (fun _=>rfl) (brO (fun o:Option (Unit ⊕ Unit)=>some (AV.bool (ro o false (sumE (fun _=>true) (fun _=>false))))) (brS (fun o:Unit ⊕ Unit=>some (AV.bool ((sumE (fun _=>true) (fun _=>false)) o))) (fun _=>(fun _=>rfl)) (fun _=>(fun _=>rfl))))) h1)
 ·cases h
noncomputable def c35:Cfg:=cfg Tryz.prog [(35,999,[4])] [] [] [] []
def q35 (xa xb ya yb:Int):Bool:=true
def v35_0 (xa xb ya yb:Int):Bool:=(bif !decide (xa=ya) then false else (bif !decide (xb=yb) then false else true))
theorem e35 (xa xb ya yb:Int):funA c35 0 35 [AV.agg [Ai xa,Ai xb],AV.agg [Ai ya,Ai yb]]=(bif !decide (xa=ya) then some (AV.bool false)
 else (bif !decide (xb=yb) then some (AV.bool false)
 else some (AV.bool true))):=by kernel_rfl
def m35:TModel
 | [.agg [.int .i64 xa,.int .i64 xb],.agg [.int .i64 ya,.int .i64 yb]]=>some (true,AV.bool (v35_0 xa xb ya yb))
 | _=>none
theorem k35:Known Tryz.prog 35:=⟨Tryz.f35,Tryz.func35,by kernel_rfl,by kernel_rfl⟩
theorem meets35:Meets Tryz.prog 35 m35:=by
 refine meet (f:=Tryz.f35) (l:=[]) (hs:=[(35,999,[4])]) (ts:=[]) (ws:=[]) (is:=[]) (ls:=[]) (lvl:=0) mixed k35 Tryz.func35 (by kernel_rfl) noLoop allT_nil allM_nil noI fun w xs us r hl hv h=>?_
 unfold m35 at h
 split at h
 ·rename_i xa xb ya yb
  obtain ⟨h1,rfl⟩:=pair_inj h
  exact (e35 xa xb ya yb).trans (of_tt (brT (fun b=>some (AV.bool (bif b then false else (bif !decide (xb=yb) then false else true)))) (fun _=>rfl) (brT (fun b=>some (AV.bool (bif b then false else true))) (fun _=>rfl) (fun _=>rfl))))
 ·cases h
def F13_0 (t0 t1:List AV) (t5:Int):Out (Int) (Unit ⊕ Unit):=(bif decide (t5<(t0.length:Int)) then (bif (decide (0≤t5) && decide (t5<(t0.length:Int))) then (bif (decide (0≤t5) && decide (t5<(t1.length:Int))) then (bif !(v35_0 (fI (t0.getD t5.toNat .undef) 0) (fI (t0.getD t5.toNat .undef) 1) (fI (t1.getD t5.toNat .undef) 0) (fI (t1.getD t5.toNat .undef) 1)) then .stop (.inr ())
 else .next (IntKind.i64.wrap (t5+1)))
 else .fail)
 else .fail)
 else .stop (.inl ()))
def R13_0 (t0 t1:List AV):(Int)→Out (Int) (Unit ⊕ Unit):=fun s:Int=>F13_0 t0 t1 s
def E13_0 (t0 t1:List AV):(Int)→St:=fun s:Int=>⟨[(0,AV.sl [.int .i64,.int .i64] t0),(1,AV.sl [.int .i64,.int .i64] t1),(5,Ai s)],[]⟩
def K13_0 (k:Kont):(Unit ⊕ Unit)→Option AV:=sumE (fun _:Unit=>k (.exit 0) ⟨[],[]⟩) (fun _:Unit=>k .ret ⟨[(4,AV.bool false)],[]⟩)
def l13_0:LModel:=fun _ _ st k=>match st with
 | ⟨[(0,.sl g0 t0),(1,.sl g1 t1),(5,.int .i64 t5)],[]⟩=>bif ctsEq g0 ([.int .i64,.int .i64]) && ctsEq g1 ([.int .i64,.int .i64]) then ro (runW (R13_0 t0 t1) (((t0.length:Int) - t5:Int).toNat+1) t5) none (K13_0 k) else none
 | _=>none
noncomputable def c13:Cfg:=cfg Tryz.prog [(13,0,[0,1,5]),(13,999,[4]),(13,1000,[]),(13,1001,[0,1,5])] [(35,m35)] [] [] [(13,0,l13_0)]
theorem s13_0 (ce:CallE) (t0 t1:List AV) (t5:Int) (next:St→Option AV) (k:Kont):stepA (codeA c13 ce [] 13 0 (sub [1,1,0,1,0,0] (body Tryz.f13))) (normA [] [0,1,5]) next ⟨[(0,AV.sl [.int .i64,.int .i64] t0),(1,AV.sl [.int .i64,.int .i64] t1),(5,Ai t5)],[]⟩ k=(bif decide (t5<(t0.length:Int)) then (bif (decide (0≤t5) && decide (t5<(t0.length:Int))) then (bif (decide (0≤t5) && decide (t5<(t1.length:Int))) then (bif !(v35_0 (fI (t0.getD t5.toNat .undef) 0) (fI (t0.getD t5.toNat .undef) 1) (fI (t1.getD t5.toNat .undef) 0) (fI (t1.getD t5.toNat .undef) 1)) then k .ret ⟨[(4,AV.bool false)],[]⟩
 else next ⟨[(0,AV.sl [.int .i64,.int .i64] t0),(1,AV.sl [.int .i64,.int .i64] t1),(5,Ai (IntKind.i64.wrap (t5+1)))],[]⟩)
 else none)
 else none)
 else k (.exit 0) ⟨[],[]⟩):=by kernel_rfl
theorem st13_0 (t0 t1:List AV) (ce:CallE) (k:Kont) (s:Int) (next:St→Option AV):stepA (codeA c13 ce [] 13 0 (sub [1,1,0,1,0,0] (body Tryz.f13))) (normA [] [0,1,5]) next ((E13_0 t0 t1) s) k=(R13_0 t0 t1 s).el none (fun s=>next ((E13_0 t0 t1) s)) (K13_0 k):=(s13_0 ce t0 t1 s next k).trans (by unfold R13_0;unfold F13_0;simp only [el_cond,el_ro,el_sum,el_fail,el_next,el_stop] <;> rfl)
theorem ok13_0 {ce:CallE}:LoopOK c13 ce [] 13 0 (sub [1,1,0,1,0,0] (body Tryz.f13)):=by
 intro m hm st k r h
 obtain rfl:l13_0=m:=Option.some.inj hm
 unfold l13_0 at h
 split at h
 ·rename_i g0 t0 g1 t1 t5
  obtain ⟨hg,h⟩:=bif_some h
  simp only [Bool.and_eq_true] at hg
  obtain ⟨q0,q1⟩:=hg
  obtain rfl:=ctsEq_eq _ _ q0
  obtain rfl:=ctsEq_eq _ _ q1
  refine ⟨(((t0.length:Int) - t5:Int).toNat+1),?_⟩
  rw [← h]
  exact loop_run (E13_0 t0 t1) (K13_0 k) (st13_0 t0 t1 ce k) _ t5
 ·cases h
def q13 (a0 a1:List AV):Bool:=(bif !decide ((a0.length:Int)=(a1.length:Int)) then true else (ro (runW (R13_0 a0 a1) (((a0.length:Int) - 0:Int).toNat+1) 0) false (sumE (fun _=>true) (fun _=>true))))
def v13_0 (a0 a1:List AV):Bool:=(bif !decide ((a0.length:Int)=(a1.length:Int)) then false else (ro (runW (R13_0 a0 a1) (((a0.length:Int) - 0:Int).toNat+1) 0) false (sumE (fun _=>true) (fun _=>false))))
theorem e13 (a0 a1:List AV):funA c13 0 13 [AV.sl [.int .i64,.int .i64] a0,AV.sl [.int .i64,.int .i64] a1]=(bif !decide ((a0.length:Int)=(a1.length:Int)) then some (AV.bool false)
 else (ro (runW (R13_0 a0 a1) (((a0.length:Int) - 0:Int).toNat+1) 0) none (sumE (fun _=>some (AV.bool true)) (fun _=>some (AV.bool false))))):=by kernel_rfl
def m13:TModel
 | [.sl g0 a0,.sl g1 a1]=>bif ctsEq g0 ([.int .i64,.int .i64]) && ctsEq g1 ([.int .i64,.int .i64]) then some (q13 a0 a1,AV.bool (v13_0 a0 a1)) else none
 | _=>none
theorem k13:Known Tryz.prog 13:=⟨Tryz.f13,Tryz.func13,by kernel_rfl,by kernel_rfl⟩
theorem meets13:Meets Tryz.prog 13 m13:=by
 refine meet (f:=Tryz.f13) (l:=[(0,sub [1,1,0,1,0,0] (body Tryz.f13))]) (hs:=[(13,0,[0,1,5]),(13,999,[4]),(13,1000,[]),(13,1001,[0,1,5])]) (ts:=[(35,m35)]) (ws:=[]) (is:=[]) (ls:=[(13,0,l13_0)]) (lvl:=0) mixed k13 Tryz.func13 (by kernel_rfl) (loops_cons ok13_0 noLoop) (allT_cons meets35 allT_nil) allM_nil noI fun w xs us r hl hv h=>?_
 unfold m13 at h
 split at h
 ·rename_i g0 a0 g1 a1
  obtain ⟨hg,h⟩:=bif_pair h
  simp only [Bool.and_eq_true] at hg
  obtain ⟨q0,q1⟩:=hg
  obtain rfl:=ctsEq_eq _ _ q0
  obtain rfl:=ctsEq_eq _ _ q1
  obtain ⟨h1,rfl⟩:=pair_inj h
  exact (e13 a0 a1).trans ((br (fun b=>some (AV.bool (bif b then false else (ro (runW (R13_0 a0 a1) (((a0.length:Int) - 0:Int).toNat+1) 0) false (sumE (fun _=>true) (fun _=>false)))))) (fun _=>rfl) (brO (fun o:Option (Unit ⊕ Unit)=>some (AV.bool (ro o false (sumE (fun _=>true) (fun _=>false))))) (brS (fun o:Unit ⊕ Unit=>some (AV.bool ((sumE (fun _=>true) (fun _=>false)) o))) (fun _=>(fun _=>rfl)) (fun _=>(fun _=>rfl))))) h1)
 ·cases h
noncomputable def c3:Cfg:=cfg Tryz.prog [(3,999,[6])] [(7,m7),(8,m8),(9,m9),(10,m10),(11,m11),(12,m12),(13,m13)] [] [] []
def raw3 (a0:List AV) (a1:Int) (a2:List AV):Option AV:=(bif decide ((a0.length:Int) > 1048576) then some (AV.bool true)
 else (bif decide ((v7_0 a2 1048576)<0) then some (AV.bool true)
 else (bif q9 a0 then (bif q10 a2 then (bif q8 (v9_0 a0) a1 (v10_0 a2) then (bif q9 a0 then (bif q10 a2 then (bif q11 (v9_0 a0) a1 (v10_0 a2) then (bif !decide ((v11_0 (v9_0 a0) a1 (v10_0 a2))=(v8_0 (v9_0 a0) a1 (v10_0 a2))) then some (AV.bool false)
 else (bif q9 a0 then (bif q12 (v9_0 a0) (v9_0 a0) then (bif !(v12_0 (v9_0 a0) (v9_0 a0)) then some (AV.bool false)
 else (bif q10 a2 then (bif q13 (v10_0 a2) (v10_0 a2) then (bif !(v13_0 (v10_0 a2) (v10_0 a2)) then some (AV.bool false)
 else some (AV.bool true))
 else none)
 else none))
 else none)
 else none))
 else none)
 else none)
 else none)
 else none)
 else none)
 else none)))
theorem e3 (a0:List AV) (a1:Int) (a2:List AV):funA c3 0 3 [AV.sl [.int .i64] a0,Ai a1,AV.sl [.int .i64,.int .i64] a2]=raw3 a0 a1 a2:=by kernel_rfl
def m3:TModel
 | [.sl g0 a0,.int .i64 a1,.sl g1 a2]=>bif ctsEq g0 ([.int .i64]) && ctsEq g1 ([.int .i64,.int .i64]) then (raw3 a0 a1 a2).map fun r=>(true,r) else none
 | _=>none
theorem k3:Known Tryz.prog 3:=⟨Tryz.f3,Tryz.func3,by kernel_rfl,by kernel_rfl⟩
theorem meets3:Meets Tryz.prog 3 m3:=by
 refine meet (f:=Tryz.f3) (l:=[]) (hs:=[(3,999,[6])]) (ts:=[(7,m7),(8,m8),(9,m9),(10,m10),(11,m11),(12,m12),(13,m13)]) (ws:=[]) (is:=[]) (ls:=[]) (lvl:=0) mixed k3 Tryz.func3 (by kernel_rfl) noLoop (allT_cons meets7 (allT_cons meets8 (allT_cons meets9 (allT_cons meets10 (allT_cons meets11 (allT_cons meets12 (allT_cons meets13 allT_nil))))))) allM_nil noI fun w xs us r hl hv h=>?_
 unfold m3 at h
 split at h
 ·rename_i g0 a0 a1 g1 a2
  obtain ⟨hg,h⟩:=bif_pair h
  simp only [Bool.and_eq_true] at hg
  obtain ⟨q0,q1⟩:=hg
  obtain rfl:=ctsEq_eq _ _ q0
  obtain rfl:=ctsEq_eq _ _ q1
  obtain ⟨r',h1,h2⟩:=Option.map_eq_some_iff.1 h
  obtain ⟨_,rfl⟩:=Prod.mk.inj h2
  exact (e3 a0 a1 a2).trans h1
 ·cases h
end Go.Proofs.YtmcnplggcedihaaGreat
